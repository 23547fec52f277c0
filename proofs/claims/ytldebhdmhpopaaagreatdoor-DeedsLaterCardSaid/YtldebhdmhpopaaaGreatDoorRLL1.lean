/-
  What the last text of this claim leans on: an evaluator over the code, contracts of functions, plain laws. Conditions stand in each statement.
-/
import Derived.Test.YtldebhdmhpopaaaGreatDoorRL13
import Derived.Test.YtldebhdmhpopaaaGreatDoorRL7
import Derived.Test.YtldebhdmhpopaaaGreatDoorRL8
import Derived.Test.YtldebhdmhpopaaaGreatDoorProg
import Derived.KernelRfl
namespace Go.Proofs.YtldebhdmhpopaaaGreatDoor
set_option linter.unusedSimpArgs false
set_option linter.unusedVariables false
open Go.Fw
end Go.Proofs.YtldebhdmhpopaaaGreatDoor
namespace Go.Fw
set_option linter.unusedSimpArgs false
set_option linter.unusedVariables false
theorem w6 {n:Int} (h:-9223372036854775808<=n∧n<=9223372036854775807):w64 n=n:=wr h
theorem or_f {a b:Bool} (h:(a||b)=false):a=false∧b=false:=by simpa using h
def tb (x:Int) (k:Nat):Bool:=x.toNat.testBit k
end Go.Fw
namespace Go.Proofs.YtldebhdmhpopaaaGreatDoor
set_option linter.unusedSimpArgs false
set_option linter.unusedVariables false
open Go.Fw
theorem Qg6 {s:State} (h:QI1 s=0):QB1 s.nodes=0∧Qh0 s.jobs=0:=by
 unfold QI1 at h
 cases h1:(Qv3 s != 0) with
 | true=>rw [h1] at h;cases h
 | false =>
  have hr:Qv3 s=0:=by simpa using h1
  unfold Qv3 at hr
  cases h2:(((((decide (s.now<0))||(decide (s.now > 1000000)))||((QB1 s.nodes)!=0))||((Qh0 s.jobs)!=0))||((Q89 s.books)!=0)) with
  | true=>rw [h2] at hr;cases hr
  | false =>
   obtain ⟨h3,_⟩:=or_f h2
   obtain ⟨h4,h5⟩:=or_f h3
   obtain ⟨_,h6⟩:=or_f h4
   exact ⟨by simpa using h6,by simpa using h5⟩
theorem check_held (s:State) (a b:Int) (c:List (Int × Job)):∀ (l:List Resize) (i:Nat) (c2:List (Int × Resize)),Q74 s a b c l i c2=0 ->
  c.all (fun (en:Int × Job)=>(bif ((Qn3 s.nodes en.1)!=en.2.nodes) then false else true))=true
 | [],i,c2,h=>by
  rw [Q74] at h
  cases h1:((((!true)||(!(QI6 s.nextJob a)))||(!(QI6 s.nextBook b)))||(!(Qr8 s c c2))) with
  | true=>rw [h1] at h;cases h
  | false =>
   rw [h1] at h
   simp only [cond_false] at h
   cases h2:c.all (fun (en:Int × Job)=>(bif ((Qn3 s.nodes en.1)!=en.2.nodes) then false else true)) with
   | true=>rfl
   | false=>rw [h2] at h;cases h
 | x :: r,i,c2,h=>by
  rw [Q74] at h
  cases h1:(((!(getM x.job c).isSome)||((decide ((i:Int) > 0))&&(decide ((s.resizes.getD (Int.toNat (w64 ((i:Int) - 1))) Resize.zero).job >= x.job))))||(!(Qk7 s x ((getM x.job c).getD Job.zero)))) with
  | true=>rw [h1] at h;cases h
  | false =>
   rw [h1] at h
   exact check_held s a b c r (i+1) _ h
theorem setM_mem {α β:Type} [BEq α] [LawfulBEq α] (k:α) (v:β):∀ l:List (α × β),(k,v) ∈ setM k v l
 | []=>by simp [setM]
 | p :: r=>by
  rw [setM]
  cases hk:k==p.1 with
  | true=>simp
  | false=>simp [setM_mem k v r]
theorem setM_keep {α β:Type} [BEq α] [LawfulBEq α] (k k':α) (v v':β) (hne:k ≠ k'):∀ l:List (α × β),(k,v) ∈ l->(k,v) ∈ setM k' v' l
 | [],h=>nomatch h
 | p :: r,h=>by
  rw [setM]
  cases hk:k'==p.1 with
  | true =>
   have e:=eq_of_beq hk
   rcases List.mem_cons.1 h with h|h
   ·exact absurd (by rw [e,← h]) hne
   ·exact List.mem_cons_of_mem _ h
  | false =>
   rcases List.mem_cons.1 h with h|h
   ·rw [← h];exact List.mem_cons_self ..
   ·exact List.mem_cons_of_mem _ (setM_keep k k' v v' hne r h)
theorem QN5 (x:Job):∀ (l:List Job) (i:Nat) (c:List (Int × Job)),((x.id,x) ∈ c∧(∀ y ∈ l,y.id ≠ x.id))∨(x ∈ l∧x.state=2∧l.Pairwise (fun a b=>a.id<b.id))->(x.id,x) ∈ Q64 l i c
 | [],i,c,h=>by
  rcases h with ⟨h,_⟩|⟨h,_⟩
  ·exact h
  ·exact nomatch h
 | y :: r,i,c,h=>by
  rw [Q64]
  rcases h with ⟨h,hn⟩|⟨h,hs,hp⟩
  ·have hy:=hn y (List.mem_cons_self ..)
   cases (y.state==2) with
   | true=>exact QN5 x r (i+1) _ (.inl ⟨setM_keep _ _ _ _ (Ne.symm hy) c h,fun z hz=>hn z (List.mem_cons_of_mem _ hz)⟩)
   | false=>exact QN5 x r (i+1) _ (.inl ⟨h,fun z hz=>hn z (List.mem_cons_of_mem _ hz)⟩)
  ·obtain ⟨h1,h2⟩:=List.pairwise_cons.1 hp
   rcases List.mem_cons.1 h with rfl|h
   ·rw [beq_iff_eq.2 hs]
    exact QN5 x r (i+1) _ (.inl ⟨setM_mem _ _ c,fun z hz=>by have:=h1 z hz;omega⟩)
   ·cases (y.state==2) with
    | true=>exact QN5 x r (i+1) _ (.inr ⟨h,hs,h2⟩)
    | false=>exact QN5 x r (i+1) _ (.inr ⟨h,hs,h2⟩)
theorem table_rows (l:List Job) (hn:l.length<=40):∀ (r:List Job) (i:Nat),r=l.drop i->i+r.length=l.length->Qg3 l r i=0 ->
  (∀ x ∈ r,Qk0 x=0)∧r.Pairwise (fun a b=>a.id<b.id)∧(∀ y,0<i->l[i - 1]? = some y -> ∀ x ∈ r,y.id<x.id)
 | [],i,_,_,_=>⟨fun x hx=>(nomatch hx),.nil,fun _ _ _ x hx=>(nomatch hx)⟩
 | x :: r,i,hr,hlen,h=>by
  simp only [List.length_cons] at hlen
  rw [Qg3] at h
  cases h1:(((Qk0 x)!=0)||((decide ((i:Int) > 0))&&(decide ((l.getD (Int.toNat (w64 ((i:Int) - 1))) Job.zero).id >= x.id)))) with
  | true=>rw [h1] at h;cases h
  | false =>
   rw [h1] at h
   obtain ⟨h2,h3⟩:=or_f h1
   have hx:Qk0 x=0:=by simpa using h2
   have hi:l[i]? = some x:=by
    have:=congrArg (fun q=>q[0]?) hr
    simpa [List.getElem?_drop] using this.symm
   have hr':r=l.drop (i+1):=by rw [← List.drop_drop,← hr];rfl
   obtain ⟨ih1,ih2,ih3⟩:=table_rows l hn r (i+1) hr' (by omega) h
   have hxr:∀ z ∈ r,x.id<z.id:=ih3 x (by omega) hi
   refine ⟨fun z hz=>?_,List.pairwise_cons.2 ⟨hxr,ih2⟩,fun y hi0 hy z hz=>?_⟩
   ·rcases List.mem_cons.1 hz with rfl|hz
    ·exact hx
    ·exact ih1 z hz
   ·have hyx:y.id<x.id:=by
     have hw:w64 ((i:Int) - 1)=(i:Int) - 1:=wr (by omega)
     have ht:Int.toNat ((i:Int) - 1)=i - 1:=by omega
     have hg:l.getD (i - 1) Job.zero=y:=by simp [List.getD,hy]
     rw [hw,ht,hg] at h3
     simp at h3
     omega
    rcases List.mem_cons.1 hz with rfl|hz
    ·exact hyx
    ·exact Int.lt_trans hyx (hxr z hz)
theorem Qmb {j:Job} (h:Qk0 j=0):1<=j.id∧j.id<=99999:=by
 unfold Qk0 at h
 cases h1:((((((decide (j.id<1))||(decide (j.id > 99999)))||(!(QD1 j.born)))||(j.used != (QP3 j.used)))||((Qk4 (Qy0 j))!=0))||(Qt0 j.after (fun (y:Dep)=>(decide (y.job >= j.id))))) with
 | true=>rw [h1] at h;cases h
 | false =>
  obtain ⟨h2,_⟩:=or_f h1
  obtain ⟨h3,_⟩:=or_f h2
  obtain ⟨h4,_⟩:=or_f h3
  obtain ⟨h5,_⟩:=or_f h4
  simp at h5
  omega
theorem Q87 {l:List Job} (h:l.Pairwise (fun a b=>a.id<b.id)):∀ (a b:Nat) (x y:Job),a<b->l[a]? = some x->l[b]? = some y->x.id<y.id:=by
 intro a b x y hab ha hb
 obtain ⟨ha1,rfl⟩:=List.getElem?_eq_some_iff.1 ha
 obtain ⟨hb1,rfl⟩:=List.getElem?_eq_some_iff.1 hb
 exact List.pairwise_iff_getElem.1 h a b ha1 hb1 hab
theorem QA4 {l:List Job} (h:Qh0 l=0):l.length<=40∧(∀ x ∈ l,Qk0 x=0)∧l.Pairwise (fun a b=>a.id<b.id):=by
 unfold Qh0 at h
 cases h1:(decide ((l.length:Int) > 40)) with
 | true=>rw [h1] at h;cases h
 | false =>
  rw [h1] at h
  have h2:=of_decide_eq_false h1
  obtain ⟨a,b,_⟩:=table_rows l (by omega) l 0 (by simp) (by omega) h
  exact ⟨by omega,a,b⟩
section
variable {s:State}
theorem check_parts (h:QY1 s=0):QI1 s=0 ∧ ∀ x ∈ s.jobs,x.state=2->Qn3 s.nodes x.id=x.nodes:=by
 have h0:=h
 unfold QY1 at h
 cases h1:(QI1 s != 0) with
 | true=>rw [h1] at h;cases h
 | false =>
  rw [h1] at h
  have hp:QI1 s=0:=by simpa using h1
  refine ⟨hp,fun x hx hs=>?_⟩
  obtain ⟨_,_,ho⟩:=QA4 (Qg6 hp).2
  have hall:=check_held s _ _ _ _ _ _ h
  have hm:=QN5 x s.jobs 0 [] (.inr ⟨hx,hs,ho⟩)
  have:=List.all_eq_true.1 hall _ hm
  simp only at this
  cases hq:(Qn3 s.nodes x.id != x.nodes) with
  | false=>simpa using hq
  | true=>rw [hq] at this;cases this
end
theorem QTa (l:List Job) (id:Int) (hn:l.length<=40) (hid:1<=id∧id<=99999) (hb:∀ y ∈ l,1<=y.id∧y.id<=99999) (hs:∀ (a b:Nat) (x y:Job),a<b->l[a]? = some x->l[b]? = some y->x.id<y.id) (p:Nat) (x:Job) (hp:l[p]? = some x) (hx:x.id=id) :
  ∀ (m:Nat) (i j:Int),Int.toNat (j - i)<m->0<=i->i<=(p:Int)->(p:Int)<=j->j<=(l.length:Int)->(∀ k:Nat,j<=(k:Int) -> ∀ y,l[k]? = some y->id<=y.id) ->
   (Qx0 l id (fun (y:Job) (y1:Int)=>(w64 (y.id - y1))) m i j).1=(p:Int)
 | 0,i,j,hm,_,_,_,_,_=>absurd hm (by omega)
 | m+1,i,j,hm,h0,h1,h2,h3,h4=>by
  have hpl:p<l.length:=(List.getElem?_eq_some_iff.1 hp).1
  rw [Qx0]
  cases hd:decide (i<j) with
  | false =>
   have:=of_decide_eq_false hd
   show i=(p:Int)
   omega
  | true =>
   have hlt:=of_decide_eq_true hd
   rw [QY9 h0 hlt h3 (by omega)]
   simp only [cond_true]
   obtain ⟨q,hq⟩:∃ q:Nat,(i+j) / 2=(q:Int):=⟨((i+j) / 2).toNat,by omega⟩
   rw [hq]
   have hql:q<l.length:=by omega
   have hy:l[q]? = some l[q]:=List.getElem?_eq_getElem hql
   have hyd:l.getD (Int.toNat (q:Int)) Job.zero=l[q]:=by simp [List.getD,hy]
   have hyb:=hb l[q] (List.getElem_mem hql)
   rw [hyd]
   have hw:w64 ((l[q]).id - id)=(l[q]).id - id:=wr (by omega)
   rw [hw]
   cases hc:decide ((l[q]).id - id<0) with
   | true =>
    have hc':=of_decide_eq_true hc
    have hw2:w64 ((q:Int)+1)=(q:Int)+1:=wr (by omega)
    simp only [cond_true]
    rw [hw2]
    refine QTa l id hn hid hb hs p x hp hx m _ _ (by omega) (by omega) ?_ h2 h3 h4
    rcases Nat.lt_or_ge q p with h|h
    ·omega
    ·rcases Nat.eq_or_lt_of_le h with h|h
     ·subst h
      rw [hy] at hp
      cases hp
      omega
     ·have:=hs p q x _ h hp hy
      omega
   | false =>
    have hc':=of_decide_eq_false hc
    simp only [cond_false]
    refine QTa l id hn hid hb hs p x hp hx m _ _ (by omega) h0 h1 ?_ (by omega) ?_
    ·rcases Nat.lt_or_ge q p with h|h
     ·have:=hs q p _ x h hy hp
      omega
     ·omega
    ·intro k hk y hky
     rcases Nat.eq_or_lt_of_le (show q<=k by omega) with h|h
     ·subst h
      rw [hy] at hky
      cases hky
      omega
     ·have:=hs q k _ y h hy hky
      omega
theorem Q0b {l:List Job} (h:Qh0 l=0) {p:Nat} {x:Job} (hp:l[p]? = some x):Qc0 l x.id=(x,true):=by
 obtain ⟨hn,hj,hs⟩:=QA4 h
 have hb:∀ y ∈ l,1<=y.id∧y.id<=99999:=fun y hy=>Qmb (hj y hy)
 have hx:=hb x (List.mem_of_getElem? hp)
 have hpl:p<l.length:=(List.getElem?_eq_some_iff.1 hp).1
 have hpi:(Qm0 l x.id).1=(p:Int) :=
  QTa l x.id hn hx hb (Q87 hs) p x hp rfl _ 0 (l.length:Int) (by omega) (by omega) (by omega) (by omega) (by omega) (fun k hk y hy=>absurd (List.getElem?_eq_some_iff.1 hy).1 (by omega))
 have hp2:(Qm0 l x.id).2=true:=by
  have e:(Qm0 l x.id).2=((decide ((Qm0 l x.id).1<(l.length:Int)))&&((w64 ((l.getD (Int.toNat (Qm0 l x.id).1) Job.zero).id - x.id))==0)):=rfl
  rw [e,hpi,Int.toNat_natCast]
  have hg:l.getD p Job.zero=x:=by simp [List.getD,hp]
  rw [hg,Int.sub_self]
  have h1:decide ((p:Int)<(l.length:Int))=true:=decide_eq_true (by omega)
  rw [h1]
  rfl
 unfold Qc0
 rw [h,hp2,hpi]
 have hk:Qh3 x.id=true:=by unfold Qh3;simp;omega
 rw [hk]
 have hw:w64 ((p:Int)+1)=(p:Int)+1:=wr (by omega)
 have ht:Int.toNat ((p:Int)+1)=p+1:=by omega
 rw [hw,ht,Int.toNat_natCast]
 show ((List.drop p (List.take (p+1) l)).getD 0 Job.zero,true)=(x,true)
 have:(List.drop p (List.take (p+1) l)).getD 0 Job.zero=x:=by
  simp [List.getD,List.getElem?_drop,List.getElem?_take,hp]
 rw [this]
section
variable {s:State}
end
end Go.Proofs.YtldebhdmhpopaaaGreatDoor
namespace Go.Proofs.YtldebhdmhpopaaaGreatDoor
set_option linter.unusedSimpArgs false
set_option linter.unusedVariables false
open Go.Fw Go.RowKit
set_option maxRecDepth 20000
set_option maxHeartbeats 4000000
attribute [local irreducible] ACalls AMoves
def Q42 (s:State):List Job:=((QB0 s.jobs s.ledger (Qf0 s.jobs)).map fun id=>(Qc0 s.jobs id).1).filter fun j=>j.promise==(-1)
def openN (s:State) (i:Nat):Nat:=((((QB0 s.jobs s.ledger (Qf0 s.jobs)).take i).map fun id=>(Qc0 s.jobs id).1).filter fun j=>j.promise==(-1)).length
theorem openN_succ (s:State) (i:Nat) (h:i<(QB0 s.jobs s.ledger (Qf0 s.jobs)).length) :
  openN s (i+1)=openN s i+(bif ((Qc0 s.jobs ((QB0 s.jobs s.ledger (Qf0 s.jobs)).getD i 0)).1.promise==(-1)) then 1 else 0) ∧
  (((Qc0 s.jobs ((QB0 s.jobs s.ledger (Qf0 s.jobs)).getD i 0)).1.promise==(-1))=true->((Q42 s).map Job.a)[openN s i]? = some (Job.a (Qc0 s.jobs ((QB0 s.jobs s.ledger (Qf0 s.jobs)).getD i 0)).1)):=by
 unfold openN Q42
 generalize QB0 s.jobs s.ledger (Qf0 s.jobs)=l at h ⊢
 have hg:l.getD i 0=l[i]:=by simp [List.getD_eq_getElem?_getD,h]
 rw [hg,List.take_add_one,List.getElem?_eq_getElem h]
 have e:l=l.take i++l[i] :: l.drop (i+1):=by rw [List.getElem_cons_drop,List.take_append_drop]
 constructor
 ·rw [List.map_append,List.filter_append,List.length_append]
  congr 1
  simp only [Option.toList_some,List.map_cons,List.map_nil,List.filter_cons,List.filter_nil]
  cases hp:((Qc0 s.jobs l[i]).1.promise==(-1)) <;> rfl
 ·intro hp
  have:((l.map fun id=>(Qc0 s.jobs id).1).filter fun j=>j.promise==(-1))=(((l.take i).map fun id=>(Qc0 s.jobs id).1).filter fun j=>j.promise==(-1))++(Qc0 s.jobs l[i]).1 :: (((l.drop (i+1)).map fun id=>(Qc0 s.jobs id).1).filter fun j=>j.promise==(-1)):=by
   conv=>lhs;rw [e]
   rw [List.map_append,List.filter_append,List.map_cons,List.filter_cons,hp,if_pos rfl]
  rw [this,List.map_append,List.getElem?_append_right (by simp)]
  simp
theorem openN_all (s:State):openN s (QB0 s.jobs s.ledger (Qf0 s.jobs)).length=((Q42 s).map Job.a).length:=by
 unfold openN Q42
 rw [List.take_length,List.length_map]
theorem weaker_take {nt n0:Nat} {s s':List (Nat × AVal)} {o:Objs} (n:Nat) (hn0:n0<=n) (hn:n<=o.length) (hl:∀ i p,o[i]? = some p->i<n->Qca n p.2) (hs:SubS n s s'):Weaker nt n0 ⟨s,o⟩ ⟨s',o.take n⟩:=by
 intro K0 K a w h0 hle hsat
 refine ⟨K.cut n,⟨hle.M,hle.ρ,hle.C,by show K0.n<=n;omega,hle.vs,hle.w0,hle.B,hle.M0⟩,hsat.mem.cut hn hl,fun t=>?_,hsat.size,hsat.defers⟩
 show Rep (K.cut n) (Q11 s' t) _
 rcases hs.get t with h|⟨h,hlow⟩
 ·rw [h];exact .any _
 ·rw [h];exact Rep.low (K:=K) (L:=K.cut n) (n:=n) (fun _ _ _ h=>h) (Nat.le_refl _) (fun _ _ _=>rfl) (fun _ _ _=>rfl) (fun _ _=>rfl) (hsat.slot t) hlow
def QM8 (s:State) (x:List Step × List Job × List Int):Objs :=
 [(0,.row 92 1 [[stepL x.1]]),(0,.row 23 1 [[.own 6 0 20 0 x.2.1.length]]),(0,.row 35 1 [[.own 7 0 1 0 x.2.2.length]]),
  (0,.row 192 1 [[.fn (.func 135) [] [.ptr 0 0 1 0 0,.ptr 1 0 1 0 0,.ptr 2 0 1 0 0]]]),
  (0,.row 28 8 [[I s.now,nodeL s.nodes,jobL s.jobs,Qq1 s.resizes,bookL s.books,Qt1 s.ledger,I s.nextJob,I s.nextBook]]),
  (0,.row 28 8 [[I s.now,nodeL s.nodes,jobL s.jobs,Qq1 s.resizes,bookL s.books,Qt1 s.ledger,I s.nextJob,I s.nextBook]]),
  (0,.row 52 20 (x.2.1.map Job.cells)),(0,.row 3 1 (x.2.2.map (fun q_=>[I q_])))]
theorem freshO_low (s:State) (x:List Step × List Job × List Int):∀ p ∈ QM8 s x,Qca 8 p.2:=by
 intro p hp
 simp only [QM8,List.mem_cons,List.not_mem_nil,or_false] at hp
 rcases hp with rfl|rfl|rfl|rfl|rfl|rfl|rfl|rfl
 ·intro e he;rw [List.mem_singleton.1 he];exact .cons lw .nil
 ·intro e he;rw [List.mem_singleton.1 he];exact .cons (.own _ _ _ _ _ (by decide)) .nil
 ·intro e he;rw [List.mem_singleton.1 he];exact .cons (.own _ _ _ _ _ (by decide)) .nil
 ·intro e he;rw [List.mem_singleton.1 he];exact .cons (.fn _ _ _ (by simp) (by simp only [List.forall_mem_cons,List.not_mem_nil,false_implies,implies_true,and_true];exact ⟨.ptr _ _ _ _ _ (by decide),.ptr _ _ _ _ _ (by decide),.ptr _ _ _ _ _ (by decide)⟩)) .nil
 ·intro e he;rw [List.mem_singleton.1 he];exact State.lo
 ·intro e he;rw [List.mem_singleton.1 he];exact State.lo
 ·exact QQ6 fun _=>Job.lowc _ _
 ·exact lm
theorem open1_c (s:State) (hs0:s.sz) (st:Nat->List Step × List Job × List Int):IterC Tryz.prog 198 [.ptr 5 0 8 0 0] 6 ((Q42 s).map Job.a) (fun k=>QM8 s (st k)):=by
 refine IterC.of_cwpY (kp 7 [14,15,16,17,35]) (fun id=>Nat.beq id 4) Tryz.func198 rfl rfl (fun k=>by simp [QM8]) (fun k=>freshO_low s (st k)) (fun k x hx=>by obtain ⟨j,_,rfl⟩:=List.mem_map.1 hx;exact Job.low _ _) ?_
 intro l
 have hs:=hs0
 obtain ⟨z1,z2,z3,z4,z5,z6,z7⟩:=hs0
 have hel:=QF7 s.jobs
 have hsl:=Qu5 s.jobs s.ledger (Qf0 s.jobs)
 conv=>whnf
 refine dchk (by kernel_rfl) ?_
 (first|apply u2|apply u3|apply u4|apply us)
 exact Qi5 s.jobs szA _
 (first|apply u2|apply u3|apply u4|apply us)
 exact Qy6 s.jobs s.ledger (Qf0 s.jobs) szA szA (by omega) _
 (repeat (first|refine ai rfl ?_|refine ai (fun _=>rfl) ?_|refine ai (fun _=>Qi5 s.jobs szA _) ?_|refine ai (fun _=>Qy6 s.jobs s.ledger (Qf0 s.jobs) szA szA (by omega) _) ?_))
 refine Qs0 (fun i:Nat=>i<=(QB0 s.jobs s.ledger (Qf0 s.jobs)).length) (fun i=>(QB0 s.jobs s.ledger (Qf0 s.jobs)).length - i) (fun i=>[(0,.lit (.func (.yield l) #[] #[])),(1,.ptr 5 0 8 0 0),(14,ints (QB0 s.jobs s.ledger (Qf0 s.jobs))),(15,I ((QB0 s.jobs s.ledger (Qf0 s.jobs)).length:Int)),(16,I (i:Int))]) (fun i=>QM8 s (st (openN s i))) 0 (QJd ?_) (Nat.zero_le _) ?_
 ·repeat (first|exact .nil|refine .cons _ _ _ rfl ?_|(refine .cons _ _ _ (I_eq ?_) ?_;rotate_left))
 rintro i hi
 conv=>whnf
 refine ai (fun h1=>?_) (fun h2=>?_)
 ·have hlt:i<(QB0 s.jobs s.ledger (Qf0 s.jobs)).length:=by have:=of_decide_eq_true h1;omega
  obtain ⟨e1,e2⟩:=openN_succ s i hlt
  refine ai gkA ?_
  refine us (QA3 s.jobs ((QB0 s.jobs s.ledger (Qf0 s.jobs)).getD i 0) szA _) ?_
  conv=>whnf
  refine ⟨rfl,?_⟩
  conv=>whnf
  refine ⟨rfl,fun t=>!(Nat.beq t 5||Nat.beq t 27),bif ((Qc0 s.jobs ((QB0 s.jobs s.ledger (Qf0 s.jobs)).getD i 0)).1.promise==(-1)) then QM8 s (st (openN s i+1)) else QM8 s (st (openN s i))++[(0,.row 52 20 [Job.cells (Qc0 s.jobs ((QB0 s.jobs s.ledger (Qf0 s.jobs)).getD i 0)).1])],fun h=>⟨openN s i,[(0,.row 52 20 [Job.cells (Qc0 s.jobs ((QB0 s.jobs s.ledger (Qf0 s.jobs)).getD i 0)).1])],e2 h,rfl,ct h rfl⟩,fun h=>cf h rfl,?_,?_⟩
  ·refine lowR_of ?_ ?_
   ·repeat (first|exact fun _ h=>absurd h List.not_mem_nil|refine List.forall_mem_cons.2 ⟨by first|exact .lit _|exact .any|exact .ptr _ _ _ _ _ (by decide)|exact (show Low _ (ints _) from lw),?_⟩)
   ·repeat (first|exact fun _ h=>absurd h List.not_mem_nil|refine List.forall_mem_cons.2 ⟨by first|exact .lit _|exact .any|exact Job.low _ _,?_⟩)
  conv=>whnf
  refine ai (fun h3=>absurd h3 (by simp)) (fun _=>?_)
  conv=>whnf
  refine Qz0 (i+1) ?_ (by omega) (by omega)
  rw [e1]
  cases hp:((Qc0 s.jobs ((QB0 s.jobs s.ledger (Qf0 s.jobs)).getD i 0)).1.promise==(-1)) with
  | true =>
   simp only [cond_true]
   refine QJd ?_
   repeat (first|exact .nil|refine .cons _ _ _ rfl ?_|(refine .cons _ _ _ (I_eq ?_) ?_;rotate_left))
   all_goals exact wr (by omega)
  | false =>
   simp only [cond_false]
   refine weaker_take (n0:=6) 8 (by decide) (by simp [QM8]) (fun k p hp hk=>freshO_low s (st (openN s i)) p (by rw [List.getElem?_append_left (by simpa [QM8] using hk)] at hp;exact List.mem_of_getElem? hp)) ?_
   repeat (first|exact .nil|refine .cons _ _ _ rfl (by first|exact .lit _|exact .ptr _ _ _ _ _ (by decide)|exact lw) ?_|refine .cons _ _ _ (I_eq (wr (by omega))) (.lit _) ?_)
 ·have hil:(QB0 s.jobs s.ledger (Qf0 s.jobs)).length=i:=by have:=of_decide_eq_false h2;omega
  conv=>whnf
  refine ⟨_,_,QHd,?_⟩
  rw [← openN_all,hil]
theorem insR_mem (x:Ranked):∀ (o:List Ranked) (y:Ranked),y ∈ insR x o->y=x∨y ∈ o
 | [],y,h=>.inl (by simpa [insR] using h)
 | z :: r,y,h=>by
  rw [insR] at h
  cases ha:aheadR z x with
  | false =>
   rw [ha] at h
   exact List.mem_cons.1 h
  | true =>
   rw [ha] at h
   rcases List.mem_cons.1 h with rfl|h
   ·exact .inr (List.mem_cons_self ..)
   ·exact (insR_mem x r y h).imp id (List.mem_cons_of_mem _)
theorem rank_mem:∀ (l o:List Ranked) (y:Ranked),y ∈ l.foldl (fun o x=>insR x o) o->y ∈ l∨y ∈ o
 | [],_,_,h=>.inr h
 | x :: r,o,y,h=>by
  rw [List.foldl_cons] at h
  rcases rank_mem r _ y h with h|h
  ·exact .inl (List.mem_cons_of_mem _ h)
  ·rcases insR_mem x o y h with rfl|h
   ·exact .inl (List.mem_cons_self ..)
   ·exact .inr h
theorem Qsd (l:List Usage) (ids:List Int):∀ (js:List Job) (r_:List Ranked) (i:Nat) (c:List (ByteArray × Int)),∀ y ∈ (QH1 l ids js r_ i c).1,y ∈ r_ ∨ ∃ x ∈ js,y.what=x.id
 | [],_,_,_,y,h=>.inl h
 | x :: r,r_,i,c,y,h=>by
  rw [QH1] at h
  have k:=fun r_' c' h=>Qsd l ids r r_' (i+1) c' y h
  cases h1:(!(QE0 ids x.id)) with
  | true =>
   rw [h1] at h
   exact (k _ _ h).imp id fun ⟨z,hz,e⟩=>⟨z,List.mem_cons_of_mem _ hz,e⟩
  | false =>
   rw [h1] at h
   simp only [cond_false] at h
   have hb:y ∈ r_ ∨ ∃ z ∈ x :: r,y.what=z.id:=by
    cases h2:(!(getM x.user c).isSome) with
    | true =>
     rw [h2] at h
     rcases k _ _ h with h|⟨z,hz,e⟩
     ·rcases List.mem_append.1 h with h|h
      ·exact .inl h
      ·exact .inr ⟨x,List.mem_cons_self ..,by rw [List.mem_singleton.1 h]⟩
     ·exact .inr ⟨z,List.mem_cons_of_mem _ hz,e⟩
    | false =>
     rw [h2] at h
     rcases k _ _ h with h|⟨z,hz,e⟩
     ·rcases List.mem_append.1 h with h|h
      ·exact .inl h
      ·exact .inr ⟨x,List.mem_cons_self ..,by rw [List.mem_singleton.1 h]⟩
     ·exact .inr ⟨z,List.mem_cons_of_mem _ hz,e⟩
   exact hb
theorem Qtd (R:List Ranked):∀ (q:List Ranked) (out:List Int) (i:Nat),i+q.length=(Ql3 R).length -> ∀ y ∈ QM2 R q out i,y ∈ out ∨ ∃ z ∈ Ql3 R,y=z.what
 | [],_,_,_,y,h=>.inl h
 | x :: r,out,i,hl,y,h=>by
  rw [QM2] at h
  simp only [List.length_cons] at hl
  rcases Qtd R r _ (i+1) (by omega) y h with h|h
  ·rcases List.mem_append.1 h with h|h
   ·exact .inl h
   ·refine .inr ⟨_,?_,List.mem_singleton.1 h⟩
    rw [List.getD_eq_getElem?_getD,List.getElem?_eq_getElem (by omega)]
    exact List.getElem_mem _
  ·exact .inr h
theorem order_in {jobs:List Job} {l:List Usage} {ids:List Int} {x:Int} (h:x ∈ QB0 jobs l ids):Qh0 jobs=0 ∧ ∃ j ∈ jobs,j.id=x:=by
 unfold QB0 at h
 cases ht:((Qh0 jobs)!=0) with
 | true=>rw [ht] at h;exact absurd h List.not_mem_nil
 | false =>
  rw [ht] at h
  refine ⟨by simpa using ht,?_⟩
  rcases Qtd _ _ _ 0 (by simp) x h with h|⟨z,hz,e⟩
  ·exact absurd h List.not_mem_nil
  ·rcases rank_mem _ _ z hz with h|h
   ·rcases Qsd l ids jobs [] 0 [] z h with h|⟨j,hj,e2⟩
    ·exact absurd h List.not_mem_nil
    ·exact ⟨j,hj,by rw [e,e2]⟩
   ·exact absurd h List.not_mem_nil
theorem open_in {s:State} {j:Job} (h:j ∈ Q42 s):j ∈ s.jobs:=by
 obtain ⟨h1,_⟩:=List.mem_filter.1 h
 obtain ⟨id,hid,e⟩:=List.mem_map.1 h1
 obtain ⟨ht,x,hx,ex⟩:=order_in hid
 obtain ⟨p,hp⟩:=List.getElem?_of_mem hx
 rw [← ex,Q0b ht hp] at e
 exact e ▸ hx
theorem open_len (s:State):(Q42 s).length<=s.jobs.length:=by
 have h:=Qu5 s.jobs s.ledger (Qf0 s.jobs)
 have:=List.length_filter_le (fun j:Job=>j.promise==(-1)) ((QB0 s.jobs s.ledger (Qf0 s.jobs)).map fun id=>(Qc0 s.jobs id).1)
 rw [List.length_map] at this
 unfold Q42
 omega
def Qs4 (s:State) (st:List Step × List Job × List Int) (j:Job):List Step × List Job × List Int :=
 bif (Qk2 st.1 (Qe0 j.shape) s.now 1000000 12).2.2 then Ql2 j (Qk2 st.1 (Qe0 j.shape) s.now 1000000 12).1 (Qk2 st.1 (Qe0 j.shape) s.now 1000000 12).2.1 st.1 st.2.1 st.2.2 else st
def QE1 (s:State):List Job × List Int :=
 bif ((QI1 s)!=0) then (s.jobs,[]) else ((Q42 s).foldl (Qs4 s) (QS2 s [],s.jobs,[])).2
def Qyc (s:State) (st:List Step × List Job × List Int):Prop:=st.1.length<=4294967296∧st.2.1.map (·.id)=s.jobs.map (·.id)∧(∀ y ∈ st.2.1,y.sz)
theorem set_id {l:List Job} {i:Nat} {p:Job} (h:∀ x,l[i]? = some x->x.id=p.id):(l.set i p).map (·.id)=l.map (·.id):=by
 rw [List.map_set]
 refine List.ext_getElem? fun k=>?_
 rw [List.getElem?_set,List.getElem?_map]
 by_cases hk:i=k
 ·subst hk
  rw [if_pos rfl]
  by_cases hl:i<l.length
  ·rw [if_pos (by simpa using hl),List.getElem?_eq_getElem hl]
   simp only [Option.map_some]
   rw [h _ (List.getElem?_eq_getElem hl)]
  ·rw [if_neg (by simpa using hl),List.getElem?_eq_none (by omega)]
   rfl
 ·rw [if_neg hk]
theorem g2_found (j:Job) (jobs:List Job) (ids:List Int) (pr:Job × Int) (c:List Step):∀ (l:List Job) (i:Nat),jobs.drop i=l->(∃ x ∈ l,x.id=j.id) ->
  ∃ k x,QM3 j jobs ids pr c l i=(c,jobs.set k pr.1,ids++[j.id])∧jobs[k]? = some x∧x.id=j.id
 | [],_,_,⟨_,h,_⟩=>absurd h List.not_mem_nil
 | y :: r,i,hd,⟨x,hx,e⟩=>by
  have hg:jobs[i]? = some y:=by have:=congrArg (·[0]?) hd;simpa using this
  have hr:jobs.drop (i+1)=r:=by rw [← List.drop_drop,hd];rfl
  have hy:jobs.getD i Job.zero=y:=by rw [List.getD_eq_getElem?_getD,hg];rfl
  rw [QM3,hy]
  cases h:(y.id==j.id) with
  | true=>exact ⟨i,y,rfl,hg,by simpa using h⟩
  | false =>
   have hx':x ∈ r:=(List.mem_cons.1 hx).resolve_left fun e2=>by rw [e2] at e;rw [e,beq_self_eq_true] at h;cases h
   exact g2_found j jobs ids pr c r (i+1) hr ⟨x,hx',e⟩
theorem index_pre {s:State} {st:List Step × List Job × List Int} (h:Qyc s st) {j:Job} (hj:j ∈ s.jobs):∃ x ∈ st.2.1,x.id=j.id:=by
 have hm:j.id ∈ st.2.1.map (·.id):=by rw [h.2.1];exact List.mem_map.2 ⟨j,hj,rfl⟩
 exact List.mem_map.1 hm
theorem k1_found {s:State} {st:List Step × List Job × List Int} (h:Qyc s st) {j:Job} (hj:j ∈ s.jobs) (pr:Job × Int) (c:List Step) :
  ∃ k x,Qc2 j st.2.1 st.2.2 pr c=(c,st.2.1.set k pr.1,st.2.2++[j.id])∧st.2.1[k]? = some x∧x.id=j.id :=
 g2_found j st.2.1 st.2.2 pr c st.2.1 0 rfl (index_pre h hj)
theorem promise_id {j:Job} {a c:Int} (h:((Q21 j a c).2 != 0)=false):(Q21 j a c).1.id=j.id:=by
 unfold Q21 at h ⊢
 cases h1:((Qk0 j)!=0) with
 | true=>rw [h1] at h;simp only [cond_true] at h;rw [h1] at h;cases h
 | false =>
  rw [h1] at h
  simp only [cond_false] at h ⊢
  cases h2:((j.state != 1)||j.held) with
  | true=>rw [h2] at h;cases h
  | false =>
   rw [h2] at h
   simp only [cond_false] at h ⊢
   cases h3:((!(QI0 j c).2)||(!(QD1 a))) with
   | true=>rw [h3] at h;cases h
   | false=>rfl
theorem fresh_step {s:State} {st:List Step × List Job × List Int} (h:Qyc s st) {j:Job} (hj:j ∈ s.jobs) (hz:j.sz):Qyc s (Qs4 s st j)∧(Qs4 s st j).2.2.length<=st.2.2.length+1:=by
 unfold Qs4
 generalize Qk2 st.1 (Qe0 j.shape) s.now 1000000 12=B
 cases B.2.2 with
 | false=>exact ⟨h,Nat.le_succ _⟩
 | true =>
  simp only [cond_true]
  unfold Ql2
  simp only
  cases hp:((Q21 j B.2.1 B.1).2 != 0) with
  | true=>exact ⟨h,Nat.le_succ _⟩
  | false =>
   simp only [cond_false]
   have hk:∀ c:List Step,c.length<=4294967296->Qyc s (Qc2 j st.2.1 st.2.2 (Q21 j B.2.1 B.1) c)∧(Qc2 j st.2.1 st.2.2 (Q21 j B.2.1 B.1) c).2.2.length<=st.2.2.length+1:=by
    intro c hc
    obtain ⟨k,x,e1,e2,e3⟩:=k1_found h hj (Q21 j B.2.1 B.1) c
    rw [e1]
    refine ⟨⟨hc,?_,fun y hy=>(List.mem_or_eq_of_mem_set hy).elim (h.2.2 y) fun e=>e ▸ QR5 _ _ hz⟩,by simp⟩
    exact (set_id fun z hz'=>by rw [e2] at hz';rw [promise_id hp,← Option.some.inj hz',e3]).trans h.2.1
   cases ((Qm5 st.1 (QT0 (Q21 j B.2.1 B.1).1).1 (QT0 (Q21 j B.2.1 B.1).1).2.1 (QT0 (Q21 j B.2.1 B.1).1).2.2.1).2==0) with
   | true=>exact hk _ (QFb _ _ _ h.1)
   | false=>exact hk _ h.1
def Q47 (s:State) (k:Nat):List Step × List Job × List Int:=((Q42 s).take k).foldl (Qs4 s) (QS2 s [],s.jobs,[])
theorem Q1d {s:State} {k:Nat} {j:Job} (h:(Q42 s)[k]? = some j):Q47 s (k+1)=Qs4 s (Q47 s k) j:=by
 unfold Q47
 rw [List.take_add_one,h,List.foldl_append]
 rfl
theorem Qqa {s:State} (hz:s.sz):∀ k,k<=(Q42 s).length->Qyc s (Q47 s k)∧(Q47 s k).2.2.length<=k
 | 0,_=>⟨⟨QQa _ _,rfl,hz.2.2.1⟩,Nat.le_refl _⟩
 | k+1,hk=>by
  obtain ⟨h1,h2⟩:=Qqa hz k (by omega)
  have hj:(Q42 s)[k]? = some ((Q42 s)[k]'(by omega)):=List.getElem?_eq_getElem (by omega)
  have hm:=open_in (List.mem_of_getElem? hj)
  rw [Q1d hj]
  obtain ⟨g1,g2⟩:=fresh_step h1 hm (hz.2.2.1 _ hm)
  exact ⟨g1,by omega⟩
theorem freshI_len {s:State} {st:List Step × List Job × List Int} (h:Qyc s st):st.2.1.length=s.jobs.length:=by
 have:=congrArg List.length h.2.1
 simpa using this
theorem Qw6 {s:State} (hz:s.sz):(QE1 s).1.length=s.jobs.length∧(∀ y ∈ (QE1 s).1,y.sz)∧(QE1 s).2.length<=s.jobs.length:=by
 unfold QE1
 cases ((QI1 s)!=0) with
 | true=>exact ⟨rfl,hz.2.2.1,Nat.zero_le _⟩
 | false =>
  obtain ⟨h1,h2⟩:=Qqa hz (Q42 s).length (Nat.le_refl _)
  have e:Q47 s (Q42 s).length=(Q42 s).foldl (Qs4 s) (QS2 s [],s.jobs,[]):=by unfold Q47;rw [List.take_length]
  rw [e] at h1 h2
  have:=open_len s
  exact ⟨freshI_len h1,h1.2.2,by show _<=_;simp only [cond_false];omega⟩
theorem QWb (s:State) (hs0:s.sz):∀ objs,AGives Tryz.prog 80 [State.a s] objs (AVal.tup [jobL (QE1 s).1,ints (QE1 s).2]):=by
 generalize hR:QE1 s=R
 refine ga (.cons (State.low _ _) .nil) (Low.tup' (.cons lw (.cons lw .nil))) (kp 12 [14,25,38]) Tryz.func80 ?_
 have hs:=hs0
 obtain ⟨z1,z2,z3,z4,z5,z6,z7⟩:=hs0
 refine us (Q66 s szA _) ?_
 refine ai (fun h1=>?_) (fun h2=>?_)
 ·refine us (plan_copied_c s.jobs szA _) ?_
  obtain rfl:=foll hR (ct h1 rfl)
  exact Q10 (Low.tup' (.cons lw (.cons lw .nil))) (Seen.tup (e1 (ev Q50 .nil)))
 ·refine us (AGives.as2 (QCd s [] szA szA _) (a1 (av Qm6 .nil))) ?_
  refine us (mv [] (Qg8 s.jobs szA) .nil (dl lw .nil) (rO rr .nil) (rw_ 2 0 rfl)) ?_
  refine us (r:=.fn (.func 198) [] [.ptr 6 0 8 0 0]) (o:=[(0,.row 28 8 [[I s.now,nodeL s.nodes,jobL s.jobs,Qq1 s.resizes,bookL s.books,Qt1 s.ledger,I s.nextJob,I s.nextBook]]),(0,.row 92 1 [[stepL (QS2 s [])]]),(0,.row 52 20 (s.jobs.map Job.cells)),(0,.row 23 1 [[.own 2 0 20 0 s.jobs.length]]),(0,.row 35 1 [[.lit (.slice none 0 0)]]),(0,.row 192 1 [[.fn (.func 135) [] [.ptr 1 0 1 0 0,.ptr 3 0 1 0 0,.ptr 4 0 1 0 0]]]),(0,.row 28 8 [[I s.now,nodeL s.nodes,jobL s.jobs,Qq1 s.resizes,bookL s.books,Qt1 s.ledger,I s.nextJob,I s.nextBook]])]) (ACalls.of_cwp (fun _=>true) Tryz.func137 rfl rfl ?_) ?_
  ·exact ⟨_,_,QHd,rfl,rfl⟩
  have hol:=open_len s
  refine range_nextC (fun _=>true) [.ptr 5 0 8 0 0] ((Q42 s).map Job.a) (fun k=>QM8 s (Q47 s k)) 6
   [(1,.ptr 4 0 8 0 0),(2,.lit (.slice none 0 0)),(3,.lit (.slice none 0 0)),(4,.ptr 0 0 1 0 0),(5,.ptr 1 0 1 0 0),(6,.ptr 2 0 1 0 0),(7,.ptr 3 0 1 0 0),(25,.fn (.func 198) [] [.ptr 5 0 8 0 0])] ?_ rfl ?_ (by decide) rfl ?_ rfl ?_ (open1_c s hs (Q47 s)) (fun _=>rfl) rfl rfl ?_ ?_
  ·exact (Qo1 3 1).trans (wk [1,3,4,5,0,6,2,7] (tO rfl (ts (lv lw LowL.nil)) (tO rfl (Q90 (cv (to 6 lnA) .nil)) (tO rfl (Q90 (cv (Q51 7 rfl) .nil)) (tO rfl (Q90 (cv (Qu0 .nil (cv (Q00 0 rfl rfl) (cv (Q00 1 rfl rfl) (cv (Q00 2 rfl rfl) .nil)))) .nil)) (tO rfl (ts State.lo) (tO rfl (ts State.lo) (tO rfl (tl eqA) (tO rfl (tl eqA) .nil))))))))
    (sv (Q00 4 rfl rfl) (s1 (s1 (sv (Q00 0 rfl rfl) (sv (Q00 1 rfl rfl) (sv (Q00 2 rfl rfl) (sv (Q00 3 rfl rfl) (sv (Qu0 .nil (cv (Q00 5 rfl rfl) .nil)) .nil)))))))))
  ·intro k _
   simp [QM8]
  ·intro t
   refine (lowR_of (rs:=⟨[],[],[]⟩) ?_ (by simp)).slots t
   repeat (first|exact fun _ h=>absurd h List.not_mem_nil|refine List.forall_mem_cons.2 ⟨by first|exact .lit _|exact .ptr _ _ _ _ _ (by decide)|exact .fn _ _ _ (fun _ h=>absurd h List.not_mem_nil) (fun x hx=>by rw [List.mem_singleton.1 hx];exact .ptr _ _ _ _ _ (by decide)),?_⟩)
  ·intro args w
   simp [go_sem]
  ·intro k x hx
   obtain ⟨j,hj,rfl⟩:∃ j,(Q42 s)[k]? = some j∧x=Job.a j:=by
    rw [List.getElem?_map] at hx
    obtain ⟨j,hj,e⟩:=Option.map_eq_some_iff.1 hx
    exact ⟨j,hj,e.symm⟩
   have hkl:k<(Q42 s).length:=(List.getElem?_eq_some_iff.1 hj).1
   obtain ⟨hI,hI2⟩:=Qqa hs k (by omega)
   have hjm:=open_in (List.mem_of_getElem? hj)
   have hjz:=z3 j hjm
   have hpre:=index_pre hI hjm
   simp only [Q1d hj]
   have hlen:=freshI_len hI
   obtain ⟨hI1,_,hI3⟩:=hI
   generalize Q47 s k=st at *
   have hopt:=QQ7 j.shape hjz.2.2.2.1
   conv=>whnf
   refine dchk (by kernel_rfl) ?_
   (first|apply u2|apply u3|apply u4|apply us)
   exact Q82 j.shape hjz.2.2.2.1 _
   (first|apply u2|apply u3|apply u4|apply us)
   exact Qf9 st.1 (Qe0 j.shape) s.now 1000000 12 hI1 hopt _
   (repeat (first|refine ai rfl ?_|refine ai (fun _=>rfl) ?_|refine ai (fun _=>Q82 j.shape hjz.2.2.2.1 _) ?_|refine ai (fun _=>Qf9 st.1 (Qe0 j.shape) s.now 1000000 12 hI1 hopt _) ?_))
   refine ai (fun h3=>?_) (fun h4=>?_)
   ·have hr:Qs4 s st j=Ql2 j (Qk2 st.1 (Qe0 j.shape) s.now 1000000 12).1 (Qk2 st.1 (Qe0 j.shape) s.now 1000000 12).2.1 st.1 st.2.1 st.2.2:=ct h3 rfl
    rw [hr]
    refine us (mv [0,1,2,6,7] (Qvd j (Qk2 st.1 (Qe0 j.shape) s.now 1000000 12).1 (Qk2 st.1 (Qe0 j.shape) s.now 1000000 12).2.1 st.1 st.2.1 st.2.2 hjz hI1 ⟨by omega,hI3⟩ (by omega) hpre) (dO (ds (lv lw LowL.nil)) (dO (dc (dv (Qn4 rfl lnA) .nil)) (dO (dc (dv (Qn4 rfl lnA) .nil)) (dO (dr eqA) (dO (dr eqA) .nil))))) (dl (Job.low _ _) (d1 (d1 (dp (dp (dp .nil)))))) (rO (re (lv lw LowL.nil)) (rO (rc (.cons _ _ _ _ (rw_ 9 0 rfl) .nil)) (rO (rc (.cons _ _ _ _ (rw_ 10 0 rfl) .nil)) (rO rr (rO rr .nil))))) rx) ?_
    exact wk [0,1,2,3,4,5,9,10] (tO rfl (ts (lv lw LowL.nil)) (tO rfl (Q90 (cv (to 6 lnA) .nil)) (tO rfl (Q90 (cv (to 7 lnA) .nil)) (tO rfl (Q90 (cv (Qu0 .nil (cv (Q00 0 rfl rfl) (cv (Q00 1 rfl rfl) (cv (Q00 2 rfl rfl) .nil)))) .nil)) (tO rfl (ts State.lo) (tO rfl (ts State.lo) (tO rfl (tl eqA) (tO rfl (tl eqA) .nil))))))))
     (sv (Q00 4 rfl rfl) (s1 (s1 (sv (Q00 0 rfl rfl) (sv (Q00 1 rfl rfl) (sv (Q00 2 rfl rfl) (sv (Q00 3 rfl rfl) (sv (Qu0 .nil (cv (Q00 5 rfl rfl) .nil)) .nil))))))))
   ·have hr:Qs4 s st j=st:=cf h4 rfl
    rw [hr]
    exact wk [0,1,2,3,4,5,6,7] (tO rfl (ts (lv lw LowL.nil)) (tO rfl (Q90 (cv (to 6 lnA) .nil)) (tO rfl (Q90 (cv (to 7 lnA) .nil)) (tO rfl (Q90 (cv (Qu0 .nil (cv (Q00 0 rfl rfl) (cv (Q00 1 rfl rfl) (cv (Q00 2 rfl rfl) .nil)))) .nil)) (tO rfl (ts State.lo) (tO rfl (ts State.lo) (tO rfl (tl eqA) (tO rfl (tl eqA) .nil))))))))
     (sv (Q00 4 rfl rfl) (s1 (s1 (sv (Q00 0 rfl rfl) (sv (Q00 1 rfl rfl) (sv (Q00 2 rfl rfl) (sv (Q00 3 rfl rfl) (sv (Qu0 .nil (cv (Q00 5 rfl rfl) .nil)) .nil))))))))
  ·obtain ⟨hI,_⟩:=Qqa hs (Q42 s).length (Nat.le_refl _)
   have e:QE1 s=(Q47 s (Q42 s).length).2:=by unfold Q47;rw [List.take_length];exact cf h2 rfl
   have hR2:(Q47 s (Q42 s).length).2=R:=e.symm.trans hR
   simp only [List.length_map]
   clear hR e
   generalize Q47 s (Q42 s).length=st at *
   obtain rfl:=foll hR2 rfl
   refine dchk (by kernel_rfl) ?_
   (repeat (first|refine ai rfl ?_|refine ai (fun _=>rfl) ?_))
   exact Q10 (Low.tup' (.cons lw (.cons lw .nil))) (Seen.tup (ev (Qn0 Job.zero _ rfl eqA lnA) (ev (Qn0 0 _ rfl eqA lnA) .nil)))
end Go.Proofs.YtldebhdmhpopaaaGreatDoor
namespace Go.Proofs.YtldebhdmhpopaaaGreatDoor
set_option linter.unusedSimpArgs false
set_option linter.unusedVariables false
open Go.Fw
set_option maxRecDepth 20000
set_option maxHeartbeats 4000000
attribute [local irreducible] ACalls AMoves
def Q97 (s:State):List Job->List Int->Nat->(List Int)
 | [],ids,_=>ids
 | x_1 :: r,ids,i1=>bif ((x_1.promise != (s.jobs.getD i1 Job.zero).promise)||(x_1.choice != (s.jobs.getD i1 Job.zero).choice)) then Q97 s r (ids++([x_1.id]:List Int)) (i1+1) else Q97 s r ids (i1+1)
def Qb5 (fr:(List Job) × (List Int)) (ids:List Int):(List Job) × (List Int):=(fr.1,ids)
def QUb (s:State) (c:State):(List Job) × (List Int):=(fun fr:(List Job) × (List Int)=>Qb5 fr (Q97 s fr.1 [] 0)) (QE1 c)
def Q22 :List Job->Nat->List Job->(List Job)
 | [],_,c2=>c2
 | _ :: r,i,c2=>(fun dro:Job × Int=>bif (dro.2==0) then Q22 r (i+1) (c2.set i dro.1) else Q22 r (i+1) c2) (QD3 (c2.getD i Job.zero))
def Qa5 (s:State) (c2:List Job):(List Job) × (List Int):=QUb s { s with jobs:=c2 }
def QC2 (s:State):(List Job) × (List Int):=bif ((QI1 s)!=0) then (s.jobs,[]) else Qa5 s (Q22 s.jobs 0 s.jobs)
theorem QP9 {P:Prop} (h:P:=by first|((exact ⟨⟨z21,by show c2.length<=4294967296;omega,hx.1,z24,z25,z26,z27⟩,hx.2⟩))|first|((exact ⟨fun y hy=>(List.mem_or_eq_of_mem_set hy).elim (hx.1 y) (fun e=>e ▸ hdro),by rw [List.length_set];exact hx.2⟩))|first|((exact hx))|first|((exact ⟨z23,rfl⟩))|exact exA):P:=h
theorem QJc {P:Prop} (h:P:=by first|((exact hx.1))|first|((exact Qw1 hx.1 (Job.szz _)))|exact szA):P:=h
theorem plan_Anew_c (s:State) (hs0:s.sz):GV 78 [State.a s] (AVal.tup [jobL ((QC2 s).1),ints ((QC2 s).2)]):=by
 generalize hR:QC2 s=R;refine ga (.cons (State.low _ _) .nil) (Low.tup' (.cons lw (.cons lw .nil))) (kj [1000012] 15 [17,27,28,29,30,40,52,53,54,55,75]) Tryz.func78 ?_;have hk0:=hs0;obtain ⟨z21,z22,z23,z24,z25,z26,z27⟩:=hs0;refine us (Q66 s QJc _) ?_;refine ai (fun h1=>?_) (fun h2=>?_)
 ·refine us (mv [] (Qg8 s.jobs QJc) .nil (dl lw .nil) (rO rr .nil) (rw_ 1 0 rfl)) ?_;obtain rfl:=foll hR (ct h1 rfl);exact Q10 (Low.tup' (.cons lw (.cons lw .nil))) (Seen.tup (ev (Qn0 Job.zero _ rfl eqA lnA) (ev (Q50) .nil)))
 ·refine us (mv [] (Qg8 s.jobs QJc) .nil (dl lw .nil) (rO rr .nil) (rw_ 2 0 rfl)) ?_;refine Qx1 (fun (c:State)=>QUb s c=R∧(c.sz∧c.jobs.length=s.jobs.length)) (fun c=>[(1,AVal.ptr 0 0 8 0 0),(2,AVal.lit (.slice none 0 0)),(3,AVal.lit (.slice none 0 0)),(4,AVal.ptr 1 0 8 0 0)]) (fun c=>[(0,AObj.row 28 8 [[I s.now,nodeL s.nodes,jobL s.jobs,Qq1 s.resizes,bookL s.books,Qt1 s.ledger,I s.nextJob,I s.nextBook]]),(0,AObj.row 28 8 [[I c.now,nodeL c.nodes,jobL c.jobs,Qq1 c.resizes,bookL c.books,Qt1 c.ledger,I c.nextJob,I c.nextBook]])]) ?_ ?_
  ·clear hR;rintro c ⟨hR,hx⟩;(try dsimp only at hR hx);refine us (QWb c QJc _) ?_;generalize hvfr:QE1 c=fr;(have hfr:fr.1.length=s.jobs.length∧(∀ y ∈ fr.1,y.sz):=by rw [← hvfr];exact ⟨(Qw6 hx.1).1.trans hx.2,(Qw6 hx.1).2.1⟩);refine Qq0 (fun (ids:List Int) (i1:Nat)=>Qb5 fr (Q97 s (List.drop i1 fr.1) ids i1)=R∧i1<=fr.1.length∧ids.length<=i1) (fun ids i1=>fr.1.length - i1) (fun ids i1=>[(1,AVal.ptr 0 0 8 0 0),(2,AVal.lit (.slice none 0 0)),(3,AVal.lit (.slice none 0 0)),(9,jobL fr.1),(11,AVal.own 1 0 1 0 ids.length),(52,jobL fr.1),(53,I (fr.1.length:Int)),(54,I (i1:Int))]) (fun ids i1=>[(0,AObj.row 28 8 [[I s.now,nodeL s.nodes,jobL s.jobs,Qq1 s.resizes,bookL s.books,Qt1 s.ledger,I s.nextJob,I s.nextBook]]),(0,AObj.row 3 1 (ids.map (fun q_=>[I q_])))]) [] 0 ((Qo1 3 1).trans (wk [0,2] (tO rfl (ts State.lo) (tO rfl (tl eqA) .nil)) (sv (Q00 0 rfl rfl) (s1 (s1 (sl lw (sv (Q51 1 rfl) (sl lw (s1 (s1 .nil)))))))))) ⟨foll hR ((by subst hvfr;exact rfl)),by exact omA,QP9⟩ ?_;clear hR;rintro ids i1 ⟨hR,hj,hx⟩;(try dsimp only at hR hj hx);refine ai (fun h3=>?_) (fun h4=>?_)
   ·have hlt:=ltA h3;rw [Qi0 Job.zero hlt] at hR;have hxz:(fr.1.getD i1 Job.zero).sz:=Qw1 (by first|assumption|grind) (Job.szz _);have hkz:=hxz;obtain ⟨z5,z6,z7,z8,z9⟩:=Job.zz hxz;refine ai gkA ?_;refine ai gkA ?_;refine ai (fun h10=>?_) (fun h11=>?_)
    ·refine Or.inl ?_;(first|refine ⟨Qp1 8 rfl lnA apA,?_⟩|refine ⟨QN0 8 rfl apA,?_⟩);exact Qd0 (ids++([(fr.1.getD i1 Job.zero).id]:List Int)) (i1+1) (wk [0,1] (tO rfl (ts State.lo) (tO rfl (tl eqA) .nil)) (sv (Q00 0 rfl rfl) (s1 (s1 (sl lw (sv (to 1 lnA) (sl lw (s1 (sv (Qa0 (I_eq (wr omA)) lx) .nil))))))))) omA ⟨foll hR (congrArg (fun p:(List Int)=>Qb5 fr p) (ct h10 rfl)),by exact omA,QP9⟩
    ·exact Qd0 ids (i1+1) (wk [0,1] (tO rfl (ts State.lo) (tO rfl (tl eqA) .nil)) (sv (Q00 0 rfl rfl) (s1 (s1 (sl lw (sv (to 1 lnA) (sl lw (s1 (sv (Qa0 (I_eq (wr omA)) lx) .nil))))))))) omA ⟨foll hR (congrArg (fun p:(List Int)=>Qb5 fr p) (cf h11 rfl)),by exact omA,QP9⟩
   ·rw [Ql0 (l:=fr.1) (j:=i1) (geA h4)] at hR;replace hR:Qb5 fr ids=R:=fo2 (fun p:(List Int)=>Qb5 fr p) (ids) hR rfl;obtain rfl:=foll hR rfl;exact Q10 (Low.tup' (.cons lw (.cons lw .nil))) (Seen.tup (e1 (ev (Qn0 0 _ rfl eqA lnA) .nil)))
  ·refine Qq0 (fun (i:Nat) (c2:List Job)=>Qa5 s (Q22 (List.drop i s.jobs) i c2)=R∧i<=s.jobs.length∧(∀ y ∈ c2,y.sz)∧c2.length=s.jobs.length) (fun i c2=>s.jobs.length - i) (fun i c2=>[(1,AVal.ptr 0 0 8 0 0),(2,AVal.lit (.slice none 0 0)),(3,AVal.lit (.slice none 0 0)),(4,AVal.ptr 1 0 8 0 0),(27,AVal.own 2 0 20 0 c2.length),(28,I (s.jobs.length:Int)),(29,I (i:Int))]) (fun i c2=>[(0,AObj.row 28 8 [[I s.now,nodeL s.nodes,jobL s.jobs,Qq1 s.resizes,bookL s.books,Qt1 s.ledger,I s.nextJob,I s.nextBook]]),(0,AObj.row 28 8 [[I s.now,nodeL s.nodes,AVal.own 2 0 20 0 c2.length,Qq1 s.resizes,bookL s.books,Qt1 s.ledger,I s.nextJob,I s.nextBook]]),(0,AObj.row 52 20 (c2.map Job.cells))]) 0 s.jobs (wk [0,1,2] (tO rfl (ts State.lo) (tO rfl (Q90 (c1 (cv (Q20 lw) (cv (to 2 lnA) (cv (Q20 lw) (cv (Q20 lw) (cv (Q20 lw) (c1 (c1 .nil))))))))) (tO rfl (tl eqA) .nil))) (sv (Q00 0 rfl rfl) (s1 (s1 (sv (Q00 1 rfl rfl) (sv (to 2 lnA) (s1 (s1 .nil)))))))) ⟨foll hR (cf h2 rfl),by exact omA,QP9⟩ ?_;clear hR;rintro i c2 ⟨hR,hj,hx⟩;(try dsimp only at hR hj hx);refine ai (fun h12=>?_) (fun h13=>?_)
   ·have hlt:=ltA h12;rw [Qi0 Job.zero hlt] at hR;have hxz:(s.jobs.getD i Job.zero).sz:=Qw1 (by first|assumption|grind) (Job.szz _);have hkz:=hxz;obtain ⟨z14,z15,z16,z17,z18⟩:=Job.zz hxz;refine ai gkA ?_;refine ⟨_,QA0 rfl rfl rfl (QC0 Job.zero i (by first|rfl|exact Nat.zero_add _|omega) ckA) rfl,?_⟩;refine us (job_Drop_c (c2.getD i Job.zero) QJc _) ?_;generalize hvdro:QD3 (c2.getD i Job.zero)=dro;(have hdro:dro.1.sz:=by rw [← hvdro];exact Qbd (Qw1 hx.1 (Job.szz _)));refine ai (fun h19=>?_) (fun h20=>?_)
    ·refine ai gkA ?_;refine ⟨_,Q01 rfl rfl rfl rfl (QC0 Job.zero i (by first|rfl|exact Nat.zero_add _|omega) ckA) rfl rfl (Qp8 i dro.1 (by first|rfl|exact Nat.zero_add _|omega) rfl),?_⟩;exact Qd0 (i+1) (c2.set i dro.1) (wk [0,1,2] (tO rfl (ts State.lo) (tO rfl (Q90 (c1 (cv (Q20 lw) (cv (to 2 lnA) (cv (Q20 lw) (cv (Q20 lw) (cv (Q20 lw) (c1 (c1 .nil))))))))) (tO rfl (tl eqA) .nil))) (sv (Q00 0 rfl rfl) (s1 (s1 (sv (Q00 1 rfl rfl) (sv (to 2 lnA) (s1 (sv (Qa0 (I_eq (wr omA)) lx) .nil)))))))) omA ⟨foll hR (congrArg (fun p:(List Job)=>Qa5 s p) ((by subst hvdro;exact ct h19 rfl))),by exact omA,QP9⟩
    ·exact Qd0 (i+1) c2 (wk [0,1,2] (tO rfl (ts State.lo) (tO rfl (Q90 (c1 (cv (Q20 lw) (cv (to 2 lnA) (cv (Q20 lw) (cv (Q20 lw) (cv (Q20 lw) (c1 (c1 .nil))))))))) (tO rfl (tl eqA) .nil))) (sv (Q00 0 rfl rfl) (s1 (s1 (sv (Q00 1 rfl rfl) (sv (to 2 lnA) (s1 (sv (Qa0 (I_eq (wr omA)) lx) .nil)))))))) omA ⟨foll hR (congrArg (fun p:(List Job)=>Qa5 s p) ((by subst hvdro;exact cf h20 rfl))),by exact omA,QP9⟩
   ·rw [Ql0 (l:=s.jobs) (j:=i) (geA h13)] at hR;replace hR:Qa5 s c2=R:=fo2 (fun p:(List Job)=>Qa5 s p) (c2) hR rfl;exact Qo0 { s with jobs:=c2 } (wk [0,1] (tO rfl (ts State.lo) (tO rfl (Q90 (c1 (cv (Q20 lw) (cv (Qx3 _ _ rfl (Nat.zero_le _) (by decide) eqA (fun _=>Job.lowc _ _) lnA) (cv (Q20 lw) (cv (Q20 lw) (cv (Q20 lw) (c1 (c1 .nil))))))))) .nil)) (sv (Q00 0 rfl rfl) (s1 (s1 (sv (Q00 1 rfl rfl) .nil))))) (⟨foll hR rfl,QP9⟩)
theorem QR6:∀ (l:List Job) (i:Nat) (c:List Job),(∀ y ∈ c,y.sz)->(Q22 l i c).length=c.length ∧ ∀ y ∈ Q22 l i c,y.sz
 | [],_,_,h=>⟨rfl,h⟩
 | _ :: r,i,c,h=>by
  rw [Q22]
  simp only
  cases ((QD3 (c.getD i Job.zero)).2==0) with
  | true =>
   obtain ⟨a,b⟩:=QR6 r (i+1) (c.set i (QD3 (c.getD i Job.zero)).1) (fun y hy=>(List.mem_or_eq_of_mem_set hy).elim (h y) fun e=>e ▸ Qbd (Qw1 h (Job.szz _)))
   exact ⟨by simpa using a,b⟩
  | false=>exact QR6 r (i+1) c h
theorem QVb {s:State} (hz:s.sz):(QC2 s).1.length<=4294967296∧(∀ y ∈ (QC2 s).1,y.sz):=by
 have hz2:=hz.2.1
 unfold QC2
 cases ((QI1 s)!=0) with
 | true=>exact ⟨hz2,hz.2.2.1⟩
 | false =>
  obtain ⟨a,b⟩:=QR6 s.jobs 0 s.jobs hz.2.2.1
  have hs:({ s with jobs:=Q22 s.jobs 0 s.jobs }:State).sz:=⟨hz.1,by show (Q22 s.jobs 0 s.jobs).length<=_;rw [a];exact hz2,b,hz.2.2.2⟩
  obtain ⟨p,q,_⟩:=Qw6 hs
  exact ⟨by show (QE1 { s with jobs:=Q22 s.jobs 0 s.jobs }).1.length<=_;rw [p];exact hs.2.1,q⟩
end Go.Proofs.YtldebhdmhpopaaaGreatDoor
namespace Go.Proofs.YtldebhdmhpopaaaGreatDoor
set_option linter.unusedSimpArgs false
set_option linter.unusedVariables false
open Go.Fw
theorem QGd (l:List Job) (hn:l.length<=40):∀ (r:List Job) (i:Nat),r=l.drop i->i+r.length=l.length ->
  (∀ x ∈ r,Qk0 x=0)->r.Pairwise (fun a b=>a.id<b.id)->(∀ y,0<i->l[i - 1]? = some y -> ∀ x ∈ r,y.id<x.id)->Qg3 l r i=0
 | [],i,_,_,_,_,_=>rfl
 | x :: r,i,hr,hlen,h1,h2,h3=>by
  simp only [List.length_cons] at hlen
  have hi:l[i]? = some x:=by
   have:=congrArg (fun q=>q[0]?) hr
   simpa [List.getElem?_drop] using this.symm
  have hr':r=l.drop (i+1):=by rw [← List.drop_drop,← hr];rfl
  have hp:=List.pairwise_cons.1 h2
  have ih:=QGd l hn r (i+1) hr' (by omega) (fun z hz=>h1 z (List.mem_cons_of_mem _ hz)) hp.2 (fun y _ hy=>by rw [show i+1 - 1=i by omega,hi] at hy;cases hy;exact hp.1)
  rw [Qg3,h1 x (List.mem_cons_self ..),w6 (n:=(i:Int) - 1) (by omega),show Int.toNat ((i:Int) - 1)=i - 1 by omega]
  have hc:((decide ((i:Int) > 0))&&(decide ((l.getD (i - 1) Job.zero).id >= x.id)))=false:=by
   rcases Nat.eq_zero_or_pos i with h0|h0
   ·subst h0;rfl
   ·obtain ⟨y,hy⟩:∃ y,l[i - 1]? = some y:=⟨_,List.getElem?_eq_getElem (by omega)⟩
    have hg:l.getD (i - 1) Job.zero=y:=by simp [List.getD,hy]
    have:=h3 y h0 hy x (List.mem_cons_self ..)
    rw [hg,decide_eq_false (show ¬ y.id >= x.id by omega),Bool.and_false]
  rw [hc]
  exact ih
theorem QKd {l:List Job} (hn:l.length<=40) (h1:∀ x ∈ l,Qk0 x=0) (h2:l.Pairwise (fun a b=>a.id<b.id)):Qh0 l=0:=by
 unfold Qh0
 rw [decide_eq_false (show ¬ (l.length:Int) > 40 by omega)]
 exact QGd l hn l 0 rfl (by omega) h1 h2 (fun y hy=>absurd hy (by omega))
theorem set_mem {α:Type} {l:List α} {p:Nat} {x y:α} (h:y ∈ l.set p x):y=x ∨ ∃ k,k ≠ p∧l[k]? = some y:=by
 obtain ⟨k,hk⟩:=List.getElem?_of_mem h
 rw [List.getElem?_set] at hk
 by_cases e:p=k
 ·subst e
  rw [if_pos rfl] at hk
  split at hk
  ·exact .inl (by simpa using hk.symm)
  ·cases hk
 ·rw [if_neg e] at hk
  exact .inr ⟨k,Ne.symm e,hk⟩
theorem ids_set {l:List Job} {p:Nat} {x y:Job} (h:l[p]? = some x) (e:y.id=x.id):(l.set p y).map (·.id)=l.map (·.id):=by
 rw [List.map_set]
 refine List.ext_getElem? fun k=>?_
 rw [List.getElem?_set]
 by_cases q:p=k
 ·subst q
  have hp:=(List.getElem?_eq_some_iff.1 h).1
  rw [if_pos rfl,if_pos (by simpa using hp),List.getElem?_map,h,e]
  rfl
 ·rw [if_neg q]
theorem pair_ids {l l':List Job} (h:l'.map (·.id)=l.map (·.id)) (hp:l.Pairwise (fun a b=>a.id<b.id)):l'.Pairwise (fun a b=>a.id<b.id):=by
 have h1:(l.map (·.id)).Pairwise (· < ·):=List.pairwise_map.2 hp
 rw [← h] at h1
 exact List.pairwise_map.1 h1
theorem table_set {l:List Job} (h:Qh0 l=0) {p:Nat} {x y:Job} (hp:l[p]? = some x) (e:y.id=x.id) (hy:Qk0 y=0):Qh0 (l.set p y)=0:=by
 obtain ⟨hn,hj,hs⟩:=QA4 h
 refine QKd (by rw [List.length_set];exact hn) (fun z hz=>?_) (pair_ids (ids_set hp e) hs)
 rcases set_mem hz with rfl|⟨k,_,hk⟩
 ·exact hy
 ·exact hj z (List.mem_of_getElem? hk)
theorem place_ok {l:List Job} (h:Qh0 l=0) {p:Nat} {x:Job} (hp:l[p]? = some x):Qm0 l x.id=((p:Int),true):=by
 obtain ⟨hn,hj,hs⟩:=QA4 h
 have hb:∀ y ∈ l,1<=y.id∧y.id<=99999:=fun y hy=>Qmb (hj y hy)
 have hpl:p<l.length:=(List.getElem?_eq_some_iff.1 hp).1
 have hpi:(Qm0 l x.id).1=(p:Int) :=
  QTa l x.id hn (hb x (List.mem_of_getElem? hp)) hb (Q87 hs) p x hp rfl _ 0 (l.length:Int) (by omega) (by omega) (by omega) (by omega) (by omega) (fun k hk y hy=>absurd (List.getElem?_eq_some_iff.1 hy).1 (by omega))
 have hp2:(Qm0 l x.id).2=true:=by
  have e:(Qm0 l x.id).2=((decide ((Qm0 l x.id).1<(l.length:Int)))&&((w64 ((l.getD (Int.toNat (Qm0 l x.id).1) Job.zero).id - x.id))==0)):=rfl
  rw [e,hpi,Int.toNat_natCast]
  have hg:l.getD p Job.zero=x:=by simp [List.getD,hp]
  rw [hg,Int.sub_self,decide_eq_true (show (p:Int)<(l.length:Int) by omega)]
  rfl
 exact Prod.ext hpi hp2
theorem put_ok {l:List Job} (h:Qh0 l=0) {p:Nat} {x j:Job} (hp:l[p]? = some x) (hj:Qk0 j=0) (e:j.id=x.id):Q92 l j=(l.set p j,0):=by
 unfold Q92 Qn7
 rw [h,hj,e,place_ok h hp]
 rfl
theorem QZc {l:List Job} {id:Int} (h:(Qc0 l id).2=true):Qh0 l=0 ∧ ∃ p:Nat,l[p]? = some (Qc0 l id).1∧(Qc0 l id).1.id=id:=by
 unfold Qc0 at h ⊢
 cases h1:(((Qh0 l)!=0)||(!(Qh3 id))) with
 | true=>rw [h1] at h;exact nomatch h
 | false =>
  rw [h1] at h
  cases h2:(!(Qm0 l id).2) with
  | true=>rw [h2] at h;exact nomatch h
  | false =>
   simp only [Bool.or_eq_false_iff,Bool.not_eq_false'] at h1
   have ht:Qh0 l=0:=by simpa using h1.1
   refine ⟨ht,?_⟩
   obtain ⟨hn,hj,_⟩:=QA4 ht
   have hq:=Qi3 l id (by omega) h2
   have e:(Qm0 l id).2=((decide ((Qm0 l id).1<(l.length:Int)))&&((w64 ((l.getD (Int.toNat (Qm0 l id).1) Job.zero).id - id))==0)):=rfl
   rw [Bool.not_eq_false'] at h2
   rw [h2] at e
   have e2:=(Bool.and_eq_true _ _).mp e.symm
   obtain ⟨p,hp⟩:∃ p:Nat,(Qm0 l id).1=(p:Int):=⟨_,(Int.toNat_of_nonneg hq.1).symm⟩
   have hpl:p<l.length:=by omega
   have hw:w64 ((p:Int)+1)=(p:Int)+1:=wr (by omega)
   rw [hp,hw,show Int.toNat ((p:Int)+1)=p+1 by omega,Int.toNat_natCast]
   have hg:l.getD p Job.zero=l[p]:=by simp [List.getD,hpl]
   have hx:(List.drop p (List.take (p+1) l)).getD 0 Job.zero=l[p]:=by simp [List.getD,List.getElem?_drop,List.getElem?_take,hpl]
   refine ⟨p,by rw [cond_false,cond_false];show l[p]? = some ((List.drop p (List.take (p+1) l)).getD 0 Job.zero);rw [hx];exact List.getElem?_eq_getElem hpl,?_⟩
   rw [cond_false,cond_false]
   show ((List.drop p (List.take (p+1) l)).getD 0 Job.zero).id=id
   rw [hx]
   have h3:=e2.2
   rw [hp,Int.toNat_natCast,hg] at h3
   have hb:=Qmb (hj _ (List.getElem_mem hpl))
   have hk:Qh3 id=true:=h1.2
   unfold Qh3 at hk
   simp at hk
   rw [w6 (n:=l[p].id - id) (by omega)] at h3
   simp at h3
   omega
theorem over_of {j k:Job} (hc:Qk0 j=0) (e1:k.id=j.id) (e2:k.born=j.born) (e3:k.used=j.used) (e4:Qy0 k=Qy0 j) (e5:k.after=j.after)
  (hs:(k.state==1)=false) (hs2:(k.state==2)=false) (he:QN4 k.state=true) (h:Q62 k=true):Qk0 k=0:=by
 unfold Qk0 at hc ⊢
 rw [e1,e2,e3,e4,e5,hs,hs2,he,h]
 cases h4:((((((decide (j.id<1))||(decide (j.id > 99999)))||(!(QD1 j.born)))||(j.used != (QP3 j.used)))||((Qk4 (Qy0 j))!=0))||(Qt0 j.after (fun (y:Dep)=>(decide (y.job >= j.id))))) with
 | true=>rw [h4] at hc;exact nomatch hc
 | false=>rfl
theorem views_of {j:Job} (hc:Qk0 j=0):(j.state=1->QM0 j=true)∧(j.state=2->QA2 j=true):=by
 unfold Qk0 at hc
 cases h4:((((((decide (j.id<1))||(decide (j.id > 99999)))||(!(QD1 j.born)))||(j.used != (QP3 j.used)))||((Qk4 (Qy0 j))!=0))||(Qt0 j.after (fun (y:Dep)=>(decide (y.job >= j.id))))) with
 | true=>rw [h4] at hc;exact nomatch hc
 | false =>
  rw [h4] at hc
  refine ⟨fun h=>?_,fun h=>?_⟩ <;> rw [h] at hc
  ·cases hq:QM0 j with
   | true=>rfl
   | false=>rw [hq] at hc;exact nomatch hc
  ·cases hq:QA2 j with
   | true=>rfl
   | false=>rw [hq] at hc;exact nomatch hc
theorem over_bare {k:Job} (h1:k.nodes=0) (h2:k.start=0) (h3:k.limit=0) (h4:k.promise = -1) (h5:k.choice=0):Q62 k=true:=by
 unfold Q62
 rw [h1,h2,h3,h4,h5]
 decide
theorem Qrd {j:Job} {c:Int} (h:(QI0 j c).2=true):0<=c∧c<((Qe0 j.shape).length:Int):=by
 unfold QI0 at h
 cases h1:((decide (c<0))||(decide (c >= ((Qe0 j.shape).length:Int)))) with
 | true=>rw [h1] at h;exact nomatch h
 | false=>simp at h1;omega
theorem options_le (s:Shape):(Qe0 s).length<=48:=by
 unfold Qe0
 cases h:(Qe3 s != 0) with
 | true=>exact Nat.zero_le _
 | false =>
  rw [cond_false]
  have hk:∀ b:Bool,(QL2 b != 0)=false->b=true:=fun b=>by cases b <;> decide
  unfold Qe3 at h
  cases h1:(s.kind==1) with
  | true =>
   rw [h1,cond_true] at h
   have q:=hk _ h
   have h3:(s.kind==3)=false:=by simp at h1;simp;omega
   rw [h3,cond_false]
   simp at q
   omega
  | false =>
   rw [h1,cond_false] at h
   cases h2:(s.kind==2) with
   | true =>
    rw [h2,cond_true] at h
    have q:=hk _ h
    have h3:(s.kind==3)=false:=by simp at h2;simp;omega
    rw [h3,cond_false]
    simp only [Bool.and_eq_true,decide_eq_true_eq] at q
    omega
   | false =>
    rw [h2,cond_false] at h
    cases h3:(s.kind==3) with
    | false=>rw [h3,cond_false] at h;exact absurd h (by decide)
    | true =>
     rw [h3,cond_true] at h
     have q:=hk _ h
     unfold Qj1 at q
     simp only [Bool.and_eq_true,decide_eq_true_eq,beq_iff_eq] at q
     rw [cond_true,List.length_append]
     unfold QV6
     rw [List.length_map,List.length_range]
     omega
theorem end_check {j:Job} {why:Int} (h:((Qq2 j why).2 != 0)=false):(Qq2 j why).1.id=j.id∧Qk0 (Qq2 j why).1=0:=by
 unfold Qq2 at h ⊢
 cases h1:((Qk0 j)!=0) with
 | true=>rw [h1] at h;simp only [cond_true] at h;rw [h1] at h;exact nomatch h
 | false =>
  rw [h1] at h
  have hc:Qk0 j=0:=by simpa using h1
  cases h2:(!(QN4 why)) with
  | true=>rw [h2] at h;exact nomatch h
  | false =>
   rw [h2] at h
   have he:QN4 why=true:=by simpa using h2
   have hw1:(why==1)=false∧(why==2)=false:=by unfold QN4 at he;simp at he;simp;omega
   cases h3:((Qn5 ((j.state==2)||((j.state==1)&&(why==6))))!=0) with
   | true=>rw [h3] at h;simp only [cond_true,cond_false] at h;rw [h3] at h;exact nomatch h
   | false =>
    have hs:j.state=2∨(j.state=1∧why=6):=by
     unfold Qn5 at h3
     cases h4:((j.state==2)||((j.state==1)&&(why==6))) with
     | true=>simpa using h4
     | false=>rw [h4] at h3;exact nomatch h3
    obtain ⟨vq,vr⟩:=views_of hc
    simp only [cond_false]
    rcases hs with hs|⟨hs,_⟩
    ·rw [show (j.state==1)=false by rw [hs];rfl]
     refine ⟨rfl,over_of hc rfl rfl rfl rfl rfl hw1.1 hw1.2 he ?_⟩
     have hv:=vr hs
     unfold QA2 at hv
     revert hv
     cases hq:(((((((!(QI0 j j.choice).2)||j.held)||(!(QD1 j.start)))||(!(QD1 j.promise)))||(decide (j.promise<j.start)))||(!(QD1 j.limit)))||((w64 (j.limit - j.start))!=(QI0 j j.choice).1.wall)) with
     | true=>intro hv;exact nomatch hv
     | false =>
      intro _
      simp only [Bool.or_eq_false_iff,Bool.not_eq_false'] at hq
      obtain ⟨⟨⟨⟨⟨⟨q1,_⟩,q2⟩,q3⟩,_⟩,q4⟩,_⟩:=hq
      have ho:=Qrd q1
      have hl:=options_le j.shape
      unfold QD1 at q3
      simp at q3
      unfold Q62
      simp [q2,q4]
      omega
    ·rw [show (j.state==1)=true by rw [hs];rfl]
     refine ⟨rfl,over_of hc rfl rfl rfl rfl rfl hw1.1 hw1.2 he ?_⟩
     have hv:=vq hs
     unfold QM0 at hv
     simp only [Bool.and_eq_true,beq_iff_eq] at hv
     exact over_bare rfl hv.1.1.1 hv.1.1.2 rfl rfl
theorem choice_in {j:Job} (hc:Qk0 j=0):0<=j.choice:=by
 obtain ⟨v1,v2⟩:=views_of hc
 by_cases h1:j.state=1
 ·have h:=v1 h1
  unfold QM0 at h
  simp only [Bool.and_eq_true,Bool.or_eq_true,beq_iff_eq] at h
  rcases h.2 with q|q
  ·omega
  ·exact (Qrd q.1.2).1
 ·by_cases h2:j.state=2
  ·have h:=v2 h2
   unfold QA2 at h
   revert h
   cases hq:(((((((!(QI0 j j.choice).2)||j.held)||(!(QD1 j.start)))||(!(QD1 j.promise)))||(decide (j.promise<j.start)))||(!(QD1 j.limit)))||((w64 (j.limit - j.start))!=(QI0 j j.choice).1.wall)) with
   | true=>intro h;exact nomatch h
   | false =>
    intro _
    simp only [Bool.or_eq_false_iff,Bool.not_eq_false'] at hq
    exact (Qrd hq.1.1.1.1.1.1).1
  ·unfold Qk0 at hc
   cases h4:((((((decide (j.id<1))||(decide (j.id > 99999)))||(!(QD1 j.born)))||(j.used != (QP3 j.used)))||((Qk4 (Qy0 j))!=0))||(Qt0 j.after (fun (y:Dep)=>(decide (y.job >= j.id))))) with
   | true=>rw [h4] at hc;exact nomatch hc
   | false =>
    rw [h4,show (j.state==1)=false by simpa using h1,show (j.state==2)=false by simpa using h2] at hc
    cases h5:(!(QN4 j.state)) with
    | true=>rw [h5] at hc;exact nomatch hc
    | false =>
     cases h6:(!(Q62 j)) with
     | true=>rw [h5,h6] at hc;exact nomatch hc
     | false =>
      have h:Q62 j=true:=by simpa using h6
      unfold Q62 at h
      simp only [Bool.and_eq_true,decide_eq_true_eq] at h
      exact h.1.2
theorem find_choice (l:List Job) (id:Int):0<=(Qc0 l id).1.choice:=by
 cases h:(Qc0 l id).2 with
 | true =>
  obtain ⟨ht,p,hp,_⟩:=QZc h
  exact choice_in ((QA4 ht).2.1 _ (List.mem_of_getElem? hp))
 | false =>
  unfold Qc0 at h ⊢
  cases h1:(((Qh0 l)!=0)||(!(Qh3 id))) with
  | true=>exact Int.le_refl _
  | false =>
   rw [h1] at h
   cases h2:(!(Qm0 l id).2) with
   | true=>exact Int.le_refl _
   | false=>rw [h2] at h;exact nomatch h
theorem put_never {l:List Job} {id why:Int} {tf:Job × Bool} {tp:List Job × Int} {je:Job × Int} (hf:Qc0 l id=tf) (h:(!tf.2)=false) (hj:Qq2 tf.1 why=je) (he:(je.2 != 0)=false) (hp:Q92 l je.1=tp):(tp.2==0)=true:=by
 subst hf hj hp
 obtain ⟨ht,p,hp,e⟩:=QZc (by simpa using h)
 obtain ⟨e1,e2⟩:=end_check he
 rw [put_ok ht hp e2 e1]
 rfl
theorem each_go (set_ act job now:Int):∀ (r:List Int) (i:Nat) (c:List Node),(Qj2 set_ act job now r i c).1.length<=c.length
 | [],i,c=>by rw [Qj2,Bool.cond_eq_ite];split <;> exact Nat.le_refl _
 | x :: r,i,c=>by
  rw [Qj2]
  have h:=QGb c x act job now
  have a:=each_go set_ act job now r (i+1) (Qv1 c x act job now).1
  have b:=each_go set_ act job now r (i+1) c
  simp only [Bool.cond_eq_ite]
  split <;> split <;> first|exact Nat.zero_le _|exact Nat.le_trans a h|exact b
theorem Qt7 (l:List Node) (set_ act job now:Int):(QY0 l set_ act job now).1.length<=l.length∧(QY0 l set_ act job now).2.1.length<=64:=by
 refine ⟨?_,Qr7 _ _ _ _ _⟩
 unfold QY0
 rw [Bool.cond_eq_ite]
 split
 ·exact Nat.zero_le _
 ·exact each_go _ _ _ _ _ _ _
theorem Quc (l:List Node) (n act job now:Int):(Qx2 l n act job now).1.length<=l.length∧(Qx2 l n act job now).2.2.1.length<=64:=by
 unfold Qx2
 repeat' first|exact ⟨Nat.zero_le _,Nat.zero_le _⟩|exact Qt7 _ _ _ _ _|(rw [Bool.cond_eq_ite];split)
theorem sent_go:∀ (l:List Note) (out:List Out) (i:Nat),(QD2 l out i).length=out.length+l.length
 | [],_,_=>rfl
 | x :: r,out,i=>by rw [QD2,sent_go r,List.length_append,List.length_cons,List.length_cons,List.length_nil];omega
@[simp] theorem sent_len (l:List Note):(Q91 l).length=l.length:=(sent_go l [] 0).trans (Nat.zero_add _)
def Row2 (R:Job->Job->Prop) (l m:List Job):Prop:=m.length=l.length ∧ ∀ (k:Nat) (x:Job),l[k]? = some x -> ∃ y,m[k]? = some y∧R x y
theorem Row2.refl {R:Job->Job->Prop} (h:∀ x,R x x) (l:List Job):Row2 R l l:=⟨rfl,fun _ x hx=>⟨x,hx,h x⟩⟩
theorem Row2.trans {R S T:Job->Job->Prop} (h:∀ x y z,R x y->S y z->T x z) {l m n:List Job} (a:Row2 R l m) (b:Row2 S m n):Row2 T l n :=
 ⟨b.1.trans a.1,fun k x hx=>by
  obtain ⟨y,hy,r⟩:=a.2 k x hx
  obtain ⟨z,hz,q⟩:=b.2 k y hy
  exact ⟨z,hz,h x y z r q⟩⟩
theorem Row2.set {R:Job->Job->Prop} {l m:List Job} (a:Row2 R l m) {p:Nat} {z:Job} (h:∀ x,l[p]? = some x->R x z):Row2 R l (m.set p z):=by
 refine ⟨by rw [List.length_set];exact a.1,fun k x hx=>?_⟩
 by_cases e:p=k
 ·subst e
  have hl:=(List.getElem?_eq_some_iff.1 hx).1
  exact ⟨z,by rw [List.getElem?_set,if_pos rfl,if_pos (by rw [a.1];exact hl)],h x hx⟩
 ·obtain ⟨y,hy,r⟩:=a.2 k x hx
  exact ⟨y,by rw [List.getElem?_set_ne e];exact hy,r⟩
theorem Row2.get {R:Job->Job->Prop} {l m:List Job} (a:Row2 R l m) {p:Nat} {x:Job} (h:l[p]? = some x):m[p]? = some (m.getD p Job.zero)∧R x (m.getD p Job.zero):=by
 obtain ⟨y,hy,r⟩:=a.2 p x h
 have:m.getD p Job.zero=y:=by rw [List.getD_eq_getElem?_getD,hy];rfl
 rw [this]
 exact ⟨hy,r⟩
theorem table_same {l:List Job} (ht:Qh0 l=0) {p q:Nat} {x y:Job} (hp:l[p]? = some x) (hq:l[q]? = some y) (e:x.id=y.id):x=y:=by
 obtain ⟨_,_,hs⟩:=QA4 ht
 rcases Nat.lt_trichotomy p q with h|h|h
 ·have:=Q87 hs p q x y h hp hq
  omega
 ·subst h
  rw [hp] at hq
  exact Option.some.inj hq
 ·have:=Q87 hs q p y x h hq hp
  omega
theorem whole_row {l m:List Job} (ht:Qh0 l=0) (h:Row2 (fun x y=>y.id=x.id∧(Qk0 x=0->Qk0 y=0)) l m):Qh0 m=0:=by
 obtain ⟨hn,hj,hs⟩:=QA4 ht
 refine QKd (by rw [h.1];exact hn) (fun z hz=>?_) ?_
 ·obtain ⟨k,hk⟩:=List.getElem?_of_mem hz
  have hl:k<l.length:=by rw [← h.1];exact (List.getElem?_eq_some_iff.1 hk).1
  obtain ⟨y,hy,_,r⟩:=h.2 k _ (List.getElem?_eq_getElem hl)
  rw [hy] at hk
  cases hk
  exact r (hj _ (List.getElem_mem hl))
 ·refine pair_ids (List.ext_getElem? fun k=>?_) hs
  rw [List.getElem?_map,List.getElem?_map]
  by_cases hl:k<l.length
  ·obtain ⟨y,hy,e,_⟩:=h.2 k _ (List.getElem?_eq_getElem hl)
   rw [hy,List.getElem?_eq_getElem hl]
   exact congrArg some e
  ·rw [List.getElem?_eq_none (by rw [h.1];omega),List.getElem?_eq_none (by omega)]
theorem QYb {j:Job} {t c:Int} (h:((Q21 j t c).2 != 0)=false):(Q21 j t c).1={ j with promise:=t,choice:=c }∧0<=t∧Qk0 { j with promise:=t,choice:=c }=0:=by
 unfold Q21 at h ⊢
 cases h1:((Qk0 j)!=0) with
 | true=>rw [h1] at h;simp only [cond_true] at h;rw [h1] at h;exact nomatch h
 | false =>
  rw [h1] at h
  cases h2:((j.state != 1)||j.held) with
  | true=>rw [h2] at h;exact nomatch h
  | false =>
   rw [h2] at h
   cases h3:((!(QI0 j c).2)||(!(QD1 t))) with
   | true=>rw [h3] at h;exact nomatch h
   | false =>
    simp only [Bool.or_eq_false_iff,Bool.not_eq_false'] at h2 h3
    have hs:j.state=1:=by simpa using h2.1
    have hc:Qk0 j=0:=by simpa using h1
    refine ⟨rfl,by have:=h3.2;unfold QD1 at this;simp at this;omega,?_⟩
    unfold Qk0 at hc ⊢
    rw [show Qy0 { j with promise:=t,choice:=c }=Qy0 j from rfl]
    dsimp only
    cases h4:((((((decide (j.id<1))||(decide (j.id > 99999)))||(!(QD1 j.born)))||(j.used != (QP3 j.used)))||((Qk4 (Qy0 j))!=0))||(Qt0 j.after (fun (y:Dep)=>(decide (y.job >= j.id))))) with
    | true=>rw [h4] at hc;exact nomatch hc
    | false =>
     rw [h4,hs] at hc
     have hq:QM0 j=true:=by
      cases hq:QM0 j with
      | true=>rfl
      | false=>rw [hq] at hc;exact nomatch hc
     rw [hs]
     have:QM0 { j with promise:=t,choice:=c }=true:=by
      unfold QM0 at hq ⊢
      simp only [Bool.and_eq_true] at hq ⊢
      refine ⟨hq.1,?_⟩
      rw [Bool.or_eq_true]
      right
      simp only [Bool.and_eq_true]
      exact ⟨⟨h3.2,h3.1⟩,by simpa using h2.2⟩
     show (bif false then (140:Int) else bif (1==1) then (bif !(QM0 { j with state:=1,promise:=t,choice:=c }) then 140 else 0) else _)=0
     rw [show ({ j with state:=1,promise:=t,choice:=c }:Job)={ j with promise:=t,choice:=c } by rw [← hs],this]
     rfl
theorem check_over {j k:Job} (hc:Qk0 j=0) (e1:k.id=j.id) (e2:k.born=j.born) (e3:k.used=j.used) (e4:Qy0 k=Qy0 j) (e5:k.after=j.after)
  (h:(k.state=1∧QM0 k=true)∨(k.state=6∧Q62 k=true)):Qk0 k=0:=by
 unfold Qk0 at hc ⊢
 rw [e1,e2,e3,e4,e5]
 cases h4:((((((decide (j.id<1))||(decide (j.id > 99999)))||(!(QD1 j.born)))||(j.used != (QP3 j.used)))||((Qk4 (Qy0 j))!=0))||(Qt0 j.after (fun (y:Dep)=>(decide (y.job >= j.id))))) with
 | true=>rw [h4] at hc;exact nomatch hc
 | false =>
  rcases h with ⟨h,q⟩|⟨h,q⟩ <;> rw [h,q] <;> rfl
theorem queued_of {j:Job} (hc:Qk0 j=0) (hs:j.state=1):QM0 j=true:=by
 unfold Qk0 at hc
 cases h4:((((((decide (j.id<1))||(decide (j.id > 99999)))||(!(QD1 j.born)))||(j.used != (QP3 j.used)))||((Qk4 (Qy0 j))!=0))||(Qt0 j.after (fun (y:Dep)=>(decide (y.job >= j.id))))) with
 | true=>rw [h4] at hc;exact nomatch hc
 | false =>
  rw [h4,hs] at hc
  cases hq:QM0 j with
  | true=>rfl
  | false=>rw [hq] at hc;exact nomatch hc
theorem drop_told {j:Job} (h:((QD3 j).2==0)=true):(QD3 j).1.id=j.id∧(QD3 j).1.state=j.state∧Qk0 (QD3 j).1=0:=by
 unfold QD3 at h ⊢
 cases h1:((Qk0 j)!=0) with
 | true=>rw [h1] at h;simp only [cond_true] at h;simp at h1;simp at h;exact absurd h h1
 | false =>
  rw [h1] at h
  have hc:Qk0 j=0:=by simpa using h1
  cases h2:((Qn5 (j.state==1))!=0) with
  | true=>rw [h2] at h;simp only [cond_true,cond_false] at h;simp at h2;simp at h;exact absurd h h2
  | false =>
   have hs:j.state=1:=by
    unfold Qn5 at h2
    cases h3:(j.state==1) with
    | true=>simpa using h3
    | false=>rw [h3] at h2;exact nomatch h2
   refine ⟨rfl,rfl,check_over hc rfl rfl rfl rfl rfl (.inl ⟨hs,?_⟩)⟩
   have hq:=queued_of hc hs
   unfold QM0 at hq ⊢
   simp only [Bool.and_eq_true] at hq ⊢
   exact ⟨hq.1,by simp⟩
theorem end_told {j:Job} (h:((Qq2 j 6).2 != 0)=false) (hs:j.state=1):(Qq2 j 6).1.id=j.id∧(Qq2 j 6).1.state=6∧Qk0 (Qq2 j 6).1=0:=by
 unfold Qq2 at h ⊢
 cases h1:((Qk0 j)!=0) with
 | true=>rw [h1] at h;simp only [cond_true] at h;rw [h1] at h;exact nomatch h
 | false =>
  have hc:Qk0 j=0:=by simpa using h1
  rw [show (!(QN4 6))=false from rfl,show Qn5 ((j.state==2)||((j.state==1)&&((6:Int)==6)))=0 by rw [hs];rfl,show (j.state==1)=true by rw [hs];rfl]
  refine ⟨rfl,rfl,check_over hc rfl rfl rfl rfl rfl (.inr ⟨rfl,?_⟩)⟩
  have hq:=queued_of hc hs
  unfold QM0 at hq
  simp only [Bool.and_eq_true,beq_iff_eq] at hq
  exact over_bare rfl hq.1.1.1 hq.1.1.2 rfl rfl
theorem start_told {j:Job} {t n:Int} (h:((QF1 j t n).2 != 0)=false):(QF1 j t n).1.id=j.id∧(QF1 j t n).1.state=2:=by
 unfold QF1 at h ⊢
 cases h1:((Qk0 j)!=0) with
 | true=>rw [h1] at h;simp only [cond_true] at h;rw [h1] at h;exact nomatch h
 | false =>
  rw [h1] at h
  simp only [cond_false] at h ⊢
  repeat' first
   | exact ⟨rfl,rfl⟩
   | (revert h;rw [Bool.cond_eq_ite];split <;> intro h)
   | exact nomatch h
def EndR (x y:Job):Prop:=y.id=x.id∧(y=x∨(x.state=1∧y.state=6))
def SqzR (x y:Job):Prop:=y.id=x.id∧y.state=x.state∧(0<=x.promise->0<=y.promise∧y.promise<=x.promise)
def FrsR (x y:Job):Prop:=y.id=x.id∧y.state=x.state∧(y=x∨x.promise = -1)∧(Qk0 x=0->Qk0 y=0)
def PlnR (x y:Job):Prop:=y.id=x.id∧y.state=x.state∧(Qk0 x=0->Qk0 y=0)
def StaR (x y:Job):Prop:=y.id=x.id∧(y=x∨y.state=2)
theorem doom_go {l:List Job} (ht:Qh0 l=0):∀ (r:List Job) (m:List Job) (out:List Int) (i:Nat) (c:List (Int × Int)),l.drop i=r->Qh0 m=0->Row2 EndR l m ->
  Qh0 (QA1 r m out i c).1=0∧Row2 EndR l (QA1 r m out i c).1
 | [],m,out,i,c,_,hm,hr=>⟨hm,hr⟩
 | x :: r,m,out,i,c,hd,hm,hr=>by
  have hx:l[i]? = some x:=by have:=congrArg (·[0]?) hd;simpa using this
  have hd':l.drop (i+1)=r:=by rw [← List.drop_drop,hd];rfl
  rw [QA1]
  cases h1:((x.state != 1)||(!(QT4 c x))) with
  | true=>exact doom_go ht r m out (i+1) c hd' hm hr
  | false =>
   cases h2:((Qq2 x 6).2 != 0) with
   | true=>exact doom_go ht r m out (i+1) c hd' hm hr
   | false =>
    have hs:x.state=1:=by simp at h1;exact h1.1
    obtain ⟨e1,e2,e3⟩:=end_told h2 hs
    obtain ⟨y,hy,r1⟩:=hr.2 i x hx
    rw [cond_false,cond_false,put_ok hm hy e3 (e1.trans r1.1.symm)]
    refine doom_go ht r _ _ (i+1) _ hd' (table_set hm hy (e1.trans r1.1.symm) e3) (hr.set fun z hz=>?_)
    rw [hx] at hz
    cases hz
    exact ⟨e1,.inr ⟨hs,e2⟩⟩
theorem doom_row {l:List Job} (ht:Qh0 l=0):Qh0 (QU0 l).1=0∧Row2 EndR l (QU0 l).1:=by
 unfold QU0 Qm4 QY2
 rw [ht]
 exact doom_go ht l l [] 0 _ rfl ht (Row2.refl (fun x=>⟨rfl,.inl rfl⟩) l)
theorem QEc (p:List Step) (f latest g:Int) (o:List Alt):∀ (r:List Alt) (c t:Int) (b:Bool) (i:Nat),(b=true->t<=latest)->(Qz2 p f latest g o r c t b i).2.2=true->(Qz2 p f latest g o r c t b i).2.1<=latest
 | [],c,t,b,i,h=>h
 | x :: r,c,t,b,i,h=>by
  rw [Qz2]
  cases (!(Qg9 x.wall x.nodes))||(decide ((max g 0) > (w64 (1000000 - x.wall)))) with
  | true=>exact QEc p f latest g o r c t b (i+1) h
  | false =>
   rw [cond_false]
   cases h2:((!((Qp2 p f (w64 (x.wall+(max g 0))) x.nodes).2&&(decide ((Qp2 p f (w64 (x.wall+(max g 0))) x.nodes).1<=latest))))||(b&&(decide ((w64 ((Qp2 p f (w64 (x.wall+(max g 0))) x.nodes).1+x.wall)) >= (w64 (t+(o.getD (Int.toNat c) Alt.zero).wall)))))) with
   | true=>exact QEc p f latest g o r c t b (i+1) h
   | false =>
    simp only [Bool.or_eq_false_iff,Bool.not_eq_false',Bool.and_eq_true,decide_eq_true_eq] at h2
    exact QEc p f latest g o r _ _ true (i+1) (fun _=>h2.1.2)
theorem best_le {p:List Step} {o:List Alt} {f latest g:Int} (h:(Qk2 p o f latest g).2.2=true):(Qk2 p o f latest g).2.1<=latest:=by
 unfold Qk2 Q28 Qo4 at h ⊢
 revert h
 cases (decide ((o.length:Int) > 48)) with
 | true=>exact QEc p f latest g _ _ 0 0 false 0 (fun h=>nomatch h)
 | false=>exact QEc p f latest g _ _ 0 0 false 0 (fun h=>nomatch h)
theorem sqz_go (s:State) (M:List (Int × Int)) (l:List Job):∀ (r:List Int) (left:List Step) (ids:List Int) (i:Nat) (c:List Job),Row2 SqzR l c->Row2 SqzR l (Qr0 s M r left ids i c).2.2
 | [],_,_,_,_,h=>h
 | _ :: r,left,ids,i,c,h=>by
  rw [Qr0]
  generalize Int.toNat ((getM ((Q30 s).getD i 0) M).getD 0)=p
  generalize QT0 (c.getD p Job.zero)=cl
  dsimp only
  generalize Qi2 left cl.1 (w64 (cl.1+cl.2.1)) cl.2.2.1=own
  cases (own.2 != 0) with
  | true=>exact sqz_go s M l r left ids (i+1) c h
  | false =>
   rw [cond_false]
   generalize hb:Qk2 own.1 (Qe0 ((c.getD p Job.zero).shape)) s.now ((c.getD p Job.zero).promise) 12=b
   cases h1:((!b.2.2)||((b.1==(c.getD p Job.zero).choice)&&(b.2.1==(c.getD p Job.zero).promise))) with
   | true=>exact sqz_go s M l r left ids (i+1) c h
   | false =>
    rw [cond_false]
    cases h2:((Q21 (c.getD p Job.zero) b.2.1 b.1).2 != 0) with
    | true=>exact sqz_go s M l r left ids (i+1) c h
    | false =>
     rw [cond_false]
     obtain ⟨e1,e2,_⟩:=QYb h2
     simp only [Bool.or_eq_false_iff,Bool.not_eq_false'] at h1
     have hl:b.2.1<=(c.getD p Job.zero).promise:=by rw [← hb];exact best_le (by rw [hb];exact h1.1)
     rw [Bool.cond_eq_ite]
     split
     ·refine sqz_go s M l r _ _ (i+1) _ (h.set fun x hx=>?_)
      obtain ⟨_,g1,g2,g3⟩:=h.get hx
      rw [e1]
      exact ⟨g1,g2,fun h0=>⟨e2,Int.le_trans hl (g3 h0).2⟩⟩
     ·exact sqz_go s M l r _ _ (i+1) c h
theorem sqz_row (s:State):Row2 SqzR s.jobs (QJ0 s).1:=by
 have hr:=Row2.refl (R:=SqzR) (fun x=>⟨rfl,rfl,fun h=>⟨h,Int.le_refl _⟩⟩) s.jobs
 unfold QJ0 Qw2 Qr1
 cases ((QI1 s)!=0) with
 | true=>exact hr
 | false=>exact sqz_go s _ s.jobs _ _ _ _ _ hr
theorem frs_go {s:State} (ht:Qh0 s.jobs=0):∀ (r:List Job) (st:List Step × List Job × List Int),(∀ j ∈ r,j ∈ s.jobs∧j.promise = -1)->Row2 FrsR s.jobs st.2.1->Row2 FrsR s.jobs (r.foldl (Qs4 s) st).2.1
 | [],st,_,h=>h
 | j :: r,st,hr,h=>by
  rw [List.foldl_cons]
  refine frs_go ht r _ (fun z hz=>hr z (List.mem_cons_of_mem _ hz)) ?_
  obtain ⟨hj,hp⟩:=hr j (List.mem_cons_self ..)
  unfold Qs4
  cases (Qk2 st.1 (Qe0 j.shape) s.now 1000000 12).2.2 with
  | false=>exact h
  | true =>
   rw [cond_true]
   generalize (Qk2 st.1 (Qe0 j.shape) s.now 1000000 12).1=b
   generalize (Qk2 st.1 (Qe0 j.shape) s.now 1000000 12).2.1=t
   unfold Ql2
   dsimp only
   cases h2:((Q21 j t b).2 != 0) with
   | true=>exact h
   | false =>
    obtain ⟨e1,_,e3⟩:=QYb h2
    obtain ⟨k,hk⟩:=List.getElem?_of_mem hj
    obtain ⟨y,hy,r1⟩:=h.2 k j hk
    have key:∀ (L:List Step),Row2 FrsR s.jobs (Qc2 j st.2.1 st.2.2 (Q21 j t b) L).2.1:=by
     intro L
     obtain ⟨k',x',q1,q2,q3⟩:=g2_found j st.2.1 st.2.2 (Q21 j t b) L st.2.1 0 rfl ⟨y,List.mem_of_getElem? hy,r1.1⟩
     rw [Qc2,q1]
     refine h.set fun x hx=>?_
     obtain ⟨z,hz,r2⟩:=h.2 k' x hx
     rw [q2] at hz
     cases hz
     have:x=j:=table_same ht hx hk (r2.1.symm.trans q3)
     subst this
     rw [e1]
     exact ⟨rfl,rfl,.inr hp,fun _=>e3⟩
    rw [cond_false]
    rw [Bool.cond_eq_ite]
    split
    ·exact key _
    ·exact key _
theorem frs_row (s:State):Row2 FrsR s.jobs (QE1 s).1:=by
 have hr:=Row2.refl (R:=FrsR) (fun x=>⟨rfl,rfl,.inl rfl,id⟩) s.jobs
 unfold QE1
 cases h:((QI1 s)!=0) with
 | true=>exact hr
 | false=>exact frs_go (Qg6 (by simpa using h)).2 _ _ (fun j hj=>⟨open_in hj,by simpa using (List.mem_filter.1 hj).2⟩) hr
theorem drop_go (l:List Job):∀ (r:List Job) (i:Nat) (c:List Job),Row2 PlnR l c->Row2 PlnR l (Q22 r i c)
 | [],_,_,h=>h
 | _ :: r,i,c,h=>by
  rw [Q22]
  dsimp only
  cases h1:((QD3 (c.getD i Job.zero)).2==0) with
  | false=>exact drop_go l r (i+1) c h
  | true =>
   obtain ⟨e1,e2,e3⟩:=drop_told h1
   refine drop_go l r (i+1) _ (h.set fun x hx=>?_)
   obtain ⟨_,g1,g2,_⟩:=h.get hx
   exact ⟨e1.trans g1,e2.trans g2,fun _=>e3⟩
theorem anew_row (s:State):Row2 PlnR s.jobs (QC2 s).1:=by
 have hr:=Row2.refl (R:=PlnR) (fun x=>⟨rfl,rfl,id⟩) s.jobs
 unfold QC2
 cases h:((QI1 s)!=0) with
 | true=>exact hr
 | false=>exact Row2.trans (fun x y z a b=>⟨b.1.trans a.1,b.2.1.trans a.2.1,fun h=>b.2.2.2 (a.2.2 h)⟩) (drop_go s.jobs s.jobs 0 s.jobs hr) (frs_row { s with jobs:=Q22 s.jobs 0 s.jobs })
theorem Qjb:∀ (r m:List Job) (out:List Int) (i:Nat) (c:List (Int × Int)),(m.length<=4294967296 ∧ ∀ y ∈ m,y.sz)->(∀ x ∈ r,x.sz) ->
  ((QA1 r m out i c).1.length<=4294967296 ∧ ∀ y ∈ (QA1 r m out i c).1,y.sz)∧(QA1 r m out i c).2.1.length<=out.length+r.length
 | [],m,out,i,c,hm,_=>⟨hm,Nat.le_refl _⟩
 | x :: r,m,out,i,c,hm,hr=>by
  have hr':=fun y hy=>hr y (List.mem_cons_of_mem _ hy)
  rw [QA1,List.length_cons]
  have a:=Qjb r m out (i+1) c hm hr'
  rw [Bool.cond_eq_ite]
  split
  ·exact ⟨a.1,by omega⟩
  ·rw [Bool.cond_eq_ite]
   split
   ·exact ⟨a.1,by omega⟩
   ·have b:=Qjb r _ (out++[x.id]) (i+1) (setM x.id ((Qq2 x 6).1.state) c) (Qz4 hm (QC6 (hr x (List.mem_cons_self ..)) 6)) hr'
    rw [List.length_append,List.length_singleton] at b
    exact ⟨b.1,by omega⟩
theorem doom_sz {l:List Job} (h:l.length<=4294967296 ∧ ∀ y ∈ l,y.sz):((QU0 l).1.length<=4294967296 ∧ ∀ y ∈ (QU0 l).1,y.sz)∧(QU0 l).2.length<=4294967296:=by
 unfold QU0 Qm4 QY2
 rw [Bool.cond_eq_ite]
 split
 ·exact ⟨⟨Nat.zero_le _,fun y hy=>nomatch hy⟩,Nat.zero_le _⟩
 ·have a:=Qjb l l [] 0 (Q37 l 0 []) h h.2
  exact ⟨a.1,Nat.le_trans a.2 (by rw [List.length_nil,Nat.zero_add];exact h.1)⟩
theorem Q79 {s:State} (h:s.sz):({ s with jobs:=(QC2 s).1 }:State).sz∧(QC2 s).1.length=s.jobs.length :=
 ⟨⟨h.1,(QVb h).1,(QVb h).2,h.2.2.2⟩,(anew_row s).1⟩
theorem QE5 {s:State} (h:s.sz):({ s with jobs:=(QE1 { s with jobs:=(QJ0 s).1 }).1 }:State).sz∧({ s with jobs:=(QJ0 s).1 }:State).sz∧(QE1 { s with jobs:=(QJ0 s).1 }).1.length=s.jobs.length:=by
 have a:({ s with jobs:=(QJ0 s).1 }:State).sz:=⟨h.1,(Qh7 h).1.1,(Qh7 h).1.2,h.2.2.2⟩
 have b:=Qw6 a
 have e:(QE1 { s with jobs:=(QJ0 s).1 }).1.length=s.jobs.length:=b.1.trans (sqz_row s).1
 exact ⟨⟨h.1,by rw [e];exact h.2.1,b.2.1,h.2.2.2⟩,a,e⟩
set_option maxRecDepth 20000
set_option maxHeartbeats 4000000
attribute [local irreducible] ACalls AMoves
def Qc1 (w:Work) (c:Work):List Job->Nat->List Out->(List Out)
 | [],_,c2=>c2
 | x_ :: r,i,c2=>bif ((x_.state==1)&&((x_.promise != (w.state.jobs.getD i Job.zero).promise)||(x_.choice != (w.state.jobs.getD i Job.zero).choice))) then Qc1 w c r (i+1) (c2++([(⟨3,⟨#[]⟩,Note.zero,x_.id,x_.promise,(QE0 (QF0 w.state.jobs c.state.jobs) x_.id)⟩:Out)]:List Out)) else Qc1 w c r (i+1) c2
def Qs1 (c:Work) (c2:List Out):Work:=(⟨c.state,c2⟩:Work)
def Qk1 (w:Work) (c:Work):Work:=Qs1 c (Qc1 w c c.state.jobs 0 c.told)
def Q80 (w:Work) (anew:Bool):Work:=bif anew then Qk1 w (⟨{ w.state with jobs:=(QC2 w.state).1 },w.told⟩:Work) else Qk1 w (⟨{ w.state with jobs:=(QE1 { w.state with jobs:=(QJ0 w.state).1 }).1 },w.told⟩:Work)
theorem Qi4 {P:Prop} (h:P:=by first|((exact hk0.1))|first|((exact (QE5 hk0.1).2.1))|first|((exact hx.1))|first|((exact ⟨hk0.1.2.1,hk0.1.2.2.1⟩))|first|((exact ⟨hx.1.2.1,hx.1.2.2.1⟩))|first|((have hq:=Qxb (a:=w.state.jobs) c.state.jobs hk0.1.2.1;omega))|exact szA):P:=h
theorem Q06 {P:Prop} (h:P:=by first|((exact ⟨(Q79 hk0.1).1,hk0.2.1,(Q79 hk0.1).2⟩))|first|((exact ⟨(QE5 hk0.1).1,hk0.2.1,(QE5 hk0.1).2.2⟩))|first|((exact ⟨by omega,by omega⟩))|first|((exact ⟨by simp;omega,by simp;omega⟩))|exact exA):P:=h
theorem Qp9 (w:Work) (anew:Bool) (hs0:w.sz):AMoves Tryz.prog 33 [AVal.ptr 0 0 9 0 0,Bo anew] [(0,AObj.row 75 9 [[I w.state.now,nodeL w.state.nodes,jobL w.state.jobs,Qq1 w.state.resizes,bookL w.state.books,Qt1 w.state.ledger,I w.state.nextJob,I w.state.nextBook,AVal.own 1 0 9 0 w.told.length]]),(0,AObj.row 40 9 (w.told.map Out.cells))] 1 (AVal.tup []) [(0,AObj.row 75 9 [[I ((Q80 w anew).state.now),nodeL ((Q80 w anew).state.nodes),jobL ((Q80 w anew).state.jobs),Qq1 ((Q80 w anew).state.resizes),bookL ((Q80 w anew).state.books),Qt1 ((Q80 w anew).state.ledger),I ((Q80 w anew).state.nextJob),I ((Q80 w anew).state.nextBook),AVal.own 1 0 9 0 ((Q80 w anew).told).length]]),(0,AObj.row 40 9 ((Q80 w anew).told.map Out.cells))]:=by
 generalize hR:Q80 w anew=R;refine mo (kj [1000005] 8 [13,61,62,63,64,90]) Tryz.func33 ?_;have hk0:=hs0;obtain ⟨⟨z12,z13,z14,z15,z16,z17,z18⟩,z19,z20⟩:(w.state.nodes.length<=4294967296∧w.state.jobs.length<=4294967296∧(∀ y ∈ w.state.jobs,y.sz)∧w.state.resizes.length<=4294967296∧w.state.books.length<=4294967296∧w.state.ledger.length<=4294967296∧(∀ y ∈ w.state.ledger,y.sz))∧w.told.length<=4294967296∧(∀ y ∈ w.told,y.sz):=hs0;refine Qx1 (fun (c:Work)=>Qk1 w c=R∧(c.state.sz∧c.told.length<=4294967296∧c.state.jobs.length=w.state.jobs.length)) (fun c=>[(0,AVal.ptr 0 0 9 0 0),(4,jobL w.state.jobs)]) (fun c=>[(0,AObj.row 75 9 [[I c.state.now,nodeL c.state.nodes,jobL c.state.jobs,Qq1 c.state.resizes,bookL c.state.books,Qt1 c.state.ledger,I c.state.nextJob,I c.state.nextBook,AVal.own 1 0 9 0 c.told.length]]),(0,AObj.row 40 9 (c.told.map Out.cells))]) ?_ ?_
 ·clear hR;rintro c ⟨hR,hx⟩;(try dsimp only at hR hx);refine us (Q29 w.state.jobs c.state.jobs Qi4 Qi4 _) ?_;refine Qq0 (fun (i:Nat) (c2:List Out)=>Qs1 c (Qc1 w c (List.drop i c.state.jobs) i c2)=R∧i<=c.state.jobs.length∧(c2.length<=c.told.length+i)∧c2.length<=c.told.length+i) (fun i c2=>c.state.jobs.length - i) (fun i c2=>[(0,AVal.ptr 0 0 9 0 0),(4,jobL w.state.jobs),(5,ints (QF0 w.state.jobs c.state.jobs)),(61,jobL c.state.jobs),(62,I (c.state.jobs.length:Int)),(63,I (i:Int))]) (fun i c2=>[(0,AObj.row 75 9 [[I c.state.now,nodeL c.state.nodes,jobL c.state.jobs,Qq1 c.state.resizes,bookL c.state.books,Qt1 c.state.ledger,I c.state.nextJob,I c.state.nextBook,AVal.own 1 0 9 0 c2.length]]),(0,AObj.row 40 9 (c2.map Out.cells))]) 0 c.told (wk [0,1] (tO rfl (Q90 (c1 (cv (Q20 lw) (cv (Q20 lw) (cv (Q20 lw) (cv (Q20 lw) (cv (Q20 lw) (c1 (c1 (cv (to 1 lnA) .nil)))))))))) (tO rfl (tl eqA) .nil)) (sv (Q00 0 rfl rfl) (sl lw (sl lw (sl lw (s1 (s1 .nil))))))) ⟨foll hR rfl,by exact omA,Q06⟩ ?_;clear hR;rintro i c2 ⟨hR,hj,hx⟩;(try dsimp only at hR hj hx);refine ai (fun h1=>?_) (fun h2=>?_)
  ·have hlt:=ltA h1;rw [Qi0 Job.zero hlt] at hR;have hyz:=(‹c.state.sz∧c.told.length<=4294967296∧c.state.jobs.length=w.state.jobs.length›).1.2.2.1;have hxz:(c.state.jobs.getD i Job.zero).sz:=Qw1 (by first|assumption|grind) (Job.szz _);have hkz:=hxz;obtain ⟨z3,z4,z5,z6,z7⟩:=Job.zz hxz;refine And.intro (by first|exact fun hg=>decide_eq_true (by first|((have hl:=(‹c.state.sz∧c.told.length<=4294967296∧c.state.jobs.length=w.state.jobs.length›).2.2;omega))|exact ckA)|exact gkA) ?_;refine dchk (by kernel_rfl) ?_;refine And.intro (by first|exact fun hg=>decide_eq_true (by first|((have hl:=(‹c.state.sz∧c.told.length<=4294967296∧c.state.jobs.length=w.state.jobs.length›).2.2;omega))|exact ckA)|exact gkA) ?_;refine And.intro (by first|exact fun hg=>decide_eq_true (by first|((have hl:=(‹c.state.sz∧c.told.length<=4294967296∧c.state.jobs.length=w.state.jobs.length›).2.2;omega))|exact ckA)|exact gkA) ?_;(repeat ((first|refine ai rfl ?_|refine ai (fun _=>rfl) ?_)));refine ai (fun h8=>?_) (fun h9=>?_)
   ·refine dchk (by kernel_rfl) ?_;(first|apply u2|apply u3|apply u4|apply us);exact Qn1 (QF0 w.state.jobs c.state.jobs) ((c.state.jobs.getD i Job.zero).id) Qi4 _;(first|refine ⟨Qp1 80 rfl lnA apA,?_⟩|refine ⟨QN0 80 rfl apA,?_⟩);(repeat ((first|refine ai rfl ?_|refine ai (fun _=>rfl) ?_|refine ai (fun _=>Qn1 (QF0 w.state.jobs c.state.jobs) ((c.state.jobs.getD i Job.zero).id) Qi4 _) ?_)));exact Qd0 (i+1) (c2++([(⟨3,⟨#[]⟩,Note.zero,(c.state.jobs.getD i Job.zero).id,(c.state.jobs.getD i Job.zero).promise,(QE0 (QF0 w.state.jobs c.state.jobs) (c.state.jobs.getD i Job.zero).id)⟩:Out)]:List Out)) (wk [0,1] (tO rfl (Q90 (c1 (cv (Q20 lw) (cv (Q20 lw) (cv (Q20 lw) (cv (Q20 lw) (cv (Q20 lw) (c1 (c1 (cv (to 1 lnA) .nil)))))))))) (tO rfl (tl eqA) .nil)) (sv (Q00 0 rfl rfl) (sl lw (sl lw (sl lw (s1 (sv (Qa0 (I_eq (wr omA)) lx) .nil))))))) omA ⟨foll hR (congrArg (fun p:(List Out)=>Qs1 c p) (ct h8 rfl)),by exact omA,Q06⟩
   ·exact Qd0 (i+1) c2 (wk [0,1] (tO rfl (Q90 (c1 (cv (Q20 lw) (cv (Q20 lw) (cv (Q20 lw) (cv (Q20 lw) (cv (Q20 lw) (c1 (c1 (cv (to 1 lnA) .nil)))))))))) (tO rfl (tl eqA) .nil)) (sv (Q00 0 rfl rfl) (sl lw (sl lw (sl lw (s1 (sv (Qa0 (I_eq (wr omA)) lx) .nil))))))) omA ⟨foll hR (congrArg (fun p:(List Out)=>Qs1 c p) (cf h9 rfl)),by exact omA,Q06⟩
  ·rw [Ql0 (l:=c.state.jobs) (j:=i) (geA h2)] at hR;replace hR:Qs1 c c2=R:=fo2 (fun p:(List Out)=>Qs1 c p) (c2) hR rfl;obtain rfl:=foll hR rfl;exact rq (tt [0,1] (tO rfl (Q90 (c1 (cv (Q20 lw) (cv (Q20 lw) (cv (Q20 lw) (cv (Q20 lw) (cv (Q20 lw) (c1 (c1 (cv (to 1 lnA) .nil)))))))))) (tO rfl (tl eqA) .nil)) t1)
 ·refine ai (fun h10=>?_) (fun h11=>?_)
  ·refine us (plan_Anew_c w.state Qi4 _) ?_;exact Qo0 (⟨{ w.state with jobs:=(QC2 w.state).1 },w.told⟩:Work) (wk [0,1] (tO rfl (Q90 (c1 (cv (Q20 lw) (cv (Q20 lw) (cv (Q20 lw) (cv (Q20 lw) (cv (Q20 lw) (c1 (c1 (cv (to 1 lnA) .nil)))))))))) (tO rfl (tl eqA) .nil)) (sv (Q00 0 rfl rfl) (sl lw .nil))) (⟨foll hR (ct h10 rfl),Q06⟩)
  ·refine us (Qyb w.state Qi4 _) ?_;refine us (QWb { w.state with jobs:=(QJ0 w.state).1 } Qi4 _) ?_;exact Qo0 (⟨{ w.state with jobs:=(QE1 { w.state with jobs:=(QJ0 w.state).1 }).1 },w.told⟩:Work) (wk [0,1] (tO rfl (Q90 (c1 (cv (Q20 lw) (cv (Q20 lw) (cv (Q20 lw) (cv (Q20 lw) (cv (Q20 lw) (c1 (c1 (cv (to 1 lnA) .nil)))))))))) (tO rfl (tl eqA) .nil)) (sv (Q00 0 rfl rfl) (sl lw .nil))) (⟨foll hR (cf h11 rfl),Q06⟩)
def QB3 (id_:Int):Nat->Int->Nat->List Resize->Int × Nat × (List Resize)
 | 0,_,_,_=>(0,0,[])
 | m+1,i1,j,c=>bif (decide ((j:Int)<(c.length:Int))) then bif (!((c.getD j Resize.zero).job==id_)) then QB3 id_ m (w64 (i1+1)) (j+1) (c.set (Int.toNat i1) (c.getD j Resize.zero)) else QB3 id_ m i1 (j+1) c else (i1,j,c)
def QV1 (w:Work) (id_:Int) (why:Int) (tp:(List Job) × Int):List Resize->Nat->Int × Work
 | [],_=>(fun ea2:(List Node) × (List Note) × Int=>bif (ea2.2.2==0) then (ea2.2.2,(⟨{ w.state with nodes:=ea2.1,jobs:=tp.1 },((w.told++([(⟨5,⟨#[]⟩,Note.zero,id_,why,false⟩:Out)]:List Out))++(Q91 ea2.2.1))⟩:Work)) else (ea2.2.2,(⟨{ w.state with jobs:=tp.1 },(w.told++([(⟨5,⟨#[]⟩,Note.zero,id_,why,false⟩:Out)]:List Out))⟩:Work))) (QY0 w.state.nodes (wu64 (BitVec.ofInt 64 (Qg1 w.state.nodes id_ 1) ||| BitVec.ofInt 64 (Qg1 w.state.nodes id_ 2)).toNat) 7 0 w.state.now)
 | _ :: r,i=>bif ((w.state.resizes.getD i Resize.zero).job==id_) then bif ((i:Int)==(-1)) then (fun ea:(List Node) × (List Note) × Int=>bif (ea.2.2==0) then (ea.2.2,(⟨{ w.state with nodes:=ea.1,jobs:=tp.1 },((w.told++([(⟨5,⟨#[]⟩,Note.zero,id_,why,false⟩:Out)]:List Out))++(Q91 ea.2.1))⟩:Work)) else (ea.2.2,(⟨{ w.state with jobs:=tp.1 },(w.told++([(⟨5,⟨#[]⟩,Note.zero,id_,why,false⟩:Out)]:List Out))⟩:Work))) (QY0 w.state.nodes (wu64 (BitVec.ofInt 64 (Qg1 w.state.nodes id_ 1) ||| BitVec.ofInt 64 (Qg1 w.state.nodes id_ 2)).toNat) 7 0 w.state.now) else (fun p1:Int × Nat × (List Resize)=>(fun ea1:(List Node) × (List Note) × Int=>bif (ea1.2.2==0) then (ea1.2.2,(⟨{ w.state with nodes:=ea1.1,jobs:=tp.1,resizes:=(List.take (Int.toNat p1.1) p1.2.2) },((w.told++([(⟨5,⟨#[]⟩,Note.zero,id_,why,false⟩:Out)]:List Out))++(Q91 ea1.2.1))⟩:Work)) else (ea1.2.2,(⟨{ w.state with jobs:=tp.1,resizes:=(List.take (Int.toNat p1.1) p1.2.2) },(w.told++([(⟨5,⟨#[]⟩,Note.zero,id_,why,false⟩:Out)]:List Out))⟩:Work))) (QY0 w.state.nodes (wu64 (BitVec.ofInt 64 (Qg1 w.state.nodes id_ 1) ||| BitVec.ofInt 64 (Qg1 w.state.nodes id_ 2)).toNat) 7 0 w.state.now)) (QB3 id_ ((Int.toNat ((w.state.resizes.length:Int) - ((i+1):Int)))+1) (i:Int) (i+1) w.state.resizes) else QV1 w id_ why tp r (i+1)
def QZ4 (w:Work) (id_:Int) (why:Int) (tp:(List Job) × Int):Int × Work:=QV1 w id_ why tp w.state.resizes 0
def Qg0 (w:Work) (id_:Int) (why:Int):Int × Work:=(fun tf:Job × Bool=>bif (!tf.2) then (140,w) else (fun je:Job × Int=>bif (je.2 != 0) then (je.2,w) else (fun tp:(List Job) × Int=>bif (tf.1.state != 2) then (0,(⟨{ w.state with jobs:=tp.1 },(w.told++([(⟨5,⟨#[]⟩,Note.zero,id_,why,false⟩:Out)]:List Out))⟩:Work)) else QZ4 w id_ why tp ) (Q92 w.state.jobs je.1)) (Qq2 tf.1 why)) (Qc0 w.state.jobs id_)
theorem QV0 {P:Prop} (h:P:=by first|((exact ⟨hk0.1.2.1,hk0.1.2.2.1⟩))|first|((exact qtf))|first|((exact qje))|first|((exact hk0.1.1))|first|((exact Nat.le_trans qea.2 (by decide)))|exact szA):P:=h
theorem Q27 (w:Work) (id_:Int) (why:Int) (hs0:w.sz):AMoves Tryz.prog 55 [AVal.ptr 0 0 9 0 0,I id_,I why] [(0,AObj.row 75 9 [[I w.state.now,nodeL w.state.nodes,jobL w.state.jobs,AVal.own 1 0 5 0 w.state.resizes.length,bookL w.state.books,Qt1 w.state.ledger,I w.state.nextJob,I w.state.nextBook,AVal.own 2 0 9 0 w.told.length]]),(0,AObj.row 126 5 (w.state.resizes.map Resize.cells)),(0,AObj.row 40 9 (w.told.map Out.cells))] 1 (I ((Qg0 w id_ why).1)) [(0,AObj.row 75 9 [[I ((Qg0 w id_ why).2.state.now),nodeL ((Qg0 w id_ why).2.state.nodes),jobL ((Qg0 w id_ why).2.state.jobs),AVal.own 1 0 5 0 (((Qg0 w id_ why).2).state.resizes).length,bookL ((Qg0 w id_ why).2.state.books),Qt1 ((Qg0 w id_ why).2.state.ledger),I ((Qg0 w id_ why).2.state.nextJob),I ((Qg0 w id_ why).2.state.nextBook),AVal.own 2 0 9 0 (((Qg0 w id_ why).2).told).length]]),(0,AObj.row 126 5 (((Qg0 w id_ why).2).state.resizes.map Resize.cells)),(0,AObj.row 40 9 (((Qg0 w id_ why).2).told.map Out.cells))]:=by
 generalize hR:Qg0 w id_ why=R;refine mo (kj [1000011] 14 [25,33,44,88]) Tryz.func55 ?_;have hk0:=hs0;obtain ⟨⟨z25,z26,z27,z28,z29,z30,z31⟩,z32,z33⟩:(w.state.nodes.length<=4294967296∧w.state.jobs.length<=4294967296∧(∀ y ∈ w.state.jobs,y.sz)∧w.state.resizes.length<=4294967296∧w.state.books.length<=4294967296∧w.state.ledger.length<=4294967296∧(∀ y ∈ w.state.ledger,y.sz))∧w.told.length<=4294967296∧(∀ y ∈ w.told,y.sz):=hs0;refine dchk (by kernel_rfl) ?_;(first|apply u2|apply u3|apply u4|apply us);exact QA3 w.state.jobs id_ QV0 _;generalize hvtf:Qc0 w.state.jobs id_=tf;(have qtf:tf.1.sz:=by rw [← hvtf];exact Qt8 hk0.1.2.2.1 _);(repeat ((first|refine ai rfl ?_|refine ai (fun _=>rfl) ?_|refine ai (fun _=>by subst hvtf;exact QA3 w.state.jobs id_ QV0 _) ?_)));refine ai (fun h1=>?_) (fun h2=>?_)
 ·obtain rfl:=foll hR ((by subst hvtf;exact ct h1 rfl));subst_vars;exact rq (tt [0,1,2] (tO rfl (Q90 (c1 (cv (Q20 lw) (cv (Q20 lw) (cv (to 1 lnA) (cv (Q20 lw) (cv (Q20 lw) (c1 (c1 (cv (to 2 lnA) .nil)))))))))) (tO rfl (tl eqA) (tO rfl (tl eqA) .nil))) t1)
 ·refine us (job_End_c tf.1 why QV0 _) ?_;generalize hvje:Qq2 tf.1 why=je;(have qje:je.1.sz:=by rw [← hvje];exact QC6 qtf _);refine ai (fun h3=>?_) (fun h4=>?_)
  ·obtain rfl:=foll hR ((by subst hvtf;exact cf h2 (by subst hvje;exact ct h3 rfl)));subst_vars;exact rq (tt [0,1,2] (tO rfl (Q90 (c1 (cv (Q20 lw) (cv (Q20 lw) (cv (to 1 lnA) (cv (Q20 lw) (cv (Q20 lw) (c1 (c1 (cv (to 2 lnA) .nil)))))))))) (tO rfl (tl eqA) (tO rfl (tl eqA) .nil))) t1)
  ·refine ACalls.of_cwp (fun _=>true) Tryz.func85 rfl rfl ?_;refine dchk (by kernel_rfl) ?_;(first|apply u2|apply u3|apply u4|apply us);exact QZ6 w.state.jobs je.1 QV0 QV0 _;generalize hvtp:Q92 w.state.jobs je.1=tp;(have qtp:tp.1.length<=4294967296 ∧ ∀ y ∈ tp.1,y.sz:=by rw [← hvtp];exact Qz4 ⟨hk0.1.2.1,hk0.1.2.2.1⟩ qje);(repeat ((first|refine ai rfl ?_|refine ai (fun _=>rfl) ?_|refine ai (fun _=>by subst hvtp;exact QZ6 w.state.jobs je.1 QV0 QV0 _) ?_)));refine ai (fun h5=>?_) (fun h6=>?_)
   ·refine ⟨_,_,Told.refl,?_⟩;refine ACalls.of_cwp (fun _=>true) Tryz.func32 rfl rfl ?_;refine Or.inl ?_;(first|refine ⟨Qp1 80 rfl lnA apA,?_⟩|refine ⟨QN0 80 rfl apA,?_⟩);refine ⟨_,_,Told.refl,?_⟩;refine join_start (X:=Unit) (fun _=>QZ4 w id_ why tp  = R) (fun _=>[(0,AVal.ptr 0 0 9 0 0),(4,AVal.ptr 3 0 1 0 0),(6,I 0),(10,I je.2)]) (fun _=>[(0,AObj.row 75 9 [[I w.state.now,nodeL w.state.nodes,jobL tp.1,AVal.own 1 0 5 0 w.state.resizes.length,bookL w.state.books,Qt1 w.state.ledger,I w.state.nextJob,I w.state.nextBook,AVal.own 2 0 9 0 ((w.told++([(⟨5,⟨#[]⟩,Note.zero,id_,why,false⟩:Out)]:List Out)).length)]]),(0,AObj.row 126 5 (w.state.resizes.map Resize.cells)),(0,AObj.row 40 9 ((w.told++([(⟨5,⟨#[]⟩,Note.zero,id_,why,false⟩:Out)]:List Out)).map Out.cells)),(0,AObj.row 3 1 [[I id_]])]) ?_ ?_
    ·clear hR;rintro _ hR;(try dsimp only at hR);refine ACalls.of_cwp (fun _=>true) Tryz.func102 rfl rfl ?_;refine ACalls.of_cwp (fun _=>true) Tryz.func175 rfl rfl ?_;refine Qs0 (fun (i:Nat)=>QV1 w id_ why tp (List.drop i w.state.resizes) i=R∧i<=w.state.resizes.length) (fun i=>w.state.resizes.length - i) (fun i=>[(0,AVal.own 1 0 5 0 w.state.resizes.length),(1,AVal.fn (.func 103) [] [AVal.ptr 3 0 1 0 0]),(4,I 0),(7,I (w.state.resizes.length:Int)),(8,I (i:Int))]) (fun i=>[(0,AObj.row 75 9 [[I w.state.now,nodeL w.state.nodes,jobL tp.1,AVal.own 1 0 5 0 w.state.resizes.length,bookL w.state.books,Qt1 w.state.ledger,I w.state.nextJob,I w.state.nextBook,AVal.own 2 0 9 0 ((w.told++([(⟨5,⟨#[]⟩,Note.zero,id_,why,false⟩:Out)]:List Out)).length)]]),(0,AObj.row 126 5 (w.state.resizes.map Resize.cells)),(0,AObj.row 40 9 ((w.told++([(⟨5,⟨#[]⟩,Note.zero,id_,why,false⟩:Out)]:List Out)).map Out.cells)),(0,AObj.row 3 1 [[I id_]])]) 0 (wk [0,1,2,3] (tO rfl (Q90 (c1 (cv (Q20 lw) (cv (Q20 lw) (cv (to 1 lnA) (cv (Q20 lw) (cv (Q20 lw) (c1 (c1 (cv (to 2 lnA) .nil)))))))))) (tO rfl (tl eqA) (tO rfl (tl eqA) (tO rfl (ts (l1 LowL.nil)) .nil)))) (sv (to 1 lnA) (sv (Qu0 .nil (cv (Q00 3 rfl rfl) .nil)) (s1 (s1 (s1 .nil)))))) ⟨foll hR rfl,by exact omA⟩ ?_;clear hR;rintro i ⟨hR,hj⟩;(try dsimp only at hR hj);refine ai (fun h7=>?_) (fun h8=>?_)
     ·have hlt:=ltA h7;rw [Qi0 Resize.zero hlt] at hR;refine ai gkA ?_;refine ⟨_,QA0 rfl rfl rfl (QC0 Resize.zero i (by first|rfl|exact Nat.zero_add _|omega) ckA) rfl,?_⟩;refine ACalls.of_cwp (fun _=>true) Tryz.func103 rfl rfl ?_;refine ⟨_,_,Told.refl,?_⟩;refine ai (fun h9=>?_) (fun h10=>?_)
      ·refine ⟨_,_,Told.refl,?_⟩;refine ai (fun h11=>?_) (fun h12=>?_)
       ·refine ⟨_,_,Told.refl,?_⟩;refine dchk (by kernel_rfl) ?_;(first|apply u2|apply u3|apply u4|apply us);exact Qg2 w.state.nodes id_ 1 QV0 _;(first|apply u2|apply u3|apply u4|apply us);exact Qg2 w.state.nodes id_ 2 QV0 _;(repeat ((first|refine ai rfl ?_|refine ai (fun _=>rfl) ?_|refine ai (fun _=>Qg2 w.state.nodes id_ 1 QV0 _) ?_|refine ai (fun _=>Qg2 w.state.nodes id_ 2 QV0 _) ?_)));(try (refine dchk (by kernel_rfl) ?_));(first|apply u2|apply u3|apply u4|apply us);exact Qn2 w.state.nodes (wu64 (BitVec.ofInt 64 (Qg1 w.state.nodes id_ 1) ||| BitVec.ofInt 64 (Qg1 w.state.nodes id_ 2)).toNat) 7 0 w.state.now QV0 _;generalize hvea:QY0 w.state.nodes (wu64 (BitVec.ofInt 64 (Qg1 w.state.nodes id_ 1) ||| BitVec.ofInt 64 (Qg1 w.state.nodes id_ 2)).toNat) 7 0 w.state.now=ea;(have qea:ea.1.length<=4294967296∧ea.2.1.length<=64:=by rw [← hvea];exact ⟨Nat.le_trans (Qt7 _ _ _ _ _).1 hk0.1.1,(Qt7 _ _ _ _ _).2⟩);(repeat ((first|refine ai rfl ?_|refine ai (fun _=>rfl) ?_|refine ai (fun _=>by subst hvea;exact Qn2 w.state.nodes (wu64 (BitVec.ofInt 64 (Qg1 w.state.nodes id_ 1) ||| BitVec.ofInt 64 (Qg1 w.state.nodes id_ 2)).toNat) 7 0 w.state.now QV0 _) ?_)));refine ai (fun h13=>?_) (fun h14=>?_)
        ·refine dchk (by kernel_rfl) ?_;(first|apply u2|apply u3|apply u4|apply us);exact Q02 ea.2.1 QV0 _;(first|refine ⟨Qp1 80 rfl lnA apA,?_⟩|refine ⟨QN0 80 rfl apA,?_⟩);(repeat ((first|refine ai rfl ?_|refine ai (fun _=>rfl) ?_|refine ai (fun _=>Q02 ea.2.1 QV0 _) ?_)));obtain rfl:=foll hR (ct h9 (ct h11 (by subst hvea;exact ct h13 rfl)));subst_vars;exact rq (tt [0,1,2] (tO rfl (Q90 (c1 (cv (Q20 lw) (cv (Q20 lw) (cv (to 1 lnA) (cv (Q20 lw) (cv (Q20 lw) (c1 (c1 (cv (to 2 lnA) .nil)))))))))) (tO rfl (tl eqA) (tO rfl (tl eqA) .nil))) t1)
        ·obtain rfl:=foll hR (ct h9 (ct h11 (by subst hvea;exact cf h14 rfl)));subst_vars;exact rq (tt [0,1,2] (tO rfl (Q90 (c1 (cv (Q20 lw) (cv (Q20 lw) (cv (to 1 lnA) (cv (Q20 lw) (cv (Q20 lw) (c1 (c1 (cv (to 2 lnA) .nil)))))))))) (tO rfl (tl eqA) (tO rfl (tl eqA) .nil))) t1)
       ·refine Qr4 (fun (i1:Int) (j:Nat) (c:List Resize)=>∃ m,(Int.toNat ((c.length:Int) - (j:Int)))<m∧(fun p1:Int × Nat × (List Resize)=>(fun ea1:(List Node) × (List Note) × Int=>bif (ea1.2.2==0) then (ea1.2.2,(⟨{ w.state with nodes:=ea1.1,jobs:=tp.1,resizes:=(List.take (Int.toNat p1.1) p1.2.2) },((w.told++([(⟨5,⟨#[]⟩,Note.zero,id_,why,false⟩:Out)]:List Out))++(Q91 ea1.2.1))⟩:Work)) else (ea1.2.2,(⟨{ w.state with jobs:=tp.1,resizes:=(List.take (Int.toNat p1.1) p1.2.2) },(w.told++([(⟨5,⟨#[]⟩,Note.zero,id_,why,false⟩:Out)]:List Out))⟩:Work))) (QY0 w.state.nodes (wu64 (BitVec.ofInt 64 (Qg1 w.state.nodes id_ 1) ||| BitVec.ofInt 64 (Qg1 w.state.nodes id_ 2)).toNat) 7 0 w.state.now)) (QB3 id_ m i1 j c)=R∧(0<=i1∧i1<(j:Int)∧(j:Int)<=(c.length:Int)∧c.length<=4294967296)∧c.length=w.state.resizes.length) (fun i1 j c=>(Int.toNat ((c.length:Int) - (j:Int)))) (fun i1 j c=>[(0,AVal.own 1 0 5 0 c.length),(1,AVal.fn (.func 103) [] [AVal.ptr 3 0 1 0 0]),(4,AVal.lit (.slice none 0 0)),(5,I i1),(6,I (j:Int))]) (fun i1 j c=>[(0,AObj.row 75 9 [[I w.state.now,nodeL w.state.nodes,jobL tp.1,AVal.own 1 0 5 0 c.length,bookL w.state.books,Qt1 w.state.ledger,I w.state.nextJob,I w.state.nextBook,AVal.own 2 0 9 0 ((w.told++([(⟨5,⟨#[]⟩,Note.zero,id_,why,false⟩:Out)]:List Out)).length)]]),(0,AObj.row 126 5 (c.map Resize.cells)),(0,AObj.row 40 9 ((w.told++([(⟨5,⟨#[]⟩,Note.zero,id_,why,false⟩:Out)]:List Out)).map Out.cells)),(0,AObj.row 3 1 [[I id_]])]) (i:Int) (i+1) w.state.resizes (wk [0,1,2,3] (tO rfl (Q90 (c1 (cv (Q20 lw) (cv (Q20 lw) (cv (to 1 lnA) (cv (Q20 lw) (cv (Q20 lw) (c1 (c1 (cv (to 2 lnA) .nil)))))))))) (tO rfl (tl eqA) (tO rfl (tl eqA) (tO rfl (ts (l1 LowL.nil)) .nil)))) (sv (to 1 lnA) (sv (Qu0 .nil (cv (Q00 3 rfl rfl) .nil)) (s1 (s1 (sv (Qa0 (I_eq (wr omA)) lx) .nil)))))) ⟨_,Nat.lt_succ_self _,foll hR (ct h9 (cf h12 rfl)),by exact exA⟩ ?_;clear hR;rintro i1 j c ⟨m,hm,hR,hx⟩;(try dsimp only at hR hm hx);obtain ⟨m,rfl⟩:=sucA m;refine ai (fun h15=>?_) (fun h16=>?_)
        ·have qh15:=of_decide_eq_true h15;have hw1:w64 (i1+1)=i1+1:=wr (by omega);have hw2:w64 ((j:Int)+1)=(j:Int)+1:=wr (by omega);refine ai gkA ?_;refine ⟨_,QA0 rfl rfl rfl (QC0 Resize.zero j (by first|rfl|exact Nat.zero_add _|omega) ckA) rfl,?_⟩;refine ACalls.of_cwp (fun _=>true) Tryz.func103 rfl rfl ?_;refine ⟨_,_,Told.refl,?_⟩;refine ai (fun h17=>?_) (fun h18=>?_)
         ·refine ai gkA ?_;refine ⟨_,Q01 rfl rfl rfl rfl (QC0 Resize.zero (Int.toNat i1) (by first|rfl|exact Nat.zero_add _|omega) ckA) rfl rfl (Qp8 (Int.toNat i1) (c.getD j Resize.zero) (by first|rfl|exact Nat.zero_add _|omega) rfl),?_⟩;exact Qz1 (w64 (i1+1)) (j+1) (c.set (Int.toNat i1) (c.getD j Resize.zero)) (wk [0,1,2,3] (tO rfl (Q90 (c1 (cv (Q20 lw) (cv (Q20 lw) (cv (to 1 lnA) (cv (Q20 lw) (cv (Q20 lw) (c1 (c1 (cv (to 2 lnA) .nil)))))))))) (tO rfl (tl eqA) (tO rfl (tl eqA) (tO rfl (ts (l1 LowL.nil)) .nil)))) (sv (to 1 lnA) (sv (Qu0 .nil (cv (Q00 3 rfl rfl) .nil)) (s1 (s1 (sv (Qa0 (I_eq (wr omA)) lx) .nil)))))) omA ⟨m,by exact omA,foll hR (congrArg (fun p1:Int × Nat × (List Resize)=>(fun ea1:(List Node) × (List Note) × Int=>bif (ea1.2.2==0) then (ea1.2.2,(⟨{ w.state with nodes:=ea1.1,jobs:=tp.1,resizes:=(List.take (Int.toNat p1.1) p1.2.2) },((w.told++([(⟨5,⟨#[]⟩,Note.zero,id_,why,false⟩:Out)]:List Out))++(Q91 ea1.2.1))⟩:Work)) else (ea1.2.2,(⟨{ w.state with jobs:=tp.1,resizes:=(List.take (Int.toNat p1.1) p1.2.2) },(w.told++([(⟨5,⟨#[]⟩,Note.zero,id_,why,false⟩:Out)]:List Out))⟩:Work))) (QY0 w.state.nodes (wu64 (BitVec.ofInt 64 (Qg1 w.state.nodes id_ 1) ||| BitVec.ofInt 64 (Qg1 w.state.nodes id_ 2)).toNat) 7 0 w.state.now)) (ct h15 (ct h17 rfl))),by exact exA⟩
         ·exact Qz1 i1 (j+1) c (wk [0,1,2,3] (tO rfl (Q90 (c1 (cv (Q20 lw) (cv (Q20 lw) (cv (to 1 lnA) (cv (Q20 lw) (cv (Q20 lw) (c1 (c1 (cv (to 2 lnA) .nil)))))))))) (tO rfl (tl eqA) (tO rfl (tl eqA) (tO rfl (ts (l1 LowL.nil)) .nil)))) (sv (to 1 lnA) (sv (Qu0 .nil (cv (Q00 3 rfl rfl) .nil)) (s1 (s1 (sv (Qa0 (I_eq (wr omA)) lx) .nil)))))) omA ⟨m,by exact omA,foll hR (congrArg (fun p1:Int × Nat × (List Resize)=>(fun ea1:(List Node) × (List Note) × Int=>bif (ea1.2.2==0) then (ea1.2.2,(⟨{ w.state with nodes:=ea1.1,jobs:=tp.1,resizes:=(List.take (Int.toNat p1.1) p1.2.2) },((w.told++([(⟨5,⟨#[]⟩,Note.zero,id_,why,false⟩:Out)]:List Out))++(Q91 ea1.2.1))⟩:Work)) else (ea1.2.2,(⟨{ w.state with jobs:=tp.1,resizes:=(List.take (Int.toNat p1.1) p1.2.2) },(w.told++([(⟨5,⟨#[]⟩,Note.zero,id_,why,false⟩:Out)]:List Out))⟩:Work))) (QY0 w.state.nodes (wu64 (BitVec.ofInt 64 (Qg1 w.state.nodes id_ 1) ||| BitVec.ofInt 64 (Qg1 w.state.nodes id_ 2)).toNat) 7 0 w.state.now)) (ct h15 (cf h18 rfl))),by exact exA⟩
        ·have qh16:=of_decide_eq_false h16;replace hR:(fun p1:Int × Nat × (List Resize)=>(fun ea1:(List Node) × (List Note) × Int=>bif (ea1.2.2==0) then (ea1.2.2,(⟨{ w.state with nodes:=ea1.1,jobs:=tp.1,resizes:=(List.take (Int.toNat p1.1) p1.2.2) },((w.told++([(⟨5,⟨#[]⟩,Note.zero,id_,why,false⟩:Out)]:List Out))++(Q91 ea1.2.1))⟩:Work)) else (ea1.2.2,(⟨{ w.state with jobs:=tp.1,resizes:=(List.take (Int.toNat p1.1) p1.2.2) },(w.told++([(⟨5,⟨#[]⟩,Note.zero,id_,why,false⟩:Out)]:List Out))⟩:Work))) (QY0 w.state.nodes (wu64 (BitVec.ofInt 64 (Qg1 w.state.nodes id_ 1) ||| BitVec.ofInt 64 (Qg1 w.state.nodes id_ 2)).toNat) 7 0 w.state.now)) (i1,j,c)=R:=foll hR (congrArg (fun p1:Int × Nat × (List Resize)=>(fun ea1:(List Node) × (List Note) × Int=>bif (ea1.2.2==0) then (ea1.2.2,(⟨{ w.state with nodes:=ea1.1,jobs:=tp.1,resizes:=(List.take (Int.toNat p1.1) p1.2.2) },((w.told++([(⟨5,⟨#[]⟩,Note.zero,id_,why,false⟩:Out)]:List Out))++(Q91 ea1.2.1))⟩:Work)) else (ea1.2.2,(⟨{ w.state with jobs:=tp.1,resizes:=(List.take (Int.toNat p1.1) p1.2.2) },(w.told++([(⟨5,⟨#[]⟩,Note.zero,id_,why,false⟩:Out)]:List Out))⟩:Work))) (QY0 w.state.nodes (wu64 (BitVec.ofInt 64 (Qg1 w.state.nodes id_ 1) ||| BitVec.ofInt 64 (Qg1 w.state.nodes id_ 2)).toNat) 7 0 w.state.now)) (cf h16 rfl));refine ai gkA ?_;refine And.intro (And.intro (by (simp only [List.length_map,List.length_set,Int.toNat_natCast,Option.getD_some,Option.getD_none];omega)) rfl) ?_;refine ai gkA ?_;refine ⟨_,_,Told.refl,?_⟩;refine dchk (by kernel_rfl) ?_;(first|apply u2|apply u3|apply u4|apply us);exact Qg2 w.state.nodes id_ 1 QV0 _;(first|apply u2|apply u3|apply u4|apply us);exact Qg2 w.state.nodes id_ 2 QV0 _;(repeat ((first|refine ai rfl ?_|refine ai (fun _=>rfl) ?_|refine ai (fun _=>Qg2 w.state.nodes id_ 1 QV0 _) ?_|refine ai (fun _=>Qg2 w.state.nodes id_ 2 QV0 _) ?_)));(try (refine dchk (by kernel_rfl) ?_));(first|apply u2|apply u3|apply u4|apply us);exact Qn2 w.state.nodes (wu64 (BitVec.ofInt 64 (Qg1 w.state.nodes id_ 1) ||| BitVec.ofInt 64 (Qg1 w.state.nodes id_ 2)).toNat) 7 0 w.state.now QV0 _;generalize hvea1:QY0 w.state.nodes (wu64 (BitVec.ofInt 64 (Qg1 w.state.nodes id_ 1) ||| BitVec.ofInt 64 (Qg1 w.state.nodes id_ 2)).toNat) 7 0 w.state.now=ea1;(have qea:ea1.1.length<=4294967296∧ea1.2.1.length<=64:=by rw [← hvea1];exact ⟨Nat.le_trans (Qt7 _ _ _ _ _).1 hk0.1.1,(Qt7 _ _ _ _ _).2⟩);(repeat ((first|refine ai rfl ?_|refine ai (fun _=>rfl) ?_|refine ai (fun _=>by subst hvea1;exact Qn2 w.state.nodes (wu64 (BitVec.ofInt 64 (Qg1 w.state.nodes id_ 1) ||| BitVec.ofInt 64 (Qg1 w.state.nodes id_ 2)).toNat) 7 0 w.state.now QV0 _) ?_)));refine ai (fun h19=>?_) (fun h20=>?_)
         ·refine dchk (by kernel_rfl) ?_;(first|apply u2|apply u3|apply u4|apply us);exact Q02 ea1.2.1 QV0 _;(first|refine ⟨Qp1 80 rfl lnA apA,?_⟩|refine ⟨QN0 80 rfl apA,?_⟩);(repeat ((first|refine ai rfl ?_|refine ai (fun _=>rfl) ?_|refine ai (fun _=>Q02 ea1.2.1 QV0 _) ?_)));obtain rfl:=foll hR ((by subst hvea1;exact ct h19 rfl));subst_vars;exact rq (tt [0,1,2] (tO rfl (Q90 (c1 (cv (Q20 lw) (cv (Q20 lw) (cv (to 1 lnA) (cv (Q20 lw) (cv (Q20 lw) (c1 (c1 (cv (to 2 lnA) .nil)))))))))) (tO rfl (tl eqA) (tO rfl (tl eqA) .nil))) t1)
         ·obtain rfl:=foll hR ((by subst hvea1;exact cf h20 rfl));subst_vars;exact rq (tt [0,1,2] (tO rfl (Q90 (c1 (cv (Q20 lw) (cv (Q20 lw) (cv (to 1 lnA) (cv (Q20 lw) (cv (Q20 lw) (c1 (c1 (cv (to 2 lnA) .nil)))))))))) (tO rfl (tl eqA) (tO rfl (tl eqA) .nil))) t1)
      ·exact Qz0 (i+1) (wk [0,1,2,3] (tO rfl (Q90 (c1 (cv (Q20 lw) (cv (Q20 lw) (cv (to 1 lnA) (cv (Q20 lw) (cv (Q20 lw) (c1 (c1 (cv (to 2 lnA) .nil)))))))))) (tO rfl (tl eqA) (tO rfl (tl eqA) (tO rfl (ts (l1 LowL.nil)) .nil)))) (sv (to 1 lnA) (sv (Qu0 .nil (cv (Q00 3 rfl rfl) .nil)) (s1 (s1 (sv (Qa0 (I_eq (wr omA)) lx) .nil)))))) omA ⟨foll hR (cf h10 rfl),by exact omA⟩
     ·rw [Ql0 (l:=w.state.resizes) (j:=i) (geA h8)] at hR;refine ⟨_,_,Told.refl,?_⟩;refine ai (fun _=>?_) (fun h=>nomatch h);refine ⟨_,_,Told.refl,?_⟩;refine dchk (by kernel_rfl) ?_;(first|apply u2|apply u3|apply u4|apply us);exact Qg2 w.state.nodes id_ 1 QV0 _;(first|apply u2|apply u3|apply u4|apply us);exact Qg2 w.state.nodes id_ 2 QV0 _;(repeat ((first|refine ai rfl ?_|refine ai (fun _=>rfl) ?_|refine ai (fun _=>Qg2 w.state.nodes id_ 1 QV0 _) ?_|refine ai (fun _=>Qg2 w.state.nodes id_ 2 QV0 _) ?_)));(try (refine dchk (by kernel_rfl) ?_));(first|apply u2|apply u3|apply u4|apply us);exact Qn2 w.state.nodes (wu64 (BitVec.ofInt 64 (Qg1 w.state.nodes id_ 1) ||| BitVec.ofInt 64 (Qg1 w.state.nodes id_ 2)).toNat) 7 0 w.state.now QV0 _;generalize hvea2:QY0 w.state.nodes (wu64 (BitVec.ofInt 64 (Qg1 w.state.nodes id_ 1) ||| BitVec.ofInt 64 (Qg1 w.state.nodes id_ 2)).toNat) 7 0 w.state.now=ea2;(have qea:ea2.1.length<=4294967296∧ea2.2.1.length<=64:=by rw [← hvea2];exact ⟨Nat.le_trans (Qt7 _ _ _ _ _).1 hk0.1.1,(Qt7 _ _ _ _ _).2⟩);(repeat ((first|refine ai rfl ?_|refine ai (fun _=>rfl) ?_|refine ai (fun _=>by subst hvea2;exact Qn2 w.state.nodes (wu64 (BitVec.ofInt 64 (Qg1 w.state.nodes id_ 1) ||| BitVec.ofInt 64 (Qg1 w.state.nodes id_ 2)).toNat) 7 0 w.state.now QV0 _) ?_)));refine ai (fun h21=>?_) (fun h22=>?_)
      ·refine dchk (by kernel_rfl) ?_;(first|apply u2|apply u3|apply u4|apply us);exact Q02 ea2.2.1 QV0 _;(first|refine ⟨Qp1 80 rfl lnA apA,?_⟩|refine ⟨QN0 80 rfl apA,?_⟩);(repeat ((first|refine ai rfl ?_|refine ai (fun _=>rfl) ?_|refine ai (fun _=>Q02 ea2.2.1 QV0 _) ?_)));obtain rfl:=foll hR ((by subst hvea2;exact ct h21 rfl));subst_vars;exact rq (tt [0,1,2] (tO rfl (Q90 (c1 (cv (Q20 lw) (cv (Q20 lw) (cv (to 1 lnA) (cv (Q20 lw) (cv (Q20 lw) (c1 (c1 (cv (to 2 lnA) .nil)))))))))) (tO rfl (tl eqA) (tO rfl (tl eqA) .nil))) t1)
      ·obtain rfl:=foll hR ((by subst hvea2;exact cf h22 rfl));subst_vars;exact rq (tt [0,1,2] (tO rfl (Q90 (c1 (cv (Q20 lw) (cv (Q20 lw) (cv (to 1 lnA) (cv (Q20 lw) (cv (Q20 lw) (c1 (c1 (cv (to 2 lnA) .nil)))))))))) (tO rfl (tl eqA) (tO rfl (tl eqA) .nil))) t1)
    ·refine ai (fun h23=>?_) (fun h24=>?_)
     ·obtain rfl:=foll hR ((by subst hvtf;exact cf h2 (by subst hvje;exact cf h4 (by subst hvtp;exact ct h23 rfl))));subst_vars;exact rq (tt [0,1,2] (tO rfl (Q90 (c1 (cv (Q20 lw) (cv (Q20 lw) (cv (to 1 lnA) (cv (Q20 lw) (cv (Q20 lw) (c1 (c1 (cv (to 2 lnA) .nil)))))))))) (tO rfl (tl eqA) (tO rfl (tl eqA) .nil))) t1)
     ·exact Qfd () (wk [0,1,2,3] (tO rfl (Q90 (c1 (cv (Q20 lw) (cv (Q20 lw) (cv (to 1 lnA) (cv (Q20 lw) (cv (Q20 lw) (c1 (c1 (cv (to 2 lnA) .nil)))))))))) (tO rfl (tl eqA) (tO rfl (tl eqA) (tO rfl (ts (l1 LowL.nil)) .nil)))) (sv (Q00 0 rfl rfl) (sv (Q00 3 rfl rfl) (s1 (s1 .nil))))) (foll hR ((by subst hvtf;exact cf h2 (by subst hvje;exact cf h4 (by subst hvtp;exact cf h24 rfl)))))
   ·exfalso;exact Bool.noConfusion (h6.symm.trans (put_never hvtf (by assumption) hvje (by assumption) hvtp))
def Qo2 (s:State) (id_:Int) (why:Int):State × (List Out) × Int:=bif ((QY1 s)!=0) then (State.zero,[],(QY1 s)) else bif ((Qg0 (⟨s,[]⟩:Work) id_ why).1 != 0) then (State.zero,[],(Qg0 (⟨s,[]⟩:Work) id_ why).1) else ({ (Qg0 (⟨s,[]⟩:Work) id_ why).2.state with resizes:=((Qg0 (⟨s,[]⟩:Work) id_ why).2).state.resizes },((Qg0 (⟨s,[]⟩:Work) id_ why).2).told,0)
theorem bwDdEnd0 {P:Prop} (h:P:=by first|((with_reducible exact hk0))|first|((exact ⟨hk0,Nat.zero_le _,fun y hy=>nomatch hy⟩))|exact szA):P:=h
theorem deeds_End_c (s:State) (id_:Int) (why:Int) (hs0:s.sz):GV 15 [State.a s,I id_,I why] (AVal.tup [State.a ((Qo2 s id_ why).1),outL ((Qo2 s id_ why).2.1),I ((Qo2 s id_ why).2.2)]):=by
 generalize hR:Qo2 s id_ why=R;refine ga (.cons (State.low _ _) (l1 (l1 .nil))) (Low.tup' (.cons (State.low _ _) (.cons lw (l1 .nil)))) (kp 12 [15,27]) Tryz.func15 ?_;have hk0:=hs0;obtain ⟨z5,z6,z7,z8,z9,z10,z11⟩:=hs0;refine us (Qz6 s bwDdEnd0 _) ?_;refine ai (fun h1=>?_) (fun h2=>?_)
 ·obtain rfl:=foll hR (ct h1 rfl);exact Q10 (Low.tup' (.cons (State.low _ _) (.cons lw (l1 .nil)))) (Seen.tup (ev (Seen.agg (e1 (ev (Q50) (ev (Q50) (ev (Q50) (ev (Q50) (ev (Q50) (e1 (e1 .nil))))))))) (ev (Q50) (e1 .nil))))
 ·refine us (mv [] (Q39 s bwDdEnd0) .nil (dv (QK3 (Low.agg' (State.lo))) .nil) (rO rr .nil) (ren_agg (r1 (rv (Ren.low _ lw) (rv (Ren.low _ lw) (.cons _ _ _ _ (rw_ 2 0 rfl) (rv (Ren.low _ lw) (rv (Ren.low _ lw) (r1 (r1 .nil)))))))))) ?_;refine us (ACalls.pad 40 9 (mv [3,2,4] (Q27 (⟨s,[]⟩:Work) id_ why bwDdEnd0) (dO (dc (d1 (dl lw (dl lw (dv (Qn4 rfl lnA) (dl lw (dl lw (d1 (d1 (dv (dn_nil rfl) .nil)))))))))) (dO (dr eqA) (dO (dr eqA) .nil))) (dp (d1 (d1 .nil))) (rO (rc (r1 (rv (Ren.low _ lw) (rv (Ren.low _ lw) (.cons _ _ _ _ (rw_ 5 0 rfl) (rv (Ren.low _ lw) (rv (Ren.low _ lw) (r1 (r1 (.cons _ _ _ _ (rw_ 6 0 rfl) .nil)))))))))) (rO rr (rO rr .nil))) rx)) ?_;refine ai (fun h3=>?_) (fun h4=>?_)
  ·obtain rfl:=foll hR (cf h2 (ct h3 rfl));exact Q10 (Low.tup' (.cons (State.low _ _) (.cons lw (l1 .nil)))) (Seen.tup (ev (Seen.agg (e1 (ev (Q50) (ev (Q50) (ev (Q50) (ev (Q50) (ev (Q50) (e1 (e1 .nil))))))))) (ev (Q50) (e1 .nil))))
  ·refine dchk (by kernel_rfl) ?_;(repeat ((first|refine ai rfl ?_|refine ai (fun _=>rfl) ?_)));obtain rfl:=foll hR (cf h2 (cf h4 rfl));exact Q10 (Low.tup' (.cons (State.low _ _) (.cons lw (l1 .nil)))) (Seen.tup (ev (Seen.agg (e1 (e1 (e1 (ev (Qn0 Resize.zero _ rfl eqA lnA) (e1 (e1 (e1 (e1 .nil))))))))) (ev (Qn0 Out.zero _ rfl eqA lnA) (e1 .nil))))
end Go.Proofs.YtldebhdmhpopaaaGreatDoor
namespace Go.Proofs.YtldebhdmhpopaaaGreatDoor
set_option linter.unusedSimpArgs false
set_option linter.unusedVariables false
open Go.Fw
theorem Qi8 (w c:Work):∀ (r:List Job) (i:Nat) (o:List Out),(Qc1 w c r i o).length<=o.length+r.length
 | [],_,_=>Nat.le_refl _
 | x :: r,i,o=>by
  rw [Qc1,Bool.cond_eq_ite,List.length_cons]
  split
  ·have:=Qi8 w c r (i+1) (o++[⟨3,⟨#[]⟩,Note.zero,x.id,x.promise,(QE0 (QF0 w.state.jobs c.state.jobs) x.id)⟩])
   rw [List.length_append,List.length_singleton] at this
   omega
  ·have:=Qi8 w c r (i+1) o
   omega
theorem Qh8 {w:Work} (h:w.sz) (anew:Bool):(Q80 w anew).state.sz∧(Q80 w anew).told.length<=w.told.length+w.state.jobs.length:=by
 have key:∀ c:Work,c.state.sz->c.told=w.told->c.state.jobs.length=w.state.jobs.length->(Qk1 w c).state.sz∧(Qk1 w c).told.length<=w.told.length+w.state.jobs.length:=by
  intro c h1 h2 h3
  refine ⟨h1,?_⟩
  have:=Qi8 w c c.state.jobs 0 c.told
  rw [h2,h3] at this
  rw [← h2] at this ⊢
  exact this
 unfold Q80
 cases anew with
 | true=>exact key _ (Q79 h.1).1 rfl (Q79 h.1).2
 | false=>exact key _ (QE5 h.1).1 rfl (QE5 h.1).2.2
theorem QX4 {k a b:Int} {n:Note} {r:Bool}:(⟨k,⟨#[]⟩,n,a,b,r⟩:Out).sz:=Nat.zero_le _
theorem sent_sz_go:∀ (l:List Note) (o:List Out) (i:Nat),(∀ y ∈ o,y.sz) -> ∀ y ∈ QD2 l o i,y.sz
 | [],_,_,h=>h
 | x :: r,o,i,h=>by
  rw [QD2]
  refine sent_sz_go r _ (i+1) fun y hy=>?_
  rcases List.mem_append.1 hy with q|q
  ·exact h y q
  ·rw [List.mem_singleton.1 q]
   exact QX4
theorem sent_sz (l:List Note):∀ y ∈ Q91 l,y.sz:=sent_sz_go l [] 0 fun _ h=>nomatch h
def EndP (w:Work) (n:List Node) (t:List Out):Prop:=n.length<=4294967296∧t.length<=w.told.length+65 ∧ ∀ y ∈ t,y.sz
theorem en0 {w:Work} (h:w.sz):EndP w w.state.nodes w.told:=⟨h.1.1,by omega,h.2.2⟩
theorem en1 {w:Work} (h:w.sz) {x:Out} (hx:x.sz):EndP w w.state.nodes (w.told++[x]) :=
 ⟨h.1.1,by rw [List.length_append,List.length_singleton];omega,fun y hy=>(List.mem_append.1 hy).elim (h.2.2 y) fun q=>by rw [List.mem_singleton.1 q];exact hx⟩
theorem en2 {w:Work} (h:w.sz) {x:Out} (hx:x.sz) (set_ act job now:Int):EndP w (QY0 w.state.nodes set_ act job now).1 ((w.told++[x])++Q91 (QY0 w.state.nodes set_ act job now).2.1):=by
 have q:=Qt7 w.state.nodes set_ act job now
 have e:=en1 h hx
 exact ⟨Nat.le_trans q.1 h.1.1,by rw [List.length_append,List.length_append,List.length_singleton,sent_len];omega,fun y hy=>(List.mem_append.1 hy).elim (e.2.2 y) (sent_sz _ y)⟩
theorem ended_go {w:Work} (h:w.sz) (id why:Int) (tp:List Job × Int):∀ (r:List Resize) (i:Nat),EndP w (QV1 w id why tp r i).2.state.nodes (QV1 w id why tp r i).2.told
 | [],i=>by
  rw [QV1]
  dsimp only
  simp only [Bool.cond_eq_ite]
  split
  ·exact en2 h QX4 _ _ _ _
  ·exact en1 h QX4
 | x :: r,i=>by
  have ih:=ended_go h id why tp r (i+1)
  rw [QV1]
  dsimp only
  simp only [Bool.cond_eq_ite]
  repeat' first
   | exact en2 h QX4 _ _ _ _
   | exact en1 h QX4
   | exact ih
   | split
theorem QWc {w:Work} (h:w.sz) (id why:Int):EndP w (Qg0 w id why).2.state.nodes (Qg0 w id why).2.told:=by
 unfold Qg0 QZ4
 dsimp only
 simp only [Bool.cond_eq_ite]
 repeat' first
  | exact en0 h
  | exact en1 h QX4
  | exact ended_go h id why _ _ _
  | split
theorem Q69 {s:State} (h:s.sz) (id:Int):(Q53 s id).1.nodes.length<=4294967296∧(Q53 s id).2.1.length<=64:=by
 unfold Q53
 dsimp only
 simp only [Bool.cond_eq_ite]
 repeat' first
  | exact ⟨Nat.zero_le _,Nat.zero_le _⟩
  | exact ⟨Nat.le_trans (Qt7 _ _ _ _ _).1 h.1,(Qt7 _ _ _ _ _).2⟩
  | split
set_option maxRecDepth 20000
set_option maxHeartbeats 4000000
attribute [local irreducible] ACalls AMoves
def Qt6 (n:Int):Nat->Int->Nat->List Out->Int × Nat × (List Out)
 | 0,_,_,_=>(0,0,[])
 | m+1,i1,j,c4=>bif (decide ((j:Int)<(c4.length:Int))) then bif (!(((c4.getD j Out.zero).kind==2)&&((c4.getD j Out.zero).note.node==n))) then Qt6 n m (w64 (i1+1)) (j+1) (c4.set (Int.toNat i1) (c4.getD j Out.zero)) else Qt6 n m i1 (j+1) c4 else (i1,j,c4)
def Q08 (n:Int) (c:Work) (c3:List Out):List Out->Nat->State × (List Out) × Int
 | [],_=>({ c.state with nodes:=(Qv1 c.state.nodes n 9 0 c.state.now).1 },c3,0)
 | _ :: r,i=>bif (((c3.getD i Out.zero).kind==2)&&((c3.getD i Out.zero).note.node==n)) then bif ((i:Int)==(-1)) then ({ c.state with nodes:=(Qv1 c.state.nodes n 9 0 c.state.now).1 },c3,0) else (fun p1:Int × Nat × (List Out)=>({ c.state with nodes:=(Qv1 c.state.nodes n 9 0 c.state.now).1 },(List.take (Int.toNat p1.1) p1.2.2),0)) (Qt6 n ((Int.toNat ((c3.length:Int) - ((i+1):Int)))+1) (i:Int) (i+1) c3) else Q08 n c c3 r (i+1)
def Qu6 (n:Int) (e_:Int) (c:Work) (c3:List Out):State × (List Out) × Int:=bif (e_ != 0) then (State.zero,[],e_) else bif ((Qv1 c.state.nodes n 9 0 c.state.now).2 != 0) then (State.zero,[],(Qv1 c.state.nodes n 9 0 c.state.now).2) else Q08 n c c3 c3 0
def QZ1 (s:State) (n:Int):State × (List Out) × Int:=bif ((QY1 s)!=0) then (State.zero,[],(QY1 s)) else bif ((Qv1 s.nodes n 9 0 s.now).2 != 0) then (State.zero,[],(Qv1 s.nodes n 9 0 s.now).2) else bif ((s.nodes.getD (Int.toNat n) Node.zero).state==1) then Qu6 n ((Qg0 (⟨s,([(⟨6,⟨#[]⟩,Note.zero,n,4,false⟩:Out)]:List Out)⟩:Work) ((s.nodes.getD (Int.toNat n) Node.zero).job) 7).1) (⟨{ (Qg0 (⟨s,([(⟨6,⟨#[]⟩,Note.zero,n,4,false⟩:Out)]:List Out)⟩:Work) ((s.nodes.getD (Int.toNat n) Node.zero).job) 7).2.state with resizes:=((Qg0 (⟨s,([(⟨6,⟨#[]⟩,Note.zero,n,4,false⟩:Out)]:List Out)⟩:Work) ((s.nodes.getD (Int.toNat n) Node.zero).job) 7).2).state.resizes },((Qg0 (⟨s,([(⟨6,⟨#[]⟩,Note.zero,n,4,false⟩:Out)]:List Out)⟩:Work) ((s.nodes.getD (Int.toNat n) Node.zero).job) 7).2).told⟩:Work) (((Qg0 (⟨s,([(⟨6,⟨#[]⟩,Note.zero,n,4,false⟩:Out)]:List Out)⟩:Work) ((s.nodes.getD (Int.toNat n) Node.zero).job) 7).2).told) else bif ((s.nodes.getD (Int.toNat n) Node.zero).state==2) then (fun ab:State × (List Note) × Int=>Qu6 n ab.2.2 (⟨ab.1,(([(⟨6,⟨#[]⟩,Note.zero,n,4,false⟩:Out)]:List Out)++(Q91 ab.2.1))⟩:Work) (([(⟨6,⟨#[]⟩,Note.zero,n,4,false⟩:Out)]:List Out)++(Q91 ab.2.1))) (Q53 s ((s.nodes.getD (Int.toNat n) Node.zero).job)) else Qu6 n 0 (⟨s,([(⟨6,⟨#[]⟩,Note.zero,n,4,false⟩:Out)]:List Out)⟩:Work) ([(⟨6,⟨#[]⟩,Note.zero,n,4,false⟩:Out)]:List Out)
theorem Qf5 {P:Prop} (h:P:=by first|((with_reducible exact hk0))|first|((exact hk0.1))|first|((exact ⟨hk0,Nat.le_of_ble_eq_true rfl,fun y hy=>by rw [List.mem_singleton.1 hy];exact QX4⟩))|first|((exact hx.1))|first|((exact Nat.le_trans (Q69 hk0 _).2 (by decide)))|first|((subst_vars;exact Nat.le_trans (Q69 hk0 _).2 (by decide)))|exact szA):P:=h
theorem QD7 {P:Prop} (h:P:=by first|((exact ⟨(QWc (w:=⟨s,[⟨6,⟨#[]⟩,Note.zero,n,4,false⟩]⟩) ⟨hk0,Nat.le_of_ble_eq_true rfl,fun y hy=>by rw [List.mem_singleton.1 hy];exact QX4⟩ _ _).1,Nat.le_trans (QWc (w:=⟨s,[⟨6,⟨#[]⟩,Note.zero,n,4,false⟩]⟩) ⟨hk0,Nat.le_of_ble_eq_true rfl,fun y hy=>by rw [List.mem_singleton.1 hy];exact QX4⟩ _ _).2.1 (Nat.le_of_ble_eq_true rfl),(QWc (w:=⟨s,[⟨6,⟨#[]⟩,Note.zero,n,4,false⟩]⟩) ⟨hk0,Nat.le_of_ble_eq_true rfl,fun y hy=>by rw [List.mem_singleton.1 hy];exact QX4⟩ _ _).2.2⟩))|first|((exact ⟨hk0.1,Nat.le_of_ble_eq_true rfl,fun y hy=>by rw [List.mem_singleton.1 hy];exact QX4⟩))|first|((subst_vars;exact ⟨(Q69 hk0 _).1,by have:=(Q69 hk0 ((s.nodes.getD (Int.toNat n) Node.zero).job)).2;simp;omega,fun y hy=>(List.mem_append.1 hy).elim (fun q=>by rw [List.mem_singleton.1 q];exact QX4) (sent_sz _ y)⟩))|first|((exact ⟨by rw [← hvab];exact (Q69 hk0 _).1,by simp;omega,fun y hy=>(List.mem_append.1 hy).elim (fun q=>by rw [List.mem_singleton.1 q];exact QX4) (sent_sz _ y)⟩))|exact exA):P:=h
theorem deeds_Lose_c (s:State) (n:Int) (hs0:s.sz):GV 16 [State.a s,I n] (AVal.tup [State.a ((QZ1 s n).1),outL ((QZ1 s n).2.1),I ((QZ1 s n).2.2)]):=by
 generalize hR:QZ1 s n=R;refine ga (.cons (State.low _ _) (l1 .nil)) (Low.tup' (.cons (State.low _ _) (.cons lw (l1 .nil)))) (kj [1000018] 17 [20,33,49,50,56,82,101]) Tryz.func16 ?_;have hk0:=hs0;obtain ⟨z24,z25,z26,z27,z28,z29,z30⟩:=hs0;refine us (Qz6 s Qf5 _) ?_;refine ai (fun h1=>?_) (fun h2=>?_)
 ·obtain rfl:=foll hR (ct h1 rfl);exact Q10 (Low.tup' (.cons (State.low _ _) (.cons lw (l1 .nil)))) (Seen.tup (ev (Seen.agg (e1 (ev (Q50) (ev (Q50) (ev (Q50) (ev (Q50) (ev (Q50) (e1 (e1 .nil))))))))) (ev (Q50) (e1 .nil))))
 ·refine us (Qh9 s.nodes n 9 0 s.now Qf5 _) ?_;refine ai (fun h3=>?_) (fun h4=>?_)
  ·obtain rfl:=foll hR (cf h2 (ct h3 rfl));exact Q10 (Low.tup' (.cons (State.low _ _) (.cons lw (l1 .nil)))) (Seen.tup (ev (Seen.agg (e1 (ev (Q50) (ev (Q50) (ev (Q50) (ev (Q50) (ev (Q50) (e1 (e1 .nil))))))))) (ev (Q50) (e1 .nil))))
  ·refine us (mv [] (Q39 s Qf5) .nil (dv (QK3 (Low.agg' (State.lo))) .nil) (rO rr .nil) (ren_agg (r1 (rv (Ren.low _ lw) (rv (Ren.low _ lw) (.cons _ _ _ _ (rw_ 3 0 rfl) (rv (Ren.low _ lw) (rv (Ren.low _ lw) (r1 (r1 .nil)))))))))) ?_;refine ACalls.of_cwp (fun _=>true) Tryz.func32 rfl rfl ?_;refine Or.inl ?_;(first|refine ⟨Qp1 80 rfl lnA (by first|(simp;omega)|(simp;omega)|grind),?_⟩|refine ⟨QN0 80 rfl (by first|(simp;omega)|(simp;omega)|grind),?_⟩);refine ⟨_,_,Told.refl,?_⟩;refine And.intro (by first|exact fun hg=>decide_eq_true (by first|((have hq:=QC3 (by assumption);omega))|exact ckA)|exact gkA) ?_;refine Qgd (fun (e_:Int) (c:Work) (c3:List Out)=>Qu6 n e_ c c3=R∧(c.state.nodes.length<=4294967296∧c3.length<=66 ∧ ∀ y ∈ c3,y.sz)) (fun e_ c c3=>[(3,AVal.ptr 0 0 1 0 0),(4,AVal.ptr 1 0 8 0 0),(5,AVal.lit (.slice none 0 0)),(6,I 0),(10,AVal.ptr 2 0 9 0 0),(12,I e_)]) (fun e_ c c3=>[(0,AObj.row 3 1 [[I n]]),(0,AObj.row 28 8 [[I 0,AVal.lit (.slice none 0 0),AVal.lit (.slice none 0 0),AVal.lit (.slice none 0 0),AVal.lit (.slice none 0 0),AVal.lit (.slice none 0 0),I 0,I 0]]),(0,AObj.row 75 9 [[I c.state.now,nodeL c.state.nodes,jobL c.state.jobs,Qq1 c.state.resizes,bookL c.state.books,Qt1 c.state.ledger,I c.state.nextJob,I c.state.nextBook,AVal.own 3 0 9 0 c3.length]]),(0,AObj.row 40 9 (c3.map Out.cells))]) ?_ ?_
   ·clear hR;rintro e_ c c3 ⟨hR,hx⟩;(try dsimp only at hR hx);refine ai (fun h5=>?_) (fun h6=>?_)
    ·obtain rfl:=foll hR (ct h5 rfl);exact Q10 (Low.tup' (.cons (State.low _ _) (.cons lw (l1 .nil)))) (Seen.tup (ev (Seen.agg (e1 (ev (Q50) (ev (Q50) (ev (Q50) (ev (Q50) (ev (Q50) (e1 (e1 .nil))))))))) (ev (Q50) (e1 .nil))))
    ·refine dchk (by kernel_rfl) ?_;(first|apply u2|apply u3|apply u4|apply us);exact Qh9 c.state.nodes n 9 0 c.state.now Qf5 _;(repeat ((first|refine ai rfl ?_|refine ai (fun _=>rfl) ?_|refine ai (fun _=>Qh9 c.state.nodes n 9 0 c.state.now Qf5 _) ?_)));refine ai (fun h7=>?_) (fun h8=>?_)
     ·obtain rfl:=foll hR (cf h6 (ct h7 rfl));exact Q10 (Low.tup' (.cons (State.low _ _) (.cons lw (l1 .nil)))) (Seen.tup (ev (Seen.agg (e1 (ev (Q50) (ev (Q50) (ev (Q50) (ev (Q50) (ev (Q50) (e1 (e1 .nil))))))))) (ev (Q50) (e1 .nil))))
     ·refine ACalls.of_cwp (fun _=>true) Tryz.func58 rfl rfl ?_;refine ACalls.of_cwp (fun _=>true) Tryz.func115 rfl rfl ?_;refine Qs0 (fun (i:Nat)=>Q08 n c c3 (List.drop i c3) i=R∧i<=c3.length) (fun i=>c3.length - i) (fun i=>[(0,AVal.own 3 0 9 0 c3.length),(1,AVal.fn (.func 59) [] [AVal.ptr 0 0 1 0 0]),(4,I 0),(7,I (c3.length:Int)),(8,I (i:Int))]) (fun i=>[(0,AObj.row 3 1 [[I n]]),(0,AObj.row 28 8 [[I 0,AVal.lit (.slice none 0 0),AVal.lit (.slice none 0 0),AVal.lit (.slice none 0 0),AVal.lit (.slice none 0 0),AVal.lit (.slice none 0 0),I 0,I 0]]),(0,AObj.row 75 9 [[I c.state.now,nodeL ((Qv1 c.state.nodes n 9 0 c.state.now).1),jobL c.state.jobs,Qq1 c.state.resizes,bookL c.state.books,Qt1 c.state.ledger,I c.state.nextJob,I c.state.nextBook,AVal.own 3 0 9 0 c3.length]]),(0,AObj.row 40 9 (c3.map Out.cells))]) 0 (wk [0,1,2,3] (tO rfl (ts (l1 LowL.nil)) (tO rfl (ts (l1 (l1 (l1 (l1 (l1 (l1 (l1 (l1 LowL.nil))))))))) (tO rfl (Q90 (c1 (cv (Q20 lw) (cv (Q20 lw) (cv (Q20 lw) (cv (Q20 lw) (cv (Q20 lw) (c1 (c1 (cv (to 3 lnA) .nil)))))))))) (tO rfl (tl eqA) .nil)))) (sv (to 3 lnA) (sv (Qu0 .nil (cv (Q00 0 rfl rfl) .nil)) (s1 (s1 (s1 .nil)))))) ⟨foll hR (cf h6 (cf h8 rfl)),by exact omA⟩ ?_;clear hR;rintro i ⟨hR,hj⟩;(try dsimp only at hR hj);refine ai (fun h9=>?_) (fun h10=>?_)
      ·have hlt:=ltA h9;rw [Qi0 Out.zero hlt] at hR;have hxz:(c3.getD i Out.zero).sz:=Qw1 (by first|assumption|grind) (Out.szz _);have hkz:=hxz;obtain z11:((c3.getD i Out.zero).text).size<=4294967296:=hxz;refine And.intro (by first|exact fun hg=>decide_eq_true (by first|((have hq:=QC3 (by assumption);omega))|exact ckA)|exact gkA) ?_;refine ⟨_,QA0 rfl rfl rfl (QC0 Out.zero i (by first|rfl|exact Nat.zero_add _|omega) (by first|((have hq:=QC3 (by assumption);omega))|exact ckA)) rfl,?_⟩;refine ACalls.of_cwp (fun _=>true) Tryz.func59 rfl rfl ?_;refine ⟨_,_,Told.refl,?_⟩;refine ai (fun h12=>?_) (fun h13=>?_)
       ·refine ⟨_,_,Told.refl,?_⟩;refine ai (fun h14=>?_) (fun h15=>?_)
        ·refine ⟨_,_,Told.refl,?_⟩;refine dchk (by kernel_rfl) ?_;(repeat ((first|refine ai rfl ?_|refine ai (fun _=>rfl) ?_)));obtain rfl:=foll hR (ct h12 (ct h14 rfl));exact Q10 (Low.tup' (.cons (State.low _ _) (.cons lw (l1 .nil)))) (Seen.tup (e1 (ev (Qn0 Out.zero _ rfl eqA lnA) (e1 .nil))))
        ·refine Qr4 (fun (i1:Int) (j:Nat) (c4:List Out)=>∃ m,(Int.toNat ((c4.length:Int) - (j:Int)))<m∧(fun p1:Int × Nat × (List Out)=>({ c.state with nodes:=(Qv1 c.state.nodes n 9 0 c.state.now).1 },(List.take (Int.toNat p1.1) p1.2.2),0)) (Qt6 n m i1 j c4)=R∧(0<=i1∧i1<(j:Int)∧(j:Int)<=(c4.length:Int)∧c4.length<=4294967296)∧c4.length=c3.length) (fun i1 j c4=>(Int.toNat ((c4.length:Int) - (j:Int)))) (fun i1 j c4=>[(0,AVal.own 3 0 9 0 c4.length),(1,AVal.fn (.func 59) [] [AVal.ptr 0 0 1 0 0]),(4,AVal.lit (.slice none 0 0)),(5,I i1),(6,I (j:Int))]) (fun i1 j c4=>[(0,AObj.row 3 1 [[I n]]),(0,AObj.row 28 8 [[I 0,AVal.lit (.slice none 0 0),AVal.lit (.slice none 0 0),AVal.lit (.slice none 0 0),AVal.lit (.slice none 0 0),AVal.lit (.slice none 0 0),I 0,I 0]]),(0,AObj.row 75 9 [[I c.state.now,nodeL ((Qv1 c.state.nodes n 9 0 c.state.now).1),jobL c.state.jobs,Qq1 c.state.resizes,bookL c.state.books,Qt1 c.state.ledger,I c.state.nextJob,I c.state.nextBook,AVal.own 3 0 9 0 c4.length]]),(0,AObj.row 40 9 (c4.map Out.cells))]) (i:Int) (i+1) c3 (wk [0,1,2,3] (tO rfl (ts (l1 LowL.nil)) (tO rfl (ts (l1 (l1 (l1 (l1 (l1 (l1 (l1 (l1 LowL.nil))))))))) (tO rfl (Q90 (c1 (cv (Q20 lw) (cv (Q20 lw) (cv (Q20 lw) (cv (Q20 lw) (cv (Q20 lw) (c1 (c1 (cv (to 3 lnA) .nil)))))))))) (tO rfl (tl eqA) .nil)))) (sv (to 3 lnA) (sv (Qu0 .nil (cv (Q00 0 rfl rfl) .nil)) (s1 (s1 (sv (Qa0 (I_eq (wr omA)) lx) .nil)))))) ⟨_,Nat.lt_succ_self _,foll hR (ct h12 (cf h15 rfl)),QD7⟩ ?_;clear hR;rintro i1 j c4 ⟨m,hm,hR,hx⟩;(try dsimp only at hR hm hx);obtain ⟨m,rfl⟩:=sucA m;refine ai (fun h16=>?_) (fun h17=>?_)
         ·have qh16:=of_decide_eq_true h16;have hw1:w64 (i1+1)=i1+1:=wr (by omega);have hw2:w64 ((j:Int)+1)=(j:Int)+1:=wr (by omega);refine And.intro (by first|exact fun hg=>decide_eq_true (by first|((have hq:=QC3 (by assumption);omega))|exact ckA)|exact gkA) ?_;refine ⟨_,QA0 rfl rfl rfl (QC0 Out.zero j (by first|rfl|exact Nat.zero_add _|omega) (by first|((have hq:=QC3 (by assumption);omega))|exact ckA)) rfl,?_⟩;refine ACalls.of_cwp (fun _=>true) Tryz.func59 rfl rfl ?_;refine ⟨_,_,Told.refl,?_⟩;refine ai (fun h18=>?_) (fun h19=>?_)
          ·refine And.intro (by first|exact fun hg=>decide_eq_true (by first|((have hq:=QC3 (by assumption);omega))|exact ckA)|exact gkA) ?_;refine ⟨_,Q01 rfl rfl rfl rfl (QC0 Out.zero (Int.toNat i1) (by first|rfl|exact Nat.zero_add _|omega) (by first|((have hq:=QC3 (by assumption);omega))|exact ckA)) rfl rfl (Qp8 (Int.toNat i1) (c4.getD j Out.zero) (by first|rfl|exact Nat.zero_add _|omega) rfl),?_⟩;exact Qz1 (w64 (i1+1)) (j+1) (c4.set (Int.toNat i1) (c4.getD j Out.zero)) (wk [0,1,2,3] (tO rfl (ts (l1 LowL.nil)) (tO rfl (ts (l1 (l1 (l1 (l1 (l1 (l1 (l1 (l1 LowL.nil))))))))) (tO rfl (Q90 (c1 (cv (Q20 lw) (cv (Q20 lw) (cv (Q20 lw) (cv (Q20 lw) (cv (Q20 lw) (c1 (c1 (cv (to 3 lnA) .nil)))))))))) (tO rfl (tl eqA) .nil)))) (sv (to 3 lnA) (sv (Qu0 .nil (cv (Q00 0 rfl rfl) .nil)) (s1 (s1 (sv (Qa0 (I_eq (wr omA)) lx) .nil)))))) omA ⟨m,by exact omA,foll hR (congrArg (fun p1:Int × Nat × (List Out)=>({ c.state with nodes:=(Qv1 c.state.nodes n 9 0 c.state.now).1 },(List.take (Int.toNat p1.1) p1.2.2),0)) (ct h16 (ct h18 rfl))),QD7⟩
          ·exact Qz1 i1 (j+1) c4 (wk [0,1,2,3] (tO rfl (ts (l1 LowL.nil)) (tO rfl (ts (l1 (l1 (l1 (l1 (l1 (l1 (l1 (l1 LowL.nil))))))))) (tO rfl (Q90 (c1 (cv (Q20 lw) (cv (Q20 lw) (cv (Q20 lw) (cv (Q20 lw) (cv (Q20 lw) (c1 (c1 (cv (to 3 lnA) .nil)))))))))) (tO rfl (tl eqA) .nil)))) (sv (to 3 lnA) (sv (Qu0 .nil (cv (Q00 0 rfl rfl) .nil)) (s1 (s1 (sv (Qa0 (I_eq (wr omA)) lx) .nil)))))) omA ⟨m,by exact omA,foll hR (congrArg (fun p1:Int × Nat × (List Out)=>({ c.state with nodes:=(Qv1 c.state.nodes n 9 0 c.state.now).1 },(List.take (Int.toNat p1.1) p1.2.2),0)) (ct h16 (cf h19 rfl))),QD7⟩
         ·have qh17:=of_decide_eq_false h17;replace hR:(fun p1:Int × Nat × (List Out)=>({ c.state with nodes:=(Qv1 c.state.nodes n 9 0 c.state.now).1 },(List.take (Int.toNat p1.1) p1.2.2),0)) (i1,j,c4)=R:=foll hR (congrArg (fun p1:Int × Nat × (List Out)=>({ c.state with nodes:=(Qv1 c.state.nodes n 9 0 c.state.now).1 },(List.take (Int.toNat p1.1) p1.2.2),0)) (cf h17 rfl));refine And.intro (by first|exact fun hg=>decide_eq_true (by first|((have hq:=QC3 (by assumption);omega))|exact ckA)|exact gkA) ?_;refine And.intro (And.intro (by (simp only [List.length_map,List.length_set,Int.toNat_natCast,Option.getD_some,Option.getD_none];omega)) rfl) ?_;refine And.intro (by first|exact fun hg=>decide_eq_true (by first|((have hq:=QC3 (by assumption);omega))|exact ckA)|exact gkA) ?_;refine ⟨_,_,Told.refl,?_⟩;refine dchk (by kernel_rfl) ?_;(repeat ((first|refine ai rfl ?_|refine ai (fun _=>rfl) ?_)));obtain rfl:=foll hR rfl;exact Q10 (Low.tup' (.cons (State.low _ _) (.cons lw (l1 .nil)))) (Seen.tup (e1 (ev (Qn0 Out.zero _ rfl eqA lnA) (e1 .nil))))
       ·exact Qz0 (i+1) (wk [0,1,2,3] (tO rfl (ts (l1 LowL.nil)) (tO rfl (ts (l1 (l1 (l1 (l1 (l1 (l1 (l1 (l1 LowL.nil))))))))) (tO rfl (Q90 (c1 (cv (Q20 lw) (cv (Q20 lw) (cv (Q20 lw) (cv (Q20 lw) (cv (Q20 lw) (c1 (c1 (cv (to 3 lnA) .nil)))))))))) (tO rfl (tl eqA) .nil)))) (sv (to 3 lnA) (sv (Qu0 .nil (cv (Q00 0 rfl rfl) .nil)) (s1 (s1 (sv (Qa0 (I_eq (wr omA)) lx) .nil)))))) omA ⟨foll hR (cf h13 rfl),by exact omA⟩
      ·rw [Ql0 (l:=c3) (j:=i) (geA h10)] at hR;refine ⟨_,_,Told.refl,?_⟩;refine ai (fun _=>?_) (fun h=>nomatch h);refine ⟨_,_,Told.refl,?_⟩;refine dchk (by kernel_rfl) ?_;(repeat ((first|refine ai rfl ?_|refine ai (fun _=>rfl) ?_)));obtain rfl:=foll hR rfl;exact Q10 (Low.tup' (.cons (State.low _ _) (.cons lw (l1 .nil)))) (Seen.tup (e1 (ev (Qn0 Out.zero _ rfl eqA lnA) (e1 .nil))))
   ·refine ai (fun h20=>?_) (fun h21=>?_)
    ·refine us (mv [4,3,5] (Q27 (⟨s,([(⟨6,⟨#[]⟩,Note.zero,n,4,false⟩:Out)]:List Out)⟩:Work) ((s.nodes.getD (Int.toNat n) Node.zero).job) 7 Qf5) (dO (dc (d1 (dl lw (dl lw (dv (Qn4 rfl lnA) (dl lw (dl lw (d1 (d1 (dv (Qn4 rfl lnA) .nil)))))))))) (dO (dr eqA) (dO (dr eqA) .nil))) (dp (d1 (d1 .nil))) (rO (rc (r1 (rv (Ren.low _ lw) (rv (Ren.low _ lw) (.cons _ _ _ _ (rw_ 7 0 rfl) (rv (Ren.low _ lw) (rv (Ren.low _ lw) (r1 (r1 (.cons _ _ _ _ (rw_ 8 0 rfl) .nil)))))))))) (rO rr (rO rr .nil))) rx) ?_;exact QD6 ((Qg0 (⟨s,([(⟨6,⟨#[]⟩,Note.zero,n,4,false⟩:Out)]:List Out)⟩:Work) ((s.nodes.getD (Int.toNat n) Node.zero).job) 7).1) (⟨{ (Qg0 (⟨s,([(⟨6,⟨#[]⟩,Note.zero,n,4,false⟩:Out)]:List Out)⟩:Work) ((s.nodes.getD (Int.toNat n) Node.zero).job) 7).2.state with resizes:=((Qg0 (⟨s,([(⟨6,⟨#[]⟩,Note.zero,n,4,false⟩:Out)]:List Out)⟩:Work) ((s.nodes.getD (Int.toNat n) Node.zero).job) 7).2).state.resizes },((Qg0 (⟨s,([(⟨6,⟨#[]⟩,Note.zero,n,4,false⟩:Out)]:List Out)⟩:Work) ((s.nodes.getD (Int.toNat n) Node.zero).job) 7).2).told⟩:Work) (((Qg0 (⟨s,([(⟨6,⟨#[]⟩,Note.zero,n,4,false⟩:Out)]:List Out)⟩:Work) ((s.nodes.getD (Int.toNat n) Node.zero).job) 7).2).told) (wk [1,2,4,8] (tO rfl (ts (l1 LowL.nil)) (tO rfl (ts (l1 (l1 (l1 (l1 (l1 (l1 (l1 (l1 LowL.nil))))))))) (tO rfl (Q90 (c1 (cv (Q20 lw) (cv (Q20 lw) (cv (Qx3 _ _ rfl (Nat.zero_le _) (by decide) eqA (fun _=>Resize.lowc _ _) lnA) (cv (Q20 lw) (cv (Q20 lw) (c1 (c1 (cv (to 3 lnA) .nil)))))))))) (tO rfl (tl eqA) .nil)))) (sv (Q00 0 rfl rfl) (sv (Q00 1 rfl rfl) (s1 (s1 (sv (Q00 2 rfl rfl) (s1 .nil))))))) (⟨foll hR (cf h2 (cf h4 (ct h20 rfl))),QD7⟩)
    ·refine ai (fun h22=>?_) (fun h23=>?_)
     ·refine us (resize_Abort_c s ((s.nodes.getD (Int.toNat n) Node.zero).job) Qf5 _) ?_;generalize hvab:Q53 s ((s.nodes.getD (Int.toNat n) Node.zero).job)=ab;(have qab:ab.2.1.length<=64:=by rw [← hvab];exact (Q69 hk0 _).2);refine dchk (by kernel_rfl) ?_;(first|apply u2|apply u3|apply u4|apply us);exact Q02 ab.2.1 Qf5 _;(first|refine ⟨Qp1 80 rfl lnA (by first|(simp;omega)|(simp;omega)|grind),?_⟩|refine ⟨QN0 80 rfl (by first|(simp;omega)|(simp;omega)|grind),?_⟩);(repeat ((first|refine ai rfl ?_|refine ai (fun _=>rfl) ?_|refine ai (fun _=>Q02 ab.2.1 Qf5 _) ?_)));exact QD6 ab.2.2 (⟨ab.1,(([(⟨6,⟨#[]⟩,Note.zero,n,4,false⟩:Out)]:List Out)++(Q91 ab.2.1))⟩:Work) (([(⟨6,⟨#[]⟩,Note.zero,n,4,false⟩:Out)]:List Out)++(Q91 ab.2.1)) (wk [1,2,4,5] (tO rfl (ts (l1 LowL.nil)) (tO rfl (ts (l1 (l1 (l1 (l1 (l1 (l1 (l1 (l1 LowL.nil))))))))) (tO rfl (Q90 (c1 (cv (Q20 lw) (cv (Q20 lw) (cv (Q20 lw) (cv (Q20 lw) (cv (Q20 lw) (c1 (c1 (cv (to 3 lnA) .nil)))))))))) (tO rfl (tl eqA) .nil)))) (sv (Q00 0 rfl rfl) (sv (Q00 1 rfl rfl) (s1 (s1 (sv (Q00 2 rfl rfl) (s1 .nil))))))) (⟨foll hR (cf h2 (cf h4 (cf h21 (ct h22 (by subst hvab;exact rfl))))),QD7⟩)
     ·exact QD6 0 (⟨s,([(⟨6,⟨#[]⟩,Note.zero,n,4,false⟩:Out)]:List Out)⟩:Work) ([(⟨6,⟨#[]⟩,Note.zero,n,4,false⟩:Out)]:List Out) (wk [1,2,4,5] (tO rfl (ts (l1 LowL.nil)) (tO rfl (ts (l1 (l1 (l1 (l1 (l1 (l1 (l1 (l1 LowL.nil))))))))) (tO rfl (Q90 (c1 (cv (Q20 lw) (cv (Q20 lw) (cv (Qx3 _ _ rfl (Nat.zero_le _) (by decide) eqA (fun _=>Resize.lowc _ _) lnA) (cv (Q20 lw) (cv (Q20 lw) (c1 (c1 (cv (to 3 lnA) .nil)))))))))) (tO rfl (tl eqA) .nil)))) (sv (Q00 0 rfl rfl) (sv (Q00 1 rfl rfl) (s1 (s1 (sv (Q00 2 rfl rfl) (s1 .nil))))))) (⟨foll hR (cf h2 (cf h4 (cf h21 (cf h23 rfl)))),QD7⟩)
def QM1 (s:State):Nat->Nat->Work->Work
 | 0,_,_=>Work.zero
 | m+1,i,c=>bif (decide ((i:Int)<(((QU0 s.jobs).2).length:Int))) then QM1 s m (i+1) (⟨c.state,(c.told++([(⟨5,⟨#[]⟩,Note.zero,(((QU0 s.jobs).2).getD i 0),6,false⟩:Out)]:List Out))⟩:Work) else c
def QZ0 :List Int->Nat->Work->List Out->Work × (List Out)
 | [],_,c2,c3=>((⟨c2.state,c3⟩:Work),c3)
 | x_ :: r,i1,c2,c3=>(fun tf:Job × Bool=>bif (decide (tf.1.choice >= ((Qe0 tf.1.shape).length:Int))) then QZ0 r (i1+1) (⟨c2.state,c3⟩:Work) c3 else (fun gr:(List Node) × Int × (List Note) × Int=>bif (gr.2.2.2 != 0) then QZ0 r (i1+1) (⟨c2.state,c3⟩:Work) c3 else (fun js:Job × Int=>bif (js.2 != 0) then QZ0 r (i1+1) (⟨c2.state,c3⟩:Work) c3 else (fun tp:(List Job) × Int=>bif (tp.2==0) then QZ0 r (i1+1) (⟨{ c2.state with nodes:=gr.1,jobs:=tp.1 },((c3++([(⟨4,⟨#[]⟩,Note.zero,x_,js.1.limit,false⟩:Out)]:List Out))++(Q91 gr.2.2.1))⟩:Work) ((c3++([(⟨4,⟨#[]⟩,Note.zero,x_,js.1.limit,false⟩:Out)]:List Out))++(Q91 gr.2.2.1)) else QZ0 r (i1+1) (⟨{ c2.state with nodes:=gr.1 },((c3++([(⟨4,⟨#[]⟩,Note.zero,x_,js.1.limit,false⟩:Out)]:List Out))++(Q91 gr.2.2.1))⟩:Work) ((c3++([(⟨4,⟨#[]⟩,Note.zero,x_,js.1.limit,false⟩:Out)]:List Out))++(Q91 gr.2.2.1))) (Q92 c2.state.jobs js.1)) (QF1 tf.1 c2.state.now gr.2.1)) (Qx2 c2.state.nodes (((Qe0 tf.1.shape).getD (Int.toNat tf.1.choice) Alt.zero).nodes) 1 x_ c2.state.now)) (Qc0 c2.state.jobs x_)
def QN1 (c2:Work) (c3:List Out):State × (List Out) × Int:=(c2.state,c3,0)
def Qo3 (anew:Bool) (c:Work):State × (List Out) × Int:=QN1 ((QZ0 (Qb1 ((Q80 c anew).state)) 0 (Q80 c anew) ((Q80 c anew).told)).1) ((QZ0 (Qb1 ((Q80 c anew).state)) 0 (Q80 c anew) ((Q80 c anew).told)).2)
def Q60 (s:State) (anew:Bool):State × (List Out) × Int:=bif ((QY1 s)!=0) then (State.zero,[],(QY1 s)) else Qo3 anew (QM1 s ((Int.toNat ((((QU0 s.jobs).2).length:Int) - (0:Int)))+1) 0 (⟨{ s with jobs:=(QU0 s.jobs).1 },[]⟩:Work))
theorem Qu1 {P:Prop} (h:P:=by first|((with_reducible exact hk0))|first|((exact ⟨hk0.2.1,hk0.2.2.1⟩))|first|((exact hx.1.1))|first|((exact (Qh8 hx.1.1 anew).1))|first|((exact ⟨hx.1.2.1,hx.1.2.2.1⟩))|first|((exact qtf.2.2.2.1))|first|((exact Nat.le_trans qgr.2 (by decide)))|first|((exact qjs))|first|((exact qtf))|exact szA):P:=h
theorem Qj4 {P:Prop} (h:P:=by first|((exact ⟨⟨⟨⟨hk0.1,hdz.1.1,hdz.1.2,hk0.2.2.2⟩,Nat.zero_le _,fun y hy=>nomatch hy⟩,Nat.le_refl _⟩,by omega⟩))|first|((exact ⟨⟨⟨hx.1.1.1,by simp;omega,fun y hy=>(List.mem_append.1 hy).elim (hx.1.1.2.2 y) fun q=>by rw [List.mem_singleton.1 q];exact QX4⟩,by simp;omega⟩,by omega⟩))|first|((exact ⟨(Qh8 hx.1.1 anew).1,by omega⟩))|first|((exact ⟨hx.1,by omega⟩))|first|((exact ⟨⟨qgr.1,qtp.1,qtp.2,hx.1.2.2.2⟩,by simp;omega⟩))|first|((exact ⟨⟨qgr.1,hx.1.2.1,hx.1.2.2.1,hx.1.2.2.2⟩,by simp;omega⟩))|exact exA):P:=h
theorem Qw9 (s:State) (anew:Bool) (hs0:s.sz):GV 8 [State.a s,Bo anew] (AVal.tup [State.a ((Q60 s anew).1),outL ((Q60 s anew).2.1),I ((Q60 s anew).2.2)]):=by
 generalize hR:Q60 s anew=R;refine ga (.cons (State.low _ _) (l1 .nil)) (Low.tup' (.cons (State.low _ _) (.cons lw (l1 .nil)))) (kp 16 [19,41,42,43,44,58,59,60,61]) Tryz.func8 ?_;have hk0:=hs0;obtain ⟨z15,z16,z17,z18,z19,z20,z21⟩:=hs0;have hdz:=doom_sz ⟨hk0.2.1,hk0.2.2.1⟩;refine us (Qz6 s Qu1 _) ?_;refine ai (fun h1=>?_) (fun h2=>?_)
 ·obtain rfl:=foll hR (ct h1 rfl);exact Q10 (Low.tup' (.cons (State.low _ _) (.cons lw (l1 .nil)))) (Seen.tup (ev (Seen.agg (e1 (ev (Q50) (ev (Q50) (ev (Q50) (ev (Q50) (ev (Q50) (e1 (e1 .nil))))))))) (ev (Q50) (e1 .nil))))
 ·refine us (state_Copy_c s Qu1 _) ?_;refine us (deps_Doom_c s.jobs Qu1 _) ?_;refine Qq0 (fun (i:Nat) (c:Work)=>∃ m,(Int.toNat ((((QU0 s.jobs).2).length:Int) - (i:Int)))<m∧Qo3 anew (QM1 s m i c)=R∧(c.sz∧c.told.length<=i)∧(i:Int)<=(((QU0 s.jobs).2).length:Int)) (fun i c=>(Int.toNat ((((QU0 s.jobs).2).length:Int) - (i:Int)))) (fun i c=>[(1,Bo anew),(4,AVal.ptr 0 0 8 0 0),(5,AVal.lit (.slice none 0 0)),(6,I 0),(8,AVal.ptr 2 0 1 0 0),(11,AVal.fn (.func 31) [] [AVal.ptr 2 0 1 0 0]),(41,ints ((QU0 s.jobs).2)),(42,I (((QU0 s.jobs).2).length:Int)),(43,I (i:Int))]) (fun i c=>[(0,AObj.row 28 8 [[I 0,AVal.lit (.slice none 0 0),AVal.lit (.slice none 0 0),AVal.lit (.slice none 0 0),AVal.lit (.slice none 0 0),AVal.lit (.slice none 0 0),I 0,I 0]]),(0,AObj.row 75 9 [[I c.state.now,nodeL c.state.nodes,jobL c.state.jobs,Qq1 c.state.resizes,bookL c.state.books,Qt1 c.state.ledger,I c.state.nextJob,I c.state.nextBook,AVal.own 3 0 9 0 c.told.length]]),(0,AObj.row 72 1 [[AVal.ptr 1 0 9 0 0]]),(0,AObj.row 40 9 (c.told.map Out.cells))]) 0 (⟨{ s with jobs:=(QU0 s.jobs).1 },[]⟩:Work) ((Qo1 40 9).trans (wk [1,2,3,4] (tO rfl (ts (l1 (l1 (l1 (l1 (l1 (l1 (l1 (l1 LowL.nil))))))))) (tO rfl (Q90 (c1 (cv (Q20 lw) (cv (Q20 lw) (cv (Q20 lw) (cv (Q20 lw) (cv (Q20 lw) (c1 (c1 (cv (Q51 3 rfl) .nil)))))))))) (tO rfl (Q90 (cv (Q00 1 rfl rfl) .nil)) (tO rfl (tl eqA) .nil)))) (s1 (sv (Q00 0 rfl rfl) (s1 (s1 (sv (Q00 2 rfl rfl) (sv (Qu0 .nil (cv (Q00 2 rfl rfl) .nil)) (sl lw (s1 (s1 .nil))))))))))) ⟨_,Nat.lt_succ_self _,foll hR (cf h2 rfl),Qj4⟩ ?_;clear hR;rintro i c ⟨m,hm,hR,hx⟩;(try dsimp only at hR hm hx);obtain ⟨m,rfl⟩:=sucA m;refine ai (fun h3=>?_) (fun h4=>?_)
  ·have qh3:=of_decide_eq_true h3;refine ai gkA ?_;refine ACalls.of_cwp (fun _=>true) Tryz.func31 rfl rfl ?_;refine ACalls.of_cwp (fun _=>true) Tryz.func32 rfl rfl ?_;refine Or.inl ?_;(first|refine ⟨Qp1 80 rfl lnA (by first|(have hj:=hcz.1.1.1.2.1;have hq:=hpa.2;simp;omega)|(simp;omega)|grind),?_⟩|refine ⟨QN0 80 rfl (by first|(have hj:=hcz.1.1.1.2.1;have hq:=hpa.2;simp;omega)|(simp;omega)|grind),?_⟩);refine ⟨_,_,Told.refl,?_⟩;refine ⟨_,_,Told.refl,?_⟩;exact Qd0 (i+1) (⟨c.state,(c.told++([(⟨5,⟨#[]⟩,Note.zero,(((QU0 s.jobs).2).getD i 0),6,false⟩:Out)]:List Out))⟩:Work) (wk [0,1,2,3] (tO rfl (ts (l1 (l1 (l1 (l1 (l1 (l1 (l1 (l1 LowL.nil))))))))) (tO rfl (Q90 (c1 (cv (Q20 lw) (cv (Q20 lw) (cv (Q20 lw) (cv (Q20 lw) (cv (Q20 lw) (c1 (c1 (cv (to 3 lnA) .nil)))))))))) (tO rfl (Q90 (cv (Q00 1 rfl rfl) .nil)) (tO rfl (tl eqA) .nil)))) (s1 (sv (Q00 0 rfl rfl) (s1 (s1 (sv (Q00 2 rfl rfl) (sv (Qu0 .nil (cv (Q00 2 rfl rfl) .nil)) (sl lw (s1 (sv (Qa0 (I_eq (wr omA)) lx) .nil)))))))))) omA ⟨m,by exact omA,foll hR (congrArg (fun p:Work=>Qo3 anew p) (ct h3 rfl)),Qj4⟩
  ·have qh4:=of_decide_eq_false h4;replace hR:Qo3 anew c=R:=fo2 (fun p:Work=>Qo3 anew p) (c) hR (cf h4 rfl);refine us (mv [1,3] (Qp9 c anew Qu1) (dO (dc (d1 (dl lw (dl lw (dl lw (dl lw (dl lw (d1 (d1 (dv (Qn4 rfl lnA) .nil)))))))))) (dO (dr eqA) .nil)) (dp (d1 .nil)) (rO (rc (r1 (rv (Ren.low _ lw) (rv (Ren.low _ lw) (rv (Ren.low _ lw) (rv (Ren.low _ lw) (rv (Ren.low _ lw) (r1 (r1 (.cons _ _ _ _ (rw_ 4 0 rfl) .nil)))))))))) (rO rr .nil)) rx) ?_;refine us (squeeze_Due_c ((Q80 c anew).state) Qu1 _) ?_;refine Qr4 (fun (i1:Nat) (c2:Work) (c3:List Out)=>QN1 (QZ0 (List.drop i1 (Qb1 ((Q80 c anew).state))) i1 c2 c3).1 (QZ0 (List.drop i1 (Qb1 ((Q80 c anew).state))) i1 c2 c3).2=R∧i1<=(Qb1 ((Q80 c anew).state)).length∧(c2.state.sz∧c3.length<=(Q80 c anew).told.length+65*i1)) (fun i1 c2 c3=>(Qb1 ((Q80 c anew).state)).length - i1) (fun i1 c2 c3=>[(4,AVal.ptr 0 0 8 0 0),(5,AVal.lit (.slice none 0 0)),(6,I 0),(8,AVal.ptr 2 0 1 0 0),(58,ints (Qb1 ((Q80 c anew).state))),(59,I ((Qb1 ((Q80 c anew).state)).length:Int)),(60,I (i1:Int))]) (fun i1 c2 c3=>[(0,AObj.row 28 8 [[I 0,AVal.lit (.slice none 0 0),AVal.lit (.slice none 0 0),AVal.lit (.slice none 0 0),AVal.lit (.slice none 0 0),AVal.lit (.slice none 0 0),I 0,I 0]]),(0,AObj.row 75 9 [[I c2.state.now,nodeL c2.state.nodes,jobL c2.state.jobs,Qq1 c2.state.resizes,bookL c2.state.books,Qt1 c2.state.ledger,I c2.state.nextJob,I c2.state.nextBook,AVal.own 3 0 9 0 c3.length]]),(0,AObj.row 72 1 [[AVal.ptr 1 0 9 0 0]]),(0,AObj.row 40 9 (c3.map Out.cells))]) 0 (Q80 c anew) ((Q80 c anew).told) (wk [0,1,2,4] (tO rfl (ts (l1 (l1 (l1 (l1 (l1 (l1 (l1 (l1 LowL.nil))))))))) (tO rfl (Q90 (c1 (cv (Q20 lw) (cv (Q20 lw) (cv (Q20 lw) (cv (Q20 lw) (cv (Q20 lw) (c1 (c1 (cv (to 3 lnA) .nil)))))))))) (tO rfl (Q90 (cv (Q00 1 rfl rfl) .nil)) (tO rfl (tl eqA) .nil)))) (sv (Q00 0 rfl rfl) (s1 (s1 (sv (Q00 2 rfl rfl) (sl lw (s1 (s1 .nil)))))))) ⟨foll hR rfl,by exact omA,Qj4⟩ ?_;clear hR;rintro i1 c2 c3 ⟨hR,hj,hx⟩;(try dsimp only at hR hj hx);refine ai (fun h5=>?_) (fun h6=>?_)
   ·have hlt:=ltA h5;rw [Qi0 0 hlt] at hR;have hpa:=Qh8 (‹(c.sz∧c.told.length<=i)∧(i:Int)<=(((QU0 s.jobs).2).length:Int)›).1.1 anew;have hdl:=Q19 hpa.1;have hcz:=(‹(c.sz∧c.told.length<=i)∧(i:Int)<=(((QU0 s.jobs).2).length:Int)›);refine ai gkA ?_;refine ACalls.of_cwp (fun _=>true) Tryz.func34 rfl rfl ?_;refine us (QA3 c2.state.jobs ((Qb1 ((Q80 c anew).state)).getD i1 0) Qu1 _) ?_;generalize hvtf:Qc0 c2.state.jobs ((Qb1 ((Q80 c anew).state)).getD i1 0)=tf;(obtain ⟨qtf,qtc⟩:tf.1.sz∧0<=tf.1.choice:=by rw [← hvtf];exact ⟨Qt8 hx.1.2.2.1 _,find_choice _ _⟩);refine us (Q82 tf.1.shape Qu1 _) ?_;refine ai (fun h7=>?_) (fun h8=>?_)
    ·have qh7:=of_decide_eq_true h7;refine ⟨_,_,Told.refl,?_⟩;exact Qz1 (i1+1) (⟨c2.state,c3⟩:Work) c3 (wk [0,1,2,3] (tO rfl (ts (l1 (l1 (l1 (l1 (l1 (l1 (l1 (l1 LowL.nil))))))))) (tO rfl (Q90 (c1 (cv (Q20 lw) (cv (Q20 lw) (cv (Q20 lw) (cv (Q20 lw) (cv (Q20 lw) (c1 (c1 (cv (to 3 lnA) .nil)))))))))) (tO rfl (Q90 (cv (Q00 1 rfl rfl) .nil)) (tO rfl (tl eqA) .nil)))) (sv (Q00 0 rfl rfl) (s1 (s1 (sv (Q00 2 rfl rfl) (sl lw (s1 (sv (Qa0 (I_eq (wr omA)) lx) .nil)))))))) omA ⟨foll hR (congrArg (fun p:Work × (List Out)=>QN1 p.1 p.2) ((by subst hvtf;exact ct h7 rfl))),by exact omA,Qj4⟩
    ·have qh8:=of_decide_eq_false h8;refine dchk (by kernel_rfl) ?_;refine ai gkA ?_;(first|apply u2|apply u3|apply u4|apply us);exact Qea c2.state.nodes (((Qe0 tf.1.shape).getD (Int.toNat tf.1.choice) Alt.zero).nodes) 1 ((Qb1 ((Q80 c anew).state)).getD i1 0) c2.state.now Qu1 _;generalize hvgr:Qx2 c2.state.nodes (((Qe0 tf.1.shape).getD (Int.toNat tf.1.choice) Alt.zero).nodes) 1 ((Qb1 ((Q80 c anew).state)).getD i1 0) c2.state.now=gr;(have qgr:gr.1.length<=4294967296∧gr.2.2.1.length<=64:=by rw [← hvgr];exact ⟨Nat.le_trans (Quc _ _ _ _ _).1 hx.1.1,(Quc _ _ _ _ _).2⟩);(repeat ((first|refine ai rfl ?_|refine ai (fun _=>rfl) ?_|refine ai (fun _=>by subst hvgr;exact Qea c2.state.nodes (((Qe0 tf.1.shape).getD (Int.toNat tf.1.choice) Alt.zero).nodes) 1 ((Qb1 ((Q80 c anew).state)).getD i1 0) c2.state.now Qu1 _) ?_)));refine ai (fun h9=>?_) (fun h10=>?_)
     ·refine ⟨_,_,Told.refl,?_⟩;exact Qz1 (i1+1) (⟨c2.state,c3⟩:Work) c3 (wk [0,1,2,3] (tO rfl (ts (l1 (l1 (l1 (l1 (l1 (l1 (l1 (l1 LowL.nil))))))))) (tO rfl (Q90 (c1 (cv (Q20 lw) (cv (Q20 lw) (cv (Q20 lw) (cv (Q20 lw) (cv (Q20 lw) (c1 (c1 (cv (to 3 lnA) .nil)))))))))) (tO rfl (Q90 (cv (Q00 1 rfl rfl) .nil)) (tO rfl (tl eqA) .nil)))) (sv (Q00 0 rfl rfl) (s1 (s1 (sv (Q00 2 rfl rfl) (sl lw (s1 (sv (Qa0 (I_eq (wr omA)) lx) .nil)))))))) omA ⟨foll hR (congrArg (fun p:Work × (List Out)=>QN1 p.1 p.2) ((by subst hvtf;exact cf h8 (by subst hvgr;exact ct h9 rfl)))),by exact omA,Qj4⟩
     ·refine dchk (by kernel_rfl) ?_;(first|apply u2|apply u3|apply u4|apply us);exact Qcd tf.1 c2.state.now gr.2.1 Qu1 _;generalize hvjs:QF1 tf.1 c2.state.now gr.2.1=js;(have qjs:js.1.sz:=by rw [← hvjs];exact QKb qtf _ _);(repeat ((first|refine ai rfl ?_|refine ai (fun _=>rfl) ?_|refine ai (fun _=>by subst hvjs;exact Qcd tf.1 c2.state.now gr.2.1 Qu1 _) ?_)));refine ai (fun h11=>?_) (fun h12=>?_)
      ·refine ⟨_,_,Told.refl,?_⟩;exact Qz1 (i1+1) (⟨c2.state,c3⟩:Work) c3 (wk [0,1,2,3] (tO rfl (ts (l1 (l1 (l1 (l1 (l1 (l1 (l1 (l1 LowL.nil))))))))) (tO rfl (Q90 (c1 (cv (Q20 lw) (cv (Q20 lw) (cv (Q20 lw) (cv (Q20 lw) (cv (Q20 lw) (c1 (c1 (cv (to 3 lnA) .nil)))))))))) (tO rfl (Q90 (cv (Q00 1 rfl rfl) .nil)) (tO rfl (tl eqA) .nil)))) (sv (Q00 0 rfl rfl) (s1 (s1 (sv (Q00 2 rfl rfl) (sl lw (s1 (sv (Qa0 (I_eq (wr omA)) lx) .nil)))))))) omA ⟨foll hR (congrArg (fun p:Work × (List Out)=>QN1 p.1 p.2) ((by subst hvtf;exact cf h8 (by subst hvgr;exact cf h10 (by subst hvjs;exact ct h11 rfl))))),by exact omA,Qj4⟩
      ·refine ACalls.of_cwp (fun _=>true) Tryz.func85 rfl rfl ?_;refine dchk (by kernel_rfl) ?_;(first|apply u2|apply u3|apply u4|apply us);exact QZ6 c2.state.jobs js.1 Qu1 Qu1 _;generalize hvtp:Q92 c2.state.jobs js.1=tp;(have qtp:tp.1.length<=4294967296 ∧ ∀ y ∈ tp.1,y.sz:=by rw [← hvtp];first|exact Qz4 ⟨hx.1.2.1,hx.1.2.2.1⟩ qjs|exact Qz4 ⟨hk0.2.1,hk0.2.2.1⟩ qje);(repeat ((first|refine ai rfl ?_|refine ai (fun _=>rfl) ?_|refine ai (fun _=>by subst hvtp;exact QZ6 c2.state.jobs js.1 Qu1 Qu1 _) ?_)));refine ai (fun h13=>?_) (fun h14=>?_)
       ·refine ⟨_,_,Told.refl,?_⟩;refine ACalls.of_cwp (fun _=>true) Tryz.func32 rfl rfl ?_;refine Or.inl ?_;(first|refine ⟨Qp1 80 rfl lnA (by first|(have hj:=hcz.1.1.1.2.1;have hq:=hpa.2;simp;omega)|(simp;omega)|grind),?_⟩|refine ⟨QN0 80 rfl (by first|(have hj:=hcz.1.1.1.2.1;have hq:=hpa.2;simp;omega)|(simp;omega)|grind),?_⟩);refine ⟨_,_,Told.refl,?_⟩;refine dchk (by kernel_rfl) ?_;(first|apply u2|apply u3|apply u4|apply us);exact Q02 gr.2.2.1 Qu1 _;(first|refine ⟨Qp1 80 rfl lnA (by first|(have hj:=hcz.1.1.1.2.1;have hq:=hpa.2;simp;omega)|(simp;omega)|grind),?_⟩|refine ⟨QN0 80 rfl (by first|(have hj:=hcz.1.1.1.2.1;have hq:=hpa.2;simp;omega)|(simp;omega)|grind),?_⟩);(repeat ((first|refine ai rfl ?_|refine ai (fun _=>rfl) ?_|refine ai (fun _=>Q02 gr.2.2.1 Qu1 _) ?_)));refine ⟨_,_,Told.refl,?_⟩;exact Qz1 (i1+1) (⟨{ c2.state with nodes:=gr.1,jobs:=tp.1 },((c3++([(⟨4,⟨#[]⟩,Note.zero,((Qb1 ((Q80 c anew).state)).getD i1 0),js.1.limit,false⟩:Out)]:List Out))++(Q91 gr.2.2.1))⟩:Work) ((c3++([(⟨4,⟨#[]⟩,Note.zero,((Qb1 ((Q80 c anew).state)).getD i1 0),js.1.limit,false⟩:Out)]:List Out))++(Q91 gr.2.2.1)) (wk [0,1,2,3] (tO rfl (ts (l1 (l1 (l1 (l1 (l1 (l1 (l1 (l1 LowL.nil))))))))) (tO rfl (Q90 (c1 (cv (Q20 lw) (cv (Q20 lw) (cv (Q20 lw) (cv (Q20 lw) (cv (Q20 lw) (c1 (c1 (cv (to 3 lnA) .nil)))))))))) (tO rfl (Q90 (cv (Q00 1 rfl rfl) .nil)) (tO rfl (tl eqA) .nil)))) (sv (Q00 0 rfl rfl) (s1 (s1 (sv (Q00 2 rfl rfl) (sl lw (s1 (sv (Qa0 (I_eq (wr omA)) lx) .nil)))))))) omA ⟨foll hR (congrArg (fun p:Work × (List Out)=>QN1 p.1 p.2) ((by subst hvtf;exact cf h8 (by subst hvgr;exact cf h10 (by subst hvjs;exact cf h12 (by subst hvtp;exact ct h13 rfl)))))),by exact omA,Qj4⟩
       ·refine ⟨_,_,Told.refl,?_⟩;refine ACalls.of_cwp (fun _=>true) Tryz.func32 rfl rfl ?_;refine Or.inl ?_;(first|refine ⟨Qp1 80 rfl lnA (by first|(have hj:=hcz.1.1.1.2.1;have hq:=hpa.2;simp;omega)|(simp;omega)|grind),?_⟩|refine ⟨QN0 80 rfl (by first|(have hj:=hcz.1.1.1.2.1;have hq:=hpa.2;simp;omega)|(simp;omega)|grind),?_⟩);refine ⟨_,_,Told.refl,?_⟩;refine dchk (by kernel_rfl) ?_;(first|apply u2|apply u3|apply u4|apply us);exact Q02 gr.2.2.1 Qu1 _;(first|refine ⟨Qp1 80 rfl lnA (by first|(have hj:=hcz.1.1.1.2.1;have hq:=hpa.2;simp;omega)|(simp;omega)|grind),?_⟩|refine ⟨QN0 80 rfl (by first|(have hj:=hcz.1.1.1.2.1;have hq:=hpa.2;simp;omega)|(simp;omega)|grind),?_⟩);(repeat ((first|refine ai rfl ?_|refine ai (fun _=>rfl) ?_|refine ai (fun _=>Q02 gr.2.2.1 Qu1 _) ?_)));refine ⟨_,_,Told.refl,?_⟩;exact Qz1 (i1+1) (⟨{ c2.state with nodes:=gr.1 },((c3++([(⟨4,⟨#[]⟩,Note.zero,((Qb1 ((Q80 c anew).state)).getD i1 0),js.1.limit,false⟩:Out)]:List Out))++(Q91 gr.2.2.1))⟩:Work) ((c3++([(⟨4,⟨#[]⟩,Note.zero,((Qb1 ((Q80 c anew).state)).getD i1 0),js.1.limit,false⟩:Out)]:List Out))++(Q91 gr.2.2.1)) (wk [0,1,2,3] (tO rfl (ts (l1 (l1 (l1 (l1 (l1 (l1 (l1 (l1 LowL.nil))))))))) (tO rfl (Q90 (c1 (cv (Q20 lw) (cv (Q20 lw) (cv (Q20 lw) (cv (Q20 lw) (cv (Q20 lw) (c1 (c1 (cv (to 3 lnA) .nil)))))))))) (tO rfl (Q90 (cv (Q00 1 rfl rfl) .nil)) (tO rfl (tl eqA) .nil)))) (sv (Q00 0 rfl rfl) (s1 (s1 (sv (Q00 2 rfl rfl) (sl lw (s1 (sv (Qa0 (I_eq (wr omA)) lx) .nil)))))))) omA ⟨foll hR (congrArg (fun p:Work × (List Out)=>QN1 p.1 p.2) ((by subst hvtf;exact cf h8 (by subst hvgr;exact cf h10 (by subst hvjs;exact cf h12 (by subst hvtp;exact cf h14 rfl)))))),by exact omA,Qj4⟩
   ·rw [Ql0 (l:=(Qb1 ((Q80 c anew).state))) (j:=i1) (geA h6)] at hR;replace hR:QN1 (⟨c2.state,c3⟩:Work) c3=R:=fo2 (fun p:Work × (List Out)=>QN1 p.1 p.2) ((⟨c2.state,c3⟩:Work),c3) hR rfl;refine dchk (by kernel_rfl) ?_;(repeat ((first|refine ai rfl ?_|refine ai (fun _=>rfl) ?_)));obtain rfl:=foll hR rfl;exact Q10 (Low.tup' (.cons (State.low _ _) (.cons lw (l1 .nil)))) (Seen.tup (e1 (ev (Qn0 Out.zero _ rfl eqA lnA) (e1 .nil))))
end Go.Proofs.YtldebhdmhpopaaaGreatDoor
namespace Go.Proofs.YtldebhdmhpopaaaGreatDoor
set_option linter.unusedSimpArgs false
set_option linter.unusedVariables false
open Go.Fw
theorem Qc7:∀ (r:List Int) (i:Nat) (c:Work) (o:List Out),c.state.sz->(QZ0 r i c o).1.state.sz
 | [],_,_,_,h=>h
 | x :: r,i,c,o,h=>by
  have skip:=Qc7 r (i+1) (⟨c.state,o⟩:Work) o h
  rw [QZ0]
  dsimp only
  cases (decide ((Qc0 c.state.jobs x).1.choice >= ((Qe0 (Qc0 c.state.jobs x).1.shape).length:Int))) with
  | true=>exact skip
  | false =>
   rw [cond_false]
   generalize (((Qe0 (Qc0 c.state.jobs x).1.shape).getD (Int.toNat (Qc0 c.state.jobs x).1.choice) Alt.zero).nodes)=w
   have hg:=Nat.le_trans (Quc c.state.nodes w 1 x c.state.now).1 h.1
   generalize Qx2 c.state.nodes w 1 x c.state.now=gr at hg ⊢
   cases (gr.2.2.2 != 0) with
   | true=>exact skip
   | false =>
    rw [cond_false]
    cases ((QF1 (Qc0 c.state.jobs x).1 c.state.now gr.2.1).2 != 0) with
    | true=>exact skip
    | false =>
     have hp:=Qz4 ⟨h.2.1,h.2.2.1⟩ (QKb (Qt8 h.2.2.1 x) c.state.now gr.2.1)
     rw [cond_false,Bool.cond_eq_ite]
     split
     ·exact Qc7 r (i+1) _ _ ⟨hg,hp.1,hp.2,h.2.2.2⟩
     ·exact Qc7 r (i+1) _ _ ⟨hg,h.2⟩
theorem Q1c (s:State):∀ (m i:Nat) (c:Work),(QU0 s.jobs).2.length - i<m->i<=4294967296->(QU0 s.jobs).2.length<=4294967296->c.state.sz->c.told.length<=i->(∀ y ∈ c.told,y.sz)->(QM1 s m i c).sz
 | 0,_,_,h,_,_,_,_,_=>absurd h (Nat.not_lt_zero _)
 | m+1,i,c,h,hi,hd,hs,hl,ht=>by
  rw [QM1]
  cases h1:(decide ((i:Int)<(((QU0 s.jobs).2).length:Int))) with
  | false=>exact ⟨hs,Nat.le_trans hl hi,ht⟩
  | true =>
   have:=of_decide_eq_true h1
   exact Q1c s m (i+1) _ (by omega) (by omega) hd hs (by rw [List.length_append,List.length_singleton];omega)
    (fun y hy=>(List.mem_append.1 hy).elim (ht y) fun q=>by rw [List.mem_singleton.1 q];exact QX4)
theorem settle_sz {s:State} (h:s.sz) (anew:Bool):(Q60 s anew).1.sz:=by
 have hdz:=doom_sz ⟨h.2.1,h.2.2.1⟩
 unfold Q60
 rw [Bool.cond_eq_ite]
 split
 ·exact State.szz _
 ·have hc:=Q1c s ((Int.toNat ((((QU0 s.jobs).2).length:Int) - (0:Int)))+1) 0 (⟨{ s with jobs:=(QU0 s.jobs).1 },[]⟩:Work) (by omega) (Nat.zero_le _) hdz.2 ⟨h.1,hdz.1.1,hdz.1.2,h.2.2.2⟩ (Nat.le_refl _) (fun _ h=>nomatch h)
  exact Qc7 _ _ _ _ (Qh8 hc anew).1
set_option maxRecDepth 20000
set_option maxHeartbeats 4000000
attribute [local irreducible] ACalls AMoves
theorem two29_sz:law29_two.sz:=⟨by decide,by decide,fun y hy=>by rcases List.mem_cons.1 hy with rfl|hy;exact ⟨by decide,by decide,by decide,(by decide:(1:Nat)<=4294967296),by decide⟩;rw [List.mem_singleton.1 hy];exact ⟨by decide,by decide,by decide,(by decide:(1:Nat)<=4294967296),by decide⟩,by decide,by decide,by decide,fun y hy=>nomatch hy⟩
def Qq4 :Bool:=bif ((((Q60 law29_two false).2.2 != 0)||((((Q60 law29_two false).2.1).length:Int)!=6))||((((Q60 law29_two false).1.jobs).length:Int)!=2)) then false else bif (((((((Qo2 ((Q60 law29_two false).1) 1 3).2.2 != 0)||((QZ1 ((Q60 law29_two false).1) 1).2.2 != 0))||((((Qo2 ((Q60 law29_two false).1) 1 3).2.1).length:Int)!=4))||((((QZ1 ((Q60 law29_two false).1) 1).2.1).length:Int)!=4))||((((Qo2 ((Q60 law29_two false).1) 1 3).1.nodes).length:Int)!=4))||((((QZ1 ((Q60 law29_two false).1) 1).1.nodes).length:Int)!=4)) then false else ((((((((((((Q60 law29_two false).2.1).getD 2 Out.zero).kind==4)&&(((((Q60 law29_two false).2.1).getD 2 Out.zero).text==⟨#[]⟩)&&((((((Q60 law29_two false).2.1).getD 2 Out.zero).note.kind==0)&&(((((Q60 law29_two false).2.1).getD 2 Out.zero).note.node==0)&&(((((Q60 law29_two false).2.1).getD 2 Out.zero).note.job==0)&&((((Q60 law29_two false).2.1).getD 2 Out.zero).note.epoch==0))))&&(((((Q60 law29_two false).2.1).getD 2 Out.zero).job==1)&&(((((Q60 law29_two false).2.1).getD 2 Out.zero).at_==15)&&((((Q60 law29_two false).2.1).getD 2 Out.zero).raised==false))))))&&((((Q60 law29_two false).1.jobs).getD 1 Job.zero).promise==27))&&((((Q60 law29_two false).1.jobs).getD 0 Job.zero).nodes==7))&&(((((Qo2 ((Q60 law29_two false).1) 1 3).2.1).getD 0 Out.zero).kind==5)&&(((((Qo2 ((Q60 law29_two false).1) 1 3).2.1).getD 0 Out.zero).text==⟨#[]⟩)&&((((((Qo2 ((Q60 law29_two false).1) 1 3).2.1).getD 0 Out.zero).note.kind==0)&&(((((Qo2 ((Q60 law29_two false).1) 1 3).2.1).getD 0 Out.zero).note.node==0)&&(((((Qo2 ((Q60 law29_two false).1) 1 3).2.1).getD 0 Out.zero).note.job==0)&&((((Qo2 ((Q60 law29_two false).1) 1 3).2.1).getD 0 Out.zero).note.epoch==0))))&&(((((Qo2 ((Q60 law29_two false).1) 1 3).2.1).getD 0 Out.zero).job==1)&&(((((Qo2 ((Q60 law29_two false).1) 1 3).2.1).getD 0 Out.zero).at_==3)&&((((Qo2 ((Q60 law29_two false).1) 1 3).2.1).getD 0 Out.zero).raised==false)))))))&&((((Qo2 ((Q60 law29_two false).1) 1 3).1.nodes).getD 0 Node.zero).state==3))&&(((((QZ1 ((Q60 law29_two false).1) 1).2.1).getD 0 Out.zero).kind==6)&&(((((QZ1 ((Q60 law29_two false).1) 1).2.1).getD 0 Out.zero).text==⟨#[]⟩)&&((((((QZ1 ((Q60 law29_two false).1) 1).2.1).getD 0 Out.zero).note.kind==0)&&(((((QZ1 ((Q60 law29_two false).1) 1).2.1).getD 0 Out.zero).note.node==0)&&(((((QZ1 ((Q60 law29_two false).1) 1).2.1).getD 0 Out.zero).note.job==0)&&((((QZ1 ((Q60 law29_two false).1) 1).2.1).getD 0 Out.zero).note.epoch==0))))&&(((((QZ1 ((Q60 law29_two false).1) 1).2.1).getD 0 Out.zero).job==1)&&(((((QZ1 ((Q60 law29_two false).1) 1).2.1).getD 0 Out.zero).at_==4)&&((((QZ1 ((Q60 law29_two false).1) 1).2.1).getD 0 Out.zero).raised==false)))))))&&((((QZ1 ((Q60 law29_two false).1) 1).1.nodes).getD 1 Node.zero).state==4))&&(((Q91 ([Note.zero]:List Note)).length:Int)==1))
theorem Q99 {P:Prop} (h:P:=by first|((exact two29_sz))|first|((exact settle_sz two29_sz false))|exact szA):P:=h
theorem Q88 :GV 7 [] (Bo Qq4):=by
 generalize hR:Qq4=R;refine ga .nil lx (kp 11 [29,69]) Tryz.func7 ?_;refine us (law29_two_c _) ?_;refine us (Qw9 law29_two false Q99 _) ?_;refine ai (fun h1=>?_) (fun h2=>?_)
 ·obtain rfl:=foll hR (ct h1 rfl);exact Q10 lx sr
 ·refine us (deeds_End_c ((Q60 law29_two false).1) 1 3 Q99 _) ?_;refine us (deeds_Lose_c ((Q60 law29_two false).1) 1 Q99 _) ?_;refine ai (fun h3=>?_) (fun h4=>?_)
  ·obtain rfl:=foll hR (cf h2 (ct h3 rfl));exact Q10 lx sr
  ·refine ai gkA ?_;refine ai (fun _=>(by kernel_rfl:eqOK _ _=true)) ?_;refine ai gkA ?_;refine ai gkA ?_;refine ai gkA ?_;refine ai (fun _=>(by kernel_rfl:eqOK _ _=true)) ?_;refine ai gkA ?_;refine ai gkA ?_;refine ai (fun _=>(by kernel_rfl:eqOK _ _=true)) ?_;refine ai gkA ?_;(first|apply u2|apply u3|apply u4|apply us);exact AGives.as2 (Q02 ([Note.zero]:List Note) Q99 _) (av (QW4 (c:=Note.cells) (d:=Note.zero) ([Note.zero]:List Note) rfl) .nil);obtain rfl:=foll hR (cf h2 (cf h4 rfl));exact Q10 lx sr
end Go.Proofs.YtldebhdmhpopaaaGreatDoor
namespace Go.Proofs.YtldebhdmhpopaaaGreatDoor
set_option linter.unusedSimpArgs false
set_option linter.unusedVariables false
open Go.Fw
def Calm (l:List Out):Prop:=∀ o ∈ l,o.raised=false
theorem Calm.append {a b:List Out} (h:Calm a) (g:Calm b):Calm (a++b):=fun o ho=>(List.mem_append.1 ho).elim (h o) (g o)
theorem Calm.one {o:Out} (h:o.raised=false):Calm [o]:=fun x hx=>by rw [List.mem_singleton.1 hx];exact h
theorem Calm.count {l:List Out} (h:Calm l):l.countP (·.raised)=0:=List.countP_eq_zero.2 fun o ho=>by rw [h o ho];decide
theorem calm_sent:∀ (l:List Note) (o:List Out) (i:Nat),Calm o->Calm (QD2 l o i)
 | [],_,_,h=>h
 | x :: r,o,i,h=>by
  rw [QD2]
  exact calm_sent r _ (i+1) (h.append (.one rfl))
theorem settle_g1 (s:State):∀ (m i:Nat) (c:Work),(QU0 s.jobs).2.length - i<m->Calm c.told->c.told.length<=i->i<=(QU0 s.jobs).2.length ->
  (QM1 s m i c).state=c.state∧Calm (QM1 s m i c).told∧(QM1 s m i c).told.length<=(QU0 s.jobs).2.length
 | 0,_,_,h,_,_,_=>absurd h (Nat.not_lt_zero _)
 | m+1,i,c,h,hq,hl,hi=>by
  rw [QM1]
  cases h1:(decide ((i:Int)<(((QU0 s.jobs).2).length:Int))) with
  | false=>exact ⟨rfl,hq,Nat.le_trans hl hi⟩
  | true =>
   have:=of_decide_eq_true h1
   exact settle_g1 s m (i+1) _ (by omega) (hq.append (.one rfl)) (by rw [List.length_append,List.length_singleton];omega) (by omega)
theorem start_found {l:List Job} {id t n:Int} (h:((QF1 (Qc0 l id).1 t n).2 != 0)=false):(Qc0 l id).2=true:=by
 cases h2:(Qc0 l id).2 with
 | true=>rfl
 | false =>
  exfalso
  have hz:(Qc0 l id).1=Job.zero:=by
   unfold Qc0 at h2 ⊢
   cases h1:(((Qh0 l)!=0)||(!(Qh3 id))) with
   | true=>rfl
   | false =>
    rw [h1] at h2
    cases h3:(!(Qm0 l id).2) with
    | true=>rfl
    | false=>rw [h3] at h2;exact nomatch h2
  rw [hz] at h
  have hc:Qk0 Job.zero=140:=rfl
  unfold QF1 at h
  rw [hc] at h
  exact nomatch h
theorem put_start {l:List Job} {id t n:Int} (h:((QF1 (Qc0 l id).1 t n).2 != 0)=false) (hp:((Q92 l (QF1 (Qc0 l id).1 t n).1).2==0)=true) :
  Row2 StaR l (Q92 l (QF1 (Qc0 l id).1 t n).1).1:=by
 obtain ⟨ht,p,hx,_⟩:=QZc (start_found h)
 obtain ⟨e1,e2⟩:=start_told h
 have hj:Qk0 (QF1 (Qc0 l id).1 t n).1=0:=by
  unfold Q92 at hp
  cases h1:((Qh0 l)!=0) with
  | true=>rw [ht] at h1;exact nomatch h1
  | false =>
   rw [h1,cond_false] at hp
   cases h2:((Qk0 (QF1 (Qc0 l id).1 t n).1)!=0) with
   | true=>rw [h2,cond_true] at hp;simp at h2;simp at hp;exact absurd hp h2
   | false=>simpa using h2
 rw [put_ok ht hx hj e1]
 refine (Row2.refl (fun x=>⟨rfl,.inl rfl⟩) l).set fun x hx'=>?_
 rw [hx] at hx'
 cases hx'
 exact ⟨e1,.inr e2⟩
theorem settle_g2 (j0:List Job):∀ (r:List Int) (i:Nat) (c:Work) (o:List Out),Row2 StaR j0 c.state.jobs ->
  ∃ q,(QZ0 r i c o).2=o++q∧Calm q∧q.length<=65*r.length∧Row2 StaR j0 (QZ0 r i c o).1.state.jobs
 | [],i,c,o,h=>⟨[],(List.append_nil _).symm,(fun _ h=>nomatch h),Nat.zero_le _,h⟩
 | x :: r,i,c,o,h=>by
  have go:∀ (c':Work) (o' q':List Out),Row2 StaR j0 c'.state.jobs->o'=o++q'->Calm q'->q'.length<=65 ->
    ∃ q,(QZ0 r (i+1) c' o').2=o++q∧Calm q∧q.length<=65*(x :: r).length∧Row2 StaR j0 (QZ0 r (i+1) c' o').1.state.jobs:=by
   intro c' o' q' h1 h2 h3 h4
   obtain ⟨q,e1,e2,e3,e4⟩:=settle_g2 j0 r (i+1) c' o' h1
   refine ⟨q'++q,by rw [e1,h2,List.append_assoc],h3.append e2,?_,e4⟩
   rw [List.length_append,List.length_cons]
   omega
  have skip:=go (⟨c.state,o⟩:Work) o [] h (List.append_nil _).symm (fun _ h=>nomatch h) (Nat.zero_le _)
  rw [QZ0]
  dsimp only
  cases (decide ((Qc0 c.state.jobs x).1.choice >= ((Qe0 (Qc0 c.state.jobs x).1.shape).length:Int))) with
  | true=>exact skip
  | false =>
   rw [cond_false]
   generalize (((Qe0 (Qc0 c.state.jobs x).1.shape).getD (Int.toNat (Qc0 c.state.jobs x).1.choice) Alt.zero).nodes)=w
   have hg:=Quc c.state.nodes w 1 x c.state.now
   generalize Qx2 c.state.nodes w 1 x c.state.now=gr at hg ⊢
   cases (gr.2.2.2 != 0) with
   | true=>exact skip
   | false =>
    rw [cond_false]
    cases h1:((QF1 (Qc0 c.state.jobs x).1 c.state.now gr.2.1).2 != 0) with
    | true=>exact skip
    | false =>
     rw [cond_false]
     have hq:Calm ([(⟨4,⟨#[]⟩,Note.zero,x,(QF1 (Qc0 c.state.jobs x).1 c.state.now gr.2.1).1.limit,false⟩:Out)]++Q91 gr.2.2.1):=Calm.append (.one rfl) (calm_sent _ _ _ fun _ h=>nomatch h)
     have hl:([(⟨4,⟨#[]⟩,Note.zero,x,(QF1 (Qc0 c.state.jobs x).1 c.state.now gr.2.1).1.limit,false⟩:Out)]++Q91 gr.2.2.1).length<=65:=by
      rw [List.length_append,List.length_singleton,sent_len]
      omega
     cases h2:((Q92 c.state.jobs (QF1 (Qc0 c.state.jobs x).1 c.state.now gr.2.1).1).2==0) with
     | false=>exact go _ _ _ h (List.append_assoc ..) hq hl
     | true=>exact go _ _ _ (Row2.trans (fun a b d p q=>⟨q.1.trans p.1,q.2.elim (fun e=>e ▸ p.2) .inr⟩) h (put_start h1 h2)) (List.append_assoc ..) hq hl
def lateB (now:List Job) (x:Job):Bool:=(((((Qc0 now x.id).2&&(x.state==1))&&((Qc0 now x.id).1.state==1))&&(decide (x.promise >= 0)))&&((decide ((Qc0 now x.id).1.promise<0))||(decide ((Qc0 now x.id).1.promise > x.promise))))
theorem QBa (now:List Job):∀ (r:List Job) (out:List Int) (i:Nat),QT1 now r out i=out++(r.filter (lateB now)).map (·.id)
 | [],out,_=>(List.append_nil _).symm
 | x :: r,out,i=>by
  rw [QT1]
  show (bif lateB now x then _ else _)=_
  cases h:lateB now x with
  | true=>rw [cond_true,QBa now r,List.filter_cons,if_pos h,List.map_cons,List.append_assoc];rfl
  | false=>rw [cond_false,QBa now r,List.filter_cons,if_neg (by rw [h];decide)]
theorem later_told (was now:List Job):QF0 was now=[]∨(Qh0 was=0∧Qh0 now=0∧QF0 was now=(was.filter (lateB now)).map (·.id)):=by
 unfold QF0 Qe2
 cases h:(((Qh0 was)!=0)||((Qh0 now)!=0)) with
 | true=>exact .inl rfl
 | false =>
  simp only [Bool.or_eq_false_iff] at h
  exact .inr ⟨by simpa using h.1,by simpa using h.2,by rw [cond_false,QBa];rfl⟩
def NoL (x y:Job):Prop:=y.id=x.id∧(x.state=1->y.state=1->0<=x.promise->0<=y.promise∧y.promise<=x.promise)
theorem Qjd {l m:List Job} (ht:Qh0 m=0) {k:Nat} {x y:Job} (hy:m[k]? = some y) (e:y.id=x.id):lateB m x=(((y.state==1)&&(x.state==1))&&(decide (x.promise >= 0))&&((decide (y.promise<0))||(decide (y.promise > x.promise)))):=by
 unfold lateB
 rw [← e,Q0b ht hy]
 cases (x.state==1) <;> cases (y.state==1) <;> rfl
theorem later_nil {l m:List Job} (h:Row2 NoL l m):QF0 l m=[]:=by
 rcases later_told l m with e|⟨_,ht,e⟩
 ·exact e
 ·rw [e,List.filter_eq_nil_iff.2,List.map_nil]
  intro x hx hl
  obtain ⟨k,hk⟩:=List.getElem?_of_mem hx
  obtain ⟨y,hy,e1,e2⟩:=h.2 k x hk
  rw [Qjd (l:=l) ht hy e1] at hl
  simp only [Bool.and_eq_true,Bool.or_eq_true,beq_iff_eq,decide_eq_true_eq] at hl
  have:=e2 hl.1.1.2 hl.1.1.1 hl.1.2
  omega
theorem idx_mem (v:Int):∀ (l:List Int) (i:Nat),v ∈ l->0<=QT2 v l i
 | x :: r,i,h=>by
  rw [QT2]
  cases h1:(v==x) with
  | true=>exact Int.natCast_nonneg i
  | false=>exact idx_mem v r (i+1) ((List.mem_cons.1 h).resolve_left fun e=>by rw [e,beq_self_eq_true] at h1;cases h1)
theorem has_mem {l:List Int} {v:Int} (h:v ∈ l):QE0 l v=true:=decide_eq_true (idx_mem v l 0 h)
def cntR (w:Work) (L:List Int):List Job->Nat->Nat
 | [],_=>0
 | x :: r,i=>(bif (((x.state==1)&&((x.promise != (w.state.jobs.getD i Job.zero).promise)||(x.choice != (w.state.jobs.getD i Job.zero).choice)))&&QE0 L x.id) then 1 else 0)+cntR w L r (i+1)
theorem QN7 (w c:Work):∀ (r:List Job) (i:Nat) (o:List Out),(Qc1 w c r i o).countP (·.raised)=o.countP (·.raised)+cntR w (QF0 w.state.jobs c.state.jobs) r i ∧
  ((∀ x ∈ o,x.raised=true->x.kind=3) -> ∀ x ∈ Qc1 w c r i o,x.raised=true->x.kind=3) ∧
  (QF0 w.state.jobs c.state.jobs=[]->Calm o->Calm (Qc1 w c r i o))
 | [],_,_=>⟨rfl,fun h=>h,fun _ h=>h⟩
 | x :: r,i,o=>by
  rw [Qc1,cntR]
  cases h:((x.state==1)&&((x.promise != (w.state.jobs.getD i Job.zero).promise)||(x.choice != (w.state.jobs.getD i Job.zero).choice))) with
  | false =>
   obtain ⟨a,b,d⟩:=QN7 w c r (i+1) o
   exact ⟨by rw [cond_false,a,Bool.false_and,cond_false,Nat.zero_add],b,d⟩
  | true =>
   rw [cond_true]
   generalize hv:QE0 (QF0 w.state.jobs c.state.jobs) x.id=v
   obtain ⟨a,b,d⟩:=QN7 w c r (i+1) (o++[(⟨3,⟨#[]⟩,Note.zero,x.id,x.promise,v⟩:Out)])
   refine ⟨?_,fun ho=>b fun y hy hr=>(List.mem_append.1 hy).elim (fun q=>ho y q hr) (fun q=>by rw [List.mem_singleton.1 q]),fun he hc=>d he (hc.append (.one ?_))⟩
   ·rw [a,List.countP_append,Bool.true_and]
    cases v
    ·simp
    ·simp;omega
   ·show v=false
    rw [← hv,he]
    rfl
theorem cnt_le (w:Work) (L:List Int) (now:List Job):∀ (l r:List Job) (i:Nat),r.length=l.length->(∀ (k:Nat) (x y:Job),l[k]? = some x->r[k]? = some y->lateB now x=true ->
   (((y.state==1)&&((y.promise != (w.state.jobs.getD (i+k) Job.zero).promise)||(y.choice != (w.state.jobs.getD (i+k) Job.zero).choice)))&&QE0 L y.id)=true)->(l.filter (lateB now)).length<=cntR w L r i
 | [],_,_,_,_=>Nat.zero_le _
 | x :: l,[],_,h,_=>nomatch h
 | x :: l,y :: r,i,h,hk=>by
  have ih:=cnt_le w L now l r (i+1) (Nat.succ.inj h) fun k a b ha hb hl=>by
   have:=hk (k+1) a b (by simpa using ha) (by simpa using hb) hl
   rwa [show i+(k+1)=i+1+k by omega] at this
  rw [cntR,List.filter_cons]
  cases hl:lateB now x with
  | false=>rw [if_neg (by decide)];omega
  | true =>
   have:=hk 0 x y rfl rfl hl
   rw [Nat.add_zero] at this
   rw [if_pos rfl,this,cond_true,List.length_cons]
   omega
theorem QS9 {s:State} {anew:Bool} (hz:s.sz) (he:((Q60 s anew).2.2 != 0)=false) :
  (anew=false->QF0 s.jobs (Q60 s anew).1.jobs=[]) ∧
  (∀ o ∈ (Q60 s anew).2.1,o.raised=true->o.kind=3∧anew=true) ∧
  (QF0 s.jobs (Q60 s anew).1.jobs).length<=(Q60 s anew).2.1.countP (·.raised) ∧
  (Q60 s anew).2.1.length<=300000000000:=by
 have hdz:=doom_sz ⟨hz.2.1,hz.2.2.1⟩
 unfold Q60 at he ⊢
 cases h0:((QY1 s)!=0) with
 | true=>rw [h0,cond_true] at he;rw [h0] at he;exact nomatch he
 | false =>
  have hck:QY1 s=0:=by simpa using h0
  have htb:Qh0 s.jobs=0:=(Qg6 (check_parts hck).1).2
  obtain ⟨hdt,hdr⟩:=doom_row htb
  rw [cond_false]
  obtain ⟨g1,g2,g3⟩:=settle_g1 s ((Int.toNat ((((QU0 s.jobs).2).length:Int) - (0:Int)))+1) 0 (⟨{ s with jobs:=(QU0 s.jobs).1 },[]⟩:Work) (by omega) (fun _ h=>nomatch h) (Nat.le_refl _) (Nat.zero_le _)
  generalize QM1 s ((Int.toNat ((((QU0 s.jobs).2).length:Int) - (0:Int)))+1) 0 (⟨{ s with jobs:=(QU0 s.jobs).1 },[]⟩:Work)=c at g1 g2 g3
  have hcj:c.state.jobs=(QU0 s.jobs).1:=by rw [g1]
  have hcs:c.state.sz:=by rw [g1];exact ⟨hz.1,hdz.1.1,hdz.1.2,hz.2.2.2⟩
  unfold Qo3 QN1
  obtain ⟨q,e1,e2,e3,e4⟩:=settle_g2 (Q80 c anew).state.jobs (Qb1 (Q80 c anew).state) 0 (Q80 c anew) (Q80 c anew).told (Row2.refl (fun x=>⟨rfl,.inl rfl⟩) _)
  generalize QZ0 (Qb1 (Q80 c anew).state) 0 (Q80 c anew) (Q80 c anew).told=G at e1 e4 ⊢
  dsimp only
  have hE:Row2 EndR s.jobs c.state.jobs:=hcj ▸ hdr
  have hlen:(Q80 c anew).told.length<=c.told.length+c.state.jobs.length∧(Q80 c anew).state.sz:=by
   have key:∀ d:Work,d.state.sz->d.told=c.told->d.state.jobs.length=c.state.jobs.length->(Qk1 c d).told.length<=c.told.length+c.state.jobs.length∧(Qk1 c d).state.sz:=by
    intro d h1 h2 h3
    refine ⟨?_,h1⟩
    have:=Qi8 c d d.state.jobs 0 d.told
    rw [h2,h3] at this
    rw [← h2] at this ⊢
    exact this
   unfold Q80
   cases anew with
   | true=>exact key _ (Q79 hcs).1 rfl (Q79 hcs).2
   | false=>exact key _ (QE5 hcs).1 rfl (QE5 hcs).2.2
  have hdl:=Q19 hlen.2
  have hcl:=hcs.2.1
  have H1:anew=false->QF0 s.jobs G.1.state.jobs=[]:=by
   intro ha
   subst ha
   refine later_nil (Row2.trans (R:=EndR) (S:=fun x y=>y.id=x.id∧(y.state=1->x.state=1)∧(y.state=1->0<=x.promise->0<=y.promise∧y.promise<=x.promise)) ?_ hE ?_)
   ·rintro x y z ⟨a1,a2⟩ ⟨b1,b2,b3⟩
    refine ⟨b1.trans a1,fun hx hz h0=>?_⟩
    rcases a2 with rfl|⟨_,h6⟩
    ·exact b3 hz h0
    ·have:=b2 hz
     omega
   ·have hp:Row2 (fun x y=>y.id=x.id∧y.state=x.state∧(0<=x.promise->0<=y.promise∧y.promise<=x.promise)) c.state.jobs (Q80 c false).state.jobs :=
     Row2.trans (fun x y z a b=>⟨b.1.trans a.1,b.2.1.trans a.2.1,fun h0=>by
      have h1:=a.2.2 h0
      rcases b.2.2.1 with rfl|h
      ·exact h1
      ·omega⟩) (sqz_row c.state) (frs_row { c.state with jobs:=(QJ0 c.state).1 })
    refine Row2.trans (fun x y z a b=>⟨b.1.trans a.1,fun hz=>?_,fun hz h0=>?_⟩) hp e4
    ·rcases b.2 with rfl|h
     ·rw [← a.2.1];exact hz
     ·omega
    ·rcases b.2 with rfl|h
     ·exact a.2.2 h0
     ·omega
  refine ⟨H1,?_,?_,?_⟩
  ·intro o ho hr
   rw [e1] at ho
   rcases List.mem_append.1 ho with h|h
   ·revert h
    unfold Q80 Qk1 Qs1
    cases anew with
    | true =>
     intro h
     exact ⟨(QN7 c _ _ 0 c.told).2.1 (fun x hx hxr=>by rw [g2 x hx] at hxr;cases hxr) o h hr,rfl⟩
    | false =>
     intro h
     exfalso
     have hp:Row2 NoL c.state.jobs (QE1 { c.state with jobs:=(QJ0 c.state).1 }).1 :=
      Row2.trans (fun x y z a b=>⟨b.1.trans a.1,fun _ _ h0=>by
       have h1:=a.2.2 h0
       rcases b.2.2.1 with rfl|h
       ·exact h1
       ·omega⟩) (sqz_row c.state) (frs_row { c.state with jobs:=(QJ0 c.state).1 })
     have:=(QN7 c (⟨{ c.state with jobs:=(QE1 { c.state with jobs:=(QJ0 c.state).1 }).1 },c.told⟩:Work) _ 0 c.told).2.2 (later_nil hp) g2 o h
     rw [hr] at this
     cases this
   ·rw [e2 o h] at hr
    cases hr
  ·rcases later_told s.jobs G.1.state.jobs with e|⟨_,ht,e⟩
   ·rw [e]
    exact Nat.zero_le _
   ·cases anew with
    | false =>
     rw [H1 rfl]
     exact Nat.zero_le _
    | true =>
     rw [e,List.length_map,e1,List.countP_append,e2.count,Nat.add_zero]
     have hP:=anew_row c.state
     have hpt:Qh0 (QC2 c.state).1=0:=whole_row (hcj ▸ hdt) ⟨hP.1,fun k x hx=>by
      obtain ⟨y,hy,r⟩:=hP.2 k x hx
      exact ⟨y,hy,r.1,r.2.2⟩⟩
     have e4':Row2 StaR (QC2 c.state).1 _:=e4
     unfold Q80 Qk1 Qs1
     rw [cond_true]
     rw [(QN7 c _ _ 0 c.told).1,g2.count,Nat.zero_add]
     refine cnt_le c _ _ s.jobs _ 0 (hP.1.trans hE.1) fun k x y hx hy hl=>?_
     obtain ⟨x',hx',a1,a2⟩:=hE.2 k x hx
     obtain ⟨y',hy',b1,b2,_⟩:=hP.2 k x' hx'
     have hyy:y'=y:=Option.some.inj (hy'.symm.trans hy)
     subst hyy
     obtain ⟨z,hz',c1,c2⟩:=e4'.2 k y' hy
     have hzx:z.id=x.id:=c1.trans (b1.trans a1)
     rw [Qjd (l:=s.jobs) ht hz' hzx] at hl
     simp only [Bool.and_eq_true,Bool.or_eq_true,beq_iff_eq,decide_eq_true_eq] at hl
     obtain ⟨⟨⟨l1,l2⟩,l3⟩,l4⟩:=hl
     have hzy:z=y':=c2.resolve_right (by omega)
     subst hzy
     have hxx:x'=x:=a2.resolve_right fun q=>by omega
     subst hxx
     have hg:c.state.jobs.getD (0+k) Job.zero=x':=by rw [Nat.zero_add,List.getD_eq_getElem?_getD,hx'];rfl
     rw [hg]
     have hm:z.id ∈ QF0 c.state.jobs (QC2 c.state).1:=by
      have hfil:lateB (QC2 c.state).1 x'=true:=by
       rw [Qjd (l:=s.jobs) hpt hy b1]
       simp only [Bool.and_eq_true,Bool.or_eq_true,beq_iff_eq,decide_eq_true_eq]
       exact ⟨⟨⟨l1,l2⟩,l3⟩,l4⟩
      unfold QF0 Qe2
      rw [show Qh0 c.state.jobs=0 by rw [hcj];exact hdt,hpt,QBa]
      refine List.mem_map.2 ⟨x',List.mem_filter.2 ⟨List.mem_of_getElem? hx',hfil⟩,b1.symm⟩
     rw [has_mem hm,Bool.and_true]
     simp only [Bool.and_eq_true,Bool.or_eq_true,beq_iff_eq,bne_iff_ne]
     exact ⟨l1,.inl (by omega)⟩
  ·rw [e1,List.length_append]
   omega
set_option maxRecDepth 20000
set_option maxHeartbeats 4000000
attribute [local irreducible] ACalls AMoves
def Qh2 (s:State) (anew:Bool):Nat->Int->Nat->Bool
 | 0,_,_=>false
 | m+1,raised,i=>bif (decide ((i:Int)<(((Q60 s anew).2.1).length:Int))) then bif (((Q60 s anew).2.1).getD i Out.zero).raised then bif (((((Q60 s anew).2.1).getD i Out.zero).kind != 3)||(!anew)) then false else Qh2 s anew m (w64 (raised+1)) (i+1) else Qh2 s anew m raised (i+1) else ((decide (raised >= ((QF0 s.jobs ((Q60 s anew).1.jobs)).length:Int)))&&Qq4)
def QU4 (s:State) (anew:Bool):Bool:=bif (!(QL7 s)) then Qq4 else bif ((Q60 s anew).2.2 != 0) then (((((Q60 s anew).2.1).length:Int)==0)&&Qq4) else bif ((!anew)&&(decide (((QF0 s.jobs ((Q60 s anew).1.jobs)).length:Int) > 0))) then false else Qh2 s anew ((Int.toNat ((((Q60 s anew).2.1).length:Int) - (0:Int)))+1) 0 0
theorem Qs6 {P:Prop} (h:P:=by first|((with_reducible exact Q85 (by simpa using h2)))|first|((have F:=Q85 (s:=s) (by simpa using h2);exact ⟨F.2.1,F.2.2.1⟩))|first|((have F:=settle_sz (Q85 (s:=s) (by simpa using h2)) anew;exact ⟨F.2.1,F.2.2.1⟩))|first|((exact Nat.le_trans (QS9 (Q85 (s:=s) (by simpa using h2)) (by assumption)).2.2.2 (by decide)))|exact szA):P:=h
theorem QHa (s:State) (anew:Bool) (hs0:s.szM):GV 3 [State.a s,Bo anew] (Bo (QU4 s anew)):=by
 generalize hR:QU4 s anew=R;refine ga (.cons (State.low _ _) (l1 .nil)) lx (kp 11 [13,23,41,45,52,64]) Tryz.func3 ?_;have hk0:=hs0;obtain ⟨z13,z14,z15,z16,z17,z18,z19⟩:=hs0;refine us (law20_Few_c s Qs6 _) ?_;refine ai (fun h1=>?_) (fun h2=>?_)
 ·refine us (Q88 _) ?_;obtain rfl:=foll hR (ct h1 rfl);exact Q10 lx sr
 ·refine us (Qw9 s anew Qs6 _) ?_;refine ai (fun h3=>?_) (fun h4=>?_)
  ·(first|apply u3g|apply u4g);exact fun hg=>Q88 _;obtain rfl:=foll hR (cf h2 (ct h3 rfl));exact Q10 lx sr
  ·refine us (Q29 s.jobs ((Q60 s anew).1.jobs) Qs6 Qs6 _) ?_;refine ai (fun h5=>?_) (fun h6=>?_)
   ·obtain rfl:=foll hR (cf h2 (cf h4 (ct h5 rfl)));exact Q10 lx sr
   ·refine Qq0 (fun (raised:Int) (i:Nat)=>∃ m,(Int.toNat ((((Q60 s anew).2.1).length:Int) - (i:Int)))<m∧Qh2 s anew m raised i=R∧(i:Int)<=(((Q60 s anew).2.1).length:Int)) (fun raised i=>(Int.toNat ((((Q60 s anew).2.1).length:Int) - (i:Int)))) (fun raised i=>[(1,Bo anew),(4,Bo false),(6,outL ((Q60 s anew).2.1)),(8,ints (QF0 s.jobs ((Q60 s anew).1.jobs))),(9,I raised),(10,I (i:Int))]) (fun raised i=>[]) 0 0 (wk [] .nil (s1 (s1 (sl lw (sl lw (s1 (s1 .nil))))))) ⟨_,Nat.lt_succ_self _,foll hR (cf h2 (cf h4 (cf h6 rfl))),by exact exA⟩ ?_;clear hR;rintro raised i ⟨m,hm,hR,hx⟩;(try dsimp only at hR hm hx);obtain ⟨m,rfl⟩:=sucA m;refine ai (fun h7=>?_) (fun h8=>?_)
    ·have qh7:=of_decide_eq_true h7;have hdl:=(QS9 (anew:=anew) (Q85 (s:=s) (by simpa using h2)) (by assumption)).2.2.2;refine ai gkA ?_;refine ai (fun h9=>?_) (fun h10=>?_)
     ·refine ai gkA ?_;refine ai (fun h11=>?_) (fun h12=>?_)
      ·obtain rfl:=foll hR (ct h7 (ct h9 (ct h11 rfl)));exact Q10 lx sr
      ·exact Qd0 (w64 (raised+1)) (i+1) (wk [] .nil (s1 (s1 (sl lw (sl lw (s1 (sv (Qa0 (I_eq (wr omA)) lx) .nil))))))) omA ⟨m,by exact omA,foll hR (ct h7 (ct h9 (cf h12 rfl))),by exact exA⟩
     ·exact Qd0 raised (i+1) (wk [] .nil (s1 (s1 (sl lw (sl lw (s1 (sv (Qa0 (I_eq (wr omA)) lx) .nil))))))) omA ⟨m,by exact omA,foll hR (ct h7 (cf h10 rfl)),by exact exA⟩
    ·have qh8:=of_decide_eq_false h8;(first|apply u3g|apply u4g);exact fun hg=>Q88 _;obtain rfl:=foll hR (cf h8 rfl);exact Q10 lx sr
end Go.Proofs.YtldebhdmhpopaaaGreatDoor
namespace Go.Proofs.YtldebhdmhpopaaaGreatDoor
set_option linter.unusedSimpArgs false
set_option linter.unusedVariables false
open Go.Fw
theorem settle_err {s:State} {anew:Bool} (h:((Q60 s anew).2.2 != 0)=true):(Q60 s anew).2.1=[]:=by
 unfold Q60 at h ⊢
 cases h0:((QY1 s)!=0) with
 | true=>rfl
 | false=>rw [h0] at h;exact nomatch h
theorem QZ7 {s:State} {anew:Bool} (ha:Qq4=true) (H2:∀ o ∈ (Q60 s anew).2.1,o.raised=true->o.kind=3∧anew=true)
  (H3:(QF0 s.jobs (Q60 s anew).1.jobs).length<=(Q60 s anew).2.1.countP (·.raised)) (H4:(Q60 s anew).2.1.length<=300000000000):∀ (m i:Nat) (n:Int),
  (Q60 s anew).2.1.length - i<m->i<=(Q60 s anew).2.1.length->n=(((Q60 s anew).2.1.take i).countP (·.raised):Nat)->Qh2 s anew m n i=true
 | 0,_,_,h,_,_=>absurd h (Nat.not_lt_zero _)
 | m+1,i,n,h,hi,hn=>by
  rw [Qh2]
  cases h1:(decide ((i:Int)<(((Q60 s anew).2.1).length:Int))) with
  | false =>
   have:=of_decide_eq_false h1
   rw [List.take_of_length_le (by omega)] at hn
   rw [cond_false,ha,Bool.and_true,decide_eq_true_eq]
   omega
  | true =>
   have hlt:=of_decide_eq_true h1
   have hl:i<(Q60 s anew).2.1.length:=by omega
   have hg:(Q60 s anew).2.1.getD i Out.zero=(Q60 s anew).2.1[i]:=by simp [List.getD,hl]
   have ht:((Q60 s anew).2.1.take (i+1)).countP (·.raised)=((Q60 s anew).2.1.take i).countP (·.raised)+(bif (Q60 s anew).2.1[i].raised then 1 else 0):=by
    rw [List.take_add_one,List.getElem?_eq_getElem hl,List.countP_append,Option.toList_some,List.countP_cons,List.countP_nil,Bool.cond_eq_ite,Nat.zero_add]
   have hc:((Q60 s anew).2.1.take i).countP (·.raised)<=300000000000:=Nat.le_trans List.countP_le_length (by rw [List.length_take];omega)
   rw [cond_true,hg]
   cases h2:(Q60 s anew).2.1[i].raised with
   | false =>
    rw [h2] at ht
    exact QZ7 ha H2 H3 H4 m (i+1) n (by omega) (by omega) (by rw [ht];exact hn)
   | true =>
    rw [h2] at ht
    obtain ⟨k1,k2⟩:=H2 _ (List.getElem_mem hl) h2
    have hw:w64 (n+1)=n+1:=wr (by omega)
    have hk:(((Q60 s anew).2.1[i].kind != 3)||(!anew))=false:=by rw [k1,k2];rfl
    rw [cond_true,hk,hw]
    exact QZ7 ha H2 H3 H4 m (i+1) (n+1) (by omega) (by omega) (by rw [ht,hn];simp)
theorem QVc {s:State} {anew:Bool} (ha:Qq4=true):QU4 s anew=true:=by
 unfold QU4
 cases h:(!(QL7 s)) with
 | true=>exact ha
 | false =>
  have hz:s.sz:=Q85 (by simpa using h)
  cases he:((Q60 s anew).2.2 != 0) with
  | true =>
   rw [cond_false,cond_true,settle_err he,ha]
   rfl
  | false =>
   obtain ⟨H1,H2,H3,H4⟩:=QS9 hz he
   have hn:((!anew)&&(decide (((QF0 s.jobs ((Q60 s anew).1.jobs)).length:Int) > 0)))=false:=by
    cases anew with
    | true=>rfl
    | false=>rw [H1 rfl];rfl
   rw [cond_false,cond_false,hn,cond_false]
   exact QZ7 ha H2 H3 H4 _ 0 0 (by omega) (Nat.zero_le _) (by simp)
set_option maxRecDepth 100000
theorem deeds_awake:Qq4=true:=by kernel_rfl
end Go.Proofs.YtldebhdmhpopaaaGreatDoor
