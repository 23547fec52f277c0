/-
  What the last text of this claim leans on: an evaluator over the code, contracts of functions, plain laws. Conditions stand in each statement.
-/
import Derived.Test.YtgnlcjenoaoffaaGreatDoorRH13
import Derived.Test.YtgnlcjenoaoffaaGreatDoorRH6
import Derived.Test.YtgnlcjenoaoffaaGreatDoorRH8
import Derived.Test.YtgnlcjenoaoffaaGreatDoorProg
namespace Go.Proofs.YtgnlcjenoaoffaaGreatDoor
set_option linter.unusedSimpArgs false
set_option linter.unusedVariables false
open Go.Fw
set_option maxRecDepth 20000
set_option maxHeartbeats 4000000
end Go.Proofs.YtgnlcjenoaoffaaGreatDoor
namespace Go.Proofs.YtgnlcjenoaoffaaGreatDoor
set_option linter.unusedSimpArgs false
set_option linter.unusedVariables false
open Go.Fw
end Go.Proofs.YtgnlcjenoaoffaaGreatDoor
namespace Go.Fw
set_option linter.unusedSimpArgs false
set_option linter.unusedVariables false
theorem w6 {n:Int} (h:-9223372036854775808<=n∧n<=9223372036854775807):w64 n=n:=wr h
theorem or_f {a b:Bool} (h:(a||b)=false):a=false∧b=false:=by simpa using h
end Go.Fw
namespace Go.Proofs.YtgnlcjenoaoffaaGreatDoor
set_option linter.unusedSimpArgs false
set_option linter.unusedVariables false
open Go.Fw
end Go.Proofs.YtgnlcjenoaoffaaGreatDoor
namespace Go.Proofs.YtgnlcjenoaoffaaGreatDoor
set_option linter.unusedSimpArgs false
set_option linter.unusedVariables false
open Go.Fw Go.RowKit
set_option maxRecDepth 20000
set_option maxHeartbeats 4000000
attribute [local irreducible] ACalls AMoves
def Qo2 (s:State):List Job:=((QC0 s.jobs s.ledger (Qg0 s.jobs)).map fun id=>(Q70 s.jobs id).1).filter fun j=>j.promise==(-1)
def openN (s:State) (i:Nat):Nat:=((((QC0 s.jobs s.ledger (Qg0 s.jobs)).take i).map fun id=>(Q70 s.jobs id).1).filter fun j=>j.promise==(-1)).length
theorem openN_succ (s:State) (i:Nat) (h:i<(QC0 s.jobs s.ledger (Qg0 s.jobs)).length) :
  openN s (i+1)=openN s i+(bif ((Q70 s.jobs ((QC0 s.jobs s.ledger (Qg0 s.jobs)).getD i 0)).1.promise==(-1)) then 1 else 0) ∧
  (((Q70 s.jobs ((QC0 s.jobs s.ledger (Qg0 s.jobs)).getD i 0)).1.promise==(-1))=true->((Qo2 s).map Job.a)[openN s i]? = some (Job.a (Q70 s.jobs ((QC0 s.jobs s.ledger (Qg0 s.jobs)).getD i 0)).1)):=by
 unfold openN Qo2;generalize QC0 s.jobs s.ledger (Qg0 s.jobs)=l at h ⊢;have hg:l.getD i 0=l[i]:=by simp [yNa,h]
 rw [hg,List.take_add_one,yba h];have e:l=l.take i++l[i] :: l.drop (i+1):=by rw [List.getElem_cons_drop,List.take_append_drop]
 constructor
 ·rw [yDb,List.filter_append,yma]
  congr 1
  simp only [Option.toList_some,yob,y4b,yEb,List.filter_nil];cases hp:((Q70 s.jobs l[i]).1.promise==(-1)) <;> rfl
 ·intro hp;have:((l.map fun id=>(Q70 s.jobs id).1).filter fun j=>j.promise==(-1))=(((l.take i).map fun id=>(Q70 s.jobs id).1).filter fun j=>j.promise==(-1))++(Q70 s.jobs l[i]).1 :: (((l.drop (i+1)).map fun id=>(Q70 s.jobs id).1).filter fun j=>j.promise==(-1)):=by
   conv=>lhs;rw [e]
   rw [yDb,List.filter_append,yob,yEb,hp,if_pos rfl]
  rw [this,yDb,yva (by simp)];simp
theorem openN_all (s:State):openN s (QC0 s.jobs s.ledger (Qg0 s.jobs)).length=((Qo2 s).map Job.a).length:=by
 unfold openN Qo2;rw [List.take_length,yxa]
theorem weaker_take {nt n0:Nat} {s s':List (Nat × AVal)} {o:Objs} (n:Nat) (hn0:n0<=n) (hn:n<=o.length) (hl:∀ i p,o[i]? = some p->i<n->QXa n p.2) (hs:SubS n s s'):Weaker nt n0 ⟨s,o⟩ ⟨s',o.take n⟩:=by
 intro K0 K a w h0 hle hsat;refine ⟨K.cut n,⟨hle.M,hle.ρ,hle.C,by show K0.n<=n;omega,hle.vs,hle.w0,hle.B,hle.M0⟩,hsat.mem.cut hn hl,fun t=>?_,hsat.size,hsat.defers⟩;show Rep (K.cut n) (Q71 s' t) _;rcases hs.get t with h|⟨h,hlow⟩
 ·rw [h];exact .any _
 ·rw [h];exact Rep.low (K:=K) (L:=K.cut n) (n:=n) (fun _ _ _ h=>h) (yia _) (fun _ _ _=>rfl) (fun _ _ _=>rfl) (fun _ _=>rfl) (hsat.slot t) hlow
def Qz9 (s:State) (x:List Step × List Job × List Int):Objs :=
 [(0,.row 207 1 [[stepL x.1]]),(0,.row 23 1 [[.own 6 0 20 0 x.2.1.length]]),(0,.row 43 1 [[.own 7 0 1 0 x.2.2.length]]),
  (0,.row 217 1 [[.fn (.func 169) [] [.ptr 0 0 1 0 0,.ptr 1 0 1 0 0,.ptr 2 0 1 0 0]]]),
  (0,.row 28 8 [[I s.now,nodeL s.nodes,jobL s.jobs,Qh1 s.resizes,bookL s.books,Qt1 s.ledger,I s.nextJob,I s.nextBook]]),
  (0,.row 28 8 [[I s.now,nodeL s.nodes,jobL s.jobs,Qh1 s.resizes,bookL s.books,Qt1 s.ledger,I s.nextJob,I s.nextBook]]),
  (0,.row 55 20 (x.2.1.map Job.cells)),(0,.row 3 1 (x.2.2.map (fun q_=>[I q_])))]
theorem freshO_low (s:State) (x:List Step × List Job × List Int):∀ p ∈ Qz9 s x,QXa 8 p.2:=by
 intro p hp;simp only [Qz9,y6b,y8a,or_false] at hp;rcases hp with rfl|rfl|rfl|rfl|rfl|rfl|rfl|rfl
 ·intro e he;rw [List.mem_singleton.1 he];exact .cons lw .nil
 ·intro e he;rw [List.mem_singleton.1 he];exact .cons (.own _ _ _ _ _ (by decide)) .nil
 ·intro e he;rw [List.mem_singleton.1 he];exact .cons (.own _ _ _ _ _ (by decide)) .nil
 ·intro e he;rw [List.mem_singleton.1 he];exact .cons (.fn _ _ _ (by simp) (by simp only [List.forall_mem_cons,y8a,false_implies,implies_true,and_true];exact ⟨.ptr _ _ _ _ _ (by decide),.ptr _ _ _ _ _ (by decide),.ptr _ _ _ _ _ (by decide)⟩)) .nil
 ·intro e he;rw [List.mem_singleton.1 he];exact State.lo
 ·intro e he;rw [List.mem_singleton.1 he];exact State.lo
 ·exact Qx7 fun _=>Job.lowc _ _
 ·exact lm
theorem open1_c (s:State) (hs0:s.sz) (st:Nat->List Step × List Job × List Int):IterC Tryz.prog 218 [.ptr 5 0 8 0 0] 6 ((Qo2 s).map Job.a) (fun k=>Qz9 s (st k)):=by
 refine IterC.of_cwpY (kp 7 [14,15,16,17,35]) (fun id=>Nat.beq id 4) Tryz.func218 rfl rfl (fun k=>by simp [Qz9]) (fun k=>freshO_low s (st k)) (fun k x hx=>by obtain ⟨j,_,rfl⟩:=List.mem_map.1 hx;exact Job.low _ _) ?_;intro l;have hs:=hs0;obtain ⟨z1,z2,z3,z4,z5,z6,z7⟩:=hs0;have hel:=Qo8 s.jobs;have hsl:=Q16 s.jobs s.ledger (Qg0 s.jobs)
 conv=>whnf
 refine dchk (by kernel_rfl) ?_
 (first|apply u2|apply u3|apply u4|apply us)
 exact QN5 s.jobs szA _
 (first|apply u2|apply u3|apply u4|apply us)
 exact Qe7 s.jobs s.ledger (Qg0 s.jobs) szA szA oA _
 (repeat (first|refine ai rfl ?_|refine ai (fun _=>rfl) ?_|refine ai (fun _=>QN5 s.jobs szA _) ?_|refine ai (fun _=>Qe7 s.jobs s.ledger (Qg0 s.jobs) szA szA oA _) ?_))
 refine Qk0 (fun i:Nat=>i<=(QC0 s.jobs s.ledger (Qg0 s.jobs)).length) (fun i=>(QC0 s.jobs s.ledger (Qg0 s.jobs)).length - i) (fun i=>[(0,.lit (.func (.yield l) #[] #[])),(1,.ptr 5 0 8 0 0),(14,ints (QC0 s.jobs s.ledger (Qg0 s.jobs))),(15,I ((QC0 s.jobs s.ledger (Qg0 s.jobs)).length:Int)),(16,I (i:Int))]) (fun i=>Qz9 s (st (openN s i))) 0 (QPe ?_) (yna _) ?_
 ·repeat (first|exact .nil|refine .cons _ _ _ rfl ?_|(refine .cons _ _ _ (I_eq ?_) ?_;rotate_left))
 rintro i hi
 conv=>whnf
 refine ai (fun h1=>?_) (fun h2=>?_)
 ·have hlt:i<(QC0 s.jobs s.ledger (Qg0 s.jobs)).length:=by have:=yca h1;omega
  obtain ⟨e1,e2⟩:=openN_succ s i hlt;refine ai gkA ?_;refine us (QW1 s.jobs ((QC0 s.jobs s.ledger (Qg0 s.jobs)).getD i 0) szA _) ?_
  conv=>whnf
  refine ⟨rfl,?_⟩
  conv=>whnf
  refine ⟨rfl,fun t=>!(Nat.beq t 5||Nat.beq t 27),bif ((Q70 s.jobs ((QC0 s.jobs s.ledger (Qg0 s.jobs)).getD i 0)).1.promise==(-1)) then Qz9 s (st (openN s i+1)) else Qz9 s (st (openN s i))++[(0,.row 55 20 [Job.cells (Q70 s.jobs ((QC0 s.jobs s.ledger (Qg0 s.jobs)).getD i 0)).1])],fun h=>⟨openN s i,[(0,.row 55 20 [Job.cells (Q70 s.jobs ((QC0 s.jobs s.ledger (Qg0 s.jobs)).getD i 0)).1])],e2 h,rfl,ct h rfl⟩,fun h=>cf h rfl,?_,?_⟩
  ·refine lowR_of ?_ ?_
   ·repeat (first|exact fun _ h=>absurd h y8a|refine List.forall_mem_cons.2 ⟨by first|exact .lit _|exact .any|exact .ptr _ _ _ _ _ (by decide)|exact (show Low _ (ints _) from lw),?_⟩)
   ·repeat (first|exact fun _ h=>absurd h y8a|refine List.forall_mem_cons.2 ⟨by first|exact .lit _|exact .any|exact Job.low _ _,?_⟩)
  conv=>whnf
  refine ai (fun h3=>absurd h3 (by simp)) (fun _=>?_)
  conv=>whnf
  refine Qr0 (i+1) ?_ oA oA;rw [e1];cases hp:((Q70 s.jobs ((QC0 s.jobs s.ledger (Qg0 s.jobs)).getD i 0)).1.promise==(-1)) with
  | true =>
   simp only [cond_true];refine QPe ?_
   repeat (first|exact .nil|refine .cons _ _ _ rfl ?_|(refine .cons _ _ _ (I_eq ?_) ?_;rotate_left))
   all_goals exact wr oA
  | false =>
   simp only [cond_false];refine weaker_take (n0:=6) 8 (by decide) (by simp [Qz9]) (fun k p hp hk=>freshO_low s (st (openN s i)) p (by rw [ypa (by simpa [Qz9] using hk)] at hp;exact yza hp)) ?_
   repeat (first|exact .nil|refine .cons _ _ _ rfl (by first|exact .lit _|exact .ptr _ _ _ _ _ (by decide)|exact lw) ?_|refine .cons _ _ _ (I_eq (wr oA)) (.lit _) ?_)
 ·have hil:(QC0 s.jobs s.ledger (Qg0 s.jobs)).length=i:=by have:=yja h2;omega
  conv=>whnf
  refine ⟨_,_,QNe,?_⟩;rw [← openN_all,hil]
end Go.Proofs.YtgnlcjenoaoffaaGreatDoor
namespace Go.Proofs.YtgnlcjenoaoffaaGreatDoor
set_option linter.unusedSimpArgs false
set_option linter.unusedVariables false
open Go.Fw
theorem QY6 {s:State} (h:Q12 s=0):Q61 s.nodes=0∧Qi0 s.jobs=0:=by
 unfold Q12 at h;cases h1:(QY3 s != 0) with
 | true=>rw [h1] at h;cases h
 | false =>
  have hr:QY3 s=0:=by simpa using h1
  unfold QY3 at hr;cases h2:(((((decide (s.now<0))||(decide (s.now > 1000000)))||((Q61 s.nodes)!=0))||((Qi0 s.jobs)!=0))||((QX9 s.books)!=0)) with
  | true=>rw [h2] at hr;cases hr
  | false =>
   obtain ⟨h3,_⟩:=or_f h2;obtain ⟨h4,h5⟩:=or_f h3;obtain ⟨_,h6⟩:=or_f h4;exact ⟨by simpa using h6,by simpa using h5⟩
theorem check_held (s:State) (a b:Int) (c:List (Int × Job)):∀ (l:List Resize) (i:Nat) (c2:List (Int × Resize)),Qw4 s a b c l i c2=0 ->
  c.all (fun (en:Int × Job)=>(bif ((QN3 s.nodes en.1)!=en.2.nodes) then false else true))=true
 | [],i,c2,h=>by
  rw [Qw4] at h;cases h1:((((!true)||(!(Qm7 s.nextJob a)))||(!(Qm7 s.nextBook b)))||(!(Qc9 s c c2))) with
  | true=>rw [h1] at h;cases h
  | false =>
   rw [h1] at h;simp only [cond_false] at h;cases h2:c.all (fun (en:Int × Job)=>(bif ((QN3 s.nodes en.1)!=en.2.nodes) then false else true)) with
   | true=>rfl
   | false=>rw [h2] at h;cases h
 | x :: r,i,c2,h=>by
  rw [Qw4] at h;cases h1:(((!(getM x.job c).isSome)||((decide ((i:Int) > 0))&&(decide ((s.resizes.getD ((w64 ((i:Int) - 1)).toNat) zH).job >= x.job))))||(!(Q38 s x ((getM x.job c).getD zG)))) with
  | true=>rw [h1] at h;cases h
  | false =>
   rw [h1] at h;exact check_held s a b c r (i+1) _ h
theorem setM_mem {α β:Type} [BEq α] [LawfulBEq α] (k:α) (v:β):∀ l:List (α × β),(k,v) ∈ setM k v l
 | []=>by simp [setM]
 | p :: r=>by
  rw [setM];cases hk:k==p.1 with
  | true=>simp
  | false=>simp [setM_mem k v r]
theorem setM_keep {α β:Type} [BEq α] [LawfulBEq α] (k k':α) (v v':β) (hne:k ≠ k'):∀ l:List (α × β),(k,v) ∈ l->(k,v) ∈ setM k' v' l
 | [],h=>nomatch h
 | p :: r,h=>by
  rw [setM];cases hk:k'==p.1 with
  | true =>
   have e:=eq_of_beq hk;rcases List.mem_cons.1 h with h|h
   ·exact absurd (by rw [e,← h]) hne
   ·exact ywa _ h
  | false =>
   rcases List.mem_cons.1 h with h|h
   ·rw [← h];exact yIa ..
   ·exact ywa _ (setM_keep k k' v v' hne r h)
theorem Qp6 (x:Job):∀ (l:List Job) (i:Nat) (c:List (Int × Job)),((x.id,x) ∈ c∧(∀ y ∈ l,y.id ≠ x.id))∨(x ∈ l∧x.state=2∧l.Pairwise (fun a b=>a.id<b.id))->(x.id,x) ∈ Qv4 l i c
 | [],i,c,h=>by
  rcases h with ⟨h,_⟩|⟨h,_⟩
  ·exact h
  ·exact nomatch h
 | y :: r,i,c,h=>by
  rw [Qv4];rcases h with ⟨h,hn⟩|⟨h,hs,hp⟩
  ·have hy:=hn y (yIa ..);cases (y.state==2) with
   | true=>exact Qp6 x r (i+1) _ (.inl ⟨setM_keep _ _ _ _ (Ne.symm hy) c h,fun z hz=>hn z (ywa _ hz)⟩)
   | false=>exact Qp6 x r (i+1) _ (.inl ⟨h,fun z hz=>hn z (ywa _ hz)⟩)
  ·obtain ⟨h1,h2⟩:=List.pairwise_cons.1 hp;rcases List.mem_cons.1 h with rfl|h
   ·rw [beq_iff_eq.2 hs];exact Qp6 x r (i+1) _ (.inl ⟨setM_mem _ _ c,fun z hz=>by have:=h1 z hz;omega⟩)
   ·cases (y.state==2) with
    | true=>exact Qp6 x r (i+1) _ (.inr ⟨h,hs,h2⟩)
    | false=>exact Qp6 x r (i+1) _ (.inr ⟨h,hs,h2⟩)
theorem table_rows (l:List Job) (hn:l.length<=40):∀ (r:List Job) (i:Nat),r=l.drop i->i+r.length=l.length->QG3 l r i=0 ->
  (∀ x ∈ r,Qm0 x=0)∧r.Pairwise (fun a b=>a.id<b.id)∧(∀ y,0<i->l[i - 1]? = some y -> ∀ x ∈ r,y.id<x.id)
 | [],i,_,_,_=>⟨fun x hx=>(nomatch hx),.nil,fun _ _ _ x hx=>(nomatch hx)⟩
 | x :: r,i,hr,hlen,h=>by
  simp only [yLa] at hlen;rw [QG3] at h;cases h1:(((Qm0 x)!=0)||((decide ((i:Int) > 0))&&(decide ((l.getD ((w64 ((i:Int) - 1)).toNat) zG).id >= x.id)))) with
  | true=>rw [h1] at h;cases h
  | false =>
   rw [h1] at h;obtain ⟨h2,h3⟩:=or_f h1;have hx:Qm0 x=0:=by simpa using h2
   have hi:l[i]? = some x:=by
    have:=congrArg (fun q=>q[0]?) hr;simpa [yMa] using this.symm
   have hr':r=l.drop (i+1):=by rw [← y2b,← hr];rfl
   obtain ⟨ih1,ih2,ih3⟩:=table_rows l hn r (i+1) hr' oA h;have hxr:∀ z ∈ r,x.id<z.id:=ih3 x oA hi;refine ⟨fun z hz=>?_,List.pairwise_cons.2 ⟨hxr,ih2⟩,fun y hi0 hy z hz=>?_⟩
   ·rcases List.mem_cons.1 hz with rfl|hz
    ·exact hx
    ·exact ih1 z hz
   ·have hyx:y.id<x.id:=by
     have hw:w64 ((i:Int) - 1)=(i:Int) - 1:=wr oA;have ht:((i:Int) - 1).toNat=i - 1:=by omega
     have hg:l.getD (i - 1) zG=y:=by simp [List.getD,hy]
     rw [hw,ht,hg] at h3;simp at h3;omega
    rcases List.mem_cons.1 hz with rfl|hz
    ·exact hyx
    ·exact Int.lt_trans hyx (hxr z hz)
theorem Q6c {j:Job} (h:Qm0 j=0):1<=j.id∧j.id<=99999:=by
 unfold Qm0 at h;cases h1:((((((decide (j.id<1))||(decide (j.id > 99999)))||(!(QQ1 j.born)))||(j.used != (Qf4 j.used)))||((QN4 (QA0 j))!=0))||(Qv0 j.after (fun (y:Dep)=>(decide (y.job >= j.id))))) with
 | true=>rw [h1] at h;cases h
 | false =>
  obtain ⟨h2,_⟩:=or_f h1;obtain ⟨h3,_⟩:=or_f h2;obtain ⟨h4,_⟩:=or_f h3;obtain ⟨h5,_⟩:=or_f h4;simp at h5;omega
theorem QP7 {l:List Job} (h:l.Pairwise (fun a b=>a.id<b.id)):∀ (a b:Nat) (x y:Job),a<b->l[a]? = some x->l[b]? = some y->x.id<y.id:=by
 intro a b x y hab ha hb;obtain ⟨ha1,rfl⟩:=List.getElem?_eq_some_iff.1 ha;obtain ⟨hb1,rfl⟩:=List.getElem?_eq_some_iff.1 hb;exact List.pairwise_iff_getElem.1 h a b ha1 hb1 hab
theorem Q15 {l:List Job} (h:Qi0 l=0):l.length<=40∧(∀ x ∈ l,Qm0 x=0)∧l.Pairwise (fun a b=>a.id<b.id):=by
 unfold Qi0 at h;cases h1:(decide ((l.length:Int) > 40)) with
 | true=>rw [h1] at h;cases h
 | false =>
  rw [h1] at h;have h2:=yja h1;obtain ⟨a,b,_⟩:=table_rows l oA l 0 (by simp) oA h;exact ⟨by omega,a,b⟩
section
variable {s:State}
theorem check_parts (h:QM0 s=0):Q12 s=0 ∧ ∀ x ∈ s.jobs,x.state=2->QN3 s.nodes x.id=x.nodes:=by
 have h0:=h;unfold QM0 at h;cases h1:(Q12 s != 0) with
 | true=>rw [h1] at h;cases h
 | false =>
  rw [h1] at h;have hp:Q12 s=0:=by simpa using h1
  refine ⟨hp,fun x hx hs=>?_⟩;obtain ⟨_,_,ho⟩:=Q15 (QY6 hp).2;have hall:=check_held s _ _ _ _ _ _ h;have hm:=Qp6 x s.jobs 0 [] (.inr ⟨hx,hs,ho⟩);have:=List.all_eq_true.1 hall _ hm;simp only at this;cases hq:(QN3 s.nodes x.id != x.nodes) with
  | false=>simpa using hq
  | true=>rw [hq] at this;cases this
end
theorem QBb (l:List Job) (id:Int) (hn:l.length<=40) (hid:1<=id∧id<=99999) (hb:∀ y ∈ l,1<=y.id∧y.id<=99999) (hs:∀ (a b:Nat) (x y:Job),a<b->l[a]? = some x->l[b]? = some y->x.id<y.id) (p:Nat) (x:Job) (hp:l[p]? = some x) (hx:x.id=id) :
  ∀ (m:Nat) (i j:Int),(j - i).toNat<m->0<=i->i<=(p:Int)->(p:Int)<=j->j<=(l.length:Int)->(∀ k:Nat,j<=(k:Int) -> ∀ y,l[k]? = some y->id<=y.id) ->
   (Qz0 l id (fun (y:Job) (y1:Int)=>(w64 (y.id - y1))) m i j).1=(p:Int)
 | 0,i,j,hm,_,_,_,_,_=>absurd hm oA
 | m+1,i,j,hm,h0,h1,h2,h3,h4=>by
  have hpl:p<l.length:=(List.getElem?_eq_some_iff.1 hp).1;rw [Qz0];cases hd:decide (i<j) with
  | false =>
   have:=yja hd;show i=(p:Int);omega
  | true =>
   have hlt:=yca hd;rw [QHa h0 hlt h3 oA];simp only [cond_true];obtain ⟨q,hq⟩:∃ q:Nat,(i+j) / 2=(q:Int):=⟨((i+j) / 2).toNat,by omega⟩;rw [hq];have hql:q<l.length:=by omega
   have hy:l[q]? = some l[q]:=yba hql;have hyd:l.getD ((q:Int).toNat) zG=l[q]:=by simp [List.getD,hy]
   have hyb:=hb l[q] (ycb hql);rw [hyd];have hw:w64 ((l[q]).id - id)=(l[q]).id - id:=wr oA;rw [hw];cases hc:decide ((l[q]).id - id<0) with
   | true =>
    have hc':=yca hc;have hw2:w64 ((q:Int)+1)=(q:Int)+1:=wr oA;simp only [cond_true];rw [hw2];refine QBb l id hn hid hb hs p x hp hx m _ _ oA oA ?_ h2 h3 h4;rcases yGa q p with h|h
    ·omega
    ·rcases Nat.eq_or_lt_of_le h with h|h
     ·subst h;rw [hy] at hp;cases hp;omega
     ·have:=hs p q x _ h hp hy;omega
   | false =>
    have hc':=yja hc;simp only [cond_false];refine QBb l id hn hid hb hs p x hp hx m _ _ oA h0 h1 ?_ oA ?_
    ·rcases yGa q p with h|h
     ·have:=hs q p _ x h hy hp;omega
     ·omega
    ·intro k hk y hky;rcases Nat.eq_or_lt_of_le (show q<=k by omega) with h|h
     ·subst h;rw [hy] at hky;cases hky;omega
     ·have:=hs q k _ y h hy hky;omega
theorem QJb {l:List Job} (h:Qi0 l=0) {p:Nat} {x:Job} (hp:l[p]? = some x):Q70 l x.id=(x,true):=by
 obtain ⟨hn,hj,hs⟩:=Q15 h;have hb:∀ y ∈ l,1<=y.id∧y.id<=99999:=fun y hy=>Q6c (hj y hy)
 have hx:=hb x (yza hp);have hpl:p<l.length:=(List.getElem?_eq_some_iff.1 hp).1
 have hpi:(Qq0 l x.id).1=(p:Int) :=
  QBb l x.id hn hx hb (QP7 hs) p x hp rfl _ 0 (l.length:Int) oA oA oA oA oA (fun k hk y hy=>absurd (List.getElem?_eq_some_iff.1 hy).1 oA)
 have hp2:(Qq0 l x.id).2=true:=by
  have e:(Qq0 l x.id).2=((decide ((Qq0 l x.id).1<(l.length:Int)))&&((w64 ((l.getD (Int.toNat (Qq0 l x.id).1) zG).id - x.id))==0)):=rfl;rw [e,hpi,yXa];have hg:l.getD p zG=x:=by simp [List.getD,hp]
  rw [hg,Int.sub_self];have h1:decide ((p:Int)<(l.length:Int))=true:=yoa oA;rw [h1]
  rfl
 unfold Q70;rw [h,hp2,hpi];have hk:QH3 x.id=true:=by unfold QH3;simp;omega
 rw [hk];have hw:w64 ((p:Int)+1)=(p:Int)+1:=wr oA;have ht:((p:Int)+1).toNat=p+1:=by omega
 rw [hw,ht,yXa];show ((List.drop p (List.take (p+1) l)).getD 0 zG,true)=(x,true);have:(List.drop p (List.take (p+1) l)).getD 0 zG=x:=by
  simp [List.getD,yMa,yKa,hp]
 rw [this]
section
variable {s:State}
end
end Go.Proofs.YtgnlcjenoaoffaaGreatDoor
namespace Go.Proofs.YtgnlcjenoaoffaaGreatDoor
set_option linter.unusedSimpArgs false
set_option linter.unusedVariables false
open Go.Fw Go.RowKit
set_option maxRecDepth 20000
set_option maxHeartbeats 4000000
attribute [local irreducible] ACalls AMoves
theorem insR_mem (x:Ranked):∀ (o:List Ranked) (y:Ranked),y ∈ insR x o->y=x∨y ∈ o
 | [],y,h=>.inl (by simpa [insR] using h)
 | z :: r,y,h=>by
  rw [insR] at h;cases ha:aheadR z x with
  | false =>
   rw [ha] at h;exact List.mem_cons.1 h
  | true =>
   rw [ha] at h;rcases List.mem_cons.1 h with rfl|h
   ·exact .inr (yIa ..)
   ·exact (insR_mem x r y h).imp id (ywa _)
theorem rank_mem:∀ (l o:List Ranked) (y:Ranked),y ∈ l.foldl (fun o x=>insR x o) o->y ∈ l∨y ∈ o
 | [],_,_,h=>.inr h
 | x :: r,o,y,h=>by
  rw [yBb] at h;rcases rank_mem r _ y h with h|h
  ·exact .inl (ywa _ h)
  ·rcases insR_mem x o y h with rfl|h
   ·exact .inl (yIa ..)
   ·exact .inr h
theorem Qwe (l:List Usage) (ids:List Int):∀ (js:List Job) (r_:List Ranked) (i:Nat) (c:List (ByteArray × Int)),∀ y ∈ (QZ1 l ids js r_ i c).1,y ∈ r_ ∨ ∃ x ∈ js,y.what=x.id
 | [],_,_,_,y,h=>.inl h
 | x :: r,r_,i,c,y,h=>by
  rw [QZ1] at h;have k:=fun r_' c' h=>Qwe l ids r r_' (i+1) c' y h
  cases h1:(!(QF0 ids x.id)) with
  | true =>
   rw [h1] at h;exact (k _ _ h).imp id fun ⟨z,hz,e⟩=>⟨z,ywa _ hz,e⟩
  | false =>
   rw [h1] at h;simp only [cond_false] at h;have hb:y ∈ r_ ∨ ∃ z ∈ x :: r,y.what=z.id:=by
    cases h2:(!(getM x.user c).isSome) with
    | true =>
     rw [h2] at h;rcases k _ _ h with h|⟨z,hz,e⟩
     ·rcases List.mem_append.1 h with h|h
      ·exact .inl h
      ·exact .inr ⟨x,yIa ..,by rw [List.mem_singleton.1 h]⟩
     ·exact .inr ⟨z,ywa _ hz,e⟩
    | false =>
     rw [h2] at h;rcases k _ _ h with h|⟨z,hz,e⟩
     ·rcases List.mem_append.1 h with h|h
      ·exact .inl h
      ·exact .inr ⟨x,yIa ..,by rw [List.mem_singleton.1 h]⟩
     ·exact .inr ⟨z,ywa _ hz,e⟩
   exact hb
theorem Qxe (R:List Ranked):∀ (q:List Ranked) (out:List Int) (i:Nat),i+q.length=(QL3 R).length -> ∀ y ∈ Q63 R q out i,y ∈ out ∨ ∃ z ∈ QL3 R,y=z.what
 | [],_,_,_,y,h=>.inl h
 | x :: r,out,i,hl,y,h=>by
  rw [Q63] at h;simp only [yLa] at hl;rcases Qxe R r _ (i+1) oA y h with h|h
  ·rcases List.mem_append.1 h with h|h
   ·exact .inl h
   ·refine .inr ⟨_,?_,List.mem_singleton.1 h⟩;rw [yNa,yba oA];exact ycb _
  ·exact .inr h
theorem order_in {jobs:List Job} {l:List Usage} {ids:List Int} {x:Int} (h:x ∈ QC0 jobs l ids):Qi0 jobs=0 ∧ ∃ j ∈ jobs,j.id=x:=by
 unfold QC0 at h;cases ht:((Qi0 jobs)!=0) with
 | true=>rw [ht] at h;exact absurd h y8a
 | false =>
  rw [ht] at h;refine ⟨by simpa using ht,?_⟩;rcases Qxe _ _ _ 0 (by simp) x h with h|⟨z,hz,e⟩
  ·exact absurd h y8a
  ·rcases rank_mem _ _ z hz with h|h
   ·rcases Qwe l ids jobs [] 0 [] z h with h|⟨j,hj,e2⟩
    ·exact absurd h y8a
    ·exact ⟨j,hj,by rw [e,e2]⟩
   ·exact absurd h y8a
theorem open_in {s:State} {j:Job} (h:j ∈ Qo2 s):j ∈ s.jobs:=by
 obtain ⟨h1,_⟩:=List.mem_filter.1 h;obtain ⟨id,hid,e⟩:=List.mem_map.1 h1;obtain ⟨ht,x,hx,ex⟩:=order_in hid;obtain ⟨p,hp⟩:=yNb hx;rw [← ex,QJb ht hp] at e;exact e ▸ hx
theorem open_len (s:State):(Qo2 s).length<=s.jobs.length:=by
 have h:=Q16 s.jobs s.ledger (Qg0 s.jobs);have:=yIb (fun j:Job=>j.promise==(-1)) ((QC0 s.jobs s.ledger (Qg0 s.jobs)).map fun id=>(Q70 s.jobs id).1);rw [yxa] at this;unfold Qo2;omega
def QU4 (s:State) (st:List Step × List Job × List Int) (j:Job):List Step × List Job × List Int :=
 bif (QB2 st.1 (Qe0 j.shape) s.now 1000000 12).2.2 then QD2 j (QB2 st.1 (Qe0 j.shape) s.now 1000000 12).1 (QB2 st.1 (Qe0 j.shape) s.now 1000000 12).2.1 st.1 st.2.1 st.2.2 else st
def QR1 (s:State):List Job × List Int :=
 bif ((Q12 s)!=0) then (s.jobs,[]) else ((Qo2 s).foldl (QU4 s) (Qe3 s [],s.jobs,[])).2
def Qzd (s:State) (st:List Step × List Job × List Int):Prop:=st.1.length<=4294967296∧st.2.1.map (·.id)=s.jobs.map (·.id)∧(∀ y ∈ st.2.1,y.sz)
theorem set_id {l:List Job} {i:Nat} {p:Job} (h:∀ x,l[i]? = some x->x.id=p.id):(l.set i p).map (·.id)=l.map (·.id):=by
 rw [List.map_set];refine yAb fun k=>?_
 rw [yzb,yra]
 by_cases hk:i=k
 ·subst hk;rw [if_pos rfl]
  by_cases hl:i<l.length
  ·rw [if_pos (by simpa using hl),yba hl];simp only [yBa];rw [h _ (yba hl)]
  ·rw [if_neg (by simpa using hl),yYa oA]
   rfl
 ·rw [if_neg hk]
theorem g2_found (j:Job) (jobs:List Job) (ids:List Int) (pr:Job × Int) (c:List Step):∀ (l:List Job) (i:Nat),jobs.drop i=l->(∃ x ∈ l,x.id=j.id) ->
  ∃ k x,Qc4 j jobs ids pr c l i=(c,jobs.set k pr.1,ids++[j.id])∧jobs[k]? = some x∧x.id=j.id
 | [],_,_,⟨_,h,_⟩=>absurd h y8a
 | y :: r,i,hd,⟨x,hx,e⟩=>by
  have hg:jobs[i]? = some y:=by have:=congrArg (·[0]?) hd;simpa using this
  have hr:jobs.drop (i+1)=r:=by rw [← y2b,hd];rfl
  have hy:jobs.getD i zG=y:=by rw [yNa,hg];rfl
  rw [Qc4,hy];cases h:(y.id==j.id) with
  | true=>exact ⟨i,y,rfl,hg,by simpa using h⟩
  | false =>
   have hx':x ∈ r:=(List.mem_cons.1 hx).resolve_left fun e2=>by rw [e2] at e;rw [e,beq_self_eq_true] at h;cases h
   exact g2_found j jobs ids pr c r (i+1) hr ⟨x,hx',e⟩
theorem index_pre {s:State} {st:List Step × List Job × List Int} (h:Qzd s st) {j:Job} (hj:j ∈ s.jobs):∃ x ∈ st.2.1,x.id=j.id:=by
 have hm:j.id ∈ st.2.1.map (·.id):=by rw [h.2.1];exact List.mem_map.2 ⟨j,hj,rfl⟩
 exact List.mem_map.1 hm
theorem k1_found {s:State} {st:List Step × List Job × List Int} (h:Qzd s st) {j:Job} (hj:j ∈ s.jobs) (pr:Job × Int) (c:List Step) :
  ∃ k x,Qu2 j st.2.1 st.2.2 pr c=(c,st.2.1.set k pr.1,st.2.2++[j.id])∧st.2.1[k]? = some x∧x.id=j.id :=
 g2_found j st.2.1 st.2.2 pr c st.2.1 0 rfl (index_pre h hj)
theorem promise_id {j:Job} {a c:Int} (h:((Q81 j a c).2 != 0)=false):(Q81 j a c).1.id=j.id:=by
 unfold Q81 at h ⊢;cases h1:((Qm0 j)!=0) with
 | true=>rw [h1] at h;simp only [cond_true] at h;rw [h1] at h;cases h
 | false =>
  rw [h1] at h;simp only [cond_false] at h ⊢;cases h2:((j.state != 1)||j.held) with
  | true=>rw [h2] at h;cases h
  | false =>
   rw [h2] at h;simp only [cond_false] at h ⊢;cases h3:((!(QJ0 j c).2)||(!(QQ1 a))) with
   | true=>rw [h3] at h;cases h
   | false=>rfl
theorem fresh_step {s:State} {st:List Step × List Job × List Int} (h:Qzd s st) {j:Job} (hj:j ∈ s.jobs) (hz:j.sz):Qzd s (QU4 s st j)∧(QU4 s st j).2.2.length<=st.2.2.length+1:=by
 unfold QU4;generalize QB2 st.1 (Qe0 j.shape) s.now 1000000 12=B;cases B.2.2 with
 | false=>exact ⟨h,Nat.le_succ _⟩
 | true =>
  simp only [cond_true];unfold QD2;simp only;cases hp:((Q81 j B.2.1 B.1).2 != 0) with
  | true=>exact ⟨h,Nat.le_succ _⟩
  | false =>
   simp only [cond_false];have hk:∀ c:List Step,c.length<=4294967296->Qzd s (Qu2 j st.2.1 st.2.2 (Q81 j B.2.1 B.1) c)∧(Qu2 j st.2.1 st.2.2 (Q81 j B.2.1 B.1) c).2.2.length<=st.2.2.length+1:=by
    intro c hc;obtain ⟨k,x,e1,e2,e3⟩:=k1_found h hj (Q81 j B.2.1 B.1) c;rw [e1];refine ⟨⟨hc,?_,fun y hy=>(y6a hy).elim (h.2.2 y) fun e=>e ▸ Qt6 _ _ hz⟩,by simp⟩;exact (set_id fun z hz'=>by rw [e2] at hz';rw [promise_id hp,← Option.some.inj hz',e3]).trans h.2.1
   cases ((QR5 st.1 (QW0 (Q81 j B.2.1 B.1).1).1 (QW0 (Q81 j B.2.1 B.1).1).2.1 (QW0 (Q81 j B.2.1 B.1).1).2.2.1).2==0) with
   | true=>exact hk _ (QDc _ _ _ h.1)
   | false=>exact hk _ h.1
def QN7 (s:State) (k:Nat):List Step × List Job × List Int:=((Qo2 s).take k).foldl (QU4 s) (Qe3 s [],s.jobs,[])
theorem Q2e {s:State} {k:Nat} {j:Job} (h:(Qo2 s)[k]? = some j):QN7 s (k+1)=QU4 s (QN7 s k) j:=by
 unfold QN7;rw [List.take_add_one,h,List.foldl_append]
 rfl
theorem Qab {s:State} (hz:s.sz):∀ k,k<=(Qo2 s).length->Qzd s (QN7 s k)∧(QN7 s k).2.2.length<=k
 | 0,_=>⟨⟨Qyb _ _,rfl,hz.2.2.1⟩,yia _⟩
 | k+1,hk=>by
  obtain ⟨h1,h2⟩:=Qab hz k oA;have hj:(Qo2 s)[k]? = some ((Qo2 s)[k]'(by omega)):=yba oA;have hm:=open_in (yza hj);rw [Q2e hj];obtain ⟨g1,g2⟩:=fresh_step h1 hm (hz.2.2.1 _ hm);exact ⟨g1,by omega⟩
theorem freshI_len {s:State} {st:List Step × List Job × List Int} (h:Qzd s st):st.2.1.length=s.jobs.length:=by
 have:=congrArg List.length h.2.1;simpa using this
theorem Qc7 {s:State} (hz:s.sz):(QR1 s).1.length=s.jobs.length∧(∀ y ∈ (QR1 s).1,y.sz)∧(QR1 s).2.length<=s.jobs.length:=by
 unfold QR1;cases ((Q12 s)!=0) with
 | true=>exact ⟨rfl,hz.2.2.1,yna _⟩
 | false =>
  obtain ⟨h1,h2⟩:=Qab hz (Qo2 s).length (yia _);have e:QN7 s (Qo2 s).length=(Qo2 s).foldl (QU4 s) (Qe3 s [],s.jobs,[]):=by unfold QN7;rw [List.take_length]
  rw [e] at h1 h2;have:=open_len s;exact ⟨freshI_len h1,h1.2.2,by show _<=_;simp only [cond_false];omega⟩
theorem QUc (s:State) (hs0:s.sz):∀ objs,AGives Tryz.prog 112 [State.a s] objs (AVal.tup [jobL (QR1 s).1,ints (QR1 s).2]):=by
 generalize hR:QR1 s=R;refine ga (.cons (State.low _ _) .nil) (Low.tup' (.cons lw (.cons lw .nil))) (kp 12 [14,25,38]) Tryz.func112 ?_;have hs:=hs0;obtain ⟨z1,z2,z3,z4,z5,z6,z7⟩:=hs0;refine us (QN6 s szA _) ?_;apply ai<;>intro h1
 ·refine us (plan_copied_c s.jobs szA _) ?_;obtain rfl:=foll hR (ct h1 rfl);exact Q60 (Low.tup' (.cons lw (.cons lw .nil))) (Seen.tup (e1 (ev Q00 .nil)))
 ·refine us (AGives.as2 (QGe s [] szA szA _) (a1 (av QI7 .nil))) ?_;refine us (mv [] (QZ8 s.jobs szA) .nil (dl lw .nil) (rO rr .nil) (rw_ 2 0 rfl)) ?_;refine us (r:=.fn (.func 218) [] [.ptr 6 0 8 0 0]) (o:=[(0,.row 28 8 [[I s.now,nodeL s.nodes,jobL s.jobs,Qh1 s.resizes,bookL s.books,Qt1 s.ledger,I s.nextJob,I s.nextBook]]),(0,.row 207 1 [[stepL (Qe3 s [])]]),(0,.row 55 20 (s.jobs.map Job.cells)),(0,.row 23 1 [[.own 2 0 20 0 s.jobs.length]]),(0,.row 43 1 [[.lit (.slice none 0 0)]]),(0,.row 217 1 [[.fn (.func 169) [] [.ptr 1 0 1 0 0,.ptr 3 0 1 0 0,.ptr 4 0 1 0 0]]]),(0,.row 28 8 [[I s.now,nodeL s.nodes,jobL s.jobs,Qh1 s.resizes,bookL s.books,Qt1 s.ledger,I s.nextJob,I s.nextBook]])]) (ACalls.of_cwp (fun _=>true) Tryz.func172 rfl rfl ?_) ?_
  ·exact ⟨_,_,QNe,rfl,rfl⟩
  have hol:=open_len s
  refine range_nextC (fun _=>true) [.ptr 5 0 8 0 0] ((Qo2 s).map Job.a) (fun k=>Qz9 s (QN7 s k)) 6
   [(1,.ptr 4 0 8 0 0),(2,.lit (.slice none 0 0)),(3,.lit (.slice none 0 0)),(4,.ptr 0 0 1 0 0),(5,.ptr 1 0 1 0 0),(6,.ptr 2 0 1 0 0),(7,.ptr 3 0 1 0 0),(25,.fn (.func 218) [] [.ptr 5 0 8 0 0])] ?_ rfl ?_ (by decide) rfl ?_ rfl ?_ (open1_c s hs (QN7 s)) (fun _=>rfl) rfl rfl ?_ ?_
  ·exact (QA1 3 1).trans (wk [1,3,4,5,0,6,2,7] (tO rfl (ts (lv lw LowL.nil)) (tO rfl (QE1 (cv (to 6 lnA) .nil)) (tO rfl (QE1 (cv (Q25 7 rfl) .nil)) (tO rfl (QE1 (cv (QB4 .nil (cv (Qy0 0 rfl rfl) (cv (Qy0 1 rfl rfl) (cv (Qy0 2 rfl rfl) .nil)))) .nil)) (tO rfl (ts State.lo) (tO rfl (ts State.lo) (tO rfl (tl eqA) (tO rfl (tl eqA) .nil))))))))
    (sv (Qy0 4 rfl rfl) (s1 (s1 (sv (Qy0 0 rfl rfl) (sv (Qy0 1 rfl rfl) (sv (Qy0 2 rfl rfl) (sv (Qy0 3 rfl rfl) (sv (QB4 .nil (cv (Qy0 5 rfl rfl) .nil)) .nil)))))))))
  ·intro k _;simp [Qz9]
  ·intro t;refine (lowR_of (rs:=⟨[],[],[]⟩) ?_ (by simp)).slots t
   repeat (first|exact fun _ h=>absurd h y8a|refine List.forall_mem_cons.2 ⟨by first|exact .lit _|exact .ptr _ _ _ _ _ (by decide)|exact .fn _ _ _ (fun _ h=>absurd h y8a) (fun x hx=>by rw [List.mem_singleton.1 hx];exact .ptr _ _ _ _ _ (by decide)),?_⟩)
  ·intro args w;simp [go_sem]
  ·intro k x hx;obtain ⟨j,hj,rfl⟩:∃ j,(Qo2 s)[k]? = some j∧x=Job.a j:=by
    rw [yra] at hx;obtain ⟨j,hj,e⟩:=Option.map_eq_some_iff.1 hx;exact ⟨j,hj,e.symm⟩
   have hkl:k<(Qo2 s).length:=(List.getElem?_eq_some_iff.1 hj).1;obtain ⟨hI,hI2⟩:=Qab hs k oA;have hjm:=open_in (yza hj);have hjz:=z3 j hjm;have hpre:=index_pre hI hjm;simp only [Q2e hj];have hlen:=freshI_len hI;obtain ⟨hI1,_,hI3⟩:=hI;generalize QN7 s k=st at *;have hopt:=Qy8 j.shape hjz.2.2.2.1
   conv=>whnf
   refine dchk (by kernel_rfl) ?_
   (first|apply u2|apply u3|apply u4|apply us)
   exact Qs2 j.shape hjz.2.2.2.1 _
   (first|apply u2|apply u3|apply u4|apply us)
   exact Q3a st.1 (Qe0 j.shape) s.now 1000000 12 hI1 hopt _
   (repeat (first|refine ai rfl ?_|refine ai (fun _=>rfl) ?_|refine ai (fun _=>Qs2 j.shape hjz.2.2.2.1 _) ?_|refine ai (fun _=>Q3a st.1 (Qe0 j.shape) s.now 1000000 12 hI1 hopt _) ?_))
   apply ai<;>intro h3
   ·have hr:QU4 s st j=QD2 j (QB2 st.1 (Qe0 j.shape) s.now 1000000 12).1 (QB2 st.1 (Qe0 j.shape) s.now 1000000 12).2.1 st.1 st.2.1 st.2.2:=ct h3 rfl;rw [hr];refine us (mv [0,1,2,6,7] (Qze j (QB2 st.1 (Qe0 j.shape) s.now 1000000 12).1 (QB2 st.1 (Qe0 j.shape) s.now 1000000 12).2.1 st.1 st.2.1 st.2.2 hjz hI1 ⟨by omega,hI3⟩ oA hpre) (dO (ds (lv lw LowL.nil)) (dO (dc (dv (QP3 rfl lnA) .nil)) (dO (dc (dv (QP3 rfl lnA) .nil)) (dO (dr eqA) (dO (dr eqA) .nil))))) (dl (Job.low _ _) (d1 (d1 (dp (dp (dp .nil)))))) (rO (re (lv lw LowL.nil)) (rO (rc (.cons _ _ _ _ (rw_ 9 0 rfl) .nil)) (rO (rc (.cons _ _ _ _ (rw_ 10 0 rfl) .nil)) (rO rr (rO rr .nil))))) rx) ?_
    exact wk [0,1,2,3,4,5,9,10] (tO rfl (ts (lv lw LowL.nil)) (tO rfl (QE1 (cv (to 6 lnA) .nil)) (tO rfl (QE1 (cv (to 7 lnA) .nil)) (tO rfl (QE1 (cv (QB4 .nil (cv (Qy0 0 rfl rfl) (cv (Qy0 1 rfl rfl) (cv (Qy0 2 rfl rfl) .nil)))) .nil)) (tO rfl (ts State.lo) (tO rfl (ts State.lo) (tO rfl (tl eqA) (tO rfl (tl eqA) .nil))))))))
     (sv (Qy0 4 rfl rfl) (s1 (s1 (sv (Qy0 0 rfl rfl) (sv (Qy0 1 rfl rfl) (sv (Qy0 2 rfl rfl) (sv (Qy0 3 rfl rfl) (sv (QB4 .nil (cv (Qy0 5 rfl rfl) .nil)) .nil))))))))
   ·have hr:QU4 s st j=st:=cf h3 rfl;rw [hr]
    exact wk [0,1,2,3,4,5,6,7] (tO rfl (ts (lv lw LowL.nil)) (tO rfl (QE1 (cv (to 6 lnA) .nil)) (tO rfl (QE1 (cv (to 7 lnA) .nil)) (tO rfl (QE1 (cv (QB4 .nil (cv (Qy0 0 rfl rfl) (cv (Qy0 1 rfl rfl) (cv (Qy0 2 rfl rfl) .nil)))) .nil)) (tO rfl (ts State.lo) (tO rfl (ts State.lo) (tO rfl (tl eqA) (tO rfl (tl eqA) .nil))))))))
     (sv (Qy0 4 rfl rfl) (s1 (s1 (sv (Qy0 0 rfl rfl) (sv (Qy0 1 rfl rfl) (sv (Qy0 2 rfl rfl) (sv (Qy0 3 rfl rfl) (sv (QB4 .nil (cv (Qy0 5 rfl rfl) .nil)) .nil))))))))
  ·obtain ⟨hI,_⟩:=Qab hs (Qo2 s).length (yia _);have e:QR1 s=(QN7 s (Qo2 s).length).2:=by unfold QN7;rw [List.take_length];exact cf h1 rfl
   have hR2:(QN7 s (Qo2 s).length).2=R:=e.symm.trans hR;simp only [yxa];clear hR e;generalize QN7 s (Qo2 s).length=st at *;obtain rfl:=foll hR2 rfl;refine dchk (by kernel_rfl) ?_
   (repeat (first|refine ai rfl ?_|refine ai (fun _=>rfl) ?_))
   exact Q60 (Low.tup' (.cons lw (.cons lw .nil))) (Seen.tup (ev (Qa0 zG _ rfl eqA lnA) (ev (Qa0 0 _ rfl eqA lnA) .nil)))
end Go.Proofs.YtgnlcjenoaoffaaGreatDoor
namespace Go.Proofs.YtgnlcjenoaoffaaGreatDoor
set_option linter.unusedSimpArgs false
set_option linter.unusedVariables false
open Go.Fw
set_option maxRecDepth 20000
set_option maxHeartbeats 4000000
attribute [local irreducible] ACalls AMoves
def QQ7 (s:State):List Job->List Int->Nat->(List Int)
 | [],ids,_=>ids
 | x_1 :: r,ids,i1=>bif ((x_1.promise != (s.jobs.getD i1 zG).promise)||(x_1.choice != (s.jobs.getD i1 zG).choice)) then QQ7 s r (ids++([x_1.id]:List Int)) (i1+1) else QQ7 s r ids (i1+1)
def QF5 (fr:(List Job) × (List Int)) (ids:List Int):(List Job) × (List Int):=(fr.1,ids)
def QSc (s:State) (c:State):(List Job) × (List Int):=(fun fr:(List Job) × (List Int)=>QF5 fr (QQ7 s fr.1 [] 0)) (QR1 c)
def Qk2 :List Job->Nat->List Job->(List Job)
 | [],_,c2=>c2
 | _ :: r,i,c2=>(fun dro:Job × Int=>bif (dro.2==0) then Qk2 r (i+1) (c2.set i dro.1) else Qk2 r (i+1) c2) (Q44 (c2.getD i zG))
def QE5 (s:State) (c2:List Job):(List Job) × (List Int):=QSc s { s with jobs:=c2 }
def QW2 (s:State):(List Job) × (List Int):=bif ((Q12 s)!=0) then (s.jobs,[]) else QE5 s (Qk2 s.jobs 0 s.jobs)
theorem Qza {P:Prop} (h:P:=by first|((exact ⟨⟨z21,by show c2.length<=4294967296;omega,hx.1,z24,z25,z26,z27⟩,hx.2⟩))|first|((exact ⟨fun y hy=>(y6a hy).elim (hx.1 y) (fun e=>e ▸ hdro),by rw [yWa];exact hx.2⟩))|first|((exact hx))|first|((exact ⟨z23,rfl⟩))|exact exA):P:=h
theorem QLd {P:Prop} (h:P:=by first|((exact hx.1))|first|((exact QB1 hx.1 (Job.szz _)))|exact szA):P:=h
theorem plan_Anew_c (s:State) (hs0:s.sz):GV 110 [State.a s] (AVal.tup [jobL ((QW2 s).1),ints ((QW2 s).2)]):=by
 generalize hR:QW2 s=R;refine ga (.cons (State.low _ _) .nil) (Low.tup' (.cons lw (.cons lw .nil))) (kj [1000012] 15 [17,27,28,29,30,40,52,53,54,55,75]) Tryz.func110 ?_;have hk0:=hs0;obtain ⟨z21,z22,z23,z24,z25,z26,z27⟩:=hs0;refine us (QN6 s QLd _) ?_;apply ai<;>intro h1
 ·refine us (mv [] (QZ8 s.jobs QLd) .nil (dl lw .nil) (rO rr .nil) (rw_ 1 0 rfl)) ?_;obtain rfl:=foll hR (ct h1 rfl);exact Q60 (Low.tup' (.cons lw (.cons lw .nil))) (Seen.tup (ev (Qa0 zG _ rfl eqA lnA) (ev (Q00) .nil)))
 ·refine us (mv [] (QZ8 s.jobs QLd) .nil (dl lw .nil) (rO rr .nil) (rw_ 2 0 rfl)) ?_;refine Qu1 (fun (c:State)=>QSc s c=R∧(c.sz∧c.jobs.length=s.jobs.length)) (fun c=>[(1,AVal.ptr 0 0 8 0 0),(2,AVal.lit (.slice none 0 0)),(3,AVal.lit (.slice none 0 0)),(4,AVal.ptr 1 0 8 0 0)]) (fun c=>[(0,AObj.row 28 8 [[I s.now,nodeL s.nodes,jobL s.jobs,Qh1 s.resizes,bookL s.books,Qt1 s.ledger,I s.nextJob,I s.nextBook]]),(0,AObj.row 28 8 [[I c.now,nodeL c.nodes,jobL c.jobs,Qh1 c.resizes,bookL c.books,Qt1 c.ledger,I c.nextJob,I c.nextBook]])]) ?_ ?_
  ·clear hR;rintro c ⟨hR,hx⟩;(try dsimp only at hR hx);refine us (QUc c QLd _) ?_;generalize hvfr:QR1 c=fr;(have hfr:fr.1.length=s.jobs.length∧(∀ y ∈ fr.1,y.sz):=by rw [← hvfr];exact ⟨(Qc7 hx.1).1.trans hx.2,(Qc7 hx.1).2.1⟩);refine Qu0 (fun (ids:List Int) (i1:Nat)=>QF5 fr (QQ7 s (List.drop i1 fr.1) ids i1)=R∧i1<=fr.1.length∧ids.length<=i1) (fun ids i1=>fr.1.length - i1) (fun ids i1=>[(1,AVal.ptr 0 0 8 0 0),(2,AVal.lit (.slice none 0 0)),(3,AVal.lit (.slice none 0 0)),(9,jobL fr.1),(11,AVal.own 1 0 1 0 ids.length),(52,jobL fr.1),(53,I (fr.1.length:Int)),(54,I (i1:Int))]) (fun ids i1=>[(0,AObj.row 28 8 [[I s.now,nodeL s.nodes,jobL s.jobs,Qh1 s.resizes,bookL s.books,Qt1 s.ledger,I s.nextJob,I s.nextBook]]),(0,AObj.row 3 1 (ids.map (fun q_=>[I q_])))]) [] 0 ((QA1 3 1).trans (wk [0,2] (tO rfl (ts State.lo) (tO rfl (tl eqA) .nil)) (sv (Qy0 0 rfl rfl) (s1 (s1 (sl lw (sv (Q25 1 rfl) (sl lw (s1 (s1 .nil)))))))))) ⟨foll hR ((by subst hvfr;exact rfl)),by exact omA,Qza⟩ ?_;clear hR;rintro ids i1 ⟨hR,hj,hx⟩;(try dsimp only at hR hj hx);apply ai<;>intro h3
   ·have hlt:=ltA h3;rw [Qd0 zG hlt] at hR;have hxz:(fr.1.getD i1 zG).sz:=QB1 (by first|assumption|grind) (Job.szz _);have hkz:=hxz;obtain ⟨z5,z6,z7,z8,z9⟩:=Job.zz hxz;refine ai gkA ?_;refine ai gkA ?_;apply ai<;>intro h10
    ·refine Or.inl ?_;(first|refine ⟨Qd1 8 rfl lnA apA,?_⟩|refine ⟨QB0 8 rfl apA,?_⟩);exact Qc0 (ids++([(fr.1.getD i1 zG).id]:List Int)) (i1+1) (wk [0,1] (tO rfl (ts State.lo) (tO rfl (tl eqA) .nil)) (sv (Qy0 0 rfl rfl) (s1 (s1 (sl lw (sv (to 1 lnA) (sl lw (s1 (sv (turn_eq (I_eq (wr omA)) lx) .nil))))))))) omA ⟨foll hR (congrArg (fun p:(List Int)=>QF5 fr p) (ct h10 rfl)),by exact omA,Qza⟩
    ·exact Qc0 ids (i1+1) (wk [0,1] (tO rfl (ts State.lo) (tO rfl (tl eqA) .nil)) (sv (Qy0 0 rfl rfl) (s1 (s1 (sl lw (sv (to 1 lnA) (sl lw (s1 (sv (turn_eq (I_eq (wr omA)) lx) .nil))))))))) omA ⟨foll hR (congrArg (fun p:(List Int)=>QF5 fr p) (cf h10 rfl)),by exact omA,Qza⟩
   ·rw [Qh0 (l:=fr.1) (j:=i1) (geA h3)] at hR;replace hR:QF5 fr ids=R:=fo2 (fun p:(List Int)=>QF5 fr p) (ids) hR rfl;obtain rfl:=foll hR rfl;exact Q60 (Low.tup' (.cons lw (.cons lw .nil))) (Seen.tup (e1 (ev (Qa0 0 _ rfl eqA lnA) .nil)))
  ·refine Qu0 (fun (i:Nat) (c2:List Job)=>QE5 s (Qk2 (List.drop i s.jobs) i c2)=R∧i<=s.jobs.length∧(∀ y ∈ c2,y.sz)∧c2.length=s.jobs.length) (fun i c2=>s.jobs.length - i) (fun i c2=>[(1,AVal.ptr 0 0 8 0 0),(2,AVal.lit (.slice none 0 0)),(3,AVal.lit (.slice none 0 0)),(4,AVal.ptr 1 0 8 0 0),(27,AVal.own 2 0 20 0 c2.length),(28,I (s.jobs.length:Int)),(29,I (i:Int))]) (fun i c2=>[(0,AObj.row 28 8 [[I s.now,nodeL s.nodes,jobL s.jobs,Qh1 s.resizes,bookL s.books,Qt1 s.ledger,I s.nextJob,I s.nextBook]]),(0,AObj.row 28 8 [[I s.now,nodeL s.nodes,AVal.own 2 0 20 0 c2.length,Qh1 s.resizes,bookL s.books,Qt1 s.ledger,I s.nextJob,I s.nextBook]]),(0,AObj.row 55 20 (c2.map Job.cells))]) 0 s.jobs (wk [0,1,2] (tO rfl (ts State.lo) (tO rfl (QE1 (c1 (cv (Qg3 lw) (cv (to 2 lnA) (cv (Qg3 lw) (cv (Qg3 lw) (cv (Qg3 lw) (c1 (c1 .nil))))))))) (tO rfl (tl eqA) .nil))) (sv (Qy0 0 rfl rfl) (s1 (s1 (sv (Qy0 1 rfl rfl) (sv (to 2 lnA) (s1 (s1 .nil)))))))) ⟨foll hR (cf h1 rfl),by exact omA,Qza⟩ ?_;clear hR;rintro i c2 ⟨hR,hj,hx⟩;(try dsimp only at hR hj hx);apply ai<;>intro h12
   ·have hlt:=ltA h12;rw [Qd0 zG hlt] at hR;have hxz:(s.jobs.getD i zG).sz:=QB1 (by first|assumption|grind) (Job.szz _);have hkz:=hxz;obtain ⟨z14,z15,z16,z17,z18⟩:=Job.zz hxz;refine ai gkA ?_;refine ⟨_,Qf0 rfl rfl rfl (Qo0 zG i (by first|rfl|exact yda _|omega) ckA) rfl,?_⟩;refine us (job_Drop_c (c2.getD i zG) QLd _) ?_;generalize hvdro:Q44 (c2.getD i zG)=dro;(have hdro:dro.1.sz:=by rw [← hvdro];exact Qfe (QB1 hx.1 (Job.szz _)));apply ai<;>intro h19
    ·refine ai gkA ?_;refine ⟨_,QV0 rfl rfl rfl rfl (Qo0 zG i (by first|rfl|exact yda _|omega) ckA) rfl rfl (QD7 i dro.1 (by first|rfl|exact yda _|omega) rfl),?_⟩;exact Qc0 (i+1) (c2.set i dro.1) (wk [0,1,2] (tO rfl (ts State.lo) (tO rfl (QE1 (c1 (cv (Qg3 lw) (cv (to 2 lnA) (cv (Qg3 lw) (cv (Qg3 lw) (cv (Qg3 lw) (c1 (c1 .nil))))))))) (tO rfl (tl eqA) .nil))) (sv (Qy0 0 rfl rfl) (s1 (s1 (sv (Qy0 1 rfl rfl) (sv (to 2 lnA) (s1 (sv (turn_eq (I_eq (wr omA)) lx) .nil)))))))) omA ⟨foll hR (congrArg (fun p:(List Job)=>QE5 s p) ((by subst hvdro;exact ct h19 rfl))),by exact omA,Qza⟩
    ·exact Qc0 (i+1) c2 (wk [0,1,2] (tO rfl (ts State.lo) (tO rfl (QE1 (c1 (cv (Qg3 lw) (cv (to 2 lnA) (cv (Qg3 lw) (cv (Qg3 lw) (cv (Qg3 lw) (c1 (c1 .nil))))))))) (tO rfl (tl eqA) .nil))) (sv (Qy0 0 rfl rfl) (s1 (s1 (sv (Qy0 1 rfl rfl) (sv (to 2 lnA) (s1 (sv (turn_eq (I_eq (wr omA)) lx) .nil)))))))) omA ⟨foll hR (congrArg (fun p:(List Job)=>QE5 s p) ((by subst hvdro;exact cf h19 rfl))),by exact omA,Qza⟩
   ·rw [Qh0 (l:=s.jobs) (j:=i) (geA h12)] at hR;replace hR:QE5 s c2=R:=fo2 (fun p:(List Job)=>QE5 s p) (c2) hR rfl;exact Qj0 { s with jobs:=c2 } (wk [0,1] (tO rfl (ts State.lo) (tO rfl (QE1 (c1 (cv (Qg3 lw) (cv (Qn7 _ _ rfl (yna _) (by decide) eqA (fun _=>Job.lowc _ _) lnA) (cv (Qg3 lw) (cv (Qg3 lw) (cv (Qg3 lw) (c1 (c1 .nil))))))))) .nil)) (sv (Qy0 0 rfl rfl) (s1 (s1 (sv (Qy0 1 rfl rfl) .nil))))) (⟨foll hR rfl,Qza⟩)
theorem Qy7:∀ (l:List Job) (i:Nat) (c:List Job),(∀ y ∈ c,y.sz)->(Qk2 l i c).length=c.length ∧ ∀ y ∈ Qk2 l i c,y.sz
 | [],_,_,h=>⟨rfl,h⟩
 | _ :: r,i,c,h=>by
  rw [Qk2];simp only;cases ((Q44 (c.getD i zG)).2==0) with
  | true =>
   obtain ⟨a,b⟩:=Qy7 r (i+1) (c.set i (Q44 (c.getD i zG)).1) (fun y hy=>(y6a hy).elim (h y) fun e=>e ▸ Qfe (QB1 h (Job.szz _)));exact ⟨by simpa using a,b⟩
  | false=>exact Qy7 r (i+1) c h
theorem QTc {s:State} (hz:s.sz):(QW2 s).1.length<=4294967296∧(∀ y ∈ (QW2 s).1,y.sz):=by
 have hz2:=hz.2.1;unfold QW2;cases ((Q12 s)!=0) with
 | true=>exact ⟨hz2,hz.2.2.1⟩
 | false =>
  obtain ⟨a,b⟩:=Qy7 s.jobs 0 s.jobs hz.2.2.1;have hs:({ s with jobs:=Qk2 s.jobs 0 s.jobs }:State).sz:=⟨hz.1,by show (Qk2 s.jobs 0 s.jobs).length<=_;rw [a];exact hz2,b,hz.2.2.2⟩;obtain ⟨p,q,_⟩:=Qc7 hs;exact ⟨by show (QR1 { s with jobs:=Qk2 s.jobs 0 s.jobs }).1.length<=_;rw [p];exact hs.2.1,q⟩
end Go.Proofs.YtgnlcjenoaoffaaGreatDoor
namespace Go.Proofs.YtgnlcjenoaoffaaGreatDoor
set_option linter.unusedSimpArgs false
set_option linter.unusedVariables false
open Go.Fw
theorem QMe (l:List Job) (hn:l.length<=40):∀ (r:List Job) (i:Nat),r=l.drop i->i+r.length=l.length ->
  (∀ x ∈ r,Qm0 x=0)->r.Pairwise (fun a b=>a.id<b.id)->(∀ y,0<i->l[i - 1]? = some y -> ∀ x ∈ r,y.id<x.id)->QG3 l r i=0
 | [],i,_,_,_,_,_=>rfl
 | x :: r,i,hr,hlen,h1,h2,h3=>by
  simp only [yLa] at hlen;have hi:l[i]? = some x:=by
   have:=congrArg (fun q=>q[0]?) hr;simpa [yMa] using this.symm
  have hr':r=l.drop (i+1):=by rw [← y2b,← hr];rfl
  have hp:=List.pairwise_cons.1 h2;have ih:=QMe l hn r (i+1) hr' oA (fun z hz=>h1 z (ywa _ hz)) hp.2 (fun y _ hy=>by rw [show i+1 - 1=i by omega,hi] at hy;cases hy;exact hp.1);rw [QG3,h1 x (yIa ..),w6 (n:=(i:Int) - 1) oA,show ((i:Int) - 1).toNat=i - 1 by omega];have hc:((decide ((i:Int) > 0))&&(decide ((l.getD (i - 1) zG).id >= x.id)))=false:=by
   rcases ySa i with h0|h0
   ·subst h0;rfl
   ·obtain ⟨y,hy⟩:∃ y,l[i - 1]? = some y:=⟨_,yba oA⟩;have hg:l.getD (i - 1) zG=y:=by simp [List.getD,hy]
    have:=h3 y h0 hy x (yIa ..);rw [hg,y7b (show ¬ y.id >= x.id by omega),Bool.and_false]
  rw [hc];exact ih
theorem QQe {l:List Job} (hn:l.length<=40) (h1:∀ x ∈ l,Qm0 x=0) (h2:l.Pairwise (fun a b=>a.id<b.id)):Qi0 l=0:=by
 unfold Qi0;rw [y7b (show ¬ (l.length:Int) > 40 by omega)];exact QMe l hn l 0 rfl oA h1 h2 (fun y hy=>absurd hy oA)
theorem set_mem {α:Type} {l:List α} {p:Nat} {x y:α} (h:y ∈ l.set p x):y=x ∨ ∃ k,k ≠ p∧l[k]? = some y:=by
 obtain ⟨k,hk⟩:=yNb h;rw [yzb] at hk
 by_cases e:p=k
 ·subst e;rw [if_pos rfl] at hk;split at hk
  ·exact .inl (by simpa using hk.symm)
  ·cases hk
 ·rw [if_neg e] at hk;exact .inr ⟨k,Ne.symm e,hk⟩
theorem ids_set {l:List Job} {p:Nat} {x y:Job} (h:l[p]? = some x) (e:y.id=x.id):(l.set p y).map (·.id)=l.map (·.id):=by
 rw [List.map_set];refine yAb fun k=>?_
 rw [yzb]
 by_cases q:p=k
 ·subst q;have hp:=(List.getElem?_eq_some_iff.1 h).1;rw [if_pos rfl,if_pos (by simpa using hp),yra,h,e]
  rfl
 ·rw [if_neg q]
theorem pair_ids {l l':List Job} (h:l'.map (·.id)=l.map (·.id)) (hp:l.Pairwise (fun a b=>a.id<b.id)):l'.Pairwise (fun a b=>a.id<b.id):=by
 have h1:(l.map (·.id)).Pairwise (· < ·):=List.pairwise_map.2 hp;rw [← h] at h1;exact List.pairwise_map.1 h1
theorem table_set {l:List Job} (h:Qi0 l=0) {p:Nat} {x y:Job} (hp:l[p]? = some x) (e:y.id=x.id) (hy:Qm0 y=0):Qi0 (l.set p y)=0:=by
 obtain ⟨hn,hj,hs⟩:=Q15 h;refine QQe (by rw [yWa];exact hn) (fun z hz=>?_) (pair_ids (ids_set hp e) hs);rcases set_mem hz with rfl|⟨k,_,hk⟩
 ·exact hy
 ·exact hj z (yza hk)
theorem place_ok {l:List Job} (h:Qi0 l=0) {p:Nat} {x:Job} (hp:l[p]? = some x):Qq0 l x.id=((p:Int),true):=by
 obtain ⟨hn,hj,hs⟩:=Q15 h;have hb:∀ y ∈ l,1<=y.id∧y.id<=99999:=fun y hy=>Q6c (hj y hy)
 have hpl:p<l.length:=(List.getElem?_eq_some_iff.1 hp).1
 have hpi:(Qq0 l x.id).1=(p:Int) :=
  QBb l x.id hn (hb x (yza hp)) hb (QP7 hs) p x hp rfl _ 0 (l.length:Int) oA oA oA oA oA (fun k hk y hy=>absurd (List.getElem?_eq_some_iff.1 hy).1 oA)
 have hp2:(Qq0 l x.id).2=true:=by
  have e:(Qq0 l x.id).2=((decide ((Qq0 l x.id).1<(l.length:Int)))&&((w64 ((l.getD (Int.toNat (Qq0 l x.id).1) zG).id - x.id))==0)):=rfl;rw [e,hpi,yXa];have hg:l.getD p zG=x:=by simp [List.getD,hp]
  rw [hg,Int.sub_self,yoa (show (p:Int)<(l.length:Int) by omega)]
  rfl
 exact Prod.ext hpi hp2
theorem put_ok {l:List Job} (h:Qi0 l=0) {p:Nat} {x j:Job} (hp:l[p]? = some x) (hj:Qm0 j=0) (e:j.id=x.id):Qb1 l j=(l.set p j,0):=by
 unfold Qb1 Q68;rw [h,hj,e,place_ok h hp]
 rfl
theorem Q0e {l:List Job} {id:Int} (h:(Q70 l id).2=true):Qi0 l=0 ∧ ∃ p:Nat,l[p]? = some (Q70 l id).1∧(Q70 l id).1.id=id:=by
 unfold Q70 at h ⊢;cases h1:(((Qi0 l)!=0)||(!(QH3 id))) with
 | true=>rw [h1] at h;exact nomatch h
 | false =>
  rw [h1] at h;cases h2:(!(Qq0 l id).2) with
  | true=>rw [h2] at h;exact nomatch h
  | false =>
   simp only [yRa,y2a] at h1;have ht:Qi0 l=0:=by simpa using h1.1
   refine ⟨ht,?_⟩;obtain ⟨hn,hj,_⟩:=Q15 ht;have hq:=QI3 l id oA h2;have e:(Qq0 l id).2=((decide ((Qq0 l id).1<(l.length:Int)))&&((w64 ((l.getD (Int.toNat (Qq0 l id).1) zG).id - id))==0)):=rfl;rw [y2a] at h2;rw [h2] at e;have e2:=(yha _ _).mp e.symm;obtain ⟨p,hp⟩:∃ p:Nat,(Qq0 l id).1=(p:Int):=⟨_,(Int.toNat_of_nonneg hq.1).symm⟩;have hpl:p<l.length:=by omega
   have hw:w64 ((p:Int)+1)=(p:Int)+1:=wr oA;rw [hp,hw,show ((p:Int)+1).toNat=p+1 by omega,yXa];have hg:l.getD p zG=l[p]:=by simp [List.getD,hpl]
   have hx:(List.drop p (List.take (p+1) l)).getD 0 zG=l[p]:=by simp [List.getD,yMa,yKa,hpl]
   refine ⟨p,by rw [cond_false,cond_false];show l[p]? = some ((List.drop p (List.take (p+1) l)).getD 0 zG);rw [hx];exact yba hpl,?_⟩;rw [cond_false,cond_false];show ((List.drop p (List.take (p+1) l)).getD 0 zG).id=id;rw [hx];have h3:=e2.2;rw [hp,yXa,hg] at h3;have hb:=Q6c (hj _ (ycb hpl));have hk:QH3 id=true:=h1.2;unfold QH3 at hk;simp at hk;rw [w6 (n:=l[p].id - id) oA] at h3;simp at h3;omega
theorem over_of {j k:Job} (hc:Qm0 j=0) (e1:k.id=j.id) (e2:k.born=j.born) (e3:k.used=j.used) (e4:QA0 k=QA0 j) (e5:k.after=j.after)
  (hs:(k.state==1)=false) (hs2:(k.state==2)=false) (he:Qj5 k.state=true) (h:Qq2 k=true):Qm0 k=0:=by
 unfold Qm0 at hc ⊢;rw [e1,e2,e3,e4,e5,hs,hs2,he,h];cases h4:((((((decide (j.id<1))||(decide (j.id > 99999)))||(!(QQ1 j.born)))||(j.used != (Qf4 j.used)))||((QN4 (QA0 j))!=0))||(Qv0 j.after (fun (y:Dep)=>(decide (y.job >= j.id))))) with
 | true=>rw [h4] at hc;exact nomatch hc
 | false=>rfl
theorem views_of {j:Job} (hc:Qm0 j=0):(j.state=1->QN0 j=true)∧(j.state=2->QS2 j=true):=by
 unfold Qm0 at hc;cases h4:((((((decide (j.id<1))||(decide (j.id > 99999)))||(!(QQ1 j.born)))||(j.used != (Qf4 j.used)))||((QN4 (QA0 j))!=0))||(Qv0 j.after (fun (y:Dep)=>(decide (y.job >= j.id))))) with
 | true=>rw [h4] at hc;exact nomatch hc
 | false =>
  rw [h4] at hc;refine ⟨fun h=>?_,fun h=>?_⟩ <;> rw [h] at hc
  ·cases hq:QN0 j with
   | true=>rfl
   | false=>rw [hq] at hc;exact nomatch hc
  ·cases hq:QS2 j with
   | true=>rfl
   | false=>rw [hq] at hc;exact nomatch hc
theorem over_bare {k:Job} (h1:k.nodes=0) (h2:k.start=0) (h3:k.limit=0) (h4:k.promise = -1) (h5:k.choice=0):Qq2 k=true:=by
 unfold Qq2;rw [h1,h2,h3,h4,h5]
 decide
theorem Qve {j:Job} {c:Int} (h:(QJ0 j c).2=true):0<=c∧c<((Qe0 j.shape).length:Int):=by
 unfold QJ0 at h;cases h1:((decide (c<0))||(decide (c >= ((Qe0 j.shape).length:Int)))) with
 | true=>rw [h1] at h;exact nomatch h
 | false=>simp at h1;omega
theorem options_le (s:Shape):(Qe0 s).length<=48:=by
 unfold Qe0;cases h:(QE3 s != 0) with
 | true=>exact yna _
 | false =>
  rw [cond_false];have hk:∀ b:Bool,(Q53 b != 0)=false->b=true:=fun b=>by cases b <;> decide
  unfold QE3 at h;cases h1:(s.kind==1) with
  | true =>
   rw [h1,cond_true] at h;have q:=hk _ h;have h3:(s.kind==3)=false:=by simp at h1;simp;omega
   rw [h3,cond_false];simp at q;omega
  | false =>
   rw [h1,cond_false] at h;cases h2:(s.kind==2) with
   | true =>
    rw [h2,cond_true] at h;have q:=hk _ h;have h3:(s.kind==3)=false:=by simp at h2;simp;omega
    rw [h3,cond_false];simp only [yha,yua] at q;omega
   | false =>
    rw [h2,cond_false] at h;cases h3:(s.kind==3) with
    | false=>rw [h3,cond_false] at h;exact absurd h (by decide)
    | true =>
     rw [h3,cond_true] at h;have q:=hk _ h;unfold Qv1 at q;simp only [yha,yua,beq_iff_eq] at q;rw [cond_true,yma];unfold QE7;rw [yxa,yOa];omega
theorem end_check {j:Job} {why:Int} (h:((QI2 j why).2 != 0)=false):(QI2 j why).1.id=j.id∧Qm0 (QI2 j why).1=0:=by
 unfold QI2 at h ⊢;cases h1:((Qm0 j)!=0) with
 | true=>rw [h1] at h;simp only [cond_true] at h;rw [h1] at h;exact nomatch h
 | false =>
  rw [h1] at h;have hc:Qm0 j=0:=by simpa using h1
  cases h2:(!(Qj5 why)) with
  | true=>rw [h2] at h;exact nomatch h
  | false =>
   rw [h2] at h;have he:Qj5 why=true:=by simpa using h2
   have hw1:(why==1)=false∧(why==2)=false:=by unfold Qj5 at he;simp at he;simp;omega
   cases h3:((Q85 ((j.state==2)||((j.state==1)&&(why==6))))!=0) with
   | true=>rw [h3] at h;simp only [cond_true,cond_false] at h;rw [h3] at h;exact nomatch h
   | false =>
    have hs:j.state=2∨(j.state=1∧why=6):=by
     unfold Q85 at h3;cases h4:((j.state==2)||((j.state==1)&&(why==6))) with
     | true=>simpa using h4
     | false=>rw [h4] at h3;exact nomatch h3
    obtain ⟨vq,vr⟩:=views_of hc;simp only [cond_false];rcases hs with hs|⟨hs,_⟩
    ·rw [show (j.state==1)=false by rw [hs];rfl];refine ⟨rfl,over_of hc rfl rfl rfl rfl rfl hw1.1 hw1.2 he ?_⟩;have hv:=vr hs;unfold QS2 at hv;revert hv;cases hq:(((((((!(QJ0 j j.choice).2)||j.held)||(!(QQ1 j.start)))||(!(QQ1 j.promise)))||(decide (j.promise<j.start)))||(!(QQ1 j.limit)))||((w64 (j.limit - j.start))!=(QJ0 j j.choice).1.wall)) with
     | true=>intro hv;exact nomatch hv
     | false =>
      intro _;simp only [yRa,y2a] at hq;obtain ⟨⟨⟨⟨⟨⟨q1,_⟩,q2⟩,q3⟩,_⟩,q4⟩,_⟩:=hq;have ho:=Qve q1;have hl:=options_le j.shape;unfold QQ1 at q3;simp at q3;unfold Qq2;simp [q2,q4];omega
    ·rw [show (j.state==1)=true by rw [hs];rfl];refine ⟨rfl,over_of hc rfl rfl rfl rfl rfl hw1.1 hw1.2 he ?_⟩;have hv:=vq hs;unfold QN0 at hv;simp only [yha,beq_iff_eq] at hv;exact over_bare rfl hv.1.1.1 hv.1.1.2 rfl rfl
theorem choice_in {j:Job} (hc:Qm0 j=0):0<=j.choice:=by
 obtain ⟨v1,v2⟩:=views_of hc
 by_cases h1:j.state=1
 ·have h:=v1 h1;unfold QN0 at h;simp only [yha,yQa,beq_iff_eq] at h;rcases h.2 with q|q
  ·omega
  ·exact (Qve q.1.2).1
 ·by_cases h2:j.state=2
  ·have h:=v2 h2;unfold QS2 at h;revert h;cases hq:(((((((!(QJ0 j j.choice).2)||j.held)||(!(QQ1 j.start)))||(!(QQ1 j.promise)))||(decide (j.promise<j.start)))||(!(QQ1 j.limit)))||((w64 (j.limit - j.start))!=(QJ0 j j.choice).1.wall)) with
   | true=>intro h;exact nomatch h
   | false =>
    intro _;simp only [yRa,y2a] at hq;exact (Qve hq.1.1.1.1.1.1).1
  ·unfold Qm0 at hc;cases h4:((((((decide (j.id<1))||(decide (j.id > 99999)))||(!(QQ1 j.born)))||(j.used != (Qf4 j.used)))||((QN4 (QA0 j))!=0))||(Qv0 j.after (fun (y:Dep)=>(decide (y.job >= j.id))))) with
   | true=>rw [h4] at hc;exact nomatch hc
   | false =>
    rw [h4,show (j.state==1)=false by simpa using h1,show (j.state==2)=false by simpa using h2] at hc;cases h5:(!(Qj5 j.state)) with
    | true=>rw [h5] at hc;exact nomatch hc
    | false =>
     cases h6:(!(Qq2 j)) with
     | true=>rw [h5,h6] at hc;exact nomatch hc
     | false =>
      have h:Qq2 j=true:=by simpa using h6
      unfold Qq2 at h;simp only [yha,yua] at h;exact h.1.2
theorem find_choice (l:List Job) (id:Int):0<=(Q70 l id).1.choice:=by
 cases h:(Q70 l id).2 with
 | true =>
  obtain ⟨ht,p,hp,_⟩:=Q0e h;exact choice_in ((Q15 ht).2.1 _ (yza hp))
 | false =>
  unfold Q70 at h ⊢;cases h1:(((Qi0 l)!=0)||(!(QH3 id))) with
  | true=>exact yxb _
  | false =>
   rw [h1] at h;cases h2:(!(Qq0 l id).2) with
   | true=>exact yxb _
   | false=>rw [h2] at h;exact nomatch h
theorem put_never {l:List Job} {id why:Int} {tf:Job × Bool} {tp:List Job × Int} {je:Job × Int} (hf:Q70 l id=tf) (h:(!tf.2)=false) (hj:QI2 tf.1 why=je) (he:(je.2 != 0)=false) (hp:Qb1 l je.1=tp):(tp.2==0)=true:=by
 subst hf hj hp;obtain ⟨ht,p,hp,e⟩:=Q0e (by simpa using h);obtain ⟨e1,e2⟩:=end_check he;rw [put_ok ht hp e2 e1]
 rfl
theorem eachz_go (set_ act job now:Int):∀ (r:List Int) (i:Nat) (c:List Node),(QP1 set_ act job now r i c).1.length<=c.length
 | [],i,c=>by rw [QP1,yka];split <;> exact yia _
 | x :: r,i,c=>by
  rw [QP1];have h:=Ql1 c x act job now;have a:=eachz_go set_ act job now r (i+1) (Ql0 c x act job now).1;have b:=eachz_go set_ act job now r (i+1) c;simp only [yka];split <;> split <;> first|exact yna _|exact yea a h|exact b
theorem QM1 (l:List Node) (set_ act job now:Int):(Qp0 l set_ act job now).1.length<=l.length∧(Qp0 l set_ act job now).2.1.length<=64:=by
 refine ⟨?_,Qa8 _ _ _ _ _⟩;unfold Qp0;rw [yka];split
 ·exact yna _
 ·exact eachz_go _ _ _ _ _ _ _
theorem grant_sz (l:List Node) (n act job now:Int):(Q22 l n act job now).1.length<=l.length∧(Q22 l n act job now).2.2.1.length<=64:=by
 unfold Q22
 repeat' first|exact ⟨yna _,yna _⟩|exact QM1 _ _ _ _ _|(rw [yka];split)
theorem sent_go:∀ (l:List Note) (out:List Out) (i:Nat),(QX2 l out i).length=out.length+l.length
 | [],_,_=>rfl
 | x :: r,out,i=>by rw [QX2,sent_go r,yma,yLa,yLa,y0a];omega
@[simp] theorem QX0 (l:List Note):(Q11 l).length=l.length:=(sent_go l [] 0).trans (yda _)
def Row2 (R:Job->Job->Prop) (l m:List Job):Prop:=m.length=l.length ∧ ∀ (k:Nat) (x:Job),l[k]? = some x -> ∃ y,m[k]? = some y∧R x y
theorem Row2.refl {R:Job->Job->Prop} (h:∀ x,R x x) (l:List Job):Row2 R l l:=⟨rfl,fun _ x hx=>⟨x,hx,h x⟩⟩
theorem Row2.trans {R S T:Job->Job->Prop} (h:∀ x y z,R x y->S y z->T x z) {l m n:List Job} (a:Row2 R l m) (b:Row2 S m n):Row2 T l n :=
 ⟨b.1.trans a.1,fun k x hx=>by
  obtain ⟨y,hy,r⟩:=a.2 k x hx;obtain ⟨z,hz,q⟩:=b.2 k y hy
  exact ⟨z,hz,h x y z r q⟩⟩
theorem Row2.set {R:Job->Job->Prop} {l m:List Job} (a:Row2 R l m) {p:Nat} {z:Job} (h:∀ x,l[p]? = some x->R x z):Row2 R l (m.set p z):=by
 refine ⟨by rw [yWa];exact a.1,fun k x hx=>?_⟩
 by_cases e:p=k
 ·subst e;have hl:=(List.getElem?_eq_some_iff.1 hx).1;exact ⟨z,by rw [yzb,if_pos rfl,if_pos (by rw [a.1];exact hl)],h x hx⟩
 ·obtain ⟨y,hy,r⟩:=a.2 k x hx;exact ⟨y,by rw [yYb e];exact hy,r⟩
theorem Row2.get {R:Job->Job->Prop} {l m:List Job} (a:Row2 R l m) {p:Nat} {x:Job} (h:l[p]? = some x):m[p]? = some (m.getD p zG)∧R x (m.getD p zG):=by
 obtain ⟨y,hy,r⟩:=a.2 p x h;have:m.getD p zG=y:=by rw [yNa,hy];rfl
 rw [this];exact ⟨hy,r⟩
theorem table_same {l:List Job} (ht:Qi0 l=0) {p q:Nat} {x y:Job} (hp:l[p]? = some x) (hq:l[q]? = some y) (e:x.id=y.id):x=y:=by
 obtain ⟨_,_,hs⟩:=Q15 ht;rcases yyb p q with h|h|h
 ·have:=QP7 hs p q x y h hp hq;omega
 ·subst h;rw [hp] at hq;exact Option.some.inj hq
 ·have:=QP7 hs q p y x h hq hp;omega
theorem whole_row {l m:List Job} (ht:Qi0 l=0) (h:Row2 (fun x y=>y.id=x.id∧(Qm0 x=0->Qm0 y=0)) l m):Qi0 m=0:=by
 obtain ⟨hn,hj,hs⟩:=Q15 ht;refine QQe (by rw [h.1];exact hn) (fun z hz=>?_) ?_
 ·obtain ⟨k,hk⟩:=yNb hz;have hl:k<l.length:=by rw [← h.1];exact (List.getElem?_eq_some_iff.1 hk).1
  obtain ⟨y,hy,_,r⟩:=h.2 k _ (yba hl);rw [hy] at hk;cases hk;exact r (hj _ (ycb hl))
 ·refine pair_ids (yAb fun k=>?_) hs;rw [yra,yra]
  by_cases hl:k<l.length
  ·obtain ⟨y,hy,e,_⟩:=h.2 k _ (yba hl);rw [hy,yba hl];exact congrArg some e
  ·rw [yYa (by rw [h.1];omega),yYa oA]
theorem QWc {j:Job} {t c:Int} (h:((Q81 j t c).2 != 0)=false):(Q81 j t c).1={ j with promise:=t,choice:=c }∧0<=t∧Qm0 { j with promise:=t,choice:=c }=0∧j.state=1:=by
 unfold Q81 at h ⊢;cases h1:((Qm0 j)!=0) with
 | true=>rw [h1] at h;simp only [cond_true] at h;rw [h1] at h;exact nomatch h
 | false =>
  rw [h1] at h;cases h2:((j.state != 1)||j.held) with
  | true=>rw [h2] at h;exact nomatch h
  | false =>
   rw [h2] at h;cases h3:((!(QJ0 j c).2)||(!(QQ1 t))) with
   | true=>rw [h3] at h;exact nomatch h
   | false =>
    simp only [yRa,y2a] at h2 h3;have hs:j.state=1:=by simpa using h2.1
    have hc:Qm0 j=0:=by simpa using h1
    refine ⟨rfl,by have:=h3.2;unfold QQ1 at this;simp at this;omega,?_,hs⟩;unfold Qm0 at hc ⊢;rw [show QA0 { j with promise:=t,choice:=c }=QA0 j from rfl];dsimp only;cases h4:((((((decide (j.id<1))||(decide (j.id > 99999)))||(!(QQ1 j.born)))||(j.used != (Qf4 j.used)))||((QN4 (QA0 j))!=0))||(Qv0 j.after (fun (y:Dep)=>(decide (y.job >= j.id))))) with
    | true=>rw [h4] at hc;exact nomatch hc
    | false =>
     rw [h4,hs] at hc;have hq:QN0 j=true:=by
      cases hq:QN0 j with
      | true=>rfl
      | false=>rw [hq] at hc;exact nomatch hc
     rw [hs];have:QN0 { j with promise:=t,choice:=c }=true:=by
      unfold QN0 at hq ⊢;simp only [yha] at hq ⊢;refine ⟨hq.1,?_⟩;rw [yQa];right;simp only [yha];exact ⟨⟨h3.2,h3.1⟩,by simpa using h2.2⟩
     show (bif false then (140:Int) else bif (1==1) then (bif !(QN0 { j with state:=1,promise:=t,choice:=c }) then 140 else 0) else _)=0;rw [show ({ j with state:=1,promise:=t,choice:=c }:Job)={ j with promise:=t,choice:=c } by rw [← hs],this]
     rfl
theorem check_over {j k:Job} (hc:Qm0 j=0) (e1:k.id=j.id) (e2:k.born=j.born) (e3:k.used=j.used) (e4:QA0 k=QA0 j) (e5:k.after=j.after)
  (h:(k.state=1∧QN0 k=true)∨(k.state=6∧Qq2 k=true)):Qm0 k=0:=by
 unfold Qm0 at hc ⊢;rw [e1,e2,e3,e4,e5];cases h4:((((((decide (j.id<1))||(decide (j.id > 99999)))||(!(QQ1 j.born)))||(j.used != (Qf4 j.used)))||((QN4 (QA0 j))!=0))||(Qv0 j.after (fun (y:Dep)=>(decide (y.job >= j.id))))) with
 | true=>rw [h4] at hc;exact nomatch hc
 | false =>
  rcases h with ⟨h,q⟩|⟨h,q⟩ <;> rw [h,q] <;> rfl
theorem queued_of {j:Job} (hc:Qm0 j=0) (hs:j.state=1):QN0 j=true:=by
 unfold Qm0 at hc;cases h4:((((((decide (j.id<1))||(decide (j.id > 99999)))||(!(QQ1 j.born)))||(j.used != (Qf4 j.used)))||((QN4 (QA0 j))!=0))||(Qv0 j.after (fun (y:Dep)=>(decide (y.job >= j.id))))) with
 | true=>rw [h4] at hc;exact nomatch hc
 | false =>
  rw [h4,hs] at hc;cases hq:QN0 j with
  | true=>rfl
  | false=>rw [hq] at hc;exact nomatch hc
theorem dropd_told {j:Job} (h:((Q44 j).2==0)=true):(Q44 j).1.id=j.id∧(Q44 j).1.state=j.state∧Qm0 (Q44 j).1=0∧j.state=1:=by
 unfold Q44 at h ⊢;cases h1:((Qm0 j)!=0) with
 | true=>rw [h1] at h;simp only [cond_true] at h;simp at h1;simp at h;exact absurd h h1
 | false =>
  rw [h1] at h;have hc:Qm0 j=0:=by simpa using h1
  cases h2:((Q85 (j.state==1))!=0) with
  | true=>rw [h2] at h;simp only [cond_true,cond_false] at h;simp at h2;simp at h;exact absurd h h2
  | false =>
   have hs:j.state=1:=by
    unfold Q85 at h2;cases h3:(j.state==1) with
    | true=>simpa using h3
    | false=>rw [h3] at h2;exact nomatch h2
   refine ⟨rfl,rfl,check_over hc rfl rfl rfl rfl rfl (.inl ⟨hs,?_⟩),hs⟩;have hq:=queued_of hc hs;unfold QN0 at hq ⊢;simp only [yha] at hq ⊢;exact ⟨hq.1,by simp⟩
theorem end_told {j:Job} (h:((QI2 j 6).2 != 0)=false) (hs:j.state=1):(QI2 j 6).1.id=j.id∧(QI2 j 6).1.state=6∧Qm0 (QI2 j 6).1=0:=by
 unfold QI2 at h ⊢;cases h1:((Qm0 j)!=0) with
 | true=>rw [h1] at h;simp only [cond_true] at h;rw [h1] at h;exact nomatch h
 | false =>
  have hc:Qm0 j=0:=by simpa using h1
  rw [show (!(Qj5 6))=false from rfl,show Q85 ((j.state==2)||((j.state==1)&&((6:Int)==6)))=0 by rw [hs];rfl,show (j.state==1)=true by rw [hs];rfl];refine ⟨rfl,rfl,check_over hc rfl rfl rfl rfl rfl (.inr ⟨rfl,?_⟩)⟩;have hq:=queued_of hc hs;unfold QN0 at hq;simp only [yha,beq_iff_eq] at hq;exact over_bare rfl hq.1.1.1 hq.1.1.2 rfl rfl
theorem start_told {j:Job} {t n:Int} (h:((QU1 j t n).2 != 0)=false):(QU1 j t n).1.id=j.id∧(QU1 j t n).1.state=2:=by
 unfold QU1 at h ⊢;cases h1:((Qm0 j)!=0) with
 | true=>rw [h1] at h;simp only [cond_true] at h;rw [h1] at h;exact nomatch h
 | false =>
  rw [h1] at h;simp only [cond_false] at h ⊢
  repeat' first
   | exact ⟨rfl,rfl⟩
   | (revert h;rw [yka];split <;> intro h)
   | exact nomatch h
def EndR (x y:Job):Prop:=y.id=x.id∧(y=x∨(x.state=1∧y.state=6))
def SqzR (x y:Job):Prop:=y.id=x.id∧y.state=x.state∧(0<=x.promise->0<=y.promise∧y.promise<=x.promise)∧(Qm0 x=0->Qm0 y=0)∧(x.state ≠ 1->y=x)
def FrsR (x y:Job):Prop:=y.id=x.id∧y.state=x.state∧(y=x∨x.promise = -1)∧(Qm0 x=0->Qm0 y=0)∧(x.state ≠ 1->y=x)
def PlnR (x y:Job):Prop:=y.id=x.id∧y.state=x.state∧(Qm0 x=0->Qm0 y=0)∧(x.state ≠ 1->y=x)
def StaR (x y:Job):Prop:=y.id=x.id∧(y=x∨y.state=2)
theorem doom_go {l:List Job} (ht:Qi0 l=0):∀ (r:List Job) (m:List Job) (out:List Int) (i:Nat) (c:List (Int × Int)),l.drop i=r->Qi0 m=0->Row2 EndR l m ->
  Qi0 (QL1 r m out i c).1=0∧Row2 EndR l (QL1 r m out i c).1
 | [],m,out,i,c,_,hm,hr=>⟨hm,hr⟩
 | x :: r,m,out,i,c,hd,hm,hr=>by
  have hx:l[i]? = some x:=by have:=congrArg (·[0]?) hd;simpa using this
  have hd':l.drop (i+1)=r:=by rw [← y2b,hd];rfl
  rw [QL1];cases h1:((x.state != 1)||(!(Qp5 c x))) with
  | true=>exact doom_go ht r m out (i+1) c hd' hm hr
  | false =>
   cases h2:((QI2 x 6).2 != 0) with
   | true=>exact doom_go ht r m out (i+1) c hd' hm hr
   | false =>
    have hs:x.state=1:=by simp at h1;exact h1.1
    obtain ⟨e1,e2,e3⟩:=end_told h2 hs;obtain ⟨y,hy,r1⟩:=hr.2 i x hx;rw [cond_false,cond_false,put_ok hm hy e3 (e1.trans r1.1.symm)];refine doom_go ht r _ _ (i+1) _ hd' (table_set hm hy (e1.trans r1.1.symm) e3) (hr.set fun z hz=>?_);rw [hx] at hz;cases hz;exact ⟨e1,.inr ⟨hs,e2⟩⟩
theorem doom_row {l:List Job} (ht:Qi0 l=0):Qi0 (QU0 l).1=0∧Row2 EndR l (QU0 l).1:=by
 unfold QU0 QP4 Qm3;rw [ht];exact doom_go ht l l [] 0 _ rfl ht (Row2.refl (fun x=>⟨rfl,.inl rfl⟩) l)
theorem QFd (p:List Step) (f latest g:Int) (o:List Alt):∀ (r:List Alt) (c t:Int) (b:Bool) (i:Nat),(b=true->t<=latest)->(QR2 p f latest g o r c t b i).2.2=true->(QR2 p f latest g o r c t b i).2.1<=latest
 | [],c,t,b,i,h=>h
 | x :: r,c,t,b,i,h=>by
  rw [QR2];cases (!(Q4a x.wall x.nodes))||(decide ((max g 0) > (w64 (1000000 - x.wall)))) with
  | true=>exact QFd p f latest g o r c t b (i+1) h
  | false =>
   rw [cond_false];cases h2:((!((QH2 p f (w64 (x.wall+(max g 0))) x.nodes).2&&(decide ((QH2 p f (w64 (x.wall+(max g 0))) x.nodes).1<=latest))))||(b&&(decide ((w64 ((QH2 p f (w64 (x.wall+(max g 0))) x.nodes).1+x.wall)) >= (w64 (t+(o.getD (c.toNat) zA).wall)))))) with
   | true=>exact QFd p f latest g o r c t b (i+1) h
   | false =>
    simp only [yRa,y2a,yha,yua] at h2;exact QFd p f latest g o r _ _ true (i+1) (fun _=>h2.1.2)
theorem best_le {p:List Step} {o:List Alt} {f latest g:Int} (h:(QB2 p o f latest g).2.2=true):(QB2 p o f latest g).2.1<=latest:=by
 unfold QB2 QM8 QQ4 at h ⊢;revert h;cases (decide ((o.length:Int) > 48)) with
 | true=>exact QFd p f latest g _ _ 0 0 false 0 (fun h=>nomatch h)
 | false=>exact QFd p f latest g _ _ 0 0 false 0 (fun h=>nomatch h)
theorem sqz_go (s:State) (M:List (Int × Int)) (l:List Job):∀ (r:List Int) (left:List Step) (ids:List Int) (i:Nat) (c:List Job),Row2 SqzR l c->Row2 SqzR l (Qt0 s M r left ids i c).2.2
 | [],_,_,_,_,h=>h
 | _ :: r,left,ids,i,c,h=>by
  rw [Qt0];generalize ((getM ((Q20 s).getD i 0) M).getD 0).toNat=p;generalize QW0 (c.getD p zG)=cl;dsimp only;generalize Qz2 left cl.1 (w64 (cl.1+cl.2.1)) cl.2.2.1=own;cases (own.2 != 0) with
  | true=>exact sqz_go s M l r left ids (i+1) c h
  | false =>
   rw [cond_false];generalize hb:QB2 own.1 (Qe0 ((c.getD p zG).shape)) s.now ((c.getD p zG).promise) 12=b;cases h1:((!b.2.2)||((b.1==(c.getD p zG).choice)&&(b.2.1==(c.getD p zG).promise))) with
   | true=>exact sqz_go s M l r left ids (i+1) c h
   | false =>
    rw [cond_false];cases h2:((Q81 (c.getD p zG) b.2.1 b.1).2 != 0) with
    | true=>exact sqz_go s M l r left ids (i+1) c h
    | false =>
     rw [cond_false];obtain ⟨e1,e2,e3,e4⟩:=QWc h2;simp only [yRa,y2a] at h1;have hl:b.2.1<=(c.getD p zG).promise:=by rw [← hb];exact best_le (by rw [hb];exact h1.1)
     rw [yka];split
     ·refine sqz_go s M l r _ _ (i+1) _ (h.set fun x hx=>?_);obtain ⟨_,g1,g2,g3,_,_⟩:=h.get hx;rw [e1];exact ⟨g1,g2,fun h0=>⟨e2,Int.le_trans hl (g3 h0).2⟩,fun _=>e3,fun hx=>absurd (g2.symm.trans e4) hx⟩
     ·exact sqz_go s M l r _ _ (i+1) c h
theorem sqz_row (s:State):Row2 SqzR s.jobs (QK0 s).1:=by
 have hr:=Row2.refl (R:=SqzR) (fun x=>⟨rfl,rfl,fun h=>⟨h,yxb _⟩,id,fun _=>rfl⟩) s.jobs;unfold QK0 QO2 QC1;cases ((Q12 s)!=0) with
 | true=>exact hr
 | false=>exact sqz_go s _ s.jobs _ _ _ _ _ hr
theorem frs_go {s:State} (ht:Qi0 s.jobs=0):∀ (r:List Job) (st:List Step × List Job × List Int),(∀ j ∈ r,j ∈ s.jobs∧j.promise = -1)->Row2 FrsR s.jobs st.2.1->Row2 FrsR s.jobs (r.foldl (QU4 s) st).2.1
 | [],st,_,h=>h
 | j :: r,st,hr,h=>by
  rw [yBb];refine frs_go ht r _ (fun z hz=>hr z (ywa _ hz)) ?_;obtain ⟨hj,hp⟩:=hr j (yIa ..);unfold QU4;cases (QB2 st.1 (Qe0 j.shape) s.now 1000000 12).2.2 with
  | false=>exact h
  | true =>
   rw [cond_true];generalize (QB2 st.1 (Qe0 j.shape) s.now 1000000 12).1=b;generalize (QB2 st.1 (Qe0 j.shape) s.now 1000000 12).2.1=t;unfold QD2;dsimp only;cases h2:((Q81 j t b).2 != 0) with
   | true=>exact h
   | false =>
    obtain ⟨e1,_,e3,e4⟩:=QWc h2;obtain ⟨k,hk⟩:=yNb hj;obtain ⟨y,hy,r1⟩:=h.2 k j hk;have key:∀ (L:List Step),Row2 FrsR s.jobs (Qu2 j st.2.1 st.2.2 (Q81 j t b) L).2.1:=by
     intro L;obtain ⟨k',x',q1,q2,q3⟩:=g2_found j st.2.1 st.2.2 (Q81 j t b) L st.2.1 0 rfl ⟨y,yza hy,r1.1⟩;rw [Qu2,q1];refine h.set fun x hx=>?_
     obtain ⟨z,hz,r2⟩:=h.2 k' x hx;rw [q2] at hz;cases hz;have:x=j:=table_same ht hx hk (r2.1.symm.trans q3);subst this;rw [e1];exact ⟨rfl,rfl,.inr hp,fun _=>e3,fun hx=>absurd e4 hx⟩
    rw [cond_false];rw [yka];split
    ·exact key _
    ·exact key _
theorem frs_row (s:State):Row2 FrsR s.jobs (QR1 s).1:=by
 have hr:=Row2.refl (R:=FrsR) (fun x=>⟨rfl,rfl,.inl rfl,id,fun _=>rfl⟩) s.jobs;unfold QR1;cases h:((Q12 s)!=0) with
 | true=>exact hr
 | false=>exact frs_go (QY6 (by simpa using h)).2 _ _ (fun j hj=>⟨open_in hj,by simpa using (List.mem_filter.1 hj).2⟩) hr
theorem drop_go (l:List Job):∀ (r:List Job) (i:Nat) (c:List Job),Row2 PlnR l c->Row2 PlnR l (Qk2 r i c)
 | [],_,_,h=>h
 | _ :: r,i,c,h=>by
  rw [Qk2];dsimp only;cases h1:((Q44 (c.getD i zG)).2==0) with
  | false=>exact drop_go l r (i+1) c h
  | true =>
   obtain ⟨e1,e2,e3,e4⟩:=dropd_told h1;refine drop_go l r (i+1) _ (h.set fun x hx=>?_);obtain ⟨_,g1,g2,_,_⟩:=h.get hx;exact ⟨e1.trans g1,e2.trans g2,fun _=>e3,fun hx=>absurd (g2.symm.trans e4) hx⟩
theorem anew_row (s:State):Row2 PlnR s.jobs (QW2 s).1:=by
 have hr:=Row2.refl (R:=PlnR) (fun x=>⟨rfl,rfl,id,fun _=>rfl⟩) s.jobs;unfold QW2;cases h:((Q12 s)!=0) with
 | true=>exact hr
 | false=>exact Row2.trans (fun x y z a b=>⟨b.1.trans a.1,b.2.1.trans a.2.1,fun h=>b.2.2.2.1 (a.2.2.1 h),fun h=>(b.2.2.2.2 (by rw [a.2.1];exact h)).trans (a.2.2.2 h)⟩) (drop_go s.jobs s.jobs 0 s.jobs hr) (frs_row { s with jobs:=Qk2 s.jobs 0 s.jobs })
theorem Q2c:∀ (r m:List Job) (out:List Int) (i:Nat) (c:List (Int × Int)),(m.length<=4294967296 ∧ ∀ y ∈ m,y.sz)->(∀ x ∈ r,x.sz) ->
  ((QL1 r m out i c).1.length<=4294967296 ∧ ∀ y ∈ (QL1 r m out i c).1,y.sz)∧(QL1 r m out i c).2.1.length<=out.length+r.length
 | [],m,out,i,c,hm,_=>⟨hm,yia _⟩
 | x :: r,m,out,i,c,hm,hr=>by
  have hr':=fun y hy=>hr y (ywa _ hy)
  rw [QL1,yLa];have a:=Q2c r m out (i+1) c hm hr';rw [yka];split
  ·exact ⟨a.1,by omega⟩
  ·rw [yka];split
   ·exact ⟨a.1,by omega⟩
   ·have b:=Q2c r _ (out++[x.id]) (i+1) (setM x.id ((QI2 x 6).1.state) c) (Q72 hm (Qd6 (hr x (yIa ..)) 6)) hr';rw [yma,ynb] at b;exact ⟨b.1,by omega⟩
theorem doom_sz {l:List Job} (h:l.length<=4294967296 ∧ ∀ y ∈ l,y.sz):((QU0 l).1.length<=4294967296 ∧ ∀ y ∈ (QU0 l).1,y.sz)∧(QU0 l).2.length<=4294967296:=by
 unfold QU0 QP4 Qm3;rw [yka];split
 ·exact ⟨⟨yna _,fun y hy=>nomatch hy⟩,yna _⟩
 ·have a:=Q2c l l [] 0 (QM7 l 0 []) h h.2;exact ⟨a.1,yea a.2 (by rw [y0a,yda];exact h.1)⟩
theorem QW9 {s:State} (h:s.sz):({ s with jobs:=(QW2 s).1 }:State).sz∧(QW2 s).1.length=s.jobs.length :=
 ⟨⟨h.1,(QTc h).1,(QTc h).2,h.2.2.2⟩,(anew_row s).1⟩
theorem Qb6 {s:State} (h:s.sz):({ s with jobs:=(QR1 { s with jobs:=(QK0 s).1 }).1 }:State).sz∧({ s with jobs:=(QK0 s).1 }:State).sz∧(QR1 { s with jobs:=(QK0 s).1 }).1.length=s.jobs.length:=by
 have a:({ s with jobs:=(QK0 s).1 }:State).sz:=⟨h.1,(QZ7 h).1.1,(QZ7 h).1.2,h.2.2.2⟩;have b:=Qc7 a;have e:(QR1 { s with jobs:=(QK0 s).1 }).1.length=s.jobs.length:=b.1.trans (sqz_row s).1;exact ⟨⟨h.1,by rw [e];exact h.2.1,b.2.1,h.2.2.2⟩,a,e⟩
set_option maxRecDepth 20000
set_option maxHeartbeats 4000000
attribute [local irreducible] ACalls AMoves
def Qk1 (w:Work) (c:Work):List Job->Nat->List Out->(List Out)
 | [],_,c2=>c2
 | x_ :: r,i,c2=>bif ((x_.state==1)&&((x_.promise != (w.state.jobs.getD i zG).promise)||(x_.choice != (w.state.jobs.getD i zG).choice))) then Qk1 w c r (i+1) (c2++([(⟨3,⟨#[]⟩,zL,x_.id,x_.promise,(QF0 (QY0 w.state.jobs c.state.jobs) x_.id)⟩:Out)]:List Out)) else Qk1 w c r (i+1) c2
def QD1 (c:Work) (c2:List Out):Work:=(⟨c.state,c2⟩:Work)
def Qw1 (w:Work) (c:Work):Work:=QD1 c (Qk1 w c c.state.jobs 0 c.told)
def Q30 (w:Work) (anew:Bool):Work:=bif anew then Qw1 w (⟨{ w.state with jobs:=(QW2 w.state).1 },w.told⟩:Work) else Qw1 w (⟨{ w.state with jobs:=(QR1 { w.state with jobs:=(QK0 w.state).1 }).1 },w.told⟩:Work)
theorem QL4 {P:Prop} (h:P:=by first|((exact hk0.1))|first|((exact (Qb6 hk0.1).2.1))|first|((exact hx.1))|first|((exact ⟨hk0.1.2.1,hk0.1.2.2.1⟩))|first|((exact ⟨hx.1.2.1,hx.1.2.2.1⟩))|first|((have hq:=Qtc (a:=w.state.jobs) c.state.jobs hk0.1.2.1;omega))|exact szA):P:=h
theorem QD6 {P:Prop} (h:P:=by first|((exact ⟨(QW9 hk0.1).1,hk0.2.1,(QW9 hk0.1).2⟩))|first|((exact ⟨(Qb6 hk0.1).1,hk0.2.1,(Qb6 hk0.1).2.2⟩))|first|((exact ⟨by omega,by omega⟩))|first|((exact ⟨by simp;omega,by simp;omega⟩))|exact exA):P:=h
theorem Qba (w:Work) (anew:Bool) (hs0:w.sz):AMoves Tryz.prog 65 [AVal.ptr 0 0 9 0 0,Bo anew] [(0,AObj.row 111 9 [[I w.state.now,nodeL w.state.nodes,jobL w.state.jobs,Qh1 w.state.resizes,bookL w.state.books,Qt1 w.state.ledger,I w.state.nextJob,I w.state.nextBook,AVal.own 1 0 9 0 w.told.length]]),(0,AObj.row 71 9 (w.told.map Out.cells))] 1 (AVal.tup []) [(0,AObj.row 111 9 [[I ((Q30 w anew).state.now),nodeL ((Q30 w anew).state.nodes),jobL ((Q30 w anew).state.jobs),Qh1 ((Q30 w anew).state.resizes),bookL ((Q30 w anew).state.books),Qt1 ((Q30 w anew).state.ledger),I ((Q30 w anew).state.nextJob),I ((Q30 w anew).state.nextBook),AVal.own 1 0 9 0 ((Q30 w anew).told).length]]),(0,AObj.row 71 9 ((Q30 w anew).told.map Out.cells))]:=by
 generalize hR:Q30 w anew=R;refine mo (kj [1000005] 8 [13,61,62,63,64,90]) Tryz.func65 ?_;have hk0:=hs0;obtain ⟨⟨z12,z13,z14,z15,z16,z17,z18⟩,z19,z20⟩:(w.state.nodes.length<=4294967296∧w.state.jobs.length<=4294967296∧(∀ y ∈ w.state.jobs,y.sz)∧w.state.resizes.length<=4294967296∧w.state.books.length<=4294967296∧w.state.ledger.length<=4294967296∧(∀ y ∈ w.state.ledger,y.sz))∧w.told.length<=4294967296∧(∀ y ∈ w.told,y.sz):=hs0;refine Qu1 (fun (c:Work)=>Qw1 w c=R∧(c.state.sz∧c.told.length<=4294967296∧c.state.jobs.length=w.state.jobs.length)) (fun c=>[(0,AVal.ptr 0 0 9 0 0),(4,jobL w.state.jobs)]) (fun c=>[(0,AObj.row 111 9 [[I c.state.now,nodeL c.state.nodes,jobL c.state.jobs,Qh1 c.state.resizes,bookL c.state.books,Qt1 c.state.ledger,I c.state.nextJob,I c.state.nextBook,AVal.own 1 0 9 0 c.told.length]]),(0,AObj.row 71 9 (c.told.map Out.cells))]) ?_ ?_
 ·clear hR;rintro c ⟨hR,hx⟩;(try dsimp only at hR hx);refine us (QKe w.state.jobs c.state.jobs QL4 QL4 _) ?_;refine Qu0 (fun (i:Nat) (c2:List Out)=>QD1 c (Qk1 w c (List.drop i c.state.jobs) i c2)=R∧i<=c.state.jobs.length∧(c2.length<=c.told.length+i)∧c2.length<=c.told.length+i) (fun i c2=>c.state.jobs.length - i) (fun i c2=>[(0,AVal.ptr 0 0 9 0 0),(4,jobL w.state.jobs),(5,ints (QY0 w.state.jobs c.state.jobs)),(61,jobL c.state.jobs),(62,I (c.state.jobs.length:Int)),(63,I (i:Int))]) (fun i c2=>[(0,AObj.row 111 9 [[I c.state.now,nodeL c.state.nodes,jobL c.state.jobs,Qh1 c.state.resizes,bookL c.state.books,Qt1 c.state.ledger,I c.state.nextJob,I c.state.nextBook,AVal.own 1 0 9 0 c2.length]]),(0,AObj.row 71 9 (c2.map Out.cells))]) 0 c.told (wk [0,1] (tO rfl (QE1 (c1 (cv (Qg3 lw) (cv (Qg3 lw) (cv (Qg3 lw) (cv (Qg3 lw) (cv (Qg3 lw) (c1 (c1 (cv (to 1 lnA) .nil)))))))))) (tO rfl (tl eqA) .nil)) (sv (Qy0 0 rfl rfl) (sl lw (sl lw (sl lw (s1 (s1 .nil))))))) ⟨foll hR rfl,by exact omA,QD6⟩ ?_;clear hR;rintro i c2 ⟨hR,hj,hx⟩;(try dsimp only at hR hj hx);apply ai<;>intro h1
  ·have hlt:=ltA h1;rw [Qd0 zG hlt] at hR;have hyz:=(‹c.state.sz∧c.told.length<=4294967296∧c.state.jobs.length=w.state.jobs.length›).1.2.2.1;have hxz:(c.state.jobs.getD i zG).sz:=QB1 (by first|assumption|grind) (Job.szz _);have hkz:=hxz;obtain ⟨z3,z4,z5,z6,z7⟩:=Job.zz hxz;refine And.intro (by first|exact fun hg=>yoa (by first|((have hl:=(‹c.state.sz∧c.told.length<=4294967296∧c.state.jobs.length=w.state.jobs.length›).2.2;omega))|exact ckA)|exact gkA) ?_;refine dchk (by kernel_rfl) ?_;refine And.intro (by first|exact fun hg=>yoa (by first|((have hl:=(‹c.state.sz∧c.told.length<=4294967296∧c.state.jobs.length=w.state.jobs.length›).2.2;omega))|exact ckA)|exact gkA) ?_;refine And.intro (by first|exact fun hg=>yoa (by first|((have hl:=(‹c.state.sz∧c.told.length<=4294967296∧c.state.jobs.length=w.state.jobs.length›).2.2;omega))|exact ckA)|exact gkA) ?_;(repeat ((first|refine ai rfl ?_|refine ai (fun _=>rfl) ?_)));apply ai<;>intro h8
   ·refine dchk (by kernel_rfl) ?_;(first|apply u2|apply u3|apply u4|apply us);exact Qz1 (QY0 w.state.jobs c.state.jobs) ((c.state.jobs.getD i zG).id) QL4 _;(first|refine ⟨Qd1 80 rfl lnA apA,?_⟩|refine ⟨QB0 80 rfl apA,?_⟩);(repeat ((first|refine ai rfl ?_|refine ai (fun _=>rfl) ?_|refine ai (fun _=>Qz1 (QY0 w.state.jobs c.state.jobs) ((c.state.jobs.getD i zG).id) QL4 _) ?_)));exact Qc0 (i+1) (c2++([(⟨3,⟨#[]⟩,zL,(c.state.jobs.getD i zG).id,(c.state.jobs.getD i zG).promise,(QF0 (QY0 w.state.jobs c.state.jobs) (c.state.jobs.getD i zG).id)⟩:Out)]:List Out)) (wk [0,1] (tO rfl (QE1 (c1 (cv (Qg3 lw) (cv (Qg3 lw) (cv (Qg3 lw) (cv (Qg3 lw) (cv (Qg3 lw) (c1 (c1 (cv (to 1 lnA) .nil)))))))))) (tO rfl (tl eqA) .nil)) (sv (Qy0 0 rfl rfl) (sl lw (sl lw (sl lw (s1 (sv (turn_eq (I_eq (wr omA)) lx) .nil))))))) omA ⟨foll hR (congrArg (fun p:(List Out)=>QD1 c p) (ct h8 rfl)),by exact omA,QD6⟩
   ·exact Qc0 (i+1) c2 (wk [0,1] (tO rfl (QE1 (c1 (cv (Qg3 lw) (cv (Qg3 lw) (cv (Qg3 lw) (cv (Qg3 lw) (cv (Qg3 lw) (c1 (c1 (cv (to 1 lnA) .nil)))))))))) (tO rfl (tl eqA) .nil)) (sv (Qy0 0 rfl rfl) (sl lw (sl lw (sl lw (s1 (sv (turn_eq (I_eq (wr omA)) lx) .nil))))))) omA ⟨foll hR (congrArg (fun p:(List Out)=>QD1 c p) (cf h8 rfl)),by exact omA,QD6⟩
  ·rw [Qh0 (l:=c.state.jobs) (j:=i) (geA h1)] at hR;replace hR:QD1 c c2=R:=fo2 (fun p:(List Out)=>QD1 c p) (c2) hR rfl;obtain rfl:=foll hR rfl;exact rq (tt [0,1] (tO rfl (QE1 (c1 (cv (Qg3 lw) (cv (Qg3 lw) (cv (Qg3 lw) (cv (Qg3 lw) (cv (Qg3 lw) (c1 (c1 (cv (to 1 lnA) .nil)))))))))) (tO rfl (tl eqA) .nil)) t1)
 ·apply ai<;>intro h10
  ·refine us (plan_Anew_c w.state QL4 _) ?_;exact Qj0 (⟨{ w.state with jobs:=(QW2 w.state).1 },w.told⟩:Work) (wk [0,1] (tO rfl (QE1 (c1 (cv (Qg3 lw) (cv (Qg3 lw) (cv (Qg3 lw) (cv (Qg3 lw) (cv (Qg3 lw) (c1 (c1 (cv (to 1 lnA) .nil)))))))))) (tO rfl (tl eqA) .nil)) (sv (Qy0 0 rfl rfl) (sl lw .nil))) (⟨foll hR (ct h10 rfl),QD6⟩)
  ·refine us (Quc w.state QL4 _) ?_;refine us (QUc { w.state with jobs:=(QK0 w.state).1 } QL4 _) ?_;exact Qj0 (⟨{ w.state with jobs:=(QR1 { w.state with jobs:=(QK0 w.state).1 }).1 },w.told⟩:Work) (wk [0,1] (tO rfl (QE1 (c1 (cv (Qg3 lw) (cv (Qg3 lw) (cv (Qg3 lw) (cv (Qg3 lw) (cv (Qg3 lw) (c1 (c1 (cv (to 1 lnA) .nil)))))))))) (tO rfl (tl eqA) .nil)) (sv (Qy0 0 rfl rfl) (sl lw .nil))) (⟨foll hR (cf h10 rfl),QD6⟩)
def QT1 (id_:Int):Nat->Int->Nat->List Resize->Int × Nat × (List Resize)
 | 0,_,_,_=>(0,0,[])
 | m+1,i1,j,c=>bif (decide ((j:Int)<(c.length:Int))) then bif (!((c.getD j zH).job==id_)) then QT1 id_ m (w64 (i1+1)) (j+1) (c.set (i1.toNat) (c.getD j zH)) else QT1 id_ m i1 (j+1) c else (i1,j,c)
def Q21 (w:Work) (id_:Int) (why:Int) (tp:(List Job) × Int):List Resize->Nat->Int × Work
 | [],_=>(fun ea2:(List Node) × (List Note) × Int=>bif (ea2.2.2==0) then (ea2.2.2,(⟨{ w.state with nodes:=ea2.1,jobs:=tp.1 },((w.told++([(⟨5,⟨#[]⟩,zL,id_,why,false⟩:Out)]:List Out))++(Q11 ea2.2.1))⟩:Work)) else (ea2.2.2,(⟨{ w.state with jobs:=tp.1 },(w.told++([(⟨5,⟨#[]⟩,zL,id_,why,false⟩:Out)]:List Out))⟩:Work))) (Qp0 w.state.nodes (wu64 (BitVec.ofInt 64 (Qp1 w.state.nodes id_ 1) ||| BitVec.ofInt 64 (Qp1 w.state.nodes id_ 2)).toNat) 7 0 w.state.now)
 | _ :: r,i=>bif ((w.state.resizes.getD i zH).job==id_) then bif ((i:Int)==(-1)) then (fun ea:(List Node) × (List Note) × Int=>bif (ea.2.2==0) then (ea.2.2,(⟨{ w.state with nodes:=ea.1,jobs:=tp.1 },((w.told++([(⟨5,⟨#[]⟩,zL,id_,why,false⟩:Out)]:List Out))++(Q11 ea.2.1))⟩:Work)) else (ea.2.2,(⟨{ w.state with jobs:=tp.1 },(w.told++([(⟨5,⟨#[]⟩,zL,id_,why,false⟩:Out)]:List Out))⟩:Work))) (Qp0 w.state.nodes (wu64 (BitVec.ofInt 64 (Qp1 w.state.nodes id_ 1) ||| BitVec.ofInt 64 (Qp1 w.state.nodes id_ 2)).toNat) 7 0 w.state.now) else (fun p1:Int × Nat × (List Resize)=>(fun ea1:(List Node) × (List Note) × Int=>bif (ea1.2.2==0) then (ea1.2.2,(⟨{ w.state with nodes:=ea1.1,jobs:=tp.1,resizes:=(List.take (p1.1.toNat) p1.2.2) },((w.told++([(⟨5,⟨#[]⟩,zL,id_,why,false⟩:Out)]:List Out))++(Q11 ea1.2.1))⟩:Work)) else (ea1.2.2,(⟨{ w.state with jobs:=tp.1,resizes:=(List.take (p1.1.toNat) p1.2.2) },(w.told++([(⟨5,⟨#[]⟩,zL,id_,why,false⟩:Out)]:List Out))⟩:Work))) (Qp0 w.state.nodes (wu64 (BitVec.ofInt 64 (Qp1 w.state.nodes id_ 1) ||| BitVec.ofInt 64 (Qp1 w.state.nodes id_ 2)).toNat) 7 0 w.state.now)) (QT1 id_ ((((w.state.resizes.length:Int) - ((i+1):Int)).toNat)+1) (i:Int) (i+1) w.state.resizes) else Q21 w id_ why tp r (i+1)
def Qc3 (w:Work) (id_:Int) (why:Int) (tp:(List Job) × Int):Int × Work:=Q21 w id_ why tp w.state.resizes 0
def Qb0 (w:Work) (id_:Int) (why:Int):Int × Work:=(fun tf:Job × Bool=>bif (!tf.2) then (140,w) else (fun je:Job × Int=>bif (je.2 != 0) then (je.2,w) else (fun tp:(List Job) × Int=>bif (tf.1.state != 2) then (0,(⟨{ w.state with jobs:=tp.1 },(w.told++([(⟨5,⟨#[]⟩,zL,id_,why,false⟩:Out)]:List Out))⟩:Work)) else Qc3 w id_ why tp ) (Qb1 w.state.jobs je.1)) (QI2 tf.1 why)) (Q70 w.state.jobs id_)
theorem Q01 {P:Prop} (h:P:=by first|((exact ⟨hk0.1.2.1,hk0.1.2.2.1⟩))|first|((exact qtf))|first|((exact qje))|first|((exact hk0.1.1))|first|((exact yea qea.2 (by decide)))|exact szA):P:=h
theorem QL7 (w:Work) (id_:Int) (why:Int) (hs0:w.sz):AMoves Tryz.prog 57 [AVal.ptr 0 0 9 0 0,I id_,I why] [(0,AObj.row 111 9 [[I w.state.now,nodeL w.state.nodes,jobL w.state.jobs,AVal.own 1 0 5 0 w.state.resizes.length,bookL w.state.books,Qt1 w.state.ledger,I w.state.nextJob,I w.state.nextBook,AVal.own 2 0 9 0 w.told.length]]),(0,AObj.row 89 5 (w.state.resizes.map Resize.cells)),(0,AObj.row 71 9 (w.told.map Out.cells))] 1 (I ((Qb0 w id_ why).1)) [(0,AObj.row 111 9 [[I ((Qb0 w id_ why).2.state.now),nodeL ((Qb0 w id_ why).2.state.nodes),jobL ((Qb0 w id_ why).2.state.jobs),AVal.own 1 0 5 0 (((Qb0 w id_ why).2).state.resizes).length,bookL ((Qb0 w id_ why).2.state.books),Qt1 ((Qb0 w id_ why).2.state.ledger),I ((Qb0 w id_ why).2.state.nextJob),I ((Qb0 w id_ why).2.state.nextBook),AVal.own 2 0 9 0 (((Qb0 w id_ why).2).told).length]]),(0,AObj.row 89 5 (((Qb0 w id_ why).2).state.resizes.map Resize.cells)),(0,AObj.row 71 9 (((Qb0 w id_ why).2).told.map Out.cells))]:=by
 generalize hR:Qb0 w id_ why=R;refine mo (kj [1000011] 14 [25,33,44,88]) Tryz.func57 ?_;have hk0:=hs0;obtain ⟨⟨z25,z26,z27,z28,z29,z30,z31⟩,z32,z33⟩:(w.state.nodes.length<=4294967296∧w.state.jobs.length<=4294967296∧(∀ y ∈ w.state.jobs,y.sz)∧w.state.resizes.length<=4294967296∧w.state.books.length<=4294967296∧w.state.ledger.length<=4294967296∧(∀ y ∈ w.state.ledger,y.sz))∧w.told.length<=4294967296∧(∀ y ∈ w.told,y.sz):=hs0;refine dchk (by kernel_rfl) ?_;(first|apply u2|apply u3|apply u4|apply us);exact QW1 w.state.jobs id_ Q01 _;generalize hvtf:Q70 w.state.jobs id_=tf;(have qtf:tf.1.sz:=by rw [← hvtf];exact QG2 hk0.1.2.2.1 _);(repeat ((first|refine ai rfl ?_|refine ai (fun _=>rfl) ?_|refine ai (fun _=>by subst hvtf;exact QW1 w.state.jobs id_ Q01 _) ?_)));apply ai<;>intro h1
 ·obtain rfl:=foll hR ((by subst hvtf;exact ct h1 rfl));subst_vars;exact rq (tt [0,1,2] (tO rfl (QE1 (c1 (cv (Qg3 lw) (cv (Qg3 lw) (cv (to 1 lnA) (cv (Qg3 lw) (cv (Qg3 lw) (c1 (c1 (cv (to 2 lnA) .nil)))))))))) (tO rfl (tl eqA) (tO rfl (tl eqA) .nil))) t1)
 ·refine us (job_End_c tf.1 why Q01 _) ?_;generalize hvje:QI2 tf.1 why=je;(have qje:je.1.sz:=by rw [← hvje];exact Qd6 qtf _);apply ai<;>intro h3
  ·obtain rfl:=foll hR ((by subst hvtf;exact cf h1 (by subst hvje;exact ct h3 rfl)));subst_vars;exact rq (tt [0,1,2] (tO rfl (QE1 (c1 (cv (Qg3 lw) (cv (Qg3 lw) (cv (to 1 lnA) (cv (Qg3 lw) (cv (Qg3 lw) (c1 (c1 (cv (to 2 lnA) .nil)))))))))) (tO rfl (tl eqA) (tO rfl (tl eqA) .nil))) t1)
  ·refine ACalls.of_cwp (fun _=>true) Tryz.func93 rfl rfl ?_;refine dchk (by kernel_rfl) ?_;(first|apply u2|apply u3|apply u4|apply us);exact QX1 w.state.jobs je.1 Q01 Q01 _;generalize hvtp:Qb1 w.state.jobs je.1=tp;(have qtp:tp.1.length<=4294967296 ∧ ∀ y ∈ tp.1,y.sz:=by rw [← hvtp];exact Q72 ⟨hk0.1.2.1,hk0.1.2.2.1⟩ qje);(repeat ((first|refine ai rfl ?_|refine ai (fun _=>rfl) ?_|refine ai (fun _=>by subst hvtp;exact QX1 w.state.jobs je.1 Q01 Q01 _) ?_)));apply ai<;>intro h5
   ·refine ⟨_,_,Told.refl,?_⟩;refine ACalls.of_cwp (fun _=>true) Tryz.func64 rfl rfl ?_;refine Or.inl ?_;(first|refine ⟨Qd1 80 rfl lnA apA,?_⟩|refine ⟨QB0 80 rfl apA,?_⟩);refine ⟨_,_,Told.refl,?_⟩;refine join_start (X:=Unit) (fun _=>Qc3 w id_ why tp  = R) (fun _=>[(0,AVal.ptr 0 0 9 0 0),(4,AVal.ptr 3 0 1 0 0),(6,I 0),(10,I je.2)]) (fun _=>[(0,AObj.row 111 9 [[I w.state.now,nodeL w.state.nodes,jobL tp.1,AVal.own 1 0 5 0 w.state.resizes.length,bookL w.state.books,Qt1 w.state.ledger,I w.state.nextJob,I w.state.nextBook,AVal.own 2 0 9 0 ((w.told++([(⟨5,⟨#[]⟩,zL,id_,why,false⟩:Out)]:List Out)).length)]]),(0,AObj.row 89 5 (w.state.resizes.map Resize.cells)),(0,AObj.row 71 9 ((w.told++([(⟨5,⟨#[]⟩,zL,id_,why,false⟩:Out)]:List Out)).map Out.cells)),(0,AObj.row 3 1 [[I id_]])]) ?_ ?_
    ·clear hR;rintro _ hR;(try dsimp only at hR);refine ACalls.of_cwp (fun _=>true) Tryz.func94 rfl rfl ?_;refine ACalls.of_cwp (fun _=>true) Tryz.func149 rfl rfl ?_;refine Qk0 (fun (i:Nat)=>Q21 w id_ why tp (List.drop i w.state.resizes) i=R∧i<=w.state.resizes.length) (fun i=>w.state.resizes.length - i) (fun i=>[(0,AVal.own 1 0 5 0 w.state.resizes.length),(1,AVal.fn (.func 95) [] [AVal.ptr 3 0 1 0 0]),(4,I 0),(7,I (w.state.resizes.length:Int)),(8,I (i:Int))]) (fun i=>[(0,AObj.row 111 9 [[I w.state.now,nodeL w.state.nodes,jobL tp.1,AVal.own 1 0 5 0 w.state.resizes.length,bookL w.state.books,Qt1 w.state.ledger,I w.state.nextJob,I w.state.nextBook,AVal.own 2 0 9 0 ((w.told++([(⟨5,⟨#[]⟩,zL,id_,why,false⟩:Out)]:List Out)).length)]]),(0,AObj.row 89 5 (w.state.resizes.map Resize.cells)),(0,AObj.row 71 9 ((w.told++([(⟨5,⟨#[]⟩,zL,id_,why,false⟩:Out)]:List Out)).map Out.cells)),(0,AObj.row 3 1 [[I id_]])]) 0 (wk [0,1,2,3] (tO rfl (QE1 (c1 (cv (Qg3 lw) (cv (Qg3 lw) (cv (to 1 lnA) (cv (Qg3 lw) (cv (Qg3 lw) (c1 (c1 (cv (to 2 lnA) .nil)))))))))) (tO rfl (tl eqA) (tO rfl (tl eqA) (tO rfl (ts (l1 LowL.nil)) .nil)))) (sv (to 1 lnA) (sv (QB4 .nil (cv (Qy0 3 rfl rfl) .nil)) (s1 (s1 (s1 .nil)))))) ⟨foll hR rfl,by exact omA⟩ ?_;clear hR;rintro i ⟨hR,hj⟩;(try dsimp only at hR hj);apply ai<;>intro h7
     ·have hlt:=ltA h7;rw [Qd0 zH hlt] at hR;refine ai gkA ?_;refine ⟨_,Qf0 rfl rfl rfl (Qo0 zH i (by first|rfl|exact yda _|omega) ckA) rfl,?_⟩;refine ACalls.of_cwp (fun _=>true) Tryz.func95 rfl rfl ?_;refine ⟨_,_,Told.refl,?_⟩;apply ai<;>intro h9
      ·refine ⟨_,_,Told.refl,?_⟩;apply ai<;>intro h11
       ·refine ⟨_,_,Told.refl,?_⟩;refine dchk (by kernel_rfl) ?_;(first|apply u2|apply u3|apply u4|apply us);exact Qy2 w.state.nodes id_ 1 Q01 _;(first|apply u2|apply u3|apply u4|apply us);exact Qy2 w.state.nodes id_ 2 Q01 _;(repeat ((first|refine ai rfl ?_|refine ai (fun _=>rfl) ?_|refine ai (fun _=>Qy2 w.state.nodes id_ 1 Q01 _) ?_|refine ai (fun _=>Qy2 w.state.nodes id_ 2 Q01 _) ?_)));(try (refine dchk (by kernel_rfl) ?_));(first|apply u2|apply u3|apply u4|apply us);exact Qj1 w.state.nodes (wu64 (BitVec.ofInt 64 (Qp1 w.state.nodes id_ 1) ||| BitVec.ofInt 64 (Qp1 w.state.nodes id_ 2)).toNat) 7 0 w.state.now Q01 _;generalize hvea:Qp0 w.state.nodes (wu64 (BitVec.ofInt 64 (Qp1 w.state.nodes id_ 1) ||| BitVec.ofInt 64 (Qp1 w.state.nodes id_ 2)).toNat) 7 0 w.state.now=ea;(have qea:ea.1.length<=4294967296∧ea.2.1.length<=64:=by rw [← hvea];exact ⟨yea (QM1 _ _ _ _ _).1 hk0.1.1,(QM1 _ _ _ _ _).2⟩);(repeat ((first|refine ai rfl ?_|refine ai (fun _=>rfl) ?_|refine ai (fun _=>by subst hvea;exact Qj1 w.state.nodes (wu64 (BitVec.ofInt 64 (Qp1 w.state.nodes id_ 1) ||| BitVec.ofInt 64 (Qp1 w.state.nodes id_ 2)).toNat) 7 0 w.state.now Q01 _) ?_)));apply ai<;>intro h13
        ·refine dchk (by kernel_rfl) ?_;(first|apply u2|apply u3|apply u4|apply us);exact QK1 ea.2.1 Q01 _;(first|refine ⟨Qd1 80 rfl lnA apA,?_⟩|refine ⟨QB0 80 rfl apA,?_⟩);(repeat ((first|refine ai rfl ?_|refine ai (fun _=>rfl) ?_|refine ai (fun _=>QK1 ea.2.1 Q01 _) ?_)));obtain rfl:=foll hR (ct h9 (ct h11 (by subst hvea;exact ct h13 rfl)));subst_vars;exact rq (tt [0,1,2] (tO rfl (QE1 (c1 (cv (Qg3 lw) (cv (Qg3 lw) (cv (to 1 lnA) (cv (Qg3 lw) (cv (Qg3 lw) (c1 (c1 (cv (to 2 lnA) .nil)))))))))) (tO rfl (tl eqA) (tO rfl (tl eqA) .nil))) t1)
        ·obtain rfl:=foll hR (ct h9 (ct h11 (by subst hvea;exact cf h13 rfl)));subst_vars;exact rq (tt [0,1,2] (tO rfl (QE1 (c1 (cv (Qg3 lw) (cv (Qg3 lw) (cv (to 1 lnA) (cv (Qg3 lw) (cv (Qg3 lw) (c1 (c1 (cv (to 2 lnA) .nil)))))))))) (tO rfl (tl eqA) (tO rfl (tl eqA) .nil))) t1)
       ·refine QT4 (fun (i1:Int) (j:Nat) (c:List Resize)=>∃ m,(((c.length:Int) - (j:Int)).toNat)<m∧(fun p1:Int × Nat × (List Resize)=>(fun ea1:(List Node) × (List Note) × Int=>bif (ea1.2.2==0) then (ea1.2.2,(⟨{ w.state with nodes:=ea1.1,jobs:=tp.1,resizes:=(List.take (p1.1.toNat) p1.2.2) },((w.told++([(⟨5,⟨#[]⟩,zL,id_,why,false⟩:Out)]:List Out))++(Q11 ea1.2.1))⟩:Work)) else (ea1.2.2,(⟨{ w.state with jobs:=tp.1,resizes:=(List.take (p1.1.toNat) p1.2.2) },(w.told++([(⟨5,⟨#[]⟩,zL,id_,why,false⟩:Out)]:List Out))⟩:Work))) (Qp0 w.state.nodes (wu64 (BitVec.ofInt 64 (Qp1 w.state.nodes id_ 1) ||| BitVec.ofInt 64 (Qp1 w.state.nodes id_ 2)).toNat) 7 0 w.state.now)) (QT1 id_ m i1 j c)=R∧(0<=i1∧i1<(j:Int)∧(j:Int)<=(c.length:Int)∧c.length<=4294967296)∧c.length=w.state.resizes.length) (fun i1 j c=>(((c.length:Int) - (j:Int)).toNat)) (fun i1 j c=>[(0,AVal.own 1 0 5 0 c.length),(1,AVal.fn (.func 95) [] [AVal.ptr 3 0 1 0 0]),(4,AVal.lit (.slice none 0 0)),(5,I i1),(6,I (j:Int))]) (fun i1 j c=>[(0,AObj.row 111 9 [[I w.state.now,nodeL w.state.nodes,jobL tp.1,AVal.own 1 0 5 0 c.length,bookL w.state.books,Qt1 w.state.ledger,I w.state.nextJob,I w.state.nextBook,AVal.own 2 0 9 0 ((w.told++([(⟨5,⟨#[]⟩,zL,id_,why,false⟩:Out)]:List Out)).length)]]),(0,AObj.row 89 5 (c.map Resize.cells)),(0,AObj.row 71 9 ((w.told++([(⟨5,⟨#[]⟩,zL,id_,why,false⟩:Out)]:List Out)).map Out.cells)),(0,AObj.row 3 1 [[I id_]])]) (i:Int) (i+1) w.state.resizes (wk [0,1,2,3] (tO rfl (QE1 (c1 (cv (Qg3 lw) (cv (Qg3 lw) (cv (to 1 lnA) (cv (Qg3 lw) (cv (Qg3 lw) (c1 (c1 (cv (to 2 lnA) .nil)))))))))) (tO rfl (tl eqA) (tO rfl (tl eqA) (tO rfl (ts (l1 LowL.nil)) .nil)))) (sv (to 1 lnA) (sv (QB4 .nil (cv (Qy0 3 rfl rfl) .nil)) (s1 (s1 (sv (turn_eq (I_eq (wr omA)) lx) .nil)))))) ⟨_,yTa _,foll hR (ct h9 (cf h11 rfl)),by exact exA⟩ ?_;clear hR;rintro i1 j c ⟨m,hm,hR,hx⟩;(try dsimp only at hR hm hx);obtain ⟨m,rfl⟩:=sucA m;apply ai<;>intro h15
        ·have qh15:=yca h15;have hw1:w64 (i1+1)=i1+1:=wr oA;have hw2:w64 ((j:Int)+1)=(j:Int)+1:=wr oA;refine ai gkA ?_;refine ⟨_,Qf0 rfl rfl rfl (Qo0 zH j (by first|rfl|exact yda _|omega) ckA) rfl,?_⟩;refine ACalls.of_cwp (fun _=>true) Tryz.func95 rfl rfl ?_;refine ⟨_,_,Told.refl,?_⟩;apply ai<;>intro h17
         ·refine ai gkA ?_;refine ⟨_,QV0 rfl rfl rfl rfl (Qo0 zH (i1.toNat) (by first|rfl|exact yda _|omega) ckA) rfl rfl (QD7 (i1.toNat) (c.getD j zH) (by first|rfl|exact yda _|omega) rfl),?_⟩;exact QH1 (w64 (i1+1)) (j+1) (c.set (i1.toNat) (c.getD j zH)) (wk [0,1,2,3] (tO rfl (QE1 (c1 (cv (Qg3 lw) (cv (Qg3 lw) (cv (to 1 lnA) (cv (Qg3 lw) (cv (Qg3 lw) (c1 (c1 (cv (to 2 lnA) .nil)))))))))) (tO rfl (tl eqA) (tO rfl (tl eqA) (tO rfl (ts (l1 LowL.nil)) .nil)))) (sv (to 1 lnA) (sv (QB4 .nil (cv (Qy0 3 rfl rfl) .nil)) (s1 (s1 (sv (turn_eq (I_eq (wr omA)) lx) .nil)))))) omA ⟨m,by exact omA,foll hR (congrArg (fun p1:Int × Nat × (List Resize)=>(fun ea1:(List Node) × (List Note) × Int=>bif (ea1.2.2==0) then (ea1.2.2,(⟨{ w.state with nodes:=ea1.1,jobs:=tp.1,resizes:=(List.take (p1.1.toNat) p1.2.2) },((w.told++([(⟨5,⟨#[]⟩,zL,id_,why,false⟩:Out)]:List Out))++(Q11 ea1.2.1))⟩:Work)) else (ea1.2.2,(⟨{ w.state with jobs:=tp.1,resizes:=(List.take (p1.1.toNat) p1.2.2) },(w.told++([(⟨5,⟨#[]⟩,zL,id_,why,false⟩:Out)]:List Out))⟩:Work))) (Qp0 w.state.nodes (wu64 (BitVec.ofInt 64 (Qp1 w.state.nodes id_ 1) ||| BitVec.ofInt 64 (Qp1 w.state.nodes id_ 2)).toNat) 7 0 w.state.now)) (ct h15 (ct h17 rfl))),by exact exA⟩
         ·exact QH1 i1 (j+1) c (wk [0,1,2,3] (tO rfl (QE1 (c1 (cv (Qg3 lw) (cv (Qg3 lw) (cv (to 1 lnA) (cv (Qg3 lw) (cv (Qg3 lw) (c1 (c1 (cv (to 2 lnA) .nil)))))))))) (tO rfl (tl eqA) (tO rfl (tl eqA) (tO rfl (ts (l1 LowL.nil)) .nil)))) (sv (to 1 lnA) (sv (QB4 .nil (cv (Qy0 3 rfl rfl) .nil)) (s1 (s1 (sv (turn_eq (I_eq (wr omA)) lx) .nil)))))) omA ⟨m,by exact omA,foll hR (congrArg (fun p1:Int × Nat × (List Resize)=>(fun ea1:(List Node) × (List Note) × Int=>bif (ea1.2.2==0) then (ea1.2.2,(⟨{ w.state with nodes:=ea1.1,jobs:=tp.1,resizes:=(List.take (p1.1.toNat) p1.2.2) },((w.told++([(⟨5,⟨#[]⟩,zL,id_,why,false⟩:Out)]:List Out))++(Q11 ea1.2.1))⟩:Work)) else (ea1.2.2,(⟨{ w.state with jobs:=tp.1,resizes:=(List.take (p1.1.toNat) p1.2.2) },(w.told++([(⟨5,⟨#[]⟩,zL,id_,why,false⟩:Out)]:List Out))⟩:Work))) (Qp0 w.state.nodes (wu64 (BitVec.ofInt 64 (Qp1 w.state.nodes id_ 1) ||| BitVec.ofInt 64 (Qp1 w.state.nodes id_ 2)).toNat) 7 0 w.state.now)) (ct h15 (cf h17 rfl))),by exact exA⟩
        ·have qh15:=yja h15;replace hR:(fun p1:Int × Nat × (List Resize)=>(fun ea1:(List Node) × (List Note) × Int=>bif (ea1.2.2==0) then (ea1.2.2,(⟨{ w.state with nodes:=ea1.1,jobs:=tp.1,resizes:=(List.take (p1.1.toNat) p1.2.2) },((w.told++([(⟨5,⟨#[]⟩,zL,id_,why,false⟩:Out)]:List Out))++(Q11 ea1.2.1))⟩:Work)) else (ea1.2.2,(⟨{ w.state with jobs:=tp.1,resizes:=(List.take (p1.1.toNat) p1.2.2) },(w.told++([(⟨5,⟨#[]⟩,zL,id_,why,false⟩:Out)]:List Out))⟩:Work))) (Qp0 w.state.nodes (wu64 (BitVec.ofInt 64 (Qp1 w.state.nodes id_ 1) ||| BitVec.ofInt 64 (Qp1 w.state.nodes id_ 2)).toNat) 7 0 w.state.now)) (i1,j,c)=R:=foll hR (congrArg (fun p1:Int × Nat × (List Resize)=>(fun ea1:(List Node) × (List Note) × Int=>bif (ea1.2.2==0) then (ea1.2.2,(⟨{ w.state with nodes:=ea1.1,jobs:=tp.1,resizes:=(List.take (p1.1.toNat) p1.2.2) },((w.told++([(⟨5,⟨#[]⟩,zL,id_,why,false⟩:Out)]:List Out))++(Q11 ea1.2.1))⟩:Work)) else (ea1.2.2,(⟨{ w.state with jobs:=tp.1,resizes:=(List.take (p1.1.toNat) p1.2.2) },(w.told++([(⟨5,⟨#[]⟩,zL,id_,why,false⟩:Out)]:List Out))⟩:Work))) (Qp0 w.state.nodes (wu64 (BitVec.ofInt 64 (Qp1 w.state.nodes id_ 1) ||| BitVec.ofInt 64 (Qp1 w.state.nodes id_ 2)).toNat) 7 0 w.state.now)) (cf h15 rfl));refine ai gkA ?_;refine And.intro (And.intro (by (simp only [yxa,yWa,yXa,yFa,yqb];omega)) rfl) ?_;refine ai gkA ?_;refine ⟨_,_,Told.refl,?_⟩;refine dchk (by kernel_rfl) ?_;(first|apply u2|apply u3|apply u4|apply us);exact Qy2 w.state.nodes id_ 1 Q01 _;(first|apply u2|apply u3|apply u4|apply us);exact Qy2 w.state.nodes id_ 2 Q01 _;(repeat ((first|refine ai rfl ?_|refine ai (fun _=>rfl) ?_|refine ai (fun _=>Qy2 w.state.nodes id_ 1 Q01 _) ?_|refine ai (fun _=>Qy2 w.state.nodes id_ 2 Q01 _) ?_)));(try (refine dchk (by kernel_rfl) ?_));(first|apply u2|apply u3|apply u4|apply us);exact Qj1 w.state.nodes (wu64 (BitVec.ofInt 64 (Qp1 w.state.nodes id_ 1) ||| BitVec.ofInt 64 (Qp1 w.state.nodes id_ 2)).toNat) 7 0 w.state.now Q01 _;generalize hvea1:Qp0 w.state.nodes (wu64 (BitVec.ofInt 64 (Qp1 w.state.nodes id_ 1) ||| BitVec.ofInt 64 (Qp1 w.state.nodes id_ 2)).toNat) 7 0 w.state.now=ea1;(have qea:ea1.1.length<=4294967296∧ea1.2.1.length<=64:=by rw [← hvea1];exact ⟨yea (QM1 _ _ _ _ _).1 hk0.1.1,(QM1 _ _ _ _ _).2⟩);(repeat ((first|refine ai rfl ?_|refine ai (fun _=>rfl) ?_|refine ai (fun _=>by subst hvea1;exact Qj1 w.state.nodes (wu64 (BitVec.ofInt 64 (Qp1 w.state.nodes id_ 1) ||| BitVec.ofInt 64 (Qp1 w.state.nodes id_ 2)).toNat) 7 0 w.state.now Q01 _) ?_)));apply ai<;>intro h19
         ·refine dchk (by kernel_rfl) ?_;(first|apply u2|apply u3|apply u4|apply us);exact QK1 ea1.2.1 Q01 _;(first|refine ⟨Qd1 80 rfl lnA apA,?_⟩|refine ⟨QB0 80 rfl apA,?_⟩);(repeat ((first|refine ai rfl ?_|refine ai (fun _=>rfl) ?_|refine ai (fun _=>QK1 ea1.2.1 Q01 _) ?_)));obtain rfl:=foll hR ((by subst hvea1;exact ct h19 rfl));subst_vars;exact rq (tt [0,1,2] (tO rfl (QE1 (c1 (cv (Qg3 lw) (cv (Qg3 lw) (cv (to 1 lnA) (cv (Qg3 lw) (cv (Qg3 lw) (c1 (c1 (cv (to 2 lnA) .nil)))))))))) (tO rfl (tl eqA) (tO rfl (tl eqA) .nil))) t1)
         ·obtain rfl:=foll hR ((by subst hvea1;exact cf h19 rfl));subst_vars;exact rq (tt [0,1,2] (tO rfl (QE1 (c1 (cv (Qg3 lw) (cv (Qg3 lw) (cv (to 1 lnA) (cv (Qg3 lw) (cv (Qg3 lw) (c1 (c1 (cv (to 2 lnA) .nil)))))))))) (tO rfl (tl eqA) (tO rfl (tl eqA) .nil))) t1)
      ·exact Qr0 (i+1) (wk [0,1,2,3] (tO rfl (QE1 (c1 (cv (Qg3 lw) (cv (Qg3 lw) (cv (to 1 lnA) (cv (Qg3 lw) (cv (Qg3 lw) (c1 (c1 (cv (to 2 lnA) .nil)))))))))) (tO rfl (tl eqA) (tO rfl (tl eqA) (tO rfl (ts (l1 LowL.nil)) .nil)))) (sv (to 1 lnA) (sv (QB4 .nil (cv (Qy0 3 rfl rfl) .nil)) (s1 (s1 (sv (turn_eq (I_eq (wr omA)) lx) .nil)))))) omA ⟨foll hR (cf h9 rfl),by exact omA⟩
     ·rw [Qh0 (l:=w.state.resizes) (j:=i) (geA h7)] at hR;refine ⟨_,_,Told.refl,?_⟩;refine ai (fun _=>?_) (fun h=>nomatch h);refine ⟨_,_,Told.refl,?_⟩;refine dchk (by kernel_rfl) ?_;(first|apply u2|apply u3|apply u4|apply us);exact Qy2 w.state.nodes id_ 1 Q01 _;(first|apply u2|apply u3|apply u4|apply us);exact Qy2 w.state.nodes id_ 2 Q01 _;(repeat ((first|refine ai rfl ?_|refine ai (fun _=>rfl) ?_|refine ai (fun _=>Qy2 w.state.nodes id_ 1 Q01 _) ?_|refine ai (fun _=>Qy2 w.state.nodes id_ 2 Q01 _) ?_)));(try (refine dchk (by kernel_rfl) ?_));(first|apply u2|apply u3|apply u4|apply us);exact Qj1 w.state.nodes (wu64 (BitVec.ofInt 64 (Qp1 w.state.nodes id_ 1) ||| BitVec.ofInt 64 (Qp1 w.state.nodes id_ 2)).toNat) 7 0 w.state.now Q01 _;generalize hvea2:Qp0 w.state.nodes (wu64 (BitVec.ofInt 64 (Qp1 w.state.nodes id_ 1) ||| BitVec.ofInt 64 (Qp1 w.state.nodes id_ 2)).toNat) 7 0 w.state.now=ea2;(have qea:ea2.1.length<=4294967296∧ea2.2.1.length<=64:=by rw [← hvea2];exact ⟨yea (QM1 _ _ _ _ _).1 hk0.1.1,(QM1 _ _ _ _ _).2⟩);(repeat ((first|refine ai rfl ?_|refine ai (fun _=>rfl) ?_|refine ai (fun _=>by subst hvea2;exact Qj1 w.state.nodes (wu64 (BitVec.ofInt 64 (Qp1 w.state.nodes id_ 1) ||| BitVec.ofInt 64 (Qp1 w.state.nodes id_ 2)).toNat) 7 0 w.state.now Q01 _) ?_)));apply ai<;>intro h21
      ·refine dchk (by kernel_rfl) ?_;(first|apply u2|apply u3|apply u4|apply us);exact QK1 ea2.2.1 Q01 _;(first|refine ⟨Qd1 80 rfl lnA apA,?_⟩|refine ⟨QB0 80 rfl apA,?_⟩);(repeat ((first|refine ai rfl ?_|refine ai (fun _=>rfl) ?_|refine ai (fun _=>QK1 ea2.2.1 Q01 _) ?_)));obtain rfl:=foll hR ((by subst hvea2;exact ct h21 rfl));subst_vars;exact rq (tt [0,1,2] (tO rfl (QE1 (c1 (cv (Qg3 lw) (cv (Qg3 lw) (cv (to 1 lnA) (cv (Qg3 lw) (cv (Qg3 lw) (c1 (c1 (cv (to 2 lnA) .nil)))))))))) (tO rfl (tl eqA) (tO rfl (tl eqA) .nil))) t1)
      ·obtain rfl:=foll hR ((by subst hvea2;exact cf h21 rfl));subst_vars;exact rq (tt [0,1,2] (tO rfl (QE1 (c1 (cv (Qg3 lw) (cv (Qg3 lw) (cv (to 1 lnA) (cv (Qg3 lw) (cv (Qg3 lw) (c1 (c1 (cv (to 2 lnA) .nil)))))))))) (tO rfl (tl eqA) (tO rfl (tl eqA) .nil))) t1)
    ·apply ai<;>intro h23
     ·obtain rfl:=foll hR ((by subst hvtf;exact cf h1 (by subst hvje;exact cf h3 (by subst hvtp;exact ct h23 rfl))));subst_vars;exact rq (tt [0,1,2] (tO rfl (QE1 (c1 (cv (Qg3 lw) (cv (Qg3 lw) (cv (to 1 lnA) (cv (Qg3 lw) (cv (Qg3 lw) (c1 (c1 (cv (to 2 lnA) .nil)))))))))) (tO rfl (tl eqA) (tO rfl (tl eqA) .nil))) t1)
     ·exact Qje () (wk [0,1,2,3] (tO rfl (QE1 (c1 (cv (Qg3 lw) (cv (Qg3 lw) (cv (to 1 lnA) (cv (Qg3 lw) (cv (Qg3 lw) (c1 (c1 (cv (to 2 lnA) .nil)))))))))) (tO rfl (tl eqA) (tO rfl (tl eqA) (tO rfl (ts (l1 LowL.nil)) .nil)))) (sv (Qy0 0 rfl rfl) (sv (Qy0 3 rfl rfl) (s1 (s1 .nil))))) (foll hR ((by subst hvtf;exact cf h1 (by subst hvje;exact cf h3 (by subst hvtp;exact cf h23 rfl)))))
   ·exfalso;exact Bool.noConfusion (h5.symm.trans (put_never hvtf (by assumption) hvje (by assumption) hvtp))
def Q50 (s:State) (id_:Int) (why:Int):State × (List Out) × Int:=bif ((QM0 s)!=0) then (zK,[],(QM0 s)) else bif ((Qb0 (⟨s,[]⟩:Work) id_ why).1 != 0) then (zK,[],(Qb0 (⟨s,[]⟩:Work) id_ why).1) else ({ (Qb0 (⟨s,[]⟩:Work) id_ why).2.state with resizes:=((Qb0 (⟨s,[]⟩:Work) id_ why).2).state.resizes },((Qb0 (⟨s,[]⟩:Work) id_ why).2).told,0)
theorem bwDdEnd0 {P:Prop} (h:P:=by first|((with_reducible exact hk0))|first|((exact ⟨hk0,yna _,fun y hy=>nomatch hy⟩))|exact szA):P:=h
theorem QVd (s:State) (id_:Int) (why:Int) (hs0:s.sz):AMoves Tryz.prog 30 [State.a s,I id_,I why] [] 0 (AVal.tup [AVal.agg [I (((Q50 s id_ why).1).now),nodeL (((Q50 s id_ why).1).nodes),jobL (((Q50 s id_ why).1).jobs),Qh1 (((Q50 s id_ why).1).resizes),bookL (((Q50 s id_ why).1).books),Qt1 (((Q50 s id_ why).1).ledger),I (((Q50 s id_ why).1).nextJob),I (((Q50 s id_ why).1).nextBook)],AVal.own 0 0 9 0 ((Q50 s id_ why).2.1).length,I ((Q50 s id_ why).2.2)]) [(0,AObj.row 71 9 (((Q50 s id_ why).2.1).map Out.cells))]:=by
 generalize hR:Q50 s id_ why=R;refine mo (kp 12 [15,27]) Tryz.func30 ?_;have hk0:=hs0;obtain ⟨z5,z6,z7,z8,z9,z10,z11⟩:=hs0;refine us (QF2 s bwDdEnd0 _) ?_;apply ai<;>intro h1
 ·obtain rfl:=foll hR (ct h1 rfl);exact rq (Told.pad 71 9 (tt [2] (tO rfl (tl eqA) .nil) (turn_tup (cv (turn_agg (c1 (cv (turn_nil) (cv (turn_nil) (cv (turn_nil) (cv (turn_nil) (cv (turn_nil) (c1 (c1 .nil))))))))) (cv (Q25 0 rfl) (c1 .nil))))))
 ·refine us (mv [] (Q18 s bwDdEnd0) .nil (dv (Qo3 (Low.agg' (State.lo))) .nil) (rO rr .nil) (ren_agg (r1 (rv (Ren.low _ lw) (rv (Ren.low _ lw) (.cons _ _ _ _ (rw_ 2 0 rfl) (rv (Ren.low _ lw) (rv (Ren.low _ lw) (r1 (r1 .nil)))))))))) ?_;refine us (ACalls.pad 71 9 (mv [3,2,4] (QL7 (⟨s,[]⟩:Work) id_ why bwDdEnd0) (dO (dc (d1 (dl lw (dl lw (dv (QP3 rfl lnA) (dl lw (dl lw (d1 (d1 (dv (dn_nil rfl) .nil)))))))))) (dO (dr eqA) (dO (dr eqA) .nil))) (dp (d1 (d1 .nil))) (rO (rc (r1 (rv (Ren.low _ lw) (rv (Ren.low _ lw) (.cons _ _ _ _ (rw_ 5 0 rfl) (rv (Ren.low _ lw) (rv (Ren.low _ lw) (r1 (r1 (.cons _ _ _ _ (rw_ 6 0 rfl) .nil)))))))))) (rO rr (rO rr .nil))) rx)) ?_;apply ai<;>intro h3
  ·obtain rfl:=foll hR (cf h1 (ct h3 rfl));exact rq (Told.pad 71 9 (tt [7] (tO rfl (tl eqA) .nil) (turn_tup (cv (turn_agg (c1 (cv (turn_nil) (cv (turn_nil) (cv (turn_nil) (cv (turn_nil) (cv (turn_nil) (c1 (c1 .nil))))))))) (cv (Q25 0 rfl) (c1 .nil))))))
  ·refine dchk (by kernel_rfl) ?_;(repeat ((first|refine ai rfl ?_|refine ai (fun _=>rfl) ?_)));obtain rfl:=foll hR (cf h1 (cf h3 rfl));exact rq (tt [6] (tO rfl (tl eqA) .nil) (turn_tup (cv (turn_agg (c1 (cv (Qg3 lw) (cv (Qg3 lw) (cv (Qn7 _ _ rfl (yna _) (by decide) eqA (fun _=>Resize.lowc _ _) lnA) (cv (Qg3 lw) (cv (Qg3 lw) (c1 (c1 .nil))))))))) (cv (to 0 lnA) (c1 .nil)))))
end Go.Proofs.YtgnlcjenoaoffaaGreatDoor
namespace Go.Proofs.YtgnlcjenoaoffaaGreatDoor
set_option linter.unusedSimpArgs false
set_option linter.unusedVariables false
open Go.Fw
theorem Q09 (w c:Work):∀ (r:List Job) (i:Nat) (o:List Out),(Qk1 w c r i o).length<=o.length+r.length
 | [],_,_=>yia _
 | x :: r,i,o=>by
  rw [Qk1,yka,yLa];split
  ·have:=Q09 w c r (i+1) (o++[⟨3,⟨#[]⟩,zL,x.id,x.promise,(QF0 (QY0 w.state.jobs c.state.jobs) x.id)⟩]);rw [yma,ynb] at this;omega
  ·have:=Q09 w c r (i+1) o;omega
theorem QMa {w:Work} (h:w.sz) (anew:Bool):(Q30 w anew).state.sz∧(Q30 w anew).told.length<=w.told.length+w.state.jobs.length:=by
 have key:∀ c:Work,c.state.sz->c.told=w.told->c.state.jobs.length=w.state.jobs.length->(Qw1 w c).state.sz∧(Qw1 w c).told.length<=w.told.length+w.state.jobs.length:=by
  intro c h1 h2 h3;refine ⟨h1,?_⟩;have:=Q09 w c c.state.jobs 0 c.told;rw [h2,h3] at this;rw [← h2] at this ⊢;exact this
 unfold Q30;cases anew with
 | true=>exact key _ (QW9 h.1).1 rfl (QW9 h.1).2
 | false=>exact key _ (Qb6 h.1).1 rfl (Qb6 h.1).2.2
theorem Qc5 {k a b:Int} {n:Note} {r:Bool}:(⟨k,⟨#[]⟩,n,a,b,r⟩:Out).sz:=yna _
theorem sent_sz_go:∀ (l:List Note) (o:List Out) (i:Nat),(∀ y ∈ o,y.sz) -> ∀ y ∈ QX2 l o i,y.sz
 | [],_,_,h=>h
 | x :: r,o,i,h=>by
  rw [QX2];refine sent_sz_go r _ (i+1) fun y hy=>?_
  rcases List.mem_append.1 hy with q|q
  ·exact h y q
  ·rw [List.mem_singleton.1 q];exact Qc5
theorem sent_sz (l:List Note):∀ y ∈ Q11 l,y.sz:=sent_sz_go l [] 0 fun _ h=>nomatch h
def EndP (w:Work) (n:List Node) (t:List Out):Prop:=n.length<=4294967296∧t.length<=w.told.length+65 ∧ ∀ y ∈ t,y.sz
theorem en0 {w:Work} (h:w.sz):EndP w w.state.nodes w.told:=⟨h.1.1,by omega,h.2.2⟩
theorem en1 {w:Work} (h:w.sz) {x:Out} (hx:x.sz):EndP w w.state.nodes (w.told++[x]) :=
 ⟨h.1.1,by rw [yma,ynb];omega,fun y hy=>(List.mem_append.1 hy).elim (h.2.2 y) fun q=>by rw [List.mem_singleton.1 q];exact hx⟩
theorem en2 {w:Work} (h:w.sz) {x:Out} (hx:x.sz) (set_ act job now:Int):EndP w (Qp0 w.state.nodes set_ act job now).1 ((w.told++[x])++Q11 (Qp0 w.state.nodes set_ act job now).2.1):=by
 have q:=QM1 w.state.nodes set_ act job now;have e:=en1 h hx;exact ⟨yea q.1 h.1.1,by rw [yma,yma,ynb,QX0];omega,fun y hy=>(List.mem_append.1 hy).elim (e.2.2 y) (sent_sz _ y)⟩
theorem ended_go {w:Work} (h:w.sz) (id why:Int) (tp:List Job × Int):∀ (r:List Resize) (i:Nat),EndP w (Q21 w id why tp r i).2.state.nodes (Q21 w id why tp r i).2.told
 | [],i=>by
  rw [Q21];dsimp only;simp only [yka];split
  ·exact en2 h Qc5 _ _ _ _
  ·exact en1 h Qc5
 | x :: r,i=>by
  have ih:=ended_go h id why tp r (i+1);rw [Q21];dsimp only;simp only [yka]
  repeat' first
   | exact en2 h Qc5 _ _ _ _
   | exact en1 h Qc5
   | exact ih
   | split
theorem Qq9 {w:Work} (h:w.sz) (id why:Int):EndP w (Qb0 w id why).2.state.nodes (Qb0 w id why).2.told:=by
 unfold Qb0 Qc3;dsimp only;simp only [yka]
 repeat' first
  | exact en0 h
  | exact en1 h Qc5
  | exact ended_go h id why _ _ _
  | split
theorem QA8 {s:State} (h:s.sz) (id:Int):(QV1 s id).1.nodes.length<=4294967296∧(QV1 s id).2.1.length<=64:=by
 unfold QV1;dsimp only;simp only [yka]
 repeat' first
  | exact ⟨yna _,yna _⟩
  | exact ⟨yea (QM1 _ _ _ _ _).1 h.1,(QM1 _ _ _ _ _).2⟩
  | split
set_option maxRecDepth 20000
set_option maxHeartbeats 4000000
attribute [local irreducible] ACalls AMoves
def Q45 (n:Int):Nat->Int->Nat->List Out->Int × Nat × (List Out)
 | 0,_,_,_=>(0,0,[])
 | m+1,i1,j,c4=>bif (decide ((j:Int)<(c4.length:Int))) then bif (!(((c4.getD j zM).kind==2)&&((c4.getD j zM).note.node==n))) then Q45 n m (w64 (i1+1)) (j+1) (c4.set (i1.toNat) (c4.getD j zM)) else Q45 n m i1 (j+1) c4 else (i1,j,c4)
def QA2 (n:Int) (c:Work) (c3:List Out):List Out->Nat->State × (List Out) × Int
 | [],_=>({ c.state with nodes:=(Ql0 c.state.nodes n 9 0 c.state.now).1 },c3,0)
 | _ :: r,i=>bif (((c3.getD i zM).kind==2)&&((c3.getD i zM).note.node==n)) then bif ((i:Int)==(-1)) then ({ c.state with nodes:=(Ql0 c.state.nodes n 9 0 c.state.now).1 },c3,0) else (fun p1:Int × Nat × (List Out)=>({ c.state with nodes:=(Ql0 c.state.nodes n 9 0 c.state.now).1 },(List.take (p1.1.toNat) p1.2.2),0)) (Q45 n ((((c3.length:Int) - ((i+1):Int)).toNat)+1) (i:Int) (i+1) c3) else QA2 n c c3 r (i+1)
def Qp2 (n:Int) (e_:Int) (c:Work) (c3:List Out):State × (List Out) × Int:=bif (e_ != 0) then (zK,[],e_) else bif ((Ql0 c.state.nodes n 9 0 c.state.now).2 != 0) then (zK,[],(Ql0 c.state.nodes n 9 0 c.state.now).2) else QA2 n c c3 c3 0
def Q90 (s:State) (n:Int):State × (List Out) × Int:=bif ((QM0 s)!=0) then (zK,[],(QM0 s)) else bif ((Ql0 s.nodes n 9 0 s.now).2 != 0) then (zK,[],(Ql0 s.nodes n 9 0 s.now).2) else bif ((s.nodes.getD (n.toNat) zF).state==1) then Qp2 n ((Qb0 (⟨s,([(⟨6,⟨#[]⟩,zL,n,4,false⟩:Out)]:List Out)⟩:Work) ((s.nodes.getD (n.toNat) zF).job) 7).1) (⟨{ (Qb0 (⟨s,([(⟨6,⟨#[]⟩,zL,n,4,false⟩:Out)]:List Out)⟩:Work) ((s.nodes.getD (n.toNat) zF).job) 7).2.state with resizes:=((Qb0 (⟨s,([(⟨6,⟨#[]⟩,zL,n,4,false⟩:Out)]:List Out)⟩:Work) ((s.nodes.getD (n.toNat) zF).job) 7).2).state.resizes },((Qb0 (⟨s,([(⟨6,⟨#[]⟩,zL,n,4,false⟩:Out)]:List Out)⟩:Work) ((s.nodes.getD (n.toNat) zF).job) 7).2).told⟩:Work) (((Qb0 (⟨s,([(⟨6,⟨#[]⟩,zL,n,4,false⟩:Out)]:List Out)⟩:Work) ((s.nodes.getD (n.toNat) zF).job) 7).2).told) else bif ((s.nodes.getD (n.toNat) zF).state==2) then (fun ab:State × (List Note) × Int=>Qp2 n ab.2.2 (⟨ab.1,(([(⟨6,⟨#[]⟩,zL,n,4,false⟩:Out)]:List Out)++(Q11 ab.2.1))⟩:Work) (([(⟨6,⟨#[]⟩,zL,n,4,false⟩:Out)]:List Out)++(Q11 ab.2.1))) (QV1 s ((s.nodes.getD (n.toNat) zF).job)) else Qp2 n 0 (⟨s,([(⟨6,⟨#[]⟩,zL,n,4,false⟩:Out)]:List Out)⟩:Work) ([(⟨6,⟨#[]⟩,zL,n,4,false⟩:Out)]:List Out)
theorem QL5 {P:Prop} (h:P:=by first|((with_reducible exact hk0))|first|((exact hk0.1))|first|((exact ⟨hk0,yfa rfl,fun y hy=>by rw [List.mem_singleton.1 hy];exact Qc5⟩))|first|((exact hx.1))|first|((exact yea (QA8 hk0 _).2 (by decide)))|first|((subst_vars;exact yea (QA8 hk0 _).2 (by decide)))|exact szA):P:=h
theorem Qn8 {P:Prop} (h:P:=by first|((exact ⟨(Qq9 (w:=⟨s,[⟨6,⟨#[]⟩,zL,n,4,false⟩]⟩) ⟨hk0,yfa rfl,fun y hy=>by rw [List.mem_singleton.1 hy];exact Qc5⟩ _ _).1,yea (Qq9 (w:=⟨s,[⟨6,⟨#[]⟩,zL,n,4,false⟩]⟩) ⟨hk0,yfa rfl,fun y hy=>by rw [List.mem_singleton.1 hy];exact Qc5⟩ _ _).2.1 (yfa rfl),(Qq9 (w:=⟨s,[⟨6,⟨#[]⟩,zL,n,4,false⟩]⟩) ⟨hk0,yfa rfl,fun y hy=>by rw [List.mem_singleton.1 hy];exact Qc5⟩ _ _).2.2⟩))|first|((exact ⟨hk0.1,yfa rfl,fun y hy=>by rw [List.mem_singleton.1 hy];exact Qc5⟩))|first|((subst_vars;exact ⟨(QA8 hk0 _).1,by have:=(QA8 hk0 ((s.nodes.getD (n.toNat) zF).job)).2;simp;omega,fun y hy=>(List.mem_append.1 hy).elim (fun q=>by rw [List.mem_singleton.1 q];exact Qc5) (sent_sz _ y)⟩))|first|((exact ⟨by rw [← hvab];exact (QA8 hk0 _).1,by simp;omega,fun y hy=>(List.mem_append.1 hy).elim (fun q=>by rw [List.mem_singleton.1 q];exact Qc5) (sent_sz _ y)⟩))|exact exA):P:=h
theorem deeds_Lose_p (s:State) (n:Int) (hs0:s.sz):AMoves Tryz.prog 47 [State.a s,I n] [] 0 (AVal.tup [AVal.agg [I (((Q90 s n).1).now),nodeL (((Q90 s n).1).nodes),jobL (((Q90 s n).1).jobs),Qh1 (((Q90 s n).1).resizes),bookL (((Q90 s n).1).books),Qt1 (((Q90 s n).1).ledger),I (((Q90 s n).1).nextJob),I (((Q90 s n).1).nextBook)],AVal.own 0 0 9 0 ((Q90 s n).2.1).length,I ((Q90 s n).2.2)]) [(0,AObj.row 71 9 (((Q90 s n).2.1).map Out.cells))]:=by
 generalize hR:Q90 s n=R;refine mo (kj [1000018] 17 [20,33,49,50,56,82,101]) Tryz.func47 ?_;have hk0:=hs0;obtain ⟨z24,z25,z26,z27,z28,z29,z30⟩:=hs0;refine us (QF2 s QL5 _) ?_;refine ai (fun h1=>?_) (fun h2=>?_)
 ·obtain rfl:=foll hR (ct h1 rfl);exact rq (Told.pad 71 9 (tt [3] (tO rfl (tl eqA) .nil) (turn_tup (cv (turn_agg (c1 (cv (turn_nil) (cv (turn_nil) (cv (turn_nil) (cv (turn_nil) (cv (turn_nil) (c1 (c1 .nil))))))))) (cv (Q25 0 rfl) (c1 .nil))))))
 ·refine us (Q86 s.nodes n 9 0 s.now QL5 _) ?_;refine ai (fun h3=>?_) (fun h4=>?_)
  ·obtain rfl:=foll hR (cf h2 (ct h3 rfl));exact rq (Told.pad 71 9 (tt [3] (tO rfl (tl eqA) .nil) (turn_tup (cv (turn_agg (c1 (cv (turn_nil) (cv (turn_nil) (cv (turn_nil) (cv (turn_nil) (cv (turn_nil) (c1 (c1 .nil))))))))) (cv (Q25 0 rfl) (c1 .nil))))))
  ·refine us (mv [] (Q18 s QL5) .nil (dv (Qo3 (Low.agg' (State.lo))) .nil) (rO rr .nil) (ren_agg (r1 (rv (Ren.low _ lw) (rv (Ren.low _ lw) (.cons _ _ _ _ (rw_ 3 0 rfl) (rv (Ren.low _ lw) (rv (Ren.low _ lw) (r1 (r1 .nil)))))))))) ?_;refine ACalls.of_cwp (fun _=>true) Tryz.func64 rfl rfl ?_;refine Or.inl ?_;(first|refine ⟨Qd1 80 rfl lnA (by first|(simp;omega)|(simp;omega)|grind),?_⟩|refine ⟨QB0 80 rfl (by first|(simp;omega)|(simp;omega)|grind),?_⟩);refine ⟨_,_,Told.refl,?_⟩;refine And.intro (by first|exact fun hg=>yoa (by first|((have hq:=QC3 (by assumption);omega))|exact ckA)|exact gkA) ?_;refine Qke (fun (e_:Int) (c:Work) (c3:List Out)=>Qp2 n e_ c c3=R∧(c.state.nodes.length<=4294967296∧c3.length<=66 ∧ ∀ y ∈ c3,y.sz)) (fun e_ c c3=>[(3,AVal.ptr 0 0 1 0 0),(4,AVal.ptr 1 0 8 0 0),(5,AVal.lit (.slice none 0 0)),(6,I 0),(10,AVal.ptr 2 0 9 0 0),(12,I e_)]) (fun e_ c c3=>[(0,AObj.row 3 1 [[I n]]),(0,AObj.row 28 8 [[I 0,AVal.lit (.slice none 0 0),AVal.lit (.slice none 0 0),AVal.lit (.slice none 0 0),AVal.lit (.slice none 0 0),AVal.lit (.slice none 0 0),I 0,I 0]]),(0,AObj.row 111 9 [[I c.state.now,nodeL c.state.nodes,jobL c.state.jobs,Qh1 c.state.resizes,bookL c.state.books,Qt1 c.state.ledger,I c.state.nextJob,I c.state.nextBook,AVal.own 3 0 9 0 c3.length]]),(0,AObj.row 71 9 (c3.map Out.cells))]) ?_ ?_
   ·clear hR;rintro e_ c c3 ⟨hR,hx⟩;(try dsimp only at hR hx);refine ai (fun h5=>?_) (fun h6=>?_)
    ·obtain rfl:=foll hR (ct h5 rfl);exact rq (Told.pad 71 9 (tt [4] (tO rfl (tl eqA) .nil) (turn_tup (cv (turn_agg (c1 (cv (turn_nil) (cv (turn_nil) (cv (turn_nil) (cv (turn_nil) (cv (turn_nil) (c1 (c1 .nil))))))))) (cv (Q25 0 rfl) (c1 .nil))))))
    ·refine dchk (by kernel_rfl) ?_;(first|apply u2|apply u3|apply u4|apply us);exact Q86 c.state.nodes n 9 0 c.state.now QL5 _;(repeat ((first|refine ai rfl ?_|refine ai (fun _=>rfl) ?_|refine ai (fun _=>Q86 c.state.nodes n 9 0 c.state.now QL5 _) ?_)));refine ai (fun h7=>?_) (fun h8=>?_)
     ·obtain rfl:=foll hR (cf h6 (ct h7 rfl));exact rq (Told.pad 71 9 (tt [4] (tO rfl (tl eqA) .nil) (turn_tup (cv (turn_agg (c1 (cv (turn_nil) (cv (turn_nil) (cv (turn_nil) (cv (turn_nil) (cv (turn_nil) (c1 (c1 .nil))))))))) (cv (Q25 0 rfl) (c1 .nil))))))
     ·refine ACalls.of_cwp (fun _=>true) Tryz.func86 rfl rfl ?_;refine ACalls.of_cwp (fun _=>true) Tryz.func143 rfl rfl ?_;refine Qk0 (fun (i:Nat)=>QA2 n c c3 (List.drop i c3) i=R∧i<=c3.length) (fun i=>c3.length - i) (fun i=>[(0,AVal.own 3 0 9 0 c3.length),(1,AVal.fn (.func 87) [] [AVal.ptr 0 0 1 0 0]),(4,I 0),(7,I (c3.length:Int)),(8,I (i:Int))]) (fun i=>[(0,AObj.row 3 1 [[I n]]),(0,AObj.row 28 8 [[I 0,AVal.lit (.slice none 0 0),AVal.lit (.slice none 0 0),AVal.lit (.slice none 0 0),AVal.lit (.slice none 0 0),AVal.lit (.slice none 0 0),I 0,I 0]]),(0,AObj.row 111 9 [[I c.state.now,nodeL ((Ql0 c.state.nodes n 9 0 c.state.now).1),jobL c.state.jobs,Qh1 c.state.resizes,bookL c.state.books,Qt1 c.state.ledger,I c.state.nextJob,I c.state.nextBook,AVal.own 3 0 9 0 c3.length]]),(0,AObj.row 71 9 (c3.map Out.cells))]) 0 (wk [0,1,2,3] (tO rfl (ts (l1 LowL.nil)) (tO rfl (ts (l1 (l1 (l1 (l1 (l1 (l1 (l1 (l1 LowL.nil))))))))) (tO rfl (QE1 (c1 (cv (Qg3 lw) (cv (Qg3 lw) (cv (Qg3 lw) (cv (Qg3 lw) (cv (Qg3 lw) (c1 (c1 (cv (to 3 lnA) .nil)))))))))) (tO rfl (tl eqA) .nil)))) (sv (to 3 lnA) (sv (QB4 .nil (cv (Qy0 0 rfl rfl) .nil)) (s1 (s1 (s1 .nil)))))) ⟨foll hR (cf h6 (cf h8 rfl)),by exact omA⟩ ?_;clear hR;rintro i ⟨hR,hj⟩;(try dsimp only at hR hj);apply ai<;>intro h9
      ·have hlt:=ltA h9;rw [Qd0 zM hlt] at hR;have hxz:(c3.getD i zM).sz:=QB1 (by first|assumption|grind) (Out.szz _);have hkz:=hxz;obtain z11:((c3.getD i zM).text).size<=4294967296:=hxz;refine And.intro (by first|exact fun hg=>yoa (by first|((have hq:=QC3 (by assumption);omega))|exact ckA)|exact gkA) ?_;refine ⟨_,Qf0 rfl rfl rfl (Qo0 zM i (by first|rfl|exact yda _|omega) (by first|((have hq:=QC3 (by assumption);omega))|exact ckA)) rfl,?_⟩;refine ACalls.of_cwp (fun _=>true) Tryz.func87 rfl rfl ?_;refine ⟨_,_,Told.refl,?_⟩;apply ai<;>intro h12
       ·refine ⟨_,_,Told.refl,?_⟩;refine ai (fun h14=>?_) (fun h15=>?_)
        ·refine ⟨_,_,Told.refl,?_⟩;refine dchk (by kernel_rfl) ?_;(repeat ((first|refine ai rfl ?_|refine ai (fun _=>rfl) ?_)));obtain rfl:=foll hR (ct h12 (ct h14 rfl));exact rq (tt [3] (tO rfl (tl eqA) .nil) (turn_tup (cv (Qg3 (Low.agg' (State.lo))) (cv (to 0 lnA) (c1 .nil)))))
        ·refine QT4 (fun (i1:Int) (j:Nat) (c4:List Out)=>∃ m,(((c4.length:Int) - (j:Int)).toNat)<m∧(fun p1:Int × Nat × (List Out)=>({ c.state with nodes:=(Ql0 c.state.nodes n 9 0 c.state.now).1 },(List.take (p1.1.toNat) p1.2.2),0)) (Q45 n m i1 j c4)=R∧(0<=i1∧i1<(j:Int)∧(j:Int)<=(c4.length:Int)∧c4.length<=4294967296)∧c4.length=c3.length) (fun i1 j c4=>(((c4.length:Int) - (j:Int)).toNat)) (fun i1 j c4=>[(0,AVal.own 3 0 9 0 c4.length),(1,AVal.fn (.func 87) [] [AVal.ptr 0 0 1 0 0]),(4,AVal.lit (.slice none 0 0)),(5,I i1),(6,I (j:Int))]) (fun i1 j c4=>[(0,AObj.row 3 1 [[I n]]),(0,AObj.row 28 8 [[I 0,AVal.lit (.slice none 0 0),AVal.lit (.slice none 0 0),AVal.lit (.slice none 0 0),AVal.lit (.slice none 0 0),AVal.lit (.slice none 0 0),I 0,I 0]]),(0,AObj.row 111 9 [[I c.state.now,nodeL ((Ql0 c.state.nodes n 9 0 c.state.now).1),jobL c.state.jobs,Qh1 c.state.resizes,bookL c.state.books,Qt1 c.state.ledger,I c.state.nextJob,I c.state.nextBook,AVal.own 3 0 9 0 c4.length]]),(0,AObj.row 71 9 (c4.map Out.cells))]) (i:Int) (i+1) c3 (wk [0,1,2,3] (tO rfl (ts (l1 LowL.nil)) (tO rfl (ts (l1 (l1 (l1 (l1 (l1 (l1 (l1 (l1 LowL.nil))))))))) (tO rfl (QE1 (c1 (cv (Qg3 lw) (cv (Qg3 lw) (cv (Qg3 lw) (cv (Qg3 lw) (cv (Qg3 lw) (c1 (c1 (cv (to 3 lnA) .nil)))))))))) (tO rfl (tl eqA) .nil)))) (sv (to 3 lnA) (sv (QB4 .nil (cv (Qy0 0 rfl rfl) .nil)) (s1 (s1 (sv (turn_eq (I_eq (wr omA)) lx) .nil)))))) ⟨_,yTa _,foll hR (ct h12 (cf h15 rfl)),Qn8⟩ ?_;clear hR;rintro i1 j c4 ⟨m,hm,hR,hx⟩;(try dsimp only at hR hm hx);obtain ⟨m,rfl⟩:=sucA m;refine ai (fun h16=>?_) (fun h17=>?_)
         ·have qh16:=yca h16;have hw1:w64 (i1+1)=i1+1:=wr oA;have hw2:w64 ((j:Int)+1)=(j:Int)+1:=wr oA;refine And.intro (by first|exact fun hg=>yoa (by first|((have hq:=QC3 (by assumption);omega))|exact ckA)|exact gkA) ?_;refine ⟨_,Qf0 rfl rfl rfl (Qo0 zM j (by first|rfl|exact yda _|omega) (by first|((have hq:=QC3 (by assumption);omega))|exact ckA)) rfl,?_⟩;refine ACalls.of_cwp (fun _=>true) Tryz.func87 rfl rfl ?_;refine ⟨_,_,Told.refl,?_⟩;apply ai<;>intro h18
          ·refine And.intro (by first|exact fun hg=>yoa (by first|((have hq:=QC3 (by assumption);omega))|exact ckA)|exact gkA) ?_;refine ⟨_,QV0 rfl rfl rfl rfl (Qo0 zM (i1.toNat) (by first|rfl|exact yda _|omega) (by first|((have hq:=QC3 (by assumption);omega))|exact ckA)) rfl rfl (QD7 (i1.toNat) (c4.getD j zM) (by first|rfl|exact yda _|omega) rfl),?_⟩;exact QH1 (w64 (i1+1)) (j+1) (c4.set (i1.toNat) (c4.getD j zM)) (wk [0,1,2,3] (tO rfl (ts (l1 LowL.nil)) (tO rfl (ts (l1 (l1 (l1 (l1 (l1 (l1 (l1 (l1 LowL.nil))))))))) (tO rfl (QE1 (c1 (cv (Qg3 lw) (cv (Qg3 lw) (cv (Qg3 lw) (cv (Qg3 lw) (cv (Qg3 lw) (c1 (c1 (cv (to 3 lnA) .nil)))))))))) (tO rfl (tl eqA) .nil)))) (sv (to 3 lnA) (sv (QB4 .nil (cv (Qy0 0 rfl rfl) .nil)) (s1 (s1 (sv (turn_eq (I_eq (wr omA)) lx) .nil)))))) omA ⟨m,by exact omA,foll hR (congrArg (fun p1:Int × Nat × (List Out)=>({ c.state with nodes:=(Ql0 c.state.nodes n 9 0 c.state.now).1 },(List.take (p1.1.toNat) p1.2.2),0)) (ct h16 (ct h18 rfl))),Qn8⟩
          ·exact QH1 i1 (j+1) c4 (wk [0,1,2,3] (tO rfl (ts (l1 LowL.nil)) (tO rfl (ts (l1 (l1 (l1 (l1 (l1 (l1 (l1 (l1 LowL.nil))))))))) (tO rfl (QE1 (c1 (cv (Qg3 lw) (cv (Qg3 lw) (cv (Qg3 lw) (cv (Qg3 lw) (cv (Qg3 lw) (c1 (c1 (cv (to 3 lnA) .nil)))))))))) (tO rfl (tl eqA) .nil)))) (sv (to 3 lnA) (sv (QB4 .nil (cv (Qy0 0 rfl rfl) .nil)) (s1 (s1 (sv (turn_eq (I_eq (wr omA)) lx) .nil)))))) omA ⟨m,by exact omA,foll hR (congrArg (fun p1:Int × Nat × (List Out)=>({ c.state with nodes:=(Ql0 c.state.nodes n 9 0 c.state.now).1 },(List.take (p1.1.toNat) p1.2.2),0)) (ct h16 (cf h18 rfl))),Qn8⟩
         ·have qh17:=yja h17;replace hR:(fun p1:Int × Nat × (List Out)=>({ c.state with nodes:=(Ql0 c.state.nodes n 9 0 c.state.now).1 },(List.take (p1.1.toNat) p1.2.2),0)) (i1,j,c4)=R:=foll hR (congrArg (fun p1:Int × Nat × (List Out)=>({ c.state with nodes:=(Ql0 c.state.nodes n 9 0 c.state.now).1 },(List.take (p1.1.toNat) p1.2.2),0)) (cf h17 rfl));refine And.intro (by first|exact fun hg=>yoa (by first|((have hq:=QC3 (by assumption);omega))|exact ckA)|exact gkA) ?_;refine And.intro (And.intro (by (simp only [yxa,yWa,yXa,yFa,yqb];omega)) rfl) ?_;refine And.intro (by first|exact fun hg=>yoa (by first|((have hq:=QC3 (by assumption);omega))|exact ckA)|exact gkA) ?_;refine ⟨_,_,Told.refl,?_⟩;refine dchk (by kernel_rfl) ?_;(repeat ((first|refine ai rfl ?_|refine ai (fun _=>rfl) ?_)));obtain rfl:=foll hR rfl;exact rq (tt [3] (tO rfl (tl eqA) .nil) (turn_tup (cv (Qg3 (Low.agg' (State.lo))) (cv (to 0 lnA) (c1 .nil)))))
       ·exact Qr0 (i+1) (wk [0,1,2,3] (tO rfl (ts (l1 LowL.nil)) (tO rfl (ts (l1 (l1 (l1 (l1 (l1 (l1 (l1 (l1 LowL.nil))))))))) (tO rfl (QE1 (c1 (cv (Qg3 lw) (cv (Qg3 lw) (cv (Qg3 lw) (cv (Qg3 lw) (cv (Qg3 lw) (c1 (c1 (cv (to 3 lnA) .nil)))))))))) (tO rfl (tl eqA) .nil)))) (sv (to 3 lnA) (sv (QB4 .nil (cv (Qy0 0 rfl rfl) .nil)) (s1 (s1 (sv (turn_eq (I_eq (wr omA)) lx) .nil)))))) omA ⟨foll hR (cf h12 rfl),by exact omA⟩
      ·rw [Qh0 (l:=c3) (j:=i) (geA h9)] at hR;refine ⟨_,_,Told.refl,?_⟩;refine ai (fun _=>?_) (fun h=>nomatch h);refine ⟨_,_,Told.refl,?_⟩;refine dchk (by kernel_rfl) ?_;(repeat ((first|refine ai rfl ?_|refine ai (fun _=>rfl) ?_)));obtain rfl:=foll hR rfl;exact rq (tt [3] (tO rfl (tl eqA) .nil) (turn_tup (cv (Qg3 (Low.agg' (State.lo))) (cv (to 0 lnA) (c1 .nil)))))
   ·apply ai<;>intro h20
    ·refine us (mv [4,3,5] (QL7 (⟨s,([(⟨6,⟨#[]⟩,zL,n,4,false⟩:Out)]:List Out)⟩:Work) ((s.nodes.getD (n.toNat) zF).job) 7 QL5) (dO (dc (d1 (dl lw (dl lw (dv (QP3 rfl lnA) (dl lw (dl lw (d1 (d1 (dv (QP3 rfl lnA) .nil)))))))))) (dO (dr eqA) (dO (dr eqA) .nil))) (dp (d1 (d1 .nil))) (rO (rc (r1 (rv (Ren.low _ lw) (rv (Ren.low _ lw) (.cons _ _ _ _ (rw_ 7 0 rfl) (rv (Ren.low _ lw) (rv (Ren.low _ lw) (r1 (r1 (.cons _ _ _ _ (rw_ 8 0 rfl) .nil)))))))))) (rO rr (rO rr .nil))) rx) ?_;exact Qg7 ((Qb0 (⟨s,([(⟨6,⟨#[]⟩,zL,n,4,false⟩:Out)]:List Out)⟩:Work) ((s.nodes.getD (n.toNat) zF).job) 7).1) (⟨{ (Qb0 (⟨s,([(⟨6,⟨#[]⟩,zL,n,4,false⟩:Out)]:List Out)⟩:Work) ((s.nodes.getD (n.toNat) zF).job) 7).2.state with resizes:=((Qb0 (⟨s,([(⟨6,⟨#[]⟩,zL,n,4,false⟩:Out)]:List Out)⟩:Work) ((s.nodes.getD (n.toNat) zF).job) 7).2).state.resizes },((Qb0 (⟨s,([(⟨6,⟨#[]⟩,zL,n,4,false⟩:Out)]:List Out)⟩:Work) ((s.nodes.getD (n.toNat) zF).job) 7).2).told⟩:Work) (((Qb0 (⟨s,([(⟨6,⟨#[]⟩,zL,n,4,false⟩:Out)]:List Out)⟩:Work) ((s.nodes.getD (n.toNat) zF).job) 7).2).told) (wk [1,2,4,8] (tO rfl (ts (l1 LowL.nil)) (tO rfl (ts (l1 (l1 (l1 (l1 (l1 (l1 (l1 (l1 LowL.nil))))))))) (tO rfl (QE1 (c1 (cv (Qg3 lw) (cv (Qg3 lw) (cv (Qn7 _ _ rfl (yna _) (by decide) eqA (fun _=>Resize.lowc _ _) lnA) (cv (Qg3 lw) (cv (Qg3 lw) (c1 (c1 (cv (to 3 lnA) .nil)))))))))) (tO rfl (tl eqA) .nil)))) (sv (Qy0 0 rfl rfl) (sv (Qy0 1 rfl rfl) (s1 (s1 (sv (Qy0 2 rfl rfl) (s1 .nil))))))) (⟨foll hR (cf h2 (cf h4 (ct h20 rfl))),Qn8⟩)
    ·apply ai<;>intro h22
     ·refine us (resize_Abort_c s ((s.nodes.getD (n.toNat) zF).job) QL5 _) ?_;generalize hvab:QV1 s ((s.nodes.getD (n.toNat) zF).job)=ab;(have qab:ab.2.1.length<=64:=by rw [← hvab];exact (QA8 hk0 _).2);refine dchk (by kernel_rfl) ?_;(first|apply u2|apply u3|apply u4|apply us);exact QK1 ab.2.1 QL5 _;(first|refine ⟨Qd1 80 rfl lnA (by first|(simp;omega)|(simp;omega)|grind),?_⟩|refine ⟨QB0 80 rfl (by first|(simp;omega)|(simp;omega)|grind),?_⟩);(repeat ((first|refine ai rfl ?_|refine ai (fun _=>rfl) ?_|refine ai (fun _=>QK1 ab.2.1 QL5 _) ?_)));exact Qg7 ab.2.2 (⟨ab.1,(([(⟨6,⟨#[]⟩,zL,n,4,false⟩:Out)]:List Out)++(Q11 ab.2.1))⟩:Work) (([(⟨6,⟨#[]⟩,zL,n,4,false⟩:Out)]:List Out)++(Q11 ab.2.1)) (wk [1,2,4,5] (tO rfl (ts (l1 LowL.nil)) (tO rfl (ts (l1 (l1 (l1 (l1 (l1 (l1 (l1 (l1 LowL.nil))))))))) (tO rfl (QE1 (c1 (cv (Qg3 lw) (cv (Qg3 lw) (cv (Qg3 lw) (cv (Qg3 lw) (cv (Qg3 lw) (c1 (c1 (cv (to 3 lnA) .nil)))))))))) (tO rfl (tl eqA) .nil)))) (sv (Qy0 0 rfl rfl) (sv (Qy0 1 rfl rfl) (s1 (s1 (sv (Qy0 2 rfl rfl) (s1 .nil))))))) (⟨foll hR (cf h2 (cf h4 (cf h20 (ct h22 (by subst hvab;exact rfl))))),Qn8⟩)
     ·exact Qg7 0 (⟨s,([(⟨6,⟨#[]⟩,zL,n,4,false⟩:Out)]:List Out)⟩:Work) ([(⟨6,⟨#[]⟩,zL,n,4,false⟩:Out)]:List Out) (wk [1,2,4,5] (tO rfl (ts (l1 LowL.nil)) (tO rfl (ts (l1 (l1 (l1 (l1 (l1 (l1 (l1 (l1 LowL.nil))))))))) (tO rfl (QE1 (c1 (cv (Qg3 lw) (cv (Qg3 lw) (cv (Qn7 _ _ rfl (yna _) (by decide) eqA (fun _=>Resize.lowc _ _) lnA) (cv (Qg3 lw) (cv (Qg3 lw) (c1 (c1 (cv (to 3 lnA) .nil)))))))))) (tO rfl (tl eqA) .nil)))) (sv (Qy0 0 rfl rfl) (sv (Qy0 1 rfl rfl) (s1 (s1 (sv (Qy0 2 rfl rfl) (s1 .nil))))))) (⟨foll hR (cf h2 (cf h4 (cf h20 (cf h22 rfl)))),Qn8⟩)
def QS1 (s:State):Nat->Nat->Work->Work
 | 0,_,_=>zP
 | m+1,i,c=>bif (decide ((i:Int)<(((QU0 s.jobs).2).length:Int))) then QS1 s m (i+1) (⟨c.state,(c.told++([(⟨5,⟨#[]⟩,zL,(((QU0 s.jobs).2).getD i 0),6,false⟩:Out)]:List Out))⟩:Work) else c
def Q51 :List Int->Nat->Work->List Out->Work × (List Out)
 | [],_,c2,c3=>((⟨c2.state,c3⟩:Work),c3)
 | x_ :: r,i1,c2,c3=>(fun tf:Job × Bool=>bif (decide (tf.1.choice >= ((Qe0 tf.1.shape).length:Int))) then Q51 r (i1+1) (⟨c2.state,c3⟩:Work) c3 else (fun gr:(List Node) × Int × (List Note) × Int=>bif (gr.2.2.2 != 0) then Q51 r (i1+1) (⟨c2.state,c3⟩:Work) c3 else (fun js:Job × Int=>bif (js.2 != 0) then Q51 r (i1+1) (⟨c2.state,c3⟩:Work) c3 else (fun tp:(List Job) × Int=>bif (tp.2==0) then Q51 r (i1+1) (⟨{ c2.state with nodes:=gr.1,jobs:=tp.1 },((c3++([(⟨4,⟨#[]⟩,zL,x_,js.1.limit,false⟩:Out)]:List Out))++(Q11 gr.2.2.1))⟩:Work) ((c3++([(⟨4,⟨#[]⟩,zL,x_,js.1.limit,false⟩:Out)]:List Out))++(Q11 gr.2.2.1)) else Q51 r (i1+1) (⟨{ c2.state with nodes:=gr.1 },((c3++([(⟨4,⟨#[]⟩,zL,x_,js.1.limit,false⟩:Out)]:List Out))++(Q11 gr.2.2.1))⟩:Work) ((c3++([(⟨4,⟨#[]⟩,zL,x_,js.1.limit,false⟩:Out)]:List Out))++(Q11 gr.2.2.1))) (Qb1 c2.state.jobs js.1)) (QU1 tf.1 c2.state.now gr.2.1)) (Q22 c2.state.nodes (((Qe0 tf.1.shape).getD (Int.toNat tf.1.choice) zA).nodes) 1 x_ c2.state.now)) (Q70 c2.state.jobs x_)
def Q82 (c2:Work) (c3:List Out):State × (List Out) × Int:=(c2.state,c3,0)
def QO3 (anew:Bool) (c:Work):State × (List Out) × Int:=Q82 ((Q51 (Qe1 ((Q30 c anew).state)) 0 (Q30 c anew) ((Q30 c anew).told)).1) ((Q51 (Qe1 ((Q30 c anew).state)) 0 (Q30 c anew) ((Q30 c anew).told)).2)
def Q80 (s:State) (anew:Bool):State × (List Out) × Int:=bif ((QM0 s)!=0) then (zK,[],(QM0 s)) else QO3 anew (QS1 s ((((((QU0 s.jobs).2).length:Int) - (0:Int)).toNat)+1) 0 (⟨{ s with jobs:=(QU0 s.jobs).1 },[]⟩:Work))
theorem QF1 {P:Prop} (h:P:=by first|((with_reducible exact hk0))|first|((exact ⟨hk0.2.1,hk0.2.2.1⟩))|first|((exact hx.1.1))|first|((exact (QMa hx.1.1 anew).1))|first|((exact ⟨hx.1.2.1,hx.1.2.2.1⟩))|first|((exact qtf.2.2.2.1))|first|((exact yea qgr.2 (by decide)))|first|((exact qjs))|first|((exact qtf))|exact szA):P:=h
theorem QM4 {P:Prop} (h:P:=by first|((exact ⟨⟨⟨⟨hk0.1,hdz.1.1,hdz.1.2,hk0.2.2.2⟩,yna _,fun y hy=>nomatch hy⟩,yia _⟩,by omega⟩))|first|((exact ⟨⟨⟨hx.1.1.1,by simp;omega,fun y hy=>(List.mem_append.1 hy).elim (hx.1.1.2.2 y) fun q=>by rw [List.mem_singleton.1 q];exact Qc5⟩,by simp;omega⟩,by omega⟩))|first|((exact ⟨(QMa hx.1.1 anew).1,by omega⟩))|first|((exact ⟨hx.1,by omega⟩))|first|((exact ⟨⟨qgr.1,qtp.1,qtp.2,hx.1.2.2.2⟩,by simp;omega⟩))|first|((exact ⟨⟨qgr.1,hx.1.2.1,hx.1.2.2.1,hx.1.2.2.2⟩,by simp;omega⟩))|exact exA):P:=h
theorem QB3 (s:State) (anew:Bool) (hs0:s.sz):GV 32 [State.a s,Bo anew] (AVal.tup [State.a ((Q80 s anew).1),outL ((Q80 s anew).2.1),I ((Q80 s anew).2.2)]):=by
 generalize hR:Q80 s anew=R;refine ga (.cons (State.low _ _) (l1 .nil)) (Low.tup' (.cons (State.low _ _) (.cons lw (l1 .nil)))) (kp 16 [19,41,42,43,44,58,59,60,61]) Tryz.func32 ?_;have hk0:=hs0;obtain ⟨z15,z16,z17,z18,z19,z20,z21⟩:=hs0;have hdz:=doom_sz ⟨hk0.2.1,hk0.2.2.1⟩;refine us (QF2 s QF1 _) ?_;apply ai<;>intro h1
 ·obtain rfl:=foll hR (ct h1 rfl);exact Q60 (Low.tup' (.cons (State.low _ _) (.cons lw (l1 .nil)))) (Seen.tup (ev (Seen.agg (e1 (ev (Q00) (ev (Q00) (ev (Q00) (ev (Q00) (ev (Q00) (e1 (e1 .nil))))))))) (ev (Q00) (e1 .nil))))
 ·refine us (QJ5 s QF1 _) ?_;refine us (deps_Doom_c s.jobs QF1 _) ?_;refine Qu0 (fun (i:Nat) (c:Work)=>∃ m,(((((QU0 s.jobs).2).length:Int) - (i:Int)).toNat)<m∧QO3 anew (QS1 s m i c)=R∧(c.sz∧c.told.length<=i)∧(i:Int)<=(((QU0 s.jobs).2).length:Int)) (fun i c=>(((((QU0 s.jobs).2).length:Int) - (i:Int)).toNat)) (fun i c=>[(1,Bo anew),(4,AVal.ptr 0 0 8 0 0),(5,AVal.lit (.slice none 0 0)),(6,I 0),(8,AVal.ptr 2 0 1 0 0),(11,AVal.fn (.func 63) [] [AVal.ptr 2 0 1 0 0]),(41,ints ((QU0 s.jobs).2)),(42,I (((QU0 s.jobs).2).length:Int)),(43,I (i:Int))]) (fun i c=>[(0,AObj.row 28 8 [[I 0,AVal.lit (.slice none 0 0),AVal.lit (.slice none 0 0),AVal.lit (.slice none 0 0),AVal.lit (.slice none 0 0),AVal.lit (.slice none 0 0),I 0,I 0]]),(0,AObj.row 111 9 [[I c.state.now,nodeL c.state.nodes,jobL c.state.jobs,Qh1 c.state.resizes,bookL c.state.books,Qt1 c.state.ledger,I c.state.nextJob,I c.state.nextBook,AVal.own 3 0 9 0 c.told.length]]),(0,AObj.row 109 1 [[AVal.ptr 1 0 9 0 0]]),(0,AObj.row 71 9 (c.told.map Out.cells))]) 0 (⟨{ s with jobs:=(QU0 s.jobs).1 },[]⟩:Work) ((QA1 71 9).trans (wk [1,2,3,4] (tO rfl (ts (l1 (l1 (l1 (l1 (l1 (l1 (l1 (l1 LowL.nil))))))))) (tO rfl (QE1 (c1 (cv (Qg3 lw) (cv (Qg3 lw) (cv (Qg3 lw) (cv (Qg3 lw) (cv (Qg3 lw) (c1 (c1 (cv (Q25 3 rfl) .nil)))))))))) (tO rfl (QE1 (cv (Qy0 1 rfl rfl) .nil)) (tO rfl (tl eqA) .nil)))) (s1 (sv (Qy0 0 rfl rfl) (s1 (s1 (sv (Qy0 2 rfl rfl) (sv (QB4 .nil (cv (Qy0 2 rfl rfl) .nil)) (sl lw (s1 (s1 .nil))))))))))) ⟨_,yTa _,foll hR (cf h1 rfl),QM4⟩ ?_;clear hR;rintro i c ⟨m,hm,hR,hx⟩;(try dsimp only at hR hm hx);obtain ⟨m,rfl⟩:=sucA m;apply ai<;>intro h3
  ·have qh3:=yca h3;refine ai gkA ?_;refine ACalls.of_cwp (fun _=>true) Tryz.func63 rfl rfl ?_;refine ACalls.of_cwp (fun _=>true) Tryz.func64 rfl rfl ?_;refine Or.inl ?_;(first|refine ⟨Qd1 80 rfl lnA (by first|(have hj:=hcz.1.1.1.2.1;have hq:=hpa.2;simp;omega)|(simp;omega)|grind),?_⟩|refine ⟨QB0 80 rfl (by first|(have hj:=hcz.1.1.1.2.1;have hq:=hpa.2;simp;omega)|(simp;omega)|grind),?_⟩);refine ⟨_,_,Told.refl,?_⟩;refine ⟨_,_,Told.refl,?_⟩;exact Qc0 (i+1) (⟨c.state,(c.told++([(⟨5,⟨#[]⟩,zL,(((QU0 s.jobs).2).getD i 0),6,false⟩:Out)]:List Out))⟩:Work) (wk [0,1,2,3] (tO rfl (ts (l1 (l1 (l1 (l1 (l1 (l1 (l1 (l1 LowL.nil))))))))) (tO rfl (QE1 (c1 (cv (Qg3 lw) (cv (Qg3 lw) (cv (Qg3 lw) (cv (Qg3 lw) (cv (Qg3 lw) (c1 (c1 (cv (to 3 lnA) .nil)))))))))) (tO rfl (QE1 (cv (Qy0 1 rfl rfl) .nil)) (tO rfl (tl eqA) .nil)))) (s1 (sv (Qy0 0 rfl rfl) (s1 (s1 (sv (Qy0 2 rfl rfl) (sv (QB4 .nil (cv (Qy0 2 rfl rfl) .nil)) (sl lw (s1 (sv (turn_eq (I_eq (wr omA)) lx) .nil)))))))))) omA ⟨m,by exact omA,foll hR (congrArg (fun p:Work=>QO3 anew p) (ct h3 rfl)),QM4⟩
  ·have qh3:=yja h3;replace hR:QO3 anew c=R:=fo2 (fun p:Work=>QO3 anew p) (c) hR (cf h3 rfl);refine us (mv [1,3] (Qba c anew QF1) (dO (dc (d1 (dl lw (dl lw (dl lw (dl lw (dl lw (d1 (d1 (dv (QP3 rfl lnA) .nil)))))))))) (dO (dr eqA) .nil)) (dp (d1 .nil)) (rO (rc (r1 (rv (Ren.low _ lw) (rv (Ren.low _ lw) (rv (Ren.low _ lw) (rv (Ren.low _ lw) (rv (Ren.low _ lw) (r1 (r1 (.cons _ _ _ _ (rw_ 4 0 rfl) .nil)))))))))) (rO rr .nil)) rx) ?_;refine us (squeeze_Due_c ((Q30 c anew).state) QF1 _) ?_;refine QT4 (fun (i1:Nat) (c2:Work) (c3:List Out)=>Q82 (Q51 (List.drop i1 (Qe1 ((Q30 c anew).state))) i1 c2 c3).1 (Q51 (List.drop i1 (Qe1 ((Q30 c anew).state))) i1 c2 c3).2=R∧i1<=(Qe1 ((Q30 c anew).state)).length∧(c2.state.sz∧c3.length<=(Q30 c anew).told.length+65*i1)) (fun i1 c2 c3=>(Qe1 ((Q30 c anew).state)).length - i1) (fun i1 c2 c3=>[(4,AVal.ptr 0 0 8 0 0),(5,AVal.lit (.slice none 0 0)),(6,I 0),(8,AVal.ptr 2 0 1 0 0),(58,ints (Qe1 ((Q30 c anew).state))),(59,I ((Qe1 ((Q30 c anew).state)).length:Int)),(60,I (i1:Int))]) (fun i1 c2 c3=>[(0,AObj.row 28 8 [[I 0,AVal.lit (.slice none 0 0),AVal.lit (.slice none 0 0),AVal.lit (.slice none 0 0),AVal.lit (.slice none 0 0),AVal.lit (.slice none 0 0),I 0,I 0]]),(0,AObj.row 111 9 [[I c2.state.now,nodeL c2.state.nodes,jobL c2.state.jobs,Qh1 c2.state.resizes,bookL c2.state.books,Qt1 c2.state.ledger,I c2.state.nextJob,I c2.state.nextBook,AVal.own 3 0 9 0 c3.length]]),(0,AObj.row 109 1 [[AVal.ptr 1 0 9 0 0]]),(0,AObj.row 71 9 (c3.map Out.cells))]) 0 (Q30 c anew) ((Q30 c anew).told) (wk [0,1,2,4] (tO rfl (ts (l1 (l1 (l1 (l1 (l1 (l1 (l1 (l1 LowL.nil))))))))) (tO rfl (QE1 (c1 (cv (Qg3 lw) (cv (Qg3 lw) (cv (Qg3 lw) (cv (Qg3 lw) (cv (Qg3 lw) (c1 (c1 (cv (to 3 lnA) .nil)))))))))) (tO rfl (QE1 (cv (Qy0 1 rfl rfl) .nil)) (tO rfl (tl eqA) .nil)))) (sv (Qy0 0 rfl rfl) (s1 (s1 (sv (Qy0 2 rfl rfl) (sl lw (s1 (s1 .nil)))))))) ⟨foll hR rfl,by exact omA,QM4⟩ ?_;clear hR;rintro i1 c2 c3 ⟨hR,hj,hx⟩;(try dsimp only at hR hj hx);apply ai<;>intro h5
   ·have hlt:=ltA h5;rw [Qd0 0 hlt] at hR;have hpa:=QMa (‹(c.sz∧c.told.length<=i)∧(i:Int)<=(((QU0 s.jobs).2).length:Int)›).1.1 anew;have hdl:=QT9 hpa.1;have hcz:=(‹(c.sz∧c.told.length<=i)∧(i:Int)<=(((QU0 s.jobs).2).length:Int)›);refine ai gkA ?_;refine ACalls.of_cwp (fun _=>true) Tryz.func67 rfl rfl ?_;refine us (QW1 c2.state.jobs ((Qe1 ((Q30 c anew).state)).getD i1 0) QF1 _) ?_;generalize hvtf:Q70 c2.state.jobs ((Qe1 ((Q30 c anew).state)).getD i1 0)=tf;(obtain ⟨qtf,qtc⟩:tf.1.sz∧0<=tf.1.choice:=by rw [← hvtf];exact ⟨QG2 hx.1.2.2.1 _,find_choice _ _⟩);refine us (Qs2 tf.1.shape QF1 _) ?_;apply ai<;>intro h7
    ·have qh7:=yca h7;refine ⟨_,_,Told.refl,?_⟩;exact QH1 (i1+1) (⟨c2.state,c3⟩:Work) c3 (wk [0,1,2,3] (tO rfl (ts (l1 (l1 (l1 (l1 (l1 (l1 (l1 (l1 LowL.nil))))))))) (tO rfl (QE1 (c1 (cv (Qg3 lw) (cv (Qg3 lw) (cv (Qg3 lw) (cv (Qg3 lw) (cv (Qg3 lw) (c1 (c1 (cv (to 3 lnA) .nil)))))))))) (tO rfl (QE1 (cv (Qy0 1 rfl rfl) .nil)) (tO rfl (tl eqA) .nil)))) (sv (Qy0 0 rfl rfl) (s1 (s1 (sv (Qy0 2 rfl rfl) (sl lw (s1 (sv (turn_eq (I_eq (wr omA)) lx) .nil)))))))) omA ⟨foll hR (congrArg (fun p:Work × (List Out)=>Q82 p.1 p.2) ((by subst hvtf;exact ct h7 rfl))),by exact omA,QM4⟩
    ·have qh7:=yja h7;refine dchk (by kernel_rfl) ?_;refine ai gkA ?_;(first|apply u2|apply u3|apply u4|apply us);exact QZa c2.state.nodes (((Qe0 tf.1.shape).getD (Int.toNat tf.1.choice) zA).nodes) 1 ((Qe1 ((Q30 c anew).state)).getD i1 0) c2.state.now QF1 _;generalize hvgr:Q22 c2.state.nodes (((Qe0 tf.1.shape).getD (Int.toNat tf.1.choice) zA).nodes) 1 ((Qe1 ((Q30 c anew).state)).getD i1 0) c2.state.now=gr;(have qgr:gr.1.length<=4294967296∧gr.2.2.1.length<=64:=by rw [← hvgr];exact ⟨yea (grant_sz _ _ _ _ _).1 hx.1.1,(grant_sz _ _ _ _ _).2⟩);(repeat ((first|refine ai rfl ?_|refine ai (fun _=>rfl) ?_|refine ai (fun _=>by subst hvgr;exact QZa c2.state.nodes (((Qe0 tf.1.shape).getD (Int.toNat tf.1.choice) zA).nodes) 1 ((Qe1 ((Q30 c anew).state)).getD i1 0) c2.state.now QF1 _) ?_)));apply ai<;>intro h9
     ·refine ⟨_,_,Told.refl,?_⟩;exact QH1 (i1+1) (⟨c2.state,c3⟩:Work) c3 (wk [0,1,2,3] (tO rfl (ts (l1 (l1 (l1 (l1 (l1 (l1 (l1 (l1 LowL.nil))))))))) (tO rfl (QE1 (c1 (cv (Qg3 lw) (cv (Qg3 lw) (cv (Qg3 lw) (cv (Qg3 lw) (cv (Qg3 lw) (c1 (c1 (cv (to 3 lnA) .nil)))))))))) (tO rfl (QE1 (cv (Qy0 1 rfl rfl) .nil)) (tO rfl (tl eqA) .nil)))) (sv (Qy0 0 rfl rfl) (s1 (s1 (sv (Qy0 2 rfl rfl) (sl lw (s1 (sv (turn_eq (I_eq (wr omA)) lx) .nil)))))))) omA ⟨foll hR (congrArg (fun p:Work × (List Out)=>Q82 p.1 p.2) ((by subst hvtf;exact cf h7 (by subst hvgr;exact ct h9 rfl)))),by exact omA,QM4⟩
     ·refine dchk (by kernel_rfl) ?_;(first|apply u2|apply u3|apply u4|apply us);exact Qge tf.1 c2.state.now gr.2.1 QF1 _;generalize hvjs:QU1 tf.1 c2.state.now gr.2.1=js;(have qjs:js.1.sz:=by rw [← hvjs];exact job_Start_sz qtf _ _);(repeat ((first|refine ai rfl ?_|refine ai (fun _=>rfl) ?_|refine ai (fun _=>by subst hvjs;exact Qge tf.1 c2.state.now gr.2.1 QF1 _) ?_)));apply ai<;>intro h11
      ·refine ⟨_,_,Told.refl,?_⟩;exact QH1 (i1+1) (⟨c2.state,c3⟩:Work) c3 (wk [0,1,2,3] (tO rfl (ts (l1 (l1 (l1 (l1 (l1 (l1 (l1 (l1 LowL.nil))))))))) (tO rfl (QE1 (c1 (cv (Qg3 lw) (cv (Qg3 lw) (cv (Qg3 lw) (cv (Qg3 lw) (cv (Qg3 lw) (c1 (c1 (cv (to 3 lnA) .nil)))))))))) (tO rfl (QE1 (cv (Qy0 1 rfl rfl) .nil)) (tO rfl (tl eqA) .nil)))) (sv (Qy0 0 rfl rfl) (s1 (s1 (sv (Qy0 2 rfl rfl) (sl lw (s1 (sv (turn_eq (I_eq (wr omA)) lx) .nil)))))))) omA ⟨foll hR (congrArg (fun p:Work × (List Out)=>Q82 p.1 p.2) ((by subst hvtf;exact cf h7 (by subst hvgr;exact cf h9 (by subst hvjs;exact ct h11 rfl))))),by exact omA,QM4⟩
      ·refine ACalls.of_cwp (fun _=>true) Tryz.func93 rfl rfl ?_;refine dchk (by kernel_rfl) ?_;(first|apply u2|apply u3|apply u4|apply us);exact QX1 c2.state.jobs js.1 QF1 QF1 _;generalize hvtp:Qb1 c2.state.jobs js.1=tp;(have qtp:tp.1.length<=4294967296 ∧ ∀ y ∈ tp.1,y.sz:=by rw [← hvtp];first|exact Q72 ⟨hx.1.2.1,hx.1.2.2.1⟩ qjs|exact Q72 ⟨hk0.2.1,hk0.2.2.1⟩ qje);(repeat ((first|refine ai rfl ?_|refine ai (fun _=>rfl) ?_|refine ai (fun _=>by subst hvtp;exact QX1 c2.state.jobs js.1 QF1 QF1 _) ?_)));apply ai<;>intro h13
       ·refine ⟨_,_,Told.refl,?_⟩;refine ACalls.of_cwp (fun _=>true) Tryz.func64 rfl rfl ?_;refine Or.inl ?_;(first|refine ⟨Qd1 80 rfl lnA (by first|(have hj:=hcz.1.1.1.2.1;have hq:=hpa.2;simp;omega)|(simp;omega)|grind),?_⟩|refine ⟨QB0 80 rfl (by first|(have hj:=hcz.1.1.1.2.1;have hq:=hpa.2;simp;omega)|(simp;omega)|grind),?_⟩);refine ⟨_,_,Told.refl,?_⟩;refine dchk (by kernel_rfl) ?_;(first|apply u2|apply u3|apply u4|apply us);exact QK1 gr.2.2.1 QF1 _;(first|refine ⟨Qd1 80 rfl lnA (by first|(have hj:=hcz.1.1.1.2.1;have hq:=hpa.2;simp;omega)|(simp;omega)|grind),?_⟩|refine ⟨QB0 80 rfl (by first|(have hj:=hcz.1.1.1.2.1;have hq:=hpa.2;simp;omega)|(simp;omega)|grind),?_⟩);(repeat ((first|refine ai rfl ?_|refine ai (fun _=>rfl) ?_|refine ai (fun _=>QK1 gr.2.2.1 QF1 _) ?_)));refine ⟨_,_,Told.refl,?_⟩;exact QH1 (i1+1) (⟨{ c2.state with nodes:=gr.1,jobs:=tp.1 },((c3++([(⟨4,⟨#[]⟩,zL,((Qe1 ((Q30 c anew).state)).getD i1 0),js.1.limit,false⟩:Out)]:List Out))++(Q11 gr.2.2.1))⟩:Work) ((c3++([(⟨4,⟨#[]⟩,zL,((Qe1 ((Q30 c anew).state)).getD i1 0),js.1.limit,false⟩:Out)]:List Out))++(Q11 gr.2.2.1)) (wk [0,1,2,3] (tO rfl (ts (l1 (l1 (l1 (l1 (l1 (l1 (l1 (l1 LowL.nil))))))))) (tO rfl (QE1 (c1 (cv (Qg3 lw) (cv (Qg3 lw) (cv (Qg3 lw) (cv (Qg3 lw) (cv (Qg3 lw) (c1 (c1 (cv (to 3 lnA) .nil)))))))))) (tO rfl (QE1 (cv (Qy0 1 rfl rfl) .nil)) (tO rfl (tl eqA) .nil)))) (sv (Qy0 0 rfl rfl) (s1 (s1 (sv (Qy0 2 rfl rfl) (sl lw (s1 (sv (turn_eq (I_eq (wr omA)) lx) .nil)))))))) omA ⟨foll hR (congrArg (fun p:Work × (List Out)=>Q82 p.1 p.2) ((by subst hvtf;exact cf h7 (by subst hvgr;exact cf h9 (by subst hvjs;exact cf h11 (by subst hvtp;exact ct h13 rfl)))))),by exact omA,QM4⟩
       ·refine ⟨_,_,Told.refl,?_⟩;refine ACalls.of_cwp (fun _=>true) Tryz.func64 rfl rfl ?_;refine Or.inl ?_;(first|refine ⟨Qd1 80 rfl lnA (by first|(have hj:=hcz.1.1.1.2.1;have hq:=hpa.2;simp;omega)|(simp;omega)|grind),?_⟩|refine ⟨QB0 80 rfl (by first|(have hj:=hcz.1.1.1.2.1;have hq:=hpa.2;simp;omega)|(simp;omega)|grind),?_⟩);refine ⟨_,_,Told.refl,?_⟩;refine dchk (by kernel_rfl) ?_;(first|apply u2|apply u3|apply u4|apply us);exact QK1 gr.2.2.1 QF1 _;(first|refine ⟨Qd1 80 rfl lnA (by first|(have hj:=hcz.1.1.1.2.1;have hq:=hpa.2;simp;omega)|(simp;omega)|grind),?_⟩|refine ⟨QB0 80 rfl (by first|(have hj:=hcz.1.1.1.2.1;have hq:=hpa.2;simp;omega)|(simp;omega)|grind),?_⟩);(repeat ((first|refine ai rfl ?_|refine ai (fun _=>rfl) ?_|refine ai (fun _=>QK1 gr.2.2.1 QF1 _) ?_)));refine ⟨_,_,Told.refl,?_⟩;exact QH1 (i1+1) (⟨{ c2.state with nodes:=gr.1 },((c3++([(⟨4,⟨#[]⟩,zL,((Qe1 ((Q30 c anew).state)).getD i1 0),js.1.limit,false⟩:Out)]:List Out))++(Q11 gr.2.2.1))⟩:Work) ((c3++([(⟨4,⟨#[]⟩,zL,((Qe1 ((Q30 c anew).state)).getD i1 0),js.1.limit,false⟩:Out)]:List Out))++(Q11 gr.2.2.1)) (wk [0,1,2,3] (tO rfl (ts (l1 (l1 (l1 (l1 (l1 (l1 (l1 (l1 LowL.nil))))))))) (tO rfl (QE1 (c1 (cv (Qg3 lw) (cv (Qg3 lw) (cv (Qg3 lw) (cv (Qg3 lw) (cv (Qg3 lw) (c1 (c1 (cv (to 3 lnA) .nil)))))))))) (tO rfl (QE1 (cv (Qy0 1 rfl rfl) .nil)) (tO rfl (tl eqA) .nil)))) (sv (Qy0 0 rfl rfl) (s1 (s1 (sv (Qy0 2 rfl rfl) (sl lw (s1 (sv (turn_eq (I_eq (wr omA)) lx) .nil)))))))) omA ⟨foll hR (congrArg (fun p:Work × (List Out)=>Q82 p.1 p.2) ((by subst hvtf;exact cf h7 (by subst hvgr;exact cf h9 (by subst hvjs;exact cf h11 (by subst hvtp;exact cf h13 rfl)))))),by exact omA,QM4⟩
   ·rw [Qh0 (l:=(Qe1 ((Q30 c anew).state))) (j:=i1) (geA h5)] at hR;replace hR:Q82 (⟨c2.state,c3⟩:Work) c3=R:=fo2 (fun p:Work × (List Out)=>Q82 p.1 p.2) ((⟨c2.state,c3⟩:Work),c3) hR rfl;refine dchk (by kernel_rfl) ?_;(repeat ((first|refine ai rfl ?_|refine ai (fun _=>rfl) ?_)));obtain rfl:=foll hR rfl;exact Q60 (Low.tup' (.cons (State.low _ _) (.cons lw (l1 .nil)))) (Seen.tup (e1 (ev (Qa0 zM _ rfl eqA lnA) (e1 .nil))))
end Go.Proofs.YtgnlcjenoaoffaaGreatDoor
namespace Go.Proofs.YtgnlcjenoaoffaaGreatDoor
set_option linter.unusedSimpArgs false
set_option linter.unusedVariables false
open Go.Fw
theorem Q1d (s:State):∀ (m i:Nat) (c:Work),(QU0 s.jobs).2.length - i<m->(QS1 s m i c).state=c.state
 | 0,_,_,h=>absurd h (yPb _)
 | m+1,i,c,h=>by
  rw [QS1];cases h1:(decide ((i:Int)<(((QU0 s.jobs).2).length:Int))) with
  | false=>rfl
  | true =>
   have:=yca h1;exact Q1d s m (i+1) _ oA
def Calm (l:List Out):Prop:=∀ o ∈ l,o.raised=false
theorem Calm.append {a b:List Out} (h:Calm a) (g:Calm b):Calm (a++b):=fun o ho=>(List.mem_append.1 ho).elim (h o) (g o)
theorem Calm.one {o:Out} (h:o.raised=false):Calm [o]:=fun x hx=>by rw [List.mem_singleton.1 hx];exact h
theorem Calm.count {l:List Out} (h:Calm l):l.countP (·.raised)=0:=List.countP_eq_zero.2 fun o ho=>by rw [h o ho];decide
theorem calm_sent:∀ (l:List Note) (o:List Out) (i:Nat),Calm o->Calm (QX2 l o i)
 | [],_,_,h=>h
 | x :: r,o,i,h=>by
  rw [QX2];exact calm_sent r _ (i+1) (h.append (.one rfl))
theorem settle_g1 (s:State):∀ (m i:Nat) (c:Work),(QU0 s.jobs).2.length - i<m->Calm c.told->c.told.length<=i->i<=(QU0 s.jobs).2.length ->
  (QS1 s m i c).state=c.state∧Calm (QS1 s m i c).told∧(QS1 s m i c).told.length<=(QU0 s.jobs).2.length
 | 0,_,_,h,_,_,_=>absurd h (yPb _)
 | m+1,i,c,h,hq,hl,hi=>by
  rw [QS1];cases h1:(decide ((i:Int)<(((QU0 s.jobs).2).length:Int))) with
  | false=>exact ⟨rfl,hq,yea hl hi⟩
  | true =>
   have:=yca h1;exact settle_g1 s m (i+1) _ oA (hq.append (.one rfl)) (by rw [yma,ynb];omega) oA
theorem start_found {l:List Job} {id t n:Int} (h:((QU1 (Q70 l id).1 t n).2 != 0)=false):(Q70 l id).2=true:=by
 cases h2:(Q70 l id).2 with
 | true=>rfl
 | false =>
  exfalso;have hz:(Q70 l id).1=zG:=by
   unfold Q70 at h2 ⊢;cases h1:(((Qi0 l)!=0)||(!(QH3 id))) with
   | true=>rfl
   | false =>
    rw [h1] at h2;cases h3:(!(Qq0 l id).2) with
    | true=>rfl
    | false=>rw [h3] at h2;exact nomatch h2
  rw [hz] at h;have hc:Qm0 zG=140:=rfl;unfold QU1 at h;rw [hc] at h;exact nomatch h
theorem put_start {l:List Job} {id t n:Int} (h:((QU1 (Q70 l id).1 t n).2 != 0)=false) (hp:((Qb1 l (QU1 (Q70 l id).1 t n).1).2==0)=true) :
  Row2 StaR l (Qb1 l (QU1 (Q70 l id).1 t n).1).1:=by
 obtain ⟨ht,p,hx,_⟩:=Q0e (start_found h);obtain ⟨e1,e2⟩:=start_told h;have hj:Qm0 (QU1 (Q70 l id).1 t n).1=0:=by
  unfold Qb1 at hp;cases h1:((Qi0 l)!=0) with
  | true=>rw [ht] at h1;exact nomatch h1
  | false =>
   rw [h1,cond_false] at hp;cases h2:((Qm0 (QU1 (Q70 l id).1 t n).1)!=0) with
   | true=>rw [h2,cond_true] at hp;simp at h2;simp at hp;exact absurd hp h2
   | false=>simpa using h2
 rw [put_ok ht hx hj e1];refine (Row2.refl (fun x=>⟨rfl,.inl rfl⟩) l).set fun x hx'=>?_
 rw [hx] at hx';cases hx';exact ⟨e1,.inr e2⟩
theorem settle_g2 (j0:List Job):∀ (r:List Int) (i:Nat) (c:Work) (o:List Out),Row2 StaR j0 c.state.jobs ->
  ∃ q,(Q51 r i c o).2=o++q∧Calm q∧q.length<=65*r.length∧Row2 StaR j0 (Q51 r i c o).1.state.jobs
 | [],i,c,o,h=>⟨[],(yub _).symm,(fun _ h=>nomatch h),yna _,h⟩
 | x :: r,i,c,o,h=>by
  have go:∀ (c':Work) (o' q':List Out),Row2 StaR j0 c'.state.jobs->o'=o++q'->Calm q'->q'.length<=65 ->
    ∃ q,(Q51 r (i+1) c' o').2=o++q∧Calm q∧q.length<=65*(x :: r).length∧Row2 StaR j0 (Q51 r (i+1) c' o').1.state.jobs:=by
   intro c' o' q' h1 h2 h3 h4;obtain ⟨q,e1,e2,e3,e4⟩:=settle_g2 j0 r (i+1) c' o' h1;refine ⟨q'++q,by rw [e1,h2,ytb],h3.append e2,?_,e4⟩;rw [yma,yLa];omega
  have skip:=go (⟨c.state,o⟩:Work) o [] h (yub _).symm (fun _ h=>nomatch h) (yna _);rw [Q51];dsimp only;cases (decide ((Q70 c.state.jobs x).1.choice >= ((Qe0 (Q70 c.state.jobs x).1.shape).length:Int))) with
  | true=>exact skip
  | false =>
   rw [cond_false];generalize (((Qe0 (Q70 c.state.jobs x).1.shape).getD (Int.toNat (Q70 c.state.jobs x).1.choice) zA).nodes)=w;have hg:=grant_sz c.state.nodes w 1 x c.state.now;generalize Q22 c.state.nodes w 1 x c.state.now=gr at hg ⊢;cases (gr.2.2.2 != 0) with
   | true=>exact skip
   | false =>
    rw [cond_false];cases h1:((QU1 (Q70 c.state.jobs x).1 c.state.now gr.2.1).2 != 0) with
    | true=>exact skip
    | false =>
     rw [cond_false];have hq:Calm ([(⟨4,⟨#[]⟩,zL,x,(QU1 (Q70 c.state.jobs x).1 c.state.now gr.2.1).1.limit,false⟩:Out)]++Q11 gr.2.2.1):=Calm.append (.one rfl) (calm_sent _ _ _ fun _ h=>nomatch h);have hl:([(⟨4,⟨#[]⟩,zL,x,(QU1 (Q70 c.state.jobs x).1 c.state.now gr.2.1).1.limit,false⟩:Out)]++Q11 gr.2.2.1).length<=65:=by
      rw [yma,ynb,QX0];omega
     cases h2:((Qb1 c.state.jobs (QU1 (Q70 c.state.jobs x).1 c.state.now gr.2.1).1).2==0) with
     | false=>exact go _ _ _ h (ytb ..) hq hl
     | true=>exact go _ _ _ (Row2.trans (fun a b d p q=>⟨q.1.trans p.1,q.2.elim (fun e=>e ▸ p.2) .inr⟩) h (put_start h1 h2)) (ytb ..) hq hl
def lateB (now:List Job) (x:Job):Bool:=(((((Q70 now x.id).2&&(x.state==1))&&((Q70 now x.id).1.state==1))&&(decide (x.promise >= 0)))&&((decide ((Q70 now x.id).1.promise<0))||(decide ((Q70 now x.id).1.promise > x.promise))))
theorem Qlb (now:List Job):∀ (r:List Job) (out:List Int) (i:Nat),Qe2 now r out i=out++(r.filter (lateB now)).map (·.id)
 | [],out,_=>(yub _).symm
 | x :: r,out,i=>by
  rw [Qe2];show (bif lateB now x then _ else _)=_;cases h:lateB now x with
  | true=>rw [cond_true,Qlb now r,yEb,if_pos h,yob,ytb];rfl
  | false=>rw [cond_false,Qlb now r,yEb,if_neg (by rw [h];decide)]
theorem later_told (was now:List Job):QY0 was now=[]∨(Qi0 was=0∧Qi0 now=0∧QY0 was now=(was.filter (lateB now)).map (·.id)):=by
 unfold QY0 Qw2;cases h:(((Qi0 was)!=0)||((Qi0 now)!=0)) with
 | true=>exact .inl rfl
 | false =>
  simp only [yRa] at h;exact .inr ⟨by simpa using h.1,by simpa using h.2,by rw [cond_false,Qlb];rfl⟩
def NoL (x y:Job):Prop:=y.id=x.id∧(x.state=1->y.state=1->0<=x.promise->0<=y.promise∧y.promise<=x.promise)
theorem Qne {l m:List Job} (ht:Qi0 m=0) {k:Nat} {x y:Job} (hy:m[k]? = some y) (e:y.id=x.id):lateB m x=(((y.state==1)&&(x.state==1))&&(decide (x.promise >= 0))&&((decide (y.promise<0))||(decide (y.promise > x.promise)))):=by
 unfold lateB;rw [← e,QJb ht hy];cases (x.state==1) <;> cases (y.state==1) <;> rfl
theorem later_nil {l m:List Job} (h:Row2 NoL l m):QY0 l m=[]:=by
 rcases later_told l m with e|⟨_,ht,e⟩
 ·exact e
 ·rw [e,List.filter_eq_nil_iff.2,y4b];intro x hx hl;obtain ⟨k,hk⟩:=yNb hx;obtain ⟨y,hy,e1,e2⟩:=h.2 k x hk;rw [Qne (l:=l) ht hy e1] at hl;simp only [yha,yQa,beq_iff_eq,yua] at hl;have:=e2 hl.1.1.2 hl.1.1.1 hl.1.2;omega
theorem idx_mem (v:Int):∀ (l:List Int) (i:Nat),v ∈ l->0<=Qf3 v l i
 | x :: r,i,h=>by
  rw [Qf3];cases h1:(v==x) with
  | true=>exact Int.natCast_nonneg i
  | false=>exact idx_mem v r (i+1) ((List.mem_cons.1 h).resolve_left fun e=>by rw [e,beq_self_eq_true] at h1;cases h1)
theorem has_mem {l:List Int} {v:Int} (h:v ∈ l):QF0 l v=true:=yoa (idx_mem v l 0 h)
def cntR (w:Work) (L:List Int):List Job->Nat->Nat
 | [],_=>0
 | x :: r,i=>(bif (((x.state==1)&&((x.promise != (w.state.jobs.getD i zG).promise)||(x.choice != (w.state.jobs.getD i zG).choice)))&&QF0 L x.id) then 1 else 0)+cntR w L r (i+1)
theorem Qw8 (w c:Work):∀ (r:List Job) (i:Nat) (o:List Out),(Qk1 w c r i o).countP (·.raised)=o.countP (·.raised)+cntR w (QY0 w.state.jobs c.state.jobs) r i ∧
  ((∀ x ∈ o,x.raised=true->x.kind=3) -> ∀ x ∈ Qk1 w c r i o,x.raised=true->x.kind=3) ∧
  (QY0 w.state.jobs c.state.jobs=[]->Calm o->Calm (Qk1 w c r i o))
 | [],_,_=>⟨rfl,fun h=>h,fun _ h=>h⟩
 | x :: r,i,o=>by
  rw [Qk1,cntR];cases h:((x.state==1)&&((x.promise != (w.state.jobs.getD i zG).promise)||(x.choice != (w.state.jobs.getD i zG).choice))) with
  | false =>
   obtain ⟨a,b,d⟩:=Qw8 w c r (i+1) o;exact ⟨by rw [cond_false,a,y1b,cond_false,yda],b,d⟩
  | true =>
   rw [cond_true];generalize hv:QF0 (QY0 w.state.jobs c.state.jobs) x.id=v;obtain ⟨a,b,d⟩:=Qw8 w c r (i+1) (o++[(⟨3,⟨#[]⟩,zL,x.id,x.promise,v⟩:Out)]);refine ⟨?_,fun ho=>b fun y hy hr=>(List.mem_append.1 hy).elim (fun q=>ho y q hr) (fun q=>by rw [List.mem_singleton.1 q]),fun he hc=>d he (hc.append (.one ?_))⟩
   ·rw [a,List.countP_append,y5b];cases v
    ·simp
    ·simp;omega
   ·show v=false;rw [← hv,he]
    rfl
theorem cnt_le (w:Work) (L:List Int) (now:List Job):∀ (l r:List Job) (i:Nat),r.length=l.length->(∀ (k:Nat) (x y:Job),l[k]? = some x->r[k]? = some y->lateB now x=true ->
   (((y.state==1)&&((y.promise != (w.state.jobs.getD (i+k) zG).promise)||(y.choice != (w.state.jobs.getD (i+k) zG).choice)))&&QF0 L y.id)=true)->(l.filter (lateB now)).length<=cntR w L r i
 | [],_,_,_,_=>yna _
 | x :: l,[],_,h,_=>nomatch h
 | x :: l,y :: r,i,h,hk=>by
  have ih:=cnt_le w L now l r (i+1) (Nat.succ.inj h) fun k a b ha hb hl=>by
   have:=hk (k+1) a b (by simpa using ha) (by simpa using hb) hl
   rwa [show i+(k+1)=i+1+k by omega] at this
  rw [cntR,yEb];cases hl:lateB now x with
  | false=>rw [if_neg (by decide)];omega
  | true =>
   have:=hk 0 x y rfl rfl hl;rw [yhb] at this;rw [if_pos rfl,this,cond_true,yLa];omega
theorem deeds_later {s:State} {anew:Bool} (hz:s.sz) (he:((Q80 s anew).2.2 != 0)=false) :
  (anew=false->QY0 s.jobs (Q80 s anew).1.jobs=[]) ∧
  (∀ o ∈ (Q80 s anew).2.1,o.raised=true->o.kind=3∧anew=true) ∧
  (QY0 s.jobs (Q80 s anew).1.jobs).length<=(Q80 s anew).2.1.countP (·.raised) ∧
  (Q80 s anew).2.1.length<=300000000000:=by
 have hdz:=doom_sz ⟨hz.2.1,hz.2.2.1⟩;unfold Q80 at he ⊢;cases h0:((QM0 s)!=0) with
 | true=>rw [h0,cond_true] at he;rw [h0] at he;exact nomatch he
 | false =>
  have hck:QM0 s=0:=by simpa using h0
  have htb:Qi0 s.jobs=0:=(QY6 (check_parts hck).1).2;obtain ⟨hdt,hdr⟩:=doom_row htb;rw [cond_false];obtain ⟨g1,g2,g3⟩:=settle_g1 s ((((((QU0 s.jobs).2).length:Int) - (0:Int)).toNat)+1) 0 (⟨{ s with jobs:=(QU0 s.jobs).1 },[]⟩:Work) oA (fun _ h=>nomatch h) (yia _) (yna _);generalize QS1 s ((((((QU0 s.jobs).2).length:Int) - (0:Int)).toNat)+1) 0 (⟨{ s with jobs:=(QU0 s.jobs).1 },[]⟩:Work)=c at g1 g2 g3;have hcj:c.state.jobs=(QU0 s.jobs).1:=by rw [g1]
  have hcs:c.state.sz:=by rw [g1];exact ⟨hz.1,hdz.1.1,hdz.1.2,hz.2.2.2⟩
  unfold QO3 Q82;obtain ⟨q,e1,e2,e3,e4⟩:=settle_g2 (Q30 c anew).state.jobs (Qe1 (Q30 c anew).state) 0 (Q30 c anew) (Q30 c anew).told (Row2.refl (fun x=>⟨rfl,.inl rfl⟩) _);generalize Q51 (Qe1 (Q30 c anew).state) 0 (Q30 c anew) (Q30 c anew).told=G at e1 e4 ⊢;dsimp only;have hE:Row2 EndR s.jobs c.state.jobs:=hcj ▸ hdr;have hlen:(Q30 c anew).told.length<=c.told.length+c.state.jobs.length∧(Q30 c anew).state.sz:=by
   have key:∀ d:Work,d.state.sz->d.told=c.told->d.state.jobs.length=c.state.jobs.length->(Qw1 c d).told.length<=c.told.length+c.state.jobs.length∧(Qw1 c d).state.sz:=by
    intro d h1 h2 h3;refine ⟨?_,h1⟩;have:=Q09 c d d.state.jobs 0 d.told;rw [h2,h3] at this;rw [← h2] at this ⊢;exact this
   unfold Q30;cases anew with
   | true=>exact key _ (QW9 hcs).1 rfl (QW9 hcs).2
   | false=>exact key _ (Qb6 hcs).1 rfl (Qb6 hcs).2.2
  have hdl:=QT9 hlen.2;have hcl:=hcs.2.1;have H1:anew=false->QY0 s.jobs G.1.state.jobs=[]:=by
   intro ha;subst ha;refine later_nil (Row2.trans (R:=EndR) (S:=fun x y=>y.id=x.id∧(y.state=1->x.state=1)∧(y.state=1->0<=x.promise->0<=y.promise∧y.promise<=x.promise)) ?_ hE ?_)
   ·rintro x y z ⟨a1,a2⟩ ⟨b1,b2,b3⟩;refine ⟨b1.trans a1,fun hx hz h0=>?_⟩;rcases a2 with rfl|⟨_,h6⟩
    ·exact b3 hz h0
    ·have:=b2 hz;omega
   ·have hp:Row2 (fun x y=>y.id=x.id∧y.state=x.state∧(0<=x.promise->0<=y.promise∧y.promise<=x.promise)) c.state.jobs (Q30 c false).state.jobs :=
     Row2.trans (fun x y z a b=>⟨b.1.trans a.1,b.2.1.trans a.2.1,fun h0=>by
      have h1:=a.2.2.1 h0;rcases b.2.2.1 with rfl|h
      ·exact h1
      ·omega⟩) (sqz_row c.state) (frs_row { c.state with jobs:=(QK0 c.state).1 })
    refine Row2.trans (fun x y z a b=>⟨b.1.trans a.1,fun hz=>?_,fun hz h0=>?_⟩) hp e4
    ·rcases b.2 with rfl|h
     ·rw [← a.2.1];exact hz
     ·omega
    ·rcases b.2 with rfl|h
     ·exact a.2.2 h0
     ·omega
  refine ⟨H1,?_,?_,?_⟩
  ·intro o ho hr;rw [e1] at ho;rcases List.mem_append.1 ho with h|h
   ·revert h;unfold Q30 Qw1 QD1;cases anew with
    | true =>
     intro h;exact ⟨(Qw8 c _ _ 0 c.told).2.1 (fun x hx hxr=>by rw [g2 x hx] at hxr;cases hxr) o h hr,rfl⟩
    | false =>
     intro h;exfalso
     have hp:Row2 NoL c.state.jobs (QR1 { c.state with jobs:=(QK0 c.state).1 }).1 :=
      Row2.trans (fun x y z a b=>⟨b.1.trans a.1,fun _ _ h0=>by
       have h1:=a.2.2.1 h0;rcases b.2.2.1 with rfl|h
       ·exact h1
       ·omega⟩) (sqz_row c.state) (frs_row { c.state with jobs:=(QK0 c.state).1 })
     have:=(Qw8 c (⟨{ c.state with jobs:=(QR1 { c.state with jobs:=(QK0 c.state).1 }).1 },c.told⟩:Work) _ 0 c.told).2.2 (later_nil hp) g2 o h;rw [hr] at this;cases this
   ·rw [e2 o h] at hr;cases hr
  ·rcases later_told s.jobs G.1.state.jobs with e|⟨_,ht,e⟩
   ·rw [e];exact yna _
   ·cases anew with
    | false =>
     rw [H1 rfl];exact yna _
    | true =>
     rw [e,yxa,e1,List.countP_append,e2.count,yhb];have hP:=anew_row c.state
     have hpt:Qi0 (QW2 c.state).1=0:=whole_row (hcj ▸ hdt) ⟨hP.1,fun k x hx=>by
      obtain ⟨y,hy,r⟩:=hP.2 k x hx
      exact ⟨y,hy,r.1,r.2.2.1⟩⟩
     have e4':Row2 StaR (QW2 c.state).1 _:=e4;unfold Q30 Qw1 QD1;rw [cond_true];rw [(Qw8 c _ _ 0 c.told).1,g2.count,yda];refine cnt_le c _ _ s.jobs _ 0 (hP.1.trans hE.1) fun k x y hx hy hl=>?_
     obtain ⟨x',hx',a1,a2⟩:=hE.2 k x hx;obtain ⟨y',hy',b1,b2,_⟩:=hP.2 k x' hx';have hyy:y'=y:=Option.some.inj (hy'.symm.trans hy);subst hyy;obtain ⟨z,hz',c1,c2⟩:=e4'.2 k y' hy;have hzx:z.id=x.id:=c1.trans (b1.trans a1);rw [Qne (l:=s.jobs) ht hz' hzx] at hl;simp only [yha,yQa,beq_iff_eq,yua] at hl;obtain ⟨⟨⟨l1,l2⟩,l3⟩,l4⟩:=hl;have hzy:z=y':=c2.resolve_right oA;subst hzy;have hxx:x'=x:=a2.resolve_right fun q=>by omega
     subst hxx;have hg:c.state.jobs.getD (0+k) zG=x':=by rw [yda,yNa,hx'];rfl
     rw [hg];have hm:z.id ∈ QY0 c.state.jobs (QW2 c.state).1:=by
      have hfil:lateB (QW2 c.state).1 x'=true:=by
       rw [Qne (l:=s.jobs) hpt hy b1];simp only [yha,yQa,beq_iff_eq,yua];exact ⟨⟨⟨l1,l2⟩,l3⟩,l4⟩
      unfold QY0 Qw2;rw [show Qi0 c.state.jobs=0 by rw [hcj];exact hdt,hpt,Qlb];refine List.mem_map.2 ⟨x',List.mem_filter.2 ⟨yza hx',hfil⟩,b1.symm⟩
     rw [has_mem hm,Bool.and_true];simp only [yha,yQa,beq_iff_eq,bne_iff_ne];exact ⟨l1,.inl oA⟩
  ·rw [e1,yma];omega
theorem Qr9 (id:Int):∀ (m:Nat) (i:Int) (j:Nat) (c:List Resize),(QT1 id m i j c).2.2.length<=c.length
 | 0,_,_,_=>yna _
 | m+1,i,j,c=>by
  rw [QT1];simp only [yka];split
  ·split
   ·have:=Qr9 id m (w64 (i+1)) (j+1) (c.set (i.toNat) (c.getD j zH))
    rwa [yWa] at this
   ·exact Qr9 id m i (j+1) c
  ·exact yia _
theorem QXd {w:Work} (h:w.sz) (id why:Int) {tp:List Job × Int} (ht:tp.1.length<=4294967296 ∧ ∀ y ∈ tp.1,y.sz):∀ (r:List Resize) (i:Nat),(Q21 w id why tp r i).2.state.sz
 | [],i=>by
  rw [Q21];dsimp only;simp only [yka];split
  ·exact ⟨yea (QM1 _ _ _ _ _).1 h.1.1,ht.1,ht.2,h.1.2.2.2⟩
  ·exact ⟨h.1.1,ht.1,ht.2,h.1.2.2.2⟩
 | x :: r,i=>by
  have ih:=QXd h id why ht r (i+1);have hl:∀ (m:Nat) (a:Int) (b:Nat),(List.take (Int.toNat (QT1 id m a b w.state.resizes).1) (QT1 id m a b w.state.resizes).2.2).length<=4294967296:=fun m a b=>by
   rw [yAa];exact yea (Nat.min_le_right _ _) (yea (Qr9 id m a b w.state.resizes) h.1.2.2.2.1)
  rw [Q21];dsimp only;simp only [yka]
  repeat' first
   | exact ih
   | exact ⟨yea (QM1 _ _ _ _ _).1 h.1.1,ht.1,ht.2,h.1.2.2.2⟩
   | exact ⟨h.1.1,ht.1,ht.2,h.1.2.2.2⟩
   | exact ⟨yea (QM1 _ _ _ _ _).1 h.1.1,ht.1,ht.2,hl _ _ _,h.1.2.2.2.2⟩
   | exact ⟨h.1.1,ht.1,ht.2,hl _ _ _,h.1.2.2.2.2⟩
   | split
theorem ended_st {w:Work} (h:w.sz) (id why:Int):(Qb0 w id why).2.state.sz:=by
 have ht:=Q72 ⟨h.1.2.1,h.1.2.2.1⟩ (Qd6 (QG2 h.1.2.2.1 id) why);unfold Qb0 Qc3;dsimp only;simp only [yka]
 repeat' first
  | exact h.1
  | exact ⟨h.1.1,ht.1,ht.2,h.1.2.2.2⟩
  | exact QXd h id why ht _ _
  | split
theorem QF6 {s:State} (h:s.sz) (id why:Int):(Q50 s id why).1.sz:=by
 have e:=ended_st (w:=⟨s,[]⟩) ⟨h,yna _,fun y hy=>nomatch hy⟩ id why;unfold Q50;dsimp only;simp only [yka]
 repeat' first
  | exact State.szz _
  | exact e
  | split
theorem abort_st {s:State} (h:s.sz) (id:Int):(QV1 s id).1.sz:=by
 unfold QV1;dsimp only;simp only [yka];split
 ·exact State.szz _
 ·split
  ·exact State.szz _
  ·split
   ·exact State.szz _
   ·rename_i _ _ hf;obtain ⟨b1,b2,b3⟩:=QId (by simpa using hf) h.2.2.2.1;have hd:(Qi2 s.resizes ((Q10 s.resizes id bsrF).1) (w64 ((Q10 s.resizes id bsrF).1+1))).length<=4294967296:=by
     rw [b3];unfold Qi2;rw [yma,yAa,yEa];have:=h.2.2.2.1;omega
    repeat' first
     | exact State.szz _
     | exact ⟨yea (QM1 _ _ _ _ _).1 h.1,h.2.1,h.2.2.1,hd,h.2.2.2.2⟩
     | split
theorem lose_go {n:Int} {c:Work} (h:c.state.sz) (o:List Out):∀ (r:List Out) (i:Nat),(QA2 n c o r i).1.sz
 | [],_=>⟨yea (Ql1 _ _ _ _ _) h.1,h.2⟩
 | x :: r,i=>by
  rw [QA2];simp only [yka]
  repeat' first
   | exact ⟨yea (Ql1 _ _ _ _ _) h.1,h.2⟩
   | exact lose_go h o r (i+1)
   | split
theorem lose_sz {s:State} (h:s.sz) (n:Int):(Q90 s n).1.sz:=by
 have k1:∀ (e:Int) (c:Work) (o:List Out),c.state.sz->(Qp2 n e c o).1.sz:=by
  intro e c o hc;unfold Qp2;simp only [yka]
  repeat' first
   | exact State.szz _
   | exact lose_go hc o o 0
   | split
 have hw:(⟨s,[⟨6,⟨#[]⟩,zL,n,4,false⟩]⟩:Work).sz:=⟨h,yfa rfl,fun y hy=>by rw [List.mem_singleton.1 hy];exact Qc5⟩;unfold Q90;dsimp only;simp only [yka]
 repeat' first
  | exact State.szz _
  | exact k1 _ _ _ (ended_st hw _ _)
  | exact k1 _ _ _ (abort_st h _)
  | exact k1 _ _ _ h
  | split
end Go.Proofs.YtgnlcjenoaoffaaGreatDoor
