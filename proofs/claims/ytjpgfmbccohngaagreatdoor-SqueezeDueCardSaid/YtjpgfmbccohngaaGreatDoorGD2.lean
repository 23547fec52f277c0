/-
  Who may start, and in which order: the program's answer is the document's. Conditions stand in each.
  One job's promise made earlier: what the program and the document do of it. Plain facts; conditions stand in each.
  The program's squeezing is the document's; both move promises one by one. Conditions stand in each.
  Which promises are due and which came later: the program's answers are the document's. Conditions stand in each.
  Squeezing never moves a promise to a later tick; a sound plan stays sound. Conditions stand in each.
  What is due may start now. Conditions stand in each.
  The answers that the law of squeezing asks of any program. No condition.
  The same for a row that lists package variables: from a law's contract to the row's statement: the arguments are read, the law is called, they read as they did. Program-independent.
  How arguments are read: structs of the program, with what is known of them. No condition.
  What is read is of a size that a machine holds. No condition.
  What is read as a word is one. No condition.
-/
import Derived.Test.YtjpgfmbccohngaaGreatDoorGD1
import Derived.Test.YtjpgfmbccohngaaGreatDoorG13
import Derived.Test.YtjpgfmbccohngaaGreatDoorG5
import Derived.LaidMore
import Derived.Stop.Joined
import Derived.JoinedOf
import Derived.Handed
import Derived.OpenShut
import Derived.KernelRfl
import Derived.Test.YtjpgfmbccohngaaGreatDoorG7
import Derived.Test.YtjpgfmbccohngaaGreatDoorProg
namespace Go.Proofs.YtjpgfmbccohngaaGreatDoor
set_option linter.unusedSimpArgs false
set_option linter.unusedVariables false
open Go.Fw
theorem QJb (id:Int):∀ (l:List Job) (i:Nat) (c:List (Int × Int)),(∀ x ∈ l,x.id ≠ id)->getM id (Qg1 l i c)=getM id c
 | [],_,_,_=>rfl
 | x :: r,i,c,h=>by
  rw [Qg1,QJb id r (i+1) _ fun y hy=>h y (List.mem_cons_of_mem _ hy),Qb7]
  have:=h x (List.mem_cons_self ..)
  rw [show (id==x.id)=false by simp;omega]
  rfl
theorem QFh (x:Job):∀ (l:List Job) (i:Nat) (c:List (Int × Int)),x ∈ l->l.Pairwise (fun a b=>a.id<b.id)->getM x.id (Qg1 l i c)=some x.state
 | y :: r,i,c,hx,hp=>by
  rw [List.pairwise_cons] at hp
  rw [Qg1]
  rcases List.mem_cons.1 hx with rfl|hx
  ·rw [QJb x.id r (i+1) _ fun z hz=>by have:=hp.1 z hz;omega,Qb7,beq_self_eq_true]
   rfl
  ·exact QFh x r (i+1) _ hx hp.2
theorem state_in {j:Job} (h:Qt0 j=0):j.state=1∨j.state=2∨(3<=j.state∧j.state<=7):=by
 have hs:=Q13 (j:=j) (by rw [h];rfl)
 unfold Qj1 at hs
 cases h1:(j.state==1) with
 | true=>exact .inl (by simpa using h1)
 | false =>
  cases h2:(j.state==2) with
  | true=>exact .inr (.inl (by simpa using h2))
  | false =>
   rw [h1,h2] at hs
   simp [Qn6] at hs
   exact .inr (.inr (by omega))
theorem stands_met {l:List Job} (hp:l.Pairwise (fun a b=>a.id<b.id)) (hc:∀ x ∈ l,Qt0 x=0) (d:Dep):((Qf3 (Qg1 l 0 []) d)!=1) = !(Qxc l d):=by
 by_cases hx:∃ x ∈ l,x.id=d.job
 ·obtain ⟨x,hx,he⟩:=hx
  obtain ⟨k,hk,ha⟩:=QFf x l 0 hx hp
  have hat:QU1 l d.job=(k:Int):=by rw [← he,QU1,ha,Nat.zero_add]
  have hg:getM d.job (Qg1 l 0 [])=some x.state:=by rw [← he];exact QFh x l 0 [] hx hp
  have hget:l.getD k Job.zero=x:=by simp [List.getD_eq_getElem?_getD,hk]
  unfold Qf3 Qxc
  rw [hg,hat,Int.toNat_natCast,hget,decide_eq_false (by omega:¬ (k:Int)<0)]
  have hs:=state_in (hc x hx)
  simp only [Option.isSome_some,Bool.not_true,cond_false,Option.getD_some,Bool.false_or]
  unfold ref15_Over Qn6
  by_cases h3:x.state<3
  ·rw [decide_eq_true h3,decide_eq_false (by omega:¬ x.state >= 3)]
   rfl
  ·rw [decide_eq_false h3,decide_eq_true (by omega:x.state >= 3),decide_eq_true (by omega:x.state<=7)]
   simp only [cond_false,Bool.and_self,Bool.not_true]
   unfold Q83
   cases (d.how==1) <;> cases (d.how==2) <;> cases (d.how==3) <;> cases hq:(x.state==3) <;> simp [bne,hq]
 ·have hn:∀ x ∈ l,x.id ≠ d.job:=fun x h e=>hx ⟨x,h,e⟩
  have hg:getM d.job (Qg1 l 0 [])=none:=QJb d.job l 0 [] hn
  have hat:QU1 l d.job = -1:=QEf d.job l 0 hn
  unfold Qf3 Qxc
  rw [hg,hat]
  rfl
theorem all_eq {l:List Job} (hp:l.Pairwise (fun a b=>a.id<b.id)) (hc:∀ x ∈ l,Qt0 x=0):∀ (r:List Dep) (i:Nat),Q34 (Qg1 l 0 []) r i=Qu8 l r i
 | [],_=>rfl
 | d :: r,i=>by rw [Q34,Qu8,stands_met hp hc,all_eq hp hc r (i+1)]
theorem Qkb {l:List Job} (hp:l.Pairwise (fun a b=>a.id<b.id)) (hc:∀ x ∈ l,Qt0 x=0):∀ (r:List Job) (out:List Int) (i:Nat),Qn2 (Qg1 l 0 []) r out i=(Qb2 l r out i).1
 | [],_,_=>rfl
 | x :: r,out,i=>by
  rw [Qn2,Qb2]
  have ha:QD6 (Qg1 l 0 []) x=Qwc l x:=all_eq hp hc x.after 0
  rw [ha,Qkb hp hc r out (i+1),Qkb hp hc r _ (i+1)]
  cases h1:(x.state==1) <;> cases h2:x.held <;> cases h3:Qwc l x <;> simp [bne,h1]
theorem Q6g {l:List Job} (hl:l.length<=4294967296) (hn:∀ x ∈ l,U64 x.nodes):Q21 l=Qp0 l:=by
 unfold Q21 Qp0
 rw [QH8 l hl hn]
 cases h:((Qk1 l)!=0) with
 | true=>rfl
 | false =>
  have hc:QG0 l=0:=by rw [QH8 l hl hn];simpa using h
  obtain ⟨_,hj,hp⟩:=Qt4 hc
  exact Qkb hp (fun x hx=>by rw [← QLd x (hn x hx)];exact hj x hx) l [] 0
theorem QZ9 (l:List Job):∀ (r:List Job) (out:List Int) (i:Nat) (id:Int),id ∈ (Qb2 l r out i).1->id ∈ out ∨ ∃ x ∈ r,x.id=id∧x.state=1∧x.held=false
 | [],_,_,_,h=>.inl h
 | x :: r,out,i,id,h=>by
  rw [Qb2] at h
  cases hc:(((x.state==1)&&(!x.held))&&(Qwc l x)) with
  | true =>
   rw [hc] at h
   rcases QZ9 l r _ _ id h with h|⟨y,hy,e⟩
   ·rcases List.mem_append.1 h with h|h
    ·exact .inl h
    ·simp at hc
     exact .inr ⟨x,List.mem_cons_self ..,(List.mem_singleton.1 h).symm,hc.1.1,hc.1.2⟩
   ·exact .inr ⟨y,List.mem_cons_of_mem _ hy,e⟩
  | false =>
   rw [hc] at h
   rcases QZ9 l r _ _ id h with h|⟨y,hy,e⟩
   ·exact .inl h
   ·exact .inr ⟨y,List.mem_cons_of_mem _ hy,e⟩
theorem u_in (n:Int):0<=Qc1 n∧Qc1 n<=1000000000000:=by
 unfold Qc1 QU7
 cases h1:decide (n<0) with
 | true=>simp
 | false =>
  cases h2:decide (n > 1000000000000) with
  | true=>simp
  | false=>simp at h1 h2 ⊢;omega
theorem u_id {n:Int} (h:0<=n∧n<=1000000000000):Qc1 n=n:=by
 unfold Qc1 QU7
 rw [decide_eq_false (by omega),decide_eq_false (by omega)]
 rfl
theorem u_min {n:Int} (h:0<=n):Qc1 n=min n 1000000000000:=by
 unfold Qc1 QU7
 rw [decide_eq_false (show ¬ n<0 by omega)]
 cases h2:decide (n > 1000000000000) with
 | true=>have:=of_decide_eq_true h2;show (1000000000000:Int)=_;omega
 | false=>have:=of_decide_eq_false h2;show n=_;omega
def plusU (a n:Int):Int:=min (a+Qc1 n) 1000000000000
theorem plusU_in {a:Int} (n:Int) (h:0<=a∧a<=1000000000000):0<=plusU a n∧plusU a n<=1000000000000:=by
 have:=u_in n
 unfold plusU
 omega
theorem sat_plus {a:Int} (n:Int) (h:0<=a∧a<=1000000000000):QCc ([a,n]:List Int)=plusU a n:=by
 have hn:=u_in n
 have hu:=u_id h
 unfold plusU
 show (bif decide (Qc1 a > 1000000000000) then ((1000000000000:Int),false) else bif decide (Qc1 n > w64 (1000000000000 - Qc1 a)) then ((1000000000000:Int),false) else (w64 (1000000000000 - w64 (w64 (1000000000000 - Qc1 a) - Qc1 n)),true)).1=_
 rw [hu,decide_eq_false (by omega:¬ a > 1000000000000)]
 simp only [cond_false]
 have w1:w64 (1000000000000 - a)=1000000000000 - a:=wr (by omega)
 rw [w1]
 cases h:decide (Qc1 n > 1000000000000 - a) with
 | true =>
  have:=of_decide_eq_true h
  show (1000000000000:Int)=_
  omega
 | false =>
  have:=of_decide_eq_false h
  have w2:w64 (1000000000000 - a - Qc1 n)=1000000000000 - a - Qc1 n:=wr (by omega)
  have w3:w64 (1000000000000 - (1000000000000 - a - Qc1 n))=1000000000000 - (1000000000000 - a - Qc1 n):=wr (by omega)
  show w64 (1000000000000 - w64 (1000000000000 - a - Qc1 n))=_
  rw [w2,w3]
  omega
theorem plus_g1:∀ (l:List Int) (a:Int) (i:Nat),0<=a∧a<=1000000000000->(QN6 l a i).1=l.foldl plusU a
 | [],_,_,_=>rfl
 | x :: r,a,i,h=>by
  have hx:=u_in x
  have w1:w64 (a+Qc1 x)=a+Qc1 x:=wr (by omega)
  have e:QU7 (w64 (a+Qc1 x)) 1000000000000=plusU a x:=by
   rw [w1]
   exact u_min (by omega)
  rw [QN6,e,List.foldl_cons]
  exact plus_g1 r _ (i+1) (plusU_in x h)
theorem QHh (of_:Usage->Int):∀ (l:List Usage) (a:Int) (i:Nat),0<=a∧a<=1000000000000->Q64 of_ l a i=(l.map of_).foldl plusU a
 | [],_,_,_=>rfl
 | x :: r,a,i,h=>by
  rw [Q64,sat_plus _ h,List.map_cons,List.foldl_cons]
  exact QHh of_ r _ (i+1) (plusU_in _ h)
theorem share_g1 (user:ByteArray):∀ (l:List Usage) (out:List Int) (i:Nat),(Qo4 user l out i).1=out++(l.filter fun x=>ByteArray.toList x.user==ByteArray.toList user).map (·.share)
 | [],out,i=>by simp [Qo4]
 | x :: r,out,i=>by
  rw [Qo4]
  cases h:(ByteArray.toList x.user==ByteArray.toList user) with
  | true=>simp only [cond_true];rw [share_g1 user r _ (i+1),List.filter_cons,h];simp
  | false=>simp only [cond_false];rw [share_g1 user r _ (i+1),List.filter_cons,h];simp
theorem Qld (user:ByteArray):∀ (l:List Usage) (a:Int),0<=a∧a<=1000000000000->(l.map fun y:Usage=>(bif (!(ByteArray.toList y.user==ByteArray.toList user)) then 0 else y.share)).foldl plusU a=((l.filter fun x=>ByteArray.toList x.user==ByteArray.toList user).map (·.share)).foldl plusU a
 | [],_,_=>rfl
 | x :: r,a,h=>by
  rw [List.map_cons,List.foldl_cons,List.filter_cons]
  cases hx:(ByteArray.toList x.user==ByteArray.toList user) with
  | true =>
   simp only [Bool.not_true,cond_false,if_true,List.map_cons,List.foldl_cons]
   exact Qld user r _ (plusU_in _ h)
  | false =>
   have e:plusU a 0=a:=by
    have:Qc1 0=0:=rfl
    unfold plusU
    omega
   simp only [Bool.not_false,cond_true,Bool.false_eq_true,if_false]
   rw [e]
   exact Qld user r a h
theorem share_eq (l:List Usage) (hl:l.length<=4294967296) (user:ByteArray):Qv1 l user=QC5 l user:=by
 unfold Qv1 QQ3 QC5 Qh3 Q6b
 rw [QJ6 l hl,QHh _ l 0 0 (by omega),share_g1]
 unfold ref01_Plus Qpc
 rw [List.nil_append,plus_g1 _ 0 0 (by omega),Qld user l 0 (by omega)]
theorem index_g1 (v:Int):∀ (l:List Int) (i:Nat),0<=Q23 v l i ↔ v ∈ l
 | [],i=>by simp [Q23]
 | x :: r,i=>by
  rw [Q23]
  cases h:(v==x) with
  | true =>
   have:v=x:=by simpa using h
   simp [this]
  | false =>
   have:v ≠ x:=by simpa using h
   simp [this,index_g1 v r (i+1)]
theorem contains_iff (l:List Int) (v:Int):Q51 l v=l.any (· == v):=by
 have h:=index_g1 v l 0
 unfold Q51 Qj6
 cases hc:l.any (· == v) with
 | true =>
  have:v ∈ l:=by simpa using hc
  exact decide_eq_true (h.2 this)
 | false =>
  have:v ∉ l:=by simp at hc;exact fun hm=>hc v hm rfl
  exact decide_eq_false fun g=>this (h.1 g)
theorem meant_g2 (x:Job):∀ (l:List Int) (b:Bool) (k:Nat),(Q86 x l b k).1=(b||l.any (· == x.id))
 | [],b,k=>by simp [Q86]
 | y :: r,b,k=>by rw [Q86,meant_g2 x r,List.any_cons,Bool.or_assoc]
def rowOf (l:List Usage) (x:Job):Ranked:=⟨x.id,x.prio,Qv1 l x.user,x.id⟩
def insJ (l:List Usage) (x:Job):List Job->List Job
 | []=>[x]
 | y :: r=>bif Qo6 l y x then y :: insJ l x r else x :: y :: r
theorem ahead_row (l:List Usage) (hl:l.length<=4294967296) (x y:Job):aheadR (rowOf l x) (rowOf l y)=Qo6 l x y:=by
 show ah3 (x.prio,Qv1 l x.user,x.id) (y.prio,Qv1 l y.user,y.id)=_
 unfold Qo6 ah3
 rw [share_eq l hl,share_eq l hl]
 generalize QC5 l x.user=a
 generalize QC5 l y.user=b
 simp only
 rcases Int.lt_trichotomy x.prio y.prio with h|h|h
 ·rw [decide_eq_false (by omega:¬ y.prio<x.prio),decide_eq_false (by omega:¬ x.prio=y.prio),decide_eq_true (by omega:x.prio<y.prio)]
  rfl
 ·rw [decide_eq_false (by omega:¬ y.prio<x.prio),decide_eq_true h,decide_eq_false (by omega:¬ x.prio<y.prio)]
  rcases Int.lt_trichotomy a b with g|g|g
  ·rw [decide_eq_true g];rfl
  ·rw [decide_eq_false (by omega:¬ a<b),decide_eq_true g,decide_eq_false (by omega:¬ a > b)];rfl
  ·rw [decide_eq_false (by omega:¬ a<b),decide_eq_false (by omega:¬ a=b),decide_eq_true (by omega:a > b)];rfl
 ·rw [decide_eq_true (by omega:y.prio<x.prio)]
  rfl
theorem insR_row (l:List Usage) (hl:l.length<=4294967296) (x:Job):∀ o:List Job,insR (rowOf l x) (o.map (rowOf l))=(insJ l x o).map (rowOf l)
 | []=>rfl
 | y :: r=>by
  simp only [List.map_cons,insR,insJ,ahead_row l hl]
  cases Qo6 l y x with
  | true=>simp only [cond_true,List.map_cons,insR_row l hl x r]
  | false=>rfl
theorem ins_g3 (l:List Usage) (x:Job):∀ (a b:List Job) (m:Nat),b.length<m->(a++b).take (Qb5 l (a++b) x m a.length)++[x]++(a++b).drop (Qb5 l (a++b) x m a.length)=a++insJ l x b
 | _,_,0,h=>absurd h (by omega)
 | a,[],m+1,_=>by
  rw [Qb5]
  simp [insJ]
 | a,y :: r,m+1,h=>by
  rw [Qb5]
  have hg:(a++y :: r).getD a.length Job.zero=y:=by simp [List.getD_eq_getElem?_getD]
  rw [hg,show decide (((a.length:Nat):Int)<((a++y :: r).length:Int))=true from decide_eq_true (by simp;omega),Bool.true_and,insJ]
  cases Qo6 l y x with
  | true =>
   have:=ins_g3 l x (a++[y]) r m (by simp at h;omega)
   simp only [List.append_assoc,List.singleton_append,List.length_append,List.length_cons,List.length_nil] at this
   simp only [cond_true]
   simpa using this
  | false=>simp
theorem order_g1 (l:List Usage) (ids:List Int):∀ (r out:List Job) (i:Nat),out.length+r.length<=4294967296->(Qa5 l ids r out i).1=(r.filter fun x=>ids.any (· == x.id)).foldl (fun o x=>insJ l x o) out
 | [],_,_,_=>rfl
 | x :: r,out,i,h=>by
  rw [Qa5]
  simp only [meant_g2,Bool.false_or,List.filter_cons]
  simp only [List.length_cons] at h
  cases hm:ids.any (· == x.id) with
  | false =>
   simp only [Bool.not_false,cond_true,Bool.false_eq_true,if_false]
   exact order_g1 l ids r out (i+1) (by omega)
  | true =>
   have e:=ins_g3 l x [] out (Int.toNat ((out.length:Int) - (0:Int))+1) (by omega)
   simp only [List.nil_append,List.length_nil] at e
   simp only [Bool.not_true,cond_false,if_true,List.foldl_cons]
   rw [e]
   have hlen:(insJ l x out).length=out.length+1:=by
    rw [← e]
    simp
    omega
   exact order_g1 l ids r _ (i+1) (by omega)
theorem ba_rfl (a:ByteArray):(a==a)=true:=by
 show (a.data==a.data)=true
 exact beq_self_eq_true _
theorem ba_eq {a b:ByteArray} (h:(a==b)=true):a=b:=by
 have h':(a.data==b.data)=true:=h
 have:=eq_of_beq h'
 cases a
 cases b
 exact congrArg ByteArray.mk this
instance:ReflBEq ByteArray where
 rfl:=ba_rfl _
instance:LawfulBEq ByteArray where
 eq_of_beq:=ba_eq
theorem QDa (l:List Usage) (ids:List Int):∀ (r:List Job) (o:List Ranked) (i:Nat) (c:List (ByteArray × Int)),(∀ u v,getM u c=some v->v=Qv1 l u)->(QO1 l ids r o i c).1=o++(r.filter fun x=>ids.any (· == x.id)).map (rowOf l)
 | [],o,i,c,_=>by simp [QO1]
 | x :: r,o,i,c,h=>by
  rw [QO1,contains_iff,List.filter_cons]
  cases hm:ids.any (· == x.id) with
  | false =>
   simp only [Bool.not_false,cond_true,Bool.false_eq_true,if_false]
   exact QDa l ids r o (i+1) c h
  | true =>
   simp only [Bool.not_true,cond_false,if_true,List.map_cons]
   cases hg:getM x.user c with
   | none =>
    have hs:getM x.user (setM x.user (Qv1 l x.user) c)=some (Qv1 l x.user):=by rw [Qb7,beq_self_eq_true];rfl
    simp only [Option.isSome_none,Bool.not_false,cond_true,hs,Option.getD_some]
    rw [QDa l ids r _ (i+1) _ fun u v hv=>?_,List.append_assoc]
    ·rfl
    ·rw [Qb7] at hv
     cases hu:(u==x.user) with
     | true=>rw [hu] at hv;simp at hv;rw [eq_of_beq hu];exact hv.symm
     | false=>rw [hu] at hv;exact h u v hv
   | some v =>
    have hv:=h x.user v hg
    simp only [Option.isSome_some,Bool.not_true,cond_false,Option.getD_some]
    rw [QDa l ids r _ (i+1) c h,hv,List.append_assoc]
    rfl
theorem what_g2 (R:List Ranked):∀ (r:List Ranked) (out:List Int) (i:Nat),(Q74 R).drop i=r->Q63 R r out i=out++r.map (·.what)
 | [],out,i,_=>by simp [Q63]
 | x :: r,out,i,h=>by
  obtain ⟨h1,h2⟩:=QR1 Ranked.zero h
  rw [Q63,what_g2 R r _ (i+1) h2,h1]
  simp
theorem told_g4:∀ (l:List Job) (out:List Int) (i:Nat),(Qc5 l out i).1=out++l.map (·.id)
 | [],out,i=>by simp [Qc5]
 | x :: r,out,i=>by rw [Qc5,told_g4 r];simp
theorem fold_rows (l:List Usage) (hl:l.length<=4294967296):∀ (r o:List Job),(r.map (rowOf l)).foldl (fun o x=>insR x o) (o.map (rowOf l))=(r.foldl (fun o x=>insJ l x o) o).map (rowOf l)
 | [],_=>rfl
 | x :: r,o=>by
  simp only [List.map_cons,List.foldl_cons]
  rw [insR_row l hl,fold_rows l hl r]
def Qub (l:List Usage) (ids:List Int) (jobs:List Job):List Job:=(jobs.filter fun x=>ids.any (· == x.id)).foldl (fun o x=>insJ l x o) []
theorem Q49 {jobs:List Job} (hj:jobs.length<=4294967296) (hn:∀ x ∈ jobs,U64 x.nodes) (l:List Usage) (hl:l.length<=4294967296) (ids:List Int):Qe2 jobs l ids=QD1 jobs l ids∧(Qk1 jobs=0->QD1 jobs l ids=(Qub l ids jobs).map (·.id)):=by
 have hd:Qk1 jobs=0->QD1 jobs l ids=(Qub l ids jobs).map (·.id):=by
  intro h
  unfold QD1 Q7b Q8b
  rw [h,order_g1 l ids jobs [] 0 (by simp;omega),told_g4]
  rfl
 refine ⟨?_,hd⟩
 unfold Qe2
 rw [QH8 jobs hj hn]
 cases h:((Qk1 jobs)!=0) with
 | true=>unfold QD1;rw [h];rfl
 | false =>
  rw [hd (by simpa using h)]
  simp only [cond_false]
  unfold Q73 Qr4
  rw [QDa l ids jobs [] 0 [] (fun u v hv=>by cases hv),List.nil_append,what_g2 _ (Q74 _) [] 0 List.drop_zero,List.nil_append]
  have:=fold_rows l hl (jobs.filter fun x=>ids.any (· == x.id)) []
  rw [show Q74 ((jobs.filter fun x=>ids.any (· == x.id)).map (rowOf l))=(Qub l ids jobs).map (rowOf l) from this,List.map_map]
  rfl
theorem insJ_perm (l:List Usage) (x:Job):∀ o,(insJ l x o).Perm (x :: o)
 | []=>.refl _
 | y :: r=>by
  unfold insJ
  cases Qo6 l y x with
  | true=>exact ((insJ_perm l x r).cons y).trans (.swap x y r)
  | false=>exact .refl _
theorem Qm8 (l:List Usage) (ids:List Int) (jobs:List Job):(Qub l ids jobs).Perm (jobs.filter fun x=>ids.any (· == x.id)):=by
 have go:∀ (r o:List Job),(r.foldl (fun o x=>insJ l x o) o).Perm (o++r):=by
  intro r
  induction r with
  | nil=>intro o;simp
  | cons x r ih =>
   intro o
   refine (ih (insJ l x o)).trans ?_
   refine ((insJ_perm l x o).append_right r).trans ?_
   exact List.perm_middle.symm
 have:=go (jobs.filter fun x=>ids.any (· == x.id)) []
 rw [List.nil_append] at this
 exact this
end Go.Proofs.YtjpgfmbccohngaaGreatDoor
namespace Go.Proofs.YtjpgfmbccohngaaGreatDoor
set_option linter.unusedSimpArgs false
set_option linter.unusedVariables false
open Go.Fw
theorem Qi9 {j:Job} (hu:U64 j.nodes) (hc:Qt0 j=0) (h1:j.state=1) (hp:j.promise ≠ -1) :
  Q20 j=(j.promise,((Q60 j.shape).getD (Int.toNat j.choice) Alt.zero).wall+12,((Q60 j.shape).getD (Int.toNat j.choice) Alt.zero).nodes,true)∧Qi0 j=Q20 j:=by
 have hb:=Qt8 (Q13 (j:=j) (by rw [hc];rfl)) (by simp [h1,hp])
 have hm:(Q60 j.shape).getD (Int.toNat j.choice) Alt.zero ∈ Q60 j.shape:=Qa7 (by omega)
 obtain ⟨o1,o2,o3,o4⟩:=QS7 j.shape _ hm
 have hw:w64 (((Q60 j.shape).getD (Int.toNat j.choice) Alt.zero).wall+12)=((Q60 j.shape).getD (Int.toNat j.choice) Alt.zero).wall+12:=wr (by omega)
 have e:Qi0 j=(j.promise,((Q60 j.shape).getD (Int.toNat j.choice) Alt.zero).wall+12,((Q60 j.shape).getD (Int.toNat j.choice) Alt.zero).nodes,true):=by
  unfold Qi0
  rw [show ((j.state != 1)||(j.promise==(-1)))=false by simp [h1,hp],hw]
  rfl
 have e2:Q20 j=Qi0 j:=by
  rw [claim_eq hu]
  unfold QF9
  rw [hc]
  rfl
 exact ⟨e2.trans e,e2.symm⟩
def Well (c:State):Prop:=c.sz∧(∀ x ∈ c.jobs,U64 x.nodes)∧Qp6 c=0
theorem Well.room {c:State} (h:Well c):QN1 c=0:=by rw [room_eq c h.1 h.2.1];exact h.2.2
theorem Well.parts {c:State} (h:Well c):(0<=c.now∧c.now<=1000000)∧(∀ x ∈ c.jobs,Qt0 x=0)∧c.jobs.Pairwise (fun a b=>a.id<b.id)∧Qk1 c.jobs=0:=by
 obtain ⟨h1,_⟩:=Qf5 h.room
 obtain ⟨_,_,f3,_,f5,_⟩:=QKa h.1 h.2.1 h.room
 exact ⟨h1,f3,f5,by simpa using QP9 (s:=c) (by rw [h.2.2];rfl)⟩
end Go.Proofs.YtjpgfmbccohngaaGreatDoor
namespace Go.Proofs.YtjpgfmbccohngaaGreatDoor
set_option linter.unusedSimpArgs false
set_option linter.unusedVariables false
open Go.Fw
theorem Well.rp {c:State} (h:Well c) (ex:List Int):Qv0 c ex=Qz2 c ex∧Rp (Qv0 c ex) (Qt7 c ex) 200:=room_rp h.1 h.2.1 h.room ex
theorem clAt_of {j:Job} (hu:U64 j.nodes) (hc:Qt0 j=0) (h1:j.state=1) (hp:j.promise ≠ -1) (t:Int) :
  clAt t j=if (Q20 j).1<=t∧t<(Q20 j).1+(Q20 j).2.1 then (Q20 j).2.2.1 else 0:=by
 obtain ⟨e1,e2⟩:=Qi9 hu hc h1 hp
 unfold clAt
 rw [e2,e1]
 simp
theorem own_cn {c:State} (h:Well c) (ex:List Int):Cn (Qz2 c ex):=by
 rw [← (h.rp ex).1]
 exact (h.rp ex).2.cn (by omega) (Qtg h.1 h.2.1 h.room ex)
def prom (s:State) (x:Int):Bool:=(Qy0 s.jobs x).2&&(decide ((Qy0 s.jobs x).1.promise >= 0))
theorem Qx9 (s:State):∀ (l out:List Int) (i:Nat),Qu1 s l out i=out++l.filter (prom s)
 | [],out,i=>by simp [Qu1]
 | x :: r,out,i=>by
  rw [Qu1,List.filter_cons,Qx9 s r,Qx9 s r]
  show (bif prom s x then _ else _)=_
  cases prom s x <;> simp
theorem QCg {s:State} (hs:Well s):(QD1 s.jobs s.ledger (Qp0 s.jobs)).Nodup ∧ ∀ x ∈ QD1 s.jobs s.ledger (Qp0 s.jobs),∃ (k:Nat) (j:Job),s.jobs[k]? = some j∧s.jobs[k]? = some j∧j.id=x∧j.state=1:=by
 obtain ⟨_,hch,hpw,h15⟩:=hs.parts
 have ho:=(Q49 hs.1.2.1 hs.2.1 s.ledger hs.1.2.2.2.2.2.1 (Qp0 s.jobs)).2 h15
 have hperm:=Qm8 s.ledger (Qp0 s.jobs) s.jobs
 rw [ho]
 constructor
 ·have hn:(s.jobs.map (·.id)).Nodup:=by
   refine (List.pairwise_map.2 hpw).imp ?_
   intro a b h e
   rw [e] at h
   exact Int.lt_irrefl _ h
  have hf:((s.jobs.filter fun x=>(Qp0 s.jobs).any (· == x.id)).map (·.id)).Nodup:=hn.sublist ((List.filter_sublist).map _)
  exact (hperm.map (·.id)).symm.nodup hf
 ·intro x hx
  obtain ⟨j,hj,rfl⟩:=List.mem_map.1 hx
  have hjf:=hperm.mem_iff.1 hj
  obtain ⟨hjm,hje⟩:=List.mem_filter.1 hjf
  obtain ⟨k,hk⟩:=List.getElem?_of_mem hjm
  refine ⟨k,j,hk,hk,rfl,?_⟩
  have hje':j.id ∈ Qp0 s.jobs:=by simpa using hje
  have hel:j.id ∈ (Qb2 s.jobs s.jobs [] 0).1:=by
   unfold Qp0 at hje'
   rw [h15] at hje'
   exact hje'
  rcases QZ9 s.jobs s.jobs [] 0 j.id hel with h|⟨y,hy,e,hy1,_⟩
  ·cases h
  ·have:Q81 s.jobs j.id=y:=by rw [← e];exact QP3 hpw hy
   rw [QP3 hpw hjm] at this
   rw [this]
   exact hy1
theorem QGg {s:State} (hz:s.sz) (hu:∀ x ∈ s.jobs,U64 x.nodes) (h:QC1 s=0):Well s∧Qw2 s.ledger=0:=by
 unfold QC1 at h
 cases h1:((QN1 s)!=0) with
 | true=>rw [h1] at h;cases h
 | false =>
  cases h2:((Qw2 s.ledger)!=0) with
  | true=>rw [h1,h2] at h;cases h
  | false =>
   have e1:QN1 s=0:=by simpa using h1
   exact ⟨⟨hz,hu,by rw [← room_eq s hz hu];exact e1⟩,by simpa using h2⟩
end Go.Proofs.YtjpgfmbccohngaaGreatDoor
namespace Go.Proofs.YtjpgfmbccohngaaGreatDoor
set_option linter.unusedSimpArgs false
set_option linter.unusedVariables false
open Go.Fw
def dueP (s:State) (x:Int):Bool:=!(decide ((Qy0 s.jobs x).1.promise > s.now))
theorem del_go (s:State) (P:List Int) (hl:P.length<=1000000):∀ (m i j:Nat) (c:List Int),c.length=P.length->c.length - j<m->i<=j->j<=c.length->c.drop j=P.drop j->c.take i=(P.take j).filter (dueP s) ->
  List.take (Int.toNat (QF2 s m (i:Int) j c).1) (QF2 s m (i:Int) j c).2.2=P.filter (dueP s)
 | 0,_,_,_,_,h,_,_,_,_=>absurd h (by omega)
 | m+1,i,j,c,hlen,hm,hij,hj,hd,ht=>by
  rw [QF2]
  cases h:decide ((j:Int)<(c.length:Int)) with
  | false =>
   have hj':j=c.length:=by have:=of_decide_eq_false h;omega
   simp only [cond_false,Int.toNat_natCast]
   rw [ht,hj',hlen,List.take_length]
  | true =>
   have hlt:j<c.length:=by have:=of_decide_eq_true h;omega
   have hx:c.getD j 0=P.getD j 0:=by
    have e:(c.drop j)[0]? = (P.drop j)[0]?:=by rw [hd]
    simp only [List.getElem?_drop,Nat.add_zero] at e
    rw [List.getD_eq_getElem?_getD,List.getD_eq_getElem?_getD,e]
   have hP:P[j]? = some (P.getD j 0):=by
    rw [List.getD_eq_getElem?_getD,List.getElem?_eq_getElem (by omega)]
    rfl
   have htk:(P.take (j+1)).filter (dueP s)=(P.take j).filter (dueP s)++(if dueP s (P.getD j 0) then [P.getD j 0] else []):=by
    rw [List.take_add_one,hP,List.filter_append]
    simp [List.filter_cons]
   have hd1:c.drop (j+1)=P.drop (j+1):=by
    have:=congrArg (List.drop 1) hd
    simpa [List.drop_drop] using this
   simp only [cond_true]
   rw [hx]
   have hdp:(!(decide ((Qy0 s.jobs (P.getD j 0)).1.promise > s.now)))=dueP s (P.getD j 0):=rfl
   rw [hdp]
   cases hq:dueP s (P.getD j 0) with
   | false =>
    simp only [cond_false]
    rw [hq] at htk
    exact del_go s P hl m i (j+1) c hlen (by omega) (by omega) (by omega) hd1 (by rw [ht,htk];simp)
   | true =>
    simp only [cond_true]
    rw [hq] at htk
    have hw:w64 ((i:Int)+1)=((i+1:Nat):Int):=wr (by omega)
    rw [hw,Int.toNat_natCast]
    refine del_go s P hl m (i+1) (j+1) (c.set i (P.getD j 0)) (by rw [List.length_set];exact hlen) (by rw [List.length_set];omega) (by omega) (by rw [List.length_set];omega) ?_ ?_
    ·rw [List.drop_set_of_lt (by omega)]
     exact hd1
    ·rw [htk,List.take_add_one,List.take_set_of_le (by omega),ht,List.getElem?_set]
     simp [show i<c.length by omega]
theorem due_go (s:State) (hl:(Q10 s).length<=1000000):∀ (r:List Int) (i:Nat),(Q10 s).drop i=r->(∀ x ∈ (Q10 s).take i,dueP s x=true)->Qs4 s r i=(Q10 s).filter (dueP s)
 | [],i,hd,hq=>by
  have:(Q10 s).length<=i:=by have:=congrArg List.length hd;simp at this;omega
  rw [List.take_of_length_le this] at hq
  exact (List.filter_eq_self.2 hq).symm
 | x :: r,i,hd,hq=>by
  obtain ⟨h1,h2⟩:=QR1 0 hd
  have hlen:=congrArg List.length hd
  simp only [List.length_drop,List.length_cons] at hlen
  have hP:(Q10 s)[i]? = some x:=by
   have:((Q10 s).drop i)[0]? = some x:=by rw [hd];rfl
   simpa using this
  rw [Qs4,h1]
  cases h:decide ((Qy0 s.jobs x).1.promise > s.now) with
  | true =>
   have hx:dueP s x=false:=by unfold dueP;rw [h];rfl
   rw [show ((i:Int)==(-1))=false from beq_eq_false_iff_ne.2 (by omega)]
   simp only [cond_true,cond_false]
   refine del_go s _ hl _ i (i+1) _ rfl (by omega) (by omega) (by omega) rfl ?_
   rw [List.take_add_one,hP,List.filter_append,List.filter_eq_self.2 hq]
   simp [hx]
  | false =>
   simp only [cond_false]
   refine due_go s hl r (i+1) h2 fun y hy=>?_
   rw [List.take_add_one,hP] at hy
   rcases List.mem_append.1 hy with hy|hy
   ·exact hq y hy
   ·simp at hy
    subst hy
    unfold dueP
    rw [h]
    rfl
theorem QHg {s:State} (hs:Well s):Q10 s=(QD1 s.jobs s.ledger (Qp0 s.jobs)).filter (prom s):=by
 unfold Q10 QE1
 rw [Qx9,Q6g hs.1.2.1 hs.2.1,(Q49 hs.1.2.1 hs.2.1 s.ledger hs.1.2.2.2.2.2.1 _).1]
 rfl
theorem rdue_g1 (s:State):∀ (l out:List Int) (i:Nat),(QD5 s l out i).1=out++l.filter (fun x=>(decide ((Q81 s.jobs x).promise >= 0))&&(decide ((Q81 s.jobs x).promise<=s.now)))
 | [],out,i=>by simp [QD5]
 | x :: r,out,i=>by
  rw [QD5,List.filter_cons]
  cases ((decide ((Q81 s.jobs x).promise >= 0))&&(decide ((Q81 s.jobs x).promise<=s.now))) <;> simp [rdue_g1 s r]
theorem order_le {s:State} (hs:Well s):(QD1 s.jobs s.ledger (Qp0 s.jobs)).length<=40:=by
 obtain ⟨_,_,_,h15⟩:=hs.parts
 rw [(Q49 hs.1.2.1 hs.2.1 s.ledger hs.1.2.2.2.2.2.1 (Qp0 s.jobs)).2 h15,List.length_map,(Qm8 s.ledger (Qp0 s.jobs) s.jobs).length_eq]
 have h1:=List.length_filter_le (fun x:Job=>(Qp0 s.jobs).any (· == x.id)) s.jobs
 obtain ⟨_,_,_,f4,_⟩:=QKa hs.1 hs.2.1 hs.room
 omega
theorem due_told {s:State} (hs:Well s) (hl:Qw2 s.ledger=0):Qw0 s=(QD1 s.jobs s.ledger (Qp0 s.jobs)).filter (fun x=>(decide ((Q81 s.jobs x).promise >= 0))&&(decide ((Q81 s.jobs x).promise<=s.now)))∧ref22_Due s=Qw0 s:=by
 have hroom:=hs.room
 have hl':Q47 s.ledger=0:=by rw [← QJ6 s.ledger hs.1.2.2.2.2.2.1];exact hl
 have hpc:QC1 s=0:=by unfold QC1;rw [hroom,hl];rfl
 have hpc':Qp4 s=0:=by unfold Qp4;rw [hs.2.2,hl'];rfl
 obtain ⟨_,h2⟩:=QCg hs
 obtain ⟨_,_,hpw,_⟩:=hs.parts
 have htab:QG0 s.jobs=0:=(Qf5 hs.room).2.2.1
 have hle:=order_le hs
 have hpl:(Q10 s).length<=1000000:=by
  rw [QHg hs]
  have:=List.length_filter_le (prom s) (QD1 s.jobs s.ledger (Qp0 s.jobs))
  omega
 have e:Qw0 s=(QD1 s.jobs s.ledger (Qp0 s.jobs)).filter (fun x=>(decide ((Q81 s.jobs x).promise >= 0))&&(decide ((Q81 s.jobs x).promise<=s.now))):=by
  unfold Qw0
  rw [hpc]
  simp only [bne_self_eq_false,cond_false]
  rw [due_go s hpl (Q10 s) 0 rfl (by simp),QHg hs,List.filter_filter]
  refine List.filter_congr fun x hx=>?_
  obtain ⟨k,j,hk,_,hjx,_⟩:=h2 x hx
  have hf:Qy0 s.jobs x=(j,true):=by rw [← hjx];exact QW5 htab hk
  have hg:Q81 s.jobs x=j:=by rw [← hjx];exact QP3 hpw (List.mem_of_getElem? hk)
  unfold prom dueP
  rw [hf,hg]
  by_cases a:j.promise >= 0 <;> by_cases b:j.promise<=s.now
  ·simp [a,b,show ¬ j.promise > s.now by omega]
  ·simp [a,b,show j.promise > s.now by omega]
  ·simp [a,b,show ¬ j.promise > s.now by omega]
  ·simp [a,b,show j.promise > s.now by omega]
 refine ⟨e,?_⟩
 rw [e]
 unfold ref22_Due Q5e
 rw [hpc',rdue_g1]
 rfl
end Go.Proofs.YtjpgfmbccohngaaGreatDoor
namespace Go.Proofs.YtjpgfmbccohngaaGreatDoor
set_option linter.unusedSimpArgs false
set_option linter.unusedVariables false
open Go.Fw
theorem any_Job (l:List Job) (f:Job->Bool):QM2 l f=l.any f:=QQ7 f _ (fun _=>rfl) (fun _ _ _=>rfl) l 0
def Keeps (c:State):Prop:=∀ y ∈ c.jobs,y.state=1->y.promise ≠ -1->(Q20 y).1+(Q20 y).2.1<=1000000 ∧ ∀ u,max (Q20 y).1 c.now<=u->u<(Q20 y).1+(Q20 y).2.1->0<=Qt7 c [] u
theorem least_keeps {c:State} (h:Well c) {a b:Int} (h0:0<=a) (hb:b<=1000000):(QF0 (Qv0 c []) a b<0) ↔ ¬ ∀ u,a<=u->u<b->0<=Qt7 c [] u:=by
 by_cases hab:a<b
 ·have hr:=(h.rp []).2
  have hcn:=own_cn h []
  rw [← (h.rp []).1] at hcn
  have hi:=Qfd hcn 0 h0 (by omega) hab
  have e:(∀ u,a<=u->u<b->0<=pat (Qv0 c []) u) ↔ (∀ u,a<=u->u<b->0<=Qt7 c [] u) :=
   ⟨fun g u x y=>by rw [← hr.2.2 u (by omega) (by omega)];exact g u x y,fun g u x y=>by rw [hr.2.2 u (by omega) (by omega)];exact g u x y⟩
  rw [← e,← hi]
  omega
 ·have:QF0 (Qv0 c []) a b=0:=by
   unfold QF0
   rw [decide_eq_true (show b<=a by omega),Bool.or_true]
   rfl
  rw [this]
  exact ⟨fun g=>absurd g (by decide),fun g=>absurd (fun u x y=>absurd x (by omega)) g⟩
theorem claim_no {j:Job} (h:¬ (j.state=1∧j.promise ≠ -1)):(Q20 j).2.2.2=false:=by
 unfold Q20
 have:((((QW2 j)!=0)||(j.state != 1))||(decide (j.promise<0)))=true:=by
  by_cases h1:j.state=1
  ·have h2:j.promise = -1:=Classical.byContradiction fun g=>h ⟨h1,g⟩
   rw [h2]
   simp
  ·rw [bne_iff_ne.2 h1]
   simp
 rw [this]
 rfl
theorem Q6h {c:State} (h:Well c) (hl:Qw2 c.ledger=0):QB4 c=true ↔ Keeps c:=by
 have hpc:QC1 c=0:=by unfold QC1;rw [h.room,hl];rfl
 obtain ⟨hnow,hch,hpw,_⟩:=h.parts
 unfold QB4
 rw [hpc,any_Job]
 simp only [bne_self_eq_false,cond_false,Bool.not_eq_true',List.any_eq_false]
 have one:∀ y ∈ c.jobs,(¬ ((Q20 y).2.2.2&&((decide ((w64 ((Q20 y).1+(Q20 y).2.1)) > 1000000))||(decide ((QF0 (Qv0 c []) (max (Q20 y).1 c.now) (w64 ((Q20 y).1+(Q20 y).2.1)))<0))))=true) ↔
   (y.state=1->y.promise ≠ -1->(Q20 y).1+(Q20 y).2.1<=1000000 ∧ ∀ u,max (Q20 y).1 c.now<=u->u<(Q20 y).1+(Q20 y).2.1->0<=Qt7 c [] u):=by
  intro y hy
  by_cases hc:y.state=1∧y.promise ≠ -1
  ·obtain ⟨e1,e2⟩:=Qi9 (h.2.1 y hy) (hch y hy) hc.1 hc.2
   obtain ⟨c1,c2,c3⟩:=QY8 (hch y hy)
   rw [e2] at c1 c2 c3
   have hw:w64 ((Q20 y).1+(Q20 y).2.1)=(Q20 y).1+(Q20 y).2.1:=wr (by omega)
   have e3:(Q20 y).2.2.2=true:=by rw [e1]
   rw [hw,e3,Bool.true_and]
   by_cases g:(Q20 y).1+(Q20 y).2.1<=1000000
   ·have lk:=least_keeps h (a:=max (Q20 y).1 c.now) (by omega) g
    rw [decide_eq_false (show ¬ (Q20 y).1+(Q20 y).2.1 > 1000000 by omega),Bool.false_or,decide_eq_true_iff,lk,Classical.not_not]
    exact ⟨fun k _ _=>⟨g,k⟩,fun k=>(k hc.1 hc.2).2⟩
   ·rw [decide_eq_true (show (Q20 y).1+(Q20 y).2.1 > 1000000 by omega),Bool.true_or]
    exact ⟨fun k=>absurd rfl k,fun k=>absurd (k hc.1 hc.2).1 g⟩
  ·rw [claim_no hc,Bool.false_and]
   exact ⟨fun _ a b=>absurd ⟨a,b⟩ hc,fun _ k=>by cases k⟩
 exact ⟨fun k y hy=>(one y hy).1 (k y hy),fun k y hy=>(one y hy).2 (k y hy)⟩
theorem Q5h {s:State} (h:QB4 s=true):QC1 s=0:=by
 refine Classical.byContradiction fun g=>?_
 unfold QB4 at h
 rw [bne_iff_ne.2 g] at h
 cases h
end Go.Proofs.YtjpgfmbccohngaaGreatDoor
namespace Go.Proofs.YtjpgfmbccohngaaGreatDoor
set_option linter.unusedSimpArgs false
set_option linter.unusedVariables false
open Go.Fw
def sumC (jobs:List Job):List Int->Int
 | []=>0
 | x :: r=>(Q20 (Q81 jobs x)).2.2.1+sumC jobs r
theorem sumC_perm (jobs:List Job) {a b:List Int} (h:a.Perm b):sumC jobs a=sumC jobs b:=by
 induction h with
 | nil=>rfl
 | cons x _ ih=>simp only [sumC,ih]
 | swap x y l=>simp only [sumC];omega
 | trans _ _ h1 h2=>exact h1.trans h2
def dueQ (s:State) (x:Int):Bool:=(decide ((Q81 s.jobs x).promise >= 0))&&(decide ((Q81 s.jobs x).promise<=s.now))
theorem due_sum {s:State} (h:Well s) (e:Job->Bool) (he:∀ x ∈ s.jobs,e x=true->x.state=1) (hp:∀ x ∈ s.jobs,x.state=1->0<=x.promise->s.now<=x.promise) :
  ∀ r:List Job,(∀ x ∈ r,x ∈ s.jobs)->sumC s.jobs (((r.filter e).map (·.id)).filter (dueQ s))<=clsAt [] s.now r
 | [],_=>Int.le_refl _
 | x :: r,hm=>by
  have ih:=due_sum h e he hp r fun y hy=>hm y (List.mem_cons_of_mem _ hy)
  have hx:=hm x (List.mem_cons_self ..)
  obtain ⟨_,hch,hpw,_⟩:=h.parts
  have hc0:=(clAt_bd s.now (hch x hx)).1
  simp only [clsAt,List.any_nil,Bool.false_eq_true,if_false]
  rw [List.filter_cons]
  by_cases h1:e x=true
  ·rw [if_pos h1,List.map_cons,List.filter_cons]
   have hg:Q81 s.jobs x.id=x:=QP3 hpw hx
   by_cases h2:dueQ s x.id=true
   ·rw [if_pos h2,sumC,hg]
    unfold dueQ at h2
    rw [hg] at h2
    simp only [Bool.and_eq_true,decide_eq_true_eq] at h2
    have hst:=he x hx h1
    have hle:=hp x hx hst (by omega)
    have hpx:x.promise ≠ -1:=by omega
    obtain ⟨e1,e2⟩:=Qi9 (h.2.1 x hx) (hch x hx) hst hpx
    have hb:=Qt8 (Q13 (j:=x) (by rw [hch x hx];rfl)) (by simp [hst,hpx])
    have hmo:(Q60 x.shape).getD (Int.toNat x.choice) Alt.zero ∈ Q60 x.shape:=Qa7 (by omega)
    obtain ⟨o1,o2,o3,o4⟩:=QS7 x.shape _ hmo
    have hcl:clAt s.now x=(Q20 x).2.2.1:=by
     rw [clAt_of (h.2.1 x hx) (hch x hx) hst hpx,e1,if_pos]
     simp only
     omega
    omega
   ·rw [if_neg h2]
    omega
  ·rw [if_neg h1]
   omega
theorem due_g3 {s:State} (h:Well s):∀ (l:List Int) (want:Int) (i:Nat),(∀ x ∈ l,∃ j ∈ s.jobs,j.id=x∧j.state=1∧j.promise ≠ -1)->0<=want->want+48*(l.length:Int)<=1000000 -> ∃ i',QT0 s l want i=Sum.inr (want+sumC s.jobs l,i')
 | [],want,i,_,_,_=>⟨i,by rw [QT0,sumC,Int.add_zero]⟩
 | x :: r,want,i,hm,h0,hb=>by
  obtain ⟨j,hj,e,h1,hp⟩:=hm x (List.mem_cons_self ..)
  obtain ⟨_,hch,hpw,_⟩:=h.parts
  obtain ⟨k,hk⟩:=List.getElem?_of_mem hj
  have hf:Qy0 s.jobs x=(j,true):=by rw [← e];exact QW5 (Qf5 h.room).2.2.1 hk
  have hg:Q81 s.jobs x=j:=by rw [← e];exact QP3 hpw hj
  obtain ⟨e1,e2⟩:=Qi9 (h.2.1 j hj) (hch j hj) h1 hp
  obtain ⟨c1,c2,c3⟩:=QY8 (hch j hj)
  rw [e2] at c1 c2 c3
  have e3:(Q20 j).2.2.2=true:=by rw [e1]
  simp only [List.length_cons] at hb
  have hw:w64 (want+(Q20 j).2.2.1)=want+(Q20 j).2.2.1:=wr (by omega)
  obtain ⟨i',ih⟩:=due_g3 h r (want+(Q20 j).2.2.1) (i+1) (fun y hy=>hm y (List.mem_cons_of_mem _ hy)) (by omega) (by omega)
  refine ⟨i',?_⟩
  rw [QT0,hf]
  simp only
  rw [e3,hw]
  simp only [Bool.not_true,Bool.or_self,cond_false]
  rw [ih,sumC,hg,Int.add_assoc]
theorem due_g2 (s:State) (ha:QB0=true):∀ (l:List Job) (i:Nat),Qu2 s l i=Sum.inl true∨((∃ i',Qu2 s l i=Sum.inr i') ∧ ∀ x ∈ l,x.state=1->0<=x.promise->s.now<=x.promise)
 | [],i=>.inr ⟨⟨i,rfl⟩,fun _ h=>absurd h List.not_mem_nil⟩
 | x :: r,i=>by
  rw [Qu2,ha]
  cases hc:(((x.state==1)&&(decide (x.promise >= 0)))&&(decide (x.promise<s.now))) with
  | true=>exact .inl rfl
  | false =>
   simp only [cond_false]
   rcases due_g2 s ha r (i+1) with h|⟨h1,h2⟩
   ·exact .inl h
   ·refine .inr ⟨h1,fun y hy a b=>?_⟩
    rcases List.mem_cons.1 hy with rfl|hy
    ·rw [a,decide_eq_true (show y.promise >= 0 from b)] at hc
     simp at hc
     omega
    ·exact h2 y hy a b
theorem due_last {s:State} (hw:Well s) (hl:Qw2 s.ledger=0) (hk:Keeps s) (ha:QB0=true) (hfree:QXa s s.now=Qo0 (QJ1 s.nodes)) :
  (Sum.elim id (fun _:Nat=>(Sum.elim id (fun p2:Int × Nat=>((decide (p2.1<=(Qo0 (QJ1 s.nodes))))&&QB0))) (QT0 s (Qw0 s) 0 0)) (Qu2 s s.jobs 0))=true:=by
 rcases due_g2 s ha s.jobs 0 with h|⟨⟨i',h⟩,hnp⟩
 ·rw [h];rfl
 ·rw [h]
  show (Sum.elim id _ (QT0 s (Qw0 s) 0 0))=true
  obtain ⟨hnow,hch,hpw,h15⟩:=hw.parts
  obtain ⟨o1,o2⟩:=QCg hw
  have hle:=order_le hw
  have hdue:=(due_told hw hl).1
  have hdm:∀ x ∈ Qw0 s,∃ j ∈ s.jobs,j.id=x∧j.state=1∧0<=j.promise∧j.promise<=s.now:=by
   intro x hx
   rw [hdue] at hx
   obtain ⟨hxo,hq⟩:=List.mem_filter.1 hx
   obtain ⟨k,j,hkj,_,e,h1⟩:=o2 x hxo
   have hj:=List.mem_of_getElem? hkj
   have hg:Q81 s.jobs x=j:=by rw [← e];exact QP3 hpw hj
   rw [hg] at hq
   simp only [Bool.and_eq_true,decide_eq_true_eq] at hq
   exact ⟨j,hj,e,h1,hq.1,hq.2⟩
  have hlen:(Qw0 s).length<=40:=by
   rw [hdue]
   exact Nat.le_trans (List.length_filter_le _ _) hle
  obtain ⟨i2,h3⟩:=due_g3 hw (Qw0 s) 0 0 (fun x hx=>by obtain ⟨j,a,b,c,d,_⟩:=hdm x hx;exact ⟨j,a,b,c,by omega⟩) (by omega) (by omega)
  rw [h3]
  show ((decide (0+sumC s.jobs (Qw0 s)<=(Qo0 (QJ1 s.nodes))))&&QB0)=true
  rw [ha,Bool.and_true,decide_eq_true_iff,← hfree]
  obtain ⟨f1,f2,f3,f4,f5,f6⟩:=QKa hw.1 hw.2.1 hw.room
  have b1:=Qdg s f6 s.now hnow.1 hnow.2
  have b2:=bkAt_bd s.now s.books f1
  have hsum:sumC s.jobs (Qw0 s)<=clsAt [] s.now s.jobs:=by
   have hperm:=((Qm8 s.ledger (Qp0 s.jobs) s.jobs).map (·.id)).filter (dueQ s)
   have e:Qw0 s=((Qub s.ledger (Qp0 s.jobs) s.jobs).map (·.id)).filter (dueQ s):=by
    rw [hdue,(Q49 hw.1.2.1 hw.2.1 s.ledger hw.1.2.2.2.2.2.1 (Qp0 s.jobs)).2 h15]
    rfl
   rw [e,sumC_perm s.jobs hperm]
   refine due_sum hw _ (fun x hx hex=>?_) hnp s.jobs fun _ h=>h
   have hxo:x.id ∈ QD1 s.jobs s.ledger (Qp0 s.jobs):=by
    rw [(Q49 hw.1.2.1 hw.2.1 s.ledger hw.1.2.2.2.2.2.1 (Qp0 s.jobs)).2 h15]
    exact List.mem_map_of_mem ((Qm8 s.ledger (Qp0 s.jobs) s.jobs).mem_iff.2 (List.mem_filter.2 ⟨hx,hex⟩))
   obtain ⟨k,j,hkj,_,e,h1⟩:=o2 x.id hxo
   have e4:=QP3 hpw (List.mem_of_getElem? hkj)
   rw [e,QP3 hpw hx] at e4
   rw [e4]
   exact h1
  by_cases hne:Qw0 s=[]
  ·rw [hne]
   show (0:Int)+0<=_
   have hc0:0<=Qo0 (QJ1 s.nodes):=by
    rw [show Qo0 (QJ1 s.nodes)=((s.nodes.filter fun y=>(y.state==0)&&(!y.drain)).length:Int) from Qib s.nodes _ (Qf5 hw.room).2.1 (by omega)]
    omega
   omega
  ·obtain ⟨x,r,hxr⟩:=List.exists_cons_of_ne_nil hne
   obtain ⟨j,hj,e,h1,p1,p2⟩:=hdm x (by rw [hxr];exact List.mem_cons_self ..)
   have hpx:j.promise ≠ -1:=by omega
   have hle2:=hnp j hj h1 p1
   obtain ⟨e1,e2⟩:=Qi9 (hw.2.1 j hj) (hch j hj) h1 hpx
   have hb:=Qt8 (Q13 (j:=j) (by rw [hch j hj];rfl)) (by simp [h1,hpx])
   have hmo:(Q60 j.shape).getD (Int.toNat j.choice) Alt.zero ∈ Q60 j.shape:=Qa7 (by omega)
   obtain ⟨q1,q2,q3,q4⟩:=QS7 j.shape _ hmo
   have hkk:=(hk j hj h1 hpx).2 s.now
   rw [e1] at hkk
   simp only at hkk
   have:=hkk (by omega) (by omega)
   unfold Qt7 at this
   omega
theorem Q9h {s:State} (hu:∀ x ∈ s.jobs,U64 x.nodes) (ha:QB0=true):Qg6 s=true:=by
 unfold Qg6
 rw [ha]
 cases hf:((!(Q26 s))||(!(QB4 s))) with
 | true=>rfl
 | false =>
  simp only [Bool.or_eq_false_iff,Bool.not_eq_false'] at hf
  have hz:=Q70 hf.1
  obtain ⟨hw,hl⟩:=QGg hz hu (Q5h hf.2)
  have hk:=(Q6h hw hl).1 hf.2
  have hc:=hw.room
  simp only [cond_false]
  obtain ⟨hnow,hfl,ht,_⟩:=Qf5 hc
  have hp:=(Qt4 ht).2.2
  have hln:=(Q25 (s:=s) (by rw [hc];rfl)).2
  have hun:∀ i:Nat,i<s.nodes.length->QY7 s (i:Int)=tk s.jobs (s.nodes.getD i Node.zero):=by
   intro i hi
   unfold QY7
   rw [hc,show (((((0:Int)!=0)||(decide ((i:Int)<0)))||(decide ((i:Int) >= (s.nodes.length:Int)))))=false by simp;omega]
   simp only [cond_false,Int.toNat_natCast]
   exact until_tk hp _
  by_cases hall:∀ x ∈ s.nodes,x.state ≠ 0->x.state ≠ 4->x.drain=false->s.now<tk s.jobs x
  ·have hfin:QXa s s.now=Qo0 (QJ1 s.nodes):=by
    rw [show Qo0 (QJ1 s.nodes)=((s.nodes.filter fun y=>(y.state==0)&&(!y.drain)).length:Int) from Qib s.nodes _ hfl (by omega)]
    exact ups_free s.now hnow.1 s.jobs s.nodes hall
   have hlast:=due_last hw hl hk ha hfin
   have g:∀ (l:List Node) (i:Nat),Q02 s l i=true:=by
    intro l
    induction l with
    | nil=>intro i;rw [Q02];exact hlast
    | cons x r ih =>
     intro i
     rw [Q02,ha,ih]
     cases ((((x.state != 0)&&(x.state != 4))&&(!x.drain))&&(decide ((QY7 s (i:Int))<=s.now))) <;> rfl
   exact g _ _
  ·have hbad:∃ x ∈ s.nodes,x.state ≠ 0∧x.state ≠ 4∧x.drain=false∧tk s.jobs x<=s.now:=by
    refine Classical.byContradiction fun h=>hall fun x hx a b c=>?_
    refine Int.lt_of_not_ge fun hge=>h ⟨x,hx,a,b,c,hge⟩
   have g:∀ (l:List Node) (i:Nat),s.nodes.drop i=l->(∃ x ∈ l,x.state ≠ 0∧x.state ≠ 4∧x.drain=false∧tk s.jobs x<=s.now)->Q02 s l i=true:=by
    intro l
    induction l with
    | nil=>rintro i _ ⟨x,hx,_⟩;exact absurd hx List.not_mem_nil
    | cons y r ih =>
     rintro i hd ⟨x,hx,hb⟩
     obtain ⟨h1,h2⟩:=QR1 Node.zero hd
     have hlt:i<s.nodes.length:=by
      have:=congrArg List.length hd
      simp only [List.length_drop,List.length_cons] at this
      omega
     rw [Q02,ha,hun i hlt,h1]
     rcases List.mem_cons.1 hx with rfl|hm
     ·rw [show ((((x.state != 0)&&(x.state != 4))&&(!x.drain))&&(decide (tk s.jobs x<=s.now)))=true by simp;exact ⟨⟨⟨hb.1,hb.2.1⟩,hb.2.2.1⟩,hb.2.2.2⟩]
      rfl
     ·rw [ih (i+1) h2 ⟨x,hm,hb⟩]
      cases ((((y.state != 0)&&(y.state != 4))&&(!y.drain))&&(decide (tk s.jobs y<=s.now))) <;> rfl
   exact g s.nodes 0 rfl hbad
end Go.Proofs.YtjpgfmbccohngaaGreatDoor
namespace Go.Proofs.YtjpgfmbccohngaaGreatDoor
set_option linter.unusedSimpArgs false
set_option linter.unusedVariables false
open Go.Fw
theorem QN7:QB0=true:=by kernel_rfl
end Go.Proofs.YtjpgfmbccohngaaGreatDoor
namespace Go.Fw
set_option linter.unusedSimpArgs false
set_option linter.unusedVariables false
open Go.RowKit Go.ChangeShapes Go.WideShapes Go.Deep
theorem QI6 {C:Checked} {os:Os} {f:FuncId} {fn:Func} {s:ChangeSpec} {laid0:List (String × DataW Unit)} {conds:List PathCond} {apart fresh handsOn again:Bool} {H:Type} {enc:TypeId × Value->H} {Q:List AVal->Prop} {tb:TypeId}
  (own:ownKnob C.prog.godebug=none) (started:os.Started) (noInit:C.prog.inits.idxOf? f=none) (hfn:C.prog.funcs[f]? = some fn)
  (witness:∃ (w:World) (tape:Tape) (i:Input),w.os=os∧(w.forCall tape i).Shaped C.prog∧i.vars=[]∧Input.okWide C.prog (w.forCall tape i) .any w.heap.size f i ∧
   ((s.pre enc C.prog fn conds apart (w.forCall tape i).memory i.args∧laidMetH C.prog laid0 (w.forCall tape i).memory)∧sizedMet enc C.prog fn (OpenSpec.ofChange s) apart (w.forCall tape i).memory i.args)∧({}:Assume).holds C.prog (lone (Frame.enter C.prog f i.args .normal) [] (w.forCall tape i)))
  (hvars:s.vars=[]) (hres:fn.resultTypes = #[tb]) (hbool:C.prog.underlying tb=some .bool) (laid:laidOutB C.prog=true)
  (hts:fn.params.toList.all (fun t=>C.prog.readableRec t&&decide (t<C.prog.types.size))=true)
  (hspec:∀ ds:List (DataW H),ds.length=fn.params.size->s.fn H ds={ results:=[.lit (.bool true)],args:=ds })
  (hargs:ArgsAs C.prog fn.params.toList Q) (hlaw:∀ l,Q l->AGives C.prog f l [] (.lit (.bool true))) :
  ReturnsInHanded {} C os f .any (fun w args=>(s.pre enc C.prog fn conds apart w args∧laidMetH C.prog laid0 w)∧sizedMet enc C.prog fn (OpenSpec.ofChange s) apart w args) (s.post enc C.prog fn apart fresh handsOn again):=by
 refine returnsInHanded_of_change_and (X:=fun w _=>laidMetH C.prog laid0 w) (fun _ _ _ hh h=>h.of_heap hh) own started noInit hfn witness ?_
 intro W base args ds gs before hval hW hcnd _ _ _
 have hW':=hW
 obtain ⟨p,q,hA,hV,hpq,hfz,hnd⟩:=hW
 rw [hvars] at hV
 obtain ⟨rfl,rfl⟩:=trodVars_none hV
 rw [List.append_nil] at hpq
 subst hpq
 obtain ⟨l,hQ,hreps⟩:=hargs.read (base:=base) (vs:=args.toList) (fun j t v hj hv=>hval j t v (by simpa using hj) (by simpa using hv)) hA
 have hc:=law_calls (hlaw l hQ) hreps
 rw [show args.toList.toArray=args by simp] at hc
 refine hc.mono fun e W' ⟨he,hb⟩=>?_
 subst he
 have hlen:ds.length=fn.params.size:=by
  have:∀ {ts:List TypeId} {vs:List Value} {ds:List (DataW H)} {ps:List MemPlace},DataW.TrodAll enc C.prog W 0 (fun _=>true) true ts vs ds ps->ds.length=ts.length:=by
   intro ts
   induction ts with
   | nil=>intro vs ds ps h;obtain ⟨rfl,rfl,rfl⟩:=trodAll_nil h;rfl
   | cons t ts ih=>intro vs ds ps h;obtain ⟨v,vs',d,ds',p,q,rfl,rfl,rfl,hd,hrest⟩:=trodAll_cons h;simp [ih hrest]
  simpa using this hA
 have hfn2:=hspec ds hlen
 have hold:∀ p ∈ before,p.block<W.heap.size:=fun p hp=>by simpa using hW'.lt p hp
 have hR:∀ (b:Nat) (sp:Nat->Bool) (hd:Bool),DataW.TrodAll enc C.prog W' b sp hd fn.resultTypes.toList ((Value.bool true).resultList fn.resultTypes.size) (s.fn H (ds++[])).results []:=by
  intro b sp hd
  rw [List.append_nil,hfn2,hres]
  exact trodAll_cons_mk (shut_bool hbool _) trodAll_mk0
 have hAr:∀ sp:Nat->Bool,(∀ p ∈ before,sp p.block=true)->DataW.TrodAll enc C.prog W' 0 sp true fn.params.toList args.toList (s.fn H (ds++[])).args before:=by
  intro sp hsp
  rw [List.append_nil,hfn2]
  exact QUc laid hb hts hA hold hsp
 have hVr:∀ sp:Nat->Bool,DataW.TrodVars enc C.prog W' sp s.vars (s.fn H (ds++[])).vars []:=by
  intro sp
  rw [List.append_nil,hfn2,hvars]
  rfl
 refine ⟨_,rfl,ds,[],before,[],before,[],hW',hR _ _ _,hAr _ (fun p hp=>by simpa using hold p hp),hVr _,hb.frame _,fun _=>⟨ok_one hres rfl (okWide_bool_mk hbool _),_,_,([]++before)++[],⟨[]++before,[],trodAll_append (hAr _ (fun _ _=>rfl)) (hR _ _ _),hVr _,rfl,?_,?_⟩,?_⟩⟩
 ·intro b off hp
  have hp:MemPlace.cell b off ∈ before:=by simpa using hp
  rw [hb.frozen (p:=⟨b,off,none⟩) (hold _ hp)]
  exact hfz b off (by simpa using hp)
 ·intro ha
  simpa using hnd ha
 ·intro p hp _
  simpa using hp
end Go.Fw
namespace Go.Proofs.YtjpgfmbccohngaaGreatDoor
set_option linter.unusedSimpArgs false
set_option linter.unusedVariables false
open Go.Fw
set_option maxRecDepth 100000
theorem ty3:Tryz.prog.underlying 33 = some (.int .u64):=by kernel_rfl
theorem ty2:Tryz.prog.underlying 9 = some (.string):=by kernel_rfl
theorem ty1:Tryz.prog.underlying 4 = some (.bool):=by kernel_rfl
theorem ty0:Tryz.prog.underlying 3 = some (.int .i64):=by kernel_rfl
def Node.wf (x:Node):Prop:=(Lit.int .i64 x.state).wf=true∧(Lit.int .i64 x.job).wf=true∧(Lit.int .i64 x.epoch).wf=true∧True∧(Lit.int .i64 x.want).wf=true∧(Lit.int .i64 x.since).wf=true∧(Lit.int .i64 x.asked).wf=true∧True
theorem readNode:ReadAs Tryz.prog 58 Node.cells Node.wf:=by
 have h:=ReadAs.struct (P:=Tryz.prog) (t:=58) rfl (by kernel_rfl) (.cons rfl (ReadAs.int ty0) (.cons rfl (ReadAs.int ty0) (.cons rfl (ReadAs.int ty0) (.cons rfl (ReadAs.bool ty1) (.cons rfl (ReadAs.int ty0) (.cons rfl (ReadAs.int ty0) (.cons rfl (ReadAs.int ty0) .nil)))))))
 exact h.map (fun p=>(⟨p.1,p.2.1,p.2.2.1,p.2.2.2.1,p.2.2.2.2.1,p.2.2.2.2.2.1,p.2.2.2.2.2.2.1⟩:Node)) (fun _=>rfl) (fun _ h=>h)
theorem readNodes:ReadAs Tryz.prog 22 (fun l=>[nodeL l]) fun l=>l.length<=maxLen ∧ ∀ a ∈ l,Node.wf a :=
 ReadAs.slice Node.zero rfl (by kernel_rfl) (by decide) readNode (fun _=>rfl)
def Alt.wf (x:Alt):Prop:=(Lit.int .i64 x.nodes).wf=true∧(Lit.int .i64 x.wall).wf=true∧True
theorem readAlt:ReadAs Tryz.prog 121 Alt.cells Alt.wf:=by
 have h:=ReadAs.struct (P:=Tryz.prog) (t:=121) rfl (by kernel_rfl) (.cons rfl (ReadAs.int ty0) (.cons rfl (ReadAs.int ty0) .nil))
 exact h.map (fun p=>(⟨p.1,p.2.1⟩:Alt)) (fun _=>rfl) (fun _ h=>h)
theorem readAlts:ReadAs Tryz.prog 29 (fun l=>[altL l]) fun l=>l.length<=maxLen ∧ ∀ a ∈ l,Alt.wf a :=
 ReadAs.slice Alt.zero rfl (by kernel_rfl) (by decide) readAlt (fun _=>rfl)
def Shape.wf (x:Shape):Prop:=(Lit.int .i64 x.kind).wf=true∧(x.alts.length<=maxLen ∧ ∀ a ∈ x.alts,Alt.wf a)∧(Lit.int .i64 x.min).wf=true∧(Lit.int .i64 x.max).wf=true∧(Lit.int .i64 x.wall).wf=true∧True
theorem readShape:ReadAs Tryz.prog 31 Shape.cells Shape.wf:=by
 have h:=ReadAs.struct (P:=Tryz.prog) (t:=31) rfl (by kernel_rfl) (.cons rfl (ReadAs.int ty0) (.cons rfl (readAlts) (.cons rfl (ReadAs.int ty0) (.cons rfl (ReadAs.int ty0) (.cons rfl (ReadAs.int ty0) .nil)))))
 exact h.map (fun p=>(⟨p.1,p.2.1,p.2.2.1,p.2.2.2.1,p.2.2.2.2.1⟩:Shape)) (fun _=>rfl) (fun _ h=>h)
def Dep.wf (x:Dep):Prop:=(Lit.int .i64 x.how).wf=true∧(Lit.int .i64 x.job).wf=true∧True
theorem readDep:ReadAs Tryz.prog 96 Dep.cells Dep.wf:=by
 have h:=ReadAs.struct (P:=Tryz.prog) (t:=96) rfl (by kernel_rfl) (.cons rfl (ReadAs.int ty0) (.cons rfl (ReadAs.int ty0) .nil))
 exact h.map (fun p=>(⟨p.1,p.2.1⟩:Dep)) (fun _=>rfl) (fun _ h=>h)
theorem readDeps:ReadAs Tryz.prog 32 (fun l=>[depL l]) fun l=>l.length<=maxLen ∧ ∀ a ∈ l,Dep.wf a :=
 ReadAs.slice Dep.zero rfl (by kernel_rfl) (by decide) readDep (fun _=>rfl)
def Job.wf (x:Job):Prop:=(Lit.int .i64 x.id).wf=true∧x.name.size<=maxLen∧x.user.size<=maxLen∧x.account.size<=maxLen∧Shape.wf x.shape∧(Lit.int .i64 x.prio).wf=true∧(x.after.length<=maxLen ∧ ∀ a ∈ x.after,Dep.wf a)∧(Lit.int .i64 x.state).wf=true∧True∧(Lit.int .i64 x.born).wf=true∧(Lit.int .i64 x.promise).wf=true∧(Lit.int .i64 x.choice).wf=true∧(Lit.int .i64 x.start).wf=true∧(Lit.int .i64 x.limit).wf=true∧(Lit.int .u64 x.nodes).wf=true∧(Lit.int .i64 x.used).wf=true∧True
theorem readJob:ReadAs Tryz.prog 35 Job.cells Job.wf:=by
 have h:=ReadAs.struct (P:=Tryz.prog) (t:=35) rfl (by kernel_rfl) (.cons rfl (ReadAs.int ty0) (.cons rfl (ReadAs.string ty2) (.cons rfl (ReadAs.string ty2) (.cons rfl (ReadAs.string ty2) (.cons rfl (readShape) (.cons rfl (ReadAs.int ty0) (.cons rfl (readDeps) (.cons rfl (ReadAs.int ty0) (.cons rfl (ReadAs.bool ty1) (.cons rfl (ReadAs.int ty0) (.cons rfl (ReadAs.int ty0) (.cons rfl (ReadAs.int ty0) (.cons rfl (ReadAs.int ty0) (.cons rfl (ReadAs.int ty0) (.cons rfl (ReadAs.int ty3) (.cons rfl (ReadAs.int ty0) .nil))))))))))))))))
 exact h.map (fun p=>(⟨p.1,p.2.1,p.2.2.1,p.2.2.2.1,p.2.2.2.2.1,p.2.2.2.2.2.1,p.2.2.2.2.2.2.1,p.2.2.2.2.2.2.2.1,p.2.2.2.2.2.2.2.2.1,p.2.2.2.2.2.2.2.2.2.1,p.2.2.2.2.2.2.2.2.2.2.1,p.2.2.2.2.2.2.2.2.2.2.2.1,p.2.2.2.2.2.2.2.2.2.2.2.2.1,p.2.2.2.2.2.2.2.2.2.2.2.2.2.1,p.2.2.2.2.2.2.2.2.2.2.2.2.2.2.1,p.2.2.2.2.2.2.2.2.2.2.2.2.2.2.2.1⟩:Job)) (fun _=>rfl) (fun _ h=>h)
theorem readJobs:ReadAs Tryz.prog 23 (fun l=>[jobL l]) fun l=>l.length<=maxLen ∧ ∀ a ∈ l,Job.wf a :=
 ReadAs.slice Job.zero rfl (by kernel_rfl) (by decide) readJob (fun _=>rfl)
def Resize.wf (x:Resize):Prop:=(Lit.int .i64 x.job).wf=true∧True∧(Lit.int .u64 x.nodes).wf=true∧(Lit.int .u64 x.said).wf=true∧(Lit.int .i64 x.since).wf=true∧True
theorem readResize:ReadAs Tryz.prog 347 Resize.cells Resize.wf:=by
 have h:=ReadAs.struct (P:=Tryz.prog) (t:=347) rfl (by kernel_rfl) (.cons rfl (ReadAs.int ty0) (.cons rfl (ReadAs.bool ty1) (.cons rfl (ReadAs.int ty3) (.cons rfl (ReadAs.int ty3) (.cons rfl (ReadAs.int ty0) .nil)))))
 exact h.map (fun p=>(⟨p.1,p.2.1,p.2.2.1,p.2.2.2.1,p.2.2.2.2.1⟩:Resize)) (fun _=>rfl) (fun _ h=>h)
theorem readResizes:ReadAs Tryz.prog 24 (fun l=>[Qo3 l]) fun l=>l.length<=maxLen ∧ ∀ a ∈ l,Resize.wf a :=
 ReadAs.slice Resize.zero rfl (by kernel_rfl) (by decide) readResize (fun _=>rfl)
def Book.wf (x:Book):Prop:=(Lit.int .i64 x.id).wf=true∧(Lit.int .i64 x.from_).wf=true∧(Lit.int .i64 x.to).wf=true∧(Lit.int .i64 x.nodes).wf=true∧True
theorem readBook:ReadAs Tryz.prog 136 Book.cells Book.wf:=by
 have h:=ReadAs.struct (P:=Tryz.prog) (t:=136) rfl (by kernel_rfl) (.cons rfl (ReadAs.int ty0) (.cons rfl (ReadAs.int ty0) (.cons rfl (ReadAs.int ty0) (.cons rfl (ReadAs.int ty0) .nil))))
 exact h.map (fun p=>(⟨p.1,p.2.1,p.2.2.1,p.2.2.2.1⟩:Book)) (fun _=>rfl) (fun _ h=>h)
theorem readBooks:ReadAs Tryz.prog 25 (fun l=>[bookL l]) fun l=>l.length<=maxLen ∧ ∀ a ∈ l,Book.wf a :=
 ReadAs.slice Book.zero rfl (by kernel_rfl) (by decide) readBook (fun _=>rfl)
def Usage.wf (x:Usage):Prop:=x.user.size<=maxLen∧x.account.size<=maxLen∧(Lit.int .i64 x.used).wf=true∧(Lit.int .i64 x.share).wf=true∧True
theorem readUsage:ReadAs Tryz.prog 125 Usage.cells Usage.wf:=by
 have h:=ReadAs.struct (P:=Tryz.prog) (t:=125) rfl (by kernel_rfl) (.cons rfl (ReadAs.string ty2) (.cons rfl (ReadAs.string ty2) (.cons rfl (ReadAs.int ty0) (.cons rfl (ReadAs.int ty0) .nil))))
 exact h.map (fun p=>(⟨p.1,p.2.1,p.2.2.1,p.2.2.2.1⟩:Usage)) (fun _=>rfl) (fun _ h=>h)
theorem readUsages:ReadAs Tryz.prog 26 (fun l=>[Qe3 l]) fun l=>l.length<=maxLen ∧ ∀ a ∈ l,Usage.wf a :=
 ReadAs.slice Usage.zero rfl (by kernel_rfl) (by decide) readUsage (fun _=>rfl)
def State.wf (x:State):Prop:=(Lit.int .i64 x.now).wf=true∧(x.nodes.length<=maxLen ∧ ∀ a ∈ x.nodes,Node.wf a)∧(x.jobs.length<=maxLen ∧ ∀ a ∈ x.jobs,Job.wf a)∧(x.resizes.length<=maxLen ∧ ∀ a ∈ x.resizes,Resize.wf a)∧(x.books.length<=maxLen ∧ ∀ a ∈ x.books,Book.wf a)∧(x.ledger.length<=maxLen ∧ ∀ a ∈ x.ledger,Usage.wf a)∧(Lit.int .i64 x.nextJob).wf=true∧(Lit.int .i64 x.nextBook).wf=true∧True
theorem QKg:ReadAs Tryz.prog 28 State.cells State.wf:=by
 have h:=ReadAs.struct (P:=Tryz.prog) (t:=28) rfl (by kernel_rfl) (.cons rfl (ReadAs.int ty0) (.cons rfl (readNodes) (.cons rfl (readJobs) (.cons rfl (readResizes) (.cons rfl (readBooks) (.cons rfl (readUsages) (.cons rfl (ReadAs.int ty0) (.cons rfl (ReadAs.int ty0) .nil))))))))
 exact h.map (fun p=>(⟨p.1,p.2.1,p.2.2.1,p.2.2.2.1,p.2.2.2.2.1,p.2.2.2.2.2.1,p.2.2.2.2.2.2.1,p.2.2.2.2.2.2.2.1⟩:State)) (fun _=>rfl) (fun _ h=>h)
end Go.Proofs.YtjpgfmbccohngaaGreatDoor
namespace Go.Proofs.YtjpgfmbccohngaaGreatDoor
set_option linter.unusedSimpArgs false
set_option linter.unusedVariables false
open Go.Fw
theorem Shape.wf_szM {x:Shape} (h:x.wf):x.szM:=h.2.1.1
theorem Job.wf_szM {x:Job} (h:x.wf):x.szM:=⟨h.2.1,h.2.2.1,h.2.2.2.1,Shape.wf_szM h.2.2.2.2.1,h.2.2.2.2.2.2.1.1⟩
theorem Usage.wf_szM {x:Usage} (h:x.wf):x.szM:=⟨h.1,h.2.1⟩
theorem State.wf_szM {x:State} (h:x.wf):x.szM :=
 ⟨h.2.1.1,h.2.2.1.1,fun y hy=>Job.wf_szM (h.2.2.1.2 y hy),h.2.2.2.1.1,h.2.2.2.2.1.1,h.2.2.2.2.2.1.1,fun y hy=>Usage.wf_szM (h.2.2.2.2.2.1.2 y hy)⟩
end Go.Proofs.YtjpgfmbccohngaaGreatDoor
namespace Go.Proofs.YtjpgfmbccohngaaGreatDoor
set_option linter.unusedSimpArgs false
set_option linter.unusedVariables false
open Go.Fw
theorem wf_u64 {n:Int} (h:(Lit.int .u64 n).wf=true):U64 n:=by
 unfold Lit.wf at h
 simp only [Bool.and_eq_true,decide_eq_true_eq] at h
 have e1:IntKind.u64.min=0:=by decide
 have e2:IntKind.u64.max=18446744073709551615:=by decide
 rw [e1,e2] at h
 unfold U64
 omega
theorem Job.wf_u64 {x:Job} (h:x.wf):U64 x.nodes:=by
 unfold Job.wf at h
 exact Go.Proofs.YtjpgfmbccohngaaGreatDoor.wf_u64 h.2.2.2.2.2.2.2.2.2.2.2.2.2.2.1
end Go.Proofs.YtjpgfmbccohngaaGreatDoor
