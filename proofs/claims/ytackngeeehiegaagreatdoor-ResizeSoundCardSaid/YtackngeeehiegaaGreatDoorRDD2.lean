/-
  What the last text of this claim leans on: an evaluator over the code, contracts of functions, plain laws. Conditions stand in each statement.
-/
import Derived.Test.YtackngeeehiegaaGreatDoorRDD1
import Derived.Test.YtackngeeehiegaaGreatDoorRD12
import Derived.Test.YtackngeeehiegaaGreatDoorRD8
import Derived.Test.YtackngeeehiegaaGreatDoorRD5
import Derived.LaidMore
import Derived.Stop.Joined
import Derived.JoinedOf
import Derived.Handed
import Derived.OpenShut
import Derived.KernelRfl
import Derived.Test.YtackngeeehiegaaGreatDoorRD7
import Derived.Test.YtackngeeehiegaaGreatDoorProg
namespace Go.Proofs.YtackngeeehiegaaGreatDoor
set_option linter.unusedSimpArgs false
set_option linter.unusedVariables false
open Go.Fw
theorem place_spec {p:List Step} (hp:Cn p) {t:Int} (h0:0<=t):∃ k:Nat,Q80 p t=(k:Int)∧k<p.length∧(p.getD k zE).at_<=t∧(k+1<p.length->t<(p.getD (k+1) zE).at_):=by
 have h1:1<=p.length:=by
  cases p with
  | nil=>exact hp.1.elim
  | cons x r=>simp
 have h3:(p.getD 0 zE).at_=0:=by
  cases p with
  | nil=>exact hp.1.elim
  | cons x r=>exact hp.1.1
 obtain ⟨a,b⟩:=Qy7 h1 hp.2.1 h3 h0;obtain ⟨c,d,e,f⟩:=Q0a (fun (y:Int)=>(decide ((p.getD (Int.toNat y) zE).at_ > t))) (N:=p.length) (by have:=hp.2.1;omega);have hpl:Q80 p t=QO1 (p.length:Int) (fun (y:Int)=>(decide ((p.getD (Int.toNat y) zE).at_ > t))) - 1:=wr (by have:=hp.2.1;omega);refine ⟨Int.toNat (Q80 p t),by omega,by omega,?_,fun h=>?_⟩
 ·have:=e (by omega);rw [← hpl] at this;have:=yea this;omega
 ·have:=f (by omega);have e2:Int.toNat (QO1 (p.length:Int) (fun (y:Int)=>(decide ((p.getD (Int.toNat y) zE).at_ > t))))=Int.toNat (Q80 p t)+1:=by omega
  have:=yfa this;rw [e2] at this;omega
theorem Srt.get:∀ (r:List Step) (x:Step) (k:Nat),Srt x.at_ r->k<=r.length->x.at_<=((x :: r).getD k zE).at_
 | _,_,0,_,_=>ySa _
 | r,x,k+1,h,hk=>by
  have hm:(x :: r).getD (k+1) zE ∈ r:=QY8 (d:=zE) (l:=r) (j:=k) (by omega);have:=(QVf (f:=0) h _ hm).1;omega
theorem adA_at {f_ t_ n:Int}:∀ (k:Nat) (x:Step) (r:List Step),k<=r.length->Srt x.at_ r->((x :: r).getD k zE).at_<=f_->(k+1<(x :: r).length->f_<((x :: r).getD (k+1) zE).at_) ->
  adA f_ t_ n x r=(x :: r).take k++((if ((x :: r).getD k zE).at_<f_ then [(x :: r).getD k zE] else [])++⟨f_,((x :: r).getD k zE).free+n⟩ :: adB t_ n ((x :: r).getD k zE).free ((x :: r).drop (k+1)))
 | 0,x,[],_,_,_,_=>rfl
 | 0,x,z :: r,_,_,_,h2=>by
  have h3:f_<z.at_:=h2 (by simp);unfold adA;rw [if_neg (by omega)]
  rfl
 | k+1,x,[],hk,_,_,_=>by simp at hk
 | k+1,x,z :: r,hk,h,h1,h2=>by
  have hk':k<=r.length:=by simpa using hk
  have hz:=Srt.get r z k h.2.2 hk';have h1':((z :: r).getD k zE).at_<=f_:=h1;have h3:z.at_<=f_:=by omega
  unfold adA;rw [if_pos h3,adA_at k z r hk' h.2.2 h1' (fun hl=>h2 (by simp at hl ⊢;omega))]
  rfl
theorem Dif.take:∀ (r:List Step) (f:Int) (k:Nat),Dif f r->Dif f (r.take k)
 | [],_,k,_=>by simp [Dif]
 | x :: r,f,0,_=>trivial
 | x :: r,f,k+1,h=>⟨h.1,Dif.take r x.free k h.2⟩
theorem Can.take {p:List Step} (h:Can p) (k:Nat):comp0 (p.take k)=p.take k:=by
 cases p with
 | nil=>exact h.elim
 | cons x r =>
  cases k with
  | zero=>rfl
  | succ k =>
   show x :: comp x.free (r.take k)=x :: r.take k;rw [comp_id _ _ (Dif.take r x.free k h.2.2)]
theorem foldl_putS (m:List Step):m.foldl putS []=comp0 m:=by
 have:=Qif m [];simpa [comp0] using this
theorem c1_eq (a f:Int) (out:List Step) (h:out.length<=4294967296):Q21 a f out=putS out ⟨a,f⟩:=put_test out a f h
theorem g5_eq:∀ (l:List Step) (j:Nat) (c:List Step),c.length+l.length<=100000->QC5 l j c=l.foldl putS c
 | [],_,_,_=>rfl
 | x :: r,j,c,h=>by
  simp only [yka] at h;rw [QC5,c1_eq _ _ _ (by omega)];have:=QTa c x;rw [yzb,g5_eq r (j+1) _ (by show (putS c x).length+_<=_;omega)]
theorem g3_eq {p:List Step} (hp:Cn p) {t_ n:Int} (hn:-1000000<=n∧n<=1000000):∀ (m i:Nat) (last:Int) (c:List Step),p.length - i<m->1<=i->i<=p.length->last=(p.getD (i - 1) zE).free->c.length+(p.length - i)<=10000 ->
  Qo3 p t_ n m (i:Int) last c=Ql2 ((adB t_ n last (p.drop i)).foldl putS c)
 | 0,_,_,_,h,_,_,_,_=>absurd h (ylc _)
 | m+1,i,last,c,hm,h1,hi,hl,hc=>by
  have hpl:=hp.2.1;rw [Qo3]
  by_cases hlt:i<p.length
  ·rw [show decide ((i:Int)<(p.length:Int))=true by simp;omega];simp only [cond_true,yoa];have hd:p.drop i=p.getD i zE :: p.drop (i+1):=by
    rw [yWa hlt];simp [List.getD,hlt]
   have hmem:p.getD i zE ∈ p:=QY8 hlt;have hb:=hp.2.2 _ hmem;have hw1:w64 ((i:Int)+1)=((i+1:Nat):Int):=by
    have:w64 ((i:Int)+1)=(i:Int)+1:=wr (by omega);rw [this];rfl
   have hw2:Int.toNat (w64 ((i:Int) - 1))=i - 1:=by
    have:w64 ((i:Int) - 1)=(i:Int) - 1:=wr (by omega);rw [this];omega
   have hw3:w64 ((p.getD i zE).free+n)=(p.getD i zE).free+n:=wr (by omega);have hdl:(p.drop i).length=p.length - i:=yva;rw [hw1,hw2,hw3,← hl];have k2:∀ last c',c'.length+(p.length - i)<=20000->QP2 p t_ (i:Int) last c'=Ql2 ((p.drop i).foldl putS c'):=by
    intro last c' hc';unfold QP2 QY3;rw [show ((i:Int)==(p.length:Int))=false by simp;omega];simp only [cond_false,yoa];rw [g5_eq _ _ _ (by omega)]
   by_cases hy:(p.getD i zE).at_<t_
   ·rw [yha hy];simp only [cond_true];rw [c1_eq _ _ _ (by omega),hd];unfold adB;rw [if_pos hy,yzb];have:=QTa c ⟨(p.getD i zE).at_,(p.getD i zE).free+n⟩;exact g3_eq hp hn m (i+1) _ _ (by omega) (by omega) (by omega) rfl (by omega)
   ·rw [yja hy];simp only [cond_false]
    by_cases hz:t_<(p.getD i zE).at_
    ·rw [show decide ((p.getD i zE).at_ > t_)=true by simpa using hz];simp only [cond_true];have:=QTa c ⟨t_,last⟩;rw [c1_eq _ _ _ (by omega),k2 _ _ (by omega),hd];rw [adB,if_neg hy,if_pos hz]
     rfl
    ·rw [show decide ((p.getD i zE).at_ > t_)=false by simpa using hz];simp only [cond_false];rw [k2 _ _ (by omega),hd];rw [adB,if_neg hy,if_neg hz]
  ·have e:i=p.length:=by omega
   rw [show decide ((i:Int)<(p.length:Int))=false by simp;omega];simp only [cond_false];unfold QP2;have hd:p.drop i=[]:=ykb (by omega);rw [show ((i:Int)==(p.length:Int))=true by simp;omega,hd];simp only [cond_true]
   by_cases ht:t_<=1000000
   ·rw [yha ht,show adB t_ n last []=[⟨t_,last⟩] by simp [adB,ht],c1_eq _ _ _ (by omega)]
    rfl
   ·rw [yja ht,show adB t_ n last []=[] by simp [adB,ht]]
    rfl
theorem adB_len {t_ n:Int}:∀ (r:List Step) (last:Int),(adB t_ n last r).length<=r.length+1
 | [],_=>by unfold adB;split <;> simp
 | y :: r,last=>by
  unfold adB;have:=adB_len (t_:=t_) (n:=n) r y.free;split
  ·simp only [yka];omega
  ·split <;> simp
theorem adA_len {f_ t_ n:Int}:∀ (r:List Step) (x:Step),(adA f_ t_ n x r).length<=r.length+3
 | [],x=>by
  unfold adA;have:=adB_len (t_:=t_) (n:=n) [] x.free;split <;> simp only [yta,yka,yVa] at * <;> omega
 | y :: r,x=>by
  unfold adA;have h1:=adA_len (f_:=f_) (t_:=t_) (n:=n) r y;have h2:=adB_len (t_:=t_) (n:=n) (y :: r) x.free;split
  ·simp only [yka];omega
  ·split <;> simp only [yta,yka,yVa] at * <;> omega
theorem prog_add {p:List Step} {f_ t_ n:Int} (hp:Cn p) (h0:0<=f_) (hf:f_<=1000000) (hft:f_<t_) (hn:-1000000<=n∧n<=1000000) :
  Adds p (comp0 (adP f_ t_ n p)) f_ t_ n∧QI2 p f_ t_ n=(bif ((Qk1 (comp0 (adP f_ t_ n p)))!=0) then ([],3) else (comp0 (adP f_ t_ n p),0)):=by
 have hpl:=hp.2.1;have hs:=adP_srt0 (n:=n) hp.1.srt0 h0 hf hft;refine ⟨⟨comp0_can hs,yJa (QRd _) ?_,fun t ht0 ht1=>by rw [comp0_pat ht0 hs,adP_pat hp.1.srt0 h0 hf hft ht1]⟩,?_⟩
 ·cases p with
  | nil=>exact hp.1.elim
  | cons x r=>have:=adA_len (f_:=f_) (t_:=t_) (n:=n) r x;simp only [adP,yka];omega
 ·obtain ⟨k,hk,hkl,ha,hb⟩:=place_spec hp h0;have hc:((QX1 p)!=0)=false:=by rw [Qn7,(Qo6 p).2 hp];rfl
  have hb2:(((!(QJ2 f_))||(decide (t_<f_)))||(!(Qz2 n)))=false:=by simp [QJ2,Qz2];omega
  have hmem:p.getD k zE ∈ p:=QY8 hkl;have hfr:=hp.2.2 _ hmem;have hw:w64 ((p.getD k zE).free+n)=(p.getD k zE).free+n:=wr (by omega);have hw1:w64 ((k:Int)+1)=((k+1:Nat):Int):=by
   have:w64 ((k:Int)+1)=(k:Int)+1:=wr (by omega);rw [this];rfl
  have key:∀ c:List Step,c.length<=k+1->QN4 p f_ t_ n c=Ql2 ((⟨f_,(p.getD k zE).free+n⟩ :: adB t_ n (p.getD k zE).free (p.drop (k+1))).foldl putS c):=by
   intro c hc;unfold QN4;rw [hk,hw1];simp only [yoa];rw [hw,c1_eq _ _ _ (by omega)];have:=QTa c ⟨f_,(p.getD k zE).free+n⟩;rw [g3_eq hp hn _ (k+1) (p.getD k zE).free (putS c ⟨f_,(p.getD k zE).free+n⟩) (by omega) (by omega) (by omega) rfl (by omega),yzb]
  have hM:adP f_ t_ n p=p.take k++((if (p.getD k zE).at_<f_ then [p.getD k zE] else [])++⟨f_,(p.getD k zE).free+n⟩ :: adB t_ n (p.getD k zE).free (p.drop (k+1))):=by
   cases p with
   | nil=>exact hp.1.elim
   | cons x r=>exact adA_at k x r (by simp at hkl;omega) hp.1.2.1 ha hb
  have htk:(p.take k).length<=k:=by simp;omega
  have hfold:comp0 (adP f_ t_ n p)=((if (p.getD k zE).at_<f_ then [p.getD k zE] else [])++⟨f_,(p.getD k zE).free+n⟩ :: adB t_ n (p.getD k zE).free (p.drop (k+1))).foldl putS (p.take k):=by
   rw [← foldl_putS,hM,List.foldl_append,foldl_putS (p.take k),hp.1.take k]
  have hk4:∀ c,Ql2 c=(bif ((Qk1 c)!=0) then ([],3) else (c,0)):=fun c=>by rw [← Qn7];rfl
  rw [← hk4,hfold];unfold QI2;rw [hc,hb2,show (t_==f_)=false by simp;omega,hk];simp only [cond_false,yoa]
  by_cases hy:(p.getD k zE).at_<f_
  ·rw [yha hy,if_pos hy];simp only [cond_true];have:=QTa (p.take k) (p.getD k zE);rw [c1_eq _ _ _ (by omega),key _ (by show (putS (p.take k) (p.getD k zE)).length<=_;omega)]
   rfl
  ·rw [yja hy,if_neg hy];simp only [cond_false];rw [key _ (by omega)]
   rfl
theorem add_eq (p:List Step) (f_ t_ n:Int):QI2 p f_ t_ n=Q73 p f_ t_ n:=by
 by_cases hc:Qk1 p=0
 ·have hp:=(Qo6 p).1 hc;have hcb:((Qk1 p)!=0)=false:=by rw [hc];rfl
  by_cases hb:0<=f_∧f_<=1000000∧f_<=t_ ∧ -1000000<=n∧n<=1000000
  ·obtain ⟨h0,hf,hft,hn⟩:=hb;obtain ⟨q,hq,hr⟩:=ref_add hp h0 hf hft hn;rw [hr]
   by_cases he:t_=f_
   ·have hqp:q=p:=Can.uniq hq.1 hp.1 fun t ht0 ht1=>by rw [hq.2.2 t ht0 ht1,if_neg (by omega:¬(f_<=t∧t<t_))];omega
    rw [hqp,hcb];unfold QI2;rw [Qn7,hcb,show (((!(QJ2 f_))||(decide (t_<f_)))||(!(Qz2 n)))=false by simp [QJ2,Qz2];omega,show (t_==f_)=true by simpa using he]
    rfl
   ·obtain ⟨hq',hr'⟩:=prog_add (t_:=t_) hp h0 hf (by omega) hn;rw [hr',hq'.uniq hq]
  ·unfold QI2 Q73;rw [Qn7,hcb,show (((!(QJ2 f_))||(decide (t_<f_)))||(!(Qz2 n)))=true by simp [QJ2,Qz2];omega,show (((((decide (f_<0))||(decide (f_ > 1000000)))||(decide (t_<f_)))||(decide (n<(-1000000))))||(decide (n > 1000000)))=true by simp;omega]
   rfl
 ·have hcb:((Qk1 p)!=0)=true:=by simpa using hc
  unfold QI2 Q73;rw [Qn7,hcb]
  rfl
theorem QA9 (id:Int):∀ (l:List Job) (i:Nat) (c:List (Int × Int)),(∀ x ∈ l,x.state=2->x.id ≠ id)->getM id (Q82 l i c)=getM id c
 | [],_,_,_=>rfl
 | x :: r,i,c,h=>by
  rw [Q82]
  by_cases hs:x.state=2
  ·rw [show (x.state==2)=true by simpa using hs];simp only [cond_true];rw [QA9 id r (i+1) _ fun y hy=>h y (yga _ hy),QL7];have hne:=h x (yma ..) hs;rw [show (id==x.id)=false by simpa using fun e=>hne e.symm]
   rfl
  ·rw [show (x.state==2)=false by simpa using hs];simp only [cond_false];exact QA9 id r (i+1) c fun y hy=>h y (yga _ hy)
theorem QHb (x:Job) (hs:x.state=2):∀ (l:List Job) (i:Nat) (c:List (Int × Int)),x ∈ l->l.Pairwise (fun a b=>a.id<b.id)->getM x.id (Q82 l i c)=some x.limit
 | [],_,_,h,_=>absurd h ymb
 | y :: r,i,c,h,hp=>by
  rw [yFc] at hp;rw [Q82];rcases List.mem_cons.1 h with rfl|hm
  ·rw [show (x.state==2)=true by simpa using hs];simp only [cond_true];rw [QA9 x.id r (i+1) _ fun z hz _ e=>by have:=hp.1 z hz;omega,QL7];simp
  ·cases (y.state==2) with
   | true=>exact QHb x hs r (i+1) _ hm hp.2
   | false=>exact QHb x hs r (i+1) c hm hp.2
theorem jat_none (id:Int):∀ (l:List Job) (i:Nat),(∀ x ∈ l,x.id ≠ id)->QF3 id l i = -1
 | [],_,_=>rfl
 | x :: r,i,h=>by
  rw [QF3,show (x.id==id)=false by simpa using h x (yma ..)];exact jat_none id r (i+1) fun y hy=>h y (yga _ hy)
theorem jat_some (x:Job):∀ (l:List Job) (i:Nat),x ∈ l->l.Pairwise (fun a b=>a.id<b.id) -> ∃ k:Nat,l[k]? = some x∧QF3 x.id l i=((i+k:Nat):Int)
 | [],_,h,_=>absurd h ymb
 | y :: r,i,h,hp=>by
  rw [yFc] at hp;rw [QF3];rcases List.mem_cons.1 h with rfl|hm
  ·exact ⟨0,rfl,by simp⟩
  ·rw [show (y.id==x.id)=false by have:=hp.1 x hm;simp;omega];obtain ⟨k,hk,e⟩:=jat_some x r (i+1) hm hp.2;exact ⟨k+1,hk,by rw [cond_false,e];congr 1;omega⟩
theorem jget_none (id:Int) (l:List Job) (h:∀ x ∈ l,x.id ≠ id):Q95 l id=zG:=by
 have e:Qv1 l id = -1:=jat_none id l 0 h;unfold Q95;rw [e]
 rfl
theorem Qzf {l:List Job} (hp:l.Pairwise (fun a b=>a.id<b.id)) {x:Job} (hx:x ∈ l):Q95 l x.id=x:=by
 obtain ⟨k,hk,e⟩:=jat_some x l 0 hx hp;have e:Qv1 l x.id=((0+k:Nat):Int):=e;unfold Q95;rw [e,show decide ((((0+k:Nat):Int))<0)=false by simp];simp [List.getD,hk]
theorem until_node {l:List Job} (hp:l.Pairwise (fun a b=>a.id<b.id)) (x:Node):QQ0 x (Qu0 l)=(bif ((x.drain||(x.state==0))||(x.state==4)) then 0 else bif (x.state==3) then w64 (x.since+12) else bif ((Q95 l x.job).state != 2) then 1000001 else w64 ((Q95 l x.job).limit+12)):=by
 unfold QQ0;have e:(((x.state==0)||(x.state==4))||x.drain)=((x.drain||(x.state==0))||(x.state==4)):=by
  cases x.drain <;> cases (x.state==0) <;> cases (x.state==4) <;> rfl
 rw [e]
 congr 2
 show (bif (!(getM x.job (Q82 l 0 [])).isSome) then 1000001 else (w64 (((getM x.job (Q82 l 0 [])).getD 0)+12)))=_
 by_cases h:∃ j ∈ l,j.id=x.job∧j.state=2
 ·obtain ⟨j,hj,e1,e2⟩:=h;rw [← e1,QHb j e2 l 0 [] hj hp,Qzf hp hj,show (j.state != 2)=false by simpa using e2]
  rfl
 ·have hn:getM x.job (Q82 l 0 [])=none:=by
   rw [QA9 x.job l 0 [] fun j hj h2 h1=>h ⟨j,hj,h1,h2⟩]
   rfl
  rw [hn];have hs:((Q95 l x.job).state != 2)=true:=by
   by_cases hm:∃ j ∈ l,j.id=x.job
   ·obtain ⟨j,hj,e1⟩:=hm;rw [← e1,Qzf hp hj];have:j.state ≠ 2:=fun h2=>h ⟨j,hj,e1,h2⟩
    simpa using this
   ·rw [jget_none x.job l fun j hj e1=>hm ⟨j,hj,e1⟩]
    rfl
  rw [hs]
  rfl
def tk (l:List Job) (x:Node):Int:=bif ((x.drain||(x.state==0))||(x.state==4)) then 0 else bif (x.state==3) then w64 (x.since+12) else bif ((Q95 l x.job).state != 2) then 1000001 else w64 ((Q95 l x.job).limit+12)
theorem ref_until (s:State) (i:Nat):Q7g s (i:Int)=tk s.jobs (s.nodes.getD i zF):=rfl
theorem until_tk {l:List Job} (hp:l.Pairwise (fun a b=>a.id<b.id)) (x:Node):QQ0 x (Qu0 l)=tk l x:=until_node hp x
theorem QXa {s:State} (h:Qb1 s=0):(0<=s.now∧s.now<=1000000)∧Q50 s.nodes=0∧Qr1 s.jobs=0∧QI4 s.books=0:=by
 simp only [Qb1] at h;revert h;cases h2:(((((decide (s.now<0))||(decide (s.now > 1000000)))||((Q50 s.nodes)!=0))||((Qr1 s.jobs)!=0))||((QI4 s.books)!=0)) with
 | true=>intro h;cases h
 | false =>
  intro _;simp only [yZa,yCa,bne_eq_false_iff_eq] at h2;exact ⟨by omega,h2.1.1.2,h2.1.2,h2.2⟩
def Rp (p:List Step) (f:Int->Int) (N:Nat):Prop:=Can p∧p.length<=N ∧ ∀ t,0<=t->t<=1000000->pat p t=f t
def Bd (f:Int->Int) (B:Int):Prop:=∀ t,0<=t->t<=1000000 -> -B<=f t∧f t<=B
theorem Rp.uniq {p q:List Step} {f:Int->Int} {N M:Nat} (hp:Rp p f N) (hq:Rp q f M):p=q:=Can.uniq hp.1 hq.1 fun t h0 h1=>by rw [hp.2.2 t h0 h1,hq.2.2 t h0 h1]
theorem Rp.congr {p:List Step} {f g:Int->Int} {N:Nat} (hp:Rp p f N) (h:∀ t,0<=t->t<=1000000->f t=g t):Rp p g N:=⟨hp.1,hp.2.1,fun t h0 h1=>by rw [hp.2.2 t h0 h1,h t h0 h1]⟩
theorem Rp.le {p:List Step} {f:Int->Int} {N M:Nat} (hp:Rp p f N) (h:N<=M):Rp p f M:=⟨hp.1,yJa hp.2.1 h,hp.2.2⟩
theorem Rp.cn {p:List Step} {f:Int->Int} {N:Nat} (h:Rp p f N) (hN:N<=1000) (hb:Bd f 1000000):Cn p:=by
 refine ⟨h.1,yJa h.2.1 hN,fun x hx=>?_⟩;obtain ⟨a,b,c⟩:=h.1.srt0.mem x hx;rw [← c,h.2.2 x.at_ a b];exact hb x.at_ a b
theorem QHf {p:List Step} {f:Int->Int} {N:Nat} {B:Int} (h:Rp p f N) (hN:N+2<=1000) (hb:Bd f B) (hB:B<=900000) {f_ n:Int} (t_:Int) (h0:0<=f_) (hf:f_<=1000000) (hn:0<=n∧n<=100000) :
  Rp (QV6 p f_ t_ n) (fun t=>f t - (if f_<=t∧t<t_ then n else 0)) (N+2)∧Bd (fun t=>f t - (if f_<=t∧t<t_ then n else 0)) (B+n):=by
 have hbd:Bd (fun t=>f t - (if f_<=t∧t<t_ then n else 0)) (B+n):=by
  intro t a b;have:=hb t a b;show _<=f t - (if f_<=t∧t<t_ then n else 0)∧f t - (if f_<=t∧t<t_ then n else 0)<=_;split <;> omega
 refine ⟨?_,hbd⟩;have hcn:Cn p:=h.cn (by omega) fun t a b=>by have:=hb t a b;omega
 have hw:w64 (0 - n) = -n:=by
  have:w64 (0 - n)=0 - n:=wr (by omega);rw [this];omega
 unfold QV6;rw [hw]
 by_cases hft:f_<=t_
 ·obtain ⟨q,hq,hr⟩:=ref_add hcn h0 hf hft (n:=-n) (by omega);have hrq:Rp q (fun t=>f t - (if f_<=t∧t<t_ then n else 0)) (N+2):=by
   refine ⟨hq.1,yJa hq.2.1 (by have:=h.2.1;omega),fun t a b=>?_⟩;rw [hq.2.2 t a b,h.2.2 t a b];dsimp only;split <;> omega
  have hcq:((Qk1 q)!=0)=false:=by
   rw [(Qo6 q).2 (hrq.cn hN fun t a b=>by have:=hbd t a b;omega)]
   rfl
  rw [hr,hcq];exact hrq
 ·have he:(Q73 p f_ t_ (-n)).2=2:=by
   unfold Q73;rw [show ((Qk1 p)!=0)=false by rw [(Qo6 p).2 hcn];rfl,show (((((decide (f_<0))||(decide (f_ > 1000000)))||(decide (t_<f_)))||(decide (-n<(-1000000))))||(decide (-n > 1000000)))=true by simp;omega]
   rfl
  rw [he];refine ⟨h.1,yJa h.2.1 (by omega),fun t a b=>?_⟩;show pat p t=f t - (if f_<=t∧t<t_ then n else 0);rw [h.2.2 t a b,if_neg (by omega:¬(f_<=t∧t<t_))];omega
theorem QPg {t:Taken} {f:Int->Int} {N:Nat} {B:Int} (h:Rp t.p f N) (hN:N+2<=1000) (hb:Bd f B) (hB:B<=900000) {f_ n:Int} (t_:Int) (h0:0<=f_) (hf:f_<=1000000) (hn:0<=n∧n<=100000):(Qo1 t f_ t_ n).p=QV6 t.p f_ t_ n:=by
 unfold Qo1
 by_cases hc:((decide (t_<=f_))||(n==0))=true
 ·rw [hc];simp only [cond_true];refine h.uniq ((QHf h hN hb hB t_ h0 hf hn).1.congr fun t a b=>?_);have:(if f_<=t∧t<t_ then n else 0)=0:=by
   simp at hc;split
   ·omega
   ·rfl
  rw [this];omega
 ·rw [yZb] at hc;rw [hc,add_eq];simp only [cond_false];unfold QV6
  by_cases he:(Q73 t.p f_ t_ (w64 (0 - n))).2=0
  ·rw [show ((Q73 t.p f_ t_ (w64 (0 - n))).2==0)=true by simpa using he,show ((Q73 t.p f_ t_ (w64 (0 - n))).2 != 0)=false by simpa using he]
   rfl
  ·rw [show ((Q73 t.p f_ t_ (w64 (0 - n))).2==0)=false by simpa using he,show ((Q73 t.p f_ t_ (w64 (0 - n))).2 != 0)=true by simpa using he]
   rfl
theorem flat_rp {n:Int} (h:0<=n∧n<=1000000):Rp (Qy2 n) (fun _=>n) 1∧Q69 n=Qy2 n:=by
 have e:Qy2 n=[⟨0,n⟩]:=by
  unfold Qy2;rw [show min (max n (-1000000)) 1000000=n by omega]
 refine ⟨?_,?_⟩
 ·rw [e];exact ⟨⟨rfl,trivial,trivial⟩,yla _,fun t a b=>by simp [pat,pv,a]⟩
 ·rw [e];unfold Q69 QE9;rw [show decide (n < -1000000)=false by simp;omega,show decide (n > 1000000)=false by simp;omega]
  rfl
def sumT (t:Int):List Int->Int
 | []=>0
 | u :: r=>(if t<u then 1 else 0)+sumT t r
theorem sumT_le (t:Int):∀ l:List Int,0<=sumT t l∧sumT t l<=l.length
 | []=>⟨ySa _,ySa _⟩
 | u :: r=>by
  have:=sumT_le t r;simp only [sumT,yka];split <;> omega
theorem Q8g (s:State):∀ (l:List Node) (i:Nat) (p:List Step) (f:Int->Int) (N:Nat) (B:Int),s.nodes.drop i=l->Rp p f N->Bd f B->N+2*l.length<=1000->B+l.length<=900000 ->
  Rp (Qx4 s l p i).1 (fun t=>f t - sumT t (l.map (tk s.jobs))) (N+2*l.length)∧Bd (fun t=>f t - sumT t (l.map (tk s.jobs))) (B+l.length)
 | [],_,p,f,N,B,_,hp,hb,_,_=>⟨by simpa [Qx4,sumT] using hp,by simpa [sumT] using hb⟩
 | x :: r,i,p,f,N,B,h,hp,hb,hN,hB=>by
  obtain ⟨h1,h2⟩:=Qp9 zF h;simp only [yka] at hN hB;rw [Qx4,ref_until,h1];obtain ⟨a,b⟩:=QHf hp (by omega) hb (by omega) (tk s.jobs x) (f_:=0) (n:=1) (by omega) (by omega) (by omega);obtain ⟨c,d⟩:=Q8g s r (i+1) _ _ (N+2) (B+1) h2 a b (by omega) (by omega);have e:∀ t,0<=t->f t - (if 0<=t∧t<tk s.jobs x then 1 else 0) - sumT t (r.map (tk s.jobs))=f t - sumT t ((x :: r).map (tk s.jobs)):=by
   intro t ht;simp only [y8a,sumT];split <;> split <;> omega
  refine ⟨(c.le (by simp only [yka];omega)).congr fun t a b=>e t a,fun t a b=>?_⟩;have:=d t a b;simp only [e t a] at this;simp only [yka];omega
theorem ups_g1:∀ (l:List Node) (up:Int) (i:Nat),0<=up->up+l.length<=1000->(QP3 l up i).1=up+((l.filter fun y=>(y.state != 4)&&(!y.drain)).length:Int)
 | [],up,i,_,_=>by simp [QP3]
 | x :: r,up,i,h0,h=>by
  simp only [yka] at h;rw [QP3];cases hx:((x.state != 4)&&(!x.drain)) with
  | true =>
   have hw:w64 (up+1)=up+1:=wr (by omega);simp only [cond_true,hw];rw [ups_g1 r (up+1) (i+1) (by omega) (by omega),ywb,if_pos hx];simp only [yka];omega
  | false =>
   simp only [cond_false];rw [ups_g1 r up (i+1) h0 (by omega),ywb,if_neg (by simp [hx])]
theorem popN_zero:∀ m,popN m 0=0
 | 0=>rfl
 | m+1=>by simp [popN,popN_zero m]
theorem popN_list {α:Type} (is:α->Bool) (d:α):∀ (l:List α) (m n:Nat),l.length<=m->(∀ k,n.testBit k=(decide (k<l.length)&&is (l.getD k d)))->popN m n=(l.filter is).length
 | [],m,n,_,h=>by
  have:n=0:=y3b fun k=>by rw [h k];simp
  rw [this,popN_zero]
  rfl
 | x :: r,0,n,hl,_=>by simp at hl
 | x :: r,m+1,n,hl,h=>by
  have h0:=h 0;have ih:=popN_list is d r m (n / 2) (by simpa using hl) fun k=>by
   rw [← yJb,h (k+1)];simp
  have hb : n % 2 = if is x then 1 else 0 := by
   have e:n.testBit 0=is x:=by rw [h0];simp
   rw [yac] at e;cases hx:is x with
   | true=>rw [hx] at e;simp at e;simp [e]
   | false=>rw [hx] at e;simp at e;simp;omega
  have e : popN (m + 1) n = n % 2 + popN m (n / 2) := by rfl
  rw [e,ih,hb,ywb];cases is x <;> simp <;> omega
theorem count_where (l:List Node) (is:Node->Bool) (hc:Q50 l=0) (hl:l.length<=64):Q10 (Q31 l is)=((l.filter is).length:Int):=by
 obtain ⟨h1,h2⟩:=Q23 l is hc hl;rw [count_eq h1,popN_list is zF l 64 _ hl h2]
abbrev cntM (c:List (Int × Int)) (k:Int):Int:=(getM k c).getD 0
def wsum (c:List (Int × Int)) (w:Int->Int):List Int->Int
 | []=>0
 | k :: r=>w k*cntM c k+wsum c w r
theorem QTg (c:List (Int × Int)) (w:Int->Int):∀ (l m:List Int),wsum c w (l++m)=wsum c w l+wsum c w m
 | [],m=>by simp [wsum]
 | k :: r,m=>by simp only [ySb,wsum,QTg c w r m];omega
theorem wsum_perm (c:List (Int × Int)) (w:Int->Int) {l m:List Int} (h:l.Perm m):wsum c w l=wsum c w m:=by
 induction h with
 | nil=>rfl
 | cons x _ ih=>simp only [wsum,ih]
 | swap x y l=>simp only [wsum];omega
 | trans _ _ ih1 ih2=>exact ih1.trans ih2
theorem Qkd (u v:Int) (c:List (Int × Int)) (k:Int):cntM (setM u v c) k=if k=u then v else cntM c k:=by
 unfold cntM;rw [QL7]
 by_cases h:k=u
 ·rw [if_pos h,show (k==u)=true by simpa using h];rfl
 ·rw [if_neg h,show (k==u)=false by simpa using h];rfl
theorem wsum_out (u v:Int) (c:List (Int × Int)) (w:Int->Int):∀ (l:List Int),u ∉ l->wsum (setM u v c) w l=wsum c w l
 | [],_=>rfl
 | k :: r,h=>by
  simp only [ync,not_or] at h;simp only [wsum,wsum_out u v c w r h.2,Qkd,if_neg (fun e:k=u=>h.1 e.symm)]
theorem wsum_in (u:Int) (c:List (Int × Int)) (w:Int->Int):∀ (l:List Int),l.Nodup->u ∈ l->wsum (setM u (cntM c u+1) c) w l=wsum c w l+w u
 | [],_,h=>absurd h ymb
 | k :: r,hn,h=>by
  rw [List.nodup_cons] at hn;simp only [wsum,Qkd]
  by_cases e:k=u
  ·subst e;rw [if_pos rfl,wsum_out _ _ _ _ _ hn.1,Int.mul_add];omega
  ·rw [if_neg e];rcases List.mem_cons.1 h with h|h
   ·exact absurd h.symm e
   ·rw [wsum_in u c w r hn.2 h];omega
def sumW (w:Int->Int) (g:Node->Int):List Node->Int
 | []=>0
 | x :: r=>w (g x)+sumW w g r
theorem busy_g1 (s:State):∀ (l:List Node) (o:List Int) (i:Nat) (c:List (Int × Int)),o.Nodup->(∀ k,k ∈ o ↔ cntM c k ≠ 0)->(∀ k,0<=cntM c k∧cntM c k<=i)->i+l.length<=1000 ->
  (∀ k,0<=cntM (QL1 s l o i c).2 k∧cntM (QL1 s l o i c).2 k<=1000)∧(QL1 s l o i c).1.length<=o.length+l.length ∧
  ∀ w,wsum (QL1 s l o i c).2 w (QL1 s l o i c).1=wsum c w o+sumW w (fun x=>QQ0 x (Qu0 s.jobs)) l
 | [],o,i,c,_,_,hb,hi=>⟨fun k=>by have:=hb k;simp only [QL1];simp only [yVa] at hi;omega,by simp [QL1],fun w=>by simp [QL1,sumW]⟩
 | x :: r,o,i,c,hn,hm,hb,hi=>by
  simp only [yka] at hi;rw [QL1];generalize hu:QQ0 x (Qu0 s.jobs)=u;have hbu:=hb u;have hw:w64 (cntM c u+1)=cntM c u+1:=wr (by omega);have hc':∀ k,0<=cntM (setM u (cntM c u+1) c) k∧cntM (setM u (cntM c u+1) c) k<=((i+1:Nat):Int):=by
   intro k;rw [Qkd];have:=hb k;split <;> omega
  rw [show w64 ((getM u c).getD 0+1)=cntM c u+1 from hw]
  by_cases h0:cntM c u=0
  ·rw [show ((getM u c).getD 0==0)=true by simpa using h0];simp only [cond_true];have hnu:u ∉ o:=fun h=>(hm u).1 h h0
   obtain ⟨a,b,d⟩:=busy_g1 s r (o++[u]) (i+1) (setM u (cntM c u+1) c) (by
    rw [List.nodup_append]
    exact ⟨hn,(by simp),fun a ha b hb e=>hnu (by rw [List.mem_singleton.1 hb] at e;exact e ▸ ha)⟩) (fun k=>by
    rw [Qkd,yyb,yCc,hm k]
    by_cases e:k=u
    ·subst e;simp [h0]
    ·simp [e]) hc' (by omega)
   refine ⟨a,by simp only [yta,yka,yVa] at b;simp only [yka];omega,fun w=>?_⟩;rw [d w,QTg,wsum_out _ _ _ _ _ hnu];simp only [wsum,sumW,Qkd,if_true,h0,hu];omega
  ·rw [show ((getM u c).getD 0==0)=false by simpa using h0];simp only [cond_false]
   obtain ⟨a,b,d⟩:=busy_g1 s r o (i+1) (setM u (cntM c u+1) c) hn (fun k=>by
    rw [Qkd,hm k]
    by_cases e:k=u
    ·subst e;simp only [if_true];exact ⟨fun _=>by omega,fun _=>h0⟩
    ·simp [e]) hc' (by omega)
   refine ⟨a,by simp only [yka];omega,fun w=>?_⟩;rw [d w,wsum_in u c w o hn ((hm u).2 h0)];simp only [sumW,hu];omega
theorem busy_g2 (o:List Int) (c:List (Int × Int)) (hc:∀ k,0<=cntM c k∧cntM c k<=1000):∀ (l:List Int) (i:Nat) (t:Taken) (f:Int->Int) (N:Nat) (B:Int),(sorted o).drop i=l->Rp t.p f N->Bd f B->N+2*l.length<=1000->B+1000*l.length<=900000 ->
  Rp (Qq4 o c l i t).p (fun t=>f t - wsum c (fun k=>if t<k then 1 else 0) l) (N+2*l.length)
 | [],_,t,f,N,B,_,hp,_,_,_=>by simpa [Qq4,wsum] using hp
 | k :: r,i,t,f,N,B,h,hp,hb,hN,hB=>by
  obtain ⟨h1,h2⟩:=Qp9 (0:Int) h;simp only [yka] at hN hB;rw [Qq4,h1];have hk:=hc k;obtain ⟨a,b⟩:=QHf hp (by omega) hb (by omega) k (f_:=0) (n:=cntM c k) (by omega) (by omega) (by omega);have e:=QPg hp (by omega) hb (by omega) k (f_:=0) (n:=cntM c k) (by omega) (by omega) (by omega);rw [← e] at a;have d:=busy_g2 o c hc r (i+1) _ _ (N+2) (B+cntM c k) h2 a b (by omega) (by omega);refine (d.le (by simp only [yka];omega)).congr fun t ht _=>?_
  simp only [wsum]
  by_cases hlt:t<k
  ·rw [if_pos (⟨ht,hlt⟩:0<=t∧t<k),if_pos hlt];omega
  ·rw [if_neg (fun q:0<=t∧t<k=>hlt q.2),if_neg hlt];omega
theorem sumW_sumT (t:Int) (l:List Job) (hp:l.Pairwise (fun a b=>a.id<b.id)):∀ r:List Node,sumW (fun k=>if t<k then 1 else 0) (fun x=>QQ0 x (Qu0 l)) r=sumT t (r.map (tk l))
 | []=>rfl
 | x :: r=>by
  have e:=until_tk hp x;have ih:=sumW_sumT t l hp r;simp only [sumW,y8a,sumT,ih];simp only [e]
theorem sumT_map_le (t:Int) (l:List Job) (r:List Node):0<=sumT t (r.map (tk l))∧sumT t (r.map (tk l))<=r.length:=by
 have:=sumT_le t (r.map (tk l));simpa using this
def Qfc (s:State) (t:Int):Int:=((s.nodes.filter fun y=>(y.state != 4)&&(!y.drain)).length:Int) - sumT t (s.nodes.map (tk s.jobs))
theorem freeAt_bd (s:State) (h:s.nodes.length<=48):Bd (Qfc s) 48:=by
 intro t _ _;have h1:=sumT_map_le t s.jobs s.nodes;have h2:(s.nodes.filter fun y=>(y.state != 4)&&(!y.drain)).length<=s.nodes.length:=yOb _ _;unfold Qfc;omega
theorem Q9g {s:State} (hl:s.nodes.length<=48):Rp (QZ7 s) (Qfc s) 97:=by
 have h2:(s.nodes.filter fun y=>(y.state != 4)&&(!y.drain)).length<=s.nodes.length:=yOb _ _;have hu:=ups_g1 s.nodes 0 0 (by omega) (by omega);rw [Int.zero_add] at hu;obtain ⟨a,b⟩:=flat_rp (n:=((s.nodes.filter fun y=>(y.state != 4)&&(!y.drain)).length:Int)) (by omega);have hg:=(Q8g s s.nodes 0 _ _ 1 48 rfl a (fun t _ _=>by omega) (by omega) (by omega)).1;show Rp (Qx4 s s.nodes (Q69 (QP3 s.nodes 0 0).1) 0).1 _ _;rw [hu,b];exact hg.le (by omega)
theorem busy_rp {s:State} (hc:Qb1 s=0):Rp (Q83 s) (Qfc s) 97:=by
 obtain ⟨_,hf,ht,_⟩:=QXa hc;have hp:=(Q12 ht).2.2;have hl:=(QU5 (s:=s) (by rw [hc];rfl)).2;have h2:(s.nodes.filter fun y=>(y.state != 4)&&(!y.drain)).length<=s.nodes.length:=yOb _ _;have hup:Q10 (Qp8 s.nodes)=((s.nodes.filter fun y=>(y.state != 4)&&(!y.drain)).length:Int):=count_where s.nodes _ hf (by omega);obtain ⟨a,b,d⟩:=busy_g1 s s.nodes [] 0 [] .nil (fun k=>by simp [cntM,getM]) (fun k=>by simp [cntM,getM]) (by omega);unfold Q83;rw [show ((Qb1 s)!=0)=false by rw [hc];rfl];simp only [cond_false];unfold Qr4 Qb5;rw [hup];generalize QL1 s s.nodes [] 0 []=q at a b d;have hsl:(sorted q.1).length=q.1.length:=QHd _;simp only [yVa,yna] at b;have hg:=busy_g2 q.1 q.2 a (sorted q.1) 0 ⟨Qy2 ((s.nodes.filter fun y=>(y.state != 4)&&(!y.drain)).length:Int)⟩ _ 1 48 rfl (flat_rp (by omega)).1 (fun t _ _=>by omega) (by omega) (by omega);refine (hg.le (by omega)).congr fun t _ _=>?_
 have hperm:(sorted q.1).Perm q.1:=QN9 _;rw [wsum_perm _ _ hperm,d,sumW_sumT t s.jobs hp];simp [wsum,Qfc]
def QH9 (j:Job):Int × Int × Int × Bool:=bif ((QZ1 j)!=0) then (0,0,0,false) else Qf0 j
def bkAt (t:Int):List Book->Int
 | []=>0
 | b :: r=>(if b.from_<=t∧t<b.to then b.nodes else 0)+bkAt t r
def BookOk (b:Book):Prop:=0<=b.from_∧b.from_<=1000000∧0<=b.nodes∧b.nodes<=48
theorem books_ok:∀ (l:List Book) (last:Int) (i:Nat),i<=8->QR4 l last i=0->l.length+i<=8 ∧ ∀ b ∈ l,BookOk b
 | [],_,i,hi,_=>⟨by simpa using hi,fun b hb=>absurd hb ymb⟩
 | x :: r,last,i,hi,h=>by
  rw [QR4] at h;cases hc:(((((((((i:Int)==8)||(decide (x.id<=last)))||(decide (x.id > 99999)))||(decide (x.from_<0)))||(decide (x.to<=x.from_)))||(decide (x.to > 1000000)))||(decide (x.nodes<1)))||(decide (x.nodes > 48))) with
  | true=>rw [hc] at h;cases h
  | false =>
   rw [hc] at h;simp only [yZa,yCa,beq_eq_false_iff_ne] at hc;obtain ⟨⟨⟨⟨⟨⟨⟨h1,h2⟩,h3⟩,h4⟩,h5⟩,h6⟩,h7⟩,h8⟩:=hc;obtain ⟨a,b⟩:=books_ok r x.id (i+1) (by omega) h;refine ⟨by simp only [yka];omega,fun z hz=>?_⟩;rcases List.mem_cons.1 hz with rfl|hz
   ·exact ⟨by omega,by omega,by omega,by omega⟩
   ·exact b z hz
def OptOk (a:Alt):Prop:=1<=a.nodes∧a.nodes<=48∧1<=a.wall∧a.wall<=100000
theorem g3_inl (x:Alt):∀ (l:List Alt) (k:Nat) (v:Int),Qm2 x l k=Sum.inl v->v=70
 | [],_,_,h=>by simp [Qm2] at h
 | y :: r,k,v,h=>by
  rw [Qm2] at h;cases hc:(x.nodes==y.nodes) with
  | true=>rw [hc] at h;simp at h;omega
  | false=>rw [hc] at h;exact g3_inl x r (k+1) v h
theorem alts_ok (s:Shape):∀ (l:List Alt) (i:Nat),Qp1 s l i=0 -> ∀ a ∈ l,OptOk a
 | [],_,_,a,ha=>absurd ha ymb
 | x :: r,i,h,a,ha=>by
  rw [Qp1] at h;cases hc:((!(Qz1 x.nodes))||(!(Qw2 x.wall))) with
  | true=>rw [hc] at h;cases h
  | false =>
   rw [hc] at h;simp only [cond_false] at h;cases h3:Qm2 x (List.drop (i+1) s.alts) (i+1) with
   | inl v =>
    rw [h3] at h;have:=g3_inl _ _ _ _ h3;subst this;cases h
   | inr k =>
    rw [h3] at h;rcases List.mem_cons.1 ha with rfl|ha
    ·simp [Qz1,Qw2] at hc;exact ⟨by omega,by omega,by omega,by omega⟩
    ·exact alts_ok s r (i+1) h a ha
theorem mal_ok (s:Shape) (hs:1<=s.min∧s.min<=s.max∧s.max<=48) (hw:1<=s.wall∧s.wall<=100000):∀ (m:Nat) (out:List Alt) (i:Nat),(∀ a ∈ out,OptOk a) -> ∀ a ∈ (QA2 s m out i).1,OptOk a
 | 0,_,_,_,a,ha=>by simp [QA2] at ha
 | m+1,out,i,h,a,ha=>by
  rw [QA2] at ha;have hw1:w64 (s.max - s.min)=s.max - s.min:=wr (by omega);rw [hw1] at ha
  by_cases hc:(i:Int)<=s.max - s.min
  ·rw [yha hc] at ha;have hw2:w64 (s.max - (i:Int))=s.max - (i:Int):=wr (by omega);simp only [cond_true,hw2] at ha;refine mal_ok s hs hw m _ (i+1) (fun b hb=>?_) a ha;rcases List.mem_append.1 hb with hb|hb
   ·exact h b hb
   ·rw [List.mem_singleton.1 hb];exact ⟨by show 1<=s.max - (i:Int);omega,by show s.max - (i:Int)<=48;omega,hw.1,hw.2⟩
  ·rw [yja hc] at ha;exact h a ha
theorem options_ok (s:Shape):∀ a ∈ Qh0 s,OptOk a:=by
 intro a ha;unfold Qh0 at ha;cases hc:((QC1 s)!=0) with
 | true=>rw [hc] at ha;exact absurd ha ymb
 | false =>
  rw [hc] at ha;simp only [cond_false] at ha;have h0:QC1 s=0:=by simpa using hc
  cases hk:(s.kind != 3) with
  | true =>
   rw [hk] at ha;simp only [cond_true] at ha;have k1:∀ most,Q04 s most=0->OptOk a:=by
    intro most h;unfold Q04 at h;cases hq:(((((decide ((s.alts.length:Int)<1))||(decide ((s.alts.length:Int) > most)))||(s.min != 0))||(s.max != 0))||(s.wall != 0)) with
    | true=>rw [hq] at h;cases h
    | false=>rw [hq] at h;exact alts_ok s s.alts 0 h a ha
   unfold QC1 at h0;rw [show (s.kind==3)=false by simpa using hk] at h0;simp only [cond_false] at h0;cases h2:(s.kind==2) with
   | true=>rw [h2] at h0;exact k1 6 h0
   | false =>
    rw [h2] at h0;simp only [cond_false] at h0;cases h3:(s.kind != 1) with
    | true=>rw [h3] at h0;cases h0
    | false=>rw [h3] at h0;exact k1 1 h0
  | false =>
   rw [hk] at ha;obtain ⟨a1,a2,a3,_⟩:=Qva hc hk;have hw:1<=s.wall∧s.wall<=100000:=by
    unfold QC1 at h0;rw [show (s.kind==3)=true by simpa using hk] at h0;simp only [cond_true] at h0;cases hq:(((((decide ((s.alts.length:Int) > 0))||(!(Qz1 s.min)))||(!(Qz1 s.max)))||(decide (s.max<s.min)))||(!(Qw2 s.wall))) with
    | true=>rw [hq] at h0;cases h0
    | false =>
     simp only [yZa] at hq;have:=hq.2;simp [Qw2] at this;omega
   exact mal_ok s ⟨a1,a2,a3⟩ hw _ [] 0 (fun b hb=>absurd hb ymb) a ha
def clAt (t:Int) (x:Job):Int:=if (Qf0 x).2.2.2=true∧(Qf0 x).1<=t∧t<(Qf0 x).1+(Qf0 x).2.1 then (Qf0 x).2.2.1 else 0
def clsAt (ex:List Int) (t:Int):List Job->Int
 | []=>0
 | x :: r=>(if ex.any (fun e=>x.id==e) then 0 else clAt t x)+clsAt ex t r
theorem Qhd {x:Job} (h:QZ1 x=0):(0<=(Qf0 x).1∧(Qf0 x).1<=1000000)∧(0<=(Qf0 x).2.1∧(Qf0 x).2.1<=200000)∧(0<=(Qf0 x).2.2.1∧(Qf0 x).2.2.1<=48):=by
 unfold Qf0;cases hc:((x.state != 1)||(x.promise==(-1))) with
 | true=>simp
 | false =>
  simp only [cond_false];have hst:=QT6 (j:=x) (by rw [h];rfl);obtain ⟨c0,c1⟩:=Qde hst hc;have hm:(Qh0 x.shape).getD (Int.toNat x.choice) zA ∈ Qh0 x.shape:=QY8 (by omega);obtain ⟨o1,o2,o3,o4⟩:=options_ok x.shape _ hm;have hw:w64 (((Qh0 x.shape).getD (Int.toNat x.choice) zA).wall+12)=((Qh0 x.shape).getD (Int.toNat x.choice) zA).wall+12:=wr (by omega);rw [hw];have hpr:0<=x.promise∧x.promise<=1000000:=by
   rw [yZa] at hc;have h1:(x.state==1)=true:=by simpa using hc.1
   rw [QT1,h1,hc.2] at hst;simp only [cond_true,cond_false] at hst;cases hq:(((x.start != 0)||(x.limit != 0))||(x.nodes != 0)) with
   | true=>rw [hq] at hst;cases hst
   | false =>
    rw [hq] at hst;simp only [cond_false,yca] at hst;have:=hst.1.1;simp [QA1] at this;omega
  exact ⟨hpr,⟨by omega,by omega⟩,by omega,by omega⟩
theorem claim_eq {x:Job} (hu:U64 x.nodes):Q20 x=QH9 x:=by
 unfold Q20 QH9;rw [job_eq x hu];cases hc:((QZ1 x)!=0) with
 | true=>rfl
 | false =>
  simp only [yXa,cond_false];unfold Qf0;rw [QV7];have e:((x.state != 1)||(decide (x.promise<0)))=((x.state != 1)||(x.promise==(-1))):=by
   cases h1:(x.state != 1) with
   | true=>rfl
   | false =>
    simp only [yXa];have hst:=QT6 (j:=x) hc;rw [QT1,show (x.state==1)=true by simpa using h1] at hst;simp only [cond_true] at hst;cases hq:(((x.start != 0)||(x.limit != 0))||(x.nodes != 0)) with
    | true=>rw [hq] at hst;cases hst
    | false =>
     rw [hq] at hst;simp only [cond_false] at hst;cases hp:(x.promise==(-1)) with
     | true =>
      have:x.promise = -1:=by simpa using hp
      rw [this]
      rfl
     | false =>
      rw [hp] at hst;simp only [cond_false,yca] at hst;have:=hst.1.1;simp [QA1] at this;rw [yCa];omega
  rw [e]
theorem left_g3 (x:Job):∀ (l:List Int) (b:Bool) (k:Nat),(QA6 x l b k).1=(b||l.any (fun e=>x.id==e))
 | [],b,k=>by simp [QA6]
 | e :: r,b,k=>by
  rw [QA6,left_g3 x r _ (k+1),y8b,Bool.or_assoc]
  congr 2
  rw [yLa,beq_iff_eq,beq_iff_eq];exact eq_comm
theorem books_rp:∀ (l:List Book) (i:Nat) (t:Taken) (p:List Step) (f:Int->Int) (N:Nat) (B:Int),t.p=p->(∀ b ∈ l,BookOk b)->Rp p f N->Bd f B->N+2*l.length<=1000->B+48*l.length<=900000 ->
  (QT2 l i t).p=(QO3 l p i).1∧Rp (QO3 l p i).1 (fun t=>f t - bkAt t l) (N+2*l.length)∧Bd (fun t=>f t - bkAt t l) (B+48*l.length)
 | [],_,t,p,f,N,B,h,_,hp,hb,_,_=>⟨h,by simpa [QO3,bkAt] using hp,by simpa [bkAt] using hb⟩
 | b :: r,i,t,p,f,N,B,h,hok,hp,hb,hN,hB=>by
  simp only [yka] at hN hB;obtain ⟨b1,b2,b3,b4⟩:=hok b (yma ..);rw [QT2,QO3];obtain ⟨a,c⟩:=QHf hp (by omega) hb (by omega) b.to (f_:=b.from_) (n:=b.nodes) b1 b2 (by omega);have e:=QPg (t:=t) (by rw [h];exact hp) (by omega) hb (by omega) b.to (f_:=b.from_) (n:=b.nodes) b1 b2 (by omega);rw [h] at e;obtain ⟨d1,d2,d3⟩:=books_rp r (i+1) _ _ _ (N+2) (B+b.nodes) e (fun z hz=>hok z (yga _ hz)) a c (by omega) (by omega);have ef:∀ t,f t - (if b.from_<=t∧t<b.to then b.nodes else 0) - bkAt t r=f t - bkAt t (b :: r):=fun t=>by simp only [bkAt];omega
  refine ⟨d1,(d2.le (by simp only [yka];omega)).congr fun t _ _=>ef t,fun t x y=>?_⟩;have:=d3 t x y;simp only [ef t] at this;simp only [yka];omega
theorem jobs_rp (ex:List Int):∀ (l:List Job) (i:Nat) (t:Taken) (p:List Step) (f:Int->Int) (N:Nat) (B:Int),t.p=p->(∀ x ∈ l,QZ1 x=0∧U64 x.nodes)->Rp p f N->Bd f B->N+2*l.length<=1000->B+48*l.length<=900000 ->
  (QB2 ex l i t).p=(Qd3 ex l p i).1∧Rp (Qd3 ex l p i).1 (fun t=>f t - clsAt ex t l) (N+2*l.length)
 | [],_,t,p,f,N,B,h,_,hp,_,_,_=>⟨h,by simpa [Qd3,clsAt] using hp⟩
 | x :: r,i,t,p,f,N,B,h,hok,hp,hb,hN,hB=>by
  simp only [yka] at hN hB;obtain ⟨hx,hu⟩:=hok x (yma ..);have hr:∀ y ∈ r,QZ1 y=0∧U64 y.nodes:=fun y hy=>hok y (yga _ hy)
  have hcl:Q20 x=Qf0 x:=by
   rw [claim_eq hu];unfold QH9;rw [hx]
   rfl
  obtain ⟨c1,c2,c3⟩:=Qhd hx;have hw:w64 ((Qf0 x).1+(Qf0 x).2.1)=(Qf0 x).1+(Qf0 x).2.1:=wr (by omega);rw [QB2,Qd3,Q7a,hcl,hw];dsimp only;rw [left_g3];simp only [yXa];cases hex:ex.any (fun e=>x.id==e) with
  | true =>
   simp only [ygb,cond_false,Bool.and_false];obtain ⟨d1,d2⟩:=jobs_rp ex r (i+1) t p f N B h hr hp hb (by omega) (by omega);refine ⟨d1,(d2.le (by simp only [yka];omega)).congr fun t _ _=>?_⟩;simp only [clsAt,hex,if_true];omega
  | false =>
   simp only [yTb,cond_true,yBc];cases hc:(Qf0 x).2.2.2 with
   | false =>
    simp only [cond_false];obtain ⟨d1,d2⟩:=jobs_rp ex r (i+1) t p f N B h hr hp hb (by omega) (by omega);refine ⟨d1,(d2.le (by simp only [yka];omega)).congr fun t _ _=>?_⟩;simp only [clsAt,hex,clAt,hc,yTa,false_and,if_false];omega
   | true =>
    simp only [cond_true];obtain ⟨a,c⟩:=QHf hp (by omega) hb (by omega) ((Qf0 x).1+(Qf0 x).2.1) (f_:=(Qf0 x).1) (n:=(Qf0 x).2.2.1) c1.1 c1.2 (by omega);have e:=QPg (t:=t) (by rw [h];exact hp) (by omega) hb (by omega) ((Qf0 x).1+(Qf0 x).2.1) (f_:=(Qf0 x).1) (n:=(Qf0 x).2.2.1) c1.1 c1.2 (by omega);rw [h] at e;obtain ⟨d1,d2⟩:=jobs_rp ex r (i+1) _ _ _ (N+2) (B+(Qf0 x).2.2.1) e hr a c (by omega) (by omega);refine ⟨d1,(d2.le (by simp only [yka];omega)).congr fun t _ _=>?_⟩;simp only [clsAt,hex,clAt,hc,yTa,if_false,true_and];omega
def Qs6 (s:State) (ex:List Int) (t:Int):Int:=Qfc s t - bkAt t s.books - clsAt ex t s.jobs
theorem room_rp {s:State} (hs:s.sz) (hn:∀ x ∈ s.jobs,U64 x.nodes) (hc:Qb1 s=0) (ex:List Int):Qw0 s ex=QY7 s ex∧Rp (Qw0 s ex) (Qs6 s ex) 200:=by
 obtain ⟨_,hf,ht,hbk⟩:=QXa hc;obtain ⟨hj40,hjs,hp⟩:=Q12 ht;have hl:=(QU5 (s:=s) (by rw [hc];rfl)).2;have hbk':Qg8 s.books=0:=by rw [← Ql9 s.books hs.2.2.2.2.1];exact hbk
 obtain ⟨hb8,hbo⟩:=books_ok s.books 0 0 (by omega) hbk';have hbusy:Q83 s=QZ7 s:=(busy_rp hc).uniq (Q9g hl);have hjo:∀ x ∈ s.jobs,QZ1 x=0∧U64 x.nodes:=fun x hx=>⟨by rw [← job_eq x (hn x hx)];exact hjs x hx,hn x hx⟩
 obtain ⟨a,b,c⟩:=books_rp s.books 0 ⟨Q83 s⟩ (QZ7 s) (Qfc s) 97 48 hbusy hbo (Q9g hl) (freeAt_bd s hl) (by omega) (by omega);obtain ⟨d,e⟩:=jobs_rp ex s.jobs 0 (QT2 s.books 0 ⟨Q83 s⟩) _ _ _ _ a hjo b c (by omega) (by omega);have e1:Qw0 s ex=(QB2 ex s.jobs 0 (QT2 s.books 0 ⟨Q83 s⟩)).p:=rfl;have e2:QY7 s ex=(Qd3 ex s.jobs (QO3 s.books (QZ7 s) 0).1 0).1:=rfl;refine ⟨by rw [e1,e2,d],?_⟩;rw [e1,d];exact e.le (by omega)
theorem room_eq2 {s:State} (hs:s.sz) (hn:∀ x ∈ s.jobs,U64 x.nodes) (ex:List Int):Qw0 s ex=QBd s ex:=by
 have hc:=room_eq s hs hn;unfold QBd;rw [← hc];cases h:((Qb1 s)!=0) with
 | true =>
  have hb:(Q83 s).length=0:=by
   unfold Q83;rw [h]
   rfl
  exact QPc hb
 | false=>exact (room_rp hs hn (by simpa using h) ex).1
theorem pv_at {t:Int}:∀ (k:Nat) (x:Step) (r:List Step) (f:Int),k<=r.length->Srt x.at_ r->((x :: r).getD k zE).at_<=t->(k+1<(x :: r).length->t<((x :: r).getD (k+1) zE).at_)->pv f (x :: r) t=((x :: r).getD k zE).free
 | 0,x,[],f,_,_,h,_=>by
  have h':x.at_<=t:=h;simp [pv,h']
 | 0,x,z :: r,f,_,hs,h,h2=>by
  have h':x.at_<=t:=h;have h3:t<z.at_:=h2 (by simp);show (if x.at_<=t then pv x.free (z :: r) t else pv f (z :: r) t)=x.free;rw [if_pos h'];exact Qs1 (a:=t) ⟨h3,hs.2⟩ (ySa _)
 | k+1,x,[],f,hk,_,_,_=>by simp at hk
 | k+1,x,z :: r,f,hk,hs,h,h2=>by
  have hk':k<=r.length:=by simpa using hk
  have hz:=Srt.get r z k hs.2.2 hk';have h1:((z :: r).getD k zE).at_<=t:=h;have hx:=hs.1;show (if x.at_<=t then pv x.free (z :: r) t else pv f (z :: r) t)=_;rw [if_pos (by omega),pv_at k z r x.free hk' hs.2.2 h1 (fun hl=>h2 (by simp at hl ⊢;omega))]
  rfl
theorem bkAt_bd (t:Int):∀ l:List Book,(∀ b ∈ l,BookOk b)->0<=bkAt t l∧bkAt t l<=48*l.length
 | [],_=>by simp [bkAt]
 | b :: r,h=>by
  have:=bkAt_bd t r fun z hz=>h z (yga _ hz)
  obtain ⟨_,_,b3,b4⟩:=h b (yma ..);simp only [bkAt,yka];split <;> omega
theorem clAt_bd (t:Int) {x:Job} (h:QZ1 x=0):0<=clAt t x∧clAt t x<=48:=by
 have:=(Qhd h).2.2;unfold clAt;split <;> omega
theorem clsAt_bd (ex:List Int) (t:Int):∀ l:List Job,(∀ x ∈ l,QZ1 x=0)->0<=clsAt ex t l∧clsAt ex t l<=48*l.length
 | [],_=>by simp [clsAt]
 | x :: r,h=>by
  have h1:=clsAt_bd ex t r fun z hz=>h z (yga _ hz)
  have h2:=clAt_bd t (h x (yma ..));simp only [clsAt,yka];split <;> omega
theorem room_facts {s:State} (hs:s.sz) (hn:∀ x ∈ s.jobs,U64 x.nodes) (hc:Qb1 s=0):(∀ b ∈ s.books,BookOk b)∧s.books.length<=8∧(∀ x ∈ s.jobs,QZ1 x=0)∧s.jobs.length<=40∧s.jobs.Pairwise (fun a b=>a.id<b.id)∧s.nodes.length<=48:=by
 obtain ⟨_,hf,ht,hbk⟩:=QXa hc;obtain ⟨hj40,hjs,hp⟩:=Q12 ht;have hl:=(QU5 (s:=s) (by rw [hc];rfl)).2;have hbk':Qg8 s.books=0:=by rw [← Ql9 s.books hs.2.2.2.2.1];exact hbk
 obtain ⟨hb8,hbo⟩:=books_ok s.books 0 0 (by omega) hbk';exact ⟨hbo,by omega,fun x hx=>by rw [← job_eq x (hn x hx)];exact hjs x hx,hj40,hp,hl⟩
theorem QCg (a b n:Int):∀ (l:List Step) (out:Int) (i:Nat),n<=(Q24 a b l out i).1 ↔ n<=out ∧ ∀ x ∈ l,a<x.at_->x.at_<b->n<=x.free
 | [],out,i=>by simp [Q24]
 | x :: r,out,i=>by
  rw [Q24];cases hc:(((decide (x.at_ > a))&&(decide (x.at_<b)))&&(decide (x.free<out))) with
  | true =>
   simp only [yca,yda] at hc;simp only [cond_true];rw [QCg a b n r x.free (i+1)];constructor
   ·rintro ⟨h1,h2⟩;refine ⟨by omega,fun y hy=>?_⟩;rcases List.mem_cons.1 hy with rfl|hy
    ·exact fun _ _=>h1
    ·exact h2 y hy
   ·rintro ⟨h1,h2⟩;exact ⟨h2 x (yma ..) (by omega) (by omega),fun y hy=>h2 y (yga _ hy)⟩
  | false =>
   simp only [cond_false];rw [QCg a b n r out (i+1)];constructor
   ·rintro ⟨h1,h2⟩;refine ⟨h1,fun y hy=>?_⟩;rcases List.mem_cons.1 hy with rfl|hy
    ·intro g1 g2;simp only [yPb,yCa] at hc;omega
    ·exact h2 y hy
   ·rintro ⟨h1,h2⟩;exact ⟨h1,fun y hy=>h2 y (yga _ hy)⟩
theorem QFd {p:List Step} (hp:Cn p) {a b:Int} (n:Int) (h0:0<=a) (h1:a<=1000000) (hab:a<b):n<=QF9 p a b ↔ ∀ u,a<=u->u<b->n<=pat p u:=by
 have hc:(((((Qk1 p)!=0)||(decide (a<0)))||(decide (a > 1000000)))||(decide (b<=a)))=false:=by
  rw [(Qo6 p).2 hp];simp;omega
 unfold QF9;rw [hc];simp only [cond_false];unfold Qhb;rw [QCg,now_eq];exact least_fit hp.1 a b n h0 hab
theorem Cn.srt {p:List Step} (h:Cn p):Srt (-1) p:=by
 have hp:=h.1;cases p with
 | nil=>exact hp.elim
 | cons x r=>exact ⟨by have:=hp.1;omega,by have:=hp.1;omega,hp.2.1⟩
theorem Srt.drop:∀ {p:List Step} {a:Int} (i:Nat),Srt a p -> ∃ c,a<=c∧Srt c (p.drop i)
 | [],a,i,_=>⟨a,ySa _,by simp [Srt]⟩
 | _ :: _,a,0,h=>⟨a,ySa _,h⟩
 | x :: r,a,i+1,h=>by
  obtain ⟨c,h1,h2⟩:=Srt.drop i h.2.2;exact ⟨c,by have:=h.1;omega,h2⟩
theorem pleast_g1 {p:List Step} (hs:Srt (-1) p) (hl:p.length<=1000) (b n:Int):∀ (m i:Nat) (k:Int),p.length - i<m->i<=p.length->(n<=(Q33 p b m (i:Int) k).2 ↔ n<=k ∧ ∀ x ∈ p.drop i,x.at_<b->n<=x.free)
 | 0,_,_,h,_=>absurd h (by omega)
 | m+1,i,k,hm,hi=>by
  rw [Q33];rcases ypa i p.length with hlt|hge
  ·have hd:=Qq0 zE hlt;obtain ⟨c,_,hc⟩:=Srt.drop i hs;rw [hd] at hc;have hw:w64 ((i:Int)+1)=((i+1:Nat):Int):=wr (by omega);rw [show decide ((i:Int)<(p.length:Int))=true from yha (by omega),yFb,yoa,hw,hd];cases hb:decide ((p.getD i zE).at_<b) with
   | true =>
    have hb:=yfa hb;simp only [cond_true];rw [pleast_g1 hs hl b n m (i+1) _ (by omega) (by omega)];constructor
    ·rintro ⟨h1,h2⟩;refine ⟨by omega,fun y hy=>?_⟩;rcases List.mem_cons.1 hy with rfl|hy
     ·intro _;omega
     ·exact h2 y hy
    ·rintro ⟨h1,h2⟩;have:=h2 _ (yma ..) hb;exact ⟨by omega,fun y hy=>h2 y (yga _ hy)⟩
   | false =>
    have hb:=yea hb;simp only [cond_false];constructor
    ·intro h1;refine ⟨h1,fun y hy hyb=>?_⟩;rcases List.mem_cons.1 hy with rfl|hy
     ·exact absurd hyb hb
     ·have:=(QVf (f:=0) hc.2.2 y hy).1;omega
    ·exact fun h=>h.1
  ·rw [show decide ((i:Int)<(p.length:Int))=false from yja (by omega),yNb,ykb hge];simp
theorem QAd {p:List Step} (hp:Cn p) {a b:Int} (n:Int) (h0:0<=a) (h1:a<=1000000) (hab:a<b):n<=QI0 p a b ↔ ∀ u,a<=u->u<b->n<=pat p u:=by
 have hc:((((QX1 p)!=0)||(!(QJ2 a)))||(decide (b<=a)))=false:=by
  rw [Qn7,(Qo6 p).2 hp];simp [QJ2];omega
 obtain ⟨k,hk,hkl,hka,hkn⟩:=place_spec hp h0;have hl:=hp.2.1;have hw:w64 ((k:Int)+1)=((k+1:Nat):Int):=wr (by omega);unfold QI0;rw [hc];simp only [cond_false];unfold QK3;rw [hk,hw,yoa,pleast_g1 hp.srt hl b n _ _ _ (by omega) (by omega),← least_fit hp.1 a b n h0 hab];have hpa:pat p a=(p.getD k zE).free:=by
  have hcan:=hp.1;cases p with
  | nil=>exact hcan.elim
  | cons x r =>
   show pv 0 (x :: r) a=_;exact pv_at k x r 0 (by simp at hkl;omega) hcan.2.1 hka (fun h=>hkn h)
 rw [hpa];refine and_congr Iff.rfl ?_;obtain ⟨c,_,hcs⟩:=Srt.drop k hp.srt;rw [Qq0 zE hkl] at hcs;constructor
 ·intro h x hx ha hb;have hx2:x ∈ p.take (k+1)++p.drop (k+1):=by rw [ytb];exact hx
  rcases List.mem_append.1 hx2 with hx2|hx2
  ·obtain ⟨j,hj,e⟩:=yMb hx2;have hj':j<k+1:=by simp at hj;omega
   have hjp:j<p.length:=by omega
   have e2:p[j]=x:=by rw [← e,List.getElem_take]
   have hle:x.at_<=a:=by
    rcases ypa j k with hjk|hjk
    ·obtain ⟨c2,_,hs2⟩:=Srt.drop j hp.srt;rw [Qq0 zE hjp] at hs2;have hm:p.getD k zE ∈ p.drop (j+1):=by
      have:p.getD k zE=(p.drop (j+1))[k - (j+1)]'(by simp;omega):=by
       rw [List.getElem_drop,y0a,yaa hkl];simp only [yFa]
       congr 1
       omega
      rw [this];exact y7a _
     have:=(QVf (f:=0) hs2.2.2 _ hm).1;rw [y0a,yaa hjp,yFa,e2] at this;omega
    ·have:j=k:=by omega
     subst this;rw [y0a,yaa hjp,yFa,e2] at hka;exact hka
   omega
  ·exact h x hx2 hb
 ·intro h x hx hb;refine h x (yPa hx) ?_ hb;have hx':a<x.at_:=by
   rcases ypa (k+1) p.length with hlt|hge
   ·have hn:=hkn hlt;rw [Qq0 zE hlt] at hx;have hs3:=hcs.2.2;rw [Qq0 zE hlt] at hs3;rcases List.mem_cons.1 hx with rfl|hx
    ·exact hn
    ·have:=(QVf (f:=0) hs3.2.2 x hx).1;omega
   ·rw [ykb hge] at hx;cases hx
  exact hx'
theorem least_eq {p:List Step} (hp:Cn p) {a b:Int} (h0:0<=a) (h1:a<=1000000) (hab:a<b):QI0 p a b=QF9 p a b :=
 Int.le_antisymm ((QFd hp _ h0 h1 hab).2 ((QAd hp _ h0 h1 hab).1 (ySa _))) ((QAd hp _ h0 h1 hab).2 ((QFd hp _ h0 h1 hab).1 (ySa _)))
theorem asks_iff (long n:Int):QJ7 long n=true ↔ (1<=n∧n<=1000000)∧1<=long∧long<=1000000:=by
 simp [QJ7,QK4]
theorem rfits_iff {p:List Step} (hp:Cn p) {long n:Int} (ha:QJ7 long n=true) {t:Int}:QR6 p t long n=true ↔ 0<=t∧t+long<=1000000∧Fit (pat p) long n t:=by
 obtain ⟨h1,h2⟩:=(asks_iff long n).1 ha;have hw:w64 (1000000 - long)=1000000 - long:=wr (by omega);unfold QR6;rw [(Qo6 p).2 hp,hw];cases hc:((((((((0:Int)!=0)||(decide (n<1)))||(decide (n > 1000000)))||(decide (long<1)))||(decide (long > 1000000)))||(decide (t<0)))||(decide (t > 1000000 - long))) with
 | true =>
  simp only [cond_true];constructor
  ·intro h;cases h
  ·rintro ⟨g1,g2,_⟩;simp at hc;omega
 | false =>
  simp at hc;have hw2:w64 (t+long)=t+long:=wr (by omega);simp only [cond_false,yda,ge_iff_le];rw [hw2,QFd hp n (by omega) (by omega) (by omega)];exact ⟨fun h=>⟨by omega,by omega,h⟩,fun h=>h.2.2⟩
theorem rfits_no {p:List Step} {long n:Int} (h:Qk1 p ≠ 0∨QJ7 long n=false) (t:Int):QR6 p t long n=false:=by
 unfold QR6;have:((((((((Qk1 p)!=0)||(decide (n<1)))||(decide (n > 1000000)))||(decide (long<1)))||(decide (long > 1000000)))||(decide (t<0)))||(decide (t > (w64 (1000000 - long)))))=true:=by
  rcases h with h|h
  ·simp [h]
  ·have h':¬ ((1<=n∧n<=1000000)∧1<=long∧long<=1000000):=fun g=>by rw [(asks_iff long n).2 g] at h;cases h
   simp;omega
 rw [this]
 rfl
theorem fits_eq (p:List Step) (t long n:Int):QI7 p t long n=QR6 p t long n:=by
 by_cases hc:Qk1 p=0
 ·have hp:=(Qo6 p).1 hc;cases ha:QJ7 long n with
  | false =>
   rw [rfits_no (.inr ha)];unfold QI7;rw [ha];simp
  | true =>
   obtain ⟨h1,h2⟩:=(asks_iff long n).1 ha;have hw:w64 (1000000 - long)=1000000 - long:=wr (by omega);unfold QI7 QR6;rw [Qn7,hc,ha,hw];cases hq:QK4 t 0 (1000000 - long) with
   | false =>
    have:(((((((((0:Int)!=0)||(decide (n<1)))||(decide (n > 1000000)))||(decide (long<1)))||(decide (long > 1000000)))||(decide (t<0)))||(decide (t > 1000000 - long))))=true:=by
     simp [QK4] at hq;simp;omega
    rw [this]
    rfl
   | true =>
    have:(((((((((0:Int)!=0)||(decide (n<1)))||(decide (n > 1000000)))||(decide (long<1)))||(decide (long > 1000000)))||(decide (t<0)))||(decide (t > 1000000 - long))))=false:=by
     simp [QK4] at hq;simp;omega
    rw [this];simp [QK4] at hq;have hw2:w64 (t+long)=t+long:=wr (by omega);rw [hw2,least_eq hp (by omega) (by omega) (by omega)]
    rfl
 ·rw [rfits_no (.inl hc)];unfold QI7;rw [Qn7];simp [hc]
end Go.Proofs.YtackngeeehiegaaGreatDoor
namespace Go.Fw
set_option linter.unusedSimpArgs false
set_option linter.unusedVariables false
open Go.RowKit Go.ChangeShapes Go.WideShapes Go.Deep
theorem QEf {C:Checked} {os:Os} {f:FuncId} {fn:Func} {s:ChangeSpec} {laid0:List (String × DataW Unit)} {conds:List PathCond} {apart fresh handsOn again:Bool} {H:Type} {enc:TypeId × Value->H} {Q:List AVal->Prop} {tb:TypeId}
  (own:ownKnob C.prog.godebug=none) (started:os.Started) (noInit:C.prog.inits.idxOf? f=none) (hfn:C.prog.funcs[f]? = some fn)
  (witness:∃ (w:World) (tape:Tape) (i:Input),w.os=os∧(w.forCall tape i).Shaped C.prog∧i.vars=[]∧Input.okWide C.prog (w.forCall tape i) .any w.heap.size f i ∧
   ((s.pre enc C.prog fn conds apart (w.forCall tape i).memory i.args∧laidMetH C.prog laid0 (w.forCall tape i).memory)∧sizedMet enc C.prog fn (OpenSpec.ofChange s) apart (w.forCall tape i).memory i.args)∧({}:Assume).holds C.prog (lone (Frame.enter C.prog f i.args .normal) [] (w.forCall tape i)))
  (hvars:s.vars=[]) (hres:fn.resultTypes = #[tb]) (hbool:C.prog.underlying tb=some .bool) (laid:laidOutB C.prog=true)
  (hts:fn.params.toList.all (fun t=>C.prog.readableRec t&&decide (t<C.prog.types.size))=true)
  (hspec:∀ ds:List (DataW H),ds.length=fn.params.size->s.fn H ds={ results:=[.lit (.bool true)],args:=ds })
  (hargs:ArgsAs C.prog fn.params.toList Q) (hlaw:∀ l,Q l->AGives C.prog f l [] (.lit (.bool true))) :
  ReturnsInHanded {} C os f .any (fun w args=>(s.pre enc C.prog fn conds apart w args∧laidMetH C.prog laid0 w)∧sizedMet enc C.prog fn (OpenSpec.ofChange s) apart w args) (s.post enc C.prog fn apart fresh handsOn again):=by
 refine returnsInHanded_of_change_and (X:=fun w _=>laidMetH C.prog laid0 w) (fun _ _ _ hh h=>h.of_heap hh) own started noInit hfn witness ?_;intro W base args ds gs before hval hW hcnd _ _ _;have hW':=hW;obtain ⟨p,q,hA,hV,hpq,hfz,hnd⟩:=hW;rw [hvars] at hV;obtain ⟨rfl,rfl⟩:=trodVars_none hV;rw [yUb] at hpq;subst hpq;obtain ⟨l,hQ,hreps⟩:=hargs.read (base:=base) (vs:=args.toList) (fun j t v hj hv=>hval j t v (by simpa using hj) (by simpa using hv)) hA;have hc:=law_calls (hlaw l hQ) hreps;rw [show args.toList.toArray=args by simp] at hc;refine hc.mono fun e W' ⟨he,hb⟩=>?_
 subst he;have hlen:ds.length=fn.params.size:=by
  have:∀ {ts:List TypeId} {vs:List Value} {ds:List (DataW H)} {ps:List MemPlace},DataW.TrodAll enc C.prog W 0 (fun _=>true) true ts vs ds ps->ds.length=ts.length:=by
   intro ts
   induction ts with
   | nil=>intro vs ds ps h;obtain ⟨rfl,rfl,rfl⟩:=trodAll_nil h;rfl
   | cons t ts ih=>intro vs ds ps h;obtain ⟨v,vs',d,ds',p,q,rfl,rfl,rfl,hd,hrest⟩:=trodAll_cons h;simp [ih hrest]
  simpa using this hA
 have hfn2:=hspec ds hlen;have hold:∀ p ∈ before,p.block<W.heap.size:=fun p hp=>by simpa using hW'.lt p hp
 have hR:∀ (b:Nat) (sp:Nat->Bool) (hd:Bool),DataW.TrodAll enc C.prog W' b sp hd fn.resultTypes.toList ((Value.bool true).resultList fn.resultTypes.size) (s.fn H (ds++[])).results []:=by
  intro b sp hd;rw [yUb,hfn2,hres];exact trodAll_cons_mk (shut_bool hbool _) trodAll_mk0
 have hAr:∀ sp:Nat->Bool,(∀ p ∈ before,sp p.block=true)->DataW.TrodAll enc C.prog W' 0 sp true fn.params.toList args.toList (s.fn H (ds++[])).args before:=by
  intro sp hsp;rw [yUb,hfn2];exact Q8d laid hb hts hA hold hsp
 have hVr:∀ sp:Nat->Bool,DataW.TrodVars enc C.prog W' sp s.vars (s.fn H (ds++[])).vars []:=by
  intro sp;rw [yUb,hfn2,hvars]
  rfl
 refine ⟨_,rfl,ds,[],before,[],before,[],hW',hR _ _ _,hAr _ (fun p hp=>by simpa using hold p hp),hVr _,hb.frame _,fun _=>⟨ok_one hres rfl (okWide_bool_mk hbool _),_,_,([]++before)++[],⟨[]++before,[],trodAll_append (hAr _ (fun _ _=>rfl)) (hR _ _ _),hVr _,rfl,?_,?_⟩,?_⟩⟩
 ·intro b off hp;have hp:MemPlace.cell b off ∈ before:=by simpa using hp
  rw [hb.frozen (p:=⟨b,off,none⟩) (hold _ hp)];exact hfz b off (by simpa using hp)
 ·intro ha;simpa using hnd ha
 ·intro p hp _;simpa using hp
end Go.Fw
namespace Go.Proofs.YtackngeeehiegaaGreatDoor
set_option linter.unusedSimpArgs false
set_option linter.unusedVariables false
open Go.Fw
set_option maxRecDepth 100000
theorem ty3:Tryz.prog.underlying 47 = some (.int .u64):=by kernel_rfl
theorem ty2:Tryz.prog.underlying 9 = some (.string):=by kernel_rfl
theorem ty1:Tryz.prog.underlying 4 = some (.bool):=by kernel_rfl
theorem ty0:Tryz.prog.underlying 3 = some (.int .i64):=by kernel_rfl
def Node.wf (x:Node):Prop:=(Lit.int .i64 x.state).wf=true∧(Lit.int .i64 x.job).wf=true∧(Lit.int .i64 x.epoch).wf=true∧True∧(Lit.int .i64 x.want).wf=true∧(Lit.int .i64 x.since).wf=true∧(Lit.int .i64 x.asked).wf=true∧True
theorem readNode:ReadAs Tryz.prog 55 Node.cells Node.wf:=by
 have h:=ReadAs.struct (P:=Tryz.prog) (t:=55) rfl (by kernel_rfl) (.cons rfl (ReadAs.int ty0) (.cons rfl (ReadAs.int ty0) (.cons rfl (ReadAs.int ty0) (.cons rfl (ReadAs.bool ty1) (.cons rfl (ReadAs.int ty0) (.cons rfl (ReadAs.int ty0) (.cons rfl (ReadAs.int ty0) .nil)))))));exact h.map (fun p=>(⟨p.1,p.2.1,p.2.2.1,p.2.2.2.1,p.2.2.2.2.1,p.2.2.2.2.2.1,p.2.2.2.2.2.2.1⟩:Node)) (fun _=>rfl) (fun _ h=>h)
theorem readNodes:ReadAs Tryz.prog 22 (fun l=>[nodeL l]) fun l=>l.length<=maxLen ∧ ∀ a ∈ l,Node.wf a :=
 ReadAs.slice zF rfl (by kernel_rfl) (by decide) readNode (fun _=>rfl)
def Alt.wf (x:Alt):Prop:=(Lit.int .i64 x.nodes).wf=true∧(Lit.int .i64 x.wall).wf=true∧True
theorem readAlt:ReadAs Tryz.prog 178 Alt.cells Alt.wf:=by
 have h:=ReadAs.struct (P:=Tryz.prog) (t:=178) rfl (by kernel_rfl) (.cons rfl (ReadAs.int ty0) (.cons rfl (ReadAs.int ty0) .nil));exact h.map (fun p=>(⟨p.1,p.2.1⟩:Alt)) (fun _=>rfl) (fun _ h=>h)
theorem readAlts:ReadAs Tryz.prog 67 (fun l=>[altL l]) fun l=>l.length<=maxLen ∧ ∀ a ∈ l,Alt.wf a :=
 ReadAs.slice zA rfl (by kernel_rfl) (by decide) readAlt (fun _=>rfl)
def Shape.wf (x:Shape):Prop:=(Lit.int .i64 x.kind).wf=true∧(x.alts.length<=maxLen ∧ ∀ a ∈ x.alts,Alt.wf a)∧(Lit.int .i64 x.min).wf=true∧(Lit.int .i64 x.max).wf=true∧(Lit.int .i64 x.wall).wf=true∧True
theorem readShape:ReadAs Tryz.prog 69 Shape.cells Shape.wf:=by
 have h:=ReadAs.struct (P:=Tryz.prog) (t:=69) rfl (by kernel_rfl) (.cons rfl (ReadAs.int ty0) (.cons rfl (readAlts) (.cons rfl (ReadAs.int ty0) (.cons rfl (ReadAs.int ty0) (.cons rfl (ReadAs.int ty0) .nil)))));exact h.map (fun p=>(⟨p.1,p.2.1,p.2.2.1,p.2.2.2.1,p.2.2.2.2.1⟩:Shape)) (fun _=>rfl) (fun _ h=>h)
def Dep.wf (x:Dep):Prop:=(Lit.int .i64 x.how).wf=true∧(Lit.int .i64 x.job).wf=true∧True
theorem readDep:ReadAs Tryz.prog 191 Dep.cells Dep.wf:=by
 have h:=ReadAs.struct (P:=Tryz.prog) (t:=191) rfl (by kernel_rfl) (.cons rfl (ReadAs.int ty0) (.cons rfl (ReadAs.int ty0) .nil));exact h.map (fun p=>(⟨p.1,p.2.1⟩:Dep)) (fun _=>rfl) (fun _ h=>h)
theorem readDeps:ReadAs Tryz.prog 70 (fun l=>[depL l]) fun l=>l.length<=maxLen ∧ ∀ a ∈ l,Dep.wf a :=
 ReadAs.slice zC rfl (by kernel_rfl) (by decide) readDep (fun _=>rfl)
def Job.wf (x:Job):Prop:=(Lit.int .i64 x.id).wf=true∧x.name.size<=maxLen∧x.user.size<=maxLen∧x.account.size<=maxLen∧Shape.wf x.shape∧(Lit.int .i64 x.prio).wf=true∧(x.after.length<=maxLen ∧ ∀ a ∈ x.after,Dep.wf a)∧(Lit.int .i64 x.state).wf=true∧True∧(Lit.int .i64 x.born).wf=true∧(Lit.int .i64 x.promise).wf=true∧(Lit.int .i64 x.choice).wf=true∧(Lit.int .i64 x.start).wf=true∧(Lit.int .i64 x.limit).wf=true∧(Lit.int .u64 x.nodes).wf=true∧(Lit.int .i64 x.used).wf=true∧True
theorem readJob:ReadAs Tryz.prog 72 Job.cells Job.wf:=by
 have h:=ReadAs.struct (P:=Tryz.prog) (t:=72) rfl (by kernel_rfl) (.cons rfl (ReadAs.int ty0) (.cons rfl (ReadAs.string ty2) (.cons rfl (ReadAs.string ty2) (.cons rfl (ReadAs.string ty2) (.cons rfl (readShape) (.cons rfl (ReadAs.int ty0) (.cons rfl (readDeps) (.cons rfl (ReadAs.int ty0) (.cons rfl (ReadAs.bool ty1) (.cons rfl (ReadAs.int ty0) (.cons rfl (ReadAs.int ty0) (.cons rfl (ReadAs.int ty0) (.cons rfl (ReadAs.int ty0) (.cons rfl (ReadAs.int ty0) (.cons rfl (ReadAs.int ty3) (.cons rfl (ReadAs.int ty0) .nil))))))))))))))));exact h.map (fun p=>(⟨p.1,p.2.1,p.2.2.1,p.2.2.2.1,p.2.2.2.2.1,p.2.2.2.2.2.1,p.2.2.2.2.2.2.1,p.2.2.2.2.2.2.2.1,p.2.2.2.2.2.2.2.2.1,p.2.2.2.2.2.2.2.2.2.1,p.2.2.2.2.2.2.2.2.2.2.1,p.2.2.2.2.2.2.2.2.2.2.2.1,p.2.2.2.2.2.2.2.2.2.2.2.2.1,p.2.2.2.2.2.2.2.2.2.2.2.2.2.1,p.2.2.2.2.2.2.2.2.2.2.2.2.2.2.1,p.2.2.2.2.2.2.2.2.2.2.2.2.2.2.2.1⟩:Job)) (fun _=>rfl) (fun _ h=>h)
theorem readJobs:ReadAs Tryz.prog 23 (fun l=>[jobL l]) fun l=>l.length<=maxLen ∧ ∀ a ∈ l,Job.wf a :=
 ReadAs.slice zG rfl (by kernel_rfl) (by decide) readJob (fun _=>rfl)
def Resize.wf (x:Resize):Prop:=(Lit.int .i64 x.job).wf=true∧True∧(Lit.int .u64 x.nodes).wf=true∧(Lit.int .u64 x.said).wf=true∧(Lit.int .i64 x.since).wf=true∧True
theorem readResize:ReadAs Tryz.prog 49 Resize.cells Resize.wf:=by
 have h:=ReadAs.struct (P:=Tryz.prog) (t:=49) rfl (by kernel_rfl) (.cons rfl (ReadAs.int ty0) (.cons rfl (ReadAs.bool ty1) (.cons rfl (ReadAs.int ty3) (.cons rfl (ReadAs.int ty3) (.cons rfl (ReadAs.int ty0) .nil)))));exact h.map (fun p=>(⟨p.1,p.2.1,p.2.2.1,p.2.2.2.1,p.2.2.2.2.1⟩:Resize)) (fun _=>rfl) (fun _ h=>h)
theorem readResizes:ReadAs Tryz.prog 24 (fun l=>[QN1 l]) fun l=>l.length<=maxLen ∧ ∀ a ∈ l,Resize.wf a :=
 ReadAs.slice zH rfl (by kernel_rfl) (by decide) readResize (fun _=>rfl)
def Book.wf (x:Book):Prop:=(Lit.int .i64 x.id).wf=true∧(Lit.int .i64 x.from_).wf=true∧(Lit.int .i64 x.to).wf=true∧(Lit.int .i64 x.nodes).wf=true∧True
theorem readBook:ReadAs Tryz.prog 122 Book.cells Book.wf:=by
 have h:=ReadAs.struct (P:=Tryz.prog) (t:=122) rfl (by kernel_rfl) (.cons rfl (ReadAs.int ty0) (.cons rfl (ReadAs.int ty0) (.cons rfl (ReadAs.int ty0) (.cons rfl (ReadAs.int ty0) .nil))));exact h.map (fun p=>(⟨p.1,p.2.1,p.2.2.1,p.2.2.2.1⟩:Book)) (fun _=>rfl) (fun _ h=>h)
theorem readBooks:ReadAs Tryz.prog 25 (fun l=>[bookL l]) fun l=>l.length<=maxLen ∧ ∀ a ∈ l,Book.wf a :=
 ReadAs.slice zI rfl (by kernel_rfl) (by decide) readBook (fun _=>rfl)
def Usage.wf (x:Usage):Prop:=x.user.size<=maxLen∧x.account.size<=maxLen∧(Lit.int .i64 x.used).wf=true∧(Lit.int .i64 x.share).wf=true∧True
theorem readUsage:ReadAs Tryz.prog 138 Usage.cells Usage.wf:=by
 have h:=ReadAs.struct (P:=Tryz.prog) (t:=138) rfl (by kernel_rfl) (.cons rfl (ReadAs.string ty2) (.cons rfl (ReadAs.string ty2) (.cons rfl (ReadAs.int ty0) (.cons rfl (ReadAs.int ty0) .nil))));exact h.map (fun p=>(⟨p.1,p.2.1,p.2.2.1,p.2.2.2.1⟩:Usage)) (fun _=>rfl) (fun _ h=>h)
theorem readUsages:ReadAs Tryz.prog 26 (fun l=>[Q93 l]) fun l=>l.length<=maxLen ∧ ∀ a ∈ l,Usage.wf a :=
 ReadAs.slice zJ rfl (by kernel_rfl) (by decide) readUsage (fun _=>rfl)
def State.wf (x:State):Prop:=(Lit.int .i64 x.now).wf=true∧(x.nodes.length<=maxLen ∧ ∀ a ∈ x.nodes,Node.wf a)∧(x.jobs.length<=maxLen ∧ ∀ a ∈ x.jobs,Job.wf a)∧(x.resizes.length<=maxLen ∧ ∀ a ∈ x.resizes,Resize.wf a)∧(x.books.length<=maxLen ∧ ∀ a ∈ x.books,Book.wf a)∧(x.ledger.length<=maxLen ∧ ∀ a ∈ x.ledger,Usage.wf a)∧(Lit.int .i64 x.nextJob).wf=true∧(Lit.int .i64 x.nextBook).wf=true∧True
theorem readState:ReadAs Tryz.prog 28 State.cells State.wf:=by
 have h:=ReadAs.struct (P:=Tryz.prog) (t:=28) rfl (by kernel_rfl) (.cons rfl (ReadAs.int ty0) (.cons rfl (readNodes) (.cons rfl (readJobs) (.cons rfl (readResizes) (.cons rfl (readBooks) (.cons rfl (readUsages) (.cons rfl (ReadAs.int ty0) (.cons rfl (ReadAs.int ty0) .nil))))))));exact h.map (fun p=>(⟨p.1,p.2.1,p.2.2.1,p.2.2.2.1,p.2.2.2.2.1,p.2.2.2.2.2.1,p.2.2.2.2.2.2.1,p.2.2.2.2.2.2.2.1⟩:State)) (fun _=>rfl) (fun _ h=>h)
end Go.Proofs.YtackngeeehiegaaGreatDoor
namespace Go.Proofs.YtackngeeehiegaaGreatDoor
set_option linter.unusedSimpArgs false
set_option linter.unusedVariables false
open Go.Fw
theorem Shape.wf_szM {x:Shape} (h:x.wf):x.szM:=h.2.1.1
theorem Job.wf_szM {x:Job} (h:x.wf):x.szM:=⟨h.2.1,h.2.2.1,h.2.2.2.1,Shape.wf_szM h.2.2.2.2.1,h.2.2.2.2.2.2.1.1⟩
theorem Usage.wf_szM {x:Usage} (h:x.wf):x.szM:=⟨h.1,h.2.1⟩
theorem State.wf_szM {x:State} (h:x.wf):x.szM :=
 ⟨h.2.1.1,h.2.2.1.1,fun y hy=>Job.wf_szM (h.2.2.1.2 y hy),h.2.2.2.1.1,h.2.2.2.2.1.1,h.2.2.2.2.2.1.1,fun y hy=>Usage.wf_szM (h.2.2.2.2.2.1.2 y hy)⟩
theorem wf_u64 {n:Int} (h:(Lit.int .u64 n).wf=true):U64 n:=by
 unfold Lit.wf at h;simp only [yca,yda] at h;have e1:IntKind.u64.min=0:=by decide
 have e2:IntKind.u64.max=18446744073709551615:=by decide
 rw [e1,e2] at h;unfold U64;omega
theorem Job.wf_u64 {x:Job} (h:x.wf):U64 x.nodes:=by
 unfold Job.wf at h;exact Go.Proofs.YtackngeeehiegaaGreatDoor.wf_u64 h.2.2.2.2.2.2.2.2.2.2.2.2.2.2.1
section
variable {s:State}
theorem index_go (id:Int):∀ (l:List Resize) (i:Nat),(Qs0 (fun (y:Resize)=>(y.job==id)) l i = -1∧QL2 id l i=zH ∧ ∀ x ∈ l,x.job ≠ id) ∨ ∃ (p:Nat) (x:Resize),l[p]? = some x∧Qs0 (fun (y:Resize)=>(y.job==id)) l i=((i+p:Nat):Int)∧QL2 id l i=x
 | [],i=>.inl ⟨rfl,rfl,fun x hx=>(nomatch hx)⟩
 | x :: r,i=>by
  rw [Qs0,QL2];cases hx:(x.job==id) with
  | true=>exact .inr ⟨0,x,rfl,rfl,rfl⟩
  | false =>
   rcases index_go id r (i+1) with ⟨a,b,c⟩|⟨p,y,hy,a,b⟩
   ·refine .inl ⟨a,b,fun z hz=>?_⟩;rcases List.mem_cons.1 hz with rfl|hz
    ·simpa using hx
    ·exact c z hz
   ·refine .inr ⟨p+1,y,by simpa using hy,?_,b⟩;show Qs0 (fun (y:Resize)=>(y.job==id)) r (i+1)=_;rw [a]
    congr 1
    omega
theorem resizing_eq (h:Words s) (id:Int):Qa2 s id=Qr3 s id:=by
 unfold Qa2 Qr3;rw [Q0f h];cases hc:(Q53 s != 0) with
 | true =>
  rw [ymc,ymc]
  rfl
 | false =>
  have hr0:Q53 s=0:=by simpa using hc
  have hz:Qj0 s=0:=by rw [Q0f h];exact hr0
  have hpl:=(Qff hz).1;obtain ⟨_,hrz,_⟩:=(QJ9 (s:=s) (by rw [← plan_eq s h.sz h.jobs];exact hpl)).1.1 hr0;unfold QM0 QT5;rcases index_go id s.resizes 0 with ⟨a,b,_⟩|⟨p,x,hp,a,b⟩
  ·rw [a,b]
   rfl
  ·rw [a,b,yna];have hlt:=(List.getElem?_eq_some_iff.1 hp).1;have hg:s.resizes.getD p zH=x:=by rw [List.getD,hp];rfl
   have hn:(x.nodes==0)=false:=by
    have:=hrz p hlt;unfold rzR at this;rw [hg,yca] at this;have hre:=this.1;unfold Q32 at hre;cases hq:(((((!(QZ0 s x.job).2)||((QZ0 s x.job).1.shape.kind != 3))||(x.nodes==0))||(decide (x.since<0)))||(decide (x.since > 1000000))) with
    | true=>rw [hq] at hre;cases hre
    | false=>exact (or_f (or_f (or_f hq).1).1).2
   rw [hn,yja (show ¬ (p:Int)<0 by omega),yoa,hg]
end
theorem left_bd {s:State} (hs:s.sz) (hn:∀ x ∈ s.jobs,U64 x.nodes) (hc:Qb1 s=0) (ex:List Int):Bd (Qs6 s ex) 1000000:=by
 obtain ⟨f1,f2,f3,f4,f5,f6⟩:=room_facts hs hn hc;intro t a b;have b1:=freeAt_bd s f6 t a b;have b2:=bkAt_bd t s.books f1;have b3:=clsAt_bd ex t s.jobs f3;unfold Qs6;omega
theorem claim_of {j:Job} (hu:U64 j.nodes) (hc:QZ1 j=0) (h1:j.state=1) (hp:j.promise ≠ -1) :
  Q20 j=(j.promise,((Qh0 j.shape).getD (Int.toNat j.choice) zA).wall+12,((Qh0 j.shape).getD (Int.toNat j.choice) zA).nodes,true)∧Qf0 j=Q20 j:=by
 have hb:=Qde (QT6 (j:=j) (by rw [hc];rfl)) (by simp [h1,hp]);have hm:(Qh0 j.shape).getD (Int.toNat j.choice) zA ∈ Qh0 j.shape:=QY8 (by omega);obtain ⟨o1,o2,o3,o4⟩:=options_ok j.shape _ hm;have hw:w64 (((Qh0 j.shape).getD (Int.toNat j.choice) zA).wall+12)=((Qh0 j.shape).getD (Int.toNat j.choice) zA).wall+12:=wr (by omega);have e:Qf0 j=(j.promise,((Qh0 j.shape).getD (Int.toNat j.choice) zA).wall+12,((Qh0 j.shape).getD (Int.toNat j.choice) zA).nodes,true):=by
  unfold Qf0;rw [show ((j.state != 1)||(j.promise==(-1)))=false by simp [h1,hp],hw]
  rfl
 have e2:Q20 j=Qf0 j:=by
  rw [claim_eq hu];unfold QH9;rw [hc]
  rfl
 exact ⟨e2.trans e,e2.symm⟩
def Well (c:State):Prop:=c.sz∧(∀ x ∈ c.jobs,U64 x.nodes)∧Q36 c=0
theorem Well.room {c:State} (h:Well c):Qb1 c=0:=by rw [room_eq c h.1 h.2.1];exact h.2.2
theorem Well.parts {c:State} (h:Well c):(0<=c.now∧c.now<=1000000)∧(∀ x ∈ c.jobs,QZ1 x=0)∧c.jobs.Pairwise (fun a b=>a.id<b.id)∧QU6 c.jobs=0:=by
 obtain ⟨h1,_⟩:=QXa h.room;obtain ⟨_,_,f3,_,f5,_⟩:=room_facts h.1 h.2.1 h.room;exact ⟨h1,f3,f5,by simpa using QAe (s:=c) (by rw [h.2.2];rfl)⟩
theorem Well.rp {c:State} (h:Well c) (ex:List Int):Qw0 c ex=QY7 c ex∧Rp (Qw0 c ex) (Qs6 c ex) 200:=room_rp h.1 h.2.1 h.room ex
theorem own_cn {c:State} (h:Well c) (ex:List Int):Cn (QY7 c ex):=by
 rw [← (h.rp ex).1];exact (h.rp ex).2.cn (by omega) (left_bd h.1 h.2.1 h.room ex)
theorem own_fit {c:State} (h:Well c) (ex:List Int) {long n t:Int} (h0:0<=t) (hl:t+long<=1000000):Fit (pat (QY7 c ex)) long n t ↔ Fit (Qs6 c ex) long n t:=by
 have hr:=(h.rp ex).2;rw [(h.rp ex).1] at hr;exact ⟨fun g u a b=>by rw [← hr.2.2 u (by omega) (by omega)];exact g u a b,fun g u a b=>by rw [hr.2.2 u (by omega) (by omega)];exact g u a b⟩
theorem any_Job (l:List Job) (f:Job->Bool):Qt2 l f=l.any f:=QS7 f _ (fun _=>rfl) (fun _ _ _=>rfl) l 0
def Keeps (c:State):Prop:=∀ y ∈ c.jobs,y.state=1->y.promise ≠ -1->(Q20 y).1+(Q20 y).2.1<=1000000 ∧ ∀ u,max (Q20 y).1 c.now<=u->u<(Q20 y).1+(Q20 y).2.1->0<=Qs6 c [] u
theorem least_keeps {c:State} (h:Well c) {a b:Int} (h0:0<=a) (hb:b<=1000000):(QI0 (Qw0 c []) a b<0) ↔ ¬ ∀ u,a<=u->u<b->0<=Qs6 c [] u:=by
 by_cases hab:a<b
 ·have hr:=(h.rp []).2;have hcn:=own_cn h [];rw [← (h.rp []).1] at hcn;have hi:=QAd hcn 0 h0 (by omega) hab
  have e:(∀ u,a<=u->u<b->0<=pat (Qw0 c []) u) ↔ (∀ u,a<=u->u<b->0<=Qs6 c [] u) :=
   ⟨fun g u x y=>by rw [← hr.2.2 u (by omega) (by omega)];exact g u x y,fun g u x y=>by rw [hr.2.2 u (by omega) (by omega)];exact g u x y⟩
  rw [← e,← hi];omega
 ·have:QI0 (Qw0 c []) a b=0:=by
   unfold QI0;rw [yha (show b<=a by omega),ymc]
   rfl
  rw [this];exact ⟨fun g=>absurd g (by decide),fun g=>absurd (fun u x y=>absurd x (by omega)) g⟩
theorem claim_no {j:Job} (h:¬ (j.state=1∧j.promise ≠ -1)):(Q20 j).2.2.2=false:=by
 unfold Q20;have:((((Q61 j)!=0)||(j.state != 1))||(decide (j.promise<0)))=true:=by
  by_cases h1:j.state=1
  ·have h2:j.promise = -1:=Classical.byContradiction fun g=>h ⟨h1,g⟩
   rw [h2];simp
  ·rw [bne_iff_ne.2 h1];simp
 rw [this]
 rfl
theorem sound_iff {c:State} (h:Well c) (hl:Qo4 c.ledger=0):QO6 c=true ↔ Keeps c:=by
 have hpc:Qy1 c=0:=by unfold Qy1;rw [h.room,hl];rfl
 obtain ⟨hnow,hch,hpw,_⟩:=h.parts;unfold QO6;rw [hpc,any_Job];simp only [bne_self_eq_false,cond_false,y5a,List.any_eq_false]
 have one:∀ y ∈ c.jobs,(¬ ((Q20 y).2.2.2&&((decide ((w64 ((Q20 y).1+(Q20 y).2.1)) > 1000000))||(decide ((QI0 (Qw0 c []) (max (Q20 y).1 c.now) (w64 ((Q20 y).1+(Q20 y).2.1)))<0))))=true) ↔
   (y.state=1->y.promise ≠ -1->(Q20 y).1+(Q20 y).2.1<=1000000 ∧ ∀ u,max (Q20 y).1 c.now<=u->u<(Q20 y).1+(Q20 y).2.1->0<=Qs6 c [] u):=by
  intro y hy
  by_cases hc:y.state=1∧y.promise ≠ -1
  ·obtain ⟨e1,e2⟩:=claim_of (h.2.1 y hy) (hch y hy) hc.1 hc.2;obtain ⟨c1,c2,c3⟩:=Qhd (hch y hy);rw [e2] at c1 c2 c3;have hw:w64 ((Q20 y).1+(Q20 y).2.1)=(Q20 y).1+(Q20 y).2.1:=wr (by omega);have e3:(Q20 y).2.2.2=true:=by rw [e1]
   rw [hw,e3,yFb]
   by_cases g:(Q20 y).1+(Q20 y).2.1<=1000000
   ·have lk:=least_keeps h (a:=max (Q20 y).1 c.now) (by omega) g;rw [yja (show ¬ (Q20 y).1+(Q20 y).2.1 > 1000000 by omega),yXa,decide_eq_true_iff,lk,Classical.not_not];exact ⟨fun k _ _=>⟨g,k⟩,fun k=>(k hc.1 hc.2).2⟩
   ·rw [yha (show (Q20 y).1+(Q20 y).2.1 > 1000000 by omega),ykc];exact ⟨fun k=>absurd rfl k,fun k=>absurd (k hc.1 hc.2).1 g⟩
  ·rw [claim_no hc,yNb];exact ⟨fun _ a b=>absurd ⟨a,b⟩ hc,fun _ k=>by cases k⟩
 exact ⟨fun k y hy=>(one y hy).1 (k y hy),fun k y hy=>(one y hy).2 (k y hy)⟩
def WU (s:State):Prop:=(∀ x ∈ s.jobs,U64 x.nodes) ∧ ∀ r ∈ s.resizes,U64 r.nodes∧U64 r.said
theorem WU.words {s:State} (h:WU s) (hz:s.sz):Words s:=⟨hz,h.1,fun r hr=>(h.2 r hr).1,fun r hr=>(h.2 r hr).2⟩
theorem WU.wf {s:State} (h:s.wf):WU s:=⟨fun x hx=>Job.wf_u64 (h.2.2.1.2 x hx),fun r hr=>by
 have:=h.2.2.2.1.2 r hr;unfold Resize.wf at this
 exact ⟨wf_u64 this.2.2.1,wf_u64 this.2.2.2.1⟩⟩
def ResP (s:State) (r:Resize) (j:Job):Prop:=BaseP r j∧SubP r∧QuiP s r∧(if r.grow=true then AskP s r 2∧SameP s r∧GrowP r j else AskP s r 4∧InP r j∧ShrP r j)
def HeldP (s:State) (j:Job):Prop:=∀ k,tb j.nodes k=true ↔ (k<s.nodes.length∧(s.nodes.getD k zF).job=j.id∧(s.nodes.getD k zF).state=1)
structure NodeP (s:State) (k:Nat):Prop where
 runs:(s.nodes.getD k zF).state=1∨(s.nodes.getD k zF).state=2 -> ∃ j ∈ s.jobs,j.state=2∧j.id=(s.nodes.getD k zF).job
 moved:(s.nodes.getD k zF).state=2∨(s.nodes.getD k zF).want=4 -> ∃ r ∈ s.resizes,r.job=(s.nodes.getD k zF).job∧tb r.nodes k=true
 going:(s.nodes.getD k zF).state=3->(s.nodes.getD k zF).job<s.nextJob
structure Good (s:State):Prop where
 plan:Qy1 s=0
 nextJ:Qf1 s.nextJob (Qq1 s.jobs 0 0)=true
 nextB:Qf1 s.nextBook (QJ1 s.books 0 0)=true
 sorted:s.resizes.Pairwise (fun a b=>a.job<b.job)
 res:∀ r ∈ s.resizes,∃ j ∈ s.jobs,j.state=2∧j.id=r.job∧ResP s r j
 node:∀ k,k<s.nodes.length->NodeP s k
 held:∀ j ∈ s.jobs,j.state=2->HeldP s j
theorem QOc:∀ (l:List Resize) (i:Nat) (r:Resize),r ∈ l->l.Pairwise (fun a b=>a.job<b.job)->QL2 r.job l i=r
 | [],_,_,h,_=>nomatch h
 | x :: t,i,r,h,hp=>by
  obtain ⟨h1,h2⟩:=List.pairwise_cons.1 hp;rw [QL2];rcases List.mem_cons.1 h with rfl|h
  ·simp
  ·have:=h1 r h;rw [beq_eq_false_iff_ne.2 (by omega)];exact QOc t (i+1) r h h2
theorem rof_none:∀ (l:List Resize) (i:Nat) (id:Int),(∀ x ∈ l,x.job ≠ id)->QL2 id l i=zH
 | [],_,_,_=>rfl
 | x :: t,i,id,h=>by
  rw [QL2,beq_eq_false_iff_ne.2 (h x (yma ..))];exact rof_none t (i+1) id fun y hy=>h y (yga _ hy)
theorem rof_has {s:State} (hs:s.resizes.Pairwise (fun a b=>a.job<b.job)) (hu:∀ r ∈ s.resizes,U64 r.nodes) (id:Int) {k:Nat} (hk:k<64):Qg2 (QT5 s id).nodes (k:Int)=true ↔ ∃ r ∈ s.resizes,r.job=id∧tb r.nodes k=true:=by
 unfold QT5
 by_cases h:∃ r ∈ s.resizes,r.job=id
 ·obtain ⟨r,hr,rfl⟩:=h;rw [QOc _ _ r hr hs,Qab (hu r hr) hk];refine ⟨fun h=>⟨r,hr,rfl,h⟩,fun ⟨q,hq,e,h⟩=>?_⟩;have e1:=QOc _ 0 r hr hs;have e2:=QOc _ 0 q hq hs;rw [e] at e2;rw [← e1,e2];exact h
 ·rw [rof_none _ _ id fun x hx e=>h ⟨x,hx,e⟩];rw [Qab (s:=zH.nodes) .zero hk];refine ⟨fun h=>?_,fun ⟨r,hr,e,_⟩=>absurd ⟨r,hr,e⟩ h⟩;simp [zH,tb] at h
theorem QX4 {α:Type} {l:List α} {k:Nat} {d:α} (h:k<l.length):l.getD k d ∈ l:=by
 rw [List.getD,yaa h];exact y7a _
theorem QCc {α:Type} {l:List α} {x:α} (d:α) (h:x ∈ l):∃ k,k<l.length∧l.getD k d=x:=by
 obtain ⟨k,hk⟩:=yab h;exact ⟨k,(List.getElem?_eq_some_iff.1 hk).1,by rw [List.getD,hk];rfl⟩
theorem job_one {l:List Job} (hp:l.Pairwise (fun a b=>a.id<b.id)) {x y:Job} (hx:x ∈ l) (hy:y ∈ l) (e:x.id=y.id):x=y:=by
 obtain ⟨p,hp1⟩:=yab hx;obtain ⟨q,hq1⟩:=yab hy;rcases yob p q with h|h|h
 ·have:=Qf6 hp p q x y h hp1 hq1;omega
 ·subst h;rw [hp1] at hq1;exact Option.some.inj hq1
 ·have:=Qf6 hp q p y x h hq1 hp1;omega
theorem runs_iff {s:State} (hp:s.jobs.Pairwise (fun a b=>a.id<b.id)) (id:Int):(QZ0 s id).2=true ↔ ∃ j ∈ s.jobs,j.state=2∧j.id=id:=by
 by_cases h:∃ x ∈ s.jobs,x.id=id
 ·obtain ⟨x,hx,rfl⟩:=h;rw [Q0b hp hx]
  by_cases hs:x.state=2
  ·rw [if_pos hs];exact ⟨fun _=>⟨x,hx,hs,rfl⟩,fun _=>rfl⟩
  ·rw [if_neg hs];exact ⟨(fun h=>nomatch h),fun ⟨y,hy,h2,e⟩=>absurd (job_one hp hy hx e ▸ h2) hs⟩
 ·rw [QYe _ fun x hx e=>h ⟨x,hx,e⟩];exact ⟨(fun h=>nomatch h),fun ⟨y,hy,_,e⟩=>absurd ⟨y,hy,e⟩ h⟩
theorem held_bits {s:State} (hf:Q50 s.nodes=0) {x:Job} (hu:U64 x.nodes):Qx8 s.nodes x.id 1=x.nodes ↔ HeldP s x:=by
 have hl:s.nodes.length<=64:=by have:=(Q9a hf).1;omega
 obtain ⟨u,b⟩:=Q23 s.nodes (fun (y:Node)=>((y.job==x.id)&&(y.state==1))) hf hl;rw [← of_eq];unfold Qq6 HeldP;constructor
 ·intro h k;rw [← h,b];simp
 ·intro h;refine Q7d u hu fun k _=>?_
  rw [b,yLa,h k];simp
theorem pw_iff {l:List Resize} (hl:l.length<=4294967296):(∀ k,k<l.length->(((k:Int)==0)||(decide ((l.getD (Int.toNat (w64 ((k:Int) - 1))) zH).job<(l.getD k zH).job)))=true) ↔ l.Pairwise (fun a b=>a.job<b.job):=by
 have hstep:(∀ k,k<l.length->(((k:Int)==0)||(decide ((l.getD (Int.toNat (w64 ((k:Int) - 1))) zH).job<(l.getD k zH).job)))=true) ↔ ∀ k,k+1<l.length->(l.getD k zH).job<(l.getD (k+1) zH).job:=by
  constructor
  ·intro h k hk;have hk':=h (k+1) hk;have hw:w64 (((k+1:Nat):Int) - 1)=(k:Int):=by
    have:=wr (n:=((k+1:Nat):Int) - 1) (by omega);show IntKind.i64.wrap _=_;rw [this];omega
   rw [hw,yoa] at hk';have hne:(((k+1:Nat):Int)==0)=false:=by simp;omega
   rw [hne,yXa,yda] at hk';exact hk'
  ·intro h k hk;rcases k with _|k
   ·rfl
   ·have hw:w64 (((k+1:Nat):Int) - 1)=(k:Int):=by
     have:=wr (n:=((k+1:Nat):Int) - 1) (by omega);show IntKind.i64.wrap _=_;rw [this];omega
    rw [hw,yoa,yha (h k hk),ymc]
 rw [hstep];constructor
 ·intro h;rw [List.pairwise_iff_getElem];have hmono:∀ (d a:Nat),a+d+1<l.length->(l.getD a zH).job<(l.getD (a+d+1) zH).job:=by
   intro d
   induction d with
   | zero=>intro a ha;exact h a ha
   | succ d ih =>
    intro a ha;have h1:=ih a (by omega);have h2:=h (a+d+1) (by omega);have:a+(d+1)+1=a+d+1+1:=by omega
    rw [this];omega
  intro a b ha hb hab;have:=hmono (b - a - 1) a (by omega);have e2:a+(b - a - 1)+1=b:=by omega
  rw [e2] at this;have g1:l.getD a zH=l[a]:=by rw [List.getD,yaa ha];rfl
  have g2:l.getD b zH=l[b]:=by rw [List.getD,yaa hb];rfl
  rw [g1,g2] at this;exact this
 ·intro h k hk;have:=List.pairwise_iff_getElem.1 h k (k+1) (by omega) hk (by omega);have g1:l.getD k zH=l[k]:=by rw [List.getD,yaa (by omega)];rfl
  have g2:l.getD (k+1) zH=l[k+1]:=by rw [List.getD,yaa hk];rfl
  rw [g1,g2];exact this
theorem node_bool (a b c d e f g h:Bool):(bif (((a&&((!b)||(!c)))||(d&&(!b)))||(e&&f)) then false else bif (d||g) then h else true)=true ↔ (a=true->b=true∧c=true)∧(d=true->b=true)∧(e=true->f=false)∧(d=true∨g=true->h=true):=by
 cases a <;> cases b <;> cases c <;> cases d <;> cases e <;> cases f <;> cases g <;> cases h <;> simp
section
variable {s:State}
theorem node_iff (hw:Words s) (hp:s.jobs.Pairwise (fun a b=>a.id<b.id)) (hs:s.resizes.Pairwise (fun a b=>a.job<b.job)) (hl:s.nodes.length<=64) (hh:∀ j ∈ s.jobs,j.state=2->HeldP s j) {k:Nat} (hk:k<s.nodes.length):Qv5 s (k:Int)=true ↔ NodeP s k:=by
 unfold Qv5;rw [yoa,node_bool,runs_iff hp,rof_has hs hw.nodes _ (by omega:k<64)];simp only [beq_iff_eq,yCa];constructor
 ·rintro ⟨h1,h2,h3,h4⟩;exact ⟨fun h=>h.elim (fun h=>(h1 h).1) h2,h4,fun h=>by have:=h3 h;omega⟩
 ·rintro ⟨h1,h2,h3⟩;refine ⟨fun h=>?_,fun h=>h1 (.inr h),fun h=>by have:=h3 h;omega,h2⟩;obtain ⟨j,hj,hst,e⟩:=h1 (.inl h);refine ⟨⟨j,hj,hst,e⟩,?_⟩;rw [← e,Q0b hp hj,if_pos hst];show Qg2 j.nodes (k:Int)=true;rw [Qab (hw.jobs j hj) (by omega),hh j hj hst k];exact ⟨hk,e.symm,h⟩
theorem res_run (hw:Words s) (hf:Q50 s.nodes=0) (hp:s.jobs.Pairwise (fun a b=>a.id<b.id)) (hjc:∀ x ∈ s.jobs,Q61 x=0) (hh:∀ j ∈ s.jobs,j.state=2->HeldP s j) {r:Resize} (hr:r ∈ s.resizes) :
  Q32 s r=true ↔ ∃ j ∈ s.jobs,j.state=2∧j.id=r.job∧ResP s r j:=by
 have hl:s.nodes.length<=64:=by have:=(Q9a hf).1;omega
 have key:∀ j ∈ s.jobs,j.state=2->j.id=r.job->(Q32 s r=true ↔ ResP s r j):=by
  intro j hj hst e;have hrun:QZ0 s r.job=(j,true):=by rw [← e,Q0b hp hj,if_pos hst]
  rw [← resize_eq s r j (hw.nodes r hr) (hw.said r hr) (hw.jobs j hj) hf hrun (hjc j hj) fun k=>by rw [← e];exact hh j hj hst k];exact prog_iff s r j (hw.nodes r hr) (hw.said r hr) (hw.jobs j hj) hf hl
 constructor
 ·intro h;have hrun:(QZ0 s r.job).2=true:=by
   cases hq:(QZ0 s r.job).2 with
   | true=>rfl
   | false =>
    unfold Q32 at h;rw [hq] at h;cases h
  obtain ⟨j,hj,hst,e⟩:=(runs_iff hp _).1 hrun;exact ⟨j,hj,hst,e,(key j hj hst e).1 h⟩
 ·rintro ⟨j,hj,hst,e,h⟩;exact (key j hj hst e).2 h
theorem QSe (hw:Words s):Qj0 s=0 ↔ Good s:=by
 have hmain:Qy1 s=0->(Qj0 s=0 ↔ Good s):=by
  intro hpl;obtain ⟨hf,ht⟩:=QG4 hpl;obtain ⟨_,hjc,hp⟩:=Q12 ht;have hl:s.nodes.length<=64:=by have:=(Q9a hf).1;omega
  have hrl:s.resizes.length<=4294967296:=hw.sz.2.2.2.1;rw [Q0f hw,(QJ9 (s:=s) (by rw [← plan_eq s hw.sz hw.jobs];exact hpl)).1];have hheld:(∀ k,k<s.jobs.length->heldR s k=true) ↔ ∀ j ∈ s.jobs,j.state=2->HeldP s j:=by
   unfold heldR;constructor
   ·intro h j hj hst;obtain ⟨k,hk,e⟩:=QCc zG hj;have:=h k hk;rw [e,hst] at this;exact (held_bits hf (hw.jobs j hj)).1 (by simpa using this)
   ·intro h k hk;cases hst:((s.jobs.getD k zG).state != 2) with
    | true=>rfl
    | false =>
     have hst:(s.jobs.getD k zG).state=2:=by simpa using hst
     rw [(held_bits hf (hw.jobs _ (QX4 hk))).2 (h _ (QX4 hk) hst)];simp
  rw [hheld];have hrz:(∀ k,k<s.resizes.length->rzR s k=true) ↔ (∀ k,k<s.resizes.length->Q32 s (s.resizes.getD k zH)=true)∧s.resizes.Pairwise (fun a b=>a.job<b.job):=by
   rw [← pw_iff hrl];unfold rzR;simp only [yca];exact ⟨fun h=>⟨fun k hk=>(h k hk).1,fun k hk=>(h k hk).2⟩,fun h k hk=>⟨h.1 k hk,h.2 k hk⟩⟩
  rw [hrz];constructor
  ·rintro ⟨⟨h1,h2⟩,⟨h3,h4⟩,h5,h6⟩;refine ⟨hpl,h1,h2,h4,fun r hr=>?_,fun k hk=>(node_iff hw hp h4 hl h6 hk).1 (h5 k hk),h6⟩;obtain ⟨k,hk,e⟩:=QCc zH hr;exact (res_run hw hf hp hjc h6 hr).1 (e ▸ h3 k hk)
  ·intro g;exact ⟨⟨g.nextJ,g.nextB⟩,⟨fun k hk=>(res_run hw hf hp hjc g.held (QX4 hk)).2 (g.res _ (QX4 hk)),g.sorted⟩,fun k hk=>(node_iff hw hp g.sorted hl g.held hk).2 (g.node k hk),g.held⟩
 constructor
 ·exact fun h=>(hmain (Qff h).1).1 h
 ·exact fun h=>(hmain h.plan).2 h
end
theorem Q65 {l:List Node} (h:Q50 l=0):(1<=l.length∧l.length<=48) ∧ ∀ x ∈ l,QG0 x=true:=by
 unfold Q50 at h;cases h1:(((decide ((l.length:Int)<1))||(decide ((l.length:Int) > 48)))||(QH0 l (fun (y:Node)=>(!(QG0 y))))) with
 | true=>rw [h1] at h;cases h
 | false =>
  obtain ⟨h2,h3⟩:=or_f h1;have hl:=yea (or_f h2).2;have hl1:=yea (or_f h2).1;rw [QOe] at h3;refine ⟨by omega,fun x hx=>?_⟩;have:=List.any_eq_false.1 h3 x hx;simpa using this
theorem whole_fleet {l:List Node} (h1:1<=l.length∧l.length<=48) (h2:∀ x ∈ l,QG0 x=true):Q50 l=0:=by
 unfold Q50;have e:QH0 l (fun (y:Node)=>(!(QG0 y)))=false:=by
  rw [QOe];exact List.any_eq_false.2 fun x hx=>by rw [h2 x hx];simp
 rw [e,yja (by omega),yja (by omega)]
 rfl
def turnP (p:Nat->Bool) (f:Node->Node) (l:List Node):List Node:=l.mapIdx fun k x=>bif p k then f x else x
theorem QH1 (p:Nat->Bool) (f:Node->Node) (l:List Node):(turnP p f l).length=l.length:=by simp [turnP]
theorem Qu2 (p:Nat->Bool) (f:Node->Node) {l:List Node} {k:Nat} (h:k<l.length):(turnP p f l).getD k zF=bif p k then f (l.getD k zF) else l.getD k zF:=by
 have h':k<(turnP p f l).length:=by rw [QH1];exact h
 rw [List.getD,yaa h',List.getD,yaa h];simp [turnP]
theorem QOf {a b:List Node} (hl:a.length=b.length) (h:∀ k,k<b.length->a.getD k zF=b.getD k zF):a=b:=by
 refine List.ext_getElem hl fun k h1 h2=>?_
 have:=h k h2;rw [List.getD,yaa h1,List.getD,yaa h2] at this;exact this
theorem Q2b (f:Node->Node) (l:List Node):turnP (fun _=>false) f l=l:=by
 refine QOf (QH1 _ _ _) fun k hk=>?_
 rw [Qu2 _ _ hk]
 rfl
theorem QYb {p q:Nat->Bool} (f:Node->Node) {l:List Node} (h:∀ k,k<l.length->p k=q k):turnP p f l=turnP q f l:=by
 refine QOf (by rw [QH1,QH1]) fun k hk=>?_
 rw [QH1] at hk;rw [Qu2 _ _ hk,Qu2 _ _ hk,h k hk]
theorem turnP_set {p:Nat->Bool} {f:Node->Node} {l:List Node} {k:Nat} (hk:k<l.length) (hp:p k=false):(turnP p f l).set k (f (l.getD k zF))=turnP (fun j=>p j||(j==k)) f l:=by
 refine QOf (by rw [List.length_set,QH1,QH1]) fun j hj=>?_
 rw [QH1] at hj;rw [Qu2 _ _ hj]
 by_cases e:k=j
 ·subst e;rw [List.getD,yXb (by rw [QH1];exact hk)];simp
 ·rw [List.getD,ypc e,← List.getD,Qu2 _ _ hj];have:(j==k)=false:=by simpa using Ne.symm e
  rw [this,y7b]
theorem turnP_fine {p:Nat->Bool} {f:Node->Node} {l:List Node} (hc:Q50 l=0) (h:∀ k,k<l.length->p k=true->QG0 (f (l.getD k zF))=true):Q50 (turnP p f l)=0:=by
 obtain ⟨h1,h2⟩:=Q65 hc;refine whole_fleet (by rw [QH1];exact h1) fun x hx=>?_
 obtain ⟨k,hk,rfl⟩:=QCc zF hx;rw [QH1] at hk;rw [Qu2 _ _ hk];cases hp:p k with
 | true=>exact h k hk hp
 | false=>exact h2 _ (QX4 hk)
section
variable {act job now:Int}
theorem do_ok {c:List Node} {k:Nat} (hc:Q50 c=0) (hk:k<c.length) (ht:QH2 now=true) (hm:Qc2 (c.getD k zF) act job=true) :
  QX2 c (k:Int) act job now=(c.set k (Q60 (c.getD k zF) act job now),0):=by
 unfold QX2;rw [hc,yja (show ¬ (k:Int)<0 by omega),yja (show ¬ (k:Int) >= (c.length:Int) by omega),ht,yoa,hm]
 rfl
theorem each_go {l:List Node} (S:Int) (hc:Q50 l=0) (ht:QH2 now=true):∀ (r:List Nat) (i:Nat) (p:Nat->Bool),r.Nodup->(∀ k ∈ r,k<l.length∧p k=false∧Qc2 (l.getD k zF) act job=true∧QG0 (Q60 (l.getD k zF) act job now)=true) ->
  Q50 (turnP p (fun x=>Q60 x act job now) l)=0 ->
  ∃ q:Nat->Bool,(∀ k,q k=(p k||decide (k ∈ r)))∧Q50 (turnP q (fun x=>Q60 x act job now) l)=0 ∧
   QB1 S act job now (r.map fun (k:Nat)=>(k:Int)) i (turnP p (fun x=>Q60 x act job now) l)=(turnP q (fun x=>Q60 x act job now) l,bif Q13 act then Q03 (turnP q (fun x=>Q60 x act job now) l) (Qc0 S) else [],0)
 | [],i,p,_,_,hpc=>by
  refine ⟨p,fun k=>by simp,hpc,?_⟩;rw [yGc,QB1];cases Q13 act <;> rfl
 | k :: r,i,p,hnd,h,hpc=>by
  obtain ⟨hk,hp,hm,hf⟩:=h k (yma ..);obtain ⟨hkr,hnd'⟩:=List.nodup_cons.1 hnd;have hg:(turnP p (fun x=>Q60 x act job now) l).getD k zF=l.getD k zF:=by rw [Qu2 _ _ hk,hp];rfl
  have hdo:=do_ok (c:=turnP p (fun x=>Q60 x act job now) l) (k:=k) hpc (by rw [QH1];exact hk) ht (by rw [hg];exact hm);rw [hg,turnP_set (f:=fun x=>Q60 x act job now) hk hp] at hdo;have hpc':Q50 (turnP (fun j=>p j||(j==k)) (fun x=>Q60 x act job now) l)=0:=by
   refine turnP_fine hc fun j hj hpj=>?_
   rcases Bool.or_eq_true_iff.1 hpj with hpj|hpj
   ·have:=(Q65 hpc).2 _ (QX4 (d:=zF) (show j<(turnP p (fun x=>Q60 x act job now) l).length by rw [QH1];exact hj));rw [Qu2 _ _ hj,hpj] at this;exact this
   ·rw [eq_of_beq hpj];exact hf
  obtain ⟨q,hq,hqc,e⟩:=each_go S hc ht r (i+1) (fun j=>p j||(j==k)) hnd' (fun j hj=>by
   obtain ⟨a,b,c⟩:=h j (yga _ hj);have:(j==k)=false:=by simp;rintro rfl;exact hkr hj
   exact ⟨a,by rw [b,this];rfl,c⟩) hpc'
  refine ⟨q,fun j=>by rw [hq];show ((p j||decide (j=k))||decide (j ∈ r))=_;simp [Bool.or_assoc],hqc,?_⟩;rw [y8a,QB1,hdo];exact e
theorem Q29 {s:Int} (hs:U64 s):Qc0 s=((List.range' 0 64).filter (tb s)).map fun (k:Nat)=>(k:Int):=by
 unfold Qc0 QR2;rw [list_go hs _ [] 0 (by omega) (by omega)];simp
theorem Qof {l:List Node} {S:Int} (hs:U64 S) (hc:Q50 l=0) (ht:QH2 now=true)
  (hm:∀ k,k<64->tb S k=true->k<l.length∧Qc2 (l.getD k zF) act job=true∧QG0 (Q60 (l.getD k zF) act job now)=true) :
  Ql0 l S act job now=(turnP (tb S) (fun x=>Q60 x act job now) l,bif Q13 act then Q03 (turnP (tb S) (fun x=>Q60 x act job now) l) (Qc0 S) else [],0)∧Q50 (turnP (tb S) (fun x=>Q60 x act job now) l)=0:=by
 obtain ⟨q,hq,hqc,e⟩:=each_go (act:=act) (job:=job) (now:=now) S hc ht ((List.range' 0 64).filter (tb S)) 0 (fun _=>false) ((List.nodup_range' (step:=1)).filter _) (fun k hk=>by
  simp only [yub,y4b] at hk;obtain ⟨a,b,c⟩:=hm k (by omega) hk.2
  exact ⟨a,rfl,b,c⟩) (by rw [Q2b];exact hc)
 have e2:turnP q (fun x=>Q60 x act job now) l=turnP (tb S) (fun x=>Q60 x act job now) l:=by
  refine QYb _ fun k hk=>?_
  have hl:=(Q65 hc).1;rw [hq,yLa];simp only [yXa,yda,yub,y4b];exact ⟨fun h=>h.2,fun h=>⟨by omega,h⟩⟩
 rw [Q2b,← Q29 hs,e2] at e;rw [e2] at hqc;refine ⟨?_,hqc⟩;unfold Ql0;rw [hc];exact e
end
theorem popN_count:∀ (K n:Nat),popN K n=(List.range K).countP (fun k=>n.testBit k)
 | 0,_=>rfl
 | K+1,n=>by
  rw [popN,ycc,yuc,List.countP_map,popN_count K (n / 2)];have e:((fun k=>n.testBit k) ∘ Nat.succ)=fun k=>(n / 2).testBit k:=by
   funext k
   simp [yJb]
  rw [e,yac];rcases yYb n with h|h <;> simp [h,Nat.add_comm]
theorem Qu3 {s:Int} (hs:U64 s):Q10 s=(((List.range 64).countP (tb s):Nat):Int):=by
 rw [count_eq hs,popN_count]
 rfl
theorem Qkf {p q:Nat->Bool}:∀ (l:List Nat),(∀ k ∈ l,p k=true->q k=false)->l.countP (fun k=>p k||q k)=l.countP p+l.countP q
 | [],_=>rfl
 | x :: l,h=>by
  rw [yuc,yuc,yuc,Qkf l fun k hk=>h k (yga _ hk)];have:=h x (yma ..);cases hp:p x <;> cases hq:q x <;> simp_all <;> omega
theorem count_or {x y:Int} (hx:U64 x) (hy:U64 y) (h:∀ k,k<64->tb x k=true->tb y k=false):Q10 (wu64 (BitVec.ofInt 64 x ||| BitVec.ofInt 64 y).toNat)=Q10 x+Q10 y:=by
 rw [Qu3 (QE7 _),Qu3 hx,Qu3 hy,← Int.natCast_add,← Qkf _ fun k hk=>h k (List.mem_range.1 hk)]
 congr 2
 funext k
 exact tb_or hx hy k
theorem count_andnot {x y:Int} (hx:U64 x) (hy:U64 y) (h:∀ k,k<64->tb y k=true->tb x k=true):Q10 (wu64 (BitVec.ofInt 64 x &&& ~~~(BitVec.ofInt 64 y)).toNat)=Q10 x - Q10 y:=by
 have e:=Qkf (p:=fun k=>tb x k && !tb y k) (q:=tb y) (List.range 64) (fun k _ hk=>by
  have:tb x k=true∧tb y k=false:=by simpa using hk
  exact this.2)
 have e2:(List.range 64).countP (fun k=>(tb x k && !tb y k)||tb y k)=(List.range 64).countP (tb x):=by
  refine List.countP_congr fun k hk=>?_
  have:=h k (List.mem_range.1 hk);cases hy:tb y k with
  | true=>simp [this hy]
  | false=>simp
 rw [Qu3 (QE7 _),Qu3 hx,Qu3 hy,← e2,e];have e3:(tb (wu64 (BitVec.ofInt 64 x &&& ~~~(BitVec.ofInt 64 y)).toNat))=fun k=>tb x k && !tb y k:=funext fun k=>Qi5 hx hy k
 rw [e3];omega
theorem Ql5 {x:Int} (hx:U64 x):0<=Q10 x∧Q10 x<=64:=by
 rw [Qu3 hx];have:=List.countP_le_length (p:=tb x) (l:=List.range 64);simp at this;omega
theorem of_one {k:Nat} (hk:k<64):(QO0 ([(k:Int)]:List Int)).1=(2:Int) ^ k:=by
 unfold QO0;rw [QM3,yja (show ¬ (k:Int)<0 by omega),yja (show ¬ (k:Int) >= 64 by omega),and_one .zero hk,QF6];show (wu64 (BitVec.ofInt 64 0 ||| BitVec.ofInt 64 (QS1 (k:Int))).toNat)=_;rw [Q37 hk];refine Q7d (QE7 _) (pow_U hk) fun j _=>?_
 rw [tb_or .zero (pow_U hk),QF6,yXa]
theorem tb_one {k:Nat} (hk:k<64):U64 (QO0 ([(k:Int)]:List Int)).1 ∧ ∀ j,tb (QO0 ([(k:Int)]:List Int)).1 j=decide (k=j):=by
 rw [of_one hk];exact ⟨pow_U hk,tb_pow k⟩
theorem rs_go (l:List Resize) (id:Int) (hl:l.length<=4294967296) (hs:l.Pairwise (fun a b=>a.job<b.job)) (hb:∀ r ∈ l,1<=r.job∧r.job<=99999) (hid:1<=id∧id<=99999):∀ (m:Nat) (i j:Int),Int.toNat (j - i)<m->0<=i->i<=j->j<=(l.length:Int) ->
  (∀ k:Nat,(k:Int)<i->(l.getD k zH).job<id)->(∀ k:Nat,j<=(k:Int)->k<l.length->id<=(l.getD k zH).job) ->
  ∃ p:Nat,(Qg0 l id bsrF m i j).1=(p:Int)∧p<=l.length∧(∀ k,k<p->(l.getD k zH).job<id) ∧ ∀ k,p<=k->k<l.length->id<=(l.getD k zH).job
 | 0,i,j,hm,_,_,_,_,_=>absurd hm (by omega)
 | m+1,i,j,hm,h0,h1,h2,h3,h4=>by
  rw [Qg0];cases hd:decide (i<j) with
  | false =>
   have:=yea hd;obtain ⟨q,rfl⟩:∃ q:Nat,i=(q:Int):=⟨i.toNat,by omega⟩;exact ⟨q,rfl,by omega,fun k hk=>h3 k (by omega),fun k hk hk2=>h4 k (by omega) hk2⟩
  | true =>
   have hlt:=yfa hd;rw [Qia h0 hlt h2 (by omega)];simp only [cond_true];obtain ⟨q,hq⟩:∃ q:Nat,(i+j) / 2=(q:Int):=⟨((i+j) / 2).toNat,by omega⟩;rw [hq,yoa];have hql:q<l.length:=by omega
   have hqb:=hb _ (QX4 (d:=zH) hql);have hw:bsrF (l.getD q zH) id=(l.getD q zH).job - id:=wr (by omega);rw [hw];have mono:∀ a b:Nat,a<b->b<l.length->(l.getD a zH).job<(l.getD b zH).job:=by
    intro a b hab hbl;have:=List.pairwise_iff_getElem.1 hs a b (by omega) hbl hab;rw [List.getD,yaa (show a<l.length by omega),List.getD,yaa hbl];exact this
   cases hc:decide ((l.getD q zH).job - id<0) with
   | true =>
    have hc':=yfa hc;have hw2:w64 ((q:Int)+1)=(q:Int)+1:=wr (by omega);simp only [cond_true];rw [hw2];refine rs_go l id hl hs hb hid m _ _ (by omega) (by omega) (by omega) h2 (fun k hk=>?_) h4;rcases ypa k q with h|h
    ·have:=mono k q h hql;omega
    ·obtain rfl:k=q:=by omega
     omega
   | false =>
    have hc':=yea hc;simp only [cond_false];refine rs_go l id hl hs hb hid m _ _ (by omega) h0 (by omega) (by omega) h3 (fun k hk hk2=>?_);rcases ypa q k with h|h
    ·have:=mono q k h hk2;omega
    ·obtain rfl:k=q:=by omega
     omega
theorem place_iff (l:List Resize) (id:Int) (hl:l.length<=4294967296) (hs:l.Pairwise (fun a b=>a.job<b.job)) (hb:∀ r ∈ l,1<=r.job∧r.job<=99999) (hid:1<=id∧id<=99999) :
  ∃ p:Nat,(Q00 l id bsrF).1=(p:Int)∧p<=l.length∧(∀ k,k<p->(l.getD k zH).job<id)∧(∀ k,p<=k->k<l.length->id<=(l.getD k zH).job)∧((Q00 l id bsrF).2=true ↔ p<l.length∧(l.getD p zH).job=id):=by
 obtain ⟨p,h1,h2,h3,h4⟩:=rs_go l id hl hs hb hid ((Int.toNat ((l.length:Int) - 0))+1) 0 (l.length:Int) (by omega) (by omega) (by omega) (by omega) (fun k hk=>absurd hk (by omega)) (fun k hk hk2=>absurd hk2 (by omega));refine ⟨p,h1,h2,h3,h4,?_⟩;unfold Q00 QC0;simp only;rw [h1,yoa,yca,yda,beq_iff_eq];constructor
 ·rintro ⟨a,b⟩;have hp:p<l.length:=by omega
  have hqb:=hb _ (QX4 (d:=zH) hp);have hw:bsrF (l.getD p zH) id=(l.getD p zH).job - id:=wr (by omega);rw [hw] at b;exact ⟨hp,by omega⟩
 ·rintro ⟨a,b⟩;refine ⟨by omega,?_⟩;have hw:bsrF (l.getD p zH) id=(l.getD p zH).job - id:=wr (by omega);rw [hw];omega
theorem Qt4 (x:Node):QG0 x=true ↔ (0<=x.epoch∧x.epoch<=999999999)∧(0<=x.since∧x.since<=1000000)∧(0<=x.asked∧x.asked<=1000000) ∧
  ((x.state=0∧x.job=0∧x.want=0)∨(x.state=1∧(1<=x.job∧x.job<=99999)∧(x.want=0∨x.want=1∨x.want=3∨x.want=4))∨(x.state=2∧(1<=x.job∧x.job<=99999)∧(x.want=0∨x.want=2))∨(x.state=3∧(1<=x.job∧x.job<=99999)∧x.want=5)∨(x.state=4∧x.job=0∧(x.want=0∨x.want=6))):=by
 unfold QG0;simp only [Q7a,QH2,y8b,List.any_nil];obtain ⟨st,jb,ep,dr,wa,si,as_⟩:=x;dsimp only
 by_cases h0:st=0
 ·subst h0;grind
 by_cases h1:st=1
 ·subst h1;grind
 by_cases h2:st=2
 ·subst h2;grind
 by_cases h3:st=3
 ·subst h3;grind
 by_cases h4:st=4
 ·subst h4;grind
 grind
theorem act4 (x:Node) (now:Int):Q60 x 4 0 now={ x with want:=0 }∧(Qc2 x 4 0=true ↔ x.state=1∨x.state=2):=by
 refine ⟨rfl,?_⟩;show ((x.state==1)||(x.state==2))=true ↔ _;simp
theorem act7 (x:Node) (now:Int):Q60 x 7 0 now=(⟨3,x.job,x.epoch,x.drain,5,now,now⟩:Node)∧(Qc2 x 7 0=true ↔ x.state=1∨x.state=2):=by
 refine ⟨rfl,?_⟩;show ((x.state==1)||(x.state==2))=true ↔ _;simp
theorem act6 (x:Node) (now:Int):Q60 x 6 0 now={ x with want:=0 }∧(Qc2 x 6 0=true ↔ x.state=1∧x.want=4):=by
 refine ⟨rfl,?_⟩;show ((x.state==1)&&(x.want==4))=true ↔ _;simp
theorem act3 (x:Node) (now:Int):Q60 x 3 0 now=(⟨1,x.job,x.epoch,x.drain,3,now,now⟩:Node)∧(Qc2 x 3 0=true ↔ x.state=2):=by
 refine ⟨rfl,?_⟩;show (x.state==2)=true ↔ _;simp
theorem act5 (x:Node) (now:Int):Q60 x 5 0 now={ x with want:=4,since:=now,asked:=now }∧(Qc2 x 5 0=true ↔ x.state=1∧x.want=0):=by
 refine ⟨rfl,?_⟩;show ((x.state==1)&&(x.want==0))=true ↔ _;simp
theorem act2 (x:Node) (job now:Int):Q60 x 2 job now=(⟨2,job,w64 (x.epoch+1),x.drain,2,now,now⟩:Node)∧(Qc2 x 2 job=true ↔ x.state=0∧x.drain=false∧x.epoch<999999999∧1<=job∧job<=99999):=by
 refine ⟨rfl,?_⟩;show (((((x.state==0)&&(!x.drain))&&(decide (x.epoch<999999999)))&&(decide (job >= 1)))&&(decide (job<=99999)))=true ↔ _;simp [and_assoc]
section
variable {s:State}
theorem Qt9 (g:Good s):0<=s.now∧s.now<=1000000:=by
 have h:=g.plan;unfold Qy1 at h;cases h1:(Qb1 s != 0) with
 | true=>rw [h1] at h;cases h
 | false =>
  have hr:Qb1 s=0:=by simpa using h1
  unfold Qb1 at hr;cases h2:(((((decide (s.now<0))||(decide (s.now > 1000000)))||((Q50 s.nodes)!=0))||((Qr1 s.jobs)!=0))||((QI4 s.books)!=0)) with
  | true=>rw [h2] at hr;cases hr
  | false =>
   have h3:=(or_f (or_f (or_f h2).1).1).1;simp only [yZa,yCa] at h3;omega
theorem QZ8 (g:Good s):QH2 s.now=true:=by
 have:=Qt9 g;unfold QH2;simp;omega
theorem Qn5 (g:Good s):Q50 s.nodes=0:=(QG4 g.plan).1
theorem QY2 (g:Good s):Qr1 s.jobs=0:=(QG4 g.plan).2
theorem QQa (g:Good s):s.nodes.length<=48:=(Q65 (Qn5 g)).1.2
theorem Qa8 (g:Good s) {k:Nat} (hk:k<s.nodes.length):QG0 (s.nodes.getD k zF)=true:=(Q65 (Qn5 g)).2 _ (QX4 hk)
theorem QM7 (g:Good s) {j:Job} (hj:j ∈ s.jobs):Q61 j=0:=(Q12 (QY2 g)).2.1 j hj
theorem Qtf (g:Good s):∀ r ∈ s.resizes,1<=r.job∧r.job<=99999:=fun r hr=>by
 obtain ⟨j,hj,_,e,_⟩:=g.res r hr;rw [← e];exact QM4 (QM7 g hj)
theorem job_nodes_iff {x:Int} (hx:U64 x):Qr6 x=true ↔ ∀ k,k<64->tb x k=true->k<48:=by
 unfold Qr6;obtain ⟨u,b⟩:=QW9 (n:=48) (by decide);rw [show QD3 48=QD3 ((48:Nat):Int) from rfl,Qh9 hx u];exact ⟨fun h k hk hb=>by have:=h k hk hb;rw [b] at this;exact yfa this,fun h k hk hb=>by rw [b];exact yha (h k hk hb)⟩
structure RzAt (s:State) (r:Resize) (j:Job):Prop where
 g:Good s
 u:WU s
 hr:r ∈ s.resizes
 hj:j ∈ s.jobs
 st:j.state=2
 id:j.id=r.job
 res:ResP s r j
section
variable {r:Resize} {j:Job} (a:RzAt s r j)
include a
theorem RzAt.un:U64 r.nodes:=(a.u.2 r a.hr).1
theorem RzAt.us:U64 r.said:=(a.u.2 r a.hr).2
theorem RzAt.uj:U64 j.nodes:=a.u.1 j a.hj
theorem RzAt.node {k:Nat} (hk:k<64) (h:tb r.nodes k=true):k<s.nodes.length∧(s.nodes.getD k zF).job=r.job∧(s.nodes.getD k zF).state=(if r.grow=true then 2 else 1):=by
 obtain ⟨_,_,_,R⟩:=a.res;cases hg:r.grow with
 | true =>
  rw [if_pos hg] at R;simpa using (R.2.1 k hk).1 h
 | false =>
  rw [if_neg (by rw [hg];simp)] at R;have:=(a.g.held j a.hj a.st k).1 (R.2.1 k hk h);rw [a.id] at this;simpa using this
theorem RzAt.asked {k:Nat} (hk:k<64) (h:tb r.nodes k=true) (h':tb r.said k=false):(s.nodes.getD k zF).want=(if r.grow=true then 2 else 4):=by
 obtain ⟨_,_,_,R⟩:=a.res;cases hg:r.grow with
 | true =>
  rw [if_pos hg] at R;simpa using ((R.1 k hk).2 ⟨h,h'⟩).2.2
 | false =>
  rw [if_neg (by rw [hg];simp)] at R;simpa using ((R.1 k hk).2 ⟨h,h'⟩).2.2
theorem RzAt.state {k:Nat} (hk:k<64) (h:tb r.nodes k=true):(s.nodes.getD k zF).state=1∨(s.nodes.getD k zF).state=2:=by
 have:=(a.node hk h).2.2;split at this
 ·exact .inr this
 ·exact .inl this
theorem RzAt.settle {k:Nat} (hk:k<64) (h:tb r.nodes k=true):Ql0 s.nodes (QO0 ([(k:Int)]:List Int)).1 4 0 s.now=(turnP (fun i=>decide (k=i)) (fun x=>{ x with want:=0 }) s.nodes,[],0)∧Q50 (turnP (fun i=>decide (k=i)) (fun x=>{ x with want:=0 }) s.nodes)=0:=by
 obtain ⟨u,b⟩:=tb_one hk
 have e:=Qof (act:=4) (job:=0) (now:=s.now) u (Qn5 a.g) (QZ8 a.g) (fun i hi hb=>by
  rw [b] at hb;obtain rfl:=yfa hb;obtain ⟨h1,h2,_⟩:=a.node hk h;refine ⟨h1,(act4 _ s.now).2.2 (a.state hk h),?_⟩;rw [(act4 _ s.now).1,Qt4];have hf:=(Qt4 _).1 (Qa8 a.g h1);have hs:=a.state hk h;dsimp only
  omega)
 have e2:turnP (tb (QO0 ([(k:Int)]:List Int)).1) (fun x=>Q60 x 4 0 s.now) s.nodes=turnP (fun i=>decide (k=i)) (fun x=>{ x with want:=0 }) s.nodes :=
  QYb _ fun i _=>b i
 rw [e2] at e;exact e
theorem RzAt.all {l:List Node} (hc:Q50 l=0) (hl:l.length=s.nodes.length) (hst:∀ k,k<s.nodes.length->(l.getD k zF).state=(s.nodes.getD k zF).state∧(l.getD k zF).job=(s.nodes.getD k zF).job) (act:Int) (ha:(act=7)∨(act=3∧r.grow=true)) :
  Ql0 l r.nodes act 0 s.now=(turnP (tb r.nodes) (fun x=>Q60 x act 0 s.now) l,bif Q13 act then Q03 (turnP (tb r.nodes) (fun x=>Q60 x act 0 s.now) l) (Qc0 r.nodes) else [],0)∧Q50 (turnP (tb r.nodes) (fun x=>Q60 x act 0 s.now) l)=0:=by
 refine Qof a.un hc (QZ8 a.g) fun k hk hb=>?_
 obtain ⟨h1,h2,h3⟩:=a.node hk hb;obtain ⟨q1,q2⟩:=hst k h1;have hs:=a.state hk hb;have hf:=(Qt4 _).1 ((Q65 hc).2 _ (QX4 (d:=zF) (show k<l.length by omega)));have hn:=Qt9 a.g;refine ⟨by omega,?_⟩;rcases ha with rfl|⟨rfl,hg⟩
 ·refine ⟨(act7 _ s.now).2.2 (by rw [q1];exact hs),?_⟩;rw [(act7 _ s.now).1,Qt4];dsimp only;omega
 ·rw [if_pos hg] at h3;refine ⟨(act3 _ s.now).2.2 (by rw [q1];exact h3),?_⟩;rw [(act3 _ s.now).1,Qt4];dsimp only;omega
theorem RzAt.keep (hg:r.grow=false):Ql0 s.nodes (wu64 (BitVec.ofInt 64 r.nodes &&& ~~~(BitVec.ofInt 64 r.said)).toNat) 6 0 s.now=(turnP (fun k=>tb r.nodes k && !tb r.said k) (fun x=>{ x with want:=0 }) s.nodes,[],0)∧Q50 (turnP (fun k=>tb r.nodes k && !tb r.said k) (fun x=>{ x with want:=0 }) s.nodes)=0:=by
 have e:=Qof (act:=6) (job:=0) (now:=s.now) (QE7 (BitVec.ofInt 64 r.nodes &&& ~~~(BitVec.ofInt 64 r.said)).toNat) (Qn5 a.g) (QZ8 a.g) (fun k hk hb=>by
  rw [Qi5 a.un a.us] at hb;have hb:tb r.nodes k=true∧tb r.said k=false:=by simpa using hb
  obtain ⟨h1,h2,h3⟩:=a.node hk hb.1;have h4:=a.asked hk hb.1 hb.2;rw [if_neg (by rw [hg];simp)] at h3 h4;refine ⟨h1,(act6 _ s.now).2.2 ⟨h3,h4⟩,?_⟩;rw [(act6 _ s.now).1,Qt4];have hf:=(Qt4 _).1 (Qa8 a.g h1);dsimp only
  omega)
 have e2:turnP (tb (wu64 (BitVec.ofInt 64 r.nodes &&& ~~~(BitVec.ofInt 64 r.said)).toNat)) (fun x=>Q60 x 6 0 s.now) s.nodes=turnP (fun k=>tb r.nodes k && !tb r.said k) (fun x=>{ x with want:=0 }) s.nodes :=
  QYb _ fun i _=>Qi5 a.un a.us i
 rw [e2] at e;exact e
theorem RzAt.kind:j.shape.kind=3:=a.res.1.1
theorem RzAt.range:j.shape.min<=Q10 j.nodes∧Q10 j.nodes<=j.shape.max∧(decide (j.choice<0)||decide (j.choice >= ((Qc1 j.shape).length:Int)))=false:=by
 have h:=job_runs (QM7 a.g a.hj) a.st;unfold QU2 at h;cases h1:((decide (j.choice<0))||(decide (j.choice >= ((Qc1 j.shape).length:Int)))) with
 | true=>rw [h1] at h;cases h
 | false =>
  rw [h1,a.kind] at h;have h:(decide (Q10 j.nodes >= j.shape.min)&&decide (Q10 j.nodes<=j.shape.max))=true:=h;simp only [yca,yda] at h;exact ⟨h.1,h.2,rfl⟩
theorem RzAt.bits {k:Nat} (hk:k<64) (h:tb j.nodes k=true∨tb r.nodes k=true):k<48:=by
 have:=QQa a.g;rcases h with h|h
 ·have:=((a.g.held j a.hj a.st k).1 h).1;omega
 ·have:=(a.node hk h).1;omega
theorem RzAt.size {x:Int} (hx:U64 x) (h1:∀ k,k<64->tb x k=true->k<48) (h2:j.shape.min<=Q10 x∧Q10 x<=j.shape.max):QO2 j x=({ j with nodes:=x },0)∧Q61 { j with nodes:=x }=0:=by
 have hn:=(job_nodes_iff hx).2 h1;have hA:QU2 j.shape j.choice (Q10 x)=true:=by
  unfold QU2;rw [a.range.2.2,a.kind];show (decide (Q10 x >= j.shape.min)&&decide (Q10 x<=j.shape.max))=true;simp only [yca,yda];exact ⟨h2.1,h2.2⟩
 constructor
 ·unfold QO2;rw [QM7 a.g a.hj,hn,hA,a.st]
  rfl
 ·have h:=QM7 a.g a.hj;unfold Q61 at h ⊢;have e1:Qk0 { j with nodes:=x }=Qk0 j:=rfl;rw [e1];dsimp only;cases hq:((((((decide (j.id<1))||(decide (j.id > 99999)))||(!(Qj2 j.born)))||(j.used != (Ql4 j.used)))||((Qc4 (Qk0 j))!=0))||(Qp0 j.after (fun (y:Dep)=>(decide (y.job >= j.id))))) with
  | true=>rw [hq] at h;cases h
  | false =>
   rw [hq,a.st] at h;rw [a.st];have hrun:Ql1 { j with nodes:=x }=true:=by
    have h:(bif (!(Ql1 j)) then (140:Int) else 0)=0:=h;cases hv:Ql1 j with
    | false=>rw [hv] at h;cases h
    | true =>
     unfold Ql1 at hv ⊢;have e2:QK0 { j with nodes:=x }=QK0 j:=rfl;rw [e2];dsimp only;cases hw:(((((((!(QK0 j j.choice).2)||j.held)||(!(Qj2 j.start)))||(!(Qj2 j.promise)))||(decide (j.promise<j.start)))||(!(Qj2 j.limit)))||((w64 (j.limit - j.start))!=(QK0 j j.choice).1.wall)) with
     | true=>rw [hw] at hv;cases hv
     | false =>
      rw [hn,hA]
      rfl
   show (bif (!(Ql1 { j with nodes:=x })) then (140:Int) else 0)=0;rw [hrun]
   rfl
theorem RzAt.more (hg:r.grow=true):Q10 (wu64 (BitVec.ofInt 64 j.nodes ||| BitVec.ofInt 64 r.nodes).toNat)=Q10 j.nodes+Q10 r.nodes∧QO2 j (wu64 (BitVec.ofInt 64 j.nodes ||| BitVec.ofInt 64 r.nodes).toNat)=({ j with nodes:=wu64 (BitVec.ofInt 64 j.nodes ||| BitVec.ofInt 64 r.nodes).toNat },0)∧Q61 { j with nodes:=wu64 (BitVec.ofInt 64 j.nodes ||| BitVec.ofInt 64 r.nodes).toNat }=0:=by
 have hc:=count_or a.uj a.un (fun k hk h=>by
  cases h2:tb r.nodes k with
  | false=>rfl
  | true =>
   have h3:=((a.g.held j a.hj a.st k).1 h).2.2;have h4:=(a.node hk h2).2.2;rw [if_pos hg] at h4
   omega)
 refine ⟨hc,a.size (QE7 _) (fun k hk h=>?_) ?_⟩
 ·rw [tb_or a.uj a.un] at h;exact a.bits hk (by simpa using h)
 ·obtain ⟨_,_,_,R⟩:=a.res;rw [if_pos hg] at R;have h1:=R.2.2;unfold GrowP at h1;have h2:=Ql5 a.uj;have h3:=Ql5 a.un;have h4:=a.range;rw [w6 (by omega)] at h1;rw [hc];omega
theorem RzAt.less (hg:r.grow=false):Q10 (wu64 (BitVec.ofInt 64 j.nodes &&& ~~~(BitVec.ofInt 64 r.nodes)).toNat)=Q10 j.nodes - Q10 r.nodes∧QO2 j (wu64 (BitVec.ofInt 64 j.nodes &&& ~~~(BitVec.ofInt 64 r.nodes)).toNat)=({ j with nodes:=wu64 (BitVec.ofInt 64 j.nodes &&& ~~~(BitVec.ofInt 64 r.nodes)).toNat },0)∧Q61 { j with nodes:=wu64 (BitVec.ofInt 64 j.nodes &&& ~~~(BitVec.ofInt 64 r.nodes)).toNat }=0:=by
 obtain ⟨_,_,_,R⟩:=a.res;rw [if_neg (by rw [hg];simp)] at R;have hc:=count_andnot a.uj a.un R.2.1;refine ⟨hc,a.size (QE7 _) (fun k hk h=>?_) ?_⟩
 ·rw [Qi5 a.uj a.un] at h;have h:tb j.nodes k=true∧tb r.nodes k=false:=by simpa using h
  exact a.bits hk (.inl h.1)
 ·have h1:=R.2.2;unfold ShrP at h1;have h2:=Ql5 a.uj;have h3:=Ql5 a.un;have h4:=a.range;rw [w6 (by omega)] at h1;rw [hc];omega
theorem RzAt.find:QJ0 s.jobs r.job=(j,true):=by
 obtain ⟨p,hp⟩:=yab a.hj;rw [← a.id];exact QQ9 (QY2 a.g) hp
theorem RzAt.put {x:Int} (h:Q61 { j with nodes:=x }=0):∃ p,s.jobs[p]? = some j∧Qg5 s.jobs { j with nodes:=x }=(s.jobs.set p { j with nodes:=x },0):=by
 obtain ⟨p,hp⟩:=yab a.hj;refine ⟨p,hp,?_⟩;obtain ⟨hn,hj,hs⟩:=Q12 (QY2 a.g);have hb:∀ y ∈ s.jobs,1<=y.id∧y.id<=99999:=fun y hy=>QM4 (hj y hy)
 have hpl:p<s.jobs.length:=(List.getElem?_eq_some_iff.1 hp).1
 have hpi:(Qd0 s.jobs j.id).1=(p:Int) :=
  QTc s.jobs j.id hn (hb j a.hj) hb (Qf6 hs) p j hp rfl _ 0 (s.jobs.length:Int) (by omega) (by omega) (by omega) (by omega) (by omega) (fun k hk y hy=>absurd (List.getElem?_eq_some_iff.1 hy).1 (by omega))
 have hp2:(Qd0 s.jobs j.id).2=true:=by
  have e:(Qd0 s.jobs j.id).2=((decide ((Qd0 s.jobs j.id).1<(s.jobs.length:Int)))&&((w64 ((s.jobs.getD (Int.toNat (Qd0 s.jobs j.id).1) zG).id - j.id))==0)):=rfl;rw [e,hpi,yoa];have hg:s.jobs.getD p zG=j:=by simp [List.getD,hp]
  rw [hg,Int.sub_self,yha (show (p:Int)<(s.jobs.length:Int) by omega)]
  rfl
 unfold Qg5;rw [QY2 a.g,h];show (bif (!(Qd0 s.jobs j.id).2) then ([],140) else QGa (s.jobs.set (Int.toNat ((Qd0 s.jobs j.id).1)) { j with nodes:=x }))=_;rw [hp2,hpi]
 rfl
end
end
abbrev rzI (s:State) (id:Int):Nat:=Int.toNat (Q00 s.resizes id bsrF).1
abbrev rzZ (s:State) (id:Int):Resize:=s.resizes.getD (rzI s id) zH
abbrev rzT (s:State) (n:Note):List Resize:=s.resizes.set (rzI s n.job) { (rzZ s n.job) with said:=(wu64 (BitVec.ofInt 64 (rzZ s n.job).said ||| BitVec.ofInt 64 (QO0 ([n.node]:List Int)).1).toNat) }
theorem find_sz {l:List Job} (h:∀ y ∈ l,y.sz) (id:Int):(QJ0 l id).1.sz:=by
 unfold QJ0;cases (((Qr1 l)!=0)||(!(Qh5 id))) with
 | true=>exact Job.szz _
 | false =>
  cases (!(Qd0 l id).2) with
  | true=>exact Job.szz _
  | false=>exact Qu4 (p:=Job.sz) (fun y hy=>h y (y4a (yPa hy))) (Job.szz _)
theorem size_sz {j:Job} (h:j.sz) (x:Int):(QO2 j x).1.sz:=by
 unfold QO2;cases ((Q61 j)!=0) with
 | true=>exact Job.szz _
 | false =>
  cases ((j.state==2)&&((!(Qr6 x))||(!(QU2 j.shape j.choice (Q10 x))))) with
  | true=>exact Job.szz _
  | false =>
   cases ((Qqc (j.state==2))!=0) with
   | true=>exact Job.szz _
   | false=>exact h
section
variable {s:State}
theorem QGg (hz:s.sz) (hu:WU s) (hc:((Qj0 s)!=0)=false):Good s:=(QSe (hu.words hz)).1 (by simpa using hc)
theorem QZe (hz:s.sz) (hu:WU s) (hc:((Qj0 s)!=0)=false) {id:Int} (hk:Qn1 id=true) :
  ∃ p:Nat,(Q00 s.resizes id bsrF).1=(p:Int)∧p<=s.resizes.length∧(∀ k,k<p->(s.resizes.getD k zH).job<id)∧(∀ k,p<=k->k<s.resizes.length->id<=(s.resizes.getD k zH).job)∧((Q00 s.resizes id bsrF).2=true ↔ p<s.resizes.length∧(s.resizes.getD p zH).job=id):=by
 have g:=QGg hz hu hc;unfold Qn1 at hk;simp only [yca,yda] at hk;exact place_iff s.resizes id hz.2.2.2.1 g.sorted (Qtf g) (by omega)
theorem rz_at (hz:s.sz) (hu:WU s) (hc:((Qj0 s)!=0)=false) {id:Int} (hk:Qn1 id=true) (hb:(Q00 s.resizes id bsrF).2=true) :
  ∃ j,RzAt s (rzZ s id) j∧(rzZ s id).job=id∧rzI s id<s.resizes.length∧(Q00 s.resizes id bsrF).1=((rzI s id:Nat):Int):=by
 have g:=QGg hz hu hc;obtain ⟨p,h1,h2,h3,h4,h5⟩:=QZe hz hu hc hk;obtain ⟨h6,h7⟩:=h5.1 hb;have e:rzI s id=p:=by show Int.toNat _=p;rw [h1];rfl
 have hm:rzZ s id ∈ s.resizes:=QX4 (by rw [e];exact h6);obtain ⟨j,hj,hst,hid,R⟩:=g.res _ hm;exact ⟨j,⟨g,hu,hm,hj,hst,hid,R⟩,by show (s.resizes.getD (rzI s id) zH).job=id;rw [e];exact h7,by rw [e];exact h6,by rw [e];exact h1⟩
theorem rz_T {n:Note} (h:rzI s n.job<s.resizes.length):(rzT s n).getD (rzI s n.job) zH={ (rzZ s n.job) with said:=(wu64 (BitVec.ofInt 64 (rzZ s n.job).said ||| BitVec.ofInt 64 (QO0 ([n.node]:List Int)).1).toNat) }:=by
 rw [List.getD,yXb h]
 rfl
theorem has_iff {x:Int} (hx:U64 x) (n:Int):QU0 x n=true ↔ ∃ k:Nat,n=(k:Int)∧k<64∧tb x k=true:=by
 constructor
 ·intro h;have h0:0<=n:=by
   unfold QU0 at h;simp only [yca,yda] at h;omega
  obtain ⟨k,rfl⟩:∃ k:Nat,n=(k:Int):=⟨n.toNat,by omega⟩;rw [QB5 hx,yca,yda] at h;exact ⟨k,rfl,h.1,h.2⟩
 ·rintro ⟨k,rfl,h1,h2⟩;rw [QB5 hx,h2,yha h1]
  rfl
theorem rz_has {r:Resize} {j:Job} (a:RzAt s r j) {n:Int} (h:QU0 (wu64 (BitVec.ofInt 64 r.nodes &&& ~~~(BitVec.ofInt 64 r.said)).toNat) n=true):∃ k:Nat,n=(k:Int)∧k<64∧tb r.nodes k=true∧tb r.said k=false:=by
 obtain ⟨k,e,hk,hb⟩:=(has_iff (QE7 _) n).1 h;rw [Qi5 a.un a.us] at hb;have hb:tb r.nodes k=true∧tb r.said k=false:=by simpa using hb
 exact ⟨k,e,hk,hb.1,hb.2⟩
section
variable {n:Note} (hz:s.sz) (hu:WU s) (hc:((Qj0 s)!=0)=false) (hk:Qn1 n.job=true) (hb:(Q00 s.resizes n.job bsrF).2=true)
include hz hu hc hk hb
theorem rz_in {P:Bool} (h:(!(P||(!(QU0 (wu64 (BitVec.ofInt 64 (rzZ s n.job).nodes &&& ~~~(BitVec.ofInt 64 (rzZ s n.job).said)).toNat) n.node))))=true):0<=n.node∧n.node<(s.nodes.length:Int):=by
 obtain ⟨j,a,_⟩:=rz_at hz hu hc hk hb;have h:QU0 (wu64 (BitVec.ofInt 64 (rzZ s n.job).nodes &&& ~~~(BitVec.ofInt 64 (rzZ s n.job).said)).toNat) n.node=true:=by
  cases hq:QU0 (wu64 (BitVec.ofInt 64 (rzZ s n.job).nodes &&& ~~~(BitVec.ofInt 64 (rzZ s n.job).said)).toNat) n.node with
  | true=>rfl
  | false=>rw [hq] at h;simp at h
 obtain ⟨k,e,h1,h2,_⟩:=rz_has a h;have:=(a.node h1 h2).1;omega
theorem Q1b {P C:Bool} (hx:((P||(!(QU0 (wu64 (BitVec.ofInt 64 (rzZ s n.job).nodes &&& ~~~(BitVec.ofInt 64 (rzZ s n.job).said)).toNat) n.node)))||C)=false) :
  ∃ j k,RzAt s (rzZ s n.job) j∧rzI s n.job<s.resizes.length∧n.node=((k:Nat):Int)∧k<64∧tb (rzZ s n.job).nodes k=true∧tb (rzZ s n.job).said k=false:=by
 obtain ⟨j,a,_,hi,_⟩:=rz_at hz hu hc hk hb;have h:QU0 (wu64 (BitVec.ofInt 64 (rzZ s n.job).nodes &&& ~~~(BitVec.ofInt 64 (rzZ s n.job).said)).toNat) n.node=true:=by
  have:=(or_f (or_f hx).1).2;simpa using this
 obtain ⟨k,e,h1,h2,h3⟩:=rz_has a h;exact ⟨j,k,a,hi,e,h1,h2,h3⟩
theorem QAa {P C:Bool} (hx:((P||(!(QU0 (wu64 (BitVec.ofInt 64 (rzZ s n.job).nodes &&& ~~~(BitVec.ofInt 64 (rzZ s n.job).said)).toNat) n.node)))||C)=false)
  (h:((Ql0 s.nodes ((QO0 ([n.node]:List Int)).1) 4 0 s.now).2.2 != 0)=true):False:=by
 obtain ⟨j,k,a,_,e,h1,h2,_⟩:=Q1b hz hu hc hk hb hx;rw [e,(a.settle h1 h2).1] at h;cases h
theorem rz_len {P C:Bool} (hx:((P||(!(QU0 (wu64 (BitVec.ofInt 64 (rzZ s n.job).nodes &&& ~~~(BitVec.ofInt 64 (rzZ s n.job).said)).toNat) n.node)))||C)=false) :
  (Ql0 s.nodes ((QO0 ([n.node]:List Int)).1) 4 0 s.now).1.length<=4294967296:=by
 obtain ⟨j,k,a,_,e,h1,h2,_⟩:=Q1b hz hu hc hk hb hx;rw [e,(a.settle h1 h2).1];show (turnP _ _ _).length<=_;rw [QH1];exact hz.1
theorem QFg (hg:(rzZ s n.job).grow=true) (h:((Ql0 s.nodes ((rzZ s n.job).nodes) 7 0 s.now).2.2 != 0)=true):False:=by
 obtain ⟨j,a,_⟩:=rz_at hz hu hc hk hb;rw [(a.all (Qn5 a.g) rfl (fun _ _=>⟨rfl,rfl⟩) 7 (.inl rfl)).1] at h;cases h
theorem QEg (hg:(rzZ s n.job).grow=false) (h:((Ql0 s.nodes (wu64 (BitVec.ofInt 64 (rzZ s n.job).nodes &&& ~~~(BitVec.ofInt 64 (rzZ s n.job).said)).toNat) 6 0 s.now).2.2 != 0)=true):False:=by
 obtain ⟨j,a,_⟩:=rz_at hz hu hc hk hb;rw [(a.keep hg).1] at h;cases h
theorem rz_after {P C:Bool} (hx:((P||(!(QU0 (wu64 (BitVec.ofInt 64 (rzZ s n.job).nodes &&& ~~~(BitVec.ofInt 64 (rzZ s n.job).said)).toNat) n.node)))||C)=false) (act:Int) (ha:act=7∨(act=3∧(rzZ s n.job).grow=true)) :
  (Ql0 (Ql0 s.nodes ((QO0 ([n.node]:List Int)).1) 4 0 s.now).1 (((rzT s n).getD (rzI s n.job) zH).nodes) act 0 s.now).2.2=0:=by
 obtain ⟨j,k,a,hi,e,h1,h2,_⟩:=Q1b hz hu hc hk hb hx;rw [rz_T hi,e,(a.settle h1 h2).1]
 have h:=(a.all (a.settle h1 h2).2 (QH1 _ _ _) (fun i hi=>by
  rw [Qu2 _ _ hi]
  cases decide (k=i) <;> exact ⟨rfl,rfl⟩) act ha).1
 rw [h]
theorem QHg {P C:Bool} (hx:((P||(!(QU0 (wu64 (BitVec.ofInt 64 (rzZ s n.job).nodes &&& ~~~(BitVec.ofInt 64 (rzZ s n.job).said)).toNat) n.node)))||C)=false) (hg:((rzT s n).getD (rzI s n.job) zH).grow=true)
  (h:((Ql0 (Ql0 s.nodes ((QO0 ([n.node]:List Int)).1) 4 0 s.now).1 (((rzT s n).getD (rzI s n.job) zH).nodes) 3 0 s.now).2.2 != 0)=true):False:=by
 obtain ⟨j,k,a,hi,_⟩:=Q1b hz hu hc hk hb hx;rw [rz_after hz hu hc hk hb hx 3 (.inr ⟨rfl,by rw [rz_T hi] at hg;exact hg⟩)] at h;cases h
theorem Qc9 {P C:Bool} (hx:((P||(!(QU0 (wu64 (BitVec.ofInt 64 (rzZ s n.job).nodes &&& ~~~(BitVec.ofInt 64 (rzZ s n.job).said)).toNat) n.node)))||C)=false) (hg:((rzT s n).getD (rzI s n.job) zH).grow=false)
  (h:((Ql0 (Ql0 s.nodes ((QO0 ([n.node]:List Int)).1) 4 0 s.now).1 (((rzT s n).getD (rzI s n.job) zH).nodes) 7 0 s.now).2.2 != 0)=true):False:=by
 rw [rz_after hz hu hc hk hb hx 7 (.inl rfl)] at h;cases h
theorem rz_more (hg:((rzT s n).getD (rzI s n.job) zH).grow=true):∃ j,RzAt s (rzZ s n.job) j∧(rzZ s n.job).grow=true∧rzI s n.job<s.resizes.length ∧
  QO2 (QJ0 s.jobs (((rzT s n).getD (rzI s n.job) zH).job)).1 (wu64 (BitVec.ofInt 64 (QJ0 s.jobs (((rzT s n).getD (rzI s n.job) zH).job)).1.nodes ||| BitVec.ofInt 64 ((rzT s n).getD (rzI s n.job) zH).nodes).toNat)=({ j with nodes:=wu64 (BitVec.ofInt 64 j.nodes ||| BitVec.ofInt 64 (rzZ s n.job).nodes).toNat },0):=by
 obtain ⟨j,a,_,hi,_⟩:=rz_at hz hu hc hk hb;rw [rz_T hi] at hg ⊢;refine ⟨j,a,hg,hi,?_⟩;show QO2 (QJ0 s.jobs (rzZ s n.job).job).1 (wu64 (BitVec.ofInt 64 (QJ0 s.jobs (rzZ s n.job).job).1.nodes ||| BitVec.ofInt 64 (rzZ s n.job).nodes).toNat)=_;rw [a.find];exact (a.more hg).2.1
theorem rz_less (hg:((rzT s n).getD (rzI s n.job) zH).grow=false):∃ j,RzAt s (rzZ s n.job) j∧(rzZ s n.job).grow=false∧rzI s n.job<s.resizes.length ∧
  QO2 (QJ0 s.jobs (((rzT s n).getD (rzI s n.job) zH).job)).1 (wu64 (BitVec.ofInt 64 (QJ0 s.jobs (((rzT s n).getD (rzI s n.job) zH).job)).1.nodes &&& ~~~(BitVec.ofInt 64 ((rzT s n).getD (rzI s n.job) zH).nodes)).toNat)=({ j with nodes:=wu64 (BitVec.ofInt 64 j.nodes &&& ~~~(BitVec.ofInt 64 (rzZ s n.job).nodes)).toNat },0):=by
 obtain ⟨j,a,_,hi,_⟩:=rz_at hz hu hc hk hb;rw [rz_T hi] at hg ⊢;refine ⟨j,a,hg,hi,?_⟩;show QO2 (QJ0 s.jobs (rzZ s n.job).job).1 (wu64 (BitVec.ofInt 64 (QJ0 s.jobs (rzZ s n.job).job).1.nodes &&& ~~~(BitVec.ofInt 64 (rzZ s n.job).nodes)).toNat)=_;rw [a.find];exact (a.less hg).2.1
theorem Qhe (hg:((rzT s n).getD (rzI s n.job) zH).grow=true)
  (h:((QO2 (QJ0 s.jobs (((rzT s n).getD (rzI s n.job) zH).job)).1 (wu64 (BitVec.ofInt 64 (QJ0 s.jobs (((rzT s n).getD (rzI s n.job) zH).job)).1.nodes ||| BitVec.ofInt 64 ((rzT s n).getD (rzI s n.job) zH).nodes).toNat)).2 != 0)=true):False:=by
 obtain ⟨j,a,_,_,e⟩:=rz_more hz hu hc hk hb hg;rw [e] at h;cases h
theorem Qge (hg:((rzT s n).getD (rzI s n.job) zH).grow=false)
  (h:((QO2 (QJ0 s.jobs (((rzT s n).getD (rzI s n.job) zH).job)).1 (wu64 (BitVec.ofInt 64 (QJ0 s.jobs (((rzT s n).getD (rzI s n.job) zH).job)).1.nodes &&& ~~~(BitVec.ofInt 64 ((rzT s n).getD (rzI s n.job) zH).nodes)).toNat)).2 != 0)=true):False:=by
 obtain ⟨j,a,_,_,e⟩:=rz_less hz hu hc hk hb hg;rw [e] at h;cases h
theorem QJg (hg:((rzT s n).getD (rzI s n.job) zH).grow=true)
  (h:((Qg5 s.jobs (QO2 (QJ0 s.jobs (((rzT s n).getD (rzI s n.job) zH).job)).1 (wu64 (BitVec.ofInt 64 (QJ0 s.jobs (((rzT s n).getD (rzI s n.job) zH).job)).1.nodes ||| BitVec.ofInt 64 ((rzT s n).getD (rzI s n.job) zH).nodes).toNat)).1).2 != 0)=true):False:=by
 obtain ⟨j,a,h1,_,e⟩:=rz_more hz hu hc hk hb hg;obtain ⟨p,_,e2⟩:=a.put (a.more h1).2.2;rw [e,e2] at h;cases h
theorem QIg (hg:((rzT s n).getD (rzI s n.job) zH).grow=false)
  (h:((Qg5 s.jobs (QO2 (QJ0 s.jobs (((rzT s n).getD (rzI s n.job) zH).job)).1 (wu64 (BitVec.ofInt 64 (QJ0 s.jobs (((rzT s n).getD (rzI s n.job) zH).job)).1.nodes &&& ~~~(BitVec.ofInt 64 ((rzT s n).getD (rzI s n.job) zH).nodes)).toNat)).1).2 != 0)=true):False:=by
 obtain ⟨j,a,h1,_,e⟩:=rz_less hz hu hc hk hb hg;obtain ⟨p,_,e2⟩:=a.put (a.less h1).2.2;rw [e,e2] at h;cases h
end
end
theorem list_idx:∀ (m K s:Nat) (out:List Int) (n:Nat),s<m->s<2 ^ K->s<18446744073709551616->(QY1 m (s:Int) out n).2.1=out++((List.range K).filter (fun k=>s.testBit k)).map (fun (k:Nat)=>((n+k:Nat):Int))
 | 0,_,_,_,_,h,_,_=>absurd h (by omega)
 | m+1,K,s,out,n,hm,hK,hs=>by
  rw [QY1];rcases yMa s with h|h
  ·subst h;simp
  ·obtain ⟨K,rfl⟩:∃ k,K=k+1:=⟨K - 1,by
    rcases K with _|K
    ·simp at hK;omega
    ·rfl⟩
   rw [yha (show (s:Int) > 0 by omega)];have e1 : Int.tmod (s : Int) 2 = ((s % 2 : Nat) : Int) := rfl;have e2:Int.tdiv (s:Int) 2=((s / 2:Nat):Int):=rfl;have e3:wu64 ((s / 2:Nat):Int)=((s / 2:Nat):Int):=QC7 ⟨by omega,by omega⟩;rw [e1,e2,e3];rw [yzc] at hK;simp only [cond_true];have hr : ((List.range (K + 1)).filter (fun k => s.testBit k)).map (fun (k : Nat) => ((n + k : Nat) : Int)) = (if s % 2 = 1 then [(n : Int)] else []) ++ ((List.range K).filter (fun k => (s / 2).testBit k)).map (fun (k : Nat) => ((n + 1 + k : Nat) : Int)) := by
    rw [ycc,ywb,List.filter_map,yac];have e:((fun k=>s.testBit k) ∘ Nat.succ)=fun k=>(s / 2).testBit k:=by
     funext k
     simp [yJb]
    have e4:∀ l:List Nat,(l.map Nat.succ).map (fun (k:Nat)=>((n+k:Nat):Int))=l.map (fun (k:Nat)=>((n+1+k:Nat):Int)):=by
     intro l;rw [List.map_map];refine yVb fun k _=>?_
     simp only [Function.comp];omega
    rw [e]
    by_cases hb : s % 2 = 1
    ·simp only [hb,decide_true,if_true,y8a,y1a,e4]
     rfl
    ·simp only [hb,decide_false,if_false,e4,yTa]
     rfl
   rw [hr];rcases yYb s with hb|hb
   ·rw [hb];show (QY1 m ((s / 2:Nat):Int) out (n+1)).2.1=_;rw [list_idx m K (s / 2) out (n+1) (by omega) (by omega) (by omega)];simp
   ·rw [hb];show (QY1 m ((s / 2:Nat):Int) (out++[(n:Int)]) (n+1)).2.1=_;rw [list_idx m K (s / 2) _ (n+1) (by omega) (by omega) (by omega)];simp
theorem list_eq {s:Int} (hs:U64 s):Qc0 s=Qy0 s:=by
 rw [Q29 hs];obtain ⟨n,rfl⟩:∃ n:Nat,s=(n:Int):=⟨s.toNat,by unfold U64 at hs;omega⟩;unfold Qy0 QD9;have hn:n<18446744073709551616:=by unfold U64 at hs;omega
 rw [yoa,list_idx (n+1) 64 n [] 0 (by omega) (by rw [pow64];exact hn) hn,ydb,← yHb];refine Eq.trans ?_ (yVb (g:=fun (k:Nat)=>((0+k:Nat):Int)) fun k _=>by rw [yna])
 rfl
theorem note_eq' (l:List Node) (n:Int):QVa l n=Qv3 l n:=by
 unfold QVa Qv3;rw [QW3]
theorem notes_g1 (l:List Node):∀ (r:List Int) (out:List Note) (i:Nat),(QQ4 l r out i).1=QU1 l r out i
 | [],_,_=>rfl
 | x :: r,out,i=>by
  rw [QQ4,QU1,note_eq'];cases (Qv3 l x).2 with
  | true=>exact notes_g1 l r _ _
  | false=>exact notes_g1 l r _ _
theorem notes_eq (l:List Node) (r:List Int):Q4g l r=Q03 l r:=notes_g1 l r [] 0
def Act (act:Int):Prop:=act=2∨act=3∨act=4∨act=5∨act=6∨act=7
theorem one_at {act:Int} (ha:Act act) (x:Node) (job now:Int):Q2g x act job now=(Q60 x act job now,Qc2 x act job):=by
 rcases ha with rfl|rfl|rfl|rfl|rfl|rfl <;> rfl
theorem do_eq {act:Int} (ha:Act act) (l:List Node) (n job now:Int):QX2 l n act job now=Qw8 l n act job now:=by
 unfold QX2 Qw8;rw [one_at ha,← QW3];cases hc:(Q50 l != 0) with
 | true =>
  have e:Q50 l=120:=by
   unfold Q50 at hc ⊢;cases h1:(((decide ((l.length:Int)<1))||(decide ((l.length:Int) > 48)))||(QH0 l (fun (y:Node)=>(!(QG0 y))))) with
   | true=>rfl
   | false=>rw [h1] at hc;cases hc
  rw [e];try rfl
 | false =>
  simp only [cond_false,yXa,QH2];cases decide (n<0) with
  | true=>rfl
  | false =>
   cases decide (n >= (l.length:Int)) with
   | true=>rfl
   | false =>
    simp only [yXa];have e:(!((decide (now >= 0))&&(decide (now<=1000000))))=((decide (now<0))||(decide (now > 1000000))):=by
     rw [yLa];simp only [y5a,yPb,y3a,yda,yCa];omega
    rw [e];cases ((decide (now<0))||(decide (now > 1000000))) with
    | true=>rfl
    | false =>
     simp only [yXa,cond_false];cases Qc2 (l.getD (Int.toNat n) zF) act job with
     | false=>rfl
     | true =>
      unfold Q0g;rw [one_at ha]
theorem sends_eq (act:Int):Q13 act=((((((act==1)||(act==2))||(act==3))||(act==5))||(act==7))||(act==10)):=by
 unfold Q13 Qj3;cases act==1 <;> cases act==2 <;> cases act==3 <;> cases act==5 <;> cases act==7 <;> cases act==10 <;> rfl
theorem each_g1 {act:Int} (ha:Act act) {S:Int} (hs:U64 S) (job now:Int):∀ (r:List Int) (c:List Node) (i:Nat),QB1 S act job now r i c=Qz6 S act job now r c i
 | [],c,i=>by
  rw [QB1,Qz6,sends_eq,notes_eq,list_eq hs]
 | x :: r,c,i=>by
  rw [QB1,Qz6,do_eq ha];cases h:((Qw8 c x act job now).2 != 0) with
  | true =>
   have:((Qw8 c x act job now).2==0)=false:=by simpa using h
   rw [this]
   rfl
  | false =>
   have:((Qw8 c x act job now).2==0)=true:=by simpa using h
   rw [this];exact each_g1 ha hs job now r _ (i+1)
theorem each_eq {act:Int} (ha:Act act) {S:Int} (hs:U64 S) (l:List Node) (job now:Int):Ql6 l S act job now=Ql0 l S act job now:=by
 unfold Ql0 Ql6;rw [← QW3,← list_eq hs,each_g1 ha hs];cases hc:(Q50 l != 0) with
 | true =>
  have e:Q50 l=120:=by
   unfold Q50 at hc ⊢;cases h1:(((decide ((l.length:Int)<1))||(decide ((l.length:Int) > 48)))||(QH0 l (fun (y:Node)=>(!(QG0 y))))) with
   | true=>rfl
   | false=>rw [h1] at hc;cases hc
  rw [e]
 | false=>rfl
theorem with_true (r_:Resize):∀ (l out:List Resize) (i:Nat),(QD1 r_ l out true i).1=out++l∧(QD1 r_ l out true i).2.1=true
 | [],out,i=>by simp [QD1]
 | x :: r,out,i=>by
  rw [QD1];have:=with_true r_ r (out++[x]) (i+1);simpa using this
theorem with_false (r_:Resize):∀ (A B out:List Resize) (i:Nat),(∀ x ∈ A,x.job<=r_.job)->(∀ x ∈ B,x.job > r_.job) ->
  QR7 r_ (QD1 r_ (A++B) out false i).1 (QD1 r_ (A++B) out false i).2.1 (QD1 r_ (A++B) out false i).2.2=out++A++[r_]++B
 | [],[],out,i,_,_=>by simp [QD1,QR7]
 | [],x :: r,out,i,_,hB=>by
  have hx:=hB x (yma ..);rw [ydb,QD1,yha hx];have:=with_true r_ r ((out++[r_])++[x]) (i+1);simp only [yTb,yBc,cond_true];unfold QR7;rw [this.1,this.2];simp
 | x :: A,B,out,i,hA,hB=>by
  have hx:=hA x (yma ..);rw [ySb,QD1,yja (by omega)];have:=with_false r_ A B (out++[x]) (i+1) (fun y hy=>hA y (yga _ hy)) hB;simp only [yTb,Bool.and_false,cond_false];rw [this];simp
theorem with_eq (r_:Resize) (A B:List Resize) (hA:∀ x ∈ A,x.job<=r_.job) (hB:∀ x ∈ B,x.job > r_.job):Q79 (A++B) r_=A++[r_]++B:=by
 unfold Q79;rw [with_false r_ A B [] 0 hA hB];simp
theorem has09 {x:Int} (hx:U64 x) (n:Int):Q59 x n=QU0 x n:=by
 rcases Int.lt_or_le n 0 with h|h
 ·unfold Q59 QU0;rw [yha h,yja (show ¬ n >= 0 by omega)]
  rfl
 ·obtain ⟨k,rfl⟩:∃ k:Nat,n=(k:Int):=⟨n.toNat,by omega⟩;exact has_eq hx k
theorem add_bit {x:Int} (hx:U64 x) {k:Nat} (hk:k<64) (h:tb x k=false):wu64 (x+(2:Int) ^ k)=wu64 (BitVec.ofInt 64 x ||| BitVec.ofInt 64 ((2:Int) ^ k)).toNat:=by
 have hp:=pow_U hk;have d:BitVec.ofInt 64 x &&& BitVec.ofInt 64 ((2:Int) ^ k)=0#64:=by
  refine BitVec.eq_of_getLsbD_eq fun i hi=>?_
  rw [BitVec.getLsbD_and,Qf7 hx,Qf7 hp,tb_pow]
  by_cases e:k=i
  ·subst e;rw [h];simp
  ·simp [e]
 rw [← BitVec.add_eq_or_of_and_eq_zero _ _ d];have hx':(BitVec.ofInt 64 x).toNat=x.toNat:=by
  rw [yDc];unfold U64 at hx;have : x % ((2 ^ 64 : Nat) : Int) = x := Int.emod_eq_of_lt hx.1 (by have := hx.2; simpa using this);rw [this]
 have hp':(BitVec.ofInt 64 ((2:Int) ^ k)).toNat=((2:Int) ^ k).toNat:=by
  rw [yDc];unfold U64 at hp;have : ((2 : Int) ^ k) % ((2 ^ 64 : Nat) : Int) = (2 : Int) ^ k := Int.emod_eq_of_lt hp.1 (by have := hp.2; simpa using this);rw [this]
 rw [BitVec.toNat_add,hx',hp'];unfold U64 at hx hp;have : ((x.toNat + ((2 : Int) ^ k).toNat) % 2 ^ 64 : Nat) = ((x + (2 : Int) ^ k) % 18446744073709551616).toNat := by
  have:(2:Nat) ^ 64=18446744073709551616:=by decide
  rw [this];omega
 rw [this,wu64_eq,wu64_eq];omega
theorem Qzd (s:State):Qy1 s=0 ↔ (0<=s.now∧s.now<=1000000)∧Q50 s.nodes=0∧Qr1 s.jobs=0∧QI4 s.books=0∧Qo4 s.ledger=0:=by
 have e:∀ x:Int,x=0 ↔ (x != 0)=false:=fun x=>by simp
 have key:∀ (p q:Bool) (a b c d:Int),((bif (((bif (((((p)||(q))||(a != 0))||(b != 0))||(c != 0)) then (141:Int) else 0)!=0)||(d != 0)) then (141:Int) else 0)=0) ↔ (p=false∧q=false)∧a=0∧b=0∧c=0∧d=0:=by
  intro p q a b c d;rw [e a,e b,e c,e d];generalize (a != 0)=a';generalize (b != 0)=b';generalize (c != 0)=c';generalize (d != 0)=d';revert p q a' b' c' d'
  decide
 unfold Qy1 Qb1;rw [key];simp only [yCa];exact ⟨fun h=>⟨by omega,h.2⟩,fun h=>⟨by omega,h.2⟩⟩
theorem QVe:∀ (l:List Job) (d:Int) (i:Nat),Qq1 l d i=(l.map (·.id)).getLastD d
 | [],_,_=>rfl
 | x :: r,d,i=>by
  rw [Qq1,QVe r];cases r <;> simp [List.getLastD]
theorem job_next {s:State} (g:Good s) {j:Job} (hj:j ∈ s.jobs):j.id<s.nextJob:=by
 have h:=g.nextJ;unfold Qf1 at h;simp only [yca,yda] at h;rw [QVe] at h;have hs:=(Q12 (QY2 g)).2.2;have key:∀ (l:List Job) (d:Int),l.Pairwise (fun a b=>a.id<b.id) -> ∀ x ∈ l,x.id<=(l.map (·.id)).getLastD d:=by
  intro l
  induction l with
  | nil=>exact fun _ _ x hx=>nomatch hx
  | cons y r ih =>
   intro d hp x hx;obtain ⟨h1,h2⟩:=List.pairwise_cons.1 hp;have e:((y :: r).map (·.id)).getLastD d=(r.map (·.id)).getLastD y.id:=by cases r <;> simp [List.getLastD]
   rw [e];rcases List.mem_cons.1 hx with rfl|hx
   ·cases r with
    | nil=>exact ySa _
    | cons z r' =>
     have:=ih x.id h2 z (yma ..);have:=h1 z (yma ..);omega
   ·exact ih y.id h2 x hx
 have:=key s.jobs 0 hs j hj;omega
section
variable {s t:State} {id:Int}
structure Off (s t:State) (id:Int):Prop where
 g:Good s
 now:t.now=s.now
 books:t.books=s.books
 ledger:t.ledger=s.ledger
 nextJob:t.nextJob=s.nextJob
 nextBook:t.nextBook=s.nextBook
 len:t.nodes.length=s.nodes.length
 fleet:Q50 t.nodes=0
 off:∀ k,k<s.nodes.length->t.nodes.getD k zF=s.nodes.getD k zF∨(((s.nodes.getD k zF).job=id∨(s.nodes.getD k zF).job=0)∧(t.nodes.getD k zF).job=id)
 table:Qr1 t.jobs=0
 ids:t.jobs.map (·.id)=s.jobs.map (·.id)
 jobs:∀ j,j.id ≠ id->(j ∈ t.jobs ↔ j ∈ s.jobs)
 job:∃ j ∈ t.jobs,j.state=2∧j.id=id
 sorted:t.resizes.Pairwise (fun a b=>a.job<b.job)
 resizes:∀ r,r.job ≠ id->(r ∈ t.resizes ↔ r ∈ s.resizes)
section
variable (o:Off s t id)
include o
theorem Off.same {k:Nat} (hk:k<s.nodes.length) {x:Int} (hx:x ≠ id) (h0:x ≠ 0):((t.nodes.getD k zF).job=x->t.nodes.getD k zF=s.nodes.getD k zF)∧((s.nodes.getD k zF).job=x->t.nodes.getD k zF=s.nodes.getD k zF):=by
 rcases o.off k hk with h|⟨h1,h2⟩
 ·exact ⟨fun _=>h,fun _=>h⟩
 ·exact ⟨fun h=>by omega,fun h=>by omega⟩
theorem Off.held {j:Job} (h1:1<=j.id) (hj:j.id ≠ id) (h:HeldP s j):HeldP t j:=by
 intro k;rw [h k,o.len];constructor
 ·rintro ⟨a,b,c⟩;have:=(o.same a hj (by omega)).2 b;rw [this];exact ⟨a,b,c⟩
 ·rintro ⟨a,b,c⟩;have:=(o.same a hj (by omega)).1 b;rw [this] at b c;exact ⟨a,b,c⟩
theorem Off.res {r:Resize} {j:Job} (a:RzAt s r j) (hj:r.job ≠ id):ResP t r j:=by
 have h1:=Qtf o.g r a.hr;obtain ⟨R1,R2,R3,R4⟩:=a.res;have key:∀ (k:Nat) (q:Node->Prop),(k<t.nodes.length∧(t.nodes.getD k zF).job=r.job∧q (t.nodes.getD k zF)) ↔ (k<s.nodes.length∧(s.nodes.getD k zF).job=r.job∧q (s.nodes.getD k zF)):=by
  intro k q;rw [o.len];constructor
  ·rintro ⟨a,b,c⟩;have:=(o.same a hj (by omega)).1 b;rw [this] at b c;exact ⟨a,b,c⟩
  ·rintro ⟨a,b,c⟩;have:=(o.same a hj (by omega)).2 b;rw [this];exact ⟨a,b,c⟩
 have ask:∀ c,AskP s r c->AskP t r c:=fun c h k hk=>(key k (fun x=>x.want=c)).trans (h k hk)
 refine ⟨R1,R2,fun k hk hb=>?_,?_⟩
 ·obtain ⟨q1,q2,_⟩:=a.node hk (R2 k hk hb);have:=(o.same q1 hj (by omega)).2 q2;rw [o.len,this];exact R3 k hk hb
 ·cases hg:r.grow with
  | true =>
   rw [if_pos hg] at R4;exact ⟨ask 2 R4.1,fun k hk=>(R4.2.1 k hk).trans (key k (fun x=>x.state=2)).symm,R4.2.2⟩
  | false =>
   rw [if_neg (by rw [hg];simp)] at R4;exact ⟨ask 4 R4.1,R4.2.1,R4.2.2⟩
theorem Off.good (hu:WU s) (hr:∀ r ∈ t.resizes,r.job=id -> ∃ j ∈ t.jobs,j.state=2∧j.id=r.job∧ResP t r j)
  (hm:∀ k,k<s.nodes.length->(t.nodes.getD k zF).job=id->(t.nodes.getD k zF).state=2∨(t.nodes.getD k zF).want=4 -> ∃ r ∈ t.resizes,r.job=id∧tb r.nodes k=true)
  (hh:∀ j ∈ t.jobs,j.state=2->j.id=id->HeldP t j):Good t:=by
 have jb:∀ j ∈ t.jobs,1<=j.id:=fun j hj=>(QM4 ((Q12 o.table).2.1 j hj)).1
 have hids:∃ j ∈ s.jobs,j.id=id:=by
  obtain ⟨j,hj,_,e⟩:=o.job;have:j.id ∈ s.jobs.map (·.id):=by rw [← o.ids];exact List.mem_map.2 ⟨j,hj,rfl⟩
  obtain ⟨j',h1,h2⟩:=List.mem_map.1 this;exact ⟨j',h1,h2.trans e⟩
 refine ⟨?_,?_,?_,o.sorted,fun r hr'=>?_,fun k hk=>?_,fun j hj hst=>?_⟩
 ·have h:=(Qzd s).1 o.g.plan;exact (Qzd t).2 ⟨by rw [o.now];exact h.1,o.fleet,o.table,by rw [o.books];exact h.2.2.2.1,by rw [o.ledger];exact h.2.2.2.2⟩
 ·rw [o.nextJob,QVe,o.ids,← QVe s.jobs 0 0];exact o.g.nextJ
 ·rw [o.nextBook,o.books];exact o.g.nextB
 ·by_cases e:r.job=id
  ·exact hr r hr' e
  ·have hrs:=(o.resizes r e).1 hr';obtain ⟨j,hj,hst,hid,R⟩:=o.g.res r hrs;exact ⟨j,(o.jobs j (by omega)).2 hj,hst,hid,o.res ⟨o.g,hu,hrs,hj,hst,hid,R⟩ e⟩
 ·rw [o.len] at hk
  by_cases e:(t.nodes.getD k zF).job=id
  ·refine ⟨fun _=>?_,fun h=>?_,fun _=>?_⟩
   ·obtain ⟨j,hj,h1,h2⟩:=o.job;exact ⟨j,hj,h1,by omega⟩
   ·obtain ⟨r,h1,h2,h3⟩:=hm k hk e h;exact ⟨r,h1,by omega,h3⟩
   ·obtain ⟨j,hj,e2⟩:=hids;have:=job_next o.g hj;rw [o.nextJob];omega
  ·have hs:t.nodes.getD k zF=s.nodes.getD k zF:=by
    rcases o.off k hk with h|⟨_,h⟩
    ·exact h
    ·exact absurd h e
   obtain ⟨n1,n2,n3⟩:=o.g.node k hk;rw [hs] at e;refine ⟨fun h=>?_,fun h=>?_,fun h=>?_⟩
   ·rw [hs] at h ⊢;obtain ⟨j,hj,h1,h2⟩:=n1 h;exact ⟨j,(o.jobs j (fun q=>e (h2.symm.trans q))).2 hj,h1,h2⟩
   ·rw [hs] at h ⊢;obtain ⟨r,h1,h2,h3⟩:=n2 h;exact ⟨r,(o.resizes r (fun q=>e (h2.symm.trans q))).2 h1,h2,h3⟩
   ·rw [hs] at h ⊢;rw [o.nextJob];exact n3 h
 ·by_cases e:j.id=id
  ·exact hh j hj hst e
  ·exact o.held (jb j hj) e (o.g.held j ((o.jobs j e).1 hj) hst)
end
end
section
variable {s:State} {r:Resize} {j:Job} (a:RzAt s r j)
include a
end
structure Asked (s:State) (j:Job):Prop where
 g:Good s
 u:WU s
 hj:j ∈ s.jobs
 st:j.state=2
 kind:j.shape.kind=3
 quiet:∀ k,tb j.nodes k=true->(s.nodes.getD k zF).want=0
 no:∀ r ∈ s.resizes,r.job ≠ j.id
section
variable {s t:State} {j:Job} (b:Asked s j)
include b
theorem Asked.uj:U64 j.nodes:=b.u.1 j b.hj
theorem Asked.ids:1<=j.id∧j.id<=99999:=QM4 (QM7 b.g b.hj)
theorem Asked.held {k:Nat}:tb j.nodes k=true ↔ (k<s.nodes.length∧(s.nodes.getD k zF).job=j.id∧(s.nodes.getD k zF).state=1):=b.g.held j b.hj b.st k
theorem Asked.own {k:Nat} (hk:k<s.nodes.length) (h:(s.nodes.getD k zF).job=j.id):(s.nodes.getD k zF).state ≠ 2∧(s.nodes.getD k zF).want ≠ 4∧(s.nodes.getD k zF).want ≠ 2:=by
 have hm:=fun q=>(b.g.node k hk).moved q
 have h1:¬ ((s.nodes.getD k zF).state=2∨(s.nodes.getD k zF).want=4):=fun q=>by
  obtain ⟨r,hr,e,_⟩:=hm q;exact b.no r hr (e.trans h)
 have hf:=(Qt4 _).1 (Qa8 b.g hk);refine ⟨fun q=>h1 (.inl q),fun q=>h1 (.inr q),fun q=>?_⟩;have h2:¬ (s.nodes.getD k zF).state=2:=fun q=>h1 (.inl q)
 omega
theorem Asked.off (x:Resize) (hx:x.job=j.id) {P:Nat->Bool} {f:Node->Node} (hfl:Q50 (turnP P f s.nodes)=0) (hP:∀ k,k<s.nodes.length->P k=true->((s.nodes.getD k zF).job=j.id∨(s.nodes.getD k zF).job=0)∧(f (s.nodes.getD k zF)).job=j.id)
  (hmem:∀ y,y ∈ t.resizes ↔ y=x∨y ∈ s.resizes) (hsort:t.resizes.Pairwise (fun a b=>a.job<b.job)) (ht:t={ s with nodes:=turnP P f s.nodes,resizes:=t.resizes }):Off s t j.id:=by
 have e1:t.now=s.now:=by rw [ht]
 have e2:t.books=s.books:=by rw [ht]
 have e3:t.ledger=s.ledger:=by rw [ht]
 have e4:t.nextJob=s.nextJob:=by rw [ht]
 have e5:t.nextBook=s.nextBook:=by rw [ht]
 have e6:t.nodes=turnP P f s.nodes:=by rw [ht]
 have e7:t.jobs=s.jobs:=by rw [ht]
 refine ⟨b.g,e1,e2,e3,e4,e5,by rw [e6,QH1],by rw [e6];exact hfl,fun k hk=>?_,by rw [e7];exact QY2 b.g,by rw [e7],fun _ _=>by rw [e7],⟨j,by rw [e7];exact b.hj,b.st,rfl⟩,hsort,fun y hy=>?_⟩
 ·rw [e6,Qu2 _ _ hk];cases hp:P k with
  | false=>exact .inl rfl
  | true=>exact .inr (hP k hk hp)
 ·rw [hmem];constructor
  ·rintro (rfl|h)
   ·exact absurd hx hy
   ·exact h
  ·exact .inr
theorem Asked.wu (x:Resize) (hx:U64 x.nodes∧U64 x.said) (hj:t.jobs=s.jobs) (hmem:∀ y,y ∈ t.resizes ↔ y=x∨y ∈ s.resizes):WU t:=by
 refine ⟨by rw [hj];exact b.u.1,fun y hy=>?_⟩;rcases (hmem y).1 hy with rfl|h
 ·exact hx
 ·exact b.u.2 y h
theorem Asked.each2 {S:Int} (hS:U64 S) (hfree:∀ k,k<64->tb S k=true->k<s.nodes.length∧(s.nodes.getD k zF).state=0∧(s.nodes.getD k zF).drain=false∧(s.nodes.getD k zF).epoch<999999999) :
  Ql0 s.nodes S 2 j.id s.now=(turnP (tb S) (fun x=>Q60 x 2 j.id s.now) s.nodes,bif Q13 2 then Q03 (turnP (tb S) (fun x=>Q60 x 2 j.id s.now) s.nodes) (Qc0 S) else [],0)∧Q50 (turnP (tb S) (fun x=>Q60 x 2 j.id s.now) s.nodes)=0 :=
 Qof hS (Qn5 b.g) (QZ8 b.g) fun k hk hb=>by
  obtain ⟨h1,h2,h3,h4⟩:=hfree k hk hb;have hi:=b.ids;have hn:=Qt9 b.g;have hf:=(Qt4 _).1 (Qa8 b.g h1);refine ⟨h1,(act2 _ j.id s.now).2.2 ⟨h2,h3,h4,hi.1,hi.2⟩,?_⟩;rw [(act2 _ j.id s.now).1,Qt4];dsimp only;rw [w6 (by omega)];omega
theorem Asked.grow {S:Int} (hS:U64 S) (hfree:∀ k,k<64->tb S k=true->k<s.nodes.length∧(s.nodes.getD k zF).state=0∧(s.nodes.getD k zF).drain=false∧(s.nodes.getD k zF).epoch<999999999) (hne:S ≠ 0) (hcnt:Q10 j.nodes+Q10 S<=j.shape.max)
  (hmem:∀ y,y ∈ t.resizes ↔ y=(⟨j.id,true,S,0,s.now⟩:Resize)∨y ∈ s.resizes) (hsort:t.resizes.Pairwise (fun a b=>a.job<b.job)) (ht:t={ s with nodes:=turnP (tb S) (fun x=>Q60 x 2 j.id s.now) s.nodes,resizes:=t.resizes }):Good t∧WU t:=by
 have hlen:=QQa b.g;have hids:=b.ids;have hn:=Qt9 b.g;have e6:t.nodes=turnP (tb S) (fun x=>Q60 x 2 j.id s.now) s.nodes:=by rw [ht]
 have e7:t.jobs=s.jobs:=by rw [ht]
 have hl:t.nodes.length=s.nodes.length:=by rw [e6,QH1]
 have get:∀ k,k<s.nodes.length->tb S k=false->t.nodes.getD k zF=s.nodes.getD k zF:=fun k hk h=>by
  rw [e6,Qu2 _ _ hk,h]
  rfl
 have got:∀ k,k<s.nodes.length->tb S k=true->(t.nodes.getD k zF).job=j.id∧(t.nodes.getD k zF).state=2∧(t.nodes.getD k zF).want=2:=fun k hk h=>by
  rw [e6,Qu2 _ _ hk,h];show (Q60 _ 2 j.id s.now).job=_∧(Q60 _ 2 j.id s.now).state=_∧(Q60 _ 2 j.id s.now).want=_;rw [(act2 _ j.id s.now).1];exact ⟨rfl,rfl,rfl⟩
 have free:∀ k,k<s.nodes.length->tb S k=true->(s.nodes.getD k zF).job=0∧(s.nodes.getD k zF).state=0:=fun k hk h=>by
  have h1:=(hfree k (by omega) h).2.1;have hf:=(Qt4 _).1 (Qa8 b.g hk);omega
 have o:Off s t j.id:=b.off ⟨j.id,true,S,0,s.now⟩ rfl (b.each2 hS hfree).2 (fun k hk hp=>⟨.inr (free k hk hp).1,by
  show (Q60 _ 2 j.id s.now).job=_
  rw [(act2 _ j.id s.now).1]⟩) hmem hsort ht
 have hwu:WU t:=b.wu ⟨j.id,true,S,0,s.now⟩ ⟨hS,.zero⟩ e7 hmem;have h00:∀ k,tb 0 k=false:=QF6;have key:∀ (k:Nat) (q:Node->Prop),k<64->(∀ x:Node,x.job=j.id->x.state ≠ 2->x.want ≠ 2 -> ¬ q x)->(∀ x:Node,x.state=2->x.want=2->q x)->((k<t.nodes.length∧(t.nodes.getD k zF).job=j.id∧q (t.nodes.getD k zF)) ↔ tb S k=true):=by
  intro k q hk hno hyes;constructor
  ·rintro ⟨h1,h2,h3⟩;rw [hl] at h1;cases hb:tb S k with
   | true=>rfl
   | false =>
    rw [get k h1 hb] at h2 h3;have:=b.own h1 h2;exact absurd h3 (hno _ h2 this.1 this.2.2)
  ·intro hb;have h1:=(hfree k hk hb).1;obtain ⟨g1,g2,g3⟩:=got k h1 hb;exact ⟨by omega,g1,hyes _ g2 g3⟩
 have hres:ResP t ⟨j.id,true,S,0,s.now⟩ j:=by
  refine ⟨⟨b.kind,hne,hn.1,hn.2⟩,fun k _ h=>?_,fun k _ h=>?_,?_⟩
  ·have h:tb 0 k=true:=h;rw [h00] at h;cases h
  ·have h:tb 0 k=true:=h;rw [h00] at h;cases h
  ·rw [if_pos rfl];refine ⟨fun k hk=>?_,fun k hk=>?_,?_⟩
   ·refine (key k (fun x=>x.want=2) hk (fun x _ _ h=>h) (fun x _ h=>h)).trans ?_;show _ ↔ (tb S k=true∧tb 0 k=false);rw [h00];simp
   ·exact (key k (fun x=>x.state=2) hk (fun x _ h _=>h) (fun x h _=>h)).symm
   ·show w64 (Q10 j.nodes+Q10 S)<=j.shape.max;have c1:=Ql5 b.uj;have c2:=Ql5 hS;rw [w6 (by omega)];exact hcnt
 have hin:(⟨j.id,true,S,0,s.now⟩:Resize) ∈ t.resizes:=(hmem _).2 (.inl rfl);refine ⟨o.good b.u (fun x hx e=>?_) (fun k hk h1 h2=>?_) (fun x hx hst e=>?_),hwu⟩
 ·rcases (hmem x).1 hx with rfl|h
  ·exact ⟨j,by rw [e7];exact b.hj,b.st,rfl,hres⟩
  ·exact absurd e (b.no x h)
 ·refine ⟨_,hin,rfl,?_⟩;show tb S k=true;cases hb:tb S k with
  | true=>rfl
  | false =>
   rw [get k hk hb] at h1 h2;have:=b.own hk h1;rcases h2 with h2|h2
   ·exact absurd h2 this.1
   ·exact absurd h2 this.2.1
 ·rw [e7] at hx;have hxj:=job_one (Q12 (QY2 b.g)).2.2 hx b.hj e;subst hxj;intro k;rw [b.held,hl];refine and_congr_right fun hk=>?_
  cases hb:tb S k with
  | false=>rw [get k hk hb]
  | true =>
   have:=free k hk hb;have:=got k hk hb;constructor
   ·intro h;omega
   ·intro h;omega
theorem Asked.each5 {S:Int} (hS:U64 S) (hin:∀ k,k<64->tb S k=true->tb j.nodes k=true) :
  Ql0 s.nodes S 5 0 s.now=(turnP (tb S) (fun x=>Q60 x 5 0 s.now) s.nodes,bif Q13 5 then Q03 (turnP (tb S) (fun x=>Q60 x 5 0 s.now) s.nodes) (Qc0 S) else [],0)∧Q50 (turnP (tb S) (fun x=>Q60 x 5 0 s.now) s.nodes)=0 :=
 Qof hS (Qn5 b.g) (QZ8 b.g) fun k hk hb=>by
  have hj:=hin k hk hb;obtain ⟨h1,h2,h3⟩:=b.held.1 hj;have hq:=b.quiet k hj;have hn:=Qt9 b.g;have hf:=(Qt4 _).1 (Qa8 b.g h1);refine ⟨h1,(act5 _ s.now).2.2 ⟨h3,hq⟩,?_⟩;rw [(act5 _ s.now).1,Qt4];dsimp only;omega
theorem Asked.shrink {S:Int} (hS:U64 S) (hin:∀ k,k<64->tb S k=true->tb j.nodes k=true) (hne:S ≠ 0) (hcnt:j.shape.min<=Q10 j.nodes - Q10 S)
  (hmem:∀ y,y ∈ t.resizes ↔ y=(⟨j.id,false,S,0,s.now⟩:Resize)∨y ∈ s.resizes) (hsort:t.resizes.Pairwise (fun a b=>a.job<b.job)) (ht:t={ s with nodes:=turnP (tb S) (fun x=>Q60 x 5 0 s.now) s.nodes,resizes:=t.resizes }):Good t∧WU t:=by
 have hlen:=QQa b.g;have hids:=b.ids;have hn:=Qt9 b.g;have e6:t.nodes=turnP (tb S) (fun x=>Q60 x 5 0 s.now) s.nodes:=by rw [ht]
 have e7:t.jobs=s.jobs:=by rw [ht]
 have hl:t.nodes.length=s.nodes.length:=by rw [e6,QH1]
 have get:∀ k,k<s.nodes.length->tb S k=false->t.nodes.getD k zF=s.nodes.getD k zF:=fun k hk h=>by
  rw [e6,Qu2 _ _ hk,h]
  rfl
 have same:∀ k,k<s.nodes.length->(t.nodes.getD k zF).job=(s.nodes.getD k zF).job∧(t.nodes.getD k zF).state=(s.nodes.getD k zF).state:=fun k hk=>by
  rw [e6,Qu2 _ _ hk];cases tb S k with
  | false=>exact ⟨rfl,rfl⟩
  | true =>
   show (Q60 _ 5 0 s.now).job=_∧(Q60 _ 5 0 s.now).state=_;rw [(act5 _ s.now).1];exact ⟨rfl,rfl⟩
 have got:∀ k,k<s.nodes.length->tb S k=true->(t.nodes.getD k zF).want=4:=fun k hk h=>by
  rw [e6,Qu2 _ _ hk,h];show (Q60 _ 5 0 s.now).want=_;rw [(act5 _ s.now).1]
 have o:Off s t j.id:=b.off ⟨j.id,false,S,0,s.now⟩ rfl (b.each5 hS hin).2 (fun k hk hp=>by
  have h:=(b.held.1 (hin k (by omega) hp)).2.1;refine ⟨.inl h,?_⟩;show (Q60 _ 5 0 s.now).job=_;rw [(act5 _ s.now).1]
  exact h) hmem hsort ht
 have hwu:WU t:=b.wu ⟨j.id,false,S,0,s.now⟩ ⟨hS,.zero⟩ e7 hmem;have h00:∀ k,tb 0 k=false:=QF6;have hres:ResP t ⟨j.id,false,S,0,s.now⟩ j:=by
  refine ⟨⟨b.kind,hne,hn.1,hn.2⟩,fun k _ h=>?_,fun k _ h=>?_,?_⟩
  ·have h:tb 0 k=true:=h;rw [h00] at h;cases h
  ·have h:tb 0 k=true:=h;rw [h00] at h;cases h
  ·rw [if_neg (by simp)];refine ⟨fun k hk=>?_,hin,?_⟩
   ·show _ ↔ (tb S k=true∧tb 0 k=false);rw [h00,hl];constructor
    ·rintro ⟨h1,h2,h3⟩;refine ⟨?_,rfl⟩;cases hb:tb S k with
     | true=>rfl
     | false =>
      rw [get k h1 hb] at h2 h3;exact absurd h3 (b.own h1 h2).2.1
    ·rintro ⟨hb,_⟩;obtain ⟨h1,h2,_⟩:=b.held.1 (hin k hk hb);exact ⟨h1,by rw [(same k h1).1];exact h2,got k h1 hb⟩
   ·show w64 (Q10 j.nodes - Q10 S) >= j.shape.min;have c1:=Ql5 b.uj;have c2:=Ql5 hS;rw [w6 (by omega)];exact hcnt
 have hinr:(⟨j.id,false,S,0,s.now⟩:Resize) ∈ t.resizes:=(hmem _).2 (.inl rfl);refine ⟨o.good b.u (fun x hx e=>?_) (fun k hk h1 h2=>?_) (fun x hx hst e=>?_),hwu⟩
 ·rcases (hmem x).1 hx with rfl|h
  ·exact ⟨j,by rw [e7];exact b.hj,b.st,rfl,hres⟩
  ·exact absurd e (b.no x h)
 ·refine ⟨_,hinr,rfl,?_⟩;show tb S k=true;cases hb:tb S k with
  | true=>rfl
  | false =>
   rw [get k hk hb] at h1 h2;have:=b.own hk h1;rcases h2 with h2|h2
   ·exact absurd h2 this.1
   ·exact absurd h2 this.2.1
 ·rw [e7] at hx;have hxj:=job_one (Q12 (QY2 b.g)).2.2 hx b.hj e;subst hxj;intro k;rw [b.held,hl];refine and_congr_right fun hk=>?_
  rw [(same k hk).1,(same k hk).2]
end
theorem countP_in (M:List Nat) (h:M.Nodup) (h64:∀ k ∈ M,k<64):(List.range 64).countP (fun k=>decide (k ∈ M))=M.length:=by
 rw [yec];refine List.Perm.length_eq ?_;refine (List.perm_ext_iff_of_nodup (List.nodup_range.filter _) h).2 fun k=>?_
 rw [yub,ybb,yda];exact ⟨fun q=>q.2,fun q=>⟨h64 k q,q⟩⟩
theorem count_in {S:Int} (hS:U64 S) {M:List Nat} (h:M.Nodup) (h64:∀ k ∈ M,k<64) (hb:∀ k,tb S k=decide (k ∈ M)):Q10 S=(M.length:Int):=by
 rw [Qu3 hS,← countP_in M h h64]
 congr 2
 funext k
 exact hb k
theorem wu_zero:WU zK:=⟨fun x hx=>absurd hx ymb,fun x hx=>absurd hx ymb⟩
theorem few_room {s:State} (h:Q45 s=true):s.resizes.length<4294967296:=by
 simp only [Q45,yca,yda] at h;have:=h.2;omega
section
variable {s:State}
theorem check_141 (hc:((Qj0 s)!=0)=true):Qj0 s=141:=by
 cases hp:(Qy1 s != 0) with
 | true =>
  unfold Qj0;rw [hp]
  rfl
 | false =>
  have e:Qj0 s=QK1 s (Qq1 s.jobs 0 0) (QJ1 s.books 0 0) (QA0 s.jobs 0 []) s.resizes 0 []:=by
   unfold Qj0 Q64 Q74 Qs3;rw [hp]
   rfl
  obtain ⟨_,p2⟩:=g4_iff s (Qq1 s.jobs 0 0) (QJ1 s.books 0 0) (QA0 s.jobs 0 []) s.resizes 0 [] (by simp) (by omega);rw [← e] at p2;rcases p2 with h|h
  ·rw [h] at hc;cases hc
  ·exact h
theorem ref_check (hz:s.sz) (hu:WU s):Q53 s=Qj0 s:=(Q0f (hu.words hz)).symm
theorem QBg {r:Resize} {j:Job} (hz:s.sz) (a:RzAt s r j):Qr3 s r.job=(r,true):=by
 unfold Qr3;have e:QT5 s r.job=r:=QOc _ 0 r a.hr a.g.sorted;have h:Qj0 s=0:=(QSe (a.u.words hz)).2 a.g;rw [e,ref_check hz a.u,h];have:(r.nodes==0)=false:=by simpa using a.res.1.2.1
 rw [this]
 rfl
theorem resizing_no {id:Int} (h:∀ r ∈ s.resizes,r.job ≠ id):Qr3 s id=(zH,false):=by
 unfold Qr3;have e:QT5 s id=zH:=rof_none _ 0 id h;rw [e]
 rfl
theorem no_place (hz:s.sz) (hu:WU s) (hc:((Qj0 s)!=0)=false) {id:Int} (h:Qn1 id=false∨(Q00 s.resizes id bsrF).2=false):∀ r ∈ s.resizes,r.job ≠ id:=by
 have g:=QGg hz hu hc;intro r hr e;have hb:=Qtf g r hr;have hk:Qn1 id=true:=by unfold Qn1;simp;omega
 rcases h with h|h
 ·rw [hk] at h;cases h
 ·obtain ⟨p,h1,h2,h3,h4,h5⟩:=QZe hz hu hc hk;obtain ⟨k,hkl,hke⟩:=QCc zH hr;have hkp:k=p:=by
   rcases yob k p with hq|hq|hq
   ·have:=h3 k hq;rw [hke] at this;omega
   ·exact hq
   ·have h6:=h4 p (yla _) (by omega);have h7:=List.pairwise_iff_getElem.1 g.sorted p k (by omega) hkl hq;rw [List.getD,yaa hkl] at hke;rw [List.getD,yaa (show p<s.resizes.length by omega)] at h6;simp only [yFa] at hke h6;rw [hke] at h7;omega
  subst hkp;rw [h5.2 ⟨hkl,by rw [hke];exact e⟩] at h;cases h
theorem rz_at' (hz:s.sz) (hu:WU s) (hc:((Qj0 s)!=0)=false) {id:Int} (hk:Qn1 id=true) (hb:(Q00 s.resizes id bsrF).2=true) :
  ∃ (p:Nat) (j:Job),Q00 s.resizes id bsrF=((p:Int),true)∧p<s.resizes.length∧RzAt s (s.resizes.getD p zH) j∧(s.resizes.getD p zH).job=id:=by
 obtain ⟨j,a,hid,hi,hp⟩:=rz_at hz hu hc hk hb;exact ⟨rzI s id,j,Prod.ext hp hb,hi,a,hid⟩
end
theorem small_sz:law26_small.sz:=⟨by decide,by decide,fun y hy=>by rw [List.mem_singleton.1 hy];exact ⟨by decide,by decide,by decide,(by decide:(0:Nat)<=4294967296),by decide⟩,by decide,by decide,by decide,fun _ h=>absurd h ymb⟩
theorem Qdd:(Q70 law26_small 5 3).1.jobs=law26_small.jobs:=by kernel_rfl
theorem begun_nodes:((Q70 law26_small 5 3).1.nodes).length=4:=by kernel_rfl
theorem Q4c:(Q70 law26_small 5 3).1.resizes.map (fun r=>(r.job,r.nodes,r.said))=[(5,4,0)]:=by kernel_rfl
theorem begun_books:(Q70 law26_small 5 3).1.books=[]:=by kernel_rfl
theorem QOd:(Q70 law26_small 5 3).1.ledger=[]:=by kernel_rfl
theorem begun_sz:(Q70 law26_small 5 3).1.sz:=by
 refine ⟨by rw [begun_nodes];decide,by rw [Qdd];exact small_sz.2.1,by rw [Qdd];exact small_sz.2.2.1,?_,by rw [begun_books];decide,by rw [QOd];decide,by rw [QOd];exact fun _ h=>absurd h ymb⟩;have e:=congrArg List.length Q4c;rw [ypb] at e;rw [e]
 decide
theorem begun_wu:WU (Q70 law26_small 5 3).1:=by
 refine ⟨?_,?_⟩
 ·rw [Qdd];intro y hy;rw [List.mem_singleton.1 hy];exact ⟨by decide,by decide⟩
 ·intro r hr;have h:=List.mem_map_of_mem (f:=fun r:Resize=>(r.job,r.nodes,r.said)) hr;rw [Q4c] at h;have h:=List.mem_singleton.1 h
  injection h with h1 h2
  injection h2 with h2 h3
  rw [h2,h3];exact ⟨⟨by decide,by decide⟩,⟨by decide,by decide⟩⟩
set_option maxRecDepth 20000
set_option maxHeartbeats 4000000
attribute [local irreducible] ACalls AMoves
theorem agC {P:Program} {f:FuncId} {args:List AVal} {objs:Objs} {r:AVal} (h:ACalls P f args objs fun r' o'=>r'=r∧o'=objs):AGives P f args objs r:=h
def Qw5 (s:State) (n:Note):State × (List Note) × Int:=bif ((Qn1 n.job)&&(Q00 s.resizes n.job bsrF).2) then bif ((Qj0 s)!=0) then (zK,[],(Qj0 s)) else (fun bs:Int × Bool=>bif ((((!true)||(!((n.kind==8)||(n.kind==9))))||(!(QU0 (wu64 (BitVec.ofInt 64 (s.resizes.getD (Int.toNat bs.1) zH).nodes &&& ~~~(BitVec.ofInt 64 (s.resizes.getD (Int.toNat bs.1) zH).said)).toNat) n.node)))||((s.nodes.getD (Int.toNat n.node) zF).epoch != n.epoch)) then (zK,[],230) else bif (n.kind==9) then bif (s.resizes.getD (Int.toNat bs.1) zH).grow then (fun ea:(List Node) × (List Note) × Int=>({ s with nodes:=ea.1,resizes:=(Qd4 s.resizes bs.1 (w64 (bs.1+1))) },ea.2.1,0)) (Ql0 s.nodes ((s.resizes.getD (Int.toNat bs.1) zH).nodes) 7 0 s.now) else (fun ea1:(List Node) × (List Note) × Int=>({ s with nodes:=ea1.1,resizes:=(Qd4 s.resizes bs.1 (w64 (bs.1+1))) },ea1.2.1,0)) (Ql0 s.nodes (wu64 (BitVec.ofInt 64 (s.resizes.getD (Int.toNat bs.1) zH).nodes &&& ~~~(BitVec.ofInt 64 (s.resizes.getD (Int.toNat bs.1) zH).said)).toNat) 6 0 s.now) else (fun ea2:(List Node) × (List Note) × Int=>(fun tw:List Resize=>bif ((tw.getD (Int.toNat bs.1) zH).said==(tw.getD (Int.toNat bs.1) zH).nodes) then bif (tw.getD (Int.toNat bs.1) zH).grow then (fun ea3:(List Node) × (List Note) × Int=>(fun tf:Job × Bool=>(fun jz:Job × Int=>(fun tp:(List Job) × Int=>({ s with nodes:=ea3.1,jobs:=tp.1,resizes:=(Qd4 tw bs.1 (w64 (bs.1+1))) },(ea2.2.1++ea3.2.1),0)) (Qg5 s.jobs jz.1)) (QO2 tf.1 (wu64 (BitVec.ofInt 64 tf.1.nodes ||| BitVec.ofInt 64 (tw.getD (Int.toNat bs.1) zH).nodes).toNat))) (QJ0 s.jobs ((tw.getD (Int.toNat bs.1) zH).job))) (Ql0 ea2.1 ((tw.getD (Int.toNat bs.1) zH).nodes) 3 0 s.now) else (fun ea4:(List Node) × (List Note) × Int=>(fun tf1:Job × Bool=>(fun jz1:Job × Int=>(fun tp1:(List Job) × Int=>({ s with nodes:=ea4.1,jobs:=tp1.1,resizes:=(Qd4 tw bs.1 (w64 (bs.1+1))) },(ea2.2.1++ea4.2.1),0)) (Qg5 s.jobs jz1.1)) (QO2 tf1.1 (wu64 (BitVec.ofInt 64 tf1.1.nodes &&& ~~~(BitVec.ofInt 64 (tw.getD (Int.toNat bs.1) zH).nodes)).toNat))) (QJ0 s.jobs ((tw.getD (Int.toNat bs.1) zH).job))) (Ql0 ea2.1 ((tw.getD (Int.toNat bs.1) zH).nodes) 7 0 s.now) else ({ s with nodes:=ea2.1,resizes:=tw },ea2.2.1,0)) (s.resizes.set (Int.toNat bs.1) { (s.resizes.getD (Int.toNat bs.1) zH) with said:=(wu64 (BitVec.ofInt 64 (s.resizes.getD (Int.toNat bs.1) zH).said ||| BitVec.ofInt 64 (QO0 ([n.node]:List Int)).1).toNat) })) (Ql0 s.nodes ((QO0 ([n.node]:List Int)).1) 4 0 s.now)) (Q00 s.resizes n.job bsrF) else bif ((Qj0 s)!=0) then (zK,[],(Qj0 s)) else bif (Qn1 n.job) then (fun bs:Int × Bool=>(zK,[],230)) (Q00 s.resizes n.job bsrF) else (zK,[],230)
theorem Qt1 {P:Prop} (h:P:=by first|((subst_vars;with_reducible exact rz_len hk0 hp0 (by assumption) (by assumption) (by assumption) (by assumption)))|first|((subst_vars;with_reducible exact find_sz (by assumption) _))|first|((subst_vars;with_reducible exact size_sz (find_sz (by assumption) _) _))|exact szA):P:=h
theorem resize_Say_c (s:State) (n:Note) (hs0:s.sz) (hp0:WU s):GV 14 [State.a s,Note.a n] (AVal.tup [State.a ((Qw5 s n).1),noteL ((Qw5 s n).2.1),I ((Qw5 s n).2.2)]):=by
 generalize hR:Qw5 s n=R;refine gA (kp 13 [19,27,88,98,148]) Tryz.func14 ?_;have hk0:=hs0;obtain ⟨z46,z47,z48,z49,z50,z51,z52⟩:=hs0;cases h1:((Qn1 n.job)&&(Q00 s.resizes n.job bsrF).2)
 ·skip;refine ACalls.of_cwp (fun _=>true) Tryz.func30 rfl rfl ?_;refine us (Qx5 s Qt1 _) ?_;refine ai (fun h2=>?_) (fun h3=>?_)
  ·refine ⟨_,_,Told.refl,?_⟩;refine ai (fun h4=>?_) (fun h5=>?_)
   ·refine ACalls.of_cwp (fun _=>true) Tryz.func31 rfl rfl ?_;refine ai (fun h6=>?_) (fun h7=>?_)
    ·refine dchk (by kernel_rfl) ?_;(repeat ((first|refine ai rfl ?_|refine ai (fun _=>rfl) ?_)));refine ⟨_,_,Told.refl,?_⟩;exact lfA
    ·exfalso;exact Bool.noConfusion (h2.symm.trans h7)
   ·exfalso;exact Bool.noConfusion (h2.symm.trans h5)
  ·refine us (state_Copy_c s Qt1 _) ?_;refine ⟨_,_,Told.refl,?_⟩;refine ai (fun h=>nomatch h) (fun _=>?_);refine us (QN8 n.job _) ?_;refine ai (fun h8=>?_) (fun h9=>?_)
   ·refine ACalls.of_cwp (fun _=>true) Tryz.func39 rfl rfl ?_;refine us (bsr_c s.resizes n.job Qt1 _) ?_;generalize hvbs:Q00 s.resizes n.job bsrF=bs;have qbs:bs.2=true->0<=bs.1∧bs.1<(s.resizes.length:Int)∧w64 (bs.1+1)=bs.1+1:=(by rw [← hvbs];exact fun h=>bsr_at (by rw [h];rfl) (by assumption));have qbbs:bs.2=false:=(by rw [← hvbs];have q:=h1;rw [show Qn1 n.job=true by assumption] at q;exact q);rw [qbbs];refine ⟨_,_,Told.refl,?_⟩;refine dchk (by kernel_rfl) ?_;(conv=>whnf);refine ai (fun hg=>nomatch (show false=true from hg)) ?_;(conv=>whnf);refine ai (fun hg=>nomatch (show false=true from hg)) ?_;(first|refine ⟨Bo false,_,fun h=>absurd h (by decide),fun _=>rfl,?_⟩|refine ⟨Bo false,fun h=>absurd h (by decide),?_⟩|refine ⟨Bo false,_,fun h=>absurd h (by simp),fun _=>rfl,?_⟩|refine ⟨Bo false,fun h=>absurd h (by simp),?_⟩);(conv=>whnf);refine ai (fun hg=>nomatch (show false=true from hg)) ?_;(repeat ((first|refine ai rfl ?_|refine ai (fun _=>rfl) ?_)));refine ai (fun _=>?_) (fun h=>nomatch h);refine ACalls.of_cwp (fun _=>true) Tryz.func33 rfl rfl ?_;refine ai (fun _=>?_) (fun h=>nomatch h);refine ⟨_,_,Told.refl,?_⟩;refine ACalls.of_cwp (fun _=>true) Tryz.func31 rfl rfl ?_;refine ai (fun _=>?_) (fun h=>nomatch h);refine dchk (by kernel_rfl) ?_;(repeat ((first|refine ai rfl ?_|refine ai (fun _=>rfl) ?_)));refine ⟨_,_,Told.refl,?_⟩;obtain rfl:=foll hR (cf h1 (cf h3 (ct h8 (by subst hvbs;exact rfl))));first|exact Qb0 (Low.tup' (.cons (State.low _ _) (.cons lw (l1 .nil)))) (Seen.tup (ev (Seen.agg (e1 (ev (Q40) (ev (Q40) (ev (Q40) (ev (Q40) (ev (Q40) (e1 (e1 .nil))))))))) (ev (Q40) (e1 .nil))))|(subst hvbs;exact Qb0 (Low.tup' (.cons (State.low _ _) (.cons lw (l1 .nil)))) (Seen.tup (ev (Seen.agg (e1 (ev (Q40) (ev (Q40) (ev (Q40) (ev (Q40) (ev (Q40) (e1 (e1 .nil))))))))) (ev (Q40) (e1 .nil)))))
   ·refine dchk (by kernel_rfl) ?_;(conv=>whnf);refine ai (fun hg=>nomatch (show false=true from hg)) ?_;(conv=>whnf);refine ai (fun hg=>nomatch (show false=true from hg)) ?_;(first|refine ⟨Bo false,_,fun h=>absurd h (by decide),fun _=>rfl,?_⟩|refine ⟨Bo false,fun h=>absurd h (by decide),?_⟩|refine ⟨Bo false,_,fun h=>absurd h (by simp),fun _=>rfl,?_⟩|refine ⟨Bo false,fun h=>absurd h (by simp),?_⟩);(conv=>whnf);refine ai (fun hg=>nomatch (show false=true from hg)) ?_;(repeat ((first|refine ai rfl ?_|refine ai (fun _=>rfl) ?_)));refine ai (fun _=>?_) (fun h=>nomatch h);refine ACalls.of_cwp (fun _=>true) Tryz.func33 rfl rfl ?_;refine ai (fun _=>?_) (fun h=>nomatch h);refine ⟨_,_,Told.refl,?_⟩;refine ACalls.of_cwp (fun _=>true) Tryz.func31 rfl rfl ?_;refine ai (fun _=>?_) (fun h=>nomatch h);refine dchk (by kernel_rfl) ?_;(repeat ((first|refine ai rfl ?_|refine ai (fun _=>rfl) ?_)));refine ⟨_,_,Told.refl,?_⟩;exact lfA
 ·skip;refine ACalls.of_cwp (fun _=>true) Tryz.func30 rfl rfl ?_;refine us (Qx5 s Qt1 _) ?_;refine ai (fun h10=>?_) (fun h11=>?_)
  ·refine ⟨_,_,Told.refl,?_⟩;refine ai (fun h12=>?_) (fun h13=>?_)
   ·refine ACalls.of_cwp (fun _=>true) Tryz.func31 rfl rfl ?_;refine ai (fun h14=>?_) (fun h15=>?_)
    ·refine dchk (by kernel_rfl) ?_;(repeat ((first|refine ai rfl ?_|refine ai (fun _=>rfl) ?_)));refine ⟨_,_,Told.refl,?_⟩;exact lfA
    ·exfalso;exact Bool.noConfusion (h10.symm.trans h15)
   ·exfalso;exact Bool.noConfusion (h10.symm.trans h13)
  ·refine us (mv [] (QCa s Qt1) .nil (dv (QG6 (Low.agg' (State.lo))) .nil) (rO rr .nil) (ren_agg (r1 (rv (Ren.low _ lw) (rv (Ren.low _ lw) (.cons _ _ _ _ (rw_ 4 0 rfl) (rv (Ren.low _ lw) (rv (Ren.low _ lw) (r1 (r1 .nil)))))))))) ?_;refine ⟨_,_,Told.refl,?_⟩;refine ai (fun h=>nomatch h) (fun _=>?_);refine us (QN8 n.job _) ?_;refine ai (fun h16=>?_) (fun h17=>?_)
   ·refine ACalls.of_cwp (fun _=>true) Tryz.func39 rfl rfl ?_;refine us (AGives.lent (bsr_c s.resizes n.job Qt1 []) (ev (Qa0 _ _ rfl eqA lnA) (e1 (e1 .nil))) (.cons lw (l1 (.cons (Low.fn _ _ _ LowL.nil LowL.nil) .nil))) (QA3 rfl)) ?_;generalize hvbs:Q00 s.resizes n.job bsrF=bs;have qbs:bs.2=true->0<=bs.1∧bs.1<(s.resizes.length:Int)∧w64 (bs.1+1)=bs.1+1:=(by rw [← hvbs];exact fun h=>bsr_at (by rw [h];rfl) (by assumption));have qbbs:bs.2=true:=(by rw [← hvbs];exact ((yca _ _).mp h1).2);rw [qbbs];refine ⟨_,_,Told.refl,?_⟩;refine dchk (by kernel_rfl) ?_;refine And.intro (by first|exact fun hg=>yha (by first|((have hq:=qbs (by assumption);omega))|first|((subst_vars;exact rz_in hk0 hp0 (by assumption) (by assumption) (by assumption) hg))|exact ckA)|exact gkA) ?_;refine ⟨_,QT0 rfl rfl rfl (Qh1 zH (Int.toNat bs.1) (by first|rfl|exact yna _|omega) (by first|((have hq:=qbs (by assumption);omega))|first|((subst_vars;exact rz_in hk0 hp0 (by assumption) (by assumption) (by assumption) hg))|exact ckA)) rfl,?_⟩;refine And.intro (by first|exact fun hg=>yha (by first|((have hq:=qbs (by assumption);omega))|first|((subst_vars;exact rz_in hk0 hp0 (by assumption) (by assumption) (by assumption) hg))|exact ckA)|exact gkA) ?_;refine ⟨_,QT0 rfl rfl rfl (Qh1 zH (Int.toNat bs.1) (by first|rfl|exact yna _|omega) (by first|((have hq:=qbs (by assumption);omega))|first|((subst_vars;exact rz_in hk0 hp0 (by assumption) (by assumption) (by assumption) hg))|exact ckA)) rfl,?_⟩;(first|apply u2|apply u3|apply u4|apply us);exact QO7 (wu64 (BitVec.ofInt 64 (s.resizes.getD (Int.toNat bs.1) zH).nodes &&& ~~~(BitVec.ofInt 64 (s.resizes.getD (Int.toNat bs.1) zH).said)).toNat) n.node _;refine And.intro (by first|exact fun hg=>yha (by first|((have hq:=qbs (by assumption);omega))|first|((subst_vars;exact rz_in hk0 hp0 (by assumption) (by assumption) (by assumption) hg))|exact ckA)|exact gkA) ?_;(repeat ((first|refine ai rfl ?_|refine ai (fun _=>rfl) ?_|refine And.intro (QT0 rfl rfl rfl (Qh1 zH (Int.toNat bs.1) (by first|rfl|exact yna _|omega) (by first|((have hq:=qbs (by assumption);omega))|first|((subst_vars;exact rz_in hk0 hp0 (by assumption) (by assumption) (by assumption) hg))|exact ckA)) rfl) ?_|refine And.intro (QT0 rfl rfl rfl (Qh1 zH (Int.toNat bs.1) (by first|rfl|exact yna _|omega) (by first|((have hq:=qbs (by assumption);omega))|first|((subst_vars;exact rz_in hk0 hp0 (by assumption) (by assumption) (by assumption) hg))|exact ckA)) rfl) ?_|refine ai (fun _=>QO7 (wu64 (BitVec.ofInt 64 (s.resizes.getD (Int.toNat bs.1) zH).nodes &&& ~~~(BitVec.ofInt 64 (s.resizes.getD (Int.toNat bs.1) zH).said)).toNat) n.node _) ?_)));refine ai (fun h18=>?_) (fun h19=>?_)
    ·refine ACalls.of_cwp (fun _=>true) Tryz.func33 rfl rfl ?_;refine ai (fun _=>?_) (fun h=>nomatch h);refine ⟨_,_,Told.refl,?_⟩;refine ACalls.of_cwp (fun _=>true) Tryz.func31 rfl rfl ?_;refine ai (fun _=>?_) (fun h=>nomatch h);refine dchk (by kernel_rfl) ?_;(repeat ((first|refine ai rfl ?_|refine ai (fun _=>rfl) ?_)));refine ⟨_,_,Told.refl,?_⟩;obtain rfl:=foll hR (ct h1 (cf h11 (by subst hvbs;exact ct h18 rfl)));first|exact Qb0 (Low.tup' (.cons (State.low _ _) (.cons lw (l1 .nil)))) (Seen.tup (ev (Seen.agg (e1 (ev (Q40) (ev (Q40) (ev (Q40) (ev (Q40) (ev (Q40) (e1 (e1 .nil))))))))) (ev (Q40) (e1 .nil))))|(subst hvbs;exact Qb0 (Low.tup' (.cons (State.low _ _) (.cons lw (l1 .nil)))) (Seen.tup (ev (Seen.agg (e1 (ev (Q40) (ev (Q40) (ev (Q40) (ev (Q40) (ev (Q40) (e1 (e1 .nil))))))))) (ev (Q40) (e1 .nil)))))
    ·refine ai (fun h20=>?_) (fun h21=>?_)
     ·refine ACalls.of_cwp (fun _=>true) Tryz.func59 rfl rfl ?_;refine ACalls.of_cwp (fun _=>true) Tryz.func116 rfl rfl ?_;refine And.intro (by first|exact fun hg=>yha (by first|((have hq:=qbs (by assumption);omega))|first|((subst_vars;exact rz_in hk0 hp0 (by assumption) (by assumption) (by assumption) hg))|exact ckA)|exact gkA) ?_;refine ⟨_,QT0 rfl rfl rfl (Qh1 zH (Int.toNat bs.1) (by first|rfl|exact yna _|omega) (by first|((have hq:=qbs (by assumption);omega))|first|((subst_vars;exact rz_in hk0 hp0 (by assumption) (by assumption) (by assumption) hg))|exact ckA)) rfl,?_⟩;refine us (mv [4] (Qyb s.resizes bs.1 (w64 (bs.1+1)) Qt1 (by (have hq:=qbs (by assumption);rw [hq.2.2];omega))) (dO (dr eqA) .nil) (dv (QY5 rfl lnA) (d1 (d1 .nil))) (rO rr .nil) (rw_ 8 0 rfl)) ?_;refine ⟨_,_,Told.refl,?_⟩;refine ai (fun h22=>?_) (fun h23=>?_)
      ·refine ACalls.of_cwp (fun _=>true) Tryz.func38 rfl rfl ?_;refine ai (fun h=>nomatch h) (fun _=>?_);refine dchk (by kernel_rfl) ?_;(first|apply u2|apply u3|apply u4|apply us);exact Qx1 s.nodes ((s.resizes.getD (Int.toNat bs.1) zH).nodes) 7 0 s.now Qt1 _;generalize hvea:Ql0 s.nodes ((s.resizes.getD (Int.toNat bs.1) zH).nodes) 7 0 s.now=ea;(have qea:ea.2.1.length<=64:=by rw [← hvea];exact Qi3 _ _ _ _ _);(repeat ((first|refine ai rfl ?_|refine ai (fun _=>rfl) ?_|refine ai (fun _=>by subst hvea;exact Qx1 s.nodes ((s.resizes.getD (Int.toNat bs.1) zH).nodes) 7 0 s.now Qt1 _) ?_)));refine ai (fun h24=>?_) (fun h25=>?_)
       ·exfalso;subst_vars;with_reducible first|(apply QAa (n:=n) hk0 hp0 <;> assumption)|(apply QFg (n:=n) hk0 hp0 <;> assumption)|(apply QEg (n:=n) hk0 hp0 <;> assumption)|(apply QHg (n:=n) hk0 hp0 <;> assumption)|(apply Qc9 (n:=n) hk0 hp0 <;> assumption)
       ·(first|refine ⟨QD2 32 rfl lnA apA,?_⟩|refine ⟨Qw1 32 rfl apA,?_⟩);refine ⟨_,_,Told.refl,?_⟩;refine ⟨_,_,Told.refl,?_⟩;refine ACalls.of_cwp (fun _=>true) Tryz.func31 rfl rfl ?_;refine ai (fun h=>nomatch h) (fun _=>?_);refine dchk (by kernel_rfl) ?_;(repeat ((first|refine ai rfl ?_|refine ai (fun _=>rfl) ?_)));refine ⟨_,_,Told.refl,?_⟩;obtain rfl:=foll hR (ct h1 (cf h11 (by subst hvbs;exact cf h19 (ct h20 (ct h22 (by subst hvea;exact rfl))))));first|exact Qb0 (Low.tup' (.cons (State.low _ _) (.cons lw (l1 .nil)))) (Seen.tup (ev (Seen.agg (e1 (e1 (e1 (ev (Qa0 zH _ rfl eqA lnA) (e1 (e1 (e1 (e1 .nil))))))))) (ev (Qa0 zL _ rfl eqA lnA) (e1 .nil))))|(subst hvbs hvea;exact Qb0 (Low.tup' (.cons (State.low _ _) (.cons lw (l1 .nil)))) (Seen.tup (ev (Seen.agg (e1 (e1 (e1 (ev (Qa0 zH _ rfl eqA lnA) (e1 (e1 (e1 (e1 .nil))))))))) (ev (Qa0 zL _ rfl eqA lnA) (e1 .nil)))))
      ·refine ACalls.of_cwp (fun _=>true) Tryz.func38 rfl rfl ?_;refine ai (fun h=>nomatch h) (fun _=>?_);refine dchk (by kernel_rfl) ?_;(first|apply u2|apply u3|apply u4|apply us);exact Qx1 s.nodes (wu64 (BitVec.ofInt 64 (s.resizes.getD (Int.toNat bs.1) zH).nodes &&& ~~~(BitVec.ofInt 64 (s.resizes.getD (Int.toNat bs.1) zH).said)).toNat) 6 0 s.now Qt1 _;generalize hvea1:Ql0 s.nodes (wu64 (BitVec.ofInt 64 (s.resizes.getD (Int.toNat bs.1) zH).nodes &&& ~~~(BitVec.ofInt 64 (s.resizes.getD (Int.toNat bs.1) zH).said)).toNat) 6 0 s.now=ea1;(have qea:ea1.2.1.length<=64:=by rw [← hvea1];exact Qi3 _ _ _ _ _);(repeat ((first|refine ai rfl ?_|refine ai (fun _=>rfl) ?_|refine ai (fun _=>by subst hvea1;exact Qx1 s.nodes (wu64 (BitVec.ofInt 64 (s.resizes.getD (Int.toNat bs.1) zH).nodes &&& ~~~(BitVec.ofInt 64 (s.resizes.getD (Int.toNat bs.1) zH).said)).toNat) 6 0 s.now Qt1 _) ?_)));refine ai (fun h26=>?_) (fun h27=>?_)
       ·exfalso;subst_vars;with_reducible first|(apply QAa (n:=n) hk0 hp0 <;> assumption)|(apply QFg (n:=n) hk0 hp0 <;> assumption)|(apply QEg (n:=n) hk0 hp0 <;> assumption)|(apply QHg (n:=n) hk0 hp0 <;> assumption)|(apply Qc9 (n:=n) hk0 hp0 <;> assumption)
       ·(first|refine ⟨QD2 32 rfl lnA apA,?_⟩|refine ⟨Qw1 32 rfl apA,?_⟩);refine ⟨_,_,Told.refl,?_⟩;refine ⟨_,_,Told.refl,?_⟩;refine ACalls.of_cwp (fun _=>true) Tryz.func31 rfl rfl ?_;refine ai (fun h=>nomatch h) (fun _=>?_);refine dchk (by kernel_rfl) ?_;(repeat ((first|refine ai rfl ?_|refine ai (fun _=>rfl) ?_)));refine ⟨_,_,Told.refl,?_⟩;obtain rfl:=foll hR (ct h1 (cf h11 (by subst hvbs;exact cf h19 (ct h20 (cf h23 (by subst hvea1;exact rfl))))));first|exact Qb0 (Low.tup' (.cons (State.low _ _) (.cons lw (l1 .nil)))) (Seen.tup (ev (Seen.agg (e1 (e1 (e1 (ev (Qa0 zH _ rfl eqA lnA) (e1 (e1 (e1 (e1 .nil))))))))) (ev (Qa0 zL _ rfl eqA lnA) (e1 .nil))))|(subst hvbs hvea1;exact Qb0 (Low.tup' (.cons (State.low _ _) (.cons lw (l1 .nil)))) (Seen.tup (ev (Seen.agg (e1 (e1 (e1 (ev (Qa0 zH _ rfl eqA lnA) (e1 (e1 (e1 (e1 .nil))))))))) (ev (Qa0 zL _ rfl eqA lnA) (e1 .nil)))))
     ·refine Or.inl ?_;refine us (AGives.as2 (Qm7 ([n.node]:List Int) Qt1 _) (av (Qz3 (c:=(fun q_=>[I q_])) (d:=0) ([n.node]:List Int) rfl) .nil)) ?_;refine ACalls.of_cwp (fun _=>true) Tryz.func38 rfl rfl ?_;refine ai (fun h=>nomatch h) (fun _=>?_);refine dchk (by kernel_rfl) ?_;(first|apply u2|apply u3|apply u4|apply us);exact Qx1 s.nodes ((QO0 ([n.node]:List Int)).1) 4 0 s.now Qt1 _;generalize hvea2:Ql0 s.nodes ((QO0 ([n.node]:List Int)).1) 4 0 s.now=ea2;(have qea:ea2.2.1.length<=64:=by rw [← hvea2];exact Qi3 _ _ _ _ _);(repeat ((first|refine ai rfl ?_|refine ai (fun _=>rfl) ?_|refine ai (fun _=>by subst hvea2;exact Qx1 s.nodes ((QO0 ([n.node]:List Int)).1) 4 0 s.now Qt1 _) ?_)));refine ai (fun h28=>?_) (fun h29=>?_)
      ·exfalso;subst_vars;with_reducible first|(apply QAa (n:=n) hk0 hp0 <;> assumption)|(apply QFg (n:=n) hk0 hp0 <;> assumption)|(apply QEg (n:=n) hk0 hp0 <;> assumption)|(apply QHg (n:=n) hk0 hp0 <;> assumption)|(apply Qc9 (n:=n) hk0 hp0 <;> assumption)
      ·(first|refine ⟨QD2 32 rfl lnA apA,?_⟩|refine ⟨Qw1 32 rfl apA,?_⟩);refine ⟨_,_,Told.refl,?_⟩;refine And.intro (by first|exact fun hg=>yha (by first|((have hq:=qbs (by assumption);omega))|first|((subst_vars;exact rz_in hk0 hp0 (by assumption) (by assumption) (by assumption) hg))|exact ckA)|exact gkA) ?_;refine ⟨_,QT0 rfl rfl rfl (Qh1 zH (Int.toNat bs.1) (by first|rfl|exact yna _|omega) (by first|((have hq:=qbs (by assumption);omega))|first|((subst_vars;exact rz_in hk0 hp0 (by assumption) (by assumption) (by assumption) hg))|exact ckA)) rfl,?_⟩;refine And.intro (by first|exact fun hg=>yha (by first|((have hq:=qbs (by assumption);omega))|first|((subst_vars;exact rz_in hk0 hp0 (by assumption) (by assumption) (by assumption) hg))|exact ckA)|exact gkA) ?_;refine ⟨_,Qm3 rfl rfl rfl rfl (Qh1 zH (Int.toNat bs.1) (by first|rfl|exact yna _|omega) (by first|((have hq:=qbs (by assumption);omega))|first|((subst_vars;exact rz_in hk0 hp0 (by assumption) (by assumption) (by assumption) hg))|exact ckA)) rfl rfl (set_map (Int.toNat bs.1) { (s.resizes.getD (Int.toNat bs.1) zH) with said:=(wu64 (BitVec.ofInt 64 (s.resizes.getD (Int.toNat bs.1) zH).said ||| BitVec.ofInt 64 (QO0 ([n.node]:List Int)).1).toNat) } (by first|rfl|exact yna _|omega) rfl),?_⟩;generalize hvtw:s.resizes.set (Int.toNat bs.1) { (s.resizes.getD (Int.toNat bs.1) zH) with said:=(wu64 (BitVec.ofInt 64 (s.resizes.getD (Int.toNat bs.1) zH).said ||| BitVec.ofInt 64 (QO0 ([n.node]:List Int)).1).toNat) }=tw;(have qtw:tw.length=s.resizes.length:=by rw [← hvtw];exact List.length_set);refine dchk (by kernel_rfl) ?_;refine And.intro (by first|exact fun hg=>yha (by first|((have hq:=qbs (by assumption);omega))|first|((subst_vars;exact rz_in hk0 hp0 (by assumption) (by assumption) (by assumption) hg))|exact ckA)|exact gkA) ?_;refine ⟨_,QT0 rfl rfl rfl (Qh1 zH (Int.toNat bs.1) (by first|rfl|exact yna _|omega) (by first|((have hq:=qbs (by assumption);omega))|first|((subst_vars;exact rz_in hk0 hp0 (by assumption) (by assumption) (by assumption) hg))|exact ckA)) rfl,?_⟩;refine And.intro (by first|exact fun hg=>yha (by first|((have hq:=qbs (by assumption);omega))|first|((subst_vars;exact rz_in hk0 hp0 (by assumption) (by assumption) (by assumption) hg))|exact ckA)|exact gkA) ?_;refine ⟨_,QT0 rfl rfl rfl (Qh1 zH (Int.toNat bs.1) (by first|rfl|exact yna _|omega) (by first|((have hq:=qbs (by assumption);omega))|first|((subst_vars;exact rz_in hk0 hp0 (by assumption) (by assumption) (by assumption) hg))|exact ckA)) rfl,?_⟩;(repeat ((first|refine ai rfl ?_|refine ai (fun _=>rfl) ?_|refine And.intro (QT0 rfl rfl rfl (Qh1 zH (Int.toNat bs.1) (by first|rfl|exact yna _|omega) (by first|((have hq:=qbs (by assumption);omega))|first|((subst_vars;exact rz_in hk0 hp0 (by assumption) (by assumption) (by assumption) hg))|exact ckA)) rfl) ?_|refine And.intro (QT0 rfl rfl rfl (Qh1 zH (Int.toNat bs.1) (by first|rfl|exact yna _|omega) (by first|((have hq:=qbs (by assumption);omega))|first|((subst_vars;exact rz_in hk0 hp0 (by assumption) (by assumption) (by assumption) hg))|exact ckA)) rfl) ?_)));refine ai (fun h30=>?_) (fun h31=>?_)
       ·refine ACalls.of_cwp (fun _=>true) Tryz.func61 rfl rfl ?_;refine ACalls.of_cwp (fun _=>true) Tryz.func116 rfl rfl ?_;refine And.intro (by first|exact fun hg=>yha (by first|((have hq:=qbs (by assumption);omega))|first|((subst_vars;exact rz_in hk0 hp0 (by assumption) (by assumption) (by assumption) hg))|exact ckA)|exact gkA) ?_;refine ⟨_,QT0 rfl rfl rfl (Qh1 zH (Int.toNat bs.1) (by first|rfl|exact yna _|omega) (by first|((have hq:=qbs (by assumption);omega))|first|((subst_vars;exact rz_in hk0 hp0 (by assumption) (by assumption) (by assumption) hg))|exact ckA)) rfl,?_⟩;refine us (mv [4] (Qyb tw bs.1 (w64 (bs.1+1)) Qt1 (by (have hq:=qbs (by assumption);rw [hq.2.2];omega))) (dO (dr eqA) .nil) (dv (QY5 rfl lnA) (d1 (d1 .nil))) (rO rr .nil) (rw_ 9 0 rfl)) ?_;refine ⟨_,_,Told.refl,?_⟩;refine ai (fun h32=>?_) (fun h33=>?_)
        ·refine ACalls.of_cwp (fun _=>true) Tryz.func38 rfl rfl ?_;refine ai (fun h=>nomatch h) (fun _=>?_);refine dchk (by kernel_rfl) ?_;(first|apply u2|apply u3|apply u4|apply us);exact Qx1 ea2.1 ((tw.getD (Int.toNat bs.1) zH).nodes) 3 0 s.now Qt1 _;generalize hvea3:Ql0 ea2.1 ((tw.getD (Int.toNat bs.1) zH).nodes) 3 0 s.now=ea3;(have qea:ea3.2.1.length<=64:=by rw [← hvea3];exact Qi3 _ _ _ _ _);(repeat ((first|refine ai rfl ?_|refine ai (fun _=>rfl) ?_|refine ai (fun _=>by subst hvea3;exact Qx1 ea2.1 ((tw.getD (Int.toNat bs.1) zH).nodes) 3 0 s.now Qt1 _) ?_)));refine ai (fun h34=>?_) (fun h35=>?_)
         ·exfalso;subst_vars;with_reducible first|(apply QAa (n:=n) hk0 hp0 <;> assumption)|(apply QFg (n:=n) hk0 hp0 <;> assumption)|(apply QEg (n:=n) hk0 hp0 <;> assumption)|(apply QHg (n:=n) hk0 hp0 <;> assumption)|(apply Qc9 (n:=n) hk0 hp0 <;> assumption)
         ·(first|refine ⟨QD2 32 rfl lnA apA,?_⟩|refine ⟨Qw1 32 rfl apA,?_⟩);refine ⟨_,_,Told.refl,?_⟩;refine ACalls.of_cwp (fun _=>true) Tryz.func119 rfl rfl ?_;refine us (QFa s.jobs ((tw.getD (Int.toNat bs.1) zH).job) Qt1 _) ?_;generalize hvtf:QJ0 s.jobs ((tw.getD (Int.toNat bs.1) zH).job)=tf;refine dchk (by kernel_rfl) ?_;refine u4 (r:=U (wu64 (BitVec.ofInt 64 tf.1.nodes ||| BitVec.ofInt 64 (tw.getD (Int.toNat bs.1) zH).nodes).toNat)) (agC (ACalls.of_cwp (fun _=>true) Tryz.func118 rfl rfl ?_)) ?_
          ·exact ⟨_,_,Told.refl,rfl,rfl⟩
          (first|apply u2|apply u3|apply u4|apply us);exact QRa tf.1 (wu64 (BitVec.ofInt 64 tf.1.nodes ||| BitVec.ofInt 64 (tw.getD (Int.toNat bs.1) zH).nodes).toNat) Qt1 _;generalize hvjz:QO2 tf.1 (wu64 (BitVec.ofInt 64 tf.1.nodes ||| BitVec.ofInt 64 (tw.getD (Int.toNat bs.1) zH).nodes).toNat)=jz;(repeat ((first|refine ai rfl ?_|refine ai (fun _=>rfl) ?_|(refine ai (fun _=>agC (ACalls.of_cwp (fun _=>true) Tryz.func118 rfl rfl ?_)) ?_;focus ((conv=>whnf);exact ⟨_,_,Told.refl,rfl,rfl⟩))|refine ai (fun _=>by subst hvjz;exact QRa tf.1 (wu64 (BitVec.ofInt 64 tf.1.nodes ||| BitVec.ofInt 64 (tw.getD (Int.toNat bs.1) zH).nodes).toNat) Qt1 _) ?_)));refine ai (fun h36=>?_) (fun h37=>?_)
          ·exfalso;subst_vars;with_reducible first|(apply Qhe (n:=n) hk0 hp0 <;> assumption)|(apply Qge (n:=n) hk0 hp0 <;> assumption)
          ·refine dchk (by kernel_rfl) ?_;(first|apply u2|apply u3|apply u4|apply us);exact QR9 s.jobs jz.1 Qt1 Qt1 _;generalize hvtp:Qg5 s.jobs jz.1=tp;(repeat ((first|refine ai rfl ?_|refine ai (fun _=>rfl) ?_|refine ai (fun _=>by subst hvtp;exact QR9 s.jobs jz.1 Qt1 Qt1 _) ?_)));refine ai (fun h38=>?_) (fun h39=>?_)
           ·exfalso;subst_vars;with_reducible first|(apply QJg (n:=n) hk0 hp0 <;> assumption)|(apply QIg (n:=n) hk0 hp0 <;> assumption)
           ·refine ⟨_,_,Told.refl,?_⟩;refine ⟨_,_,Told.refl,?_⟩;refine ACalls.of_cwp (fun _=>true) Tryz.func31 rfl rfl ?_;refine ai (fun h=>nomatch h) (fun _=>?_);refine dchk (by kernel_rfl) ?_;(repeat ((first|refine ai rfl ?_|refine ai (fun _=>rfl) ?_)));refine ⟨_,_,Told.refl,?_⟩;obtain rfl:=foll hR (ct h1 (cf h11 (by subst hvbs;exact cf h19 (cf h21 (by subst hvea2;exact (by subst hvtw;exact ct h30 (ct h32 (by subst hvea3;exact (by subst hvtf;exact (by subst hvjz;exact (by subst hvtp;exact rfl)))))))))));first|exact Qb0 (Low.tup' (.cons (State.low _ _) (.cons lw (l1 .nil)))) (Seen.tup (ev (Seen.agg (e1 (e1 (e1 (ev (Qa0 zH _ rfl eqA lnA) (e1 (e1 (e1 (e1 .nil))))))))) (ev (Qa0 zL _ rfl eqA lnA) (e1 .nil))))|(subst hvbs hvea2 hvtw hvea3 hvtf hvjz hvtp;exact Qb0 (Low.tup' (.cons (State.low _ _) (.cons lw (l1 .nil)))) (Seen.tup (ev (Seen.agg (e1 (e1 (e1 (ev (Qa0 zH _ rfl eqA lnA) (e1 (e1 (e1 (e1 .nil))))))))) (ev (Qa0 zL _ rfl eqA lnA) (e1 .nil)))))
        ·refine ACalls.of_cwp (fun _=>true) Tryz.func38 rfl rfl ?_;refine ai (fun h=>nomatch h) (fun _=>?_);refine dchk (by kernel_rfl) ?_;(first|apply u2|apply u3|apply u4|apply us);exact Qx1 ea2.1 ((tw.getD (Int.toNat bs.1) zH).nodes) 7 0 s.now Qt1 _;generalize hvea4:Ql0 ea2.1 ((tw.getD (Int.toNat bs.1) zH).nodes) 7 0 s.now=ea4;(have qea:ea4.2.1.length<=64:=by rw [← hvea4];exact Qi3 _ _ _ _ _);(repeat ((first|refine ai rfl ?_|refine ai (fun _=>rfl) ?_|refine ai (fun _=>by subst hvea4;exact Qx1 ea2.1 ((tw.getD (Int.toNat bs.1) zH).nodes) 7 0 s.now Qt1 _) ?_)));refine ai (fun h40=>?_) (fun h41=>?_)
         ·exfalso;subst_vars;with_reducible first|(apply QAa (n:=n) hk0 hp0 <;> assumption)|(apply QFg (n:=n) hk0 hp0 <;> assumption)|(apply QEg (n:=n) hk0 hp0 <;> assumption)|(apply QHg (n:=n) hk0 hp0 <;> assumption)|(apply Qc9 (n:=n) hk0 hp0 <;> assumption)
         ·(first|refine ⟨QD2 32 rfl lnA apA,?_⟩|refine ⟨Qw1 32 rfl apA,?_⟩);refine ⟨_,_,Told.refl,?_⟩;refine ACalls.of_cwp (fun _=>true) Tryz.func119 rfl rfl ?_;refine us (QFa s.jobs ((tw.getD (Int.toNat bs.1) zH).job) Qt1 _) ?_;generalize hvtf1:QJ0 s.jobs ((tw.getD (Int.toNat bs.1) zH).job)=tf1;refine dchk (by kernel_rfl) ?_;refine u4 (r:=U (wu64 (BitVec.ofInt 64 tf1.1.nodes &&& ~~~(BitVec.ofInt 64 (tw.getD (Int.toNat bs.1) zH).nodes)).toNat)) (agC (ACalls.of_cwp (fun _=>true) Tryz.func117 rfl rfl ?_)) ?_
          ·exact ⟨_,_,Told.refl,rfl,rfl⟩
          (first|apply u2|apply u3|apply u4|apply us);exact QRa tf1.1 (wu64 (BitVec.ofInt 64 tf1.1.nodes &&& ~~~(BitVec.ofInt 64 (tw.getD (Int.toNat bs.1) zH).nodes)).toNat) Qt1 _;generalize hvjz1:QO2 tf1.1 (wu64 (BitVec.ofInt 64 tf1.1.nodes &&& ~~~(BitVec.ofInt 64 (tw.getD (Int.toNat bs.1) zH).nodes)).toNat)=jz1;(repeat ((first|refine ai rfl ?_|refine ai (fun _=>rfl) ?_|(refine ai (fun _=>agC (ACalls.of_cwp (fun _=>true) Tryz.func117 rfl rfl ?_)) ?_;focus ((conv=>whnf);exact ⟨_,_,Told.refl,rfl,rfl⟩))|refine ai (fun _=>by subst hvjz1;exact QRa tf1.1 (wu64 (BitVec.ofInt 64 tf1.1.nodes &&& ~~~(BitVec.ofInt 64 (tw.getD (Int.toNat bs.1) zH).nodes)).toNat) Qt1 _) ?_)));refine ai (fun h42=>?_) (fun h43=>?_)
          ·exfalso;subst_vars;with_reducible first|(apply Qhe (n:=n) hk0 hp0 <;> assumption)|(apply Qge (n:=n) hk0 hp0 <;> assumption)
          ·refine dchk (by kernel_rfl) ?_;(first|apply u2|apply u3|apply u4|apply us);exact QR9 s.jobs jz1.1 Qt1 Qt1 _;generalize hvtp1:Qg5 s.jobs jz1.1=tp1;(repeat ((first|refine ai rfl ?_|refine ai (fun _=>rfl) ?_|refine ai (fun _=>by subst hvtp1;exact QR9 s.jobs jz1.1 Qt1 Qt1 _) ?_)));refine ai (fun h44=>?_) (fun h45=>?_)
           ·exfalso;subst_vars;with_reducible first|(apply QJg (n:=n) hk0 hp0 <;> assumption)|(apply QIg (n:=n) hk0 hp0 <;> assumption)
           ·refine ⟨_,_,Told.refl,?_⟩;refine ⟨_,_,Told.refl,?_⟩;refine ACalls.of_cwp (fun _=>true) Tryz.func31 rfl rfl ?_;refine ai (fun h=>nomatch h) (fun _=>?_);refine dchk (by kernel_rfl) ?_;(repeat ((first|refine ai rfl ?_|refine ai (fun _=>rfl) ?_)));refine ⟨_,_,Told.refl,?_⟩;obtain rfl:=foll hR (ct h1 (cf h11 (by subst hvbs;exact cf h19 (cf h21 (by subst hvea2;exact (by subst hvtw;exact ct h30 (cf h33 (by subst hvea4;exact (by subst hvtf1;exact (by subst hvjz1;exact (by subst hvtp1;exact rfl)))))))))));first|exact Qb0 (Low.tup' (.cons (State.low _ _) (.cons lw (l1 .nil)))) (Seen.tup (ev (Seen.agg (e1 (e1 (e1 (ev (Qa0 zH _ rfl eqA lnA) (e1 (e1 (e1 (e1 .nil))))))))) (ev (Qa0 zL _ rfl eqA lnA) (e1 .nil))))|(subst hvbs hvea2 hvtw hvea4 hvtf1 hvjz1 hvtp1;exact Qb0 (Low.tup' (.cons (State.low _ _) (.cons lw (l1 .nil)))) (Seen.tup (ev (Seen.agg (e1 (e1 (e1 (ev (Qa0 zH _ rfl eqA lnA) (e1 (e1 (e1 (e1 .nil))))))))) (ev (Qa0 zL _ rfl eqA lnA) (e1 .nil)))))
       ·refine ACalls.of_cwp (fun _=>true) Tryz.func31 rfl rfl ?_;refine ai (fun h=>nomatch h) (fun _=>?_);refine dchk (by kernel_rfl) ?_;(repeat ((first|refine ai rfl ?_|refine ai (fun _=>rfl) ?_)));refine ⟨_,_,Told.refl,?_⟩;obtain rfl:=foll hR (ct h1 (cf h11 (by subst hvbs;exact cf h19 (cf h21 (by subst hvea2;exact (by subst hvtw;exact cf h31 rfl))))));first|exact Qb0 (Low.tup' (.cons (State.low _ _) (.cons lw (l1 .nil)))) (Seen.tup (ev (Seen.agg (e1 (e1 (e1 (ev (Qa0 zH _ rfl eqA lnA) (e1 (e1 (e1 (e1 .nil))))))))) (ev (Qa0 zL _ rfl eqA lnA) (e1 .nil))))|(subst hvbs hvea2 hvtw;exact Qb0 (Low.tup' (.cons (State.low _ _) (.cons lw (l1 .nil)))) (Seen.tup (ev (Seen.agg (e1 (e1 (e1 (ev (Qa0 zH _ rfl eqA lnA) (e1 (e1 (e1 (e1 .nil))))))))) (ev (Qa0 zL _ rfl eqA lnA) (e1 .nil)))))
   ·exfalso;rw [h17] at h1;cases h1
end Go.Proofs.YtackngeeehiegaaGreatDoor
namespace Go.Proofs.YtackngeeehiegaaGreatDoor
set_option linter.unusedSimpArgs false
set_option linter.unusedVariables false
open Go.Fw
section
variable {s:State} {r:Resize} {j:Job}
section
variable (a:RzAt s r j)
include a
end
theorem resizing_is (hz:s.sz) (a:RzAt s r j):Qa2 s r.job=(r,true):=by
 rw [resizing_eq (a.u.words hz)];exact QBg hz a
end
end Go.Proofs.YtackngeeehiegaaGreatDoor
