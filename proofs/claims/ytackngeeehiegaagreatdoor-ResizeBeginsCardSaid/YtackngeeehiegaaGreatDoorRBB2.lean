/-
  What the last text of this claim leans on: an evaluator over the code, contracts of functions, plain laws. Conditions stand in each statement.
-/
import Derived.Test.YtackngeeehiegaaGreatDoorRBB1
import Derived.Test.YtackngeeehiegaaGreatDoorRB13
import Derived.Test.YtackngeeehiegaaGreatDoorRB8
import Derived.Test.YtackngeeehiegaaGreatDoorRB5
import Derived.LaidMore
import Derived.Stop.Joined
import Derived.JoinedOf
import Derived.Handed
import Derived.OpenShut
import Derived.KernelRfl
import Derived.Test.YtackngeeehiegaaGreatDoorRB7
import Derived.Test.YtackngeeehiegaaGreatDoorProg
namespace Go.Proofs.YtackngeeehiegaaGreatDoor
set_option linter.unusedSimpArgs false
set_option linter.unusedVariables false
open Go.Fw
theorem place_spec {p:List Step} (hp:Cn p) {t:Int} (h0:0<=t):∃ k:Nat,Qf0 p t=(k:Int)∧k<p.length∧(p.getD k zE).at_<=t∧(k+1<p.length->t<(p.getD (k+1) zE).at_):=by
 have h1:1<=p.length:=by
  cases p with
  | nil=>exact hp.1.elim
  | cons x r=>simp
 have h3:(p.getD 0 zE).at_=0:=by
  cases p with
  | nil=>exact hp.1.elim
  | cons x r=>exact hp.1.1
 obtain ⟨a,b⟩:=QB8 h1 hp.2.1 h3 h0;obtain ⟨c,d,e,f⟩:=QRa (fun (y:Int)=>(decide ((p.getD (y.toNat) zE).at_ > t))) (N:=p.length) (by have:=hp.2.1;omega);have hpl:Qf0 p t=QW1 (p.length:Int) (fun (y:Int)=>(decide ((p.getD (y.toNat) zE).at_ > t))) - 1:=wr (by have:=hp.2.1;omega);refine ⟨(Qf0 p t).toNat,by omega,by omega,?_,fun h=>?_⟩
 ·have:=e oA;rw [← hpl] at this;have:=yca this;omega
 ·have:=f oA;have e2:(QW1 (p.length:Int) (fun (y:Int)=>(decide ((p.getD (y.toNat) zE).at_ > t)))).toNat=(Qf0 p t).toNat+1:=by omega
  have:=yda this;rw [e2] at this;omega
theorem Srt.get:∀ (r:List Step) (x:Step) (k:Nat),Srt x.at_ r->k<=r.length->x.at_<=((x :: r).getD k zE).at_
 | _,_,0,_,_=>yUa _
 | r,x,k+1,h,hk=>by
  have hm:(x :: r).getD (k+1) zE ∈ r:=Q7b (d:=zE) (l:=r) (j:=k) oA;have:=(QZg (f:=0) h _ hm).1;omega
theorem adA_at {f_ t_ n:Int}:∀ (k:Nat) (x:Step) (r:List Step),k<=r.length->Srt x.at_ r->((x :: r).getD k zE).at_<=f_->(k+1<(x :: r).length->f_<((x :: r).getD (k+1) zE).at_) ->
  adA f_ t_ n x r=(x :: r).take k++((if ((x :: r).getD k zE).at_<f_ then [(x :: r).getD k zE] else [])++⟨f_,((x :: r).getD k zE).free+n⟩ :: adB t_ n ((x :: r).getD k zE).free ((x :: r).drop (k+1)))
 | 0,x,[],_,_,_,_=>rfl
 | 0,x,z :: r,_,_,_,h2=>by
  have h3:f_<z.at_:=h2 (by simp);unfold adA;rw [if_neg oA]
  rfl
 | k+1,x,[],hk,_,_,_=>by simp at hk
 | k+1,x,z :: r,hk,h,h1,h2=>by
  have hk':k<=r.length:=by simpa using hk
  have hz:=Srt.get r z k h.2.2 hk';have h1':((z :: r).getD k zE).at_<=f_:=h1;have h3:z.at_<=f_:=by omega
  unfold adA;rw [if_pos h3,adA_at k z r hk' h.2.2 h1' (fun hl=>h2 (by simp at hl ⊢;omega))]
  rfl
theorem Dif.take:∀ (r:List Step) (f:Int) (k:Nat),Dif f r->Dif f (r.take k)
 | [],_,k,_=>by simp [Dif]
 | x :: r,f,0,_=>trivial
 | x :: r,f,k+1,h=>⟨h.1,Dif.take r x.free k h.2⟩
theorem Can.take {p:List Step} (h:Can p) (k:Nat):comp0 (p.take k)=p.take k:=by
 cases p with
 | nil=>exact h.elim
 | cons x r =>
  cases k with
  | zero=>rfl
  | succ k =>
   show x :: comp x.free (r.take k)=x :: r.take k;rw [comp_id _ _ (Dif.take r x.free k h.2.2)]
theorem foldl_putS (m:List Step):m.foldl putS []=comp0 m:=by
 have:=Qlg m [];simpa [comp0] using this
theorem c1_eq (a f:Int) (out:List Step) (h:out.length<=4294967296):Q61 a f out=putS out ⟨a,f⟩:=put_test out a f h
theorem g5_eq:∀ (l:List Step) (j:Nat) (c:List Step),c.length+l.length<=100000->QB6 l j c=l.foldl putS c
 | [],_,_,_=>rfl
 | x :: r,j,c,h=>by
  simp only [yja] at h;rw [QB6,c1_eq _ _ _ oA];have:=QMb c x;rw [ysb,g5_eq r (j+1) _ (by show (putS c x).length+_<=_;omega)]
theorem g3_eq {p:List Step} (hp:Cn p) {t_ n:Int} (hn:-1000000<=n∧n<=1000000):∀ (m i:Nat) (last:Int) (c:List Step),p.length - i<m->1<=i->i<=p.length->last=(p.getD (i - 1) zE).free->c.length+(p.length - i)<=10000 ->
  QE3 p t_ n m (i:Int) last c=Qy2 ((adB t_ n last (p.drop i)).foldl putS c)
 | 0,_,_,_,h,_,_,_,_=>absurd h (ygc _)
 | m+1,i,last,c,hm,h1,hi,hl,hc=>by
  have hpl:=hp.2.1;rw [QE3]
  by_cases hlt:i<p.length
  ·rw [show decide ((i:Int)<(p.length:Int))=true by simp;omega];simp only [cond_true,yna];have hd:p.drop i=p.getD i zE :: p.drop (i+1):=by
    rw [yYa hlt];simp [List.getD,hlt]
   have hmem:p.getD i zE ∈ p:=Q7b hlt;have hb:=hp.2.2 _ hmem;have hw1:w64 ((i:Int)+1)=((i+1:Nat):Int):=by
    have:w64 ((i:Int)+1)=(i:Int)+1:=wr oA;rw [this];rfl
   have hw2:(w64 ((i:Int) - 1)).toNat=i - 1:=by
    have:w64 ((i:Int) - 1)=(i:Int) - 1:=wr oA;rw [this];omega
   have hw3:w64 ((p.getD i zE).free+n)=(p.getD i zE).free+n:=wr oA;have hdl:(p.drop i).length=p.length - i:=ywa;rw [hw1,hw2,hw3,← hl];have k2:∀ last c',c'.length+(p.length - i)<=20000->Q43 p t_ (i:Int) last c'=Qy2 ((p.drop i).foldl putS c'):=by
    intro last c' hc';unfold Q43 Qr4;rw [show ((i:Int)==(p.length:Int))=false by simp;omega];simp only [cond_false,yna];rw [g5_eq _ _ _ oA]
   by_cases hy:(p.getD i zE).at_<t_
   ·rw [yga hy];simp only [cond_true];rw [c1_eq _ _ _ oA,hd];unfold adB;rw [if_pos hy,ysb];have:=QMb c ⟨(p.getD i zE).at_,(p.getD i zE).free+n⟩;exact g3_eq hp hn m (i+1) _ _ oA oA oA rfl oA
   ·rw [yka hy];simp only [cond_false]
    by_cases hz:t_<(p.getD i zE).at_
    ·rw [show decide ((p.getD i zE).at_ > t_)=true by simpa using hz];simp only [cond_true];have:=QMb c ⟨t_,last⟩;rw [c1_eq _ _ _ oA,k2 _ _ oA,hd];rw [adB,if_neg hy,if_pos hz]
     rfl
    ·rw [show decide ((p.getD i zE).at_ > t_)=false by simpa using hz];simp only [cond_false];rw [k2 _ _ oA,hd];rw [adB,if_neg hy,if_neg hz]
  ·have e:i=p.length:=by omega
   rw [show decide ((i:Int)<(p.length:Int))=false by simp;omega];simp only [cond_false];unfold Q43;have hd:p.drop i=[]:=ykb oA;rw [show ((i:Int)==(p.length:Int))=true by simp;omega,hd];simp only [cond_true]
   by_cases ht:t_<=1000000
   ·rw [yga ht,show adB t_ n last []=[⟨t_,last⟩] by simp [adB,ht],c1_eq _ _ _ oA]
    rfl
   ·rw [yka ht,show adB t_ n last []=[] by simp [adB,ht]]
    rfl
theorem adB_len {t_ n:Int}:∀ (r:List Step) (last:Int),(adB t_ n last r).length<=r.length+1
 | [],_=>by unfold adB;split <;> simp
 | y :: r,last=>by
  unfold adB;have:=adB_len (t_:=t_) (n:=n) r y.free;split
  ·simp only [yja];omega
  ·split <;> simp
theorem adA_len {f_ t_ n:Int}:∀ (r:List Step) (x:Step),(adA f_ t_ n x r).length<=r.length+3
 | [],x=>by
  unfold adA;have:=adB_len (t_:=t_) (n:=n) [] x.free;split <;> simp only [ypa,yja,yJa] at * <;> omega
 | y :: r,x=>by
  unfold adA;have h1:=adA_len (f_:=f_) (t_:=t_) (n:=n) r y;have h2:=adB_len (t_:=t_) (n:=n) (y :: r) x.free;split
  ·simp only [yja];omega
  ·split <;> simp only [ypa,yja,yJa] at * <;> omega
theorem prog_add {p:List Step} {f_ t_ n:Int} (hp:Cn p) (h0:0<=f_) (hf:f_<=1000000) (hft:f_<t_) (hn:-1000000<=n∧n<=1000000) :
  Adds p (comp0 (adP f_ t_ n p)) f_ t_ n∧QV2 p f_ t_ n=(bif ((QW0 (comp0 (adP f_ t_ n p)))!=0) then ([],3) else (comp0 (adP f_ t_ n p),0)):=by
 have hpl:=hp.2.1;have hs:=adP_srt0 (n:=n) hp.1.srt0 h0 hf hft;refine ⟨⟨comp0_can hs,yHa (QCe _) ?_,fun t ht0 ht1=>by rw [comp0_pat ht0 hs,adP_pat hp.1.srt0 h0 hf hft ht1]⟩,?_⟩
 ·cases p with
  | nil=>exact hp.1.elim
  | cons x r=>have:=adA_len (f_:=f_) (t_:=t_) (n:=n) r x;simp only [adP,yja];omega
 ·obtain ⟨k,hk,hkl,ha,hb⟩:=place_spec hp h0;have hc:((Q42 p)!=0)=false:=by rw [Qs8,(Qk8 p).2 hp];rfl
  have hb2:(((!(QW2 f_))||(decide (t_<f_)))||(!(QO2 n)))=false:=by simp [QW2,QO2];omega
  have hmem:p.getD k zE ∈ p:=Q7b hkl;have hfr:=hp.2.2 _ hmem;have hw:w64 ((p.getD k zE).free+n)=(p.getD k zE).free+n:=wr oA;have hw1:w64 ((k:Int)+1)=((k+1:Nat):Int):=by
   have:w64 ((k:Int)+1)=(k:Int)+1:=wr oA;rw [this];rfl
  have key:∀ c:List Step,c.length<=k+1->Qy5 p f_ t_ n c=Qy2 ((⟨f_,(p.getD k zE).free+n⟩ :: adB t_ n (p.getD k zE).free (p.drop (k+1))).foldl putS c):=by
   intro c hc;unfold Qy5;rw [hk,hw1];simp only [yna];rw [hw,c1_eq _ _ _ oA];have:=QMb c ⟨f_,(p.getD k zE).free+n⟩;rw [g3_eq hp hn _ (k+1) (p.getD k zE).free (putS c ⟨f_,(p.getD k zE).free+n⟩) oA oA oA rfl oA,ysb]
  have hM:adP f_ t_ n p=p.take k++((if (p.getD k zE).at_<f_ then [p.getD k zE] else [])++⟨f_,(p.getD k zE).free+n⟩ :: adB t_ n (p.getD k zE).free (p.drop (k+1))):=by
   cases p with
   | nil=>exact hp.1.elim
   | cons x r=>exact adA_at k x r (by simp at hkl;omega) hp.1.2.1 ha hb
  have htk:(p.take k).length<=k:=by simp;omega
  have hfold:comp0 (adP f_ t_ n p)=((if (p.getD k zE).at_<f_ then [p.getD k zE] else [])++⟨f_,(p.getD k zE).free+n⟩ :: adB t_ n (p.getD k zE).free (p.drop (k+1))).foldl putS (p.take k):=by
   rw [← foldl_putS,hM,List.foldl_append,foldl_putS (p.take k),hp.1.take k]
  have hk4:∀ c,Qy2 c=(bif ((QW0 c)!=0) then ([],3) else (c,0)):=fun c=>by rw [← Qs8];rfl
  rw [← hk4,hfold];unfold QV2;rw [hc,hb2,show (t_==f_)=false by simp;omega,hk];simp only [cond_false,yna]
  by_cases hy:(p.getD k zE).at_<f_
  ·rw [yga hy,if_pos hy];simp only [cond_true];have:=QMb (p.take k) (p.getD k zE);rw [c1_eq _ _ _ oA,key _ (by show (putS (p.take k) (p.getD k zE)).length<=_;omega)]
   rfl
  ·rw [yka hy,if_neg hy];simp only [cond_false];rw [key _ oA]
   rfl
theorem add_eq (p:List Step) (f_ t_ n:Int):QV2 p f_ t_ n=Qi2 p f_ t_ n:=by
 by_cases hc:QW0 p=0
 ·have hp:=(Qk8 p).1 hc;have hcb:((QW0 p)!=0)=false:=by rw [hc];rfl
  by_cases hb:0<=f_∧f_<=1000000∧f_<=t_ ∧ -1000000<=n∧n<=1000000
  ·obtain ⟨h0,hf,hft,hn⟩:=hb;obtain ⟨q,hq,hr⟩:=ref_add hp h0 hf hft hn;rw [hr]
   by_cases he:t_=f_
   ·have hqp:q=p:=Can.uniq hq.1 hp.1 fun t ht0 ht1=>by rw [hq.2.2 t ht0 ht1,if_neg (by omega:¬(f_<=t∧t<t_))];omega
    rw [hqp,hcb];unfold QV2;rw [Qs8,hcb,show (((!(QW2 f_))||(decide (t_<f_)))||(!(QO2 n)))=false by simp [QW2,QO2];omega,show (t_==f_)=true by simpa using he]
    rfl
   ·obtain ⟨hq',hr'⟩:=prog_add (t_:=t_) hp h0 hf oA hn;rw [hr',hq'.uniq hq]
  ·unfold QV2 Qi2;rw [Qs8,hcb,show (((!(QW2 f_))||(decide (t_<f_)))||(!(QO2 n)))=true by simp [QW2,QO2];omega,show (((((decide (f_<0))||(decide (f_ > 1000000)))||(decide (t_<f_)))||(decide (n<(-1000000))))||(decide (n > 1000000)))=true by simp;omega]
   rfl
 ·have hcb:((QW0 p)!=0)=true:=by simpa using hc
  unfold QV2 Qi2;rw [Qs8,hcb]
  rfl
theorem Qxa (id:Int):∀ (l:List Job) (i:Nat) (c:List (Int × Int)),(∀ x ∈ l,x.state=2->x.id ≠ id)->getM id (Qj2 l i c)=getM id c
 | [],_,_,_=>rfl
 | x :: r,i,c,h=>by
  rw [Qj2]
  by_cases hs:x.state=2
  ·rw [show (x.state==2)=true by simpa using hs];simp only [cond_true];rw [Qxa id r (i+1) _ fun y hy=>h y (yha _ hy),QP8];have hne:=h x (yqa ..) hs;rw [show (id==x.id)=false by simpa using fun e=>hne e.symm]
   rfl
  ·rw [show (x.state==2)=false by simpa using hs];simp only [cond_false];exact Qxa id r (i+1) c fun y hy=>h y (yha _ hy)
theorem Qqc (x:Job) (hs:x.state=2):∀ (l:List Job) (i:Nat) (c:List (Int × Int)),x ∈ l->l.Pairwise (fun a b=>a.id<b.id)->getM x.id (Qj2 l i c)=some x.limit
 | [],_,_,h,_=>absurd h ybb
 | y :: r,i,c,h,hp=>by
  rw [yxc] at hp;rw [Qj2];rcases List.mem_cons.1 h with rfl|hm
  ·rw [show (x.state==2)=true by simpa using hs];simp only [cond_true];rw [Qxa x.id r (i+1) _ fun z hz _ e=>by have:=hp.1 z hz;omega,QP8];simp
  ·cases (y.state==2) with
   | true=>exact Qqc x hs r (i+1) _ hm hp.2
   | false=>exact Qqc x hs r (i+1) c hm hp.2
theorem jat_none (id:Int):∀ (l:List Job) (i:Nat),(∀ x ∈ l,x.id ≠ id)->Q92 id l i = -1
 | [],_,_=>rfl
 | x :: r,i,h=>by
  rw [Q92,show (x.id==id)=false by simpa using h x (yqa ..)];exact jat_none id r (i+1) fun y hy=>h y (yha _ hy)
theorem jat_some (x:Job):∀ (l:List Job) (i:Nat),x ∈ l->l.Pairwise (fun a b=>a.id<b.id) -> ∃ k:Nat,l[k]? = some x∧Q92 x.id l i=((i+k:Nat):Int)
 | [],_,h,_=>absurd h ybb
 | y :: r,i,h,hp=>by
  rw [yxc] at hp;rw [Q92];rcases List.mem_cons.1 h with rfl|hm
  ·exact ⟨0,rfl,by simp⟩
  ·rw [show (y.id==x.id)=false by have:=hp.1 x hm;simp;omega];obtain ⟨k,hk,e⟩:=jat_some x r (i+1) hm hp.2;exact ⟨k+1,hk,by rw [cond_false,e];congr 1;omega⟩
theorem jget_none (id:Int) (l:List Job) (h:∀ x ∈ l,x.id ≠ id):QZ4 l id=zG:=by
 have e:QA0 l id = -1:=jat_none id l 0 h;unfold QZ4;rw [e]
 rfl
theorem jget_some {l:List Job} (hp:l.Pairwise (fun a b=>a.id<b.id)) {x:Job} (hx:x ∈ l):QZ4 l x.id=x:=by
 obtain ⟨k,hk,e⟩:=jat_some x l 0 hx hp;have e:QA0 l x.id=((0+k:Nat):Int):=e;unfold QZ4;rw [e,show decide ((((0+k:Nat):Int))<0)=false by simp];simp [List.getD,hk]
theorem until_node {l:List Job} (hp:l.Pairwise (fun a b=>a.id<b.id)) (x:Node):QT0 x (Qw0 l)=(bif ((x.drain||(x.state==0))||(x.state==4)) then 0 else bif (x.state==3) then w64 (x.since+12) else bif ((QZ4 l x.job).state != 2) then 1000001 else w64 ((QZ4 l x.job).limit+12)):=by
 unfold QT0;have e:(((x.state==0)||(x.state==4))||x.drain)=((x.drain||(x.state==0))||(x.state==4)):=by
  cases x.drain <;> cases (x.state==0) <;> cases (x.state==4) <;> rfl
 rw [e]
 congr 2
 show (bif (!(getM x.job (Qj2 l 0 [])).isSome) then 1000001 else (w64 (((getM x.job (Qj2 l 0 [])).getD 0)+12)))=_
 by_cases h:∃ j ∈ l,j.id=x.job∧j.state=2
 ·obtain ⟨j,hj,e1,e2⟩:=h;rw [← e1,Qqc j e2 l 0 [] hj hp,jget_some hp hj,show (j.state != 2)=false by simpa using e2]
  rfl
 ·have hn:getM x.job (Qj2 l 0 [])=none:=by
   rw [Qxa x.job l 0 [] fun j hj h2 h1=>h ⟨j,hj,h1,h2⟩]
   rfl
  rw [hn];have hs:((QZ4 l x.job).state != 2)=true:=by
   by_cases hm:∃ j ∈ l,j.id=x.job
   ·obtain ⟨j,hj,e1⟩:=hm;rw [← e1,jget_some hp hj];have:j.state ≠ 2:=fun h2=>h ⟨j,hj,e1,h2⟩
    simpa using this
   ·rw [jget_none x.job l fun j hj e1=>hm ⟨j,hj,e1⟩]
    rfl
  rw [hs]
  rfl
def tk (l:List Job) (x:Node):Int:=bif ((x.drain||(x.state==0))||(x.state==4)) then 0 else bif (x.state==3) then w64 (x.since+12) else bif ((QZ4 l x.job).state != 2) then 1000001 else w64 ((QZ4 l x.job).limit+12)
theorem ref_until (s:State) (i:Nat):Q18 s (i:Int)=tk s.jobs (s.nodes.getD i zF):=rfl
theorem until_tk {l:List Job} (hp:l.Pairwise (fun a b=>a.id<b.id)) (x:Node):QT0 x (Qw0 l)=tk l x:=until_node hp x
theorem room_parts {s:State} (h:QH1 s=0):(0<=s.now∧s.now<=1000000)∧Q80 s.nodes=0∧QK1 s.jobs=0∧Qh6 s.books=0:=by
 simp only [QH1] at h;revert h;cases h2:(((((decide (s.now<0))||(decide (s.now > 1000000)))||((Q80 s.nodes)!=0))||((QK1 s.jobs)!=0))||((Qh6 s.books)!=0)) with
 | true=>intro h;cases h
 | false =>
  intro _;simp only [yXa,yGa,bne_eq_false_iff_eq] at h2;exact ⟨by omega,h2.1.1.2,h2.1.2,h2.2⟩
def Rp (p:List Step) (f:Int->Int) (N:Nat):Prop:=Can p∧p.length<=N ∧ ∀ t,0<=t->t<=1000000->pat p t=f t
def Bd (f:Int->Int) (B:Int):Prop:=∀ t,0<=t->t<=1000000 -> -B<=f t∧f t<=B
theorem Rp.uniq {p q:List Step} {f:Int->Int} {N M:Nat} (hp:Rp p f N) (hq:Rp q f M):p=q:=Can.uniq hp.1 hq.1 fun t h0 h1=>by rw [hp.2.2 t h0 h1,hq.2.2 t h0 h1]
theorem Rp.congr {p:List Step} {f g:Int->Int} {N:Nat} (hp:Rp p f N) (h:∀ t,0<=t->t<=1000000->f t=g t):Rp p g N:=⟨hp.1,hp.2.1,fun t h0 h1=>by rw [hp.2.2 t h0 h1,h t h0 h1]⟩
theorem Rp.le {p:List Step} {f:Int->Int} {N M:Nat} (hp:Rp p f N) (h:N<=M):Rp p f M:=⟨hp.1,yHa hp.2.1 h,hp.2.2⟩
theorem Rp.cn {p:List Step} {f:Int->Int} {N:Nat} (h:Rp p f N) (hN:N<=1000) (hb:Bd f 1000000):Cn p:=by
 refine ⟨h.1,yHa h.2.1 hN,fun x hx=>?_⟩;obtain ⟨a,b,c⟩:=h.1.srt0.mem x hx;rw [← c,h.2.2 x.at_ a b];exact hb x.at_ a b
theorem QKg {p:List Step} {f:Int->Int} {N:Nat} {B:Int} (h:Rp p f N) (hN:N+2<=1000) (hb:Bd f B) (hB:B<=900000) {f_ n:Int} (t_:Int) (h0:0<=f_) (hf:f_<=1000000) (hn:0<=n∧n<=100000) :
  Rp (Qd2 p f_ t_ n) (fun t=>f t - (if f_<=t∧t<t_ then n else 0)) (N+2)∧Bd (fun t=>f t - (if f_<=t∧t<t_ then n else 0)) (B+n):=by
 have hbd:Bd (fun t=>f t - (if f_<=t∧t<t_ then n else 0)) (B+n):=by
  intro t a b;have:=hb t a b;show _<=f t - (if f_<=t∧t<t_ then n else 0)∧f t - (if f_<=t∧t<t_ then n else 0)<=_;split <;> omega
 refine ⟨?_,hbd⟩;have hcn:Cn p:=h.cn oA fun t a b=>by have:=hb t a b;omega
 have hw:w64 (0 - n) = -n:=by
  have:w64 (0 - n)=0 - n:=wr oA;rw [this];omega
 unfold Qd2;rw [hw]
 by_cases hft:f_<=t_
 ·obtain ⟨q,hq,hr⟩:=ref_add hcn h0 hf hft (n:=-n) oA;have hrq:Rp q (fun t=>f t - (if f_<=t∧t<t_ then n else 0)) (N+2):=by
   refine ⟨hq.1,yHa hq.2.1 (by have:=h.2.1;omega),fun t a b=>?_⟩;rw [hq.2.2 t a b,h.2.2 t a b];dsimp only;split <;> omega
  have hcq:((QW0 q)!=0)=false:=by
   rw [(Qk8 q).2 (hrq.cn hN fun t a b=>by have:=hbd t a b;omega)]
   rfl
  rw [hr,hcq];exact hrq
 ·have he:(Qi2 p f_ t_ (-n)).2=2:=by
   unfold Qi2;rw [show ((QW0 p)!=0)=false by rw [(Qk8 p).2 hcn];rfl,show (((((decide (f_<0))||(decide (f_ > 1000000)))||(decide (t_<f_)))||(decide (-n<(-1000000))))||(decide (-n > 1000000)))=true by simp;omega]
   rfl
  rw [he];refine ⟨h.1,yHa h.2.1 oA,fun t a b=>?_⟩;show pat p t=f t - (if f_<=t∧t<t_ then n else 0);rw [h.2.2 t a b,if_neg (by omega:¬(f_<=t∧t<t_))];omega
theorem QGh {t:Taken} {f:Int->Int} {N:Nat} {B:Int} (h:Rp t.p f N) (hN:N+2<=1000) (hb:Bd f B) (hB:B<=900000) {f_ n:Int} (t_:Int) (h0:0<=f_) (hf:f_<=1000000) (hn:0<=n∧n<=100000):(Qw1 t f_ t_ n).p=Qd2 t.p f_ t_ n:=by
 unfold Qw1
 by_cases hc:((decide (t_<=f_))||(n==0))=true
 ·rw [hc];simp only [cond_true];refine h.uniq ((QKg h hN hb hB t_ h0 hf hn).1.congr fun t a b=>?_);have:(if f_<=t∧t<t_ then n else 0)=0:=by
   simp at hc;split
   ·omega
   ·rfl
  rw [this];omega
 ·rw [yYb] at hc;rw [hc,add_eq];simp only [cond_false];unfold Qd2
  by_cases he:(Qi2 t.p f_ t_ (w64 (0 - n))).2=0
  ·rw [show ((Qi2 t.p f_ t_ (w64 (0 - n))).2==0)=true by simpa using he,show ((Qi2 t.p f_ t_ (w64 (0 - n))).2 != 0)=false by simpa using he]
   rfl
  ·rw [show ((Qi2 t.p f_ t_ (w64 (0 - n))).2==0)=false by simpa using he,show ((Qi2 t.p f_ t_ (w64 (0 - n))).2 != 0)=true by simpa using he]
   rfl
theorem flat_rp {n:Int} (h:0<=n∧n<=1000000):Rp (QN2 n) (fun _=>n) 1∧QB5 n=QN2 n:=by
 have e:QN2 n=[⟨0,n⟩]:=by
  unfold QN2;rw [show min (max n (-1000000)) 1000000=n by omega]
 refine ⟨?_,?_⟩
 ·rw [e];exact ⟨⟨rfl,trivial,trivial⟩,yla _,fun t a b=>by simp [pat,pv,a]⟩
 ·rw [e];unfold QB5 Qw7;rw [show decide (n < -1000000)=false by simp;omega,show decide (n > 1000000)=false by simp;omega]
  rfl
def sumT (t:Int):List Int->Int
 | []=>0
 | u :: r=>(if t<u then 1 else 0)+sumT t r
theorem sumT_le (t:Int):∀ l:List Int,0<=sumT t l∧sumT t l<=l.length
 | []=>⟨yUa _,yUa _⟩
 | u :: r=>by
  have:=sumT_le t r;simp only [sumT,yja];split <;> omega
theorem Qdh (s:State):∀ (l:List Node) (i:Nat) (p:List Step) (f:Int->Int) (N:Nat) (B:Int),s.nodes.drop i=l->Rp p f N->Bd f B->N+2*l.length<=1000->B+l.length<=900000 ->
  Rp (QG2 s l p i).1 (fun t=>f t - sumT t (l.map (tk s.jobs))) (N+2*l.length)∧Bd (fun t=>f t - sumT t (l.map (tk s.jobs))) (B+l.length)
 | [],_,p,f,N,B,_,hp,hb,_,_=>⟨by simpa [QG2,sumT] using hp,by simpa [sumT] using hb⟩
 | x :: r,i,p,f,N,B,h,hp,hb,hN,hB=>by
  obtain ⟨h1,h2⟩:=Qma zF h;simp only [yja] at hN hB;rw [QG2,ref_until,h1];obtain ⟨a,b⟩:=QKg hp oA hb oA (tk s.jobs x) (f_:=0) (n:=1) oA oA oA;obtain ⟨c,d⟩:=Qdh s r (i+1) _ _ (N+2) (B+1) h2 a b oA oA;have e:∀ t,0<=t->f t - (if 0<=t∧t<tk s.jobs x then 1 else 0) - sumT t (r.map (tk s.jobs))=f t - sumT t ((x :: r).map (tk s.jobs)):=by
   intro t ht;simp only [yjb,sumT];split <;> split <;> omega
  refine ⟨(c.le (by simp only [yja];omega)).congr fun t a b=>e t a,fun t a b=>?_⟩;have:=d t a b;simp only [e t a] at this;simp only [yja];omega
theorem ups_g1:∀ (l:List Node) (up:Int) (i:Nat),0<=up->up+l.length<=1000->(Q73 l up i).1=up+((l.filter fun y=>(y.state != 4)&&(!y.drain)).length:Int)
 | [],up,i,_,_=>by simp [Q73]
 | x :: r,up,i,h0,h=>by
  simp only [yja] at h;rw [Q73];cases hx:((x.state != 4)&&(!x.drain)) with
  | true =>
   have hw:w64 (up+1)=up+1:=wr oA;simp only [cond_true,hw];rw [ups_g1 r (up+1) (i+1) oA oA,yAb,if_pos hx];simp only [yja];omega
  | false =>
   simp only [cond_false];rw [ups_g1 r up (i+1) h0 oA,yAb,if_neg (by simp [hx])]
theorem popN_zero:∀ m,popN m 0=0
 | 0=>rfl
 | m+1=>by simp [popN,popN_zero m]
theorem popN_list {α:Type} (is:α->Bool) (d:α):∀ (l:List α) (m n:Nat),l.length<=m->(∀ k,n.testBit k=(decide (k<l.length)&&is (l.getD k d)))->popN m n=(l.filter is).length
 | [],m,n,_,h=>by
  have:n=0:=y2b fun k=>by rw [h k];simp
  rw [this,popN_zero]
  rfl
 | x :: r,0,n,hl,_=>by simp at hl
 | x :: r,m+1,n,hl,h=>by
  have h0:=h 0;have ih:=popN_list is d r m (n / 2) (by simpa using hl) fun k=>by
   rw [← yCb,h (k+1)];simp
  have hb : n % 2 = if is x then 1 else 0 := by
   have e:n.testBit 0=is x:=by rw [h0];simp
   rw [y8b] at e;cases hx:is x with
   | true=>rw [hx] at e;simp at e;simp [e]
   | false=>rw [hx] at e;simp at e;simp;omega
  have e : popN (m + 1) n = n % 2 + popN m (n / 2) := by rfl
  rw [e,ih,hb,yAb];cases is x <;> simp <;> omega
theorem count_where (l:List Node) (is:Node->Bool) (hc:Q80 l=0) (hl:l.length<=64):Q10 (Q71 l is)=((l.filter is).length:Int):=by
 obtain ⟨h1,h2⟩:=Q74 l is hc hl;rw [count_eq h1,popN_list is zF l 64 _ hl h2]
abbrev cntM (c:List (Int × Int)) (k:Int):Int:=(getM k c).getD 0
def wsum (c:List (Int × Int)) (w:Int->Int):List Int->Int
 | []=>0
 | k :: r=>w k*cntM c k+wsum c w r
theorem QMh (c:List (Int × Int)) (w:Int->Int):∀ (l m:List Int),wsum c w (l++m)=wsum c w l+wsum c w m
 | [],m=>by simp [wsum]
 | k :: r,m=>by simp only [yQb,wsum,QMh c w r m];omega
theorem wsum_perm (c:List (Int × Int)) (w:Int->Int) {l m:List Int} (h:l.Perm m):wsum c w l=wsum c w m:=by
 induction h with
 | nil=>rfl
 | cons x _ ih=>simp only [wsum,ih]
 | swap x y l=>simp only [wsum];omega
 | trans _ _ ih1 ih2=>exact ih1.trans ih2
theorem Q8e (u v:Int) (c:List (Int × Int)) (k:Int):cntM (setM u v c) k=if k=u then v else cntM c k:=by
 unfold cntM;rw [QP8]
 by_cases h:k=u
 ·rw [if_pos h,show (k==u)=true by simpa using h];rfl
 ·rw [if_neg h,show (k==u)=false by simpa using h];rfl
theorem wsum_out (u v:Int) (c:List (Int × Int)) (w:Int->Int):∀ (l:List Int),u ∉ l->wsum (setM u v c) w l=wsum c w l
 | [],_=>rfl
 | k :: r,h=>by
  simp only [yuc,not_or] at h;simp only [wsum,wsum_out u v c w r h.2,Q8e,if_neg (fun e:k=u=>h.1 e.symm)]
theorem wsum_in (u:Int) (c:List (Int × Int)) (w:Int->Int):∀ (l:List Int),l.Nodup->u ∈ l->wsum (setM u (cntM c u+1) c) w l=wsum c w l+w u
 | [],_,h=>absurd h ybb
 | k :: r,hn,h=>by
  rw [List.nodup_cons] at hn;simp only [wsum,Q8e]
  by_cases e:k=u
  ·subst e;rw [if_pos rfl,wsum_out _ _ _ _ _ hn.1,Int.mul_add];omega
  ·rw [if_neg e];rcases List.mem_cons.1 h with h|h
   ·exact absurd h.symm e
   ·rw [wsum_in u c w r hn.2 h];omega
def sumW (w:Int->Int) (g:Node->Int):List Node->Int
 | []=>0
 | x :: r=>w (g x)+sumW w g r
theorem busy_g1 (s:State):∀ (l:List Node) (o:List Int) (i:Nat) (c:List (Int × Int)),o.Nodup->(∀ k,k ∈ o ↔ cntM c k ≠ 0)->(∀ k,0<=cntM c k∧cntM c k<=i)->i+l.length<=1000 ->
  (∀ k,0<=cntM (QV1 s l o i c).2 k∧cntM (QV1 s l o i c).2 k<=1000)∧(QV1 s l o i c).1.length<=o.length+l.length ∧
  ∀ w,wsum (QV1 s l o i c).2 w (QV1 s l o i c).1=wsum c w o+sumW w (fun x=>QT0 x (Qw0 s.jobs)) l
 | [],o,i,c,_,_,hb,hi=>⟨fun k=>by have:=hb k;simp only [QV1];simp only [yJa] at hi;omega,by simp [QV1],fun w=>by simp [QV1,sumW]⟩
 | x :: r,o,i,c,hn,hm,hb,hi=>by
  simp only [yja] at hi;rw [QV1];generalize hu:QT0 x (Qw0 s.jobs)=u;have hbu:=hb u;have hw:w64 (cntM c u+1)=cntM c u+1:=wr oA;have hc':∀ k,0<=cntM (setM u (cntM c u+1) c) k∧cntM (setM u (cntM c u+1) c) k<=((i+1:Nat):Int):=by
   intro k;rw [Q8e];have:=hb k;split <;> omega
  rw [show w64 ((getM u c).getD 0+1)=cntM c u+1 from hw]
  by_cases h0:cntM c u=0
  ·rw [show ((getM u c).getD 0==0)=true by simpa using h0];simp only [cond_true];have hnu:u ∉ o:=fun h=>(hm u).1 h h0
   obtain ⟨a,b,d⟩:=busy_g1 s r (o++[u]) (i+1) (setM u (cntM c u+1) c) (by
    rw [List.nodup_append]
    exact ⟨hn,(by simp),fun a ha b hb e=>hnu (by rw [List.mem_singleton.1 hb] at e;exact e ▸ ha)⟩) (fun k=>by
    rw [Q8e,yMb,List.mem_singleton,hm k]
    by_cases e:k=u
    ·subst e;simp [h0]
    ·simp [e]) hc' oA
   refine ⟨a,by simp only [ypa,yja,yJa] at b;simp only [yja];omega,fun w=>?_⟩;rw [d w,QMh,wsum_out _ _ _ _ _ hnu];simp only [wsum,sumW,Q8e,if_true,h0,hu];omega
  ·rw [show ((getM u c).getD 0==0)=false by simpa using h0];simp only [cond_false]
   obtain ⟨a,b,d⟩:=busy_g1 s r o (i+1) (setM u (cntM c u+1) c) hn (fun k=>by
    rw [Q8e,hm k]
    by_cases e:k=u
    ·subst e;simp only [if_true];exact ⟨fun _=>by omega,fun _=>h0⟩
    ·simp [e]) hc' oA
   refine ⟨a,by simp only [yja];omega,fun w=>?_⟩;rw [d w,wsum_in u c w o hn ((hm u).2 h0)];simp only [sumW,hu];omega
theorem busy_g2 (o:List Int) (c:List (Int × Int)) (hc:∀ k,0<=cntM c k∧cntM c k<=1000):∀ (l:List Int) (i:Nat) (t:Taken) (f:Int->Int) (N:Nat) (B:Int),(sorted o).drop i=l->Rp t.p f N->Bd f B->N+2*l.length<=1000->B+1000*l.length<=900000 ->
  Rp (Q75 o c l i t).p (fun t=>f t - wsum c (fun k=>if t<k then 1 else 0) l) (N+2*l.length)
 | [],_,t,f,N,B,_,hp,_,_,_=>by simpa [Q75,wsum] using hp
 | k :: r,i,t,f,N,B,h,hp,hb,hN,hB=>by
  obtain ⟨h1,h2⟩:=Qma (0:Int) h;simp only [yja] at hN hB;rw [Q75,h1];have hk:=hc k;obtain ⟨a,b⟩:=QKg hp oA hb oA k (f_:=0) (n:=cntM c k) oA oA oA;have e:=QGh hp oA hb oA k (f_:=0) (n:=cntM c k) oA oA oA;rw [← e] at a;have d:=busy_g2 o c hc r (i+1) _ _ (N+2) (B+cntM c k) h2 a b oA oA;refine (d.le (by simp only [yja];omega)).congr fun t ht _=>?_
  simp only [wsum]
  by_cases hlt:t<k
  ·rw [if_pos (⟨ht,hlt⟩:0<=t∧t<k),if_pos hlt];omega
  ·rw [if_neg (fun q:0<=t∧t<k=>hlt q.2),if_neg hlt];omega
theorem sumW_sumT (t:Int) (l:List Job) (hp:l.Pairwise (fun a b=>a.id<b.id)):∀ r:List Node,sumW (fun k=>if t<k then 1 else 0) (fun x=>QT0 x (Qw0 l)) r=sumT t (r.map (tk l))
 | []=>rfl
 | x :: r=>by
  have e:=until_tk hp x;have ih:=sumW_sumT t l hp r;simp only [sumW,yjb,sumT,ih];simp only [e]
theorem sumT_map_le (t:Int) (l:List Job) (r:List Node):0<=sumT t (r.map (tk l))∧sumT t (r.map (tk l))<=r.length:=by
 have:=sumT_le t (r.map (tk l));simpa using this
def Qvg (s:State) (t:Int):Int:=((s.nodes.filter fun y=>(y.state != 4)&&(!y.drain)).length:Int) - sumT t (s.nodes.map (tk s.jobs))
theorem freeAt_bd (s:State) (h:s.nodes.length<=48):Bd (Qvg s) 48:=by
 intro t _ _;have h1:=sumT_map_le t s.jobs s.nodes;have h2:(s.nodes.filter fun y=>(y.state != 4)&&(!y.drain)).length<=s.nodes.length:=yfc _ _;unfold Qvg;omega
theorem Qeh {s:State} (hl:s.nodes.length<=48):Rp (Q05 s) (Qvg s) 97:=by
 have h2:(s.nodes.filter fun y=>(y.state != 4)&&(!y.drain)).length<=s.nodes.length:=yfc _ _;have hu:=ups_g1 s.nodes 0 0 oA oA;rw [Int.zero_add] at hu;obtain ⟨a,b⟩:=flat_rp (n:=((s.nodes.filter fun y=>(y.state != 4)&&(!y.drain)).length:Int)) oA;have hg:=(Qdh s s.nodes 0 _ _ 1 48 rfl a (fun t _ _=>by omega) oA oA).1;show Rp (QG2 s s.nodes (QB5 (Q73 s.nodes 0 0).1) 0).1 _ _;rw [hu,b];exact hg.le oA
theorem busy_rp {s:State} (hc:QH1 s=0):Rp (Qq3 s) (Qvg s) 97:=by
 obtain ⟨_,hf,ht,_⟩:=room_parts hc;have hp:=(QG4 ht).2.2;have hl:=(QC8 (s:=s) (by rw [hc];rfl)).2;have h2:(s.nodes.filter fun y=>(y.state != 4)&&(!y.drain)).length<=s.nodes.length:=yfc _ _;have hup:Q10 (Qv9 s.nodes)=((s.nodes.filter fun y=>(y.state != 4)&&(!y.drain)).length:Int):=count_where s.nodes _ hf oA;obtain ⟨a,b,d⟩:=busy_g1 s s.nodes [] 0 [] .nil (fun k=>by simp [cntM,getM]) (fun k=>by simp [cntM,getM]) oA;unfold Qq3;rw [show ((QH1 s)!=0)=false by rw [hc];rfl];simp only [cond_false];unfold Q85 Qa6;rw [hup];generalize QV1 s s.nodes [] 0 []=q at a b d;have hsl:(sorted q.1).length=q.1.length:=Qte _;simp only [yJa,yma] at b;have hg:=busy_g2 q.1 q.2 a (sorted q.1) 0 ⟨QN2 ((s.nodes.filter fun y=>(y.state != 4)&&(!y.drain)).length:Int)⟩ _ 1 48 rfl (flat_rp oA).1 (fun t _ _=>by omega) oA oA;refine (hg.le oA).congr fun t _ _=>?_
 have hperm:(sorted q.1).Perm q.1:=QGa _;rw [wsum_perm _ _ hperm,d,sumW_sumT t s.jobs hp];simp [wsum,Qvg]
def Qvc (j:Job):Int × Int × Int × Bool:=bif ((Qo2 j)!=0) then (0,0,0,false) else Q50 j
def bkAt (t:Int):List Book->Int
 | []=>0
 | b :: r=>(if b.from_<=t∧t<b.to then b.nodes else 0)+bkAt t r
def BookOk (b:Book):Prop:=0<=b.from_∧b.from_<=1000000∧0<=b.nodes∧b.nodes<=48
theorem books_ok:∀ (l:List Book) (last:Int) (i:Nat),i<=8->Qx4 l last i=0->l.length+i<=8 ∧ ∀ b ∈ l,BookOk b
 | [],_,i,hi,_=>⟨by simpa using hi,fun b hb=>absurd hb ybb⟩
 | x :: r,last,i,hi,h=>by
  rw [Qx4] at h;cases hc:(((((((((i:Int)==8)||(decide (x.id<=last)))||(decide (x.id > 99999)))||(decide (x.from_<0)))||(decide (x.to<=x.from_)))||(decide (x.to > 1000000)))||(decide (x.nodes<1)))||(decide (x.nodes > 48))) with
  | true=>rw [hc] at h;cases h
  | false =>
   rw [hc] at h;simp only [yXa,yGa,beq_eq_false_iff_ne] at hc;obtain ⟨⟨⟨⟨⟨⟨⟨h1,h2⟩,h3⟩,h4⟩,h5⟩,h6⟩,h7⟩,h8⟩:=hc;obtain ⟨a,b⟩:=books_ok r x.id (i+1) oA h;refine ⟨by simp only [yja];omega,fun z hz=>?_⟩;rcases List.mem_cons.1 hz with rfl|hz
   ·exact ⟨by omega,by omega,by omega,by omega⟩
   ·exact b z hz
def OptOk (a:Alt):Prop:=1<=a.nodes∧a.nodes<=48∧1<=a.wall∧a.wall<=100000
theorem g3_inl (x:Alt):∀ (l:List Alt) (k:Nat) (v:Int),Qg2 x l k=Sum.inl v->v=70
 | [],_,_,h=>by simp [Qg2] at h
 | y :: r,k,v,h=>by
  rw [Qg2] at h;cases hc:(x.nodes==y.nodes) with
  | true=>rw [hc] at h;simp at h;omega
  | false=>rw [hc] at h;exact g3_inl x r (k+1) v h
theorem alts_ok (s:Shape):∀ (l:List Alt) (i:Nat),QK0 s l i=0 -> ∀ a ∈ l,OptOk a
 | [],_,_,a,ha=>absurd ha ybb
 | x :: r,i,h,a,ha=>by
  rw [QK0] at h;cases hc:((!(Qt1 x.nodes))||(!(Q52 x.wall))) with
  | true=>rw [hc] at h;cases h
  | false =>
   rw [hc] at h;simp only [cond_false] at h;cases h3:Qg2 x (List.drop (i+1) s.alts) (i+1) with
   | inl v =>
    rw [h3] at h;have:=g3_inl _ _ _ _ h3;subst this;cases h
   | inr k =>
    rw [h3] at h;rcases List.mem_cons.1 ha with rfl|ha
    ·simp [Qt1,Q52] at hc;exact ⟨by omega,by omega,by omega,by omega⟩
    ·exact alts_ok s r (i+1) h a ha
theorem mal_ok (s:Shape) (hs:1<=s.min∧s.min<=s.max∧s.max<=48) (hw:1<=s.wall∧s.wall<=100000):∀ (m:Nat) (out:List Alt) (i:Nat),(∀ a ∈ out,OptOk a) -> ∀ a ∈ (Qs1 s m out i).1,OptOk a
 | 0,_,_,_,a,ha=>by simp [Qs1] at ha
 | m+1,out,i,h,a,ha=>by
  rw [Qs1] at ha;have hw1:w64 (s.max - s.min)=s.max - s.min:=wr oA;rw [hw1] at ha
  by_cases hc:(i:Int)<=s.max - s.min
  ·rw [yga hc] at ha;have hw2:w64 (s.max - (i:Int))=s.max - (i:Int):=wr oA;simp only [cond_true,hw2] at ha;refine mal_ok s hs hw m _ (i+1) (fun b hb=>?_) a ha;rcases List.mem_append.1 hb with hb|hb
   ·exact h b hb
   ·rw [List.mem_singleton.1 hb];exact ⟨by show 1<=s.max - (i:Int);omega,by show s.max - (i:Int)<=48;omega,hw.1,hw.2⟩
  ·rw [yka hc] at ha;exact h a ha
theorem options_ok (s:Shape):∀ a ∈ Qi0 s,OptOk a:=by
 intro a ha;unfold Qi0 at ha;cases hc:((Qj1 s)!=0) with
 | true=>rw [hc] at ha;exact absurd ha ybb
 | false =>
  rw [hc] at ha;simp only [cond_false] at ha;have h0:Qj1 s=0:=by simpa using hc
  cases hk:(s.kind != 3) with
  | true =>
   rw [hk] at ha;simp only [cond_true] at ha;have k1:∀ most,QI3 s most=0->OptOk a:=by
    intro most h;unfold QI3 at h;cases hq:(((((decide ((s.alts.length:Int)<1))||(decide ((s.alts.length:Int) > most)))||(s.min != 0))||(s.max != 0))||(s.wall != 0)) with
    | true=>rw [hq] at h;cases h
    | false=>rw [hq] at h;exact alts_ok s s.alts 0 h a ha
   unfold Qj1 at h0;rw [show (s.kind==3)=false by simpa using hk] at h0;simp only [cond_false] at h0;cases h2:(s.kind==2) with
   | true=>rw [h2] at h0;exact k1 6 h0
   | false =>
    rw [h2] at h0;simp only [cond_false] at h0;cases h3:(s.kind != 1) with
    | true=>rw [h3] at h0;cases h0
    | false=>rw [h3] at h0;exact k1 1 h0
  | false =>
   rw [hk] at ha;obtain ⟨a1,a2,a3,_⟩:=Qr7 hc hk;have hw:1<=s.wall∧s.wall<=100000:=by
    unfold Qj1 at h0;rw [show (s.kind==3)=true by simpa using hk] at h0;simp only [cond_true] at h0;cases hq:(((((decide ((s.alts.length:Int) > 0))||(!(Qt1 s.min)))||(!(Qt1 s.max)))||(decide (s.max<s.min)))||(!(Q52 s.wall))) with
    | true=>rw [hq] at h0;cases h0
    | false =>
     simp only [yXa] at hq;have:=hq.2;simp [Q52] at this;omega
   exact mal_ok s ⟨a1,a2,a3⟩ hw _ [] 0 (fun b hb=>absurd hb ybb) a ha
def clAt (t:Int) (x:Job):Int:=if (Q50 x).2.2.2=true∧(Q50 x).1<=t∧t<(Q50 x).1+(Q50 x).2.1 then (Q50 x).2.2.1 else 0
def clsAt (ex:List Int) (t:Int):List Job->Int
 | []=>0
 | x :: r=>(if ex.any (fun e=>x.id==e) then 0 else clAt t x)+clsAt ex t r
theorem claimed_ok {x:Job} (h:Qo2 x=0):(0<=(Q50 x).1∧(Q50 x).1<=1000000)∧(0<=(Q50 x).2.1∧(Q50 x).2.1<=200000)∧(0<=(Q50 x).2.2.1∧(Q50 x).2.2.1<=48):=by
 unfold Q50;cases hc:((x.state != 1)||(x.promise==(-1))) with
 | true=>simp
 | false =>
  simp only [cond_false];have hst:=QY7 (j:=x) (by rw [h];rfl);obtain ⟨c0,c1⟩:=QZe hst hc;have hm:(Qi0 x.shape).getD (x.choice.toNat) zA ∈ Qi0 x.shape:=Q7b oA;obtain ⟨o1,o2,o3,o4⟩:=options_ok x.shape _ hm;have hw:w64 (((Qi0 x.shape).getD (x.choice.toNat) zA).wall+12)=((Qi0 x.shape).getD (x.choice.toNat) zA).wall+12:=wr oA;rw [hw];have hpr:0<=x.promise∧x.promise<=1000000:=by
   rw [yXa] at hc;have h1:(x.state==1)=true:=by simpa using hc.1
   rw [QI1,h1,hc.2] at hst;simp only [cond_true,cond_false] at hst;cases hq:(((x.start != 0)||(x.limit != 0))||(x.nodes != 0)) with
   | true=>rw [hq] at hst;cases hst
   | false =>
    rw [hq] at hst;simp only [cond_false,yea] at hst;have:=hst.1.1;simp [Qz1] at this;omega
  exact ⟨hpr,⟨by omega,by omega⟩,by omega,by omega⟩
theorem claim_eq {x:Job} (hu:U64 x.nodes):QQ1 x=Qvc x:=by
 unfold QQ1 Qvc;rw [job_eq x hu];cases hc:((Qo2 x)!=0) with
 | true=>rfl
 | false =>
  simp only [y3a,cond_false];unfold Q50;rw [Q29];have e:((x.state != 1)||(decide (x.promise<0)))=((x.state != 1)||(x.promise==(-1))):=by
   cases h1:(x.state != 1) with
   | true=>rfl
   | false =>
    simp only [y3a];have hst:=QY7 (j:=x) hc;rw [QI1,show (x.state==1)=true by simpa using h1] at hst;simp only [cond_true] at hst;cases hq:(((x.start != 0)||(x.limit != 0))||(x.nodes != 0)) with
    | true=>rw [hq] at hst;cases hst
    | false =>
     rw [hq] at hst;simp only [cond_false] at hst;cases hp:(x.promise==(-1)) with
     | true =>
      have:x.promise = -1:=by simpa using hp
      rw [this]
      rfl
     | false =>
      rw [hp] at hst;simp only [cond_false,yea] at hst;have:=hst.1.1;simp [Qz1] at this;rw [yGa];omega
  rw [e]
theorem left_g3 (x:Job):∀ (l:List Int) (b:Bool) (k:Nat),(Qs6 x l b k).1=(b||l.any (fun e=>x.id==e))
 | [],b,k=>by simp [Qs6]
 | e :: r,b,k=>by
  rw [Qs6,left_g3 x r _ (k+1),y6b,Bool.or_assoc]
  congr 2
  rw [yMa,beq_iff_eq,beq_iff_eq];exact eq_comm
theorem books_rp:∀ (l:List Book) (i:Nat) (t:Taken) (p:List Step) (f:Int->Int) (N:Nat) (B:Int),t.p=p->(∀ b ∈ l,BookOk b)->Rp p f N->Bd f B->N+2*l.length<=1000->B+48*l.length<=900000 ->
  (Qg3 l i t).p=(Qm2 l p i).1∧Rp (Qm2 l p i).1 (fun t=>f t - bkAt t l) (N+2*l.length)∧Bd (fun t=>f t - bkAt t l) (B+48*l.length)
 | [],_,t,p,f,N,B,h,_,hp,hb,_,_=>⟨h,by simpa [Qm2,bkAt] using hp,by simpa [bkAt] using hb⟩
 | b :: r,i,t,p,f,N,B,h,hok,hp,hb,hN,hB=>by
  simp only [yja] at hN hB;obtain ⟨b1,b2,b3,b4⟩:=hok b (yqa ..);rw [Qg3,Qm2];obtain ⟨a,c⟩:=QKg hp oA hb oA b.to (f_:=b.from_) (n:=b.nodes) b1 b2 oA;have e:=QGh (t:=t) (by rw [h];exact hp) oA hb oA b.to (f_:=b.from_) (n:=b.nodes) b1 b2 oA;rw [h] at e;obtain ⟨d1,d2,d3⟩:=books_rp r (i+1) _ _ _ (N+2) (B+b.nodes) e (fun z hz=>hok z (yha _ hz)) a c oA oA;have ef:∀ t,f t - (if b.from_<=t∧t<b.to then b.nodes else 0) - bkAt t r=f t - bkAt t (b :: r):=fun t=>by simp only [bkAt];omega
  refine ⟨d1,(d2.le (by simp only [yja];omega)).congr fun t _ _=>ef t,fun t x y=>?_⟩;have:=d3 t x y;simp only [ef t] at this;simp only [yja];omega
theorem jobs_rp (ex:List Int):∀ (l:List Job) (i:Nat) (t:Taken) (p:List Step) (f:Int->Int) (N:Nat) (B:Int),t.p=p->(∀ x ∈ l,Qo2 x=0∧U64 x.nodes)->Rp p f N->Bd f B->N+2*l.length<=1000->B+48*l.length<=900000 ->
  (QP2 ex l i t).p=(QX0 ex l p i).1∧Rp (QX0 ex l p i).1 (fun t=>f t - clsAt ex t l) (N+2*l.length)
 | [],_,t,p,f,N,B,h,_,hp,_,_,_=>⟨h,by simpa [QX0,clsAt] using hp⟩
 | x :: r,i,t,p,f,N,B,h,hok,hp,hb,hN,hB=>by
  simp only [yja] at hN hB;obtain ⟨hx,hu⟩:=hok x (yqa ..);have hr:∀ y ∈ r,Qo2 y=0∧U64 y.nodes:=fun y hy=>hok y (yha _ hy)
  have hcl:QQ1 x=Q50 x:=by
   rw [claim_eq hu];unfold Qvc;rw [hx]
   rfl
  obtain ⟨c1,c2,c3⟩:=claimed_ok hx;have hw:w64 ((Q50 x).1+(Q50 x).2.1)=(Q50 x).1+(Q50 x).2.1:=wr oA;rw [QP2,QX0,QYa,hcl,hw];dsimp only;rw [left_g3];simp only [y3a];cases hex:ex.any (fun e=>x.id==e) with
  | true =>
   simp only [yib,cond_false,Bool.and_false];obtain ⟨d1,d2⟩:=jobs_rp ex r (i+1) t p f N B h hr hp hb oA oA;refine ⟨d1,(d2.le (by simp only [yja];omega)).congr fun t _ _=>?_⟩;simp only [clsAt,hex,if_true];omega
  | false =>
   simp only [yJb,cond_true,Bool.and_true];cases hc:(Q50 x).2.2.2 with
   | false =>
    simp only [cond_false];obtain ⟨d1,d2⟩:=jobs_rp ex r (i+1) t p f N B h hr hp hb oA oA;refine ⟨d1,(d2.le (by simp only [yja];omega)).congr fun t _ _=>?_⟩;simp only [clsAt,hex,clAt,hc,y1a,false_and,if_false];omega
   | true =>
    simp only [cond_true];obtain ⟨a,c⟩:=QKg hp oA hb oA ((Q50 x).1+(Q50 x).2.1) (f_:=(Q50 x).1) (n:=(Q50 x).2.2.1) c1.1 c1.2 oA;have e:=QGh (t:=t) (by rw [h];exact hp) oA hb oA ((Q50 x).1+(Q50 x).2.1) (f_:=(Q50 x).1) (n:=(Q50 x).2.2.1) c1.1 c1.2 oA;rw [h] at e;obtain ⟨d1,d2⟩:=jobs_rp ex r (i+1) _ _ _ (N+2) (B+(Q50 x).2.2.1) e hr a c oA oA;refine ⟨d1,(d2.le (by simp only [yja];omega)).congr fun t _ _=>?_⟩;simp only [clsAt,hex,clAt,hc,y1a,if_false,true_and];omega
def leftAt (s:State) (ex:List Int) (t:Int):Int:=Qvg s t - bkAt t s.books - clsAt ex t s.jobs
theorem room_rp {s:State} (hs:s.sz) (hn:∀ x ∈ s.jobs,U64 x.nodes) (hc:QH1 s=0) (ex:List Int):Qu5 s ex=Q49 s ex∧Rp (Qu5 s ex) (leftAt s ex) 200:=by
 obtain ⟨_,hf,ht,hbk⟩:=room_parts hc;obtain ⟨hj40,hjs,hp⟩:=QG4 ht;have hl:=(QC8 (s:=s) (by rw [hc];rfl)).2;have hbk':Q08 s.books=0:=by rw [← QPc s.books hs.2.2.2.2.1];exact hbk
 obtain ⟨hb8,hbo⟩:=books_ok s.books 0 0 oA hbk';have hbusy:Qq3 s=Q05 s:=(busy_rp hc).uniq (Qeh hl);have hjo:∀ x ∈ s.jobs,Qo2 x=0∧U64 x.nodes:=fun x hx=>⟨by rw [← job_eq x (hn x hx)];exact hjs x hx,hn x hx⟩
 obtain ⟨a,b,c⟩:=books_rp s.books 0 ⟨Qq3 s⟩ (Q05 s) (Qvg s) 97 48 hbusy hbo (Qeh hl) (freeAt_bd s hl) oA oA;obtain ⟨d,e⟩:=jobs_rp ex s.jobs 0 (Qg3 s.books 0 ⟨Qq3 s⟩) _ _ _ _ a hjo b c oA oA;have e1:Qu5 s ex=(QP2 ex s.jobs 0 (Qg3 s.books 0 ⟨Qq3 s⟩)).p:=rfl;have e2:Q49 s ex=(QX0 ex s.jobs (Qm2 s.books (Q05 s) 0).1 0).1:=rfl;refine ⟨by rw [e1,e2,d],?_⟩;rw [e1,d];exact e.le oA
theorem room_eq2 {s:State} (hs:s.sz) (hn:∀ x ∈ s.jobs,U64 x.nodes) (ex:List Int):Qu5 s ex=Qt6 s ex:=by
 have hc:=room_eq s hs hn;unfold Qt6;rw [← hc];cases h:((QH1 s)!=0) with
 | true =>
  have hb:(Qq3 s).length=0:=by
   unfold Qq3;rw [h]
   rfl
  exact QHd hb
 | false=>exact (room_rp hs hn (by simpa using h) ex).1
theorem pv_at {t:Int}:∀ (k:Nat) (x:Step) (r:List Step) (f:Int),k<=r.length->Srt x.at_ r->((x :: r).getD k zE).at_<=t->(k+1<(x :: r).length->t<((x :: r).getD (k+1) zE).at_)->pv f (x :: r) t=((x :: r).getD k zE).free
 | 0,x,[],f,_,_,h,_=>by
  have h':x.at_<=t:=h;simp [pv,h']
 | 0,x,z :: r,f,_,hs,h,h2=>by
  have h':x.at_<=t:=h;have h3:t<z.at_:=h2 (by simp);show (if x.at_<=t then pv x.free (z :: r) t else pv f (z :: r) t)=x.free;rw [if_pos h'];exact Qy1 (a:=t) ⟨h3,hs.2⟩ (yUa _)
 | k+1,x,[],f,hk,_,_,_=>by simp at hk
 | k+1,x,z :: r,f,hk,hs,h,h2=>by
  have hk':k<=r.length:=by simpa using hk
  have hz:=Srt.get r z k hs.2.2 hk';have h1:((z :: r).getD k zE).at_<=t:=h;have hx:=hs.1;show (if x.at_<=t then pv x.free (z :: r) t else pv f (z :: r) t)=_;rw [if_pos oA,pv_at k z r x.free hk' hs.2.2 h1 (fun hl=>h2 (by simp at hl ⊢;omega))]
  rfl
theorem Qth (a b n:Int):∀ (l:List Step) (out:Int) (i:Nat),n<=(Q63 a b l out i).1 ↔ n<=out ∧ ∀ x ∈ l,a<x.at_->x.at_<b->n<=x.free
 | [],out,i=>by simp [Q63]
 | x :: r,out,i=>by
  rw [Q63];cases hc:(((decide (x.at_ > a))&&(decide (x.at_<b)))&&(decide (x.free<out))) with
  | true =>
   simp only [yea,yfa] at hc;simp only [cond_true];rw [Qth a b n r x.free (i+1)];constructor
   ·rintro ⟨h1,h2⟩;refine ⟨by omega,fun y hy=>?_⟩;rcases List.mem_cons.1 hy with rfl|hy
    ·exact fun _ _=>h1
    ·exact h2 y hy
   ·rintro ⟨h1,h2⟩;exact ⟨h2 x (yqa ..) oA oA,fun y hy=>h2 y (yha _ hy)⟩
  | false =>
   simp only [cond_false];rw [Qth a b n r out (i+1)];constructor
   ·rintro ⟨h1,h2⟩;refine ⟨h1,fun y hy=>?_⟩;rcases List.mem_cons.1 hy with rfl|hy
    ·intro g1 g2;simp only [yOb,yGa] at hc;omega
    ·exact h2 y hy
   ·rintro ⟨h1,h2⟩;exact ⟨h1,fun y hy=>h2 y (yha _ hy)⟩
theorem rleast_iff {p:List Step} (hp:Cn p) {a b:Int} (n:Int) (h0:0<=a) (h1:a<=1000000) (hab:a<b):n<=QV7 p a b ↔ ∀ u,a<=u->u<b->n<=pat p u:=by
 have hc:(((((QW0 p)!=0)||(decide (a<0)))||(decide (a > 1000000)))||(decide (b<=a)))=false:=by
  rw [(Qk8 p).2 hp];simp;omega
 unfold QV7;rw [hc];simp only [cond_false];unfold Qv4;rw [Qth,now_eq];exact least_fit hp.1 a b n h0 hab
theorem Cn.srt {p:List Step} (h:Cn p):Srt (-1) p:=by
 have hp:=h.1;cases p with
 | nil=>exact hp.elim
 | cons x r=>exact ⟨by have:=hp.1;omega,by have:=hp.1;omega,hp.2.1⟩
theorem Srt.drop:∀ {p:List Step} {a:Int} (i:Nat),Srt a p -> ∃ c,a<=c∧Srt c (p.drop i)
 | [],a,i,_=>⟨a,yUa _,by simp [Srt]⟩
 | _ :: _,a,0,h=>⟨a,yUa _,h⟩
 | x :: r,a,i+1,h=>by
  obtain ⟨c,h1,h2⟩:=Srt.drop i h.2.2;exact ⟨c,by have:=h.1;omega,h2⟩
theorem pleast_g1 {p:List Step} (hs:Srt (-1) p) (hl:p.length<=1000) (b n:Int):∀ (m i:Nat) (k:Int),p.length - i<m->i<=p.length->(n<=(Ql3 p b m (i:Int) k).2 ↔ n<=k ∧ ∀ x ∈ p.drop i,x.at_<b->n<=x.free)
 | 0,_,_,h,_=>absurd h oA
 | m+1,i,k,hm,hi=>by
  rw [Ql3];rcases yoa i p.length with hlt|hge
  ·have hd:=Qa0 zE hlt;obtain ⟨c,_,hc⟩:=Srt.drop i hs;rw [hd] at hc;have hw:w64 ((i:Int)+1)=((i+1:Nat):Int):=wr oA;rw [show decide ((i:Int)<(p.length:Int))=true from yga oA,yIb,yna,hw,hd];cases hb:decide ((p.getD i zE).at_<b) with
   | true =>
    have hb:=yda hb;simp only [cond_true];rw [pleast_g1 hs hl b n m (i+1) _ oA oA];constructor
    ·rintro ⟨h1,h2⟩;refine ⟨by omega,fun y hy=>?_⟩;rcases List.mem_cons.1 hy with rfl|hy
     ·intro _;omega
     ·exact h2 y hy
    ·rintro ⟨h1,h2⟩;have:=h2 _ (yqa ..) hb;exact ⟨by omega,fun y hy=>h2 y (yha _ hy)⟩
   | false =>
    have hb:=yca hb;simp only [cond_false];constructor
    ·intro h1;refine ⟨h1,fun y hy hyb=>?_⟩;rcases List.mem_cons.1 hy with rfl|hy
     ·exact absurd hyb hb
     ·have:=(QZg (f:=0) hc.2.2 y hy).1;omega
    ·exact fun h=>h.1
  ·rw [show decide ((i:Int)<(p.length:Int))=false from yka oA,yHb,ykb hge];simp
theorem pleast_iff {p:List Step} (hp:Cn p) {a b:Int} (n:Int) (h0:0<=a) (h1:a<=1000000) (hab:a<b):n<=Qo6 p a b ↔ ∀ u,a<=u->u<b->n<=pat p u:=by
 have hc:((((Q42 p)!=0)||(!(QW2 a)))||(decide (b<=a)))=false:=by
  rw [Qs8,(Qk8 p).2 hp];simp [QW2];omega
 obtain ⟨k,hk,hkl,hka,hkn⟩:=place_spec hp h0;have hl:=hp.2.1;have hw:w64 ((k:Int)+1)=((k+1:Nat):Int):=wr oA;unfold Qo6;rw [hc];simp only [cond_false];unfold Q94;rw [hk,hw,yna,pleast_g1 hp.srt hl b n _ _ _ oA oA,← least_fit hp.1 a b n h0 hab];have hpa:pat p a=(p.getD k zE).free:=by
  have hcan:=hp.1;cases p with
  | nil=>exact hcan.elim
  | cons x r =>
   show pv 0 (x :: r) a=_;exact pv_at k x r 0 (by simp at hkl;omega) hcan.2.1 hka (fun h=>hkn h)
 rw [hpa];refine and_congr Iff.rfl ?_;obtain ⟨c,_,hcs⟩:=Srt.drop k hp.srt;rw [Qa0 zE hkl] at hcs;constructor
 ·intro h x hx ha hb;have hx2:x ∈ p.take (k+1)++p.drop (k+1):=by rw [yLb];exact hx
  rcases List.mem_append.1 hx2 with hx2|hx2
  ·obtain ⟨j,hj,e⟩:=yGb hx2;have hj':j<k+1:=by simp at hj;omega
   have hjp:j<p.length:=by omega
   have e2:p[j]=x:=by rw [← e,List.getElem_take]
   have hle:x.at_<=a:=by
    rcases yoa j k with hjk|hjk
    ·obtain ⟨c2,_,hs2⟩:=Srt.drop j hp.srt;rw [Qa0 zE hjp] at hs2;have hm:p.getD k zE ∈ p.drop (j+1):=by
      have:p.getD k zE=(p.drop (j+1))[k - (j+1)]'(by simp;omega):=by
       rw [List.getElem_drop,yTa,yaa hkl];simp only [yEa]
       congr 1
       omega
      rw [this];exact yZa _
     have:=(QZg (f:=0) hs2.2.2 _ hm).1;rw [yTa,yaa hjp,yEa,e2] at this;omega
    ·have:j=k:=by omega
     subst this;rw [yTa,yaa hjp,yEa,e2] at hka;exact hka
   omega
  ·exact h x hx2 hb
 ·intro h x hx hb;refine h x (yVa hx) ?_ hb;have hx':a<x.at_:=by
   rcases yoa (k+1) p.length with hlt|hge
   ·have hn:=hkn hlt;rw [Qa0 zE hlt] at hx;have hs3:=hcs.2.2;rw [Qa0 zE hlt] at hs3;rcases List.mem_cons.1 hx with rfl|hx
    ·exact hn
    ·have:=(QZg (f:=0) hs3.2.2 x hx).1;omega
   ·rw [ykb hge] at hx;cases hx
  exact hx'
theorem least_eq {p:List Step} (hp:Cn p) {a b:Int} (h0:0<=a) (h1:a<=1000000) (hab:a<b):Qo6 p a b=QV7 p a b :=
 Int.le_antisymm ((rleast_iff hp _ h0 h1 hab).2 ((pleast_iff hp _ h0 h1 hab).1 (yUa _))) ((pleast_iff hp _ h0 h1 hab).2 ((rleast_iff hp _ h0 h1 hab).1 (yUa _)))
theorem asks_iff (long n:Int):Qpa long n=true ↔ (1<=n∧n<=1000000)∧1<=long∧long<=1000000:=by
 simp [Qpa,Qw5]
theorem rfits_no {p:List Step} {long n:Int} (h:QW0 p ≠ 0∨Qpa long n=false) (t:Int):QW7 p t long n=false:=by
 unfold QW7;have:((((((((QW0 p)!=0)||(decide (n<1)))||(decide (n > 1000000)))||(decide (long<1)))||(decide (long > 1000000)))||(decide (t<0)))||(decide (t > (w64 (1000000 - long)))))=true:=by
  rcases h with h|h
  ·simp [h]
  ·have h':¬ ((1<=n∧n<=1000000)∧1<=long∧long<=1000000):=fun g=>by rw [(asks_iff long n).2 g] at h;cases h
   simp;omega
 rw [this]
 rfl
theorem fits_eq (p:List Step) (t long n:Int):Qoa p t long n=QW7 p t long n:=by
 by_cases hc:QW0 p=0
 ·have hp:=(Qk8 p).1 hc;cases ha:Qpa long n with
  | false =>
   rw [rfits_no (.inr ha)];unfold Qoa;rw [ha];simp
  | true =>
   obtain ⟨h1,h2⟩:=(asks_iff long n).1 ha;have hw:w64 (1000000 - long)=1000000 - long:=wr oA;unfold Qoa QW7;rw [Qs8,hc,ha,hw];cases hq:Qw5 t 0 (1000000 - long) with
   | false =>
    have:(((((((((0:Int)!=0)||(decide (n<1)))||(decide (n > 1000000)))||(decide (long<1)))||(decide (long > 1000000)))||(decide (t<0)))||(decide (t > 1000000 - long))))=true:=by
     simp [Qw5] at hq;simp;omega
    rw [this]
    rfl
   | true =>
    have:(((((((((0:Int)!=0)||(decide (n<1)))||(decide (n > 1000000)))||(decide (long<1)))||(decide (long > 1000000)))||(decide (t<0)))||(decide (t > 1000000 - long))))=false:=by
     simp [Qw5] at hq;simp;omega
    rw [this];simp [Qw5] at hq;have hw2:w64 (t+long)=t+long:=wr oA;rw [hw2,least_eq hp oA oA oA]
    rfl
 ·rw [rfits_no (.inl hc)];unfold Qoa;rw [Qs8];simp [hc]
end Go.Proofs.YtackngeeehiegaaGreatDoor
namespace Go.Fw
set_option linter.unusedSimpArgs false
set_option linter.unusedVariables false
open Go.RowKit Go.ChangeShapes Go.WideShapes Go.Deep
theorem QHg {C:Checked} {os:Os} {f:FuncId} {fn:Func} {s:ChangeSpec} {laid0:List (String × DataW Unit)} {conds:List PathCond} {apart fresh handsOn again:Bool} {H:Type} {enc:TypeId × Value->H} {Q:List AVal->Prop} {tb:TypeId}
  (own:ownKnob C.prog.godebug=none) (started:os.Started) (noInit:C.prog.inits.idxOf? f=none) (hfn:C.prog.funcs[f]? = some fn)
  (witness:∃ (w:World) (tape:Tape) (i:Input),w.os=os∧(w.forCall tape i).Shaped C.prog∧i.vars=[]∧Input.okWide C.prog (w.forCall tape i) .any w.heap.size f i ∧
   ((s.pre enc C.prog fn conds apart (w.forCall tape i).memory i.args∧laidMetH C.prog laid0 (w.forCall tape i).memory)∧sizedMet enc C.prog fn (OpenSpec.ofChange s) apart (w.forCall tape i).memory i.args)∧({}:Assume).holds C.prog (lone (Frame.enter C.prog f i.args .normal) [] (w.forCall tape i)))
  (hvars:s.vars=[]) (hres:fn.resultTypes = #[tb]) (hbool:C.prog.underlying tb=some .bool) (laid:laidOutB C.prog=true)
  (hts:fn.params.toList.all (fun t=>C.prog.readableRec t&&decide (t<C.prog.types.size))=true)
  (hspec:∀ ds:List (DataW H),ds.length=fn.params.size->s.fn H ds={ results:=[.lit (.bool true)],args:=ds })
  (hargs:ArgsAs C.prog fn.params.toList Q) (hlaw:∀ l,Q l->AGives C.prog f l [] (.lit (.bool true))) :
  ReturnsInHanded {} C os f .any (fun w args=>(s.pre enc C.prog fn conds apart w args∧laidMetH C.prog laid0 w)∧sizedMet enc C.prog fn (OpenSpec.ofChange s) apart w args) (s.post enc C.prog fn apart fresh handsOn again):=by
 refine returnsInHanded_of_change_and (X:=fun w _=>laidMetH C.prog laid0 w) (fun _ _ _ hh h=>h.of_heap hh) own started noInit hfn witness ?_;intro W base args ds gs before hval hW hcnd _ _ _;have hW':=hW;obtain ⟨p,q,hA,hV,hpq,hfz,hnd⟩:=hW;rw [hvars] at hV;obtain ⟨rfl,rfl⟩:=trodVars_none hV;rw [ySb] at hpq;subst hpq;obtain ⟨l,hQ,hreps⟩:=hargs.read (base:=base) (vs:=args.toList) (fun j t v hj hv=>hval j t v (by simpa using hj) (by simpa using hv)) hA;have hc:=law_calls (hlaw l hQ) hreps;rw [show args.toList.toArray=args by simp] at hc;refine hc.mono fun e W' ⟨he,hb⟩=>?_
 subst he;have hlen:ds.length=fn.params.size:=by
  have:∀ {ts:List TypeId} {vs:List Value} {ds:List (DataW H)} {ps:List MemPlace},DataW.TrodAll enc C.prog W 0 (fun _=>true) true ts vs ds ps->ds.length=ts.length:=by
   intro ts
   induction ts with
   | nil=>intro vs ds ps h;obtain ⟨rfl,rfl,rfl⟩:=trodAll_nil h;rfl
   | cons t ts ih=>intro vs ds ps h;obtain ⟨v,vs',d,ds',p,q,rfl,rfl,rfl,hd,hrest⟩:=trodAll_cons h;simp [ih hrest]
  simpa using this hA
 have hfn2:=hspec ds hlen;have hold:∀ p ∈ before,p.block<W.heap.size:=fun p hp=>by simpa using hW'.lt p hp
 have hR:∀ (b:Nat) (sp:Nat->Bool) (hd:Bool),DataW.TrodAll enc C.prog W' b sp hd fn.resultTypes.toList ((Value.bool true).resultList fn.resultTypes.size) (s.fn H (ds++[])).results []:=by
  intro b sp hd;rw [ySb,hfn2,hres];exact trodAll_cons_mk (shut_bool hbool _) trodAll_mk0
 have hAr:∀ sp:Nat->Bool,(∀ p ∈ before,sp p.block=true)->DataW.TrodAll enc C.prog W' 0 sp true fn.params.toList args.toList (s.fn H (ds++[])).args before:=by
  intro sp hsp;rw [ySb,hfn2];exact Q0e laid hb hts hA hold hsp
 have hVr:∀ sp:Nat->Bool,DataW.TrodVars enc C.prog W' sp s.vars (s.fn H (ds++[])).vars []:=by
  intro sp;rw [ySb,hfn2,hvars]
  rfl
 refine ⟨_,rfl,ds,[],before,[],before,[],hW',hR _ _ _,hAr _ (fun p hp=>by simpa using hold p hp),hVr _,hb.frame _,fun _=>⟨ok_one hres rfl (okWide_bool_mk hbool _),_,_,([]++before)++[],⟨[]++before,[],trodAll_append (hAr _ (fun _ _=>rfl)) (hR _ _ _),hVr _,rfl,?_,?_⟩,?_⟩⟩
 ·intro b off hp;have hp:MemPlace.cell b off ∈ before:=by simpa using hp
  rw [hb.frozen (p:=⟨b,off,none⟩) (hold _ hp)];exact hfz b off (by simpa using hp)
 ·intro ha;simpa using hnd ha
 ·intro p hp _;simpa using hp
end Go.Fw
namespace Go.Proofs.YtackngeeehiegaaGreatDoor
set_option linter.unusedSimpArgs false
set_option linter.unusedVariables false
open Go.Fw
set_option maxRecDepth 100000
theorem ty3:Tryz.prog.underlying 47 = some (.int .u64):=by kernel_rfl
theorem ty2:Tryz.prog.underlying 9 = some (.string):=by kernel_rfl
theorem ty1:Tryz.prog.underlying 4 = some (.bool):=by kernel_rfl
theorem ty0:Tryz.prog.underlying 3 = some (.int .i64):=by kernel_rfl
def Node.wf (x:Node):Prop:=(Lit.int .i64 x.state).wf=true∧(Lit.int .i64 x.job).wf=true∧(Lit.int .i64 x.epoch).wf=true∧True∧(Lit.int .i64 x.want).wf=true∧(Lit.int .i64 x.since).wf=true∧(Lit.int .i64 x.asked).wf=true∧True
theorem readNode:ReadAs Tryz.prog 55 Node.cells Node.wf:=by
 have h:=ReadAs.struct (P:=Tryz.prog) (t:=55) rfl (by kernel_rfl) (.cons rfl (ReadAs.int ty0) (.cons rfl (ReadAs.int ty0) (.cons rfl (ReadAs.int ty0) (.cons rfl (ReadAs.bool ty1) (.cons rfl (ReadAs.int ty0) (.cons rfl (ReadAs.int ty0) (.cons rfl (ReadAs.int ty0) .nil)))))));exact h.map (fun p=>(⟨p.1,p.2.1,p.2.2.1,p.2.2.2.1,p.2.2.2.2.1,p.2.2.2.2.2.1,p.2.2.2.2.2.2.1⟩:Node)) (fun _=>rfl) (fun _ h=>h)
theorem readNodes:ReadAs Tryz.prog 22 (fun l=>[nodeL l]) fun l=>l.length<=maxLen ∧ ∀ a ∈ l,Node.wf a :=
 ReadAs.slice zF rfl (by kernel_rfl) (by decide) readNode (fun _=>rfl)
def Alt.wf (x:Alt):Prop:=(Lit.int .i64 x.nodes).wf=true∧(Lit.int .i64 x.wall).wf=true∧True
theorem readAlt:ReadAs Tryz.prog 178 Alt.cells Alt.wf:=by
 have h:=ReadAs.struct (P:=Tryz.prog) (t:=178) rfl (by kernel_rfl) (.cons rfl (ReadAs.int ty0) (.cons rfl (ReadAs.int ty0) .nil));exact h.map (fun p=>(⟨p.1,p.2.1⟩:Alt)) (fun _=>rfl) (fun _ h=>h)
theorem readAlts:ReadAs Tryz.prog 67 (fun l=>[altL l]) fun l=>l.length<=maxLen ∧ ∀ a ∈ l,Alt.wf a :=
 ReadAs.slice zA rfl (by kernel_rfl) (by decide) readAlt (fun _=>rfl)
def Shape.wf (x:Shape):Prop:=(Lit.int .i64 x.kind).wf=true∧(x.alts.length<=maxLen ∧ ∀ a ∈ x.alts,Alt.wf a)∧(Lit.int .i64 x.min).wf=true∧(Lit.int .i64 x.max).wf=true∧(Lit.int .i64 x.wall).wf=true∧True
theorem readShape:ReadAs Tryz.prog 69 Shape.cells Shape.wf:=by
 have h:=ReadAs.struct (P:=Tryz.prog) (t:=69) rfl (by kernel_rfl) (.cons rfl (ReadAs.int ty0) (.cons rfl (readAlts) (.cons rfl (ReadAs.int ty0) (.cons rfl (ReadAs.int ty0) (.cons rfl (ReadAs.int ty0) .nil)))));exact h.map (fun p=>(⟨p.1,p.2.1,p.2.2.1,p.2.2.2.1,p.2.2.2.2.1⟩:Shape)) (fun _=>rfl) (fun _ h=>h)
def Dep.wf (x:Dep):Prop:=(Lit.int .i64 x.how).wf=true∧(Lit.int .i64 x.job).wf=true∧True
theorem readDep:ReadAs Tryz.prog 191 Dep.cells Dep.wf:=by
 have h:=ReadAs.struct (P:=Tryz.prog) (t:=191) rfl (by kernel_rfl) (.cons rfl (ReadAs.int ty0) (.cons rfl (ReadAs.int ty0) .nil));exact h.map (fun p=>(⟨p.1,p.2.1⟩:Dep)) (fun _=>rfl) (fun _ h=>h)
theorem readDeps:ReadAs Tryz.prog 70 (fun l=>[depL l]) fun l=>l.length<=maxLen ∧ ∀ a ∈ l,Dep.wf a :=
 ReadAs.slice zC rfl (by kernel_rfl) (by decide) readDep (fun _=>rfl)
def Job.wf (x:Job):Prop:=(Lit.int .i64 x.id).wf=true∧x.name.size<=maxLen∧x.user.size<=maxLen∧x.account.size<=maxLen∧Shape.wf x.shape∧(Lit.int .i64 x.prio).wf=true∧(x.after.length<=maxLen ∧ ∀ a ∈ x.after,Dep.wf a)∧(Lit.int .i64 x.state).wf=true∧True∧(Lit.int .i64 x.born).wf=true∧(Lit.int .i64 x.promise).wf=true∧(Lit.int .i64 x.choice).wf=true∧(Lit.int .i64 x.start).wf=true∧(Lit.int .i64 x.limit).wf=true∧(Lit.int .u64 x.nodes).wf=true∧(Lit.int .i64 x.used).wf=true∧True
theorem readJob:ReadAs Tryz.prog 72 Job.cells Job.wf:=by
 have h:=ReadAs.struct (P:=Tryz.prog) (t:=72) rfl (by kernel_rfl) (.cons rfl (ReadAs.int ty0) (.cons rfl (ReadAs.string ty2) (.cons rfl (ReadAs.string ty2) (.cons rfl (ReadAs.string ty2) (.cons rfl (readShape) (.cons rfl (ReadAs.int ty0) (.cons rfl (readDeps) (.cons rfl (ReadAs.int ty0) (.cons rfl (ReadAs.bool ty1) (.cons rfl (ReadAs.int ty0) (.cons rfl (ReadAs.int ty0) (.cons rfl (ReadAs.int ty0) (.cons rfl (ReadAs.int ty0) (.cons rfl (ReadAs.int ty0) (.cons rfl (ReadAs.int ty3) (.cons rfl (ReadAs.int ty0) .nil))))))))))))))));exact h.map (fun p=>(⟨p.1,p.2.1,p.2.2.1,p.2.2.2.1,p.2.2.2.2.1,p.2.2.2.2.2.1,p.2.2.2.2.2.2.1,p.2.2.2.2.2.2.2.1,p.2.2.2.2.2.2.2.2.1,p.2.2.2.2.2.2.2.2.2.1,p.2.2.2.2.2.2.2.2.2.2.1,p.2.2.2.2.2.2.2.2.2.2.2.1,p.2.2.2.2.2.2.2.2.2.2.2.2.1,p.2.2.2.2.2.2.2.2.2.2.2.2.2.1,p.2.2.2.2.2.2.2.2.2.2.2.2.2.2.1,p.2.2.2.2.2.2.2.2.2.2.2.2.2.2.2.1⟩:Job)) (fun _=>rfl) (fun _ h=>h)
theorem readJobs:ReadAs Tryz.prog 23 (fun l=>[jobL l]) fun l=>l.length<=maxLen ∧ ∀ a ∈ l,Job.wf a :=
 ReadAs.slice zG rfl (by kernel_rfl) (by decide) readJob (fun _=>rfl)
def Resize.wf (x:Resize):Prop:=(Lit.int .i64 x.job).wf=true∧True∧(Lit.int .u64 x.nodes).wf=true∧(Lit.int .u64 x.said).wf=true∧(Lit.int .i64 x.since).wf=true∧True
theorem readResize:ReadAs Tryz.prog 49 Resize.cells Resize.wf:=by
 have h:=ReadAs.struct (P:=Tryz.prog) (t:=49) rfl (by kernel_rfl) (.cons rfl (ReadAs.int ty0) (.cons rfl (ReadAs.bool ty1) (.cons rfl (ReadAs.int ty3) (.cons rfl (ReadAs.int ty3) (.cons rfl (ReadAs.int ty0) .nil)))));exact h.map (fun p=>(⟨p.1,p.2.1,p.2.2.1,p.2.2.2.1,p.2.2.2.2.1⟩:Resize)) (fun _=>rfl) (fun _ h=>h)
theorem readResizes:ReadAs Tryz.prog 24 (fun l=>[QA1 l]) fun l=>l.length<=maxLen ∧ ∀ a ∈ l,Resize.wf a :=
 ReadAs.slice zH rfl (by kernel_rfl) (by decide) readResize (fun _=>rfl)
def Book.wf (x:Book):Prop:=(Lit.int .i64 x.id).wf=true∧(Lit.int .i64 x.from_).wf=true∧(Lit.int .i64 x.to).wf=true∧(Lit.int .i64 x.nodes).wf=true∧True
theorem readBook:ReadAs Tryz.prog 122 Book.cells Book.wf:=by
 have h:=ReadAs.struct (P:=Tryz.prog) (t:=122) rfl (by kernel_rfl) (.cons rfl (ReadAs.int ty0) (.cons rfl (ReadAs.int ty0) (.cons rfl (ReadAs.int ty0) (.cons rfl (ReadAs.int ty0) .nil))));exact h.map (fun p=>(⟨p.1,p.2.1,p.2.2.1,p.2.2.2.1⟩:Book)) (fun _=>rfl) (fun _ h=>h)
theorem readBooks:ReadAs Tryz.prog 25 (fun l=>[bookL l]) fun l=>l.length<=maxLen ∧ ∀ a ∈ l,Book.wf a :=
 ReadAs.slice zI rfl (by kernel_rfl) (by decide) readBook (fun _=>rfl)
def Usage.wf (x:Usage):Prop:=x.user.size<=maxLen∧x.account.size<=maxLen∧(Lit.int .i64 x.used).wf=true∧(Lit.int .i64 x.share).wf=true∧True
theorem readUsage:ReadAs Tryz.prog 138 Usage.cells Usage.wf:=by
 have h:=ReadAs.struct (P:=Tryz.prog) (t:=138) rfl (by kernel_rfl) (.cons rfl (ReadAs.string ty2) (.cons rfl (ReadAs.string ty2) (.cons rfl (ReadAs.int ty0) (.cons rfl (ReadAs.int ty0) .nil))));exact h.map (fun p=>(⟨p.1,p.2.1,p.2.2.1,p.2.2.2.1⟩:Usage)) (fun _=>rfl) (fun _ h=>h)
theorem readUsages:ReadAs Tryz.prog 26 (fun l=>[QI2 l]) fun l=>l.length<=maxLen ∧ ∀ a ∈ l,Usage.wf a :=
 ReadAs.slice zJ rfl (by kernel_rfl) (by decide) readUsage (fun _=>rfl)
def State.wf (x:State):Prop:=(Lit.int .i64 x.now).wf=true∧(x.nodes.length<=maxLen ∧ ∀ a ∈ x.nodes,Node.wf a)∧(x.jobs.length<=maxLen ∧ ∀ a ∈ x.jobs,Job.wf a)∧(x.resizes.length<=maxLen ∧ ∀ a ∈ x.resizes,Resize.wf a)∧(x.books.length<=maxLen ∧ ∀ a ∈ x.books,Book.wf a)∧(x.ledger.length<=maxLen ∧ ∀ a ∈ x.ledger,Usage.wf a)∧(Lit.int .i64 x.nextJob).wf=true∧(Lit.int .i64 x.nextBook).wf=true∧True
theorem readState:ReadAs Tryz.prog 28 State.cells State.wf:=by
 have h:=ReadAs.struct (P:=Tryz.prog) (t:=28) rfl (by kernel_rfl) (.cons rfl (ReadAs.int ty0) (.cons rfl (readNodes) (.cons rfl (readJobs) (.cons rfl (readResizes) (.cons rfl (readBooks) (.cons rfl (readUsages) (.cons rfl (ReadAs.int ty0) (.cons rfl (ReadAs.int ty0) .nil))))))));exact h.map (fun p=>(⟨p.1,p.2.1,p.2.2.1,p.2.2.2.1,p.2.2.2.2.1,p.2.2.2.2.2.1,p.2.2.2.2.2.2.1,p.2.2.2.2.2.2.2.1⟩:State)) (fun _=>rfl) (fun _ h=>h)
end Go.Proofs.YtackngeeehiegaaGreatDoor
namespace Go.Proofs.YtackngeeehiegaaGreatDoor
set_option linter.unusedSimpArgs false
set_option linter.unusedVariables false
open Go.Fw
theorem Shape.wf_szM {x:Shape} (h:x.wf):x.szM:=h.2.1.1
theorem Job.wf_szM {x:Job} (h:x.wf):x.szM:=⟨h.2.1,h.2.2.1,h.2.2.2.1,Shape.wf_szM h.2.2.2.2.1,h.2.2.2.2.2.2.1.1⟩
theorem Usage.wf_szM {x:Usage} (h:x.wf):x.szM:=⟨h.1,h.2.1⟩
theorem State.wf_szM {x:State} (h:x.wf):x.szM :=
 ⟨h.2.1.1,h.2.2.1.1,fun y hy=>Job.wf_szM (h.2.2.1.2 y hy),h.2.2.2.1.1,h.2.2.2.2.1.1,h.2.2.2.2.2.1.1,fun y hy=>Usage.wf_szM (h.2.2.2.2.2.1.2 y hy)⟩
theorem wf_u64 {n:Int} (h:(Lit.int .u64 n).wf=true):U64 n:=by
 unfold Lit.wf at h;simp only [yea,yfa] at h;have e1:IntKind.u64.min=0:=by decide
 have e2:IntKind.u64.max=18446744073709551615:=by decide
 rw [e1,e2] at h;unfold U64;omega
theorem Job.wf_u64 {x:Job} (h:x.wf):U64 x.nodes:=by
 unfold Job.wf at h;exact Go.Proofs.YtackngeeehiegaaGreatDoor.wf_u64 h.2.2.2.2.2.2.2.2.2.2.2.2.2.2.1
section
variable {s:State}
end
def WU (s:State):Prop:=(∀ x ∈ s.jobs,U64 x.nodes) ∧ ∀ r ∈ s.resizes,U64 r.nodes∧U64 r.said
theorem WU.words {s:State} (h:WU s) (hz:s.sz):Words s:=⟨hz,h.1,fun r hr=>(h.2 r hr).1,fun r hr=>(h.2 r hr).2⟩
theorem WU.wf {s:State} (h:s.wf):WU s:=⟨fun x hx=>Job.wf_u64 (h.2.2.1.2 x hx),fun r hr=>by
 have:=h.2.2.2.1.2 r hr;unfold Resize.wf at this
 exact ⟨wf_u64 this.2.2.1,wf_u64 this.2.2.2.1⟩⟩
def ResP (s:State) (r:Resize) (j:Job):Prop:=BaseP r j∧SubP r∧QuiP s r∧(if r.grow=true then AskP s r 2∧SameP s r∧GrowP r j else AskP s r 4∧InP r j∧ShrP r j)
def HeldP (s:State) (j:Job):Prop:=∀ k,tb j.nodes k=true ↔ (k<s.nodes.length∧(s.nodes.getD k zF).job=j.id∧(s.nodes.getD k zF).state=1)
structure NodeP (s:State) (k:Nat):Prop where
 runs:(s.nodes.getD k zF).state=1∨(s.nodes.getD k zF).state=2 -> ∃ j ∈ s.jobs,j.state=2∧j.id=(s.nodes.getD k zF).job
 moved:(s.nodes.getD k zF).state=2∨(s.nodes.getD k zF).want=4 -> ∃ r ∈ s.resizes,r.job=(s.nodes.getD k zF).job∧tb r.nodes k=true
 going:(s.nodes.getD k zF).state=3->(s.nodes.getD k zF).job<s.nextJob
structure Good (s:State):Prop where
 plan:QL2 s=0
 nextJ:Qp1 s.nextJob (QR1 s.jobs 0 0)=true
 nextB:Qp1 s.nextBook (QS1 s.books 0 0)=true
 sorted:s.resizes.Pairwise (fun a b=>a.job<b.job)
 res:∀ r ∈ s.resizes,∃ j ∈ s.jobs,j.state=2∧j.id=r.job∧ResP s r j
 node:∀ k,k<s.nodes.length->NodeP s k
 held:∀ j ∈ s.jobs,j.state=2->HeldP s j
theorem QGd:∀ (l:List Resize) (i:Nat) (r:Resize),r ∈ l->l.Pairwise (fun a b=>a.job<b.job)->Q24 r.job l i=r
 | [],_,_,h,_=>nomatch h
 | x :: t,i,r,h,hp=>by
  obtain ⟨h1,h2⟩:=List.pairwise_cons.1 hp;rw [Q24];rcases List.mem_cons.1 h with rfl|h
  ·simp
  ·have:=h1 r h;rw [beq_eq_false_iff_ne.2 oA];exact QGd t (i+1) r h h2
theorem rof_none:∀ (l:List Resize) (i:Nat) (id:Int),(∀ x ∈ l,x.job ≠ id)->Q24 id l i=zH
 | [],_,_,_=>rfl
 | x :: t,i,id,h=>by
  rw [Q24,beq_eq_false_iff_ne.2 (h x (yqa ..))];exact rof_none t (i+1) id fun y hy=>h y (yha _ hy)
theorem rof_has {s:State} (hs:s.resizes.Pairwise (fun a b=>a.job<b.job)) (hu:∀ r ∈ s.resizes,U64 r.nodes) (id:Int) {k:Nat} (hk:k<64):Q62 (QU5 s id).nodes (k:Int)=true ↔ ∃ r ∈ s.resizes,r.job=id∧tb r.nodes k=true:=by
 unfold QU5
 by_cases h:∃ r ∈ s.resizes,r.job=id
 ·obtain ⟨r,hr,rfl⟩:=h;rw [QGd _ _ r hr hs,Q4c (hu r hr) hk];refine ⟨fun h=>⟨r,hr,rfl,h⟩,fun ⟨q,hq,e,h⟩=>?_⟩;have e1:=QGd _ 0 r hr hs;have e2:=QGd _ 0 q hq hs;rw [e] at e2;rw [← e1,e2];exact h
 ·rw [rof_none _ _ id fun x hx e=>h ⟨x,hx,e⟩];rw [Q4c (s:=zH.nodes) .zero hk];refine ⟨fun h=>?_,fun ⟨r,hr,e,_⟩=>absurd ⟨r,hr,e⟩ h⟩;simp [zH,tb] at h
theorem QN6 {α:Type} {l:List α} {k:Nat} {d:α} (h:k<l.length):l.getD k d ∈ l:=by
 rw [List.getD,yaa h];exact yZa _
theorem Qsd {α:Type} {l:List α} {x:α} (d:α) (h:x ∈ l):∃ k,k<l.length∧l.getD k d=x:=by
 obtain ⟨k,hk⟩:=ylb h;exact ⟨k,(List.getElem?_eq_some_iff.1 hk).1,by rw [List.getD,hk];rfl⟩
theorem job_one {l:List Job} (hp:l.Pairwise (fun a b=>a.id<b.id)) {x y:Job} (hx:x ∈ l) (hy:y ∈ l) (e:x.id=y.id):x=y:=by
 obtain ⟨p,hp1⟩:=ylb hx;obtain ⟨q,hq1⟩:=ylb hy;rcases yob p q with h|h|h
 ·have:=Qa7 hp p q x y h hp1 hq1;omega
 ·subst h;rw [hp1] at hq1;exact Option.some.inj hq1
 ·have:=Qa7 hp q p y x h hq1 hp1;omega
theorem runs_iff {s:State} (hp:s.jobs.Pairwise (fun a b=>a.id<b.id)) (id:Int):(Q70 s id).2=true ↔ ∃ j ∈ s.jobs,j.state=2∧j.id=id:=by
 by_cases h:∃ x ∈ s.jobs,x.id=id
 ·obtain ⟨x,hx,rfl⟩:=h;rw [QUb hp hx]
  by_cases hs:x.state=2
  ·rw [if_pos hs];exact ⟨fun _=>⟨x,hx,hs,rfl⟩,fun _=>rfl⟩
  ·rw [if_neg hs];exact ⟨(fun h=>nomatch h),fun ⟨y,hy,h2,e⟩=>absurd (job_one hp hy hx e ▸ h2) hs⟩
 ·rw [Q4g _ fun x hx e=>h ⟨x,hx,e⟩];exact ⟨(fun h=>nomatch h),fun ⟨y,hy,_,e⟩=>absurd ⟨y,hy,e⟩ h⟩
theorem held_bits {s:State} (hf:Q80 s.nodes=0) {x:Job} (hu:U64 x.nodes):Qx7 s.nodes x.id 1=x.nodes ↔ HeldP s x:=by
 have hl:s.nodes.length<=64:=by have:=(QZa hf).1;omega
 obtain ⟨u,b⟩:=Q74 s.nodes (fun (y:Node)=>((y.job==x.id)&&(y.state==1))) hf hl;rw [← of_eq];unfold Ql7 HeldP;constructor
 ·intro h k;rw [← h,b];simp
 ·intro h;refine QZd u hu fun k _=>?_
  rw [b,yMa,h k];simp
theorem pw_iff {l:List Resize} (hl:l.length<=4294967296):(∀ k,k<l.length->(((k:Int)==0)||(decide ((l.getD ((w64 ((k:Int) - 1)).toNat) zH).job<(l.getD k zH).job)))=true) ↔ l.Pairwise (fun a b=>a.job<b.job):=by
 have hstep:(∀ k,k<l.length->(((k:Int)==0)||(decide ((l.getD ((w64 ((k:Int) - 1)).toNat) zH).job<(l.getD k zH).job)))=true) ↔ ∀ k,k+1<l.length->(l.getD k zH).job<(l.getD (k+1) zH).job:=by
  constructor
  ·intro h k hk;have hk':=h (k+1) hk;have hw:w64 (((k+1:Nat):Int) - 1)=(k:Int):=by
    have:=wr (n:=((k+1:Nat):Int) - 1) oA;show IntKind.i64.wrap _=_;rw [this];omega
   rw [hw,yna] at hk';have hne:(((k+1:Nat):Int)==0)=false:=by simp;omega
   rw [hne,y3a,yfa] at hk';exact hk'
  ·intro h k hk;rcases k with _|k
   ·rfl
   ·have hw:w64 (((k+1:Nat):Int) - 1)=(k:Int):=by
     have:=wr (n:=((k+1:Nat):Int) - 1) oA;show IntKind.i64.wrap _=_;rw [this];omega
    rw [hw,yna,yga (h k hk),Bool.or_true]
 rw [hstep];constructor
 ·intro h;rw [List.pairwise_iff_getElem];have hmono:∀ (d a:Nat),a+d+1<l.length->(l.getD a zH).job<(l.getD (a+d+1) zH).job:=by
   intro d
   induction d with
   | zero=>intro a ha;exact h a ha
   | succ d ih =>
    intro a ha;have h1:=ih a oA;have h2:=h (a+d+1) oA;have:a+(d+1)+1=a+d+1+1:=by omega
    rw [this];omega
  intro a b ha hb hab;have:=hmono (b - a - 1) a oA;have e2:a+(b - a - 1)+1=b:=by omega
  rw [e2] at this;have g1:l.getD a zH=l[a]:=by rw [List.getD,yaa ha];rfl
  have g2:l.getD b zH=l[b]:=by rw [List.getD,yaa hb];rfl
  rw [g1,g2] at this;exact this
 ·intro h k hk;have:=List.pairwise_iff_getElem.1 h k (k+1) oA hk oA;have g1:l.getD k zH=l[k]:=by rw [List.getD,yaa oA];rfl
  have g2:l.getD (k+1) zH=l[k+1]:=by rw [List.getD,yaa hk];rfl
  rw [g1,g2];exact this
theorem node_bool (a b c d e f g h:Bool):(bif (((a&&((!b)||(!c)))||(d&&(!b)))||(e&&f)) then false else bif (d||g) then h else true)=true ↔ (a=true->b=true∧c=true)∧(d=true->b=true)∧(e=true->f=false)∧(d=true∨g=true->h=true):=by
 cases a <;> cases b <;> cases c <;> cases d <;> cases e <;> cases f <;> cases g <;> cases h <;> simp
section
variable {s:State}
theorem node_iff (hw:Words s) (hp:s.jobs.Pairwise (fun a b=>a.id<b.id)) (hs:s.resizes.Pairwise (fun a b=>a.job<b.job)) (hl:s.nodes.length<=64) (hh:∀ j ∈ s.jobs,j.state=2->HeldP s j) {k:Nat} (hk:k<s.nodes.length):Qe4 s (k:Int)=true ↔ NodeP s k:=by
 unfold Qe4;rw [yna,node_bool,runs_iff hp,rof_has hs hw.nodes _ (by omega:k<64)];simp only [beq_iff_eq,yGa];constructor
 ·rintro ⟨h1,h2,h3,h4⟩;exact ⟨fun h=>h.elim (fun h=>(h1 h).1) h2,h4,fun h=>by have:=h3 h;omega⟩
 ·rintro ⟨h1,h2,h3⟩;refine ⟨fun h=>?_,fun h=>h1 (.inr h),fun h=>by have:=h3 h;omega,h2⟩;obtain ⟨j,hj,hst,e⟩:=h1 (.inl h);refine ⟨⟨j,hj,hst,e⟩,?_⟩;rw [← e,QUb hp hj,if_pos hst];show Q62 j.nodes (k:Int)=true;rw [Q4c (hw.jobs j hj) oA,hh j hj hst k];exact ⟨hk,e.symm,h⟩
theorem res_run (hw:Words s) (hf:Q80 s.nodes=0) (hp:s.jobs.Pairwise (fun a b=>a.id<b.id)) (hjc:∀ x ∈ s.jobs,Qe1 x=0) (hh:∀ j ∈ s.jobs,j.state=2->HeldP s j) {r:Resize} (hr:r ∈ s.resizes) :
  QU1 s r=true ↔ ∃ j ∈ s.jobs,j.state=2∧j.id=r.job∧ResP s r j:=by
 have hl:s.nodes.length<=64:=by have:=(QZa hf).1;omega
 have key:∀ j ∈ s.jobs,j.state=2->j.id=r.job->(QU1 s r=true ↔ ResP s r j):=by
  intro j hj hst e;have hrun:Q70 s r.job=(j,true):=by rw [← e,QUb hp hj,if_pos hst]
  rw [← resize_eq s r j (hw.nodes r hr) (hw.said r hr) (hw.jobs j hj) hf hrun (hjc j hj) fun k=>by rw [← e];exact hh j hj hst k];exact prog_iff s r j (hw.nodes r hr) (hw.said r hr) (hw.jobs j hj) hf hl
 constructor
 ·intro h;have hrun:(Q70 s r.job).2=true:=by
   cases hq:(Q70 s r.job).2 with
   | true=>rfl
   | false =>
    unfold QU1 at h;rw [hq] at h;cases h
  obtain ⟨j,hj,hst,e⟩:=(runs_iff hp _).1 hrun;exact ⟨j,hj,hst,e,(key j hj hst e).1 h⟩
 ·rintro ⟨j,hj,hst,e,h⟩;exact (key j hj hst e).2 h
theorem good_iff (hw:Words s):Qz0 s=0 ↔ Good s:=by
 have hmain:QL2 s=0->(Qz0 s=0 ↔ Good s):=by
  intro hpl;obtain ⟨hf,ht⟩:=Qq5 hpl;obtain ⟨_,hjc,hp⟩:=QG4 ht;have hl:s.nodes.length<=64:=by have:=(QZa hf).1;omega
  have hrl:s.resizes.length<=4294967296:=hw.sz.2.2.2.1;rw [state_eq hw,(QCd (s:=s) (by rw [← plan_eq s hw.sz hw.jobs];exact hpl)).1];have hheld:(∀ k,k<s.jobs.length->heldR s k=true) ↔ ∀ j ∈ s.jobs,j.state=2->HeldP s j:=by
   unfold heldR;constructor
   ·intro h j hj hst;obtain ⟨k,hk,e⟩:=Qsd zG hj;have:=h k hk;rw [e,hst] at this;exact (held_bits hf (hw.jobs j hj)).1 (by simpa using this)
   ·intro h k hk;cases hst:((s.jobs.getD k zG).state != 2) with
    | true=>rfl
    | false =>
     have hst:(s.jobs.getD k zG).state=2:=by simpa using hst
     rw [(held_bits hf (hw.jobs _ (QN6 hk))).2 (h _ (QN6 hk) hst)];simp
  rw [hheld];have hrz:(∀ k,k<s.resizes.length->rzR s k=true) ↔ (∀ k,k<s.resizes.length->QU1 s (s.resizes.getD k zH)=true)∧s.resizes.Pairwise (fun a b=>a.job<b.job):=by
   rw [← pw_iff hrl];unfold rzR;simp only [yea];exact ⟨fun h=>⟨fun k hk=>(h k hk).1,fun k hk=>(h k hk).2⟩,fun h k hk=>⟨h.1 k hk,h.2 k hk⟩⟩
  rw [hrz];constructor
  ·rintro ⟨⟨h1,h2⟩,⟨h3,h4⟩,h5,h6⟩;refine ⟨hpl,h1,h2,h4,fun r hr=>?_,fun k hk=>(node_iff hw hp h4 hl h6 hk).1 (h5 k hk),h6⟩;obtain ⟨k,hk,e⟩:=Qsd zH hr;exact (res_run hw hf hp hjc h6 hr).1 (e ▸ h3 k hk)
  ·intro g;exact ⟨⟨g.nextJ,g.nextB⟩,⟨fun k hk=>(res_run hw hf hp hjc g.held (QN6 hk)).2 (g.res _ (QN6 hk)),g.sorted⟩,fun k hk=>(node_iff hw hp g.sorted hl g.held hk).2 (g.node k hk),g.held⟩
 constructor
 ·exact fun h=>(hmain (check_parts h).1).1 h
 ·exact fun h=>(hmain h.plan).2 h
end
theorem QU6 {l:List Node} (h:Q80 l=0):(1<=l.length∧l.length<=48) ∧ ∀ x ∈ l,QR0 x=true:=by
 unfold Q80 at h;cases h1:(((decide ((l.length:Int)<1))||(decide ((l.length:Int) > 48)))||(QI0 l (fun (y:Node)=>(!(QR0 y))))) with
 | true=>rw [h1] at h;cases h
 | false =>
  obtain ⟨h2,h3⟩:=or_f h1;have hl:=yca (or_f h2).2;have hl1:=yca (or_f h2).1;rw [QWf] at h3;refine ⟨by omega,fun x hx=>?_⟩;have:=List.any_eq_false.1 h3 x hx;simpa using this
theorem whole_fleet {l:List Node} (h1:1<=l.length∧l.length<=48) (h2:∀ x ∈ l,QR0 x=true):Q80 l=0:=by
 unfold Q80;have e:QI0 l (fun (y:Node)=>(!(QR0 y)))=false:=by
  rw [QWf];exact List.any_eq_false.2 fun x hx=>by rw [h2 x hx];simp
 rw [e,yka oA,yka oA]
 rfl
def turnP (p:Nat->Bool) (f:Node->Node) (l:List Node):List Node:=l.mapIdx fun k x=>bif p k then f x else x
theorem Q34 (p:Nat->Bool) (f:Node->Node) (l:List Node):(turnP p f l).length=l.length:=by simp [turnP]
theorem QH7 (p:Nat->Bool) (f:Node->Node) {l:List Node} {k:Nat} (h:k<l.length):(turnP p f l).getD k zF=bif p k then f (l.getD k zF) else l.getD k zF:=by
 have h':k<(turnP p f l).length:=by rw [Q34];exact h
 rw [List.getD,yaa h',List.getD,yaa h];simp [turnP]
theorem QSg {a b:List Node} (hl:a.length=b.length) (h:∀ k,k<b.length->a.getD k zF=b.getD k zF):a=b:=by
 refine List.ext_getElem hl fun k h1 h2=>?_
 have:=h k h2;rw [List.getD,yaa h1,List.getD,yaa h2] at this;exact this
theorem turnP_none (f:Node->Node) (l:List Node):turnP (fun _=>false) f l=l:=by
 refine QSg (Q34 _ _ _) fun k hk=>?_
 rw [QH7 _ _ hk]
 rfl
theorem QIc {p q:Nat->Bool} (f:Node->Node) {l:List Node} (h:∀ k,k<l.length->p k=q k):turnP p f l=turnP q f l:=by
 refine QSg (by rw [Q34,Q34]) fun k hk=>?_
 rw [Q34] at hk;rw [QH7 _ _ hk,QH7 _ _ hk,h k hk]
theorem turnP_set {p:Nat->Bool} {f:Node->Node} {l:List Node} {k:Nat} (hk:k<l.length) (hp:p k=false):(turnP p f l).set k (f (l.getD k zF))=turnP (fun j=>p j||(j==k)) f l:=by
 refine QSg (by rw [List.length_set,Q34,Q34]) fun j hj=>?_
 rw [Q34] at hj;rw [QH7 _ _ hj]
 by_cases e:k=j
 ·subst e;rw [List.getD,yVb (by rw [Q34];exact hk)];simp
 ·rw [List.getD,yic e,← List.getD,QH7 _ _ hj];have:(j==k)=false:=by simpa using Ne.symm e
  rw [this,y5b]
theorem turnP_fine {p:Nat->Bool} {f:Node->Node} {l:List Node} (hc:Q80 l=0) (h:∀ k,k<l.length->p k=true->QR0 (f (l.getD k zF))=true):Q80 (turnP p f l)=0:=by
 obtain ⟨h1,h2⟩:=QU6 hc;refine whole_fleet (by rw [Q34];exact h1) fun x hx=>?_
 obtain ⟨k,hk,rfl⟩:=Qsd zF hx;rw [Q34] at hk;rw [QH7 _ _ hk];cases hp:p k with
 | true=>exact h k hk hp
 | false=>exact h2 _ (QN6 hk)
section
variable {act job now:Int}
theorem do_ok {c:List Node} {k:Nat} (hc:Q80 c=0) (hk:k<c.length) (ht:QP3 now=true) (hm:QS4 (c.getD k zF) act job=true) :
  Q44 c (k:Int) act job now=(c.set k (QF0 (c.getD k zF) act job now),0):=by
 unfold Q44;rw [hc,yka (show ¬ (k:Int)<0 by omega),yka (show ¬ (k:Int) >= (c.length:Int) by omega),ht,yna,hm]
 rfl
theorem each_go {l:List Node} (S:Int) (hc:Q80 l=0) (ht:QP3 now=true):∀ (r:List Nat) (i:Nat) (p:Nat->Bool),r.Nodup->(∀ k ∈ r,k<l.length∧p k=false∧QS4 (l.getD k zF) act job=true∧QR0 (QF0 (l.getD k zF) act job now)=true) ->
  Q80 (turnP p (fun x=>QF0 x act job now) l)=0 ->
  ∃ q:Nat->Bool,(∀ k,q k=(p k||decide (k ∈ r)))∧Q80 (turnP q (fun x=>QF0 x act job now) l)=0 ∧
   Q12 S act job now (r.map fun (k:Nat)=>(k:Int)) i (turnP p (fun x=>QF0 x act job now) l)=(turnP q (fun x=>QF0 x act job now) l,bif QW3 act then Qb5 (turnP q (fun x=>QF0 x act job now) l) (Qo0 S) else [],0)
 | [],i,p,_,_,hpc=>by
  refine ⟨p,fun k=>by simp,hpc,?_⟩;rw [yyc,Q12];cases QW3 act <;> rfl
 | k :: r,i,p,hnd,h,hpc=>by
  obtain ⟨hk,hp,hm,hf⟩:=h k (yqa ..);obtain ⟨hkr,hnd'⟩:=List.nodup_cons.1 hnd;have hg:(turnP p (fun x=>QF0 x act job now) l).getD k zF=l.getD k zF:=by rw [QH7 _ _ hk,hp];rfl
  have hdo:=do_ok (c:=turnP p (fun x=>QF0 x act job now) l) (k:=k) hpc (by rw [Q34];exact hk) ht (by rw [hg];exact hm);rw [hg,turnP_set (f:=fun x=>QF0 x act job now) hk hp] at hdo;have hpc':Q80 (turnP (fun j=>p j||(j==k)) (fun x=>QF0 x act job now) l)=0:=by
   refine turnP_fine hc fun j hj hpj=>?_
   rcases Bool.or_eq_true_iff.1 hpj with hpj|hpj
   ·have:=(QU6 hpc).2 _ (QN6 (d:=zF) (show j<(turnP p (fun x=>QF0 x act job now) l).length by rw [Q34];exact hj));rw [QH7 _ _ hj,hpj] at this;exact this
   ·rw [eq_of_beq hpj];exact hf
  obtain ⟨q,hq,hqc,e⟩:=each_go S hc ht r (i+1) (fun j=>p j||(j==k)) hnd' (fun j hj=>by
   obtain ⟨a,b,c⟩:=h j (yha _ hj);have:(j==k)=false:=by simp;rintro rfl;exact hkr hj
   exact ⟨a,by rw [b,this];rfl,c⟩) hpc'
  refine ⟨q,fun j=>by rw [hq];show ((p j||decide (j=k))||decide (j ∈ r))=_;simp [Bool.or_assoc],hqc,?_⟩;rw [yjb,Q12,hdo];exact e
theorem Qod {s:Int} (hs:U64 s):Qo0 s=((List.range' 0 64).filter (tb s)).map fun (k:Nat)=>(k:Int):=by
 unfold Qo0 Qc3;rw [list_go hs _ [] 0 oA oA];simp
theorem each_ok {l:List Node} {S:Int} (hs:U64 S) (hc:Q80 l=0) (ht:QP3 now=true)
  (hm:∀ k,k<64->tb S k=true->k<l.length∧QS4 (l.getD k zF) act job=true∧QR0 (QF0 (l.getD k zF) act job now)=true) :
  Qv0 l S act job now=(turnP (tb S) (fun x=>QF0 x act job now) l,bif QW3 act then Qb5 (turnP (tb S) (fun x=>QF0 x act job now) l) (Qo0 S) else [],0)∧Q80 (turnP (tb S) (fun x=>QF0 x act job now) l)=0:=by
 obtain ⟨q,hq,hqc,e⟩:=each_go (act:=act) (job:=job) (now:=now) S hc ht ((List.range' 0 64).filter (tb S)) 0 (fun _=>false) ((List.nodup_range' (step:=1)).filter _) (fun k hk=>by
  simp only [yTb,List.mem_range'_1] at hk;obtain ⟨a,b,c⟩:=hm k oA hk.2
  exact ⟨a,rfl,b,c⟩) (by rw [turnP_none];exact hc)
 have e2:turnP q (fun x=>QF0 x act job now) l=turnP (tb S) (fun x=>QF0 x act job now) l:=by
  refine QIc _ fun k hk=>?_
  have hl:=(QU6 hc).1;rw [hq,yMa];simp only [y3a,yfa,yTb,List.mem_range'_1];exact ⟨fun h=>h.2,fun h=>⟨by omega,h⟩⟩
 rw [turnP_none,← Qod hs,e2] at e;rw [e2] at hqc;refine ⟨?_,hqc⟩;unfold Qv0;rw [hc];exact e
end
theorem popN_count:∀ (K n:Nat),popN K n=(List.range K).countP (fun k=>n.testBit k)
 | 0,_=>rfl
 | K+1,n=>by
  rw [popN,List.range_succ_eq_map,List.countP_cons,List.countP_map,popN_count K (n / 2)];have e:((fun k=>n.testBit k) ∘ Nat.succ)=fun k=>(n / 2).testBit k:=by
   funext k
   simp [yCb]
  rw [e,y8b];rcases yWb n with h|h <;> simp [h,Nat.add_comm]
theorem Q57 {s:Int} (hs:U64 s):Q10 s=(((List.range 64).countP (tb s):Nat):Int):=by
 rw [count_eq hs,popN_count]
 rfl
theorem Qng {p q:Nat->Bool}:∀ (l:List Nat),(∀ k ∈ l,p k=true->q k=false)->l.countP (fun k=>p k||q k)=l.countP p+l.countP q
 | [],_=>rfl
 | x :: l,h=>by
  rw [List.countP_cons,List.countP_cons,List.countP_cons,Qng l fun k hk=>h k (yha _ hk)];have:=h x (yqa ..);cases hp:p x <;> cases hq:q x <;> simp_all <;> omega
theorem count_or {x y:Int} (hx:U64 x) (hy:U64 y) (h:∀ k,k<64->tb x k=true->tb y k=false):Q10 (wu64 (BitVec.ofInt 64 x ||| BitVec.ofInt 64 y).toNat)=Q10 x+Q10 y:=by
 rw [Q57 (QJ8 _),Q57 hx,Q57 hy,← Int.natCast_add,← Qng _ fun k hk=>h k (List.mem_range.1 hk)]
 congr 2
 funext k
 exact tb_or hx hy k
theorem count_andnot {x y:Int} (hx:U64 x) (hy:U64 y) (h:∀ k,k<64->tb y k=true->tb x k=true):Q10 (wu64 (BitVec.ofInt 64 x &&& ~~~(BitVec.ofInt 64 y)).toNat)=Q10 x - Q10 y:=by
 have e:=Qng (p:=fun k=>tb x k && !tb y k) (q:=tb y) (List.range 64) (fun k _ hk=>by
  have:tb x k=true∧tb y k=false:=by simpa using hk
  exact this.2)
 have e2:(List.range 64).countP (fun k=>(tb x k && !tb y k)||tb y k)=(List.range 64).countP (tb x):=by
  refine List.countP_congr fun k hk=>?_
  have:=h k (List.mem_range.1 hk);cases hy:tb y k with
  | true=>simp [this hy]
  | false=>simp
 rw [Q57 (QJ8 _),Q57 hx,Q57 hy,← e2,e];have e3:(tb (wu64 (BitVec.ofInt 64 x &&& ~~~(BitVec.ofInt 64 y)).toNat))=fun k=>tb x k && !tb y k:=funext fun k=>Qg6 hx hy k
 rw [e3];omega
theorem Qla {x:Int} (hx:U64 x):0<=Q10 x∧Q10 x<=64:=by
 rw [Q57 hx];have:=List.countP_le_length (p:=tb x) (l:=List.range 64);simp at this;omega
theorem of_one {k:Nat} (hk:k<64):(QS0 ([(k:Int)]:List Int)).1=(2:Int) ^ k:=by
 unfold QS0;rw [Qg4,yka (show ¬ (k:Int)<0 by omega),yka (show ¬ (k:Int) >= 64 by omega),and_one .zero hk,QR9];show (wu64 (BitVec.ofInt 64 0 ||| BitVec.ofInt 64 (Q02 (k:Int))).toNat)=_;rw [Q98 hk];refine QZd (QJ8 _) (pow_U hk) fun j _=>?_
 rw [tb_or .zero (pow_U hk),QR9,y3a]
theorem tb_one {k:Nat} (hk:k<64):U64 (QS0 ([(k:Int)]:List Int)).1 ∧ ∀ j,tb (QS0 ([(k:Int)]:List Int)).1 j=decide (k=j):=by
 rw [of_one hk];exact ⟨pow_U hk,tb_pow k⟩
theorem rs_go (l:List Resize) (id:Int) (hl:l.length<=4294967296) (hs:l.Pairwise (fun a b=>a.job<b.job)) (hb:∀ r ∈ l,1<=r.job∧r.job<=99999) (hid:1<=id∧id<=99999):∀ (m:Nat) (i j:Int),(j - i).toNat<m->0<=i->i<=j->j<=(l.length:Int) ->
  (∀ k:Nat,(k:Int)<i->(l.getD k zH).job<id)->(∀ k:Nat,j<=(k:Int)->k<l.length->id<=(l.getD k zH).job) ->
  ∃ p:Nat,(Qm0 l id bsrF m i j).1=(p:Int)∧p<=l.length∧(∀ k,k<p->(l.getD k zH).job<id) ∧ ∀ k,p<=k->k<l.length->id<=(l.getD k zH).job
 | 0,i,j,hm,_,_,_,_,_=>absurd hm oA
 | m+1,i,j,hm,h0,h1,h2,h3,h4=>by
  rw [Qm0];cases hd:decide (i<j) with
  | false =>
   have:=yca hd;obtain ⟨q,rfl⟩:∃ q:Nat,i=(q:Int):=⟨i.toNat,by omega⟩;exact ⟨q,rfl,by omega,fun k hk=>h3 k oA,fun k hk hk2=>h4 k oA hk2⟩
  | true =>
   have hlt:=yda hd;rw [Q9b h0 hlt h2 oA];simp only [cond_true];obtain ⟨q,hq⟩:∃ q:Nat,(i+j) / 2=(q:Int):=⟨((i+j) / 2).toNat,by omega⟩;rw [hq,yna];have hql:q<l.length:=by omega
   have hqb:=hb _ (QN6 (d:=zH) hql);have hw:bsrF (l.getD q zH) id=(l.getD q zH).job - id:=wr oA;rw [hw];have mono:∀ a b:Nat,a<b->b<l.length->(l.getD a zH).job<(l.getD b zH).job:=by
    intro a b hab hbl;have:=List.pairwise_iff_getElem.1 hs a b oA hbl hab;rw [List.getD,yaa (show a<l.length by omega),List.getD,yaa hbl];exact this
   cases hc:decide ((l.getD q zH).job - id<0) with
   | true =>
    have hc':=yda hc;have hw2:w64 ((q:Int)+1)=(q:Int)+1:=wr oA;simp only [cond_true];rw [hw2];refine rs_go l id hl hs hb hid m _ _ oA oA oA h2 (fun k hk=>?_) h4;rcases yoa k q with h|h
    ·have:=mono k q h hql;omega
    ·obtain rfl:k=q:=by omega
     omega
   | false =>
    have hc':=yca hc;simp only [cond_false];refine rs_go l id hl hs hb hid m _ _ oA h0 oA oA h3 (fun k hk hk2=>?_);rcases yoa q k with h|h
    ·have:=mono q k h hk2;omega
    ·obtain rfl:k=q:=by omega
     omega
theorem place_iff (l:List Resize) (id:Int) (hl:l.length<=4294967296) (hs:l.Pairwise (fun a b=>a.job<b.job)) (hb:∀ r ∈ l,1<=r.job∧r.job<=99999) (hid:1<=id∧id<=99999) :
  ∃ p:Nat,(Q00 l id bsrF).1=(p:Int)∧p<=l.length∧(∀ k,k<p->(l.getD k zH).job<id)∧(∀ k,p<=k->k<l.length->id<=(l.getD k zH).job)∧((Q00 l id bsrF).2=true ↔ p<l.length∧(l.getD p zH).job=id):=by
 obtain ⟨p,h1,h2,h3,h4⟩:=rs_go l id hl hs hb hid ((((l.length:Int) - 0).toNat)+1) 0 (l.length:Int) oA oA oA oA (fun k hk=>absurd hk oA) (fun k hk hk2=>absurd hk2 oA);refine ⟨p,h1,h2,h3,h4,?_⟩;unfold Q00 QC0;simp only;rw [h1,yna,yea,yfa,beq_iff_eq];constructor
 ·rintro ⟨a,b⟩;have hp:p<l.length:=by omega
  have hqb:=hb _ (QN6 (d:=zH) hp);have hw:bsrF (l.getD p zH) id=(l.getD p zH).job - id:=wr oA;rw [hw] at b;exact ⟨hp,by omega⟩
 ·rintro ⟨a,b⟩;refine ⟨by omega,?_⟩;have hw:bsrF (l.getD p zH) id=(l.getD p zH).job - id:=wr oA;rw [hw];omega
theorem QN8 (x:Node):QR0 x=true ↔ (0<=x.epoch∧x.epoch<=999999999)∧(0<=x.since∧x.since<=1000000)∧(0<=x.asked∧x.asked<=1000000) ∧
  ((x.state=0∧x.job=0∧x.want=0)∨(x.state=1∧(1<=x.job∧x.job<=99999)∧(x.want=0∨x.want=1∨x.want=3∨x.want=4))∨(x.state=2∧(1<=x.job∧x.job<=99999)∧(x.want=0∨x.want=2))∨(x.state=3∧(1<=x.job∧x.job<=99999)∧x.want=5)∨(x.state=4∧x.job=0∧(x.want=0∨x.want=6))):=by
 unfold QR0;simp only [QYa,QP3,y6b,List.any_nil];obtain ⟨st,jb,ep,dr,wa,si,as_⟩:=x;dsimp only
 by_cases h0:st=0
 ·subst h0;grind
 by_cases h1:st=1
 ·subst h1;grind
 by_cases h2:st=2
 ·subst h2;grind
 by_cases h3:st=3
 ·subst h3;grind
 by_cases h4:st=4
 ·subst h4;grind
 grind
theorem act4 (x:Node) (now:Int):QF0 x 4 0 now={ x with want:=0 }∧(QS4 x 4 0=true ↔ x.state=1∨x.state=2):=by
 refine ⟨rfl,?_⟩;show ((x.state==1)||(x.state==2))=true ↔ _;simp
theorem act7 (x:Node) (now:Int):QF0 x 7 0 now=(⟨3,x.job,x.epoch,x.drain,5,now,now⟩:Node)∧(QS4 x 7 0=true ↔ x.state=1∨x.state=2):=by
 refine ⟨rfl,?_⟩;show ((x.state==1)||(x.state==2))=true ↔ _;simp
theorem act6 (x:Node) (now:Int):QF0 x 6 0 now={ x with want:=0 }∧(QS4 x 6 0=true ↔ x.state=1∧x.want=4):=by
 refine ⟨rfl,?_⟩;show ((x.state==1)&&(x.want==4))=true ↔ _;simp
theorem act3 (x:Node) (now:Int):QF0 x 3 0 now=(⟨1,x.job,x.epoch,x.drain,3,now,now⟩:Node)∧(QS4 x 3 0=true ↔ x.state=2):=by
 refine ⟨rfl,?_⟩;show (x.state==2)=true ↔ _;simp
theorem act5 (x:Node) (now:Int):QF0 x 5 0 now={ x with want:=4,since:=now,asked:=now }∧(QS4 x 5 0=true ↔ x.state=1∧x.want=0):=by
 refine ⟨rfl,?_⟩;show ((x.state==1)&&(x.want==0))=true ↔ _;simp
section
variable {s:State}
theorem good_now (g:Good s):0<=s.now∧s.now<=1000000:=by
 have h:=g.plan;unfold QL2 at h;cases h1:(QH1 s != 0) with
 | true=>rw [h1] at h;cases h
 | false =>
  have hr:QH1 s=0:=by simpa using h1
  unfold QH1 at hr;cases h2:(((((decide (s.now<0))||(decide (s.now > 1000000)))||((Q80 s.nodes)!=0))||((QK1 s.jobs)!=0))||((Qh6 s.books)!=0)) with
  | true=>rw [h2] at hr;cases hr
  | false =>
   have h3:=(or_f (or_f (or_f h2).1).1).1;simp only [yXa,yGa] at h3;omega
theorem Q8d (g:Good s):QP3 s.now=true:=by
 have:=good_now g;unfold QP3;simp;omega
theorem QM7 (g:Good s):Q80 s.nodes=0:=(Qq5 g.plan).1
theorem QN7 (g:Good s):QK1 s.jobs=0:=(Qq5 g.plan).2
theorem good_len (g:Good s):s.nodes.length<=48:=(QU6 (QM7 g)).1.2
theorem Qwg (g:Good s) {k:Nat} (hk:k<s.nodes.length):QR0 (s.nodes.getD k zF)=true:=(QU6 (QM7 g)).2 _ (QN6 hk)
theorem QJb (g:Good s) {j:Job} (hj:j ∈ s.jobs):Qe1 j=0:=(QG4 (QN7 g)).2.1 j hj
theorem good_resz (g:Good s):∀ r ∈ s.resizes,1<=r.job∧r.job<=99999:=fun r hr=>by
 obtain ⟨j,hj,_,e,_⟩:=g.res r hr;rw [← e];exact QO7 (QJb g hj)
theorem job_nodes_iff {x:Int} (hx:U64 x):Qm7 x=true ↔ ∀ k,k<64->tb x k=true->k<48:=by
 unfold Qm7;obtain ⟨u,b⟩:=QOa (n:=48) (by decide);rw [show QZ3 48=QZ3 ((48:Nat):Int) from rfl,Qea hx u];exact ⟨fun h k hk hb=>by have:=h k hk hb;rw [b] at this;exact yda this,fun h k hk hb=>by rw [b];exact yga (h k hk hb)⟩
structure RzAt (s:State) (r:Resize) (j:Job):Prop where
 g:Good s
 u:WU s
 hr:r ∈ s.resizes
 hj:j ∈ s.jobs
 st:j.state=2
 id:j.id=r.job
 res:ResP s r j
section
variable {r:Resize} {j:Job} (a:RzAt s r j)
include a
theorem RzAt.un:U64 r.nodes:=(a.u.2 r a.hr).1
theorem RzAt.us:U64 r.said:=(a.u.2 r a.hr).2
theorem RzAt.uj:U64 j.nodes:=a.u.1 j a.hj
theorem RzAt.node {k:Nat} (hk:k<64) (h:tb r.nodes k=true):k<s.nodes.length∧(s.nodes.getD k zF).job=r.job∧(s.nodes.getD k zF).state=(if r.grow=true then 2 else 1):=by
 obtain ⟨_,_,_,R⟩:=a.res;cases hg:r.grow with
 | true =>
  rw [if_pos hg] at R;simpa using (R.2.1 k hk).1 h
 | false =>
  rw [if_neg (by rw [hg];simp)] at R;have:=(a.g.held j a.hj a.st k).1 (R.2.1 k hk h);rw [a.id] at this;simpa using this
theorem RzAt.asked {k:Nat} (hk:k<64) (h:tb r.nodes k=true) (h':tb r.said k=false):(s.nodes.getD k zF).want=(if r.grow=true then 2 else 4):=by
 obtain ⟨_,_,_,R⟩:=a.res;cases hg:r.grow with
 | true =>
  rw [if_pos hg] at R;simpa using ((R.1 k hk).2 ⟨h,h'⟩).2.2
 | false =>
  rw [if_neg (by rw [hg];simp)] at R;simpa using ((R.1 k hk).2 ⟨h,h'⟩).2.2
theorem RzAt.state {k:Nat} (hk:k<64) (h:tb r.nodes k=true):(s.nodes.getD k zF).state=1∨(s.nodes.getD k zF).state=2:=by
 have:=(a.node hk h).2.2;split at this
 ·exact .inr this
 ·exact .inl this
theorem RzAt.settle {k:Nat} (hk:k<64) (h:tb r.nodes k=true):Qv0 s.nodes (QS0 ([(k:Int)]:List Int)).1 4 0 s.now=(turnP (fun i=>decide (k=i)) (fun x=>{ x with want:=0 }) s.nodes,[],0)∧Q80 (turnP (fun i=>decide (k=i)) (fun x=>{ x with want:=0 }) s.nodes)=0:=by
 obtain ⟨u,b⟩:=tb_one hk
 have e:=each_ok (act:=4) (job:=0) (now:=s.now) u (QM7 a.g) (Q8d a.g) (fun i hi hb=>by
  rw [b] at hb;obtain rfl:=yda hb;obtain ⟨h1,h2,_⟩:=a.node hk h;refine ⟨h1,(act4 _ s.now).2.2 (a.state hk h),?_⟩;rw [(act4 _ s.now).1,QN8];have hf:=(QN8 _).1 (Qwg a.g h1);have hs:=a.state hk h;dsimp only
  omega)
 have e2:turnP (tb (QS0 ([(k:Int)]:List Int)).1) (fun x=>QF0 x 4 0 s.now) s.nodes=turnP (fun i=>decide (k=i)) (fun x=>{ x with want:=0 }) s.nodes :=
  QIc _ fun i _=>b i
 rw [e2] at e;exact e
theorem RzAt.all {l:List Node} (hc:Q80 l=0) (hl:l.length=s.nodes.length) (hst:∀ k,k<s.nodes.length->(l.getD k zF).state=(s.nodes.getD k zF).state∧(l.getD k zF).job=(s.nodes.getD k zF).job) (act:Int) (ha:(act=7)∨(act=3∧r.grow=true)) :
  Qv0 l r.nodes act 0 s.now=(turnP (tb r.nodes) (fun x=>QF0 x act 0 s.now) l,bif QW3 act then Qb5 (turnP (tb r.nodes) (fun x=>QF0 x act 0 s.now) l) (Qo0 r.nodes) else [],0)∧Q80 (turnP (tb r.nodes) (fun x=>QF0 x act 0 s.now) l)=0:=by
 refine each_ok a.un hc (Q8d a.g) fun k hk hb=>?_
 obtain ⟨h1,h2,h3⟩:=a.node hk hb;obtain ⟨q1,q2⟩:=hst k h1;have hs:=a.state hk hb;have hf:=(QN8 _).1 ((QU6 hc).2 _ (QN6 (d:=zF) (show k<l.length by omega)));have hn:=good_now a.g;refine ⟨by omega,?_⟩;rcases ha with rfl|⟨rfl,hg⟩
 ·refine ⟨(act7 _ s.now).2.2 (by rw [q1];exact hs),?_⟩;rw [(act7 _ s.now).1,QN8];dsimp only;omega
 ·rw [if_pos hg] at h3;refine ⟨(act3 _ s.now).2.2 (by rw [q1];exact h3),?_⟩;rw [(act3 _ s.now).1,QN8];dsimp only;omega
theorem RzAt.keep (hg:r.grow=false):Qv0 s.nodes (wu64 (BitVec.ofInt 64 r.nodes &&& ~~~(BitVec.ofInt 64 r.said)).toNat) 6 0 s.now=(turnP (fun k=>tb r.nodes k && !tb r.said k) (fun x=>{ x with want:=0 }) s.nodes,[],0)∧Q80 (turnP (fun k=>tb r.nodes k && !tb r.said k) (fun x=>{ x with want:=0 }) s.nodes)=0:=by
 have e:=each_ok (act:=6) (job:=0) (now:=s.now) (QJ8 (BitVec.ofInt 64 r.nodes &&& ~~~(BitVec.ofInt 64 r.said)).toNat) (QM7 a.g) (Q8d a.g) (fun k hk hb=>by
  rw [Qg6 a.un a.us] at hb;have hb:tb r.nodes k=true∧tb r.said k=false:=by simpa using hb
  obtain ⟨h1,h2,h3⟩:=a.node hk hb.1;have h4:=a.asked hk hb.1 hb.2;rw [if_neg (by rw [hg];simp)] at h3 h4;refine ⟨h1,(act6 _ s.now).2.2 ⟨h3,h4⟩,?_⟩;rw [(act6 _ s.now).1,QN8];have hf:=(QN8 _).1 (Qwg a.g h1);dsimp only
  omega)
 have e2:turnP (tb (wu64 (BitVec.ofInt 64 r.nodes &&& ~~~(BitVec.ofInt 64 r.said)).toNat)) (fun x=>QF0 x 6 0 s.now) s.nodes=turnP (fun k=>tb r.nodes k && !tb r.said k) (fun x=>{ x with want:=0 }) s.nodes :=
  QIc _ fun i _=>Qg6 a.un a.us i
 rw [e2] at e;exact e
theorem RzAt.kind:j.shape.kind=3:=a.res.1.1
theorem RzAt.range:j.shape.min<=Q10 j.nodes∧Q10 j.nodes<=j.shape.max∧(decide (j.choice<0)||decide (j.choice >= ((Qd1 j.shape).length:Int)))=false:=by
 have h:=job_runs (QJb a.g a.hj) a.st;unfold Qh3 at h;cases h1:((decide (j.choice<0))||(decide (j.choice >= ((Qd1 j.shape).length:Int)))) with
 | true=>rw [h1] at h;cases h
 | false =>
  rw [h1,a.kind] at h;have h:(decide (Q10 j.nodes >= j.shape.min)&&decide (Q10 j.nodes<=j.shape.max))=true:=h;simp only [yea,yfa] at h;exact ⟨h.1,h.2,rfl⟩
theorem RzAt.bits {k:Nat} (hk:k<64) (h:tb j.nodes k=true∨tb r.nodes k=true):k<48:=by
 have:=good_len a.g;rcases h with h|h
 ·have:=((a.g.held j a.hj a.st k).1 h).1;omega
 ·have:=(a.node hk h).1;omega
theorem RzAt.size {x:Int} (hx:U64 x) (h1:∀ k,k<64->tb x k=true->k<48) (h2:j.shape.min<=Q10 x∧Q10 x<=j.shape.max):Q33 j x=({ j with nodes:=x },0)∧Qe1 { j with nodes:=x }=0:=by
 have hn:=(job_nodes_iff hx).2 h1;have hA:Qh3 j.shape j.choice (Q10 x)=true:=by
  unfold Qh3;rw [a.range.2.2,a.kind];show (decide (Q10 x >= j.shape.min)&&decide (Q10 x<=j.shape.max))=true;simp only [yea,yfa];exact ⟨h2.1,h2.2⟩
 constructor
 ·unfold Q33;rw [QJb a.g a.hj,hn,hA,a.st]
  rfl
 ·have h:=QJb a.g a.hj;unfold Qe1 at h ⊢;have e1:Qq0 { j with nodes:=x }=Qq0 j:=rfl;rw [e1];dsimp only;cases hq:((((((decide (j.id<1))||(decide (j.id > 99999)))||(!(Qw2 j.born)))||(j.used != (Q25 j.used)))||((QM4 (Qq0 j))!=0))||(Qt0 j.after (fun (y:Dep)=>(decide (y.job >= j.id))))) with
  | true=>rw [hq] at h;cases h
  | false =>
   rw [hq,a.st] at h;rw [a.st];have hrun:Qr1 { j with nodes:=x }=true:=by
    have h:(bif (!(Qr1 j)) then (140:Int) else 0)=0:=h;cases hv:Qr1 j with
    | false=>rw [hv] at h;cases h
    | true =>
     unfold Qr1 at hv ⊢;have e2:QM0 { j with nodes:=x }=QM0 j:=rfl;rw [e2];dsimp only;cases hw:(((((((!(QM0 j j.choice).2)||j.held)||(!(Qw2 j.start)))||(!(Qw2 j.promise)))||(decide (j.promise<j.start)))||(!(Qw2 j.limit)))||((w64 (j.limit - j.start))!=(QM0 j j.choice).1.wall)) with
     | true=>rw [hw] at hv;cases hv
     | false =>
      rw [hn,hA]
      rfl
   show (bif (!(Qr1 { j with nodes:=x })) then (140:Int) else 0)=0;rw [hrun]
   rfl
theorem RzAt.more (hg:r.grow=true):Q10 (wu64 (BitVec.ofInt 64 j.nodes ||| BitVec.ofInt 64 r.nodes).toNat)=Q10 j.nodes+Q10 r.nodes∧Q33 j (wu64 (BitVec.ofInt 64 j.nodes ||| BitVec.ofInt 64 r.nodes).toNat)=({ j with nodes:=wu64 (BitVec.ofInt 64 j.nodes ||| BitVec.ofInt 64 r.nodes).toNat },0)∧Qe1 { j with nodes:=wu64 (BitVec.ofInt 64 j.nodes ||| BitVec.ofInt 64 r.nodes).toNat }=0:=by
 have hc:=count_or a.uj a.un (fun k hk h=>by
  cases h2:tb r.nodes k with
  | false=>rfl
  | true =>
   have h3:=((a.g.held j a.hj a.st k).1 h).2.2;have h4:=(a.node hk h2).2.2;rw [if_pos hg] at h4
   omega)
 refine ⟨hc,a.size (QJ8 _) (fun k hk h=>?_) ?_⟩
 ·rw [tb_or a.uj a.un] at h;exact a.bits hk (by simpa using h)
 ·obtain ⟨_,_,_,R⟩:=a.res;rw [if_pos hg] at R;have h1:=R.2.2;unfold GrowP at h1;have h2:=Qla a.uj;have h3:=Qla a.un;have h4:=a.range;rw [w6 oA] at h1;rw [hc];omega
theorem RzAt.less (hg:r.grow=false):Q10 (wu64 (BitVec.ofInt 64 j.nodes &&& ~~~(BitVec.ofInt 64 r.nodes)).toNat)=Q10 j.nodes - Q10 r.nodes∧Q33 j (wu64 (BitVec.ofInt 64 j.nodes &&& ~~~(BitVec.ofInt 64 r.nodes)).toNat)=({ j with nodes:=wu64 (BitVec.ofInt 64 j.nodes &&& ~~~(BitVec.ofInt 64 r.nodes)).toNat },0)∧Qe1 { j with nodes:=wu64 (BitVec.ofInt 64 j.nodes &&& ~~~(BitVec.ofInt 64 r.nodes)).toNat }=0:=by
 obtain ⟨_,_,_,R⟩:=a.res;rw [if_neg (by rw [hg];simp)] at R;have hc:=count_andnot a.uj a.un R.2.1;refine ⟨hc,a.size (QJ8 _) (fun k hk h=>?_) ?_⟩
 ·rw [Qg6 a.uj a.un] at h;have h:tb j.nodes k=true∧tb r.nodes k=false:=by simpa using h
  exact a.bits hk (.inl h.1)
 ·have h1:=R.2.2;unfold ShrP at h1;have h2:=Qla a.uj;have h3:=Qla a.un;have h4:=a.range;rw [w6 oA] at h1;rw [hc];omega
theorem RzAt.find:QU0 s.jobs r.job=(j,true):=by
 obtain ⟨p,hp⟩:=ylb a.hj;rw [← a.id];exact QUd (QN7 a.g) hp
theorem RzAt.put {x:Int} (h:Qe1 { j with nodes:=x }=0):∃ p,s.jobs[p]? = some j∧Qe6 s.jobs { j with nodes:=x }=(s.jobs.set p { j with nodes:=x },0):=by
 obtain ⟨p,hp⟩:=ylb a.hj;refine ⟨p,hp,?_⟩;obtain ⟨hn,hj,hs⟩:=QG4 (QN7 a.g);have hb:∀ y ∈ s.jobs,1<=y.id∧y.id<=99999:=fun y hy=>QO7 (hj y hy)
 have hpl:p<s.jobs.length:=(List.getElem?_eq_some_iff.1 hp).1
 have hpi:(Qk0 s.jobs j.id).1=(p:Int) :=
  QKd s.jobs j.id hn (hb j a.hj) hb (Qa7 hs) p j hp rfl _ 0 (s.jobs.length:Int) oA oA oA oA oA (fun k hk y hy=>absurd (List.getElem?_eq_some_iff.1 hy).1 oA)
 have hp2:(Qk0 s.jobs j.id).2=true:=by
  have e:(Qk0 s.jobs j.id).2=((decide ((Qk0 s.jobs j.id).1<(s.jobs.length:Int)))&&((w64 ((s.jobs.getD (Int.toNat (Qk0 s.jobs j.id).1) zG).id - j.id))==0)):=rfl;rw [e,hpi,yna];have hg:s.jobs.getD p zG=j:=by simp [List.getD,hp]
  rw [hg,Int.sub_self,yga (show (p:Int)<(s.jobs.length:Int) by omega)]
  rfl
 unfold Qe6;rw [QN7 a.g,h];show (bif (!(Qk0 s.jobs j.id).2) then ([],140) else QBb (s.jobs.set (((Qk0 s.jobs j.id).1).toNat) { j with nodes:=x }))=_;rw [hp2,hpi]
 rfl
end
end
abbrev rzI (s:State) (id:Int):Nat:=Int.toNat (Q00 s.resizes id bsrF).1
abbrev rzZ (s:State) (id:Int):Resize:=s.resizes.getD (rzI s id) zH
abbrev rzT (s:State) (n:Note):List Resize:=s.resizes.set (rzI s n.job) { (rzZ s n.job) with said:=(wu64 (BitVec.ofInt 64 (rzZ s n.job).said ||| BitVec.ofInt 64 (QS0 ([n.node]:List Int)).1).toNat) }
theorem find_sz {l:List Job} (h:∀ y ∈ l,y.sz) (id:Int):(QU0 l id).1.sz:=by
 unfold QU0;cases (((QK1 l)!=0)||(!(Qf6 id))) with
 | true=>exact Job.szz _
 | false =>
  cases (!(Qk0 l id).2) with
  | true=>exact Job.szz _
  | false=>exact Qp4 (p:=Job.sz) (fun y hy=>h y (ycb (yVa hy))) (Job.szz _)
theorem size_sz {j:Job} (h:j.sz) (x:Int):(Q33 j x).1.sz:=by
 unfold Q33;cases ((Qe1 j)!=0) with
 | true=>exact Job.szz _
 | false =>
  cases ((j.state==2)&&((!(Qm7 x))||(!(Qh3 j.shape j.choice (Q10 x))))) with
  | true=>exact Job.szz _
  | false =>
   cases ((Qed (j.state==2))!=0) with
   | true=>exact Job.szz _
   | false=>exact h
section
variable {s:State}
theorem rz_good (hz:s.sz) (hu:WU s) (hc:((Qz0 s)!=0)=false):Good s:=(good_iff (hu.words hz)).1 (by simpa using hc)
theorem rz_place (hz:s.sz) (hu:WU s) (hc:((Qz0 s)!=0)=false) {id:Int} (hk:QG1 id=true) :
  ∃ p:Nat,(Q00 s.resizes id bsrF).1=(p:Int)∧p<=s.resizes.length∧(∀ k,k<p->(s.resizes.getD k zH).job<id)∧(∀ k,p<=k->k<s.resizes.length->id<=(s.resizes.getD k zH).job)∧((Q00 s.resizes id bsrF).2=true ↔ p<s.resizes.length∧(s.resizes.getD p zH).job=id):=by
 have g:=rz_good hz hu hc;unfold QG1 at hk;simp only [yea,yfa] at hk;exact place_iff s.resizes id hz.2.2.2.1 g.sorted (good_resz g) oA
theorem rz_at (hz:s.sz) (hu:WU s) (hc:((Qz0 s)!=0)=false) {id:Int} (hk:QG1 id=true) (hb:(Q00 s.resizes id bsrF).2=true) :
  ∃ j,RzAt s (rzZ s id) j∧(rzZ s id).job=id∧rzI s id<s.resizes.length∧(Q00 s.resizes id bsrF).1=((rzI s id:Nat):Int):=by
 have g:=rz_good hz hu hc;obtain ⟨p,h1,h2,h3,h4,h5⟩:=rz_place hz hu hc hk;obtain ⟨h6,h7⟩:=h5.1 hb;have e:rzI s id=p:=by show Int.toNat _=p;rw [h1];rfl
 have hm:rzZ s id ∈ s.resizes:=QN6 (by rw [e];exact h6);obtain ⟨j,hj,hst,hid,R⟩:=g.res _ hm;exact ⟨j,⟨g,hu,hm,hj,hst,hid,R⟩,by show (s.resizes.getD (rzI s id) zH).job=id;rw [e];exact h7,by rw [e];exact h6,by rw [e];exact h1⟩
theorem rz_T {n:Note} (h:rzI s n.job<s.resizes.length):(rzT s n).getD (rzI s n.job) zH={ (rzZ s n.job) with said:=(wu64 (BitVec.ofInt 64 (rzZ s n.job).said ||| BitVec.ofInt 64 (QS0 ([n.node]:List Int)).1).toNat) }:=by
 rw [List.getD,yVb h]
 rfl
theorem has_iff {x:Int} (hx:U64 x) (n:Int):QV0 x n=true ↔ ∃ k:Nat,n=(k:Int)∧k<64∧tb x k=true:=by
 constructor
 ·intro h;have h0:0<=n:=by
   unfold QV0 at h;simp only [yea,yfa] at h;omega
  obtain ⟨k,rfl⟩:∃ k:Nat,n=(k:Int):=⟨n.toNat,by omega⟩;rw [QA6 hx,yea,yfa] at h;exact ⟨k,rfl,h.1,h.2⟩
 ·rintro ⟨k,rfl,h1,h2⟩;rw [QA6 hx,h2,yga h1]
  rfl
theorem rz_has {r:Resize} {j:Job} (a:RzAt s r j) {n:Int} (h:QV0 (wu64 (BitVec.ofInt 64 r.nodes &&& ~~~(BitVec.ofInt 64 r.said)).toNat) n=true):∃ k:Nat,n=(k:Int)∧k<64∧tb r.nodes k=true∧tb r.said k=false:=by
 obtain ⟨k,e,hk,hb⟩:=(has_iff (QJ8 _) n).1 h;rw [Qg6 a.un a.us] at hb;have hb:tb r.nodes k=true∧tb r.said k=false:=by simpa using hb
 exact ⟨k,e,hk,hb.1,hb.2⟩
section
variable {n:Note} (hz:s.sz) (hu:WU s) (hc:((Qz0 s)!=0)=false) (hk:QG1 n.job=true) (hb:(Q00 s.resizes n.job bsrF).2=true)
include hz hu hc hk hb
theorem rz_in {P:Bool} (h:(!(P||(!(QV0 (wu64 (BitVec.ofInt 64 (rzZ s n.job).nodes &&& ~~~(BitVec.ofInt 64 (rzZ s n.job).said)).toNat) n.node))))=true):0<=n.node∧n.node<(s.nodes.length:Int):=by
 obtain ⟨j,a,_⟩:=rz_at hz hu hc hk hb;have h:QV0 (wu64 (BitVec.ofInt 64 (rzZ s n.job).nodes &&& ~~~(BitVec.ofInt 64 (rzZ s n.job).said)).toNat) n.node=true:=by
  cases hq:QV0 (wu64 (BitVec.ofInt 64 (rzZ s n.job).nodes &&& ~~~(BitVec.ofInt 64 (rzZ s n.job).said)).toNat) n.node with
  | true=>rfl
  | false=>rw [hq] at h;simp at h
 obtain ⟨k,e,h1,h2,_⟩:=rz_has a h;have:=(a.node h1 h2).1;omega
theorem QVb {P C:Bool} (hx:((P||(!(QV0 (wu64 (BitVec.ofInt 64 (rzZ s n.job).nodes &&& ~~~(BitVec.ofInt 64 (rzZ s n.job).said)).toNat) n.node)))||C)=false) :
  ∃ j k,RzAt s (rzZ s n.job) j∧rzI s n.job<s.resizes.length∧n.node=((k:Nat):Int)∧k<64∧tb (rzZ s n.job).nodes k=true∧tb (rzZ s n.job).said k=false:=by
 obtain ⟨j,a,_,hi,_⟩:=rz_at hz hu hc hk hb;have h:QV0 (wu64 (BitVec.ofInt 64 (rzZ s n.job).nodes &&& ~~~(BitVec.ofInt 64 (rzZ s n.job).said)).toNat) n.node=true:=by
  have:=(or_f (or_f hx).1).2;simpa using this
 obtain ⟨k,e,h1,h2,h3⟩:=rz_has a h;exact ⟨j,k,a,hi,e,h1,h2,h3⟩
theorem Qvb {P C:Bool} (hx:((P||(!(QV0 (wu64 (BitVec.ofInt 64 (rzZ s n.job).nodes &&& ~~~(BitVec.ofInt 64 (rzZ s n.job).said)).toNat) n.node)))||C)=false)
  (h:((Qv0 s.nodes ((QS0 ([n.node]:List Int)).1) 4 0 s.now).2.2 != 0)=true):False:=by
 obtain ⟨j,k,a,_,e,h1,h2,_⟩:=QVb hz hu hc hk hb hx;rw [e,(a.settle h1 h2).1] at h;cases h
theorem rz_len {P C:Bool} (hx:((P||(!(QV0 (wu64 (BitVec.ofInt 64 (rzZ s n.job).nodes &&& ~~~(BitVec.ofInt 64 (rzZ s n.job).said)).toNat) n.node)))||C)=false) :
  (Qv0 s.nodes ((QS0 ([n.node]:List Int)).1) 4 0 s.now).1.length<=4294967296:=by
 obtain ⟨j,k,a,_,e,h1,h2,_⟩:=QVb hz hu hc hk hb hx;rw [e,(a.settle h1 h2).1];show (turnP _ _ _).length<=_;rw [Q34];exact hz.1
theorem Qxh (hg:(rzZ s n.job).grow=true) (h:((Qv0 s.nodes ((rzZ s n.job).nodes) 7 0 s.now).2.2 != 0)=true):False:=by
 obtain ⟨j,a,_⟩:=rz_at hz hu hc hk hb;rw [(a.all (QM7 a.g) rfl (fun _ _=>⟨rfl,rfl⟩) 7 (.inl rfl)).1] at h;cases h
theorem Qwh (hg:(rzZ s n.job).grow=false) (h:((Qv0 s.nodes (wu64 (BitVec.ofInt 64 (rzZ s n.job).nodes &&& ~~~(BitVec.ofInt 64 (rzZ s n.job).said)).toNat) 6 0 s.now).2.2 != 0)=true):False:=by
 obtain ⟨j,a,_⟩:=rz_at hz hu hc hk hb;rw [(a.keep hg).1] at h;cases h
theorem rz_after {P C:Bool} (hx:((P||(!(QV0 (wu64 (BitVec.ofInt 64 (rzZ s n.job).nodes &&& ~~~(BitVec.ofInt 64 (rzZ s n.job).said)).toNat) n.node)))||C)=false) (act:Int) (ha:act=7∨(act=3∧(rzZ s n.job).grow=true)) :
  (Qv0 (Qv0 s.nodes ((QS0 ([n.node]:List Int)).1) 4 0 s.now).1 (((rzT s n).getD (rzI s n.job) zH).nodes) act 0 s.now).2.2=0:=by
 obtain ⟨j,k,a,hi,e,h1,h2,_⟩:=QVb hz hu hc hk hb hx;rw [rz_T hi,e,(a.settle h1 h2).1]
 have h:=(a.all (a.settle h1 h2).2 (Q34 _ _ _) (fun i hi=>by
  rw [QH7 _ _ hi]
  cases decide (k=i) <;> exact ⟨rfl,rfl⟩) act ha).1
 rw [h]
theorem Qyh {P C:Bool} (hx:((P||(!(QV0 (wu64 (BitVec.ofInt 64 (rzZ s n.job).nodes &&& ~~~(BitVec.ofInt 64 (rzZ s n.job).said)).toNat) n.node)))||C)=false) (hg:((rzT s n).getD (rzI s n.job) zH).grow=true)
  (h:((Qv0 (Qv0 s.nodes ((QS0 ([n.node]:List Int)).1) 4 0 s.now).1 (((rzT s n).getD (rzI s n.job) zH).nodes) 3 0 s.now).2.2 != 0)=true):False:=by
 obtain ⟨j,k,a,hi,_⟩:=QVb hz hu hc hk hb hx;rw [rz_after hz hu hc hk hb hx 3 (.inr ⟨rfl,by rw [rz_T hi] at hg;exact hg⟩)] at h;cases h
theorem Q9a {P C:Bool} (hx:((P||(!(QV0 (wu64 (BitVec.ofInt 64 (rzZ s n.job).nodes &&& ~~~(BitVec.ofInt 64 (rzZ s n.job).said)).toNat) n.node)))||C)=false) (hg:((rzT s n).getD (rzI s n.job) zH).grow=false)
  (h:((Qv0 (Qv0 s.nodes ((QS0 ([n.node]:List Int)).1) 4 0 s.now).1 (((rzT s n).getD (rzI s n.job) zH).nodes) 7 0 s.now).2.2 != 0)=true):False:=by
 rw [rz_after hz hu hc hk hb hx 7 (.inl rfl)] at h;cases h
theorem rz_more (hg:((rzT s n).getD (rzI s n.job) zH).grow=true):∃ j,RzAt s (rzZ s n.job) j∧(rzZ s n.job).grow=true∧rzI s n.job<s.resizes.length ∧
  Q33 (QU0 s.jobs (((rzT s n).getD (rzI s n.job) zH).job)).1 (wu64 (BitVec.ofInt 64 (QU0 s.jobs (((rzT s n).getD (rzI s n.job) zH).job)).1.nodes ||| BitVec.ofInt 64 ((rzT s n).getD (rzI s n.job) zH).nodes).toNat)=({ j with nodes:=wu64 (BitVec.ofInt 64 j.nodes ||| BitVec.ofInt 64 (rzZ s n.job).nodes).toNat },0):=by
 obtain ⟨j,a,_,hi,_⟩:=rz_at hz hu hc hk hb;rw [rz_T hi] at hg ⊢;refine ⟨j,a,hg,hi,?_⟩;show Q33 (QU0 s.jobs (rzZ s n.job).job).1 (wu64 (BitVec.ofInt 64 (QU0 s.jobs (rzZ s n.job).job).1.nodes ||| BitVec.ofInt 64 (rzZ s n.job).nodes).toNat)=_;rw [a.find];exact (a.more hg).2.1
theorem rz_less (hg:((rzT s n).getD (rzI s n.job) zH).grow=false):∃ j,RzAt s (rzZ s n.job) j∧(rzZ s n.job).grow=false∧rzI s n.job<s.resizes.length ∧
  Q33 (QU0 s.jobs (((rzT s n).getD (rzI s n.job) zH).job)).1 (wu64 (BitVec.ofInt 64 (QU0 s.jobs (((rzT s n).getD (rzI s n.job) zH).job)).1.nodes &&& ~~~(BitVec.ofInt 64 ((rzT s n).getD (rzI s n.job) zH).nodes)).toNat)=({ j with nodes:=wu64 (BitVec.ofInt 64 j.nodes &&& ~~~(BitVec.ofInt 64 (rzZ s n.job).nodes)).toNat },0):=by
 obtain ⟨j,a,_,hi,_⟩:=rz_at hz hu hc hk hb;rw [rz_T hi] at hg ⊢;refine ⟨j,a,hg,hi,?_⟩;show Q33 (QU0 s.jobs (rzZ s n.job).job).1 (wu64 (BitVec.ofInt 64 (QU0 s.jobs (rzZ s n.job).job).1.nodes &&& ~~~(BitVec.ofInt 64 (rzZ s n.job).nodes)).toNat)=_;rw [a.find];exact (a.less hg).2.1
theorem Q7f (hg:((rzT s n).getD (rzI s n.job) zH).grow=true)
  (h:((Q33 (QU0 s.jobs (((rzT s n).getD (rzI s n.job) zH).job)).1 (wu64 (BitVec.ofInt 64 (QU0 s.jobs (((rzT s n).getD (rzI s n.job) zH).job)).1.nodes ||| BitVec.ofInt 64 ((rzT s n).getD (rzI s n.job) zH).nodes).toNat)).2 != 0)=true):False:=by
 obtain ⟨j,a,_,_,e⟩:=rz_more hz hu hc hk hb hg;rw [e] at h;cases h
theorem Q6f (hg:((rzT s n).getD (rzI s n.job) zH).grow=false)
  (h:((Q33 (QU0 s.jobs (((rzT s n).getD (rzI s n.job) zH).job)).1 (wu64 (BitVec.ofInt 64 (QU0 s.jobs (((rzT s n).getD (rzI s n.job) zH).job)).1.nodes &&& ~~~(BitVec.ofInt 64 ((rzT s n).getD (rzI s n.job) zH).nodes)).toNat)).2 != 0)=true):False:=by
 obtain ⟨j,a,_,_,e⟩:=rz_less hz hu hc hk hb hg;rw [e] at h;cases h
theorem QAh (hg:((rzT s n).getD (rzI s n.job) zH).grow=true)
  (h:((Qe6 s.jobs (Q33 (QU0 s.jobs (((rzT s n).getD (rzI s n.job) zH).job)).1 (wu64 (BitVec.ofInt 64 (QU0 s.jobs (((rzT s n).getD (rzI s n.job) zH).job)).1.nodes ||| BitVec.ofInt 64 ((rzT s n).getD (rzI s n.job) zH).nodes).toNat)).1).2 != 0)=true):False:=by
 obtain ⟨j,a,h1,_,e⟩:=rz_more hz hu hc hk hb hg;obtain ⟨p,_,e2⟩:=a.put (a.more h1).2.2;rw [e,e2] at h;cases h
theorem Qzh (hg:((rzT s n).getD (rzI s n.job) zH).grow=false)
  (h:((Qe6 s.jobs (Q33 (QU0 s.jobs (((rzT s n).getD (rzI s n.job) zH).job)).1 (wu64 (BitVec.ofInt 64 (QU0 s.jobs (((rzT s n).getD (rzI s n.job) zH).job)).1.nodes &&& ~~~(BitVec.ofInt 64 ((rzT s n).getD (rzI s n.job) zH).nodes)).toNat)).1).2 != 0)=true):False:=by
 obtain ⟨j,a,h1,_,e⟩:=rz_less hz hu hc hk hb hg;obtain ⟨p,_,e2⟩:=a.put (a.less h1).2.2;rw [e,e2] at h;cases h
end
end
theorem list_idx:∀ (m K s:Nat) (out:List Int) (n:Nat),s<m->s<2 ^ K->s<18446744073709551616->(Q41 m (s:Int) out n).2.1=out++((List.range K).filter (fun k=>s.testBit k)).map (fun (k:Nat)=>((n+k:Nat):Int))
 | 0,_,_,_,_,h,_,_=>absurd h oA
 | m+1,K,s,out,n,hm,hK,hs=>by
  rw [Q41];rcases yNa s with h|h
  ·subst h;simp
  ·obtain ⟨K,rfl⟩:∃ k,K=k+1:=⟨K - 1,by
    rcases K with _|K
    ·simp at hK;omega
    ·rfl⟩
   rw [yga (show (s:Int) > 0 by omega)];have e1 : Int.tmod (s : Int) 2 = ((s % 2 : Nat) : Int) := rfl;have e2:Int.tdiv (s:Int) 2=((s / 2:Nat):Int):=rfl;have e3:wu64 ((s / 2:Nat):Int)=((s / 2:Nat):Int):=QG8 ⟨by omega,by omega⟩;rw [e1,e2,e3];rw [ysc] at hK;simp only [cond_true];have hr : ((List.range (K + 1)).filter (fun k => s.testBit k)).map (fun (k : Nat) => ((n + k : Nat) : Int)) = (if s % 2 = 1 then [(n : Int)] else []) ++ ((List.range K).filter (fun k => (s / 2).testBit k)).map (fun (k : Nat) => ((n + 1 + k : Nat) : Int)) := by
    rw [List.range_succ_eq_map,yAb,List.filter_map,y8b];have e:((fun k=>s.testBit k) ∘ Nat.succ)=fun k=>(s / 2).testBit k:=by
     funext k
     simp [yCb]
    have e4:∀ l:List Nat,(l.map Nat.succ).map (fun (k:Nat)=>((n+k:Nat):Int))=l.map (fun (k:Nat)=>((n+1+k:Nat):Int)):=by
     intro l;rw [List.map_map];refine yFb fun k _=>?_
     simp only [Function.comp];omega
    rw [e]
    by_cases hb : s % 2 = 1
    ·simp only [hb,decide_true,if_true,yjb,y6a,e4]
     rfl
    ·simp only [hb,decide_false,if_false,e4,y1a]
     rfl
   rw [hr];rcases yWb s with hb|hb
   ·rw [hb];show (Q41 m ((s / 2:Nat):Int) out (n+1)).2.1=_;rw [list_idx m K (s / 2) out (n+1) oA oA oA];simp
   ·rw [hb];show (Q41 m ((s / 2:Nat):Int) (out++[(n:Int)]) (n+1)).2.1=_;rw [list_idx m K (s / 2) _ (n+1) oA oA oA];simp
theorem list_eq {s:Int} (hs:U64 s):Qo0 s=Q40 s:=by
 rw [Qod hs];obtain ⟨n,rfl⟩:∃ n:Nat,s=(n:Int):=⟨s.toNat,by unfold U64 at hs;omega⟩;unfold Q40 Qt3;have hn:n<18446744073709551616:=by unfold U64 at hs;omega
 rw [yna,list_idx (n+1) 64 n [] 0 oA (by rw [pow64];exact hn) hn,y9a,← yRb];refine Eq.trans ?_ (yFb (g:=fun (k:Nat)=>((0+k:Nat):Int)) fun k _=>by rw [yma])
 rfl
theorem note_eq' (l:List Node) (n:Int):Qr6 l n=QR4 l n:=by
 unfold Qr6 QR4;rw [Qo4]
theorem notes_g1 (l:List Node):∀ (r:List Int) (out:List Note) (i:Nat),(QB2 l r out i).1=Q13 l r out i
 | [],_,_=>rfl
 | x :: r,out,i=>by
  rw [QB2,Q13,note_eq'];cases (QR4 l x).2 with
  | true=>exact notes_g1 l r _ _
  | false=>exact notes_g1 l r _ _
theorem notes_eq (l:List Node) (r:List Int):QX7 l r=Qb5 l r:=notes_g1 l r [] 0
def Act (act:Int):Prop:=act=2∨act=3∨act=4∨act=5∨act=6∨act=7
theorem one_at {act:Int} (ha:Act act) (x:Node) (job now:Int):Qi4 x act job now=(QF0 x act job now,QS4 x act job):=by
 rcases ha with rfl|rfl|rfl|rfl|rfl|rfl <;> rfl
theorem do_eq {act:Int} (ha:Act act) (l:List Node) (n job now:Int):Q44 l n act job now=QJ4 l n act job now:=by
 unfold Q44 QJ4;rw [one_at ha,← Qo4];cases hc:(Q80 l != 0) with
 | true =>
  have e:Q80 l=120:=by
   unfold Q80 at hc ⊢;cases h1:(((decide ((l.length:Int)<1))||(decide ((l.length:Int) > 48)))||(QI0 l (fun (y:Node)=>(!(QR0 y))))) with
   | true=>rfl
   | false=>rw [h1] at hc;cases hc
  rw [e];try rfl
 | false =>
  simp only [cond_false,y3a,QP3];cases decide (n<0) with
  | true=>rfl
  | false =>
   cases decide (n >= (l.length:Int)) with
   | true=>rfl
   | false =>
    simp only [y3a];have e:(!((decide (now >= 0))&&(decide (now<=1000000))))=((decide (now<0))||(decide (now > 1000000))):=by
     rw [yMa];simp only [y4a,yOb,y2a,yfa,yGa];omega
    rw [e];cases ((decide (now<0))||(decide (now > 1000000))) with
    | true=>rfl
    | false =>
     simp only [y3a,cond_false];cases QS4 (l.getD (n.toNat) zF) act job with
     | false=>rfl
     | true =>
      unfold Qm9;rw [one_at ha]
theorem sends_eq (act:Int):QW3 act=((((((act==1)||(act==2))||(act==3))||(act==5))||(act==7))||(act==10)):=by
 unfold QW3 QA3;cases act==1 <;> cases act==2 <;> cases act==3 <;> cases act==5 <;> cases act==7 <;> cases act==10 <;> rfl
theorem each_g1 {act:Int} (ha:Act act) {S:Int} (hs:U64 S) (job now:Int):∀ (r:List Int) (c:List Node) (i:Nat),Q12 S act job now r i c=Ql2 S act job now r c i
 | [],c,i=>by
  rw [Q12,Ql2,sends_eq,notes_eq,list_eq hs]
 | x :: r,c,i=>by
  rw [Q12,Ql2,do_eq ha];cases h:((QJ4 c x act job now).2 != 0) with
  | true =>
   have:((QJ4 c x act job now).2==0)=false:=by simpa using h
   rw [this]
   rfl
  | false =>
   have:((QJ4 c x act job now).2==0)=true:=by simpa using h
   rw [this];exact each_g1 ha hs job now r _ (i+1)
theorem each_eq {act:Int} (ha:Act act) {S:Int} (hs:U64 S) (l:List Node) (job now:Int):QM2 l S act job now=Qv0 l S act job now:=by
 unfold Qv0 QM2;rw [← Qo4,← list_eq hs,each_g1 ha hs];cases hc:(Q80 l != 0) with
 | true =>
  have e:Q80 l=120:=by
   unfold Q80 at hc ⊢;cases h1:(((decide ((l.length:Int)<1))||(decide ((l.length:Int) > 48)))||(QI0 l (fun (y:Node)=>(!(QR0 y))))) with
   | true=>rfl
   | false=>rw [h1] at hc;cases hc
  rw [e]
 | false=>rfl
theorem with_true (r_:Resize):∀ (l out:List Resize) (i:Nat),(QB0 r_ l out true i).1=out++l∧(QB0 r_ l out true i).2.1=true
 | [],out,i=>by simp [QB0]
 | x :: r,out,i=>by
  rw [QB0];have:=with_true r_ r (out++[x]) (i+1);simpa using this
theorem with_false (r_:Resize):∀ (A B out:List Resize) (i:Nat),(∀ x ∈ A,x.job<=r_.job)->(∀ x ∈ B,x.job > r_.job) ->
  Qa3 r_ (QB0 r_ (A++B) out false i).1 (QB0 r_ (A++B) out false i).2.1 (QB0 r_ (A++B) out false i).2.2=out++A++[r_]++B
 | [],[],out,i,_,_=>by simp [QB0,Qa3]
 | [],x :: r,out,i,_,hB=>by
  have hx:=hB x (yqa ..);rw [y9a,QB0,yga hx];have:=with_true r_ r ((out++[r_])++[x]) (i+1);simp only [yJb,Bool.and_true,cond_true];unfold Qa3;rw [this.1,this.2];simp
 | x :: A,B,out,i,hA,hB=>by
  have hx:=hA x (yqa ..);rw [yQb,QB0,yka oA];have:=with_false r_ A B (out++[x]) (i+1) (fun y hy=>hA y (yha _ hy)) hB;simp only [yJb,Bool.and_false,cond_false];rw [this];simp
theorem with_eq (r_:Resize) (A B:List Resize) (hA:∀ x ∈ A,x.job<=r_.job) (hB:∀ x ∈ B,x.job > r_.job):QM5 (A++B) r_=A++[r_]++B:=by
 unfold QM5;rw [with_false r_ A B [] 0 hA hB];simp
theorem has09 {x:Int} (hx:U64 x) (n:Int):Qu8 x n=QV0 x n:=by
 rcases Int.lt_or_le n 0 with h|h
 ·unfold Qu8 QV0;rw [yga h,yka (show ¬ n >= 0 by omega)]
  rfl
 ·obtain ⟨k,rfl⟩:∃ k:Nat,n=(k:Int):=⟨n.toNat,by omega⟩;exact has_eq hx k
theorem add_bit {x:Int} (hx:U64 x) {k:Nat} (hk:k<64) (h:tb x k=false):wu64 (x+(2:Int) ^ k)=wu64 (BitVec.ofInt 64 x ||| BitVec.ofInt 64 ((2:Int) ^ k)).toNat:=by
 have hp:=pow_U hk;have d:BitVec.ofInt 64 x &&& BitVec.ofInt 64 ((2:Int) ^ k)=0#64:=by
  refine BitVec.eq_of_getLsbD_eq fun i hi=>?_
  rw [BitVec.getLsbD_and,Qi8 hx,Qi8 hp,tb_pow]
  by_cases e:k=i
  ·subst e;rw [h];simp
  ·simp [e]
 rw [← BitVec.add_eq_or_of_and_eq_zero _ _ d];have hx':(BitVec.ofInt 64 x).toNat=x.toNat:=by
  rw [yvc];unfold U64 at hx;have : x % ((2 ^ 64 : Nat) : Int) = x := Int.emod_eq_of_lt hx.1 (by have := hx.2; simpa using this);rw [this]
 have hp':(BitVec.ofInt 64 ((2:Int) ^ k)).toNat=((2:Int) ^ k).toNat:=by
  rw [yvc];unfold U64 at hp;have : ((2 : Int) ^ k) % ((2 ^ 64 : Nat) : Int) = (2 : Int) ^ k := Int.emod_eq_of_lt hp.1 (by have := hp.2; simpa using this);rw [this]
 rw [BitVec.toNat_add,hx',hp'];unfold U64 at hx hp;have : ((x.toNat + ((2 : Int) ^ k).toNat) % 2 ^ 64 : Nat) = ((x + (2 : Int) ^ k) % 18446744073709551616).toNat := by
  have:(2:Nat) ^ 64=18446744073709551616:=by decide
  rw [this];omega
 rw [this,wu64_eq,wu64_eq];omega
section
variable {s t:State} {id:Int}
structure Off (s t:State) (id:Int):Prop where
 g:Good s
 now:t.now=s.now
 books:t.books=s.books
 ledger:t.ledger=s.ledger
 nextJob:t.nextJob=s.nextJob
 nextBook:t.nextBook=s.nextBook
 len:t.nodes.length=s.nodes.length
 fleet:Q80 t.nodes=0
 off:∀ k,k<s.nodes.length->t.nodes.getD k zF=s.nodes.getD k zF∨(((s.nodes.getD k zF).job=id∨(s.nodes.getD k zF).job=0)∧(t.nodes.getD k zF).job=id)
 table:QK1 t.jobs=0
 ids:t.jobs.map (·.id)=s.jobs.map (·.id)
 jobs:∀ j,j.id ≠ id->(j ∈ t.jobs ↔ j ∈ s.jobs)
 job:∃ j ∈ t.jobs,j.state=2∧j.id=id
 sorted:t.resizes.Pairwise (fun a b=>a.job<b.job)
 resizes:∀ r,r.job ≠ id->(r ∈ t.resizes ↔ r ∈ s.resizes)
section
variable (o:Off s t id)
include o
end
end
section
variable {s:State} {r:Resize} {j:Job} (a:RzAt s r j)
include a
end
structure Asked (s:State) (j:Job):Prop where
 g:Good s
 u:WU s
 hj:j ∈ s.jobs
 st:j.state=2
 kind:j.shape.kind=3
 quiet:∀ k,tb j.nodes k=true->(s.nodes.getD k zF).want=0
 no:∀ r ∈ s.resizes,r.job ≠ j.id
section
variable {s t:State} {j:Job} (b:Asked s j)
include b
theorem Asked.held {k:Nat}:tb j.nodes k=true ↔ (k<s.nodes.length∧(s.nodes.getD k zF).job=j.id∧(s.nodes.getD k zF).state=1):=b.g.held j b.hj b.st k
theorem Asked.each5 {S:Int} (hS:U64 S) (hin:∀ k,k<64->tb S k=true->tb j.nodes k=true) :
  Qv0 s.nodes S 5 0 s.now=(turnP (tb S) (fun x=>QF0 x 5 0 s.now) s.nodes,bif QW3 5 then Qb5 (turnP (tb S) (fun x=>QF0 x 5 0 s.now) s.nodes) (Qo0 S) else [],0)∧Q80 (turnP (tb S) (fun x=>QF0 x 5 0 s.now) s.nodes)=0 :=
 each_ok hS (QM7 b.g) (Q8d b.g) fun k hk hb=>by
  have hj:=hin k hk hb;obtain ⟨h1,h2,h3⟩:=b.held.1 hj;have hq:=b.quiet k hj;have hn:=good_now b.g;have hf:=(QN8 _).1 (Qwg b.g h1);refine ⟨h1,(act5 _ s.now).2.2 ⟨h3,hq⟩,?_⟩;rw [(act5 _ s.now).1,QN8];dsimp only;omega
end
theorem few_room {s:State} (h:Q16 s=true):s.resizes.length<4294967296:=by
 simp only [Q16,yea,yfa] at h;have:=h.2;omega
section
variable {s:State}
theorem check_141 (hc:((Qz0 s)!=0)=true):Qz0 s=141:=by
 cases hp:(QL2 s != 0) with
 | true =>
  unfold Qz0;rw [hp]
  rfl
 | false =>
  have e:Qz0 s=QT1 s (QR1 s.jobs 0 0) (QS1 s.books 0 0) (Qy0 s.jobs 0 []) s.resizes 0 []:=by
   unfold Qz0 QD4 QE4 QN3;rw [hp]
   rfl
  obtain ⟨_,p2⟩:=g4_iff s (QR1 s.jobs 0 0) (QS1 s.books 0 0) (Qy0 s.jobs 0 []) s.resizes 0 [] (by simp) oA;rw [← e] at p2;rcases p2 with h|h
  ·rw [h] at hc;cases hc
  ·exact h
theorem ref_check (hz:s.sz) (hu:WU s):Qn3 s=Qz0 s:=(state_eq (hu.words hz)).symm
theorem resizing_at {r:Resize} {j:Job} (hz:s.sz) (a:RzAt s r j):Q93 s r.job=(r,true):=by
 unfold Q93;have e:QU5 s r.job=r:=QGd _ 0 r a.hr a.g.sorted;have h:Qz0 s=0:=(good_iff (a.u.words hz)).2 a.g;rw [e,ref_check hz a.u,h];have:(r.nodes==0)=false:=by simpa using a.res.1.2.1
 rw [this]
 rfl
theorem resizing_no {id:Int} (h:∀ r ∈ s.resizes,r.job ≠ id):Q93 s id=(zH,false):=by
 unfold Q93;have e:QU5 s id=zH:=rof_none _ 0 id h;rw [e]
 rfl
theorem no_place (hz:s.sz) (hu:WU s) (hc:((Qz0 s)!=0)=false) {id:Int} (h:QG1 id=false∨(Q00 s.resizes id bsrF).2=false):∀ r ∈ s.resizes,r.job ≠ id:=by
 have g:=rz_good hz hu hc;intro r hr e;have hb:=good_resz g r hr;have hk:QG1 id=true:=by unfold QG1;simp;omega
 rcases h with h|h
 ·rw [hk] at h;cases h
 ·obtain ⟨p,h1,h2,h3,h4,h5⟩:=rz_place hz hu hc hk;obtain ⟨k,hkl,hke⟩:=Qsd zH hr;have hkp:k=p:=by
   rcases yob k p with hq|hq|hq
   ·have:=h3 k hq;rw [hke] at this;omega
   ·exact hq
   ·have h6:=h4 p (yla _) oA;have h7:=List.pairwise_iff_getElem.1 g.sorted p k oA hkl hq;rw [List.getD,yaa hkl] at hke;rw [List.getD,yaa (show p<s.resizes.length by omega)] at h6;simp only [yEa] at hke h6;rw [hke] at h7;omega
  subst hkp;rw [h5.2 ⟨hkl,by rw [hke];exact e⟩] at h;cases h
theorem rz_at' (hz:s.sz) (hu:WU s) (hc:((Qz0 s)!=0)=false) {id:Int} (hk:QG1 id=true) (hb:(Q00 s.resizes id bsrF).2=true) :
  ∃ (p:Nat) (j:Job),Q00 s.resizes id bsrF=((p:Int),true)∧p<s.resizes.length∧RzAt s (s.resizes.getD p zH) j∧(s.resizes.getD p zH).job=id:=by
 obtain ⟨j,a,hid,hi,hp⟩:=rz_at hz hu hc hk hb;exact ⟨rzI s id,j,Prod.ext hp hb,hi,a,hid⟩
theorem Qrg (S act job now:Int):∀ (r:List Int) (l:List Node) (i:Nat),((Ql2 S act job now r l i).1).length<=l.length
 | [],l,i=>by
  unfold Ql2;rw [yAa];split <;> exact yla _
 | x :: r,l,i=>by
  unfold Ql2;rw [yAa];split
  ·exact yva _
  ·have:=QWe l x act job now;have:=Qrg S act job now r ((QJ4 l x act job now).1) (i+1);omega
theorem each13_len (l:List Node) (S act job now:Int):((QM2 l S act job now).1).length<=l.length:=by
 unfold QM2;rw [yAa];split
 ·exact yva _
 ·exact Qrg ..
end
theorem small_sz:law26_small.sz:=⟨by decide,by decide,fun y hy=>by rw [List.mem_singleton.1 hy];exact ⟨by decide,by decide,by decide,(by decide:(0:Nat)<=4294967296),by decide⟩,by decide,by decide,by decide,fun _ h=>absurd h ybb⟩
theorem Q3e:(Qp0 law26_small 5 3).1.jobs=law26_small.jobs:=by kernel_rfl
theorem begun_nodes:((Qp0 law26_small 5 3).1.nodes).length=4:=by kernel_rfl
theorem QNc:(Qp0 law26_small 5 3).1.resizes.map (fun r=>(r.job,r.nodes,r.said))=[(5,4,0)]:=by kernel_rfl
theorem begun_books:(Qp0 law26_small 5 3).1.books=[]:=by kernel_rfl
theorem Qze:(Qp0 law26_small 5 3).1.ledger=[]:=by kernel_rfl
theorem begun_sz:(Qp0 law26_small 5 3).1.sz:=by
 refine ⟨by rw [begun_nodes];decide,by rw [Q3e];exact small_sz.2.1,by rw [Q3e];exact small_sz.2.2.1,?_,by rw [begun_books];decide,by rw [Qze];decide,by rw [Qze];exact fun _ h=>absurd h ybb⟩;have e:=congrArg List.length QNc;rw [ypb] at e;rw [e]
 decide
theorem begun_wu:WU (Qp0 law26_small 5 3).1:=by
 refine ⟨?_,?_⟩
 ·rw [Q3e];intro y hy;rw [List.mem_singleton.1 hy];exact ⟨by decide,by decide⟩
 ·intro r hr;have h:=List.mem_map_of_mem (f:=fun r:Resize=>(r.job,r.nodes,r.said)) hr;rw [QNc] at h;have h:=List.mem_singleton.1 h
  injection h with h1 h2
  injection h2 with h2 h3
  rw [h2,h3];exact ⟨⟨by decide,by decide⟩,⟨by decide,by decide⟩⟩
set_option maxRecDepth 20000
set_option maxHeartbeats 4000000
attribute [local irreducible] ACalls AMoves
theorem agC {P:Program} {f:FuncId} {args:List AVal} {objs:Objs} {r:AVal} (h:ACalls P f args objs fun r' o'=>r'=r∧o'=objs):AGives P f args objs r:=h
def Qw6 (s:State) (n:Note):State × (List Note) × Int:=bif ((QG1 n.job)&&(Q00 s.resizes n.job bsrF).2) then bif ((Qz0 s)!=0) then (zK,[],(Qz0 s)) else (fun bs:Int × Bool=>bif ((((!true)||(!((n.kind==8)||(n.kind==9))))||(!(QV0 (wu64 (BitVec.ofInt 64 (s.resizes.getD (bs.1.toNat) zH).nodes &&& ~~~(BitVec.ofInt 64 (s.resizes.getD (bs.1.toNat) zH).said)).toNat) n.node)))||((s.nodes.getD (n.node.toNat) zF).epoch != n.epoch)) then (zK,[],230) else bif (n.kind==9) then bif (s.resizes.getD (bs.1.toNat) zH).grow then (fun ea:(List Node) × (List Note) × Int=>({ s with nodes:=ea.1,resizes:=(QN4 s.resizes bs.1 (w64 (bs.1+1))) },ea.2.1,0)) (Qv0 s.nodes ((s.resizes.getD (bs.1.toNat) zH).nodes) 7 0 s.now) else (fun ea1:(List Node) × (List Note) × Int=>({ s with nodes:=ea1.1,resizes:=(QN4 s.resizes bs.1 (w64 (bs.1+1))) },ea1.2.1,0)) (Qv0 s.nodes (wu64 (BitVec.ofInt 64 (s.resizes.getD (bs.1.toNat) zH).nodes &&& ~~~(BitVec.ofInt 64 (s.resizes.getD (bs.1.toNat) zH).said)).toNat) 6 0 s.now) else (fun ea2:(List Node) × (List Note) × Int=>(fun tw:List Resize=>bif ((tw.getD (bs.1.toNat) zH).said==(tw.getD (bs.1.toNat) zH).nodes) then bif (tw.getD (bs.1.toNat) zH).grow then (fun ea3:(List Node) × (List Note) × Int=>(fun tf:Job × Bool=>(fun jz:Job × Int=>(fun tp:(List Job) × Int=>({ s with nodes:=ea3.1,jobs:=tp.1,resizes:=(QN4 tw bs.1 (w64 (bs.1+1))) },(ea2.2.1++ea3.2.1),0)) (Qe6 s.jobs jz.1)) (Q33 tf.1 (wu64 (BitVec.ofInt 64 tf.1.nodes ||| BitVec.ofInt 64 (tw.getD (bs.1.toNat) zH).nodes).toNat))) (QU0 s.jobs ((tw.getD (bs.1.toNat) zH).job))) (Qv0 ea2.1 ((tw.getD (bs.1.toNat) zH).nodes) 3 0 s.now) else (fun ea4:(List Node) × (List Note) × Int=>(fun tf1:Job × Bool=>(fun jz1:Job × Int=>(fun tp1:(List Job) × Int=>({ s with nodes:=ea4.1,jobs:=tp1.1,resizes:=(QN4 tw bs.1 (w64 (bs.1+1))) },(ea2.2.1++ea4.2.1),0)) (Qe6 s.jobs jz1.1)) (Q33 tf1.1 (wu64 (BitVec.ofInt 64 tf1.1.nodes &&& ~~~(BitVec.ofInt 64 (tw.getD (bs.1.toNat) zH).nodes)).toNat))) (QU0 s.jobs ((tw.getD (bs.1.toNat) zH).job))) (Qv0 ea2.1 ((tw.getD (bs.1.toNat) zH).nodes) 7 0 s.now) else ({ s with nodes:=ea2.1,resizes:=tw },ea2.2.1,0)) (s.resizes.set (bs.1.toNat) { (s.resizes.getD (bs.1.toNat) zH) with said:=(wu64 (BitVec.ofInt 64 (s.resizes.getD (bs.1.toNat) zH).said ||| BitVec.ofInt 64 (QS0 ([n.node]:List Int)).1).toNat) })) (Qv0 s.nodes ((QS0 ([n.node]:List Int)).1) 4 0 s.now)) (Q00 s.resizes n.job bsrF) else bif ((Qz0 s)!=0) then (zK,[],(Qz0 s)) else bif (QG1 n.job) then (fun bs:Int × Bool=>(zK,[],230)) (Q00 s.resizes n.job bsrF) else (zK,[],230)
theorem QB1 {P:Prop} (h:P:=by first|((subst_vars;with_reducible exact rz_len hk0 hp0 (by assumption) (by assumption) (by assumption) (by assumption)))|first|((subst_vars;with_reducible exact find_sz (by assumption) _))|first|((subst_vars;with_reducible exact size_sz (find_sz (by assumption) _) _))|exact szA):P:=h
theorem resize_Say_c (s:State) (n:Note) (hs0:s.sz) (hp0:WU s):GV 14 [State.a s,Note.a n] (AVal.tup [State.a ((Qw6 s n).1),noteL ((Qw6 s n).2.1),I ((Qw6 s n).2.2)]):=by
 generalize hR:Qw6 s n=R;refine gA (kp 13 [19,27,88,98,148]) Tryz.func14 ?_;have hk0:=hs0;obtain ⟨z46,z47,z48,z49,z50,z51,z52⟩:=hs0;cases h1:((QG1 n.job)&&(Q00 s.resizes n.job bsrF).2)
 ·skip;refine ACalls.of_cwp (fun _=>true) Tryz.func30 rfl rfl ?_;refine us (QY8 s QB1 _) ?_;refine ai (fun h2=>?_) (fun h3=>?_)
  ·refine ⟨_,_,Told.refl,?_⟩;apply ai<;>intro h4
   ·refine ACalls.of_cwp (fun _=>true) Tryz.func31 rfl rfl ?_;apply ai<;>intro h6
    ·refine dchk (by kernel_rfl) ?_;(repeat ((first|refine ai rfl ?_|refine ai (fun _=>rfl) ?_)));refine ⟨_,_,Told.refl,?_⟩;exact lfA
    ·exfalso;exact Bool.noConfusion (h2.symm.trans h6)
   ·exfalso;exact Bool.noConfusion (h2.symm.trans h4)
  ·refine us (state_Copy_c s QB1 _) ?_;refine ⟨_,_,Told.refl,?_⟩;refine ai (fun h=>nomatch h) (fun _=>?_);refine us (QO9 n.job _) ?_;refine ai (fun h8=>?_) (fun h9=>?_)
   ·refine ACalls.of_cwp (fun _=>true) Tryz.func39 rfl rfl ?_;refine us (bsr_c s.resizes n.job QB1 _) ?_;generalize hvbs:Q00 s.resizes n.job bsrF=bs;have qbs:bs.2=true->0<=bs.1∧bs.1<(s.resizes.length:Int)∧w64 (bs.1+1)=bs.1+1:=(by rw [← hvbs];exact fun h=>bsr_at (by rw [h];rfl) (by assumption));have qbbs:bs.2=false:=(by rw [← hvbs];have q:=h1;rw [show QG1 n.job=true by assumption] at q;exact q);rw [qbbs];refine ⟨_,_,Told.refl,?_⟩;refine dchk (by kernel_rfl) ?_;(conv=>whnf);refine ai (fun hg=>nomatch (show false=true from hg)) ?_;(conv=>whnf);refine ai (fun hg=>nomatch (show false=true from hg)) ?_;(first|refine ⟨Bo false,_,fun h=>absurd h (by decide),fun _=>rfl,?_⟩|refine ⟨Bo false,fun h=>absurd h (by decide),?_⟩|refine ⟨Bo false,_,fun h=>absurd h (by simp),fun _=>rfl,?_⟩|refine ⟨Bo false,fun h=>absurd h (by simp),?_⟩);(conv=>whnf);refine ai (fun hg=>nomatch (show false=true from hg)) ?_;(repeat ((first|refine ai rfl ?_|refine ai (fun _=>rfl) ?_)));refine ai (fun _=>?_) (fun h=>nomatch h);refine ACalls.of_cwp (fun _=>true) Tryz.func33 rfl rfl ?_;refine ai (fun _=>?_) (fun h=>nomatch h);refine ⟨_,_,Told.refl,?_⟩;refine ACalls.of_cwp (fun _=>true) Tryz.func31 rfl rfl ?_;refine ai (fun _=>?_) (fun h=>nomatch h);refine dchk (by kernel_rfl) ?_;(repeat ((first|refine ai rfl ?_|refine ai (fun _=>rfl) ?_)));refine ⟨_,_,Told.refl,?_⟩;obtain rfl:=foll hR (cf h1 (cf h3 (ct h8 (by subst hvbs;exact rfl))));first|exact Qc0 (Low.tup' (.cons (State.low _ _) (.cons lw (l1 .nil)))) (Seen.tup (ev (Seen.agg (e1 (ev (Q30) (ev (Q30) (ev (Q30) (ev (Q30) (ev (Q30) (e1 (e1 .nil))))))))) (ev (Q30) (e1 .nil))))|(subst hvbs;exact Qc0 (Low.tup' (.cons (State.low _ _) (.cons lw (l1 .nil)))) (Seen.tup (ev (Seen.agg (e1 (ev (Q30) (ev (Q30) (ev (Q30) (ev (Q30) (ev (Q30) (e1 (e1 .nil))))))))) (ev (Q30) (e1 .nil)))))
   ·refine dchk (by kernel_rfl) ?_;(conv=>whnf);refine ai (fun hg=>nomatch (show false=true from hg)) ?_;(conv=>whnf);refine ai (fun hg=>nomatch (show false=true from hg)) ?_;(first|refine ⟨Bo false,_,fun h=>absurd h (by decide),fun _=>rfl,?_⟩|refine ⟨Bo false,fun h=>absurd h (by decide),?_⟩|refine ⟨Bo false,_,fun h=>absurd h (by simp),fun _=>rfl,?_⟩|refine ⟨Bo false,fun h=>absurd h (by simp),?_⟩);(conv=>whnf);refine ai (fun hg=>nomatch (show false=true from hg)) ?_;(repeat ((first|refine ai rfl ?_|refine ai (fun _=>rfl) ?_)));refine ai (fun _=>?_) (fun h=>nomatch h);refine ACalls.of_cwp (fun _=>true) Tryz.func33 rfl rfl ?_;refine ai (fun _=>?_) (fun h=>nomatch h);refine ⟨_,_,Told.refl,?_⟩;refine ACalls.of_cwp (fun _=>true) Tryz.func31 rfl rfl ?_;refine ai (fun _=>?_) (fun h=>nomatch h);refine dchk (by kernel_rfl) ?_;(repeat ((first|refine ai rfl ?_|refine ai (fun _=>rfl) ?_)));refine ⟨_,_,Told.refl,?_⟩;exact lfA
 ·skip;refine ACalls.of_cwp (fun _=>true) Tryz.func30 rfl rfl ?_;refine us (QY8 s QB1 _) ?_;refine ai (fun h10=>?_) (fun h11=>?_)
  ·refine ⟨_,_,Told.refl,?_⟩;apply ai<;>intro h12
   ·refine ACalls.of_cwp (fun _=>true) Tryz.func31 rfl rfl ?_;apply ai<;>intro h14
    ·refine dchk (by kernel_rfl) ?_;(repeat ((first|refine ai rfl ?_|refine ai (fun _=>rfl) ?_)));refine ⟨_,_,Told.refl,?_⟩;exact lfA
    ·exfalso;exact Bool.noConfusion (h10.symm.trans h14)
   ·exfalso;exact Bool.noConfusion (h10.symm.trans h12)
  ·refine us (mv [] (Qxb s QB1) .nil (dv (QI7 (Low.agg' (State.lo))) .nil) (rO rr .nil) (ren_agg (r1 (rv (Ren.low _ lw) (rv (Ren.low _ lw) (.cons _ _ _ _ (rw_ 4 0 rfl) (rv (Ren.low _ lw) (rv (Ren.low _ lw) (r1 (r1 .nil)))))))))) ?_;refine ⟨_,_,Told.refl,?_⟩;refine ai (fun h=>nomatch h) (fun _=>?_);refine us (QO9 n.job _) ?_;apply ai<;>intro h16
   ·refine ACalls.of_cwp (fun _=>true) Tryz.func39 rfl rfl ?_;refine us (AGives.lent (bsr_c s.resizes n.job QB1 []) (ev (Qe0 _ _ rfl eqA lnA) (e1 (e1 .nil))) (.cons lw (l1 (.cons (Low.fn _ _ _ LowL.nil LowL.nil) .nil))) (QT2 rfl)) ?_;generalize hvbs:Q00 s.resizes n.job bsrF=bs;have qbs:bs.2=true->0<=bs.1∧bs.1<(s.resizes.length:Int)∧w64 (bs.1+1)=bs.1+1:=(by rw [← hvbs];exact fun h=>bsr_at (by rw [h];rfl) (by assumption));have qbbs:bs.2=true:=(by rw [← hvbs];exact ((yea _ _).mp h1).2);rw [qbbs];refine ⟨_,_,Told.refl,?_⟩;refine dchk (by kernel_rfl) ?_;refine And.intro (by first|exact fun hg=>yga (by first|((have hq:=qbs (by assumption);omega))|first|((subst_vars;exact rz_in hk0 hp0 (by assumption) (by assumption) (by assumption) hg))|exact ckA)|exact gkA) ?_;refine ⟨_,QL0 rfl rfl rfl (Qa1 zH (bs.1.toNat) (by first|rfl|exact yma _|omega) (by first|((have hq:=qbs (by assumption);omega))|first|((subst_vars;exact rz_in hk0 hp0 (by assumption) (by assumption) (by assumption) hg))|exact ckA)) rfl,?_⟩;refine And.intro (by first|exact fun hg=>yga (by first|((have hq:=qbs (by assumption);omega))|first|((subst_vars;exact rz_in hk0 hp0 (by assumption) (by assumption) (by assumption) hg))|exact ckA)|exact gkA) ?_;refine ⟨_,QL0 rfl rfl rfl (Qa1 zH (bs.1.toNat) (by first|rfl|exact yma _|omega) (by first|((have hq:=qbs (by assumption);omega))|first|((subst_vars;exact rz_in hk0 hp0 (by assumption) (by assumption) (by assumption) hg))|exact ckA)) rfl,?_⟩;(first|apply u2|apply u3|apply u4|apply us);exact QR8 (wu64 (BitVec.ofInt 64 (s.resizes.getD (bs.1.toNat) zH).nodes &&& ~~~(BitVec.ofInt 64 (s.resizes.getD (bs.1.toNat) zH).said)).toNat) n.node _;refine And.intro (by first|exact fun hg=>yga (by first|((have hq:=qbs (by assumption);omega))|first|((subst_vars;exact rz_in hk0 hp0 (by assumption) (by assumption) (by assumption) hg))|exact ckA)|exact gkA) ?_;(repeat ((first|refine ai rfl ?_|refine ai (fun _=>rfl) ?_|refine And.intro (QL0 rfl rfl rfl (Qa1 zH (bs.1.toNat) (by first|rfl|exact yma _|omega) (by first|((have hq:=qbs (by assumption);omega))|first|((subst_vars;exact rz_in hk0 hp0 (by assumption) (by assumption) (by assumption) hg))|exact ckA)) rfl) ?_|refine And.intro (QL0 rfl rfl rfl (Qa1 zH (bs.1.toNat) (by first|rfl|exact yma _|omega) (by first|((have hq:=qbs (by assumption);omega))|first|((subst_vars;exact rz_in hk0 hp0 (by assumption) (by assumption) (by assumption) hg))|exact ckA)) rfl) ?_|refine ai (fun _=>QR8 (wu64 (BitVec.ofInt 64 (s.resizes.getD (bs.1.toNat) zH).nodes &&& ~~~(BitVec.ofInt 64 (s.resizes.getD (bs.1.toNat) zH).said)).toNat) n.node _) ?_)));refine ai (fun h18=>?_) (fun h19=>?_)
    ·refine ACalls.of_cwp (fun _=>true) Tryz.func33 rfl rfl ?_;refine ai (fun _=>?_) (fun h=>nomatch h);refine ⟨_,_,Told.refl,?_⟩;refine ACalls.of_cwp (fun _=>true) Tryz.func31 rfl rfl ?_;refine ai (fun _=>?_) (fun h=>nomatch h);refine dchk (by kernel_rfl) ?_;(repeat ((first|refine ai rfl ?_|refine ai (fun _=>rfl) ?_)));refine ⟨_,_,Told.refl,?_⟩;obtain rfl:=foll hR (ct h1 (cf h11 (by subst hvbs;exact ct h18 rfl)));first|exact Qc0 (Low.tup' (.cons (State.low _ _) (.cons lw (l1 .nil)))) (Seen.tup (ev (Seen.agg (e1 (ev (Q30) (ev (Q30) (ev (Q30) (ev (Q30) (ev (Q30) (e1 (e1 .nil))))))))) (ev (Q30) (e1 .nil))))|(subst hvbs;exact Qc0 (Low.tup' (.cons (State.low _ _) (.cons lw (l1 .nil)))) (Seen.tup (ev (Seen.agg (e1 (ev (Q30) (ev (Q30) (ev (Q30) (ev (Q30) (ev (Q30) (e1 (e1 .nil))))))))) (ev (Q30) (e1 .nil)))))
    ·refine ai (fun h20=>?_) (fun h21=>?_)
     ·refine ACalls.of_cwp (fun _=>true) Tryz.func59 rfl rfl ?_;refine ACalls.of_cwp (fun _=>true) Tryz.func116 rfl rfl ?_;refine And.intro (by first|exact fun hg=>yga (by first|((have hq:=qbs (by assumption);omega))|first|((subst_vars;exact rz_in hk0 hp0 (by assumption) (by assumption) (by assumption) hg))|exact ckA)|exact gkA) ?_;refine ⟨_,QL0 rfl rfl rfl (Qa1 zH (bs.1.toNat) (by first|rfl|exact yma _|omega) (by first|((have hq:=qbs (by assumption);omega))|first|((subst_vars;exact rz_in hk0 hp0 (by assumption) (by assumption) (by assumption) hg))|exact ckA)) rfl,?_⟩;refine us (mv [4] (Qic s.resizes bs.1 (w64 (bs.1+1)) QB1 (by (have hq:=qbs (by assumption);rw [hq.2.2];omega))) (dO (dr eqA) .nil) (dv (QS6 rfl lnA) (d1 (d1 .nil))) (rO rr .nil) (rw_ 8 0 rfl)) ?_;refine ⟨_,_,Told.refl,?_⟩;apply ai<;>intro h22
      ·refine ACalls.of_cwp (fun _=>true) Tryz.func38 rfl rfl ?_;refine ai (fun h=>nomatch h) (fun _=>?_);refine dchk (by kernel_rfl) ?_;(first|apply u2|apply u3|apply u4|apply us);exact QE1 s.nodes ((s.resizes.getD (bs.1.toNat) zH).nodes) 7 0 s.now QB1 _;generalize hvea:Qv0 s.nodes ((s.resizes.getD (bs.1.toNat) zH).nodes) 7 0 s.now=ea;(have qea:ea.2.1.length<=64:=by rw [← hvea];exact Qz3 _ _ _ _ _);(repeat ((first|refine ai rfl ?_|refine ai (fun _=>rfl) ?_|refine ai (fun _=>by subst hvea;exact QE1 s.nodes ((s.resizes.getD (bs.1.toNat) zH).nodes) 7 0 s.now QB1 _) ?_)));apply ai<;>intro h24
       ·exfalso;subst_vars;with_reducible first|(apply Qvb (n:=n) hk0 hp0 <;> assumption)|(apply Qxh (n:=n) hk0 hp0 <;> assumption)|(apply Qwh (n:=n) hk0 hp0 <;> assumption)|(apply Qyh (n:=n) hk0 hp0 <;> assumption)|(apply Q9a (n:=n) hk0 hp0 <;> assumption)
       ·(first|refine ⟨Qn1 32 rfl lnA apA,?_⟩|refine ⟨QD0 32 rfl apA,?_⟩);refine ⟨_,_,Told.refl,?_⟩;refine ⟨_,_,Told.refl,?_⟩;refine ACalls.of_cwp (fun _=>true) Tryz.func31 rfl rfl ?_;refine ai (fun h=>nomatch h) (fun _=>?_);refine dchk (by kernel_rfl) ?_;(repeat ((first|refine ai rfl ?_|refine ai (fun _=>rfl) ?_)));refine ⟨_,_,Told.refl,?_⟩;obtain rfl:=foll hR (ct h1 (cf h11 (by subst hvbs;exact cf h19 (ct h20 (ct h22 (by subst hvea;exact rfl))))));first|exact Qc0 (Low.tup' (.cons (State.low _ _) (.cons lw (l1 .nil)))) (Seen.tup (ev (Seen.agg (e1 (e1 (e1 (ev (Qe0 zH _ rfl eqA lnA) (e1 (e1 (e1 (e1 .nil))))))))) (ev (Qe0 zL _ rfl eqA lnA) (e1 .nil))))|(subst hvbs hvea;exact Qc0 (Low.tup' (.cons (State.low _ _) (.cons lw (l1 .nil)))) (Seen.tup (ev (Seen.agg (e1 (e1 (e1 (ev (Qe0 zH _ rfl eqA lnA) (e1 (e1 (e1 (e1 .nil))))))))) (ev (Qe0 zL _ rfl eqA lnA) (e1 .nil)))))
      ·refine ACalls.of_cwp (fun _=>true) Tryz.func38 rfl rfl ?_;refine ai (fun h=>nomatch h) (fun _=>?_);refine dchk (by kernel_rfl) ?_;(first|apply u2|apply u3|apply u4|apply us);exact QE1 s.nodes (wu64 (BitVec.ofInt 64 (s.resizes.getD (bs.1.toNat) zH).nodes &&& ~~~(BitVec.ofInt 64 (s.resizes.getD (bs.1.toNat) zH).said)).toNat) 6 0 s.now QB1 _;generalize hvea1:Qv0 s.nodes (wu64 (BitVec.ofInt 64 (s.resizes.getD (bs.1.toNat) zH).nodes &&& ~~~(BitVec.ofInt 64 (s.resizes.getD (bs.1.toNat) zH).said)).toNat) 6 0 s.now=ea1;(have qea:ea1.2.1.length<=64:=by rw [← hvea1];exact Qz3 _ _ _ _ _);(repeat ((first|refine ai rfl ?_|refine ai (fun _=>rfl) ?_|refine ai (fun _=>by subst hvea1;exact QE1 s.nodes (wu64 (BitVec.ofInt 64 (s.resizes.getD (bs.1.toNat) zH).nodes &&& ~~~(BitVec.ofInt 64 (s.resizes.getD (bs.1.toNat) zH).said)).toNat) 6 0 s.now QB1 _) ?_)));apply ai<;>intro h26
       ·exfalso;subst_vars;with_reducible first|(apply Qvb (n:=n) hk0 hp0 <;> assumption)|(apply Qxh (n:=n) hk0 hp0 <;> assumption)|(apply Qwh (n:=n) hk0 hp0 <;> assumption)|(apply Qyh (n:=n) hk0 hp0 <;> assumption)|(apply Q9a (n:=n) hk0 hp0 <;> assumption)
       ·(first|refine ⟨Qn1 32 rfl lnA apA,?_⟩|refine ⟨QD0 32 rfl apA,?_⟩);refine ⟨_,_,Told.refl,?_⟩;refine ⟨_,_,Told.refl,?_⟩;refine ACalls.of_cwp (fun _=>true) Tryz.func31 rfl rfl ?_;refine ai (fun h=>nomatch h) (fun _=>?_);refine dchk (by kernel_rfl) ?_;(repeat ((first|refine ai rfl ?_|refine ai (fun _=>rfl) ?_)));refine ⟨_,_,Told.refl,?_⟩;obtain rfl:=foll hR (ct h1 (cf h11 (by subst hvbs;exact cf h19 (ct h20 (cf h22 (by subst hvea1;exact rfl))))));first|exact Qc0 (Low.tup' (.cons (State.low _ _) (.cons lw (l1 .nil)))) (Seen.tup (ev (Seen.agg (e1 (e1 (e1 (ev (Qe0 zH _ rfl eqA lnA) (e1 (e1 (e1 (e1 .nil))))))))) (ev (Qe0 zL _ rfl eqA lnA) (e1 .nil))))|(subst hvbs hvea1;exact Qc0 (Low.tup' (.cons (State.low _ _) (.cons lw (l1 .nil)))) (Seen.tup (ev (Seen.agg (e1 (e1 (e1 (ev (Qe0 zH _ rfl eqA lnA) (e1 (e1 (e1 (e1 .nil))))))))) (ev (Qe0 zL _ rfl eqA lnA) (e1 .nil)))))
     ·refine Or.inl ?_;refine us (AGives.as2 (Qr8 ([n.node]:List Int) QB1 _) (av (QX5 (c:=(fun q_=>[I q_])) (d:=0) ([n.node]:List Int) rfl) .nil)) ?_;refine ACalls.of_cwp (fun _=>true) Tryz.func38 rfl rfl ?_;refine ai (fun h=>nomatch h) (fun _=>?_);refine dchk (by kernel_rfl) ?_;(first|apply u2|apply u3|apply u4|apply us);exact QE1 s.nodes ((QS0 ([n.node]:List Int)).1) 4 0 s.now QB1 _;generalize hvea2:Qv0 s.nodes ((QS0 ([n.node]:List Int)).1) 4 0 s.now=ea2;(have qea:ea2.2.1.length<=64:=by rw [← hvea2];exact Qz3 _ _ _ _ _);(repeat ((first|refine ai rfl ?_|refine ai (fun _=>rfl) ?_|refine ai (fun _=>by subst hvea2;exact QE1 s.nodes ((QS0 ([n.node]:List Int)).1) 4 0 s.now QB1 _) ?_)));refine ai (fun h28=>?_) (fun h29=>?_)
      ·exfalso;subst_vars;with_reducible first|(apply Qvb (n:=n) hk0 hp0 <;> assumption)|(apply Qxh (n:=n) hk0 hp0 <;> assumption)|(apply Qwh (n:=n) hk0 hp0 <;> assumption)|(apply Qyh (n:=n) hk0 hp0 <;> assumption)|(apply Q9a (n:=n) hk0 hp0 <;> assumption)
      ·(first|refine ⟨Qn1 32 rfl lnA apA,?_⟩|refine ⟨QD0 32 rfl apA,?_⟩);refine ⟨_,_,Told.refl,?_⟩;refine And.intro (by first|exact fun hg=>yga (by first|((have hq:=qbs (by assumption);omega))|first|((subst_vars;exact rz_in hk0 hp0 (by assumption) (by assumption) (by assumption) hg))|exact ckA)|exact gkA) ?_;refine ⟨_,QL0 rfl rfl rfl (Qa1 zH (bs.1.toNat) (by first|rfl|exact yma _|omega) (by first|((have hq:=qbs (by assumption);omega))|first|((subst_vars;exact rz_in hk0 hp0 (by assumption) (by assumption) (by assumption) hg))|exact ckA)) rfl,?_⟩;refine And.intro (by first|exact fun hg=>yga (by first|((have hq:=qbs (by assumption);omega))|first|((subst_vars;exact rz_in hk0 hp0 (by assumption) (by assumption) (by assumption) hg))|exact ckA)|exact gkA) ?_;refine ⟨_,Qb3 rfl rfl rfl rfl (Qa1 zH (bs.1.toNat) (by first|rfl|exact yma _|omega) (by first|((have hq:=qbs (by assumption);omega))|first|((subst_vars;exact rz_in hk0 hp0 (by assumption) (by assumption) (by assumption) hg))|exact ckA)) rfl rfl (QDh (bs.1.toNat) { (s.resizes.getD (bs.1.toNat) zH) with said:=(wu64 (BitVec.ofInt 64 (s.resizes.getD (bs.1.toNat) zH).said ||| BitVec.ofInt 64 (QS0 ([n.node]:List Int)).1).toNat) } (by first|rfl|exact yma _|omega) rfl),?_⟩;generalize hvtw:s.resizes.set (bs.1.toNat) { (s.resizes.getD (bs.1.toNat) zH) with said:=(wu64 (BitVec.ofInt 64 (s.resizes.getD (bs.1.toNat) zH).said ||| BitVec.ofInt 64 (QS0 ([n.node]:List Int)).1).toNat) }=tw;(have qtw:tw.length=s.resizes.length:=by rw [← hvtw];exact List.length_set);refine dchk (by kernel_rfl) ?_;refine And.intro (by first|exact fun hg=>yga (by first|((have hq:=qbs (by assumption);omega))|first|((subst_vars;exact rz_in hk0 hp0 (by assumption) (by assumption) (by assumption) hg))|exact ckA)|exact gkA) ?_;refine ⟨_,QL0 rfl rfl rfl (Qa1 zH (bs.1.toNat) (by first|rfl|exact yma _|omega) (by first|((have hq:=qbs (by assumption);omega))|first|((subst_vars;exact rz_in hk0 hp0 (by assumption) (by assumption) (by assumption) hg))|exact ckA)) rfl,?_⟩;refine And.intro (by first|exact fun hg=>yga (by first|((have hq:=qbs (by assumption);omega))|first|((subst_vars;exact rz_in hk0 hp0 (by assumption) (by assumption) (by assumption) hg))|exact ckA)|exact gkA) ?_;refine ⟨_,QL0 rfl rfl rfl (Qa1 zH (bs.1.toNat) (by first|rfl|exact yma _|omega) (by first|((have hq:=qbs (by assumption);omega))|first|((subst_vars;exact rz_in hk0 hp0 (by assumption) (by assumption) (by assumption) hg))|exact ckA)) rfl,?_⟩;(repeat ((first|refine ai rfl ?_|refine ai (fun _=>rfl) ?_|refine And.intro (QL0 rfl rfl rfl (Qa1 zH (bs.1.toNat) (by first|rfl|exact yma _|omega) (by first|((have hq:=qbs (by assumption);omega))|first|((subst_vars;exact rz_in hk0 hp0 (by assumption) (by assumption) (by assumption) hg))|exact ckA)) rfl) ?_|refine And.intro (QL0 rfl rfl rfl (Qa1 zH (bs.1.toNat) (by first|rfl|exact yma _|omega) (by first|((have hq:=qbs (by assumption);omega))|first|((subst_vars;exact rz_in hk0 hp0 (by assumption) (by assumption) (by assumption) hg))|exact ckA)) rfl) ?_)));apply ai<;>intro h30
       ·refine ACalls.of_cwp (fun _=>true) Tryz.func61 rfl rfl ?_;refine ACalls.of_cwp (fun _=>true) Tryz.func116 rfl rfl ?_;refine And.intro (by first|exact fun hg=>yga (by first|((have hq:=qbs (by assumption);omega))|first|((subst_vars;exact rz_in hk0 hp0 (by assumption) (by assumption) (by assumption) hg))|exact ckA)|exact gkA) ?_;refine ⟨_,QL0 rfl rfl rfl (Qa1 zH (bs.1.toNat) (by first|rfl|exact yma _|omega) (by first|((have hq:=qbs (by assumption);omega))|first|((subst_vars;exact rz_in hk0 hp0 (by assumption) (by assumption) (by assumption) hg))|exact ckA)) rfl,?_⟩;refine us (mv [4] (Qic tw bs.1 (w64 (bs.1+1)) QB1 (by (have hq:=qbs (by assumption);rw [hq.2.2];omega))) (dO (dr eqA) .nil) (dv (QS6 rfl lnA) (d1 (d1 .nil))) (rO rr .nil) (rw_ 9 0 rfl)) ?_;refine ⟨_,_,Told.refl,?_⟩;apply ai<;>intro h32
        ·refine ACalls.of_cwp (fun _=>true) Tryz.func38 rfl rfl ?_;refine ai (fun h=>nomatch h) (fun _=>?_);refine dchk (by kernel_rfl) ?_;(first|apply u2|apply u3|apply u4|apply us);exact QE1 ea2.1 ((tw.getD (bs.1.toNat) zH).nodes) 3 0 s.now QB1 _;generalize hvea3:Qv0 ea2.1 ((tw.getD (bs.1.toNat) zH).nodes) 3 0 s.now=ea3;(have qea:ea3.2.1.length<=64:=by rw [← hvea3];exact Qz3 _ _ _ _ _);(repeat ((first|refine ai rfl ?_|refine ai (fun _=>rfl) ?_|refine ai (fun _=>by subst hvea3;exact QE1 ea2.1 ((tw.getD (bs.1.toNat) zH).nodes) 3 0 s.now QB1 _) ?_)));apply ai<;>intro h34
         ·exfalso;subst_vars;with_reducible first|(apply Qvb (n:=n) hk0 hp0 <;> assumption)|(apply Qxh (n:=n) hk0 hp0 <;> assumption)|(apply Qwh (n:=n) hk0 hp0 <;> assumption)|(apply Qyh (n:=n) hk0 hp0 <;> assumption)|(apply Q9a (n:=n) hk0 hp0 <;> assumption)
         ·(first|refine ⟨Qn1 32 rfl lnA apA,?_⟩|refine ⟨QD0 32 rfl apA,?_⟩);refine ⟨_,_,Told.refl,?_⟩;refine ACalls.of_cwp (fun _=>true) Tryz.func119 rfl rfl ?_;refine us (QAb s.jobs ((tw.getD (bs.1.toNat) zH).job) QB1 _) ?_;generalize hvtf:QU0 s.jobs ((tw.getD (bs.1.toNat) zH).job)=tf;refine dchk (by kernel_rfl) ?_;refine u4 (r:=U (wu64 (BitVec.ofInt 64 tf.1.nodes ||| BitVec.ofInt 64 (tw.getD (bs.1.toNat) zH).nodes).toNat)) (agC (ACalls.of_cwp (fun _=>true) Tryz.func118 rfl rfl ?_)) ?_
          ·exact ⟨_,_,Told.refl,rfl,rfl⟩
          (first|apply u2|apply u3|apply u4|apply us);exact QKb tf.1 (wu64 (BitVec.ofInt 64 tf.1.nodes ||| BitVec.ofInt 64 (tw.getD (bs.1.toNat) zH).nodes).toNat) QB1 _;generalize hvjz:Q33 tf.1 (wu64 (BitVec.ofInt 64 tf.1.nodes ||| BitVec.ofInt 64 (tw.getD (bs.1.toNat) zH).nodes).toNat)=jz;(repeat ((first|refine ai rfl ?_|refine ai (fun _=>rfl) ?_|(refine ai (fun _=>agC (ACalls.of_cwp (fun _=>true) Tryz.func118 rfl rfl ?_)) ?_;focus ((conv=>whnf);exact ⟨_,_,Told.refl,rfl,rfl⟩))|refine ai (fun _=>by subst hvjz;exact QKb tf.1 (wu64 (BitVec.ofInt 64 tf.1.nodes ||| BitVec.ofInt 64 (tw.getD (bs.1.toNat) zH).nodes).toNat) QB1 _) ?_)));apply ai<;>intro h36
          ·exfalso;subst_vars;with_reducible first|(apply Q7f (n:=n) hk0 hp0 <;> assumption)|(apply Q6f (n:=n) hk0 hp0 <;> assumption)
          ·refine dchk (by kernel_rfl) ?_;(first|apply u2|apply u3|apply u4|apply us);exact QJa s.jobs jz.1 QB1 QB1 _;generalize hvtp:Qe6 s.jobs jz.1=tp;(repeat ((first|refine ai rfl ?_|refine ai (fun _=>rfl) ?_|refine ai (fun _=>by subst hvtp;exact QJa s.jobs jz.1 QB1 QB1 _) ?_)));apply ai<;>intro h38
           ·exfalso;subst_vars;with_reducible first|(apply QAh (n:=n) hk0 hp0 <;> assumption)|(apply Qzh (n:=n) hk0 hp0 <;> assumption)
           ·refine ⟨_,_,Told.refl,?_⟩;refine ⟨_,_,Told.refl,?_⟩;refine ACalls.of_cwp (fun _=>true) Tryz.func31 rfl rfl ?_;refine ai (fun h=>nomatch h) (fun _=>?_);refine dchk (by kernel_rfl) ?_;(repeat ((first|refine ai rfl ?_|refine ai (fun _=>rfl) ?_)));refine ⟨_,_,Told.refl,?_⟩;obtain rfl:=foll hR (ct h1 (cf h11 (by subst hvbs;exact cf h19 (cf h21 (by subst hvea2;exact (by subst hvtw;exact ct h30 (ct h32 (by subst hvea3;exact (by subst hvtf;exact (by subst hvjz;exact (by subst hvtp;exact rfl)))))))))));first|exact Qc0 (Low.tup' (.cons (State.low _ _) (.cons lw (l1 .nil)))) (Seen.tup (ev (Seen.agg (e1 (e1 (e1 (ev (Qe0 zH _ rfl eqA lnA) (e1 (e1 (e1 (e1 .nil))))))))) (ev (Qe0 zL _ rfl eqA lnA) (e1 .nil))))|(subst hvbs hvea2 hvtw hvea3 hvtf hvjz hvtp;exact Qc0 (Low.tup' (.cons (State.low _ _) (.cons lw (l1 .nil)))) (Seen.tup (ev (Seen.agg (e1 (e1 (e1 (ev (Qe0 zH _ rfl eqA lnA) (e1 (e1 (e1 (e1 .nil))))))))) (ev (Qe0 zL _ rfl eqA lnA) (e1 .nil)))))
        ·refine ACalls.of_cwp (fun _=>true) Tryz.func38 rfl rfl ?_;refine ai (fun h=>nomatch h) (fun _=>?_);refine dchk (by kernel_rfl) ?_;(first|apply u2|apply u3|apply u4|apply us);exact QE1 ea2.1 ((tw.getD (bs.1.toNat) zH).nodes) 7 0 s.now QB1 _;generalize hvea4:Qv0 ea2.1 ((tw.getD (bs.1.toNat) zH).nodes) 7 0 s.now=ea4;(have qea:ea4.2.1.length<=64:=by rw [← hvea4];exact Qz3 _ _ _ _ _);(repeat ((first|refine ai rfl ?_|refine ai (fun _=>rfl) ?_|refine ai (fun _=>by subst hvea4;exact QE1 ea2.1 ((tw.getD (bs.1.toNat) zH).nodes) 7 0 s.now QB1 _) ?_)));apply ai<;>intro h40
         ·exfalso;subst_vars;with_reducible first|(apply Qvb (n:=n) hk0 hp0 <;> assumption)|(apply Qxh (n:=n) hk0 hp0 <;> assumption)|(apply Qwh (n:=n) hk0 hp0 <;> assumption)|(apply Qyh (n:=n) hk0 hp0 <;> assumption)|(apply Q9a (n:=n) hk0 hp0 <;> assumption)
         ·(first|refine ⟨Qn1 32 rfl lnA apA,?_⟩|refine ⟨QD0 32 rfl apA,?_⟩);refine ⟨_,_,Told.refl,?_⟩;refine ACalls.of_cwp (fun _=>true) Tryz.func119 rfl rfl ?_;refine us (QAb s.jobs ((tw.getD (bs.1.toNat) zH).job) QB1 _) ?_;generalize hvtf1:QU0 s.jobs ((tw.getD (bs.1.toNat) zH).job)=tf1;refine dchk (by kernel_rfl) ?_;refine u4 (r:=U (wu64 (BitVec.ofInt 64 tf1.1.nodes &&& ~~~(BitVec.ofInt 64 (tw.getD (bs.1.toNat) zH).nodes)).toNat)) (agC (ACalls.of_cwp (fun _=>true) Tryz.func117 rfl rfl ?_)) ?_
          ·exact ⟨_,_,Told.refl,rfl,rfl⟩
          (first|apply u2|apply u3|apply u4|apply us);exact QKb tf1.1 (wu64 (BitVec.ofInt 64 tf1.1.nodes &&& ~~~(BitVec.ofInt 64 (tw.getD (bs.1.toNat) zH).nodes)).toNat) QB1 _;generalize hvjz1:Q33 tf1.1 (wu64 (BitVec.ofInt 64 tf1.1.nodes &&& ~~~(BitVec.ofInt 64 (tw.getD (bs.1.toNat) zH).nodes)).toNat)=jz1;(repeat ((first|refine ai rfl ?_|refine ai (fun _=>rfl) ?_|(refine ai (fun _=>agC (ACalls.of_cwp (fun _=>true) Tryz.func117 rfl rfl ?_)) ?_;focus ((conv=>whnf);exact ⟨_,_,Told.refl,rfl,rfl⟩))|refine ai (fun _=>by subst hvjz1;exact QKb tf1.1 (wu64 (BitVec.ofInt 64 tf1.1.nodes &&& ~~~(BitVec.ofInt 64 (tw.getD (bs.1.toNat) zH).nodes)).toNat) QB1 _) ?_)));apply ai<;>intro h42
          ·exfalso;subst_vars;with_reducible first|(apply Q7f (n:=n) hk0 hp0 <;> assumption)|(apply Q6f (n:=n) hk0 hp0 <;> assumption)
          ·refine dchk (by kernel_rfl) ?_;(first|apply u2|apply u3|apply u4|apply us);exact QJa s.jobs jz1.1 QB1 QB1 _;generalize hvtp1:Qe6 s.jobs jz1.1=tp1;(repeat ((first|refine ai rfl ?_|refine ai (fun _=>rfl) ?_|refine ai (fun _=>by subst hvtp1;exact QJa s.jobs jz1.1 QB1 QB1 _) ?_)));apply ai<;>intro h44
           ·exfalso;subst_vars;with_reducible first|(apply QAh (n:=n) hk0 hp0 <;> assumption)|(apply Qzh (n:=n) hk0 hp0 <;> assumption)
           ·refine ⟨_,_,Told.refl,?_⟩;refine ⟨_,_,Told.refl,?_⟩;refine ACalls.of_cwp (fun _=>true) Tryz.func31 rfl rfl ?_;refine ai (fun h=>nomatch h) (fun _=>?_);refine dchk (by kernel_rfl) ?_;(repeat ((first|refine ai rfl ?_|refine ai (fun _=>rfl) ?_)));refine ⟨_,_,Told.refl,?_⟩;obtain rfl:=foll hR (ct h1 (cf h11 (by subst hvbs;exact cf h19 (cf h21 (by subst hvea2;exact (by subst hvtw;exact ct h30 (cf h32 (by subst hvea4;exact (by subst hvtf1;exact (by subst hvjz1;exact (by subst hvtp1;exact rfl)))))))))));first|exact Qc0 (Low.tup' (.cons (State.low _ _) (.cons lw (l1 .nil)))) (Seen.tup (ev (Seen.agg (e1 (e1 (e1 (ev (Qe0 zH _ rfl eqA lnA) (e1 (e1 (e1 (e1 .nil))))))))) (ev (Qe0 zL _ rfl eqA lnA) (e1 .nil))))|(subst hvbs hvea2 hvtw hvea4 hvtf1 hvjz1 hvtp1;exact Qc0 (Low.tup' (.cons (State.low _ _) (.cons lw (l1 .nil)))) (Seen.tup (ev (Seen.agg (e1 (e1 (e1 (ev (Qe0 zH _ rfl eqA lnA) (e1 (e1 (e1 (e1 .nil))))))))) (ev (Qe0 zL _ rfl eqA lnA) (e1 .nil)))))
       ·refine ACalls.of_cwp (fun _=>true) Tryz.func31 rfl rfl ?_;refine ai (fun h=>nomatch h) (fun _=>?_);refine dchk (by kernel_rfl) ?_;(repeat ((first|refine ai rfl ?_|refine ai (fun _=>rfl) ?_)));refine ⟨_,_,Told.refl,?_⟩;obtain rfl:=foll hR (ct h1 (cf h11 (by subst hvbs;exact cf h19 (cf h21 (by subst hvea2;exact (by subst hvtw;exact cf h30 rfl))))));first|exact Qc0 (Low.tup' (.cons (State.low _ _) (.cons lw (l1 .nil)))) (Seen.tup (ev (Seen.agg (e1 (e1 (e1 (ev (Qe0 zH _ rfl eqA lnA) (e1 (e1 (e1 (e1 .nil))))))))) (ev (Qe0 zL _ rfl eqA lnA) (e1 .nil))))|(subst hvbs hvea2 hvtw;exact Qc0 (Low.tup' (.cons (State.low _ _) (.cons lw (l1 .nil)))) (Seen.tup (ev (Seen.agg (e1 (e1 (e1 (ev (Qe0 zH _ rfl eqA lnA) (e1 (e1 (e1 (e1 .nil))))))))) (ev (Qe0 zL _ rfl eqA lnA) (e1 .nil)))))
   ·exfalso;rw [h16] at h1;cases h1
def QP7 :Bool:=bif ((((((((((Qp0 law26_small 5 3).2.2 != 0)||((Qw6 ((Qp0 law26_small 5 3).1) (⟨8,2,5,1⟩:Note)).2.2 != 0))||((Qj4 ((Qp0 law26_small 5 3).1) 5).2.2 != 0))||((Qp0 law26_small 5 4).2.2 != 152))||((((Qp0 law26_small 5 3).2.1).length:Int)!=1))||((((Qw6 ((Qp0 law26_small 5 3).1) (⟨8,2,5,1⟩:Note)).2.1).length:Int)!=1))||((((Qj4 ((Qp0 law26_small 5 3).1) 5).2.1).length:Int)!=1))||((((Qw6 ((Qp0 law26_small 5 3).1) (⟨8,2,5,1⟩:Note)).1.jobs).length:Int)!=1))||((((Qj4 ((Qp0 law26_small 5 3).1) 5).1.nodes).length:Int)!=4)) then false else (((((((((Qp0 law26_small 5 3).2.1).getD 0 zL).kind==2)&&(((((Qp0 law26_small 5 3).2.1).getD 0 zL).node==2)&&(((((Qp0 law26_small 5 3).2.1).getD 0 zL).job==5)&&((((Qp0 law26_small 5 3).2.1).getD 0 zL).epoch==1))))&&((((Qw6 ((Qp0 law26_small 5 3).1) (⟨8,2,5,1⟩:Note)).2.1).getD 0 zL).kind==3))&&((((Qw6 ((Qp0 law26_small 5 3).1) (⟨8,2,5,1⟩:Note)).1.jobs).getD 0 zG).nodes==7))&&((((Qj4 ((Qp0 law26_small 5 3).1) 5).2.1).getD 0 zL).kind==5))&&((((Qj4 ((Qp0 law26_small 5 3).1) 5).1.nodes).getD 2 zF).state==3))
theorem QCb {P:Prop} (h:P:=by first|(exact small_sz)|first|(exact begun_sz)|exact szA):P:=h
theorem Qkd :GV 9 [] (Bo QP7):=by
 generalize hR:QP7=R;refine gA (kp 13 [78]) Tryz.func9 ?_;refine us (Qld _) ?_;refine us (QN9 law26_small 5 3 QCb _) ?_;refine us (resize_Say_c ((Qp0 law26_small 5 3).1) (⟨8,2,5,1⟩:Note) QCb (by exact begun_wu) _) ?_;refine us (resize_Abort_c ((Qp0 law26_small 5 3).1) 5 QCb _) ?_;refine us (Qld _) ?_;refine us (QN9 law26_small 5 4 QCb _) ?_;refine ai (fun h1=>?_) (fun h2=>?_)
 ·exact lfA
 ·refine ai gkA ?_;refine ai (fun _=>(by kernel_rfl:eqOK _ _=true)) ?_;refine ai gkA ?_;refine ai gkA ?_;refine ai gkA ?_;refine ai gkA ?_;exact lfA
end Go.Proofs.YtackngeeehiegaaGreatDoor
namespace Go.Proofs.YtackngeeehiegaaGreatDoor
set_option linter.unusedSimpArgs false
set_option linter.unusedVariables false
open Go.Fw
theorem resize_awake:QP7=true:=by kernel_rfl
theorem same_notes26 (a:List Note):Qy7 a a=true :=
 (QD7 zL a a (fun x y=>((x.kind==y.kind)&&((x.node==y.node)&&((x.job==y.job)&&(x.epoch==y.epoch))))) (fun x y=>by cases x;cases y;simp) (QT5 a) (fun _=>rfl) (fun _ _ _=>rfl)).2 rfl
def mem (K x:Nat):List Nat:=(List.range K).filter fun k=>x.testBit k
theorem Q2g (K x : Nat) : mem (K + 1) x = (if x % 2 = 1 then [0] else []) ++ (mem K (x / 2)).map Nat.succ := by
 unfold mem;rw [List.range_succ_eq_map,yAb,List.filter_map,y8b];have e:((fun k=>x.testBit k) ∘ Nat.succ)=fun k=>(x / 2).testBit k:=by
  funext k
  simp [yCb]
 rw [e]
 by_cases hb : x % 2 = 1
 ·simp [hb]
 ·simp [hb]
theorem clr_odd (y:Nat):(2*y+1) &&& (2*y+1 - 1)=2*y:=by
 refine y2b fun i=>?_
 rw [ywc,Nat.add_sub_cancel];rcases i with _|i
 ·simp [y8b]
 ·rw [yCb,yCb,show (2*y+1) / 2=y by omega,show 2*y / 2=y by omega,Bool.and_self]
theorem clr_even {y:Nat} (h:0<y):(2*y) &&& (2*y - 1)=2*(y &&& (y - 1)):=by
 refine y2b fun i=>?_
 rw [ywc];rcases i with _|i
 ·simp [y8b]
 ·rw [yCb,yCb,yCb,show 2*y / 2=y by omega,show (2*y - 1) / 2=y - 1 by omega,show 2*(y &&& (y - 1)) / 2=y &&& (y - 1) by omega,ywc]
theorem clr_mem:∀ (K x:Nat),x<2 ^ K->x ≠ 0->mem K (x &&& (x - 1))=(mem K x).tail
 | 0,x,h,h0=>absurd h (by simp;omega)
 | K+1,x,h,h0=>by
  rw [ysc] at h;rcases yWb x with hb|hb
  ·obtain ⟨y,rfl⟩:∃ y,x=2*y:=⟨x / 2,by omega⟩;rw [clr_even oA,Q2g,Q2g,show 2*(y &&& (y - 1)) / 2=y &&& (y - 1) by omega,show 2*y / 2=y by omega,clr_mem K y oA oA];simp only [show ¬ (2 * (y &&& (y - 1))) % 2 = 1 by omega, show ¬ (2 * y) % 2 = 1 by omega, if_false, y9a, List.map_tail]
  ·obtain ⟨y,rfl⟩:∃ y,x=2*y+1:=⟨x / 2,by omega⟩;rw [clr_odd,Q2g,Q2g,show 2*y / 2=y by omega,show (2*y+1) / 2=y by omega];simp only [show ¬ (2 * y) % 2 = 1 by omega, show (2 * y + 1) % 2 = 1 by omega, if_false, if_true, y9a, List.singleton_append, List.tail_cons]
theorem low_go (n:Nat):∀ (m x i:Nat),n - i<m->x<18446744073709551616->n - i<=(mem 64 x).length ->
  ∃ y:Nat,QW4 (n:Int) m (x:Int) i=(y:Int)∧y<18446744073709551616∧mem 64 y=(mem 64 x).drop (n - i)
 | 0,_,_,h,_,_=>absurd h oA
 | m+1,x,i,hm,hx,hl=>by
  rw [QW4];rcases yoa i n with h|h
  ·have hx0:x ≠ 0:=by
    rintro rfl;have e:mem 64 0=[]:=List.filter_eq_nil_iff.2 (fun k _=>by simp);rw [e,yJa] at hl;omega
   have e1:wu64 ((x:Int) - 1)=((x - 1:Nat):Int):=by
    rw [QG8 ⟨by omega,by omega⟩];omega
   have hle:x &&& (x - 1)<=x:=Nat.and_le_left;have ec:=clr_mem 64 x (by rw [pow64];exact hx) hx0;rw [yga (show (i:Int)<(n:Int) by omega),e1,Qsc hx oA];obtain ⟨y,h1,h2,h3⟩:=low_go n m (x &&& (x - 1)) (i+1) oA oA (by rw [ec,List.length_tail];omega);refine ⟨y,h1,h2,?_⟩;rw [h3,ec,List.drop_tail,show n - (i+1)+1=n - i by omega]
  ·rw [yka (show ¬ (i:Int)<(n:Int) by omega)];exact ⟨x,rfl,hx,by rw [show n - i=0 by omega,yqb]⟩
theorem mem_iff {x k:Nat}:k ∈ mem 64 x ↔ k<64∧x.testBit k=true:=by
 unfold mem;rw [yTb,yab]
theorem Qtd (x:Nat):(mem 64 x).Nodup:=List.nodup_range.filter _
theorem QG7 {l:List Nat} (h:l.Nodup) (n:Nat) {k:Nat} (hk:k ∈ l):k ∈ l.take n ↔ ¬ k ∈ l.drop n:=by
 rw [← yLb n l] at h hk;have hd:=(List.nodup_append.1 h).2.2;rcases List.mem_append.1 hk with h1|h1
 ·exact ⟨fun _ h2=>hd k h1 k h2 rfl,fun _=>h1⟩
 ·exact ⟨fun h2=>absurd rfl (hd k h2 k h1),fun h2=>absurd h1 h2⟩
theorem QWc {s:Int} (hs:U64 s):Q10 s=((mem 64 s.toNat).length:Int):=by
 rw [Q57 hs,List.countP_eq_length_filter]
 rfl
theorem QMg {s:Int} (hs:U64 s) (n:Nat):(Qq1 s (n:Int)).2=decide ((n:Int)<=Q10 s)∧U64 (Qq1 s (n:Int)).1∧((n:Int)<=Q10 s -> ∀ k,tb (Qq1 s (n:Int)).1 k=decide (k ∈ (mem 64 s.toNat).take n)):=by
 unfold Qq1;rw [yka (show ¬ (n:Int)<0 by omega),y3a];rcases Int.lt_or_le (Q10 s) (n:Int) with h|h
 ·rw [yga (show (n:Int) > Q10 s by omega),yka (show ¬ (n:Int)<=Q10 s by omega)];exact ⟨rfl,.zero,fun h'=>absurd h' oA⟩
 ·rw [yka (show ¬ (n:Int) > Q10 s by omega),yga h];obtain ⟨x,rfl⟩:∃ x:Nat,s=(x:Int):=⟨s.toNat,by unfold U64 at hs;omega⟩;have hx:x<18446744073709551616:=by unfold U64 at hs;omega
  rw [QWc hs,yna] at h;obtain ⟨y,h1,h2,h3⟩:=low_go n ((((n:Int) - (0:Int)).toNat)+1) x 0 oA hx oA;have hy:U64 (y:Int):=⟨by omega,by omega⟩;simp only [cond_false,QR3];rw [h1];refine ⟨by first|trivial|rfl,QJ8 _,fun _ k=>?_⟩;rw [Qg6 hs hy,yna];rw [yec] at h3;rcases yoa k 64 with hk|hk
  ·rw [yMa];simp only [yea,y4a,yfa];show (x.testBit k=true∧y.testBit k=false) ↔ _;have hmy:y.testBit k=true ↔ k ∈ (mem 64 x).drop n:=by rw [← h3,mem_iff];exact ⟨fun q=>⟨hk,q⟩,fun q=>q.2⟩
   constructor
   ·rintro ⟨a,b⟩;rw [QG7 (Qtd x) n (mem_iff.2 ⟨hk,a⟩),← hmy,b];simp
   ·intro a;have hm:=ycb a;refine ⟨(mem_iff.1 hm).2,?_⟩;have:=(QG7 (Qtd x) n hm).1 a;rw [← hmy] at this;simpa using this
  ·rw [QGc hs hk];rw [yka fun a=>absurd (mem_iff.1 (ycb a)).1 oA]
   rfl
theorem QGe {s:Int} (hs:U64 s) {n:Nat} (hn:(n:Int)<=Q10 s):U64 (Q01 s (n:Int)).1 ∧ ∀ k,tb (Q01 s (n:Int)).1 k=decide (k ∈ (mem 64 s.toNat).drop ((mem 64 s.toNat).length - n)):=by
 have hc:=QWc hs;have h64:=Qla hs;have hw:w64 (Q10 s - (n:Int))=(((mem 64 s.toNat).length - n:Nat):Int):=by
  rw [w6 oA];omega
 unfold Q01;rw [yka (show ¬ (n:Int)<0 by omega),yka (show ¬ (n:Int) > Q10 s by omega),hw];simp only [Bool.or_self,cond_false];obtain ⟨_,l2,l3⟩:=QMg hs ((mem 64 s.toNat).length - n);have l3:=l3 oA;refine ⟨QJ8 _,fun k=>?_⟩;rw [Qg6 hs l2,l3];rcases yoa k 64 with hk|hk
 ·rw [yMa];simp only [yea,y4a,yfa,yGa];constructor
  ·rintro ⟨a,b⟩;have hm:k ∈ mem 64 s.toNat:=mem_iff.2 ⟨hk,a⟩;rw [QG7 (Qtd _) _ hm] at b;exact Classical.byContradiction b
  ·intro a;have hm:=yVa a;refine ⟨(mem_iff.1 hm).2,fun b=>?_⟩;exact (QG7 (Qtd _) _ hm).1 b a
 ·rw [QGc hs hk,yka fun a=>absurd (mem_iff.1 (yVa a)).1 oA]
  rfl
theorem set_go:∀ (l:List Nat) (x:Int) (i:Nat),U64 x->(∀ k ∈ l,k<64)->U64 (QJ3 (l.map fun (k:Nat)=>(k:Int)) x i).1 ∧ ∀ j,tb (QJ3 (l.map fun (k:Nat)=>(k:Int)) x i).1 j=(tb x j||decide (j ∈ l))
 | [],x,i,hx,_=>⟨hx,fun j=>by simp [QJ3]⟩
 | k :: l,x,i,hx,h=>by
  have hk:=h k (yqa ..);rw [yjb,QJ3,has09 hx,QA6 hx,yga hk,yIb];cases hb:tb x k with
  | true =>
   obtain ⟨a,b⟩:=set_go l x (i+1) hx fun j hj=>h j (yha _ hj)
   refine ⟨a,fun j=>(b j).trans ?_⟩
   by_cases e:j=k
   ·subst e;simp [hb]
   ·simp [e]
  | false =>
   simp only [yJb,cond_true];rw [bit09 k oA,add_bit hx hk hb];obtain ⟨a,b⟩:=set_go l (wu64 (BitVec.ofInt 64 x ||| BitVec.ofInt 64 ((2:Int) ^ k)).toNat) (i+1) (QJ8 _) fun j hj=>h j (yha _ hj)
   refine ⟨a,fun j=>(b j).trans ?_⟩;rw [tb_or hx (pow_U hk),tb_pow]
   by_cases e:j=k
   ·subst e;simp
   ·simp [e,Ne.symm e]
theorem set_bits (l:List Nat) (h:∀ k ∈ l,k<64):U64 (Qs5 (l.map fun (k:Nat)=>(k:Int))) ∧ ∀ j,tb (Qs5 (l.map fun (k:Nat)=>(k:Int))) j=decide (j ∈ l):=by
 obtain ⟨a,b⟩:=set_go l 0 0 .zero h;exact ⟨a,fun j=>(b j).trans (by rw [QR9,y3a])⟩
theorem list_mem_eq {s:Int} (hs:U64 s):Q40 s=(mem 64 s.toNat).map fun (k:Nat)=>(k:Int):=by
 rw [← list_eq hs,Qod hs,← yRb]
 rfl
theorem highest_eq {s:Int} (hs:U64 s) {n:Nat} (hn:(n:Int)<=Q10 s):(Q53 s (n:Int)).1=(Q01 s (n:Int)).1:=by
 have hc:=QWc hs;have h64:=Qla hs;have hl:=QU9 hs;obtain ⟨a,b⟩:=QGe hs hn;unfold Q53;rw [← hl,yka (show ¬ (n:Int)<0 by omega),yka (show ¬ (n:Int) > Q10 s by omega)];have hw:w64 (Q10 s - (n:Int))=(((mem 64 s.toNat).length - n:Nat):Int):=by
  rw [w6 oA];omega
 simp only [Bool.or_self,cond_false];rw [hw,yna,list_mem_eq hs,← List.map_drop];obtain ⟨c,d⟩:=set_bits ((mem 64 s.toNat).drop ((mem 64 s.toNat).length - n)) fun k hk=>(mem_iff.1 (yVa hk)).1
 exact QZd c a fun k _=>(d k).trans (b k).symm
theorem Q0g (N:Nat):∀ (r:List Node) (out:List Nat) (i:Nat),out.length<=N -> ∃ i',QA2 (N:Int) r (out.map fun (k:Nat)=>(k:Int)) i=(((out++(List.range' i r.length).filter (fun k=>((r.getD (k - i) zF).state==0)&&(!(r.getD (k - i) zF).drain))).take N).map fun (k:Nat)=>(k:Int),i')
 | [],out,i,h=>⟨i,by simp [QA2,yEb h]⟩
 | x :: r,out,i,h=>by
  rw [QA2];have hr:(List.range' i (x :: r).length).filter (fun k=>(((x :: r).getD (k - i) zF).state==0)&&(!((x :: r).getD (k - i) zF).drain))=(if ((x.state==0)&&(!x.drain))=true then [i] else [])++(List.range' (i+1) r.length).filter (fun k=>((r.getD (k - (i+1)) zF).state==0)&&(!(r.getD (k - (i+1)) zF).drain)):=by
   rw [yja,List.range'_succ,yAb,ybc];have e:(List.range' (i+1) r.length).filter (fun k=>(((x :: r).getD (k - i) zF).state==0)&&(!((x :: r).getD (k - i) zF).drain))=(List.range' (i+1) r.length).filter (fun k=>((r.getD (k - (i+1)) zF).state==0)&&(!(r.getD (k - (i+1)) zF).drain)):=by
    refine List.filter_congr fun k hk=>?_
    have:=List.mem_range'_1.1 hk;rw [show k - i=(k - (i+1))+1 by omega]
    rfl
   rw [e];show (if ((x.state==0)&&(!x.drain))=true then _ else _)=_;split <;> rfl
  rw [hr];cases hf:((x.state==0)&&(!x.drain)) with
  | false =>
   obtain ⟨i',e⟩:=Q0g N r out (i+1) h;exact ⟨i',by simpa using e⟩
  | true =>
   rw [ypb];rcases yoa out.length N with hl|hl
   ·rw [yga (show (out.length:Int)<(N:Int) by omega)];obtain ⟨i',e⟩:=Q0g N r (out++[i]) (i+1) (by simp;omega);refine ⟨i',?_⟩;simp only [Bool.and_self,cond_true,if_true];rw [yUb] at e;rw [yfb] at e;exact e
   ·rw [yka (show ¬ (out.length:Int)<(N:Int) by omega)];obtain ⟨i',e⟩:=Q0g N r out (i+1) h;refine ⟨i',?_⟩;simp only [Bool.and_false,cond_false,if_true];rw [e,y7b oA,y7b oA]
theorem grant_eq {act:Int} (ha:Act act) (l:List Node) (n job now:Int):Q82 l n act job now=Qa5 l n act job now:=by
 unfold Q82 Qa5;cases h1:((act != 1)&&(act != 2)) with
 | true=>rfl
 | false =>
  simp only [y3a,cond_false];rw [← Qo4];cases h2:(Q80 l != 0) with
  | true=>rfl
  | false =>
   simp only [cond_false];cases h3:((decide (n<1))||(decide (n > 48))) with
   | true=>rfl
   | false =>
    simp only [cond_false];obtain ⟨h4,h5⟩:=or_f h3;have h4:=yca h4;obtain ⟨N,rfl⟩:∃ N:Nat,n=(N:Int):=⟨n.toNat,by omega⟩;have hc:Q80 l=0:=by simpa using h2
    have hl:=(QU6 hc).1;obtain ⟨fu,fb⟩:=Q74 l (fun (y:Node)=>((y.state==0)&&(!y.drain))) hc oA;have hF:QN1 l=Q71 l (fun (y:Node)=>((y.state==0)&&(!y.drain))):=rfl;rw [← hF] at fu fb;have hmem:mem 64 (QN1 l).toNat=(List.range' 0 l.length).filter (fun k=>((l.getD (k - 0) zF).state==0)&&(!(l.getD (k - 0) zF).drain)):=by
     have e:mem 64 (QN1 l).toNat=(List.range 64).filter (fun k=>decide (k<l.length)&&(((l.getD k zF).state==0)&&(!(l.getD k zF).drain))):=by
      unfold mem;refine List.filter_congr fun k _=>?_
      exact fb k
     rw [e,← yRb,show 64=l.length+(64 - l.length) by omega,List.range_add,List.filter_append];have e2:((List.range (64 - l.length)).map (l.length + ·)).filter (fun k=>decide (k<l.length)&&(((l.getD k zF).state==0)&&(!(l.getD k zF).drain)))=[]:=by
      refine List.filter_eq_nil_iff.2 fun k hk=>?_
      obtain ⟨q,_,rfl⟩:=List.mem_map.1 hk;rw [yka (show ¬ l.length+q<l.length by omega),yHb];exact Bool.false_ne_true
     rw [e2,ySb];refine List.filter_congr fun k hk=>?_
     rw [yga (List.mem_range.1 hk)]
     rfl
    obtain ⟨i',e⟩:=Q0g N l [] 0 (by simp);rw [← hmem,y9a] at e;have e:QA2 (N:Int) l [] 0=(((mem 64 (QN1 l).toNat).take N).map fun (k:Nat)=>(k:Int),i'):=e;rw [e];obtain ⟨q1,q2,q3⟩:=QMg fu N;have hcm:=QWc fu;unfold QL3;rw [q1,ypb,yta];rcases Int.lt_or_le (Q10 (QN1 l)) (N:Int) with h|h
    ·rw [yka (show ¬ (N:Int)<=Q10 (QN1 l) by omega),yga (show ((min N (mem 64 (QN1 l).toNat).length:Nat):Int)<(N:Int) by omega)]
     rfl
    ·rw [yga h,yka (show ¬ ((min N (mem 64 (QN1 l).toNat).length:Nat):Int)<(N:Int) by omega)];obtain ⟨c,d⟩:=set_bits ((mem 64 (QN1 l).toNat).take N) fun k hk=>(mem_iff.1 (ycb hk)).1
     have es:Qs5 (((mem 64 (QN1 l).toNat).take N).map fun (k:Nat)=>(k:Int))=(Qq1 (QN1 l) (N:Int)).1:=QZd c q2 fun k _=>(d k).trans (q3 h k).symm
     rw [es,each_eq ha q2]
     rfl
theorem quiet_eq {s:Int} (hs:U64 s) (l:List Node):Qn9 l s=QS2 l s:=by
 unfold Qn9 QG5 QS2;rw [quiet_go,list_eq hs,← Qo4];have h:=okloop (Q40 s).length (fun i=>(decide (((Q40 s).getD i 0)<(l.length:Int)))&&((l.getD (((Q40 s).getD i 0).toNat) zF).want==0)) (QF5 l s) (fun _ _ _=>rfl) (((((Q40 s).length:Int) - (0:Int)).toNat)+1) ((Q80 l)==0) 0 oA oA;rw [yMa,h];cases hc:(Q80 l != 0) with
 | true =>
  have:(Q80 l==0)=false:=by simpa using hc
  rw [this];exact ⟨fun h=>(nomatch h.1),fun h=>(nomatch h)⟩
 | false =>
  have:(Q80 l==0)=true:=by simpa using hc
  rw [this];simp only [cond_false,true_and,y5a];constructor
  ·intro h x hx;obtain ⟨k,hk,e⟩:=Qsd (0:Int) hx;have:=h k (yva _) hk;rw [e] at this;exact this
  ·intro h k _ hk;exact h _ (QN6 hk)
section
variable {s t:State} {j:Job} (b:Asked s j)
include b
end
section
variable {act job now:Int}
end
section
variable {s:State} {j:Job}
theorem quiet_all {g:Good s} {S:Int} (hS:U64 S) (h:QS2 s.nodes S=true):∀ k,tb S k=true->(s.nodes.getD k zF).want=0:=by
 intro k hb;unfold QS2 at h;rw [QM7 g] at h;rw [Qod hS] at h;have key:∀ (r:List Nat) (i:Nat),Qm4 s.nodes (r.map fun (k:Nat)=>(k:Int)) i=true -> ∀ k ∈ r,(s.nodes.getD k zF).want=0:=by
  intro r
  induction r with
  | nil=>exact fun _ _ k hk=>nomatch hk
  | cons x r ih =>
   intro i h k hk;rw [yjb,Qm4,yna] at h;cases hc:((decide ((x:Int)<(s.nodes.length:Int)))&&((s.nodes.getD x zF).want==0)) with
   | false=>rw [hc] at h;cases h
   | true =>
    rw [hc] at h;rcases List.mem_cons.1 hk with rfl|hk
    ·have:=((yea _ _).mp hc).2;simpa using this
    ·exact ih (i+1) h k hk
 have hk64:k<64:=by
  rcases yoa k 64 with h1|h1
  ·exact h1
  ·rw [QGc hS h1] at hb;cases hb
 exact key _ 0 h k (by simp only [yTb,List.mem_range'_1];exact ⟨by omega,hb⟩)
end
theorem begin_eq {s:State} (hz:s.sz) (hu:WU s) (id size:Int):Qp0 s id size=Qp2 s id size:=by
 unfold Qp0 Qp2;rw [ref_check hz hu];cases hc:((Qz0 s)!=0) with
 | true=>rw [check_141 hc];rfl
 | false =>
  have g:=rz_good hz hu hc;simp only [cond_false]
  by_cases hx:∃ x ∈ s.jobs,x.id=id
  ·obtain ⟨j,hj,rfl⟩:=hx;obtain ⟨q,hq⟩:=ylb hj;have hat:QA0 s.jobs j.id=(q:Int):=by
    have:=at_some j s.jobs q 0 hq (QG4 (QN7 g)).2.2;rw [yma] at this;exact this
   have hget:s.jobs.getD q zG=j:=by rw [List.getD,hq];rfl
   have hq0:decide ((q:Int)<0)=false:=yka oA;rw [QUd (QN7 g) hq];simp only [hat,hq0,yib,cond_false,yna,hget];have huj:=hu.1 j hj;have hids:=QO7 (QJb g hj);have hk:QG1 j.id=true:=by unfold QG1;simp;omega
   obtain ⟨p,p1,p2,p3,p4,p5⟩:=rz_place hz hu hc hk;have hhas:(Q93 s j.id).2=(Q00 s.resizes j.id bsrF).2:=by
    cases hb:(Q00 s.resizes j.id bsrF).2 with
    | false=>rw [resizing_no (no_place hz hu hc (.inr hb))]
    | true =>
     obtain ⟨p',j',hbs,hi,a,hid⟩:=rz_at' hz hu hc hk hb;have:=resizing_at hz a;rw [hid] at this;rw [this]
   rw [hhas,quiet_eq huj];simp only [← QU9 huj];cases h1:(j.state != 2) with
   | true=>rfl
   | false =>
    simp only [cond_false];cases hb:(Q00 s.resizes j.id bsrF).2 with
    | true =>
     rw [Bool.or_true,yrc,yrc];cases (((j.shape.kind != 3)||(!(QS2 s.nodes j.nodes)))||((Q10 j.nodes)==size)) <;> rfl
    | false =>
     rw [y5b];cases h2:(((j.shape.kind != 3)||(!(QS2 s.nodes j.nodes)))||((Q10 j.nodes)==size)) with
     | true=>rfl
     | false =>
      simp only [cond_false];have hno:=no_place hz hu hc (.inr hb);have b:Asked s j:=⟨g,hu,hj,by simpa using h1,by simpa using (or_f (or_f h2).1).1,quiet_all (g:=g) huj (by simpa using (or_f (or_f h2).1).2),hno⟩;have hne:Q10 j.nodes ≠ size:=by simpa using (or_f h2).2
      have hcl:=Qla huj;cases h4:((decide (size<j.shape.min))||(decide (size > j.shape.max))) with
      | true=>rfl
      | false =>
       simp only [cond_false];obtain ⟨m1,m2⟩:=or_f h4;have m1:=yca m1;have m2:=yca m2;have hsh:=QE7 (s:=j.shape) (by rw [job_shape (QJb g hj)];rfl) (by rw [b.kind];rfl);have hw:w64 (size - Q10 j.nodes)=size - Q10 j.nodes:=w6 oA;have hw2:w64 (0 - (size - Q10 j.nodes))=Q10 j.nodes - size:=by rw [w6 oA];omega
       have hw3:w64 (Q10 j.nodes - size)=Q10 j.nodes - size:=w6 oA;have hgt:decide ((size - Q10 j.nodes) > 0)=decide (size > Q10 j.nodes):=by
        rw [yMa,yfa,yfa];omega
       have hins:∀ x:Resize,x.job=j.id->Qp3 s.resizes ((p:Nat):Int) ([x]:List Resize)=QM5 s.resizes x:=fun x hx=>by
        have h:=with_eq x (s.resizes.take p) (s.resizes.drop p) (fun y hy=>by
         obtain ⟨k,hk,e⟩:=List.mem_take_iff_getElem.1 hy;have:=p3 k oA;rw [List.getD,yaa oA] at this;rw [← e,hx]
         exact Int.le_of_lt this) (fun y hy=>by
         obtain ⟨k,hk⟩:=ylb hy;rw [yFa] at hk;have hlt:=(List.getElem?_eq_some_iff.1 hk).1;have h5:=p4 (p+k) oA hlt;have h6:=hno y (yKa hk);rw [List.getD,hk] at h5;have h5:j.id<=y.job:=h5
         omega)
        rw [yLb] at h;rw [h]
        rfl
       simp only [hw,hw2,hw3,p1,hgt,fits_eq,room_eq2 hz hu.1,grant_eq (show Act 2 by simp [Act])];cases h5:decide (size > Q10 j.nodes) with
       | true =>
        simp only [cond_true];rw [hins _ rfl]
       | false =>
        have h5':=yca h5;simp only [cond_false];obtain ⟨n,hn⟩:∃ n:Nat,Q10 j.nodes - size=(n:Int):=⟨(Q10 j.nodes - size).toNat,by omega⟩;rw [hn];obtain ⟨hS,hbt⟩:=QGe huj (n:=n) oA;rw [highest_eq huj oA,each_eq (by simp [Act]) hS];generalize hSS:(Q01 j.nodes (n:Int)).1=S at *;have hin:∀ k,k<64->tb S k=true->tb j.nodes k=true:=fun k _ hk=>by
         rw [hbt,yfa] at hk;exact (mem_iff.1 (yVa hk)).2
        rw [(b.each5 hS hin).1,hins _ rfl]
        rfl
  ·have hno:∀ x ∈ s.jobs,x.id ≠ id:=fun x hx' e=>hx ⟨x,hx',e⟩
   have hf:=Q2d (QN7 g) id hno;have hat:QA0 s.jobs id = -1:=at_go id s.jobs 0 hno;have h0:decide ((-1:Int)<0)=true:=rfl;simp only [hat,hf,h0,yJb,cond_true]
set_option maxRecDepth 20000
set_option maxHeartbeats 4000000
attribute [local irreducible] ACalls AMoves
end Go.Proofs.YtackngeeehiegaaGreatDoor
namespace Go.Proofs.YtackngeeehiegaaGreatDoor
set_option linter.unusedSimpArgs false
set_option linter.unusedVariables false
open Go.Fw
section
variable {s:State}
end
theorem Qgb (l:List Node):∀ (r:List Int) (out:List Note) (i:Nat),((QB2 l r out i).1).length<=out.length+r.length
 | [],out,i=>yla _
 | x :: r,out,i=>by
  unfold QB2;rw [yAa];split
  ·have:=Qgb l r (out++([(Qr6 l x).1]:List Note)) (i+1);simp only [ypa,yja,yJa] at this ⊢;omega
  ·have:=Qgb l r out (i+1);simp only [yja] at this ⊢;omega
theorem QYc (S act job now:Int):∀ (r:List Int) (l:List Node) (i:Nat),((Ql2 S act job now r l i).2.1).length<=66
 | [],l,i=>by
  unfold Ql2;rw [yAa];split
  ·exact yva _
  ·have h:=Qgb l (Q40 S) [] 0;have h2:=(Qt7 S).1;have:(QX7 l (Q40 S)).length<=([]:List Note).length+(Q40 S).length:=h;have e:([]:List Note).length=0:=rfl;show (QX7 l (Q40 S)).length<=66;omega
 | x :: r,l,i=>by
  unfold Ql2;rw [yAa];split
  ·exact yva _
  ·exact QYc S act job now r ((QJ4 l x act job now).1) (i+1)
theorem QDe (l:List Node) (S act job now:Int):((QM2 l S act job now).2.1).length<=66:=by
 unfold QM2;rw [yAa];split
 ·exact yva _
 ·exact QYc ..
theorem QLh (r_:Resize):∀ (l out:List Resize) (i:Nat),((QB0 r_ l out true i).1).length=out.length+l.length∧(QB0 r_ l out true i).2.1=true
 | [],out,i=>⟨rfl,rfl⟩
 | x :: r,out,i=>by
  unfold QB0;have:=QLh r_ r (out++([x]:List Resize)) (i+1);simp only [yib,yHb,cond_false,ypa,yja,yJa] at this ⊢;exact ⟨by omega,this.2⟩
theorem QKh (r_:Resize):∀ (l out:List Resize) (put:Bool) (i:Nat),((QB0 r_ l out put i).1).length+(bif (QB0 r_ l out put i).2.1 then 0 else 1)<=out.length+l.length+1
 | [],out,put,i=>by
  unfold QB0;cases put <;> simp
 | x :: r,out,put,i=>by
  unfold QB0;cases hc:((!put)&&(decide (x.job > r_.job))) with
  | true =>
   have:=QLh r_ r ((out++([r_]:List Resize))++([x]:List Resize)) (i+1);simp only [cond_true,ypa,yja,yJa] at this ⊢;rw [this.2];simp only [cond_true];omega
  | false =>
   have:=QKh r_ r (out++([x]:List Resize)) put (i+1);simp only [cond_false,ypa,yja,yJa] at this ⊢;omega
theorem with_len (l:List Resize) (r_:Resize):(QM5 l r_).length<=l.length+1:=by
 unfold QM5 Qa3;have h:=QKh r_ l [] false 0;cases hp:(QB0 r_ l [] false 0).2.1 with
 | true =>
  rw [hp] at h;simp only [cond_true,yJa] at h;simp only [yib,cond_false];omega
 | false =>
  rw [hp] at h;simp only [cond_false,yJa] at h;simp only [yJb,cond_true,ypa,yja,yJa];omega
def Held (t:State × List Note × Int):Prop:=t.1.sz∧t.2.1.length<=4294967296
theorem Qd9 (c:Int):Held (zK,[],c):=⟨State.szz _,yva _⟩
section
variable {s:State} (hz:s.sz) (hr:s.resizes.length<4294967296)
include hz hr
end
theorem grant13 (l:List Node) (n act job now:Int):((Q82 l n act job now).1).length<=l.length∧((Q82 l n act job now).2.2.1).length<=66:=by
 have z:∀ e:Int,(([]:List Node),(0:Int),([]:List Note),e).1.length<=l.length∧(([]:List Node),(0:Int),([]:List Note),e).2.2.1.length<=66:=fun _=>⟨yva _,yva _⟩
 unfold Q82;rw [yAa];split
 ·exact z _
 ·rw [yAa];split
  ·exact z _
  ·unfold QL3;rw [yAa];split
   ·exact z _
   ·rw [yAa];split
    ·exact z _
    ·exact ⟨each13_len ..,QDe ..⟩
theorem begin_held {s:State} (hz:s.sz) (hr:s.resizes.length<4294967296) (id size:Int):Held (Qp2 s id size):=by
 have hw:∀ (N:List Node) (x:Resize) (w:List Note),N.length<=s.nodes.length->w.length<=66->Held ({ s with nodes:=N,resizes:=QM5 s.resizes x },w,0):=fun N x w h1 h2 =>
  ⟨⟨yHa h1 hz.1,hz.2.1,hz.2.2.1,yHa (with_len ..) (Nat.succ_le_of_lt hr),hz.2.2.2.2⟩,yHa h2 (yRa rfl)⟩
 unfold Qp2;rw [yAa];split
 ·exact Qd9 _
 ·rw [yAa];split
  ·exact Qd9 _
  ·rw [yAa];split
   ·exact Qd9 _
   ·rw [yAa];split
    ·exact Qd9 _
    ·rw [yAa];split
     ·exact Qd9 _
     ·rw [yAa];split
      ·rw [yAa];split
       ·exact Qd9 _
       ·rw [yAa];split
        ·exact Qd9 _
        ·exact hw _ _ _ (grant13 ..).1 (grant13 ..).2
      ·exact hw _ _ _ (each13_len ..) (QDe ..)
theorem begins_sz2 {s:State} (id size:Int) (hu:WU s) (h:(!Q16 s)=false) {P:Prop} (k:s.sz->(Qp0 s id size).1.sz->(Qp0 s id size).2.1.length<=4294967296->(Qp2 s id size).1.sz->(Qp2 s id size).2.1.length<=4294967296->P):P:=by
 have hf:Q16 s=true:=by simpa using h
 have hz:=QJe hf;have A:=begin_held hz (few_room hf) id size;rw [begin_eq hz hu] at k;exact k hz A.1 A.2 A.1 A.2
end Go.Proofs.YtackngeeehiegaaGreatDoor
