/-
  The program's search for room is the document's. Plain facts; conditions stand in each.
  One job's promise turned: what is left is as it was, less its new claim, with its old one given back. Plain facts; conditions stand in each.
  Who may start, and in which order: the program's answer is the document's. Conditions stand in each.
  One job's promise made earlier: what the program and the document do of it. Plain facts; conditions stand in each.
  The program's squeezing is the document's; both move promises one by one. Conditions stand in each.
  Which promises are due and which came later: the program's answers are the document's. Conditions stand in each.
  Squeezing never moves a promise to a later tick; a sound plan stays sound. Conditions stand in each.
  New promises: the iterator that gives the jobs that may be promised, in their order. Conditions stand in each.
  New promises: the program's loop over the jobs that may be promised, told as a fold. Conditions stand in each.
  New promises, one by one: each is taken from what is left (a draft for the Plan laws: plan.Fresh as a fold; its contract is not written yet). Conditions stand in each.
  New promises given in a row: the fold that plan.Fresh is. Conditions stand in each.
  What fits nowhere in more room fits nowhere in less (for the Plan laws). Conditions stand in each.
  What new promises change: those who are told, and no other (for the Plan laws). Conditions stand in each.
  The jobs to whom a promise may be given: each stands in the table, waits, is not held, has no promise; none twice (for the Plan laws). Conditions stand in each.
  What may be promised, and whether a plan is sound: the program's answers are the document's (One, Sound; wants a print that holds plan.One, musterref21.One, musterref21.Sound). Conditions stand in each.
  Contracts of functions, printed by a program of this repo (wip/dec). No condition beyond those that stand in each.
  The answers that the laws of planning ask of any program. No condition.
  What may be promised, and what new promises leave as it was: the laws PlanOne and PlanKept of any print. Conditions stand in each.
  New promises keep a plan sound, and all promised anew is sound, with nobody left who could be promised something: the law PlanSound of any print. Conditions stand in each.
  The same for a row that lists package variables: from a law's contract to the row's statement: the arguments are read, the law is called, they read as they did. Program-independent.
  How arguments are read: structs of the program, with what is known of them. No condition.
  What is read is of a size that a machine holds. No condition.
  What is read as a word is one. No condition.
-/
import Derived.Test.YtcbolcknapeneaaGreatDoorGS1
import Derived.Test.YtcbolcknapeneaaGreatDoorG7
import Derived.Test.YtcbolcknapeneaaGreatDoorG8
import Derived.Test.YtcbolcknapeneaaGreatDoorG12
import Derived.Test.YtcbolcknapeneaaGreatDoorProg
import Derived.Test.YtcbolcknapeneaaGreatDoorG5
import Derived.Test.YtcbolcknapeneaaGreatDoorG6
import Derived.LaidMore
import Derived.Stop.Joined
import Derived.JoinedOf
import Derived.Handed
import Derived.OpenShut
import Derived.KernelRfl
namespace Go.Proofs.YtcbolcknapeneaaGreatDoor
set_option linter.unusedSimpArgs false
set_option linter.unusedVariables false
open Go.Fw
theorem QOe (a b n:Int):∀ (l:List Step) (out:Int) (i:Nat),n<=(QA3 a b l out i).1 ↔ n<=out ∧ ∀ x ∈ l,a<x.at_->x.at_<b->n<=x.free
 | [],out,i=>by simp [QA3]
 | x :: r,out,i=>by
  rw [QA3]
  cases hc:(((decide (x.at_ > a))&&(decide (x.at_<b)))&&(decide (x.free<out))) with
  | true =>
   simp only [Bool.and_eq_true,decide_eq_true_eq] at hc
   simp only [cond_true]
   rw [QOe a b n r x.free (i+1)]
   constructor
   ·rintro ⟨h1,h2⟩
    refine ⟨by omega,fun y hy=>?_⟩
    rcases List.mem_cons.1 hy with rfl|hy
    ·exact fun _ _=>h1
    ·exact h2 y hy
   ·rintro ⟨h1,h2⟩
    exact ⟨h2 x (List.mem_cons_self ..) (by omega) (by omega),fun y hy=>h2 y (List.mem_cons_of_mem _ hy)⟩
  | false =>
   simp only [cond_false]
   rw [QOe a b n r out (i+1)]
   constructor
   ·rintro ⟨h1,h2⟩
    refine ⟨h1,fun y hy=>?_⟩
    rcases List.mem_cons.1 hy with rfl|hy
    ·intro g1 g2
     simp only [Bool.and_eq_false_iff,decide_eq_false_iff_not] at hc
     omega
    ·exact h2 y hy
   ·rintro ⟨h1,h2⟩
    exact ⟨h1,fun y hy=>h2 y (List.mem_cons_of_mem _ hy)⟩
theorem Qlc {p:List Step} (hp:Cn p) {a b:Int} (n:Int) (h0:0<=a) (h1:a<=1000000) (hab:a<b):n<=QB8 p a b ↔ ∀ u,a<=u->u<b->n<=pat p u:=by
 have hc:(((((QW0 p)!=0)||(decide (a<0)))||(decide (a > 1000000)))||(decide (b<=a)))=false:=by
  rw [(QC4 p).2 hp]
  simp;omega
 unfold QB8
 rw [hc]
 simp only [cond_false]
 unfold Q7a
 rw [QOe,now_eq]
 exact least_fit hp.1 a b n h0 hab
theorem Cn.srt {p:List Step} (h:Cn p):Srt (-1) p:=by
 have hp:=h.1
 cases p with
 | nil=>exact hp.elim
 | cons x r=>exact ⟨by have:=hp.1;omega,by have:=hp.1;omega,hp.2.1⟩
theorem Srt.drop:∀ {p:List Step} {a:Int} (i:Nat),Srt a p -> ∃ c,a<=c∧Srt c (p.drop i)
 | [],a,i,_=>⟨a,Int.le_refl _,by simp [Srt]⟩
 | _ :: _,a,0,h=>⟨a,Int.le_refl _,h⟩
 | x :: r,a,i+1,h=>by
  obtain ⟨c,h1,h2⟩:=Srt.drop i h.2.2
  exact ⟨c,by have:=h.1;omega,h2⟩
theorem pleast_g1 {p:List Step} (hs:Srt (-1) p) (hl:p.length<=1000) (b n:Int):∀ (m i:Nat) (k:Int),p.length - i<m->i<=p.length->(n<=(QM2 p b m (i:Int) k).2 ↔ n<=k ∧ ∀ x ∈ p.drop i,x.at_<b->n<=x.free)
 | 0,_,_,h,_=>absurd h (by omega)
 | m+1,i,k,hm,hi=>by
  rw [QM2]
  rcases Nat.lt_or_ge i p.length with hlt|hge
  ·have hd:=Qg0 Step.zero hlt
   obtain ⟨c,_,hc⟩:=Srt.drop i hs
   rw [hd] at hc
   have hw:w64 ((i:Int)+1)=((i+1:Nat):Int):=wr (by omega)
   rw [show decide ((i:Int)<(p.length:Int))=true from decide_eq_true (by omega),Bool.true_and,Int.toNat_natCast,hw,hd]
   cases hb:decide ((p.getD i Step.zero).at_<b) with
   | true =>
    have hb:=of_decide_eq_true hb
    simp only [cond_true]
    rw [pleast_g1 hs hl b n m (i+1) _ (by omega) (by omega)]
    constructor
    ·rintro ⟨h1,h2⟩
     refine ⟨by omega,fun y hy=>?_⟩
     rcases List.mem_cons.1 hy with rfl|hy
     ·intro _;omega
     ·exact h2 y hy
    ·rintro ⟨h1,h2⟩
     have:=h2 _ (List.mem_cons_self ..) hb
     exact ⟨by omega,fun y hy=>h2 y (List.mem_cons_of_mem _ hy)⟩
   | false =>
    have hb:=of_decide_eq_false hb
    simp only [cond_false]
    constructor
    ·intro h1
     refine ⟨h1,fun y hy hyb=>?_⟩
     rcases List.mem_cons.1 hy with rfl|hy
     ·exact absurd hyb hb
     ·have:=(QOc (f:=0) hc.2.2 y hy).1
      omega
    ·exact fun h=>h.1
  ·rw [show decide ((i:Int)<(p.length:Int))=false from decide_eq_false (by omega),Bool.false_and,List.drop_eq_nil_of_le hge]
   simp
theorem Qgc {p:List Step} (hp:Cn p) {a b:Int} (n:Int) (h0:0<=a) (h1:a<=1000000) (hab:a<b):n<=QA0 p a b ↔ ∀ u,a<=u->u<b->n<=pat p u:=by
 have hc:((((Qx1 p)!=0)||(!(Qs2 a)))||(decide (b<=a)))=false:=by
  rw [QS5,(QC4 p).2 hp]
  simp [Qs2];omega
 obtain ⟨k,hk,hkl,hka,hkn⟩:=place_spec hp h0
 have hl:=hp.2.1
 have hw:w64 ((k:Int)+1)=((k+1:Nat):Int):=wr (by omega)
 unfold QA0
 rw [hc]
 simp only [cond_false]
 unfold Qi3
 rw [hk,hw,Int.toNat_natCast,pleast_g1 hp.srt hl b n _ _ _ (by omega) (by omega),← least_fit hp.1 a b n h0 hab]
 have hpa:pat p a=(p.getD k Step.zero).free:=by
  have hcan:=hp.1
  cases p with
  | nil=>exact hcan.elim
  | cons x r =>
   show pv 0 (x :: r) a=_
   exact pv_at k x r 0 (by simp at hkl;omega) hcan.2.1 hka (fun h=>hkn h)
 rw [hpa]
 refine and_congr Iff.rfl ?_
 obtain ⟨c,_,hcs⟩:=Srt.drop k hp.srt
 rw [Qg0 Step.zero hkl] at hcs
 constructor
 ·intro h x hx ha hb
  have hx2:x ∈ p.take (k+1)++p.drop (k+1):=by rw [List.take_append_drop];exact hx
  rcases List.mem_append.1 hx2 with hx2|hx2
  ·obtain ⟨j,hj,e⟩:=List.getElem_of_mem hx2
   have hj':j<k+1:=by simp at hj;omega
   have hjp:j<p.length:=by omega
   have e2:p[j]=x:=by rw [← e,List.getElem_take]
   have hle:x.at_<=a:=by
    rcases Nat.lt_or_ge j k with hjk|hjk
    ·obtain ⟨c2,_,hs2⟩:=Srt.drop j hp.srt
     rw [Qg0 Step.zero hjp] at hs2
     have hm:p.getD k Step.zero ∈ p.drop (j+1):=by
      have:p.getD k Step.zero=(p.drop (j+1))[k - (j+1)]'(by simp;omega):=by
       rw [List.getElem_drop,List.getD_eq_getElem?_getD,List.getElem?_eq_getElem hkl]
       simp only [Option.getD_some]
       congr 1
       omega
      rw [this]
      exact List.getElem_mem _
     have:=(QOc (f:=0) hs2.2.2 _ hm).1
     rw [List.getD_eq_getElem?_getD,List.getElem?_eq_getElem hjp,Option.getD_some,e2] at this
     omega
    ·have:j=k:=by omega
     subst this
     rw [List.getD_eq_getElem?_getD,List.getElem?_eq_getElem hjp,Option.getD_some,e2] at hka
     exact hka
   omega
  ·exact h x hx2 hb
 ·intro h x hx hb
  refine h x (List.mem_of_mem_drop hx) ?_ hb
  have hx':a<x.at_:=by
   rcases Nat.lt_or_ge (k+1) p.length with hlt|hge
   ·have hn:=hkn hlt
    rw [Qg0 Step.zero hlt] at hx
    have hs3:=hcs.2.2
    rw [Qg0 Step.zero hlt] at hs3
    rcases List.mem_cons.1 hx with rfl|hx
    ·exact hn
    ·have:=(QOc (f:=0) hs3.2.2 x hx).1
     omega
   ·rw [List.drop_eq_nil_of_le hge] at hx
    cases hx
  exact hx'
theorem least_eq {p:List Step} (hp:Cn p) {a b:Int} (h0:0<=a) (h1:a<=1000000) (hab:a<b):QA0 p a b=QB8 p a b :=
 Int.le_antisymm ((Qlc hp _ h0 h1 hab).2 ((Qgc hp _ h0 h1 hab).1 (Int.le_refl _))) ((Qgc hp _ h0 h1 hab).2 ((Qlc hp _ h0 h1 hab).1 (Int.le_refl _)))
theorem Qg5 (long n:Int):Ql2 long n=true ↔ (1<=n∧n<=1000000)∧1<=long∧long<=1000000:=by
 simp [Ql2,Qj4]
theorem Qd8 {p:List Step} (hp:Cn p) {long n:Int} (ha:Ql2 long n=true) {t:Int}:Qy1 p t long n=true ↔ 0<=t∧t+long<=1000000∧Fit (pat p) long n t:=by
 obtain ⟨h1,h2⟩:=(Qg5 long n).1 ha
 have hw:w64 (1000000 - long)=1000000 - long:=wr (by omega)
 unfold Qy1
 rw [(QC4 p).2 hp,hw]
 cases hc:((((((((0:Int)!=0)||(decide (n<1)))||(decide (n > 1000000)))||(decide (long<1)))||(decide (long > 1000000)))||(decide (t<0)))||(decide (t > 1000000 - long))) with
 | true =>
  simp only [cond_true]
  constructor
  ·intro h;cases h
  ·rintro ⟨g1,g2,_⟩
   simp at hc
   omega
 | false =>
  simp at hc
  have hw2:w64 (t+long)=t+long:=wr (by omega)
  simp only [cond_false,decide_eq_true_eq,ge_iff_le]
  rw [hw2,Qlc hp n (by omega) (by omega) (by omega)]
  exact ⟨fun h=>⟨by omega,by omega,h⟩,fun h=>h.2.2⟩
theorem QO9 {p:List Step} {long n:Int} (h:QW0 p ≠ 0∨Ql2 long n=false) (t:Int):Qy1 p t long n=false:=by
 unfold Qy1
 have:((((((((QW0 p)!=0)||(decide (n<1)))||(decide (n > 1000000)))||(decide (long<1)))||(decide (long > 1000000)))||(decide (t<0)))||(decide (t > (w64 (1000000 - long)))))=true:=by
  rcases h with h|h
  ·simp [h]
  ·have h':¬ ((1<=n∧n<=1000000)∧1<=long∧long<=1000000):=fun g=>by rw [(Qg5 long n).2 g] at h;cases h
   simp
   omega
 rw [this]
 rfl
theorem fits_eq (p:List Step) (t long n:Int):QQ6 p t long n=Qy1 p t long n:=by
 by_cases hc:QW0 p=0
 ·have hp:=(QC4 p).1 hc
  cases ha:Ql2 long n with
  | false =>
   rw [QO9 (.inr ha)]
   unfold QQ6
   rw [ha]
   simp
  | true =>
   obtain ⟨h1,h2⟩:=(Qg5 long n).1 ha
   have hw:w64 (1000000 - long)=1000000 - long:=wr (by omega)
   unfold QQ6 Qy1
   rw [QS5,hc,ha,hw]
   cases hq:Qj4 t 0 (1000000 - long) with
   | false =>
    have:(((((((((0:Int)!=0)||(decide (n<1)))||(decide (n > 1000000)))||(decide (long<1)))||(decide (long > 1000000)))||(decide (t<0)))||(decide (t > 1000000 - long))))=true:=by
     simp [Qj4] at hq
     simp
     omega
    rw [this]
    rfl
   | true =>
    have:(((((((((0:Int)!=0)||(decide (n<1)))||(decide (n > 1000000)))||(decide (long<1)))||(decide (long > 1000000)))||(decide (t<0)))||(decide (t > 1000000 - long))))=false:=by
     simp [Qj4] at hq
     simp
     omega
    rw [this]
    simp [Qj4] at hq
    have hw2:w64 (t+long)=t+long:=wr (by omega)
    rw [hw2,least_eq hp (by omega) (by omega) (by omega)]
    rfl
 ·rw [QO9 (.inl hc)]
  unfold QQ6
  rw [QS5]
  simp [hc]
theorem Qxa (p:List Step) (long n a:Int):∀ (l:List Step) (i:Nat),Q15 p long n a l i=QM6 (fun t=>Qy1 p t long n) a l
 | [],_=>rfl
 | x :: r,i=>by
  rw [Q15,QM6,Qxa p long n a r (i+1)]
theorem Qn8 (p:List Step) (from_ long n:Int):QB2 p from_ long n=Qo0 p from_ long n:=by
 have hr:Qo0 p from_ long n=(bif Qy1 p (max from_ 0) long n then (max from_ 0,true) else QM6 (fun t=>Qy1 p t long n) (max from_ 0) p):=by
  unfold Qo0 QR3
  by_cases h:from_<0
  ·rw [decide_eq_true h,show max from_ 0=0 by omega,Qxa]
   rfl
  ·rw [decide_eq_false h,show max from_ 0=from_ by omega]
   simp only [cond_false]
   rw [Qxa]
 rw [hr]
 unfold QB2
 rw [QS5]
 by_cases hc:QW0 p=0
 ·have hp:=(QC4 p).1 hc
  cases ha:Ql2 long n with
  | false =>
   rw [QO9 (.inr ha),hc,Qb7 p fun y _ _=>QO9 (.inr ha) _]
   rfl
  | true =>
   obtain ⟨h1,h2⟩:=(Qg5 long n).1 ha
   have hw:w64 (1000000 - long)=1000000 - long:=wr (by omega)
   rw [hc]
   simp only [bne_self_eq_false,Bool.not_true,Bool.or_self,cond_false]
   unfold QG4
   rw [hw,List.drop_zero]
   by_cases hm:max from_ 0 > 1000000 - long
   ·rw [decide_eq_true hm]
    have hno:∀ t,max from_ 0<=t->Qy1 p t long n=false:=by
     intro t ht
     cases hq:Qy1 p t long n with
     | false=>rfl
     | true=>have:=(Qd8 hp ha).1 hq;omega
    rw [hno _ (Int.le_refl _),Qb7 p fun y _ hy=>hno _ (by omega)]
    rfl
   ·rw [decide_eq_false hm]
    exact ear_first hp.1 (by omega) (by omega) (by omega) fun t ht=>(Qd8 hp ha).trans ⟨fun h=>h.2,fun h=>⟨ht,h⟩⟩
 ·rw [QO9 (.inl hc),Qb7 (fit:=fun t=>Qy1 p t long n) p fun y _ _=>QO9 (.inl hc) _,show (QW0 p != 0)=true by simpa using hc]
  rfl
theorem QPd (p:List Step) (from_:Int) {long n:Int} (h:Ql2 long n=false):Qo0 p from_ long n=(0,false):=by
 rw [← Qn8]
 unfold QB2
 rw [h]
 simp
theorem best_g2 (p:List Step) (from_ latest:Int) (options:List Alt):∀ (l:List Alt) (choice start:Int) (found:Bool) (best end_:Int) (i m:Nat),(options.take 48).drop i=l->i<=48->i<=options.length->options.length - i<m ->
  (found=true->best=choice∧0<=choice∧choice<48∧end_=w64 (start+((options.take 48).getD (Int.toNat choice) Alt.zero).wall))->(found=false->best = -1∧choice=0∧start=0) ->
  Qe1 p from_ latest 12 (options.take 48) l choice start found i=(fun r:Int × Int × Int × Nat=>(bif decide (r.1<0) then ((0,0,false):Int × Int × Bool) else (r.1,r.2.1,true))) (Q72 p options from_ latest 12 m best start end_ i)
 | l,choice,start,found,best,end_,i,0,_,_,_,hm,_,_=>absurd hm (by omega)
 | [],choice,start,found,best,end_,i,m+1,hl,hi,ho,hm,h1,h2=>by
  have he:((decide ((i:Int)<(options.length:Int)))&&(decide ((i:Int)<48)))=false:=by
   have:=congrArg List.length hl
   simp at this
   simp
   omega
  rw [Q72,he]
  simp only [cond_false]
  cases found with
  | true =>
   obtain ⟨rfl,h3,_⟩:=h1 rfl
   rw [decide_eq_false (by omega)]
   rfl
  | false =>
   obtain ⟨rfl,rfl,rfl⟩:=h2 rfl
   rfl
 | x :: r,choice,start,found,best,end_,i,m+1,hl,hi,ho,hm,h1,h2=>by
  have hlen:=congrArg List.length hl
  simp at hlen
  have hx:options.getD i Alt.zero=x:=by
   have:=(QR2 Alt.zero hl).1
   rw [← this]
   simp only [List.getD_eq_getElem?_getD,List.getElem?_take]
   rw [if_pos (by omega)]
  have hxt:=(QR2 Alt.zero hl).1
  have hrr:=(QR2 Alt.zero hl).2
  have he:((decide ((i:Int)<(options.length:Int)))&&(decide ((i:Int)<48)))=true:=by
   simp
   omega
  rw [Q72,he,hx,Qe1,Qn8]
  simp only [cond_true]
  rw [show max (12:Int) 0=12 by decide]
  have next:=fun choice start found best end_=>best_g2 p from_ latest options r choice start found best end_ (i+1) m hrr (by omega) (by omega) (by omega)
  cases hs:(((decide (x.wall<1))||(decide (x.wall > 1000000)))||(decide ((12:Int) > (w64 (1000000 - x.wall))))) with
  | true =>
   have:((!(Ql2 x.wall x.nodes))||(decide ((12:Int) > (w64 (1000000 - x.wall)))))=true:=by
    cases ha:Ql2 x.wall x.nodes with
    | false=>rfl
    | true =>
     have:=(Qg5 _ _).1 ha
     simp at hs ⊢
     omega
   rw [this]
   exact next choice start found best end_ h1 h2
  | false =>
   simp only [cond_false]
   cases ha:Ql2 x.wall x.nodes with
   | false =>
    have hno:Ql2 (w64 (x.wall+12)) x.nodes=false:=by
     have hw:¬ ((1<=x.nodes∧x.nodes<=1000000)∧1<=x.wall∧x.wall<=1000000):=fun g=>by rw [(Qg5 _ _).2 g] at ha;cases ha
     simp at hs
     cases hq:Ql2 (w64 (x.wall+12)) x.nodes with
     | false=>rfl
     | true =>
      have:=(Qg5 _ _).1 hq
      omega
    rw [QPd p from_ hno]
    exact next choice start found best end_ h1 h2
   | true =>
    have hg:(decide ((12:Int) > (w64 (1000000 - x.wall))))=false:=by simp at hs ⊢;omega
    rw [hg]
    simp only [Bool.not_true,Bool.or_self,cond_false]
    generalize Qo0 p from_ (w64 (x.wall+12)) x.nodes=E
    cases hE:(E.2&&decide (E.1<=latest)) with
    | false =>
     simp only [Bool.not_false,Bool.true_or,cond_true,Bool.false_and,cond_false]
     exact next choice start found best end_ h1 h2
    | true =>
     simp only [Bool.not_true,Bool.false_or,Bool.true_and]
     have hup:=next (i:Int) E.1 true (i:Int) (w64 (E.1+x.wall)) (fun _=>⟨rfl,by omega,by omega,by rw [Int.toNat_natCast,hxt]⟩) (fun h=>by cases h)
     cases found with
     | false =>
      obtain ⟨rfl,rfl,rfl⟩:=h2 rfl
      exact hup
     | true =>
      obtain ⟨rfl,h3,h4,h5⟩:=h1 rfl
      rw [← h5,decide_eq_false (show ¬ best<0 by omega)]
      simp only [Bool.true_and,Bool.false_or]
      by_cases hlt:w64 (E.1+x.wall)<end_
      ·rw [decide_eq_true hlt,decide_eq_false (show ¬ w64 (E.1+x.wall) >= end_ by omega)]
       exact hup
      ·rw [decide_eq_false hlt,decide_eq_true (show w64 (E.1+x.wall) >= end_ by omega)]
       exact next best start true best end_ h1 h2
theorem Qyd (p:List Step) (options:List Alt) (from_ latest:Int):Qk2 p options from_ latest 12=Qq1 p options from_ latest 12:=by
 have h1:Qk2 p options from_ latest 12=Qc7 p from_ latest 12 (options.take 48):=by
  unfold Qk2
  by_cases h:(options.length:Int) > 48
  ·rw [decide_eq_true h];rfl
  ·rw [decide_eq_false h,List.take_of_length_le (by omega)];rfl
 rw [h1]
 have hg:=best_g2 p from_ latest options (options.take 48) 0 0 false (-1) 0 0 (Int.toNat ((options.length:Int) - (0:Int))+1) rfl (by omega) (by omega) (by omega) (fun h=>by cases h) (fun _=>⟨rfl,rfl,rfl⟩)
 unfold Qc7 QF4
 rw [hg]
 unfold Qq1
 rw [show decide ((12:Int)<0)=false from rfl]
 simp only [cond_false]
 unfold QC8 Qvb
 generalize Q72 p options from_ latest 12 (Int.toNat ((options.length:Int) - (0:Int))+1) (-1) 0 0 0=r
 cases decide (r.1<0) <;> rfl
end Go.Proofs.YtcbolcknapeneaaGreatDoor
namespace Go.Proofs.YtcbolcknapeneaaGreatDoor
set_option linter.unusedSimpArgs false
set_option linter.unusedVariables false
open Go.Fw
theorem add_rp {p q:List Step} {f f':Int->Int} {N M:Nat} (h:Rp p f N) (hN:N+2<=1000) (hb:Bd f 1000000) (hb':Bd f' 1000000) {f_ t_ n:Int} (h0:0<=f_) (hf:f_<=1000000) (hft:f_<=t_) (hn:-1000000<=n∧n<=1000000)
  (hf':∀ t,0<=t->t<=1000000->f' t=f t+(if f_<=t∧t<t_ then n else 0)) (hq:Rp q f' M):QJ1 p f_ t_ n=(q,0):=by
 rw [add_eq]
 obtain ⟨r,hr,he⟩:=ref_add (h.cn (by omega) hb) h0 hf hft hn
 have e:r=q:=Can.uniq hr.1 hq.1 fun t a b=>by rw [hr.2.2 t a b,hq.2.2 t a b,hf' t a b,h.2.2 t a b]
 subst e
 have hl:Rp r f' (N+2):=⟨hr.1,Nat.le_trans hr.2.1 (by have:=h.2.1;omega),hq.2.2⟩
 rw [he,show ((QW0 r)!=0)=false by rw [(QC4 r).2 (hl.cn hN hb')];rfl]
 rfl
theorem cls_set (t:Int) (p:Job):∀ (l:List Job) (k:Nat) (j:Job),l[k]? = some j->p.id=j.id->l.Pairwise (fun a b=>a.id<b.id)->clsAt [] t (l.set k p)=clsAt [j.id] t l+clAt t p
 | [],_,_,h,_,_=>by simp at h
 | x :: r,0,j,h,hid,hp=>by
  rw [List.pairwise_cons] at hp
  simp only [List.getElem?_cons_zero,Option.some.injEq] at h
  subst h
  have h1:=cls_none t x.id r fun z hz=>by have:=hp.1 z hz;omega
  simp only [List.set_cons_zero,clsAt,h1,List.any_nil,List.any_cons,beq_self_eq_true,Bool.true_or,if_true,Bool.false_eq_true,if_false]
  omega
 | x :: r,k+1,j,h,hid,hp=>by
  rw [List.pairwise_cons] at hp
  simp only [List.getElem?_cons_succ] at h
  have h1:=cls_set t p r k j h hid hp.2
  have h2:=hp.1 j (List.mem_of_getElem? h)
  simp only [List.set_cons_succ,clsAt,h1,List.any_nil,List.any_cons,show (x.id==j.id)=false by simp;omega,Bool.or_false,Bool.false_eq_true,if_false]
  omega
theorem QN8 {l:List Job} {k:Nat} {j p:Job} (hk:l[k]? = some j) (i:Nat):(l.set k p)[i]? = if i=k then some p else l[i]?:=by
 have hlt:k<l.length:=(List.getElem?_eq_some_iff.1 hk).1
 rw [List.getElem?_set]
 by_cases h:k=i
 ·subst h
  simp [hlt]
 ·rw [if_neg h,if_neg (fun e=>h e.symm)]
theorem set_pw {l:List Job} (hp:l.Pairwise (fun a b=>a.id<b.id)) {k:Nat} {j p:Job} (hk:l[k]? = some j) (hid:p.id=j.id):(l.set k p).Pairwise fun a b=>a.id<b.id:=by
 have e:(l.set k p).map (·.id)=l.map (·.id):=by
  apply List.ext_getElem?
  intro i
  rw [List.getElem?_map,List.getElem?_map,QN8 hk]
  by_cases h:i=k
  ·subst h
   simp [hk,hid]
  ·rw [if_neg h]
 have h1:(l.map (·.id)).Pairwise (· < ·):=List.pairwise_map.2 hp
 rw [← e] at h1
 exact List.pairwise_map.1 h1
theorem Qmb {l:List Job} (hp:l.Pairwise (fun a b=>a.id<b.id)) {k:Nat} {j p:Job} (hk:l[k]? = some j) (x:Job):x ∈ l.set k p ↔ x=p∨(x ∈ l∧x.id ≠ j.id):=by
 constructor
 ·intro h
  obtain ⟨i,hi⟩:=List.getElem?_of_mem h
  rw [QN8 hk] at hi
  by_cases e:i=k
  ·rw [if_pos e] at hi
   exact .inl (by simpa using hi.symm)
  ·rw [if_neg e] at hi
   refine .inr ⟨List.mem_of_getElem? hi,?_⟩
   rcases Nat.lt_or_gt_of_ne e with g|g
   ·have:=QD6 hp i k x j g hi hk;omega
   ·have:=QD6 hp k i j x g hk hi;omega
 ·rintro (rfl|⟨h,hne⟩)
  ·exact List.mem_of_getElem? ((QN8 hk k).trans (if_pos rfl))
  ·obtain ⟨i,hi⟩:=List.getElem?_of_mem h
   have e:i ≠ k:=fun e=>by subst e;rw [hk] at hi;simp at hi;subst hi;exact hne rfl
   exact List.mem_of_getElem? ((QN8 hk i).trans ((if_neg e).trans hi))
theorem get_set {l:List Job} (hp:l.Pairwise (fun a b=>a.id<b.id)) {k:Nat} {j p:Job} (hk:l[k]? = some j) (hid:p.id=j.id) (id:Int):Qo3 (l.set k p) id=if id=j.id then p else Qo3 l id:=by
 have hp':=set_pw hp hk hid
 have hm:=fun x=>Qmb hp hk (p:=p) x
 by_cases h:id=j.id
 ·rw [if_pos h,h,← hid]
  exact Qf4 hp' ((hm p).2 (.inl rfl))
 ·rw [if_neg h]
  by_cases g:∃ x ∈ l,x.id=id
  ·obtain ⟨x,hx,rfl⟩:=g
   rw [Qf4 hp hx,Qf4 hp' ((hm x).2 (.inr ⟨hx,h⟩))]
  ·rw [Q8e id l fun x hx e=>g ⟨x,hx,e⟩,Q8e id (l.set k p) fun x hx e=>?_]
   rcases (hm x).1 hx with rfl|⟨hx,_⟩
   ·exact h (e.symm.trans hid)
   ·exact g ⟨x,hx,e⟩
theorem tk_set {l:List Job} (hp:l.Pairwise (fun a b=>a.id<b.id)) {k:Nat} {j p:Job} (hk:l[k]? = some j) (hid:p.id=j.id) (hj:j.state ≠ 2) (hps:p.state ≠ 2) (x:Node):tk (l.set k p) x=tk l x:=by
 unfold tk
 rw [get_set hp hk hid]
 by_cases h:x.job=j.id
 ·rw [if_pos h,h,Qf4 hp (List.mem_of_getElem? hk)]
  rw [show (p.state != 2)=true by simpa using hps,show (j.state != 2)=true by simpa using hj]
  rfl
 ·rw [if_neg h]
theorem left_set {s:State} (hp:s.jobs.Pairwise (fun a b=>a.id<b.id)) {k:Nat} {j p:Job} (hk:s.jobs[k]? = some j) (hid:p.id=j.id) (hj:j.state ≠ 2) (hps:p.state ≠ 2) (t:Int) :
  Qd3 { s with jobs:=s.jobs.set k p } [] t=Qd3 s [j.id] t - clAt t p:=by
 unfold Qd3 QAc
 rw [cls_set t p s.jobs k j hk hid hp]
 have:(s.nodes.map (tk (s.jobs.set k p)))=s.nodes.map (tk s.jobs):=List.map_congr_left fun x _=>tk_set hp hk hid hj hps x
 rw [this]
 show _ - bkAt t s.books - (clsAt [j.id] t s.jobs+clAt t p)=_
 show ((s.nodes.filter fun y=>(y.state != 4)&&(!y.drain)).length:Int) - _ - bkAt t s.books - (clsAt [j.id] t s.jobs+clAt t p)=_
 omega
theorem Qhb {s:State} (hp:s.jobs.Pairwise (fun a b=>a.id<b.id)) {j:Job} (hj:j ∈ s.jobs) (t:Int):Qd3 s [j.id] t=Qd3 s [] t+clAt t j:=by
 unfold Qd3
 rw [cls_some t j s.jobs hj hp]
 omega
theorem left_bd {s:State} (hs:s.sz) (hn:∀ x ∈ s.jobs,U64 x.nodes) (hc:Qz1 s=0) (ex:List Int):Bd (Qd3 s ex) 1000000:=by
 obtain ⟨f1,f2,f3,f4,f5,f6⟩:=room_facts hs hn hc
 intro t a b
 have b1:=freeAt_bd s f6 t a b
 have b2:=bkAt_bd t s.books f1
 have b3:=clsAt_bd ex t s.jobs f3
 unfold Qd3
 omega
end Go.Proofs.YtcbolcknapeneaaGreatDoor
namespace Go.Proofs.YtcbolcknapeneaaGreatDoor
set_option linter.unusedSimpArgs false
set_option linter.unusedVariables false
open Go.Fw
theorem QBa (id:Int):∀ (l:List Job) (i:Nat) (c:List (Int × Int)),(∀ x ∈ l,x.id ≠ id)->getM id (Q31 l i c)=getM id c
 | [],_,_,_=>rfl
 | x :: r,i,c,h=>by
  rw [Q31,QBa id r (i+1) _ fun y hy=>h y (List.mem_cons_of_mem _ hy),Qy7]
  have:=h x (List.mem_cons_self ..)
  rw [show (id==x.id)=false by simp;omega]
  rfl
theorem QVe (x:Job):∀ (l:List Job) (i:Nat) (c:List (Int × Int)),x ∈ l->l.Pairwise (fun a b=>a.id<b.id)->getM x.id (Q31 l i c)=some x.state
 | y :: r,i,c,hx,hp=>by
  rw [List.pairwise_cons] at hp
  rw [Q31]
  rcases List.mem_cons.1 hx with rfl|hx
  ·rw [QBa x.id r (i+1) _ fun z hz=>by have:=hp.1 z hz;omega,Qy7,beq_self_eq_true]
   rfl
  ·exact QVe x r (i+1) _ hx hp.2
theorem state_in {j:Job} (h:Qi0 j=0):j.state=1∨j.state=2∨(3<=j.state∧j.state<=7):=by
 have hs:=QS3 (j:=j) (by rw [h];rfl)
 unfold Q51 at hs
 cases h1:(j.state==1) with
 | true=>exact .inl (by simpa using h1)
 | false =>
  cases h2:(j.state==2) with
  | true=>exact .inr (.inl (by simpa using h2))
  | false =>
   rw [h1,h2] at hs
   simp [Ql7] at hs
   exact .inr (.inr (by omega))
theorem stands_met {l:List Job} (hp:l.Pairwise (fun a b=>a.id<b.id)) (hc:∀ x ∈ l,Qi0 x=0) (d:Dep):((QF2 (Q31 l 0 []) d)!=1) = !(Qm7 l d):=by
 by_cases hx:∃ x ∈ l,x.id=d.job
 ·obtain ⟨x,hx,he⟩:=hx
  obtain ⟨k,hk,ha⟩:=jat_some x l 0 hx hp
  have hat:QK3 l d.job=(k:Int):=by rw [← he,QK3,ha,Nat.zero_add]
  have hg:getM d.job (Q31 l 0 [])=some x.state:=by rw [← he];exact QVe x l 0 [] hx hp
  have hget:l.getD k Job.zero=x:=by simp [List.getD_eq_getElem?_getD,hk]
  unfold QF2 Qm7
  rw [hg,hat,Int.toNat_natCast,hget,decide_eq_false (by omega:¬ (k:Int)<0)]
  have hs:=state_in (hc x hx)
  simp only [Option.isSome_some,Bool.not_true,cond_false,Option.getD_some,Bool.false_or]
  unfold Qic Ql7
  by_cases h3:x.state<3
  ·rw [decide_eq_true h3,decide_eq_false (by omega:¬ x.state >= 3)]
   rfl
  ·rw [decide_eq_false h3,decide_eq_true (by omega:x.state >= 3),decide_eq_true (by omega:x.state<=7)]
   simp only [cond_false,Bool.and_self,Bool.not_true]
   unfold QA2
   cases (d.how==1) <;> cases (d.how==2) <;> cases (d.how==3) <;> cases hq:(x.state==3) <;> simp [bne,hq]
 ·have hn:∀ x ∈ l,x.id ≠ d.job:=fun x h e=>hx ⟨x,h,e⟩
  have hg:getM d.job (Q31 l 0 [])=none:=QBa d.job l 0 [] hn
  have hat:QK3 l d.job = -1:=jat_none d.job l 0 hn
  unfold QF2 Qm7
  rw [hg,hat]
  rfl
theorem all_eq {l:List Job} (hp:l.Pairwise (fun a b=>a.id<b.id)) (hc:∀ x ∈ l,Qi0 x=0):∀ (r:List Dep) (i:Nat),Qk3 (Q31 l 0 []) r i=QW3 l r i
 | [],_=>rfl
 | d :: r,i=>by rw [Qk3,QW3,stands_met hp hc,all_eq hp hc r (i+1)]
theorem Qna {l:List Job} (hp:l.Pairwise (fun a b=>a.id<b.id)) (hc:∀ x ∈ l,Qi0 x=0):∀ (r:List Job) (out:List Int) (i:Nat),QR1 (Q31 l 0 []) r out i=(QU0 l r out i).1
 | [],_,_=>rfl
 | x :: r,out,i=>by
  rw [QR1,QU0]
  have ha:QL5 (Q31 l 0 []) x=QF6 l x:=all_eq hp hc x.after 0
  rw [ha,Qna hp hc r out (i+1),Qna hp hc r _ (i+1)]
  cases h1:(x.state==1) <;> cases h2:x.held <;> cases h3:QF6 l x <;> simp [bne,h1]
theorem Qr5 {l:List Job} (hl:l.length<=4294967296) (hn:∀ x ∈ l,U64 x.nodes):Q60 l=Qu0 l:=by
 unfold Q60 Qu0
 rw [Qod l hl hn]
 cases h:((QT1 l)!=0) with
 | true=>rfl
 | false =>
  have hc:Ql1 l=0:=by rw [Qod l hl hn];simpa using h
  obtain ⟨_,hj,hp⟩:=Qr7 hc
  exact Qna hp (fun x hx=>by rw [← Q9b x (hn x hx)];exact hj x hx) l [] 0
theorem Qv6 (l:List Job):∀ (r:List Job) (out:List Int) (i:Nat) (id:Int),id ∈ (QU0 l r out i).1->id ∈ out ∨ ∃ x ∈ r,x.id=id∧x.state=1∧x.held=false
 | [],_,_,_,h=>.inl h
 | x :: r,out,i,id,h=>by
  rw [QU0] at h
  cases hc:(((x.state==1)&&(!x.held))&&(QF6 l x)) with
  | true =>
   rw [hc] at h
   rcases Qv6 l r _ _ id h with h|⟨y,hy,e⟩
   ·rcases List.mem_append.1 h with h|h
    ·exact .inl h
    ·simp at hc
     exact .inr ⟨x,List.mem_cons_self ..,(List.mem_singleton.1 h).symm,hc.1.1,hc.1.2⟩
   ·exact .inr ⟨y,List.mem_cons_of_mem _ hy,e⟩
  | false =>
   rw [hc] at h
   rcases Qv6 l r _ _ id h with h|⟨y,hy,e⟩
   ·exact .inl h
   ·exact .inr ⟨y,List.mem_cons_of_mem _ hy,e⟩
theorem u_in (n:Int):0<=Q11 n∧Q11 n<=1000000000000:=by
 unfold Q11 QZ6
 cases h1:decide (n<0) with
 | true=>simp
 | false =>
  cases h2:decide (n > 1000000000000) with
  | true=>simp
  | false=>simp at h1 h2 ⊢;omega
theorem u_id {n:Int} (h:0<=n∧n<=1000000000000):Q11 n=n:=by
 unfold Q11 QZ6
 rw [decide_eq_false (by omega),decide_eq_false (by omega)]
 rfl
theorem u_min {n:Int} (h:0<=n):Q11 n=min n 1000000000000:=by
 unfold Q11 QZ6
 rw [decide_eq_false (show ¬ n<0 by omega)]
 cases h2:decide (n > 1000000000000) with
 | true=>have:=of_decide_eq_true h2;show (1000000000000:Int)=_;omega
 | false=>have:=of_decide_eq_false h2;show n=_;omega
def plusU (a n:Int):Int:=min (a+Q11 n) 1000000000000
theorem plusU_in {a:Int} (n:Int) (h:0<=a∧a<=1000000000000):0<=plusU a n∧plusU a n<=1000000000000:=by
 have:=u_in n
 unfold plusU
 omega
theorem sat_plus {a:Int} (n:Int) (h:0<=a∧a<=1000000000000):QAb ([a,n]:List Int)=plusU a n:=by
 have hn:=u_in n
 have hu:=u_id h
 unfold plusU
 show (bif decide (Q11 a > 1000000000000) then ((1000000000000:Int),false) else bif decide (Q11 n > w64 (1000000000000 - Q11 a)) then ((1000000000000:Int),false) else (w64 (1000000000000 - w64 (w64 (1000000000000 - Q11 a) - Q11 n)),true)).1=_
 rw [hu,decide_eq_false (by omega:¬ a > 1000000000000)]
 simp only [cond_false]
 have w1:w64 (1000000000000 - a)=1000000000000 - a:=wr (by omega)
 rw [w1]
 cases h:decide (Q11 n > 1000000000000 - a) with
 | true =>
  have:=of_decide_eq_true h
  show (1000000000000:Int)=_
  omega
 | false =>
  have:=of_decide_eq_false h
  have w2:w64 (1000000000000 - a - Q11 n)=1000000000000 - a - Q11 n:=wr (by omega)
  have w3:w64 (1000000000000 - (1000000000000 - a - Q11 n))=1000000000000 - (1000000000000 - a - Q11 n):=wr (by omega)
  show w64 (1000000000000 - w64 (1000000000000 - a - Q11 n))=_
  rw [w2,w3]
  omega
theorem plus_g1:∀ (l:List Int) (a:Int) (i:Nat),0<=a∧a<=1000000000000->(QU5 l a i).1=l.foldl plusU a
 | [],_,_,_=>rfl
 | x :: r,a,i,h=>by
  have hx:=u_in x
  have w1:w64 (a+Q11 x)=a+Q11 x:=wr (by omega)
  have e:QZ6 (w64 (a+Q11 x)) 1000000000000=plusU a x:=by
   rw [w1]
   exact u_min (by omega)
  rw [QU5,e,List.foldl_cons]
  exact plus_g1 r _ (i+1) (plusU_in x h)
theorem QYe (of_:Usage->Int):∀ (l:List Usage) (a:Int) (i:Nat),0<=a∧a<=1000000000000->Qm3 of_ l a i=(l.map of_).foldl plusU a
 | [],_,_,_=>rfl
 | x :: r,a,i,h=>by
  rw [Qm3,sat_plus _ h,List.map_cons,List.foldl_cons]
  exact QYe of_ r _ (i+1) (plusU_in _ h)
theorem share_g1 (user:ByteArray):∀ (l:List Usage) (out:List Int) (i:Nat),(QE3 user l out i).1=out++(l.filter fun x=>ByteArray.toList x.user==ByteArray.toList user).map (·.share)
 | [],out,i=>by simp [QE3]
 | x :: r,out,i=>by
  rw [QE3]
  cases h:(ByteArray.toList x.user==ByteArray.toList user) with
  | true=>simp only [cond_true];rw [share_g1 user r _ (i+1),List.filter_cons,h];simp
  | false=>simp only [cond_false];rw [share_g1 user r _ (i+1),List.filter_cons,h];simp
theorem Qnc (user:ByteArray):∀ (l:List Usage) (a:Int),0<=a∧a<=1000000000000->(l.map fun y:Usage=>(bif (!(ByteArray.toList y.user==ByteArray.toList user)) then 0 else y.share)).foldl plusU a=((l.filter fun x=>ByteArray.toList x.user==ByteArray.toList user).map (·.share)).foldl plusU a
 | [],_,_=>rfl
 | x :: r,a,h=>by
  rw [List.map_cons,List.foldl_cons,List.filter_cons]
  cases hx:(ByteArray.toList x.user==ByteArray.toList user) with
  | true =>
   simp only [Bool.not_true,cond_false,if_true,List.map_cons,List.foldl_cons]
   exact Qnc user r _ (plusU_in _ h)
  | false =>
   have e:plusU a 0=a:=by
    have:Q11 0=0:=rfl
    unfold plusU
    omega
   simp only [Bool.not_false,cond_true,Bool.false_eq_true,if_false]
   rw [e]
   exact Qnc user r a h
theorem share_eq (l:List Usage) (hl:l.length<=4294967296) (user:ByteArray):Qi1 l user=QP4 l user:=by
 unfold Qi1 Qa3 QP4 QH2 Qaa
 rw [Qb9 l hl,QYe _ l 0 0 (by omega),share_g1]
 unfold ref01_Plus Qrb
 rw [List.nil_append,plus_g1 _ 0 0 (by omega),Qnc user l 0 (by omega)]
theorem index_g1 (v:Int):∀ (l:List Int) (i:Nat),0<=Qu2 v l i ↔ v ∈ l
 | [],i=>by simp [Qu2]
 | x :: r,i=>by
  rw [Qu2]
  cases h:(v==x) with
  | true =>
   have:v=x:=by simpa using h
   simp [this]
  | false =>
   have:v ≠ x:=by simpa using h
   simp [this,index_g1 v r (i+1)]
theorem contains_iff (l:List Int) (v:Int):QK0 l v=l.any (· == v):=by
 have h:=index_g1 v l 0
 unfold QK0 Qo5
 cases hc:l.any (· == v) with
 | true =>
  have:v ∈ l:=by simpa using hc
  exact decide_eq_true (h.2 this)
 | false =>
  have:v ∉ l:=by simp at hc;exact fun hm=>hc v hm rfl
  exact decide_eq_false fun g=>this (h.1 g)
theorem meant_g2 (x:Job):∀ (l:List Int) (b:Bool) (k:Nat),(Qb5 x l b k).1=(b||l.any (· == x.id))
 | [],b,k=>by simp [Qb5]
 | y :: r,b,k=>by rw [Qb5,meant_g2 x r,List.any_cons,Bool.or_assoc]
def rowOf (l:List Usage) (x:Job):Ranked:=⟨x.id,x.prio,Qi1 l x.user,x.id⟩
def insJ (l:List Usage) (x:Job):List Job->List Job
 | []=>[x]
 | y :: r=>bif Qt5 l y x then y :: insJ l x r else x :: y :: r
theorem ahead_row (l:List Usage) (hl:l.length<=4294967296) (x y:Job):aheadR (rowOf l x) (rowOf l y)=Qt5 l x y:=by
 show ah3 (x.prio,Qi1 l x.user,x.id) (y.prio,Qi1 l y.user,y.id)=_
 unfold Qt5 ah3
 rw [share_eq l hl,share_eq l hl]
 generalize QP4 l x.user=a
 generalize QP4 l y.user=b
 simp only
 rcases Int.lt_trichotomy x.prio y.prio with h|h|h
 ·rw [decide_eq_false (by omega:¬ y.prio<x.prio),decide_eq_false (by omega:¬ x.prio=y.prio),decide_eq_true (by omega:x.prio<y.prio)]
  rfl
 ·rw [decide_eq_false (by omega:¬ y.prio<x.prio),decide_eq_true h,decide_eq_false (by omega:¬ x.prio<y.prio)]
  rcases Int.lt_trichotomy a b with g|g|g
  ·rw [decide_eq_true g];rfl
  ·rw [decide_eq_false (by omega:¬ a<b),decide_eq_true g,decide_eq_false (by omega:¬ a > b)];rfl
  ·rw [decide_eq_false (by omega:¬ a<b),decide_eq_false (by omega:¬ a=b),decide_eq_true (by omega:a > b)];rfl
 ·rw [decide_eq_true (by omega:y.prio<x.prio)]
  rfl
theorem insR_row (l:List Usage) (hl:l.length<=4294967296) (x:Job):∀ o:List Job,insR (rowOf l x) (o.map (rowOf l))=(insJ l x o).map (rowOf l)
 | []=>rfl
 | y :: r=>by
  simp only [List.map_cons,insR,insJ,ahead_row l hl]
  cases Qt5 l y x with
  | true=>simp only [cond_true,List.map_cons,insR_row l hl x r]
  | false=>rfl
theorem ins_g3 (l:List Usage) (x:Job):∀ (a b:List Job) (m:Nat),b.length<m->(a++b).take (Qs4 l (a++b) x m a.length)++[x]++(a++b).drop (Qs4 l (a++b) x m a.length)=a++insJ l x b
 | _,_,0,h=>absurd h (by omega)
 | a,[],m+1,_=>by
  rw [Qs4]
  simp [insJ]
 | a,y :: r,m+1,h=>by
  rw [Qs4]
  have hg:(a++y :: r).getD a.length Job.zero=y:=by simp [List.getD_eq_getElem?_getD]
  rw [hg,show decide (((a.length:Nat):Int)<((a++y :: r).length:Int))=true from decide_eq_true (by simp;omega),Bool.true_and,insJ]
  cases Qt5 l y x with
  | true =>
   have:=ins_g3 l x (a++[y]) r m (by simp at h;omega)
   simp only [List.append_assoc,List.singleton_append,List.length_append,List.length_cons,List.length_nil] at this
   simp only [cond_true]
   simpa using this
  | false=>simp
theorem order_g1 (l:List Usage) (ids:List Int):∀ (r out:List Job) (i:Nat),out.length+r.length<=4294967296->(Qr4 l ids r out i).1=(r.filter fun x=>ids.any (· == x.id)).foldl (fun o x=>insJ l x o) out
 | [],_,_,_=>rfl
 | x :: r,out,i,h=>by
  rw [Qr4]
  simp only [meant_g2,Bool.false_or,List.filter_cons]
  simp only [List.length_cons] at h
  cases hm:ids.any (· == x.id) with
  | false =>
   simp only [Bool.not_false,cond_true,Bool.false_eq_true,if_false]
   exact order_g1 l ids r out (i+1) (by omega)
  | true =>
   have e:=ins_g3 l x [] out (Int.toNat ((out.length:Int) - (0:Int))+1) (by omega)
   simp only [List.nil_append,List.length_nil] at e
   simp only [Bool.not_true,cond_false,if_true,List.foldl_cons]
   rw [e]
   have hlen:(insJ l x out).length=out.length+1:=by
    rw [← e]
    simp
    omega
   exact order_g1 l ids r _ (i+1) (by omega)
theorem ba_rfl (a:ByteArray):(a==a)=true:=by
 show (a.data==a.data)=true
 exact beq_self_eq_true _
theorem ba_eq {a b:ByteArray} (h:(a==b)=true):a=b:=by
 have h':(a.data==b.data)=true:=h
 have:=eq_of_beq h'
 cases a
 cases b
 exact congrArg ByteArray.mk this
instance:ReflBEq ByteArray where
 rfl:=ba_rfl _
instance:LawfulBEq ByteArray where
 eq_of_beq:=ba_eq
theorem QI9 (l:List Usage) (ids:List Int):∀ (r:List Job) (o:List Ranked) (i:Nat) (c:List (ByteArray × Int)),(∀ u v,getM u c=some v->v=Qi1 l u)->(Qg1 l ids r o i c).1=o++(r.filter fun x=>ids.any (· == x.id)).map (rowOf l)
 | [],o,i,c,_=>by simp [Qg1]
 | x :: r,o,i,c,h=>by
  rw [Qg1,contains_iff,List.filter_cons]
  cases hm:ids.any (· == x.id) with
  | false =>
   simp only [Bool.not_false,cond_true,Bool.false_eq_true,if_false]
   exact QI9 l ids r o (i+1) c h
  | true =>
   simp only [Bool.not_true,cond_false,if_true,List.map_cons]
   cases hg:getM x.user c with
   | none =>
    have hs:getM x.user (setM x.user (Qi1 l x.user) c)=some (Qi1 l x.user):=by rw [Qy7,beq_self_eq_true];rfl
    simp only [Option.isSome_none,Bool.not_false,cond_true,hs,Option.getD_some]
    rw [QI9 l ids r _ (i+1) _ fun u v hv=>?_,List.append_assoc]
    ·rfl
    ·rw [Qy7] at hv
     cases hu:(u==x.user) with
     | true=>rw [hu] at hv;simp at hv;rw [eq_of_beq hu];exact hv.symm
     | false=>rw [hu] at hv;exact h u v hv
   | some v =>
    have hv:=h x.user v hg
    simp only [Option.isSome_some,Bool.not_true,cond_false,Option.getD_some]
    rw [QI9 l ids r _ (i+1) c h,hv,List.append_assoc]
    rfl
theorem what_g2 (R:List Ranked):∀ (r:List Ranked) (out:List Int) (i:Nat),(QS2 R).drop i=r->QQ1 R r out i=out++r.map (·.what)
 | [],out,i,_=>by simp [QQ1]
 | x :: r,out,i,h=>by
  obtain ⟨h1,h2⟩:=QR2 Ranked.zero h
  rw [QQ1,what_g2 R r _ (i+1) h2,h1]
  simp
theorem told_g4:∀ (l:List Job) (out:List Int) (i:Nat),(Qt4 l out i).1=out++l.map (·.id)
 | [],out,i=>by simp [Qt4]
 | x :: r,out,i=>by rw [Qt4,told_g4 r];simp
theorem fold_rows (l:List Usage) (hl:l.length<=4294967296):∀ (r o:List Job),(r.map (rowOf l)).foldl (fun o x=>insR x o) (o.map (rowOf l))=(r.foldl (fun o x=>insJ l x o) o).map (rowOf l)
 | [],_=>rfl
 | x :: r,o=>by
  simp only [List.map_cons,List.foldl_cons]
  rw [insR_row l hl,fold_rows l hl r]
def Qec (l:List Usage) (ids:List Int) (jobs:List Job):List Job:=(jobs.filter fun x=>ids.any (· == x.id)).foldl (fun o x=>insJ l x o) []
theorem Qy6 {jobs:List Job} (hj:jobs.length<=4294967296) (hn:∀ x ∈ jobs,U64 x.nodes) (l:List Usage) (hl:l.length<=4294967296) (ids:List Int):QB0 jobs l ids=QU1 jobs l ids∧(QT1 jobs=0->QU1 jobs l ids=(Qec l ids jobs).map (·.id)):=by
 have hd:QT1 jobs=0->QU1 jobs l ids=(Qec l ids jobs).map (·.id):=by
  intro h
  unfold QU1 Qba Qca
  rw [h,order_g1 l ids jobs [] 0 (by simp;omega),told_g4]
  rfl
 refine ⟨?_,hd⟩
 unfold QB0
 rw [Qod jobs hj hn]
 cases h:((QT1 jobs)!=0) with
 | true=>unfold QU1;rw [h];rfl
 | false =>
  rw [hd (by simpa using h)]
  simp only [cond_false]
  unfold Qz2 QG3
  rw [QI9 l ids jobs [] 0 [] (fun u v hv=>by cases hv),List.nil_append,what_g2 _ (QS2 _) [] 0 List.drop_zero,List.nil_append]
  have:=fold_rows l hl (jobs.filter fun x=>ids.any (· == x.id)) []
  rw [show QS2 ((jobs.filter fun x=>ids.any (· == x.id)).map (rowOf l))=(Qec l ids jobs).map (rowOf l) from this,List.map_map]
  rfl
theorem insJ_perm (l:List Usage) (x:Job):∀ o,(insJ l x o).Perm (x :: o)
 | []=>.refl _
 | y :: r=>by
  unfold insJ
  cases Qt5 l y x with
  | true=>exact ((insJ_perm l x r).cons y).trans (.swap x y r)
  | false=>exact .refl _
theorem Qz7 (l:List Usage) (ids:List Int) (jobs:List Job):(Qec l ids jobs).Perm (jobs.filter fun x=>ids.any (· == x.id)):=by
 have go:∀ (r o:List Job),(r.foldl (fun o x=>insJ l x o) o).Perm (o++r):=by
  intro r
  induction r with
  | nil=>intro o;simp
  | cons x r ih =>
   intro o
   refine (ih (insJ l x o)).trans ?_
   refine ((insJ_perm l x o).append_right r).trans ?_
   exact List.perm_middle.symm
 have:=go (jobs.filter fun x=>ids.any (· == x.id)) []
 rw [List.nil_append] at this
 exact this
end Go.Proofs.YtcbolcknapeneaaGreatDoor
namespace Go.Proofs.YtcbolcknapeneaaGreatDoor
set_option linter.unusedSimpArgs false
set_option linter.unusedVariables false
open Go.Fw
theorem QUd {fit:Int->Bool} {a:Int}:∀ (l:List Step),(QM6 fit a l).2=true->a<(QM6 fit a l).1∧fit (QM6 fit a l).1=true
 | [],h=>by cases h
 | x :: r,h=>by
  unfold QM6 at h ⊢
  cases hc:(decide (x.at_ > a)&&fit x.at_) with
  | true =>
   simp only [Bool.and_eq_true,decide_eq_true_eq] at hc
   exact hc
  | false =>
   rw [hc] at h
   exact QUd r h
theorem earliest_spec {p:List Step} (hp:Cn p) (from_ long n:Int) (h:(Qo0 p from_ long n).2=true) :
  Ql2 long n=true∧max from_ 0<=(Qo0 p from_ long n).1∧(Qo0 p from_ long n).1+long<=1000000∧Fit (pat p) long n (Qo0 p from_ long n).1:=by
 cases ha:Ql2 long n with
 | false=>rw [QPd p from_ ha] at h;cases h
 | true =>
  have hr:Qo0 p from_ long n=(bif Qy1 p (max from_ 0) long n then (max from_ 0,true) else QM6 (fun t=>Qy1 p t long n) (max from_ 0) p):=by
   unfold Qo0 QR3
   by_cases h:from_<0
   ·rw [decide_eq_true h,show max from_ 0=0 by omega,Qxa]
    rfl
   ·rw [decide_eq_false h,show max from_ 0=from_ by omega]
    simp only [cond_false]
    rw [Qxa]
  rw [hr] at h ⊢
  refine ⟨rfl,?_⟩
  cases hf:Qy1 p (max from_ 0) long n with
  | true =>
   have:=(Qd8 hp ha).1 hf
   exact ⟨Int.le_refl _,this.2.1,this.2.2⟩
  | false =>
   rw [hf] at h
   obtain ⟨g1,g2⟩:=QUd p h
   have:=(Qd8 hp ha).1 g2
   exact ⟨by show max from_ 0<=(QM6 _ _ p).1;omega,this.2.1,this.2.2⟩
def Found (p:List Step) (options:List Alt) (from_ latest b t:Int):Prop :=
 0<=b∧b<(options.length:Int)∧max from_ 0<=t∧t<=latest∧1<=(options.getD (Int.toNat b) Alt.zero).wall∧1<=(options.getD (Int.toNat b) Alt.zero).nodes∧(options.getD (Int.toNat b) Alt.zero).nodes<=1000000 ∧
  t+((options.getD (Int.toNat b) Alt.zero).wall+12)<=1000000∧Fit (pat p) ((options.getD (Int.toNat b) Alt.zero).wall+12) (options.getD (Int.toNat b) Alt.zero).nodes t
theorem Qgd {p:List Step} (hp:Cn p) (options:List Alt) (from_ latest:Int):∀ (l:List Alt) (choice start:Int) (found:Bool) (i:Nat),options.drop i=l->(found=true->Found p options from_ latest choice start) ->
  (Qe1 p from_ latest 12 options l choice start found i).2.2=true->Found p options from_ latest (Qe1 p from_ latest 12 options l choice start found i).1 (Qe1 p from_ latest 12 options l choice start found i).2.1
 | [],choice,start,found,i,_,hf,h=>hf h
 | x :: r,choice,start,found,i,hl,hf,h=>by
  obtain ⟨hx,hr⟩:=QR2 Alt.zero hl
  have hlen:=congrArg List.length hl
  simp only [List.length_drop,List.length_cons] at hlen
  have skip:=Qgd hp options from_ latest r choice start found (i+1) hr hf
  rw [Qe1,Qn8,show max (12:Int) 0=12 by decide] at h ⊢
  cases h1:((!(Ql2 x.wall x.nodes))||(decide ((12:Int) > (w64 (1000000 - x.wall))))) with
  | true=>rw [h1] at h;exact skip h
  | false =>
   rw [h1] at h
   simp only [cond_false] at h ⊢
   cases h2:((!((Qo0 p from_ (w64 (x.wall+12)) x.nodes).2&&(decide ((Qo0 p from_ (w64 (x.wall+12)) x.nodes).1<=latest))))||(found&&(decide ((w64 ((Qo0 p from_ (w64 (x.wall+12)) x.nodes).1+x.wall)) >= (w64 (start+(options.getD (Int.toNat choice) Alt.zero).wall)))))) with
   | true=>rw [h2] at h;exact skip h
   | false =>
    rw [h2] at h
    simp only [cond_false] at h ⊢
    refine Qgd hp options from_ latest r _ _ true (i+1) hr (fun _=>?_) h
    simp only [Bool.or_eq_false_iff,Bool.not_eq_false',Bool.and_eq_true,decide_eq_true_eq] at h1 h2
    have ha:=(Qg5 _ _).1 h1.1
    have hw:w64 (x.wall+12)=x.wall+12:=wr (by omega)
    rw [hw] at h2 ⊢
    obtain ⟨g1,g2,g3,g4⟩:=earliest_spec hp from_ (x.wall+12) x.nodes h2.1.1
    refine ⟨by omega,by omega,g2,h2.1.2,?_⟩
    rw [Int.toNat_natCast,hx]
    exact ⟨by omega,by omega,by omega,g3,g4⟩
theorem best_spec {p:List Step} (hp:Cn p) (options:List Alt) (from_ latest:Int) (h:(Qq1 p options from_ latest 12).2.2=true):Found p options from_ latest (Qq1 p options from_ latest 12).1 (Qq1 p options from_ latest 12).2.1:=by
 rw [← Qyd] at h ⊢
 have h1:Qk2 p options from_ latest 12=Qe1 p from_ latest 12 (options.take 48) (options.take 48) 0 0 false 0:=by
  unfold Qk2
  by_cases h:(options.length:Int) > 48
  ·rw [decide_eq_true h];rfl
  ·rw [decide_eq_false h,List.take_of_length_le (by omega)];rfl
 rw [h1] at h ⊢
 have:=Qgd hp (options.take 48) from_ latest (options.take 48) 0 0 false 0 rfl (fun h=>by cases h) h
 generalize Qe1 p from_ latest 12 (options.take 48) (options.take 48) 0 0 false 0=r at this ⊢
 obtain ⟨a,b,c⟩:=this
 simp only [List.length_take] at b
 have e:(options.take 48).getD (Int.toNat r.1) Alt.zero=options.getD (Int.toNat r.1) Alt.zero:=by
  simp only [List.getD_eq_getElem?_getD,List.getElem?_take]
  rw [if_pos (by omega)]
 rw [e] at c
 exact ⟨a,by omega,c⟩
theorem QCe {j:Job} (hc:Qi0 j=0) (h1:j.state=1):(j.promise = -1∨(0<=j.promise∧j.promise<=1000000∧j.held=false))∧j.start=0∧j.limit=0∧j.nodes=0:=by
 have hs:=QS3 (j:=j) (by rw [hc];rfl)
 rw [Q51,show (j.state==1)=true by simpa using h1] at hs
 simp only [cond_true] at hs
 cases hq:(((j.start != 0)||(j.limit != 0))||(j.nodes != 0)) with
 | true=>rw [hq] at hs;cases hs
 | false =>
  rw [hq] at hs
  simp only [Bool.or_eq_false_iff,bne_eq_false_iff_eq] at hq
  refine ⟨?_,hq.1.1,hq.1.2,hq.2⟩
  cases hp:(j.promise==(-1)) with
  | true=>exact .inl (by simpa using hp)
  | false =>
   rw [hp] at hs
   simp [QN0] at hs
   exact .inr ⟨by omega,by omega,hs.2⟩
theorem claim_of {j:Job} (hu:U64 j.nodes) (hc:Qi0 j=0) (h1:j.state=1) (hp:j.promise ≠ -1) :
  Q20 j=(j.promise,((Q50 j.shape).getD (Int.toNat j.choice) Alt.zero).wall+12,((Q50 j.shape).getD (Int.toNat j.choice) Alt.zero).nodes,true)∧Qa0 j=Q20 j:=by
 have hb:=QTc (QS3 (j:=j) (by rw [hc];rfl)) (by simp [h1,hp])
 have hm:(Q50 j.shape).getD (Int.toNat j.choice) Alt.zero ∈ Q50 j.shape:=Qx7 (by omega)
 obtain ⟨o1,o2,o3,o4⟩:=QH9 j.shape _ hm
 have hw:w64 (((Q50 j.shape).getD (Int.toNat j.choice) Alt.zero).wall+12)=((Q50 j.shape).getD (Int.toNat j.choice) Alt.zero).wall+12:=wr (by omega)
 have e:Qa0 j=(j.promise,((Q50 j.shape).getD (Int.toNat j.choice) Alt.zero).wall+12,((Q50 j.shape).getD (Int.toNat j.choice) Alt.zero).nodes,true):=by
  unfold Qa0
  rw [show ((j.state != 1)||(j.promise==(-1)))=false by simp [h1,hp],hw]
  rfl
 have e2:Q20 j=Qa0 j:=by
  rw [claim_eq hu]
  unfold QG8
  rw [hc]
  rfl
 exact ⟨e2.trans e,e2.symm⟩
theorem Qka:∀ (l:List Job) (last:Int) (i:Nat),i<=40->(QD3 l last i=0 ↔ i+l.length<=40∧(∀ x ∈ l,Qi0 x=0)∧(last :: l.map (·.id)).Pairwise (· < ·))
 | [],last,i,hi=>by simp [QD3,hi]
 | x :: r,last,i,hi=>by
  rw [QD3]
  cases hc:((((i:Int)==40)||((Qi0 x)!=0))||(decide (x.id<=last))) with
  | true =>
   simp only [cond_true]
   refine ⟨fun h=>(by cases h),fun ⟨h1,h2,h3⟩=>?_⟩
   simp only [List.length_cons] at h1
   have g1:=h2 x (List.mem_cons_self ..)
   have g2:last<x.id:=(List.pairwise_cons.1 h3).1 _ (List.mem_cons_self ..)
   simp [g1] at hc
   omega
  | false =>
   simp at hc
   obtain ⟨⟨h1,h2⟩,h3⟩:=hc
   simp only [cond_false]
   rw [Qka r x.id (i+1) (by omega)]
   simp only [List.length_cons,List.map_cons]
   constructor
   ·rintro ⟨g1,g2,g3⟩
    refine ⟨by omega,fun y hy=>?_,List.pairwise_cons.2 ⟨fun y hy=>?_,g3⟩⟩
    ·rcases List.mem_cons.1 hy with rfl|hy
     ·exact h2
     ·exact g2 y hy
    ·rcases List.mem_cons.1 hy with rfl|hy
     ·exact h3
     ·have:=(List.pairwise_cons.1 g3).1 y hy;omega
   ·rintro ⟨g1,g2,g3⟩
    exact ⟨by omega,fun y hy=>g2 y (List.mem_cons_of_mem _ hy),(List.pairwise_cons.1 g3).2⟩
theorem ids_set {l:List Job} {k:Nat} {j p:Job} (hk:l[k]? = some j) (hid:p.id=j.id):(l.set k p).map (·.id)=l.map (·.id):=by
 apply List.ext_getElem?
 intro i
 rw [List.getElem?_map,List.getElem?_map,QN8 hk]
 by_cases h:i=k
 ·subst h
  simp [hk,hid]
 ·rw [if_neg h]
theorem check15_set {l:List Job} {k:Nat} {j p:Job} (hk:l[k]? = some j) (hid:p.id=j.id) (hc:QT1 l=0) (hp:Qi0 p=0):QT1 (l.set k p)=0:=by
 obtain ⟨h1,h2,h3⟩:=(Qka l 0 0 (by omega)).1 hc
 refine (Qka _ 0 0 (by omega)).2 ⟨by rw [List.length_set];exact h1,fun x hx=>?_,by rw [ids_set hk hid];exact h3⟩
 rcases List.mem_or_eq_of_mem_set hx with h|rfl
 ·exact h2 x h
 ·exact hp
def Well (c:State):Prop:=c.sz∧(∀ x ∈ c.jobs,U64 x.nodes)∧Qu5 c=0
theorem Well.room {c:State} (h:Well c):Qz1 c=0:=by rw [room_eq c h.1 h.2.1];exact h.2.2
theorem Well.parts {c:State} (h:Well c):(0<=c.now∧c.now<=1000000)∧(∀ x ∈ c.jobs,Qi0 x=0)∧c.jobs.Pairwise (fun a b=>a.id<b.id)∧QT1 c.jobs=0:=by
 obtain ⟨h1,_⟩:=Q27 h.room
 obtain ⟨_,_,f3,_,f5,_⟩:=room_facts h.1 h.2.1 h.room
 exact ⟨h1,f3,f5,by simpa using QV8 (s:=c) (by rw [h.2.2];rfl)⟩
theorem Well.set {c:State} (h:Well c) {k:Nat} {j p:Job} (hk:c.jobs[k]? = some j) (hid:p.id=j.id) (hp:Qi0 p=0) (hz:p.sz) (hu:U64 p.nodes):Well { c with jobs:=c.jobs.set k p }:=by
 obtain ⟨⟨z1,z2,z3,z4⟩,u,hc⟩:=h
 refine ⟨⟨z1,by show (c.jobs.set k p).length<=_;rw [List.length_set];exact z2,fun y hy=>?_,z4⟩,fun y hy=>?_,?_⟩
 ·exact (List.mem_or_eq_of_mem_set hy).elim (z3 y) fun e=>e ▸ hz
 ·exact (List.mem_or_eq_of_mem_set hy).elim (u y) fun e=>e ▸ hu
 ·have h15:=QV8 (s:=c) (by rw [hc];rfl)
  have h15':=check15_set hk hid (by simpa using h15) hp
  unfold Qu5 at hc ⊢
  simp only [h15']
  revert hc
  rw [show ((QT1 c.jobs)!=0)=false from h15]
  exact id
end Go.Proofs.YtcbolcknapeneaaGreatDoor
namespace Go.Proofs.YtcbolcknapeneaaGreatDoor
set_option linter.unusedSimpArgs false
set_option linter.unusedVariables false
open Go.Fw
theorem Well.rp {c:State} (h:Well c) (ex:List Int):Qh0 c ex=Q91 c ex∧Rp (Qh0 c ex) (Qd3 c ex) 200:=room_rp h.1 h.2.1 h.room ex
theorem clAt_of {j:Job} (hu:U64 j.nodes) (hc:Qi0 j=0) (h1:j.state=1) (hp:j.promise ≠ -1) (t:Int) :
  clAt t j=if (Q20 j).1<=t∧t<(Q20 j).1+(Q20 j).2.1 then (Q20 j).2.2.1 else 0:=by
 obtain ⟨e1,e2⟩:=claim_of hu hc h1 hp
 unfold clAt
 rw [e2,e1]
 simp
theorem Qre {c:State} (h:Well c) (ex:List Int):Cn (Q91 c ex):=by
 rw [← (h.rp ex).1]
 exact (h.rp ex).2.cn (by omega) (left_bd h.1 h.2.1 h.room ex)
theorem own_fit {c:State} (h:Well c) (ex:List Int) {long n t:Int} (h0:0<=t) (hl:t+long<=1000000):Fit (pat (Q91 c ex)) long n t ↔ Fit (Qd3 c ex) long n t:=by
 have hr:=(h.rp ex).2
 rw [(h.rp ex).1] at hr
 exact ⟨fun g u a b=>by rw [← hr.2.2 u (by omega) (by omega)];exact g u a b,fun g u a b=>by rw [hr.2.2 u (by omega) (by omega)];exact g u a b⟩
theorem order_ids {s:State} (hs:Well s):(QU1 s.jobs s.ledger (Qu0 s.jobs)).Nodup ∧ ∀ x ∈ QU1 s.jobs s.ledger (Qu0 s.jobs),∃ (k:Nat) (j:Job),s.jobs[k]? = some j∧s.jobs[k]? = some j∧j.id=x∧j.state=1:=by
 obtain ⟨_,hch,hpw,h15⟩:=hs.parts
 have ho:=(Qy6 hs.1.2.1 hs.2.1 s.ledger hs.1.2.2.2.2.2.1 (Qu0 s.jobs)).2 h15
 have hperm:=Qz7 s.ledger (Qu0 s.jobs) s.jobs
 rw [ho]
 constructor
 ·have hn:(s.jobs.map (·.id)).Nodup:=by
   refine (List.pairwise_map.2 hpw).imp ?_
   intro a b h e
   rw [e] at h
   exact Int.lt_irrefl _ h
  have hf:((s.jobs.filter fun x=>(Qu0 s.jobs).any (· == x.id)).map (·.id)).Nodup:=hn.sublist ((List.filter_sublist).map _)
  exact (hperm.map (·.id)).symm.nodup hf
 ·intro x hx
  obtain ⟨j,hj,rfl⟩:=List.mem_map.1 hx
  have hjf:=hperm.mem_iff.1 hj
  obtain ⟨hjm,hje⟩:=List.mem_filter.1 hjf
  obtain ⟨k,hk⟩:=List.getElem?_of_mem hjm
  refine ⟨k,j,hk,hk,rfl,?_⟩
  have hje':j.id ∈ Qu0 s.jobs:=by simpa using hje
  have hel:j.id ∈ (QU0 s.jobs s.jobs [] 0).1:=by
   unfold Qu0 at hje'
   rw [h15] at hje'
   exact hje'
  rcases Qv6 s.jobs s.jobs [] 0 j.id hel with h|⟨y,hy,e,hy1,_⟩
  ·cases h
  ·have:Qo3 s.jobs j.id=y:=by rw [← e];exact Qf4 hpw hy
   rw [Qf4 hpw hjm] at this
   rw [this]
   exact hy1
theorem Qze {s:State} (hz:s.sz) (hu:∀ x ∈ s.jobs,U64 x.nodes) (h:Q81 s=0):Well s∧Qe2 s.ledger=0:=by
 unfold Q81 at h
 cases h1:((Qz1 s)!=0) with
 | true=>rw [h1] at h;cases h
 | false =>
  cases h2:((Qe2 s.ledger)!=0) with
  | true=>rw [h1,h2] at h;cases h
  | false =>
   have e1:Qz1 s=0:=by simpa using h1
   exact ⟨⟨hz,hu,by rw [← room_eq s hz hu];exact e1⟩,by simpa using h2⟩
end Go.Proofs.YtcbolcknapeneaaGreatDoor
namespace Go.Proofs.YtcbolcknapeneaaGreatDoor
set_option linter.unusedSimpArgs false
set_option linter.unusedVariables false
open Go.Fw
end Go.Proofs.YtcbolcknapeneaaGreatDoor
namespace Go.Proofs.YtcbolcknapeneaaGreatDoor
set_option linter.unusedSimpArgs false
set_option linter.unusedVariables false
open Go.Fw
theorem any_Job (l:List Job) (f:Job->Bool):Q92 l f=l.any f:=QW6 f _ (fun _=>rfl) (fun _ _ _=>rfl) l 0
def Keeps (c:State):Prop:=∀ y ∈ c.jobs,y.state=1->y.promise ≠ -1->(Q20 y).1+(Q20 y).2.1<=1000000 ∧ ∀ u,max (Q20 y).1 c.now<=u->u<(Q20 y).1+(Q20 y).2.1->0<=Qd3 c [] u
theorem least_keeps {c:State} (h:Well c) {a b:Int} (h0:0<=a) (hb:b<=1000000):(QA0 (Qh0 c []) a b<0) ↔ ¬ ∀ u,a<=u->u<b->0<=Qd3 c [] u:=by
 by_cases hab:a<b
 ·have hr:=(h.rp []).2
  have hcn:=Qre h []
  rw [← (h.rp []).1] at hcn
  have hi:=Qgc hcn 0 h0 (by omega) hab
  have e:(∀ u,a<=u->u<b->0<=pat (Qh0 c []) u) ↔ (∀ u,a<=u->u<b->0<=Qd3 c [] u) :=
   ⟨fun g u x y=>by rw [← hr.2.2 u (by omega) (by omega)];exact g u x y,fun g u x y=>by rw [hr.2.2 u (by omega) (by omega)];exact g u x y⟩
  rw [← e,← hi]
  omega
 ·have:QA0 (Qh0 c []) a b=0:=by
   unfold QA0
   rw [decide_eq_true (show b<=a by omega),Bool.or_true]
   rfl
  rw [this]
  exact ⟨fun g=>absurd g (by decide),fun g=>absurd (fun u x y=>absurd x (by omega)) g⟩
theorem claim_no {j:Job} (h:¬ (j.state=1∧j.promise ≠ -1)):(Q20 j).2.2.2=false:=by
 unfold Q20
 have:((((Qv1 j)!=0)||(j.state != 1))||(decide (j.promise<0)))=true:=by
  by_cases h1:j.state=1
  ·have h2:j.promise = -1:=Classical.byContradiction fun g=>h ⟨h1,g⟩
   rw [h2]
   simp
  ·rw [bne_iff_ne.2 h1]
   simp
 rw [this]
 rfl
theorem QUe {c:State} (h:Well c) (hl:Qe2 c.ledger=0):QP3 c=true ↔ Keeps c:=by
 have hpc:Q81 c=0:=by unfold Q81;rw [h.room,hl];rfl
 obtain ⟨hnow,hch,hpw,_⟩:=h.parts
 unfold QP3
 rw [hpc,any_Job]
 simp only [bne_self_eq_false,cond_false,Bool.not_eq_true',List.any_eq_false]
 have one:∀ y ∈ c.jobs,(¬ ((Q20 y).2.2.2&&((decide ((w64 ((Q20 y).1+(Q20 y).2.1)) > 1000000))||(decide ((QA0 (Qh0 c []) (max (Q20 y).1 c.now) (w64 ((Q20 y).1+(Q20 y).2.1)))<0))))=true) ↔
   (y.state=1->y.promise ≠ -1->(Q20 y).1+(Q20 y).2.1<=1000000 ∧ ∀ u,max (Q20 y).1 c.now<=u->u<(Q20 y).1+(Q20 y).2.1->0<=Qd3 c [] u):=by
  intro y hy
  by_cases hc:y.state=1∧y.promise ≠ -1
  ·obtain ⟨e1,e2⟩:=claim_of (h.2.1 y hy) (hch y hy) hc.1 hc.2
   obtain ⟨c1,c2,c3⟩:=QRb (hch y hy)
   rw [e2] at c1 c2 c3
   have hw:w64 ((Q20 y).1+(Q20 y).2.1)=(Q20 y).1+(Q20 y).2.1:=wr (by omega)
   have e3:(Q20 y).2.2.2=true:=by rw [e1]
   rw [hw,e3,Bool.true_and]
   by_cases g:(Q20 y).1+(Q20 y).2.1<=1000000
   ·have lk:=least_keeps h (a:=max (Q20 y).1 c.now) (by omega) g
    rw [decide_eq_false (show ¬ (Q20 y).1+(Q20 y).2.1 > 1000000 by omega),Bool.false_or,decide_eq_true_iff,lk,Classical.not_not]
    exact ⟨fun k _ _=>⟨g,k⟩,fun k=>(k hc.1 hc.2).2⟩
   ·rw [decide_eq_true (show (Q20 y).1+(Q20 y).2.1 > 1000000 by omega),Bool.true_or]
    exact ⟨fun k=>absurd rfl k,fun k=>absurd (k hc.1 hc.2).1 g⟩
  ·rw [claim_no hc,Bool.false_and]
   exact ⟨fun _ a b=>absurd ⟨a,b⟩ hc,fun _ k=>by cases k⟩
 exact ⟨fun k y hy=>(one y hy).1 (k y hy),fun k y hy=>(one y hy).2 (k y hy)⟩
end Go.Proofs.YtcbolcknapeneaaGreatDoor
namespace Go.Proofs.YtcbolcknapeneaaGreatDoor
set_option linter.unusedSimpArgs false
set_option linter.unusedVariables false
open Go.Fw Go.RowKit
set_option maxRecDepth 20000
set_option maxHeartbeats 4000000
attribute [local irreducible] ACalls AMoves
def Qb1 (s:State):List Job:=((QB0 s.jobs s.ledger (Q60 s.jobs)).map fun id=>(Qh1 s.jobs id).1).filter fun j=>j.promise==(-1)
def openN (s:State) (i:Nat):Nat:=((((QB0 s.jobs s.ledger (Q60 s.jobs)).take i).map fun id=>(Qh1 s.jobs id).1).filter fun j=>j.promise==(-1)).length
theorem openN_succ (s:State) (i:Nat) (h:i<(QB0 s.jobs s.ledger (Q60 s.jobs)).length) :
  openN s (i+1)=openN s i+(bif ((Qh1 s.jobs ((QB0 s.jobs s.ledger (Q60 s.jobs)).getD i 0)).1.promise==(-1)) then 1 else 0) ∧
  (((Qh1 s.jobs ((QB0 s.jobs s.ledger (Q60 s.jobs)).getD i 0)).1.promise==(-1))=true->((Qb1 s).map Job.a)[openN s i]? = some (Job.a (Qh1 s.jobs ((QB0 s.jobs s.ledger (Q60 s.jobs)).getD i 0)).1)):=by
 unfold openN Qb1
 generalize QB0 s.jobs s.ledger (Q60 s.jobs)=l at h ⊢
 have hg:l.getD i 0=l[i]:=by simp [List.getD_eq_getElem?_getD,h]
 rw [hg,List.take_add_one,List.getElem?_eq_getElem h]
 have e:l=l.take i++l[i] :: l.drop (i+1):=by rw [List.getElem_cons_drop,List.take_append_drop]
 constructor
 ·rw [List.map_append,List.filter_append,List.length_append]
  congr 1
  simp only [Option.toList_some,List.map_cons,List.map_nil,List.filter_cons,List.filter_nil]
  cases hp:((Qh1 s.jobs l[i]).1.promise==(-1)) <;> rfl
 ·intro hp
  have:((l.map fun id=>(Qh1 s.jobs id).1).filter fun j=>j.promise==(-1))=(((l.take i).map fun id=>(Qh1 s.jobs id).1).filter fun j=>j.promise==(-1))++(Qh1 s.jobs l[i]).1 :: (((l.drop (i+1)).map fun id=>(Qh1 s.jobs id).1).filter fun j=>j.promise==(-1)):=by
   conv=>lhs;rw [e]
   rw [List.map_append,List.filter_append,List.map_cons,List.filter_cons,hp,if_pos rfl]
  rw [this,List.map_append,List.getElem?_append_right (by simp)]
  simp
theorem openN_all (s:State):openN s (QB0 s.jobs s.ledger (Q60 s.jobs)).length=((Qb1 s).map Job.a).length:=by
 unfold openN Qb1
 rw [List.take_length,List.length_map]
theorem weaker_take {nt n0:Nat} {s s':List (Nat × AVal)} {o:Objs} (n:Nat) (hn0:n0<=n) (hn:n<=o.length) (hl:∀ i p,o[i]? = some p->i<n->QIa n p.2) (hs:SubS n s s'):Weaker nt n0 ⟨s,o⟩ ⟨s',o.take n⟩:=by
 intro K0 K a w h0 hle hsat
 refine ⟨K.cut n,⟨hle.M,hle.ρ,hle.C,by show K0.n<=n;omega,hle.vs,hle.w0,hle.B,hle.M0⟩,hsat.mem.cut hn hl,fun t=>?_,hsat.size,hsat.defers⟩
 show Rep (K.cut n) (QO0 s' t) _
 rcases hs.get t with h|⟨h,hlow⟩
 ·rw [h];exact .any _
 ·rw [h];exact Rep.low (K:=K) (L:=K.cut n) (n:=n) (fun _ _ _ h=>h) (Nat.le_refl _) (fun _ _ _=>rfl) (fun _ _ _=>rfl) (fun _ _=>rfl) (hsat.slot t) hlow
def Q69 (s:State) (x:List Step × List Job × List Int):Objs :=
 [(0,.row 85 1 [[stepL x.1]]),(0,.row 23 1 [[.own 6 0 20 0 x.2.1.length]]),(0,.row 44 1 [[.own 7 0 1 0 x.2.2.length]]),
  (0,.row 102 1 [[.fn (.func 62) [] [.ptr 0 0 1 0 0,.ptr 1 0 1 0 0,.ptr 2 0 1 0 0]]]),
  (0,.row 28 8 [[I s.now,nodeL s.nodes,jobL s.jobs,Qt2 s.resizes,bookL s.books,Qo2 s.ledger,I s.nextJob,I s.nextBook]]),
  (0,.row 28 8 [[I s.now,nodeL s.nodes,jobL s.jobs,Qt2 s.resizes,bookL s.books,Qo2 s.ledger,I s.nextJob,I s.nextBook]]),
  (0,.row 35 20 (x.2.1.map Job.cells)),(0,.row 3 1 (x.2.2.map (fun q_=>[I q_])))]
theorem freshO_low (s:State) (x:List Step × List Job × List Int):∀ p ∈ Q69 s x,QIa 8 p.2:=by
 intro p hp
 simp only [Q69,List.mem_cons,List.not_mem_nil,or_false] at hp
 rcases hp with rfl|rfl|rfl|rfl|rfl|rfl|rfl|rfl
 ·intro e he;rw [List.mem_singleton.1 he];exact .cons lw .nil
 ·intro e he;rw [List.mem_singleton.1 he];exact .cons (.own _ _ _ _ _ (by decide)) .nil
 ·intro e he;rw [List.mem_singleton.1 he];exact .cons (.own _ _ _ _ _ (by decide)) .nil
 ·intro e he;rw [List.mem_singleton.1 he];exact .cons (.fn _ _ _ (by simp) (by simp only [List.forall_mem_cons,List.not_mem_nil,false_implies,implies_true,and_true];exact ⟨.ptr _ _ _ _ _ (by decide),.ptr _ _ _ _ _ (by decide),.ptr _ _ _ _ _ (by decide)⟩)) .nil
 ·intro e he;rw [List.mem_singleton.1 he];exact State.lo
 ·intro e he;rw [List.mem_singleton.1 he];exact State.lo
 ·exact Qg7 fun _=>Job.lowc _ _
 ·exact lm
theorem open1_c (s:State) (hs0:s.sz) (st:Nat->List Step × List Job × List Int):IterC Tryz.prog 167 [.ptr 5 0 8 0 0] 6 ((Qb1 s).map Job.a) (fun k=>Q69 s (st k)):=by
 refine IterC.of_cwpY (kp 7 [14,15,16,17,35]) (fun id=>Nat.beq id 4) Tryz.func167 rfl rfl (fun k=>by simp [Q69]) (fun k=>freshO_low s (st k)) (fun k x hx=>by obtain ⟨j,_,rfl⟩:=List.mem_map.1 hx;exact Job.low _ _) ?_
 intro l
 have hs:=hs0
 obtain ⟨z1,z2,z3,z4,z5,z6,z7⟩:=hs0
 have hel:=Qy0 s.jobs
 have hsl:=Qv9 s.jobs s.ledger (Q60 s.jobs)
 conv=>whnf
 refine dchk (by kernel_rfl) ?_
 (first|apply u2|apply u3|apply u4|apply us)
 exact Q77 s.jobs szA _
 (first|apply u2|apply u3|apply u4|apply us)
 exact QCb s.jobs s.ledger (Q60 s.jobs) szA szA (by omega) _
 (repeat (first|refine ai rfl ?_|refine ai (fun _=>rfl) ?_|refine ai (fun _=>Q77 s.jobs szA _) ?_|refine ai (fun _=>QCb s.jobs s.ledger (Q60 s.jobs) szA szA (by omega) _) ?_))
 refine Qm0 (fun i:Nat=>i<=(QB0 s.jobs s.ledger (Q60 s.jobs)).length) (fun i=>(QB0 s.jobs s.ledger (Q60 s.jobs)).length - i) (fun i=>[(0,.lit (.func (.yield l) #[] #[])),(1,.ptr 5 0 8 0 0),(14,ints (QB0 s.jobs s.ledger (Q60 s.jobs))),(15,I ((QB0 s.jobs s.ledger (Q60 s.jobs)).length:Int)),(16,I (i:Int))]) (fun i=>Q69 s (st (openN s i))) 0 (Q3f ?_) (Nat.zero_le _) ?_
 ·repeat (first|exact .nil|refine .cons _ _ _ rfl ?_|(refine .cons _ _ _ (I_eq ?_) ?_;rotate_left))
 rintro i hi
 conv=>whnf
 refine ai (fun h1=>?_) (fun h2=>?_)
 ·have hlt:i<(QB0 s.jobs s.ledger (Q60 s.jobs)).length:=by have:=of_decide_eq_true h1;omega
  obtain ⟨e1,e2⟩:=openN_succ s i hlt
  refine ai gkA ?_
  refine us (table_Find_c s.jobs ((QB0 s.jobs s.ledger (Q60 s.jobs)).getD i 0) szA _) ?_
  conv=>whnf
  refine ⟨rfl,?_⟩
  conv=>whnf
  refine ⟨rfl,fun t=>!(Nat.beq t 5||Nat.beq t 27),bif ((Qh1 s.jobs ((QB0 s.jobs s.ledger (Q60 s.jobs)).getD i 0)).1.promise==(-1)) then Q69 s (st (openN s i+1)) else Q69 s (st (openN s i))++[(0,.row 35 20 [Job.cells (Qh1 s.jobs ((QB0 s.jobs s.ledger (Q60 s.jobs)).getD i 0)).1])],fun h=>⟨openN s i,[(0,.row 35 20 [Job.cells (Qh1 s.jobs ((QB0 s.jobs s.ledger (Q60 s.jobs)).getD i 0)).1])],e2 h,rfl,ct h rfl⟩,fun h=>cf h rfl,?_,?_⟩
  ·refine lowR_of ?_ ?_
   ·repeat (first|exact fun _ h=>absurd h List.not_mem_nil|refine List.forall_mem_cons.2 ⟨by first|exact .lit _|exact .any|exact .ptr _ _ _ _ _ (by decide)|exact (show Low _ (ints _) from lw),?_⟩)
   ·repeat (first|exact fun _ h=>absurd h List.not_mem_nil|refine List.forall_mem_cons.2 ⟨by first|exact .lit _|exact .any|exact Job.low _ _,?_⟩)
  conv=>whnf
  refine ai (fun h3=>absurd h3 (by simp)) (fun _=>?_)
  conv=>whnf
  refine Qq0 (i+1) ?_ (by omega) (by omega)
  rw [e1]
  cases hp:((Qh1 s.jobs ((QB0 s.jobs s.ledger (Q60 s.jobs)).getD i 0)).1.promise==(-1)) with
  | true =>
   simp only [cond_true]
   refine Q3f ?_
   repeat (first|exact .nil|refine .cons _ _ _ rfl ?_|(refine .cons _ _ _ (I_eq ?_) ?_;rotate_left))
   all_goals exact wr (by omega)
  | false =>
   simp only [cond_false]
   refine weaker_take (n0:=6) 8 (by decide) (by simp [Q69]) (fun k p hp hk=>freshO_low s (st (openN s i)) p (by rw [List.getElem?_append_left (by simpa [Q69] using hk)] at hp;exact List.mem_of_getElem? hp)) ?_
   repeat (first|exact .nil|refine .cons _ _ _ rfl (by first|exact .lit _|exact .ptr _ _ _ _ _ (by decide)|exact lw) ?_|refine .cons _ _ _ (I_eq (wr (by omega))) (.lit _) ?_)
 ·have hil:(QB0 s.jobs s.ledger (Q60 s.jobs)).length=i:=by have:=of_decide_eq_false h2;omega
  conv=>whnf
  refine ⟨_,_,Q0f,?_⟩
  rw [← openN_all,hil]
end Go.Proofs.YtcbolcknapeneaaGreatDoor
namespace Go.Proofs.YtcbolcknapeneaaGreatDoor
set_option linter.unusedSimpArgs false
set_option linter.unusedVariables false
open Go.Fw Go.RowKit
set_option maxRecDepth 20000
set_option maxHeartbeats 4000000
attribute [local irreducible] ACalls AMoves
theorem insR_mem (x:Ranked):∀ (o:List Ranked) (y:Ranked),y ∈ insR x o->y=x∨y ∈ o
 | [],y,h=>.inl (by simpa [insR] using h)
 | z :: r,y,h=>by
  rw [insR] at h
  cases ha:aheadR z x with
  | false =>
   rw [ha] at h
   exact List.mem_cons.1 h
  | true =>
   rw [ha] at h
   rcases List.mem_cons.1 h with rfl|h
   ·exact .inr (List.mem_cons_self ..)
   ·exact (insR_mem x r y h).imp id (List.mem_cons_of_mem _)
theorem rank_mem:∀ (l o:List Ranked) (y:Ranked),y ∈ l.foldl (fun o x=>insR x o) o->y ∈ l∨y ∈ o
 | [],_,_,h=>.inr h
 | x :: r,o,y,h=>by
  rw [List.foldl_cons] at h
  rcases rank_mem r _ y h with h|h
  ·exact .inl (List.mem_cons_of_mem _ h)
  ·rcases insR_mem x o y h with rfl|h
   ·exact .inl (List.mem_cons_self ..)
   ·exact .inr h
theorem Qne (l:List Usage) (ids:List Int):∀ (js:List Job) (r_:List Ranked) (i:Nat) (c:List (ByteArray × Int)),∀ y ∈ (Qg1 l ids js r_ i c).1,y ∈ r_ ∨ ∃ x ∈ js,y.what=x.id
 | [],_,_,_,y,h=>.inl h
 | x :: r,r_,i,c,y,h=>by
  rw [Qg1] at h
  have k:=fun r_' c' h=>Qne l ids r r_' (i+1) c' y h
  cases h1:(!(QK0 ids x.id)) with
  | true =>
   rw [h1] at h
   exact (k _ _ h).imp id fun ⟨z,hz,e⟩=>⟨z,List.mem_cons_of_mem _ hz,e⟩
  | false =>
   rw [h1] at h
   simp only [cond_false] at h
   have hb:y ∈ r_ ∨ ∃ z ∈ x :: r,y.what=z.id:=by
    cases h2:(!(getM x.user c).isSome) with
    | true =>
     rw [h2] at h
     rcases k _ _ h with h|⟨z,hz,e⟩
     ·rcases List.mem_append.1 h with h|h
      ·exact .inl h
      ·exact .inr ⟨x,List.mem_cons_self ..,by rw [List.mem_singleton.1 h]⟩
     ·exact .inr ⟨z,List.mem_cons_of_mem _ hz,e⟩
    | false =>
     rw [h2] at h
     rcases k _ _ h with h|⟨z,hz,e⟩
     ·rcases List.mem_append.1 h with h|h
      ·exact .inl h
      ·exact .inr ⟨x,List.mem_cons_self ..,by rw [List.mem_singleton.1 h]⟩
     ·exact .inr ⟨z,List.mem_cons_of_mem _ hz,e⟩
   exact hb
theorem Qoe (R:List Ranked):∀ (q:List Ranked) (out:List Int) (i:Nat),i+q.length=(QS2 R).length -> ∀ y ∈ QQ1 R q out i,y ∈ out ∨ ∃ z ∈ QS2 R,y=z.what
 | [],_,_,_,y,h=>.inl h
 | x :: r,out,i,hl,y,h=>by
  rw [QQ1] at h
  simp only [List.length_cons] at hl
  rcases Qoe R r _ (i+1) (by omega) y h with h|h
  ·rcases List.mem_append.1 h with h|h
   ·exact .inl h
   ·refine .inr ⟨_,?_,List.mem_singleton.1 h⟩
    rw [List.getD_eq_getElem?_getD,List.getElem?_eq_getElem (by omega)]
    exact List.getElem_mem _
  ·exact .inr h
theorem order_in {jobs:List Job} {l:List Usage} {ids:List Int} {x:Int} (h:x ∈ QB0 jobs l ids):Ql1 jobs=0 ∧ ∃ j ∈ jobs,j.id=x:=by
 unfold QB0 at h
 cases ht:((Ql1 jobs)!=0) with
 | true=>rw [ht] at h;exact absurd h List.not_mem_nil
 | false =>
  rw [ht] at h
  refine ⟨by simpa using ht,?_⟩
  rcases Qoe _ _ _ 0 (by simp) x h with h|⟨z,hz,e⟩
  ·exact absurd h List.not_mem_nil
  ·rcases rank_mem _ _ z hz with h|h
   ·rcases Qne l ids jobs [] 0 [] z h with h|⟨j,hj,e2⟩
    ·exact absurd h List.not_mem_nil
    ·exact ⟨j,hj,by rw [e,e2]⟩
   ·exact absurd h List.not_mem_nil
theorem open_in {s:State} {j:Job} (h:j ∈ Qb1 s):j ∈ s.jobs:=by
 obtain ⟨h1,_⟩:=List.mem_filter.1 h
 obtain ⟨id,hid,e⟩:=List.mem_map.1 h1
 obtain ⟨ht,x,hx,ex⟩:=order_in hid
 obtain ⟨p,hp⟩:=List.getElem?_of_mem hx
 rw [← ex,Q26 ht hp] at e
 exact e ▸ hx
theorem open_len (s:State):(Qb1 s).length<=s.jobs.length:=by
 have h:=Qv9 s.jobs s.ledger (Q60 s.jobs)
 have:=List.length_filter_le (fun j:Job=>j.promise==(-1)) ((QB0 s.jobs s.ledger (Q60 s.jobs)).map fun id=>(Qh1 s.jobs id).1)
 rw [List.length_map] at this
 unfold Qb1
 omega
def QO3 (s:State) (st:List Step × List Job × List Int) (j:Job):List Step × List Job × List Int :=
 bif (Qk2 st.1 (Qf0 j.shape) s.now 1000000 12).2.2 then Qw2 j (Qk2 st.1 (Qf0 j.shape) s.now 1000000 12).1 (Qk2 st.1 (Qf0 j.shape) s.now 1000000 12).2.1 st.1 st.2.1 st.2.2 else st
def Qd0 (s:State):List Job × List Int :=
 bif ((Q81 s)!=0) then (s.jobs,[]) else ((Qb1 s).foldl (QO3 s) (Qh0 s [],s.jobs,[])).2
def Qqd (s:State) (st:List Step × List Job × List Int):Prop:=st.1.length<=4294967296∧st.2.1.map (·.id)=s.jobs.map (·.id)∧(∀ y ∈ st.2.1,y.sz)
theorem set_id {l:List Job} {i:Nat} {p:Job} (h:∀ x,l[i]? = some x->x.id=p.id):(l.set i p).map (·.id)=l.map (·.id):=by
 rw [List.map_set]
 refine List.ext_getElem? fun k=>?_
 rw [List.getElem?_set,List.getElem?_map]
 by_cases hk:i=k
 ·subst hk
  rw [if_pos rfl]
  by_cases hl:i<l.length
  ·rw [if_pos (by simpa using hl),List.getElem?_eq_getElem hl]
   simp only [Option.map_some]
   rw [h _ (List.getElem?_eq_getElem hl)]
  ·rw [if_neg (by simpa using hl),List.getElem?_eq_none (by omega)]
   rfl
 ·rw [if_neg hk]
theorem g2_found (j:Job) (jobs:List Job) (ids:List Int) (pr:Job × Int) (c:List Step):∀ (l:List Job) (i:Nat),jobs.drop i=l->(∃ x ∈ l,x.id=j.id) ->
  ∃ k x,Qg4 j jobs ids pr c l i=(c,jobs.set k pr.1,ids++[j.id])∧jobs[k]? = some x∧x.id=j.id
 | [],_,_,⟨_,h,_⟩=>absurd h List.not_mem_nil
 | y :: r,i,hd,⟨x,hx,e⟩=>by
  have hg:jobs[i]? = some y:=by have:=congrArg (·[0]?) hd;simpa using this
  have hr:jobs.drop (i+1)=r:=by rw [← List.drop_drop,hd];rfl
  have hy:jobs.getD i Job.zero=y:=by rw [List.getD_eq_getElem?_getD,hg];rfl
  rw [Qg4,hy]
  cases h:(y.id==j.id) with
  | true=>exact ⟨i,y,rfl,hg,by simpa using h⟩
  | false =>
   have hx':x ∈ r:=(List.mem_cons.1 hx).resolve_left fun e2=>by rw [e2] at e;rw [e,beq_self_eq_true] at h;cases h
   exact g2_found j jobs ids pr c r (i+1) hr ⟨x,hx',e⟩
theorem index_pre {s:State} {st:List Step × List Job × List Int} (h:Qqd s st) {j:Job} (hj:j ∈ s.jobs):∃ x ∈ st.2.1,x.id=j.id:=by
 have hm:j.id ∈ st.2.1.map (·.id):=by rw [h.2.1];exact List.mem_map.2 ⟨j,hj,rfl⟩
 exact List.mem_map.1 hm
theorem k1_found {s:State} {st:List Step × List Job × List Int} (h:Qqd s st) {j:Job} (hj:j ∈ s.jobs) (pr:Job × Int) (c:List Step) :
  ∃ k x,Qf2 j st.2.1 st.2.2 pr c=(c,st.2.1.set k pr.1,st.2.2++[j.id])∧st.2.1[k]? = some x∧x.id=j.id :=
 g2_found j st.2.1 st.2.2 pr c st.2.1 0 rfl (index_pre h hj)
theorem promise_id {j:Job} {a c:Int} (h:((Qj1 j a c).2 != 0)=false):(Qj1 j a c).1.id=j.id:=by
 unfold Qj1 at h ⊢
 cases h1:((Qv1 j)!=0) with
 | true=>rw [h1] at h;simp only [cond_true] at h;rw [h1] at h;cases h
 | false =>
  rw [h1] at h
  simp only [cond_false] at h ⊢
  cases h2:((j.state != 1)||j.held) with
  | true=>rw [h2] at h;cases h
  | false =>
   rw [h2] at h
   simp only [cond_false] at h ⊢
   cases h3:((!(QP0 j c).2)||(!(Qc3 a))) with
   | true=>rw [h3] at h;cases h
   | false=>rfl
theorem fresh_step {s:State} {st:List Step × List Job × List Int} (h:Qqd s st) {j:Job} (hj:j ∈ s.jobs) (hz:j.sz):Qqd s (QO3 s st j)∧(QO3 s st j).2.2.length<=st.2.2.length+1:=by
 unfold QO3
 generalize Qk2 st.1 (Qf0 j.shape) s.now 1000000 12=B
 cases B.2.2 with
 | false=>exact ⟨h,Nat.le_succ _⟩
 | true =>
  simp only [cond_true]
  unfold Qw2
  simp only
  cases hp:((Qj1 j B.2.1 B.1).2 != 0) with
  | true=>exact ⟨h,Nat.le_succ _⟩
  | false =>
   simp only [cond_false]
   have hk:∀ c:List Step,c.length<=4294967296->Qqd s (Qf2 j st.2.1 st.2.2 (Qj1 j B.2.1 B.1) c)∧(Qf2 j st.2.1 st.2.2 (Qj1 j B.2.1 B.1) c).2.2.length<=st.2.2.length+1:=by
    intro c hc
    obtain ⟨k,x,e1,e2,e3⟩:=k1_found h hj (Qj1 j B.2.1 B.1) c
    rw [e1]
    refine ⟨⟨hc,?_,fun y hy=>(List.mem_or_eq_of_mem_set hy).elim (h.2.2 y) fun e=>e ▸ QZ9 _ _ hz⟩,by simp⟩
    exact (set_id fun z hz'=>by rw [e2] at hz';rw [promise_id hp,← Option.some.inj hz',e3]).trans h.2.1
   cases ((QN5 st.1 (Q20 (Qj1 j B.2.1 B.1).1).1 (Q20 (Qj1 j B.2.1 B.1).1).2.1 (Q20 (Qj1 j B.2.1 B.1).1).2.2.1).2==0) with
   | true=>exact hk _ (fit_Take_len _ _ _ h.1)
   | false=>exact hk _ h.1
def Qw7 (s:State) (k:Nat):List Step × List Job × List Int:=((Qb1 s).take k).foldl (QO3 s) (Qh0 s [],s.jobs,[])
theorem QWd {s:State} {k:Nat} {j:Job} (h:(Qb1 s)[k]? = some j):Qw7 s (k+1)=QO3 s (Qw7 s k) j:=by
 unfold Qw7
 rw [List.take_add_one,h,List.foldl_append]
 rfl
theorem Q0b {s:State} (hz:s.sz):∀ k,k<=(Qb1 s).length->Qqd s (Qw7 s k)∧(Qw7 s k).2.2.length<=k
 | 0,_=>⟨⟨QJ8 _ _,rfl,hz.2.2.1⟩,Nat.le_refl _⟩
 | k+1,hk=>by
  obtain ⟨h1,h2⟩:=Q0b hz k (by omega)
  have hj:(Qb1 s)[k]? = some ((Qb1 s)[k]'(by omega)):=List.getElem?_eq_getElem (by omega)
  have hm:=open_in (List.mem_of_getElem? hj)
  rw [QWd hj]
  obtain ⟨g1,g2⟩:=fresh_step h1 hm (hz.2.2.1 _ hm)
  exact ⟨g1,by omega⟩
theorem freshI_len {s:State} {st:List Step × List Job × List Int} (h:Qqd s st):st.2.1.length=s.jobs.length:=by
 have:=congrArg List.length h.2.1
 simpa using this
theorem QS6 {s:State} (hz:s.sz):(Qd0 s).1.length=s.jobs.length∧(∀ y ∈ (Qd0 s).1,y.sz)∧(Qd0 s).2.length<=s.jobs.length:=by
 unfold Qd0
 cases ((Q81 s)!=0) with
 | true=>exact ⟨rfl,hz.2.2.1,Nat.zero_le _⟩
 | false =>
  obtain ⟨h1,h2⟩:=Q0b hz (Qb1 s).length (Nat.le_refl _)
  have e:Qw7 s (Qb1 s).length=(Qb1 s).foldl (QO3 s) (Qh0 s [],s.jobs,[]):=by unfold Qw7;rw [List.take_length]
  rw [e] at h1 h2
  have:=open_len s
  exact ⟨freshI_len h1,h1.2.2,by show _<=_;simp only [cond_false];omega⟩
theorem QK4 (s:State) (hs0:s.sz):∀ objs,AGives Tryz.prog 19 [State.a s] objs (AVal.tup [jobL (Qd0 s).1,ints (Qd0 s).2]):=by
 generalize hR:Qd0 s=R
 refine ga (.cons (State.low _ _) .nil) (Low.tup' (.cons lw (.cons lw .nil))) (kp 12 [14,25,38]) Tryz.func19 ?_
 have hs:=hs0
 obtain ⟨z1,z2,z3,z4,z5,z6,z7⟩:=hs0
 refine us (QV3 s szA _) ?_
 refine ai (fun h1=>?_) (fun h2=>?_)
 ·refine us (plan_copied_c s.jobs szA _) ?_
  obtain rfl:=foll hR (ct h1 rfl)
  exact Q00 (Low.tup' (.cons lw (.cons lw .nil))) (Seen.tup (e1 (ev QJ0 .nil)))
 ·refine us (AGives.as2 (QI8 s [] szA szA _) (a1 (av QKa .nil))) ?_
  refine us (mv [] (Qy8 s.jobs szA) .nil (dl lw .nil) (rO rr .nil) (rw_ 2 0 rfl)) ?_
  refine us (r:=.fn (.func 167) [] [.ptr 6 0 8 0 0]) (o:=[(0,.row 28 8 [[I s.now,nodeL s.nodes,jobL s.jobs,Qt2 s.resizes,bookL s.books,Qo2 s.ledger,I s.nextJob,I s.nextBook]]),(0,.row 85 1 [[stepL (Qh0 s [])]]),(0,.row 35 20 (s.jobs.map Job.cells)),(0,.row 23 1 [[.own 2 0 20 0 s.jobs.length]]),(0,.row 44 1 [[.lit (.slice none 0 0)]]),(0,.row 102 1 [[.fn (.func 62) [] [.ptr 1 0 1 0 0,.ptr 3 0 1 0 0,.ptr 4 0 1 0 0]]]),(0,.row 28 8 [[I s.now,nodeL s.nodes,jobL s.jobs,Qt2 s.resizes,bookL s.books,Qo2 s.ledger,I s.nextJob,I s.nextBook]])]) (ACalls.of_cwp (fun _=>true) Tryz.func67 rfl rfl ?_) ?_
  ·exact ⟨_,_,Q0f,rfl,rfl⟩
  have hol:=open_len s
  refine range_nextC (fun _=>true) [.ptr 5 0 8 0 0] ((Qb1 s).map Job.a) (fun k=>Q69 s (Qw7 s k)) 6
   [(1,.ptr 4 0 8 0 0),(2,.lit (.slice none 0 0)),(3,.lit (.slice none 0 0)),(4,.ptr 0 0 1 0 0),(5,.ptr 1 0 1 0 0),(6,.ptr 2 0 1 0 0),(7,.ptr 3 0 1 0 0),(25,.fn (.func 167) [] [.ptr 5 0 8 0 0])] ?_ rfl ?_ (by decide) rfl ?_ rfl ?_ (open1_c s hs (Qw7 s)) (fun _=>rfl) rfl rfl ?_ ?_
  ·exact (QH3 3 1).trans (wk [1,3,4,5,0,6,2,7] (tO rfl (ts (lv lw LowL.nil)) (tO rfl (Qb0 (cv (to 6 lnA) .nil)) (tO rfl (Qb0 (cv (Qv2 7 rfl) .nil)) (tO rfl (Qb0 (cv (QI0 .nil (cv (Q10 0 rfl rfl) (cv (Q10 1 rfl rfl) (cv (Q10 2 rfl rfl) .nil)))) .nil)) (tO rfl (ts State.lo) (tO rfl (ts State.lo) (tO rfl (tl eqA) (tO rfl (tl eqA) .nil))))))))
    (sv (Q10 4 rfl rfl) (s1 (s1 (sv (Q10 0 rfl rfl) (sv (Q10 1 rfl rfl) (sv (Q10 2 rfl rfl) (sv (Q10 3 rfl rfl) (sv (QI0 .nil (cv (Q10 5 rfl rfl) .nil)) .nil)))))))))
  ·intro k _
   simp [Q69]
  ·intro t
   refine (lowR_of (rs:=⟨[],[],[]⟩) ?_ (by simp)).slots t
   repeat (first|exact fun _ h=>absurd h List.not_mem_nil|refine List.forall_mem_cons.2 ⟨by first|exact .lit _|exact .ptr _ _ _ _ _ (by decide)|exact .fn _ _ _ (fun _ h=>absurd h List.not_mem_nil) (fun x hx=>by rw [List.mem_singleton.1 hx];exact .ptr _ _ _ _ _ (by decide)),?_⟩)
  ·intro args w
   simp [go_sem]
  ·intro k x hx
   obtain ⟨j,hj,rfl⟩:∃ j,(Qb1 s)[k]? = some j∧x=Job.a j:=by
    rw [List.getElem?_map] at hx
    obtain ⟨j,hj,e⟩:=Option.map_eq_some_iff.1 hx
    exact ⟨j,hj,e.symm⟩
   have hkl:k<(Qb1 s).length:=(List.getElem?_eq_some_iff.1 hj).1
   obtain ⟨hI,hI2⟩:=Q0b hs k (by omega)
   have hjm:=open_in (List.mem_of_getElem? hj)
   have hjz:=z3 j hjm
   have hpre:=index_pre hI hjm
   simp only [QWd hj]
   have hlen:=freshI_len hI
   obtain ⟨hI1,_,hI3⟩:=hI
   generalize Qw7 s k=st at *
   have hopt:=Qf8 j.shape hjz.2.2.2.1
   conv=>whnf
   refine dchk (by kernel_rfl) ?_
   (first|apply u2|apply u3|apply u4|apply us)
   exact QE2 j.shape hjz.2.2.2.1 _
   (first|apply u2|apply u3|apply u4|apply us)
   exact QE9 st.1 (Qf0 j.shape) s.now 1000000 12 hI1 hopt _
   (repeat (first|refine ai rfl ?_|refine ai (fun _=>rfl) ?_|refine ai (fun _=>QE2 j.shape hjz.2.2.2.1 _) ?_|refine ai (fun _=>QE9 st.1 (Qf0 j.shape) s.now 1000000 12 hI1 hopt _) ?_))
   refine ai (fun h3=>?_) (fun h4=>?_)
   ·have hr:QO3 s st j=Qw2 j (Qk2 st.1 (Qf0 j.shape) s.now 1000000 12).1 (Qk2 st.1 (Qf0 j.shape) s.now 1000000 12).2.1 st.1 st.2.1 st.2.2:=ct h3 rfl
    rw [hr]
    refine us (mv [0,1,2,6,7] (Qxe j (Qk2 st.1 (Qf0 j.shape) s.now 1000000 12).1 (Qk2 st.1 (Qf0 j.shape) s.now 1000000 12).2.1 st.1 st.2.1 st.2.2 hjz hI1 ⟨by omega,hI3⟩ (by omega) hpre) (dO (ds (lv lw LowL.nil)) (dO (dc (dv (QJ6 rfl lnA) .nil)) (dO (dc (dv (QJ6 rfl lnA) .nil)) (dO (dr eqA) (dO (dr eqA) .nil))))) (dl (Job.low _ _) (d1 (d1 (dp (dp (dp .nil)))))) (rO (re (lv lw LowL.nil)) (rO (rc (.cons _ _ _ _ (rw_ 9 0 rfl) .nil)) (rO (rc (.cons _ _ _ _ (rw_ 10 0 rfl) .nil)) (rO rr (rO rr .nil))))) rx) ?_
    exact wk [0,1,2,3,4,5,9,10] (tO rfl (ts (lv lw LowL.nil)) (tO rfl (Qb0 (cv (to 6 lnA) .nil)) (tO rfl (Qb0 (cv (to 7 lnA) .nil)) (tO rfl (Qb0 (cv (QI0 .nil (cv (Q10 0 rfl rfl) (cv (Q10 1 rfl rfl) (cv (Q10 2 rfl rfl) .nil)))) .nil)) (tO rfl (ts State.lo) (tO rfl (ts State.lo) (tO rfl (tl eqA) (tO rfl (tl eqA) .nil))))))))
     (sv (Q10 4 rfl rfl) (s1 (s1 (sv (Q10 0 rfl rfl) (sv (Q10 1 rfl rfl) (sv (Q10 2 rfl rfl) (sv (Q10 3 rfl rfl) (sv (QI0 .nil (cv (Q10 5 rfl rfl) .nil)) .nil))))))))
   ·have hr:QO3 s st j=st:=cf h4 rfl
    rw [hr]
    exact wk [0,1,2,3,4,5,6,7] (tO rfl (ts (lv lw LowL.nil)) (tO rfl (Qb0 (cv (to 6 lnA) .nil)) (tO rfl (Qb0 (cv (to 7 lnA) .nil)) (tO rfl (Qb0 (cv (QI0 .nil (cv (Q10 0 rfl rfl) (cv (Q10 1 rfl rfl) (cv (Q10 2 rfl rfl) .nil)))) .nil)) (tO rfl (ts State.lo) (tO rfl (ts State.lo) (tO rfl (tl eqA) (tO rfl (tl eqA) .nil))))))))
     (sv (Q10 4 rfl rfl) (s1 (s1 (sv (Q10 0 rfl rfl) (sv (Q10 1 rfl rfl) (sv (Q10 2 rfl rfl) (sv (Q10 3 rfl rfl) (sv (QI0 .nil (cv (Q10 5 rfl rfl) .nil)) .nil))))))))
  ·obtain ⟨hI,_⟩:=Q0b hs (Qb1 s).length (Nat.le_refl _)
   have e:Qd0 s=(Qw7 s (Qb1 s).length).2:=by unfold Qw7;rw [List.take_length];exact cf h2 rfl
   have hR2:(Qw7 s (Qb1 s).length).2=R:=e.symm.trans hR
   simp only [List.length_map]
   clear hR e
   generalize Qw7 s (Qb1 s).length=st at *
   obtain rfl:=foll hR2 rfl
   refine dchk (by kernel_rfl) ?_
   (repeat (first|refine ai rfl ?_|refine ai (fun _=>rfl) ?_))
   exact Q00 (Low.tup' (.cons lw (.cons lw .nil))) (Seen.tup (ev (Q82 Job.zero _ rfl eqA lnA) (ev (Q82 0 _ rfl eqA lnA) .nil)))
end Go.Proofs.YtcbolcknapeneaaGreatDoor
namespace Go.Proofs.YtcbolcknapeneaaGreatDoor
set_option linter.unusedSimpArgs false
set_option linter.unusedVariables false
open Go.Fw
theorem check_new {j:Job} (hc:Qi0 j=0) (h1:j.state=1) (hh:j.held=false) {t b:Int} (ht:0<=t∧t<=1000000) (hw:QI1 j.shape b > 0):Qi0 { j with promise:=t,choice:=b }=0:=by
 obtain ⟨_,h2,h3,h4⟩:=QCe hc h1
 unfold Qi0 at hc ⊢
 simp only [Qmd] at hc ⊢
 cases hq:(((((((Q44 (⟨1,0,j.name,j.user,j.account,j.shape,j.prio,true,0,false,j.after,0,0,0⟩:Cmd))!=0)||(decide (j.id<1)))||(decide (j.id > 99999)))||(!(QN0 j.born)))||(decide (j.used<0)))||(decide (j.used > 1000000000000))) with
 | true=>rw [hq] at hc;cases hc
 | false =>
  rw [hq] at hc
  simp only [cond_false] at hc ⊢
  cases hd:(j.after.any fun y=>decide (y.job >= j.id)) with
  | true=>rw [hd] at hc;cases hc
  | false =>
   simp only [cond_false]
   have:Q51 { j with promise:=t,choice:=b }=true:=by
    rw [Q51]
    simp only [h1,h2,h3,h4,beq_self_eq_true,cond_true,bne_self_eq_false,Bool.or_self,cond_false,hh,Bool.not_false,Bool.and_true]
    rw [show (t==(-1))=false by simp;omega]
    simp [QN0,hw]
    omega
   rw [this]
   rfl
theorem promise_new {j:Job} (hu:U64 j.nodes) (hc:Qi0 j=0) (h1:j.state=1) (hh:j.held=false) {t b:Int} (ht:0<=t∧t<=1000000) (hb:0<=b∧b<((Q50 j.shape).length:Int)) :
  Qj1 j t b=({ j with promise:=t,choice:=b },0)∧QD8 j t b=({ j with promise:=t,choice:=b },0)∧Qi0 { j with promise:=t,choice:=b }=0:=by
 have hm:(Q50 j.shape).getD (Int.toNat b) Alt.zero ∈ Q50 j.shape:=Qx7 (by omega)
 obtain ⟨o1,o2,o3,o4⟩:=QH9 j.shape _ hm
 have hw:QI1 j.shape b=((Q50 j.shape).getD (Int.toNat b) Alt.zero).wall:=by
  unfold QI1
  rw [show ((decide (b<0))||(decide (b >= ((Q50 j.shape).length:Int))))=false by simp;omega]
  rfl
 have htk:QN0 t=true:=by simp [QN0];omega
 refine ⟨?_,?_,check_new hc h1 hh ht (by omega)⟩
 ·unfold Qj1
  rw [Q9b j hu,hc,h1,hh,show Qc3 t=QN0 t from rfl,htk]
  have ho:(QP0 j b).2=true:=by
   unfold QP0
   rw [Qn4,show ((decide (b<0))||(decide (b >= ((Q50 j.shape).length:Int))))=false by simp;omega]
   rfl
  rw [ho]
  rfl
 ·unfold QD8
  rw [hc,h1,hh,htk,hw,show (((Q50 j.shape).getD (Int.toNat b) Alt.zero).wall==0)=false from beq_eq_false_iff_ne.2 (by omega)]
  rfl
theorem QQa {j:Job} (hp:j.promise = -1) (t:Int):clAt t j=0:=by
 unfold clAt Qa0
 rw [show ((j.state != 1)||(j.promise==(-1)))=true by simp [hp]]
 simp
theorem step_new {c:State} (h:Well c) {k:Nat} {j:Job} (hk:c.jobs[k]? = some j) (h1:j.state=1) (hh:j.held=false) (hp:j.promise = -1) {latest b t:Int} (hl:latest<=1000000) (hf:Found (Q91 c []) (Q50 j.shape) c.now latest b t) :
  Qj1 j t b=({ j with promise:=t,choice:=b },0)∧QD8 j t b=({ j with promise:=t,choice:=b },0)∧Well { c with jobs:=c.jobs.set k { j with promise:=t,choice:=b } } ∧
  Q20 { j with promise:=t,choice:=b }=(t,((Q50 j.shape).getD (Int.toNat b) Alt.zero).wall+12,((Q50 j.shape).getD (Int.toNat b) Alt.zero).nodes,true) ∧
  QN5 (Q91 c []) (Q20 { j with promise:=t,choice:=b }).1 (Q20 { j with promise:=t,choice:=b }).2.1 (Q20 { j with promise:=t,choice:=b }).2.2.1=(Qh0 { c with jobs:=c.jobs.set k { j with promise:=t,choice:=b } } [],0):=by
 have hm:=List.mem_of_getElem? hk
 obtain ⟨hnow,hch,hpw,_⟩:=h.parts
 have hc:=hch j hm
 have hu:=h.2.1 j hm
 obtain ⟨f1,f2,f3,f4,f5,f6,f7,f8,f9⟩:=hf
 have hm2:(Q50 j.shape).getD (Int.toNat b) Alt.zero ∈ Q50 j.shape:=Qx7 (by omega)
 obtain ⟨o1,o2,o3,o4⟩:=QH9 j.shape _ hm2
 obtain ⟨p1,p2,p3⟩:=promise_new hu hc h1 hh (t:=t) (by omega) ⟨f1,f2⟩
 have hz:({ j with promise:=t,choice:=b }:Job).sz:=h.1.2.2.1 j hm
 have hW:=h.set hk (p:={ j with promise:=t,choice:=b }) rfl p3 hz hu
 have hpt:({ j with promise:=t,choice:=b }:Job).promise ≠ -1:=by show t ≠ -1;omega
 obtain ⟨e1,e2⟩:=claim_of (j:={ j with promise:=t,choice:=b }) hu p3 h1 hpt
 refine ⟨p1,p2,hW,e1,?_⟩
 rw [e1]
 show QN5 (Q91 c []) t (((Q50 j.shape).getD (Int.toNat b) Alt.zero).wall+12) ((Q50 j.shape).getD (Int.toNat b) Alt.zero).nodes=_
 generalize hW':((Q50 j.shape).getD (Int.toNat b) Alt.zero).wall=wl at *
 generalize hN':((Q50 j.shape).getD (Int.toNat b) Alt.zero).nodes=nn at *
 have hfit:QQ6 (Q91 c []) t (wl+12) nn=true:=by
  rw [fits_eq]
  exact (Qd8 (Qre h _) ((Qg5 _ _).2 ⟨by omega,by omega⟩)).2 ⟨by omega,by omega,f9⟩
 unfold QN5
 rw [hfit]
 simp only [Bool.not_true,cond_false]
 have hw1:w64 (t+(wl+12))=t+(wl+12):=wr (by omega)
 have hw2:w64 (0 - nn) = -nn:=(wr (by omega):w64 (0 - nn)=0 - nn).trans (by omega)
 have hr:=(h.rp []).2
 rw [(h.rp []).1] at hr
 rw [hw1,hw2]
 have:=add_rp (n:=-nn) (f_:=t) (t_:=t+(wl+12)) hr (by omega) (left_bd h.1 h.2.1 h.room []) (left_bd hW.1 hW.2.1 hW.room []) (by omega) (by omega) (by omega) (by omega)
  (fun u _ _=>by
   rw [left_set (p:={ j with promise:=t,choice:=b }) hpw hk rfl (by omega) (by show j.state ≠ 2;omega),Qhb hpw hm,QQa hp,clAt_of (j:={ j with promise:=t,choice:=b }) hu p3 h1 hpt,e1]
   simp only [hW',hN']
   split <;> omega) (hW.rp []).2
 rw [this]
inductive Given (s:State):State->List Int->Prop
 | refl:Given s s []
 | step {c:State} {ids:List Int} {k:Nat} {j:Job} {b t:Int} (h:Given s c ids) (hw:Well c) (hk:c.jobs[k]? = some j) (h1:j.state=1) (hh:j.held=false) (hp:j.promise = -1) (hf:Found (Q91 c []) (Q50 j.shape) c.now 1000000 b t) :
   Given s { c with jobs:=c.jobs.set k { j with promise:=t,choice:=b } } (ids++[j.id])
theorem keep_new {c:State} (h:Well c) (hkp:Keeps c) {k:Nat} {j:Job} {b t:Int} (hk:c.jobs[k]? = some j) (h1:j.state=1) (hh:j.held=false) (hp:j.promise = -1) (hf:Found (Q91 c []) (Q50 j.shape) c.now 1000000 b t) :
  Keeps { c with jobs:=c.jobs.set k { j with promise:=t,choice:=b } }:=by
 have hm:=List.mem_of_getElem? hk
 obtain ⟨hnow,hch,hpw,_⟩:=h.parts
 obtain ⟨_,_,hW,e1,_⟩:=step_new h hk h1 hh hp (Int.le_refl _) hf
 obtain ⟨f1,f2,f3,f4,f5,f6,f7,f8,f9⟩:=hf
 have hmp:({ j with promise:=t,choice:=b }:Job) ∈ c.jobs.set k { j with promise:=t,choice:=b }:=(Qmb hpw hk _).2 (.inl rfl)
 have hpt:({ j with promise:=t,choice:=b }:Job).promise ≠ -1:=by show t ≠ -1;omega
 have hcp:=clAt_of (j:={ j with promise:=t,choice:=b }) (hW.2.1 _ hmp) (hW.parts.2.1 _ hmp) h1 hpt
 have hlp:=left_set (s:=c) (p:={ j with promise:=t,choice:=b }) hpw hk rfl (by omega) (by show j.state ≠ 2;omega)
 generalize hpp:({ j with promise:=t,choice:=b }:Job)=p at *
 have hfit:=(own_fit h [] (by omega) f8).1 f9
 rw [e1] at hcp
 simp only at hcp
 have hs:∀ u,Qd3 c [j.id] u=Qd3 c [] u:=fun u=>by rw [Qhb hpw hm,QQa hp,Int.add_zero]
 have in_p:∀ u,t<=u->u<t+(((Q50 j.shape).getD (Int.toNat b) Alt.zero).wall+12)->0<=Qd3 { c with jobs:=c.jobs.set k p } [] u:=by
  intro u a d
  have:=hfit u a d
  rw [hlp,hs,hcp,if_pos ⟨a,d⟩]
  omega
 intro y hy hy1 hyp
 rcases (Qmb hpw hk (p:=p) y).1 hy with rfl|⟨hyc,hne⟩
 ·rw [e1]
  exact ⟨f8,fun u a d=>in_p u (by simp only at a;omega) d⟩
 ·obtain ⟨g1,g2⟩:=hkp y hyc hy1 hyp
  refine ⟨g1,fun u a d=>?_⟩
  by_cases hin:t<=u∧u<t+(((Q50 j.shape).getD (Int.toNat b) Alt.zero).wall+12)
  ·exact in_p u hin.1 hin.2
  ·have i1:=g2 u a d
   rw [hlp,hs,hcp,if_neg hin]
   omega
theorem keep_given {s c:State} {ids:List Int} (h:Given s c ids) (hs:Keeps s):Keeps c:=by
 induction h with
 | refl=>exact hs
 | step h hw hk h1 hh hp hf ih=>exact keep_new hw ih hk h1 hh hp hf
end Go.Proofs.YtcbolcknapeneaaGreatDoor
namespace Go.Proofs.YtcbolcknapeneaaGreatDoor
set_option linter.unusedSimpArgs false
set_option linter.unusedVariables false
open Go.Fw
theorem g2_at {jobs:List Job} (hpw:jobs.Pairwise (fun a b=>a.id<b.id)) {k:Nat} {j:Job} (hk:jobs[k]? = some j) (ids:List Int) (pr:Job × Int) (c:List Step):Qf2 j jobs ids pr c=(c,jobs.set k pr.1,ids++[j.id]):=by
 obtain ⟨k',x,e1,e2,e3⟩:=g2_found j jobs ids pr c jobs 0 rfl ⟨j,List.mem_of_getElem? hk,rfl⟩
 have:k'=k:=by
  obtain ⟨h1,q1⟩:=List.getElem?_eq_some_iff.1 e2
  obtain ⟨h2,q2⟩:=List.getElem?_eq_some_iff.1 hk
  rcases Nat.lt_trichotomy k' k with h|h|h
  ·have:=List.pairwise_iff_getElem.1 hpw k' k h1 h2 h
   rw [q1,q2,e3] at this
   omega
  ·exact h
  ·have:=List.pairwise_iff_getElem.1 hpw k k' h2 h1 h
   rw [q1,q2,e3] at this
   omega
 rw [Qf2,e1,this]
theorem gives {s:State}:∀ (r:List Job) (c:State) (ids:List Int),Given s c ids->Well c->c={ s with jobs:=c.jobs }->(r.map (·.id)).Nodup ->
  (∀ j ∈ r,∃ k:Nat,c.jobs[k]? = some j∧j.state=1∧j.held=false∧j.promise = -1) ->
  ∃ c' ids',Given s c' ids'∧Well c'∧c'={ s with jobs:=c'.jobs }∧(∀ x ∈ ids',x ∈ ids∨x ∈ r.map (·.id))∧(∀ x ∈ ids,x ∈ ids')∧(∀ u,Qd3 c' [] u<=Qd3 c [] u) ∧
   (∀ j ∈ r,j.id ∉ ids' -> ∃ c1:State,Well c1∧c1.now=s.now∧(∀ u,Qd3 c' [] u<=Qd3 c1 [] u)∧(Qq1 (Q91 c1 []) (Q50 j.shape) s.now 1000000 12).2.2=false)∧r.foldl (QO3 s) (Qh0 c [],c.jobs,ids)=(Qh0 c' [],c'.jobs,ids')
 | [],c,ids,hg,hw,hc,_,_=>⟨c,ids,hg,hw,hc,fun _ h=>.inl h,fun _ h=>h,fun _=>Int.le_refl _,fun _ h=>absurd h List.not_mem_nil,rfl⟩
 | j :: r,c,ids,hg,hw,hc,hnd,hr=>by
  obtain ⟨hjr,hnd'⟩:=List.nodup_cons.1 hnd
  obtain ⟨k,hk,h1,hh,hp⟩:=hr j (List.mem_cons_self ..)
  obtain ⟨_,_,hpw,_⟩:=hw.parts
  have hcn:c.now=s.now:=by rw [hc]
  rw [List.foldl_cons,QO3]
  simp only
  rw [(hw.rp []).1,Qn4,Qyd]
  generalize hB:Qq1 (Q91 c []) (Q50 j.shape) s.now 1000000 12=B
  cases hf:B.2.2 with
  | false =>
   simp only [cond_false]
   rw [← (hw.rp []).1]
   obtain ⟨c',ids',g1,g2,g3,g4,m1,m2,m3,g5⟩:=gives r c ids hg hw hc hnd' fun y hy=>hr y (List.mem_cons_of_mem _ hy)
   refine ⟨c',ids',g1,g2,g3,fun x hx=>(g4 x hx).imp id (List.mem_cons_of_mem _),m1,m2,fun y hy hn=>?_,g5⟩
   rcases List.mem_cons.1 hy with rfl|hy
   ·exact ⟨c,hw,hcn,m2,by rw [hB];exact hf⟩
   ·exact m3 y hy hn
  | true =>
   have hfound:=best_spec (Qre hw []) (Q50 j.shape) c.now 1000000 (by rw [hcn,hB];exact hf)
   rw [hcn,hB,← hcn] at hfound
   obtain ⟨t1,_,t3,t4,t5⟩:=step_new hw hk h1 hh hp (Int.le_refl _) hfound
   simp only [cond_true]
   unfold Qw2
   simp only
   rw [t1]
   simp only [bne_self_eq_false,cond_false]
   rw [t5]
   simp only [beq_self_eq_true,cond_true]
   rw [g2_at hpw hk]
   have hg':=Given.step hg hw hk h1 hh hp hfound
   have hmp:({ j with promise:=B.2.1,choice:=B.1 }:Job) ∈ c.jobs.set k { j with promise:=B.2.1,choice:=B.1 }:=(Qmb hpw hk _).2 (.inl rfl)
   have hless:∀ u,Qd3 { c with jobs:=c.jobs.set k { j with promise:=B.2.1,choice:=B.1 } } [] u<=Qd3 c [] u:=fun u=>by
    rw [left_set (s:=c) (p:={ j with promise:=B.2.1,choice:=B.1 }) hpw hk rfl (by omega) (by show j.state ≠ 2;omega),Qhb hpw (List.mem_of_getElem? hk),QQa hp]
    have:=(clAt_bd u (t3.parts.2.1 _ hmp)).1
    omega
   obtain ⟨c',ids',g1,g2,g3,g4,m1,m2,m3,g5⟩:=gives r { c with jobs:=c.jobs.set k { j with promise:=B.2.1,choice:=B.1 } } (ids++[j.id]) hg' t3 (by rw [hc]) hnd' fun y hy=>by
    obtain ⟨k',a1,a2,a3,a4⟩:=hr y (List.mem_cons_of_mem _ hy)
    refine ⟨k',?_,a2,a3,a4⟩
    rw [QN8 hk,if_neg ?_]
    ·exact a1
    ·intro e
     subst e
     rw [hk] at a1
     have e2:j=y:=Option.some.inj a1
     exact hjr (List.mem_map.2 ⟨y,hy,by rw [e2]⟩)
   refine ⟨c',ids',g1,g2,g3,fun x hx=>?_,fun x hx=>m1 x (List.mem_append_left _ hx),fun u=>Int.le_trans (m2 u) (hless u),fun y hy hn=>?_,g5⟩
   rotate_left
   ·rcases List.mem_cons.1 hy with rfl|hy
    ·exact absurd (m1 _ (List.mem_append_right _ (List.mem_singleton.2 rfl))) hn
    ·exact m3 y hy hn
   rcases g4 x hx with h|h
   ·rcases List.mem_append.1 h with h|h
    ·exact .inl h
    ·rw [List.mem_singleton.1 h];exact .inr (List.mem_cons_self ..)
   ·exact .inr (List.mem_cons_of_mem _ h)
end Go.Proofs.YtcbolcknapeneaaGreatDoor
namespace Go.Proofs.YtcbolcknapeneaaGreatDoor
set_option linter.unusedSimpArgs false
set_option linter.unusedVariables false
open Go.Fw
theorem earliest_full {p:List Step} (hp:Cn p) {from_ long n t:Int} (ha:Ql2 long n=true) (h1:max from_ 0<=t) (h2:t+long<=1000000) (h3:Fit (pat p) long n t) :
  (Qo0 p from_ long n).2=true∧(Qo0 p from_ long n).1<=t:=by
 obtain ⟨a1,a2⟩:=(Qg5 long n).1 ha
 have hr:Qo0 p from_ long n=(bif Qy1 p (max from_ 0) long n then (max from_ 0,true) else QM6 (fun t=>Qy1 p t long n) (max from_ 0) p):=by
  unfold Qo0 QR3
  by_cases h:from_<0
  ·rw [decide_eq_true h,show max from_ 0=0 by omega,Qxa]
   rfl
  ·rw [decide_eq_false h,show max from_ 0=from_ by omega]
   simp only [cond_false]
   rw [Qxa]
 have he:=ear_first (fit:=fun t=>Qy1 p t long n) hp.1 (long:=long) (n:=n) (a:=max from_ 0) a2.1 (by omega) (by omega) fun t ht=>(Qd8 hp ha).trans ⟨fun h=>h.2,fun h=>⟨ht,h⟩⟩
 rw [hr,← he]
 have hE:Early (pat p) long n (max from_ 0) (ear long n p (max from_ 0)):=by
  cases p with
  | nil=>exact hp.1.elim
  | cons x r =>
   obtain ⟨h0,hs,hd⟩:=hp.1
   exact Q29 a2.1 (x :: r) (max from_ 0) (by omega) (fun y s e=>by
    cases e
    refine ⟨hs,fun u hu=>?_⟩
    show (if x.at_<=u then pv x.free r u else pv 0 r u)=_
    rw [if_pos hu]) (fun u hu hv hw=>absurd (hw x r rfl) (by omega)) (by omega)
 rcases hE with ⟨g1,g2,g3,g4,g5⟩|⟨g1,g2⟩
 ·refine ⟨g1,?_⟩
  rcases Int.lt_or_le t (ear long n p (max from_ 0)).1 with h|h
  ·exact absurd h3 (g5 t h1 h)
  ·exact h
 ·exact absurd h3 (g2 t h1 h2)
def Good (p:List Step) (from_ latest:Int) (x:Alt):Prop:=1<=x.wall∧x.wall+12<=1000000∧1<=x.nodes∧x.nodes<=1000000 ∧ ∃ t,max from_ 0<=t∧t<=latest∧t+(x.wall+12)<=1000000∧Fit (pat p) (x.wall+12) x.nodes t
theorem best_in {p:List Step} (hp:Cn p) (options:List Alt) (from_ latest:Int):∀ (l:List Alt) (choice start:Int) (found:Bool) (i:Nat),options.drop i=l->(found=true ∨ ∃ b,i<=b∧b<options.length∧Good p from_ latest (options.getD b Alt.zero)) ->
  (Qe1 p from_ latest 12 options l choice start found i).2.2=true
 | [],choice,start,found,i,hl,h=>by
  rcases h with h|⟨b,h1,h2,_⟩
  ·exact h
  ·have:=congrArg List.length hl
   simp at this
   omega
 | x :: r,choice,start,found,i,hl,h=>by
  obtain ⟨hx,hr⟩:=QR2 Alt.zero hl
  have next:=fun c s f=>best_in hp options from_ latest r c s f (i+1) hr
  rw [Qe1,Qn8,show max (12:Int) 0=12 by decide]
  cases h1:((!(Ql2 x.wall x.nodes))||(decide ((12:Int) > (w64 (1000000 - x.wall))))) with
  | true =>
   refine next _ _ _ (h.imp id fun ⟨b,b1,b2,b3⟩=>⟨b,?_,b2,b3⟩)
   refine Nat.lt_of_le_of_ne b1 fun e=>?_
   rw [← e,hx] at b3
   obtain ⟨g1,g2,g3,g4,_⟩:=b3
   have ha:=(Qg5 x.wall x.nodes).2 ⟨⟨g3,g4⟩,by omega⟩
   have hw:w64 (1000000 - x.wall)=1000000 - x.wall:=wr (by omega)
   rw [ha,hw,decide_eq_false (by omega)] at h1
   cases h1
  | false =>
   simp only [cond_false]
   cases h2:((!((Qo0 p from_ (w64 (x.wall+12)) x.nodes).2&&(decide ((Qo0 p from_ (w64 (x.wall+12)) x.nodes).1<=latest))))||(found&&(decide ((w64 ((Qo0 p from_ (w64 (x.wall+12)) x.nodes).1+x.wall)) >= (w64 (start+(options.getD (Int.toNat choice) Alt.zero).wall)))))) with
   | false =>
    simp only [cond_false]
    exact next _ _ _ (.inl rfl)
   | true =>
    simp only [cond_true]
    refine next _ _ _ ?_
    rcases h with h|⟨b,b1,b2,b3⟩
    ·exact .inl h
    ·cases found with
     | true=>exact .inl rfl
     | false =>
      refine .inr ⟨b,?_,b2,b3⟩
      refine Nat.lt_of_le_of_ne b1 fun e=>?_
      rw [← e,hx] at b3
      obtain ⟨g1,g2,g3,g4,t,t1,t2,t3,t4⟩:=b3
      have hw:w64 (x.wall+12)=x.wall+12:=wr (by omega)
      obtain ⟨e1,e2⟩:=earliest_full hp (from_:=from_) (long:=x.wall+12) (n:=x.nodes) ((Qg5 _ _).2 ⟨⟨g3,g4⟩,by omega⟩) t1 t3 t4
      rw [hw,e1,decide_eq_true (by omega),Bool.false_and] at h2
      cases h2
theorem best_less {p q:List Step} (hp:Cn p) (hq:Cn q) (h:∀ u,0<=u->u<=1000000->pat q u<=pat p u) (options:List Alt) (from_ latest:Int) (hf:(Qq1 q options from_ latest 12).2.2=true):(Qq1 p options from_ latest 12).2.2=true:=by
 have h1:∀ p,Qk2 p options from_ latest 12=Qe1 p from_ latest 12 (options.take 48) (options.take 48) 0 0 false 0:=by
  intro p
  unfold Qk2
  by_cases h:(options.length:Int) > 48
  ·rw [decide_eq_true h];rfl
  ·rw [decide_eq_false h,List.take_of_length_le (by omega)];rfl
 rw [← Qyd,h1] at hf ⊢
 have hF:=Qgd hq (options.take 48) from_ latest (options.take 48) 0 0 false 0 rfl (fun h=>by cases h) hf
 generalize Qe1 q from_ latest 12 (options.take 48) (options.take 48) 0 0 false 0=r at hF
 obtain ⟨f1,f2,f3,f4,f5,f6,f7,f8,f9⟩:=hF
 refine best_in hp (options.take 48) from_ latest (options.take 48) 0 0 false 0 rfl (.inr ⟨Int.toNat r.1,Nat.zero_le _,by omega,f5,by omega,f6,f7,r.2.1,f3,f4,f8,fun u a b=>?_⟩)
 exact Int.le_trans (f9 u a b) (h u (by omega) (by omega))
end Go.Proofs.YtcbolcknapeneaaGreatDoor
namespace Go.Proofs.YtcbolcknapeneaaGreatDoor
set_option linter.unusedSimpArgs false
set_option linter.unusedVariables false
open Go.Fw
theorem Q1c {s c:State} {ids:List Int} (hs:Well s) (h:Given s c ids):Well c∧c.now=s.now∧c.jobs.length=s.jobs.length ∧ ∀ (k:Nat) (j:Job),s.jobs[k]? = some j -> ∃ j',c.jobs[k]? = some j'∧j'.id=j.id ∧
  ((j.id ∉ ids∧j'=j)∨(j.id ∈ ids∧j.state=1∧j.held=false∧j.promise = -1∧s.now<=j'.promise∧0<=j'.promise∧Qi0 j'=0)):=by
 induction h with
 | refl=>exact ⟨hs,rfl,rfl,fun k j hk=>⟨j,hk,rfl,.inl ⟨List.not_mem_nil,rfl⟩⟩⟩
 | @step c ids k j b t h hw hk h1 hh hp hf ih =>
  obtain ⟨_,i1,i2,i3⟩:=ih
  obtain ⟨_,_,hpw,_⟩:=hw.parts
  obtain ⟨_,_,hW,_,_⟩:=step_new hw hk h1 hh hp (Int.le_refl _) hf
  have hlt:k<c.jobs.length:=(List.getElem?_eq_some_iff.1 hk).1
  obtain ⟨j0,hj0⟩:∃ j0,s.jobs[k]? = some j0:=⟨_,List.getElem?_eq_getElem (by omega)⟩
  obtain ⟨j',hj',he,hor⟩:=i3 k j0 hj0
  have e1:j'=j:=by rw [hk] at hj';exact (Option.some.inj hj').symm
  rw [e1] at he hor
  have e2:j0.id ∉ ids∧j=j0:=by
   rcases hor with h|⟨_,_,_,_,_,a,_⟩
   ·exact h
   ·omega
  obtain ⟨hni,e2⟩:=e2
  rw [← e2] at hj0 hni
  obtain ⟨f1,f2,f3,f4,f5,f6,f7,f8,f9⟩:=hf
  refine ⟨hW,i1,by show (c.jobs.set k _).length=_;rw [List.length_set];exact i2,fun i x hx=>?_⟩
  by_cases hi:i=k
  ·subst hi
   have e3:j=x:=Option.some.inj (hj0.symm.trans hx)
   rw [← e3]
   have hmp:({ j with promise:=t,choice:=b }:Job) ∈ c.jobs.set i { j with promise:=t,choice:=b }:=(Qmb hpw hk _).2 (.inl rfl)
   exact ⟨{ j with promise:=t,choice:=b },(QN8 hk i).trans (if_pos rfl),rfl,.inr ⟨by simp,h1,hh,hp,by show s.now<=t;omega,by show 0<=t;omega,hW.parts.2.1 _ hmp⟩⟩
  ·obtain ⟨x',hx',e,o⟩:=i3 i x hx
   refine ⟨x',((QN8 hk i).trans (if_neg hi)).trans hx',e,?_⟩
   have hne:x.id ≠ j.id:=by
    rw [← e]
    rcases Nat.lt_or_gt_of_ne hi with g|g
    ·have:=QD6 hpw i k x' j g hx' hk;omega
    ·have:=QD6 hpw k i j x' g hk hx';omega
   rcases o with ⟨o1,o2⟩|⟨o1,o2⟩
   ·exact .inl ⟨by simp [o1,hne],o2⟩
   ·exact .inr ⟨List.mem_append_left _ o1,o2⟩
end Go.Proofs.YtcbolcknapeneaaGreatDoor
namespace Go.Proofs.YtcbolcknapeneaaGreatDoor
set_option linter.unusedSimpArgs false
set_option linter.unusedVariables false
open Go.Fw
theorem order_free {s:State} (hs:Well s):∀ x ∈ QU1 s.jobs s.ledger (Qu0 s.jobs),∃ (k:Nat) (j:Job),s.jobs[k]? = some j∧j.id=x∧j.state=1∧j.held=false:=by
 intro x hx
 obtain ⟨k,j,hk,_,e,h1⟩:=(order_ids hs).2 x hx
 obtain ⟨_,hch,hpw,h15⟩:=hs.parts
 have hjm:=List.mem_of_getElem? hk
 refine ⟨k,j,hk,e,h1,?_⟩
 rw [(Qy6 hs.1.2.1 hs.2.1 s.ledger hs.1.2.2.2.2.2.1 (Qu0 s.jobs)).2 h15] at hx
 obtain ⟨y,hy,e2⟩:=List.mem_map.1 hx
 obtain ⟨hym,hye⟩:=List.mem_filter.1 ((Qz7 s.ledger (Qu0 s.jobs) s.jobs).mem_iff.1 hy)
 have hyj:y=j:=by
  have a:=Qf4 hpw hym
  have b:=Qf4 hpw hjm
  rw [e2] at a
  rw [e] at b
  exact a.symm.trans b
 rw [hyj] at hye
 have hje:j.id ∈ Qu0 s.jobs:=by simpa using hye
 have hel:j.id ∈ (QU0 s.jobs s.jobs [] 0).1:=by
  unfold Qu0 at hje
  rw [h15] at hje
  exact hje
 rcases Qv6 s.jobs s.jobs [] 0 j.id hel with h|⟨z,hz,ez,_,hz2⟩
 ·cases h
 ·have:z=j:=by
   have a:=Qf4 hpw hz
   rw [ez,Qf4 hpw hjm] at a
   exact a.symm
  rw [← this]
  exact hz2
theorem Qnb {s:State} (hs:Well s):((Qb1 s).map (·.id)).Nodup∧(∀ j ∈ Qb1 s,∃ k:Nat,s.jobs[k]? = some j∧j.state=1∧j.held=false∧j.promise = -1) ∧
  (∀ j ∈ s.jobs,j.promise = -1->j.id ∈ QU1 s.jobs s.ledger (Qu0 s.jobs)->j ∈ Qb1 s):=by
 have ht:Ql1 s.jobs=0:=(Q27 hs.room).2.2.1
 have hL:QB0 s.jobs s.ledger (Q60 s.jobs)=QU1 s.jobs s.ledger (Qu0 s.jobs):=by
  rw [Qr5 hs.1.2.1 hs.2.1,(Qy6 hs.1.2.1 hs.2.1 s.ledger hs.1.2.2.2.2.2.1 _).1]
 have hfree:=order_free hs
 have hnd:=(order_ids hs).1
 have hid:(QU1 s.jobs s.ledger (Qu0 s.jobs)).map (fun id=>(Qh1 s.jobs id).1.id)=QU1 s.jobs s.ledger (Qu0 s.jobs):=by
  have:∀ x ∈ QU1 s.jobs s.ledger (Qu0 s.jobs),(Qh1 s.jobs x).1.id=x:=by
   intro x hx
   obtain ⟨k,j,hk,e,_⟩:=hfree x hx
   rw [← e,Q26 ht hk]
  exact (List.map_congr_left this).trans (List.map_id _)
 unfold Qb1
 rw [hL]
 refine ⟨?_,fun j hj=>?_,fun j hj hp hx=>?_⟩
 ·have hsub:=(List.filter_sublist (p:=fun j:Job=>j.promise==(-1)) (l:=(QU1 s.jobs s.ledger (Qu0 s.jobs)).map fun id=>(Qh1 s.jobs id).1)).map (·.id)
  refine List.Nodup.sublist hsub ?_
  rw [List.map_map]
  show ((QU1 s.jobs s.ledger (Qu0 s.jobs)).map (fun id=>(Qh1 s.jobs id).1.id)).Nodup
  rw [hid]
  exact hnd
 ·obtain ⟨hj1,hj2⟩:=List.mem_filter.1 hj
  obtain ⟨x,hx,e⟩:=List.mem_map.1 hj1
  obtain ⟨k,y,hk,ey,h1,hh⟩:=hfree x hx
  rw [← ey,Q26 ht hk] at e
  simp only at e
  rw [← e] at hj2 ⊢
  exact ⟨k,hk,h1,hh,by simpa using hj2⟩
 ·obtain ⟨k,hk⟩:=List.getElem?_of_mem hj
  refine List.mem_filter.2 ⟨List.mem_map.2 ⟨j.id,hx,by rw [Q26 ht hk]⟩,by simp [hp]⟩
theorem none_later0 {c c1:State} (hw:Well c) (hw1:Well c1) (hl:∀ u,Qd3 c [] u<=Qd3 c1 [] u) {options:List Alt} {from_:Int}
  (hn:(Qq1 (Q91 c1 []) options from_ 1000000 12).2.2=false):(Qq1 (Q91 c []) options from_ 1000000 12).2.2=false:=by
 cases hf:(Qq1 (Q91 c []) options from_ 1000000 12).2.2 with
 | false=>rfl
 | true =>
  have h1:=(hw1.rp []).2
  rw [(hw1.rp []).1] at h1
  have h2:=(hw.rp []).2
  rw [(hw.rp []).1] at h2
  have:=best_less (Qre hw1 []) (Qre hw []) (fun u a b=>by
   rw [h1.2.2 u a b,h2.2.2 u a b]
   exact hl u) options from_ 1000000 hf
  rw [this] at hn
  cases hn
theorem fold_none {c:State} (hw:Well c) (ids:List Int):∀ r:List Job,(∀ j ∈ r,(Qq1 (Q91 c []) (Q50 j.shape) c.now 1000000 12).2.2=false)->r.foldl (QO3 c) (Qh0 c [],c.jobs,ids)=(Qh0 c [],c.jobs,ids)
 | [],_=>rfl
 | j :: r,h=>by
  rw [List.foldl_cons,QO3]
  simp only
  rw [(hw.rp []).1,Qn4,Qyd,h j (List.mem_cons_self ..)]
  simp only [cond_false]
  rw [← (hw.rp []).1]
  exact fold_none hw ids r fun y hy=>h y (List.mem_cons_of_mem _ hy)
theorem keeps_bare {c:State} (h:∀ y ∈ c.jobs,y.state=1->y.promise = -1):Keeps c:=fun y hy h1 hp=>absurd (h y hy h1) hp
end Go.Proofs.YtcbolcknapeneaaGreatDoor
namespace Go.Proofs.YtcbolcknapeneaaGreatDoor
set_option linter.unusedSimpArgs false
set_option linter.unusedVariables false
open Go.Fw
end Go.Proofs.YtcbolcknapeneaaGreatDoor
namespace Go.Proofs.YtcbolcknapeneaaGreatDoor
set_option linter.unusedSimpArgs false
set_option linter.unusedVariables false
open Go.Fw
set_option maxRecDepth 20000
set_option maxHeartbeats 4000000
attribute [local irreducible] ACalls AMoves
def QA7 (s:State):List Job->List Int->Nat->(List Int)
 | [],ids,_=>ids
 | x_1 :: r,ids,i1=>bif ((x_1.promise != (s.jobs.getD i1 Job.zero).promise)||(x_1.choice != (s.jobs.getD i1 Job.zero).choice)) then QA7 s r (ids++([x_1.id]:List Int)) (i1+1) else QA7 s r ids (i1+1)
def QJ4 (fr:(List Job) × (List Int)) (ids:List Int):(List Job) × (List Int):=(fr.1,ids)
def QB7 (s:State) (c:State):(List Job) × (List Int):=(fun fr:(List Job) × (List Int)=>QJ4 fr (QA7 s fr.1 [] 0)) (Qd0 c)
def Qr1 :List Job->Nat->List Job->(List Job)
 | [],_,c2=>c2
 | _ :: r,i,c2=>(fun dro:Job × Int=>bif (dro.2==0) then Qr1 r (i+1) (c2.set i dro.1) else Qr1 r (i+1) c2) (Qj5 (c2.getD i Job.zero))
def QE5 (s:State) (c2:List Job):(List Job) × (List Int):=QB7 s { s with jobs:=c2 }
def QN1 (s:State):(List Job) × (List Int):=bif ((Q81 s)!=0) then (s.jobs,[]) else QE5 s (Qr1 s.jobs 0 s.jobs)
theorem Qwa (s:State) (hs0:s.sz):∀ objs,AGives Tryz.prog 24 [State.a s] objs (AVal.tup [jobL ((QN1 s).1),ints ((QN1 s).2)]):=by
 generalize hR:QN1 s=R;refine ga (.cons (State.low _ _) .nil) (Low.tup' (.cons lw (.cons lw .nil))) (kj [1000012] 15 [17,27,28,29,30,40,52,53,54,55,75]) Tryz.func24 ?_;have hk0:=hs0;obtain ⟨z21,z22,z23,z24,z25,z26,z27⟩:=hs0;refine us (QV3 s (by first|((exact hx.1))|first|((exact Q70 hx.1 (Job.szz _)))|exact szA) _) ?_;refine ai (fun h1=>?_) (fun h2=>?_)
 ·refine us (mv [] (Qy8 s.jobs (by first|((exact hx.1))|first|((exact Q70 hx.1 (Job.szz _)))|exact szA)) .nil (dl lw .nil) (rO rr .nil) (rw_ 1 0 rfl)) ?_;obtain rfl:=foll hR (ct h1 rfl);exact Q00 (Low.tup' (.cons lw (.cons lw .nil))) (Seen.tup (ev (Q82 Job.zero _ rfl eqA lnA) (ev (QJ0) .nil)))
 ·refine us (mv [] (Qy8 s.jobs (by first|((exact hx.1))|first|((exact Q70 hx.1 (Job.szz _)))|exact szA)) .nil (dl lw .nil) (rO rr .nil) (rw_ 2 0 rfl)) ?_;refine QJ2 (fun (c:State)=>QB7 s c=R∧(c.sz∧c.jobs.length=s.jobs.length)) (fun c=>[(1,AVal.ptr 0 0 8 0 0),(2,AVal.lit (.slice none 0 0)),(3,AVal.lit (.slice none 0 0)),(4,AVal.ptr 1 0 8 0 0)]) (fun c=>[(0,AObj.row 28 8 [[I s.now,nodeL s.nodes,jobL s.jobs,Qt2 s.resizes,bookL s.books,Qo2 s.ledger,I s.nextJob,I s.nextBook]]),(0,AObj.row 28 8 [[I c.now,nodeL c.nodes,jobL c.jobs,Qt2 c.resizes,bookL c.books,Qo2 c.ledger,I c.nextJob,I c.nextBook]])]) ?_ ?_
  ·clear hR;rintro c ⟨hR,hx⟩;(try dsimp only at hR hx);refine us (QK4 c (by first|((exact hx.1))|first|((exact Q70 hx.1 (Job.szz _)))|exact szA) _) ?_;generalize hvfr:Qd0 c=fr;(have hfr:fr.1.length=s.jobs.length∧(∀ y ∈ fr.1,y.sz):=by rw [← hvfr];exact ⟨(QS6 hx.1).1.trans hx.2,(QS6 hx.1).2.1⟩);refine Q41 (fun (ids:List Int) (i1:Nat)=>QJ4 fr (QA7 s (List.drop i1 fr.1) ids i1)=R∧i1<=fr.1.length∧ids.length<=i1) (fun ids i1=>fr.1.length - i1) (fun ids i1=>[(1,AVal.ptr 0 0 8 0 0),(2,AVal.lit (.slice none 0 0)),(3,AVal.lit (.slice none 0 0)),(9,jobL fr.1),(11,AVal.own 1 0 1 0 ids.length),(52,jobL fr.1),(53,I (fr.1.length:Int)),(54,I (i1:Int))]) (fun ids i1=>[(0,AObj.row 28 8 [[I s.now,nodeL s.nodes,jobL s.jobs,Qt2 s.resizes,bookL s.books,Qo2 s.ledger,I s.nextJob,I s.nextBook]]),(0,AObj.row 3 1 (ids.map (fun q_=>[I q_])))]) [] 0 ((QH3 3 1).trans (wk [0,2] (tO rfl (ts State.lo) (tO rfl (tl eqA) .nil)) (sv (Q10 0 rfl rfl) (s1 (s1 (sl lw (sv (Qv2 1 rfl) (sl lw (s1 (s1 .nil)))))))))) ⟨foll hR ((by subst hvfr;exact rfl)),by exact omA,by first|((exact ⟨⟨z21,by show c2.length<=4294967296;omega,hx.1,z24,z25,z26,z27⟩,hx.2⟩))|first|((exact ⟨fun y hy=>(List.mem_or_eq_of_mem_set hy).elim (hx.1 y) (fun e=>e ▸ hdro),by rw [List.length_set];exact hx.2⟩))|first|((exact hx))|first|((exact ⟨z23,rfl⟩))|exact exA⟩ ?_;clear hR;rintro ids i1 ⟨hR,hj,hx⟩;(try dsimp only at hR hj hx);refine ai (fun h3=>?_) (fun h4=>?_)
   ·have hlt:=ltA h3;rw [Qg0 Job.zero hlt] at hR;have hxz:(fr.1.getD i1 Job.zero).sz:=Q70 (by first|assumption|grind) (Job.szz _);have hkz:=hxz;obtain ⟨z5,z6,z7,z8,z9⟩:((fr.1.getD i1 Job.zero).name).size<=4294967296∧((fr.1.getD i1 Job.zero).user).size<=4294967296∧((fr.1.getD i1 Job.zero).account).size<=4294967296∧((((fr.1.getD i1 Job.zero).shape).alts).length<=4294967296)∧((fr.1.getD i1 Job.zero).after).length<=4294967296:=hxz;refine ai gkA ?_;refine ai gkA ?_;refine ai (fun h10=>?_) (fun h11=>?_)
    ·refine Or.inl ?_;(first|refine ⟨Q75 8 rfl lnA apA,?_⟩|refine ⟨QI2 8 rfl apA,?_⟩);exact Qz0 (ids++([(fr.1.getD i1 Job.zero).id]:List Int)) (i1+1) (wk [0,1] (tO rfl (ts State.lo) (tO rfl (tl eqA) .nil)) (sv (Q10 0 rfl rfl) (s1 (s1 (sl lw (sv (to 1 lnA) (sl lw (s1 (sv (Qn0 (I_eq (wr omA)) lx) .nil))))))))) omA ⟨foll hR (congrArg (fun p:(List Int)=>QJ4 fr p) (ct h10 rfl)),by exact omA,by first|((exact ⟨⟨z21,by show c2.length<=4294967296;omega,hx.1,z24,z25,z26,z27⟩,hx.2⟩))|first|((exact ⟨fun y hy=>(List.mem_or_eq_of_mem_set hy).elim (hx.1 y) (fun e=>e ▸ hdro),by rw [List.length_set];exact hx.2⟩))|first|((exact hx))|first|((exact ⟨z23,rfl⟩))|exact exA⟩
    ·exact Qz0 ids (i1+1) (wk [0,1] (tO rfl (ts State.lo) (tO rfl (tl eqA) .nil)) (sv (Q10 0 rfl rfl) (s1 (s1 (sl lw (sv (to 1 lnA) (sl lw (s1 (sv (Qn0 (I_eq (wr omA)) lx) .nil))))))))) omA ⟨foll hR (congrArg (fun p:(List Int)=>QJ4 fr p) (cf h11 rfl)),by exact omA,by first|((exact ⟨⟨z21,by show c2.length<=4294967296;omega,hx.1,z24,z25,z26,z27⟩,hx.2⟩))|first|((exact ⟨fun y hy=>(List.mem_or_eq_of_mem_set hy).elim (hx.1 y) (fun e=>e ▸ hdro),by rw [List.length_set];exact hx.2⟩))|first|((exact hx))|first|((exact ⟨z23,rfl⟩))|exact exA⟩
   ·rw [Qt0 (l:=fr.1) (j:=i1) (geA h4)] at hR;replace hR:QJ4 fr ids=R:=fo2 (fun p:(List Int)=>QJ4 fr p) (ids) hR rfl;obtain rfl:=foll hR rfl;exact Q00 (Low.tup' (.cons lw (.cons lw .nil))) (Seen.tup (e1 (ev (Q82 0 _ rfl eqA lnA) .nil)))
  ·refine Q41 (fun (i:Nat) (c2:List Job)=>QE5 s (Qr1 (List.drop i s.jobs) i c2)=R∧i<=s.jobs.length∧(∀ y ∈ c2,y.sz)∧c2.length=s.jobs.length) (fun i c2=>s.jobs.length - i) (fun i c2=>[(1,AVal.ptr 0 0 8 0 0),(2,AVal.lit (.slice none 0 0)),(3,AVal.lit (.slice none 0 0)),(4,AVal.ptr 1 0 8 0 0),(27,AVal.own 2 0 20 0 c2.length),(28,I (s.jobs.length:Int)),(29,I (i:Int))]) (fun i c2=>[(0,AObj.row 28 8 [[I s.now,nodeL s.nodes,jobL s.jobs,Qt2 s.resizes,bookL s.books,Qo2 s.ledger,I s.nextJob,I s.nextBook]]),(0,AObj.row 28 8 [[I s.now,nodeL s.nodes,AVal.own 2 0 20 0 c2.length,Qt2 s.resizes,bookL s.books,Qo2 s.ledger,I s.nextJob,I s.nextBook]]),(0,AObj.row 35 20 (c2.map Job.cells))]) 0 s.jobs (wk [0,1,2] (tO rfl (ts State.lo) (tO rfl (Qb0 (c1 (cv (Qr0 lw) (cv (to 2 lnA) (cv (Qr0 lw) (cv (Qr0 lw) (cv (Qr0 lw) (c1 (c1 .nil))))))))) (tO rfl (tl eqA) .nil))) (sv (Q10 0 rfl rfl) (s1 (s1 (sv (Q10 1 rfl rfl) (sv (to 2 lnA) (s1 (s1 .nil)))))))) ⟨foll hR (cf h2 rfl),by exact omA,by first|((exact ⟨⟨z21,by show c2.length<=4294967296;omega,hx.1,z24,z25,z26,z27⟩,hx.2⟩))|first|((exact ⟨fun y hy=>(List.mem_or_eq_of_mem_set hy).elim (hx.1 y) (fun e=>e ▸ hdro),by rw [List.length_set];exact hx.2⟩))|first|((exact hx))|first|((exact ⟨z23,rfl⟩))|exact exA⟩ ?_;clear hR;rintro i c2 ⟨hR,hj,hx⟩;(try dsimp only at hR hj hx);refine ai (fun h12=>?_) (fun h13=>?_)
   ·have hlt:=ltA h12;rw [Qg0 Job.zero hlt] at hR;have hxz:(s.jobs.getD i Job.zero).sz:=Q70 (by first|assumption|grind) (Job.szz _);have hkz:=hxz;obtain ⟨z14,z15,z16,z17,z18⟩:((s.jobs.getD i Job.zero).name).size<=4294967296∧((s.jobs.getD i Job.zero).user).size<=4294967296∧((s.jobs.getD i Job.zero).account).size<=4294967296∧((((s.jobs.getD i Job.zero).shape).alts).length<=4294967296)∧((s.jobs.getD i Job.zero).after).length<=4294967296:=hxz;refine ai gkA ?_;refine ⟨_,Q22 rfl rfl rfl (Q12 Job.zero i (by first|rfl|exact Nat.zero_add _|omega) ckA) rfl,?_⟩;refine us (job_Drop_c (c2.getD i Job.zero) (by first|((exact hx.1))|first|((exact Q70 hx.1 (Job.szz _)))|exact szA) _) ?_;generalize hvdro:Qj5 (c2.getD i Job.zero)=dro;(have hdro:dro.1.sz:=by rw [← hvdro];exact Q9e (Q70 hx.1 (Job.szz _)));refine ai (fun h19=>?_) (fun h20=>?_)
    ·refine ai gkA ?_;refine ⟨_,Ql3 rfl rfl rfl rfl (Q12 Job.zero i (by first|rfl|exact Nat.zero_add _|omega) ckA) rfl rfl (set_map i dro.1 (by first|rfl|exact Nat.zero_add _|omega) rfl),?_⟩;exact Qz0 (i+1) (c2.set i dro.1) (wk [0,1,2] (tO rfl (ts State.lo) (tO rfl (Qb0 (c1 (cv (Qr0 lw) (cv (to 2 lnA) (cv (Qr0 lw) (cv (Qr0 lw) (cv (Qr0 lw) (c1 (c1 .nil))))))))) (tO rfl (tl eqA) .nil))) (sv (Q10 0 rfl rfl) (s1 (s1 (sv (Q10 1 rfl rfl) (sv (to 2 lnA) (s1 (sv (Qn0 (I_eq (wr omA)) lx) .nil)))))))) omA ⟨foll hR (congrArg (fun p:(List Job)=>QE5 s p) ((by subst hvdro;exact ct h19 rfl))),by exact omA,by first|((exact ⟨⟨z21,by show c2.length<=4294967296;omega,hx.1,z24,z25,z26,z27⟩,hx.2⟩))|first|((exact ⟨fun y hy=>(List.mem_or_eq_of_mem_set hy).elim (hx.1 y) (fun e=>e ▸ hdro),by rw [List.length_set];exact hx.2⟩))|first|((exact hx))|first|((exact ⟨z23,rfl⟩))|exact exA⟩
    ·exact Qz0 (i+1) c2 (wk [0,1,2] (tO rfl (ts State.lo) (tO rfl (Qb0 (c1 (cv (Qr0 lw) (cv (to 2 lnA) (cv (Qr0 lw) (cv (Qr0 lw) (cv (Qr0 lw) (c1 (c1 .nil))))))))) (tO rfl (tl eqA) .nil))) (sv (Q10 0 rfl rfl) (s1 (s1 (sv (Q10 1 rfl rfl) (sv (to 2 lnA) (s1 (sv (Qn0 (I_eq (wr omA)) lx) .nil)))))))) omA ⟨foll hR (congrArg (fun p:(List Job)=>QE5 s p) ((by subst hvdro;exact cf h20 rfl))),by exact omA,by first|((exact ⟨⟨z21,by show c2.length<=4294967296;omega,hx.1,z24,z25,z26,z27⟩,hx.2⟩))|first|((exact ⟨fun y hy=>(List.mem_or_eq_of_mem_set hy).elim (hx.1 y) (fun e=>e ▸ hdro),by rw [List.length_set];exact hx.2⟩))|first|((exact hx))|first|((exact ⟨z23,rfl⟩))|exact exA⟩
   ·rw [Qt0 (l:=s.jobs) (j:=i) (geA h13)] at hR;replace hR:QE5 s c2=R:=fo2 (fun p:(List Job)=>QE5 s p) (c2) hR rfl;exact QC0 { s with jobs:=c2 } (wk [0,1] (tO rfl (ts State.lo) (tO rfl (Qb0 (c1 (cv (Qr0 lw) (cv (turn_listL _ _ rfl (Nat.zero_le _) (by decide) eqA (fun _=>Job.lowc _ _) lnA) (cv (Qr0 lw) (cv (Qr0 lw) (cv (Qr0 lw) (c1 (c1 .nil))))))))) .nil)) (sv (Q10 0 rfl rfl) (s1 (s1 (sv (Q10 1 rfl rfl) .nil))))) (⟨foll hR rfl,by first|((exact ⟨⟨z21,by show c2.length<=4294967296;omega,hx.1,z24,z25,z26,z27⟩,hx.2⟩))|first|((exact ⟨fun y hy=>(List.mem_or_eq_of_mem_set hy).elim (hx.1 y) (fun e=>e ▸ hdro),by rw [List.length_set];exact hx.2⟩))|first|((exact hx))|first|((exact ⟨z23,rfl⟩))|exact exA⟩)
theorem Qj7:∀ (l:List Job) (i:Nat) (c:List Job),(∀ y ∈ c,y.sz)->(Qr1 l i c).length=c.length ∧ ∀ y ∈ Qr1 l i c,y.sz
 | [],_,_,h=>⟨rfl,h⟩
 | _ :: r,i,c,h=>by
  rw [Qr1]
  simp only
  cases ((Qj5 (c.getD i Job.zero)).2==0) with
  | true =>
   obtain ⟨a,b⟩:=Qj7 r (i+1) (c.set i (Qj5 (c.getD i Job.zero)).1) (fun y hy=>(List.mem_or_eq_of_mem_set hy).elim (h y) fun e=>e ▸ Q9e (Q70 h (Job.szz _)))
   exact ⟨by simpa using a,b⟩
  | false=>exact Qj7 r (i+1) c h
theorem plan_Anew_sz {s:State} (hz:s.sz):(QN1 s).1.length<=4294967296∧(∀ y ∈ (QN1 s).1,y.sz):=by
 have hz2:=hz.2.1
 unfold QN1
 cases ((Q81 s)!=0) with
 | true=>exact ⟨hz2,hz.2.2.1⟩
 | false =>
  obtain ⟨a,b⟩:=Qj7 s.jobs 0 s.jobs hz.2.2.1
  have hs:({ s with jobs:=Qr1 s.jobs 0 s.jobs }:State).sz:=⟨hz.1,by show (Qr1 s.jobs 0 s.jobs).length<=_;rw [a];exact hz2,b,hz.2.2.2⟩
  obtain ⟨p,q,_⟩:=QS6 hs
  exact ⟨by show (Qd0 { s with jobs:=Qr1 s.jobs 0 s.jobs }).1.length<=_;rw [p];exact hs.2.1,q⟩
end Go.Proofs.YtcbolcknapeneaaGreatDoor
namespace Go.Proofs.YtcbolcknapeneaaGreatDoor
set_option linter.unusedSimpArgs false
set_option linter.unusedVariables false
open Go.Fw
set_option maxRecDepth 20000
set_option maxHeartbeats 4000000
attribute [local irreducible] ACalls AMoves
def Qv3 :Bool:=((((((((((((((((Qd0 law21_two).1).length:Int)==2)&&((((Qd0 law21_two).1).getD 0 Job.zero).promise==5))&&((((Qd0 law21_two).1).getD 1 Job.zero).promise==27))&&((((Qd0 law21_two).2).length:Int)==2))&&((((QN1 law21_two).1).length:Int)==2))&&((((QN1 law21_two).1).getD 1 Job.zero).promise==27))&&((((QN1 law21_two).2).length:Int)==2))&&((QT5 law21_two (law21_two.jobs.getD 1 Job.zero) 100).1==0))&&((QT5 law21_two (law21_two.jobs.getD 1 Job.zero) 100).2.1==5))&&(QT5 law21_two (law21_two.jobs.getD 1 Job.zero) 100).2.2)&&(QP3 law21_two))&&((Q81 law21_two)==0))&&((Q81 State.zero)==141))
theorem two21_sz:law21_two.sz:=⟨by decide,by decide,fun y hy=>by rcases List.mem_cons.1 hy with rfl|hy;exact ⟨by decide,by decide,by decide,(by decide:(1:Nat)<=4294967296),by decide⟩;rw [List.mem_singleton.1 hy];exact ⟨by decide,by decide,by decide,(by decide:(1:Nat)<=4294967296),by decide⟩,by decide,by decide,by decide,fun _ h=>absurd h List.not_mem_nil⟩
theorem f21 {s:State} {P:Prop} (F:s.sz) (k:s.sz->s.nodes.length<=4294967296->s.jobs.length<=4294967296->(∀ y ∈ s.jobs,y.sz)->(Qd0 s).1.length<=4294967296->(∀ y ∈ (Qd0 s).1,y.sz)->(Qd0 s).2.length<=4294967296->(QN1 s).1.length<=4294967296->(∀ y ∈ (QN1 s).1,y.sz)->({ s with jobs:=(Qd0 s).1 }:State).sz->({ s with jobs:=(QN1 s).1 }:State).sz->P):P:=by
 have A:=QS6 F
 have B:=plan_Anew_sz F
 have F2:=F.2.1
 have a1:(Qd0 s).1.length<=4294967296:=by rw [A.1];exact F2
 have a2:(Qd0 s).2.length<=4294967296:=Nat.le_trans A.2.2 F2
 exact k F F.1 F.2.1 F.2.2.1 a1 A.2.1 a2 B.1 B.2 ⟨F.1,a1,A.2.1,F.2.2.2⟩ ⟨F.1,B.1,B.2,F.2.2.2⟩
theorem QP5 :∀ objs,AGives Tryz.prog 13 [] objs (Bo Qv3):=by
 generalize hR:Qv3=R;refine ga .nil lx (kp 8 []) Tryz.func13 ?_;refine us (Q96 _) ?_;refine us (QK4 law21_two (by first|(exact two21_sz)|first|((refine f21 two21_sz (fun a b c d e f g h i j k=>?_);with_reducible first|assumption|exact Q70 d (Job.szz _)|exact Q70 f (Job.szz _)|exact Q70 i (Job.szz _)))|first|((exact (Q70 two21_sz.2.2.1 (Job.szz _))))|exact szA) _) ?_;refine us (Q96 _) ?_;refine us (Qwa law21_two (by first|(exact two21_sz)|first|((refine f21 two21_sz (fun a b c d e f g h i j k=>?_);with_reducible first|assumption|exact Q70 d (Job.szz _)|exact Q70 f (Job.szz _)|exact Q70 i (Job.szz _)))|first|((exact (Q70 two21_sz.2.2.1 (Job.szz _))))|exact szA) _) ?_;refine us (Q96 _) ?_;refine us (Q96 _) ?_;refine ai gkA ?_;refine us (plan_One_c law21_two (law21_two.jobs.getD 1 Job.zero) 100 (by first|(exact two21_sz)|first|((refine f21 two21_sz (fun a b c d e f g h i j k=>?_);with_reducible first|assumption|exact Q70 d (Job.szz _)|exact Q70 f (Job.szz _)|exact Q70 i (Job.szz _)))|first|((exact (Q70 two21_sz.2.2.1 (Job.szz _))))|exact szA) (by first|(exact two21_sz)|first|((refine f21 two21_sz (fun a b c d e f g h i j k=>?_);with_reducible first|assumption|exact Q70 d (Job.szz _)|exact Q70 f (Job.szz _)|exact Q70 i (Job.szz _)))|first|((exact (Q70 two21_sz.2.2.1 (Job.szz _))))|exact szA) _) ?_;refine ai gkA ?_;refine ai gkA ?_;refine ai gkA ?_;(first|apply u2|apply u3|apply u4|apply us);exact Q96 _;(first|apply u2|apply u3|apply u4|apply us);exact QL4 law21_two (by first|(exact two21_sz)|first|((refine f21 two21_sz (fun a b c d e f g h i j k=>?_);with_reducible first|assumption|exact Q70 d (Job.szz _)|exact Q70 f (Job.szz _)|exact Q70 i (Job.szz _)))|first|((exact (Q70 two21_sz.2.2.1 (Job.szz _))))|exact szA) _;(first|apply u2|apply u3|apply u4|apply us);exact Q96 _;(first|apply u2|apply u3|apply u4|apply us);exact QV3 law21_two (by first|(exact two21_sz)|first|((refine f21 two21_sz (fun a b c d e f g h i j k=>?_);with_reducible first|assumption|exact Q70 d (Job.szz _)|exact Q70 f (Job.szz _)|exact Q70 i (Job.szz _)))|first|((exact (Q70 two21_sz.2.2.1 (Job.szz _))))|exact szA) _;(first|apply u2|apply u3|apply u4|apply us);exact AGives.as2 (QV3 State.zero (by first|(exact two21_sz)|first|((refine f21 two21_sz (fun a b c d e f g h i j k=>?_);with_reducible first|assumption|exact Q70 d (Job.szz _)|exact Q70 f (Job.szz _)|exact Q70 i (Job.szz _)))|first|((exact (Q70 two21_sz.2.2.1 (Job.szz _))))|exact szA) _) (av (as_agg (a1 (av (QKa) (av (QKa) (av (QKa) (av (QKa) (av (QKa) (a1 (a1 .nil))))))))) .nil);obtain rfl:=foll hR rfl;exact Q00 lx sr
end Go.Proofs.YtcbolcknapeneaaGreatDoor
namespace Go.Proofs.YtcbolcknapeneaaGreatDoor
set_option linter.unusedSimpArgs false
set_option linter.unusedVariables false
open Go.Fw
theorem plan_awake:Qv3=true:=by kernel_rfl
end Go.Proofs.YtcbolcknapeneaaGreatDoor
namespace Go.Proofs.YtcbolcknapeneaaGreatDoor
set_option linter.unusedSimpArgs false
set_option linter.unusedVariables false
open Go.Fw
set_option maxRecDepth 20000
set_option maxHeartbeats 4000000
attribute [local irreducible] ACalls AMoves
end Go.Proofs.YtcbolcknapeneaaGreatDoor
namespace Go.Proofs.YtcbolcknapeneaaGreatDoor
set_option linter.unusedSimpArgs false
set_option linter.unusedVariables false
open Go.Fw
set_option maxRecDepth 20000
set_option maxHeartbeats 4000000
attribute [local irreducible] ACalls AMoves
end Go.Proofs.YtcbolcknapeneaaGreatDoor
namespace Go.Proofs.YtcbolcknapeneaaGreatDoor
set_option linter.unusedSimpArgs false
set_option linter.unusedVariables false
open Go.Fw
set_option maxRecDepth 20000
set_option maxHeartbeats 4000000
attribute [local irreducible] ACalls AMoves
attribute [local irreducible] DrawS
def QO5 (s:State):Bool:=bif ((!(QB6 s))||((Q81 s)!=0)) then Qv3 else bif (((QP3 s)&&(!(QP3 { s with jobs:=(Qd0 s).1 })))||(!(QP3 { s with jobs:=(QN1 s).1 }))) then false else ((((((Qd0 { s with jobs:=(QN1 s).1 }).1).length:Int)==(s.jobs.length:Int))&&((((Qd0 { s with jobs:=(QN1 s).1 }).2).length:Int)==0))&&Qv3)
theorem Q4c (s:State) (hs0:s.szM):∀ objs,AGives Tryz.prog 5 [State.a s] objs (Bo (QO5 s)):=by
 generalize hR:QO5 s=R;refine ga (.cons (State.low _ _) .nil) lx (kj [2000003] 8 [15,42]) Tryz.func5 ?_;have hk0:=hs0;obtain ⟨z7,z8,z9,z10,z11,z12,z13⟩:=hs0;refine us (Qee s (by first|((have q:=h2;simp at q;refine f21 (Q40 q.1) (fun a b c d e f g h i j k=>?_);with_reducible first|assumption|exact ⟨c,d⟩|exact ⟨e,f⟩|exact Q70 d (Job.szz _)|exact Q70 f (Job.szz _)|exact (f21 k (fun a b c d e f g h i j k=>by with_reducible assumption))))|first|((have q:=hg;simp at q;exact Q40 q))|exact szA) _) ?_;(first|apply u3g|apply u4g);exact fun hg=>QV3 s (by first|((have q:=h2;simp at q;refine f21 (Q40 q.1) (fun a b c d e f g h i j k=>?_);with_reducible first|assumption|exact ⟨c,d⟩|exact ⟨e,f⟩|exact Q70 d (Job.szz _)|exact Q70 f (Job.szz _)|exact (f21 k (fun a b c d e f g h i j k=>by with_reducible assumption))))|first|((have q:=hg;simp at q;exact Q40 q))|exact szA) _;refine ai (fun h1=>?_) (fun h2=>?_)
 ·refine us (QP5 _) ?_;obtain rfl:=foll hR (ct h1 rfl);exact Q00 lx sr
 ·refine cdraw_two 2 (by kernel_rfl) ?_ ?_
  ·refine dchk (by kernel_rfl) ?_;(repeat ((first|refine ai rfl ?_|refine ai (fun _=>rfl) ?_)));refine us (QK4 s (by first|((have q:=h2;simp at q;refine f21 (Q40 q.1) (fun a b c d e f g h i j k=>?_);with_reducible first|assumption|exact ⟨c,d⟩|exact ⟨e,f⟩|exact Q70 d (Job.szz _)|exact Q70 f (Job.szz _)|exact (f21 k (fun a b c d e f g h i j k=>by with_reducible assumption))))|first|((have q:=hg;simp at q;exact Q40 q))|exact szA) _) ?_;refine us (Qwa s (by first|((have q:=h2;simp at q;refine f21 (Q40 q.1) (fun a b c d e f g h i j k=>?_);with_reducible first|assumption|exact ⟨c,d⟩|exact ⟨e,f⟩|exact Q70 d (Job.szz _)|exact Q70 f (Job.szz _)|exact (f21 k (fun a b c d e f g h i j k=>by with_reducible assumption))))|first|((have q:=hg;simp at q;exact Q40 q))|exact szA) _) ?_;refine us (QL4 s (by first|((have q:=h2;simp at q;refine f21 (Q40 q.1) (fun a b c d e f g h i j k=>?_);with_reducible first|assumption|exact ⟨c,d⟩|exact ⟨e,f⟩|exact Q70 d (Job.szz _)|exact Q70 f (Job.szz _)|exact (f21 k (fun a b c d e f g h i j k=>by with_reducible assumption))))|first|((have q:=hg;simp at q;exact Q40 q))|exact szA) _) ?_;(first|apply u3g|apply u4g);exact fun hg=>QL4 { s with jobs:=(Qd0 s).1 } (by first|((have q:=h2;simp at q;refine f21 (Q40 q.1) (fun a b c d e f g h i j k=>?_);with_reducible first|assumption|exact ⟨c,d⟩|exact ⟨e,f⟩|exact Q70 d (Job.szz _)|exact Q70 f (Job.szz _)|exact (f21 k (fun a b c d e f g h i j k=>by with_reducible assumption))))|first|((have q:=hg;simp at q;exact Q40 q))|exact szA) _;(first|apply u3g|apply u4g);exact fun hg=>QL4 { s with jobs:=(QN1 s).1 } (by first|((have q:=h2;simp at q;refine f21 (Q40 q.1) (fun a b c d e f g h i j k=>?_);with_reducible first|assumption|exact ⟨c,d⟩|exact ⟨e,f⟩|exact Q70 d (Job.szz _)|exact Q70 f (Job.szz _)|exact (f21 k (fun a b c d e f g h i j k=>by with_reducible assumption))))|first|((have q:=hg;simp at q;exact Q40 q))|exact szA) _;refine ai (fun h3=>?_) (fun h4=>?_)
   ·obtain rfl:=foll hR (cf h2 (ct h3 rfl));exact Q00 lx sr
   ·refine us (QK4 { s with jobs:=(QN1 s).1 } (by first|((have q:=h2;simp at q;refine f21 (Q40 q.1) (fun a b c d e f g h i j k=>?_);with_reducible first|assumption|exact ⟨c,d⟩|exact ⟨e,f⟩|exact Q70 d (Job.szz _)|exact Q70 f (Job.szz _)|exact (f21 k (fun a b c d e f g h i j k=>by with_reducible assumption))))|first|((have q:=hg;simp at q;exact Q40 q))|exact szA) _) ?_;(first|apply u3g|apply u4g);exact fun hg=>QP5 _;obtain rfl:=foll hR (cf h2 (cf h4 rfl));exact Q00 lx sr
  ·refine dchk (by kernel_rfl) ?_;(repeat ((first|refine ai rfl ?_|refine ai (fun _=>rfl) ?_)));refine us (QK4 s (by first|((have q:=h2;simp at q;refine f21 (Q40 q.1) (fun a b c d e f g h i j k=>?_);with_reducible first|assumption|exact ⟨c,d⟩|exact ⟨e,f⟩|exact Q70 d (Job.szz _)|exact Q70 f (Job.szz _)|exact (f21 k (fun a b c d e f g h i j k=>by with_reducible assumption))))|first|((have q:=hg;simp at q;exact Q40 q))|exact szA) _) ?_;refine us (Qwa s (by first|((have q:=h2;simp at q;refine f21 (Q40 q.1) (fun a b c d e f g h i j k=>?_);with_reducible first|assumption|exact ⟨c,d⟩|exact ⟨e,f⟩|exact Q70 d (Job.szz _)|exact Q70 f (Job.szz _)|exact (f21 k (fun a b c d e f g h i j k=>by with_reducible assumption))))|first|((have q:=hg;simp at q;exact Q40 q))|exact szA) _) ?_;refine us (QL4 s (by first|((have q:=h2;simp at q;refine f21 (Q40 q.1) (fun a b c d e f g h i j k=>?_);with_reducible first|assumption|exact ⟨c,d⟩|exact ⟨e,f⟩|exact Q70 d (Job.szz _)|exact Q70 f (Job.szz _)|exact (f21 k (fun a b c d e f g h i j k=>by with_reducible assumption))))|first|((have q:=hg;simp at q;exact Q40 q))|exact szA) _) ?_;(first|apply u3g|apply u4g);exact fun hg=>QL4 { s with jobs:=(Qd0 s).1 } (by first|((have q:=h2;simp at q;refine f21 (Q40 q.1) (fun a b c d e f g h i j k=>?_);with_reducible first|assumption|exact ⟨c,d⟩|exact ⟨e,f⟩|exact Q70 d (Job.szz _)|exact Q70 f (Job.szz _)|exact (f21 k (fun a b c d e f g h i j k=>by with_reducible assumption))))|first|((have q:=hg;simp at q;exact Q40 q))|exact szA) _;(first|apply u3g|apply u4g);exact fun hg=>QL4 { s with jobs:=(QN1 s).1 } (by first|((have q:=h2;simp at q;refine f21 (Q40 q.1) (fun a b c d e f g h i j k=>?_);with_reducible first|assumption|exact ⟨c,d⟩|exact ⟨e,f⟩|exact Q70 d (Job.szz _)|exact Q70 f (Job.szz _)|exact (f21 k (fun a b c d e f g h i j k=>by with_reducible assumption))))|first|((have q:=hg;simp at q;exact Q40 q))|exact szA) _;refine ai (fun h5=>?_) (fun h6=>?_)
   ·obtain rfl:=foll hR (cf h2 (ct h5 rfl));exact Q00 lx sr
   ·refine us (QK4 { s with jobs:=(QN1 s).1 } (by first|((have q:=h2;simp at q;refine f21 (Q40 q.1) (fun a b c d e f g h i j k=>?_);with_reducible first|assumption|exact ⟨c,d⟩|exact ⟨e,f⟩|exact Q70 d (Job.szz _)|exact Q70 f (Job.szz _)|exact (f21 k (fun a b c d e f g h i j k=>by with_reducible assumption))))|first|((have q:=hg;simp at q;exact Q40 q))|exact szA) _) ?_;(first|apply u3g|apply u4g);exact fun hg=>QP5 _;obtain rfl:=foll hR (cf h2 (cf h6 rfl));exact Q00 lx sr
end Go.Proofs.YtcbolcknapeneaaGreatDoor
namespace Go.Proofs.YtcbolcknapeneaaGreatDoor
set_option linter.unusedSimpArgs false
set_option linter.unusedVariables false
open Go.Fw
theorem Q0c {s:State} (hs:Well s) (hc:Q81 s=0):∃ c ids,Qd0 s=(c.jobs,ids)∧Given s c ids∧Well c∧c={ s with jobs:=c.jobs }∧(∀ x ∈ ids,x ∈ (Qb1 s).map (·.id)) ∧
  (∀ j ∈ Qb1 s,j.id ∉ ids -> ∃ c1:State,Well c1∧c1.now=s.now∧(∀ u,Qd3 c [] u<=Qd3 c1 [] u)∧(Qq1 (Q91 c1 []) (Q50 j.shape) s.now 1000000 12).2.2=false):=by
 obtain ⟨o1,o2,_⟩:=Qnb hs
 obtain ⟨c,ids,g1,g2,g3,g4,_,_,m3,g5⟩:=gives (Qb1 s) s [] .refl hs rfl o1 o2
 refine ⟨c,ids,?_,g1,g2,g3,fun x hx=>(g4 x hx).resolve_left List.not_mem_nil,m3⟩
 unfold Qd0
 rw [hc,g5]
 rfl
theorem Qpe {s:State} (hs:Well s) (x:Int):x ∈ QB0 s.jobs s.ledger (Q60 s.jobs) ↔ x ∈ Q60 s.jobs:=by
 obtain ⟨_,hch,hpw,h15⟩:=hs.parts
 rw [(Qy6 hs.1.2.1 hs.2.1 s.ledger hs.1.2.2.2.2.2.1 _).1,(Qy6 hs.1.2.1 hs.2.1 s.ledger hs.1.2.2.2.2.2.1 _).2 h15]
 constructor
 ·intro h
  obtain ⟨y,hy,e⟩:=List.mem_map.1 h
  obtain ⟨_,hye⟩:=List.mem_filter.1 ((Qz7 s.ledger (Q60 s.jobs) s.jobs).mem_iff.1 hy)
  rw [← e]
  simpa using hye
 ·intro h
  have hx:=h
  rw [Qr5 hs.1.2.1 hs.2.1] at hx
  unfold Qu0 at hx
  rw [h15] at hx
  rcases Qv6 s.jobs s.jobs [] 0 x hx with q|⟨z,hz,ez,_⟩
  ·cases q
  ·refine List.mem_map.2 ⟨z,(Qz7 s.ledger (Q60 s.jobs) s.jobs).mem_iff.2 (List.mem_filter.2 ⟨hz,?_⟩),ez⟩
   rw [ez]
   simpa using h
theorem open_elig {s:State} (hs:Well s) {j:Job} (hj:j ∈ Qb1 s):j.id ∈ Q60 s.jobs:=by
 obtain ⟨h1,_⟩:=List.mem_filter.1 hj
 obtain ⟨x,hx,e⟩:=List.mem_map.1 h1
 have hx2:=hx
 rw [Qr5 hs.1.2.1 hs.2.1,(Qy6 hs.1.2.1 hs.2.1 s.ledger hs.1.2.2.2.2.2.1 _).1] at hx2
 obtain ⟨k,y,hk,ey,_⟩:=order_free hs x hx2
 have ht:Ql1 s.jobs=0:=(Q27 hs.room).2.2.1
 rw [← ey,Q26 ht hk] at e
 have e2:y=j:=e
 rw [← e2,ey]
 exact (Qpe hs x).1 hx
end Go.Proofs.YtcbolcknapeneaaGreatDoor
namespace Go.Proofs.YtcbolcknapeneaaGreatDoor
set_option linter.unusedSimpArgs false
set_option linter.unusedVariables false
open Go.Fw
def noP (j:Job):Job:={ j with promise:=0,choice:=0 }
theorem set_noP {l:List Job} {i:Nat} {p:Job} (h:∀ x,l[i]? = some x->noP x=noP p):(l.set i p).map noP=l.map noP:=by
 rw [List.map_set]
 refine List.ext_getElem? fun k=>?_
 rw [List.getElem?_set,List.getElem?_map]
 by_cases hk:i=k
 ·subst hk
  rw [if_pos rfl]
  by_cases hl:i<l.length
  ·rw [if_pos (by simpa using hl),List.getElem?_eq_getElem hl]
   simp only [Option.map_some]
   rw [h _ (List.getElem?_eq_getElem hl)]
  ·rw [if_neg (by simpa using hl),List.getElem?_eq_none (by omega)]
   rfl
 ·rw [if_neg hk]
theorem given_noP {s c:State} {ids:List Int} (h:Given s c ids):c.jobs.map noP=s.jobs.map noP:=by
 induction h with
 | refl=>rfl
 | step _ _ hk _ _ _ _ ih=>exact (set_noP fun x hx=>by rw [hk] at hx;rw [← Option.some.inj hx];rfl).trans ih
theorem at_noP (id:Int):∀ (l l':List Job) (i:Nat),l.map noP=l'.map noP->QC3 id l i=QC3 id l' i
 | [],[],_,_=>rfl
 | [],_ :: _,_,h=>by simp at h
 | _ :: _,[],_,h=>by simp at h
 | x :: r,y :: q,i,h=>by
  simp only [List.map_cons,List.cons.injEq] at h
  have e:x.id=y.id:=(congrArg Job.id h.1:(noP x).id=(noP y).id)
  rw [QC3,QC3,e,at_noP id r q (i+1) h.2]
theorem get_noP {l l':List Job} (h:l.map noP=l'.map noP) (k:Nat):noP (l.getD k Job.zero)=noP (l'.getD k Job.zero):=by
 have e:∀ q:List Job,noP (q.getD k Job.zero)=((q.map noP)[k]?).getD (noP Job.zero):=fun q=>by
  rw [List.getD_eq_getElem?_getD,List.getElem?_map]
  cases q[k]? <;> rfl
 rw [e,e,h]
theorem met_noP {l l':List Job} (h:l.map noP=l'.map noP) (d:Dep):Qm7 l d=Qm7 l' d:=by
 unfold Qm7
 have e:QK3 l d.job=QK3 l' d.job:=at_noP _ _ _ _ h
 have e2:=congrArg Job.state (get_noP h (Int.toNat (QK3 l d.job)))
 have e3:(l.getD (Int.toNat (QK3 l d.job)) Job.zero).state=(l'.getD (Int.toNat (QK3 l d.job)) Job.zero).state:=e2
 unfold Qic
 rw [e3,e]
theorem all_noP {l l':List Job} (h:l.map noP=l'.map noP):∀ (ds:List Dep) (i:Nat),QW3 l ds i=QW3 l' ds i
 | [],_=>rfl
 | d :: r,i=>by rw [QW3,QW3,met_noP h,all_noP h r (i+1)]
theorem elig_noP {l l':List Job} (h:l.map noP=l'.map noP):∀ (r q:List Job) (out:List Int) (i:Nat),r.map noP=q.map noP->(QU0 l r out i).1=(QU0 l' q out i).1
 | [],[],_,_,_=>rfl
 | [],_ :: _,_,_,e=>by simp at e
 | _ :: _,[],_,_,e=>by simp at e
 | x :: r,y :: q,out,i,e=>by
  simp only [List.map_cons,List.cons.injEq] at e
  have e1:x.id=y.id:=(congrArg Job.id e.1:(noP x).id=(noP y).id)
  have e2:x.state=y.state:=(congrArg Job.state e.1:(noP x).state=(noP y).state)
  have e3:x.held=y.held:=(congrArg Job.held e.1:(noP x).held=(noP y).held)
  have e4:x.after=y.after:=(congrArg Job.after e.1:(noP x).after=(noP y).after)
  have e5:QF6 l x=QF6 l' y:=by unfold QF6;rw [e4];exact all_noP h _ _
  rw [QU0,QU0,e1,e2,e3,e5]
  cases (((y.state==1)&&(!y.held))&&(QF6 l' y)) with
  | true=>exact elig_noP h r q _ _ e.2
  | false=>exact elig_noP h r q _ _ e.2
theorem eligible_noP {s c:State} (hs:Well s) (hc:Well c) (h:c.jobs.map noP=s.jobs.map noP):Q60 c.jobs=Q60 s.jobs:=by
 rw [Qr5 hs.1.2.1 hs.2.1,Qr5 hc.1.2.1 hc.2.1]
 unfold Qu0
 rw [hs.parts.2.2.2,hc.parts.2.2.2]
 exact elig_noP h _ _ _ _ h
theorem check_drop {j:Job} (hc:Qi0 j=0) (h1:j.state=1):Qi0 { j with promise:=-1,choice:=0 }=0:=by
 obtain ⟨_,h2,h3,h4⟩:=QCe hc h1
 unfold Qi0 at hc ⊢
 simp only [Qmd] at hc ⊢
 cases hq:(((((((Q44 (⟨1,0,j.name,j.user,j.account,j.shape,j.prio,true,0,false,j.after,0,0,0⟩:Cmd))!=0)||(decide (j.id<1)))||(decide (j.id > 99999)))||(!(QN0 j.born)))||(decide (j.used<0)))||(decide (j.used > 1000000000000))) with
 | true=>rw [hq] at hc;cases hc
 | false =>
  rw [hq] at hc
  simp only [cond_false] at hc ⊢
  cases hd:(j.after.any fun y=>decide (y.job >= j.id)) with
  | true=>rw [hd] at hc;cases hc
  | false =>
   simp only [cond_false]
   have:Q51 { j with promise:=-1,choice:=0 }=true:=by
    rw [Q51]
    simp only [h1,h2,h3,h4,beq_self_eq_true,cond_true,bne_self_eq_false,Bool.or_self,cond_false]
   rw [this]
   rfl
theorem drop_told {j:Job} (hu:U64 j.nodes) (hc:Qi0 j=0):(j.state=1∧Qj5 j=({ j with promise:=-1,choice:=0 },0))∨(j.state ≠ 1∧((Qj5 j).2==0)=false):=by
 unfold Qj5
 rw [Q9b j hu,hc]
 by_cases h:j.state=1
 ·exact .inl ⟨h,by rw [h];rfl⟩
 ·exact .inr ⟨h,by rw [beq_eq_false_iff_ne.2 h];rfl⟩
theorem bare_go {s:State}:∀ (l:List Job) (i:Nat) (c:List Job),Well { s with jobs:=c }->i+l.length=c.length->(∀ (k:Nat) (x:Job),k<i->c[k]? = some x->x.state=1->x.promise = -1) ->
  Well { s with jobs:=Qr1 l i c }∧(Qr1 l i c).length=c.length∧(∀ y ∈ Qr1 l i c,y.state=1->y.promise = -1)
 | [],i,c,hw,hl,h=>by
  rw [Qr1]
  refine ⟨hw,rfl,fun y hy=>?_⟩
  obtain ⟨k,hk⟩:=List.getElem?_of_mem hy
  exact h k y (by have:=(List.getElem?_eq_some_iff.1 hk).1;simp at hl;omega) hk
 | _ :: r,i,c,hw,hl,h=>by
  simp only [List.length_cons] at hl
  have hi:i<c.length:=by omega
  have hk:c[i]? = some (c.getD i Job.zero):=by rw [List.getD_eq_getElem?_getD,List.getElem?_eq_getElem hi];rfl
  rw [Qr1]
  simp only
  generalize c.getD i Job.zero=j at hk ⊢
  have hm:j ∈ c:=List.mem_of_getElem? hk
  have hj:=hw.parts.2.1 j hm
  have hu:=hw.2.1 j hm
  rcases drop_told hu hj with ⟨h1,e⟩|⟨h1,e⟩
  ·rw [e]
   have hw2:Well { s with jobs:=c.set i { j with promise:=-1,choice:=0 } }:=hw.set (p:={ j with promise:=-1,choice:=0 }) hk rfl (check_drop hj h1) (hw.1.2.2.1 j hm) hu
   obtain ⟨g1,g2,g3⟩:=bare_go r (i+1) (c.set i { j with promise:=-1,choice:=0 }) hw2 (by rw [List.length_set];omega) (fun k x hx hx2=>by
    rw [QN8 hk] at hx2
    split at hx2
    ·rw [← Option.some.inj hx2];exact fun _=>rfl
    ·rename_i hne
     exact h k x (by omega) hx2)
   exact ⟨g1,g2.trans (by rw [List.length_set]),g3⟩
  ·rw [e]
   exact bare_go r (i+1) c hw (by omega) (fun k x hx hx2=>by
    by_cases hki:k=i
    ·subst hki
     rw [hk] at hx2
     rw [← Option.some.inj hx2]
     exact fun q=>absurd q h1
    ·exact h k x (by omega) hx2)
theorem plan_ok {c:State} (hw:Well c) (hl:Qe2 c.ledger=0):Q81 c=0:=by
 unfold Q81
 rw [hw.room,hl]
 rfl
theorem planSound_true {s:State} (hu:∀ x ∈ s.jobs,U64 x.nodes) (ha:Qv3=true):QO5 s=true:=by
 unfold QO5
 rw [ha]
 cases h:((!(QB6 s))||((Q81 s)!=0)) with
 | true=>rfl
 | false =>
  simp at h
  have hz:=Q40 h.1
  obtain ⟨hs,hl⟩:=Qze hz hu h.2
  obtain ⟨c,ids,he,g1,g2,g3,_,_⟩:=Q0c hs h.2
  obtain ⟨w1,w2,w3⟩:=bare_go s.jobs 0 s.jobs hs (by simp) (fun k x hk=>absurd hk (by omega))
  generalize hb:Qr1 s.jobs 0 s.jobs=bj at w1 w2 w3
  have hbc:Q81 { s with jobs:=bj }=0:=plan_ok w1 hl
  obtain ⟨d,jds,he2,d1,d2,d3,_,d5⟩:=Q0c w1 hbc
  have ea:(QN1 s).1=d.jobs:=by
   unfold QN1
   rw [h.2,hb]
   show (QB7 s { s with jobs:=bj }).1=d.jobs
   unfold QB7 QJ4
   rw [he2]
  have ec:({ s with jobs:=c.jobs }:State)=c:=g3.symm
  have ed:({ s with jobs:=d.jobs }:State)=d:=d3.symm
  have cl:Qe2 c.ledger=0:=by rw [g3];exact hl
  have dl:Qe2 d.ledger=0:=by rw [d3];exact hl
  have kd:Keeps d:=keep_given d1 (keeps_bare w3)
  have hdn:d.now=s.now:=by rw [d3]
  have hlen:d.jobs.length=s.jobs.length:=by rw [(Q1c w1 d1).2.2.1];exact w2
  have hagain:Qd0 d=(d.jobs,[]):=by
   unfold Qd0
   rw [plan_ok d2 dl]
   simp only [bne_self_eq_false,cond_false]
   rw [fold_none d2 [] (Qb1 d) fun j hj=>?_]
   obtain ⟨k,hk,q1,q2,q3⟩:=(Qnb d2).2.1 j hj
   have hkb:k<bj.length:=by have:=(List.getElem?_eq_some_iff.1 hk).1;omega
   obtain ⟨j',hj',ej,hor⟩:=(Q1c w1 d1).2.2.2 k _ (List.getElem?_eq_getElem hkb)
   have e1:j'=j:=by rw [hk] at hj';exact (Option.some.inj hj').symm
   rw [e1] at hor ej
   rcases hor with ⟨r1,r2⟩|⟨_,_,_,_,_,r6,_⟩
   ·have hjb:j ∈ bj:=by rw [r2];exact List.getElem_mem hkb
    have hjo:j ∈ Qb1 { s with jobs:=bj }:=(Qnb w1).2.2 j hjb q3 (by
     rw [← (Qy6 w1.1.2.1 w1.2.1 s.ledger w1.1.2.2.2.2.2.1 _).1,← Qr5 w1.1.2.1 w1.2.1]
     refine (Qpe w1 _).2 ?_
     rw [← eligible_noP w1 d2 (given_noP d1)]
     exact open_elig d2 hj)
    obtain ⟨c1,x1,x2,x3,x4⟩:=d5 j hjo (by rw [r2];exact r1)
    exact none_later0 d2 x1 x3 (by rw [hdn];exact x4)
   ·omega
  rw [he,ea]
  simp only
  rw [ec,ed,hagain,(QUe d2 dl).2 kd,hlen]
  have h1:(QP3 s&&(!(QP3 c)))=false:=by
   cases hq:QP3 s with
   | false=>rfl
   | true=>rw [(QUe g2 cl).2 (keep_given g1 ((QUe hs hl).1 hq))];rfl
  rw [h1]
  simp
end Go.Proofs.YtcbolcknapeneaaGreatDoor
namespace Go.Fw
set_option linter.unusedSimpArgs false
set_option linter.unusedVariables false
open Go.RowKit Go.ChangeShapes Go.WideShapes Go.Deep
theorem Qa9 {C:Checked} {os:Os} {f:FuncId} {fn:Func} {s:ChangeSpec} {laid0:List (String × DataW Unit)} {conds:List PathCond} {apart fresh handsOn again:Bool} {H:Type} {enc:TypeId × Value->H} {Q:List AVal->Prop} {tb:TypeId}
  (own:ownKnob C.prog.godebug=none) (started:os.Started) (noInit:C.prog.inits.idxOf? f=none) (hfn:C.prog.funcs[f]? = some fn)
  (witness:∃ (w:World) (tape:Tape) (i:Input),w.os=os∧(w.forCall tape i).Shaped C.prog∧i.vars=[]∧Input.okWide C.prog (w.forCall tape i) .any w.heap.size f i ∧
   ((s.pre enc C.prog fn conds apart (w.forCall tape i).memory i.args∧laidMetH C.prog laid0 (w.forCall tape i).memory)∧sizedMet enc C.prog fn (OpenSpec.ofChange s) apart (w.forCall tape i).memory i.args)∧({}:Assume).holds C.prog (lone (Frame.enter C.prog f i.args .normal) [] (w.forCall tape i)))
  (hvars:s.vars=[]) (hres:fn.resultTypes = #[tb]) (hbool:C.prog.underlying tb=some .bool) (laid:laidOutB C.prog=true)
  (hts:fn.params.toList.all (fun t=>C.prog.readableRec t&&decide (t<C.prog.types.size))=true)
  (hspec:∀ ds:List (DataW H),ds.length=fn.params.size->s.fn H ds={ results:=[.lit (.bool true)],args:=ds })
  (hargs:ArgsAs C.prog fn.params.toList Q) (hlaw:∀ l,Q l->AGives C.prog f l [] (.lit (.bool true))) :
  ReturnsInHanded {} C os f .any (fun w args=>(s.pre enc C.prog fn conds apart w args∧laidMetH C.prog laid0 w)∧sizedMet enc C.prog fn (OpenSpec.ofChange s) apart w args) (s.post enc C.prog fn apart fresh handsOn again):=by
 refine returnsInHanded_of_change_and (X:=fun w _=>laidMetH C.prog laid0 w) (fun _ _ _ hh h=>h.of_heap hh) own started noInit hfn witness ?_
 intro W base args ds gs before hval hW hcnd _ _ _
 have hW':=hW
 obtain ⟨p,q,hA,hV,hpq,hfz,hnd⟩:=hW
 rw [hvars] at hV
 obtain ⟨rfl,rfl⟩:=trodVars_none hV
 rw [List.append_nil] at hpq
 subst hpq
 obtain ⟨l,hQ,hreps⟩:=hargs.read (base:=base) (vs:=args.toList) (fun j t v hj hv=>hval j t v (by simpa using hj) (by simpa using hv)) hA
 have hc:=law_calls (hlaw l hQ) hreps
 rw [show args.toList.toArray=args by simp] at hc
 refine hc.mono fun e W' ⟨he,hb⟩=>?_
 subst he
 have hlen:ds.length=fn.params.size:=by
  have:∀ {ts:List TypeId} {vs:List Value} {ds:List (DataW H)} {ps:List MemPlace},DataW.TrodAll enc C.prog W 0 (fun _=>true) true ts vs ds ps->ds.length=ts.length:=by
   intro ts
   induction ts with
   | nil=>intro vs ds ps h;obtain ⟨rfl,rfl,rfl⟩:=trodAll_nil h;rfl
   | cons t ts ih=>intro vs ds ps h;obtain ⟨v,vs',d,ds',p,q,rfl,rfl,rfl,hd,hrest⟩:=trodAll_cons h;simp [ih hrest]
  simpa using this hA
 have hfn2:=hspec ds hlen
 have hold:∀ p ∈ before,p.block<W.heap.size:=fun p hp=>by simpa using hW'.lt p hp
 have hR:∀ (b:Nat) (sp:Nat->Bool) (hd:Bool),DataW.TrodAll enc C.prog W' b sp hd fn.resultTypes.toList ((Value.bool true).resultList fn.resultTypes.size) (s.fn H (ds++[])).results []:=by
  intro b sp hd
  rw [List.append_nil,hfn2,hres]
  exact trodAll_cons_mk (shut_bool hbool _) trodAll_mk0
 have hAr:∀ sp:Nat->Bool,(∀ p ∈ before,sp p.block=true)->DataW.TrodAll enc C.prog W' 0 sp true fn.params.toList args.toList (s.fn H (ds++[])).args before:=by
  intro sp hsp
  rw [List.append_nil,hfn2]
  exact QKb laid hb hts hA hold hsp
 have hVr:∀ sp:Nat->Bool,DataW.TrodVars enc C.prog W' sp s.vars (s.fn H (ds++[])).vars []:=by
  intro sp
  rw [List.append_nil,hfn2,hvars]
  rfl
 refine ⟨_,rfl,ds,[],before,[],before,[],hW',hR _ _ _,hAr _ (fun p hp=>by simpa using hold p hp),hVr _,hb.frame _,fun _=>⟨ok_one hres rfl (okWide_bool_mk hbool _),_,_,([]++before)++[],⟨[]++before,[],trodAll_append (hAr _ (fun _ _=>rfl)) (hR _ _ _),hVr _,rfl,?_,?_⟩,?_⟩⟩
 ·intro b off hp
  have hp:MemPlace.cell b off ∈ before:=by simpa using hp
  rw [hb.frozen (p:=⟨b,off,none⟩) (hold _ hp)]
  exact hfz b off (by simpa using hp)
 ·intro ha
  simpa using hnd ha
 ·intro p hp _
  simpa using hp
end Go.Fw
namespace Go.Proofs.YtcbolcknapeneaaGreatDoor
set_option linter.unusedSimpArgs false
set_option linter.unusedVariables false
open Go.Fw
set_option maxRecDepth 100000
theorem ty3:Tryz.prog.underlying 33 = some (.int .u64):=by kernel_rfl
theorem ty2:Tryz.prog.underlying 9 = some (.string):=by kernel_rfl
theorem ty1:Tryz.prog.underlying 4 = some (.bool):=by kernel_rfl
theorem ty0:Tryz.prog.underlying 3 = some (.int .i64):=by kernel_rfl
def Node.wf (x:Node):Prop:=(Lit.int .i64 x.state).wf=true∧(Lit.int .i64 x.job).wf=true∧(Lit.int .i64 x.epoch).wf=true∧True∧(Lit.int .i64 x.want).wf=true∧(Lit.int .i64 x.since).wf=true∧(Lit.int .i64 x.asked).wf=true∧True
theorem readNode:ReadAs Tryz.prog 72 Node.cells Node.wf:=by
 have h:=ReadAs.struct (P:=Tryz.prog) (t:=72) rfl (by kernel_rfl) (.cons rfl (ReadAs.int ty0) (.cons rfl (ReadAs.int ty0) (.cons rfl (ReadAs.int ty0) (.cons rfl (ReadAs.bool ty1) (.cons rfl (ReadAs.int ty0) (.cons rfl (ReadAs.int ty0) (.cons rfl (ReadAs.int ty0) .nil)))))))
 exact h.map (fun p=>(⟨p.1,p.2.1,p.2.2.1,p.2.2.2.1,p.2.2.2.2.1,p.2.2.2.2.2.1,p.2.2.2.2.2.2.1⟩:Node)) (fun _=>rfl) (fun _ h=>h)
theorem readNodes:ReadAs Tryz.prog 22 (fun l=>[nodeL l]) fun l=>l.length<=maxLen ∧ ∀ a ∈ l,Node.wf a :=
 ReadAs.slice Node.zero rfl (by kernel_rfl) (by decide) readNode (fun _=>rfl)
def Alt.wf (x:Alt):Prop:=(Lit.int .i64 x.nodes).wf=true∧(Lit.int .i64 x.wall).wf=true∧True
theorem readAlt:ReadAs Tryz.prog 179 Alt.cells Alt.wf:=by
 have h:=ReadAs.struct (P:=Tryz.prog) (t:=179) rfl (by kernel_rfl) (.cons rfl (ReadAs.int ty0) (.cons rfl (ReadAs.int ty0) .nil))
 exact h.map (fun p=>(⟨p.1,p.2.1⟩:Alt)) (fun _=>rfl) (fun _ h=>h)
theorem readAlts:ReadAs Tryz.prog 29 (fun l=>[altL l]) fun l=>l.length<=maxLen ∧ ∀ a ∈ l,Alt.wf a :=
 ReadAs.slice Alt.zero rfl (by kernel_rfl) (by decide) readAlt (fun _=>rfl)
def Shape.wf (x:Shape):Prop:=(Lit.int .i64 x.kind).wf=true∧(x.alts.length<=maxLen ∧ ∀ a ∈ x.alts,Alt.wf a)∧(Lit.int .i64 x.min).wf=true∧(Lit.int .i64 x.max).wf=true∧(Lit.int .i64 x.wall).wf=true∧True
theorem readShape:ReadAs Tryz.prog 31 Shape.cells Shape.wf:=by
 have h:=ReadAs.struct (P:=Tryz.prog) (t:=31) rfl (by kernel_rfl) (.cons rfl (ReadAs.int ty0) (.cons rfl (readAlts) (.cons rfl (ReadAs.int ty0) (.cons rfl (ReadAs.int ty0) (.cons rfl (ReadAs.int ty0) .nil)))))
 exact h.map (fun p=>(⟨p.1,p.2.1,p.2.2.1,p.2.2.2.1,p.2.2.2.2.1⟩:Shape)) (fun _=>rfl) (fun _ h=>h)
def Dep.wf (x:Dep):Prop:=(Lit.int .i64 x.how).wf=true∧(Lit.int .i64 x.job).wf=true∧True
theorem readDep:ReadAs Tryz.prog 111 Dep.cells Dep.wf:=by
 have h:=ReadAs.struct (P:=Tryz.prog) (t:=111) rfl (by kernel_rfl) (.cons rfl (ReadAs.int ty0) (.cons rfl (ReadAs.int ty0) .nil))
 exact h.map (fun p=>(⟨p.1,p.2.1⟩:Dep)) (fun _=>rfl) (fun _ h=>h)
theorem readDeps:ReadAs Tryz.prog 32 (fun l=>[depL l]) fun l=>l.length<=maxLen ∧ ∀ a ∈ l,Dep.wf a :=
 ReadAs.slice Dep.zero rfl (by kernel_rfl) (by decide) readDep (fun _=>rfl)
def Job.wf (x:Job):Prop:=(Lit.int .i64 x.id).wf=true∧x.name.size<=maxLen∧x.user.size<=maxLen∧x.account.size<=maxLen∧Shape.wf x.shape∧(Lit.int .i64 x.prio).wf=true∧(x.after.length<=maxLen ∧ ∀ a ∈ x.after,Dep.wf a)∧(Lit.int .i64 x.state).wf=true∧True∧(Lit.int .i64 x.born).wf=true∧(Lit.int .i64 x.promise).wf=true∧(Lit.int .i64 x.choice).wf=true∧(Lit.int .i64 x.start).wf=true∧(Lit.int .i64 x.limit).wf=true∧(Lit.int .u64 x.nodes).wf=true∧(Lit.int .i64 x.used).wf=true∧True
theorem readJob:ReadAs Tryz.prog 35 Job.cells Job.wf:=by
 have h:=ReadAs.struct (P:=Tryz.prog) (t:=35) rfl (by kernel_rfl) (.cons rfl (ReadAs.int ty0) (.cons rfl (ReadAs.string ty2) (.cons rfl (ReadAs.string ty2) (.cons rfl (ReadAs.string ty2) (.cons rfl (readShape) (.cons rfl (ReadAs.int ty0) (.cons rfl (readDeps) (.cons rfl (ReadAs.int ty0) (.cons rfl (ReadAs.bool ty1) (.cons rfl (ReadAs.int ty0) (.cons rfl (ReadAs.int ty0) (.cons rfl (ReadAs.int ty0) (.cons rfl (ReadAs.int ty0) (.cons rfl (ReadAs.int ty0) (.cons rfl (ReadAs.int ty3) (.cons rfl (ReadAs.int ty0) .nil))))))))))))))))
 exact h.map (fun p=>(⟨p.1,p.2.1,p.2.2.1,p.2.2.2.1,p.2.2.2.2.1,p.2.2.2.2.2.1,p.2.2.2.2.2.2.1,p.2.2.2.2.2.2.2.1,p.2.2.2.2.2.2.2.2.1,p.2.2.2.2.2.2.2.2.2.1,p.2.2.2.2.2.2.2.2.2.2.1,p.2.2.2.2.2.2.2.2.2.2.2.1,p.2.2.2.2.2.2.2.2.2.2.2.2.1,p.2.2.2.2.2.2.2.2.2.2.2.2.2.1,p.2.2.2.2.2.2.2.2.2.2.2.2.2.2.1,p.2.2.2.2.2.2.2.2.2.2.2.2.2.2.2.1⟩:Job)) (fun _=>rfl) (fun _ h=>h)
theorem readJobs:ReadAs Tryz.prog 23 (fun l=>[jobL l]) fun l=>l.length<=maxLen ∧ ∀ a ∈ l,Job.wf a :=
 ReadAs.slice Job.zero rfl (by kernel_rfl) (by decide) readJob (fun _=>rfl)
def Resize.wf (x:Resize):Prop:=(Lit.int .i64 x.job).wf=true∧True∧(Lit.int .u64 x.nodes).wf=true∧(Lit.int .u64 x.said).wf=true∧(Lit.int .i64 x.since).wf=true∧True
theorem readResize:ReadAs Tryz.prog 67 Resize.cells Resize.wf:=by
 have h:=ReadAs.struct (P:=Tryz.prog) (t:=67) rfl (by kernel_rfl) (.cons rfl (ReadAs.int ty0) (.cons rfl (ReadAs.bool ty1) (.cons rfl (ReadAs.int ty3) (.cons rfl (ReadAs.int ty3) (.cons rfl (ReadAs.int ty0) .nil)))))
 exact h.map (fun p=>(⟨p.1,p.2.1,p.2.2.1,p.2.2.2.1,p.2.2.2.2.1⟩:Resize)) (fun _=>rfl) (fun _ h=>h)
theorem readResizes:ReadAs Tryz.prog 24 (fun l=>[Qt2 l]) fun l=>l.length<=maxLen ∧ ∀ a ∈ l,Resize.wf a :=
 ReadAs.slice Resize.zero rfl (by kernel_rfl) (by decide) readResize (fun _=>rfl)
def Book.wf (x:Book):Prop:=(Lit.int .i64 x.id).wf=true∧(Lit.int .i64 x.from_).wf=true∧(Lit.int .i64 x.to).wf=true∧(Lit.int .i64 x.nodes).wf=true∧True
theorem readBook:ReadAs Tryz.prog 166 Book.cells Book.wf:=by
 have h:=ReadAs.struct (P:=Tryz.prog) (t:=166) rfl (by kernel_rfl) (.cons rfl (ReadAs.int ty0) (.cons rfl (ReadAs.int ty0) (.cons rfl (ReadAs.int ty0) (.cons rfl (ReadAs.int ty0) .nil))))
 exact h.map (fun p=>(⟨p.1,p.2.1,p.2.2.1,p.2.2.2.1⟩:Book)) (fun _=>rfl) (fun _ h=>h)
theorem readBooks:ReadAs Tryz.prog 25 (fun l=>[bookL l]) fun l=>l.length<=maxLen ∧ ∀ a ∈ l,Book.wf a :=
 ReadAs.slice Book.zero rfl (by kernel_rfl) (by decide) readBook (fun _=>rfl)
def Usage.wf (x:Usage):Prop:=x.user.size<=maxLen∧x.account.size<=maxLen∧(Lit.int .i64 x.used).wf=true∧(Lit.int .i64 x.share).wf=true∧True
theorem readUsage:ReadAs Tryz.prog 177 Usage.cells Usage.wf:=by
 have h:=ReadAs.struct (P:=Tryz.prog) (t:=177) rfl (by kernel_rfl) (.cons rfl (ReadAs.string ty2) (.cons rfl (ReadAs.string ty2) (.cons rfl (ReadAs.int ty0) (.cons rfl (ReadAs.int ty0) .nil))))
 exact h.map (fun p=>(⟨p.1,p.2.1,p.2.2.1,p.2.2.2.1⟩:Usage)) (fun _=>rfl) (fun _ h=>h)
theorem readUsages:ReadAs Tryz.prog 26 (fun l=>[Qo2 l]) fun l=>l.length<=maxLen ∧ ∀ a ∈ l,Usage.wf a :=
 ReadAs.slice Usage.zero rfl (by kernel_rfl) (by decide) readUsage (fun _=>rfl)
def State.wf (x:State):Prop:=(Lit.int .i64 x.now).wf=true∧(x.nodes.length<=maxLen ∧ ∀ a ∈ x.nodes,Node.wf a)∧(x.jobs.length<=maxLen ∧ ∀ a ∈ x.jobs,Job.wf a)∧(x.resizes.length<=maxLen ∧ ∀ a ∈ x.resizes,Resize.wf a)∧(x.books.length<=maxLen ∧ ∀ a ∈ x.books,Book.wf a)∧(x.ledger.length<=maxLen ∧ ∀ a ∈ x.ledger,Usage.wf a)∧(Lit.int .i64 x.nextJob).wf=true∧(Lit.int .i64 x.nextBook).wf=true∧True
theorem readState:ReadAs Tryz.prog 28 State.cells State.wf:=by
 have h:=ReadAs.struct (P:=Tryz.prog) (t:=28) rfl (by kernel_rfl) (.cons rfl (ReadAs.int ty0) (.cons rfl (readNodes) (.cons rfl (readJobs) (.cons rfl (readResizes) (.cons rfl (readBooks) (.cons rfl (readUsages) (.cons rfl (ReadAs.int ty0) (.cons rfl (ReadAs.int ty0) .nil))))))))
 exact h.map (fun p=>(⟨p.1,p.2.1,p.2.2.1,p.2.2.2.1,p.2.2.2.2.1,p.2.2.2.2.2.1,p.2.2.2.2.2.2.1,p.2.2.2.2.2.2.2.1⟩:State)) (fun _=>rfl) (fun _ h=>h)
end Go.Proofs.YtcbolcknapeneaaGreatDoor
namespace Go.Proofs.YtcbolcknapeneaaGreatDoor
set_option linter.unusedSimpArgs false
set_option linter.unusedVariables false
open Go.Fw
theorem Shape.wf_szM {x:Shape} (h:x.wf):x.szM:=h.2.1.1
theorem Job.wf_szM {x:Job} (h:x.wf):x.szM:=⟨h.2.1,h.2.2.1,h.2.2.2.1,Shape.wf_szM h.2.2.2.2.1,h.2.2.2.2.2.2.1.1⟩
theorem Usage.wf_szM {x:Usage} (h:x.wf):x.szM:=⟨h.1,h.2.1⟩
theorem State.wf_szM {x:State} (h:x.wf):x.szM :=
 ⟨h.2.1.1,h.2.2.1.1,fun y hy=>Job.wf_szM (h.2.2.1.2 y hy),h.2.2.2.1.1,h.2.2.2.2.1.1,h.2.2.2.2.2.1.1,fun y hy=>Usage.wf_szM (h.2.2.2.2.2.1.2 y hy)⟩
end Go.Proofs.YtcbolcknapeneaaGreatDoor
namespace Go.Proofs.YtcbolcknapeneaaGreatDoor
set_option linter.unusedSimpArgs false
set_option linter.unusedVariables false
open Go.Fw
theorem wf_u64 {n:Int} (h:(Lit.int .u64 n).wf=true):U64 n:=by
 unfold Lit.wf at h
 simp only [Bool.and_eq_true,decide_eq_true_eq] at h
 have e1:IntKind.u64.min=0:=by decide
 have e2:IntKind.u64.max=18446744073709551615:=by decide
 rw [e1,e2] at h
 unfold U64
 omega
theorem Job.wf_u64 {x:Job} (h:x.wf):U64 x.nodes:=by
 unfold Job.wf at h
 exact Go.Proofs.YtcbolcknapeneaaGreatDoor.wf_u64 h.2.2.2.2.2.2.2.2.2.2.2.2.2.2.1
end Go.Proofs.YtcbolcknapeneaaGreatDoor
