/-
  The program's search for room is the document's. Plain facts; conditions stand in each.
  One job's promise turned: what is left is as it was, less its new claim, with its old one given back. Plain facts; conditions stand in each.
  Who may start, and in which order: the program's answer is the document's. Conditions stand in each.
  One job's promise made earlier: what the program and the document do of it. Plain facts; conditions stand in each.
  The program's squeezing is the document's; both move promises one by one. Conditions stand in each.
  Which promises are due and which came later: the program's answers are the document's. Conditions stand in each.
  Squeezing never moves a promise to a later tick; a sound plan stays sound. Conditions stand in each.
  New promises: the iterator that gives the jobs that may be promised, in their order. Conditions stand in each.
  New promises: the program's loop over the jobs that may be promised, told as a fold. Conditions stand in each.
  New promises, one by one: each is taken from what is left (a draft for the Plan laws: plan.Fresh as a fold; its contract is not written yet). Conditions stand in each.
  New promises given in a row: the fold that plan.Fresh is. Conditions stand in each.
  What fits nowhere in more room fits nowhere in less (for the Plan laws). Conditions stand in each.
  What new promises change: those who are told, and no other (for the Plan laws). Conditions stand in each.
  The jobs to whom a promise may be given: each stands in the table, waits, is not held, has no promise; none twice (for the Plan laws). Conditions stand in each.
  What may be promised, and whether a plan is sound: the program's answers are the document's (One, Sound; wants a print that holds plan.One, musterref21.One, musterref21.Sound). Conditions stand in each.
  Contracts of functions, printed by a program of this repo (wip/dec). No condition beyond those that stand in each.
  The answers that the laws of planning ask of any program. No condition.
  What may be promised, and what new promises leave as it was: the laws PlanOne and PlanKept of any print. Conditions stand in each.
  The same for a row that lists package variables: from a law's contract to the row's statement: the arguments are read, the law is called, they read as they did. Program-independent.
  How arguments are read: structs of the program, with what is known of them. No condition.
  What is read is of a size that a machine holds. No condition.
  What is read as a word is one. No condition.
-/
import Derived.Test.YtcbolcknapeneaaGreatDoorHO1
import Derived.Test.YtcbolcknapeneaaGreatDoorH7
import Derived.Test.YtcbolcknapeneaaGreatDoorH8
import Derived.Test.YtcbolcknapeneaaGreatDoorH14
import Derived.Test.YtcbolcknapeneaaGreatDoorProg
import Derived.Test.YtcbolcknapeneaaGreatDoorH5
import Derived.LaidMore
import Derived.Stop.Joined
import Derived.JoinedOf
import Derived.Handed
import Derived.OpenShut
import Derived.KernelRfl
namespace Go.Proofs.YtcbolcknapeneaaGreatDoor
set_option linter.unusedSimpArgs false
set_option linter.unusedVariables false
open Go.Fw
theorem Qje (a b n:Int):∀ (l:List Step) (out:Int) (i:Nat),n<=(Qy2 a b l out i).1 ↔ n<=out ∧ ∀ x ∈ l,a<x.at_->x.at_<b->n<=x.free
 | [],out,i=>by simp [Qy2]
 | x :: r,out,i=>by
  rw [Qy2]
  cases hc:(((decide (x.at_ > a))&&(decide (x.at_<b)))&&(decide (x.free<out))) with
  | true =>
   simp only [Bool.and_eq_true,decide_eq_true_eq] at hc
   simp only [cond_true]
   rw [Qje a b n r x.free (i+1)]
   constructor
   ·rintro ⟨h1,h2⟩
    refine ⟨by omega,fun y hy=>?_⟩
    rcases List.mem_cons.1 hy with rfl|hy
    ·exact fun _ _=>h1
    ·exact h2 y hy
   ·rintro ⟨h1,h2⟩
    exact ⟨h2 x (List.mem_cons_self ..) (by omega) (by omega),fun y hy=>h2 y (List.mem_cons_of_mem _ hy)⟩
  | false =>
   simp only [cond_false]
   rw [Qje a b n r out (i+1)]
   constructor
   ·rintro ⟨h1,h2⟩
    refine ⟨h1,fun y hy=>?_⟩
    rcases List.mem_cons.1 hy with rfl|hy
    ·intro g1 g2
     simp only [Bool.and_eq_false_iff,decide_eq_false_iff_not] at hc
     omega
    ·exact h2 y hy
   ·rintro ⟨h1,h2⟩
    exact ⟨h1,fun y hy=>h2 y (List.mem_cons_of_mem _ hy)⟩
theorem Q2c {p:List Step} (hp:Cn p) {a b:Int} (n:Int) (h0:0<=a) (h1:a<=1000000) (hab:a<b):n<=Qf2 p a b ↔ ∀ u,a<=u->u<b->n<=pat p u:=by
 have hc:(((((QF0 p)!=0)||(decide (a<0)))||(decide (a > 1000000)))||(decide (b<=a)))=false:=by
  rw [(QZ5 p).2 hp]
  simp;omega
 unfold Qf2
 rw [hc]
 simp only [cond_false]
 unfold QN3
 rw [Qje,now_eq]
 exact least_fit hp.1 a b n h0 hab
theorem Cn.srt {p:List Step} (h:Cn p):Srt (-1) p:=by
 have hp:=h.1
 cases p with
 | nil=>exact hp.elim
 | cons x r=>exact ⟨by have:=hp.1;omega,by have:=hp.1;omega,hp.2.1⟩
theorem Srt.drop:∀ {p:List Step} {a:Int} (i:Nat),Srt a p -> ∃ c,a<=c∧Srt c (p.drop i)
 | [],a,i,_=>⟨a,Int.le_refl _,by simp [Srt]⟩
 | _ :: _,a,0,h=>⟨a,Int.le_refl _,h⟩
 | x :: r,a,i+1,h=>by
  obtain ⟨c,h1,h2⟩:=Srt.drop i h.2.2
  exact ⟨c,by have:=h.1;omega,h2⟩
theorem pleast_g1 {p:List Step} (hs:Srt (-1) p) (hl:p.length<=1000) (b n:Int):∀ (m i:Nat) (k:Int),p.length - i<m->i<=p.length->(n<=(QM2 p b m (i:Int) k).2 ↔ n<=k ∧ ∀ x ∈ p.drop i,x.at_<b->n<=x.free)
 | 0,_,_,h,_=>absurd h (by omega)
 | m+1,i,k,hm,hi=>by
  rw [QM2]
  rcases Nat.lt_or_ge i p.length with hlt|hge
  ·have hd:=Q90 Step.zero hlt
   obtain ⟨c,_,hc⟩:=Srt.drop i hs
   rw [hd] at hc
   have hw:w64 ((i:Int)+1)=((i+1:Nat):Int):=wr (by omega)
   rw [show decide ((i:Int)<(p.length:Int))=true from decide_eq_true (by omega),Bool.true_and,Int.toNat_natCast,hw,hd]
   cases hb:decide ((p.getD i Step.zero).at_<b) with
   | true =>
    have hb:=of_decide_eq_true hb
    simp only [cond_true]
    rw [pleast_g1 hs hl b n m (i+1) _ (by omega) (by omega)]
    constructor
    ·rintro ⟨h1,h2⟩
     refine ⟨by omega,fun y hy=>?_⟩
     rcases List.mem_cons.1 hy with rfl|hy
     ·intro _;omega
     ·exact h2 y hy
    ·rintro ⟨h1,h2⟩
     have:=h2 _ (List.mem_cons_self ..) hb
     exact ⟨by omega,fun y hy=>h2 y (List.mem_cons_of_mem _ hy)⟩
   | false =>
    have hb:=of_decide_eq_false hb
    simp only [cond_false]
    constructor
    ·intro h1
     refine ⟨h1,fun y hy hyb=>?_⟩
     rcases List.mem_cons.1 hy with rfl|hy
     ·exact absurd hyb hb
     ·have:=(Quc (f:=0) hc.2.2 y hy).1
      omega
    ·exact fun h=>h.1
  ·rw [show decide ((i:Int)<(p.length:Int))=false from decide_eq_false (by omega),Bool.false_and,List.drop_eq_nil_of_le hge]
   simp
theorem pleast_iff {p:List Step} (hp:Cn p) {a b:Int} (n:Int) (h0:0<=a) (h1:a<=1000000) (hab:a<b):n<=Qz0 p a b ↔ ∀ u,a<=u->u<b->n<=pat p u:=by
 have hc:((((Qu1 p)!=0)||(!(Qv2 a)))||(decide (b<=a)))=false:=by
  rw [QE7,(QZ5 p).2 hp]
  simp [Qv2];omega
 obtain ⟨k,hk,hkl,hka,hkn⟩:=place_spec hp h0
 have hl:=hp.2.1
 have hw:w64 ((k:Int)+1)=((k+1:Nat):Int):=wr (by omega)
 unfold Qz0
 rw [hc]
 simp only [cond_false]
 unfold Qs3
 rw [hk,hw,Int.toNat_natCast,pleast_g1 hp.srt hl b n _ _ _ (by omega) (by omega),← least_fit hp.1 a b n h0 hab]
 have hpa:pat p a=(p.getD k Step.zero).free:=by
  have hcan:=hp.1
  cases p with
  | nil=>exact hcan.elim
  | cons x r =>
   show pv 0 (x :: r) a=_
   exact pv_at k x r 0 (by simp at hkl;omega) hcan.2.1 hka (fun h=>hkn h)
 rw [hpa]
 refine and_congr Iff.rfl ?_
 obtain ⟨c,_,hcs⟩:=Srt.drop k hp.srt
 rw [Q90 Step.zero hkl] at hcs
 constructor
 ·intro h x hx ha hb
  have hx2:x ∈ p.take (k+1)++p.drop (k+1):=by rw [List.take_append_drop];exact hx
  rcases List.mem_append.1 hx2 with hx2|hx2
  ·obtain ⟨j,hj,e⟩:=List.getElem_of_mem hx2
   have hj':j<k+1:=by simp at hj;omega
   have hjp:j<p.length:=by omega
   have e2:p[j]=x:=by rw [← e,List.getElem_take]
   have hle:x.at_<=a:=by
    rcases Nat.lt_or_ge j k with hjk|hjk
    ·obtain ⟨c2,_,hs2⟩:=Srt.drop j hp.srt
     rw [Q90 Step.zero hjp] at hs2
     have hm:p.getD k Step.zero ∈ p.drop (j+1):=by
      have:p.getD k Step.zero=(p.drop (j+1))[k - (j+1)]'(by simp;omega):=by
       rw [List.getElem_drop,List.getD_eq_getElem?_getD,List.getElem?_eq_getElem hkl]
       simp only [Option.getD_some]
       congr 1
       omega
      rw [this]
      exact List.getElem_mem _
     have:=(Quc (f:=0) hs2.2.2 _ hm).1
     rw [List.getD_eq_getElem?_getD,List.getElem?_eq_getElem hjp,Option.getD_some,e2] at this
     omega
    ·have:j=k:=by omega
     subst this
     rw [List.getD_eq_getElem?_getD,List.getElem?_eq_getElem hjp,Option.getD_some,e2] at hka
     exact hka
   omega
  ·exact h x hx2 hb
 ·intro h x hx hb
  refine h x (List.mem_of_mem_drop hx) ?_ hb
  have hx':a<x.at_:=by
   rcases Nat.lt_or_ge (k+1) p.length with hlt|hge
   ·have hn:=hkn hlt
    rw [Q90 Step.zero hlt] at hx
    have hs3:=hcs.2.2
    rw [Q90 Step.zero hlt] at hs3
    rcases List.mem_cons.1 hx with rfl|hx
    ·exact hn
    ·have:=(Quc (f:=0) hs3.2.2 x hx).1
     omega
   ·rw [List.drop_eq_nil_of_le hge] at hx
    cases hx
  exact hx'
theorem least_eq {p:List Step} (hp:Cn p) {a b:Int} (h0:0<=a) (h1:a<=1000000) (hab:a<b):Qz0 p a b=Qf2 p a b :=
 Int.le_antisymm ((Q2c hp _ h0 h1 hab).2 ((pleast_iff hp _ h0 h1 hab).1 (Int.le_refl _))) ((pleast_iff hp _ h0 h1 hab).2 ((Q2c hp _ h0 h1 hab).1 (Int.le_refl _)))
theorem QJ9 (long n:Int):QW3 long n=true ↔ (1<=n∧n<=1000000)∧1<=long∧long<=1000000:=by
 simp [QW3,Qh7]
theorem rfits_iff {p:List Step} (hp:Cn p) {long n:Int} (ha:QW3 long n=true) {t:Int}:QI2 p t long n=true ↔ 0<=t∧t+long<=1000000∧Fit (pat p) long n t:=by
 obtain ⟨h1,h2⟩:=(QJ9 long n).1 ha
 have hw:w64 (1000000 - long)=1000000 - long:=wr (by omega)
 unfold QI2
 rw [(QZ5 p).2 hp,hw]
 cases hc:((((((((0:Int)!=0)||(decide (n<1)))||(decide (n > 1000000)))||(decide (long<1)))||(decide (long > 1000000)))||(decide (t<0)))||(decide (t > 1000000 - long))) with
 | true =>
  simp only [cond_true]
  constructor
  ·intro h;cases h
  ·rintro ⟨g1,g2,_⟩
   simp at hc
   omega
 | false =>
  simp at hc
  have hw2:w64 (t+long)=t+long:=wr (by omega)
  simp only [cond_false,decide_eq_true_eq,ge_iff_le]
  rw [hw2,Q2c hp n (by omega) (by omega) (by omega)]
  exact ⟨fun h=>⟨by omega,by omega,h⟩,fun h=>h.2.2⟩
theorem Q2d {p:List Step} {long n:Int} (h:QF0 p ≠ 0∨QW3 long n=false) (t:Int):QI2 p t long n=false:=by
 unfold QI2
 have:((((((((QF0 p)!=0)||(decide (n<1)))||(decide (n > 1000000)))||(decide (long<1)))||(decide (long > 1000000)))||(decide (t<0)))||(decide (t > (w64 (1000000 - long)))))=true:=by
  rcases h with h|h
  ·simp [h]
  ·have h':¬ ((1<=n∧n<=1000000)∧1<=long∧long<=1000000):=fun g=>by rw [(QJ9 long n).2 g] at h;cases h
   simp
   omega
 rw [this]
 rfl
theorem rear_g2 (p:List Step) (long n a:Int):∀ (l:List Step) (i:Nat),Q54 p long n a l i=QVa (fun t=>QI2 p t long n) a l
 | [],_=>rfl
 | x :: r,i=>by
  rw [Q54,QVa,rear_g2 p long n a r (i+1)]
theorem Qsd (p:List Step) (from_ long n:Int):QB2 p from_ long n=Qf1 p from_ long n:=by
 have hr:Qf1 p from_ long n=(bif QI2 p (max from_ 0) long n then (max from_ 0,true) else QVa (fun t=>QI2 p t long n) (max from_ 0) p):=by
  unfold Qf1 Qe5
  by_cases h:from_<0
  ·rw [decide_eq_true h,show max from_ 0=0 by omega,rear_g2]
   rfl
  ·rw [decide_eq_false h,show max from_ 0=from_ by omega]
   simp only [cond_false]
   rw [rear_g2]
 rw [hr]
 unfold QB2
 rw [QE7]
 by_cases hc:QF0 p=0
 ·have hp:=(QZ5 p).1 hc
  cases ha:QW3 long n with
  | false =>
   rw [Q2d (.inr ha),hc,Qv7 p fun y _ _=>Q2d (.inr ha) _]
   rfl
  | true =>
   obtain ⟨h1,h2⟩:=(QJ9 long n).1 ha
   have hw:w64 (1000000 - long)=1000000 - long:=wr (by omega)
   rw [hc]
   simp only [bne_self_eq_false,Bool.not_true,Bool.or_self,cond_false]
   unfold QU4
   rw [hw,List.drop_zero]
   by_cases hm:max from_ 0 > 1000000 - long
   ·rw [decide_eq_true hm]
    have hno:∀ t,max from_ 0<=t->QI2 p t long n=false:=by
     intro t ht
     cases hq:QI2 p t long n with
     | false=>rfl
     | true=>have:=(rfits_iff hp ha).1 hq;omega
    rw [hno _ (Int.le_refl _),Qv7 p fun y _ hy=>hno _ (by omega)]
    rfl
   ·rw [decide_eq_false hm]
    exact ear_first hp.1 (by omega) (by omega) (by omega) fun t ht=>(rfits_iff hp ha).trans ⟨fun h=>h.2,fun h=>⟨ht,h⟩⟩
 ·rw [Q2d (.inl hc),Qv7 (fit:=fun t=>QI2 p t long n) p fun y _ _=>Q2d (.inl hc) _,show (QF0 p != 0)=true by simpa using hc]
  rfl
theorem earliest_no (p:List Step) (from_:Int) {long n:Int} (h:QW3 long n=false):Qf1 p from_ long n=(0,false):=by
 rw [← Qsd]
 unfold QB2
 rw [h]
 simp
theorem best_g2 (p:List Step) (from_ latest:Int) (options:List Alt):∀ (l:List Alt) (choice start:Int) (found:Bool) (best end_:Int) (i m:Nat),(options.take 48).drop i=l->i<=48->i<=options.length->options.length - i<m ->
  (found=true->best=choice∧0<=choice∧choice<48∧end_=w64 (start+((options.take 48).getD (Int.toNat choice) Alt.zero).wall))->(found=false->best = -1∧choice=0∧start=0) ->
  Qg3 p from_ latest 12 (options.take 48) l choice start found i=(fun r:Int × Int × Int × Nat=>(bif decide (r.1<0) then ((0,0,false):Int × Int × Bool) else (r.1,r.2.1,true))) (Qm1 p options from_ latest 12 m best start end_ i)
 | l,choice,start,found,best,end_,i,0,_,_,_,hm,_,_=>absurd hm (by omega)
 | [],choice,start,found,best,end_,i,m+1,hl,hi,ho,hm,h1,h2=>by
  have he:((decide ((i:Int)<(options.length:Int)))&&(decide ((i:Int)<48)))=false:=by
   have:=congrArg List.length hl
   simp at this
   simp
   omega
  rw [Qm1,he]
  simp only [cond_false]
  cases found with
  | true =>
   obtain ⟨rfl,h3,_⟩:=h1 rfl
   rw [decide_eq_false (by omega)]
   rfl
  | false =>
   obtain ⟨rfl,rfl,rfl⟩:=h2 rfl
   rfl
 | x :: r,choice,start,found,best,end_,i,m+1,hl,hi,ho,hm,h1,h2=>by
  have hlen:=congrArg List.length hl
  simp at hlen
  have hx:options.getD i Alt.zero=x:=by
   have:=(Q75 Alt.zero hl).1
   rw [← this]
   simp only [List.getD_eq_getElem?_getD,List.getElem?_take]
   rw [if_pos (by omega)]
  have hxt:=(Q75 Alt.zero hl).1
  have hrr:=(Q75 Alt.zero hl).2
  have he:((decide ((i:Int)<(options.length:Int)))&&(decide ((i:Int)<48)))=true:=by
   simp
   omega
  rw [Qm1,he,hx,Qg3,Qsd]
  simp only [cond_true]
  rw [show max (12:Int) 0=12 by decide]
  have next:=fun choice start found best end_=>best_g2 p from_ latest options r choice start found best end_ (i+1) m hrr (by omega) (by omega) (by omega)
  cases hs:(((decide (x.wall<1))||(decide (x.wall > 1000000)))||(decide ((12:Int) > (w64 (1000000 - x.wall))))) with
  | true =>
   have:((!(QW3 x.wall x.nodes))||(decide ((12:Int) > (w64 (1000000 - x.wall)))))=true:=by
    cases ha:QW3 x.wall x.nodes with
    | false=>rfl
    | true =>
     have:=(QJ9 _ _).1 ha
     simp at hs ⊢
     omega
   rw [this]
   exact next choice start found best end_ h1 h2
  | false =>
   simp only [cond_false]
   cases ha:QW3 x.wall x.nodes with
   | false =>
    have hno:QW3 (w64 (x.wall+12)) x.nodes=false:=by
     have hw:¬ ((1<=x.nodes∧x.nodes<=1000000)∧1<=x.wall∧x.wall<=1000000):=fun g=>by rw [(QJ9 _ _).2 g] at ha;cases ha
     simp at hs
     cases hq:QW3 (w64 (x.wall+12)) x.nodes with
     | false=>rfl
     | true =>
      have:=(QJ9 _ _).1 hq
      omega
    rw [earliest_no p from_ hno]
    exact next choice start found best end_ h1 h2
   | true =>
    have hg:(decide ((12:Int) > (w64 (1000000 - x.wall))))=false:=by simp at hs ⊢;omega
    rw [hg]
    simp only [Bool.not_true,Bool.or_self,cond_false]
    generalize Qf1 p from_ (w64 (x.wall+12)) x.nodes=E
    cases hE:(E.2&&decide (E.1<=latest)) with
    | false =>
     simp only [Bool.not_false,Bool.true_or,cond_true,Bool.false_and,cond_false]
     exact next choice start found best end_ h1 h2
    | true =>
     simp only [Bool.not_true,Bool.false_or,Bool.true_and]
     have hup:=next (i:Int) E.1 true (i:Int) (w64 (E.1+x.wall)) (fun _=>⟨rfl,by omega,by omega,by rw [Int.toNat_natCast,hxt]⟩) (fun h=>by cases h)
     cases found with
     | false =>
      obtain ⟨rfl,rfl,rfl⟩:=h2 rfl
      exact hup
     | true =>
      obtain ⟨rfl,h3,h4,h5⟩:=h1 rfl
      rw [← h5,decide_eq_false (show ¬ best<0 by omega)]
      simp only [Bool.true_and,Bool.false_or]
      by_cases hlt:w64 (E.1+x.wall)<end_
      ·rw [decide_eq_true hlt,decide_eq_false (show ¬ w64 (E.1+x.wall) >= end_ by omega)]
       exact hup
      ·rw [decide_eq_false hlt,decide_eq_true (show w64 (E.1+x.wall) >= end_ by omega)]
       exact next best start true best end_ h1 h2
theorem best_eq (p:List Step) (options:List Alt) (from_ latest:Int):Ql3 p options from_ latest 12=QJ4 p options from_ latest 12:=by
 have h1:Ql3 p options from_ latest 12=Qw7 p from_ latest 12 (options.take 48):=by
  unfold Ql3
  by_cases h:(options.length:Int) > 48
  ·rw [decide_eq_true h];rfl
  ·rw [decide_eq_false h,List.take_of_length_le (by omega)];rfl
 rw [h1]
 have hg:=best_g2 p from_ latest options (options.take 48) 0 0 false (-1) 0 0 (Int.toNat ((options.length:Int) - (0:Int))+1) rfl (by omega) (by omega) (by omega) (fun h=>by cases h) (fun _=>⟨rfl,rfl,rfl⟩)
 unfold Qw7 QT4
 rw [hg]
 unfold QJ4
 rw [show decide ((12:Int)<0)=false from rfl]
 simp only [cond_false]
 unfold Qc7 QE3
 generalize Qm1 p options from_ latest 12 (Int.toNat ((options.length:Int) - (0:Int))+1) (-1) 0 0 0=r
 cases decide (r.1<0) <;> rfl
end Go.Proofs.YtcbolcknapeneaaGreatDoor
namespace Go.Proofs.YtcbolcknapeneaaGreatDoor
set_option linter.unusedSimpArgs false
set_option linter.unusedVariables false
open Go.Fw
theorem left_bd {s:State} (hs:s.sz) (hn:∀ x ∈ s.jobs,U64 x.nodes) (hc:Qv1 s=0) (ex:List Int):Bd (leftAt s ex) 1000000:=by
 obtain ⟨f1,f2,f3,f4,f5,f6⟩:=room_facts hs hn hc
 intro t a b
 have b1:=freeAt_bd s f6 t a b
 have b2:=bkAt_bd t s.books f1
 have b3:=clsAt_bd ex t s.jobs f3
 unfold leftAt
 omega
end Go.Proofs.YtcbolcknapeneaaGreatDoor
namespace Go.Proofs.YtcbolcknapeneaaGreatDoor
set_option linter.unusedSimpArgs false
set_option linter.unusedVariables false
open Go.Fw
end Go.Proofs.YtcbolcknapeneaaGreatDoor
namespace Go.Proofs.YtcbolcknapeneaaGreatDoor
set_option linter.unusedSimpArgs false
set_option linter.unusedVariables false
open Go.Fw
theorem claim_of {j:Job} (hu:U64 j.nodes) (hc:Q51 j=0) (h1:j.state=1) (hp:j.promise ≠ -1) :
  Q30 j=(j.promise,((Q50 j.shape).getD (Int.toNat j.choice) Alt.zero).wall+12,((Q50 j.shape).getD (Int.toNat j.choice) Alt.zero).nodes,true)∧Q20 j=Q30 j:=by
 have hb:=Qx9 (Qf5 (j:=j) (by rw [hc];rfl)) (by simp [h1,hp])
 have hm:(Q50 j.shape).getD (Int.toNat j.choice) Alt.zero ∈ Q50 j.shape:=QP9 (by omega)
 obtain ⟨o1,o2,o3,o4⟩:=options_ok j.shape _ hm
 have hw:w64 (((Q50 j.shape).getD (Int.toNat j.choice) Alt.zero).wall+12)=((Q50 j.shape).getD (Int.toNat j.choice) Alt.zero).wall+12:=wr (by omega)
 have e:Q20 j=(j.promise,((Q50 j.shape).getD (Int.toNat j.choice) Alt.zero).wall+12,((Q50 j.shape).getD (Int.toNat j.choice) Alt.zero).nodes,true):=by
  unfold Q20
  rw [show ((j.state != 1)||(j.promise==(-1)))=false by simp [h1,hp],hw]
  rfl
 have e2:Q30 j=Q20 j:=by
  rw [claim_eq hu]
  unfold QQ8
  rw [hc]
  rfl
 exact ⟨e2.trans e,e2.symm⟩
def Well (c:State):Prop:=c.sz∧(∀ x ∈ c.jobs,U64 x.nodes)∧QR3 c=0
theorem Well.room {c:State} (h:Well c):Qv1 c=0:=by rw [room_eq c h.1 h.2.1];exact h.2.2
theorem Well.parts {c:State} (h:Well c):(0<=c.now∧c.now<=1000000)∧(∀ x ∈ c.jobs,Q51 x=0)∧c.jobs.Pairwise (fun a b=>a.id<b.id)∧QO3 c.jobs=0:=by
 obtain ⟨h1,_⟩:=QV9 h.room
 obtain ⟨_,_,f3,_,f5,_⟩:=room_facts h.1 h.2.1 h.room
 exact ⟨h1,f3,f5,by simpa using Qz5 (s:=c) (by rw [h.2.2];rfl)⟩
end Go.Proofs.YtcbolcknapeneaaGreatDoor
namespace Go.Proofs.YtcbolcknapeneaaGreatDoor
set_option linter.unusedSimpArgs false
set_option linter.unusedVariables false
open Go.Fw
theorem Well.rp {c:State} (h:Well c) (ex:List Int):Qo0 c ex=Qi1 c ex∧Rp (Qo0 c ex) (leftAt c ex) 200:=room_rp h.1 h.2.1 h.room ex
theorem own_cn {c:State} (h:Well c) (ex:List Int):Cn (Qi1 c ex):=by
 rw [← (h.rp ex).1]
 exact (h.rp ex).2.cn (by omega) (left_bd h.1 h.2.1 h.room ex)
theorem plan_well {s:State} (hz:s.sz) (hu:∀ x ∈ s.jobs,U64 x.nodes) (h:Ql2 s=0):Well s∧Q94 s.ledger=0:=by
 unfold Ql2 at h
 cases h1:((Qv1 s)!=0) with
 | true=>rw [h1] at h;cases h
 | false =>
  cases h2:((Q94 s.ledger)!=0) with
  | true=>rw [h1,h2] at h;cases h
  | false =>
   have e1:Qv1 s=0:=by simpa using h1
   exact ⟨⟨hz,hu,by rw [← room_eq s hz hu];exact e1⟩,by simpa using h2⟩
end Go.Proofs.YtcbolcknapeneaaGreatDoor
namespace Go.Proofs.YtcbolcknapeneaaGreatDoor
set_option linter.unusedSimpArgs false
set_option linter.unusedVariables false
open Go.Fw
end Go.Proofs.YtcbolcknapeneaaGreatDoor
namespace Go.Proofs.YtcbolcknapeneaaGreatDoor
set_option linter.unusedSimpArgs false
set_option linter.unusedVariables false
open Go.Fw
theorem any_Job (l:List Job) (f:Job->Bool):Qi2 l f=l.any f:=Qi7 f _ (fun _=>rfl) (fun _ _ _=>rfl) l 0
theorem claim_no {j:Job} (h:¬ (j.state=1∧j.promise ≠ -1)):(Q30 j).2.2.2=false:=by
 unfold Q30
 have:((((QK1 j)!=0)||(j.state != 1))||(decide (j.promise<0)))=true:=by
  by_cases h1:j.state=1
  ·have h2:j.promise = -1:=Classical.byContradiction fun g=>h ⟨h1,g⟩
   rw [h2]
   simp
  ·rw [bne_iff_ne.2 h1]
   simp
 rw [this]
 rfl
end Go.Proofs.YtcbolcknapeneaaGreatDoor
namespace Go.Proofs.YtcbolcknapeneaaGreatDoor
set_option linter.unusedSimpArgs false
set_option linter.unusedVariables false
open Go.Fw Go.RowKit
set_option maxRecDepth 20000
set_option maxHeartbeats 4000000
attribute [local irreducible] ACalls AMoves
def Q72 (s:State):List Job:=((QO0 s.jobs s.ledger (Qn0 s.jobs)).map fun id=>(Qw1 s.jobs id).1).filter fun j=>j.promise==(-1)
def openN (s:State) (i:Nat):Nat:=((((QO0 s.jobs s.ledger (Qn0 s.jobs)).take i).map fun id=>(Qw1 s.jobs id).1).filter fun j=>j.promise==(-1)).length
theorem openN_succ (s:State) (i:Nat) (h:i<(QO0 s.jobs s.ledger (Qn0 s.jobs)).length) :
  openN s (i+1)=openN s i+(bif ((Qw1 s.jobs ((QO0 s.jobs s.ledger (Qn0 s.jobs)).getD i 0)).1.promise==(-1)) then 1 else 0) ∧
  (((Qw1 s.jobs ((QO0 s.jobs s.ledger (Qn0 s.jobs)).getD i 0)).1.promise==(-1))=true->((Q72 s).map Job.a)[openN s i]? = some (Job.a (Qw1 s.jobs ((QO0 s.jobs s.ledger (Qn0 s.jobs)).getD i 0)).1)):=by
 unfold openN Q72
 generalize QO0 s.jobs s.ledger (Qn0 s.jobs)=l at h ⊢
 have hg:l.getD i 0=l[i]:=by simp [List.getD_eq_getElem?_getD,h]
 rw [hg,List.take_add_one,List.getElem?_eq_getElem h]
 have e:l=l.take i++l[i] :: l.drop (i+1):=by rw [List.getElem_cons_drop,List.take_append_drop]
 constructor
 ·rw [List.map_append,List.filter_append,List.length_append]
  congr 1
  simp only [Option.toList_some,List.map_cons,List.map_nil,List.filter_cons,List.filter_nil]
  cases hp:((Qw1 s.jobs l[i]).1.promise==(-1)) <;> rfl
 ·intro hp
  have:((l.map fun id=>(Qw1 s.jobs id).1).filter fun j=>j.promise==(-1))=(((l.take i).map fun id=>(Qw1 s.jobs id).1).filter fun j=>j.promise==(-1))++(Qw1 s.jobs l[i]).1 :: (((l.drop (i+1)).map fun id=>(Qw1 s.jobs id).1).filter fun j=>j.promise==(-1)):=by
   conv=>lhs;rw [e]
   rw [List.map_append,List.filter_append,List.map_cons,List.filter_cons,hp,if_pos rfl]
  rw [this,List.map_append,List.getElem?_append_right (by simp)]
  simp
theorem openN_all (s:State):openN s (QO0 s.jobs s.ledger (Qn0 s.jobs)).length=((Q72 s).map Job.a).length:=by
 unfold openN Q72
 rw [List.take_length,List.length_map]
theorem weaker_take {nt n0:Nat} {s s':List (Nat × AVal)} {o:Objs} (n:Nat) (hn0:n0<=n) (hn:n<=o.length) (hl:∀ i p,o[i]? = some p->i<n->QFa n p.2) (hs:SubS n s s'):Weaker nt n0 ⟨s,o⟩ ⟨s',o.take n⟩:=by
 intro K0 K a w h0 hle hsat
 refine ⟨K.cut n,⟨hle.M,hle.ρ,hle.C,by show K0.n<=n;omega,hle.vs,hle.w0,hle.B,hle.M0⟩,hsat.mem.cut hn hl,fun t=>?_,hsat.size,hsat.defers⟩
 show Rep (K.cut n) (QL0 s' t) _
 rcases hs.get t with h|⟨h,hlow⟩
 ·rw [h];exact .any _
 ·rw [h];exact Rep.low (K:=K) (L:=K.cut n) (n:=n) (fun _ _ _ h=>h) (Nat.le_refl _) (fun _ _ _=>rfl) (fun _ _ _=>rfl) (fun _ _=>rfl) (hsat.slot t) hlow
def Qe9 (s:State) (x:List Step × List Job × List Int):Objs :=
 [(0,.row 85 1 [[stepL x.1]]),(0,.row 23 1 [[.own 6 0 20 0 x.2.1.length]]),(0,.row 44 1 [[.own 7 0 1 0 x.2.2.length]]),
  (0,.row 102 1 [[.fn (.func 62) [] [.ptr 0 0 1 0 0,.ptr 1 0 1 0 0,.ptr 2 0 1 0 0]]]),
  (0,.row 28 8 [[I s.now,nodeL s.nodes,jobL s.jobs,Q02 s.resizes,bookL s.books,QU1 s.ledger,I s.nextJob,I s.nextBook]]),
  (0,.row 28 8 [[I s.now,nodeL s.nodes,jobL s.jobs,Q02 s.resizes,bookL s.books,QU1 s.ledger,I s.nextJob,I s.nextBook]]),
  (0,.row 35 20 (x.2.1.map Job.cells)),(0,.row 3 1 (x.2.2.map (fun q_=>[I q_])))]
theorem freshO_low (s:State) (x:List Step × List Job × List Int):∀ p ∈ Qe9 s x,QFa 8 p.2:=by
 intro p hp
 simp only [Qe9,List.mem_cons,List.not_mem_nil,or_false] at hp
 rcases hp with rfl|rfl|rfl|rfl|rfl|rfl|rfl|rfl
 ·intro e he;rw [List.mem_singleton.1 he];exact .cons lw .nil
 ·intro e he;rw [List.mem_singleton.1 he];exact .cons (.own _ _ _ _ _ (by decide)) .nil
 ·intro e he;rw [List.mem_singleton.1 he];exact .cons (.own _ _ _ _ _ (by decide)) .nil
 ·intro e he;rw [List.mem_singleton.1 he];exact .cons (.fn _ _ _ (by simp) (by simp only [List.forall_mem_cons,List.not_mem_nil,false_implies,implies_true,and_true];exact ⟨.ptr _ _ _ _ _ (by decide),.ptr _ _ _ _ _ (by decide),.ptr _ _ _ _ _ (by decide)⟩)) .nil
 ·intro e he;rw [List.mem_singleton.1 he];exact State.lo
 ·intro e he;rw [List.mem_singleton.1 he];exact State.lo
 ·exact QB7 fun _=>Job.lowc _ _
 ·exact lm
theorem open1_c (s:State) (hs0:s.sz) (st:Nat->List Step × List Job × List Int):IterC Tryz.prog 167 [.ptr 5 0 8 0 0] 6 ((Q72 s).map Job.a) (fun k=>Qe9 s (st k)):=by
 refine IterC.of_cwpY (kp 7 [14,15,16,17,35]) (fun id=>Nat.beq id 4) Tryz.func167 rfl rfl (fun k=>by simp [Qe9]) (fun k=>freshO_low s (st k)) (fun k x hx=>by obtain ⟨j,_,rfl⟩:=List.mem_map.1 hx;exact Job.low _ _) ?_
 intro l
 have hs:=hs0
 obtain ⟨z1,z2,z3,z4,z5,z6,z7⟩:=hs0
 have hel:=QMb s.jobs
 have hsl:=QG9 s.jobs s.ledger (Qn0 s.jobs)
 conv=>whnf
 refine dchk (by kernel_rfl) ?_
 (first|apply u2|apply u3|apply u4|apply us)
 exact Qa9 s.jobs szA _
 (first|apply u2|apply u3|apply u4|apply us)
 exact Qub s.jobs s.ledger (Qn0 s.jobs) szA szA (by omega) _
 (repeat (first|refine ai rfl ?_|refine ai (fun _=>rfl) ?_|refine ai (fun _=>Qa9 s.jobs szA _) ?_|refine ai (fun _=>Qub s.jobs s.ledger (Qn0 s.jobs) szA szA (by omega) _) ?_))
 refine Qc0 (fun i:Nat=>i<=(QO0 s.jobs s.ledger (Qn0 s.jobs)).length) (fun i=>(QO0 s.jobs s.ledger (Qn0 s.jobs)).length - i) (fun i=>[(0,.lit (.func (.yield l) #[] #[])),(1,.ptr 5 0 8 0 0),(14,ints (QO0 s.jobs s.ledger (Qn0 s.jobs))),(15,I ((QO0 s.jobs s.ledger (Qn0 s.jobs)).length:Int)),(16,I (i:Int))]) (fun i=>Qe9 s (st (openN s i))) 0 (Qte ?_) (Nat.zero_le _) ?_
 ·repeat (first|exact .nil|refine .cons _ _ _ rfl ?_|(refine .cons _ _ _ (I_eq ?_) ?_;rotate_left))
 rintro i hi
 conv=>whnf
 refine ai (fun h1=>?_) (fun h2=>?_)
 ·have hlt:i<(QO0 s.jobs s.ledger (Qn0 s.jobs)).length:=by have:=of_decide_eq_true h1;omega
  obtain ⟨e1,e2⟩:=openN_succ s i hlt
  refine ai gkA ?_
  refine us (table_Find_c s.jobs ((QO0 s.jobs s.ledger (Qn0 s.jobs)).getD i 0) szA _) ?_
  conv=>whnf
  refine ⟨rfl,?_⟩
  conv=>whnf
  refine ⟨rfl,fun t=>!(Nat.beq t 5||Nat.beq t 27),bif ((Qw1 s.jobs ((QO0 s.jobs s.ledger (Qn0 s.jobs)).getD i 0)).1.promise==(-1)) then Qe9 s (st (openN s i+1)) else Qe9 s (st (openN s i))++[(0,.row 35 20 [Job.cells (Qw1 s.jobs ((QO0 s.jobs s.ledger (Qn0 s.jobs)).getD i 0)).1])],fun h=>⟨openN s i,[(0,.row 35 20 [Job.cells (Qw1 s.jobs ((QO0 s.jobs s.ledger (Qn0 s.jobs)).getD i 0)).1])],e2 h,rfl,ct h rfl⟩,fun h=>cf h rfl,?_,?_⟩
  ·refine lowR_of ?_ ?_
   ·repeat (first|exact fun _ h=>absurd h List.not_mem_nil|refine List.forall_mem_cons.2 ⟨by first|exact .lit _|exact .any|exact .ptr _ _ _ _ _ (by decide)|exact (show Low _ (ints _) from lw),?_⟩)
   ·repeat (first|exact fun _ h=>absurd h List.not_mem_nil|refine List.forall_mem_cons.2 ⟨by first|exact .lit _|exact .any|exact Job.low _ _,?_⟩)
  conv=>whnf
  refine ai (fun h3=>absurd h3 (by simp)) (fun _=>?_)
  conv=>whnf
  refine Qi0 (i+1) ?_ (by omega) (by omega)
  rw [e1]
  cases hp:((Qw1 s.jobs ((QO0 s.jobs s.ledger (Qn0 s.jobs)).getD i 0)).1.promise==(-1)) with
  | true =>
   simp only [cond_true]
   refine Qte ?_
   repeat (first|exact .nil|refine .cons _ _ _ rfl ?_|(refine .cons _ _ _ (I_eq ?_) ?_;rotate_left))
   all_goals exact wr (by omega)
  | false =>
   simp only [cond_false]
   refine weaker_take (n0:=6) 8 (by decide) (by simp [Qe9]) (fun k p hp hk=>freshO_low s (st (openN s i)) p (by rw [List.getElem?_append_left (by simpa [Qe9] using hk)] at hp;exact List.mem_of_getElem? hp)) ?_
   repeat (first|exact .nil|refine .cons _ _ _ rfl (by first|exact .lit _|exact .ptr _ _ _ _ _ (by decide)|exact lw) ?_|refine .cons _ _ _ (I_eq (wr (by omega))) (.lit _) ?_)
 ·have hil:(QO0 s.jobs s.ledger (Qn0 s.jobs)).length=i:=by have:=of_decide_eq_false h2;omega
  conv=>whnf
  refine ⟨_,_,Qqe,?_⟩
  rw [← openN_all,hil]
end Go.Proofs.YtcbolcknapeneaaGreatDoor
namespace Go.Proofs.YtcbolcknapeneaaGreatDoor
set_option linter.unusedSimpArgs false
set_option linter.unusedVariables false
open Go.Fw Go.RowKit
set_option maxRecDepth 20000
set_option maxHeartbeats 4000000
attribute [local irreducible] ACalls AMoves
theorem insR_mem (x:Ranked):∀ (o:List Ranked) (y:Ranked),y ∈ insR x o->y=x∨y ∈ o
 | [],y,h=>.inl (by simpa [insR] using h)
 | z :: r,y,h=>by
  rw [insR] at h
  cases ha:aheadR z x with
  | false =>
   rw [ha] at h
   exact List.mem_cons.1 h
  | true =>
   rw [ha] at h
   rcases List.mem_cons.1 h with rfl|h
   ·exact .inr (List.mem_cons_self ..)
   ·exact (insR_mem x r y h).imp id (List.mem_cons_of_mem _)
theorem rank_mem:∀ (l o:List Ranked) (y:Ranked),y ∈ l.foldl (fun o x=>insR x o) o->y ∈ l∨y ∈ o
 | [],_,_,h=>.inr h
 | x :: r,o,y,h=>by
  rw [List.foldl_cons] at h
  rcases rank_mem r _ y h with h|h
  ·exact .inl (List.mem_cons_of_mem _ h)
  ·rcases insR_mem x o y h with rfl|h
   ·exact .inl (List.mem_cons_self ..)
   ·exact .inr h
theorem Q1e (l:List Usage) (ids:List Int):∀ (js:List Job) (r_:List Ranked) (i:Nat) (c:List (ByteArray × Int)),∀ y ∈ (QF1 l ids js r_ i c).1,y ∈ r_ ∨ ∃ x ∈ js,y.what=x.id
 | [],_,_,_,y,h=>.inl h
 | x :: r,r_,i,c,y,h=>by
  rw [QF1] at h
  have k:=fun r_' c' h=>Q1e l ids r r_' (i+1) c' y h
  cases h1:(!(Q21 ids x.id)) with
  | true =>
   rw [h1] at h
   exact (k _ _ h).imp id fun ⟨z,hz,e⟩=>⟨z,List.mem_cons_of_mem _ hz,e⟩
  | false =>
   rw [h1] at h
   simp only [cond_false] at h
   have hb:y ∈ r_ ∨ ∃ z ∈ x :: r,y.what=z.id:=by
    cases h2:(!(getM x.user c).isSome) with
    | true =>
     rw [h2] at h
     rcases k _ _ h with h|⟨z,hz,e⟩
     ·rcases List.mem_append.1 h with h|h
      ·exact .inl h
      ·exact .inr ⟨x,List.mem_cons_self ..,by rw [List.mem_singleton.1 h]⟩
     ·exact .inr ⟨z,List.mem_cons_of_mem _ hz,e⟩
    | false =>
     rw [h2] at h
     rcases k _ _ h with h|⟨z,hz,e⟩
     ·rcases List.mem_append.1 h with h|h
      ·exact .inl h
      ·exact .inr ⟨x,List.mem_cons_self ..,by rw [List.mem_singleton.1 h]⟩
     ·exact .inr ⟨z,List.mem_cons_of_mem _ hz,e⟩
   exact hb
theorem Q2e (R:List Ranked):∀ (q:List Ranked) (out:List Int) (i:Nat),i+q.length=(QY3 R).length -> ∀ y ∈ Q73 R q out i,y ∈ out ∨ ∃ z ∈ QY3 R,y=z.what
 | [],_,_,_,y,h=>.inl h
 | x :: r,out,i,hl,y,h=>by
  rw [Q73] at h
  simp only [List.length_cons] at hl
  rcases Q2e R r _ (i+1) (by omega) y h with h|h
  ·rcases List.mem_append.1 h with h|h
   ·exact .inl h
   ·refine .inr ⟨_,?_,List.mem_singleton.1 h⟩
    rw [List.getD_eq_getElem?_getD,List.getElem?_eq_getElem (by omega)]
    exact List.getElem_mem _
  ·exact .inr h
theorem order_in {jobs:List Job} {l:List Usage} {ids:List Int} {x:Int} (h:x ∈ QO0 jobs l ids):QC1 jobs=0 ∧ ∃ j ∈ jobs,j.id=x:=by
 unfold QO0 at h
 cases ht:((QC1 jobs)!=0) with
 | true=>rw [ht] at h;exact absurd h List.not_mem_nil
 | false =>
  rw [ht] at h
  refine ⟨by simpa using ht,?_⟩
  rcases Q2e _ _ _ 0 (by simp) x h with h|⟨z,hz,e⟩
  ·exact absurd h List.not_mem_nil
  ·rcases rank_mem _ _ z hz with h|h
   ·rcases Q1e l ids jobs [] 0 [] z h with h|⟨j,hj,e2⟩
    ·exact absurd h List.not_mem_nil
    ·exact ⟨j,hj,by rw [e,e2]⟩
   ·exact absurd h List.not_mem_nil
theorem open_in {s:State} {j:Job} (h:j ∈ Q72 s):j ∈ s.jobs:=by
 obtain ⟨h1,_⟩:=List.mem_filter.1 h
 obtain ⟨id,hid,e⟩:=List.mem_map.1 h1
 obtain ⟨ht,x,hx,ex⟩:=order_in hid
 obtain ⟨p,hp⟩:=List.getElem?_of_mem hx
 rw [← ex,table_Find_ok ht hp] at e
 exact e ▸ hx
theorem open_len (s:State):(Q72 s).length<=s.jobs.length:=by
 have h:=QG9 s.jobs s.ledger (Qn0 s.jobs)
 have:=List.length_filter_le (fun j:Job=>j.promise==(-1)) ((QO0 s.jobs s.ledger (Qn0 s.jobs)).map fun id=>(Qw1 s.jobs id).1)
 rw [List.length_map] at this
 unfold Q72
 omega
def Q66 (s:State) (st:List Step × List Job × List Int) (j:Job):List Step × List Job × List Int :=
 bif (Ql3 st.1 (Qk0 j.shape) s.now 1000000 12).2.2 then QO2 j (Ql3 st.1 (Qk0 j.shape) s.now 1000000 12).1 (Ql3 st.1 (Qk0 j.shape) s.now 1000000 12).2.1 st.1 st.2.1 st.2.2 else st
def Qp1 (s:State):List Job × List Int :=
 bif ((Ql2 s)!=0) then (s.jobs,[]) else ((Q72 s).foldl (Q66 s) (Qo0 s [],s.jobs,[])).2
def Q5d (s:State) (st:List Step × List Job × List Int):Prop:=st.1.length<=4294967296∧st.2.1.map (·.id)=s.jobs.map (·.id)∧(∀ y ∈ st.2.1,y.sz)
theorem set_id {l:List Job} {i:Nat} {p:Job} (h:∀ x,l[i]? = some x->x.id=p.id):(l.set i p).map (·.id)=l.map (·.id):=by
 rw [List.map_set]
 refine List.ext_getElem? fun k=>?_
 rw [List.getElem?_set,List.getElem?_map]
 by_cases hk:i=k
 ·subst hk
  rw [if_pos rfl]
  by_cases hl:i<l.length
  ·rw [if_pos (by simpa using hl),List.getElem?_eq_getElem hl]
   simp only [Option.map_some]
   rw [h _ (List.getElem?_eq_getElem hl)]
  ·rw [if_neg (by simpa using hl),List.getElem?_eq_none (by omega)]
   rfl
 ·rw [if_neg hk]
theorem g2_found (j:Job) (jobs:List Job) (ids:List Int) (pr:Job × Int) (c:List Step):∀ (l:List Job) (i:Nat),jobs.drop i=l->(∃ x ∈ l,x.id=j.id) ->
  ∃ k x,Qx4 j jobs ids pr c l i=(c,jobs.set k pr.1,ids++[j.id])∧jobs[k]? = some x∧x.id=j.id
 | [],_,_,⟨_,h,_⟩=>absurd h List.not_mem_nil
 | y :: r,i,hd,⟨x,hx,e⟩=>by
  have hg:jobs[i]? = some y:=by have:=congrArg (·[0]?) hd;simpa using this
  have hr:jobs.drop (i+1)=r:=by rw [← List.drop_drop,hd];rfl
  have hy:jobs.getD i Job.zero=y:=by rw [List.getD_eq_getElem?_getD,hg];rfl
  rw [Qx4,hy]
  cases h:(y.id==j.id) with
  | true=>exact ⟨i,y,rfl,hg,by simpa using h⟩
  | false =>
   have hx':x ∈ r:=(List.mem_cons.1 hx).resolve_left fun e2=>by rw [e2] at e;rw [e,beq_self_eq_true] at h;cases h
   exact g2_found j jobs ids pr c r (i+1) hr ⟨x,hx',e⟩
theorem index_pre {s:State} {st:List Step × List Job × List Int} (h:Q5d s st) {j:Job} (hj:j ∈ s.jobs):∃ x ∈ st.2.1,x.id=j.id:=by
 have hm:j.id ∈ st.2.1.map (·.id):=by rw [h.2.1];exact List.mem_map.2 ⟨j,hj,rfl⟩
 exact List.mem_map.1 hm
theorem k1_found {s:State} {st:List Step × List Job × List Int} (h:Q5d s st) {j:Job} (hj:j ∈ s.jobs) (pr:Job × Int) (c:List Step) :
  ∃ k x,Qq3 j st.2.1 st.2.2 pr c=(c,st.2.1.set k pr.1,st.2.2++[j.id])∧st.2.1[k]? = some x∧x.id=j.id :=
 g2_found j st.2.1 st.2.2 pr c st.2.1 0 rfl (index_pre h hj)
theorem promise_id {j:Job} {a c:Int} (h:((Qx1 j a c).2 != 0)=false):(Qx1 j a c).1.id=j.id:=by
 unfold Qx1 at h ⊢
 cases h1:((QK1 j)!=0) with
 | true=>rw [h1] at h;simp only [cond_true] at h;rw [h1] at h;cases h
 | false =>
  rw [h1] at h
  simp only [cond_false] at h ⊢
  cases h2:((j.state != 1)||j.held) with
  | true=>rw [h2] at h;cases h
  | false =>
   rw [h2] at h
   simp only [cond_false] at h ⊢
   cases h3:((!(QX0 j c).2)||(!(QB3 a))) with
   | true=>rw [h3] at h;cases h
   | false=>rfl
theorem fresh_step {s:State} {st:List Step × List Job × List Int} (h:Q5d s st) {j:Job} (hj:j ∈ s.jobs) (hz:j.sz):Q5d s (Q66 s st j)∧(Q66 s st j).2.2.length<=st.2.2.length+1:=by
 unfold Q66
 generalize Ql3 st.1 (Qk0 j.shape) s.now 1000000 12=B
 cases B.2.2 with
 | false=>exact ⟨h,Nat.le_succ _⟩
 | true =>
  simp only [cond_true]
  unfold QO2
  simp only
  cases hp:((Qx1 j B.2.1 B.1).2 != 0) with
  | true=>exact ⟨h,Nat.le_succ _⟩
  | false =>
   simp only [cond_false]
   have hk:∀ c:List Step,c.length<=4294967296->Q5d s (Qq3 j st.2.1 st.2.2 (Qx1 j B.2.1 B.1) c)∧(Qq3 j st.2.1 st.2.2 (Qx1 j B.2.1 B.1) c).2.2.length<=st.2.2.length+1:=by
    intro c hc
    obtain ⟨k,x,e1,e2,e3⟩:=k1_found h hj (Qx1 j B.2.1 B.1) c
    rw [e1]
    refine ⟨⟨hc,?_,fun y hy=>(List.mem_or_eq_of_mem_set hy).elim (h.2.2 y) fun e=>e ▸ Q8a _ _ hz⟩,by simp⟩
    exact (set_id fun z hz'=>by rw [e2] at hz';rw [promise_id hp,← Option.some.inj hz',e3]).trans h.2.1
   cases ((QR7 st.1 (Q30 (Qx1 j B.2.1 B.1).1).1 (Q30 (Qx1 j B.2.1 B.1).1).2.1 (Q30 (Qx1 j B.2.1 B.1).1).2.2.1).2==0) with
   | true=>exact hk _ (fit_Take_len _ _ _ h.1)
   | false=>exact hk _ h.1
def QT7 (s:State) (k:Nat):List Step × List Job × List Int:=((Q72 s).take k).foldl (Q66 s) (Qo0 s [],s.jobs,[])
theorem Qzd {s:State} {k:Nat} {j:Job} (h:(Q72 s)[k]? = some j):QT7 s (k+1)=Q66 s (QT7 s k) j:=by
 unfold QT7
 rw [List.take_add_one,h,List.foldl_append]
 rfl
theorem QXa {s:State} (hz:s.sz):∀ k,k<=(Q72 s).length->Q5d s (QT7 s k)∧(QT7 s k).2.2.length<=k
 | 0,_=>⟨⟨QT8 _ _,rfl,hz.2.2.1⟩,Nat.le_refl _⟩
 | k+1,hk=>by
  obtain ⟨h1,h2⟩:=QXa hz k (by omega)
  have hj:(Q72 s)[k]? = some ((Q72 s)[k]'(by omega)):=List.getElem?_eq_getElem (by omega)
  have hm:=open_in (List.mem_of_getElem? hj)
  rw [Qzd hj]
  obtain ⟨g1,g2⟩:=fresh_step h1 hm (hz.2.2.1 _ hm)
  exact ⟨g1,by omega⟩
theorem freshI_len {s:State} {st:List Step × List Job × List Int} (h:Q5d s st):st.2.1.length=s.jobs.length:=by
 have:=congrArg List.length h.2.1
 simpa using this
theorem Q87 {s:State} (hz:s.sz):(Qp1 s).1.length=s.jobs.length∧(∀ y ∈ (Qp1 s).1,y.sz)∧(Qp1 s).2.length<=s.jobs.length:=by
 unfold Qp1
 cases ((Ql2 s)!=0) with
 | true=>exact ⟨rfl,hz.2.2.1,Nat.zero_le _⟩
 | false =>
  obtain ⟨h1,h2⟩:=QXa hz (Q72 s).length (Nat.le_refl _)
  have e:QT7 s (Q72 s).length=(Q72 s).foldl (Q66 s) (Qo0 s [],s.jobs,[]):=by unfold QT7;rw [List.take_length]
  rw [e] at h1 h2
  have:=open_len s
  exact ⟨freshI_len h1,h1.2.2,by show _<=_;simp only [cond_false];omega⟩
theorem Qsc (s:State) (hs0:s.sz):∀ objs,AGives Tryz.prog 19 [State.a s] objs (AVal.tup [jobL (Qp1 s).1,ints (Qp1 s).2]):=by
 generalize hR:Qp1 s=R
 refine ga (.cons (State.low _ _) .nil) (Low.tup' (.cons lw (.cons lw .nil))) (kp 12 [14,25,38]) Tryz.func19 ?_
 have hs:=hs0
 obtain ⟨z1,z2,z3,z4,z5,z6,z7⟩:=hs0
 refine us (QS5 s szA _) ?_
 refine ai (fun h1=>?_) (fun h2=>?_)
 ·refine us (plan_copied_c s.jobs szA _) ?_
  obtain rfl:=foll hR (ct h1 rfl)
  exact Q00 (Low.tup' (.cons lw (.cons lw .nil))) (Seen.tup (e1 (ev Qs0 .nil)))
 ·refine us (AGives.as2 (QS8 s [] szA szA _) (a1 (av Q79 .nil))) ?_
  refine us (mv [] (QK8 s.jobs szA) .nil (dl lw .nil) (rO rr .nil) (rw_ 2 0 rfl)) ?_
  refine us (r:=.fn (.func 167) [] [.ptr 6 0 8 0 0]) (o:=[(0,.row 28 8 [[I s.now,nodeL s.nodes,jobL s.jobs,Q02 s.resizes,bookL s.books,QU1 s.ledger,I s.nextJob,I s.nextBook]]),(0,.row 85 1 [[stepL (Qo0 s [])]]),(0,.row 35 20 (s.jobs.map Job.cells)),(0,.row 23 1 [[.own 2 0 20 0 s.jobs.length]]),(0,.row 44 1 [[.lit (.slice none 0 0)]]),(0,.row 102 1 [[.fn (.func 62) [] [.ptr 1 0 1 0 0,.ptr 3 0 1 0 0,.ptr 4 0 1 0 0]]]),(0,.row 28 8 [[I s.now,nodeL s.nodes,jobL s.jobs,Q02 s.resizes,bookL s.books,QU1 s.ledger,I s.nextJob,I s.nextBook]])]) (ACalls.of_cwp (fun _=>true) Tryz.func67 rfl rfl ?_) ?_
  ·exact ⟨_,_,Qqe,rfl,rfl⟩
  have hol:=open_len s
  refine range_nextC (fun _=>true) [.ptr 5 0 8 0 0] ((Q72 s).map Job.a) (fun k=>Qe9 s (QT7 s k)) 6
   [(1,.ptr 4 0 8 0 0),(2,.lit (.slice none 0 0)),(3,.lit (.slice none 0 0)),(4,.ptr 0 0 1 0 0),(5,.ptr 1 0 1 0 0),(6,.ptr 2 0 1 0 0),(7,.ptr 3 0 1 0 0),(25,.fn (.func 167) [] [.ptr 5 0 8 0 0])] ?_ rfl ?_ (by decide) rfl ?_ rfl ?_ (open1_c s hs (QT7 s)) (fun _=>rfl) rfl rfl ?_ ?_
  ·exact (QD1 3 1).trans (wk [1,3,4,5,0,6,2,7] (tO rfl (ts (lv lw LowL.nil)) (tO rfl (Qd0 (cv (to 6 lnA) .nil)) (tO rfl (Qd0 (cv (Qj1 7 rfl) .nil)) (tO rfl (Qd0 (cv (QH0 .nil (cv (Q10 0 rfl rfl) (cv (Q10 1 rfl rfl) (cv (Q10 2 rfl rfl) .nil)))) .nil)) (tO rfl (ts State.lo) (tO rfl (ts State.lo) (tO rfl (tl eqA) (tO rfl (tl eqA) .nil))))))))
    (sv (Q10 4 rfl rfl) (s1 (s1 (sv (Q10 0 rfl rfl) (sv (Q10 1 rfl rfl) (sv (Q10 2 rfl rfl) (sv (Q10 3 rfl rfl) (sv (QH0 .nil (cv (Q10 5 rfl rfl) .nil)) .nil)))))))))
  ·intro k _
   simp [Qe9]
  ·intro t
   refine (lowR_of (rs:=⟨[],[],[]⟩) ?_ (by simp)).slots t
   repeat (first|exact fun _ h=>absurd h List.not_mem_nil|refine List.forall_mem_cons.2 ⟨by first|exact .lit _|exact .ptr _ _ _ _ _ (by decide)|exact .fn _ _ _ (fun _ h=>absurd h List.not_mem_nil) (fun x hx=>by rw [List.mem_singleton.1 hx];exact .ptr _ _ _ _ _ (by decide)),?_⟩)
  ·intro args w
   simp [go_sem]
  ·intro k x hx
   obtain ⟨j,hj,rfl⟩:∃ j,(Q72 s)[k]? = some j∧x=Job.a j:=by
    rw [List.getElem?_map] at hx
    obtain ⟨j,hj,e⟩:=Option.map_eq_some_iff.1 hx
    exact ⟨j,hj,e.symm⟩
   have hkl:k<(Q72 s).length:=(List.getElem?_eq_some_iff.1 hj).1
   obtain ⟨hI,hI2⟩:=QXa hs k (by omega)
   have hjm:=open_in (List.mem_of_getElem? hj)
   have hjz:=z3 j hjm
   have hpre:=index_pre hI hjm
   simp only [Qzd hj]
   have hlen:=freshI_len hI
   obtain ⟨hI1,_,hI3⟩:=hI
   generalize QT7 s k=st at *
   have hopt:=Qt8 j.shape hjz.2.2.2.1
   conv=>whnf
   refine dchk (by kernel_rfl) ?_
   (first|apply u2|apply u3|apply u4|apply us)
   exact QG2 j.shape hjz.2.2.2.1 _
   (first|apply u2|apply u3|apply u4|apply us)
   exact QO9 st.1 (Qk0 j.shape) s.now 1000000 12 hI1 hopt _
   (repeat (first|refine ai rfl ?_|refine ai (fun _=>rfl) ?_|refine ai (fun _=>QG2 j.shape hjz.2.2.2.1 _) ?_|refine ai (fun _=>QO9 st.1 (Qk0 j.shape) s.now 1000000 12 hI1 hopt _) ?_))
   refine ai (fun h3=>?_) (fun h4=>?_)
   ·have hr:Q66 s st j=QO2 j (Ql3 st.1 (Qk0 j.shape) s.now 1000000 12).1 (Ql3 st.1 (Qk0 j.shape) s.now 1000000 12).2.1 st.1 st.2.1 st.2.2:=ct h3 rfl
    rw [hr]
    refine us (mv [0,1,2,6,7] (Q4e j (Ql3 st.1 (Qk0 j.shape) s.now 1000000 12).1 (Ql3 st.1 (Qk0 j.shape) s.now 1000000 12).2.1 st.1 st.2.1 st.2.2 hjz hI1 ⟨by omega,hI3⟩ (by omega) hpre) (dO (ds (lv lw LowL.nil)) (dO (dc (dv (QW6 rfl lnA) .nil)) (dO (dc (dv (QW6 rfl lnA) .nil)) (dO (dr eqA) (dO (dr eqA) .nil))))) (dl (Job.low _ _) (d1 (d1 (dp (dp (dp .nil)))))) (rO (re (lv lw LowL.nil)) (rO (rc (.cons _ _ _ _ (rw_ 9 0 rfl) .nil)) (rO (rc (.cons _ _ _ _ (rw_ 10 0 rfl) .nil)) (rO rr (rO rr .nil))))) rx) ?_
    exact wk [0,1,2,3,4,5,9,10] (tO rfl (ts (lv lw LowL.nil)) (tO rfl (Qd0 (cv (to 6 lnA) .nil)) (tO rfl (Qd0 (cv (to 7 lnA) .nil)) (tO rfl (Qd0 (cv (QH0 .nil (cv (Q10 0 rfl rfl) (cv (Q10 1 rfl rfl) (cv (Q10 2 rfl rfl) .nil)))) .nil)) (tO rfl (ts State.lo) (tO rfl (ts State.lo) (tO rfl (tl eqA) (tO rfl (tl eqA) .nil))))))))
     (sv (Q10 4 rfl rfl) (s1 (s1 (sv (Q10 0 rfl rfl) (sv (Q10 1 rfl rfl) (sv (Q10 2 rfl rfl) (sv (Q10 3 rfl rfl) (sv (QH0 .nil (cv (Q10 5 rfl rfl) .nil)) .nil))))))))
   ·have hr:Q66 s st j=st:=cf h4 rfl
    rw [hr]
    exact wk [0,1,2,3,4,5,6,7] (tO rfl (ts (lv lw LowL.nil)) (tO rfl (Qd0 (cv (to 6 lnA) .nil)) (tO rfl (Qd0 (cv (to 7 lnA) .nil)) (tO rfl (Qd0 (cv (QH0 .nil (cv (Q10 0 rfl rfl) (cv (Q10 1 rfl rfl) (cv (Q10 2 rfl rfl) .nil)))) .nil)) (tO rfl (ts State.lo) (tO rfl (ts State.lo) (tO rfl (tl eqA) (tO rfl (tl eqA) .nil))))))))
     (sv (Q10 4 rfl rfl) (s1 (s1 (sv (Q10 0 rfl rfl) (sv (Q10 1 rfl rfl) (sv (Q10 2 rfl rfl) (sv (Q10 3 rfl rfl) (sv (QH0 .nil (cv (Q10 5 rfl rfl) .nil)) .nil))))))))
  ·obtain ⟨hI,_⟩:=QXa hs (Q72 s).length (Nat.le_refl _)
   have e:Qp1 s=(QT7 s (Q72 s).length).2:=by unfold QT7;rw [List.take_length];exact cf h2 rfl
   have hR2:(QT7 s (Q72 s).length).2=R:=e.symm.trans hR
   simp only [List.length_map]
   clear hR e
   generalize QT7 s (Q72 s).length=st at *
   obtain rfl:=foll hR2 rfl
   refine dchk (by kernel_rfl) ?_
   (repeat (first|refine ai rfl ?_|refine ai (fun _=>rfl) ?_))
   exact Q00 (Low.tup' (.cons lw (.cons lw .nil))) (Seen.tup (ev (Ql1 Job.zero _ rfl eqA lnA) (ev (Ql1 0 _ rfl eqA lnA) .nil)))
end Go.Proofs.YtcbolcknapeneaaGreatDoor
namespace Go.Proofs.YtcbolcknapeneaaGreatDoor
set_option linter.unusedSimpArgs false
set_option linter.unusedVariables false
open Go.Fw
end Go.Proofs.YtcbolcknapeneaaGreatDoor
namespace Go.Proofs.YtcbolcknapeneaaGreatDoor
set_option linter.unusedSimpArgs false
set_option linter.unusedVariables false
open Go.Fw
end Go.Proofs.YtcbolcknapeneaaGreatDoor
namespace Go.Proofs.YtcbolcknapeneaaGreatDoor
set_option linter.unusedSimpArgs false
set_option linter.unusedVariables false
open Go.Fw
end Go.Proofs.YtcbolcknapeneaaGreatDoor
namespace Go.Proofs.YtcbolcknapeneaaGreatDoor
set_option linter.unusedSimpArgs false
set_option linter.unusedVariables false
open Go.Fw
end Go.Proofs.YtcbolcknapeneaaGreatDoor
namespace Go.Proofs.YtcbolcknapeneaaGreatDoor
set_option linter.unusedSimpArgs false
set_option linter.unusedVariables false
open Go.Fw
end Go.Proofs.YtcbolcknapeneaaGreatDoor
namespace Go.Proofs.YtcbolcknapeneaaGreatDoor
set_option linter.unusedSimpArgs false
set_option linter.unusedVariables false
open Go.Fw
theorem one_eq {s:State} (hz:s.sz) (hu:∀ x ∈ s.jobs,U64 x.nodes) {j:Job} (hj:U64 j.nodes) (latest:Int):Qy5 s j latest=Qc6 s j latest:=by
 unfold Qy5 Qc6
 rw [plan_eq s hz hu,job_eq j hj]
 cases h:(((QS3 s)!=0)||((Q51 j)!=0)) with
 | true=>rfl
 | false =>
  simp only [Bool.or_eq_false_iff,bne_eq_false_iff_eq] at h
  have hpc:Ql2 s=0:=by rw [plan_eq s hz hu];exact h.1
  obtain ⟨hw,_⟩:=plan_well hz hu hpc
  have hp:QW5 s j latest=QJ4 (Qi1 s [j.id]) (Q50 j.shape) s.now latest 12:=rfl
  simp only [cond_false]
  rw [best_eq,(hw.rp [j.id]).1,Qs6,hp]
def rgood (s:State) (x:Job):Bool :=
 (!(Q20 x).2.2.2)||((decide ((w64 ((Q20 x).1+(Q20 x).2.1))<=1000000))&&(decide ((Qf2 (Qi1 s []) (max (Q20 x).1 s.now) (w64 ((Q20 x).1+(Q20 x).2.1))) >= 0)))
theorem rsound_g1 (s:State):∀ (m i:Nat) (ok:Bool),s.jobs.length - i<m->i<=s.jobs.length->(QA2 s m ok i).1=(ok&&(s.jobs.drop i).all (rgood s))
 | 0,_,_,h,_=>absurd h (by omega)
 | m+1,i,ok,h,hi=>by
  rw [QA2]
  cases ok with
  | false=>rw [Bool.and_false,Bool.false_and];rfl
  | true =>
   rw [Bool.and_true,Bool.true_and]
   cases hl:decide ((i:Int)<(s.jobs.length:Int)) with
   | false =>
    have:i=s.jobs.length:=by have:=of_decide_eq_false hl;omega
    rw [this,List.drop_length]
    rfl
   | true =>
    have hlt:i<s.jobs.length:=by have:=of_decide_eq_true hl;omega
    simp only [cond_true]
    rw [Q90 Job.zero hlt,List.all_cons]
    generalize s.jobs.getD i Job.zero=x
    have hg:∀ a,a=max (Q20 x).1 s.now->(QA2 s m ((!(Q20 x).2.2.2)||((decide ((w64 ((Q20 x).1+(Q20 x).2.1))<=1000000))&&(decide ((Qf2 (Qi1 s []) a (w64 ((Q20 x).1+(Q20 x).2.1))) >= 0)))) (i+1)).1=(rgood s x&&(s.jobs.drop (i+1)).all (rgood s)):=by
     intro a ha
     rw [rsound_g1 s m (i+1) _ (by omega) (by omega),ha]
     rfl
    cases hc:decide ((Q20 x).1<s.now) with
    | true=>exact hg s.now (by have:=of_decide_eq_true hc;omega)
    | false=>exact hg _ (by have:=of_decide_eq_false hc;omega)
theorem good_eq {s:State} (h:Well s) {x:Job} (hx:x ∈ s.jobs):(((Q30 x).2.2.2&&((decide ((w64 ((Q30 x).1+(Q30 x).2.1)) > 1000000))||(decide ((Qz0 (Qo0 s []) (max (Q30 x).1 s.now) (w64 ((Q30 x).1+(Q30 x).2.1)))<0))))=true) ↔ rgood s x=false:=by
 obtain ⟨hnow,hch,hpw,_⟩:=h.parts
 unfold rgood
 by_cases hc:x.state=1∧x.promise ≠ -1
 ·obtain ⟨e1,e2⟩:=claim_of (h.2.1 x hx) (hch x hx) hc.1 hc.2
  obtain ⟨c1,c2,c3⟩:=QGb (hch x hx)
  rw [e2] at c1 c2 c3 ⊢
  have e3:(Q30 x).2.2.2=true:=by rw [e1]
  have hw:w64 ((Q30 x).1+(Q30 x).2.1)=(Q30 x).1+(Q30 x).2.1:=wr (by omega)
  rw [hw,e3]
  by_cases g:(Q30 x).1+(Q30 x).2.1<=1000000
  ·have hl:Qz0 (Qo0 s []) (max (Q30 x).1 s.now) ((Q30 x).1+(Q30 x).2.1)=Qf2 (Qi1 s []) (max (Q30 x).1 s.now) ((Q30 x).1+(Q30 x).2.1):=by
    rw [(h.rp []).1]
    by_cases hab:max (Q30 x).1 s.now<(Q30 x).1+(Q30 x).2.1
    ·exact least_eq (own_cn h []) (by omega) (by omega) hab
    ·unfold Qz0 Qf2
     rw [decide_eq_true (show (Q30 x).1+(Q30 x).2.1<=max (Q30 x).1 s.now by omega),Bool.or_true,Bool.or_true]
     rfl
   rw [hl,decide_eq_false (show ¬ (Q30 x).1+(Q30 x).2.1 > 1000000 by omega),decide_eq_true g]
   simp
  ·rw [decide_eq_true (show (Q30 x).1+(Q30 x).2.1 > 1000000 by omega),decide_eq_false g]
   simp
 ·have e:(Q20 x).2.2.2=false:=by
   unfold Q20
   have:((x.state != 1)||(x.promise==(-1)))=true:=by
    by_cases h1:x.state=1
    ·have h2:x.promise = -1:=Classical.byContradiction fun g=>hc ⟨h1,g⟩
     rw [h2]
     simp
    ·rw [bne_iff_ne.2 h1]
     rfl
   rw [this]
   rfl
  rw [claim_no hc,e]
  simp
theorem sound_eq {s:State} (hz:s.sz) (hu:∀ x ∈ s.jobs,U64 x.nodes):Ql7 s=QL7 s:=by
 unfold Ql7 QL7 QT3
 rw [plan_eq s hz hu]
 cases h:((QS3 s)!=0) with
 | true=>rfl
 | false =>
  have hpc:Ql2 s=0:=by rw [plan_eq s hz hu];simpa using h
  obtain ⟨hw,_⟩:=plan_well hz hu hpc
  simp only [cond_false]
  rw [rsound_g1 s _ 0 true (by omega) (by omega),any_Job,List.drop_zero,Bool.true_and]
  rw [Bool.eq_iff_iff,Bool.not_eq_true',List.any_eq_false,List.all_eq_true]
  exact ⟨fun k x hx=>by have:=k x hx;cases hr:rgood s x with|true=>rfl|false=>exact absurd ((good_eq hw hx).2 hr) this,fun k x hx g=>by have:=k x hx;rw [(good_eq hw hx).1 g] at this;cases this⟩
end Go.Proofs.YtcbolcknapeneaaGreatDoor
namespace Go.Proofs.YtcbolcknapeneaaGreatDoor
set_option linter.unusedSimpArgs false
set_option linter.unusedVariables false
open Go.Fw
set_option maxRecDepth 20000
set_option maxHeartbeats 4000000
attribute [local irreducible] ACalls AMoves
def QU7 (s:State):List Job->List Int->Nat->(List Int)
 | [],ids,_=>ids
 | x_1 :: r,ids,i1=>bif ((x_1.promise != (s.jobs.getD i1 Job.zero).promise)||(x_1.choice != (s.jobs.getD i1 Job.zero).choice)) then QU7 s r (ids++([x_1.id]:List Int)) (i1+1) else QU7 s r ids (i1+1)
def QR5 (fr:(List Job) × (List Int)) (ids:List Int):(List Job) × (List Int):=(fr.1,ids)
def Qrc (s:State) (c:State):(List Job) × (List Int):=(fun fr:(List Job) × (List Int)=>QR5 fr (QU7 s fr.1 [] 0)) (Qp1 c)
def QY2 :List Job->Nat->List Job->(List Job)
 | [],_,c2=>c2
 | _ :: r,i,c2=>(fun dro:Job × Int=>bif (dro.2==0) then QY2 r (i+1) (c2.set i dro.1) else QY2 r (i+1) c2) (Q57 (c2.getD i Job.zero))
def QQ5 (s:State) (c2:List Job):(List Job) × (List Int):=Qrc s { s with jobs:=c2 }
def Qw4 (s:State):(List Job) × (List Int):=bif ((Ql2 s)!=0) then (s.jobs,[]) else QQ5 s (QY2 s.jobs 0 s.jobs)
theorem plan_Anew_c (s:State) (hs0:s.sz):∀ objs,AGives Tryz.prog 24 [State.a s] objs (AVal.tup [jobL ((Qw4 s).1),ints ((Qw4 s).2)]):=by
 generalize hR:Qw4 s=R;refine ga (.cons (State.low _ _) .nil) (Low.tup' (.cons lw (.cons lw .nil))) (kj [1000012] 15 [17,27,28,29,30,40,52,53,54,55,75]) Tryz.func24 ?_;have hk0:=hs0;obtain ⟨z21,z22,z23,z24,z25,z26,z27⟩:=hs0;refine us (QS5 s (by first|((exact hx.1))|first|((exact Qy0 hx.1 (Job.szz _)))|exact szA) _) ?_;refine ai (fun h1=>?_) (fun h2=>?_)
 ·refine us (mv [] (QK8 s.jobs (by first|((exact hx.1))|first|((exact Qy0 hx.1 (Job.szz _)))|exact szA)) .nil (dl lw .nil) (rO rr .nil) (rw_ 1 0 rfl)) ?_;obtain rfl:=foll hR (ct h1 rfl);exact Q00 (Low.tup' (.cons lw (.cons lw .nil))) (Seen.tup (ev (Ql1 Job.zero _ rfl eqA lnA) (ev (Qs0) .nil)))
 ·refine us (mv [] (QK8 s.jobs (by first|((exact hx.1))|first|((exact Qy0 hx.1 (Job.szz _)))|exact szA)) .nil (dl lw .nil) (rO rr .nil) (rw_ 2 0 rfl)) ?_;refine QY0 (fun (c:State)=>Qrc s c=R∧(c.sz∧c.jobs.length=s.jobs.length)) (fun c=>[(1,AVal.ptr 0 0 8 0 0),(2,AVal.lit (.slice none 0 0)),(3,AVal.lit (.slice none 0 0)),(4,AVal.ptr 1 0 8 0 0)]) (fun c=>[(0,AObj.row 28 8 [[I s.now,nodeL s.nodes,jobL s.jobs,Q02 s.resizes,bookL s.books,QU1 s.ledger,I s.nextJob,I s.nextBook]]),(0,AObj.row 28 8 [[I c.now,nodeL c.nodes,jobL c.jobs,Q02 c.resizes,bookL c.books,QU1 c.ledger,I c.nextJob,I c.nextBook]])]) ?_ ?_
  ·clear hR;rintro c ⟨hR,hx⟩;(try dsimp only at hR hx);refine us (Qsc c (by first|((exact hx.1))|first|((exact Qy0 hx.1 (Job.szz _)))|exact szA) _) ?_;generalize hvfr:Qp1 c=fr;(have hfr:fr.1.length=s.jobs.length∧(∀ y ∈ fr.1,y.sz):=by rw [← hvfr];exact ⟨(Q87 hx.1).1.trans hx.2,(Q87 hx.1).2.1⟩);refine Qh0 (fun (ids:List Int) (i1:Nat)=>QR5 fr (QU7 s (List.drop i1 fr.1) ids i1)=R∧i1<=fr.1.length∧ids.length<=i1) (fun ids i1=>fr.1.length - i1) (fun ids i1=>[(1,AVal.ptr 0 0 8 0 0),(2,AVal.lit (.slice none 0 0)),(3,AVal.lit (.slice none 0 0)),(9,jobL fr.1),(11,AVal.own 1 0 1 0 ids.length),(52,jobL fr.1),(53,I (fr.1.length:Int)),(54,I (i1:Int))]) (fun ids i1=>[(0,AObj.row 28 8 [[I s.now,nodeL s.nodes,jobL s.jobs,Q02 s.resizes,bookL s.books,QU1 s.ledger,I s.nextJob,I s.nextBook]]),(0,AObj.row 3 1 (ids.map (fun q_=>[I q_])))]) [] 0 ((QD1 3 1).trans (wk [0,2] (tO rfl (ts State.lo) (tO rfl (tl eqA) .nil)) (sv (Q10 0 rfl rfl) (s1 (s1 (sl lw (sv (Qj1 1 rfl) (sl lw (s1 (s1 .nil)))))))))) ⟨foll hR ((by subst hvfr;exact rfl)),by exact omA,by first|((exact ⟨⟨z21,by show c2.length<=4294967296;omega,hx.1,z24,z25,z26,z27⟩,hx.2⟩))|first|((exact ⟨fun y hy=>(List.mem_or_eq_of_mem_set hy).elim (hx.1 y) (fun e=>e ▸ hdro),by rw [List.length_set];exact hx.2⟩))|first|((exact hx))|first|((exact ⟨z23,rfl⟩))|exact exA⟩ ?_;clear hR;rintro ids i1 ⟨hR,hj,hx⟩;(try dsimp only at hR hj hx);refine ai (fun h3=>?_) (fun h4=>?_)
   ·have hlt:=ltA h3;rw [Q90 Job.zero hlt] at hR;have hxz:(fr.1.getD i1 Job.zero).sz:=Qy0 (by first|assumption|grind) (Job.szz _);have hkz:=hxz;obtain ⟨z5,z6,z7,z8,z9⟩:((fr.1.getD i1 Job.zero).name).size<=4294967296∧((fr.1.getD i1 Job.zero).user).size<=4294967296∧((fr.1.getD i1 Job.zero).account).size<=4294967296∧((((fr.1.getD i1 Job.zero).shape).alts).length<=4294967296)∧((fr.1.getD i1 Job.zero).after).length<=4294967296:=hxz;refine ai gkA ?_;refine ai gkA ?_;refine ai (fun h10=>?_) (fun h11=>?_)
    ·refine Or.inl ?_;(first|refine ⟨Qa2 8 rfl lnA apA,?_⟩|refine ⟨Qd1 8 rfl apA,?_⟩);exact Q60 (ids++([(fr.1.getD i1 Job.zero).id]:List Int)) (i1+1) (wk [0,1] (tO rfl (ts State.lo) (tO rfl (tl eqA) .nil)) (sv (Q10 0 rfl rfl) (s1 (s1 (sl lw (sv (to 1 lnA) (sl lw (s1 (sv (Q80 (I_eq (wr omA)) lx) .nil))))))))) omA ⟨foll hR (congrArg (fun p:(List Int)=>QR5 fr p) (ct h10 rfl)),by exact omA,by first|((exact ⟨⟨z21,by show c2.length<=4294967296;omega,hx.1,z24,z25,z26,z27⟩,hx.2⟩))|first|((exact ⟨fun y hy=>(List.mem_or_eq_of_mem_set hy).elim (hx.1 y) (fun e=>e ▸ hdro),by rw [List.length_set];exact hx.2⟩))|first|((exact hx))|first|((exact ⟨z23,rfl⟩))|exact exA⟩
    ·exact Q60 ids (i1+1) (wk [0,1] (tO rfl (ts State.lo) (tO rfl (tl eqA) .nil)) (sv (Q10 0 rfl rfl) (s1 (s1 (sl lw (sv (to 1 lnA) (sl lw (s1 (sv (Q80 (I_eq (wr omA)) lx) .nil))))))))) omA ⟨foll hR (congrArg (fun p:(List Int)=>QR5 fr p) (cf h11 rfl)),by exact omA,by first|((exact ⟨⟨z21,by show c2.length<=4294967296;omega,hx.1,z24,z25,z26,z27⟩,hx.2⟩))|first|((exact ⟨fun y hy=>(List.mem_or_eq_of_mem_set hy).elim (hx.1 y) (fun e=>e ▸ hdro),by rw [List.length_set];exact hx.2⟩))|first|((exact hx))|first|((exact ⟨z23,rfl⟩))|exact exA⟩
   ·rw [Qf0 (l:=fr.1) (j:=i1) (geA h4)] at hR;replace hR:QR5 fr ids=R:=fo2 (fun p:(List Int)=>QR5 fr p) (ids) hR rfl;obtain rfl:=foll hR rfl;exact Q00 (Low.tup' (.cons lw (.cons lw .nil))) (Seen.tup (e1 (ev (Ql1 0 _ rfl eqA lnA) .nil)))
  ·refine Qh0 (fun (i:Nat) (c2:List Job)=>QQ5 s (QY2 (List.drop i s.jobs) i c2)=R∧i<=s.jobs.length∧(∀ y ∈ c2,y.sz)∧c2.length=s.jobs.length) (fun i c2=>s.jobs.length - i) (fun i c2=>[(1,AVal.ptr 0 0 8 0 0),(2,AVal.lit (.slice none 0 0)),(3,AVal.lit (.slice none 0 0)),(4,AVal.ptr 1 0 8 0 0),(27,AVal.own 2 0 20 0 c2.length),(28,I (s.jobs.length:Int)),(29,I (i:Int))]) (fun i c2=>[(0,AObj.row 28 8 [[I s.now,nodeL s.nodes,jobL s.jobs,Q02 s.resizes,bookL s.books,QU1 s.ledger,I s.nextJob,I s.nextBook]]),(0,AObj.row 28 8 [[I s.now,nodeL s.nodes,AVal.own 2 0 20 0 c2.length,Q02 s.resizes,bookL s.books,QU1 s.ledger,I s.nextJob,I s.nextBook]]),(0,AObj.row 35 20 (c2.map Job.cells))]) 0 s.jobs (wk [0,1,2] (tO rfl (ts State.lo) (tO rfl (Qd0 (c1 (cv (Qq0 lw) (cv (to 2 lnA) (cv (Qq0 lw) (cv (Qq0 lw) (cv (Qq0 lw) (c1 (c1 .nil))))))))) (tO rfl (tl eqA) .nil))) (sv (Q10 0 rfl rfl) (s1 (s1 (sv (Q10 1 rfl rfl) (sv (to 2 lnA) (s1 (s1 .nil)))))))) ⟨foll hR (cf h2 rfl),by exact omA,by first|((exact ⟨⟨z21,by show c2.length<=4294967296;omega,hx.1,z24,z25,z26,z27⟩,hx.2⟩))|first|((exact ⟨fun y hy=>(List.mem_or_eq_of_mem_set hy).elim (hx.1 y) (fun e=>e ▸ hdro),by rw [List.length_set];exact hx.2⟩))|first|((exact hx))|first|((exact ⟨z23,rfl⟩))|exact exA⟩ ?_;clear hR;rintro i c2 ⟨hR,hj,hx⟩;(try dsimp only at hR hj hx);refine ai (fun h12=>?_) (fun h13=>?_)
   ·have hlt:=ltA h12;rw [Q90 Job.zero hlt] at hR;have hxz:(s.jobs.getD i Job.zero).sz:=Qy0 (by first|assumption|grind) (Job.szz _);have hkz:=hxz;obtain ⟨z14,z15,z16,z17,z18⟩:((s.jobs.getD i Job.zero).name).size<=4294967296∧((s.jobs.getD i Job.zero).user).size<=4294967296∧((s.jobs.getD i Job.zero).account).size<=4294967296∧((((s.jobs.getD i Job.zero).shape).alts).length<=4294967296)∧((s.jobs.getD i Job.zero).after).length<=4294967296:=hxz;refine ai gkA ?_;refine ⟨_,QL1 rfl rfl rfl (QV1 Job.zero i (by first|rfl|exact Nat.zero_add _|omega) ckA) rfl,?_⟩;refine us (job_Drop_c (c2.getD i Job.zero) (by first|((exact hx.1))|first|((exact Qy0 hx.1 (Job.szz _)))|exact szA) _) ?_;generalize hvdro:Q57 (c2.getD i Job.zero)=dro;(have hdro:dro.1.sz:=by rw [← hvdro];exact QJd (Qy0 hx.1 (Job.szz _)));refine ai (fun h19=>?_) (fun h20=>?_)
    ·refine ai gkA ?_;refine ⟨_,QA3 rfl rfl rfl rfl (QV1 Job.zero i (by first|rfl|exact Nat.zero_add _|omega) ckA) rfl rfl (set_map i dro.1 (by first|rfl|exact Nat.zero_add _|omega) rfl),?_⟩;exact Q60 (i+1) (c2.set i dro.1) (wk [0,1,2] (tO rfl (ts State.lo) (tO rfl (Qd0 (c1 (cv (Qq0 lw) (cv (to 2 lnA) (cv (Qq0 lw) (cv (Qq0 lw) (cv (Qq0 lw) (c1 (c1 .nil))))))))) (tO rfl (tl eqA) .nil))) (sv (Q10 0 rfl rfl) (s1 (s1 (sv (Q10 1 rfl rfl) (sv (to 2 lnA) (s1 (sv (Q80 (I_eq (wr omA)) lx) .nil)))))))) omA ⟨foll hR (congrArg (fun p:(List Job)=>QQ5 s p) ((by subst hvdro;exact ct h19 rfl))),by exact omA,by first|((exact ⟨⟨z21,by show c2.length<=4294967296;omega,hx.1,z24,z25,z26,z27⟩,hx.2⟩))|first|((exact ⟨fun y hy=>(List.mem_or_eq_of_mem_set hy).elim (hx.1 y) (fun e=>e ▸ hdro),by rw [List.length_set];exact hx.2⟩))|first|((exact hx))|first|((exact ⟨z23,rfl⟩))|exact exA⟩
    ·exact Q60 (i+1) c2 (wk [0,1,2] (tO rfl (ts State.lo) (tO rfl (Qd0 (c1 (cv (Qq0 lw) (cv (to 2 lnA) (cv (Qq0 lw) (cv (Qq0 lw) (cv (Qq0 lw) (c1 (c1 .nil))))))))) (tO rfl (tl eqA) .nil))) (sv (Q10 0 rfl rfl) (s1 (s1 (sv (Q10 1 rfl rfl) (sv (to 2 lnA) (s1 (sv (Q80 (I_eq (wr omA)) lx) .nil)))))))) omA ⟨foll hR (congrArg (fun p:(List Job)=>QQ5 s p) ((by subst hvdro;exact cf h20 rfl))),by exact omA,by first|((exact ⟨⟨z21,by show c2.length<=4294967296;omega,hx.1,z24,z25,z26,z27⟩,hx.2⟩))|first|((exact ⟨fun y hy=>(List.mem_or_eq_of_mem_set hy).elim (hx.1 y) (fun e=>e ▸ hdro),by rw [List.length_set];exact hx.2⟩))|first|((exact hx))|first|((exact ⟨z23,rfl⟩))|exact exA⟩
   ·rw [Qf0 (l:=s.jobs) (j:=i) (geA h13)] at hR;replace hR:QQ5 s c2=R:=fo2 (fun p:(List Job)=>QQ5 s p) (c2) hR rfl;exact Q70 { s with jobs:=c2 } (wk [0,1] (tO rfl (ts State.lo) (tO rfl (Qd0 (c1 (cv (Qq0 lw) (cv (QX9 _ _ rfl (Nat.zero_le _) (by decide) eqA (fun _=>Job.lowc _ _) lnA) (cv (Qq0 lw) (cv (Qq0 lw) (cv (Qq0 lw) (c1 (c1 .nil))))))))) .nil)) (sv (Q10 0 rfl rfl) (s1 (s1 (sv (Q10 1 rfl rfl) .nil))))) (⟨foll hR rfl,by first|((exact ⟨⟨z21,by show c2.length<=4294967296;omega,hx.1,z24,z25,z26,z27⟩,hx.2⟩))|first|((exact ⟨fun y hy=>(List.mem_or_eq_of_mem_set hy).elim (hx.1 y) (fun e=>e ▸ hdro),by rw [List.length_set];exact hx.2⟩))|first|((exact hx))|first|((exact ⟨z23,rfl⟩))|exact exA⟩)
theorem QF7:∀ (l:List Job) (i:Nat) (c:List Job),(∀ y ∈ c,y.sz)->(QY2 l i c).length=c.length ∧ ∀ y ∈ QY2 l i c,y.sz
 | [],_,_,h=>⟨rfl,h⟩
 | _ :: r,i,c,h=>by
  rw [QY2]
  simp only
  cases ((Q57 (c.getD i Job.zero)).2==0) with
  | true =>
   obtain ⟨a,b⟩:=QF7 r (i+1) (c.set i (Q57 (c.getD i Job.zero)).1) (fun y hy=>(List.mem_or_eq_of_mem_set hy).elim (h y) fun e=>e ▸ QJd (Qy0 h (Job.szz _)))
   exact ⟨by simpa using a,b⟩
  | false=>exact QF7 r (i+1) c h
theorem plan_Anew_sz {s:State} (hz:s.sz):(Qw4 s).1.length<=4294967296∧(∀ y ∈ (Qw4 s).1,y.sz):=by
 have hz2:=hz.2.1
 unfold Qw4
 cases ((Ql2 s)!=0) with
 | true=>exact ⟨hz2,hz.2.2.1⟩
 | false =>
  obtain ⟨a,b⟩:=QF7 s.jobs 0 s.jobs hz.2.2.1
  have hs:({ s with jobs:=QY2 s.jobs 0 s.jobs }:State).sz:=⟨hz.1,by show (QY2 s.jobs 0 s.jobs).length<=_;rw [a];exact hz2,b,hz.2.2.2⟩
  obtain ⟨p,q,_⟩:=Q87 hs
  exact ⟨by show (Qp1 { s with jobs:=QY2 s.jobs 0 s.jobs }).1.length<=_;rw [p];exact hs.2.1,q⟩
end Go.Proofs.YtcbolcknapeneaaGreatDoor
namespace Go.Proofs.YtcbolcknapeneaaGreatDoor
set_option linter.unusedSimpArgs false
set_option linter.unusedVariables false
open Go.Fw
set_option maxRecDepth 20000
set_option maxHeartbeats 4000000
attribute [local irreducible] ACalls AMoves
def Qp6 :Bool:=((((((((((((((((Qp1 law21_two).1).length:Int)==2)&&((((Qp1 law21_two).1).getD 0 Job.zero).promise==5))&&((((Qp1 law21_two).1).getD 1 Job.zero).promise==27))&&((((Qp1 law21_two).2).length:Int)==2))&&((((Qw4 law21_two).1).length:Int)==2))&&((((Qw4 law21_two).1).getD 1 Job.zero).promise==27))&&((((Qw4 law21_two).2).length:Int)==2))&&((Qy5 law21_two (law21_two.jobs.getD 1 Job.zero) 100).1==0))&&((Qy5 law21_two (law21_two.jobs.getD 1 Job.zero) 100).2.1==5))&&(Qy5 law21_two (law21_two.jobs.getD 1 Job.zero) 100).2.2)&&(Ql7 law21_two))&&((Ql2 law21_two)==0))&&((Ql2 State.zero)==141))
theorem two21_sz:law21_two.sz:=⟨by decide,by decide,fun y hy=>by rcases List.mem_cons.1 hy with rfl|hy;exact ⟨by decide,by decide,by decide,(by decide:(1:Nat)<=4294967296),by decide⟩;rw [List.mem_singleton.1 hy];exact ⟨by decide,by decide,by decide,(by decide:(1:Nat)<=4294967296),by decide⟩,by decide,by decide,by decide,fun _ h=>absurd h List.not_mem_nil⟩
theorem f21 {s:State} {P:Prop} (F:s.sz) (k:s.sz->s.nodes.length<=4294967296->s.jobs.length<=4294967296->(∀ y ∈ s.jobs,y.sz)->(Qp1 s).1.length<=4294967296->(∀ y ∈ (Qp1 s).1,y.sz)->(Qp1 s).2.length<=4294967296->(Qw4 s).1.length<=4294967296->(∀ y ∈ (Qw4 s).1,y.sz)->({ s with jobs:=(Qp1 s).1 }:State).sz->({ s with jobs:=(Qw4 s).1 }:State).sz->P):P:=by
 have A:=Q87 F
 have B:=plan_Anew_sz F
 have F2:=F.2.1
 have a1:(Qp1 s).1.length<=4294967296:=by rw [A.1];exact F2
 have a2:(Qp1 s).2.length<=4294967296:=Nat.le_trans A.2.2 F2
 exact k F F.1 F.2.1 F.2.2.1 a1 A.2.1 a2 B.1 B.2 ⟨F.1,a1,A.2.1,F.2.2.2⟩ ⟨F.1,B.1,B.2,F.2.2.2⟩
theorem QE8 :∀ objs,AGives Tryz.prog 13 [] objs (Bo Qp6):=by
 generalize hR:Qp6=R;refine ga .nil lx (kp 8 []) Tryz.func13 ?_;refine us (Qq6 _) ?_;refine us (Qsc law21_two (by first|(exact two21_sz)|first|((refine f21 two21_sz (fun a b c d e f g h i j k=>?_);with_reducible first|assumption|exact Qy0 d (Job.szz _)|exact Qy0 f (Job.szz _)|exact Qy0 i (Job.szz _)))|first|((exact (Qy0 two21_sz.2.2.1 (Job.szz _))))|exact szA) _) ?_;refine us (Qq6 _) ?_;refine us (plan_Anew_c law21_two (by first|(exact two21_sz)|first|((refine f21 two21_sz (fun a b c d e f g h i j k=>?_);with_reducible first|assumption|exact Qy0 d (Job.szz _)|exact Qy0 f (Job.szz _)|exact Qy0 i (Job.szz _)))|first|((exact (Qy0 two21_sz.2.2.1 (Job.szz _))))|exact szA) _) ?_;refine us (Qq6 _) ?_;refine us (Qq6 _) ?_;refine ai gkA ?_;refine us (plan_One_c law21_two (law21_two.jobs.getD 1 Job.zero) 100 (by first|(exact two21_sz)|first|((refine f21 two21_sz (fun a b c d e f g h i j k=>?_);with_reducible first|assumption|exact Qy0 d (Job.szz _)|exact Qy0 f (Job.szz _)|exact Qy0 i (Job.szz _)))|first|((exact (Qy0 two21_sz.2.2.1 (Job.szz _))))|exact szA) (by first|(exact two21_sz)|first|((refine f21 two21_sz (fun a b c d e f g h i j k=>?_);with_reducible first|assumption|exact Qy0 d (Job.szz _)|exact Qy0 f (Job.szz _)|exact Qy0 i (Job.szz _)))|first|((exact (Qy0 two21_sz.2.2.1 (Job.szz _))))|exact szA) _) ?_;refine ai gkA ?_;refine ai gkA ?_;refine ai gkA ?_;(first|apply u2|apply u3|apply u4|apply us);exact Qq6 _;(first|apply u2|apply u3|apply u4|apply us);exact Qn9 law21_two (by first|(exact two21_sz)|first|((refine f21 two21_sz (fun a b c d e f g h i j k=>?_);with_reducible first|assumption|exact Qy0 d (Job.szz _)|exact Qy0 f (Job.szz _)|exact Qy0 i (Job.szz _)))|first|((exact (Qy0 two21_sz.2.2.1 (Job.szz _))))|exact szA) _;(first|apply u2|apply u3|apply u4|apply us);exact Qq6 _;(first|apply u2|apply u3|apply u4|apply us);exact QS5 law21_two (by first|(exact two21_sz)|first|((refine f21 two21_sz (fun a b c d e f g h i j k=>?_);with_reducible first|assumption|exact Qy0 d (Job.szz _)|exact Qy0 f (Job.szz _)|exact Qy0 i (Job.szz _)))|first|((exact (Qy0 two21_sz.2.2.1 (Job.szz _))))|exact szA) _;(first|apply u2|apply u3|apply u4|apply us);exact AGives.as2 (QS5 State.zero (by first|(exact two21_sz)|first|((refine f21 two21_sz (fun a b c d e f g h i j k=>?_);with_reducible first|assumption|exact Qy0 d (Job.szz _)|exact Qy0 f (Job.szz _)|exact Qy0 i (Job.szz _)))|first|((exact (Qy0 two21_sz.2.2.1 (Job.szz _))))|exact szA) _) (av (as_agg (a1 (av (Q79) (av (Q79) (av (Q79) (av (Q79) (av (Q79) (a1 (a1 .nil))))))))) .nil);obtain rfl:=foll hR rfl;exact Q00 lx sr
end Go.Proofs.YtcbolcknapeneaaGreatDoor
namespace Go.Proofs.YtcbolcknapeneaaGreatDoor
set_option linter.unusedSimpArgs false
set_option linter.unusedVariables false
open Go.Fw
theorem plan_awake:Qp6=true:=by kernel_rfl
end Go.Proofs.YtcbolcknapeneaaGreatDoor
namespace Go.Proofs.YtcbolcknapeneaaGreatDoor
set_option linter.unusedSimpArgs false
set_option linter.unusedVariables false
open Go.Fw
set_option maxRecDepth 20000
set_option maxHeartbeats 4000000
attribute [local irreducible] ACalls AMoves
def Q67 (s:State) (j:Job) (latest:Int):Bool:=bif ((!(Qo8 s))||(!(QP6 j))) then Qp6 else ((((((Qy5 s j latest).1==(Qc6 s j latest).1)&&((Qy5 s j latest).2.1==(Qc6 s j latest).2.1))&&((Qy5 s j latest).2.2==(Qc6 s j latest).2.2))&&((Ql7 s)==(QL7 s)))&&Qp6)
theorem QPd (s:State) (j:Job) (latest:Int) (hs0:s.szM) (hs1:j.szM):∀ objs,AGives Tryz.prog 3 [State.a s,Job.a j,I latest] objs (Bo (Q67 s j latest)):=by
 generalize hR:Q67 s j latest=R;refine ga (.cons (State.low _ _) (.cons (Job.low _ _) (l1 .nil))) lx (kp 13 [20]) Tryz.func3 ?_;have hk0:=hs0;obtain ⟨z3,z4,z5,z6,z7,z8,z9⟩:=hs0;have hk1:=hs1;obtain ⟨z10,z11,z12,z13,z14⟩:j.name.size<=9223372036854775807∧j.user.size<=9223372036854775807∧j.account.size<=9223372036854775807∧(j.shape.alts.length<=9223372036854775807)∧j.after.length<=9223372036854775807:=hs1;refine us (law20_Few_c s (by first|((have q:=h2;simp at q;first|exact Q91 q.1|exact Q81 q.2))|first|((have q:=hg;simp at q;first|exact Q91 q|exact Q81 q))|exact szA) _) ?_;(first|apply u3g|apply u4g);exact fun hg=>QOd j _;refine ai (fun h1=>?_) (fun h2=>?_)
 ·refine us (QE8 _) ?_;obtain rfl:=foll hR (ct h1 rfl);exact Q00 lx sr
 ·refine us (plan_One_c s j latest (by first|((have q:=h2;simp at q;first|exact Q91 q.1|exact Q81 q.2))|first|((have q:=hg;simp at q;first|exact Q91 q|exact Q81 q))|exact szA) (by first|((have q:=h2;simp at q;first|exact Q91 q.1|exact Q81 q.2))|first|((have q:=hg;simp at q;first|exact Q91 q|exact Q81 q))|exact szA) _) ?_;refine us (ref21_One_c s j latest (by first|((have q:=h2;simp at q;first|exact Q91 q.1|exact Q81 q.2))|first|((have q:=hg;simp at q;first|exact Q91 q|exact Q81 q))|exact szA) (by first|((have q:=h2;simp at q;first|exact Q91 q.1|exact Q81 q.2))|first|((have q:=hg;simp at q;first|exact Q91 q|exact Q81 q))|exact szA) _) ?_;refine dchk (by kernel_rfl) ?_;(first|apply u3g|apply u4g);exact fun hg=>Qn9 s (by first|((have q:=h2;simp at q;first|exact Q91 q.1|exact Q81 q.2))|first|((have q:=hg;simp at q;first|exact Q91 q|exact Q81 q))|exact szA) _;(first|apply u3g|apply u4g);exact fun hg=>Qpb s (by first|((have q:=h2;simp at q;first|exact Q91 q.1|exact Q81 q.2))|first|((have q:=hg;simp at q;first|exact Q91 q|exact Q81 q))|exact szA) _;(first|apply u3g|apply u4g);exact fun hg=>QE8 _;(repeat ((first|refine ai rfl ?_|refine ai (fun _=>rfl) ?_|refine ai (fun _=>Qn9 s (by first|((have q:=h2;simp at q;first|exact Q91 q.1|exact Q81 q.2))|first|((have q:=hg;simp at q;first|exact Q91 q|exact Q81 q))|exact szA) _) ?_|refine ai (fun _=>Qpb s (by first|((have q:=h2;simp at q;first|exact Q91 q.1|exact Q81 q.2))|first|((have q:=hg;simp at q;first|exact Q91 q|exact Q81 q))|exact szA) _) ?_|refine ai (fun _=>QE8 _) ?_)));obtain rfl:=foll hR (cf h2 rfl);exact Q00 lx sr
end Go.Proofs.YtcbolcknapeneaaGreatDoor
namespace Go.Proofs.YtcbolcknapeneaaGreatDoor
set_option linter.unusedSimpArgs false
set_option linter.unusedVariables false
open Go.Fw
set_option maxRecDepth 20000
set_option maxHeartbeats 4000000
attribute [local irreducible] ACalls AMoves
end Go.Proofs.YtcbolcknapeneaaGreatDoor
namespace Go.Proofs.YtcbolcknapeneaaGreatDoor
set_option linter.unusedSimpArgs false
set_option linter.unusedVariables false
open Go.Fw
theorem planOne_true {s:State} {j:Job} {latest:Int} (hu:∀ x ∈ s.jobs,U64 x.nodes) (hj:U64 j.nodes) (ha:Qp6=true):Q67 s j latest=true:=by
 unfold Q67
 rw [ha]
 cases h:((!(Qo8 s))||(!(QP6 j))) with
 | true=>rfl
 | false =>
  simp at h
  have hz:=Q91 h.1
  rw [one_eq hz hu hj latest,sound_eq hz hu]
  simp
end Go.Proofs.YtcbolcknapeneaaGreatDoor
namespace Go.Fw
set_option linter.unusedSimpArgs false
set_option linter.unusedVariables false
open Go.RowKit Go.ChangeShapes Go.WideShapes Go.Deep
theorem QQd {C:Checked} {os:Os} {f:FuncId} {fn:Func} {s:ChangeSpec} {laid0:List (String × DataW Unit)} {conds:List PathCond} {apart fresh handsOn again:Bool} {H:Type} {enc:TypeId × Value->H} {Q:List AVal->Prop} {tb:TypeId}
  (own:ownKnob C.prog.godebug=none) (started:os.Started) (noInit:C.prog.inits.idxOf? f=none) (hfn:C.prog.funcs[f]? = some fn)
  (witness:∃ (w:World) (tape:Tape) (i:Input),w.os=os∧(w.forCall tape i).Shaped C.prog∧i.vars=[]∧Input.okWide C.prog (w.forCall tape i) .any w.heap.size f i ∧
   ((s.pre enc C.prog fn conds apart (w.forCall tape i).memory i.args∧laidMetH C.prog laid0 (w.forCall tape i).memory)∧sizedMet enc C.prog fn (OpenSpec.ofChange s) apart (w.forCall tape i).memory i.args)∧({}:Assume).holds C.prog (lone (Frame.enter C.prog f i.args .normal) [] (w.forCall tape i)))
  (hvars:s.vars=[]) (hres:fn.resultTypes = #[tb]) (hbool:C.prog.underlying tb=some .bool) (laid:laidOutB C.prog=true)
  (hts:fn.params.toList.all (fun t=>C.prog.readableRec t&&decide (t<C.prog.types.size))=true)
  (hspec:∀ ds:List (DataW H),ds.length=fn.params.size->s.fn H ds={ results:=[.lit (.bool true)],args:=ds })
  (hargs:ArgsAs C.prog fn.params.toList Q) (hlaw:∀ l,Q l->AGives C.prog f l [] (.lit (.bool true))) :
  ReturnsInHanded {} C os f .any (fun w args=>(s.pre enc C.prog fn conds apart w args∧laidMetH C.prog laid0 w)∧sizedMet enc C.prog fn (OpenSpec.ofChange s) apart w args) (s.post enc C.prog fn apart fresh handsOn again):=by
 refine returnsInHanded_of_change_and (X:=fun w _=>laidMetH C.prog laid0 w) (fun _ _ _ hh h=>h.of_heap hh) own started noInit hfn witness ?_
 intro W base args ds gs before hval hW hcnd _ _ _
 have hW':=hW
 obtain ⟨p,q,hA,hV,hpq,hfz,hnd⟩:=hW
 rw [hvars] at hV
 obtain ⟨rfl,rfl⟩:=trodVars_none hV
 rw [List.append_nil] at hpq
 subst hpq
 obtain ⟨l,hQ,hreps⟩:=hargs.read (base:=base) (vs:=args.toList) (fun j t v hj hv=>hval j t v (by simpa using hj) (by simpa using hv)) hA
 have hc:=law_calls (hlaw l hQ) hreps
 rw [show args.toList.toArray=args by simp] at hc
 refine hc.mono fun e W' ⟨he,hb⟩=>?_
 subst he
 have hlen:ds.length=fn.params.size:=by
  have:∀ {ts:List TypeId} {vs:List Value} {ds:List (DataW H)} {ps:List MemPlace},DataW.TrodAll enc C.prog W 0 (fun _=>true) true ts vs ds ps->ds.length=ts.length:=by
   intro ts
   induction ts with
   | nil=>intro vs ds ps h;obtain ⟨rfl,rfl,rfl⟩:=trodAll_nil h;rfl
   | cons t ts ih=>intro vs ds ps h;obtain ⟨v,vs',d,ds',p,q,rfl,rfl,rfl,hd,hrest⟩:=trodAll_cons h;simp [ih hrest]
  simpa using this hA
 have hfn2:=hspec ds hlen
 have hold:∀ p ∈ before,p.block<W.heap.size:=fun p hp=>by simpa using hW'.lt p hp
 have hR:∀ (b:Nat) (sp:Nat->Bool) (hd:Bool),DataW.TrodAll enc C.prog W' b sp hd fn.resultTypes.toList ((Value.bool true).resultList fn.resultTypes.size) (s.fn H (ds++[])).results []:=by
  intro b sp hd
  rw [List.append_nil,hfn2,hres]
  exact trodAll_cons_mk (shut_bool hbool _) trodAll_mk0
 have hAr:∀ sp:Nat->Bool,(∀ p ∈ before,sp p.block=true)->DataW.TrodAll enc C.prog W' 0 sp true fn.params.toList args.toList (s.fn H (ds++[])).args before:=by
  intro sp hsp
  rw [List.append_nil,hfn2]
  exact QCb laid hb hts hA hold hsp
 have hVr:∀ sp:Nat->Bool,DataW.TrodVars enc C.prog W' sp s.vars (s.fn H (ds++[])).vars []:=by
  intro sp
  rw [List.append_nil,hfn2,hvars]
  rfl
 refine ⟨_,rfl,ds,[],before,[],before,[],hW',hR _ _ _,hAr _ (fun p hp=>by simpa using hold p hp),hVr _,hb.frame _,fun _=>⟨ok_one hres rfl (okWide_bool_mk hbool _),_,_,([]++before)++[],⟨[]++before,[],trodAll_append (hAr _ (fun _ _=>rfl)) (hR _ _ _),hVr _,rfl,?_,?_⟩,?_⟩⟩
 ·intro b off hp
  have hp:MemPlace.cell b off ∈ before:=by simpa using hp
  rw [hb.frozen (p:=⟨b,off,none⟩) (hold _ hp)]
  exact hfz b off (by simpa using hp)
 ·intro ha
  simpa using hnd ha
 ·intro p hp _
  simpa using hp
end Go.Fw
namespace Go.Proofs.YtcbolcknapeneaaGreatDoor
set_option linter.unusedSimpArgs false
set_option linter.unusedVariables false
open Go.Fw
set_option maxRecDepth 100000
theorem ty3:Tryz.prog.underlying 33 = some (.int .u64):=by kernel_rfl
theorem ty2:Tryz.prog.underlying 9 = some (.string):=by kernel_rfl
theorem ty1:Tryz.prog.underlying 4 = some (.bool):=by kernel_rfl
theorem ty0:Tryz.prog.underlying 3 = some (.int .i64):=by kernel_rfl
def Node.wf (x:Node):Prop:=(Lit.int .i64 x.state).wf=true∧(Lit.int .i64 x.job).wf=true∧(Lit.int .i64 x.epoch).wf=true∧True∧(Lit.int .i64 x.want).wf=true∧(Lit.int .i64 x.since).wf=true∧(Lit.int .i64 x.asked).wf=true∧True
theorem readNode:ReadAs Tryz.prog 72 Node.cells Node.wf:=by
 have h:=ReadAs.struct (P:=Tryz.prog) (t:=72) rfl (by kernel_rfl) (.cons rfl (ReadAs.int ty0) (.cons rfl (ReadAs.int ty0) (.cons rfl (ReadAs.int ty0) (.cons rfl (ReadAs.bool ty1) (.cons rfl (ReadAs.int ty0) (.cons rfl (ReadAs.int ty0) (.cons rfl (ReadAs.int ty0) .nil)))))))
 exact h.map (fun p=>(⟨p.1,p.2.1,p.2.2.1,p.2.2.2.1,p.2.2.2.2.1,p.2.2.2.2.2.1,p.2.2.2.2.2.2.1⟩:Node)) (fun _=>rfl) (fun _ h=>h)
theorem readNodes:ReadAs Tryz.prog 22 (fun l=>[nodeL l]) fun l=>l.length<=maxLen ∧ ∀ a ∈ l,Node.wf a :=
 ReadAs.slice Node.zero rfl (by kernel_rfl) (by decide) readNode (fun _=>rfl)
def Alt.wf (x:Alt):Prop:=(Lit.int .i64 x.nodes).wf=true∧(Lit.int .i64 x.wall).wf=true∧True
theorem readAlt:ReadAs Tryz.prog 179 Alt.cells Alt.wf:=by
 have h:=ReadAs.struct (P:=Tryz.prog) (t:=179) rfl (by kernel_rfl) (.cons rfl (ReadAs.int ty0) (.cons rfl (ReadAs.int ty0) .nil))
 exact h.map (fun p=>(⟨p.1,p.2.1⟩:Alt)) (fun _=>rfl) (fun _ h=>h)
theorem readAlts:ReadAs Tryz.prog 29 (fun l=>[altL l]) fun l=>l.length<=maxLen ∧ ∀ a ∈ l,Alt.wf a :=
 ReadAs.slice Alt.zero rfl (by kernel_rfl) (by decide) readAlt (fun _=>rfl)
def Shape.wf (x:Shape):Prop:=(Lit.int .i64 x.kind).wf=true∧(x.alts.length<=maxLen ∧ ∀ a ∈ x.alts,Alt.wf a)∧(Lit.int .i64 x.min).wf=true∧(Lit.int .i64 x.max).wf=true∧(Lit.int .i64 x.wall).wf=true∧True
theorem readShape:ReadAs Tryz.prog 31 Shape.cells Shape.wf:=by
 have h:=ReadAs.struct (P:=Tryz.prog) (t:=31) rfl (by kernel_rfl) (.cons rfl (ReadAs.int ty0) (.cons rfl (readAlts) (.cons rfl (ReadAs.int ty0) (.cons rfl (ReadAs.int ty0) (.cons rfl (ReadAs.int ty0) .nil)))))
 exact h.map (fun p=>(⟨p.1,p.2.1,p.2.2.1,p.2.2.2.1,p.2.2.2.2.1⟩:Shape)) (fun _=>rfl) (fun _ h=>h)
def Dep.wf (x:Dep):Prop:=(Lit.int .i64 x.how).wf=true∧(Lit.int .i64 x.job).wf=true∧True
theorem readDep:ReadAs Tryz.prog 111 Dep.cells Dep.wf:=by
 have h:=ReadAs.struct (P:=Tryz.prog) (t:=111) rfl (by kernel_rfl) (.cons rfl (ReadAs.int ty0) (.cons rfl (ReadAs.int ty0) .nil))
 exact h.map (fun p=>(⟨p.1,p.2.1⟩:Dep)) (fun _=>rfl) (fun _ h=>h)
theorem readDeps:ReadAs Tryz.prog 32 (fun l=>[depL l]) fun l=>l.length<=maxLen ∧ ∀ a ∈ l,Dep.wf a :=
 ReadAs.slice Dep.zero rfl (by kernel_rfl) (by decide) readDep (fun _=>rfl)
def Job.wf (x:Job):Prop:=(Lit.int .i64 x.id).wf=true∧x.name.size<=maxLen∧x.user.size<=maxLen∧x.account.size<=maxLen∧Shape.wf x.shape∧(Lit.int .i64 x.prio).wf=true∧(x.after.length<=maxLen ∧ ∀ a ∈ x.after,Dep.wf a)∧(Lit.int .i64 x.state).wf=true∧True∧(Lit.int .i64 x.born).wf=true∧(Lit.int .i64 x.promise).wf=true∧(Lit.int .i64 x.choice).wf=true∧(Lit.int .i64 x.start).wf=true∧(Lit.int .i64 x.limit).wf=true∧(Lit.int .u64 x.nodes).wf=true∧(Lit.int .i64 x.used).wf=true∧True
theorem readJob:ReadAs Tryz.prog 35 Job.cells Job.wf:=by
 have h:=ReadAs.struct (P:=Tryz.prog) (t:=35) rfl (by kernel_rfl) (.cons rfl (ReadAs.int ty0) (.cons rfl (ReadAs.string ty2) (.cons rfl (ReadAs.string ty2) (.cons rfl (ReadAs.string ty2) (.cons rfl (readShape) (.cons rfl (ReadAs.int ty0) (.cons rfl (readDeps) (.cons rfl (ReadAs.int ty0) (.cons rfl (ReadAs.bool ty1) (.cons rfl (ReadAs.int ty0) (.cons rfl (ReadAs.int ty0) (.cons rfl (ReadAs.int ty0) (.cons rfl (ReadAs.int ty0) (.cons rfl (ReadAs.int ty0) (.cons rfl (ReadAs.int ty3) (.cons rfl (ReadAs.int ty0) .nil))))))))))))))))
 exact h.map (fun p=>(⟨p.1,p.2.1,p.2.2.1,p.2.2.2.1,p.2.2.2.2.1,p.2.2.2.2.2.1,p.2.2.2.2.2.2.1,p.2.2.2.2.2.2.2.1,p.2.2.2.2.2.2.2.2.1,p.2.2.2.2.2.2.2.2.2.1,p.2.2.2.2.2.2.2.2.2.2.1,p.2.2.2.2.2.2.2.2.2.2.2.1,p.2.2.2.2.2.2.2.2.2.2.2.2.1,p.2.2.2.2.2.2.2.2.2.2.2.2.2.1,p.2.2.2.2.2.2.2.2.2.2.2.2.2.2.1,p.2.2.2.2.2.2.2.2.2.2.2.2.2.2.2.1⟩:Job)) (fun _=>rfl) (fun _ h=>h)
theorem readJobs:ReadAs Tryz.prog 23 (fun l=>[jobL l]) fun l=>l.length<=maxLen ∧ ∀ a ∈ l,Job.wf a :=
 ReadAs.slice Job.zero rfl (by kernel_rfl) (by decide) readJob (fun _=>rfl)
def Resize.wf (x:Resize):Prop:=(Lit.int .i64 x.job).wf=true∧True∧(Lit.int .u64 x.nodes).wf=true∧(Lit.int .u64 x.said).wf=true∧(Lit.int .i64 x.since).wf=true∧True
theorem readResize:ReadAs Tryz.prog 67 Resize.cells Resize.wf:=by
 have h:=ReadAs.struct (P:=Tryz.prog) (t:=67) rfl (by kernel_rfl) (.cons rfl (ReadAs.int ty0) (.cons rfl (ReadAs.bool ty1) (.cons rfl (ReadAs.int ty3) (.cons rfl (ReadAs.int ty3) (.cons rfl (ReadAs.int ty0) .nil)))))
 exact h.map (fun p=>(⟨p.1,p.2.1,p.2.2.1,p.2.2.2.1,p.2.2.2.2.1⟩:Resize)) (fun _=>rfl) (fun _ h=>h)
theorem readResizes:ReadAs Tryz.prog 24 (fun l=>[Q02 l]) fun l=>l.length<=maxLen ∧ ∀ a ∈ l,Resize.wf a :=
 ReadAs.slice Resize.zero rfl (by kernel_rfl) (by decide) readResize (fun _=>rfl)
def Book.wf (x:Book):Prop:=(Lit.int .i64 x.id).wf=true∧(Lit.int .i64 x.from_).wf=true∧(Lit.int .i64 x.to).wf=true∧(Lit.int .i64 x.nodes).wf=true∧True
theorem readBook:ReadAs Tryz.prog 166 Book.cells Book.wf:=by
 have h:=ReadAs.struct (P:=Tryz.prog) (t:=166) rfl (by kernel_rfl) (.cons rfl (ReadAs.int ty0) (.cons rfl (ReadAs.int ty0) (.cons rfl (ReadAs.int ty0) (.cons rfl (ReadAs.int ty0) .nil))))
 exact h.map (fun p=>(⟨p.1,p.2.1,p.2.2.1,p.2.2.2.1⟩:Book)) (fun _=>rfl) (fun _ h=>h)
theorem readBooks:ReadAs Tryz.prog 25 (fun l=>[bookL l]) fun l=>l.length<=maxLen ∧ ∀ a ∈ l,Book.wf a :=
 ReadAs.slice Book.zero rfl (by kernel_rfl) (by decide) readBook (fun _=>rfl)
def Usage.wf (x:Usage):Prop:=x.user.size<=maxLen∧x.account.size<=maxLen∧(Lit.int .i64 x.used).wf=true∧(Lit.int .i64 x.share).wf=true∧True
theorem readUsage:ReadAs Tryz.prog 177 Usage.cells Usage.wf:=by
 have h:=ReadAs.struct (P:=Tryz.prog) (t:=177) rfl (by kernel_rfl) (.cons rfl (ReadAs.string ty2) (.cons rfl (ReadAs.string ty2) (.cons rfl (ReadAs.int ty0) (.cons rfl (ReadAs.int ty0) .nil))))
 exact h.map (fun p=>(⟨p.1,p.2.1,p.2.2.1,p.2.2.2.1⟩:Usage)) (fun _=>rfl) (fun _ h=>h)
theorem readUsages:ReadAs Tryz.prog 26 (fun l=>[QU1 l]) fun l=>l.length<=maxLen ∧ ∀ a ∈ l,Usage.wf a :=
 ReadAs.slice Usage.zero rfl (by kernel_rfl) (by decide) readUsage (fun _=>rfl)
def State.wf (x:State):Prop:=(Lit.int .i64 x.now).wf=true∧(x.nodes.length<=maxLen ∧ ∀ a ∈ x.nodes,Node.wf a)∧(x.jobs.length<=maxLen ∧ ∀ a ∈ x.jobs,Job.wf a)∧(x.resizes.length<=maxLen ∧ ∀ a ∈ x.resizes,Resize.wf a)∧(x.books.length<=maxLen ∧ ∀ a ∈ x.books,Book.wf a)∧(x.ledger.length<=maxLen ∧ ∀ a ∈ x.ledger,Usage.wf a)∧(Lit.int .i64 x.nextJob).wf=true∧(Lit.int .i64 x.nextBook).wf=true∧True
theorem readState:ReadAs Tryz.prog 28 State.cells State.wf:=by
 have h:=ReadAs.struct (P:=Tryz.prog) (t:=28) rfl (by kernel_rfl) (.cons rfl (ReadAs.int ty0) (.cons rfl (readNodes) (.cons rfl (readJobs) (.cons rfl (readResizes) (.cons rfl (readBooks) (.cons rfl (readUsages) (.cons rfl (ReadAs.int ty0) (.cons rfl (ReadAs.int ty0) .nil))))))))
 exact h.map (fun p=>(⟨p.1,p.2.1,p.2.2.1,p.2.2.2.1,p.2.2.2.2.1,p.2.2.2.2.2.1,p.2.2.2.2.2.2.1,p.2.2.2.2.2.2.2.1⟩:State)) (fun _=>rfl) (fun _ h=>h)
end Go.Proofs.YtcbolcknapeneaaGreatDoor
namespace Go.Proofs.YtcbolcknapeneaaGreatDoor
set_option linter.unusedSimpArgs false
set_option linter.unusedVariables false
open Go.Fw
theorem Shape.wf_szM {x:Shape} (h:x.wf):x.szM:=h.2.1.1
theorem Job.wf_szM {x:Job} (h:x.wf):x.szM:=⟨h.2.1,h.2.2.1,h.2.2.2.1,Shape.wf_szM h.2.2.2.2.1,h.2.2.2.2.2.2.1.1⟩
theorem Usage.wf_szM {x:Usage} (h:x.wf):x.szM:=⟨h.1,h.2.1⟩
theorem State.wf_szM {x:State} (h:x.wf):x.szM :=
 ⟨h.2.1.1,h.2.2.1.1,fun y hy=>Job.wf_szM (h.2.2.1.2 y hy),h.2.2.2.1.1,h.2.2.2.2.1.1,h.2.2.2.2.2.1.1,fun y hy=>Usage.wf_szM (h.2.2.2.2.2.1.2 y hy)⟩
end Go.Proofs.YtcbolcknapeneaaGreatDoor
namespace Go.Proofs.YtcbolcknapeneaaGreatDoor
set_option linter.unusedSimpArgs false
set_option linter.unusedVariables false
open Go.Fw
theorem wf_u64 {n:Int} (h:(Lit.int .u64 n).wf=true):U64 n:=by
 unfold Lit.wf at h
 simp only [Bool.and_eq_true,decide_eq_true_eq] at h
 have e1:IntKind.u64.min=0:=by decide
 have e2:IntKind.u64.max=18446744073709551615:=by decide
 rw [e1,e2] at h
 unfold U64
 omega
theorem Job.wf_u64 {x:Job} (h:x.wf):U64 x.nodes:=by
 unfold Job.wf at h
 exact Go.Proofs.YtcbolcknapeneaaGreatDoor.wf_u64 h.2.2.2.2.2.2.2.2.2.2.2.2.2.2.1
end Go.Proofs.YtcbolcknapeneaaGreatDoor
