/-
  The program's search for room is the document's. Plain facts; conditions stand in each.
  One job's promise turned: what is left is as it was, less its new claim, with its old one given back. Plain facts; conditions stand in each.
  Who may start, and in which order: the program's answer is the document's. Conditions stand in each.
  One job's promise made earlier: what the program and the document do of it. Plain facts; conditions stand in each.
  The program's squeezing is the document's; both move promises one by one. Conditions stand in each.
  Which promises are due and which came later: the program's answers are the document's. Conditions stand in each.
  The answers that the law of squeezing asks of any program. No condition.
  The same for a row that lists package variables: from a law's contract to the row's statement: the arguments are read, the law is called, they read as they did. Program-independent.
  How arguments are read: structs of the program, with what is known of them. No condition.
  What is read is of a size that a machine holds. No condition.
  What is read as a word is one. No condition.
-/
import Derived.Test.YtjpgfmbccohngaaGreatDoorHM1
import Derived.Test.YtjpgfmbccohngaaGreatDoorH7
import Derived.Test.YtjpgfmbccohngaaGreatDoorH14
import Derived.Test.YtjpgfmbccohngaaGreatDoorH5
import Derived.LaidMore
import Derived.Stop.Joined
import Derived.JoinedOf
import Derived.Handed
import Derived.OpenShut
import Derived.KernelRfl
import Derived.Test.YtjpgfmbccohngaaGreatDoorProg
namespace Go.Proofs.YtjpgfmbccohngaaGreatDoor
set_option linter.unusedSimpArgs false
set_option linter.unusedVariables false
open Go.Fw
theorem QUf (a b n:Int):∀ (l:List Step) (out:Int) (i:Nat),n<=(QW2 a b l out i).1 ↔ n<=out ∧ ∀ x ∈ l,a<x.at_->x.at_<b->n<=x.free
 | [],out,i=>by simp [QW2]
 | x :: r,out,i=>by
  rw [QW2]
  cases hc:(((decide (x.at_ > a))&&(decide (x.at_<b)))&&(decide (x.free<out))) with
  | true =>
   simp only [Bool.and_eq_true,decide_eq_true_eq] at hc
   simp only [cond_true]
   rw [QUf a b n r x.free (i+1)]
   constructor
   ·rintro ⟨h1,h2⟩
    refine ⟨by omega,fun y hy=>?_⟩
    rcases List.mem_cons.1 hy with rfl|hy
    ·exact fun _ _=>h1
    ·exact h2 y hy
   ·rintro ⟨h1,h2⟩
    exact ⟨h2 x (List.mem_cons_self ..) (by omega) (by omega),fun y hy=>h2 y (List.mem_cons_of_mem _ hy)⟩
  | false =>
   simp only [cond_false]
   rw [QUf a b n r out (i+1)]
   constructor
   ·rintro ⟨h1,h2⟩
    refine ⟨h1,fun y hy=>?_⟩
    rcases List.mem_cons.1 hy with rfl|hy
    ·intro g1 g2
     simp only [Bool.and_eq_false_iff,decide_eq_false_iff_not] at hc
     omega
    ·exact h2 y hy
   ·rintro ⟨h1,h2⟩
    exact ⟨h1,fun y hy=>h2 y (List.mem_cons_of_mem _ hy)⟩
theorem Q3d {p:List Step} (hp:Cn p) {a b:Int} (n:Int) (h0:0<=a) (h1:a<=1000000) (hab:a<b):n<=Q57 p a b ↔ ∀ u,a<=u->u<b->n<=pat p u:=by
 have hc:(((((QA0 p)!=0)||(decide (a<0)))||(decide (a > 1000000)))||(decide (b<=a)))=false:=by
  rw [(Qm5 p).2 hp]
  simp;omega
 unfold Q57
 rw [hc]
 simp only [cond_false]
 unfold Qh4
 rw [QUf,now_eq]
 exact least_fit hp.1 a b n h0 hab
theorem Cn.srt {p:List Step} (h:Cn p):Srt (-1) p:=by
 have hp:=h.1
 cases p with
 | nil=>exact hp.elim
 | cons x r=>exact ⟨by have:=hp.1;omega,by have:=hp.1;omega,hp.2.1⟩
theorem Srt.drop:∀ {p:List Step} {a:Int} (i:Nat),Srt a p -> ∃ c,a<=c∧Srt c (p.drop i)
 | [],a,i,_=>⟨a,Int.le_refl _,by simp [Srt]⟩
 | _ :: _,a,0,h=>⟨a,Int.le_refl _,h⟩
 | x :: r,a,i+1,h=>by
  obtain ⟨c,h1,h2⟩:=Srt.drop i h.2.2
  exact ⟨c,by have:=h.1;omega,h2⟩
theorem pleast_g1 {p:List Step} (hs:Srt (-1) p) (hl:p.length<=1000) (b n:Int):∀ (m i:Nat) (k:Int),p.length - i<m->i<=p.length->(n<=(Qe3 p b m (i:Int) k).2 ↔ n<=k ∧ ∀ x ∈ p.drop i,x.at_<b->n<=x.free)
 | 0,_,_,h,_=>absurd h (by omega)
 | m+1,i,k,hm,hi=>by
  rw [Qe3]
  rcases Nat.lt_or_ge i p.length with hlt|hge
  ·have hd:=Q90 Step.zero hlt
   obtain ⟨c,_,hc⟩:=Srt.drop i hs
   rw [hd] at hc
   have hw:w64 ((i:Int)+1)=((i+1:Nat):Int):=wr (by omega)
   rw [show decide ((i:Int)<(p.length:Int))=true from decide_eq_true (by omega),Bool.true_and,Int.toNat_natCast,hw,hd]
   cases hb:decide ((p.getD i Step.zero).at_<b) with
   | true =>
    have hb:=of_decide_eq_true hb
    simp only [cond_true]
    rw [pleast_g1 hs hl b n m (i+1) _ (by omega) (by omega)]
    constructor
    ·rintro ⟨h1,h2⟩
     refine ⟨by omega,fun y hy=>?_⟩
     rcases List.mem_cons.1 hy with rfl|hy
     ·intro _;omega
     ·exact h2 y hy
    ·rintro ⟨h1,h2⟩
     have:=h2 _ (List.mem_cons_self ..) hb
     exact ⟨by omega,fun y hy=>h2 y (List.mem_cons_of_mem _ hy)⟩
   | false =>
    have hb:=of_decide_eq_false hb
    simp only [cond_false]
    constructor
    ·intro h1
     refine ⟨h1,fun y hy hyb=>?_⟩
     rcases List.mem_cons.1 hy with rfl|hy
     ·exact absurd hyb hb
     ·have:=(QEd (f:=0) hc.2.2 y hy).1
      omega
    ·exact fun h=>h.1
  ·rw [show decide ((i:Int)<(p.length:Int))=false from decide_eq_false (by omega),Bool.false_and,List.drop_eq_nil_of_le hge]
   simp
theorem pleast_iff {p:List Step} (hp:Cn p) {a b:Int} (n:Int) (h0:0<=a) (h1:a<=1000000) (hab:a<b):n<=QO5 p a b ↔ ∀ u,a<=u->u<b->n<=pat p u:=by
 have hc:((((QN1 p)!=0)||(!(QR2 a)))||(decide (b<=a)))=false:=by
  rw [QK6,(Qm5 p).2 hp]
  simp [QR2];omega
 obtain ⟨k,hk,hkl,hka,hkn⟩:=place_spec hp h0
 have hl:=hp.2.1
 have hw:w64 ((k:Int)+1)=((k+1:Nat):Int):=wr (by omega)
 unfold QO5
 rw [hc]
 simp only [cond_false]
 unfold QR3
 rw [hk,hw,Int.toNat_natCast,pleast_g1 hp.srt hl b n _ _ _ (by omega) (by omega),← least_fit hp.1 a b n h0 hab]
 have hpa:pat p a=(p.getD k Step.zero).free:=by
  have hcan:=hp.1
  cases p with
  | nil=>exact hcan.elim
  | cons x r =>
   show pv 0 (x :: r) a=_
   exact pv_at k x r 0 (by simp at hkl;omega) hcan.2.1 hka (fun h=>hkn h)
 rw [hpa]
 refine and_congr Iff.rfl ?_
 obtain ⟨c,_,hcs⟩:=Srt.drop k hp.srt
 rw [Q90 Step.zero hkl] at hcs
 constructor
 ·intro h x hx ha hb
  have hx2:x ∈ p.take (k+1)++p.drop (k+1):=by rw [List.take_append_drop];exact hx
  rcases List.mem_append.1 hx2 with hx2|hx2
  ·obtain ⟨j,hj,e⟩:=List.getElem_of_mem hx2
   have hj':j<k+1:=by simp at hj;omega
   have hjp:j<p.length:=by omega
   have e2:p[j]=x:=by rw [← e,List.getElem_take]
   have hle:x.at_<=a:=by
    rcases Nat.lt_or_ge j k with hjk|hjk
    ·obtain ⟨c2,_,hs2⟩:=Srt.drop j hp.srt
     rw [Q90 Step.zero hjp] at hs2
     have hm:p.getD k Step.zero ∈ p.drop (j+1):=by
      have:p.getD k Step.zero=(p.drop (j+1))[k - (j+1)]'(by simp;omega):=by
       rw [List.getElem_drop,List.getD_eq_getElem?_getD,List.getElem?_eq_getElem hkl]
       simp only [Option.getD_some]
       congr 1
       omega
      rw [this]
      exact List.getElem_mem _
     have:=(QEd (f:=0) hs2.2.2 _ hm).1
     rw [List.getD_eq_getElem?_getD,List.getElem?_eq_getElem hjp,Option.getD_some,e2] at this
     omega
    ·have:j=k:=by omega
     subst this
     rw [List.getD_eq_getElem?_getD,List.getElem?_eq_getElem hjp,Option.getD_some,e2] at hka
     exact hka
   omega
  ·exact h x hx2 hb
 ·intro h x hx hb
  refine h x (List.mem_of_mem_drop hx) ?_ hb
  have hx':a<x.at_:=by
   rcases Nat.lt_or_ge (k+1) p.length with hlt|hge
   ·have hn:=hkn hlt
    rw [Q90 Step.zero hlt] at hx
    have hs3:=hcs.2.2
    rw [Q90 Step.zero hlt] at hs3
    rcases List.mem_cons.1 hx with rfl|hx
    ·exact hn
    ·have:=(QEd (f:=0) hs3.2.2 x hx).1
     omega
   ·rw [List.drop_eq_nil_of_le hge] at hx
    cases hx
  exact hx'
theorem least_eq {p:List Step} (hp:Cn p) {a b:Int} (h0:0<=a) (h1:a<=1000000) (hab:a<b):QO5 p a b=Q57 p a b :=
 Int.le_antisymm ((Q3d hp _ h0 h1 hab).2 ((pleast_iff hp _ h0 h1 hab).1 (Int.le_refl _))) ((pleast_iff hp _ h0 h1 hab).2 ((Q3d hp _ h0 h1 hab).1 (Int.le_refl _)))
theorem QF7 (long n:Int):Q93 long n=true ↔ (1<=n∧n<=1000000)∧1<=long∧long<=1000000:=by
 simp [Q93,Q55]
theorem Qla {p:List Step} (hp:Cn p) {long n:Int} (ha:Q93 long n=true) {t:Int}:Q62 p t long n=true ↔ 0<=t∧t+long<=1000000∧Fit (pat p) long n t:=by
 obtain ⟨h1,h2⟩:=(QF7 long n).1 ha
 have hw:w64 (1000000 - long)=1000000 - long:=wr (by omega)
 unfold Q62
 rw [(Qm5 p).2 hp,hw]
 cases hc:((((((((0:Int)!=0)||(decide (n<1)))||(decide (n > 1000000)))||(decide (long<1)))||(decide (long > 1000000)))||(decide (t<0)))||(decide (t > 1000000 - long))) with
 | true =>
  simp only [cond_true]
  constructor
  ·intro h;cases h
  ·rintro ⟨g1,g2,_⟩
   simp at hc
   omega
 | false =>
  simp at hc
  have hw2:w64 (t+long)=t+long:=wr (by omega)
  simp only [cond_false,decide_eq_true_eq,ge_iff_le]
  rw [hw2,Q3d hp n (by omega) (by omega) (by omega)]
  exact ⟨fun h=>⟨by omega,by omega,h⟩,fun h=>h.2.2⟩
theorem QJa {p:List Step} {long n:Int} (h:QA0 p ≠ 0∨Q93 long n=false) (t:Int):Q62 p t long n=false:=by
 unfold Q62
 have:((((((((QA0 p)!=0)||(decide (n<1)))||(decide (n > 1000000)))||(decide (long<1)))||(decide (long > 1000000)))||(decide (t<0)))||(decide (t > (w64 (1000000 - long)))))=true:=by
  rcases h with h|h
  ·simp [h]
  ·have h':¬ ((1<=n∧n<=1000000)∧1<=long∧long<=1000000):=fun g=>by rw [(QF7 long n).2 g] at h;cases h
   simp
   omega
 rw [this]
 rfl
theorem fits_eq (p:List Step) (t long n:Int):QI7 p t long n=Q62 p t long n:=by
 by_cases hc:QA0 p=0
 ·have hp:=(Qm5 p).1 hc
  cases ha:Q93 long n with
  | false =>
   rw [QJa (.inr ha)]
   unfold QI7
   rw [ha]
   simp
  | true =>
   obtain ⟨h1,h2⟩:=(QF7 long n).1 ha
   have hw:w64 (1000000 - long)=1000000 - long:=wr (by omega)
   unfold QI7 Q62
   rw [QK6,hc,ha,hw]
   cases hq:Q55 t 0 (1000000 - long) with
   | false =>
    have:(((((((((0:Int)!=0)||(decide (n<1)))||(decide (n > 1000000)))||(decide (long<1)))||(decide (long > 1000000)))||(decide (t<0)))||(decide (t > 1000000 - long))))=true:=by
     simp [Q55] at hq
     simp
     omega
    rw [this]
    rfl
   | true =>
    have:(((((((((0:Int)!=0)||(decide (n<1)))||(decide (n > 1000000)))||(decide (long<1)))||(decide (long > 1000000)))||(decide (t<0)))||(decide (t > 1000000 - long))))=false:=by
     simp [Q55] at hq
     simp
     omega
    rw [this]
    simp [Q55] at hq
    have hw2:w64 (t+long)=t+long:=wr (by omega)
    rw [hw2,least_eq hp (by omega) (by omega) (by omega)]
    rfl
 ·rw [QJa (.inl hc)]
  unfold QI7
  rw [QK6]
  simp [hc]
theorem QEf (p:List Step) (long n a:Int):∀ (l:List Step) (i:Nat),QA4 p long n a l i=Q38 (fun t=>Q62 p t long n) a l
 | [],_=>rfl
 | x :: r,i=>by
  rw [QA4,Q38,QEf p long n a r (i+1)]
theorem Qbb (p:List Step) (from_ long n:Int):Q23 p from_ long n=Qv0 p from_ long n:=by
 have hr:Qv0 p from_ long n=(bif Q62 p (max from_ 0) long n then (max from_ 0,true) else Q38 (fun t=>Q62 p t long n) (max from_ 0) p):=by
  unfold Qv0 QB4
  by_cases h:from_<0
  ·rw [decide_eq_true h,show max from_ 0=0 by omega,QEf]
   rfl
  ·rw [decide_eq_false h,show max from_ 0=from_ by omega]
   simp only [cond_false]
   rw [QEf]
 rw [hr]
 unfold Q23
 rw [QK6]
 by_cases hc:QA0 p=0
 ·have hp:=(Qm5 p).1 hc
  cases ha:Q93 long n with
  | false =>
   rw [QJa (.inr ha),hc,Q48 p fun y _ _=>QJa (.inr ha) _]
   rfl
  | true =>
   obtain ⟨h1,h2⟩:=(QF7 long n).1 ha
   have hw:w64 (1000000 - long)=1000000 - long:=wr (by omega)
   rw [hc]
   simp only [bne_self_eq_false,Bool.not_true,Bool.or_self,cond_false]
   unfold Qq5
   rw [hw,List.drop_zero]
   by_cases hm:max from_ 0 > 1000000 - long
   ·rw [decide_eq_true hm]
    have hno:∀ t,max from_ 0<=t->Q62 p t long n=false:=by
     intro t ht
     cases hq:Q62 p t long n with
     | false=>rfl
     | true=>have:=(Qla hp ha).1 hq;omega
    rw [hno _ (Int.le_refl _),Q48 p fun y _ hy=>hno _ (by omega)]
    rfl
   ·rw [decide_eq_false hm]
    exact ear_first hp.1 (by omega) (by omega) (by omega) fun t ht=>(Qla hp ha).trans ⟨fun h=>h.2,fun h=>⟨ht,h⟩⟩
 ·rw [QJa (.inl hc),Q48 (fit:=fun t=>Q62 p t long n) p fun y _ _=>QJa (.inl hc) _,show (QA0 p != 0)=true by simpa using hc]
  rfl
theorem Q2f (p:List Step) (from_:Int) {long n:Int} (h:Q93 long n=false):Qv0 p from_ long n=(0,false):=by
 rw [← Qbb]
 unfold Q23
 rw [h]
 simp
theorem best_g2 (p:List Step) (from_ latest:Int) (options:List Alt):∀ (l:List Alt) (choice start:Int) (found:Bool) (best end_:Int) (i m:Nat),(options.take 48).drop i=l->i<=48->i<=options.length->options.length - i<m ->
  (found=true->best=choice∧0<=choice∧choice<48∧end_=w64 (start+((options.take 48).getD (Int.toNat choice) Alt.zero).wall))->(found=false->best = -1∧choice=0∧start=0) ->
  QU1 p from_ latest 12 (options.take 48) l choice start found i=(fun r:Int × Int × Int × Nat=>(bif decide (r.1<0) then ((0,0,false):Int × Int × Bool) else (r.1,r.2.1,true))) (QB1 p options from_ latest 12 m best start end_ i)
 | l,choice,start,found,best,end_,i,0,_,_,_,hm,_,_=>absurd hm (by omega)
 | [],choice,start,found,best,end_,i,m+1,hl,hi,ho,hm,h1,h2=>by
  have he:((decide ((i:Int)<(options.length:Int)))&&(decide ((i:Int)<48)))=false:=by
   have:=congrArg List.length hl
   simp at this
   simp
   omega
  rw [QB1,he]
  simp only [cond_false]
  cases found with
  | true =>
   obtain ⟨rfl,h3,_⟩:=h1 rfl
   rw [decide_eq_false (by omega)]
   rfl
  | false =>
   obtain ⟨rfl,rfl,rfl⟩:=h2 rfl
   rfl
 | x :: r,choice,start,found,best,end_,i,m+1,hl,hi,ho,hm,h1,h2=>by
  have hlen:=congrArg List.length hl
  simp at hlen
  have hx:options.getD i Alt.zero=x:=by
   have:=(Q12 Alt.zero hl).1
   rw [← this]
   simp only [List.getD_eq_getElem?_getD,List.getElem?_take]
   rw [if_pos (by omega)]
  have hxt:=(Q12 Alt.zero hl).1
  have hrr:=(Q12 Alt.zero hl).2
  have he:((decide ((i:Int)<(options.length:Int)))&&(decide ((i:Int)<48)))=true:=by
   simp
   omega
  rw [QB1,he,hx,QU1,Qbb]
  simp only [cond_true]
  rw [show max (12:Int) 0=12 by decide]
  have next:=fun choice start found best end_=>best_g2 p from_ latest options r choice start found best end_ (i+1) m hrr (by omega) (by omega) (by omega)
  cases hs:(((decide (x.wall<1))||(decide (x.wall > 1000000)))||(decide ((12:Int) > (w64 (1000000 - x.wall))))) with
  | true =>
   have:((!(Q93 x.wall x.nodes))||(decide ((12:Int) > (w64 (1000000 - x.wall)))))=true:=by
    cases ha:Q93 x.wall x.nodes with
    | false=>rfl
    | true =>
     have:=(QF7 _ _).1 ha
     simp at hs ⊢
     omega
   rw [this]
   exact next choice start found best end_ h1 h2
  | false =>
   simp only [cond_false]
   cases ha:Q93 x.wall x.nodes with
   | false =>
    have hno:Q93 (w64 (x.wall+12)) x.nodes=false:=by
     have hw:¬ ((1<=x.nodes∧x.nodes<=1000000)∧1<=x.wall∧x.wall<=1000000):=fun g=>by rw [(QF7 _ _).2 g] at ha;cases ha
     simp at hs
     cases hq:Q93 (w64 (x.wall+12)) x.nodes with
     | false=>rfl
     | true =>
      have:=(QF7 _ _).1 hq
      omega
    rw [Q2f p from_ hno]
    exact next choice start found best end_ h1 h2
   | true =>
    have hg:(decide ((12:Int) > (w64 (1000000 - x.wall))))=false:=by simp at hs ⊢;omega
    rw [hg]
    simp only [Bool.not_true,Bool.or_self,cond_false]
    generalize Qv0 p from_ (w64 (x.wall+12)) x.nodes=E
    cases hE:(E.2&&decide (E.1<=latest)) with
    | false =>
     simp only [Bool.not_false,Bool.true_or,cond_true,Bool.false_and,cond_false]
     exact next choice start found best end_ h1 h2
    | true =>
     simp only [Bool.not_true,Bool.false_or,Bool.true_and]
     have hup:=next (i:Int) E.1 true (i:Int) (w64 (E.1+x.wall)) (fun _=>⟨rfl,by omega,by omega,by rw [Int.toNat_natCast,hxt]⟩) (fun h=>by cases h)
     cases found with
     | false =>
      obtain ⟨rfl,rfl,rfl⟩:=h2 rfl
      exact hup
     | true =>
      obtain ⟨rfl,h3,h4,h5⟩:=h1 rfl
      rw [← h5,decide_eq_false (show ¬ best<0 by omega)]
      simp only [Bool.true_and,Bool.false_or]
      by_cases hlt:w64 (E.1+x.wall)<end_
      ·rw [decide_eq_true hlt,decide_eq_false (show ¬ w64 (E.1+x.wall) >= end_ by omega)]
       exact hup
      ·rw [decide_eq_false hlt,decide_eq_true (show w64 (E.1+x.wall) >= end_ by omega)]
       exact next best start true best end_ h1 h2
theorem best_eq (p:List Step) (options:List Alt) (from_ latest:Int):QF6 p options from_ latest 12=Qb3 p options from_ latest 12:=by
 have h1:QF6 p options from_ latest 12=Q58 p from_ latest 12 (options.take 48):=by
  unfold QF6
  by_cases h:(options.length:Int) > 48
  ·rw [decide_eq_true h];rfl
  ·rw [decide_eq_false h,List.take_of_length_le (by omega)];rfl
 rw [h1]
 have hg:=best_g2 p from_ latest options (options.take 48) 0 0 false (-1) 0 0 (Int.toNat ((options.length:Int) - (0:Int))+1) rfl (by omega) (by omega) (by omega) (fun h=>by cases h) (fun _=>⟨rfl,rfl,rfl⟩)
 unfold Q58 Qp5
 rw [hg]
 unfold Qb3
 rw [show decide ((12:Int)<0)=false from rfl]
 simp only [cond_false]
 unfold QN7 Q34
 generalize QB1 p options from_ latest 12 (Int.toNat ((options.length:Int) - (0:Int))+1) (-1) 0 0 0=r
 cases decide (r.1<0) <;> rfl
end Go.Proofs.YtjpgfmbccohngaaGreatDoor
namespace Go.Proofs.YtjpgfmbccohngaaGreatDoor
set_option linter.unusedSimpArgs false
set_option linter.unusedVariables false
open Go.Fw
theorem add_rp {p q:List Step} {f f':Int->Int} {N M:Nat} (h:Rp p f N) (hN:N+2<=1000) (hb:Bd f 1000000) (hb':Bd f' 1000000) {f_ t_ n:Int} (h0:0<=f_) (hf:f_<=1000000) (hft:f_<=t_) (hn:-1000000<=n∧n<=1000000)
  (hf':∀ t,0<=t->t<=1000000->f' t=f t+(if f_<=t∧t<t_ then n else 0)) (hq:Rp q f' M):Qx1 p f_ t_ n=(q,0):=by
 rw [add_eq]
 obtain ⟨r,hr,he⟩:=ref_add (h.cn (by omega) hb) h0 hf hft hn
 have e:r=q:=Can.uniq hr.1 hq.1 fun t a b=>by rw [hr.2.2 t a b,hq.2.2 t a b,hf' t a b,h.2.2 t a b]
 subst e
 have hl:Rp r f' (N+2):=⟨hr.1,Nat.le_trans hr.2.1 (by have:=h.2.1;omega),hq.2.2⟩
 rw [he,show ((QA0 r)!=0)=false by rw [(Qm5 r).2 (hl.cn hN hb')];rfl]
 rfl
theorem cls_set (t:Int) (p:Job):∀ (l:List Job) (k:Nat) (j:Job),l[k]? = some j->p.id=j.id->l.Pairwise (fun a b=>a.id<b.id)->clsAt [] t (l.set k p)=clsAt [j.id] t l+clAt t p
 | [],_,_,h,_,_=>by simp at h
 | x :: r,0,j,h,hid,hp=>by
  rw [List.pairwise_cons] at hp
  simp only [List.getElem?_cons_zero,Option.some.injEq] at h
  subst h
  have h1:=cls_none t x.id r fun z hz=>by have:=hp.1 z hz;omega
  simp only [List.set_cons_zero,clsAt,h1,List.any_nil,List.any_cons,beq_self_eq_true,Bool.true_or,if_true,Bool.false_eq_true,if_false]
  omega
 | x :: r,k+1,j,h,hid,hp=>by
  rw [List.pairwise_cons] at hp
  simp only [List.getElem?_cons_succ] at h
  have h1:=cls_set t p r k j h hid hp.2
  have h2:=hp.1 j (List.mem_of_getElem? h)
  simp only [List.set_cons_succ,clsAt,h1,List.any_nil,List.any_cons,show (x.id==j.id)=false by simp;omega,Bool.or_false,Bool.false_eq_true,if_false]
  omega
theorem Q6d {l:List Job} {k:Nat} {j p:Job} (hk:l[k]? = some j) (i:Nat):(l.set k p)[i]? = if i=k then some p else l[i]?:=by
 have hlt:k<l.length:=(List.getElem?_eq_some_iff.1 hk).1
 rw [List.getElem?_set]
 by_cases h:k=i
 ·subst h
  simp [hlt]
 ·rw [if_neg h,if_neg (fun e=>h e.symm)]
theorem set_pw {l:List Job} (hp:l.Pairwise (fun a b=>a.id<b.id)) {k:Nat} {j p:Job} (hk:l[k]? = some j) (hid:p.id=j.id):(l.set k p).Pairwise fun a b=>a.id<b.id:=by
 have e:(l.set k p).map (·.id)=l.map (·.id):=by
  apply List.ext_getElem?
  intro i
  rw [List.getElem?_map,List.getElem?_map,Q6d hk]
  by_cases h:i=k
  ·subst h
   simp [hk,hid]
  ·rw [if_neg h]
 have h1:(l.map (·.id)).Pairwise (· < ·):=List.pairwise_map.2 hp
 rw [← e] at h1
 exact List.pairwise_map.1 h1
theorem mem_setJ {l:List Job} (hp:l.Pairwise (fun a b=>a.id<b.id)) {k:Nat} {j p:Job} (hk:l[k]? = some j) (x:Job):x ∈ l.set k p ↔ x=p∨(x ∈ l∧x.id ≠ j.id):=by
 constructor
 ·intro h
  obtain ⟨i,hi⟩:=List.getElem?_of_mem h
  rw [Q6d hk] at hi
  by_cases e:i=k
  ·rw [if_pos e] at hi
   exact .inl (by simpa using hi.symm)
  ·rw [if_neg e] at hi
   refine .inr ⟨List.mem_of_getElem? hi,?_⟩
   rcases Nat.lt_or_gt_of_ne e with g|g
   ·have:=Qaa hp i k x j g hi hk;omega
   ·have:=Qaa hp k i j x g hk hi;omega
 ·rintro (rfl|⟨h,hne⟩)
  ·exact List.mem_of_getElem? ((Q6d hk k).trans (if_pos rfl))
  ·obtain ⟨i,hi⟩:=List.getElem?_of_mem h
   have e:i ≠ k:=fun e=>by subst e;rw [hk] at hi;simp at hi;subst hi;exact hne rfl
   exact List.mem_of_getElem? ((Q6d hk i).trans ((if_neg e).trans hi))
theorem get_set {l:List Job} (hp:l.Pairwise (fun a b=>a.id<b.id)) {k:Nat} {j p:Job} (hk:l[k]? = some j) (hid:p.id=j.id) (id:Int):QO0 (l.set k p) id=if id=j.id then p else QO0 l id:=by
 have hp':=set_pw hp hk hid
 have hm:=fun x=>mem_setJ hp hk (p:=p) x
 by_cases h:id=j.id
 ·rw [if_pos h,h,← hid]
  exact Q36 hp' ((hm p).2 (.inl rfl))
 ·rw [if_neg h]
  by_cases g:∃ x ∈ l,x.id=id
  ·obtain ⟨x,hx,rfl⟩:=g
   rw [Q36 hp hx,Q36 hp' ((hm x).2 (.inr ⟨hx,h⟩))]
  ·rw [Qif id l fun x hx e=>g ⟨x,hx,e⟩,Qif id (l.set k p) fun x hx e=>?_]
   rcases (hm x).1 hx with rfl|⟨hx,_⟩
   ·exact h (e.symm.trans hid)
   ·exact g ⟨x,hx,e⟩
theorem tk_set {l:List Job} (hp:l.Pairwise (fun a b=>a.id<b.id)) {k:Nat} {j p:Job} (hk:l[k]? = some j) (hid:p.id=j.id) (hj:j.state ≠ 2) (hps:p.state ≠ 2) (x:Node):tk (l.set k p) x=tk l x:=by
 unfold tk
 rw [get_set hp hk hid]
 by_cases h:x.job=j.id
 ·rw [if_pos h,h,Q36 hp (List.mem_of_getElem? hk)]
  rw [show (p.state != 2)=true by simpa using hps,show (j.state != 2)=true by simpa using hj]
  rfl
 ·rw [if_neg h]
theorem left_set {s:State} (hp:s.jobs.Pairwise (fun a b=>a.id<b.id)) {k:Nat} {j p:Job} (hk:s.jobs[k]? = some j) (hid:p.id=j.id) (hj:j.state ≠ 2) (hps:p.state ≠ 2) (t:Int) :
  Q0b { s with jobs:=s.jobs.set k p } [] t=Q0b s [j.id] t - clAt t p:=by
 unfold Q0b Qpd
 rw [cls_set t p s.jobs k j hk hid hp]
 have:(s.nodes.map (tk (s.jobs.set k p)))=s.nodes.map (tk s.jobs):=List.map_congr_left fun x _=>tk_set hp hk hid hj hps x
 rw [this]
 show _ - bkAt t s.books - (clsAt [j.id] t s.jobs+clAt t p)=_
 show ((s.nodes.filter fun y=>(y.state != 4)&&(!y.drain)).length:Int) - _ - bkAt t s.books - (clsAt [j.id] t s.jobs+clAt t p)=_
 omega
theorem left_some {s:State} (hp:s.jobs.Pairwise (fun a b=>a.id<b.id)) {j:Job} (hj:j ∈ s.jobs) (t:Int):Q0b s [j.id] t=Q0b s [] t+clAt t j:=by
 unfold Q0b
 rw [cls_some t j s.jobs hj hp]
 omega
theorem Qpf {s:State} (hs:s.sz) (hn:∀ x ∈ s.jobs,U64 x.nodes) (hc:QR1 s=0) (ex:List Int):Bd (Q0b s ex) 1000000:=by
 obtain ⟨f1,f2,f3,f4,f5,f6⟩:=Q4d hs hn hc
 intro t a b
 have b1:=freeAt_bd s f6 t a b
 have b2:=bkAt_bd t s.books f1
 have b3:=clsAt_bd ex t s.jobs f3
 unfold Q0b
 omega
end Go.Proofs.YtjpgfmbccohngaaGreatDoor
namespace Go.Proofs.YtjpgfmbccohngaaGreatDoor
set_option linter.unusedSimpArgs false
set_option linter.unusedVariables false
open Go.Fw
theorem Qtb (id:Int):∀ (l:List Job) (i:Nat) (c:List (Int × Int)),(∀ x ∈ l,x.id ≠ id)->getM id (Qc1 l i c)=getM id c
 | [],_,_,_=>rfl
 | x :: r,i,c,h=>by
  rw [Qc1,Qtb id r (i+1) _ fun y hy=>h y (List.mem_cons_of_mem _ hy),Qb7]
  have:=h x (List.mem_cons_self ..)
  rw [show (id==x.id)=false by simp;omega]
  rfl
theorem Qdg (x:Job):∀ (l:List Job) (i:Nat) (c:List (Int × Int)),x ∈ l->l.Pairwise (fun a b=>a.id<b.id)->getM x.id (Qc1 l i c)=some x.state
 | y :: r,i,c,hx,hp=>by
  rw [List.pairwise_cons] at hp
  rw [Qc1]
  rcases List.mem_cons.1 hx with rfl|hx
  ·rw [Qtb x.id r (i+1) _ fun z hz=>by have:=hp.1 z hz;omega,Qb7,beq_self_eq_true]
   rfl
  ·exact Qdg x r (i+1) _ hx hp.2
theorem state_in {j:Job} (h:Qp0 j=0):j.state=1∨j.state=2∨(3<=j.state∧j.state<=7):=by
 have hs:=QC3 (j:=j) (by rw [h];rfl)
 unfold Qf1 at hs
 cases h1:(j.state==1) with
 | true=>exact .inl (by simpa using h1)
 | false =>
  cases h2:(j.state==2) with
  | true=>exact .inr (.inl (by simpa using h2))
  | false =>
   rw [h1,h2] at hs
   simp [Qo6] at hs
   exact .inr (.inr (by omega))
theorem stands_met {l:List Job} (hp:l.Pairwise (fun a b=>a.id<b.id)) (hc:∀ x ∈ l,Qp0 x=0) (d:Dep):((Q83 (Qc1 l 0 []) d)!=1) = !(Q99 l d):=by
 by_cases hx:∃ x ∈ l,x.id=d.job
 ·obtain ⟨x,hx,he⟩:=hx
  obtain ⟨k,hk,ha⟩:=jat_some x l 0 hx hp
  have hat:QO1 l d.job=(k:Int):=by rw [← he,QO1,ha,Nat.zero_add]
  have hg:getM d.job (Qc1 l 0 [])=some x.state:=by rw [← he];exact Qdg x l 0 [] hx hp
  have hget:l.getD k Job.zero=x:=by simp [List.getD_eq_getElem?_getD,hk]
  unfold Q83 Q99
  rw [hg,hat,Int.toNat_natCast,hget,decide_eq_false (by omega:¬ (k:Int)<0)]
  have hs:=state_in (hc x hx)
  simp only [Option.isSome_some,Bool.not_true,cond_false,Option.getD_some,Bool.false_or]
  unfold QGa Qo6
  by_cases h3:x.state<3
  ·rw [decide_eq_true h3,decide_eq_false (by omega:¬ x.state >= 3)]
   rfl
  ·rw [decide_eq_false h3,decide_eq_true (by omega:x.state >= 3),decide_eq_true (by omega:x.state<=7)]
   simp only [cond_false,Bool.and_self,Bool.not_true]
   unfold Q13
   cases (d.how==1) <;> cases (d.how==2) <;> cases (d.how==3) <;> cases hq:(x.state==3) <;> simp [bne,hq]
 ·have hn:∀ x ∈ l,x.id ≠ d.job:=fun x h e=>hx ⟨x,h,e⟩
  have hg:getM d.job (Qc1 l 0 [])=none:=Qtb d.job l 0 [] hn
  have hat:QO1 l d.job = -1:=jat_none d.job l 0 hn
  unfold Q83 Q99
  rw [hg,hat]
  rfl
theorem all_eq {l:List Job} (hp:l.Pairwise (fun a b=>a.id<b.id)) (hc:∀ x ∈ l,Qp0 x=0):∀ (r:List Dep) (i:Nat),QY3 (Qc1 l 0 []) r i=Qw7 l r i
 | [],_=>rfl
 | d :: r,i=>by rw [QY3,Qw7,stands_met hp hc,all_eq hp hc r (i+1)]
theorem Qcb {l:List Job} (hp:l.Pairwise (fun a b=>a.id<b.id)) (hc:∀ x ∈ l,Qp0 x=0):∀ (r:List Job) (out:List Int) (i:Nat),Qk2 (Qc1 l 0 []) r out i=(QY0 l r out i).1
 | [],_,_=>rfl
 | x :: r,out,i=>by
  rw [Qk2,QY0]
  have ha:QD6 (Qc1 l 0 []) x=Q89 l x:=all_eq hp hc x.after 0
  rw [ha,Qcb hp hc r out (i+1),Qcb hp hc r _ (i+1)]
  cases h1:(x.state==1) <;> cases h2:x.held <;> cases h3:Q89 l x <;> simp [bne,h1]
theorem Q3f {l:List Job} (hl:l.length<=4294967296) (hn:∀ x ∈ l,U64 x.nodes):QX0 l=Q60 l:=by
 unfold QX0 Q60
 rw [QFe l hl hn]
 cases h:((Qt1 l)!=0) with
 | true=>rfl
 | false =>
  have hc:Ql1 l=0:=by rw [QFe l hl hn];simpa using h
  obtain ⟨_,hj,hp⟩:=Qk8 hc
  exact Qcb hp (fun x hx=>by rw [← job_eq x (hn x hx)];exact hj x hx) l [] 0
theorem QY9 (l:List Job):∀ (r:List Job) (out:List Int) (i:Nat) (id:Int),id ∈ (QY0 l r out i).1->id ∈ out ∨ ∃ x ∈ r,x.id=id∧x.state=1∧x.held=false
 | [],_,_,_,h=>.inl h
 | x :: r,out,i,id,h=>by
  rw [QY0] at h
  cases hc:(((x.state==1)&&(!x.held))&&(Q89 l x)) with
  | true =>
   rw [hc] at h
   rcases QY9 l r _ _ id h with h|⟨y,hy,e⟩
   ·rcases List.mem_append.1 h with h|h
    ·exact .inl h
    ·simp at hc
     exact .inr ⟨x,List.mem_cons_self ..,(List.mem_singleton.1 h).symm,hc.1.1,hc.1.2⟩
   ·exact .inr ⟨y,List.mem_cons_of_mem _ hy,e⟩
  | false =>
   rw [hc] at h
   rcases QY9 l r _ _ id h with h|⟨y,hy,e⟩
   ·exact .inl h
   ·exact .inr ⟨y,List.mem_cons_of_mem _ hy,e⟩
theorem u_in (n:Int):0<=QK0 n∧QK0 n<=1000000000000:=by
 unfold QK0 QQ5
 cases h1:decide (n<0) with
 | true=>simp
 | false =>
  cases h2:decide (n > 1000000000000) with
  | true=>simp
  | false=>simp at h1 h2 ⊢;omega
theorem u_id {n:Int} (h:0<=n∧n<=1000000000000):QK0 n=n:=by
 unfold QK0 QQ5
 rw [decide_eq_false (by omega),decide_eq_false (by omega)]
 rfl
theorem u_min {n:Int} (h:0<=n):QK0 n=min n 1000000000000:=by
 unfold QK0 QQ5
 rw [decide_eq_false (show ¬ n<0 by omega)]
 cases h2:decide (n > 1000000000000) with
 | true=>have:=of_decide_eq_true h2;show (1000000000000:Int)=_;omega
 | false=>have:=of_decide_eq_false h2;show n=_;omega
def plusU (a n:Int):Int:=min (a+QK0 n) 1000000000000
theorem plusU_in {a:Int} (n:Int) (h:0<=a∧a<=1000000000000):0<=plusU a n∧plusU a n<=1000000000000:=by
 have:=u_in n
 unfold plusU
 omega
theorem sat_plus {a:Int} (n:Int) (h:0<=a∧a<=1000000000000):Qqc ([a,n]:List Int)=plusU a n:=by
 have hn:=u_in n
 have hu:=u_id h
 unfold plusU
 show (bif decide (QK0 a > 1000000000000) then ((1000000000000:Int),false) else bif decide (QK0 n > w64 (1000000000000 - QK0 a)) then ((1000000000000:Int),false) else (w64 (1000000000000 - w64 (w64 (1000000000000 - QK0 a) - QK0 n)),true)).1=_
 rw [hu,decide_eq_false (by omega:¬ a > 1000000000000)]
 simp only [cond_false]
 have w1:w64 (1000000000000 - a)=1000000000000 - a:=wr (by omega)
 rw [w1]
 cases h:decide (QK0 n > 1000000000000 - a) with
 | true =>
  have:=of_decide_eq_true h
  show (1000000000000:Int)=_
  omega
 | false =>
  have:=of_decide_eq_false h
  have w2:w64 (1000000000000 - a - QK0 n)=1000000000000 - a - QK0 n:=wr (by omega)
  have w3:w64 (1000000000000 - (1000000000000 - a - QK0 n))=1000000000000 - (1000000000000 - a - QK0 n):=wr (by omega)
  show w64 (1000000000000 - w64 (1000000000000 - a - QK0 n))=_
  rw [w2,w3]
  omega
theorem plus_g1:∀ (l:List Int) (a:Int) (i:Nat),0<=a∧a<=1000000000000->(QP4 l a i).1=l.foldl plusU a
 | [],_,_,_=>rfl
 | x :: r,a,i,h=>by
  have hx:=u_in x
  have w1:w64 (a+QK0 x)=a+QK0 x:=wr (by omega)
  have e:QQ5 (w64 (a+QK0 x)) 1000000000000=plusU a x:=by
   rw [w1]
   exact u_min (by omega)
  rw [QP4,e,List.foldl_cons]
  exact plus_g1 r _ (i+1) (plusU_in x h)
theorem Qfg (of_:Usage->Int):∀ (l:List Usage) (a:Int) (i:Nat),0<=a∧a<=1000000000000->Q04 of_ l a i=(l.map of_).foldl plusU a
 | [],_,_,_=>rfl
 | x :: r,a,i,h=>by
  rw [Q04,sat_plus _ h,List.map_cons,List.foldl_cons]
  exact Qfg of_ r _ (i+1) (plusU_in _ h)
theorem share_g1 (user:ByteArray):∀ (l:List Usage) (out:List Int) (i:Nat),(QX2 user l out i).1=out++(l.filter fun x=>ByteArray.toList x.user==ByteArray.toList user).map (·.share)
 | [],out,i=>by simp [QX2]
 | x :: r,out,i=>by
  rw [QX2]
  cases h:(ByteArray.toList x.user==ByteArray.toList user) with
  | true=>simp only [cond_true];rw [share_g1 user r _ (i+1),List.filter_cons,h];simp
  | false=>simp only [cond_false];rw [share_g1 user r _ (i+1),List.filter_cons,h];simp
theorem Q8d (user:ByteArray):∀ (l:List Usage) (a:Int),0<=a∧a<=1000000000000->(l.map fun y:Usage=>(bif (!(ByteArray.toList y.user==ByteArray.toList user)) then 0 else y.share)).foldl plusU a=((l.filter fun x=>ByteArray.toList x.user==ByteArray.toList user).map (·.share)).foldl plusU a
 | [],_,_=>rfl
 | x :: r,a,h=>by
  rw [List.map_cons,List.foldl_cons,List.filter_cons]
  cases hx:(ByteArray.toList x.user==ByteArray.toList user) with
  | true =>
   simp only [Bool.not_true,cond_false,if_true,List.map_cons,List.foldl_cons]
   exact Q8d user r _ (plusU_in _ h)
  | false =>
   have e:plusU a 0=a:=by
    have:QK0 0=0:=rfl
    unfold plusU
    omega
   simp only [Bool.not_false,cond_true,Bool.false_eq_true,if_false]
   rw [e]
   exact Q8d user r a h
theorem share_eq (l:List Usage) (hl:l.length<=4294967296) (user:ByteArray):Qv1 l user=Qi4 l user:=by
 unfold Qv1 QJ3 Qi4 Qa3 Qj4
 rw [QH6 l hl,Qfg _ l 0 0 (by omega),share_g1]
 unfold QFa QP5
 rw [List.nil_append,plus_g1 _ 0 0 (by omega),Q8d user l 0 (by omega)]
theorem index_g1 (v:Int):∀ (l:List Int) (i:Nat),0<=QT2 v l i ↔ v ∈ l
 | [],i=>by simp [QT2]
 | x :: r,i=>by
  rw [QT2]
  cases h:(v==x) with
  | true =>
   have:v=x:=by simpa using h
   simp [this]
  | false =>
   have:v ≠ x:=by simpa using h
   simp [this,index_g1 v r (i+1)]
theorem contains_iff (l:List Int) (v:Int):Q21 l v=l.any (· == v):=by
 have h:=index_g1 v l 0
 unfold Q21 Qj6
 cases hc:l.any (· == v) with
 | true =>
  have:v ∈ l:=by simpa using hc
  exact decide_eq_true (h.2 this)
 | false =>
  have:v ∉ l:=by simp at hc;exact fun hm=>hc v hm rfl
  exact decide_eq_false fun g=>this (h.1 g)
theorem meant_g2 (x:Job):∀ (l:List Int) (b:Bool) (k:Nat),(Qf5 x l b k).1=(b||l.any (· == x.id))
 | [],b,k=>by simp [Qf5]
 | y :: r,b,k=>by rw [Qf5,meant_g2 x r,List.any_cons,Bool.or_assoc]
def rowOf (l:List Usage) (x:Job):Ranked:=⟨x.id,x.prio,Qv1 l x.user,x.id⟩
def insJ (l:List Usage) (x:Job):List Job->List Job
 | []=>[x]
 | y :: r=>bif QS4 l y x then y :: insJ l x r else x :: y :: r
theorem ahead_row (l:List Usage) (hl:l.length<=4294967296) (x y:Job):aheadR (rowOf l x) (rowOf l y)=QS4 l x y:=by
 show ah3 (x.prio,Qv1 l x.user,x.id) (y.prio,Qv1 l y.user,y.id)=_
 unfold QS4 ah3
 rw [share_eq l hl,share_eq l hl]
 generalize Qi4 l x.user=a
 generalize Qi4 l y.user=b
 simp only
 rcases Int.lt_trichotomy x.prio y.prio with h|h|h
 ·rw [decide_eq_false (by omega:¬ y.prio<x.prio),decide_eq_false (by omega:¬ x.prio=y.prio),decide_eq_true (by omega:x.prio<y.prio)]
  rfl
 ·rw [decide_eq_false (by omega:¬ y.prio<x.prio),decide_eq_true h,decide_eq_false (by omega:¬ x.prio<y.prio)]
  rcases Int.lt_trichotomy a b with g|g|g
  ·rw [decide_eq_true g];rfl
  ·rw [decide_eq_false (by omega:¬ a<b),decide_eq_true g,decide_eq_false (by omega:¬ a > b)];rfl
  ·rw [decide_eq_false (by omega:¬ a<b),decide_eq_false (by omega:¬ a=b),decide_eq_true (by omega:a > b)];rfl
 ·rw [decide_eq_true (by omega:y.prio<x.prio)]
  rfl
theorem insR_row (l:List Usage) (hl:l.length<=4294967296) (x:Job):∀ o:List Job,insR (rowOf l x) (o.map (rowOf l))=(insJ l x o).map (rowOf l)
 | []=>rfl
 | y :: r=>by
  simp only [List.map_cons,insR,insJ,ahead_row l hl]
  cases QS4 l y x with
  | true=>simp only [cond_true,List.map_cons,insR_row l hl x r]
  | false=>rfl
theorem ins_g3 (l:List Usage) (x:Job):∀ (a b:List Job) (m:Nat),b.length<m->(a++b).take (Qh2 l (a++b) x m a.length)++[x]++(a++b).drop (Qh2 l (a++b) x m a.length)=a++insJ l x b
 | _,_,0,h=>absurd h (by omega)
 | a,[],m+1,_=>by
  rw [Qh2]
  simp [insJ]
 | a,y :: r,m+1,h=>by
  rw [Qh2]
  have hg:(a++y :: r).getD a.length Job.zero=y:=by simp [List.getD_eq_getElem?_getD]
  rw [hg,show decide (((a.length:Nat):Int)<((a++y :: r).length:Int))=true from decide_eq_true (by simp;omega),Bool.true_and,insJ]
  cases QS4 l y x with
  | true =>
   have:=ins_g3 l x (a++[y]) r m (by simp at h;omega)
   simp only [List.append_assoc,List.singleton_append,List.length_append,List.length_cons,List.length_nil] at this
   simp only [cond_true]
   simpa using this
  | false=>simp
theorem order_g1 (l:List Usage) (ids:List Int):∀ (r out:List Job) (i:Nat),out.length+r.length<=4294967296->(Qw0 l ids r out i).1=(r.filter fun x=>ids.any (· == x.id)).foldl (fun o x=>insJ l x o) out
 | [],_,_,_=>rfl
 | x :: r,out,i,h=>by
  rw [Qw0]
  simp only [meant_g2,Bool.false_or,List.filter_cons]
  simp only [List.length_cons] at h
  cases hm:ids.any (· == x.id) with
  | false =>
   simp only [Bool.not_false,cond_true,Bool.false_eq_true,if_false]
   exact order_g1 l ids r out (i+1) (by omega)
  | true =>
   have e:=ins_g3 l x [] out (Int.toNat ((out.length:Int) - (0:Int))+1) (by omega)
   simp only [List.nil_append,List.length_nil] at e
   simp only [Bool.not_true,cond_false,if_true,List.foldl_cons]
   rw [e]
   have hlen:(insJ l x out).length=out.length+1:=by
    rw [← e]
    simp
    omega
   exact order_g1 l ids r _ (i+1) (by omega)
theorem ba_rfl (a:ByteArray):(a==a)=true:=by
 show (a.data==a.data)=true
 exact beq_self_eq_true _
theorem ba_eq {a b:ByteArray} (h:(a==b)=true):a=b:=by
 have h':(a.data==b.data)=true:=h
 have:=eq_of_beq h'
 cases a
 cases b
 exact congrArg ByteArray.mk this
instance:ReflBEq ByteArray where
 rfl:=ba_rfl _
instance:LawfulBEq ByteArray where
 eq_of_beq:=ba_eq
theorem QBa (l:List Usage) (ids:List Int):∀ (r:List Job) (o:List Ranked) (i:Nat) (c:List (ByteArray × Int)),(∀ u v,getM u c=some v->v=Qv1 l u)->(QG1 l ids r o i c).1=o++(r.filter fun x=>ids.any (· == x.id)).map (rowOf l)
 | [],o,i,c,_=>by simp [QG1]
 | x :: r,o,i,c,h=>by
  rw [QG1,contains_iff,List.filter_cons]
  cases hm:ids.any (· == x.id) with
  | false =>
   simp only [Bool.not_false,cond_true,Bool.false_eq_true,if_false]
   exact QBa l ids r o (i+1) c h
  | true =>
   simp only [Bool.not_true,cond_false,if_true,List.map_cons]
   cases hg:getM x.user c with
   | none =>
    have hs:getM x.user (setM x.user (Qv1 l x.user) c)=some (Qv1 l x.user):=by rw [Qb7,beq_self_eq_true];rfl
    simp only [Option.isSome_none,Bool.not_false,cond_true,hs,Option.getD_some]
    rw [QBa l ids r _ (i+1) _ fun u v hv=>?_,List.append_assoc]
    ·rfl
    ·rw [Qb7] at hv
     cases hu:(u==x.user) with
     | true=>rw [hu] at hv;simp at hv;rw [eq_of_beq hu];exact hv.symm
     | false=>rw [hu] at hv;exact h u v hv
   | some v =>
    have hv:=h x.user v hg
    simp only [Option.isSome_some,Bool.not_true,cond_false,Option.getD_some]
    rw [QBa l ids r _ (i+1) c h,hv,List.append_assoc]
    rfl
theorem what_g2 (R:List Ranked):∀ (r:List Ranked) (out:List Int) (i:Nat),(Q24 R).drop i=r->QZ2 R r out i=out++r.map (·.what)
 | [],out,i,_=>by simp [QZ2]
 | x :: r,out,i,h=>by
  obtain ⟨h1,h2⟩:=Q12 Ranked.zero h
  rw [QZ2,what_g2 R r _ (i+1) h2,h1]
  simp
theorem told_g4:∀ (l:List Job) (out:List Int) (i:Nat),(Qi2 l out i).1=out++l.map (·.id)
 | [],out,i=>by simp [Qi2]
 | x :: r,out,i=>by rw [Qi2,told_g4 r];simp
theorem fold_rows (l:List Usage) (hl:l.length<=4294967296):∀ (r o:List Job),(r.map (rowOf l)).foldl (fun o x=>insR x o) (o.map (rowOf l))=(r.foldl (fun o x=>insJ l x o) o).map (rowOf l)
 | [],_=>rfl
 | x :: r,o=>by
  simp only [List.map_cons,List.foldl_cons]
  rw [insR_row l hl,fold_rows l hl r]
def Q0d (l:List Usage) (ids:List Int) (jobs:List Job):List Job:=(jobs.filter fun x=>ids.any (· == x.id)).foldl (fun o x=>insJ l x o) []
theorem QZb {jobs:List Job} (hj:jobs.length<=4294967296) (hn:∀ x ∈ jobs,U64 x.nodes) (l:List Usage) (hl:l.length<=4294967296) (ids:List Int):Q82 jobs l ids=Qk0 jobs l ids∧(Qt1 jobs=0->Qk0 jobs l ids=(Q0d l ids jobs).map (·.id)):=by
 have hd:Qt1 jobs=0->Qk0 jobs l ids=(Q0d l ids jobs).map (·.id):=by
  intro h
  unfold Qk0 Q01 Qk4
  rw [h,order_g1 l ids jobs [] 0 (by simp;omega),told_g4]
  rfl
 refine ⟨?_,hd⟩
 unfold Q82
 rw [QFe jobs hj hn]
 cases h:((Qt1 jobs)!=0) with
 | true=>unfold Qk0;rw [h];rfl
 | false =>
  rw [hd (by simpa using h)]
  simp only [cond_false]
  unfold Q03 Qn4
  rw [QBa l ids jobs [] 0 [] (fun u v hv=>by cases hv),List.nil_append,what_g2 _ (Q24 _) [] 0 List.drop_zero,List.nil_append]
  have:=fold_rows l hl (jobs.filter fun x=>ids.any (· == x.id)) []
  rw [show Q24 ((jobs.filter fun x=>ids.any (· == x.id)).map (rowOf l))=(Q0d l ids jobs).map (rowOf l) from this,List.map_map]
  rfl
theorem insJ_perm (l:List Usage) (x:Job):∀ o,(insJ l x o).Perm (x :: o)
 | []=>.refl _
 | y :: r=>by
  unfold insJ
  cases QS4 l y x with
  | true=>exact ((insJ_perm l x r).cons y).trans (.swap x y r)
  | false=>exact .refl _
theorem QBd (l:List Usage) (ids:List Int) (jobs:List Job):(Q0d l ids jobs).Perm (jobs.filter fun x=>ids.any (· == x.id)):=by
 have go:∀ (r o:List Job),(r.foldl (fun o x=>insJ l x o) o).Perm (o++r):=by
  intro r
  induction r with
  | nil=>intro o;simp
  | cons x r ih =>
   intro o
   refine (ih (insJ l x o)).trans ?_
   refine ((insJ_perm l x o).append_right r).trans ?_
   exact List.perm_middle.symm
 have:=go (jobs.filter fun x=>ids.any (· == x.id)) []
 rw [List.nil_append] at this
 exact this
end Go.Proofs.YtjpgfmbccohngaaGreatDoor
namespace Go.Proofs.YtjpgfmbccohngaaGreatDoor
set_option linter.unusedSimpArgs false
set_option linter.unusedVariables false
open Go.Fw
theorem Q8f {fit:Int->Bool} {a:Int}:∀ (l:List Step),(Q38 fit a l).2=true->a<(Q38 fit a l).1∧fit (Q38 fit a l).1=true
 | [],h=>by cases h
 | x :: r,h=>by
  unfold Q38 at h ⊢
  cases hc:(decide (x.at_ > a)&&fit x.at_) with
  | true =>
   simp only [Bool.and_eq_true,decide_eq_true_eq] at hc
   exact hc
  | false =>
   rw [hc] at h
   exact Q8f r h
theorem earliest_spec {p:List Step} (hp:Cn p) (from_ long n:Int) (h:(Qv0 p from_ long n).2=true) :
  Q93 long n=true∧max from_ 0<=(Qv0 p from_ long n).1∧(Qv0 p from_ long n).1+long<=1000000∧Fit (pat p) long n (Qv0 p from_ long n).1:=by
 cases ha:Q93 long n with
 | false=>rw [Q2f p from_ ha] at h;cases h
 | true =>
  have hr:Qv0 p from_ long n=(bif Q62 p (max from_ 0) long n then (max from_ 0,true) else Q38 (fun t=>Q62 p t long n) (max from_ 0) p):=by
   unfold Qv0 QB4
   by_cases h:from_<0
   ·rw [decide_eq_true h,show max from_ 0=0 by omega,QEf]
    rfl
   ·rw [decide_eq_false h,show max from_ 0=from_ by omega]
    simp only [cond_false]
    rw [QEf]
  rw [hr] at h ⊢
  refine ⟨rfl,?_⟩
  cases hf:Q62 p (max from_ 0) long n with
  | true =>
   have:=(Qla hp ha).1 hf
   exact ⟨Int.le_refl _,this.2.1,this.2.2⟩
  | false =>
   rw [hf] at h
   obtain ⟨g1,g2⟩:=Q8f p h
   have:=(Qla hp ha).1 g2
   exact ⟨by show max from_ 0<=(Q38 _ _ p).1;omega,this.2.1,this.2.2⟩
def Found (p:List Step) (options:List Alt) (from_ latest b t:Int):Prop :=
 0<=b∧b<(options.length:Int)∧max from_ 0<=t∧t<=latest∧1<=(options.getD (Int.toNat b) Alt.zero).wall∧1<=(options.getD (Int.toNat b) Alt.zero).nodes∧(options.getD (Int.toNat b) Alt.zero).nodes<=1000000 ∧
  t+((options.getD (Int.toNat b) Alt.zero).wall+12)<=1000000∧Fit (pat p) ((options.getD (Int.toNat b) Alt.zero).wall+12) (options.getD (Int.toNat b) Alt.zero).nodes t
theorem best_inv {p:List Step} (hp:Cn p) (options:List Alt) (from_ latest:Int):∀ (l:List Alt) (choice start:Int) (found:Bool) (i:Nat),options.drop i=l->(found=true->Found p options from_ latest choice start) ->
  (QU1 p from_ latest 12 options l choice start found i).2.2=true->Found p options from_ latest (QU1 p from_ latest 12 options l choice start found i).1 (QU1 p from_ latest 12 options l choice start found i).2.1
 | [],choice,start,found,i,_,hf,h=>hf h
 | x :: r,choice,start,found,i,hl,hf,h=>by
  obtain ⟨hx,hr⟩:=Q12 Alt.zero hl
  have hlen:=congrArg List.length hl
  simp only [List.length_drop,List.length_cons] at hlen
  have skip:=best_inv hp options from_ latest r choice start found (i+1) hr hf
  rw [QU1,Qbb,show max (12:Int) 0=12 by decide] at h ⊢
  cases h1:((!(Q93 x.wall x.nodes))||(decide ((12:Int) > (w64 (1000000 - x.wall))))) with
  | true=>rw [h1] at h;exact skip h
  | false =>
   rw [h1] at h
   simp only [cond_false] at h ⊢
   cases h2:((!((Qv0 p from_ (w64 (x.wall+12)) x.nodes).2&&(decide ((Qv0 p from_ (w64 (x.wall+12)) x.nodes).1<=latest))))||(found&&(decide ((w64 ((Qv0 p from_ (w64 (x.wall+12)) x.nodes).1+x.wall)) >= (w64 (start+(options.getD (Int.toNat choice) Alt.zero).wall)))))) with
   | true=>rw [h2] at h;exact skip h
   | false =>
    rw [h2] at h
    simp only [cond_false] at h ⊢
    refine best_inv hp options from_ latest r _ _ true (i+1) hr (fun _=>?_) h
    simp only [Bool.or_eq_false_iff,Bool.not_eq_false',Bool.and_eq_true,decide_eq_true_eq] at h1 h2
    have ha:=(QF7 _ _).1 h1.1
    have hw:w64 (x.wall+12)=x.wall+12:=wr (by omega)
    rw [hw] at h2 ⊢
    obtain ⟨g1,g2,g3,g4⟩:=earliest_spec hp from_ (x.wall+12) x.nodes h2.1.1
    refine ⟨by omega,by omega,g2,h2.1.2,?_⟩
    rw [Int.toNat_natCast,hx]
    exact ⟨by omega,by omega,by omega,g3,g4⟩
theorem best_spec {p:List Step} (hp:Cn p) (options:List Alt) (from_ latest:Int) (h:(Qb3 p options from_ latest 12).2.2=true):Found p options from_ latest (Qb3 p options from_ latest 12).1 (Qb3 p options from_ latest 12).2.1:=by
 rw [← best_eq] at h ⊢
 have h1:QF6 p options from_ latest 12=QU1 p from_ latest 12 (options.take 48) (options.take 48) 0 0 false 0:=by
  unfold QF6
  by_cases h:(options.length:Int) > 48
  ·rw [decide_eq_true h];rfl
  ·rw [decide_eq_false h,List.take_of_length_le (by omega)];rfl
 rw [h1] at h ⊢
 have:=best_inv hp (options.take 48) from_ latest (options.take 48) 0 0 false 0 rfl (fun h=>by cases h) h
 generalize QU1 p from_ latest 12 (options.take 48) (options.take 48) 0 0 false 0=r at this ⊢
 obtain ⟨a,b,c⟩:=this
 simp only [List.length_take] at b
 have e:(options.take 48).getD (Int.toNat r.1) Alt.zero=options.getD (Int.toNat r.1) Alt.zero:=by
  simp only [List.getD_eq_getElem?_getD,List.getElem?_take]
  rw [if_pos (by omega)]
 rw [e] at c
 exact ⟨a,by omega,c⟩
theorem Qmb {j:Job} (hc:Qp0 j=0) (h1:j.state=1):(j.promise = -1∨(0<=j.promise∧j.promise<=1000000∧j.held=false))∧j.start=0∧j.limit=0∧j.nodes=0:=by
 have hs:=QC3 (j:=j) (by rw [hc];rfl)
 rw [Qf1,show (j.state==1)=true by simpa using h1] at hs
 simp only [cond_true] at hs
 cases hq:(((j.start != 0)||(j.limit != 0))||(j.nodes != 0)) with
 | true=>rw [hq] at hs;cases hs
 | false =>
  rw [hq] at hs
  simp only [Bool.or_eq_false_iff,bne_eq_false_iff_eq] at hq
  refine ⟨?_,hq.1.1,hq.1.2,hq.2⟩
  cases hp:(j.promise==(-1)) with
  | true=>exact .inl (by simpa using hp)
  | false =>
   rw [hp] at hs
   simp [QL0] at hs
   exact .inr ⟨by omega,by omega,hs.2⟩
theorem check_promise {j:Job} (hc:Qp0 j=0) (h1:j.state=1) (hp:j.promise ≠ -1) {t b:Int} (ht:0<=t∧t<=1000000) (hw:Qy1 j.shape b > 0):Qp0 { j with promise:=t,choice:=b }=0:=by
 obtain ⟨hq,h2,h3,h4⟩:=Qmb hc h1
 have hh:=(hq.resolve_left hp).2.2
 unfold Qp0 at hc ⊢
 simp only [ref14_go] at hc ⊢
 cases hq:(((((((Qf4 (⟨1,0,j.name,j.user,j.account,j.shape,j.prio,true,0,false,j.after,0,0,0⟩:Cmd))!=0)||(decide (j.id<1)))||(decide (j.id > 99999)))||(!(QL0 j.born)))||(decide (j.used<0)))||(decide (j.used > 1000000000000))) with
 | true=>rw [hq] at hc;cases hc
 | false =>
  rw [hq] at hc
  simp only [cond_false] at hc ⊢
  cases hd:(j.after.any fun y=>decide (y.job >= j.id)) with
  | true=>rw [hd] at hc;cases hc
  | false =>
   simp only [cond_false]
   have:Qf1 { j with promise:=t,choice:=b }=true:=by
    rw [Qf1]
    simp only [h1,h2,h3,h4,beq_self_eq_true,cond_true,bne_self_eq_false,Bool.or_self,cond_false,hh,Bool.not_false,Bool.and_true]
    rw [show (t==(-1))=false by simp;omega]
    simp [QL0,hw]
    omega
   rw [this]
   rfl
theorem promise_both {j:Job} (hu:U64 j.nodes) (hc:Qp0 j=0) (h1:j.state=1) (hp:j.promise ≠ -1) {t b:Int} (ht:0<=t∧t<=1000000) (hb:0<=b∧b<((Q40 j.shape).length:Int)) :
  Qa4 j t b=({ j with promise:=t,choice:=b },0)∧Qw1 j t b=({ j with promise:=t,choice:=b },0)∧Qp0 { j with promise:=t,choice:=b }=0:=by
 obtain ⟨hq,_⟩:=Qmb hc h1
 have hh:=(hq.resolve_left hp).2.2
 have hm:(Q40 j.shape).getD (Int.toNat b) Alt.zero ∈ Q40 j.shape:=Qo8 (by omega)
 obtain ⟨o1,o2,o3,o4⟩:=QAa j.shape _ hm
 have hw:Qy1 j.shape b=((Q40 j.shape).getD (Int.toNat b) Alt.zero).wall:=by
  unfold Qy1
  rw [show ((decide (b<0))||(decide (b >= ((Q40 j.shape).length:Int))))=false by simp;omega]
  rfl
 have htk:QL0 t=true:=by simp [QL0];omega
 refine ⟨?_,?_,check_promise hc h1 hp ht (by omega)⟩
 ·unfold Qa4
  rw [job_eq j hu,hc,h1,hh,show QZ3 t=QL0 t from rfl,htk]
  have ho:(Q41 j b).2=true:=by
   unfold Q41
   rw [Qy6,show ((decide (b<0))||(decide (b >= ((Q40 j.shape).length:Int))))=false by simp;omega]
   rfl
  rw [ho]
  rfl
 ·unfold Qw1
  rw [hc,h1,hh,htk,hw,show (((Q40 j.shape).getD (Int.toNat b) Alt.zero).wall==0)=false from beq_eq_false_iff_ne.2 (by omega)]
  rfl
theorem claim_of {j:Job} (hu:U64 j.nodes) (hc:Qp0 j=0) (h1:j.state=1) (hp:j.promise ≠ -1) :
  Qn0 j=(j.promise,((Q40 j.shape).getD (Int.toNat j.choice) Alt.zero).wall+12,((Q40 j.shape).getD (Int.toNat j.choice) Alt.zero).nodes,true)∧Q50 j=Qn0 j:=by
 have hb:=Qia (QC3 (j:=j) (by rw [hc];rfl)) (by simp [h1,hp])
 have hm:(Q40 j.shape).getD (Int.toNat j.choice) Alt.zero ∈ Q40 j.shape:=Qo8 (by omega)
 obtain ⟨o1,o2,o3,o4⟩:=QAa j.shape _ hm
 have hw:w64 (((Q40 j.shape).getD (Int.toNat j.choice) Alt.zero).wall+12)=((Q40 j.shape).getD (Int.toNat j.choice) Alt.zero).wall+12:=wr (by omega)
 have e:Q50 j=(j.promise,((Q40 j.shape).getD (Int.toNat j.choice) Alt.zero).wall+12,((Q40 j.shape).getD (Int.toNat j.choice) Alt.zero).nodes,true):=by
  unfold Q50
  rw [show ((j.state != 1)||(j.promise==(-1)))=false by simp [h1,hp],hw]
  rfl
 have e2:Qn0 j=Q50 j:=by
  rw [claim_eq hu]
  unfold QD9
  rw [hc]
  rfl
 exact ⟨e2.trans e,e2.symm⟩
theorem Q9b:∀ (l:List Job) (last:Int) (i:Nat),i<=40->(Qx2 l last i=0 ↔ i+l.length<=40∧(∀ x ∈ l,Qp0 x=0)∧(last :: l.map (·.id)).Pairwise (· < ·))
 | [],last,i,hi=>by simp [Qx2,hi]
 | x :: r,last,i,hi=>by
  rw [Qx2]
  cases hc:((((i:Int)==40)||((Qp0 x)!=0))||(decide (x.id<=last))) with
  | true =>
   simp only [cond_true]
   refine ⟨fun h=>(by cases h),fun ⟨h1,h2,h3⟩=>?_⟩
   simp only [List.length_cons] at h1
   have g1:=h2 x (List.mem_cons_self ..)
   have g2:last<x.id:=(List.pairwise_cons.1 h3).1 _ (List.mem_cons_self ..)
   simp [g1] at hc
   omega
  | false =>
   simp at hc
   obtain ⟨⟨h1,h2⟩,h3⟩:=hc
   simp only [cond_false]
   rw [Q9b r x.id (i+1) (by omega)]
   simp only [List.length_cons,List.map_cons]
   constructor
   ·rintro ⟨g1,g2,g3⟩
    refine ⟨by omega,fun y hy=>?_,List.pairwise_cons.2 ⟨fun y hy=>?_,g3⟩⟩
    ·rcases List.mem_cons.1 hy with rfl|hy
     ·exact h2
     ·exact g2 y hy
    ·rcases List.mem_cons.1 hy with rfl|hy
     ·exact h3
     ·have:=(List.pairwise_cons.1 g3).1 y hy;omega
   ·rintro ⟨g1,g2,g3⟩
    exact ⟨by omega,fun y hy=>g2 y (List.mem_cons_of_mem _ hy),(List.pairwise_cons.1 g3).2⟩
theorem ids_set {l:List Job} {k:Nat} {j p:Job} (hk:l[k]? = some j) (hid:p.id=j.id):(l.set k p).map (·.id)=l.map (·.id):=by
 apply List.ext_getElem?
 intro i
 rw [List.getElem?_map,List.getElem?_map,Q6d hk]
 by_cases h:i=k
 ·subst h
  simp [hk,hid]
 ·rw [if_neg h]
theorem check15_set {l:List Job} {k:Nat} {j p:Job} (hk:l[k]? = some j) (hid:p.id=j.id) (hc:Qt1 l=0) (hp:Qp0 p=0):Qt1 (l.set k p)=0:=by
 obtain ⟨h1,h2,h3⟩:=(Q9b l 0 0 (by omega)).1 hc
 refine (Q9b _ 0 0 (by omega)).2 ⟨by rw [List.length_set];exact h1,fun x hx=>?_,by rw [ids_set hk hid];exact h3⟩
 rcases List.mem_or_eq_of_mem_set hx with h|rfl
 ·exact h2 x h
 ·exact hp
theorem with_set {l:List Job} (hp:l.Pairwise (fun a b=>a.id<b.id)) {k:Nat} {j p:Job} (hk:l[k]? = some j) (hid:p.id=j.id):QD3 l p=l.set k p:=by
 have hat:QO1 l p.id=(k:Int):=by
  rw [hid,QO1,at_some j l k 0 hk hp,Nat.zero_add]
 unfold QD3 QO6
 rw [hat,decide_eq_true (by omega:(k:Int) >= 0),Int.toNat_natCast]
 rfl
def Well (c:State):Prop:=c.sz∧(∀ x ∈ c.jobs,U64 x.nodes)∧QM3 c=0
theorem Well.room {c:State} (h:Well c):QR1 c=0:=by rw [room_eq c h.1 h.2.1];exact h.2.2
theorem Well.parts {c:State} (h:Well c):(0<=c.now∧c.now<=1000000)∧(∀ x ∈ c.jobs,Qp0 x=0)∧c.jobs.Pairwise (fun a b=>a.id<b.id)∧Qt1 c.jobs=0:=by
 obtain ⟨h1,_⟩:=QV7 h.room
 obtain ⟨_,_,f3,_,f5,_⟩:=Q4d h.1 h.2.1 h.room
 exact ⟨h1,f3,f5,by simpa using QC7 (s:=c) (by rw [h.2.2];rfl)⟩
theorem Well.set {c:State} (h:Well c) {k:Nat} {j p:Job} (hk:c.jobs[k]? = some j) (hid:p.id=j.id) (hp:Qp0 p=0) (hz:p.sz) (hu:U64 p.nodes):Well { c with jobs:=c.jobs.set k p }:=by
 obtain ⟨⟨z1,z2,z3,z4⟩,u,hc⟩:=h
 refine ⟨⟨z1,by show (c.jobs.set k p).length<=_;rw [List.length_set];exact z2,fun y hy=>?_,z4⟩,fun y hy=>?_,?_⟩
 ·exact (List.mem_or_eq_of_mem_set hy).elim (z3 y) fun e=>e ▸ hz
 ·exact (List.mem_or_eq_of_mem_set hy).elim (u y) fun e=>e ▸ hu
 ·have h15:=QC7 (s:=c) (by rw [hc];rfl)
  have h15':=check15_set hk hid (by simpa using h15) hp
  unfold QM3 at hc ⊢
  simp only [h15']
  revert hc
  rw [show ((Qt1 c.jobs)!=0)=false from h15]
  exact id
end Go.Proofs.YtjpgfmbccohngaaGreatDoor
namespace Go.Proofs.YtjpgfmbccohngaaGreatDoor
set_option linter.unusedSimpArgs false
set_option linter.unusedVariables false
open Go.Fw
theorem Well.rp {c:State} (h:Well c) (ex:List Int):QG2 c ex=QQ1 c ex∧Rp (QG2 c ex) (Q0b c ex) 200:=room_rp h.1 h.2.1 h.room ex
theorem clAt_of {j:Job} (hu:U64 j.nodes) (hc:Qp0 j=0) (h1:j.state=1) (hp:j.promise ≠ -1) (t:Int) :
  clAt t j=if (Qn0 j).1<=t∧t<(Qn0 j).1+(Qn0 j).2.1 then (Qn0 j).2.2.1 else 0:=by
 obtain ⟨e1,e2⟩:=claim_of hu hc h1 hp
 unfold clAt
 rw [e2,e1]
 simp
theorem step_give {c:State} (h:Well c) {k:Nat} {j:Job} (hk:c.jobs[k]? = some j) (h1:j.state=1) (hp:j.promise ≠ -1) :
  Qx1 (QG2 c []) (Qn0 j).1 (w64 ((Qn0 j).1+(Qn0 j).2.1)) (Qn0 j).2.2.1=(QQ1 c [j.id],0):=by
 have hm:=List.mem_of_getElem? hk
 obtain ⟨_,hch,hpw,_⟩:=h.parts
 have hc:=hch j hm
 have hu:=h.2.1 j hm
 obtain ⟨e1,e2⟩:=claim_of hu hc h1 hp
 obtain ⟨c1,c2,c3⟩:=QIc hc
 rw [e2] at c1 c2 c3
 have hw:w64 ((Qn0 j).1+(Qn0 j).2.1)=(Qn0 j).1+(Qn0 j).2.1:=wr (by omega)
 rw [hw,← (h.rp [j.id]).1]
 exact add_rp (h.rp []).2 (by omega) (Qpf h.1 h.2.1 h.room []) (Qpf h.1 h.2.1 h.room [j.id]) (by omega) (by omega) (by omega) (by omega)
  (fun t _ _=>by rw [left_some hpw hm,clAt_of hu hc h1 hp]) (h.rp [j.id]).2
theorem own_cn {c:State} (h:Well c) (ex:List Int):Cn (QQ1 c ex):=by
 rw [← (h.rp ex).1]
 exact (h.rp ex).2.cn (by omega) (Qpf h.1 h.2.1 h.room ex)
theorem step_take {c:State} (h:Well c) {k:Nat} {j:Job} (hk:c.jobs[k]? = some j) (h1:j.state=1) (hp:j.promise ≠ -1) {latest b t:Int} (hf:Found (QQ1 c [j.id]) (Q40 j.shape) c.now latest b t) :
  Qa4 j t b=({ j with promise:=t,choice:=b },0)∧Qw1 j t b=({ j with promise:=t,choice:=b },0)∧Well { c with jobs:=c.jobs.set k { j with promise:=t,choice:=b } } ∧
  Qn0 { j with promise:=t,choice:=b }=(t,((Q40 j.shape).getD (Int.toNat b) Alt.zero).wall+12,((Q40 j.shape).getD (Int.toNat b) Alt.zero).nodes,true) ∧
  QG6 (QQ1 c [j.id]) (Qn0 { j with promise:=t,choice:=b }).1 (Qn0 { j with promise:=t,choice:=b }).2.1 (Qn0 { j with promise:=t,choice:=b }).2.2.1=(QG2 { c with jobs:=c.jobs.set k { j with promise:=t,choice:=b } } [],0):=by
 have hm:=List.mem_of_getElem? hk
 obtain ⟨hnow,hch,hpw,_⟩:=h.parts
 have hc:=hch j hm
 have hu:=h.2.1 j hm
 obtain ⟨f1,f2,f3,f4,f5,f6,f7,f8,f9⟩:=hf
 have hm2:(Q40 j.shape).getD (Int.toNat b) Alt.zero ∈ Q40 j.shape:=Qo8 (by omega)
 obtain ⟨o1,o2,o3,o4⟩:=QAa j.shape _ hm2
 obtain ⟨p1,p2,p3⟩:=promise_both hu hc h1 hp (t:=t) (by omega) ⟨f1,f2⟩
 have hz:({ j with promise:=t,choice:=b }:Job).sz:=h.1.2.2.1 j hm
 have hW:=h.set hk (p:={ j with promise:=t,choice:=b }) rfl p3 hz hu
 have hpt:({ j with promise:=t,choice:=b }:Job).promise ≠ -1:=by show t ≠ -1;omega
 obtain ⟨e1,e2⟩:=claim_of (j:={ j with promise:=t,choice:=b }) hu p3 h1 hpt
 refine ⟨p1,p2,hW,e1,?_⟩
 rw [e1]
 show QG6 (QQ1 c [j.id]) t (((Q40 j.shape).getD (Int.toNat b) Alt.zero).wall+12) ((Q40 j.shape).getD (Int.toNat b) Alt.zero).nodes=_
 generalize hW':((Q40 j.shape).getD (Int.toNat b) Alt.zero).wall=wl at *
 generalize hN':((Q40 j.shape).getD (Int.toNat b) Alt.zero).nodes=nn at *
 have hfit:QI7 (QQ1 c [j.id]) t (wl+12) nn=true:=by
  rw [fits_eq]
  exact (Qla (own_cn h _) ((QF7 _ _).2 ⟨by omega,by omega⟩)).2 ⟨by omega,by omega,f9⟩
 unfold QG6
 rw [hfit]
 simp only [Bool.not_true,cond_false]
 have hw1:w64 (t+(wl+12))=t+(wl+12):=wr (by omega)
 have hw2:w64 (0 - nn) = -nn:=(wr (by omega):w64 (0 - nn)=0 - nn).trans (by omega)
 have hr:=(h.rp [j.id]).2
 rw [(h.rp [j.id]).1] at hr
 rw [hw1,hw2]
 have:=add_rp (n:=-nn) (f_:=t) (t_:=t+(wl+12)) hr (by omega) (Qpf h.1 h.2.1 h.room [j.id]) (Qpf hW.1 hW.2.1 hW.room []) (by omega) (by omega) (by omega) (by omega)
  (fun u _ _=>by
   rw [left_set (p:={ j with promise:=t,choice:=b }) hpw hk rfl (by omega) (by show j.state ≠ 2;omega),clAt_of (j:={ j with promise:=t,choice:=b }) hu p3 h1 hpt,e1]
   simp only [hW',hN']
   split <;> omega) (hW.rp []).2
 rw [this]
inductive Moved (s:State):State->List Int->Prop
 | refl:Moved s s []
 | step {c:State} {ids:List Int} {k:Nat} {j:Job} {b t:Int} (h:Moved s c ids) (hw:Well c) (hk:c.jobs[k]? = some j) (h1:j.state=1) (hp:j.promise ≠ -1) (hf:Found (QQ1 c [j.id]) (Q40 j.shape) c.now j.promise b t) (hne:¬ (b=j.choice∧t=j.promise)) :
   Moved s { c with jobs:=c.jobs.set k { j with promise:=t,choice:=b } } (ids++[j.id])
theorem Qyf (s:State) (id:Int):∀ (l:List Job) (i:Nat) (c:List (Int × Int)),s.jobs.drop i=l->(∀ x ∈ l,x.id ≠ id)->getM id (QP1 s l i c)=getM id c
 | [],_,_,_,_=>rfl
 | x :: r,i,c,hd,h=>by
  obtain ⟨h1,h2⟩:=Q12 Job.zero hd
  rw [QP1,Qyf s id r (i+1) _ h2 fun y hy=>h y (List.mem_cons_of_mem _ hy),Qb7,h1]
  have:=h x (List.mem_cons_self ..)
  rw [show (id==x.id)=false by simp;omega]
  rfl
theorem Qzf (s:State) (x:Job) (p:Nat) (hx:s.jobs[p]? = some x):∀ (l:List Job) (i:Nat) (c:List (Int × Int)),s.jobs.drop i=l->i<=p->l.Pairwise (fun a b=>a.id<b.id)->getM x.id (QP1 s l i c)=some (p:Int)
 | [],i,c,hd,hi,_=>by
  have:p<s.jobs.length:=(List.getElem?_eq_some_iff.1 hx).1
  have:=congrArg List.length hd
  simp at this
  omega
 | y :: r,i,c,hd,hi,hp=>by
  obtain ⟨h1,h2⟩:=Q12 Job.zero hd
  rw [List.pairwise_cons] at hp
  rw [QP1]
  rcases Nat.eq_or_lt_of_le hi with rfl|hlt
  ·have e:y=x:=by
    rw [← h1,List.getD_eq_getElem?_getD,hx]
    rfl
   subst e
   rw [Qyf s y.id r (i+1) _ h2 fun z hz=>by have:=hp.1 z hz;omega,Qb7,h1,beq_self_eq_true]
   rfl
  ·exact Qzf s x p hx r (i+1) _ h2 hlt hp.2
def prom (s:State) (x:Int):Bool:=(QS1 s.jobs x).2&&(decide ((QS1 s.jobs x).1.promise >= 0))
theorem Qz9 (s:State):∀ (l out:List Int) (i:Nat),Qu1 s l out i=out++l.filter (prom s)
 | [],out,i=>by simp [Qu1]
 | x :: r,out,i=>by
  rw [Qu1,List.filter_cons,Qz9 s r,Qz9 s r]
  show (bif prom s x then _ else _)=_
  cases prom s x <;> simp
theorem moves {s:State} (hs:Well s) {M:List (Int × Int)} (hM:∀ (k:Nat) (j:Job),s.jobs[k]? = some j->getM j.id M=some (k:Int)):∀ (r:List Int) (c:State) (ids:List Int) (i i':Nat),Moved s c ids->Well c->c={ s with jobs:=c.jobs }->r.Nodup ->
  (∀ x ∈ r,∃ (k:Nat) (j:Job),s.jobs[k]? = some j∧c.jobs[k]? = some j∧j.id=x∧j.state=1)->(Q10 s).drop i=r.filter (prom s) ->
  ∃ c' ids',Moved s c' ids'∧Well c'∧c'={ s with jobs:=c'.jobs }∧(∀ x ∈ ids',x ∈ ids∨x ∈ r)∧(ids.Nodup->(∀ x ∈ ids,x ∉ r)->ids'.Nodup)∧(Qm0 s M (r.filter (prom s)) (QG2 c []) ids i c.jobs).2=(ids',c'.jobs)∧(QB0 r ids i' c).1=ids'∧(QB0 r ids i' c).2.2=c'
 | [],c,ids,i,i',hm,hw,hc,_,_,_=>⟨c,ids,hm,hw,hc,fun x hx=>.inl hx,fun h _=>h,rfl,rfl,rfl⟩
 | x :: r,c,ids,i,i',hm,hw,hc,hnd,hr,hd=>by
  obtain ⟨hxr,hnd'⟩:=List.nodup_cons.1 hnd
  obtain ⟨k,j,hk,hck,hjx,h1⟩:=hr x (List.mem_cons_self ..)
  obtain ⟨hnow,hch,hpw,h15⟩:=hs.parts
  obtain ⟨_,_,hpwc,_⟩:=hw.parts
  have hjm:=List.mem_of_getElem? hk
  have hfind:QS1 s.jobs x=(j,true):=by
   have htab:Ql1 s.jobs=0:=(QV7 hs.room).2.2.1
   rw [← hjx]
   exact QAc htab hk
  have hprom:prom s x=decide (j.promise >= 0):=by unfold prom;rw [hfind];rfl
  have hget:QO0 c.jobs x=j:=by rw [← hjx];exact Q36 hpwc (List.mem_of_getElem? hck)
  have hq:=(Qmb (hch j hjm) h1).1
  have hr':∀ y ∈ r,∃ (k:Nat) (j:Job),s.jobs[k]? = some j∧c.jobs[k]? = some j∧j.id=y∧j.state=1:=fun y hy=>hr y (List.mem_cons_of_mem _ hy)
  have weak:∀ {ids':List Int},(∀ y ∈ ids',y ∈ ids∨y ∈ r) -> ∀ y ∈ ids',y ∈ ids∨y ∈ x :: r:=fun h y hy=>(h y hy).imp id (List.mem_cons_of_mem _)
  rw [QB0,hget]
  simp only
  by_cases hp:j.promise = -1
  ·have hf:prom s x=false:=by rw [hprom];exact decide_eq_false (by omega)
   rw [List.filter_cons,hf] at hd ⊢
   rw [show (j.promise==(-1))=true by simpa using hp]
   simp only [Bool.false_eq_true,if_false,cond_true] at hd ⊢
   obtain ⟨c',ids',g1,g2,g3,g4,g5,g6⟩:=moves hs hM r c ids i (i'+1) hm hw hc hnd' hr' hd
   exact ⟨c',ids',g1,g2,g3,weak g4,fun a b=>g5 a fun y hy hy2=>b y hy (List.mem_cons_of_mem _ hy2),g6⟩
  ·have hf:prom s x=true:=by rw [hprom];exact decide_eq_true (by rcases hq with h|h <;> omega)
   rw [List.filter_cons,hf] at hd ⊢
   rw [show (j.promise==(-1))=false by simpa using hp]
   simp only [if_true,cond_false] at hd ⊢
   obtain ⟨d1,d2⟩:=Q12 0 hd
   have hgj:c.jobs.getD k Job.zero=j:=by simp [List.getD_eq_getElem?_getD,hck]
   have hcn:c.now=s.now:=by rw [hc]
   have hMk:getM x M=some (k:Int):=by rw [← hjx];exact hM k j hk
   have hgive:=step_give hw hck h1 hp
   rw [Qm0,d1,hMk,Option.getD_some,Int.toNat_natCast,hgj]
   simp only
   rw [hgive]
   simp only [bne_self_eq_false,cond_false]
   rw [Qy6,best_eq]
   have hpk:QV5 c j j.promise=Qb3 (QQ1 c [j.id]) (Q40 j.shape) s.now j.promise 12:=by rw [← hcn];rfl
   rw [hpk]
   generalize hB:Qb3 (QQ1 c [j.id]) (Q40 j.shape) s.now j.promise 12=B
   cases hcond:((!B.2.2)||((B.1==j.choice)&&(B.2.1==j.promise))) with
   | true =>
    simp only [cond_true]
    obtain ⟨c',ids',g1,g2,g3,g4,g5,g6⟩:=moves hs hM r c ids (i+1) (i'+1) hm hw hc hnd' hr' d2
    exact ⟨c',ids',g1,g2,g3,weak g4,fun a b=>g5 a fun y hy hy2=>b y hy (List.mem_cons_of_mem _ hy2),g6⟩
   | false =>
    simp only [cond_false]
    simp only [Bool.or_eq_false_iff,Bool.not_eq_false'] at hcond
    have hfound:=best_spec (own_cn hw [j.id]) (Q40 j.shape) c.now j.promise (by rw [hcn,hB];exact hcond.1)
    rw [hcn,hB,← hcn] at hfound
    obtain ⟨t1,t2,t3,t4,t5⟩:=step_take hw hck h1 hp hfound
    have hne:¬ (B.1=j.choice∧B.2.1=j.promise):=fun ⟨a,b⟩=>by
     have:=hcond.2
     simp [a,b] at this
    rw [t1,t2]
    simp only [bne_self_eq_false,cond_false]
    rw [t5,with_set (p:={ j with promise:=B.2.1,choice:=B.1 }) hpwc hck rfl]
    simp only [beq_self_eq_true,cond_true]
    have hm':=Moved.step hm hw hck h1 hp hfound hne
    rw [show ids++[j.id]=ids++[x] by rw [hjx]] at hm'
    have hr2:∀ y ∈ r,∃ (k':Nat) (j':Job),s.jobs[k']? = some j'∧(c.jobs.set k { j with promise:=B.2.1,choice:=B.1 })[k']? = some j'∧j'.id=y∧j'.state=1:=by
     intro y hy
     obtain ⟨k',j',a1,a2,a3,a4⟩:=hr' y hy
     refine ⟨k',j',a1,?_,a3,a4⟩
     rw [Q6d hck,if_neg ?_]
     ·exact a2
     ·intro e
      subst e
      rw [hk] at a1
      simp only [Option.some.injEq] at a1
      subst a1
      exact hxr (by rw [← hjx,a3];exact hy)
    obtain ⟨c',ids',g1,g2,g3,g4,g5,g6⟩:=moves hs hM r { c with jobs:=c.jobs.set k { j with promise:=B.2.1,choice:=B.1 } } (ids++[x]) (i+1) (i'+1) hm' t3 (by rw [hc]) hnd' hr2 d2
    refine ⟨c',ids',g1,g2,g3,fun y hy=>?_,fun a b=>?_,g6⟩
    ·rcases g4 y hy with h|h
     ·rcases List.mem_append.1 h with h|h
      ·exact .inl h
      ·rw [List.mem_singleton.1 h];exact .inr (List.mem_cons_self ..)
     ·exact .inr (List.mem_cons_of_mem _ h)
    ·refine g5 (List.nodup_append.2 ⟨a,by simp,fun y hy z hz e=>?_⟩) fun y hy=>?_
     ·rw [List.mem_singleton.1 hz] at e
      exact b y hy (by rw [e];exact List.mem_cons_self ..)
     ·rcases List.mem_append.1 hy with h|h
      ·exact fun g=>b y h (List.mem_cons_of_mem _ g)
      ·rw [List.mem_singleton.1 h];exact hxr
theorem order_ids {s:State} (hs:Well s):(Qk0 s.jobs s.ledger (Q60 s.jobs)).Nodup ∧ ∀ x ∈ Qk0 s.jobs s.ledger (Q60 s.jobs),∃ (k:Nat) (j:Job),s.jobs[k]? = some j∧s.jobs[k]? = some j∧j.id=x∧j.state=1:=by
 obtain ⟨_,hch,hpw,h15⟩:=hs.parts
 have ho:=(QZb hs.1.2.1 hs.2.1 s.ledger hs.1.2.2.2.2.2.1 (Q60 s.jobs)).2 h15
 have hperm:=QBd s.ledger (Q60 s.jobs) s.jobs
 rw [ho]
 constructor
 ·have hn:(s.jobs.map (·.id)).Nodup:=by
   refine (List.pairwise_map.2 hpw).imp ?_
   intro a b h e
   rw [e] at h
   exact Int.lt_irrefl _ h
  have hf:((s.jobs.filter fun x=>(Q60 s.jobs).any (· == x.id)).map (·.id)).Nodup:=hn.sublist ((List.filter_sublist).map _)
  exact (hperm.map (·.id)).symm.nodup hf
 ·intro x hx
  obtain ⟨j,hj,rfl⟩:=List.mem_map.1 hx
  have hjf:=hperm.mem_iff.1 hj
  obtain ⟨hjm,hje⟩:=List.mem_filter.1 hjf
  obtain ⟨k,hk⟩:=List.getElem?_of_mem hjm
  refine ⟨k,j,hk,hk,rfl,?_⟩
  have hje':j.id ∈ Q60 s.jobs:=by simpa using hje
  have hel:j.id ∈ (QY0 s.jobs s.jobs [] 0).1:=by
   unfold Q60 at hje'
   rw [h15] at hje'
   exact hje'
  rcases QY9 s.jobs s.jobs [] 0 j.id hel with h|⟨y,hy,e,hy1,_⟩
  ·cases h
  ·have:QO0 s.jobs j.id=y:=by rw [← e];exact Q36 hpw hy
   rw [Q36 hpw hjm] at this
   rw [this]
   exact hy1
theorem squeeze_told {s:State} (hs:Well s) (hl:Qp3 s.ledger=0):∃ c ids,Moved s c ids∧Well c∧c={ s with jobs:=c.jobs }∧ids.Nodup∧Qd0 s=(c.jobs,ids)∧Qj1 s=(c.jobs,ids):=by
 have hroom:=hs.room
 have hl':Qz5 s.ledger=0:=by rw [← QH6 s.ledger hs.1.2.2.2.2.2.1];exact hl
 have hpc:Q42 s=0:=by unfold Q42;rw [hroom,hl];rfl
 have hpc':QI1 s=0:=by unfold QI1;rw [hs.2.2,hl'];rfl
 obtain ⟨h1,h2⟩:=order_ids hs
 obtain ⟨_,_,hpw,h15⟩:=hs.parts
 have hpr:Q10 s=(Qk0 s.jobs s.ledger (Q60 s.jobs)).filter (prom s):=by
  unfold Q10 QC1
  rw [Qz9,Q3f hs.1.2.1 hs.2.1,(QZb hs.1.2.1 hs.2.1 s.ledger hs.1.2.2.2.2.2.1 _).1]
  rfl
 obtain ⟨c,ids,g1,g2,g3,_,g5,g6,g7,g8⟩:=moves hs (M:=QP1 s s.jobs 0 []) (fun k j hk=>Qzf s j k hk s.jobs 0 [] rfl (Nat.zero_le _) hpw) _ s [] 0 0 .refl hs rfl h1 h2 (by rw [hpr];rfl)
 refine ⟨c,ids,g1,g2,g3,g5 .nil (fun _ h=>absurd h List.not_mem_nil),?_,?_⟩
 ·unfold Qd0
  rw [hpc]
  simp only [bne_self_eq_false,cond_false]
  unfold Qc3 Qz1
  rw [hpr,g6]
 ·unfold Qj1
  rw [hpc']
  simp only [bne_self_eq_false,cond_false]
  unfold QL2
  rw [g7,g8]
theorem Qbg {s:State} (hz:s.sz) (hu:∀ x ∈ s.jobs,U64 x.nodes) (h:Q42 s ≠ 0):Qd0 s=(s.jobs,[])∧Qj1 s=(s.jobs,[]):=by
 have h2:QI1 s ≠ 0:=by rw [← plan_eq s hz hu];exact h
 unfold Qd0 Qj1
 rw [show ((Q42 s)!=0)=true by simpa using h,show ((QI1 s)!=0)=true by simpa using h2]
 exact ⟨rfl,rfl⟩
theorem plan_well {s:State} (hz:s.sz) (hu:∀ x ∈ s.jobs,U64 x.nodes) (h:Q42 s=0):Well s∧Qp3 s.ledger=0:=by
 unfold Q42 at h
 cases h1:((QR1 s)!=0) with
 | true=>rw [h1] at h;cases h
 | false =>
  cases h2:((Qp3 s.ledger)!=0) with
  | true=>rw [h1,h2] at h;cases h
  | false =>
   have e1:QR1 s=0:=by simpa using h1
   exact ⟨⟨hz,hu,by rw [← room_eq s hz hu];exact e1⟩,by simpa using h2⟩
theorem squeeze_eq {s:State} (hz:s.sz) (hu:∀ x ∈ s.jobs,U64 x.nodes):Qd0 s=Qj1 s:=by
 by_cases h:Q42 s=0
 ·obtain ⟨hw,hl⟩:=plan_well hz hu h
  obtain ⟨c,ids,_,_,_,_,e1,e2⟩:=squeeze_told hw hl
  rw [e1,e2]
 ·rw [(Qbg hz hu h).1,(Qbg hz hu h).2]
end Go.Proofs.YtjpgfmbccohngaaGreatDoor
namespace Go.Proofs.YtjpgfmbccohngaaGreatDoor
set_option linter.unusedSimpArgs false
set_option linter.unusedVariables false
open Go.Fw
theorem QWf (b:List Int):∀ (l:List Int) (i:Nat),b.drop i=l->Qz4 b l i=true
 | [],_,_=>rfl
 | x :: r,i,h=>by
  obtain ⟨h1,h2⟩:=Q12 0 h
  rw [Qz4,h1,QWf b r (i+1) h2]
  simp
theorem Qoc (a:List Int):Qb5 a a=true:=by
 unfold Qb5
 rw [show ((a.length:Int)!=(a.length:Int))=false by simp]
 exact QWf a a 0 rfl
def dueP (s:State) (x:Int):Bool:=!(decide ((QS1 s.jobs x).1.promise > s.now))
theorem del_go (s:State) (P:List Int) (hl:P.length<=1000000):∀ (m i j:Nat) (c:List Int),c.length=P.length->c.length - j<m->i<=j->j<=c.length->c.drop j=P.drop j->c.take i=(P.take j).filter (dueP s) ->
  List.take (Int.toNat (Qy2 s m (i:Int) j c).1) (Qy2 s m (i:Int) j c).2.2=P.filter (dueP s)
 | 0,_,_,_,_,h,_,_,_,_=>absurd h (by omega)
 | m+1,i,j,c,hlen,hm,hij,hj,hd,ht=>by
  rw [Qy2]
  cases h:decide ((j:Int)<(c.length:Int)) with
  | false =>
   have hj':j=c.length:=by have:=of_decide_eq_false h;omega
   simp only [cond_false,Int.toNat_natCast]
   rw [ht,hj',hlen,List.take_length]
  | true =>
   have hlt:j<c.length:=by have:=of_decide_eq_true h;omega
   have hx:c.getD j 0=P.getD j 0:=by
    have e:(c.drop j)[0]? = (P.drop j)[0]?:=by rw [hd]
    simp only [List.getElem?_drop,Nat.add_zero] at e
    rw [List.getD_eq_getElem?_getD,List.getD_eq_getElem?_getD,e]
   have hP:P[j]? = some (P.getD j 0):=by
    rw [List.getD_eq_getElem?_getD,List.getElem?_eq_getElem (by omega)]
    rfl
   have htk:(P.take (j+1)).filter (dueP s)=(P.take j).filter (dueP s)++(if dueP s (P.getD j 0) then [P.getD j 0] else []):=by
    rw [List.take_add_one,hP,List.filter_append]
    simp [List.filter_cons]
   have hd1:c.drop (j+1)=P.drop (j+1):=by
    have:=congrArg (List.drop 1) hd
    simpa [List.drop_drop] using this
   simp only [cond_true]
   rw [hx]
   have hdp:(!(decide ((QS1 s.jobs (P.getD j 0)).1.promise > s.now)))=dueP s (P.getD j 0):=rfl
   rw [hdp]
   cases hq:dueP s (P.getD j 0) with
   | false =>
    simp only [cond_false]
    rw [hq] at htk
    exact del_go s P hl m i (j+1) c hlen (by omega) (by omega) (by omega) hd1 (by rw [ht,htk];simp)
   | true =>
    simp only [cond_true]
    rw [hq] at htk
    have hw:w64 ((i:Int)+1)=((i+1:Nat):Int):=wr (by omega)
    rw [hw,Int.toNat_natCast]
    refine del_go s P hl m (i+1) (j+1) (c.set i (P.getD j 0)) (by rw [List.length_set];exact hlen) (by rw [List.length_set];omega) (by omega) (by rw [List.length_set];omega) ?_ ?_
    ·rw [List.drop_set_of_lt (by omega)]
     exact hd1
    ·rw [htk,List.take_add_one,List.take_set_of_le (by omega),ht,List.getElem?_set]
     simp [show i<c.length by omega]
theorem due_go (s:State) (hl:(Q10 s).length<=1000000):∀ (r:List Int) (i:Nat),(Q10 s).drop i=r->(∀ x ∈ (Q10 s).take i,dueP s x=true)->Qo4 s r i=(Q10 s).filter (dueP s)
 | [],i,hd,hq=>by
  have:(Q10 s).length<=i:=by have:=congrArg List.length hd;simp at this;omega
  rw [List.take_of_length_le this] at hq
  exact (List.filter_eq_self.2 hq).symm
 | x :: r,i,hd,hq=>by
  obtain ⟨h1,h2⟩:=Q12 0 hd
  have hlen:=congrArg List.length hd
  simp only [List.length_drop,List.length_cons] at hlen
  have hP:(Q10 s)[i]? = some x:=by
   have:((Q10 s).drop i)[0]? = some x:=by rw [hd];rfl
   simpa using this
  rw [Qo4,h1]
  cases h:decide ((QS1 s.jobs x).1.promise > s.now) with
  | true =>
   have hx:dueP s x=false:=by unfold dueP;rw [h];rfl
   rw [show ((i:Int)==(-1))=false from beq_eq_false_iff_ne.2 (by omega)]
   simp only [cond_true,cond_false]
   refine del_go s _ hl _ i (i+1) _ rfl (by omega) (by omega) (by omega) rfl ?_
   rw [List.take_add_one,hP,List.filter_append,List.filter_eq_self.2 hq]
   simp [hx]
  | false =>
   simp only [cond_false]
   refine due_go s hl r (i+1) h2 fun y hy=>?_
   rw [List.take_add_one,hP] at hy
   rcases List.mem_append.1 hy with hy|hy
   ·exact hq y hy
   ·simp at hy
    subst hy
    unfold dueP
    rw [h]
    rfl
theorem QBf {s:State} (hs:Well s):Q10 s=(Qk0 s.jobs s.ledger (Q60 s.jobs)).filter (prom s):=by
 unfold Q10 QC1
 rw [Qz9,Q3f hs.1.2.1 hs.2.1,(QZb hs.1.2.1 hs.2.1 s.ledger hs.1.2.2.2.2.2.1 _).1]
 rfl
theorem rdue_g1 (s:State):∀ (l out:List Int) (i:Nat),(QK2 s l out i).1=out++l.filter (fun x=>(decide ((QO0 s.jobs x).promise >= 0))&&(decide ((QO0 s.jobs x).promise<=s.now)))
 | [],out,i=>by simp [QK2]
 | x :: r,out,i=>by
  rw [QK2,List.filter_cons]
  cases ((decide ((QO0 s.jobs x).promise >= 0))&&(decide ((QO0 s.jobs x).promise<=s.now))) <;> simp [rdue_g1 s r]
theorem order_le {s:State} (hs:Well s):(Qk0 s.jobs s.ledger (Q60 s.jobs)).length<=40:=by
 obtain ⟨_,_,_,h15⟩:=hs.parts
 rw [(QZb hs.1.2.1 hs.2.1 s.ledger hs.1.2.2.2.2.2.1 (Q60 s.jobs)).2 h15,List.length_map,(QBd s.ledger (Q60 s.jobs) s.jobs).length_eq]
 have h1:=List.length_filter_le (fun x:Job=>(Q60 s.jobs).any (· == x.id)) s.jobs
 obtain ⟨_,_,_,f4,_⟩:=Q4d hs.1 hs.2.1 hs.room
 omega
theorem due_told {s:State} (hs:Well s) (hl:Qp3 s.ledger=0):Q92 s=(Qk0 s.jobs s.ledger (Q60 s.jobs)).filter (fun x=>(decide ((QO0 s.jobs x).promise >= 0))&&(decide ((QO0 s.jobs x).promise<=s.now)))∧QA5 s=Q92 s:=by
 have hroom:=hs.room
 have hl':Qz5 s.ledger=0:=by rw [← QH6 s.ledger hs.1.2.2.2.2.2.1];exact hl
 have hpc:Q42 s=0:=by unfold Q42;rw [hroom,hl];rfl
 have hpc':QI1 s=0:=by unfold QI1;rw [hs.2.2,hl'];rfl
 obtain ⟨_,h2⟩:=order_ids hs
 obtain ⟨_,_,hpw,_⟩:=hs.parts
 have htab:Ql1 s.jobs=0:=(QV7 hs.room).2.2.1
 have hle:=order_le hs
 have hpl:(Q10 s).length<=1000000:=by
  rw [QBf hs]
  have:=List.length_filter_le (prom s) (Qk0 s.jobs s.ledger (Q60 s.jobs))
  omega
 have e:Q92 s=(Qk0 s.jobs s.ledger (Q60 s.jobs)).filter (fun x=>(decide ((QO0 s.jobs x).promise >= 0))&&(decide ((QO0 s.jobs x).promise<=s.now))):=by
  unfold Q92
  rw [hpc]
  simp only [bne_self_eq_false,cond_false]
  rw [due_go s hpl (Q10 s) 0 rfl (by simp),QBf hs,List.filter_filter]
  refine List.filter_congr fun x hx=>?_
  obtain ⟨k,j,hk,_,hjx,_⟩:=h2 x hx
  have hf:QS1 s.jobs x=(j,true):=by rw [← hjx];exact QAc htab hk
  have hg:QO0 s.jobs x=j:=by rw [← hjx];exact Q36 hpw (List.mem_of_getElem? hk)
  unfold prom dueP
  rw [hf,hg]
  by_cases a:j.promise >= 0 <;> by_cases b:j.promise<=s.now
  ·simp [a,b,show ¬ j.promise > s.now by omega]
  ·simp [a,b,show j.promise > s.now by omega]
  ·simp [a,b,show ¬ j.promise > s.now by omega]
  ·simp [a,b,show j.promise > s.now by omega]
 refine ⟨e,?_⟩
 rw [e]
 unfold QA5 QB5
 rw [hpc',rdue_g1]
 rfl
theorem due_eq {s:State} (hz:s.sz) (hu:∀ x ∈ s.jobs,U64 x.nodes):Q92 s=QA5 s:=by
 by_cases h:Q42 s=0
 ·obtain ⟨hw,hl⟩:=plan_well hz hu h
  exact (due_told hw hl).2.symm
 ·have h2:QI1 s ≠ 0:=by rw [← plan_eq s hz hu];exact h
  unfold Q92 QA5
  rw [show ((Q42 s)!=0)=true by simpa using h,show ((QI1 s)!=0)=true by simpa using h2]
  rfl
theorem Qdd {s:State} (hu:∀ x ∈ s.jobs,U64 x.nodes) (ha:Q07=true):Ql5 s=true:=by
 unfold Ql5
 rw [ha]
 cases hf:Q69 s with
 | false=>rfl
 | true =>
  have hz:=Qp8 hf
  rw [squeeze_eq hz hu,due_eq hz hu,(ref15_same _ _).2 rfl,Qoc,Qoc]
  rfl
end Go.Proofs.YtjpgfmbccohngaaGreatDoor
namespace Go.Proofs.YtjpgfmbccohngaaGreatDoor
set_option linter.unusedSimpArgs false
set_option linter.unusedVariables false
open Go.Fw
theorem squeeze_awake:Q07=true:=by kernel_rfl
end Go.Proofs.YtjpgfmbccohngaaGreatDoor
namespace Go.Fw
set_option linter.unusedSimpArgs false
set_option linter.unusedVariables false
open Go.RowKit Go.ChangeShapes Go.WideShapes Go.Deep
theorem Qnf {C:Checked} {os:Os} {f:FuncId} {fn:Func} {s:ChangeSpec} {laid0:List (String × DataW Unit)} {conds:List PathCond} {apart fresh handsOn again:Bool} {H:Type} {enc:TypeId × Value->H} {Q:List AVal->Prop} {tb:TypeId}
  (own:ownKnob C.prog.godebug=none) (started:os.Started) (noInit:C.prog.inits.idxOf? f=none) (hfn:C.prog.funcs[f]? = some fn)
  (witness:∃ (w:World) (tape:Tape) (i:Input),w.os=os∧(w.forCall tape i).Shaped C.prog∧i.vars=[]∧Input.okWide C.prog (w.forCall tape i) .any w.heap.size f i ∧
   ((s.pre enc C.prog fn conds apart (w.forCall tape i).memory i.args∧laidMetH C.prog laid0 (w.forCall tape i).memory)∧sizedMet enc C.prog fn (OpenSpec.ofChange s) apart (w.forCall tape i).memory i.args)∧({}:Assume).holds C.prog (lone (Frame.enter C.prog f i.args .normal) [] (w.forCall tape i)))
  (hvars:s.vars=[]) (hres:fn.resultTypes = #[tb]) (hbool:C.prog.underlying tb=some .bool) (laid:laidOutB C.prog=true)
  (hts:fn.params.toList.all (fun t=>C.prog.readableRec t&&decide (t<C.prog.types.size))=true)
  (hspec:∀ ds:List (DataW H),ds.length=fn.params.size->s.fn H ds={ results:=[.lit (.bool true)],args:=ds })
  (hargs:ArgsAs C.prog fn.params.toList Q) (hlaw:∀ l,Q l->AGives C.prog f l [] (.lit (.bool true))) :
  ReturnsInHanded {} C os f .any (fun w args=>(s.pre enc C.prog fn conds apart w args∧laidMetH C.prog laid0 w)∧sizedMet enc C.prog fn (OpenSpec.ofChange s) apart w args) (s.post enc C.prog fn apart fresh handsOn again):=by
 refine returnsInHanded_of_change_and (X:=fun w _=>laidMetH C.prog laid0 w) (fun _ _ _ hh h=>h.of_heap hh) own started noInit hfn witness ?_
 intro W base args ds gs before hval hW hcnd _ _ _
 have hW':=hW
 obtain ⟨p,q,hA,hV,hpq,hfz,hnd⟩:=hW
 rw [hvars] at hV
 obtain ⟨rfl,rfl⟩:=trodVars_none hV
 rw [List.append_nil] at hpq
 subst hpq
 obtain ⟨l,hQ,hreps⟩:=hargs.read (base:=base) (vs:=args.toList) (fun j t v hj hv=>hval j t v (by simpa using hj) (by simpa using hv)) hA
 have hc:=law_calls (hlaw l hQ) hreps
 rw [show args.toList.toArray=args by simp] at hc
 refine hc.mono fun e W' ⟨he,hb⟩=>?_
 subst he
 have hlen:ds.length=fn.params.size:=by
  have:∀ {ts:List TypeId} {vs:List Value} {ds:List (DataW H)} {ps:List MemPlace},DataW.TrodAll enc C.prog W 0 (fun _=>true) true ts vs ds ps->ds.length=ts.length:=by
   intro ts
   induction ts with
   | nil=>intro vs ds ps h;obtain ⟨rfl,rfl,rfl⟩:=trodAll_nil h;rfl
   | cons t ts ih=>intro vs ds ps h;obtain ⟨v,vs',d,ds',p,q,rfl,rfl,rfl,hd,hrest⟩:=trodAll_cons h;simp [ih hrest]
  simpa using this hA
 have hfn2:=hspec ds hlen
 have hold:∀ p ∈ before,p.block<W.heap.size:=fun p hp=>by simpa using hW'.lt p hp
 have hR:∀ (b:Nat) (sp:Nat->Bool) (hd:Bool),DataW.TrodAll enc C.prog W' b sp hd fn.resultTypes.toList ((Value.bool true).resultList fn.resultTypes.size) (s.fn H (ds++[])).results []:=by
  intro b sp hd
  rw [List.append_nil,hfn2,hres]
  exact trodAll_cons_mk (shut_bool hbool _) trodAll_mk0
 have hAr:∀ sp:Nat->Bool,(∀ p ∈ before,sp p.block=true)->DataW.TrodAll enc C.prog W' 0 sp true fn.params.toList args.toList (s.fn H (ds++[])).args before:=by
  intro sp hsp
  rw [List.append_nil,hfn2]
  exact QEc laid hb hts hA hold hsp
 have hVr:∀ sp:Nat->Bool,DataW.TrodVars enc C.prog W' sp s.vars (s.fn H (ds++[])).vars []:=by
  intro sp
  rw [List.append_nil,hfn2,hvars]
  rfl
 refine ⟨_,rfl,ds,[],before,[],before,[],hW',hR _ _ _,hAr _ (fun p hp=>by simpa using hold p hp),hVr _,hb.frame _,fun _=>⟨ok_one hres rfl (okWide_bool_mk hbool _),_,_,([]++before)++[],⟨[]++before,[],trodAll_append (hAr _ (fun _ _=>rfl)) (hR _ _ _),hVr _,rfl,?_,?_⟩,?_⟩⟩
 ·intro b off hp
  have hp:MemPlace.cell b off ∈ before:=by simpa using hp
  rw [hb.frozen (p:=⟨b,off,none⟩) (hold _ hp)]
  exact hfz b off (by simpa using hp)
 ·intro ha
  simpa using hnd ha
 ·intro p hp _
  simpa using hp
end Go.Fw
namespace Go.Proofs.YtjpgfmbccohngaaGreatDoor
set_option linter.unusedSimpArgs false
set_option linter.unusedVariables false
open Go.Fw
set_option maxRecDepth 100000
theorem ty3:Tryz.prog.underlying 33 = some (.int .u64):=by kernel_rfl
theorem ty2:Tryz.prog.underlying 9 = some (.string):=by kernel_rfl
theorem ty1:Tryz.prog.underlying 4 = some (.bool):=by kernel_rfl
theorem ty0:Tryz.prog.underlying 3 = some (.int .i64):=by kernel_rfl
def Node.wf (x:Node):Prop:=(Lit.int .i64 x.state).wf=true∧(Lit.int .i64 x.job).wf=true∧(Lit.int .i64 x.epoch).wf=true∧True∧(Lit.int .i64 x.want).wf=true∧(Lit.int .i64 x.since).wf=true∧(Lit.int .i64 x.asked).wf=true∧True
theorem readNode:ReadAs Tryz.prog 58 Node.cells Node.wf:=by
 have h:=ReadAs.struct (P:=Tryz.prog) (t:=58) rfl (by kernel_rfl) (.cons rfl (ReadAs.int ty0) (.cons rfl (ReadAs.int ty0) (.cons rfl (ReadAs.int ty0) (.cons rfl (ReadAs.bool ty1) (.cons rfl (ReadAs.int ty0) (.cons rfl (ReadAs.int ty0) (.cons rfl (ReadAs.int ty0) .nil)))))))
 exact h.map (fun p=>(⟨p.1,p.2.1,p.2.2.1,p.2.2.2.1,p.2.2.2.2.1,p.2.2.2.2.2.1,p.2.2.2.2.2.2.1⟩:Node)) (fun _=>rfl) (fun _ h=>h)
theorem readNodes:ReadAs Tryz.prog 22 (fun l=>[nodeL l]) fun l=>l.length<=maxLen ∧ ∀ a ∈ l,Node.wf a :=
 ReadAs.slice Node.zero rfl (by kernel_rfl) (by decide) readNode (fun _=>rfl)
def Alt.wf (x:Alt):Prop:=(Lit.int .i64 x.nodes).wf=true∧(Lit.int .i64 x.wall).wf=true∧True
theorem readAlt:ReadAs Tryz.prog 121 Alt.cells Alt.wf:=by
 have h:=ReadAs.struct (P:=Tryz.prog) (t:=121) rfl (by kernel_rfl) (.cons rfl (ReadAs.int ty0) (.cons rfl (ReadAs.int ty0) .nil))
 exact h.map (fun p=>(⟨p.1,p.2.1⟩:Alt)) (fun _=>rfl) (fun _ h=>h)
theorem readAlts:ReadAs Tryz.prog 29 (fun l=>[altL l]) fun l=>l.length<=maxLen ∧ ∀ a ∈ l,Alt.wf a :=
 ReadAs.slice Alt.zero rfl (by kernel_rfl) (by decide) readAlt (fun _=>rfl)
def Shape.wf (x:Shape):Prop:=(Lit.int .i64 x.kind).wf=true∧(x.alts.length<=maxLen ∧ ∀ a ∈ x.alts,Alt.wf a)∧(Lit.int .i64 x.min).wf=true∧(Lit.int .i64 x.max).wf=true∧(Lit.int .i64 x.wall).wf=true∧True
theorem readShape:ReadAs Tryz.prog 31 Shape.cells Shape.wf:=by
 have h:=ReadAs.struct (P:=Tryz.prog) (t:=31) rfl (by kernel_rfl) (.cons rfl (ReadAs.int ty0) (.cons rfl (readAlts) (.cons rfl (ReadAs.int ty0) (.cons rfl (ReadAs.int ty0) (.cons rfl (ReadAs.int ty0) .nil)))))
 exact h.map (fun p=>(⟨p.1,p.2.1,p.2.2.1,p.2.2.2.1,p.2.2.2.2.1⟩:Shape)) (fun _=>rfl) (fun _ h=>h)
def Dep.wf (x:Dep):Prop:=(Lit.int .i64 x.how).wf=true∧(Lit.int .i64 x.job).wf=true∧True
theorem readDep:ReadAs Tryz.prog 96 Dep.cells Dep.wf:=by
 have h:=ReadAs.struct (P:=Tryz.prog) (t:=96) rfl (by kernel_rfl) (.cons rfl (ReadAs.int ty0) (.cons rfl (ReadAs.int ty0) .nil))
 exact h.map (fun p=>(⟨p.1,p.2.1⟩:Dep)) (fun _=>rfl) (fun _ h=>h)
theorem readDeps:ReadAs Tryz.prog 32 (fun l=>[depL l]) fun l=>l.length<=maxLen ∧ ∀ a ∈ l,Dep.wf a :=
 ReadAs.slice Dep.zero rfl (by kernel_rfl) (by decide) readDep (fun _=>rfl)
def Job.wf (x:Job):Prop:=(Lit.int .i64 x.id).wf=true∧x.name.size<=maxLen∧x.user.size<=maxLen∧x.account.size<=maxLen∧Shape.wf x.shape∧(Lit.int .i64 x.prio).wf=true∧(x.after.length<=maxLen ∧ ∀ a ∈ x.after,Dep.wf a)∧(Lit.int .i64 x.state).wf=true∧True∧(Lit.int .i64 x.born).wf=true∧(Lit.int .i64 x.promise).wf=true∧(Lit.int .i64 x.choice).wf=true∧(Lit.int .i64 x.start).wf=true∧(Lit.int .i64 x.limit).wf=true∧(Lit.int .u64 x.nodes).wf=true∧(Lit.int .i64 x.used).wf=true∧True
theorem readJob:ReadAs Tryz.prog 35 Job.cells Job.wf:=by
 have h:=ReadAs.struct (P:=Tryz.prog) (t:=35) rfl (by kernel_rfl) (.cons rfl (ReadAs.int ty0) (.cons rfl (ReadAs.string ty2) (.cons rfl (ReadAs.string ty2) (.cons rfl (ReadAs.string ty2) (.cons rfl (readShape) (.cons rfl (ReadAs.int ty0) (.cons rfl (readDeps) (.cons rfl (ReadAs.int ty0) (.cons rfl (ReadAs.bool ty1) (.cons rfl (ReadAs.int ty0) (.cons rfl (ReadAs.int ty0) (.cons rfl (ReadAs.int ty0) (.cons rfl (ReadAs.int ty0) (.cons rfl (ReadAs.int ty0) (.cons rfl (ReadAs.int ty3) (.cons rfl (ReadAs.int ty0) .nil))))))))))))))))
 exact h.map (fun p=>(⟨p.1,p.2.1,p.2.2.1,p.2.2.2.1,p.2.2.2.2.1,p.2.2.2.2.2.1,p.2.2.2.2.2.2.1,p.2.2.2.2.2.2.2.1,p.2.2.2.2.2.2.2.2.1,p.2.2.2.2.2.2.2.2.2.1,p.2.2.2.2.2.2.2.2.2.2.1,p.2.2.2.2.2.2.2.2.2.2.2.1,p.2.2.2.2.2.2.2.2.2.2.2.2.1,p.2.2.2.2.2.2.2.2.2.2.2.2.2.1,p.2.2.2.2.2.2.2.2.2.2.2.2.2.2.1,p.2.2.2.2.2.2.2.2.2.2.2.2.2.2.2.1⟩:Job)) (fun _=>rfl) (fun _ h=>h)
theorem readJobs:ReadAs Tryz.prog 23 (fun l=>[jobL l]) fun l=>l.length<=maxLen ∧ ∀ a ∈ l,Job.wf a :=
 ReadAs.slice Job.zero rfl (by kernel_rfl) (by decide) readJob (fun _=>rfl)
def Resize.wf (x:Resize):Prop:=(Lit.int .i64 x.job).wf=true∧True∧(Lit.int .u64 x.nodes).wf=true∧(Lit.int .u64 x.said).wf=true∧(Lit.int .i64 x.since).wf=true∧True
theorem readResize:ReadAs Tryz.prog 347 Resize.cells Resize.wf:=by
 have h:=ReadAs.struct (P:=Tryz.prog) (t:=347) rfl (by kernel_rfl) (.cons rfl (ReadAs.int ty0) (.cons rfl (ReadAs.bool ty1) (.cons rfl (ReadAs.int ty3) (.cons rfl (ReadAs.int ty3) (.cons rfl (ReadAs.int ty0) .nil)))))
 exact h.map (fun p=>(⟨p.1,p.2.1,p.2.2.1,p.2.2.2.1,p.2.2.2.2.1⟩:Resize)) (fun _=>rfl) (fun _ h=>h)
theorem readResizes:ReadAs Tryz.prog 24 (fun l=>[QC5 l]) fun l=>l.length<=maxLen ∧ ∀ a ∈ l,Resize.wf a :=
 ReadAs.slice Resize.zero rfl (by kernel_rfl) (by decide) readResize (fun _=>rfl)
def Book.wf (x:Book):Prop:=(Lit.int .i64 x.id).wf=true∧(Lit.int .i64 x.from_).wf=true∧(Lit.int .i64 x.to).wf=true∧(Lit.int .i64 x.nodes).wf=true∧True
theorem readBook:ReadAs Tryz.prog 136 Book.cells Book.wf:=by
 have h:=ReadAs.struct (P:=Tryz.prog) (t:=136) rfl (by kernel_rfl) (.cons rfl (ReadAs.int ty0) (.cons rfl (ReadAs.int ty0) (.cons rfl (ReadAs.int ty0) (.cons rfl (ReadAs.int ty0) .nil))))
 exact h.map (fun p=>(⟨p.1,p.2.1,p.2.2.1,p.2.2.2.1⟩:Book)) (fun _=>rfl) (fun _ h=>h)
theorem readBooks:ReadAs Tryz.prog 25 (fun l=>[bookL l]) fun l=>l.length<=maxLen ∧ ∀ a ∈ l,Book.wf a :=
 ReadAs.slice Book.zero rfl (by kernel_rfl) (by decide) readBook (fun _=>rfl)
def Usage.wf (x:Usage):Prop:=x.user.size<=maxLen∧x.account.size<=maxLen∧(Lit.int .i64 x.used).wf=true∧(Lit.int .i64 x.share).wf=true∧True
theorem readUsage:ReadAs Tryz.prog 125 Usage.cells Usage.wf:=by
 have h:=ReadAs.struct (P:=Tryz.prog) (t:=125) rfl (by kernel_rfl) (.cons rfl (ReadAs.string ty2) (.cons rfl (ReadAs.string ty2) (.cons rfl (ReadAs.int ty0) (.cons rfl (ReadAs.int ty0) .nil))))
 exact h.map (fun p=>(⟨p.1,p.2.1,p.2.2.1,p.2.2.2.1⟩:Usage)) (fun _=>rfl) (fun _ h=>h)
theorem readUsages:ReadAs Tryz.prog 26 (fun l=>[QU2 l]) fun l=>l.length<=maxLen ∧ ∀ a ∈ l,Usage.wf a :=
 ReadAs.slice Usage.zero rfl (by kernel_rfl) (by decide) readUsage (fun _=>rfl)
def State.wf (x:State):Prop:=(Lit.int .i64 x.now).wf=true∧(x.nodes.length<=maxLen ∧ ∀ a ∈ x.nodes,Node.wf a)∧(x.jobs.length<=maxLen ∧ ∀ a ∈ x.jobs,Job.wf a)∧(x.resizes.length<=maxLen ∧ ∀ a ∈ x.resizes,Resize.wf a)∧(x.books.length<=maxLen ∧ ∀ a ∈ x.books,Book.wf a)∧(x.ledger.length<=maxLen ∧ ∀ a ∈ x.ledger,Usage.wf a)∧(Lit.int .i64 x.nextJob).wf=true∧(Lit.int .i64 x.nextBook).wf=true∧True
theorem readState:ReadAs Tryz.prog 28 State.cells State.wf:=by
 have h:=ReadAs.struct (P:=Tryz.prog) (t:=28) rfl (by kernel_rfl) (.cons rfl (ReadAs.int ty0) (.cons rfl (readNodes) (.cons rfl (readJobs) (.cons rfl (readResizes) (.cons rfl (readBooks) (.cons rfl (readUsages) (.cons rfl (ReadAs.int ty0) (.cons rfl (ReadAs.int ty0) .nil))))))))
 exact h.map (fun p=>(⟨p.1,p.2.1,p.2.2.1,p.2.2.2.1,p.2.2.2.2.1,p.2.2.2.2.2.1,p.2.2.2.2.2.2.1,p.2.2.2.2.2.2.2.1⟩:State)) (fun _=>rfl) (fun _ h=>h)
end Go.Proofs.YtjpgfmbccohngaaGreatDoor
namespace Go.Proofs.YtjpgfmbccohngaaGreatDoor
set_option linter.unusedSimpArgs false
set_option linter.unusedVariables false
open Go.Fw
theorem Shape.wf_szM {x:Shape} (h:x.wf):x.szM:=h.2.1.1
theorem Job.wf_szM {x:Job} (h:x.wf):x.szM:=⟨h.2.1,h.2.2.1,h.2.2.2.1,Shape.wf_szM h.2.2.2.2.1,h.2.2.2.2.2.2.1.1⟩
theorem Usage.wf_szM {x:Usage} (h:x.wf):x.szM:=⟨h.1,h.2.1⟩
theorem State.wf_szM {x:State} (h:x.wf):x.szM :=
 ⟨h.2.1.1,h.2.2.1.1,fun y hy=>Job.wf_szM (h.2.2.1.2 y hy),h.2.2.2.1.1,h.2.2.2.2.1.1,h.2.2.2.2.2.1.1,fun y hy=>Usage.wf_szM (h.2.2.2.2.2.1.2 y hy)⟩
end Go.Proofs.YtjpgfmbccohngaaGreatDoor
namespace Go.Proofs.YtjpgfmbccohngaaGreatDoor
set_option linter.unusedSimpArgs false
set_option linter.unusedVariables false
open Go.Fw
theorem wf_u64 {n:Int} (h:(Lit.int .u64 n).wf=true):U64 n:=by
 unfold Lit.wf at h
 simp only [Bool.and_eq_true,decide_eq_true_eq] at h
 have e1:IntKind.u64.min=0:=by decide
 have e2:IntKind.u64.max=18446744073709551615:=by decide
 rw [e1,e2] at h
 unfold U64
 omega
theorem Job.wf_u64 {x:Job} (h:x.wf):U64 x.nodes:=by
 unfold Job.wf at h
 exact Go.Proofs.YtjpgfmbccohngaaGreatDoor.wf_u64 h.2.2.2.2.2.2.2.2.2.2.2.2.2.2.1
end Go.Proofs.YtjpgfmbccohngaaGreatDoor
