/-
  What the last text of this claim leans on: an evaluator over the code, contracts of functions, plain laws. Conditions stand in each statement.
-/
import Derived.Test.YtackngeeehiegaaGreatDoorRDD2
import Derived.Test.YtackngeeehiegaaGreatDoorProg
import Derived.Test.YtackngeeehiegaaGreatDoorRDD1
namespace Go.Proofs.YtackngeeehiegaaGreatDoor
set_option linter.unusedSimpArgs false
set_option linter.unusedVariables false
open Go.Fw
set_option maxRecDepth 20000
set_option maxHeartbeats 4000000
attribute [local irreducible] ACalls AMoves
def QZ5 :Bool:=bif ((((((((((Q70 law26_small 5 3).2.2 != 0)||((Qw5 ((Q70 law26_small 5 3).1) (⟨8,2,5,1⟩:Note)).2.2 != 0))||((QQ3 ((Q70 law26_small 5 3).1) 5).2.2 != 0))||((Q70 law26_small 5 4).2.2 != 152))||((((Q70 law26_small 5 3).2.1).length:Int)!=1))||((((Qw5 ((Q70 law26_small 5 3).1) (⟨8,2,5,1⟩:Note)).2.1).length:Int)!=1))||((((QQ3 ((Q70 law26_small 5 3).1) 5).2.1).length:Int)!=1))||((((Qw5 ((Q70 law26_small 5 3).1) (⟨8,2,5,1⟩:Note)).1.jobs).length:Int)!=1))||((((QQ3 ((Q70 law26_small 5 3).1) 5).1.nodes).length:Int)!=4)) then false else (((((((((Q70 law26_small 5 3).2.1).getD 0 zL).kind==2)&&(((((Q70 law26_small 5 3).2.1).getD 0 zL).node==2)&&(((((Q70 law26_small 5 3).2.1).getD 0 zL).job==5)&&((((Q70 law26_small 5 3).2.1).getD 0 zL).epoch==1))))&&((((Qw5 ((Q70 law26_small 5 3).1) (⟨8,2,5,1⟩:Note)).2.1).getD 0 zL).kind==3))&&((((Qw5 ((Q70 law26_small 5 3).1) (⟨8,2,5,1⟩:Note)).1.jobs).getD 0 zG).nodes==7))&&((((QQ3 ((Q70 law26_small 5 3).1) 5).2.1).getD 0 zL).kind==5))&&((((QQ3 ((Q70 law26_small 5 3).1) 5).1.nodes).getD 2 zF).state==3))
theorem QHa {P:Prop} (h:P:=by first|(exact small_sz)|first|(exact begun_sz)|exact szA):P:=h
theorem Qy9 :GV 9 [] (Bo QZ5):=by
 generalize hR:QZ5=R;refine gA (kp 13 [78]) Tryz.func9 ?_;refine us (Qwc _) ?_;refine us (QM8 law26_small 5 3 QHa _) ?_;refine us (resize_Say_c ((Q70 law26_small 5 3).1) (⟨8,2,5,1⟩:Note) QHa (by exact begun_wu) _) ?_;refine us (resize_Abort_c ((Q70 law26_small 5 3).1) 5 QHa _) ?_;refine us (Qwc _) ?_;refine us (QM8 law26_small 5 4 QHa _) ?_;refine ai (fun h1=>?_) (fun h2=>?_)
 ·exact lfA
 ·refine ai gkA ?_;refine ai (fun _=>(by kernel_rfl:eqOK _ _=true)) ?_;refine ai gkA ?_;refine ai gkA ?_;refine ai gkA ?_;refine ai gkA ?_;exact lfA
end Go.Proofs.YtackngeeehiegaaGreatDoor
namespace Go.Proofs.YtackngeeehiegaaGreatDoor
set_option linter.unusedSimpArgs false
set_option linter.unusedVariables false
open Go.Fw
theorem resize_awake:QZ5=true:=by kernel_rfl
theorem good_zero {s:State} (hz:s.sz) (h:Good s∧WU s):Qj0 s=0:=(QSe (h.2.words hz)).2 h.1
theorem kept_g1 (t:State) (id or_:Int):∀ (l:List Job) (i:Nat),(∀ k,k<l.length->t.jobs.getD (i+k) zG=l.getD k zG∨((l.getD k zG).id=id∧t.jobs.getD (i+k) zG={ (l.getD k zG) with nodes:=or_ }))->Qp5 t id or_ l i=true
 | [],_,_=>rfl
 | x :: r,i,h=>by
  have h0:=h 0 (by simp);rw [y1a,List.getD_cons_zero] at h0
  have ih:=kept_g1 t id or_ r (i+1) (fun k hk=>by
   have:=h (k+1) (by simp only [yka];omega);rw [show i+(k+1)=i+1+k by omega,List.getD_cons_succ] at this
   exact this)
  have same:∀ y:Job,y=x->(!(QX7 ([x]:List Job) ([y]:List Job)))=false:=fun y e=>by
   rw [e,(ref15_same _ _).2 rfl]
   rfl
  rw [Qp5,ih];rcases h0 with e|⟨e1,e2⟩
  ·rw [e,same { x with nodes:=x.nodes } rfl];cases ((x.id==id)&&(x.nodes==or_)) <;> rfl
  ·rw [e2,e1,same _ (show ({ ({ x with nodes:=or_ }:Job) with nodes:=x.nodes }:Job)=x from rfl)];have:((id==id)&&(({ x with nodes:=or_ }:Job).nodes==or_))=true:=by simp
   rw [this]
   rfl
theorem kept_of {s t:State} (hc:Qj0 t=0) (h1:t.now=s.now) (h2:t.jobs.length=s.jobs.length) (h3:t.books=s.books) (h4:t.nextJob=s.nextJob) (id or_:Int) (h:∀ k,k<s.jobs.length->t.jobs.getD k zG=s.jobs.getD k zG∨((s.jobs.getD k zG).id=id∧t.jobs.getD k zG={ (s.jobs.getD k zG) with nodes:=or_ })):QT7 s t id or_=true:=by
 unfold QT7;rw [hc,h1,h2,h3,h4];simp only [bne_self_eq_false,Bool.or_self,cond_false];exact kept_g1 t id or_ s.jobs 0 fun k hk=>by rw [yna];exact h k hk
theorem kept_same {s t:State} (hc:Qj0 t=0) (h1:t.now=s.now) (h2:t.jobs=s.jobs) (h3:t.books=s.books) (h4:t.nextJob=s.nextJob) (id or_:Int):QT7 s t id or_=true :=
 kept_of hc h1 (by rw [h2]) h3 h4 id or_ fun k _=>.inl (by rw [h2])
def mem (K x:Nat):List Nat:=(List.range K).filter fun k=>x.testBit k
theorem QWe (K x : Nat) : mem (K + 1) x = (if x % 2 = 1 then [0] else []) ++ (mem K (x / 2)).map Nat.succ := by
 unfold mem;rw [ycc,ywb,List.filter_map,yac];have e:((fun k=>x.testBit k) ∘ Nat.succ)=fun k=>(x / 2).testBit k:=by
  funext k
  simp [yJb]
 rw [e]
 by_cases hb : x % 2 = 1
 ·simp [hb]
 ·simp [hb]
theorem clr_odd (y:Nat):(2*y+1) &&& (2*y+1 - 1)=2*y:=by
 refine y3b fun i=>?_
 rw [yEc,Nat.add_sub_cancel];rcases i with _|i
 ·simp [yac]
 ·rw [yJb,yJb,show (2*y+1) / 2=y by omega,show 2*y / 2=y by omega,Bool.and_self]
theorem clr_even {y:Nat} (h:0<y):(2*y) &&& (2*y - 1)=2*(y &&& (y - 1)):=by
 refine y3b fun i=>?_
 rw [yEc];rcases i with _|i
 ·simp [yac]
 ·rw [yJb,yJb,yJb,show 2*y / 2=y by omega,show (2*y - 1) / 2=y - 1 by omega,show 2*(y &&& (y - 1)) / 2=y &&& (y - 1) by omega,yEc]
theorem clr_mem:∀ (K x:Nat),x<2 ^ K->x ≠ 0->mem K (x &&& (x - 1))=(mem K x).tail
 | 0,x,h,h0=>absurd h (by simp;omega)
 | K+1,x,h,h0=>by
  rw [yzc] at h;rcases yYb x with hb|hb
  ·obtain ⟨y,rfl⟩:∃ y,x=2*y:=⟨x / 2,by omega⟩;rw [clr_even (by omega),QWe,QWe,show 2*(y &&& (y - 1)) / 2=y &&& (y - 1) by omega,show 2*y / 2=y by omega,clr_mem K y (by omega) (by omega)];simp only [show ¬ (2 * (y &&& (y - 1))) % 2 = 1 by omega, show ¬ (2 * y) % 2 = 1 by omega, if_false, ydb, List.map_tail]
  ·obtain ⟨y,rfl⟩:∃ y,x=2*y+1:=⟨x / 2,by omega⟩;rw [clr_odd,QWe,QWe,show 2*y / 2=y by omega,show (2*y+1) / 2=y by omega];simp only [show ¬ (2 * y) % 2 = 1 by omega, show (2 * y + 1) % 2 = 1 by omega, if_false, if_true, ydb, List.singleton_append, List.tail_cons]
theorem low_go (n:Nat):∀ (m x i:Nat),n - i<m->x<18446744073709551616->n - i<=(mem 64 x).length ->
  ∃ y:Nat,Qi4 (n:Int) m (x:Int) i=(y:Int)∧y<18446744073709551616∧mem 64 y=(mem 64 x).drop (n - i)
 | 0,_,_,h,_,_=>absurd h (by omega)
 | m+1,x,i,hm,hx,hl=>by
  rw [Qi4];rcases ypa i n with h|h
  ·have hx0:x ≠ 0:=by
    rintro rfl;have e:mem 64 0=[]:=List.filter_eq_nil_iff.2 (fun k _=>by simp);rw [e,yVa] at hl;omega
   have e1:wu64 ((x:Int) - 1)=((x - 1:Nat):Int):=by
    rw [QC7 ⟨by omega,by omega⟩];omega
   have hle:x &&& (x - 1)<=x:=Nat.and_le_left;have ec:=clr_mem 64 x (by rw [pow64];exact hx) hx0;rw [yha (show (i:Int)<(n:Int) by omega),e1,QLb hx (by omega)];obtain ⟨y,h1,h2,h3⟩:=low_go n m (x &&& (x - 1)) (i+1) (by omega) (by omega) (by rw [ec,List.length_tail];omega);refine ⟨y,h1,h2,?_⟩;rw [h3,ec,List.drop_tail,show n - (i+1)+1=n - i by omega]
  ·rw [yja (show ¬ (i:Int)<(n:Int) by omega)];exact ⟨x,rfl,hx,by rw [show n - i=0 by omega,yqb]⟩
theorem mem_iff {x k:Nat}:k ∈ mem 64 x ↔ k<64∧x.testBit k=true:=by
 unfold mem;rw [yub,ybb]
theorem Q39 (x:Nat):(mem 64 x).Nodup:=List.nodup_range.filter _
theorem QE6 {l:List Nat} (h:l.Nodup) (n:Nat) {k:Nat} (hk:k ∈ l):k ∈ l.take n ↔ ¬ k ∈ l.drop n:=by
 rw [← ytb n l] at h hk;have hd:=(List.nodup_append.1 h).2.2;rcases List.mem_append.1 hk with h1|h1
 ·exact ⟨fun _ h2=>hd k h1 k h2 rfl,fun _=>h1⟩
 ·exact ⟨fun h2=>absurd rfl (hd k h2 k h1),fun h2=>absurd h1 h2⟩
theorem QT8 {s:Int} (hs:U64 s):Q10 s=((mem 64 s.toNat).length:Int):=by
 rw [Qu3 hs,yec]
 rfl
theorem QJb {s:Int} (hs:U64 s) (n:Nat):(Q11 s (n:Int)).2=decide ((n:Int)<=Q10 s)∧U64 (Q11 s (n:Int)).1∧((n:Int)<=Q10 s -> ∀ k,tb (Q11 s (n:Int)).1 k=decide (k ∈ (mem 64 s.toNat).take n)):=by
 unfold Q11;rw [yja (show ¬ (n:Int)<0 by omega),yXa];rcases Int.lt_or_le (Q10 s) (n:Int) with h|h
 ·rw [yha (show (n:Int) > Q10 s by omega),yja (show ¬ (n:Int)<=Q10 s by omega)];exact ⟨rfl,.zero,fun h'=>absurd h' (by omega)⟩
 ·rw [yja (show ¬ (n:Int) > Q10 s by omega),yha h];obtain ⟨x,rfl⟩:∃ x:Nat,s=(x:Int):=⟨s.toNat,by unfold U64 at hs;omega⟩;have hx:x<18446744073709551616:=by unfold U64 at hs;omega
  rw [QT8 hs,yoa] at h;obtain ⟨y,h1,h2,h3⟩:=low_go n ((Int.toNat ((n:Int) - (0:Int)))+1) x 0 (by omega) hx (by omega);have hy:U64 (y:Int):=⟨by omega,by omega⟩;simp only [cond_false,Qx3];rw [h1];refine ⟨by first|trivial|rfl,QE7 _,fun _ k=>?_⟩;rw [Qi5 hs hy,yoa];rw [yjc] at h3;rcases ypa k 64 with hk|hk
  ·rw [yLa];simp only [yca,y5a,yda];show (x.testBit k=true∧y.testBit k=false) ↔ _;have hmy:y.testBit k=true ↔ k ∈ (mem 64 x).drop n:=by rw [← h3,mem_iff];exact ⟨fun q=>⟨hk,q⟩,fun q=>q.2⟩
   constructor
   ·rintro ⟨a,b⟩;rw [QE6 (Q39 x) n (mem_iff.2 ⟨hk,a⟩),← hmy,b];simp
   ·intro a;have hm:=y4a a;refine ⟨(mem_iff.1 hm).2,?_⟩;have:=(QE6 (Q39 x) n hm).1 a;rw [← hmy] at this;simpa using this
  ·rw [QWb hs hk];rw [yja fun a=>absurd (mem_iff.1 (y4a a)).1 (by omega)]
   rfl
theorem Qja {s:Int} (hs:U64 s) {n:Nat} (hn:(n:Int)<=Q10 s):U64 (QR0 s (n:Int)).1 ∧ ∀ k,tb (QR0 s (n:Int)).1 k=decide (k ∈ (mem 64 s.toNat).drop ((mem 64 s.toNat).length - n)):=by
 have hc:=QT8 hs;have h64:=Ql5 hs;have hw:w64 (Q10 s - (n:Int))=(((mem 64 s.toNat).length - n:Nat):Int):=by
  rw [w6 (by omega)];omega
 unfold QR0;rw [yja (show ¬ (n:Int)<0 by omega),yja (show ¬ (n:Int) > Q10 s by omega),hw];simp only [Bool.or_self,cond_false];obtain ⟨_,l2,l3⟩:=QJb hs ((mem 64 s.toNat).length - n);have l3:=l3 (by omega);refine ⟨QE7 _,fun k=>?_⟩;rw [Qi5 hs l2,l3];rcases ypa k 64 with hk|hk
 ·rw [yLa];simp only [yca,y5a,yda,yCa];constructor
  ·rintro ⟨a,b⟩;have hm:k ∈ mem 64 s.toNat:=mem_iff.2 ⟨hk,a⟩;rw [QE6 (Q39 _) _ hm] at b;exact Classical.byContradiction b
  ·intro a;have hm:=yPa a;refine ⟨(mem_iff.1 hm).2,fun b=>?_⟩;exact (QE6 (Q39 _) _ hm).1 b a
 ·rw [QWb hs hk,yja fun a=>absurd (mem_iff.1 (yPa a)).1 (by omega)]
  rfl
theorem set_go:∀ (l:List Nat) (x:Int) (i:Nat),U64 x->(∀ k ∈ l,k<64)->U64 (Qp4 (l.map fun (k:Nat)=>(k:Int)) x i).1 ∧ ∀ j,tb (Qp4 (l.map fun (k:Nat)=>(k:Int)) x i).1 j=(tb x j||decide (j ∈ l))
 | [],x,i,hx,_=>⟨hx,fun j=>by simp [Qp4]⟩
 | k :: l,x,i,hx,h=>by
  have hk:=h k (yma ..);rw [y8a,Qp4,has09 hx,QB5 hx,yha hk,yFb];cases hb:tb x k with
  | true =>
   obtain ⟨a,b⟩:=set_go l x (i+1) hx fun j hj=>h j (yga _ hj)
   refine ⟨a,fun j=>(b j).trans ?_⟩
   by_cases e:j=k
   ·subst e;simp [hb]
   ·simp [e]
  | false =>
   simp only [yTb,cond_true];rw [bit09 k (by omega),add_bit hx hk hb];obtain ⟨a,b⟩:=set_go l (wu64 (BitVec.ofInt 64 x ||| BitVec.ofInt 64 ((2:Int) ^ k)).toNat) (i+1) (QE7 _) fun j hj=>h j (yga _ hj)
   refine ⟨a,fun j=>(b j).trans ?_⟩;rw [tb_or hx (pow_U hk),tb_pow]
   by_cases e:j=k
   ·subst e;simp
   ·simp [e,Ne.symm e]
theorem set_bits (l:List Nat) (h:∀ k ∈ l,k<64):U64 (Qy6 (l.map fun (k:Nat)=>(k:Int))) ∧ ∀ j,tb (Qy6 (l.map fun (k:Nat)=>(k:Int))) j=decide (j ∈ l):=by
 obtain ⟨a,b⟩:=set_go l 0 0 .zero h;exact ⟨a,fun j=>(b j).trans (by rw [QF6,yXa])⟩
theorem list_mem_eq {s:Int} (hs:U64 s):Qy0 s=(mem 64 s.toNat).map fun (k:Nat)=>(k:Int):=by
 rw [← list_eq hs,Q29 hs,← yHb]
 rfl
theorem highest_eq {s:Int} (hs:U64 s) {n:Nat} (hn:(n:Int)<=Q10 s):(Qx6 s (n:Int)).1=(QR0 s (n:Int)).1:=by
 have hc:=QT8 hs;have h64:=Ql5 hs;have hl:=QS8 hs;obtain ⟨a,b⟩:=Qja hs hn;unfold Qx6;rw [← hl,yja (show ¬ (n:Int)<0 by omega),yja (show ¬ (n:Int) > Q10 s by omega)];have hw:w64 (Q10 s - (n:Int))=(((mem 64 s.toNat).length - n:Nat):Int):=by
  rw [w6 (by omega)];omega
 simp only [Bool.or_self,cond_false];rw [hw,yoa,list_mem_eq hs,← List.map_drop];obtain ⟨c,d⟩:=set_bits ((mem 64 s.toNat).drop ((mem 64 s.toNat).length - n)) fun k hk=>(mem_iff.1 (yPa hk)).1
 exact Q7d c a fun k _=>(d k).trans (b k).symm
theorem QTe (N:Nat):∀ (r:List Node) (out:List Nat) (i:Nat),out.length<=N -> ∃ i',Qq3 (N:Int) r (out.map fun (k:Nat)=>(k:Int)) i=(((out++(List.range' i r.length).filter (fun k=>((r.getD (k - i) zF).state==0)&&(!(r.getD (k - i) zF).drain))).take N).map fun (k:Nat)=>(k:Int),i')
 | [],out,i,h=>⟨i,by simp [Qq3,yLb h]⟩
 | x :: r,out,i,h=>by
  rw [Qq3];have hr:(List.range' i (x :: r).length).filter (fun k=>(((x :: r).getD (k - i) zF).state==0)&&(!((x :: r).getD (k - i) zF).drain))=(if ((x.state==0)&&(!x.drain))=true then [i] else [])++(List.range' (i+1) r.length).filter (fun k=>((r.getD (k - (i+1)) zF).state==0)&&(!(r.getD (k - (i+1)) zF).drain)):=by
   rw [yka,List.range'_succ,ywb,yfc];have e:(List.range' (i+1) r.length).filter (fun k=>(((x :: r).getD (k - i) zF).state==0)&&(!((x :: r).getD (k - i) zF).drain))=(List.range' (i+1) r.length).filter (fun k=>((r.getD (k - (i+1)) zF).state==0)&&(!(r.getD (k - (i+1)) zF).drain)):=by
    refine List.filter_congr fun k hk=>?_
    have:=List.mem_range'_1.1 hk;rw [show k - i=(k - (i+1))+1 by omega]
    rfl
   rw [e];show (if ((x.state==0)&&(!x.drain))=true then _ else _)=_;split <;> rfl
  rw [hr];cases hf:((x.state==0)&&(!x.drain)) with
  | false =>
   obtain ⟨i',e⟩:=QTe N r out (i+1) h;exact ⟨i',by simpa using e⟩
  | true =>
   rw [ypb];rcases ypa out.length N with hl|hl
   ·rw [yha (show (out.length:Int)<(N:Int) by omega)];obtain ⟨i',e⟩:=QTe N r (out++[i]) (i+1) (by simp;omega);refine ⟨i',?_⟩;simp only [Bool.and_self,cond_true,if_true];rw [yWb] at e;rw [yhb] at e;exact e
   ·rw [yja (show ¬ (out.length:Int)<(N:Int) by omega)];obtain ⟨i',e⟩:=QTe N r out (i+1) h;refine ⟨i',?_⟩;simp only [Bool.and_false,cond_false,if_true];rw [e,y9b (by omega),y9b (by omega)]
theorem grant_eq {act:Int} (ha:Act act) (l:List Node) (n job now:Int):Q26 l n act job now=QF2 l n act job now:=by
 unfold Q26 QF2;cases h1:((act != 1)&&(act != 2)) with
 | true=>rfl
 | false =>
  simp only [yXa,cond_false];rw [← QW3];cases h2:(Q50 l != 0) with
  | true=>rfl
  | false =>
   simp only [cond_false];cases h3:((decide (n<1))||(decide (n > 48))) with
   | true=>rfl
   | false =>
    simp only [cond_false];obtain ⟨h4,h5⟩:=or_f h3;have h4:=yea h4;obtain ⟨N,rfl⟩:∃ N:Nat,n=(N:Int):=⟨n.toNat,by omega⟩;have hc:Q50 l=0:=by simpa using h2
    have hl:=(Q65 hc).1;obtain ⟨fu,fb⟩:=Q23 l (fun (y:Node)=>((y.state==0)&&(!y.drain))) hc (by omega);have hF:Qa1 l=Q31 l (fun (y:Node)=>((y.state==0)&&(!y.drain))):=rfl;rw [← hF] at fu fb;have hmem:mem 64 (Qa1 l).toNat=(List.range' 0 l.length).filter (fun k=>((l.getD (k - 0) zF).state==0)&&(!(l.getD (k - 0) zF).drain)):=by
     have e:mem 64 (Qa1 l).toNat=(List.range 64).filter (fun k=>decide (k<l.length)&&(((l.getD k zF).state==0)&&(!(l.getD k zF).drain))):=by
      unfold mem;refine List.filter_congr fun k _=>?_
      exact fb k
     rw [e,← yHb,show 64=l.length+(64 - l.length) by omega,List.range_add,List.filter_append];have e2:((List.range (64 - l.length)).map (l.length + ·)).filter (fun k=>decide (k<l.length)&&(((l.getD k zF).state==0)&&(!(l.getD k zF).drain)))=[]:=by
      refine List.filter_eq_nil_iff.2 fun k hk=>?_
      obtain ⟨q,_,rfl⟩:=List.mem_map.1 hk;rw [yja (show ¬ l.length+q<l.length by omega),yNb];exact Bool.false_ne_true
     rw [e2,yUb];refine List.filter_congr fun k hk=>?_
     rw [yha (List.mem_range.1 hk)]
     rfl
    obtain ⟨i',e⟩:=QTe N l [] 0 (by simp);rw [← hmem,ydb] at e;have e:Qq3 (N:Int) l [] 0=(((mem 64 (Qa1 l).toNat).take N).map fun (k:Nat)=>(k:Int),i'):=e;rw [e];obtain ⟨q1,q2,q3⟩:=QJb fu N;have hcm:=QT8 fu;unfold Qkb;rw [q1,ypb,yra];rcases Int.lt_or_le (Q10 (Qa1 l)) (N:Int) with h|h
    ·rw [yja (show ¬ (N:Int)<=Q10 (Qa1 l) by omega),yha (show ((min N (mem 64 (Qa1 l).toNat).length:Nat):Int)<(N:Int) by omega)]
     rfl
    ·rw [yha h,yja (show ¬ ((min N (mem 64 (Qa1 l).toNat).length:Nat):Int)<(N:Int) by omega)];obtain ⟨c,d⟩:=set_bits ((mem 64 (Qa1 l).toNat).take N) fun k hk=>(mem_iff.1 (y4a hk)).1
     have es:Qy6 (((mem 64 (Qa1 l).toNat).take N).map fun (k:Nat)=>(k:Int))=(Q11 (Qa1 l) (N:Int)).1:=Q7d c q2 fun k _=>(d k).trans (q3 h k).symm
     rw [es,each_eq ha q2]
     rfl
theorem quiet_eq {s:Int} (hs:U64 s) (l:List Node):QNb l s=Qn2 l s:=by
 unfold QNb Qlb Qn2;rw [quiet_go,list_eq hs,← QW3];have h:=okloop (Qy0 s).length (fun i=>(decide (((Qy0 s).getD i 0)<(l.length:Int)))&&((l.getD (Int.toNat ((Qy0 s).getD i 0)) zF).want==0)) (Q87 l s) (fun _ _ _=>rfl) ((Int.toNat (((Qy0 s).length:Int) - (0:Int)))+1) ((Q50 l)==0) 0 (by omega) (by omega);rw [yLa,h];cases hc:(Q50 l != 0) with
 | true =>
  have:(Q50 l==0)=false:=by simpa using hc
  rw [this];exact ⟨fun h=>(nomatch h.1),fun h=>(nomatch h)⟩
 | false =>
  have:(Q50 l==0)=true:=by simpa using hc
  rw [this];simp only [cond_false,true_and,y6a];constructor
  ·intro h x hx;obtain ⟨k,hk,e⟩:=QCc (0:Int) hx;have:=h k (yBa _) hk;rw [e] at this;exact this
  ·intro h k _ hk;exact h _ (QX4 hk)
theorem turnP_cons (P:Nat->Bool) (f:Node->Node) (x:Node) (r:List Node):turnP P f (x :: r)=(bif P 0 then f x else x) :: turnP (fun k=>P (k+1)) f r:=by
 simp [turnP,List.mapIdx_cons]
theorem QNg (u d:Int) (g:Node->Int) (f:Node->Node):∀ (l:List Node) (P:Nat->Bool),(∀ k,k<l.length->P k=true->(if u<g (f (l.getD k zF)) then 1 else 0)=(if u<g (l.getD k zF) then (1:Int) else 0)+d) ->
  sumT u ((turnP P f l).map g)=sumT u (l.map g)+d*(((List.range l.length).countP P:Nat):Int)
 | [],P,_=>by simp [turnP,sumT]
 | x :: r,P,h=>by
  have ih:=QNg u d g f r (fun k=>P (k+1)) (fun k hk hp=>by
   have:=h (k+1) (by simp only [yka];omega) hp
   simpa using this)
  have h0:=h 0 (by simp);rw [turnP_cons,yka,ycc,yuc,List.countP_map];have e:(P ∘ Nat.succ)=fun k=>P (k+1):=rfl
  rw [e,y8a,y8a,sumT,sumT,ih];cases hp:P 0 with
  | false =>
   simp only [cond_false,yTa,if_false,y1a];omega
  | true =>
   have h1:=h0 hp;simp only [cond_true,if_true,List.getD_cons_zero] at h1 ⊢;rw [h1,Int.natCast_add,Int.mul_add];omega
theorem fil_turn (p:Node->Bool) (f:Node->Node):∀ (l:List Node) (P:Nat->Bool),(∀ k,k<l.length->P k=true->p (f (l.getD k zF))=p (l.getD k zF))->((turnP P f l).filter p).length=(l.filter p).length
 | [],P,_=>rfl
 | x :: r,P,h=>by
  have ih:=fil_turn p f r (fun k=>P (k+1)) (fun k hk hp=>by
   have:=h (k+1) (by simp only [yka];omega) hp
   simpa using this)
  have h0:=h 0 (by simp);have e:p (bif P 0 then f x else x)=p x:=by
   cases hp:P 0 with
   | false=>rfl
   | true=>exact h0 hp
  rw [turnP_cons,ywb,ywb,e];cases p x <;> simp [ih]
theorem range_count {S:Int} (hS:U64 S) {n:Nat} (hn:n<=64) (h:∀ k,k<64->tb S k=true->k<n):(((List.range n).countP (tb S):Nat):Int)=Q10 S:=by
 rw [Qu3 hS]
 congr 1
 obtain ⟨m,hm⟩:∃ m,64=n+m:=⟨64 - n,by omega⟩;have h0:((List.range m).map fun x=>n+x).countP (tb S)=0:=by
  rw [List.countP_eq_zero];intro k hk hb;obtain ⟨x,hx,rfl⟩:=List.mem_map.1 hk;have hx:=List.mem_range.1 hx;have:=h (n+x) (by omega) hb;omega
 have e:List.range 64=List.range n++(List.range m).map fun x=>n+x:=by
  rw [hm,List.range_add]
 rw [e,List.countP_append,h0,y1a]
section
variable {s t:State} {j:Job} (b:Asked s j)
include b
theorem Asked.left2 {S:Int} (hS:U64 S) (hfree:∀ k,k<64->tb S k=true->k<s.nodes.length∧(s.nodes.getD k zF).state=0∧(s.nodes.getD k zF).drain=false∧(s.nodes.getD k zF).epoch<999999999)
  (hn:t.nodes=turnP (tb S) (fun x=>Q60 x 2 j.id s.now) s.nodes) (hj:t.jobs=s.jobs) (hb:t.books=s.books) {u:Int} (hu:0<=u):Qs6 t [] u=Qs6 s [] u - (if u<w64 (j.limit+12) then Q10 S else 0):=by
 have hlen:=QQa b.g;have hsort:=(Q12 (QY2 b.g)).2.2;have hg:=Qzf hsort b.hj
 have e1:=QNg u (if u<w64 (j.limit+12) then 1 else 0) (tk s.jobs) (fun x=>Q60 x 2 j.id s.now) s.nodes (tb S) (fun k hk hp=>by
  obtain ⟨h1,h2,h3,_⟩:=hfree k (by omega) hp;have e2:tk s.jobs (s.nodes.getD k zF)=0:=by
   unfold tk;rw [h2,h3]
   rfl
  have e3:tk s.jobs (Q60 (s.nodes.getD k zF) 2 j.id s.now)=w64 (j.limit+12):=by
   rw [(act2 _ j.id s.now).1];unfold tk;dsimp only;rw [h3,hg,b.st]
   rfl
  rw [e2,e3,if_neg (show ¬ u<0 by omega)]
  omega)
 rw [range_count hS (by omega) (fun k hk hb=>(hfree k hk hb).1)] at e1
 have e4:=fil_turn (fun y=>(y.state != 4)&&(!y.drain)) (fun x=>Q60 x 2 j.id s.now) s.nodes (tb S) (fun k hk hp=>by
  obtain ⟨h1,h2,h3,_⟩:=hfree k (by omega) hp;show (((Q60 _ 2 j.id s.now).state != 4)&&(!(Q60 _ 2 j.id s.now).drain))=_;rw [(act2 _ j.id s.now).1];dsimp only;rw [h2,h3]
  rfl)
 unfold Qs6 Qfc;rw [hn,hj,hb,e1,e4];split
 ·omega
 ·omega
end
theorem left5 {s t:State} {S:Int} (hn:t.nodes=turnP (tb S) (fun x=>Q60 x 5 0 s.now) s.nodes) (hS:∀ k,k<s.nodes.length->tb S k=true->(s.nodes.getD k zF).state=1) (hj:t.jobs=s.jobs) (hb:t.books=s.books) (u:Int):Qs6 t [] u=Qs6 s [] u:=by
 have e1:=QNg u 0 (tk s.jobs) (fun x=>Q60 x 5 0 s.now) s.nodes (tb S) (fun k hk hp=>by
  have h:=hS k hk hp;have e2:tk s.jobs (Q60 (s.nodes.getD k zF) 5 0 s.now)=tk s.jobs (s.nodes.getD k zF):=by
   rw [(act5 _ s.now).1];unfold tk;dsimp only;rw [h]
   rfl
  rw [e2,Int.add_zero])
 have e4:=fil_turn (fun y=>(y.state != 4)&&(!y.drain)) (fun x=>Q60 x 5 0 s.now) s.nodes (tb S) (fun k hk hp=>by
  show (((Q60 _ 5 0 s.now).state != 4)&&(!(Q60 _ 5 0 s.now).drain))=_
  rw [(act5 _ s.now).1])
 unfold Qs6 Qfc;rw [hn,hj,hb,e1,e4];omega
theorem w64_in (n:Int):-9223372036854775808<=w64 n∧w64 n<=9223372036854775807:=by
 show -9223372036854775808<=IntKind.i64.wrap n∧IntKind.i64.wrap n<=9223372036854775807;rw [IntKind.wrap_i64];omega
theorem keeps_less {s t:State} {L n:Int} (hs:Well s) (hk:Keeps s) (hn:t.now=s.now) (hj:t.jobs=s.jobs) (hl:∀ u,0<=u->Qs6 t [] u=Qs6 s [] u - (if u<w64 L then n else 0)) (hf:QI7 (Qw0 s []) s.now (w64 (w64 L - s.now)) n=true):Keeps t:=by
 obtain ⟨hnow,hch,_⟩:=hs.parts;have hcn:=own_cn hs [];rw [(hs.rp []).1,fits_eq] at hf;cases ha:QJ7 (w64 (w64 L - s.now)) n with
 | false=>rw [rfits_no (.inr ha)] at hf;cases hf
 | true =>
  obtain ⟨h0,h1,h2⟩:=(rfits_iff hcn ha).1 hf;have h3:=(own_fit hs [] h0 h1).1 h2;intro y hy hy1 hyp;rw [hj] at hy;obtain ⟨g1,g2⟩:=hk y hy hy1 hyp;refine ⟨g1,fun u a d=>?_⟩;rw [hn] at a;have hu:s.now<=u:=by omega
  rw [hl u (by omega)]
  by_cases hL:u<w64 L
  ·rw [if_pos hL];have hw:=w64_in L;have e:w64 (w64 L - s.now)=w64 L - s.now:=w6 (by omega);have:=h3 u hu (by rw [e];omega);omega
  ·rw [if_neg hL];have:=g2 u a d;omega
theorem keeps_same {s t:State} (hk:Keeps s) (hn:t.now=s.now) (hj:t.jobs=s.jobs) (hl:∀ u,Qs6 t [] u=Qs6 s [] u):Keeps t:=by
 intro y hy hy1 hyp;rw [hj] at hy;obtain ⟨g1,g2⟩:=hk y hy hy1 hyp;refine ⟨g1,fun u a d=>?_⟩;rw [hn] at a;rw [hl];exact g2 u a d
theorem well_of {s:State} (hz:s.sz) (hu:WU s) (g:Good s):Well s∧Qo4 s.ledger=0:=by
 have h:=(Qzd s).1 g.plan;have hr:Qb1 s=0:=by
  have:=g.plan;unfold Qy1 at this;cases h1:(Qb1 s != 0) with
  | true=>rw [h1] at this;cases this
  | false=>simpa using h1
 exact ⟨⟨hz,hu.1,by rw [← room_eq s hz hu.1];exact hr⟩,h.2.2.2.2⟩
section
variable {act job now:Int}
theorem each_bad {l:List Node} (S:Int) (hc:Q50 l=0) (ht:QH2 now=true):∀ (r:List Nat) (i:Nat) (p:Nat->Bool),r.Nodup->(∀ k ∈ r,k<l.length∧p k=false∧(Qc2 (l.getD k zF) act job=true->QG0 (Q60 (l.getD k zF) act job now)=true)) ->
  Q50 (turnP p (fun x=>Q60 x act job now) l)=0->(∃ k ∈ r,Qc2 (l.getD k zF) act job=false) ->
  (QB1 S act job now (r.map fun (k:Nat)=>(k:Int)) i (turnP p (fun x=>Q60 x act job now) l)).2.2 ≠ 0
 | [],_,_,_,_,_,⟨k,hk,_⟩=>nomatch hk
 | k :: r,i,p,hnd,h,hpc,hbad=>by
  obtain ⟨hk,hp,hf⟩:=h k (yma ..);obtain ⟨hkr,hnd'⟩:=List.nodup_cons.1 hnd;have hg:(turnP p (fun x=>Q60 x act job now) l).getD k zF=l.getD k zF:=by rw [Qu2 _ _ hk,hp];rfl
  rw [y8a,QB1];cases hm:Qc2 (l.getD k zF) act job with
  | false =>
   have hdo:QX2 (turnP p (fun x=>Q60 x act job now) l) (k:Int) act job now=([],120):=by
    unfold QX2;rw [hpc,yja (show ¬ (k:Int)<0 by omega),yja (show ¬ (k:Int) >= ((turnP p (fun x=>Q60 x act job now) l).length:Int) by rw [QH1];omega),ht,yoa,hg,hm]
    rfl
   rw [hdo];show (120:Int) ≠ 0
   decide
  | true =>
   have hf:=hf hm;have hdo:=do_ok (c:=turnP p (fun x=>Q60 x act job now) l) (k:=k) hpc (by rw [QH1];exact hk) ht (by rw [hg];exact hm);rw [hg,turnP_set (f:=fun x=>Q60 x act job now) hk hp] at hdo;have hpc':Q50 (turnP (fun j=>p j||(j==k)) (fun x=>Q60 x act job now) l)=0:=by
    refine turnP_fine hc fun j hj hpj=>?_
    rcases Bool.or_eq_true_iff.1 hpj with hpj|hpj
    ·have:=(Q65 hpc).2 _ (QX4 (d:=zF) (show j<(turnP p (fun x=>Q60 x act job now) l).length by rw [QH1];exact hj));rw [Qu2 _ _ hj,hpj] at this;exact this
    ·rw [eq_of_beq hpj];exact hf
   rw [hdo];refine each_bad S hc ht r (i+1) (fun j=>p j||(j==k)) hnd' (fun j hj=>?_) hpc' ?_
   ·obtain ⟨a,b,c⟩:=h j (yga _ hj);have:(j==k)=false:=by simp;rintro rfl;exact hkr hj
    exact ⟨a,by rw [b,this];rfl,c⟩
   ·obtain ⟨q,hq,hb⟩:=hbad;rcases List.mem_cons.1 hq with rfl|hq
    ·rw [hm] at hb;cases hb
    ·exact ⟨q,hq,hb⟩
theorem each_may {l:List Node} {S:Int} (hS:U64 S) (hc:Q50 l=0) (ht:QH2 now=true) (hin:∀ k,k<64->tb S k=true->k<l.length∧(Qc2 (l.getD k zF) act job=true->QG0 (Q60 (l.getD k zF) act job now)=true))
  (h0:(Ql0 l S act job now).2.2=0):∀ k,k<64->tb S k=true->Qc2 (l.getD k zF) act job=true:=by
 intro k hk hb;cases hm:Qc2 (l.getD k zF) act job with
 | true=>rfl
 | false =>
  exfalso
  have e:=each_bad (act:=act) (job:=job) (now:=now) S hc ht ((List.range' 0 64).filter (tb S)) 0 (fun _=>false) ((List.nodup_range' (step:=1)).filter _) (fun i hi=>by
   simp only [yub,y4b] at hi;obtain ⟨a,c⟩:=hin i (by omega) hi.2
   exact ⟨a,rfl,c⟩) (by rw [Q2b];exact hc) ⟨k,by simp only [yub,y4b];exact ⟨by omega,hb⟩,hm⟩
  rw [Q2b,← Q29 hS] at e;refine e ?_;unfold Ql0 at h0;rw [hc] at h0;exact h0
end
theorem notes_len {l:List Node} (hc:Q50 l=0):∀ (r:List Nat) (out:List Note) (i:Nat),(∀ k ∈ r,k<l.length∧(l.getD k zF).want ≠ 0)->(QU1 l (r.map fun (k:Nat)=>(k:Int)) out i).length=out.length+r.length
 | [],out,i,_=>rfl
 | k :: r,out,i,h=>by
  obtain ⟨h1,h2⟩:=h k (yma ..);have e:(Qv3 l (k:Int)).2=true:=by
   unfold Qv3;have h3:((l.getD k zF).want==0)=false:=by simpa using h2
   rw [hc,yja (show ¬ (k:Int)<0 by omega),yja (show ¬ (k:Int) >= (l.length:Int) by omega),yoa,h3]
   rfl
  rw [y8a,QU1,e,cond_true,notes_len hc r _ (i+1) fun q hq=>h q (yga _ hq),yta];simp only [yka,yVa];omega
theorem QQf {l:List Node} (hc:Q50 l=0) {S:Int} (hS:U64 S) (h:∀ k,k<64->tb S k=true->k<l.length∧(l.getD k zF).want ≠ 0):((Q03 l (Qc0 S)).length:Int)=Q10 S:=by
 rw [Q29 hS,Qu3 hS,yec,yHb]
 have:=notes_len hc ((List.range' 0 64).filter (tb S)) [] 0 (fun k hk=>by
  simp only [yub,y4b] at hk
  exact h k (by omega) hk.2)
 show ((QU1 l _ [] 0).length:Int)=_;rw [this];simp
theorem ins_res {l:List Resize} (hs:l.Pairwise (fun a b=>a.job<b.job)) {p:Nat} (hp:p<=l.length) {x:Resize} (h1:∀ k,k<p->(l.getD k zH).job<x.job) (h2:∀ k,p<=k->k<l.length->x.job<(l.getD k zH).job) :
  (l.take p++[x]++l.drop p).Pairwise (fun a b=>a.job<b.job) ∧ ∀ y,y ∈ l.take p++[x]++l.drop p ↔ y=x∨y ∈ l:=by
 have a1:∀ y ∈ l.take p,y.job<x.job:=fun y hy=>by
  obtain ⟨k,hk,e⟩:=List.mem_take_iff_getElem.1 hy;have:=h1 k (by omega);rw [List.getD,yaa (by omega)] at this;rw [← e];exact this
 have a2:∀ y ∈ l.drop p,x.job<y.job:=fun y hy=>by
  obtain ⟨k,hk⟩:=yab hy;rw [yDa] at hk;have hlt:=(List.getElem?_eq_some_iff.1 hk).1;have:=h2 (p+k) (by omega) hlt;rw [List.getD,hk] at this;exact this
 have hs':=hs;rw [← ytb p l] at hs';obtain ⟨b1,b2,b3⟩:=List.pairwise_append.1 hs';constructor
 ·refine List.pairwise_append.2 ⟨List.pairwise_append.2 ⟨b1,List.pairwise_singleton _ _,fun y hy z hz=>?_⟩,b2,fun y hy z hz=>?_⟩
  ·rw [List.mem_singleton.1 hz];exact a1 y hy
  ·rcases List.mem_append.1 hy with hy|hy
   ·exact b3 y hy z hz
   ·rw [List.mem_singleton.1 hy];exact a2 z hz
 ·intro y;have e:y ∈ l ↔ y ∈ l.take p∨y ∈ l.drop p:=by
   rw [← yyb,ytb]
  rw [e];simp only [yyb,yCc];constructor
  ·rintro ((h|h)|h)
   ·exact .inr (.inl h)
   ·exact .inl h
   ·exact .inr (.inr h)
  ·rintro (h|h|h)
   ·exact .inl (.inr h)
   ·exact .inl (.inl h)
   ·exact .inr h
section
variable {s:State} {j:Job}
theorem grant_told (b:Asked s j) {n:Int} (h:(QF2 s.nodes n 2 j.id s.now).2.2.2=0):∃ S,U64 S∧Q10 S=n∧1<=n∧(∀ k,k<64->tb S k=true->k<s.nodes.length∧(s.nodes.getD k zF).state=0∧(s.nodes.getD k zF).drain=false∧(s.nodes.getD k zF).epoch<999999999) ∧
  QF2 s.nodes n 2 j.id s.now=(turnP (tb S) (fun x=>Q60 x 2 j.id s.now) s.nodes,S,Q03 (turnP (tb S) (fun x=>Q60 x 2 j.id s.now) s.nodes) (Qc0 S),0):=by
 have hfl:=Qn5 b.g;have hlen:=QQa b.g;unfold QF2 at h ⊢;rw [hfl] at h ⊢;have e0:(((2:Int)!=1)&&((2:Int)!=2))=false:=rfl;have e00:((0:Int)!=0)=false:=rfl;rw [e0,e00] at h ⊢;simp only [cond_false] at h ⊢;cases h1:((decide (n<1))||(decide (n > 48))) with
 | true=>rw [h1] at h;exact absurd (show (2:Int)=0 from h) (by decide)
 | false =>
  obtain ⟨n1,n2⟩:=or_f h1;have n1:=yea n1;have n2:=yea n2;rw [h1] at h;simp only [cond_false] at h ⊢;obtain ⟨N,rfl⟩:∃ N:Nat,n=(N:Int):=⟨n.toNat,by omega⟩;obtain ⟨fu,fb⟩:=Q23 s.nodes (fun (y:Node)=>((y.state==0)&&(!y.drain))) hfl (by omega);have fu:U64 (Qa1 s.nodes):=fu;obtain ⟨q1,q2,q3⟩:=QJb fu N;cases h2:(Q11 (Qa1 s.nodes) (N:Int)).2 with
  | false=>rw [h2] at h;exact absurd (show (130:Int)=0 from h) (by decide)
  | true =>
   rw [h2] at h q1;simp only [ygb,cond_false] at h ⊢;have hle:(N:Int)<=Q10 (Qa1 s.nodes):=yfa q1.symm;have q3:=q3 hle;generalize hS:(Q11 (Qa1 s.nodes) (N:Int)).1=S at *;have hin:∀ k,tb S k=true->k<s.nodes.length∧(s.nodes.getD k zF).state=0∧(s.nodes.getD k zF).drain=false:=fun k hk=>by
    rw [q3,yda] at hk;have hm:=(mem_iff.1 (y4a hk)).2;have hm:tb (Qa1 s.nodes) k=true:=hm;unfold Qa1 at hm;rw [fb] at hm;simpa [and_assoc] using hm
   cases h3:((Ql0 s.nodes S 2 j.id s.now).2.2 != 0) with
   | true =>
    rw [h3] at h;simp only [cond_true] at h;rw [h] at h3;cases h3
   | false =>
    have h30:(Ql0 s.nodes S 2 j.id s.now).2.2=0:=by simpa using h3
    have hmay:=each_may q2 hfl (QZ8 b.g) (fun k hk hb=>⟨(hin k hb).1,fun hm=>by
     have hi:=b.ids;have hn:=Qt9 b.g;have hf:=(Qt4 _).1 (Qa8 b.g (hin k hb).1);have hm:=(act2 _ j.id s.now).2.1 hm;rw [(act2 _ j.id s.now).1,Qt4];dsimp only;rw [w6 (by omega)]
     omega⟩) h30
    have hfree:∀ k,k<64->tb S k=true->k<s.nodes.length∧(s.nodes.getD k zF).state=0∧(s.nodes.getD k zF).drain=false∧(s.nodes.getD k zF).epoch<999999999:=fun k hk hb=>by
     obtain ⟨a1,a2,a3⟩:=hin k hb;exact ⟨a1,a2,a3,((act2 _ j.id s.now).2.1 (hmay k hk hb)).2.2.1⟩
    have hcnt:=count_in q2 (M:=(mem 64 (Qa1 s.nodes).toNat).take N) ((Q39 _).sublist (List.take_sublist ..)) (fun k hk=>(mem_iff.1 (y4a hk)).1) q3;rw [yra,QT8 fu] at *;refine ⟨S,q2,by rw [hcnt];omega,by omega,hfree,?_⟩;simp only [cond_false];rw [(b.each2 q2 hfree).1]
    rfl
theorem find_cases (g:Good s) (id:Int):(QJ0 s.jobs id).2=false ∨ ∃ j ∈ s.jobs,j.id=id∧QJ0 s.jobs id=(j,true):=by
 by_cases h:∃ x ∈ s.jobs,x.id=id
 ·obtain ⟨x,hx,rfl⟩:=h;obtain ⟨p,hp⟩:=yab hx;exact .inr ⟨x,hx,rfl,QQ9 (QY2 g) hp⟩
 ·exact .inl (Q8a (QY2 g) id fun x hx e=>h ⟨x,hx,e⟩)
theorem quiet_all {g:Good s} {S:Int} (hS:U64 S) (h:Qn2 s.nodes S=true):∀ k,tb S k=true->(s.nodes.getD k zF).want=0:=by
 intro k hb;unfold Qn2 at h;rw [Qn5 g] at h;rw [Q29 hS] at h;have key:∀ (r:List Nat) (i:Nat),QT3 s.nodes (r.map fun (k:Nat)=>(k:Int)) i=true -> ∀ k ∈ r,(s.nodes.getD k zF).want=0:=by
  intro r
  induction r with
  | nil=>exact fun _ _ k hk=>nomatch hk
  | cons x r ih =>
   intro i h k hk;rw [y8a,QT3,yoa] at h;cases hc:((decide ((x:Int)<(s.nodes.length:Int)))&&((s.nodes.getD x zF).want==0)) with
   | false=>rw [hc] at h;cases h
   | true =>
    rw [hc] at h;rcases List.mem_cons.1 hk with rfl|hk
    ·have:=((yca _ _).mp hc).2;simpa using this
    ·exact ih (i+1) h k hk
 have hk64:k<64:=by
  rcases ypa k 64 with h1|h1
  ·exact h1
  ·rw [QWb hS h1] at hb;cases hb
 exact key _ 0 h k (by simp only [yub,y4b];exact ⟨by omega,hb⟩)
structure Begun (s t:State) (id:Int) (w:List Note):Prop where
 good:Good t
 wu:WU t
 sz:t.sz
 rz:∃ r ∈ t.resizes,r.job=id∧r.said=0∧(w.length:Int)=Q10 r.nodes
 now:t.now=s.now
 jobs:t.jobs=s.jobs
 books:t.books=s.books
 nextJob:t.nextJob=s.nextJob
 keeps:Keeps s->Keeps t
theorem ins_sz {l:List Resize} {p:Nat} {x:Resize} (h:l.length<4294967296):(l.take p++[x]++l.drop p).length<=4294967296:=by
 simp only [yta,yra,yva,yka,yVa];omega
theorem Q7f (hz:s.sz) (hr:s.resizes.length<4294967296) (hu:WU s) (id size:Int):(∃ e,e ≠ 0∧Q70 s id size=(zK,[],e)) ∨ ∃ t w,Q70 s id size=(t,w,0)∧Begun s t id w:=by
 cases hc:((Qj0 s)!=0) with
 | true=>exact .inl ⟨Qj0 s,by simpa using hc,by unfold Q70;rw [hc];rfl⟩
 | false =>
  have g:=QGg hz hu hc;obtain ⟨hwell,_⟩:=well_of hz hu g;have head:Q70 s id size=Q70 s id size:=rfl
  conv at head=>rhs;unfold Q70
  rw [hc] at head;simp only [cond_false] at head;rcases find_cases g id with hf|⟨j,hj,hid,hf⟩
  ·rw [hf] at head;exact .inl ⟨140,by decide,head⟩
  ·rw [hf] at head;simp only [ygb,cond_false] at head;cases h1:(j.state != 2) with
   | true=>rw [h1] at head;exact .inl ⟨141,by decide,head⟩
   | false =>
    rw [h1] at head;simp only [cond_false] at head;cases h2:(((j.shape.kind != 3)||(!(Qn2 s.nodes j.nodes)))||((Q10 j.nodes)==size)) with
    | true=>rw [h2] at head;exact .inl ⟨250,by decide,head⟩
    | false =>
     rw [h2] at head;simp only [cond_false] at head;have hids:=QM4 (QM7 g hj);have hk:Qn1 id=true:=by unfold Qn1;simp;omega
     obtain ⟨p,p1,p2,p3,p4,p5⟩:=QZe hz hu hc hk;cases h3:(Q00 s.resizes id bsrF).2 with
     | true=>rw [h3] at head;exact .inl ⟨250,by decide,head⟩
     | false =>
      rw [h3] at head;simp only [cond_false] at head;have hno:=no_place hz hu hc (.inr h3);have huj:=hu.1 j hj;have b:Asked s j:=⟨g,hu,hj,by simpa using h1,by simpa using (or_f (or_f h2).1).1,quiet_all (g:=g) huj (by simpa using (or_f (or_f h2).1).2),by rw [hid];exact hno⟩;have hne:Q10 j.nodes ≠ size:=by simpa using (or_f h2).2
      have hcl:=Ql5 huj;subst hid;cases h4:((decide (size<j.shape.min))||(decide (size > j.shape.max))) with
      | true=>rw [h4] at head;exact .inl ⟨152,by decide,head⟩
      | false =>
       rw [h4] at head;simp only [cond_false] at head;obtain ⟨m1,m2⟩:=or_f h4;have m1:=yea m1;have m2:=yea m2;have hsh:=Qc5 (s:=j.shape) (by rw [QAf (QM7 g hj)];rfl) (by rw [b.kind];rfl);have hw:w64 (size - Q10 j.nodes)=size - Q10 j.nodes:=w6 (by omega);have hw2:w64 (0 - (size - Q10 j.nodes))=Q10 j.nodes - size:=by rw [w6 (by omega)];omega
       rw [hw,hw2,p1] at head
       have ins:=fun x:Resize=>fun hx:x.job=j.id=>ins_res (x:=x) g.sorted p2 (fun k hk=>by rw [hx];exact p3 k hk) (fun k hk hl=>by
        rw [hx];have:=p4 k hk hl;have:=hno _ (QX4 (d:=zH) hl)
        omega)
       cases h5:(decide ((size - Q10 j.nodes) > 0)) with
       | true =>
        rw [h5] at head;simp only [cond_true] at head;cases h6:(!(QI7 (Qw0 s []) s.now (w64 ((w64 (j.limit+12)) - s.now)) (size - Q10 j.nodes))) with
        | true=>rw [h6] at head;exact .inl ⟨130,by decide,head⟩
        | false =>
         rw [h6] at head;simp only [cond_false] at head;cases h7:((QF2 s.nodes (size - Q10 j.nodes) 2 j.id s.now).2.2.2 != 0) with
         | true=>rw [h7] at head;exact .inl ⟨_,by simpa using h7,head⟩
         | false =>
          obtain ⟨S,hS,hcS,hn1,hfree,hgr⟩:=grant_told b (by simpa using h7);rw [hgr] at head;have e1:((0:Int)!=0)=false:=rfl;simp only [e1,cond_false] at head;have i1:=ins ⟨j.id,true,S,0,s.now⟩ rfl;have hfl:=(b.each2 hS hfree).2
          have hgd:=b.grow (t:={ s with nodes:=turnP (tb S) (fun x=>Q60 x 2 j.id s.now) s.nodes,resizes:=QE2 s.resizes ((p:Nat):Int) ([(⟨j.id,true,S,0,s.now⟩:Resize)]:List Resize) }) hS hfree (fun e=>by
           subst e;rw [show Q10 0=0 by rw [Qu3 .zero];simp [QF6]] at hcS
           omega) (by omega) i1.2 i1.1 rfl
          refine .inr ⟨_,_,head,⟨hgd.1,hgd.2,⟨by show (turnP _ _ _).length<=_;rw [QH1];exact hz.1,hz.2.1,hz.2.2.1,ins_sz hr,hz.2.2.2.2⟩,⟨⟨j.id,true,S,0,s.now⟩,(i1.2 _).2 (.inl rfl),rfl,rfl,?_⟩,rfl,rfl,rfl,rfl,fun hks=>?_⟩⟩
          ·refine QQf hfl hS fun k hk hb=>?_
           have h8:=(hfree k hk hb).1;refine ⟨by rw [QH1];exact h8,?_⟩;rw [Qu2 _ _ h8,hb];show (Q60 _ 2 j.id s.now).want ≠ 0;rw [(act2 _ j.id s.now).1];dsimp only;omega
          ·refine keeps_less (L:=j.limit+12) (n:=size - Q10 j.nodes) hwell hks rfl rfl (fun u hu0=>?_) (by simpa using h6);rw [← hcS];refine b.left2 hS hfree ?_ ?_ ?_ hu0 <;> rfl
       | false =>
        have h5':=yea h5;rw [h5] at head;simp only [cond_false] at head;obtain ⟨n,hn⟩:∃ n:Nat,Q10 j.nodes - size=(n:Int):=⟨(Q10 j.nodes - size).toNat,by omega⟩;obtain ⟨hS,hb⟩:=Qja huj (n:=n) (by omega);rw [hn] at head;generalize hSS:(QR0 j.nodes (n:Int)).1=S at *;have hin:∀ k,k<64->tb S k=true->tb j.nodes k=true:=fun k _ hk=>by
         rw [hb,yda] at hk;exact (mem_iff.1 (yPa hk)).2
        have hcS:=count_in hS (M:=(mem 64 j.nodes.toNat).drop ((mem 64 j.nodes.toNat).length - n)) ((Q39 _).sublist (List.drop_sublist ..)) (fun k hk=>(mem_iff.1 (yPa hk)).1) hb;have hcm:=QT8 huj;rw [yva] at hcS;have hcS:Q10 S=(n:Int):=by rw [hcS];omega
        have he:=b.each5 hS hin;rw [he.1] at head;have e1:((0:Int)!=0)=false:=rfl;simp only [e1,cond_false] at head;have i1:=ins ⟨j.id,false,S,0,s.now⟩ rfl
        have hgd:=b.shrink (t:={ s with nodes:=turnP (tb S) (fun x=>Q60 x 5 0 s.now) s.nodes,resizes:=QE2 s.resizes ((p:Nat):Int) ([(⟨j.id,false,S,0,s.now⟩:Resize)]:List Resize) }) hS hin (fun e=>by
         subst e;rw [show Q10 0=0 by rw [Qu3 .zero];simp [QF6]] at hcS
         omega) (by omega) i1.2 i1.1 rfl
        refine .inr ⟨_,_,head,⟨hgd.1,hgd.2,⟨by show (turnP _ _ _).length<=_;rw [QH1];exact hz.1,hz.2.1,hz.2.2.1,ins_sz hr,hz.2.2.2.2⟩,⟨⟨j.id,false,S,0,s.now⟩,(i1.2 _).2 (.inl rfl),rfl,rfl,?_⟩,rfl,rfl,rfl,rfl,fun hks=>?_⟩⟩
        ·refine QQf he.2 hS fun k hk hb2=>?_
         have h8:=(b.held.1 (hin k hk hb2)).1;refine ⟨by rw [QH1];exact h8,?_⟩;rw [Qu2 _ _ h8,hb2];show (Q60 _ 5 0 s.now).want ≠ 0;rw [(act5 _ s.now).1];dsimp only;omega
        ·refine keeps_same hks rfl rfl (fun u=>?_);refine left5 (S:=S) ?_ (fun k hk hb2=>(b.held.1 (hin k (by have:=QQa g;omega) hb2)).2.2) ?_ ?_ u <;> rfl
end
theorem begin_eq {s:State} (hz:s.sz) (hu:WU s) (id size:Int):Q70 s id size=QI9 s id size:=by
 unfold Q70 QI9;rw [ref_check hz hu];cases hc:((Qj0 s)!=0) with
 | true=>rw [check_141 hc];rfl
 | false =>
  have g:=QGg hz hu hc;simp only [cond_false]
  by_cases hx:∃ x ∈ s.jobs,x.id=id
  ·obtain ⟨j,hj,rfl⟩:=hx;obtain ⟨q,hq⟩:=yab hj;have hat:Qv1 s.jobs j.id=(q:Int):=by
    have:=at_some j s.jobs q 0 hq (Q12 (QY2 g)).2.2;rw [yna] at this;exact this
   have hget:s.jobs.getD q zG=j:=by rw [List.getD,hq];rfl
   have hq0:decide ((q:Int)<0)=false:=yja (by omega);rw [QQ9 (QY2 g) hq];simp only [hat,hq0,ygb,cond_false,yoa,hget];have huj:=hu.1 j hj;have hids:=QM4 (QM7 g hj);have hk:Qn1 j.id=true:=by unfold Qn1;simp;omega
   obtain ⟨p,p1,p2,p3,p4,p5⟩:=QZe hz hu hc hk;have hhas:(Qr3 s j.id).2=(Q00 s.resizes j.id bsrF).2:=by
    cases hb:(Q00 s.resizes j.id bsrF).2 with
    | false=>rw [resizing_no (no_place hz hu hc (.inr hb))]
    | true =>
     obtain ⟨p',j',hbs,hi,a,hid⟩:=rz_at' hz hu hc hk hb;have:=QBg hz a;rw [hid] at this;rw [this]
   rw [hhas,quiet_eq huj];simp only [← QS8 huj];cases h1:(j.state != 2) with
   | true=>rfl
   | false =>
    simp only [cond_false];cases hb:(Q00 s.resizes j.id bsrF).2 with
    | true =>
     rw [ymc,ykc,ykc];cases (((j.shape.kind != 3)||(!(Qn2 s.nodes j.nodes)))||((Q10 j.nodes)==size)) <;> rfl
    | false =>
     rw [y7b];cases h2:(((j.shape.kind != 3)||(!(Qn2 s.nodes j.nodes)))||((Q10 j.nodes)==size)) with
     | true=>rfl
     | false =>
      simp only [cond_false];have hno:=no_place hz hu hc (.inr hb);have b:Asked s j:=⟨g,hu,hj,by simpa using h1,by simpa using (or_f (or_f h2).1).1,quiet_all (g:=g) huj (by simpa using (or_f (or_f h2).1).2),hno⟩;have hne:Q10 j.nodes ≠ size:=by simpa using (or_f h2).2
      have hcl:=Ql5 huj;cases h4:((decide (size<j.shape.min))||(decide (size > j.shape.max))) with
      | true=>rfl
      | false =>
       simp only [cond_false];obtain ⟨m1,m2⟩:=or_f h4;have m1:=yea m1;have m2:=yea m2;have hsh:=Qc5 (s:=j.shape) (by rw [QAf (QM7 g hj)];rfl) (by rw [b.kind];rfl);have hw:w64 (size - Q10 j.nodes)=size - Q10 j.nodes:=w6 (by omega);have hw2:w64 (0 - (size - Q10 j.nodes))=Q10 j.nodes - size:=by rw [w6 (by omega)];omega
       have hw3:w64 (Q10 j.nodes - size)=Q10 j.nodes - size:=w6 (by omega);have hgt:decide ((size - Q10 j.nodes) > 0)=decide (size > Q10 j.nodes):=by
        rw [yLa,yda,yda];omega
       have hins:∀ x:Resize,x.job=j.id->QE2 s.resizes ((p:Nat):Int) ([x]:List Resize)=Q79 s.resizes x:=fun x hx=>by
        have h:=with_eq x (s.resizes.take p) (s.resizes.drop p) (fun y hy=>by
         obtain ⟨k,hk,e⟩:=List.mem_take_iff_getElem.1 hy;have:=p3 k (by omega);rw [List.getD,yaa (by omega)] at this;rw [← e,hx]
         exact Int.le_of_lt this) (fun y hy=>by
         obtain ⟨k,hk⟩:=yab hy;rw [yDa] at hk;have hlt:=(List.getElem?_eq_some_iff.1 hk).1;have h5:=p4 (p+k) (by omega) hlt;have h6:=hno y (yIa hk);rw [List.getD,hk] at h5;have h5:j.id<=y.job:=h5
         omega)
        rw [ytb] at h;rw [h]
        rfl
       simp only [hw,hw2,hw3,p1,hgt,fits_eq,room_eq2 hz hu.1,grant_eq (show Act 2 by simp [Act])];cases h5:decide (size > Q10 j.nodes) with
       | true =>
        simp only [cond_true];rw [hins _ rfl]
       | false =>
        have h5':=yea h5;simp only [cond_false];obtain ⟨n,hn⟩:∃ n:Nat,Q10 j.nodes - size=(n:Int):=⟨(Q10 j.nodes - size).toNat,by omega⟩;rw [hn];obtain ⟨hS,hbt⟩:=Qja huj (n:=n) (by omega);rw [highest_eq huj (by omega),each_eq (by simp [Act]) hS];generalize hSS:(QR0 j.nodes (n:Int)).1=S at *;have hin:∀ k,k<64->tb S k=true->tb j.nodes k=true:=fun k _ hk=>by
         rw [hbt,yda] at hk;exact (mem_iff.1 (yPa hk)).2
        rw [(b.each5 hS hin).1,hins _ rfl]
        rfl
  ·have hno:∀ x ∈ s.jobs,x.id ≠ id:=fun x hx' e=>hx ⟨x,hx',e⟩
   have hf:=Q8a (QY2 g) id hno;have hat:Qv1 s.jobs id = -1:=at_go id s.jobs 0 hno;have h0:decide ((-1:Int)<0)=true:=rfl;simp only [hat,hf,h0,yTb,cond_true]
theorem begin_keeps {s:State} (hz:s.sz) (hr:s.resizes.length<4294967296) (hu:WU s) (id size:Int):(Q70 s id size).1.sz∧WU (Q70 s id size).1∧(Q70 s id size).2.1.length<=4294967296:=by
 rcases Q7f hz hr hu id size with ⟨e,_,h⟩|⟨t,w,h,b⟩
 ·rw [h];exact ⟨State.szz _,wu_zero,yBa _⟩
 ·rw [h];obtain ⟨r,hr2,_,_,hc⟩:=b.rz;have:=(Ql5 (b.wu.2 r hr2).1).2;exact ⟨b.sz,b.wu,by show w.length<=_;omega⟩
theorem begins_sz {s:State} (id size:Int) (hu:WU s) (h:(!Q45 s)=false) {P:Prop} (k:s.sz->(Q70 s id size).1.sz->(Q70 s id size).2.1.length<=4294967296->(QI9 s id size).1.sz->(QI9 s id size).2.1.length<=4294967296->P):P:=by
 have hf:Q45 s=true:=by simpa using h
 have hz:=QWd hf;obtain ⟨A,_,B⟩:=begin_keeps hz (few_room hf) hu id size;rw [← begin_eq hz hu] at k;exact k hz A B A B
set_option maxRecDepth 20000
set_option maxHeartbeats 4000000
attribute [local irreducible] ACalls AMoves
def Qo5 (s:State) (id_:Int) (size:Int):Bool:=bif (!(Q45 s)) then QZ5 else bif ((Q70 s id_ size).2.2 != 0) then ((((((Q70 s id_ size).2.1).length:Int)==0)&&((((Q70 s id_ size).1.nodes).length:Int)==0))&&QZ5) else bif ((((!(Qa2 ((Q70 s id_ size).1) id_).2)||((Qa2 ((Q70 s id_ size).1) id_).1.said != 0))||((((Q70 s id_ size).2.1).length:Int)!=(Q10 ((Qa2 ((Q70 s id_ size).1) id_).1.nodes))))||(!(QT7 s ((Q70 s id_ size).1) 0 0))) then false else (((!(QO6 s))||(QO6 ((Q70 s id_ size).1)))&&QZ5)
theorem QV3 {P:Prop} (h:P:=by first|((refine begins_sz id_ size hp0 h2 (fun a b c d e=>?_);with_reducible assumption))|exact szA):P:=h
theorem QGb (s:State) (id_:Int) (size:Int) (hs0:s.szM) (hp0:WU s):GV 7 [State.a s,I id_,I size] (Bo (Qo5 s id_ size)):=by
 generalize hR:Qo5 s id_ size=R;refine gA (kp 12 [14,25,64]) Tryz.func7 ?_;have hk0:=hs0;obtain ⟨z7,z8,z9,z10,z11,z12,z13⟩:=hs0;refine us (law20_Few_c s QV3 _) ?_;refine ai (fun h1=>?_) (fun h2=>?_)
 ·refine us (Qy9 _) ?_;exact lfA
 ·refine us (QM8 s id_ size QV3 _) ?_;refine ai (fun h3=>?_) (fun h4=>?_)
  ·(first|apply u3g|apply u4g);exact fun hg=>Qy9 _;exact lfA
  ·refine us (QFe ((Q70 s id_ size).1) id_ QV3 _) ?_;(first|apply u3g|apply u4g);exact fun hg=>Q71 ((Qa2 ((Q70 s id_ size).1) id_).1.nodes) _;(first|apply u3g|apply u4g);exact fun hg=>law26_kept_c s ((Q70 s id_ size).1) 0 0 QV3 QV3 _;refine ai (fun h5=>?_) (fun h6=>?_)
   ·exact lfA
   ·refine us (Q4e s QV3 _) ?_;(first|apply u3g|apply u4g);exact fun hg=>Q4e ((Q70 s id_ size).1) QV3 _;(first|apply u3g|apply u4g);exact fun hg=>Qy9 _;exact lfA
end Go.Proofs.YtackngeeehiegaaGreatDoor
namespace Go.Proofs.YtackngeeehiegaaGreatDoor
set_option linter.unusedSimpArgs false
set_option linter.unusedVariables false
open Go.Fw
theorem QDe {s:State} {id size:Int} (hu:WU s) (h:QZ5=true):Qo5 s id size=true:=by
 unfold Qo5;cases hf:(!Q45 s) with
 | true=>exact h
 | false =>
  have hfew:Q45 s=true:=by simpa using hf
  have hz:=QWd hfew;simp only [cond_false];rcases Q7f hz (few_room hfew) hu id size with ⟨e,he,hb⟩|⟨t,w,hb,b⟩
  ·rw [hb];have:(e != 0)=true:=by simpa using he
   simp only [this,cond_true];rw [h]
   rfl
  ·obtain ⟨r,hr,hj,h0,hc⟩:=b.rz;obtain ⟨j,hj1,hst,hid,R⟩:=b.good.res r hr;have a:RzAt t r j:=⟨b.good,b.wu,hr,hj1,hst,hid,R⟩;have hrz:Qa2 t id=(r,true):=by
    rw [← hj];exact resizing_is b.sz a
   rw [hb];have e0:((0:Int)!=0)=false:=rfl;simp only [e0,cond_false];rw [hrz,kept_same (good_zero b.sz ⟨b.good,b.wu⟩) b.now b.jobs b.books b.nextJob];simp only [h0,hc,bne_self_eq_false,ygb,Bool.or_self,cond_false,h,yBc];cases hs:QO6 s with
   | false=>rfl
   | true =>
    have g:Good s:=by
     have hcs:Qj0 s=0:=by
      cases hq:((Qj0 s)!=0) with
      | false=>simpa using hq
      | true =>
       exfalso;unfold Q70 at hb;rw [hq] at hb;have:=congrArg (fun x=>x.2.2) hb;have hz0:Qj0 s=0:=this;rw [hz0] at hq;cases hq
     exact (QSe (hu.words hz)).1 hcs
    obtain ⟨w1,l1⟩:=well_of hz hu g;obtain ⟨w2,l2⟩:=well_of b.sz b.wu b.good;rw [(sound_iff w2 l2).2 (b.keeps ((sound_iff w1 l1).1 hs))]
    rfl
end Go.Proofs.YtackngeeehiegaaGreatDoor
