/-
  What the last text of this claim leans on: an evaluator over the code, contracts of functions, plain laws. Conditions stand in each statement.
-/
import Derived.Test.YtldebhdmhpopaaaGreatDoorRL10
import Derived.Test.YtldebhdmhpopaaaGreatDoorRL8
import Derived.Test.YtldebhdmhpopaaaGreatDoorRL7
import Derived.Test.YtldebhdmhpopaaaGreatDoorProg
namespace Go.Proofs.YtldebhdmhpopaaaGreatDoor
set_option linter.unusedSimpArgs false
set_option linter.unusedVariables false
open Go.Fw
set_option maxRecDepth 20000
set_option maxHeartbeats 4000000
attribute [local irreducible] ACalls AMoves
def Ql5 (p_:List Step) (long nodes at_:Int) (i:Nat):Int × Bool:=bif (decide (at_ > (w64 (1000000 - long)))) then (0,false) else ear long nodes (List.drop i p_) at_
def Qp2 (p_:List Step) (from_ long nodes:Int):Int × Bool:=bif (((Qm2 p_)!=0)||(!(Qg9 long nodes))) then (0,false) else Ql5 p_ long nodes (max from_ 0) 0
theorem ear_step (long n a:Int) (p:List Step) (i:Nat) (hi:i<p.length) (hp:p.length<=4294967296) (h:(p.getD i Step.zero).at_<w64 (a+long)) :
  (((decide ((p.getD i Step.zero).free >= n))||((!((w64 ((i:Int)+1))==(p.length:Int)))&&(decide ((p.getD (Int.toNat (w64 ((i:Int)+1))) Step.zero).at_<=a))))=true->ear long n (List.drop i p) a=ear long n (List.drop (i+1) p) a) ∧
  (((decide ((p.getD i Step.zero).free >= n))||((!((w64 ((i:Int)+1))==(p.length:Int)))&&(decide ((p.getD (Int.toNat (w64 ((i:Int)+1))) Step.zero).at_<=a))))=false ->
   (((w64 ((i:Int)+1))==(p.length:Int))=true->ear long n (List.drop i p) a=(0,false))∧(((w64 ((i:Int)+1))==(p.length:Int))=false->i+1<p.length∧ear long n (List.drop i p) a=Ql5 p long n (p.getD (i+1) Step.zero).at_ (i+1))):=by
 have hw:w64 ((i:Int)+1)=((i+1:Nat):Int):=wr (by omega)
 rw [hw,Qi0 Step.zero hi]
 simp only [Int.toNat_natCast]
 have e:∀ r,ear long n (p.getD i Step.zero :: r) a=bif decide ((p.getD i Step.zero).free >= n) then ear long n r a else match r with | []=>(0,false)|y :: _=>bif decide (y.at_<=a) then ear long n r a else bif decide (y.at_ > w64 (1000000 - long)) then (0,false) else ear long n r y.at_:=by
  intro r
  rw [ear_cons,decide_eq_true h]
  rfl
 rw [e]
 cases decide ((p.getD i Step.zero).free >= n) with
 | true=>exact ⟨fun _=>rfl,fun h=>nomatch h⟩
 | false =>
  rcases Nat.lt_or_ge (i+1) p.length with hl|hl
  ·have hb:(((i+1:Nat):Int)==(p.length:Int))=false:=by simp;omega
   rw [hb,Qi0 Step.zero hl]
   cases hc:decide ((p.getD (i+1) Step.zero).at_<=a) with
   | true=>exact ⟨fun _=>by simp only [cond_false,hc,cond_true],fun h=>nomatch h⟩
   | false =>
    refine ⟨fun h=>(nomatch h),fun _=>⟨fun h=>(nomatch h),fun _=>⟨hl,?_⟩⟩⟩
    unfold Ql5
    rw [Qi0 Step.zero hl]
    simp only [cond_false,hc]
  ·have hb:(((i+1:Nat):Int)==(p.length:Int))=true:=by simp;omega
   rw [hb,List.drop_eq_nil_of_le hl]
   exact ⟨fun h=>(by cases h),fun _=>⟨fun _=>rfl,fun h=>nomatch h⟩⟩
theorem ear_end {long n a:Int} {p:List Step} {i:Nat} (hi:i<=p.length) (h:((decide ((i:Int)<(p.length:Int)))&&(decide ((p.getD i Step.zero).at_<w64 (a+long))))=false):ear long n (List.drop i p) a=(a,true):=by
 rcases Nat.lt_or_ge i p.length with hl|hl
 ·rw [Qi0 Step.zero hl,ear_cons]
  rw [show decide ((i:Int)<(p.length:Int))=true from decide_eq_true (by omega),Bool.true_and] at h
  rw [h]
  rfl
 ·rw [List.drop_eq_nil_of_le hl]
  rfl
theorem fit_Earliest_c (p_:List Step) (from_ long nodes:Int) (hs0:p_.length<=4294967296):GV 194 [stepL p_,I from_,I long,I nodes] (AVal.tup [I (Qp2 p_ from_ long nodes).1,Bo (Qp2 p_ from_ long nodes).2]):=by
 generalize hR:Qp2 p_ from_ long nodes=R;refine ga (.cons lw (l1 (l1 (l1 .nil)))) (Low.tup' (l1 (l1 .nil))) (kj [3000001] 13 [21,27,42,70,71]) Tryz.func194 ?_;have hk0:=hs0;refine scope_start2 (keep:=kj [3000001] 13 [21,27,42,70,71]) 0 (p_.length+1) (fun (at_:Int) (i:Nat)=>Ql5 p_ long nodes at_ i=R∧i<=p_.length) (fun at_ i=>p_.length - i) (fun at_ i=>[(0,stepL p_),(2,I long),(3,I nodes),(8,I 0),(9,Bo false),(10,I at_),(11,I (i:Int))]) (fun _ _=>[]) rfl ?_ ?_
 ·clear hR;rintro at_ i0 ⟨hR,hi0⟩;refine ai (fun h1=>?_) (fun h2=>?_)
  ·obtain rfl:=foll hR (ct h1 rfl);exact Q10 (Low.tup' (l1 (l1 .nil))) sr
  ·refine Qs0 (fun (i:Nat)=>ear long nodes (List.drop i p_) at_=R∧i<=p_.length∧i0<=i) (fun i=>p_.length - i) (fun i=>[(0,stepL p_),(2,I long),(3,I nodes),(8,I 0),(9,Bo false),(10,I at_),(11,I (i:Int))]) (fun _=>[]) i0 (wk [] .nil (sl lw (s1 (s1 (s1 (s1 (s1 (s1 .nil)))))))) ⟨foll hR (cf h2 rfl),hi0,Nat.le_refl _⟩ ?_;clear hR;rintro i ⟨hR,hj,hq⟩;(try dsimp only at hR hj hq);refine ai gkA ?_;refine ai (fun h3=>?_) (fun h4=>?_)
   ·have h3':=Bool.and_eq_true_iff.1 h3;(have hlt:i<p_.length:=by have:=of_decide_eq_true h3'.1;omega);have hs:=ear_step long nodes at_ p_ i hlt hs0 (of_decide_eq_true h3'.2);have hw1:w64 ((i:Int)+1)=(i:Int)+1:=wr (by omega);refine ai gkA ?_;refine ai gkA ?_;refine ai (fun h5=>?_) (fun h6=>?_)
    ·exact Qz0 (i+1) (wk [] .nil (sl lw (s1 (s1 (s1 (s1 (s1 (sv (Qa0 (I_eq (wr omA)) lx) .nil)))))))) omA ⟨(hs.1 h5).symm.trans hR,hlt,by omega⟩
    ·refine ai (fun h7=>?_) (fun h8=>?_)
     ·obtain rfl:=((hs.2 h6).1 h7).symm.trans hR;exact Q10 (Low.tup' (l1 (l1 .nil))) sr
     ·have h8':=(hs.2 h6).2 h8;refine ai gkA ?_;exact ⟨rfl,Qd0 ((p_.getD (i+1) Step.zero).at_) (i+1) (wk [] .nil (sl lw (s1 (s1 (s1 (s1 (sv (Qa0 (I_eq (by show (p_.getD (Int.toNat (w64 ((i:Int)+1))) Step.zero).at_=_;rw [hw1];rfl)) lx) (sv (Qa0 (I_eq (wr omA)) lx) .nil)))))))) omA ⟨h8'.2.symm.trans hR,hlt⟩⟩
   ·obtain rfl:=(ear_end hj h4).symm.trans hR;exact Q10 (Low.tup' (l1 (l1 .nil))) sr
 ·refine us (Qt4 p_ szA _) ?_;(first|apply u2|apply u3|apply u4|apply us);exact Qlb long nodes _;refine ai (fun h1=>?_) (fun h2=>?_)
  ·obtain rfl:=foll hR (ct h1 rfl);exact Q10 (Low.tup' (l1 (l1 .nil))) sr
  ·refine ai (fun h3=>?_) (fun h4=>?_)
   ·obtain rfl:=foll hR ((cf h2 rfl).trans (ct h3 rfl));exact Q10 (Low.tup' (l1 (l1 .nil))) sr
   ·refine Qs0 (fun (i:Nat)=>ear long nodes (List.drop i p_) (max from_ 0)=R∧i<=p_.length) (fun i=>p_.length - i) (fun i=>[(0,stepL p_),(2,I long),(3,I nodes),(8,I 0),(9,Bo false),(10,I (max from_ 0)),(11,I (i:Int))]) (fun _=>[]) 0 (wk [] .nil (sl lw (s1 (s1 (s1 (s1 (s1 (s1 .nil)))))))) ⟨foll hR ((cf h2 rfl).trans (cf h4 rfl)),Nat.zero_le _⟩ ?_;clear hR;rintro i ⟨hR,hj⟩;(try dsimp only at hR hj);refine ai gkA ?_;refine ai (fun h3=>?_) (fun h4=>?_)
    ·have h3':=Bool.and_eq_true_iff.1 h3;(have hlt:i<p_.length:=by have:=of_decide_eq_true h3'.1;omega);have hs:=ear_step long nodes (max from_ 0) p_ i hlt hs0 (of_decide_eq_true h3'.2);have hw1:w64 ((i:Int)+1)=(i:Int)+1:=wr (by omega);refine ai gkA ?_;refine ai gkA ?_;refine ai (fun h5=>?_) (fun h6=>?_)
     ·exact Qz0 (i+1) (wk [] .nil (sl lw (s1 (s1 (s1 (s1 (s1 (sv (Qa0 (I_eq (wr omA)) lx) .nil)))))))) omA ⟨(hs.1 h5).symm.trans hR,hlt⟩
     ·refine ai (fun h7=>?_) (fun h8=>?_)
      ·obtain rfl:=((hs.2 h6).1 h7).symm.trans hR;exact Q10 (Low.tup' (l1 (l1 .nil))) sr
      ·have h8':=(hs.2 h6).2 h8;refine ai gkA ?_;exact ⟨rfl,Qd0 ((p_.getD (i+1) Step.zero).at_) (i+1) (wk [] .nil (sl lw (s1 (s1 (s1 (s1 (sv (Qa0 (I_eq (by show (p_.getD (Int.toNat (w64 ((i:Int)+1))) Step.zero).at_=_;rw [hw1];rfl)) lx) (sv (Qa0 (I_eq (wr omA)) lx) .nil)))))))) omA ⟨h8'.2.symm.trans hR,hlt⟩⟩
    ·obtain rfl:=(ear_end hj h4).symm.trans hR;exact Q10 (Low.tup' (l1 (l1 .nil))) sr
def QN3 (p_:List Step) (to_:Int):Nat->Int->Int->Int × Int
 | 0,_,_=>(0,0)
 | m+1,i,n=>bif ((decide (i<(p_.length:Int)))&&(decide ((p_.getD (Int.toNat i) Step.zero).at_<to_))) then QN3 p_ to_ m (w64 (i+1)) (min n (p_.getD (Int.toNat i) Step.zero).free) else (i,n)
def QO3 (i:Int) (n:Int):Int:=n
def Qk8 (p_:List Step) (from_:Int) (to_:Int):Int:=bif ((((Qm2 p_)!=0)||(!(QK5 from_)))||(decide (to_<=from_))) then 0 else QO3 ((QN3 p_ to_ ((Int.toNat ((p_.length:Int) - (w64 ((Qj0 p_ from_)+1))))+1) (w64 ((Qj0 p_ from_)+1)) ((p_.getD (Int.toNat (Qj0 p_ from_)) Step.zero).free)).1) ((QN3 p_ to_ ((Int.toNat ((p_.length:Int) - (w64 ((Qj0 p_ from_)+1))))+1) (w64 ((Qj0 p_ from_)+1)) ((p_.getD (Int.toNat (Qj0 p_ from_)) Step.zero).free)).2)
theorem Qxd (p_:List Step) (from_:Int) (to_:Int) (hs0:p_.length<=4294967296):GV 46 [stepL p_,I from_,I to_] (I (Qk8 p_ from_ to_)):=by
 generalize hR:Qk8 p_ from_ to_=R;refine ga (.cons lw (l1 (l1 .nil))) lx (kp 9 [21,44]) Tryz.func46 ?_;have hk0:=hs0;obtain z5:p_.length<=4294967296:=hs0;refine us (Qt4 p_ szA _) ?_;(first|apply u2|apply u3|apply u4|apply us);exact QXb from_ _;refine ai (fun h1=>?_) (fun h2=>?_)
 ·obtain rfl:=foll hR (ct h1 rfl);exact Q10 lx sr
 ·refine us (QT8 p_ from_ szA _) ?_;have hb:=Bool.or_eq_false_iff.1 (Bool.or_eq_false_iff.1 h2).1;have hc:=QJ5 hb.1;have hq:=hb.2;simp [QK5] at hq;have hp:=Qz8 hc.1 hc.2.1 hc.2.2 (t:=from_) (by omega);have hw:w64 (Qj0 p_ from_+1)=Qj0 p_ from_+1:=wr (by omega);refine ai gkA ?_;refine Qq0 (fun (i:Int) (n:Int)=>∃ m,(Int.toNat ((p_.length:Int) - i))<m∧QO3 (QN3 p_ to_ m i n).1 (QN3 p_ to_ m i n).2=R∧0<=i∧i<=(p_.length:Int)) (fun i n=>(Int.toNat ((p_.length:Int) - i))) (fun i n=>[(0,stepL p_),(2,I to_),(6,I 0),(7,I i),(8,I n)]) (fun i n=>[]) (w64 ((Qj0 p_ from_)+1)) ((p_.getD (Int.toNat (Qj0 p_ from_)) Step.zero).free) (wk [] .nil (sl lw (s1 (s1 (s1 (s1 .nil)))))) ⟨_,Nat.lt_succ_self _,foll hR (cf h2 rfl),by first|((rw [hw];omega))|first|((rw [hw1];omega))|exact exA⟩ ?_;clear hR;rintro i n ⟨m,hm,hR,hx⟩;(try dsimp only at hR hm hx);obtain ⟨m,rfl⟩:=sucA m;refine ai gkA ?_;refine ai (fun h3=>?_) (fun h4=>?_)
  ·have hw1:w64 (i+1)=i+1:=wr (by omega);refine ai gkA ?_;exact Qd0 (w64 (i+1)) (min n (p_.getD (Int.toNat i) Step.zero).free) (wk [] .nil (sl lw (s1 (s1 (s1 (s1 .nil)))))) (by first|((dsimp only;rw [hw1];omega))|exact omA) ⟨m,by first|((dsimp only;rw [hw1];omega))|exact omA,foll hR (congrArg (fun p:Int × Int=>QO3 p.1 p.2) (ct h3 rfl)),by first|((rw [hw];omega))|first|((rw [hw1];omega))|exact exA⟩
  ·replace hR:QO3 i n=R:=fo2 (fun p:Int × Int=>QO3 p.1 p.2) (i,n) hR (cf h4 rfl);obtain rfl:=foll hR rfl;exact Q10 lx sr
def QI5 (n:Int):Nat->Int->Nat->Int
 | 0,_,_=>0
 | m+1,rest,i=>bif (decide ((i:Int)<n)) then QI5 n m (wu64 (BitVec.ofInt 64 rest &&& BitVec.ofInt 64 (wu64 (rest - 1))).toNat) (i+1) else rest
def Qu3 (s:Int) (rest:Int):Int × Bool:=((wu64 (BitVec.ofInt 64 s &&& ~~~(BitVec.ofInt 64 rest)).toNat),true)
def Q52 (s:Int) (n:Int):Int × Bool:=bif ((decide (n<0))||(decide (n > (Qm1 s)))) then (0,false) else Qu3 s (QI5 n ((Int.toNat (n - (0:Int)))+1) s 0)
theorem Qgc (s:Int) (n:Int):GV 142 [U s,I n] (AVal.tup [U ((Q52 s n).1),Bo ((Q52 s n).2)]):=by
 generalize hR:Q52 s n=R;refine ga (l1 (l1 .nil)) (Low.tup' (l1 (l1 .nil))) (kp 7 [14,16,17,18]) Tryz.func142 ?_;(first|apply u2|apply u3|apply u4|apply us);exact QR1 s _;refine ai (fun h1=>?_) (fun h2=>?_)
 ·obtain rfl:=foll hR (ct h1 rfl);exact Q10 (Low.tup' (l1 (l1 .nil))) (Seen.tup (e1 (e1 .nil)))
 ·refine Qq0 (fun (rest:Int) (i:Nat)=>∃ m,(Int.toNat (n - (i:Int)))<m∧Qu3 s (QI5 n m rest i)=R) (fun rest i=>(Int.toNat (n - (i:Int)))) (fun rest i=>[(0,U s),(4,U 0),(5,Bo false),(6,U rest),(16,I n),(17,I (i:Int))]) (fun rest i=>[]) s 0 (wk [] .nil (s1 (s1 (s1 (s1 (s1 (s1 .nil))))))) ⟨_,Nat.lt_succ_self _,foll hR (cf h2 rfl)⟩ ?_;clear hR;rintro rest i ⟨m,hm,hR⟩;(try dsimp only at hR hm);obtain ⟨m,rfl⟩:=sucA m;refine ai (fun h3=>?_) (fun h4=>?_)
  ·have qh3:=of_decide_eq_true h3;have hnc:=Qdc s;have hb:=Bool.or_eq_false_iff.1 h2;have hb1:=of_decide_eq_false hb.1;have hb2:=of_decide_eq_false hb.2;exact Qd0 (wu64 (BitVec.ofInt 64 rest &&& BitVec.ofInt 64 (wu64 (rest - 1))).toNat) (i+1) (wk [] .nil (s1 (s1 (s1 (s1 (s1 (sv (Qa0 (I_eq (wr omA)) lx) .nil))))))) omA ⟨m,by exact omA,foll hR (congrArg (fun p:Int=>Qu3 s p) (ct h3 rfl))⟩
  ·have qh4:=of_decide_eq_false h4;replace hR:Qu3 s rest=R:=fo2 (fun p:Int=>Qu3 s p) (rest) hR (cf h4 rfl);obtain rfl:=foll hR rfl;exact Q10 (Low.tup' (l1 (l1 .nil))) (Seen.tup (e1 (e1 .nil)))
def sat_Over (l:List Int):Bool:=(!(QDd 1000000 l).2)
theorem sat_Over_c (l:List Int) (hs0:l.length<=4294967296):GV 148 [ints l] (Bo (sat_Over l)):=by
 generalize hR:sat_Over l=R;refine ga (.cons lw .nil) lx (kp 5 []) Tryz.func148 ?_;have hk0:=hs0;obtain z1:l.length<=4294967296:=hs0;refine us (sat_sum_c 1000000 l szA _) ?_;obtain rfl:=foll hR rfl;exact Q10 lx sr
def QL7 (s:State):Bool:=(((((QDa s.nodes)&&(QEa s.jobs))&&(QGa s.books))&&(QFa s.ledger))&&(decide ((s.resizes.length:Int)<=100)))
theorem law20_Few_c (s:State) (hs0:s.szM):GV 6 [State.a s] (Bo (QL7 s)):=by
 generalize hR:QL7 s=R;refine ga (.cons (State.low _ _) .nil) lx (kp 3 []) Tryz.func6 ?_;have hk0:=hs0;obtain ⟨z1,z2,z3,z4,z5,z6,z7⟩:=hs0;refine us (law12_Few_c s.nodes _) ?_;(first|apply u2|apply u3|apply u4|apply us);exact law15_Few_c s.jobs szA _;(first|apply u2|apply u3|apply u4|apply us);exact law19_Few_c s.books _;(first|apply u2|apply u3|apply u4|apply us);exact law17_Few_c s.ledger szA _;obtain rfl:=foll hR rfl;exact Q10 lx sr
theorem u3g {P:Program} {f:FuncId} {args:List AVal} {objs:Objs} {r:AVal} {g:Bool} {K:AVal->Objs->Prop} (h:g=true->ACalls P f args objs fun a b=>a=r∧b=objs) (k:K r objs):∃ r' o',(g=true->ACalls P f args objs (fun a b=>a=r'∧b=o'))∧(g=false->o'=objs)∧K r' o':=⟨r,objs,h,fun _=>rfl,k⟩
theorem QNb:∀ (l:List Usage) (i:Nat),Q56 l i=true -> ∀ y ∈ l,y.sz
 | [],_,_,y,hy=>nomatch hy
 | x :: r,i,h,y,hy=>by
  rw [Q56] at h
  cases hc:((decide ((ByteArray.size x.user:Int) > 1000))||(decide ((ByteArray.size x.account:Int) > 1000))) with
  | true=>rw [hc] at h;cases h
  | false =>
   rw [hc] at h
   rcases List.mem_cons.1 hy with rfl|hy
   ·simp only [Bool.or_eq_false_iff,decide_eq_false_iff_not] at hc
    exact ⟨by omega,by omega⟩
   ·exact QNb r (i+1) h y hy
theorem law14_Few_sz {j:Job} (h:QK7 j=true):j.sz:=by
 simp only [QK7,QCa,Bool.and_eq_true,decide_eq_true_eq] at h
 exact ⟨by omega,by omega,by omega,by show j.shape.alts.length<=_;omega,by omega⟩
theorem QMb:∀ (l:List Job) (i:Nat),Q46 l i=true -> ∀ y ∈ l,y.sz
 | [],_,_,y,hy=>nomatch hy
 | x :: r,i,h,y,hy=>by
  rw [Q46] at h
  cases hc:QK7 x with
  | false=>rw [hc] at h;cases h
  | true =>
   rw [hc] at h
   rcases List.mem_cons.1 hy with rfl|hy
   ·exact law14_Few_sz hc
   ·exact QMb r (i+1) h y hy
theorem Q85 {s:State} (h:QL7 s=true):s.sz:=by
 simp only [QL7,QDa,QEa,QGa,QFa,Bool.and_eq_true,decide_eq_true_eq] at h
 obtain ⟨⟨⟨⟨h1,h2⟩,h3⟩,h4⟩,h5⟩:=h
 cases hj:decide ((s.jobs.length:Int) > 60) with
 | true=>rw [hj] at h2;cases h2
 | false =>
  cases hl:decide ((s.ledger.length:Int) > 300) with
  | true=>rw [hl] at h4;cases h4
  | false =>
   rw [hj] at h2
   rw [hl] at h4
   have qj:=of_decide_eq_false hj
   have ql:=of_decide_eq_false hl
   exact ⟨by omega,by omega,QMb _ _ h2,by omega,by omega,by omega,QNb _ _ h4⟩
def QL2 (ok:Bool):Int:=bif (!ok) then 70 else 0
def Qe3 (s:Shape):Int:=bif (s.kind==1) then QL2 (((((s.min==0)&&(s.max==0))&&(s.wall==0))&&((s.alts.length:Int)==1))&&(Qj1 (s.alts.getD 0 Alt.zero))) else bif (s.kind==2) then QL2 (((((((s.min==0)&&(s.max==0))&&(s.wall==0))&&(decide ((s.alts.length:Int) >= 1)))&&(decide ((s.alts.length:Int)<=6)))&&(Qq8 s.alts))&&(!(Qa1 s.alts (fun (y:Alt)=>(!(Qj1 y)))))) else bif (s.kind==3) then QL2 (((((s.alts.length:Int)==0)&&(decide (s.min<=s.max)))&&(Qj1 (⟨s.min,s.wall⟩:Alt)))&&(decide (s.max<=48))) else QL2 false
theorem QUa (s:Shape) (hs0:s.sz):GV 139 [Shape.a s] (I (Qe3 s)):=by
 generalize hR:Qe3 s=R;refine ga (.cons (Shape.low _ _) .nil) lx (kj [1000011] 6 [23,24,38,60,85]) Tryz.func139 ?_;have hk0:=hs0;obtain z13:s.alts.length<=4294967296:=hs0;refine Qx1 (fun (ok:Bool)=>QL2 ok=R) (fun ok=>[(2,I 0),(5,Bo ok)]) (fun ok=>[]) ?_ ?_
 ·clear hR;rintro ok hR;(try dsimp only at hR);refine ai (fun h1=>?_) (fun h2=>?_)
  ·obtain rfl:=foll hR (ct h1 rfl);exact Q10 lx sr
  ·obtain rfl:=foll hR (cf h2 rfl);exact Q10 lx sr
 ·refine ai (fun h3=>?_) (fun h4=>?_)
  ·refine ai gkA ?_;(first|apply u2|apply u3|apply u4|apply us);exact Q09 (s.alts.getD 0 Alt.zero) _;exact Qo0 (((((s.min==0)&&(s.max==0))&&(s.wall==0))&&((s.alts.length:Int)==1))&&(Qj1 (s.alts.getD 0 Alt.zero))) (wk [] .nil (s1 (s1 .nil))) (foll hR (ct h3 rfl))
  ·refine ai (fun h5=>?_) (fun h6=>?_)
   ·(first|apply u2|apply u3|apply u4|apply us);exact shape_apart_c s.alts szA _;have cl1:∀ (y1:Alt),AMoves Tryz.prog 202 [Alt.a y1] [] 0 (Bo ((fun (y:Alt)=>(!(Qj1 y))) y1)) []:=by
     intro y1;have hR:(fun (y:Alt)=>(!(Qj1 y))) y1=(fun (y:Alt)=>(!(Qj1 y))) y1:=rfl;refine mo (kp 3 []) Tryz.func202 ?_;refine us (Q09 y1 _) ?_;refine Qp0 (fun r:Bool=>Bo r) (fun _=>[]) (leaf:=(!(Qj1 y1))) (foll hR rfl) ?_;exact tt [] .nil t1
    have hof1:AMoves Tryz.prog 201 [altL s.alts,AVal.fn (.func 202) [] []] [] 0 (Bo (Qa1 s.alts (fun (y:Alt)=>(!(Qj1 y))))) []:=by
     have hR:Qa1 s.alts (fun (y:Alt)=>(!(Qj1 y)))=Qa1 s.alts (fun (y:Alt)=>(!(Qj1 y))):=rfl;refine mo (kp 5 []) Tryz.func201 ?_;have hof2:AMoves Tryz.prog 226 [altL s.alts,AVal.fn (.func 202) [] []] [] 0 (I (Q71 s.alts (fun (y:Alt)=>(!(Qj1 y))))) []:=by
      have hR:Q71 s.alts (fun (y:Alt)=>(!(Qj1 y)))=Q71 s.alts (fun (y:Alt)=>(!(Qj1 y))):=rfl;refine mo (kp 6 [7,8,9,16]) Tryz.func226 ?_;refine Qs0 (fun (i:Nat)=>QH2 (fun (y:Alt)=>(!(Qj1 y))) (List.drop i s.alts) i=Q71 s.alts (fun (y:Alt)=>(!(Qj1 y)))∧i<=s.alts.length) (fun i=>s.alts.length - i) (fun i=>[(0,altL s.alts),(1,AVal.fn (.func 202) [] []),(4,I 0),(7,I (s.alts.length:Int)),(8,I (i:Int))]) (fun i=>[]) 0 (wk [] .nil (sl lw (sv (Q20 (Low.fn _ _ _ LowL.nil LowL.nil)) (s1 (s1 (s1 .nil)))))) ⟨foll hR rfl,by exact omA⟩ ?_;clear hR;rintro i ⟨hR,hj⟩;(try dsimp only at hR hj);refine ai (fun h7=>?_) (fun h8=>?_)
      ·have hlt:=ltA h7;rw [Qi0 Alt.zero hlt] at hR;refine ai gkA ?_;refine us (mv [] (cl1 (s.alts.getD i Alt.zero)) .nil (dl (Alt.low _ _) .nil) .nil rx) ?_;refine ai (fun h9=>?_) (fun h10=>?_)
       ·refine Qp0 (fun r:Int=>I r) (fun r:Int=>[]) (leaf:=(i:Int)) (foll hR (ct h9 rfl)) ?_;exact tt [] .nil t1
       ·exact Qz0 (i+1) (wk [] .nil (sl lw (sv (Q20 (Low.fn _ _ _ LowL.nil LowL.nil)) (s1 (s1 (sv (Qa0 (I_eq (wr omA)) lx) .nil)))))) omA ⟨foll hR (cf h10 rfl),by exact omA⟩
      ·rw [Ql0 (l:=s.alts) (j:=i) (geA h8)] at hR;refine Qp0 (fun r:Int=>I r) (fun r:Int=>[]) (leaf:=(-1)) (foll hR rfl) ?_;exact tt [] .nil t1
     refine us (mv [] (hof2) .nil (dl lw (dv (QK3 (Low.fn _ _ _ LowL.nil LowL.nil)) .nil)) .nil rx) ?_;refine Qp0 (fun r:Bool=>Bo r) (fun r:Bool=>[]) (leaf:=(decide ((Q71 s.alts (fun (y:Alt)=>(!(Qj1 y)))) >= 0))) (foll hR rfl) ?_;exact tt [] .nil t1
    (first|apply u2|apply u3|apply u4|apply us);exact mv [] (hof1) .nil (dl lw (dv (QK3 (Low.fn _ _ _ LowL.nil LowL.nil)) .nil)) .nil rx;exact Qo0 (((((((s.min==0)&&(s.max==0))&&(s.wall==0))&&(decide ((s.alts.length:Int) >= 1)))&&(decide ((s.alts.length:Int)<=6)))&&(Qq8 s.alts))&&(!(Qa1 s.alts (fun (y:Alt)=>(!(Qj1 y)))))) (wk [] .nil (s1 (s1 .nil))) (foll hR (cf h4 (ct h5 rfl)))
   ·refine ai (fun h11=>?_) (fun h12=>?_)
    ·(first|apply u2|apply u3|apply u4|apply us);exact Q09 (⟨s.min,s.wall⟩:Alt) _;exact Qo0 (((((s.alts.length:Int)==0)&&(decide (s.min<=s.max)))&&(Qj1 (⟨s.min,s.wall⟩:Alt)))&&(decide (s.max<=48))) (wk [] .nil (s1 (s1 .nil))) (foll hR (cf h4 (cf h6 (ct h11 rfl))))
    ·exact Qo0 false (wk [] .nil (s1 (s1 .nil))) (foll hR (cf h4 (cf h6 (cf h12 rfl))))
def QG1 (r_:LexReader):Token × LexReader:=bif (!(QE6 ((Q70 r_ (fun (y:Int)=>(((decide (y >= 48))&&(decide (y<=57)))||((decide (y >= 97))&&(decide (y<=122)))))).1))) then ((⟨3,(Q70 r_ (fun (y:Int)=>(((decide (y >= 48))&&(decide (y<=57)))||((decide (y >= 97))&&(decide (y<=122)))))).1,0,0⟩:Token),(Q70 r_ (fun (y:Int)=>(((decide (y >= 48))&&(decide (y<=57)))||((decide (y >= 97))&&(decide (y<=122)))))).2) else bif (!(QF5 ((Q70 r_ (fun (y:Int)=>(((decide (y >= 48))&&(decide (y<=57)))||((decide (y >= 97))&&(decide (y<=122)))))).1)).2) then ((⟨2,⟨#[]⟩,(QF5 ((Q70 r_ (fun (y:Int)=>(((decide (y >= 48))&&(decide (y<=57)))||((decide (y >= 97))&&(decide (y<=122)))))).1)).1,0⟩:Token),(Q31 ((Q70 r_ (fun (y:Int)=>(((decide (y >= 48))&&(decide (y<=57)))||((decide (y >= 97))&&(decide (y<=122)))))).2) r_.at_ 50)) else ((⟨2,⟨#[]⟩,(QF5 ((Q70 r_ (fun (y:Int)=>(((decide (y >= 48))&&(decide (y<=57)))||((decide (y >= 97))&&(decide (y<=122)))))).1)).1,0⟩:Token),(Q70 r_ (fun (y:Int)=>(((decide (y >= 48))&&(decide (y<=57)))||((decide (y >= 97))&&(decide (y<=122)))))).2)
theorem QJa (r_:LexReader) (hs0:r_.sz) (hp0:0<=r_.at_∧r_.at_<=(r_.line.length:Int)∧r_.line.length<=400):AMoves Tryz.prog 283 [AVal.ptr 0 0 4 0 0] [(0,AObj.row 317 4 [[runes r_.line,I r_.at_,I r_.bad,I r_.error]])] 1 (Token.a ((QG1 r_).1)) [(0,AObj.row 317 4 [[runes ((QG1 r_).2.line),I ((QG1 r_).2.at_),I ((QG1 r_).2.bad),I ((QG1 r_).2.error)]])]:=by
 generalize hR:QG1 r_=R;refine mo (kp 7 [15,24]) Tryz.func283 ?_;have hk0:=hs0;obtain z7:r_.line.length<=4294967296:=hs0;have cl1:∀ (y1:Int),AMoves Tryz.prog 293 [J y1] [] 0 (Bo ((fun (y:Int)=>(((decide (y >= 48))&&(decide (y<=57)))||((decide (y >= 97))&&(decide (y<=122))))) y1)) []:=by
  intro y1;have hR:(fun (y:Int)=>(((decide (y >= 48))&&(decide (y<=57)))||((decide (y >= 97))&&(decide (y<=122))))) y1=(fun (y:Int)=>(((decide (y >= 48))&&(decide (y<=57)))||((decide (y >= 97))&&(decide (y<=122))))) y1:=rfl;refine mo (kp 3 []) Tryz.func293 ?_;refine Qp0 (fun r:Bool=>Bo r) (fun _=>[]) (leaf:=(((decide (y1 >= 48))&&(decide (y1<=57)))||((decide (y1 >= 97))&&(decide (y1<=122))))) (foll hR rfl) ?_;exact tt [] .nil t1
 have hof1:AMoves Tryz.prog 276 [AVal.ptr 0 0 4 0 0,AVal.fn (.func 293) [] []] [(0,AObj.row 317 4 [[runes r_.line,I r_.at_,I r_.bad,I r_.error]])] 1 (Sg ((Q70 r_ (fun (y:Int)=>(((decide (y >= 48))&&(decide (y<=57)))||((decide (y >= 97))&&(decide (y<=122)))))).1)) [(0,AObj.row 317 4 [[runes (((Q70 r_ (fun (y:Int)=>(((decide (y >= 48))&&(decide (y<=57)))||((decide (y >= 97))&&(decide (y<=122)))))).2).line),I (((Q70 r_ (fun (y:Int)=>(((decide (y >= 48))&&(decide (y<=57)))||((decide (y >= 97))&&(decide (y<=122)))))).2).at_),I (((Q70 r_ (fun (y:Int)=>(((decide (y >= 48))&&(decide (y<=57)))||((decide (y >= 97))&&(decide (y<=122)))))).2).bad),I (((Q70 r_ (fun (y:Int)=>(((decide (y >= 48))&&(decide (y<=57)))||((decide (y >= 97))&&(decide (y<=122)))))).2).error)]])]:=by
  have hR:Q70 r_ (fun (y:Int)=>(((decide (y >= 48))&&(decide (y<=57)))||((decide (y >= 97))&&(decide (y<=122)))))=Q70 r_ (fun (y:Int)=>(((decide (y >= 48))&&(decide (y<=57)))||((decide (y >= 97))&&(decide (y<=122))))):=rfl;refine mo (kp 6 [33]) Tryz.func276 ?_;refine Qs0 (fun (c:LexReader)=>∃ m,(Int.toNat ((c.line.length:Int) - c.at_))<m∧QP0 r_ (QW0 (fun (y:Int)=>(((decide (y >= 48))&&(decide (y<=57)))||((decide (y >= 97))&&(decide (y<=122))))) m c)=Q70 r_ (fun (y:Int)=>(((decide (y >= 48))&&(decide (y<=57)))||((decide (y >= 97))&&(decide (y<=122)))))∧0<=c.at_∧c.at_<=(c.line.length:Int)∧c.line.length<=400∧r_.at_<=c.at_∧0<=r_.at_) (fun c=>(Int.toNat ((c.line.length:Int) - c.at_))) (fun c=>[(0,AVal.ptr 0 0 4 0 0),(1,AVal.fn (.func 293) [] []),(4,Sg ⟨#[]⟩),(5,I r_.at_)]) (fun c=>[(0,AObj.row 317 4 [[runes c.line,I c.at_,I c.bad,I c.error]])]) r_ (wk [0] (tO rfl (ts LexReader.lo) .nil) (sv (Q00 0 rfl rfl) (sv (Q20 (Low.fn _ _ _ LowL.nil LowL.nil)) (s1 (s1 .nil))))) ⟨_,Nat.lt_succ_self _,foll hR rfl,by exact exA⟩ ?_;clear hR;rintro c ⟨m,hm,hR,hx⟩;(try dsimp only at hR hm hx);obtain ⟨m,rfl⟩:=sucA m;refine dchk (by kernel_rfl) ?_;refine ai gkA ?_;(first|apply u2|apply u3|apply u4|apply us);exact mv [] (cl1 (c.line.getD (Int.toNat c.at_) 0)) .nil (d1 .nil) .nil rx;(repeat ((first|refine ai rfl ?_|refine ai (fun _=>rfl) ?_)));refine ai (fun h1=>?_) (fun h2=>?_)
  ·have hq1:=of_decide_eq_true ((Bool.and_eq_true _ _).mp h1).1;have hwr:w64 (c.at_+1)=c.at_+1:=wr (by omega);exact Qz0 { c with at_:=(w64 (c.at_+1)) } (wk [0] (tO rfl (ts LexReader.lo) .nil) (sv (Q00 0 rfl rfl) (sv (Q20 (Low.fn _ _ _ LowL.nil LowL.nil)) (s1 (s1 .nil))))) omA ⟨m,by exact omA,foll hR (congrArg (fun p:LexReader=>QP0 r_ p) (ct h1 rfl)),by exact exA⟩
  ·replace hR:QP0 r_ c=Q70 r_ (fun (y:Int)=>(((decide (y >= 48))&&(decide (y<=57)))||((decide (y >= 97))&&(decide (y<=122))))):=fo2 (fun p:LexReader=>QP0 r_ p) (c) hR (cf h2 rfl);refine dchk (by kernel_rfl) ?_;refine ai gkA ?_;(first|refine ⟨(List.drop (Int.toNat r_.at_) (List.take (Int.toNat c.at_) c.line)),by exact cvA,?_⟩|refine ⟨_,fun _=>⟨(List.drop (Int.toNat r_.at_) (List.take (Int.toNat c.at_) c.line)),by exact cvA,rfl,rfl⟩,?_⟩|refine ⟨_,rfl,⟨(List.drop (Int.toNat r_.at_) (List.take (Int.toNat c.at_) c.line)),by exact cvA,Sub.refl _,rfl⟩,?_⟩);(repeat ((first|refine ai rfl ?_|refine ai (fun _=>rfl) ?_)));refine Qp0 (fun r:ByteArray × LexReader=>Sg r.1) (fun r:ByteArray × LexReader=>[(0,AObj.row 317 4 [[runes r.2.line,I r.2.at_,I r.2.bad,I r.2.error]])]) (leaf:=((runesBytes (List.drop (Int.toNat r_.at_) (List.take (Int.toNat c.at_) c.line))),c)) (foll hR rfl) ?_;exact tt [0] (tO rfl (ts LexReader.lo) .nil) t1
 refine us (mv [0] (hof1) (dO (ds LexReader.lo) .nil) (dp (dv (QK3 (Low.fn _ _ _ LowL.nil LowL.nil)) .nil)) (rO (re LexReader.lo) .nil) rx) ?_;refine us (QPb ((Q70 r_ (fun (y:Int)=>(((decide (y >= 48))&&(decide (y<=57)))||((decide (y >= 97))&&(decide (y<=122)))))).1) (by first|(exact QQ8 _ _ hp0.2.2)|exact szA) _) ?_;refine ai (fun h3=>?_) (fun h4=>?_)
 ·obtain rfl:=foll hR (ct h3 rfl);exact rq (tt [0] (tO rfl (ts LexReader.lo) .nil) (Q20 (Low.agg' (Token.lo))))
 ·refine us (lex_number_c ((Q70 r_ (fun (y:Int)=>(((decide (y >= 48))&&(decide (y<=57)))||((decide (y >= 97))&&(decide (y<=122)))))).1) (by first|(exact QQ8 _ _ hp0.2.2)|exact szA) _) ?_;refine ai (fun h5=>?_) (fun h6=>?_)
  ·refine us (mv [0] (QO2 ((Q70 r_ (fun (y:Int)=>(((decide (y >= 48))&&(decide (y<=57)))||((decide (y >= 97))&&(decide (y<=122)))))).2) r_.at_ 50) (dO (ds LexReader.lo) .nil) (dp (d1 (d1 .nil))) (rO (re LexReader.lo) .nil) rx) ?_;obtain rfl:=foll hR (cf h4 (ct h5 rfl));exact rq (tt [0] (tO rfl (ts LexReader.lo) .nil) (Q20 (Low.agg' (Token.lo))))
  ·obtain rfl:=foll hR (cf h4 (cf h6 rfl));exact rq (tt [0] (tO rfl (ts LexReader.lo) .nil) (Q20 (Low.agg' (Token.lo))))
attribute [local irreducible] QS0
def QX2 :List (Nat × Int)->Bool->List Int->ByteArray × Int
 | [],held,buf=>bif held then (⟨#[]⟩,50) else ((QR4 buf),0)
 | x_ :: r,held,buf=>bif ((held&&(x_.2 != 34))&&(x_.2 != 92)) then bif ((held&&(x_.2 != 34))&&(x_.2 != 92)) then (⟨#[]⟩,50) else bif ((!held)&&(x_.2==92)) then QX2 r true buf else QX2 r false (QS0 buf x_.2) else bif ((!held)&&(x_.2==34)) then (⟨#[]⟩,50) else bif ((!held)&&(x_.2==92)) then QX2 r true buf else QX2 r false (QS0 buf x_.2)
def QF2 (s:ByteArray):ByteArray × Int:=bif ((Qy4 s).2 != 0) then (⟨#[]⟩,(Qy4 s).2) else bif (((decide ((ByteArray.size s:Int)<2))||(((s.data.toList.getD 0 0).toNat:Int)!=34))||(((s.data.toList.getD (Int.toNat (w64 ((ByteArray.size s:Int) - 1))) 0).toNat:Int)!=34)) then (⟨#[]⟩,50) else QX2 (Qwc (s.extract 1 (Int.toNat (w64 ((ByteArray.size s:Int) - 1))))) false []
theorem b3a1 {P:Prop} (h:P:=by first|(have hsz:=extract_size s 1 (Int.toNat (w64 ((ByteArray.size s:Int) - 1)));refine ⟨?_,?_,?_⟩ <;> (try dsimp only) <;> first|omega|with_reducible exact Qa9|with_reducible exact hx.2.2|with_reducible exact byteIn_rune _ _ hx.2.2|exact Nat.le_trans (Qba _ _) (by omega)|(simp;done))|exact exA):P:=h
theorem QX8 (s:ByteArray) (hs0:s.size<=4294967296) (hp0:ByteArray.size s<=1000000):GV 297 [Sg s] (AVal.tup [Sg ((QF2 s).1),I ((QF2 s).2)]):=by
 generalize hR:QF2 s=R;refine ga (l1 .nil) (Low.tup' (l1 (l1 .nil))) (kp 10 [16,33,39,40,41,43,59,68]) Tryz.func297 ?_;have hk0:=hs0;obtain z19:s.size<=4294967296:=hs0;have hw0:w64 ((ByteArray.size s:Int) - 1)=(ByteArray.size s:Int) - 1:=wr (by omega);refine us (QSa s szA _) ?_;refine ai (fun h1=>?_) (fun h2=>?_)
 ·obtain rfl:=foll hR (ct h1 rfl);exact Q10 (Low.tup' (l1 (l1 .nil))) (Seen.tup (e1 (e1 .nil)))
 ·refine ai gkA ?_;refine ai gkA ?_;refine ai (fun h3=>?_) (fun h4=>?_)
  ·obtain rfl:=foll hR (cf h2 (ct h3 rfl));exact Q10 (Low.tup' (l1 (l1 .nil))) (Seen.tup (e1 (e1 .nil)))
  ·refine ai gkA ?_;refine Qr4 (fun (held:Bool) (buf:List Int) (pos:Nat)=>∃ m,ByteArray.size (s.extract 1 (Int.toNat (w64 ((ByteArray.size s:Int) - 1)))) - pos<=m∧QX2 (QV4 (s.extract 1 (Int.toNat (w64 ((ByteArray.size s:Int) - 1)))) m pos) held buf=R∧buf.length<=4*pos∧pos<=ByteArray.size s∧Q16 buf) (fun held buf pos=>ByteArray.size (s.extract 1 (Int.toNat (w64 ((ByteArray.size s:Int) - 1)))) - pos) (fun held buf pos=>[(2,Sg ⟨#[]⟩),(3,I 0),(6,AVal.ptr 0 0 2 0 0),(7,Bo held),(39,AVal.ptr 1 0 1 0 0)]) (fun held buf pos=>[(0,AObj.row 331 2 [[AVal.sel 0 0 2 0 0,AVal.buf 2 0 1 buf.length]]),(0,AObj.other (.strIter (s.extract 1 (Int.toNat (w64 ((ByteArray.size s:Int) - 1)))) pos)),(0,AObj.row 5 1 (buf.map (fun q_=>[Y q_])))]) false [] 0 ((Qo1 5 1).trans (wk [0,1,2] (tO rfl (Q90 (cv (turn_selnil) (cv (turn_nilbuf 2 rfl) .nil))) (tO rfl (.strIter _ _) (tO rfl (tl eqA) .nil))) (s1 (s1 (sv (Q00 0 rfl rfl) (s1 (sv (Q00 1 rfl rfl) .nil))))))) ⟨ByteArray.size (s.extract 1 (Int.toNat (w64 ((ByteArray.size s:Int) - 1)))),by exact omA,foll hR (cf h2 (cf h4 rfl)),b3a1⟩ ?_;clear hR;rintro held buf pos ⟨m,hm,hR,hx⟩;(try dsimp only at hR hm hx);refine ai (fun h5=>?_) (fun h6=>?_)
   ·have hlt:=of_decide_eq_true h5;have hw:=Qe9 (s.extract 1 (Int.toNat (w64 ((ByteArray.size s:Int) - 1)))) pos;have hwe:=Qd9 (s.extract 1 (Int.toNat (w64 ((ByteArray.size s:Int) - 1)))) pos hlt;obtain ⟨m,rfl⟩:=sucA m;rw [Qy5 h5] at hR;refine ai (fun _=>?_) (fun h=>nomatch h);refine ai (fun h7=>?_) (fun h8=>?_)
    ·refine ai (fun h9=>?_) (fun h10=>?_)
     ·obtain rfl:=foll hR (ct h7 (ct h9 rfl));exact Q10 (Low.tup' (l1 (l1 .nil))) (Seen.tup (e1 (e1 .nil)))
     ·refine ai (fun h11=>?_) (fun h12=>?_)
      ·exact Qz1 true buf (pos+(Utf8.decode (s.extract 1 (Int.toNat (w64 ((ByteArray.size s:Int) - 1)))) pos).2) (wk [0,1,2] (tO rfl (Q90 (cv (turn_sel 0 rfl rfl) (cv (turn_buf 2 rfl rfl) .nil))) (tO rfl (.strIter _ _) (tO rfl (tl eqA) .nil))) (s1 (s1 (sv (Q00 0 rfl rfl) (s1 (sv (Q00 1 rfl rfl) .nil)))))) omA ⟨m,by exact omA,foll hR (ct h7 (cf h10 (ct h11 rfl))),b3a1⟩
      ·refine us (mv [0,2] (QAc buf ((pos,((Utf8.decode (s.extract 1 (Int.toNat (w64 ((ByteArray.size s:Int) - 1)))) pos).1:Int)).2) szA) (dO (dc (dv (dn_sel rfl) (dv (dn_buf rfl) .nil))) (dO (dr eqA) .nil)) (dp (d1 .nil)) (rO (rc (rv (rp 0 0 rfl) (rv (rw_ 3 0 rfl) .nil))) (rO rr .nil)) (Ren.low _ (Low.tup' (l1 (l1 .nil))))) ?_;exact Qz1 false (QS0 buf (pos,((Utf8.decode (s.extract 1 (Int.toNat (w64 ((ByteArray.size s:Int) - 1)))) pos).1:Int)).2) (pos+(Utf8.decode (s.extract 1 (Int.toNat (w64 ((ByteArray.size s:Int) - 1)))) pos).2) (wk [0,1,3] (tO rfl (Q90 (cv (Qaa 0 rfl rfl) (cv (QId 2 rfl rfl lnA (by first|with_reducible exact Qp7 _ _|(simp;done)|grind)) .nil))) (tO rfl (.strIter _ _) (tO rfl (tl eqA) .nil))) (s1 (s1 (sv (Q00 0 rfl rfl) (s1 (sv (Q00 1 rfl rfl) .nil)))))) omA ⟨m,by exact omA,foll hR (ct h7 (cf h10 (cf h12 rfl))),b3a1⟩
    ·refine ai (fun h13=>?_) (fun h14=>?_)
     ·obtain rfl:=foll hR (cf h8 (ct h13 rfl));exact Q10 (Low.tup' (l1 (l1 .nil))) (Seen.tup (e1 (e1 .nil)))
     ·refine ai (fun h15=>?_) (fun h16=>?_)
      ·exact Qz1 true buf (pos+(Utf8.decode (s.extract 1 (Int.toNat (w64 ((ByteArray.size s:Int) - 1)))) pos).2) (wk [0,1,2] (tO rfl (Q90 (cv (turn_sel 0 rfl rfl) (cv (turn_buf 2 rfl rfl) .nil))) (tO rfl (.strIter _ _) (tO rfl (tl eqA) .nil))) (s1 (s1 (sv (Q00 0 rfl rfl) (s1 (sv (Q00 1 rfl rfl) .nil)))))) omA ⟨m,by exact omA,foll hR (cf h8 (cf h14 (ct h15 rfl))),b3a1⟩
      ·refine us (mv [0,2] (QAc buf ((pos,((Utf8.decode (s.extract 1 (Int.toNat (w64 ((ByteArray.size s:Int) - 1)))) pos).1:Int)).2) szA) (dO (dc (dv (dn_sel rfl) (dv (dn_buf rfl) .nil))) (dO (dr eqA) .nil)) (dp (d1 .nil)) (rO (rc (rv (rp 0 0 rfl) (rv (rw_ 3 0 rfl) .nil))) (rO rr .nil)) (Ren.low _ (Low.tup' (l1 (l1 .nil))))) ?_;exact Qz1 false (QS0 buf (pos,((Utf8.decode (s.extract 1 (Int.toNat (w64 ((ByteArray.size s:Int) - 1)))) pos).1:Int)).2) (pos+(Utf8.decode (s.extract 1 (Int.toNat (w64 ((ByteArray.size s:Int) - 1)))) pos).2) (wk [0,1,3] (tO rfl (Q90 (cv (Qaa 0 rfl rfl) (cv (QId 2 rfl rfl lnA (by first|with_reducible exact Qp7 _ _|(simp;done)|grind)) .nil))) (tO rfl (.strIter _ _) (tO rfl (tl eqA) .nil))) (s1 (s1 (sv (Q00 0 rfl rfl) (s1 (sv (Q00 1 rfl rfl) .nil)))))) omA ⟨m,by exact omA,foll hR (cf h8 (cf h14 (cf h16 rfl))),b3a1⟩
   ·rw [Qm7 h6] at hR;refine ai (fun h=>nomatch h) (fun _=>?_);refine ai (fun h17=>?_) (fun h18=>?_)
    ·obtain rfl:=foll hR (ct h17 rfl);exact Q10 (Low.tup' (l1 (l1 .nil))) (Seen.tup (e1 (e1 .nil)))
    ·refine us (mv [0,2] (String_c buf (by first|(with_reducible exact hx.2.2)|first|assumption|exact Qa9|grind) szA) (dO (dc (dv (dn_any) (dv (dn_bufbuf rfl) .nil))) (dO (dr eqA) .nil)) (dp .nil) (rO (re (.cons Low.any (.cons Low.any .nil))) .nil) rx) ?_;obtain rfl:=foll hR (cf h18 rfl);exact Q10 (Low.tup' (l1 (l1 .nil))) (Seen.tup (e1 (e1 .nil)))
def QB1 (l:List Node):Int:=bif (((decide ((l.length:Int)<1))||(decide ((l.length:Int) > 48)))||(Qv2 l (fun (y:Node)=>(!(Qb2 y))))) then 120 else 0
theorem QE2 (l:List Node) (hs0:l.length<=4294967296):GV 96 [nodeL l] (I (QB1 l)):=by
 generalize hR:QB1 l=R;refine ga (.cons lw .nil) lx (kp 3 [14]) Tryz.func96 ?_;have hk0:=hs0;obtain z7:l.length<=4294967296:=hs0;have cl1:∀ (y1:Node),AMoves Tryz.prog 169 [Node.a y1] [] 0 (Bo ((fun (y:Node)=>(!(Qb2 y))) y1)) []:=by
  intro y1;have hR:(fun (y:Node)=>(!(Qb2 y))) y1=(fun (y:Node)=>(!(Qb2 y))) y1:=rfl;refine mo (kp 3 []) Tryz.func169 ?_;refine us (fleet_fine_c y1 _) ?_;refine Qp0 (fun r:Bool=>Bo r) (fun _=>[]) (leaf:=(!(Qb2 y1))) (foll hR rfl) ?_;exact tt [] .nil t1
 have hof1:AMoves Tryz.prog 168 [nodeL l,AVal.fn (.func 169) [] []] [] 0 (Bo (Qv2 l (fun (y:Node)=>(!(Qb2 y))))) []:=by
  have hR:Qv2 l (fun (y:Node)=>(!(Qb2 y)))=Qv2 l (fun (y:Node)=>(!(Qb2 y))):=rfl;refine mo (kp 5 []) Tryz.func168 ?_;have hof2:AMoves Tryz.prog 217 [nodeL l,AVal.fn (.func 169) [] []] [] 0 (I (Q32 l (fun (y:Node)=>(!(Qb2 y))))) []:=by
   have hR:Q32 l (fun (y:Node)=>(!(Qb2 y)))=Q32 l (fun (y:Node)=>(!(Qb2 y))):=rfl;refine mo (kp 6 [7,8,9,16]) Tryz.func217 ?_;refine Qs0 (fun (i:Nat)=>Qw3 (fun (y:Node)=>(!(Qb2 y))) (List.drop i l) i=Q32 l (fun (y:Node)=>(!(Qb2 y)))∧i<=l.length) (fun i=>l.length - i) (fun i=>[(0,nodeL l),(1,AVal.fn (.func 169) [] []),(4,I 0),(7,I (l.length:Int)),(8,I (i:Int))]) (fun i=>[]) 0 (wk [] .nil (sl lw (sv (Q20 (Low.fn _ _ _ LowL.nil LowL.nil)) (s1 (s1 (s1 .nil)))))) ⟨foll hR rfl,by exact omA⟩ ?_;clear hR;rintro i ⟨hR,hj⟩;(try dsimp only at hR hj);refine ai (fun h1=>?_) (fun h2=>?_)
   ·have hlt:=ltA h1;rw [Qi0 Node.zero hlt] at hR;refine ai gkA ?_;refine us (mv [] (cl1 (l.getD i Node.zero)) .nil (dl (Node.low _ _) .nil) .nil rx) ?_;refine ai (fun h3=>?_) (fun h4=>?_)
    ·refine Qp0 (fun r:Int=>I r) (fun r:Int=>[]) (leaf:=(i:Int)) (foll hR (ct h3 rfl)) ?_;exact tt [] .nil t1
    ·exact Qz0 (i+1) (wk [] .nil (sl lw (sv (Q20 (Low.fn _ _ _ LowL.nil LowL.nil)) (s1 (s1 (sv (Qa0 (I_eq (wr omA)) lx) .nil)))))) omA ⟨foll hR (cf h4 rfl),by exact omA⟩
   ·rw [Ql0 (l:=l) (j:=i) (geA h2)] at hR;refine Qp0 (fun r:Int=>I r) (fun r:Int=>[]) (leaf:=(-1)) (foll hR rfl) ?_;exact tt [] .nil t1
  refine us (mv [] (hof2) .nil (dl lw (dv (QK3 (Low.fn _ _ _ LowL.nil LowL.nil)) .nil)) .nil rx) ?_;refine Qp0 (fun r:Bool=>Bo r) (fun r:Bool=>[]) (leaf:=(decide ((Q32 l (fun (y:Node)=>(!(Qb2 y)))) >= 0))) (foll hR rfl) ?_;exact tt [] .nil t1
 (first|apply u2|apply u3|apply u4|apply us);exact mv [] (hof1) .nil (dl lw (dv (QK3 (Low.fn _ _ _ LowL.nil LowL.nil)) .nil)) .nil rx;refine ai (fun h5=>?_) (fun h6=>?_)
 ·obtain rfl:=foll hR (ct h5 rfl);exact Q10 lx sr
 ·obtain rfl:=foll hR (cf h6 rfl);exact Q10 lx sr
def QO6 (l:List Usage):List Usage->Nat->Int
 | [],_=>0
 | x_ :: r,i=>bif ((((((!(Q98 x_.user))||(!(Q98 x_.account)))||(x_.used != (QP3 x_.used)))||(decide (x_.share<0)))||(decide (x_.share > x_.used)))||((decide ((i:Int) > 0))&&(decide ((QO8 (l.getD (Int.toNat (w64 ((i:Int) - 1))) Usage.zero) x_) >= 0)))) then 2 else QO6 l r (i+1)
def Q67 (l:List Usage):Int:=bif (decide ((l.length:Int) > 200)) then 2 else QO6 l l 0
theorem QA9 (l:List Usage) (hs0:l.length<=4294967296∧(∀ y ∈ l,y.sz)):GV 87 [Qt1 l] (I (Q67 l)):=by
 generalize hR:Q67 l=R;refine ga (.cons lw .nil) lx (kp 5 [7,8,9,10,11,58]) Tryz.func87 ?_;obtain ⟨z9,z10⟩:=id hs0;refine ai (fun h1=>?_) (fun h2=>?_)
 ·have qh1:=of_decide_eq_true h1;obtain rfl:=foll hR (ct h1 rfl);exact Q10 lx sr
 ·have qh2:=of_decide_eq_false h2;refine Qs0 (fun (i:Nat)=>QO6 l (List.drop i l) i=R∧i<=l.length) (fun i=>l.length - i) (fun i=>[(0,Qt1 l),(2,I 0),(8,Qt1 l),(9,I (l.length:Int)),(10,I (i:Int))]) (fun i=>[]) 0 (wk [] .nil (sl lw (s1 (sl lw (s1 (s1 .nil)))))) ⟨foll hR (cf h2 rfl),by exact omA⟩ ?_;clear hR;rintro i ⟨hR,hj⟩;(try dsimp only at hR hj);refine ai (fun h3=>?_) (fun h4=>?_)
  ·have hlt:=ltA h3;rw [Qi0 Usage.zero hlt] at hR;have hxz:(l.getD i Usage.zero).sz:=Qw1 (by first|assumption|grind) (Usage.szz _);have hkz:=hxz;obtain ⟨z5,z6⟩:=Usage.zz hxz;refine ai gkA ?_;refine dchk (by kernel_rfl) ?_;(first|apply u2|apply u3|apply u4|apply us);exact Qv6 ((l.getD i Usage.zero).user) _;(first|apply u2|apply u3|apply u4|apply us);exact Qv6 ((l.getD i Usage.zero).account) _;(first|apply u2|apply u3|apply u4|apply us);exact Qm8 ((l.getD i Usage.zero).used) _;refine ai gkA ?_;(first|apply u2|apply u3|apply u4|apply us);exact QC9 (l.getD (Int.toNat (w64 ((i:Int) - 1))) Usage.zero) (l.getD i Usage.zero) szA szA _;(repeat ((first|refine ai rfl ?_|refine ai (fun _=>rfl) ?_|refine ai (fun _=>Qv6 ((l.getD i Usage.zero).user) _) ?_|refine ai (fun _=>Qv6 ((l.getD i Usage.zero).account) _) ?_|refine ai (fun _=>Qm8 ((l.getD i Usage.zero).used) _) ?_|refine ai (fun _=>QC9 (l.getD (Int.toNat (w64 ((i:Int) - 1))) Usage.zero) (l.getD i Usage.zero) szA szA _) ?_)));refine ai (fun h7=>?_) (fun h8=>?_)
   ·obtain rfl:=foll hR (ct h7 rfl);exact Q10 lx sr
   ·exact Qz0 (i+1) (wk [] .nil (sl lw (s1 (sl lw (s1 (sv (Qa0 (I_eq (wr omA)) lx) .nil)))))) omA ⟨foll hR (cf h8 rfl),by exact omA⟩
  ·rw [Ql0 (l:=l) (j:=i) (geA h4)] at hR;obtain rfl:=foll hR rfl;exact Q10 lx sr
def Qy1 (t:Taken) (from_:Int) (to_:Int) (n:Int):Taken:=bif ((decide (to_<=from_))||(n==0)) then t else bif ((Qi2 t.p from_ to_ (w64 (0 - n))).2==0) then (⟨(Qi2 t.p from_ to_ (w64 (0 - n))).1⟩:Taken) else t
theorem QL5 (t:Taken) (from_:Int) (to_:Int) (n:Int) (hs0:t.sz):AMoves Tryz.prog 91 [AVal.ptr 0 0 1 0 0,I from_,I to_,I n] [(0,AObj.row 150 1 [[stepL t.p]])] 1 (AVal.tup []) [(0,AObj.row 150 1 [[stepL ((Qy1 t from_ to_ n).p)]])]:=by
 generalize hR:Qy1 t from_ to_ n=R;refine mo (kp 10 [16,30]) Tryz.func91 ?_;have hk0:=hs0;obtain z5:t.p.length<=4294967296:=hs0;refine ai (fun h1=>?_) (fun h2=>?_)
 ·obtain rfl:=foll hR (ct h1 rfl);exact rq (tt [0] (tO rfl (ts Taken.lo) .nil) t1)
 ·refine us (Qj8 t.p from_ to_ (w64 (0 - n)) szA _) ?_;refine ai (fun h3=>?_) (fun h4=>?_)
  ·obtain rfl:=foll hR (cf h2 (ct h3 rfl));exact rq (tt [0] (tO rfl (ts Taken.lo) .nil) t1)
  ·obtain rfl:=foll hR (cf h2 (cf h4 rfl));exact rq (tt [0] (tO rfl (ts Taken.lo) .nil) t1)
theorem Qu8 {t:Taken} {f g n:Int} (h:t.p.length<=4294967296):(Qy1 t f g n).p.length<=4294967296:=by
 unfold Qy1
 repeat' first|exact h|exact QS6 _ _ _ _ h|(rw [Bool.cond_eq_ite];split)
theorem flat_len (n:Int):(Qu4 n).length<=4294967296:=by simp [Qu4]
def Qz2 (p_:List Step) (from_:Int) (latest:Int) (grace:Int) (options1:List Alt):List Alt->Int->Int->Bool->Nat->Int × Int × Bool
 | [],choice,start,found,_=>(choice,start,found)
 | x_ :: r,choice,start,found,i=>bif ((!(Qg9 x_.wall x_.nodes))||(decide ((max grace 0) > (w64 (1000000 - x_.wall))))) then Qz2 p_ from_ latest grace options1 r choice start found (i+1) else bif ((!((Qp2 p_ from_ (w64 (x_.wall+(max grace 0))) x_.nodes).2&&(decide ((Qp2 p_ from_ (w64 (x_.wall+(max grace 0))) x_.nodes).1<=latest))))||(found&&(decide ((w64 ((Qp2 p_ from_ (w64 (x_.wall+(max grace 0))) x_.nodes).1+x_.wall)) >= (w64 (start+(options1.getD (Int.toNat choice) Alt.zero).wall)))))) then Qz2 p_ from_ latest grace options1 r choice start found (i+1) else Qz2 p_ from_ latest grace options1 r (i:Int) ((Qp2 p_ from_ (w64 (x_.wall+(max grace 0))) x_.nodes).1) true (i+1)
def Qo4 (choice:Int) (start:Int) (found:Bool):Int × Int × Bool:=(choice,start,found)
def Q28 (p_:List Step) (from_:Int) (latest:Int) (grace:Int) (options1:List Alt):Int × Int × Bool:=Qo4 ((Qz2 p_ from_ latest grace options1 options1 0 0 false 0).1) ((Qz2 p_ from_ latest grace options1 options1 0 0 false 0).2.1) ((Qz2 p_ from_ latest grace options1 options1 0 0 false 0).2.2)
def Qk2 (p_:List Step) (options:List Alt) (from_:Int) (latest:Int) (grace:Int):Int × Int × Bool:=bif (decide ((options.length:Int) > 48)) then Q28 p_ from_ latest grace (List.take 48 options) else Q28 p_ from_ latest grace options
theorem b3a0 {P:Prop} (h:P:=by first|((exact hx))|first|((exact fun h=>absurd h (by decide)))|first|((exact fun _=>⟨by omega,by omega⟩))|exact exA):P:=h
theorem Qf9 (p_:List Step) (options:List Alt) (from_:Int) (latest:Int) (grace:Int) (hs0:p_.length<=4294967296) (hs1:options.length<=4294967296):GV 132 [stepL p_,altL options,I from_,I latest,I grace] (AVal.tup [I ((Qk2 p_ options from_ latest grace).1),I ((Qk2 p_ options from_ latest grace).2.1),Bo ((Qk2 p_ options from_ latest grace).2.2)]):=by
 generalize hR:Qk2 p_ options from_ latest grace=R;refine ga (.cons lw (.cons lw (l1 (l1 (l1 .nil))))) (Low.tup' (l1 (l1 (l1 .nil)))) (kj [1000003] 21 [23,29,30,31,32,60]) Tryz.func132 ?_;have hk0:=hs0;obtain z9:p_.length<=4294967296:=hs0;have hk1:=hs1;obtain z10:options.length<=4294967296:=hs1;refine Qx1 (fun (options1:List Alt)=>Q28 p_ from_ latest grace options1=R∧options1.length<=4294967296) (fun options1=>[(1,altL options1),(5,AVal.ptr 0 0 1 0 0),(7,AVal.ptr 1 0 1 0 0),(8,AVal.ptr 2 0 1 0 0),(9,AVal.ptr 3 0 1 0 0),(10,I 0),(11,I 0),(12,Bo false)]) (fun options1=>[(0,AObj.row 92 1 [[stepL p_]]),(0,AObj.row 3 1 [[I from_]]),(0,AObj.row 3 1 [[I latest]]),(0,AObj.row 3 1 [[I grace]])]) ?_ ?_
 ·clear hR;rintro options1 ⟨hR,hx⟩;(try dsimp only at hR hx);refine QZ9 (fun (choice:Int) (start:Int) (found:Bool) (i:Nat)=>Qo4 (Qz2 p_ from_ latest grace options1 (List.drop i options1) choice start found i).1 (Qz2 p_ from_ latest grace options1 (List.drop i options1) choice start found i).2.1 (Qz2 p_ from_ latest grace options1 (List.drop i options1) choice start found i).2.2=R∧i<=options1.length∧(found=true->0<=choice∧choice<(options1.length:Int))) (fun choice start found i=>options1.length - i) (fun choice start found i=>[(1,altL options1),(10,I 0),(11,I 0),(12,Bo false),(13,AVal.fn (.func 192) [] [AVal.ptr 3 0 1 0 0,AVal.ptr 0 0 1 0 0,AVal.ptr 1 0 1 0 0,AVal.ptr 2 0 1 0 0]),(14,I choice),(15,I start),(16,Bo found),(29,altL options1),(30,I (options1.length:Int)),(31,I (i:Int))]) (fun choice start found i=>[(0,AObj.row 92 1 [[stepL p_]]),(0,AObj.row 3 1 [[I from_]]),(0,AObj.row 3 1 [[I latest]]),(0,AObj.row 3 1 [[I (max grace 0)]])]) 0 0 false 0 (wk [0,1,2,3] (tO rfl (ts (lv lw LowL.nil)) (tO rfl (ts (l1 LowL.nil)) (tO rfl (ts (l1 LowL.nil)) (tO rfl (ts (l1 LowL.nil)) .nil)))) (sl lw (s1 (s1 (s1 (sv (Qu0 .nil (cv (Q00 3 rfl rfl) (cv (Q00 0 rfl rfl) (cv (Q00 1 rfl rfl) (cv (Q00 2 rfl rfl) .nil))))) (s1 (s1 (s1 (sl lw (s1 (s1 .nil)))))))))))) ⟨foll hR rfl,by exact omA,b3a0⟩ ?_;clear hR;rintro choice start found i ⟨hR,hj,hx⟩;(try dsimp only at hR hj hx);refine ai (fun h1=>?_) (fun h2=>?_)
  ·have hlt:=ltA h1;rw [Qi0 Alt.zero hlt] at hR;refine And.intro (by first|exact fun hg=>decide_eq_true (by first|((have q:=(Bool.and_eq_true_iff.1 hg).2;have q2:=hx q;omega))|exact ckA)|exact gkA) ?_;refine ACalls.of_cwp (fun _=>true) Tryz.func192 rfl rfl ?_;refine us (Qlb ((options1.getD i Alt.zero).wall) ((options1.getD i Alt.zero).nodes) _) ?_;refine ai (fun h3=>?_) (fun h4=>?_)
   ·refine ⟨_,_,Told.refl,?_⟩;refine dchk (by kernel_rfl) ?_;(conv=>whnf);refine ai (fun hg=>nomatch (show false=true from hg)) ?_;(repeat ((first|refine ai rfl ?_|refine ai (fun _=>rfl) ?_)));refine ai (fun _=>?_) (fun h=>nomatch h);exact Qr3 choice start found (i+1) (wk [0,1,2,3] (tO rfl (ts (lv lw LowL.nil)) (tO rfl (ts (l1 LowL.nil)) (tO rfl (ts (l1 LowL.nil)) (tO rfl (ts (l1 LowL.nil)) .nil)))) (sl lw (s1 (s1 (s1 (sv (Qu0 .nil (cv (Q00 3 rfl rfl) (cv (Q00 0 rfl rfl) (cv (Q00 1 rfl rfl) (cv (Q00 2 rfl rfl) .nil))))) (s1 (s1 (s1 (sl lw (s1 (sv (Qa0 (I_eq (wr omA)) lx) .nil)))))))))))) omA ⟨foll hR (congrArg (fun p:Int × Int × Bool=>Qo4 p.1 p.2.1 p.2.2) (ct h3 rfl)),by exact omA,b3a0⟩
   ·refine us (fit_Earliest_c p_ from_ (w64 ((options1.getD i Alt.zero).wall+(max grace 0))) ((options1.getD i Alt.zero).nodes) szA _) ?_;refine dchk (by kernel_rfl) ?_;(repeat ((first|refine ai rfl ?_|refine ai (fun _=>rfl) ?_)));refine ⟨_,_,Told.refl,?_⟩;refine dchk (by kernel_rfl) ?_;refine And.intro (by first|exact fun hg=>decide_eq_true (by first|((have q:=(Bool.and_eq_true_iff.1 hg).2;have q2:=hx q;omega))|exact ckA)|exact gkA) ?_;(repeat ((first|refine ai rfl ?_|refine ai (fun _=>rfl) ?_)));refine ai (fun h5=>?_) (fun h6=>?_)
    ·exact Qr3 choice start found (i+1) (wk [0,1,2,3] (tO rfl (ts (lv lw LowL.nil)) (tO rfl (ts (l1 LowL.nil)) (tO rfl (ts (l1 LowL.nil)) (tO rfl (ts (l1 LowL.nil)) .nil)))) (sl lw (s1 (s1 (s1 (sv (Qu0 .nil (cv (Q00 3 rfl rfl) (cv (Q00 0 rfl rfl) (cv (Q00 1 rfl rfl) (cv (Q00 2 rfl rfl) .nil))))) (s1 (s1 (s1 (sl lw (s1 (sv (Qa0 (I_eq (wr omA)) lx) .nil)))))))))))) omA ⟨foll hR (congrArg (fun p:Int × Int × Bool=>Qo4 p.1 p.2.1 p.2.2) (cf h4 (ct h5 rfl))),by exact omA,b3a0⟩
    ·exact Qr3 (i:Int) ((Qp2 p_ from_ (w64 ((options1.getD i Alt.zero).wall+(max grace 0))) (options1.getD i Alt.zero).nodes).1) true (i+1) (wk [0,1,2,3] (tO rfl (ts (lv lw LowL.nil)) (tO rfl (ts (l1 LowL.nil)) (tO rfl (ts (l1 LowL.nil)) (tO rfl (ts (l1 LowL.nil)) .nil)))) (sl lw (s1 (s1 (s1 (sv (Qu0 .nil (cv (Q00 3 rfl rfl) (cv (Q00 0 rfl rfl) (cv (Q00 1 rfl rfl) (cv (Q00 2 rfl rfl) .nil))))) (s1 (s1 (s1 (sl lw (s1 (sv (Qa0 (I_eq (wr omA)) lx) .nil)))))))))))) omA ⟨foll hR (congrArg (fun p:Int × Int × Bool=>Qo4 p.1 p.2.1 p.2.2) (cf h4 (cf h6 rfl))),by exact omA,b3a0⟩
  ·rw [Ql0 (l:=options1) (j:=i) (geA h2)] at hR;replace hR:Qo4 choice start found=R:=fo2 (fun p:Int × Int × Bool=>Qo4 p.1 p.2.1 p.2.2) (choice,start,found) hR rfl;obtain rfl:=foll hR rfl;exact Q10 (Low.tup' (l1 (l1 (l1 .nil)))) (Seen.tup (e1 (e1 (e1 .nil))))
 ·refine ai (fun h7=>?_) (fun h8=>?_)
  ·have qh7:=of_decide_eq_true h7;refine And.intro (by first|exact fun hg=>decide_eq_true (by first|((have q:=(Bool.and_eq_true_iff.1 hg).2;have q2:=hx q;omega))|exact ckA)|exact gkA) ?_;exact Qo0 (List.take 48 options) (wk [0,1,2,3] (tO rfl (ts (lv lw LowL.nil)) (tO rfl (ts (l1 LowL.nil)) (tO rfl (ts (l1 LowL.nil)) (tO rfl (ts (l1 LowL.nil)) .nil)))) (sv (turn_as (as_take options 48 (by first|((have q:=(Bool.and_eq_true_iff.1 hg).2;have q2:=hx q;omega))|exact ckA)) lw) (sv (Q00 0 rfl rfl) (sv (Q00 1 rfl rfl) (sv (Q00 2 rfl rfl) (sv (Q00 3 rfl rfl) (s1 (s1 (s1 .nil))))))))) (⟨foll hR (ct h7 rfl),b3a0⟩)
  ·have qh8:=of_decide_eq_false h8;exact Qo0 options (wk [0,1,2,3] (tO rfl (ts (lv lw LowL.nil)) (tO rfl (ts (l1 LowL.nil)) (tO rfl (ts (l1 LowL.nil)) (tO rfl (ts (l1 LowL.nil)) .nil)))) (sl lw (sv (Q00 0 rfl rfl) (sv (Q00 1 rfl rfl) (sv (Q00 2 rfl rfl) (sv (Q00 3 rfl rfl) (s1 (s1 (s1 .nil))))))))) (⟨foll hR (cf h8 rfl),b3a0⟩)
def Qtc (p_:List Step) (at_:Int) (long:Int) (nodes:Int):Bool:=bif ((((Qm2 p_)!=0)||(!(Qg9 long nodes)))||(!(QH7 at_ 0 (w64 (1000000 - long))))) then false else (decide ((Qk8 p_ at_ (w64 (at_+long))) >= nodes))
theorem fit_Fits_c (p_:List Step) (at_:Int) (long:Int) (nodes:Int) (hs0:p_.length<=4294967296):GV 197 [stepL p_,I at_,I long,I nodes] (Bo (Qtc p_ at_ long nodes)):=by
 generalize hR:Qtc p_ at_ long nodes=R;refine ga (.cons lw (l1 (l1 (l1 .nil)))) lx (kp 9 [24]) Tryz.func197 ?_;have hk0:=hs0;obtain z3:p_.length<=4294967296:=hs0;refine us (Qt4 p_ szA _) ?_;(first|apply u2|apply u3|apply u4|apply us);exact Qlb long nodes _;(first|apply u2|apply u3|apply u4|apply us);exact QF8 at_ 0 (w64 (1000000 - long)) _;refine ai (fun h1=>?_) (fun h2=>?_)
 ·obtain rfl:=foll hR (ct h1 rfl);exact Q10 lx sr
 ·refine us (Qxd p_ at_ (w64 (at_+long)) szA _) ?_;obtain rfl:=foll hR (cf h2 rfl);exact Q10 lx sr
end Go.Proofs.YtldebhdmhpopaaaGreatDoor
namespace Go.Proofs.YtldebhdmhpopaaaGreatDoor
set_option linter.unusedSimpArgs false
set_option linter.unusedVariables false
open Go.Fw
set_option maxRecDepth 20000
set_option maxHeartbeats 4000000
attribute [local irreducible] ACalls AMoves
def QL1 :Nat->LexReader->Bool->LexReader × Bool
 | 0,_,_=>(LexReader.zero,false)
 | m+1,c,c2=>bif ((decide (c.at_<(c.line.length:Int)))&&(Ql1 (c.line.getD (Int.toNat c.at_) 0) c2).1) then QL1 m { c with at_:=(w64 (c.at_+1)) } (bif (decide (c.at_<(c.line.length:Int))) then (Ql1 (c.line.getD (Int.toNat c.at_) 0) c2).2 else c2) else (c,(bif (decide (c.at_<(c.line.length:Int))) then (Ql1 (c.line.getD (Int.toNat c.at_) 0) c2).2 else c2))
def Qs2 (r_:LexReader) (c:LexReader) (c2:Bool):Token × LexReader:=bif (c.at_==(c.line.length:Int)) then (Token.zero,(Q31 c r_.at_ 50)) else bif ((c.line.getD (Int.toNat c.at_) 0)!=34) then (Token.zero,(Q31 c c.at_ 40)) else bif ((QF2 (runesBytes (List.drop (Int.toNat r_.at_) (List.take (Int.toNat (w64 (c.at_+1))) c.line)))).2 != 0) then ((⟨4,(QF2 (runesBytes (List.drop (Int.toNat r_.at_) (List.take (Int.toNat (w64 (c.at_+1))) c.line)))).1,0,0⟩:Token),(Q31 { c with at_:=(w64 (c.at_+1)) } r_.at_ ((QF2 (runesBytes (List.drop (Int.toNat r_.at_) (List.take (Int.toNat (w64 (c.at_+1))) c.line)))).2))) else ((⟨4,(QF2 (runesBytes (List.drop (Int.toNat r_.at_) (List.take (Int.toNat (w64 (c.at_+1))) c.line)))).1,0,0⟩:Token),{ c with at_:=(w64 (c.at_+1)) })
def QP1 (r_:LexReader):Token × LexReader:=Qs2 r_ ((QL1 ((Int.toNat ((r_.line.length:Int) - r_.at_))+1) r_ true).1) ((QL1 ((Int.toNat ((r_.line.length:Int) - r_.at_))+1) r_ true).2)
theorem Qqb (r_:LexReader) (hs0:r_.sz) (hp0:0<=r_.at_∧r_.at_<(r_.line.length:Int)∧r_.line.length<=400):AMoves Tryz.prog 284 [AVal.ptr 0 0 4 0 0] [(0,AObj.row 317 4 [[runes r_.line,I r_.at_,I r_.bad,I r_.error]])] 1 (Token.a ((QP1 r_).1)) [(0,AObj.row 317 4 [[runes ((QP1 r_).2.line),I ((QP1 r_).2.at_),I ((QP1 r_).2.bad),I ((QP1 r_).2.error)]])]:=by
 generalize hR:QP1 r_=R;refine mo (kp 7 [23,38,69]) Tryz.func284 ?_;have hk0:=hs0;obtain z9:r_.line.length<=4294967296:=hs0;refine ACalls.of_cwp (fun _=>true) Tryz.func276 rfl rfl ?_;refine Qq0 (fun (c:LexReader) (c2:Bool)=>∃ m,(Int.toNat ((c.line.length:Int) - c.at_))<m∧Qs2 r_ (QL1 m c c2).1 (QL1 m c c2).2=R∧0<=c.at_∧c.at_<=(c.line.length:Int)∧c.line.length<=400∧r_.at_<=c.at_∧0<=r_.at_) (fun c c2=>(Int.toNat ((c.line.length:Int) - c.at_))) (fun c c2=>[(0,AVal.ptr 0 0 4 0 0),(1,AVal.fn (.func 296) [] [AVal.ptr 2 0 1 0 0]),(4,Sg ⟨#[]⟩),(5,I r_.at_)]) (fun c c2=>[(0,AObj.row 317 4 [[runes c.line,I c.at_,I c.bad,I c.error]]),(0,AObj.row 291 4 [[I 0,Sg ⟨#[]⟩,I 0,I 0]]),(0,AObj.row 4 1 [[Bo c2]])]) r_ true (wk [0,1,2] (tO rfl (ts LexReader.lo) (tO rfl (ts Token.lo) (tO rfl (ts (l1 LowL.nil)) .nil))) (sv (Q00 0 rfl rfl) (sv (Qu0 .nil (cv (Q00 2 rfl rfl) .nil)) (s1 (s1 .nil))))) ⟨_,Nat.lt_succ_self _,foll hR rfl,by exact exA⟩ ?_;clear hR;rintro c c2 ⟨m,hm,hR,hx⟩;(try dsimp only at hR hm hx);obtain ⟨m,rfl⟩:=sucA m;refine dchk (by kernel_rfl) ?_;refine ai gkA ?_;refine ⟨_,[(0,AObj.row 317 4 [[runes c.line,I c.at_,I c.bad,I c.error]]),(0,AObj.row 291 4 [[I 0,Sg ⟨#[]⟩,I 0,I 0]]),(0,AObj.row 4 1 [[Bo (bif (decide (c.at_<(c.line.length:Int))) then (Ql1 (c.line.getD (Int.toNat c.at_) 0) c2).2 else c2)]])],fun hg=>(by rw [show (decide (c.at_<(c.line.length:Int)))=true from hg];exact mv [2] (Qq9 (c.line.getD (Int.toNat c.at_) 0) c2) (dO (ds (l1 LowL.nil)) .nil) (d1 (dp .nil)) (rO (re (l1 LowL.nil)) .nil) rx),fun hg=>(by rw [show (decide (c.at_<(c.line.length:Int)))=false from hg];rfl),?_⟩;(repeat ((first|refine ai rfl ?_|refine ai (fun _=>rfl) ?_)));refine ai (fun h1=>?_) (fun h2=>?_)
 ·have hq1:=of_decide_eq_true ((Bool.and_eq_true _ _).mp h1).1;have hwr:w64 (c.at_+1)=c.at_+1:=wr (by omega);exact Qd0 { c with at_:=(w64 (c.at_+1)) } (bif (decide (c.at_<(c.line.length:Int))) then (Ql1 (c.line.getD (Int.toNat c.at_) 0) c2).2 else c2) (wk [0,1,2] (tO rfl (ts LexReader.lo) (tO rfl (ts Token.lo) (tO rfl (ts (l1 LowL.nil)) .nil))) (sv (Q00 0 rfl rfl) (sv (Qu0 .nil (cv (Q00 2 rfl rfl) .nil)) (s1 (s1 .nil))))) omA ⟨m,by exact omA,foll hR (congrArg (fun p:LexReader × Bool=>Qs2 r_ p.1 p.2) (ct h1 rfl)),by exact exA⟩
 ·replace hR:Qs2 r_ c (bif (decide (c.at_<(c.line.length:Int))) then (Ql1 (c.line.getD (Int.toNat c.at_) 0) c2).2 else c2)=R:=fo2 (fun p:LexReader × Bool=>Qs2 r_ p.1 p.2) (c,(bif (decide (c.at_<(c.line.length:Int))) then (Ql1 (c.line.getD (Int.toNat c.at_) 0) c2).2 else c2)) hR (cf h2 rfl);refine dchk (by kernel_rfl) ?_;refine ai gkA ?_;(first|refine ⟨(List.drop (Int.toNat r_.at_) (List.take (Int.toNat c.at_) c.line)),by exact cvA,?_⟩|refine ⟨_,fun _=>⟨(List.drop (Int.toNat r_.at_) (List.take (Int.toNat c.at_) c.line)),by exact cvA,rfl,rfl⟩,?_⟩|refine ⟨_,rfl,⟨(List.drop (Int.toNat r_.at_) (List.take (Int.toNat c.at_) c.line)),by exact cvA,Sub.refl _,rfl⟩,?_⟩);(repeat ((first|refine ai rfl ?_|refine ai (fun _=>rfl) ?_)));refine ⟨_,_,Told.refl,?_⟩;refine dchk (by kernel_rfl) ?_;(repeat ((first|refine ai rfl ?_|refine ai (fun _=>rfl) ?_)));refine ai (fun h3=>?_) (fun h4=>?_)
  ·refine us (mv [0] (QO2 c r_.at_ 50) (dO (ds LexReader.lo) .nil) (dp (d1 (d1 .nil))) (rO (re LexReader.lo) .nil) rx) ?_;obtain rfl:=foll hR (ct h3 rfl);exact rq (tt [0] (tO rfl (ts LexReader.lo) .nil) (Q20 (Low.agg' (Token.lo))))
  ·refine dchk (by kernel_rfl) ?_;refine ai gkA ?_;(repeat ((first|refine ai rfl ?_|refine ai (fun _=>rfl) ?_)));refine ai (fun h5=>?_) (fun h6=>?_)
   ·refine us (mv [0] (QO2 c c.at_ 40) (dO (ds LexReader.lo) .nil) (dp (d1 (d1 .nil))) (rO (re LexReader.lo) .nil) rx) ?_;obtain rfl:=foll hR (cf h4 (ct h5 rfl));exact rq (tt [0] (tO rfl (ts LexReader.lo) .nil) (Q20 (Low.agg' (Token.lo))))
   ·refine dchk (by kernel_rfl) ?_;refine ai gkA ?_;(first|refine ⟨(List.drop (Int.toNat r_.at_) (List.take (Int.toNat (w64 (c.at_+1))) c.line)),by exact cvA,?_⟩|refine ⟨_,fun _=>⟨(List.drop (Int.toNat r_.at_) (List.take (Int.toNat (w64 (c.at_+1))) c.line)),by exact cvA,rfl,rfl⟩,?_⟩|refine ⟨_,rfl,⟨(List.drop (Int.toNat r_.at_) (List.take (Int.toNat (w64 (c.at_+1))) c.line)),by exact cvA,Sub.refl _,rfl⟩,?_⟩);(first|apply u2|apply u3|apply u4|apply us);exact QX8 (runesBytes (List.drop (Int.toNat r_.at_) (List.take (Int.toNat (w64 (c.at_+1))) c.line))) szA (by refine Nat.le_trans (Qt5 _) ?_;simp only [List.length_drop,List.length_take];omega) _;(repeat ((first|refine ai rfl ?_|refine ai (fun _=>rfl) ?_|refine ai (fun _=>QX8 (runesBytes (List.drop (Int.toNat r_.at_) (List.take (Int.toNat (w64 (c.at_+1))) c.line))) szA (by refine Nat.le_trans (Qt5 _) ?_;simp only [List.length_drop,List.length_take];omega) _) ?_)));refine ai (fun h7=>?_) (fun h8=>?_)
    ·refine us (mv [0] (QO2 { c with at_:=(w64 (c.at_+1)) } r_.at_ ((QF2 (runesBytes (List.drop (Int.toNat r_.at_) (List.take (Int.toNat (w64 (c.at_+1))) c.line)))).2)) (dO (ds LexReader.lo) .nil) (dp (d1 (d1 .nil))) (rO (re LexReader.lo) .nil) rx) ?_;obtain rfl:=foll hR (cf h4 (cf h6 (ct h7 rfl)));exact rq (tt [0] (tO rfl (ts LexReader.lo) .nil) (Q20 (Low.agg' (Token.lo))))
    ·obtain rfl:=foll hR (cf h4 (cf h6 (cf h8 rfl)));exact rq (tt [0] (tO rfl (ts LexReader.lo) .nil) (Q20 (Low.agg' (Token.lo))))
def QV6 (min max wall:Int):List Alt:=(List.range (max - min+1).toNat).map fun (i:Nat)=>(⟨max - (i:Int),wall⟩:Alt)
def Qe0 (s:Shape):List Alt:=bif Qe3 s != 0 then [] else bif s.kind==3 then s.alts++QV6 s.min s.max s.wall else s.alts
theorem QZ8 {s:Shape} (h:(Qe3 s != 0)=false) (hk:(s.kind==3)=true):1<=s.min∧s.min<=s.max∧s.max<=48:=by
 have hk':s.kind=3:=by simpa using hk
 simp only [Qe3,hk'] at h
 revert h
 cases h2:(((((s.alts.length:Int)==0)&&(decide (s.min<=s.max)))&&(Qj1 (⟨s.min,s.wall⟩:Alt)))&&(decide (s.max<=48))) with
 | false=>simp [h2,QL2]
 | true =>
  intro _
  simp [Qj1] at h2
  omega
theorem QFd (lo hi wall:Int):((QC4 hi (hi - lo+1).toNat).map fun (n:Int)=>(⟨n,wall⟩:Alt))=QV6 lo hi wall:=by
 simp [QC4,QV6,List.map_map,Function.comp_def]
theorem Q82 (s:Shape) (hs0:s.sz):GV 82 [Shape.a s] (altL (Qe0 s)):=by
 generalize hR:Qe0 s=R;refine ga (.cons (Shape.low _ _) .nil) lw (kp 4 [7,13,18]) Tryz.func82 ?_;have hk0:=hs0;obtain z7:s.alts.length<=4294967296:=hs0;refine us (QUa s szA _) ?_;refine ai (fun h1=>?_) (fun h2=>?_)
 ·obtain rfl:=foll hR (ct h1 rfl);exact Q10 lw Q50
 ·refine us (mv [] (QVa s.alts szA) .nil (dv (QK3 (Alt.lows _ _)) .nil) (rO rr .nil) (rw_ 1 0 rfl)) ?_;refine ai (fun h3=>?_) (fun h4=>?_)
  ·refine us (r:=.fn (.func 203) [] [.ptr 4 0 1 0 0,.ptr 3 0 1 0 0]) (o:=[(0,.row 48 5 [[I s.kind,altL s.alts,I s.min,I s.max,I s.wall]]),(0,.row 122 2 (s.alts.map Alt.cells)),(0,.row 46 1 [[.own 1 0 2 0 s.alts.length]]),(0,.row 3 1 [[I s.min]]),(0,.row 3 1 [[I s.max]])]) (ACalls.of_cwp (fun _=>true) Tryz.func141 rfl rfl ?_) ?_
   ·exact ⟨_,_,QHd,rfl,rfl⟩
   obtain ⟨q1,q2,q3⟩:=QZ8 h2 h3;refine range_next (α:=Int) (fun n=>.int .i64 n) (QC4 s.max (s.max - s.min+1).toNat) (fun xs=>[(0,.row 48 5 [[I s.kind,altL s.alts,I s.min,I s.max,I s.wall]]),(0,.row 122 2 ((s.alts++xs.map fun (n:Int)=>(⟨n,s.wall⟩:Alt)).map Alt.cells)),(0,.row 46 1 [[.own 1 0 2 0 (s.alts++xs.map fun (n:Int)=>(⟨n,s.wall⟩:Alt)).length]]),(0,.row 3 1 [[I s.min]]),(0,.row 3 1 [[I s.max]])])
    (by simp) (by decide) (by decide) rfl rfl rfl rfl ?_ ?_ (by decide) ?_ ?_
   ·intro xs q hq _;simp only [List.mem_cons,List.not_mem_nil,or_false] at hq;rcases hq with rfl|rfl|rfl|rfl|rfl <;> exact ⟨_,_,_,rfl⟩
   ·intro K a w hs;have hv:=Qzd (hs.slot 18);obtain ⟨c1,c2⟩:=box_cell (o:=4) hs.mem rfl;obtain ⟨c3,c4⟩:=box_cell (o:=3) hs.mem rfl;refine ⟨203,#[.pointer (some ⟨K.ρ 4 0,0,none⟩),.pointer (some ⟨K.ρ 3 0,0,none⟩)],⟨K.ρ 3 0,0,none⟩,.int .i64 s.min,hv,?_,c4,?_,?_⟩
    ·intro args w;simp [go_sem]
    ·intro K1 xs W hs1;have hv1:=Qzd (hs1.slot 18);have e:K1.ρ 3 0=K.ρ 3 0:=by
      have:=hv1.symm.trans hv;exact (by simpa using this:K1.ρ 4 0=K.ρ 4 0∧K1.ρ 3 0=K.ρ 3 0).2
     rw [← e];exact (box_cell (o:=3) hs1.mem rfl).1
    ·rw [QM6];exact sizes_stops 2 (by decide) _ _ s.min s.max w q1 q2 q3 c2 c4 c1 c3
   ·intro xs x hlen;rw [QM6] at hlen;refine Or.inl ?_;refine ⟨Qp1 16 rfl lnA (by simp;omega),?_⟩;exact wk [0,1,2,3,4] (tO rfl (ts Shape.lo) (tO rfl (Q7b (by simp only [List.map_append,List.append_assoc];rfl) (QQ6 fun _=>Alt.lowc _ _)) (tO rfl (Q90 (.cons _ _ _ _ (to 1 (by simp [List.length_append];omega)) .nil)) (tO rfl (ts (l1 .nil)) (tO rfl (ts (l1 .nil)) .nil)))))
     (sv (Qu0 .nil (.cons _ _ _ _ (Q00 4 rfl rfl) (.cons _ _ _ _ (Q00 3 rfl rfl) .nil))) (s1 (sv (Q00 2 rfl rfl) (s1 (s1 (sv (Q00 0 rfl rfl) (sl (Shape.low _ _) .nil)))))))
   ·have e:Qe0 s=s.alts++(QC4 s.max (s.max - s.min+1).toNat).map fun (n:Int)=>(⟨n,s.wall⟩:Alt):=by
     rw [QFd];exact cf h2 (ct h3 rfl)
    obtain rfl:=foll hR e;exact Q10 lw (Qn0 Alt.zero _ rfl rfl rfl)
  ·obtain rfl:=foll hR (cf h2 (cf h4 rfl));exact Q10 lw (Qn0 Alt.zero _ rfl eqA lnA)
theorem QQ7 (s:Shape) (h:s.sz):(Qe0 s).length<=4294967296:=by
 unfold Qe0
 cases h1:(Qe3 s != 0) with
 | true=>simp
 | false =>
  cases hk:(s.kind==3) with
  | false=>exact h
  | true =>
   obtain ⟨a,b,c⟩:=QZ8 h1 hk
   have hz:s.alts.length=0:=by
    have hk':s.kind=3:=by simpa using hk
    simp only [Qe3,hk'] at h1
    revert h1
    cases h2:(((((s.alts.length:Int)==0)&&(decide (s.min<=s.max)))&&(Qj1 (⟨s.min,s.wall⟩:Alt)))&&(decide (s.max<=48))) with
    | false=>simp [h2,QL2]
    | true =>
     intro _
     simp at h2
     simp [h2.1.1.1]
   simp only [cond_false,cond_true,List.length_append,hz,QV6,List.length_map,List.length_range]
   omega
def QS3 (is:Node->Bool):List Node->List Int->Nat->(List Int)
 | [],out,_=>out
 | x_ :: r,out,i=>bif (is x_) then QS3 is r (out++([(i:Int)]:List Int)) (i+1) else QS3 is r out (i+1)
def Qi1 (out:List Int):Int:=(QF4 out).1
def QC1 (l:List Node) (is:Node->Bool):Int:=bif ((QB1 l)!=0) then 0 else Qi1 (QS3 is l [] 0)
def Qs7 (l:List Node):List Int->Nat->Bool
 | [],_=>true
 | x_ :: r,i=>bif ((decide (x_<(l.length:Int)))&&((l.getD (Int.toNat x_) Node.zero).want==0)) then Qs7 l r (i+1) else false
def QO9 (l:List Node) (set_:Int):Bool:=bif ((QB1 l)!=0) then false else Qs7 l (QG0 set_) 0
theorem alloc_Quiet_c (l:List Node) (set_:Int) (hs0:l.length<=4294967296):GV 162 [nodeL l,U set_] (Bo (QO9 l set_)):=by
 generalize hR:QO9 l set_=R;refine ga (.cons lw (l1 .nil)) lx (kp 7 [9,11,12,13,14,28]) Tryz.func162 ?_;have hk0:=hs0;obtain z7:l.length<=4294967296:=hs0;refine us (QE2 l szA _) ?_;refine ai (fun h1=>?_) (fun h2=>?_)
 ·obtain rfl:=foll hR (ct h1 rfl);exact Q10 lx sr
 ·refine us (QF9 set_ _) ?_;refine Qs0 (fun (i:Nat)=>Qs7 l (List.drop i (QG0 set_)) i=R∧i<=(QG0 set_).length) (fun i=>(QG0 set_).length - i) (fun i=>[(0,nodeL l),(4,Bo false),(11,ints (QG0 set_)),(12,I ((QG0 set_).length:Int)),(13,I (i:Int))]) (fun i=>[]) 0 (wk [] .nil (sl lw (s1 (sl lw (s1 (s1 .nil)))))) ⟨foll hR (cf h2 rfl),by exact omA⟩ ?_;clear hR;rintro i ⟨hR,hj⟩;(try dsimp only at hR hj);refine ai (fun h3=>?_) (fun h4=>?_)
  ·have hlt:=ltA h3;rw [Qi0 0 hlt] at hR;have hq:=Qec set_ hlt;have hq2:=Qf6 set_;refine ai gkA ?_;refine ai gkA ?_;refine ai (fun h5=>?_) (fun h6=>?_)
   ·exact Qz0 (i+1) (wk [] .nil (sl lw (s1 (sl lw (s1 (sv (Qa0 (I_eq (wr omA)) lx) .nil)))))) omA ⟨foll hR (ct h5 rfl),by exact omA⟩
   ·obtain rfl:=foll hR (cf h6 rfl);exact Q10 lx sr
  ·rw [Ql0 (l:=(QG0 set_)) (j:=i) (geA h4)] at hR;obtain rfl:=foll hR rfl;exact Q10 lx sr
def Qo5 (of_:Usage->Int):List Usage->Int->Nat->Int
 | [],n,_=>n
 | x_ :: r,n,i=>Qo5 of_ r (Qxc ([n,(of_ x_)]:List Int)) (i+1)
def Q23 (n:Int):Int:=n
def Qq3 (l:List Usage) (of_:Usage->Int):Int:=bif ((Q67 l)!=0) then 0 else Q23 (Qo5 of_ l 0 0)
def Qm5 (p_:List Step) (at_:Int) (long:Int) (nodes:Int):(List Step) × Int:=bif (!(Qtc p_ at_ long nodes)) then ([],130) else ((Qi2 p_ at_ (w64 (at_+long)) (w64 (0 - nodes))).1,(Qi2 p_ at_ (w64 (at_+long)) (w64 (0 - nodes))).2)
theorem fit_Take_c (p_:List Step) (at_:Int) (long:Int) (nodes:Int) (hs0:p_.length<=4294967296):GV 134 [stepL p_,I at_,I long,I nodes] (AVal.tup [stepL ((Qm5 p_ at_ long nodes).1),I ((Qm5 p_ at_ long nodes).2)]):=by
 generalize hR:Qm5 p_ at_ long nodes=R;refine ga (.cons lw (l1 (l1 (l1 .nil)))) (Low.tup' (.cons lw (l1 .nil))) (kp 10 [15]) Tryz.func134 ?_;have hk0:=hs0;obtain z3:p_.length<=4294967296:=hs0;refine us (fit_Fits_c p_ at_ long nodes szA _) ?_;refine ai (fun h1=>?_) (fun h2=>?_)
 ·obtain rfl:=foll hR (ct h1 rfl);exact Q10 (Low.tup' (.cons lw (l1 .nil))) (Seen.tup (ev (Q50) (e1 .nil)))
 ·refine us (Qj8 p_ at_ (w64 (at_+long)) (w64 (0 - nodes)) szA _) ?_;obtain rfl:=foll hR (cf h2 rfl);exact Q10 (Low.tup' (.cons lw (l1 .nil))) (Seen.tup (e1 (e1 .nil)))
theorem QFb {p:List Step} (a l n:Int) (h:p.length<=4294967296):(Qm5 p a l n).1.length<=4294967296:=by
 unfold Qm5
 cases (!(Qtc p a l n)) with
 | true=>simp
 | false=>exact QS6 _ _ _ _ h
def Qv1 (l:List Node) (n:Int) (act:Int) (job:Int) (now:Int):(List Node) × Int:=bif ((QB1 l)!=0) then ([],(QB1 l)) else bif ((((decide (n<0))||(decide (n >= (l.length:Int))))||(!(QB6 now)))||(!(Qpa (l.getD (Int.toNat n) Node.zero) act job))) then ([],120) else ((l.set (Int.toNat n) (Qi9 (l.getD (Int.toNat n) Node.zero) act job now)),0)
theorem Qh9 (l:List Node) (n:Int) (act:Int) (job:Int) (now:Int) (hs0:l.length<=4294967296):GV 56 [nodeL l,I n,I act,I job,I now] (AVal.tup [nodeL ((Qv1 l n act job now).1),I ((Qv1 l n act job now).2)]):=by
 generalize hR:Qv1 l n act job now=R;refine ga (.cons lw (l1 (l1 (l1 (l1 .nil))))) (Low.tup' (.cons lw (l1 .nil))) (kp 14 [17,41]) Tryz.func56 ?_;have hk0:=hs0;obtain z5:l.length<=4294967296:=hs0;refine us (QE2 l szA _) ?_;refine ai (fun h1=>?_) (fun h2=>?_)
 ·obtain rfl:=foll hR (ct h1 rfl);exact Q10 (Low.tup' (.cons lw (l1 .nil))) (Seen.tup (ev (Q50) (e1 .nil)))
 ·(first|apply u2|apply u3|apply u4|apply us);exact QJ8 now _;refine ai gkA ?_;(first|apply u2|apply u3|apply u4|apply us);exact fleet_may_c (l.getD (Int.toNat n) Node.zero) act job _;refine ai (fun h3=>?_) (fun h4=>?_)
  ·obtain rfl:=foll hR (cf h2 (ct h3 rfl));exact Q10 (Low.tup' (.cons lw (l1 .nil))) (Seen.tup (ev (Q50) (e1 .nil)))
  ·refine us (mv [] (Q4a l szA) .nil (dl lw .nil) (rO rr .nil) (rw_ 0 0 rfl)) ?_;refine ai gkA ?_;refine us (fleet_done_c (l.getD (Int.toNat n) Node.zero) act job now _) ?_;refine ai gkA ?_;refine ⟨_,Q01 rfl rfl rfl rfl (QC0 Node.zero (Int.toNat n) (by first|rfl|exact Nat.zero_add _|omega) ckA) rfl rfl (Qp8 (Int.toNat n) (Qi9 (l.getD (Int.toNat n) Node.zero) act job now) (by first|rfl|exact Nat.zero_add _|omega) rfl),?_⟩;obtain rfl:=foll hR (cf h2 (cf h4 rfl));exact Q10 (Low.tup' (.cons lw (l1 .nil))) (Seen.tup (ev (Qn0 Node.zero _ rfl eqA lnA) (e1 .nil)))
theorem QGb (l:List Node) (n act job now:Int):(Qv1 l n act job now).1.length<=l.length:=by
 unfold Qv1
 repeat' first|exact Nat.zero_le _|(simp;done)|(rw [Bool.cond_eq_ite];split)
theorem QC3 {l:List Node} {n act job now:Int} (h:((Qv1 l n act job now).2 != 0)=false):0<=n∧n<(l.length:Int):=by
 unfold Qv1 at h
 cases h1:((QB1 l)!=0) with
 | true=>rw [h1] at h;simp only [cond_true] at h;rw [h1] at h;exact nomatch h
 | false =>
  rw [h1] at h
  cases h2:((((decide (n<0))||(decide (n >= (l.length:Int))))||(!(QB6 now)))||(!(Qpa (l.getD (Int.toNat n) Node.zero) act job))) with
  | true=>rw [h2] at h;exact nomatch h
  | false=>simp at h2;omega
def Q65 (l:List Node) (n:Int):Note × Bool:=bif (((((QB1 l)!=0)||(decide (n<0)))||(decide (n >= (l.length:Int))))||((l.getD (Int.toNat n) Node.zero).want==0)) then (Note.zero,false) else ((⟨(l.getD (Int.toNat n) Node.zero).want,n,(l.getD (Int.toNat n) Node.zero).job,(l.getD (Int.toNat n) Node.zero).epoch⟩:Note),true)
theorem fleet_Note_c (l:List Node) (n:Int) (hs0:l.length<=4294967296):GV 222 [nodeL l,I n] (AVal.tup [Note.a ((Q65 l n).1),Bo ((Q65 l n).2)]):=by
 generalize hR:Q65 l n=R;refine ga (.cons lw (l1 .nil)) (Low.tup' (.cons (Note.low _ _) (l1 .nil))) (kp 6 [26]) Tryz.func222 ?_;have hk0:=hs0;obtain z3:l.length<=4294967296:=hs0;refine us (QE2 l szA _) ?_;refine ai gkA ?_;refine ai (fun h1=>?_) (fun h2=>?_)
 ·obtain rfl:=foll hR (ct h1 rfl);exact Q10 (Low.tup' (.cons (Note.low _ _) (l1 .nil))) (Seen.tup (e1 (e1 .nil)))
 ·refine dchk (by kernel_rfl) ?_;refine ai gkA ?_;refine ai gkA ?_;refine ai gkA ?_;(repeat ((first|refine ai rfl ?_|refine ai (fun _=>rfl) ?_)));obtain rfl:=foll hR (cf h2 rfl);exact Q10 (Low.tup' (.cons (Note.low _ _) (l1 .nil))) (Seen.tup (e1 (e1 .nil)))
def QD0 (r_:LexReader):Token × LexReader:=bif ((QJ1 (r_.line.getD (Int.toNat r_.at_) 0))==2) then ((Q72 r_).1,(Q72 r_).2) else bif ((QJ1 (r_.line.getD (Int.toNat r_.at_) 0))==3) then ((QG1 r_).1,(QG1 r_).2) else bif ((r_.line.getD (Int.toNat r_.at_) 0)==34) then ((QP1 r_).1,(QP1 r_).2) else bif ((decide ((QG4 ⟨#[61,58,44,45]⟩ (wu8 (r_.line.getD (Int.toNat r_.at_) 0))) >= 0))&&(decide ((r_.line.getD (Int.toNat r_.at_) 0)<128))) then ((⟨5,(runeStr (r_.line.getD (Int.toNat r_.at_) 0)),0,0⟩:Token),{ r_ with at_:=(w64 (r_.at_+1)) }) else bif ((QJ1 (r_.line.getD (Int.toNat r_.at_) 0))==0) then (Token.zero,(Q31 r_ r_.at_ 40)) else (Token.zero,(Q31 r_ r_.at_ 50))
theorem Qpb (r_:LexReader) (hs0:r_.sz) (hp0:0<=r_.at_∧r_.at_<(r_.line.length:Int)∧r_.line.length<=400):AMoves Tryz.prog 277 [AVal.ptr 0 0 4 0 0] [(0,AObj.row 317 4 [[runes r_.line,I r_.at_,I r_.bad,I r_.error]])] 1 (Token.a ((QD0 r_).1)) [(0,AObj.row 317 4 [[runes ((QD0 r_).2.line),I ((QD0 r_).2.at_),I ((QD0 r_).2.bad),I ((QD0 r_).2.error)]])]:=by
 generalize hR:QD0 r_=R;refine mo (kp 4 [20,26,32,37,56]) Tryz.func277 ?_;have hk0:=hs0;obtain z11:r_.line.length<=4294967296:=hs0;refine dchk (by kernel_rfl) ?_;refine ai gkA ?_;(repeat ((first|refine ai rfl ?_|refine ai (fun _=>rfl) ?_)));refine us (QH3 (r_.line.getD (Int.toNat r_.at_) 0) _) ?_;refine ai (fun h1=>?_) (fun h2=>?_)
 ·refine us (mv [0] (Qrb r_ szA ckA) (dO (ds LexReader.lo) .nil) (dp .nil) (rO (re LexReader.lo) .nil) (Ren.low _ (Low.agg' (Token.lo)))) ?_;obtain rfl:=foll hR (ct h1 rfl);exact rq (tt [0] (tO rfl (ts LexReader.lo) .nil) (Q20 (Low.agg' (Token.lo))))
 ·refine us (QH3 (r_.line.getD (Int.toNat r_.at_) 0) _) ?_;refine ai (fun h3=>?_) (fun h4=>?_)
  ·refine us (mv [0] (QJa r_ szA ckA) (dO (ds LexReader.lo) .nil) (dp .nil) (rO (re LexReader.lo) .nil) (Ren.low _ (Low.agg' (Token.lo)))) ?_;obtain rfl:=foll hR (cf h2 (ct h3 rfl));exact rq (tt [0] (tO rfl (ts LexReader.lo) .nil) (Q20 (Low.agg' (Token.lo))))
  ·refine ai (fun h5=>?_) (fun h6=>?_)
   ·refine us (mv [0] (Qqb r_ szA ckA) (dO (ds LexReader.lo) .nil) (dp .nil) (rO (re LexReader.lo) .nil) (Ren.low _ (Low.agg' (Token.lo)))) ?_;obtain rfl:=foll hR (cf h2 (cf h4 (ct h5 rfl)));exact rq (tt [0] (tO rfl (ts LexReader.lo) .nil) (Q20 (Low.agg' (Token.lo))))
   ·refine us (Q8a ⟨#[61,58,44,45]⟩ (wu8 (r_.line.getD (Int.toNat r_.at_) 0)) _) ?_;refine ai (fun h7=>?_) (fun h8=>?_)
    ·obtain rfl:=foll hR (cf h2 (cf h4 (cf h6 (ct h7 rfl))));exact rq (tt [0] (tO rfl (ts LexReader.lo) .nil) (Q20 (Low.agg' (Token.lo))))
    ·refine us (QH3 (r_.line.getD (Int.toNat r_.at_) 0) _) ?_;refine ai (fun h9=>?_) (fun h10=>?_)
     ·refine us (mv [0] (QO2 r_ r_.at_ 40) (dO (ds LexReader.lo) .nil) (dp (d1 (d1 .nil))) (rO (re LexReader.lo) .nil) rx) ?_;obtain rfl:=foll hR (cf h2 (cf h4 (cf h6 (cf h8 (ct h9 rfl)))));exact rq (tt [0] (tO rfl (ts LexReader.lo) .nil) (Q20 (Low.agg' (Token.lo))))
     ·refine us (mv [0] (QO2 r_ r_.at_ 50) (dO (ds LexReader.lo) .nil) (dp (d1 (d1 .nil))) (rO (re LexReader.lo) .nil) rx) ?_;obtain rfl:=foll hR (cf h2 (cf h4 (cf h6 (cf h8 (cf h10 rfl)))));exact rq (tt [0] (tO rfl (ts LexReader.lo) .nil) (Q20 (Low.agg' (Token.lo))))
def Adv (a b:LexReader):Prop:=b.line=a.line∧a.at_<=b.at_∧b.at_<=(a.line.length:Int)∧b.error=a.error∧b.bad=a.bad
theorem Qc8 (is:Int->Bool):∀ (m:Nat) (c:LexReader),0<=c.at_->c.at_<=(c.line.length:Int)->c.line.length<=400->(Int.toNat ((c.line.length:Int) - c.at_))<m->Adv c (QW0 is m c)
 | 0,c,_,_,_,h=>absurd h (by omega)
 | m+1,c,h0,h1,h2,h=>by
  rw [QW0]
  cases hc:((decide (c.at_<(c.line.length:Int)))&&(is (c.line.getD (Int.toNat c.at_) 0))) with
  | false=>exact ⟨rfl,Int.le_refl _,h1,rfl,rfl⟩
  | true =>
   have hlt:=of_decide_eq_true ((Bool.and_eq_true _ _).mp hc).1
   have hw:w64 (c.at_+1)=c.at_+1:=wr (by omega)
   rw [hw]
   obtain ⟨a,b,d,e,f⟩:=Qc8 is m { c with at_:=c.at_+1 } (by dsimp only;omega) (by dsimp only;omega) h2 (by dsimp only;omega)
   dsimp only at a b d e f
   exact ⟨a,by simp only [cond_true];omega,d,e,f⟩
theorem QK4 (r:LexReader) (is:Int->Bool) (h0:0<=r.at_) (h1:r.at_<=(r.line.length:Int)) (h2:r.line.length<=400):Adv r (Q70 r is).2 :=
 Qc8 is _ r h0 h1 h2 (Nat.lt_succ_self _)
theorem QP6 (r:LexReader) (is:Int->Bool) (h0:0<=r.at_) (h1:r.at_<(r.line.length:Int)) (h2:r.line.length<=400) (h:is (r.line.getD (Int.toNat r.at_) 0)=true):r.at_<(Q70 r is).2.at_:=by
 have hw:w64 (r.at_+1)=r.at_+1:=wr (by omega)
 have e:(Q70 r is).2=QW0 is (Int.toNat ((r.line.length:Int) - r.at_)) { r with at_:=r.at_+1 }:=by
  show QW0 is ((Int.toNat ((r.line.length:Int) - r.at_))+1) r=_
  rw [QW0,show ((decide (r.at_<(r.line.length:Int)))&&(is (r.line.getD (Int.toNat r.at_) 0)))=true by rw [h,Bool.and_true];exact decide_eq_true h1,hw]
  rfl
 rw [e]
 have:=(Qc8 is (Int.toNat ((r.line.length:Int) - r.at_)) { r with at_:=r.at_+1 } (by dsimp only;omega) (by dsimp only;omega) h2 (by dsimp only;omega)).2.1
 dsimp only at this
 omega
theorem QP8 (r:LexReader) (p e:Int) (he:e ≠ 0):(Q31 r p e).line=r.line∧(Q31 r p e).at_=r.at_∧(Q31 r p e).error ≠ 0:=by
 unfold Q31
 cases h:(r.error==0) with
 | true=>exact ⟨rfl,rfl,he⟩
 | false=>exact ⟨rfl,rfl,by simpa using h⟩
def Nxt (a b:LexReader):Prop:=b.line=a.line∧a.at_<=b.at_∧b.at_<=(a.line.length:Int)∧(b.error ≠ 0∨a.at_<b.at_)
theorem lex_word_nxt (r:LexReader) (h0:0<=r.at_) (h1:r.at_<(r.line.length:Int)) (h2:r.line.length<=400) (hc:((QJ1 (r.line.getD (Int.toNat r.at_) 0))==2)=true):Nxt r (Q72 r).2:=by
 obtain ⟨a,b,c,_,_⟩:=QK4 r (fun (y:Int)=>Qv0 y ([2,3]:List Int) 0) h0 (by omega) h2
 exact ⟨a,b,c,Or.inr (QP6 r _ h0 h1 h2 (by simp only [Qv0,hc];rfl))⟩
theorem class_digit (x:Int) (h:(QJ1 x==3)=true):48<=x∧x<=57:=by
 unfold QJ1 at h
 revert h
 cases ((x==9)||(x==32)) with
 | true=>simp
 | false =>
  simp only [cond_false]
  cases (((((decide (x<32))||((decide (x >= 127))&&(decide (x<=160))))||((decide (x >= 55296))&&(decide (x<=57343))))||(x==65533))||(decide (x > 1114111))) with
  | true=>simp
  | false =>
   simp only [cond_false]
   cases hd:((decide (x >= 48))&&(decide (x<=57))) with
   | true=>intro _;simp at hd;omega
   | false =>
    simp only [cond_false]
    cases ((((decide (x >= 97))&&(decide (x<=122)))||((decide (x >= 65))&&(decide (x<=90))))||(decide (x > 160))) <;> simp
theorem lex_count_nxt (r:LexReader) (h0:0<=r.at_) (h1:r.at_<(r.line.length:Int)) (h2:r.line.length<=400) (hc:((QJ1 (r.line.getD (Int.toNat r.at_) 0))==3)=true):Nxt r (QG1 r).2:=by
 obtain ⟨a,b,c,_,_⟩:=QK4 r (fun (y:Int)=>(((decide (y >= 48))&&(decide (y<=57)))||((decide (y >= 97))&&(decide (y<=122))))) h0 (by omega) h2
 have hd:=class_digit _ hc
 have l:=QP6 r (fun (y:Int)=>(((decide (y >= 48))&&(decide (y<=57)))||((decide (y >= 97))&&(decide (y<=122))))) h0 h1 h2 (by simp only [decide_eq_true hd.1,decide_eq_true hd.2];rfl)
 unfold QG1
 cases (!(QE6 ((Q70 r (fun (y:Int)=>(((decide (y >= 48))&&(decide (y<=57)))||((decide (y >= 97))&&(decide (y<=122)))))).1))) with
 | true=>exact ⟨a,b,c,Or.inr l⟩
 | false =>
  simp only [cond_false]
  cases (!(QF5 ((Q70 r (fun (y:Int)=>(((decide (y >= 48))&&(decide (y<=57)))||((decide (y >= 97))&&(decide (y<=122)))))).1)).2) with
  | false=>exact ⟨a,b,c,Or.inr l⟩
  | true =>
   obtain ⟨f1,f2,f3⟩:=QP8 (Q70 r (fun (y:Int)=>(((decide (y >= 48))&&(decide (y<=57)))||((decide (y >= 97))&&(decide (y<=122)))))).2 r.at_ 50 (by decide)
   exact ⟨f1.trans a,by simp only [cond_true];rw [f2];exact b,by simp only [cond_true];rw [f2];exact c,Or.inl f3⟩
theorem QQb:∀ (m:Nat) (c:LexReader) (b:Bool),0<=c.at_->c.at_<=(c.line.length:Int)->c.line.length<=400->(Int.toNat ((c.line.length:Int) - c.at_))<m->Adv c (QL1 m c b).1
 | 0,c,_,_,_,_,h=>absurd h (by omega)
 | m+1,c,b,h0,h1,h2,h=>by
  rw [QL1]
  cases hc:((decide (c.at_<(c.line.length:Int)))&&(Ql1 (c.line.getD (Int.toNat c.at_) 0) b).1) with
  | false=>exact ⟨rfl,Int.le_refl _,h1,rfl,rfl⟩
  | true =>
   have hlt:=of_decide_eq_true ((Bool.and_eq_true _ _).mp hc).1
   have hw:w64 (c.at_+1)=c.at_+1:=wr (by omega)
   rw [hw]
   obtain ⟨a,b,d,e,f⟩:=QQb m { c with at_:=c.at_+1 } _ (by dsimp only;omega) (by dsimp only;omega) h2 (by dsimp only;omega)
   dsimp only at a b d e f
   exact ⟨a,by simp only [cond_true];omega,d,e,f⟩
theorem lex_text_nxt (r:LexReader) (h0:0<=r.at_) (h1:r.at_<(r.line.length:Int)) (h2:r.line.length<=400):Nxt r (QP1 r).2:=by
 obtain ⟨a,b,c,_,_⟩:=QQb _ r true h0 (by omega) h2 (Nat.lt_succ_self _)
 unfold QP1
 generalize (QL1 ((Int.toNat ((r.line.length:Int) - r.at_))+1) r true).1=q at a b c
 unfold Qs2
 have ff:∀ (x:LexReader) (p e:Int),e ≠ 0->x.line=r.line->r.at_<=x.at_->x.at_<=(r.line.length:Int)->Nxt r (Q31 x p e):=by
  intro x p e he hx hp hq
  obtain ⟨f1,f2,f3⟩:=QP8 x p e he
  exact ⟨f1.trans hx,by rw [f2];exact hp,by rw [f2];exact hq,Or.inl f3⟩
 cases h3:(q.at_==(q.line.length:Int)) with
 | true=>exact ff q _ _ (by decide) a b c
 | false =>
  simp only [cond_false]
  have h3':q.at_ ≠ (r.line.length:Int):=by rw [a] at h3;simpa using h3
  have hw:w64 (q.at_+1)=q.at_+1:=wr (by omega)
  cases ((q.line.getD (Int.toNat q.at_) 0)!=34) with
  | true=>exact ff q _ _ (by decide) a b c
  | false =>
   simp only [cond_false]
   rw [hw]
   cases h4:((QF2 (runesBytes (List.drop (Int.toNat r.at_) (List.take (Int.toNat (q.at_+1)) q.line)))).2 != 0) with
   | true=>exact ff { q with at_:=q.at_+1 } _ _ (by simpa using h4) a (by show r.at_<=q.at_+1;omega) (by show q.at_+1<=_;omega)
   | false=>exact ⟨a,by show r.at_<=q.at_+1;omega,by show q.at_+1<=_;omega,Or.inr (by show r.at_<q.at_+1;omega)⟩
theorem lex_next_nxt (r:LexReader) (h0:0<=r.at_) (h1:r.at_<(r.line.length:Int)) (h2:r.line.length<=400):Nxt r (QD0 r).2:=by
 have hw:w64 (r.at_+1)=r.at_+1:=wr (by omega)
 have ff:∀ (e:Int),e ≠ 0->Nxt r (Q31 r r.at_ e):=by
  intro e he
  obtain ⟨f1,f2,f3⟩:=QP8 r r.at_ e he
  exact ⟨f1,by rw [f2];exact Int.le_refl _,by rw [f2];omega,Or.inl f3⟩
 unfold QD0
 cases hc:((QJ1 (r.line.getD (Int.toNat r.at_) 0))==2) with
 | true=>exact lex_word_nxt r h0 h1 h2 hc
 | false =>
  simp only [cond_false]
  cases hd:((QJ1 (r.line.getD (Int.toNat r.at_) 0))==3) with
  | true=>exact lex_count_nxt r h0 h1 h2 hd
  | false =>
   simp only [cond_false]
   cases ((r.line.getD (Int.toNat r.at_) 0)==34) with
   | true=>exact lex_text_nxt r h0 h1 h2
   | false =>
    simp only [cond_false]
    cases ((decide ((QG4 ⟨#[61,58,44,45]⟩ (wu8 (r.line.getD (Int.toNat r.at_) 0))) >= 0))&&(decide ((r.line.getD (Int.toNat r.at_) 0)<128))) with
    | true=>rw [hw];exact ⟨rfl,by show r.at_<=r.at_+1;omega,by show r.at_+1<=_;omega,Or.inr (by show r.at_<r.at_+1;omega)⟩
    | false =>
     simp only [cond_false]
     cases ((QJ1 (r.line.getD (Int.toNat r.at_) 0))==0) with
     | true=>exact ff 40 (by decide)
     | false=>exact ff 50 (by decide)
theorem lex_round (r c:LexReader) (b:Int->Bool) (h0:0<=r.at_) (h1:r.at_<=(r.line.length:Int)) (h2:r.line.length<=400) (he:(r.error==0)=true) (e:c=(Q70 r b).2) (hn:(c.at_==(c.line.length:Int))=false) :
  (0<=c.at_∧c.at_<(c.line.length:Int)∧c.line.length<=400)∧(0<=(QD0 c).2.at_∧(QD0 c).2.at_<=((QD0 c).2.line.length:Int)∧(QD0 c).2.line.length<=400) ∧
  2*Int.toNat (((QD0 c).2.line.length:Int) - (QD0 c).2.at_)+(bif (QD0 c).2.error==0 then 1 else 0)<2*Int.toNat ((r.line.length:Int) - r.at_)+(bif r.error==0 then 1 else 0) ∧
  (((QD0 c).2.error==0)=true->r.at_+1<=(QD0 c).2.at_):=by
 obtain ⟨a1,a2,a3,a4,a5⟩:=QK4 r b h0 h1 h2
 rw [← e] at a1 a2 a3 a4 a5
 have hn':c.at_ ≠ (r.line.length:Int):=by rw [a1] at hn;simpa using hn
 have hc:0<=c.at_∧c.at_<(c.line.length:Int)∧c.line.length<=400:=by rw [a1];omega
 obtain ⟨n1,n2,n3,n4⟩:=lex_next_nxt c hc.1 hc.2.1 hc.2.2
 rw [he]
 rw [a1] at n1 n3
 refine ⟨hc,by rw [n1];omega,?_⟩
 rw [n1]
 rcases n4 with n4|n4
 ·have:((QD0 c).2.error==0)=false:=by simpa using n4
  rw [this]
  simp only [cond_true,cond_false]
  exact ⟨by omega,fun h=>nomatch h⟩
 ·refine ⟨?_,fun _=>by omega⟩
  cases ((QD0 c).2.error==0) <;> simp only [cond_true,cond_false] <;> omega
def QI0 (v:Job) (choice:Int):Alt × Bool:=bif ((decide (choice<0))||(decide (choice >= ((Qe0 v.shape).length:Int)))) then (Alt.zero,false) else (((Qe0 v.shape).getD (Int.toNat choice) Alt.zero),true)
theorem QD4 (v:Job) (choice:Int) (hs0:v.sz):GV 144 [Job.a v,I choice] (AVal.tup [Alt.a ((QI0 v choice).1),Bo ((QI0 v choice).2)]):=by
 generalize hR:QI0 v choice=R;refine ga (.cons (Job.low _ _) (l1 .nil)) (Low.tup' (.cons (Alt.low _ _) (l1 .nil))) (kp 7 [18]) Tryz.func144 ?_;obtain ⟨z3,z4,z5,z6,z7⟩:=Job.zz hs0;refine us (Q82 v.shape szA _) ?_;refine ai (fun h1=>?_) (fun h2=>?_)
 ·obtain rfl:=foll hR (ct h1 rfl);exact Q10 (Low.tup' (.cons (Alt.low _ _) (l1 .nil))) (Seen.tup (e1 (e1 .nil)))
 ·refine ai gkA ?_;obtain rfl:=foll hR (cf h2 rfl);exact Q10 (Low.tup' (.cons (Alt.low _ _) (l1 .nil))) (Seen.tup (e1 (e1 .nil)))
def QY8 (s:Shape) (choice:Int) (n:Int):Bool:=bif ((decide (choice<0))||(decide (choice >= ((Qe0 s).length:Int)))) then false else bif (s.kind==3) then ((decide (n >= s.min))&&(decide (n<=s.max))) else (((Qe0 s).getD (Int.toNat choice) Alt.zero).nodes==n)
theorem QH9 (s:Shape) (choice:Int) (n:Int) (hs0:s.sz):GV 212 [Shape.a s,I choice,I n] (Bo (QY8 s choice n)):=by
 generalize hR:QY8 s choice n=R;refine ga (.cons (Shape.low _ _) (l1 (l1 .nil))) lx (kp 8 [17,20]) Tryz.func212 ?_;have hk0:=hs0;obtain z5:s.alts.length<=4294967296:=hs0;refine us (Q82 s szA _) ?_;refine ai (fun h1=>?_) (fun h2=>?_)
 ·obtain rfl:=foll hR (ct h1 rfl);exact Q10 lx sr
 ·refine ai (fun h3=>?_) (fun h4=>?_)
  ·obtain rfl:=foll hR (cf h2 (ct h3 rfl));exact Q10 lx sr
  ·refine ai gkA ?_;obtain rfl:=foll hR (cf h2 (cf h4 rfl));exact Q10 lx sr
def Qg1 (l:List Node) (job:Int) (state:Int):Int:=(QC1 l (fun (y:Node)=>((y.job==job)&&(y.state==state))))
theorem Qg2 (l:List Node) (job:Int) (state:Int) (hs0:l.length<=4294967296):GV 20 [nodeL l,I job,I state] (U (Qg1 l job state)):=by
 generalize hR:Qg1 l job state=R;refine ga (.cons lw (l1 (l1 .nil))) lx (kp 7 []) Tryz.func20 ?_;have hk0:=hs0;obtain z7:l.length<=4294967296:=hs0;have cl1:∀ (y1:Node),AMoves Tryz.prog 65 [Node.a y1,AVal.ptr 0 0 1 0 0,AVal.ptr 1 0 1 0 0] [(0,AObj.row 3 1 [[I job]]),(0,AObj.row 3 1 [[I state]])] 2 (Bo ((fun (y:Node)=>((y.job==job)&&(y.state==state))) y1)) [(0,AObj.row 3 1 [[I job]]),(0,AObj.row 3 1 [[I state]])]:=by
  intro y1;have hR:(fun (y:Node)=>((y.job==job)&&(y.state==state))) y1=(fun (y:Node)=>((y.job==job)&&(y.state==state))) y1:=rfl;refine mo (kp 5 []) Tryz.func65 ?_;refine Qp0 (fun r:Bool=>Bo r) (fun _=>[(0,AObj.row 3 1 [[I job]]),(0,AObj.row 3 1 [[I state]])]) (leaf:=((y1.job==job)&&(y1.state==state))) (foll hR rfl) ?_;exact tt [0,1] (tO rfl (ts (l1 LowL.nil)) (tO rfl (ts (l1 LowL.nil)) .nil)) t1
 have hof1:AMoves Tryz.prog 53 [nodeL l,AVal.fn (.func 65) [] [AVal.ptr 0 0 1 0 0,AVal.ptr 1 0 1 0 0]] [(0,AObj.row 3 1 [[I job]]),(0,AObj.row 3 1 [[I state]])] 2 (U (QC1 l (fun (y:Node)=>((y.job==job)&&(y.state==state))))) [(0,AObj.row 3 1 [[I job]]),(0,AObj.row 3 1 [[I state]])]:=by
  have hR:QC1 l (fun (y:Node)=>((y.job==job)&&(y.state==state)))=QC1 l (fun (y:Node)=>((y.job==job)&&(y.state==state))):=rfl;refine mo (kp 10 [12,13,14,15,16,22]) Tryz.func53 ?_;refine us (QE2 l szA _) ?_;refine ai (fun h1=>?_) (fun h2=>?_)
  ·refine Qp0 (fun r:Int=>U r) (fun r:Int=>[(0,AObj.row 3 1 [[I job]]),(0,AObj.row 3 1 [[I state]])]) (leaf:=0) (foll hR (ct h1 rfl)) ?_;exact tt [0,1] (tO rfl (ts (l1 LowL.nil)) (tO rfl (ts (l1 LowL.nil)) .nil)) t1
  ·refine Qq0 (fun (out:List Int) (i:Nat)=>Qi1 (QS3 (fun (y:Node)=>((y.job==job)&&(y.state==state))) (List.drop i l) out i)=QC1 l (fun (y:Node)=>((y.job==job)&&(y.state==state)))∧i<=l.length∧out.length<=i) (fun out i=>l.length - i) (fun out i=>[(1,AVal.fn (.func 65) [] [AVal.ptr 0 0 1 0 0,AVal.ptr 1 0 1 0 0]),(4,U 0),(5,AVal.own 2 0 1 0 out.length),(13,nodeL l),(14,I (l.length:Int)),(15,I (i:Int))]) (fun out i=>[(0,AObj.row 3 1 [[I job]]),(0,AObj.row 3 1 [[I state]]),(0,AObj.row 3 1 (out.map (fun q_=>[I q_])))]) [] 0 ((Qo1 3 1).trans (wk [0,1,2] (tO rfl (ts (l1 LowL.nil)) (tO rfl (ts (l1 LowL.nil)) (tO rfl (tl eqA) .nil))) (sv (Qu0 .nil (cv (Q00 0 rfl rfl) (cv (Q00 1 rfl rfl) .nil))) (s1 (sv (Q51 2 rfl) (sl lw (s1 (s1 .nil)))))))) ⟨foll hR (cf h2 rfl),by exact omA,by exact exA⟩ ?_;clear hR;rintro out i ⟨hR,hj,hx⟩;(try dsimp only at hR hj hx);refine ai (fun h3=>?_) (fun h4=>?_)
   ·have hlt:=ltA h3;rw [Qi0 Node.zero hlt] at hR;refine ai gkA ?_;refine us (mv [0,1] (cl1 (l.getD i Node.zero)) (dO (ds (l1 LowL.nil)) (dO (ds (l1 LowL.nil)) .nil)) (dl (Node.low _ _) (dp (dp .nil))) (rO (re (l1 LowL.nil)) (rO (re (l1 LowL.nil)) .nil)) rx) ?_;refine ai (fun h5=>?_) (fun h6=>?_)
    ·refine Or.inl ?_;(first|refine ⟨Qp1 8 rfl lnA apA,?_⟩|refine ⟨QN0 8 rfl apA,?_⟩);exact Qd0 (out++([(i:Int)]:List Int)) (i+1) (wk [0,1,2] (tO rfl (ts (l1 LowL.nil)) (tO rfl (ts (l1 LowL.nil)) (tO rfl (tl eqA) .nil))) (sv (Qu0 .nil (cv (Q00 0 rfl rfl) (cv (Q00 1 rfl rfl) .nil))) (s1 (sv (to 2 lnA) (sl lw (s1 (sv (Qa0 (I_eq (wr omA)) lx) .nil))))))) omA ⟨foll hR (congrArg (fun p:(List Int)=>Qi1 p) (ct h5 rfl)),by exact omA,by exact exA⟩
    ·exact Qd0 out (i+1) (wk [0,1,2] (tO rfl (ts (l1 LowL.nil)) (tO rfl (ts (l1 LowL.nil)) (tO rfl (tl eqA) .nil))) (sv (Qu0 .nil (cv (Q00 0 rfl rfl) (cv (Q00 1 rfl rfl) .nil))) (s1 (sv (to 2 lnA) (sl lw (s1 (sv (Qa0 (I_eq (wr omA)) lx) .nil))))))) omA ⟨foll hR (congrArg (fun p:(List Int)=>Qi1 p) (cf h6 rfl)),by exact omA,by exact exA⟩
   ·rw [Ql0 (l:=l) (j:=i) (geA h4)] at hR;replace hR:Qi1 out=QC1 l (fun (y:Node)=>((y.job==job)&&(y.state==state))):=fo2 (fun p:(List Int)=>Qi1 p) (out) hR rfl;refine us (AGives.lent (Q77 out szA []) (ev (Qn0 _ _ rfl eqA lnA) .nil) (.cons lw .nil) (QA5 rfl)) ?_;refine Qp0 (fun r:Int=>U r) (fun r:Int=>[(0,AObj.row 3 1 [[I job]]),(0,AObj.row 3 1 [[I state]])]) (leaf:=(QF4 out).1) (foll hR rfl) ?_;exact tt [0,1] (tO rfl (ts (l1 LowL.nil)) (tO rfl (ts (l1 LowL.nil)) .nil)) t1
 refine us (mv [0,1] (hof1) (dO (ds (l1 LowL.nil)) (dO (ds (l1 LowL.nil)) .nil)) (dl lw (dv (dn_fn .nil (dp (dp .nil))) .nil)) (rO (re (l1 LowL.nil)) (rO (re (l1 LowL.nil)) .nil)) rx) ?_;obtain rfl:=foll hR rfl;exact Q10 lx sr
def QK2 (l:List Usage) (user:ByteArray):Int:=(Qq3 l (fun (y:Usage)=>(bif (!(ByteArray.toList y.user==ByteArray.toList user)) then 0 else y.share)))
theorem QB9 (l:List Usage) (user:ByteArray) (hs0:l.length<=4294967296∧(∀ y ∈ l,y.sz)) (hs1:user.size<=4294967296):GV 172 [Qt1 l,Sg user] (I (QK2 l user)):=by
 generalize hR:QK2 l user=R;refine ga (.cons lw (l1 .nil)) lx (kp 5 []) Tryz.func172 ?_;obtain ⟨z11,z12⟩:=id hs0;have hk1:=hs1;obtain z13:user.size<=4294967296:=hs1;have cl1:∀ (y1:Usage) (hzy1:y1.sz),AMoves Tryz.prog 219 [Usage.a y1,AVal.ptr 0 0 1 0 0] [(0,AObj.row 9 1 [[Sg user]])] 1 (I ((fun (y:Usage)=>(bif (!(ByteArray.toList y.user==ByteArray.toList user)) then 0 else y.share)) y1)) [(0,AObj.row 9 1 [[Sg user]])]:=by
  intro y1 hzy1;have hky1:=hzy1;obtain ⟨z1,z2⟩:=Usage.zz hzy1;have hR:(fun (y:Usage)=>(bif (!(ByteArray.toList y.user==ByteArray.toList user)) then 0 else y.share)) y1=(fun (y:Usage)=>(bif (!(ByteArray.toList y.user==ByteArray.toList user)) then 0 else y.share)) y1:=rfl;refine mo (kp 4 [7]) Tryz.func219 ?_;refine ai (fun h3=>?_) (fun h4=>?_)
  ·refine Qp0 (fun r:Int=>I r) (fun _=>[(0,AObj.row 9 1 [[Sg user]])]) (leaf:=0) (foll hR (ct h3 rfl)) ?_;exact tt [0] (tO rfl (ts (l1 LowL.nil)) .nil) t1
  ·refine Qp0 (fun r:Int=>I r) (fun _=>[(0,AObj.row 9 1 [[Sg user]])]) (leaf:=y1.share) (foll hR (cf h4 rfl)) ?_;exact tt [0] (tO rfl (ts (l1 LowL.nil)) .nil) t1
 have hof1:AMoves Tryz.prog 218 [Qt1 l,AVal.fn (.func 219) [] [AVal.ptr 0 0 1 0 0]] [(0,AObj.row 9 1 [[Sg user]])] 1 (I (Qq3 l (fun (y:Usage)=>(bif (!(ByteArray.toList y.user==ByteArray.toList user)) then 0 else y.share)))) [(0,AObj.row 9 1 [[Sg user]])]:=by
  have hR:Qq3 l (fun (y:Usage)=>(bif (!(ByteArray.toList y.user==ByteArray.toList user)) then 0 else y.share))=Qq3 l (fun (y:Usage)=>(bif (!(ByteArray.toList y.user==ByteArray.toList user)) then 0 else y.share)):=rfl;refine mo (kp 8 [10,11,12,13,14]) Tryz.func218 ?_;refine us (QA9 l szA _) ?_;refine ai (fun h5=>?_) (fun h6=>?_)
  ·refine Qp0 (fun r:Int=>I r) (fun r:Int=>[(0,AObj.row 9 1 [[Sg user]])]) (leaf:=0) (foll hR (ct h5 rfl)) ?_;exact tt [0] (tO rfl (ts (l1 LowL.nil)) .nil) t1
  ·refine Qq0 (fun (n:Int) (i:Nat)=>Q23 (Qo5 (fun (y:Usage)=>(bif (!(ByteArray.toList y.user==ByteArray.toList user)) then 0 else y.share)) (List.drop i l) n i)=Qq3 l (fun (y:Usage)=>(bif (!(ByteArray.toList y.user==ByteArray.toList user)) then 0 else y.share))∧i<=l.length) (fun n i=>l.length - i) (fun n i=>[(1,AVal.fn (.func 219) [] [AVal.ptr 0 0 1 0 0]),(4,I 0),(5,I n),(11,Qt1 l),(12,I (l.length:Int)),(13,I (i:Int))]) (fun n i=>[(0,AObj.row 9 1 [[Sg user]])]) 0 0 (wk [0] (tO rfl (ts (l1 LowL.nil)) .nil) (sv (Qu0 .nil (cv (Q00 0 rfl rfl) .nil)) (s1 (s1 (sl lw (s1 (s1 .nil))))))) ⟨foll hR (cf h6 rfl),by exact omA⟩ ?_;clear hR;rintro n i ⟨hR,hj⟩;(try dsimp only at hR hj);refine ai (fun h7=>?_) (fun h8=>?_)
   ·have hlt:=ltA h7;rw [Qi0 Usage.zero hlt] at hR;have hxz:(l.getD i Usage.zero).sz:=Qw1 (by first|assumption|grind) (Usage.szz _);have hkz:=hxz;obtain ⟨z9,z10⟩:=Usage.zz hxz;refine ai gkA ?_;refine us (mv [0] (cl1 (l.getD i Usage.zero) szA) (dO (ds (l1 LowL.nil)) .nil) (dl (Usage.low _ _) (dp .nil)) (rO (re (l1 LowL.nil)) .nil) rx) ?_;refine Or.inl ?_;refine us (AGives.as2 (sat_Plus_c ([n,((fun (y:Usage)=>(bif (!(ByteArray.toList y.user==ByteArray.toList user)) then 0 else y.share)) (l.getD i Usage.zero))]:List Int) szA _) (av (QW4 (c:=(fun q_=>[I q_])) (d:=0) ([n,((fun (y:Usage)=>(bif (!(ByteArray.toList y.user==ByteArray.toList user)) then 0 else y.share)) (l.getD i Usage.zero))]:List Int) rfl) .nil)) ?_;exact Qd0 (Qxc ([n,((fun (y:Usage)=>(bif (!(ByteArray.toList y.user==ByteArray.toList user)) then 0 else y.share)) (l.getD i Usage.zero))]:List Int)) (i+1) (wk [0] (tO rfl (ts (l1 LowL.nil)) .nil) (sv (Qu0 .nil (cv (Q00 0 rfl rfl) .nil)) (s1 (s1 (sl lw (s1 (sv (Qa0 (I_eq (wr omA)) lx) .nil))))))) omA ⟨foll hR (congrArg (fun p:Int=>Q23 p) rfl),by exact omA⟩
   ·rw [Ql0 (l:=l) (j:=i) (geA h8)] at hR;replace hR:Q23 n=Qq3 l (fun (y:Usage)=>(bif (!(ByteArray.toList y.user==ByteArray.toList user)) then 0 else y.share)):=fo2 (fun p:Int=>Q23 p) (n) hR rfl;refine Qp0 (fun r:Int=>I r) (fun r:Int=>[(0,AObj.row 9 1 [[Sg user]])]) (leaf:=n) (foll hR rfl) ?_;exact tt [0] (tO rfl (ts (l1 LowL.nil)) .nil) t1
 refine us (mv [0] (hof1) (dO (ds (l1 LowL.nil)) .nil) (dl lw (dv (dn_fn .nil (dp .nil)) .nil)) (rO (re (l1 LowL.nil)) .nil) rx) ?_;obtain rfl:=foll hR rfl;exact Q10 lx sr
def Q38 (l:List Node):Int:=(QC1 l (fun (y:Node)=>((y.state != 4)&&(!y.drain))))
theorem fleet_Up_c (l:List Node) (hs0:l.length<=4294967296):GV 22 [nodeL l] (U (Q38 l)):=by
 generalize hR:Q38 l=R;refine ga (.cons lw .nil) lx (kp 3 []) Tryz.func22 ?_;have hk0:=hs0;obtain z7:l.length<=4294967296:=hs0;have cl1:∀ (y1:Node),AMoves Tryz.prog 67 [Node.a y1] [] 0 (Bo ((fun (y:Node)=>((y.state != 4)&&(!y.drain))) y1)) []:=by
  intro y1;have hR:(fun (y:Node)=>((y.state != 4)&&(!y.drain))) y1=(fun (y:Node)=>((y.state != 4)&&(!y.drain))) y1:=rfl;refine mo (kp 3 []) Tryz.func67 ?_;refine Qp0 (fun r:Bool=>Bo r) (fun _=>[]) (leaf:=((y1.state != 4)&&(!y1.drain))) (foll hR rfl) ?_;exact tt [] .nil t1
 have hof1:AMoves Tryz.prog 53 [nodeL l,AVal.fn (.func 67) [] []] [] 0 (U (QC1 l (fun (y:Node)=>((y.state != 4)&&(!y.drain))))) []:=by
  have hR:QC1 l (fun (y:Node)=>((y.state != 4)&&(!y.drain)))=QC1 l (fun (y:Node)=>((y.state != 4)&&(!y.drain))):=rfl;refine mo (kp 10 [12,13,14,15,16,22]) Tryz.func53 ?_;refine us (QE2 l szA _) ?_;refine ai (fun h1=>?_) (fun h2=>?_)
  ·refine Qp0 (fun r:Int=>U r) (fun r:Int=>[]) (leaf:=0) (foll hR (ct h1 rfl)) ?_;exact tt [] .nil t1
  ·refine Qq0 (fun (out:List Int) (i:Nat)=>Qi1 (QS3 (fun (y:Node)=>((y.state != 4)&&(!y.drain))) (List.drop i l) out i)=QC1 l (fun (y:Node)=>((y.state != 4)&&(!y.drain)))∧i<=l.length∧out.length<=i) (fun out i=>l.length - i) (fun out i=>[(1,AVal.fn (.func 67) [] []),(4,U 0),(5,AVal.own 0 0 1 0 out.length),(13,nodeL l),(14,I (l.length:Int)),(15,I (i:Int))]) (fun out i=>[(0,AObj.row 3 1 (out.map (fun q_=>[I q_])))]) [] 0 ((Qo1 3 1).trans (wk [0] (tO rfl (tl eqA) .nil) (sv (Q20 (Low.fn _ _ _ LowL.nil LowL.nil)) (s1 (sv (Q51 0 rfl) (sl lw (s1 (s1 .nil)))))))) ⟨foll hR (cf h2 rfl),by exact omA,by exact exA⟩ ?_;clear hR;rintro out i ⟨hR,hj,hx⟩;(try dsimp only at hR hj hx);refine ai (fun h3=>?_) (fun h4=>?_)
   ·have hlt:=ltA h3;rw [Qi0 Node.zero hlt] at hR;refine ai gkA ?_;refine us (mv [] (cl1 (l.getD i Node.zero)) .nil (dl (Node.low _ _) .nil) .nil rx) ?_;refine ai (fun h5=>?_) (fun h6=>?_)
    ·refine Or.inl ?_;(first|refine ⟨Qp1 8 rfl lnA apA,?_⟩|refine ⟨QN0 8 rfl apA,?_⟩);exact Qd0 (out++([(i:Int)]:List Int)) (i+1) (wk [0] (tO rfl (tl eqA) .nil) (sv (Q20 (Low.fn _ _ _ LowL.nil LowL.nil)) (s1 (sv (to 0 lnA) (sl lw (s1 (sv (Qa0 (I_eq (wr omA)) lx) .nil))))))) omA ⟨foll hR (congrArg (fun p:(List Int)=>Qi1 p) (ct h5 rfl)),by exact omA,by exact exA⟩
    ·exact Qd0 out (i+1) (wk [0] (tO rfl (tl eqA) .nil) (sv (Q20 (Low.fn _ _ _ LowL.nil LowL.nil)) (s1 (sv (to 0 lnA) (sl lw (s1 (sv (Qa0 (I_eq (wr omA)) lx) .nil))))))) omA ⟨foll hR (congrArg (fun p:(List Int)=>Qi1 p) (cf h6 rfl)),by exact omA,by exact exA⟩
   ·rw [Ql0 (l:=l) (j:=i) (geA h4)] at hR;replace hR:Qi1 out=QC1 l (fun (y:Node)=>((y.state != 4)&&(!y.drain))):=fo2 (fun p:(List Int)=>Qi1 p) (out) hR rfl;refine us (AGives.lent (Q77 out szA []) (ev (Qn0 _ _ rfl eqA lnA) .nil) (.cons lw .nil) (QA5 rfl)) ?_;refine Qp0 (fun r:Int=>U r) (fun r:Int=>[]) (leaf:=(QF4 out).1) (foll hR rfl) ?_;exact tt [] .nil t1
 refine us (mv [] (hof1) .nil (dl lw (dv (QK3 (Low.fn _ _ _ LowL.nil LowL.nil)) .nil)) .nil rx) ?_;obtain rfl:=foll hR rfl;exact Q10 lx sr
def QR3 (l:List Node):Int:=(QC1 l (fun (y:Node)=>((y.state==0)&&(!y.drain))))
theorem fleet_Free_c (l:List Node) (hs0:l.length<=4294967296):GV 14 [nodeL l] (U (QR3 l)):=by
 generalize hR:QR3 l=R;refine ga (.cons lw .nil) lx (kp 3 []) Tryz.func14 ?_;have hk0:=hs0;obtain z7:l.length<=4294967296:=hs0;have cl1:∀ (y1:Node),AMoves Tryz.prog 54 [Node.a y1] [] 0 (Bo ((fun (y:Node)=>((y.state==0)&&(!y.drain))) y1)) []:=by
  intro y1;have hR:(fun (y:Node)=>((y.state==0)&&(!y.drain))) y1=(fun (y:Node)=>((y.state==0)&&(!y.drain))) y1:=rfl;refine mo (kp 3 []) Tryz.func54 ?_;refine Qp0 (fun r:Bool=>Bo r) (fun _=>[]) (leaf:=((y1.state==0)&&(!y1.drain))) (foll hR rfl) ?_;exact tt [] .nil t1
 have hof1:AMoves Tryz.prog 53 [nodeL l,AVal.fn (.func 54) [] []] [] 0 (U (QC1 l (fun (y:Node)=>((y.state==0)&&(!y.drain))))) []:=by
  have hR:QC1 l (fun (y:Node)=>((y.state==0)&&(!y.drain)))=QC1 l (fun (y:Node)=>((y.state==0)&&(!y.drain))):=rfl;refine mo (kp 10 [12,13,14,15,16,22]) Tryz.func53 ?_;refine us (QE2 l szA _) ?_;refine ai (fun h1=>?_) (fun h2=>?_)
  ·refine Qp0 (fun r:Int=>U r) (fun r:Int=>[]) (leaf:=0) (foll hR (ct h1 rfl)) ?_;exact tt [] .nil t1
  ·refine Qq0 (fun (out:List Int) (i:Nat)=>Qi1 (QS3 (fun (y:Node)=>((y.state==0)&&(!y.drain))) (List.drop i l) out i)=QC1 l (fun (y:Node)=>((y.state==0)&&(!y.drain)))∧i<=l.length∧out.length<=i) (fun out i=>l.length - i) (fun out i=>[(1,AVal.fn (.func 54) [] []),(4,U 0),(5,AVal.own 0 0 1 0 out.length),(13,nodeL l),(14,I (l.length:Int)),(15,I (i:Int))]) (fun out i=>[(0,AObj.row 3 1 (out.map (fun q_=>[I q_])))]) [] 0 ((Qo1 3 1).trans (wk [0] (tO rfl (tl eqA) .nil) (sv (Q20 (Low.fn _ _ _ LowL.nil LowL.nil)) (s1 (sv (Q51 0 rfl) (sl lw (s1 (s1 .nil)))))))) ⟨foll hR (cf h2 rfl),by exact omA,by exact exA⟩ ?_;clear hR;rintro out i ⟨hR,hj,hx⟩;(try dsimp only at hR hj hx);refine ai (fun h3=>?_) (fun h4=>?_)
   ·have hlt:=ltA h3;rw [Qi0 Node.zero hlt] at hR;refine ai gkA ?_;refine us (mv [] (cl1 (l.getD i Node.zero)) .nil (dl (Node.low _ _) .nil) .nil rx) ?_;refine ai (fun h5=>?_) (fun h6=>?_)
    ·refine Or.inl ?_;(first|refine ⟨Qp1 8 rfl lnA apA,?_⟩|refine ⟨QN0 8 rfl apA,?_⟩);exact Qd0 (out++([(i:Int)]:List Int)) (i+1) (wk [0] (tO rfl (tl eqA) .nil) (sv (Q20 (Low.fn _ _ _ LowL.nil LowL.nil)) (s1 (sv (to 0 lnA) (sl lw (s1 (sv (Qa0 (I_eq (wr omA)) lx) .nil))))))) omA ⟨foll hR (congrArg (fun p:(List Int)=>Qi1 p) (ct h5 rfl)),by exact omA,by exact exA⟩
    ·exact Qd0 out (i+1) (wk [0] (tO rfl (tl eqA) .nil) (sv (Q20 (Low.fn _ _ _ LowL.nil LowL.nil)) (s1 (sv (to 0 lnA) (sl lw (s1 (sv (Qa0 (I_eq (wr omA)) lx) .nil))))))) omA ⟨foll hR (congrArg (fun p:(List Int)=>Qi1 p) (cf h6 rfl)),by exact omA,by exact exA⟩
   ·rw [Ql0 (l:=l) (j:=i) (geA h4)] at hR;replace hR:Qi1 out=QC1 l (fun (y:Node)=>((y.state==0)&&(!y.drain))):=fo2 (fun p:(List Int)=>Qi1 p) (out) hR rfl;refine us (AGives.lent (Q77 out szA []) (ev (Qn0 _ _ rfl eqA lnA) .nil) (.cons lw .nil) (QA5 rfl)) ?_;refine Qp0 (fun r:Int=>U r) (fun r:Int=>[]) (leaf:=(QF4 out).1) (foll hR rfl) ?_;exact tt [] .nil t1
 refine us (mv [] (hof1) .nil (dl lw (dv (QK3 (Low.fn _ _ _ LowL.nil LowL.nil)) .nil)) .nil rx) ?_;obtain rfl:=foll hR rfl;exact Q10 lx sr
def Q93 (l:List Node):List Int->List Note->Nat->(List Note)
 | [],out,_=>out
 | x_ :: r,out,i=>bif (Q65 l x_).2 then Q93 l r (out++([(Q65 l x_).1]:List Note)) (i+1) else Q93 l r out (i+1)
def Qa3 (out:List Note):(List Note):=out
def QR7 (l:List Node) (nodes:List Int):(List Note):=Qa3 (Q93 l nodes [] 0)
theorem alloc_Notes_c (l:List Node) (nodes:List Int) (hs0:l.length<=4294967296) (hs1:nodes.length<=4294967296):GV 179 [nodeL l,ints nodes] (noteL (QR7 l nodes)):=by
 generalize hR:QR7 l nodes=R;refine ga (.cons lw (.cons lw .nil)) lw (kp 10 [10,11,12,13,22]) Tryz.func179 ?_;have hk0:=hs0;obtain z5:l.length<=4294967296:=hs0;have hk1:=hs1;obtain z6:nodes.length<=4294967296:=hs1;refine Qq0 (fun (out:List Note) (i:Nat)=>Qa3 (Q93 l (List.drop i nodes) out i)=R∧i<=nodes.length∧out.length<=i) (fun out i=>nodes.length - i) (fun out i=>[(0,nodeL l),(4,AVal.lit (.slice none 0 0)),(5,AVal.own 0 0 4 0 out.length),(10,ints nodes),(11,I (nodes.length:Int)),(12,I (i:Int))]) (fun out i=>[(0,AObj.row 38 4 (out.map Note.cells))]) [] 0 ((Qo1 38 4).trans (wk [0] (tO rfl (tl eqA) .nil) (sl lw (s1 (sv (Q51 0 rfl) (sl lw (s1 (s1 .nil)))))))) ⟨foll hR rfl,by exact omA,by exact exA⟩ ?_;clear hR;rintro out i ⟨hR,hj,hx⟩;(try dsimp only at hR hj hx);refine ai (fun h1=>?_) (fun h2=>?_)
 ·have hlt:=ltA h1;rw [Qi0 0 hlt] at hR;refine ai gkA ?_;refine us (fleet_Note_c l (nodes.getD i 0) szA _) ?_;refine ai (fun h3=>?_) (fun h4=>?_)
  ·refine Or.inl ?_;(first|refine ⟨Qp1 32 rfl lnA apA,?_⟩|refine ⟨QN0 32 rfl apA,?_⟩);exact Qd0 (out++([(Q65 l (nodes.getD i 0)).1]:List Note)) (i+1) (wk [0] (tO rfl (tl eqA) .nil) (sl lw (s1 (sv (to 0 lnA) (sl lw (s1 (sv (Qa0 (I_eq (wr omA)) lx) .nil))))))) omA ⟨foll hR (congrArg (fun p:(List Note)=>Qa3 p) (ct h3 rfl)),by exact omA,by exact exA⟩
  ·exact Qd0 out (i+1) (wk [0] (tO rfl (tl eqA) .nil) (sl lw (s1 (sv (to 0 lnA) (sl lw (s1 (sv (Qa0 (I_eq (wr omA)) lx) .nil))))))) omA ⟨foll hR (congrArg (fun p:(List Note)=>Qa3 p) (cf h4 rfl)),by exact omA,by exact exA⟩
 ·rw [Ql0 (l:=nodes) (j:=i) (geA h2)] at hR;replace hR:Qa3 out=R:=fo2 (fun p:(List Note)=>Qa3 p) (out) hR rfl;obtain rfl:=foll hR rfl;exact Q10 lw (Qn0 Note.zero _ rfl eqA lnA)
end Go.Proofs.YtldebhdmhpopaaaGreatDoor
