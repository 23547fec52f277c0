/-
  What the last text of this claim leans on: an evaluator over the code, contracts of functions, plain laws. Conditions stand in each statement.
-/
import Derived.Test.YtackngeeehiegaaGreatDoorRD7
import Derived.Test.YtackngeeehiegaaGreatDoorProg
import Derived.Test.YtackngeeehiegaaGreatDoorRD8
namespace Go.Proofs.YtackngeeehiegaaGreatDoor
set_option linter.unusedSimpArgs false
set_option linter.unusedVariables false
open Go.Fw
set_option maxRecDepth 20000
set_option maxHeartbeats 4000000
attribute [local irreducible] ACalls AMoves
def Qu5 (x_:Node):Bool:=bif ((((((decide (x_.epoch<0))||(decide (x_.epoch > 999999999)))||(decide (x_.since<0)))||(decide (x_.since > 1000000)))||(decide (x_.asked<0)))||(decide (x_.asked > 1000000))) then false else bif ((x_.state==0)||(x_.state==4)) then ((x_.job==0)&&((x_.want==0)||((x_.state==4)&&(x_.want==6)))) else bif ((decide (x_.job<1))||(decide (x_.job > 99999))) then false else bif (x_.state==1) then ((((x_.want==0)||(x_.want==1))||(x_.want==3))||(x_.want==4)) else bif (x_.state==2) then ((x_.want==0)||(x_.want==2)) else bif (x_.state==3) then (x_.want==5) else false
def QA1 (n:Int):Bool:=((decide (n >= 0))&&(decide (n<=1000000)))
def Qz1 (n:Int):Bool:=((decide (n >= 1))&&(decide (n<=48)))
def Qw2 (n:Int):Bool:=((decide (n >= 1))&&(decide (n<=100000)))
def Qj4 (b:List Alt):List Alt->Nat->Bool
 | [],_=>true
 | x_ :: r,i=>bif ((x_.nodes != (b.getD i zA).nodes)||(x_.wall != (b.getD i zA).wall)) then false else Qj4 b r (i+1)
def Q67 (a:List Alt) (b:List Alt):Bool:=bif ((a.length:Int)!=(b.length:Int)) then false else Qj4 b a 0
theorem Qze (a:List Alt) (b:List Alt) (hs0:a.length<=4294967296) (hs1:b.length<=4294967296):GV 223 [altL a,altL b] (Bo (Q67 a b)):=by
 generalize hR:Q67 a b=R;refine gA (kp 6 [10,14,40]) Tryz.func223 ?_;have hk0:=hs0;obtain z7:a.length<=4294967296:=hs0;have hk1:=hs1;obtain z8:b.length<=4294967296:=hs1;refine ai (fun h1=>?_) (fun h2=>?_)
 ·exact lfA
 ·refine Qx0 (fun (i:Nat)=>Qj4 b (List.drop i a) i=R∧i<=a.length) (fun i=>a.length - i) (fun i=>[(0,altL a),(1,altL b),(4,Bo false),(5,I (i:Int))]) (fun i=>[]) 0 (wkA []) ⟨folA,by exact omA⟩ ?_;clear hR;rintro i ⟨hR,hj⟩;(try dsimp only at hR hj);refine ai (fun h3=>?_) (fun h4=>?_)
  ·have hlt:=ltA h3;rw [Qq0 zA hlt] at hR;refine dchk (by kernel_rfl) ?_;refine ai gkA ?_;refine ai gkA ?_;refine ai gkA ?_;refine ai gkA ?_;(repeat ((first|refine ai rfl ?_|refine ai (fun _=>rfl) ?_)));refine ai (fun h5=>?_) (fun h6=>?_)
   ·exact lfA
   ·exact QD0 (i+1) (wkA []) omA ⟨folA,by exact omA⟩
  ·rw [Qv0 (l:=a) (j:=i) (geA h4)] at hR;exact lfA
def Qo0 (r_:Int):Int:=bif ((r_==9)||(r_==32)) then 1 else bif (((decide (r_<32))||(r_==65533))||(decide (r_ > 1114111))) then 0 else bif (((decide (r_ > 126))&&(decide (r_<161)))||((decide (r_ > 55295))&&(decide (r_<57344)))) then 0 else bif ((decide (r_ > 47))&&(decide (r_<58))) then 3 else bif (((decide (r_ > 160))||((decide (r_ > 64))&&(decide (r_<91))))||((decide (r_ > 96))&&(decide (r_<123)))) then 2 else 4
def QZ3 :List (Nat × Int)->List Int->(List Int)
 | [],out=>out
 | x_ :: r,out=>QZ3 r (out++([x_.2]:List Int))
def QG8 (out:List Int):(List Int):=out
def QM1 (s:ByteArray):(List Int):=QG8 (QZ3 (Qb7 s) [])
theorem Qr8:∀ (l:List (Nat × Int)) (out:List Int),(QZ3 l out).length=out.length+l.length
 | [],out=>rfl
 | x :: r,out=>by
  rw [QZ3,Qr8 r];simp;omega
theorem Qle (s:ByteArray):∀ m pos,(Q05 s m pos).length<=m
 | 0,_=>by simp [Q05]
 | m+1,pos=>by
  cases h:decide (pos<s.size) with
  | false=>rw [Qt7 h];simp
  | true=>rw [QE4 h];have:=Qle s m (pos+(Utf8.decode s pos).2);simp;omega
theorem QYf (s:ByteArray):(QM1 s).length<=s.size:=by
 unfold QM1 QG8;rw [Qr8];have:=Qle s s.size 0;simp only [Qb7,yVa];omega
def ref05_small (r_:Int):Bool:=(((decide (r_ >= 48))&&(decide (r_<=57)))||((decide (r_ >= 97))&&(decide (r_<=122))))
def QO4 (s:ByteArray):Nat->List Int->Nat->(List Int) × Nat
 | 0,_,_=>([],0)
 | m+1,out,i=>bif (decide ((i:Int)<(ByteArray.size s:Int))) then bif ((decide (((s.data.toList.getD i 0).toNat:Int) > 64))&&(decide (((s.data.toList.getD i 0).toNat:Int)<91))) then QO4 s m (out++([(wu8 (((s.data.toList.getD i 0).toNat:Int)+32))]:List Int)) (i+1) else QO4 s m (out++([((s.data.toList.getD i 0).toNat:Int)]:List Int)) (i+1) else (out,i)
def Qfb (out:List Int) (i:Nat):ByteArray:=(Qa3 out)
def QE3 (s:ByteArray):ByteArray:=Qfb ((QO4 s ((Int.toNat ((ByteArray.size s:Int) - (0:Int)))+1) [] 0).1) ((QO4 s ((Int.toNat ((ByteArray.size s:Int) - (0:Int)))+1) [] 0).2)
def Qgb :List Int->Nat->Bool
 | [],_=>false
 | x_ :: r,i=>bif (decide (x_ >= 97)) then true else Qgb r (i+1)
def ref05_plain (l:List Int):Bool:=Qgb l 0
def Qta :List Int->Int->Nat->Int
 | [],n,_=>n
 | x_ :: r,n,i=>bif ((decide (x_<48))||(decide (x_ > 57))) then (-1) else Qta r (w64 ((w64 (10*n))+(w64 (w32 (x_ - 48))))) (i+1)
def Q6e (l:List Int):Int:=bif ((((l.length:Int)==0)||(decide ((l.length:Int) > 9)))||((decide ((l.length:Int) > 1))&&((l.getD 0 0)==48))) then (-1) else Qta l 0 0
def Qr2 (n:Int) (from_:Int) (to_:Int):Bool:=((decide (n >= from_))&&(decide (n<=to_)))
def QY1 :Nat->Int->List Int->Nat->Int × (List Int) × Nat
 | 0,_,_,_=>(0,[],0)
 | m+1,s2,out,n=>bif (decide (s2 > 0)) then bif ((Int.tmod s2 2)==1) then QY1 m (wu64 (Int.tdiv s2 2)) (out++([(n:Int)]:List Int)) (n+1) else QY1 m (wu64 (Int.tdiv s2 2)) out (n+1) else (s2,out,n)
def QD9 (s2:Int) (out:List Int) (n:Nat):(List Int):=out
def Qy0 (s:Int):(List Int):=QD9 ((QY1 ((Int.toNat s)+1) s [] 0).1) ((QY1 ((Int.toNat s)+1) s [] 0).2.1) ((QY1 ((Int.toNat s)+1) s [] 0).2.2)
def Q6g (set_:Int):Bool:=(decide (set_<281474976710656))
def Q5g (state:Int):Bool:=((decide (state >= 3))&&(decide (state<=7)))
def QR4 :List Book->Int->Nat->Int
 | [],_,_=>0
 | x_ :: r,last,i=>bif (((((((((i:Int)==8)||(decide (x_.id<=last)))||(decide (x_.id > 99999)))||(decide (x_.from_<0)))||(decide (x_.to<=x_.from_)))||(decide (x_.to > 1000000)))||(decide (x_.nodes<1)))||(decide (x_.nodes > 48))) then 190 else QR4 r x_.id (i+1)
def Qg8 (l:List Book):Int:=QR4 l 0 0
def Qk4 (s:ByteArray):Bool:=((decide ((ByteArray.size s:Int) > 0))&&(decide ((ByteArray.size s:Int)<65)))
def QG9 (a:Usage) (b:Usage):Bool:=((Op.bytesLess (ByteArray.toList a.user) (ByteArray.toList b.user))||((ByteArray.toList a.user==ByteArray.toList b.user)&&(Op.bytesLess (ByteArray.toList a.account) (ByteArray.toList b.account))))
def Q08 (n:Int) (last:Int):Bool:=(((decide (n > 0))&&(decide (n<100001)))&&(decide (n > last)))
def QF3 (id_:Int):List Job->Nat->Int
 | [],_=>(-1)
 | x_ :: r,i=>bif (x_.id==id_) then (i:Int) else QF3 id_ r (i+1)
def Qv1 (l:List Job) (id_:Int):Int:=QF3 id_ l 0
def Qp7 (n:Int):Nat->Int->Nat->Int × Nat
 | 0,_,_=>(0,0)
 | m+1,out,i=>bif (decide ((i:Int)<n)) then Qp7 n m (wu64 (out*2)) (i+1) else (out,i)
def Q7e (out:Int) (i:Nat):Int:=out
def QHc (n:Int):Int:=Q7e ((Qp7 n ((Int.toNat (n - (0:Int)))+1) 1 0).1) ((Qp7 n ((Int.toNat (n - (0:Int)))+1) 1 0).2)
def QL2 (id_:Int):List Resize->Nat->Resize
 | [],_=>zH
 | x_ :: r,i=>bif (x_.job==id_) then x_ else QL2 id_ r (i+1)
def QT5 (s:State) (id_:Int):Resize:=QL2 id_ s.resizes 0
def Qq7 (n:Int):Nat->Int->Nat->Int × Nat
 | 0,_,_=>(0,0)
 | m+1,out,i=>bif (decide ((i:Int)<n)) then Qq7 n m (wu64 (2*out)) (i+1) else (out,i)
def Qbe (out:Int) (i:Nat):Int:=out
def Q3g (n:Int):Int:=Qbe ((Qq7 n ((Int.toNat (n - (0:Int)))+1) 1 0).1) ((Qq7 n ((Int.toNat (n - (0:Int)))+1) 1 0).2)
def Q14 (p_:List Step):List Step->Nat->Int
 | [],_=>0
 | x_ :: r,i=>bif (((decide (x_.free<(-1000000)))||(decide (x_.free > 1000000)))||(decide (x_.at_ > 1000000))) then 100 else bif ((decide ((i:Int) > 0))&&((decide (x_.at_<=(p_.getD (Int.toNat (w64 ((i:Int) - 1))) zE).at_))||(x_.free==(p_.getD (Int.toNat (w64 ((i:Int) - 1))) zE).free))) then 100 else Q14 p_ r (i+1)
def Qk1 (p_:List Step):Int:=bif (((decide ((p_.length:Int)<1))||(decide ((p_.length:Int) > 1000)))||((p_.getD 0 zE).at_ != 0)) then 100 else Q14 p_ p_ 0
def Qk6 (t:Int):List Step->Int->Nat->Int × Nat
 | [],out,i=>(out,i)
 | x_ :: r,out,i=>bif (decide (x_.at_<=t)) then Qk6 t r x_.free (i+1) else Qk6 t r out (i+1)
def ref10_Now_k1 (out:Int) (i:Nat):Int:=out
def Qf8 (p_:List Step) (t:Int):Int:=ref10_Now_k1 ((Qk6 t p_ 0 0).1) ((Qk6 t p_ 0 0).2)
def Qp3 (l:List Int) (n:Int):Nat->Nat->Nat
 | 0,_=>0
 | m+1,i=>bif ((decide ((i:Int)<(l.length:Int)))&&(decide ((l.getD i 0)<n))) then Qp3 l n m (i+1) else i
def Qwa (l:List Int) (n:Int) (i:Nat):(List Int):=bif ((decide ((i:Int)<(l.length:Int)))&&((l.getD i 0)==n)) then l else (((List.take i l)++([n]:List Int))++(List.drop i l))
def Q85 (l:List Int) (n:Int):(List Int):=Qwa l n (Qp3 l n ((Int.toNat ((l.length:Int) - (0:Int)))+1) 0)
theorem QIc (l:List Int) (n:Int):(Q85 l n).length<=l.length+1:=by
 unfold Q85 Qwa;generalize Qp3 l n _ 0=i;cases ((decide ((i:Int)<(l.length:Int)))&&((l.getD i 0)==n)) with
 | true=>simp
 | false =>
  simp only [cond_false,yta,yra,yva,yka,yVa];omega
def QE9 (n1:Int):(List Step):=bif (decide (n1 > 1000000)) then ([(⟨0,1000000⟩:Step)]:List Step) else ([(⟨0,n1⟩:Step)]:List Step)
def Q69 (n:Int):(List Step):=bif (decide (n<(-1000000))) then QE9 (-1000000) else QE9 n
def Qf2 (act:Int) (now:Int) (ok:Bool) (want:Int) (c:Node):Node × Bool:=bif (((decide (want > 0))&&(act != 12))&&(act != 13)) then ({ c with want:=want,since:=now,asked:=now },ok) else ({ c with want:=want },ok)
def Qae (x_:Node) (act:Int) (now:Int) (i1:Bool):Node × Bool:=bif i1 then Qf2 act now (x_.state != 4) x_.want { x_ with drain:=(act==12) } else Qf2 act now false 0 x_
def Q9e (x_:Node) (act:Int) (job:Int) (now:Int) (i:Bool):Node × Bool:=bif i then bif (act==2) then Qf2 act now (((((x_.state==0)&&(!x_.drain))&&(decide (x_.epoch<999999999)))&&(decide (job >= 1)))&&(decide (job<=99999))) 2 { x_ with state:=2,job:=job,epoch:=(w64 (x_.epoch+1)) } else Qf2 act now (((((x_.state==0)&&(!x_.drain))&&(decide (x_.epoch<999999999)))&&(decide (job >= 1)))&&(decide (job<=99999))) 1 { x_ with state:=1,job:=job,epoch:=(w64 (x_.epoch+1)) } else bif (act==3) then Qf2 act now (x_.state==2) 3 { x_ with state:=1 } else bif (act==4) then Qf2 act now ((x_.state==1)||(x_.state==2)) 0 x_ else bif (act==5) then Qf2 act now ((x_.state==1)&&(x_.want==0)) 4 x_ else bif (act==6) then Qf2 act now ((x_.state==1)&&(x_.want==4)) 0 x_ else bif (act==7) then Qf2 act now ((x_.state==1)||(x_.state==2)) 5 { x_ with state:=3 } else bif (act==8) then Qf2 act now (x_.state==3) 0 { x_ with state:=0,job:=0 } else bif (act==9) then Qf2 act now ((x_.state != 4)&&(decide (x_.epoch<999999999))) 0 { x_ with state:=4,job:=0,epoch:=(w64 (x_.epoch+1)) } else bif (act==10) then Qf2 act now (x_.state==4) 6 x_ else bif (act==11) then Qf2 act now ((x_.state==4)&&(x_.want==6)) 0 { x_ with state:=0,drain:=false } else bif (act==12) then Qae x_ act now (act==12) else Qae x_ act now (act==13)
def Q2g (x_:Node) (act:Int) (job:Int) (now:Int):Node × Bool:=bif (act==1) then Q9e x_ act job now (act==1) else Q9e x_ act job now (act==2)
def QD1 (r_:Resize):List Resize->List Resize->Bool->Nat->(List Resize) × Bool × Nat
 | [],out,put,i=>(out,put,i)
 | x_ :: r,out,put,i=>bif ((!put)&&(decide (x_.job > r_.job))) then QD1 r_ r ((out++([r_]:List Resize))++([x_]:List Resize)) true (i+1) else QD1 r_ r (out++([x_]:List Resize)) put (i+1)
def QR7 (r_:Resize) (out:List Resize) (put:Bool) (i:Nat):(List Resize):=bif (!put) then (out++([r_]:List Resize)) else out
def Q79 (l:List Resize) (r_:Resize):(List Resize):=QR7 r_ ((QD1 r_ l [] false 0).1) ((QD1 r_ l [] false 0).2.1) ((QD1 r_ l [] false 0).2.2)
def Q4b (b:List Resize):List Resize->Nat->Bool
 | [],_=>true
 | x_ :: r,i=>bif (!((x_.job==(b.getD i zH).job)&&((x_.grow==(b.getD i zH).grow)&&((x_.nodes==(b.getD i zH).nodes)&&((x_.said==(b.getD i zH).said)&&(x_.since==(b.getD i zH).since)))))) then false else Q4b b r (i+1)
def Qs0 (f:Resize->Bool):List Resize->Nat->Int
 | [],_=>(-1)
 | x_ :: r,i=>bif (f x_) then (i:Int) else Qs0 f r (i+1)
def QM0 (s:List Resize) (f:Resize->Bool):Int:=Qs0 f s 0
theorem Qe5 (f:Resize->Bool):∀ (l:List Resize) (i:Nat),Qs0 f l i<0∨((i:Int)<=Qs0 f l i∧Qs0 f l i<(i:Int)+(l.length:Int))
 | [],i=>by left;rw [Qs0];decide
 | x :: r,i=>by
  rw [Qs0];cases (f x) with
  | true=>right;simp only [cond_true,yka];omega
  | false =>
   have:=Qe5 f r (i+1);simp only [cond_false,yka];omega
theorem Qm8 (l:List Resize) (f:Resize->Bool):QM0 l f<0∨(0<=QM0 l f∧QM0 l f<(l.length:Int)):=by
 have:=Qe5 f l 0;unfold QM0;omega
def QD4 (f:Job->Bool):List Job->Nat->Int
 | [],_=>(-1)
 | x_ :: r,i=>bif (f x_) then (i:Int) else QD4 f r (i+1)
def Qx2 (s:List Job) (f:Job->Bool):Int:=QD4 f s 0
def Q19 (j:Job):Bool:=(((((Qrc j.shape)&&(decide ((j.after.length:Int)<=100)))&&(decide ((ByteArray.size j.name:Int)<=1000)))&&(decide ((ByteArray.size j.user:Int)<=1000)))&&(decide ((ByteArray.size j.account:Int)<=1000)))
theorem law14_Few_c (j:Job):GV 84 [Job.a j] (Bo (Q19 j)):=by
 generalize hR:Q19 j=R;refine gA (kp 3 []) Tryz.func84 ?_;refine us (law07_Few_c j.shape _) ?_;exact lfA
def Q10 (s:Int):Int:=(QQ5 s)
theorem Q71 (s:Int):GV 23 [U s] (I (Q10 s)):=by
 generalize hR:Q10 s=R;refine gA (kp 3 []) Tryz.func23 ?_;refine us (Q5c s _) ?_;exact lfA
theorem Qve (s:Int):0<=Q10 s∧Q10 s<=127:=by
 have h:∀ a:BitVec 64,0<=w64 ((a &&& BitVec.ofInt 64 127).toNat:Int)∧w64 ((a &&& BitVec.ofInt 64 127).toNat:Int)<=127:=by
  intro a;have:(a &&& BitVec.ofInt 64 127).toNat<=127:=by rw [BitVec.toNat_and];exact yIb
  have e:w64 ((a &&& BitVec.ofInt 64 127).toNat:Int)=((a &&& BitVec.ofInt 64 127).toNat:Int):=wr (by omega);rw [e];omega
 exact h _
def QH0 (s:List Node) (f:Node->Bool):Bool:=(decide ((Qi2 s f) >= 0))
def QE1 (s:List Int) (v:Int):Bool:=(decide ((Qz7 s v) >= 0))
theorem Qh2 (s:List Int) (v:Int) (hs0:s.length<=4294967296):GV 93 [ints s,I v] (Bo (QE1 s v)):=by
 generalize hR:QE1 s v=R;refine gA (kp 5 []) Tryz.func93 ?_;have hk0:=hs0;obtain z1:s.length<=4294967296:=hs0;refine us (Q1d s v szA _) ?_;exact lfA
def Ql4 (n:Int):Int:=(QL5 n 0 1000000000000)
theorem QK9 (n:Int):GV 180 [I n] (I (Ql4 n)):=by
 generalize hR:Ql4 n=R;refine gA (kp 3 []) Tryz.func180 ?_;refine us (QEe n 0 1000000000000 _) ?_;exact lfA
def QV0 (s:List Alt) (f:Alt->Bool):Bool:=(decide ((Q81 s f) >= 0))
def Qid (n:Int):Bool:=(QG2 n 1 100000)
theorem cmd_length_c (n:Int):GV 265 [I n] (Bo (Qid n)):=by
 generalize hR:Qid n=R;refine gA (kp 3 []) Tryz.func265 ?_;refine us (Ql3 n 1 100000 _) ?_;exact lfA
def QK5 :List (Nat × Int)->Nat->Int × Int
 | [],n=>((n:Int),0)
 | x_ :: r,n=>bif ((Qg1 x_.2)==0) then ((n:Int),40) else QK5 r (n+1)
def Qz4 (s:ByteArray):Int × Int:=QK5 (Qb7 s) 0
theorem QRc (s:ByteArray) (hs0:s.size<=4294967296):GV 293 [Sg s] (AVal.tup [I ((Qz4 s).1),I ((Qz4 s).2)]):=by
 generalize hR:Qz4 s=R;refine gA (kp 7 [8,9,10,14]) Tryz.func293 ?_;have hk0:=hs0;obtain z5:s.size<=4294967296:=hs0;refine QP0 (fun (n:Nat) (pos:Nat)=>∃ m,ByteArray.size s - pos<=m∧QK5 (Q05 s m pos) n=R∧n<=pos) (fun n pos=>ByteArray.size s - pos) (fun n pos=>[(2,I 0),(3,I 0),(4,I (n:Int)),(8,AVal.ptr 0 0 1 0 0)]) (fun n pos=>[(0,AObj.other (.strIter s pos))]) 0 0 (wkA [0]) ⟨ByteArray.size s,by exact omA,foll hR rfl,by exact exA⟩ ?_;clear hR;rintro n pos ⟨m,hm,hR,hx⟩;(try dsimp only at hR hm hx);refine ai (fun h1=>?_) (fun h2=>?_)
 ·have hlt:=yfa h1;have hw:=QNa s pos;have hwe:=QMa s pos hlt;obtain ⟨m,rfl⟩:=sucA m;rw [QE4 h1] at hR;refine ai (fun _=>?_) (fun h=>nomatch h);refine us (QA4 ((pos,((Utf8.decode s pos).1:Int)).2) _) ?_;refine ai (fun h3=>?_) (fun h4=>?_)
  ·exact lfA
  ·exact Qr0 (n+1) (pos+(Utf8.decode s pos).2) (wkA [0]) omA ⟨m,by exact omA,foll hR (cf h4 rfl),by exact exA⟩
 ·rw [Qt7 h2] at hR;refine ai (fun h=>nomatch h) (fun _=>?_);exact lfA
def Qe0 (y:Int):List Int->Nat->Bool
 | [],_=>((false||(y==45))||(y==95))
 | x_ :: r,i=>bif ((Qg1 y)==x_) then true else Qe0 y r (i+1)
def Q52 (r_:LexReader):Token × LexReader:=((⟨1,(QX6 ((Q30 r_ (fun (y:Int)=>Qe0 y ([2,3]:List Int) 0)).1)),0,0⟩:Token),(Q30 r_ (fun (y:Int)=>Qe0 y ([2,3]:List Int) 0)).2)
theorem Qsd (r_:LexReader) (hs0:r_.sz) (hp0:0<=r_.at_∧r_.at_<=(r_.line.length:Int)∧r_.line.length<=400):AMoves Tryz.prog 316 [AVal.ptr 0 0 4 0 0] [(0,AObj.row 321 4 [[runes r_.line,I r_.at_,I r_.bad,I r_.error]])] 1 (Token.a ((Q52 r_).1)) [(0,AObj.row 321 4 [[runes ((Q52 r_).2.line),I ((Q52 r_).2.at_),I ((Q52 r_).2.bad),I ((Q52 r_).2.error)]])]:=by
 generalize hR:Q52 r_=R;refine mo (kp 5 []) Tryz.func316 ?_;have hk0:=hs0;obtain z7:r_.line.length<=4294967296:=hs0;refine Or.inl ?_;refine ACalls.of_cwp (fun _=>true) Tryz.func306 rfl rfl ?_;refine ⟨_,_,Told.refl,?_⟩;have cl1:∀ (y1:Int),AMoves Tryz.prog 330 [J y1,AVal.ptr 1 0 1 0 0] [(0,AObj.row 52 1 [[ints ([2,3]:List Int)]]),(0,AObj.row 322 1 [[AVal.fn (.func 315) [] [AVal.ptr 0 0 1 0 0]]])] 2 (Bo ((fun (y:Int)=>Qe0 y ([2,3]:List Int) 0) y1)) [(0,AObj.row 52 1 [[ints ([2,3]:List Int)]]),(0,AObj.row 322 1 [[AVal.fn (.func 315) [] [AVal.ptr 0 0 1 0 0]]])]:=by
  intro y1;have hR:(fun (y:Int)=>Qe0 y ([2,3]:List Int) 0) y1=(fun (y:Int)=>Qe0 y ([2,3]:List Int) 0) y1:=rfl;refine mo (kp 4 []) Tryz.func330 ?_;refine ACalls.of_cwp (fun _=>true) Tryz.func315 rfl rfl ?_;refine Qx0 (fun (i:Nat)=>Qe0 y1 (List.drop i ([2,3]:List Int)) i=(fun (y:Int)=>Qe0 y ([2,3]:List Int) 0) y1∧i<=([2,3]:List Int).length) (fun i=>([2,3]:List Int).length - i) (fun i=>[(0,J y1),(3,Bo false),(6,ints ([2,3]:List Int)),(7,I (([2,3]:List Int).length:Int)),(8,I (i:Int))]) (fun i=>[(0,AObj.row 52 1 [[ints ([2,3]:List Int)]]),(0,AObj.row 322 1 [[AVal.fn (.func 315) [] [AVal.ptr 0 0 1 0 0]]])]) 0 (wkA [0,1]) ⟨foll hR rfl,by exact omA⟩ ?_;clear hR;rintro i ⟨hR,hj⟩;(try dsimp only at hR hj);refine ai (fun h1=>?_) (fun h2=>?_)
  ·(have hlt:i<([2,3]:List Int).length:=by have:=yfa h1;omega);rw [Qq0 0 hlt] at hR;refine ai gkA ?_;refine us (QA4 y1 _) ?_;refine ai (fun h3=>?_) (fun h4=>?_)
   ·refine ⟨_,_,Told.refl,?_⟩;refine Qi0 (fun r:Bool=>Bo r) (fun _=>[(0,AObj.row 52 1 [[ints ([2,3]:List Int)]]),(0,AObj.row 322 1 [[AVal.fn (.func 315) [] [AVal.ptr 0 0 1 0 0]]])]) (leaf:=true) (foll hR (ct h3 rfl)) ?_;exact tt [0,1] (tO rfl (ts (lv lw LowL.nil)) (tO rfl (QV2 (cv (QB7 .nil (cv (Qi1 0 rfl rfl) .nil)) .nil)) .nil)) t1
   ·exact QD0 (i+1) (wkA [0,1]) omA ⟨folA,by exact omA⟩
  ·rw [Qv0 (l:=([2,3]:List Int)) (j:=i) (geA h2)] at hR;refine ⟨_,_,Told.refl,?_⟩;refine Qi0 (fun r:Bool=>Bo r) (fun _=>[(0,AObj.row 52 1 [[ints ([2,3]:List Int)]]),(0,AObj.row 322 1 [[AVal.fn (.func 315) [] [AVal.ptr 0 0 1 0 0]]])]) (leaf:=((false||(y1==45))||(y1==95))) (foll hR rfl) ?_;exact tt [0,1] (tO rfl (ts (lv lw LowL.nil)) (tO rfl (QV2 (cv (QB7 .nil (cv (Qi1 0 rfl rfl) .nil)) .nil)) .nil)) t1
 have hof1:AMoves Tryz.prog 307 [AVal.ptr 0 0 4 0 0,AVal.fn (.func 330) [] [AVal.ptr 2 0 1 0 0]] [(0,AObj.row 321 4 [[runes r_.line,I r_.at_,I r_.bad,I r_.error]]),(0,AObj.row 52 1 [[ints ([2,3]:List Int)]]),(0,AObj.row 322 1 [[AVal.fn (.func 315) [] [AVal.ptr 1 0 1 0 0]]])] 3 (Sg ((Q30 r_ (fun (y:Int)=>Qe0 y ([2,3]:List Int) 0)).1)) [(0,AObj.row 321 4 [[runes (((Q30 r_ (fun (y:Int)=>Qe0 y ([2,3]:List Int) 0)).2).line),I (((Q30 r_ (fun (y:Int)=>Qe0 y ([2,3]:List Int) 0)).2).at_),I (((Q30 r_ (fun (y:Int)=>Qe0 y ([2,3]:List Int) 0)).2).bad),I (((Q30 r_ (fun (y:Int)=>Qe0 y ([2,3]:List Int) 0)).2).error)]]),(0,AObj.row 52 1 [[ints ([2,3]:List Int)]]),(0,AObj.row 322 1 [[AVal.fn (.func 315) [] [AVal.ptr 1 0 1 0 0]]])]:=by
  have hR:Q30 r_ (fun (y:Int)=>Qe0 y ([2,3]:List Int) 0)=Q30 r_ (fun (y:Int)=>Qe0 y ([2,3]:List Int) 0):=rfl;refine mo (kp 6 [33]) Tryz.func307 ?_;refine Qx0 (fun (c:LexReader)=>∃ m,(Int.toNat ((c.line.length:Int) - c.at_))<m∧QF0 r_ (QE0 (fun (y:Int)=>Qe0 y ([2,3]:List Int) 0) m c)=Q30 r_ (fun (y:Int)=>Qe0 y ([2,3]:List Int) 0)∧0<=c.at_∧c.at_<=(c.line.length:Int)∧c.line.length<=400∧r_.at_<=c.at_∧0<=r_.at_) (fun c=>(Int.toNat ((c.line.length:Int) - c.at_))) (fun c=>[(0,AVal.ptr 0 0 4 0 0),(1,AVal.fn (.func 330) [] [AVal.ptr 2 0 1 0 0]),(4,Sg ⟨#[]⟩),(5,I r_.at_)]) (fun c=>[(0,AObj.row 321 4 [[runes c.line,I c.at_,I c.bad,I c.error]]),(0,AObj.row 52 1 [[ints ([2,3]:List Int)]]),(0,AObj.row 322 1 [[AVal.fn (.func 315) [] [AVal.ptr 1 0 1 0 0]]])]) r_ (wkA [0,1,2]) ⟨_,yeb _,foll hR rfl,by exact exA⟩ ?_;clear hR;rintro c ⟨m,hm,hR,hx⟩;(try dsimp only at hR hm hx);obtain ⟨m,rfl⟩:=sucA m;refine dchk (by kernel_rfl) ?_;refine ai gkA ?_;(first|apply u2|apply u3|apply u4|apply us);exact mv [1,2] (cl1 (c.line.getD (Int.toNat c.at_) 0)) (dO (ds (lv lw LowL.nil)) (dO (dc (dv (dn_fn .nil (dp .nil)) .nil)) .nil)) (d1 (dp .nil)) (rO (re (lv lw LowL.nil)) (rO (rc (rv (ren_fn .nil (.cons _ _ _ _ (rp 1 0 rfl) .nil)) .nil)) .nil)) rx;(repeat ((first|refine ai rfl ?_|refine ai (fun _=>rfl) ?_)));refine ai (fun h5=>?_) (fun h6=>?_)
  ·have hq1:=yfa ((yca _ _).mp h5).1;have hwr:w64 (c.at_+1)=c.at_+1:=wr (by omega);exact QD0 { c with at_:=(w64 (c.at_+1)) } (wk [0,1,2] (tO rfl (ts LexReader.lo) (tO rfl (ts (lv lw LowL.nil)) (tO rfl (QV2 (cv (QB7 .nil (cv (Qi1 1 rfl rfl) .nil)) .nil)) .nil))) (sv (Qi1 0 rfl rfl) (sv (QB7 .nil (cv (Qi1 2 rfl rfl) .nil)) (s1 (s1 .nil))))) omA ⟨m,by exact omA,foll hR (congrArg (fun p:LexReader=>QF0 r_ p) (ct h5 rfl)),by exact exA⟩
  ·replace hR:QF0 r_ c=Q30 r_ (fun (y:Int)=>Qe0 y ([2,3]:List Int) 0):=fo2 (fun p:LexReader=>QF0 r_ p) (c) hR (cf h6 rfl);refine dchk (by kernel_rfl) ?_;refine ai gkA ?_;(first|refine ⟨(List.drop (Int.toNat r_.at_) (List.take (Int.toNat c.at_) c.line)),by exact cvA,?_⟩|refine ⟨_,fun _=>⟨(List.drop (Int.toNat r_.at_) (List.take (Int.toNat c.at_) c.line)),by exact cvA,rfl,rfl⟩,?_⟩|refine ⟨_,rfl,⟨(List.drop (Int.toNat r_.at_) (List.take (Int.toNat c.at_) c.line)),by exact cvA,Sub.refl _,rfl⟩,?_⟩);(repeat ((first|refine ai rfl ?_|refine ai (fun _=>rfl) ?_)));refine Qi0 (fun r:ByteArray × LexReader=>Sg r.1) (fun r:ByteArray × LexReader=>[(0,AObj.row 321 4 [[runes r.2.line,I r.2.at_,I r.2.bad,I r.2.error]]),(0,AObj.row 52 1 [[ints ([2,3]:List Int)]]),(0,AObj.row 322 1 [[AVal.fn (.func 315) [] [AVal.ptr 1 0 1 0 0]]])]) (leaf:=((runesBytes (List.drop (Int.toNat r_.at_) (List.take (Int.toNat c.at_) c.line))),c)) (foll hR rfl) ?_;exact tt [0,1,2] (tO rfl (ts LexReader.lo) (tO rfl (ts (lv lw LowL.nil)) (tO rfl (QV2 (cv (QB7 .nil (cv (Qi1 1 rfl rfl) .nil)) .nil)) .nil))) t1
 refine us (mv [0,2,3] (hof1) (dO (ds LexReader.lo) (dO (dc (dv (dn_as (Qz3 (c:=(fun q_=>[I q_])) (d:=0) ([2,3]:List Int) rfl) lw) .nil)) (dO (dc (dv (dn_fn .nil (dp .nil)) .nil)) .nil))) (dp (dv (dn_fn .nil (dp .nil)) .nil)) (rO (re LexReader.lo) (rO (re (lv lw LowL.nil)) (rO (rc (rv (ren_fn .nil (.cons _ _ _ _ (rp 2 0 rfl) .nil)) .nil)) .nil))) rx) ?_;refine us (runes_Lower_c ((Q30 r_ (fun (y:Int)=>Qe0 y ([2,3]:List Int) 0)).1) (by first|(exact Qma _ _ hp0.2.2)|exact szA) _) ?_;obtain rfl:=foll hR rfl;exact rq (ttA [0])
def QEa (s:ByteArray):Int × Unit:=((Qw9 s).1,())
theorem strconv_Atoi_c (s:ByteArray) (hs0:s.size<=4294967296) (hp0:atoiOK s):GV 343 [Sg s] (AVal.tup [I ((QEa s).1),AVal.lit .nilIface]):=by
 generalize hR:QEa s=R;refine gA (kp 6 [12]) Tryz.func343 ?_;have hk0:=hs0;obtain z1:s.size<=4294967296:=hs0;refine us (Qyf s szA ckA _) ?_;refine ai (fun h=>nomatch h) (fun _=>?_);exact lfA
def Qm1 (x_:Int) (held:Bool):Bool × Bool:=bif (((Qg1 x_)==0)||((x_==34)&&(!held))) then (false,held) else (true,((x_==92)&&(!held)))
theorem Q3b (x_:Int) (held:Bool):AMoves Tryz.prog 335 [J x_,AVal.ptr 0 0 1 0 0] [(0,AObj.row 4 1 [[Bo held]])] 1 (Bo ((Qm1 x_ held).1)) [(0,AObj.row 4 1 [[Bo ((Qm1 x_ held).2)]])]:=by
 generalize hR:Qm1 x_ held=R;refine mo (kp 4 [14]) Tryz.func335 ?_;refine us (QA4 x_ _) ?_;refine ai (fun h1=>?_) (fun h2=>?_)
 ·obtain rfl:=foll hR (ct h1 rfl);exact rq (ttA [0])
 ·obtain rfl:=foll hR (cf h2 rfl);exact rq (ttA [0])
def QN0 (p_:List Int) (r_:Int):(List Int):=bif (decide ((wu32 r_)<=127)) then (p_++([(wu8 r_)]:List Int)) else (Qv2 p_ r_)
theorem QMd (p_:List Int) (r_:Int) (hs0:p_.length<=4294967296):AMoves Tryz.prog 340 [AVal.own 0 0 1 0 p_.length,J r_] [(0,AObj.row 5 1 (p_.map (fun q_=>[Y q_])))] 0 (AVal.own 0 0 1 0 (QN0 p_ r_).length) [(0,AObj.row 5 1 ((QN0 p_ r_).map (fun q_=>[Y q_])))]:=by
 generalize hR:QN0 p_ r_=R;refine mo (kp 5 [7]) Tryz.func340 ?_;have hk0:=hs0;obtain z3:p_.length<=4294967296:=hs0;refine ai (fun h1=>?_) (fun h2=>?_)
 ·have qh1:=yfa h1;refine Or.inl ?_;(first|refine ⟨QD2 1 rfl lnA apA,?_⟩|refine ⟨Qw1 1 rfl apA,?_⟩);obtain rfl:=foll hR (ct h1 rfl);exact rq (ttA [0])
 ·have qh2:=yea h2;refine us (mv [0] (QQ8 p_ r_ szA) (dO (dr eqA) .nil) (dv (QY5 rfl lnA) (d1 .nil)) (rO rr .nil) (rw_ 1 0 rfl)) ?_;obtain rfl:=foll hR (cf h2 rfl);exact rq (ttA [1])
theorem Q96 (l:List Int) (r_:Int):∃ k,QN0 l r_=l++k∧1<=k.length∧k.length<=4∧Qg7 k:=by
 have h1:∀ a:Int,Qg7 [wu8 a]:=fun a=>QX5 (wu8_in a) QIa
 have h2:∀ a b:Int,Qg7 [wu8 a,wu8 b]:=fun a b=>QX5 (wu8_in a) (h1 b)
 have h3:∀ a b c:Int,Qg7 [wu8 a,wu8 b,wu8 c]:=fun a b c=>QX5 (wu8_in a) (h2 b c)
 have h4:∀ a b c d:Int,Qg7 [wu8 a,wu8 b,wu8 c,wu8 d]:=fun a b c d=>QX5 (wu8_in a) (h3 b c d)
 have hc:Qg7 [239,191,189]:=QX5 (by decide) (QX5 (by decide) (QX5 (by decide) QIa));unfold QN0;cases (decide ((wu32 r_)<=127)) with
 | true=>exact ⟨_,rfl,by simp,by simp,h1 _⟩
 | false =>
  simp only [cond_false];unfold Qv2
  repeat' first
   | exact ⟨_,rfl,by simp,by simp,h2 _ _⟩
   | exact ⟨_,rfl,by simp,by simp,h3 _ _ _⟩
   | exact ⟨_,rfl,by simp,by simp,h4 _ _ _ _⟩
   | exact ⟨_,rfl,by simp,by simp,hc⟩
   | unfold QC2
   | (rw [yCb];split)
theorem QB8 (l:List Int) (r_:Int):(QN0 l r_).length ≠ 0:=by
 obtain ⟨k,e,h,_⟩:=Q96 l r_;rw [e,yta];omega
theorem Q0c (l:List Int) (r_:Int):(QN0 l r_).length<=l.length+4:=by
 obtain ⟨k,e,_,h,_⟩:=Q96 l r_;rw [e,yta];omega
theorem byteIn_rune (l:List Int) (r_:Int) (h:Qg7 l):Qg7 (QN0 l r_):=by
 obtain ⟨k,e,_,_,g⟩:=Q96 l r_;rw [e];exact byteIn_app h g
def Qp0 (s:List Dep) (f:Dep->Bool):Bool:=(decide ((Q91 s f) >= 0))
def QPd (n:Int):Bool:=(QG2 n 1 99999)
theorem QQe (n:Int):GV 269 [I n] (Bo (QPd n)):=by
 generalize hR:QPd n=R;refine gA (kp 3 []) Tryz.func269 ?_;refine us (Ql3 n 1 99999 _) ?_;exact lfA
def Qd9 (a:Shape) (b:Shape):Bool:=(((((a.kind==b.kind)&&(a.min==b.min))&&(a.max==b.max))&&(a.wall==b.wall))&&(QV5 a.alts b.alts))
theorem shape_Same_c (a:Shape) (b:Shape) (hs0:a.sz) (hs1:b.sz):GV 270 [Shape.a a,Shape.a b] (Bo (Qd9 a b)):=by
 generalize hR:Qd9 a b=R;refine gA (kp 5 []) Tryz.func270 ?_;have hk0:=hs0;obtain z1:a.alts.length<=4294967296:=hs0;have hk1:=hs1;obtain z2:b.alts.length<=4294967296:=hs1;(first|apply u2|apply u3|apply u4|apply us);exact QZc a.alts b.alts szA szA _;exact lfA
def Qv4 (v:Job):Bool:=(((((((v.nodes==0)&&(Qj2 v.start))&&(Qj2 v.limit))&&(decide (v.promise >= (-1))))&&(decide (v.promise<=1000000)))&&(decide (v.choice >= 0)))&&(decide (v.choice<=48)))
theorem QBf (v:Job):GV 195 [Job.a v] (Bo (Qv4 v)):=by
 generalize hR:Qv4 v=R;refine gA (kp 3 []) Tryz.func195 ?_;(first|apply u2|apply u3|apply u4|apply us);exact Qd6 v.start _;(first|apply u2|apply u3|apply u4|apply us);exact Qd6 v.limit _;exact lfA
def QD3 (n:Int):Int:=bif (decide (n<=0)) then 0 else bif (decide (n >= 64)) then 18446744073709551615 else (wu64 ((QS1 n) - 1))
theorem nodeset_All_c (n:Int):GV 261 [I n] (U (QD3 n)):=by
 generalize hR:QD3 n=R;refine gA (kp 3 [3,6]) Tryz.func261 ?_;refine ai (fun h1=>?_) (fun h2=>?_)
 ·have qh1:=yfa h1;exact lfA
 ·have qh2:=yea h2;refine ai (fun h3=>?_) (fun h4=>?_)
  ·have qh3:=yfa h3;exact lfA
  ·have qh4:=yea h4;refine us (Qu6 n _) ?_;exact lfA
def QF7 (l:List Book):List Book->Nat->Int
 | [],_=>0
 | x_ :: r,i=>bif ((!(QR8 x_))||((decide ((i:Int) > 0))&&(decide ((l.getD (Int.toNat (w64 ((i:Int) - 1))) zI).id >= x_.id)))) then 190 else QF7 l r (i+1)
def QI4 (l:List Book):Int:=bif (decide ((l.length:Int) > 8)) then 190 else QF7 l l 0
theorem book_Check_c (l:List Book) (hs0:l.length<=4294967296):GV 178 [bookL l] (I (QI4 l)):=by
 generalize hR:QI4 l=R;refine gA (kp 5 [7,8,9,10,11,32]) Tryz.func178 ?_;have hk0:=hs0;obtain z7:l.length<=4294967296:=hs0;refine ai (fun h1=>?_) (fun h2=>?_)
 ·have qh1:=yfa h1;exact lfA
 ·have qh2:=yea h2;refine Qx0 (fun (i:Nat)=>QF7 l (List.drop i l) i=R∧i<=l.length) (fun i=>l.length - i) (fun i=>[(0,bookL l),(2,I 0),(8,bookL l),(9,I (l.length:Int)),(10,I (i:Int))]) (fun i=>[]) 0 (wkA []) ⟨folA,by exact omA⟩ ?_;clear hR;rintro i ⟨hR,hj⟩;(try dsimp only at hR hj);refine ai (fun h3=>?_) (fun h4=>?_)
  ·have hlt:=ltA h3;rw [Qq0 zI hlt] at hR;refine ai gkA ?_;refine dchk (by kernel_rfl) ?_;(first|apply u2|apply u3|apply u4|apply us);exact Q8f (l.getD i zI) _;refine ai gkA ?_;(repeat ((first|refine ai rfl ?_|refine ai (fun _=>rfl) ?_|refine ai (fun _=>Q8f (l.getD i zI) _) ?_)));refine ai (fun h5=>?_) (fun h6=>?_)
   ·exact lfA
   ·exact QD0 (i+1) (wkA []) omA ⟨folA,by exact omA⟩
  ·rw [Qv0 (l:=l) (j:=i) (geA h4)] at hR;exact lfA
def QY0 (x_:ByteArray) (y:ByteArray):Int:=bif (QI3 x_) then bif (QI3 y) then 0 else (-1) else bif (QI3 y) then 1 else bif (Op.bytesLess (ByteArray.toList x_) (ByteArray.toList y)) then (-1) else bif (!((Op.bytesLess (ByteArray.toList x_) (ByteArray.toList y))||(ByteArray.toList x_==ByteArray.toList y))) then 1 else 0
theorem Qb4 (x_:ByteArray) (y:ByteArray):GV 233 [Sg x_,Sg y] (I (QY0 x_ y)):=by
 generalize hR:QY0 x_ y=R;refine gA (kp 7 [11,12,13,16,19]) Tryz.func233 ?_;refine us (Qo8 x_ _) ?_;refine us (Qo8 y _) ?_;refine ai (fun h1=>?_) (fun h2=>?_)
 ·refine ai (fun h3=>?_) (fun h4=>?_)
  ·exact lfA
  ·exact lfA
 ·refine ai (fun h5=>?_) (fun h6=>?_)
  ·exact lfA
  ·refine ai (fun h7=>?_) (fun h8=>?_)
   ·exact lfA
   ·refine ai (fun h9=>?_) (fun h10=>?_)
    ·exact lfA
    ·exact lfA
def QG1 (s:Int):Nat->List Int->Nat->(List Int)
 | 0,_,_=>[]
 | m+1,out,i=>bif (decide ((i:Int)<64)) then bif ((wu64 (BitVec.ofInt 64 s &&& BitVec.ofInt 64 (QS1 (i:Int))).toNat)!=0) then QG1 s m (out++([(i:Int)]:List Int)) (i+1) else QG1 s m out (i+1) else out
def QR2 (out:List Int):(List Int):=out
def Qc0 (s:Int):(List Int):=QR2 (QG1 s ((Int.toNat (64 - (0:Int)))+1) [] 0)
theorem Qeb (s:Int):GV 19 [U s] (ints (Qc0 s)):=by
 generalize hR:Qc0 s=R;refine gA (kp 5 [5,6,12]) Tryz.func19 ?_;refine QP0 (fun (out:List Int) (i:Nat)=>∃ m,(Int.toNat (64 - (i:Int)))<m∧QR2 (QG1 s m out i)=R∧out.length<=i) (fun out i=>(Int.toNat (64 - (i:Int)))) (fun out i=>[(0,U s),(2,AVal.lit (.slice none 0 0)),(3,AVal.own 0 0 1 0 out.length),(5,I (i:Int))]) (fun out i=>[(0,AObj.row 3 1 (out.map (fun q_=>[I q_])))]) [] 0 ((Qa4 3 1).trans (wkA [0])) ⟨_,yeb _,foll hR rfl,by exact exA⟩ ?_;clear hR;rintro out i ⟨m,hm,hR,hx⟩;(try dsimp only at hR hm hx);obtain ⟨m,rfl⟩:=sucA m;refine ai (fun h1=>?_) (fun h2=>?_)
 ·have qh1:=yfa h1;refine us (Qu6 (i:Int) _) ?_;refine ai (fun h3=>?_) (fun h4=>?_)
  ·refine Or.inl ?_;(first|refine ⟨QD2 8 rfl lnA apA,?_⟩|refine ⟨Qw1 8 rfl apA,?_⟩);exact Qr0 (out++([(i:Int)]:List Int)) (i+1) (wkA [0]) omA ⟨m,by exact omA,foll hR (congrArg (fun p:(List Int)=>QR2 p) (ct h1 (ct h3 rfl))),by exact exA⟩
  ·exact Qr0 out (i+1) (wkA [0]) omA ⟨m,by exact omA,foll hR (congrArg (fun p:(List Int)=>QR2 p) (ct h1 (cf h4 rfl))),by exact exA⟩
 ·have qh2:=yea h2;replace hR:QR2 out=R:=fo2 (fun p:(List Int)=>QR2 p) (out) hR (cf h2 rfl);obtain rfl:=foll hR rfl;exact Qb0 lw (Qa0 0 _ rfl eqA lnA)
theorem QN6 (s:Int):∀ (m:Nat) (out:List Int) (i:Nat),(∀ x ∈ out,0<=x∧x<64) -> ∀ x ∈ QG1 s m out i,0<=x∧x<64
 | 0,_,_,_,x,hx=>by simp [QG1] at hx
 | m+1,out,i,h,x,hx=>by
  rw [QG1] at hx;cases hd:decide ((i:Int)<64) with
  | false=>rw [hd] at hx;exact h x hx
  | true =>
   rw [hd] at hx;have hi:=yfa hd;simp only [cond_true] at hx;cases hb:((wu64 (BitVec.ofInt 64 s &&& BitVec.ofInt 64 (QS1 (i:Int))).toNat)!=0) with
   | false=>rw [hb] at hx;exact QN6 s m out (i+1) h x hx
   | true =>
    rw [hb] at hx;refine QN6 s m _ (i+1) (fun y hy=>?_) x hx;rcases List.mem_append.1 hy with hy|hy
    ·exact h y hy
    ·rw [List.mem_singleton.1 hy];omega
theorem Qxe (s:Int):∀ x ∈ Qc0 s,0<=x∧x<64:=QN6 s _ _ _ (fun x hx=>nomatch hx)
theorem Qwe (s:Int) {i:Nat} (h:i<(Qc0 s).length):0<=(Qc0 s).getD i 0∧(Qc0 s).getD i 0<64:=by
 have e:(Qc0 s).getD i 0=(Qc0 s)[i]:=by simp [List.getD,yaa h]
 rw [e];exact Qxe s _ (y7a h)
theorem QM6 (s:Int):∀ (m:Nat) (out:List Int) (i:Nat),out.length<=i->i<=64->(QG1 s m out i).length<=64
 | 0,_,_,_,_=>by simp [QG1]
 | m+1,out,i,h,h64=>by
  rw [QG1];cases hd:decide ((i:Int)<64) with
  | false=>simp only [cond_false];omega
  | true =>
   have hi:=yfa hd;simp only [cond_true];cases ((wu64 (BitVec.ofInt 64 s &&& BitVec.ofInt 64 (QS1 (i:Int))).toNat)!=0) with
   | false=>exact QM6 s m out (i+1) (by omega) (by omega)
   | true=>exact QM6 s m _ (i+1) (by simp;omega) (by omega)
theorem Qx7 (s:Int):(Qc0 s).length<=64:=QM6 s _ _ _ (by simp) (by omega)
def QM3 :List Int->Int->Nat->Int × Int
 | [],s,_=>(s,0)
 | x_ :: r,s,i=>bif (((decide (x_<0))||(decide (x_ >= 64)))||((wu64 (BitVec.ofInt 64 s &&& BitVec.ofInt 64 (QS1 x_)).toNat)!=0)) then (0,90) else QM3 r (wu64 (BitVec.ofInt 64 s ||| BitVec.ofInt 64 (QS1 x_)).toNat) (i+1)
def QO0 (l:List Int):Int × Int:=QM3 l 0 0
theorem Qm7 (l:List Int) (hs0:l.length<=4294967296):GV 60 [ints l] (AVal.tup [U ((QO0 l).1),I ((QO0 l).2)]):=by
 generalize hR:QO0 l=R;refine gA (kp 7 [7,8,9,10,25]) Tryz.func60 ?_;have hk0:=hs0;obtain z5:l.length<=4294967296:=hs0;refine QP0 (fun (s:Int) (i:Nat)=>QM3 (List.drop i l) s i=R∧i<=l.length) (fun s i=>l.length - i) (fun s i=>[(2,U 0),(3,I 0),(4,U s),(7,ints l),(8,I (l.length:Int)),(9,I (i:Int))]) (fun s i=>[]) 0 0 (wkA []) ⟨foll hR rfl,by exact omA⟩ ?_;clear hR;rintro s i ⟨hR,hj⟩;(try dsimp only at hR hj);refine ai (fun h1=>?_) (fun h2=>?_)
 ·have hlt:=ltA h1;rw [Qq0 0 hlt] at hR;refine ai gkA ?_;(first|apply u2|apply u3|apply u4|apply us);exact Qu6 (l.getD i 0) _;refine ai (fun h3=>?_) (fun h4=>?_)
  ·obtain rfl:=foll hR (ct h3 rfl);exact Qb0 (Low.tup' (l1 (l1 .nil))) (Seen.tup (e1 (e1 .nil)))
  ·refine us (Qu6 (l.getD i 0) _) ?_;exact Qr0 (wu64 (BitVec.ofInt 64 s ||| BitVec.ofInt 64 (QS1 (l.getD i 0))).toNat) (i+1) (wkA []) omA ⟨foll hR (cf h4 rfl),by exact omA⟩
 ·rw [Qv0 (l:=l) (j:=i) (geA h2)] at hR;exact lfA
def QU0 (s:Int) (n:Int):Bool:=(((decide (n >= 0))&&(decide (n<64)))&&((wu64 (BitVec.ofInt 64 s &&& BitVec.ofInt 64 (QS1 n)).toNat)!=0))
theorem QO7 (s:Int) (n:Int):GV 58 [U s,I n] (Bo (QU0 s n)):=by
 generalize hR:QU0 s n=R;refine gA (kp 5 []) Tryz.func58 ?_;(first|apply u2|apply u3|apply u4|apply us);exact Qu6 n _;exact lfA
def state_Copy (s:State):State:=s
theorem state_Copy_c (s:State) (hs0:s.sz):GV 85 [State.a s] (State.a s):=by
 generalize hR:state_Copy s=R;refine gA (kp 4 [26,27,28]) Tryz.func85 ?_;have hk0:=hs0;obtain ⟨z8,z9,z10,z11,z12,z13,z14⟩:=hs0;refine dchk (by kernel_rfl) ?_;(first|apply u2|apply u3|apply u4|apply us);exact mv [] (Ql8 s.nodes szA) .nil (dl lw .nil) (rO rr .nil) (rw_ 2 0 rfl);(first|apply u2|apply u3|apply u4|apply us);exact mv [] (Qz8 s.jobs szA) .nil (dl lw .nil) (rO rr .nil) (rw_ 3 0 rfl);(first|apply u2|apply u3|apply u4|apply us);exact mv [] (Qs7 s.resizes szA) .nil (dl lw .nil) (rO rr .nil) (rw_ 4 0 rfl);(first|apply u2|apply u3|apply u4|apply us);exact mv [] (Qk8 s.books szA) .nil (dl lw .nil) (rO rr .nil) (rw_ 5 0 rfl);(first|apply u2|apply u3|apply u4|apply us);exact mv [] (QD7 s.ledger szA) .nil (dl lw .nil) (rO rr .nil) (rw_ 6 0 rfl);(repeat ((first|refine ai rfl ?_|refine ai (fun _=>rfl) ?_)));refine Qx0 (fun (i:Nat)=>True∧i<=s.jobs.length) (fun i=>s.jobs.length - i) (fun i=>[(1,AVal.ptr 0 0 8 0 0),(2,AVal.ptr 1 0 8 0 0),(26,I (s.jobs.length:Int)),(27,I (i:Int))]) (fun i=>[(0,AObj.row 28 8 [[I s.now,AVal.own 2 0 7 0 s.nodes.length,AVal.own 3 0 20 0 s.jobs.length,AVal.own 4 0 5 0 s.resizes.length,AVal.own 5 0 4 0 s.books.length,AVal.own 6 0 4 0 s.ledger.length,I s.nextJob,I s.nextBook]]),(0,AObj.row 28 8 [[I 0,AVal.lit (.slice none 0 0),AVal.lit (.slice none 0 0),AVal.lit (.slice none 0 0),AVal.lit (.slice none 0 0),AVal.lit (.slice none 0 0),I 0,I 0]]),(0,AObj.row 55 7 (s.nodes.map Node.cells)),(0,AObj.row 72 20 (s.jobs.map Job.cells)),(0,AObj.row 49 5 (s.resizes.map Resize.cells)),(0,AObj.row 122 4 (s.books.map Book.cells)),(0,AObj.row 138 4 (s.ledger.map Usage.cells))]) 0 (wkA [0,1,2,3,4,5,6]) ⟨trivial,by exact omA⟩ ?_;have hR0:=hR;rintro i ⟨hR,hj⟩;(try dsimp only at hR hj);refine ai (fun h1=>?_) (fun h2=>?_)
 ·have hlt:=ltA h1;have hxz:(s.jobs.getD i zG).sz:=Qu4 (by first|assumption|grind) (Job.szz _);have hkz:=hxz;obtain ⟨z3,z4,z5,z6,z7⟩:=Job.zz hxz;refine dchk (by kernel_rfl) ?_;refine ai gkA ?_;refine ⟨_,QT0 rfl rfl rfl (Qh1 zG i (by first|rfl|exact yna _|omega) ckA) rfl,?_⟩;(first|apply u2|apply u3|apply u4|apply us);exact QY4 ((s.jobs.getD i zG).shape.alts) szA _;refine ai gkA ?_;refine ⟨_,QT0 rfl rfl rfl (Qh1 zG i (by first|rfl|exact yna _|omega) ckA) rfl,?_⟩;(first|apply u2|apply u3|apply u4|apply us);exact QZ4 ((s.jobs.getD i zG).after) szA _;refine ai gkA ?_;refine ⟨_,Qm3 rfl rfl rfl rfl (Qh1 zG i (by first|rfl|exact yna _|omega) ckA) rfl rfl (Qn6 zG i (by first|rfl|exact yna _|omega) ckA rfl),?_⟩;refine ai gkA ?_;refine ⟨_,Qm3 rfl rfl rfl rfl (Qh1 zG i (by first|rfl|exact yna _|omega) ckA) rfl rfl (Qn6 zG i (by first|rfl|exact yna _|omega) ckA rfl),?_⟩;(repeat ((first|refine ai rfl ?_|refine ai (fun _=>rfl) ?_|refine And.intro (QT0 rfl rfl rfl (Qh1 zG i (by first|rfl|exact yna _|omega) ckA) rfl) ?_|refine ai (fun _=>QY4 ((s.jobs.getD i zG).shape.alts) szA _) ?_|refine And.intro (QT0 rfl rfl rfl (Qh1 zG i (by first|rfl|exact yna _|omega) ckA) rfl) ?_|refine ai (fun _=>QZ4 ((s.jobs.getD i zG).after) szA _) ?_)));exact QD0 (i+1) (wkA [0,1,2,3,4,5,6]) omA ⟨hR,by exact omA⟩
 ·skip;have hR:=hR0;obtain rfl:=foll hR rfl;exact Qb0 (State.low _ _) (Seen.agg (e1 (ev (Qa0 zF _ rfl eqA lnA) (ev (Qa0 zG _ rfl eqA lnA) (ev (Qa0 zH _ rfl eqA lnA) (ev (Qa0 zI _ rfl eqA lnA) (ev (Qa0 zJ _ rfl eqA lnA) (e1 (e1 .nil)))))))))
theorem QCa (s:State) (hs0:s.sz):AMoves Tryz.prog 85 [State.a s] [] 0 (AVal.agg [I s.now,nodeL s.nodes,jobL s.jobs,AVal.own 0 0 5 0 s.resizes.length,bookL s.books,Q93 s.ledger,I s.nextJob,I s.nextBook]) [(0,AObj.row 49 5 (s.resizes.map Resize.cells))]:=by
 generalize hR:state_Copy s=R;refine mo (kp 4 [26,27,28]) Tryz.func85 ?_;have hk0:=hs0;obtain ⟨z8,z9,z10,z11,z12,z13,z14⟩:=hs0;refine dchk (by kernel_rfl) ?_;(first|apply u2|apply u3|apply u4|apply us);exact mv [] (Ql8 s.nodes szA) .nil (dl lw .nil) (rO rr .nil) (rw_ 2 0 rfl);(first|apply u2|apply u3|apply u4|apply us);exact mv [] (Qz8 s.jobs szA) .nil (dl lw .nil) (rO rr .nil) (rw_ 3 0 rfl);(first|apply u2|apply u3|apply u4|apply us);exact mv [] (Qs7 s.resizes szA) .nil (dl lw .nil) (rO rr .nil) (rw_ 4 0 rfl);(first|apply u2|apply u3|apply u4|apply us);exact mv [] (Qk8 s.books szA) .nil (dl lw .nil) (rO rr .nil) (rw_ 5 0 rfl);(first|apply u2|apply u3|apply u4|apply us);exact mv [] (QD7 s.ledger szA) .nil (dl lw .nil) (rO rr .nil) (rw_ 6 0 rfl);(repeat ((first|refine ai rfl ?_|refine ai (fun _=>rfl) ?_)));refine Qx0 (fun (i:Nat)=>True∧i<=s.jobs.length) (fun i=>s.jobs.length - i) (fun i=>[(1,AVal.ptr 0 0 8 0 0),(2,AVal.ptr 1 0 8 0 0),(26,I (s.jobs.length:Int)),(27,I (i:Int))]) (fun i=>[(0,AObj.row 28 8 [[I s.now,AVal.own 2 0 7 0 s.nodes.length,AVal.own 3 0 20 0 s.jobs.length,AVal.own 4 0 5 0 s.resizes.length,AVal.own 5 0 4 0 s.books.length,AVal.own 6 0 4 0 s.ledger.length,I s.nextJob,I s.nextBook]]),(0,AObj.row 28 8 [[I 0,AVal.lit (.slice none 0 0),AVal.lit (.slice none 0 0),AVal.lit (.slice none 0 0),AVal.lit (.slice none 0 0),AVal.lit (.slice none 0 0),I 0,I 0]]),(0,AObj.row 55 7 (s.nodes.map Node.cells)),(0,AObj.row 72 20 (s.jobs.map Job.cells)),(0,AObj.row 49 5 (s.resizes.map Resize.cells)),(0,AObj.row 122 4 (s.books.map Book.cells)),(0,AObj.row 138 4 (s.ledger.map Usage.cells))]) 0 (wkA [0,1,2,3,4,5,6]) ⟨trivial,by exact omA⟩ ?_;have hR0:=hR;rintro i ⟨hR,hj⟩;(try dsimp only at hR hj);refine ai (fun h1=>?_) (fun h2=>?_)
 ·have hlt:=ltA h1;have hxz:(s.jobs.getD i zG).sz:=Qu4 (by first|assumption|grind) (Job.szz _);have hkz:=hxz;obtain ⟨z3,z4,z5,z6,z7⟩:=Job.zz hxz;refine dchk (by kernel_rfl) ?_;refine ai gkA ?_;refine ⟨_,QT0 rfl rfl rfl (Qh1 zG i (by first|rfl|exact yna _|omega) ckA) rfl,?_⟩;(first|apply u2|apply u3|apply u4|apply us);exact QY4 ((s.jobs.getD i zG).shape.alts) szA _;refine ai gkA ?_;refine ⟨_,QT0 rfl rfl rfl (Qh1 zG i (by first|rfl|exact yna _|omega) ckA) rfl,?_⟩;(first|apply u2|apply u3|apply u4|apply us);exact QZ4 ((s.jobs.getD i zG).after) szA _;refine ai gkA ?_;refine ⟨_,Qm3 rfl rfl rfl rfl (Qh1 zG i (by first|rfl|exact yna _|omega) ckA) rfl rfl (Qn6 zG i (by first|rfl|exact yna _|omega) ckA rfl),?_⟩;refine ai gkA ?_;refine ⟨_,Qm3 rfl rfl rfl rfl (Qh1 zG i (by first|rfl|exact yna _|omega) ckA) rfl rfl (Qn6 zG i (by first|rfl|exact yna _|omega) ckA rfl),?_⟩;(repeat ((first|refine ai rfl ?_|refine ai (fun _=>rfl) ?_|refine And.intro (QT0 rfl rfl rfl (Qh1 zG i (by first|rfl|exact yna _|omega) ckA) rfl) ?_|refine ai (fun _=>QY4 ((s.jobs.getD i zG).shape.alts) szA _) ?_|refine And.intro (QT0 rfl rfl rfl (Qh1 zG i (by first|rfl|exact yna _|omega) ckA) rfl) ?_|refine ai (fun _=>QZ4 ((s.jobs.getD i zG).after) szA _) ?_)));exact QD0 (i+1) (wkA [0,1,2,3,4,5,6]) omA ⟨hR,by exact omA⟩
 ·skip;have hR:=hR0;obtain rfl:=foll hR rfl;exact rq (tt [4] (tO rfl (tl eqA) .nil) (turn_agg (c1 (cv (Q38 _ _ rfl (yBa _) (by decide) eqA (fun _=>Node.lowc _ _) lnA) (cv (Q38 _ _ rfl (yBa _) (by decide) eqA (fun _=>Job.lowc _ _) lnA) (cv (to 0 lnA) (cv (Q38 _ _ rfl (yBa _) (by decide) eqA (fun _=>Book.lowc _ _) lnA) (cv (Q38 _ _ rfl (yBa _) (by decide) eqA (fun _=>Usage.lowc _ _) lnA) (c1 (c1 .nil))))))))))
def Qd0 (l:List Job) (id_:Int):Int × Bool:=((QL0 l id_ (fun (y:Job) (y1:Int)=>(w64 (y.id - y1)))).1,(QL0 l id_ (fun (y:Job) (y1:Int)=>(w64 (y.id - y1)))).2)
theorem b1a0 {P:Prop} (h:P:=by first|(dsimp only;rw [hh3];omega)|first|(dsimp only;rw [hh];omega)|exact exA):P:=h
theorem Q5d (l:List Job) (id_:Int) (hs0:l.length<=4294967296∧(∀ y ∈ l,y.sz)):GV 127 [jobL l,I id_] (AVal.tup [I ((Qd0 l id_).1),Bo ((Qd0 l id_).2)]):=by
 generalize hR:Qd0 l id_=R;refine gA (kp 6 []) Tryz.func127 ?_;obtain ⟨z10,z11⟩:=id hs0;have cl1:∀ (y1:Job) (y2:Int) (hzy1:y1.sz),AMoves Tryz.prog 186 [Job.a y1,I y2] [] 0 (I ((fun (y:Job) (y1:Int)=>(w64 (y.id - y1))) y1 y2)) []:=by
  intro y1 y2 hzy1;have hky1:=hzy1;obtain ⟨z1,z2,z3,z4,z5⟩:=Job.zz hzy1;have hR:(fun (y:Job) (y1:Int)=>(w64 (y.id - y1))) y1 y2=(fun (y:Job) (y1:Int)=>(w64 (y.id - y1))) y1 y2:=rfl;refine mo (kp 5 []) Tryz.func186 ?_;refine Qi0 (fun r:Int=>I r) (fun _=>[]) (leaf:=(w64 (y1.id - y2))) (foll hR rfl) ?_;exact tt [] .nil t1
 have hof1:AMoves Tryz.prog 185 [jobL l,I id_,AVal.fn (.func 186) [] []] [] 0 (AVal.tup [I ((QL0 l id_ (fun (y:Job) (y1:Int)=>(w64 (y.id - y1)))).1),Bo ((QL0 l id_ (fun (y:Job) (y1:Int)=>(w64 (y.id - y1)))).2)]) []:=by
  have hR:QL0 l id_ (fun (y:Job) (y1:Int)=>(w64 (y.id - y1)))=QL0 l id_ (fun (y:Job) (y1:Int)=>(w64 (y.id - y1))):=rfl;refine mo (kp 12 [17,31]) Tryz.func185 ?_;refine QP0 (fun (i:Int) (j:Int)=>∃ m,(Int.toNat (j - i))<m∧QX0 l id_ (fun (y:Job) (y1:Int)=>(w64 (y.id - y1))) (Qn0 l id_ (fun (y:Job) (y1:Int)=>(w64 (y.id - y1))) m i j).1 (Qn0 l id_ (fun (y:Job) (y1:Int)=>(w64 (y.id - y1))) m i j).2=QL0 l id_ (fun (y:Job) (y1:Int)=>(w64 (y.id - y1)))∧0<=i∧i<=j∧j<=(l.length:Int)) (fun i j=>(Int.toNat (j - i))) (fun i j=>[(0,jobL l),(1,I id_),(2,AVal.fn (.func 186) [] []),(6,I 0),(7,Bo false),(8,I (l.length:Int)),(9,I i),(10,I j)]) (fun i j=>[]) 0 (l.length:Int) (wkA []) ⟨_,yeb _,foll hR rfl,b1a0⟩ ?_;clear hR;rintro i j ⟨m,hm,hR,hx⟩;(try dsimp only at hR hm hx);obtain ⟨m,rfl⟩:=sucA m;refine ai (fun h6=>?_) (fun h7=>?_)
  ·have qh6:=yfa h6;(have hq0:i<j:=qh6;have hh:w64 (Int.fdiv (wu64 (w64 (i+j))) (2 ^ (min (Int.toNat 1) 64)))=(i+j) / 2:=Qia hx.1 hq0 hx.2.2 (by omega);have hh3:w64 (w64 (Int.fdiv (wu64 (w64 (i+j))) (2 ^ (min (Int.toNat 1) 64)))+1)=(i+j) / 2+1:=by rw [hh];exact wr (by omega));refine And.intro (by first|exact fun hg=>yha (by first|(show 0<=w64 (Int.fdiv (wu64 (w64 (i+j))) (2 ^ (min (Int.toNat 1) 64)))∧w64 (Int.fdiv (wu64 (w64 (i+j))) (2 ^ (min (Int.toNat 1) 64)))<(l.length:Int);rw [hh];omega)|exact ckA)|exact gkA) ?_;refine And.intro (by first|exact fun hg=>yha (by first|(show 0<=w64 (Int.fdiv (wu64 (w64 (i+j))) (2 ^ (min (Int.toNat 1) 64)))∧w64 (Int.fdiv (wu64 (w64 (i+j))) (2 ^ (min (Int.toNat 1) 64)))<(l.length:Int);rw [hh];omega)|exact ckA)|exact gkA) ?_;refine us (mv [] (cl1 (l.getD (Int.toNat (w64 (Int.fdiv (wu64 (w64 (i+j))) (2 ^ (min (Int.toNat 1) 64))))) zG) id_ szA) .nil (dl (Job.low _ _) (d1 .nil)) .nil rx) ?_;refine ai (fun h8=>?_) (fun h9=>?_)
   ·have qh8:=yfa h8;exact Qr0 (w64 ((w64 (Int.fdiv (wu64 (w64 (i+j))) (2 ^ (min (Int.toNat 1) 64))))+1)) j (wkA []) (by first|(dsimp only;rw [hh3];omega)|first|(dsimp only;rw [hh];omega)|exact omA) ⟨m,by first|(dsimp only;rw [hh3];omega)|first|(dsimp only;rw [hh];omega)|exact omA,foll hR (congrArg (fun p:Int × Int=>QX0 l id_ (fun (y:Job) (y1:Int)=>(w64 (y.id - y1))) p.1 p.2) (ct h6 (ct h8 rfl))),b1a0⟩
   ·have qh9:=yea h9;exact Qr0 i (w64 (Int.fdiv (wu64 (w64 (i+j))) (2 ^ (min (Int.toNat 1) 64)))) (wkA []) (by first|(dsimp only;rw [hh3];omega)|first|(dsimp only;rw [hh];omega)|exact omA) ⟨m,by first|(dsimp only;rw [hh3];omega)|first|(dsimp only;rw [hh];omega)|exact omA,foll hR (congrArg (fun p:Int × Int=>QX0 l id_ (fun (y:Job) (y1:Int)=>(w64 (y.id - y1))) p.1 p.2) (ct h6 (cf h9 rfl))),b1a0⟩
  ·have qh7:=yea h7;replace hR:QX0 l id_ (fun (y:Job) (y1:Int)=>(w64 (y.id - y1))) i j=QL0 l id_ (fun (y:Job) (y1:Int)=>(w64 (y.id - y1))):=fo2 (fun p:Int × Int=>QX0 l id_ (fun (y:Job) (y1:Int)=>(w64 (y.id - y1))) p.1 p.2) (i,j) hR (cf h7 rfl);refine And.intro (by first|exact fun hg=>yha (by first|(show 0<=w64 (Int.fdiv (wu64 (w64 (i+j))) (2 ^ (min (Int.toNat 1) 64)))∧w64 (Int.fdiv (wu64 (w64 (i+j))) (2 ^ (min (Int.toNat 1) 64)))<(l.length:Int);rw [hh];omega)|exact ckA)|exact gkA) ?_;(first|apply u2|apply u3|apply u4|apply us);exact mv [] (cl1 (l.getD (Int.toNat i) zG) id_ szA) .nil (dl (Job.low _ _) (d1 .nil)) .nil rx;refine Qi0 (fun r:Int × Bool=>AVal.tup [I r.1,Bo r.2]) (fun r:Int × Bool=>[]) (leaf:=(i,((decide (i<(l.length:Int)))&&(((fun (y:Job) (y1:Int)=>(w64 (y.id - y1))) (l.getD (Int.toNat i) zG) id_)==0)))) (foll hR rfl) ?_;exact tt [] .nil (turn_tup (c1 (c1 .nil)))
 refine us (mv [] (hof1) .nil (dl lw (d1 (dv (QG6 (Low.fn _ _ _ LowL.nil LowL.nil)) .nil))) .nil (Ren.low _ (Low.tup' (l1 (l1 .nil))))) ?_;exact lfA
theorem bs_ge (x_:List Job) (target:Int) (cmp:Job->Int->Int) (hn:x_.length<=4294967296):∀ (m:Nat) (i j:Int),0<=i->i<=j->j<=(x_.length:Int)->0<=(Qn0 x_ target cmp m i j).1
 | 0,_,_,_,_,_=>by simp [Qn0]
 | m+1,i,j,h0,h1,h2=>by
  rw [Qn0];cases hd:decide (i<j) with
  | false=>exact h0
  | true =>
   have hlt:=yfa hd;rw [Qia h0 hlt h2 (by omega)];simp only [cond_true];cases decide (cmp (x_.getD (Int.toNat ((i+j) / 2)) zG) target<0) with
   | true =>
    have hw:w64 ((i+j) / 2+1)=(i+j) / 2+1:=wr (by omega);simp only [cond_true];rw [hw];exact bs_ge x_ target cmp hn m _ _ (by omega) (by omega) h2
   | false=>exact bs_ge x_ target cmp hn m _ _ h0 (by omega) (by omega)
theorem Q94 (l:List Job) (id_:Int) (hn:l.length<=4294967296) (h:(!(Qd0 l id_).2)=false):0<=(Qd0 l id_).1∧(Qd0 l id_).1<(l.length:Int):=by
 simp only [Qd0,QL0,QX0,yRb,yca,yda] at h;exact ⟨bs_ge _ _ _ hn _ _ _ (by omega) (by omega) (by omega),h.1⟩
def table_whole (l:List Job):(List Job):=l
theorem Q6d (l:List Job) (hs0:l.length<=4294967296∧(∀ y ∈ l,y.sz)):AMoves Tryz.prog 128 [jobL l] [] 0 (AVal.own 0 0 20 0 l.length) [(0,AObj.row 72 20 (l.map Job.cells))]:=by
 generalize hR:table_whole l=R;refine mo (kp 5 [8,9,10]) Tryz.func128 ?_;obtain ⟨z8,z9⟩:=id hs0;refine us (mv [] (QA8 l szA) .nil (dl lw .nil) (rO rr .nil) (rw_ 0 0 rfl)) ?_;refine Qx0 (fun (i:Nat)=>True∧i<=l.length) (fun i=>l.length - i) (fun i=>[(2,AVal.lit (.slice none 0 0)),(3,AVal.own 0 0 20 0 l.length),(8,I (l.length:Int)),(9,I (i:Int))]) (fun i=>[(0,AObj.row 72 20 (l.map Job.cells))]) 0 (wkA [0]) ⟨trivial,by exact omA⟩ ?_;have hR0:=hR;rintro i ⟨hR,hj⟩;(try dsimp only at hR hj);refine ai (fun h1=>?_) (fun h2=>?_)
 ·have hlt:=ltA h1;have hxz:(l.getD i zG).sz:=Qu4 (by first|assumption|grind) (Job.szz _);have hkz:=hxz;obtain ⟨z3,z4,z5,z6,z7⟩:=Job.zz hxz;refine ai gkA ?_;refine ⟨_,QT0 rfl rfl rfl (Qh1 zG i (by first|rfl|exact yna _|omega) ckA) rfl,?_⟩;refine us (Q3d ((l.getD i zG).shape.alts) szA _) ?_;refine ai gkA ?_;refine ⟨_,Qm3 rfl rfl rfl rfl (Qh1 zG i (by first|rfl|exact yna _|omega) ckA) rfl rfl (Qn6 zG i (by first|rfl|exact yna _|omega) ckA rfl),?_⟩;refine ai gkA ?_;refine ⟨_,QT0 rfl rfl rfl (Qh1 zG i (by first|rfl|exact yna _|omega) ckA) rfl,?_⟩;refine us (Q4d ((l.getD i zG).after) szA _) ?_;refine ai gkA ?_;refine ⟨_,Qm3 rfl rfl rfl rfl (Qh1 zG i (by first|rfl|exact yna _|omega) ckA) rfl rfl (Qn6 zG i (by first|rfl|exact yna _|omega) ckA rfl),?_⟩;exact QD0 (i+1) (wkA [0]) omA ⟨hR,by exact omA⟩
 ·skip;have hR:=hR0;obtain rfl:=foll hR rfl;exact rq (ttA [0])
def QH4 (p_:List Step):List Step->Nat->Int
 | [],_=>0
 | x_ :: r,i=>bif (((!(Qz2 x_.free))||(decide (x_.at_ > 1000000)))||((decide ((i:Int) > 0))&&((decide (x_.at_<=(p_.getD (Int.toNat (w64 ((i:Int) - 1))) zE).at_))||(x_.free==(p_.getD (Int.toNat (w64 ((i:Int) - 1))) zE).free)))) then 100 else QH4 p_ r (i+1)
def QX1 (p_:List Step):Int:=bif ((((p_.length:Int)==0)||(decide ((p_.length:Int) > 1000)))||((p_.getD 0 zE).at_ != 0)) then 100 else QH4 p_ p_ 0
theorem Qv6 (p_:List Step) (hs0:p_.length<=4294967296):GV 87 [stepL p_] (I (QX1 p_)):=by
 generalize hR:QX1 p_=R;refine gA (kp 5 [19,20,21,22,23,61]) Tryz.func87 ?_;have hk0:=hs0;obtain z7:p_.length<=4294967296:=hs0;refine ai gkA ?_;refine ai (fun h1=>?_) (fun h2=>?_)
 ·obtain rfl:=foll hR (ct h1 rfl);exact Qb0 lx sr
 ·refine Qx0 (fun (i:Nat)=>QH4 p_ (List.drop i p_) i=R∧i<=p_.length) (fun i=>p_.length - i) (fun i=>[(0,stepL p_),(2,I 0),(20,stepL p_),(21,I (p_.length:Int)),(22,I (i:Int))]) (fun i=>[]) 0 (wkA []) ⟨foll hR (cf h2 rfl),by exact omA⟩ ?_;clear hR;rintro i ⟨hR,hj⟩;(try dsimp only at hR hj);refine ai (fun h3=>?_) (fun h4=>?_)
  ·have hlt:=ltA h3;rw [Qq0 zE hlt] at hR;refine ai gkA ?_;refine dchk (by kernel_rfl) ?_;(first|apply u2|apply u3|apply u4|apply us);exact QF8 ((p_.getD i zE).free) _;refine ai gkA ?_;refine ai gkA ?_;(repeat ((first|refine ai rfl ?_|refine ai (fun _=>rfl) ?_|refine ai (fun _=>QF8 ((p_.getD i zE).free) _) ?_)));refine ai (fun h5=>?_) (fun h6=>?_)
   ·exact lfA
   ·exact QD0 (i+1) (wkA []) omA ⟨folA,by exact omA⟩
  ·rw [Qv0 (l:=p_) (j:=i) (geA h4)] at hR;exact lfA
theorem QP6 {p:List Step} (h:(QX1 p != 0)=false):1<=p.length∧p.length<=1000∧(p.getD 0 zE).at_=0:=by
 simp only [QX1] at h;revert h;cases h2:((((p.length:Int)==0)||(decide ((p.length:Int) > 1000)))||((p.getD 0 zE).at_ != 0)) with
 | true=>simp
 | false=>intro _;simp at h2;refine ⟨?_,by omega,h2.2⟩;have:=List.length_pos_iff.2 h2.1.1;omega
def Q80 (p_:List Step) (t:Int):Int:=(w64 ((QO1 (p_.length:Int) (fun (y:Int)=>(decide ((p_.getD (Int.toNat y) zE).at_ > t)))) - 1))
theorem Qra (p_:List Step) (t:Int) (hs0:p_.length<=4294967296):GV 133 [stepL p_,I t] (I (Q80 p_ t)):=by
 generalize hR:Q80 p_ t=R;refine gA (kp 5 []) Tryz.func133 ?_;have hk0:=hs0;obtain z5:p_.length<=4294967296:=hs0;have cl1:∀ (y1:Int) (hcl:0<=y1∧y1<(p_.length:Int)),AMoves Tryz.prog 203 [I y1,AVal.ptr 0 0 1 0 0,AVal.ptr 1 0 1 0 0] [(0,AObj.row 82 1 [[stepL p_]]),(0,AObj.row 3 1 [[I t]])] 2 (Bo ((fun (y:Int)=>(decide ((p_.getD (Int.toNat y) zE).at_ > t))) y1)) [(0,AObj.row 82 1 [[stepL p_]]),(0,AObj.row 3 1 [[I t]])]:=by
  intro y1 hcl;have hR:(fun (y:Int)=>(decide ((p_.getD (Int.toNat y) zE).at_ > t))) y1=(fun (y:Int)=>(decide ((p_.getD (Int.toNat y) zE).at_ > t))) y1:=rfl;refine mo (kp 5 []) Tryz.func203 ?_;refine dchk (by kernel_rfl) ?_;refine ai gkA ?_;(repeat ((first|refine ai rfl ?_|refine ai (fun _=>rfl) ?_)));refine Qi0 (fun r:Bool=>Bo r) (fun _=>[(0,AObj.row 82 1 [[stepL p_]]),(0,AObj.row 3 1 [[I t]])]) (leaf:=(decide ((p_.getD (Int.toNat y1) zE).at_ > t))) (foll hR rfl) ?_;exact tt [0,1] (tO rfl (ts (lv lw LowL.nil)) (tO rfl (ts (l1 LowL.nil)) .nil)) t1
 have hof1:AMoves Tryz.prog 202 [I (p_.length:Int),AVal.fn (.func 203) [] [AVal.ptr 0 0 1 0 0,AVal.ptr 1 0 1 0 0]] [(0,AObj.row 82 1 [[stepL p_]]),(0,AObj.row 3 1 [[I t]])] 2 (I (QO1 (p_.length:Int) (fun (y:Int)=>(decide ((p_.getD (Int.toNat y) zE).at_ > t))))) [(0,AObj.row 82 1 [[stepL p_]]),(0,AObj.row 3 1 [[I t]])]:=by
  have hR:QO1 (p_.length:Int) (fun (y:Int)=>(decide ((p_.getD (Int.toNat y) zE).at_ > t)))=QO1 (p_.length:Int) (fun (y:Int)=>(decide ((p_.getD (Int.toNat y) zE).at_ > t))):=rfl;refine mo (kp 8 [11,21]) Tryz.func202 ?_;refine QP0 (fun (i:Int) (j:Int)=>∃ m,(Int.toNat (j - i))<m∧QU4 (Qd1 (fun (y:Int)=>(decide ((p_.getD (Int.toNat y) zE).at_ > t))) m i j).1 (Qd1 (fun (y:Int)=>(decide ((p_.getD (Int.toNat y) zE).at_ > t))) m i j).2=QO1 (p_.length:Int) (fun (y:Int)=>(decide ((p_.getD (Int.toNat y) zE).at_ > t)))∧0<=i∧i<=j∧j<=(p_.length:Int)) (fun i j=>(Int.toNat (j - i))) (fun i j=>[(1,AVal.fn (.func 203) [] [AVal.ptr 0 0 1 0 0,AVal.ptr 1 0 1 0 0]),(4,I 0),(5,I i),(6,I j)]) (fun i j=>[(0,AObj.row 82 1 [[stepL p_]]),(0,AObj.row 3 1 [[I t]])]) 0 (p_.length:Int) (wkA [0,1]) ⟨_,yeb _,foll hR rfl,by exact exA⟩ ?_;clear hR;rintro i j ⟨m,hm,hR,hx⟩;(try dsimp only at hR hm hx);obtain ⟨m,rfl⟩:=sucA m;refine ai (fun h1=>?_) (fun h2=>?_)
  ·have qh1:=yfa h1;(have hq0:i<j:=qh1;have hh:w64 (Int.fdiv (wu64 (w64 (i+j))) (2 ^ (min (Int.toNat 1) 64)))=(i+j) / 2:=Qia hx.1 hq0 hx.2.2 (by omega);have hh3:w64 (w64 (Int.fdiv (wu64 (w64 (i+j))) (2 ^ (min (Int.toNat 1) 64)))+1)=(i+j) / 2+1:=by rw [hh];exact wr (by omega));refine ai gkA ?_;refine us (mv [0,1] (cl1 (w64 (Int.fdiv (wu64 (w64 (i+j))) (2 ^ (min (Int.toNat 1) 64)))) ckA) (dO (ds (lv lw LowL.nil)) (dO (ds (l1 LowL.nil)) .nil)) (d1 (dp (dp .nil))) (rO (re (lv lw LowL.nil)) (rO (re (l1 LowL.nil)) .nil)) rx) ?_;refine ai (fun h3=>?_) (fun h4=>?_)
   ·exact Qr0 (w64 ((w64 (Int.fdiv (wu64 (w64 (i+j))) (2 ^ (min (Int.toNat 1) 64))))+1)) j (wkA [0,1]) (by first|(dsimp only;rw [hh3];omega)|first|(dsimp only;rw [hh];omega)|exact omA) ⟨m,by first|(dsimp only;rw [hh3];omega)|first|(dsimp only;rw [hh];omega)|exact omA,foll hR (congrArg (fun p:Int × Int=>QU4 p.1 p.2) (ct h1 (ct h3 rfl))),by exact exA⟩
   ·exact Qr0 i (w64 (Int.fdiv (wu64 (w64 (i+j))) (2 ^ (min (Int.toNat 1) 64)))) (wkA [0,1]) (by first|(dsimp only;rw [hh3];omega)|first|(dsimp only;rw [hh];omega)|exact omA) ⟨m,by first|(dsimp only;rw [hh3];omega)|first|(dsimp only;rw [hh];omega)|exact omA,foll hR (congrArg (fun p:Int × Int=>QU4 p.1 p.2) (ct h1 (cf h4 rfl))),by exact exA⟩
  ·have qh2:=yea h2;replace hR:QU4 i j=QO1 (p_.length:Int) (fun (y:Int)=>(decide ((p_.getD (Int.toNat y) zE).at_ > t))):=fo2 (fun p:Int × Int=>QU4 p.1 p.2) (i,j) hR (cf h2 rfl);refine Qi0 (fun r:Int=>I r) (fun r:Int=>[(0,AObj.row 82 1 [[stepL p_]]),(0,AObj.row 3 1 [[I t]])]) (leaf:=i) (foll hR rfl) ?_;exact tt [0,1] (tO rfl (ts (lv lw LowL.nil)) (tO rfl (ts (l1 LowL.nil)) .nil)) t1
 refine us (mv [0,1] (hof1) (dO (ds (lv lw LowL.nil)) (dO (ds (l1 LowL.nil)) .nil)) (d1 (dv (dn_fn .nil (dp (dp .nil))) .nil)) (rO (re (lv lw LowL.nil)) (rO (re (l1 LowL.nil)) .nil)) rx) ?_;exact lfA
theorem Qy7 {p:List Step} {t:Int} (h1:1<=p.length) (h2:p.length<=1000) (h3:(p.getD 0 zE).at_=0) (ht:0<=t):0<=Q80 p t∧Q80 p t<p.length:=by
 obtain ⟨a,b,c,d⟩:=Q0a (fun (y:Int)=>(decide ((p.getD (Int.toNat y) zE).at_ > t))) (N:=p.length) (by omega);have h4:1<=QO1 (p.length:Int) (fun (y:Int)=>(decide ((p.getD (Int.toNat y) zE).at_ > t))):=by
  rcases Int.lt_or_le 0 (QO1 (p.length:Int) (fun (y:Int)=>(decide ((p.getD (Int.toNat y) zE).at_ > t)))) with h|h
  ·omega
  ·have e:QO1 (p.length:Int) (fun (y:Int)=>(decide ((p.getD (Int.toNat y) zE).at_ > t)))=0:=by omega
   have:=d (by omega);rw [e] at this;have:=yfa this;simp only [Int.toNat_zero] at this;omega
 have e:Q80 p t=QO1 (p.length:Int) (fun (y:Int)=>(decide ((p.getD (Int.toNat y) zE).at_ > t))) - 1:=wr (by omega);rw [e];omega
def QJ7 (long:Int) (nodes:Int):Bool:=((QK4 nodes 1 1000000)&&(QK4 long 1 1000000))
theorem fit_asks_c (long:Int) (nodes:Int):GV 88 [I long,I nodes] (Bo (QJ7 long nodes)):=by
 generalize hR:QJ7 long nodes=R;refine gA (kp 5 []) Tryz.func88 ?_;refine us (Qaa nodes 1 1000000 _) ?_;(first|apply u2|apply u3|apply u4|apply us);exact Qaa long 1 1000000 _;exact lfA
def job_copied (j:Job):Job:=j
theorem job_copied_c (j:Job) (hs0:j.sz):GV 262 [Job.a j] (Job.a j):=by
 generalize hR:job_copied j=R;refine gA (kp 3 []) Tryz.func262 ?_;obtain ⟨z1,z2,z3,z4,z5⟩:=Job.zz hs0;refine us (QWc j.shape.alts szA _) ?_;refine us (QYc j.after szA _) ?_;exact lfA
def QK8 :List Node->Nat->Int
 | [],_=>0
 | x_ :: r,i=>bif (!(Qu5 x_)) then 120 else QK8 r (i+1)
def Q34 (l:List Node):Int:=bif (((l.length:Int)==0)||(decide ((l.length:Int) > 48))) then 120 else QK8 l 0
def Qm2 (x_:Alt):List Alt->Nat->Sum (Int) (Nat)
 | [],k=>Sum.inr k
 | x_1 :: r,k=>bif (x_.nodes==x_1.nodes) then Sum.inl 70 else Qm2 x_ r (k+1)
def Qp1 (s:Shape):List Alt->Nat->Int
 | [],_=>0
 | x_ :: r,i=>bif ((!(Qz1 x_.nodes))||(!(Qw2 x_.wall))) then 70 else (Sum.elim id (fun p1:Nat=>Qp1 s r (i+1))) (Qm2 x_ (List.drop (i+1) s.alts) (i+1))
def Q04 (s:Shape) (most:Int):Int:=bif (((((decide ((s.alts.length:Int)<1))||(decide ((s.alts.length:Int) > most)))||(s.min != 0))||(s.max != 0))||(s.wall != 0)) then 70 else Qp1 s s.alts 0
def QC1 (s:Shape):Int:=bif (s.kind==3) then bif (((((decide ((s.alts.length:Int) > 0))||(!(Qz1 s.min)))||(!(Qz1 s.max)))||(decide (s.max<s.min)))||(!(Qw2 s.wall))) then 70 else 0 else bif (s.kind==2) then Q04 s 6 else bif (s.kind != 1) then 70 else Q04 s 1
theorem Qva {s:Shape} (h:(QC1 s != 0)=false) (hk:(s.kind != 3)=false):1<=s.min∧s.min<=s.max∧s.max<=48∧w64 (s.max - s.min)=s.max - s.min:=by
 have hk':s.kind=3:=by simpa using hk
 have h1:Qz1 s.min=true∧Qz1 s.max=true ∧ ¬ s.max<s.min:=by
  simp only [QC1,hk',beq_self_eq_true,cond_true] at h;revert h;cases h2:(((((decide ((s.alts.length:Int) > 0))||(!(Qz1 s.min)))||(!(Qz1 s.max)))||(decide (s.max<s.min)))||(!(Qw2 s.wall))) with
  | true=>simp
  | false=>intro _;simp at h2;exact ⟨h2.1.1.1.2,h2.1.1.2,by omega⟩
 obtain ⟨a,b,c⟩:=h1;simp [Qz1] at a b;exact ⟨by omega,by omega,by omega,wr (by omega)⟩
def QQ6 (a:Shape) (b:Shape):Bool:=(((((a.kind==b.kind)&&(a.min==b.min))&&(a.max==b.max))&&(a.wall==b.wall))&&(Q67 a.alts b.alts))
theorem ref07_Same_c (a:Shape) (b:Shape) (hs0:a.sz) (hs1:b.sz):GV 174 [Shape.a a,Shape.a b] (Bo (QQ6 a b)):=by
 generalize hR:QQ6 a b=R;refine gA (kp 5 []) Tryz.func174 ?_;have hk0:=hs0;obtain z1:a.alts.length<=4294967296:=hs0;have hk1:=hs1;obtain z2:b.alts.length<=4294967296:=hs1;(first|apply u2|apply u3|apply u4|apply us);exact Qze a.alts b.alts szA szA _;exact lfA
def Q47 :List (Nat × Int)->Nat->Int × Int
 | [],n=>((n:Int),0)
 | x_ :: r,n=>bif ((Qo0 x_.2)==0) then ((n:Int),40) else Q47 r (n+1)
def Q75 (s:ByteArray):Int × Int:=Q47 (Qb7 s) 0
def Qs8 (l:List Int) (at_:Int):Nat->Int->Int
 | 0,_=>0
 | m+1,i=>bif (decide (i<(l.length:Int))) then bif ((((((Qo0 (l.getD (Int.toNat at_) 0))==2)&&((Qo0 (l.getD (Int.toNat i) 0))!=2))&&((Qo0 (l.getD (Int.toNat i) 0))!=3))&&((l.getD (Int.toNat i) 0)!=45))&&((l.getD (Int.toNat i) 0)!=95)) then i else bif (((Qo0 (l.getD (Int.toNat at_) 0))==3)&&(!(ref05_small (l.getD (Int.toNat i) 0)))) then i else Qs8 l at_ m (w64 (i+1)) else i
def QD5 (l:List Int) (at_:Int):Int:=Qs8 l at_ ((Int.toNat ((l.length:Int) - (w64 (at_+1))))+1) (w64 (at_+1))
def QP4 (l:List Dep) (i:Nat) (x_:Dep):Nat->Nat->Sum (Bool) (Nat)
 | 0,_=>Sum.inr 0
 | m+1,k=>bif (decide ((k:Int)<(i:Int))) then bif ((l.getD k zC).job==x_.job) then Sum.inl false else QP4 l i x_ m (k+1) else Sum.inr k
def QE5 (l:List Dep):List Dep->Nat->Bool
 | [],_=>true
 | x_ :: r,i=>bif ((!(Qr2 x_.how 1 3))||(!(Qr2 x_.job 1 99999))) then false else (Sum.elim id (fun p1:Nat=>QE5 l r (i+1))) (QP4 l i x_ ((Int.toNat ((i:Int) - (0:Int)))+1) 0)
def QC9 (l:List Dep):Bool:=bif (decide ((l.length:Int) > 4)) then false else QE5 l l 0
def Qa7 (l:List Usage):List Usage->Nat->Int
 | [],_=>0
 | x_ :: r,i=>bif ((((((((i:Int)==200)||(!(Qk4 x_.user)))||(!(Qk4 x_.account)))||(decide (x_.used<0)))||(decide (x_.used > 1000000000000)))||(decide (x_.share<0)))||(decide (x_.share > x_.used))) then 2 else bif ((decide ((i:Int) > 0))&&(!(QG9 (l.getD (Int.toNat (w64 ((i:Int) - 1))) zJ) x_))) then 2 else Qa7 l r (i+1)
def QOb (l:List Usage):Int:=Qa7 l l 0
def QZ0 (s:State) (id_:Int):Job × Bool:=bif ((decide ((Qv1 s.jobs id_)<0))||((s.jobs.getD (Int.toNat (Qv1 s.jobs id_)) zG).state != 2)) then (zG,false) else ((s.jobs.getD (Int.toNat (Qv1 s.jobs id_)) zG),true)
def Q59 (s:Int) (n:Int):Bool:=bif ((decide (n<0))||(decide (n > 63))) then false else ((Int.tmod (wu64 (Int.tdiv s (QHc n))) 2)==1)
def Q24 (from_:Int) (to_:Int):List Step->Int->Nat->Int × Nat
 | [],out,i=>(out,i)
 | x_ :: r,out,i=>bif (((decide (x_.at_ > from_))&&(decide (x_.at_<to_)))&&(decide (x_.free<out))) then Q24 from_ to_ r x_.free (i+1) else Q24 from_ to_ r out (i+1)
def Qhb (out:Int) (i:Nat):Int:=out
def QF9 (p_:List Step) (from_:Int) (to_:Int):Int:=bif (((((Qk1 p_)!=0)||(decide (from_<0)))||(decide (from_ > 1000000)))||(decide (to_<=from_))) then 0 else Qhb ((Q24 from_ to_ p_ (Qf8 p_ from_) 0).1) ((Q24 from_ to_ p_ (Qf8 p_ from_) 0).2)
def QI1 :List Step->List Int->Nat->(List Int) × Nat
 | [],out,i=>(out,i)
 | x_ :: r,out,i=>QI1 r (Q85 out x_.at_) (i+1)
def Q62 :List Int->List Int->Nat->(List Int) × Nat
 | [],out1,i1=>(out1,i1)
 | x_1 :: r,out1,i1=>Q62 r (Q85 out1 x_1) (i1+1)
def Qjb (out1:List Int) (i1:Nat):(List Int):=out1
def Qib (more:List Int) (out:List Int) (i:Nat):(List Int):=Qjb ((Q62 more out 0).1) ((Q62 more out 0).2)
def Q43 (p_:List Step) (more:List Int):(List Int):=Qib more ((QI1 p_ [] 0).1) ((QI1 p_ [] 0).2)
theorem Qu8:∀ (p:List Step) (out:List Int) (i:Nat),(QI1 p out i).1.length<=out.length+p.length
 | [],out,i=>by simp [QI1]
 | x :: r,out,i=>by
  rw [QI1];have h1:=Qu8 r (Q85 out x.at_) (i+1);have h2:=QIc out x.at_;simp only [yka];omega
theorem Qv8:∀ (p out:List Int) (i:Nat),(Q62 p out i).1.length<=out.length+p.length
 | [],out,i=>by simp [Q62]
 | x :: r,out,i=>by
  rw [Q62];have h1:=Qv8 r (Q85 out x) (i+1);have h2:=QIc out x;simp only [yka];omega
theorem QZf (p:List Step) (more:List Int):(Q43 p more).length<=p.length+more.length:=by
 have h1:=Qu8 p [] 0;have h2:=Qv8 more (QI1 p [] 0).1 0;unfold Q43 Qib Qjb;simp only [yVa] at h1;omega
def Q95 (l:List Job) (id_:Int):Job:=bif (decide ((Qv1 l id_)<0)) then zG else (l.getD (Int.toNat (Qv1 l id_)) zG)
def Qt2 (s:List Job) (f:Job->Bool):Bool:=(decide ((Qx2 s f) >= 0))
def Qj7 :List Job->Nat->Bool
 | [],_=>true
 | x_ :: r,i=>bif (!(Q19 x_)) then false else Qj7 r (i+1)
def Qtc (l:List Job):Bool:=bif (decide ((l.length:Int) > 60)) then false else Qj7 l 0
theorem law15_Few_c (l:List Job) (hs0:l.length<=9223372036854775807∧(∀ y ∈ l,y.szM)):GV 26 [jobL l] (Bo (Qtc l)):=by
 generalize hR:Qtc l=R;refine gA (kp 4 [6,10,18]) Tryz.func26 ?_;obtain ⟨z12,z13⟩:=id hs0;refine ai (fun h1=>?_) (fun h2=>?_)
 ·have qh1:=yfa h1;exact lfA
 ·have qh2:=yea h2;refine Qx0 (fun (i:Nat)=>Qj7 (List.drop i l) i=R∧i<=l.length) (fun i=>l.length - i) (fun i=>[(0,jobL l),(2,Bo false),(3,I (i:Int))]) (fun i=>[]) 0 (wkA []) ⟨folA,by exact omA⟩ ?_;clear hR;rintro i ⟨hR,hj⟩;(try dsimp only at hR hj);refine ai (fun h3=>?_) (fun h4=>?_)
  ·have hlt:=ltA h3;rw [Qq0 zG hlt] at hR;have hxz:(l.getD i zG).szM:=Qu4 (by first|assumption|grind) (Job.szz _);have hkz:=hxz;obtain ⟨z5,z6,z7,z8,z9⟩:((l.getD i zG).name).size<=9223372036854775807∧((l.getD i zG).user).size<=9223372036854775807∧((l.getD i zG).account).size<=9223372036854775807∧((((l.getD i zG).shape).alts).length<=9223372036854775807)∧((l.getD i zG).after).length<=9223372036854775807:=hxz;refine ai gkA ?_;refine us (law14_Few_c (l.getD i zG) _) ?_;refine ai (fun h10=>?_) (fun h11=>?_)
   ·exact lfA
   ·exact QD0 (i+1) (wkA []) omA ⟨folA,by exact omA⟩
  ·rw [Qv0 (l:=l) (j:=i) (geA h4)] at hR;exact lfA
def QG0 (x_:Node):Bool:=bif ((((decide (x_.epoch<0))||(decide (x_.epoch > 999999999)))||(!(QH2 x_.since)))||(!(QH2 x_.asked))) then false else bif (x_.state==0) then ((x_.job==0)&&(QE1 ([0]:List Int) x_.want)) else bif (x_.state==1) then (((decide (x_.job >= 1))&&(decide (x_.job<=99999)))&&(QE1 ([0,1,3,4]:List Int) x_.want)) else bif (x_.state==2) then (((decide (x_.job >= 1))&&(decide (x_.job<=99999)))&&(QE1 ([0,2]:List Int) x_.want)) else bif (x_.state==3) then (((decide (x_.job >= 1))&&(decide (x_.job<=99999)))&&(QE1 ([5]:List Int) x_.want)) else bif (x_.state==4) then ((x_.job==0)&&(QE1 ([0,6]:List Int) x_.want)) else false
theorem fleet_fine_c (x_:Node):GV 152 [Node.a x_] (Bo (QG0 x_)):=by
 generalize hR:QG0 x_=R;refine gA (kp 5 [24,35,36,41,44,47,50]) Tryz.func152 ?_;(first|apply u2|apply u3|apply u4|apply us);exact Qea x_.since _;(first|apply u2|apply u3|apply u4|apply us);exact Qea x_.asked _;refine ai (fun h1=>?_) (fun h2=>?_)
 ·exact lfA
 ·refine Or.inl ?_;refine ai (fun h3=>?_) (fun h4=>?_)
  ·(first|apply u2|apply u3|apply u4|apply us);exact AGives.as2 (Qh2 ([0]:List Int) x_.want szA _) (av (Qz3 (c:=(fun q_=>[I q_])) (d:=0) ([0]:List Int) rfl) (a1 .nil));exact lfA
  ·refine ai (fun h5=>?_) (fun h6=>?_)
   ·refine Or.inl ?_;(first|apply u2|apply u3|apply u4|apply us);exact AGives.as2 (Qh2 ([0,1,3,4]:List Int) x_.want szA _) (av (Qz3 (c:=(fun q_=>[I q_])) (d:=0) ([0,1,3,4]:List Int) rfl) (a1 .nil));exact lfA
   ·refine ai (fun h7=>?_) (fun h8=>?_)
    ·refine Or.inl ?_;(first|apply u2|apply u3|apply u4|apply us);exact AGives.as2 (Qh2 ([0,2]:List Int) x_.want szA _) (av (Qz3 (c:=(fun q_=>[I q_])) (d:=0) ([0,2]:List Int) rfl) (a1 .nil));exact lfA
    ·refine ai (fun h9=>?_) (fun h10=>?_)
     ·refine Or.inl ?_;(first|apply u2|apply u3|apply u4|apply us);exact AGives.as2 (Qh2 ([5]:List Int) x_.want szA _) (av (Qz3 (c:=(fun q_=>[I q_])) (d:=0) ([5]:List Int) rfl) (a1 .nil));exact lfA
     ·refine ai (fun h11=>?_) (fun h12=>?_)
      ·refine Or.inl ?_;(first|apply u2|apply u3|apply u4|apply us);exact AGives.as2 (Qh2 ([0,6]:List Int) x_.want szA _) (av (Qz3 (c:=(fun q_=>[I q_])) (d:=0) ([0,6]:List Int) rfl) (a1 .nil));exact lfA
      ·exact lfA
def QM5 (l:List Alt):List Alt->Nat->Bool
 | [],_=>true
 | x_ :: r,i=>bif (QV0 (List.take i l) (fun (y:Alt)=>(x_.nodes==y.nodes))) then false else QM5 l r (i+1)
def Qd5 (l:List Alt):Bool:=QM5 l l 0
theorem shape_apart_c (l:List Alt) (hs0:l.length<=4294967296):GV 240 [altL l] (Bo (Qd5 l)):=by
 generalize hR:Qd5 l=R;refine gA (kp 5 [5,6,7,8,16]) Tryz.func240 ?_;have hk0:=hs0;obtain z9:l.length<=4294967296:=hs0;refine Qx0 (fun (i:Nat)=>QM5 l (List.drop i l) i=R∧i<=l.length) (fun i=>l.length - i) (fun i=>[(0,altL l),(2,Bo false),(5,altL l),(6,I (l.length:Int)),(7,I (i:Int))]) (fun i=>[]) 0 (wkA []) ⟨foll hR rfl,by exact omA⟩ ?_;clear hR;rintro i ⟨hR,hj⟩;(try dsimp only at hR hj);refine ai (fun h1=>?_) (fun h2=>?_)
 ·have hlt:=ltA h1;rw [Qq0 zA hlt] at hR;refine ai gkA ?_;refine ai gkA ?_;have cl1:∀ (y1:Alt),AMoves Tryz.prog 272 [Alt.a y1,AVal.ptr 0 0 2 0 0] [(0,AObj.row 178 2 [[I (l.getD i zA).nodes,I (l.getD i zA).wall]])] 1 (Bo ((fun (y:Alt)=>((l.getD i zA).nodes==y.nodes)) y1)) [(0,AObj.row 178 2 [[I (l.getD i zA).nodes,I (l.getD i zA).wall]])]:=by
   intro y1;have hR:(fun (y:Alt)=>((l.getD i zA).nodes==y.nodes)) y1=(fun (y:Alt)=>((l.getD i zA).nodes==y.nodes)) y1:=rfl;refine mo (kp 4 []) Tryz.func272 ?_;refine Qi0 (fun r:Bool=>Bo r) (fun _=>[(0,AObj.row 178 2 [[I (l.getD i zA).nodes,I (l.getD i zA).wall]])]) (leaf:=((l.getD i zA).nodes==y1.nodes)) (foll hR rfl) ?_;exact tt [0] (tO rfl (ts Alt.lo) .nil) t1
  have hof1:AMoves Tryz.prog 241 [altL (List.take i l),AVal.fn (.func 272) [] [AVal.ptr 0 0 2 0 0]] [(0,AObj.row 178 2 [[I (l.getD i zA).nodes,I (l.getD i zA).wall]])] 1 (Bo (QV0 (List.take i l) (fun (y:Alt)=>((l.getD i zA).nodes==y.nodes)))) [(0,AObj.row 178 2 [[I (l.getD i zA).nodes,I (l.getD i zA).wall]])]:=by
   have hR:QV0 (List.take i l) (fun (y:Alt)=>((l.getD i zA).nodes==y.nodes))=QV0 (List.take i l) (fun (y:Alt)=>((l.getD i zA).nodes==y.nodes)):=rfl;refine mo (kp 5 []) Tryz.func241 ?_;have hof2:AMoves Tryz.prog 273 [altL (List.take i l),AVal.fn (.func 272) [] [AVal.ptr 0 0 2 0 0]] [(0,AObj.row 178 2 [[I (l.getD i zA).nodes,I (l.getD i zA).wall]])] 1 (I (Q81 (List.take i l) (fun (y:Alt)=>((l.getD i zA).nodes==y.nodes)))) [(0,AObj.row 178 2 [[I (l.getD i zA).nodes,I (l.getD i zA).wall]])]:=by
    have hR:Q81 (List.take i l) (fun (y:Alt)=>((l.getD i zA).nodes==y.nodes))=Q81 (List.take i l) (fun (y:Alt)=>((l.getD i zA).nodes==y.nodes)):=rfl;refine mo (kp 6 [7,8,9,16]) Tryz.func273 ?_;refine Qx0 (fun (i1:Nat)=>Qg3 (fun (y:Alt)=>((l.getD i zA).nodes==y.nodes)) (List.drop i1 (List.take i l)) i1=Q81 (List.take i l) (fun (y:Alt)=>((l.getD i zA).nodes==y.nodes))∧i1<=(List.take i l).length) (fun i1=>(List.take i l).length - i1) (fun i1=>[(0,altL (List.take i l)),(1,AVal.fn (.func 272) [] [AVal.ptr 0 0 2 0 0]),(4,I 0),(7,I ((List.take i l).length:Int)),(8,I (i1:Int))]) (fun i1=>[(0,AObj.row 178 2 [[I (l.getD i zA).nodes,I (l.getD i zA).wall]])]) 0 (wkA [0]) ⟨foll hR rfl,by exact omA⟩ ?_;clear hR;rintro i1 ⟨hR,hj⟩;(try dsimp only at hR hj);refine ai (fun h3=>?_) (fun h4=>?_)
    ·have hlt:=ltA h3;rw [Qq0 zA hlt] at hR;refine ai gkA ?_;refine us (mv [0] (cl1 ((List.take i l).getD i1 zA)) (dO (ds Alt.lo) .nil) (dl (Alt.low _ _) (dp .nil)) (rO (re Alt.lo) .nil) rx) ?_;refine ai (fun h5=>?_) (fun h6=>?_)
     ·refine Qi0 (fun r:Int=>I r) (fun r:Int=>[(0,AObj.row 178 2 [[I (l.getD i zA).nodes,I (l.getD i zA).wall]])]) (leaf:=(i1:Int)) (foll hR (ct h5 rfl)) ?_;exact tt [0] (tO rfl (ts Alt.lo) .nil) t1
     ·exact QD0 (i1+1) (wkA [0]) omA ⟨folA,by exact omA⟩
    ·rw [Qv0 (l:=(List.take i l)) (j:=i1) (geA h4)] at hR;refine Qi0 (fun r:Int=>I r) (fun r:Int=>[(0,AObj.row 178 2 [[I (l.getD i zA).nodes,I (l.getD i zA).wall]])]) (leaf:=(-1)) (foll hR rfl) ?_;exact tt [0] (tO rfl (ts Alt.lo) .nil) t1
   refine us (mv [0] (hof2) (dO (ds Alt.lo) .nil) (dl lw (dv (dn_fn .nil (dp .nil)) .nil)) (rO (re Alt.lo) .nil) rx) ?_;refine Qi0 (fun r:Bool=>Bo r) (fun r:Bool=>[(0,AObj.row 178 2 [[I (l.getD i zA).nodes,I (l.getD i zA).wall]])]) (leaf:=(decide ((Q81 (List.take i l) (fun (y:Alt)=>((l.getD i zA).nodes==y.nodes))) >= 0))) (foll hR rfl) ?_;exact tt [0] (tO rfl (ts Alt.lo) .nil) t1
  refine us (mv [0] (hof1) (dO (ds Alt.lo) .nil) (dv (dn_as (as_take l i ckA) lw) (dv (dn_fn .nil (dp .nil)) .nil)) (rO (re Alt.lo) .nil) rx) ?_;refine ai (fun h7=>?_) (fun h8=>?_)
  ·exact lfA
  ·exact QD0 (i+1) (wkA []) omA ⟨folA,by exact omA⟩
 ·rw [Qv0 (l:=l) (j:=i) (geA h2)] at hR;exact lfA
def Qk5 (s:ByteArray):Bool:=(((Qz4 s).2==0)&&(QG2 ((Qz4 s).1) 1 16))
theorem Qjd (s:ByteArray) (hs0:s.size<=4294967296):GV 266 [Sg s] (Bo (Qk5 s)):=by
 generalize hR:Qk5 s=R;refine gA (kp 5 []) Tryz.func266 ?_;have hk0:=hs0;obtain z1:s.size<=4294967296:=hs0;refine us (QRc s szA _) ?_;(first|apply u2|apply u3|apply u4|apply us);exact Ql3 ((Qz4 s).1) 1 16 _;exact lfA
def QK6 (s:ByteArray):Int × Bool:=bif (((!(QU7 s))||(decide ((ByteArray.size s:Int) > 9)))||((decide ((ByteArray.size s:Int) > 1))&&(((s.data.toList.getD 0 0).toNat:Int)==48))) then (0,false) else ((QEa s).1,true)
theorem lex_number_c (s:ByteArray) (hs0:s.size<=4294967296):GV 334 [Sg s] (AVal.tup [I ((QK6 s).1),Bo ((QK6 s).2)]):=by
 generalize hR:QK6 s=R;refine gA (kp 6 [23]) Tryz.func334 ?_;have hk0:=hs0;obtain z3:s.size<=4294967296:=hs0;refine us (QYd s szA _) ?_;refine ai gkA ?_;refine ai (fun h1=>?_) (fun h2=>?_)
 ·obtain rfl:=foll hR (ct h1 rfl);exact Qb0 (Low.tup' (l1 (l1 .nil))) (Seen.tup (e1 (e1 .nil)))
 ·refine us (strconv_Atoi_c s szA (by exact lex_digits_ok (by assumption)) _) ?_;refine dchk (by kernel_rfl) ?_;(repeat ((first|refine ai rfl ?_|refine ai (fun _=>rfl) ?_)));obtain rfl:=foll hR (cf h2 rfl);exact Qb0 (Low.tup' (l1 (l1 .nil))) (Seen.tup (e1 (e1 .nil)))
theorem Q2f (l:List Int) (r_:Int) (hl:l.length<=4294967296):AMoves Tryz.prog 323 [.ptr 0 0 2 0 0,J r_] [(0,.row 339 2 [[.sel 0 0 2 0 0,.own 1 0 1 0 l.length]]),(0,Qj5 l)] 1 (.tup [I (w64 (((QN0 l r_).length:Int) - (l.length:Int))),.lit .nilIface]) [(0,.row 339 2 [[.ptr 0 0 2 0 0,.own 1 0 1 0 (QN0 l r_).length]]),(0,Qj5 (QN0 l r_))]:=by
 refine AMoves.of_cwp (fun t=>Nat.ble 1000000 t||Nat.blt t 7) Tryz.func323 rfl rfl rfl ?_;refine us (AMoves.on [0,1] (copyCheck_m bldT0 (x:=.own 1 0 1 0 l.length) (rest:=[(0,Qj5 l)]) (n0:=2) (by simp)) (by decide) rfl rfl rfl (.cons _ _ _ _ (.row1 _ _ _ _ (.cons _ _ _ _ (dn_sel rfl) (.cons _ _ _ _ (dn_own rfl) .nil))) (.cons _ _ _ _ (.same _ (QD8 fun _=>lowL1 rfl)) .nil)) rfl (.cons _ _ _ _ (dn_ptr rfl) .nil) (.cons _ _ _ _ (RenO.row1 _ _ _ _ (.cons _ _ _ _ (Ren.ptr _ _ _ _ _ _ rfl) (.cons _ _ _ _ (Ren.own _ _ _ _ _ _ rfl) .nil))) (.cons _ _ _ _ (RenO.same _ (QD8 fun _=>lowL1 rfl)) .nil)) (Ren.low _ (.tup _ (fun x h=>nomatch h)))) ?_;refine us (AMoves.on [1] (QMd l r_ hl) (by decide) rfl rfl rfl (.cons _ _ _ _ (dn_row rfl (QD8 fun _=>lowL1 rfl)) .nil) rfl (.cons _ _ _ _ (QY5 rfl rfl) (.cons _ _ _ _ (QG6 (QZ2 rfl)) .nil)) (.cons _ _ _ _ (RenO.same _ (QD8 fun _=>lowL1 rfl)) .nil) (Ren.own _ _ _ _ _ _ rfl)) ?_;refine Qi0 (fun _:Unit=>.tup [I (w64 (((QN0 l r_).length:Int) - (l.length:Int))),.lit .nilIface]) (fun _:Unit=>[(0,.row 339 2 [[.ptr 0 0 2 0 0,.own 1 0 1 0 (QN0 l r_).length]]),(0,Qj5 (QN0 l r_))]) (leaf:=()) rfl ?_;exact Qn4 [0,2] rfl (by decide) (.cons 0 _ _ _ _ rfl (QV2 (.cons _ _ _ _ (Qi1 0 rfl rfl) (.cons _ _ _ _ (Q9d 1 rfl rfl rfl) .nil))) (.cons 2 _ _ _ _ rfl (Qad rfl (QD8 fun _=>lowL1 rfl)) .nil)) (turn_tup (.cons _ _ _ _ (QH3 (QZ2 rfl)) (.cons _ _ _ _ (QH3 (QZ2 rfl)) .nil)))
def Q25 (l:List Dep):List Dep->Nat->Bool
 | [],_=>(decide ((l.length:Int)<=4))
 | x_ :: r,i=>bif (((!(QG2 x_.how 1 3))||(!(QPd x_.job)))||(Qp0 (List.take i l) (fun (y:Dep)=>(y.job==x_.job)))) then false else Q25 l r (i+1)
def QH7 (l:List Dep):Bool:=Q25 l l 0
theorem cmd_deps_c (l:List Dep) (hs0:l.length<=4294967296):GV 268 [depL l] (Bo (QH7 l)):=by
 generalize hR:QH7 l=R;refine gA (kp 6 [6,7,8,9,30]) Tryz.func268 ?_;have hk0:=hs0;obtain z9:l.length<=4294967296:=hs0;refine Qx0 (fun (i:Nat)=>Q25 l (List.drop i l) i=R∧i<=l.length) (fun i=>l.length - i) (fun i=>[(0,depL l),(2,Bo false),(6,depL l),(7,I (l.length:Int)),(8,I (i:Int))]) (fun i=>[]) 0 (wkA []) ⟨foll hR rfl,by exact omA⟩ ?_;clear hR;rintro i ⟨hR,hj⟩;(try dsimp only at hR hj);refine ai (fun h1=>?_) (fun h2=>?_)
 ·have hlt:=ltA h1;rw [Qq0 zC hlt] at hR;refine ai gkA ?_;refine ai gkA ?_;have cl1:∀ (y1:Dep),AMoves Tryz.prog 295 [Dep.a y1,AVal.ptr 0 0 2 0 0] [(0,AObj.row 191 2 [[I (l.getD i zC).how,I (l.getD i zC).job]])] 1 (Bo ((fun (y:Dep)=>(y.job==(l.getD i zC).job)) y1)) [(0,AObj.row 191 2 [[I (l.getD i zC).how,I (l.getD i zC).job]])]:=by
   intro y1;have hR:(fun (y:Dep)=>(y.job==(l.getD i zC).job)) y1=(fun (y:Dep)=>(y.job==(l.getD i zC).job)) y1:=rfl;refine mo (kp 4 []) Tryz.func295 ?_;refine Qi0 (fun r:Bool=>Bo r) (fun _=>[(0,AObj.row 191 2 [[I (l.getD i zC).how,I (l.getD i zC).job]])]) (leaf:=(y1.job==(l.getD i zC).job)) (foll hR rfl) ?_;exact tt [0] (tO rfl (ts Dep.lo) .nil) t1
  have hof1:AMoves Tryz.prog 194 [depL (List.take i l),AVal.fn (.func 295) [] [AVal.ptr 0 0 2 0 0]] [(0,AObj.row 191 2 [[I (l.getD i zC).how,I (l.getD i zC).job]])] 1 (Bo (Qp0 (List.take i l) (fun (y:Dep)=>(y.job==(l.getD i zC).job)))) [(0,AObj.row 191 2 [[I (l.getD i zC).how,I (l.getD i zC).job]])]:=by
   have hR:Qp0 (List.take i l) (fun (y:Dep)=>(y.job==(l.getD i zC).job))=Qp0 (List.take i l) (fun (y:Dep)=>(y.job==(l.getD i zC).job)):=rfl;refine mo (kp 5 []) Tryz.func194 ?_;have hof2:AMoves Tryz.prog 237 [depL (List.take i l),AVal.fn (.func 295) [] [AVal.ptr 0 0 2 0 0]] [(0,AObj.row 191 2 [[I (l.getD i zC).how,I (l.getD i zC).job]])] 1 (I (Q91 (List.take i l) (fun (y:Dep)=>(y.job==(l.getD i zC).job)))) [(0,AObj.row 191 2 [[I (l.getD i zC).how,I (l.getD i zC).job]])]:=by
    have hR:Q91 (List.take i l) (fun (y:Dep)=>(y.job==(l.getD i zC).job))=Q91 (List.take i l) (fun (y:Dep)=>(y.job==(l.getD i zC).job)):=rfl;refine mo (kp 6 [7,8,9,16]) Tryz.func237 ?_;refine Qx0 (fun (i1:Nat)=>Qh3 (fun (y:Dep)=>(y.job==(l.getD i zC).job)) (List.drop i1 (List.take i l)) i1=Q91 (List.take i l) (fun (y:Dep)=>(y.job==(l.getD i zC).job))∧i1<=(List.take i l).length) (fun i1=>(List.take i l).length - i1) (fun i1=>[(0,depL (List.take i l)),(1,AVal.fn (.func 295) [] [AVal.ptr 0 0 2 0 0]),(4,I 0),(7,I ((List.take i l).length:Int)),(8,I (i1:Int))]) (fun i1=>[(0,AObj.row 191 2 [[I (l.getD i zC).how,I (l.getD i zC).job]])]) 0 (wkA [0]) ⟨foll hR rfl,by exact omA⟩ ?_;clear hR;rintro i1 ⟨hR,hj⟩;(try dsimp only at hR hj);refine ai (fun h3=>?_) (fun h4=>?_)
    ·have hlt:=ltA h3;rw [Qq0 zC hlt] at hR;refine ai gkA ?_;refine us (mv [0] (cl1 ((List.take i l).getD i1 zC)) (dO (ds Dep.lo) .nil) (dl (Dep.low _ _) (dp .nil)) (rO (re Dep.lo) .nil) rx) ?_;refine ai (fun h5=>?_) (fun h6=>?_)
     ·refine Qi0 (fun r:Int=>I r) (fun r:Int=>[(0,AObj.row 191 2 [[I (l.getD i zC).how,I (l.getD i zC).job]])]) (leaf:=(i1:Int)) (foll hR (ct h5 rfl)) ?_;exact tt [0] (tO rfl (ts Dep.lo) .nil) t1
     ·exact QD0 (i1+1) (wkA [0]) omA ⟨folA,by exact omA⟩
    ·rw [Qv0 (l:=(List.take i l)) (j:=i1) (geA h4)] at hR;refine Qi0 (fun r:Int=>I r) (fun r:Int=>[(0,AObj.row 191 2 [[I (l.getD i zC).how,I (l.getD i zC).job]])]) (leaf:=(-1)) (foll hR rfl) ?_;exact tt [0] (tO rfl (ts Dep.lo) .nil) t1
   refine us (mv [0] (hof2) (dO (ds Dep.lo) .nil) (dl lw (dv (dn_fn .nil (dp .nil)) .nil)) (rO (re Dep.lo) .nil) rx) ?_;refine Qi0 (fun r:Bool=>Bo r) (fun r:Bool=>[(0,AObj.row 191 2 [[I (l.getD i zC).how,I (l.getD i zC).job]])]) (leaf:=(decide ((Q91 (List.take i l) (fun (y:Dep)=>(y.job==(l.getD i zC).job))) >= 0))) (foll hR rfl) ?_;exact tt [0] (tO rfl (ts Dep.lo) .nil) t1
  refine us (mv [0] (hof1) (dO (ds Dep.lo) .nil) (dv (dn_as (as_take l i ckA) lw) (dv (dn_fn .nil (dp .nil)) .nil)) (rO (re Dep.lo) .nil) rx) ?_;refine us (Ql3 ((l.getD i zC).how) 1 3 _) ?_;(first|apply u2|apply u3|apply u4|apply us);exact QQe ((l.getD i zC).job) _;refine ai (fun h7=>?_) (fun h8=>?_)
  ·exact lfA
  ·exact QD0 (i+1) (wkA []) omA ⟨folA,by exact omA⟩
 ·rw [Qv0 (l:=l) (j:=i) (geA h2)] at hR;exact lfA
def QJa (a:Cmd) (b:Cmd):Bool:=bif ((!(Qd9 a.shape b.shape))||(!(QW5 a.after b.after))) then false else ((((((((((((a.kind==b.kind)&&(a.job==b.job))&&(ByteArray.toList a.name==ByteArray.toList b.name))&&(ByteArray.toList a.user==ByteArray.toList b.user))&&(ByteArray.toList a.account==ByteArray.toList b.account))&&(a.prio==b.prio))&&(a.hasPrio==b.hasPrio))&&(a.time==b.time))&&(a.hasTime==b.hasTime))&&(a.node==b.node))&&(a.nodes==b.nodes))&&(a.from_==b.from_))
theorem cmd_Same_c (a:Cmd) (b:Cmd) (hs0:a.sz) (hs1:b.sz):GV 235 [Cmd.a a,Cmd.a b] (Bo (QJa a b)):=by
 generalize hR:QJa a b=R;refine gA (kp 5 [18]) Tryz.func235 ?_;have hk0:=hs0;obtain ⟨z3,z4,z5,z6,z7⟩:a.name.size<=4294967296∧a.user.size<=4294967296∧a.account.size<=4294967296∧(a.shape.alts.length<=4294967296)∧a.after.length<=4294967296:=hs0;have hk1:=hs1;obtain ⟨z8,z9,z10,z11,z12⟩:b.name.size<=4294967296∧b.user.size<=4294967296∧b.account.size<=4294967296∧(b.shape.alts.length<=4294967296)∧b.after.length<=4294967296:=hs1;refine us (shape_Same_c a.shape b.shape szA szA _) ?_;(first|apply u2|apply u3|apply u4|apply us);exact Q0d a.after b.after szA szA _;refine ai (fun h1=>?_) (fun h2=>?_)
 ·exact lfA
 ·exact lfA
def Qr6 (set_:Int):Bool:=((wu64 (BitVec.ofInt 64 set_ &&& ~~~(BitVec.ofInt 64 (QD3 48))).toNat)==0)
theorem Qx9 (set_:Int):GV 225 [U set_] (Bo (Qr6 set_)):=by
 generalize hR:Qr6 set_=R;refine gA (kp 3 []) Tryz.func225 ?_;refine us (nodeset_All_c 48 _) ?_;exact lfA
def Ql7 (a:Usage) (b:Usage):Int:=(QKa ([(QY0 a.user b.user),(QY0 a.account b.account)]:List Int))
theorem Qbb (a:Usage) (b:Usage) (hs0:a.sz) (hs1:b.sz):GV 181 [Usage.a a,Usage.a b] (I (Ql7 a b)):=by
 generalize hR:Ql7 a b=R;refine gA (kp 5 []) Tryz.func181 ?_;obtain ⟨z1,z2⟩:=Usage.zz hs0;obtain ⟨z3,z4⟩:=Usage.zz hs1;refine dchk (by kernel_rfl) ?_;(first|apply u2|apply u3|apply u4|apply us);exact Qb4 a.user b.user _;(first|apply u2|apply u3|apply u4|apply us);exact Qb4 a.account b.account _;(first|apply u2|apply u3|apply u4|apply us);exact AGives.as2 (QQd ([(QY0 a.user b.user),(QY0 a.account b.account)]:List Int) szA _) (av (Qz3 (c:=(fun q_=>[I q_])) (d:=0) ([(QY0 a.user b.user),(QY0 a.account b.account)]:List Int) rfl) .nil);(repeat ((first|refine ai rfl ?_|refine ai (fun _=>rfl) ?_|refine ai (fun _=>Qb4 a.user b.user _) ?_|refine ai (fun _=>Qb4 a.account b.account _) ?_|refine ai (fun _=>AGives.as2 (QQd ([(QY0 a.user b.user),(QY0 a.account b.account)]:List Int) szA _) (av (Qz3 (c:=(fun q_=>[I q_])) (d:=0) ([(QY0 a.user b.user),(QY0 a.account b.account)]:List Int) rfl) .nil)) ?_)));exact lfA
def QP5 (is:Int->Node->Bool):List Node->List Int->Nat->(List Int)
 | [],l,_=>l
 | x_ :: r,l,i=>bif (is (i:Int) x_) then QP5 is r (l++([(i:Int)]:List Int)) (i+1) else QP5 is r l (i+1)
def Q84 (l:List Int):Int:=(QO0 l).1
def QM2 (s:State) (is:Int->Node->Bool):Int:=Q84 (QP5 is s.nodes [] 0)
def QO5 (s:State) (jobs:List (Int × Job)) (all_:List (Int × Resize)):List Node->Nat->Bool
 | [],_=>true
 | x_ :: r,i=>bif ((x_.state==1)&&((!(getM x_.job jobs).isSome)||(!(QU0 (((getM x_.job jobs).getD zG).nodes) (i:Int))))) then false else bif ((x_.state==2)&&(!(getM x_.job jobs).isSome)) then false else bif (((x_.state==2)||(x_.want==4))&&(!(QU0 (((getM x_.job all_).getD zH).nodes) (i:Int)))) then false else bif ((x_.state==3)&&(decide (x_.job >= s.nextJob))) then false else QO5 s jobs all_ r (i+1)
def Q63 (s:State) (jobs:List (Int × Job)) (all_:List (Int × Resize)):Bool:=QO5 s jobs all_ s.nodes 0
theorem state_nodes_c (s:State) (jobs:List (Int × Job)) (all_:List (Int × Resize)) (hs0:s.sz):AMoves Tryz.prog 76 [State.a s,AVal.map 0,AVal.map 1] [(0,AObj.other (.map (mapEs ik Job.a 0 jobs) jobs.length)),(0,AObj.other (.map (mapEs ik Resize.a 0 all_) all_.length))] 2 (Bo (Q63 s jobs all_)) [(0,AObj.other (.map (mapEs ik Job.a 0 jobs) jobs.length)),(0,AObj.other (.map (mapEs ik Resize.a 0 all_) all_.length))]:=by
 generalize hR:Q63 s jobs all_=R;refine mo (kp 12 [13,14,15,16,35,50,58,70]) Tryz.func76 ?_;have hk0:=hs0;obtain ⟨z11,z12,z13,z14,z15,z16,z17⟩:=hs0;refine Qx0 (fun (i:Nat)=>QO5 s jobs all_ (List.drop i s.nodes) i=R∧i<=s.nodes.length) (fun i=>s.nodes.length - i) (fun i=>[(1,AVal.map 0),(2,AVal.map 1),(3,AVal.ptr 2 0 8 0 0),(6,Bo false),(13,nodeL s.nodes),(14,I (s.nodes.length:Int)),(15,I (i:Int))]) (fun i=>[(0,AObj.other (.map (mapEs ik Job.a 0 jobs) jobs.length)),(0,AObj.other (.map (mapEs ik Resize.a 0 all_) all_.length)),(0,AObj.row 28 8 [[I s.now,nodeL s.nodes,jobL s.jobs,QN1 s.resizes,bookL s.books,Q93 s.ledger,I s.nextJob,I s.nextBook]])]) 0 (wkA [0,1,2]) ⟨foll hR rfl,by exact omA⟩ ?_;clear hR;rintro i ⟨hR,hj⟩;(try dsimp only at hR hj);refine ai (fun h1=>?_) (fun h2=>?_)
 ·have hlt:=ltA h1;rw [Qq0 zF hlt] at hR;refine ai gkA ?_;(first|refine ⟨_,_,QP1 rfl _ _,QQ1 (ek:=ik) ((s.nodes.getD i zF).job) jobs zG (as_agg (a1 (a1 (a1 (a1 (a1 (av (Qe7) (a1 (a1 (a1 (a1 (av (Qe7) (a1 (a1 (a1 (a1 (a1 (a1 (a1 (a1 (a1 .nil))))))))))))))))))))),?_⟩|refine ⟨_,fun _=>⟨_,_,QP1 rfl _ _,QQ1 (ek:=ik) ((s.nodes.getD i zF).job) jobs zG (as_agg (a1 (a1 (a1 (a1 (a1 (av (Qe7) (a1 (a1 (a1 (a1 (av (Qe7) (a1 (a1 (a1 (a1 (a1 (a1 (a1 (a1 (a1 .nil))))))))))))))))))))),rfl,rfl⟩,?_⟩|refine ⟨_,rfl,⟨_,_,QP1 rfl _ _,QQ1 (ek:=ik) ((s.nodes.getD i zF).job) jobs zG (as_agg (a1 (a1 (a1 (a1 (a1 (av (Qe7) (a1 (a1 (a1 (a1 (av (Qe7) (a1 (a1 (a1 (a1 (a1 (a1 (a1 (a1 (a1 .nil))))))))))))))))))))),Sub.refl _,rfl⟩,?_⟩);(first|apply u2|apply u3|apply u4|apply us);exact QO7 (((getM (s.nodes.getD i zF).job jobs).getD zG).nodes) (i:Int) _;refine ai (fun h3=>?_) (fun h4=>?_)
  ·obtain rfl:=foll hR (ct h3 rfl);exact rq (ttA [0,1])
  ·refine ai (fun h5=>?_) (fun h6=>?_)
   ·obtain rfl:=foll hR (cf h4 (ct h5 rfl));exact rq (ttA [0,1])
   ·(first|refine ⟨_,_,QP1 rfl _ _,QQ1 (ek:=ik) ((s.nodes.getD i zF).job) all_ zH (AsA.refl _),?_⟩|refine ⟨_,fun _=>⟨_,_,QP1 rfl _ _,QQ1 (ek:=ik) ((s.nodes.getD i zF).job) all_ zH (AsA.refl _),rfl,rfl⟩,?_⟩|refine ⟨_,rfl,⟨_,_,QP1 rfl _ _,QQ1 (ek:=ik) ((s.nodes.getD i zF).job) all_ zH (AsA.refl _),Sub.refl _,rfl⟩,?_⟩);(first|apply u2|apply u3|apply u4|apply us);exact QO7 (((getM (s.nodes.getD i zF).job all_).getD zH).nodes) (i:Int) _;refine ai (fun h7=>?_) (fun h8=>?_)
    ·obtain rfl:=foll hR (cf h4 (cf h6 (ct h7 rfl)));exact rq (ttA [0,1])
    ·refine ai (fun h9=>?_) (fun h10=>?_)
     ·obtain rfl:=foll hR (cf h4 (cf h6 (cf h8 (ct h9 rfl))));exact rq (ttA [0,1])
     ·exact QD0 (i+1) (wkA [0,1,2]) omA ⟨folA,by exact omA⟩
 ·rw [Qv0 (l:=s.nodes) (j:=i) (geA h2)] at hR;obtain rfl:=foll hR rfl;exact rq (ttA [0,1])
def Q33 (p_:List Step) (to_:Int):Nat->Int->Int->Int × Int
 | 0,_,_=>(0,0)
 | m+1,i,n=>bif ((decide (i<(p_.length:Int)))&&(decide ((p_.getD (Int.toNat i) zE).at_<to_))) then Q33 p_ to_ m (w64 (i+1)) (min n (p_.getD (Int.toNat i) zE).free) else (i,n)
def QK3 (i:Int) (n:Int):Int:=n
def QI0 (p_:List Step) (from_:Int) (to_:Int):Int:=bif ((((QX1 p_)!=0)||(!(QJ2 from_)))||(decide (to_<=from_))) then 0 else QK3 ((Q33 p_ to_ ((Int.toNat ((p_.length:Int) - (w64 ((Q80 p_ from_)+1))))+1) (w64 ((Q80 p_ from_)+1)) ((p_.getD (Int.toNat (Q80 p_ from_)) zE).free)).1) ((Q33 p_ to_ ((Int.toNat ((p_.length:Int) - (w64 ((Q80 p_ from_)+1))))+1) (w64 ((Q80 p_ from_)+1)) ((p_.getD (Int.toNat (Q80 p_ from_)) zE).free)).2)
theorem Qqa (p_:List Step) (from_:Int) (to_:Int) (hs0:p_.length<=4294967296):GV 83 [stepL p_,I from_,I to_] (I (QI0 p_ from_ to_)):=by
 generalize hR:QI0 p_ from_ to_=R;refine gA (kp 9 [21,44]) Tryz.func83 ?_;have hk0:=hs0;obtain z5:p_.length<=4294967296:=hs0;refine us (Qv6 p_ szA _) ?_;(first|apply u2|apply u3|apply u4|apply us);exact Q5e from_ _;refine ai (fun h1=>?_) (fun h2=>?_)
 ·exact lfA
 ·refine us (Qra p_ from_ szA _) ?_;have hb:=Bool.or_eq_false_iff.1 (Bool.or_eq_false_iff.1 h2).1;have hc:=QP6 hb.1;have hq:=hb.2;simp [QJ2] at hq;have hp:=Qy7 hc.1 hc.2.1 hc.2.2 (t:=from_) (by omega);have hw:w64 (Q80 p_ from_+1)=Q80 p_ from_+1:=wr (by omega);refine ai gkA ?_;refine QP0 (fun (i:Int) (n:Int)=>∃ m,(Int.toNat ((p_.length:Int) - i))<m∧QK3 (Q33 p_ to_ m i n).1 (Q33 p_ to_ m i n).2=R∧0<=i∧i<=(p_.length:Int)) (fun i n=>(Int.toNat ((p_.length:Int) - i))) (fun i n=>[(0,stepL p_),(2,I to_),(6,I 0),(7,I i),(8,I n)]) (fun i n=>[]) (w64 ((Q80 p_ from_)+1)) ((p_.getD (Int.toNat (Q80 p_ from_)) zE).free) (wkA []) ⟨_,yeb _,foll hR (cf h2 rfl),by first|((rw [hw];omega))|first|((rw [hw1];omega))|exact exA⟩ ?_;clear hR;rintro i n ⟨m,hm,hR,hx⟩;(try dsimp only at hR hm hx);obtain ⟨m,rfl⟩:=sucA m;refine ai gkA ?_;refine ai (fun h3=>?_) (fun h4=>?_)
  ·have hw1:w64 (i+1)=i+1:=wr (by omega);refine ai gkA ?_;exact Qr0 (w64 (i+1)) (min n (p_.getD (Int.toNat i) zE).free) (wkA []) (by first|((dsimp only;rw [hw1];omega))|exact omA) ⟨m,by first|((dsimp only;rw [hw1];omega))|exact omA,foll hR (congrArg (fun p:Int × Int=>QK3 p.1 p.2) (ct h3 rfl)),by first|((rw [hw];omega))|first|((rw [hw1];omega))|exact exA⟩
  ·replace hR:QK3 i n=R:=fo2 (fun p:Int × Int=>QK3 p.1 p.2) (i,n) hR (cf h4 rfl);exact lfA
def Ql2 (c4:List Step):(List Step) × Int:=bif ((QX1 c4)!=0) then ([],3) else (c4,0)
def QC5 :List Step->Nat->List Step->(List Step)
 | [],_,c5=>c5
 | x_ :: r,i2,c5=>QC5 r (i2+1) (Q21 x_.at_ x_.free c5)
def QY3 (c5:List Step):(List Step) × Int:=Ql2 c5
def QP2 (p_:List Step) (to_:Int) (i:Int) (last:Int) (c2:List Step):(List Step) × Int:=bif (i==(p_.length:Int)) then bif (decide (to_<=1000000)) then Ql2 (Q21 to_ last c2) else Ql2 c2 else QY3 (QC5 (List.drop (Int.toNat i) p_) 0 c2)
def Qo3 (p_:List Step) (to_:Int) (n:Int):Nat->Int->Int->List Step->(List Step) × Int
 | 0,_,_,_=>([],0)
 | m+1,i1,last1,c3=>bif (decide (i1<(p_.length:Int))) then bif (decide ((p_.getD (Int.toNat i1) zE).at_<to_)) then Qo3 p_ to_ n m (w64 (i1+1)) ((p_.getD (Int.toNat i1) zE).free) (Q21 ((p_.getD (Int.toNat i1) zE).at_) (w64 ((p_.getD (Int.toNat i1) zE).free+n)) c3) else bif (decide ((p_.getD (Int.toNat i1) zE).at_ > to_)) then QP2 p_ to_ i1 ((p_.getD (Int.toNat i1) zE).free) (Q21 to_ ((p_.getD (Int.toNat (w64 (i1 - 1))) zE).free) c3) else QP2 p_ to_ i1 ((p_.getD (Int.toNat i1) zE).free) c3 else QP2 p_ to_ i1 last1 c3
def QN4 (p_:List Step) (from_:Int) (to_:Int) (n:Int) (c:List Step):(List Step) × Int:=Qo3 p_ to_ n ((Int.toNat ((p_.length:Int) - (w64 ((Q80 p_ from_)+1))))+1) (w64 ((Q80 p_ from_)+1)) ((p_.getD (Int.toNat (Q80 p_ from_)) zE).free) (Q21 from_ (w64 ((p_.getD (Int.toNat (Q80 p_ from_)) zE).free+n)) c)
def QI2 (p_:List Step) (from_:Int) (to_:Int) (n:Int):(List Step) × Int:=bif ((QX1 p_)!=0) then ([],100) else bif (((!(QJ2 from_))||(decide (to_<from_)))||(!(Qz2 n))) then ([],2) else bif (to_==from_) then (p_,0) else bif (decide ((p_.getD (Int.toNat (Q80 p_ from_)) zE).at_<from_)) then QN4 p_ from_ to_ n (Q21 ((p_.getD (Int.toNat (Q80 p_ from_)) zE).at_) ((p_.getD (Int.toNat (Q80 p_ from_)) zE).free) (List.take (Int.toNat (Q80 p_ from_)) p_)) else QN4 p_ from_ to_ n (List.take (Int.toNat (Q80 p_ from_)) p_)
theorem b2a0 {P:Prop} (h:P:=by first|((exact ⟨by omega,by omega,yJa (QN3 _ _ _) (by omega)⟩))|first|((exact ⟨by omega,by omega,by omega⟩))|first|((rw [hw1];exact ⟨by omega,by omega,Int.le_trans (Int.ofNat_le.2 (QN3 _ _ _)) (by omega)⟩))|first|((rw [hw];exact ⟨by omega,by omega,Int.le_trans (Int.ofNat_le.2 (QN3 _ _ _)) (by omega)⟩))|first|(((try dsimp only);refine yJa (QN3 _ _ _) ?_;first|omega|(simp;omega)))|first|(((try dsimp only);rw [yva] at *;omega))|first|((simp;omega))|exact exA):P:=h
theorem b2a1 {P:Prop} (h:P:=by first|((refine yJa (QN3 _ _ _) ?_;omega))|first|((simp;omega))|exact szA):P:=h
theorem profile_Add_c (p_:List Step) (from_:Int) (to_:Int) (n:Int) (hs0:p_.length<=4294967296):GV 148 [stepL p_,I from_,I to_,I n] (AVal.tup [stepL ((QI2 p_ from_ to_ n).1),I ((QI2 p_ from_ to_ n).2)]):=by
 generalize hR:QI2 p_ from_ to_ n=R;refine gA (kj [1000014,1000024,1000032] 17 [17,21,35,58,91,99,117,137,139,146,147,148,149,161]) Tryz.func148 ?_;have hk0:=hs0;obtain z23:p_.length<=4294967296:=hs0;refine us (Qv6 p_ b2a1 _) ?_;refine ai (fun h1=>?_) (fun h2=>?_)
 ·exact lfA
 ·refine us (Q5e from_ _) ?_;(first|apply u2|apply u3|apply u4|apply us);exact QF8 n _;refine ai (fun h3=>?_) (fun h4=>?_)
  ·exact lfA
  ·refine ai (fun h5=>?_) (fun h6=>?_)
   ·refine us (mv [] (QSb p_ b2a1) .nil (dl lw .nil) (rO rr .nil) (rw_ 0 0 rfl)) ?_;obtain rfl:=foll hR (cf h2 (cf h4 (ct h5 rfl)));exact Qb0 (Low.tup' (.cons lw (l1 .nil))) (Seen.tup (ev (Qa0 zE _ rfl eqA lnA) (e1 .nil)))
   ·refine us (Qra p_ from_ b2a1 _) ?_;have hc:=QP6 (p:=p_) (by assumption);have hp:=Qy7 hc.1 hc.2.1 hc.2.2 (QEc (by assumption));have hw:w64 (Q80 p_ from_+1)=Q80 p_ from_+1:=wr (by omega);refine ai gkA ?_;(first|refine ⟨QD2 16 rfl lnA apA,?_⟩|refine ⟨Qw1 16 rfl apA,?_⟩);refine Qp2 (fun (c:List Step)=>QN4 p_ from_ to_ n c=R∧c.length<=Int.toNat (Q80 p_ from_)+1) (fun c=>[(0,stepL p_),(1,I from_),(2,I to_),(3,I n),(8,AVal.lit (.slice none 0 0)),(9,I 0),(10,AVal.ptr 0 0 1 0 0),(11,AVal.fn (.func 208) [] [AVal.ptr 0 0 1 0 0]),(12,I (Q80 p_ from_))]) (fun c=>[(0,AObj.row 82 1 [[AVal.own 1 0 2 0 c.length]]),(0,AObj.row 182 2 (c.map Step.cells))]) ?_ ?_
    ·clear hR;rintro c ⟨hR,hx⟩;(try dsimp only at hR hx);refine ai gkA ?_;refine us (mv [0,1] (QJ3 from_ (w64 ((p_.getD (Int.toNat (Q80 p_ from_)) zE).free+n)) c b2a1) (dO (dc (dv (QY5 rfl lnA) .nil)) (dO (dr eqA) .nil)) (d1 (d1 (dp .nil))) (rO (rc (.cons _ _ _ _ (rw_ 2 0 rfl) .nil)) (rO rr .nil)) rx) ?_;refine ai gkA ?_;refine join_start3 (fun (i:Int) (last:Int) (c2:List Step)=>QP2 p_ to_ i last c2=R∧1<=i∧i<=(p_.length:Int)∧c2.length<=1003) (fun i last c2=>[(0,stepL p_),(2,I to_),(8,AVal.lit (.slice none 0 0)),(9,I 0),(10,AVal.ptr 0 0 1 0 0),(11,AVal.fn (.func 208) [] [AVal.ptr 0 0 1 0 0]),(12,I i),(14,I last)]) (fun i last c2=>[(0,AObj.row 82 1 [[AVal.own 1 0 2 0 c2.length]]),(0,AObj.row 182 2 (c2.map Step.cells))]) ?_ ?_
     ·clear hR;rintro i last c2 ⟨hR,hx⟩;(try dsimp only at hR hx);refine Qp2 (fun (c4:List Step)=>Ql2 c4=R∧c4.length<=4000) (fun c4=>[(8,AVal.lit (.slice none 0 0)),(9,I 0),(10,AVal.ptr 0 0 1 0 0)]) (fun c4=>[(0,AObj.row 82 1 [[AVal.own 1 0 2 0 c4.length]]),(0,AObj.row 182 2 (c4.map Step.cells))]) ?_ ?_
      ·clear hR;rintro c4 ⟨hR,hx⟩;(try dsimp only at hR hx);refine us (AGives.lent (Qv6 c4 b2a1 []) (ev (Qa0 _ _ rfl eqA lnA) .nil) (.cons lw .nil) (QA3 rfl)) ?_;refine ai (fun h7=>?_) (fun h8=>?_)
       ·exact lfA
       ·obtain rfl:=foll hR (cf h8 rfl);exact Qb0 (Low.tup' (.cons lw (l1 .nil))) (Seen.tup (ev (Qa0 zE _ rfl eqA lnA) (e1 .nil)))
      ·refine ai (fun h9=>?_) (fun h10=>?_)
       ·refine ai (fun h11=>?_) (fun h12=>?_)
        ·have qh11:=yfa h11;refine us (mv [0,1] (QJ3 to_ last c2 b2a1) (dO (dc (dv (QY5 rfl lnA) .nil)) (dO (dr eqA) .nil)) (d1 (d1 (dp .nil))) (rO (rc (.cons _ _ _ _ (rw_ 2 0 rfl) .nil)) (rO rr .nil)) rx) ?_;exact Qt0 (Q21 to_ last c2) (wkA [0,2]) (⟨folA,b2a0⟩)
        ·have qh12:=yea h12;exact Qt0 c2 (wkA [0,1]) (⟨folA,b2a0⟩)
       ·refine ai gkA ?_;refine QP0 (fun (i2:Nat) (c5:List Step)=>QY3 (QC5 (List.drop i2 (List.drop (Int.toNat i) p_)) i2 c5)=R∧i2<=(List.drop (Int.toNat i) p_).length∧c5.length<=2000+i2) (fun i2 c5=>(List.drop (Int.toNat i) p_).length - i2) (fun i2 c5=>[(8,AVal.lit (.slice none 0 0)),(9,I 0),(10,AVal.ptr 0 0 1 0 0),(11,AVal.fn (.func 208) [] [AVal.ptr 0 0 1 0 0]),(146,stepL (List.drop (Int.toNat i) p_)),(147,I ((List.drop (Int.toNat i) p_).length:Int)),(148,I (i2:Int))]) (fun i2 c5=>[(0,AObj.row 82 1 [[AVal.own 1 0 2 0 c5.length]]),(0,AObj.row 182 2 (c5.map Step.cells))]) 0 c2 (wk [0,1] (tO rfl (QV2 (cv (to 1 lnA) .nil)) (tO rfl (tl eqA) .nil)) (s1 (s1 (sv (Qi1 0 rfl rfl) (sv (QB7 .nil (cv (Qi1 0 rfl rfl) .nil)) (sv (turn_as (as_drop p_ (Int.toNat i) _ leA) lw) (sv (turn_eq (I_eq (by simp)) lx) (s1 .nil)))))))) ⟨folA,by exact omA,b2a0⟩ ?_;clear hR;rintro i2 c5 ⟨hR,hj,hx⟩;(try dsimp only at hR hj hx);refine ai (fun h13=>?_) (fun h14=>?_)
        ·have hlt:=ltA h13;rw [Qq0 zE hlt] at hR;have hdl:(List.drop (Int.toNat i) p_).length<=1000:=(by rw [yva];omega);refine ai gkA ?_;refine us (mv [0,1] (QJ3 (((List.drop (Int.toNat i) p_).getD i2 zE).at_) (((List.drop (Int.toNat i) p_).getD i2 zE).free) c5 b2a1) (dO (dc (dv (QY5 rfl lnA) .nil)) (dO (dr eqA) .nil)) (d1 (d1 (dp .nil))) (rO (rc (.cons _ _ _ _ (rw_ 3 0 rfl) .nil)) (rO rr .nil)) rx) ?_;exact Qr0 (i2+1) (Q21 ((List.drop (Int.toNat i) p_).getD i2 zE).at_ ((List.drop (Int.toNat i) p_).getD i2 zE).free c5) (wkA [0,3]) omA ⟨foll hR (congrArg (fun p:(List Step)=>QY3 p) rfl),by exact omA,b2a0⟩
        ·rw [Qv0 (l:=(List.drop (Int.toNat i) p_)) (j:=i2) (geA h14)] at hR;replace hR:QY3 c5=R:=fo2 (fun p:(List Step)=>QY3 p) (c5) hR rfl;exact Qt0 c5 (wkA [0,1]) (⟨foll hR rfl,b2a0⟩)
     ·refine QIb (fun (i1:Int) (last1:Int) (c3:List Step)=>∃ m,(Int.toNat ((p_.length:Int) - i1))<m∧Qo3 p_ to_ n m i1 last1 c3=R∧1<=i1∧i1<=(p_.length:Int)∧(c3.length:Int)<=i1+1) (fun i1 last1 c3=>(Int.toNat ((p_.length:Int) - i1))) (fun i1 last1 c3=>[(0,stepL p_),(2,I to_),(3,I n),(8,AVal.lit (.slice none 0 0)),(9,I 0),(10,AVal.ptr 0 0 1 0 0),(11,AVal.fn (.func 208) [] [AVal.ptr 0 0 1 0 0]),(12,I i1),(14,I last1)]) (fun i1 last1 c3=>[(0,AObj.row 82 1 [[AVal.own 1 0 2 0 c3.length]]),(0,AObj.row 182 2 (c3.map Step.cells))]) (w64 ((Q80 p_ from_)+1)) ((p_.getD (Int.toNat (Q80 p_ from_)) zE).free) (Q21 from_ (w64 ((p_.getD (Int.toNat (Q80 p_ from_)) zE).free+n)) c) (wkA [0,2]) ⟨_,yeb _,foll hR rfl,b2a0⟩ ?_;clear hR;rintro i1 last1 c3 ⟨m,hm,hR,hx⟩;(try dsimp only at hR hm hx);obtain ⟨m,rfl⟩:=sucA m;refine ai (fun h15=>?_) (fun h16=>?_)
      ·have qh15:=yfa h15;have hw1:w64 (i1+1)=i1+1:=wr (by omega);refine ai gkA ?_;refine ai gkA ?_;refine ai (fun h17=>?_) (fun h18=>?_)
       ·have qh17:=yfa h17;refine ai gkA ?_;refine us (mv [0,1] (QJ3 ((p_.getD (Int.toNat i1) zE).at_) (w64 ((p_.getD (Int.toNat i1) zE).free+n)) c3 b2a1) (dO (dc (dv (QY5 rfl lnA) .nil)) (dO (dr eqA) .nil)) (d1 (d1 (dp .nil))) (rO (rc (.cons _ _ _ _ (rw_ 2 0 rfl) .nil)) (rO rr .nil)) rx) ?_;exact QL6 (w64 (i1+1)) ((p_.getD (Int.toNat i1) zE).free) (Q21 ((p_.getD (Int.toNat i1) zE).at_) (w64 ((p_.getD (Int.toNat i1) zE).free+n)) c3) (wkA [0,2]) omA ⟨m,by exact omA,foll hR (ct h15 (ct h17 rfl)),b2a0⟩
       ·have qh18:=yea h18;refine ai gkA ?_;refine ai (fun h19=>?_) (fun h20=>?_)
        ·have qh19:=yfa h19;refine ai gkA ?_;refine us (mv [0,1] (QJ3 to_ ((p_.getD (Int.toNat (w64 (i1 - 1))) zE).free) c3 b2a1) (dO (dc (dv (QY5 rfl lnA) .nil)) (dO (dr eqA) .nil)) (d1 (d1 (dp .nil))) (rO (rc (.cons _ _ _ _ (rw_ 2 0 rfl) .nil)) (rO rr .nil)) rx) ?_;exact Qpd i1 ((p_.getD (Int.toNat i1) zE).free) (Q21 to_ ((p_.getD (Int.toNat (w64 (i1 - 1))) zE).free) c3) (wkA [0,2]) (⟨folA,b2a0⟩)
        ·have qh20:=yea h20;exact Qpd i1 ((p_.getD (Int.toNat i1) zE).free) c3 (wkA [0,1]) (⟨folA,b2a0⟩)
      ·have qh16:=yea h16;exact Qpd i1 last1 c3 (wkA [0,1]) (⟨folA,b2a0⟩)
    ·refine ai gkA ?_;refine ai (fun h21=>?_) (fun h22=>?_)
     ·have qh21:=yfa h21;refine dchk (by kernel_rfl) ?_;refine ai gkA ?_;refine ai gkA ?_;(first|apply u2|apply u3|apply u4|apply us);exact mv [0,1] (QJ3 ((p_.getD (Int.toNat (Q80 p_ from_)) zE).at_) ((p_.getD (Int.toNat (Q80 p_ from_)) zE).free) (List.take (Int.toNat (Q80 p_ from_)) p_) b2a1) (dO (dc (dv (QY5 rfl lnA) .nil)) (dO (dr eqA) .nil)) (d1 (d1 (dp .nil))) (rO (rc (.cons _ _ _ _ (rw_ 2 0 rfl) .nil)) (rO rr .nil)) rx;(repeat ((first|refine ai rfl ?_|refine ai (fun _=>rfl) ?_)));exact Qt0 (Q21 ((p_.getD (Int.toNat (Q80 p_ from_)) zE).at_) ((p_.getD (Int.toNat (Q80 p_ from_)) zE).free) (List.take (Int.toNat (Q80 p_ from_)) p_)) (wkA [0,2]) (⟨folA,b2a0⟩)
     ·have qh22:=yea h22;exact Qt0 (List.take (Int.toNat (Q80 p_ from_)) p_) (wkA [0,1]) (⟨folA,b2a0⟩)
theorem QTf (p:List Step) (f t n:Int) (hp:p.length<=4294967296):(QI2 p f t n).1.length<=4294967296:=by
 have k4:∀ c,(Ql2 c).1.length<=4294967296:=by
  intro c;unfold Ql2;cases h:((QX1 c)!=0) with
  | true=>simp
  | false=>have:=QP6 h;simp only [cond_false];omega
 have k2:∀ i last c,(QP2 p t i last c).1.length<=4294967296:=by
  intro i last c;unfold QP2 QY3;cases (i==(p.length:Int)) <;> simp only [cond_true,cond_false]
  ·exact k4 _
  ·cases (decide (t<=1000000)) <;> simp only [cond_true,cond_false] <;> exact k4 _
 have g3:∀ m i last c,(Qo3 p t n m i last c).1.length<=4294967296:=by
  intro m
  induction m with
  | zero=>intro i last c;simp [Qo3]
  | succ m ih =>
   intro i last c;rw [Qo3]
   repeat' first|exact ih _ _ _|exact k2 _ _ _|(rw [yCb];split)
 unfold QI2 QN4
 repeat' first|exact g3 _ _ _ _|exact hp|(simp;done)|(rw [yCb];split)
end Go.Proofs.YtackngeeehiegaaGreatDoor
