/-
  What the last text of this claim leans on: an evaluator over the code, contracts of functions, plain laws. Conditions stand in each statement.
-/
import Derived.Test.YtgnlcjenoaoffaaGreatDoorRH10
import Derived.Test.YtgnlcjenoaoffaaGreatDoorProg
namespace Go.Proofs.YtgnlcjenoaoffaaGreatDoor
set_option linter.unusedSimpArgs false
set_option linter.unusedVariables false
open Go.Fw
set_option maxRecDepth 20000
set_option maxHeartbeats 4000000
attribute [local irreducible] ACalls AMoves
def Qu8 (s:State):Bool:=(((((Qnb s.nodes)&&(Qob s.jobs))&&(Qqb s.books))&&(Qpb s.ledger))&&(decide ((s.resizes.length:Int)<=100)))
theorem law20_Few_c (s:State) (hs0:s.szM):GV 6 [State.a s] (Bo (Qu8 s)):=by
 generalize hR:Qu8 s=R;refine gA (kp 3 []) Tryz.func6 ?_;have hk0:=hs0;obtain ⟨z1,z2,z3,z4,z5,z6,z7⟩:=hs0;refine us (law12_Few_c s.nodes _) ?_;(first|apply u2|apply u3|apply u4|apply us);exact law15_Few_c s.jobs szA _;(first|apply u2|apply u3|apply u4|apply us);exact law19_Few_c s.books _;(first|apply u2|apply u3|apply u4|apply us);exact law17_Few_c s.ledger szA _;exact lfA
theorem u3g {P:Program} {f:FuncId} {args:List AVal} {objs:Objs} {r:AVal} {g:Bool} {K:AVal->Objs->Prop} (h:g=true->ACalls P f args objs fun a b=>a=r∧b=objs) (k:K r objs):∃ r' o',(g=true->ACalls P f args objs (fun a b=>a=r'∧b=o'))∧(g=false->o'=objs)∧K r' o':=⟨r,objs,h,fun _=>rfl,k⟩
theorem QJc:∀ (l:List Usage) (i:Nat),QL6 l i=true -> ∀ y ∈ l,y.sz
 | [],_,_,y,hy=>nomatch hy
 | x :: r,i,h,y,hy=>by
  rw [QL6] at h;cases hc:((decide ((ByteArray.size x.user:Int) > 1000))||(decide ((ByteArray.size x.account:Int) > 1000))) with
  | true=>rw [hc] at h;cases h
  | false =>
   rw [hc] at h;rcases List.mem_cons.1 hy with rfl|hy
   ·simp only [yRa,y3a] at hc;exact ⟨by omega,by omega⟩
   ·exact QJc r (i+1) h y hy
theorem law14_Few_sz {j:Job} (h:Qt8 j=true):j.sz:=by
 simp only [Qt8,Qmb,yha,yua] at h;exact ⟨by omega,by omega,by omega,by show j.shape.alts.length<=_;omega,by omega⟩
theorem QIc:∀ (l:List Job) (i:Nat),QK6 l i=true -> ∀ y ∈ l,y.sz
 | [],_,_,y,hy=>nomatch hy
 | x :: r,i,h,y,hy=>by
  rw [QK6] at h;cases hc:Qt8 x with
  | false=>rw [hc] at h;cases h
  | true =>
   rw [hc] at h;rcases List.mem_cons.1 hy with rfl|hy
   ·exact law14_Few_sz hc
   ·exact QIc r (i+1) h y hy
theorem QKc {s:State} (h:Qu8 s=true):s.sz:=by
 simp only [Qu8,Qnb,Qob,Qqb,Qpb,yha,yua] at h;obtain ⟨⟨⟨⟨h1,h2⟩,h3⟩,h4⟩,h5⟩:=h;cases hj:decide ((s.jobs.length:Int) > 60) with
 | true=>rw [hj] at h2;cases h2
 | false =>
  cases hl:decide ((s.ledger.length:Int) > 300) with
  | true=>rw [hl] at h4;cases h4
  | false =>
   rw [hj] at h2;rw [hl] at h4;have qj:=yja hj;have ql:=yja hl;exact ⟨by omega,by omega,QIc _ _ h2,by omega,by omega,by omega,QJc _ _ h4⟩
def Q53 (ok:Bool):Int:=bif (!ok) then 70 else 0
def QE3 (s:Shape):Int:=bif (s.kind==1) then Q53 (((((s.min==0)&&(s.max==0))&&(s.wall==0))&&((s.alts.length:Int)==1))&&(Qv1 (s.alts.getD 0 zA))) else bif (s.kind==2) then Q53 (((((((s.min==0)&&(s.max==0))&&(s.wall==0))&&(decide ((s.alts.length:Int) >= 1)))&&(decide ((s.alts.length:Int)<=6)))&&(Qa9 s.alts))&&(!(Qi1 s.alts (fun (y:Alt)=>(!(Qv1 y)))))) else bif (s.kind==3) then Q53 (((((s.alts.length:Int)==0)&&(decide (s.min<=s.max)))&&(Qv1 (⟨s.min,s.wall⟩:Alt)))&&(decide (s.max<=48))) else Q53 false
theorem QCb (s:Shape) (hs0:s.sz):GV 177 [Shape.a s] (I (QE3 s)):=by
 generalize hR:QE3 s=R;refine gA (kj [1000011] 6 [23,24,38,60,85]) Tryz.func177 ?_;have hk0:=hs0;obtain z13:s.alts.length<=4294967296:=hs0;refine Qu1 (fun (ok:Bool)=>Q53 ok=R) (fun ok=>[(2,I 0),(5,Bo ok)]) (fun ok=>[]) ?_ ?_
 ·clear hR;rintro ok hR;(try dsimp only at hR);apply ai<;>intro h1
  ·exact lfA
  ·exact lfA
 ·apply ai<;>intro h3
  ·refine ai gkA ?_;(first|apply u2|apply u3|apply u4|apply us);exact QS9 (s.alts.getD 0 zA) _;exact Qj0 (((((s.min==0)&&(s.max==0))&&(s.wall==0))&&((s.alts.length:Int)==1))&&(Qv1 (s.alts.getD 0 zA))) (wkA []) (foll hR (ct h3 rfl))
  ·apply ai<;>intro h5
   ·(first|apply u2|apply u3|apply u4|apply us);exact shape_apart_c s.alts szA _;have cl1:∀ (y1:Alt),AMoves Tryz.prog 225 [Alt.a y1] [] 0 (Bo ((fun (y:Alt)=>(!(Qv1 y))) y1)) []:=by
     intro y1;have hR:(fun (y:Alt)=>(!(Qv1 y))) y1=(fun (y:Alt)=>(!(Qv1 y))) y1:=rfl;refine mo (kp 3 []) Tryz.func225 ?_;refine us (QS9 y1 _) ?_;refine Qs0 (fun r:Bool=>Bo r) (fun _=>[]) (leaf:=(!(Qv1 y1))) (foll hR rfl) ?_;exact tt [] .nil t1
    have hof1:AMoves Tryz.prog 224 [altL s.alts,AVal.fn (.func 225) [] []] [] 0 (Bo (Qi1 s.alts (fun (y:Alt)=>(!(Qv1 y))))) []:=by
     have hR:Qi1 s.alts (fun (y:Alt)=>(!(Qv1 y)))=Qi1 s.alts (fun (y:Alt)=>(!(Qv1 y))):=rfl;refine mo (kp 5 []) Tryz.func224 ?_;have hof2:AMoves Tryz.prog 254 [altL s.alts,AVal.fn (.func 225) [] []] [] 0 (I (Qf1 s.alts (fun (y:Alt)=>(!(Qv1 y))))) []:=by
      have hR:Qf1 s.alts (fun (y:Alt)=>(!(Qv1 y)))=Qf1 s.alts (fun (y:Alt)=>(!(Qv1 y))):=rfl;refine mo (kp 6 [7,8,9,16]) Tryz.func254 ?_;refine Qk0 (fun (i:Nat)=>Q13 (fun (y:Alt)=>(!(Qv1 y))) (List.drop i s.alts) i=Qf1 s.alts (fun (y:Alt)=>(!(Qv1 y)))∧i<=s.alts.length) (fun i=>s.alts.length - i) (fun i=>[(0,altL s.alts),(1,AVal.fn (.func 225) [] []),(4,I 0),(7,I (s.alts.length:Int)),(8,I (i:Int))]) (fun i=>[]) 0 (wkA []) ⟨foll hR rfl,by exact omA⟩ ?_;clear hR;rintro i ⟨hR,hj⟩;(try dsimp only at hR hj);apply ai<;>intro h7
      ·have hlt:=ltA h7;rw [Qd0 zA hlt] at hR;refine ai gkA ?_;refine us (mv [] (cl1 (s.alts.getD i zA)) .nil (dl (Alt.low _ _) .nil) .nil rx) ?_;apply ai<;>intro h9
       ·refine Qs0 (fun r:Int=>I r) (fun r:Int=>[]) (leaf:=(i:Int)) (foll hR (ct h9 rfl)) ?_;exact tt [] .nil t1
       ·exact Qr0 (i+1) (wkA []) omA ⟨folA,by exact omA⟩
      ·rw [Qh0 (l:=s.alts) (j:=i) (geA h7)] at hR;refine Qs0 (fun r:Int=>I r) (fun r:Int=>[]) (leaf:=(-1)) (foll hR rfl) ?_;exact tt [] .nil t1
     refine us (mv [] (hof2) .nil (dl lw (dv (Qo3 (Low.fn _ _ _ LowL.nil LowL.nil)) .nil)) .nil rx) ?_;refine Qs0 (fun r:Bool=>Bo r) (fun r:Bool=>[]) (leaf:=(decide ((Qf1 s.alts (fun (y:Alt)=>(!(Qv1 y)))) >= 0))) (foll hR rfl) ?_;exact tt [] .nil t1
    (first|apply u2|apply u3|apply u4|apply us);exact mv [] (hof1) .nil (dl lw (dv (Qo3 (Low.fn _ _ _ LowL.nil LowL.nil)) .nil)) .nil rx;exact Qj0 (((((((s.min==0)&&(s.max==0))&&(s.wall==0))&&(decide ((s.alts.length:Int) >= 1)))&&(decide ((s.alts.length:Int)<=6)))&&(Qa9 s.alts))&&(!(Qi1 s.alts (fun (y:Alt)=>(!(Qv1 y)))))) (wkA []) (foll hR (cf h3 (ct h5 rfl)))
   ·apply ai<;>intro h11
    ·(first|apply u2|apply u3|apply u4|apply us);exact QS9 (⟨s.min,s.wall⟩:Alt) _;exact Qj0 (((((s.alts.length:Int)==0)&&(decide (s.min<=s.max)))&&(Qv1 (⟨s.min,s.wall⟩:Alt)))&&(decide (s.max<=48))) (wkA []) (foll hR (cf h3 (cf h5 (ct h11 rfl))))
    ·exact Qj0 false (wkA []) (foll hR (cf h3 (cf h5 (cf h11 rfl))))
def QY1 (r_:LexReader):Token × LexReader:=bif (!(Qh7 ((Q40 r_ (fun (y:Int)=>(((decide (y >= 48))&&(decide (y<=57)))||((decide (y >= 97))&&(decide (y<=122)))))).1))) then ((⟨3,(Q40 r_ (fun (y:Int)=>(((decide (y >= 48))&&(decide (y<=57)))||((decide (y >= 97))&&(decide (y<=122)))))).1,0,0⟩:Token),(Q40 r_ (fun (y:Int)=>(((decide (y >= 48))&&(decide (y<=57)))||((decide (y >= 97))&&(decide (y<=122)))))).2) else bif (!(Qf6 ((Q40 r_ (fun (y:Int)=>(((decide (y >= 48))&&(decide (y<=57)))||((decide (y >= 97))&&(decide (y<=122)))))).1)).2) then ((⟨2,⟨#[]⟩,(Qf6 ((Q40 r_ (fun (y:Int)=>(((decide (y >= 48))&&(decide (y<=57)))||((decide (y >= 97))&&(decide (y<=122)))))).1)).1,0⟩:Token),(Q91 ((Q40 r_ (fun (y:Int)=>(((decide (y >= 48))&&(decide (y<=57)))||((decide (y >= 97))&&(decide (y<=122)))))).2) r_.at_ 50)) else ((⟨2,⟨#[]⟩,(Qf6 ((Q40 r_ (fun (y:Int)=>(((decide (y >= 48))&&(decide (y<=57)))||((decide (y >= 97))&&(decide (y<=122)))))).1)).1,0⟩:Token),(Q40 r_ (fun (y:Int)=>(((decide (y >= 48))&&(decide (y<=57)))||((decide (y >= 97))&&(decide (y<=122)))))).2)
theorem Qrb (r_:LexReader) (hs0:r_.sz) (hp0:0<=r_.at_∧r_.at_<=(r_.line.length:Int)∧r_.line.length<=400):AMoves Tryz.prog 303 [AVal.ptr 0 0 4 0 0] [(0,AObj.row 318 4 [[runes r_.line,I r_.at_,I r_.bad,I r_.error]])] 1 (Token.a ((QY1 r_).1)) [(0,AObj.row 318 4 [[runes ((QY1 r_).2.line),I ((QY1 r_).2.at_),I ((QY1 r_).2.bad),I ((QY1 r_).2.error)]])]:=by
 generalize hR:QY1 r_=R;refine mo (kp 7 [15,24]) Tryz.func303 ?_;have hk0:=hs0;obtain z7:r_.line.length<=4294967296:=hs0;have cl1:∀ (y1:Int),AMoves Tryz.prog 315 [J y1] [] 0 (Bo ((fun (y:Int)=>(((decide (y >= 48))&&(decide (y<=57)))||((decide (y >= 97))&&(decide (y<=122))))) y1)) []:=by
  intro y1;have hR:(fun (y:Int)=>(((decide (y >= 48))&&(decide (y<=57)))||((decide (y >= 97))&&(decide (y<=122))))) y1=(fun (y:Int)=>(((decide (y >= 48))&&(decide (y<=57)))||((decide (y >= 97))&&(decide (y<=122))))) y1:=rfl;refine mo (kp 3 []) Tryz.func315 ?_;refine Qs0 (fun r:Bool=>Bo r) (fun _=>[]) (leaf:=(((decide (y1 >= 48))&&(decide (y1<=57)))||((decide (y1 >= 97))&&(decide (y1<=122))))) (foll hR rfl) ?_;exact tt [] .nil t1
 have hof1:AMoves Tryz.prog 289 [AVal.ptr 0 0 4 0 0,AVal.fn (.func 315) [] []] [(0,AObj.row 318 4 [[runes r_.line,I r_.at_,I r_.bad,I r_.error]])] 1 (Sg ((Q40 r_ (fun (y:Int)=>(((decide (y >= 48))&&(decide (y<=57)))||((decide (y >= 97))&&(decide (y<=122)))))).1)) [(0,AObj.row 318 4 [[runes (((Q40 r_ (fun (y:Int)=>(((decide (y >= 48))&&(decide (y<=57)))||((decide (y >= 97))&&(decide (y<=122)))))).2).line),I (((Q40 r_ (fun (y:Int)=>(((decide (y >= 48))&&(decide (y<=57)))||((decide (y >= 97))&&(decide (y<=122)))))).2).at_),I (((Q40 r_ (fun (y:Int)=>(((decide (y >= 48))&&(decide (y<=57)))||((decide (y >= 97))&&(decide (y<=122)))))).2).bad),I (((Q40 r_ (fun (y:Int)=>(((decide (y >= 48))&&(decide (y<=57)))||((decide (y >= 97))&&(decide (y<=122)))))).2).error)]])]:=by
  have hR:Q40 r_ (fun (y:Int)=>(((decide (y >= 48))&&(decide (y<=57)))||((decide (y >= 97))&&(decide (y<=122)))))=Q40 r_ (fun (y:Int)=>(((decide (y >= 48))&&(decide (y<=57)))||((decide (y >= 97))&&(decide (y<=122))))):=rfl;refine mo (kp 6 [33]) Tryz.func289 ?_;refine Qk0 (fun (c:LexReader)=>∃ m,(((c.line.length:Int) - c.at_).toNat)<m∧QP0 r_ (Q31 (fun (y:Int)=>(((decide (y >= 48))&&(decide (y<=57)))||((decide (y >= 97))&&(decide (y<=122))))) m c)=Q40 r_ (fun (y:Int)=>(((decide (y >= 48))&&(decide (y<=57)))||((decide (y >= 97))&&(decide (y<=122)))))∧0<=c.at_∧c.at_<=(c.line.length:Int)∧c.line.length<=400∧r_.at_<=c.at_∧0<=r_.at_) (fun c=>(((c.line.length:Int) - c.at_).toNat)) (fun c=>[(0,AVal.ptr 0 0 4 0 0),(1,AVal.fn (.func 315) [] []),(4,Sg ⟨#[]⟩),(5,I r_.at_)]) (fun c=>[(0,AObj.row 318 4 [[runes c.line,I c.at_,I c.bad,I c.error]])]) r_ (wkA [0]) ⟨_,yTa _,foll hR rfl,by exact exA⟩ ?_;clear hR;rintro c ⟨m,hm,hR,hx⟩;(try dsimp only at hR hm hx);obtain ⟨m,rfl⟩:=sucA m;refine dchk (by kernel_rfl) ?_;refine ai gkA ?_;(first|apply u2|apply u3|apply u4|apply us);exact mv [] (cl1 (c.line.getD (c.at_.toNat) 0)) .nil (d1 .nil) .nil rx;(repeat ((first|refine ai rfl ?_|refine ai (fun _=>rfl) ?_)));apply ai<;>intro h1
  ·have hq1:=yca ((yha _ _).mp h1).1;have hwr:w64 (c.at_+1)=c.at_+1:=wr oA;exact Qr0 { c with at_:=(w64 (c.at_+1)) } (wk [0] (tO rfl (ts LexReader.lo) .nil) (sv (Qy0 0 rfl rfl) (sv (Qg3 (Low.fn _ _ _ LowL.nil LowL.nil)) (s1 (s1 .nil))))) omA ⟨m,by exact omA,foll hR (congrArg (fun p:LexReader=>QP0 r_ p) (ct h1 rfl)),by exact exA⟩
  ·replace hR:QP0 r_ c=Q40 r_ (fun (y:Int)=>(((decide (y >= 48))&&(decide (y<=57)))||((decide (y >= 97))&&(decide (y<=122))))):=fo2 (fun p:LexReader=>QP0 r_ p) (c) hR (cf h1 rfl);refine dchk (by kernel_rfl) ?_;refine ai gkA ?_;(first|refine ⟨(List.drop (r_.at_.toNat) (List.take (c.at_.toNat) c.line)),by exact cvA,?_⟩|refine ⟨_,fun _=>⟨(List.drop (r_.at_.toNat) (List.take (c.at_.toNat) c.line)),by exact cvA,rfl,rfl⟩,?_⟩|refine ⟨_,rfl,⟨(List.drop (r_.at_.toNat) (List.take (c.at_.toNat) c.line)),by exact cvA,Sub.refl _,rfl⟩,?_⟩);(repeat ((first|refine ai rfl ?_|refine ai (fun _=>rfl) ?_)));refine Qs0 (fun r:ByteArray × LexReader=>Sg r.1) (fun r:ByteArray × LexReader=>[(0,AObj.row 318 4 [[runes r.2.line,I r.2.at_,I r.2.bad,I r.2.error]])]) (leaf:=((runesBytes (List.drop (r_.at_.toNat) (List.take (c.at_.toNat) c.line))),c)) (foll hR rfl) ?_;exact tt [0] (tO rfl (ts LexReader.lo) .nil) t1
 refine us (mv [0] (hof1) (dO (ds LexReader.lo) .nil) (dp (dv (Qo3 (Low.fn _ _ _ LowL.nil LowL.nil)) .nil)) (rO (re LexReader.lo) .nil) rx) ?_;refine us (QMc ((Q40 r_ (fun (y:Int)=>(((decide (y >= 48))&&(decide (y<=57)))||((decide (y >= 97))&&(decide (y<=122)))))).1) (by first|(exact QF9 _ _ hp0.2.2)|exact szA) _) ?_;apply ai<;>intro h3
 ·obtain rfl:=foll hR (ct h3 rfl);exact rq (ttA [0])
 ·refine us (lex_number_c ((Q40 r_ (fun (y:Int)=>(((decide (y >= 48))&&(decide (y<=57)))||((decide (y >= 97))&&(decide (y<=122)))))).1) (by first|(exact QF9 _ _ hp0.2.2)|exact szA) _) ?_;apply ai<;>intro h5
  ·refine us (mv [0] (Q93 ((Q40 r_ (fun (y:Int)=>(((decide (y >= 48))&&(decide (y<=57)))||((decide (y >= 97))&&(decide (y<=122)))))).2) r_.at_ 50) (dO (ds LexReader.lo) .nil) (dp (d1 (d1 .nil))) (rO (re LexReader.lo) .nil) rx) ?_;obtain rfl:=foll hR (cf h3 (ct h5 rfl));exact rq (ttA [0])
  ·obtain rfl:=foll hR (cf h3 (cf h5 rfl));exact rq (ttA [0])
attribute [local irreducible] QT0
def Ql3 :List (Nat × Int)->Bool->List Int->ByteArray × Int
 | [],held,buf=>bif held then (⟨#[]⟩,50) else ((Qn5 buf),0)
 | x_ :: r,held,buf=>bif ((held&&(x_.2 != 34))&&(x_.2 != 92)) then bif ((held&&(x_.2 != 34))&&(x_.2 != 92)) then (⟨#[]⟩,50) else bif ((!held)&&(x_.2==92)) then Ql3 r true buf else Ql3 r false (QT0 buf x_.2) else bif ((!held)&&(x_.2==34)) then (⟨#[]⟩,50) else bif ((!held)&&(x_.2==92)) then Ql3 r true buf else Ql3 r false (QT0 buf x_.2)
def QZ2 (s:ByteArray):ByteArray × Int:=bif ((Q05 s).2 != 0) then (⟨#[]⟩,(Q05 s).2) else bif (((decide ((ByteArray.size s:Int)<2))||(((s.data.toList.getD 0 0).toNat:Int)!=34))||(((s.data.toList.getD ((w64 ((ByteArray.size s:Int) - 1)).toNat) 0).toNat:Int)!=34)) then (⟨#[]⟩,50) else Ql3 (Qxd (s.extract 1 ((w64 ((ByteArray.size s:Int) - 1)).toNat))) false []
theorem b3a1 {P:Prop} (h:P:=by first|(have hsz:=extract_size s 1 ((w64 ((ByteArray.size s:Int) - 1)).toNat);refine ⟨?_,?_,?_⟩ <;> (try dsimp only) <;> first|omega|with_reducible exact QY9|with_reducible exact hx.2.2|with_reducible exact byteIn_rune _ _ hx.2.2|exact yea (QWa _ _) oA|(simp;done))|exact exA):P:=h
theorem QP9 (s:ByteArray) (hs0:s.size<=4294967296) (hp0:ByteArray.size s<=1000000):GV 319 [Sg s] (AVal.tup [Sg ((QZ2 s).1),I ((QZ2 s).2)]):=by
 generalize hR:QZ2 s=R;refine gA (kp 10 [16,33,39,40,41,43,59,68]) Tryz.func319 ?_;have hk0:=hs0;obtain z19:s.size<=4294967296:=hs0;have hw0:w64 ((ByteArray.size s:Int) - 1)=(ByteArray.size s:Int) - 1:=wr oA;refine us (QAb s szA _) ?_;apply ai<;>intro h1
 ·exact lfA
 ·refine ai gkA ?_;refine ai gkA ?_;apply ai<;>intro h3
  ·obtain rfl:=foll hR (cf h1 (ct h3 rfl));exact Q60 (Low.tup' (l1 (l1 .nil))) (Seen.tup (e1 (e1 .nil)))
  ·refine ai gkA ?_;refine QT4 (fun (held:Bool) (buf:List Int) (pos:Nat)=>∃ m,ByteArray.size (s.extract 1 ((w64 ((ByteArray.size s:Int) - 1)).toNat)) - pos<=m∧Ql3 (Qq5 (s.extract 1 ((w64 ((ByteArray.size s:Int) - 1)).toNat)) m pos) held buf=R∧buf.length<=4*pos∧pos<=ByteArray.size s∧QE6 buf) (fun held buf pos=>ByteArray.size (s.extract 1 ((w64 ((ByteArray.size s:Int) - 1)).toNat)) - pos) (fun held buf pos=>[(2,Sg ⟨#[]⟩),(3,I 0),(6,AVal.ptr 0 0 2 0 0),(7,Bo held),(39,AVal.ptr 1 0 1 0 0)]) (fun held buf pos=>[(0,AObj.row 339 2 [[AVal.sel 0 0 2 0 0,AVal.buf 2 0 1 buf.length]]),(0,AObj.other (.strIter (s.extract 1 ((w64 ((ByteArray.size s:Int) - 1)).toNat)) pos)),(0,AObj.row 5 1 (buf.map (fun q_=>[Y q_])))]) false [] 0 ((QA1 5 1).trans (wk [0,1,2] (tO rfl (QE1 (cv (turn_selnil) (cv (turn_nilbuf 2 rfl) .nil))) (tO rfl (.strIter _ _) (tO rfl (tl eqA) .nil))) (s1 (s1 (sv (Qy0 0 rfl rfl) (s1 (sv (Qy0 1 rfl rfl) .nil))))))) ⟨ByteArray.size (s.extract 1 ((w64 ((ByteArray.size s:Int) - 1)).toNat)),by exact omA,foll hR (cf h1 (cf h3 rfl)),b3a1⟩ ?_;clear hR;rintro held buf pos ⟨m,hm,hR,hx⟩;(try dsimp only at hR hm hx);apply ai<;>intro h5
   ·have hlt:=yca h5;have hw:=Q2a (s.extract 1 ((w64 ((ByteArray.size s:Int) - 1)).toNat)) pos;have hwe:=Q1a (s.extract 1 ((w64 ((ByteArray.size s:Int) - 1)).toNat)) pos hlt;obtain ⟨m,rfl⟩:=sucA m;rw [Q56 h5] at hR;refine ai (fun _=>?_) (fun h=>nomatch h);apply ai<;>intro h7
    ·apply ai<;>intro h9
     ·exact lfA
     ·apply ai<;>intro h11
      ·exact QH1 true buf (pos+(Utf8.decode (s.extract 1 ((w64 ((ByteArray.size s:Int) - 1)).toNat)) pos).2) (wk [0,1,2] (tO rfl (QE1 (cv (turn_sel 0 rfl rfl) (cv (turn_buf 2 rfl rfl) .nil))) (tO rfl (.strIter _ _) (tO rfl (tl eqA) .nil))) (s1 (s1 (sv (Qy0 0 rfl rfl) (s1 (sv (Qy0 1 rfl rfl) .nil)))))) omA ⟨m,by exact omA,foll hR (ct h7 (cf h9 (ct h11 rfl))),b3a1⟩
      ·refine us (mv [0,2] (QBd buf ((pos,((Utf8.decode (s.extract 1 ((w64 ((ByteArray.size s:Int) - 1)).toNat)) pos).1:Int)).2) szA) (dO (dc (dv (dn_sel rfl) (dv (dn_buf rfl) .nil))) (dO (dr eqA) .nil)) (dp (d1 .nil)) (rO (rc (rv (rp 0 0 rfl) (rv (rw_ 3 0 rfl) .nil))) (rO rr .nil)) (Ren.low _ (Low.tup' (l1 (l1 .nil))))) ?_;exact QH1 false (QT0 buf (pos,((Utf8.decode (s.extract 1 ((w64 ((ByteArray.size s:Int) - 1)).toNat)) pos).1:Int)).2) (pos+(Utf8.decode (s.extract 1 ((w64 ((ByteArray.size s:Int) - 1)).toNat)) pos).2) (wk [0,1,3] (tO rfl (QE1 (cv (QVa 0 rfl rfl) (cv (QOe 2 rfl rfl lnA (by first|with_reducible exact Q88 _ _|(simp;done)|grind)) .nil))) (tO rfl (.strIter _ _) (tO rfl (tl eqA) .nil))) (s1 (s1 (sv (Qy0 0 rfl rfl) (s1 (sv (Qy0 1 rfl rfl) .nil)))))) omA ⟨m,by exact omA,foll hR (ct h7 (cf h9 (cf h11 rfl))),b3a1⟩
    ·apply ai<;>intro h13
     ·exact lfA
     ·apply ai<;>intro h15
      ·exact QH1 true buf (pos+(Utf8.decode (s.extract 1 ((w64 ((ByteArray.size s:Int) - 1)).toNat)) pos).2) (wk [0,1,2] (tO rfl (QE1 (cv (turn_sel 0 rfl rfl) (cv (turn_buf 2 rfl rfl) .nil))) (tO rfl (.strIter _ _) (tO rfl (tl eqA) .nil))) (s1 (s1 (sv (Qy0 0 rfl rfl) (s1 (sv (Qy0 1 rfl rfl) .nil)))))) omA ⟨m,by exact omA,foll hR (cf h7 (cf h13 (ct h15 rfl))),b3a1⟩
      ·refine us (mv [0,2] (QBd buf ((pos,((Utf8.decode (s.extract 1 ((w64 ((ByteArray.size s:Int) - 1)).toNat)) pos).1:Int)).2) szA) (dO (dc (dv (dn_sel rfl) (dv (dn_buf rfl) .nil))) (dO (dr eqA) .nil)) (dp (d1 .nil)) (rO (rc (rv (rp 0 0 rfl) (rv (rw_ 3 0 rfl) .nil))) (rO rr .nil)) (Ren.low _ (Low.tup' (l1 (l1 .nil))))) ?_;exact QH1 false (QT0 buf (pos,((Utf8.decode (s.extract 1 ((w64 ((ByteArray.size s:Int) - 1)).toNat)) pos).1:Int)).2) (pos+(Utf8.decode (s.extract 1 ((w64 ((ByteArray.size s:Int) - 1)).toNat)) pos).2) (wk [0,1,3] (tO rfl (QE1 (cv (QVa 0 rfl rfl) (cv (QOe 2 rfl rfl lnA (by first|with_reducible exact Q88 _ _|(simp;done)|grind)) .nil))) (tO rfl (.strIter _ _) (tO rfl (tl eqA) .nil))) (s1 (s1 (sv (Qy0 0 rfl rfl) (s1 (sv (Qy0 1 rfl rfl) .nil)))))) omA ⟨m,by exact omA,foll hR (cf h7 (cf h13 (cf h15 rfl))),b3a1⟩
   ·rw [Q58 h5] at hR;refine ai (fun h=>nomatch h) (fun _=>?_);apply ai<;>intro h17
    ·exact lfA
    ·refine us (mv [0,2] (String_c buf (by first|(with_reducible exact hx.2.2)|first|assumption|exact QY9|grind) szA) (dO (dc (dv (dn_any) (dv (dn_bufbuf rfl) .nil))) (dO (dr eqA) .nil)) (dp .nil) (rO (re (.cons Low.any (.cons Low.any .nil))) .nil) rx) ?_;exact lfA
def Q61 (l:List Node):Int:=bif (((decide ((l.length:Int)<1))||(decide ((l.length:Int) > 48)))||(Ql2 l (fun (y:Node)=>(!(Q02 y))))) then 120 else 0
theorem QY2 (l:List Node) (hs0:l.length<=4294967296):GV 74 [nodeL l] (I (Q61 l)):=by
 generalize hR:Q61 l=R;refine gA (kp 3 [14]) Tryz.func74 ?_;have hk0:=hs0;obtain z7:l.length<=4294967296:=hs0;have cl1:∀ (y1:Node),AMoves Tryz.prog 136 [Node.a y1] [] 0 (Bo ((fun (y:Node)=>(!(Q02 y))) y1)) []:=by
  intro y1;have hR:(fun (y:Node)=>(!(Q02 y))) y1=(fun (y:Node)=>(!(Q02 y))) y1:=rfl;refine mo (kp 3 []) Tryz.func136 ?_;refine us (fleet_fine_c y1 _) ?_;refine Qs0 (fun r:Bool=>Bo r) (fun _=>[]) (leaf:=(!(Q02 y1))) (foll hR rfl) ?_;exact tt [] .nil t1
 have hof1:AMoves Tryz.prog 135 [nodeL l,AVal.fn (.func 136) [] []] [] 0 (Bo (Ql2 l (fun (y:Node)=>(!(Q02 y))))) []:=by
  have hR:Ql2 l (fun (y:Node)=>(!(Q02 y)))=Ql2 l (fun (y:Node)=>(!(Q02 y))):=rfl;refine mo (kp 5 []) Tryz.func135 ?_;have hof2:AMoves Tryz.prog 193 [nodeL l,AVal.fn (.func 136) [] []] [] 0 (I (Qm2 l (fun (y:Node)=>(!(Q02 y))))) []:=by
   have hR:Qm2 l (fun (y:Node)=>(!(Q02 y)))=Qm2 l (fun (y:Node)=>(!(Q02 y))):=rfl;refine mo (kp 6 [7,8,9,16]) Tryz.func193 ?_;refine Qk0 (fun (i:Nat)=>QZ3 (fun (y:Node)=>(!(Q02 y))) (List.drop i l) i=Qm2 l (fun (y:Node)=>(!(Q02 y)))∧i<=l.length) (fun i=>l.length - i) (fun i=>[(0,nodeL l),(1,AVal.fn (.func 136) [] []),(4,I 0),(7,I (l.length:Int)),(8,I (i:Int))]) (fun i=>[]) 0 (wkA []) ⟨foll hR rfl,by exact omA⟩ ?_;clear hR;rintro i ⟨hR,hj⟩;(try dsimp only at hR hj);apply ai<;>intro h1
   ·have hlt:=ltA h1;rw [Qd0 zF hlt] at hR;refine ai gkA ?_;refine us (mv [] (cl1 (l.getD i zF)) .nil (dl (Node.low _ _) .nil) .nil rx) ?_;apply ai<;>intro h3
    ·refine Qs0 (fun r:Int=>I r) (fun r:Int=>[]) (leaf:=(i:Int)) (foll hR (ct h3 rfl)) ?_;exact tt [] .nil t1
    ·exact Qr0 (i+1) (wkA []) omA ⟨folA,by exact omA⟩
   ·rw [Qh0 (l:=l) (j:=i) (geA h1)] at hR;refine Qs0 (fun r:Int=>I r) (fun r:Int=>[]) (leaf:=(-1)) (foll hR rfl) ?_;exact tt [] .nil t1
  refine us (mv [] (hof2) .nil (dl lw (dv (Qo3 (Low.fn _ _ _ LowL.nil LowL.nil)) .nil)) .nil rx) ?_;refine Qs0 (fun r:Bool=>Bo r) (fun r:Bool=>[]) (leaf:=(decide ((Qm2 l (fun (y:Node)=>(!(Q02 y)))) >= 0))) (foll hR rfl) ?_;exact tt [] .nil t1
 (first|apply u2|apply u3|apply u4|apply us);exact mv [] (hof1) .nil (dl lw (dv (Qo3 (Low.fn _ _ _ LowL.nil LowL.nil)) .nil)) .nil rx;apply ai<;>intro h5
 ·exact lfA
 ·exact lfA
def Qv7 (l:List Usage):List Usage->Nat->Int
 | [],_=>0
 | x_ :: r,i=>bif ((((((!(QT8 x_.user))||(!(QT8 x_.account)))||(x_.used != (Qf4 x_.used)))||(decide (x_.share<0)))||(decide (x_.share > x_.used)))||((decide ((i:Int) > 0))&&(decide ((QD9 (l.getD ((w64 ((i:Int) - 1)).toNat) zJ) x_) >= 0)))) then 2 else Qv7 l r (i+1)
def QO7 (l:List Usage):Int:=bif (decide ((l.length:Int) > 200)) then 2 else Qv7 l l 0
theorem Qka (l:List Usage) (hs0:l.length<=4294967296∧(∀ y ∈ l,y.sz)):GV 42 [Qt1 l] (I (QO7 l)):=by
 generalize hR:QO7 l=R;refine gA (kp 5 [7,8,9,10,11,58]) Tryz.func42 ?_;obtain ⟨z9,z10⟩:=id hs0;apply ai<;>intro h1
 ·have qh1:=yca h1;exact lfA
 ·have qh1:=yja h1;refine Qk0 (fun (i:Nat)=>Qv7 l (List.drop i l) i=R∧i<=l.length) (fun i=>l.length - i) (fun i=>[(0,Qt1 l),(2,I 0),(8,Qt1 l),(9,I (l.length:Int)),(10,I (i:Int))]) (fun i=>[]) 0 (wkA []) ⟨folA,by exact omA⟩ ?_;clear hR;rintro i ⟨hR,hj⟩;(try dsimp only at hR hj);apply ai<;>intro h3
  ·have hlt:=ltA h3;rw [Qd0 zJ hlt] at hR;have hxz:(l.getD i zJ).sz:=QB1 (by first|assumption|grind) (Usage.szz _);have hkz:=hxz;obtain ⟨z5,z6⟩:=Usage.zz hxz;refine ai gkA ?_;refine dchk (by kernel_rfl) ?_;(first|apply u2|apply u3|apply u4|apply us);exact Qa7 ((l.getD i zJ).user) _;(first|apply u2|apply u3|apply u4|apply us);exact Qa7 ((l.getD i zJ).account) _;(first|apply u2|apply u3|apply u4|apply us);exact Q89 ((l.getD i zJ).used) _;refine ai gkA ?_;(first|apply u2|apply u3|apply u4|apply us);exact Qma (l.getD ((w64 ((i:Int) - 1)).toNat) zJ) (l.getD i zJ) szA szA _;(repeat ((first|refine ai rfl ?_|refine ai (fun _=>rfl) ?_|refine ai (fun _=>Qa7 ((l.getD i zJ).user) _) ?_|refine ai (fun _=>Qa7 ((l.getD i zJ).account) _) ?_|refine ai (fun _=>Q89 ((l.getD i zJ).used) _) ?_|refine ai (fun _=>Qma (l.getD ((w64 ((i:Int) - 1)).toNat) zJ) (l.getD i zJ) szA szA _) ?_)));apply ai<;>intro h7
   ·exact lfA
   ·exact Qr0 (i+1) (wkA []) omA ⟨folA,by exact omA⟩
  ·rw [Qh0 (l:=l) (j:=i) (geA h3)] at hR;exact lfA
def QG1 (t:Taken) (from_:Int) (to_:Int) (n:Int):Taken:=bif ((decide (to_<=from_))||(n==0)) then t else bif ((Qz2 t.p from_ to_ (w64 (0 - n))).2==0) then (⟨(Qz2 t.p from_ to_ (w64 (0 - n))).1⟩:Taken) else t
theorem Qn6 (t:Taken) (from_:Int) (to_:Int) (n:Int) (hs0:t.sz):AMoves Tryz.prog 205 [AVal.ptr 0 0 1 0 0,I from_,I to_,I n] [(0,AObj.row 251 1 [[stepL t.p]])] 1 (AVal.tup []) [(0,AObj.row 251 1 [[stepL ((QG1 t from_ to_ n).p)]])]:=by
 generalize hR:QG1 t from_ to_ n=R;refine mo (kp 10 [16,30]) Tryz.func205 ?_;have hk0:=hs0;obtain z5:t.p.length<=4294967296:=hs0;apply ai<;>intro h1
 ·obtain rfl:=foll hR (ct h1 rfl);exact rq (ttA [0])
 ·refine us (Q19 t.p from_ to_ (w64 (0 - n)) szA _) ?_;apply ai<;>intro h3
  ·obtain rfl:=foll hR (cf h1 (ct h3 rfl));exact rq (ttA [0])
  ·obtain rfl:=foll hR (cf h1 (cf h3 rfl));exact rq (ttA [0])
theorem Qe9 {t:Taken} {f g n:Int} (h:t.p.length<=4294967296):(QG1 t f g n).p.length<=4294967296:=by
 unfold QG1
 repeat' first|exact h|exact Qz7 _ _ _ _ h|(rw [yka];split)
theorem flat_len (n:Int):(QW4 n).length<=4294967296:=by simp [QW4]
def QR2 (p_:List Step) (from_:Int) (latest:Int) (grace:Int) (options1:List Alt):List Alt->Int->Int->Bool->Nat->Int × Int × Bool
 | [],choice,start,found,_=>(choice,start,found)
 | x_ :: r,choice,start,found,i=>bif ((!(Q4a x_.wall x_.nodes))||(decide ((max grace 0) > (w64 (1000000 - x_.wall))))) then QR2 p_ from_ latest grace options1 r choice start found (i+1) else bif ((!((QH2 p_ from_ (w64 (x_.wall+(max grace 0))) x_.nodes).2&&(decide ((QH2 p_ from_ (w64 (x_.wall+(max grace 0))) x_.nodes).1<=latest))))||(found&&(decide ((w64 ((QH2 p_ from_ (w64 (x_.wall+(max grace 0))) x_.nodes).1+x_.wall)) >= (w64 (start+(options1.getD (choice.toNat) zA).wall)))))) then QR2 p_ from_ latest grace options1 r choice start found (i+1) else QR2 p_ from_ latest grace options1 r (i:Int) ((QH2 p_ from_ (w64 (x_.wall+(max grace 0))) x_.nodes).1) true (i+1)
def QQ4 (choice:Int) (start:Int) (found:Bool):Int × Int × Bool:=(choice,start,found)
def QM8 (p_:List Step) (from_:Int) (latest:Int) (grace:Int) (options1:List Alt):Int × Int × Bool:=QQ4 ((QR2 p_ from_ latest grace options1 options1 0 0 false 0).1) ((QR2 p_ from_ latest grace options1 options1 0 0 false 0).2.1) ((QR2 p_ from_ latest grace options1 options1 0 0 false 0).2.2)
def QB2 (p_:List Step) (options:List Alt) (from_:Int) (latest:Int) (grace:Int):Int × Int × Bool:=bif (decide ((options.length:Int) > 48)) then QM8 p_ from_ latest grace (List.take 48 options) else QM8 p_ from_ latest grace options
theorem b3a0 {P:Prop} (h:P:=by first|((exact hx))|first|((exact fun h=>absurd h (by decide)))|first|((exact fun _=>⟨by omega,by omega⟩))|exact exA):P:=h
theorem Q3a (p_:List Step) (options:List Alt) (from_:Int) (latest:Int) (grace:Int) (hs0:p_.length<=4294967296) (hs1:options.length<=4294967296):GV 166 [stepL p_,altL options,I from_,I latest,I grace] (AVal.tup [I ((QB2 p_ options from_ latest grace).1),I ((QB2 p_ options from_ latest grace).2.1),Bo ((QB2 p_ options from_ latest grace).2.2)]):=by
 generalize hR:QB2 p_ options from_ latest grace=R;refine gA (kj [1000003] 21 [23,29,30,31,32,60]) Tryz.func166 ?_;have hk0:=hs0;obtain z9:p_.length<=4294967296:=hs0;have hk1:=hs1;obtain z10:options.length<=4294967296:=hs1;refine Qu1 (fun (options1:List Alt)=>QM8 p_ from_ latest grace options1=R∧options1.length<=4294967296) (fun options1=>[(1,altL options1),(5,AVal.ptr 0 0 1 0 0),(7,AVal.ptr 1 0 1 0 0),(8,AVal.ptr 2 0 1 0 0),(9,AVal.ptr 3 0 1 0 0),(10,I 0),(11,I 0),(12,Bo false)]) (fun options1=>[(0,AObj.row 207 1 [[stepL p_]]),(0,AObj.row 3 1 [[I from_]]),(0,AObj.row 3 1 [[I latest]]),(0,AObj.row 3 1 [[I grace]])]) ?_ ?_
 ·clear hR;rintro options1 ⟨hR,hx⟩;(try dsimp only at hR hx);refine QIa (fun (choice:Int) (start:Int) (found:Bool) (i:Nat)=>QQ4 (QR2 p_ from_ latest grace options1 (List.drop i options1) choice start found i).1 (QR2 p_ from_ latest grace options1 (List.drop i options1) choice start found i).2.1 (QR2 p_ from_ latest grace options1 (List.drop i options1) choice start found i).2.2=R∧i<=options1.length∧(found=true->0<=choice∧choice<(options1.length:Int))) (fun choice start found i=>options1.length - i) (fun choice start found i=>[(1,altL options1),(10,I 0),(11,I 0),(12,Bo false),(13,AVal.fn (.func 212) [] [AVal.ptr 3 0 1 0 0,AVal.ptr 0 0 1 0 0,AVal.ptr 1 0 1 0 0,AVal.ptr 2 0 1 0 0]),(14,I choice),(15,I start),(16,Bo found),(29,altL options1),(30,I (options1.length:Int)),(31,I (i:Int))]) (fun choice start found i=>[(0,AObj.row 207 1 [[stepL p_]]),(0,AObj.row 3 1 [[I from_]]),(0,AObj.row 3 1 [[I latest]]),(0,AObj.row 3 1 [[I (max grace 0)]])]) 0 0 false 0 (wkA [0,1,2,3]) ⟨foll hR rfl,by exact omA,b3a0⟩ ?_;clear hR;rintro choice start found i ⟨hR,hj,hx⟩;(try dsimp only at hR hj hx);apply ai<;>intro h1
  ·have hlt:=ltA h1;rw [Qd0 zA hlt] at hR;refine And.intro (by first|exact fun hg=>yoa (by first|((have q:=(Bool.and_eq_true_iff.1 hg).2;have q2:=hx q;omega))|exact ckA)|exact gkA) ?_;refine ACalls.of_cwp (fun _=>true) Tryz.func212 rfl rfl ?_;refine us (Q4c ((options1.getD i zA).wall) ((options1.getD i zA).nodes) _) ?_;refine ai (fun h3=>?_) (fun h4=>?_)
   ·refine ⟨_,_,Told.refl,?_⟩;refine dchk (by kernel_rfl) ?_;(conv=>whnf);refine ai (fun hg=>nomatch (show false=true from hg)) ?_;(repeat ((first|refine ai rfl ?_|refine ai (fun _=>rfl) ?_)));refine ai (fun _=>?_) (fun h=>nomatch h);exact QT3 choice start found (i+1) (wkA [0,1,2,3]) omA ⟨foll hR (congrArg (fun p:Int × Int × Bool=>QQ4 p.1 p.2.1 p.2.2) (ct h3 rfl)),by exact omA,b3a0⟩
   ·refine us (fit_Earliest_c p_ from_ (w64 ((options1.getD i zA).wall+(max grace 0))) ((options1.getD i zA).nodes) szA _) ?_;refine dchk (by kernel_rfl) ?_;(repeat ((first|refine ai rfl ?_|refine ai (fun _=>rfl) ?_)));refine ⟨_,_,Told.refl,?_⟩;refine dchk (by kernel_rfl) ?_;refine And.intro (by first|exact fun hg=>yoa (by first|((have q:=(Bool.and_eq_true_iff.1 hg).2;have q2:=hx q;omega))|exact ckA)|exact gkA) ?_;(repeat ((first|refine ai rfl ?_|refine ai (fun _=>rfl) ?_)));apply ai<;>intro h5
    ·exact QT3 choice start found (i+1) (wkA [0,1,2,3]) omA ⟨foll hR (congrArg (fun p:Int × Int × Bool=>QQ4 p.1 p.2.1 p.2.2) (cf h4 (ct h5 rfl))),by exact omA,b3a0⟩
    ·exact QT3 (i:Int) ((QH2 p_ from_ (w64 ((options1.getD i zA).wall+(max grace 0))) (options1.getD i zA).nodes).1) true (i+1) (wkA [0,1,2,3]) omA ⟨foll hR (congrArg (fun p:Int × Int × Bool=>QQ4 p.1 p.2.1 p.2.2) (cf h4 (cf h5 rfl))),by exact omA,b3a0⟩
  ·rw [Qh0 (l:=options1) (j:=i) (geA h1)] at hR;replace hR:QQ4 choice start found=R:=fo2 (fun p:Int × Int × Bool=>QQ4 p.1 p.2.1 p.2.2) (choice,start,found) hR rfl;exact lfA
 ·apply ai<;>intro h7
  ·have qh7:=yca h7;refine And.intro (by first|exact fun hg=>yoa (by first|((have q:=(Bool.and_eq_true_iff.1 hg).2;have q2:=hx q;omega))|exact ckA)|exact gkA) ?_;exact Qj0 (List.take 48 options) (wk [0,1,2,3] (tO rfl (ts (lv lw LowL.nil)) (tO rfl (ts (l1 LowL.nil)) (tO rfl (ts (l1 LowL.nil)) (tO rfl (ts (l1 LowL.nil)) .nil)))) (sv (turn_as (as_take options 48 (by first|((have q:=(Bool.and_eq_true_iff.1 hg).2;have q2:=hx q;omega))|exact ckA)) lw) (sv (Qy0 0 rfl rfl) (sv (Qy0 1 rfl rfl) (sv (Qy0 2 rfl rfl) (sv (Qy0 3 rfl rfl) (s1 (s1 (s1 .nil))))))))) (⟨folA,b3a0⟩)
  ·have qh7:=yja h7;exact Qj0 options (wkA [0,1,2,3]) (⟨folA,b3a0⟩)
def Qvd (p_:List Step) (at_:Int) (long:Int) (nodes:Int):Bool:=bif ((((QE2 p_)!=0)||(!(Q4a long nodes)))||(!(Qq8 at_ 0 (w64 (1000000 - long))))) then false else (decide ((Q29 p_ at_ (w64 (at_+long))) >= nodes))
theorem fit_Fits_c (p_:List Step) (at_:Int) (long:Int) (nodes:Int) (hs0:p_.length<=4294967296):GV 217 [stepL p_,I at_,I long,I nodes] (Bo (Qvd p_ at_ long nodes)):=by
 generalize hR:Qvd p_ at_ long nodes=R;refine gA (kp 9 [24]) Tryz.func217 ?_;have hk0:=hs0;obtain z3:p_.length<=4294967296:=hs0;refine us (QV4 p_ szA _) ?_;(first|apply u2|apply u3|apply u4|apply us);exact Q4c long nodes _;(first|apply u2|apply u3|apply u4|apply us);exact Qs9 at_ 0 (w64 (1000000 - long)) _;apply ai<;>intro h1
 ·exact lfA
 ·refine us (QBe p_ at_ (w64 (at_+long)) szA _) ?_;exact lfA
def Q59 (b:List Job):List Job->Nat->Bool
 | [],_=>true
 | x_ :: r,i=>bif (!(Qkc x_ (b.getD i zG))) then false else Q59 b r (i+1)
def Qlc (a:List Job) (b:List Job):Bool:=bif ((a.length:Int)!=(b.length:Int)) then false else Q59 b a 0
theorem ref15_Same_c (a:List Job) (b:List Job) (hs0:a.length<=4294967296∧(∀ y ∈ a,y.sz)) (hs1:b.length<=4294967296∧(∀ y ∈ b,y.sz)):GV 34 [jobL a,jobL b] (Bo (Qlc a b)):=by
 generalize hR:Qlc a b=R;refine gA (kp 6 [10,14,26]) Tryz.func34 ?_;obtain ⟨z12,z13⟩:=id hs0;obtain ⟨z14,z15⟩:=id hs1;apply ai<;>intro h1
 ·exact lfA
 ·refine Qk0 (fun (i:Nat)=>Q59 b (List.drop i a) i=R∧i<=a.length) (fun i=>a.length - i) (fun i=>[(0,jobL a),(1,jobL b),(4,Bo false),(5,I (i:Int))]) (fun i=>[]) 0 (wkA []) ⟨folA,by exact omA⟩ ?_;clear hR;rintro i ⟨hR,hj⟩;(try dsimp only at hR hj);apply ai<;>intro h3
  ·have hlt:=ltA h3;rw [Qd0 zG hlt] at hR;have hxz:(a.getD i zG).sz:=QB1 (by first|assumption|grind) (Job.szz _);have hkz:=hxz;obtain ⟨z5,z6,z7,z8,z9⟩:=Job.zz hxz;refine dchk (by kernel_rfl) ?_;refine ai gkA ?_;refine ai gkA ?_;(first|apply u2|apply u3|apply u4|apply us);exact QYc (a.getD i zG) (b.getD i zG) szA szA _;(repeat ((first|refine ai rfl ?_|refine ai (fun _=>rfl) ?_|refine ai (fun _=>QYc (a.getD i zG) (b.getD i zG) szA szA _) ?_)));apply ai<;>intro h10
   ·exact lfA
   ·exact Qr0 (i+1) (wkA []) omA ⟨folA,by exact omA⟩
  ·rw [Qh0 (l:=a) (j:=i) (geA h3)] at hR;exact lfA
end Go.Proofs.YtgnlcjenoaoffaaGreatDoor
namespace Go.Proofs.YtgnlcjenoaoffaaGreatDoor
set_option linter.unusedSimpArgs false
set_option linter.unusedVariables false
open Go.Fw
set_option maxRecDepth 20000
set_option maxHeartbeats 4000000
attribute [local irreducible] ACalls AMoves
def Q62 :Nat->LexReader->Bool->LexReader × Bool
 | 0,_,_=>(zN,false)
 | m+1,c,c2=>bif ((decide (c.at_<(c.line.length:Int)))&&(Qx1 (c.line.getD (c.at_.toNat) 0) c2).1) then Q62 m { c with at_:=(w64 (c.at_+1)) } (bif (decide (c.at_<(c.line.length:Int))) then (Qx1 (c.line.getD (c.at_.toNat) 0) c2).2 else c2) else (c,(bif (decide (c.at_<(c.line.length:Int))) then (Qx1 (c.line.getD (c.at_.toNat) 0) c2).2 else c2))
def QL2 (r_:LexReader) (c:LexReader) (c2:Bool):Token × LexReader:=bif (c.at_==(c.line.length:Int)) then (zD,(Q91 c r_.at_ 50)) else bif ((c.line.getD (c.at_.toNat) 0)!=34) then (zD,(Q91 c c.at_ 40)) else bif ((QZ2 (runesBytes (List.drop (r_.at_.toNat) (List.take ((w64 (c.at_+1)).toNat) c.line)))).2 != 0) then ((⟨4,(QZ2 (runesBytes (List.drop (r_.at_.toNat) (List.take ((w64 (c.at_+1)).toNat) c.line)))).1,0,0⟩:Token),(Q91 { c with at_:=(w64 (c.at_+1)) } r_.at_ ((QZ2 (runesBytes (List.drop (r_.at_.toNat) (List.take ((w64 (c.at_+1)).toNat) c.line)))).2))) else ((⟨4,(QZ2 (runesBytes (List.drop (r_.at_.toNat) (List.take ((w64 (c.at_+1)).toNat) c.line)))).1,0,0⟩:Token),{ c with at_:=(w64 (c.at_+1)) })
def Qa2 (r_:LexReader):Token × LexReader:=QL2 r_ ((Q62 ((((r_.line.length:Int) - r_.at_).toNat)+1) r_ true).1) ((Q62 ((((r_.line.length:Int) - r_.at_).toNat)+1) r_ true).2)
theorem Qcc (r_:LexReader) (hs0:r_.sz) (hp0:0<=r_.at_∧r_.at_<(r_.line.length:Int)∧r_.line.length<=400):AMoves Tryz.prog 304 [AVal.ptr 0 0 4 0 0] [(0,AObj.row 318 4 [[runes r_.line,I r_.at_,I r_.bad,I r_.error]])] 1 (Token.a ((Qa2 r_).1)) [(0,AObj.row 318 4 [[runes ((Qa2 r_).2.line),I ((Qa2 r_).2.at_),I ((Qa2 r_).2.bad),I ((Qa2 r_).2.error)]])]:=by
 generalize hR:Qa2 r_=R;refine mo (kp 7 [23,38,69]) Tryz.func304 ?_;have hk0:=hs0;obtain z9:r_.line.length<=4294967296:=hs0;refine ACalls.of_cwp (fun _=>true) Tryz.func289 rfl rfl ?_;refine Qu0 (fun (c:LexReader) (c2:Bool)=>∃ m,(((c.line.length:Int) - c.at_).toNat)<m∧QL2 r_ (Q62 m c c2).1 (Q62 m c c2).2=R∧0<=c.at_∧c.at_<=(c.line.length:Int)∧c.line.length<=400∧r_.at_<=c.at_∧0<=r_.at_) (fun c c2=>(((c.line.length:Int) - c.at_).toNat)) (fun c c2=>[(0,AVal.ptr 0 0 4 0 0),(1,AVal.fn (.func 318) [] [AVal.ptr 2 0 1 0 0]),(4,Sg ⟨#[]⟩),(5,I r_.at_)]) (fun c c2=>[(0,AObj.row 318 4 [[runes c.line,I c.at_,I c.bad,I c.error]]),(0,AObj.row 291 4 [[I 0,Sg ⟨#[]⟩,I 0,I 0]]),(0,AObj.row 4 1 [[Bo c2]])]) r_ true (wkA [0,1,2]) ⟨_,yTa _,foll hR rfl,by exact exA⟩ ?_;clear hR;rintro c c2 ⟨m,hm,hR,hx⟩;(try dsimp only at hR hm hx);obtain ⟨m,rfl⟩:=sucA m;refine dchk (by kernel_rfl) ?_;refine ai gkA ?_;refine ⟨_,[(0,AObj.row 318 4 [[runes c.line,I c.at_,I c.bad,I c.error]]),(0,AObj.row 291 4 [[I 0,Sg ⟨#[]⟩,I 0,I 0]]),(0,AObj.row 4 1 [[Bo (bif (decide (c.at_<(c.line.length:Int))) then (Qx1 (c.line.getD (c.at_.toNat) 0) c2).2 else c2)]])],fun hg=>(by rw [show (decide (c.at_<(c.line.length:Int)))=true from hg];exact mv [2] (Qca (c.line.getD (c.at_.toNat) 0) c2) (dO (ds (l1 LowL.nil)) .nil) (d1 (dp .nil)) (rO (re (l1 LowL.nil)) .nil) rx),fun hg=>(by rw [show (decide (c.at_<(c.line.length:Int)))=false from hg];rfl),?_⟩;(repeat ((first|refine ai rfl ?_|refine ai (fun _=>rfl) ?_)));apply ai<;>intro h1
 ·have hq1:=yca ((yha _ _).mp h1).1;have hwr:w64 (c.at_+1)=c.at_+1:=wr oA;exact Qc0 { c with at_:=(w64 (c.at_+1)) } (bif (decide (c.at_<(c.line.length:Int))) then (Qx1 (c.line.getD (c.at_.toNat) 0) c2).2 else c2) (wk [0,1,2] (tO rfl (ts LexReader.lo) (tO rfl (ts Token.lo) (tO rfl (ts (l1 LowL.nil)) .nil))) (sv (Qy0 0 rfl rfl) (sv (QB4 .nil (cv (Qy0 2 rfl rfl) .nil)) (s1 (s1 .nil))))) omA ⟨m,by exact omA,foll hR (congrArg (fun p:LexReader × Bool=>QL2 r_ p.1 p.2) (ct h1 rfl)),by exact exA⟩
 ·replace hR:QL2 r_ c (bif (decide (c.at_<(c.line.length:Int))) then (Qx1 (c.line.getD (c.at_.toNat) 0) c2).2 else c2)=R:=fo2 (fun p:LexReader × Bool=>QL2 r_ p.1 p.2) (c,(bif (decide (c.at_<(c.line.length:Int))) then (Qx1 (c.line.getD (c.at_.toNat) 0) c2).2 else c2)) hR (cf h1 rfl);refine dchk (by kernel_rfl) ?_;refine ai gkA ?_;(first|refine ⟨(List.drop (r_.at_.toNat) (List.take (c.at_.toNat) c.line)),by exact cvA,?_⟩|refine ⟨_,fun _=>⟨(List.drop (r_.at_.toNat) (List.take (c.at_.toNat) c.line)),by exact cvA,rfl,rfl⟩,?_⟩|refine ⟨_,rfl,⟨(List.drop (r_.at_.toNat) (List.take (c.at_.toNat) c.line)),by exact cvA,Sub.refl _,rfl⟩,?_⟩);(repeat ((first|refine ai rfl ?_|refine ai (fun _=>rfl) ?_)));refine ⟨_,_,Told.refl,?_⟩;refine dchk (by kernel_rfl) ?_;(repeat ((first|refine ai rfl ?_|refine ai (fun _=>rfl) ?_)));apply ai<;>intro h3
  ·refine us (mv [0] (Q93 c r_.at_ 50) (dO (ds LexReader.lo) .nil) (dp (d1 (d1 .nil))) (rO (re LexReader.lo) .nil) rx) ?_;obtain rfl:=foll hR (ct h3 rfl);exact rq (ttA [0])
  ·refine dchk (by kernel_rfl) ?_;refine ai gkA ?_;(repeat ((first|refine ai rfl ?_|refine ai (fun _=>rfl) ?_)));apply ai<;>intro h5
   ·refine us (mv [0] (Q93 c c.at_ 40) (dO (ds LexReader.lo) .nil) (dp (d1 (d1 .nil))) (rO (re LexReader.lo) .nil) rx) ?_;obtain rfl:=foll hR (cf h3 (ct h5 rfl));exact rq (ttA [0])
   ·refine dchk (by kernel_rfl) ?_;refine ai gkA ?_;(first|refine ⟨(List.drop (r_.at_.toNat) (List.take ((w64 (c.at_+1)).toNat) c.line)),by exact cvA,?_⟩|refine ⟨_,fun _=>⟨(List.drop (r_.at_.toNat) (List.take ((w64 (c.at_+1)).toNat) c.line)),by exact cvA,rfl,rfl⟩,?_⟩|refine ⟨_,rfl,⟨(List.drop (r_.at_.toNat) (List.take ((w64 (c.at_+1)).toNat) c.line)),by exact cvA,Sub.refl _,rfl⟩,?_⟩);(first|apply u2|apply u3|apply u4|apply us);exact QP9 (runesBytes (List.drop (r_.at_.toNat) (List.take ((w64 (c.at_+1)).toNat) c.line))) szA (by refine yea (Q06 _) ?_;simp only [yEa,yAa];omega) _;(repeat ((first|refine ai rfl ?_|refine ai (fun _=>rfl) ?_|refine ai (fun _=>QP9 (runesBytes (List.drop (r_.at_.toNat) (List.take ((w64 (c.at_+1)).toNat) c.line))) szA (by refine yea (Q06 _) ?_;simp only [yEa,yAa];omega) _) ?_)));apply ai<;>intro h7
    ·refine us (mv [0] (Q93 { c with at_:=(w64 (c.at_+1)) } r_.at_ ((QZ2 (runesBytes (List.drop (r_.at_.toNat) (List.take ((w64 (c.at_+1)).toNat) c.line)))).2)) (dO (ds LexReader.lo) .nil) (dp (d1 (d1 .nil))) (rO (re LexReader.lo) .nil) rx) ?_;obtain rfl:=foll hR (cf h3 (cf h5 (ct h7 rfl)));exact rq (ttA [0])
    ·obtain rfl:=foll hR (cf h3 (cf h5 (cf h7 rfl)));exact rq (tt [0] (tO rfl (ts LexReader.lo) .nil) (Qg3 (Low.agg' (Token.lo))))
def QE7 (min max wall:Int):List Alt:=(List.range (max - min+1).toNat).map fun (i:Nat)=>(⟨max - (i:Int),wall⟩:Alt)
def Qe0 (s:Shape):List Alt:=bif QE3 s != 0 then [] else bif s.kind==3 then s.alts++QE7 s.min s.max s.wall else s.alts
theorem QR9 {s:Shape} (h:(QE3 s != 0)=false) (hk:(s.kind==3)=true):1<=s.min∧s.min<=s.max∧s.max<=48:=by
 have hk':s.kind=3:=by simpa using hk
 simp only [QE3,hk'] at h;revert h;cases h2:(((((s.alts.length:Int)==0)&&(decide (s.min<=s.max)))&&(Qv1 (⟨s.min,s.wall⟩:Alt)))&&(decide (s.max<=48))) with
 | false=>simp [h2,Q53]
 | true =>
  intro _;simp [Qv1] at h2;omega
theorem QJe (lo hi wall:Int):((Q55 hi (hi - lo+1).toNat).map fun (n:Int)=>(⟨n,wall⟩:Alt))=QE7 lo hi wall:=by
 simp [Q55,QE7,List.map_map,Function.comp_def]
theorem Qs2 (s:Shape) (hs0:s.sz):GV 117 [Shape.a s] (altL (Qe0 s)):=by
 generalize hR:Qe0 s=R;refine gA (kp 4 [7,13,18]) Tryz.func117 ?_;have hk0:=hs0;obtain z7:s.alts.length<=4294967296:=hs0;refine us (QCb s szA _) ?_;apply ai<;>intro h1
 ·exact lfA
 ·refine us (mv [] (QDb s.alts szA) .nil (dv (Qo3 (Alt.lows _ _)) .nil) (rO rr .nil) (rw_ 1 0 rfl)) ?_;apply ai<;>intro h3
  ·refine us (r:=.fn (.func 226) [] [.ptr 4 0 1 0 0,.ptr 3 0 1 0 0]) (o:=[(0,.row 51 5 [[I s.kind,altL s.alts,I s.min,I s.max,I s.wall]]),(0,.row 103 2 (s.alts.map Alt.cells)),(0,.row 49 1 [[.own 1 0 2 0 s.alts.length]]),(0,.row 3 1 [[I s.min]]),(0,.row 3 1 [[I s.max]])]) (ACalls.of_cwp (fun _=>true) Tryz.func179 rfl rfl ?_) ?_
   ·exact ⟨_,_,QNe,rfl,rfl⟩
   obtain ⟨q1,q2,q3⟩:=QR9 h1 h3;refine range_next (α:=Int) (fun n=>.int .i64 n) (Q55 s.max (s.max - s.min+1).toNat) (fun xs=>[(0,.row 51 5 [[I s.kind,altL s.alts,I s.min,I s.max,I s.wall]]),(0,.row 103 2 ((s.alts++xs.map fun (n:Int)=>(⟨n,s.wall⟩:Alt)).map Alt.cells)),(0,.row 49 1 [[.own 1 0 2 0 (s.alts++xs.map fun (n:Int)=>(⟨n,s.wall⟩:Alt)).length]]),(0,.row 3 1 [[I s.min]]),(0,.row 3 1 [[I s.max]])])
    (by simp) (by decide) (by decide) rfl rfl rfl rfl ?_ ?_ (by decide) ?_ ?_
   ·intro xs q hq _;simp only [y6b,y8a,or_false] at hq;rcases hq with rfl|rfl|rfl|rfl|rfl <;> exact ⟨_,_,_,rfl⟩
   ·intro K a w hs;have hv:=QDe (hs.slot 18);obtain ⟨c1,c2⟩:=box_cell (o:=4) hs.mem rfl;obtain ⟨c3,c4⟩:=box_cell (o:=3) hs.mem rfl;refine ⟨226,#[.pointer (some ⟨K.ρ 4 0,0,none⟩),.pointer (some ⟨K.ρ 3 0,0,none⟩)],⟨K.ρ 3 0,0,none⟩,.int .i64 s.min,hv,?_,c4,?_,?_⟩
    ·intro args w;simp [go_sem]
    ·intro K1 xs W hs1;have hv1:=QDe (hs1.slot 18);have e:K1.ρ 3 0=K.ρ 3 0:=by
      have:=hv1.symm.trans hv;exact (by simpa using this:K1.ρ 4 0=K.ρ 4 0∧K1.ρ 3 0=K.ρ 3 0).2
     rw [← e];exact (box_cell (o:=3) hs1.mem rfl).1
    ·rw [Qs7];exact sizes_stops 2 (by decide) _ _ s.min s.max w q1 q2 q3 c2 c4 c1 c3
   ·intro xs x hlen;rw [Qs7] at hlen;refine Or.inl ?_;refine ⟨Qd1 16 rfl lnA (by simp;omega),?_⟩;exact wk [0,1,2,3,4] (tO rfl (ts Shape.lo) (tO rfl (QQb (by simp only [yDb,ytb];rfl) (Qx7 fun _=>Alt.lowc _ _)) (tO rfl (QE1 (.cons _ _ _ _ (to 1 (by simp [yma];omega)) .nil)) (tO rfl (ts (l1 .nil)) (tO rfl (ts (l1 .nil)) .nil)))))
     (sv (QB4 .nil (.cons _ _ _ _ (Qy0 4 rfl rfl) (.cons _ _ _ _ (Qy0 3 rfl rfl) .nil))) (s1 (sv (Qy0 2 rfl rfl) (s1 (s1 (sv (Qy0 0 rfl rfl) (sl (Shape.low _ _) .nil)))))))
   ·have e:Qe0 s=s.alts++(Q55 s.max (s.max - s.min+1).toNat).map fun (n:Int)=>(⟨n,s.wall⟩:Alt):=by
     rw [QJe];exact cf h1 (ct h3 rfl)
    obtain rfl:=foll hR e;exact Q60 lw (Qa0 zA _ rfl rfl rfl)
  ·obtain rfl:=foll hR (cf h1 (cf h3 rfl));exact Q60 lw (Qa0 zA _ rfl eqA lnA)
theorem Qy8 (s:Shape) (h:s.sz):(Qe0 s).length<=4294967296:=by
 unfold Qe0;cases h1:(QE3 s != 0) with
 | true=>simp
 | false =>
  cases hk:(s.kind==3) with
  | false=>exact h
  | true =>
   obtain ⟨a,b,c⟩:=QR9 h1 hk;have hz:s.alts.length=0:=by
    have hk':s.kind=3:=by simpa using hk
    simp only [QE3,hk'] at h1;revert h1;cases h2:(((((s.alts.length:Int)==0)&&(decide (s.min<=s.max)))&&(Qv1 (⟨s.min,s.wall⟩:Alt)))&&(decide (s.max<=48))) with
    | false=>simp [h2,Q53]
    | true =>
     intro _;simp at h2;simp [h2.1.1.1]
   simp only [cond_false,cond_true,yma,hz,QE7,yxa,yOa];omega
def Qh4 (is:Node->Bool):List Node->List Int->Nat->(List Int)
 | [],out,_=>out
 | x_ :: r,out,i=>bif (is x_) then Qh4 is r (out++([(i:Int)]:List Int)) (i+1) else Qh4 is r out (i+1)
def Qs1 (out:List Int):Int:=(QJ1 out).1
def QN1 (l:List Node) (is:Node->Bool):Int:=bif ((Q61 l)!=0) then 0 else Qs1 (Qh4 is l [] 0)
def Qb8 (l:List Node):List Int->Nat->Bool
 | [],_=>true
 | x_ :: r,i=>bif ((decide (x_<(l.length:Int)))&&((l.getD (x_.toNat) zF).want==0)) then Qb8 l r (i+1) else false
def Qya (l:List Node) (set_:Int):Bool:=bif ((Q61 l)!=0) then false else Qb8 l (QG0 set_) 0
theorem alloc_Quiet_c (l:List Node) (set_:Int) (hs0:l.length<=4294967296):GV 81 [nodeL l,U set_] (Bo (Qya l set_)):=by
 generalize hR:Qya l set_=R;refine gA (kp 7 [9,11,12,13,14,28]) Tryz.func81 ?_;have hk0:=hs0;obtain z7:l.length<=4294967296:=hs0;refine us (QY2 l szA _) ?_;apply ai<;>intro h1
 ·exact lfA
 ·refine us (Qpa set_ _) ?_;refine Qk0 (fun (i:Nat)=>Qb8 l (List.drop i (QG0 set_)) i=R∧i<=(QG0 set_).length) (fun i=>(QG0 set_).length - i) (fun i=>[(0,nodeL l),(4,Bo false),(11,ints (QG0 set_)),(12,I ((QG0 set_).length:Int)),(13,I (i:Int))]) (fun i=>[]) 0 (wkA []) ⟨folA,by exact omA⟩ ?_;clear hR;rintro i ⟨hR,hj⟩;(try dsimp only at hR hj);apply ai<;>intro h3
  ·have hlt:=ltA h3;rw [Qd0 0 hlt] at hR;have hq:=Qed set_ hlt;have hq2:=QX6 set_;refine ai gkA ?_;refine ai gkA ?_;apply ai<;>intro h5
   ·exact Qr0 (i+1) (wkA []) omA ⟨folA,by exact omA⟩
   ·exact lfA
  ·rw [Qh0 (l:=(QG0 set_)) (j:=i) (geA h3)] at hR;exact lfA
def QR5 (p_:List Step) (at_:Int) (long:Int) (nodes:Int):(List Step) × Int:=bif (!(Qvd p_ at_ long nodes)) then ([],130) else ((Qz2 p_ at_ (w64 (at_+long)) (w64 (0 - nodes))).1,(Qz2 p_ at_ (w64 (at_+long)) (w64 (0 - nodes))).2)
theorem fit_Take_c (p_:List Step) (at_:Int) (long:Int) (nodes:Int) (hs0:p_.length<=4294967296):GV 168 [stepL p_,I at_,I long,I nodes] (AVal.tup [stepL ((QR5 p_ at_ long nodes).1),I ((QR5 p_ at_ long nodes).2)]):=by
 generalize hR:QR5 p_ at_ long nodes=R;refine gA (kp 10 [15]) Tryz.func168 ?_;have hk0:=hs0;obtain z3:p_.length<=4294967296:=hs0;refine us (fit_Fits_c p_ at_ long nodes szA _) ?_;apply ai<;>intro h1
 ·exact lfA
 ·refine us (Q19 p_ at_ (w64 (at_+long)) (w64 (0 - nodes)) szA _) ?_;exact lfA
theorem QDc {p:List Step} (a l n:Int) (h:p.length<=4294967296):(QR5 p a l n).1.length<=4294967296:=by
 unfold QR5;cases (!(Qvd p a l n)) with
 | true=>simp
 | false=>exact Qz7 _ _ _ _ h
def QT5 (of_:Usage->Int):List Usage->Int->Nat->Int
 | [],n,_=>n
 | x_ :: r,n,i=>QT5 of_ r (Qyd ([n,(of_ x_)]:List Int)) (i+1)
def Qr3 (n:Int):Int:=n
def QS3 (l:List Usage) (of_:Usage->Int):Int:=bif ((QO7 l)!=0) then 0 else Qr3 (QT5 of_ l 0 0)
def Ql0 (l:List Node) (n:Int) (act:Int) (job:Int) (now:Int):(List Node) × Int:=bif ((Q61 l)!=0) then ([],(Q61 l)) else bif ((((decide (n<0))||(decide (n >= (l.length:Int))))||(!(Q65 now)))||(!(Qu7 (l.getD (n.toNat) zF) act job))) then ([],120) else ((l.set (n.toNat) (QB5 (l.getD (n.toNat) zF) act job now)),0)
theorem Q86 (l:List Node) (n:Int) (act:Int) (job:Int) (now:Int) (hs0:l.length<=4294967296):GV 56 [nodeL l,I n,I act,I job,I now] (AVal.tup [nodeL ((Ql0 l n act job now).1),I ((Ql0 l n act job now).2)]):=by
 generalize hR:Ql0 l n act job now=R;refine gA (kp 14 [17,41]) Tryz.func56 ?_;have hk0:=hs0;obtain z5:l.length<=4294967296:=hs0;refine us (QY2 l szA _) ?_;apply ai<;>intro h1
 ·exact lfA
 ·(first|apply u2|apply u3|apply u4|apply us);exact Qw9 now _;refine ai gkA ?_;(first|apply u2|apply u3|apply u4|apply us);exact fleet_may_c (l.getD (n.toNat) zF) act job _;apply ai<;>intro h3
  ·exact lfA
  ·refine us (mv [] (QPa l szA) .nil (dl lw .nil) (rO rr .nil) (rw_ 0 0 rfl)) ?_;refine ai gkA ?_;refine us (fleet_done_c (l.getD (n.toNat) zF) act job now _) ?_;refine ai gkA ?_;refine ⟨_,QV0 rfl rfl rfl rfl (Qo0 zF (n.toNat) (by first|rfl|exact yda _|omega) ckA) rfl rfl (QD7 (n.toNat) (QB5 (l.getD (n.toNat) zF) act job now) (by first|rfl|exact yda _|omega) rfl),?_⟩;obtain rfl:=foll hR (cf h1 (cf h3 rfl));exact Q60 (Low.tup' (.cons lw (l1 .nil))) (Seen.tup (ev (Qa0 zF _ rfl eqA lnA) (e1 .nil)))
theorem Ql1 (l:List Node) (n act job now:Int):(Ql0 l n act job now).1.length<=l.length:=by
 unfold Ql0
 repeat' first|exact yna _|(simp;done)|(rw [yka];split)
theorem QC3 {l:List Node} {n act job now:Int} (h:((Ql0 l n act job now).2 != 0)=false):0<=n∧n<(l.length:Int):=by
 unfold Ql0 at h;cases h1:((Q61 l)!=0) with
 | true=>rw [h1] at h;simp only [cond_true] at h;rw [h1] at h;exact nomatch h
 | false =>
  rw [h1] at h;cases h2:((((decide (n<0))||(decide (n >= (l.length:Int))))||(!(Q65 now)))||(!(Qu7 (l.getD (n.toNat) zF) act job))) with
  | true=>rw [h2] at h;exact nomatch h
  | false=>simp at h2;omega
def QA5 (l:List Node) (n:Int):Note × Bool:=bif (((((Q61 l)!=0)||(decide (n<0)))||(decide (n >= (l.length:Int))))||((l.getD (n.toNat) zF).want==0)) then (zL,false) else ((⟨(l.getD (n.toNat) zF).want,n,(l.getD (n.toNat) zF).job,(l.getD (n.toNat) zF).epoch⟩:Note),true)
theorem fleet_Note_c (l:List Node) (n:Int) (hs0:l.length<=4294967296):GV 196 [nodeL l,I n] (AVal.tup [Note.a ((QA5 l n).1),Bo ((QA5 l n).2)]):=by
 generalize hR:QA5 l n=R;refine gA (kp 6 [26]) Tryz.func196 ?_;have hk0:=hs0;obtain z3:l.length<=4294967296:=hs0;refine us (QY2 l szA _) ?_;refine ai gkA ?_;apply ai<;>intro h1
 ·exact lfA
 ·refine dchk (by kernel_rfl) ?_;refine ai gkA ?_;refine ai gkA ?_;refine ai gkA ?_;(repeat ((first|refine ai rfl ?_|refine ai (fun _=>rfl) ?_)));exact lfA
def Qoc (a:State) (b:State):Bool:=((((((((a.now==b.now)&&(a.nextJob==b.nextJob))&&(a.nextBook==b.nextBook))&&(Qjc a.nodes b.nodes))&&(Qlc a.jobs b.jobs))&&(Qm6 a.resizes b.resizes))&&(Qnc a.books b.books))&&(Qmc a.ledger b.ledger))
theorem QZc (a:State) (b:State) (hs0:a.sz) (hs1:b.sz):GV 11 [State.a a,State.a b] (Bo (Qoc a b)):=by
 generalize hR:Qoc a b=R;refine gA (kp 5 []) Tryz.func11 ?_;have hk0:=hs0;obtain ⟨z1,z2,z3,z4,z5,z6,z7⟩:=hs0;have hk1:=hs1;obtain ⟨z8,z9,z10,z11,z12,z13,z14⟩:=hs1;(first|apply u2|apply u3|apply u4|apply us);exact ref12_Same_c a.nodes b.nodes szA szA _;(first|apply u2|apply u3|apply u4|apply us);exact ref15_Same_c a.jobs b.jobs szA szA _;(first|apply u2|apply u3|apply u4|apply us);exact QNa a.resizes b.resizes szA szA _;(first|apply u2|apply u3|apply u4|apply us);exact ref19_Same_c a.books b.books szA szA _;(first|apply u2|apply u3|apply u4|apply us);exact ref17_Same_c a.ledger b.ledger szA szA _;exact lfA
def QE0 (r_:LexReader):Token × LexReader:=bif ((Q32 (r_.line.getD (r_.at_.toNat) 0))==2) then ((Qr2 r_).1,(Qr2 r_).2) else bif ((Q32 (r_.line.getD (r_.at_.toNat) 0))==3) then ((QY1 r_).1,(QY1 r_).2) else bif ((r_.line.getD (r_.at_.toNat) 0)==34) then ((Qa2 r_).1,(Qa2 r_).2) else bif ((decide ((Qa5 ⟨#[61,58,44,45]⟩ (wu8 (r_.line.getD (r_.at_.toNat) 0))) >= 0))&&(decide ((r_.line.getD (r_.at_.toNat) 0)<128))) then ((⟨5,(runeStr (r_.line.getD (r_.at_.toNat) 0)),0,0⟩:Token),{ r_ with at_:=(w64 (r_.at_+1)) }) else bif ((Q32 (r_.line.getD (r_.at_.toNat) 0))==0) then (zD,(Q91 r_ r_.at_ 40)) else (zD,(Q91 r_ r_.at_ 50))
theorem Qbc (r_:LexReader) (hs0:r_.sz) (hp0:0<=r_.at_∧r_.at_<(r_.line.length:Int)∧r_.line.length<=400):AMoves Tryz.prog 290 [AVal.ptr 0 0 4 0 0] [(0,AObj.row 318 4 [[runes r_.line,I r_.at_,I r_.bad,I r_.error]])] 1 (Token.a ((QE0 r_).1)) [(0,AObj.row 318 4 [[runes ((QE0 r_).2.line),I ((QE0 r_).2.at_),I ((QE0 r_).2.bad),I ((QE0 r_).2.error)]])]:=by
 generalize hR:QE0 r_=R;refine mo (kp 4 [20,26,32,37,56]) Tryz.func290 ?_;have hk0:=hs0;obtain z11:r_.line.length<=4294967296:=hs0;refine dchk (by kernel_rfl) ?_;refine ai gkA ?_;(repeat ((first|refine ai rfl ?_|refine ai (fun _=>rfl) ?_)));refine us (Q84 (r_.line.getD (r_.at_.toNat) 0) _) ?_;apply ai<;>intro h1
 ·refine us (mv [0] (Qdc r_ szA ckA) (dO (ds LexReader.lo) .nil) (dp .nil) (rO (re LexReader.lo) .nil) (Ren.low _ (Low.agg' (Token.lo)))) ?_;obtain rfl:=foll hR (ct h1 rfl);exact rq (ttA [0])
 ·refine us (Q84 (r_.line.getD (r_.at_.toNat) 0) _) ?_;apply ai<;>intro h3
  ·refine us (mv [0] (Qrb r_ szA ckA) (dO (ds LexReader.lo) .nil) (dp .nil) (rO (re LexReader.lo) .nil) (Ren.low _ (Low.agg' (Token.lo)))) ?_;obtain rfl:=foll hR (cf h1 (ct h3 rfl));exact rq (ttA [0])
  ·apply ai<;>intro h5
   ·refine us (mv [0] (Qcc r_ szA ckA) (dO (ds LexReader.lo) .nil) (dp .nil) (rO (re LexReader.lo) .nil) (Ren.low _ (Low.agg' (Token.lo)))) ?_;obtain rfl:=foll hR (cf h1 (cf h3 (ct h5 rfl)));exact rq (ttA [0])
   ·refine us (QTa ⟨#[61,58,44,45]⟩ (wu8 (r_.line.getD (r_.at_.toNat) 0)) _) ?_;apply ai<;>intro h7
    ·obtain rfl:=foll hR (cf h1 (cf h3 (cf h5 (ct h7 rfl))));exact rq (tt [0] (tO rfl (ts LexReader.lo) .nil) (Qg3 (Low.agg' (Token.lo))))
    ·refine us (Q84 (r_.line.getD (r_.at_.toNat) 0) _) ?_;apply ai<;>intro h9
     ·refine us (mv [0] (Q93 r_ r_.at_ 40) (dO (ds LexReader.lo) .nil) (dp (d1 (d1 .nil))) (rO (re LexReader.lo) .nil) rx) ?_;obtain rfl:=foll hR (cf h1 (cf h3 (cf h5 (cf h7 (ct h9 rfl)))));exact rq (ttA [0])
     ·refine us (mv [0] (Q93 r_ r_.at_ 50) (dO (ds LexReader.lo) .nil) (dp (d1 (d1 .nil))) (rO (re LexReader.lo) .nil) rx) ?_;obtain rfl:=foll hR (cf h1 (cf h3 (cf h5 (cf h7 (cf h9 rfl)))));exact rq (ttA [0])
def Adv (a b:LexReader):Prop:=b.line=a.line∧a.at_<=b.at_∧b.at_<=(a.line.length:Int)∧b.error=a.error∧b.bad=a.bad
theorem QW8 (is:Int->Bool):∀ (m:Nat) (c:LexReader),0<=c.at_->c.at_<=(c.line.length:Int)->c.line.length<=400->(((c.line.length:Int) - c.at_).toNat)<m->Adv c (Q31 is m c)
 | 0,c,_,_,_,h=>absurd h oA
 | m+1,c,h0,h1,h2,h=>by
  rw [Q31];cases hc:((decide (c.at_<(c.line.length:Int)))&&(is (c.line.getD (c.at_.toNat) 0))) with
  | false=>exact ⟨rfl,yxb _,h1,rfl,rfl⟩
  | true =>
   have hlt:=yca ((yha _ _).mp hc).1;have hw:w64 (c.at_+1)=c.at_+1:=wr oA;rw [hw];obtain ⟨a,b,d,e,f⟩:=QW8 is m { c with at_:=c.at_+1 } (by dsimp only;omega) (by dsimp only;omega) h2 (by dsimp only;omega);dsimp only at a b d e f;exact ⟨a,by simp only [cond_true];omega,d,e,f⟩
theorem Qf5 (r:LexReader) (is:Int->Bool) (h0:0<=r.at_) (h1:r.at_<=(r.line.length:Int)) (h2:r.line.length<=400):Adv r (Q40 r is).2 :=
 QW8 is _ r h0 h1 h2 (yTa _)
theorem Qw7 (r:LexReader) (is:Int->Bool) (h0:0<=r.at_) (h1:r.at_<(r.line.length:Int)) (h2:r.line.length<=400) (h:is (r.line.getD (r.at_.toNat) 0)=true):r.at_<(Q40 r is).2.at_:=by
 have hw:w64 (r.at_+1)=r.at_+1:=wr oA;have e:(Q40 r is).2=Q31 is (((r.line.length:Int) - r.at_).toNat) { r with at_:=r.at_+1 }:=by
  show Q31 is ((((r.line.length:Int) - r.at_).toNat)+1) r=_;rw [Q31,show ((decide (r.at_<(r.line.length:Int)))&&(is (r.line.getD (r.at_.toNat) 0)))=true by rw [h,Bool.and_true];exact yoa h1,hw]
  rfl
 rw [e];have:=(QW8 is (((r.line.length:Int) - r.at_).toNat) { r with at_:=r.at_+1 } (by dsimp only;omega) (by dsimp only;omega) h2 (by dsimp only;omega)).2.1;dsimp only at this;omega
theorem QE9 (r:LexReader) (p e:Int) (he:e ≠ 0):(Q91 r p e).line=r.line∧(Q91 r p e).at_=r.at_∧(Q91 r p e).error ≠ 0:=by
 unfold Q91;cases h:(r.error==0) with
 | true=>exact ⟨rfl,rfl,he⟩
 | false=>exact ⟨rfl,rfl,by simpa using h⟩
def Nxt (a b:LexReader):Prop:=b.line=a.line∧a.at_<=b.at_∧b.at_<=(a.line.length:Int)∧(b.error ≠ 0∨a.at_<b.at_)
theorem lex_word_nxt (r:LexReader) (h0:0<=r.at_) (h1:r.at_<(r.line.length:Int)) (h2:r.line.length<=400) (hc:((Q32 (r.line.getD (r.at_.toNat) 0))==2)=true):Nxt r (Qr2 r).2:=by
 obtain ⟨a,b,c,_,_⟩:=Qf5 r (fun (y:Int)=>Qw0 y ([2,3]:List Int) 0) h0 oA h2;exact ⟨a,b,c,Or.inr (Qw7 r _ h0 h1 h2 (by simp only [Qw0,hc];rfl))⟩
theorem class_digit (x:Int) (h:(Q32 x==3)=true):48<=x∧x<=57:=by
 unfold Q32 at h;revert h;cases ((x==9)||(x==32)) with
 | true=>simp
 | false =>
  simp only [cond_false];cases (((((decide (x<32))||((decide (x >= 127))&&(decide (x<=160))))||((decide (x >= 55296))&&(decide (x<=57343))))||(x==65533))||(decide (x > 1114111))) with
  | true=>simp
  | false =>
   simp only [cond_false];cases hd:((decide (x >= 48))&&(decide (x<=57))) with
   | true=>intro _;simp at hd;omega
   | false =>
    simp only [cond_false];cases ((((decide (x >= 97))&&(decide (x<=122)))||((decide (x >= 65))&&(decide (x<=90))))||(decide (x > 160))) <;> simp
theorem lex_count_nxt (r:LexReader) (h0:0<=r.at_) (h1:r.at_<(r.line.length:Int)) (h2:r.line.length<=400) (hc:((Q32 (r.line.getD (r.at_.toNat) 0))==3)=true):Nxt r (QY1 r).2:=by
 obtain ⟨a,b,c,_,_⟩:=Qf5 r (fun (y:Int)=>(((decide (y >= 48))&&(decide (y<=57)))||((decide (y >= 97))&&(decide (y<=122))))) h0 oA h2;have hd:=class_digit _ hc;have l:=Qw7 r (fun (y:Int)=>(((decide (y >= 48))&&(decide (y<=57)))||((decide (y >= 97))&&(decide (y<=122))))) h0 h1 h2 (by simp only [yoa hd.1,yoa hd.2];rfl);unfold QY1;cases (!(Qh7 ((Q40 r (fun (y:Int)=>(((decide (y >= 48))&&(decide (y<=57)))||((decide (y >= 97))&&(decide (y<=122)))))).1))) with
 | true=>exact ⟨a,b,c,Or.inr l⟩
 | false =>
  simp only [cond_false];cases (!(Qf6 ((Q40 r (fun (y:Int)=>(((decide (y >= 48))&&(decide (y<=57)))||((decide (y >= 97))&&(decide (y<=122)))))).1)).2) with
  | false=>exact ⟨a,b,c,Or.inr l⟩
  | true =>
   obtain ⟨f1,f2,f3⟩:=QE9 (Q40 r (fun (y:Int)=>(((decide (y >= 48))&&(decide (y<=57)))||((decide (y >= 97))&&(decide (y<=122)))))).2 r.at_ 50 (by decide);exact ⟨f1.trans a,by simp only [cond_true];rw [f2];exact b,by simp only [cond_true];rw [f2];exact c,Or.inl f3⟩
theorem QNc:∀ (m:Nat) (c:LexReader) (b:Bool),0<=c.at_->c.at_<=(c.line.length:Int)->c.line.length<=400->(((c.line.length:Int) - c.at_).toNat)<m->Adv c (Q62 m c b).1
 | 0,c,_,_,_,_,h=>absurd h oA
 | m+1,c,b,h0,h1,h2,h=>by
  rw [Q62];cases hc:((decide (c.at_<(c.line.length:Int)))&&(Qx1 (c.line.getD (c.at_.toNat) 0) b).1) with
  | false=>exact ⟨rfl,yxb _,h1,rfl,rfl⟩
  | true =>
   have hlt:=yca ((yha _ _).mp hc).1;have hw:w64 (c.at_+1)=c.at_+1:=wr oA;rw [hw];obtain ⟨a,b,d,e,f⟩:=QNc m { c with at_:=c.at_+1 } _ (by dsimp only;omega) (by dsimp only;omega) h2 (by dsimp only;omega);dsimp only at a b d e f;exact ⟨a,by simp only [cond_true];omega,d,e,f⟩
theorem lex_text_nxt (r:LexReader) (h0:0<=r.at_) (h1:r.at_<(r.line.length:Int)) (h2:r.line.length<=400):Nxt r (Qa2 r).2:=by
 obtain ⟨a,b,c,_,_⟩:=QNc _ r true h0 oA h2 (yTa _);unfold Qa2;generalize (Q62 ((((r.line.length:Int) - r.at_).toNat)+1) r true).1=q at a b c;unfold QL2;have ff:∀ (x:LexReader) (p e:Int),e ≠ 0->x.line=r.line->r.at_<=x.at_->x.at_<=(r.line.length:Int)->Nxt r (Q91 x p e):=by
  intro x p e he hx hp hq;obtain ⟨f1,f2,f3⟩:=QE9 x p e he;exact ⟨f1.trans hx,by rw [f2];exact hp,by rw [f2];exact hq,Or.inl f3⟩
 cases h3:(q.at_==(q.line.length:Int)) with
 | true=>exact ff q _ _ (by decide) a b c
 | false =>
  simp only [cond_false];have h3':q.at_ ≠ (r.line.length:Int):=by rw [a] at h3;simpa using h3
  have hw:w64 (q.at_+1)=q.at_+1:=wr oA;cases ((q.line.getD (q.at_.toNat) 0)!=34) with
  | true=>exact ff q _ _ (by decide) a b c
  | false =>
   simp only [cond_false];rw [hw];cases h4:((QZ2 (runesBytes (List.drop (r.at_.toNat) (List.take ((q.at_+1).toNat) q.line)))).2 != 0) with
   | true=>exact ff { q with at_:=q.at_+1 } _ _ (by simpa using h4) a (by show r.at_<=q.at_+1;omega) (by show q.at_+1<=_;omega)
   | false=>exact ⟨a,by show r.at_<=q.at_+1;omega,by show q.at_+1<=_;omega,Or.inr (by show r.at_<q.at_+1;omega)⟩
theorem lex_next_nxt (r:LexReader) (h0:0<=r.at_) (h1:r.at_<(r.line.length:Int)) (h2:r.line.length<=400):Nxt r (QE0 r).2:=by
 have hw:w64 (r.at_+1)=r.at_+1:=wr oA;have ff:∀ (e:Int),e ≠ 0->Nxt r (Q91 r r.at_ e):=by
  intro e he;obtain ⟨f1,f2,f3⟩:=QE9 r r.at_ e he;exact ⟨f1,by rw [f2];exact yxb _,by rw [f2];omega,Or.inl f3⟩
 unfold QE0;cases hc:((Q32 (r.line.getD (r.at_.toNat) 0))==2) with
 | true=>exact lex_word_nxt r h0 h1 h2 hc
 | false =>
  simp only [cond_false];cases hd:((Q32 (r.line.getD (r.at_.toNat) 0))==3) with
  | true=>exact lex_count_nxt r h0 h1 h2 hd
  | false =>
   simp only [cond_false];cases ((r.line.getD (r.at_.toNat) 0)==34) with
   | true=>exact lex_text_nxt r h0 h1 h2
   | false =>
    simp only [cond_false];cases ((decide ((Qa5 ⟨#[61,58,44,45]⟩ (wu8 (r.line.getD (r.at_.toNat) 0))) >= 0))&&(decide ((r.line.getD (r.at_.toNat) 0)<128))) with
    | true=>rw [hw];exact ⟨rfl,by show r.at_<=r.at_+1;omega,by show r.at_+1<=_;omega,Or.inr (by show r.at_<r.at_+1;omega)⟩
    | false =>
     simp only [cond_false];cases ((Q32 (r.line.getD (r.at_.toNat) 0))==0) with
     | true=>exact ff 40 (by decide)
     | false=>exact ff 50 (by decide)
theorem lex_round (r c:LexReader) (b:Int->Bool) (h0:0<=r.at_) (h1:r.at_<=(r.line.length:Int)) (h2:r.line.length<=400) (he:(r.error==0)=true) (e:c=(Q40 r b).2) (hn:(c.at_==(c.line.length:Int))=false) :
  (0<=c.at_∧c.at_<(c.line.length:Int)∧c.line.length<=400)∧(0<=(QE0 c).2.at_∧(QE0 c).2.at_<=((QE0 c).2.line.length:Int)∧(QE0 c).2.line.length<=400) ∧
  2*(((QE0 c).2.line.length:Int) - (QE0 c).2.at_).toNat+(bif (QE0 c).2.error==0 then 1 else 0)<2*((r.line.length:Int) - r.at_).toNat+(bif r.error==0 then 1 else 0) ∧
  (((QE0 c).2.error==0)=true->r.at_+1<=(QE0 c).2.at_):=by
 obtain ⟨a1,a2,a3,a4,a5⟩:=Qf5 r b h0 h1 h2;rw [← e] at a1 a2 a3 a4 a5;have hn':c.at_ ≠ (r.line.length:Int):=by rw [a1] at hn;simpa using hn
 have hc:0<=c.at_∧c.at_<(c.line.length:Int)∧c.line.length<=400:=by rw [a1];omega
 obtain ⟨n1,n2,n3,n4⟩:=lex_next_nxt c hc.1 hc.2.1 hc.2.2;rw [he];rw [a1] at n1 n3;refine ⟨hc,by rw [n1];omega,?_⟩;rw [n1];rcases n4 with n4|n4
 ·have:((QE0 c).2.error==0)=false:=by simpa using n4
  rw [this];simp only [cond_true,cond_false];exact ⟨by omega,fun h=>nomatch h⟩
 ·refine ⟨?_,fun _=>by omega⟩;cases ((QE0 c).2.error==0) <;> simp only [cond_true,cond_false] <;> omega
def QJ0 (v:Job) (choice:Int):Alt × Bool:=bif ((decide (choice<0))||(decide (choice >= ((Qe0 v.shape).length:Int)))) then (zA,false) else (((Qe0 v.shape).getD (choice.toNat) zA),true)
theorem Q75 (v:Job) (choice:Int) (hs0:v.sz):GV 183 [Job.a v,I choice] (AVal.tup [Alt.a ((QJ0 v choice).1),Bo ((QJ0 v choice).2)]):=by
 generalize hR:QJ0 v choice=R;refine gA (kp 7 [18]) Tryz.func183 ?_;obtain ⟨z3,z4,z5,z6,z7⟩:=Job.zz hs0;refine us (Qs2 v.shape szA _) ?_;apply ai<;>intro h1
 ·exact lfA
 ·refine ai gkA ?_;exact lfA
def QU7 (s:Shape) (choice:Int) (n:Int):Bool:=bif ((decide (choice<0))||(decide (choice >= ((Qe0 s).length:Int)))) then false else bif (s.kind==3) then ((decide (n >= s.min))&&(decide (n<=s.max))) else (((Qe0 s).getD (choice.toNat) zA).nodes==n)
theorem QA6 (s:Shape) (choice:Int) (n:Int) (hs0:s.sz):GV 192 [Shape.a s,I choice,I n] (Bo (QU7 s choice n)):=by
 generalize hR:QU7 s choice n=R;refine gA (kp 8 [17,20]) Tryz.func192 ?_;have hk0:=hs0;obtain z5:s.alts.length<=4294967296:=hs0;refine us (Qs2 s szA _) ?_;apply ai<;>intro h1
 ·exact lfA
 ·apply ai<;>intro h3
  ·exact lfA
  ·refine ai gkA ?_;exact lfA
def Qp1 (l:List Node) (job:Int) (state:Int):Int:=(QN1 l (fun (y:Node)=>((y.job==job)&&(y.state==state))))
theorem Qy2 (l:List Node) (job:Int) (state:Int) (hs0:l.length<=4294967296):GV 45 [nodeL l,I job,I state] (U (Qp1 l job state)):=by
 generalize hR:Qp1 l job state=R;refine gA (kp 7 []) Tryz.func45 ?_;have hk0:=hs0;obtain z7:l.length<=4294967296:=hs0;have cl1:∀ (y1:Node),AMoves Tryz.prog 84 [Node.a y1,AVal.ptr 0 0 1 0 0,AVal.ptr 1 0 1 0 0] [(0,AObj.row 3 1 [[I job]]),(0,AObj.row 3 1 [[I state]])] 2 (Bo ((fun (y:Node)=>((y.job==job)&&(y.state==state))) y1)) [(0,AObj.row 3 1 [[I job]]),(0,AObj.row 3 1 [[I state]])]:=by
  intro y1;have hR:(fun (y:Node)=>((y.job==job)&&(y.state==state))) y1=(fun (y:Node)=>((y.job==job)&&(y.state==state))) y1:=rfl;refine mo (kp 5 []) Tryz.func84 ?_;refine Qs0 (fun r:Bool=>Bo r) (fun _=>[(0,AObj.row 3 1 [[I job]]),(0,AObj.row 3 1 [[I state]])]) (leaf:=((y1.job==job)&&(y1.state==state))) (foll hR rfl) ?_;exact tt [0,1] (tO rfl (ts (l1 LowL.nil)) (tO rfl (ts (l1 LowL.nil)) .nil)) t1
 have hof1:AMoves Tryz.prog 83 [nodeL l,AVal.fn (.func 84) [] [AVal.ptr 0 0 1 0 0,AVal.ptr 1 0 1 0 0]] [(0,AObj.row 3 1 [[I job]]),(0,AObj.row 3 1 [[I state]])] 2 (U (QN1 l (fun (y:Node)=>((y.job==job)&&(y.state==state))))) [(0,AObj.row 3 1 [[I job]]),(0,AObj.row 3 1 [[I state]])]:=by
  have hR:QN1 l (fun (y:Node)=>((y.job==job)&&(y.state==state)))=QN1 l (fun (y:Node)=>((y.job==job)&&(y.state==state))):=rfl;refine mo (kp 10 [12,13,14,15,16,22]) Tryz.func83 ?_;refine us (QY2 l szA _) ?_;apply ai<;>intro h1
  ·refine Qs0 (fun r:Int=>U r) (fun r:Int=>[(0,AObj.row 3 1 [[I job]]),(0,AObj.row 3 1 [[I state]])]) (leaf:=0) (foll hR (ct h1 rfl)) ?_;exact tt [0,1] (tO rfl (ts (l1 LowL.nil)) (tO rfl (ts (l1 LowL.nil)) .nil)) t1
  ·refine Qu0 (fun (out:List Int) (i:Nat)=>Qs1 (Qh4 (fun (y:Node)=>((y.job==job)&&(y.state==state))) (List.drop i l) out i)=QN1 l (fun (y:Node)=>((y.job==job)&&(y.state==state)))∧i<=l.length∧out.length<=i) (fun out i=>l.length - i) (fun out i=>[(1,AVal.fn (.func 84) [] [AVal.ptr 0 0 1 0 0,AVal.ptr 1 0 1 0 0]),(4,U 0),(5,AVal.own 2 0 1 0 out.length),(13,nodeL l),(14,I (l.length:Int)),(15,I (i:Int))]) (fun out i=>[(0,AObj.row 3 1 [[I job]]),(0,AObj.row 3 1 [[I state]]),(0,AObj.row 3 1 (out.map (fun q_=>[I q_])))]) [] 0 ((QA1 3 1).trans (wkA [0,1,2])) ⟨folA,by exact omA,by exact exA⟩ ?_;clear hR;rintro out i ⟨hR,hj,hx⟩;(try dsimp only at hR hj hx);apply ai<;>intro h3
   ·have hlt:=ltA h3;rw [Qd0 zF hlt] at hR;refine ai gkA ?_;refine us (mv [0,1] (cl1 (l.getD i zF)) (dO (ds (l1 LowL.nil)) (dO (ds (l1 LowL.nil)) .nil)) (dl (Node.low _ _) (dp (dp .nil))) (rO (re (l1 LowL.nil)) (rO (re (l1 LowL.nil)) .nil)) rx) ?_;apply ai<;>intro h5
    ·refine Or.inl ?_;(first|refine ⟨Qd1 8 rfl lnA apA,?_⟩|refine ⟨QB0 8 rfl apA,?_⟩);exact Qc0 (out++([(i:Int)]:List Int)) (i+1) (wkA [0,1,2]) omA ⟨foll hR (congrArg (fun p:(List Int)=>Qs1 p) (ct h5 rfl)),by exact omA,by exact exA⟩
    ·exact Qc0 out (i+1) (wkA [0,1,2]) omA ⟨foll hR (congrArg (fun p:(List Int)=>Qs1 p) (cf h5 rfl)),by exact omA,by exact exA⟩
   ·rw [Qh0 (l:=l) (j:=i) (geA h3)] at hR;replace hR:Qs1 out=QN1 l (fun (y:Node)=>((y.job==job)&&(y.state==state))):=fo2 (fun p:(List Int)=>Qs1 p) (out) hR rfl;refine us (AGives.lent (QM6 out szA []) (ev (Qa0 _ _ rfl eqA lnA) .nil) (.cons lw .nil) (Qr5 rfl)) ?_;refine Qs0 (fun r:Int=>U r) (fun r:Int=>[(0,AObj.row 3 1 [[I job]]),(0,AObj.row 3 1 [[I state]])]) (leaf:=(QJ1 out).1) (foll hR rfl) ?_;exact tt [0,1] (tO rfl (ts (l1 LowL.nil)) (tO rfl (ts (l1 LowL.nil)) .nil)) t1
 refine us (mv [0,1] (hof1) (dO (ds (l1 LowL.nil)) (dO (ds (l1 LowL.nil)) .nil)) (dl lw (dv (dn_fn .nil (dp (dp .nil))) .nil)) (rO (re (l1 LowL.nil)) (rO (re (l1 LowL.nil)) .nil)) rx) ?_;exact lfA
def QN8 (l:List Node):Int:=(QN1 l (fun (y:Node)=>((y.state != 4)&&(!y.drain))))
theorem fleet_Up_c (l:List Node) (hs0:l.length<=4294967296):GV 241 [nodeL l] (U (QN8 l)):=by
 generalize hR:QN8 l=R;refine gA (kp 3 []) Tryz.func241 ?_;have hk0:=hs0;obtain z7:l.length<=4294967296:=hs0;have cl1:∀ (y1:Node),AMoves Tryz.prog 259 [Node.a y1] [] 0 (Bo ((fun (y:Node)=>((y.state != 4)&&(!y.drain))) y1)) []:=by
  intro y1;have hR:(fun (y:Node)=>((y.state != 4)&&(!y.drain))) y1=(fun (y:Node)=>((y.state != 4)&&(!y.drain))) y1:=rfl;refine mo (kp 3 []) Tryz.func259 ?_;refine Qs0 (fun r:Bool=>Bo r) (fun _=>[]) (leaf:=((y1.state != 4)&&(!y1.drain))) (foll hR rfl) ?_;exact tt [] .nil t1
 have hof1:AMoves Tryz.prog 83 [nodeL l,AVal.fn (.func 259) [] []] [] 0 (U (QN1 l (fun (y:Node)=>((y.state != 4)&&(!y.drain))))) []:=by
  have hR:QN1 l (fun (y:Node)=>((y.state != 4)&&(!y.drain)))=QN1 l (fun (y:Node)=>((y.state != 4)&&(!y.drain))):=rfl;refine mo (kp 10 [12,13,14,15,16,22]) Tryz.func83 ?_;refine us (QY2 l szA _) ?_;apply ai<;>intro h1
  ·refine Qs0 (fun r:Int=>U r) (fun r:Int=>[]) (leaf:=0) (foll hR (ct h1 rfl)) ?_;exact tt [] .nil t1
  ·refine Qu0 (fun (out:List Int) (i:Nat)=>Qs1 (Qh4 (fun (y:Node)=>((y.state != 4)&&(!y.drain))) (List.drop i l) out i)=QN1 l (fun (y:Node)=>((y.state != 4)&&(!y.drain)))∧i<=l.length∧out.length<=i) (fun out i=>l.length - i) (fun out i=>[(1,AVal.fn (.func 259) [] []),(4,U 0),(5,AVal.own 0 0 1 0 out.length),(13,nodeL l),(14,I (l.length:Int)),(15,I (i:Int))]) (fun out i=>[(0,AObj.row 3 1 (out.map (fun q_=>[I q_])))]) [] 0 ((QA1 3 1).trans (wkA [0])) ⟨folA,by exact omA,by exact exA⟩ ?_;clear hR;rintro out i ⟨hR,hj,hx⟩;(try dsimp only at hR hj hx);apply ai<;>intro h3
   ·have hlt:=ltA h3;rw [Qd0 zF hlt] at hR;refine ai gkA ?_;refine us (mv [] (cl1 (l.getD i zF)) .nil (dl (Node.low _ _) .nil) .nil rx) ?_;apply ai<;>intro h5
    ·refine Or.inl ?_;(first|refine ⟨Qd1 8 rfl lnA apA,?_⟩|refine ⟨QB0 8 rfl apA,?_⟩);exact Qc0 (out++([(i:Int)]:List Int)) (i+1) (wkA [0]) omA ⟨foll hR (congrArg (fun p:(List Int)=>Qs1 p) (ct h5 rfl)),by exact omA,by exact exA⟩
    ·exact Qc0 out (i+1) (wkA [0]) omA ⟨foll hR (congrArg (fun p:(List Int)=>Qs1 p) (cf h5 rfl)),by exact omA,by exact exA⟩
   ·rw [Qh0 (l:=l) (j:=i) (geA h3)] at hR;replace hR:Qs1 out=QN1 l (fun (y:Node)=>((y.state != 4)&&(!y.drain))):=fo2 (fun p:(List Int)=>Qs1 p) (out) hR rfl;refine us (AGives.lent (QM6 out szA []) (ev (Qa0 _ _ rfl eqA lnA) .nil) (.cons lw .nil) (Qr5 rfl)) ?_;refine Qs0 (fun r:Int=>U r) (fun r:Int=>[]) (leaf:=(QJ1 out).1) (foll hR rfl) ?_;exact tt [] .nil t1
 refine us (mv [] (hof1) .nil (dl lw (dv (Qo3 (Low.fn _ _ _ LowL.nil LowL.nil)) .nil)) .nil rx) ?_;exact lfA
def Q43 (l:List Usage) (user:ByteArray):Int:=(QS3 l (fun (y:Usage)=>(bif (!(ByteArray.toList y.user==ByteArray.toList user)) then 0 else y.share)))
theorem Qla (l:List Usage) (user:ByteArray) (hs0:l.length<=4294967296∧(∀ y ∈ l,y.sz)) (hs1:user.size<=4294967296):GV 219 [Qt1 l,Sg user] (I (Q43 l user)):=by
 generalize hR:Q43 l user=R;refine gA (kp 5 []) Tryz.func219 ?_;obtain ⟨z11,z12⟩:=id hs0;have hk1:=hs1;obtain z13:user.size<=4294967296:=hs1;have cl1:∀ (y1:Usage) (hzy1:y1.sz),AMoves Tryz.prog 250 [Usage.a y1,AVal.ptr 0 0 1 0 0] [(0,AObj.row 9 1 [[Sg user]])] 1 (I ((fun (y:Usage)=>(bif (!(ByteArray.toList y.user==ByteArray.toList user)) then 0 else y.share)) y1)) [(0,AObj.row 9 1 [[Sg user]])]:=by
  intro y1 hzy1;have hky1:=hzy1;obtain ⟨z1,z2⟩:=Usage.zz hzy1;have hR:(fun (y:Usage)=>(bif (!(ByteArray.toList y.user==ByteArray.toList user)) then 0 else y.share)) y1=(fun (y:Usage)=>(bif (!(ByteArray.toList y.user==ByteArray.toList user)) then 0 else y.share)) y1:=rfl;refine mo (kp 4 [7]) Tryz.func250 ?_;apply ai<;>intro h3
  ·refine Qs0 (fun r:Int=>I r) (fun _=>[(0,AObj.row 9 1 [[Sg user]])]) (leaf:=0) (foll hR (ct h3 rfl)) ?_;exact tt [0] (tO rfl (ts (l1 LowL.nil)) .nil) t1
  ·refine Qs0 (fun r:Int=>I r) (fun _=>[(0,AObj.row 9 1 [[Sg user]])]) (leaf:=y1.share) (foll hR (cf h3 rfl)) ?_;exact tt [0] (tO rfl (ts (l1 LowL.nil)) .nil) t1
 have hof1:AMoves Tryz.prog 249 [Qt1 l,AVal.fn (.func 250) [] [AVal.ptr 0 0 1 0 0]] [(0,AObj.row 9 1 [[Sg user]])] 1 (I (QS3 l (fun (y:Usage)=>(bif (!(ByteArray.toList y.user==ByteArray.toList user)) then 0 else y.share)))) [(0,AObj.row 9 1 [[Sg user]])]:=by
  have hR:QS3 l (fun (y:Usage)=>(bif (!(ByteArray.toList y.user==ByteArray.toList user)) then 0 else y.share))=QS3 l (fun (y:Usage)=>(bif (!(ByteArray.toList y.user==ByteArray.toList user)) then 0 else y.share)):=rfl;refine mo (kp 8 [10,11,12,13,14]) Tryz.func249 ?_;refine us (Qka l szA _) ?_;apply ai<;>intro h5
  ·refine Qs0 (fun r:Int=>I r) (fun r:Int=>[(0,AObj.row 9 1 [[Sg user]])]) (leaf:=0) (foll hR (ct h5 rfl)) ?_;exact tt [0] (tO rfl (ts (l1 LowL.nil)) .nil) t1
  ·refine Qu0 (fun (n:Int) (i:Nat)=>Qr3 (QT5 (fun (y:Usage)=>(bif (!(ByteArray.toList y.user==ByteArray.toList user)) then 0 else y.share)) (List.drop i l) n i)=QS3 l (fun (y:Usage)=>(bif (!(ByteArray.toList y.user==ByteArray.toList user)) then 0 else y.share))∧i<=l.length) (fun n i=>l.length - i) (fun n i=>[(1,AVal.fn (.func 250) [] [AVal.ptr 0 0 1 0 0]),(4,I 0),(5,I n),(11,Qt1 l),(12,I (l.length:Int)),(13,I (i:Int))]) (fun n i=>[(0,AObj.row 9 1 [[Sg user]])]) 0 0 (wkA [0]) ⟨folA,by exact omA⟩ ?_;clear hR;rintro n i ⟨hR,hj⟩;(try dsimp only at hR hj);apply ai<;>intro h7
   ·have hlt:=ltA h7;rw [Qd0 zJ hlt] at hR;have hxz:(l.getD i zJ).sz:=QB1 (by first|assumption|grind) (Usage.szz _);have hkz:=hxz;obtain ⟨z9,z10⟩:=Usage.zz hxz;refine ai gkA ?_;refine us (mv [0] (cl1 (l.getD i zJ) szA) (dO (ds (l1 LowL.nil)) .nil) (dl (Usage.low _ _) (dp .nil)) (rO (re (l1 LowL.nil)) .nil) rx) ?_;refine Or.inl ?_;refine us (AGives.as2 (sat_Plus_c ([n,((fun (y:Usage)=>(bif (!(ByteArray.toList y.user==ByteArray.toList user)) then 0 else y.share)) (l.getD i zJ))]:List Int) szA _) (av (QK5 (c:=(fun q_=>[I q_])) (d:=0) ([n,((fun (y:Usage)=>(bif (!(ByteArray.toList y.user==ByteArray.toList user)) then 0 else y.share)) (l.getD i zJ))]:List Int) rfl) .nil)) ?_;exact Qc0 (Qyd ([n,((fun (y:Usage)=>(bif (!(ByteArray.toList y.user==ByteArray.toList user)) then 0 else y.share)) (l.getD i zJ))]:List Int)) (i+1) (wkA [0]) omA ⟨foll hR (congrArg (fun p:Int=>Qr3 p) rfl),by exact omA⟩
   ·rw [Qh0 (l:=l) (j:=i) (geA h7)] at hR;replace hR:Qr3 n=QS3 l (fun (y:Usage)=>(bif (!(ByteArray.toList y.user==ByteArray.toList user)) then 0 else y.share)):=fo2 (fun p:Int=>Qr3 p) (n) hR rfl;refine Qs0 (fun r:Int=>I r) (fun r:Int=>[(0,AObj.row 9 1 [[Sg user]])]) (leaf:=n) (foll hR rfl) ?_;exact tt [0] (tO rfl (ts (l1 LowL.nil)) .nil) t1
 refine us (mv [0] (hof1) (dO (ds (l1 LowL.nil)) .nil) (dl lw (dv (dn_fn .nil (dp .nil)) .nil)) (rO (re (l1 LowL.nil)) .nil) rx) ?_;exact lfA
def Qx3 (l:List Node):List Int->List Note->Nat->(List Note)
 | [],out,_=>out
 | x_ :: r,out,i=>bif (QA5 l x_).2 then Qx3 l r (out++([(QA5 l x_).1]:List Note)) (i+1) else Qx3 l r out (i+1)
def Qy3 (out:List Note):(List Note):=out
def QB8 (l:List Node) (nodes:List Int):(List Note):=Qy3 (Qx3 l nodes [] 0)
theorem alloc_Notes_c (l:List Node) (nodes:List Int) (hs0:l.length<=4294967296) (hs1:nodes.length<=4294967296):GV 152 [nodeL l,ints nodes] (noteL (QB8 l nodes)):=by
 generalize hR:QB8 l nodes=R;refine gA (kp 10 [10,11,12,13,22]) Tryz.func152 ?_;have hk0:=hs0;obtain z5:l.length<=4294967296:=hs0;have hk1:=hs1;obtain z6:nodes.length<=4294967296:=hs1;refine Qu0 (fun (out:List Note) (i:Nat)=>Qy3 (Qx3 l (List.drop i nodes) out i)=R∧i<=nodes.length∧out.length<=i) (fun out i=>nodes.length - i) (fun out i=>[(0,nodeL l),(4,AVal.lit (.slice none 0 0)),(5,AVal.own 0 0 4 0 out.length),(10,ints nodes),(11,I (nodes.length:Int)),(12,I (i:Int))]) (fun out i=>[(0,AObj.row 30 4 (out.map Note.cells))]) [] 0 ((QA1 30 4).trans (wkA [0])) ⟨foll hR rfl,by exact omA,by exact exA⟩ ?_;clear hR;rintro out i ⟨hR,hj,hx⟩;(try dsimp only at hR hj hx);apply ai<;>intro h1
 ·have hlt:=ltA h1;rw [Qd0 0 hlt] at hR;refine ai gkA ?_;refine us (fleet_Note_c l (nodes.getD i 0) szA _) ?_;apply ai<;>intro h3
  ·refine Or.inl ?_;(first|refine ⟨Qd1 32 rfl lnA apA,?_⟩|refine ⟨QB0 32 rfl apA,?_⟩);exact Qc0 (out++([(QA5 l (nodes.getD i 0)).1]:List Note)) (i+1) (wkA [0]) omA ⟨foll hR (congrArg (fun p:(List Note)=>Qy3 p) (ct h3 rfl)),by exact omA,by exact exA⟩
  ·exact Qc0 out (i+1) (wkA [0]) omA ⟨foll hR (congrArg (fun p:(List Note)=>Qy3 p) (cf h3 rfl)),by exact omA,by exact exA⟩
 ·rw [Qh0 (l:=nodes) (j:=i) (geA h1)] at hR;replace hR:Qy3 out=R:=fo2 (fun p:(List Note)=>Qy3 p) (out) hR rfl;obtain rfl:=foll hR rfl;exact Q60 lw (Qa0 zL _ rfl eqA lnA)
def Q83 (l:List Node):Int:=(QN1 l (fun (y:Node)=>((y.state==0)&&(!y.drain))))
theorem fleet_Free_c (l:List Node) (hs0:l.length<=4294967296):GV 181 [nodeL l] (U (Q83 l)):=by
 generalize hR:Q83 l=R;refine gA (kp 3 []) Tryz.func181 ?_;have hk0:=hs0;obtain z7:l.length<=4294967296:=hs0;have cl1:∀ (y1:Node),AMoves Tryz.prog 227 [Node.a y1] [] 0 (Bo ((fun (y:Node)=>((y.state==0)&&(!y.drain))) y1)) []:=by
  intro y1;have hR:(fun (y:Node)=>((y.state==0)&&(!y.drain))) y1=(fun (y:Node)=>((y.state==0)&&(!y.drain))) y1:=rfl;refine mo (kp 3 []) Tryz.func227 ?_;refine Qs0 (fun r:Bool=>Bo r) (fun _=>[]) (leaf:=((y1.state==0)&&(!y1.drain))) (foll hR rfl) ?_;exact tt [] .nil t1
 have hof1:AMoves Tryz.prog 83 [nodeL l,AVal.fn (.func 227) [] []] [] 0 (U (QN1 l (fun (y:Node)=>((y.state==0)&&(!y.drain))))) []:=by
  have hR:QN1 l (fun (y:Node)=>((y.state==0)&&(!y.drain)))=QN1 l (fun (y:Node)=>((y.state==0)&&(!y.drain))):=rfl;refine mo (kp 10 [12,13,14,15,16,22]) Tryz.func83 ?_;refine us (QY2 l szA _) ?_;apply ai<;>intro h1
  ·refine Qs0 (fun r:Int=>U r) (fun r:Int=>[]) (leaf:=0) (foll hR (ct h1 rfl)) ?_;exact tt [] .nil t1
  ·refine Qu0 (fun (out:List Int) (i:Nat)=>Qs1 (Qh4 (fun (y:Node)=>((y.state==0)&&(!y.drain))) (List.drop i l) out i)=QN1 l (fun (y:Node)=>((y.state==0)&&(!y.drain)))∧i<=l.length∧out.length<=i) (fun out i=>l.length - i) (fun out i=>[(1,AVal.fn (.func 227) [] []),(4,U 0),(5,AVal.own 0 0 1 0 out.length),(13,nodeL l),(14,I (l.length:Int)),(15,I (i:Int))]) (fun out i=>[(0,AObj.row 3 1 (out.map (fun q_=>[I q_])))]) [] 0 ((QA1 3 1).trans (wkA [0])) ⟨folA,by exact omA,by exact exA⟩ ?_;clear hR;rintro out i ⟨hR,hj,hx⟩;(try dsimp only at hR hj hx);apply ai<;>intro h3
   ·have hlt:=ltA h3;rw [Qd0 zF hlt] at hR;refine ai gkA ?_;refine us (mv [] (cl1 (l.getD i zF)) .nil (dl (Node.low _ _) .nil) .nil rx) ?_;apply ai<;>intro h5
    ·refine Or.inl ?_;(first|refine ⟨Qd1 8 rfl lnA apA,?_⟩|refine ⟨QB0 8 rfl apA,?_⟩);exact Qc0 (out++([(i:Int)]:List Int)) (i+1) (wkA [0]) omA ⟨foll hR (congrArg (fun p:(List Int)=>Qs1 p) (ct h5 rfl)),by exact omA,by exact exA⟩
    ·exact Qc0 out (i+1) (wkA [0]) omA ⟨foll hR (congrArg (fun p:(List Int)=>Qs1 p) (cf h5 rfl)),by exact omA,by exact exA⟩
   ·rw [Qh0 (l:=l) (j:=i) (geA h3)] at hR;replace hR:Qs1 out=QN1 l (fun (y:Node)=>((y.state==0)&&(!y.drain))):=fo2 (fun p:(List Int)=>Qs1 p) (out) hR rfl;refine us (AGives.lent (QM6 out szA []) (ev (Qa0 _ _ rfl eqA lnA) .nil) (.cons lw .nil) (Qr5 rfl)) ?_;refine Qs0 (fun r:Int=>U r) (fun r:Int=>[]) (leaf:=(QJ1 out).1) (foll hR rfl) ?_;exact tt [] .nil t1
 refine us (mv [] (hof1) .nil (dl lw (dv (Qo3 (Low.fn _ _ _ LowL.nil LowL.nil)) .nil)) .nil rx) ?_;exact lfA
def QI0 (y:Int):List Int->Nat->Bool
 | [],_=>false
 | x_1 :: r,i=>bif ((Q32 y)==x_1) then true else QI0 y r (i+1)
def QU8 (line:ByteArray):List (Nat × Int)->LexReader->LexReader
 | [],c=>c
 | x_ :: r,c=>QU8 line r { c with line:=(c.line++([x_.2]:List Int)) }
def QV8 :Nat->List Token->LexReader->(List Token) × Int × Int
 | 0,_,_=>([],0,0)
 | m+1,out,c2=>bif (c2.error==0) then bif ((Q40 c2 (fun (y:Int)=>QI0 y ([1]:List Int) 0)).2.at_==(((Q40 c2 (fun (y:Int)=>QI0 y ([1]:List Int) 0)).2.line).length:Int)) then (out,(((Q40 c2 (fun (y:Int)=>QI0 y ([1]:List Int) 0)).2.line).length:Int),0) else QV8 m (out++([{ (QE0 ((Q40 c2 (fun (y:Int)=>QI0 y ([1]:List Int) 0)).2)).1 with at_:=(Q40 c2 (fun (y:Int)=>QI0 y ([1]:List Int) 0)).2.at_ }]:List Token)) ((QE0 ((Q40 c2 (fun (y:Int)=>QI0 y ([1]:List Int) 0)).2)).2) else ([],c2.bad,c2.error)
def QU5 (c:LexReader):(List Token) × Int × Int:=QV8 ((2*((c.line.length:Int) - c.at_).toNat+(bif c.error==0 then 1 else 0))+1) [] c
def Qk4 (line:ByteArray):(List Token) × Int × Int:=bif (decide ((ByteArray.size line:Int) > 400)) then ([],0,3) else QU5 (QU8 line (Qxd line) zN)
theorem b6a0 {P:Prop} (h:P:=by first|(have hq:=hrd _ (by assumption);exact ⟨hq.2.1.1,hq.2.1.2.1,hq.2.1.2.2,fun hz=>by have hq3:=hq.2.2.2 hz;simp only [yma,yLa,y0a];omega⟩)|first|(refine ⟨by omega,by omega,by omega,fun _=>by simp;omega⟩)|first|(simp [zN];done)|first|(simp;omega)|exact exA):P:=h
theorem lex_Tokens_c (line:ByteArray) (hs0:line.size<=4294967296):GV 266 [Sg line] (AVal.tup [tokenL ((Qk4 line).1),I ((Qk4 line).2.1),I ((Qk4 line).2.2)]):=by
 generalize hR:Qk4 line=R;refine gA (kp 12 [14,18,19,20,38,51]) Tryz.func266 ?_;have hk0:=hs0;obtain z15:line.size<=4294967296:=hs0;apply ai<;>intro h1
 ·have qh1:=yca h1;exact lfA
 ·have qh1:=yja h1;refine Qu0 (fun (c:LexReader) (pos:Nat)=>∃ m,ByteArray.size line - pos<=m∧QU5 (QU8 line (Qq5 line m pos) c)=R∧c.line.length<=pos∧pos<=ByteArray.size line∧c.at_=0) (fun c pos=>ByteArray.size line - pos) (fun c pos=>[(2,AVal.lit (.slice none 0 0)),(3,I 0),(4,I 0),(5,AVal.ptr 0 0 4 0 0),(18,AVal.ptr 1 0 1 0 0)]) (fun c pos=>[(0,AObj.row 318 4 [[AVal.own 2 0 1 0 c.line.length,I c.at_,I c.bad,I c.error]]),(0,AObj.other (.strIter line pos)),(0,AObj.row 21 1 (c.line.map (fun q_=>[J q_])))]) zN 0 ((QA1 21 1).trans (wkA [0,1,2])) ⟨ByteArray.size line,by first|(have hq:=hrd _ (by assumption);omega)|exact omA,foll hR (cf h1 rfl),b6a0⟩ ?_;clear hR;rintro c pos ⟨m,hm,hR,hx⟩;(try dsimp only at hR hm hx);apply ai<;>intro h3
  ·have hlt:=yca h3;have hw:=Q2a line pos;have hwe:=Q1a line pos hlt;obtain ⟨m,rfl⟩:=sucA m;rw [Q56 h3] at hR;refine ai (fun _=>?_) (fun h=>nomatch h);refine Or.inl ?_;(first|refine ⟨Qd1 4 rfl lnA apA,?_⟩|refine ⟨QB0 4 rfl apA,?_⟩);exact Qc0 { c with line:=(c.line++([(pos,((Utf8.decode line pos).1:Int)).2]:List Int)) } (pos+(Utf8.decode line pos).2) (wkA [0,1,2]) (by first|(have hq:=hrd _ (by assumption);omega)|exact omA) ⟨m,by first|(have hq:=hrd _ (by assumption);omega)|exact omA,foll hR (congrArg (fun p:LexReader=>QU5 p) rfl),b6a0⟩
  ·rw [Q58 h3] at hR;refine ai (fun h=>nomatch h) (fun _=>?_);replace hR:QU5 c=R:=fo2 (fun p:LexReader=>QU5 p) (c) hR rfl;refine Or.inl ?_;refine ACalls.of_cwp (fun _=>true) Tryz.func288 rfl rfl ?_;refine ⟨_,_,Told.refl,?_⟩;refine Qu0 (fun (out:List Token) (c2:LexReader)=>∃ m,(2*((c2.line.length:Int) - c2.at_).toNat+(bif c2.error==0 then 1 else 0))<m∧QV8 m out c2=R∧0<=c2.at_∧c2.at_<=(c2.line.length:Int)∧c2.line.length<=400∧((c2.error==0)=true->(out.length:Int)<=c2.at_)) (fun out c2=>(2*((c2.line.length:Int) - c2.at_).toNat+(bif c2.error==0 then 1 else 0))) (fun out c2=>[(2,AVal.lit (.slice none 0 0)),(3,I 0),(4,I 0),(5,AVal.ptr 0 0 4 0 0),(8,AVal.fn (.func 301) [] [AVal.ptr 1 0 1 0 0]),(9,AVal.own 2 0 4 0 out.length)]) (fun out c2=>[(0,AObj.row 318 4 [[runes c2.line,I c2.at_,I c2.bad,I c2.error]]),(0,AObj.row 43 1 [[ints ([1]:List Int)]]),(0,AObj.row 291 4 (out.map Token.cells))]) [] c ((QA1 291 4).trans (wk [0,3,4] (tO rfl (QE1 (cv (Qn7 _ _ rfl (yna _) (by decide) eqA (fun _=>lowL1 rfl) lnA) (c1 (c1 (c1 .nil))))) (tO rfl (QE1 (cv (turn_as (QK5 (c:=(fun q_=>[I q_])) (d:=0) ([1]:List Int) rfl) lw) .nil)) (tO rfl (tl eqA) .nil))) (s1 (s1 (s1 (sv (Qy0 0 rfl rfl) (sv (QB4 .nil (cv (Qy0 1 rfl rfl) .nil)) (sv (Q25 2 rfl) .nil)))))))) ⟨_,yTa _,foll hR rfl,b6a0⟩ ?_;clear hR;rintro out c2 ⟨m,hm,hR,hx⟩;(try dsimp only at hR hm hx);obtain ⟨m,rfl⟩:=sucA m;apply ai<;>intro h5
   ·have hol:=hx.2.2.2 h5;have hrd:=fun (b:Int->Bool) (hn:((Q40 c2 b).2.at_==((Q40 c2 b).2.line.length:Int))=false)=>lex_round c2 _ b oA oA oA h5 rfl hn;have cl1:∀ (y1:Int),AMoves Tryz.prog 301 [J y1,AVal.ptr 0 0 1 0 0] [(0,AObj.row 43 1 [[ints ([1]:List Int)]])] 1 (Bo ((fun (y:Int)=>QI0 y ([1]:List Int) 0) y1)) [(0,AObj.row 43 1 [[ints ([1]:List Int)]])]:=by
     intro y1;have hR:(fun (y:Int)=>QI0 y ([1]:List Int) 0) y1=(fun (y:Int)=>QI0 y ([1]:List Int) 0) y1:=rfl;refine mo (kp 6 [6,7,8,9,15]) Tryz.func301 ?_;refine Qk0 (fun (i:Nat)=>QI0 y1 (List.drop i ([1]:List Int)) i=(fun (y:Int)=>QI0 y ([1]:List Int) 0) y1∧i<=([1]:List Int).length) (fun i=>([1]:List Int).length - i) (fun i=>[(0,J y1),(3,Bo false),(6,ints ([1]:List Int)),(7,I (([1]:List Int).length:Int)),(8,I (i:Int))]) (fun i=>[(0,AObj.row 43 1 [[ints ([1]:List Int)]])]) 0 (wkA [0]) ⟨foll hR rfl,by exact omA⟩ ?_;clear hR;rintro i ⟨hR,hj⟩;(try dsimp only at hR hj);apply ai<;>intro h7
     ·(have hlt:i<([1]:List Int).length:=by have:=yca h7;omega);rw [Qd0 0 hlt] at hR;refine ai gkA ?_;refine us (Q84 y1 _) ?_;apply ai<;>intro h9
      ·refine Qs0 (fun r:Bool=>Bo r) (fun _=>[(0,AObj.row 43 1 [[ints ([1]:List Int)]])]) (leaf:=true) (foll hR (ct h9 rfl)) ?_;exact tt [0] (tO rfl (ts (lv lw LowL.nil)) .nil) t1
      ·exact Qr0 (i+1) (wkA [0]) omA ⟨folA,by exact omA⟩
     ·rw [Qh0 (l:=([1]:List Int)) (j:=i) (geA h7)] at hR;refine Qs0 (fun r:Bool=>Bo r) (fun _=>[(0,AObj.row 43 1 [[ints ([1]:List Int)]])]) (leaf:=false) (foll hR rfl) ?_;exact tt [0] (tO rfl (ts (lv lw LowL.nil)) .nil) t1
    have hof1:AMoves Tryz.prog 289 [AVal.ptr 0 0 4 0 0,AVal.fn (.func 301) [] [AVal.ptr 1 0 1 0 0]] [(0,AObj.row 318 4 [[runes c2.line,I c2.at_,I c2.bad,I c2.error]]),(0,AObj.row 43 1 [[ints ([1]:List Int)]])] 2 (Sg ((Q40 c2 (fun (y:Int)=>QI0 y ([1]:List Int) 0)).1)) [(0,AObj.row 318 4 [[runes (((Q40 c2 (fun (y:Int)=>QI0 y ([1]:List Int) 0)).2).line),I (((Q40 c2 (fun (y:Int)=>QI0 y ([1]:List Int) 0)).2).at_),I (((Q40 c2 (fun (y:Int)=>QI0 y ([1]:List Int) 0)).2).bad),I (((Q40 c2 (fun (y:Int)=>QI0 y ([1]:List Int) 0)).2).error)]]),(0,AObj.row 43 1 [[ints ([1]:List Int)]])]:=by
     have hR:Q40 c2 (fun (y:Int)=>QI0 y ([1]:List Int) 0)=Q40 c2 (fun (y:Int)=>QI0 y ([1]:List Int) 0):=rfl;refine mo (kp 6 [33]) Tryz.func289 ?_;refine Qk0 (fun (c3:LexReader)=>∃ m,(((c3.line.length:Int) - c3.at_).toNat)<m∧QP0 c2 (Q31 (fun (y:Int)=>QI0 y ([1]:List Int) 0) m c3)=Q40 c2 (fun (y:Int)=>QI0 y ([1]:List Int) 0)∧0<=c3.at_∧c3.at_<=(c3.line.length:Int)∧c3.line.length<=400∧c2.at_<=c3.at_∧0<=c2.at_) (fun c3=>(((c3.line.length:Int) - c3.at_).toNat)) (fun c3=>[(0,AVal.ptr 0 0 4 0 0),(1,AVal.fn (.func 301) [] [AVal.ptr 1 0 1 0 0]),(4,Sg ⟨#[]⟩),(5,I c2.at_)]) (fun c3=>[(0,AObj.row 318 4 [[runes c3.line,I c3.at_,I c3.bad,I c3.error]]),(0,AObj.row 43 1 [[ints ([1]:List Int)]])]) c2 (wkA [0,1]) ⟨_,yTa _,foll hR rfl,by exact exA⟩ ?_;clear hR;rintro c3 ⟨m,hm,hR,hx⟩;(try dsimp only at hR hm hx);obtain ⟨m,rfl⟩:=sucA m;refine dchk (by kernel_rfl) ?_;refine ai gkA ?_;(first|apply u2|apply u3|apply u4|apply us);exact mv [1] (cl1 (c3.line.getD (c3.at_.toNat) 0)) (dO (ds (lv lw LowL.nil)) .nil) (d1 (dp .nil)) (rO (re (lv lw LowL.nil)) .nil) rx;(repeat ((first|refine ai rfl ?_|refine ai (fun _=>rfl) ?_)));apply ai<;>intro h11
     ·have hq1:=yca ((yha _ _).mp h11).1;have hwr:w64 (c3.at_+1)=c3.at_+1:=wr oA;exact Qr0 { c3 with at_:=(w64 (c3.at_+1)) } (wk [0,1] (tO rfl (ts LexReader.lo) (tO rfl (ts (lv lw LowL.nil)) .nil)) (sv (Qy0 0 rfl rfl) (sv (QB4 .nil (cv (Qy0 1 rfl rfl) .nil)) (s1 (s1 .nil))))) omA ⟨m,by exact omA,foll hR (congrArg (fun p:LexReader=>QP0 c2 p) (ct h11 rfl)),by exact exA⟩
     ·replace hR:QP0 c2 c3=Q40 c2 (fun (y:Int)=>QI0 y ([1]:List Int) 0):=fo2 (fun p:LexReader=>QP0 c2 p) (c3) hR (cf h11 rfl);refine dchk (by kernel_rfl) ?_;refine ai gkA ?_;(first|refine ⟨(List.drop (c2.at_.toNat) (List.take (c3.at_.toNat) c3.line)),by exact cvA,?_⟩|refine ⟨_,fun _=>⟨(List.drop (c2.at_.toNat) (List.take (c3.at_.toNat) c3.line)),by exact cvA,rfl,rfl⟩,?_⟩|refine ⟨_,rfl,⟨(List.drop (c2.at_.toNat) (List.take (c3.at_.toNat) c3.line)),by exact cvA,Sub.refl _,rfl⟩,?_⟩);(repeat ((first|refine ai rfl ?_|refine ai (fun _=>rfl) ?_)));refine Qs0 (fun r:ByteArray × LexReader=>Sg r.1) (fun r:ByteArray × LexReader=>[(0,AObj.row 318 4 [[runes r.2.line,I r.2.at_,I r.2.bad,I r.2.error]]),(0,AObj.row 43 1 [[ints ([1]:List Int)]])]) (leaf:=((runesBytes (List.drop (c2.at_.toNat) (List.take (c3.at_.toNat) c3.line))),c3)) (foll hR rfl) ?_;exact tt [0,1] (tO rfl (ts LexReader.lo) (tO rfl (ts (lv lw LowL.nil)) .nil)) t1
    refine us (mv [0,1] (hof1) (dO (ds LexReader.lo) (dO (ds (lv lw LowL.nil)) .nil)) (dp (dv (dn_fn .nil (dp .nil)) .nil)) (rO (re LexReader.lo) (rO (re (lv lw LowL.nil)) .nil)) rx) ?_;refine dchk (by kernel_rfl) ?_;(repeat ((first|refine ai rfl ?_|refine ai (fun _=>rfl) ?_)));apply ai<;>intro h13
    ·refine dchk (by kernel_rfl) ?_;(repeat ((first|refine ai rfl ?_|refine ai (fun _=>rfl) ?_)));obtain rfl:=foll hR (ct h5 (ct h13 rfl));exact Q60 (Low.tup' (.cons lw (l1 (l1 .nil)))) (Seen.tup (ev (Qa0 zD _ rfl eqA lnA) (e1 (e1 .nil))))
    ·refine us (mv [0] (Qbc ((Q40 c2 (fun (y:Int)=>QI0 y ([1]:List Int) 0)).2) (by first|(exact yea (hrd _ (by assumption)).1.2.2 (by decide))|exact szA) (by exact (hrd _ (by assumption)).1)) (dO (ds LexReader.lo) .nil) (dp .nil) (rO (re LexReader.lo) .nil) (Ren.low _ (Low.agg' (Token.lo)))) ?_;refine Or.inl ?_;(first|refine ⟨Qd1 40 rfl lnA apA,?_⟩|refine ⟨QB0 40 rfl apA,?_⟩);exact Qc0 (out++([{ (QE0 ((Q40 c2 (fun (y:Int)=>QI0 y ([1]:List Int) 0)).2)).1 with at_:=(Q40 c2 (fun (y:Int)=>QI0 y ([1]:List Int) 0)).2.at_ }]:List Token)) ((QE0 ((Q40 c2 (fun (y:Int)=>QI0 y ([1]:List Int) 0)).2)).2) (wkA [0,1,2]) (by first|(have hq:=hrd _ (by assumption);omega)|exact omA) ⟨m,by first|(have hq:=hrd _ (by assumption);omega)|exact omA,foll hR (ct h5 (cf h13 rfl)),b6a0⟩
   ·refine dchk (by kernel_rfl) ?_;(repeat ((first|refine ai rfl ?_|refine ai (fun _=>rfl) ?_)));exact lfA
def QN0 (v:Job):Bool:=((((v.start==0)&&(v.limit==0))&&(v.nodes==0))&&(((v.promise==(-1))&&(v.choice==0))||(((QQ1 v.promise)&&(QJ0 v v.choice).2)&&(!v.held))))
theorem Q7c (v:Job) (hs0:v.sz):GV 127 [Job.a v] (Bo (QN0 v)):=by
 generalize hR:QN0 v=R;refine gA (kp 6 []) Tryz.func127 ?_;obtain ⟨z1,z2,z3,z4,z5⟩:=Job.zz hs0;refine us (Q75 v v.choice szA _) ?_;(first|apply u2|apply u3|apply u4|apply us);exact Qj4 v.promise _;exact lfA
def QS2 (v:Job):Bool:=bif (((((((!(QJ0 v v.choice).2)||v.held)||(!(QQ1 v.start)))||(!(QQ1 v.promise)))||(decide (v.promise<v.start)))||(!(QQ1 v.limit)))||((w64 (v.limit - v.start))!=(QJ0 v v.choice).1.wall)) then false else ((QC9 v.nodes)&&(QU7 v.shape v.choice (QQ0 v.nodes)))
theorem Qkb (v:Job) (hs0:v.sz):GV 128 [Job.a v] (Bo (QS2 v)):=by
 generalize hR:QS2 v=R;refine gA (kp 5 [61]) Tryz.func128 ?_;obtain ⟨z3,z4,z5,z6,z7⟩:=Job.zz hs0;refine us (Q75 v v.choice szA _) ?_;(first|apply u2|apply u3|apply u4|apply us);exact Qj4 v.start _;(first|apply u2|apply u3|apply u4|apply us);exact Qj4 v.promise _;(first|apply u2|apply u3|apply u4|apply us);exact Qj4 v.limit _;apply ai<;>intro h1
 ·exact lfA
 ·refine dchk (by kernel_rfl) ?_;(first|apply u2|apply u3|apply u4|apply us);exact Qe6 v.nodes _;(first|apply u2|apply u3|apply u4|apply us);exact Qy1 v.nodes _;(first|apply u2|apply u3|apply u4|apply us);exact QA6 v.shape v.choice (QQ0 v.nodes) szA _;(repeat ((first|refine ai rfl ?_|refine ai (fun _=>rfl) ?_|refine ai (fun _=>Qe6 v.nodes _) ?_|refine ai (fun _=>Qy1 v.nodes _) ?_|refine ai (fun _=>QA6 v.shape v.choice (QQ0 v.nodes) szA _) ?_)));exact lfA
def QH7 (s:State) (r_:Resize) (j:Job) (c:Int):Bool:=bif (((Qq6 s (fun (y:Int) (y1:Node)=>((y1.job==r_.job)&&(y1.want==c))))!=(wu64 (BitVec.ofInt 64 r_.nodes &&& ~~~(BitVec.ofInt 64 r_.said)).toNat))||(!(Qya s.nodes r_.said))) then false else bif r_.grow then ((r_.nodes==(Qp1 s.nodes r_.job 2))&&(decide ((w64 ((QQ0 j.nodes)+(QQ0 r_.nodes)))<=j.shape.max))) else (((wu64 (BitVec.ofInt 64 r_.nodes &&& ~~~(BitVec.ofInt 64 j.nodes)).toNat)==0)&&(decide ((w64 ((QQ0 j.nodes) - (QQ0 r_.nodes))) >= j.shape.min)))
def Q38 (s:State) (r_:Resize) (j:Job):Bool:=bif (((((j.shape.kind != 3)||(r_.nodes==0))||((wu64 (BitVec.ofInt 64 r_.said &&& ~~~(BitVec.ofInt 64 r_.nodes)).toNat)!=0))||(decide (r_.since<0)))||(decide (r_.since > 1000000))) then false else bif r_.grow then QH7 s r_ j 2 else QH7 s r_ j 4
theorem Qua (s:State) (r_:Resize) (j:Job) (hs0:s.sz) (hs1:j.sz):GV 43 [State.a s,Resize.a r_,Job.a j] (Bo (Q38 s r_ j)):=by
 generalize hR:Q38 s r_ j=R;refine gA (kj [1000006] 11 [37,39,57,65]) Tryz.func43 ?_;have hk0:=hs0;obtain ⟨z13,z14,z15,z16,z17,z18,z19⟩:=hs0;obtain ⟨z20,z21,z22,z23,z24⟩:=Job.zz hs1;apply ai<;>intro h1
 ·obtain rfl:=foll hR (ct h1 rfl);exact Q60 lx sr
 ·refine Qu1 (fun (c:Int)=>QH7 s r_ j c=R) (fun c=>[(3,AVal.ptr 0 0 8 0 0),(4,AVal.ptr 1 0 5 0 0),(5,AVal.ptr 2 0 20 0 0),(6,Bo false),(7,AVal.ptr 3 0 1 0 0)]) (fun c=>[(0,AObj.row 28 8 [[I s.now,nodeL s.nodes,jobL s.jobs,Qh1 s.resizes,bookL s.books,Qt1 s.ledger,I s.nextJob,I s.nextBook]]),(0,AObj.row 89 5 [[I r_.job,Bo r_.grow,U r_.nodes,U r_.said,I r_.since]]),(0,AObj.row 55 20 [[I j.id,Sg j.name,Sg j.user,Sg j.account,I j.shape.kind,altL j.shape.alts,I j.shape.min,I j.shape.max,I j.shape.wall,I j.prio,depL j.after,I j.state,Bo j.held,I j.born,I j.promise,I j.choice,I j.start,I j.limit,U j.nodes,I j.used]]),(0,AObj.row 3 1 [[I c]])]) ?_ ?_
  ·clear hR;rintro c hR;(try dsimp only at hR);have cl1:∀ (y1:Int) (y2:Node),AMoves Tryz.prog 80 [I y1,Node.a y2,AVal.ptr 0 0 5 0 0,AVal.ptr 1 0 1 0 0] [(0,AObj.row 89 5 [[I r_.job,Bo r_.grow,U r_.nodes,U r_.said,I r_.since]]),(0,AObj.row 3 1 [[I c]])] 2 (Bo ((fun (y:Int) (y1:Node)=>((y1.job==r_.job)&&(y1.want==c))) y1 y2)) [(0,AObj.row 89 5 [[I r_.job,Bo r_.grow,U r_.nodes,U r_.said,I r_.since]]),(0,AObj.row 3 1 [[I c]])]:=by
    intro y1 y2;have hR:(fun (y:Int) (y1:Node)=>((y1.job==r_.job)&&(y1.want==c))) y1 y2=(fun (y:Int) (y1:Node)=>((y1.job==r_.job)&&(y1.want==c))) y1 y2:=rfl;refine mo (kp 7 []) Tryz.func80 ?_;refine Qs0 (fun r:Bool=>Bo r) (fun _=>[(0,AObj.row 89 5 [[I r_.job,Bo r_.grow,U r_.nodes,U r_.said,I r_.since]]),(0,AObj.row 3 1 [[I c]])]) (leaf:=((y2.job==r_.job)&&(y2.want==c))) (foll hR rfl) ?_;exact tt [0,1] (tO rfl (ts Resize.lo) (tO rfl (ts (l1 LowL.nil)) .nil)) t1
   have hof1:AMoves Tryz.prog 79 [State.a s,AVal.fn (.func 80) [] [AVal.ptr 0 0 5 0 0,AVal.ptr 1 0 1 0 0]] [(0,AObj.row 89 5 [[I r_.job,Bo r_.grow,U r_.nodes,U r_.said,I r_.since]]),(0,AObj.row 3 1 [[I c]])] 2 (U (Qq6 s (fun (y:Int) (y1:Node)=>((y1.job==r_.job)&&(y1.want==c))))) [(0,AObj.row 89 5 [[I r_.job,Bo r_.grow,U r_.nodes,U r_.said,I r_.since]]),(0,AObj.row 3 1 [[I c]])]:=by
    have hR:Qq6 s (fun (y:Int) (y1:Node)=>((y1.job==r_.job)&&(y1.want==c)))=Qq6 s (fun (y:Int) (y1:Node)=>((y1.job==r_.job)&&(y1.want==c))):=rfl;refine mo (kp 10 [11,12,13,14,21]) Tryz.func79 ?_;refine Qu0 (fun (l:List Int) (i:Nat)=>Qy4 (QB6 (fun (y:Int) (y1:Node)=>((y1.job==r_.job)&&(y1.want==c))) (List.drop i s.nodes) l i)=Qq6 s (fun (y:Int) (y1:Node)=>((y1.job==r_.job)&&(y1.want==c)))∧i<=s.nodes.length∧l.length<=i) (fun l i=>s.nodes.length - i) (fun l i=>[(1,AVal.fn (.func 80) [] [AVal.ptr 0 0 5 0 0,AVal.ptr 1 0 1 0 0]),(4,U 0),(5,AVal.own 2 0 1 0 l.length),(11,nodeL s.nodes),(12,I (s.nodes.length:Int)),(13,I (i:Int))]) (fun l i=>[(0,AObj.row 89 5 [[I r_.job,Bo r_.grow,U r_.nodes,U r_.said,I r_.since]]),(0,AObj.row 3 1 [[I c]]),(0,AObj.row 3 1 (l.map (fun q_=>[I q_])))]) [] 0 ((QA1 3 1).trans (wkA [0,1,3])) ⟨foll hR rfl,by exact omA,by exact exA⟩ ?_;clear hR;rintro l i ⟨hR,hj,hx⟩;(try dsimp only at hR hj hx);apply ai<;>intro h3
    ·have hlt:=ltA h3;rw [Qd0 zF hlt] at hR;refine ai gkA ?_;refine us (mv [0,1] (cl1 (i:Int) (s.nodes.getD i zF)) (dO (ds Resize.lo) (dO (ds (l1 LowL.nil)) .nil)) (d1 (dl (Node.low _ _) (dp (dp .nil)))) (rO (re Resize.lo) (rO (re (l1 LowL.nil)) .nil)) rx) ?_;apply ai<;>intro h5
     ·refine Or.inl ?_;(first|refine ⟨Qd1 8 rfl lnA apA,?_⟩|refine ⟨QB0 8 rfl apA,?_⟩);exact Qc0 (l++([(i:Int)]:List Int)) (i+1) (wkA [0,1,2]) omA ⟨foll hR (congrArg (fun p:(List Int)=>Qy4 p) (ct h5 rfl)),by exact omA,by exact exA⟩
     ·exact Qc0 l (i+1) (wkA [0,1,2]) omA ⟨foll hR (congrArg (fun p:(List Int)=>Qy4 p) (cf h5 rfl)),by exact omA,by exact exA⟩
    ·rw [Qh0 (l:=s.nodes) (j:=i) (geA h3)] at hR;replace hR:Qy4 l=Qq6 s (fun (y:Int) (y1:Node)=>((y1.job==r_.job)&&(y1.want==c))):=fo2 (fun p:(List Int)=>Qy4 p) (l) hR rfl;refine us (AGives.lent (QM6 l szA []) (ev (Qa0 _ _ rfl eqA lnA) .nil) (.cons lw .nil) (Qr5 rfl)) ?_;refine Qs0 (fun r:Int=>U r) (fun r:Int=>[(0,AObj.row 89 5 [[I r_.job,Bo r_.grow,U r_.nodes,U r_.said,I r_.since]]),(0,AObj.row 3 1 [[I c]])]) (leaf:=(QJ1 l).1) (foll hR rfl) ?_;exact tt [0,1] (tO rfl (ts Resize.lo) (tO rfl (ts (l1 LowL.nil)) .nil)) t1
   refine us (mv [1,3] (hof1) (dO (ds Resize.lo) (dO (ds (l1 LowL.nil)) .nil)) (dv (Qo3 (Low.agg' (State.lo))) (dv (dn_fn .nil (dp (dp .nil))) .nil)) (rO (re Resize.lo) (rO (re (l1 LowL.nil)) .nil)) rx) ?_;(first|apply u2|apply u3|apply u4|apply us);exact alloc_Quiet_c s.nodes r_.said szA _;apply ai<;>intro h7
   ·obtain rfl:=foll hR (ct h7 rfl);exact Q60 lx sr
   ·refine dchk (by kernel_rfl) ?_;(first|apply u2|apply u3|apply u4|apply us);exact Qy1 j.nodes _;(first|apply u2|apply u3|apply u4|apply us);exact Qy1 r_.nodes _;(repeat ((first|refine ai rfl ?_|refine ai (fun _=>rfl) ?_|refine ai (fun _=>Qy1 j.nodes _) ?_|refine ai (fun _=>Qy1 r_.nodes _) ?_)));apply ai<;>intro h9
    ·refine dchk (by kernel_rfl) ?_;(first|apply u2|apply u3|apply u4|apply us);exact Qy2 s.nodes r_.job 2 szA _;(repeat ((first|refine ai rfl ?_|refine ai (fun _=>rfl) ?_|refine ai (fun _=>Qy2 s.nodes r_.job 2 szA _) ?_)));obtain rfl:=foll hR (cf h7 (ct h9 rfl));exact Q60 lx sr
    ·obtain rfl:=foll hR (cf h7 (cf h9 rfl));exact Q60 lx sr
  ·apply ai<;>intro h11
   ·exact Qj0 2 (wkA [0,1,2,3]) (foll hR (cf h1 (ct h11 rfl)))
   ·exact Qj0 4 (wkA [0,1,2,3]) (foll hR (cf h1 (cf h11 rfl)))
def QN3 (l:List Node) (job:Int):Int:=bif (decide (job<1)) then 0 else (Qp1 l job 1)
theorem Qzc (l:List Node) (job:Int) (hs0:l.length<=4294967296):GV 22 [nodeL l,I job] (U (QN3 l job)):=by
 generalize hR:QN3 l job=R;refine gA (kp 5 [6]) Tryz.func22 ?_;have hk0:=hs0;obtain z3:l.length<=4294967296:=hs0;apply ai<;>intro h1
 ·have qh1:=yca h1;exact lfA
 ·have qh1:=yja h1;refine us (Qy2 l job 1 szA _) ?_;exact lfA
def QP1 (set_:Int) (act:Int) (job:Int) (now:Int):List Int->Nat->List Node->(List Node) × (List Note) × Int
 | [],_,c=>bif (!(QC8 act)) then (c,[],0) else (c,(QB8 c (QG0 set_)),0)
 | x_ :: r,i,c=>bif ((Ql0 c x_ act job now).2==0) then bif ((Ql0 c x_ act job now).2 != 0) then ([],[],(Ql0 c x_ act job now).2) else QP1 set_ act job now r (i+1) ((Ql0 c x_ act job now).1) else bif ((Ql0 c x_ act job now).2 != 0) then ([],[],(Ql0 c x_ act job now).2) else QP1 set_ act job now r (i+1) c
def Qp0 (l:List Node) (set_:Int) (act:Int) (job:Int) (now:Int):(List Node) × (List Note) × Int:=bif ((Q61 l)!=0) then ([],[],(Q61 l)) else QP1 set_ act job now (QG0 set_) 0 l
theorem b6a1 {P:Prop} (h:P:=by first|((have q:=Ql1 c ((QG0 set_).getD i 0) act job now;omega))|exact exA):P:=h
theorem Qj1 (l:List Node) (set_:Int) (act:Int) (job:Int) (now:Int) (hs0:l.length<=4294967296):GV 96 [nodeL l,U set_,I act,I job,I now] (AVal.tup [nodeL ((Qp0 l set_ act job now).1),noteL ((Qp0 l set_ act job now).2.1),I ((Qp0 l set_ act job now).2.2)]):=by
 generalize hR:Qp0 l set_ act job now=R;refine gA (kp 20 [23,28,29,30,31,38,46]) Tryz.func96 ?_;have hk0:=hs0;obtain z13:l.length<=4294967296:=hs0;have hll:=QX6 set_;refine us (QY2 l szA _) ?_;apply ai<;>intro h1
 ·exact lfA
 ·refine us (Qpa set_ _) ?_;refine Qu0 (fun (i:Nat) (c:List Node)=>QP1 set_ act job now (List.drop i (QG0 set_)) i c=R∧i<=(QG0 set_).length∧c.length<=4294967296) (fun i c=>(QG0 set_).length - i) (fun i c=>[(5,AVal.ptr 0 0 1 0 0),(7,AVal.ptr 1 0 1 0 0),(10,AVal.lit (.slice none 0 0)),(11,AVal.lit (.slice none 0 0)),(12,I 0),(14,ints (QG0 set_)),(15,AVal.fn (.func 150) [] [AVal.ptr 0 0 1 0 0,AVal.ptr 1 0 1 0 0,AVal.ptr 2 0 1 0 0,AVal.ptr 3 0 1 0 0]),(28,ints (QG0 set_)),(29,I ((QG0 set_).length:Int)),(30,I (i:Int))]) (fun i c=>[(0,AObj.row 22 1 [[nodeL c]]),(0,AObj.row 3 1 [[I act]]),(0,AObj.row 3 1 [[I job]]),(0,AObj.row 3 1 [[I now]])]) 0 l (wkA [0,1,2,3]) ⟨folA,by exact omA,b6a1⟩ ?_;clear hR;rintro i c ⟨hR,hj,hx⟩;(try dsimp only at hR hj hx);apply ai<;>intro h3
  ·have hlt:=ltA h3;rw [Qd0 0 hlt] at hR;refine ai gkA ?_;refine ACalls.of_cwp (fun _=>true) Tryz.func150 rfl rfl ?_;refine us (Q86 c ((QG0 set_).getD i 0) act job now szA _) ?_;apply ai<;>intro h5
   ·refine ⟨_,_,Told.refl,?_⟩;apply ai<;>intro h7
    ·exact lfA
    ·exact Qc0 (i+1) ((Ql0 c ((QG0 set_).getD i 0) act job now).1) (wkA [0,1,2,3]) omA ⟨folA,by exact omA,b6a1⟩
   ·refine ⟨_,_,Told.refl,?_⟩;apply ai<;>intro h9
    ·exact lfA
    ·exact Qc0 (i+1) c (wkA [0,1,2,3]) omA ⟨folA,by exact omA,b6a1⟩
  ·rw [Qh0 (l:=(QG0 set_)) (j:=i) (geA h3)] at hR;(first|refine ⟨Qd1 56 rfl lnA apA,?_⟩|refine ⟨QB0 56 rfl apA,?_⟩);refine us (alloc_sends_c act _) ?_;apply ai<;>intro h11
   ·obtain rfl:=foll hR (ct h11 rfl);exact Q60 (Low.tup' (.cons lw (.cons lw (l1 .nil)))) (Seen.tup (ev (Qa0 zF _ rfl eqA lnA) (ev (Q00) (e1 .nil))))
   ·refine us (alloc_Notes_c c (QG0 set_) szA szA _) ?_;obtain rfl:=foll hR (cf h11 rfl);exact Q60 (Low.tup' (.cons lw (.cons lw (l1 .nil)))) (Seen.tup (ev (Qa0 zF _ rfl eqA lnA) (e1 (e1 .nil))))
theorem QT6 (l:List Node):∀ (r:List Int) (out:List Note) (i:Nat),(Qx3 l r out i).length<=out.length+r.length
 | [],out,_=>by rw [Qx3];simp
 | x :: r,out,i=>by
  rw [Qx3];cases (QA5 l x).2 with
  | true =>
   have:=QT6 l r (out++[(QA5 l x).1]) (i+1);simp only [cond_true,yma,yLa,y0a] at *;omega
  | false =>
   have:=QT6 l r out (i+1);simp only [cond_false,yLa] at *;omega
theorem Qo9 (set_ act job now:Int):∀ (r:List Int) (i:Nat) (c:List Node),(QP1 set_ act job now r i c).2.1.length<=64
 | [],i,c=>by
  rw [QP1];cases (!(QC8 act)) with
  | true=>simp
  | false =>
   have h:=QT6 c (QG0 set_) [] 0;have h2:=QX6 set_;simp only [cond_false,QB8,Qy3];simp only [y0a] at h;omega
 | x :: r,i,c=>by
  rw [QP1];cases ((Ql0 c x act job now).2==0) <;> cases ((Ql0 c x act job now).2 != 0) <;> simp only [cond_true,cond_false] <;> first|exact Qo9 set_ act job now r _ _|exact yna _
theorem Qa8 (l:List Node) (set_ act job now:Int):(Qp0 l set_ act job now).2.1.length<=64:=by
 unfold Qp0;cases (Q61 l != 0) with
 | true=>exact yna _
 | false=>exact Qo9 _ _ _ _ _ _ _
def Qud (s:ByteArray):Bool:=bif ((((Qk4 s).2.2 != 0)||((((Qk4 s).1).length:Int)!=1))||(!(((((Qk4 s).1).getD 0 zD).kind==1)&&(((((Qk4 s).1).getD 0 zD).text==s)&&(((((Qk4 s).1).getD 0 zD).num==0)&&((((Qk4 s).1).getD 0 zD).at_==0)))))) then false else true
theorem cmd_word_c (s:ByteArray) (hs0:s.size<=4294967296):GV 233 [Sg s] (Bo (Qud s)):=by
 generalize hR:Qud s=R;refine gA (kp 3 []) Tryz.func233 ?_;have hk0:=hs0;obtain z3:s.size<=4294967296:=hs0;refine ACalls.of_cwp (fun _=>true) Tryz.func256 rfl rfl ?_;refine ACalls.of_cwp (fun _=>true) Tryz.func267 rfl rfl ?_;refine ai (fun h=>nomatch h) (fun _=>?_);refine ai (fun h=>nomatch h) (fun _=>?_);refine ⟨_,_,Told.refl,?_⟩;refine us (lex_Tokens_c s szA _) ?_;refine dchk (by kernel_rfl) ?_;refine ai gkA ?_;refine ai (fun _=>(by kernel_rfl:eqOK _ _=true)) ?_;(repeat ((first|refine ai rfl ?_|refine ai (fun _=>rfl) ?_)));apply ai<;>intro h1
 ·refine ⟨_,_,Told.refl,?_⟩;obtain rfl:=foll hR (ct h1 rfl);exact Q60 lx sr
 ·refine ⟨_,_,Told.refl,?_⟩;obtain rfl:=foll hR (cf h1 rfl);exact Q60 lx sr
def Q22 (l:List Node) (nodes:Int) (act:Int) (job:Int) (now:Int):(List Node) × Int × (List Note) × Int:=bif ((act != 1)&&(act != 2)) then ([],0,[],120) else bif ((Q61 l)!=0) then ([],0,[],120) else bif ((decide (nodes<1))||(decide (nodes > 48))) then ([],0,[],2) else bif (!(QI1 (Q83 l) nodes).2) then ([],0,[],130) else bif ((Qp0 l ((QI1 (Q83 l) nodes).1) act job now).2.2 != 0) then ([],0,[],(Qp0 l ((QI1 (Q83 l) nodes).1) act job now).2.2) else ((Qp0 l ((QI1 (Q83 l) nodes).1) act job now).1,(QI1 (Q83 l) nodes).1,(Qp0 l ((QI1 (Q83 l) nodes).1) act job now).2.1,0)
theorem QZa (l:List Node) (nodes:Int) (act:Int) (job:Int) (now:Int) (hs0:l.length<=4294967296):GV 118 [nodeL l,I nodes,I act,I job,I now] (AVal.tup [nodeL ((Q22 l nodes act job now).1),U ((Q22 l nodes act job now).2.1),noteL ((Q22 l nodes act job now).2.2.1),I ((Q22 l nodes act job now).2.2.2)]):=by
 generalize hR:Q22 l nodes act job now=R;refine gA (kp 19 [19,26,30,45,57]) Tryz.func118 ?_;have hk0:=hs0;obtain z11:l.length<=4294967296:=hs0;apply ai<;>intro h1
 ·exact lfA
 ·refine us (QY2 l szA _) ?_;apply ai<;>intro h3
  ·exact lfA
  ·apply ai<;>intro h5
   ·exact lfA
   ·refine us (fleet_Free_c l szA _) ?_;refine us (Qgd (Q83 l) nodes _) ?_;apply ai<;>intro h7
    ·exact lfA
    ·refine us (Qj1 l ((QI1 (Q83 l) nodes).1) act job now szA _) ?_;apply ai<;>intro h9
     ·exact lfA
     ·exact lfA
end Go.Proofs.YtgnlcjenoaoffaaGreatDoor
