/-
  What the last text of this claim leans on: an evaluator over the code, contracts of functions, plain laws. Conditions stand in each statement.
-/
import Derived.Test.YtackngeeehiegaaGreatDoorRD10
import Derived.Test.YtackngeeehiegaaGreatDoorProg
import Derived.Test.YtackngeeehiegaaGreatDoorRD8
namespace Go.Proofs.YtackngeeehiegaaGreatDoor
set_option linter.unusedSimpArgs false
set_option linter.unusedVariables false
open Go.Fw
set_option maxRecDepth 20000
set_option maxHeartbeats 4000000
attribute [local irreducible] ACalls AMoves
def Qm0 (y:Int):List Int->Nat->Bool
 | [],_=>false
 | x_1 :: r,i=>bif ((Qg1 y)==x_1) then true else Qm0 y r (i+1)
def Qq5 (line:ByteArray):List (Nat × Int)->LexReader->LexReader
 | [],c=>c
 | x_ :: r,c=>Qq5 line r { c with line:=(c.line++([x_.2]:List Int)) }
def QW1 :Nat->List Token->LexReader->(List Token) × Int × Int
 | 0,_,_=>([],0,0)
 | m+1,out,c2=>bif (c2.error==0) then bif ((Q30 c2 (fun (y:Int)=>Qm0 y ([1]:List Int) 0)).2.at_==(((Q30 c2 (fun (y:Int)=>Qm0 y ([1]:List Int) 0)).2.line).length:Int)) then (out,(((Q30 c2 (fun (y:Int)=>Qm0 y ([1]:List Int) 0)).2.line).length:Int),0) else QW1 m (out++([{ (Q90 ((Q30 c2 (fun (y:Int)=>Qm0 y ([1]:List Int) 0)).2)).1 with at_:=(Q30 c2 (fun (y:Int)=>Qm0 y ([1]:List Int) 0)).2.at_ }]:List Token)) ((Q90 ((Q30 c2 (fun (y:Int)=>Qm0 y ([1]:List Int) 0)).2)).2) else ([],c2.bad,c2.error)
def Qr5 (c:LexReader):(List Token) × Int × Int:=QW1 ((2*Int.toNat ((c.line.length:Int) - c.at_)+(bif c.error==0 then 1 else 0))+1) [] c
def Qj1 (line:ByteArray):(List Token) × Int × Int:=bif (decide ((ByteArray.size line:Int) > 400)) then ([],0,3) else Qr5 (Qq5 line (Qb7 line) zM)
theorem b6a0 {P:Prop} (h:P:=by first|(have hq:=hrd _ (by assumption);exact ⟨hq.2.1.1,hq.2.1.2.1,hq.2.1.2.2,fun hz=>by have hq3:=hq.2.2.2 hz;simp only [yta,yka,yVa];omega⟩)|first|(refine ⟨by omega,by omega,by omega,fun _=>by simp;omega⟩)|first|(simp [zM];done)|first|(simp;omega)|exact exA):P:=h
theorem lex_Tokens_c (line:ByteArray) (hs0:line.size<=4294967296):GV 301 [Sg line] (AVal.tup [tokenL ((Qj1 line).1),I ((Qj1 line).2.1),I ((Qj1 line).2.2)]):=by
 generalize hR:Qj1 line=R;refine gA (kp 12 [14,18,19,20,38,51]) Tryz.func301 ?_;have hk0:=hs0;obtain z15:line.size<=4294967296:=hs0;refine ai (fun h1=>?_) (fun h2=>?_)
 ·have qh1:=yfa h1;exact lfA
 ·have qh2:=yea h2;refine QP0 (fun (c:LexReader) (pos:Nat)=>∃ m,ByteArray.size line - pos<=m∧Qr5 (Qq5 line (Q05 line m pos) c)=R∧c.line.length<=pos∧pos<=ByteArray.size line∧c.at_=0) (fun c pos=>ByteArray.size line - pos) (fun c pos=>[(2,AVal.lit (.slice none 0 0)),(3,I 0),(4,I 0),(5,AVal.ptr 0 0 4 0 0),(18,AVal.ptr 1 0 1 0 0)]) (fun c pos=>[(0,AObj.row 321 4 [[AVal.own 2 0 1 0 c.line.length,I c.at_,I c.bad,I c.error]]),(0,AObj.other (.strIter line pos)),(0,AObj.row 21 1 (c.line.map (fun q_=>[J q_])))]) zM 0 ((Qa4 21 1).trans (wkA [0,1,2])) ⟨ByteArray.size line,by first|(have hq:=hrd _ (by assumption);omega)|exact omA,foll hR (cf h2 rfl),b6a0⟩ ?_;clear hR;rintro c pos ⟨m,hm,hR,hx⟩;(try dsimp only at hR hm hx);refine ai (fun h3=>?_) (fun h4=>?_)
  ·have hlt:=yfa h3;have hw:=QNa line pos;have hwe:=QMa line pos hlt;obtain ⟨m,rfl⟩:=sucA m;rw [QE4 h3] at hR;refine ai (fun _=>?_) (fun h=>nomatch h);refine Or.inl ?_;(first|refine ⟨QD2 4 rfl lnA apA,?_⟩|refine ⟨Qw1 4 rfl apA,?_⟩);exact Qr0 { c with line:=(c.line++([(pos,((Utf8.decode line pos).1:Int)).2]:List Int)) } (pos+(Utf8.decode line pos).2) (wkA [0,1,2]) (by first|(have hq:=hrd _ (by assumption);omega)|exact omA) ⟨m,by first|(have hq:=hrd _ (by assumption);omega)|exact omA,foll hR (congrArg (fun p:LexReader=>Qr5 p) rfl),b6a0⟩
  ·rw [Qt7 h4] at hR;refine ai (fun h=>nomatch h) (fun _=>?_);replace hR:Qr5 c=R:=fo2 (fun p:LexReader=>Qr5 p) (c) hR rfl;refine Or.inl ?_;refine ACalls.of_cwp (fun _=>true) Tryz.func306 rfl rfl ?_;refine ⟨_,_,Told.refl,?_⟩;refine QP0 (fun (out:List Token) (c2:LexReader)=>∃ m,(2*Int.toNat ((c2.line.length:Int) - c2.at_)+(bif c2.error==0 then 1 else 0))<m∧QW1 m out c2=R∧0<=c2.at_∧c2.at_<=(c2.line.length:Int)∧c2.line.length<=400∧((c2.error==0)=true->(out.length:Int)<=c2.at_)) (fun out c2=>(2*Int.toNat ((c2.line.length:Int) - c2.at_)+(bif c2.error==0 then 1 else 0))) (fun out c2=>[(2,AVal.lit (.slice none 0 0)),(3,I 0),(4,I 0),(5,AVal.ptr 0 0 4 0 0),(8,AVal.fn (.func 315) [] [AVal.ptr 1 0 1 0 0]),(9,AVal.own 2 0 4 0 out.length)]) (fun out c2=>[(0,AObj.row 321 4 [[runes c2.line,I c2.at_,I c2.bad,I c2.error]]),(0,AObj.row 52 1 [[ints ([1]:List Int)]]),(0,AObj.row 305 4 (out.map Token.cells))]) [] c ((Qa4 305 4).trans (wk [0,3,4] (tO rfl (QV2 (cv (Q38 _ _ rfl (yBa _) (by decide) eqA (fun _=>lowL1 rfl) lnA) (c1 (c1 (c1 .nil))))) (tO rfl (QV2 (cv (turn_as (Qz3 (c:=(fun q_=>[I q_])) (d:=0) ([1]:List Int) rfl) lw) .nil)) (tO rfl (tl eqA) .nil))) (s1 (s1 (s1 (sv (Qi1 0 rfl rfl) (sv (QB7 .nil (cv (Qi1 1 rfl rfl) .nil)) (sv (QY6 2 rfl) .nil)))))))) ⟨_,yeb _,foll hR rfl,b6a0⟩ ?_;clear hR;rintro out c2 ⟨m,hm,hR,hx⟩;(try dsimp only at hR hm hx);obtain ⟨m,rfl⟩:=sucA m;refine ai (fun h5=>?_) (fun h6=>?_)
   ·have hol:=hx.2.2.2 h5;have hrd:=fun (b:Int->Bool) (hn:((Q30 c2 b).2.at_==((Q30 c2 b).2.line.length:Int))=false)=>lex_round c2 _ b (by omega) (by omega) (by omega) h5 rfl hn;have cl1:∀ (y1:Int),AMoves Tryz.prog 315 [J y1,AVal.ptr 0 0 1 0 0] [(0,AObj.row 52 1 [[ints ([1]:List Int)]])] 1 (Bo ((fun (y:Int)=>Qm0 y ([1]:List Int) 0) y1)) [(0,AObj.row 52 1 [[ints ([1]:List Int)]])]:=by
     intro y1;have hR:(fun (y:Int)=>Qm0 y ([1]:List Int) 0) y1=(fun (y:Int)=>Qm0 y ([1]:List Int) 0) y1:=rfl;refine mo (kp 6 [6,7,8,9,15]) Tryz.func315 ?_;refine Qx0 (fun (i:Nat)=>Qm0 y1 (List.drop i ([1]:List Int)) i=(fun (y:Int)=>Qm0 y ([1]:List Int) 0) y1∧i<=([1]:List Int).length) (fun i=>([1]:List Int).length - i) (fun i=>[(0,J y1),(3,Bo false),(6,ints ([1]:List Int)),(7,I (([1]:List Int).length:Int)),(8,I (i:Int))]) (fun i=>[(0,AObj.row 52 1 [[ints ([1]:List Int)]])]) 0 (wkA [0]) ⟨foll hR rfl,by exact omA⟩ ?_;clear hR;rintro i ⟨hR,hj⟩;(try dsimp only at hR hj);refine ai (fun h7=>?_) (fun h8=>?_)
     ·(have hlt:i<([1]:List Int).length:=by have:=yfa h7;omega);rw [Qq0 0 hlt] at hR;refine ai gkA ?_;refine us (QA4 y1 _) ?_;refine ai (fun h9=>?_) (fun h10=>?_)
      ·refine Qi0 (fun r:Bool=>Bo r) (fun _=>[(0,AObj.row 52 1 [[ints ([1]:List Int)]])]) (leaf:=true) (foll hR (ct h9 rfl)) ?_;exact tt [0] (tO rfl (ts (lv lw LowL.nil)) .nil) t1
      ·exact QD0 (i+1) (wkA [0]) omA ⟨folA,by exact omA⟩
     ·rw [Qv0 (l:=([1]:List Int)) (j:=i) (geA h8)] at hR;refine Qi0 (fun r:Bool=>Bo r) (fun _=>[(0,AObj.row 52 1 [[ints ([1]:List Int)]])]) (leaf:=false) (foll hR rfl) ?_;exact tt [0] (tO rfl (ts (lv lw LowL.nil)) .nil) t1
    have hof1:AMoves Tryz.prog 307 [AVal.ptr 0 0 4 0 0,AVal.fn (.func 315) [] [AVal.ptr 1 0 1 0 0]] [(0,AObj.row 321 4 [[runes c2.line,I c2.at_,I c2.bad,I c2.error]]),(0,AObj.row 52 1 [[ints ([1]:List Int)]])] 2 (Sg ((Q30 c2 (fun (y:Int)=>Qm0 y ([1]:List Int) 0)).1)) [(0,AObj.row 321 4 [[runes (((Q30 c2 (fun (y:Int)=>Qm0 y ([1]:List Int) 0)).2).line),I (((Q30 c2 (fun (y:Int)=>Qm0 y ([1]:List Int) 0)).2).at_),I (((Q30 c2 (fun (y:Int)=>Qm0 y ([1]:List Int) 0)).2).bad),I (((Q30 c2 (fun (y:Int)=>Qm0 y ([1]:List Int) 0)).2).error)]]),(0,AObj.row 52 1 [[ints ([1]:List Int)]])]:=by
     have hR:Q30 c2 (fun (y:Int)=>Qm0 y ([1]:List Int) 0)=Q30 c2 (fun (y:Int)=>Qm0 y ([1]:List Int) 0):=rfl;refine mo (kp 6 [33]) Tryz.func307 ?_;refine Qx0 (fun (c3:LexReader)=>∃ m,(Int.toNat ((c3.line.length:Int) - c3.at_))<m∧QF0 c2 (QE0 (fun (y:Int)=>Qm0 y ([1]:List Int) 0) m c3)=Q30 c2 (fun (y:Int)=>Qm0 y ([1]:List Int) 0)∧0<=c3.at_∧c3.at_<=(c3.line.length:Int)∧c3.line.length<=400∧c2.at_<=c3.at_∧0<=c2.at_) (fun c3=>(Int.toNat ((c3.line.length:Int) - c3.at_))) (fun c3=>[(0,AVal.ptr 0 0 4 0 0),(1,AVal.fn (.func 315) [] [AVal.ptr 1 0 1 0 0]),(4,Sg ⟨#[]⟩),(5,I c2.at_)]) (fun c3=>[(0,AObj.row 321 4 [[runes c3.line,I c3.at_,I c3.bad,I c3.error]]),(0,AObj.row 52 1 [[ints ([1]:List Int)]])]) c2 (wkA [0,1]) ⟨_,yeb _,foll hR rfl,by exact exA⟩ ?_;clear hR;rintro c3 ⟨m,hm,hR,hx⟩;(try dsimp only at hR hm hx);obtain ⟨m,rfl⟩:=sucA m;refine dchk (by kernel_rfl) ?_;refine ai gkA ?_;(first|apply u2|apply u3|apply u4|apply us);exact mv [1] (cl1 (c3.line.getD (Int.toNat c3.at_) 0)) (dO (ds (lv lw LowL.nil)) .nil) (d1 (dp .nil)) (rO (re (lv lw LowL.nil)) .nil) rx;(repeat ((first|refine ai rfl ?_|refine ai (fun _=>rfl) ?_)));refine ai (fun h11=>?_) (fun h12=>?_)
     ·have hq1:=yfa ((yca _ _).mp h11).1;have hwr:w64 (c3.at_+1)=c3.at_+1:=wr (by omega);exact QD0 { c3 with at_:=(w64 (c3.at_+1)) } (wk [0,1] (tO rfl (ts LexReader.lo) (tO rfl (ts (lv lw LowL.nil)) .nil)) (sv (Qi1 0 rfl rfl) (sv (QB7 .nil (cv (Qi1 1 rfl rfl) .nil)) (s1 (s1 .nil))))) omA ⟨m,by exact omA,foll hR (congrArg (fun p:LexReader=>QF0 c2 p) (ct h11 rfl)),by exact exA⟩
     ·replace hR:QF0 c2 c3=Q30 c2 (fun (y:Int)=>Qm0 y ([1]:List Int) 0):=fo2 (fun p:LexReader=>QF0 c2 p) (c3) hR (cf h12 rfl);refine dchk (by kernel_rfl) ?_;refine ai gkA ?_;(first|refine ⟨(List.drop (Int.toNat c2.at_) (List.take (Int.toNat c3.at_) c3.line)),by exact cvA,?_⟩|refine ⟨_,fun _=>⟨(List.drop (Int.toNat c2.at_) (List.take (Int.toNat c3.at_) c3.line)),by exact cvA,rfl,rfl⟩,?_⟩|refine ⟨_,rfl,⟨(List.drop (Int.toNat c2.at_) (List.take (Int.toNat c3.at_) c3.line)),by exact cvA,Sub.refl _,rfl⟩,?_⟩);(repeat ((first|refine ai rfl ?_|refine ai (fun _=>rfl) ?_)));refine Qi0 (fun r:ByteArray × LexReader=>Sg r.1) (fun r:ByteArray × LexReader=>[(0,AObj.row 321 4 [[runes r.2.line,I r.2.at_,I r.2.bad,I r.2.error]]),(0,AObj.row 52 1 [[ints ([1]:List Int)]])]) (leaf:=((runesBytes (List.drop (Int.toNat c2.at_) (List.take (Int.toNat c3.at_) c3.line))),c3)) (foll hR rfl) ?_;exact tt [0,1] (tO rfl (ts LexReader.lo) (tO rfl (ts (lv lw LowL.nil)) .nil)) t1
    refine us (mv [0,1] (hof1) (dO (ds LexReader.lo) (dO (ds (lv lw LowL.nil)) .nil)) (dp (dv (dn_fn .nil (dp .nil)) .nil)) (rO (re LexReader.lo) (rO (re (lv lw LowL.nil)) .nil)) rx) ?_;refine dchk (by kernel_rfl) ?_;(repeat ((first|refine ai rfl ?_|refine ai (fun _=>rfl) ?_)));refine ai (fun h13=>?_) (fun h14=>?_)
    ·refine dchk (by kernel_rfl) ?_;(repeat ((first|refine ai rfl ?_|refine ai (fun _=>rfl) ?_)));obtain rfl:=foll hR (ct h5 (ct h13 rfl));exact Qb0 (Low.tup' (.cons lw (l1 (l1 .nil)))) (Seen.tup (ev (Qa0 zD _ rfl eqA lnA) (e1 (e1 .nil))))
    ·refine us (mv [0] (Qqd ((Q30 c2 (fun (y:Int)=>Qm0 y ([1]:List Int) 0)).2) (by first|(exact yJa (hrd _ (by assumption)).1.2.2 (by decide))|exact szA) (by exact (hrd _ (by assumption)).1)) (dO (ds LexReader.lo) .nil) (dp .nil) (rO (re LexReader.lo) .nil) (Ren.low _ (Low.agg' (Token.lo)))) ?_;refine Or.inl ?_;(first|refine ⟨QD2 40 rfl lnA apA,?_⟩|refine ⟨Qw1 40 rfl apA,?_⟩);exact Qr0 (out++([{ (Q90 ((Q30 c2 (fun (y:Int)=>Qm0 y ([1]:List Int) 0)).2)).1 with at_:=(Q30 c2 (fun (y:Int)=>Qm0 y ([1]:List Int) 0)).2.at_ }]:List Token)) ((Q90 ((Q30 c2 (fun (y:Int)=>Qm0 y ([1]:List Int) 0)).2)).2) (wkA [0,1,2]) (by first|(have hq:=hrd _ (by assumption);omega)|exact omA) ⟨m,by first|(have hq:=hrd _ (by assumption);omega)|exact omA,foll hR (ct h5 (cf h14 rfl)),b6a0⟩
   ·refine dchk (by kernel_rfl) ?_;(repeat ((first|refine ai rfl ?_|refine ai (fun _=>rfl) ?_)));exact lfA
def Qo2 (v:Job):Bool:=((((v.start==0)&&(v.limit==0))&&(v.nodes==0))&&(((v.promise==(-1))&&(v.choice==0))||(((Qj2 v.promise)&&(QK0 v v.choice).2)&&(!v.held))))
theorem Qod (v:Job) (hs0:v.sz):GV 196 [Job.a v] (Bo (Qo2 v)):=by
 generalize hR:Qo2 v=R;refine gA (kp 6 []) Tryz.func196 ?_;obtain ⟨z1,z2,z3,z4,z5⟩:=Job.zz hs0;refine us (Q09 v v.choice szA _) ?_;(first|apply u2|apply u3|apply u4|apply us);exact Qd6 v.promise _;exact lfA
def Ql1 (v:Job):Bool:=bif (((((((!(QK0 v v.choice).2)||v.held)||(!(Qj2 v.start)))||(!(Qj2 v.promise)))||(decide (v.promise<v.start)))||(!(Qj2 v.limit)))||((w64 (v.limit - v.start))!=(QK0 v v.choice).1.wall)) then false else ((Qr6 v.nodes)&&(QU2 v.shape v.choice (Q10 v.nodes)))
theorem Qpc (v:Job) (hs0:v.sz):GV 197 [Job.a v] (Bo (Ql1 v)):=by
 generalize hR:Ql1 v=R;refine gA (kp 5 [61]) Tryz.func197 ?_;obtain ⟨z3,z4,z5,z6,z7⟩:=Job.zz hs0;refine us (Q09 v v.choice szA _) ?_;(first|apply u2|apply u3|apply u4|apply us);exact Qd6 v.start _;(first|apply u2|apply u3|apply u4|apply us);exact Qd6 v.promise _;(first|apply u2|apply u3|apply u4|apply us);exact Qd6 v.limit _;refine ai (fun h1=>?_) (fun h2=>?_)
 ·exact lfA
 ·refine dchk (by kernel_rfl) ?_;(first|apply u2|apply u3|apply u4|apply us);exact Qx9 v.nodes _;(first|apply u2|apply u3|apply u4|apply us);exact Q71 v.nodes _;(first|apply u2|apply u3|apply u4|apply us);exact Qc7 v.shape v.choice (Q10 v.nodes) szA _;(repeat ((first|refine ai rfl ?_|refine ai (fun _=>rfl) ?_|refine ai (fun _=>Qx9 v.nodes _) ?_|refine ai (fun _=>Q71 v.nodes _) ?_|refine ai (fun _=>Qc7 v.shape v.choice (Q10 v.nodes) szA _) ?_)));exact lfA
def Qf5 (s:State) (r_:Resize) (j:Job) (c:Int):Bool:=bif (((QM2 s (fun (y:Int) (y1:Node)=>((y1.job==r_.job)&&(y1.want==c))))!=(wu64 (BitVec.ofInt 64 r_.nodes &&& ~~~(BitVec.ofInt 64 r_.said)).toNat))||(!(Qn2 s.nodes r_.said))) then false else bif r_.grow then ((r_.nodes==(Qq6 s.nodes r_.job 2))&&(decide ((w64 ((Q10 j.nodes)+(Q10 r_.nodes)))<=j.shape.max))) else (((wu64 (BitVec.ofInt 64 r_.nodes &&& ~~~(BitVec.ofInt 64 j.nodes)).toNat)==0)&&(decide ((w64 ((Q10 j.nodes) - (Q10 r_.nodes))) >= j.shape.min)))
def Qt3 (s:State) (r_:Resize) (j:Job):Bool:=bif (((((j.shape.kind != 3)||(r_.nodes==0))||((wu64 (BitVec.ofInt 64 r_.said &&& ~~~(BitVec.ofInt 64 r_.nodes)).toNat)!=0))||(decide (r_.since<0)))||(decide (r_.since > 1000000))) then false else bif r_.grow then Qf5 s r_ j 2 else Qf5 s r_ j 4
theorem Qsb (s:State) (r_:Resize) (j:Job) (hs0:s.sz) (hs1:j.sz):GV 123 [State.a s,Resize.a r_,Job.a j] (Bo (Qt3 s r_ j)):=by
 generalize hR:Qt3 s r_ j=R;refine gA (kj [1000006] 11 [37,39,57,65]) Tryz.func123 ?_;have hk0:=hs0;obtain ⟨z13,z14,z15,z16,z17,z18,z19⟩:=hs0;obtain ⟨z20,z21,z22,z23,z24⟩:=Job.zz hs1;refine ai (fun h1=>?_) (fun h2=>?_)
 ·obtain rfl:=foll hR (ct h1 rfl);exact Qb0 lx sr
 ·refine Qp2 (fun (c:Int)=>Qf5 s r_ j c=R) (fun c=>[(3,AVal.ptr 0 0 8 0 0),(4,AVal.ptr 1 0 5 0 0),(5,AVal.ptr 2 0 20 0 0),(6,Bo false),(7,AVal.ptr 3 0 1 0 0)]) (fun c=>[(0,AObj.row 28 8 [[I s.now,nodeL s.nodes,jobL s.jobs,QN1 s.resizes,bookL s.books,Q93 s.ledger,I s.nextJob,I s.nextBook]]),(0,AObj.row 49 5 [[I r_.job,Bo r_.grow,U r_.nodes,U r_.said,I r_.since]]),(0,AObj.row 72 20 [[I j.id,Sg j.name,Sg j.user,Sg j.account,I j.shape.kind,altL j.shape.alts,I j.shape.min,I j.shape.max,I j.shape.wall,I j.prio,depL j.after,I j.state,Bo j.held,I j.born,I j.promise,I j.choice,I j.start,I j.limit,U j.nodes,I j.used]]),(0,AObj.row 3 1 [[I c]])]) ?_ ?_
  ·clear hR;rintro c hR;(try dsimp only at hR);have cl1:∀ (y1:Int) (y2:Node),AMoves Tryz.prog 183 [I y1,Node.a y2,AVal.ptr 0 0 5 0 0,AVal.ptr 1 0 1 0 0] [(0,AObj.row 49 5 [[I r_.job,Bo r_.grow,U r_.nodes,U r_.said,I r_.since]]),(0,AObj.row 3 1 [[I c]])] 2 (Bo ((fun (y:Int) (y1:Node)=>((y1.job==r_.job)&&(y1.want==c))) y1 y2)) [(0,AObj.row 49 5 [[I r_.job,Bo r_.grow,U r_.nodes,U r_.said,I r_.since]]),(0,AObj.row 3 1 [[I c]])]:=by
    intro y1 y2;have hR:(fun (y:Int) (y1:Node)=>((y1.job==r_.job)&&(y1.want==c))) y1 y2=(fun (y:Int) (y1:Node)=>((y1.job==r_.job)&&(y1.want==c))) y1 y2:=rfl;refine mo (kp 7 []) Tryz.func183 ?_;refine Qi0 (fun r:Bool=>Bo r) (fun _=>[(0,AObj.row 49 5 [[I r_.job,Bo r_.grow,U r_.nodes,U r_.said,I r_.since]]),(0,AObj.row 3 1 [[I c]])]) (leaf:=((y2.job==r_.job)&&(y2.want==c))) (foll hR rfl) ?_;exact tt [0,1] (tO rfl (ts Resize.lo) (tO rfl (ts (l1 LowL.nil)) .nil)) t1
   have hof1:AMoves Tryz.prog 182 [State.a s,AVal.fn (.func 183) [] [AVal.ptr 0 0 5 0 0,AVal.ptr 1 0 1 0 0]] [(0,AObj.row 49 5 [[I r_.job,Bo r_.grow,U r_.nodes,U r_.said,I r_.since]]),(0,AObj.row 3 1 [[I c]])] 2 (U (QM2 s (fun (y:Int) (y1:Node)=>((y1.job==r_.job)&&(y1.want==c))))) [(0,AObj.row 49 5 [[I r_.job,Bo r_.grow,U r_.nodes,U r_.said,I r_.since]]),(0,AObj.row 3 1 [[I c]])]:=by
    have hR:QM2 s (fun (y:Int) (y1:Node)=>((y1.job==r_.job)&&(y1.want==c)))=QM2 s (fun (y:Int) (y1:Node)=>((y1.job==r_.job)&&(y1.want==c))):=rfl;refine mo (kp 10 [11,12,13,14,21]) Tryz.func182 ?_;refine QP0 (fun (l:List Int) (i:Nat)=>Q84 (QP5 (fun (y:Int) (y1:Node)=>((y1.job==r_.job)&&(y1.want==c))) (List.drop i s.nodes) l i)=QM2 s (fun (y:Int) (y1:Node)=>((y1.job==r_.job)&&(y1.want==c)))∧i<=s.nodes.length∧l.length<=i) (fun l i=>s.nodes.length - i) (fun l i=>[(1,AVal.fn (.func 183) [] [AVal.ptr 0 0 5 0 0,AVal.ptr 1 0 1 0 0]),(4,U 0),(5,AVal.own 2 0 1 0 l.length),(11,nodeL s.nodes),(12,I (s.nodes.length:Int)),(13,I (i:Int))]) (fun l i=>[(0,AObj.row 49 5 [[I r_.job,Bo r_.grow,U r_.nodes,U r_.said,I r_.since]]),(0,AObj.row 3 1 [[I c]]),(0,AObj.row 3 1 (l.map (fun q_=>[I q_])))]) [] 0 ((Qa4 3 1).trans (wkA [0,1,3])) ⟨foll hR rfl,by exact omA,by exact exA⟩ ?_;clear hR;rintro l i ⟨hR,hj,hx⟩;(try dsimp only at hR hj hx);refine ai (fun h3=>?_) (fun h4=>?_)
    ·have hlt:=ltA h3;rw [Qq0 zF hlt] at hR;refine ai gkA ?_;refine us (mv [0,1] (cl1 (i:Int) (s.nodes.getD i zF)) (dO (ds Resize.lo) (dO (ds (l1 LowL.nil)) .nil)) (d1 (dl (Node.low _ _) (dp (dp .nil)))) (rO (re Resize.lo) (rO (re (l1 LowL.nil)) .nil)) rx) ?_;refine ai (fun h5=>?_) (fun h6=>?_)
     ·refine Or.inl ?_;(first|refine ⟨QD2 8 rfl lnA apA,?_⟩|refine ⟨Qw1 8 rfl apA,?_⟩);exact Qr0 (l++([(i:Int)]:List Int)) (i+1) (wkA [0,1,2]) omA ⟨foll hR (congrArg (fun p:(List Int)=>Q84 p) (ct h5 rfl)),by exact omA,by exact exA⟩
     ·exact Qr0 l (i+1) (wkA [0,1,2]) omA ⟨foll hR (congrArg (fun p:(List Int)=>Q84 p) (cf h6 rfl)),by exact omA,by exact exA⟩
    ·rw [Qv0 (l:=s.nodes) (j:=i) (geA h4)] at hR;replace hR:Q84 l=QM2 s (fun (y:Int) (y1:Node)=>((y1.job==r_.job)&&(y1.want==c))):=fo2 (fun p:(List Int)=>Q84 p) (l) hR rfl;refine us (AGives.lent (Qm7 l szA []) (ev (Qa0 _ _ rfl eqA lnA) .nil) (.cons lw .nil) (QA3 rfl)) ?_;refine Qi0 (fun r:Int=>U r) (fun r:Int=>[(0,AObj.row 49 5 [[I r_.job,Bo r_.grow,U r_.nodes,U r_.said,I r_.since]]),(0,AObj.row 3 1 [[I c]])]) (leaf:=(QO0 l).1) (foll hR rfl) ?_;exact tt [0,1] (tO rfl (ts Resize.lo) (tO rfl (ts (l1 LowL.nil)) .nil)) t1
   refine us (mv [1,3] (hof1) (dO (ds Resize.lo) (dO (ds (l1 LowL.nil)) .nil)) (dv (QG6 (Low.agg' (State.lo))) (dv (dn_fn .nil (dp (dp .nil))) .nil)) (rO (re Resize.lo) (rO (re (l1 LowL.nil)) .nil)) rx) ?_;(first|apply u2|apply u3|apply u4|apply us);exact Qf9 s.nodes r_.said szA _;refine ai (fun h7=>?_) (fun h8=>?_)
   ·obtain rfl:=foll hR (ct h7 rfl);exact Qb0 lx sr
   ·refine dchk (by kernel_rfl) ?_;(first|apply u2|apply u3|apply u4|apply us);exact Q71 j.nodes _;(first|apply u2|apply u3|apply u4|apply us);exact Q71 r_.nodes _;(repeat ((first|refine ai rfl ?_|refine ai (fun _=>rfl) ?_|refine ai (fun _=>Q71 j.nodes _) ?_|refine ai (fun _=>Q71 r_.nodes _) ?_)));refine ai (fun h9=>?_) (fun h10=>?_)
    ·refine dchk (by kernel_rfl) ?_;(first|apply u2|apply u3|apply u4|apply us);exact Qnd s.nodes r_.job 2 szA _;(repeat ((first|refine ai rfl ?_|refine ai (fun _=>rfl) ?_|refine ai (fun _=>Qnd s.nodes r_.job 2 szA _) ?_)));obtain rfl:=foll hR (cf h8 (ct h9 rfl));exact Qb0 lx sr
    ·obtain rfl:=foll hR (cf h8 (cf h10 rfl));exact Qb0 lx sr
  ·refine ai (fun h11=>?_) (fun h12=>?_)
   ·exact Qt0 2 (wkA [0,1,2,3]) (foll hR (cf h2 (ct h11 rfl)))
   ·exact Qt0 4 (wkA [0,1,2,3]) (foll hR (cf h2 (cf h12 rfl)))
def QW2 (l:List Node) (job:Int):Int:=bif (decide (job<1)) then 0 else (Qq6 l job 1)
theorem QNd (l:List Node) (job:Int) (hs0:l.length<=4294967296):GV 77 [nodeL l,I job] (U (QW2 l job)):=by
 generalize hR:QW2 l job=R;refine gA (kp 5 [6]) Tryz.func77 ?_;have hk0:=hs0;obtain z3:l.length<=4294967296:=hs0;refine ai (fun h1=>?_) (fun h2=>?_)
 ·have qh1:=yfa h1;exact lfA
 ·have qh2:=yea h2;refine us (Qnd l job 1 szA _) ?_;exact lfA
def QB1 (set_:Int) (act:Int) (job:Int) (now:Int):List Int->Nat->List Node->(List Node) × (List Note) × Int
 | [],_,c=>bif (!(Q13 act)) then (c,[],0) else (c,(Q03 c (Qc0 set_)),0)
 | x_ :: r,i,c=>bif ((QX2 c x_ act job now).2==0) then bif ((QX2 c x_ act job now).2 != 0) then ([],[],(QX2 c x_ act job now).2) else QB1 set_ act job now r (i+1) ((QX2 c x_ act job now).1) else bif ((QX2 c x_ act job now).2 != 0) then ([],[],(QX2 c x_ act job now).2) else QB1 set_ act job now r (i+1) c
def Ql0 (l:List Node) (set_:Int) (act:Int) (job:Int) (now:Int):(List Node) × (List Note) × Int:=bif ((Q50 l)!=0) then ([],[],(Q50 l)) else QB1 set_ act job now (Qc0 set_) 0 l
theorem b6a1 {P:Prop} (h:P:=by first|((have q:=fleet_Do_len c ((Qc0 set_).getD i 0) act job now;omega))|exact exA):P:=h
theorem Qx1 (l:List Node) (set_:Int) (act:Int) (job:Int) (now:Int) (hs0:l.length<=4294967296):GV 97 [nodeL l,U set_,I act,I job,I now] (AVal.tup [nodeL ((Ql0 l set_ act job now).1),noteL ((Ql0 l set_ act job now).2.1),I ((Ql0 l set_ act job now).2.2)]):=by
 generalize hR:Ql0 l set_ act job now=R;refine gA (kp 20 [23,28,29,30,31,38,46]) Tryz.func97 ?_;have hk0:=hs0;obtain z13:l.length<=4294967296:=hs0;have hll:=Qx7 set_;refine us (Qb3 l szA _) ?_;refine ai (fun h1=>?_) (fun h2=>?_)
 ·exact lfA
 ·refine us (Qeb set_ _) ?_;refine QP0 (fun (i:Nat) (c:List Node)=>QB1 set_ act job now (List.drop i (Qc0 set_)) i c=R∧i<=(Qc0 set_).length∧c.length<=4294967296) (fun i c=>(Qc0 set_).length - i) (fun i c=>[(5,AVal.ptr 0 0 1 0 0),(7,AVal.ptr 1 0 1 0 0),(10,AVal.lit (.slice none 0 0)),(11,AVal.lit (.slice none 0 0)),(12,I 0),(14,ints (Qc0 set_)),(15,AVal.fn (.func 155) [] [AVal.ptr 0 0 1 0 0,AVal.ptr 1 0 1 0 0,AVal.ptr 2 0 1 0 0,AVal.ptr 3 0 1 0 0]),(28,ints (Qc0 set_)),(29,I ((Qc0 set_).length:Int)),(30,I (i:Int))]) (fun i c=>[(0,AObj.row 22 1 [[nodeL c]]),(0,AObj.row 3 1 [[I act]]),(0,AObj.row 3 1 [[I job]]),(0,AObj.row 3 1 [[I now]])]) 0 l (wkA [0,1,2,3]) ⟨folA,by exact omA,b6a1⟩ ?_;clear hR;rintro i c ⟨hR,hj,hx⟩;(try dsimp only at hR hj hx);refine ai (fun h3=>?_) (fun h4=>?_)
  ·have hlt:=ltA h3;rw [Qq0 0 hlt] at hR;refine ai gkA ?_;refine ACalls.of_cwp (fun _=>true) Tryz.func155 rfl rfl ?_;refine us (fleet_Do_c c ((Qc0 set_).getD i 0) act job now szA _) ?_;refine ai (fun h5=>?_) (fun h6=>?_)
   ·refine ⟨_,_,Told.refl,?_⟩;refine ai (fun h7=>?_) (fun h8=>?_)
    ·exact lfA
    ·exact Qr0 (i+1) ((QX2 c ((Qc0 set_).getD i 0) act job now).1) (wkA [0,1,2,3]) omA ⟨folA,by exact omA,b6a1⟩
   ·refine ⟨_,_,Told.refl,?_⟩;refine ai (fun h9=>?_) (fun h10=>?_)
    ·exact lfA
    ·exact Qr0 (i+1) c (wkA [0,1,2,3]) omA ⟨folA,by exact omA,b6a1⟩
  ·rw [Qv0 (l:=(Qc0 set_)) (j:=i) (geA h4)] at hR;(first|refine ⟨QD2 56 rfl lnA apA,?_⟩|refine ⟨Qw1 56 rfl apA,?_⟩);refine us (alloc_sends_c act _) ?_;refine ai (fun h11=>?_) (fun h12=>?_)
   ·obtain rfl:=foll hR (ct h11 rfl);exact Qb0 (Low.tup' (.cons lw (.cons lw (l1 .nil)))) (Seen.tup (ev (Qa0 zF _ rfl eqA lnA) (ev (Q40) (e1 .nil))))
   ·refine us (alloc_Notes_c c (Qc0 set_) szA szA _) ?_;obtain rfl:=foll hR (cf h12 rfl);exact Qb0 (Low.tup' (.cons lw (.cons lw (l1 .nil)))) (Seen.tup (ev (Qa0 zF _ rfl eqA lnA) (e1 (e1 .nil))))
theorem Qv7 (l:List Node):∀ (r:List Int) (out:List Note) (i:Nat),(QU1 l r out i).length<=out.length+r.length
 | [],out,_=>by rw [QU1];simp
 | x :: r,out,i=>by
  rw [QU1];cases (Qv3 l x).2 with
  | true =>
   have:=Qv7 l r (out++[(Qv3 l x).1]) (i+1);simp only [cond_true,yta,yka,yVa] at *;omega
  | false =>
   have:=Qv7 l r out (i+1);simp only [cond_false,yka] at *;omega
theorem Q3a (set_ act job now:Int):∀ (r:List Int) (i:Nat) (c:List Node),(QB1 set_ act job now r i c).2.1.length<=64
 | [],i,c=>by
  rw [QB1];cases (!(Q13 act)) with
  | true=>simp
  | false =>
   have h:=Qv7 c (Qc0 set_) [] 0;have h2:=Qx7 set_;simp only [cond_false,Q03,QS3];simp only [yVa] at h;omega
 | x :: r,i,c=>by
  rw [QB1];cases ((QX2 c x act job now).2==0) <;> cases ((QX2 c x act job now).2 != 0) <;> simp only [cond_true,cond_false] <;> first|exact Q3a set_ act job now r _ _|exact yBa _
theorem Qi3 (l:List Node) (set_ act job now:Int):(Ql0 l set_ act job now).2.1.length<=64:=by
 unfold Ql0;cases (Q50 l != 0) with
 | true=>exact yBa _
 | false=>exact Q3a _ _ _ _ _ _ _
def QS0 (line:ByteArray):Nat->List Token->Int->(List Token) × Int × Int
 | 0,_,_=>([],0,0)
 | m+1,out,i=>bif (decide (i<((QM1 line).length:Int))) then bif ((Qo0 ((QM1 line).getD (Int.toNat i) 0))==1) then QS0 line m out (w64 (i+1)) else bif ((Qe2 (QM1 line) i).2.2.2 != 0) then ([],(Qe2 (QM1 line) i).2.2.1,(Qe2 (QM1 line) i).2.2.2) else QS0 line m (out++([(Qe2 (QM1 line) i).1]:List Token)) ((Qe2 (QM1 line) i).2.1) else (out,((QM1 line).length:Int),0)
def Q51 (line:ByteArray):(List Token) × Int × Int:=bif (decide ((ByteArray.size line:Int) > 400)) then ([],0,3) else QS0 line ((Int.toNat (((QM1 line).length:Int) - 0))+1) [] 0
def QR5 (s:ByteArray):Bool:=bif ((((Qj1 s).2.2 != 0)||((((Qj1 s).1).length:Int)!=1))||(!(((((Qj1 s).1).getD 0 zD).kind==1)&&(((((Qj1 s).1).getD 0 zD).text==s)&&(((((Qj1 s).1).getD 0 zD).num==0)&&((((Qj1 s).1).getD 0 zD).at_==0)))))) then false else true
theorem cmd_word_c (s:ByteArray) (hs0:s.size<=4294967296):GV 267 [Sg s] (Bo (QR5 s)):=by
 generalize hR:QR5 s=R;refine gA (kp 3 []) Tryz.func267 ?_;have hk0:=hs0;obtain z3:s.size<=4294967296:=hs0;refine ACalls.of_cwp (fun _=>true) Tryz.func294 rfl rfl ?_;refine ACalls.of_cwp (fun _=>true) Tryz.func302 rfl rfl ?_;refine ai (fun h=>nomatch h) (fun _=>?_);refine ai (fun h=>nomatch h) (fun _=>?_);refine ⟨_,_,Told.refl,?_⟩;refine us (lex_Tokens_c s szA _) ?_;refine dchk (by kernel_rfl) ?_;refine ai gkA ?_;refine ai (fun _=>(by kernel_rfl:eqOK _ _=true)) ?_;(repeat ((first|refine ai rfl ?_|refine ai (fun _=>rfl) ?_)));refine ai (fun h1=>?_) (fun h2=>?_)
 ·refine ⟨_,_,Told.refl,?_⟩;obtain rfl:=foll hR (ct h1 rfl);exact Qb0 lx sr
 ·refine ⟨_,_,Told.refl,?_⟩;obtain rfl:=foll hR (cf h2 rfl);exact Qb0 lx sr
def QF2 (l:List Node) (nodes:Int) (act:Int) (job:Int) (now:Int):(List Node) × Int × (List Note) × Int:=bif ((act != 1)&&(act != 2)) then ([],0,[],120) else bif ((Q50 l)!=0) then ([],0,[],120) else bif ((decide (nodes<1))||(decide (nodes > 48))) then ([],0,[],2) else bif (!(Q11 (Qa1 l) nodes).2) then ([],0,[],130) else bif ((Ql0 l ((Q11 (Qa1 l) nodes).1) act job now).2.2 != 0) then ([],0,[],(Ql0 l ((Q11 (Qa1 l) nodes).1) act job now).2.2) else ((Ql0 l ((Q11 (Qa1 l) nodes).1) act job now).1,(Q11 (Qa1 l) nodes).1,(Ql0 l ((Q11 (Qa1 l) nodes).1) act job now).2.1,0)
theorem Q3c (l:List Node) (nodes:Int) (act:Int) (job:Int) (now:Int) (hs0:l.length<=4294967296):GV 36 [nodeL l,I nodes,I act,I job,I now] (AVal.tup [nodeL ((QF2 l nodes act job now).1),U ((QF2 l nodes act job now).2.1),noteL ((QF2 l nodes act job now).2.2.1),I ((QF2 l nodes act job now).2.2.2)]):=by
 generalize hR:QF2 l nodes act job now=R;refine gA (kp 19 [19,26,30,45,57]) Tryz.func36 ?_;have hk0:=hs0;obtain z11:l.length<=4294967296:=hs0;refine ai (fun h1=>?_) (fun h2=>?_)
 ·exact lfA
 ·refine us (Qb3 l szA _) ?_;refine ai (fun h3=>?_) (fun h4=>?_)
  ·exact lfA
  ·refine ai (fun h5=>?_) (fun h6=>?_)
   ·exact lfA
   ·refine us (fleet_Free_c l szA _) ?_;refine us (QX9 (Qa1 l) nodes _) ?_;refine ai (fun h7=>?_) (fun h8=>?_)
    ·exact lfA
    ·refine us (Qx1 l ((Q11 (Qa1 l) nodes).1) act job now szA _) ?_;refine ai (fun h9=>?_) (fun h10=>?_)
     ·exact lfA
     ·exact lfA
def Qi6 (s:ByteArray):Bool:=bif (((Q51 s).2.2 != 0)||((((Q51 s).1).length:Int)!=1)) then false else bif ((((((Q51 s).1).getD 0 zD).kind != 1)||(!(ByteArray.toList (((Q51 s).1).getD 0 zD).text==ByteArray.toList s)))||((((Q51 s).1).getD 0 zD).num != 0)) then false else true
def Qn9 (c:Cmd) (i1:Bool):Bool:=bif i1 then (QG2 c.node 0 47) else bif (c.kind==10) then (((QG2 c.from_ 0 1000000)&&c.hasTime)&&(QG2 c.nodes 1 48)) else ((c.kind==12)&&(QG2 c.job 0 99999))
def Q68 (c:Cmd) (i:Bool):Bool:=bif i then (QPd c.job) else bif (c.kind==5) then ((QPd c.job)&&(c.hasPrio||c.hasTime)) else bif (c.kind==6) then ((QPd c.job)&&(QG2 c.nodes 1 48)) else bif (c.kind==7) then Qn9 c (c.kind==7) else bif (c.kind==8) then Qn9 c (c.kind==8) else Qn9 c (c.kind==9)
def Qn8 (c:Cmd):Bool:=bif ((((c.hasPrio&&(!(QG2 c.prio 0 100)))||(c.hasTime&&(!(Qid c.time))))||((!c.hasPrio)&&(c.prio != 0)))||((!c.hasTime)&&(c.time != 0))) then false else bif (c.kind==1) then (((((((Qk5 c.name)&&(Qk5 c.user))&&(Qk5 c.account))&&(QR5 c.user))&&(QR5 c.account))&&(QH7 c.after))&&((Q02 c.shape)==0)) else bif (c.kind==2) then Q68 c (c.kind==2) else bif (c.kind==3) then Q68 c (c.kind==3) else bif (c.kind==4) then Q68 c (c.kind==4) else Q68 c (c.kind==11)
theorem cmd_fits_c (c:Cmd) (hs0:c.sz):GV 234 [Cmd.a c] (Bo (Qn8 c)):=by
 generalize hR:Qn8 c=R;refine gA (kj [1000010,1000018] 3 [40,42,43,79,87,100,110,117]) Tryz.func234 ?_;have hk0:=hs0;obtain ⟨z25,z26,z27,z28,z29⟩:c.name.size<=4294967296∧c.user.size<=4294967296∧c.account.size<=4294967296∧(c.shape.alts.length<=4294967296)∧c.after.length<=4294967296:=hs0;(first|apply u2|apply u3|apply u4|apply us);exact Ql3 c.prio 0 100 _;(first|apply u2|apply u3|apply u4|apply us);exact cmd_length_c c.time _;refine ai (fun h1=>?_) (fun h2=>?_)
 ·exact lfA
 ·refine ai (fun h3=>?_) (fun h4=>?_)
  ·refine us (Qjd c.name szA _) ?_;(first|apply u2|apply u3|apply u4|apply us);exact Qjd c.user szA _;(first|apply u2|apply u3|apply u4|apply us);exact Qjd c.account szA _;(first|apply u2|apply u3|apply u4|apply us);exact cmd_word_c c.user szA _;(first|apply u2|apply u3|apply u4|apply us);exact cmd_word_c c.account szA _;(first|apply u2|apply u3|apply u4|apply us);exact cmd_deps_c c.after szA _;(first|apply u2|apply u3|apply u4|apply us);exact QVc c.shape szA _;exact lfA
  ·refine Qp2 (fun (i:Bool)=>Q68 c i=R) (fun i=>[(1,AVal.ptr 0 0 18 0 0),(2,Bo false),(42,I c.kind),(79,Bo i)]) (fun i=>[(0,AObj.row 234 18 [[I c.kind,I c.job,Sg c.name,Sg c.user,Sg c.account,I c.shape.kind,altL c.shape.alts,I c.shape.min,I c.shape.max,I c.shape.wall,I c.prio,Bo c.hasPrio,I c.time,Bo c.hasTime,depL c.after,I c.node,I c.nodes,I c.from_]])]) ?_ ?_
   ·clear hR;rintro i hR;(try dsimp only at hR);refine ai (fun h5=>?_) (fun h6=>?_)
    ·refine us (QQe c.job _) ?_;exact lfA
    ·refine ai (fun h7=>?_) (fun h8=>?_)
     ·refine us (QQe c.job _) ?_;exact lfA
     ·refine ai (fun h9=>?_) (fun h10=>?_)
      ·refine us (QQe c.job _) ?_;(first|apply u2|apply u3|apply u4|apply us);exact Ql3 c.nodes 1 48 _;exact lfA
      ·refine Qp2 (fun (i1:Bool)=>Qn9 c i1=R) (fun i1=>[(1,AVal.ptr 0 0 18 0 0),(2,Bo false),(42,I c.kind),(110,Bo i1)]) (fun i1=>[(0,AObj.row 234 18 [[I c.kind,I c.job,Sg c.name,Sg c.user,Sg c.account,I c.shape.kind,altL c.shape.alts,I c.shape.min,I c.shape.max,I c.shape.wall,I c.prio,Bo c.hasPrio,I c.time,Bo c.hasTime,depL c.after,I c.node,I c.nodes,I c.from_]])]) ?_ ?_
       ·clear hR;rintro i1 hR;(try dsimp only at hR);refine ai (fun h11=>?_) (fun h12=>?_)
        ·refine us (Ql3 c.node 0 47 _) ?_;exact lfA
        ·refine ai (fun h13=>?_) (fun h14=>?_)
         ·refine us (Ql3 c.from_ 0 1000000 _) ?_;(first|apply u2|apply u3|apply u4|apply us);exact Ql3 c.nodes 1 48 _;exact lfA
         ·(first|apply u2|apply u3|apply u4|apply us);exact Ql3 c.job 0 99999 _;exact lfA
       ·refine ai (fun h15=>?_) (fun h16=>?_)
        ·exact Qt0 (c.kind==7) (wkA [0]) (foll hR (cf h6 (cf h8 (cf h10 (ct h15 rfl)))))
        ·refine ai (fun h17=>?_) (fun h18=>?_)
         ·exact Qt0 (c.kind==8) (wkA [0]) (foll hR (cf h6 (cf h8 (cf h10 (cf h16 (ct h17 rfl))))))
         ·exact Qt0 (c.kind==9) (wkA [0]) (foll hR (cf h6 (cf h8 (cf h10 (cf h16 (cf h18 rfl))))))
   ·refine ai (fun h19=>?_) (fun h20=>?_)
    ·exact Qt0 (c.kind==2) (wkA [0]) (foll hR (cf h2 (cf h4 (ct h19 rfl))))
    ·refine ai (fun h21=>?_) (fun h22=>?_)
     ·exact Qt0 (c.kind==3) (wkA [0]) (foll hR (cf h2 (cf h4 (cf h20 (ct h21 rfl)))))
     ·refine ai (fun h23=>?_) (fun h24=>?_)
      ·exact Qt0 (c.kind==4) (wkA [0]) (foll hR (cf h2 (cf h4 (cf h20 (cf h22 (ct h23 rfl))))))
      ·exact Qt0 (c.kind==11) (wkA [0]) (foll hR (cf h2 (cf h4 (cf h20 (cf h22 (cf h24 rfl))))))
def QJ8 (ok2:Bool):Int:=bif (!ok2) then 80 else 0
def QI8 (c:Cmd) (ok1:Bool):Int:=bif c.hasTime then QJ8 (ok1&&(Qr2 c.time 1 100000)) else QJ8 (ok1&&(c.time==0))
def QQ2 (c:Cmd) (ok:Bool):Int:=bif c.hasPrio then QI8 c (ok&&(Qr2 c.prio 0 100)) else QI8 c (ok&&(c.prio==0))
def QH8 (c:Cmd) (i1:Bool):Int:=bif i1 then QQ2 c ((Qj6 c true true true true false true true)&&(Qr2 c.node 0 47)) else bif (c.kind==10) then QQ2 c ((((Qj6 c true true true false true false false)&&(Qr2 c.from_ 0 1000000))&&c.hasTime)&&(Qr2 c.nodes 1 48)) else QQ2 c false
def Q77 (c:Cmd) (i:Bool):Int:=bif i then QQ2 c ((Qj6 c false true true true true true true)&&(Qr2 c.job 1 99999)) else bif (c.kind==12) then QQ2 c ((Qj6 c false true true true true true true)&&(Qr2 c.job 0 99999)) else bif (c.kind==5) then QQ2 c (((Qj6 c false true false false true true true)&&(Qr2 c.job 1 99999))&&(c.hasPrio||c.hasTime)) else bif (c.kind==6) then QQ2 c (((Qj6 c false true true true true false true)&&(Qr2 c.job 1 99999))&&(Qr2 c.nodes 1 48)) else bif (c.kind==7) then QH8 c (c.kind==7) else bif (c.kind==8) then QH8 c (c.kind==8) else QH8 c (c.kind==9)
def Q16 (c:Cmd):Int:=bif (c.kind==1) then QQ2 c ((((((((Qj6 c true false false true true true true)&&(Qh6 c.name))&&(Qh6 c.user))&&(Qh6 c.account))&&(Qi6 c.user))&&(Qi6 c.account))&&(QC9 c.after))&&((QC1 c.shape)==0)) else bif (c.kind==2) then Q77 c (c.kind==2) else bif (c.kind==3) then Q77 c (c.kind==3) else bif (c.kind==4) then Q77 c (c.kind==4) else Q77 c (c.kind==11)
def Qc4 (c:Cmd):Int:=bif ((((decide ((c.shape.alts.length:Int) > 6))||(decide ((c.after.length:Int) > 4)))||(!(Qn8 c)))||(!(QJa c (QG7 c)))) then 80 else 0
theorem b9a0 {P:Prop} (h:P:=by first|(exact cmd_bare_sz _ (by assumption))|exact szA):P:=h
theorem Qhf (c:Cmd) (hs0:c.sz):GV 192 [Cmd.a c] (I (Qc4 c)):=by
 generalize hR:Qc4 c=R;refine gA (kp 3 [25]) Tryz.func192 ?_;have hk0:=hs0;obtain ⟨z3,z4,z5,z6,z7⟩:c.name.size<=4294967296∧c.user.size<=4294967296∧c.account.size<=4294967296∧(c.shape.alts.length<=4294967296)∧c.after.length<=4294967296:=hs0;refine dchk (by kernel_rfl) ?_;(first|apply u2|apply u3|apply u4|apply us);exact cmd_fits_c c b9a0 _;(first|apply u2|apply u3|apply u4|apply us);exact cmd_bare_c c b9a0 _;(first|apply u2|apply u3|apply u4|apply us);exact cmd_Same_c c (QG7 c) b9a0 b9a0 _;(repeat ((first|refine ai rfl ?_|refine ai (fun _=>rfl) ?_|refine ai (fun _=>cmd_fits_c c b9a0 _) ?_|refine ai (fun _=>cmd_bare_c c b9a0 _) ?_|refine ai (fun _=>cmd_Same_c c (QG7 c) b9a0 b9a0 _) ?_)));refine ai (fun h1=>?_) (fun h2=>?_)
 ·exact lfA
 ·exact lfA
def Q44 (j:Job):List Dep->Nat->Int
 | [],_=>bif (!(QT1 j)) then 140 else 0
 | x_ :: r,i=>bif (decide (x_.job >= j.id)) then 140 else Q44 j r (i+1)
def QZ1 (j:Job):Int:=bif (((((((Q16 (⟨1,0,j.name,j.user,j.account,j.shape,j.prio,true,0,false,j.after,0,0,0⟩:Cmd))!=0)||(decide (j.id<1)))||(decide (j.id > 99999)))||(!(QA1 j.born)))||(decide (j.used<0)))||(decide (j.used > 1000000000000))) then 140 else Q44 j j.after 0
theorem QT6 {j:Job} (h:((QZ1 j)!=0)=false):QT1 j=true:=by
 have g1:∀ (l:List Dep) (i:Nat),Q44 j l i=0->QT1 j=true:=by
  intro l
  induction l with
  | nil =>
   intro i hi;rw [Q44] at hi;cases hs:QT1 j with
   | true=>rfl
   | false=>rw [hs] at hi;cases hi
  | cons x r ih =>
   intro i hi;rw [Q44] at hi;cases hx:decide (x.job >= j.id) with
   | true=>rw [hx] at hi;cases hi
   | false=>rw [hx] at hi;exact ih _ hi
 simp only [QZ1] at h;revert h;cases (((((((Q16 (⟨1,0,j.name,j.user,j.account,j.shape,j.prio,true,0,false,j.after,0,0,0⟩:Cmd))!=0)||(decide (j.id<1)))||(decide (j.id > 99999)))||(!(QA1 j.born)))||(decide (j.used<0)))||(decide (j.used > 1000000000000))) with
 | true=>simp
 | false =>
  intro h;exact g1 _ _ (by simpa using h)
theorem Qde {j:Job} (h:QT1 j=true):((j.state != 1)||(j.promise==(-1)))=false->0<=j.choice∧j.choice<((Qh0 j.shape).length:Int):=by
 intro hq;rw [yZa] at hq;have h1:(j.state==1)=true:=by simpa using hq.1
 rw [QT1,h1,hq.2] at h;simp only [cond_true,cond_false] at h;revert h;cases (((j.start != 0)||(j.limit != 0))||(j.nodes != 0)) with
 | true=>intro h;cases h
 | false =>
  intro h;simp only [cond_false,yca,yda] at h;have hw:=h.1.2;unfold QK2 at hw;cases hc:((decide (j.choice<0))||(decide (j.choice >= ((Qh0 j.shape).length:Int)))) with
  | true=>rw [hc] at hw;simp at hw
  | false=>simp at hc;omega
def Q61 (j:Job):Int:=bif ((((((decide (j.id<1))||(decide (j.id > 99999)))||(!(Qj2 j.born)))||(j.used != (Ql4 j.used)))||((Qc4 (Qk0 j))!=0))||(Qp0 j.after (fun (y:Dep)=>(decide (y.job >= j.id))))) then 140 else bif (j.state==1) then bif (!(Qo2 j)) then 140 else 0 else bif (j.state==2) then bif (!(Ql1 j)) then 140 else 0 else bif (!(Qc8 j.state)) then 140 else bif (!(Qv4 j)) then 140 else 0
theorem Qb8 (j:Job) (hs0:j.sz):GV 130 [Job.a j] (I (Q61 j)):=by
 generalize hR:Q61 j=R;refine gA (kp 6 [42,45,51,57,64]) Tryz.func130 ?_;obtain ⟨z19,z20,z21,z22,z23⟩:=Job.zz hs0;refine dchk (by kernel_rfl) ?_;(first|apply u2|apply u3|apply u4|apply us);exact Qd6 j.born _;(first|apply u2|apply u3|apply u4|apply us);exact QK9 j.used _;(first|apply u2|apply u3|apply u4|apply us);exact Qi7 j _;(first|apply u2|apply u3|apply u4|apply us);exact Qhf (Qk0 j) szA _;have cl1:∀ (y1:Dep),AMoves Tryz.prog 190 [Dep.a y1,AVal.ptr 0 0 20 0 0] [(0,AObj.row 72 20 [[I j.id,Sg j.name,Sg j.user,Sg j.account,I j.shape.kind,altL j.shape.alts,I j.shape.min,I j.shape.max,I j.shape.wall,I j.prio,depL j.after,I j.state,Bo j.held,I j.born,I j.promise,I j.choice,I j.start,I j.limit,U j.nodes,I j.used]])] 1 (Bo ((fun (y:Dep)=>(decide (y.job >= j.id))) y1)) [(0,AObj.row 72 20 [[I j.id,Sg j.name,Sg j.user,Sg j.account,I j.shape.kind,altL j.shape.alts,I j.shape.min,I j.shape.max,I j.shape.wall,I j.prio,depL j.after,I j.state,Bo j.held,I j.born,I j.promise,I j.choice,I j.start,I j.limit,U j.nodes,I j.used]])]:=by
  intro y1;have hR:(fun (y:Dep)=>(decide (y.job >= j.id))) y1=(fun (y:Dep)=>(decide (y.job >= j.id))) y1:=rfl;refine mo (kp 4 []) Tryz.func190 ?_;refine Qi0 (fun r:Bool=>Bo r) (fun _=>[(0,AObj.row 72 20 [[I j.id,Sg j.name,Sg j.user,Sg j.account,I j.shape.kind,altL j.shape.alts,I j.shape.min,I j.shape.max,I j.shape.wall,I j.prio,depL j.after,I j.state,Bo j.held,I j.born,I j.promise,I j.choice,I j.start,I j.limit,U j.nodes,I j.used]])]) (leaf:=(decide (y1.job >= j.id))) (foll hR rfl) ?_;exact tt [0] (tO rfl (ts Job.lo) .nil) t1
 have hof1:AMoves Tryz.prog 194 [depL j.after,AVal.fn (.func 190) [] [AVal.ptr 0 0 20 0 0]] [(0,AObj.row 72 20 [[I j.id,Sg j.name,Sg j.user,Sg j.account,I j.shape.kind,altL j.shape.alts,I j.shape.min,I j.shape.max,I j.shape.wall,I j.prio,depL j.after,I j.state,Bo j.held,I j.born,I j.promise,I j.choice,I j.start,I j.limit,U j.nodes,I j.used]])] 1 (Bo (Qp0 j.after (fun (y:Dep)=>(decide (y.job >= j.id))))) [(0,AObj.row 72 20 [[I j.id,Sg j.name,Sg j.user,Sg j.account,I j.shape.kind,altL j.shape.alts,I j.shape.min,I j.shape.max,I j.shape.wall,I j.prio,depL j.after,I j.state,Bo j.held,I j.born,I j.promise,I j.choice,I j.start,I j.limit,U j.nodes,I j.used]])]:=by
  have hR:Qp0 j.after (fun (y:Dep)=>(decide (y.job >= j.id)))=Qp0 j.after (fun (y:Dep)=>(decide (y.job >= j.id))):=rfl;refine mo (kp 5 []) Tryz.func194 ?_;have hof2:AMoves Tryz.prog 237 [depL j.after,AVal.fn (.func 190) [] [AVal.ptr 0 0 20 0 0]] [(0,AObj.row 72 20 [[I j.id,Sg j.name,Sg j.user,Sg j.account,I j.shape.kind,altL j.shape.alts,I j.shape.min,I j.shape.max,I j.shape.wall,I j.prio,depL j.after,I j.state,Bo j.held,I j.born,I j.promise,I j.choice,I j.start,I j.limit,U j.nodes,I j.used]])] 1 (I (Q91 j.after (fun (y:Dep)=>(decide (y.job >= j.id))))) [(0,AObj.row 72 20 [[I j.id,Sg j.name,Sg j.user,Sg j.account,I j.shape.kind,altL j.shape.alts,I j.shape.min,I j.shape.max,I j.shape.wall,I j.prio,depL j.after,I j.state,Bo j.held,I j.born,I j.promise,I j.choice,I j.start,I j.limit,U j.nodes,I j.used]])]:=by
   have hR:Q91 j.after (fun (y:Dep)=>(decide (y.job >= j.id)))=Q91 j.after (fun (y:Dep)=>(decide (y.job >= j.id))):=rfl;refine mo (kp 6 [7,8,9,16]) Tryz.func237 ?_;refine Qx0 (fun (i:Nat)=>Qh3 (fun (y:Dep)=>(decide (y.job >= j.id))) (List.drop i j.after) i=Q91 j.after (fun (y:Dep)=>(decide (y.job >= j.id)))∧i<=j.after.length) (fun i=>j.after.length - i) (fun i=>[(0,depL j.after),(1,AVal.fn (.func 190) [] [AVal.ptr 0 0 20 0 0]),(4,I 0),(7,I (j.after.length:Int)),(8,I (i:Int))]) (fun i=>[(0,AObj.row 72 20 [[I j.id,Sg j.name,Sg j.user,Sg j.account,I j.shape.kind,altL j.shape.alts,I j.shape.min,I j.shape.max,I j.shape.wall,I j.prio,depL j.after,I j.state,Bo j.held,I j.born,I j.promise,I j.choice,I j.start,I j.limit,U j.nodes,I j.used]])]) 0 (wkA [0]) ⟨foll hR rfl,by exact omA⟩ ?_;clear hR;rintro i ⟨hR,hj⟩;(try dsimp only at hR hj);refine ai (fun h1=>?_) (fun h2=>?_)
   ·have hlt:=ltA h1;rw [Qq0 zC hlt] at hR;refine ai gkA ?_;refine us (mv [0] (cl1 (j.after.getD i zC)) (dO (ds Job.lo) .nil) (dl (Dep.low _ _) (dp .nil)) (rO (re Job.lo) .nil) rx) ?_;refine ai (fun h3=>?_) (fun h4=>?_)
    ·refine Qi0 (fun r:Int=>I r) (fun r:Int=>[(0,AObj.row 72 20 [[I j.id,Sg j.name,Sg j.user,Sg j.account,I j.shape.kind,altL j.shape.alts,I j.shape.min,I j.shape.max,I j.shape.wall,I j.prio,depL j.after,I j.state,Bo j.held,I j.born,I j.promise,I j.choice,I j.start,I j.limit,U j.nodes,I j.used]])]) (leaf:=(i:Int)) (foll hR (ct h3 rfl)) ?_;exact tt [0] (tO rfl (ts Job.lo) .nil) t1
    ·exact QD0 (i+1) (wkA [0]) omA ⟨folA,by exact omA⟩
   ·rw [Qv0 (l:=j.after) (j:=i) (geA h2)] at hR;refine Qi0 (fun r:Int=>I r) (fun r:Int=>[(0,AObj.row 72 20 [[I j.id,Sg j.name,Sg j.user,Sg j.account,I j.shape.kind,altL j.shape.alts,I j.shape.min,I j.shape.max,I j.shape.wall,I j.prio,depL j.after,I j.state,Bo j.held,I j.born,I j.promise,I j.choice,I j.start,I j.limit,U j.nodes,I j.used]])]) (leaf:=(-1)) (foll hR rfl) ?_;exact tt [0] (tO rfl (ts Job.lo) .nil) t1
  refine us (mv [0] (hof2) (dO (ds Job.lo) .nil) (dl lw (dv (dn_fn .nil (dp .nil)) .nil)) (rO (re Job.lo) .nil) rx) ?_;refine Qi0 (fun r:Bool=>Bo r) (fun r:Bool=>[(0,AObj.row 72 20 [[I j.id,Sg j.name,Sg j.user,Sg j.account,I j.shape.kind,altL j.shape.alts,I j.shape.min,I j.shape.max,I j.shape.wall,I j.prio,depL j.after,I j.state,Bo j.held,I j.born,I j.promise,I j.choice,I j.start,I j.limit,U j.nodes,I j.used]])]) (leaf:=(decide ((Q91 j.after (fun (y:Dep)=>(decide (y.job >= j.id)))) >= 0))) (foll hR rfl) ?_;exact tt [0] (tO rfl (ts Job.lo) .nil) t1
 (first|apply u2|apply u3|apply u4|apply us);exact mv [0] (hof1) (dO (ds Job.lo) .nil) (dl lw (dv (dn_fn .nil (dp .nil)) .nil)) (rO (re Job.lo) .nil) rx;(repeat ((first|refine ai rfl ?_|refine ai (fun _=>rfl) ?_|refine ai (fun _=>Qd6 j.born _) ?_|refine ai (fun _=>QK9 j.used _) ?_|refine ai (fun _=>Qi7 j _) ?_|refine ai (fun _=>Qhf (Qk0 j) szA _) ?_)));refine ai (fun h5=>?_) (fun h6=>?_)
 ·exact lfA
 ·refine ai (fun h7=>?_) (fun h8=>?_)
  ·refine us (Qod j szA _) ?_;refine ai (fun h9=>?_) (fun h10=>?_)
   ·exact lfA
   ·exact lfA
  ·refine ai (fun h11=>?_) (fun h12=>?_)
   ·refine us (Qpc j szA _) ?_;refine ai (fun h13=>?_) (fun h14=>?_)
    ·exact lfA
    ·exact lfA
   ·refine us (job_ended_c j.state _) ?_;refine ai (fun h15=>?_) (fun h16=>?_)
    ·exact lfA
    ·refine us (QBf j _) ?_;refine ai (fun h17=>?_) (fun h18=>?_)
     ·exact lfA
     ·exact lfA
theorem Qte {j:Job} (h:((((Q61 j)!=0)||(j.state != 1))||(decide (j.promise<0)))=false):0<=j.choice∧j.choice<((Qc1 j.shape).length:Int):=by
 simp only [yZa,bne_eq_false_iff_eq,yCa] at h;obtain ⟨⟨h1,h2⟩,h3⟩:=h;have hq:Qo2 j=true:=by
  unfold Q61 at h1;revert h1;rw [show (j.state==1)=true by simpa using h2];cases ((((((decide (j.id<1))||(decide (j.id > 99999)))||(!(Qj2 j.born)))||(j.used != (Ql4 j.used)))||((Qc4 (Qk0 j))!=0))||(Qp0 j.after (fun (y:Dep)=>(decide (y.job >= j.id))))) with
  | true=>simp
  | false =>
   cases Qo2 j with
   | true=>simp
   | false=>simp
 unfold Qo2 at hq;simp only [yca,y3a] at hq;rcases hq.2 with hp|hp
 ·have:=hp.1;simp at this;omega
 ·have ho:=hp.1.2;unfold QK0 at ho;cases hc:((decide (j.choice<0))||(decide (j.choice >= ((Qc1 j.shape).length:Int)))) with
  | true=>rw [hc] at ho;cases ho
  | false=>simp at hc;omega
def Q97 :List Job->Int->Nat->Int
 | [],_,_=>0
 | x_ :: r,last,i=>bif ((((i:Int)==40)||((QZ1 x_)!=0))||(decide (x_.id<=last))) then 140 else Q97 r x_.id (i+1)
def QU6 (l:List Job):Int:=Q97 l 0 0
def QV4 (l:List Job):List Job->Nat->Int
 | [],_=>0
 | x_ :: r,i=>bif (((Q61 x_)!=0)||((decide ((i:Int) > 0))&&(decide ((l.getD (Int.toNat (w64 ((i:Int) - 1))) zG).id >= x_.id)))) then 140 else QV4 l r (i+1)
def Qr1 (l:List Job):Int:=bif (decide ((l.length:Int) > 40)) then 140 else QV4 l l 0
theorem QP9 (l:List Job) (hs0:l.length<=4294967296∧(∀ y ∈ l,y.sz)):GV 125 [jobL l] (I (Qr1 l)):=by
 generalize hR:Qr1 l=R;refine gA (kp 5 [7,8,9,10,11,32]) Tryz.func125 ?_;obtain ⟨z12,z13⟩:=id hs0;refine ai (fun h1=>?_) (fun h2=>?_)
 ·have qh1:=yfa h1;exact lfA
 ·have qh2:=yea h2;refine Qx0 (fun (i:Nat)=>QV4 l (List.drop i l) i=R∧i<=l.length) (fun i=>l.length - i) (fun i=>[(0,jobL l),(2,I 0),(8,jobL l),(9,I (l.length:Int)),(10,I (i:Int))]) (fun i=>[]) 0 (wkA []) ⟨folA,by exact omA⟩ ?_;clear hR;rintro i ⟨hR,hj⟩;(try dsimp only at hR hj);refine ai (fun h3=>?_) (fun h4=>?_)
  ·have hlt:=ltA h3;rw [Qq0 zG hlt] at hR;have hxz:(l.getD i zG).sz:=Qu4 (by first|assumption|grind) (Job.szz _);have hkz:=hxz;obtain ⟨z5,z6,z7,z8,z9⟩:=Job.zz hxz;refine ai gkA ?_;refine dchk (by kernel_rfl) ?_;(first|apply u2|apply u3|apply u4|apply us);exact Qb8 (l.getD i zG) szA _;refine ai gkA ?_;(repeat ((first|refine ai rfl ?_|refine ai (fun _=>rfl) ?_|refine ai (fun _=>Qb8 (l.getD i zG) szA _) ?_)));refine ai (fun h10=>?_) (fun h11=>?_)
   ·exact lfA
   ·exact QD0 (i+1) (wkA []) omA ⟨folA,by exact omA⟩
  ·rw [Qv0 (l:=l) (j:=i) (geA h4)] at hR;exact lfA
def Q20 (j:Job):Int × Int × Int × Bool:=bif ((((Q61 j)!=0)||(j.state != 1))||(decide (j.promise<0))) then (0,0,0,false) else (j.promise,(w64 (((Qc1 j.shape).getD (Int.toNat j.choice) zA).wall+12)),((Qc1 j.shape).getD (Int.toNat j.choice) zA).nodes,true)
theorem Qfe (j:Job) (hs0:j.sz):GV 82 [Job.a j] (AVal.tup [I ((Q20 j).1),I ((Q20 j).2.1),I ((Q20 j).2.2.1),Bo ((Q20 j).2.2.2)]):=by
 generalize hR:Q20 j=R;refine gA (kp 7 [19]) Tryz.func82 ?_;obtain ⟨z3,z4,z5,z6,z7⟩:=Job.zz hs0;refine us (Qb8 j szA _) ?_;refine ai (fun h1=>?_) (fun h2=>?_)
 ·exact lfA
 ·refine dchk (by kernel_rfl) ?_;(first|apply u2|apply u3|apply u4|apply us);exact QD6 j.shape szA _;refine And.intro (by first|exact fun hg=>yha (by first|((have q:=Qte (by assumption);omega))|exact ckA)|exact gkA) ?_;(repeat ((first|refine ai rfl ?_|refine ai (fun _=>rfl) ?_|refine ai (fun _=>QD6 j.shape szA _) ?_)));(try (refine dchk (by kernel_rfl) ?_));(repeat ((first|refine ai rfl ?_|refine ai (fun _=>rfl) ?_)));exact lfA
def QO2 (j:Job) (set_:Int):Job × Int:=bif ((Q61 j)!=0) then (zG,(Q61 j)) else bif ((j.state==2)&&((!(Qr6 set_))||(!(QU2 j.shape j.choice (Q10 set_))))) then (zG,152) else bif ((Qqc (j.state==2))!=0) then (zG,(Qqc (j.state==2))) else ({ j with nodes:=set_ },0)
theorem QRa (j:Job) (set_:Int) (hs0:j.sz):GV 176 [Job.a j,U set_] (AVal.tup [Job.a ((QO2 j set_).1),I ((QO2 j set_).2)]):=by
 generalize hR:QO2 j set_=R;refine gA (kp 7 []) Tryz.func176 ?_;obtain ⟨z7,z8,z9,z10,z11⟩:=Job.zz hs0;refine ACalls.of_cwp (fun _=>true) Tryz.func228 rfl rfl ?_;refine us (Qb8 j szA _) ?_;refine ai (fun h1=>?_) (fun h2=>?_)
 ·refine ⟨_,_,Told.refl,?_⟩;exact lfA
 ·refine ACalls.of_cwp (fun _=>true) Tryz.func224 rfl rfl ?_;refine dchk (by kernel_rfl) ?_;(first|apply u2|apply u3|apply u4|apply us);exact Qx9 set_ _;(first|apply u2|apply u3|apply u4|apply us);exact Q71 set_ _;(first|apply u2|apply u3|apply u4|apply us);exact Qc7 j.shape j.choice (Q10 set_) szA _;(repeat ((first|refine ai rfl ?_|refine ai (fun _=>rfl) ?_|refine ai (fun _=>Qx9 set_ _) ?_|refine ai (fun _=>Q71 set_ _) ?_|refine ai (fun _=>Qc7 j.shape j.choice (Q10 set_) szA _) ?_)));refine ai (fun h3=>?_) (fun h4=>?_)
  ·refine ⟨_,_,Told.refl,?_⟩;refine ai (fun _=>?_) (fun h=>nomatch h);refine ⟨_,_,Told.refl,?_⟩;exact lfA
  ·refine us (job_when_c (j.state==2) _) ?_;refine ⟨_,_,Told.refl,?_⟩;refine ai (fun h5=>?_) (fun h6=>?_)
   ·refine ⟨_,_,Told.refl,?_⟩;exact lfA
   ·refine us (job_copied_c j szA _) ?_;refine ACalls.of_cwp (fun _=>true) Tryz.func229 rfl rfl ?_;refine ⟨_,_,Told.refl,?_⟩;refine ⟨_,_,Told.refl,?_⟩;exact lfA
def Q36 (s:State):Int:=bif ((((!(QA1 s.now))||((Q34 s.nodes)!=0))||((QU6 s.jobs)!=0))||((Qg8 s.books)!=0)) then 141 else 0
theorem QAe {s:State} (h:((Q36 s)!=0)=false):((QU6 s.jobs)!=0)=false:=by
 simp only [Q36] at h;revert h;cases ((QU6 s.jobs)!=0) with
 | true=>simp
 | false=>intro _;rfl
def Qb1 (s:State):Int:=bif (((((decide (s.now<0))||(decide (s.now > 1000000)))||((Q50 s.nodes)!=0))||((Qr1 s.jobs)!=0))||((QI4 s.books)!=0)) then 141 else 0
theorem Qee (s:State) (hs0:s.sz):GV 121 [State.a s] (I (Qb1 s)):=by
 generalize hR:Qb1 s=R;refine gA (kp 3 [28]) Tryz.func121 ?_;have hk0:=hs0;obtain ⟨z3,z4,z5,z6,z7,z8,z9⟩:=hs0;(first|apply u2|apply u3|apply u4|apply us);exact Qb3 s.nodes szA _;(first|apply u2|apply u3|apply u4|apply us);exact QP9 s.jobs szA _;(first|apply u2|apply u3|apply u4|apply us);exact book_Check_c s.books szA _;refine ai (fun h1=>?_) (fun h2=>?_)
 ·exact lfA
 ·exact lfA
theorem QU5 {s:State} (h:((Qb1 s)!=0)=false):1<=s.nodes.length∧s.nodes.length<=48:=by
 have hf:Q50 s.nodes=0:=by
  simp only [Qb1] at h;revert h;cases h2:(Q50 s.nodes != 0) with
  | true=>simp
  | false=>intro _;simpa using h2
 simp only [Q50] at hf;revert hf;cases h2:((decide ((s.nodes.length:Int)<1))||(decide ((s.nodes.length:Int) > 48))) with
 | true=>simp
 | false=>intro _;simp at h2;omega
theorem busy_ne {order:List Int} {i:Nat} {c:List (Int × Int)} {k:Int} (h:order ≠ []∨(i=0∧c=[])) (hg:(((getM k c).getD 0)==0)=false):order ≠ []:=by
 rcases h with h|⟨_,rfl⟩
 ·exact h
 ·simp [getM] at hg
theorem busy_order {s:State} {order:List Int} {i:Nat} {c:List (Int × Int)} (h:((Qb1 s)!=0)=false) (ho:order ≠ []∨(i=0∧c=[])) (hi:decide ((i:Int)<(s.nodes.length:Int))=false):order ≠ []:=by
 rcases ho with ho|⟨rfl,_⟩
 ·exact ho
 ·have:=(QU5 h).1;have:=yea hi;omega
def QJ0 (l:List Job) (id_:Int):Job × Bool:=bif (((Qr1 l)!=0)||(!(Qh5 id_))) then (zG,false) else bif (!(Qd0 l id_).2) then (zG,false) else (((List.drop (Int.toNat ((Qd0 l id_).1)) (List.take (Int.toNat (w64 ((Qd0 l id_).1+1))) l)).getD 0 zG),true)
theorem QFa (l:List Job) (id_:Int) (hs0:l.length<=4294967296∧(∀ y ∈ l,y.sz)):GV 78 [jobL l,I id_] (AVal.tup [Job.a ((QJ0 l id_).1),Bo ((QJ0 l id_).2)]):=by
 generalize hR:QJ0 l id_=R;refine gA (kp 8 [15,24]) Tryz.func78 ?_;obtain ⟨z5,z6⟩:=id hs0;refine us (QP9 l szA _) ?_;(first|apply u2|apply u3|apply u4|apply us);exact table_known_c id_ _;refine ai (fun h1=>?_) (fun h2=>?_)
 ·exact lfA
 ·refine us (Q5d l id_ szA _) ?_;refine ai (fun h3=>?_) (fun h4=>?_)
  ·exact lfA
  ·refine And.intro (by first|exact fun hg=>yha (by first|(have hp:=Q94 l id_ hs0.1 (by assumption);have pw:IntKind.i64.wrap ((Qd0 l id_).1+1)=(Qd0 l id_).1+1:=wr (by omega);simp only [yFa,pw,yva,yra];omega)|exact ckA)|exact gkA) ?_;refine us (mv [] (Q6d (List.drop (Int.toNat ((Qd0 l id_).1)) (List.take (Int.toNat (w64 ((Qd0 l id_).1+1))) l)) szA) .nil (dv (dn_as (as_cut l (Int.toNat ((Qd0 l id_).1)) (Int.toNat (w64 ((Qd0 l id_).1+1))) leA (by first|(have hp:=Q94 l id_ hs0.1 (by assumption);have pw:IntKind.i64.wrap ((Qd0 l id_).1+1)=(Qd0 l id_).1+1:=wr (by omega);simp only [yFa,pw,yva,yra];omega)|exact ckA)) lw) .nil) (rO rr .nil) (rw_ 1 0 rfl)) ?_;refine And.intro (by first|exact fun hg=>yha (by first|(have hp:=Q94 l id_ hs0.1 (by assumption);have pw:IntKind.i64.wrap ((Qd0 l id_).1+1)=(Qd0 l id_).1+1:=wr (by omega);simp only [yFa,pw,yva,yra];omega)|exact ckA)|exact gkA) ?_;refine ⟨_,QT0 rfl rfl rfl (Qh1 zG 0 (by first|rfl|exact yna _|omega) (by first|(have hp:=Q94 l id_ hs0.1 (by assumption);have pw:IntKind.i64.wrap ((Qd0 l id_).1+1)=(Qd0 l id_).1+1:=wr (by omega);simp only [yFa,pw,yva,yra];omega)|exact ckA)) rfl,?_⟩;exact lfA
def QGa (out:List Job):(List Job) × Int:=(out,0)
def Qg5 (l:List Job) (j:Job):(List Job) × Int:=bif ((Qr1 l)!=0) then ([],(Qr1 l)) else bif ((Q61 j)!=0) then ([],(Q61 j)) else bif (!(Qd0 l j.id).2) then ([],140) else QGa (l.set (Int.toNat ((Qd0 l j.id).1)) j)
theorem b12a0 {P:Prop} (h:P:=by first|((exact hx))|first|((exact hy))|first|((assumption))|exact szA):P:=h
theorem QR9 (l:List Job) (j:Job) (hs0:l.length<=4294967296∧(∀ y ∈ l,y.sz)) (hs1:j.sz):GV 177 [jobL l,Job.a j] (AVal.tup [jobL ((Qg5 l j).1),I ((Qg5 l j).2)]):=by
 generalize hR:Qg5 l j=R;refine gA (kj [1000012] 11 [14,19,29]) Tryz.func177 ?_;obtain ⟨z7,z8⟩:=id hs0;obtain ⟨z9,z10,z11,z12,z13⟩:=Job.zz hs1;refine us (QP9 l b12a0 _) ?_;refine ai (fun h1=>?_) (fun h2=>?_)
 ·exact lfA
 ·refine us (Qb8 j b12a0 _) ?_;refine ai (fun h3=>?_) (fun h4=>?_)
  ·exact lfA
  ·refine us (Q5d l j.id b12a0 _) ?_;refine ai (fun h5=>?_) (fun h6=>?_)
   ·exact lfA
   ·refine us (mv [] (QA8 l b12a0) .nil (dl lw .nil) (rO rr .nil) (rw_ 1 0 rfl)) ?_;refine Qp2 (fun (out:List Job)=>QGa out=R∧(out.length<=4294967296∧(∀ y ∈ out,y.sz))) (fun out=>[(4,AVal.lit (.slice none 0 0)),(5,I 0),(10,jobL out)]) (fun out=>[]) ?_ ?_
    ·clear hR;rintro out ⟨hR,hx⟩;(try dsimp only at hR hx);refine us (mv [] (Q6d out b12a0) .nil (dl lw .nil) (rO rr .nil) (rw_ 0 0 rfl)) ?_;obtain rfl:=foll hR rfl;exact Qb0 (Low.tup' (.cons lw (l1 .nil))) (Seen.tup (ev (Qa0 zG _ rfl eqA lnA) (e1 .nil)))
    ·refine And.intro (by first|exact fun hg=>yha (by first|((have hq:=Q94 l j.id z7 (by assumption);omega))|exact ckA)|exact gkA) ?_;refine ⟨_,Qm3 rfl rfl rfl rfl (Qh1 zG (Int.toNat ((Qd0 l j.id).1)) (by first|rfl|exact yna _|omega) (by first|((have hq:=Q94 l j.id z7 (by assumption);omega))|exact ckA)) rfl rfl (set_map (Int.toNat ((Qd0 l j.id).1)) j (by first|rfl|exact yna _|omega) rfl),?_⟩;exact Qt0 (l.set (Int.toNat ((Qd0 l j.id).1)) j) (wk [] .nil (s1 (s1 (sv (Q38 _ _ rfl (yBa _) (by decide) eqA (fun _=>Job.lowc _ _) lnA) .nil)))) (⟨folA,by first|((exact ⟨by rw [List.length_set];exact z7,fun y hy=>(y2b hy).elim (z8 y) (fun e=>e ▸ hs1)⟩))|exact exA⟩)
def Qh8 (s:State):Int:=bif (((Q36 s)!=0)||((QOb s.ledger)!=0)) then 141 else 0
def QBd (s:State) (except:List Int):(List Step):=bif ((Q36 s)!=0) then [] else (QY7 s except)
def Qy1 (s:State):Int:=bif (((Qb1 s)!=0)||((Qo4 s.ledger)!=0)) then 141 else 0
theorem Q3e (s:State) (hs0:s.sz):GV 72 [State.a s] (I (Qy1 s)):=by
 generalize hR:Qy1 s=R;refine gA (kp 3 [11]) Tryz.func72 ?_;have hk0:=hs0;obtain ⟨z3,z4,z5,z6,z7,z8,z9⟩:=hs0;refine us (Qee s szA _) ?_;(first|apply u2|apply u3|apply u4|apply us);exact ledger_Check_c s.ledger szA _;refine ai (fun h1=>?_) (fun h2=>?_)
 ·exact lfA
 ·exact lfA
theorem setM_sz (k:Int) (v:Job):∀ (l:List (Int × Job)),(∀ y ∈ l,y.2.sz)->v.sz -> ∀ y ∈ setM k v l,y.2.sz
 | [],_,hv,y,hy=>by
  rw [setM,yCc] at hy;subst hy;exact hv
 | p :: r,h,hv,y,hy=>by
  rw [setM] at hy;cases hk:(k==p.1) with
  | true =>
   rw [hk] at hy;rcases List.mem_cons.1 hy with rfl|hy
   ·exact hv
   ·exact h y (yga _ hy)
  | false =>
   rw [hk] at hy;rcases List.mem_cons.1 hy with rfl|hy
   ·exact h _ (yma ..)
   ·exact setM_sz k v r (fun z hz=>h z (yga _ hz)) hv y hy
theorem getM_sz (k:Int):∀ (l:List (Int × Job)),(∀ y ∈ l,y.2.sz)->((getM k l).getD zG).sz
 | [],_=>Job.szz _
 | p :: r,h=>by
  rw [getM];cases (k==p.1) with
  | true=>exact h p (yma ..)
  | false=>exact getM_sz k r fun z hz=>h z (yga _ hz)
def QL1 (s:State):List Node->List Int->Nat->List (Int × Int)->(List Int) × (List (Int × Int))
 | [],order,_,c=>(order,c)
 | x_ :: r,order,i,c=>bif (((getM (QQ0 x_ (Qu0 s.jobs)) c).getD 0)==0) then QL1 s r (order++([(QQ0 x_ (Qu0 s.jobs))]:List Int)) (i+1) (setM (QQ0 x_ (Qu0 s.jobs)) (w64 (((getM (QQ0 x_ (Qu0 s.jobs)) c).getD 0)+1)) c) else QL1 s r order (i+1) (setM (QQ0 x_ (Qu0 s.jobs)) (w64 (((getM (QQ0 x_ (Qu0 s.jobs)) c).getD 0)+1)) c)
def Qq4 (order:List Int) (c:List (Int × Int)):List Int->Nat->Taken->Taken
 | [],_,c2=>c2
 | _ :: r,i1,c2=>Qq4 order c r (i1+1) (Qo1 c2 0 ((sorted order).getD i1 0) ((getM ((sorted order).getD i1 0) c).getD 0))
def Qb5 (c2:Taken):(List Step):=c2.p
def Qr4 (s:State) (order:List Int) (c:List (Int × Int)):(List Step):=Qb5 (Qq4 order c (sorted order) 0 (⟨(Qy2 (Q10 (Qp8 s.nodes)))⟩:Taken))
def Q83 (s:State):(List Step):=bif ((Qb1 s)!=0) then [] else Qr4 s ((QL1 s s.nodes [] 0 []).1) ((QL1 s s.nodes [] 0 []).2)
theorem b13a0 {P:Prop} (h:P:=by first|(exact ⟨.inr ⟨rfl,rfl⟩,yla _⟩)|first|(exact ⟨.inl (by simp),by simp;omega⟩)|first|(exact ⟨.inl (busy_ne hx.1 (by assumption)),by omega⟩)|first|(((try dsimp only);exact QS9 (by assumption)))|first|(((try dsimp only);exact QS9 hx))|first|(exact flat_len _)|exact exA):P:=h
theorem room_Busy_c (s:State) (hs0:s.sz):GV 90 [State.a s] (stepL (Q83 s)):=by
 generalize hR:Q83 s=R;refine gA (kp 12 [14,27,28,29,30,39,51,52,53,54]) Tryz.func90 ?_;have hk0:=hs0;obtain ⟨z9,z10,z11,z12,z13,z14,z15⟩:=hs0;refine us (Qee s szA _) ?_;refine ai (fun h1=>?_) (fun h2=>?_)
 ·exact lfA
 ·refine us (fleet_Up_c s.nodes szA _) ?_;refine us (Q71 (Qp8 s.nodes) _) ?_;refine us (profile_Flat_c (Q10 (Qp8 s.nodes)) _) ?_;refine us (mv [] (room_limits_o s.jobs szA) .nil (dl lw .nil) (rO (RenO.same _ (Qe8 fun _=>lx)) .nil) (Ren.map _ _ rfl)) ?_;refine QIb (fun (order:List Int) (i:Nat) (c:List (Int × Int))=>Qr4 s (QL1 s (List.drop i s.nodes) order i c).1 (QL1 s (List.drop i s.nodes) order i c).2=R∧i<=s.nodes.length∧(order ≠ []∨(i=0∧c=[]))∧order.length<=i) (fun order i c=>s.nodes.length - i) (fun order i c=>[(2,AVal.lit (.slice none 0 0)),(3,AVal.ptr 0 0 1 0 0),(4,AVal.map 1),(5,AVal.map 2),(6,AVal.own 3 0 1 0 order.length),(27,nodeL s.nodes),(28,I (s.nodes.length:Int)),(29,I (i:Int))]) (fun order i c=>[(0,AObj.row 145 1 [[stepL (Qy2 (Q10 (Qp8 s.nodes)))]]),(0,AObj.other (.map (mapEs ik I 0 c) c.length)),(0,AObj.other (.map (mapEs ik I 0 (Qu0 s.jobs)) (Qu0 s.jobs).length)),(0,AObj.row 3 1 (order.map (fun q_=>[I q_])))]) [] 0 [] ((Qa4 3 1).trans (wkA [1,2,3,4])) ⟨folA,by exact omA,b13a0⟩ ?_;clear hR;rintro order i c ⟨hR,hj,hx⟩;(try dsimp only at hR hj hx);refine ai (fun h3=>?_) (fun h4=>?_)
  ·have hlt:=ltA h3;rw [Qq0 zF hlt] at hR;refine ai gkA ?_;refine us (mv [2] (room_until_c (s.nodes.getD i zF) (Qu0 s.jobs)) (dO (.same _ (Qe8 fun _=>lx)) .nil) (dv (QG6 (Low.agg' (Node.lo))) (dv (dn_ren (Ren.map _ _ rfl)) .nil)) (rO (RenO.same _ (Qe8 fun _=>lx)) .nil) rx) ?_;(first|refine ⟨_,_,QP1 rfl _ _,QQ1 (ek:=ik) (QQ0 (s.nodes.getD i zF) (Qu0 s.jobs)) c 0 (AsA.refl _),?_⟩|refine ⟨_,fun _=>⟨_,_,QP1 rfl _ _,QQ1 (ek:=ik) (QQ0 (s.nodes.getD i zF) (Qu0 s.jobs)) c 0 (AsA.refl _),rfl,rfl⟩,?_⟩|refine ⟨_,rfl,⟨_,_,QP1 rfl _ _,QQ1 (ek:=ik) (QQ0 (s.nodes.getD i zF) (Qu0 s.jobs)) c 0 (AsA.refl _),Sub.refl _,rfl⟩,?_⟩);refine ai (fun h5=>?_) (fun h6=>?_)
   ·refine Or.inl ?_;(first|refine ⟨QD2 8 rfl lnA apA,?_⟩|refine ⟨Qw1 8 rfl apA,?_⟩);(first|refine ⟨_,_,QP1 rfl _ _,QQ1 (ek:=ik) (QQ0 (s.nodes.getD i zF) (Qu0 s.jobs)) c 0 (AsA.refl _),?_⟩|refine ⟨_,fun _=>⟨_,_,QP1 rfl _ _,QQ1 (ek:=ik) (QQ0 (s.nodes.getD i zF) (Qu0 s.jobs)) c 0 (AsA.refl _),rfl,rfl⟩,?_⟩|refine ⟨_,rfl,⟨_,_,QP1 rfl _ _,QQ1 (ek:=ik) (QQ0 (s.nodes.getD i zF) (Qu0 s.jobs)) c 0 (AsA.refl _),Sub.refl _,rfl⟩,?_⟩);refine ⟨_,_,QP1 rfl _ _,QFc (ek:=ik) (QQ0 (s.nodes.getD i zF) (Qu0 s.jobs)) (w64 (((getM (QQ0 (s.nodes.getD i zF) (Qu0 s.jobs)) c).getD 0)+1)) c rfl rfl,?_⟩;exact QL6 (order++([(QQ0 (s.nodes.getD i zF) (Qu0 s.jobs))]:List Int)) (i+1) (setM (QQ0 (s.nodes.getD i zF) (Qu0 s.jobs)) (w64 (((getM (QQ0 (s.nodes.getD i zF) (Qu0 s.jobs)) c).getD 0)+1)) c) (wkA [0,1,2,3]) omA ⟨foll hR (congrArg (fun p:(List Int) × (List (Int × Int))=>Qr4 s p.1 p.2) (ct h5 rfl)),by exact omA,b13a0⟩
   ·(first|refine ⟨_,_,QP1 rfl _ _,QQ1 (ek:=ik) (QQ0 (s.nodes.getD i zF) (Qu0 s.jobs)) c 0 (AsA.refl _),?_⟩|refine ⟨_,fun _=>⟨_,_,QP1 rfl _ _,QQ1 (ek:=ik) (QQ0 (s.nodes.getD i zF) (Qu0 s.jobs)) c 0 (AsA.refl _),rfl,rfl⟩,?_⟩|refine ⟨_,rfl,⟨_,_,QP1 rfl _ _,QQ1 (ek:=ik) (QQ0 (s.nodes.getD i zF) (Qu0 s.jobs)) c 0 (AsA.refl _),Sub.refl _,rfl⟩,?_⟩);refine ⟨_,_,QP1 rfl _ _,QFc (ek:=ik) (QQ0 (s.nodes.getD i zF) (Qu0 s.jobs)) (w64 (((getM (QQ0 (s.nodes.getD i zF) (Qu0 s.jobs)) c).getD 0)+1)) c rfl rfl,?_⟩;exact QL6 order (i+1) (setM (QQ0 (s.nodes.getD i zF) (Qu0 s.jobs)) (w64 (((getM (QQ0 (s.nodes.getD i zF) (Qu0 s.jobs)) c).getD 0)+1)) c) (wkA [0,1,2,3]) omA ⟨foll hR (congrArg (fun p:(List Int) × (List (Int × Int))=>Qr4 s p.1 p.2) (cf h6 rfl)),by exact omA,b13a0⟩
  ·rw [Qv0 (l:=s.nodes) (j:=i) (geA h4)] at hR;replace hR:Qr4 s order c=R:=fo2 (fun p:(List Int) × (List (Int × Int))=>Qr4 s p.1 p.2) (order,c) hR rfl;refine us (mv [3] (slices_Sort_c order szA (by exact busy_order (by assumption) hx.1 (by assumption))) (dO (dr eqA) .nil) (dv (QY5 rfl lnA) .nil) (rO rr .nil) rx) ?_;refine QP0 (fun (i1:Nat) (c2:Taken)=>Qb5 (Qq4 order c (List.drop i1 (sorted order)) i1 c2)=R∧i1<=(sorted order).length∧c2.p.length<=4294967296) (fun i1 c2=>(sorted order).length - i1) (fun i1 c2=>[(2,AVal.lit (.slice none 0 0)),(3,AVal.ptr 0 0 1 0 0),(4,AVal.map 1),(51,AVal.own 2 0 1 0 ((sorted order).length)),(52,I ((sorted order).length:Int)),(53,I (i1:Int))]) (fun i1 c2=>[(0,AObj.row 145 1 [[stepL c2.p]]),(0,AObj.other (.map (mapEs ik I 0 c) c.length)),(0,AObj.row 3 1 ((sorted order).map (fun q_=>[I q_])))]) 0 (⟨(Qy2 (Q10 (Qp8 s.nodes)))⟩:Taken) (wk [0,1,3] (tO rfl (ts Taken.lo) (tO rfl (Qe9 _ rfl rfl (fun _=>lx)) (tO rfl (tl eqA) .nil))) (s1 (sv (Qi1 0 rfl rfl) (sv (turn_map 1 rfl rfl) (sv (to 2 lnA) (sv (turn_eq (I_eq (by simp)) lx) (s1 .nil))))))) ⟨foll hR rfl,by exact omA,b13a0⟩ ?_;clear hR;rintro i1 c2 ⟨hR,hj,hx⟩;(try dsimp only at hR hj hx);refine ai (fun h7=>?_) (fun h8=>?_)
   ·have hlt:=ltA h7;rw [Qq0 0 hlt] at hR;have hsl:=QHd order;refine ai gkA ?_;refine ⟨_,QT0 rfl rfl rfl (Qh1 0 i1 (by first|rfl|exact yna _|omega) ckA) rfl,?_⟩;(first|refine ⟨_,_,QP1 rfl _ _,QQ1 (ek:=ik) ((sorted order).getD i1 0) c 0 (AsA.refl _),?_⟩|refine ⟨_,fun _=>⟨_,_,QP1 rfl _ _,QQ1 (ek:=ik) ((sorted order).getD i1 0) c 0 (AsA.refl _),rfl,rfl⟩,?_⟩|refine ⟨_,rfl,⟨_,_,QP1 rfl _ _,QQ1 (ek:=ik) ((sorted order).getD i1 0) c 0 (AsA.refl _),Sub.refl _,rfl⟩,?_⟩);refine us (mv [0] (QW6 c2 0 ((sorted order).getD i1 0) ((getM ((sorted order).getD i1 0) c).getD 0) szA) (dO (ds Taken.lo) .nil) (dp (d1 (d1 (d1 .nil)))) (rO (re Taken.lo) .nil) rx) ?_;exact Qr0 (i1+1) (Qo1 c2 0 ((sorted order).getD i1 0) ((getM ((sorted order).getD i1 0) c).getD 0)) (wkA [0,1,2]) omA ⟨foll hR (congrArg (fun p:Taken=>Qb5 p) rfl),by exact omA,b13a0⟩
   ·rw [Qv0 (l:=(sorted order)) (j:=i1) (geA h8)] at hR;replace hR:Qb5 c2=R:=fo2 (fun p:Taken=>Qb5 p) (c2) hR rfl;exact lfA
theorem Qy4 (s:State):(Q83 s).length<=4294967296:=by
 have g2:∀ (o:List Int) (c:List (Int × Int)) (l:List Int) (i:Nat) (t:Taken),t.p.length<=4294967296->(Qq4 o c l i t).p.length<=4294967296:=by
  intro o c l
  induction l with
  | nil=>intro i t h;exact h
  | cons x r ih=>intro i t h;rw [Qq4];exact ih _ _ (QS9 h)
 unfold Q83 Qr4 Qb5;cases ((Qb1 s)!=0) with
 | true=>simp
 | false=>exact g2 _ _ _ _ _ (flat_len _)
def Q72 :List Job->Int->Nat->Int × Nat
 | [],last,i=>(last,i)
 | x_ :: r,_,i=>Q72 r x_.id (i+1)
def QF5 :List Book->Int->Nat->Int × Nat
 | [],final,i1=>(final,i1)
 | x_1 :: r,_,i1=>QF5 r x_1.id (i1+1)
def QG5 (s:State):Nat->Bool->Nat->Bool × Nat
 | 0,_,_=>(false,0)
 | m+1,ok,i2=>bif ((decide ((i2:Int)<(s.resizes.length:Int)))&&ok) then QG5 s m ((Q32 s (s.resizes.getD i2 zH))&&(((i2:Int)==0)||(decide ((s.resizes.getD (Int.toNat (w64 ((i2:Int) - 1))) zH).job<(s.resizes.getD i2 zH).job)))) (i2+1) else (ok,i2)
def QH5 (s:State):Nat->Bool->Nat->Bool × Nat
 | 0,_,_=>(false,0)
 | m+1,ok1,n=>bif ((decide ((n:Int)<(s.nodes.length:Int)))&&ok1) then QH5 s m (Qv5 s (n:Int)) (n+1) else (ok1,n)
def QI5 (s:State):Nat->Bool->Nat->Bool × Nat
 | 0,_,_=>(false,0)
 | m+1,ok2,i3=>bif ((decide ((i3:Int)<(s.jobs.length:Int)))&&ok2) then QI5 s m (((s.jobs.getD i3 zG).state != 2)||((Qx8 s.nodes ((s.jobs.getD i3 zG).id) 1)==(s.jobs.getD i3 zG).nodes)) (i3+1) else (ok2,i3)
def Qpb (ok2:Bool) (i3:Nat):Int:=bif (!ok2) then 141 else 0
def Qob (s:State) (ok1:Bool) (n:Nat):Int:=Qpb ((QI5 s ((Int.toNat ((s.jobs.length:Int) - (0:Int)))+1) ok1 0).1) ((QI5 s ((Int.toNat ((s.jobs.length:Int) - (0:Int)))+1) ok1 0).2)
def Qnb (s:State) (ok:Bool) (i2:Nat):Int:=Qob s ((QH5 s ((Int.toNat ((s.nodes.length:Int) - (0:Int)))+1) ok 0).1) ((QH5 s ((Int.toNat ((s.nodes.length:Int) - (0:Int)))+1) ok 0).2)
def Qmb (s:State) (last:Int) (final:Int) (i1:Nat):Int:=Qnb s ((QG5 s ((Int.toNat ((s.resizes.length:Int) - (0:Int)))+1) ((Q08 s.nextJob last)&&(Q08 s.nextBook final)) 0).1) ((QG5 s ((Int.toNat ((s.resizes.length:Int) - (0:Int)))+1) ((Q08 s.nextJob last)&&(Q08 s.nextBook final)) 0).2)
def QJ5 (s:State) (last:Int) (i:Nat):Int:=Qmb s last ((QF5 s.books 0 0).1) ((QF5 s.books 0 0).2)
def Q53 (s:State):Int:=bif ((Qh8 s)!=0) then 141 else QJ5 s ((Q72 s.jobs 0 0).1) ((Q72 s.jobs 0 0).2)
def Qq1 :List Job->Int->Nat->Int
 | [],lastJob,_=>lastJob
 | x_ :: r,_,i=>Qq1 r x_.id (i+1)
def QJ1 :List Book->Int->Nat->Int
 | [],lastBook,_=>lastBook
 | x_1 :: r,_,i1=>QJ1 r x_1.id (i1+1)
def QA0 :List Job->Nat->List (Int × Job)->(List (Int × Job))
 | [],_,c=>c
 | x_2 :: r,i2,c=>bif (x_2.state==2) then QA0 r (i2+1) (setM x_2.id x_2 c) else QA0 r (i2+1) c
def QK1 (s:State) (lastJob:Int) (lastBook:Int) (c:List (Int × Job)):List Resize->Nat->List (Int × Resize)->Int
 | [],_,c2=>bif ((((!true)||(!(Qf1 s.nextJob lastJob)))||(!(Qf1 s.nextBook lastBook)))||(!(Q63 s c c2))) then 141 else bif (c.all (fun (en:Int × Job)=>(bif ((QW2 s.nodes en.1)!=en.2.nodes) then false else true))) then 0 else 141
 | x_3 :: r,i3,c2=>bif (((!(getM x_3.job c).isSome)||((decide ((i3:Int) > 0))&&(decide ((s.resizes.getD (Int.toNat (w64 ((i3:Int) - 1))) zH).job >= x_3.job))))||(!(Qt3 s x_3 ((getM x_3.job c).getD zG)))) then 141 else QK1 s lastJob lastBook c r (i3+1) (setM x_3.job x_3 c2)
def Qs3 (s:State) (lastJob:Int) (lastBook:Int) (c:List (Int × Job)):Int:=QK1 s lastJob lastBook c s.resizes 0 []
def Q74 (s:State) (lastJob:Int) (lastBook:Int):Int:=Qs3 s lastJob lastBook (QA0 s.jobs 0 [])
def Q64 (s:State) (lastJob:Int):Int:=Q74 s lastJob (QJ1 s.books 0 0)
def Qj0 (s:State):Int:=bif ((Qy1 s)!=0) then 141 else Q64 s (Qq1 s.jobs 0 0)
theorem b14a0 {P:Prop} (h:P:=by first|(exact getM_sz _ _ (by assumption))|exact szA):P:=h
theorem b14a2 {P:Prop} (h:P:=by first|(exact setM_sz _ _ _ (by assumption) (by assumption))|first|(exact fun y hy=>absurd hy ymb)|first|(assumption)|exact exA):P:=h
theorem Qx5 (s:State) (hs0:s.sz):GV 20 [State.a s] (I (Qj0 s)):=by
 generalize hR:Qj0 s=R;refine gA (kp 14 [16,18,19,20,21,28,29,30,31,68,70,72,82]) Tryz.func20 ?_;have hk0:=hs0;obtain ⟨z29,z30,z31,z32,z33,z34,z35⟩:=hs0;refine us (Q3e s b14a0 _) ?_;refine ai (fun h1=>?_) (fun h2=>?_)
 ·exact lfA
 ·refine QP0 (fun (lastJob:Int) (i:Nat)=>Q64 s (Qq1 (List.drop i s.jobs) lastJob i)=R∧i<=s.jobs.length) (fun lastJob i=>s.jobs.length - i) (fun lastJob i=>[(1,AVal.ptr 0 0 8 0 0),(2,I 0),(3,I lastJob),(4,I 0),(18,jobL s.jobs),(19,I (s.jobs.length:Int)),(20,I (i:Int))]) (fun lastJob i=>[(0,AObj.row 28 8 [[I s.now,nodeL s.nodes,jobL s.jobs,QN1 s.resizes,bookL s.books,Q93 s.ledger,I s.nextJob,I s.nextBook]])]) 0 0 (wkA [0]) ⟨folA,by exact omA⟩ ?_;clear hR;rintro lastJob i ⟨hR,hj⟩;(try dsimp only at hR hj);refine ai (fun h3=>?_) (fun h4=>?_)
  ·have hlt:=ltA h3;rw [Qq0 zG hlt] at hR;have hxz:(s.jobs.getD i zG).sz:=Qu4 (by first|assumption|grind) (Job.szz _);have hkz:=hxz;obtain ⟨z5,z6,z7,z8,z9⟩:=Job.zz hxz;refine ai gkA ?_;exact Qr0 ((s.jobs.getD i zG).id) (i+1) (wkA [0]) omA ⟨foll hR (congrArg (fun p:Int=>Q64 s p) rfl),by exact omA⟩
  ·rw [Qv0 (l:=s.jobs) (j:=i) (geA h4)] at hR;replace hR:Q64 s lastJob=R:=fo2 (fun p:Int=>Q64 s p) (lastJob) hR rfl;refine QP0 (fun (lastBook:Int) (i1:Nat)=>Q74 s lastJob (QJ1 (List.drop i1 s.books) lastBook i1)=R∧i1<=s.books.length) (fun lastBook i1=>s.books.length - i1) (fun lastBook i1=>[(1,AVal.ptr 0 0 8 0 0),(2,I 0),(3,I lastJob),(4,I lastBook),(28,bookL s.books),(29,I (s.books.length:Int)),(30,I (i1:Int))]) (fun lastBook i1=>[(0,AObj.row 28 8 [[I s.now,nodeL s.nodes,jobL s.jobs,QN1 s.resizes,bookL s.books,Q93 s.ledger,I s.nextJob,I s.nextBook]])]) 0 0 (wkA [0]) ⟨foll hR rfl,by exact omA⟩ ?_;clear hR;rintro lastBook i1 ⟨hR,hj⟩;(try dsimp only at hR hj);refine ai (fun h10=>?_) (fun h11=>?_)
   ·have hlt:=ltA h10;rw [Qq0 zI hlt] at hR;refine ai gkA ?_;exact Qr0 ((s.books.getD i1 zI).id) (i1+1) (wkA [0]) omA ⟨foll hR (congrArg (fun p:Int=>Q74 s lastJob p) rfl),by exact omA⟩
   ·rw [Qv0 (l:=s.books) (j:=i1) (geA h11)] at hR;replace hR:Q74 s lastJob lastBook=R:=fo2 (fun p:Int=>Q74 s lastJob p) (lastBook) hR rfl;refine ACalls.of_cwp (fun _=>true) Tryz.func73 rfl rfl ?_;refine QP0 (fun (i2:Nat) (c:List (Int × Job))=>Qs3 s lastJob lastBook (QA0 (List.drop i2 s.jobs) i2 c)=R∧i2<=s.jobs.length ∧ ∀ y ∈ c,y.2.sz) (fun i2 c=>s.jobs.length - i2) (fun i2 c=>[(2,AVal.lit (.map none)),(3,AVal.map 1),(7,jobL s.jobs),(8,I (s.jobs.length:Int)),(9,I (i2:Int))]) (fun i2 c=>[(0,AObj.row 28 8 [[I s.now,nodeL s.nodes,jobL s.jobs,QN1 s.resizes,bookL s.books,Q93 s.ledger,I s.nextJob,I s.nextBook]]),(0,AObj.other (.map (mapEs ik Job.a 0 c) c.length))]) 0 [] (wkA [0,1]) ⟨foll hR rfl,by exact omA,b14a2⟩ ?_;clear hR;rintro i2 c ⟨hR,hj,hx⟩;(try dsimp only at hR hj hx);refine ai (fun h12=>?_) (fun h13=>?_)
    ·have hlt:=ltA h12;rw [Qq0 zG hlt] at hR;have hxz:(s.jobs.getD i2 zG).sz:=Qu4 (by first|assumption|grind) (Job.szz _);have hkz:=hxz;obtain ⟨z14,z15,z16,z17,z18⟩:=Job.zz hxz;refine ai gkA ?_;refine ai (fun h19=>?_) (fun h20=>?_)
     ·refine ⟨_,_,QP1 rfl _ _,QFc (ek:=ik) ((s.jobs.getD i2 zG).id) (s.jobs.getD i2 zG) c rfl rfl,?_⟩;exact Qr0 (i2+1) (setM (s.jobs.getD i2 zG).id (s.jobs.getD i2 zG) c) (wkA [0,1]) omA ⟨foll hR (congrArg (fun p:(List (Int × Job))=>Qs3 s lastJob lastBook p) (ct h19 rfl)),by exact omA,b14a2⟩
     ·exact Qr0 (i2+1) c (wkA [0,1]) omA ⟨foll hR (congrArg (fun p:(List (Int × Job))=>Qs3 s lastJob lastBook p) (cf h20 rfl)),by exact omA,b14a2⟩
    ·rw [Qv0 (l:=s.jobs) (j:=i2) (geA h13)] at hR;replace hR:Qs3 s lastJob lastBook c=R:=fo2 (fun p:(List (Int × Job))=>Qs3 s lastJob lastBook p) (c) hR rfl;refine ⟨_,_,Told.refl,?_⟩;refine ACalls.of_cwp (fun _=>true) Tryz.func74 rfl rfl ?_;refine QP0 (fun (i3:Nat) (c2:List (Int × Resize))=>QK1 s lastJob lastBook c (List.drop i3 s.resizes) i3 c2=R∧i3<=s.resizes.length) (fun i3 c2=>s.resizes.length - i3) (fun i3 c2=>[(1,AVal.map 1),(2,AVal.ptr 2 0 8 0 0),(4,AVal.lit (.map none)),(5,Bo false),(6,AVal.map 3),(13,QN1 s.resizes),(14,I (s.resizes.length:Int)),(15,I (i3:Int))]) (fun i3 c2=>[(0,AObj.row 28 8 [[I s.now,nodeL s.nodes,jobL s.jobs,QN1 s.resizes,bookL s.books,Q93 s.ledger,I s.nextJob,I s.nextBook]]),(0,AObj.other (.map (mapEs ik Job.a 0 c) c.length)),(0,AObj.row 28 8 [[I s.now,nodeL s.nodes,jobL s.jobs,QN1 s.resizes,bookL s.books,Q93 s.ledger,I s.nextJob,I s.nextBook]]),(0,AObj.other (.map (mapEs ik Resize.a 0 c2) c2.length))]) 0 [] (wkA [0,1,2,3]) ⟨foll hR rfl,by exact omA⟩ ?_;clear hR;rintro i3 c2 ⟨hR,hj⟩;(try dsimp only at hR hj);refine ai (fun h21=>?_) (fun h22=>?_)
     ·have hlt:=ltA h21;rw [Qq0 zH hlt] at hR;refine ai gkA ?_;(first|refine ⟨_,_,QP1 rfl _ _,QQ1 (ek:=ik) ((s.resizes.getD i3 zH).job) c zG (as_agg (a1 (a1 (a1 (a1 (a1 (av (Qe7) (a1 (a1 (a1 (a1 (av (Qe7) (a1 (a1 (a1 (a1 (a1 (a1 (a1 (a1 (a1 .nil))))))))))))))))))))),?_⟩|refine ⟨_,fun _=>⟨_,_,QP1 rfl _ _,QQ1 (ek:=ik) ((s.resizes.getD i3 zH).job) c zG (as_agg (a1 (a1 (a1 (a1 (a1 (av (Qe7) (a1 (a1 (a1 (a1 (av (Qe7) (a1 (a1 (a1 (a1 (a1 (a1 (a1 (a1 (a1 .nil))))))))))))))))))))),rfl,rfl⟩,?_⟩|refine ⟨_,rfl,⟨_,_,QP1 rfl _ _,QQ1 (ek:=ik) ((s.resizes.getD i3 zH).job) c zG (as_agg (a1 (a1 (a1 (a1 (a1 (av (Qe7) (a1 (a1 (a1 (a1 (av (Qe7) (a1 (a1 (a1 (a1 (a1 (a1 (a1 (a1 (a1 .nil))))))))))))))))))))),Sub.refl _,rfl⟩,?_⟩);refine dchk (by kernel_rfl) ?_;refine ai gkA ?_;(first|apply u2|apply u3|apply u4|apply us);exact Qsb s (s.resizes.getD i3 zH) ((getM (s.resizes.getD i3 zH).job c).getD zG) b14a0 b14a0 _;(repeat ((first|refine ai rfl ?_|refine ai (fun _=>rfl) ?_|refine ai (fun _=>Qsb s (s.resizes.getD i3 zH) ((getM (s.resizes.getD i3 zH).job c).getD zG) b14a0 b14a0 _) ?_)));refine ai (fun h23=>?_) (fun h24=>?_)
      ·refine ⟨_,_,Told.refl,?_⟩;(first|refine ⟨Bo false,_,fun h=>absurd h (by decide),fun _=>rfl,?_⟩|refine ⟨Bo false,fun h=>absurd h (by decide),?_⟩|refine ⟨Bo false,_,fun h=>absurd h (by simp),fun _=>rfl,?_⟩|refine ⟨Bo false,fun h=>absurd h (by simp),?_⟩);(first|refine ⟨Bo false,_,fun h=>absurd h (by decide),fun _=>rfl,?_⟩|refine ⟨Bo false,fun h=>absurd h (by decide),?_⟩|refine ⟨Bo false,_,fun h=>absurd h (by simp),fun _=>rfl,?_⟩|refine ⟨Bo false,fun h=>absurd h (by simp),?_⟩);(first|refine ⟨Bo false,_,fun h=>absurd h (by decide),fun _=>rfl,?_⟩|refine ⟨Bo false,fun h=>absurd h (by decide),?_⟩|refine ⟨Bo false,_,fun h=>absurd h (by simp),fun _=>rfl,?_⟩|refine ⟨Bo false,fun h=>absurd h (by simp),?_⟩);refine ai (fun _=>?_) (fun h=>nomatch h);exact lfA
      ·refine ⟨_,_,QP1 rfl _ _,QFc (ek:=ik) ((s.resizes.getD i3 zH).job) (s.resizes.getD i3 zH) c2 rfl rfl,?_⟩;exact Qr0 (i3+1) (setM (s.resizes.getD i3 zH).job (s.resizes.getD i3 zH) c2) (wkA [0,1,2,3]) omA ⟨folA,by exact omA⟩
     ·rw [Qv0 (l:=s.resizes) (j:=i3) (geA h22)] at hR;refine ⟨_,_,Told.refl,?_⟩;(first|apply u2|apply u3|apply u4|apply us);exact Qje s.nextJob lastJob _;(first|apply u2|apply u3|apply u4|apply us);exact Qje s.nextBook lastBook _;(first|apply u2|apply u3|apply u4|apply us);exact mv [1,3] (state_nodes_c s c c2 b14a0) (dO (.same _ (Qe8 fun _=>Job.low _ _)) (dO (.same _ (Qe8 fun _=>Resize.low _ _)) .nil)) (dv (QG6 (Low.agg' (State.lo))) (dv (dn_ren (Ren.map _ _ rfl)) (dv (dn_ren (Ren.map _ _ rfl)) .nil))) (rO (RenO.same _ (Qe8 fun _=>Job.low _ _)) (rO (RenO.same _ (Qe8 fun _=>Resize.low _ _)) .nil)) rx;refine ai (fun h25=>?_) (fun h26=>?_)
      ·exact lfA
      ·refine loop_start (X:=Array Nat) (fun x=>(bif (c.all (fun (en:Int × Job)=>(bif ((QW2 s.nodes en.1)!=en.2.nodes) then false else true))) then 0 else 141)=R ∧ ∀ j,j<c.length->x.contains j=true->(fun (en:Int × Job)=>(bif ((QW2 s.nodes en.1)!=en.2.nodes) then false else true)) (c.getD j ((0,zG):Int × Job))=true) (fun x=>unseen c.length x) (fun seen=>[(1,AVal.ptr 0 0 8 0 0),(2,I 0),(70,AVal.ptr 2 0 1 0 0)]) (fun seen=>[(0,AObj.row 28 8 [[I s.now,nodeL s.nodes,jobL s.jobs,QN1 s.resizes,bookL s.books,Q93 s.ledger,I s.nextJob,I s.nextBook]]),(0,AObj.other (.map (mapEs ik Job.a 0 c) c.length)),(0,AObj.other (.mapIter 1 c.length seen c.length))]) #[] (wk [0,1,4] (tO rfl (ts State.lo) (tO rfl (Qe9 _ rfl rfl (fun _=>Job.low _ _)) (tO rfl (turn_miter 1 rfl rfl) .nil))) (sv (Qi1 0 rfl rfl) (s1 (sv (Qi1 2 rfl rfl) .nil)))) ⟨folA,fun j hj hc=>absurd hc (by simp)⟩ ?_;clear hR;rintro seen ⟨hR,hx⟩;refine map_round ((0,zG):Int × Job) (fun j hj hns=>?_) (fun hall=>?_)
       ·refine ai (fun _=>?_) (fun h=>nomatch h);refine ⟨_,entry_map ((0,zG):Int × Job) rfl rfl hj,?_⟩;refine dchk (by kernel_rfl) ?_;(first|apply u2|apply u3|apply u4|apply us);exact QNd s.nodes ((c.getD j ((0,zG):Int × Job)).1) b14a0 _;(repeat ((first|refine ai rfl ?_|refine ai (fun _=>rfl) ?_|refine ai (fun _=>QNd s.nodes ((c.getD j ((0,zG):Int × Job)).1) b14a0 _) ?_)));refine ai (fun h27=>?_) (fun h28=>?_)
        ·obtain rfl:=foll hR ((cond_f (all_f (p:=(fun (en:Int × Job)=>(bif ((QW2 s.nodes en.1)!=en.2.nodes) then false else true))) hj (ct h27 rfl))).trans rfl);exact Qb0 lx sr
        ·exact loop_next (seen.push j) (unseen_push hj hns) (wk [0,1,2] (tO rfl (ts State.lo) (tO rfl (Qe9 _ rfl rfl (fun _=>Job.low _ _)) (tO rfl (turn_miter 1 rfl rfl) .nil))) (sv (Qi1 0 rfl rfl) (s1 (sv (Qi1 2 rfl rfl) .nil)))) ⟨hR,seen_push (p:=(fun (en:Int × Job)=>(bif ((QW2 s.nodes en.1)!=en.2.nodes) then false else true))) hx (cf h28 rfl)⟩
       ·refine ai (fun h=>nomatch h) (fun _=>?_);obtain rfl:=foll hR (ct (all_t hall hx) rfl);exact Qb0 lx sr
def QT2 :List Book->Nat->Taken->Taken
 | [],_,c=>c
 | x_ :: r,i,c=>QT2 r (i+1) (Qo1 c x_.from_ x_.to x_.nodes)
def QB2 (except:List Int):List Job->Nat->Taken->Taken
 | [],_,c2=>c2
 | x_1 :: r,i1,c2=>bif (!(QE1 except x_1.id)) then bif (Q20 x_1).2.2.2 then QB2 except r (i1+1) (Qo1 c2 ((Q20 x_1).1) (w64 ((Q20 x_1).1+(Q20 x_1).2.1)) ((Q20 x_1).2.2.1)) else QB2 except r (i1+1) c2 else QB2 except r (i1+1) c2
def Qs4 (c2:Taken):(List Step):=c2.p
def Qm6 (s:State) (except:List Int) (c:Taken):(List Step):=Qs4 (QB2 except s.jobs 0 c)
def Qw0 (s:State) (except:List Int):(List Step):=Qm6 s except (QT2 s.books 0 (⟨(Q83 s)⟩:Taken))
theorem take_nil (f t n:Int):Qo1 (⟨[]⟩:Taken) f t n=⟨[]⟩:=by
 unfold Qo1;cases ((decide (t<=f))||(n==0)) <;> rfl
theorem QPc {s:State} {except:List Int} (h:(Q83 s).length=0):Qw0 s except=[]:=by
 have g1:∀ (l:List Book) (i:Nat),QT2 l i (⟨[]⟩:Taken)=⟨[]⟩:=by
  intro l
  induction l with
  | nil=>intro i;rfl
  | cons x r ih=>intro i;rw [QT2,take_nil];exact ih _
 have g2:∀ (l:List Job) (i:Nat),QB2 except l i (⟨[]⟩:Taken)=⟨[]⟩:=by
  intro l
  induction l with
  | nil=>intro i;rfl
  | cons x r ih =>
   intro i;rw [QB2,take_nil]
   repeat' first|exact ih _|(rw [yCb];split)
 unfold Qw0 Qm6 Qs4;rw [yAa h,g1,g2]
theorem b14a1 {P:Prop} (h:P:=by first|(((try dsimp only);exact QS9 (by assumption)))|first|(((try dsimp only);exact QS9 hx))|first|(exact Qy4 _)|exact exA):P:=h
theorem QPb (s:State) (except:List Int) (hs0:s.sz) (hs1:except.length<=4294967296):GV 35 [State.a s,ints except] (stepL (Qw0 s except)):=by
 generalize hR:Qw0 s except=R;refine gA (kp 12 [15,21,22,23,24,37,38,39,40,47]) Tryz.func35 ?_;have hk0:=hs0;obtain ⟨z14,z15,z16,z17,z18,z19,z20⟩:=hs0;have hk1:=hs1;obtain z21:except.length<=4294967296:=hs1;refine us (room_Busy_c s (by first|(exact Qy4 _)|exact szA) _) ?_;intro nb3 hb3;cases nb3
 ·refine ai (fun h=>nomatch h) (fun _=>?_);refine QP0 (fun (i:Nat) (c:Taken)=>Qm6 s except (QT2 (List.drop i s.books) i c)=R∧i<=s.books.length∧c.p.length<=4294967296) (fun i c=>s.books.length - i) (fun i c=>[(1,ints except),(2,AVal.ptr 0 0 8 0 0),(4,AVal.lit (.slice none 0 0)),(6,AVal.ptr 2 0 1 0 0),(7,AVal.fn (.func 91) [] [AVal.ptr 2 0 1 0 0]),(21,bookL s.books),(22,I (s.books.length:Int)),(23,I (i:Int))]) (fun i c=>[(0,AObj.row 28 8 [[I s.now,nodeL s.nodes,jobL s.jobs,QN1 s.resizes,bookL s.books,Q93 s.ledger,I s.nextJob,I s.nextBook]]),(0,AObj.row 145 1 [[stepL c.p]]),(0,AObj.row 143 1 [[AVal.ptr 1 0 1 0 0]])]) 0 (⟨(Q83 s)⟩:Taken) (wkA [0,1,2]) ⟨foll hR rfl,by exact omA,b14a1⟩ ?_;clear hR;rintro i c ⟨hR,hj,hx⟩;(try dsimp only at hR hj hx);refine ai (fun h1=>?_) (fun h2=>?_)
  ·have hlt:=ltA h1;rw [Qq0 zI hlt] at hR;refine ai gkA ?_;refine us (mv [1] (QW6 c ((s.books.getD i zI).from_) ((s.books.getD i zI).to) ((s.books.getD i zI).nodes) (by first|(exact Qy4 _)|exact szA)) (dO (ds Taken.lo) .nil) (dp (d1 (d1 (d1 .nil)))) (rO (re Taken.lo) .nil) rx) ?_;exact Qr0 (i+1) (Qo1 c (s.books.getD i zI).from_ (s.books.getD i zI).to (s.books.getD i zI).nodes) (wkA [0,1,2]) omA ⟨foll hR (congrArg (fun p:Taken=>Qm6 s except p) rfl),by exact omA,b14a1⟩
  ·rw [Qv0 (l:=s.books) (j:=i) (geA h2)] at hR;replace hR:Qm6 s except c=R:=fo2 (fun p:Taken=>Qm6 s except p) (c) hR rfl;refine QP0 (fun (i1:Nat) (c2:Taken)=>Qs4 (QB2 except (List.drop i1 s.jobs) i1 c2)=R∧i1<=s.jobs.length∧c2.p.length<=4294967296) (fun i1 c2=>s.jobs.length - i1) (fun i1 c2=>[(1,ints except),(4,AVal.lit (.slice none 0 0)),(6,AVal.ptr 1 0 1 0 0),(7,AVal.fn (.func 91) [] [AVal.ptr 1 0 1 0 0]),(37,jobL s.jobs),(38,I (s.jobs.length:Int)),(39,I (i1:Int))]) (fun i1 c2=>[(0,AObj.row 145 1 [[stepL c2.p]]),(0,AObj.row 143 1 [[AVal.ptr 0 0 1 0 0]])]) 0 c (wkA [1,2]) ⟨foll hR rfl,by exact omA,b14a1⟩ ?_;clear hR;rintro i1 c2 ⟨hR,hj,hx⟩;(try dsimp only at hR hj hx);refine ai (fun h3=>?_) (fun h4=>?_)
   ·have hlt:=ltA h3;rw [Qq0 zG hlt] at hR;have hxz:(s.jobs.getD i1 zG).sz:=Qu4 (by first|assumption|grind) (Job.szz _);have hkz:=hxz;obtain ⟨z5,z6,z7,z8,z9⟩:=Job.zz hxz;refine ai gkA ?_;refine us (Qh2 except ((s.jobs.getD i1 zG).id) (by first|(exact Qy4 _)|exact szA) _) ?_;refine ai (fun h10=>?_) (fun h11=>?_)
    ·refine ACalls.of_cwp (fun _=>true) Tryz.func91 rfl rfl ?_;refine us (Qfe (s.jobs.getD i1 zG) (by first|(exact Qy4 _)|exact szA) _) ?_;refine ai (fun h12=>?_) (fun h13=>?_)
     ·refine us (mv [0] (QW6 c2 ((Q20 (s.jobs.getD i1 zG)).1) (w64 ((Q20 (s.jobs.getD i1 zG)).1+(Q20 (s.jobs.getD i1 zG)).2.1)) ((Q20 (s.jobs.getD i1 zG)).2.2.1) (by first|(exact Qy4 _)|exact szA)) (dO (ds Taken.lo) .nil) (dp (d1 (d1 (d1 .nil)))) (rO (re Taken.lo) .nil) rx) ?_;refine ⟨_,_,Told.refl,?_⟩;exact Qr0 (i1+1) (Qo1 c2 ((Q20 (s.jobs.getD i1 zG)).1) (w64 ((Q20 (s.jobs.getD i1 zG)).1+(Q20 (s.jobs.getD i1 zG)).2.1)) ((Q20 (s.jobs.getD i1 zG)).2.2.1)) (wkA [0,1]) omA ⟨foll hR (congrArg (fun p:Taken=>Qs4 p) (ct h10 (ct h12 rfl))),by exact omA,b14a1⟩
     ·refine ⟨_,_,Told.refl,?_⟩;exact Qr0 (i1+1) c2 (wkA [0,1]) omA ⟨foll hR (congrArg (fun p:Taken=>Qs4 p) (ct h10 (cf h13 rfl))),by exact omA,b14a1⟩
    ·exact Qr0 (i1+1) c2 (wkA [0,1]) omA ⟨foll hR (congrArg (fun p:Taken=>Qs4 p) (cf h11 rfl)),by exact omA,b14a1⟩
   ·rw [Qv0 (l:=s.jobs) (j:=i1) (geA h4)] at hR;replace hR:Qs4 c2=R:=fo2 (fun p:Taken=>Qs4 p) (c2) hR rfl;exact lfA
 ·have hl3:(Q83 s).length=0:=Decidable.byContradiction fun hn=>absurd (hb3 hn) (by decide);refine ai (fun _=>?_) (fun h=>nomatch h);obtain rfl:=foll hR (QPc hl3);exact Qb0 lw (Q40)
theorem QB0 (s:State) (ex:List Int):(Qw0 s ex).length<=4294967296:=by
 have g1:∀ (l:List Book) (i:Nat) (t:Taken),t.p.length<=4294967296->(QT2 l i t).p.length<=4294967296:=by
  intro l
  induction l with
  | nil=>intro i t h;exact h
  | cons x r ih=>intro i t h;rw [QT2];exact ih _ _ (QS9 h)
 have g2:∀ (l:List Job) (i:Nat) (t:Taken),t.p.length<=4294967296->(QB2 ex l i t).p.length<=4294967296:=by
  intro l
  induction l with
  | nil=>intro i t h;exact h
  | cons x r ih =>
   intro i t h;rw [QB2]
   repeat' first|exact ih _ _ h|exact ih _ _ (QS9 h)|(rw [yCb];split)
 exact g2 _ _ _ (g1 _ _ _ (Qy4 s))
def Qr3 (s:State) (id_:Int):Resize × Bool:=bif (((QT5 s id_).nodes==0)||((Q53 s)!=0)) then (zH,false) else ((QT5 s id_),true)
end Go.Proofs.YtackngeeehiegaaGreatDoor
