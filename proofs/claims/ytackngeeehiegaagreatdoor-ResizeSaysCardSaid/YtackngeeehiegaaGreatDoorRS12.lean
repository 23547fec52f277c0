/-
  What the last text of this claim leans on: an evaluator over the code, contracts of functions, plain laws. Conditions stand in each statement.
-/
import Derived.Test.YtackngeeehiegaaGreatDoorRS11
import Derived.Test.YtackngeeehiegaaGreatDoorProg
import Derived.Test.YtackngeeehiegaaGreatDoorRS8
namespace Go.Proofs.YtackngeeehiegaaGreatDoor
set_option linter.unusedSimpArgs false
set_option linter.unusedVariables false
open Go.Fw
set_option maxRecDepth 20000
set_option maxHeartbeats 4000000
attribute [local irreducible] ACalls AMoves
def Qo0 (y:Int):List Int->Nat->Bool
 | [],_=>false
 | x_1 :: r,i=>bif ((Qe1 y)==x_1) then true else Qo0 y r (i+1)
def Qs5 (line:ByteArray):List (Nat × Int)->LexReader->LexReader
 | [],c=>c
 | x_ :: r,c=>Qs5 line r { c with line:=(c.line++([x_.2]:List Int)) }
def QS1 :Nat->List Token->LexReader->(List Token) × Int × Int
 | 0,_,_=>([],0,0)
 | m+1,out,c2=>bif (c2.error==0) then bif ((Q10 c2 (fun (y:Int)=>Qo0 y ([1]:List Int) 0)).2.at_==(((Q10 c2 (fun (y:Int)=>Qo0 y ([1]:List Int) 0)).2.line).length:Int)) then (out,(((Q10 c2 (fun (y:Int)=>Qo0 y ([1]:List Int) 0)).2.line).length:Int),0) else QS1 m (out++([{ (Qf0 ((Q10 c2 (fun (y:Int)=>Qo0 y ([1]:List Int) 0)).2)).1 with at_:=(Q10 c2 (fun (y:Int)=>Qo0 y ([1]:List Int) 0)).2.at_ }]:List Token)) ((Qf0 ((Q10 c2 (fun (y:Int)=>Qo0 y ([1]:List Int) 0)).2)).2) else ([],c2.bad,c2.error)
def Qt5 (c:LexReader):(List Token) × Int × Int:=QS1 ((2*Int.toNat ((c.line.length:Int) - c.at_)+(bif c.error==0 then 1 else 0))+1) [] c
def Qh1 (line:ByteArray):(List Token) × Int × Int:=bif (decide ((ByteArray.size line:Int) > 400)) then ([],0,3) else Qt5 (Qs5 line (Qm7 line) LexReader.zero)
theorem b6a0 {P:Prop} (h:P:=by first|(have hq:=hrd _ (by assumption);exact ⟨hq.2.1.1,hq.2.1.2.1,hq.2.1.2.2,fun hz=>by have hq3:=hq.2.2.2 hz;simp only [List.length_append,List.length_cons,List.length_nil];omega⟩)|first|(refine ⟨by omega,by omega,by omega,fun _=>by simp;omega⟩)|first|(simp [LexReader.zero];done)|first|(simp;omega)|exact exA):P:=h
theorem lex_Tokens_c (line:ByteArray) (hs0:line.size<=4294967296):GV 301 [Sg line] (AVal.tup [tokenL ((Qh1 line).1),I ((Qh1 line).2.1),I ((Qh1 line).2.2)]):=by
 generalize hR:Qh1 line=R;refine gA (kp 12 [14,18,19,20,38,51]) Tryz.func301 ?_;have hk0:=hs0;obtain z15:line.size<=4294967296:=hs0;refine ai (fun h1=>?_) (fun h2=>?_)
 ·have qh1:=of_decide_eq_true h1;exact lfA
 ·have qh2:=of_decide_eq_false h2;refine Qe0 (fun (c:LexReader) (pos:Nat)=>∃ m,ByteArray.size line - pos<=m∧Qt5 (Qs5 line (Q34 line m pos) c)=R∧c.line.length<=pos∧pos<=ByteArray.size line∧c.at_=0) (fun c pos=>ByteArray.size line - pos) (fun c pos=>[(2,AVal.lit (.slice none 0 0)),(3,I 0),(4,I 0),(5,AVal.ptr 0 0 4 0 0),(18,AVal.ptr 1 0 1 0 0)]) (fun c pos=>[(0,AObj.row 321 4 [[AVal.own 2 0 1 0 c.line.length,I c.at_,I c.bad,I c.error]]),(0,AObj.other (.strIter line pos)),(0,AObj.row 21 1 (c.line.map (fun q_=>[J q_])))]) LexReader.zero 0 ((Qx1 21 1).trans (wkA [0,1,2])) ⟨ByteArray.size line,by first|(have hq:=hrd _ (by assumption);omega)|exact omA,foll hR (cf h2 rfl),b6a0⟩ ?_;clear hR;rintro c pos ⟨m,hm,hR,hx⟩;(try dsimp only at hR hm hx);refine ai (fun h3=>?_) (fun h4=>?_)
  ·have hlt:=of_decide_eq_true h3;have hw:=Q28 line pos;have hwe:=Q18 line pos hlt;obtain ⟨m,rfl⟩:=sucA m;rw [Q53 h3] at hR;refine ai (fun _=>?_) (fun h=>nomatch h);refine Or.inl ?_;(first|refine ⟨Qo1 4 rfl lnA apA,?_⟩|refine ⟨QI0 4 rfl apA,?_⟩);exact Q60 { c with line:=(c.line++([(pos,((Utf8.decode line pos).1:Int)).2]:List Int)) } (pos+(Utf8.decode line pos).2) (wkA [0,1,2]) (by first|(have hq:=hrd _ (by assumption);omega)|exact omA) ⟨m,by first|(have hq:=hrd _ (by assumption);omega)|exact omA,foll hR (congrArg (fun p:LexReader=>Qt5 p) rfl),b6a0⟩
  ·rw [Qn5 h4] at hR;refine ai (fun h=>nomatch h) (fun _=>?_);replace hR:Qt5 c=R:=fo2 (fun p:LexReader=>Qt5 p) (c) hR rfl;refine Or.inl ?_;refine ACalls.of_cwp (fun _=>true) Tryz.func306 rfl rfl ?_;refine ⟨_,_,Told.refl,?_⟩;refine Qe0 (fun (out:List Token) (c2:LexReader)=>∃ m,(2*Int.toNat ((c2.line.length:Int) - c2.at_)+(bif c2.error==0 then 1 else 0))<m∧QS1 m out c2=R∧0<=c2.at_∧c2.at_<=(c2.line.length:Int)∧c2.line.length<=400∧((c2.error==0)=true->(out.length:Int)<=c2.at_)) (fun out c2=>(2*Int.toNat ((c2.line.length:Int) - c2.at_)+(bif c2.error==0 then 1 else 0))) (fun out c2=>[(2,AVal.lit (.slice none 0 0)),(3,I 0),(4,I 0),(5,AVal.ptr 0 0 4 0 0),(8,AVal.fn (.func 315) [] [AVal.ptr 1 0 1 0 0]),(9,AVal.own 2 0 4 0 out.length)]) (fun out c2=>[(0,AObj.row 321 4 [[runes c2.line,I c2.at_,I c2.bad,I c2.error]]),(0,AObj.row 52 1 [[ints ([1]:List Int)]]),(0,AObj.row 305 4 (out.map Token.cells))]) [] c ((Qx1 305 4).trans (wk [0,3,4] (tO rfl (QN2 (cv (Q98 _ _ rfl (Nat.zero_le _) (by decide) eqA (fun _=>lowL1 rfl) lnA) (c1 (c1 (c1 .nil))))) (tO rfl (QN2 (cv (turn_as (QA5 (c:=(fun q_=>[I q_])) (d:=0) ([1]:List Int) rfl) lw) .nil)) (tO rfl (tl eqA) .nil))) (s1 (s1 (s1 (sv (Qg1 0 rfl rfl) (sv (QM7 .nil (cv (Qg1 1 rfl rfl) .nil)) (sv (Q87 2 rfl) .nil)))))))) ⟨_,Nat.lt_succ_self _,foll hR rfl,b6a0⟩ ?_;clear hR;rintro out c2 ⟨m,hm,hR,hx⟩;(try dsimp only at hR hm hx);obtain ⟨m,rfl⟩:=sucA m;refine ai (fun h5=>?_) (fun h6=>?_)
   ·have hol:=hx.2.2.2 h5;have hrd:=fun (b:Int->Bool) (hn:((Q10 c2 b).2.at_==((Q10 c2 b).2.line.length:Int))=false)=>lex_round c2 _ b (by omega) (by omega) (by omega) h5 rfl hn;have cl1:∀ (y1:Int),AMoves Tryz.prog 315 [J y1,AVal.ptr 0 0 1 0 0] [(0,AObj.row 52 1 [[ints ([1]:List Int)]])] 1 (Bo ((fun (y:Int)=>Qo0 y ([1]:List Int) 0) y1)) [(0,AObj.row 52 1 [[ints ([1]:List Int)]])]:=by
     intro y1;have hR:(fun (y:Int)=>Qo0 y ([1]:List Int) 0) y1=(fun (y:Int)=>Qo0 y ([1]:List Int) 0) y1:=rfl;refine mo (kp 6 [6,7,8,9,15]) Tryz.func315 ?_;refine Qg0 (fun (i:Nat)=>Qo0 y1 (List.drop i ([1]:List Int)) i=(fun (y:Int)=>Qo0 y ([1]:List Int) 0) y1∧i<=([1]:List Int).length) (fun i=>([1]:List Int).length - i) (fun i=>[(0,J y1),(3,Bo false),(6,ints ([1]:List Int)),(7,I (([1]:List Int).length:Int)),(8,I (i:Int))]) (fun i=>[(0,AObj.row 52 1 [[ints ([1]:List Int)]])]) 0 (wkA [0]) ⟨foll hR rfl,by exact omA⟩ ?_;clear hR;rintro i ⟨hR,hj⟩;(try dsimp only at hR hj);refine ai (fun h7=>?_) (fun h8=>?_)
     ·(have hlt:i<([1]:List Int).length:=by have:=of_decide_eq_true h7;omega);rw [Qc0 0 hlt] at hR;refine ai gkA ?_;refine us (Qt4 y1 _) ?_;refine ai (fun h9=>?_) (fun h10=>?_)
      ·refine Qt0 (fun r:Bool=>Bo r) (fun _=>[(0,AObj.row 52 1 [[ints ([1]:List Int)]])]) (leaf:=true) (foll hR (ct h9 rfl)) ?_;exact tt [0] (tO rfl (ts (lv lw LowL.nil)) .nil) t1
      ·exact Ql0 (i+1) (wkA [0]) omA ⟨folA,by exact omA⟩
     ·rw [Qd0 (l:=([1]:List Int)) (j:=i) (geA h8)] at hR;refine Qt0 (fun r:Bool=>Bo r) (fun _=>[(0,AObj.row 52 1 [[ints ([1]:List Int)]])]) (leaf:=false) (foll hR rfl) ?_;exact tt [0] (tO rfl (ts (lv lw LowL.nil)) .nil) t1
    have hof1:AMoves Tryz.prog 307 [AVal.ptr 0 0 4 0 0,AVal.fn (.func 315) [] [AVal.ptr 1 0 1 0 0]] [(0,AObj.row 321 4 [[runes c2.line,I c2.at_,I c2.bad,I c2.error]]),(0,AObj.row 52 1 [[ints ([1]:List Int)]])] 2 (Sg ((Q10 c2 (fun (y:Int)=>Qo0 y ([1]:List Int) 0)).1)) [(0,AObj.row 321 4 [[runes (((Q10 c2 (fun (y:Int)=>Qo0 y ([1]:List Int) 0)).2).line),I (((Q10 c2 (fun (y:Int)=>Qo0 y ([1]:List Int) 0)).2).at_),I (((Q10 c2 (fun (y:Int)=>Qo0 y ([1]:List Int) 0)).2).bad),I (((Q10 c2 (fun (y:Int)=>Qo0 y ([1]:List Int) 0)).2).error)]]),(0,AObj.row 52 1 [[ints ([1]:List Int)]])]:=by
     have hR:Q10 c2 (fun (y:Int)=>Qo0 y ([1]:List Int) 0)=Q10 c2 (fun (y:Int)=>Qo0 y ([1]:List Int) 0):=rfl;refine mo (kp 6 [33]) Tryz.func307 ?_;refine Qg0 (fun (c3:LexReader)=>∃ m,(Int.toNat ((c3.line.length:Int) - c3.at_))<m∧QE0 c2 (QD0 (fun (y:Int)=>Qo0 y ([1]:List Int) 0) m c3)=Q10 c2 (fun (y:Int)=>Qo0 y ([1]:List Int) 0)∧0<=c3.at_∧c3.at_<=(c3.line.length:Int)∧c3.line.length<=400∧c2.at_<=c3.at_∧0<=c2.at_) (fun c3=>(Int.toNat ((c3.line.length:Int) - c3.at_))) (fun c3=>[(0,AVal.ptr 0 0 4 0 0),(1,AVal.fn (.func 315) [] [AVal.ptr 1 0 1 0 0]),(4,Sg ⟨#[]⟩),(5,I c2.at_)]) (fun c3=>[(0,AObj.row 321 4 [[runes c3.line,I c3.at_,I c3.bad,I c3.error]]),(0,AObj.row 52 1 [[ints ([1]:List Int)]])]) c2 (wkA [0,1]) ⟨_,Nat.lt_succ_self _,foll hR rfl,by exact exA⟩ ?_;clear hR;rintro c3 ⟨m,hm,hR,hx⟩;(try dsimp only at hR hm hx);obtain ⟨m,rfl⟩:=sucA m;refine dchk (by kernel_rfl) ?_;refine ai gkA ?_;(first|apply u2|apply u3|apply u4|apply us);exact mv [1] (cl1 (c3.line.getD (Int.toNat c3.at_) 0)) (dO (ds (lv lw LowL.nil)) .nil) (d1 (dp .nil)) (rO (re (lv lw LowL.nil)) .nil) rx;(repeat ((first|refine ai rfl ?_|refine ai (fun _=>rfl) ?_)));refine ai (fun h11=>?_) (fun h12=>?_)
     ·have hq1:=of_decide_eq_true ((Bool.and_eq_true _ _).mp h11).1;have hwr:w64 (c3.at_+1)=c3.at_+1:=wr (by omega);exact Ql0 { c3 with at_:=(w64 (c3.at_+1)) } (wk [0,1] (tO rfl (ts LexReader.lo) (tO rfl (ts (lv lw LowL.nil)) .nil)) (sv (Qg1 0 rfl rfl) (sv (QM7 .nil (cv (Qg1 1 rfl rfl) .nil)) (s1 (s1 .nil))))) omA ⟨m,by exact omA,foll hR (congrArg (fun p:LexReader=>QE0 c2 p) (ct h11 rfl)),by exact exA⟩
     ·replace hR:QE0 c2 c3=Q10 c2 (fun (y:Int)=>Qo0 y ([1]:List Int) 0):=fo2 (fun p:LexReader=>QE0 c2 p) (c3) hR (cf h12 rfl);refine dchk (by kernel_rfl) ?_;refine ai gkA ?_;(first|refine ⟨(List.drop (Int.toNat c2.at_) (List.take (Int.toNat c3.at_) c3.line)),by exact cvA,?_⟩|refine ⟨_,fun _=>⟨(List.drop (Int.toNat c2.at_) (List.take (Int.toNat c3.at_) c3.line)),by exact cvA,rfl,rfl⟩,?_⟩|refine ⟨_,rfl,⟨(List.drop (Int.toNat c2.at_) (List.take (Int.toNat c3.at_) c3.line)),by exact cvA,Sub.refl _,rfl⟩,?_⟩);(repeat ((first|refine ai rfl ?_|refine ai (fun _=>rfl) ?_)));refine Qt0 (fun r:ByteArray × LexReader=>Sg r.1) (fun r:ByteArray × LexReader=>[(0,AObj.row 321 4 [[runes r.2.line,I r.2.at_,I r.2.bad,I r.2.error]]),(0,AObj.row 52 1 [[ints ([1]:List Int)]])]) (leaf:=((runesBytes (List.drop (Int.toNat c2.at_) (List.take (Int.toNat c3.at_) c3.line))),c3)) (foll hR rfl) ?_;exact tt [0,1] (tO rfl (ts LexReader.lo) (tO rfl (ts (lv lw LowL.nil)) .nil)) t1
    refine us (mv [0,1] (hof1) (dO (ds LexReader.lo) (dO (ds (lv lw LowL.nil)) .nil)) (dp (dv (dn_fn .nil (dp .nil)) .nil)) (rO (re LexReader.lo) (rO (re (lv lw LowL.nil)) .nil)) rx) ?_;refine dchk (by kernel_rfl) ?_;(repeat ((first|refine ai rfl ?_|refine ai (fun _=>rfl) ?_)));refine ai (fun h13=>?_) (fun h14=>?_)
    ·refine dchk (by kernel_rfl) ?_;(repeat ((first|refine ai rfl ?_|refine ai (fun _=>rfl) ?_)));obtain rfl:=foll hR (ct h5 (ct h13 rfl));exact Q80 (Low.tup' (.cons lw (l1 (l1 .nil)))) (Seen.tup (ev (Q90 Token.zero _ rfl eqA lnA) (e1 (e1 .nil))))
    ·refine us (mv [0] (Q5d ((Q10 c2 (fun (y:Int)=>Qo0 y ([1]:List Int) 0)).2) (by first|(exact Nat.le_trans (hrd _ (by assumption)).1.2.2 (by decide))|exact szA) (by exact (hrd _ (by assumption)).1)) (dO (ds LexReader.lo) .nil) (dp .nil) (rO (re LexReader.lo) .nil) (Ren.low _ (Low.agg' (Token.lo)))) ?_;refine Or.inl ?_;(first|refine ⟨Qo1 40 rfl lnA apA,?_⟩|refine ⟨QI0 40 rfl apA,?_⟩);exact Q60 (out++([{ (Qf0 ((Q10 c2 (fun (y:Int)=>Qo0 y ([1]:List Int) 0)).2)).1 with at_:=(Q10 c2 (fun (y:Int)=>Qo0 y ([1]:List Int) 0)).2.at_ }]:List Token)) ((Qf0 ((Q10 c2 (fun (y:Int)=>Qo0 y ([1]:List Int) 0)).2)).2) (wkA [0,1,2]) (by first|(have hq:=hrd _ (by assumption);omega)|exact omA) ⟨m,by first|(have hq:=hrd _ (by assumption);omega)|exact omA,foll hR (ct h5 (cf h14 rfl)),b6a0⟩
   ·refine dchk (by kernel_rfl) ?_;(repeat ((first|refine ai rfl ?_|refine ai (fun _=>rfl) ?_)));exact lfA
def Ql2 (v:Job):Bool:=((((v.start==0)&&(v.limit==0))&&(v.nodes==0))&&(((v.promise==(-1))&&(v.choice==0))||(((Qh2 v.promise)&&(QK0 v v.choice).2)&&(!v.held))))
theorem Q4d (v:Job) (hs0:v.sz):GV 196 [Job.a v] (Bo (Ql2 v)):=by
 generalize hR:Ql2 v=R;refine gA (kp 6 []) Tryz.func196 ?_;obtain ⟨z1,z2,z3,z4,z5⟩:=Job.zz hs0;refine us (Q69 v v.choice szA _) ?_;(first|apply u2|apply u3|apply u4|apply us);exact Ql6 v.promise _;exact lfA
def Qk1 (v:Job):Bool:=bif (((((((!(QK0 v v.choice).2)||v.held)||(!(Qh2 v.start)))||(!(Qh2 v.promise)))||(decide (v.promise<v.start)))||(!(Qh2 v.limit)))||((w64 (v.limit - v.start))!=(QK0 v v.choice).1.wall)) then false else ((Qz6 v.nodes)&&(QM2 v.shape v.choice (Q40 v.nodes)))
theorem Qbc (v:Job) (hs0:v.sz):GV 197 [Job.a v] (Bo (Qk1 v)):=by
 generalize hR:Qk1 v=R;refine gA (kp 5 [61]) Tryz.func197 ?_;obtain ⟨z3,z4,z5,z6,z7⟩:=Job.zz hs0;refine us (Q69 v v.choice szA _) ?_;(first|apply u2|apply u3|apply u4|apply us);exact Ql6 v.start _;(first|apply u2|apply u3|apply u4|apply us);exact Ql6 v.promise _;(first|apply u2|apply u3|apply u4|apply us);exact Ql6 v.limit _;refine ai (fun h1=>?_) (fun h2=>?_)
 ·exact lfA
 ·refine dchk (by kernel_rfl) ?_;(first|apply u2|apply u3|apply u4|apply us);exact QA9 v.nodes _;(first|apply u2|apply u3|apply u4|apply us);exact Qc1 v.nodes _;(first|apply u2|apply u3|apply u4|apply us);exact Qn7 v.shape v.choice (Q40 v.nodes) szA _;(repeat ((first|refine ai rfl ?_|refine ai (fun _=>rfl) ?_|refine ai (fun _=>QA9 v.nodes _) ?_|refine ai (fun _=>Qc1 v.nodes _) ?_|refine ai (fun _=>Qn7 v.shape v.choice (Q40 v.nodes) szA _) ?_)));exact lfA
def Qm5 (s:State) (r_:Resize) (j:Job) (c:Int):Bool:=bif (((QC2 s (fun (y:Int) (y1:Node)=>((y1.job==r_.job)&&(y1.want==c))))!=(wu64 (BitVec.ofInt 64 r_.nodes &&& ~~~(BitVec.ofInt 64 r_.said)).toNat))||(!(Q36 s.nodes r_.said))) then false else bif r_.grow then ((r_.nodes==(Qx6 s.nodes r_.job 2))&&(decide ((w64 ((Q40 j.nodes)+(Q40 r_.nodes)))<=j.shape.max))) else (((wu64 (BitVec.ofInt 64 r_.nodes &&& ~~~(BitVec.ofInt 64 j.nodes)).toNat)==0)&&(decide ((w64 ((Q40 j.nodes) - (Q40 r_.nodes))) >= j.shape.min)))
def Qf3 (s:State) (r_:Resize) (j:Job):Bool:=bif (((((j.shape.kind != 3)||(r_.nodes==0))||((wu64 (BitVec.ofInt 64 r_.said &&& ~~~(BitVec.ofInt 64 r_.nodes)).toNat)!=0))||(decide (r_.since<0)))||(decide (r_.since > 1000000))) then false else bif r_.grow then Qm5 s r_ j 2 else Qm5 s r_ j 4
theorem Qkb (s:State) (r_:Resize) (j:Job) (hs0:s.sz) (hs1:j.sz):GV 123 [State.a s,Resize.a r_,Job.a j] (Bo (Qf3 s r_ j)):=by
 generalize hR:Qf3 s r_ j=R;refine gA (kj [1000006] 11 [37,39,57,65]) Tryz.func123 ?_;have hk0:=hs0;obtain ⟨z13,z14,z15,z16,z17,z18,z19⟩:=hs0;obtain ⟨z20,z21,z22,z23,z24⟩:=Job.zz hs1;refine ai (fun h1=>?_) (fun h2=>?_)
 ·obtain rfl:=foll hR (ct h1 rfl);exact Q80 lx sr
 ·refine Qb1 (fun (c:Int)=>Qm5 s r_ j c=R) (fun c=>[(3,AVal.ptr 0 0 8 0 0),(4,AVal.ptr 1 0 5 0 0),(5,AVal.ptr 2 0 20 0 0),(6,Bo false),(7,AVal.ptr 3 0 1 0 0)]) (fun c=>[(0,AObj.row 28 8 [[I s.now,nodeL s.nodes,jobL s.jobs,Qp1 s.resizes,bookL s.books,QD2 s.ledger,I s.nextJob,I s.nextBook]]),(0,AObj.row 49 5 [[I r_.job,Bo r_.grow,U r_.nodes,U r_.said,I r_.since]]),(0,AObj.row 72 20 [[I j.id,Sg j.name,Sg j.user,Sg j.account,I j.shape.kind,altL j.shape.alts,I j.shape.min,I j.shape.max,I j.shape.wall,I j.prio,depL j.after,I j.state,Bo j.held,I j.born,I j.promise,I j.choice,I j.start,I j.limit,U j.nodes,I j.used]]),(0,AObj.row 3 1 [[I c]])]) ?_ ?_
  ·clear hR;rintro c hR;(try dsimp only at hR);have cl1:∀ (y1:Int) (y2:Node),AMoves Tryz.prog 183 [I y1,Node.a y2,AVal.ptr 0 0 5 0 0,AVal.ptr 1 0 1 0 0] [(0,AObj.row 49 5 [[I r_.job,Bo r_.grow,U r_.nodes,U r_.said,I r_.since]]),(0,AObj.row 3 1 [[I c]])] 2 (Bo ((fun (y:Int) (y1:Node)=>((y1.job==r_.job)&&(y1.want==c))) y1 y2)) [(0,AObj.row 49 5 [[I r_.job,Bo r_.grow,U r_.nodes,U r_.said,I r_.since]]),(0,AObj.row 3 1 [[I c]])]:=by
    intro y1 y2;have hR:(fun (y:Int) (y1:Node)=>((y1.job==r_.job)&&(y1.want==c))) y1 y2=(fun (y:Int) (y1:Node)=>((y1.job==r_.job)&&(y1.want==c))) y1 y2:=rfl;refine mo (kp 7 []) Tryz.func183 ?_;refine Qt0 (fun r:Bool=>Bo r) (fun _=>[(0,AObj.row 49 5 [[I r_.job,Bo r_.grow,U r_.nodes,U r_.said,I r_.since]]),(0,AObj.row 3 1 [[I c]])]) (leaf:=((y2.job==r_.job)&&(y2.want==c))) (foll hR rfl) ?_;exact tt [0,1] (tO rfl (ts Resize.lo) (tO rfl (ts (l1 LowL.nil)) .nil)) t1
   have hof1:AMoves Tryz.prog 182 [State.a s,AVal.fn (.func 183) [] [AVal.ptr 0 0 5 0 0,AVal.ptr 1 0 1 0 0]] [(0,AObj.row 49 5 [[I r_.job,Bo r_.grow,U r_.nodes,U r_.said,I r_.since]]),(0,AObj.row 3 1 [[I c]])] 2 (U (QC2 s (fun (y:Int) (y1:Node)=>((y1.job==r_.job)&&(y1.want==c))))) [(0,AObj.row 49 5 [[I r_.job,Bo r_.grow,U r_.nodes,U r_.said,I r_.since]]),(0,AObj.row 3 1 [[I c]])]:=by
    have hR:QC2 s (fun (y:Int) (y1:Node)=>((y1.job==r_.job)&&(y1.want==c)))=QC2 s (fun (y:Int) (y1:Node)=>((y1.job==r_.job)&&(y1.want==c))):=rfl;refine mo (kp 10 [11,12,13,14,21]) Tryz.func182 ?_;refine Qe0 (fun (l:List Int) (i:Nat)=>QZ3 (QR5 (fun (y:Int) (y1:Node)=>((y1.job==r_.job)&&(y1.want==c))) (List.drop i s.nodes) l i)=QC2 s (fun (y:Int) (y1:Node)=>((y1.job==r_.job)&&(y1.want==c)))∧i<=s.nodes.length∧l.length<=i) (fun l i=>s.nodes.length - i) (fun l i=>[(1,AVal.fn (.func 183) [] [AVal.ptr 0 0 5 0 0,AVal.ptr 1 0 1 0 0]),(4,U 0),(5,AVal.own 2 0 1 0 l.length),(11,nodeL s.nodes),(12,I (s.nodes.length:Int)),(13,I (i:Int))]) (fun l i=>[(0,AObj.row 49 5 [[I r_.job,Bo r_.grow,U r_.nodes,U r_.said,I r_.since]]),(0,AObj.row 3 1 [[I c]]),(0,AObj.row 3 1 (l.map (fun q_=>[I q_])))]) [] 0 ((Qx1 3 1).trans (wkA [0,1,3])) ⟨foll hR rfl,by exact omA,by exact exA⟩ ?_;clear hR;rintro l i ⟨hR,hj,hx⟩;(try dsimp only at hR hj hx);refine ai (fun h3=>?_) (fun h4=>?_)
    ·have hlt:=ltA h3;rw [Qc0 Node.zero hlt] at hR;refine ai gkA ?_;refine us (mv [0,1] (cl1 (i:Int) (s.nodes.getD i Node.zero)) (dO (ds Resize.lo) (dO (ds (l1 LowL.nil)) .nil)) (d1 (dl (Node.low _ _) (dp (dp .nil)))) (rO (re Resize.lo) (rO (re (l1 LowL.nil)) .nil)) rx) ?_;refine ai (fun h5=>?_) (fun h6=>?_)
     ·refine Or.inl ?_;(first|refine ⟨Qo1 8 rfl lnA apA,?_⟩|refine ⟨QI0 8 rfl apA,?_⟩);exact Q60 (l++([(i:Int)]:List Int)) (i+1) (wkA [0,1,2]) omA ⟨foll hR (congrArg (fun p:(List Int)=>QZ3 p) (ct h5 rfl)),by exact omA,by exact exA⟩
     ·exact Q60 l (i+1) (wkA [0,1,2]) omA ⟨foll hR (congrArg (fun p:(List Int)=>QZ3 p) (cf h6 rfl)),by exact omA,by exact exA⟩
    ·rw [Qd0 (l:=s.nodes) (j:=i) (geA h4)] at hR;replace hR:QZ3 l=QC2 s (fun (y:Int) (y1:Node)=>((y1.job==r_.job)&&(y1.want==c))):=fo2 (fun p:(List Int)=>QZ3 p) (l) hR rfl;refine us (AGives.lent (Qy7 l szA []) (ev (Q90 _ _ rfl eqA lnA) .nil) (.cons lw .nil) (Qm3 rfl)) ?_;refine Qt0 (fun r:Int=>U r) (fun r:Int=>[(0,AObj.row 49 5 [[I r_.job,Bo r_.grow,U r_.nodes,U r_.said,I r_.since]]),(0,AObj.row 3 1 [[I c]])]) (leaf:=(QH0 l).1) (foll hR rfl) ?_;exact tt [0,1] (tO rfl (ts Resize.lo) (tO rfl (ts (l1 LowL.nil)) .nil)) t1
   refine us (mv [1,3] (hof1) (dO (ds Resize.lo) (dO (ds (l1 LowL.nil)) .nil)) (dv (QK6 (Low.agg' (State.lo))) (dv (dn_fn .nil (dp (dp .nil))) .nil)) (rO (re Resize.lo) (rO (re (l1 LowL.nil)) .nil)) rx) ?_;(first|apply u2|apply u3|apply u4|apply us);exact Qj9 s.nodes r_.said szA _;refine ai (fun h7=>?_) (fun h8=>?_)
   ·obtain rfl:=foll hR (ct h7 rfl);exact Q80 lx sr
   ·refine dchk (by kernel_rfl) ?_;(first|apply u2|apply u3|apply u4|apply us);exact Qc1 j.nodes _;(first|apply u2|apply u3|apply u4|apply us);exact Qc1 r_.nodes _;(repeat ((first|refine ai rfl ?_|refine ai (fun _=>rfl) ?_|refine ai (fun _=>Qc1 j.nodes _) ?_|refine ai (fun _=>Qc1 r_.nodes _) ?_)));refine ai (fun h9=>?_) (fun h10=>?_)
    ·refine dchk (by kernel_rfl) ?_;(first|apply u2|apply u3|apply u4|apply us);exact Q3d s.nodes r_.job 2 szA _;(repeat ((first|refine ai rfl ?_|refine ai (fun _=>rfl) ?_|refine ai (fun _=>Q3d s.nodes r_.job 2 szA _) ?_)));obtain rfl:=foll hR (cf h8 (ct h9 rfl));exact Q80 lx sr
    ·obtain rfl:=foll hR (cf h8 (cf h10 rfl));exact Q80 lx sr
  ·refine ai (fun h11=>?_) (fun h12=>?_)
   ·exact Q70 2 (wkA [0,1,2,3]) (foll hR (cf h2 (ct h11 rfl)))
   ·exact Q70 4 (wkA [0,1,2,3]) (foll hR (cf h2 (cf h12 rfl)))
def QO2 (l:List Node) (job:Int):Int:=bif (decide (job<1)) then 0 else (Qx6 l job 1)
theorem Qrd (l:List Node) (job:Int) (hs0:l.length<=4294967296):GV 77 [nodeL l,I job] (U (QO2 l job)):=by
 generalize hR:QO2 l job=R;refine gA (kp 5 [6]) Tryz.func77 ?_;have hk0:=hs0;obtain z3:l.length<=4294967296:=hs0;refine ai (fun h1=>?_) (fun h2=>?_)
 ·have qh1:=of_decide_eq_true h1;exact lfA
 ·have qh2:=of_decide_eq_false h2;refine us (Q3d l job 1 szA _) ?_;exact lfA
def QP1 (set_:Int) (act:Int) (job:Int) (now:Int):List Int->Nat->List Node->(List Node) × (List Note) × Int
 | [],_,c=>bif (!(QK3 act)) then (c,[],0) else (c,(Q35 c (Qm0 set_)),0)
 | x_ :: r,i,c=>bif ((Qu3 c x_ act job now).2==0) then bif ((Qu3 c x_ act job now).2 != 0) then ([],[],(Qu3 c x_ act job now).2) else QP1 set_ act job now r (i+1) ((Qu3 c x_ act job now).1) else bif ((Qu3 c x_ act job now).2 != 0) then ([],[],(Qu3 c x_ act job now).2) else QP1 set_ act job now r (i+1) c
def Qp0 (l:List Node) (set_:Int) (act:Int) (job:Int) (now:Int):(List Node) × (List Note) × Int:=bif ((Qa0 l)!=0) then ([],[],(Qa0 l)) else QP1 set_ act job now (Qm0 set_) 0 l
theorem b6a1 {P:Prop} (h:P:=by first|((have q:=fleet_Do_len c ((Qm0 set_).getD i 0) act job now;omega))|exact exA):P:=h
theorem Qt1 (l:List Node) (set_:Int) (act:Int) (job:Int) (now:Int) (hs0:l.length<=4294967296):GV 97 [nodeL l,U set_,I act,I job,I now] (AVal.tup [nodeL ((Qp0 l set_ act job now).1),noteL ((Qp0 l set_ act job now).2.1),I ((Qp0 l set_ act job now).2.2)]):=by
 generalize hR:Qp0 l set_ act job now=R;refine gA (kp 20 [23,28,29,30,31,38,46]) Tryz.func97 ?_;have hk0:=hs0;obtain z13:l.length<=4294967296:=hs0;have hll:=QI7 set_;refine us (QX2 l szA _) ?_;refine ai (fun h1=>?_) (fun h2=>?_)
 ·exact lfA
 ·refine us (Qeb set_ _) ?_;refine Qe0 (fun (i:Nat) (c:List Node)=>QP1 set_ act job now (List.drop i (Qm0 set_)) i c=R∧i<=(Qm0 set_).length∧c.length<=4294967296) (fun i c=>(Qm0 set_).length - i) (fun i c=>[(5,AVal.ptr 0 0 1 0 0),(7,AVal.ptr 1 0 1 0 0),(10,AVal.lit (.slice none 0 0)),(11,AVal.lit (.slice none 0 0)),(12,I 0),(14,ints (Qm0 set_)),(15,AVal.fn (.func 155) [] [AVal.ptr 0 0 1 0 0,AVal.ptr 1 0 1 0 0,AVal.ptr 2 0 1 0 0,AVal.ptr 3 0 1 0 0]),(28,ints (Qm0 set_)),(29,I ((Qm0 set_).length:Int)),(30,I (i:Int))]) (fun i c=>[(0,AObj.row 22 1 [[nodeL c]]),(0,AObj.row 3 1 [[I act]]),(0,AObj.row 3 1 [[I job]]),(0,AObj.row 3 1 [[I now]])]) 0 l (wkA [0,1,2,3]) ⟨folA,by exact omA,b6a1⟩ ?_;clear hR;rintro i c ⟨hR,hj,hx⟩;(try dsimp only at hR hj hx);refine ai (fun h3=>?_) (fun h4=>?_)
  ·have hlt:=ltA h3;rw [Qc0 0 hlt] at hR;refine ai gkA ?_;refine ACalls.of_cwp (fun _=>true) Tryz.func155 rfl rfl ?_;refine us (fleet_Do_c c ((Qm0 set_).getD i 0) act job now szA _) ?_;refine ai (fun h5=>?_) (fun h6=>?_)
   ·refine ⟨_,_,Told.refl,?_⟩;refine ai (fun h7=>?_) (fun h8=>?_)
    ·exact lfA
    ·exact Q60 (i+1) ((Qu3 c ((Qm0 set_).getD i 0) act job now).1) (wkA [0,1,2,3]) omA ⟨folA,by exact omA,b6a1⟩
   ·refine ⟨_,_,Told.refl,?_⟩;refine ai (fun h9=>?_) (fun h10=>?_)
    ·exact lfA
    ·exact Q60 (i+1) c (wkA [0,1,2,3]) omA ⟨folA,by exact omA,b6a1⟩
  ·rw [Qd0 (l:=(Qm0 set_)) (j:=i) (geA h4)] at hR;(first|refine ⟨Qo1 56 rfl lnA apA,?_⟩|refine ⟨QI0 56 rfl apA,?_⟩);refine us (alloc_sends_c act _) ?_;refine ai (fun h11=>?_) (fun h12=>?_)
   ·obtain rfl:=foll hR (ct h11 rfl);exact Q80 (Low.tup' (.cons lw (.cons lw (l1 .nil)))) (Seen.tup (ev (Q90 Node.zero _ rfl eqA lnA) (ev (Q30) (e1 .nil))))
   ·refine us (alloc_Notes_c c (Qm0 set_) szA szA _) ?_;obtain rfl:=foll hR (cf h12 rfl);exact Q80 (Low.tup' (.cons lw (.cons lw (l1 .nil)))) (Seen.tup (ev (Q90 Node.zero _ rfl eqA lnA) (e1 (e1 .nil))))
theorem QG7 (l:List Node):∀ (r:List Int) (out:List Note) (i:Nat),(QE2 l r out i).length<=out.length+r.length
 | [],out,_=>by rw [QE2];simp
 | x :: r,out,i=>by
  rw [QE2]
  cases (Q84 l x).2 with
  | true =>
   have:=QG7 l r (out++[(Q84 l x).1]) (i+1)
   simp only [cond_true,List.length_append,List.length_cons,List.length_nil] at *
   omega
  | false =>
   have:=QG7 l r out (i+1)
   simp only [cond_false,List.length_cons] at *
   omega
theorem Q2a (set_ act job now:Int):∀ (r:List Int) (i:Nat) (c:List Node),(QP1 set_ act job now r i c).2.1.length<=64
 | [],i,c=>by
  rw [QP1]
  cases (!(QK3 act)) with
  | true=>simp
  | false =>
   have h:=QG7 c (Qm0 set_) [] 0
   have h2:=QI7 set_
   simp only [cond_false,Q35,QJ3]
   simp only [List.length_nil] at h
   omega
 | x :: r,i,c=>by
  rw [QP1]
  cases ((Qu3 c x act job now).2==0) <;> cases ((Qu3 c x act job now).2 != 0) <;> simp only [cond_true,cond_false] <;> first|exact Q2a set_ act job now r _ _|exact Nat.zero_le _
theorem Q63 (l:List Node) (set_ act job now:Int):(Qp0 l set_ act job now).2.1.length<=64:=by
 unfold Qp0
 cases (Qa0 l != 0) with
 | true=>exact Nat.zero_le _
 | false=>exact Q2a _ _ _ _ _ _ _
def QM0 (line:ByteArray):Nat->List Token->Int->(List Token) × Int × Int
 | 0,_,_=>([],0,0)
 | m+1,out,i=>bif (decide (i<((QL0 line).length:Int))) then bif ((Qi0 ((QL0 line).getD (Int.toNat i) 0))==1) then QM0 line m out (w64 (i+1)) else bif ((Qd1 (QL0 line) i).2.2.2 != 0) then ([],(Qd1 (QL0 line) i).2.2.1,(Qd1 (QL0 line) i).2.2.2) else QM0 line m (out++([(Qd1 (QL0 line) i).1]:List Token)) ((Qd1 (QL0 line) i).2.1) else (out,((QL0 line).length:Int),0)
def QJ0 (line:ByteArray):(List Token) × Int × Int:=bif (decide ((ByteArray.size line:Int) > 400)) then ([],0,3) else QM0 line ((Int.toNat (((QL0 line).length:Int) - 0))+1) [] 0
theorem b6a2 {P:Prop} (h:P:=by first|(have hp2:=hp1 (by assumption);refine ⟨by omega,by omega,?_⟩;simp only [List.length_append,List.length_cons,List.length_nil];omega)|exact exA):P:=h
theorem ref05_Tokens_c (line:ByteArray) (hs0:line.size<=4294967296):GV 304 [Sg line] (AVal.tup [tokenL ((QJ0 line).1),I ((QJ0 line).2.1),I ((QJ0 line).2.2)]):=by
 generalize hR:QJ0 line=R;refine gA (kp 12 [14,20,26,38]) Tryz.func304 ?_;have hk0:=hs0;obtain z9:line.size<=4294967296:=hs0;have hf0:=Qpa line;refine ai (fun h1=>?_) (fun h2=>?_)
 ·have qh1:=of_decide_eq_true h1;exact lfA
 ·have qh2:=of_decide_eq_false h2;refine us (ref05_Runes_c line szA _) ?_;refine Qe0 (fun (out:List Token) (i:Int)=>∃ m,(Int.toNat (((QL0 line).length:Int) - i))<m∧QM0 line m out i=R∧0<=i∧i<=((QL0 line).length:Int)∧(out.length:Int)<=i) (fun out i=>(Int.toNat (((QL0 line).length:Int) - i))) (fun out i=>[(2,AVal.lit (.slice none 0 0)),(3,I 0),(4,I 0),(5,runes (QL0 line)),(6,AVal.own 0 0 4 0 out.length),(7,I i)]) (fun out i=>[(0,AObj.row 305 4 (out.map Token.cells))]) [] 0 ((Qx1 305 4).trans (wkA [0])) ⟨_,Nat.lt_succ_self _,foll hR (cf h2 rfl),b6a2⟩ ?_;clear hR;rintro out i ⟨m,hm,hR,hx⟩;(try dsimp only at hR hm hx);obtain ⟨m,rfl⟩:=sucA m;refine ai (fun h3=>?_) (fun h4=>?_)
  ·have qh3:=of_decide_eq_true h3;have hw1:w64 (i+1)=i+1:=wr (by omega);have hp1:=ref05_one_lt (QL0 line) i (by omega) (by omega) (by omega);refine ai gkA ?_;refine us (Qq4 ((QL0 line).getD (Int.toNat i) 0) _) ?_;refine ai (fun h5=>?_) (fun h6=>?_)
   ·exact Q60 out (w64 (i+1)) (wkA [0]) (by first|(have hp2:=hp1 (by assumption);omega)|exact omA) ⟨m,by first|(have hp2:=hp1 (by assumption);omega)|exact omA,foll hR (ct h3 (ct h5 rfl)),b6a2⟩
   ·refine us (ref05_one_c (QL0 line) i szA ckA _) ?_;refine ai (fun h7=>?_) (fun h8=>?_)
    ·exact lfA
    ·refine Or.inl ?_;(first|refine ⟨Qo1 40 rfl lnA apA,?_⟩|refine ⟨QI0 40 rfl apA,?_⟩);exact Q60 (out++([(Qd1 (QL0 line) i).1]:List Token)) ((Qd1 (QL0 line) i).2.1) (wkA [0]) (by first|(have hp2:=hp1 (by assumption);omega)|exact omA) ⟨m,by first|(have hp2:=hp1 (by assumption);omega)|exact omA,foll hR (ct h3 (cf h6 (cf h8 rfl))),b6a2⟩
  ·have qh4:=of_decide_eq_false h4;obtain rfl:=foll hR (cf h4 rfl);exact Q80 (Low.tup' (.cons lw (l1 (l1 .nil)))) (Seen.tup (ev (Q90 Token.zero _ rfl eqA lnA) (e1 (e1 .nil))))
def QV5 (s:ByteArray):Bool:=bif ((((Qh1 s).2.2 != 0)||((((Qh1 s).1).length:Int)!=1))||(!(((((Qh1 s).1).getD 0 Token.zero).kind==1)&&(((((Qh1 s).1).getD 0 Token.zero).text==s)&&(((((Qh1 s).1).getD 0 Token.zero).num==0)&&((((Qh1 s).1).getD 0 Token.zero).at_==0)))))) then false else true
theorem cmd_word_c (s:ByteArray) (hs0:s.size<=4294967296):GV 267 [Sg s] (Bo (QV5 s)):=by
 generalize hR:QV5 s=R;refine gA (kp 3 []) Tryz.func267 ?_;have hk0:=hs0;obtain z3:s.size<=4294967296:=hs0;refine ACalls.of_cwp (fun _=>true) Tryz.func294 rfl rfl ?_;refine ACalls.of_cwp (fun _=>true) Tryz.func302 rfl rfl ?_;refine ai (fun h=>nomatch h) (fun _=>?_);refine ai (fun h=>nomatch h) (fun _=>?_);refine ⟨_,_,Told.refl,?_⟩;refine us (lex_Tokens_c s szA _) ?_;refine dchk (by kernel_rfl) ?_;refine ai gkA ?_;refine ai (fun _=>(by kernel_rfl:eqOK _ _=true)) ?_;(repeat ((first|refine ai rfl ?_|refine ai (fun _=>rfl) ?_)));refine ai (fun h1=>?_) (fun h2=>?_)
 ·refine ⟨_,_,Told.refl,?_⟩;obtain rfl:=foll hR (ct h1 rfl);exact Q80 lx sr
 ·refine ⟨_,_,Told.refl,?_⟩;obtain rfl:=foll hR (cf h2 rfl);exact Q80 lx sr
def Q26 (l:List Node) (nodes:Int) (act:Int) (job:Int) (now:Int):(List Node) × Int × (List Note) × Int:=bif ((act != 1)&&(act != 2)) then ([],0,[],120) else bif ((Qa0 l)!=0) then ([],0,[],120) else bif ((decide (nodes<1))||(decide (nodes > 48))) then ([],0,[],2) else bif (!(Q32 (QE4 l) nodes).2) then ([],0,[],130) else bif ((Qp0 l ((Q32 (QE4 l) nodes).1) act job now).2.2 != 0) then ([],0,[],(Qp0 l ((Q32 (QE4 l) nodes).1) act job now).2.2) else ((Qp0 l ((Q32 (QE4 l) nodes).1) act job now).1,(Q32 (QE4 l) nodes).1,(Qp0 l ((Q32 (QE4 l) nodes).1) act job now).2.1,0)
theorem QPb (l:List Node) (nodes:Int) (act:Int) (job:Int) (now:Int) (hs0:l.length<=4294967296):GV 36 [nodeL l,I nodes,I act,I job,I now] (AVal.tup [nodeL ((Q26 l nodes act job now).1),U ((Q26 l nodes act job now).2.1),noteL ((Q26 l nodes act job now).2.2.1),I ((Q26 l nodes act job now).2.2.2)]):=by
 generalize hR:Q26 l nodes act job now=R;refine gA (kp 19 [19,26,30,45,57]) Tryz.func36 ?_;have hk0:=hs0;obtain z11:l.length<=4294967296:=hs0;refine ai (fun h1=>?_) (fun h2=>?_)
 ·exact lfA
 ·refine us (QX2 l szA _) ?_;refine ai (fun h3=>?_) (fun h4=>?_)
  ·exact lfA
  ·refine ai (fun h5=>?_) (fun h6=>?_)
   ·exact lfA
   ·refine us (fleet_Free_c l szA _) ?_;refine us (QV9 (QE4 l) nodes _) ?_;refine ai (fun h7=>?_) (fun h8=>?_)
    ·exact lfA
    ·refine us (Qt1 l ((Q32 (QE4 l) nodes).1) act job now szA _) ?_;refine ai (fun h9=>?_) (fun h10=>?_)
     ·exact lfA
     ·exact lfA
def QA3 (s:ByteArray):Bool:=bif (((QJ0 s).2.2 != 0)||((((QJ0 s).1).length:Int)!=1)) then false else bif ((((((QJ0 s).1).getD 0 Token.zero).kind != 1)||(!(ByteArray.toList (((QJ0 s).1).getD 0 Token.zero).text==ByteArray.toList s)))||((((QJ0 s).1).getD 0 Token.zero).num != 0)) then false else true
theorem QMd (s:ByteArray) (hs0:s.size<=4294967296):GV 282 [Sg s] (Bo (QA3 s)):=by
 generalize hR:QA3 s=R;refine gA (kp 3 []) Tryz.func282 ?_;have hk0:=hs0;obtain z5:s.size<=4294967296:=hs0;refine ACalls.of_cwp (fun _=>true) Tryz.func299 rfl rfl ?_;refine ACalls.of_cwp (fun _=>true) Tryz.func305 rfl rfl ?_;refine ai (fun h=>nomatch h) (fun _=>?_);refine ai (fun h=>nomatch h) (fun _=>?_);refine ⟨_,_,Told.refl,?_⟩;refine us (ref05_Tokens_c s szA _) ?_;refine ai (fun h1=>?_) (fun h2=>?_)
 ·refine ⟨_,_,Told.refl,?_⟩;exact lfA
 ·refine ai gkA ?_;refine ai (fun h3=>?_) (fun h4=>?_)
  ·refine ⟨_,_,Told.refl,?_⟩;obtain rfl:=foll hR (cf h2 (ct h3 rfl));exact Q80 lx sr
  ·refine ⟨_,_,Told.refl,?_⟩;obtain rfl:=foll hR (cf h2 (cf h4 rfl));exact Q80 lx sr
def Qq9 (c:Cmd) (i1:Bool):Bool:=bif i1 then (Qx2 c.node 0 47) else bif (c.kind==10) then (((Qx2 c.from_ 0 1000000)&&c.hasTime)&&(Qx2 c.nodes 1 48)) else ((c.kind==12)&&(Qx2 c.job 0 99999))
def Qc8 (c:Cmd) (i:Bool):Bool:=bif i then (Qtd c.job) else bif (c.kind==5) then ((Qtd c.job)&&(c.hasPrio||c.hasTime)) else bif (c.kind==6) then ((Qtd c.job)&&(Qx2 c.nodes 1 48)) else bif (c.kind==7) then Qq9 c (c.kind==7) else bif (c.kind==8) then Qq9 c (c.kind==8) else Qq9 c (c.kind==9)
def QA8 (c:Cmd):Bool:=bif ((((c.hasPrio&&(!(Qx2 c.prio 0 100)))||(c.hasTime&&(!(QYc c.time))))||((!c.hasPrio)&&(c.prio != 0)))||((!c.hasTime)&&(c.time != 0))) then false else bif (c.kind==1) then (((((((Qq5 c.name)&&(Qq5 c.user))&&(Qq5 c.account))&&(QV5 c.user))&&(QV5 c.account))&&(QS7 c.after))&&((QU1 c.shape)==0)) else bif (c.kind==2) then Qc8 c (c.kind==2) else bif (c.kind==3) then Qc8 c (c.kind==3) else bif (c.kind==4) then Qc8 c (c.kind==4) else Qc8 c (c.kind==11)
theorem cmd_fits_c (c:Cmd) (hs0:c.sz):GV 234 [Cmd.a c] (Bo (QA8 c)):=by
 generalize hR:QA8 c=R;refine gA (kj [1000010,1000018] 3 [40,42,43,79,87,100,110,117]) Tryz.func234 ?_;have hk0:=hs0;obtain ⟨z25,z26,z27,z28,z29⟩:c.name.size<=4294967296∧c.user.size<=4294967296∧c.account.size<=4294967296∧(c.shape.alts.length<=4294967296)∧c.after.length<=4294967296:=hs0;(first|apply u2|apply u3|apply u4|apply us);exact Q93 c.prio 0 100 _;(first|apply u2|apply u3|apply u4|apply us);exact cmd_length_c c.time _;refine ai (fun h1=>?_) (fun h2=>?_)
 ·exact lfA
 ·refine ai (fun h3=>?_) (fun h4=>?_)
  ·refine us (QZc c.name szA _) ?_;(first|apply u2|apply u3|apply u4|apply us);exact QZc c.user szA _;(first|apply u2|apply u3|apply u4|apply us);exact QZc c.account szA _;(first|apply u2|apply u3|apply u4|apply us);exact cmd_word_c c.user szA _;(first|apply u2|apply u3|apply u4|apply us);exact cmd_word_c c.account szA _;(first|apply u2|apply u3|apply u4|apply us);exact cmd_deps_c c.after szA _;(first|apply u2|apply u3|apply u4|apply us);exact QGc c.shape szA _;exact lfA
  ·refine Qb1 (fun (i:Bool)=>Qc8 c i=R) (fun i=>[(1,AVal.ptr 0 0 18 0 0),(2,Bo false),(42,I c.kind),(79,Bo i)]) (fun i=>[(0,AObj.row 234 18 [[I c.kind,I c.job,Sg c.name,Sg c.user,Sg c.account,I c.shape.kind,altL c.shape.alts,I c.shape.min,I c.shape.max,I c.shape.wall,I c.prio,Bo c.hasPrio,I c.time,Bo c.hasTime,depL c.after,I c.node,I c.nodes,I c.from_]])]) ?_ ?_
   ·clear hR;rintro i hR;(try dsimp only at hR);refine ai (fun h5=>?_) (fun h6=>?_)
    ·refine us (Que c.job _) ?_;exact lfA
    ·refine ai (fun h7=>?_) (fun h8=>?_)
     ·refine us (Que c.job _) ?_;exact lfA
     ·refine ai (fun h9=>?_) (fun h10=>?_)
      ·refine us (Que c.job _) ?_;(first|apply u2|apply u3|apply u4|apply us);exact Q93 c.nodes 1 48 _;exact lfA
      ·refine Qb1 (fun (i1:Bool)=>Qq9 c i1=R) (fun i1=>[(1,AVal.ptr 0 0 18 0 0),(2,Bo false),(42,I c.kind),(110,Bo i1)]) (fun i1=>[(0,AObj.row 234 18 [[I c.kind,I c.job,Sg c.name,Sg c.user,Sg c.account,I c.shape.kind,altL c.shape.alts,I c.shape.min,I c.shape.max,I c.shape.wall,I c.prio,Bo c.hasPrio,I c.time,Bo c.hasTime,depL c.after,I c.node,I c.nodes,I c.from_]])]) ?_ ?_
       ·clear hR;rintro i1 hR;(try dsimp only at hR);refine ai (fun h11=>?_) (fun h12=>?_)
        ·refine us (Q93 c.node 0 47 _) ?_;exact lfA
        ·refine ai (fun h13=>?_) (fun h14=>?_)
         ·refine us (Q93 c.from_ 0 1000000 _) ?_;(first|apply u2|apply u3|apply u4|apply us);exact Q93 c.nodes 1 48 _;exact lfA
         ·(first|apply u2|apply u3|apply u4|apply us);exact Q93 c.job 0 99999 _;exact lfA
       ·refine ai (fun h15=>?_) (fun h16=>?_)
        ·exact Q70 (c.kind==7) (wkA [0]) (foll hR (cf h6 (cf h8 (cf h10 (ct h15 rfl)))))
        ·refine ai (fun h17=>?_) (fun h18=>?_)
         ·exact Q70 (c.kind==8) (wkA [0]) (foll hR (cf h6 (cf h8 (cf h10 (cf h16 (ct h17 rfl))))))
         ·exact Q70 (c.kind==9) (wkA [0]) (foll hR (cf h6 (cf h8 (cf h10 (cf h16 (cf h18 rfl))))))
   ·refine ai (fun h19=>?_) (fun h20=>?_)
    ·exact Q70 (c.kind==2) (wkA [0]) (foll hR (cf h2 (cf h4 (ct h19 rfl))))
    ·refine ai (fun h21=>?_) (fun h22=>?_)
     ·exact Q70 (c.kind==3) (wkA [0]) (foll hR (cf h2 (cf h4 (cf h20 (ct h21 rfl)))))
     ·refine ai (fun h23=>?_) (fun h24=>?_)
      ·exact Q70 (c.kind==4) (wkA [0]) (foll hR (cf h2 (cf h4 (cf h20 (cf h22 (ct h23 rfl))))))
      ·exact Q70 (c.kind==11) (wkA [0]) (foll hR (cf h2 (cf h4 (cf h20 (cf h22 (cf h24 rfl))))))
def Qj7 (ok2:Bool):Int:=bif (!ok2) then 80 else 0
def Qi7 (c:Cmd) (ok1:Bool):Int:=bif c.hasTime then Qj7 (ok1&&(Qf1 c.time 1 100000)) else Qj7 (ok1&&(c.time==0))
def Qj2 (c:Cmd) (ok:Bool):Int:=bif c.hasPrio then Qi7 c (ok&&(Qf1 c.prio 0 100)) else Qi7 c (ok&&(c.prio==0))
def Qh7 (c:Cmd) (i1:Bool):Int:=bif i1 then Qj2 c ((Qe2 c true true true true false true true)&&(Qf1 c.node 0 47)) else bif (c.kind==10) then Qj2 c ((((Qe2 c true true true false true false false)&&(Qf1 c.from_ 0 1000000))&&c.hasTime)&&(Qf1 c.nodes 1 48)) else Qj2 c false
def QG5 (c:Cmd) (i:Bool):Int:=bif i then Qj2 c ((Qe2 c false true true true true true true)&&(Qf1 c.job 1 99999)) else bif (c.kind==12) then Qj2 c ((Qe2 c false true true true true true true)&&(Qf1 c.job 0 99999)) else bif (c.kind==5) then Qj2 c (((Qe2 c false true false false true true true)&&(Qf1 c.job 1 99999))&&(c.hasPrio||c.hasTime)) else bif (c.kind==6) then Qj2 c (((Qe2 c false true true true true false true)&&(Qf1 c.job 1 99999))&&(Qf1 c.nodes 1 48)) else bif (c.kind==7) then Qh7 c (c.kind==7) else bif (c.kind==8) then Qh7 c (c.kind==8) else Qh7 c (c.kind==9)
def Qb5 (c:Cmd):Int:=bif (c.kind==1) then Qj2 c ((((((((Qe2 c true false false true true true true)&&(Qj3 c.name))&&(Qj3 c.user))&&(Qj3 c.account))&&(QA3 c.user))&&(QA3 c.account))&&(Q86 c.after))&&((Qv1 c.shape)==0)) else bif (c.kind==2) then QG5 c (c.kind==2) else bif (c.kind==3) then QG5 c (c.kind==3) else bif (c.kind==4) then QG5 c (c.kind==4) else QG5 c (c.kind==11)
theorem ref08_Check_c (c:Cmd) (hs0:c.sz):GV 256 [Cmd.a c] (I (Qb5 c)):=by
 generalize hR:Qb5 c=R;refine gA (kj [1000010,1000020,1000023,1000026,1000029] 4 [5,6,46,58,67,84,98,109,128,142,156]) Tryz.func256 ?_;have hk0:=hs0;obtain ⟨z31,z32,z33,z34,z35⟩:c.name.size<=4294967296∧c.user.size<=4294967296∧c.account.size<=4294967296∧(c.shape.alts.length<=4294967296)∧c.after.length<=4294967296:=hs0;refine Qb1 (fun (ok:Bool)=>Qj2 c ok=R) (fun ok=>[(1,AVal.ptr 0 0 18 0 0),(2,I 0),(3,Bo ok)]) (fun ok=>[(0,AObj.row 234 18 [[I c.kind,I c.job,Sg c.name,Sg c.user,Sg c.account,I c.shape.kind,altL c.shape.alts,I c.shape.min,I c.shape.max,I c.shape.wall,I c.prio,Bo c.hasPrio,I c.time,Bo c.hasTime,depL c.after,I c.node,I c.nodes,I c.from_]])]) ?_ ?_
 ·clear hR;rintro ok hR;(try dsimp only at hR);refine Qb1 (fun (ok1:Bool)=>Qi7 c ok1=R) (fun ok1=>[(1,AVal.ptr 0 0 18 0 0),(2,I 0),(3,Bo ok1)]) (fun ok1=>[(0,AObj.row 234 18 [[I c.kind,I c.job,Sg c.name,Sg c.user,Sg c.account,I c.shape.kind,altL c.shape.alts,I c.shape.min,I c.shape.max,I c.shape.wall,I c.prio,Bo c.hasPrio,I c.time,Bo c.hasTime,depL c.after,I c.node,I c.nodes,I c.from_]])]) ?_ ?_
  ·clear hR;rintro ok1 hR;(try dsimp only at hR);refine Qb1 (fun (ok2:Bool)=>Qj7 ok2=R) (fun ok2=>[(2,I 0),(3,Bo ok2)]) (fun ok2=>[]) ?_ ?_
   ·clear hR;rintro ok2 hR;(try dsimp only at hR);refine ai (fun h1=>?_) (fun h2=>?_)
    ·exact lfA
    ·exact lfA
   ·refine ai (fun h3=>?_) (fun h4=>?_)
    ·(first|apply u2|apply u3|apply u4|apply us);exact QB3 c.time 1 100000 _;exact Q70 (ok1&&(Qf1 c.time 1 100000)) (wkA []) (foll hR (ct h3 rfl))
    ·exact Q70 (ok1&&(c.time==0)) (wkA []) (foll hR (cf h4 rfl))
  ·refine ai (fun h5=>?_) (fun h6=>?_)
   ·(first|apply u2|apply u3|apply u4|apply us);exact QB3 c.prio 0 100 _;exact Q70 (ok&&(Qf1 c.prio 0 100)) (wkA [0]) (foll hR (ct h5 rfl))
   ·exact Q70 (ok&&(c.prio==0)) (wkA [0]) (foll hR (cf h6 rfl))
 ·refine ai (fun h7=>?_) (fun h8=>?_)
  ·refine us (Qc5 c true false false true true true true szA _) ?_;(first|apply u2|apply u3|apply u4|apply us);exact Qsa c.name szA _;(first|apply u2|apply u3|apply u4|apply us);exact Qsa c.user szA _;(first|apply u2|apply u3|apply u4|apply us);exact Qsa c.account szA _;(first|apply u2|apply u3|apply u4|apply us);exact QMd c.user szA _;(first|apply u2|apply u3|apply u4|apply us);exact QMd c.account szA _;(first|apply u2|apply u3|apply u4|apply us);exact ref08_waits_c c.after szA _;(first|apply u2|apply u3|apply u4|apply us);exact Qtc c.shape szA _;exact Q70 ((((((((Qe2 c true false false true true true true)&&(Qj3 c.name))&&(Qj3 c.user))&&(Qj3 c.account))&&(QA3 c.user))&&(QA3 c.account))&&(Q86 c.after))&&((Qv1 c.shape)==0)) (wkA [0]) (foll hR (ct h7 rfl))
  ·refine Qb1 (fun (i:Bool)=>QG5 c i=R) (fun i=>[(1,AVal.ptr 0 0 18 0 0),(2,I 0),(3,Bo false),(5,I c.kind),(46,Bo i)]) (fun i=>[(0,AObj.row 234 18 [[I c.kind,I c.job,Sg c.name,Sg c.user,Sg c.account,I c.shape.kind,altL c.shape.alts,I c.shape.min,I c.shape.max,I c.shape.wall,I c.prio,Bo c.hasPrio,I c.time,Bo c.hasTime,depL c.after,I c.node,I c.nodes,I c.from_]])]) ?_ ?_
   ·clear hR;rintro i hR;(try dsimp only at hR);refine ai (fun h9=>?_) (fun h10=>?_)
    ·refine us (Qc5 c false true true true true true true szA _) ?_;(first|apply u2|apply u3|apply u4|apply us);exact QB3 c.job 1 99999 _;exact Q70 ((Qe2 c false true true true true true true)&&(Qf1 c.job 1 99999)) (wkA [0]) (foll hR (ct h9 rfl))
    ·refine ai (fun h11=>?_) (fun h12=>?_)
     ·refine us (Qc5 c false true true true true true true szA _) ?_;(first|apply u2|apply u3|apply u4|apply us);exact QB3 c.job 0 99999 _;exact Q70 ((Qe2 c false true true true true true true)&&(Qf1 c.job 0 99999)) (wkA [0]) (foll hR (cf h10 (ct h11 rfl)))
     ·refine ai (fun h13=>?_) (fun h14=>?_)
      ·refine us (Qc5 c false true false false true true true szA _) ?_;(first|apply u2|apply u3|apply u4|apply us);exact QB3 c.job 1 99999 _;exact Q70 (((Qe2 c false true false false true true true)&&(Qf1 c.job 1 99999))&&(c.hasPrio||c.hasTime)) (wkA [0]) (foll hR (cf h10 (cf h12 (ct h13 rfl))))
      ·refine ai (fun h15=>?_) (fun h16=>?_)
       ·refine us (Qc5 c false true true true true false true szA _) ?_;(first|apply u2|apply u3|apply u4|apply us);exact QB3 c.job 1 99999 _;(first|apply u2|apply u3|apply u4|apply us);exact QB3 c.nodes 1 48 _;exact Q70 (((Qe2 c false true true true true false true)&&(Qf1 c.job 1 99999))&&(Qf1 c.nodes 1 48)) (wkA [0]) (foll hR (cf h10 (cf h12 (cf h14 (ct h15 rfl)))))
       ·refine Qb1 (fun (i1:Bool)=>Qh7 c i1=R) (fun i1=>[(1,AVal.ptr 0 0 18 0 0),(2,I 0),(3,Bo false),(5,I c.kind),(98,Bo i1)]) (fun i1=>[(0,AObj.row 234 18 [[I c.kind,I c.job,Sg c.name,Sg c.user,Sg c.account,I c.shape.kind,altL c.shape.alts,I c.shape.min,I c.shape.max,I c.shape.wall,I c.prio,Bo c.hasPrio,I c.time,Bo c.hasTime,depL c.after,I c.node,I c.nodes,I c.from_]])]) ?_ ?_
        ·clear hR;rintro i1 hR;(try dsimp only at hR);refine ai (fun h17=>?_) (fun h18=>?_)
         ·refine us (Qc5 c true true true true false true true szA _) ?_;(first|apply u2|apply u3|apply u4|apply us);exact QB3 c.node 0 47 _;exact Q70 ((Qe2 c true true true true false true true)&&(Qf1 c.node 0 47)) (wkA [0]) (foll hR (ct h17 rfl))
         ·refine ai (fun h19=>?_) (fun h20=>?_)
          ·refine us (Qc5 c true true true false true false false szA _) ?_;(first|apply u2|apply u3|apply u4|apply us);exact QB3 c.from_ 0 1000000 _;(first|apply u2|apply u3|apply u4|apply us);exact QB3 c.nodes 1 48 _;exact Q70 ((((Qe2 c true true true false true false false)&&(Qf1 c.from_ 0 1000000))&&c.hasTime)&&(Qf1 c.nodes 1 48)) (wkA [0]) (foll hR (cf h18 (ct h19 rfl)))
          ·exact Q70 false (wkA [0]) (foll hR (cf h18 (cf h20 rfl)))
        ·refine ai (fun h21=>?_) (fun h22=>?_)
         ·exact Q70 (c.kind==7) (wkA [0]) (foll hR (cf h10 (cf h12 (cf h14 (cf h16 (ct h21 rfl))))))
         ·refine ai (fun h23=>?_) (fun h24=>?_)
          ·exact Q70 (c.kind==8) (wkA [0]) (foll hR (cf h10 (cf h12 (cf h14 (cf h16 (cf h22 (ct h23 rfl)))))))
          ·exact Q70 (c.kind==9) (wkA [0]) (foll hR (cf h10 (cf h12 (cf h14 (cf h16 (cf h22 (cf h24 rfl)))))))
   ·refine ai (fun h25=>?_) (fun h26=>?_)
    ·exact Q70 (c.kind==2) (wkA [0]) (foll hR (cf h8 (ct h25 rfl)))
    ·refine ai (fun h27=>?_) (fun h28=>?_)
     ·exact Q70 (c.kind==3) (wkA [0]) (foll hR (cf h8 (cf h26 (ct h27 rfl))))
     ·refine ai (fun h29=>?_) (fun h30=>?_)
      ·exact Q70 (c.kind==4) (wkA [0]) (foll hR (cf h8 (cf h26 (cf h28 (ct h29 rfl)))))
      ·exact Q70 (c.kind==11) (wkA [0]) (foll hR (cf h8 (cf h26 (cf h28 (cf h30 rfl)))))
def Q44 (c:Cmd):Int:=bif ((((decide ((c.shape.alts.length:Int) > 6))||(decide ((c.after.length:Int) > 4)))||(!(QA8 c)))||(!(QKa c (QR7 c)))) then 80 else 0
theorem b9a0 {P:Prop} (h:P:=by first|(exact cmd_bare_sz _ (by assumption))|exact szA):P:=h
theorem QQe (c:Cmd) (hs0:c.sz):GV 192 [Cmd.a c] (I (Q44 c)):=by
 generalize hR:Q44 c=R;refine gA (kp 3 [25]) Tryz.func192 ?_;have hk0:=hs0;obtain ⟨z3,z4,z5,z6,z7⟩:c.name.size<=4294967296∧c.user.size<=4294967296∧c.account.size<=4294967296∧(c.shape.alts.length<=4294967296)∧c.after.length<=4294967296:=hs0;refine dchk (by kernel_rfl) ?_;(first|apply u2|apply u3|apply u4|apply us);exact cmd_fits_c c b9a0 _;(first|apply u2|apply u3|apply u4|apply us);exact cmd_bare_c c b9a0 _;(first|apply u2|apply u3|apply u4|apply us);exact cmd_Same_c c (QR7 c) b9a0 b9a0 _;(repeat ((first|refine ai rfl ?_|refine ai (fun _=>rfl) ?_|refine ai (fun _=>cmd_fits_c c b9a0 _) ?_|refine ai (fun _=>cmd_bare_c c b9a0 _) ?_|refine ai (fun _=>cmd_Same_c c (QR7 c) b9a0 b9a0 _) ?_)));refine ai (fun h1=>?_) (fun h2=>?_)
 ·exact lfA
 ·exact lfA
def QI5 (j:Job):List Dep->Nat->Int
 | [],_=>bif (!(QS2 j)) then 140 else 0
 | x_ :: r,i=>bif (decide (x_.job >= j.id)) then 140 else QI5 j r (i+1)
def Qp8 (j:Job):Int:=bif (((((((Qb5 (⟨1,0,j.name,j.user,j.account,j.shape,j.prio,true,0,false,j.after,0,0,0⟩:Cmd))!=0)||(decide (j.id<1)))||(decide (j.id > 99999)))||(!(QD1 j.born)))||(decide (j.used<0)))||(decide (j.used > 1000000000000))) then 140 else QI5 j j.after 0
theorem ref14_Check_c (j:Job) (hs0:j.sz):GV 218 [Job.a j] (I (Qp8 j)):=by
 generalize hR:Qp8 j=R;refine gA (kp 5 [46,51,62,65]) Tryz.func218 ?_;obtain ⟨z9,z10,z11,z12,z13⟩:=Job.zz hs0;refine us (ref08_Check_c (⟨1,0,j.name,j.user,j.account,j.shape,j.prio,true,0,false,j.after,0,0,0⟩:Cmd) szA _) ?_;(first|apply u2|apply u3|apply u4|apply us);exact Qm4 j.born _;refine ai (fun h1=>?_) (fun h2=>?_)
 ·exact lfA
 ·refine Qg0 (fun (i:Nat)=>QI5 j (List.drop i j.after) i=R∧i<=j.after.length) (fun i=>j.after.length - i) (fun i=>[(1,AVal.ptr 0 0 20 0 0),(2,I 0),(4,I (i:Int))]) (fun i=>[(0,AObj.row 72 20 [[I j.id,Sg j.name,Sg j.user,Sg j.account,I j.shape.kind,altL j.shape.alts,I j.shape.min,I j.shape.max,I j.shape.wall,I j.prio,depL j.after,I j.state,Bo j.held,I j.born,I j.promise,I j.choice,I j.start,I j.limit,U j.nodes,I j.used]])]) 0 (wkA [0]) ⟨folA,by exact omA⟩ ?_;clear hR;rintro i ⟨hR,hj⟩;(try dsimp only at hR hj);refine ai (fun h3=>?_) (fun h4=>?_)
  ·have hlt:=ltA h3;rw [Qc0 Dep.zero hlt] at hR;refine dchk (by kernel_rfl) ?_;refine ai gkA ?_;(repeat ((first|refine ai rfl ?_|refine ai (fun _=>rfl) ?_)));refine ai (fun h5=>?_) (fun h6=>?_)
   ·have qh5:=of_decide_eq_true h5;exact lfA
   ·have qh6:=of_decide_eq_false h6;exact Ql0 (i+1) (wkA [0]) omA ⟨folA,by exact omA⟩
  ·rw [Qd0 (l:=j.after) (j:=i) (geA h4)] at hR;refine us (ref14_state_c j szA _) ?_;refine ai (fun h7=>?_) (fun h8=>?_)
   ·exact lfA
   ·exact lfA
def Q61 (j:Job):Int:=bif ((((((decide (j.id<1))||(decide (j.id > 99999)))||(!(Qh2 j.born)))||(j.used != (Qh4 j.used)))||((Q44 (Qn0 j))!=0))||(Qs0 j.after (fun (y:Dep)=>(decide (y.job >= j.id))))) then 140 else bif (j.state==1) then bif (!(Ql2 j)) then 140 else 0 else bif (j.state==2) then bif (!(Qk1 j)) then 140 else 0 else bif (!(Qh8 j.state)) then 140 else bif (!(Qo4 j)) then 140 else 0
theorem Qg8 (j:Job) (hs0:j.sz):GV 130 [Job.a j] (I (Q61 j)):=by
 generalize hR:Q61 j=R;refine gA (kp 6 [42,45,51,57,64]) Tryz.func130 ?_;obtain ⟨z19,z20,z21,z22,z23⟩:=Job.zz hs0;refine dchk (by kernel_rfl) ?_;(first|apply u2|apply u3|apply u4|apply us);exact Ql6 j.born _;(first|apply u2|apply u3|apply u4|apply us);exact QJ9 j.used _;(first|apply u2|apply u3|apply u4|apply us);exact Qt7 j _;(first|apply u2|apply u3|apply u4|apply us);exact QQe (Qn0 j) szA _;have cl1:∀ (y1:Dep),AMoves Tryz.prog 190 [Dep.a y1,AVal.ptr 0 0 20 0 0] [(0,AObj.row 72 20 [[I j.id,Sg j.name,Sg j.user,Sg j.account,I j.shape.kind,altL j.shape.alts,I j.shape.min,I j.shape.max,I j.shape.wall,I j.prio,depL j.after,I j.state,Bo j.held,I j.born,I j.promise,I j.choice,I j.start,I j.limit,U j.nodes,I j.used]])] 1 (Bo ((fun (y:Dep)=>(decide (y.job >= j.id))) y1)) [(0,AObj.row 72 20 [[I j.id,Sg j.name,Sg j.user,Sg j.account,I j.shape.kind,altL j.shape.alts,I j.shape.min,I j.shape.max,I j.shape.wall,I j.prio,depL j.after,I j.state,Bo j.held,I j.born,I j.promise,I j.choice,I j.start,I j.limit,U j.nodes,I j.used]])]:=by
  intro y1;have hR:(fun (y:Dep)=>(decide (y.job >= j.id))) y1=(fun (y:Dep)=>(decide (y.job >= j.id))) y1:=rfl;refine mo (kp 4 []) Tryz.func190 ?_;refine Qt0 (fun r:Bool=>Bo r) (fun _=>[(0,AObj.row 72 20 [[I j.id,Sg j.name,Sg j.user,Sg j.account,I j.shape.kind,altL j.shape.alts,I j.shape.min,I j.shape.max,I j.shape.wall,I j.prio,depL j.after,I j.state,Bo j.held,I j.born,I j.promise,I j.choice,I j.start,I j.limit,U j.nodes,I j.used]])]) (leaf:=(decide (y1.job >= j.id))) (foll hR rfl) ?_;exact tt [0] (tO rfl (ts Job.lo) .nil) t1
 have hof1:AMoves Tryz.prog 194 [depL j.after,AVal.fn (.func 190) [] [AVal.ptr 0 0 20 0 0]] [(0,AObj.row 72 20 [[I j.id,Sg j.name,Sg j.user,Sg j.account,I j.shape.kind,altL j.shape.alts,I j.shape.min,I j.shape.max,I j.shape.wall,I j.prio,depL j.after,I j.state,Bo j.held,I j.born,I j.promise,I j.choice,I j.start,I j.limit,U j.nodes,I j.used]])] 1 (Bo (Qs0 j.after (fun (y:Dep)=>(decide (y.job >= j.id))))) [(0,AObj.row 72 20 [[I j.id,Sg j.name,Sg j.user,Sg j.account,I j.shape.kind,altL j.shape.alts,I j.shape.min,I j.shape.max,I j.shape.wall,I j.prio,depL j.after,I j.state,Bo j.held,I j.born,I j.promise,I j.choice,I j.start,I j.limit,U j.nodes,I j.used]])]:=by
  have hR:Qs0 j.after (fun (y:Dep)=>(decide (y.job >= j.id)))=Qs0 j.after (fun (y:Dep)=>(decide (y.job >= j.id))):=rfl;refine mo (kp 5 []) Tryz.func194 ?_;have hof2:AMoves Tryz.prog 237 [depL j.after,AVal.fn (.func 190) [] [AVal.ptr 0 0 20 0 0]] [(0,AObj.row 72 20 [[I j.id,Sg j.name,Sg j.user,Sg j.account,I j.shape.kind,altL j.shape.alts,I j.shape.min,I j.shape.max,I j.shape.wall,I j.prio,depL j.after,I j.state,Bo j.held,I j.born,I j.promise,I j.choice,I j.start,I j.limit,U j.nodes,I j.used]])] 1 (I (Q41 j.after (fun (y:Dep)=>(decide (y.job >= j.id))))) [(0,AObj.row 72 20 [[I j.id,Sg j.name,Sg j.user,Sg j.account,I j.shape.kind,altL j.shape.alts,I j.shape.min,I j.shape.max,I j.shape.wall,I j.prio,depL j.after,I j.state,Bo j.held,I j.born,I j.promise,I j.choice,I j.start,I j.limit,U j.nodes,I j.used]])]:=by
   have hR:Q41 j.after (fun (y:Dep)=>(decide (y.job >= j.id)))=Q41 j.after (fun (y:Dep)=>(decide (y.job >= j.id))):=rfl;refine mo (kp 6 [7,8,9,16]) Tryz.func237 ?_;refine Qg0 (fun (i:Nat)=>Q43 (fun (y:Dep)=>(decide (y.job >= j.id))) (List.drop i j.after) i=Q41 j.after (fun (y:Dep)=>(decide (y.job >= j.id)))∧i<=j.after.length) (fun i=>j.after.length - i) (fun i=>[(0,depL j.after),(1,AVal.fn (.func 190) [] [AVal.ptr 0 0 20 0 0]),(4,I 0),(7,I (j.after.length:Int)),(8,I (i:Int))]) (fun i=>[(0,AObj.row 72 20 [[I j.id,Sg j.name,Sg j.user,Sg j.account,I j.shape.kind,altL j.shape.alts,I j.shape.min,I j.shape.max,I j.shape.wall,I j.prio,depL j.after,I j.state,Bo j.held,I j.born,I j.promise,I j.choice,I j.start,I j.limit,U j.nodes,I j.used]])]) 0 (wkA [0]) ⟨foll hR rfl,by exact omA⟩ ?_;clear hR;rintro i ⟨hR,hj⟩;(try dsimp only at hR hj);refine ai (fun h1=>?_) (fun h2=>?_)
   ·have hlt:=ltA h1;rw [Qc0 Dep.zero hlt] at hR;refine ai gkA ?_;refine us (mv [0] (cl1 (j.after.getD i Dep.zero)) (dO (ds Job.lo) .nil) (dl (Dep.low _ _) (dp .nil)) (rO (re Job.lo) .nil) rx) ?_;refine ai (fun h3=>?_) (fun h4=>?_)
    ·refine Qt0 (fun r:Int=>I r) (fun r:Int=>[(0,AObj.row 72 20 [[I j.id,Sg j.name,Sg j.user,Sg j.account,I j.shape.kind,altL j.shape.alts,I j.shape.min,I j.shape.max,I j.shape.wall,I j.prio,depL j.after,I j.state,Bo j.held,I j.born,I j.promise,I j.choice,I j.start,I j.limit,U j.nodes,I j.used]])]) (leaf:=(i:Int)) (foll hR (ct h3 rfl)) ?_;exact tt [0] (tO rfl (ts Job.lo) .nil) t1
    ·exact Ql0 (i+1) (wkA [0]) omA ⟨folA,by exact omA⟩
   ·rw [Qd0 (l:=j.after) (j:=i) (geA h2)] at hR;refine Qt0 (fun r:Int=>I r) (fun r:Int=>[(0,AObj.row 72 20 [[I j.id,Sg j.name,Sg j.user,Sg j.account,I j.shape.kind,altL j.shape.alts,I j.shape.min,I j.shape.max,I j.shape.wall,I j.prio,depL j.after,I j.state,Bo j.held,I j.born,I j.promise,I j.choice,I j.start,I j.limit,U j.nodes,I j.used]])]) (leaf:=(-1)) (foll hR rfl) ?_;exact tt [0] (tO rfl (ts Job.lo) .nil) t1
  refine us (mv [0] (hof2) (dO (ds Job.lo) .nil) (dl lw (dv (dn_fn .nil (dp .nil)) .nil)) (rO (re Job.lo) .nil) rx) ?_;refine Qt0 (fun r:Bool=>Bo r) (fun r:Bool=>[(0,AObj.row 72 20 [[I j.id,Sg j.name,Sg j.user,Sg j.account,I j.shape.kind,altL j.shape.alts,I j.shape.min,I j.shape.max,I j.shape.wall,I j.prio,depL j.after,I j.state,Bo j.held,I j.born,I j.promise,I j.choice,I j.start,I j.limit,U j.nodes,I j.used]])]) (leaf:=(decide ((Q41 j.after (fun (y:Dep)=>(decide (y.job >= j.id)))) >= 0))) (foll hR rfl) ?_;exact tt [0] (tO rfl (ts Job.lo) .nil) t1
 (first|apply u2|apply u3|apply u4|apply us);exact mv [0] (hof1) (dO (ds Job.lo) .nil) (dl lw (dv (dn_fn .nil (dp .nil)) .nil)) (rO (re Job.lo) .nil) rx;(repeat ((first|refine ai rfl ?_|refine ai (fun _=>rfl) ?_|refine ai (fun _=>Ql6 j.born _) ?_|refine ai (fun _=>QJ9 j.used _) ?_|refine ai (fun _=>Qt7 j _) ?_|refine ai (fun _=>QQe (Qn0 j) szA _) ?_)));refine ai (fun h5=>?_) (fun h6=>?_)
 ·exact lfA
 ·refine ai (fun h7=>?_) (fun h8=>?_)
  ·refine us (Q4d j szA _) ?_;refine ai (fun h9=>?_) (fun h10=>?_)
   ·exact lfA
   ·exact lfA
  ·refine ai (fun h11=>?_) (fun h12=>?_)
   ·refine us (Qbc j szA _) ?_;refine ai (fun h13=>?_) (fun h14=>?_)
    ·exact lfA
    ·exact lfA
   ·refine us (job_ended_c j.state _) ?_;refine ai (fun h15=>?_) (fun h16=>?_)
    ·exact lfA
    ·refine us (Q8f j _) ?_;refine ai (fun h17=>?_) (fun h18=>?_)
     ·exact lfA
     ·exact lfA
theorem Qae {j:Job} (h:((((Q61 j)!=0)||(j.state != 1))||(decide (j.promise<0)))=false):0<=j.choice∧j.choice<((Q51 j.shape).length:Int):=by
 simp only [Bool.or_eq_false_iff,bne_eq_false_iff_eq,decide_eq_false_iff_not] at h
 obtain ⟨⟨h1,h2⟩,h3⟩:=h
 have hq:Ql2 j=true:=by
  unfold Q61 at h1
  revert h1
  rw [show (j.state==1)=true by simpa using h2]
  cases ((((((decide (j.id<1))||(decide (j.id > 99999)))||(!(Qh2 j.born)))||(j.used != (Qh4 j.used)))||((Q44 (Qn0 j))!=0))||(Qs0 j.after (fun (y:Dep)=>(decide (y.job >= j.id))))) with
  | true=>simp
  | false =>
   cases Ql2 j with
   | true=>simp
   | false=>simp
 unfold Ql2 at hq
 simp only [Bool.and_eq_true,Bool.or_eq_true] at hq
 rcases hq.2 with hp|hp
 ·have:=hp.1
  simp at this
  omega
 ·have ho:=hp.1.2
  unfold QK0 at ho
  cases hc:((decide (j.choice<0))||(decide (j.choice >= ((Q51 j.shape).length:Int)))) with
  | true=>rw [hc] at ho;cases ho
  | false=>simp at hc;omega
def QJ5 :List Job->Int->Nat->Int
 | [],_,_=>0
 | x_ :: r,last,i=>bif ((((i:Int)==40)||((Qp8 x_)!=0))||(decide (x_.id<=last))) then 140 else QJ5 r x_.id (i+1)
def Qq8 (l:List Job):Int:=QJ5 l 0 0
theorem ref15_Check_c (l:List Job) (hs0:l.length<=4294967296∧(∀ y ∈ l,y.sz)):GV 167 [jobL l] (I (Qq8 l)):=by
 generalize hR:Qq8 l=R;refine gA (kp 5 [8,29]) Tryz.func167 ?_;obtain ⟨z10,z11⟩:=id hs0;refine Qe0 (fun (last:Int) (i:Nat)=>QJ5 (List.drop i l) last i=R∧i<=l.length) (fun last i=>l.length - i) (fun last i=>[(0,jobL l),(2,I 0),(3,I last),(4,I (i:Int))]) (fun last i=>[]) 0 0 (wkA []) ⟨foll hR rfl,by exact omA⟩ ?_;clear hR;rintro last i ⟨hR,hj⟩;(try dsimp only at hR hj);refine ai (fun h1=>?_) (fun h2=>?_)
 ·have hlt:=ltA h1;rw [Qc0 Job.zero hlt] at hR;have hxz:(l.getD i Job.zero).sz:=Q94 (by first|assumption|grind) (Job.szz _);have hkz:=hxz;obtain ⟨z3,z4,z5,z6,z7⟩:=Job.zz hxz;refine ai gkA ?_;(first|apply u2|apply u3|apply u4|apply us);exact ref14_Check_c (l.getD i Job.zero) szA _;refine ai gkA ?_;refine ai (fun h8=>?_) (fun h9=>?_)
  ·exact lfA
  ·refine ai gkA ?_;exact Q60 ((l.getD i Job.zero).id) (i+1) (wkA []) omA ⟨folA,by exact omA⟩
 ·rw [Qd0 (l:=l) (j:=i) (geA h2)] at hR;exact lfA
def QW4 (l:List Job):List Job->Nat->Int
 | [],_=>0
 | x_ :: r,i=>bif (((Q61 x_)!=0)||((decide ((i:Int) > 0))&&(decide ((l.getD (Int.toNat (w64 ((i:Int) - 1))) Job.zero).id >= x_.id)))) then 140 else QW4 l r (i+1)
def QW1 (l:List Job):Int:=bif (decide ((l.length:Int) > 40)) then 140 else QW4 l l 0
theorem QN9 (l:List Job) (hs0:l.length<=4294967296∧(∀ y ∈ l,y.sz)):GV 125 [jobL l] (I (QW1 l)):=by
 generalize hR:QW1 l=R;refine gA (kp 5 [7,8,9,10,11,32]) Tryz.func125 ?_;obtain ⟨z12,z13⟩:=id hs0;refine ai (fun h1=>?_) (fun h2=>?_)
 ·have qh1:=of_decide_eq_true h1;exact lfA
 ·have qh2:=of_decide_eq_false h2;refine Qg0 (fun (i:Nat)=>QW4 l (List.drop i l) i=R∧i<=l.length) (fun i=>l.length - i) (fun i=>[(0,jobL l),(2,I 0),(8,jobL l),(9,I (l.length:Int)),(10,I (i:Int))]) (fun i=>[]) 0 (wkA []) ⟨folA,by exact omA⟩ ?_;clear hR;rintro i ⟨hR,hj⟩;(try dsimp only at hR hj);refine ai (fun h3=>?_) (fun h4=>?_)
  ·have hlt:=ltA h3;rw [Qc0 Job.zero hlt] at hR;have hxz:(l.getD i Job.zero).sz:=Q94 (by first|assumption|grind) (Job.szz _);have hkz:=hxz;obtain ⟨z5,z6,z7,z8,z9⟩:=Job.zz hxz;refine ai gkA ?_;refine dchk (by kernel_rfl) ?_;(first|apply u2|apply u3|apply u4|apply us);exact Qg8 (l.getD i Job.zero) szA _;refine ai gkA ?_;(repeat ((first|refine ai rfl ?_|refine ai (fun _=>rfl) ?_|refine ai (fun _=>Qg8 (l.getD i Job.zero) szA _) ?_)));refine ai (fun h10=>?_) (fun h11=>?_)
   ·exact lfA
   ·exact Ql0 (i+1) (wkA []) omA ⟨folA,by exact omA⟩
  ·rw [Qd0 (l:=l) (j:=i) (geA h4)] at hR;exact lfA
def Q02 (j:Job):Int × Int × Int × Bool:=bif ((((Q61 j)!=0)||(j.state != 1))||(decide (j.promise<0))) then (0,0,0,false) else (j.promise,(w64 (((Q51 j.shape).getD (Int.toNat j.choice) Alt.zero).wall+12)),((Q51 j.shape).getD (Int.toNat j.choice) Alt.zero).nodes,true)
theorem room_Claim_c (j:Job) (hs0:j.sz):GV 82 [Job.a j] (AVal.tup [I ((Q02 j).1),I ((Q02 j).2.1),I ((Q02 j).2.2.1),Bo ((Q02 j).2.2.2)]):=by
 generalize hR:Q02 j=R;refine gA (kp 7 [19]) Tryz.func82 ?_;obtain ⟨z3,z4,z5,z6,z7⟩:=Job.zz hs0;refine us (Qg8 j szA _) ?_;refine ai (fun h1=>?_) (fun h2=>?_)
 ·exact lfA
 ·refine dchk (by kernel_rfl) ?_;(first|apply u2|apply u3|apply u4|apply us);exact QJ6 j.shape szA _;refine And.intro (by first|exact fun hg=>decide_eq_true (by first|((have q:=Qae (by assumption);omega))|exact ckA)|exact gkA) ?_;(repeat ((first|refine ai rfl ?_|refine ai (fun _=>rfl) ?_|refine ai (fun _=>QJ6 j.shape szA _) ?_)));(try (refine dchk (by kernel_rfl) ?_));(repeat ((first|refine ai rfl ?_|refine ai (fun _=>rfl) ?_)));exact lfA
def QG2 (j:Job) (set_:Int):Job × Int:=bif ((Q61 j)!=0) then (Job.zero,(Q61 j)) else bif ((j.state==2)&&((!(Qz6 set_))||(!(QM2 j.shape j.choice (Q40 set_))))) then (Job.zero,152) else bif ((Qcc (j.state==2))!=0) then (Job.zero,(Qcc (j.state==2))) else ({ j with nodes:=set_ },0)
theorem QQa (j:Job) (set_:Int) (hs0:j.sz):GV 176 [Job.a j,U set_] (AVal.tup [Job.a ((QG2 j set_).1),I ((QG2 j set_).2)]):=by
 generalize hR:QG2 j set_=R;refine gA (kp 7 []) Tryz.func176 ?_;obtain ⟨z7,z8,z9,z10,z11⟩:=Job.zz hs0;refine ACalls.of_cwp (fun _=>true) Tryz.func228 rfl rfl ?_;refine us (Qg8 j szA _) ?_;refine ai (fun h1=>?_) (fun h2=>?_)
 ·refine ⟨_,_,Told.refl,?_⟩;exact lfA
 ·refine ACalls.of_cwp (fun _=>true) Tryz.func224 rfl rfl ?_;refine dchk (by kernel_rfl) ?_;(first|apply u2|apply u3|apply u4|apply us);exact QA9 set_ _;(first|apply u2|apply u3|apply u4|apply us);exact Qc1 set_ _;(first|apply u2|apply u3|apply u4|apply us);exact Qn7 j.shape j.choice (Q40 set_) szA _;(repeat ((first|refine ai rfl ?_|refine ai (fun _=>rfl) ?_|refine ai (fun _=>QA9 set_ _) ?_|refine ai (fun _=>Qc1 set_ _) ?_|refine ai (fun _=>Qn7 j.shape j.choice (Q40 set_) szA _) ?_)));refine ai (fun h3=>?_) (fun h4=>?_)
  ·refine ⟨_,_,Told.refl,?_⟩;refine ai (fun _=>?_) (fun h=>nomatch h);refine ⟨_,_,Told.refl,?_⟩;exact lfA
  ·refine us (job_when_c (j.state==2) _) ?_;refine ⟨_,_,Told.refl,?_⟩;refine ai (fun h5=>?_) (fun h6=>?_)
   ·refine ⟨_,_,Told.refl,?_⟩;exact lfA
   ·refine us (job_copied_c j szA _) ?_;refine ACalls.of_cwp (fun _=>true) Tryz.func229 rfl rfl ?_;refine ⟨_,_,Told.refl,?_⟩;refine ⟨_,_,Told.refl,?_⟩;exact lfA
def Qt8 (s:State):Int:=bif ((((!(QD1 s.now))||((Qr3 s.nodes)!=0))||((Qq8 s.jobs)!=0))||((Qs8 s.books)!=0)) then 141 else 0
theorem ref20_Check_c (s:State) (hs0:s.sz):GV 111 [State.a s] (I (Qt8 s)):=by
 generalize hR:Qt8 s=R;refine gA (kp 3 [24]) Tryz.func111 ?_;have hk0:=hs0;obtain ⟨z3,z4,z5,z6,z7,z8,z9⟩:=hs0;refine us (Qm4 s.now _) ?_;(first|apply u2|apply u3|apply u4|apply us);exact QD6 s.nodes szA _;(first|apply u2|apply u3|apply u4|apply us);exact ref15_Check_c s.jobs szA _;(first|apply u2|apply u3|apply u4|apply us);exact ref19_Check_c s.books szA _;refine ai (fun h1=>?_) (fun h2=>?_)
 ·exact lfA
 ·exact lfA
def Qt2 (s:State):Int:=bif (((((decide (s.now<0))||(decide (s.now > 1000000)))||((Qa0 s.nodes)!=0))||((QW1 s.jobs)!=0))||((QM6 s.books)!=0)) then 141 else 0
theorem QVd (s:State) (hs0:s.sz):GV 121 [State.a s] (I (Qt2 s)):=by
 generalize hR:Qt2 s=R;refine gA (kp 3 [28]) Tryz.func121 ?_;have hk0:=hs0;obtain ⟨z3,z4,z5,z6,z7,z8,z9⟩:=hs0;(first|apply u2|apply u3|apply u4|apply us);exact QX2 s.nodes szA _;(first|apply u2|apply u3|apply u4|apply us);exact QN9 s.jobs szA _;(first|apply u2|apply u3|apply u4|apply us);exact book_Check_c s.books szA _;refine ai (fun h1=>?_) (fun h2=>?_)
 ·exact lfA
 ·exact lfA
theorem Qie {s:State} (h:((Qt2 s)!=0)=false):1<=s.nodes.length∧s.nodes.length<=48:=by
 have hf:Qa0 s.nodes=0:=by
  simp only [Qt2] at h
  revert h
  cases h2:(Qa0 s.nodes != 0) with
  | true=>simp
  | false=>intro _;simpa using h2
 simp only [Qa0] at hf
 revert hf
 cases h2:((decide ((s.nodes.length:Int)<1))||(decide ((s.nodes.length:Int) > 48))) with
 | true=>simp
 | false=>intro _;simp at h2;omega
theorem busy_ne {order:List Int} {i:Nat} {c:List (Int × Int)} {k:Int} (h:order ≠ []∨(i=0∧c=[])) (hg:(((getM k c).getD 0)==0)=false):order ≠ []:=by
 rcases h with h|⟨_,rfl⟩
 ·exact h
 ·simp [getM] at hg
theorem busy_order {s:State} {order:List Int} {i:Nat} {c:List (Int × Int)} (h:((Qt2 s)!=0)=false) (ho:order ≠ []∨(i=0∧c=[])) (hi:decide ((i:Int)<(s.nodes.length:Int))=false):order ≠ []:=by
 rcases ho with ho|⟨rfl,_⟩
 ·exact ho
 ·have:=(Qie h).1
  have:=of_decide_eq_false hi
  omega
def QV0 (l:List Job) (id_:Int):Job × Bool:=bif (((QW1 l)!=0)||(!(Q77 id_))) then (Job.zero,false) else bif (!(Qq0 l id_).2) then (Job.zero,false) else (((List.drop (Int.toNat ((Qq0 l id_).1)) (List.take (Int.toNat (w64 ((Qq0 l id_).1+1))) l)).getD 0 Job.zero),true)
theorem QGa (l:List Job) (id_:Int) (hs0:l.length<=4294967296∧(∀ y ∈ l,y.sz)):GV 78 [jobL l,I id_] (AVal.tup [Job.a ((QV0 l id_).1),Bo ((QV0 l id_).2)]):=by
 generalize hR:QV0 l id_=R;refine gA (kp 8 [15,24]) Tryz.func78 ?_;obtain ⟨z5,z6⟩:=id hs0;refine us (QN9 l szA _) ?_;(first|apply u2|apply u3|apply u4|apply us);exact table_known_c id_ _;refine ai (fun h1=>?_) (fun h2=>?_)
 ·exact lfA
 ·refine us (QQc l id_ szA _) ?_;refine ai (fun h3=>?_) (fun h4=>?_)
  ·exact lfA
  ·refine And.intro (by first|exact fun hg=>decide_eq_true (by first|(have hp:=QX4 l id_ hs0.1 (by assumption);have pw:IntKind.i64.wrap ((Qq0 l id_).1+1)=(Qq0 l id_).1+1:=wr (by omega);simp only [Option.getD_some,pw,List.length_drop,List.length_take];omega)|exact ckA)|exact gkA) ?_;refine us (mv [] (QRc (List.drop (Int.toNat ((Qq0 l id_).1)) (List.take (Int.toNat (w64 ((Qq0 l id_).1+1))) l)) szA) .nil (dv (dn_as (as_cut l (Int.toNat ((Qq0 l id_).1)) (Int.toNat (w64 ((Qq0 l id_).1+1))) leA (by first|(have hp:=QX4 l id_ hs0.1 (by assumption);have pw:IntKind.i64.wrap ((Qq0 l id_).1+1)=(Qq0 l id_).1+1:=wr (by omega);simp only [Option.getD_some,pw,List.length_drop,List.length_take];omega)|exact ckA)) lw) .nil) (rO rr .nil) (rw_ 1 0 rfl)) ?_;refine And.intro (by first|exact fun hg=>decide_eq_true (by first|(have hp:=QX4 l id_ hs0.1 (by assumption);have pw:IntKind.i64.wrap ((Qq0 l id_).1+1)=(Qq0 l id_).1+1:=wr (by omega);simp only [Option.getD_some,pw,List.length_drop,List.length_take];omega)|exact ckA)|exact gkA) ?_;refine ⟨_,QQ0 rfl rfl rfl (Q21 Job.zero 0 (by first|rfl|exact Nat.zero_add _|omega) (by first|(have hp:=QX4 l id_ hs0.1 (by assumption);have pw:IntKind.i64.wrap ((Qq0 l id_).1+1)=(Qq0 l id_).1+1:=wr (by omega);simp only [Option.getD_some,pw,List.length_drop,List.length_take];omega)|exact ckA)) rfl,?_⟩;exact lfA
def QHa (out:List Job):(List Job) × Int:=(out,0)
def Qo5 (l:List Job) (j:Job):(List Job) × Int:=bif ((QW1 l)!=0) then ([],(QW1 l)) else bif ((Q61 j)!=0) then ([],(Q61 j)) else bif (!(Qq0 l j.id).2) then ([],140) else QHa (l.set (Int.toNat ((Qq0 l j.id).1)) j)
theorem b12a0 {P:Prop} (h:P:=by first|((exact hx))|first|((exact hy))|first|((assumption))|exact szA):P:=h
theorem QO9 (l:List Job) (j:Job) (hs0:l.length<=4294967296∧(∀ y ∈ l,y.sz)) (hs1:j.sz):GV 177 [jobL l,Job.a j] (AVal.tup [jobL ((Qo5 l j).1),I ((Qo5 l j).2)]):=by
 generalize hR:Qo5 l j=R;refine gA (kj [1000012] 11 [14,19,29]) Tryz.func177 ?_;obtain ⟨z7,z8⟩:=id hs0;obtain ⟨z9,z10,z11,z12,z13⟩:=Job.zz hs1;refine us (QN9 l b12a0 _) ?_;refine ai (fun h1=>?_) (fun h2=>?_)
 ·exact lfA
 ·refine us (Qg8 j b12a0 _) ?_;refine ai (fun h3=>?_) (fun h4=>?_)
  ·exact lfA
  ·refine us (QQc l j.id b12a0 _) ?_;refine ai (fun h5=>?_) (fun h6=>?_)
   ·exact lfA
   ·refine us (mv [] (QI8 l b12a0) .nil (dl lw .nil) (rO rr .nil) (rw_ 1 0 rfl)) ?_;refine Qb1 (fun (out:List Job)=>QHa out=R∧(out.length<=4294967296∧(∀ y ∈ out,y.sz))) (fun out=>[(4,AVal.lit (.slice none 0 0)),(5,I 0),(10,jobL out)]) (fun out=>[]) ?_ ?_
    ·clear hR;rintro out ⟨hR,hx⟩;(try dsimp only at hR hx);refine us (mv [] (QRc out b12a0) .nil (dl lw .nil) (rO rr .nil) (rw_ 0 0 rfl)) ?_;obtain rfl:=foll hR rfl;exact Q80 (Low.tup' (.cons lw (l1 .nil))) (Seen.tup (ev (Q90 Job.zero _ rfl eqA lnA) (e1 .nil)))
    ·refine And.intro (by first|exact fun hg=>decide_eq_true (by first|((have hq:=QX4 l j.id z7 (by assumption);omega))|exact ckA)|exact gkA) ?_;refine ⟨_,Qu2 rfl rfl rfl rfl (Q21 Job.zero (Int.toNat ((Qq0 l j.id).1)) (by first|rfl|exact Nat.zero_add _|omega) (by first|((have hq:=QX4 l j.id z7 (by assumption);omega))|exact ckA)) rfl rfl (Qld (Int.toNat ((Qq0 l j.id).1)) j (by first|rfl|exact Nat.zero_add _|omega) rfl),?_⟩;exact Q70 (l.set (Int.toNat ((Qq0 l j.id).1)) j) (wk [] .nil (s1 (s1 (sv (Q98 _ _ rfl (Nat.zero_le _) (by decide) eqA (fun _=>Job.lowc _ _) lnA) .nil)))) (⟨folA,by first|((exact ⟨by rw [List.length_set];exact z7,fun y hy=>(List.mem_or_eq_of_mem_set hy).elim (z8 y) (fun e=>e ▸ hs1)⟩))|exact exA⟩)
def Qa6 (s:State):Int:=bif (((Qt8 s)!=0)||((Qr8 s.ledger)!=0)) then 141 else 0
theorem ref21_Check_c (s:State) (hs0:s.sz):GV 102 [State.a s] (I (Qa6 s)):=by
 generalize hR:Qa6 s=R;refine gA (kp 3 [11]) Tryz.func102 ?_;have hk0:=hs0;obtain ⟨z3,z4,z5,z6,z7,z8,z9⟩:=hs0;refine us (ref20_Check_c s szA _) ?_;(first|apply u2|apply u3|apply u4|apply us);exact ref17_Check_c s.ledger szA _;refine ai (fun h1=>?_) (fun h2=>?_)
 ·exact lfA
 ·exact lfA
def Qr2 (s:State):Int:=bif (((Qt2 s)!=0)||((Qw7 s.ledger)!=0)) then 141 else 0
theorem plan_Check_c (s:State) (hs0:s.sz):GV 72 [State.a s] (I (Qr2 s)):=by
 generalize hR:Qr2 s=R;refine gA (kp 3 [11]) Tryz.func72 ?_;have hk0:=hs0;obtain ⟨z3,z4,z5,z6,z7,z8,z9⟩:=hs0;refine us (QVd s szA _) ?_;(first|apply u2|apply u3|apply u4|apply us);exact ledger_Check_c s.ledger szA _;refine ai (fun h1=>?_) (fun h2=>?_)
 ·exact lfA
 ·exact lfA
theorem setM_sz (k:Int) (v:Job):∀ (l:List (Int × Job)),(∀ y ∈ l,y.2.sz)->v.sz -> ∀ y ∈ setM k v l,y.2.sz
 | [],_,hv,y,hy=>by
  rw [setM,List.mem_singleton] at hy
  subst hy
  exact hv
 | p :: r,h,hv,y,hy=>by
  rw [setM] at hy
  cases hk:(k==p.1) with
  | true =>
   rw [hk] at hy
   rcases List.mem_cons.1 hy with rfl|hy
   ·exact hv
   ·exact h y (List.mem_cons_of_mem _ hy)
  | false =>
   rw [hk] at hy
   rcases List.mem_cons.1 hy with rfl|hy
   ·exact h _ (List.mem_cons_self ..)
   ·exact setM_sz k v r (fun z hz=>h z (List.mem_cons_of_mem _ hz)) hv y hy
theorem getM_sz (k:Int):∀ (l:List (Int × Job)),(∀ y ∈ l,y.2.sz)->((getM k l).getD Job.zero).sz
 | [],_=>Job.szz _
 | p :: r,h=>by
  rw [getM]
  cases (k==p.1) with
  | true=>exact h p (List.mem_cons_self ..)
  | false=>exact getM_sz k r fun z hz=>h z (List.mem_cons_of_mem _ hz)
def Qs6 (s:State):List Node->List Int->Nat->List (Int × Int)->(List Int) × (List (Int × Int))
 | [],order,_,c=>(order,c)
 | x_ :: r,order,i,c=>bif (((getM (Qi1 x_ (QG0 s.jobs)) c).getD 0)==0) then Qs6 s r (order++([(Qi1 x_ (QG0 s.jobs))]:List Int)) (i+1) (setM (Qi1 x_ (QG0 s.jobs)) (w64 (((getM (Qi1 x_ (QG0 s.jobs)) c).getD 0)+1)) c) else Qs6 s r order (i+1) (setM (Qi1 x_ (QG0 s.jobs)) (w64 (((getM (Qi1 x_ (QG0 s.jobs)) c).getD 0)+1)) c)
def QB7 (order:List Int) (c:List (Int × Int)):List Int->Nat->Taken->Taken
 | [],_,c2=>c2
 | _ :: r,i1,c2=>QB7 order c r (i1+1) (QB1 c2 0 ((sorted order).getD i1 0) ((getM ((sorted order).getD i1 0) c).getD 0))
def Qt6 (c2:Taken):(List Step):=c2.p
def Qj5 (s:State) (order:List Int) (c:List (Int × Int)):(List Step):=Qt6 (QB7 order c (sorted order) 0 (⟨(Q95 (Q40 (Qu9 s.nodes)))⟩:Taken))
def QA7 (s:State):(List Step):=bif ((Qt2 s)!=0) then [] else Qj5 s ((Qs6 s s.nodes [] 0 []).1) ((Qs6 s s.nodes [] 0 []).2)
theorem b13a0 {P:Prop} (h:P:=by first|(exact ⟨.inr ⟨rfl,rfl⟩,Nat.le_refl _⟩)|first|(exact ⟨.inl (by simp),by simp;omega⟩)|first|(exact ⟨.inl (busy_ne hx.1 (by assumption)),by omega⟩)|first|(((try dsimp only);exact QP9 (by assumption)))|first|(((try dsimp only);exact QP9 hx))|first|(exact flat_len _)|exact exA):P:=h
theorem room_Busy_c (s:State) (hs0:s.sz):GV 90 [State.a s] (stepL (QA7 s)):=by
 generalize hR:QA7 s=R;refine gA (kp 12 [14,27,28,29,30,39,51,52,53,54]) Tryz.func90 ?_;have hk0:=hs0;obtain ⟨z9,z10,z11,z12,z13,z14,z15⟩:=hs0;refine us (QVd s szA _) ?_;refine ai (fun h1=>?_) (fun h2=>?_)
 ·exact lfA
 ·refine us (fleet_Up_c s.nodes szA _) ?_;refine us (Qc1 (Qu9 s.nodes) _) ?_;refine us (profile_Flat_c (Q40 (Qu9 s.nodes)) _) ?_;refine us (mv [] (room_limits_o s.jobs szA) .nil (dl lw .nil) (rO (RenO.same _ (Qk8 fun _=>lx)) .nil) (Ren.map _ _ rfl)) ?_;refine Qj8 (fun (order:List Int) (i:Nat) (c:List (Int × Int))=>Qj5 s (Qs6 s (List.drop i s.nodes) order i c).1 (Qs6 s (List.drop i s.nodes) order i c).2=R∧i<=s.nodes.length∧(order ≠ []∨(i=0∧c=[]))∧order.length<=i) (fun order i c=>s.nodes.length - i) (fun order i c=>[(2,AVal.lit (.slice none 0 0)),(3,AVal.ptr 0 0 1 0 0),(4,AVal.map 1),(5,AVal.map 2),(6,AVal.own 3 0 1 0 order.length),(27,nodeL s.nodes),(28,I (s.nodes.length:Int)),(29,I (i:Int))]) (fun order i c=>[(0,AObj.row 145 1 [[stepL (Q95 (Q40 (Qu9 s.nodes)))]]),(0,AObj.other (.map (mapEs ik I 0 c) c.length)),(0,AObj.other (.map (mapEs ik I 0 (QG0 s.jobs)) (QG0 s.jobs).length)),(0,AObj.row 3 1 (order.map (fun q_=>[I q_])))]) [] 0 [] ((Qx1 3 1).trans (wkA [1,2,3,4])) ⟨folA,by exact omA,b13a0⟩ ?_;clear hR;rintro order i c ⟨hR,hj,hx⟩;(try dsimp only at hR hj hx);refine ai (fun h3=>?_) (fun h4=>?_)
  ·have hlt:=ltA h3;rw [Qc0 Node.zero hlt] at hR;refine ai gkA ?_;refine us (mv [2] (room_until_c (s.nodes.getD i Node.zero) (QG0 s.jobs)) (dO (.same _ (Qk8 fun _=>lx)) .nil) (dv (QK6 (Low.agg' (Node.lo))) (dv (dn_ren (Ren.map _ _ rfl)) .nil)) (rO (RenO.same _ (Qk8 fun _=>lx)) .nil) rx) ?_;(first|refine ⟨_,_,QJ1 rfl _ _,QK1 (ek:=ik) (Qi1 (s.nodes.getD i Node.zero) (QG0 s.jobs)) c 0 (AsA.refl _),?_⟩|refine ⟨_,fun _=>⟨_,_,QJ1 rfl _ _,QK1 (ek:=ik) (Qi1 (s.nodes.getD i Node.zero) (QG0 s.jobs)) c 0 (AsA.refl _),rfl,rfl⟩,?_⟩|refine ⟨_,rfl,⟨_,_,QJ1 rfl _ _,QK1 (ek:=ik) (Qi1 (s.nodes.getD i Node.zero) (QG0 s.jobs)) c 0 (AsA.refl _),Sub.refl _,rfl⟩,?_⟩);refine ai (fun h5=>?_) (fun h6=>?_)
   ·refine Or.inl ?_;(first|refine ⟨Qo1 8 rfl lnA apA,?_⟩|refine ⟨QI0 8 rfl apA,?_⟩);(first|refine ⟨_,_,QJ1 rfl _ _,QK1 (ek:=ik) (Qi1 (s.nodes.getD i Node.zero) (QG0 s.jobs)) c 0 (AsA.refl _),?_⟩|refine ⟨_,fun _=>⟨_,_,QJ1 rfl _ _,QK1 (ek:=ik) (Qi1 (s.nodes.getD i Node.zero) (QG0 s.jobs)) c 0 (AsA.refl _),rfl,rfl⟩,?_⟩|refine ⟨_,rfl,⟨_,_,QJ1 rfl _ _,QK1 (ek:=ik) (Qi1 (s.nodes.getD i Node.zero) (QG0 s.jobs)) c 0 (AsA.refl _),Sub.refl _,rfl⟩,?_⟩);refine ⟨_,_,QJ1 rfl _ _,Qsc (ek:=ik) (Qi1 (s.nodes.getD i Node.zero) (QG0 s.jobs)) (w64 (((getM (Qi1 (s.nodes.getD i Node.zero) (QG0 s.jobs)) c).getD 0)+1)) c rfl rfl,?_⟩;exact Qb4 (order++([(Qi1 (s.nodes.getD i Node.zero) (QG0 s.jobs))]:List Int)) (i+1) (setM (Qi1 (s.nodes.getD i Node.zero) (QG0 s.jobs)) (w64 (((getM (Qi1 (s.nodes.getD i Node.zero) (QG0 s.jobs)) c).getD 0)+1)) c) (wkA [0,1,2,3]) omA ⟨foll hR (congrArg (fun p:(List Int) × (List (Int × Int))=>Qj5 s p.1 p.2) (ct h5 rfl)),by exact omA,b13a0⟩
   ·(first|refine ⟨_,_,QJ1 rfl _ _,QK1 (ek:=ik) (Qi1 (s.nodes.getD i Node.zero) (QG0 s.jobs)) c 0 (AsA.refl _),?_⟩|refine ⟨_,fun _=>⟨_,_,QJ1 rfl _ _,QK1 (ek:=ik) (Qi1 (s.nodes.getD i Node.zero) (QG0 s.jobs)) c 0 (AsA.refl _),rfl,rfl⟩,?_⟩|refine ⟨_,rfl,⟨_,_,QJ1 rfl _ _,QK1 (ek:=ik) (Qi1 (s.nodes.getD i Node.zero) (QG0 s.jobs)) c 0 (AsA.refl _),Sub.refl _,rfl⟩,?_⟩);refine ⟨_,_,QJ1 rfl _ _,Qsc (ek:=ik) (Qi1 (s.nodes.getD i Node.zero) (QG0 s.jobs)) (w64 (((getM (Qi1 (s.nodes.getD i Node.zero) (QG0 s.jobs)) c).getD 0)+1)) c rfl rfl,?_⟩;exact Qb4 order (i+1) (setM (Qi1 (s.nodes.getD i Node.zero) (QG0 s.jobs)) (w64 (((getM (Qi1 (s.nodes.getD i Node.zero) (QG0 s.jobs)) c).getD 0)+1)) c) (wkA [0,1,2,3]) omA ⟨foll hR (congrArg (fun p:(List Int) × (List (Int × Int))=>Qj5 s p.1 p.2) (cf h6 rfl)),by exact omA,b13a0⟩
  ·rw [Qd0 (l:=s.nodes) (j:=i) (geA h4)] at hR;replace hR:Qj5 s order c=R:=fo2 (fun p:(List Int) × (List (Int × Int))=>Qj5 s p.1 p.2) (order,c) hR rfl;refine us (mv [3] (slices_Sort_c order szA (by exact busy_order (by assumption) hx.1 (by assumption))) (dO (dr eqA) .nil) (dv (Q56 rfl lnA) .nil) (rO rr .nil) rx) ?_;refine Qe0 (fun (i1:Nat) (c2:Taken)=>Qt6 (QB7 order c (List.drop i1 (sorted order)) i1 c2)=R∧i1<=(sorted order).length∧c2.p.length<=4294967296) (fun i1 c2=>(sorted order).length - i1) (fun i1 c2=>[(2,AVal.lit (.slice none 0 0)),(3,AVal.ptr 0 0 1 0 0),(4,AVal.map 1),(51,AVal.own 2 0 1 0 ((sorted order).length)),(52,I ((sorted order).length:Int)),(53,I (i1:Int))]) (fun i1 c2=>[(0,AObj.row 145 1 [[stepL c2.p]]),(0,AObj.other (.map (mapEs ik I 0 c) c.length)),(0,AObj.row 3 1 ((sorted order).map (fun q_=>[I q_])))]) 0 (⟨(Q95 (Q40 (Qu9 s.nodes)))⟩:Taken) (wk [0,1,3] (tO rfl (ts Taken.lo) (tO rfl (Qi9 _ rfl rfl (fun _=>lx)) (tO rfl (tl eqA) .nil))) (s1 (sv (Qg1 0 rfl rfl) (sv (turn_map 1 rfl rfl) (sv (to 2 lnA) (sv (turn_eq (I_eq (by simp)) lx) (s1 .nil))))))) ⟨foll hR rfl,by exact omA,b13a0⟩ ?_;clear hR;rintro i1 c2 ⟨hR,hj,hx⟩;(try dsimp only at hR hj hx);refine ai (fun h7=>?_) (fun h8=>?_)
   ·have hlt:=ltA h7;rw [Qc0 0 hlt] at hR;have hsl:=sorted_len order;refine ai gkA ?_;refine ⟨_,QQ0 rfl rfl rfl (Q21 0 i1 (by first|rfl|exact Nat.zero_add _|omega) ckA) rfl,?_⟩;(first|refine ⟨_,_,QJ1 rfl _ _,QK1 (ek:=ik) ((sorted order).getD i1 0) c 0 (AsA.refl _),?_⟩|refine ⟨_,fun _=>⟨_,_,QJ1 rfl _ _,QK1 (ek:=ik) ((sorted order).getD i1 0) c 0 (AsA.refl _),rfl,rfl⟩,?_⟩|refine ⟨_,rfl,⟨_,_,QJ1 rfl _ _,QK1 (ek:=ik) ((sorted order).getD i1 0) c 0 (AsA.refl _),Sub.refl _,rfl⟩,?_⟩);refine us (mv [0] (Q57 c2 0 ((sorted order).getD i1 0) ((getM ((sorted order).getD i1 0) c).getD 0) szA) (dO (ds Taken.lo) .nil) (dp (d1 (d1 (d1 .nil)))) (rO (re Taken.lo) .nil) rx) ?_;exact Q60 (i1+1) (QB1 c2 0 ((sorted order).getD i1 0) ((getM ((sorted order).getD i1 0) c).getD 0)) (wkA [0,1,2]) omA ⟨foll hR (congrArg (fun p:Taken=>Qt6 p) rfl),by exact omA,b13a0⟩
   ·rw [Qd0 (l:=(sorted order)) (j:=i1) (geA h8)] at hR;replace hR:Qt6 c2=R:=fo2 (fun p:Taken=>Qt6 p) (c2) hR rfl;exact lfA
theorem Qr4 (s:State):(QA7 s).length<=4294967296:=by
 have g2:∀ (o:List Int) (c:List (Int × Int)) (l:List Int) (i:Nat) (t:Taken),t.p.length<=4294967296->(QB7 o c l i t).p.length<=4294967296:=by
  intro o c l
  induction l with
  | nil=>intro i t h;exact h
  | cons x r ih=>intro i t h;rw [QB7];exact ih _ _ (QP9 h)
 unfold QA7 Qj5 Qt6
 cases ((Qt2 s)!=0) with
 | true=>simp
 | false=>exact g2 _ _ _ _ _ (flat_len _)
def QE1 :List Job->Int->Nat->Int × Nat
 | [],last,i=>(last,i)
 | x_ :: r,_,i=>QE1 r x_.id (i+1)
def QR3 :List Book->Int->Nat->Int × Nat
 | [],final,i1=>(final,i1)
 | x_1 :: r,_,i1=>QR3 r x_1.id (i1+1)
def QS3 (s:State):Nat->Bool->Nat->Bool × Nat
 | 0,_,_=>(false,0)
 | m+1,ok,i2=>bif ((decide ((i2:Int)<(s.resizes.length:Int)))&&ok) then QS3 s m ((QI1 s (s.resizes.getD i2 Resize.zero))&&(((i2:Int)==0)||(decide ((s.resizes.getD (Int.toNat (w64 ((i2:Int) - 1))) Resize.zero).job<(s.resizes.getD i2 Resize.zero).job)))) (i2+1) else (ok,i2)
def QT3 (s:State):Nat->Bool->Nat->Bool × Nat
 | 0,_,_=>(false,0)
 | m+1,ok1,n=>bif ((decide ((n:Int)<(s.nodes.length:Int)))&&ok1) then QT3 s m (QC3 s (n:Int)) (n+1) else (ok1,n)
def QU3 (s:State):Nat->Bool->Nat->Bool × Nat
 | 0,_,_=>(false,0)
 | m+1,ok2,i3=>bif ((decide ((i3:Int)<(s.jobs.length:Int)))&&ok2) then QU3 s m (((s.jobs.getD i3 Job.zero).state != 2)||((QE6 s.nodes ((s.jobs.getD i3 Job.zero).id) 1)==(s.jobs.getD i3 Job.zero).nodes)) (i3+1) else (ok2,i3)
def QR4 (ok2:Bool) (i3:Nat):Int:=bif (!ok2) then 141 else 0
def QQ4 (s:State) (ok1:Bool) (n:Nat):Int:=QR4 ((QU3 s ((Int.toNat ((s.jobs.length:Int) - (0:Int)))+1) ok1 0).1) ((QU3 s ((Int.toNat ((s.jobs.length:Int) - (0:Int)))+1) ok1 0).2)
def QP4 (s:State) (ok:Bool) (i2:Nat):Int:=QQ4 s ((QT3 s ((Int.toNat ((s.nodes.length:Int) - (0:Int)))+1) ok 0).1) ((QT3 s ((Int.toNat ((s.nodes.length:Int) - (0:Int)))+1) ok 0).2)
def QO4 (s:State) (last:Int) (final:Int) (i1:Nat):Int:=QP4 s ((QS3 s ((Int.toNat ((s.resizes.length:Int) - (0:Int)))+1) ((QS4 s.nextJob last)&&(QS4 s.nextBook final)) 0).1) ((QS3 s ((Int.toNat ((s.resizes.length:Int) - (0:Int)))+1) ((QS4 s.nextJob last)&&(QS4 s.nextBook final)) 0).2)
def QI2 (s:State) (last:Int) (i:Nat):Int:=QO4 s last ((QR3 s.books 0 0).1) ((QR3 s.books 0 0).2)
def Qa2 (s:State):Int:=bif ((Qa6 s)!=0) then 141 else QI2 s ((QE1 s.jobs 0 0).1) ((QE1 s.jobs 0 0).2)
theorem QH9 (s:State) (hs0:s.sz):GV 41 [State.a s] (I (Qa2 s)):=by
 generalize hR:Qa2 s=R;refine gA (kp 11 [13,18,31,57,94,107,136]) Tryz.func41 ?_;have hk0:=hs0;obtain ⟨z20,z21,z22,z23,z24,z25,z26⟩:=hs0;refine us (ref21_Check_c s szA _) ?_;refine ai (fun h1=>?_) (fun h2=>?_)
 ·exact lfA
 ·refine Qe0 (fun (last:Int) (i:Nat)=>QI2 s (QE1 (List.drop i s.jobs) last i).1 (QE1 (List.drop i s.jobs) last i).2=R∧i<=s.jobs.length) (fun last i=>s.jobs.length - i) (fun last i=>[(1,AVal.ptr 0 0 8 0 0),(2,I 0),(3,I last),(4,I 0),(5,I (i:Int))]) (fun last i=>[(0,AObj.row 28 8 [[I s.now,nodeL s.nodes,jobL s.jobs,Qp1 s.resizes,bookL s.books,QD2 s.ledger,I s.nextJob,I s.nextBook]])]) 0 0 (wkA [0]) ⟨folA,by exact omA⟩ ?_;clear hR;rintro last i ⟨hR,hj⟩;(try dsimp only at hR hj);refine ai (fun h3=>?_) (fun h4=>?_)
  ·have hlt:=ltA h3;rw [Qc0 Job.zero hlt] at hR;have hxz:(s.jobs.getD i Job.zero).sz:=Q94 (by first|assumption|grind) (Job.szz _);have hkz:=hxz;obtain ⟨z5,z6,z7,z8,z9⟩:=Job.zz hxz;refine ai gkA ?_;exact Q60 ((s.jobs.getD i Job.zero).id) (i+1) (wkA [0]) omA ⟨foll hR (congrArg (fun p:Int × Nat=>QI2 s p.1 p.2) rfl),by exact omA⟩
  ·rw [Qd0 (l:=s.jobs) (j:=i) (geA h4)] at hR;replace hR:QI2 s last i=R:=fo2 (fun p:Int × Nat=>QI2 s p.1 p.2) (last,i) hR rfl;refine Qe0 (fun (final:Int) (i1:Nat)=>QO4 s last (QR3 (List.drop i1 s.books) final i1).1 (QR3 (List.drop i1 s.books) final i1).2=R∧i1<=s.books.length) (fun final i1=>s.books.length - i1) (fun final i1=>[(1,AVal.ptr 0 0 8 0 0),(2,I 0),(3,I last),(4,I final),(6,I (i1:Int))]) (fun final i1=>[(0,AObj.row 28 8 [[I s.now,nodeL s.nodes,jobL s.jobs,Qp1 s.resizes,bookL s.books,QD2 s.ledger,I s.nextJob,I s.nextBook]])]) 0 0 (wkA [0]) ⟨foll hR rfl,by exact omA⟩ ?_;clear hR;rintro final i1 ⟨hR,hj⟩;(try dsimp only at hR hj);refine ai (fun h10=>?_) (fun h11=>?_)
   ·have hlt:=ltA h10;rw [Qc0 Book.zero hlt] at hR;refine ai gkA ?_;exact Q60 ((s.books.getD i1 Book.zero).id) (i1+1) (wkA [0]) omA ⟨foll hR (congrArg (fun p:Int × Nat=>QO4 s last p.1 p.2) rfl),by exact omA⟩
   ·rw [Qd0 (l:=s.books) (j:=i1) (geA h11)] at hR;replace hR:QO4 s last final i1=R:=fo2 (fun p:Int × Nat=>QO4 s last p.1 p.2) (final,i1) hR rfl;refine us (QSd s.nextJob last _) ?_;(first|apply u2|apply u3|apply u4|apply us);exact QSd s.nextBook final _;refine Qe0 (fun (ok:Bool) (i2:Nat)=>∃ m,(Int.toNat ((s.resizes.length:Int) - (i2:Int)))<m∧QP4 s (QS3 s m ok i2).1 (QS3 s m ok i2).2=R∧(i2:Int)<=(s.resizes.length:Int)) (fun ok i2=>(Int.toNat ((s.resizes.length:Int) - (i2:Int)))) (fun ok i2=>[(1,AVal.ptr 0 0 8 0 0),(2,I 0),(7,Bo ok),(8,I (i2:Int))]) (fun ok i2=>[(0,AObj.row 28 8 [[I s.now,nodeL s.nodes,jobL s.jobs,Qp1 s.resizes,bookL s.books,QD2 s.ledger,I s.nextJob,I s.nextBook]])]) ((QS4 s.nextJob last)&&(QS4 s.nextBook final)) 0 (wkA [0]) ⟨_,Nat.lt_succ_self _,foll hR rfl,by exact exA⟩ ?_;clear hR;rintro ok i2 ⟨m,hm,hR,hx⟩;(try dsimp only at hR hm hx);obtain ⟨m,rfl⟩:=sucA m;refine ai (fun h12=>?_) (fun h13=>?_)
    ·refine dchk (by kernel_rfl) ?_;refine ai gkA ?_;(first|apply u2|apply u3|apply u4|apply us);exact Qfb s (s.resizes.getD i2 Resize.zero) szA _;refine ai gkA ?_;refine ai gkA ?_;(repeat ((first|refine ai rfl ?_|refine ai (fun _=>rfl) ?_|refine ai (fun _=>Qfb s (s.resizes.getD i2 Resize.zero) szA _) ?_)));exact Q60 ((QI1 s (s.resizes.getD i2 Resize.zero))&&(((i2:Int)==0)||(decide ((s.resizes.getD (Int.toNat (w64 ((i2:Int) - 1))) Resize.zero).job<(s.resizes.getD i2 Resize.zero).job)))) (i2+1) (wkA [0]) omA ⟨m,by exact omA,foll hR (congrArg (fun p:Bool × Nat=>QP4 s p.1 p.2) (ct h12 rfl)),by exact exA⟩
    ·replace hR:QP4 s ok i2=R:=fo2 (fun p:Bool × Nat=>QP4 s p.1 p.2) (ok,i2) hR (cf h13 rfl);refine Qe0 (fun (ok1:Bool) (n:Nat)=>∃ m,(Int.toNat ((s.nodes.length:Int) - (n:Int)))<m∧QQ4 s (QT3 s m ok1 n).1 (QT3 s m ok1 n).2=R∧(n:Int)<=(s.nodes.length:Int)) (fun ok1 n=>(Int.toNat ((s.nodes.length:Int) - (n:Int)))) (fun ok1 n=>[(1,AVal.ptr 0 0 8 0 0),(2,I 0),(7,Bo ok1),(9,I (n:Int))]) (fun ok1 n=>[(0,AObj.row 28 8 [[I s.now,nodeL s.nodes,jobL s.jobs,Qp1 s.resizes,bookL s.books,QD2 s.ledger,I s.nextJob,I s.nextBook]])]) ok 0 (wkA [0]) ⟨_,Nat.lt_succ_self _,foll hR rfl,by exact exA⟩ ?_;clear hR;rintro ok1 n ⟨m,hm,hR,hx⟩;(try dsimp only at hR hm hx);obtain ⟨m,rfl⟩:=sucA m;refine ai (fun h14=>?_) (fun h15=>?_)
     ·refine us (ref25_node_c s (n:Int) szA ckA _) ?_;exact Q60 (QC3 s (n:Int)) (n+1) (wkA [0]) omA ⟨m,by exact omA,foll hR (congrArg (fun p:Bool × Nat=>QQ4 s p.1 p.2) (ct h14 rfl)),by exact exA⟩
     ·replace hR:QQ4 s ok1 n=R:=fo2 (fun p:Bool × Nat=>QQ4 s p.1 p.2) (ok1,n) hR (cf h15 rfl);refine Qe0 (fun (ok2:Bool) (i3:Nat)=>∃ m,(Int.toNat ((s.jobs.length:Int) - (i3:Int)))<m∧QR4 (QU3 s m ok2 i3).1 (QU3 s m ok2 i3).2=R∧(i3:Int)<=(s.jobs.length:Int)) (fun ok2 i3=>(Int.toNat ((s.jobs.length:Int) - (i3:Int)))) (fun ok2 i3=>[(1,AVal.ptr 0 0 8 0 0),(2,I 0),(7,Bo ok2),(10,I (i3:Int))]) (fun ok2 i3=>[(0,AObj.row 28 8 [[I s.now,nodeL s.nodes,jobL s.jobs,Qp1 s.resizes,bookL s.books,QD2 s.ledger,I s.nextJob,I s.nextBook]])]) ok1 0 (wkA [0]) ⟨_,Nat.lt_succ_self _,foll hR rfl,by exact exA⟩ ?_;clear hR;rintro ok2 i3 ⟨m,hm,hR,hx⟩;(try dsimp only at hR hm hx);obtain ⟨m,rfl⟩:=sucA m;refine ai (fun h16=>?_) (fun h17=>?_)
      ·refine dchk (by kernel_rfl) ?_;refine ai gkA ?_;refine ai gkA ?_;(first|apply u2|apply u3|apply u4|apply us);exact ref12_Of_c s.nodes ((s.jobs.getD i3 Job.zero).id) 1 szA _;refine ai gkA ?_;(repeat ((first|refine ai rfl ?_|refine ai (fun _=>rfl) ?_|refine ai (fun _=>ref12_Of_c s.nodes ((s.jobs.getD i3 Job.zero).id) 1 szA _) ?_)));exact Q60 (((s.jobs.getD i3 Job.zero).state != 2)||((QE6 s.nodes ((s.jobs.getD i3 Job.zero).id) 1)==(s.jobs.getD i3 Job.zero).nodes)) (i3+1) (wkA [0]) omA ⟨m,by exact omA,foll hR (congrArg (fun p:Bool × Nat=>QR4 p.1 p.2) (ct h16 rfl)),by exact exA⟩
      ·replace hR:QR4 ok2 i3=R:=fo2 (fun p:Bool × Nat=>QR4 p.1 p.2) (ok2,i3) hR (cf h17 rfl);refine ai (fun h18=>?_) (fun h19=>?_)
       ·exact lfA
       ·exact lfA
def QF1 :List Job->Int->Nat->Int
 | [],lastJob,_=>lastJob
 | x_ :: r,_,i=>QF1 r x_.id (i+1)
def QG1 :List Book->Int->Nat->Int
 | [],lastBook,_=>lastBook
 | x_1 :: r,_,i1=>QG1 r x_1.id (i1+1)
def Qy0 :List Job->Nat->List (Int × Job)->(List (Int × Job))
 | [],_,c=>c
 | x_2 :: r,i2,c=>bif (x_2.state==2) then Qy0 r (i2+1) (setM x_2.id x_2 c) else Qy0 r (i2+1) c
def QH1 (s:State) (lastJob:Int) (lastBook:Int) (c:List (Int × Job)):List Resize->Nat->List (Int × Resize)->Int
 | [],_,c2=>bif ((((!true)||(!(Qj1 s.nextJob lastJob)))||(!(Qj1 s.nextBook lastBook)))||(!(QV2 s c c2))) then 141 else bif (c.all (fun (en:Int × Job)=>(bif ((QO2 s.nodes en.1)!=en.2.nodes) then false else true))) then 0 else 141
 | x_3 :: r,i3,c2=>bif (((!(getM x_3.job c).isSome)||((decide ((i3:Int) > 0))&&(decide ((s.resizes.getD (Int.toNat (w64 ((i3:Int) - 1))) Resize.zero).job >= x_3.job))))||(!(Qf3 s x_3 ((getM x_3.job c).getD Job.zero)))) then 141 else QH1 s lastJob lastBook c r (i3+1) (setM x_3.job x_3 c2)
def Qe3 (s:State) (lastJob:Int) (lastBook:Int) (c:List (Int × Job)):Int:=QH1 s lastJob lastBook c s.resizes 0 []
def QY3 (s:State) (lastJob:Int) (lastBook:Int):Int:=Qe3 s lastJob lastBook (Qy0 s.jobs 0 [])
def QX3 (s:State) (lastJob:Int):Int:=QY3 s lastJob (QG1 s.books 0 0)
def Qv0 (s:State):Int:=bif ((Qr2 s)!=0) then 141 else QX3 s (QF1 s.jobs 0 0)
theorem b14a0 {P:Prop} (h:P:=by first|(exact getM_sz _ _ (by assumption))|exact szA):P:=h
theorem b14a2 {P:Prop} (h:P:=by first|(exact setM_sz _ _ _ (by assumption) (by assumption))|first|(exact fun y hy=>absurd hy List.not_mem_nil)|first|(assumption)|exact exA):P:=h
theorem Q08 (s:State) (hs0:s.sz):GV 20 [State.a s] (I (Qv0 s)):=by
 generalize hR:Qv0 s=R;refine gA (kp 14 [16,18,19,20,21,28,29,30,31,68,70,72,82]) Tryz.func20 ?_;have hk0:=hs0;obtain ⟨z29,z30,z31,z32,z33,z34,z35⟩:=hs0;refine us (plan_Check_c s b14a0 _) ?_;refine ai (fun h1=>?_) (fun h2=>?_)
 ·exact lfA
 ·refine Qe0 (fun (lastJob:Int) (i:Nat)=>QX3 s (QF1 (List.drop i s.jobs) lastJob i)=R∧i<=s.jobs.length) (fun lastJob i=>s.jobs.length - i) (fun lastJob i=>[(1,AVal.ptr 0 0 8 0 0),(2,I 0),(3,I lastJob),(4,I 0),(18,jobL s.jobs),(19,I (s.jobs.length:Int)),(20,I (i:Int))]) (fun lastJob i=>[(0,AObj.row 28 8 [[I s.now,nodeL s.nodes,jobL s.jobs,Qp1 s.resizes,bookL s.books,QD2 s.ledger,I s.nextJob,I s.nextBook]])]) 0 0 (wkA [0]) ⟨folA,by exact omA⟩ ?_;clear hR;rintro lastJob i ⟨hR,hj⟩;(try dsimp only at hR hj);refine ai (fun h3=>?_) (fun h4=>?_)
  ·have hlt:=ltA h3;rw [Qc0 Job.zero hlt] at hR;have hxz:(s.jobs.getD i Job.zero).sz:=Q94 (by first|assumption|grind) (Job.szz _);have hkz:=hxz;obtain ⟨z5,z6,z7,z8,z9⟩:=Job.zz hxz;refine ai gkA ?_;exact Q60 ((s.jobs.getD i Job.zero).id) (i+1) (wkA [0]) omA ⟨foll hR (congrArg (fun p:Int=>QX3 s p) rfl),by exact omA⟩
  ·rw [Qd0 (l:=s.jobs) (j:=i) (geA h4)] at hR;replace hR:QX3 s lastJob=R:=fo2 (fun p:Int=>QX3 s p) (lastJob) hR rfl;refine Qe0 (fun (lastBook:Int) (i1:Nat)=>QY3 s lastJob (QG1 (List.drop i1 s.books) lastBook i1)=R∧i1<=s.books.length) (fun lastBook i1=>s.books.length - i1) (fun lastBook i1=>[(1,AVal.ptr 0 0 8 0 0),(2,I 0),(3,I lastJob),(4,I lastBook),(28,bookL s.books),(29,I (s.books.length:Int)),(30,I (i1:Int))]) (fun lastBook i1=>[(0,AObj.row 28 8 [[I s.now,nodeL s.nodes,jobL s.jobs,Qp1 s.resizes,bookL s.books,QD2 s.ledger,I s.nextJob,I s.nextBook]])]) 0 0 (wkA [0]) ⟨foll hR rfl,by exact omA⟩ ?_;clear hR;rintro lastBook i1 ⟨hR,hj⟩;(try dsimp only at hR hj);refine ai (fun h10=>?_) (fun h11=>?_)
   ·have hlt:=ltA h10;rw [Qc0 Book.zero hlt] at hR;refine ai gkA ?_;exact Q60 ((s.books.getD i1 Book.zero).id) (i1+1) (wkA [0]) omA ⟨foll hR (congrArg (fun p:Int=>QY3 s lastJob p) rfl),by exact omA⟩
   ·rw [Qd0 (l:=s.books) (j:=i1) (geA h11)] at hR;replace hR:QY3 s lastJob lastBook=R:=fo2 (fun p:Int=>QY3 s lastJob p) (lastBook) hR rfl;refine ACalls.of_cwp (fun _=>true) Tryz.func73 rfl rfl ?_;refine Qe0 (fun (i2:Nat) (c:List (Int × Job))=>Qe3 s lastJob lastBook (Qy0 (List.drop i2 s.jobs) i2 c)=R∧i2<=s.jobs.length ∧ ∀ y ∈ c,y.2.sz) (fun i2 c=>s.jobs.length - i2) (fun i2 c=>[(2,AVal.lit (.map none)),(3,AVal.map 1),(7,jobL s.jobs),(8,I (s.jobs.length:Int)),(9,I (i2:Int))]) (fun i2 c=>[(0,AObj.row 28 8 [[I s.now,nodeL s.nodes,jobL s.jobs,Qp1 s.resizes,bookL s.books,QD2 s.ledger,I s.nextJob,I s.nextBook]]),(0,AObj.other (.map (mapEs ik Job.a 0 c) c.length))]) 0 [] (wkA [0,1]) ⟨foll hR rfl,by exact omA,b14a2⟩ ?_;clear hR;rintro i2 c ⟨hR,hj,hx⟩;(try dsimp only at hR hj hx);refine ai (fun h12=>?_) (fun h13=>?_)
    ·have hlt:=ltA h12;rw [Qc0 Job.zero hlt] at hR;have hxz:(s.jobs.getD i2 Job.zero).sz:=Q94 (by first|assumption|grind) (Job.szz _);have hkz:=hxz;obtain ⟨z14,z15,z16,z17,z18⟩:=Job.zz hxz;refine ai gkA ?_;refine ai (fun h19=>?_) (fun h20=>?_)
     ·refine ⟨_,_,QJ1 rfl _ _,Qsc (ek:=ik) ((s.jobs.getD i2 Job.zero).id) (s.jobs.getD i2 Job.zero) c rfl rfl,?_⟩;exact Q60 (i2+1) (setM (s.jobs.getD i2 Job.zero).id (s.jobs.getD i2 Job.zero) c) (wkA [0,1]) omA ⟨foll hR (congrArg (fun p:(List (Int × Job))=>Qe3 s lastJob lastBook p) (ct h19 rfl)),by exact omA,b14a2⟩
     ·exact Q60 (i2+1) c (wkA [0,1]) omA ⟨foll hR (congrArg (fun p:(List (Int × Job))=>Qe3 s lastJob lastBook p) (cf h20 rfl)),by exact omA,b14a2⟩
    ·rw [Qd0 (l:=s.jobs) (j:=i2) (geA h13)] at hR;replace hR:Qe3 s lastJob lastBook c=R:=fo2 (fun p:(List (Int × Job))=>Qe3 s lastJob lastBook p) (c) hR rfl;refine ⟨_,_,Told.refl,?_⟩;refine ACalls.of_cwp (fun _=>true) Tryz.func74 rfl rfl ?_;refine Qe0 (fun (i3:Nat) (c2:List (Int × Resize))=>QH1 s lastJob lastBook c (List.drop i3 s.resizes) i3 c2=R∧i3<=s.resizes.length) (fun i3 c2=>s.resizes.length - i3) (fun i3 c2=>[(1,AVal.map 1),(2,AVal.ptr 2 0 8 0 0),(4,AVal.lit (.map none)),(5,Bo false),(6,AVal.map 3),(13,Qp1 s.resizes),(14,I (s.resizes.length:Int)),(15,I (i3:Int))]) (fun i3 c2=>[(0,AObj.row 28 8 [[I s.now,nodeL s.nodes,jobL s.jobs,Qp1 s.resizes,bookL s.books,QD2 s.ledger,I s.nextJob,I s.nextBook]]),(0,AObj.other (.map (mapEs ik Job.a 0 c) c.length)),(0,AObj.row 28 8 [[I s.now,nodeL s.nodes,jobL s.jobs,Qp1 s.resizes,bookL s.books,QD2 s.ledger,I s.nextJob,I s.nextBook]]),(0,AObj.other (.map (mapEs ik Resize.a 0 c2) c2.length))]) 0 [] (wkA [0,1,2,3]) ⟨foll hR rfl,by exact omA⟩ ?_;clear hR;rintro i3 c2 ⟨hR,hj⟩;(try dsimp only at hR hj);refine ai (fun h21=>?_) (fun h22=>?_)
     ·have hlt:=ltA h21;rw [Qc0 Resize.zero hlt] at hR;refine ai gkA ?_;(first|refine ⟨_,_,QJ1 rfl _ _,QK1 (ek:=ik) ((s.resizes.getD i3 Resize.zero).job) c Job.zero (QFe (a1 (a1 (a1 (a1 (a1 (av (Qp7) (a1 (a1 (a1 (a1 (av (Qp7) (a1 (a1 (a1 (a1 (a1 (a1 (a1 (a1 (a1 .nil))))))))))))))))))))),?_⟩|refine ⟨_,fun _=>⟨_,_,QJ1 rfl _ _,QK1 (ek:=ik) ((s.resizes.getD i3 Resize.zero).job) c Job.zero (QFe (a1 (a1 (a1 (a1 (a1 (av (Qp7) (a1 (a1 (a1 (a1 (av (Qp7) (a1 (a1 (a1 (a1 (a1 (a1 (a1 (a1 (a1 .nil))))))))))))))))))))),rfl,rfl⟩,?_⟩|refine ⟨_,rfl,⟨_,_,QJ1 rfl _ _,QK1 (ek:=ik) ((s.resizes.getD i3 Resize.zero).job) c Job.zero (QFe (a1 (a1 (a1 (a1 (a1 (av (Qp7) (a1 (a1 (a1 (a1 (av (Qp7) (a1 (a1 (a1 (a1 (a1 (a1 (a1 (a1 (a1 .nil))))))))))))))))))))),Sub.refl _,rfl⟩,?_⟩);refine dchk (by kernel_rfl) ?_;refine ai gkA ?_;(first|apply u2|apply u3|apply u4|apply us);exact Qkb s (s.resizes.getD i3 Resize.zero) ((getM (s.resizes.getD i3 Resize.zero).job c).getD Job.zero) b14a0 b14a0 _;(repeat ((first|refine ai rfl ?_|refine ai (fun _=>rfl) ?_|refine ai (fun _=>Qkb s (s.resizes.getD i3 Resize.zero) ((getM (s.resizes.getD i3 Resize.zero).job c).getD Job.zero) b14a0 b14a0 _) ?_)));refine ai (fun h23=>?_) (fun h24=>?_)
      ·refine ⟨_,_,Told.refl,?_⟩;(first|refine ⟨Bo false,_,fun h=>absurd h (by decide),fun _=>rfl,?_⟩|refine ⟨Bo false,fun h=>absurd h (by decide),?_⟩|refine ⟨Bo false,_,fun h=>absurd h (by simp),fun _=>rfl,?_⟩|refine ⟨Bo false,fun h=>absurd h (by simp),?_⟩);(first|refine ⟨Bo false,_,fun h=>absurd h (by decide),fun _=>rfl,?_⟩|refine ⟨Bo false,fun h=>absurd h (by decide),?_⟩|refine ⟨Bo false,_,fun h=>absurd h (by simp),fun _=>rfl,?_⟩|refine ⟨Bo false,fun h=>absurd h (by simp),?_⟩);(first|refine ⟨Bo false,_,fun h=>absurd h (by decide),fun _=>rfl,?_⟩|refine ⟨Bo false,fun h=>absurd h (by decide),?_⟩|refine ⟨Bo false,_,fun h=>absurd h (by simp),fun _=>rfl,?_⟩|refine ⟨Bo false,fun h=>absurd h (by simp),?_⟩);refine ai (fun _=>?_) (fun h=>nomatch h);exact lfA
      ·refine ⟨_,_,QJ1 rfl _ _,Qsc (ek:=ik) ((s.resizes.getD i3 Resize.zero).job) (s.resizes.getD i3 Resize.zero) c2 rfl rfl,?_⟩;exact Q60 (i3+1) (setM (s.resizes.getD i3 Resize.zero).job (s.resizes.getD i3 Resize.zero) c2) (wkA [0,1,2,3]) omA ⟨folA,by exact omA⟩
     ·rw [Qd0 (l:=s.resizes) (j:=i3) (geA h22)] at hR;refine ⟨_,_,Told.refl,?_⟩;(first|apply u2|apply u3|apply u4|apply us);exact Q0e s.nextJob lastJob _;(first|apply u2|apply u3|apply u4|apply us);exact Q0e s.nextBook lastBook _;(first|apply u2|apply u3|apply u4|apply us);exact mv [1,3] (state_nodes_c s c c2 b14a0) (dO (.same _ (Qk8 fun _=>Job.low _ _)) (dO (.same _ (Qk8 fun _=>Resize.low _ _)) .nil)) (dv (QK6 (Low.agg' (State.lo))) (dv (dn_ren (Ren.map _ _ rfl)) (dv (dn_ren (Ren.map _ _ rfl)) .nil))) (rO (RenO.same _ (Qk8 fun _=>Job.low _ _)) (rO (RenO.same _ (Qk8 fun _=>Resize.low _ _)) .nil)) rx;refine ai (fun h25=>?_) (fun h26=>?_)
      ·exact lfA
      ·refine loop_start (X:=Array Nat) (fun x=>(bif (c.all (fun (en:Int × Job)=>(bif ((QO2 s.nodes en.1)!=en.2.nodes) then false else true))) then 0 else 141)=R ∧ ∀ j,j<c.length->x.contains j=true->(fun (en:Int × Job)=>(bif ((QO2 s.nodes en.1)!=en.2.nodes) then false else true)) (c.getD j ((0,Job.zero):Int × Job))=true) (fun x=>unseen c.length x) (fun seen=>[(1,AVal.ptr 0 0 8 0 0),(2,I 0),(70,AVal.ptr 2 0 1 0 0)]) (fun seen=>[(0,AObj.row 28 8 [[I s.now,nodeL s.nodes,jobL s.jobs,Qp1 s.resizes,bookL s.books,QD2 s.ledger,I s.nextJob,I s.nextBook]]),(0,AObj.other (.map (mapEs ik Job.a 0 c) c.length)),(0,AObj.other (.mapIter 1 c.length seen c.length))]) #[] (wk [0,1,4] (tO rfl (ts State.lo) (tO rfl (Qi9 _ rfl rfl (fun _=>Job.low _ _)) (tO rfl (turn_miter 1 rfl rfl) .nil))) (sv (Qg1 0 rfl rfl) (s1 (sv (Qg1 2 rfl rfl) .nil)))) ⟨folA,fun j hj hc=>absurd hc (by simp)⟩ ?_;clear hR;rintro seen ⟨hR,hx⟩;refine map_round ((0,Job.zero):Int × Job) (fun j hj hns=>?_) (fun hall=>?_)
       ·refine ai (fun _=>?_) (fun h=>nomatch h);refine ⟨_,entry_map ((0,Job.zero):Int × Job) rfl rfl hj,?_⟩;refine dchk (by kernel_rfl) ?_;(first|apply u2|apply u3|apply u4|apply us);exact Qrd s.nodes ((c.getD j ((0,Job.zero):Int × Job)).1) b14a0 _;(repeat ((first|refine ai rfl ?_|refine ai (fun _=>rfl) ?_|refine ai (fun _=>Qrd s.nodes ((c.getD j ((0,Job.zero):Int × Job)).1) b14a0 _) ?_)));refine ai (fun h27=>?_) (fun h28=>?_)
        ·obtain rfl:=foll hR ((cond_f (all_f (p:=(fun (en:Int × Job)=>(bif ((QO2 s.nodes en.1)!=en.2.nodes) then false else true))) hj (ct h27 rfl))).trans rfl);exact Q80 lx sr
        ·exact loop_next (seen.push j) (unseen_push hj hns) (wk [0,1,2] (tO rfl (ts State.lo) (tO rfl (Qi9 _ rfl rfl (fun _=>Job.low _ _)) (tO rfl (turn_miter 1 rfl rfl) .nil))) (sv (Qg1 0 rfl rfl) (s1 (sv (Qg1 2 rfl rfl) .nil)))) ⟨hR,seen_push (p:=(fun (en:Int × Job)=>(bif ((QO2 s.nodes en.1)!=en.2.nodes) then false else true))) hx (cf h28 rfl)⟩
       ·refine ai (fun h=>nomatch h) (fun _=>?_);obtain rfl:=foll hR (ct (all_t hall hx) rfl);exact Q80 lx sr
def Qk5 :List Book->Nat->Taken->Taken
 | [],_,c=>c
 | x_ :: r,i,c=>Qk5 r (i+1) (QB1 c x_.from_ x_.to x_.nodes)
def QH3 (except:List Int):List Job->Nat->Taken->Taken
 | [],_,c2=>c2
 | x_1 :: r,i1,c2=>bif (!(Qw1 except x_1.id)) then bif (Q02 x_1).2.2.2 then QH3 except r (i1+1) (QB1 c2 ((Q02 x_1).1) (w64 ((Q02 x_1).1+(Q02 x_1).2.1)) ((Q02 x_1).2.2.1)) else QH3 except r (i1+1) c2 else QH3 except r (i1+1) c2
def Qn4 (c2:Taken):(List Step):=c2.p
def Qu6 (s:State) (except:List Int) (c:Taken):(List Step):=Qn4 (QH3 except s.jobs 0 c)
def QC7 (s:State) (except:List Int):(List Step):=Qu6 s except (Qk5 s.books 0 (⟨(QA7 s)⟩:Taken))
theorem take_nil (f t n:Int):QB1 (⟨[]⟩:Taken) f t n=⟨[]⟩:=by
 unfold QB1
 cases ((decide (t<=f))||(n==0)) <;> rfl
theorem room_Room_nil {s:State} {except:List Int} (h:(QA7 s).length=0):QC7 s except=[]:=by
 have g1:∀ (l:List Book) (i:Nat),Qk5 l i (⟨[]⟩:Taken)=⟨[]⟩:=by
  intro l
  induction l with
  | nil=>intro i;rfl
  | cons x r ih=>intro i;rw [Qk5,take_nil];exact ih _
 have g2:∀ (l:List Job) (i:Nat),QH3 except l i (⟨[]⟩:Taken)=⟨[]⟩:=by
  intro l
  induction l with
  | nil=>intro i;rfl
  | cons x r ih =>
   intro i
   rw [QH3,take_nil]
   repeat' first|exact ih _|(rw [Bool.cond_eq_ite];split)
 unfold QC7 Qu6 Qn4
 rw [List.eq_nil_of_length_eq_zero h,g1,g2]
theorem b14a1 {P:Prop} (h:P:=by first|(((try dsimp only);exact QP9 (by assumption)))|first|(((try dsimp only);exact QP9 hx))|first|(exact Qr4 _)|exact exA):P:=h
theorem QHf (s:State) (except:List Int) (hs0:s.sz) (hs1:except.length<=4294967296):GV 35 [State.a s,ints except] (stepL (QC7 s except)):=by
 generalize hR:QC7 s except=R;refine gA (kp 12 [15,21,22,23,24,37,38,39,40,47]) Tryz.func35 ?_;have hk0:=hs0;obtain ⟨z14,z15,z16,z17,z18,z19,z20⟩:=hs0;have hk1:=hs1;obtain z21:except.length<=4294967296:=hs1;refine us (room_Busy_c s (by first|(exact Qr4 _)|exact szA) _) ?_;intro nb3 hb3
 cases nb3
 ·refine ai (fun h=>nomatch h) (fun _=>?_);refine Qe0 (fun (i:Nat) (c:Taken)=>Qu6 s except (Qk5 (List.drop i s.books) i c)=R∧i<=s.books.length∧c.p.length<=4294967296) (fun i c=>s.books.length - i) (fun i c=>[(1,ints except),(2,AVal.ptr 0 0 8 0 0),(4,AVal.lit (.slice none 0 0)),(6,AVal.ptr 2 0 1 0 0),(7,AVal.fn (.func 91) [] [AVal.ptr 2 0 1 0 0]),(21,bookL s.books),(22,I (s.books.length:Int)),(23,I (i:Int))]) (fun i c=>[(0,AObj.row 28 8 [[I s.now,nodeL s.nodes,jobL s.jobs,Qp1 s.resizes,bookL s.books,QD2 s.ledger,I s.nextJob,I s.nextBook]]),(0,AObj.row 145 1 [[stepL c.p]]),(0,AObj.row 143 1 [[AVal.ptr 1 0 1 0 0]])]) 0 (⟨(QA7 s)⟩:Taken) (wkA [0,1,2]) ⟨foll hR rfl,by exact omA,b14a1⟩ ?_;clear hR;rintro i c ⟨hR,hj,hx⟩;(try dsimp only at hR hj hx);refine ai (fun h1=>?_) (fun h2=>?_)
  ·have hlt:=ltA h1;rw [Qc0 Book.zero hlt] at hR;refine ai gkA ?_;refine us (mv [1] (Q57 c ((s.books.getD i Book.zero).from_) ((s.books.getD i Book.zero).to) ((s.books.getD i Book.zero).nodes) (by first|(exact Qr4 _)|exact szA)) (dO (ds Taken.lo) .nil) (dp (d1 (d1 (d1 .nil)))) (rO (re Taken.lo) .nil) rx) ?_;exact Q60 (i+1) (QB1 c (s.books.getD i Book.zero).from_ (s.books.getD i Book.zero).to (s.books.getD i Book.zero).nodes) (wkA [0,1,2]) omA ⟨foll hR (congrArg (fun p:Taken=>Qu6 s except p) rfl),by exact omA,b14a1⟩
  ·rw [Qd0 (l:=s.books) (j:=i) (geA h2)] at hR;replace hR:Qu6 s except c=R:=fo2 (fun p:Taken=>Qu6 s except p) (c) hR rfl;refine Qe0 (fun (i1:Nat) (c2:Taken)=>Qn4 (QH3 except (List.drop i1 s.jobs) i1 c2)=R∧i1<=s.jobs.length∧c2.p.length<=4294967296) (fun i1 c2=>s.jobs.length - i1) (fun i1 c2=>[(1,ints except),(4,AVal.lit (.slice none 0 0)),(6,AVal.ptr 1 0 1 0 0),(7,AVal.fn (.func 91) [] [AVal.ptr 1 0 1 0 0]),(37,jobL s.jobs),(38,I (s.jobs.length:Int)),(39,I (i1:Int))]) (fun i1 c2=>[(0,AObj.row 145 1 [[stepL c2.p]]),(0,AObj.row 143 1 [[AVal.ptr 0 0 1 0 0]])]) 0 c (wkA [1,2]) ⟨foll hR rfl,by exact omA,b14a1⟩ ?_;clear hR;rintro i1 c2 ⟨hR,hj,hx⟩;(try dsimp only at hR hj hx);refine ai (fun h3=>?_) (fun h4=>?_)
   ·have hlt:=ltA h3;rw [Qc0 Job.zero hlt] at hR;have hxz:(s.jobs.getD i1 Job.zero).sz:=Q94 (by first|assumption|grind) (Job.szz _);have hkz:=hxz;obtain ⟨z5,z6,z7,z8,z9⟩:=Job.zz hxz;refine ai gkA ?_;refine us (Qf2 except ((s.jobs.getD i1 Job.zero).id) (by first|(exact Qr4 _)|exact szA) _) ?_;refine ai (fun h10=>?_) (fun h11=>?_)
    ·refine ACalls.of_cwp (fun _=>true) Tryz.func91 rfl rfl ?_;refine us (room_Claim_c (s.jobs.getD i1 Job.zero) (by first|(exact Qr4 _)|exact szA) _) ?_;refine ai (fun h12=>?_) (fun h13=>?_)
     ·refine us (mv [0] (Q57 c2 ((Q02 (s.jobs.getD i1 Job.zero)).1) (w64 ((Q02 (s.jobs.getD i1 Job.zero)).1+(Q02 (s.jobs.getD i1 Job.zero)).2.1)) ((Q02 (s.jobs.getD i1 Job.zero)).2.2.1) (by first|(exact Qr4 _)|exact szA)) (dO (ds Taken.lo) .nil) (dp (d1 (d1 (d1 .nil)))) (rO (re Taken.lo) .nil) rx) ?_;refine ⟨_,_,Told.refl,?_⟩;exact Q60 (i1+1) (QB1 c2 ((Q02 (s.jobs.getD i1 Job.zero)).1) (w64 ((Q02 (s.jobs.getD i1 Job.zero)).1+(Q02 (s.jobs.getD i1 Job.zero)).2.1)) ((Q02 (s.jobs.getD i1 Job.zero)).2.2.1)) (wkA [0,1]) omA ⟨foll hR (congrArg (fun p:Taken=>Qn4 p) (ct h10 (ct h12 rfl))),by exact omA,b14a1⟩
     ·refine ⟨_,_,Told.refl,?_⟩;exact Q60 (i1+1) c2 (wkA [0,1]) omA ⟨foll hR (congrArg (fun p:Taken=>Qn4 p) (ct h10 (cf h13 rfl))),by exact omA,b14a1⟩
    ·exact Q60 (i1+1) c2 (wkA [0,1]) omA ⟨foll hR (congrArg (fun p:Taken=>Qn4 p) (cf h11 rfl)),by exact omA,b14a1⟩
   ·rw [Qd0 (l:=s.jobs) (j:=i1) (geA h4)] at hR;replace hR:Qn4 c2=R:=fo2 (fun p:Taken=>Qn4 p) (c2) hR rfl;exact lfA
 ·have hl3:(QA7 s).length=0:=Decidable.byContradiction fun hn=>absurd (hb3 hn) (by decide);refine ai (fun _=>?_) (fun h=>nomatch h);obtain rfl:=foll hR (room_Room_nil hl3);exact Q80 lw (Q30)
theorem QC0 (s:State) (ex:List Int):(QC7 s ex).length<=4294967296:=by
 have g1:∀ (l:List Book) (i:Nat) (t:Taken),t.p.length<=4294967296->(Qk5 l i t).p.length<=4294967296:=by
  intro l
  induction l with
  | nil=>intro i t h;exact h
  | cons x r ih=>intro i t h;rw [Qk5];exact ih _ _ (QP9 h)
 have g2:∀ (l:List Job) (i:Nat) (t:Taken),t.p.length<=4294967296->(QH3 ex l i t).p.length<=4294967296:=by
  intro l
  induction l with
  | nil=>intro i t h;exact h
  | cons x r ih =>
   intro i t h
   rw [QH3]
   repeat' first|exact ih _ _ h|exact ih _ _ (QP9 h)|(rw [Bool.cond_eq_ite];split)
 exact g2 _ _ _ (g1 _ _ _ (Qr4 s))
def Q20 (s:State) (id_:Int):Resize × Bool:=bif (((Q05 s id_).nodes==0)||((Qa2 s)!=0)) then (Resize.zero,false) else ((Q05 s id_),true)
theorem QX9 (s:State) (id_:Int) (hs0:s.sz):GV 43 [State.a s,I id_] (AVal.tup [Resize.a ((Q20 s id_).1),Bo ((Q20 s id_).2)]):=by
 generalize hR:Q20 s id_=R;refine gA (kp 7 [17]) Tryz.func43 ?_;have hk0:=hs0;obtain ⟨z3,z4,z5,z6,z7,z8,z9⟩:=hs0;refine us (ref25_of_c s id_ szA _) ?_;(first|apply u2|apply u3|apply u4|apply us);exact QH9 s szA _;refine ai (fun h1=>?_) (fun h2=>?_)
 ·exact lfA
 ·exact lfA
end Go.Proofs.YtackngeeehiegaaGreatDoor
