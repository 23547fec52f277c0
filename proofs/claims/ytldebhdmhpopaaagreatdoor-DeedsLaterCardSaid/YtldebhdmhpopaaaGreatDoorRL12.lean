/-
  What the last text of this claim leans on: an evaluator over the code, contracts of functions, plain laws. Conditions stand in each statement.
-/
import Derived.Test.YtldebhdmhpopaaaGreatDoorRL11
import Derived.Test.YtldebhdmhpopaaaGreatDoorProg
import Derived.Test.YtldebhdmhpopaaaGreatDoorRL8
namespace Go.Proofs.YtldebhdmhpopaaaGreatDoor
set_option linter.unusedSimpArgs false
set_option linter.unusedVariables false
open Go.Fw
set_option maxRecDepth 20000
set_option maxHeartbeats 4000000
attribute [local irreducible] ACalls AMoves
def QH0 (y:Int):List Int->Nat->Bool
 | [],_=>false
 | x_1 :: r,i=>bif ((QJ1 y)==x_1) then true else QH0 y r (i+1)
def Qa8 (line:ByteArray):List (Nat × Int)->LexReader->LexReader
 | [],c=>c
 | x_ :: r,c=>Qa8 line r { c with line:=(c.line++([x_.2]:List Int)) }
def Qb8 :Nat->List Token->LexReader->(List Token) × Int × Int
 | 0,_,_=>([],0,0)
 | m+1,out,c2=>bif (c2.error==0) then bif ((Q70 c2 (fun (y:Int)=>QH0 y ([1]:List Int) 0)).2.at_==(((Q70 c2 (fun (y:Int)=>QH0 y ([1]:List Int) 0)).2.line).length:Int)) then (out,(((Q70 c2 (fun (y:Int)=>QH0 y ([1]:List Int) 0)).2.line).length:Int),0) else Qb8 m (out++([{ (QD0 ((Q70 c2 (fun (y:Int)=>QH0 y ([1]:List Int) 0)).2)).1 with at_:=(Q70 c2 (fun (y:Int)=>QH0 y ([1]:List Int) 0)).2.at_ }]:List Token)) ((QD0 ((Q70 c2 (fun (y:Int)=>QH0 y ([1]:List Int) 0)).2)).2) else ([],c2.bad,c2.error)
def Qp5 (c:LexReader):(List Token) × Int × Int:=Qb8 ((2*Int.toNat ((c.line.length:Int) - c.at_)+(bif c.error==0 then 1 else 0))+1) [] c
def QV3 (line:ByteArray):(List Token) × Int × Int:=bif (decide ((ByteArray.size line:Int) > 400)) then ([],0,3) else Qp5 (Qa8 line (Qwc line) LexReader.zero)
theorem b6a0 {P:Prop} (h:P:=by first|(have hq:=hrd _ (by assumption);exact ⟨hq.2.1.1,hq.2.1.2.1,hq.2.1.2.2,fun hz=>by have hq3:=hq.2.2.2 hz;simp only [List.length_append,List.length_cons,List.length_nil];omega⟩)|first|(refine ⟨by omega,by omega,by omega,fun _=>by simp;omega⟩)|first|(simp [LexReader.zero];done)|first|(simp;omega)|exact exA):P:=h
theorem lex_Tokens_c (line:ByteArray) (hs0:line.size<=4294967296):GV 269 [Sg line] (AVal.tup [tokenL ((QV3 line).1),I ((QV3 line).2.1),I ((QV3 line).2.2)]):=by
 generalize hR:QV3 line=R;refine ga (l1 .nil) (Low.tup' (.cons lw (l1 (l1 .nil)))) (kp 12 [14,18,19,20,38,51]) Tryz.func269 ?_;have hk0:=hs0;obtain z15:line.size<=4294967296:=hs0;refine ai (fun h1=>?_) (fun h2=>?_)
 ·have qh1:=of_decide_eq_true h1;obtain rfl:=foll hR (ct h1 rfl);exact Q10 (Low.tup' (.cons lw (l1 (l1 .nil)))) (Seen.tup (ev (Q50) (e1 (e1 .nil))))
 ·have qh2:=of_decide_eq_false h2;refine Qq0 (fun (c:LexReader) (pos:Nat)=>∃ m,ByteArray.size line - pos<=m∧Qp5 (Qa8 line (QV4 line m pos) c)=R∧c.line.length<=pos∧pos<=ByteArray.size line∧c.at_=0) (fun c pos=>ByteArray.size line - pos) (fun c pos=>[(2,AVal.lit (.slice none 0 0)),(3,I 0),(4,I 0),(5,AVal.ptr 0 0 4 0 0),(18,AVal.ptr 1 0 1 0 0)]) (fun c pos=>[(0,AObj.row 317 4 [[AVal.own 2 0 1 0 c.line.length,I c.at_,I c.bad,I c.error]]),(0,AObj.other (.strIter line pos)),(0,AObj.row 21 1 (c.line.map (fun q_=>[J q_])))]) LexReader.zero 0 ((Qo1 21 1).trans (wk [0,1,2] (tO rfl (Q90 (cv (Q51 2 rfl) (c1 (c1 (c1 .nil))))) (tO rfl (.strIter _ _) (tO rfl (tl eqA) .nil))) (s1 (s1 (s1 (sv (Q00 0 rfl rfl) (sv (Q00 1 rfl rfl) .nil))))))) ⟨ByteArray.size line,by first|(have hq:=hrd _ (by assumption);omega)|exact omA,foll hR (cf h2 rfl),b6a0⟩ ?_;clear hR;rintro c pos ⟨m,hm,hR,hx⟩;(try dsimp only at hR hm hx);refine ai (fun h3=>?_) (fun h4=>?_)
  ·have hlt:=of_decide_eq_true h3;have hw:=Qe9 line pos;have hwe:=Qd9 line pos hlt;obtain ⟨m,rfl⟩:=sucA m;rw [Qy5 h3] at hR;refine ai (fun _=>?_) (fun h=>nomatch h);refine Or.inl ?_;(first|refine ⟨Qp1 4 rfl lnA apA,?_⟩|refine ⟨QN0 4 rfl apA,?_⟩);exact Qd0 { c with line:=(c.line++([(pos,((Utf8.decode line pos).1:Int)).2]:List Int)) } (pos+(Utf8.decode line pos).2) (wk [0,1,2] (tO rfl (Q90 (cv (to 2 lnA) (c1 (c1 (c1 .nil))))) (tO rfl (.strIter _ _) (tO rfl (tl eqA) .nil))) (s1 (s1 (s1 (sv (Q00 0 rfl rfl) (sv (Q00 1 rfl rfl) .nil)))))) (by first|(have hq:=hrd _ (by assumption);omega)|exact omA) ⟨m,by first|(have hq:=hrd _ (by assumption);omega)|exact omA,foll hR (congrArg (fun p:LexReader=>Qp5 p) rfl),b6a0⟩
  ·rw [Qm7 h4] at hR;refine ai (fun h=>nomatch h) (fun _=>?_);replace hR:Qp5 c=R:=fo2 (fun p:LexReader=>Qp5 p) (c) hR rfl;refine Or.inl ?_;refine ACalls.of_cwp (fun _=>true) Tryz.func275 rfl rfl ?_;refine ⟨_,_,Told.refl,?_⟩;refine Qq0 (fun (out:List Token) (c2:LexReader)=>∃ m,(2*Int.toNat ((c2.line.length:Int) - c2.at_)+(bif c2.error==0 then 1 else 0))<m∧Qb8 m out c2=R∧0<=c2.at_∧c2.at_<=(c2.line.length:Int)∧c2.line.length<=400∧((c2.error==0)=true->(out.length:Int)<=c2.at_)) (fun out c2=>(2*Int.toNat ((c2.line.length:Int) - c2.at_)+(bif c2.error==0 then 1 else 0))) (fun out c2=>[(2,AVal.lit (.slice none 0 0)),(3,I 0),(4,I 0),(5,AVal.ptr 0 0 4 0 0),(8,AVal.fn (.func 281) [] [AVal.ptr 1 0 1 0 0]),(9,AVal.own 2 0 4 0 out.length)]) (fun out c2=>[(0,AObj.row 317 4 [[runes c2.line,I c2.at_,I c2.bad,I c2.error]]),(0,AObj.row 35 1 [[ints ([1]:List Int)]]),(0,AObj.row 291 4 (out.map Token.cells))]) [] c ((Qo1 291 4).trans (wk [0,3,4] (tO rfl (Q90 (cv (Qx3 _ _ rfl (Nat.zero_le _) (by decide) eqA (fun _=>lowL1 rfl) lnA) (c1 (c1 (c1 .nil))))) (tO rfl (Q90 (cv (turn_as (QW4 (c:=(fun q_=>[I q_])) (d:=0) ([1]:List Int) rfl) lw) .nil)) (tO rfl (tl eqA) .nil))) (s1 (s1 (s1 (sv (Q00 0 rfl rfl) (sv (Qu0 .nil (cv (Q00 1 rfl rfl) .nil)) (sv (Q51 2 rfl) .nil)))))))) ⟨_,Nat.lt_succ_self _,foll hR rfl,b6a0⟩ ?_;clear hR;rintro out c2 ⟨m,hm,hR,hx⟩;(try dsimp only at hR hm hx);obtain ⟨m,rfl⟩:=sucA m;refine ai (fun h5=>?_) (fun h6=>?_)
   ·have hol:=hx.2.2.2 h5;have hrd:=fun (b:Int->Bool) (hn:((Q70 c2 b).2.at_==((Q70 c2 b).2.line.length:Int))=false)=>lex_round c2 _ b (by omega) (by omega) (by omega) h5 rfl hn;have cl1:∀ (y1:Int),AMoves Tryz.prog 281 [J y1,AVal.ptr 0 0 1 0 0] [(0,AObj.row 35 1 [[ints ([1]:List Int)]])] 1 (Bo ((fun (y:Int)=>QH0 y ([1]:List Int) 0) y1)) [(0,AObj.row 35 1 [[ints ([1]:List Int)]])]:=by
     intro y1;have hR:(fun (y:Int)=>QH0 y ([1]:List Int) 0) y1=(fun (y:Int)=>QH0 y ([1]:List Int) 0) y1:=rfl;refine mo (kp 6 [6,7,8,9,15]) Tryz.func281 ?_;refine Qs0 (fun (i:Nat)=>QH0 y1 (List.drop i ([1]:List Int)) i=(fun (y:Int)=>QH0 y ([1]:List Int) 0) y1∧i<=([1]:List Int).length) (fun i=>([1]:List Int).length - i) (fun i=>[(0,J y1),(3,Bo false),(6,ints ([1]:List Int)),(7,I (([1]:List Int).length:Int)),(8,I (i:Int))]) (fun i=>[(0,AObj.row 35 1 [[ints ([1]:List Int)]])]) 0 (wk [0] (tO rfl (ts (lv lw LowL.nil)) .nil) (s1 (s1 (sl lw (s1 (s1 .nil)))))) ⟨foll hR rfl,by exact omA⟩ ?_;clear hR;rintro i ⟨hR,hj⟩;(try dsimp only at hR hj);refine ai (fun h7=>?_) (fun h8=>?_)
     ·(have hlt:i<([1]:List Int).length:=by have:=of_decide_eq_true h7;omega);rw [Qi0 0 hlt] at hR;refine ai gkA ?_;refine us (QH3 y1 _) ?_;refine ai (fun h9=>?_) (fun h10=>?_)
      ·refine Qp0 (fun r:Bool=>Bo r) (fun _=>[(0,AObj.row 35 1 [[ints ([1]:List Int)]])]) (leaf:=true) (foll hR (ct h9 rfl)) ?_;exact tt [0] (tO rfl (ts (lv lw LowL.nil)) .nil) t1
      ·exact Qz0 (i+1) (wk [0] (tO rfl (ts (lv lw LowL.nil)) .nil) (s1 (s1 (sl lw (s1 (sv (Qa0 (I_eq (wr omA)) lx) .nil)))))) omA ⟨foll hR (cf h10 rfl),by exact omA⟩
     ·rw [Ql0 (l:=([1]:List Int)) (j:=i) (geA h8)] at hR;refine Qp0 (fun r:Bool=>Bo r) (fun _=>[(0,AObj.row 35 1 [[ints ([1]:List Int)]])]) (leaf:=false) (foll hR rfl) ?_;exact tt [0] (tO rfl (ts (lv lw LowL.nil)) .nil) t1
    have hof1:AMoves Tryz.prog 276 [AVal.ptr 0 0 4 0 0,AVal.fn (.func 281) [] [AVal.ptr 1 0 1 0 0]] [(0,AObj.row 317 4 [[runes c2.line,I c2.at_,I c2.bad,I c2.error]]),(0,AObj.row 35 1 [[ints ([1]:List Int)]])] 2 (Sg ((Q70 c2 (fun (y:Int)=>QH0 y ([1]:List Int) 0)).1)) [(0,AObj.row 317 4 [[runes (((Q70 c2 (fun (y:Int)=>QH0 y ([1]:List Int) 0)).2).line),I (((Q70 c2 (fun (y:Int)=>QH0 y ([1]:List Int) 0)).2).at_),I (((Q70 c2 (fun (y:Int)=>QH0 y ([1]:List Int) 0)).2).bad),I (((Q70 c2 (fun (y:Int)=>QH0 y ([1]:List Int) 0)).2).error)]]),(0,AObj.row 35 1 [[ints ([1]:List Int)]])]:=by
     have hR:Q70 c2 (fun (y:Int)=>QH0 y ([1]:List Int) 0)=Q70 c2 (fun (y:Int)=>QH0 y ([1]:List Int) 0):=rfl;refine mo (kp 6 [33]) Tryz.func276 ?_;refine Qs0 (fun (c3:LexReader)=>∃ m,(Int.toNat ((c3.line.length:Int) - c3.at_))<m∧QP0 c2 (QW0 (fun (y:Int)=>QH0 y ([1]:List Int) 0) m c3)=Q70 c2 (fun (y:Int)=>QH0 y ([1]:List Int) 0)∧0<=c3.at_∧c3.at_<=(c3.line.length:Int)∧c3.line.length<=400∧c2.at_<=c3.at_∧0<=c2.at_) (fun c3=>(Int.toNat ((c3.line.length:Int) - c3.at_))) (fun c3=>[(0,AVal.ptr 0 0 4 0 0),(1,AVal.fn (.func 281) [] [AVal.ptr 1 0 1 0 0]),(4,Sg ⟨#[]⟩),(5,I c2.at_)]) (fun c3=>[(0,AObj.row 317 4 [[runes c3.line,I c3.at_,I c3.bad,I c3.error]]),(0,AObj.row 35 1 [[ints ([1]:List Int)]])]) c2 (wk [0,1] (tO rfl (ts LexReader.lo) (tO rfl (ts (lv lw LowL.nil)) .nil)) (sv (Q00 0 rfl rfl) (sv (Qu0 .nil (cv (Q00 1 rfl rfl) .nil)) (s1 (s1 .nil))))) ⟨_,Nat.lt_succ_self _,foll hR rfl,by exact exA⟩ ?_;clear hR;rintro c3 ⟨m,hm,hR,hx⟩;(try dsimp only at hR hm hx);obtain ⟨m,rfl⟩:=sucA m;refine dchk (by kernel_rfl) ?_;refine ai gkA ?_;(first|apply u2|apply u3|apply u4|apply us);exact mv [1] (cl1 (c3.line.getD (Int.toNat c3.at_) 0)) (dO (ds (lv lw LowL.nil)) .nil) (d1 (dp .nil)) (rO (re (lv lw LowL.nil)) .nil) rx;(repeat ((first|refine ai rfl ?_|refine ai (fun _=>rfl) ?_)));refine ai (fun h11=>?_) (fun h12=>?_)
     ·have hq1:=of_decide_eq_true ((Bool.and_eq_true _ _).mp h11).1;have hwr:w64 (c3.at_+1)=c3.at_+1:=wr (by omega);exact Qz0 { c3 with at_:=(w64 (c3.at_+1)) } (wk [0,1] (tO rfl (ts LexReader.lo) (tO rfl (ts (lv lw LowL.nil)) .nil)) (sv (Q00 0 rfl rfl) (sv (Qu0 .nil (cv (Q00 1 rfl rfl) .nil)) (s1 (s1 .nil))))) omA ⟨m,by exact omA,foll hR (congrArg (fun p:LexReader=>QP0 c2 p) (ct h11 rfl)),by exact exA⟩
     ·replace hR:QP0 c2 c3=Q70 c2 (fun (y:Int)=>QH0 y ([1]:List Int) 0):=fo2 (fun p:LexReader=>QP0 c2 p) (c3) hR (cf h12 rfl);refine dchk (by kernel_rfl) ?_;refine ai gkA ?_;(first|refine ⟨(List.drop (Int.toNat c2.at_) (List.take (Int.toNat c3.at_) c3.line)),by exact cvA,?_⟩|refine ⟨_,fun _=>⟨(List.drop (Int.toNat c2.at_) (List.take (Int.toNat c3.at_) c3.line)),by exact cvA,rfl,rfl⟩,?_⟩|refine ⟨_,rfl,⟨(List.drop (Int.toNat c2.at_) (List.take (Int.toNat c3.at_) c3.line)),by exact cvA,Sub.refl _,rfl⟩,?_⟩);(repeat ((first|refine ai rfl ?_|refine ai (fun _=>rfl) ?_)));refine Qp0 (fun r:ByteArray × LexReader=>Sg r.1) (fun r:ByteArray × LexReader=>[(0,AObj.row 317 4 [[runes r.2.line,I r.2.at_,I r.2.bad,I r.2.error]]),(0,AObj.row 35 1 [[ints ([1]:List Int)]])]) (leaf:=((runesBytes (List.drop (Int.toNat c2.at_) (List.take (Int.toNat c3.at_) c3.line))),c3)) (foll hR rfl) ?_;exact tt [0,1] (tO rfl (ts LexReader.lo) (tO rfl (ts (lv lw LowL.nil)) .nil)) t1
    refine us (mv [0,1] (hof1) (dO (ds LexReader.lo) (dO (ds (lv lw LowL.nil)) .nil)) (dp (dv (dn_fn .nil (dp .nil)) .nil)) (rO (re LexReader.lo) (rO (re (lv lw LowL.nil)) .nil)) rx) ?_;refine dchk (by kernel_rfl) ?_;(repeat ((first|refine ai rfl ?_|refine ai (fun _=>rfl) ?_)));refine ai (fun h13=>?_) (fun h14=>?_)
    ·refine dchk (by kernel_rfl) ?_;(repeat ((first|refine ai rfl ?_|refine ai (fun _=>rfl) ?_)));obtain rfl:=foll hR (ct h5 (ct h13 rfl));exact Q10 (Low.tup' (.cons lw (l1 (l1 .nil)))) (Seen.tup (ev (Qn0 Token.zero _ rfl eqA lnA) (e1 (e1 .nil))))
    ·refine us (mv [0] (Qpb ((Q70 c2 (fun (y:Int)=>QH0 y ([1]:List Int) 0)).2) (by first|(exact Nat.le_trans (hrd _ (by assumption)).1.2.2 (by decide))|exact szA) (by exact (hrd _ (by assumption)).1)) (dO (ds LexReader.lo) .nil) (dp .nil) (rO (re LexReader.lo) .nil) (Ren.low _ (Low.agg' (Token.lo)))) ?_;refine Or.inl ?_;(first|refine ⟨Qp1 40 rfl lnA apA,?_⟩|refine ⟨QN0 40 rfl apA,?_⟩);exact Qd0 (out++([{ (QD0 ((Q70 c2 (fun (y:Int)=>QH0 y ([1]:List Int) 0)).2)).1 with at_:=(Q70 c2 (fun (y:Int)=>QH0 y ([1]:List Int) 0)).2.at_ }]:List Token)) ((QD0 ((Q70 c2 (fun (y:Int)=>QH0 y ([1]:List Int) 0)).2)).2) (wk [0,1,2] (tO rfl (ts LexReader.lo) (tO rfl (ts (lv lw LowL.nil)) (tO rfl (tl eqA) .nil))) (s1 (s1 (s1 (sv (Q00 0 rfl rfl) (sv (Qu0 .nil (cv (Q00 1 rfl rfl) .nil)) (sv (to 2 lnA) .nil))))))) (by first|(have hq:=hrd _ (by assumption);omega)|exact omA) ⟨m,by first|(have hq:=hrd _ (by assumption);omega)|exact omA,foll hR (ct h5 (cf h14 rfl)),b6a0⟩
   ·refine dchk (by kernel_rfl) ?_;(repeat ((first|refine ai rfl ?_|refine ai (fun _=>rfl) ?_)));obtain rfl:=foll hR (cf h6 rfl);exact Q10 (Low.tup' (.cons lw (l1 (l1 .nil)))) (Seen.tup (ev (Q50) (e1 (e1 .nil))))
def QM0 (v:Job):Bool:=((((v.start==0)&&(v.limit==0))&&(v.nodes==0))&&(((v.promise==(-1))&&(v.choice==0))||(((QD1 v.promise)&&(QI0 v v.choice).2)&&(!v.held))))
theorem Qnb (v:Job) (hs0:v.sz):GV 156 [Job.a v] (Bo (QM0 v)):=by
 generalize hR:QM0 v=R;refine ga (.cons (Job.low _ _) .nil) lx (kp 6 []) Tryz.func156 ?_;obtain ⟨z1,z2,z3,z4,z5⟩:=Job.zz hs0;refine us (QD4 v v.choice szA _) ?_;(first|apply u2|apply u3|apply u4|apply us);exact QU3 v.promise _;obtain rfl:=foll hR rfl;exact Q10 lx sr
def QA2 (v:Job):Bool:=bif (((((((!(QI0 v v.choice).2)||v.held)||(!(QD1 v.start)))||(!(QD1 v.promise)))||(decide (v.promise<v.start)))||(!(QD1 v.limit)))||((w64 (v.limit - v.start))!=(QI0 v v.choice).1.wall)) then false else ((Qza v.nodes)&&(QY8 v.shape v.choice (Qm1 v.nodes)))
theorem QAa (v:Job) (hs0:v.sz):GV 157 [Job.a v] (Bo (QA2 v)):=by
 generalize hR:QA2 v=R;refine ga (.cons (Job.low _ _) .nil) lx (kp 5 [61]) Tryz.func157 ?_;obtain ⟨z3,z4,z5,z6,z7⟩:=Job.zz hs0;refine us (QD4 v v.choice szA _) ?_;(first|apply u2|apply u3|apply u4|apply us);exact QU3 v.start _;(first|apply u2|apply u3|apply u4|apply us);exact QU3 v.promise _;(first|apply u2|apply u3|apply u4|apply us);exact QU3 v.limit _;refine ai (fun h1=>?_) (fun h2=>?_)
 ·obtain rfl:=foll hR (ct h1 rfl);exact Q10 lx sr
 ·refine dchk (by kernel_rfl) ?_;(first|apply u2|apply u3|apply u4|apply us);exact Q78 v.nodes _;(first|apply u2|apply u3|apply u4|apply us);exact QR1 v.nodes _;(first|apply u2|apply u3|apply u4|apply us);exact QH9 v.shape v.choice (Qm1 v.nodes) szA _;(repeat ((first|refine ai rfl ?_|refine ai (fun _=>rfl) ?_|refine ai (fun _=>Q78 v.nodes _) ?_|refine ai (fun _=>QR1 v.nodes _) ?_|refine ai (fun _=>QH9 v.shape v.choice (Qm1 v.nodes) szA _) ?_)));obtain rfl:=foll hR (cf h2 rfl);exact Q10 lx sr
def QY6 (s:State) (r_:Resize) (j:Job) (c:Int):Bool:=bif (((QO5 s (fun (y:Int) (y1:Node)=>((y1.job==r_.job)&&(y1.want==c))))!=(wu64 (BitVec.ofInt 64 r_.nodes &&& ~~~(BitVec.ofInt 64 r_.said)).toNat))||(!(QO9 s.nodes r_.said))) then false else bif r_.grow then ((r_.nodes==(Qg1 s.nodes r_.job 2))&&(decide ((w64 ((Qm1 j.nodes)+(Qm1 r_.nodes)))<=j.shape.max))) else (((wu64 (BitVec.ofInt 64 r_.nodes &&& ~~~(BitVec.ofInt 64 j.nodes)).toNat)==0)&&(decide ((w64 ((Qm1 j.nodes) - (Qm1 r_.nodes))) >= j.shape.min)))
def Qk7 (s:State) (r_:Resize) (j:Job):Bool:=bif (((((j.shape.kind != 3)||(r_.nodes==0))||((wu64 (BitVec.ofInt 64 r_.said &&& ~~~(BitVec.ofInt 64 r_.nodes)).toNat)!=0))||(decide (r_.since<0)))||(decide (r_.since > 1000000))) then false else bif r_.grow then QY6 s r_ j 2 else QY6 s r_ j 4
theorem QK9 (s:State) (r_:Resize) (j:Job) (hs0:s.sz) (hs1:j.sz):GV 88 [State.a s,Resize.a r_,Job.a j] (Bo (Qk7 s r_ j)):=by
 generalize hR:Qk7 s r_ j=R;refine ga (.cons (State.low _ _) (.cons (Resize.low _ _) (.cons (Job.low _ _) .nil))) lx (kj [1000006] 11 [37,39,57,65]) Tryz.func88 ?_;have hk0:=hs0;obtain ⟨z13,z14,z15,z16,z17,z18,z19⟩:=hs0;obtain ⟨z20,z21,z22,z23,z24⟩:=Job.zz hs1;refine ai (fun h1=>?_) (fun h2=>?_)
 ·obtain rfl:=foll hR (ct h1 rfl);exact Q10 lx sr
 ·refine Qx1 (fun (c:Int)=>QY6 s r_ j c=R) (fun c=>[(3,AVal.ptr 0 0 8 0 0),(4,AVal.ptr 1 0 5 0 0),(5,AVal.ptr 2 0 20 0 0),(6,Bo false),(7,AVal.ptr 3 0 1 0 0)]) (fun c=>[(0,AObj.row 28 8 [[I s.now,nodeL s.nodes,jobL s.jobs,Qq1 s.resizes,bookL s.books,Qt1 s.ledger,I s.nextJob,I s.nextBook]]),(0,AObj.row 126 5 [[I r_.job,Bo r_.grow,U r_.nodes,U r_.said,I r_.since]]),(0,AObj.row 52 20 [[I j.id,Sg j.name,Sg j.user,Sg j.account,I j.shape.kind,altL j.shape.alts,I j.shape.min,I j.shape.max,I j.shape.wall,I j.prio,depL j.after,I j.state,Bo j.held,I j.born,I j.promise,I j.choice,I j.start,I j.limit,U j.nodes,I j.used]]),(0,AObj.row 3 1 [[I c]])]) ?_ ?_
  ·clear hR;rintro c hR;(try dsimp only at hR);have cl1:∀ (y1:Int) (y2:Node),AMoves Tryz.prog 161 [I y1,Node.a y2,AVal.ptr 0 0 5 0 0,AVal.ptr 1 0 1 0 0] [(0,AObj.row 126 5 [[I r_.job,Bo r_.grow,U r_.nodes,U r_.said,I r_.since]]),(0,AObj.row 3 1 [[I c]])] 2 (Bo ((fun (y:Int) (y1:Node)=>((y1.job==r_.job)&&(y1.want==c))) y1 y2)) [(0,AObj.row 126 5 [[I r_.job,Bo r_.grow,U r_.nodes,U r_.said,I r_.since]]),(0,AObj.row 3 1 [[I c]])]:=by
    intro y1 y2;have hR:(fun (y:Int) (y1:Node)=>((y1.job==r_.job)&&(y1.want==c))) y1 y2=(fun (y:Int) (y1:Node)=>((y1.job==r_.job)&&(y1.want==c))) y1 y2:=rfl;refine mo (kp 7 []) Tryz.func161 ?_;refine Qp0 (fun r:Bool=>Bo r) (fun _=>[(0,AObj.row 126 5 [[I r_.job,Bo r_.grow,U r_.nodes,U r_.said,I r_.since]]),(0,AObj.row 3 1 [[I c]])]) (leaf:=((y2.job==r_.job)&&(y2.want==c))) (foll hR rfl) ?_;exact tt [0,1] (tO rfl (ts Resize.lo) (tO rfl (ts (l1 LowL.nil)) .nil)) t1
   have hof1:AMoves Tryz.prog 160 [State.a s,AVal.fn (.func 161) [] [AVal.ptr 0 0 5 0 0,AVal.ptr 1 0 1 0 0]] [(0,AObj.row 126 5 [[I r_.job,Bo r_.grow,U r_.nodes,U r_.said,I r_.since]]),(0,AObj.row 3 1 [[I c]])] 2 (U (QO5 s (fun (y:Int) (y1:Node)=>((y1.job==r_.job)&&(y1.want==c))))) [(0,AObj.row 126 5 [[I r_.job,Bo r_.grow,U r_.nodes,U r_.said,I r_.since]]),(0,AObj.row 3 1 [[I c]])]:=by
    have hR:QO5 s (fun (y:Int) (y1:Node)=>((y1.job==r_.job)&&(y1.want==c)))=QO5 s (fun (y:Int) (y1:Node)=>((y1.job==r_.job)&&(y1.want==c))):=rfl;refine mo (kp 10 [11,12,13,14,21]) Tryz.func160 ?_;refine Qq0 (fun (l:List Int) (i:Nat)=>Q94 (QY5 (fun (y:Int) (y1:Node)=>((y1.job==r_.job)&&(y1.want==c))) (List.drop i s.nodes) l i)=QO5 s (fun (y:Int) (y1:Node)=>((y1.job==r_.job)&&(y1.want==c)))∧i<=s.nodes.length∧l.length<=i) (fun l i=>s.nodes.length - i) (fun l i=>[(1,AVal.fn (.func 161) [] [AVal.ptr 0 0 5 0 0,AVal.ptr 1 0 1 0 0]),(4,U 0),(5,AVal.own 2 0 1 0 l.length),(11,nodeL s.nodes),(12,I (s.nodes.length:Int)),(13,I (i:Int))]) (fun l i=>[(0,AObj.row 126 5 [[I r_.job,Bo r_.grow,U r_.nodes,U r_.said,I r_.since]]),(0,AObj.row 3 1 [[I c]]),(0,AObj.row 3 1 (l.map (fun q_=>[I q_])))]) [] 0 ((Qo1 3 1).trans (wk [0,1,3] (tO rfl (ts Resize.lo) (tO rfl (ts (l1 LowL.nil)) (tO rfl (tl eqA) .nil))) (sv (Qu0 .nil (cv (Q00 0 rfl rfl) (cv (Q00 1 rfl rfl) .nil))) (s1 (sv (Q51 2 rfl) (sl lw (s1 (s1 .nil)))))))) ⟨foll hR rfl,by exact omA,by exact exA⟩ ?_;clear hR;rintro l i ⟨hR,hj,hx⟩;(try dsimp only at hR hj hx);refine ai (fun h3=>?_) (fun h4=>?_)
    ·have hlt:=ltA h3;rw [Qi0 Node.zero hlt] at hR;refine ai gkA ?_;refine us (mv [0,1] (cl1 (i:Int) (s.nodes.getD i Node.zero)) (dO (ds Resize.lo) (dO (ds (l1 LowL.nil)) .nil)) (d1 (dl (Node.low _ _) (dp (dp .nil)))) (rO (re Resize.lo) (rO (re (l1 LowL.nil)) .nil)) rx) ?_;refine ai (fun h5=>?_) (fun h6=>?_)
     ·refine Or.inl ?_;(first|refine ⟨Qp1 8 rfl lnA apA,?_⟩|refine ⟨QN0 8 rfl apA,?_⟩);exact Qd0 (l++([(i:Int)]:List Int)) (i+1) (wk [0,1,2] (tO rfl (ts Resize.lo) (tO rfl (ts (l1 LowL.nil)) (tO rfl (tl eqA) .nil))) (sv (Qu0 .nil (cv (Q00 0 rfl rfl) (cv (Q00 1 rfl rfl) .nil))) (s1 (sv (to 2 lnA) (sl lw (s1 (sv (Qa0 (I_eq (wr omA)) lx) .nil))))))) omA ⟨foll hR (congrArg (fun p:(List Int)=>Q94 p) (ct h5 rfl)),by exact omA,by exact exA⟩
     ·exact Qd0 l (i+1) (wk [0,1,2] (tO rfl (ts Resize.lo) (tO rfl (ts (l1 LowL.nil)) (tO rfl (tl eqA) .nil))) (sv (Qu0 .nil (cv (Q00 0 rfl rfl) (cv (Q00 1 rfl rfl) .nil))) (s1 (sv (to 2 lnA) (sl lw (s1 (sv (Qa0 (I_eq (wr omA)) lx) .nil))))))) omA ⟨foll hR (congrArg (fun p:(List Int)=>Q94 p) (cf h6 rfl)),by exact omA,by exact exA⟩
    ·rw [Ql0 (l:=s.nodes) (j:=i) (geA h4)] at hR;replace hR:Q94 l=QO5 s (fun (y:Int) (y1:Node)=>((y1.job==r_.job)&&(y1.want==c))):=fo2 (fun p:(List Int)=>Q94 p) (l) hR rfl;refine us (AGives.lent (Q77 l szA []) (ev (Qn0 _ _ rfl eqA lnA) .nil) (.cons lw .nil) (QA5 rfl)) ?_;refine Qp0 (fun r:Int=>U r) (fun r:Int=>[(0,AObj.row 126 5 [[I r_.job,Bo r_.grow,U r_.nodes,U r_.said,I r_.since]]),(0,AObj.row 3 1 [[I c]])]) (leaf:=(QF4 l).1) (foll hR rfl) ?_;exact tt [0,1] (tO rfl (ts Resize.lo) (tO rfl (ts (l1 LowL.nil)) .nil)) t1
   refine us (mv [1,3] (hof1) (dO (ds Resize.lo) (dO (ds (l1 LowL.nil)) .nil)) (dv (QK3 (Low.agg' (State.lo))) (dv (dn_fn .nil (dp (dp .nil))) .nil)) (rO (re Resize.lo) (rO (re (l1 LowL.nil)) .nil)) rx) ?_;(first|apply u2|apply u3|apply u4|apply us);exact alloc_Quiet_c s.nodes r_.said szA _;refine ai (fun h7=>?_) (fun h8=>?_)
   ·obtain rfl:=foll hR (ct h7 rfl);exact Q10 lx sr
   ·refine dchk (by kernel_rfl) ?_;(first|apply u2|apply u3|apply u4|apply us);exact QR1 j.nodes _;(first|apply u2|apply u3|apply u4|apply us);exact QR1 r_.nodes _;(repeat ((first|refine ai rfl ?_|refine ai (fun _=>rfl) ?_|refine ai (fun _=>QR1 j.nodes _) ?_|refine ai (fun _=>QR1 r_.nodes _) ?_)));refine ai (fun h9=>?_) (fun h10=>?_)
    ·refine dchk (by kernel_rfl) ?_;(first|apply u2|apply u3|apply u4|apply us);exact Qg2 s.nodes r_.job 2 szA _;(repeat ((first|refine ai rfl ?_|refine ai (fun _=>rfl) ?_|refine ai (fun _=>Qg2 s.nodes r_.job 2 szA _) ?_)));obtain rfl:=foll hR (cf h8 (ct h9 rfl));exact Q10 lx sr
    ·obtain rfl:=foll hR (cf h8 (cf h10 rfl));exact Q10 lx sr
  ·refine ai (fun h11=>?_) (fun h12=>?_)
   ·exact Qo0 2 (wk [0,1,2,3] (tO rfl (ts State.lo) (tO rfl (ts Resize.lo) (tO rfl (ts Job.lo) (tO rfl (ts (l1 LowL.nil)) .nil)))) (sv (Q00 0 rfl rfl) (sv (Q00 1 rfl rfl) (sv (Q00 2 rfl rfl) (s1 (sv (Q00 3 rfl rfl) .nil)))))) (foll hR (cf h2 (ct h11 rfl)))
   ·exact Qo0 4 (wk [0,1,2,3] (tO rfl (ts State.lo) (tO rfl (ts Resize.lo) (tO rfl (ts Job.lo) (tO rfl (ts (l1 LowL.nil)) .nil)))) (sv (Q00 0 rfl rfl) (sv (Q00 1 rfl rfl) (sv (Q00 2 rfl rfl) (s1 (sv (Q00 3 rfl rfl) .nil)))))) (foll hR (cf h2 (cf h12 rfl)))
def Qn3 (l:List Node) (job:Int):Int:=bif (decide (job<1)) then 0 else (Qg1 l job 1)
theorem QCb (l:List Node) (job:Int) (hs0:l.length<=4294967296):GV 41 [nodeL l,I job] (U (Qn3 l job)):=by
 generalize hR:Qn3 l job=R;refine ga (.cons lw (l1 .nil)) lx (kp 5 [6]) Tryz.func41 ?_;have hk0:=hs0;obtain z3:l.length<=4294967296:=hs0;refine ai (fun h1=>?_) (fun h2=>?_)
 ·have qh1:=of_decide_eq_true h1;obtain rfl:=foll hR (ct h1 rfl);exact Q10 lx sr
 ·have qh2:=of_decide_eq_false h2;refine us (Qg2 l job 1 szA _) ?_;obtain rfl:=foll hR (cf h2 rfl);exact Q10 lx sr
def Qj2 (set_:Int) (act:Int) (job:Int) (now:Int):List Int->Nat->List Node->(List Node) × (List Note) × Int
 | [],_,c=>bif (!(QS7 act)) then (c,[],0) else (c,(QR7 c (QG0 set_)),0)
 | x_ :: r,i,c=>bif ((Qv1 c x_ act job now).2==0) then bif ((Qv1 c x_ act job now).2 != 0) then ([],[],(Qv1 c x_ act job now).2) else Qj2 set_ act job now r (i+1) ((Qv1 c x_ act job now).1) else bif ((Qv1 c x_ act job now).2 != 0) then ([],[],(Qv1 c x_ act job now).2) else Qj2 set_ act job now r (i+1) c
def QY0 (l:List Node) (set_:Int) (act:Int) (job:Int) (now:Int):(List Node) × (List Note) × Int:=bif ((QB1 l)!=0) then ([],[],(QB1 l)) else Qj2 set_ act job now (QG0 set_) 0 l
theorem b6a1 {P:Prop} (h:P:=by first|((have q:=QGb c ((QG0 set_).getD i 0) act job now;omega))|exact exA):P:=h
theorem Qn2 (l:List Node) (set_:Int) (act:Int) (job:Int) (now:Int) (hs0:l.length<=4294967296):GV 104 [nodeL l,U set_,I act,I job,I now] (AVal.tup [nodeL ((QY0 l set_ act job now).1),noteL ((QY0 l set_ act job now).2.1),I ((QY0 l set_ act job now).2.2)]):=by
 generalize hR:QY0 l set_ act job now=R;refine ga (.cons lw (l1 (l1 (l1 (l1 .nil))))) (Low.tup' (.cons lw (.cons lw (l1 .nil)))) (kp 20 [23,28,29,30,31,38,46]) Tryz.func104 ?_;have hk0:=hs0;obtain z13:l.length<=4294967296:=hs0;have hll:=Qf6 set_;refine us (QE2 l szA _) ?_;refine ai (fun h1=>?_) (fun h2=>?_)
 ·obtain rfl:=foll hR (ct h1 rfl);exact Q10 (Low.tup' (.cons lw (.cons lw (l1 .nil)))) (Seen.tup (ev (Q50) (ev (Q50) (e1 .nil))))
 ·refine us (QF9 set_ _) ?_;refine Qq0 (fun (i:Nat) (c:List Node)=>Qj2 set_ act job now (List.drop i (QG0 set_)) i c=R∧i<=(QG0 set_).length∧c.length<=4294967296) (fun i c=>(QG0 set_).length - i) (fun i c=>[(5,AVal.ptr 0 0 1 0 0),(7,AVal.ptr 1 0 1 0 0),(10,AVal.lit (.slice none 0 0)),(11,AVal.lit (.slice none 0 0)),(12,I 0),(14,ints (QG0 set_)),(15,AVal.fn (.func 177) [] [AVal.ptr 0 0 1 0 0,AVal.ptr 1 0 1 0 0,AVal.ptr 2 0 1 0 0,AVal.ptr 3 0 1 0 0]),(28,ints (QG0 set_)),(29,I ((QG0 set_).length:Int)),(30,I (i:Int))]) (fun i c=>[(0,AObj.row 22 1 [[nodeL c]]),(0,AObj.row 3 1 [[I act]]),(0,AObj.row 3 1 [[I job]]),(0,AObj.row 3 1 [[I now]])]) 0 l (wk [0,1,2,3] (tO rfl (ts (lv lw LowL.nil)) (tO rfl (ts (l1 LowL.nil)) (tO rfl (ts (l1 LowL.nil)) (tO rfl (ts (l1 LowL.nil)) .nil)))) (sv (Q00 0 rfl rfl) (sv (Q00 1 rfl rfl) (s1 (s1 (s1 (sl lw (sv (Qu0 .nil (cv (Q00 0 rfl rfl) (cv (Q00 1 rfl rfl) (cv (Q00 2 rfl rfl) (cv (Q00 3 rfl rfl) .nil))))) (sl lw (s1 (s1 .nil))))))))))) ⟨foll hR (cf h2 rfl),by exact omA,b6a1⟩ ?_;clear hR;rintro i c ⟨hR,hj,hx⟩;(try dsimp only at hR hj hx);refine ai (fun h3=>?_) (fun h4=>?_)
  ·have hlt:=ltA h3;rw [Qi0 0 hlt] at hR;refine ai gkA ?_;refine ACalls.of_cwp (fun _=>true) Tryz.func177 rfl rfl ?_;refine us (Qh9 c ((QG0 set_).getD i 0) act job now szA _) ?_;refine ai (fun h5=>?_) (fun h6=>?_)
   ·refine ⟨_,_,Told.refl,?_⟩;refine ai (fun h7=>?_) (fun h8=>?_)
    ·obtain rfl:=foll hR (ct h5 (ct h7 rfl));exact Q10 (Low.tup' (.cons lw (.cons lw (l1 .nil)))) (Seen.tup (ev (Q50) (ev (Q50) (e1 .nil))))
    ·exact Qd0 (i+1) ((Qv1 c ((QG0 set_).getD i 0) act job now).1) (wk [0,1,2,3] (tO rfl (ts (lv lw LowL.nil)) (tO rfl (ts (l1 LowL.nil)) (tO rfl (ts (l1 LowL.nil)) (tO rfl (ts (l1 LowL.nil)) .nil)))) (sv (Q00 0 rfl rfl) (sv (Q00 1 rfl rfl) (s1 (s1 (s1 (sl lw (sv (Qu0 .nil (cv (Q00 0 rfl rfl) (cv (Q00 1 rfl rfl) (cv (Q00 2 rfl rfl) (cv (Q00 3 rfl rfl) .nil))))) (sl lw (s1 (sv (Qa0 (I_eq (wr omA)) lx) .nil))))))))))) omA ⟨foll hR (ct h5 (cf h8 rfl)),by exact omA,b6a1⟩
   ·refine ⟨_,_,Told.refl,?_⟩;refine ai (fun h9=>?_) (fun h10=>?_)
    ·obtain rfl:=foll hR (cf h6 (ct h9 rfl));exact Q10 (Low.tup' (.cons lw (.cons lw (l1 .nil)))) (Seen.tup (ev (Q50) (ev (Q50) (e1 .nil))))
    ·exact Qd0 (i+1) c (wk [0,1,2,3] (tO rfl (ts (lv lw LowL.nil)) (tO rfl (ts (l1 LowL.nil)) (tO rfl (ts (l1 LowL.nil)) (tO rfl (ts (l1 LowL.nil)) .nil)))) (sv (Q00 0 rfl rfl) (sv (Q00 1 rfl rfl) (s1 (s1 (s1 (sl lw (sv (Qu0 .nil (cv (Q00 0 rfl rfl) (cv (Q00 1 rfl rfl) (cv (Q00 2 rfl rfl) (cv (Q00 3 rfl rfl) .nil))))) (sl lw (s1 (sv (Qa0 (I_eq (wr omA)) lx) .nil))))))))))) omA ⟨foll hR (cf h6 (cf h10 rfl)),by exact omA,b6a1⟩
  ·rw [Ql0 (l:=(QG0 set_)) (j:=i) (geA h4)] at hR;(first|refine ⟨Qp1 56 rfl lnA apA,?_⟩|refine ⟨QN0 56 rfl apA,?_⟩);refine us (alloc_sends_c act _) ?_;refine ai (fun h11=>?_) (fun h12=>?_)
   ·obtain rfl:=foll hR (ct h11 rfl);exact Q10 (Low.tup' (.cons lw (.cons lw (l1 .nil)))) (Seen.tup (ev (Qn0 Node.zero _ rfl eqA lnA) (ev (Q50) (e1 .nil))))
   ·refine us (alloc_Notes_c c (QG0 set_) szA szA _) ?_;obtain rfl:=foll hR (cf h12 rfl);exact Q10 (Low.tup' (.cons lw (.cons lw (l1 .nil)))) (Seen.tup (ev (Qn0 Node.zero _ rfl eqA lnA) (e1 (e1 .nil))))
theorem Qb6 (l:List Node):∀ (r:List Int) (out:List Note) (i:Nat),(Q93 l r out i).length<=out.length+r.length
 | [],out,_=>by rw [Q93];simp
 | x :: r,out,i=>by
  rw [Q93]
  cases (Q65 l x).2 with
  | true =>
   have:=Qb6 l r (out++[(Q65 l x).1]) (i+1)
   simp only [cond_true,List.length_append,List.length_cons,List.length_nil] at *
   omega
  | false =>
   have:=Qb6 l r out (i+1)
   simp only [cond_false,List.length_cons] at *
   omega
theorem QC8 (set_ act job now:Int):∀ (r:List Int) (i:Nat) (c:List Node),(Qj2 set_ act job now r i c).2.1.length<=64
 | [],i,c=>by
  rw [Qj2]
  cases (!(QS7 act)) with
  | true=>simp
  | false =>
   have h:=Qb6 c (QG0 set_) [] 0
   have h2:=Qf6 set_
   simp only [cond_false,QR7,Qa3]
   simp only [List.length_nil] at h
   omega
 | x :: r,i,c=>by
  rw [Qj2]
  cases ((Qv1 c x act job now).2==0) <;> cases ((Qv1 c x act job now).2 != 0) <;> simp only [cond_true,cond_false] <;> first|exact QC8 set_ act job now r _ _|exact Nat.zero_le _
theorem Qr7 (l:List Node) (set_ act job now:Int):(QY0 l set_ act job now).2.1.length<=64:=by
 unfold QY0
 cases (QB1 l != 0) with
 | true=>exact Nat.zero_le _
 | false=>exact QC8 _ _ _ _ _ _ _
def Qsc (s:ByteArray):Bool:=bif ((((QV3 s).2.2 != 0)||((((QV3 s).1).length:Int)!=1))||(!(((((QV3 s).1).getD 0 Token.zero).kind==1)&&(((((QV3 s).1).getD 0 Token.zero).text==s)&&(((((QV3 s).1).getD 0 Token.zero).num==0)&&((((QV3 s).1).getD 0 Token.zero).at_==0)))))) then false else true
theorem cmd_word_c (s:ByteArray) (hs0:s.size<=4294967296):GV 230 [Sg s] (Bo (Qsc s)):=by
 generalize hR:Qsc s=R;refine ga (l1 .nil) lx (kp 3 []) Tryz.func230 ?_;have hk0:=hs0;obtain z3:s.size<=4294967296:=hs0;refine ACalls.of_cwp (fun _=>true) Tryz.func251 rfl rfl ?_;refine ACalls.of_cwp (fun _=>true) Tryz.func270 rfl rfl ?_;refine ai (fun h=>nomatch h) (fun _=>?_);refine ai (fun h=>nomatch h) (fun _=>?_);refine ⟨_,_,Told.refl,?_⟩;refine us (lex_Tokens_c s szA _) ?_;refine dchk (by kernel_rfl) ?_;refine ai gkA ?_;refine ai (fun _=>(by kernel_rfl:eqOK _ _=true)) ?_;(repeat ((first|refine ai rfl ?_|refine ai (fun _=>rfl) ?_)));refine ai (fun h1=>?_) (fun h2=>?_)
 ·refine ⟨_,_,Told.refl,?_⟩;obtain rfl:=foll hR (ct h1 rfl);exact Q10 lx sr
 ·refine ⟨_,_,Told.refl,?_⟩;obtain rfl:=foll hR (cf h2 rfl);exact Q10 lx sr
def Qx2 (l:List Node) (nodes:Int) (act:Int) (job:Int) (now:Int):(List Node) × Int × (List Note) × Int:=bif ((act != 1)&&(act != 2)) then ([],0,[],120) else bif ((QB1 l)!=0) then ([],0,[],120) else bif ((decide (nodes<1))||(decide (nodes > 48))) then ([],0,[],2) else bif (!(Q52 (QR3 l) nodes).2) then ([],0,[],130) else bif ((QY0 l ((Q52 (QR3 l) nodes).1) act job now).2.2 != 0) then ([],0,[],(QY0 l ((Q52 (QR3 l) nodes).1) act job now).2.2) else ((QY0 l ((Q52 (QR3 l) nodes).1) act job now).1,(Q52 (QR3 l) nodes).1,(QY0 l ((Q52 (QR3 l) nodes).1) act job now).2.1,0)
theorem Qea (l:List Node) (nodes:Int) (act:Int) (job:Int) (now:Int) (hs0:l.length<=4294967296):GV 83 [nodeL l,I nodes,I act,I job,I now] (AVal.tup [nodeL ((Qx2 l nodes act job now).1),U ((Qx2 l nodes act job now).2.1),noteL ((Qx2 l nodes act job now).2.2.1),I ((Qx2 l nodes act job now).2.2.2)]):=by
 generalize hR:Qx2 l nodes act job now=R;refine ga (.cons lw (l1 (l1 (l1 (l1 .nil))))) (Low.tup' (.cons lw (l1 (.cons lw (l1 .nil))))) (kp 19 [19,26,30,45,57]) Tryz.func83 ?_;have hk0:=hs0;obtain z11:l.length<=4294967296:=hs0;refine ai (fun h1=>?_) (fun h2=>?_)
 ·obtain rfl:=foll hR (ct h1 rfl);exact Q10 (Low.tup' (.cons lw (l1 (.cons lw (l1 .nil))))) (Seen.tup (ev (Q50) (e1 (ev (Q50) (e1 .nil)))))
 ·refine us (QE2 l szA _) ?_;refine ai (fun h3=>?_) (fun h4=>?_)
  ·obtain rfl:=foll hR (cf h2 (ct h3 rfl));exact Q10 (Low.tup' (.cons lw (l1 (.cons lw (l1 .nil))))) (Seen.tup (ev (Q50) (e1 (ev (Q50) (e1 .nil)))))
  ·refine ai (fun h5=>?_) (fun h6=>?_)
   ·obtain rfl:=foll hR (cf h2 (cf h4 (ct h5 rfl)));exact Q10 (Low.tup' (.cons lw (l1 (.cons lw (l1 .nil))))) (Seen.tup (ev (Q50) (e1 (ev (Q50) (e1 .nil)))))
   ·refine us (fleet_Free_c l szA _) ?_;refine us (Qgc (QR3 l) nodes _) ?_;refine ai (fun h7=>?_) (fun h8=>?_)
    ·obtain rfl:=foll hR (cf h2 (cf h4 (cf h6 (ct h7 rfl))));exact Q10 (Low.tup' (.cons lw (l1 (.cons lw (l1 .nil))))) (Seen.tup (ev (Q50) (e1 (ev (Q50) (e1 .nil)))))
    ·refine us (Qn2 l ((Q52 (QR3 l) nodes).1) act job now szA _) ?_;refine ai (fun h9=>?_) (fun h10=>?_)
     ·obtain rfl:=foll hR (cf h2 (cf h4 (cf h6 (cf h8 (ct h9 rfl)))));exact Q10 (Low.tup' (.cons lw (l1 (.cons lw (l1 .nil))))) (Seen.tup (ev (Q50) (e1 (ev (Q50) (e1 .nil)))))
     ·obtain rfl:=foll hR (cf h2 (cf h4 (cf h6 (cf h8 (cf h10 rfl)))));exact Q10 (Low.tup' (.cons lw (l1 (.cons lw (l1 .nil))))) (Seen.tup (e1 (e1 (e1 (e1 .nil)))))
def QX7 (c:Cmd) (i1:Bool):Bool:=bif i1 then (QU2 c.node 0 47) else bif (c.kind==10) then (((QU2 c.from_ 0 1000000)&&c.hasTime)&&(QU2 c.nodes 1 48)) else ((c.kind==12)&&(QU2 c.job 0 99999))
def QK6 (c:Cmd) (i:Bool):Bool:=bif i then (cmd_id c.job) else bif (c.kind==5) then ((cmd_id c.job)&&(c.hasPrio||c.hasTime)) else bif (c.kind==6) then ((cmd_id c.job)&&(QU2 c.nodes 1 48)) else bif (c.kind==7) then QX7 c (c.kind==7) else bif (c.kind==8) then QX7 c (c.kind==8) else QX7 c (c.kind==9)
def cmd_fits (c:Cmd):Bool:=bif ((((c.hasPrio&&(!(QU2 c.prio 0 100)))||(c.hasTime&&(!(Qab c.time))))||((!c.hasPrio)&&(c.prio != 0)))||((!c.hasTime)&&(c.time != 0))) then false else bif (c.kind==1) then (((((((Qja c.name)&&(Qja c.user))&&(Qja c.account))&&(Qsc c.user))&&(Qsc c.account))&&(cmd_deps c.after))&&((Qe3 c.shape)==0)) else bif (c.kind==2) then QK6 c (c.kind==2) else bif (c.kind==3) then QK6 c (c.kind==3) else bif (c.kind==4) then QK6 c (c.kind==4) else QK6 c (c.kind==11)
theorem cmd_fits_c (c:Cmd) (hs0:c.sz):GV 208 [Cmd.a c] (Bo (cmd_fits c)):=by
 generalize hR:cmd_fits c=R;refine ga (.cons (Cmd.low _ _) .nil) lx (kj [1000010,1000018] 3 [40,42,43,79,87,100,110,117]) Tryz.func208 ?_;have hk0:=hs0;obtain ⟨z25,z26,z27,z28,z29⟩:c.name.size<=4294967296∧c.user.size<=4294967296∧c.account.size<=4294967296∧(c.shape.alts.length<=4294967296)∧c.after.length<=4294967296:=hs0;(first|apply u2|apply u3|apply u4|apply us);exact QJ2 c.prio 0 100 _;(first|apply u2|apply u3|apply u4|apply us);exact cmd_length_c c.time _;refine ai (fun h1=>?_) (fun h2=>?_)
 ·obtain rfl:=foll hR (ct h1 rfl);exact Q10 lx sr
 ·refine ai (fun h3=>?_) (fun h4=>?_)
  ·refine us (Qbb c.name szA _) ?_;(first|apply u2|apply u3|apply u4|apply us);exact Qbb c.user szA _;(first|apply u2|apply u3|apply u4|apply us);exact Qbb c.account szA _;(first|apply u2|apply u3|apply u4|apply us);exact cmd_word_c c.user szA _;(first|apply u2|apply u3|apply u4|apply us);exact cmd_word_c c.account szA _;(first|apply u2|apply u3|apply u4|apply us);exact cmd_deps_c c.after szA _;(first|apply u2|apply u3|apply u4|apply us);exact QUa c.shape szA _;obtain rfl:=foll hR (cf h2 (ct h3 rfl));exact Q10 lx sr
  ·refine Qx1 (fun (i:Bool)=>QK6 c i=R) (fun i=>[(1,AVal.ptr 0 0 18 0 0),(2,Bo false),(42,I c.kind),(79,Bo i)]) (fun i=>[(0,AObj.row 214 18 [[I c.kind,I c.job,Sg c.name,Sg c.user,Sg c.account,I c.shape.kind,altL c.shape.alts,I c.shape.min,I c.shape.max,I c.shape.wall,I c.prio,Bo c.hasPrio,I c.time,Bo c.hasTime,depL c.after,I c.node,I c.nodes,I c.from_]])]) ?_ ?_
   ·clear hR;rintro i hR;(try dsimp only at hR);refine ai (fun h5=>?_) (fun h6=>?_)
    ·refine us (Qrc c.job _) ?_;obtain rfl:=foll hR (ct h5 rfl);exact Q10 lx sr
    ·refine ai (fun h7=>?_) (fun h8=>?_)
     ·refine us (Qrc c.job _) ?_;obtain rfl:=foll hR (cf h6 (ct h7 rfl));exact Q10 lx sr
     ·refine ai (fun h9=>?_) (fun h10=>?_)
      ·refine us (Qrc c.job _) ?_;(first|apply u2|apply u3|apply u4|apply us);exact QJ2 c.nodes 1 48 _;obtain rfl:=foll hR (cf h6 (cf h8 (ct h9 rfl)));exact Q10 lx sr
      ·refine Qx1 (fun (i1:Bool)=>QX7 c i1=R) (fun i1=>[(1,AVal.ptr 0 0 18 0 0),(2,Bo false),(42,I c.kind),(110,Bo i1)]) (fun i1=>[(0,AObj.row 214 18 [[I c.kind,I c.job,Sg c.name,Sg c.user,Sg c.account,I c.shape.kind,altL c.shape.alts,I c.shape.min,I c.shape.max,I c.shape.wall,I c.prio,Bo c.hasPrio,I c.time,Bo c.hasTime,depL c.after,I c.node,I c.nodes,I c.from_]])]) ?_ ?_
       ·clear hR;rintro i1 hR;(try dsimp only at hR);refine ai (fun h11=>?_) (fun h12=>?_)
        ·refine us (QJ2 c.node 0 47 _) ?_;obtain rfl:=foll hR (ct h11 rfl);exact Q10 lx sr
        ·refine ai (fun h13=>?_) (fun h14=>?_)
         ·refine us (QJ2 c.from_ 0 1000000 _) ?_;(first|apply u2|apply u3|apply u4|apply us);exact QJ2 c.nodes 1 48 _;obtain rfl:=foll hR (cf h12 (ct h13 rfl));exact Q10 lx sr
         ·(first|apply u2|apply u3|apply u4|apply us);exact QJ2 c.job 0 99999 _;obtain rfl:=foll hR (cf h12 (cf h14 rfl));exact Q10 lx sr
       ·refine ai (fun h15=>?_) (fun h16=>?_)
        ·exact Qo0 (c.kind==7) (wk [0] (tO rfl (ts Cmd.lo) .nil) (sv (Q00 0 rfl rfl) (s1 (s1 (s1 .nil))))) (foll hR (cf h6 (cf h8 (cf h10 (ct h15 rfl)))))
        ·refine ai (fun h17=>?_) (fun h18=>?_)
         ·exact Qo0 (c.kind==8) (wk [0] (tO rfl (ts Cmd.lo) .nil) (sv (Q00 0 rfl rfl) (s1 (s1 (s1 .nil))))) (foll hR (cf h6 (cf h8 (cf h10 (cf h16 (ct h17 rfl))))))
         ·exact Qo0 (c.kind==9) (wk [0] (tO rfl (ts Cmd.lo) .nil) (sv (Q00 0 rfl rfl) (s1 (s1 (s1 .nil))))) (foll hR (cf h6 (cf h8 (cf h10 (cf h16 (cf h18 rfl))))))
   ·refine ai (fun h19=>?_) (fun h20=>?_)
    ·exact Qo0 (c.kind==2) (wk [0] (tO rfl (ts Cmd.lo) .nil) (sv (Q00 0 rfl rfl) (s1 (s1 (s1 .nil))))) (foll hR (cf h2 (cf h4 (ct h19 rfl))))
    ·refine ai (fun h21=>?_) (fun h22=>?_)
     ·exact Qo0 (c.kind==3) (wk [0] (tO rfl (ts Cmd.lo) .nil) (sv (Q00 0 rfl rfl) (s1 (s1 (s1 .nil))))) (foll hR (cf h2 (cf h4 (cf h20 (ct h21 rfl)))))
     ·refine ai (fun h23=>?_) (fun h24=>?_)
      ·exact Qo0 (c.kind==4) (wk [0] (tO rfl (ts Cmd.lo) .nil) (sv (Q00 0 rfl rfl) (s1 (s1 (s1 .nil))))) (foll hR (cf h2 (cf h4 (cf h20 (cf h22 (ct h23 rfl))))))
      ·exact Qo0 (c.kind==11) (wk [0] (tO rfl (ts Cmd.lo) .nil) (sv (Q00 0 rfl rfl) (s1 (s1 (s1 .nil))))) (foll hR (cf h2 (cf h4 (cf h20 (cf h22 (cf h24 rfl))))))
def Qk4 (c:Cmd):Int:=bif ((((decide ((c.shape.alts.length:Int) > 6))||(decide ((c.after.length:Int) > 4)))||(!(cmd_fits c)))||(!(cmd_Same c (QW7 c)))) then 80 else 0
theorem b9a0 {P:Prop} (h:P:=by first|(exact cmd_bare_sz _ (by assumption))|exact szA):P:=h
theorem QOc (c:Cmd) (hs0:c.sz):GV 152 [Cmd.a c] (I (Qk4 c)):=by
 generalize hR:Qk4 c=R;refine ga (.cons (Cmd.low _ _) .nil) lx (kp 3 [25]) Tryz.func152 ?_;have hk0:=hs0;obtain ⟨z3,z4,z5,z6,z7⟩:c.name.size<=4294967296∧c.user.size<=4294967296∧c.account.size<=4294967296∧(c.shape.alts.length<=4294967296)∧c.after.length<=4294967296:=hs0;refine dchk (by kernel_rfl) ?_;(first|apply u2|apply u3|apply u4|apply us);exact cmd_fits_c c b9a0 _;(first|apply u2|apply u3|apply u4|apply us);exact cmd_bare_c c b9a0 _;(first|apply u2|apply u3|apply u4|apply us);exact cmd_Same_c c (QW7 c) b9a0 b9a0 _;(repeat ((first|refine ai rfl ?_|refine ai (fun _=>rfl) ?_|refine ai (fun _=>cmd_fits_c c b9a0 _) ?_|refine ai (fun _=>cmd_bare_c c b9a0 _) ?_|refine ai (fun _=>cmd_Same_c c (QW7 c) b9a0 b9a0 _) ?_)));refine ai (fun h1=>?_) (fun h2=>?_)
 ·obtain rfl:=foll hR (ct h1 rfl);exact Q10 lx sr
 ·obtain rfl:=foll hR (cf h2 rfl);exact Q10 lx sr
def Qk0 (j:Job):Int:=bif ((((((decide (j.id<1))||(decide (j.id > 99999)))||(!(QD1 j.born)))||(j.used != (QP3 j.used)))||((Qk4 (Qy0 j))!=0))||(Qt0 j.after (fun (y:Dep)=>(decide (y.job >= j.id))))) then 140 else bif (j.state==1) then bif (!(QM0 j)) then 140 else 0 else bif (j.state==2) then bif (!(QA2 j)) then 140 else 0 else bif (!(QN4 j.state)) then 140 else bif (!(Q62 j)) then 140 else 0
theorem Qp4 (j:Job) (hs0:j.sz):GV 86 [Job.a j] (I (Qk0 j)):=by
 generalize hR:Qk0 j=R;refine ga (.cons (Job.low _ _) .nil) lx (kp 6 [42,45,51,57,64]) Tryz.func86 ?_;obtain ⟨z19,z20,z21,z22,z23⟩:=Job.zz hs0;refine dchk (by kernel_rfl) ?_;(first|apply u2|apply u3|apply u4|apply us);exact QU3 j.born _;(first|apply u2|apply u3|apply u4|apply us);exact Qm8 j.used _;(first|apply u2|apply u3|apply u4|apply us);exact Q36 j _;(first|apply u2|apply u3|apply u4|apply us);exact QOc (Qy0 j) szA _;have cl1:∀ (y1:Dep),AMoves Tryz.prog 150 [Dep.a y1,AVal.ptr 0 0 20 0 0] [(0,AObj.row 52 20 [[I j.id,Sg j.name,Sg j.user,Sg j.account,I j.shape.kind,altL j.shape.alts,I j.shape.min,I j.shape.max,I j.shape.wall,I j.prio,depL j.after,I j.state,Bo j.held,I j.born,I j.promise,I j.choice,I j.start,I j.limit,U j.nodes,I j.used]])] 1 (Bo ((fun (y:Dep)=>(decide (y.job >= j.id))) y1)) [(0,AObj.row 52 20 [[I j.id,Sg j.name,Sg j.user,Sg j.account,I j.shape.kind,altL j.shape.alts,I j.shape.min,I j.shape.max,I j.shape.wall,I j.prio,depL j.after,I j.state,Bo j.held,I j.born,I j.promise,I j.choice,I j.start,I j.limit,U j.nodes,I j.used]])]:=by
  intro y1;have hR:(fun (y:Dep)=>(decide (y.job >= j.id))) y1=(fun (y:Dep)=>(decide (y.job >= j.id))) y1:=rfl;refine mo (kp 4 []) Tryz.func150 ?_;refine Qp0 (fun r:Bool=>Bo r) (fun _=>[(0,AObj.row 52 20 [[I j.id,Sg j.name,Sg j.user,Sg j.account,I j.shape.kind,altL j.shape.alts,I j.shape.min,I j.shape.max,I j.shape.wall,I j.prio,depL j.after,I j.state,Bo j.held,I j.born,I j.promise,I j.choice,I j.start,I j.limit,U j.nodes,I j.used]])]) (leaf:=(decide (y1.job >= j.id))) (foll hR rfl) ?_;exact tt [0] (tO rfl (ts Job.lo) .nil) t1
 have hof1:AMoves Tryz.prog 154 [depL j.after,AVal.fn (.func 150) [] [AVal.ptr 0 0 20 0 0]] [(0,AObj.row 52 20 [[I j.id,Sg j.name,Sg j.user,Sg j.account,I j.shape.kind,altL j.shape.alts,I j.shape.min,I j.shape.max,I j.shape.wall,I j.prio,depL j.after,I j.state,Bo j.held,I j.born,I j.promise,I j.choice,I j.start,I j.limit,U j.nodes,I j.used]])] 1 (Bo (Qt0 j.after (fun (y:Dep)=>(decide (y.job >= j.id))))) [(0,AObj.row 52 20 [[I j.id,Sg j.name,Sg j.user,Sg j.account,I j.shape.kind,altL j.shape.alts,I j.shape.min,I j.shape.max,I j.shape.wall,I j.prio,depL j.after,I j.state,Bo j.held,I j.born,I j.promise,I j.choice,I j.start,I j.limit,U j.nodes,I j.used]])]:=by
  have hR:Qt0 j.after (fun (y:Dep)=>(decide (y.job >= j.id)))=Qt0 j.after (fun (y:Dep)=>(decide (y.job >= j.id))):=rfl;refine mo (kp 5 []) Tryz.func154 ?_;have hof2:AMoves Tryz.prog 211 [depL j.after,AVal.fn (.func 150) [] [AVal.ptr 0 0 20 0 0]] [(0,AObj.row 52 20 [[I j.id,Sg j.name,Sg j.user,Sg j.account,I j.shape.kind,altL j.shape.alts,I j.shape.min,I j.shape.max,I j.shape.wall,I j.prio,depL j.after,I j.state,Bo j.held,I j.born,I j.promise,I j.choice,I j.start,I j.limit,U j.nodes,I j.used]])] 1 (I (Q81 j.after (fun (y:Dep)=>(decide (y.job >= j.id))))) [(0,AObj.row 52 20 [[I j.id,Sg j.name,Sg j.user,Sg j.account,I j.shape.kind,altL j.shape.alts,I j.shape.min,I j.shape.max,I j.shape.wall,I j.prio,depL j.after,I j.state,Bo j.held,I j.born,I j.promise,I j.choice,I j.start,I j.limit,U j.nodes,I j.used]])]:=by
   have hR:Q81 j.after (fun (y:Dep)=>(decide (y.job >= j.id)))=Q81 j.after (fun (y:Dep)=>(decide (y.job >= j.id))):=rfl;refine mo (kp 6 [7,8,9,16]) Tryz.func211 ?_;refine Qs0 (fun (i:Nat)=>QI2 (fun (y:Dep)=>(decide (y.job >= j.id))) (List.drop i j.after) i=Q81 j.after (fun (y:Dep)=>(decide (y.job >= j.id)))∧i<=j.after.length) (fun i=>j.after.length - i) (fun i=>[(0,depL j.after),(1,AVal.fn (.func 150) [] [AVal.ptr 0 0 20 0 0]),(4,I 0),(7,I (j.after.length:Int)),(8,I (i:Int))]) (fun i=>[(0,AObj.row 52 20 [[I j.id,Sg j.name,Sg j.user,Sg j.account,I j.shape.kind,altL j.shape.alts,I j.shape.min,I j.shape.max,I j.shape.wall,I j.prio,depL j.after,I j.state,Bo j.held,I j.born,I j.promise,I j.choice,I j.start,I j.limit,U j.nodes,I j.used]])]) 0 (wk [0] (tO rfl (ts Job.lo) .nil) (sl lw (sv (Qu0 .nil (cv (Q00 0 rfl rfl) .nil)) (s1 (s1 (s1 .nil)))))) ⟨foll hR rfl,by exact omA⟩ ?_;clear hR;rintro i ⟨hR,hj⟩;(try dsimp only at hR hj);refine ai (fun h1=>?_) (fun h2=>?_)
   ·have hlt:=ltA h1;rw [Qi0 Dep.zero hlt] at hR;refine ai gkA ?_;refine us (mv [0] (cl1 (j.after.getD i Dep.zero)) (dO (ds Job.lo) .nil) (dl (Dep.low _ _) (dp .nil)) (rO (re Job.lo) .nil) rx) ?_;refine ai (fun h3=>?_) (fun h4=>?_)
    ·refine Qp0 (fun r:Int=>I r) (fun r:Int=>[(0,AObj.row 52 20 [[I j.id,Sg j.name,Sg j.user,Sg j.account,I j.shape.kind,altL j.shape.alts,I j.shape.min,I j.shape.max,I j.shape.wall,I j.prio,depL j.after,I j.state,Bo j.held,I j.born,I j.promise,I j.choice,I j.start,I j.limit,U j.nodes,I j.used]])]) (leaf:=(i:Int)) (foll hR (ct h3 rfl)) ?_;exact tt [0] (tO rfl (ts Job.lo) .nil) t1
    ·exact Qz0 (i+1) (wk [0] (tO rfl (ts Job.lo) .nil) (sl lw (sv (Qu0 .nil (cv (Q00 0 rfl rfl) .nil)) (s1 (s1 (sv (Qa0 (I_eq (wr omA)) lx) .nil)))))) omA ⟨foll hR (cf h4 rfl),by exact omA⟩
   ·rw [Ql0 (l:=j.after) (j:=i) (geA h2)] at hR;refine Qp0 (fun r:Int=>I r) (fun r:Int=>[(0,AObj.row 52 20 [[I j.id,Sg j.name,Sg j.user,Sg j.account,I j.shape.kind,altL j.shape.alts,I j.shape.min,I j.shape.max,I j.shape.wall,I j.prio,depL j.after,I j.state,Bo j.held,I j.born,I j.promise,I j.choice,I j.start,I j.limit,U j.nodes,I j.used]])]) (leaf:=(-1)) (foll hR rfl) ?_;exact tt [0] (tO rfl (ts Job.lo) .nil) t1
  refine us (mv [0] (hof2) (dO (ds Job.lo) .nil) (dl lw (dv (dn_fn .nil (dp .nil)) .nil)) (rO (re Job.lo) .nil) rx) ?_;refine Qp0 (fun r:Bool=>Bo r) (fun r:Bool=>[(0,AObj.row 52 20 [[I j.id,Sg j.name,Sg j.user,Sg j.account,I j.shape.kind,altL j.shape.alts,I j.shape.min,I j.shape.max,I j.shape.wall,I j.prio,depL j.after,I j.state,Bo j.held,I j.born,I j.promise,I j.choice,I j.start,I j.limit,U j.nodes,I j.used]])]) (leaf:=(decide ((Q81 j.after (fun (y:Dep)=>(decide (y.job >= j.id)))) >= 0))) (foll hR rfl) ?_;exact tt [0] (tO rfl (ts Job.lo) .nil) t1
 (first|apply u2|apply u3|apply u4|apply us);exact mv [0] (hof1) (dO (ds Job.lo) .nil) (dl lw (dv (dn_fn .nil (dp .nil)) .nil)) (rO (re Job.lo) .nil) rx;(repeat ((first|refine ai rfl ?_|refine ai (fun _=>rfl) ?_|refine ai (fun _=>QU3 j.born _) ?_|refine ai (fun _=>Qm8 j.used _) ?_|refine ai (fun _=>Q36 j _) ?_|refine ai (fun _=>QOc (Qy0 j) szA _) ?_)));refine ai (fun h5=>?_) (fun h6=>?_)
 ·obtain rfl:=foll hR (ct h5 rfl);exact Q10 lx sr
 ·refine ai (fun h7=>?_) (fun h8=>?_)
  ·refine us (Qnb j szA _) ?_;refine ai (fun h9=>?_) (fun h10=>?_)
   ·obtain rfl:=foll hR (cf h6 (ct h7 (ct h9 rfl)));exact Q10 lx sr
   ·obtain rfl:=foll hR (cf h6 (ct h7 (cf h10 rfl)));exact Q10 lx sr
  ·refine ai (fun h11=>?_) (fun h12=>?_)
   ·refine us (QAa j szA _) ?_;refine ai (fun h13=>?_) (fun h14=>?_)
    ·obtain rfl:=foll hR (cf h6 (cf h8 (ct h11 (ct h13 rfl))));exact Q10 lx sr
    ·obtain rfl:=foll hR (cf h6 (cf h8 (ct h11 (cf h14 rfl))));exact Q10 lx sr
   ·refine us (Qdd j.state _) ?_;refine ai (fun h15=>?_) (fun h16=>?_)
    ·obtain rfl:=foll hR (cf h6 (cf h8 (cf h12 (ct h15 rfl))));exact Q10 lx sr
    ·refine us (Qed j _) ?_;refine ai (fun h17=>?_) (fun h18=>?_)
     ·obtain rfl:=foll hR (cf h6 (cf h8 (cf h12 (cf h16 (ct h17 rfl)))));exact Q10 lx sr
     ·obtain rfl:=foll hR (cf h6 (cf h8 (cf h12 (cf h16 (cf h18 rfl)))));exact Q10 lx sr
theorem Qbc {j:Job} (h:((((Qk0 j)!=0)||(j.state != 1))||(decide (j.promise<0)))=false):0<=j.choice∧j.choice<((Qe0 j.shape).length:Int):=by
 simp only [Bool.or_eq_false_iff,bne_eq_false_iff_eq,decide_eq_false_iff_not] at h
 obtain ⟨⟨h1,h2⟩,h3⟩:=h
 have hq:QM0 j=true:=by
  unfold Qk0 at h1
  revert h1
  rw [show (j.state==1)=true by simpa using h2]
  cases ((((((decide (j.id<1))||(decide (j.id > 99999)))||(!(QD1 j.born)))||(j.used != (QP3 j.used)))||((Qk4 (Qy0 j))!=0))||(Qt0 j.after (fun (y:Dep)=>(decide (y.job >= j.id))))) with
  | true=>simp
  | false =>
   cases QM0 j with
   | true=>simp
   | false=>simp
 unfold QM0 at hq
 simp only [Bool.and_eq_true,Bool.or_eq_true] at hq
 rcases hq.2 with hp|hp
 ·have:=hp.1
  simp at this
  omega
 ·have ho:=hp.1.2
  unfold QI0 at ho
  cases hc:((decide (j.choice<0))||(decide (j.choice >= ((Qe0 j.shape).length:Int)))) with
  | true=>rw [hc] at ho;cases ho
  | false=>simp at hc;omega
def Qg3 (l:List Job):List Job->Nat->Int
 | [],_=>0
 | x_ :: r,i=>bif (((Qk0 x_)!=0)||((decide ((i:Int) > 0))&&(decide ((l.getD (Int.toNat (w64 ((i:Int) - 1))) Job.zero).id >= x_.id)))) then 140 else Qg3 l r (i+1)
def Qh0 (l:List Job):Int:=bif (decide ((l.length:Int) > 40)) then 140 else Qg3 l l 0
theorem Q73 (l:List Job) (hs0:l.length<=4294967296∧(∀ y ∈ l,y.sz)):GV 35 [jobL l] (I (Qh0 l)):=by
 generalize hR:Qh0 l=R;refine ga (.cons lw .nil) lx (kp 5 [7,8,9,10,11,32]) Tryz.func35 ?_;obtain ⟨z12,z13⟩:=id hs0;refine ai (fun h1=>?_) (fun h2=>?_)
 ·have qh1:=of_decide_eq_true h1;obtain rfl:=foll hR (ct h1 rfl);exact Q10 lx sr
 ·have qh2:=of_decide_eq_false h2;refine Qs0 (fun (i:Nat)=>Qg3 l (List.drop i l) i=R∧i<=l.length) (fun i=>l.length - i) (fun i=>[(0,jobL l),(2,I 0),(8,jobL l),(9,I (l.length:Int)),(10,I (i:Int))]) (fun i=>[]) 0 (wk [] .nil (sl lw (s1 (sl lw (s1 (s1 .nil)))))) ⟨foll hR (cf h2 rfl),by exact omA⟩ ?_;clear hR;rintro i ⟨hR,hj⟩;(try dsimp only at hR hj);refine ai (fun h3=>?_) (fun h4=>?_)
  ·have hlt:=ltA h3;rw [Qi0 Job.zero hlt] at hR;have hxz:(l.getD i Job.zero).sz:=Qw1 (by first|assumption|grind) (Job.szz _);have hkz:=hxz;obtain ⟨z5,z6,z7,z8,z9⟩:=Job.zz hxz;refine ai gkA ?_;refine dchk (by kernel_rfl) ?_;(first|apply u2|apply u3|apply u4|apply us);exact Qp4 (l.getD i Job.zero) szA _;refine ai gkA ?_;(repeat ((first|refine ai rfl ?_|refine ai (fun _=>rfl) ?_|refine ai (fun _=>Qp4 (l.getD i Job.zero) szA _) ?_)));refine ai (fun h10=>?_) (fun h11=>?_)
   ·obtain rfl:=foll hR (ct h10 rfl);exact Q10 lx sr
   ·exact Qz0 (i+1) (wk [] .nil (sl lw (s1 (sl lw (s1 (sv (Qa0 (I_eq (wr omA)) lx) .nil)))))) omA ⟨foll hR (cf h11 rfl),by exact omA⟩
  ·rw [Ql0 (l:=l) (j:=i) (geA h4)] at hR;obtain rfl:=foll hR rfl;exact Q10 lx sr
def Qq2 (j:Job) (state:Int):Job × Int:=bif ((Qk0 j)!=0) then (Job.zero,(Qk0 j)) else bif (!(QN4 state)) then (Job.zero,2) else bif ((Qn5 ((j.state==2)||((j.state==1)&&(state==6))))!=0) then (Job.zero,(Qn5 ((j.state==2)||((j.state==1)&&(state==6))))) else bif (j.state==1) then ({ j with state:=state,held:=false,promise:=(-1),choice:=0,nodes:=0 },0) else ({ j with state:=state,nodes:=0 },0)
theorem job_End_c (j:Job) (state:Int) (hs0:j.sz):GV 76 [Job.a j,I state] (AVal.tup [Job.a ((Qq2 j state).1),I ((Qq2 j state).2)]):=by
 generalize hR:Qq2 j state=R;refine ga (.cons (Job.low _ _) (l1 .nil)) (Low.tup' (.cons (Job.low _ _) (l1 .nil))) (kp 7 []) Tryz.func76 ?_;obtain ⟨z9,z10,z11,z12,z13⟩:=Job.zz hs0;refine ACalls.of_cwp (fun _=>true) Tryz.func126 rfl rfl ?_;refine us (Qp4 j szA _) ?_;refine ai (fun h1=>?_) (fun h2=>?_)
 ·refine ⟨_,_,Told.refl,?_⟩;obtain rfl:=foll hR (ct h1 rfl);exact Q10 (Low.tup' (.cons (Job.low _ _) (l1 .nil))) (Seen.tup (ev (Seen.agg (e1 (e1 (e1 (e1 (e1 (ev (Q50) (e1 (e1 (e1 (e1 (ev (Q50) (e1 (e1 (e1 (e1 (e1 (e1 (e1 (e1 (e1 .nil))))))))))))))))))))) (e1 .nil)))
 ·refine ACalls.of_cwp (fun _=>true) Tryz.func123 rfl rfl ?_;refine us (Qdd state _) ?_;refine ai (fun h3=>?_) (fun h4=>?_)
  ·refine ⟨_,_,Told.refl,?_⟩;refine ai (fun _=>?_) (fun h=>nomatch h);refine ⟨_,_,Told.refl,?_⟩;obtain rfl:=foll hR (cf h2 (ct h3 rfl));exact Q10 (Low.tup' (.cons (Job.low _ _) (l1 .nil))) (Seen.tup (ev (Seen.agg (e1 (e1 (e1 (e1 (e1 (ev (Q50) (e1 (e1 (e1 (e1 (ev (Q50) (e1 (e1 (e1 (e1 (e1 (e1 (e1 (e1 (e1 .nil))))))))))))))))))))) (e1 .nil)))
  ·refine us (job_when_c ((j.state==2)||((j.state==1)&&(state==6))) _) ?_;refine ⟨_,_,Told.refl,?_⟩;refine ai (fun h5=>?_) (fun h6=>?_)
   ·refine ⟨_,_,Told.refl,?_⟩;obtain rfl:=foll hR (cf h2 (cf h4 (ct h5 rfl)));exact Q10 (Low.tup' (.cons (Job.low _ _) (l1 .nil))) (Seen.tup (ev (Seen.agg (e1 (e1 (e1 (e1 (e1 (ev (Q50) (e1 (e1 (e1 (e1 (ev (Q50) (e1 (e1 (e1 (e1 (e1 (e1 (e1 (e1 (e1 .nil))))))))))))))))))))) (e1 .nil)))
   ·refine us (Q57 j szA _) ?_;refine ACalls.of_cwp (fun _=>true) Tryz.func127 rfl rfl ?_;refine ai (fun h7=>?_) (fun h8=>?_)
    ·refine ⟨_,_,Told.refl,?_⟩;refine ⟨_,_,Told.refl,?_⟩;obtain rfl:=foll hR (cf h2 (cf h4 (cf h6 (ct h7 rfl))));exact Q10 (Low.tup' (.cons (Job.low _ _) (l1 .nil))) (Seen.tup (e1 (e1 .nil)))
    ·refine ⟨_,_,Told.refl,?_⟩;refine ⟨_,_,Told.refl,?_⟩;obtain rfl:=foll hR (cf h2 (cf h4 (cf h6 (cf h8 rfl))));exact Q10 (Low.tup' (.cons (Job.low _ _) (l1 .nil))) (Seen.tup (e1 (e1 .nil)))
theorem QC6 {j:Job} (h:j.sz) (x:Int):(Qq2 j x).1.sz:=by
 unfold Qq2
 repeat' first|exact Job.szz _|exact h|(rw [Bool.cond_eq_ite];split)
def QT0 (j:Job):Int × Int × Int × Bool:=bif ((((Qk0 j)!=0)||(j.state != 1))||(decide (j.promise<0))) then (0,0,0,false) else (j.promise,(w64 (((Qe0 j.shape).getD (Int.toNat j.choice) Alt.zero).wall+12)),((Qe0 j.shape).getD (Int.toNat j.choice) Alt.zero).nodes,true)
theorem Qb7 (j:Job) (hs0:j.sz):GV 45 [Job.a j] (AVal.tup [I ((QT0 j).1),I ((QT0 j).2.1),I ((QT0 j).2.2.1),Bo ((QT0 j).2.2.2)]):=by
 generalize hR:QT0 j=R;refine ga (.cons (Job.low _ _) .nil) (Low.tup' (l1 (l1 (l1 (l1 .nil))))) (kp 7 [19]) Tryz.func45 ?_;obtain ⟨z3,z4,z5,z6,z7⟩:=Job.zz hs0;refine us (Qp4 j szA _) ?_;refine ai (fun h1=>?_) (fun h2=>?_)
 ·obtain rfl:=foll hR (ct h1 rfl);exact Q10 (Low.tup' (l1 (l1 (l1 (l1 .nil))))) (Seen.tup (e1 (e1 (e1 (e1 .nil)))))
 ·refine dchk (by kernel_rfl) ?_;(first|apply u2|apply u3|apply u4|apply us);exact Q82 j.shape szA _;refine And.intro (by first|exact fun hg=>decide_eq_true (by first|((have q:=Qbc (by assumption);omega))|exact ckA)|exact gkA) ?_;(repeat ((first|refine ai rfl ?_|refine ai (fun _=>rfl) ?_|refine ai (fun _=>Q82 j.shape szA _) ?_)));(try (refine dchk (by kernel_rfl) ?_));(repeat ((first|refine ai rfl ?_|refine ai (fun _=>rfl) ?_)));obtain rfl:=foll hR (cf h2 rfl);exact Q10 (Low.tup' (l1 (l1 (l1 (l1 .nil))))) (Seen.tup (e1 (e1 (e1 (e1 .nil)))))
def Q21 (j:Job) (at_:Int) (choice:Int):Job × Int:=bif ((Qk0 j)!=0) then (Job.zero,(Qk0 j)) else bif ((j.state != 1)||j.held) then (Job.zero,141) else bif ((!(QI0 j choice).2)||(!(QD1 at_))) then (Job.zero,2) else ({ j with promise:=at_,choice:=choice },0)
theorem Qya (j:Job) (at_:Int) (choice:Int) (hs0:j.sz):GV 133 [Job.a j,I at_,I choice] (AVal.tup [Job.a ((Q21 j at_ choice).1),I ((Q21 j at_ choice).2)]):=by
 generalize hR:Q21 j at_ choice=R;refine ga (.cons (Job.low _ _) (l1 (l1 .nil))) (Low.tup' (.cons (Job.low _ _) (l1 .nil))) (kp 9 []) Tryz.func133 ?_;obtain ⟨z7,z8,z9,z10,z11⟩:=Job.zz hs0;refine ACalls.of_cwp (fun _=>true) Tryz.func126 rfl rfl ?_;refine us (Qp4 j szA _) ?_;refine ai (fun h1=>?_) (fun h2=>?_)
 ·refine ⟨_,_,Told.refl,?_⟩;obtain rfl:=foll hR (ct h1 rfl);exact Q10 (Low.tup' (.cons (Job.low _ _) (l1 .nil))) (Seen.tup (ev (Seen.agg (e1 (e1 (e1 (e1 (e1 (ev (Q50) (e1 (e1 (e1 (e1 (ev (Q50) (e1 (e1 (e1 (e1 (e1 (e1 (e1 (e1 (e1 .nil))))))))))))))))))))) (e1 .nil)))
 ·refine ACalls.of_cwp (fun _=>true) Tryz.func195 rfl rfl ?_;refine ai (fun h3=>?_) (fun h4=>?_)
  ·refine ⟨_,_,Told.refl,?_⟩;refine ai (fun _=>?_) (fun h=>nomatch h);refine ⟨_,_,Told.refl,?_⟩;obtain rfl:=foll hR (cf h2 (ct h3 rfl));exact Q10 (Low.tup' (.cons (Job.low _ _) (l1 .nil))) (Seen.tup (ev (Seen.agg (e1 (e1 (e1 (e1 (e1 (ev (Q50) (e1 (e1 (e1 (e1 (ev (Q50) (e1 (e1 (e1 (e1 (e1 (e1 (e1 (e1 (e1 .nil))))))))))))))))))))) (e1 .nil)))
  ·refine us (QD4 j choice szA _) ?_;(first|apply u2|apply u3|apply u4|apply us);exact QU3 at_ _;refine ai (fun h5=>?_) (fun h6=>?_)
   ·refine ⟨_,_,Told.refl,?_⟩;refine ai (fun _=>?_) (fun h=>nomatch h);refine ⟨_,_,Told.refl,?_⟩;obtain rfl:=foll hR (cf h2 (cf h4 (ct h5 rfl)));exact Q10 (Low.tup' (.cons (Job.low _ _) (l1 .nil))) (Seen.tup (ev (Seen.agg (e1 (e1 (e1 (e1 (e1 (ev (Q50) (e1 (e1 (e1 (e1 (ev (Q50) (e1 (e1 (e1 (e1 (e1 (e1 (e1 (e1 (e1 .nil))))))))))))))))))))) (e1 .nil)))
   ·refine ⟨_,_,Told.refl,?_⟩;refine ai (fun h=>nomatch h) (fun _=>?_);refine us (Q57 j szA _) ?_;refine ACalls.of_cwp (fun _=>true) Tryz.func196 rfl rfl ?_;refine dchk (by kernel_rfl) ?_;(repeat ((first|refine ai rfl ?_|refine ai (fun _=>rfl) ?_)));refine ⟨_,_,Told.refl,?_⟩;refine ⟨_,_,Told.refl,?_⟩;obtain rfl:=foll hR (cf h2 (cf h4 (cf h6 rfl)));exact Q10 (Low.tup' (.cons (Job.low _ _) (l1 .nil))) (Seen.tup (e1 (e1 .nil)))
theorem QR5 {j:Job} (a c:Int) (h:j.sz):(Q21 j a c).1.sz:=by
 unfold Q21
 repeat' first|exact Job.szz _|exact h|(rw [Bool.cond_eq_ite];split)
def QD3 (j:Job):Job × Int:=bif ((Qk0 j)!=0) then (Job.zero,(Qk0 j)) else bif ((Qn5 (j.state==1))!=0) then (Job.zero,(Qn5 (j.state==1))) else ({ j with promise:=(-1),choice:=0 },0)
theorem job_Drop_c (j:Job) (hs0:j.sz):GV 129 [Job.a j] (AVal.tup [Job.a ((QD3 j).1),I ((QD3 j).2)]):=by
 generalize hR:QD3 j=R;refine ga (.cons (Job.low _ _) .nil) (Low.tup' (.cons (Job.low _ _) (l1 .nil))) (kp 4 []) Tryz.func129 ?_;obtain ⟨z5,z6,z7,z8,z9⟩:=Job.zz hs0;refine ACalls.of_cwp (fun _=>true) Tryz.func126 rfl rfl ?_;refine us (Qp4 j szA _) ?_;refine ai (fun h1=>?_) (fun h2=>?_)
 ·refine ⟨_,_,Told.refl,?_⟩;obtain rfl:=foll hR (ct h1 rfl);exact Q10 (Low.tup' (.cons (Job.low _ _) (l1 .nil))) (Seen.tup (ev (Seen.agg (e1 (e1 (e1 (e1 (e1 (ev (Q50) (e1 (e1 (e1 (e1 (ev (Q50) (e1 (e1 (e1 (e1 (e1 (e1 (e1 (e1 (e1 .nil))))))))))))))))))))) (e1 .nil)))
 ·refine ACalls.of_cwp (fun _=>true) Tryz.func188 rfl rfl ?_;refine us (job_when_c (j.state==1) _) ?_;refine ⟨_,_,Told.refl,?_⟩;refine ai (fun h3=>?_) (fun h4=>?_)
  ·refine ⟨_,_,Told.refl,?_⟩;obtain rfl:=foll hR (cf h2 (ct h3 rfl));exact Q10 (Low.tup' (.cons (Job.low _ _) (l1 .nil))) (Seen.tup (ev (Seen.agg (e1 (e1 (e1 (e1 (e1 (ev (Q50) (e1 (e1 (e1 (e1 (ev (Q50) (e1 (e1 (e1 (e1 (e1 (e1 (e1 (e1 (e1 .nil))))))))))))))))))))) (e1 .nil)))
  ·refine us (Q57 j szA _) ?_;refine ACalls.of_cwp (fun _=>true) Tryz.func189 rfl rfl ?_;refine ⟨_,_,Told.refl,?_⟩;refine ⟨_,_,Told.refl,?_⟩;obtain rfl:=foll hR (cf h2 (cf h4 rfl));exact Q10 (Low.tup' (.cons (Job.low _ _) (l1 .nil))) (Seen.tup (e1 (e1 .nil)))
theorem Qbd {j:Job} (h:j.sz):(QD3 j).1.sz:=by
 unfold QD3
 repeat' first|exact Job.szz _|exact h|(rw [Bool.cond_eq_ite];split)
def QF1 (j:Job) (now:Int) (set_:Int):Job × Int:=bif ((Qk0 j)!=0) then (Job.zero,(Qk0 j)) else bif (((j.state != 1)||(decide (j.promise<0)))||(decide (j.promise<now))) then (Job.zero,141) else bif ((!(Qza set_))||((Qm1 set_)!=(QI0 j j.choice).1.nodes)) then (Job.zero,152) else bif ((!(QD1 now))||(sat_Over ([now,(QI0 j j.choice).1.wall]:List Int))) then (Job.zero,153) else ({ j with state:=2,start:=now,limit:=(w64 (now+(QI0 j j.choice).1.wall)),nodes:=set_ },0)
theorem Qcd (j:Job) (now:Int) (set_:Int) (hs0:j.sz):GV 84 [Job.a j,I now,U set_] (AVal.tup [Job.a ((QF1 j now set_).1),I ((QF1 j now set_).2)]):=by
 generalize hR:QF1 j now set_=R;refine ga (.cons (Job.low _ _) (l1 (l1 .nil))) (Low.tup' (.cons (Job.low _ _) (l1 .nil))) (kp 10 []) Tryz.func84 ?_;obtain ⟨z9,z10,z11,z12,z13⟩:=Job.zz hs0;refine ACalls.of_cwp (fun _=>true) Tryz.func126 rfl rfl ?_;refine us (Qp4 j szA _) ?_;refine ai (fun h1=>?_) (fun h2=>?_)
 ·refine ⟨_,_,Told.refl,?_⟩;obtain rfl:=foll hR (ct h1 rfl);exact Q10 (Low.tup' (.cons (Job.low _ _) (l1 .nil))) (Seen.tup (ev (Seen.agg (e1 (e1 (e1 (e1 (e1 (ev (Q50) (e1 (e1 (e1 (e1 (ev (Q50) (e1 (e1 (e1 (e1 (e1 (e1 (e1 (e1 (e1 .nil))))))))))))))))))))) (e1 .nil)))
 ·refine ACalls.of_cwp (fun _=>true) Tryz.func143 rfl rfl ?_;refine us (QD4 j j.choice szA _) ?_;refine ai (fun h3=>?_) (fun h4=>?_)
  ·refine ⟨_,_,Told.refl,?_⟩;refine ai (fun _=>?_) (fun h=>nomatch h);refine ⟨_,_,Told.refl,?_⟩;obtain rfl:=foll hR (cf h2 (ct h3 rfl));exact Q10 (Low.tup' (.cons (Job.low _ _) (l1 .nil))) (Seen.tup (ev (Seen.agg (e1 (e1 (e1 (e1 (e1 (ev (Q50) (e1 (e1 (e1 (e1 (ev (Q50) (e1 (e1 (e1 (e1 (e1 (e1 (e1 (e1 (e1 .nil))))))))))))))))))))) (e1 .nil)))
  ·refine dchk (by kernel_rfl) ?_;(first|apply u2|apply u3|apply u4|apply us);exact Q78 set_ _;(first|apply u2|apply u3|apply u4|apply us);exact QR1 set_ _;(repeat ((first|refine ai rfl ?_|refine ai (fun _=>rfl) ?_|refine ai (fun _=>Q78 set_ _) ?_|refine ai (fun _=>QR1 set_ _) ?_)));refine ai (fun h5=>?_) (fun h6=>?_)
   ·refine ⟨_,_,Told.refl,?_⟩;refine ai (fun _=>?_) (fun h=>nomatch h);refine ⟨_,_,Told.refl,?_⟩;obtain rfl:=foll hR (cf h2 (cf h4 (ct h5 rfl)));exact Q10 (Low.tup' (.cons (Job.low _ _) (l1 .nil))) (Seen.tup (ev (Seen.agg (e1 (e1 (e1 (e1 (e1 (ev (Q50) (e1 (e1 (e1 (e1 (ev (Q50) (e1 (e1 (e1 (e1 (e1 (e1 (e1 (e1 (e1 .nil))))))))))))))))))))) (e1 .nil)))
   ·refine us (QU3 now _) ?_;(first|apply u2|apply u3|apply u4|apply us);exact AGives.as2 (sat_Over_c ([now,(QI0 j j.choice).1.wall]:List Int) szA _) (av (QW4 (c:=(fun q_=>[I q_])) (d:=0) ([now,(QI0 j j.choice).1.wall]:List Int) rfl) .nil);refine ai (fun h7=>?_) (fun h8=>?_)
    ·refine ⟨_,_,Told.refl,?_⟩;refine ai (fun _=>?_) (fun h=>nomatch h);refine ⟨_,_,Told.refl,?_⟩;obtain rfl:=foll hR (cf h2 (cf h4 (cf h6 (ct h7 rfl))));exact Q10 (Low.tup' (.cons (Job.low _ _) (l1 .nil))) (Seen.tup (ev (Seen.agg (e1 (e1 (e1 (e1 (e1 (ev (Q50) (e1 (e1 (e1 (e1 (ev (Q50) (e1 (e1 (e1 (e1 (e1 (e1 (e1 (e1 (e1 .nil))))))))))))))))))))) (e1 .nil)))
    ·refine ⟨_,_,Told.refl,?_⟩;refine ai (fun h=>nomatch h) (fun _=>?_);refine us (Q57 j szA _) ?_;refine ACalls.of_cwp (fun _=>true) Tryz.func149 rfl rfl ?_;refine dchk (by kernel_rfl) ?_;(repeat ((first|refine ai rfl ?_|refine ai (fun _=>rfl) ?_)));refine ⟨_,_,Told.refl,?_⟩;refine ⟨_,_,Told.refl,?_⟩;obtain rfl:=foll hR (cf h2 (cf h4 (cf h6 (cf h8 rfl))));exact Q10 (Low.tup' (.cons (Job.low _ _) (l1 .nil))) (Seen.tup (e1 (e1 .nil)))
theorem QKb {j:Job} (h:j.sz) (x y:Int):(QF1 j x y).1.sz:=by
 unfold QF1
 repeat' first|exact Job.szz _|exact h|(rw [Bool.cond_eq_ite];split)
def Qv3 (s:State):Int:=bif (((((decide (s.now<0))||(decide (s.now > 1000000)))||((QB1 s.nodes)!=0))||((Qh0 s.jobs)!=0))||((Q89 s.books)!=0)) then 141 else 0
theorem Q0c (s:State) (hs0:s.sz):GV 47 [State.a s] (I (Qv3 s)):=by
 generalize hR:Qv3 s=R;refine ga (.cons (State.low _ _) .nil) lx (kp 3 [28]) Tryz.func47 ?_;have hk0:=hs0;obtain ⟨z3,z4,z5,z6,z7,z8,z9⟩:=hs0;(first|apply u2|apply u3|apply u4|apply us);exact QE2 s.nodes szA _;(first|apply u2|apply u3|apply u4|apply us);exact Q73 s.jobs szA _;(first|apply u2|apply u3|apply u4|apply us);exact book_Check_c s.books szA _;refine ai (fun h1=>?_) (fun h2=>?_)
 ·obtain rfl:=foll hR (ct h1 rfl);exact Q10 lx sr
 ·obtain rfl:=foll hR (cf h2 rfl);exact Q10 lx sr
theorem Qhc {s:State} (h:((Qv3 s)!=0)=false):1<=s.nodes.length∧s.nodes.length<=48:=by
 have hf:QB1 s.nodes=0:=by
  simp only [Qv3] at h
  revert h
  cases h2:(QB1 s.nodes != 0) with
  | true=>simp
  | false=>intro _;simpa using h2
 simp only [QB1] at hf
 revert hf
 cases h2:((decide ((s.nodes.length:Int)<1))||(decide ((s.nodes.length:Int) > 48))) with
 | true=>simp
 | false=>intro _;simp at h2;omega
theorem busy_ne {order:List Int} {i:Nat} {c:List (Int × Int)} {k:Int} (h:order ≠ []∨(i=0∧c=[])) (hg:(((getM k c).getD 0)==0)=false):order ≠ []:=by
 rcases h with h|⟨_,rfl⟩
 ·exact h
 ·simp [getM] at hg
theorem busy_order {s:State} {order:List Int} {i:Nat} {c:List (Int × Int)} (h:((Qv3 s)!=0)=false) (ho:order ≠ []∨(i=0∧c=[])) (hi:decide ((i:Int)<(s.nodes.length:Int))=false):order ≠ []:=by
 rcases ho with ho|⟨rfl,_⟩
 ·exact ho
 ·have:=(Qhc h).1
  have:=of_decide_eq_false hi
  omega
def Qc0 (l:List Job) (id_:Int):Job × Bool:=bif (((Qh0 l)!=0)||(!(Qh3 id_))) then (Job.zero,false) else bif (!(Qm0 l id_).2) then (Job.zero,false) else (((List.drop (Int.toNat ((Qm0 l id_).1)) (List.take (Int.toNat (w64 ((Qm0 l id_).1+1))) l)).getD 0 Job.zero),true)
theorem QA3 (l:List Job) (id_:Int) (hs0:l.length<=4294967296∧(∀ y ∈ l,y.sz)):GV 18 [jobL l,I id_] (AVal.tup [Job.a ((Qc0 l id_).1),Bo ((Qc0 l id_).2)]):=by
 generalize hR:Qc0 l id_=R;refine ga (.cons lw (l1 .nil)) (Low.tup' (.cons (Job.low _ _) (l1 .nil))) (kp 8 [15,24]) Tryz.func18 ?_;obtain ⟨z5,z6⟩:=id hs0;refine us (Q73 l szA _) ?_;(first|apply u2|apply u3|apply u4|apply us);exact table_known_c id_ _;refine ai (fun h1=>?_) (fun h2=>?_)
 ·obtain rfl:=foll hR (ct h1 rfl);exact Q10 (Low.tup' (.cons (Job.low _ _) (l1 .nil))) (Seen.tup (ev (Seen.agg (e1 (e1 (e1 (e1 (e1 (ev (Q50) (e1 (e1 (e1 (e1 (ev (Q50) (e1 (e1 (e1 (e1 (e1 (e1 (e1 (e1 (e1 .nil))))))))))))))))))))) (e1 .nil)))
 ·refine us (Q3b l id_ szA _) ?_;refine ai (fun h3=>?_) (fun h4=>?_)
  ·obtain rfl:=foll hR (cf h2 (ct h3 rfl));exact Q10 (Low.tup' (.cons (Job.low _ _) (l1 .nil))) (Seen.tup (ev (Seen.agg (e1 (e1 (e1 (e1 (e1 (ev (Q50) (e1 (e1 (e1 (e1 (ev (Q50) (e1 (e1 (e1 (e1 (e1 (e1 (e1 (e1 (e1 .nil))))))))))))))))))))) (e1 .nil)))
  ·refine And.intro (by first|exact fun hg=>decide_eq_true (by first|(have hp:=Qi3 l id_ hs0.1 (by assumption);have pw:IntKind.i64.wrap ((Qm0 l id_).1+1)=(Qm0 l id_).1+1:=wr (by omega);simp only [Option.getD_some,pw,List.length_drop,List.length_take];omega)|exact ckA)|exact gkA) ?_;refine us (mv [] (Q4b (List.drop (Int.toNat ((Qm0 l id_).1)) (List.take (Int.toNat (w64 ((Qm0 l id_).1+1))) l)) szA) .nil (dv (dn_as (as_cut l (Int.toNat ((Qm0 l id_).1)) (Int.toNat (w64 ((Qm0 l id_).1+1))) leA (by first|(have hp:=Qi3 l id_ hs0.1 (by assumption);have pw:IntKind.i64.wrap ((Qm0 l id_).1+1)=(Qm0 l id_).1+1:=wr (by omega);simp only [Option.getD_some,pw,List.length_drop,List.length_take];omega)|exact ckA)) lw) .nil) (rO rr .nil) (rw_ 1 0 rfl)) ?_;refine And.intro (by first|exact fun hg=>decide_eq_true (by first|(have hp:=Qi3 l id_ hs0.1 (by assumption);have pw:IntKind.i64.wrap ((Qm0 l id_).1+1)=(Qm0 l id_).1+1:=wr (by omega);simp only [Option.getD_some,pw,List.length_drop,List.length_take];omega)|exact ckA)|exact gkA) ?_;refine ⟨_,QA0 rfl rfl rfl (QC0 Job.zero 0 (by first|rfl|exact Nat.zero_add _|omega) (by first|(have hp:=Qi3 l id_ hs0.1 (by assumption);have pw:IntKind.i64.wrap ((Qm0 l id_).1+1)=(Qm0 l id_).1+1:=wr (by omega);simp only [Option.getD_some,pw,List.length_drop,List.length_take];omega)|exact ckA)) rfl,?_⟩;obtain rfl:=foll hR (cf h2 (cf h4 rfl));exact Q10 (Low.tup' (.cons (Job.low _ _) (l1 .nil))) (Seen.tup (e1 (e1 .nil)))
theorem Qt8 {l:List Job} (h:∀ y ∈ l,y.sz) (id:Int):(Qc0 l id).1.sz:=by
 unfold Qc0
 repeat' first|exact Job.szz _|exact Qw1 (fun y hy=>h y (List.mem_of_mem_take (List.mem_of_mem_drop hy))) (Job.szz _)|(rw [Bool.cond_eq_ite];split)
def QH1 (l:List Usage) (ids:List Int):List Job->List Ranked->Nat->List (ByteArray × Int)->(List Ranked) × (List (ByteArray × Int))
 | [],r_,_,c=>(r_,c)
 | x_ :: r,r_,i,c=>bif (!(QE0 ids x_.id)) then QH1 l ids r r_ (i+1) c else bif (!(getM x_.user c).isSome) then QH1 l ids r (r_++([(⟨x_.id,x_.prio,((getM x_.user (setM x_.user (QK2 l x_.user) c)).getD 0),x_.id⟩:Ranked)]:List Ranked)) (i+1) (setM x_.user (QK2 l x_.user) c) else QH1 l ids r (r_++([(⟨x_.id,x_.prio,((getM x_.user c).getD 0),x_.id⟩:Ranked)]:List Ranked)) (i+1) c
def QM2 (r_:List Ranked):List Ranked->List Int->Nat->(List Int)
 | [],out,_=>out
 | _ :: r,out,i1=>QM2 r_ r (out++([((Ql3 r_).getD i1 Ranked.zero).what]:List Int)) (i1+1)
def Q34 (out:List Int):(List Int):=out
def QN2 (r_:List Ranked) (c:List (ByteArray × Int)):(List Int):=Q34 (QM2 r_ (Ql3 r_) [] 0)
def QB0 (jobs:List Job) (l:List Usage) (ids:List Int):(List Int):=bif ((Qh0 jobs)!=0) then [] else QN2 ((QH1 l ids jobs [] 0 []).1) ((QH1 l ids jobs [] 0 []).2)
theorem b12a0 {P:Prop} (h:P:=by first|((exact ⟨hx.1,by omega⟩))|first|((exact ⟨fun x hm=>(List.mem_append.1 hm).elim (hx.1 x) (fun h=>by rw [List.mem_singleton.1 h]),by simp;omega⟩))|first|((exact ⟨fun _ h=>absurd h List.not_mem_nil,by simp⟩))|exact exA):P:=h
theorem Qy6 (jobs:List Job) (l:List Usage) (ids:List Int) (hs0:jobs.length<=4294967296∧(∀ y ∈ jobs,y.sz)) (hs1:l.length<=4294967296∧(∀ y ∈ l,y.sz)) (hs2:ids.length<=4294967296):GV 99 [jobL jobs,Qt1 l,ints ids] (ints (QB0 jobs l ids)):=by
 generalize hR:QB0 jobs l ids=R;refine ga (.cons lw (.cons lw (.cons lw .nil))) lw (kp 14 [16,18,19,20,21,28,37]) Tryz.func99 ?_;obtain ⟨z16,z17⟩:=id hs0;obtain ⟨z18,z19⟩:=id hs1;have hk2:=hs2;obtain z20:ids.length<=4294967296:=hs2;refine us (Q73 jobs szA _) ?_;refine ai (fun h1=>?_) (fun h2=>?_)
 ·obtain rfl:=foll hR (ct h1 rfl);exact Q10 lw (Q50)
 ·refine Qr4 (fun (r_:List Ranked) (i:Nat) (c:List (ByteArray × Int))=>QN2 (QH1 l ids (List.drop i jobs) r_ i c).1 (QH1 l ids (List.drop i jobs) r_ i c).2=R∧i<=jobs.length∧(∀ x ∈ r_,x.what=x.id)∧r_.length<=i) (fun r_ i c=>jobs.length - i) (fun r_ i c=>[(1,Qt1 l),(2,ints ids),(6,AVal.lit (.slice none 0 0)),(7,AVal.own 1 0 4 0 r_.length),(8,AVal.map 0),(18,jobL jobs),(19,I (jobs.length:Int)),(20,I (i:Int))]) (fun r_ i c=>[(0,AObj.other (.map (mapEs sk I 0 c) c.length)),(0,AObj.row 232 4 (r_.map Ranked.cells))]) [] 0 [] ((Qo1 232 4).trans (wk [0,1] (tO rfl (Qb0 _ rfl rfl (fun _=>lx)) (tO rfl (tl eqA) .nil)) (sl lw (sl lw (s1 (sv (Q51 1 rfl) (sv (QK0 0 rfl rfl) (sl lw (s1 (s1 .nil)))))))))) ⟨foll hR (cf h2 rfl),by exact omA,b12a0⟩ ?_;clear hR;rintro r_ i c ⟨hR,hj,hx⟩;(try dsimp only at hR hj hx);refine ai (fun h3=>?_) (fun h4=>?_)
  ·have hlt:=ltA h3;rw [Qi0 Job.zero hlt] at hR;have hxz:(jobs.getD i Job.zero).sz:=Qw1 (by first|assumption|grind) (Job.szz _);have hkz:=hxz;obtain ⟨z5,z6,z7,z8,z9⟩:=Job.zz hxz;refine ai gkA ?_;refine us (Qn1 ids ((jobs.getD i Job.zero).id) szA _) ?_;refine ai (fun h10=>?_) (fun h11=>?_)
   ·exact Qz1 r_ (i+1) c (wk [0,1] (tO rfl (Qb0 _ rfl rfl (fun _=>lx)) (tO rfl (tl eqA) .nil)) (sl lw (sl lw (s1 (sv (to 1 lnA) (sv (QK0 0 rfl rfl) (sl lw (s1 (sv (Qa0 (I_eq (wr omA)) lx) .nil))))))))) omA ⟨foll hR (congrArg (fun p:(List Ranked) × (List (ByteArray × Int))=>QN2 p.1 p.2) (ct h10 rfl)),by exact omA,b12a0⟩
   ·(first|refine ⟨_,_,QS5 rfl _ _,QL0 (ek:=sk) ((jobs.getD i Job.zero).user) c 0 (AsA.refl _),?_⟩|refine ⟨_,fun _=>⟨_,_,QS5 rfl _ _,QL0 (ek:=sk) ((jobs.getD i Job.zero).user) c 0 (AsA.refl _),rfl,rfl⟩,?_⟩|refine ⟨_,rfl,⟨_,_,QS5 rfl _ _,QL0 (ek:=sk) ((jobs.getD i Job.zero).user) c 0 (AsA.refl _),Sub.refl _,rfl⟩,?_⟩);refine ai (fun h12=>?_) (fun h13=>?_)
    ·refine dchk (by kernel_rfl) ?_;(first|apply u2|apply u3|apply u4|apply us);exact QB9 l ((jobs.getD i Job.zero).user) szA szA _;refine ⟨_,_,⟨_,_,QS5 rfl _ _,QV5 (ek:=sk) ((jobs.getD i Job.zero).user) (QK2 l (jobs.getD i Job.zero).user) c rfl rfl,Sub.refl _,rfl⟩,?_⟩;(repeat ((first|refine ai rfl ?_|refine ai (fun _=>rfl) ?_|refine ai (fun _=>QB9 l ((jobs.getD i Job.zero).user) szA szA _) ?_)));(first|refine ⟨_,_,QS5 rfl _ _,QL0 (ek:=sk) ((jobs.getD i Job.zero).user) (setM (jobs.getD i Job.zero).user (QK2 l (jobs.getD i Job.zero).user) c) 0 (AsA.refl _),?_⟩|refine ⟨_,fun _=>⟨_,_,QS5 rfl _ _,QL0 (ek:=sk) ((jobs.getD i Job.zero).user) (setM (jobs.getD i Job.zero).user (QK2 l (jobs.getD i Job.zero).user) c) 0 (AsA.refl _),rfl,rfl⟩,?_⟩|refine ⟨_,rfl,⟨_,_,QS5 rfl _ _,QL0 (ek:=sk) ((jobs.getD i Job.zero).user) (setM (jobs.getD i Job.zero).user (QK2 l (jobs.getD i Job.zero).user) c) 0 (AsA.refl _),Sub.refl _,rfl⟩,?_⟩);refine Or.inl ?_;(first|refine ⟨Qp1 32 rfl lnA apA,?_⟩|refine ⟨QN0 32 rfl apA,?_⟩);exact Qz1 (r_++([(⟨(jobs.getD i Job.zero).id,(jobs.getD i Job.zero).prio,((getM (jobs.getD i Job.zero).user (setM (jobs.getD i Job.zero).user (QK2 l (jobs.getD i Job.zero).user) c)).getD 0),(jobs.getD i Job.zero).id⟩:Ranked)]:List Ranked)) (i+1) (setM (jobs.getD i Job.zero).user (QK2 l (jobs.getD i Job.zero).user) c) (wk [0,1] (tO rfl (Qb0 _ rfl rfl (fun _=>lx)) (tO rfl (tl eqA) .nil)) (sl lw (sl lw (s1 (sv (to 1 lnA) (sv (QK0 0 rfl rfl) (sl lw (s1 (sv (Qa0 (I_eq (wr omA)) lx) .nil))))))))) omA ⟨foll hR (congrArg (fun p:(List Ranked) × (List (ByteArray × Int))=>QN2 p.1 p.2) (cf h11 (ct h12 rfl))),by exact omA,b12a0⟩
    ·(first|refine ⟨_,_,QS5 rfl _ _,QL0 (ek:=sk) ((jobs.getD i Job.zero).user) c 0 (AsA.refl _),?_⟩|refine ⟨_,fun _=>⟨_,_,QS5 rfl _ _,QL0 (ek:=sk) ((jobs.getD i Job.zero).user) c 0 (AsA.refl _),rfl,rfl⟩,?_⟩|refine ⟨_,rfl,⟨_,_,QS5 rfl _ _,QL0 (ek:=sk) ((jobs.getD i Job.zero).user) c 0 (AsA.refl _),Sub.refl _,rfl⟩,?_⟩);refine Or.inl ?_;(first|refine ⟨Qp1 32 rfl lnA apA,?_⟩|refine ⟨QN0 32 rfl apA,?_⟩);exact Qz1 (r_++([(⟨(jobs.getD i Job.zero).id,(jobs.getD i Job.zero).prio,((getM (jobs.getD i Job.zero).user c).getD 0),(jobs.getD i Job.zero).id⟩:Ranked)]:List Ranked)) (i+1) c (wk [0,1] (tO rfl (Qb0 _ rfl rfl (fun _=>lx)) (tO rfl (tl eqA) .nil)) (sl lw (sl lw (s1 (sv (to 1 lnA) (sv (QK0 0 rfl rfl) (sl lw (s1 (sv (Qa0 (I_eq (wr omA)) lx) .nil))))))))) omA ⟨foll hR (congrArg (fun p:(List Ranked) × (List (ByteArray × Int))=>QN2 p.1 p.2) (cf h11 (cf h13 rfl))),by exact omA,b12a0⟩
  ·rw [Ql0 (l:=jobs) (j:=i) (geA h4)] at hR;replace hR:QN2 r_ c=R:=fo2 (fun p:(List Ranked) × (List (ByteArray × Int))=>QN2 p.1 p.2) (r_,c) hR rfl;refine ACalls.of_cwp (fun _=>true) Tryz.func173 rfl rfl ?_;refine us (mv [1] (Qwb r_ szA (by exact hx.1)) (dO (dr eqA) .nil) (dv (Qn4 rfl lnA) (dv (QK3 (Low.fn _ _ _ LowL.nil LowL.nil)) .nil)) (rO rr .nil) rx) ?_;have hrl:=QZb r_;rw [← hrl];refine Qq0 (fun (out:List Int) (i1:Nat)=>Q34 (QM2 r_ (List.drop i1 (Ql3 r_)) out i1)=R∧i1<=(Ql3 r_).length∧out.length<=i1) (fun out i1=>(Ql3 r_).length - i1) (fun out i1=>[(2,AVal.lit (.slice none 0 0)),(3,AVal.own 2 0 1 0 out.length),(8,AVal.own 1 0 4 0 ((Ql3 r_).length)),(9,I ((Ql3 r_).length:Int)),(10,I (i1:Int))]) (fun out i1=>[(0,AObj.other (.map (mapEs sk I 0 c) c.length)),(0,AObj.row 232 4 ((Ql3 r_).map Ranked.cells)),(0,AObj.row 3 1 (out.map (fun q_=>[I q_])))]) [] 0 ((Qo1 3 1).trans (wk [0,1,2] (tO rfl (Qb0 _ rfl rfl (fun _=>lx)) (tO rfl (tl eqA) (tO rfl (tl eqA) .nil))) (s1 (sv (Q51 2 rfl) (sv (to 1 lnA) (s1 (s1 .nil))))))) ⟨foll hR rfl,by exact omA,b12a0⟩ ?_;clear hR;rintro out i1 ⟨hR,hj,hx⟩;(try dsimp only at hR hj hx);refine ai (fun h14=>?_) (fun h15=>?_)
   ·have hlt:=ltA h14;rw [Qi0 Ranked.zero hlt] at hR;refine ai gkA ?_;refine ⟨_,QA0 rfl rfl rfl (QC0 Ranked.zero i1 (by first|rfl|exact Nat.zero_add _|omega) ckA) rfl,?_⟩;refine Or.inl ?_;(first|refine ⟨Qp1 8 rfl lnA apA,?_⟩|refine ⟨QN0 8 rfl apA,?_⟩);exact Qd0 (out++([((Ql3 r_).getD i1 Ranked.zero).what]:List Int)) (i1+1) (wk [0,1,2] (tO rfl (Qb0 _ rfl rfl (fun _=>lx)) (tO rfl (tl eqA) (tO rfl (tl eqA) .nil))) (s1 (sv (to 2 lnA) (sv (to 1 lnA) (s1 (sv (Qa0 (I_eq (wr omA)) lx) .nil)))))) omA ⟨foll hR (congrArg (fun p:(List Int)=>Q34 p) rfl),by exact omA,b12a0⟩
   ·rw [Ql0 (l:=(Ql3 r_)) (j:=i1) (geA h15)] at hR;replace hR:Q34 out=R:=fo2 (fun p:(List Int)=>Q34 p) (out) hR rfl;refine ⟨_,_,Told.refl,?_⟩;obtain rfl:=foll hR rfl;exact Q10 lw (Qn0 0 _ rfl eqA lnA)
theorem Qd7 (l:List Usage) (ids:List Int):∀ (r:List Job) (o:List Ranked) (i:Nat) (c:List (ByteArray × Int)),(QH1 l ids r o i c).1.length<=o.length+r.length
 | [],o,i,c=>by simp [QH1]
 | x :: r,o,i,c=>by
  have h1:=fun o' c'=>Qd7 l ids r o' (i+1) c'
  rw [QH1]
  repeat' first|exact Nat.le_trans (h1 _ _) (by simp only [List.length_cons,List.length_append,List.length_nil];omega)|(rw [Bool.cond_eq_ite];split)
theorem Qe7 (R:List Ranked):∀ (r:List Ranked) (out:List Int) (i:Nat),(QM2 R r out i).length=out.length+r.length
 | [],out,i=>by simp [QM2]
 | x :: r,out,i=>by rw [QM2,Qe7 R r];simp;omega
theorem Qu5 (jobs:List Job) (l:List Usage) (ids:List Int):(QB0 jobs l ids).length<=jobs.length:=by
 unfold QB0 QN2 Q34
 cases ((Qh0 jobs)!=0) with
 | true=>simp
 | false =>
  have h:=Qd7 l ids jobs [] 0 []
  simp only [cond_false]
  rw [Qe7,QZb]
  simpa using h
def QS4 :List Job->Nat->List (Int × Int)->(List (Int × Int))
 | [],_,c=>c
 | x_1 :: r,i1,c=>QS4 r (i1+1) (setM x_1.id x_1.state c)
def Qy2 (c:List (Int × Int)):List Job->List Int->Nat->(List Int)
 | [],out,_=>out
 | x_2 :: r,out,i2=>bif (((false||(x_2.state != 1))||x_2.held)||(!(QL6 c x_2))) then Qy2 c r out (i2+1) else Qy2 c r (out++([x_2.id]:List Int)) (i2+1)
def QV2 (out:List Int):(List Int):=out
def QJ3 (l:List Job) (c:List (Int × Int)):(List Int):=QV2 (Qy2 c l [] 0)
def Qf0 (l:List Job):(List Int):=bif ((Qh0 l)!=0) then [] else QJ3 l (QS4 l 0 [])
theorem Qi5 (l:List Job) (hs0:l.length<=4294967296∧(∀ y ∈ l,y.sz)):GV 100 [jobL l] (ints (Qf0 l)):=by
 generalize hR:Qf0 l=R;refine ga (.cons lw .nil) lw (kp 7 [9,10,11,12,31]) Tryz.func100 ?_;obtain ⟨z26,z27⟩:=id hs0;refine ACalls.of_cwp (fun _=>true) Tryz.func60 rfl rfl ?_;refine us (Q73 l szA _) ?_;refine ai (fun h1=>?_) (fun h2=>?_)
 ·refine ⟨_,_,Told.refl,?_⟩;refine Qs0 (fun (i:Nat)=>True∧i<=l.length) (fun i=>l.length - i) (fun i=>[(2,AVal.lit (.slice none 0 0)),(3,AVal.lit (.map none)),(4,AVal.lit (.slice none 0 0)),(9,jobL l),(10,I (l.length:Int)),(11,I (i:Int))]) (fun i=>[]) 0 (wk [] .nil (s1 (s1 (s1 (sl lw (s1 (s1 .nil))))))) ⟨trivial,by exact omA⟩ ?_;have hR0:=hR;rintro i ⟨hR,hj⟩;(try dsimp only at hR hj);refine ai (fun h3=>?_) (fun h4=>?_)
  ·have hlt:=ltA h3;have hxz:(l.getD i Job.zero).sz:=Qw1 (by first|assumption|grind) (Job.szz _);have hkz:=hxz;obtain ⟨z5,z6,z7,z8,z9⟩:=Job.zz hxz;refine ai gkA ?_;(first|refine ⟨Bo false,_,fun h=>absurd h (by decide),fun _=>rfl,?_⟩|refine ⟨Bo false,fun h=>absurd h (by decide),?_⟩|refine ⟨Bo false,_,fun h=>absurd h (by simp),fun _=>rfl,?_⟩|refine ⟨Bo false,fun h=>absurd h (by simp),?_⟩);refine ai (fun _=>?_) (fun h=>nomatch h);exact Qz0 (i+1) (wk [] .nil (s1 (s1 (s1 (sl lw (s1 (sv (Qa0 (I_eq (wr omA)) lx) .nil))))))) omA ⟨hR,by exact omA⟩
  ·skip;have hR:=hR0;obtain rfl:=foll hR (ct h1 rfl);exact Q10 lw (Q50)
 ·refine Qq0 (fun (i1:Nat) (c:List (Int × Int))=>QJ3 l (QS4 (List.drop i1 l) i1 c)=R∧i1<=l.length) (fun i1 c=>l.length - i1) (fun i1 c=>[(2,AVal.lit (.map none)),(3,AVal.map 0),(10,jobL l),(11,I (l.length:Int)),(12,I (i1:Int))]) (fun i1 c=>[(0,AObj.other (.map (mapEs ik I 0 c) c.length))]) 0 [] (wk [0] (tO rfl (Qb0 _ rfl rfl (fun _=>lx)) .nil) (s1 (sv (QK0 0 rfl rfl) (sl lw (s1 (s1 .nil)))))) ⟨foll hR (cf h2 rfl),by exact omA⟩ ?_;clear hR;rintro i1 c ⟨hR,hj⟩;(try dsimp only at hR hj);refine ai (fun h10=>?_) (fun h11=>?_)
  ·have hlt:=ltA h10;rw [Qi0 Job.zero hlt] at hR;have hxz:(l.getD i1 Job.zero).sz:=Qw1 (by first|assumption|grind) (Job.szz _);have hkz:=hxz;obtain ⟨z12,z13,z14,z15,z16⟩:=Job.zz hxz;refine ai gkA ?_;refine ⟨_,_,Q61 rfl _ _,QV5 (ek:=ik) ((l.getD i1 Job.zero).id) ((l.getD i1 Job.zero).state) c rfl rfl,?_⟩;exact Qd0 (i1+1) (setM (l.getD i1 Job.zero).id (l.getD i1 Job.zero).state c) (wk [0] (tO rfl (Qb0 _ rfl rfl (fun _=>lx)) .nil) (s1 (sv (QK0 0 rfl rfl) (sl lw (s1 (sv (Qa0 (I_eq (wr omA)) lx) .nil)))))) omA ⟨foll hR (congrArg (fun p:(List (Int × Int))=>QJ3 l p) rfl),by exact omA⟩
  ·rw [Ql0 (l:=l) (j:=i1) (geA h11)] at hR;replace hR:QJ3 l c=R:=fo2 (fun p:(List (Int × Int))=>QJ3 l p) (c) hR rfl;refine ⟨_,_,Told.refl,?_⟩;refine Qq0 (fun (out:List Int) (i2:Nat)=>QV2 (Qy2 c (List.drop i2 l) out i2)=R∧i2<=l.length∧out.length<=i2) (fun out i2=>l.length - i2) (fun out i2=>[(2,AVal.lit (.slice none 0 0)),(3,AVal.map 0),(4,AVal.own 1 0 1 0 out.length),(9,jobL l),(10,I (l.length:Int)),(11,I (i2:Int))]) (fun out i2=>[(0,AObj.other (.map (mapEs ik I 0 c) c.length)),(0,AObj.row 3 1 (out.map (fun q_=>[I q_])))]) [] 0 ((Qo1 3 1).trans (wk [0,1] (tO rfl (Qb0 _ rfl rfl (fun _=>lx)) (tO rfl (tl eqA) .nil)) (s1 (sv (QK0 0 rfl rfl) (sv (Q51 1 rfl) (sl lw (s1 (s1 .nil)))))))) ⟨foll hR rfl,by exact omA,by exact exA⟩ ?_;clear hR;rintro out i2 ⟨hR,hj,hx⟩;(try dsimp only at hR hj hx);refine ai (fun h17=>?_) (fun h18=>?_)
   ·have hlt:=ltA h17;rw [Qi0 Job.zero hlt] at hR;have hxz:(l.getD i2 Job.zero).sz:=Qw1 (by first|assumption|grind) (Job.szz _);have hkz:=hxz;obtain ⟨z19,z20,z21,z22,z23⟩:=Job.zz hxz;refine ai gkA ?_;(first|apply u2|apply u3|apply u4|apply us);exact mv [0] (Qib c (l.getD i2 Job.zero) szA) (dO (.same _ (QR2 fun _=>lx)) .nil) (dv (Qx9 (Ren.map _ _ rfl)) (dv (QK3 (Low.agg' (Job.lo))) .nil)) (rO (RenO.same _ (QR2 fun _=>lx)) .nil) rx;refine ai (fun h24=>?_) (fun h25=>?_)
    ·exact Qd0 out (i2+1) (wk [0,1] (tO rfl (Qb0 _ rfl rfl (fun _=>lx)) (tO rfl (tl eqA) .nil)) (s1 (sv (QK0 0 rfl rfl) (sv (to 1 lnA) (sl lw (s1 (sv (Qa0 (I_eq (wr omA)) lx) .nil))))))) omA ⟨foll hR (congrArg (fun p:(List Int)=>QV2 p) (ct h24 rfl)),by exact omA,by exact exA⟩
    ·refine Or.inl ?_;(first|refine ⟨Qp1 8 rfl lnA apA,?_⟩|refine ⟨QN0 8 rfl apA,?_⟩);exact Qd0 (out++([(l.getD i2 Job.zero).id]:List Int)) (i2+1) (wk [0,1] (tO rfl (Qb0 _ rfl rfl (fun _=>lx)) (tO rfl (tl eqA) .nil)) (s1 (sv (QK0 0 rfl rfl) (sv (to 1 lnA) (sl lw (s1 (sv (Qa0 (I_eq (wr omA)) lx) .nil))))))) omA ⟨foll hR (congrArg (fun p:(List Int)=>QV2 p) (cf h25 rfl)),by exact omA,by exact exA⟩
   ·rw [Ql0 (l:=l) (j:=i2) (geA h18)] at hR;replace hR:QV2 out=R:=fo2 (fun p:(List Int)=>QV2 p) (out) hR rfl;obtain rfl:=foll hR rfl;exact Q10 lw (Qn0 0 _ rfl eqA lnA)
theorem QI4 (c:List (Int × Int)):∀ (r:List Job) (out:List Int) (i:Nat),(Qy2 c r out i).length<=out.length+r.length
 | [],out,i=>by simp [Qy2]
 | x :: r,out,i=>by
  have h1:=QI4 c r out (i+1)
  have h2:=QI4 c r (out++([x.id]:List Int)) (i+1)
  rw [Qy2,Bool.cond_eq_ite]
  simp only [List.length_append,List.length_cons,List.length_nil] at *
  split <;> omega
theorem QF7 (l:List Job):(Qf0 l).length<=l.length:=by
 unfold Qf0
 cases ((Qh0 l)!=0) with
 | true=>simp
 | false=>have h:=QI4 (QS4 l 0 []) l [] 0;rw [List.length_nil,Nat.zero_add] at h;exact h
def Qn7 (out:List Job):(List Job) × Int:=(out,0)
def Q92 (l:List Job) (j:Job):(List Job) × Int:=bif ((Qh0 l)!=0) then ([],(Qh0 l)) else bif ((Qk0 j)!=0) then ([],(Qk0 j)) else bif (!(Qm0 l j.id).2) then ([],140) else Qn7 (l.set (Int.toNat ((Qm0 l j.id).1)) j)
theorem b12a1 {P:Prop} (h:P:=by first|((exact hx))|first|((exact hy))|first|((assumption))|exact szA):P:=h
theorem QZ6 (l:List Job) (j:Job) (hs0:l.length<=4294967296∧(∀ y ∈ l,y.sz)) (hs1:j.sz):GV 77 [jobL l,Job.a j] (AVal.tup [jobL ((Q92 l j).1),I ((Q92 l j).2)]):=by
 generalize hR:Q92 l j=R;refine ga (.cons lw (.cons (Job.low _ _) .nil)) (Low.tup' (.cons lw (l1 .nil))) (kj [1000012] 11 [14,19,29]) Tryz.func77 ?_;obtain ⟨z7,z8⟩:=id hs0;obtain ⟨z9,z10,z11,z12,z13⟩:=Job.zz hs1;refine us (Q73 l b12a1 _) ?_;refine ai (fun h1=>?_) (fun h2=>?_)
 ·obtain rfl:=foll hR (ct h1 rfl);exact Q10 (Low.tup' (.cons lw (l1 .nil))) (Seen.tup (ev (Q50) (e1 .nil)))
 ·refine us (Qp4 j b12a1 _) ?_;refine ai (fun h3=>?_) (fun h4=>?_)
  ·obtain rfl:=foll hR (cf h2 (ct h3 rfl));exact Q10 (Low.tup' (.cons lw (l1 .nil))) (Seen.tup (ev (Q50) (e1 .nil)))
  ·refine us (Q3b l j.id b12a1 _) ?_;refine ai (fun h5=>?_) (fun h6=>?_)
   ·obtain rfl:=foll hR (cf h2 (cf h4 (ct h5 rfl)));exact Q10 (Low.tup' (.cons lw (l1 .nil))) (Seen.tup (ev (Q50) (e1 .nil)))
   ·refine us (mv [] (Qo7 l b12a1) .nil (dl lw .nil) (rO rr .nil) (rw_ 1 0 rfl)) ?_;refine Qx1 (fun (out:List Job)=>Qn7 out=R∧(out.length<=4294967296∧(∀ y ∈ out,y.sz))) (fun out=>[(4,AVal.lit (.slice none 0 0)),(5,I 0),(10,jobL out)]) (fun out=>[]) ?_ ?_
    ·clear hR;rintro out ⟨hR,hx⟩;(try dsimp only at hR hx);refine us (mv [] (Q4b out b12a1) .nil (dl lw .nil) (rO rr .nil) (rw_ 0 0 rfl)) ?_;obtain rfl:=foll hR rfl;exact Q10 (Low.tup' (.cons lw (l1 .nil))) (Seen.tup (ev (Qn0 Job.zero _ rfl eqA lnA) (e1 .nil)))
    ·refine And.intro (by first|exact fun hg=>decide_eq_true (by first|((have hq:=Qi3 l j.id z7 (by assumption);omega))|exact ckA)|exact gkA) ?_;refine ⟨_,Q01 rfl rfl rfl rfl (QC0 Job.zero (Int.toNat ((Qm0 l j.id).1)) (by first|rfl|exact Nat.zero_add _|omega) (by first|((have hq:=Qi3 l j.id z7 (by assumption);omega))|exact ckA)) rfl rfl (Qp8 (Int.toNat ((Qm0 l j.id).1)) j (by first|rfl|exact Nat.zero_add _|omega) rfl),?_⟩;exact Qo0 (l.set (Int.toNat ((Qm0 l j.id).1)) j) (wk [] .nil (s1 (s1 (sv (Qx3 _ _ rfl (Nat.zero_le _) (by decide) eqA (fun _=>Job.lowc _ _) lnA) .nil)))) (⟨foll hR (cf h2 (cf h4 (cf h6 rfl))),by first|((exact ⟨by rw [List.length_set];exact z7,fun y hy=>(List.mem_or_eq_of_mem_set hy).elim (z8 y) (fun e=>e ▸ hs1)⟩))|exact exA⟩)
theorem Qz4 {l:List Job} {j:Job} (h:l.length<=4294967296 ∧ ∀ y ∈ l,y.sz) (hj:j.sz):(Q92 l j).1.length<=4294967296 ∧ ∀ y ∈ (Q92 l j).1,y.sz:=by
 unfold Q92 Qn7
 repeat' first|exact ⟨Nat.zero_le _,fun y hy=>nomatch hy⟩|exact ⟨by rw [List.length_set];exact h.1,fun y hy=>(List.mem_or_eq_of_mem_set hy).elim (h.2 y) (fun e=>e ▸ hj)⟩|(rw [Bool.cond_eq_ite];split)
def QM3 (j:Job) (jobs:List Job) (ids:List Int) (pr:Job × Int) (c:List Step):List Job->Nat->List Step × List Job × List Int
 | [],_=>(c,jobs,ids)
 | _ :: r,i=>bif ((jobs.getD i Job.zero).id==j.id) then (c,(jobs.set i pr.1),(ids++([j.id]:List Int))) else QM3 j jobs ids pr c r (i+1)
def Qc2 (j:Job) (jobs:List Job) (ids:List Int) (pr:Job × Int) (c:List Step):List Step × List Job × List Int:=QM3 j jobs ids pr c jobs 0
def Ql2 (j:Job) (choice:Int) (at_:Int) (left:List Step) (jobs:List Job) (ids:List Int):List Step × List Job × List Int:=(fun pr:Job × Int=>bif (pr.2 != 0) then (left,jobs,ids) else (fun cl:Int × Int × Int × Bool=>(fun tk:(List Step) × Int=>bif (tk.2==0) then Qc2 j jobs ids pr tk.1 else Qc2 j jobs ids pr left) (Qm5 left cl.1 cl.2.1 cl.2.2.1)) (QT0 pr.1)) (Q21 j at_ choice)
theorem fresh_next {j:Job} {jobs:List Job} {i:Nat} (hlt:i<jobs.length) (h:((jobs.getD i Job.zero).id==j.id)=false) (hI:∃ x ∈ List.drop i jobs,x.id=j.id):∃ x ∈ List.drop (i+1) jobs,x.id=j.id:=by
 obtain ⟨x,hx,e⟩:=hI
 rw [Qi0 Job.zero hlt] at hx
 rcases List.mem_cons.1 hx with h2|h2
 ·rw [← h2,e,beq_self_eq_true] at h
  cases h
 ·exact ⟨x,h2,e⟩
theorem Qvd (j:Job) (choice:Int) (at_:Int) (left:List Step) (jobs:List Job) (ids:List Int) (hs0:j.sz) (hs1:left.length<=4294967296) (hs2:jobs.length<=4294967296∧(∀ y ∈ jobs,y.sz)) (hs3:ids.length<=4294967296) (hp0:∃ x ∈ jobs,x.id=j.id):AMoves Tryz.prog 135 [Job.a j,I choice,I at_,AVal.ptr 0 0 1 0 0,AVal.ptr 1 0 1 0 0,AVal.ptr 2 0 1 0 0] [(0,AObj.row 92 1 [[stepL left]]),(0,AObj.row 23 1 [[AVal.own 3 0 20 0 jobs.length]]),(0,AObj.row 35 1 [[AVal.own 4 0 1 0 ids.length]]),(0,AObj.row 52 20 (jobs.map Job.cells)),(0,AObj.row 3 1 (ids.map (fun q_=>[I q_])))] 3 (AVal.tup []) [(0,AObj.row 92 1 [[stepL ((Ql2 j choice at_ left jobs ids).1)]]),(0,AObj.row 23 1 [[AVal.own 3 0 20 0 ((Ql2 j choice at_ left jobs ids).2.1).length]]),(0,AObj.row 35 1 [[AVal.own 4 0 1 0 ((Ql2 j choice at_ left jobs ids).2.2).length]]),(0,AObj.row 52 20 ((Ql2 j choice at_ left jobs ids).2.1.map Job.cells)),(0,AObj.row 3 1 ((Ql2 j choice at_ left jobs ids).2.2.map (fun q_=>[I q_])))]:=by
 generalize hR:Ql2 j choice at_ left jobs ids=R;refine mo (kj [1000007] 18 [26,43]) Tryz.func135 ?_;obtain ⟨z14,z15,z16,z17,z18⟩:=Job.zz hs0;have hk1:=hs1;obtain z19:left.length<=4294967296:=hs1;obtain ⟨z20,z21⟩:=id hs2;have hk3:=hs3;obtain z22:ids.length<=4294967296:=hs3;refine us (Qya j at_ choice szA _) ?_;generalize hvpr:Q21 j at_ choice=pr;(have hpr:pr.1.sz:=by rw [← hvpr];exact QR5 _ _ hs0);refine ai (fun h1=>?_) (fun h2=>?_)
 ·obtain rfl:=foll hR ((by subst hvpr;exact ct h1 rfl));exact rq (tt [0,1,2,3,4] (tO rfl (ts (lv lw LowL.nil)) (tO rfl (Q90 (cv (to 3 lnA) .nil)) (tO rfl (Q90 (cv (to 4 lnA) .nil)) (tO rfl (tl eqA) (tO rfl (tl eqA) .nil))))) t1)
 ·refine us (Qb7 pr.1 szA _) ?_;generalize hvcl:QT0 pr.1=cl;refine Qx1 (fun (c:List Step)=>Qc2 j jobs ids pr c=R) (fun c=>[(4,AVal.ptr 1 0 1 0 0),(5,AVal.ptr 2 0 1 0 0),(6,AVal.ptr 5 0 20 0 0),(9,AVal.ptr 6 0 20 0 0)]) (fun c=>[(0,AObj.row 92 1 [[stepL c]]),(0,AObj.row 23 1 [[AVal.own 3 0 20 0 jobs.length]]),(0,AObj.row 35 1 [[AVal.own 4 0 1 0 ids.length]]),(0,AObj.row 52 20 (jobs.map Job.cells)),(0,AObj.row 3 1 (ids.map (fun q_=>[I q_]))),(0,AObj.row 52 20 [[I j.id,Sg j.name,Sg j.user,Sg j.account,I j.shape.kind,altL j.shape.alts,I j.shape.min,I j.shape.max,I j.shape.wall,I j.prio,depL j.after,I j.state,Bo j.held,I j.born,I j.promise,I j.choice,I j.start,I j.limit,U j.nodes,I j.used]]),(0,AObj.row 52 20 [[I pr.1.id,Sg pr.1.name,Sg pr.1.user,Sg pr.1.account,I pr.1.shape.kind,altL pr.1.shape.alts,I pr.1.shape.min,I pr.1.shape.max,I pr.1.shape.wall,I pr.1.prio,depL pr.1.after,I pr.1.state,Bo pr.1.held,I pr.1.born,I pr.1.promise,I pr.1.choice,I pr.1.start,I pr.1.limit,U pr.1.nodes,I pr.1.used]])]) ?_ ?_
  ·clear hR;rintro c hR;(try dsimp only at hR);refine ACalls.of_cwp (fun _=>true) Tryz.func92 rfl rfl ?_;refine Qs0 (fun (i:Nat)=>QM3 j jobs ids pr c (List.drop i jobs) i=R∧i<=jobs.length ∧ ∃ x ∈ List.drop i jobs,x.id=j.id) (fun i=>jobs.length - i) (fun i=>[(0,AVal.own 3 0 20 0 jobs.length),(1,AVal.fn (.func 136) [] [AVal.ptr 5 0 20 0 0]),(4,I 0),(7,I (jobs.length:Int)),(8,I (i:Int))]) (fun i=>[(0,AObj.row 92 1 [[stepL c]]),(0,AObj.row 23 1 [[AVal.own 3 0 20 0 jobs.length]]),(0,AObj.row 35 1 [[AVal.own 4 0 1 0 ids.length]]),(0,AObj.row 52 20 (jobs.map Job.cells)),(0,AObj.row 3 1 (ids.map (fun q_=>[I q_]))),(0,AObj.row 52 20 [[I j.id,Sg j.name,Sg j.user,Sg j.account,I j.shape.kind,altL j.shape.alts,I j.shape.min,I j.shape.max,I j.shape.wall,I j.prio,depL j.after,I j.state,Bo j.held,I j.born,I j.promise,I j.choice,I j.start,I j.limit,U j.nodes,I j.used]]),(0,AObj.row 52 20 [[I pr.1.id,Sg pr.1.name,Sg pr.1.user,Sg pr.1.account,I pr.1.shape.kind,altL pr.1.shape.alts,I pr.1.shape.min,I pr.1.shape.max,I pr.1.shape.wall,I pr.1.prio,depL pr.1.after,I pr.1.state,Bo pr.1.held,I pr.1.born,I pr.1.promise,I pr.1.choice,I pr.1.start,I pr.1.limit,U pr.1.nodes,I pr.1.used]])]) 0 (wk [0,1,2,3,4,5,6] (tO rfl (ts (lv lw LowL.nil)) (tO rfl (Q90 (cv (to 3 lnA) .nil)) (tO rfl (Q90 (cv (to 4 lnA) .nil)) (tO rfl (tl eqA) (tO rfl (tl eqA) (tO rfl (ts Job.lo) (tO rfl (ts Job.lo) .nil))))))) (sv (to 3 lnA) (sv (Qu0 .nil (cv (Q00 5 rfl rfl) .nil)) (s1 (s1 (s1 .nil)))))) ⟨foll hR rfl,by exact omA,hp0⟩ ?_;clear hR;rintro i ⟨hR,hj,hI⟩;(try dsimp only at hR hj);refine ai (fun h3=>?_) (fun h4=>?_)
   ·have hlt:=ltA h3;rw [Qi0 Job.zero hlt] at hR;have hxz:(jobs.getD i Job.zero).sz:=Qw1 (by first|assumption|grind) (Job.szz _);have hkz:=hxz;obtain ⟨z5,z6,z7,z8,z9⟩:=Job.zz hxz;refine ai gkA ?_;refine ⟨_,QA0 rfl rfl rfl (QC0 Job.zero i (by first|rfl|exact Nat.zero_add _|omega) ckA) rfl,?_⟩;refine ACalls.of_cwp (fun _=>true) Tryz.func136 rfl rfl ?_;refine ⟨_,_,Told.refl,?_⟩;refine ai (fun h10=>?_) (fun h11=>?_)
    ·refine ⟨_,_,Told.refl,?_⟩;refine ai gkA ?_;refine ⟨_,Q01 rfl rfl rfl rfl (QC0 Job.zero i (by first|rfl|exact Nat.zero_add _|omega) ckA) rfl rfl (Qp8 i pr.1 (by first|rfl|exact Nat.zero_add _|omega) rfl),?_⟩;refine Or.inl ?_;(first|refine ⟨Qp1 8 rfl lnA apA,?_⟩|refine ⟨QN0 8 rfl apA,?_⟩);obtain rfl:=foll hR (ct h10 rfl);exact rq (tt [0,1,2,3,4] (tO rfl (ts (lv lw LowL.nil)) (tO rfl (Q90 (cv (to 3 lnA) .nil)) (tO rfl (Q90 (cv (to 4 lnA) .nil)) (tO rfl (tl eqA) (tO rfl (tl eqA) .nil))))) t1)
    ·exact Qz0 (i+1) (wk [0,1,2,3,4,5,6] (tO rfl (ts (lv lw LowL.nil)) (tO rfl (Q90 (cv (to 3 lnA) .nil)) (tO rfl (Q90 (cv (to 4 lnA) .nil)) (tO rfl (tl eqA) (tO rfl (tl eqA) (tO rfl (ts Job.lo) (tO rfl (ts Job.lo) .nil))))))) (sv (to 3 lnA) (sv (Qu0 .nil (cv (Q00 5 rfl rfl) .nil)) (s1 (s1 (sv (Qa0 (I_eq (wr omA)) lx) .nil)))))) omA ⟨foll hR (cf h11 rfl),by exact omA,fresh_next hlt h11 hI⟩
   ·obtain ⟨x,hx,_⟩:=hI;rw [List.drop_eq_nil_of_le (by have:=of_decide_eq_false h4;omega)] at hx;exact absurd hx List.not_mem_nil
  ·refine us (fit_Take_c left cl.1 cl.2.1 cl.2.2.1 szA _) ?_;generalize hvtk:Qm5 left cl.1 cl.2.1 cl.2.2.1=tk;refine ai (fun h12=>?_) (fun h13=>?_)
   ·exact Qo0 tk.1 (wk [0,1,2,3,4,5,6] (tO rfl (ts (lv lw LowL.nil)) (tO rfl (Q90 (cv (to 3 lnA) .nil)) (tO rfl (Q90 (cv (to 4 lnA) .nil)) (tO rfl (tl eqA) (tO rfl (tl eqA) (tO rfl (ts Job.lo) (tO rfl (ts Job.lo) .nil))))))) (sv (Q00 1 rfl rfl) (sv (Q00 2 rfl rfl) (sv (Q00 5 rfl rfl) (sv (Q00 6 rfl rfl) .nil))))) (foll hR ((by subst hvpr;exact cf h2 (by subst hvcl;exact (by subst hvtk;exact ct h12 rfl)))))
   ·exact Qo0 left (wk [0,1,2,3,4,5,6] (tO rfl (ts (lv lw LowL.nil)) (tO rfl (Q90 (cv (to 3 lnA) .nil)) (tO rfl (Q90 (cv (to 4 lnA) .nil)) (tO rfl (tl eqA) (tO rfl (tl eqA) (tO rfl (ts Job.lo) (tO rfl (ts Job.lo) .nil))))))) (sv (Q00 1 rfl rfl) (sv (Q00 2 rfl rfl) (sv (Q00 5 rfl rfl) (sv (Q00 6 rfl rfl) .nil))))) (foll hR ((by subst hvpr;exact cf h2 (by subst hvcl;exact (by subst hvtk;exact cf h13 rfl)))))
end Go.Proofs.YtldebhdmhpopaaaGreatDoor
