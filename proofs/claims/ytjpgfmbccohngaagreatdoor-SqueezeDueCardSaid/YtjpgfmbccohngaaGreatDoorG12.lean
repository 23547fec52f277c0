/-
  Contracts of functions, printed by a program of this repo (wip/dec). No condition beyond those that stand in each.
-/
import Derived.Test.YtjpgfmbccohngaaGreatDoorG11
import Derived.Test.YtjpgfmbccohngaaGreatDoorProg
import Derived.Test.YtjpgfmbccohngaaGreatDoorG8
namespace Go.Proofs.YtjpgfmbccohngaaGreatDoor
set_option linter.unusedSimpArgs false
set_option linter.unusedVariables false
open Go.Fw
set_option maxRecDepth 20000
set_option maxHeartbeats 4000000
attribute [local irreducible] ACalls AMoves
def Ql0 (y:Int):List Int->Nat->Bool
 | [],_=>false
 | x_1 :: r,i=>bif ((Ql1 y)==x_1) then true else Ql0 y r (i+1)
def QN5 (line:ByteArray):List (Nat × Int)->LexReader->LexReader
 | [],c=>c
 | x_ :: r,c=>QN5 line r { c with line:=(c.line++([x_.2]:List Int)) }
def Q92 :Nat->List Token->LexReader->(List Token) × Int × Int
 | 0,_,_=>([],0,0)
 | m+1,out,c2=>bif (c2.error==0) then bif ((Q40 c2 (fun (y:Int)=>Ql0 y ([1]:List Int) 0)).2.at_==(((Q40 c2 (fun (y:Int)=>Ql0 y ([1]:List Int) 0)).2.line).length:Int)) then (out,(((Q40 c2 (fun (y:Int)=>Ql0 y ([1]:List Int) 0)).2.line).length:Int),0) else Q92 m (out++([{ (Qd0 ((Q40 c2 (fun (y:Int)=>Ql0 y ([1]:List Int) 0)).2)).1 with at_:=(Q40 c2 (fun (y:Int)=>Ql0 y ([1]:List Int) 0)).2.at_ }]:List Token)) ((Qd0 ((Q40 c2 (fun (y:Int)=>Ql0 y ([1]:List Int) 0)).2)).2) else ([],c2.bad,c2.error)
def QO5 (c:LexReader):(List Token) × Int × Int:=Q92 ((2*Int.toNat ((c.line.length:Int) - c.at_)+(bif c.error==0 then 1 else 0))+1) [] c
def Qn1 (line:ByteArray):(List Token) × Int × Int:=bif (decide ((ByteArray.size line:Int) > 400)) then ([],0,3) else QO5 (QN5 line (Qk7 line) LexReader.zero)
theorem lex_Tokens_c (line:ByteArray) (hs0:line.size<=4294967296):∀ objs,AGives Tryz.prog 259 [Sg line] objs (AVal.tup [tokenL ((Qn1 line).1),I ((Qn1 line).2.1),I ((Qn1 line).2.2)]):=by
 generalize hR:Qn1 line=R;refine ga (l1 .nil) (Low.tup' (.cons lw (l1 (l1 .nil)))) (kp 12 [14,18,19,20,38,51]) Tryz.func259 ?_;have hk0:=hs0;obtain z15:line.size<=4294967296:=hs0;refine ai (fun h1=>?_) (fun h2=>?_)
 ·have qh1:=of_decide_eq_true h1;obtain rfl:=foll hR (ct h1 rfl);exact Q00 (Low.tup' (.cons lw (l1 (l1 .nil)))) (Seen.tup (ev (QS0) (e1 (e1 .nil))))
 ·have qh2:=of_decide_eq_false h2;refine Qs0 (fun (c:LexReader) (pos:Nat)=>∃ m,ByteArray.size line - pos<=m∧QO5 (QN5 line (Qw4 line m pos) c)=R∧c.line.length<=pos∧pos<=ByteArray.size line∧c.at_=0) (fun c pos=>ByteArray.size line - pos) (fun c pos=>[(2,AVal.lit (.slice none 0 0)),(3,I 0),(4,I 0),(5,AVal.ptr 0 0 4 0 0),(18,AVal.ptr 1 0 1 0 0)]) (fun c pos=>[(0,AObj.row 273 4 [[AVal.own 2 0 1 0 c.line.length,I c.at_,I c.bad,I c.error]]),(0,AObj.other (.strIter line pos)),(0,AObj.row 21 1 (c.line.map (fun q_=>[J q_])))]) LexReader.zero 0 ((QG1 21 1).trans (wk [0,1,2] (tO rfl (QH0 (cv (Qo1 2 rfl) (c1 (c1 (c1 .nil))))) (tO rfl (.strIter _ _) (tO rfl (tl eqA) .nil))) (s1 (s1 (s1 (sv (Q30 0 rfl rfl) (sv (Q30 1 rfl rfl) .nil))))))) ⟨ByteArray.size line,by first|(have hq:=hrd _ (by assumption);omega)|exact omA,foll hR (cf h2 rfl),by first|(have hq:=hrd _ (by assumption);exact ⟨hq.2.1.1,hq.2.1.2.1,hq.2.1.2.2,fun hz=>by have hq3:=hq.2.2.2 hz;simp only [List.length_append,List.length_cons,List.length_nil];omega⟩)|first|(refine ⟨by omega,by omega,by omega,fun _=>by simp;omega⟩)|first|(simp [LexReader.zero];done)|first|(simp;omega)|exact exA⟩ ?_;clear hR;rintro c pos ⟨m,hm,hR,hx⟩;(try dsimp only at hR hm hx);refine ai (fun h3=>?_) (fun h4=>?_)
  ·have hlt:=of_decide_eq_true h3;have hw:=QP7 line pos;have hwe:=QO7 line pos hlt;obtain ⟨m,rfl⟩:=sucA m;rw [Qw3 h3] at hR;refine ai (fun _=>?_) (fun h=>nomatch h);refine Or.inl ?_;(first|refine ⟨Q33 4 rfl lnA apA,?_⟩|refine ⟨QA1 4 rfl apA,?_⟩);exact Qe0 { c with line:=(c.line++([(pos,((Utf8.decode line pos).1:Int)).2]:List Int)) } (pos+(Utf8.decode line pos).2) (wk [0,1,2] (tO rfl (QH0 (cv (to 2 lnA) (c1 (c1 (c1 .nil))))) (tO rfl (.strIter _ _) (tO rfl (tl eqA) .nil))) (s1 (s1 (s1 (sv (Q30 0 rfl rfl) (sv (Q30 1 rfl rfl) .nil)))))) (by first|(have hq:=hrd _ (by assumption);omega)|exact omA) ⟨m,by first|(have hq:=hrd _ (by assumption);omega)|exact omA,foll hR (congrArg (fun p:LexReader=>QO5 p) rfl),by first|(have hq:=hrd _ (by assumption);exact ⟨hq.2.1.1,hq.2.1.2.1,hq.2.1.2.2,fun hz=>by have hq3:=hq.2.2.2 hz;simp only [List.length_append,List.length_cons,List.length_nil];omega⟩)|first|(refine ⟨by omega,by omega,by omega,fun _=>by simp;omega⟩)|first|(simp [LexReader.zero];done)|first|(simp;omega)|exact exA⟩
  ·rw [QI5 h4] at hR;refine ai (fun h=>nomatch h) (fun _=>?_);replace hR:QO5 c=R:=fo2 (fun p:LexReader=>QO5 p) (c) hR rfl;refine Or.inl ?_;refine ACalls.of_cwp (fun _=>true) Tryz.func282 rfl rfl ?_;refine ⟨_,_,Told.refl,?_⟩;refine Qs0 (fun (out:List Token) (c2:LexReader)=>∃ m,(2*Int.toNat ((c2.line.length:Int) - c2.at_)+(bif c2.error==0 then 1 else 0))<m∧Q92 m out c2=R∧0<=c2.at_∧c2.at_<=(c2.line.length:Int)∧c2.line.length<=400∧((c2.error==0)=true->(out.length:Int)<=c2.at_)) (fun out c2=>(2*Int.toNat ((c2.line.length:Int) - c2.at_)+(bif c2.error==0 then 1 else 0))) (fun out c2=>[(2,AVal.lit (.slice none 0 0)),(3,I 0),(4,I 0),(5,AVal.ptr 0 0 4 0 0),(8,AVal.fn (.func 296) [] [AVal.ptr 1 0 1 0 0]),(9,AVal.own 2 0 4 0 out.length)]) (fun out c2=>[(0,AObj.row 273 4 [[runes c2.line,I c2.at_,I c2.bad,I c2.error]]),(0,AObj.row 44 1 [[ints ([1]:List Int)]]),(0,AObj.row 221 4 (out.map Token.cells))]) [] c ((QG1 221 4).trans (wk [0,3,4] (tO rfl (QH0 (cv (turn_listL _ _ rfl (Nat.zero_le _) (by decide) eqA (fun _=>lowL1 rfl) lnA) (c1 (c1 (c1 .nil))))) (tO rfl (QH0 (cv (turn_as (QA7 (c:=(fun q_=>[I q_])) (d:=0) ([1]:List Int) rfl) lw) .nil)) (tO rfl (tl eqA) .nil))) (s1 (s1 (s1 (sv (Q30 0 rfl rfl) (sv (QZ0 .nil (cv (Q30 1 rfl rfl) .nil)) (sv (Qo1 2 rfl) .nil)))))))) ⟨_,Nat.lt_succ_self _,foll hR rfl,by first|(have hq:=hrd _ (by assumption);exact ⟨hq.2.1.1,hq.2.1.2.1,hq.2.1.2.2,fun hz=>by have hq3:=hq.2.2.2 hz;simp only [List.length_append,List.length_cons,List.length_nil];omega⟩)|first|(refine ⟨by omega,by omega,by omega,fun _=>by simp;omega⟩)|first|(simp [LexReader.zero];done)|first|(simp;omega)|exact exA⟩ ?_;clear hR;rintro out c2 ⟨m,hm,hR,hx⟩;(try dsimp only at hR hm hx);obtain ⟨m,rfl⟩:=sucA m;refine ai (fun h5=>?_) (fun h6=>?_)
   ·have hol:=hx.2.2.2 h5;have hrd:=fun (b:Int->Bool) (hn:((Q40 c2 b).2.at_==((Q40 c2 b).2.line.length:Int))=false)=>lex_round c2 _ b (by omega) (by omega) (by omega) h5 rfl hn;have cl1:∀ (y1:Int),AMoves Tryz.prog 296 [J y1,AVal.ptr 0 0 1 0 0] [(0,AObj.row 44 1 [[ints ([1]:List Int)]])] 1 (Bo ((fun (y:Int)=>Ql0 y ([1]:List Int) 0) y1)) [(0,AObj.row 44 1 [[ints ([1]:List Int)]])]:=by
     intro y1;have hR:(fun (y:Int)=>Ql0 y ([1]:List Int) 0) y1=(fun (y:Int)=>Ql0 y ([1]:List Int) 0) y1:=rfl;refine mo (kp 6 [6,7,8,9,15]) Tryz.func296 ?_;refine Qj0 (fun (i:Nat)=>Ql0 y1 (List.drop i ([1]:List Int)) i=(fun (y:Int)=>Ql0 y ([1]:List Int) 0) y1∧i<=([1]:List Int).length) (fun i=>([1]:List Int).length - i) (fun i=>[(0,J y1),(3,Bo false),(6,ints ([1]:List Int)),(7,I (([1]:List Int).length:Int)),(8,I (i:Int))]) (fun i=>[(0,AObj.row 44 1 [[ints ([1]:List Int)]])]) 0 (wk [0] (tO rfl (ts (lv lw LowL.nil)) .nil) (s1 (s1 (sl lw (s1 (s1 .nil)))))) ⟨foll hR rfl,by exact omA⟩ ?_;clear hR;rintro i ⟨hR,hj⟩;(try dsimp only at hR hj);refine ai (fun h7=>?_) (fun h8=>?_)
     ·(have hlt:i<([1]:List Int).length:=by have:=of_decide_eq_true h7;omega);rw [Qc0 0 hlt] at hR;refine ai gkA ?_;refine us (QT4 y1 _) ?_;refine ai (fun h9=>?_) (fun h10=>?_)
      ·refine Qq0 (fun r:Bool=>Bo r) (fun _=>[(0,AObj.row 44 1 [[ints ([1]:List Int)]])]) (leaf:=true) (foll hR (ct h9 rfl)) ?_;exact tt [0] (tO rfl (ts (lv lw LowL.nil)) .nil) t1
      ·exact Qn0 (i+1) (wk [0] (tO rfl (ts (lv lw LowL.nil)) .nil) (s1 (s1 (sl lw (s1 (sv (Qb0 (I_eq (wr omA)) lx) .nil)))))) omA ⟨foll hR (cf h10 rfl),by exact omA⟩
     ·rw [Qk0 (l:=([1]:List Int)) (j:=i) (geA h8)] at hR;refine Qq0 (fun r:Bool=>Bo r) (fun _=>[(0,AObj.row 44 1 [[ints ([1]:List Int)]])]) (leaf:=false) (foll hR rfl) ?_;exact tt [0] (tO rfl (ts (lv lw LowL.nil)) .nil) t1
    have hof1:AMoves Tryz.prog 283 [AVal.ptr 0 0 4 0 0,AVal.fn (.func 296) [] [AVal.ptr 1 0 1 0 0]] [(0,AObj.row 273 4 [[runes c2.line,I c2.at_,I c2.bad,I c2.error]]),(0,AObj.row 44 1 [[ints ([1]:List Int)]])] 2 (Sg ((Q40 c2 (fun (y:Int)=>Ql0 y ([1]:List Int) 0)).1)) [(0,AObj.row 273 4 [[runes (((Q40 c2 (fun (y:Int)=>Ql0 y ([1]:List Int) 0)).2).line),I (((Q40 c2 (fun (y:Int)=>Ql0 y ([1]:List Int) 0)).2).at_),I (((Q40 c2 (fun (y:Int)=>Ql0 y ([1]:List Int) 0)).2).bad),I (((Q40 c2 (fun (y:Int)=>Ql0 y ([1]:List Int) 0)).2).error)]]),(0,AObj.row 44 1 [[ints ([1]:List Int)]])]:=by
     have hR:Q40 c2 (fun (y:Int)=>Ql0 y ([1]:List Int) 0)=Q40 c2 (fun (y:Int)=>Ql0 y ([1]:List Int) 0):=rfl;refine mo (kp 6 [33]) Tryz.func283 ?_;refine Qj0 (fun (c3:LexReader)=>∃ m,(Int.toNat ((c3.line.length:Int) - c3.at_))<m∧QE0 c2 (QD0 (fun (y:Int)=>Ql0 y ([1]:List Int) 0) m c3)=Q40 c2 (fun (y:Int)=>Ql0 y ([1]:List Int) 0)∧0<=c3.at_∧c3.at_<=(c3.line.length:Int)∧c3.line.length<=400∧c2.at_<=c3.at_∧0<=c2.at_) (fun c3=>(Int.toNat ((c3.line.length:Int) - c3.at_))) (fun c3=>[(0,AVal.ptr 0 0 4 0 0),(1,AVal.fn (.func 296) [] [AVal.ptr 1 0 1 0 0]),(4,Sg ⟨#[]⟩),(5,I c2.at_)]) (fun c3=>[(0,AObj.row 273 4 [[runes c3.line,I c3.at_,I c3.bad,I c3.error]]),(0,AObj.row 44 1 [[ints ([1]:List Int)]])]) c2 (wk [0,1] (tO rfl (ts LexReader.lo) (tO rfl (ts (lv lw LowL.nil)) .nil)) (sv (Q30 0 rfl rfl) (sv (QZ0 .nil (cv (Q30 1 rfl rfl) .nil)) (s1 (s1 .nil))))) ⟨_,Nat.lt_succ_self _,foll hR rfl,by exact exA⟩ ?_;clear hR;rintro c3 ⟨m,hm,hR,hx⟩;(try dsimp only at hR hm hx);obtain ⟨m,rfl⟩:=sucA m;refine dchk (by kernel_rfl) ?_;refine ai gkA ?_;(first|apply u2|apply u3|apply u4|apply us);exact mv [1] (cl1 (c3.line.getD (Int.toNat c3.at_) 0)) (dO (ds (lv lw LowL.nil)) .nil) (d1 (dp .nil)) (rO (re (lv lw LowL.nil)) .nil) rx;(repeat ((first|refine ai rfl ?_|refine ai (fun _=>rfl) ?_)));refine ai (fun h11=>?_) (fun h12=>?_)
     ·have hq1:=of_decide_eq_true ((Bool.and_eq_true _ _).mp h11).1;have hwr:w64 (c3.at_+1)=c3.at_+1:=wr (by omega);exact Qn0 { c3 with at_:=(w64 (c3.at_+1)) } (wk [0,1] (tO rfl (ts LexReader.lo) (tO rfl (ts (lv lw LowL.nil)) .nil)) (sv (Q30 0 rfl rfl) (sv (QZ0 .nil (cv (Q30 1 rfl rfl) .nil)) (s1 (s1 .nil))))) omA ⟨m,by exact omA,foll hR (congrArg (fun p:LexReader=>QE0 c2 p) (ct h11 rfl)),by exact exA⟩
     ·replace hR:QE0 c2 c3=Q40 c2 (fun (y:Int)=>Ql0 y ([1]:List Int) 0):=fo2 (fun p:LexReader=>QE0 c2 p) (c3) hR (cf h12 rfl);refine dchk (by kernel_rfl) ?_;refine ai gkA ?_;(first|refine ⟨(List.drop (Int.toNat c2.at_) (List.take (Int.toNat c3.at_) c3.line)),by exact cvA,?_⟩|refine ⟨_,fun _=>⟨(List.drop (Int.toNat c2.at_) (List.take (Int.toNat c3.at_) c3.line)),by exact cvA,rfl,rfl⟩,?_⟩|refine ⟨_,rfl,⟨(List.drop (Int.toNat c2.at_) (List.take (Int.toNat c3.at_) c3.line)),by exact cvA,Sub.refl _,rfl⟩,?_⟩);(repeat ((first|refine ai rfl ?_|refine ai (fun _=>rfl) ?_)));refine Qq0 (fun r:ByteArray × LexReader=>Sg r.1) (fun r:ByteArray × LexReader=>[(0,AObj.row 273 4 [[runes r.2.line,I r.2.at_,I r.2.bad,I r.2.error]]),(0,AObj.row 44 1 [[ints ([1]:List Int)]])]) (leaf:=((runesBytes (List.drop (Int.toNat c2.at_) (List.take (Int.toNat c3.at_) c3.line))),c3)) (foll hR rfl) ?_;exact tt [0,1] (tO rfl (ts LexReader.lo) (tO rfl (ts (lv lw LowL.nil)) .nil)) t1
    refine us (mv [0,1] (hof1) (dO (ds LexReader.lo) (dO (ds (lv lw LowL.nil)) .nil)) (dp (dv (dn_fn .nil (dp .nil)) .nil)) (rO (re LexReader.lo) (rO (re (lv lw LowL.nil)) .nil)) rx) ?_;refine dchk (by kernel_rfl) ?_;(repeat ((first|refine ai rfl ?_|refine ai (fun _=>rfl) ?_)));refine ai (fun h13=>?_) (fun h14=>?_)
    ·refine dchk (by kernel_rfl) ?_;(repeat ((first|refine ai rfl ?_|refine ai (fun _=>rfl) ?_)));obtain rfl:=foll hR (ct h5 (ct h13 rfl));exact Q00 (Low.tup' (.cons lw (l1 (l1 .nil)))) (Seen.tup (ev (Qy1 Token.zero _ rfl eqA lnA) (e1 (e1 .nil))))
    ·refine us (mv [0] (Q8d ((Q40 c2 (fun (y:Int)=>Ql0 y ([1]:List Int) 0)).2) (by first|(exact Nat.le_trans (hrd _ (by assumption)).1.2.2 (by decide))|exact szA) (by exact (hrd _ (by assumption)).1)) (dO (ds LexReader.lo) .nil) (dp .nil) (rO (re LexReader.lo) .nil) (Ren.low _ (Low.agg' (Token.lo)))) ?_;refine Or.inl ?_;(first|refine ⟨Q33 40 rfl lnA apA,?_⟩|refine ⟨QA1 40 rfl apA,?_⟩);exact Qe0 (out++([{ (Qd0 ((Q40 c2 (fun (y:Int)=>Ql0 y ([1]:List Int) 0)).2)).1 with at_:=(Q40 c2 (fun (y:Int)=>Ql0 y ([1]:List Int) 0)).2.at_ }]:List Token)) ((Qd0 ((Q40 c2 (fun (y:Int)=>Ql0 y ([1]:List Int) 0)).2)).2) (wk [0,1,2] (tO rfl (ts LexReader.lo) (tO rfl (ts (lv lw LowL.nil)) (tO rfl (tl eqA) .nil))) (s1 (s1 (s1 (sv (Q30 0 rfl rfl) (sv (QZ0 .nil (cv (Q30 1 rfl rfl) .nil)) (sv (to 2 lnA) .nil))))))) (by first|(have hq:=hrd _ (by assumption);omega)|exact omA) ⟨m,by first|(have hq:=hrd _ (by assumption);omega)|exact omA,foll hR (ct h5 (cf h14 rfl)),by first|(have hq:=hrd _ (by assumption);exact ⟨hq.2.1.1,hq.2.1.2.1,hq.2.1.2.2,fun hz=>by have hq3:=hq.2.2.2 hz;simp only [List.length_append,List.length_cons,List.length_nil];omega⟩)|first|(refine ⟨by omega,by omega,by omega,fun _=>by simp;omega⟩)|first|(simp [LexReader.zero];done)|first|(simp;omega)|exact exA⟩
   ·refine dchk (by kernel_rfl) ?_;(repeat ((first|refine ai rfl ?_|refine ai (fun _=>rfl) ?_)));obtain rfl:=foll hR (cf h6 rfl);exact Q00 (Low.tup' (.cons lw (l1 (l1 .nil)))) (Seen.tup (ev (QS0) (e1 (e1 .nil))))
def QG2 (v:Job):Bool:=((((v.start==0)&&(v.limit==0))&&(v.nodes==0))&&(((v.promise==(-1))&&(v.choice==0))||(((Q54 v.promise)&&(Q61 v v.choice).2)&&(!v.held))))
theorem Q6d (v:Job) (hs0:v.sz):∀ objs,AGives Tryz.prog 77 [Job.a v] objs (Bo (QG2 v)):=by
 generalize hR:QG2 v=R;refine ga (.cons (Job.low _ _) .nil) lx (kp 6 []) Tryz.func77 ?_;have hk0:=hs0;obtain ⟨z1,z2,z3,z4,z5⟩:v.name.size<=4294967296∧v.user.size<=4294967296∧v.account.size<=4294967296∧(v.shape.alts.length<=4294967296)∧v.after.length<=4294967296:=hs0;refine us (QZ6 v v.choice szA _) ?_;(first|apply u2|apply u3|apply u4|apply us);exact QM5 v.promise _;obtain rfl:=foll hR rfl;exact Q00 lx sr
def QV3 (v:Job):Bool:=bif (((((((!(Q61 v v.choice).2)||v.held)||(!(Q54 v.start)))||(!(Q54 v.promise)))||(decide (v.promise<v.start)))||(!(Q54 v.limit)))||((w64 (v.limit - v.start))!=(Q61 v v.choice).1.wall)) then false else ((Q4a v.nodes)&&(Qx7 v.shape v.choice (Qo0 v.nodes)))
theorem Qcc (v:Job) (hs0:v.sz):∀ objs,AGives Tryz.prog 78 [Job.a v] objs (Bo (QV3 v)):=by
 generalize hR:QV3 v=R;refine ga (.cons (Job.low _ _) .nil) lx (kp 5 [61]) Tryz.func78 ?_;have hk0:=hs0;obtain ⟨z3,z4,z5,z6,z7⟩:v.name.size<=4294967296∧v.user.size<=4294967296∧v.account.size<=4294967296∧(v.shape.alts.length<=4294967296)∧v.after.length<=4294967296:=hs0;refine us (QZ6 v v.choice szA _) ?_;(first|apply u2|apply u3|apply u4|apply us);exact QM5 v.start _;(first|apply u2|apply u3|apply u4|apply us);exact QM5 v.promise _;(first|apply u2|apply u3|apply u4|apply us);exact QM5 v.limit _;refine ai (fun h1=>?_) (fun h2=>?_)
 ·obtain rfl:=foll hR (ct h1 rfl);exact Q00 lx sr
 ·refine dchk (by kernel_rfl) ?_;(first|apply u2|apply u3|apply u4|apply us);exact Qog v.nodes _;(first|apply u2|apply u3|apply u4|apply us);exact QL6 v.nodes _;(first|apply u2|apply u3|apply u4|apply us);exact Q9b v.shape v.choice (Qo0 v.nodes) szA _;(repeat ((first|refine ai rfl ?_|refine ai (fun _=>rfl) ?_|refine ai (fun _=>Qog v.nodes _) ?_|refine ai (fun _=>QL6 v.nodes _) ?_|refine ai (fun _=>Q9b v.shape v.choice (Qo0 v.nodes) szA _) ?_)));obtain rfl:=foll hR (cf h2 rfl);exact Q00 lx sr
def QM0 (line:ByteArray):Nat->List Token->Int->(List Token) × Int × Int
 | 0,_,_=>([],0,0)
 | m+1,out,i=>bif (decide (i<((QL0 line).length:Int))) then bif ((Qg0 ((QL0 line).getD (Int.toNat i) 0))==1) then QM0 line m out (w64 (i+1)) else bif ((Qh1 (QL0 line) i).2.2.2 != 0) then ([],(Qh1 (QL0 line) i).2.2.1,(Qh1 (QL0 line) i).2.2.2) else QM0 line m (out++([(Qh1 (QL0 line) i).1]:List Token)) ((Qh1 (QL0 line) i).2.1) else (out,((QL0 line).length:Int),0)
def QJ0 (line:ByteArray):(List Token) × Int × Int:=bif (decide ((ByteArray.size line:Int) > 400)) then ([],0,3) else QM0 line ((Int.toNat (((QL0 line).length:Int) - 0))+1) [] 0
theorem ref05_Tokens_c (line:ByteArray) (hs0:line.size<=4294967296):∀ objs,AGives Tryz.prog 252 [Sg line] objs (AVal.tup [tokenL ((QJ0 line).1),I ((QJ0 line).2.1),I ((QJ0 line).2.2)]):=by
 generalize hR:QJ0 line=R;refine ga (l1 .nil) (Low.tup' (.cons lw (l1 (l1 .nil)))) (kp 12 [14,20,26,38]) Tryz.func252 ?_;have hk0:=hs0;obtain z9:line.size<=4294967296:=hs0;have hf0:=Qha line;refine ai (fun h1=>?_) (fun h2=>?_)
 ·have qh1:=of_decide_eq_true h1;obtain rfl:=foll hR (ct h1 rfl);exact Q00 (Low.tup' (.cons lw (l1 (l1 .nil)))) (Seen.tup (ev (QS0) (e1 (e1 .nil))))
 ·have qh2:=of_decide_eq_false h2;refine us (ref05_Runes_c line szA _) ?_;refine Qs0 (fun (out:List Token) (i:Int)=>∃ m,(Int.toNat (((QL0 line).length:Int) - i))<m∧QM0 line m out i=R∧0<=i∧i<=((QL0 line).length:Int)∧(out.length:Int)<=i) (fun out i=>(Int.toNat (((QL0 line).length:Int) - i))) (fun out i=>[(2,AVal.lit (.slice none 0 0)),(3,I 0),(4,I 0),(5,runes (QL0 line)),(6,AVal.own 0 0 4 0 out.length),(7,I i)]) (fun out i=>[(0,AObj.row 221 4 (out.map Token.cells))]) [] 0 ((QG1 221 4).trans (wk [0] (tO rfl (tl eqA) .nil) (s1 (s1 (s1 (sl lw (sv (Qo1 0 rfl) (s1 .nil)))))))) ⟨_,Nat.lt_succ_self _,foll hR (cf h2 rfl),by first|(have hp2:=hp1 (by assumption);refine ⟨by omega,by omega,?_⟩;simp only [List.length_append,List.length_cons,List.length_nil];omega)|exact exA⟩ ?_;clear hR;rintro out i ⟨m,hm,hR,hx⟩;(try dsimp only at hR hm hx);obtain ⟨m,rfl⟩:=sucA m;refine ai (fun h3=>?_) (fun h4=>?_)
  ·have qh3:=of_decide_eq_true h3;have hw1:w64 (i+1)=i+1:=wr (by omega);have hp1:=ref05_one_lt (QL0 line) i (by omega) (by omega) (by omega);refine ai gkA ?_;refine us (QP4 ((QL0 line).getD (Int.toNat i) 0) _) ?_;refine ai (fun h5=>?_) (fun h6=>?_)
   ·exact Qe0 out (w64 (i+1)) (wk [0] (tO rfl (tl eqA) .nil) (s1 (s1 (s1 (sl lw (sv (to 0 lnA) (s1 .nil))))))) (by first|(have hp2:=hp1 (by assumption);omega)|exact omA) ⟨m,by first|(have hp2:=hp1 (by assumption);omega)|exact omA,foll hR (ct h3 (ct h5 rfl)),by first|(have hp2:=hp1 (by assumption);refine ⟨by omega,by omega,?_⟩;simp only [List.length_append,List.length_cons,List.length_nil];omega)|exact exA⟩
   ·refine us (ref05_one_c (QL0 line) i szA ckA _) ?_;refine ai (fun h7=>?_) (fun h8=>?_)
    ·obtain rfl:=foll hR (ct h3 (cf h6 (ct h7 rfl)));exact Q00 (Low.tup' (.cons lw (l1 (l1 .nil)))) (Seen.tup (ev (QS0) (e1 (e1 .nil))))
    ·refine Or.inl ?_;(first|refine ⟨Q33 40 rfl lnA apA,?_⟩|refine ⟨QA1 40 rfl apA,?_⟩);exact Qe0 (out++([(Qh1 (QL0 line) i).1]:List Token)) ((Qh1 (QL0 line) i).2.1) (wk [0] (tO rfl (tl eqA) .nil) (s1 (s1 (s1 (sl lw (sv (to 0 lnA) (s1 .nil))))))) (by first|(have hp2:=hp1 (by assumption);omega)|exact omA) ⟨m,by first|(have hp2:=hp1 (by assumption);omega)|exact omA,foll hR (ct h3 (cf h6 (cf h8 rfl))),by first|(have hp2:=hp1 (by assumption);refine ⟨by omega,by omega,?_⟩;simp only [List.length_append,List.length_cons,List.length_nil];omega)|exact exA⟩
  ·have qh4:=of_decide_eq_false h4;obtain rfl:=foll hR (cf h4 rfl);exact Q00 (Low.tup' (.cons lw (l1 (l1 .nil)))) (Seen.tup (ev (Qy1 Token.zero _ rfl eqA lnA) (e1 (e1 .nil))))
def ref21_Pick (s:State) (j:Job) (latest:Int):Int × Int × Bool:=((Q95 (Qz2 s ([j.id]:List Int)) (Q60 j.shape) s.now latest 12).1,(Q95 (Qz2 s ([j.id]:List Int)) (Q60 j.shape) s.now latest 12).2.1,(Q95 (Qz2 s ([j.id]:List Int)) (Q60 j.shape) s.now latest 12).2.2)
end Go.Proofs.YtjpgfmbccohngaaGreatDoor
namespace Go.Proofs.YtjpgfmbccohngaaGreatDoor
set_option linter.unusedSimpArgs false
set_option linter.unusedVariables false
open Go.Fw
set_option maxRecDepth 20000
set_option maxHeartbeats 4000000
attribute [local irreducible] ACalls AMoves
def Qf6 (s:ByteArray):Bool:=bif ((((Qn1 s).2.2 != 0)||((((Qn1 s).1).length:Int)!=1))||(!(((((Qn1 s).1).getD 0 Token.zero).kind==1)&&(((((Qn1 s).1).getD 0 Token.zero).text==s)&&(((((Qn1 s).1).getD 0 Token.zero).num==0)&&((((Qn1 s).1).getD 0 Token.zero).at_==0)))))) then false else true
theorem cmd_word_c (s:ByteArray) (hs0:s.size<=4294967296):∀ objs,AGives Tryz.prog 206 [Sg s] objs (Bo (Qf6 s)):=by
 generalize hR:Qf6 s=R;refine ga (l1 .nil) lx (kp 3 []) Tryz.func206 ?_;have hk0:=hs0;obtain z3:s.size<=4294967296:=hs0;refine ACalls.of_cwp (fun _=>true) Tryz.func235 rfl rfl ?_;refine ACalls.of_cwp (fun _=>true) Tryz.func260 rfl rfl ?_;refine ai (fun h=>nomatch h) (fun _=>?_);refine ai (fun h=>nomatch h) (fun _=>?_);refine ⟨_,_,Told.refl,?_⟩;refine us (lex_Tokens_c s szA _) ?_;refine dchk (by kernel_rfl) ?_;refine ai gkA ?_;refine ai (fun _=>(by kernel_rfl:eqOK _ _=true)) ?_;(repeat ((first|refine ai rfl ?_|refine ai (fun _=>rfl) ?_)));refine ai (fun h1=>?_) (fun h2=>?_)
 ·refine ⟨_,_,Told.refl,?_⟩;obtain rfl:=foll hR (ct h1 rfl);exact Q00 lx sr
 ·refine ⟨_,_,Told.refl,?_⟩;obtain rfl:=foll hR (cf h2 rfl);exact Q00 lx sr
def Q04 (s:ByteArray):Bool:=bif (((QJ0 s).2.2 != 0)||((((QJ0 s).1).length:Int)!=1)) then false else bif ((((((QJ0 s).1).getD 0 Token.zero).kind != 1)||(!(ByteArray.toList (((QJ0 s).1).getD 0 Token.zero).text==ByteArray.toList s)))||((((QJ0 s).1).getD 0 Token.zero).num != 0)) then false else true
theorem Q1e (s:ByteArray) (hs0:s.size<=4294967296):∀ objs,AGives Tryz.prog 180 [Sg s] objs (Bo (Q04 s)):=by
 generalize hR:Q04 s=R;refine ga (l1 .nil) lx (kp 3 []) Tryz.func180 ?_;have hk0:=hs0;obtain z5:s.size<=4294967296:=hs0;refine ACalls.of_cwp (fun _=>true) Tryz.func222 rfl rfl ?_;refine ACalls.of_cwp (fun _=>true) Tryz.func253 rfl rfl ?_;refine ai (fun h=>nomatch h) (fun _=>?_);refine ai (fun h=>nomatch h) (fun _=>?_);refine ⟨_,_,Told.refl,?_⟩;refine us (ref05_Tokens_c s szA _) ?_;refine ai (fun h1=>?_) (fun h2=>?_)
 ·refine ⟨_,_,Told.refl,?_⟩;obtain rfl:=foll hR (ct h1 rfl);exact Q00 lx sr
 ·refine ai gkA ?_;refine ai (fun h3=>?_) (fun h4=>?_)
  ·refine ⟨_,_,Told.refl,?_⟩;obtain rfl:=foll hR (cf h2 (ct h3 rfl));exact Q00 lx sr
  ·refine ⟨_,_,Told.refl,?_⟩;obtain rfl:=foll hR (cf h2 (cf h4 rfl));exact Q00 lx sr
end Go.Proofs.YtjpgfmbccohngaaGreatDoor
namespace Go.Proofs.YtjpgfmbccohngaaGreatDoor
set_option linter.unusedSimpArgs false
set_option linter.unusedVariables false
open Go.Fw
set_option maxRecDepth 20000
set_option maxHeartbeats 4000000
attribute [local irreducible] ACalls AMoves
def Qj9 (c:Cmd) (i1:Bool):Bool:=bif i1 then (QX2 c.node 0 47) else bif (c.kind==10) then (((QX2 c.from_ 0 1000000)&&c.hasTime)&&(QX2 c.nodes 1 48)) else ((c.kind==12)&&(QX2 c.job 0 99999))
def Q48 (c:Cmd) (i:Bool):Bool:=bif i then (QEd c.job) else bif (c.kind==5) then ((QEd c.job)&&(c.hasPrio||c.hasTime)) else bif (c.kind==6) then ((QEd c.job)&&(QX2 c.nodes 1 48)) else bif (c.kind==7) then Qj9 c (c.kind==7) else bif (c.kind==8) then Qj9 c (c.kind==8) else Qj9 c (c.kind==9)
def QXb (c:Cmd):Bool:=bif ((((c.hasPrio&&(!(QX2 c.prio 0 100)))||(c.hasTime&&(!(QYc c.time))))||((!c.hasPrio)&&(c.prio != 0)))||((!c.hasTime)&&(c.time != 0))) then false else bif (c.kind==1) then (((((((QK5 c.name)&&(QK5 c.user))&&(QK5 c.account))&&(Qf6 c.user))&&(Qf6 c.account))&&(QH7 c.after))&&((Q22 c.shape)==0)) else bif (c.kind==2) then Q48 c (c.kind==2) else bif (c.kind==3) then Q48 c (c.kind==3) else bif (c.kind==4) then Q48 c (c.kind==4) else Q48 c (c.kind==11)
theorem cmd_fits_c (c:Cmd) (hs0:c.sz):∀ objs,AGives Tryz.prog 142 [Cmd.a c] objs (Bo (QXb c)):=by
 generalize hR:QXb c=R;refine ga (.cons (Cmd.low _ _) .nil) lx (kj [1000010,1000018] 3 [40,42,43,79,87,100,110,117]) Tryz.func142 ?_;have hk0:=hs0;obtain ⟨z25,z26,z27,z28,z29⟩:c.name.size<=4294967296∧c.user.size<=4294967296∧c.account.size<=4294967296∧(c.shape.alts.length<=4294967296)∧c.after.length<=4294967296:=hs0;(first|apply u2|apply u3|apply u4|apply us);exact Qy3 c.prio 0 100 _;(first|apply u2|apply u3|apply u4|apply us);exact cmd_length_c c.time _;refine ai (fun h1=>?_) (fun h2=>?_)
 ·obtain rfl:=foll hR (ct h1 rfl);exact Q00 lx sr
 ·refine ai (fun h3=>?_) (fun h4=>?_)
  ·refine us (QZc c.name szA _) ?_;(first|apply u2|apply u3|apply u4|apply us);exact QZc c.user szA _;(first|apply u2|apply u3|apply u4|apply us);exact QZc c.account szA _;(first|apply u2|apply u3|apply u4|apply us);exact cmd_word_c c.user szA _;(first|apply u2|apply u3|apply u4|apply us);exact cmd_word_c c.account szA _;(first|apply u2|apply u3|apply u4|apply us);exact cmd_deps_c c.after szA _;(first|apply u2|apply u3|apply u4|apply us);exact QDc c.shape szA _;obtain rfl:=foll hR (cf h2 (ct h3 rfl));exact Q00 lx sr
  ·refine QZ1 (fun (i:Bool)=>Q48 c i=R) (fun i=>[(1,AVal.ptr 0 0 18 0 0),(2,Bo false),(42,I c.kind),(79,Bo i)]) (fun i=>[(0,AObj.row 104 18 [[I c.kind,I c.job,Sg c.name,Sg c.user,Sg c.account,I c.shape.kind,altL c.shape.alts,I c.shape.min,I c.shape.max,I c.shape.wall,I c.prio,Bo c.hasPrio,I c.time,Bo c.hasTime,depL c.after,I c.node,I c.nodes,I c.from_]])]) ?_ ?_
   ·clear hR;rintro i hR;(try dsimp only at hR);refine ai (fun h5=>?_) (fun h6=>?_)
    ·refine us (QBf c.job _) ?_;obtain rfl:=foll hR (ct h5 rfl);exact Q00 lx sr
    ·refine ai (fun h7=>?_) (fun h8=>?_)
     ·refine us (QBf c.job _) ?_;obtain rfl:=foll hR (cf h6 (ct h7 rfl));exact Q00 lx sr
     ·refine ai (fun h9=>?_) (fun h10=>?_)
      ·refine us (QBf c.job _) ?_;(first|apply u2|apply u3|apply u4|apply us);exact Qy3 c.nodes 1 48 _;obtain rfl:=foll hR (cf h6 (cf h8 (ct h9 rfl)));exact Q00 lx sr
      ·refine QZ1 (fun (i1:Bool)=>Qj9 c i1=R) (fun i1=>[(1,AVal.ptr 0 0 18 0 0),(2,Bo false),(42,I c.kind),(110,Bo i1)]) (fun i1=>[(0,AObj.row 104 18 [[I c.kind,I c.job,Sg c.name,Sg c.user,Sg c.account,I c.shape.kind,altL c.shape.alts,I c.shape.min,I c.shape.max,I c.shape.wall,I c.prio,Bo c.hasPrio,I c.time,Bo c.hasTime,depL c.after,I c.node,I c.nodes,I c.from_]])]) ?_ ?_
       ·clear hR;rintro i1 hR;(try dsimp only at hR);refine ai (fun h11=>?_) (fun h12=>?_)
        ·refine us (Qy3 c.node 0 47 _) ?_;obtain rfl:=foll hR (ct h11 rfl);exact Q00 lx sr
        ·refine ai (fun h13=>?_) (fun h14=>?_)
         ·refine us (Qy3 c.from_ 0 1000000 _) ?_;(first|apply u2|apply u3|apply u4|apply us);exact Qy3 c.nodes 1 48 _;obtain rfl:=foll hR (cf h12 (ct h13 rfl));exact Q00 lx sr
         ·(first|apply u2|apply u3|apply u4|apply us);exact Qy3 c.job 0 99999 _;obtain rfl:=foll hR (cf h12 (cf h14 rfl));exact Q00 lx sr
       ·refine ai (fun h15=>?_) (fun h16=>?_)
        ·exact Qf0 (c.kind==7) (wk [0] (tO rfl (ts Cmd.lo) .nil) (sv (Q30 0 rfl rfl) (s1 (s1 (s1 .nil))))) (foll hR (cf h6 (cf h8 (cf h10 (ct h15 rfl)))))
        ·refine ai (fun h17=>?_) (fun h18=>?_)
         ·exact Qf0 (c.kind==8) (wk [0] (tO rfl (ts Cmd.lo) .nil) (sv (Q30 0 rfl rfl) (s1 (s1 (s1 .nil))))) (foll hR (cf h6 (cf h8 (cf h10 (cf h16 (ct h17 rfl))))))
         ·exact Qf0 (c.kind==9) (wk [0] (tO rfl (ts Cmd.lo) .nil) (sv (Q30 0 rfl rfl) (s1 (s1 (s1 .nil))))) (foll hR (cf h6 (cf h8 (cf h10 (cf h16 (cf h18 rfl))))))
   ·refine ai (fun h19=>?_) (fun h20=>?_)
    ·exact Qf0 (c.kind==2) (wk [0] (tO rfl (ts Cmd.lo) .nil) (sv (Q30 0 rfl rfl) (s1 (s1 (s1 .nil))))) (foll hR (cf h2 (cf h4 (ct h19 rfl))))
    ·refine ai (fun h21=>?_) (fun h22=>?_)
     ·exact Qf0 (c.kind==3) (wk [0] (tO rfl (ts Cmd.lo) .nil) (sv (Q30 0 rfl rfl) (s1 (s1 (s1 .nil))))) (foll hR (cf h2 (cf h4 (cf h20 (ct h21 rfl)))))
     ·refine ai (fun h23=>?_) (fun h24=>?_)
      ·exact Qf0 (c.kind==4) (wk [0] (tO rfl (ts Cmd.lo) .nil) (sv (Q30 0 rfl rfl) (s1 (s1 (s1 .nil))))) (foll hR (cf h2 (cf h4 (cf h20 (cf h22 (ct h23 rfl))))))
      ·exact Qf0 (c.kind==11) (wk [0] (tO rfl (ts Cmd.lo) .nil) (sv (Q30 0 rfl rfl) (s1 (s1 (s1 .nil))))) (foll hR (cf h2 (cf h4 (cf h20 (cf h22 (cf h24 rfl))))))
def Qi7 (ok2:Bool):Int:=bif (!ok2) then 80 else 0
def Qh7 (c:Cmd) (ok1:Bool):Int:=bif c.hasTime then Qi7 (ok1&&(Qm1 c.time 1 100000)) else Qi7 (ok1&&(c.time==0))
def QE2 (c:Cmd) (ok:Bool):Int:=bif c.hasPrio then Qh7 c (ok&&(Qm1 c.prio 0 100)) else Qh7 c (ok&&(c.prio==0))
def Qg7 (c:Cmd) (i1:Bool):Int:=bif i1 then QE2 c ((Qx2 c true true true true false true true)&&(Qm1 c.node 0 47)) else bif (c.kind==10) then QE2 c ((((Qx2 c true true true false true false false)&&(Qm1 c.from_ 0 1000000))&&c.hasTime)&&(Qm1 c.nodes 1 48)) else QE2 c false
def Q66 (c:Cmd) (i:Bool):Int:=bif i then QE2 c ((Qx2 c false true true true true true true)&&(Qm1 c.job 1 99999)) else bif (c.kind==12) then QE2 c ((Qx2 c false true true true true true true)&&(Qm1 c.job 0 99999)) else bif (c.kind==5) then QE2 c (((Qx2 c false true false false true true true)&&(Qm1 c.job 1 99999))&&(c.hasPrio||c.hasTime)) else bif (c.kind==6) then QE2 c (((Qx2 c false true true true true false true)&&(Qm1 c.job 1 99999))&&(Qm1 c.nodes 1 48)) else bif (c.kind==7) then Qg7 c (c.kind==7) else bif (c.kind==8) then Qg7 c (c.kind==8) else Qg7 c (c.kind==9)
def Qk4 (c:Cmd):Int:=bif (c.kind==1) then QE2 c ((((((((Qx2 c true false false true true true true)&&(QM3 c.name))&&(QM3 c.user))&&(QM3 c.account))&&(Q04 c.user))&&(Q04 c.account))&&(Qm6 c.after))&&((Qi1 c.shape)==0)) else bif (c.kind==2) then Q66 c (c.kind==2) else bif (c.kind==3) then Q66 c (c.kind==3) else bif (c.kind==4) then Q66 c (c.kind==4) else Q66 c (c.kind==11)
theorem ref08_Check_c (c:Cmd) (hs0:c.sz):∀ objs,AGives Tryz.prog 114 [Cmd.a c] objs (I (Qk4 c)):=by
 generalize hR:Qk4 c=R;refine ga (.cons (Cmd.low _ _) .nil) lx (kj [1000010,1000020,1000023,1000026,1000029] 4 [5,6,46,58,67,84,98,109,128,142,156]) Tryz.func114 ?_;have hk0:=hs0;obtain ⟨z31,z32,z33,z34,z35⟩:c.name.size<=4294967296∧c.user.size<=4294967296∧c.account.size<=4294967296∧(c.shape.alts.length<=4294967296)∧c.after.length<=4294967296:=hs0;refine QZ1 (fun (ok:Bool)=>QE2 c ok=R) (fun ok=>[(1,AVal.ptr 0 0 18 0 0),(2,I 0),(3,Bo ok)]) (fun ok=>[(0,AObj.row 104 18 [[I c.kind,I c.job,Sg c.name,Sg c.user,Sg c.account,I c.shape.kind,altL c.shape.alts,I c.shape.min,I c.shape.max,I c.shape.wall,I c.prio,Bo c.hasPrio,I c.time,Bo c.hasTime,depL c.after,I c.node,I c.nodes,I c.from_]])]) ?_ ?_
 ·clear hR;rintro ok hR;(try dsimp only at hR);refine QZ1 (fun (ok1:Bool)=>Qh7 c ok1=R) (fun ok1=>[(1,AVal.ptr 0 0 18 0 0),(2,I 0),(3,Bo ok1)]) (fun ok1=>[(0,AObj.row 104 18 [[I c.kind,I c.job,Sg c.name,Sg c.user,Sg c.account,I c.shape.kind,altL c.shape.alts,I c.shape.min,I c.shape.max,I c.shape.wall,I c.prio,Bo c.hasPrio,I c.time,Bo c.hasTime,depL c.after,I c.node,I c.nodes,I c.from_]])]) ?_ ?_
  ·clear hR;rintro ok1 hR;(try dsimp only at hR);refine QZ1 (fun (ok2:Bool)=>Qi7 ok2=R) (fun ok2=>[(2,I 0),(3,Bo ok2)]) (fun ok2=>[]) ?_ ?_
   ·clear hR;rintro ok2 hR;(try dsimp only at hR);refine ai (fun h1=>?_) (fun h2=>?_)
    ·obtain rfl:=foll hR (ct h1 rfl);exact Q00 lx sr
    ·obtain rfl:=foll hR (cf h2 rfl);exact Q00 lx sr
   ·refine ai (fun h3=>?_) (fun h4=>?_)
    ·(first|apply u2|apply u3|apply u4|apply us);exact Q14 c.time 1 100000 _;exact Qf0 (ok1&&(Qm1 c.time 1 100000)) (wk [] .nil (s1 (s1 .nil))) (foll hR (ct h3 rfl))
    ·exact Qf0 (ok1&&(c.time==0)) (wk [] .nil (s1 (s1 .nil))) (foll hR (cf h4 rfl))
  ·refine ai (fun h5=>?_) (fun h6=>?_)
   ·(first|apply u2|apply u3|apply u4|apply us);exact Q14 c.prio 0 100 _;exact Qf0 (ok&&(Qm1 c.prio 0 100)) (wk [0] (tO rfl (ts Cmd.lo) .nil) (sv (Q30 0 rfl rfl) (s1 (s1 .nil)))) (foll hR (ct h5 rfl))
   ·exact Qf0 (ok&&(c.prio==0)) (wk [0] (tO rfl (ts Cmd.lo) .nil) (sv (Q30 0 rfl rfl) (s1 (s1 .nil)))) (foll hR (cf h6 rfl))
 ·refine ai (fun h7=>?_) (fun h8=>?_)
  ·refine us (Qz5 c true false false true true true true szA _) ?_;(first|apply u2|apply u3|apply u4|apply us);exact Qka c.name szA _;(first|apply u2|apply u3|apply u4|apply us);exact Qka c.user szA _;(first|apply u2|apply u3|apply u4|apply us);exact Qka c.account szA _;(first|apply u2|apply u3|apply u4|apply us);exact Q1e c.user szA _;(first|apply u2|apply u3|apply u4|apply us);exact Q1e c.account szA _;(first|apply u2|apply u3|apply u4|apply us);exact ref08_waits_c c.after szA _;(first|apply u2|apply u3|apply u4|apply us);exact Qqc c.shape szA _;exact Qf0 ((((((((Qx2 c true false false true true true true)&&(QM3 c.name))&&(QM3 c.user))&&(QM3 c.account))&&(Q04 c.user))&&(Q04 c.account))&&(Qm6 c.after))&&((Qi1 c.shape)==0)) (wk [0] (tO rfl (ts Cmd.lo) .nil) (sv (Q30 0 rfl rfl) (s1 (s1 .nil)))) (foll hR (ct h7 rfl))
  ·refine QZ1 (fun (i:Bool)=>Q66 c i=R) (fun i=>[(1,AVal.ptr 0 0 18 0 0),(2,I 0),(3,Bo false),(5,I c.kind),(46,Bo i)]) (fun i=>[(0,AObj.row 104 18 [[I c.kind,I c.job,Sg c.name,Sg c.user,Sg c.account,I c.shape.kind,altL c.shape.alts,I c.shape.min,I c.shape.max,I c.shape.wall,I c.prio,Bo c.hasPrio,I c.time,Bo c.hasTime,depL c.after,I c.node,I c.nodes,I c.from_]])]) ?_ ?_
   ·clear hR;rintro i hR;(try dsimp only at hR);refine ai (fun h9=>?_) (fun h10=>?_)
    ·refine us (Qz5 c false true true true true true true szA _) ?_;(first|apply u2|apply u3|apply u4|apply us);exact Q14 c.job 1 99999 _;exact Qf0 ((Qx2 c false true true true true true true)&&(Qm1 c.job 1 99999)) (wk [0] (tO rfl (ts Cmd.lo) .nil) (sv (Q30 0 rfl rfl) (s1 (s1 .nil)))) (foll hR (ct h9 rfl))
    ·refine ai (fun h11=>?_) (fun h12=>?_)
     ·refine us (Qz5 c false true true true true true true szA _) ?_;(first|apply u2|apply u3|apply u4|apply us);exact Q14 c.job 0 99999 _;exact Qf0 ((Qx2 c false true true true true true true)&&(Qm1 c.job 0 99999)) (wk [0] (tO rfl (ts Cmd.lo) .nil) (sv (Q30 0 rfl rfl) (s1 (s1 .nil)))) (foll hR (cf h10 (ct h11 rfl)))
     ·refine ai (fun h13=>?_) (fun h14=>?_)
      ·refine us (Qz5 c false true false false true true true szA _) ?_;(first|apply u2|apply u3|apply u4|apply us);exact Q14 c.job 1 99999 _;exact Qf0 (((Qx2 c false true false false true true true)&&(Qm1 c.job 1 99999))&&(c.hasPrio||c.hasTime)) (wk [0] (tO rfl (ts Cmd.lo) .nil) (sv (Q30 0 rfl rfl) (s1 (s1 .nil)))) (foll hR (cf h10 (cf h12 (ct h13 rfl))))
      ·refine ai (fun h15=>?_) (fun h16=>?_)
       ·refine us (Qz5 c false true true true true false true szA _) ?_;(first|apply u2|apply u3|apply u4|apply us);exact Q14 c.job 1 99999 _;(first|apply u2|apply u3|apply u4|apply us);exact Q14 c.nodes 1 48 _;exact Qf0 (((Qx2 c false true true true true false true)&&(Qm1 c.job 1 99999))&&(Qm1 c.nodes 1 48)) (wk [0] (tO rfl (ts Cmd.lo) .nil) (sv (Q30 0 rfl rfl) (s1 (s1 .nil)))) (foll hR (cf h10 (cf h12 (cf h14 (ct h15 rfl)))))
       ·refine QZ1 (fun (i1:Bool)=>Qg7 c i1=R) (fun i1=>[(1,AVal.ptr 0 0 18 0 0),(2,I 0),(3,Bo false),(5,I c.kind),(98,Bo i1)]) (fun i1=>[(0,AObj.row 104 18 [[I c.kind,I c.job,Sg c.name,Sg c.user,Sg c.account,I c.shape.kind,altL c.shape.alts,I c.shape.min,I c.shape.max,I c.shape.wall,I c.prio,Bo c.hasPrio,I c.time,Bo c.hasTime,depL c.after,I c.node,I c.nodes,I c.from_]])]) ?_ ?_
        ·clear hR;rintro i1 hR;(try dsimp only at hR);refine ai (fun h17=>?_) (fun h18=>?_)
         ·refine us (Qz5 c true true true true false true true szA _) ?_;(first|apply u2|apply u3|apply u4|apply us);exact Q14 c.node 0 47 _;exact Qf0 ((Qx2 c true true true true false true true)&&(Qm1 c.node 0 47)) (wk [0] (tO rfl (ts Cmd.lo) .nil) (sv (Q30 0 rfl rfl) (s1 (s1 .nil)))) (foll hR (ct h17 rfl))
         ·refine ai (fun h19=>?_) (fun h20=>?_)
          ·refine us (Qz5 c true true true false true false false szA _) ?_;(first|apply u2|apply u3|apply u4|apply us);exact Q14 c.from_ 0 1000000 _;(first|apply u2|apply u3|apply u4|apply us);exact Q14 c.nodes 1 48 _;exact Qf0 ((((Qx2 c true true true false true false false)&&(Qm1 c.from_ 0 1000000))&&c.hasTime)&&(Qm1 c.nodes 1 48)) (wk [0] (tO rfl (ts Cmd.lo) .nil) (sv (Q30 0 rfl rfl) (s1 (s1 .nil)))) (foll hR (cf h18 (ct h19 rfl)))
          ·exact Qf0 false (wk [0] (tO rfl (ts Cmd.lo) .nil) (sv (Q30 0 rfl rfl) (s1 (s1 .nil)))) (foll hR (cf h18 (cf h20 rfl)))
        ·refine ai (fun h21=>?_) (fun h22=>?_)
         ·exact Qf0 (c.kind==7) (wk [0] (tO rfl (ts Cmd.lo) .nil) (sv (Q30 0 rfl rfl) (s1 (s1 (s1 (s1 .nil)))))) (foll hR (cf h10 (cf h12 (cf h14 (cf h16 (ct h21 rfl))))))
         ·refine ai (fun h23=>?_) (fun h24=>?_)
          ·exact Qf0 (c.kind==8) (wk [0] (tO rfl (ts Cmd.lo) .nil) (sv (Q30 0 rfl rfl) (s1 (s1 (s1 (s1 .nil)))))) (foll hR (cf h10 (cf h12 (cf h14 (cf h16 (cf h22 (ct h23 rfl)))))))
          ·exact Qf0 (c.kind==9) (wk [0] (tO rfl (ts Cmd.lo) .nil) (sv (Q30 0 rfl rfl) (s1 (s1 (s1 (s1 .nil)))))) (foll hR (cf h10 (cf h12 (cf h14 (cf h16 (cf h22 (cf h24 rfl)))))))
   ·refine ai (fun h25=>?_) (fun h26=>?_)
    ·exact Qf0 (c.kind==2) (wk [0] (tO rfl (ts Cmd.lo) .nil) (sv (Q30 0 rfl rfl) (s1 (s1 (s1 (s1 .nil)))))) (foll hR (cf h8 (ct h25 rfl)))
    ·refine ai (fun h27=>?_) (fun h28=>?_)
     ·exact Qf0 (c.kind==3) (wk [0] (tO rfl (ts Cmd.lo) .nil) (sv (Q30 0 rfl rfl) (s1 (s1 (s1 (s1 .nil)))))) (foll hR (cf h8 (cf h26 (ct h27 rfl))))
     ·refine ai (fun h29=>?_) (fun h30=>?_)
      ·exact Qf0 (c.kind==4) (wk [0] (tO rfl (ts Cmd.lo) .nil) (sv (Q30 0 rfl rfl) (s1 (s1 (s1 (s1 .nil)))))) (foll hR (cf h8 (cf h26 (cf h28 (ct h29 rfl)))))
      ·exact Qf0 (c.kind==11) (wk [0] (tO rfl (ts Cmd.lo) .nil) (sv (Q30 0 rfl rfl) (s1 (s1 (s1 (s1 .nil)))))) (foll hR (cf h8 (cf h26 (cf h28 (cf h30 rfl)))))
end Go.Proofs.YtjpgfmbccohngaaGreatDoor
namespace Go.Proofs.YtjpgfmbccohngaaGreatDoor
set_option linter.unusedSimpArgs false
set_option linter.unusedVariables false
open Go.Fw
set_option maxRecDepth 20000
set_option maxHeartbeats 4000000
attribute [local irreducible] ACalls AMoves
def Qn7 (c:Cmd):Int:=bif ((((decide ((c.shape.alts.length:Int) > 6))||(decide ((c.after.length:Int) > 4)))||(!(QXb c)))||(!(QWb c (Qj8 c)))) then 80 else 0
theorem QXf (c:Cmd) (hs0:c.sz):∀ objs,AGives Tryz.prog 73 [Cmd.a c] objs (I (Qn7 c)):=by
 generalize hR:Qn7 c=R;refine ga (.cons (Cmd.low _ _) .nil) lx (kp 3 [25]) Tryz.func73 ?_;have hk0:=hs0;obtain ⟨z3,z4,z5,z6,z7⟩:c.name.size<=4294967296∧c.user.size<=4294967296∧c.account.size<=4294967296∧(c.shape.alts.length<=4294967296)∧c.after.length<=4294967296:=hs0;refine dchk (by kernel_rfl) ?_;(first|apply u2|apply u3|apply u4|apply us);exact cmd_fits_c c (by first|(exact Qp5 _ (by assumption))|exact szA) _;(first|apply u2|apply u3|apply u4|apply us);exact cmd_bare_c c (by first|(exact Qp5 _ (by assumption))|exact szA) _;(first|apply u2|apply u3|apply u4|apply us);exact cmd_Same_c c (Qj8 c) (by first|(exact Qp5 _ (by assumption))|exact szA) (by first|(exact Qp5 _ (by assumption))|exact szA) _;(repeat ((first|refine ai rfl ?_|refine ai (fun _=>rfl) ?_|refine ai (fun _=>cmd_fits_c c (by first|(exact Qp5 _ (by assumption))|exact szA) _) ?_|refine ai (fun _=>cmd_bare_c c (by first|(exact Qp5 _ (by assumption))|exact szA) _) ?_|refine ai (fun _=>cmd_Same_c c (Qj8 c) (by first|(exact Qp5 _ (by assumption))|exact szA) (by first|(exact Qp5 _ (by assumption))|exact szA) _) ?_)));refine ai (fun h1=>?_) (fun h2=>?_)
 ·obtain rfl:=foll hR (ct h1 rfl);exact Q00 lx sr
 ·obtain rfl:=foll hR (cf h2 rfl);exact Q00 lx sr
def QF3 (j:Job):List Dep->Nat->Int
 | [],_=>bif (!(Qj1 j)) then 140 else 0
 | x_ :: r,i=>bif (decide (x_.job >= j.id)) then 140 else QF3 j r (i+1)
def Qt0 (j:Job):Int:=bif (((((((Qk4 (⟨1,0,j.name,j.user,j.account,j.shape,j.prio,true,0,false,j.after,0,0,0⟩:Cmd))!=0)||(decide (j.id<1)))||(decide (j.id > 99999)))||(!(QU0 j.born)))||(decide (j.used<0)))||(decide (j.used > 1000000000000))) then 140 else QF3 j j.after 0
theorem ref14_Check_c (j:Job) (hs0:j.sz):∀ objs,AGives Tryz.prog 50 [Job.a j] objs (I (Qt0 j)):=by
 generalize hR:Qt0 j=R;refine ga (.cons (Job.low _ _) .nil) lx (kp 5 [46,51,62,65]) Tryz.func50 ?_;have hk0:=hs0;obtain ⟨z9,z10,z11,z12,z13⟩:j.name.size<=4294967296∧j.user.size<=4294967296∧j.account.size<=4294967296∧(j.shape.alts.length<=4294967296)∧j.after.length<=4294967296:=hs0;refine us (ref08_Check_c (⟨1,0,j.name,j.user,j.account,j.shape,j.prio,true,0,false,j.after,0,0,0⟩:Cmd) szA _) ?_;(first|apply u2|apply u3|apply u4|apply us);exact QB5 j.born _;refine ai (fun h1=>?_) (fun h2=>?_)
 ·obtain rfl:=foll hR (ct h1 rfl);exact Q00 lx sr
 ·refine Qj0 (fun (i:Nat)=>QF3 j (List.drop i j.after) i=R∧i<=j.after.length) (fun i=>j.after.length - i) (fun i=>[(1,AVal.ptr 0 0 20 0 0),(2,I 0),(4,I (i:Int))]) (fun i=>[(0,AObj.row 35 20 [[I j.id,Sg j.name,Sg j.user,Sg j.account,I j.shape.kind,altL j.shape.alts,I j.shape.min,I j.shape.max,I j.shape.wall,I j.prio,depL j.after,I j.state,Bo j.held,I j.born,I j.promise,I j.choice,I j.start,I j.limit,U j.nodes,I j.used]])]) 0 (wk [0] (tO rfl (ts Job.lo) .nil) (sv (Q30 0 rfl rfl) (s1 (s1 .nil)))) ⟨foll hR (cf h2 rfl),by exact omA⟩ ?_;clear hR;rintro i ⟨hR,hj⟩;(try dsimp only at hR hj);refine ai (fun h3=>?_) (fun h4=>?_)
  ·have hlt:=ltA h3;rw [Qc0 Dep.zero hlt] at hR;refine dchk (by kernel_rfl) ?_;refine ai gkA ?_;(repeat ((first|refine ai rfl ?_|refine ai (fun _=>rfl) ?_)));refine ai (fun h5=>?_) (fun h6=>?_)
   ·have qh5:=of_decide_eq_true h5;obtain rfl:=foll hR (ct h5 rfl);exact Q00 lx sr
   ·have qh6:=of_decide_eq_false h6;exact Qn0 (i+1) (wk [0] (tO rfl (ts Job.lo) .nil) (sv (Q30 0 rfl rfl) (s1 (sv (Qb0 (I_eq (wr omA)) lx) .nil)))) omA ⟨foll hR (cf h6 rfl),by exact omA⟩
  ·rw [Qk0 (l:=j.after) (j:=i) (geA h4)] at hR;refine us (ref14_state_c j szA _) ?_;refine ai (fun h7=>?_) (fun h8=>?_)
   ·obtain rfl:=foll hR (ct h7 rfl);exact Q00 lx sr
   ·obtain rfl:=foll hR (cf h8 rfl);exact Q00 lx sr
theorem Q13 {j:Job} (h:((Qt0 j)!=0)=false):Qj1 j=true:=by
 have g1:∀ (l:List Dep) (i:Nat),QF3 j l i=0->Qj1 j=true:=by
  intro l
  induction l with
  | nil =>
   intro i hi
   rw [QF3] at hi
   cases hs:Qj1 j with
   | true=>rfl
   | false=>rw [hs] at hi;cases hi
  | cons x r ih =>
   intro i hi
   rw [QF3] at hi
   cases hx:decide (x.job >= j.id) with
   | true=>rw [hx] at hi;cases hi
   | false=>rw [hx] at hi;exact ih _ hi
 simp only [Qt0] at h
 revert h
 cases (((((((Qk4 (⟨1,0,j.name,j.user,j.account,j.shape,j.prio,true,0,false,j.after,0,0,0⟩:Cmd))!=0)||(decide (j.id<1)))||(decide (j.id > 99999)))||(!(QU0 j.born)))||(decide (j.used<0)))||(decide (j.used > 1000000000000))) with
 | true=>simp
 | false =>
  intro h
  exact g1 _ _ (by simpa using h)
theorem Qt8 {j:Job} (h:Qj1 j=true):((j.state != 1)||(j.promise==(-1)))=false->0<=j.choice∧j.choice<((Q60 j.shape).length:Int):=by
 intro hq
 rw [Bool.or_eq_false_iff] at hq
 have h1:(j.state==1)=true:=by simpa using hq.1
 rw [Qj1,h1,hq.2] at h
 simp only [cond_true,cond_false] at h
 revert h
 cases (((j.start != 0)||(j.limit != 0))||(j.nodes != 0)) with
 | true=>intro h;cases h
 | false =>
  intro h
  simp only [cond_false,Bool.and_eq_true,decide_eq_true_eq] at h
  have hw:=h.1.2
  unfold QM1 at hw
  cases hc:((decide (j.choice<0))||(decide (j.choice >= ((Q60 j.shape).length:Int)))) with
  | true=>rw [hc] at hw;simp at hw
  | false=>simp at hc;omega
end Go.Proofs.YtjpgfmbccohngaaGreatDoor
namespace Go.Proofs.YtjpgfmbccohngaaGreatDoor
set_option linter.unusedSimpArgs false
set_option linter.unusedVariables false
open Go.Fw
set_option maxRecDepth 20000
set_option maxHeartbeats 4000000
attribute [local irreducible] ACalls AMoves
def QW2 (j:Job):Int:=bif ((((((decide (j.id<1))||(decide (j.id > 99999)))||(!(Q54 j.born)))||(j.used != (Qa6 j.used)))||((Qn7 (QY1 j))!=0))||(QC0 j.after (fun (y:Dep)=>(decide (y.job >= j.id))))) then 140 else bif (j.state==1) then bif (!(QG2 j)) then 140 else 0 else bif (j.state==2) then bif (!(QV3 j)) then 140 else 0 else bif (!(Qb8 j.state)) then 140 else bif (!(QL4 j)) then 140 else 0
theorem Qp9 (j:Job) (hs0:j.sz):∀ objs,AGives Tryz.prog 23 [Job.a j] objs (I (QW2 j)):=by
 generalize hR:QW2 j=R;refine ga (.cons (Job.low _ _) .nil) lx (kp 6 [42,45,51,57,64]) Tryz.func23 ?_;have hk0:=hs0;obtain ⟨z19,z20,z21,z22,z23⟩:j.name.size<=4294967296∧j.user.size<=4294967296∧j.account.size<=4294967296∧(j.shape.alts.length<=4294967296)∧j.after.length<=4294967296:=hs0;refine dchk (by kernel_rfl) ?_;(first|apply u2|apply u3|apply u4|apply us);exact QM5 j.born _;(first|apply u2|apply u3|apply u4|apply us);exact QH9 j.used _;(first|apply u2|apply u3|apply u4|apply us);exact Qp7 j _;(first|apply u2|apply u3|apply u4|apply us);exact QXf (QY1 j) szA _;have cl1:∀ (y1:Dep),AMoves Tryz.prog 70 [Dep.a y1,AVal.ptr 0 0 20 0 0] [(0,AObj.row 35 20 [[I j.id,Sg j.name,Sg j.user,Sg j.account,I j.shape.kind,altL j.shape.alts,I j.shape.min,I j.shape.max,I j.shape.wall,I j.prio,depL j.after,I j.state,Bo j.held,I j.born,I j.promise,I j.choice,I j.start,I j.limit,U j.nodes,I j.used]])] 1 (Bo ((fun (y:Dep)=>(decide (y.job >= j.id))) y1)) [(0,AObj.row 35 20 [[I j.id,Sg j.name,Sg j.user,Sg j.account,I j.shape.kind,altL j.shape.alts,I j.shape.min,I j.shape.max,I j.shape.wall,I j.prio,depL j.after,I j.state,Bo j.held,I j.born,I j.promise,I j.choice,I j.start,I j.limit,U j.nodes,I j.used]])]:=by
  intro y1;have hR:(fun (y:Dep)=>(decide (y.job >= j.id))) y1=(fun (y:Dep)=>(decide (y.job >= j.id))) y1:=rfl;refine mo (kp 4 []) Tryz.func70 ?_;refine Qq0 (fun r:Bool=>Bo r) (fun _=>[(0,AObj.row 35 20 [[I j.id,Sg j.name,Sg j.user,Sg j.account,I j.shape.kind,altL j.shape.alts,I j.shape.min,I j.shape.max,I j.shape.wall,I j.prio,depL j.after,I j.state,Bo j.held,I j.born,I j.promise,I j.choice,I j.start,I j.limit,U j.nodes,I j.used]])]) (leaf:=(decide (y1.job >= j.id))) (foll hR rfl) ?_;exact tt [0] (tO rfl (ts Job.lo) .nil) t1
 have hof1:AMoves Tryz.prog 75 [depL j.after,AVal.fn (.func 70) [] [AVal.ptr 0 0 20 0 0]] [(0,AObj.row 35 20 [[I j.id,Sg j.name,Sg j.user,Sg j.account,I j.shape.kind,altL j.shape.alts,I j.shape.min,I j.shape.max,I j.shape.wall,I j.prio,depL j.after,I j.state,Bo j.held,I j.born,I j.promise,I j.choice,I j.start,I j.limit,U j.nodes,I j.used]])] 1 (Bo (QC0 j.after (fun (y:Dep)=>(decide (y.job >= j.id))))) [(0,AObj.row 35 20 [[I j.id,Sg j.name,Sg j.user,Sg j.account,I j.shape.kind,altL j.shape.alts,I j.shape.min,I j.shape.max,I j.shape.wall,I j.prio,depL j.after,I j.state,Bo j.held,I j.born,I j.promise,I j.choice,I j.start,I j.limit,U j.nodes,I j.used]])]:=by
  have hR:QC0 j.after (fun (y:Dep)=>(decide (y.job >= j.id)))=QC0 j.after (fun (y:Dep)=>(decide (y.job >= j.id))):=rfl;refine mo (kp 5 []) Tryz.func75 ?_;have hof2:AMoves Tryz.prog 145 [depL j.after,AVal.fn (.func 70) [] [AVal.ptr 0 0 20 0 0]] [(0,AObj.row 35 20 [[I j.id,Sg j.name,Sg j.user,Sg j.account,I j.shape.kind,altL j.shape.alts,I j.shape.min,I j.shape.max,I j.shape.wall,I j.prio,depL j.after,I j.state,Bo j.held,I j.born,I j.promise,I j.choice,I j.start,I j.limit,U j.nodes,I j.used]])] 1 (I (Qa1 j.after (fun (y:Dep)=>(decide (y.job >= j.id))))) [(0,AObj.row 35 20 [[I j.id,Sg j.name,Sg j.user,Sg j.account,I j.shape.kind,altL j.shape.alts,I j.shape.min,I j.shape.max,I j.shape.wall,I j.prio,depL j.after,I j.state,Bo j.held,I j.born,I j.promise,I j.choice,I j.start,I j.limit,U j.nodes,I j.used]])]:=by
   have hR:Qa1 j.after (fun (y:Dep)=>(decide (y.job >= j.id)))=Qa1 j.after (fun (y:Dep)=>(decide (y.job >= j.id))):=rfl;refine mo (kp 6 [7,8,9,16]) Tryz.func145 ?_;refine Qj0 (fun (i:Nat)=>Qv3 (fun (y:Dep)=>(decide (y.job >= j.id))) (List.drop i j.after) i=Qa1 j.after (fun (y:Dep)=>(decide (y.job >= j.id)))∧i<=j.after.length) (fun i=>j.after.length - i) (fun i=>[(0,depL j.after),(1,AVal.fn (.func 70) [] [AVal.ptr 0 0 20 0 0]),(4,I 0),(7,I (j.after.length:Int)),(8,I (i:Int))]) (fun i=>[(0,AObj.row 35 20 [[I j.id,Sg j.name,Sg j.user,Sg j.account,I j.shape.kind,altL j.shape.alts,I j.shape.min,I j.shape.max,I j.shape.wall,I j.prio,depL j.after,I j.state,Bo j.held,I j.born,I j.promise,I j.choice,I j.start,I j.limit,U j.nodes,I j.used]])]) 0 (wk [0] (tO rfl (ts Job.lo) .nil) (sl lw (sv (QZ0 .nil (cv (Q30 0 rfl rfl) .nil)) (s1 (s1 (s1 .nil)))))) ⟨foll hR rfl,by exact omA⟩ ?_;clear hR;rintro i ⟨hR,hj⟩;(try dsimp only at hR hj);refine ai (fun h1=>?_) (fun h2=>?_)
   ·have hlt:=ltA h1;rw [Qc0 Dep.zero hlt] at hR;refine ai gkA ?_;refine us (mv [0] (cl1 (j.after.getD i Dep.zero)) (dO (ds Job.lo) .nil) (dl (Dep.low _ _) (dp .nil)) (rO (re Job.lo) .nil) rx) ?_;refine ai (fun h3=>?_) (fun h4=>?_)
    ·refine Qq0 (fun r:Int=>I r) (fun r:Int=>[(0,AObj.row 35 20 [[I j.id,Sg j.name,Sg j.user,Sg j.account,I j.shape.kind,altL j.shape.alts,I j.shape.min,I j.shape.max,I j.shape.wall,I j.prio,depL j.after,I j.state,Bo j.held,I j.born,I j.promise,I j.choice,I j.start,I j.limit,U j.nodes,I j.used]])]) (leaf:=(i:Int)) (foll hR (ct h3 rfl)) ?_;exact tt [0] (tO rfl (ts Job.lo) .nil) t1
    ·exact Qn0 (i+1) (wk [0] (tO rfl (ts Job.lo) .nil) (sl lw (sv (QZ0 .nil (cv (Q30 0 rfl rfl) .nil)) (s1 (s1 (sv (Qb0 (I_eq (wr omA)) lx) .nil)))))) omA ⟨foll hR (cf h4 rfl),by exact omA⟩
   ·rw [Qk0 (l:=j.after) (j:=i) (geA h2)] at hR;refine Qq0 (fun r:Int=>I r) (fun r:Int=>[(0,AObj.row 35 20 [[I j.id,Sg j.name,Sg j.user,Sg j.account,I j.shape.kind,altL j.shape.alts,I j.shape.min,I j.shape.max,I j.shape.wall,I j.prio,depL j.after,I j.state,Bo j.held,I j.born,I j.promise,I j.choice,I j.start,I j.limit,U j.nodes,I j.used]])]) (leaf:=(-1)) (foll hR rfl) ?_;exact tt [0] (tO rfl (ts Job.lo) .nil) t1
  refine us (mv [0] (hof2) (dO (ds Job.lo) .nil) (dl lw (dv (dn_fn .nil (dp .nil)) .nil)) (rO (re Job.lo) .nil) rx) ?_;refine Qq0 (fun r:Bool=>Bo r) (fun r:Bool=>[(0,AObj.row 35 20 [[I j.id,Sg j.name,Sg j.user,Sg j.account,I j.shape.kind,altL j.shape.alts,I j.shape.min,I j.shape.max,I j.shape.wall,I j.prio,depL j.after,I j.state,Bo j.held,I j.born,I j.promise,I j.choice,I j.start,I j.limit,U j.nodes,I j.used]])]) (leaf:=(decide ((Qa1 j.after (fun (y:Dep)=>(decide (y.job >= j.id)))) >= 0))) (foll hR rfl) ?_;exact tt [0] (tO rfl (ts Job.lo) .nil) t1
 (first|apply u2|apply u3|apply u4|apply us);exact mv [0] (hof1) (dO (ds Job.lo) .nil) (dl lw (dv (dn_fn .nil (dp .nil)) .nil)) (rO (re Job.lo) .nil) rx;(repeat ((first|refine ai rfl ?_|refine ai (fun _=>rfl) ?_|refine ai (fun _=>QM5 j.born _) ?_|refine ai (fun _=>QH9 j.used _) ?_|refine ai (fun _=>Qp7 j _) ?_|refine ai (fun _=>QXf (QY1 j) szA _) ?_)));refine ai (fun h5=>?_) (fun h6=>?_)
 ·obtain rfl:=foll hR (ct h5 rfl);exact Q00 lx sr
 ·refine ai (fun h7=>?_) (fun h8=>?_)
  ·refine us (Q6d j szA _) ?_;refine ai (fun h9=>?_) (fun h10=>?_)
   ·obtain rfl:=foll hR (cf h6 (ct h7 (ct h9 rfl)));exact Q00 lx sr
   ·obtain rfl:=foll hR (cf h6 (ct h7 (cf h10 rfl)));exact Q00 lx sr
  ·refine ai (fun h11=>?_) (fun h12=>?_)
   ·refine us (Qcc j szA _) ?_;refine ai (fun h13=>?_) (fun h14=>?_)
    ·obtain rfl:=foll hR (cf h6 (cf h8 (ct h11 (ct h13 rfl))));exact Q00 lx sr
    ·obtain rfl:=foll hR (cf h6 (cf h8 (ct h11 (cf h14 rfl))));exact Q00 lx sr
   ·refine us (job_ended_c j.state _) ?_;refine ai (fun h15=>?_) (fun h16=>?_)
    ·obtain rfl:=foll hR (cf h6 (cf h8 (cf h12 (ct h15 rfl))));exact Q00 lx sr
    ·refine us (Qpg j _) ?_;refine ai (fun h17=>?_) (fun h18=>?_)
     ·obtain rfl:=foll hR (cf h6 (cf h8 (cf h12 (cf h16 (ct h17 rfl)))));exact Q00 lx sr
     ·obtain rfl:=foll hR (cf h6 (cf h8 (cf h12 (cf h16 (cf h18 rfl)))));exact Q00 lx sr
theorem Qie {j:Job} (h:((((QW2 j)!=0)||(j.state != 1))||(decide (j.promise<0)))=false):0<=j.choice∧j.choice<((QN0 j.shape).length:Int):=by
 simp only [Bool.or_eq_false_iff,bne_eq_false_iff_eq,decide_eq_false_iff_not] at h
 obtain ⟨⟨h1,h2⟩,h3⟩:=h
 have hq:QG2 j=true:=by
  unfold QW2 at h1
  revert h1
  rw [show (j.state==1)=true by simpa using h2]
  cases ((((((decide (j.id<1))||(decide (j.id > 99999)))||(!(Q54 j.born)))||(j.used != (Qa6 j.used)))||((Qn7 (QY1 j))!=0))||(QC0 j.after (fun (y:Dep)=>(decide (y.job >= j.id))))) with
  | true=>simp
  | false =>
   cases QG2 j with
   | true=>simp
   | false=>simp
 unfold QG2 at hq
 simp only [Bool.and_eq_true,Bool.or_eq_true] at hq
 rcases hq.2 with hp|hp
 ·have:=hp.1
  simp at this
  omega
 ·have ho:=hp.1.2
  unfold Q61 at ho
  cases hc:((decide (j.choice<0))||(decide (j.choice >= ((QN0 j.shape).length:Int)))) with
  | true=>rw [hc] at ho;cases ho
  | false=>simp at hc;omega
def QG3 :List Job->Int->Nat->Int
 | [],_,_=>0
 | x_ :: r,last,i=>bif ((((i:Int)==40)||((Qt0 x_)!=0))||(decide (x_.id<=last))) then 140 else QG3 r x_.id (i+1)
def Qk1 (l:List Job):Int:=QG3 l 0 0
theorem Quc (l:List Job) (hs0:l.length<=4294967296∧(∀ y ∈ l,y.sz)):∀ objs,AGives Tryz.prog 92 [jobL l] objs (I (Qk1 l)):=by
 generalize hR:Qk1 l=R;refine ga (.cons lw .nil) lx (kp 5 [8,29]) Tryz.func92 ?_;have hk0:=hs0;obtain ⟨z10,z11⟩:l.length<=4294967296∧(∀ y ∈ l,y.sz):=hs0;refine Qs0 (fun (last:Int) (i:Nat)=>QG3 (List.drop i l) last i=R∧i<=l.length) (fun last i=>l.length - i) (fun last i=>[(0,jobL l),(2,I 0),(3,I last),(4,I (i:Int))]) (fun last i=>[]) 0 0 (wk [] .nil (sl lw (s1 (s1 (s1 .nil))))) ⟨foll hR rfl,by exact omA⟩ ?_;clear hR;rintro last i ⟨hR,hj⟩;(try dsimp only at hR hj);refine ai (fun h1=>?_) (fun h2=>?_)
 ·have hlt:=ltA h1;rw [Qc0 Job.zero hlt] at hR;have hxz:(l.getD i Job.zero).sz:=Q90 (by first|assumption|grind) (Job.szz _);have hkz:=hxz;obtain ⟨z3,z4,z5,z6,z7⟩:((l.getD i Job.zero).name).size<=4294967296∧((l.getD i Job.zero).user).size<=4294967296∧((l.getD i Job.zero).account).size<=4294967296∧((((l.getD i Job.zero).shape).alts).length<=4294967296)∧((l.getD i Job.zero).after).length<=4294967296:=hxz;refine ai gkA ?_;(first|apply u2|apply u3|apply u4|apply us);exact ref14_Check_c (l.getD i Job.zero) szA _;refine ai gkA ?_;refine ai (fun h8=>?_) (fun h9=>?_)
  ·obtain rfl:=foll hR (ct h8 rfl);exact Q00 lx sr
  ·refine ai gkA ?_;exact Qe0 ((l.getD i Job.zero).id) (i+1) (wk [] .nil (sl lw (s1 (s1 (sv (Qb0 (I_eq (wr omA)) lx) .nil))))) omA ⟨foll hR (cf h9 rfl),by exact omA⟩
 ·rw [Qk0 (l:=l) (j:=i) (geA h2)] at hR;obtain rfl:=foll hR rfl;exact Q00 lx sr
def QL7 (j:Job) (at_:Int) (choice:Int):Job × Int:=bif ((Qt0 j)!=0) then (Job.zero,140) else bif ((j.state != 1)||j.held) then (Job.zero,141) else bif ((!(QU0 at_))||((QM1 j.shape choice)==0)) then (Job.zero,2) else ({ j with promise:=at_,choice:=choice },0)
end Go.Proofs.YtjpgfmbccohngaaGreatDoor
namespace Go.Proofs.YtjpgfmbccohngaaGreatDoor
set_option linter.unusedSimpArgs false
set_option linter.unusedVariables false
open Go.Fw
set_option maxRecDepth 20000
set_option maxHeartbeats 4000000
attribute [local irreducible] ACalls AMoves
def Qi5 (l:List Job):List Job->Nat->Int
 | [],_=>0
 | x_ :: r,i=>bif (((QW2 x_)!=0)||((decide ((i:Int) > 0))&&(decide ((l.getD (Int.toNat (w64 ((i:Int) - 1))) Job.zero).id >= x_.id)))) then 140 else Qi5 l r (i+1)
def QG0 (l:List Job):Int:=bif (decide ((l.length:Int) > 40)) then 140 else Qi5 l l 0
theorem QX4 (l:List Job) (hs0:l.length<=4294967296∧(∀ y ∈ l,y.sz)):∀ objs,AGives Tryz.prog 35 [jobL l] objs (I (QG0 l)):=by
 generalize hR:QG0 l=R;refine ga (.cons lw .nil) lx (kp 5 [7,8,9,10,11,32]) Tryz.func35 ?_;have hk0:=hs0;obtain ⟨z12,z13⟩:l.length<=4294967296∧(∀ y ∈ l,y.sz):=hs0;refine ai (fun h1=>?_) (fun h2=>?_)
 ·have qh1:=of_decide_eq_true h1;obtain rfl:=foll hR (ct h1 rfl);exact Q00 lx sr
 ·have qh2:=of_decide_eq_false h2;refine Qj0 (fun (i:Nat)=>Qi5 l (List.drop i l) i=R∧i<=l.length) (fun i=>l.length - i) (fun i=>[(0,jobL l),(2,I 0),(8,jobL l),(9,I (l.length:Int)),(10,I (i:Int))]) (fun i=>[]) 0 (wk [] .nil (sl lw (s1 (sl lw (s1 (s1 .nil)))))) ⟨foll hR (cf h2 rfl),by exact omA⟩ ?_;clear hR;rintro i ⟨hR,hj⟩;(try dsimp only at hR hj);refine ai (fun h3=>?_) (fun h4=>?_)
  ·have hlt:=ltA h3;rw [Qc0 Job.zero hlt] at hR;have hxz:(l.getD i Job.zero).sz:=Q90 (by first|assumption|grind) (Job.szz _);have hkz:=hxz;obtain ⟨z5,z6,z7,z8,z9⟩:((l.getD i Job.zero).name).size<=4294967296∧((l.getD i Job.zero).user).size<=4294967296∧((l.getD i Job.zero).account).size<=4294967296∧((((l.getD i Job.zero).shape).alts).length<=4294967296)∧((l.getD i Job.zero).after).length<=4294967296:=hxz;refine ai gkA ?_;refine dchk (by kernel_rfl) ?_;(first|apply u2|apply u3|apply u4|apply us);exact Qp9 (l.getD i Job.zero) szA _;refine ai gkA ?_;(repeat ((first|refine ai rfl ?_|refine ai (fun _=>rfl) ?_|refine ai (fun _=>Qp9 (l.getD i Job.zero) szA _) ?_)));refine ai (fun h10=>?_) (fun h11=>?_)
   ·obtain rfl:=foll hR (ct h10 rfl);exact Q00 lx sr
   ·exact Qn0 (i+1) (wk [] .nil (sl lw (s1 (sl lw (s1 (sv (Qb0 (I_eq (wr omA)) lx) .nil)))))) omA ⟨foll hR (cf h11 rfl),by exact omA⟩
  ·rw [Qk0 (l:=l) (j:=i) (geA h4)] at hR;obtain rfl:=foll hR rfl;exact Q00 lx sr
def Q20 (j:Job):Int × Int × Int × Bool:=bif ((((QW2 j)!=0)||(j.state != 1))||(decide (j.promise<0))) then (0,0,0,false) else (j.promise,(w64 (((QN0 j.shape).getD (Int.toNat j.choice) Alt.zero).wall+12)),((QN0 j.shape).getD (Int.toNat j.choice) Alt.zero).nodes,true)
theorem Qw7 (j:Job) (hs0:j.sz):∀ objs,AGives Tryz.prog 38 [Job.a j] objs (AVal.tup [I ((Q20 j).1),I ((Q20 j).2.1),I ((Q20 j).2.2.1),Bo ((Q20 j).2.2.2)]):=by
 generalize hR:Q20 j=R;refine ga (.cons (Job.low _ _) .nil) (Low.tup' (l1 (l1 (l1 (l1 .nil))))) (kp 7 [19]) Tryz.func38 ?_;have hk0:=hs0;obtain ⟨z3,z4,z5,z6,z7⟩:j.name.size<=4294967296∧j.user.size<=4294967296∧j.account.size<=4294967296∧(j.shape.alts.length<=4294967296)∧j.after.length<=4294967296:=hs0;refine us (Qp9 j szA _) ?_;refine ai (fun h1=>?_) (fun h2=>?_)
 ·obtain rfl:=foll hR (ct h1 rfl);exact Q00 (Low.tup' (l1 (l1 (l1 (l1 .nil))))) (Seen.tup (e1 (e1 (e1 (e1 .nil)))))
 ·refine dchk (by kernel_rfl) ?_;(first|apply u2|apply u3|apply u4|apply us);exact QF4 j.shape szA _;refine And.intro (by first|exact fun hg=>decide_eq_true (by first|((have q:=Qie (by assumption);omega))|exact ckA)|exact gkA) ?_;(repeat ((first|refine ai rfl ?_|refine ai (fun _=>rfl) ?_|refine ai (fun _=>QF4 j.shape szA _) ?_)));(try (refine dchk (by kernel_rfl) ?_));(repeat ((first|refine ai rfl ?_|refine ai (fun _=>rfl) ?_)));obtain rfl:=foll hR (cf h2 rfl);exact Q00 (Low.tup' (l1 (l1 (l1 (l1 .nil))))) (Seen.tup (e1 (e1 (e1 (e1 .nil)))))
def Qf4 (j:Job) (at_:Int) (choice:Int):Job × Int:=bif ((QW2 j)!=0) then (Job.zero,(QW2 j)) else bif ((j.state != 1)||j.held) then (Job.zero,141) else bif ((!(Q61 j choice).2)||(!(Q54 at_))) then (Job.zero,2) else ({ j with promise:=at_,choice:=choice },0)
theorem job_Promise_c (j:Job) (at_:Int) (choice:Int) (hs0:j.sz):∀ objs,AGives Tryz.prog 62 [Job.a j,I at_,I choice] objs (AVal.tup [Job.a ((Qf4 j at_ choice).1),I ((Qf4 j at_ choice).2)]):=by
 generalize hR:Qf4 j at_ choice=R;refine ga (.cons (Job.low _ _) (l1 (l1 .nil))) (Low.tup' (.cons (Job.low _ _) (l1 .nil))) (kp 9 []) Tryz.func62 ?_;have hk0:=hs0;obtain ⟨z7,z8,z9,z10,z11⟩:j.name.size<=4294967296∧j.user.size<=4294967296∧j.account.size<=4294967296∧(j.shape.alts.length<=4294967296)∧j.after.length<=4294967296:=hs0;refine ACalls.of_cwp (fun _=>true) Tryz.func134 rfl rfl ?_;refine us (Qp9 j szA _) ?_;refine ai (fun h1=>?_) (fun h2=>?_)
 ·refine ⟨_,_,Told.refl,?_⟩;obtain rfl:=foll hR (ct h1 rfl);exact Q00 (Low.tup' (.cons (Job.low _ _) (l1 .nil))) (Seen.tup (ev (Seen.agg (e1 (e1 (e1 (e1 (e1 (ev (QS0) (e1 (e1 (e1 (e1 (ev (QS0) (e1 (e1 (e1 (e1 (e1 (e1 (e1 (e1 (e1 .nil))))))))))))))))))))) (e1 .nil)))
 ·refine ACalls.of_cwp (fun _=>true) Tryz.func132 rfl rfl ?_;refine ai (fun h3=>?_) (fun h4=>?_)
  ·refine ⟨_,_,Told.refl,?_⟩;refine ai (fun _=>?_) (fun h=>nomatch h);refine ⟨_,_,Told.refl,?_⟩;obtain rfl:=foll hR (cf h2 (ct h3 rfl));exact Q00 (Low.tup' (.cons (Job.low _ _) (l1 .nil))) (Seen.tup (ev (Seen.agg (e1 (e1 (e1 (e1 (e1 (ev (QS0) (e1 (e1 (e1 (e1 (ev (QS0) (e1 (e1 (e1 (e1 (e1 (e1 (e1 (e1 (e1 .nil))))))))))))))))))))) (e1 .nil)))
  ·refine us (QZ6 j choice szA _) ?_;(first|apply u2|apply u3|apply u4|apply us);exact QM5 at_ _;refine ai (fun h5=>?_) (fun h6=>?_)
   ·refine ⟨_,_,Told.refl,?_⟩;refine ai (fun _=>?_) (fun h=>nomatch h);refine ⟨_,_,Told.refl,?_⟩;obtain rfl:=foll hR (cf h2 (cf h4 (ct h5 rfl)));exact Q00 (Low.tup' (.cons (Job.low _ _) (l1 .nil))) (Seen.tup (ev (Seen.agg (e1 (e1 (e1 (e1 (e1 (ev (QS0) (e1 (e1 (e1 (e1 (ev (QS0) (e1 (e1 (e1 (e1 (e1 (e1 (e1 (e1 (e1 .nil))))))))))))))))))))) (e1 .nil)))
   ·refine ⟨_,_,Told.refl,?_⟩;refine ai (fun h=>nomatch h) (fun _=>?_);refine us (job_copied_c j szA _) ?_;refine ACalls.of_cwp (fun _=>true) Tryz.func135 rfl rfl ?_;refine dchk (by kernel_rfl) ?_;(repeat ((first|refine ai rfl ?_|refine ai (fun _=>rfl) ?_)));refine ⟨_,_,Told.refl,?_⟩;refine ⟨_,_,Told.refl,?_⟩;obtain rfl:=foll hR (cf h2 (cf h4 (cf h6 rfl)));exact Q00 (Low.tup' (.cons (Job.low _ _) (l1 .nil))) (Seen.tup (e1 (e1 .nil)))
theorem QYa {j:Job} (a c:Int) (h:j.sz):(Qf4 j a c).1.sz:=by
 unfold Qf4
 repeat' first|exact Job.szz _|exact h|(rw [Bool.cond_eq_ite];split)
def Qp6 (s:State):Int:=bif ((((!(QU0 s.now))||((Qxb s.nodes)!=0))||((Qk1 s.jobs)!=0))||((Qh8 s.books)!=0)) then 141 else 0
theorem QP9 {s:State} (h:((Qp6 s)!=0)=false):((Qk1 s.jobs)!=0)=false:=by
 simp only [Qp6] at h
 revert h
 cases ((Qk1 s.jobs)!=0) with
 | true=>simp
 | false=>intro _;rfl
def Q86 (x_:Job):List Int->Bool->Nat->Bool × Nat
 | [],meant,k=>(meant,k)
 | x_1 :: r,meant,k=>Q86 x_ r (meant||(x_1==x_.id)) (k+1)
def Qb5 (l:List Usage) (out:List Job) (x_:Job):Nat->Nat->Nat
 | 0,_=>0
 | m+1,n=>bif ((decide ((n:Int)<(out.length:Int)))&&(Qo6 l (out.getD n Job.zero) x_)) then Qb5 l out x_ m (n+1) else n
def Qa5 (l:List Usage) (ids:List Int):List Job->List Job->Nat->(List Job) × Nat
 | [],out,i=>(out,i)
 | x_ :: r,out,i=>(fun p1:Bool × Nat=>bif (!p1.1) then Qa5 l ids r out (i+1) else (fun p2:Nat=>Qa5 l ids r (((List.take p2 out)++([x_]:List Job))++(List.drop p2 out)) (i+1)) (Qb5 l out x_ ((Int.toNat ((out.length:Int) - (0:Int)))+1) 0)) (Q86 x_ ids false 0)
def Qc5 :List Job->List Int->Nat->(List Int) × Nat
 | [],told,i1=>(told,i1)
 | x_2 :: r,told,i1=>Qc5 r (told++([x_2.id]:List Int)) (i1+1)
def Q8b (told:List Int) (i1:Nat):(List Int):=told
def Q7b (out:List Job) (i:Nat):(List Int):=Q8b ((Qc5 out [] 0).1) ((Qc5 out [] 0).2)
def QD1 (jobs:List Job) (l:List Usage) (ids:List Int):(List Int):=bif ((Qk1 jobs)!=0) then [] else Q7b ((Qa5 l ids jobs [] 0).1) ((Qa5 l ids jobs [] 0).2)
def Qb2 (l:List Job):List Job->List Int->Nat->(List Int) × Nat
 | [],out,i=>(out,i)
 | x_ :: r,out,i=>bif (((x_.state==1)&&(!x_.held))&&(Qwc l x_)) then Qb2 l r (out++([x_.id]:List Int)) (i+1) else Qb2 l r out (i+1)
def Qhd (out:List Int) (i:Nat):(List Int):=out
def Qp0 (l:List Job):(List Int):=bif ((Qk1 l)!=0) then [] else Qhd ((Qb2 l l [] 0).1) ((Qb2 l l [] 0).2)
def Q42 (now:List Job):List Job->List Int->Nat->(List Int) × Nat
 | [],out,i=>(out,i)
 | x_ :: r,out,i=>bif ((((decide ((QU1 now x_.id)<0))||(x_.state != 1))||((now.getD (Int.toNat (QU1 now x_.id)) Job.zero).state != 1))||(x_.promise==(-1))) then Q42 now r out (i+1) else bif (((now.getD (Int.toNat (QU1 now x_.id)) Job.zero).promise==(-1))||(decide ((now.getD (Int.toNat (QU1 now x_.id)) Job.zero).promise > x_.promise))) then Q42 now r (out++([x_.id]:List Int)) (i+1) else Q42 now r out (i+1)
def QH3 (out:List Int) (i:Nat):(List Int):=out
def QE5 (was:List Job) (now:List Job):(List Int):=bif (((Qk1 was)!=0)||((Qk1 now)!=0)) then [] else QH3 ((Q42 now was [] 0).1) ((Q42 now was [] 0).2)
theorem ref22_Later_c (was:List Job) (now:List Job) (hs0:was.length<=4294967296∧(∀ y ∈ was,y.sz)) (hs1:now.length<=4294967296∧(∀ y ∈ now,y.sz)):∀ objs,AGives Tryz.prog 34 [jobL was,jobL now] objs (ints (QE5 was now)):=by
 generalize hR:QE5 was now=R;refine ga (.cons lw (.cons lw .nil)) lw (kp 8 [15,19,54,73]) Tryz.func34 ?_;have hk0:=hs0;obtain ⟨z14,z15⟩:was.length<=4294967296∧(∀ y ∈ was,y.sz):=hs0;have hk1:=hs1;obtain ⟨z16,z17⟩:now.length<=4294967296∧(∀ y ∈ now,y.sz):=hs1;refine us (Quc was szA _) ?_;(first|apply u2|apply u3|apply u4|apply us);exact Quc now szA _;refine ai (fun h1=>?_) (fun h2=>?_)
 ·obtain rfl:=foll hR (ct h1 rfl);exact Q00 lw (QS0)
 ·refine Qs0 (fun (out:List Int) (i:Nat)=>QH3 (Q42 now (List.drop i was) out i).1 (Q42 now (List.drop i was) out i).2=R∧i<=was.length∧out.length<=i) (fun out i=>was.length - i) (fun out i=>[(0,jobL was),(1,jobL now),(4,AVal.lit (.slice none 0 0)),(5,AVal.own 0 0 1 0 out.length),(6,I (i:Int))]) (fun out i=>[(0,AObj.row 3 1 (out.map (fun q_=>[I q_])))]) [] 0 ((QG1 3 1).trans (wk [0] (tO rfl (tl eqA) .nil) (sl lw (sl lw (s1 (sv (Qo1 0 rfl) (s1 .nil))))))) ⟨foll hR (cf h2 rfl),by exact omA,by exact exA⟩ ?_;clear hR;rintro out i ⟨hR,hj,hx⟩;(try dsimp only at hR hj hx);refine ai (fun h3=>?_) (fun h4=>?_)
  ·have hlt:=ltA h3;rw [Qc0 Job.zero hlt] at hR;have hxz:(was.getD i Job.zero).sz:=Q90 (by first|assumption|grind) (Job.szz _);have hkz:=hxz;obtain ⟨z5,z6,z7,z8,z9⟩:((was.getD i Job.zero).name).size<=4294967296∧((was.getD i Job.zero).user).size<=4294967296∧((was.getD i Job.zero).account).size<=4294967296∧((((was.getD i Job.zero).shape).alts).length<=4294967296)∧((was.getD i Job.zero).after).length<=4294967296:=hxz;refine And.intro (by first|exact fun hg=>decide_eq_true (by first|((have hq:=Qd1 now (was.getD i Job.zero).id;have q:=hg;simp at q;omega))|first|((have hq:=Qd1 now (was.getD i Job.zero).id;have q:=h5;simp at q;omega))|first|((have hq:=Qd1 now (was.getD i Job.zero).id;simp at *;omega))|exact ckA)|exact gkA) ?_;refine us (ref15_At_c now ((was.getD i Job.zero).id) szA _) ?_;refine And.intro (by first|exact fun hg=>decide_eq_true (by first|((have hq:=Qd1 now (was.getD i Job.zero).id;have q:=hg;simp at q;omega))|first|((have hq:=Qd1 now (was.getD i Job.zero).id;have q:=h5;simp at q;omega))|first|((have hq:=Qd1 now (was.getD i Job.zero).id;simp at *;omega))|exact ckA)|exact gkA) ?_;refine And.intro (by first|exact fun hg=>decide_eq_true (by first|((have hq:=Qd1 now (was.getD i Job.zero).id;have q:=hg;simp at q;omega))|first|((have hq:=Qd1 now (was.getD i Job.zero).id;have q:=h5;simp at q;omega))|first|((have hq:=Qd1 now (was.getD i Job.zero).id;simp at *;omega))|exact ckA)|exact gkA) ?_;refine And.intro (by first|exact fun hg=>decide_eq_true (by first|((have hq:=Qd1 now (was.getD i Job.zero).id;have q:=hg;simp at q;omega))|first|((have hq:=Qd1 now (was.getD i Job.zero).id;have q:=h5;simp at q;omega))|first|((have hq:=Qd1 now (was.getD i Job.zero).id;simp at *;omega))|exact ckA)|exact gkA) ?_;refine ai (fun h10=>?_) (fun h11=>?_)
   ·exact Qe0 out (i+1) (wk [0] (tO rfl (tl eqA) .nil) (sl lw (sl lw (s1 (sv (to 0 lnA) (sv (Qb0 (I_eq (wr omA)) lx) .nil)))))) omA ⟨foll hR (congrArg (fun p:(List Int) × Nat=>QH3 p.1 p.2) (ct h10 rfl)),by exact omA,by exact exA⟩
   ·refine dchk (by kernel_rfl) ?_;refine And.intro (by first|exact fun hg=>decide_eq_true (by first|((have hq:=Qd1 now (was.getD i Job.zero).id;have q:=hg;simp at q;omega))|first|((have hq:=Qd1 now (was.getD i Job.zero).id;have q:=h5;simp at q;omega))|first|((have hq:=Qd1 now (was.getD i Job.zero).id;simp at *;omega))|exact ckA)|exact gkA) ?_;refine And.intro (by first|exact fun hg=>decide_eq_true (by first|((have hq:=Qd1 now (was.getD i Job.zero).id;have q:=hg;simp at q;omega))|first|((have hq:=Qd1 now (was.getD i Job.zero).id;have q:=h5;simp at q;omega))|first|((have hq:=Qd1 now (was.getD i Job.zero).id;simp at *;omega))|exact ckA)|exact gkA) ?_;refine And.intro (by first|exact fun hg=>decide_eq_true (by first|((have hq:=Qd1 now (was.getD i Job.zero).id;have q:=hg;simp at q;omega))|first|((have hq:=Qd1 now (was.getD i Job.zero).id;have q:=h5;simp at q;omega))|first|((have hq:=Qd1 now (was.getD i Job.zero).id;simp at *;omega))|exact ckA)|exact gkA) ?_;(repeat ((first|refine ai rfl ?_|refine ai (fun _=>rfl) ?_)));refine ai (fun h12=>?_) (fun h13=>?_)
    ·refine And.intro (by first|exact fun hg=>decide_eq_true (by first|((have hq:=Qd1 now (was.getD i Job.zero).id;have q:=hg;simp at q;omega))|first|((have hq:=Qd1 now (was.getD i Job.zero).id;have q:=h5;simp at q;omega))|first|((have hq:=Qd1 now (was.getD i Job.zero).id;simp at *;omega))|exact ckA)|exact gkA) ?_;refine Or.inl ?_;(first|refine ⟨Q33 8 rfl lnA apA,?_⟩|refine ⟨QA1 8 rfl apA,?_⟩);exact Qe0 (out++([(was.getD i Job.zero).id]:List Int)) (i+1) (wk [0] (tO rfl (tl eqA) .nil) (sl lw (sl lw (s1 (sv (to 0 lnA) (sv (Qb0 (I_eq (wr omA)) lx) .nil)))))) omA ⟨foll hR (congrArg (fun p:(List Int) × Nat=>QH3 p.1 p.2) (cf h11 (ct h12 rfl))),by exact omA,by exact exA⟩
    ·exact Qe0 out (i+1) (wk [0] (tO rfl (tl eqA) .nil) (sl lw (sl lw (s1 (sv (to 0 lnA) (sv (Qb0 (I_eq (wr omA)) lx) .nil)))))) omA ⟨foll hR (congrArg (fun p:(List Int) × Nat=>QH3 p.1 p.2) (cf h11 (cf h13 rfl))),by exact omA,by exact exA⟩
  ·rw [Qk0 (l:=was) (j:=i) (geA h4)] at hR;replace hR:QH3 out i=R:=fo2 (fun p:(List Int) × Nat=>QH3 p.1 p.2) (out,i) hR rfl;obtain rfl:=foll hR rfl;exact Q00 lw (Qy1 0 _ rfl eqA lnA)
theorem Qv8 (now:List Job):∀ (r:List Job) (out:List Int) (i:Nat),(Q42 now r out i).1.length<=out.length+r.length
 | [],out,i=>by simp [Q42]
 | x :: r,out,i=>by
  have h1:=fun o'=>Qv8 now r o' (i+1)
  rw [Q42]
  repeat' first|exact Nat.le_trans (h1 _) (by simp only [List.length_cons,List.length_append,List.length_nil];omega)|(rw [Bool.cond_eq_ite];split)
theorem Qc3 {a:List Job} (b:List Job) (h:a.length<=4294967296):(QE5 a b).length<=4294967296:=by
 unfold QE5
 cases (((Qk1 a)!=0)||((Qk1 b)!=0)) with
 | true=>simp
 | false =>
  have h1:=Qv8 b a [] 0
  rw [List.length_nil,Nat.zero_add] at h1
  exact Nat.le_trans h1 h
end Go.Proofs.YtjpgfmbccohngaaGreatDoor
namespace Go.Proofs.YtjpgfmbccohngaaGreatDoor
set_option linter.unusedSimpArgs false
set_option linter.unusedVariables false
open Go.Fw
set_option maxRecDepth 20000
set_option maxHeartbeats 4000000
attribute [local irreducible] ACalls AMoves
def QN1 (s:State):Int:=bif (((((decide (s.now<0))||(decide (s.now > 1000000)))||((QY2 s.nodes)!=0))||((QG0 s.jobs)!=0))||((QW6 s.books)!=0)) then 141 else 0
theorem Qpa (s:State) (hs0:s.sz):∀ objs,AGives Tryz.prog 58 [State.a s] objs (I (QN1 s)):=by
 generalize hR:QN1 s=R;refine ga (.cons (State.low _ _) .nil) lx (kp 3 [28]) Tryz.func58 ?_;have hk0:=hs0;obtain ⟨z3,z4,z5,z6,z7,z8,z9⟩:=hs0;(first|apply u2|apply u3|apply u4|apply us);exact Qm9 s.nodes szA _;(first|apply u2|apply u3|apply u4|apply us);exact QX4 s.jobs szA _;(first|apply u2|apply u3|apply u4|apply us);exact book_Check_c s.books szA _;refine ai (fun h1=>?_) (fun h2=>?_)
 ·obtain rfl:=foll hR (ct h1 rfl);exact Q00 lx sr
 ·obtain rfl:=foll hR (cf h2 rfl);exact Q00 lx sr
theorem Q25 {s:State} (h:((QN1 s)!=0)=false):1<=s.nodes.length∧s.nodes.length<=48:=by
 have hf:QY2 s.nodes=0:=by
  simp only [QN1] at h
  revert h
  cases h2:(QY2 s.nodes != 0) with
  | true=>simp
  | false=>intro _;simpa using h2
 simp only [QY2] at hf
 revert hf
 cases h2:((decide ((s.nodes.length:Int)<1))||(decide ((s.nodes.length:Int) > 48))) with
 | true=>simp
 | false=>intro _;simp at h2;omega
theorem QRf {order:List Int} {i:Nat} {c:List (Int × Int)} {k:Int} (h:order ≠ []∨(i=0∧c=[])) (hg:(((getM k c).getD 0)==0)=false):order ≠ []:=by
 rcases h with h|⟨_,rfl⟩
 ·exact h
 ·simp [getM] at hg
theorem busy_order {s:State} {order:List Int} {i:Nat} {c:List (Int × Int)} (h:((QN1 s)!=0)=false) (ho:order ≠ []∨(i=0∧c=[])) (hi:decide ((i:Int)<(s.nodes.length:Int))=false):order ≠ []:=by
 rcases ho with ho|⟨rfl,_⟩
 ·exact ho
 ·have:=(Q25 h).1
  have:=of_decide_eq_false hi
  omega
def Qg1 :List Job->Nat->List (Int × Int)->(List (Int × Int))
 | [],_,c=>c
 | x_1 :: r,i1,c=>Qg1 r (i1+1) (setM x_1.id x_1.state c)
def Qn2 (c:List (Int × Int)):List Job->List Int->Nat->(List Int)
 | [],out,_=>out
 | x_2 :: r,out,i2=>bif (((false||(x_2.state != 1))||x_2.held)||(!(QD6 c x_2))) then Qn2 c r out (i2+1) else Qn2 c r (out++([x_2.id]:List Int)) (i2+1)
def QU3 (out:List Int):(List Int):=out
def QY4 (l:List Job) (c:List (Int × Int)):(List Int):=QU3 (Qn2 c l [] 0)
def Q21 (l:List Job):(List Int):=bif ((QG0 l)!=0) then [] else QY4 l (Qg1 l 0 [])
theorem QY9 (l:List Job) (hs0:l.length<=4294967296∧(∀ y ∈ l,y.sz)):∀ objs,AGives Tryz.prog 20 [jobL l] objs (ints (Q21 l)):=by
 generalize hR:Q21 l=R;refine ga (.cons lw .nil) lw (kp 7 [9,10,11,12,31]) Tryz.func20 ?_;have hk0:=hs0;obtain ⟨z26,z27⟩:l.length<=4294967296∧(∀ y ∈ l,y.sz):=hs0;refine ACalls.of_cwp (fun _=>true) Tryz.func67 rfl rfl ?_;refine us (QX4 l szA _) ?_;refine ai (fun h1=>?_) (fun h2=>?_)
 ·refine ⟨_,_,Told.refl,?_⟩;refine Qj0 (fun (i:Nat)=>True∧i<=l.length) (fun i=>l.length - i) (fun i=>[(2,AVal.lit (.slice none 0 0)),(3,AVal.lit (.map none)),(4,AVal.lit (.slice none 0 0)),(9,jobL l),(10,I (l.length:Int)),(11,I (i:Int))]) (fun i=>[]) 0 (wk [] .nil (s1 (s1 (s1 (sl lw (s1 (s1 .nil))))))) ⟨trivial,by exact omA⟩ ?_;have hR0:=hR;rintro i ⟨hR,hj⟩;(try dsimp only at hR hj);refine ai (fun h3=>?_) (fun h4=>?_)
  ·have hlt:=ltA h3;have hxz:(l.getD i Job.zero).sz:=Q90 (by first|assumption|grind) (Job.szz _);have hkz:=hxz;obtain ⟨z5,z6,z7,z8,z9⟩:((l.getD i Job.zero).name).size<=4294967296∧((l.getD i Job.zero).user).size<=4294967296∧((l.getD i Job.zero).account).size<=4294967296∧((((l.getD i Job.zero).shape).alts).length<=4294967296)∧((l.getD i Job.zero).after).length<=4294967296:=hxz;refine ai gkA ?_;(first|refine ⟨Bo false,_,fun h=>absurd h (by decide),fun _=>rfl,?_⟩|refine ⟨Bo false,fun h=>absurd h (by decide),?_⟩|refine ⟨Bo false,_,fun h=>absurd h (by simp),fun _=>rfl,?_⟩|refine ⟨Bo false,fun h=>absurd h (by simp),?_⟩);refine ai (fun _=>?_) (fun h=>nomatch h);exact Qn0 (i+1) (wk [] .nil (s1 (s1 (s1 (sl lw (s1 (sv (Qb0 (I_eq (wr omA)) lx) .nil))))))) omA ⟨hR,by exact omA⟩
  ·skip;have hR:=hR0;obtain rfl:=foll hR (ct h1 rfl);exact Q00 lw (QS0)
 ·refine Qs0 (fun (i1:Nat) (c:List (Int × Int))=>QY4 l (Qg1 (List.drop i1 l) i1 c)=R∧i1<=l.length) (fun i1 c=>l.length - i1) (fun i1 c=>[(2,AVal.lit (.map none)),(3,AVal.map 0),(10,jobL l),(11,I (l.length:Int)),(12,I (i1:Int))]) (fun i1 c=>[(0,AObj.other (.map (mapEs ik I 0 c) c.length))]) 0 [] (wk [0] (tO rfl (Qz0 _ rfl rfl (fun _=>lx)) .nil) (s1 (sv (QF1 0 rfl rfl) (sl lw (s1 (s1 .nil)))))) ⟨foll hR (cf h2 rfl),by exact omA⟩ ?_;clear hR;rintro i1 c ⟨hR,hj⟩;(try dsimp only at hR hj);refine ai (fun h10=>?_) (fun h11=>?_)
  ·have hlt:=ltA h10;rw [Qc0 Job.zero hlt] at hR;have hxz:(l.getD i1 Job.zero).sz:=Q90 (by first|assumption|grind) (Job.szz _);have hkz:=hxz;obtain ⟨z12,z13,z14,z15,z16⟩:((l.getD i1 Job.zero).name).size<=4294967296∧((l.getD i1 Job.zero).user).size<=4294967296∧((l.getD i1 Job.zero).account).size<=4294967296∧((((l.getD i1 Job.zero).shape).alts).length<=4294967296)∧((l.getD i1 Job.zero).after).length<=4294967296:=hxz;refine ai gkA ?_;refine ⟨_,_,QS1 rfl _ _,QFa (ek:=ik) ((l.getD i1 Job.zero).id) ((l.getD i1 Job.zero).state) c rfl rfl,?_⟩;exact Qe0 (i1+1) (setM (l.getD i1 Job.zero).id (l.getD i1 Job.zero).state c) (wk [0] (tO rfl (Qz0 _ rfl rfl (fun _=>lx)) .nil) (s1 (sv (QF1 0 rfl rfl) (sl lw (s1 (sv (Qb0 (I_eq (wr omA)) lx) .nil)))))) omA ⟨foll hR (congrArg (fun p:(List (Int × Int))=>QY4 l p) rfl),by exact omA⟩
  ·rw [Qk0 (l:=l) (j:=i1) (geA h11)] at hR;replace hR:QY4 l c=R:=fo2 (fun p:(List (Int × Int))=>QY4 l p) (c) hR rfl;refine ⟨_,_,Told.refl,?_⟩;refine Qs0 (fun (out:List Int) (i2:Nat)=>QU3 (Qn2 c (List.drop i2 l) out i2)=R∧i2<=l.length∧out.length<=i2) (fun out i2=>l.length - i2) (fun out i2=>[(2,AVal.lit (.slice none 0 0)),(3,AVal.map 0),(4,AVal.own 1 0 1 0 out.length),(9,jobL l),(10,I (l.length:Int)),(11,I (i2:Int))]) (fun out i2=>[(0,AObj.other (.map (mapEs ik I 0 c) c.length)),(0,AObj.row 3 1 (out.map (fun q_=>[I q_])))]) [] 0 ((QG1 3 1).trans (wk [0,1] (tO rfl (Qz0 _ rfl rfl (fun _=>lx)) (tO rfl (tl eqA) .nil)) (s1 (sv (QF1 0 rfl rfl) (sv (Qo1 1 rfl) (sl lw (s1 (s1 .nil)))))))) ⟨foll hR rfl,by exact omA,by exact exA⟩ ?_;clear hR;rintro out i2 ⟨hR,hj,hx⟩;(try dsimp only at hR hj hx);refine ai (fun h17=>?_) (fun h18=>?_)
   ·have hlt:=ltA h17;rw [Qc0 Job.zero hlt] at hR;have hxz:(l.getD i2 Job.zero).sz:=Q90 (by first|assumption|grind) (Job.szz _);have hkz:=hxz;obtain ⟨z19,z20,z21,z22,z23⟩:((l.getD i2 Job.zero).name).size<=4294967296∧((l.getD i2 Job.zero).user).size<=4294967296∧((l.getD i2 Job.zero).account).size<=4294967296∧((((l.getD i2 Job.zero).shape).alts).length<=4294967296)∧((l.getD i2 Job.zero).after).length<=4294967296:=hxz;refine ai gkA ?_;(first|apply u2|apply u3|apply u4|apply us);exact mv [0] (Q2d c (l.getD i2 Job.zero) szA) (dO (.same _ (Q36 fun _=>lx)) .nil) (dv (Q4g (Ren.map _ _ rfl)) (dv (QE6 (Low.agg' (Job.lo))) .nil)) (rO (RenO.same _ (Q36 fun _=>lx)) .nil) rx;refine ai (fun h24=>?_) (fun h25=>?_)
    ·exact Qe0 out (i2+1) (wk [0,1] (tO rfl (Qz0 _ rfl rfl (fun _=>lx)) (tO rfl (tl eqA) .nil)) (s1 (sv (QF1 0 rfl rfl) (sv (to 1 lnA) (sl lw (s1 (sv (Qb0 (I_eq (wr omA)) lx) .nil))))))) omA ⟨foll hR (congrArg (fun p:(List Int)=>QU3 p) (ct h24 rfl)),by exact omA,by exact exA⟩
    ·refine Or.inl ?_;(first|refine ⟨Q33 8 rfl lnA apA,?_⟩|refine ⟨QA1 8 rfl apA,?_⟩);exact Qe0 (out++([(l.getD i2 Job.zero).id]:List Int)) (i2+1) (wk [0,1] (tO rfl (Qz0 _ rfl rfl (fun _=>lx)) (tO rfl (tl eqA) .nil)) (s1 (sv (QF1 0 rfl rfl) (sv (to 1 lnA) (sl lw (s1 (sv (Qb0 (I_eq (wr omA)) lx) .nil))))))) omA ⟨foll hR (congrArg (fun p:(List Int)=>QU3 p) (cf h25 rfl)),by exact omA,by exact exA⟩
   ·rw [Qk0 (l:=l) (j:=i2) (geA h18)] at hR;replace hR:QU3 out=R:=fo2 (fun p:(List Int)=>QU3 p) (out) hR rfl;obtain rfl:=foll hR rfl;exact Q00 lw (Qy1 0 _ rfl eqA lnA)
theorem QY5 (c:List (Int × Int)):∀ (r:List Job) (out:List Int) (i:Nat),(Qn2 c r out i).length<=out.length+r.length
 | [],out,i=>by simp [Qn2]
 | x :: r,out,i=>by
  have h1:=QY5 c r out (i+1)
  have h2:=QY5 c r (out++([x.id]:List Int)) (i+1)
  rw [Qn2,Bool.cond_eq_ite]
  simp only [List.length_append,List.length_cons,List.length_nil] at *
  split <;> omega
theorem Q72 (l:List Job):(Q21 l).length<=l.length:=by
 unfold Q21
 cases ((QG0 l)!=0) with
 | true=>simp
 | false=>have h:=QY5 (Qg1 l 0 []) l [] 0;rw [List.length_nil,Nat.zero_add] at h;exact h
def Qy0 (l:List Job) (id_:Int):Job × Bool:=bif (((QG0 l)!=0)||(!(Qr6 id_))) then (Job.zero,false) else bif (!(Qx0 l id_).2) then (Job.zero,false) else (((List.drop (Int.toNat ((Qx0 l id_).1)) (List.take (Int.toNat (w64 ((Qx0 l id_).1+1))) l)).getD 0 Job.zero),true)
theorem QC6 (l:List Job) (id_:Int) (hs0:l.length<=4294967296∧(∀ y ∈ l,y.sz)):∀ objs,AGives Tryz.prog 37 [jobL l,I id_] objs (AVal.tup [Job.a ((Qy0 l id_).1),Bo ((Qy0 l id_).2)]):=by
 generalize hR:Qy0 l id_=R;refine ga (.cons lw (l1 .nil)) (Low.tup' (.cons (Job.low _ _) (l1 .nil))) (kp 8 [15,24]) Tryz.func37 ?_;have hk0:=hs0;obtain ⟨z5,z6⟩:l.length<=4294967296∧(∀ y ∈ l,y.sz):=hs0;refine us (QX4 l szA _) ?_;(first|apply u2|apply u3|apply u4|apply us);exact table_known_c id_ _;refine ai (fun h1=>?_) (fun h2=>?_)
 ·obtain rfl:=foll hR (ct h1 rfl);exact Q00 (Low.tup' (.cons (Job.low _ _) (l1 .nil))) (Seen.tup (ev (Seen.agg (e1 (e1 (e1 (e1 (e1 (ev (QS0) (e1 (e1 (e1 (e1 (ev (QS0) (e1 (e1 (e1 (e1 (e1 (e1 (e1 (e1 (e1 .nil))))))))))))))))))))) (e1 .nil)))
 ·refine us (table_place_c l id_ szA _) ?_;refine ai (fun h3=>?_) (fun h4=>?_)
  ·obtain rfl:=foll hR (cf h2 (ct h3 rfl));exact Q00 (Low.tup' (.cons (Job.low _ _) (l1 .nil))) (Seen.tup (ev (Seen.agg (e1 (e1 (e1 (e1 (e1 (ev (QS0) (e1 (e1 (e1 (e1 (ev (QS0) (e1 (e1 (e1 (e1 (e1 (e1 (e1 (e1 (e1 .nil))))))))))))))))))))) (e1 .nil)))
  ·refine And.intro (by first|exact fun hg=>decide_eq_true (by first|(have hp:=Qd6 l id_ hk0.1 (by assumption);have pw:IntKind.i64.wrap ((Qx0 l id_).1+1)=(Qx0 l id_).1+1:=wr (by omega);simp only [Option.getD_some,pw,List.length_drop,List.length_take];omega)|exact ckA)|exact gkA) ?_;refine us (mv [] (table_whole_o (List.drop (Int.toNat ((Qx0 l id_).1)) (List.take (Int.toNat (w64 ((Qx0 l id_).1+1))) l)) szA) .nil (dv (dn_as (as_cut l (Int.toNat ((Qx0 l id_).1)) (Int.toNat (w64 ((Qx0 l id_).1+1))) leA (by first|(have hp:=Qd6 l id_ hk0.1 (by assumption);have pw:IntKind.i64.wrap ((Qx0 l id_).1+1)=(Qx0 l id_).1+1:=wr (by omega);simp only [Option.getD_some,pw,List.length_drop,List.length_take];omega)|exact ckA)) lw) .nil) (rO rr .nil) (rw_ 1 0 rfl)) ?_;refine And.intro (by first|exact fun hg=>decide_eq_true (by first|(have hp:=Qd6 l id_ hk0.1 (by assumption);have pw:IntKind.i64.wrap ((Qx0 l id_).1+1)=(Qx0 l id_).1+1:=wr (by omega);simp only [Option.getD_some,pw,List.length_drop,List.length_take];omega)|exact ckA)|exact gkA) ?_;refine ⟨_,Qt2 rfl rfl rfl (QU2 Job.zero 0 (by first|rfl|exact Nat.zero_add _|omega) (by first|(have hp:=Qd6 l id_ hk0.1 (by assumption);have pw:IntKind.i64.wrap ((Qx0 l id_).1+1)=(Qx0 l id_).1+1:=wr (by omega);simp only [Option.getD_some,pw,List.length_drop,List.length_take];omega)|exact ckA)) rfl,?_⟩;obtain rfl:=foll hR (cf h2 (cf h4 rfl));exact Q00 (Low.tup' (.cons (Job.low _ _) (l1 .nil))) (Seen.tup (e1 (e1 .nil)))
def QO1 (l:List Usage) (ids:List Int):List Job->List Ranked->Nat->List (ByteArray × Int)->(List Ranked) × (List (ByteArray × Int))
 | [],r_,_,c=>(r_,c)
 | x_ :: r,r_,i,c=>bif (!(Q51 ids x_.id)) then QO1 l ids r r_ (i+1) c else bif (!(getM x_.user c).isSome) then QO1 l ids r (r_++([(⟨x_.id,x_.prio,((getM x_.user (setM x_.user (Qv1 l x_.user) c)).getD 0),x_.id⟩:Ranked)]:List Ranked)) (i+1) (setM x_.user (Qv1 l x_.user) c) else QO1 l ids r (r_++([(⟨x_.id,x_.prio,((getM x_.user c).getD 0),x_.id⟩:Ranked)]:List Ranked)) (i+1) c
def Q63 (r_:List Ranked):List Ranked->List Int->Nat->(List Int)
 | [],out,_=>out
 | _ :: r,out,i1=>Q63 r_ r (out++([((Q74 r_).getD i1 Ranked.zero).what]:List Int)) (i1+1)
def Qr4 (out:List Int):(List Int):=out
def Q73 (r_:List Ranked) (c:List (ByteArray × Int)):(List Int):=Qr4 (Q63 r_ (Q74 r_) [] 0)
def Qe2 (jobs:List Job) (l:List Usage) (ids:List Int):(List Int):=bif ((QG0 jobs)!=0) then [] else Q73 ((QO1 l ids jobs [] 0 []).1) ((QO1 l ids jobs [] 0 []).2)
theorem QEc (jobs:List Job) (l:List Usage) (ids:List Int) (hs0:jobs.length<=4294967296∧(∀ y ∈ jobs,y.sz)) (hs1:l.length<=4294967296∧(∀ y ∈ l,y.sz)) (hs2:ids.length<=4294967296):∀ objs,AGives Tryz.prog 138 [jobL jobs,Qe3 l,ints ids] objs (ints (Qe2 jobs l ids)):=by
 generalize hR:Qe2 jobs l ids=R;refine ga (.cons lw (.cons lw (.cons lw .nil))) lw (kp 14 [16,18,19,20,21,28,37]) Tryz.func138 ?_;have hk0:=hs0;obtain ⟨z16,z17⟩:jobs.length<=4294967296∧(∀ y ∈ jobs,y.sz):=hs0;have hk1:=hs1;obtain ⟨z18,z19⟩:l.length<=4294967296∧(∀ y ∈ l,y.sz):=hs1;have hk2:=hs2;obtain z20:ids.length<=4294967296:=hs2;refine us (QX4 jobs szA _) ?_;refine ai (fun h1=>?_) (fun h2=>?_)
 ·obtain rfl:=foll hR (ct h1 rfl);exact Q00 lw (QS0)
 ·refine Q17 (fun (r_:List Ranked) (i:Nat) (c:List (ByteArray × Int))=>Q73 (QO1 l ids (List.drop i jobs) r_ i c).1 (QO1 l ids (List.drop i jobs) r_ i c).2=R∧i<=jobs.length∧(∀ x ∈ r_,x.what=x.id)∧r_.length<=i) (fun r_ i c=>jobs.length - i) (fun r_ i c=>[(1,Qe3 l),(2,ints ids),(6,AVal.lit (.slice none 0 0)),(7,AVal.own 1 0 4 0 r_.length),(8,AVal.map 0),(18,jobL jobs),(19,I (jobs.length:Int)),(20,I (i:Int))]) (fun r_ i c=>[(0,AObj.other (.map (mapEs sk I 0 c) c.length)),(0,AObj.row 209 4 (r_.map Ranked.cells))]) [] 0 [] ((QG1 209 4).trans (wk [0,1] (tO rfl (Qz0 _ rfl rfl (fun _=>lx)) (tO rfl (tl eqA) .nil)) (sl lw (sl lw (s1 (sv (Qo1 1 rfl) (sv (QF1 0 rfl rfl) (sl lw (s1 (s1 .nil)))))))))) ⟨foll hR (cf h2 rfl),by exact omA,by first|((exact ⟨hx.1,by omega⟩))|first|((exact ⟨fun x hm=>(List.mem_append.1 hm).elim (hx.1 x) (fun h=>by rw [List.mem_singleton.1 h]),by simp;omega⟩))|first|((exact ⟨fun _ h=>absurd h List.not_mem_nil,by simp⟩))|exact exA⟩ ?_;clear hR;rintro r_ i c ⟨hR,hj,hx⟩;(try dsimp only at hR hj hx);refine ai (fun h3=>?_) (fun h4=>?_)
  ·have hlt:=ltA h3;rw [Qc0 Job.zero hlt] at hR;have hxz:(jobs.getD i Job.zero).sz:=Q90 (by first|assumption|grind) (Job.szz _);have hkz:=hxz;obtain ⟨z5,z6,z7,z8,z9⟩:((jobs.getD i Job.zero).name).size<=4294967296∧((jobs.getD i Job.zero).user).size<=4294967296∧((jobs.getD i Job.zero).account).size<=4294967296∧((((jobs.getD i Job.zero).shape).alts).length<=4294967296)∧((jobs.getD i Job.zero).after).length<=4294967296:=hxz;refine ai gkA ?_;refine us (Q32 ids ((jobs.getD i Job.zero).id) szA _) ?_;refine ai (fun h10=>?_) (fun h11=>?_)
   ·exact Qi3 r_ (i+1) c (wk [0,1] (tO rfl (Qz0 _ rfl rfl (fun _=>lx)) (tO rfl (tl eqA) .nil)) (sl lw (sl lw (s1 (sv (to 1 lnA) (sv (QF1 0 rfl rfl) (sl lw (s1 (sv (Qb0 (I_eq (wr omA)) lx) .nil))))))))) omA ⟨foll hR (congrArg (fun p:(List Ranked) × (List (ByteArray × Int))=>Q73 p.1 p.2) (ct h10 rfl)),by exact omA,by first|((exact ⟨hx.1,by omega⟩))|first|((exact ⟨fun x hm=>(List.mem_append.1 hm).elim (hx.1 x) (fun h=>by rw [List.mem_singleton.1 h]),by simp;omega⟩))|first|((exact ⟨fun _ h=>absurd h List.not_mem_nil,by simp⟩))|exact exA⟩
   ·(first|refine ⟨_,_,Qc7 rfl _ _,Q71 (ek:=sk) ((jobs.getD i Job.zero).user) c 0 (AsA.refl _),?_⟩|refine ⟨_,fun _=>⟨_,_,Qc7 rfl _ _,Q71 (ek:=sk) ((jobs.getD i Job.zero).user) c 0 (AsA.refl _),rfl,rfl⟩,?_⟩|refine ⟨_,rfl,⟨_,_,Qc7 rfl _ _,Q71 (ek:=sk) ((jobs.getD i Job.zero).user) c 0 (AsA.refl _),Sub.refl _,rfl⟩,?_⟩);refine ai (fun h12=>?_) (fun h13=>?_)
    ·refine dchk (by kernel_rfl) ?_;(first|apply u2|apply u3|apply u4|apply us);exact Q0b l ((jobs.getD i Job.zero).user) szA szA _;refine ⟨_,_,⟨_,_,Qc7 rfl _ _,QFa (ek:=sk) ((jobs.getD i Job.zero).user) (Qv1 l (jobs.getD i Job.zero).user) c rfl rfl,Sub.refl _,rfl⟩,?_⟩;(repeat ((first|refine ai rfl ?_|refine ai (fun _=>rfl) ?_|refine ai (fun _=>Q0b l ((jobs.getD i Job.zero).user) szA szA _) ?_)));(first|refine ⟨_,_,Qc7 rfl _ _,Q71 (ek:=sk) ((jobs.getD i Job.zero).user) (setM (jobs.getD i Job.zero).user (Qv1 l (jobs.getD i Job.zero).user) c) 0 (AsA.refl _),?_⟩|refine ⟨_,fun _=>⟨_,_,Qc7 rfl _ _,Q71 (ek:=sk) ((jobs.getD i Job.zero).user) (setM (jobs.getD i Job.zero).user (Qv1 l (jobs.getD i Job.zero).user) c) 0 (AsA.refl _),rfl,rfl⟩,?_⟩|refine ⟨_,rfl,⟨_,_,Qc7 rfl _ _,Q71 (ek:=sk) ((jobs.getD i Job.zero).user) (setM (jobs.getD i Job.zero).user (Qv1 l (jobs.getD i Job.zero).user) c) 0 (AsA.refl _),Sub.refl _,rfl⟩,?_⟩);refine Or.inl ?_;(first|refine ⟨Q33 32 rfl lnA apA,?_⟩|refine ⟨QA1 32 rfl apA,?_⟩);exact Qi3 (r_++([(⟨(jobs.getD i Job.zero).id,(jobs.getD i Job.zero).prio,((getM (jobs.getD i Job.zero).user (setM (jobs.getD i Job.zero).user (Qv1 l (jobs.getD i Job.zero).user) c)).getD 0),(jobs.getD i Job.zero).id⟩:Ranked)]:List Ranked)) (i+1) (setM (jobs.getD i Job.zero).user (Qv1 l (jobs.getD i Job.zero).user) c) (wk [0,1] (tO rfl (Qz0 _ rfl rfl (fun _=>lx)) (tO rfl (tl eqA) .nil)) (sl lw (sl lw (s1 (sv (to 1 lnA) (sv (QF1 0 rfl rfl) (sl lw (s1 (sv (Qb0 (I_eq (wr omA)) lx) .nil))))))))) omA ⟨foll hR (congrArg (fun p:(List Ranked) × (List (ByteArray × Int))=>Q73 p.1 p.2) (cf h11 (ct h12 rfl))),by exact omA,by first|((exact ⟨hx.1,by omega⟩))|first|((exact ⟨fun x hm=>(List.mem_append.1 hm).elim (hx.1 x) (fun h=>by rw [List.mem_singleton.1 h]),by simp;omega⟩))|first|((exact ⟨fun _ h=>absurd h List.not_mem_nil,by simp⟩))|exact exA⟩
    ·(first|refine ⟨_,_,Qc7 rfl _ _,Q71 (ek:=sk) ((jobs.getD i Job.zero).user) c 0 (AsA.refl _),?_⟩|refine ⟨_,fun _=>⟨_,_,Qc7 rfl _ _,Q71 (ek:=sk) ((jobs.getD i Job.zero).user) c 0 (AsA.refl _),rfl,rfl⟩,?_⟩|refine ⟨_,rfl,⟨_,_,Qc7 rfl _ _,Q71 (ek:=sk) ((jobs.getD i Job.zero).user) c 0 (AsA.refl _),Sub.refl _,rfl⟩,?_⟩);refine Or.inl ?_;(first|refine ⟨Q33 32 rfl lnA apA,?_⟩|refine ⟨QA1 32 rfl apA,?_⟩);exact Qi3 (r_++([(⟨(jobs.getD i Job.zero).id,(jobs.getD i Job.zero).prio,((getM (jobs.getD i Job.zero).user c).getD 0),(jobs.getD i Job.zero).id⟩:Ranked)]:List Ranked)) (i+1) c (wk [0,1] (tO rfl (Qz0 _ rfl rfl (fun _=>lx)) (tO rfl (tl eqA) .nil)) (sl lw (sl lw (s1 (sv (to 1 lnA) (sv (QF1 0 rfl rfl) (sl lw (s1 (sv (Qb0 (I_eq (wr omA)) lx) .nil))))))))) omA ⟨foll hR (congrArg (fun p:(List Ranked) × (List (ByteArray × Int))=>Q73 p.1 p.2) (cf h11 (cf h13 rfl))),by exact omA,by first|((exact ⟨hx.1,by omega⟩))|first|((exact ⟨fun x hm=>(List.mem_append.1 hm).elim (hx.1 x) (fun h=>by rw [List.mem_singleton.1 h]),by simp;omega⟩))|first|((exact ⟨fun _ h=>absurd h List.not_mem_nil,by simp⟩))|exact exA⟩
  ·rw [Qk0 (l:=jobs) (j:=i) (geA h4)] at hR;replace hR:Q73 r_ c=R:=fo2 (fun p:(List Ranked) × (List (ByteArray × Int))=>Q73 p.1 p.2) (r_,c) hR rfl;refine ACalls.of_cwp (fun _=>true) Tryz.func202 rfl rfl ?_;refine us (mv [1] (Qmd r_ szA (by exact hx.1)) (dO (dr eqA) .nil) (dv (QK8 rfl lnA) (dv (QE6 (Low.fn _ _ _ LowL.nil LowL.nil)) .nil)) (rO rr .nil) rx) ?_;have hrl:=QXd r_;rw [← hrl];refine Qs0 (fun (out:List Int) (i1:Nat)=>Qr4 (Q63 r_ (List.drop i1 (Q74 r_)) out i1)=R∧i1<=(Q74 r_).length∧out.length<=i1) (fun out i1=>(Q74 r_).length - i1) (fun out i1=>[(2,AVal.lit (.slice none 0 0)),(3,AVal.own 2 0 1 0 out.length),(8,AVal.own 1 0 4 0 ((Q74 r_).length)),(9,I ((Q74 r_).length:Int)),(10,I (i1:Int))]) (fun out i1=>[(0,AObj.other (.map (mapEs sk I 0 c) c.length)),(0,AObj.row 209 4 ((Q74 r_).map Ranked.cells)),(0,AObj.row 3 1 (out.map (fun q_=>[I q_])))]) [] 0 ((QG1 3 1).trans (wk [0,1,2] (tO rfl (Qz0 _ rfl rfl (fun _=>lx)) (tO rfl (tl eqA) (tO rfl (tl eqA) .nil))) (s1 (sv (Qo1 2 rfl) (sv (to 1 lnA) (s1 (s1 .nil))))))) ⟨foll hR rfl,by exact omA,by first|((exact ⟨hx.1,by omega⟩))|first|((exact ⟨fun x hm=>(List.mem_append.1 hm).elim (hx.1 x) (fun h=>by rw [List.mem_singleton.1 h]),by simp;omega⟩))|first|((exact ⟨fun _ h=>absurd h List.not_mem_nil,by simp⟩))|exact exA⟩ ?_;clear hR;rintro out i1 ⟨hR,hj,hx⟩;(try dsimp only at hR hj hx);refine ai (fun h14=>?_) (fun h15=>?_)
   ·have hlt:=ltA h14;rw [Qc0 Ranked.zero hlt] at hR;refine ai gkA ?_;refine ⟨_,Qt2 rfl rfl rfl (QU2 Ranked.zero i1 (by first|rfl|exact Nat.zero_add _|omega) ckA) rfl,?_⟩;refine Or.inl ?_;(first|refine ⟨Q33 8 rfl lnA apA,?_⟩|refine ⟨QA1 8 rfl apA,?_⟩);exact Qe0 (out++([((Q74 r_).getD i1 Ranked.zero).what]:List Int)) (i1+1) (wk [0,1,2] (tO rfl (Qz0 _ rfl rfl (fun _=>lx)) (tO rfl (tl eqA) (tO rfl (tl eqA) .nil))) (s1 (sv (to 2 lnA) (sv (to 1 lnA) (s1 (sv (Qb0 (I_eq (wr omA)) lx) .nil)))))) omA ⟨foll hR (congrArg (fun p:(List Int)=>Qr4 p) rfl),by exact omA,by first|((exact ⟨hx.1,by omega⟩))|first|((exact ⟨fun x hm=>(List.mem_append.1 hm).elim (hx.1 x) (fun h=>by rw [List.mem_singleton.1 h]),by simp;omega⟩))|first|((exact ⟨fun _ h=>absurd h List.not_mem_nil,by simp⟩))|exact exA⟩
   ·rw [Qk0 (l:=(Q74 r_)) (j:=i1) (geA h15)] at hR;replace hR:Qr4 out=R:=fo2 (fun p:(List Int)=>Qr4 p) (out) hR rfl;refine ⟨_,_,Told.refl,?_⟩;obtain rfl:=foll hR rfl;exact Q00 lw (Qy1 0 _ rfl eqA lnA)
theorem Qx8 (l:List Usage) (ids:List Int):∀ (r:List Job) (o:List Ranked) (i:Nat) (c:List (ByteArray × Int)),(QO1 l ids r o i c).1.length<=o.length+r.length
 | [],o,i,c=>by simp [QO1]
 | x :: r,o,i,c=>by
  have h1:=fun o' c'=>Qx8 l ids r o' (i+1) c'
  rw [QO1]
  repeat' first|exact Nat.le_trans (h1 _ _) (by simp only [List.length_cons,List.length_append,List.length_nil];omega)|(rw [Bool.cond_eq_ite];split)
theorem Qy8 (R:List Ranked):∀ (r:List Ranked) (out:List Int) (i:Nat),(Q63 R r out i).length=out.length+r.length
 | [],out,i=>by simp [Q63]
 | x :: r,out,i=>by rw [Q63,Qy8 R r];simp;omega
theorem Qua (jobs:List Job) (l:List Usage) (ids:List Int):(Qe2 jobs l ids).length<=jobs.length:=by
 unfold Qe2 Q73 Qr4
 cases ((QG0 jobs)!=0) with
 | true=>simp
 | false =>
  have h:=Qx8 l ids jobs [] 0 []
  simp only [cond_false]
  rw [Qy8,QXd]
  simpa using h
def Qp4 (s:State):Int:=bif (((Qp6 s)!=0)||((Q47 s.ledger)!=0)) then 141 else 0
end Go.Proofs.YtjpgfmbccohngaaGreatDoor
