/-
  Contracts of functions, printed by a program of this repo (wip/dec). No condition beyond those that stand in each.
-/
import Derived.Test.YtgjcljceccfgjaaGreatDoorG9
import Derived.Test.YtgjcljceccfgjaaGreatDoorProg
namespace Go.Proofs.YtgjcljceccfgjaaGreatDoor
set_option linter.unusedSimpArgs false
set_option linter.unusedVariables false
open Go.Fw
set_option maxRecDepth 20000
set_option maxHeartbeats 4000000
attribute [local irreducible] ACalls AMoves
def Q73 (s:State):Bool:=(((((Qsd s.nodes)&&(Qtd s.jobs))&&(Qvd s.books))&&(Qud s.ledger))&&(decide ((s.resizes.length:Int)<=100)))
theorem QXf (s:State) (hs0:s.szM):∀ objs,AGives Tryz.prog 7 [State.a s] objs (Bo (Q73 s)):=by
 generalize hR:Q73 s=R;refine ga (.cons (State.low _ _) .nil) lx (kp 3 []) Tryz.func7 ?_;have hk0:=hs0;obtain ⟨z1,z2,z3,z4,z5,z6,z7⟩:=hs0;refine us (law12_Few_c s.nodes _) ?_;(first|apply u2|apply u3|apply u4|apply us);exact law15_Few_c s.jobs szA _;(first|apply u2|apply u3|apply u4|apply us);exact law19_Few_c s.books _;(first|apply u2|apply u3|apply u4|apply us);exact law17_Few_c s.ledger szA _;obtain rfl:=foll hR rfl;exact Q30 lx sr
def QI1 (l:List Node):Int:=bif (((decide ((l.length:Int)<1))||(decide ((l.length:Int) > 48)))||(QE1 l (fun (y:Node)=>(!(Q02 y))))) then 120 else 0
theorem Qpa (l:List Node) (hs0:l.length<=4294967296):∀ objs,AGives Tryz.prog 113 [nodeL l] objs (I (QI1 l)):=by
 generalize hR:QI1 l=R;refine ga (.cons lw .nil) lx (kp 3 [14]) Tryz.func113 ?_;have hk0:=hs0;obtain z7:l.length<=4294967296:=hs0;have cl1:∀ (y1:Node),AMoves Tryz.prog 137 [Node.a y1] [] 0 (Bo ((fun (y:Node)=>(!(Q02 y))) y1)) []:=by
  intro y1;have hR:(fun (y:Node)=>(!(Q02 y))) y1=(fun (y:Node)=>(!(Q02 y))) y1:=rfl;refine mo (kp 3 []) Tryz.func137 ?_;refine us (fleet_fine_c y1 _) ?_;refine Q41 (fun r:Bool=>Bo r) (fun _=>[]) (leaf:=(!(Q02 y1))) (foll hR rfl) ?_;exact tt [] .nil t1
 have hof1:AMoves Tryz.prog 136 [nodeL l,AVal.fn (.func 137) [] []] [] 0 (Bo (QE1 l (fun (y:Node)=>(!(Q02 y))))) []:=by
  have hR:QE1 l (fun (y:Node)=>(!(Q02 y)))=QE1 l (fun (y:Node)=>(!(Q02 y))):=rfl;refine mo (kp 5 []) Tryz.func136 ?_;have hof2:AMoves Tryz.prog 149 [nodeL l,AVal.fn (.func 137) [] []] [] 0 (I (Q03 l (fun (y:Node)=>(!(Q02 y))))) []:=by
   have hR:Q03 l (fun (y:Node)=>(!(Q02 y)))=Q03 l (fun (y:Node)=>(!(Q02 y))):=rfl;refine mo (kp 6 [7,8,9,16]) Tryz.func149 ?_;refine Qw0 (fun (i:Nat)=>Qn5 (fun (y:Node)=>(!(Q02 y))) (List.drop i l) i=Q03 l (fun (y:Node)=>(!(Q02 y)))∧i<=l.length) (fun i=>l.length - i) (fun i=>[(0,nodeL l),(1,AVal.fn (.func 137) [] []),(4,I 0),(7,I (l.length:Int)),(8,I (i:Int))]) (fun i=>[]) 0 (wk [] .nil (sl lw (sv (Qo1 (Low.fn _ _ _ LowL.nil LowL.nil)) (s1 (s1 (s1 .nil)))))) ⟨foll hR rfl,by exact omA⟩ ?_;clear hR;rintro i ⟨hR,hj⟩;(try dsimp only at hR hj);refine ai (fun h1=>?_) (fun h2=>?_)
   ·have hlt:=ltA h1;rw [Qo0 Node.zero hlt] at hR;refine ai gkA ?_;refine us (mv [] (cl1 (l.getD i Node.zero)) .nil (dl (Node.low _ _) .nil) .nil rx) ?_;refine ai (fun h3=>?_) (fun h4=>?_)
    ·refine Q41 (fun r:Int=>I r) (fun r:Int=>[]) (leaf:=(i:Int)) (foll hR (ct h3 rfl)) ?_;exact tt [] .nil t1
    ·exact QA0 (i+1) (wk [] .nil (sl lw (sv (Qo1 (Low.fn _ _ _ LowL.nil LowL.nil)) (s1 (s1 (sv (Qt0 (I_eq (wr omA)) lx) .nil)))))) omA ⟨foll hR (cf h4 rfl),by exact omA⟩
   ·rw [Qp0 (l:=l) (j:=i) (geA h2)] at hR;refine Q41 (fun r:Int=>I r) (fun r:Int=>[]) (leaf:=(-1)) (foll hR rfl) ?_;exact tt [] .nil t1
  refine us (mv [] (hof2) .nil (dl lw (dv (Qk8 (Low.fn _ _ _ LowL.nil LowL.nil)) .nil)) .nil rx) ?_;refine Q41 (fun r:Bool=>Bo r) (fun r:Bool=>[]) (leaf:=(decide ((Q03 l (fun (y:Node)=>(!(Q02 y)))) >= 0))) (foll hR rfl) ?_;exact tt [] .nil t1
 (first|apply u2|apply u3|apply u4|apply us);exact mv [] (hof1) .nil (dl lw (dv (Qk8 (Low.fn _ _ _ LowL.nil LowL.nil)) .nil)) .nil rx;refine ai (fun h5=>?_) (fun h6=>?_)
 ·obtain rfl:=foll hR (ct h5 rfl);exact Q30 lx sr
 ·obtain rfl:=foll hR (cf h6 rfl);exact Q30 lx sr
def Q62 (r_:LexReader):Token × LexReader:=bif (!(QP8 ((Q90 r_ (fun (y:Int)=>(((decide (y >= 48))&&(decide (y<=57)))||((decide (y >= 97))&&(decide (y<=122)))))).1))) then ((⟨3,(Q90 r_ (fun (y:Int)=>(((decide (y >= 48))&&(decide (y<=57)))||((decide (y >= 97))&&(decide (y<=122)))))).1,0,0⟩:Token),(Q90 r_ (fun (y:Int)=>(((decide (y >= 48))&&(decide (y<=57)))||((decide (y >= 97))&&(decide (y<=122)))))).2) else bif (!(QU7 ((Q90 r_ (fun (y:Int)=>(((decide (y >= 48))&&(decide (y<=57)))||((decide (y >= 97))&&(decide (y<=122)))))).1)).2) then ((⟨2,⟨#[]⟩,(QU7 ((Q90 r_ (fun (y:Int)=>(((decide (y >= 48))&&(decide (y<=57)))||((decide (y >= 97))&&(decide (y<=122)))))).1)).1,0⟩:Token),(Qd1 ((Q90 r_ (fun (y:Int)=>(((decide (y >= 48))&&(decide (y<=57)))||((decide (y >= 97))&&(decide (y<=122)))))).2) r_.at_ 50)) else ((⟨2,⟨#[]⟩,(QU7 ((Q90 r_ (fun (y:Int)=>(((decide (y >= 48))&&(decide (y<=57)))||((decide (y >= 97))&&(decide (y<=122)))))).1)).1,0⟩:Token),(Q90 r_ (fun (y:Int)=>(((decide (y >= 48))&&(decide (y<=57)))||((decide (y >= 97))&&(decide (y<=122)))))).2)
theorem Qxd (r_:LexReader) (hs0:r_.sz) (hp0:0<=r_.at_∧r_.at_<=(r_.line.length:Int)∧r_.line.length<=400):AMoves Tryz.prog 233 [AVal.ptr 0 0 4 0 0] [(0,AObj.row 259 4 [[runes r_.line,I r_.at_,I r_.bad,I r_.error]])] 1 (Token.a ((Q62 r_).1)) [(0,AObj.row 259 4 [[runes ((Q62 r_).2.line),I ((Q62 r_).2.at_),I ((Q62 r_).2.bad),I ((Q62 r_).2.error)]])]:=by
 generalize hR:Q62 r_=R;refine mo (kp 7 [15,24]) Tryz.func233 ?_;have hk0:=hs0;obtain z7:r_.line.length<=4294967296:=hs0;have cl1:∀ (y1:Int),AMoves Tryz.prog 244 [J y1] [] 0 (Bo ((fun (y:Int)=>(((decide (y >= 48))&&(decide (y<=57)))||((decide (y >= 97))&&(decide (y<=122))))) y1)) []:=by
  intro y1;have hR:(fun (y:Int)=>(((decide (y >= 48))&&(decide (y<=57)))||((decide (y >= 97))&&(decide (y<=122))))) y1=(fun (y:Int)=>(((decide (y >= 48))&&(decide (y<=57)))||((decide (y >= 97))&&(decide (y<=122))))) y1:=rfl;refine mo (kp 3 []) Tryz.func244 ?_;refine Q41 (fun r:Bool=>Bo r) (fun _=>[]) (leaf:=(((decide (y1 >= 48))&&(decide (y1<=57)))||((decide (y1 >= 97))&&(decide (y1<=122))))) (foll hR rfl) ?_;exact tt [] .nil t1
 have hof1:AMoves Tryz.prog 222 [AVal.ptr 0 0 4 0 0,AVal.fn (.func 244) [] []] [(0,AObj.row 259 4 [[runes r_.line,I r_.at_,I r_.bad,I r_.error]])] 1 (Sg ((Q90 r_ (fun (y:Int)=>(((decide (y >= 48))&&(decide (y<=57)))||((decide (y >= 97))&&(decide (y<=122)))))).1)) [(0,AObj.row 259 4 [[runes (((Q90 r_ (fun (y:Int)=>(((decide (y >= 48))&&(decide (y<=57)))||((decide (y >= 97))&&(decide (y<=122)))))).2).line),I (((Q90 r_ (fun (y:Int)=>(((decide (y >= 48))&&(decide (y<=57)))||((decide (y >= 97))&&(decide (y<=122)))))).2).at_),I (((Q90 r_ (fun (y:Int)=>(((decide (y >= 48))&&(decide (y<=57)))||((decide (y >= 97))&&(decide (y<=122)))))).2).bad),I (((Q90 r_ (fun (y:Int)=>(((decide (y >= 48))&&(decide (y<=57)))||((decide (y >= 97))&&(decide (y<=122)))))).2).error)]])]:=by
  have hR:Q90 r_ (fun (y:Int)=>(((decide (y >= 48))&&(decide (y<=57)))||((decide (y >= 97))&&(decide (y<=122)))))=Q90 r_ (fun (y:Int)=>(((decide (y >= 48))&&(decide (y<=57)))||((decide (y >= 97))&&(decide (y<=122))))):=rfl;refine mo (kp 6 [33]) Tryz.func222 ?_;refine Qw0 (fun (c:LexReader)=>∃ m,(Int.toNat ((c.line.length:Int) - c.at_))<m∧QP0 r_ (QO0 (fun (y:Int)=>(((decide (y >= 48))&&(decide (y<=57)))||((decide (y >= 97))&&(decide (y<=122))))) m c)=Q90 r_ (fun (y:Int)=>(((decide (y >= 48))&&(decide (y<=57)))||((decide (y >= 97))&&(decide (y<=122)))))∧0<=c.at_∧c.at_<=(c.line.length:Int)∧c.line.length<=400∧r_.at_<=c.at_∧0<=r_.at_) (fun c=>(Int.toNat ((c.line.length:Int) - c.at_))) (fun c=>[(0,AVal.ptr 0 0 4 0 0),(1,AVal.fn (.func 244) [] []),(4,Sg ⟨#[]⟩),(5,I r_.at_)]) (fun c=>[(0,AObj.row 259 4 [[runes c.line,I c.at_,I c.bad,I c.error]])]) r_ (wk [0] (tO rfl (ts LexReader.lo) .nil) (sv (Q50 0 rfl rfl) (sv (Qo1 (Low.fn _ _ _ LowL.nil LowL.nil)) (s1 (s1 .nil))))) ⟨_,Nat.lt_succ_self _,foll hR rfl,by exact exA⟩ ?_;clear hR;rintro c ⟨m,hm,hR,hx⟩;(try dsimp only at hR hm hx);obtain ⟨m,rfl⟩:=sucA m;refine dchk (by kernel_rfl) ?_;refine ai gkA ?_;(first|apply u2|apply u3|apply u4|apply us);exact mv [] (cl1 (c.line.getD (Int.toNat c.at_) 0)) .nil (d1 .nil) .nil rx;(repeat ((first|refine ai rfl ?_|refine ai (fun _=>rfl) ?_)));refine ai (fun h1=>?_) (fun h2=>?_)
  ·have hq1:=of_decide_eq_true ((Bool.and_eq_true _ _).mp h1).1;have hwr:w64 (c.at_+1)=c.at_+1:=wr (by omega);exact QA0 { c with at_:=(w64 (c.at_+1)) } (wk [0] (tO rfl (ts LexReader.lo) .nil) (sv (Q50 0 rfl rfl) (sv (Qo1 (Low.fn _ _ _ LowL.nil LowL.nil)) (s1 (s1 .nil))))) omA ⟨m,by exact omA,foll hR (congrArg (fun p:LexReader=>QP0 r_ p) (ct h1 rfl)),by exact exA⟩
  ·replace hR:QP0 r_ c=Q90 r_ (fun (y:Int)=>(((decide (y >= 48))&&(decide (y<=57)))||((decide (y >= 97))&&(decide (y<=122))))):=fo2 (fun p:LexReader=>QP0 r_ p) (c) hR (cf h2 rfl);refine dchk (by kernel_rfl) ?_;refine ai gkA ?_;(first|refine ⟨(List.drop (Int.toNat r_.at_) (List.take (Int.toNat c.at_) c.line)),by exact cvA,?_⟩|refine ⟨_,fun _=>⟨(List.drop (Int.toNat r_.at_) (List.take (Int.toNat c.at_) c.line)),by exact cvA,rfl,rfl⟩,?_⟩|refine ⟨_,rfl,⟨(List.drop (Int.toNat r_.at_) (List.take (Int.toNat c.at_) c.line)),by exact cvA,Sub.refl _,rfl⟩,?_⟩);(repeat ((first|refine ai rfl ?_|refine ai (fun _=>rfl) ?_)));refine Q41 (fun r:ByteArray × LexReader=>Sg r.1) (fun r:ByteArray × LexReader=>[(0,AObj.row 259 4 [[runes r.2.line,I r.2.at_,I r.2.bad,I r.2.error]])]) (leaf:=((runesBytes (List.drop (Int.toNat r_.at_) (List.take (Int.toNat c.at_) c.line))),c)) (foll hR rfl) ?_;exact tt [0] (tO rfl (ts LexReader.lo) .nil) t1
 refine us (mv [0] (hof1) (dO (ds LexReader.lo) .nil) (dp (dv (Qk8 (Low.fn _ _ _ LowL.nil LowL.nil)) .nil)) (rO (re LexReader.lo) .nil) rx) ?_;refine us (QEe ((Q90 r_ (fun (y:Int)=>(((decide (y >= 48))&&(decide (y<=57)))||((decide (y >= 97))&&(decide (y<=122)))))).1) (by first|(exact Q9b _ _ hp0.2.2)|exact szA) _) ?_;refine ai (fun h3=>?_) (fun h4=>?_)
 ·obtain rfl:=foll hR (ct h3 rfl);exact rq (tt [0] (tO rfl (ts LexReader.lo) .nil) (Qo1 (Low.agg' (Token.lo))))
 ·refine us (lex_number_c ((Q90 r_ (fun (y:Int)=>(((decide (y >= 48))&&(decide (y<=57)))||((decide (y >= 97))&&(decide (y<=122)))))).1) (by first|(exact Q9b _ _ hp0.2.2)|exact szA) _) ?_;refine ai (fun h5=>?_) (fun h6=>?_)
  ·refine us (mv [0] (Q64 ((Q90 r_ (fun (y:Int)=>(((decide (y >= 48))&&(decide (y<=57)))||((decide (y >= 97))&&(decide (y<=122)))))).2) r_.at_ 50) (dO (ds LexReader.lo) .nil) (dp (d1 (d1 .nil))) (rO (re LexReader.lo) .nil) rx) ?_;obtain rfl:=foll hR (cf h4 (ct h5 rfl));exact rq (tt [0] (tO rfl (ts LexReader.lo) .nil) (Qo1 (Low.agg' (Token.lo))))
  ·obtain rfl:=foll hR (cf h4 (cf h6 rfl));exact rq (tt [0] (tO rfl (ts LexReader.lo) .nil) (Qo1 (Low.agg' (Token.lo))))
attribute [local irreducible] Q01
def Qv4 :List (Nat × Int)->Bool->List Int->ByteArray × Int
 | [],held,buf=>bif held then (⟨#[]⟩,50) else ((QH1 buf),0)
 | x_ :: r,held,buf=>bif ((held&&(x_.2 != 34))&&(x_.2 != 92)) then bif ((held&&(x_.2 != 34))&&(x_.2 != 92)) then (⟨#[]⟩,50) else bif ((!held)&&(x_.2==92)) then Qv4 r true buf else Qv4 r false (Q01 buf x_.2) else bif ((!held)&&(x_.2==34)) then (⟨#[]⟩,50) else bif ((!held)&&(x_.2==92)) then Qv4 r true buf else Qv4 r false (Q01 buf x_.2)
def QQ3 (s:ByteArray):ByteArray × Int:=bif ((Qw5 s).2 != 0) then (⟨#[]⟩,(Qw5 s).2) else bif (((decide ((ByteArray.size s:Int)<2))||(((s.data.toList.getD 0 0).toNat:Int)!=34))||(((s.data.toList.getD (Int.toNat (w64 ((ByteArray.size s:Int) - 1))) 0).toNat:Int)!=34)) then (⟨#[]⟩,50) else Qv4 (Qj8 (s.extract 1 (Int.toNat (w64 ((ByteArray.size s:Int) - 1))))) false []
theorem Qrb (s:ByteArray) (hs0:s.size<=4294967296) (hp0:ByteArray.size s<=1000000):∀ objs,AGives Tryz.prog 248 [Sg s] objs (AVal.tup [Sg ((QQ3 s).1),I ((QQ3 s).2)]):=by
 generalize hR:QQ3 s=R;refine ga (l1 .nil) (Low.tup' (l1 (l1 .nil))) (kp 10 [16,33,39,40,41,43,59,68]) Tryz.func248 ?_;have hk0:=hs0;obtain z19:s.size<=4294967296:=hs0;have hw0:w64 ((ByteArray.size s:Int) - 1)=(ByteArray.size s:Int) - 1:=wr (by omega);refine us (QTd s szA _) ?_;refine ai (fun h1=>?_) (fun h2=>?_)
 ·obtain rfl:=foll hR (ct h1 rfl);exact Q30 (Low.tup' (l1 (l1 .nil))) (Seen.tup (e1 (e1 .nil)))
 ·refine ai gkA ?_;refine ai gkA ?_;refine ai (fun h3=>?_) (fun h4=>?_)
  ·obtain rfl:=foll hR (cf h2 (ct h3 rfl));exact Q30 (Low.tup' (l1 (l1 .nil))) (Seen.tup (e1 (e1 .nil)))
  ·refine ai gkA ?_;refine Qf2 (fun (held:Bool) (buf:List Int) (pos:Nat)=>∃ m,ByteArray.size (s.extract 1 (Int.toNat (w64 ((ByteArray.size s:Int) - 1)))) - pos<=m∧Qv4 (QX4 (s.extract 1 (Int.toNat (w64 ((ByteArray.size s:Int) - 1)))) m pos) held buf=R∧buf.length<=4*pos∧pos<=ByteArray.size s∧Q31 buf) (fun held buf pos=>ByteArray.size (s.extract 1 (Int.toNat (w64 ((ByteArray.size s:Int) - 1)))) - pos) (fun held buf pos=>[(2,Sg ⟨#[]⟩),(3,I 0),(6,AVal.ptr 0 0 2 0 0),(7,Bo held),(39,AVal.ptr 1 0 1 0 0)]) (fun held buf pos=>[(0,AObj.row 54 2 [[AVal.sel 0 0 2 0 0,AVal.buf 2 0 1 buf.length]]),(0,AObj.other (.strIter (s.extract 1 (Int.toNat (w64 ((ByteArray.size s:Int) - 1)))) pos)),(0,AObj.row 5 1 (buf.map (fun q_=>[Y q_])))]) false [] 0 ((Qf1 5 1).trans (wk [0,1,2] (tO rfl (Qk0 (cv (turn_selnil) (cv (turn_nilbuf 2 rfl) .nil))) (tO rfl (.strIter _ _) (tO rfl (tl eqA) .nil))) (s1 (s1 (sv (Q50 0 rfl rfl) (s1 (sv (Q50 1 rfl rfl) .nil))))))) ⟨ByteArray.size (s.extract 1 (Int.toNat (w64 ((ByteArray.size s:Int) - 1)))),by exact omA,foll hR (cf h2 (cf h4 rfl)),by first|(have hsz:=extract_size s 1 (Int.toNat (w64 ((ByteArray.size s:Int) - 1)));refine ⟨?_,?_,?_⟩ <;> (try dsimp only) <;> first|omega|with_reducible exact Q54|with_reducible exact hx.2.2|with_reducible exact Q09 _ _ hx.2.2|exact Nat.le_trans (Qp4 _ _) (by omega)|(simp;done))|exact exA⟩ ?_;clear hR;rintro held buf pos ⟨m,hm,hR,hx⟩;(try dsimp only at hR hm hx);refine ai (fun h5=>?_) (fun h6=>?_)
   ·have hlt:=of_decide_eq_true h5;have hw:=QO8 (s.extract 1 (Int.toNat (w64 ((ByteArray.size s:Int) - 1)))) pos;have hwe:=QN8 (s.extract 1 (Int.toNat (w64 ((ByteArray.size s:Int) - 1)))) pos hlt;obtain ⟨m,rfl⟩:=sucA m;rw [QU3 h5] at hR;refine ai (fun _=>?_) (fun h=>nomatch h);refine ai (fun h7=>?_) (fun h8=>?_)
    ·refine ai (fun h9=>?_) (fun h10=>?_)
     ·obtain rfl:=foll hR (ct h7 (ct h9 rfl));exact Q30 (Low.tup' (l1 (l1 .nil))) (Seen.tup (e1 (e1 .nil)))
     ·refine ai (fun h11=>?_) (fun h12=>?_)
      ·exact Q12 true buf (pos+(Utf8.decode (s.extract 1 (Int.toNat (w64 ((ByteArray.size s:Int) - 1)))) pos).2) (wk [0,1,2] (tO rfl (Qk0 (cv (Qy2 0 rfl rfl) (cv (turn_buf 2 rfl rfl) .nil))) (tO rfl (.strIter _ _) (tO rfl (tl eqA) .nil))) (s1 (s1 (sv (Q50 0 rfl rfl) (s1 (sv (Q50 1 rfl rfl) .nil)))))) omA ⟨m,by exact omA,foll hR (ct h7 (cf h10 (ct h11 rfl))),by first|(have hsz:=extract_size s 1 (Int.toNat (w64 ((ByteArray.size s:Int) - 1)));refine ⟨?_,?_,?_⟩ <;> (try dsimp only) <;> first|omega|with_reducible exact Q54|with_reducible exact hx.2.2|with_reducible exact Q09 _ _ hx.2.2|exact Nat.le_trans (Qp4 _ _) (by omega)|(simp;done))|exact exA⟩
      ·refine us (mv [0,2] (Qqf buf ((pos,((Utf8.decode (s.extract 1 (Int.toNat (w64 ((ByteArray.size s:Int) - 1)))) pos).1:Int)).2) szA) (dO (dc (dv (Qz1 rfl) (dv (dn_buf rfl) .nil))) (dO (dr eqA) .nil)) (dp (d1 .nil)) (rO (rc (rv (rp 0 0 rfl) (rv (rw_ 3 0 rfl) .nil))) (rO rr .nil)) (Ren.low _ (Low.tup' (l1 (l1 .nil))))) ?_;exact Q12 false (Q01 buf (pos,((Utf8.decode (s.extract 1 (Int.toNat (w64 ((ByteArray.size s:Int) - 1)))) pos).1:Int)).2) (pos+(Utf8.decode (s.extract 1 (Int.toNat (w64 ((ByteArray.size s:Int) - 1)))) pos).2) (wk [0,1,3] (tO rfl (Qk0 (cv (Qn9 0 rfl rfl) (cv (Qug 2 rfl rfl lnA (by first|with_reducible exact QL7 _ _|(simp;done)|grind)) .nil))) (tO rfl (.strIter _ _) (tO rfl (tl eqA) .nil))) (s1 (s1 (sv (Q50 0 rfl rfl) (s1 (sv (Q50 1 rfl rfl) .nil)))))) omA ⟨m,by exact omA,foll hR (ct h7 (cf h10 (cf h12 rfl))),by first|(have hsz:=extract_size s 1 (Int.toNat (w64 ((ByteArray.size s:Int) - 1)));refine ⟨?_,?_,?_⟩ <;> (try dsimp only) <;> first|omega|with_reducible exact Q54|with_reducible exact hx.2.2|with_reducible exact Q09 _ _ hx.2.2|exact Nat.le_trans (Qp4 _ _) (by omega)|(simp;done))|exact exA⟩
    ·refine ai (fun h13=>?_) (fun h14=>?_)
     ·obtain rfl:=foll hR (cf h8 (ct h13 rfl));exact Q30 (Low.tup' (l1 (l1 .nil))) (Seen.tup (e1 (e1 .nil)))
     ·refine ai (fun h15=>?_) (fun h16=>?_)
      ·exact Q12 true buf (pos+(Utf8.decode (s.extract 1 (Int.toNat (w64 ((ByteArray.size s:Int) - 1)))) pos).2) (wk [0,1,2] (tO rfl (Qk0 (cv (Qy2 0 rfl rfl) (cv (turn_buf 2 rfl rfl) .nil))) (tO rfl (.strIter _ _) (tO rfl (tl eqA) .nil))) (s1 (s1 (sv (Q50 0 rfl rfl) (s1 (sv (Q50 1 rfl rfl) .nil)))))) omA ⟨m,by exact omA,foll hR (cf h8 (cf h14 (ct h15 rfl))),by first|(have hsz:=extract_size s 1 (Int.toNat (w64 ((ByteArray.size s:Int) - 1)));refine ⟨?_,?_,?_⟩ <;> (try dsimp only) <;> first|omega|with_reducible exact Q54|with_reducible exact hx.2.2|with_reducible exact Q09 _ _ hx.2.2|exact Nat.le_trans (Qp4 _ _) (by omega)|(simp;done))|exact exA⟩
      ·refine us (mv [0,2] (Qqf buf ((pos,((Utf8.decode (s.extract 1 (Int.toNat (w64 ((ByteArray.size s:Int) - 1)))) pos).1:Int)).2) szA) (dO (dc (dv (Qz1 rfl) (dv (dn_buf rfl) .nil))) (dO (dr eqA) .nil)) (dp (d1 .nil)) (rO (rc (rv (rp 0 0 rfl) (rv (rw_ 3 0 rfl) .nil))) (rO rr .nil)) (Ren.low _ (Low.tup' (l1 (l1 .nil))))) ?_;exact Q12 false (Q01 buf (pos,((Utf8.decode (s.extract 1 (Int.toNat (w64 ((ByteArray.size s:Int) - 1)))) pos).1:Int)).2) (pos+(Utf8.decode (s.extract 1 (Int.toNat (w64 ((ByteArray.size s:Int) - 1)))) pos).2) (wk [0,1,3] (tO rfl (Qk0 (cv (Qn9 0 rfl rfl) (cv (Qug 2 rfl rfl lnA (by first|with_reducible exact QL7 _ _|(simp;done)|grind)) .nil))) (tO rfl (.strIter _ _) (tO rfl (tl eqA) .nil))) (s1 (s1 (sv (Q50 0 rfl rfl) (s1 (sv (Q50 1 rfl rfl) .nil)))))) omA ⟨m,by exact omA,foll hR (cf h8 (cf h14 (cf h16 rfl))),by first|(have hsz:=extract_size s 1 (Int.toNat (w64 ((ByteArray.size s:Int) - 1)));refine ⟨?_,?_,?_⟩ <;> (try dsimp only) <;> first|omega|with_reducible exact Q54|with_reducible exact hx.2.2|with_reducible exact Q09 _ _ hx.2.2|exact Nat.le_trans (Qp4 _ _) (by omega)|(simp;done))|exact exA⟩
   ·rw [Qo6 h6] at hR;refine ai (fun h=>nomatch h) (fun _=>?_);refine ai (fun h17=>?_) (fun h18=>?_)
    ·obtain rfl:=foll hR (ct h17 rfl);exact Q30 (Low.tup' (l1 (l1 .nil))) (Seen.tup (e1 (e1 .nil)))
    ·refine us (mv [0,2] (String_c buf (by first|(with_reducible exact hx.2.2)|first|assumption|exact Q54|grind) szA) (dO (dc (dv (dn_any) (dv (dn_bufbuf rfl) .nil))) (dO (dr eqA) .nil)) (dp .nil) (rO (re (.cons Low.any (.cons Low.any .nil))) .nil) rx) ?_;obtain rfl:=foll hR (cf h18 rfl);exact Q30 (Low.tup' (l1 (l1 .nil))) (Seen.tup (e1 (e1 .nil)))
def Qs2 (ok:Bool):Int:=bif (!ok) then 70 else 0
def QV1 (s:Shape):Int:=bif (s.kind==1) then Qs2 (((((s.min==0)&&(s.max==0))&&(s.wall==0))&&((s.alts.length:Int)==1))&&(Q81 (s.alts.getD 0 Alt.zero))) else bif (s.kind==2) then Qs2 (((((((s.min==0)&&(s.max==0))&&(s.wall==0))&&(decide ((s.alts.length:Int) >= 1)))&&(decide ((s.alts.length:Int)<=6)))&&(Ql6 s.alts))&&(!(Qb1 s.alts (fun (y:Alt)=>(!(Q81 y)))))) else bif (s.kind==3) then Qs2 (((((s.alts.length:Int)==0)&&(decide (s.min<=s.max)))&&(Q81 (⟨s.min,s.wall⟩:Alt)))&&(decide (s.max<=48))) else Qs2 false
theorem QVd (s:Shape) (hs0:s.sz):∀ objs,AGives Tryz.prog 187 [Shape.a s] objs (I (QV1 s)):=by
 generalize hR:QV1 s=R;refine ga (.cons (Shape.low _ _) .nil) lx (kj [1000011] 6 [23,24,38,60,85]) Tryz.func187 ?_;have hk0:=hs0;obtain z13:s.alts.length<=4294967296:=hs0;refine Q63 (fun (ok:Bool)=>Qs2 ok=R) (fun ok=>[(2,I 0),(5,Bo ok)]) (fun ok=>[]) ?_ ?_
 ·clear hR;rintro ok hR;(try dsimp only at hR);refine ai (fun h1=>?_) (fun h2=>?_)
  ·obtain rfl:=foll hR (ct h1 rfl);exact Q30 lx sr
  ·obtain rfl:=foll hR (cf h2 rfl);exact Q30 lx sr
 ·refine ai (fun h3=>?_) (fun h4=>?_)
  ·refine ai gkA ?_;(first|apply u2|apply u3|apply u4|apply us);exact Qub (s.alts.getD 0 Alt.zero) _;exact Qz0 (((((s.min==0)&&(s.max==0))&&(s.wall==0))&&((s.alts.length:Int)==1))&&(Q81 (s.alts.getD 0 Alt.zero))) (wk [] .nil (s1 (s1 .nil))) (foll hR (ct h3 rfl))
  ·refine ai (fun h5=>?_) (fun h6=>?_)
   ·(first|apply u2|apply u3|apply u4|apply us);exact shape_apart_c s.alts szA _;have cl1:∀ (y1:Alt),AMoves Tryz.prog 204 [Alt.a y1] [] 0 (Bo ((fun (y:Alt)=>(!(Q81 y))) y1)) []:=by
     intro y1;have hR:(fun (y:Alt)=>(!(Q81 y))) y1=(fun (y:Alt)=>(!(Q81 y))) y1:=rfl;refine mo (kp 3 []) Tryz.func204 ?_;refine us (Qub y1 _) ?_;refine Q41 (fun r:Bool=>Bo r) (fun _=>[]) (leaf:=(!(Q81 y1))) (foll hR rfl) ?_;exact tt [] .nil t1
    have hof1:AMoves Tryz.prog 203 [altL s.alts,AVal.fn (.func 204) [] []] [] 0 (Bo (Qb1 s.alts (fun (y:Alt)=>(!(Q81 y))))) []:=by
     have hR:Qb1 s.alts (fun (y:Alt)=>(!(Q81 y)))=Qb1 s.alts (fun (y:Alt)=>(!(Q81 y))):=rfl;refine mo (kp 5 []) Tryz.func203 ?_;have hof2:AMoves Tryz.prog 215 [altL s.alts,AVal.fn (.func 204) [] []] [] 0 (I (Qq1 s.alts (fun (y:Alt)=>(!(Q81 y))))) []:=by
      have hR:Qq1 s.alts (fun (y:Alt)=>(!(Q81 y)))=Qq1 s.alts (fun (y:Alt)=>(!(Q81 y))):=rfl;refine mo (kp 6 [7,8,9,16]) Tryz.func215 ?_;refine Qw0 (fun (i:Nat)=>QS3 (fun (y:Alt)=>(!(Q81 y))) (List.drop i s.alts) i=Qq1 s.alts (fun (y:Alt)=>(!(Q81 y)))∧i<=s.alts.length) (fun i=>s.alts.length - i) (fun i=>[(0,altL s.alts),(1,AVal.fn (.func 204) [] []),(4,I 0),(7,I (s.alts.length:Int)),(8,I (i:Int))]) (fun i=>[]) 0 (wk [] .nil (sl lw (sv (Qo1 (Low.fn _ _ _ LowL.nil LowL.nil)) (s1 (s1 (s1 .nil)))))) ⟨foll hR rfl,by exact omA⟩ ?_;clear hR;rintro i ⟨hR,hj⟩;(try dsimp only at hR hj);refine ai (fun h7=>?_) (fun h8=>?_)
      ·have hlt:=ltA h7;rw [Qo0 Alt.zero hlt] at hR;refine ai gkA ?_;refine us (mv [] (cl1 (s.alts.getD i Alt.zero)) .nil (dl (Alt.low _ _) .nil) .nil rx) ?_;refine ai (fun h9=>?_) (fun h10=>?_)
       ·refine Q41 (fun r:Int=>I r) (fun r:Int=>[]) (leaf:=(i:Int)) (foll hR (ct h9 rfl)) ?_;exact tt [] .nil t1
       ·exact QA0 (i+1) (wk [] .nil (sl lw (sv (Qo1 (Low.fn _ _ _ LowL.nil LowL.nil)) (s1 (s1 (sv (Qt0 (I_eq (wr omA)) lx) .nil)))))) omA ⟨foll hR (cf h10 rfl),by exact omA⟩
      ·rw [Qp0 (l:=s.alts) (j:=i) (geA h8)] at hR;refine Q41 (fun r:Int=>I r) (fun r:Int=>[]) (leaf:=(-1)) (foll hR rfl) ?_;exact tt [] .nil t1
     refine us (mv [] (hof2) .nil (dl lw (dv (Qk8 (Low.fn _ _ _ LowL.nil LowL.nil)) .nil)) .nil rx) ?_;refine Q41 (fun r:Bool=>Bo r) (fun r:Bool=>[]) (leaf:=(decide ((Qq1 s.alts (fun (y:Alt)=>(!(Q81 y)))) >= 0))) (foll hR rfl) ?_;exact tt [] .nil t1
    (first|apply u2|apply u3|apply u4|apply us);exact mv [] (hof1) .nil (dl lw (dv (Qk8 (Low.fn _ _ _ LowL.nil LowL.nil)) .nil)) .nil rx;exact Qz0 (((((((s.min==0)&&(s.max==0))&&(s.wall==0))&&(decide ((s.alts.length:Int) >= 1)))&&(decide ((s.alts.length:Int)<=6)))&&(Ql6 s.alts))&&(!(Qb1 s.alts (fun (y:Alt)=>(!(Q81 y)))))) (wk [] .nil (s1 (s1 .nil))) (foll hR (cf h4 (ct h5 rfl)))
   ·refine ai (fun h11=>?_) (fun h12=>?_)
    ·(first|apply u2|apply u3|apply u4|apply us);exact Qub (⟨s.min,s.wall⟩:Alt) _;exact Qz0 (((((s.alts.length:Int)==0)&&(decide (s.min<=s.max)))&&(Q81 (⟨s.min,s.wall⟩:Alt)))&&(decide (s.max<=48))) (wk [] .nil (s1 (s1 .nil))) (foll hR (cf h4 (cf h6 (ct h11 rfl))))
    ·exact Qz0 false (wk [] .nil (s1 (s1 .nil))) (foll hR (cf h4 (cf h6 (cf h12 rfl))))
def Qe4 (l:List Usage):List Usage->Nat->Int
 | [],_=>0
 | x_ :: r,i=>bif ((((((!(QI3 x_.user))||(!(QI3 x_.account)))||(x_.used != (Qo4 x_.used)))||(decide (x_.share<0)))||(decide (x_.share > x_.used)))||((decide ((i:Int) > 0))&&(decide ((Qh7 (l.getD (Int.toNat (w64 ((i:Int) - 1))) Usage.zero) x_) >= 0)))) then 2 else Qe4 l r (i+1)
def QY3 (l:List Usage):Int:=bif (decide ((l.length:Int) > 200)) then 2 else Qe4 l l 0
theorem ledger_Check_c (l:List Usage) (hs0:l.length<=4294967296∧(∀ y ∈ l,y.sz)):∀ objs,AGives Tryz.prog 87 [QO2 l] objs (I (QY3 l)):=by
 generalize hR:QY3 l=R;refine ga (.cons lw .nil) lx (kp 5 [7,8,9,10,11,58]) Tryz.func87 ?_;have hk0:=hs0;obtain ⟨z9,z10⟩:l.length<=4294967296∧(∀ y ∈ l,y.sz):=hs0;refine ai (fun h1=>?_) (fun h2=>?_)
 ·have qh1:=of_decide_eq_true h1;obtain rfl:=foll hR (ct h1 rfl);exact Q30 lx sr
 ·have qh2:=of_decide_eq_false h2;refine Qw0 (fun (i:Nat)=>Qe4 l (List.drop i l) i=R∧i<=l.length) (fun i=>l.length - i) (fun i=>[(0,QO2 l),(2,I 0),(8,QO2 l),(9,I (l.length:Int)),(10,I (i:Int))]) (fun i=>[]) 0 (wk [] .nil (sl lw (s1 (sl lw (s1 (s1 .nil)))))) ⟨foll hR (cf h2 rfl),by exact omA⟩ ?_;clear hR;rintro i ⟨hR,hj⟩;(try dsimp only at hR hj);refine ai (fun h3=>?_) (fun h4=>?_)
  ·have hlt:=ltA h3;rw [Qo0 Usage.zero hlt] at hR;have hxz:(l.getD i Usage.zero).sz:=QD4 (by first|assumption|grind) (Usage.szz _);have hkz:=hxz;obtain ⟨z5,z6⟩:((l.getD i Usage.zero).user).size<=4294967296∧((l.getD i Usage.zero).account).size<=4294967296:=hxz;refine ai gkA ?_;refine dchk (by kernel_rfl) ?_;(first|apply u2|apply u3|apply u4|apply us);exact QI8 ((l.getD i Usage.zero).user) _;(first|apply u2|apply u3|apply u4|apply us);exact QI8 ((l.getD i Usage.zero).account) _;(first|apply u2|apply u3|apply u4|apply us);exact QEa ((l.getD i Usage.zero).used) _;refine ai gkA ?_;(first|apply u2|apply u3|apply u4|apply us);exact Qbc (l.getD (Int.toNat (w64 ((i:Int) - 1))) Usage.zero) (l.getD i Usage.zero) szA szA _;(repeat ((first|refine ai rfl ?_|refine ai (fun _=>rfl) ?_|refine ai (fun _=>QI8 ((l.getD i Usage.zero).user) _) ?_|refine ai (fun _=>QI8 ((l.getD i Usage.zero).account) _) ?_|refine ai (fun _=>QEa ((l.getD i Usage.zero).used) _) ?_|refine ai (fun _=>Qbc (l.getD (Int.toNat (w64 ((i:Int) - 1))) Usage.zero) (l.getD i Usage.zero) szA szA _) ?_)));refine ai (fun h7=>?_) (fun h8=>?_)
   ·obtain rfl:=foll hR (ct h7 rfl);exact Q30 lx sr
   ·exact QA0 (i+1) (wk [] .nil (sl lw (s1 (sl lw (s1 (sv (Qt0 (I_eq (wr omA)) lx) .nil)))))) omA ⟨foll hR (cf h8 rfl),by exact omA⟩
  ·rw [Qp0 (l:=l) (j:=i) (geA h4)] at hR;obtain rfl:=foll hR rfl;exact Q30 lx sr
def Qx0 (w:List Int) (ok:Bool):List Int:=bif ok then (Q20 w 1 1) else (Q20 w 0 1)
theorem Q47 (w:List Int) (ok:Bool) (hs0:w.length<=35184372088832):AMoves Tryz.prog 64 [AVal.ptr 0 0 2 0 0,Bo ok] [(0,AObj.row 56 2 [[AVal.sel 0 0 2 0 0,AVal.own 1 0 1 0 w.length]]),(0,AObj.row 5 1 (w.map (fun q_=>[Y q_])))] 1 (AVal.tup []) [(0,AObj.row 56 2 [[AVal.sel 0 0 2 0 0,AVal.own 1 0 1 0 (Qx0 w ok).length]]),(0,AObj.row 5 1 ((Qx0 w ok).map (fun q_=>[Y q_])))]:=by
 generalize hR:Qx0 w ok=R;refine mo (kp 5 [5]) Tryz.func64 ?_;have hk0:=hs0;obtain z3:w.length<=35184372088832:=hs0;refine ai (fun h1=>?_) (fun h2=>?_)
 ·refine us (mv [0,1] (Qa0 w 1 1 szA) (dO (dc (dv (Qz1 rfl) (dv (QT0 rfl lnA) .nil))) (dO (dr eqA) .nil)) (dp (d1 (d1 .nil))) (rO (rc (rv (Ren.sel _ _ _ _ _ _ rfl) (.cons _ _ _ _ (rw_ 2 0 rfl) .nil))) (rO rr .nil)) rx) ?_;obtain rfl:=foll hR (ct h1 rfl);exact rq (tt [0,2] (tO rfl (Qk0 (cv (Qy2 0 rfl rfl) (cv (to 1 lnA) .nil))) (tO rfl (tl eqA) .nil)) t1)
 ·refine us (mv [0,1] (Qa0 w 0 1 szA) (dO (dc (dv (Qz1 rfl) (dv (QT0 rfl lnA) .nil))) (dO (dr eqA) .nil)) (dp (d1 (d1 .nil))) (rO (rc (rv (Ren.sel _ _ _ _ _ _ rfl) (.cons _ _ _ _ (rw_ 2 0 rfl) .nil))) (rO rr .nil)) rx) ?_;obtain rfl:=foll hR (cf h2 rfl);exact rq (tt [0,2] (tO rfl (Qk0 (cv (Qy2 0 rfl rfl) (cv (to 1 lnA) .nil))) (tO rfl (tl eqA) .nil)) t1)
theorem Qn8 (w:List Int) (ok:Bool):(Qx0 w ok).length<=w.length+8:=by
 cases ok <;> exact QL1 _ _ _
theorem image_writer_flag_in {w:List Int} (ok:Bool) (h:Q31 w):Q31 (Qx0 w ok):=by cases ok <;> exact QD0 _ _ h
theorem image_writer_flag_le {w:List Int} {ok:Bool} {c m:Nat} (h:w.length+(8+c)<=m):(Qx0 w ok).length+c<=m:=by have:=Qn8 w ok;omega
theorem image_writer_flag_ge {w:List Int} {ok:Bool} (h:1<=w.length):1<=(Qx0 w ok).length:=by cases ok <;> exact QC0 h
def QX1 :List Alt->Nat->List Int->(List Int)
 | [],_,buf=>buf
 | x_ :: r,i,buf=>QX1 r (i+1) (Q20 (Q20 buf x_.nodes 1) x_.wall 4)
def QS2 (s:Shape) (buf:List Int):List Int:=(Q20 (Q20 (Q20 buf s.min 1) s.max 1) s.wall 4)
def QV0 (w:List Int) (s:Shape):List Int:=QS2 s (QX1 s.alts 0 (Q20 (Q20 w s.kind 1) (s.alts.length:Int) 1))
theorem QYb (w:List Int) (s:Shape) (hs0:w.length<=35184372088832) (hs1:s.sz) (hp0:Q31 w∧w.length<=8796093022208∧s.alts.length<=65536):AMoves Tryz.prog 66 [AVal.ptr 0 0 2 0 0,Shape.a s] [(0,AObj.row 56 2 [[AVal.sel 0 0 2 0 0,AVal.own 1 0 1 0 w.length]]),(0,AObj.row 5 1 (w.map (fun q_=>[Y q_])))] 1 (AVal.tup []) [(0,AObj.row 56 2 [[AVal.sel 0 0 2 0 0,AVal.own 1 0 1 0 (QV0 w s).length]]),(0,AObj.row 5 1 ((QV0 w s).map (fun q_=>[Y q_])))]:=by
 generalize hR:QV0 w s=R;refine mo (kp 4 []) Tryz.func66 ?_;have hk0:=hs0;obtain z3:w.length<=35184372088832:=hs0;have hk1:=hs1;obtain z4:s.alts.length<=4294967296:=hs1;refine us (mv [0,1] (Qa0 w s.kind 1 imwA) (dO (dc (dv (Qz1 rfl) (dv (QT0 rfl lnA) .nil))) (dO (dr eqA) .nil)) (dp (d1 (d1 .nil))) (rO (rc (rv (Ren.sel _ _ _ _ _ _ rfl) (.cons _ _ _ _ (rw_ 4 0 rfl) .nil))) (rO rr .nil)) rx) ?_;refine ACalls.of_cwp (fun _=>true) Tryz.func95 rfl rfl ?_;refine us (mv [0,4] (Qa0 (Q20 w s.kind 1) (s.alts.length:Int) 1 imwA) (dO (dc (dv (Qz1 rfl) (dv (QT0 rfl lnA) .nil))) (dO (dr eqA) .nil)) (dp (d1 (d1 .nil))) (rO (rc (rv (Ren.sel _ _ _ _ _ _ rfl) (.cons _ _ _ _ (rw_ 5 0 rfl) .nil))) (rO rr .nil)) rx) ?_;refine Qq0 (fun (i:Nat) (buf:List Int)=>QS2 s (QX1 (List.drop i s.alts) i buf)=R∧i<=s.alts.length∧buf.length<=w.length+16+16*i∧Q31 buf) (fun i buf=>s.alts.length - i) (fun i buf=>[(2,AVal.fn (.func 96) [] [AVal.ptr 2 0 1 0 0]),(12,altL s.alts),(13,I (s.alts.length:Int)),(14,I (i:Int))]) (fun i buf=>[(0,AObj.row 56 2 [[AVal.sel 0 0 2 0 0,AVal.own 5 0 1 0 buf.length]]),(0,AObj.dead),(0,AObj.row 50 1 [[AVal.ptr 0 0 2 0 0]]),(0,AObj.row 63 5 [[I s.kind,altL s.alts,I s.min,I s.max,I s.wall]]),(0,AObj.dead),(0,AObj.row 5 1 (buf.map (fun q_=>[Y q_])))]) 0 (Q20 (Q20 w s.kind 1) (s.alts.length:Int) 1) (wk [0,1,2,3,4,5] (tO rfl (Qk0 (cv (Qy2 0 rfl rfl) (cv (to 5 lnA) .nil))) (tO rfl (.dead _) (tO rfl (Qk0 (cv (Q50 0 rfl rfl) .nil)) (tO rfl (ts Shape.lo) (tO rfl (.dead _) (tO rfl (tl eqA) .nil)))))) (sv (Q51 .nil (cv (Q50 2 rfl rfl) .nil)) (sl lw (s1 (s1 .nil))))) ⟨foll hR rfl,by exact omA,by first|((exact impA))|exact exA⟩ ?_;clear hR;rintro i buf ⟨hR,hj,hx⟩;(try dsimp only at hR hj hx);refine ai (fun h1=>?_) (fun h2=>?_)
 ·have hlt:=ltA h1;rw [Qo0 Alt.zero hlt] at hR;refine ai gkA ?_;refine ACalls.of_cwp (fun _=>true) Tryz.func96 rfl rfl ?_;refine us (mv [0,5] (Qa0 buf ((s.alts.getD i Alt.zero).nodes) 1 imwA) (dO (dc (dv (Qz1 rfl) (dv (QT0 rfl lnA) .nil))) (dO (dr eqA) .nil)) (dp (d1 (d1 .nil))) (rO (rc (rv (Ren.sel _ _ _ _ _ _ rfl) (.cons _ _ _ _ (rw_ 8 0 rfl) .nil))) (rO rr .nil)) rx) ?_;refine us (mv [0,8] (Qa0 (Q20 buf (s.alts.getD i Alt.zero).nodes 1) ((s.alts.getD i Alt.zero).wall) 4 imwA) (dO (dc (dv (Qz1 rfl) (dv (QT0 rfl lnA) .nil))) (dO (dr eqA) .nil)) (dp (d1 (d1 .nil))) (rO (rc (rv (Ren.sel _ _ _ _ _ _ rfl) (.cons _ _ _ _ (rw_ 9 0 rfl) .nil))) (rO rr .nil)) rx) ?_;refine ⟨_,_,Told.refl,?_⟩;exact Qm0 (i+1) (Q20 (Q20 buf (s.alts.getD i Alt.zero).nodes 1) (s.alts.getD i Alt.zero).wall 4) (wk [0,1,2,3,4,9] (tO rfl (Qk0 (cv (Qy2 0 rfl rfl) (cv (to 5 lnA) .nil))) (tO rfl (.dead _) (tO rfl (Qk0 (cv (Q50 0 rfl rfl) .nil)) (tO rfl (ts Shape.lo) (tO rfl (.dead _) (tO rfl (tl eqA) .nil)))))) (sv (Q51 .nil (cv (Q50 2 rfl rfl) .nil)) (sl lw (s1 (sv (Qt0 (I_eq (wr omA)) lx) .nil))))) omA ⟨foll hR (congrArg (fun p:(List Int)=>QS2 s p) rfl),by exact omA,by first|((exact impA))|exact exA⟩
 ·rw [Qp0 (l:=s.alts) (j:=i) (geA h2)] at hR;replace hR:QS2 s buf=R:=fo2 (fun p:(List Int)=>QS2 s p) (buf) hR rfl;refine ⟨_,_,Told.refl,?_⟩;refine us (mv [0,5] (Qa0 buf s.min 1 imwA) (dO (dc (dv (Qz1 rfl) (dv (QT0 rfl lnA) .nil))) (dO (dr eqA) .nil)) (dp (d1 (d1 .nil))) (rO (rc (rv (Ren.sel _ _ _ _ _ _ rfl) (.cons _ _ _ _ (rw_ 6 0 rfl) .nil))) (rO rr .nil)) rx) ?_;refine us (mv [0,6] (Qa0 (Q20 buf s.min 1) s.max 1 imwA) (dO (dc (dv (Qz1 rfl) (dv (QT0 rfl lnA) .nil))) (dO (dr eqA) .nil)) (dp (d1 (d1 .nil))) (rO (rc (rv (Ren.sel _ _ _ _ _ _ rfl) (.cons _ _ _ _ (rw_ 7 0 rfl) .nil))) (rO rr .nil)) rx) ?_;refine us (mv [0,7] (Qa0 (Q20 (Q20 buf s.min 1) s.max 1) s.wall 4 imwA) (dO (dc (dv (Qz1 rfl) (dv (QT0 rfl lnA) .nil))) (dO (dr eqA) .nil)) (dp (d1 (d1 .nil))) (rO (rc (rv (Ren.sel _ _ _ _ _ _ rfl) (.cons _ _ _ _ (rw_ 8 0 rfl) .nil))) (rO rr .nil)) rx) ?_;obtain rfl:=foll hR rfl;exact rq (tt [0,8] (tO rfl (Qk0 (cv (Qy2 0 rfl rfl) (cv (to 1 lnA) .nil))) (tO rfl (tl eqA) .nil)) t1)
theorem QM7 (w:List Int) (s:Shape):(QV0 w s).length<=w.length+40+16*s.alts.length:=by
 have h:∀ (r:List Alt) (i:Nat) (b:List Int),(QX1 r i b).length<=b.length+16*r.length:=by
  intro r
  induction r with
  | nil=>intro i b;exact Nat.le_refl _
  | cons x r ih =>
   intro i b
   have h1:=ih (i+1) (Q20 (Q20 b x.nodes 1) x.wall 4)
   have h2:=QL1 b x.nodes 1
   have h3:=QL1 (Q20 b x.nodes 1) x.wall 4
   show (QX1 r (i+1) (Q20 (Q20 b x.nodes 1) x.wall 4)).length<=_
   simp only [List.length_cons]
   omega
 have h0:=h s.alts 0 (Q20 (Q20 w s.kind 1) (s.alts.length:Int) 1)
 unfold QV0 QS2
 grind [QL1]
theorem image_writer_shape_le {w:List Int} {s:Shape} {c m:Nat} (h:w.length+(40+16*s.alts.length+c)<=m):(QV0 w s).length+c<=m:=by have:=QM7 w s;omega
theorem image_writer_shape_in {w:List Int} (s:Shape) (h:Q31 w):Q31 (QV0 w s):=by
 have hg:∀ (r:List Alt) (i:Nat) (b:List Int),Q31 b->Q31 (QX1 r i b):=by
  intro r
  induction r with
  | nil=>intro i b hb;exact hb
  | cons x r ih=>intro i b hb;exact ih (i+1) _ (QD0 _ _ (QD0 _ _ hb))
 exact QD0 _ _ (QD0 _ _ (QD0 _ _ (hg _ _ _ (QD0 _ _ (QD0 _ _ h)))))
theorem image_writer_shape_ge {w:List Int} {s:Shape} (h:1<=w.length):1<=(QV0 w s).length:=by
 have hg:∀ (r:List Alt) (i:Nat) (b:List Int),1<=b.length->1<=(QX1 r i b).length:=by
  intro r
  induction r with
  | nil=>intro i b hb;exact hb
  | cons x r ih=>intro i b hb;exact ih (i+1) _ (QC0 (QC0 hb))
 exact QC0 (QC0 (QC0 (hg _ _ _ (QC0 (QC0 h)))))
def Qi1 (w:List Int) (b:Book):List Int:=(Q20 (Q20 (Q20 (Q20 w b.id 4) b.from_ 4) b.to 4) b.nodes 1)
theorem QHc (w:List Int) (b:Book) (hs0:w.length<=35184372088832) (hp0:w.length<=17592186044416):AMoves Tryz.prog 27 [AVal.ptr 0 0 2 0 0,Book.a b] [(0,AObj.row 56 2 [[AVal.sel 0 0 2 0 0,AVal.own 1 0 1 0 w.length]]),(0,AObj.row 5 1 (w.map (fun q_=>[Y q_])))] 1 (AVal.tup []) [(0,AObj.row 56 2 [[AVal.sel 0 0 2 0 0,AVal.own 1 0 1 0 (Qi1 w b).length]]),(0,AObj.row 5 1 ((Qi1 w b).map (fun q_=>[Y q_])))]:=by
 generalize hR:Qi1 w b=R;refine mo (kp 4 []) Tryz.func27 ?_;have hk0:=hs0;obtain z1:w.length<=35184372088832:=hs0;refine us (mv [0,1] (Qa0 w b.id 4 imwA) (dO (dc (dv (Qz1 rfl) (dv (QT0 rfl lnA) .nil))) (dO (dr eqA) .nil)) (dp (d1 (d1 .nil))) (rO (rc (rv (Ren.sel _ _ _ _ _ _ rfl) (.cons _ _ _ _ (rw_ 3 0 rfl) .nil))) (rO rr .nil)) rx) ?_;refine us (mv [0,3] (Qa0 (Q20 w b.id 4) b.from_ 4 imwA) (dO (dc (dv (Qz1 rfl) (dv (QT0 rfl lnA) .nil))) (dO (dr eqA) .nil)) (dp (d1 (d1 .nil))) (rO (rc (rv (Ren.sel _ _ _ _ _ _ rfl) (.cons _ _ _ _ (rw_ 4 0 rfl) .nil))) (rO rr .nil)) rx) ?_;refine us (mv [0,4] (Qa0 (Q20 (Q20 w b.id 4) b.from_ 4) b.to 4 imwA) (dO (dc (dv (Qz1 rfl) (dv (QT0 rfl lnA) .nil))) (dO (dr eqA) .nil)) (dp (d1 (d1 .nil))) (rO (rc (rv (Ren.sel _ _ _ _ _ _ rfl) (.cons _ _ _ _ (rw_ 5 0 rfl) .nil))) (rO rr .nil)) rx) ?_;refine us (mv [0,5] (Qa0 (Q20 (Q20 (Q20 w b.id 4) b.from_ 4) b.to 4) b.nodes 1 imwA) (dO (dc (dv (Qz1 rfl) (dv (QT0 rfl lnA) .nil))) (dO (dr eqA) .nil)) (dp (d1 (d1 .nil))) (rO (rc (rv (Ren.sel _ _ _ _ _ _ rfl) (.cons _ _ _ _ (rw_ 6 0 rfl) .nil))) (rO rr .nil)) rx) ?_;obtain rfl:=foll hR rfl;exact rq (tt [0,6] (tO rfl (Qk0 (cv (Qy2 0 rfl rfl) (cv (to 1 lnA) .nil))) (tO rfl (tl eqA) .nil)) t1)
theorem Q2b (w:List Int) (x:Book):(Qi1 w x).length<=w.length+32:=by
 unfold Qi1
 refine QY9 ?_
 repeat (first|with_reducible apply image_writer_job_le|with_reducible apply image_writer_usage_le|with_reducible apply image_writer_book_le|with_reducible apply image_writer_resize_le|with_reducible apply image_writer_node_le|with_reducible apply image_writer_shape_le|with_reducible apply QU2|with_reducible apply image_writer_flag_le|with_reducible apply QA2)
 (try simp only [List.length_cons,List.length_nil])
 omega
theorem image_writer_book_le {w:List Int} {x:Book} {c m:Nat} (h:w.length+(32+c)<=m):(Qi1 w x).length+c<=m:=by have:=Q2b w x;omega
theorem image_writer_book_in {w:List Int} (x:Book) (h:Q31 w):Q31 (Qi1 w x):=by
 unfold Qi1
 repeat (first|exact h|with_reducible apply QD0)
theorem image_writer_book_ge {w:List Int} {x:Book} (h:1<=w.length):1<=(Qi1 w x).length:=by
 unfold Qi1
 repeat (first|exact h|with_reducible apply QC0)
def QW0 (w:List Int) (u:Usage):List Int:=(Q20 (Q20 (QL0 w ([u.user,u.account]:List ByteArray)) u.used 8) u.share 8)
theorem QZb (w:List Int) (u:Usage) (hs0:w.length<=35184372088832) (hs1:u.sz) (hp0:Q31 w∧w.length<=17592186044416):AMoves Tryz.prog 29 [AVal.ptr 0 0 2 0 0,Usage.a u] [(0,AObj.row 56 2 [[AVal.sel 0 0 2 0 0,AVal.own 1 0 1 0 w.length]]),(0,AObj.row 5 1 (w.map (fun q_=>[Y q_])))] 1 (AVal.tup []) [(0,AObj.row 56 2 [[AVal.sel 0 0 2 0 0,AVal.own 1 0 1 0 (QW0 w u).length]]),(0,AObj.row 5 1 ((QW0 w u).map (fun q_=>[Y q_])))]:=by
 generalize hR:QW0 w u=R;refine mo (kp 4 []) Tryz.func29 ?_;have hk0:=hs0;obtain z1:w.length<=35184372088832:=hs0;have hk1:=hs1;obtain ⟨z2,z3⟩:u.user.size<=4294967296∧u.account.size<=4294967296:=hs1;refine Or.inl ?_;refine us (mv [0,1] (QF8 w ([u.user,u.account]:List ByteArray) imwA imwA (by (exact impA))) (dO (dc (dv (Qz1 rfl) (dv (QT0 rfl lnA) .nil))) (dO (dr eqA) .nil)) (dp (dv (dn_as (QS7 (c:=(fun q_=>[Sg q_])) (d:=⟨#[]⟩) ([u.user,u.account]:List ByteArray) rfl) lw) .nil)) (rO (rc (rv (Ren.sel _ _ _ _ _ _ rfl) (.cons _ _ _ _ (rw_ 3 0 rfl) .nil))) (rO rr .nil)) rx) ?_;refine us (mv [0,3] (Qa0 (QL0 w ([u.user,u.account]:List ByteArray)) u.used 8 imwA) (dO (dc (dv (Qz1 rfl) (dv (QT0 rfl lnA) .nil))) (dO (dr eqA) .nil)) (dp (d1 (d1 .nil))) (rO (rc (rv (Ren.sel _ _ _ _ _ _ rfl) (.cons _ _ _ _ (rw_ 4 0 rfl) .nil))) (rO rr .nil)) rx) ?_;refine us (mv [0,4] (Qa0 (Q20 (QL0 w ([u.user,u.account]:List ByteArray)) u.used 8) u.share 8 imwA) (dO (dc (dv (Qz1 rfl) (dv (QT0 rfl lnA) .nil))) (dO (dr eqA) .nil)) (dp (d1 (d1 .nil))) (rO (rc (rv (Ren.sel _ _ _ _ _ _ rfl) (.cons _ _ _ _ (rw_ 5 0 rfl) .nil))) (rO rr .nil)) rx) ?_;obtain rfl:=foll hR rfl;exact rq (tt [0,5] (tO rfl (Qk0 (cv (Qy2 0 rfl rfl) (cv (to 1 lnA) .nil))) (tO rfl (tl eqA) .nil)) t1)
theorem QSa (w:List Int) (x:Usage):(QW0 w x).length<=w.length+140000:=by
 unfold QW0
 refine QY9 ?_
 repeat (first|with_reducible apply image_writer_job_le|with_reducible apply image_writer_usage_le|with_reducible apply image_writer_book_le|with_reducible apply image_writer_resize_le|with_reducible apply image_writer_node_le|with_reducible apply image_writer_shape_le|with_reducible apply QU2|with_reducible apply image_writer_flag_le|with_reducible apply QA2)
 (try simp only [List.length_cons,List.length_nil])
 omega
theorem image_writer_usage_le {w:List Int} {x:Usage} {c m:Nat} (h:w.length+(140000+c)<=m):(QW0 w x).length+c<=m:=by have:=QSa w x;omega
theorem image_writer_usage_in {w:List Int} (x:Usage) (h:Q31 w):Q31 (QW0 w x):=by
 unfold QW0
 repeat (first|exact h|with_reducible apply Q86|with_reducible apply QD0)
theorem image_writer_usage_ge {w:List Int} {x:Usage} (h:1<=w.length):1<=(QW0 w x).length:=by
 unfold QW0
 repeat (first|exact h|with_reducible apply Q76|with_reducible apply QC0)
def Qe0 (r_:ImageReader):Bool × ImageReader:=(((Q00 r_ 1).1==1),{ (Q00 r_ 1).2 with bad:=((Q00 r_ 1).2.bad||(decide ((Q00 r_ 1).1 > 1))) })
theorem Q27 (r_:ImageReader) (hs0:r_.sz):AMoves Tryz.prog 77 [AVal.ptr 0 0 3 0 0] [(0,AObj.row 89 3 [[Sg r_.s,I r_.at_,Bo r_.bad]])] 1 (Bo ((Qe0 r_).1)) [(0,AObj.row 89 3 [[Sg ((Qe0 r_).2.s),I ((Qe0 r_).2.at_),Bo ((Qe0 r_).2.bad)]])]:=by
 generalize hR:Qe0 r_=R;refine mo (kp 4 []) Tryz.func77 ?_;have hk0:=hs0;obtain z1:r_.s.size<=4294967296:=hs0;refine us (mv [0] (Q80 r_ 1 imzA) (dO (ds ImageReader.lo) .nil) (dp (d1 .nil)) (rO (re ImageReader.lo) .nil) rx) ?_;obtain rfl:=foll hR rfl;exact rq (tt [0] (tO rfl (ts ImageReader.lo) .nil) t1)
theorem Q69 (r:ImageReader):(Qe0 r).2.s=r.s:=by
 unfold Qe0
 simp [QQ2]
theorem image_reader_flag_z {r:ImageReader} (h:r.sz):(Qe0 r).2.sz:=by
 show (Qe0 r).2.s.size<=_
 rw [Q69]
 exact h
def Q40 (r_:ImageReader):ByteArray × ImageReader:=bif (r_.bad||((Qg2 r_.s r_.at_).2.2 != 0)) then (⟨#[]⟩,{ r_ with bad:=true }) else ((Qg2 r_.s r_.at_).1,{ r_ with at_:=(Qg2 r_.s r_.at_).2.1 })
theorem QI0 (r_:ImageReader) (hs0:r_.sz):AMoves Tryz.prog 78 [AVal.ptr 0 0 3 0 0] [(0,AObj.row 89 3 [[Sg r_.s,I r_.at_,Bo r_.bad]])] 1 (Sg ((Q40 r_).1)) [(0,AObj.row 89 3 [[Sg ((Q40 r_).2.s),I ((Q40 r_).2.at_),Bo ((Q40 r_).2.bad)]])]:=by
 generalize hR:Q40 r_=R;refine mo (kp 6 [26]) Tryz.func78 ?_;have hk0:=hs0;obtain z3:r_.s.size<=4294967296:=hs0;refine dchk (by kernel_rfl) ?_;(first|apply u2|apply u3|apply u4|apply us);exact Qdb r_.s r_.at_ szA _;(repeat ((first|refine ai rfl ?_|refine ai (fun _=>rfl) ?_|refine ai (fun _=>Qdb r_.s r_.at_ szA _) ?_)));refine ai (fun h1=>?_) (fun h2=>?_)
 ·obtain rfl:=foll hR (ct h1 rfl);exact rq (tt [0] (tO rfl (ts ImageReader.lo) .nil) t1)
 ·obtain rfl:=foll hR (cf h2 rfl);exact rq (tt [0] (tO rfl (ts ImageReader.lo) .nil) t1)
theorem Q79 (r:ImageReader):(Q40 r).2.s=r.s:=by
 unfold Q40
 cases (r.bad||((Qg2 r.s r.at_).2.2 != 0)) <;> rfl
theorem image_reader_text_z {r:ImageReader} (h:r.sz):(Q40 r).2.sz:=by
 show (Q40 r).2.s.size<=_
 rw [Q79]
 exact h
theorem Ql3 {r:ImageReader} (h:r.sz):(Q40 r).1.size<=4294967296:=by
 have hz:r.s.size<=4294967296:=h
 unfold Q40
 cases (r.bad||((Qg2 r.s r.at_).2.2 != 0)) with
 | true=>exact Nat.zero_le _
 | false =>
  simp only [cond_false]
  unfold Qg2
  cases ((Qc0 r.s r.at_ 2).2.2 != 0) with
  | true=>exact Nat.zero_le _
  | false =>
   simp only [cond_false]
   cases (decide ((w64 ((ByteArray.size r.s:Int) - (Qc0 r.s r.at_ 2).2.1))<(Qc0 r.s r.at_ 2).1)) with
   | true=>exact Nat.zero_le _
   | false =>
    simp only [cond_false,ByteArray.size_extract]
    omega
def QS0 :Nat->List Alt->Int->ImageReader->(List Alt) × Int × ImageReader
 | 0,_,_,_=>([],0,ImageReader.zero)
 | m+1,out,n,c=>bif ((decide (n > 0))&&(!c.bad)) then QS0 m (out++([(⟨(Q00 c 1).1,(Q00 ((Q00 c 1).2) 4).1⟩:Alt)]:List Alt)) (w64 (n - 1)) ((Q00 ((Q00 c 1).2) 4).2) else (out,n,c)
def QR2 (r_:ImageReader) (out:List Alt) (n:Int) (c:ImageReader):Shape × ImageReader:=((⟨(Q00 r_ 1).1,out,(Q00 c 1).1,(Q00 ((Q00 c 1).2) 1).1,(Q00 ((Q00 ((Q00 c 1).2) 1).2) 4).1⟩:Shape),(Q00 ((Q00 ((Q00 c 1).2) 1).2) 4).2)
def Qj0 (r_:ImageReader):Shape × ImageReader:=QR2 r_ ((QS0 ((Int.toNat ((Q00 ((Q00 r_ 1).2) 1).1))+1) [] ((Q00 ((Q00 r_ 1).2) 1).1) ((Q00 ((Q00 r_ 1).2) 1).2)).1) ((QS0 ((Int.toNat ((Q00 ((Q00 r_ 1).2) 1).1))+1) [] ((Q00 ((Q00 r_ 1).2) 1).1) ((Q00 ((Q00 r_ 1).2) 1).2)).2.1) ((QS0 ((Int.toNat ((Q00 ((Q00 r_ 1).2) 1).1))+1) [] ((Q00 ((Q00 r_ 1).2) 1).1) ((Q00 ((Q00 r_ 1).2) 1).2)).2.2)
theorem QRb (r_:ImageReader) (hs0:r_.sz):AMoves Tryz.prog 79 [AVal.ptr 0 0 3 0 0] [(0,AObj.row 89 3 [[Sg r_.s,I r_.at_,Bo r_.bad]])] 1 (Shape.a ((Qj0 r_).1)) [(0,AObj.row 89 3 [[Sg ((Qj0 r_).2.s),I ((Qj0 r_).2.at_),Bo ((Qj0 r_).2.bad)]])]:=by
 generalize hR:Qj0 r_=R;refine mo (kp 5 []) Tryz.func79 ?_;have hk0:=hs0;obtain z3:r_.s.size<=4294967296:=hs0;refine us (mv [0] (Q80 r_ 1 imzA) (dO (ds ImageReader.lo) .nil) (dp (d1 .nil)) (rO (re ImageReader.lo) .nil) rx) ?_;refine ACalls.of_cwp (fun _=>true) Tryz.func109 rfl rfl ?_;refine us (mv [0] (Q80 ((Q00 r_ 1).2) 1 imzA) (dO (ds ImageReader.lo) .nil) (dp (d1 .nil)) (rO (re ImageReader.lo) .nil) rx) ?_;refine Qf2 (fun (out:List Alt) (n:Int) (c:ImageReader)=>∃ m,(Int.toNat n)<m∧QR2 r_ (QS0 m out n c).1 (QS0 m out n c).2.1 (QS0 m out n c).2.2=R∧c.sz∧0<=n∧(out.length:Int)+n<=255) (fun out n c=>(Int.toNat n)) (fun out n c=>[(0,AVal.ptr 0 0 3 0 0),(1,AVal.fn (.func 110) [] [AVal.ptr 1 0 1 0 0]),(4,AVal.lit (.slice none 0 0)),(5,AVal.own 3 0 2 0 out.length),(6,I n)]) (fun out n c=>[(0,AObj.row 89 3 [[Sg c.s,I c.at_,Bo c.bad]]),(0,AObj.row 87 1 [[AVal.ptr 0 0 3 0 0]]),(0,AObj.row 63 5 [[I 0,AVal.lit (.slice none 0 0),I 0,I 0,I 0]]),(0,AObj.row 137 2 (out.map Alt.cells))]) [] ((Q00 ((Q00 r_ 1).2) 1).1) ((Q00 ((Q00 r_ 1).2) 1).2) ((Qf1 137 2).trans (wk [0,1,2,3] (tO rfl (ts ImageReader.lo) (tO rfl (Qk0 (cv (Q50 0 rfl rfl) .nil)) (tO rfl (ts (l1 (l1 (l1 (l1 (l1 LowL.nil)))))) (tO rfl (tl eqA) .nil)))) (sv (Q50 0 rfl rfl) (sv (Q51 .nil (cv (Q50 1 rfl rfl) .nil)) (s1 (sv (Q91 3 rfl) (s1 .nil))))))) ⟨_,Nat.lt_succ_self _,foll hR rfl,by first|((refine ⟨by (exact imzA),Qb0 ?_⟩;(exact imzA)))|first|((exact ⟨by (exact imzA),by rw [hw1];omega,by rw [hw1];simp only [List.length_append,List.length_cons,List.length_nil];omega⟩))|exact exA⟩ ?_;clear hR;rintro out n c ⟨m,hm,hR,hx⟩;(try dsimp only at hR hm hx);obtain ⟨m,rfl⟩:=sucA m;refine ai (fun h1=>?_) (fun h2=>?_)
 ·have hq1:=of_decide_eq_true ((Bool.and_eq_true _ _).mp h1).1;have hw1:w64 (n - 1)=n - 1:=wr (by omega);refine ACalls.of_cwp (fun _=>true) Tryz.func110 rfl rfl ?_;refine dchk (by kernel_rfl) ?_;(first|apply u2|apply u3|apply u4|apply us);exact mv [0] (Q80 c 1 imzA) (dO (ds ImageReader.lo) .nil) (dp (d1 .nil)) (rO (re ImageReader.lo) .nil) rx;(first|apply u2|apply u3|apply u4|apply us);exact mv [0] (Q80 ((Q00 c 1).2) 4 imzA) (dO (ds ImageReader.lo) .nil) (dp (d1 .nil)) (rO (re ImageReader.lo) .nil) rx;(repeat ((first|refine ai rfl ?_|refine ai (fun _=>rfl) ?_)));refine ⟨_,_,Told.refl,?_⟩;refine Or.inl ?_;(first|refine ⟨Qg3 16 rfl lnA apA,?_⟩|refine ⟨Q52 16 rfl apA,?_⟩);exact Q12 (out++([(⟨(Q00 c 1).1,(Q00 ((Q00 c 1).2) 4).1⟩:Alt)]:List Alt)) (w64 (n - 1)) ((Q00 ((Q00 c 1).2) 4).2) (wk [0,1,2,3] (tO rfl (ts ImageReader.lo) (tO rfl (Qk0 (cv (Q50 0 rfl rfl) .nil)) (tO rfl (ts (l1 (l1 (l1 (l1 (l1 LowL.nil)))))) (tO rfl (tl eqA) .nil)))) (sv (Q50 0 rfl rfl) (sv (Q51 .nil (cv (Q50 1 rfl rfl) .nil)) (s1 (sv (to 3 lnA) (s1 .nil)))))) omA ⟨m,by exact omA,foll hR (congrArg (fun p:(List Alt) × Int × ImageReader=>QR2 r_ p.1 p.2.1 p.2.2) (ct h1 rfl)),by first|((refine ⟨by (exact imzA),Qb0 ?_⟩;(exact imzA)))|first|((exact ⟨by (exact imzA),by rw [hw1];omega,by rw [hw1];simp only [List.length_append,List.length_cons,List.length_nil];omega⟩))|exact exA⟩
 ·replace hR:QR2 r_ out n c=R:=fo2 (fun p:(List Alt) × Int × ImageReader=>QR2 r_ p.1 p.2.1 p.2.2) (out,n,c) hR (cf h2 rfl);refine ⟨_,_,Told.refl,?_⟩;refine dchk (by kernel_rfl) ?_;(first|apply u2|apply u3|apply u4|apply us);exact mv [0] (Q80 c 1 imzA) (dO (ds ImageReader.lo) .nil) (dp (d1 .nil)) (rO (re ImageReader.lo) .nil) rx;(first|apply u2|apply u3|apply u4|apply us);exact mv [0] (Q80 ((Q00 c 1).2) 1 imzA) (dO (ds ImageReader.lo) .nil) (dp (d1 .nil)) (rO (re ImageReader.lo) .nil) rx;(first|apply u2|apply u3|apply u4|apply us);exact mv [0] (Q80 ((Q00 ((Q00 c 1).2) 1).2) 4 imzA) (dO (ds ImageReader.lo) .nil) (dp (d1 .nil)) (rO (re ImageReader.lo) .nil) rx;(repeat ((first|refine ai rfl ?_|refine ai (fun _=>rfl) ?_)));obtain rfl:=foll hR rfl;exact rq (tt [0] (tO rfl (ts ImageReader.lo) .nil) (turn_agg (c1 (cv (QV8 _ _ rfl (Nat.zero_le _) (by decide) eqA (fun _=>Alt.lowc _ _) lnA) (c1 (c1 (c1 .nil)))))))
theorem Qy7:∀ (m:Nat) (out:List Alt) (n:Int) (c:ImageReader),c.sz->(QS0 m out n c).2.2.sz
 | 0,_,_,_,_=>ImageReader.szz _
 | m+1,out,n,c,h=>by
  unfold QS0
  cases ((decide (n > 0))&&(!c.bad)) with
  | true=>exact Qy7 m _ _ _ (QE0 (QE0 h))
  | false=>exact h
theorem image_reader_shape_z {r:ImageReader} (h:r.sz):(Qj0 r).2.sz:=by
 unfold Qj0 QR2
 dsimp only
 repeat (first|exact h|with_reducible apply Qy7|with_reducible apply QE0)
theorem QF6:∀ (m:Nat) (out:List Alt) (n:Int) (c:ImageReader),(QS0 m out n c).1.length<=out.length+m
 | 0,_,_,_=>Nat.zero_le _
 | m+1,out,n,c=>by
  unfold QS0
  cases ((decide (n > 0))&&(!c.bad)) with
  | true =>
   have h:=QF6 m (out++([(⟨(Q00 c 1).1,(Q00 ((Q00 c 1).2) 4).1⟩:Alt)]:List Alt)) (w64 (n - 1)) ((Q00 ((Q00 c 1).2) 4).2)
   simp only [List.length_append,List.length_cons,List.length_nil] at h
   simp only [cond_true]
   omega
  | false=>simp
theorem Q1b {r:ImageReader} (h:r.sz):(Qj0 r).1.sz:=by
 have h1:=Qb0 (α:=Alt) (QE0 (w:=1) h)
 have h2:=QF6 ((Int.toNat ((Q00 ((Q00 r 1).2) 1).1))+1) [] ((Q00 ((Q00 r 1).2) 1).1) ((Q00 ((Q00 r 1).2) 1).2)
 simp only [List.length_nil] at h1 h2
 show (QS0 ((Int.toNat ((Q00 ((Q00 r 1).2) 1).1))+1) [] ((Q00 ((Q00 r 1).2) 1).1) ((Q00 ((Q00 r 1).2) 1).2)).1.length<=4294967296
 omega
end Go.Proofs.YtgjcljceccfgjaaGreatDoor
namespace Go.Proofs.YtgjcljceccfgjaaGreatDoor
set_option linter.unusedSimpArgs false
set_option linter.unusedVariables false
open Go.Fw
set_option maxRecDepth 20000
set_option maxHeartbeats 4000000
attribute [local irreducible] ACalls AMoves
def QJ1 (r_:ImageReader):Book × ImageReader:=((⟨(Q00 r_ 4).1,(Q00 ((Q00 r_ 4).2) 4).1,(Q00 ((Q00 ((Q00 r_ 4).2) 4).2) 4).1,(Q00 ((Q00 ((Q00 ((Q00 r_ 4).2) 4).2) 4).2) 1).1⟩:Book),(Q00 ((Q00 ((Q00 ((Q00 r_ 4).2) 4).2) 4).2) 1).2)
theorem QFc (r_:ImageReader) (hs0:r_.sz):AMoves Tryz.prog 44 [AVal.ptr 0 0 3 0 0] [(0,AObj.row 89 3 [[Sg r_.s,I r_.at_,Bo r_.bad]])] 1 (Book.a ((QJ1 r_).1)) [(0,AObj.row 89 3 [[Sg ((QJ1 r_).2.s),I ((QJ1 r_).2.at_),Bo ((QJ1 r_).2.bad)]])]:=by
 generalize hR:QJ1 r_=R;refine mo (kp 3 []) Tryz.func44 ?_;have hk0:=hs0;obtain z1:r_.s.size<=4294967296:=hs0;refine us (mv [0] (Q80 r_ 4 imzA) (dO (ds ImageReader.lo) .nil) (dp (d1 .nil)) (rO (re ImageReader.lo) .nil) rx) ?_;refine us (mv [0] (Q80 ((Q00 r_ 4).2) 4 imzA) (dO (ds ImageReader.lo) .nil) (dp (d1 .nil)) (rO (re ImageReader.lo) .nil) rx) ?_;refine us (mv [0] (Q80 ((Q00 ((Q00 r_ 4).2) 4).2) 4 imzA) (dO (ds ImageReader.lo) .nil) (dp (d1 .nil)) (rO (re ImageReader.lo) .nil) rx) ?_;refine us (mv [0] (Q80 ((Q00 ((Q00 ((Q00 r_ 4).2) 4).2) 4).2) 1 imzA) (dO (ds ImageReader.lo) .nil) (dp (d1 .nil)) (rO (re ImageReader.lo) .nil) rx) ?_;obtain rfl:=foll hR rfl;exact rq (tt [0] (tO rfl (ts ImageReader.lo) .nil) (Qo1 (Low.agg' (Book.lo))))
theorem image_reader_book_z {r:ImageReader} (h:r.sz):(QJ1 r).2.sz:=by
 unfold QJ1
 dsimp only
 repeat (first|exact h|with_reducible apply QE0)
def QL8 (b:List Job):List Job->Nat->Bool
 | [],_=>true
 | x_ :: r,i=>bif (!(QS8 x_ (b.getD i Job.zero))) then false else QL8 b r (i+1)
def QMb (a:List Job) (b:List Job):Bool:=bif ((a.length:Int)!=(b.length:Int)) then false else QL8 b a 0
theorem ref15_Same_c (a:List Job) (b:List Job) (hs0:a.length<=4294967296∧(∀ y ∈ a,y.sz)) (hs1:b.length<=4294967296∧(∀ y ∈ b,y.sz)):∀ objs,AGives Tryz.prog 51 [jobL a,jobL b] objs (Bo (QMb a b)):=by
 generalize hR:QMb a b=R;refine ga (.cons lw (.cons lw .nil)) lx (kp 6 [10,14,26]) Tryz.func51 ?_;have hk0:=hs0;obtain ⟨z12,z13⟩:a.length<=4294967296∧(∀ y ∈ a,y.sz):=hs0;have hk1:=hs1;obtain ⟨z14,z15⟩:b.length<=4294967296∧(∀ y ∈ b,y.sz):=hs1;refine ai (fun h1=>?_) (fun h2=>?_)
 ·obtain rfl:=foll hR (ct h1 rfl);exact Q30 lx sr
 ·refine Qw0 (fun (i:Nat)=>QL8 b (List.drop i a) i=R∧i<=a.length) (fun i=>a.length - i) (fun i=>[(0,jobL a),(1,jobL b),(4,Bo false),(5,I (i:Int))]) (fun i=>[]) 0 (wk [] .nil (sl lw (sl lw (s1 (s1 .nil))))) ⟨foll hR (cf h2 rfl),by exact omA⟩ ?_;clear hR;rintro i ⟨hR,hj⟩;(try dsimp only at hR hj);refine ai (fun h3=>?_) (fun h4=>?_)
  ·have hlt:=ltA h3;rw [Qo0 Job.zero hlt] at hR;have hxz:(a.getD i Job.zero).sz:=QD4 (by first|assumption|grind) (Job.szz _);have hkz:=hxz;obtain ⟨z5,z6,z7,z8,z9⟩:((a.getD i Job.zero).name).size<=4294967296∧((a.getD i Job.zero).user).size<=4294967296∧((a.getD i Job.zero).account).size<=4294967296∧((((a.getD i Job.zero).shape).alts).length<=4294967296)∧((a.getD i Job.zero).after).length<=4294967296:=hxz;refine dchk (by kernel_rfl) ?_;refine ai gkA ?_;refine ai gkA ?_;(first|apply u2|apply u3|apply u4|apply us);exact QRe (a.getD i Job.zero) (b.getD i Job.zero) szA szA _;(repeat ((first|refine ai rfl ?_|refine ai (fun _=>rfl) ?_|refine ai (fun _=>QRe (a.getD i Job.zero) (b.getD i Job.zero) szA szA _) ?_)));refine ai (fun h10=>?_) (fun h11=>?_)
   ·obtain rfl:=foll hR (ct h10 rfl);exact Q30 lx sr
   ·exact QA0 (i+1) (wk [] .nil (sl lw (sl lw (s1 (sv (Qt0 (I_eq (wr omA)) lx) .nil))))) omA ⟨foll hR (cf h11 rfl),by exact omA⟩
  ·rw [Qp0 (l:=a) (j:=i) (geA h4)] at hR;obtain rfl:=foll hR rfl;exact Q30 lx sr
def Qr4 (s:ByteArray):Nat->List Int->Int->(List Int) × Int
 | 0,_,_=>([],0)
 | m+1,out,i=>bif (decide (i<(w64 ((ByteArray.size s:Int) - 1)))) then bif ((((s.data.toList.getD (Int.toNat i) 0).toNat:Int)==92)&&(decide ((w64 (i+1))<(w64 ((ByteArray.size s:Int) - 1))))) then Qr4 s m (out++([((s.data.toList.getD (Int.toNat (w64 (i+1))) 0).toNat:Int)]:List Int)) (w64 ((w64 (i+1))+1)) else Qr4 s m (out++([((s.data.toList.getD (Int.toNat i) 0).toNat:Int)]:List Int)) (w64 (i+1)) else (out,i)
def Qs4 (s:ByteArray) (out:List Int) (i:Int):ByteArray × Int:=bif (((Qb9 (QH1 out)).2 != 0)||(!(ByteArray.toList (Qb9 (QH1 out)).1==ByteArray.toList s))) then (⟨#[]⟩,50) else ((QH1 out),0)
def Qv6 (s:ByteArray):ByteArray × Int:=bif ((Qj4 s).2 != 0) then (⟨#[]⟩,(Qj4 s).2) else Qs4 s ((Qr4 s ((Int.toNat ((w64 ((ByteArray.size s:Int) - 1)) - 1))+1) [] 1).1) ((Qr4 s ((Int.toNat ((w64 ((ByteArray.size s:Int) - 1)) - 1))+1) [] 1).2)
theorem Qeg (s:ByteArray) (hs0:s.size<=4294967296):∀ objs,AGives Tryz.prog 241 [Sg s] objs (AVal.tup [Sg ((Qv6 s).1),I ((Qv6 s).2)]):=by
 generalize hR:Qv6 s=R;refine ga (l1 .nil) (Low.tup' (l1 (l1 .nil))) (kp 10 [16,22,36,57]) Tryz.func241 ?_;have hk0:=hs0;obtain z9:s.size<=4294967296:=hs0;refine us (QAa s szA _) ?_;refine ai (fun h1=>?_) (fun h2=>?_)
 ·obtain rfl:=foll hR (ct h1 rfl);exact Q30 (Low.tup' (l1 (l1 .nil))) (Seen.tup (e1 (e1 .nil)))
 ·refine Qq0 (fun (out:List Int) (i:Int)=>∃ m,(Int.toNat ((w64 ((ByteArray.size s:Int) - 1)) - i))<m∧Qs4 s (Qr4 s m out i).1 (Qr4 s m out i).2=R∧1<=i∧i<=(ByteArray.size s:Int)+1∧(out.length:Int)+1<=i) (fun out i=>(Int.toNat ((w64 ((ByteArray.size s:Int) - 1)) - i))) (fun out i=>[(0,Sg s),(2,Sg ⟨#[]⟩),(3,I 0),(6,AVal.own 0 0 1 0 out.length),(7,I i)]) (fun out i=>[(0,AObj.row 5 1 (out.map (fun q_=>[Y q_])))]) [] 1 ((Qf1 5 1).trans (wk [0] (tO rfl (tl eqA) .nil) (s1 (s1 (s1 (sv (Q91 0 rfl) (s1 .nil))))))) ⟨_,Nat.lt_succ_self _,foll hR (cf h2 rfl),by exact exA⟩ ?_;clear hR;rintro out i ⟨m,hm,hR,hx⟩;(try dsimp only at hR hm hx);obtain ⟨m,rfl⟩:=sucA m;refine ai (fun h3=>?_) (fun h4=>?_)
  ·have qh3:=of_decide_eq_true h3;have hq1:i<w64 ((ByteArray.size s:Int) - 1):=of_decide_eq_true h3;have hw0:w64 ((ByteArray.size s:Int) - 1)=(ByteArray.size s:Int) - 1:=wr (by omega);rw [hw0] at hq1;have hw1:w64 (i+1)=i+1:=wr (by omega);have hw2:w64 (i+1+1)=i+1+1:=wr (by omega);refine ai gkA ?_;refine ai (fun h5=>?_) (fun h6=>?_)
   ·refine ai gkA ?_;refine Or.inl ?_;(first|refine ⟨Qg3 1 rfl lnA apA,?_⟩|refine ⟨Q52 1 rfl apA,?_⟩);exact Qm0 (out++([((s.data.toList.getD (Int.toNat (w64 (i+1))) 0).toNat:Int)]:List Int)) (w64 ((w64 (i+1))+1)) (wk [0] (tO rfl (tl eqA) .nil) (s1 (s1 (s1 (sv (to 0 lnA) (s1 .nil)))))) omA ⟨m,by exact omA,foll hR (congrArg (fun p:(List Int) × Int=>Qs4 s p.1 p.2) (ct h3 (ct h5 rfl))),by exact exA⟩
   ·refine ai gkA ?_;refine Or.inl ?_;(first|refine ⟨Qg3 1 rfl lnA apA,?_⟩|refine ⟨Q52 1 rfl apA,?_⟩);exact Qm0 (out++([((s.data.toList.getD (Int.toNat i) 0).toNat:Int)]:List Int)) (w64 (i+1)) (wk [0] (tO rfl (tl eqA) .nil) (s1 (s1 (s1 (sv (to 0 lnA) (s1 .nil)))))) omA ⟨m,by exact omA,foll hR (congrArg (fun p:(List Int) × Int=>Qs4 s p.1 p.2) (ct h3 (cf h6 rfl))),by exact exA⟩
  ·have qh4:=of_decide_eq_false h4;replace hR:Qs4 s out i=R:=fo2 (fun p:(List Int) × Int=>Qs4 s p.1 p.2) (out,i) hR (cf h4 rfl);(first|refine ⟨out,by exact cvA,?_⟩|refine ⟨_,fun _=>⟨out,by exact cvA,rfl,rfl⟩,?_⟩|refine ⟨_,rfl,⟨out,by exact cvA,Sub.refl _,rfl⟩,?_⟩);refine us (ref04_Quote_c (QH1 out) szA _) ?_;refine ai (fun h7=>?_) (fun h8=>?_)
   ·obtain rfl:=foll hR (ct h7 rfl);exact Q30 (Low.tup' (l1 (l1 .nil))) (Seen.tup (e1 (e1 .nil)))
   ·(first|refine ⟨out,by exact cvA,?_⟩|refine ⟨_,fun _=>⟨out,by exact cvA,rfl,rfl⟩,?_⟩|refine ⟨_,rfl,⟨out,by exact cvA,Sub.refl _,rfl⟩,?_⟩);obtain rfl:=foll hR (cf h8 rfl);exact Q30 (Low.tup' (l1 (l1 .nil))) (Seen.tup (e1 (e1 .nil)))
def Qf3 (s:Shape) (choice:Int):Int:=bif ((decide (choice<0))||(decide (choice >= ((QM0 s).length:Int)))) then 0 else ((QM0 s).getD (Int.toNat choice) Alt.zero).wall
theorem QSe (s:Shape) (choice:Int) (hs0:s.sz):∀ objs,AGives Tryz.prog 178 [Shape.a s,I choice] objs (I (Qf3 s choice)):=by
 generalize hR:Qf3 s choice=R;refine ga (.cons (Shape.low _ _) (l1 .nil)) lx (kp 6 [15]) Tryz.func178 ?_;have hk0:=hs0;obtain z3:s.alts.length<=4294967296:=hs0;have hf0:=Q5a s hk0;refine us (Qhb s szA _) ?_;refine ai (fun h1=>?_) (fun h2=>?_)
 ·obtain rfl:=foll hR (ct h1 rfl);exact Q30 lx sr
 ·refine ai gkA ?_;obtain rfl:=foll hR (cf h2 rfl);exact Q30 lx sr
def Qa6 (s:Shape) (choice:Int) (n:Int):List Alt->Nat->Bool
 | [],_=>false
 | x_ :: r,i=>bif ((x_.nodes==n)&&(((i:Int)==choice)||(s.kind==3))) then true else Qa6 s choice n r (i+1)
def Qu8 (s:Shape) (choice:Int) (n:Int):Bool:=bif ((decide (choice<0))||(decide (choice >= ((QM0 s).length:Int)))) then false else Qa6 s choice n (QM0 s) 0
theorem ref07_Allows_c (s:Shape) (choice:Int) (n:Int) (hs0:s.sz):∀ objs,AGives Tryz.prog 180 [Shape.a s,I choice,I n] objs (Bo (Qu8 s choice n)):=by
 generalize hR:Qu8 s choice n=R;refine ga (.cons (Shape.low _ _) (l1 (l1 .nil))) lx (kp 9 [18,22,41]) Tryz.func180 ?_;have hk0:=hs0;obtain z7:s.alts.length<=4294967296:=hs0;have hf0:=Q5a s hk0;refine us (Qhb s szA _) ?_;refine ai (fun h1=>?_) (fun h2=>?_)
 ·obtain rfl:=foll hR (ct h1 rfl);exact Q30 lx sr
 ·refine Qw0 (fun (i:Nat)=>Qa6 s choice n (List.drop i (QM0 s)) i=R∧i<=(QM0 s).length) (fun i=>(QM0 s).length - i) (fun i=>[(1,I choice),(2,I n),(3,AVal.ptr 0 0 5 0 0),(6,Bo false),(7,altL (QM0 s)),(8,I (i:Int))]) (fun i=>[(0,AObj.row 63 5 [[I s.kind,altL s.alts,I s.min,I s.max,I s.wall]])]) 0 (wk [0] (tO rfl (ts Shape.lo) .nil) (s1 (s1 (sv (Q50 0 rfl rfl) (s1 (sl lw (s1 .nil))))))) ⟨foll hR (cf h2 rfl),by exact omA⟩ ?_;clear hR;rintro i ⟨hR,hj⟩;(try dsimp only at hR hj);refine ai (fun h3=>?_) (fun h4=>?_)
  ·have hlt:=ltA h3;rw [Qo0 Alt.zero hlt] at hR;refine ai gkA ?_;refine ai (fun h5=>?_) (fun h6=>?_)
   ·obtain rfl:=foll hR (ct h5 rfl);exact Q30 lx sr
   ·exact QA0 (i+1) (wk [0] (tO rfl (ts Shape.lo) .nil) (s1 (s1 (sv (Q50 0 rfl rfl) (s1 (sl lw (sv (Qt0 (I_eq (wr omA)) lx) .nil))))))) omA ⟨foll hR (cf h6 rfl),by exact omA⟩
  ·rw [Qp0 (l:=(QM0 s)) (j:=i) (geA h4)] at hR;obtain rfl:=foll hR rfl;exact Q30 lx sr
def Qu3 (x_:Node) (n:Int) (r_:Resize):Bool:=bif r_.grow then bif (!((QY2 r_.nodes n)==(x_.state==2))) then false else (((!(QY2 r_.nodes n))||((QY2 r_.said n)&&(x_.want==0)))||((!(QY2 r_.said n))&&(x_.want==2))) else bif (((QY2 r_.nodes n)&&(x_.state != 1))||((!(QY2 r_.nodes n))&&(x_.want==4))) then false else (((!(QY2 r_.nodes n))||((QY2 r_.said n)&&(x_.want==0)))||((!(QY2 r_.said n))&&(x_.want==4)))
theorem ref25_moved_c (x_:Node) (n:Int) (r_:Resize):∀ objs,AGives Tryz.prog 101 [Node.a x_,I n,Resize.a r_] objs (Bo (Qu3 x_ n r_)):=by
 generalize hR:Qu3 x_ n r_=R;refine ga (.cons (Node.low _ _) (l1 (.cons (Resize.low _ _) .nil))) lx (kp 9 [18,23,57]) Tryz.func101 ?_;refine dchk (by kernel_rfl) ?_;(first|apply u2|apply u3|apply u4|apply us);exact QM3 r_.nodes n _;(first|apply u2|apply u3|apply u4|apply us);exact QM3 r_.said n _;(repeat ((first|refine ai rfl ?_|refine ai (fun _=>rfl) ?_|refine ai (fun _=>QM3 r_.nodes n _) ?_|refine ai (fun _=>QM3 r_.said n _) ?_)));refine ai (fun h1=>?_) (fun h2=>?_)
 ·refine ai (fun h3=>?_) (fun h4=>?_)
  ·obtain rfl:=foll hR (ct h1 (ct h3 rfl));exact Q30 lx sr
  ·obtain rfl:=foll hR (ct h1 (cf h4 rfl));exact Q30 lx sr
 ·refine ai (fun h5=>?_) (fun h6=>?_)
  ·obtain rfl:=foll hR (cf h2 (ct h5 rfl));exact Q30 lx sr
  ·obtain rfl:=foll hR (cf h2 (cf h6 rfl));exact Q30 lx sr
def QP5 (s:State) (n:Int):Bool:=bif (((((s.nodes.getD (Int.toNat n) Node.zero).state==1)&&((!(Qf0 s ((s.nodes.getD (Int.toNat n) Node.zero).job)).2)||(!(QY2 ((Qf0 s ((s.nodes.getD (Int.toNat n) Node.zero).job)).1.nodes) n))))||(((s.nodes.getD (Int.toNat n) Node.zero).state==2)&&(!(Qf0 s ((s.nodes.getD (Int.toNat n) Node.zero).job)).2)))||(((s.nodes.getD (Int.toNat n) Node.zero).state==3)&&(decide ((s.nodes.getD (Int.toNat n) Node.zero).job >= s.nextJob)))) then false else bif (((s.nodes.getD (Int.toNat n) Node.zero).state==2)||((s.nodes.getD (Int.toNat n) Node.zero).want==4)) then (QY2 ((Qz9 s ((s.nodes.getD (Int.toNat n) Node.zero).job)).nodes) n) else true
theorem ref25_node_c (s:State) (n:Int) (hs0:s.sz) (hp0:0<=n∧n<(s.nodes.length:Int)):∀ objs,AGives Tryz.prog 72 [State.a s,I n] objs (Bo (QP5 s n)):=by
 generalize hR:QP5 s n=R;refine ga (.cons (State.low _ _) (l1 .nil)) lx (kp 8 [54,62]) Tryz.func72 ?_;have hk0:=hs0;obtain ⟨z5,z6,z7,z8,z9,z10,z11⟩:=hs0;refine ai gkA ?_;refine us (Qjg s ((s.nodes.getD (Int.toNat n) Node.zero).job) szA _) ?_;(first|apply u2|apply u3|apply u4|apply us);exact QM3 ((Qf0 s ((s.nodes.getD (Int.toNat n) Node.zero).job)).1.nodes) n _;refine ai (fun h1=>?_) (fun h2=>?_)
 ·obtain rfl:=foll hR (ct h1 rfl);exact Q30 lx sr
 ·refine ai (fun h3=>?_) (fun h4=>?_)
  ·refine us (ref25_of_c s ((s.nodes.getD (Int.toNat n) Node.zero).job) szA _) ?_;refine us (QM3 ((Qz9 s ((s.nodes.getD (Int.toNat n) Node.zero).job)).nodes) n _) ?_;obtain rfl:=foll hR (cf h2 (ct h3 rfl));exact Q30 lx sr
  ·obtain rfl:=foll hR (cf h2 (cf h4 rfl));exact Q30 lx sr
def Qs1 (s:ByteArray):ByteArray:=(QR8 s).1
theorem Qk6 (s:ByteArray):∀ objs,AGives Tryz.prog 35 [Sg s] objs (Sg (Qs1 s)):=by
 generalize hR:Qs1 s=R;refine ga (l1 .nil) lx (kp 5 []) Tryz.func35 ?_;refine us (ref03_Text_c s _) ?_;obtain rfl:=foll hR rfl;exact Q30 lx sr
theorem ref28_text_67 (s:ByteArray):(Qs1 s).size<=65543:=by
 unfold Qs1 QR8
 cases h:(decide ((ByteArray.size s:Int) > 65535)) with
 | true=>exact Nat.zero_le _
 | false =>
  have h':=of_decide_eq_false h
  have:=QG9 (ByteArray.size s:Int) 2
  simp only [cond_false,ByteArray.size_append]
  omega
theorem ref28_text_le {x:ByteArray} {s:ByteArray} {c m:Nat} (h:x.size+(65543+c)<=m):(x++Qs1 s).size+c<=m:=by have:=ref28_text_67 s;rw [ByteArray.size_append];omega
def Q60 (f:Ref28From):ByteArray × Ref28From:=bif ((QW1 f.s f.at_).2.2 != 0) then (⟨#[]⟩,(⟨f.s,(ByteArray.size f.s:Int)⟩:Ref28From)) else ((QW1 f.s f.at_).1,(⟨f.s,(QW1 f.s f.at_).2.1⟩:Ref28From))
theorem QM6 (f:Ref28From) (hs0:f.sz):AMoves Tryz.prog 83 [AVal.ptr 0 0 2 0 0] [(0,AObj.row 102 2 [[Sg f.s,I f.at_]])] 1 (Sg ((Q60 f).1)) [(0,AObj.row 102 2 [[Sg ((Q60 f).2.s),I ((Q60 f).2.at_)]])]:=by
 generalize hR:Q60 f=R;refine mo (kp 6 [20]) Tryz.func83 ?_;have hk0:=hs0;obtain z3:f.s.size<=4294967296:=hs0;refine dchk (by kernel_rfl) ?_;(first|apply u2|apply u3|apply u4|apply us);exact QNa f.s f.at_ szA _;(repeat ((first|refine ai rfl ?_|refine ai (fun _=>rfl) ?_|refine ai (fun _=>QNa f.s f.at_ szA _) ?_)));refine ai (fun h1=>?_) (fun h2=>?_)
 ·obtain rfl:=foll hR (ct h1 rfl);exact rq (tt [0] (tO rfl (ts Ref28From.lo) .nil) t1)
 ·obtain rfl:=foll hR (cf h2 rfl);exact rq (tt [0] (tO rfl (ts Ref28From.lo) .nil) t1)
theorem ref28_from_t_s (f:Ref28From):(Q60 f).2.s=f.s:=by
 unfold Q60
 cases ((QW1 f.s f.at_).2.2 != 0) <;> rfl
theorem ref28_from_t_z {f:Ref28From} (h:f.sz):(Q60 f).2.sz:=by
 show (Q60 f).2.s.size<=_
 rw [ref28_from_t_s]
 exact h
theorem Qv3 {f:Ref28From} (h:f.sz):(Q60 f).1.size<=65536:=by
 have hz:f.s.size<=4294967296:=h
 unfold Q60
 cases ((QW1 f.s f.at_).2.2 != 0) with
 | true=>exact Nat.zero_le _
 | false =>
  simp only [cond_false]
  unfold QW1
  cases hc:((Qd0 f.s f.at_ 2).2.2 != 0) with
  | true=>exact Nat.zero_le _
  | false =>
   have hq:=Q57 hz hc
   simp only [cond_false]
   cases (decide ((Qd0 f.s f.at_ 2).1 > (w64 ((ByteArray.size f.s:Int) - (Qd0 f.s f.at_ 2).2.1)))) with
   | true=>exact Nat.zero_le _
   | false =>
    have e:w64 ((Qd0 f.s f.at_ 2).2.1+(Qd0 f.s f.at_ 2).1)=(Qd0 f.s f.at_ 2).2.1+(Qd0 f.s f.at_ 2).1:=wr (by omega)
    simp only [cond_false,ByteArray.size_extract,e]
    omega
end Go.Proofs.YtgjcljceccfgjaaGreatDoor
