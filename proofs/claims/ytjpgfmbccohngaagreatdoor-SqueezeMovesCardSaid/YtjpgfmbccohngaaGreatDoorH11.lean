/-
  Contracts of functions, printed by a program of this repo (wip/dec). No condition beyond those that stand in each.
-/
import Derived.Test.YtjpgfmbccohngaaGreatDoorH10
import Derived.Test.YtjpgfmbccohngaaGreatDoorProg
namespace Go.Proofs.YtjpgfmbccohngaaGreatDoor
set_option linter.unusedSimpArgs false
set_option linter.unusedVariables false
open Go.Fw
set_option maxRecDepth 20000
set_option maxHeartbeats 4000000
attribute [local irreducible] ACalls AMoves
def Q69 (s:State):Bool:=(((((Q1c s.nodes)&&(Q2c s.jobs))&&(Q4c s.books))&&(Q3c s.ledger))&&(decide ((s.resizes.length:Int)<=100)))
theorem law20_Few_c (s:State) (hs0:s.szM):GV 11 [State.a s] (Bo (Q69 s)):=by
 generalize hR:Q69 s=R;refine ga (.cons (State.low _ _) .nil) lx (kp 3 []) Tryz.func11 ?_;have hk0:=hs0;obtain ⟨z1,z2,z3,z4,z5,z6,z7⟩:=hs0;refine us (law12_Few_c s.nodes _) ?_;(first|apply u2|apply u3|apply u4|apply us);exact law15_Few_c s.jobs szA _;(first|apply u2|apply u3|apply u4|apply us);exact law19_Few_c s.books _;(first|apply u2|apply u3|apply u4|apply us);exact law17_Few_c s.ledger szA _;obtain rfl:=foll hR rfl;exact Q00 lx sr
theorem u3g {P:Program} {f:FuncId} {args:List AVal} {objs:Objs} {r:AVal} {g:Bool} {K:AVal->Objs->Prop} (h:g=true->ACalls P f args objs fun a b=>a=r∧b=objs) (k:K r objs):∃ r' o',(g=true->ACalls P f args objs (fun a b=>a=r'∧b=o'))∧(g=false->o'=objs)∧K r' o':=⟨r,objs,h,fun _=>rfl,k⟩
theorem Qud:∀ (l:List Usage) (i:Nat),Qt7 l i=true -> ∀ y ∈ l,y.sz
 | [],_,_,y,hy=>nomatch hy
 | x :: r,i,h,y,hy=>by
  rw [Qt7] at h
  cases hc:((decide ((ByteArray.size x.user:Int) > 1000))||(decide ((ByteArray.size x.account:Int) > 1000))) with
  | true=>rw [hc] at h;cases h
  | false =>
   rw [hc] at h
   rcases List.mem_cons.1 hy with rfl|hy
   ·simp only [Bool.or_eq_false_iff,decide_eq_false_iff_not] at hc
    exact ⟨by omega,by omega⟩
   ·exact Qud r (i+1) h y hy
theorem law14_Few_sz {j:Job} (h:Q59 j=true):j.sz:=by
 simp only [Q59,Q0c,Bool.and_eq_true,decide_eq_true_eq] at h
 exact ⟨by omega,by omega,by omega,by show j.shape.alts.length<=_;omega,by omega⟩
theorem Qtd:∀ (l:List Job) (i:Nat),Qs7 l i=true -> ∀ y ∈ l,y.sz
 | [],_,_,y,hy=>nomatch hy
 | x :: r,i,h,y,hy=>by
  rw [Qs7] at h
  cases hc:Q59 x with
  | false=>rw [hc] at h;cases h
  | true =>
   rw [hc] at h
   rcases List.mem_cons.1 hy with rfl|hy
   ·exact law14_Few_sz hc
   ·exact Qtd r (i+1) h y hy
theorem Qp8 {s:State} (h:Q69 s=true):s.sz:=by
 simp only [Q69,Q1c,Q2c,Q4c,Q3c,Bool.and_eq_true,decide_eq_true_eq] at h
 obtain ⟨⟨⟨⟨h1,h2⟩,h3⟩,h4⟩,h5⟩:=h
 cases hj:decide ((s.jobs.length:Int) > 60) with
 | true=>rw [hj] at h2;cases h2
 | false =>
  cases hl:decide ((s.ledger.length:Int) > 300) with
  | true=>rw [hl] at h4;cases h4
  | false =>
   rw [hj] at h2
   rw [hl] at h4
   have qj:=of_decide_eq_false hj
   have ql:=of_decide_eq_false hl
   exact ⟨by omega,by omega,Qtd _ _ h2,by omega,by omega,by omega,Qud _ _ h4⟩
def QZ1 (ok:Bool):Int:=bif (!ok) then 70 else 0
def QX1 (s:Shape):Int:=bif (s.kind==1) then QZ1 (((((s.min==0)&&(s.max==0))&&(s.wall==0))&&((s.alts.length:Int)==1))&&(Q91 (s.alts.getD 0 Alt.zero))) else bif (s.kind==2) then QZ1 (((((((s.min==0)&&(s.max==0))&&(s.wall==0))&&(decide ((s.alts.length:Int) >= 1)))&&(decide ((s.alts.length:Int)<=6)))&&(QE5 s.alts))&&(!(QQ0 s.alts (fun (y:Alt)=>(!(Q91 y)))))) else bif (s.kind==3) then QZ1 (((((s.alts.length:Int)==0)&&(decide (s.min<=s.max)))&&(Q91 (⟨s.min,s.wall⟩:Alt)))&&(decide (s.max<=48))) else QZ1 false
theorem Qrc (s:Shape) (hs0:s.sz):GV 109 [Shape.a s] (I (QX1 s)):=by
 generalize hR:QX1 s=R;refine ga (.cons (Shape.low _ _) .nil) lx (kj [1000011] 6 [23,24,38,60,85]) Tryz.func109 ?_;have hk0:=hs0;obtain z13:s.alts.length<=4294967296:=hs0;refine Qr1 (fun (ok:Bool)=>QZ1 ok=R) (fun ok=>[(2,I 0),(5,Bo ok)]) (fun ok=>[]) ?_ ?_
 ·clear hR;rintro ok hR;(try dsimp only at hR);refine ai (fun h1=>?_) (fun h2=>?_)
  ·obtain rfl:=foll hR (ct h1 rfl);exact Q00 lx sr
  ·obtain rfl:=foll hR (cf h2 rfl);exact Q00 lx sr
 ·refine ai (fun h3=>?_) (fun h4=>?_)
  ·refine ai gkA ?_;(first|apply u2|apply u3|apply u4|apply us);exact Qqa (s.alts.getD 0 Alt.zero) _;exact Qb0 (((((s.min==0)&&(s.max==0))&&(s.wall==0))&&((s.alts.length:Int)==1))&&(Q91 (s.alts.getD 0 Alt.zero))) (wk [] .nil (s1 (s1 .nil))) (foll hR (ct h3 rfl))
  ·refine ai (fun h5=>?_) (fun h6=>?_)
   ·(first|apply u2|apply u3|apply u4|apply us);exact shape_apart_c s.alts szA _;have cl1:∀ (y1:Alt),AMoves Tryz.prog 172 [Alt.a y1] [] 0 (Bo ((fun (y:Alt)=>(!(Q91 y))) y1)) []:=by
     intro y1;have hR:(fun (y:Alt)=>(!(Q91 y))) y1=(fun (y:Alt)=>(!(Q91 y))) y1:=rfl;refine mo (kp 3 []) Tryz.func172 ?_;refine us (Qqa y1 _) ?_;refine Qs0 (fun r:Bool=>Bo r) (fun _=>[]) (leaf:=(!(Q91 y1))) (foll hR rfl) ?_;exact tt [] .nil t1
    have hof1:AMoves Tryz.prog 171 [altL s.alts,AVal.fn (.func 172) [] []] [] 0 (Bo (QQ0 s.alts (fun (y:Alt)=>(!(Q91 y))))) []:=by
     have hR:QQ0 s.alts (fun (y:Alt)=>(!(Q91 y)))=QQ0 s.alts (fun (y:Alt)=>(!(Q91 y))):=rfl;refine mo (kp 5 []) Tryz.func171 ?_;have hof2:AMoves Tryz.prog 219 [altL s.alts,AVal.fn (.func 172) [] []] [] 0 (I (Q71 s.alts (fun (y:Alt)=>(!(Q91 y))))) []:=by
      have hR:Q71 s.alts (fun (y:Alt)=>(!(Q91 y)))=Q71 s.alts (fun (y:Alt)=>(!(Q91 y))):=rfl;refine mo (kp 6 [7,8,9,16]) Tryz.func219 ?_;refine Qf0 (fun (i:Nat)=>Qj3 (fun (y:Alt)=>(!(Q91 y))) (List.drop i s.alts) i=Q71 s.alts (fun (y:Alt)=>(!(Q91 y)))∧i<=s.alts.length) (fun i=>s.alts.length - i) (fun i=>[(0,altL s.alts),(1,AVal.fn (.func 172) [] []),(4,I 0),(7,I (s.alts.length:Int)),(8,I (i:Int))]) (fun i=>[]) 0 (wk [] .nil (sl lw (sv (Qa1 (Low.fn _ _ _ LowL.nil LowL.nil)) (s1 (s1 (s1 .nil)))))) ⟨foll hR rfl,by exact omA⟩ ?_;clear hR;rintro i ⟨hR,hj⟩;(try dsimp only at hR hj);refine ai (fun h7=>?_) (fun h8=>?_)
      ·have hlt:=ltA h7;rw [Q90 Alt.zero hlt] at hR;refine ai gkA ?_;refine us (mv [] (cl1 (s.alts.getD i Alt.zero)) .nil (dl (Alt.low _ _) .nil) .nil rx) ?_;refine ai (fun h9=>?_) (fun h10=>?_)
       ·refine Qs0 (fun r:Int=>I r) (fun r:Int=>[]) (leaf:=(i:Int)) (foll hR (ct h9 rfl)) ?_;exact tt [] .nil t1
       ·exact Qj0 (i+1) (wk [] .nil (sl lw (sv (Qa1 (Low.fn _ _ _ LowL.nil LowL.nil)) (s1 (s1 (sv (Q70 (I_eq (wr omA)) lx) .nil)))))) omA ⟨foll hR (cf h10 rfl),by exact omA⟩
      ·rw [Qa0 (l:=s.alts) (j:=i) (geA h8)] at hR;refine Qs0 (fun r:Int=>I r) (fun r:Int=>[]) (leaf:=(-1)) (foll hR rfl) ?_;exact tt [] .nil t1
     refine us (mv [] (hof2) .nil (dl lw (dv (Qp7 (Low.fn _ _ _ LowL.nil LowL.nil)) .nil)) .nil rx) ?_;refine Qs0 (fun r:Bool=>Bo r) (fun r:Bool=>[]) (leaf:=(decide ((Q71 s.alts (fun (y:Alt)=>(!(Q91 y)))) >= 0))) (foll hR rfl) ?_;exact tt [] .nil t1
    (first|apply u2|apply u3|apply u4|apply us);exact mv [] (hof1) .nil (dl lw (dv (Qp7 (Low.fn _ _ _ LowL.nil LowL.nil)) .nil)) .nil rx;exact Qb0 (((((((s.min==0)&&(s.max==0))&&(s.wall==0))&&(decide ((s.alts.length:Int) >= 1)))&&(decide ((s.alts.length:Int)<=6)))&&(QE5 s.alts))&&(!(QQ0 s.alts (fun (y:Alt)=>(!(Q91 y)))))) (wk [] .nil (s1 (s1 .nil))) (foll hR (cf h4 (ct h5 rfl)))
   ·refine ai (fun h11=>?_) (fun h12=>?_)
    ·(first|apply u2|apply u3|apply u4|apply us);exact Qqa (⟨s.min,s.wall⟩:Alt) _;exact Qb0 (((((s.alts.length:Int)==0)&&(decide (s.min<=s.max)))&&(Q91 (⟨s.min,s.wall⟩:Alt)))&&(decide (s.max<=48))) (wk [] .nil (s1 (s1 .nil))) (foll hR (cf h4 (cf h6 (ct h11 rfl))))
    ·exact Qb0 false (wk [] .nil (s1 (s1 .nil))) (foll hR (cf h4 (cf h6 (cf h12 rfl))))
def QE1 (r_:LexReader):Token × LexReader:=bif (!(QS7 ((Q30 r_ (fun (y:Int)=>(((decide (y >= 48))&&(decide (y<=57)))||((decide (y >= 97))&&(decide (y<=122)))))).1))) then ((⟨3,(Q30 r_ (fun (y:Int)=>(((decide (y >= 48))&&(decide (y<=57)))||((decide (y >= 97))&&(decide (y<=122)))))).1,0,0⟩:Token),(Q30 r_ (fun (y:Int)=>(((decide (y >= 48))&&(decide (y<=57)))||((decide (y >= 97))&&(decide (y<=122)))))).2) else bif (!(Q17 ((Q30 r_ (fun (y:Int)=>(((decide (y >= 48))&&(decide (y<=57)))||((decide (y >= 97))&&(decide (y<=122)))))).1)).2) then ((⟨2,⟨#[]⟩,(Q17 ((Q30 r_ (fun (y:Int)=>(((decide (y >= 48))&&(decide (y<=57)))||((decide (y >= 97))&&(decide (y<=122)))))).1)).1,0⟩:Token),(QS0 ((Q30 r_ (fun (y:Int)=>(((decide (y >= 48))&&(decide (y<=57)))||((decide (y >= 97))&&(decide (y<=122)))))).2) r_.at_ 50)) else ((⟨2,⟨#[]⟩,(Q17 ((Q30 r_ (fun (y:Int)=>(((decide (y >= 48))&&(decide (y<=57)))||((decide (y >= 97))&&(decide (y<=122)))))).1)).1,0⟩:Token),(Q30 r_ (fun (y:Int)=>(((decide (y >= 48))&&(decide (y<=57)))||((decide (y >= 97))&&(decide (y<=122)))))).2)
theorem Q6c (r_:LexReader) (hs0:r_.sz) (hp0:0<=r_.at_∧r_.at_<=(r_.line.length:Int)∧r_.line.length<=400):AMoves Tryz.prog 298 [AVal.ptr 0 0 4 0 0] [(0,AObj.row 273 4 [[runes r_.line,I r_.at_,I r_.bad,I r_.error]])] 1 (Token.a ((QE1 r_).1)) [(0,AObj.row 273 4 [[runes ((QE1 r_).2.line),I ((QE1 r_).2.at_),I ((QE1 r_).2.bad),I ((QE1 r_).2.error)]])]:=by
 generalize hR:QE1 r_=R;refine mo (kp 7 [15,24]) Tryz.func298 ?_;have hk0:=hs0;obtain z7:r_.line.length<=4294967296:=hs0;have cl1:∀ (y1:Int),AMoves Tryz.prog 311 [J y1] [] 0 (Bo ((fun (y:Int)=>(((decide (y >= 48))&&(decide (y<=57)))||((decide (y >= 97))&&(decide (y<=122))))) y1)) []:=by
  intro y1;have hR:(fun (y:Int)=>(((decide (y >= 48))&&(decide (y<=57)))||((decide (y >= 97))&&(decide (y<=122))))) y1=(fun (y:Int)=>(((decide (y >= 48))&&(decide (y<=57)))||((decide (y >= 97))&&(decide (y<=122))))) y1:=rfl;refine mo (kp 3 []) Tryz.func311 ?_;refine Qs0 (fun r:Bool=>Bo r) (fun _=>[]) (leaf:=(((decide (y1 >= 48))&&(decide (y1<=57)))||((decide (y1 >= 97))&&(decide (y1<=122))))) (foll hR rfl) ?_;exact tt [] .nil t1
 have hof1:AMoves Tryz.prog 283 [AVal.ptr 0 0 4 0 0,AVal.fn (.func 311) [] []] [(0,AObj.row 273 4 [[runes r_.line,I r_.at_,I r_.bad,I r_.error]])] 1 (Sg ((Q30 r_ (fun (y:Int)=>(((decide (y >= 48))&&(decide (y<=57)))||((decide (y >= 97))&&(decide (y<=122)))))).1)) [(0,AObj.row 273 4 [[runes (((Q30 r_ (fun (y:Int)=>(((decide (y >= 48))&&(decide (y<=57)))||((decide (y >= 97))&&(decide (y<=122)))))).2).line),I (((Q30 r_ (fun (y:Int)=>(((decide (y >= 48))&&(decide (y<=57)))||((decide (y >= 97))&&(decide (y<=122)))))).2).at_),I (((Q30 r_ (fun (y:Int)=>(((decide (y >= 48))&&(decide (y<=57)))||((decide (y >= 97))&&(decide (y<=122)))))).2).bad),I (((Q30 r_ (fun (y:Int)=>(((decide (y >= 48))&&(decide (y<=57)))||((decide (y >= 97))&&(decide (y<=122)))))).2).error)]])]:=by
  have hR:Q30 r_ (fun (y:Int)=>(((decide (y >= 48))&&(decide (y<=57)))||((decide (y >= 97))&&(decide (y<=122)))))=Q30 r_ (fun (y:Int)=>(((decide (y >= 48))&&(decide (y<=57)))||((decide (y >= 97))&&(decide (y<=122))))):=rfl;refine mo (kp 6 [33]) Tryz.func283 ?_;refine Qf0 (fun (c:LexReader)=>∃ m,(Int.toNat ((c.line.length:Int) - c.at_))<m∧Qz0 r_ (Qy0 (fun (y:Int)=>(((decide (y >= 48))&&(decide (y<=57)))||((decide (y >= 97))&&(decide (y<=122))))) m c)=Q30 r_ (fun (y:Int)=>(((decide (y >= 48))&&(decide (y<=57)))||((decide (y >= 97))&&(decide (y<=122)))))∧0<=c.at_∧c.at_<=(c.line.length:Int)∧c.line.length<=400∧r_.at_<=c.at_∧0<=r_.at_) (fun c=>(Int.toNat ((c.line.length:Int) - c.at_))) (fun c=>[(0,AVal.ptr 0 0 4 0 0),(1,AVal.fn (.func 311) [] []),(4,Sg ⟨#[]⟩),(5,I r_.at_)]) (fun c=>[(0,AObj.row 273 4 [[runes c.line,I c.at_,I c.bad,I c.error]])]) r_ (wk [0] (tO rfl (ts LexReader.lo) .nil) (sv (Q20 0 rfl rfl) (sv (Qa1 (Low.fn _ _ _ LowL.nil LowL.nil)) (s1 (s1 .nil))))) ⟨_,Nat.lt_succ_self _,foll hR rfl,by exact exA⟩ ?_;clear hR;rintro c ⟨m,hm,hR,hx⟩;(try dsimp only at hR hm hx);obtain ⟨m,rfl⟩:=sucA m;refine dchk (by kernel_rfl) ?_;refine ai gkA ?_;(first|apply u2|apply u3|apply u4|apply us);exact mv [] (cl1 (c.line.getD (Int.toNat c.at_) 0)) .nil (d1 .nil) .nil rx;(repeat ((first|refine ai rfl ?_|refine ai (fun _=>rfl) ?_)));refine ai (fun h1=>?_) (fun h2=>?_)
  ·have hq1:=of_decide_eq_true ((Bool.and_eq_true _ _).mp h1).1;have hwr:w64 (c.at_+1)=c.at_+1:=wr (by omega);exact Qj0 { c with at_:=(w64 (c.at_+1)) } (wk [0] (tO rfl (ts LexReader.lo) .nil) (sv (Q20 0 rfl rfl) (sv (Qa1 (Low.fn _ _ _ LowL.nil LowL.nil)) (s1 (s1 .nil))))) omA ⟨m,by exact omA,foll hR (congrArg (fun p:LexReader=>Qz0 r_ p) (ct h1 rfl)),by exact exA⟩
  ·replace hR:Qz0 r_ c=Q30 r_ (fun (y:Int)=>(((decide (y >= 48))&&(decide (y<=57)))||((decide (y >= 97))&&(decide (y<=122))))):=fo2 (fun p:LexReader=>Qz0 r_ p) (c) hR (cf h2 rfl);refine dchk (by kernel_rfl) ?_;refine ai gkA ?_;(first|refine ⟨(List.drop (Int.toNat r_.at_) (List.take (Int.toNat c.at_) c.line)),by exact cvA,?_⟩|refine ⟨_,fun _=>⟨(List.drop (Int.toNat r_.at_) (List.take (Int.toNat c.at_) c.line)),by exact cvA,rfl,rfl⟩,?_⟩|refine ⟨_,rfl,⟨(List.drop (Int.toNat r_.at_) (List.take (Int.toNat c.at_) c.line)),by exact cvA,Sub.refl _,rfl⟩,?_⟩);(repeat ((first|refine ai rfl ?_|refine ai (fun _=>rfl) ?_)));refine Qs0 (fun r:ByteArray × LexReader=>Sg r.1) (fun r:ByteArray × LexReader=>[(0,AObj.row 273 4 [[runes r.2.line,I r.2.at_,I r.2.bad,I r.2.error]])]) (leaf:=((runesBytes (List.drop (Int.toNat r_.at_) (List.take (Int.toNat c.at_) c.line))),c)) (foll hR rfl) ?_;exact tt [0] (tO rfl (ts LexReader.lo) .nil) t1
 refine us (mv [0] (hof1) (dO (ds LexReader.lo) .nil) (dp (dv (Qp7 (Low.fn _ _ _ LowL.nil LowL.nil)) .nil)) (rO (re LexReader.lo) .nil) rx) ?_;refine us (Qwd ((Q30 r_ (fun (y:Int)=>(((decide (y >= 48))&&(decide (y<=57)))||((decide (y >= 97))&&(decide (y<=122)))))).1) (by first|(exact Q6a _ _ hp0.2.2)|exact szA) _) ?_;refine ai (fun h3=>?_) (fun h4=>?_)
 ·obtain rfl:=foll hR (ct h3 rfl);exact rq (tt [0] (tO rfl (ts LexReader.lo) .nil) (Qa1 (Low.agg' (Token.lo))))
 ·refine us (lex_number_c ((Q30 r_ (fun (y:Int)=>(((decide (y >= 48))&&(decide (y<=57)))||((decide (y >= 97))&&(decide (y<=122)))))).1) (by first|(exact Q6a _ _ hp0.2.2)|exact szA) _) ?_;refine ai (fun h5=>?_) (fun h6=>?_)
  ·refine us (mv [0] (Qy3 ((Q30 r_ (fun (y:Int)=>(((decide (y >= 48))&&(decide (y<=57)))||((decide (y >= 97))&&(decide (y<=122)))))).2) r_.at_ 50) (dO (ds LexReader.lo) .nil) (dp (d1 (d1 .nil))) (rO (re LexReader.lo) .nil) rx) ?_;obtain rfl:=foll hR (cf h4 (ct h5 rfl));exact rq (tt [0] (tO rfl (ts LexReader.lo) .nil) (Qa1 (Low.agg' (Token.lo))))
  ·obtain rfl:=foll hR (cf h4 (cf h6 rfl));exact rq (tt [0] (tO rfl (ts LexReader.lo) .nil) (Qa1 (Low.agg' (Token.lo))))
attribute [local irreducible] QJ0
def QW3 :List (Nat × Int)->Bool->List Int->ByteArray × Int
 | [],held,buf=>bif held then (⟨#[]⟩,50) else ((QN2 buf),0)
 | x_ :: r,held,buf=>bif ((held&&(x_.2 != 34))&&(x_.2 != 92)) then bif ((held&&(x_.2 != 34))&&(x_.2 != 92)) then (⟨#[]⟩,50) else bif ((!held)&&(x_.2==92)) then QW3 r true buf else QW3 r false (QJ0 buf x_.2) else bif ((!held)&&(x_.2==34)) then (⟨#[]⟩,50) else bif ((!held)&&(x_.2==92)) then QW3 r true buf else QW3 r false (QJ0 buf x_.2)
def Qh3 (s:ByteArray):ByteArray × Int:=bif ((QV4 s).2 != 0) then (⟨#[]⟩,(QV4 s).2) else bif (((decide ((ByteArray.size s:Int)<2))||(((s.data.toList.getD 0 0).toNat:Int)!=34))||(((s.data.toList.getD (Int.toNat (w64 ((ByteArray.size s:Int) - 1))) 0).toNat:Int)!=34)) then (⟨#[]⟩,50) else QW3 (Qk7 (s.extract 1 (Int.toNat (w64 ((ByteArray.size s:Int) - 1))))) false []
theorem b3a1 {P:Prop} (h:P:=by first|(have hsz:=extract_size s 1 (Int.toNat (w64 ((ByteArray.size s:Int) - 1)));refine ⟨?_,?_,?_⟩ <;> (try dsimp only) <;> first|omega|with_reducible exact Qva|with_reducible exact hx.2.2|with_reducible exact byteIn_rune _ _ hx.2.2|exact Nat.le_trans (Qyb _ _) (by omega)|(simp;done))|exact exA):P:=h
theorem Qpa (s:ByteArray) (hs0:s.size<=4294967296) (hp0:ByteArray.size s<=1000000):GV 315 [Sg s] (AVal.tup [Sg ((Qh3 s).1),I ((Qh3 s).2)]):=by
 generalize hR:Qh3 s=R;refine ga (l1 .nil) (Low.tup' (l1 (l1 .nil))) (kp 10 [16,33,39,40,41,43,59,68]) Tryz.func315 ?_;have hk0:=hs0;obtain z19:s.size<=4294967296:=hs0;have hw0:w64 ((ByteArray.size s:Int) - 1)=(ByteArray.size s:Int) - 1:=wr (by omega);refine us (Qnc s szA _) ?_;refine ai (fun h1=>?_) (fun h2=>?_)
 ·obtain rfl:=foll hR (ct h1 rfl);exact Q00 (Low.tup' (l1 (l1 .nil))) (Seen.tup (e1 (e1 .nil)))
 ·refine ai gkA ?_;refine ai gkA ?_;refine ai (fun h3=>?_) (fun h4=>?_)
  ·obtain rfl:=foll hR (cf h2 (ct h3 rfl));exact Q00 (Low.tup' (l1 (l1 .nil))) (Seen.tup (e1 (e1 .nil)))
  ·refine ai gkA ?_;refine Qm6 (fun (held:Bool) (buf:List Int) (pos:Nat)=>∃ m,ByteArray.size (s.extract 1 (Int.toNat (w64 ((ByteArray.size s:Int) - 1)))) - pos<=m∧QW3 (Qr4 (s.extract 1 (Int.toNat (w64 ((ByteArray.size s:Int) - 1)))) m pos) held buf=R∧buf.length<=4*pos∧pos<=ByteArray.size s∧Qn7 buf) (fun held buf pos=>ByteArray.size (s.extract 1 (Int.toNat (w64 ((ByteArray.size s:Int) - 1)))) - pos) (fun held buf pos=>[(2,Sg ⟨#[]⟩),(3,I 0),(6,AVal.ptr 0 0 2 0 0),(7,Bo held),(39,AVal.ptr 1 0 1 0 0)]) (fun held buf pos=>[(0,AObj.row 293 2 [[AVal.sel 0 0 2 0 0,AVal.buf 2 0 1 buf.length]]),(0,AObj.other (.strIter (s.extract 1 (Int.toNat (w64 ((ByteArray.size s:Int) - 1)))) pos)),(0,AObj.row 5 1 (buf.map (fun q_=>[Y q_])))]) false [] 0 ((Qh1 5 1).trans (wk [0,1,2] (tO rfl (QC0 (cv (turn_selnil) (cv (turn_nilbuf 2 rfl) .nil))) (tO rfl (.strIter _ _) (tO rfl (tl eqA) .nil))) (s1 (s1 (sv (Q20 0 rfl rfl) (s1 (sv (Q20 1 rfl rfl) .nil))))))) ⟨ByteArray.size (s.extract 1 (Int.toNat (w64 ((ByteArray.size s:Int) - 1)))),by exact omA,foll hR (cf h2 (cf h4 rfl)),b3a1⟩ ?_;clear hR;rintro held buf pos ⟨m,hm,hR,hx⟩;(try dsimp only at hR hm hx);refine ai (fun h5=>?_) (fun h6=>?_)
   ·have hlt:=of_decide_eq_true h5;have hw:=QR7 (s.extract 1 (Int.toNat (w64 ((ByteArray.size s:Int) - 1)))) pos;have hwe:=QQ7 (s.extract 1 (Int.toNat (w64 ((ByteArray.size s:Int) - 1)))) pos hlt;obtain ⟨m,rfl⟩:=sucA m;rw [Ql3 h5] at hR;refine ai (fun _=>?_) (fun h=>nomatch h);refine ai (fun h7=>?_) (fun h8=>?_)
    ·refine ai (fun h9=>?_) (fun h10=>?_)
     ·obtain rfl:=foll hR (ct h7 (ct h9 rfl));exact Q00 (Low.tup' (l1 (l1 .nil))) (Seen.tup (e1 (e1 .nil)))
     ·refine ai (fun h11=>?_) (fun h12=>?_)
      ·exact Qp2 true buf (pos+(Utf8.decode (s.extract 1 (Int.toNat (w64 ((ByteArray.size s:Int) - 1)))) pos).2) (wk [0,1,2] (tO rfl (QC0 (cv (turn_sel 0 rfl rfl) (cv (turn_buf 2 rfl rfl) .nil))) (tO rfl (.strIter _ _) (tO rfl (tl eqA) .nil))) (s1 (s1 (sv (Q20 0 rfl rfl) (s1 (sv (Q20 1 rfl rfl) .nil)))))) omA ⟨m,by exact omA,foll hR (ct h7 (cf h10 (ct h11 rfl))),b3a1⟩
      ·refine us (mv [0,2] (QIe buf ((pos,((Utf8.decode (s.extract 1 (Int.toNat (w64 ((ByteArray.size s:Int) - 1)))) pos).1:Int)).2) szA) (dO (dc (dv (dn_sel rfl) (dv (dn_buf rfl) .nil))) (dO (dr eqA) .nil)) (dp (d1 .nil)) (rO (rc (rv (rp 0 0 rfl) (rv (rw_ 3 0 rfl) .nil))) (rO rr .nil)) (Ren.low _ (Low.tup' (l1 (l1 .nil))))) ?_;exact Qp2 false (QJ0 buf (pos,((Utf8.decode (s.extract 1 (Int.toNat (w64 ((ByteArray.size s:Int) - 1)))) pos).1:Int)).2) (pos+(Utf8.decode (s.extract 1 (Int.toNat (w64 ((ByteArray.size s:Int) - 1)))) pos).2) (wk [0,1,3] (tO rfl (QC0 (cv (Qxb 0 rfl rfl) (cv (Qhg 2 rfl rfl lnA (by first|with_reducible exact QK8 _ _|(simp;done)|grind)) .nil))) (tO rfl (.strIter _ _) (tO rfl (tl eqA) .nil))) (s1 (s1 (sv (Q20 0 rfl rfl) (s1 (sv (Q20 1 rfl rfl) .nil)))))) omA ⟨m,by exact omA,foll hR (ct h7 (cf h10 (cf h12 rfl))),b3a1⟩
    ·refine ai (fun h13=>?_) (fun h14=>?_)
     ·obtain rfl:=foll hR (cf h8 (ct h13 rfl));exact Q00 (Low.tup' (l1 (l1 .nil))) (Seen.tup (e1 (e1 .nil)))
     ·refine ai (fun h15=>?_) (fun h16=>?_)
      ·exact Qp2 true buf (pos+(Utf8.decode (s.extract 1 (Int.toNat (w64 ((ByteArray.size s:Int) - 1)))) pos).2) (wk [0,1,2] (tO rfl (QC0 (cv (turn_sel 0 rfl rfl) (cv (turn_buf 2 rfl rfl) .nil))) (tO rfl (.strIter _ _) (tO rfl (tl eqA) .nil))) (s1 (s1 (sv (Q20 0 rfl rfl) (s1 (sv (Q20 1 rfl rfl) .nil)))))) omA ⟨m,by exact omA,foll hR (cf h8 (cf h14 (ct h15 rfl))),b3a1⟩
      ·refine us (mv [0,2] (QIe buf ((pos,((Utf8.decode (s.extract 1 (Int.toNat (w64 ((ByteArray.size s:Int) - 1)))) pos).1:Int)).2) szA) (dO (dc (dv (dn_sel rfl) (dv (dn_buf rfl) .nil))) (dO (dr eqA) .nil)) (dp (d1 .nil)) (rO (rc (rv (rp 0 0 rfl) (rv (rw_ 3 0 rfl) .nil))) (rO rr .nil)) (Ren.low _ (Low.tup' (l1 (l1 .nil))))) ?_;exact Qp2 false (QJ0 buf (pos,((Utf8.decode (s.extract 1 (Int.toNat (w64 ((ByteArray.size s:Int) - 1)))) pos).1:Int)).2) (pos+(Utf8.decode (s.extract 1 (Int.toNat (w64 ((ByteArray.size s:Int) - 1)))) pos).2) (wk [0,1,3] (tO rfl (QC0 (cv (Qxb 0 rfl rfl) (cv (Qhg 2 rfl rfl lnA (by first|with_reducible exact QK8 _ _|(simp;done)|grind)) .nil))) (tO rfl (.strIter _ _) (tO rfl (tl eqA) .nil))) (s1 (s1 (sv (Q20 0 rfl rfl) (s1 (sv (Q20 1 rfl rfl) .nil)))))) omA ⟨m,by exact omA,foll hR (cf h8 (cf h14 (cf h16 rfl))),b3a1⟩
   ·rw [QG5 h6] at hR;refine ai (fun h=>nomatch h) (fun _=>?_);refine ai (fun h17=>?_) (fun h18=>?_)
    ·obtain rfl:=foll hR (ct h17 rfl);exact Q00 (Low.tup' (l1 (l1 .nil))) (Seen.tup (e1 (e1 .nil)))
    ·refine us (mv [0,2] (String_c buf (by first|(with_reducible exact hx.2.2)|first|assumption|exact Qva|grind) szA) (dO (dc (dv (dn_any) (dv (dn_bufbuf rfl) .nil))) (dO (dr eqA) .nil)) (dp .nil) (rO (re (.cons Low.any (.cons Low.any .nil))) .nil) rx) ?_;obtain rfl:=foll hR (cf h18 rfl);exact Q00 (Low.tup' (l1 (l1 .nil))) (Seen.tup (e1 (e1 .nil)))
def QQ2 (l:List Node):Int:=bif (((decide ((l.length:Int)<1))||(decide ((l.length:Int) > 48)))||(Qs2 l (fun (y:Node)=>(!(Q22 y))))) then 120 else 0
theorem QPb (l:List Node) (hs0:l.length<=4294967296):GV 126 [nodeL l] (I (QQ2 l)):=by
 generalize hR:QQ2 l=R;refine ga (.cons lw .nil) lx (kp 3 [14]) Tryz.func126 ?_;have hk0:=hs0;obtain z7:l.length<=4294967296:=hs0;have cl1:∀ (y1:Node),AMoves Tryz.prog 195 [Node.a y1] [] 0 (Bo ((fun (y:Node)=>(!(Q22 y))) y1)) []:=by
  intro y1;have hR:(fun (y:Node)=>(!(Q22 y))) y1=(fun (y:Node)=>(!(Q22 y))) y1:=rfl;refine mo (kp 3 []) Tryz.func195 ?_;refine us (fleet_fine_c y1 _) ?_;refine Qs0 (fun r:Bool=>Bo r) (fun _=>[]) (leaf:=(!(Q22 y1))) (foll hR rfl) ?_;exact tt [] .nil t1
 have hof1:AMoves Tryz.prog 194 [nodeL l,AVal.fn (.func 195) [] []] [] 0 (Bo (Qs2 l (fun (y:Node)=>(!(Q22 y))))) []:=by
  have hR:Qs2 l (fun (y:Node)=>(!(Q22 y)))=Qs2 l (fun (y:Node)=>(!(Q22 y))):=rfl;refine mo (kp 5 []) Tryz.func194 ?_;have hof2:AMoves Tryz.prog 227 [nodeL l,AVal.fn (.func 195) [] []] [] 0 (I (Qt2 l (fun (y:Node)=>(!(Q22 y))))) []:=by
   have hR:Qt2 l (fun (y:Node)=>(!(Q22 y)))=Qt2 l (fun (y:Node)=>(!(Q22 y))):=rfl;refine mo (kp 6 [7,8,9,16]) Tryz.func227 ?_;refine Qf0 (fun (i:Nat)=>QE4 (fun (y:Node)=>(!(Q22 y))) (List.drop i l) i=Qt2 l (fun (y:Node)=>(!(Q22 y)))∧i<=l.length) (fun i=>l.length - i) (fun i=>[(0,nodeL l),(1,AVal.fn (.func 195) [] []),(4,I 0),(7,I (l.length:Int)),(8,I (i:Int))]) (fun i=>[]) 0 (wk [] .nil (sl lw (sv (Qa1 (Low.fn _ _ _ LowL.nil LowL.nil)) (s1 (s1 (s1 .nil)))))) ⟨foll hR rfl,by exact omA⟩ ?_;clear hR;rintro i ⟨hR,hj⟩;(try dsimp only at hR hj);refine ai (fun h1=>?_) (fun h2=>?_)
   ·have hlt:=ltA h1;rw [Q90 Node.zero hlt] at hR;refine ai gkA ?_;refine us (mv [] (cl1 (l.getD i Node.zero)) .nil (dl (Node.low _ _) .nil) .nil rx) ?_;refine ai (fun h3=>?_) (fun h4=>?_)
    ·refine Qs0 (fun r:Int=>I r) (fun r:Int=>[]) (leaf:=(i:Int)) (foll hR (ct h3 rfl)) ?_;exact tt [] .nil t1
    ·exact Qj0 (i+1) (wk [] .nil (sl lw (sv (Qa1 (Low.fn _ _ _ LowL.nil LowL.nil)) (s1 (s1 (sv (Q70 (I_eq (wr omA)) lx) .nil)))))) omA ⟨foll hR (cf h4 rfl),by exact omA⟩
   ·rw [Qa0 (l:=l) (j:=i) (geA h2)] at hR;refine Qs0 (fun r:Int=>I r) (fun r:Int=>[]) (leaf:=(-1)) (foll hR rfl) ?_;exact tt [] .nil t1
  refine us (mv [] (hof2) .nil (dl lw (dv (Qp7 (Low.fn _ _ _ LowL.nil LowL.nil)) .nil)) .nil rx) ?_;refine Qs0 (fun r:Bool=>Bo r) (fun r:Bool=>[]) (leaf:=(decide ((Qt2 l (fun (y:Node)=>(!(Q22 y)))) >= 0))) (foll hR rfl) ?_;exact tt [] .nil t1
 (first|apply u2|apply u3|apply u4|apply us);exact mv [] (hof1) .nil (dl lw (dv (Qp7 (Low.fn _ _ _ LowL.nil LowL.nil)) .nil)) .nil rx;refine ai (fun h5=>?_) (fun h6=>?_)
 ·obtain rfl:=foll hR (ct h5 rfl);exact Q00 lx sr
 ·obtain rfl:=foll hR (cf h6 rfl);exact Q00 lx sr
def Qs5 (l:List Usage):List Usage->Nat->Int
 | [],_=>0
 | x_ :: r,i=>bif ((((((!(Ql6 x_.user))||(!(Ql6 x_.account)))||(x_.used != (Q96 x_.used)))||(decide (x_.share<0)))||(decide (x_.share > x_.used)))||((decide ((i:Int) > 0))&&(decide ((Qu7 (l.getD (Int.toNat (w64 ((i:Int) - 1))) Usage.zero) x_) >= 0)))) then 2 else Qs5 l r (i+1)
def Qp3 (l:List Usage):Int:=bif (decide ((l.length:Int) > 200)) then 2 else Qs5 l l 0
theorem QXa (l:List Usage) (hs0:l.length<=4294967296∧(∀ y ∈ l,y.sz)):GV 59 [QU2 l] (I (Qp3 l)):=by
 generalize hR:Qp3 l=R;refine ga (.cons lw .nil) lx (kp 5 [7,8,9,10,11,58]) Tryz.func59 ?_;obtain ⟨z9,z10⟩:=id hs0;refine ai (fun h1=>?_) (fun h2=>?_)
 ·have qh1:=of_decide_eq_true h1;obtain rfl:=foll hR (ct h1 rfl);exact Q00 lx sr
 ·have qh2:=of_decide_eq_false h2;refine Qf0 (fun (i:Nat)=>Qs5 l (List.drop i l) i=R∧i<=l.length) (fun i=>l.length - i) (fun i=>[(0,QU2 l),(2,I 0),(8,QU2 l),(9,I (l.length:Int)),(10,I (i:Int))]) (fun i=>[]) 0 (wk [] .nil (sl lw (s1 (sl lw (s1 (s1 .nil)))))) ⟨foll hR (cf h2 rfl),by exact omA⟩ ?_;clear hR;rintro i ⟨hR,hj⟩;(try dsimp only at hR hj);refine ai (fun h3=>?_) (fun h4=>?_)
  ·have hlt:=ltA h3;rw [Q90 Usage.zero hlt] at hR;have hxz:(l.getD i Usage.zero).sz:=Q72 (by first|assumption|grind) (Usage.szz _);have hkz:=hxz;obtain ⟨z5,z6⟩:=Usage.zz hxz;refine ai gkA ?_;refine dchk (by kernel_rfl) ?_;(first|apply u2|apply u3|apply u4|apply us);exact QJ7 ((l.getD i Usage.zero).user) _;(first|apply u2|apply u3|apply u4|apply us);exact QJ7 ((l.getD i Usage.zero).account) _;(first|apply u2|apply u3|apply u4|apply us);exact QF9 ((l.getD i Usage.zero).used) _;refine ai gkA ?_;(first|apply u2|apply u3|apply u4|apply us);exact QZa (l.getD (Int.toNat (w64 ((i:Int) - 1))) Usage.zero) (l.getD i Usage.zero) szA szA _;(repeat ((first|refine ai rfl ?_|refine ai (fun _=>rfl) ?_|refine ai (fun _=>QJ7 ((l.getD i Usage.zero).user) _) ?_|refine ai (fun _=>QJ7 ((l.getD i Usage.zero).account) _) ?_|refine ai (fun _=>QF9 ((l.getD i Usage.zero).used) _) ?_|refine ai (fun _=>QZa (l.getD (Int.toNat (w64 ((i:Int) - 1))) Usage.zero) (l.getD i Usage.zero) szA szA _) ?_)));refine ai (fun h7=>?_) (fun h8=>?_)
   ·obtain rfl:=foll hR (ct h7 rfl);exact Q00 lx sr
   ·exact Qj0 (i+1) (wk [] .nil (sl lw (s1 (sl lw (s1 (sv (Q70 (I_eq (wr omA)) lx) .nil)))))) omA ⟨foll hR (cf h8 rfl),by exact omA⟩
  ·rw [Qa0 (l:=l) (j:=i) (geA h4)] at hR;obtain rfl:=foll hR rfl;exact Q00 lx sr
def QU1 (p_:List Step) (from_:Int) (latest:Int) (grace:Int) (options1:List Alt):List Alt->Int->Int->Bool->Nat->Int × Int × Bool
 | [],choice,start,found,_=>(choice,start,found)
 | x_ :: r,choice,start,found,i=>bif ((!(Q93 x_.wall x_.nodes))||(decide ((max grace 0) > (w64 (1000000 - x_.wall))))) then QU1 p_ from_ latest grace options1 r choice start found (i+1) else bif ((!((Q23 p_ from_ (w64 (x_.wall+(max grace 0))) x_.nodes).2&&(decide ((Q23 p_ from_ (w64 (x_.wall+(max grace 0))) x_.nodes).1<=latest))))||(found&&(decide ((w64 ((Q23 p_ from_ (w64 (x_.wall+(max grace 0))) x_.nodes).1+x_.wall)) >= (w64 (start+(options1.getD (Int.toNat choice) Alt.zero).wall)))))) then QU1 p_ from_ latest grace options1 r choice start found (i+1) else QU1 p_ from_ latest grace options1 r (i:Int) ((Q23 p_ from_ (w64 (x_.wall+(max grace 0))) x_.nodes).1) true (i+1)
def Qp5 (choice:Int) (start:Int) (found:Bool):Int × Int × Bool:=(choice,start,found)
def Q58 (p_:List Step) (from_:Int) (latest:Int) (grace:Int) (options1:List Alt):Int × Int × Bool:=Qp5 ((QU1 p_ from_ latest grace options1 options1 0 0 false 0).1) ((QU1 p_ from_ latest grace options1 options1 0 0 false 0).2.1) ((QU1 p_ from_ latest grace options1 options1 0 0 false 0).2.2)
def QF6 (p_:List Step) (options:List Alt) (from_:Int) (latest:Int) (grace:Int):Int × Int × Bool:=bif (decide ((options.length:Int) > 48)) then Q58 p_ from_ latest grace (List.take 48 options) else Q58 p_ from_ latest grace options
theorem b3a0 {P:Prop} (h:P:=by first|((exact hx))|first|((exact fun h=>absurd h (by decide)))|first|((exact fun _=>⟨by omega,by omega⟩))|exact exA):P:=h
theorem fit_Best_c (p_:List Step) (options:List Alt) (from_:Int) (latest:Int) (grace:Int) (hs0:p_.length<=4294967296) (hs1:options.length<=4294967296):GV 46 [stepL p_,altL options,I from_,I latest,I grace] (AVal.tup [I ((QF6 p_ options from_ latest grace).1),I ((QF6 p_ options from_ latest grace).2.1),Bo ((QF6 p_ options from_ latest grace).2.2)]):=by
 generalize hR:QF6 p_ options from_ latest grace=R;refine ga (.cons lw (.cons lw (l1 (l1 (l1 .nil))))) (Low.tup' (l1 (l1 (l1 .nil)))) (kj [1000003] 21 [23,29,30,31,32,60]) Tryz.func46 ?_;have hk0:=hs0;obtain z9:p_.length<=4294967296:=hs0;have hk1:=hs1;obtain z10:options.length<=4294967296:=hs1;refine Qr1 (fun (options1:List Alt)=>Q58 p_ from_ latest grace options1=R∧options1.length<=4294967296) (fun options1=>[(1,altL options1),(5,AVal.ptr 0 0 1 0 0),(7,AVal.ptr 1 0 1 0 0),(8,AVal.ptr 2 0 1 0 0),(9,AVal.ptr 3 0 1 0 0),(10,I 0),(11,I 0),(12,Bo false)]) (fun options1=>[(0,AObj.row 72 1 [[stepL p_]]),(0,AObj.row 3 1 [[I from_]]),(0,AObj.row 3 1 [[I latest]]),(0,AObj.row 3 1 [[I grace]])]) ?_ ?_
 ·clear hR;rintro options1 ⟨hR,hx⟩;(try dsimp only at hR hx);refine Qjb (fun (choice:Int) (start:Int) (found:Bool) (i:Nat)=>Qp5 (QU1 p_ from_ latest grace options1 (List.drop i options1) choice start found i).1 (QU1 p_ from_ latest grace options1 (List.drop i options1) choice start found i).2.1 (QU1 p_ from_ latest grace options1 (List.drop i options1) choice start found i).2.2=R∧i<=options1.length∧(found=true->0<=choice∧choice<(options1.length:Int))) (fun choice start found i=>options1.length - i) (fun choice start found i=>[(1,altL options1),(10,I 0),(11,I 0),(12,Bo false),(13,AVal.fn (.func 102) [] [AVal.ptr 3 0 1 0 0,AVal.ptr 0 0 1 0 0,AVal.ptr 1 0 1 0 0,AVal.ptr 2 0 1 0 0]),(14,I choice),(15,I start),(16,Bo found),(29,altL options1),(30,I (options1.length:Int)),(31,I (i:Int))]) (fun choice start found i=>[(0,AObj.row 72 1 [[stepL p_]]),(0,AObj.row 3 1 [[I from_]]),(0,AObj.row 3 1 [[I latest]]),(0,AObj.row 3 1 [[I (max grace 0)]])]) 0 0 false 0 (wk [0,1,2,3] (tO rfl (ts (lv lw LowL.nil)) (tO rfl (ts (l1 LowL.nil)) (tO rfl (ts (l1 LowL.nil)) (tO rfl (ts (l1 LowL.nil)) .nil)))) (sl lw (s1 (s1 (s1 (sv (Q31 .nil (cv (Q20 3 rfl rfl) (cv (Q20 0 rfl rfl) (cv (Q20 1 rfl rfl) (cv (Q20 2 rfl rfl) .nil))))) (s1 (s1 (s1 (sl lw (s1 (s1 .nil)))))))))))) ⟨foll hR rfl,by exact omA,b3a0⟩ ?_;clear hR;rintro choice start found i ⟨hR,hj,hx⟩;(try dsimp only at hR hj hx);refine ai (fun h1=>?_) (fun h2=>?_)
  ·have hlt:=ltA h1;rw [Q90 Alt.zero hlt] at hR;refine And.intro (by first|exact fun hg=>decide_eq_true (by first|((have q:=(Bool.and_eq_true_iff.1 hg).2;have q2:=hx q;omega))|exact ckA)|exact gkA) ?_;refine ACalls.of_cwp (fun _=>true) Tryz.func102 rfl rfl ?_;refine us (QQc ((options1.getD i Alt.zero).wall) ((options1.getD i Alt.zero).nodes) _) ?_;refine ai (fun h3=>?_) (fun h4=>?_)
   ·refine ⟨_,_,Told.refl,?_⟩;refine dchk (by kernel_rfl) ?_;refine ai (fun hg=>nomatch (show false=true from hg)) ?_;(repeat ((first|refine ai rfl ?_|refine ai (fun _=>rfl) ?_)));refine ai (fun _=>?_) (fun h=>nomatch h);exact Qv4 choice start found (i+1) (wk [0,1,2,3] (tO rfl (ts (lv lw LowL.nil)) (tO rfl (ts (l1 LowL.nil)) (tO rfl (ts (l1 LowL.nil)) (tO rfl (ts (l1 LowL.nil)) .nil)))) (sl lw (s1 (s1 (s1 (sv (Q31 .nil (cv (Q20 3 rfl rfl) (cv (Q20 0 rfl rfl) (cv (Q20 1 rfl rfl) (cv (Q20 2 rfl rfl) .nil))))) (s1 (s1 (s1 (sl lw (s1 (sv (Q70 (I_eq (wr omA)) lx) .nil)))))))))))) omA ⟨foll hR (congrArg (fun p:Int × Int × Bool=>Qp5 p.1 p.2.1 p.2.2) (ct h3 rfl)),by exact omA,b3a0⟩
   ·refine us (fit_Earliest_c p_ from_ (w64 ((options1.getD i Alt.zero).wall+(max grace 0))) ((options1.getD i Alt.zero).nodes) szA _) ?_;refine dchk (by kernel_rfl) ?_;(repeat ((first|refine ai rfl ?_|refine ai (fun _=>rfl) ?_)));refine ⟨_,_,Told.refl,?_⟩;refine dchk (by kernel_rfl) ?_;refine And.intro (by first|exact fun hg=>decide_eq_true (by first|((have q:=(Bool.and_eq_true_iff.1 hg).2;have q2:=hx q;omega))|exact ckA)|exact gkA) ?_;(repeat ((first|refine ai rfl ?_|refine ai (fun _=>rfl) ?_)));refine ai (fun h5=>?_) (fun h6=>?_)
    ·exact Qv4 choice start found (i+1) (wk [0,1,2,3] (tO rfl (ts (lv lw LowL.nil)) (tO rfl (ts (l1 LowL.nil)) (tO rfl (ts (l1 LowL.nil)) (tO rfl (ts (l1 LowL.nil)) .nil)))) (sl lw (s1 (s1 (s1 (sv (Q31 .nil (cv (Q20 3 rfl rfl) (cv (Q20 0 rfl rfl) (cv (Q20 1 rfl rfl) (cv (Q20 2 rfl rfl) .nil))))) (s1 (s1 (s1 (sl lw (s1 (sv (Q70 (I_eq (wr omA)) lx) .nil)))))))))))) omA ⟨foll hR (congrArg (fun p:Int × Int × Bool=>Qp5 p.1 p.2.1 p.2.2) (cf h4 (ct h5 rfl))),by exact omA,b3a0⟩
    ·exact Qv4 (i:Int) ((Q23 p_ from_ (w64 ((options1.getD i Alt.zero).wall+(max grace 0))) (options1.getD i Alt.zero).nodes).1) true (i+1) (wk [0,1,2,3] (tO rfl (ts (lv lw LowL.nil)) (tO rfl (ts (l1 LowL.nil)) (tO rfl (ts (l1 LowL.nil)) (tO rfl (ts (l1 LowL.nil)) .nil)))) (sl lw (s1 (s1 (s1 (sv (Q31 .nil (cv (Q20 3 rfl rfl) (cv (Q20 0 rfl rfl) (cv (Q20 1 rfl rfl) (cv (Q20 2 rfl rfl) .nil))))) (s1 (s1 (s1 (sl lw (s1 (sv (Q70 (I_eq (wr omA)) lx) .nil)))))))))))) omA ⟨foll hR (congrArg (fun p:Int × Int × Bool=>Qp5 p.1 p.2.1 p.2.2) (cf h4 (cf h6 rfl))),by exact omA,b3a0⟩
  ·rw [Qa0 (l:=options1) (j:=i) (geA h2)] at hR;replace hR:Qp5 choice start found=R:=fo2 (fun p:Int × Int × Bool=>Qp5 p.1 p.2.1 p.2.2) (choice,start,found) hR rfl;obtain rfl:=foll hR rfl;exact Q00 (Low.tup' (l1 (l1 (l1 .nil)))) (Seen.tup (e1 (e1 (e1 .nil))))
 ·refine ai (fun h7=>?_) (fun h8=>?_)
  ·have qh7:=of_decide_eq_true h7;refine And.intro (by first|exact fun hg=>decide_eq_true (by first|((have q:=(Bool.and_eq_true_iff.1 hg).2;have q2:=hx q;omega))|exact ckA)|exact gkA) ?_;exact Qb0 (List.take 48 options) (wk [0,1,2,3] (tO rfl (ts (lv lw LowL.nil)) (tO rfl (ts (l1 LowL.nil)) (tO rfl (ts (l1 LowL.nil)) (tO rfl (ts (l1 LowL.nil)) .nil)))) (sv (turn_as (as_take options 48 (by first|((have q:=(Bool.and_eq_true_iff.1 hg).2;have q2:=hx q;omega))|exact ckA)) lw) (sv (Q20 0 rfl rfl) (sv (Q20 1 rfl rfl) (sv (Q20 2 rfl rfl) (sv (Q20 3 rfl rfl) (s1 (s1 (s1 .nil))))))))) (⟨foll hR (ct h7 rfl),b3a0⟩)
  ·have qh8:=of_decide_eq_false h8;exact Qb0 options (wk [0,1,2,3] (tO rfl (ts (lv lw LowL.nil)) (tO rfl (ts (l1 LowL.nil)) (tO rfl (ts (l1 LowL.nil)) (tO rfl (ts (l1 LowL.nil)) .nil)))) (sl lw (sv (Q20 0 rfl rfl) (sv (Q20 1 rfl rfl) (sv (Q20 2 rfl rfl) (sv (Q20 3 rfl rfl) (s1 (s1 (s1 .nil))))))))) (⟨foll hR (cf h8 rfl),b3a0⟩)
def Qq1 (t:Taken) (from_:Int) (to_:Int) (n:Int):Taken:=bif ((decide (to_<=from_))||(n==0)) then t else bif ((Qx1 t.p from_ to_ (w64 (0 - n))).2==0) then (⟨(Qx1 t.p from_ to_ (w64 (0 - n))).1⟩:Taken) else t
theorem Q87 (t:Taken) (from_:Int) (to_:Int) (n:Int) (hs0:t.sz):AMoves Tryz.prog 107 [AVal.ptr 0 0 1 0 0,I from_,I to_,I n] [(0,AObj.row 132 1 [[stepL t.p]])] 1 (AVal.tup []) [(0,AObj.row 132 1 [[stepL ((Qq1 t from_ to_ n).p)]])]:=by
 generalize hR:Qq1 t from_ to_ n=R;refine mo (kp 10 [16,30]) Tryz.func107 ?_;have hk0:=hs0;obtain z5:t.p.length<=4294967296:=hs0;refine ai (fun h1=>?_) (fun h2=>?_)
 ·obtain rfl:=foll hR (ct h1 rfl);exact rq (tt [0] (tO rfl (ts Taken.lo) .nil) t1)
 ·refine us (Qy9 t.p from_ to_ (w64 (0 - n)) szA _) ?_;refine ai (fun h3=>?_) (fun h4=>?_)
  ·obtain rfl:=foll hR (cf h2 (ct h3 rfl));exact rq (tt [0] (tO rfl (ts Taken.lo) .nil) t1)
  ·obtain rfl:=foll hR (cf h2 (cf h4 rfl));exact rq (tt [0] (tO rfl (ts Taken.lo) .nil) t1)
theorem QM9 {t:Taken} {f g n:Int} (h:t.p.length<=4294967296):(Qq1 t f g n).p.length<=4294967296:=by
 unfold Qq1
 repeat' first|exact h|exact Qb8 _ _ _ _ h|(rw [Bool.cond_eq_ite];split)
theorem flat_len (n:Int):(QI2 n).length<=4294967296:=by simp [QI2]
def QI7 (p_:List Step) (at_:Int) (long:Int) (nodes:Int):Bool:=bif ((((QN1 p_)!=0)||(!(Q93 long nodes)))||(!(Q55 at_ 0 (w64 (1000000 - long))))) then false else (decide ((QO5 p_ at_ (w64 (at_+long))) >= nodes))
theorem fit_Fits_c (p_:List Step) (at_:Int) (long:Int) (nodes:Int) (hs0:p_.length<=4294967296):GV 136 [stepL p_,I at_,I long,I nodes] (Bo (QI7 p_ at_ long nodes)):=by
 generalize hR:QI7 p_ at_ long nodes=R;refine ga (.cons lw (l1 (l1 (l1 .nil)))) lx (kp 9 [24]) Tryz.func136 ?_;have hk0:=hs0;obtain z3:p_.length<=4294967296:=hs0;refine us (Qt5 p_ szA _) ?_;(first|apply u2|apply u3|apply u4|apply us);exact QQc long nodes _;(first|apply u2|apply u3|apply u4|apply us);exact QZ9 at_ 0 (w64 (1000000 - long)) _;refine ai (fun h1=>?_) (fun h2=>?_)
 ·obtain rfl:=foll hR (ct h1 rfl);exact Q00 lx sr
 ·refine us (QAf p_ at_ (w64 (at_+long)) szA _) ?_;obtain rfl:=foll hR (cf h2 rfl);exact Q00 lx sr
def QS3 (s:ByteArray):Nat->List Int->Int->(List Int) × Int
 | 0,_,_=>([],0)
 | m+1,out,i=>bif (decide (i<(w64 ((ByteArray.size s:Int) - 1)))) then bif ((((s.data.toList.getD (Int.toNat i) 0).toNat:Int)==92)&&(decide ((w64 (i+1))<(w64 ((ByteArray.size s:Int) - 1))))) then QS3 s m (out++([((s.data.toList.getD (Int.toNat (w64 (i+1))) 0).toNat:Int)]:List Int)) (w64 ((w64 (i+1))+1)) else QS3 s m (out++([((s.data.toList.getD (Int.toNat i) 0).toNat:Int)]:List Int)) (w64 (i+1)) else (out,i)
def QT3 (s:ByteArray) (out:List Int) (i:Int):ByteArray × Int:=bif (((Qc8 (QN2 out)).2 != 0)||(!(ByteArray.toList (Qc8 (QN2 out)).1==ByteArray.toList s))) then (⟨#[]⟩,50) else ((QN2 out),0)
def QR5 (s:ByteArray):ByteArray × Int:=bif ((QK3 s).2 != 0) then (⟨#[]⟩,(QK3 s).2) else QT3 s ((QS3 s ((Int.toNat ((w64 ((ByteArray.size s:Int) - 1)) - 1))+1) [] 1).1) ((QS3 s ((Int.toNat ((w64 ((ByteArray.size s:Int) - 1)) - 1))+1) [] 1).2)
theorem QFf (s:ByteArray) (hs0:s.size<=4294967296):GV 307 [Sg s] (AVal.tup [Sg ((QR5 s).1),I ((QR5 s).2)]):=by
 generalize hR:QR5 s=R;refine ga (l1 .nil) (Low.tup' (l1 (l1 .nil))) (kp 10 [16,22,36,57]) Tryz.func307 ?_;have hk0:=hs0;obtain z9:s.size<=4294967296:=hs0;refine us (QA9 s szA _) ?_;refine ai (fun h1=>?_) (fun h2=>?_)
 ·obtain rfl:=foll hR (ct h1 rfl);exact Q00 (Low.tup' (l1 (l1 .nil))) (Seen.tup (e1 (e1 .nil)))
 ·refine Qg0 (fun (out:List Int) (i:Int)=>∃ m,(Int.toNat ((w64 ((ByteArray.size s:Int) - 1)) - i))<m∧QT3 s (QS3 s m out i).1 (QS3 s m out i).2=R∧1<=i∧i<=(ByteArray.size s:Int)+1∧(out.length:Int)+1<=i) (fun out i=>(Int.toNat ((w64 ((ByteArray.size s:Int) - 1)) - i))) (fun out i=>[(0,Sg s),(2,Sg ⟨#[]⟩),(3,I 0),(6,AVal.own 0 0 1 0 out.length),(7,I i)]) (fun out i=>[(0,AObj.row 5 1 (out.map (fun q_=>[Y q_])))]) [] 1 ((Qh1 5 1).trans (wk [0] (tO rfl (tl eqA) .nil) (s1 (s1 (s1 (sv (QV0 0 rfl) (s1 .nil))))))) ⟨_,Nat.lt_succ_self _,foll hR (cf h2 rfl),by exact exA⟩ ?_;clear hR;rintro out i ⟨m,hm,hR,hx⟩;(try dsimp only at hR hm hx);obtain ⟨m,rfl⟩:=sucA m;refine ai (fun h3=>?_) (fun h4=>?_)
  ·have qh3:=of_decide_eq_true h3;have hq1:i<w64 ((ByteArray.size s:Int) - 1):=of_decide_eq_true h3;have hw0:w64 ((ByteArray.size s:Int) - 1)=(ByteArray.size s:Int) - 1:=wr (by omega);rw [hw0] at hq1;have hw1:w64 (i+1)=i+1:=wr (by omega);have hw2:w64 (i+1+1)=i+1+1:=wr (by omega);refine ai gkA ?_;refine ai (fun h5=>?_) (fun h6=>?_)
   ·refine ai gkA ?_;refine Or.inl ?_;(first|refine ⟨QK1 1 rfl lnA apA,?_⟩|refine ⟨QR0 1 rfl apA,?_⟩);exact Q80 (out++([((s.data.toList.getD (Int.toNat (w64 (i+1))) 0).toNat:Int)]:List Int)) (w64 ((w64 (i+1))+1)) (wk [0] (tO rfl (tl eqA) .nil) (s1 (s1 (s1 (sv (to 0 lnA) (s1 .nil)))))) omA ⟨m,by exact omA,foll hR (congrArg (fun p:(List Int) × Int=>QT3 s p.1 p.2) (ct h3 (ct h5 rfl))),by exact exA⟩
   ·refine ai gkA ?_;refine Or.inl ?_;(first|refine ⟨QK1 1 rfl lnA apA,?_⟩|refine ⟨QR0 1 rfl apA,?_⟩);exact Q80 (out++([((s.data.toList.getD (Int.toNat i) 0).toNat:Int)]:List Int)) (w64 (i+1)) (wk [0] (tO rfl (tl eqA) .nil) (s1 (s1 (s1 (sv (to 0 lnA) (s1 .nil)))))) omA ⟨m,by exact omA,foll hR (congrArg (fun p:(List Int) × Int=>QT3 s p.1 p.2) (ct h3 (cf h6 rfl))),by exact exA⟩
  ·have qh4:=of_decide_eq_false h4;replace hR:QT3 s out i=R:=fo2 (fun p:(List Int) × Int=>QT3 s p.1 p.2) (out,i) hR (cf h4 rfl);(first|refine ⟨out,by exact cvA,?_⟩|refine ⟨_,fun _=>⟨out,by exact cvA,rfl,rfl⟩,?_⟩|refine ⟨_,rfl,⟨out,by exact cvA,Sub.refl _,rfl⟩,?_⟩);refine us (ref04_Quote_c (QN2 out) szA _) ?_;refine ai (fun h7=>?_) (fun h8=>?_)
   ·obtain rfl:=foll hR (ct h7 rfl);exact Q00 (Low.tup' (l1 (l1 .nil))) (Seen.tup (e1 (e1 .nil)))
   ·(first|refine ⟨out,by exact cvA,?_⟩|refine ⟨_,fun _=>⟨out,by exact cvA,rfl,rfl⟩,?_⟩|refine ⟨_,rfl,⟨out,by exact cvA,Sub.refl _,rfl⟩,?_⟩);obtain rfl:=foll hR (cf h8 rfl);exact Q00 (Low.tup' (l1 (l1 .nil))) (Seen.tup (e1 (e1 .nil)))
def Qy1 (s:Shape) (choice:Int):Int:=bif ((decide (choice<0))||(decide (choice >= ((Q40 s).length:Int)))) then 0 else ((Q40 s).getD (Int.toNat choice) Alt.zero).wall
theorem Qja (s:Shape) (choice:Int) (hs0:s.sz):GV 156 [Shape.a s,I choice] (I (Qy1 s choice)):=by
 generalize hR:Qy1 s choice=R;refine ga (.cons (Shape.low _ _) (l1 .nil)) lx (kp 6 [15]) Tryz.func156 ?_;have hk0:=hs0;obtain z3:s.alts.length<=4294967296:=hs0;have hf0:=QS5 s hk0;refine us (Qx4 s szA _) ?_;refine ai (fun h1=>?_) (fun h2=>?_)
 ·obtain rfl:=foll hR (ct h1 rfl);exact Q00 lx sr
 ·refine ai gkA ?_;obtain rfl:=foll hR (cf h2 rfl);exact Q00 lx sr
def Qv5 (s:Shape) (choice:Int) (n:Int):List Alt->Nat->Bool
 | [],_=>false
 | x_ :: r,i=>bif ((x_.nodes==n)&&(((i:Int)==choice)||(s.kind==3))) then true else Qv5 s choice n r (i+1)
def Qv7 (s:Shape) (choice:Int) (n:Int):Bool:=bif ((decide (choice<0))||(decide (choice >= ((Q40 s).length:Int)))) then false else Qv5 s choice n (Q40 s) 0
theorem ref07_Allows_c (s:Shape) (choice:Int) (n:Int) (hs0:s.sz):GV 186 [Shape.a s,I choice,I n] (Bo (Qv7 s choice n)):=by
 generalize hR:Qv7 s choice n=R;refine ga (.cons (Shape.low _ _) (l1 (l1 .nil))) lx (kp 9 [18,22,41]) Tryz.func186 ?_;have hk0:=hs0;obtain z7:s.alts.length<=4294967296:=hs0;have hf0:=QS5 s hk0;refine us (Qx4 s szA _) ?_;refine ai (fun h1=>?_) (fun h2=>?_)
 ·obtain rfl:=foll hR (ct h1 rfl);exact Q00 lx sr
 ·refine Qf0 (fun (i:Nat)=>Qv5 s choice n (List.drop i (Q40 s)) i=R∧i<=(Q40 s).length) (fun i=>(Q40 s).length - i) (fun i=>[(1,I choice),(2,I n),(3,AVal.ptr 0 0 5 0 0),(6,Bo false),(7,altL (Q40 s)),(8,I (i:Int))]) (fun i=>[(0,AObj.row 31 5 [[I s.kind,altL s.alts,I s.min,I s.max,I s.wall]])]) 0 (wk [0] (tO rfl (ts Shape.lo) .nil) (s1 (s1 (sv (Q20 0 rfl rfl) (s1 (sl lw (s1 .nil))))))) ⟨foll hR (cf h2 rfl),by exact omA⟩ ?_;clear hR;rintro i ⟨hR,hj⟩;(try dsimp only at hR hj);refine ai (fun h3=>?_) (fun h4=>?_)
  ·have hlt:=ltA h3;rw [Q90 Alt.zero hlt] at hR;refine ai gkA ?_;refine ai (fun h5=>?_) (fun h6=>?_)
   ·obtain rfl:=foll hR (ct h5 rfl);exact Q00 lx sr
   ·exact Qj0 (i+1) (wk [0] (tO rfl (ts Shape.lo) .nil) (s1 (s1 (sv (Q20 0 rfl rfl) (s1 (sl lw (sv (Q70 (I_eq (wr omA)) lx) .nil))))))) omA ⟨foll hR (cf h6 rfl),by exact omA⟩
  ·rw [Qa0 (l:=(Q40 s)) (j:=i) (geA h4)] at hR;obtain rfl:=foll hR rfl;exact Q00 lx sr
def Q50 (j:Job):Int × Int × Int × Bool:=bif ((j.state != 1)||(j.promise==(-1))) then (0,0,0,false) else (j.promise,(w64 (((Q40 j.shape).getD (Int.toNat j.choice) Alt.zero).wall+12)),((Q40 j.shape).getD (Int.toNat j.choice) Alt.zero).nodes,true)
theorem QMf (j:Job) (hs0:j.sz) (hp0:((j.state != 1)||(j.promise==(-1)))=false->0<=j.choice∧j.choice<((Q40 j.shape).length:Int)):GV 56 [Job.a j] (AVal.tup [I ((Q50 j).1),I ((Q50 j).2.1),I ((Q50 j).2.2.1),Bo ((Q50 j).2.2.2)]):=by
 generalize hR:Q50 j=R;refine ga (.cons (Job.low _ _) .nil) (Low.tup' (l1 (l1 (l1 (l1 .nil))))) (kp 7 [14]) Tryz.func56 ?_;obtain ⟨z3,z4,z5,z6,z7⟩:=Job.zz hs0;refine ai (fun h1=>?_) (fun h2=>?_)
 ·obtain rfl:=foll hR (ct h1 rfl);exact Q00 (Low.tup' (l1 (l1 (l1 (l1 .nil))))) (Seen.tup (e1 (e1 (e1 (e1 .nil)))))
 ·refine dchk (by kernel_rfl) ?_;(first|apply u2|apply u3|apply u4|apply us);exact Qx4 j.shape szA _;refine And.intro (by first|exact fun hg=>decide_eq_true (by first|((have q:=hp0 (by assumption);omega))|exact ckA)|exact gkA) ?_;(repeat ((first|refine ai rfl ?_|refine ai (fun _=>rfl) ?_|refine ai (fun _=>Qx4 j.shape szA _) ?_)));(try (refine dchk (by kernel_rfl) ?_));(repeat ((first|refine ai rfl ?_|refine ai (fun _=>rfl) ?_)));obtain rfl:=foll hR (cf h2 rfl);exact Q00 (Low.tup' (l1 (l1 (l1 (l1 .nil))))) (Seen.tup (e1 (e1 (e1 (e1 .nil)))))
def Qb2 (p_:List Step) (from_:Int) (to_:Int) (n:Int):(List Step):=bif ((Qg2 p_ from_ to_ (w64 (0 - n))).2 != 0) then p_ else (Qg2 p_ from_ to_ (w64 (0 - n))).1
theorem Qy8 (p_:List Step) (from_:Int) (to_:Int) (n:Int) (hs0:p_.length<=4294967296):GV 123 [stepL p_,I from_,I to_,I n] (stepL (Qb2 p_ from_ to_ n)):=by
 generalize hR:Qb2 p_ from_ to_ n=R;refine ga (.cons lw (l1 (l1 (l1 .nil)))) lw (kp 11 [21]) Tryz.func123 ?_;have hk0:=hs0;obtain z3:p_.length<=4294967296:=hs0;refine us (ref10_Add_c p_ from_ to_ (w64 (0 - n)) szA _) ?_;refine ai (fun h1=>?_) (fun h2=>?_)
 ·obtain rfl:=foll hR (ct h1 rfl);exact Q00 lw sr
 ·obtain rfl:=foll hR (cf h2 rfl);exact Q00 lw sr
theorem ref10_Add_len (p:List Step) (f t n:Int):(Qg2 p f t n).1.length<=4294967296:=by
 have k2:∀ c i,(Q53 c i).1.length<=4294967296:=by
  intro c i
  unfold Q53
  cases h:((QA0 c)!=0) with
  | true=>simp
  | false=>have:=QM6 h;simp only [cond_false];omega
 unfold Qg2 Qz6
 repeat' first|exact k2 _ _|(simp;done)|(rw [Bool.cond_eq_ite];split)
theorem QI6 {p:List Step} {f t n:Int} (h:p.length<=4294967296):(Qb2 p f t n).length<=4294967296:=by
 unfold Qb2
 repeat' first|exact h|exact ref10_Add_len _ _ _ _|(rw [Bool.cond_eq_ite];split)
theorem Qma (n:Int):(Qc5 n).length<=4294967296:=by
 unfold Qc5 QN6
 repeat' first|(simp;done)|(rw [Bool.cond_eq_ite];split)
end Go.Proofs.YtjpgfmbccohngaaGreatDoor
namespace Go.Proofs.YtjpgfmbccohngaaGreatDoor
set_option linter.unusedSimpArgs false
set_option linter.unusedVariables false
open Go.Fw
set_option maxRecDepth 20000
set_option maxHeartbeats 4000000
attribute [local irreducible] ACalls AMoves
def QA4 (p_:List Step) (long:Int) (nodes:Int) (from_1:Int):List Step->Nat->Int × Bool
 | [],_=>(0,false)
 | x_ :: r,i=>bif ((decide (x_.at_ > from_1))&&(Q62 p_ x_.at_ long nodes)) then (x_.at_,true) else QA4 p_ long nodes from_1 r (i+1)
def QB4 (p_:List Step) (long:Int) (nodes:Int) (from_1:Int):Int × Bool:=bif (Q62 p_ from_1 long nodes) then (from_1,true) else QA4 p_ long nodes from_1 p_ 0
def Qv0 (p_:List Step) (from_:Int) (long:Int) (nodes:Int):Int × Bool:=bif (decide (from_<0)) then QB4 p_ long nodes 0 else QB4 p_ long nodes from_
theorem Q6e (p_:List Step) (from_:Int) (long:Int) (nodes:Int) (hs0:p_.length<=4294967296):GV 188 [stepL p_,I from_,I long,I nodes] (AVal.tup [I ((Qv0 p_ from_ long nodes).1),Bo ((Qv0 p_ from_ long nodes).2)]):=by
 generalize hR:Qv0 p_ from_ long nodes=R;refine ga (.cons lw (l1 (l1 (l1 .nil)))) (Low.tup' (l1 (l1 .nil))) (kj [1000003] 11 [12,17,22,42]) Tryz.func188 ?_;have hk0:=hs0;obtain z9:p_.length<=4294967296:=hs0;refine Qr1 (fun (from_1:Int)=>QB4 p_ long nodes from_1=R) (fun from_1=>[(0,stepL p_),(1,I from_1),(2,I long),(3,I nodes),(8,I 0),(9,Bo false)]) (fun from_1=>[]) ?_ ?_
 ·clear hR;rintro from_1 hR;(try dsimp only at hR);refine us (QMd p_ from_1 long nodes szA _) ?_;refine ai (fun h1=>?_) (fun h2=>?_)
  ·obtain rfl:=foll hR (ct h1 rfl);exact Q00 (Low.tup' (l1 (l1 .nil))) (Seen.tup (e1 (e1 .nil)))
  ·refine Qf0 (fun (i:Nat)=>QA4 p_ long nodes from_1 (List.drop i p_) i=R∧i<=p_.length) (fun i=>p_.length - i) (fun i=>[(0,stepL p_),(1,I from_1),(2,I long),(3,I nodes),(8,I 0),(9,Bo false),(10,I (i:Int))]) (fun i=>[]) 0 (wk [] .nil (sl lw (s1 (s1 (s1 (s1 (s1 (s1 .nil)))))))) ⟨foll hR (cf h2 rfl),by exact omA⟩ ?_;clear hR;rintro i ⟨hR,hj⟩;(try dsimp only at hR hj);refine ai (fun h3=>?_) (fun h4=>?_)
   ·have hlt:=ltA h3;rw [Q90 Step.zero hlt] at hR;refine ai gkA ?_;refine ai gkA ?_;(first|apply u2|apply u3|apply u4|apply us);exact QMd p_ ((p_.getD i Step.zero).at_) long nodes szA _;refine ai (fun h5=>?_) (fun h6=>?_)
    ·refine ai gkA ?_;obtain rfl:=foll hR (ct h5 rfl);exact Q00 (Low.tup' (l1 (l1 .nil))) (Seen.tup (e1 (e1 .nil)))
    ·exact Qj0 (i+1) (wk [] .nil (sl lw (s1 (s1 (s1 (s1 (s1 (sv (Q70 (I_eq (wr omA)) lx) .nil)))))))) omA ⟨foll hR (cf h6 rfl),by exact omA⟩
   ·rw [Qa0 (l:=p_) (j:=i) (geA h4)] at hR;obtain rfl:=foll hR rfl;exact Q00 (Low.tup' (l1 (l1 .nil))) (Seen.tup (e1 (e1 .nil)))
 ·refine ai (fun h7=>?_) (fun h8=>?_)
  ·have qh7:=of_decide_eq_true h7;exact Qb0 0 (wk [] .nil (sl lw (s1 (s1 (s1 (s1 (s1 .nil))))))) (foll hR (ct h7 rfl))
  ·have qh8:=of_decide_eq_false h8;exact Qb0 from_ (wk [] .nil (sl lw (s1 (s1 (s1 (s1 (s1 .nil))))))) (foll hR (cf h8 rfl))
def QX2 (user:ByteArray):List Usage->List Int->Nat->(List Int) × Nat
 | [],out,i=>(out,i)
 | x_ :: r,out,i=>bif (ByteArray.toList x_.user==ByteArray.toList user) then QX2 user r (out++([x_.share]:List Int)) (i+1) else QX2 user r out (i+1)
def Qj4 (out:List Int) (i:Nat):Int:=(QFa out)
def Qi4 (l:List Usage) (user:ByteArray):Int:=bif ((Qz5 l)!=0) then 0 else Qj4 ((QX2 user l [] 0).1) ((QX2 user l [] 0).2)
theorem Qhc (l:List Usage) (user:ByteArray) (hs0:l.length<=4294967296∧(∀ y ∈ l,y.sz)) (hs1:user.size<=4294967296):GV 212 [QU2 l,Sg user] (I (Qi4 l user)):=by
 generalize hR:Qi4 l user=R;refine ga (.cons lw (l1 .nil)) lx (kp 7 [9,13,22]) Tryz.func212 ?_;obtain ⟨z9,z10⟩:=id hs0;have hk1:=hs1;obtain z11:user.size<=4294967296:=hs1;refine us (Qgc l szA _) ?_;refine ai (fun h1=>?_) (fun h2=>?_)
 ·obtain rfl:=foll hR (ct h1 rfl);exact Q00 lx sr
 ·refine Qg0 (fun (out:List Int) (i:Nat)=>Qj4 (QX2 user (List.drop i l) out i).1 (QX2 user (List.drop i l) out i).2=R∧i<=l.length∧out.length<=i) (fun out i=>l.length - i) (fun out i=>[(0,QU2 l),(1,Sg user),(4,I 0),(5,AVal.own 0 0 1 0 out.length),(6,I (i:Int))]) (fun out i=>[(0,AObj.row 3 1 (out.map (fun q_=>[I q_])))]) [] 0 ((Qh1 3 1).trans (wk [0] (tO rfl (tl eqA) .nil) (sl lw (s1 (s1 (sv (QV0 0 rfl) (s1 .nil))))))) ⟨foll hR (cf h2 rfl),by exact omA,by exact exA⟩ ?_;clear hR;rintro out i ⟨hR,hj,hx⟩;(try dsimp only at hR hj hx);refine ai (fun h3=>?_) (fun h4=>?_)
  ·have hlt:=ltA h3;rw [Q90 Usage.zero hlt] at hR;have hxz:(l.getD i Usage.zero).sz:=Q72 (by first|assumption|grind) (Usage.szz _);have hkz:=hxz;obtain ⟨z5,z6⟩:=Usage.zz hxz;refine ai gkA ?_;refine ai (fun h7=>?_) (fun h8=>?_)
   ·refine ai gkA ?_;refine Or.inl ?_;(first|refine ⟨QK1 8 rfl lnA apA,?_⟩|refine ⟨QR0 8 rfl apA,?_⟩);exact Q80 (out++([(l.getD i Usage.zero).share]:List Int)) (i+1) (wk [0] (tO rfl (tl eqA) .nil) (sl lw (s1 (s1 (sv (to 0 lnA) (sv (Q70 (I_eq (wr omA)) lx) .nil)))))) omA ⟨foll hR (congrArg (fun p:(List Int) × Nat=>Qj4 p.1 p.2) (ct h7 rfl)),by exact omA,by exact exA⟩
   ·exact Q80 out (i+1) (wk [0] (tO rfl (tl eqA) .nil) (sl lw (s1 (s1 (sv (to 0 lnA) (sv (Q70 (I_eq (wr omA)) lx) .nil)))))) omA ⟨foll hR (congrArg (fun p:(List Int) × Nat=>Qj4 p.1 p.2) (cf h8 rfl)),by exact omA,by exact exA⟩
  ·rw [Qa0 (l:=l) (j:=i) (geA h4)] at hR;replace hR:Qj4 out i=R:=fo2 (fun p:(List Int) × Nat=>Qj4 p.1 p.2) (out,i) hR rfl;refine us (AGives.lent (ref01_Plus_c out szA []) (ev (QT0 _ _ rfl eqA lnA) .nil) (.cons lw .nil) (Qi9 rfl)) ?_;obtain rfl:=foll hR rfl;exact Q00 lx sr
def Qw7 (l:List Job):List Dep->Nat->Bool
 | [],_=>true
 | x_ :: r,i=>bif (!(Q99 l x_)) then false else Qw7 l r (i+1)
def Q89 (l:List Job) (j:Job):Bool:=Qw7 l j.after 0
theorem ref16_all_c (l:List Job) (j:Job) (hs0:l.length<=4294967296∧(∀ y ∈ l,y.sz)) (hs1:j.sz):GV 155 [jobL l,Job.a j] (Bo (Q89 l j)):=by
 generalize hR:Q89 l j=R;refine ga (.cons lw (.cons (Job.low _ _) .nil)) lx (kp 6 [10,20]) Tryz.func155 ?_;obtain ⟨z5,z6⟩:=id hs0;obtain ⟨z7,z8,z9,z10,z11⟩:=Job.zz hs1;refine Qf0 (fun (i:Nat)=>Qw7 l (List.drop i j.after) i=R∧i<=j.after.length) (fun i=>j.after.length - i) (fun i=>[(0,jobL l),(3,AVal.ptr 0 0 20 0 0),(4,Bo false),(5,I (i:Int))]) (fun i=>[(0,AObj.row 35 20 [[I j.id,Sg j.name,Sg j.user,Sg j.account,I j.shape.kind,altL j.shape.alts,I j.shape.min,I j.shape.max,I j.shape.wall,I j.prio,depL j.after,I j.state,Bo j.held,I j.born,I j.promise,I j.choice,I j.start,I j.limit,U j.nodes,I j.used]])]) 0 (wk [0] (tO rfl (ts Job.lo) .nil) (sl lw (sv (Q20 0 rfl rfl) (s1 (s1 .nil))))) ⟨foll hR rfl,by exact omA⟩ ?_;clear hR;rintro i ⟨hR,hj⟩;(try dsimp only at hR hj);refine ai (fun h1=>?_) (fun h2=>?_)
 ·have hlt:=ltA h1;rw [Q90 Dep.zero hlt] at hR;refine ai gkA ?_;refine us (ref16_met_c l (j.after.getD i Dep.zero) szA _) ?_;refine ai (fun h3=>?_) (fun h4=>?_)
  ·obtain rfl:=foll hR (ct h3 rfl);exact Q00 lx sr
  ·exact Qj0 (i+1) (wk [0] (tO rfl (ts Job.lo) .nil) (sl lw (sv (Q20 0 rfl rfl) (s1 (sv (Q70 (I_eq (wr omA)) lx) .nil))))) omA ⟨foll hR (cf h4 rfl),by exact omA⟩
 ·rw [Qa0 (l:=j.after) (j:=i) (geA h2)] at hR;obtain rfl:=foll hR rfl;exact Q00 lx sr
def QO7 (b:List Job):List Job->Nat->Bool
 | [],_=>true
 | x_ :: r,i=>bif (!(QU7 x_ (b.getD i Job.zero))) then false else QO7 b r (i+1)
def QHa (a:List Job) (b:List Job):Bool:=bif ((a.length:Int)!=(b.length:Int)) then false else QO7 b a 0
theorem QPd (a:List Job) (b:List Job) (hs0:a.length<=4294967296∧(∀ y ∈ a,y.sz)) (hs1:b.length<=4294967296∧(∀ y ∈ b,y.sz)):GV 28 [jobL a,jobL b] (Bo (QHa a b)):=by
 generalize hR:QHa a b=R;refine ga (.cons lw (.cons lw .nil)) lx (kp 6 [10,14,26]) Tryz.func28 ?_;obtain ⟨z12,z13⟩:=id hs0;obtain ⟨z14,z15⟩:=id hs1;refine ai (fun h1=>?_) (fun h2=>?_)
 ·obtain rfl:=foll hR (ct h1 rfl);exact Q00 lx sr
 ·refine Qf0 (fun (i:Nat)=>QO7 b (List.drop i a) i=R∧i<=a.length) (fun i=>a.length - i) (fun i=>[(0,jobL a),(1,jobL b),(4,Bo false),(5,I (i:Int))]) (fun i=>[]) 0 (wk [] .nil (sl lw (sl lw (s1 (s1 .nil))))) ⟨foll hR (cf h2 rfl),by exact omA⟩ ?_;clear hR;rintro i ⟨hR,hj⟩;(try dsimp only at hR hj);refine ai (fun h3=>?_) (fun h4=>?_)
  ·have hlt:=ltA h3;rw [Q90 Job.zero hlt] at hR;have hxz:(a.getD i Job.zero).sz:=Q72 (by first|assumption|grind) (Job.szz _);have hkz:=hxz;obtain ⟨z5,z6,z7,z8,z9⟩:=Job.zz hxz;refine dchk (by kernel_rfl) ?_;refine ai gkA ?_;refine ai gkA ?_;(first|apply u2|apply u3|apply u4|apply us);exact QNd (a.getD i Job.zero) (b.getD i Job.zero) szA szA _;(repeat ((first|refine ai rfl ?_|refine ai (fun _=>rfl) ?_|refine ai (fun _=>QNd (a.getD i Job.zero) (b.getD i Job.zero) szA szA _) ?_)));refine ai (fun h10=>?_) (fun h11=>?_)
   ·obtain rfl:=foll hR (ct h10 rfl);exact Q00 lx sr
   ·exact Qj0 (i+1) (wk [] .nil (sl lw (sl lw (s1 (sv (Q70 (I_eq (wr omA)) lx) .nil))))) omA ⟨foll hR (cf h11 rfl),by exact omA⟩
  ·rw [Qa0 (l:=a) (j:=i) (geA h4)] at hR;obtain rfl:=foll hR rfl;exact Q00 lx sr
end Go.Proofs.YtjpgfmbccohngaaGreatDoor
namespace Go.Proofs.YtjpgfmbccohngaaGreatDoor
set_option linter.unusedSimpArgs false
set_option linter.unusedVariables false
open Go.Fw
set_option maxRecDepth 20000
set_option maxHeartbeats 4000000
attribute [local irreducible] ACalls AMoves
def Qa2 :Nat->LexReader->Bool->LexReader × Bool
 | 0,_,_=>(LexReader.zero,false)
 | m+1,c,c2=>bif ((decide (c.at_<(c.line.length:Int)))&&(Qo1 (c.line.getD (Int.toNat c.at_) 0) c2).1) then Qa2 m { c with at_:=(w64 (c.at_+1)) } (bif (decide (c.at_<(c.line.length:Int))) then (Qo1 (c.line.getD (Int.toNat c.at_) 0) c2).2 else c2) else (c,(bif (decide (c.at_<(c.line.length:Int))) then (Qo1 (c.line.getD (Int.toNat c.at_) 0) c2).2 else c2))
def QB2 (r_:LexReader) (c:LexReader) (c2:Bool):Token × LexReader:=bif (c.at_==(c.line.length:Int)) then (Token.zero,(QS0 c r_.at_ 50)) else bif ((c.line.getD (Int.toNat c.at_) 0)!=34) then (Token.zero,(QS0 c c.at_ 40)) else bif ((Qh3 (runesBytes (List.drop (Int.toNat r_.at_) (List.take (Int.toNat (w64 (c.at_+1))) c.line)))).2 != 0) then ((⟨4,(Qh3 (runesBytes (List.drop (Int.toNat r_.at_) (List.take (Int.toNat (w64 (c.at_+1))) c.line)))).1,0,0⟩:Token),(QS0 { c with at_:=(w64 (c.at_+1)) } r_.at_ ((Qh3 (runesBytes (List.drop (Int.toNat r_.at_) (List.take (Int.toNat (w64 (c.at_+1))) c.line)))).2))) else ((⟨4,(Qh3 (runesBytes (List.drop (Int.toNat r_.at_) (List.take (Int.toNat (w64 (c.at_+1))) c.line)))).1,0,0⟩:Token),{ c with at_:=(w64 (c.at_+1)) })
def QW1 (r_:LexReader):Token × LexReader:=QB2 r_ ((Qa2 ((Int.toNat ((r_.line.length:Int) - r_.at_))+1) r_ true).1) ((Qa2 ((Int.toNat ((r_.line.length:Int) - r_.at_))+1) r_ true).2)
theorem QUc (r_:LexReader) (hs0:r_.sz) (hp0:0<=r_.at_∧r_.at_<(r_.line.length:Int)∧r_.line.length<=400):AMoves Tryz.prog 299 [AVal.ptr 0 0 4 0 0] [(0,AObj.row 273 4 [[runes r_.line,I r_.at_,I r_.bad,I r_.error]])] 1 (Token.a ((QW1 r_).1)) [(0,AObj.row 273 4 [[runes ((QW1 r_).2.line),I ((QW1 r_).2.at_),I ((QW1 r_).2.bad),I ((QW1 r_).2.error)]])]:=by
 generalize hR:QW1 r_=R;refine mo (kp 7 [23,38,69]) Tryz.func299 ?_;have hk0:=hs0;obtain z9:r_.line.length<=4294967296:=hs0;refine ACalls.of_cwp (fun _=>true) Tryz.func283 rfl rfl ?_;refine Qg0 (fun (c:LexReader) (c2:Bool)=>∃ m,(Int.toNat ((c.line.length:Int) - c.at_))<m∧QB2 r_ (Qa2 m c c2).1 (Qa2 m c c2).2=R∧0<=c.at_∧c.at_<=(c.line.length:Int)∧c.line.length<=400∧r_.at_<=c.at_∧0<=r_.at_) (fun c c2=>(Int.toNat ((c.line.length:Int) - c.at_))) (fun c c2=>[(0,AVal.ptr 0 0 4 0 0),(1,AVal.fn (.func 314) [] [AVal.ptr 2 0 1 0 0]),(4,Sg ⟨#[]⟩),(5,I r_.at_)]) (fun c c2=>[(0,AObj.row 273 4 [[runes c.line,I c.at_,I c.bad,I c.error]]),(0,AObj.row 221 4 [[I 0,Sg ⟨#[]⟩,I 0,I 0]]),(0,AObj.row 4 1 [[Bo c2]])]) r_ true (wk [0,1,2] (tO rfl (ts LexReader.lo) (tO rfl (ts Token.lo) (tO rfl (ts (l1 LowL.nil)) .nil))) (sv (Q20 0 rfl rfl) (sv (Q31 .nil (cv (Q20 2 rfl rfl) .nil)) (s1 (s1 .nil))))) ⟨_,Nat.lt_succ_self _,foll hR rfl,by exact exA⟩ ?_;clear hR;rintro c c2 ⟨m,hm,hR,hx⟩;(try dsimp only at hR hm hx);obtain ⟨m,rfl⟩:=sucA m;refine dchk (by kernel_rfl) ?_;refine ai gkA ?_;refine ⟨_,[(0,AObj.row 273 4 [[runes c.line,I c.at_,I c.bad,I c.error]]),(0,AObj.row 221 4 [[I 0,Sg ⟨#[]⟩,I 0,I 0]]),(0,AObj.row 4 1 [[Bo (bif (decide (c.at_<(c.line.length:Int))) then (Qo1 (c.line.getD (Int.toNat c.at_) 0) c2).2 else c2)]])],fun hg=>(by rw [show (decide (c.at_<(c.line.length:Int)))=true from hg];exact mv [2] (QOa (c.line.getD (Int.toNat c.at_) 0) c2) (dO (ds (l1 LowL.nil)) .nil) (d1 (dp .nil)) (rO (re (l1 LowL.nil)) .nil) rx),fun hg=>(by rw [show (decide (c.at_<(c.line.length:Int)))=false from hg];rfl),?_⟩;(repeat ((first|refine ai rfl ?_|refine ai (fun _=>rfl) ?_)));refine ai (fun h1=>?_) (fun h2=>?_)
 ·have hq1:=of_decide_eq_true ((Bool.and_eq_true _ _).mp h1).1;have hwr:w64 (c.at_+1)=c.at_+1:=wr (by omega);exact Q80 { c with at_:=(w64 (c.at_+1)) } (bif (decide (c.at_<(c.line.length:Int))) then (Qo1 (c.line.getD (Int.toNat c.at_) 0) c2).2 else c2) (wk [0,1,2] (tO rfl (ts LexReader.lo) (tO rfl (ts Token.lo) (tO rfl (ts (l1 LowL.nil)) .nil))) (sv (Q20 0 rfl rfl) (sv (Q31 .nil (cv (Q20 2 rfl rfl) .nil)) (s1 (s1 .nil))))) omA ⟨m,by exact omA,foll hR (congrArg (fun p:LexReader × Bool=>QB2 r_ p.1 p.2) (ct h1 rfl)),by exact exA⟩
 ·replace hR:QB2 r_ c (bif (decide (c.at_<(c.line.length:Int))) then (Qo1 (c.line.getD (Int.toNat c.at_) 0) c2).2 else c2)=R:=fo2 (fun p:LexReader × Bool=>QB2 r_ p.1 p.2) (c,(bif (decide (c.at_<(c.line.length:Int))) then (Qo1 (c.line.getD (Int.toNat c.at_) 0) c2).2 else c2)) hR (cf h2 rfl);refine dchk (by kernel_rfl) ?_;refine ai gkA ?_;(first|refine ⟨(List.drop (Int.toNat r_.at_) (List.take (Int.toNat c.at_) c.line)),by exact cvA,?_⟩|refine ⟨_,fun _=>⟨(List.drop (Int.toNat r_.at_) (List.take (Int.toNat c.at_) c.line)),by exact cvA,rfl,rfl⟩,?_⟩|refine ⟨_,rfl,⟨(List.drop (Int.toNat r_.at_) (List.take (Int.toNat c.at_) c.line)),by exact cvA,Sub.refl _,rfl⟩,?_⟩);(repeat ((first|refine ai rfl ?_|refine ai (fun _=>rfl) ?_)));refine ⟨_,_,Told.refl,?_⟩;refine dchk (by kernel_rfl) ?_;(repeat ((first|refine ai rfl ?_|refine ai (fun _=>rfl) ?_)));refine ai (fun h3=>?_) (fun h4=>?_)
  ·refine us (mv [0] (Qy3 c r_.at_ 50) (dO (ds LexReader.lo) .nil) (dp (d1 (d1 .nil))) (rO (re LexReader.lo) .nil) rx) ?_;obtain rfl:=foll hR (ct h3 rfl);exact rq (tt [0] (tO rfl (ts LexReader.lo) .nil) (Qa1 (Low.agg' (Token.lo))))
  ·refine dchk (by kernel_rfl) ?_;refine ai gkA ?_;(repeat ((first|refine ai rfl ?_|refine ai (fun _=>rfl) ?_)));refine ai (fun h5=>?_) (fun h6=>?_)
   ·refine us (mv [0] (Qy3 c c.at_ 40) (dO (ds LexReader.lo) .nil) (dp (d1 (d1 .nil))) (rO (re LexReader.lo) .nil) rx) ?_;obtain rfl:=foll hR (cf h4 (ct h5 rfl));exact rq (tt [0] (tO rfl (ts LexReader.lo) .nil) (Qa1 (Low.agg' (Token.lo))))
   ·refine dchk (by kernel_rfl) ?_;refine ai gkA ?_;(first|refine ⟨(List.drop (Int.toNat r_.at_) (List.take (Int.toNat (w64 (c.at_+1))) c.line)),by exact cvA,?_⟩|refine ⟨_,fun _=>⟨(List.drop (Int.toNat r_.at_) (List.take (Int.toNat (w64 (c.at_+1))) c.line)),by exact cvA,rfl,rfl⟩,?_⟩|refine ⟨_,rfl,⟨(List.drop (Int.toNat r_.at_) (List.take (Int.toNat (w64 (c.at_+1))) c.line)),by exact cvA,Sub.refl _,rfl⟩,?_⟩);(first|apply u2|apply u3|apply u4|apply us);exact Qpa (runesBytes (List.drop (Int.toNat r_.at_) (List.take (Int.toNat (w64 (c.at_+1))) c.line))) szA (by refine Nat.le_trans (QT6 _) ?_;simp only [List.length_drop,List.length_take];omega) _;(repeat ((first|refine ai rfl ?_|refine ai (fun _=>rfl) ?_|refine ai (fun _=>Qpa (runesBytes (List.drop (Int.toNat r_.at_) (List.take (Int.toNat (w64 (c.at_+1))) c.line))) szA (by refine Nat.le_trans (QT6 _) ?_;simp only [List.length_drop,List.length_take];omega) _) ?_)));refine ai (fun h7=>?_) (fun h8=>?_)
    ·refine us (mv [0] (Qy3 { c with at_:=(w64 (c.at_+1)) } r_.at_ ((Qh3 (runesBytes (List.drop (Int.toNat r_.at_) (List.take (Int.toNat (w64 (c.at_+1))) c.line)))).2)) (dO (ds LexReader.lo) .nil) (dp (d1 (d1 .nil))) (rO (re LexReader.lo) .nil) rx) ?_;obtain rfl:=foll hR (cf h4 (cf h6 (ct h7 rfl)));exact rq (tt [0] (tO rfl (ts LexReader.lo) .nil) (Qa1 (Low.agg' (Token.lo))))
    ·obtain rfl:=foll hR (cf h4 (cf h6 (cf h8 rfl)));exact rq (tt [0] (tO rfl (ts LexReader.lo) .nil) (Qa1 (Low.agg' (Token.lo))))
def QF5 (min max wall:Int):List Alt:=(List.range (max - min+1).toNat).map fun (i:Nat)=>(⟨max - (i:Int),wall⟩:Alt)
def QH0 (s:Shape):List Alt:=bif QX1 s != 0 then [] else bif s.kind==3 then s.alts++QF5 s.min s.max s.wall else s.alts
theorem Qi8 {s:Shape} (h:(QX1 s != 0)=false) (hk:(s.kind==3)=true):1<=s.min∧s.min<=s.max∧s.max<=48:=by
 have hk':s.kind=3:=by simpa using hk
 simp only [QX1,hk'] at h
 revert h
 cases h2:(((((s.alts.length:Int)==0)&&(decide (s.min<=s.max)))&&(Q91 (⟨s.min,s.wall⟩:Alt)))&&(decide (s.max<=48))) with
 | false=>simp [h2,QZ1]
 | true =>
  intro _
  simp [Q91] at h2
  omega
theorem QZf (lo hi wall:Int):((QJ5 hi (hi - lo+1).toNat).map fun (n:Int)=>(⟨n,wall⟩:Alt))=QF5 lo hi wall:=by
 simp [QJ5,QF5,List.map_map,Function.comp_def]
theorem QD4 (s:Shape) (hs0:s.sz):GV 48 [Shape.a s] (altL (QH0 s)):=by
 generalize hR:QH0 s=R;refine ga (.cons (Shape.low _ _) .nil) lw (kp 4 [7,13,18]) Tryz.func48 ?_;have hk0:=hs0;obtain z7:s.alts.length<=4294967296:=hs0;refine us (Qrc s szA _) ?_;refine ai (fun h1=>?_) (fun h2=>?_)
 ·obtain rfl:=foll hR (ct h1 rfl);exact Q00 lw Qq0
 ·refine us (mv [] (Qtc s.alts szA) .nil (dv (Qp7 (Alt.lows _ _)) .nil) (rO rr .nil) (rw_ 1 0 rfl)) ?_;refine ai (fun h3=>?_) (fun h4=>?_)
  ·refine us (r:=.fn (.func 173) [] [.ptr 4 0 1 0 0,.ptr 3 0 1 0 0]) (o:=[(0,.row 31 5 [[I s.kind,altL s.alts,I s.min,I s.max,I s.wall]]),(0,.row 121 2 (s.alts.map Alt.cells)),(0,.row 29 1 [[.own 1 0 2 0 s.alts.length]]),(0,.row 3 1 [[I s.min]]),(0,.row 3 1 [[I s.max]])]) (ACalls.of_cwp (fun _=>true) Tryz.func111 rfl rfl ?_) ?_
   ·exact ⟨_,_,told_same,rfl,rfl⟩
   obtain ⟨q1,q2,q3⟩:=Qi8 h2 h3;refine range_next (α:=Int) (fun n=>.int .i64 n) (QJ5 s.max (s.max - s.min+1).toNat) (fun xs=>[(0,.row 31 5 [[I s.kind,altL s.alts,I s.min,I s.max,I s.wall]]),(0,.row 121 2 ((s.alts++xs.map fun (n:Int)=>(⟨n,s.wall⟩:Alt)).map Alt.cells)),(0,.row 29 1 [[.own 1 0 2 0 (s.alts++xs.map fun (n:Int)=>(⟨n,s.wall⟩:Alt)).length]]),(0,.row 3 1 [[I s.min]]),(0,.row 3 1 [[I s.max]])])
    (by simp) (by decide) (by decide) rfl rfl rfl rfl ?_ ?_ (by decide) ?_ ?_
   ·intro xs q hq _;simp only [List.mem_cons,List.not_mem_nil,or_false] at hq;rcases hq with rfl|rfl|rfl|rfl|rfl <;> exact ⟨_,_,_,rfl⟩
   ·intro K a w hs;have hv:=QRf (hs.slot 18);obtain ⟨c1,c2⟩:=box_cell (o:=4) hs.mem rfl;obtain ⟨c3,c4⟩:=box_cell (o:=3) hs.mem rfl;refine ⟨173,#[.pointer (some ⟨K.ρ 4 0,0,none⟩),.pointer (some ⟨K.ρ 3 0,0,none⟩)],⟨K.ρ 3 0,0,none⟩,.int .i64 s.min,hv,?_,c4,?_,?_⟩
    ·intro args w;simp [go_sem]
    ·intro K1 xs W hs1;have hv1:=QRf (hs1.slot 18);have e:K1.ρ 3 0=K.ρ 3 0:=by
      have:=hv1.symm.trans hv;exact (by simpa using this:K1.ρ 4 0=K.ρ 4 0∧K1.ρ 3 0=K.ρ 3 0).2
     rw [← e];exact (box_cell (o:=3) hs1.mem rfl).1
    ·rw [Q18];exact sizes_stops 2 (by decide) _ _ s.min s.max w q1 q2 q3 c2 c4 c1 c3
   ·intro xs x hlen;rw [Q18] at hlen;refine Or.inl ?_;refine ⟨QK1 16 rfl lnA (by simp;omega),?_⟩;exact wk [0,1,2,3,4] (tO rfl (ts Shape.lo) (tO rfl (QFc (by simp only [List.map_append,List.append_assoc];rfl) (Qv9 fun _=>Alt.lowc _ _)) (tO rfl (QC0 (.cons _ _ _ _ (to 1 (by simp [List.length_append];omega)) .nil)) (tO rfl (ts (l1 .nil)) (tO rfl (ts (l1 .nil)) .nil)))))
     (sv (Q31 .nil (.cons _ _ _ _ (Q20 4 rfl rfl) (.cons _ _ _ _ (Q20 3 rfl rfl) .nil))) (s1 (sv (Q20 2 rfl rfl) (s1 (s1 (sv (Q20 0 rfl rfl) (sl (Shape.low _ _) .nil)))))))
   ·have e:QH0 s=s.alts++(QJ5 s.max (s.max - s.min+1).toNat).map fun (n:Int)=>(⟨n,s.wall⟩:Alt):=by
     rw [QZf];exact cf h2 (ct h3 rfl)
    obtain rfl:=foll hR e;exact Q00 lw (QT0 Alt.zero _ rfl rfl rfl)
  ·obtain rfl:=foll hR (cf h2 (cf h4 rfl));exact Q00 lw (QT0 Alt.zero _ rfl eqA lnA)
def Q65 (is:Node->Bool):List Node->List Int->Nat->(List Int)
 | [],out,_=>out
 | x_ :: r,out,i=>bif (is x_) then Q65 is r (out++([(i:Int)]:List Int)) (i+1) else Q65 is r out (i+1)
def Qo3 (out:List Int):Int:=(Qw6 out).1
def QI3 (l:List Node) (is:Node->Bool):Int:=bif ((QQ2 l)!=0) then 0 else Qo3 (Q65 is l [] 0)
def QG6 (p_:List Step) (at_:Int) (long:Int) (nodes:Int):(List Step) × Int:=bif (!(QI7 p_ at_ long nodes)) then ([],130) else ((Qx1 p_ at_ (w64 (at_+long)) (w64 (0 - nodes))).1,(Qx1 p_ at_ (w64 (at_+long)) (w64 (0 - nodes))).2)
theorem fit_Take_c (p_:List Step) (at_:Int) (long:Int) (nodes:Int) (hs0:p_.length<=4294967296):GV 63 [stepL p_,I at_,I long,I nodes] (AVal.tup [stepL ((QG6 p_ at_ long nodes).1),I ((QG6 p_ at_ long nodes).2)]):=by
 generalize hR:QG6 p_ at_ long nodes=R;refine ga (.cons lw (l1 (l1 (l1 .nil)))) (Low.tup' (.cons lw (l1 .nil))) (kp 10 [15]) Tryz.func63 ?_;have hk0:=hs0;obtain z3:p_.length<=4294967296:=hs0;refine us (fit_Fits_c p_ at_ long nodes szA _) ?_;refine ai (fun h1=>?_) (fun h2=>?_)
 ·obtain rfl:=foll hR (ct h1 rfl);exact Q00 (Low.tup' (.cons lw (l1 .nil))) (Seen.tup (ev (Qq0) (e1 .nil)))
 ·refine us (Qy9 p_ at_ (w64 (at_+long)) (w64 (0 - nodes)) szA _) ?_;obtain rfl:=foll hR (cf h2 rfl);exact Q00 (Low.tup' (.cons lw (l1 .nil))) (Seen.tup (e1 (e1 .nil)))
theorem fit_Take_len {p:List Step} (a l n:Int) (h:p.length<=4294967296):(QG6 p a l n).1.length<=4294967296:=by
 unfold QG6
 cases (!(QI7 p a l n)) with
 | true=>simp
 | false=>exact Qb8 _ _ _ _ h
def Q04 (of_:Usage->Int):List Usage->Int->Nat->Int
 | [],n,_=>n
 | x_ :: r,n,i=>Q04 of_ r (Qqc ([n,(of_ x_)]:List Int)) (i+1)
def Qa3 (n:Int):Int:=n
def QJ3 (l:List Usage) (of_:Usage->Int):Int:=bif ((Qp3 l)!=0) then 0 else Qa3 (Q04 of_ l 0 0)
def QC2 (l:List Int) (at_:Int):Nat->Int->Token × Int × Int × Int
 | 0,_=>(Token.zero,0,0,0)
 | m+1,i=>bif ((decide (i<(l.length:Int)))&&((l.getD (Int.toNat i) 0)!=34)) then bif ((Qh0 (l.getD (Int.toNat i) 0))==0) then (Token.zero,0,i,40) else bif ((l.getD (Int.toNat i) 0)==92) then bif ((decide ((w64 (i+1))<(l.length:Int)))&&((Qh0 (l.getD (Int.toNat (w64 (i+1))) 0))==0)) then (Token.zero,0,(w64 (i+1)),40) else QC2 l at_ m (w64 ((w64 (i+1))+1)) else QC2 l at_ m (w64 (i+1)) else bif (decide (i >= (l.length:Int))) then (Token.zero,0,at_,50) else bif ((QR5 (runesBytes (List.drop (Int.toNat at_) (List.take (Int.toNat (w64 (i+1))) l)))).2 != 0) then (Token.zero,0,at_,50) else ((⟨4,(QR5 (runesBytes (List.drop (Int.toNat at_) (List.take (Int.toNat (w64 (i+1))) l)))).1,0,at_⟩:Token),(w64 (i+1)),0,0)
def QA3 (l:List Int) (at_:Int):Token × Int × Int × Int:=QC2 l at_ ((Int.toNat ((l.length:Int) - (w64 (at_+1))))+1) (w64 (at_+1))
theorem ref05_text_c (l:List Int) (at_:Int) (hs0:l.length<=4294967296) (hp0:0<=at_∧at_<(l.length:Int)∧l.length<=400):GV 292 [runes l,I at_] (AVal.tup [Token.a ((QA3 l at_).1),I ((QA3 l at_).2.1),I ((QA3 l at_).2.2.1),I ((QA3 l at_).2.2.2)]):=by
 generalize hR:QA3 l at_=R;refine ga (.cons lw (l1 .nil)) (Low.tup' (.cons (Token.low _ _) (l1 (l1 (l1 .nil))))) (kp 11 [23,29,36,50,58,72]) Tryz.func292 ?_;have hk0:=hs0;obtain z13:l.length<=4294967296:=hs0;have hw0:w64 (at_+1)=at_+1:=wr (by omega);refine Qf0 (fun (i:Int)=>∃ m,(Int.toNat ((l.length:Int) - i))<m∧QC2 l at_ m i=R∧at_<i∧i<=(l.length:Int)+1) (fun i=>(Int.toNat ((l.length:Int) - i))) (fun i=>[(0,runes l),(1,I at_),(4,AVal.ptr 0 0 4 0 0),(5,I 0),(6,I 0),(7,I 0),(8,I i)]) (fun i=>[(0,AObj.row 221 4 [[I 0,Sg ⟨#[]⟩,I 0,I 0]])]) (w64 (at_+1)) (wk [0] (tO rfl (ts Token.lo) .nil) (sl lw (s1 (sv (Q20 0 rfl rfl) (s1 (s1 (s1 (s1 .nil)))))))) ⟨_,Nat.lt_succ_self _,foll hR rfl,by exact exA⟩ ?_;clear hR;rintro i ⟨m,hm,hR,hx⟩;(try dsimp only at hR hm hx);obtain ⟨m,rfl⟩:=sucA m;refine ai gkA ?_;refine ai (fun h1=>?_) (fun h2=>?_)
 ·have hq1:=of_decide_eq_true ((Bool.and_eq_true _ _).mp h1).1;have hw1:w64 (i+1)=i+1:=wr (by omega);have hw2:w64 (i+1+1)=i+1+1:=wr (by omega);refine ai gkA ?_;refine us (QQ4 (l.getD (Int.toNat i) 0) _) ?_;refine ai (fun h3=>?_) (fun h4=>?_)
  ·obtain rfl:=foll hR (ct h1 (ct h3 rfl));exact Q00 (Low.tup' (.cons (Token.low _ _) (l1 (l1 (l1 .nil))))) (Seen.tup (e1 (e1 (e1 (e1 .nil)))))
  ·refine ai gkA ?_;refine ai (fun h5=>?_) (fun h6=>?_)
   ·refine ai gkA ?_;(first|apply u2|apply u3|apply u4|apply us);exact QQ4 (l.getD (Int.toNat (w64 (i+1))) 0) _;refine ai (fun h7=>?_) (fun h8=>?_)
    ·obtain rfl:=foll hR (ct h1 (cf h4 (ct h5 (ct h7 rfl))));exact Q00 (Low.tup' (.cons (Token.low _ _) (l1 (l1 (l1 .nil))))) (Seen.tup (e1 (e1 (e1 (e1 .nil)))))
    ·exact Qj0 (w64 ((w64 (i+1))+1)) (wk [0] (tO rfl (ts Token.lo) .nil) (sl lw (s1 (sv (Q20 0 rfl rfl) (s1 (s1 (s1 (s1 .nil)))))))) omA ⟨m,by exact omA,foll hR (ct h1 (cf h4 (ct h5 (cf h8 rfl)))),by exact exA⟩
   ·exact Qj0 (w64 (i+1)) (wk [0] (tO rfl (ts Token.lo) .nil) (sl lw (s1 (sv (Q20 0 rfl rfl) (s1 (s1 (s1 (s1 .nil)))))))) omA ⟨m,by exact omA,foll hR (ct h1 (cf h4 (cf h6 rfl))),by exact exA⟩
 ·refine ai (fun h9=>?_) (fun h10=>?_)
  ·have qh9:=of_decide_eq_true h9;obtain rfl:=foll hR (cf h2 (ct h9 rfl));exact Q00 (Low.tup' (.cons (Token.low _ _) (l1 (l1 (l1 .nil))))) (Seen.tup (e1 (e1 (e1 (e1 .nil)))))
  ·have qh10:=of_decide_eq_false h10;refine ai gkA ?_;(first|refine ⟨(List.drop (Int.toNat at_) (List.take (Int.toNat (w64 (i+1))) l)),by exact cvA,?_⟩|refine ⟨_,fun _=>⟨(List.drop (Int.toNat at_) (List.take (Int.toNat (w64 (i+1))) l)),by exact cvA,rfl,rfl⟩,?_⟩|refine ⟨_,rfl,⟨(List.drop (Int.toNat at_) (List.take (Int.toNat (w64 (i+1))) l)),by exact cvA,Sub.refl _,rfl⟩,?_⟩);refine us (QFf (runesBytes (List.drop (Int.toNat at_) (List.take (Int.toNat (w64 (i+1))) l))) szA _) ?_;refine ai (fun h11=>?_) (fun h12=>?_)
   ·obtain rfl:=foll hR (cf h2 (cf h10 (ct h11 rfl)));exact Q00 (Low.tup' (.cons (Token.low _ _) (l1 (l1 (l1 .nil))))) (Seen.tup (e1 (e1 (e1 (e1 .nil)))))
   ·obtain rfl:=foll hR (cf h2 (cf h10 (cf h12 rfl)));exact Q00 (Low.tup' (.cons (Token.low _ _) (l1 (l1 (l1 .nil))))) (Seen.tup (e1 (e1 (e1 (e1 .nil)))))
theorem QR8 (l:List Int) (at_:Int) (h:l.length<=400):∀ (m:Nat) (i:Int),at_<i->0<=at_->i<=(l.length:Int)+1->(Int.toNat ((l.length:Int) - i))<m->((QC2 l at_ m i).2.2.2 != 0)=false->at_<(QC2 l at_ m i).2.1∧(QC2 l at_ m i).2.1<=(l.length:Int)
 | 0,i,_,_,_,hm=>absurd hm (by omega)
 | m+1,i,h0,hz,h1,hm=>by
  rw [QC2]
  cases hd:((decide (i<(l.length:Int)))&&((l.getD (Int.toNat i) 0)!=34)) with
  | false =>
   simp only [cond_false]
   cases hi:(decide (i >= (l.length:Int))) with
   | true=>intro h;cases h
   | false =>
    have hlt:=of_decide_eq_false hi
    simp only [cond_false]
    cases ((QR5 (runesBytes (List.drop (Int.toNat at_) (List.take (Int.toNat (w64 (i+1))) l)))).2 != 0) with
    | true=>intro h;cases h
    | false =>
     intro _
     have hw:w64 (i+1)=i+1:=wr (by omega)
     simp only [cond_false]
     rw [hw]
     omega
  | true =>
   have hlt:=of_decide_eq_true ((Bool.and_eq_true _ _).mp hd).1
   have hw:w64 (i+1)=i+1:=wr (by omega)
   have hw2:w64 (i+1+1)=i+1+1:=wr (by omega)
   simp only [cond_true]
   cases ((Qh0 (l.getD (Int.toNat i) 0))==0) with
   | true=>intro h;cases h
   | false =>
    simp only [cond_false]
    rw [hw]
    cases ((l.getD (Int.toNat i) 0)==92) with
    | true =>
     simp only [cond_true]
     cases ((decide ((i+1)<(l.length:Int)))&&((Qh0 (l.getD (Int.toNat (i+1)) 0))==0)) with
     | true=>intro h;cases h
     | false =>
      simp only [cond_false]
      rw [hw2]
      exact QR8 l at_ h m _ (by omega) hz (by omega) (by omega)
    | false=>exact QR8 l at_ h m _ (by omega) hz (by omega) (by omega)
theorem ref05_text_lt (l:List Int) (at_:Int) (h0:0<=at_) (h1:at_<(l.length:Int)) (h:l.length<=400) (he:((QA3 l at_).2.2.2 != 0)=false):at_<(QA3 l at_).2.1∧(QA3 l at_).2.1<=(l.length:Int):=by
 have hw:w64 (at_+1)=at_+1:=wr (by omega)
 unfold QA3 at he ⊢
 rw [hw] at he ⊢
 exact QR8 l at_ h _ _ (by omega) h0 (by omega) (Nat.lt_succ_self _) he
def Qf1 (j:Job):Bool:=bif (j.state==1) then bif (((j.start != 0)||(j.limit != 0))||(j.nodes != 0)) then false else bif (j.promise==(-1)) then (j.choice==0) else (((QL0 j.promise)&&(decide ((Qy1 j.shape j.choice) > 0)))&&(!j.held)) else bif (j.state==2) then bif ((((((((Qy1 j.shape j.choice)==0)||j.held)||(!(QL0 j.start)))||(!(QL0 j.promise)))||(decide (j.start > j.promise)))||(!(QL0 j.limit)))||(j.limit != (w64 (j.start+(Qy1 j.shape j.choice))))) then false else ((Qha j.nodes)&&(Qv7 j.shape j.choice ((QT7 j.nodes).length:Int))) else ((((((((Qo6 j.state)&&(j.nodes==0))&&(QL0 j.start))&&(QL0 j.limit))&&(decide (j.promise >= (-1))))&&(decide (j.promise<=1000000)))&&(decide (j.choice >= 0)))&&(decide (j.choice<=48)))
theorem ref14_state_c (j:Job) (hs0:j.sz):GV 116 [Job.a j] (Bo (Qf1 j)):=by
 generalize hR:Qf1 j=R;refine ga (.cons (Job.low _ _) .nil) lx (kp 5 [10,11,25,28,48,94]) Tryz.func116 ?_;obtain ⟨z11,z12,z13,z14,z15⟩:=Job.zz hs0;refine us (ref09_List_c j.nodes _) ?_;refine ai (fun h1=>?_) (fun h2=>?_)
 ·refine ai (fun h3=>?_) (fun h4=>?_)
  ·obtain rfl:=foll hR (ct h1 (ct h3 rfl));exact Q00 lx sr
  ·refine ai (fun h5=>?_) (fun h6=>?_)
   ·obtain rfl:=foll hR (ct h1 (cf h4 (ct h5 rfl)));exact Q00 lx sr
   ·refine us (Q44 j.promise _) ?_;(first|apply u2|apply u3|apply u4|apply us);exact Qja j.shape j.choice szA _;obtain rfl:=foll hR (ct h1 (cf h4 (cf h6 rfl)));exact Q00 lx sr
 ·refine ai (fun h7=>?_) (fun h8=>?_)
  ·refine us (Qja j.shape j.choice szA _) ?_;(first|apply u2|apply u3|apply u4|apply us);exact Q44 j.start _;(first|apply u2|apply u3|apply u4|apply us);exact Q44 j.promise _;(first|apply u2|apply u3|apply u4|apply us);exact Q44 j.limit _;refine ai (fun h9=>?_) (fun h10=>?_)
   ·obtain rfl:=foll hR (cf h2 (ct h7 (ct h9 rfl)));exact Q00 lx sr
   ·refine us (ref14_Few_c j.nodes _) ?_;(first|apply u2|apply u3|apply u4|apply us);exact ref07_Allows_c j.shape j.choice ((QT7 j.nodes).length:Int) szA _;obtain rfl:=foll hR (cf h2 (ct h7 (cf h10 rfl)));exact Q00 lx sr
  ·refine us (Qec j.state _) ?_;(first|apply u2|apply u3|apply u4|apply us);exact Q44 j.start _;(first|apply u2|apply u3|apply u4|apply us);exact Q44 j.limit _;obtain rfl:=foll hR (cf h2 (cf h8 rfl));exact Q00 lx sr
def QY2 :List Node->Int->Nat->Int × Nat
 | [],up,i=>(up,i)
 | x_ :: r,up,i=>bif ((x_.state != 4)&&(!x_.drain)) then QY2 r (w64 (up+1)) (i+1) else QY2 r up (i+1)
def QF2 (s:State):List Node->List Step->Nat->(List Step) × Nat
 | [],p_,i1=>(p_,i1)
 | _ :: r,p_,i1=>QF2 s r (Qb2 p_ 0 (Q77 s (i1:Int)) 1) (i1+1)
def QU5 (p_:List Step) (i1:Nat):(List Step):=p_
def QT4 (s:State) (up:Int) (i:Nat):(List Step):=QU5 ((QF2 s s.nodes (Qc5 up) 0).1) ((QF2 s s.nodes (Qc5 up) 0).2)
def QC4 (s:State):(List Step):=QT4 s ((QY2 s.nodes 0 0).1) ((QY2 s.nodes 0 0).2)
theorem b4a0 {P:Prop} (h:P:=by first|(((try dsimp only);exact QI6 (by assumption)))|first|(((try dsimp only);exact QI6 hx))|first|(exact Qma _)|first|(exact Qda _)|exact exA):P:=h
theorem b4a1 {P:Prop} (h:P:=by first|(((try dsimp only);exact QI6 (by assumption)))|first|(((try dsimp only);exact QI6 hx))|first|(exact Qma _)|first|(exact Qda _)|exact szA):P:=h
theorem ref20_busy_c (s:State) (hs0:s.sz):GV 122 [State.a s] (stepL (QC4 s)):=by
 generalize hR:QC4 s=R;refine ga (.cons (State.low _ _) .nil) lw (kp 7 [11,29,38]) Tryz.func122 ?_;have hk0:=hs0;obtain ⟨z7,z8,z9,z10,z11,z12,z13⟩:=hs0;refine Qg0 (fun (up:Int) (i:Nat)=>QT4 s (QY2 (List.drop i s.nodes) up i).1 (QY2 (List.drop i s.nodes) up i).2=R∧i<=s.nodes.length) (fun up i=>s.nodes.length - i) (fun up i=>[(1,AVal.ptr 0 0 8 0 0),(2,AVal.lit (.slice none 0 0)),(3,I up),(4,I (i:Int))]) (fun up i=>[(0,AObj.row 28 8 [[I s.now,nodeL s.nodes,jobL s.jobs,QC5 s.resizes,bookL s.books,QU2 s.ledger,I s.nextJob,I s.nextBook]])]) 0 0 (wk [0] (tO rfl (ts State.lo) .nil) (sv (Q20 0 rfl rfl) (s1 (s1 (s1 .nil))))) ⟨foll hR rfl,by exact omA⟩ ?_;clear hR;rintro up i ⟨hR,hj⟩;(try dsimp only at hR hj);refine ai (fun h1=>?_) (fun h2=>?_)
 ·have hlt:=ltA h1;rw [Q90 Node.zero hlt] at hR;refine ai gkA ?_;refine ai gkA ?_;refine ai (fun h3=>?_) (fun h4=>?_)
  ·exact Q80 (w64 (up+1)) (i+1) (wk [0] (tO rfl (ts State.lo) .nil) (sv (Q20 0 rfl rfl) (s1 (s1 (sv (Q70 (I_eq (wr omA)) lx) .nil))))) omA ⟨foll hR (congrArg (fun p:Int × Nat=>QT4 s p.1 p.2) (ct h3 rfl)),by exact omA⟩
  ·exact Q80 up (i+1) (wk [0] (tO rfl (ts State.lo) .nil) (sv (Q20 0 rfl rfl) (s1 (s1 (sv (Q70 (I_eq (wr omA)) lx) .nil))))) omA ⟨foll hR (congrArg (fun p:Int × Nat=>QT4 s p.1 p.2) (cf h4 rfl)),by exact omA⟩
 ·rw [Qa0 (l:=s.nodes) (j:=i) (geA h2)] at hR;replace hR:QT4 s up i=R:=fo2 (fun p:Int × Nat=>QT4 s p.1 p.2) (up,i) hR rfl;refine us (ref10_Flat_c up _) ?_;refine Qg0 (fun (p_:List Step) (i1:Nat)=>QU5 (QF2 s (List.drop i1 s.nodes) p_ i1).1 (QF2 s (List.drop i1 s.nodes) p_ i1).2=R∧i1<=s.nodes.length∧p_.length<=4294967296) (fun p_ i1=>s.nodes.length - i1) (fun p_ i1=>[(1,AVal.ptr 0 0 8 0 0),(2,AVal.lit (.slice none 0 0)),(5,stepL p_),(6,I (i1:Int))]) (fun p_ i1=>[(0,AObj.row 28 8 [[I s.now,nodeL s.nodes,jobL s.jobs,QC5 s.resizes,bookL s.books,QU2 s.ledger,I s.nextJob,I s.nextBook]])]) (Qc5 up) 0 (wk [0] (tO rfl (ts State.lo) .nil) (sv (Q20 0 rfl rfl) (s1 (sl lw (s1 .nil))))) ⟨foll hR rfl,by exact omA,b4a0⟩ ?_;clear hR;rintro p_ i1 ⟨hR,hj,hx⟩;(try dsimp only at hR hj hx);refine ai (fun h5=>?_) (fun h6=>?_)
  ·have hlt:=ltA h5;rw [Q90 Node.zero hlt] at hR;refine us (ref20_until_c s (i1:Int) b4a1 ckA _) ?_;refine us (Qy8 p_ 0 (Q77 s (i1:Int)) 1 b4a1 _) ?_;exact Q80 (Qb2 p_ 0 (Q77 s (i1:Int)) 1) (i1+1) (wk [0] (tO rfl (ts State.lo) .nil) (sv (Q20 0 rfl rfl) (s1 (sl lw (sv (Q70 (I_eq (wr omA)) lx) .nil))))) omA ⟨foll hR (congrArg (fun p:(List Step) × Nat=>QU5 p.1 p.2) rfl),by exact omA,b4a0⟩
  ·rw [Qa0 (l:=s.nodes) (j:=i1) (geA h6)] at hR;replace hR:QU5 p_ i1=R:=fo2 (fun p:(List Step) × Nat=>QU5 p.1 p.2) (p_,i1) hR rfl;obtain rfl:=foll hR rfl;exact Q00 lw sr
theorem Qda (s:State):(QC4 s).length<=4294967296:=by
 have g2:∀ (l:List Node) (p:List Step) (i:Nat),p.length<=4294967296->(QF2 s l p i).1.length<=4294967296:=by
  intro l
  induction l with
  | nil=>intro p i h;exact h
  | cons x r ih=>intro p i h;rw [QF2];exact ih _ _ (QI6 h)
 unfold QC4 QT4 QU5
 exact g2 _ _ _ (Qma _)
def QB1 (p_:List Step) (options:List Alt) (from_:Int) (latest:Int) (grace1:Int):Nat->Int->Int->Int->Nat->Int × Int × Int × Nat
 | 0,_,_,_,_=>(0,0,0,0)
 | m+1,best,start,end_,i=>bif ((decide ((i:Int)<(options.length:Int)))&&(decide ((i:Int)<48))) then bif (((decide ((options.getD i Alt.zero).wall<1))||(decide ((options.getD i Alt.zero).wall > 1000000)))||(decide (grace1 > (w64 (1000000 - (options.getD i Alt.zero).wall))))) then QB1 p_ options from_ latest grace1 m best start end_ (i+1) else bif (((Qv0 p_ from_ (w64 ((options.getD i Alt.zero).wall+grace1)) ((options.getD i Alt.zero).nodes)).2&&(decide ((Qv0 p_ from_ (w64 ((options.getD i Alt.zero).wall+grace1)) ((options.getD i Alt.zero).nodes)).1<=latest)))&&((decide (best<0))||(decide ((w64 ((Qv0 p_ from_ (w64 ((options.getD i Alt.zero).wall+grace1)) ((options.getD i Alt.zero).nodes)).1+(options.getD i Alt.zero).wall))<end_)))) then QB1 p_ options from_ latest grace1 m (i:Int) ((Qv0 p_ from_ (w64 ((options.getD i Alt.zero).wall+grace1)) ((options.getD i Alt.zero).nodes)).1) (w64 ((Qv0 p_ from_ (w64 ((options.getD i Alt.zero).wall+grace1)) ((options.getD i Alt.zero).nodes)).1+(options.getD i Alt.zero).wall)) (i+1) else QB1 p_ options from_ latest grace1 m best start end_ (i+1) else (best,start,end_,i)
def Q34 (best:Int) (start:Int) (end_:Int) (i:Nat):Int × Int × Bool:=bif (decide (best<0)) then (0,0,false) else (best,start,true)
def QN7 (p_:List Step) (options:List Alt) (from_:Int) (latest:Int) (grace1:Int):Int × Int × Bool:=Q34 ((QB1 p_ options from_ latest grace1 ((Int.toNat ((options.length:Int) - (0:Int)))+1) (-1) 0 0 0).1) ((QB1 p_ options from_ latest grace1 ((Int.toNat ((options.length:Int) - (0:Int)))+1) (-1) 0 0 0).2.1) ((QB1 p_ options from_ latest grace1 ((Int.toNat ((options.length:Int) - (0:Int)))+1) (-1) 0 0 0).2.2.1) ((QB1 p_ options from_ latest grace1 ((Int.toNat ((options.length:Int) - (0:Int)))+1) (-1) 0 0 0).2.2.2)
def Qb3 (p_:List Step) (options:List Alt) (from_:Int) (latest:Int) (grace:Int):Int × Int × Bool:=bif (decide (grace<0)) then QN7 p_ options from_ latest 0 else QN7 p_ options from_ latest grace
theorem QLd (p_:List Step) (options:List Alt) (from_:Int) (latest:Int) (grace:Int) (hs0:p_.length<=4294967296) (hs1:options.length<=4294967296):GV 117 [stepL p_,altL options,I from_,I latest,I grace] (AVal.tup [I ((Qb3 p_ options from_ latest grace).1),I ((Qb3 p_ options from_ latest grace).2.1),Bo ((Qb3 p_ options from_ latest grace).2.2)]):=by
 generalize hR:Qb3 p_ options from_ latest grace=R;refine ga (.cons lw (.cons lw (l1 (l1 (l1 .nil))))) (Low.tup' (l1 (l1 (l1 .nil)))) (kj [1000003] 20 [21,29,50,80,88]) Tryz.func117 ?_;have hk0:=hs0;obtain z11:p_.length<=4294967296:=hs0;have hk1:=hs1;obtain z12:options.length<=4294967296:=hs1;refine Qr1 (fun (grace1:Int)=>QN7 p_ options from_ latest grace1=R) (fun grace1=>[(0,stepL p_),(1,altL options),(2,I from_),(3,I latest),(4,I grace1),(10,I 0),(11,I 0),(12,Bo false)]) (fun grace1=>[]) ?_ ?_
 ·clear hR;rintro grace1 hR;(try dsimp only at hR);refine Qjb (fun (best:Int) (start:Int) (end_:Int) (i:Nat)=>∃ m,(Int.toNat ((options.length:Int) - (i:Int)))<m∧Q34 (QB1 p_ options from_ latest grace1 m best start end_ i).1 (QB1 p_ options from_ latest grace1 m best start end_ i).2.1 (QB1 p_ options from_ latest grace1 m best start end_ i).2.2.1 (QB1 p_ options from_ latest grace1 m best start end_ i).2.2.2=R∧(i:Int)<=(options.length:Int)) (fun best start end_ i=>(Int.toNat ((options.length:Int) - (i:Int)))) (fun best start end_ i=>[(0,stepL p_),(1,altL options),(2,I from_),(3,I latest),(4,I grace1),(10,I 0),(11,I 0),(12,Bo false),(13,I best),(14,I start),(15,I end_),(16,I (i:Int))]) (fun best start end_ i=>[]) (-1) 0 0 0 (wk [] .nil (sl lw (sl lw (s1 (s1 (s1 (s1 (s1 (s1 (s1 (s1 (s1 (s1 .nil))))))))))))) ⟨_,Nat.lt_succ_self _,foll hR rfl,by exact exA⟩ ?_;clear hR;rintro best start end_ i ⟨m,hm,hR,hx⟩;(try dsimp only at hR hm hx);obtain ⟨m,rfl⟩:=sucA m;refine ai (fun h1=>?_) (fun h2=>?_)
  ·refine ai gkA ?_;refine ai (fun h3=>?_) (fun h4=>?_)
   ·exact Qv4 best start end_ (i+1) (wk [] .nil (sl lw (sl lw (s1 (s1 (s1 (s1 (s1 (s1 (s1 (s1 (s1 (sv (Q70 (I_eq (wr omA)) lx) .nil))))))))))))) omA ⟨m,by exact omA,foll hR (congrArg (fun p:Int × Int × Int × Nat=>Q34 p.1 p.2.1 p.2.2.1 p.2.2.2) (ct h1 (ct h3 rfl))),by exact exA⟩
   ·refine us (Q6e p_ from_ (w64 ((options.getD i Alt.zero).wall+grace1)) ((options.getD i Alt.zero).nodes) szA _) ?_;refine ai (fun h5=>?_) (fun h6=>?_)
    ·refine dchk (by kernel_rfl) ?_;(repeat ((first|refine ai rfl ?_|refine ai (fun _=>rfl) ?_)));exact Qv4 (i:Int) ((Qv0 p_ from_ (w64 ((options.getD i Alt.zero).wall+grace1)) ((options.getD i Alt.zero).nodes)).1) (w64 ((Qv0 p_ from_ (w64 ((options.getD i Alt.zero).wall+grace1)) ((options.getD i Alt.zero).nodes)).1+(options.getD i Alt.zero).wall)) (i+1) (wk [] .nil (sl lw (sl lw (s1 (s1 (s1 (s1 (s1 (s1 (s1 (s1 (s1 (sv (Q70 (I_eq (wr omA)) lx) .nil))))))))))))) omA ⟨m,by exact omA,foll hR (congrArg (fun p:Int × Int × Int × Nat=>Q34 p.1 p.2.1 p.2.2.1 p.2.2.2) (ct h1 (cf h4 (ct h5 rfl)))),by exact exA⟩
    ·exact Qv4 best start end_ (i+1) (wk [] .nil (sl lw (sl lw (s1 (s1 (s1 (s1 (s1 (s1 (s1 (s1 (s1 (sv (Q70 (I_eq (wr omA)) lx) .nil))))))))))))) omA ⟨m,by exact omA,foll hR (congrArg (fun p:Int × Int × Int × Nat=>Q34 p.1 p.2.1 p.2.2.1 p.2.2.2) (ct h1 (cf h4 (cf h6 rfl)))),by exact exA⟩
  ·replace hR:Q34 best start end_ i=R:=fo2 (fun p:Int × Int × Int × Nat=>Q34 p.1 p.2.1 p.2.2.1 p.2.2.2) (best,start,end_,i) hR (cf h2 rfl);refine ai (fun h7=>?_) (fun h8=>?_)
   ·have qh7:=of_decide_eq_true h7;obtain rfl:=foll hR (ct h7 rfl);exact Q00 (Low.tup' (l1 (l1 (l1 .nil)))) (Seen.tup (e1 (e1 (e1 .nil))))
   ·have qh8:=of_decide_eq_false h8;obtain rfl:=foll hR (cf h8 rfl);exact Q00 (Low.tup' (l1 (l1 (l1 .nil)))) (Seen.tup (e1 (e1 (e1 .nil))))
 ·refine ai (fun h9=>?_) (fun h10=>?_)
  ·have qh9:=of_decide_eq_true h9;exact Qb0 0 (wk [] .nil (sl lw (sl lw (s1 (s1 (s1 (s1 (s1 (s1 .nil))))))))) (foll hR (ct h9 rfl))
  ·have qh10:=of_decide_eq_false h10;exact Qb0 grace (wk [] .nil (sl lw (sl lw (s1 (s1 (s1 (s1 (s1 (s1 .nil))))))))) (foll hR (cf h10 rfl))
def QS4 (l:List Usage) (a:Job) (b:Job):Bool:=bif (decide (a.prio > b.prio)) then true else bif (decide (a.prio<b.prio)) then false else bif (decide ((Qi4 l a.user)<(Qi4 l b.user))) then true else bif (decide ((Qi4 l a.user) > (Qi4 l b.user))) then false else (decide (a.id<b.id))
theorem Qjc (l:List Usage) (a:Job) (b:Job) (hs0:l.length<=4294967296∧(∀ y ∈ l,y.sz)) (hs1:a.sz) (hs2:b.sz):GV 154 [QU2 l,Job.a a,Job.a b] (Bo (QS4 l a b)):=by
 generalize hR:QS4 l a b=R;refine ga (.cons lw (.cons (Job.low _ _) (.cons (Job.low _ _) .nil))) lx (kp 9 [13,18,29,32]) Tryz.func154 ?_;obtain ⟨z9,z10⟩:=id hs0;obtain ⟨z11,z12,z13,z14,z15⟩:=Job.zz hs1;obtain ⟨z16,z17,z18,z19,z20⟩:=Job.zz hs2;refine ai (fun h1=>?_) (fun h2=>?_)
 ·have qh1:=of_decide_eq_true h1;obtain rfl:=foll hR (ct h1 rfl);exact Q00 lx sr
 ·have qh2:=of_decide_eq_false h2;refine ai (fun h3=>?_) (fun h4=>?_)
  ·have qh3:=of_decide_eq_true h3;obtain rfl:=foll hR (cf h2 (ct h3 rfl));exact Q00 lx sr
  ·have qh4:=of_decide_eq_false h4;refine us (Qhc l a.user szA szA _) ?_;refine us (Qhc l b.user szA szA _) ?_;refine ai (fun h5=>?_) (fun h6=>?_)
   ·have qh5:=of_decide_eq_true h5;obtain rfl:=foll hR (cf h2 (cf h4 (ct h5 rfl)));exact Q00 lx sr
   ·have qh6:=of_decide_eq_false h6;refine ai (fun h7=>?_) (fun h8=>?_)
    ·have qh7:=of_decide_eq_true h7;obtain rfl:=foll hR (cf h2 (cf h4 (cf h6 (ct h7 rfl))));exact Q00 lx sr
    ·have qh8:=of_decide_eq_false h8;obtain rfl:=foll hR (cf h2 (cf h4 (cf h6 (cf h8 rfl))));exact Q00 lx sr
end Go.Proofs.YtjpgfmbccohngaaGreatDoor
