/-
  Contracts of functions, printed by a program of this repo (wip/dec). No condition beyond those that stand in each.
-/
import Derived.Test.YtjpgfmbccohngaaGreatDoorG10
import Derived.Test.YtjpgfmbccohngaaGreatDoorProg
namespace Go.Proofs.YtjpgfmbccohngaaGreatDoor
set_option linter.unusedSimpArgs false
set_option linter.unusedVariables false
open Go.Fw
set_option maxRecDepth 20000
set_option maxHeartbeats 4000000
attribute [local irreducible] ACalls AMoves
def Q26 (s:State):Bool:=(((((Qec s.nodes)&&(Q16 s.jobs))&&(Qgc s.books))&&(Qfc s.ledger))&&(decide ((s.resizes.length:Int)<=100)))
theorem Qrb (s:State) (hs0:s.szM):∀ objs,AGives Tryz.prog 11 [State.a s] objs (Bo (Q26 s)):=by
 generalize hR:Q26 s=R;refine ga (.cons (State.low _ _) .nil) lx (kp 3 []) Tryz.func11 ?_;have hk0:=hs0;obtain ⟨z1,z2,z3,z4,z5,z6,z7⟩:=hs0;refine us (law12_Few_c s.nodes _) ?_;(first|apply u2|apply u3|apply u4|apply us);exact Qqb s.jobs szA _;(first|apply u2|apply u3|apply u4|apply us);exact law19_Few_c s.books _;(first|apply u2|apply u3|apply u4|apply us);exact law17_Few_c s.ledger szA _;obtain rfl:=foll hR rfl;exact Q00 lx sr
theorem u3g {P:Program} {f:FuncId} {args:List AVal} {objs:Objs} {r:AVal} {g:Bool} {K:AVal->Objs->Prop} (h:g=true->ACalls P f args objs fun a b=>a=r∧b=objs) (k:K r objs):∃ r' o',(g=true->ACalls P f args objs (fun a b=>a=r'∧b=o'))∧(g=false->o'=objs)∧K r' o':=⟨r,objs,h,fun _=>rfl,k⟩
theorem QNd:∀ (l:List Usage) (i:Nat),Qr7 l i=true -> ∀ y ∈ l,y.sz
 | [],_,_,y,hy=>nomatch hy
 | x :: r,i,h,y,hy=>by
  rw [Qr7] at h
  cases hc:((decide ((ByteArray.size x.user:Int) > 1000))||(decide ((ByteArray.size x.account:Int) > 1000))) with
  | true=>rw [hc] at h;cases h
  | false =>
   rw [hc] at h
   rcases List.mem_cons.1 hy with rfl|hy
   ·simp only [Bool.or_eq_false_iff,decide_eq_false_iff_not] at hc
    exact ⟨by omega,by omega⟩
   ·exact QNd r (i+1) h y hy
theorem law14_Few_sz {j:Job} (h:Q59 j=true):j.sz:=by
 simp only [Q59,Qdc,Bool.and_eq_true,decide_eq_true_eq] at h
 exact ⟨by omega,by omega,by omega,by show j.shape.alts.length<=_;omega,by omega⟩
theorem Q6a:∀ (l:List Job) (i:Nat),Qq7 l i=true -> ∀ y ∈ l,y.sz
 | [],_,_,y,hy=>nomatch hy
 | x :: r,i,h,y,hy=>by
  rw [Qq7] at h
  cases hc:Q59 x with
  | false=>rw [hc] at h;cases h
  | true =>
   rw [hc] at h
   rcases List.mem_cons.1 hy with rfl|hy
   ·exact law14_Few_sz hc
   ·exact Q6a r (i+1) h y hy
theorem Q70 {s:State} (h:Q26 s=true):s.sz:=by
 simp only [Q26,Qec,Q16,Qgc,Qfc,Bool.and_eq_true,decide_eq_true_eq] at h
 obtain ⟨⟨⟨⟨h1,h2⟩,h3⟩,h4⟩,h5⟩:=h
 cases hj:decide ((s.jobs.length:Int) > 60) with
 | true=>rw [hj] at h2;cases h2
 | false =>
  cases hl:decide ((s.ledger.length:Int) > 300) with
  | true=>rw [hl] at h4;cases h4
  | false =>
   rw [hj] at h2
   rw [hl] at h4
   have qj:=of_decide_eq_false hj
   have ql:=of_decide_eq_false hl
   exact ⟨by omega,by omega,Q6a _ _ h2,by omega,by omega,by omega,QNd _ _ h4⟩
def Q52 (ok:Bool):Int:=bif (!ok) then 70 else 0
def Q22 (s:Shape):Int:=bif (s.kind==1) then Q52 (((((s.min==0)&&(s.max==0))&&(s.wall==0))&&((s.alts.length:Int)==1))&&(Qb1 (s.alts.getD 0 Alt.zero))) else bif (s.kind==2) then Q52 (((((((s.min==0)&&(s.max==0))&&(s.wall==0))&&(decide ((s.alts.length:Int) >= 1)))&&(decide ((s.alts.length:Int)<=6)))&&(QG5 s.alts))&&(!(QW0 s.alts (fun (y:Alt)=>(!(Qb1 y)))))) else bif (s.kind==3) then Q52 (((((s.alts.length:Int)==0)&&(decide (s.min<=s.max)))&&(Qb1 (⟨s.min,s.wall⟩:Alt)))&&(decide (s.max<=48))) else Q52 false
theorem QDc (s:Shape) (hs0:s.sz):∀ objs,AGives Tryz.prog 109 [Shape.a s] objs (I (Q22 s)):=by
 generalize hR:Q22 s=R;refine ga (.cons (Shape.low _ _) .nil) lx (kj [1000011] 6 [23,24,38,60,85]) Tryz.func109 ?_;have hk0:=hs0;obtain z13:s.alts.length<=4294967296:=hs0;refine QZ1 (fun (ok:Bool)=>Q52 ok=R) (fun ok=>[(2,I 0),(5,Bo ok)]) (fun ok=>[]) ?_ ?_
 ·clear hR;rintro ok hR;(try dsimp only at hR);refine ai (fun h1=>?_) (fun h2=>?_)
  ·obtain rfl:=foll hR (ct h1 rfl);exact Q00 lx sr
  ·obtain rfl:=foll hR (cf h2 rfl);exact Q00 lx sr
 ·refine ai (fun h3=>?_) (fun h4=>?_)
  ·refine ai gkA ?_;(first|apply u2|apply u3|apply u4|apply us);exact Qta (s.alts.getD 0 Alt.zero) _;exact Qf0 (((((s.min==0)&&(s.max==0))&&(s.wall==0))&&((s.alts.length:Int)==1))&&(Qb1 (s.alts.getD 0 Alt.zero))) (wk [] .nil (s1 (s1 .nil))) (foll hR (ct h3 rfl))
  ·refine ai (fun h5=>?_) (fun h6=>?_)
   ·(first|apply u2|apply u3|apply u4|apply us);exact shape_apart_c s.alts szA _;have cl1:∀ (y1:Alt),AMoves Tryz.prog 172 [Alt.a y1] [] 0 (Bo ((fun (y:Alt)=>(!(Qb1 y))) y1)) []:=by
     intro y1;have hR:(fun (y:Alt)=>(!(Qb1 y))) y1=(fun (y:Alt)=>(!(Qb1 y))) y1:=rfl;refine mo (kp 3 []) Tryz.func172 ?_;refine us (Qta y1 _) ?_;refine Qq0 (fun r:Bool=>Bo r) (fun _=>[]) (leaf:=(!(Qb1 y1))) (foll hR rfl) ?_;exact tt [] .nil t1
    have hof1:AMoves Tryz.prog 171 [altL s.alts,AVal.fn (.func 172) [] []] [] 0 (Bo (QW0 s.alts (fun (y:Alt)=>(!(Qb1 y))))) []:=by
     have hR:QW0 s.alts (fun (y:Alt)=>(!(Qb1 y)))=QW0 s.alts (fun (y:Alt)=>(!(Qb1 y))):=rfl;refine mo (kp 5 []) Tryz.func171 ?_;have hof2:AMoves Tryz.prog 219 [altL s.alts,AVal.fn (.func 172) [] []] [] 0 (I (Q91 s.alts (fun (y:Alt)=>(!(Qb1 y))))) []:=by
      have hR:Q91 s.alts (fun (y:Alt)=>(!(Qb1 y)))=Q91 s.alts (fun (y:Alt)=>(!(Qb1 y))):=rfl;refine mo (kp 6 [7,8,9,16]) Tryz.func219 ?_;refine Qj0 (fun (i:Nat)=>Qu3 (fun (y:Alt)=>(!(Qb1 y))) (List.drop i s.alts) i=Q91 s.alts (fun (y:Alt)=>(!(Qb1 y)))∧i<=s.alts.length) (fun i=>s.alts.length - i) (fun i=>[(0,altL s.alts),(1,AVal.fn (.func 172) [] []),(4,I 0),(7,I (s.alts.length:Int)),(8,I (i:Int))]) (fun i=>[]) 0 (wk [] .nil (sl lw (sv (Q01 (Low.fn _ _ _ LowL.nil LowL.nil)) (s1 (s1 (s1 .nil)))))) ⟨foll hR rfl,by exact omA⟩ ?_;clear hR;rintro i ⟨hR,hj⟩;(try dsimp only at hR hj);refine ai (fun h7=>?_) (fun h8=>?_)
      ·have hlt:=ltA h7;rw [Qc0 Alt.zero hlt] at hR;refine ai gkA ?_;refine us (mv [] (cl1 (s.alts.getD i Alt.zero)) .nil (dl (Alt.low _ _) .nil) .nil rx) ?_;refine ai (fun h9=>?_) (fun h10=>?_)
       ·refine Qq0 (fun r:Int=>I r) (fun r:Int=>[]) (leaf:=(i:Int)) (foll hR (ct h9 rfl)) ?_;exact tt [] .nil t1
       ·exact Qn0 (i+1) (wk [] .nil (sl lw (sv (Q01 (Low.fn _ _ _ LowL.nil LowL.nil)) (s1 (s1 (sv (Qb0 (I_eq (wr omA)) lx) .nil)))))) omA ⟨foll hR (cf h10 rfl),by exact omA⟩
      ·rw [Qk0 (l:=s.alts) (j:=i) (geA h8)] at hR;refine Qq0 (fun r:Int=>I r) (fun r:Int=>[]) (leaf:=(-1)) (foll hR rfl) ?_;exact tt [] .nil t1
     refine us (mv [] (hof2) .nil (dl lw (dv (QE6 (Low.fn _ _ _ LowL.nil LowL.nil)) .nil)) .nil rx) ?_;refine Qq0 (fun r:Bool=>Bo r) (fun r:Bool=>[]) (leaf:=(decide ((Q91 s.alts (fun (y:Alt)=>(!(Qb1 y)))) >= 0))) (foll hR rfl) ?_;exact tt [] .nil t1
    (first|apply u2|apply u3|apply u4|apply us);exact mv [] (hof1) .nil (dl lw (dv (QE6 (Low.fn _ _ _ LowL.nil LowL.nil)) .nil)) .nil rx;exact Qf0 (((((((s.min==0)&&(s.max==0))&&(s.wall==0))&&(decide ((s.alts.length:Int) >= 1)))&&(decide ((s.alts.length:Int)<=6)))&&(QG5 s.alts))&&(!(QW0 s.alts (fun (y:Alt)=>(!(Qb1 y)))))) (wk [] .nil (s1 (s1 .nil))) (foll hR (cf h4 (ct h5 rfl)))
   ·refine ai (fun h11=>?_) (fun h12=>?_)
    ·(first|apply u2|apply u3|apply u4|apply us);exact Qta (⟨s.min,s.wall⟩:Alt) _;exact Qf0 (((((s.alts.length:Int)==0)&&(decide (s.min<=s.max)))&&(Qb1 (⟨s.min,s.wall⟩:Alt)))&&(decide (s.max<=48))) (wk [] .nil (s1 (s1 .nil))) (foll hR (cf h4 (cf h6 (ct h11 rfl))))
    ·exact Qf0 false (wk [] .nil (s1 (s1 .nil))) (foll hR (cf h4 (cf h6 (cf h12 rfl))))
def QH1 (r_:LexReader):Token × LexReader:=bif (!(QR7 ((Q40 r_ (fun (y:Int)=>(((decide (y >= 48))&&(decide (y<=57)))||((decide (y >= 97))&&(decide (y<=122)))))).1))) then ((⟨3,(Q40 r_ (fun (y:Int)=>(((decide (y >= 48))&&(decide (y<=57)))||((decide (y >= 97))&&(decide (y<=122)))))).1,0,0⟩:Token),(Q40 r_ (fun (y:Int)=>(((decide (y >= 48))&&(decide (y<=57)))||((decide (y >= 97))&&(decide (y<=122)))))).2) else bif (!(Q07 ((Q40 r_ (fun (y:Int)=>(((decide (y >= 48))&&(decide (y<=57)))||((decide (y >= 97))&&(decide (y<=122)))))).1)).2) then ((⟨2,⟨#[]⟩,(Q07 ((Q40 r_ (fun (y:Int)=>(((decide (y >= 48))&&(decide (y<=57)))||((decide (y >= 97))&&(decide (y<=122)))))).1)).1,0⟩:Token),(QX0 ((Q40 r_ (fun (y:Int)=>(((decide (y >= 48))&&(decide (y<=57)))||((decide (y >= 97))&&(decide (y<=122)))))).2) r_.at_ 50)) else ((⟨2,⟨#[]⟩,(Q07 ((Q40 r_ (fun (y:Int)=>(((decide (y >= 48))&&(decide (y<=57)))||((decide (y >= 97))&&(decide (y<=122)))))).1)).1,0⟩:Token),(Q40 r_ (fun (y:Int)=>(((decide (y >= 48))&&(decide (y<=57)))||((decide (y >= 97))&&(decide (y<=122)))))).2)
theorem Qjc (r_:LexReader) (hs0:r_.sz) (hp0:0<=r_.at_∧r_.at_<=(r_.line.length:Int)∧r_.line.length<=400):AMoves Tryz.prog 298 [AVal.ptr 0 0 4 0 0] [(0,AObj.row 273 4 [[runes r_.line,I r_.at_,I r_.bad,I r_.error]])] 1 (Token.a ((QH1 r_).1)) [(0,AObj.row 273 4 [[runes ((QH1 r_).2.line),I ((QH1 r_).2.at_),I ((QH1 r_).2.bad),I ((QH1 r_).2.error)]])]:=by
 generalize hR:QH1 r_=R;refine mo (kp 7 [15,24]) Tryz.func298 ?_;have hk0:=hs0;obtain z7:r_.line.length<=4294967296:=hs0;have cl1:∀ (y1:Int),AMoves Tryz.prog 311 [J y1] [] 0 (Bo ((fun (y:Int)=>(((decide (y >= 48))&&(decide (y<=57)))||((decide (y >= 97))&&(decide (y<=122))))) y1)) []:=by
  intro y1;have hR:(fun (y:Int)=>(((decide (y >= 48))&&(decide (y<=57)))||((decide (y >= 97))&&(decide (y<=122))))) y1=(fun (y:Int)=>(((decide (y >= 48))&&(decide (y<=57)))||((decide (y >= 97))&&(decide (y<=122))))) y1:=rfl;refine mo (kp 3 []) Tryz.func311 ?_;refine Qq0 (fun r:Bool=>Bo r) (fun _=>[]) (leaf:=(((decide (y1 >= 48))&&(decide (y1<=57)))||((decide (y1 >= 97))&&(decide (y1<=122))))) (foll hR rfl) ?_;exact tt [] .nil t1
 have hof1:AMoves Tryz.prog 283 [AVal.ptr 0 0 4 0 0,AVal.fn (.func 311) [] []] [(0,AObj.row 273 4 [[runes r_.line,I r_.at_,I r_.bad,I r_.error]])] 1 (Sg ((Q40 r_ (fun (y:Int)=>(((decide (y >= 48))&&(decide (y<=57)))||((decide (y >= 97))&&(decide (y<=122)))))).1)) [(0,AObj.row 273 4 [[runes (((Q40 r_ (fun (y:Int)=>(((decide (y >= 48))&&(decide (y<=57)))||((decide (y >= 97))&&(decide (y<=122)))))).2).line),I (((Q40 r_ (fun (y:Int)=>(((decide (y >= 48))&&(decide (y<=57)))||((decide (y >= 97))&&(decide (y<=122)))))).2).at_),I (((Q40 r_ (fun (y:Int)=>(((decide (y >= 48))&&(decide (y<=57)))||((decide (y >= 97))&&(decide (y<=122)))))).2).bad),I (((Q40 r_ (fun (y:Int)=>(((decide (y >= 48))&&(decide (y<=57)))||((decide (y >= 97))&&(decide (y<=122)))))).2).error)]])]:=by
  have hR:Q40 r_ (fun (y:Int)=>(((decide (y >= 48))&&(decide (y<=57)))||((decide (y >= 97))&&(decide (y<=122)))))=Q40 r_ (fun (y:Int)=>(((decide (y >= 48))&&(decide (y<=57)))||((decide (y >= 97))&&(decide (y<=122))))):=rfl;refine mo (kp 6 [33]) Tryz.func283 ?_;refine Qj0 (fun (c:LexReader)=>∃ m,(Int.toNat ((c.line.length:Int) - c.at_))<m∧QE0 r_ (QD0 (fun (y:Int)=>(((decide (y >= 48))&&(decide (y<=57)))||((decide (y >= 97))&&(decide (y<=122))))) m c)=Q40 r_ (fun (y:Int)=>(((decide (y >= 48))&&(decide (y<=57)))||((decide (y >= 97))&&(decide (y<=122)))))∧0<=c.at_∧c.at_<=(c.line.length:Int)∧c.line.length<=400∧r_.at_<=c.at_∧0<=r_.at_) (fun c=>(Int.toNat ((c.line.length:Int) - c.at_))) (fun c=>[(0,AVal.ptr 0 0 4 0 0),(1,AVal.fn (.func 311) [] []),(4,Sg ⟨#[]⟩),(5,I r_.at_)]) (fun c=>[(0,AObj.row 273 4 [[runes c.line,I c.at_,I c.bad,I c.error]])]) r_ (wk [0] (tO rfl (ts LexReader.lo) .nil) (sv (Q30 0 rfl rfl) (sv (Q01 (Low.fn _ _ _ LowL.nil LowL.nil)) (s1 (s1 .nil))))) ⟨_,Nat.lt_succ_self _,foll hR rfl,by exact exA⟩ ?_;clear hR;rintro c ⟨m,hm,hR,hx⟩;(try dsimp only at hR hm hx);obtain ⟨m,rfl⟩:=sucA m;refine dchk (by kernel_rfl) ?_;refine ai gkA ?_;(first|apply u2|apply u3|apply u4|apply us);exact mv [] (cl1 (c.line.getD (Int.toNat c.at_) 0)) .nil (d1 .nil) .nil rx;(repeat ((first|refine ai rfl ?_|refine ai (fun _=>rfl) ?_)));refine ai (fun h1=>?_) (fun h2=>?_)
  ·have hq1:=of_decide_eq_true ((Bool.and_eq_true _ _).mp h1).1;have hwr:w64 (c.at_+1)=c.at_+1:=wr (by omega);exact Qn0 { c with at_:=(w64 (c.at_+1)) } (wk [0] (tO rfl (ts LexReader.lo) .nil) (sv (Q30 0 rfl rfl) (sv (Q01 (Low.fn _ _ _ LowL.nil LowL.nil)) (s1 (s1 .nil))))) omA ⟨m,by exact omA,foll hR (congrArg (fun p:LexReader=>QE0 r_ p) (ct h1 rfl)),by exact exA⟩
  ·replace hR:QE0 r_ c=Q40 r_ (fun (y:Int)=>(((decide (y >= 48))&&(decide (y<=57)))||((decide (y >= 97))&&(decide (y<=122))))):=fo2 (fun p:LexReader=>QE0 r_ p) (c) hR (cf h2 rfl);refine dchk (by kernel_rfl) ?_;refine ai gkA ?_;(first|refine ⟨(List.drop (Int.toNat r_.at_) (List.take (Int.toNat c.at_) c.line)),by exact cvA,?_⟩|refine ⟨_,fun _=>⟨(List.drop (Int.toNat r_.at_) (List.take (Int.toNat c.at_) c.line)),by exact cvA,rfl,rfl⟩,?_⟩|refine ⟨_,rfl,⟨(List.drop (Int.toNat r_.at_) (List.take (Int.toNat c.at_) c.line)),by exact cvA,Sub.refl _,rfl⟩,?_⟩);(repeat ((first|refine ai rfl ?_|refine ai (fun _=>rfl) ?_)));refine Qq0 (fun r:ByteArray × LexReader=>Sg r.1) (fun r:ByteArray × LexReader=>[(0,AObj.row 273 4 [[runes r.2.line,I r.2.at_,I r.2.bad,I r.2.error]])]) (leaf:=((runesBytes (List.drop (Int.toNat r_.at_) (List.take (Int.toNat c.at_) c.line))),c)) (foll hR rfl) ?_;exact tt [0] (tO rfl (ts LexReader.lo) .nil) t1
 refine us (mv [0] (hof1) (dO (ds LexReader.lo) .nil) (dp (dv (QE6 (Low.fn _ _ _ LowL.nil LowL.nil)) .nil)) (rO (re LexReader.lo) .nil) rx) ?_;refine us (QPd ((Q40 r_ (fun (y:Int)=>(((decide (y >= 48))&&(decide (y<=57)))||((decide (y >= 97))&&(decide (y<=122)))))).1) (by first|(exact Q8a _ _ hp0.2.2)|exact szA) _) ?_;refine ai (fun h3=>?_) (fun h4=>?_)
 ·obtain rfl:=foll hR (ct h3 rfl);exact rq (tt [0] (tO rfl (ts LexReader.lo) .nil) (Q01 (Low.agg' (Token.lo))))
 ·refine us (lex_number_c ((Q40 r_ (fun (y:Int)=>(((decide (y >= 48))&&(decide (y<=57)))||((decide (y >= 97))&&(decide (y<=122)))))).1) (by first|(exact Q8a _ _ hp0.2.2)|exact szA) _) ?_;refine ai (fun h5=>?_) (fun h6=>?_)
  ·refine us (mv [0] (QJ3 ((Q40 r_ (fun (y:Int)=>(((decide (y >= 48))&&(decide (y<=57)))||((decide (y >= 97))&&(decide (y<=122)))))).2) r_.at_ 50) (dO (ds LexReader.lo) .nil) (dp (d1 (d1 .nil))) (rO (re LexReader.lo) .nil) rx) ?_;obtain rfl:=foll hR (cf h4 (ct h5 rfl));exact rq (tt [0] (tO rfl (ts LexReader.lo) .nil) (Q01 (Low.agg' (Token.lo))))
  ·obtain rfl:=foll hR (cf h4 (cf h6 rfl));exact rq (tt [0] (tO rfl (ts LexReader.lo) .nil) (Q01 (Low.agg' (Token.lo))))
attribute [local irreducible] QP0
def Q24 :List (Nat × Int)->Bool->List Int->ByteArray × Int
 | [],held,buf=>bif held then (⟨#[]⟩,50) else ((QT2 buf),0)
 | x_ :: r,held,buf=>bif ((held&&(x_.2 != 34))&&(x_.2 != 92)) then bif ((held&&(x_.2 != 34))&&(x_.2 != 92)) then (⟨#[]⟩,50) else bif ((!held)&&(x_.2==92)) then Q24 r true buf else Q24 r false (QP0 buf x_.2) else bif ((!held)&&(x_.2==34)) then (⟨#[]⟩,50) else bif ((!held)&&(x_.2==92)) then Q24 r true buf else Q24 r false (QP0 buf x_.2)
def Qs3 (s:ByteArray):ByteArray × Int:=bif ((QS4 s).2 != 0) then (⟨#[]⟩,(QS4 s).2) else bif (((decide ((ByteArray.size s:Int)<2))||(((s.data.toList.getD 0 0).toNat:Int)!=34))||(((s.data.toList.getD (Int.toNat (w64 ((ByteArray.size s:Int) - 1))) 0).toNat:Int)!=34)) then (⟨#[]⟩,50) else Q24 (Qk7 (s.extract 1 (Int.toNat (w64 ((ByteArray.size s:Int) - 1))))) false []
theorem Qra (s:ByteArray) (hs0:s.size<=4294967296) (hp0:ByteArray.size s<=1000000):∀ objs,AGives Tryz.prog 315 [Sg s] objs (AVal.tup [Sg ((Qs3 s).1),I ((Qs3 s).2)]):=by
 generalize hR:Qs3 s=R;refine ga (l1 .nil) (Low.tup' (l1 (l1 .nil))) (kp 10 [16,33,39,40,41,43,59,68]) Tryz.func315 ?_;have hk0:=hs0;obtain z19:s.size<=4294967296:=hs0;have hw0:w64 ((ByteArray.size s:Int) - 1)=(ByteArray.size s:Int) - 1:=wr (by omega);refine us (QBc s szA _) ?_;refine ai (fun h1=>?_) (fun h2=>?_)
 ·obtain rfl:=foll hR (ct h1 rfl);exact Q00 (Low.tup' (l1 (l1 .nil))) (Seen.tup (e1 (e1 .nil)))
 ·refine ai gkA ?_;refine ai gkA ?_;refine ai (fun h3=>?_) (fun h4=>?_)
  ·obtain rfl:=foll hR (cf h2 (ct h3 rfl));exact Q00 (Low.tup' (l1 (l1 .nil))) (Seen.tup (e1 (e1 .nil)))
  ·refine ai gkA ?_;refine Q17 (fun (held:Bool) (buf:List Int) (pos:Nat)=>∃ m,ByteArray.size (s.extract 1 (Int.toNat (w64 ((ByteArray.size s:Int) - 1)))) - pos<=m∧Q24 (Qw4 (s.extract 1 (Int.toNat (w64 ((ByteArray.size s:Int) - 1)))) m pos) held buf=R∧buf.length<=4*pos∧pos<=ByteArray.size s∧Qm7 buf) (fun held buf pos=>ByteArray.size (s.extract 1 (Int.toNat (w64 ((ByteArray.size s:Int) - 1)))) - pos) (fun held buf pos=>[(2,Sg ⟨#[]⟩),(3,I 0),(6,AVal.ptr 0 0 2 0 0),(7,Bo held),(39,AVal.ptr 1 0 1 0 0)]) (fun held buf pos=>[(0,AObj.row 293 2 [[AVal.sel 0 0 2 0 0,AVal.buf 2 0 1 buf.length]]),(0,AObj.other (.strIter (s.extract 1 (Int.toNat (w64 ((ByteArray.size s:Int) - 1)))) pos)),(0,AObj.row 5 1 (buf.map (fun q_=>[Y q_])))]) false [] 0 ((QG1 5 1).trans (wk [0,1,2] (tO rfl (QH0 (cv (turn_selnil) (cv (turn_nilbuf 2 rfl) .nil))) (tO rfl (.strIter _ _) (tO rfl (tl eqA) .nil))) (s1 (s1 (sv (Q30 0 rfl rfl) (s1 (sv (Q30 1 rfl rfl) .nil))))))) ⟨ByteArray.size (s.extract 1 (Int.toNat (w64 ((ByteArray.size s:Int) - 1)))),by exact omA,foll hR (cf h2 (cf h4 rfl)),by first|(have hsz:=extract_size s 1 (Int.toNat (w64 ((ByteArray.size s:Int) - 1)));refine ⟨?_,?_,?_⟩ <;> (try dsimp only) <;> first|omega|with_reducible exact Qt6|with_reducible exact hx.2.2|with_reducible exact Q38 _ _ hx.2.2|exact Nat.le_trans (QS3 _ _) (by omega)|(simp;done))|exact exA⟩ ?_;clear hR;rintro held buf pos ⟨m,hm,hR,hx⟩;(try dsimp only at hR hm hx);refine ai (fun h5=>?_) (fun h6=>?_)
   ·have hlt:=of_decide_eq_true h5;have hw:=QP7 (s.extract 1 (Int.toNat (w64 ((ByteArray.size s:Int) - 1)))) pos;have hwe:=QO7 (s.extract 1 (Int.toNat (w64 ((ByteArray.size s:Int) - 1)))) pos hlt;obtain ⟨m,rfl⟩:=sucA m;rw [Qw3 h5] at hR;refine ai (fun _=>?_) (fun h=>nomatch h);refine ai (fun h7=>?_) (fun h8=>?_)
    ·refine ai (fun h9=>?_) (fun h10=>?_)
     ·obtain rfl:=foll hR (ct h7 (ct h9 rfl));exact Q00 (Low.tup' (l1 (l1 .nil))) (Seen.tup (e1 (e1 .nil)))
     ·refine ai (fun h11=>?_) (fun h12=>?_)
      ·exact Qi3 true buf (pos+(Utf8.decode (s.extract 1 (Int.toNat (w64 ((ByteArray.size s:Int) - 1)))) pos).2) (wk [0,1,2] (tO rfl (QH0 (cv (turn_sel 0 rfl rfl) (cv (turn_buf 2 rfl rfl) .nil))) (tO rfl (.strIter _ _) (tO rfl (tl eqA) .nil))) (s1 (s1 (sv (Q30 0 rfl rfl) (s1 (sv (Q30 1 rfl rfl) .nil)))))) omA ⟨m,by exact omA,foll hR (ct h7 (cf h10 (ct h11 rfl))),by first|(have hsz:=extract_size s 1 (Int.toNat (w64 ((ByteArray.size s:Int) - 1)));refine ⟨?_,?_,?_⟩ <;> (try dsimp only) <;> first|omega|with_reducible exact Qt6|with_reducible exact hx.2.2|with_reducible exact Q38 _ _ hx.2.2|exact Nat.le_trans (QS3 _ _) (by omega)|(simp;done))|exact exA⟩
      ·refine us (mv [0,2] (QJf buf ((pos,((Utf8.decode (s.extract 1 (Int.toNat (w64 ((ByteArray.size s:Int) - 1)))) pos).1:Int)).2) szA) (dO (dc (dv (dn_sel rfl) (dv (dn_buf rfl) .nil))) (dO (dr eqA) .nil)) (dp (d1 .nil)) (rO (rc (rv (rp 0 0 rfl) (rv (rw_ 3 0 rfl) .nil))) (rO rr .nil)) (Ren.low _ (Low.tup' (l1 (l1 .nil))))) ?_;exact Qi3 false (QP0 buf (pos,((Utf8.decode (s.extract 1 (Int.toNat (w64 ((ByteArray.size s:Int) - 1)))) pos).1:Int)).2) (pos+(Utf8.decode (s.extract 1 (Int.toNat (w64 ((ByteArray.size s:Int) - 1)))) pos).2) (wk [0,1,3] (tO rfl (QH0 (cv (QNb 0 rfl rfl) (cv (QJh 2 rfl rfl lnA (by first|with_reducible exact QI8 _ _|(simp;done)|grind)) .nil))) (tO rfl (.strIter _ _) (tO rfl (tl eqA) .nil))) (s1 (s1 (sv (Q30 0 rfl rfl) (s1 (sv (Q30 1 rfl rfl) .nil)))))) omA ⟨m,by exact omA,foll hR (ct h7 (cf h10 (cf h12 rfl))),by first|(have hsz:=extract_size s 1 (Int.toNat (w64 ((ByteArray.size s:Int) - 1)));refine ⟨?_,?_,?_⟩ <;> (try dsimp only) <;> first|omega|with_reducible exact Qt6|with_reducible exact hx.2.2|with_reducible exact Q38 _ _ hx.2.2|exact Nat.le_trans (QS3 _ _) (by omega)|(simp;done))|exact exA⟩
    ·refine ai (fun h13=>?_) (fun h14=>?_)
     ·obtain rfl:=foll hR (cf h8 (ct h13 rfl));exact Q00 (Low.tup' (l1 (l1 .nil))) (Seen.tup (e1 (e1 .nil)))
     ·refine ai (fun h15=>?_) (fun h16=>?_)
      ·exact Qi3 true buf (pos+(Utf8.decode (s.extract 1 (Int.toNat (w64 ((ByteArray.size s:Int) - 1)))) pos).2) (wk [0,1,2] (tO rfl (QH0 (cv (turn_sel 0 rfl rfl) (cv (turn_buf 2 rfl rfl) .nil))) (tO rfl (.strIter _ _) (tO rfl (tl eqA) .nil))) (s1 (s1 (sv (Q30 0 rfl rfl) (s1 (sv (Q30 1 rfl rfl) .nil)))))) omA ⟨m,by exact omA,foll hR (cf h8 (cf h14 (ct h15 rfl))),by first|(have hsz:=extract_size s 1 (Int.toNat (w64 ((ByteArray.size s:Int) - 1)));refine ⟨?_,?_,?_⟩ <;> (try dsimp only) <;> first|omega|with_reducible exact Qt6|with_reducible exact hx.2.2|with_reducible exact Q38 _ _ hx.2.2|exact Nat.le_trans (QS3 _ _) (by omega)|(simp;done))|exact exA⟩
      ·refine us (mv [0,2] (QJf buf ((pos,((Utf8.decode (s.extract 1 (Int.toNat (w64 ((ByteArray.size s:Int) - 1)))) pos).1:Int)).2) szA) (dO (dc (dv (dn_sel rfl) (dv (dn_buf rfl) .nil))) (dO (dr eqA) .nil)) (dp (d1 .nil)) (rO (rc (rv (rp 0 0 rfl) (rv (rw_ 3 0 rfl) .nil))) (rO rr .nil)) (Ren.low _ (Low.tup' (l1 (l1 .nil))))) ?_;exact Qi3 false (QP0 buf (pos,((Utf8.decode (s.extract 1 (Int.toNat (w64 ((ByteArray.size s:Int) - 1)))) pos).1:Int)).2) (pos+(Utf8.decode (s.extract 1 (Int.toNat (w64 ((ByteArray.size s:Int) - 1)))) pos).2) (wk [0,1,3] (tO rfl (QH0 (cv (QNb 0 rfl rfl) (cv (QJh 2 rfl rfl lnA (by first|with_reducible exact QI8 _ _|(simp;done)|grind)) .nil))) (tO rfl (.strIter _ _) (tO rfl (tl eqA) .nil))) (s1 (s1 (sv (Q30 0 rfl rfl) (s1 (sv (Q30 1 rfl rfl) .nil)))))) omA ⟨m,by exact omA,foll hR (cf h8 (cf h14 (cf h16 rfl))),by first|(have hsz:=extract_size s 1 (Int.toNat (w64 ((ByteArray.size s:Int) - 1)));refine ⟨?_,?_,?_⟩ <;> (try dsimp only) <;> first|omega|with_reducible exact Qt6|with_reducible exact hx.2.2|with_reducible exact Q38 _ _ hx.2.2|exact Nat.le_trans (QS3 _ _) (by omega)|(simp;done))|exact exA⟩
   ·rw [QI5 h6] at hR;refine ai (fun h=>nomatch h) (fun _=>?_);refine ai (fun h17=>?_) (fun h18=>?_)
    ·obtain rfl:=foll hR (ct h17 rfl);exact Q00 (Low.tup' (l1 (l1 .nil))) (Seen.tup (e1 (e1 .nil)))
    ·refine us (mv [0,2] (String_c buf (by first|(with_reducible exact hx.2.2)|first|assumption|exact Qt6|grind) szA) (dO (dc (dv (dn_any) (dv (dn_bufbuf rfl) .nil))) (dO (dr eqA) .nil)) (dp .nil) (rO (re (.cons Low.any (.cons Low.any .nil))) .nil) rx) ?_;obtain rfl:=foll hR (cf h18 rfl);exact Q00 (Low.tup' (l1 (l1 .nil))) (Seen.tup (e1 (e1 .nil)))
def QY2 (l:List Node):Int:=bif (((decide ((l.length:Int)<1))||(decide ((l.length:Int) > 48)))||(QA2 l (fun (y:Node)=>(!(Q82 y))))) then 120 else 0
theorem Qm9 (l:List Node) (hs0:l.length<=4294967296):∀ objs,AGives Tryz.prog 126 [nodeL l] objs (I (QY2 l)):=by
 generalize hR:QY2 l=R;refine ga (.cons lw .nil) lx (kp 3 [14]) Tryz.func126 ?_;have hk0:=hs0;obtain z7:l.length<=4294967296:=hs0;have cl1:∀ (y1:Node),AMoves Tryz.prog 195 [Node.a y1] [] 0 (Bo ((fun (y:Node)=>(!(Q82 y))) y1)) []:=by
  intro y1;have hR:(fun (y:Node)=>(!(Q82 y))) y1=(fun (y:Node)=>(!(Q82 y))) y1:=rfl;refine mo (kp 3 []) Tryz.func195 ?_;refine us (fleet_fine_c y1 _) ?_;refine Qq0 (fun r:Bool=>Bo r) (fun _=>[]) (leaf:=(!(Q82 y1))) (foll hR rfl) ?_;exact tt [] .nil t1
 have hof1:AMoves Tryz.prog 194 [nodeL l,AVal.fn (.func 195) [] []] [] 0 (Bo (QA2 l (fun (y:Node)=>(!(Q82 y))))) []:=by
  have hR:QA2 l (fun (y:Node)=>(!(Q82 y)))=QA2 l (fun (y:Node)=>(!(Q82 y))):=rfl;refine mo (kp 5 []) Tryz.func194 ?_;have hof2:AMoves Tryz.prog 227 [nodeL l,AVal.fn (.func 195) [] []] [] 0 (I (QB2 l (fun (y:Node)=>(!(Q82 y))))) []:=by
   have hR:QB2 l (fun (y:Node)=>(!(Q82 y)))=QB2 l (fun (y:Node)=>(!(Q82 y))):=rfl;refine mo (kp 6 [7,8,9,16]) Tryz.func227 ?_;refine Qj0 (fun (i:Nat)=>QG4 (fun (y:Node)=>(!(Q82 y))) (List.drop i l) i=QB2 l (fun (y:Node)=>(!(Q82 y)))∧i<=l.length) (fun i=>l.length - i) (fun i=>[(0,nodeL l),(1,AVal.fn (.func 195) [] []),(4,I 0),(7,I (l.length:Int)),(8,I (i:Int))]) (fun i=>[]) 0 (wk [] .nil (sl lw (sv (Q01 (Low.fn _ _ _ LowL.nil LowL.nil)) (s1 (s1 (s1 .nil)))))) ⟨foll hR rfl,by exact omA⟩ ?_;clear hR;rintro i ⟨hR,hj⟩;(try dsimp only at hR hj);refine ai (fun h1=>?_) (fun h2=>?_)
   ·have hlt:=ltA h1;rw [Qc0 Node.zero hlt] at hR;refine ai gkA ?_;refine us (mv [] (cl1 (l.getD i Node.zero)) .nil (dl (Node.low _ _) .nil) .nil rx) ?_;refine ai (fun h3=>?_) (fun h4=>?_)
    ·refine Qq0 (fun r:Int=>I r) (fun r:Int=>[]) (leaf:=(i:Int)) (foll hR (ct h3 rfl)) ?_;exact tt [] .nil t1
    ·exact Qn0 (i+1) (wk [] .nil (sl lw (sv (Q01 (Low.fn _ _ _ LowL.nil LowL.nil)) (s1 (s1 (sv (Qb0 (I_eq (wr omA)) lx) .nil)))))) omA ⟨foll hR (cf h4 rfl),by exact omA⟩
   ·rw [Qk0 (l:=l) (j:=i) (geA h2)] at hR;refine Qq0 (fun r:Int=>I r) (fun r:Int=>[]) (leaf:=(-1)) (foll hR rfl) ?_;exact tt [] .nil t1
  refine us (mv [] (hof2) .nil (dl lw (dv (QE6 (Low.fn _ _ _ LowL.nil LowL.nil)) .nil)) .nil rx) ?_;refine Qq0 (fun r:Bool=>Bo r) (fun r:Bool=>[]) (leaf:=(decide ((QB2 l (fun (y:Node)=>(!(Q82 y)))) >= 0))) (foll hR rfl) ?_;exact tt [] .nil t1
 (first|apply u2|apply u3|apply u4|apply us);exact mv [] (hof1) .nil (dl lw (dv (QE6 (Low.fn _ _ _ LowL.nil LowL.nil)) .nil)) .nil rx;refine ai (fun h5=>?_) (fun h6=>?_)
 ·obtain rfl:=foll hR (ct h5 rfl);exact Q00 lx sr
 ·obtain rfl:=foll hR (cf h6 rfl);exact Q00 lx sr
def Qv5 (l:List Usage):List Usage->Nat->Int
 | [],_=>0
 | x_ :: r,i=>bif ((((((!(Ql6 x_.user))||(!(Ql6 x_.account)))||(x_.used != (Qa6 x_.used)))||(decide (x_.share<0)))||(decide (x_.share > x_.used)))||((decide ((i:Int) > 0))&&(decide ((Qs7 (l.getD (Int.toNat (w64 ((i:Int) - 1))) Usage.zero) x_) >= 0)))) then 2 else Qv5 l r (i+1)
def Qw2 (l:List Usage):Int:=bif (decide ((l.length:Int) > 200)) then 2 else Qv5 l l 0
theorem QZa (l:List Usage) (hs0:l.length<=4294967296∧(∀ y ∈ l,y.sz)):∀ objs,AGives Tryz.prog 59 [Qe3 l] objs (I (Qw2 l)):=by
 generalize hR:Qw2 l=R;refine ga (.cons lw .nil) lx (kp 5 [7,8,9,10,11,58]) Tryz.func59 ?_;have hk0:=hs0;obtain ⟨z9,z10⟩:l.length<=4294967296∧(∀ y ∈ l,y.sz):=hs0;refine ai (fun h1=>?_) (fun h2=>?_)
 ·have qh1:=of_decide_eq_true h1;obtain rfl:=foll hR (ct h1 rfl);exact Q00 lx sr
 ·have qh2:=of_decide_eq_false h2;refine Qj0 (fun (i:Nat)=>Qv5 l (List.drop i l) i=R∧i<=l.length) (fun i=>l.length - i) (fun i=>[(0,Qe3 l),(2,I 0),(8,Qe3 l),(9,I (l.length:Int)),(10,I (i:Int))]) (fun i=>[]) 0 (wk [] .nil (sl lw (s1 (sl lw (s1 (s1 .nil)))))) ⟨foll hR (cf h2 rfl),by exact omA⟩ ?_;clear hR;rintro i ⟨hR,hj⟩;(try dsimp only at hR hj);refine ai (fun h3=>?_) (fun h4=>?_)
  ·have hlt:=ltA h3;rw [Qc0 Usage.zero hlt] at hR;have hxz:(l.getD i Usage.zero).sz:=Q90 (by first|assumption|grind) (Usage.szz _);have hkz:=hxz;obtain ⟨z5,z6⟩:((l.getD i Usage.zero).user).size<=4294967296∧((l.getD i Usage.zero).account).size<=4294967296:=hxz;refine ai gkA ?_;refine dchk (by kernel_rfl) ?_;(first|apply u2|apply u3|apply u4|apply us);exact QJ7 ((l.getD i Usage.zero).user) _;(first|apply u2|apply u3|apply u4|apply us);exact QJ7 ((l.getD i Usage.zero).account) _;(first|apply u2|apply u3|apply u4|apply us);exact QH9 ((l.getD i Usage.zero).used) _;refine ai gkA ?_;(first|apply u2|apply u3|apply u4|apply us);exact Q1b (l.getD (Int.toNat (w64 ((i:Int) - 1))) Usage.zero) (l.getD i Usage.zero) szA szA _;(repeat ((first|refine ai rfl ?_|refine ai (fun _=>rfl) ?_|refine ai (fun _=>QJ7 ((l.getD i Usage.zero).user) _) ?_|refine ai (fun _=>QJ7 ((l.getD i Usage.zero).account) _) ?_|refine ai (fun _=>QH9 ((l.getD i Usage.zero).used) _) ?_|refine ai (fun _=>Q1b (l.getD (Int.toNat (w64 ((i:Int) - 1))) Usage.zero) (l.getD i Usage.zero) szA szA _) ?_)));refine ai (fun h7=>?_) (fun h8=>?_)
   ·obtain rfl:=foll hR (ct h7 rfl);exact Q00 lx sr
   ·exact Qn0 (i+1) (wk [] .nil (sl lw (s1 (sl lw (s1 (sv (Qb0 (I_eq (wr omA)) lx) .nil)))))) omA ⟨foll hR (cf h8 rfl),by exact omA⟩
  ·rw [Qk0 (l:=l) (j:=i) (geA h4)] at hR;obtain rfl:=foll hR rfl;exact Q00 lx sr
def QW1 (p_:List Step) (from_:Int) (latest:Int) (grace:Int) (options1:List Alt):List Alt->Int->Int->Bool->Nat->Int × Int × Bool
 | [],choice,start,found,_=>(choice,start,found)
 | x_ :: r,choice,start,found,i=>bif ((!(Qg3 x_.wall x_.nodes))||(decide ((max grace 0) > (w64 (1000000 - x_.wall))))) then QW1 p_ from_ latest grace options1 r choice start found (i+1) else bif ((!((Q93 p_ from_ (w64 (x_.wall+(max grace 0))) x_.nodes).2&&(decide ((Q93 p_ from_ (w64 (x_.wall+(max grace 0))) x_.nodes).1<=latest))))||(found&&(decide ((w64 ((Q93 p_ from_ (w64 (x_.wall+(max grace 0))) x_.nodes).1+x_.wall)) >= (w64 (start+(options1.getD (Int.toNat choice) Alt.zero).wall)))))) then QW1 p_ from_ latest grace options1 r choice start found (i+1) else QW1 p_ from_ latest grace options1 r (i:Int) ((Q93 p_ from_ (w64 (x_.wall+(max grace 0))) x_.nodes).1) true (i+1)
def Qs5 (choice:Int) (start:Int) (found:Bool):Int × Int × Bool:=(choice,start,found)
def Q98 (p_:List Step) (from_:Int) (latest:Int) (grace:Int) (options1:List Alt):Int × Int × Bool:=Qs5 ((QW1 p_ from_ latest grace options1 options1 0 0 false 0).1) ((QW1 p_ from_ latest grace options1 options1 0 0 false 0).2.1) ((QW1 p_ from_ latest grace options1 options1 0 0 false 0).2.2)
def QG6 (p_:List Step) (options:List Alt) (from_:Int) (latest:Int) (grace:Int):Int × Int × Bool:=bif (decide ((options.length:Int) > 48)) then Q98 p_ from_ latest grace (List.take 48 options) else Q98 p_ from_ latest grace options
theorem fit_Best_c (p_:List Step) (options:List Alt) (from_:Int) (latest:Int) (grace:Int) (hs0:p_.length<=4294967296) (hs1:options.length<=4294967296):∀ objs,AGives Tryz.prog 46 [stepL p_,altL options,I from_,I latest,I grace] objs (AVal.tup [I ((QG6 p_ options from_ latest grace).1),I ((QG6 p_ options from_ latest grace).2.1),Bo ((QG6 p_ options from_ latest grace).2.2)]):=by
 generalize hR:QG6 p_ options from_ latest grace=R;refine ga (.cons lw (.cons lw (l1 (l1 (l1 .nil))))) (Low.tup' (l1 (l1 (l1 .nil)))) (kj [1000003] 21 [23,29,30,31,32,60]) Tryz.func46 ?_;have hk0:=hs0;obtain z9:p_.length<=4294967296:=hs0;have hk1:=hs1;obtain z10:options.length<=4294967296:=hs1;refine QZ1 (fun (options1:List Alt)=>Q98 p_ from_ latest grace options1=R∧options1.length<=4294967296) (fun options1=>[(1,altL options1),(5,AVal.ptr 0 0 1 0 0),(7,AVal.ptr 1 0 1 0 0),(8,AVal.ptr 2 0 1 0 0),(9,AVal.ptr 3 0 1 0 0),(10,I 0),(11,I 0),(12,Bo false)]) (fun options1=>[(0,AObj.row 72 1 [[stepL p_]]),(0,AObj.row 3 1 [[I from_]]),(0,AObj.row 3 1 [[I latest]]),(0,AObj.row 3 1 [[I grace]])]) ?_ ?_
 ·clear hR;rintro options1 ⟨hR,hx⟩;(try dsimp only at hR hx);refine Qwg (fun (choice:Int) (start:Int) (found:Bool) (i:Nat)=>Qs5 (QW1 p_ from_ latest grace options1 (List.drop i options1) choice start found i).1 (QW1 p_ from_ latest grace options1 (List.drop i options1) choice start found i).2.1 (QW1 p_ from_ latest grace options1 (List.drop i options1) choice start found i).2.2=R∧i<=options1.length∧(found=true->0<=choice∧choice<(options1.length:Int))) (fun choice start found i=>options1.length - i) (fun choice start found i=>[(1,altL options1),(10,I 0),(11,I 0),(12,Bo false),(13,AVal.fn (.func 102) [] [AVal.ptr 3 0 1 0 0,AVal.ptr 0 0 1 0 0,AVal.ptr 1 0 1 0 0,AVal.ptr 2 0 1 0 0]),(14,I choice),(15,I start),(16,Bo found),(29,altL options1),(30,I (options1.length:Int)),(31,I (i:Int))]) (fun choice start found i=>[(0,AObj.row 72 1 [[stepL p_]]),(0,AObj.row 3 1 [[I from_]]),(0,AObj.row 3 1 [[I latest]]),(0,AObj.row 3 1 [[I (max grace 0)]])]) 0 0 false 0 (wk [0,1,2,3] (tO rfl (ts (lv lw LowL.nil)) (tO rfl (ts (l1 LowL.nil)) (tO rfl (ts (l1 LowL.nil)) (tO rfl (ts (l1 LowL.nil)) .nil)))) (sl lw (s1 (s1 (s1 (sv (QZ0 .nil (cv (Q30 3 rfl rfl) (cv (Q30 0 rfl rfl) (cv (Q30 1 rfl rfl) (cv (Q30 2 rfl rfl) .nil))))) (s1 (s1 (s1 (sl lw (s1 (s1 .nil)))))))))))) ⟨foll hR rfl,by exact omA,by first|((exact hx))|first|((exact fun h=>absurd h (by decide)))|first|((exact fun _=>⟨by omega,by omega⟩))|exact exA⟩ ?_;clear hR;rintro choice start found i ⟨hR,hj,hx⟩;(try dsimp only at hR hj hx);refine ai (fun h1=>?_) (fun h2=>?_)
  ·have hlt:=ltA h1;rw [Qc0 Alt.zero hlt] at hR;refine And.intro (by first|exact fun hg=>decide_eq_true (by first|((have q:=(Bool.and_eq_true_iff.1 hg).2;have q2:=hx q;omega))|exact ckA)|exact gkA) ?_;refine ACalls.of_cwp (fun _=>true) Tryz.func102 rfl rfl ?_;refine us (Q4d ((options1.getD i Alt.zero).wall) ((options1.getD i Alt.zero).nodes) _) ?_;refine ai (fun h3=>?_) (fun h4=>?_)
   ·refine ⟨_,_,Told.refl,?_⟩;refine dchk (by kernel_rfl) ?_;refine ai (fun hg=>nomatch (show false=true from hg)) ?_;(repeat ((first|refine ai rfl ?_|refine ai (fun _=>rfl) ?_)));refine ai (fun _=>?_) (fun h=>nomatch h);exact Qx6 choice start found (i+1) (wk [0,1,2,3] (tO rfl (ts (lv lw LowL.nil)) (tO rfl (ts (l1 LowL.nil)) (tO rfl (ts (l1 LowL.nil)) (tO rfl (ts (l1 LowL.nil)) .nil)))) (sl lw (s1 (s1 (s1 (sv (QZ0 .nil (cv (Q30 3 rfl rfl) (cv (Q30 0 rfl rfl) (cv (Q30 1 rfl rfl) (cv (Q30 2 rfl rfl) .nil))))) (s1 (s1 (s1 (sl lw (s1 (sv (Qb0 (I_eq (wr omA)) lx) .nil)))))))))))) omA ⟨foll hR (congrArg (fun p:Int × Int × Bool=>Qs5 p.1 p.2.1 p.2.2) (ct h3 rfl)),by exact omA,by first|((exact hx))|first|((exact fun h=>absurd h (by decide)))|first|((exact fun _=>⟨by omega,by omega⟩))|exact exA⟩
   ·refine us (fit_Earliest_c p_ from_ (w64 ((options1.getD i Alt.zero).wall+(max grace 0))) ((options1.getD i Alt.zero).nodes) szA _) ?_;refine dchk (by kernel_rfl) ?_;(repeat ((first|refine ai rfl ?_|refine ai (fun _=>rfl) ?_)));refine ⟨_,_,Told.refl,?_⟩;refine dchk (by kernel_rfl) ?_;refine And.intro (by first|exact fun hg=>decide_eq_true (by first|((have q:=(Bool.and_eq_true_iff.1 hg).2;have q2:=hx q;omega))|exact ckA)|exact gkA) ?_;(repeat ((first|refine ai rfl ?_|refine ai (fun _=>rfl) ?_)));refine ai (fun h5=>?_) (fun h6=>?_)
    ·exact Qx6 choice start found (i+1) (wk [0,1,2,3] (tO rfl (ts (lv lw LowL.nil)) (tO rfl (ts (l1 LowL.nil)) (tO rfl (ts (l1 LowL.nil)) (tO rfl (ts (l1 LowL.nil)) .nil)))) (sl lw (s1 (s1 (s1 (sv (QZ0 .nil (cv (Q30 3 rfl rfl) (cv (Q30 0 rfl rfl) (cv (Q30 1 rfl rfl) (cv (Q30 2 rfl rfl) .nil))))) (s1 (s1 (s1 (sl lw (s1 (sv (Qb0 (I_eq (wr omA)) lx) .nil)))))))))))) omA ⟨foll hR (congrArg (fun p:Int × Int × Bool=>Qs5 p.1 p.2.1 p.2.2) (cf h4 (ct h5 rfl))),by exact omA,by first|((exact hx))|first|((exact fun h=>absurd h (by decide)))|first|((exact fun _=>⟨by omega,by omega⟩))|exact exA⟩
    ·exact Qx6 (i:Int) ((Q93 p_ from_ (w64 ((options1.getD i Alt.zero).wall+(max grace 0))) (options1.getD i Alt.zero).nodes).1) true (i+1) (wk [0,1,2,3] (tO rfl (ts (lv lw LowL.nil)) (tO rfl (ts (l1 LowL.nil)) (tO rfl (ts (l1 LowL.nil)) (tO rfl (ts (l1 LowL.nil)) .nil)))) (sl lw (s1 (s1 (s1 (sv (QZ0 .nil (cv (Q30 3 rfl rfl) (cv (Q30 0 rfl rfl) (cv (Q30 1 rfl rfl) (cv (Q30 2 rfl rfl) .nil))))) (s1 (s1 (s1 (sl lw (s1 (sv (Qb0 (I_eq (wr omA)) lx) .nil)))))))))))) omA ⟨foll hR (congrArg (fun p:Int × Int × Bool=>Qs5 p.1 p.2.1 p.2.2) (cf h4 (cf h6 rfl))),by exact omA,by first|((exact hx))|first|((exact fun h=>absurd h (by decide)))|first|((exact fun _=>⟨by omega,by omega⟩))|exact exA⟩
  ·rw [Qk0 (l:=options1) (j:=i) (geA h2)] at hR;replace hR:Qs5 choice start found=R:=fo2 (fun p:Int × Int × Bool=>Qs5 p.1 p.2.1 p.2.2) (choice,start,found) hR rfl;obtain rfl:=foll hR rfl;exact Q00 (Low.tup' (l1 (l1 (l1 .nil)))) (Seen.tup (e1 (e1 (e1 .nil))))
 ·refine ai (fun h7=>?_) (fun h8=>?_)
  ·have qh7:=of_decide_eq_true h7;refine And.intro (by first|exact fun hg=>decide_eq_true (by first|((have q:=(Bool.and_eq_true_iff.1 hg).2;have q2:=hx q;omega))|exact ckA)|exact gkA) ?_;exact Qf0 (List.take 48 options) (wk [0,1,2,3] (tO rfl (ts (lv lw LowL.nil)) (tO rfl (ts (l1 LowL.nil)) (tO rfl (ts (l1 LowL.nil)) (tO rfl (ts (l1 LowL.nil)) .nil)))) (sv (turn_as (as_take options 48 (by first|((have q:=(Bool.and_eq_true_iff.1 hg).2;have q2:=hx q;omega))|exact ckA)) lw) (sv (Q30 0 rfl rfl) (sv (Q30 1 rfl rfl) (sv (Q30 2 rfl rfl) (sv (Q30 3 rfl rfl) (s1 (s1 (s1 .nil))))))))) (⟨foll hR (ct h7 rfl),by first|((exact hx))|first|((exact fun h=>absurd h (by decide)))|first|((exact fun _=>⟨by omega,by omega⟩))|exact exA⟩)
  ·have qh8:=of_decide_eq_false h8;exact Qf0 options (wk [0,1,2,3] (tO rfl (ts (lv lw LowL.nil)) (tO rfl (ts (l1 LowL.nil)) (tO rfl (ts (l1 LowL.nil)) (tO rfl (ts (l1 LowL.nil)) .nil)))) (sl lw (sv (Q30 0 rfl rfl) (sv (Q30 1 rfl rfl) (sv (Q30 2 rfl rfl) (sv (Q30 3 rfl rfl) (s1 (s1 (s1 .nil))))))))) (⟨foll hR (cf h8 rfl),by first|((exact hx))|first|((exact fun h=>absurd h (by decide)))|first|((exact fun _=>⟨by omega,by omega⟩))|exact exA⟩)
def Qt1 (t:Taken) (from_:Int) (to_:Int) (n:Int):Taken:=bif ((decide (to_<=from_))||(n==0)) then t else bif ((Qx1 t.p from_ to_ (w64 (0 - n))).2==0) then (⟨(Qx1 t.p from_ to_ (w64 (0 - n))).1⟩:Taken) else t
theorem Q67 (t:Taken) (from_:Int) (to_:Int) (n:Int) (hs0:t.sz):AMoves Tryz.prog 107 [AVal.ptr 0 0 1 0 0,I from_,I to_,I n] [(0,AObj.row 132 1 [[stepL t.p]])] 1 (AVal.tup []) [(0,AObj.row 132 1 [[stepL ((Qt1 t from_ to_ n).p)]])]:=by
 generalize hR:Qt1 t from_ to_ n=R;refine mo (kp 10 [16,30]) Tryz.func107 ?_;have hk0:=hs0;obtain z5:t.p.length<=4294967296:=hs0;refine ai (fun h1=>?_) (fun h2=>?_)
 ·obtain rfl:=foll hR (ct h1 rfl);exact rq (tt [0] (tO rfl (ts Taken.lo) .nil) t1)
 ·refine us (Qw9 t.p from_ to_ (w64 (0 - n)) szA _) ?_;refine ai (fun h3=>?_) (fun h4=>?_)
  ·obtain rfl:=foll hR (cf h2 (ct h3 rfl));exact rq (tt [0] (tO rfl (ts Taken.lo) .nil) t1)
  ·obtain rfl:=foll hR (cf h2 (cf h4 rfl));exact rq (tt [0] (tO rfl (ts Taken.lo) .nil) t1)
theorem Qr2 {t:Taken} {f g n:Int} (h:t.p.length<=4294967296):(Qt1 t f g n).p.length<=4294967296:=by
 unfold Qt1
 repeat' first|exact h|exact Qd8 _ _ _ _ h|(rw [Bool.cond_eq_ite];split)
theorem QAa (n:Int):(QP2 n).length<=4294967296:=by simp [QP2]
def QI7 (p_:List Step) (at_:Int) (long:Int) (nodes:Int):Bool:=bif ((((QT1 p_)!=0)||(!(Qg3 long nodes)))||(!(Q45 at_ 0 (w64 (1000000 - long))))) then false else (decide ((QF0 p_ at_ (w64 (at_+long))) >= nodes))
theorem fit_Fits_c (p_:List Step) (at_:Int) (long:Int) (nodes:Int) (hs0:p_.length<=4294967296):∀ objs,AGives Tryz.prog 136 [stepL p_,I at_,I long,I nodes] objs (Bo (QI7 p_ at_ long nodes)):=by
 generalize hR:QI7 p_ at_ long nodes=R;refine ga (.cons lw (l1 (l1 (l1 .nil)))) lx (kp 9 [24]) Tryz.func136 ?_;have hk0:=hs0;obtain z3:p_.length<=4294967296:=hs0;refine us (Qw5 p_ szA _) ?_;(first|apply u2|apply u3|apply u4|apply us);exact Q4d long nodes _;(first|apply u2|apply u3|apply u4|apply us);exact Q0a at_ 0 (w64 (1000000 - long)) _;refine ai (fun h1=>?_) (fun h2=>?_)
 ·obtain rfl:=foll hR (ct h1 rfl);exact Q00 lx sr
 ·refine us (Qea p_ at_ (w64 (at_+long)) szA _) ?_;obtain rfl:=foll hR (cf h2 rfl);exact Q00 lx sr
def QY3 (s:ByteArray):Nat->List Int->Int->(List Int) × Int
 | 0,_,_=>([],0)
 | m+1,out,i=>bif (decide (i<(w64 ((ByteArray.size s:Int) - 1)))) then bif ((((s.data.toList.getD (Int.toNat i) 0).toNat:Int)==92)&&(decide ((w64 (i+1))<(w64 ((ByteArray.size s:Int) - 1))))) then QY3 s m (out++([((s.data.toList.getD (Int.toNat (w64 (i+1))) 0).toNat:Int)]:List Int)) (w64 ((w64 (i+1))+1)) else QY3 s m (out++([((s.data.toList.getD (Int.toNat i) 0).toNat:Int)]:List Int)) (w64 (i+1)) else (out,i)
def QZ3 (s:ByteArray) (out:List Int) (i:Int):ByteArray × Int:=bif (((Qe8 (QT2 out)).2 != 0)||(!(ByteArray.toList (Qe8 (QT2 out)).1==ByteArray.toList s))) then (⟨#[]⟩,50) else ((QT2 out),0)
def QR5 (s:ByteArray):ByteArray × Int:=bif ((QR3 s).2 != 0) then (⟨#[]⟩,(QR3 s).2) else QZ3 s ((QY3 s ((Int.toNat ((w64 ((ByteArray.size s:Int) - 1)) - 1))+1) [] 1).1) ((QY3 s ((Int.toNat ((w64 ((ByteArray.size s:Int) - 1)) - 1))+1) [] 1).2)
theorem QMg (s:ByteArray) (hs0:s.size<=4294967296):∀ objs,AGives Tryz.prog 307 [Sg s] objs (AVal.tup [Sg ((QR5 s).1),I ((QR5 s).2)]):=by
 generalize hR:QR5 s=R;refine ga (l1 .nil) (Low.tup' (l1 (l1 .nil))) (kp 10 [16,22,36,57]) Tryz.func307 ?_;have hk0:=hs0;obtain z9:s.size<=4294967296:=hs0;refine us (Qz9 s szA _) ?_;refine ai (fun h1=>?_) (fun h2=>?_)
 ·obtain rfl:=foll hR (ct h1 rfl);exact Q00 (Low.tup' (l1 (l1 .nil))) (Seen.tup (e1 (e1 .nil)))
 ·refine Qs0 (fun (out:List Int) (i:Int)=>∃ m,(Int.toNat ((w64 ((ByteArray.size s:Int) - 1)) - i))<m∧QZ3 s (QY3 s m out i).1 (QY3 s m out i).2=R∧1<=i∧i<=(ByteArray.size s:Int)+1∧(out.length:Int)+1<=i) (fun out i=>(Int.toNat ((w64 ((ByteArray.size s:Int) - 1)) - i))) (fun out i=>[(0,Sg s),(2,Sg ⟨#[]⟩),(3,I 0),(6,AVal.own 0 0 1 0 out.length),(7,I i)]) (fun out i=>[(0,AObj.row 5 1 (out.map (fun q_=>[Y q_])))]) [] 1 ((QG1 5 1).trans (wk [0] (tO rfl (tl eqA) .nil) (s1 (s1 (s1 (sv (Qo1 0 rfl) (s1 .nil))))))) ⟨_,Nat.lt_succ_self _,foll hR (cf h2 rfl),by exact exA⟩ ?_;clear hR;rintro out i ⟨m,hm,hR,hx⟩;(try dsimp only at hR hm hx);obtain ⟨m,rfl⟩:=sucA m;refine ai (fun h3=>?_) (fun h4=>?_)
  ·have qh3:=of_decide_eq_true h3;have hq1:i<w64 ((ByteArray.size s:Int) - 1):=of_decide_eq_true h3;have hw0:w64 ((ByteArray.size s:Int) - 1)=(ByteArray.size s:Int) - 1:=wr (by omega);rw [hw0] at hq1;have hw1:w64 (i+1)=i+1:=wr (by omega);have hw2:w64 (i+1+1)=i+1+1:=wr (by omega);refine ai gkA ?_;refine ai (fun h5=>?_) (fun h6=>?_)
   ·refine ai gkA ?_;refine Or.inl ?_;(first|refine ⟨Q33 1 rfl lnA apA,?_⟩|refine ⟨QA1 1 rfl apA,?_⟩);exact Qe0 (out++([((s.data.toList.getD (Int.toNat (w64 (i+1))) 0).toNat:Int)]:List Int)) (w64 ((w64 (i+1))+1)) (wk [0] (tO rfl (tl eqA) .nil) (s1 (s1 (s1 (sv (to 0 lnA) (s1 .nil)))))) omA ⟨m,by exact omA,foll hR (congrArg (fun p:(List Int) × Int=>QZ3 s p.1 p.2) (ct h3 (ct h5 rfl))),by exact exA⟩
   ·refine ai gkA ?_;refine Or.inl ?_;(first|refine ⟨Q33 1 rfl lnA apA,?_⟩|refine ⟨QA1 1 rfl apA,?_⟩);exact Qe0 (out++([((s.data.toList.getD (Int.toNat i) 0).toNat:Int)]:List Int)) (w64 (i+1)) (wk [0] (tO rfl (tl eqA) .nil) (s1 (s1 (s1 (sv (to 0 lnA) (s1 .nil)))))) omA ⟨m,by exact omA,foll hR (congrArg (fun p:(List Int) × Int=>QZ3 s p.1 p.2) (ct h3 (cf h6 rfl))),by exact exA⟩
  ·have qh4:=of_decide_eq_false h4;replace hR:QZ3 s out i=R:=fo2 (fun p:(List Int) × Int=>QZ3 s p.1 p.2) (out,i) hR (cf h4 rfl);(first|refine ⟨out,by exact cvA,?_⟩|refine ⟨_,fun _=>⟨out,by exact cvA,rfl,rfl⟩,?_⟩|refine ⟨_,rfl,⟨out,by exact cvA,Sub.refl _,rfl⟩,?_⟩);refine us (ref04_Quote_c (QT2 out) szA _) ?_;refine ai (fun h7=>?_) (fun h8=>?_)
   ·obtain rfl:=foll hR (ct h7 rfl);exact Q00 (Low.tup' (l1 (l1 .nil))) (Seen.tup (e1 (e1 .nil)))
   ·(first|refine ⟨out,by exact cvA,?_⟩|refine ⟨_,fun _=>⟨out,by exact cvA,rfl,rfl⟩,?_⟩|refine ⟨_,rfl,⟨out,by exact cvA,Sub.refl _,rfl⟩,?_⟩);obtain rfl:=foll hR (cf h8 rfl);exact Q00 (Low.tup' (l1 (l1 .nil))) (Seen.tup (e1 (e1 .nil)))
def QM1 (s:Shape) (choice:Int):Int:=bif ((decide (choice<0))||(decide (choice >= ((Q60 s).length:Int)))) then 0 else ((Q60 s).getD (Int.toNat choice) Alt.zero).wall
theorem Q4e (s:Shape) (choice:Int) (hs0:s.sz):∀ objs,AGives Tryz.prog 156 [Shape.a s,I choice] objs (I (QM1 s choice)):=by
 generalize hR:QM1 s choice=R;refine ga (.cons (Shape.low _ _) (l1 .nil)) lx (kp 6 [15]) Tryz.func156 ?_;have hk0:=hs0;obtain z3:s.alts.length<=4294967296:=hs0;have hf0:=Q79 s hk0;refine us (Qia s szA _) ?_;refine ai (fun h1=>?_) (fun h2=>?_)
 ·obtain rfl:=foll hR (ct h1 rfl);exact Q00 lx sr
 ·refine ai gkA ?_;obtain rfl:=foll hR (cf h2 rfl);exact Q00 lx sr
def Qy5 (s:Shape) (choice:Int) (n:Int):List Alt->Nat->Bool
 | [],_=>false
 | x_ :: r,i=>bif ((x_.nodes==n)&&(((i:Int)==choice)||(s.kind==3))) then true else Qy5 s choice n r (i+1)
def Qv7 (s:Shape) (choice:Int) (n:Int):Bool:=bif ((decide (choice<0))||(decide (choice >= ((Q60 s).length:Int)))) then false else Qy5 s choice n (Q60 s) 0
theorem ref07_Allows_c (s:Shape) (choice:Int) (n:Int) (hs0:s.sz):∀ objs,AGives Tryz.prog 186 [Shape.a s,I choice,I n] objs (Bo (Qv7 s choice n)):=by
 generalize hR:Qv7 s choice n=R;refine ga (.cons (Shape.low _ _) (l1 (l1 .nil))) lx (kp 9 [18,22,41]) Tryz.func186 ?_;have hk0:=hs0;obtain z7:s.alts.length<=4294967296:=hs0;have hf0:=Q79 s hk0;refine us (Qia s szA _) ?_;refine ai (fun h1=>?_) (fun h2=>?_)
 ·obtain rfl:=foll hR (ct h1 rfl);exact Q00 lx sr
 ·refine Qj0 (fun (i:Nat)=>Qy5 s choice n (List.drop i (Q60 s)) i=R∧i<=(Q60 s).length) (fun i=>(Q60 s).length - i) (fun i=>[(1,I choice),(2,I n),(3,AVal.ptr 0 0 5 0 0),(6,Bo false),(7,altL (Q60 s)),(8,I (i:Int))]) (fun i=>[(0,AObj.row 31 5 [[I s.kind,altL s.alts,I s.min,I s.max,I s.wall]])]) 0 (wk [0] (tO rfl (ts Shape.lo) .nil) (s1 (s1 (sv (Q30 0 rfl rfl) (s1 (sl lw (s1 .nil))))))) ⟨foll hR (cf h2 rfl),by exact omA⟩ ?_;clear hR;rintro i ⟨hR,hj⟩;(try dsimp only at hR hj);refine ai (fun h3=>?_) (fun h4=>?_)
  ·have hlt:=ltA h3;rw [Qc0 Alt.zero hlt] at hR;refine ai gkA ?_;refine ai (fun h5=>?_) (fun h6=>?_)
   ·obtain rfl:=foll hR (ct h5 rfl);exact Q00 lx sr
   ·exact Qn0 (i+1) (wk [0] (tO rfl (ts Shape.lo) .nil) (s1 (s1 (sv (Q30 0 rfl rfl) (s1 (sl lw (sv (Qb0 (I_eq (wr omA)) lx) .nil))))))) omA ⟨foll hR (cf h6 rfl),by exact omA⟩
  ·rw [Qk0 (l:=(Q60 s)) (j:=i) (geA h4)] at hR;obtain rfl:=foll hR rfl;exact Q00 lx sr
def Qi0 (j:Job):Int × Int × Int × Bool:=bif ((j.state != 1)||(j.promise==(-1))) then (0,0,0,false) else (j.promise,(w64 (((Q60 j.shape).getD (Int.toNat j.choice) Alt.zero).wall+12)),((Q60 j.shape).getD (Int.toNat j.choice) Alt.zero).nodes,true)
def Q57 (p_:List Step) (from_:Int) (to_:Int) (n:Int):(List Step):=bif ((Qp3 p_ from_ to_ (w64 (0 - n))).2 != 0) then p_ else (Qp3 p_ from_ to_ (w64 (0 - n))).1
end Go.Proofs.YtjpgfmbccohngaaGreatDoor
namespace Go.Proofs.YtjpgfmbccohngaaGreatDoor
set_option linter.unusedSimpArgs false
set_option linter.unusedVariables false
open Go.Fw
set_option maxRecDepth 20000
set_option maxHeartbeats 4000000
attribute [local irreducible] ACalls AMoves
def QS5 (p_:List Step) (long:Int) (nodes:Int) (from_1:Int):List Step->Nat->Int × Bool
 | [],_=>(0,false)
 | x_ :: r,i=>bif ((decide (x_.at_ > from_1))&&(Qy2 p_ x_.at_ long nodes)) then (x_.at_,true) else QS5 p_ long nodes from_1 r (i+1)
def QT5 (p_:List Step) (long:Int) (nodes:Int) (from_1:Int):Int × Bool:=bif (Qy2 p_ from_1 long nodes) then (from_1,true) else QS5 p_ long nodes from_1 p_ 0
def QV0 (p_:List Step) (from_:Int) (long:Int) (nodes:Int):Int × Bool:=bif (decide (from_<0)) then QT5 p_ long nodes 0 else QT5 p_ long nodes from_
def Qo4 (user:ByteArray):List Usage->List Int->Nat->(List Int) × Nat
 | [],out,i=>(out,i)
 | x_ :: r,out,i=>bif (ByteArray.toList x_.user==ByteArray.toList user) then Qo4 user r (out++([x_.share]:List Int)) (i+1) else Qo4 user r out (i+1)
def Q6b (out:List Int) (i:Nat):Int:=(ref01_Plus out)
def QC5 (l:List Usage) (user:ByteArray):Int:=bif ((Q47 l)!=0) then 0 else Q6b ((Qo4 user l [] 0).1) ((Qo4 user l [] 0).2)
def Qu8 (l:List Job):List Dep->Nat->Bool
 | [],_=>true
 | x_ :: r,i=>bif (!(Qxc l x_)) then false else Qu8 l r (i+1)
def Qwc (l:List Job) (j:Job):Bool:=Qu8 l j.after 0
end Go.Proofs.YtjpgfmbccohngaaGreatDoor
namespace Go.Proofs.YtjpgfmbccohngaaGreatDoor
set_option linter.unusedSimpArgs false
set_option linter.unusedVariables false
open Go.Fw
set_option maxRecDepth 20000
set_option maxHeartbeats 4000000
attribute [local irreducible] ACalls AMoves
def Qf2 :Nat->LexReader->Bool->LexReader × Bool
 | 0,_,_=>(LexReader.zero,false)
 | m+1,c,c2=>bif ((decide (c.at_<(c.line.length:Int)))&&(Qr1 (c.line.getD (Int.toNat c.at_) 0) c2).1) then Qf2 m { c with at_:=(w64 (c.at_+1)) } (bif (decide (c.at_<(c.line.length:Int))) then (Qr1 (c.line.getD (Int.toNat c.at_) 0) c2).2 else c2) else (c,(bif (decide (c.at_<(c.line.length:Int))) then (Qr1 (c.line.getD (Int.toNat c.at_) 0) c2).2 else c2))
def QI2 (r_:LexReader) (c:LexReader) (c2:Bool):Token × LexReader:=bif (c.at_==(c.line.length:Int)) then (Token.zero,(QX0 c r_.at_ 50)) else bif ((c.line.getD (Int.toNat c.at_) 0)!=34) then (Token.zero,(QX0 c c.at_ 40)) else bif ((Qs3 (runesBytes (List.drop (Int.toNat r_.at_) (List.take (Int.toNat (w64 (c.at_+1))) c.line)))).2 != 0) then ((⟨4,(Qs3 (runesBytes (List.drop (Int.toNat r_.at_) (List.take (Int.toNat (w64 (c.at_+1))) c.line)))).1,0,0⟩:Token),(QX0 { c with at_:=(w64 (c.at_+1)) } r_.at_ ((Qs3 (runesBytes (List.drop (Int.toNat r_.at_) (List.take (Int.toNat (w64 (c.at_+1))) c.line)))).2))) else ((⟨4,(Qs3 (runesBytes (List.drop (Int.toNat r_.at_) (List.take (Int.toNat (w64 (c.at_+1))) c.line)))).1,0,0⟩:Token),{ c with at_:=(w64 (c.at_+1)) })
def Q12 (r_:LexReader):Token × LexReader:=QI2 r_ ((Qf2 ((Int.toNat ((r_.line.length:Int) - r_.at_))+1) r_ true).1) ((Qf2 ((Int.toNat ((r_.line.length:Int) - r_.at_))+1) r_ true).2)
theorem Q9d (r_:LexReader) (hs0:r_.sz) (hp0:0<=r_.at_∧r_.at_<(r_.line.length:Int)∧r_.line.length<=400):AMoves Tryz.prog 299 [AVal.ptr 0 0 4 0 0] [(0,AObj.row 273 4 [[runes r_.line,I r_.at_,I r_.bad,I r_.error]])] 1 (Token.a ((Q12 r_).1)) [(0,AObj.row 273 4 [[runes ((Q12 r_).2.line),I ((Q12 r_).2.at_),I ((Q12 r_).2.bad),I ((Q12 r_).2.error)]])]:=by
 generalize hR:Q12 r_=R;refine mo (kp 7 [23,38,69]) Tryz.func299 ?_;have hk0:=hs0;obtain z9:r_.line.length<=4294967296:=hs0;refine ACalls.of_cwp (fun _=>true) Tryz.func283 rfl rfl ?_;refine Qs0 (fun (c:LexReader) (c2:Bool)=>∃ m,(Int.toNat ((c.line.length:Int) - c.at_))<m∧QI2 r_ (Qf2 m c c2).1 (Qf2 m c c2).2=R∧0<=c.at_∧c.at_<=(c.line.length:Int)∧c.line.length<=400∧r_.at_<=c.at_∧0<=r_.at_) (fun c c2=>(Int.toNat ((c.line.length:Int) - c.at_))) (fun c c2=>[(0,AVal.ptr 0 0 4 0 0),(1,AVal.fn (.func 314) [] [AVal.ptr 2 0 1 0 0]),(4,Sg ⟨#[]⟩),(5,I r_.at_)]) (fun c c2=>[(0,AObj.row 273 4 [[runes c.line,I c.at_,I c.bad,I c.error]]),(0,AObj.row 221 4 [[I 0,Sg ⟨#[]⟩,I 0,I 0]]),(0,AObj.row 4 1 [[Bo c2]])]) r_ true (wk [0,1,2] (tO rfl (ts LexReader.lo) (tO rfl (ts Token.lo) (tO rfl (ts (l1 LowL.nil)) .nil))) (sv (Q30 0 rfl rfl) (sv (QZ0 .nil (cv (Q30 2 rfl rfl) .nil)) (s1 (s1 .nil))))) ⟨_,Nat.lt_succ_self _,foll hR rfl,by exact exA⟩ ?_;clear hR;rintro c c2 ⟨m,hm,hR,hx⟩;(try dsimp only at hR hm hx);obtain ⟨m,rfl⟩:=sucA m;refine dchk (by kernel_rfl) ?_;refine ai gkA ?_;refine ⟨_,[(0,AObj.row 273 4 [[runes c.line,I c.at_,I c.bad,I c.error]]),(0,AObj.row 221 4 [[I 0,Sg ⟨#[]⟩,I 0,I 0]]),(0,AObj.row 4 1 [[Bo (bif (decide (c.at_<(c.line.length:Int))) then (Qr1 (c.line.getD (Int.toNat c.at_) 0) c2).2 else c2)]])],fun hg=>(by rw [show (decide (c.at_<(c.line.length:Int)))=true from hg];exact mv [2] (QQa (c.line.getD (Int.toNat c.at_) 0) c2) (dO (ds (l1 LowL.nil)) .nil) (d1 (dp .nil)) (rO (re (l1 LowL.nil)) .nil) rx),fun hg=>(by rw [show (decide (c.at_<(c.line.length:Int)))=false from hg];rfl),?_⟩;(repeat ((first|refine ai rfl ?_|refine ai (fun _=>rfl) ?_)));refine ai (fun h1=>?_) (fun h2=>?_)
 ·have hq1:=of_decide_eq_true ((Bool.and_eq_true _ _).mp h1).1;have hwr:w64 (c.at_+1)=c.at_+1:=wr (by omega);exact Qe0 { c with at_:=(w64 (c.at_+1)) } (bif (decide (c.at_<(c.line.length:Int))) then (Qr1 (c.line.getD (Int.toNat c.at_) 0) c2).2 else c2) (wk [0,1,2] (tO rfl (ts LexReader.lo) (tO rfl (ts Token.lo) (tO rfl (ts (l1 LowL.nil)) .nil))) (sv (Q30 0 rfl rfl) (sv (QZ0 .nil (cv (Q30 2 rfl rfl) .nil)) (s1 (s1 .nil))))) omA ⟨m,by exact omA,foll hR (congrArg (fun p:LexReader × Bool=>QI2 r_ p.1 p.2) (ct h1 rfl)),by exact exA⟩
 ·replace hR:QI2 r_ c (bif (decide (c.at_<(c.line.length:Int))) then (Qr1 (c.line.getD (Int.toNat c.at_) 0) c2).2 else c2)=R:=fo2 (fun p:LexReader × Bool=>QI2 r_ p.1 p.2) (c,(bif (decide (c.at_<(c.line.length:Int))) then (Qr1 (c.line.getD (Int.toNat c.at_) 0) c2).2 else c2)) hR (cf h2 rfl);refine dchk (by kernel_rfl) ?_;refine ai gkA ?_;(first|refine ⟨(List.drop (Int.toNat r_.at_) (List.take (Int.toNat c.at_) c.line)),by exact cvA,?_⟩|refine ⟨_,fun _=>⟨(List.drop (Int.toNat r_.at_) (List.take (Int.toNat c.at_) c.line)),by exact cvA,rfl,rfl⟩,?_⟩|refine ⟨_,rfl,⟨(List.drop (Int.toNat r_.at_) (List.take (Int.toNat c.at_) c.line)),by exact cvA,Sub.refl _,rfl⟩,?_⟩);(repeat ((first|refine ai rfl ?_|refine ai (fun _=>rfl) ?_)));refine ⟨_,_,Told.refl,?_⟩;refine dchk (by kernel_rfl) ?_;(repeat ((first|refine ai rfl ?_|refine ai (fun _=>rfl) ?_)));refine ai (fun h3=>?_) (fun h4=>?_)
  ·refine us (mv [0] (QJ3 c r_.at_ 50) (dO (ds LexReader.lo) .nil) (dp (d1 (d1 .nil))) (rO (re LexReader.lo) .nil) rx) ?_;obtain rfl:=foll hR (ct h3 rfl);exact rq (tt [0] (tO rfl (ts LexReader.lo) .nil) (Q01 (Low.agg' (Token.lo))))
  ·refine dchk (by kernel_rfl) ?_;refine ai gkA ?_;(repeat ((first|refine ai rfl ?_|refine ai (fun _=>rfl) ?_)));refine ai (fun h5=>?_) (fun h6=>?_)
   ·refine us (mv [0] (QJ3 c c.at_ 40) (dO (ds LexReader.lo) .nil) (dp (d1 (d1 .nil))) (rO (re LexReader.lo) .nil) rx) ?_;obtain rfl:=foll hR (cf h4 (ct h5 rfl));exact rq (tt [0] (tO rfl (ts LexReader.lo) .nil) (Q01 (Low.agg' (Token.lo))))
   ·refine dchk (by kernel_rfl) ?_;refine ai gkA ?_;(first|refine ⟨(List.drop (Int.toNat r_.at_) (List.take (Int.toNat (w64 (c.at_+1))) c.line)),by exact cvA,?_⟩|refine ⟨_,fun _=>⟨(List.drop (Int.toNat r_.at_) (List.take (Int.toNat (w64 (c.at_+1))) c.line)),by exact cvA,rfl,rfl⟩,?_⟩|refine ⟨_,rfl,⟨(List.drop (Int.toNat r_.at_) (List.take (Int.toNat (w64 (c.at_+1))) c.line)),by exact cvA,Sub.refl _,rfl⟩,?_⟩);(first|apply u2|apply u3|apply u4|apply us);exact Qra (runesBytes (List.drop (Int.toNat r_.at_) (List.take (Int.toNat (w64 (c.at_+1))) c.line))) szA (by refine Nat.le_trans (QS6 _) ?_;simp only [List.length_drop,List.length_take];omega) _;(repeat ((first|refine ai rfl ?_|refine ai (fun _=>rfl) ?_|refine ai (fun _=>Qra (runesBytes (List.drop (Int.toNat r_.at_) (List.take (Int.toNat (w64 (c.at_+1))) c.line))) szA (by refine Nat.le_trans (QS6 _) ?_;simp only [List.length_drop,List.length_take];omega) _) ?_)));refine ai (fun h7=>?_) (fun h8=>?_)
    ·refine us (mv [0] (QJ3 { c with at_:=(w64 (c.at_+1)) } r_.at_ ((Qs3 (runesBytes (List.drop (Int.toNat r_.at_) (List.take (Int.toNat (w64 (c.at_+1))) c.line)))).2)) (dO (ds LexReader.lo) .nil) (dp (d1 (d1 .nil))) (rO (re LexReader.lo) .nil) rx) ?_;obtain rfl:=foll hR (cf h4 (cf h6 (ct h7 rfl)));exact rq (tt [0] (tO rfl (ts LexReader.lo) .nil) (Q01 (Low.agg' (Token.lo))))
    ·obtain rfl:=foll hR (cf h4 (cf h6 (cf h8 rfl)));exact rq (tt [0] (tO rfl (ts LexReader.lo) .nil) (Q01 (Low.agg' (Token.lo))))
def QH5 (min max wall:Int):List Alt:=(List.range (max - min+1).toNat).map fun (i:Nat)=>(⟨max - (i:Int),wall⟩:Alt)
def QN0 (s:Shape):List Alt:=bif Q22 s != 0 then [] else bif s.kind==3 then s.alts++QH5 s.min s.max s.wall else s.alts
theorem Qi8 {s:Shape} (h:(Q22 s != 0)=false) (hk:(s.kind==3)=true):1<=s.min∧s.min<=s.max∧s.max<=48:=by
 have hk':s.kind=3:=by simpa using hk
 simp only [Q22,hk'] at h
 revert h
 cases h2:(((((s.alts.length:Int)==0)&&(decide (s.min<=s.max)))&&(Qb1 (⟨s.min,s.wall⟩:Alt)))&&(decide (s.max<=48))) with
 | false=>simp [h2,Q52]
 | true =>
  intro _
  simp [Qb1] at h2
  omega
theorem Q4h (lo hi wall:Int):((QL5 hi (hi - lo+1).toNat).map fun (n:Int)=>(⟨n,wall⟩:Alt))=QH5 lo hi wall:=by
 simp [QL5,QH5,List.map_map,Function.comp_def]
theorem QF4 (s:Shape) (hs0:s.sz):∀ objs,AGives Tryz.prog 48 [Shape.a s] objs (altL (QN0 s)):=by
 generalize hR:QN0 s=R;refine ga (.cons (Shape.low _ _) .nil) lw (kp 4 [7,13,18]) Tryz.func48 ?_;have hk0:=hs0;obtain z7:s.alts.length<=4294967296:=hs0;refine us (QDc s szA _) ?_;refine ai (fun h1=>?_) (fun h2=>?_)
 ·obtain rfl:=foll hR (ct h1 rfl);exact Q00 lw QS0
 ·refine us (mv [] (QFc s.alts szA) .nil (dv (QE6 (Alt.lows _ _)) .nil) (rO rr .nil) (rw_ 1 0 rfl)) ?_;refine ai (fun h3=>?_) (fun h4=>?_)
  ·refine us (r:=.fn (.func 173) [] [.ptr 4 0 1 0 0,.ptr 3 0 1 0 0]) (o:=[(0,.row 31 5 [[I s.kind,altL s.alts,I s.min,I s.max,I s.wall]]),(0,.row 121 2 (s.alts.map Alt.cells)),(0,.row 29 1 [[.own 1 0 2 0 s.alts.length]]),(0,.row 3 1 [[I s.min]]),(0,.row 3 1 [[I s.max]])]) (ACalls.of_cwp (fun _=>true) Tryz.func111 rfl rfl ?_) ?_
   ·exact ⟨_,_,told_same,rfl,rfl⟩
   obtain ⟨q1,q2,q3⟩:=Qi8 h2 h3;refine range_next (α:=Int) (fun n=>.int .i64 n) (QL5 s.max (s.max - s.min+1).toNat) (fun xs=>[(0,.row 31 5 [[I s.kind,altL s.alts,I s.min,I s.max,I s.wall]]),(0,.row 121 2 ((s.alts++xs.map fun (n:Int)=>(⟨n,s.wall⟩:Alt)).map Alt.cells)),(0,.row 29 1 [[.own 1 0 2 0 (s.alts++xs.map fun (n:Int)=>(⟨n,s.wall⟩:Alt)).length]]),(0,.row 3 1 [[I s.min]]),(0,.row 3 1 [[I s.max]])])
    (by simp) (by decide) (by decide) rfl rfl rfl rfl ?_ ?_ (by decide) ?_ ?_
   ·intro xs q hq _;simp only [List.mem_cons,List.not_mem_nil,or_false] at hq;rcases hq with rfl|rfl|rfl|rfl|rfl <;> exact ⟨_,_,_,rfl⟩
   ·intro K a w hs;have hv:=QUg (hs.slot 18);obtain ⟨c1,c2⟩:=box_cell (o:=4) hs.mem rfl;obtain ⟨c3,c4⟩:=box_cell (o:=3) hs.mem rfl;refine ⟨173,#[.pointer (some ⟨K.ρ 4 0,0,none⟩),.pointer (some ⟨K.ρ 3 0,0,none⟩)],⟨K.ρ 3 0,0,none⟩,.int .i64 s.min,hv,?_,c4,?_,?_⟩
    ·intro args w;simp [go_sem]
    ·intro K1 xs W hs1;have hv1:=QUg (hs1.slot 18);have e:K1.ρ 3 0=K.ρ 3 0:=by
      have:=hv1.symm.trans hv;exact (by simpa using this:K1.ρ 4 0=K.ρ 4 0∧K1.ρ 3 0=K.ρ 3 0).2
     rw [← e];exact (box_cell (o:=3) hs1.mem rfl).1
    ·rw [Q58];exact sizes_stops 2 (by decide) _ _ s.min s.max w q1 q2 q3 c2 c4 c1 c3
   ·intro xs x hlen;rw [Q58] at hlen;refine Or.inl ?_;refine ⟨Q33 16 rfl lnA (by simp;omega),?_⟩;exact wk [0,1,2,3,4] (tO rfl (ts Shape.lo) (tO rfl (QVc (by simp only [List.map_append,List.append_assoc];rfl) (Qt9 fun _=>Alt.lowc _ _)) (tO rfl (QH0 (.cons _ _ _ _ (to 1 (by simp [List.length_append];omega)) .nil)) (tO rfl (ts (l1 .nil)) (tO rfl (ts (l1 .nil)) .nil)))))
     (sv (QZ0 .nil (.cons _ _ _ _ (Q30 4 rfl rfl) (.cons _ _ _ _ (Q30 3 rfl rfl) .nil))) (s1 (sv (Q30 2 rfl rfl) (s1 (s1 (sv (Q30 0 rfl rfl) (sl (Shape.low _ _) .nil)))))))
   ·have e:QN0 s=s.alts++(QL5 s.max (s.max - s.min+1).toNat).map fun (n:Int)=>(⟨n,s.wall⟩:Alt):=by
     rw [Q4h];exact cf h2 (ct h3 rfl)
    obtain rfl:=foll hR e;exact Q00 lw (Qy1 Alt.zero _ rfl rfl rfl)
  ·obtain rfl:=foll hR (cf h2 (cf h4 rfl));exact Q00 lw (Qy1 Alt.zero _ rfl eqA lnA)
def Qe4 (is:Node->Bool):List Node->List Int->Nat->(List Int)
 | [],out,_=>out
 | x_ :: r,out,i=>bif (is x_) then Qe4 is r (out++([(i:Int)]:List Int)) (i+1) else Qe4 is r out (i+1)
def QK1 (out:List Int):Int:=(QQ5 out).1
def QX1 (l:List Node) (is:Node->Bool):Int:=bif ((QY2 l)!=0) then 0 else QK1 (Qe4 is l [] 0)
def QH6 (p_:List Step) (at_:Int) (long:Int) (nodes:Int):(List Step) × Int:=bif (!(QI7 p_ at_ long nodes)) then ([],130) else ((Qx1 p_ at_ (w64 (at_+long)) (w64 (0 - nodes))).1,(Qx1 p_ at_ (w64 (at_+long)) (w64 (0 - nodes))).2)
theorem fit_Take_c (p_:List Step) (at_:Int) (long:Int) (nodes:Int) (hs0:p_.length<=4294967296):∀ objs,AGives Tryz.prog 63 [stepL p_,I at_,I long,I nodes] objs (AVal.tup [stepL ((QH6 p_ at_ long nodes).1),I ((QH6 p_ at_ long nodes).2)]):=by
 generalize hR:QH6 p_ at_ long nodes=R;refine ga (.cons lw (l1 (l1 (l1 .nil)))) (Low.tup' (.cons lw (l1 .nil))) (kp 10 [15]) Tryz.func63 ?_;have hk0:=hs0;obtain z3:p_.length<=4294967296:=hs0;refine us (fit_Fits_c p_ at_ long nodes szA _) ?_;refine ai (fun h1=>?_) (fun h2=>?_)
 ·obtain rfl:=foll hR (ct h1 rfl);exact Q00 (Low.tup' (.cons lw (l1 .nil))) (Seen.tup (ev (QS0) (e1 .nil)))
 ·refine us (Qw9 p_ at_ (w64 (at_+long)) (w64 (0 - nodes)) szA _) ?_;obtain rfl:=foll hR (cf h2 rfl);exact Q00 (Low.tup' (.cons lw (l1 .nil))) (Seen.tup (e1 (e1 .nil)))
theorem fit_Take_len {p:List Step} (a l n:Int) (h:p.length<=4294967296):(QH6 p a l n).1.length<=4294967296:=by
 unfold QH6
 cases (!(QI7 p a l n)) with
 | true=>simp
 | false=>exact Qd8 _ _ _ _ h
def Q64 (of_:Usage->Int):List Usage->Int->Nat->Int
 | [],n,_=>n
 | x_ :: r,n,i=>Q64 of_ r (QCc ([n,(of_ x_)]:List Int)) (i+1)
def Qh3 (n:Int):Int:=n
def QQ3 (l:List Usage) (of_:Usage->Int):Int:=bif ((Qw2 l)!=0) then 0 else Qh3 (Q64 of_ l 0 0)
def QJ2 (l:List Int) (at_:Int):Nat->Int->Token × Int × Int × Int
 | 0,_=>(Token.zero,0,0,0)
 | m+1,i=>bif ((decide (i<(l.length:Int)))&&((l.getD (Int.toNat i) 0)!=34)) then bif ((Qg0 (l.getD (Int.toNat i) 0))==0) then (Token.zero,0,i,40) else bif ((l.getD (Int.toNat i) 0)==92) then bif ((decide ((w64 (i+1))<(l.length:Int)))&&((Qg0 (l.getD (Int.toNat (w64 (i+1))) 0))==0)) then (Token.zero,0,(w64 (i+1)),40) else QJ2 l at_ m (w64 ((w64 (i+1))+1)) else QJ2 l at_ m (w64 (i+1)) else bif (decide (i >= (l.length:Int))) then (Token.zero,0,at_,50) else bif ((QR5 (runesBytes (List.drop (Int.toNat at_) (List.take (Int.toNat (w64 (i+1))) l)))).2 != 0) then (Token.zero,0,at_,50) else ((⟨4,(QR5 (runesBytes (List.drop (Int.toNat at_) (List.take (Int.toNat (w64 (i+1))) l)))).1,0,at_⟩:Token),(w64 (i+1)),0,0)
def QL3 (l:List Int) (at_:Int):Token × Int × Int × Int:=QJ2 l at_ ((Int.toNat ((l.length:Int) - (w64 (at_+1))))+1) (w64 (at_+1))
theorem ref05_text_c (l:List Int) (at_:Int) (hs0:l.length<=4294967296) (hp0:0<=at_∧at_<(l.length:Int)∧l.length<=400):∀ objs,AGives Tryz.prog 292 [runes l,I at_] objs (AVal.tup [Token.a ((QL3 l at_).1),I ((QL3 l at_).2.1),I ((QL3 l at_).2.2.1),I ((QL3 l at_).2.2.2)]):=by
 generalize hR:QL3 l at_=R;refine ga (.cons lw (l1 .nil)) (Low.tup' (.cons (Token.low _ _) (l1 (l1 (l1 .nil))))) (kp 11 [23,29,36,50,58,72]) Tryz.func292 ?_;have hk0:=hs0;obtain z13:l.length<=4294967296:=hs0;have hw0:w64 (at_+1)=at_+1:=wr (by omega);refine Qj0 (fun (i:Int)=>∃ m,(Int.toNat ((l.length:Int) - i))<m∧QJ2 l at_ m i=R∧at_<i∧i<=(l.length:Int)+1) (fun i=>(Int.toNat ((l.length:Int) - i))) (fun i=>[(0,runes l),(1,I at_),(4,AVal.ptr 0 0 4 0 0),(5,I 0),(6,I 0),(7,I 0),(8,I i)]) (fun i=>[(0,AObj.row 221 4 [[I 0,Sg ⟨#[]⟩,I 0,I 0]])]) (w64 (at_+1)) (wk [0] (tO rfl (ts Token.lo) .nil) (sl lw (s1 (sv (Q30 0 rfl rfl) (s1 (s1 (s1 (s1 .nil)))))))) ⟨_,Nat.lt_succ_self _,foll hR rfl,by exact exA⟩ ?_;clear hR;rintro i ⟨m,hm,hR,hx⟩;(try dsimp only at hR hm hx);obtain ⟨m,rfl⟩:=sucA m;refine ai gkA ?_;refine ai (fun h1=>?_) (fun h2=>?_)
 ·have hq1:=of_decide_eq_true ((Bool.and_eq_true _ _).mp h1).1;have hw1:w64 (i+1)=i+1:=wr (by omega);have hw2:w64 (i+1+1)=i+1+1:=wr (by omega);refine ai gkA ?_;refine us (QP4 (l.getD (Int.toNat i) 0) _) ?_;refine ai (fun h3=>?_) (fun h4=>?_)
  ·obtain rfl:=foll hR (ct h1 (ct h3 rfl));exact Q00 (Low.tup' (.cons (Token.low _ _) (l1 (l1 (l1 .nil))))) (Seen.tup (e1 (e1 (e1 (e1 .nil)))))
  ·refine ai gkA ?_;refine ai (fun h5=>?_) (fun h6=>?_)
   ·refine ai gkA ?_;(first|apply u2|apply u3|apply u4|apply us);exact QP4 (l.getD (Int.toNat (w64 (i+1))) 0) _;refine ai (fun h7=>?_) (fun h8=>?_)
    ·obtain rfl:=foll hR (ct h1 (cf h4 (ct h5 (ct h7 rfl))));exact Q00 (Low.tup' (.cons (Token.low _ _) (l1 (l1 (l1 .nil))))) (Seen.tup (e1 (e1 (e1 (e1 .nil)))))
    ·exact Qn0 (w64 ((w64 (i+1))+1)) (wk [0] (tO rfl (ts Token.lo) .nil) (sl lw (s1 (sv (Q30 0 rfl rfl) (s1 (s1 (s1 (s1 .nil)))))))) omA ⟨m,by exact omA,foll hR (ct h1 (cf h4 (ct h5 (cf h8 rfl)))),by exact exA⟩
   ·exact Qn0 (w64 (i+1)) (wk [0] (tO rfl (ts Token.lo) .nil) (sl lw (s1 (sv (Q30 0 rfl rfl) (s1 (s1 (s1 (s1 .nil)))))))) omA ⟨m,by exact omA,foll hR (ct h1 (cf h4 (cf h6 rfl))),by exact exA⟩
 ·refine ai (fun h9=>?_) (fun h10=>?_)
  ·have qh9:=of_decide_eq_true h9;obtain rfl:=foll hR (cf h2 (ct h9 rfl));exact Q00 (Low.tup' (.cons (Token.low _ _) (l1 (l1 (l1 .nil))))) (Seen.tup (e1 (e1 (e1 (e1 .nil)))))
  ·have qh10:=of_decide_eq_false h10;refine ai gkA ?_;(first|refine ⟨(List.drop (Int.toNat at_) (List.take (Int.toNat (w64 (i+1))) l)),by exact cvA,?_⟩|refine ⟨_,fun _=>⟨(List.drop (Int.toNat at_) (List.take (Int.toNat (w64 (i+1))) l)),by exact cvA,rfl,rfl⟩,?_⟩|refine ⟨_,rfl,⟨(List.drop (Int.toNat at_) (List.take (Int.toNat (w64 (i+1))) l)),by exact cvA,Sub.refl _,rfl⟩,?_⟩);refine us (QMg (runesBytes (List.drop (Int.toNat at_) (List.take (Int.toNat (w64 (i+1))) l))) szA _) ?_;refine ai (fun h11=>?_) (fun h12=>?_)
   ·obtain rfl:=foll hR (cf h2 (cf h10 (ct h11 rfl)));exact Q00 (Low.tup' (.cons (Token.low _ _) (l1 (l1 (l1 .nil))))) (Seen.tup (e1 (e1 (e1 (e1 .nil)))))
   ·obtain rfl:=foll hR (cf h2 (cf h10 (cf h12 rfl)));exact Q00 (Low.tup' (.cons (Token.low _ _) (l1 (l1 (l1 .nil))))) (Seen.tup (e1 (e1 (e1 (e1 .nil)))))
theorem QP8 (l:List Int) (at_:Int) (h:l.length<=400):∀ (m:Nat) (i:Int),at_<i->0<=at_->i<=(l.length:Int)+1->(Int.toNat ((l.length:Int) - i))<m->((QJ2 l at_ m i).2.2.2 != 0)=false->at_<(QJ2 l at_ m i).2.1∧(QJ2 l at_ m i).2.1<=(l.length:Int)
 | 0,i,_,_,_,hm=>absurd hm (by omega)
 | m+1,i,h0,hz,h1,hm=>by
  rw [QJ2]
  cases hd:((decide (i<(l.length:Int)))&&((l.getD (Int.toNat i) 0)!=34)) with
  | false =>
   simp only [cond_false]
   cases hi:(decide (i >= (l.length:Int))) with
   | true=>intro h;cases h
   | false =>
    have hlt:=of_decide_eq_false hi
    simp only [cond_false]
    cases ((QR5 (runesBytes (List.drop (Int.toNat at_) (List.take (Int.toNat (w64 (i+1))) l)))).2 != 0) with
    | true=>intro h;cases h
    | false =>
     intro _
     have hw:w64 (i+1)=i+1:=wr (by omega)
     simp only [cond_false]
     rw [hw]
     omega
  | true =>
   have hlt:=of_decide_eq_true ((Bool.and_eq_true _ _).mp hd).1
   have hw:w64 (i+1)=i+1:=wr (by omega)
   have hw2:w64 (i+1+1)=i+1+1:=wr (by omega)
   simp only [cond_true]
   cases ((Qg0 (l.getD (Int.toNat i) 0))==0) with
   | true=>intro h;cases h
   | false =>
    simp only [cond_false]
    rw [hw]
    cases ((l.getD (Int.toNat i) 0)==92) with
    | true =>
     simp only [cond_true]
     cases ((decide ((i+1)<(l.length:Int)))&&((Qg0 (l.getD (Int.toNat (i+1)) 0))==0)) with
     | true=>intro h;cases h
     | false =>
      simp only [cond_false]
      rw [hw2]
      exact QP8 l at_ h m _ (by omega) hz (by omega) (by omega)
    | false=>exact QP8 l at_ h m _ (by omega) hz (by omega) (by omega)
theorem ref05_text_lt (l:List Int) (at_:Int) (h0:0<=at_) (h1:at_<(l.length:Int)) (h:l.length<=400) (he:((QL3 l at_).2.2.2 != 0)=false):at_<(QL3 l at_).2.1∧(QL3 l at_).2.1<=(l.length:Int):=by
 have hw:w64 (at_+1)=at_+1:=wr (by omega)
 unfold QL3 at he ⊢
 rw [hw] at he ⊢
 exact QP8 l at_ h _ _ (by omega) h0 (by omega) (Nat.lt_succ_self _) he
def Qj1 (j:Job):Bool:=bif (j.state==1) then bif (((j.start != 0)||(j.limit != 0))||(j.nodes != 0)) then false else bif (j.promise==(-1)) then (j.choice==0) else (((QU0 j.promise)&&(decide ((QM1 j.shape j.choice) > 0)))&&(!j.held)) else bif (j.state==2) then bif ((((((((QM1 j.shape j.choice)==0)||j.held)||(!(QU0 j.start)))||(!(QU0 j.promise)))||(decide (j.start > j.promise)))||(!(QU0 j.limit)))||(j.limit != (w64 (j.start+(QM1 j.shape j.choice))))) then false else ((Qma j.nodes)&&(Qv7 j.shape j.choice ((QV7 j.nodes).length:Int))) else ((((((((Qn6 j.state)&&(j.nodes==0))&&(QU0 j.start))&&(QU0 j.limit))&&(decide (j.promise >= (-1))))&&(decide (j.promise<=1000000)))&&(decide (j.choice >= 0)))&&(decide (j.choice<=48)))
theorem ref14_state_c (j:Job) (hs0:j.sz):∀ objs,AGives Tryz.prog 116 [Job.a j] objs (Bo (Qj1 j)):=by
 generalize hR:Qj1 j=R;refine ga (.cons (Job.low _ _) .nil) lx (kp 5 [10,11,25,28,48,94]) Tryz.func116 ?_;have hk0:=hs0;obtain ⟨z11,z12,z13,z14,z15⟩:j.name.size<=4294967296∧j.user.size<=4294967296∧j.account.size<=4294967296∧(j.shape.alts.length<=4294967296)∧j.after.length<=4294967296:=hs0;refine us (ref09_List_c j.nodes _) ?_;refine ai (fun h1=>?_) (fun h2=>?_)
 ·refine ai (fun h3=>?_) (fun h4=>?_)
  ·obtain rfl:=foll hR (ct h1 (ct h3 rfl));exact Q00 lx sr
  ·refine ai (fun h5=>?_) (fun h6=>?_)
   ·obtain rfl:=foll hR (ct h1 (cf h4 (ct h5 rfl)));exact Q00 lx sr
   ·refine us (QB5 j.promise _) ?_;(first|apply u2|apply u3|apply u4|apply us);exact Q4e j.shape j.choice szA _;obtain rfl:=foll hR (ct h1 (cf h4 (cf h6 rfl)));exact Q00 lx sr
 ·refine ai (fun h7=>?_) (fun h8=>?_)
  ·refine us (Q4e j.shape j.choice szA _) ?_;(first|apply u2|apply u3|apply u4|apply us);exact QB5 j.start _;(first|apply u2|apply u3|apply u4|apply us);exact QB5 j.promise _;(first|apply u2|apply u3|apply u4|apply us);exact QB5 j.limit _;refine ai (fun h9=>?_) (fun h10=>?_)
   ·obtain rfl:=foll hR (cf h2 (ct h7 (ct h9 rfl)));exact Q00 lx sr
   ·refine us (ref14_Few_c j.nodes _) ?_;(first|apply u2|apply u3|apply u4|apply us);exact ref07_Allows_c j.shape j.choice ((QV7 j.nodes).length:Int) szA _;obtain rfl:=foll hR (cf h2 (ct h7 (cf h10 rfl)));exact Q00 lx sr
  ·refine us (ref14_Ended_c j.state _) ?_;(first|apply u2|apply u3|apply u4|apply us);exact QB5 j.start _;(first|apply u2|apply u3|apply u4|apply us);exact QB5 j.limit _;obtain rfl:=foll hR (cf h2 (cf h8 rfl));exact Q00 lx sr
def Q94 :List Node->Int->Nat->Int × Nat
 | [],up,i=>(up,i)
 | x_ :: r,up,i=>bif ((x_.state != 4)&&(!x_.drain)) then Q94 r (w64 (up+1)) (i+1) else Q94 r up (i+1)
def QR4 (s:State):List Node->List Step->Nat->(List Step) × Nat
 | [],p_,i1=>(p_,i1)
 | _ :: r,p_,i1=>QR4 s r (Q57 p_ 0 (QRg s (i1:Int)) 1) (i1+1)
def ref20_busy_k2 (p_:List Step) (i1:Nat):(List Step):=p_
def ref20_busy_k1 (s:State) (up:Int) (i:Nat):(List Step):=ref20_busy_k2 ((QR4 s s.nodes (Q89 up) 0).1) ((QR4 s s.nodes (Q89 up) 0).2)
def QX7 (s:State):(List Step):=ref20_busy_k1 s ((Q94 s.nodes 0 0).1) ((Q94 s.nodes 0 0).2)
def QK2 (p_:List Step) (options:List Alt) (from_:Int) (latest:Int) (grace1:Int):Nat->Int->Int->Int->Nat->Int × Int × Int × Nat
 | 0,_,_,_,_=>(0,0,0,0)
 | m+1,best,start,end_,i=>bif ((decide ((i:Int)<(options.length:Int)))&&(decide ((i:Int)<48))) then bif (((decide ((options.getD i Alt.zero).wall<1))||(decide ((options.getD i Alt.zero).wall > 1000000)))||(decide (grace1 > (w64 (1000000 - (options.getD i Alt.zero).wall))))) then QK2 p_ options from_ latest grace1 m best start end_ (i+1) else bif (((QV0 p_ from_ (w64 ((options.getD i Alt.zero).wall+grace1)) ((options.getD i Alt.zero).nodes)).2&&(decide ((QV0 p_ from_ (w64 ((options.getD i Alt.zero).wall+grace1)) ((options.getD i Alt.zero).nodes)).1<=latest)))&&((decide (best<0))||(decide ((w64 ((QV0 p_ from_ (w64 ((options.getD i Alt.zero).wall+grace1)) ((options.getD i Alt.zero).nodes)).1+(options.getD i Alt.zero).wall))<end_)))) then QK2 p_ options from_ latest grace1 m (i:Int) ((QV0 p_ from_ (w64 ((options.getD i Alt.zero).wall+grace1)) ((options.getD i Alt.zero).nodes)).1) (w64 ((QV0 p_ from_ (w64 ((options.getD i Alt.zero).wall+grace1)) ((options.getD i Alt.zero).nodes)).1+(options.getD i Alt.zero).wall)) (i+1) else QK2 p_ options from_ latest grace1 m best start end_ (i+1) else (best,start,end_,i)
def Qsc (best:Int) (start:Int) (end_:Int) (i:Nat):Int × Int × Bool:=bif (decide (best<0)) then (0,0,false) else (best,start,true)
def QD9 (p_:List Step) (options:List Alt) (from_:Int) (latest:Int) (grace1:Int):Int × Int × Bool:=Qsc ((QK2 p_ options from_ latest grace1 ((Int.toNat ((options.length:Int) - (0:Int)))+1) (-1) 0 0 0).1) ((QK2 p_ options from_ latest grace1 ((Int.toNat ((options.length:Int) - (0:Int)))+1) (-1) 0 0 0).2.1) ((QK2 p_ options from_ latest grace1 ((Int.toNat ((options.length:Int) - (0:Int)))+1) (-1) 0 0 0).2.2.1) ((QK2 p_ options from_ latest grace1 ((Int.toNat ((options.length:Int) - (0:Int)))+1) (-1) 0 0 0).2.2.2)
def Q95 (p_:List Step) (options:List Alt) (from_:Int) (latest:Int) (grace:Int):Int × Int × Bool:=bif (decide (grace<0)) then QD9 p_ options from_ latest 0 else QD9 p_ options from_ latest grace
def Qo6 (l:List Usage) (a:Job) (b:Job):Bool:=bif (decide (a.prio > b.prio)) then true else bif (decide (a.prio<b.prio)) then false else bif (decide ((QC5 l a.user)<(QC5 l b.user))) then true else bif (decide ((QC5 l a.user) > (QC5 l b.user))) then false else (decide (a.id<b.id))
end Go.Proofs.YtjpgfmbccohngaaGreatDoor
namespace Go.Proofs.YtjpgfmbccohngaaGreatDoor
set_option linter.unusedSimpArgs false
set_option linter.unusedVariables false
open Go.Fw
set_option maxRecDepth 20000
set_option maxHeartbeats 4000000
attribute [local irreducible] ACalls AMoves
def Qd0 (r_:LexReader):Token × LexReader:=bif ((Ql1 (r_.line.getD (Int.toNat r_.at_) 0))==2) then ((Qi2 r_).1,(Qi2 r_).2) else bif ((Ql1 (r_.line.getD (Int.toNat r_.at_) 0))==3) then ((QH1 r_).1,(QH1 r_).2) else bif ((r_.line.getD (Int.toNat r_.at_) 0)==34) then ((Q12 r_).1,(Q12 r_).2) else bif ((decide ((QV5 ⟨#[61,58,44,45]⟩ (wu8 (r_.line.getD (Int.toNat r_.at_) 0))) >= 0))&&(decide ((r_.line.getD (Int.toNat r_.at_) 0)<128))) then ((⟨5,(runeStr (r_.line.getD (Int.toNat r_.at_) 0)),0,0⟩:Token),{ r_ with at_:=(w64 (r_.at_+1)) }) else bif ((Ql1 (r_.line.getD (Int.toNat r_.at_) 0))==0) then (Token.zero,(QX0 r_ r_.at_ 40)) else (Token.zero,(QX0 r_ r_.at_ 50))
theorem Q8d (r_:LexReader) (hs0:r_.sz) (hp0:0<=r_.at_∧r_.at_<(r_.line.length:Int)∧r_.line.length<=400):AMoves Tryz.prog 284 [AVal.ptr 0 0 4 0 0] [(0,AObj.row 273 4 [[runes r_.line,I r_.at_,I r_.bad,I r_.error]])] 1 (Token.a ((Qd0 r_).1)) [(0,AObj.row 273 4 [[runes ((Qd0 r_).2.line),I ((Qd0 r_).2.at_),I ((Qd0 r_).2.bad),I ((Qd0 r_).2.error)]])]:=by
 generalize hR:Qd0 r_=R;refine mo (kp 4 [20,26,32,37,56]) Tryz.func284 ?_;have hk0:=hs0;obtain z11:r_.line.length<=4294967296:=hs0;refine dchk (by kernel_rfl) ?_;refine ai gkA ?_;(repeat ((first|refine ai rfl ?_|refine ai (fun _=>rfl) ?_)));refine us (QT4 (r_.line.getD (Int.toNat r_.at_) 0) _) ?_;refine ai (fun h1=>?_) (fun h2=>?_)
 ·refine us (mv [0] (Qad r_ szA ckA) (dO (ds LexReader.lo) .nil) (dp .nil) (rO (re LexReader.lo) .nil) (Ren.low _ (Low.agg' (Token.lo)))) ?_;obtain rfl:=foll hR (ct h1 rfl);exact rq (tt [0] (tO rfl (ts LexReader.lo) .nil) (Q01 (Low.agg' (Token.lo))))
 ·refine us (QT4 (r_.line.getD (Int.toNat r_.at_) 0) _) ?_;refine ai (fun h3=>?_) (fun h4=>?_)
  ·refine us (mv [0] (Qjc r_ szA ckA) (dO (ds LexReader.lo) .nil) (dp .nil) (rO (re LexReader.lo) .nil) (Ren.low _ (Low.agg' (Token.lo)))) ?_;obtain rfl:=foll hR (cf h2 (ct h3 rfl));exact rq (tt [0] (tO rfl (ts LexReader.lo) .nil) (Q01 (Low.agg' (Token.lo))))
  ·refine ai (fun h5=>?_) (fun h6=>?_)
   ·refine us (mv [0] (Q9d r_ szA ckA) (dO (ds LexReader.lo) .nil) (dp .nil) (rO (re LexReader.lo) .nil) (Ren.low _ (Low.agg' (Token.lo)))) ?_;obtain rfl:=foll hR (cf h2 (cf h4 (ct h5 rfl)));exact rq (tt [0] (tO rfl (ts LexReader.lo) .nil) (Q01 (Low.agg' (Token.lo))))
   ·refine us (QKb ⟨#[61,58,44,45]⟩ (wu8 (r_.line.getD (Int.toNat r_.at_) 0)) _) ?_;refine ai (fun h7=>?_) (fun h8=>?_)
    ·obtain rfl:=foll hR (cf h2 (cf h4 (cf h6 (ct h7 rfl))));exact rq (tt [0] (tO rfl (ts LexReader.lo) .nil) (Q01 (Low.agg' (Token.lo))))
    ·refine us (QT4 (r_.line.getD (Int.toNat r_.at_) 0) _) ?_;refine ai (fun h9=>?_) (fun h10=>?_)
     ·refine us (mv [0] (QJ3 r_ r_.at_ 40) (dO (ds LexReader.lo) .nil) (dp (d1 (d1 .nil))) (rO (re LexReader.lo) .nil) rx) ?_;obtain rfl:=foll hR (cf h2 (cf h4 (cf h6 (cf h8 (ct h9 rfl)))));exact rq (tt [0] (tO rfl (ts LexReader.lo) .nil) (Q01 (Low.agg' (Token.lo))))
     ·refine us (mv [0] (QJ3 r_ r_.at_ 50) (dO (ds LexReader.lo) .nil) (dp (d1 (d1 .nil))) (rO (re LexReader.lo) .nil) rx) ?_;obtain rfl:=foll hR (cf h2 (cf h4 (cf h6 (cf h8 (cf h10 rfl)))));exact rq (tt [0] (tO rfl (ts LexReader.lo) .nil) (Q01 (Low.agg' (Token.lo))))
def Adv (a b:LexReader):Prop:=b.line=a.line∧a.at_<=b.at_∧b.at_<=(a.line.length:Int)∧b.error=a.error∧b.bad=a.bad
theorem Qq9 (is:Int->Bool):∀ (m:Nat) (c:LexReader),0<=c.at_->c.at_<=(c.line.length:Int)->c.line.length<=400->(Int.toNat ((c.line.length:Int) - c.at_))<m->Adv c (QD0 is m c)
 | 0,c,_,_,_,h=>absurd h (by omega)
 | m+1,c,h0,h1,h2,h=>by
  rw [QD0]
  cases hc:((decide (c.at_<(c.line.length:Int)))&&(is (c.line.getD (Int.toNat c.at_) 0))) with
  | false=>exact ⟨rfl,Int.le_refl _,h1,rfl,rfl⟩
  | true =>
   have hlt:=of_decide_eq_true ((Bool.and_eq_true _ _).mp hc).1
   have hw:w64 (c.at_+1)=c.at_+1:=wr (by omega)
   rw [hw]
   obtain ⟨a,b,d,e,f⟩:=Qq9 is m { c with at_:=c.at_+1 } (by dsimp only;omega) (by dsimp only;omega) h2 (by dsimp only;omega)
   dsimp only at a b d e f
   exact ⟨a,by simp only [cond_true];omega,d,e,f⟩
theorem Q06 (r:LexReader) (is:Int->Bool) (h0:0<=r.at_) (h1:r.at_<=(r.line.length:Int)) (h2:r.line.length<=400):Adv r (Q40 r is).2 :=
 Qq9 is _ r h0 h1 h2 (Nat.lt_succ_self _)
theorem Qc8 (r:LexReader) (is:Int->Bool) (h0:0<=r.at_) (h1:r.at_<(r.line.length:Int)) (h2:r.line.length<=400) (h:is (r.line.getD (Int.toNat r.at_) 0)=true):r.at_<(Q40 r is).2.at_:=by
 have hw:w64 (r.at_+1)=r.at_+1:=wr (by omega)
 have e:(Q40 r is).2=QD0 is (Int.toNat ((r.line.length:Int) - r.at_)) { r with at_:=r.at_+1 }:=by
  show QD0 is ((Int.toNat ((r.line.length:Int) - r.at_))+1) r=_
  rw [QD0,show ((decide (r.at_<(r.line.length:Int)))&&(is (r.line.getD (Int.toNat r.at_) 0)))=true by rw [h,Bool.and_true];exact decide_eq_true h1,hw]
  rfl
 rw [e]
 have:=(Qq9 is (Int.toNat ((r.line.length:Int) - r.at_)) { r with at_:=r.at_+1 } (by dsimp only;omega) (by dsimp only;omega) h2 (by dsimp only;omega)).2.1
 dsimp only at this
 omega
theorem Q7a (r:LexReader) (p e:Int) (he:e ≠ 0):(QX0 r p e).line=r.line∧(QX0 r p e).at_=r.at_∧(QX0 r p e).error ≠ 0:=by
 unfold QX0
 cases h:(r.error==0) with
 | true=>exact ⟨rfl,rfl,he⟩
 | false=>exact ⟨rfl,rfl,by simpa using h⟩
def Nxt (a b:LexReader):Prop:=b.line=a.line∧a.at_<=b.at_∧b.at_<=(a.line.length:Int)∧(b.error ≠ 0∨a.at_<b.at_)
theorem lex_word_nxt (r:LexReader) (h0:0<=r.at_) (h1:r.at_<(r.line.length:Int)) (h2:r.line.length<=400) (hc:((Ql1 (r.line.getD (Int.toNat r.at_) 0))==2)=true):Nxt r (Qi2 r).2:=by
 obtain ⟨a,b,c,_,_⟩:=Q06 r (fun (y:Int)=>Qh0 y ([2,3]:List Int) 0) h0 (by omega) h2
 exact ⟨a,b,c,Or.inr (Qc8 r _ h0 h1 h2 (by simp only [Qh0,hc];rfl))⟩
theorem class_digit (x:Int) (h:(Ql1 x==3)=true):48<=x∧x<=57:=by
 unfold Ql1 at h
 revert h
 cases ((x==9)||(x==32)) with
 | true=>simp
 | false =>
  simp only [cond_false]
  cases (((((decide (x<32))||((decide (x >= 127))&&(decide (x<=160))))||((decide (x >= 55296))&&(decide (x<=57343))))||(x==65533))||(decide (x > 1114111))) with
  | true=>simp
  | false =>
   simp only [cond_false]
   cases hd:((decide (x >= 48))&&(decide (x<=57))) with
   | true=>intro _;simp at hd;omega
   | false =>
    simp only [cond_false]
    cases ((((decide (x >= 97))&&(decide (x<=122)))||((decide (x >= 65))&&(decide (x<=90))))||(decide (x > 160))) <;> simp
theorem lex_count_nxt (r:LexReader) (h0:0<=r.at_) (h1:r.at_<(r.line.length:Int)) (h2:r.line.length<=400) (hc:((Ql1 (r.line.getD (Int.toNat r.at_) 0))==3)=true):Nxt r (QH1 r).2:=by
 obtain ⟨a,b,c,_,_⟩:=Q06 r (fun (y:Int)=>(((decide (y >= 48))&&(decide (y<=57)))||((decide (y >= 97))&&(decide (y<=122))))) h0 (by omega) h2
 have hd:=class_digit _ hc
 have l:=Qc8 r (fun (y:Int)=>(((decide (y >= 48))&&(decide (y<=57)))||((decide (y >= 97))&&(decide (y<=122))))) h0 h1 h2 (by simp only [decide_eq_true hd.1,decide_eq_true hd.2];rfl)
 unfold QH1
 cases (!(QR7 ((Q40 r (fun (y:Int)=>(((decide (y >= 48))&&(decide (y<=57)))||((decide (y >= 97))&&(decide (y<=122)))))).1))) with
 | true=>exact ⟨a,b,c,Or.inr l⟩
 | false =>
  simp only [cond_false]
  cases (!(Q07 ((Q40 r (fun (y:Int)=>(((decide (y >= 48))&&(decide (y<=57)))||((decide (y >= 97))&&(decide (y<=122)))))).1)).2) with
  | false=>exact ⟨a,b,c,Or.inr l⟩
  | true =>
   obtain ⟨f1,f2,f3⟩:=Q7a (Q40 r (fun (y:Int)=>(((decide (y >= 48))&&(decide (y<=57)))||((decide (y >= 97))&&(decide (y<=122)))))).2 r.at_ 50 (by decide)
   exact ⟨f1.trans a,by simp only [cond_true];rw [f2];exact b,by simp only [cond_true];rw [f2];exact c,Or.inl f3⟩
theorem QQd:∀ (m:Nat) (c:LexReader) (b:Bool),0<=c.at_->c.at_<=(c.line.length:Int)->c.line.length<=400->(Int.toNat ((c.line.length:Int) - c.at_))<m->Adv c (Qf2 m c b).1
 | 0,c,_,_,_,_,h=>absurd h (by omega)
 | m+1,c,b,h0,h1,h2,h=>by
  rw [Qf2]
  cases hc:((decide (c.at_<(c.line.length:Int)))&&(Qr1 (c.line.getD (Int.toNat c.at_) 0) b).1) with
  | false=>exact ⟨rfl,Int.le_refl _,h1,rfl,rfl⟩
  | true =>
   have hlt:=of_decide_eq_true ((Bool.and_eq_true _ _).mp hc).1
   have hw:w64 (c.at_+1)=c.at_+1:=wr (by omega)
   rw [hw]
   obtain ⟨a,b,d,e,f⟩:=QQd m { c with at_:=c.at_+1 } _ (by dsimp only;omega) (by dsimp only;omega) h2 (by dsimp only;omega)
   dsimp only at a b d e f
   exact ⟨a,by simp only [cond_true];omega,d,e,f⟩
theorem lex_text_nxt (r:LexReader) (h0:0<=r.at_) (h1:r.at_<(r.line.length:Int)) (h2:r.line.length<=400):Nxt r (Q12 r).2:=by
 obtain ⟨a,b,c,_,_⟩:=QQd _ r true h0 (by omega) h2 (Nat.lt_succ_self _)
 unfold Q12
 generalize (Qf2 ((Int.toNat ((r.line.length:Int) - r.at_))+1) r true).1=q at a b c
 unfold QI2
 have ff:∀ (x:LexReader) (p e:Int),e ≠ 0->x.line=r.line->r.at_<=x.at_->x.at_<=(r.line.length:Int)->Nxt r (QX0 x p e):=by
  intro x p e he hx hp hq
  obtain ⟨f1,f2,f3⟩:=Q7a x p e he
  exact ⟨f1.trans hx,by rw [f2];exact hp,by rw [f2];exact hq,Or.inl f3⟩
 cases h3:(q.at_==(q.line.length:Int)) with
 | true=>exact ff q _ _ (by decide) a b c
 | false =>
  simp only [cond_false]
  have h3':q.at_ ≠ (r.line.length:Int):=by rw [a] at h3;simpa using h3
  have hw:w64 (q.at_+1)=q.at_+1:=wr (by omega)
  cases ((q.line.getD (Int.toNat q.at_) 0)!=34) with
  | true=>exact ff q _ _ (by decide) a b c
  | false =>
   simp only [cond_false]
   rw [hw]
   cases h4:((Qs3 (runesBytes (List.drop (Int.toNat r.at_) (List.take (Int.toNat (q.at_+1)) q.line)))).2 != 0) with
   | true=>exact ff { q with at_:=q.at_+1 } _ _ (by simpa using h4) a (by show r.at_<=q.at_+1;omega) (by show q.at_+1<=_;omega)
   | false=>exact ⟨a,by show r.at_<=q.at_+1;omega,by show q.at_+1<=_;omega,Or.inr (by show r.at_<q.at_+1;omega)⟩
theorem lex_next_nxt (r:LexReader) (h0:0<=r.at_) (h1:r.at_<(r.line.length:Int)) (h2:r.line.length<=400):Nxt r (Qd0 r).2:=by
 have hw:w64 (r.at_+1)=r.at_+1:=wr (by omega)
 have ff:∀ (e:Int),e ≠ 0->Nxt r (QX0 r r.at_ e):=by
  intro e he
  obtain ⟨f1,f2,f3⟩:=Q7a r r.at_ e he
  exact ⟨f1,by rw [f2];exact Int.le_refl _,by rw [f2];omega,Or.inl f3⟩
 unfold Qd0
 cases hc:((Ql1 (r.line.getD (Int.toNat r.at_) 0))==2) with
 | true=>exact lex_word_nxt r h0 h1 h2 hc
 | false =>
  simp only [cond_false]
  cases hd:((Ql1 (r.line.getD (Int.toNat r.at_) 0))==3) with
  | true=>exact lex_count_nxt r h0 h1 h2 hd
  | false =>
   simp only [cond_false]
   cases ((r.line.getD (Int.toNat r.at_) 0)==34) with
   | true=>exact lex_text_nxt r h0 h1 h2
   | false =>
    simp only [cond_false]
    cases ((decide ((QV5 ⟨#[61,58,44,45]⟩ (wu8 (r.line.getD (Int.toNat r.at_) 0))) >= 0))&&(decide ((r.line.getD (Int.toNat r.at_) 0)<128))) with
    | true=>rw [hw];exact ⟨rfl,by show r.at_<=r.at_+1;omega,by show r.at_+1<=_;omega,Or.inr (by show r.at_<r.at_+1;omega)⟩
    | false =>
     simp only [cond_false]
     cases ((Ql1 (r.line.getD (Int.toNat r.at_) 0))==0) with
     | true=>exact ff 40 (by decide)
     | false=>exact ff 50 (by decide)
theorem lex_round (r c:LexReader) (b:Int->Bool) (h0:0<=r.at_) (h1:r.at_<=(r.line.length:Int)) (h2:r.line.length<=400) (he:(r.error==0)=true) (e:c=(Q40 r b).2) (hn:(c.at_==(c.line.length:Int))=false) :
  (0<=c.at_∧c.at_<(c.line.length:Int)∧c.line.length<=400)∧(0<=(Qd0 c).2.at_∧(Qd0 c).2.at_<=((Qd0 c).2.line.length:Int)∧(Qd0 c).2.line.length<=400) ∧
  2*Int.toNat (((Qd0 c).2.line.length:Int) - (Qd0 c).2.at_)+(bif (Qd0 c).2.error==0 then 1 else 0)<2*Int.toNat ((r.line.length:Int) - r.at_)+(bif r.error==0 then 1 else 0) ∧
  (((Qd0 c).2.error==0)=true->r.at_+1<=(Qd0 c).2.at_):=by
 obtain ⟨a1,a2,a3,a4,a5⟩:=Q06 r b h0 h1 h2
 rw [← e] at a1 a2 a3 a4 a5
 have hn':c.at_ ≠ (r.line.length:Int):=by rw [a1] at hn;simpa using hn
 have hc:0<=c.at_∧c.at_<(c.line.length:Int)∧c.line.length<=400:=by rw [a1];omega
 obtain ⟨n1,n2,n3,n4⟩:=lex_next_nxt c hc.1 hc.2.1 hc.2.2
 rw [he]
 rw [a1] at n1 n3
 refine ⟨hc,by rw [n1];omega,?_⟩
 rw [n1]
 rcases n4 with n4|n4
 ·have:((Qd0 c).2.error==0)=false:=by simpa using n4
  rw [this]
  simp only [cond_true,cond_false]
  exact ⟨by omega,fun h=>nomatch h⟩
 ·refine ⟨?_,fun _=>by omega⟩
  cases ((Qd0 c).2.error==0) <;> simp only [cond_true,cond_false] <;> omega
def Q61 (v:Job) (choice:Int):Alt × Bool:=bif ((decide (choice<0))||(decide (choice >= ((QN0 v.shape).length:Int)))) then (Alt.zero,false) else (((QN0 v.shape).getD (Int.toNat choice) Alt.zero),true)
theorem QZ6 (v:Job) (choice:Int) (hs0:v.sz):∀ objs,AGives Tryz.prog 133 [Job.a v,I choice] objs (AVal.tup [Alt.a ((Q61 v choice).1),Bo ((Q61 v choice).2)]):=by
 generalize hR:Q61 v choice=R;refine ga (.cons (Job.low _ _) (l1 .nil)) (Low.tup' (.cons (Alt.low _ _) (l1 .nil))) (kp 7 [18]) Tryz.func133 ?_;have hk0:=hs0;obtain ⟨z3,z4,z5,z6,z7⟩:v.name.size<=4294967296∧v.user.size<=4294967296∧v.account.size<=4294967296∧(v.shape.alts.length<=4294967296)∧v.after.length<=4294967296:=hs0;refine us (QF4 v.shape szA _) ?_;refine ai (fun h1=>?_) (fun h2=>?_)
 ·obtain rfl:=foll hR (ct h1 rfl);exact Q00 (Low.tup' (.cons (Alt.low _ _) (l1 .nil))) (Seen.tup (e1 (e1 .nil)))
 ·refine ai gkA ?_;obtain rfl:=foll hR (cf h2 rfl);exact Q00 (Low.tup' (.cons (Alt.low _ _) (l1 .nil))) (Seen.tup (e1 (e1 .nil)))
def Qx7 (s:Shape) (choice:Int) (n:Int):Bool:=bif ((decide (choice<0))||(decide (choice >= ((QN0 s).length:Int)))) then false else bif (s.kind==3) then ((decide (n >= s.min))&&(decide (n<=s.max))) else (((QN0 s).getD (Int.toNat choice) Alt.zero).nodes==n)
theorem Q9b (s:Shape) (choice:Int) (n:Int) (hs0:s.sz):∀ objs,AGives Tryz.prog 147 [Shape.a s,I choice,I n] objs (Bo (Qx7 s choice n)):=by
 generalize hR:Qx7 s choice n=R;refine ga (.cons (Shape.low _ _) (l1 (l1 .nil))) lx (kp 8 [17,20]) Tryz.func147 ?_;have hk0:=hs0;obtain z5:s.alts.length<=4294967296:=hs0;refine us (QF4 s szA _) ?_;refine ai (fun h1=>?_) (fun h2=>?_)
 ·obtain rfl:=foll hR (ct h1 rfl);exact Q00 lx sr
 ·refine ai (fun h3=>?_) (fun h4=>?_)
  ·obtain rfl:=foll hR (cf h2 (ct h3 rfl));exact Q00 lx sr
  ·refine ai gkA ?_;obtain rfl:=foll hR (cf h2 (cf h4 rfl));exact Q00 lx sr
def Ql8 (l:List Node):Int:=(QX1 l (fun (y:Node)=>((y.state != 4)&&(!y.drain))))
theorem fleet_Up_c (l:List Node) (hs0:l.length<=4294967296):∀ objs,AGives Tryz.prog 166 [nodeL l] objs (U (Ql8 l)):=by
 generalize hR:Ql8 l=R;refine ga (.cons lw .nil) lx (kp 3 []) Tryz.func166 ?_;have hk0:=hs0;obtain z7:l.length<=4294967296:=hs0;have cl1:∀ (y1:Node),AMoves Tryz.prog 215 [Node.a y1] [] 0 (Bo ((fun (y:Node)=>((y.state != 4)&&(!y.drain))) y1)) []:=by
  intro y1;have hR:(fun (y:Node)=>((y.state != 4)&&(!y.drain))) y1=(fun (y:Node)=>((y.state != 4)&&(!y.drain))) y1:=rfl;refine mo (kp 3 []) Tryz.func215 ?_;refine Qq0 (fun r:Bool=>Bo r) (fun _=>[]) (leaf:=((y1.state != 4)&&(!y1.drain))) (foll hR rfl) ?_;exact tt [] .nil t1
 have hof1:AMoves Tryz.prog 100 [nodeL l,AVal.fn (.func 215) [] []] [] 0 (U (QX1 l (fun (y:Node)=>((y.state != 4)&&(!y.drain))))) []:=by
  have hR:QX1 l (fun (y:Node)=>((y.state != 4)&&(!y.drain)))=QX1 l (fun (y:Node)=>((y.state != 4)&&(!y.drain))):=rfl;refine mo (kp 10 [12,13,14,15,16,22]) Tryz.func100 ?_;refine us (Qm9 l szA _) ?_;refine ai (fun h1=>?_) (fun h2=>?_)
  ·refine Qq0 (fun r:Int=>U r) (fun r:Int=>[]) (leaf:=0) (foll hR (ct h1 rfl)) ?_;exact tt [] .nil t1
  ·refine Qs0 (fun (out:List Int) (i:Nat)=>QK1 (Qe4 (fun (y:Node)=>((y.state != 4)&&(!y.drain))) (List.drop i l) out i)=QX1 l (fun (y:Node)=>((y.state != 4)&&(!y.drain)))∧i<=l.length∧out.length<=i) (fun out i=>l.length - i) (fun out i=>[(1,AVal.fn (.func 215) [] []),(4,U 0),(5,AVal.own 0 0 1 0 out.length),(13,nodeL l),(14,I (l.length:Int)),(15,I (i:Int))]) (fun out i=>[(0,AObj.row 3 1 (out.map (fun q_=>[I q_])))]) [] 0 ((QG1 3 1).trans (wk [0] (tO rfl (tl eqA) .nil) (sv (Q01 (Low.fn _ _ _ LowL.nil LowL.nil)) (s1 (sv (Qo1 0 rfl) (sl lw (s1 (s1 .nil)))))))) ⟨foll hR (cf h2 rfl),by exact omA,by exact exA⟩ ?_;clear hR;rintro out i ⟨hR,hj,hx⟩;(try dsimp only at hR hj hx);refine ai (fun h3=>?_) (fun h4=>?_)
   ·have hlt:=ltA h3;rw [Qc0 Node.zero hlt] at hR;refine ai gkA ?_;refine us (mv [] (cl1 (l.getD i Node.zero)) .nil (dl (Node.low _ _) .nil) .nil rx) ?_;refine ai (fun h5=>?_) (fun h6=>?_)
    ·refine Or.inl ?_;(first|refine ⟨Q33 8 rfl lnA apA,?_⟩|refine ⟨QA1 8 rfl apA,?_⟩);exact Qe0 (out++([(i:Int)]:List Int)) (i+1) (wk [0] (tO rfl (tl eqA) .nil) (sv (Q01 (Low.fn _ _ _ LowL.nil LowL.nil)) (s1 (sv (to 0 lnA) (sl lw (s1 (sv (Qb0 (I_eq (wr omA)) lx) .nil))))))) omA ⟨foll hR (congrArg (fun p:(List Int)=>QK1 p) (ct h5 rfl)),by exact omA,by exact exA⟩
    ·exact Qe0 out (i+1) (wk [0] (tO rfl (tl eqA) .nil) (sv (Q01 (Low.fn _ _ _ LowL.nil LowL.nil)) (s1 (sv (to 0 lnA) (sl lw (s1 (sv (Qb0 (I_eq (wr omA)) lx) .nil))))))) omA ⟨foll hR (congrArg (fun p:(List Int)=>QK1 p) (cf h6 rfl)),by exact omA,by exact exA⟩
   ·rw [Qk0 (l:=l) (j:=i) (geA h4)] at hR;replace hR:QK1 out=QX1 l (fun (y:Node)=>((y.state != 4)&&(!y.drain))):=fo2 (fun p:(List Int)=>QK1 p) (out) hR rfl;refine us (AGives.lent (QSd out szA []) (ev (Qy1 _ _ rfl eqA lnA) .nil) (.cons lw .nil) (Qeb rfl)) ?_;refine Qq0 (fun r:Int=>U r) (fun r:Int=>[]) (leaf:=(QQ5 out).1) (foll hR rfl) ?_;exact tt [] .nil t1
 refine us (mv [] (hof1) .nil (dl lw (dv (QE6 (Low.fn _ _ _ LowL.nil LowL.nil)) .nil)) .nil rx) ?_;obtain rfl:=foll hR rfl;exact Q00 lx sr
def Qv1 (l:List Usage) (user:ByteArray):Int:=(QQ3 l (fun (y:Usage)=>(bif (!(ByteArray.toList y.user==ByteArray.toList user)) then 0 else y.share)))
theorem Q0b (l:List Usage) (user:ByteArray) (hs0:l.length<=4294967296∧(∀ y ∈ l,y.sz)) (hs1:user.size<=4294967296):∀ objs,AGives Tryz.prog 201 [Qe3 l,Sg user] objs (I (Qv1 l user)):=by
 generalize hR:Qv1 l user=R;refine ga (.cons lw (l1 .nil)) lx (kp 5 []) Tryz.func201 ?_;have hk0:=hs0;obtain ⟨z11,z12⟩:l.length<=4294967296∧(∀ y ∈ l,y.sz):=hs0;have hk1:=hs1;obtain z13:user.size<=4294967296:=hs1;have cl1:∀ (y1:Usage) (hzy1:y1.sz),AMoves Tryz.prog 231 [Usage.a y1,AVal.ptr 0 0 1 0 0] [(0,AObj.row 9 1 [[Sg user]])] 1 (I ((fun (y:Usage)=>(bif (!(ByteArray.toList y.user==ByteArray.toList user)) then 0 else y.share)) y1)) [(0,AObj.row 9 1 [[Sg user]])]:=by
  intro y1 hzy1;have hky1:=hzy1;obtain ⟨z1,z2⟩:y1.user.size<=4294967296∧y1.account.size<=4294967296:=hzy1;have hR:(fun (y:Usage)=>(bif (!(ByteArray.toList y.user==ByteArray.toList user)) then 0 else y.share)) y1=(fun (y:Usage)=>(bif (!(ByteArray.toList y.user==ByteArray.toList user)) then 0 else y.share)) y1:=rfl;refine mo (kp 4 [7]) Tryz.func231 ?_;refine ai (fun h3=>?_) (fun h4=>?_)
  ·refine Qq0 (fun r:Int=>I r) (fun _=>[(0,AObj.row 9 1 [[Sg user]])]) (leaf:=0) (foll hR (ct h3 rfl)) ?_;exact tt [0] (tO rfl (ts (l1 LowL.nil)) .nil) t1
  ·refine Qq0 (fun r:Int=>I r) (fun _=>[(0,AObj.row 9 1 [[Sg user]])]) (leaf:=y1.share) (foll hR (cf h4 rfl)) ?_;exact tt [0] (tO rfl (ts (l1 LowL.nil)) .nil) t1
 have hof1:AMoves Tryz.prog 230 [Qe3 l,AVal.fn (.func 231) [] [AVal.ptr 0 0 1 0 0]] [(0,AObj.row 9 1 [[Sg user]])] 1 (I (QQ3 l (fun (y:Usage)=>(bif (!(ByteArray.toList y.user==ByteArray.toList user)) then 0 else y.share)))) [(0,AObj.row 9 1 [[Sg user]])]:=by
  have hR:QQ3 l (fun (y:Usage)=>(bif (!(ByteArray.toList y.user==ByteArray.toList user)) then 0 else y.share))=QQ3 l (fun (y:Usage)=>(bif (!(ByteArray.toList y.user==ByteArray.toList user)) then 0 else y.share)):=rfl;refine mo (kp 8 [10,11,12,13,14]) Tryz.func230 ?_;refine us (QZa l szA _) ?_;refine ai (fun h5=>?_) (fun h6=>?_)
  ·refine Qq0 (fun r:Int=>I r) (fun r:Int=>[(0,AObj.row 9 1 [[Sg user]])]) (leaf:=0) (foll hR (ct h5 rfl)) ?_;exact tt [0] (tO rfl (ts (l1 LowL.nil)) .nil) t1
  ·refine Qs0 (fun (n:Int) (i:Nat)=>Qh3 (Q64 (fun (y:Usage)=>(bif (!(ByteArray.toList y.user==ByteArray.toList user)) then 0 else y.share)) (List.drop i l) n i)=QQ3 l (fun (y:Usage)=>(bif (!(ByteArray.toList y.user==ByteArray.toList user)) then 0 else y.share))∧i<=l.length) (fun n i=>l.length - i) (fun n i=>[(1,AVal.fn (.func 231) [] [AVal.ptr 0 0 1 0 0]),(4,I 0),(5,I n),(11,Qe3 l),(12,I (l.length:Int)),(13,I (i:Int))]) (fun n i=>[(0,AObj.row 9 1 [[Sg user]])]) 0 0 (wk [0] (tO rfl (ts (l1 LowL.nil)) .nil) (sv (QZ0 .nil (cv (Q30 0 rfl rfl) .nil)) (s1 (s1 (sl lw (s1 (s1 .nil))))))) ⟨foll hR (cf h6 rfl),by exact omA⟩ ?_;clear hR;rintro n i ⟨hR,hj⟩;(try dsimp only at hR hj);refine ai (fun h7=>?_) (fun h8=>?_)
   ·have hlt:=ltA h7;rw [Qc0 Usage.zero hlt] at hR;have hxz:(l.getD i Usage.zero).sz:=Q90 (by first|assumption|grind) (Usage.szz _);have hkz:=hxz;obtain ⟨z9,z10⟩:((l.getD i Usage.zero).user).size<=4294967296∧((l.getD i Usage.zero).account).size<=4294967296:=hxz;refine ai gkA ?_;refine us (mv [0] (cl1 (l.getD i Usage.zero) szA) (dO (ds (l1 LowL.nil)) .nil) (dl (Usage.low _ _) (dp .nil)) (rO (re (l1 LowL.nil)) .nil) rx) ?_;refine Or.inl ?_;refine us (AGives.as2 (sat_Plus_c ([n,((fun (y:Usage)=>(bif (!(ByteArray.toList y.user==ByteArray.toList user)) then 0 else y.share)) (l.getD i Usage.zero))]:List Int) szA _) (av (QA7 (c:=(fun q_=>[I q_])) (d:=0) ([n,((fun (y:Usage)=>(bif (!(ByteArray.toList y.user==ByteArray.toList user)) then 0 else y.share)) (l.getD i Usage.zero))]:List Int) rfl) .nil)) ?_;exact Qe0 (QCc ([n,((fun (y:Usage)=>(bif (!(ByteArray.toList y.user==ByteArray.toList user)) then 0 else y.share)) (l.getD i Usage.zero))]:List Int)) (i+1) (wk [0] (tO rfl (ts (l1 LowL.nil)) .nil) (sv (QZ0 .nil (cv (Q30 0 rfl rfl) .nil)) (s1 (s1 (sl lw (s1 (sv (Qb0 (I_eq (wr omA)) lx) .nil))))))) omA ⟨foll hR (congrArg (fun p:Int=>Qh3 p) rfl),by exact omA⟩
   ·rw [Qk0 (l:=l) (j:=i) (geA h8)] at hR;replace hR:Qh3 n=QQ3 l (fun (y:Usage)=>(bif (!(ByteArray.toList y.user==ByteArray.toList user)) then 0 else y.share)):=fo2 (fun p:Int=>Qh3 p) (n) hR rfl;refine Qq0 (fun r:Int=>I r) (fun r:Int=>[(0,AObj.row 9 1 [[Sg user]])]) (leaf:=n) (foll hR rfl) ?_;exact tt [0] (tO rfl (ts (l1 LowL.nil)) .nil) t1
 refine us (mv [0] (hof1) (dO (ds (l1 LowL.nil)) .nil) (dl lw (dv (dn_fn .nil (dp .nil)) .nil)) (rO (re (l1 LowL.nil)) .nil) rx) ?_;obtain rfl:=foll hR rfl;exact Q00 lx sr
def QC3 (l:List Int) (at_:Int) (i:Bool):Token × Int × Int × Int:=bif i then ((⟨5,(runesBytes (List.drop (Int.toNat at_) (List.take (Int.toNat (w64 (at_+1))) l))),0,at_⟩:Token),(w64 (at_+1)),0,0) else (Token.zero,0,at_,50)
def Qh1 (l:List Int) (at_:Int):Token × Int × Int × Int:=bif ((Qg0 (l.getD (Int.toNat at_) 0))==0) then (Token.zero,0,at_,40) else bif ((Qg0 (l.getD (Int.toNat at_) 0))==2) then ((⟨1,(Q03 (runesBytes (List.drop (Int.toNat at_) (List.take (Int.toNat (QB1 l at_)) l)))),0,at_⟩:Token),(QB1 l at_),0,0) else bif ((Qg0 (l.getD (Int.toNat at_) 0))==3) then bif (Qwb (List.drop (Int.toNat at_) (List.take (Int.toNat (QB1 l at_)) l))) then ((⟨3,(runesBytes (List.drop (Int.toNat at_) (List.take (Int.toNat (QB1 l at_)) l))),0,at_⟩:Token),(QB1 l at_),0,0) else bif (decide ((Qo8 (List.drop (Int.toNat at_) (List.take (Int.toNat (QB1 l at_)) l)))<0)) then (Token.zero,0,at_,50) else ((⟨2,⟨#[]⟩,(Qo8 (List.drop (Int.toNat at_) (List.take (Int.toNat (QB1 l at_)) l))),at_⟩:Token),(QB1 l at_),0,0) else bif ((l.getD (Int.toNat at_) 0)==34) then ((QL3 l at_).1,(QL3 l at_).2.1,(QL3 l at_).2.2.1,(QL3 l at_).2.2.2) else bif ((l.getD (Int.toNat at_) 0)==61) then QC3 l at_ ((l.getD (Int.toNat at_) 0)==61) else bif ((l.getD (Int.toNat at_) 0)==58) then QC3 l at_ ((l.getD (Int.toNat at_) 0)==58) else bif ((l.getD (Int.toNat at_) 0)==44) then QC3 l at_ ((l.getD (Int.toNat at_) 0)==44) else QC3 l at_ ((l.getD (Int.toNat at_) 0)==45)
theorem ref05_one_c (l:List Int) (at_:Int) (hs0:l.length<=4294967296) (hp0:0<=at_∧at_<(l.length:Int)∧l.length<=400):∀ objs,AGives Tryz.prog 270 [runes l,I at_] objs (AVal.tup [Token.a ((Qh1 l at_).1),I ((Qh1 l at_).2.1),I ((Qh1 l at_).2.2.1),I ((Qh1 l at_).2.2.2)]):=by
 generalize hR:Qh1 l at_=R;refine ga (.cons lw (l1 .nil)) (Low.tup' (.cons (Token.low _ _) (l1 (l1 (l1 .nil))))) (kj [1000028] 11 [17,18,22,37,46,65,73,74,83]) Tryz.func270 ?_;have hk0:=hs0;obtain z21:l.length<=4294967296:=hs0;have hw0:w64 (at_+1)=at_+1:=wr (by omega);have hf0:=QYd l at_ hp0.1 hp0.2.1 hp0.2.2;refine ai gkA ?_;refine us (QP4 (l.getD (Int.toNat at_) 0) _) ?_;refine ai (fun h1=>?_) (fun h2=>?_)
 ·obtain rfl:=foll hR (ct h1 rfl);exact Q00 (Low.tup' (.cons (Token.low _ _) (l1 (l1 (l1 .nil))))) (Seen.tup (e1 (e1 (e1 (e1 .nil)))))
 ·refine ai (fun h3=>?_) (fun h4=>?_)
  ·refine us (QNg l at_ szA ckA _) ?_;refine ai gkA ?_;(first|refine ⟨(List.drop (Int.toNat at_) (List.take (Int.toNat (QB1 l at_)) l)),by exact cvA,?_⟩|refine ⟨_,fun _=>⟨(List.drop (Int.toNat at_) (List.take (Int.toNat (QB1 l at_)) l)),by exact cvA,rfl,rfl⟩,?_⟩|refine ⟨_,rfl,⟨(List.drop (Int.toNat at_) (List.take (Int.toNat (QB1 l at_)) l)),by exact cvA,Sub.refl _,rfl⟩,?_⟩);refine us (ref04_Lower_c (runesBytes (List.drop (Int.toNat at_) (List.take (Int.toNat (QB1 l at_)) l))) szA _) ?_;obtain rfl:=foll hR (cf h2 (ct h3 rfl));exact Q00 (Low.tup' (.cons (Token.low _ _) (l1 (l1 (l1 .nil))))) (Seen.tup (e1 (e1 (e1 (e1 .nil)))))
  ·refine ai (fun h5=>?_) (fun h6=>?_)
   ·refine us (QNg l at_ szA ckA _) ?_;refine ai gkA ?_;refine us (AGives.as2 (ref05_plain_c (List.drop (Int.toNat at_) (List.take (Int.toNat (QB1 l at_)) l)) szA _) (av (as_cut l (Int.toNat at_) (Int.toNat (QB1 l at_)) leA ckA) .nil)) ?_;refine ai (fun h7=>?_) (fun h8=>?_)
    ·refine ai gkA ?_;(first|refine ⟨(List.drop (Int.toNat at_) (List.take (Int.toNat (QB1 l at_)) l)),by exact cvA,?_⟩|refine ⟨_,fun _=>⟨(List.drop (Int.toNat at_) (List.take (Int.toNat (QB1 l at_)) l)),by exact cvA,rfl,rfl⟩,?_⟩|refine ⟨_,rfl,⟨(List.drop (Int.toNat at_) (List.take (Int.toNat (QB1 l at_)) l)),by exact cvA,Sub.refl _,rfl⟩,?_⟩);obtain rfl:=foll hR (cf h2 (cf h4 (ct h5 (ct h7 rfl))));exact Q00 (Low.tup' (.cons (Token.low _ _) (l1 (l1 (l1 .nil))))) (Seen.tup (e1 (e1 (e1 (e1 .nil)))))
    ·refine ai gkA ?_;refine us (AGives.as2 (ref05_Number_c (List.drop (Int.toNat at_) (List.take (Int.toNat (QB1 l at_)) l)) szA _) (av (as_cut l (Int.toNat at_) (Int.toNat (QB1 l at_)) leA ckA) .nil)) ?_;refine ai (fun h9=>?_) (fun h10=>?_)
     ·have qh9:=of_decide_eq_true h9;obtain rfl:=foll hR (cf h2 (cf h4 (ct h5 (cf h8 (ct h9 rfl)))));exact Q00 (Low.tup' (.cons (Token.low _ _) (l1 (l1 (l1 .nil))))) (Seen.tup (e1 (e1 (e1 (e1 .nil)))))
     ·have qh10:=of_decide_eq_false h10;obtain rfl:=foll hR (cf h2 (cf h4 (ct h5 (cf h8 (cf h10 rfl)))));exact Q00 (Low.tup' (.cons (Token.low _ _) (l1 (l1 (l1 .nil))))) (Seen.tup (e1 (e1 (e1 (e1 .nil)))))
   ·refine ai gkA ?_;refine ai (fun h11=>?_) (fun h12=>?_)
    ·refine us (ref05_text_c l at_ szA ckA _) ?_;obtain rfl:=foll hR (cf h2 (cf h4 (cf h6 (ct h11 rfl))));exact Q00 (Low.tup' (.cons (Token.low _ _) (l1 (l1 (l1 .nil))))) (Seen.tup (e1 (e1 (e1 (e1 .nil)))))
    ·refine QZ1 (fun (i:Bool)=>QC3 l at_ i=R) (fun i=>[(0,runes l),(1,I at_),(4,AVal.ptr 0 0 4 0 0),(5,I 0),(6,I 0),(7,I 0),(8,AVal.ptr 1 0 4 0 0),(83,Bo i)]) (fun i=>[(0,AObj.row 221 4 [[I 0,Sg ⟨#[]⟩,I 0,I 0]]),(0,AObj.row 221 4 [[I 0,Sg ⟨#[]⟩,I 0,I at_]])]) ?_ ?_
     ·clear hR;rintro i hR;(try dsimp only at hR);refine ai (fun h13=>?_) (fun h14=>?_)
      ·refine ai gkA ?_;(first|refine ⟨(List.drop (Int.toNat at_) (List.take (Int.toNat (w64 (at_+1))) l)),by exact cvA,?_⟩|refine ⟨_,fun _=>⟨(List.drop (Int.toNat at_) (List.take (Int.toNat (w64 (at_+1))) l)),by exact cvA,rfl,rfl⟩,?_⟩|refine ⟨_,rfl,⟨(List.drop (Int.toNat at_) (List.take (Int.toNat (w64 (at_+1))) l)),by exact cvA,Sub.refl _,rfl⟩,?_⟩);obtain rfl:=foll hR (ct h13 rfl);exact Q00 (Low.tup' (.cons (Token.low _ _) (l1 (l1 (l1 .nil))))) (Seen.tup (e1 (e1 (e1 (e1 .nil)))))
      ·obtain rfl:=foll hR (cf h14 rfl);exact Q00 (Low.tup' (.cons (Token.low _ _) (l1 (l1 (l1 .nil))))) (Seen.tup (e1 (e1 (e1 (e1 .nil)))))
     ·refine ai (fun h15=>?_) (fun h16=>?_)
      ·exact Qf0 ((l.getD (Int.toNat at_) 0)==61) (wk [0,1] (tO rfl (ts Token.lo) (tO rfl (ts Token.lo) .nil)) (sl lw (s1 (sv (Q30 0 rfl rfl) (s1 (s1 (s1 (sv (Q30 1 rfl rfl) (s1 .nil))))))))) (foll hR (cf h2 (cf h4 (cf h6 (cf h12 (ct h15 rfl))))))
      ·refine ai (fun h17=>?_) (fun h18=>?_)
       ·exact Qf0 ((l.getD (Int.toNat at_) 0)==58) (wk [0,1] (tO rfl (ts Token.lo) (tO rfl (ts Token.lo) .nil)) (sl lw (s1 (sv (Q30 0 rfl rfl) (s1 (s1 (s1 (sv (Q30 1 rfl rfl) (s1 .nil))))))))) (foll hR (cf h2 (cf h4 (cf h6 (cf h12 (cf h16 (ct h17 rfl)))))))
       ·refine ai (fun h19=>?_) (fun h20=>?_)
        ·exact Qf0 ((l.getD (Int.toNat at_) 0)==44) (wk [0,1] (tO rfl (ts Token.lo) (tO rfl (ts Token.lo) .nil)) (sl lw (s1 (sv (Q30 0 rfl rfl) (s1 (s1 (s1 (sv (Q30 1 rfl rfl) (s1 .nil))))))))) (foll hR (cf h2 (cf h4 (cf h6 (cf h12 (cf h16 (cf h18 (ct h19 rfl))))))))
        ·exact Qf0 ((l.getD (Int.toNat at_) 0)==45) (wk [0,1] (tO rfl (ts Token.lo) (tO rfl (ts Token.lo) .nil)) (sl lw (s1 (sv (Q30 0 rfl rfl) (s1 (s1 (s1 (sv (Q30 1 rfl rfl) (s1 .nil))))))))) (foll hR (cf h2 (cf h4 (cf h6 (cf h12 (cf h16 (cf h18 (cf h20 rfl))))))))
theorem QPg (l:List Int) (at_:Int) (b:Bool) (h0:0<=at_) (h1:at_<(l.length:Int)) (h:l.length<=400):((QC3 l at_ b).2.2.2 != 0)=false->at_<(QC3 l at_ b).2.1∧(QC3 l at_ b).2.1<=(l.length:Int):=by
 have hw:w64 (at_+1)=at_+1:=wr (by omega)
 cases b with
 | false=>intro h;cases h
 | true=>intro _;simp only [QC3,cond_true];rw [hw];omega
theorem ref05_one_lt (l:List Int) (at_:Int) (h0:0<=at_) (h1:at_<(l.length:Int)) (h:l.length<=400):((Qh1 l at_).2.2.2 != 0)=false->at_<(Qh1 l at_).2.1∧(Qh1 l at_).2.1<=(l.length:Int):=by
 have he:=QYd l at_ h0 h1 h
 have hk:=fun b=>QPg l at_ b h0 h1 h
 have ht:=ref05_text_lt l at_ h0 h1 h
 unfold Qh1
 repeat' first
  | exact hk _
  | exact ht
  | exact fun _=>he
  | (intro h;cases h;done)
  | (rw [Bool.cond_eq_ite];split)
def Q84 :List Book->List Step->Nat->(List Step) × Nat
 | [],p_,i=>(p_,i)
 | x_ :: r,p_,i=>Q84 r (Q57 p_ x_.from_ x_.to x_.nodes) (i+1)
def QP6 (x_1:Job):List Int->Bool->Nat->Bool × Nat
 | [],out,k=>(out,k)
 | x_2 :: r,out,k=>QP6 x_1 r (out||(x_2==x_1.id)) (k+1)
def Qr3 (except:List Int):List Job->List Step->Nat->(List Step) × Nat
 | [],p_1,i1=>(p_1,i1)
 | x_1 :: r,p_1,i1=>(fun p1:Bool × Nat=>bif ((Qi0 x_1).2.2.2&&(!p1.1)) then Qr3 except r (Q57 p_1 ((Qi0 x_1).1) (w64 ((Qi0 x_1).1+(Qi0 x_1).2.1)) ((Qi0 x_1).2.2.1)) (i1+1) else Qr3 except r p_1 (i1+1)) (QP6 x_1 except false 0)
def ref20_Left_k2 (p_1:List Step) (i1:Nat):(List Step):=p_1
def ref20_Left_k1 (s:State) (except:List Int) (p_:List Step) (i:Nat):(List Step):=ref20_Left_k2 ((Qr3 except s.jobs p_ 0).1) ((Qr3 except s.jobs p_ 0).2)
def Qz2 (s:State) (except:List Int):(List Step):=ref20_Left_k1 s except ((Q84 s.books (QX7 s) 0).1) ((Q84 s.books (QX7 s) 0).2)
def QJ1 (l:List Node):Int:=(QX1 l (fun (y:Node)=>((y.state==0)&&(!y.drain))))
theorem fleet_Free_c (l:List Node) (hs0:l.length<=4294967296):∀ objs,AGives Tryz.prog 40 [nodeL l] objs (U (QJ1 l)):=by
 generalize hR:QJ1 l=R;refine ga (.cons lw .nil) lx (kp 3 []) Tryz.func40 ?_;have hk0:=hs0;obtain z7:l.length<=4294967296:=hs0;have cl1:∀ (y1:Node),AMoves Tryz.prog 101 [Node.a y1] [] 0 (Bo ((fun (y:Node)=>((y.state==0)&&(!y.drain))) y1)) []:=by
  intro y1;have hR:(fun (y:Node)=>((y.state==0)&&(!y.drain))) y1=(fun (y:Node)=>((y.state==0)&&(!y.drain))) y1:=rfl;refine mo (kp 3 []) Tryz.func101 ?_;refine Qq0 (fun r:Bool=>Bo r) (fun _=>[]) (leaf:=((y1.state==0)&&(!y1.drain))) (foll hR rfl) ?_;exact tt [] .nil t1
 have hof1:AMoves Tryz.prog 100 [nodeL l,AVal.fn (.func 101) [] []] [] 0 (U (QX1 l (fun (y:Node)=>((y.state==0)&&(!y.drain))))) []:=by
  have hR:QX1 l (fun (y:Node)=>((y.state==0)&&(!y.drain)))=QX1 l (fun (y:Node)=>((y.state==0)&&(!y.drain))):=rfl;refine mo (kp 10 [12,13,14,15,16,22]) Tryz.func100 ?_;refine us (Qm9 l szA _) ?_;refine ai (fun h1=>?_) (fun h2=>?_)
  ·refine Qq0 (fun r:Int=>U r) (fun r:Int=>[]) (leaf:=0) (foll hR (ct h1 rfl)) ?_;exact tt [] .nil t1
  ·refine Qs0 (fun (out:List Int) (i:Nat)=>QK1 (Qe4 (fun (y:Node)=>((y.state==0)&&(!y.drain))) (List.drop i l) out i)=QX1 l (fun (y:Node)=>((y.state==0)&&(!y.drain)))∧i<=l.length∧out.length<=i) (fun out i=>l.length - i) (fun out i=>[(1,AVal.fn (.func 101) [] []),(4,U 0),(5,AVal.own 0 0 1 0 out.length),(13,nodeL l),(14,I (l.length:Int)),(15,I (i:Int))]) (fun out i=>[(0,AObj.row 3 1 (out.map (fun q_=>[I q_])))]) [] 0 ((QG1 3 1).trans (wk [0] (tO rfl (tl eqA) .nil) (sv (Q01 (Low.fn _ _ _ LowL.nil LowL.nil)) (s1 (sv (Qo1 0 rfl) (sl lw (s1 (s1 .nil)))))))) ⟨foll hR (cf h2 rfl),by exact omA,by exact exA⟩ ?_;clear hR;rintro out i ⟨hR,hj,hx⟩;(try dsimp only at hR hj hx);refine ai (fun h3=>?_) (fun h4=>?_)
   ·have hlt:=ltA h3;rw [Qc0 Node.zero hlt] at hR;refine ai gkA ?_;refine us (mv [] (cl1 (l.getD i Node.zero)) .nil (dl (Node.low _ _) .nil) .nil rx) ?_;refine ai (fun h5=>?_) (fun h6=>?_)
    ·refine Or.inl ?_;(first|refine ⟨Q33 8 rfl lnA apA,?_⟩|refine ⟨QA1 8 rfl apA,?_⟩);exact Qe0 (out++([(i:Int)]:List Int)) (i+1) (wk [0] (tO rfl (tl eqA) .nil) (sv (Q01 (Low.fn _ _ _ LowL.nil LowL.nil)) (s1 (sv (to 0 lnA) (sl lw (s1 (sv (Qb0 (I_eq (wr omA)) lx) .nil))))))) omA ⟨foll hR (congrArg (fun p:(List Int)=>QK1 p) (ct h5 rfl)),by exact omA,by exact exA⟩
    ·exact Qe0 out (i+1) (wk [0] (tO rfl (tl eqA) .nil) (sv (Q01 (Low.fn _ _ _ LowL.nil LowL.nil)) (s1 (sv (to 0 lnA) (sl lw (s1 (sv (Qb0 (I_eq (wr omA)) lx) .nil))))))) omA ⟨foll hR (congrArg (fun p:(List Int)=>QK1 p) (cf h6 rfl)),by exact omA,by exact exA⟩
   ·rw [Qk0 (l:=l) (j:=i) (geA h4)] at hR;replace hR:QK1 out=QX1 l (fun (y:Node)=>((y.state==0)&&(!y.drain))):=fo2 (fun p:(List Int)=>QK1 p) (out) hR rfl;refine us (AGives.lent (QSd out szA []) (ev (Qy1 _ _ rfl eqA lnA) .nil) (.cons lw .nil) (Qeb rfl)) ?_;refine Qq0 (fun r:Int=>U r) (fun r:Int=>[]) (leaf:=(QQ5 out).1) (foll hR rfl) ?_;exact tt [] .nil t1
 refine us (mv [] (hof1) .nil (dl lw (dv (QE6 (Low.fn _ _ _ LowL.nil LowL.nil)) .nil)) .nil rx) ?_;obtain rfl:=foll hR rfl;exact Q00 lx sr
end Go.Proofs.YtjpgfmbccohngaaGreatDoor
