/-
  What the last text of this claim leans on: an evaluator over the code, contracts of functions, plain laws. Conditions stand in each statement.
-/
import Derived.Test.YtackngeeehiegaaGreatDoorRS10
import Derived.Test.YtackngeeehiegaaGreatDoorProg
namespace Go.Proofs.YtackngeeehiegaaGreatDoor
set_option linter.unusedSimpArgs false
set_option linter.unusedVariables false
open Go.Fw
set_option maxRecDepth 20000
set_option maxHeartbeats 4000000
attribute [local irreducible] ACalls AMoves
def Q75 (s:State):Bool:=(((((Qec s.nodes)&&(Qfc s.jobs))&&(Qhc s.books))&&(Qgc s.ledger))&&(decide ((s.resizes.length:Int)<=100)))
theorem law20_Few_c (s:State) (hs0:s.szM):GV 8 [State.a s] (Bo (Q75 s)):=by
 generalize hR:Q75 s=R;refine gA (kp 3 []) Tryz.func8 ?_;have hk0:=hs0;obtain ⟨z1,z2,z3,z4,z5,z6,z7⟩:=hs0;refine us (law12_Few_c s.nodes _) ?_;(first|apply u2|apply u3|apply u4|apply us);exact law15_Few_c s.jobs szA _;(first|apply u2|apply u3|apply u4|apply us);exact law19_Few_c s.books _;(first|apply u2|apply u3|apply u4|apply us);exact law17_Few_c s.ledger szA _;exact lfA
theorem u3g {P:Program} {f:FuncId} {args:List AVal} {objs:Objs} {r:AVal} {g:Bool} {K:AVal->Objs->Prop} (h:g=true->ACalls P f args objs fun a b=>a=r∧b=objs) (k:K r objs):∃ r' o',(g=true->ACalls P f args objs (fun a b=>a=r'∧b=o'))∧(g=false->o'=objs)∧K r' o':=⟨r,objs,h,fun _=>rfl,k⟩
theorem QAd:∀ (l:List Usage) (i:Nat),Qv7 l i=true -> ∀ y ∈ l,y.sz
 | [],_,_,y,hy=>nomatch hy
 | x :: r,i,h,y,hy=>by
  rw [Qv7] at h
  cases hc:((decide ((ByteArray.size x.user:Int) > 1000))||(decide ((ByteArray.size x.account:Int) > 1000))) with
  | true=>rw [hc] at h;cases h
  | false =>
   rw [hc] at h
   rcases List.mem_cons.1 hy with rfl|hy
   ·simp only [Bool.or_eq_false_iff,decide_eq_false_iff_not] at hc
    exact ⟨by omega,by omega⟩
   ·exact QAd r (i+1) h y hy
theorem law14_Few_sz {j:Job} (h:Q79 j=true):j.sz:=by
 simp only [Q79,Qdc,Bool.and_eq_true,decide_eq_true_eq] at h
 exact ⟨by omega,by omega,by omega,by show j.shape.alts.length<=_;omega,by omega⟩
theorem Qzd:∀ (l:List Job) (i:Nat),Qu7 l i=true -> ∀ y ∈ l,y.sz
 | [],_,_,y,hy=>nomatch hy
 | x :: r,i,h,y,hy=>by
  rw [Qu7] at h
  cases hc:Q79 x with
  | false=>rw [hc] at h;cases h
  | true =>
   rw [hc] at h
   rcases List.mem_cons.1 hy with rfl|hy
   ·exact law14_Few_sz hc
   ·exact Qzd r (i+1) h y hy
theorem QBd {s:State} (h:Q75 s=true):s.sz:=by
 simp only [Q75,Qec,Qfc,Qhc,Qgc,Bool.and_eq_true,decide_eq_true_eq] at h
 obtain ⟨⟨⟨⟨h1,h2⟩,h3⟩,h4⟩,h5⟩:=h
 cases hj:decide ((s.jobs.length:Int) > 60) with
 | true=>rw [hj] at h2;cases h2
 | false =>
  cases hl:decide ((s.ledger.length:Int) > 300) with
  | true=>rw [hl] at h4;cases h4
  | false =>
   rw [hj] at h2
   rw [hl] at h4
   have qj:=of_decide_eq_false hj
   have ql:=of_decide_eq_false hl
   exact ⟨by omega,by omega,Qzd _ _ h2,by omega,by omega,by omega,QAd _ _ h4⟩
def Qa0 (l:List Node):Int:=bif (((decide ((l.length:Int)<1))||(decide ((l.length:Int) > 48)))||(QF0 l (fun (y:Node)=>(!(QP0 y))))) then 120 else 0
theorem QX2 (l:List Node) (hs0:l.length<=4294967296):GV 94 [nodeL l] (I (Qa0 l)):=by
 generalize hR:Qa0 l=R;refine gA (kp 3 [14]) Tryz.func94 ?_;have hk0:=hs0;obtain z7:l.length<=4294967296:=hs0;have cl1:∀ (y1:Node),AMoves Tryz.prog 151 [Node.a y1] [] 0 (Bo ((fun (y:Node)=>(!(QP0 y))) y1)) []:=by
  intro y1;have hR:(fun (y:Node)=>(!(QP0 y))) y1=(fun (y:Node)=>(!(QP0 y))) y1:=rfl;refine mo (kp 3 []) Tryz.func151 ?_;refine us (fleet_fine_c y1 _) ?_;refine Qt0 (fun r:Bool=>Bo r) (fun _=>[]) (leaf:=(!(QP0 y1))) (foll hR rfl) ?_;exact tt [] .nil t1
 have hof1:AMoves Tryz.prog 150 [nodeL l,AVal.fn (.func 151) [] []] [] 0 (Bo (QF0 l (fun (y:Node)=>(!(QP0 y))))) []:=by
  have hR:QF0 l (fun (y:Node)=>(!(QP0 y)))=QF0 l (fun (y:Node)=>(!(QP0 y))):=rfl;refine mo (kp 5 []) Tryz.func150 ?_;have hof2:AMoves Tryz.prog 209 [nodeL l,AVal.fn (.func 151) [] []] [] 0 (I (Qg2 l (fun (y:Node)=>(!(QP0 y))))) []:=by
   have hR:Qg2 l (fun (y:Node)=>(!(QP0 y)))=Qg2 l (fun (y:Node)=>(!(QP0 y))):=rfl;refine mo (kp 6 [7,8,9,16]) Tryz.func209 ?_;refine Qg0 (fun (i:Nat)=>Qi4 (fun (y:Node)=>(!(QP0 y))) (List.drop i l) i=Qg2 l (fun (y:Node)=>(!(QP0 y)))∧i<=l.length) (fun i=>l.length - i) (fun i=>[(0,nodeL l),(1,AVal.fn (.func 151) [] []),(4,I 0),(7,I (l.length:Int)),(8,I (i:Int))]) (fun i=>[]) 0 (wkA []) ⟨foll hR rfl,by exact omA⟩ ?_;clear hR;rintro i ⟨hR,hj⟩;(try dsimp only at hR hj);refine ai (fun h1=>?_) (fun h2=>?_)
   ·have hlt:=ltA h1;rw [Qc0 Node.zero hlt] at hR;refine ai gkA ?_;refine us (mv [] (cl1 (l.getD i Node.zero)) .nil (dl (Node.low _ _) .nil) .nil rx) ?_;refine ai (fun h3=>?_) (fun h4=>?_)
    ·refine Qt0 (fun r:Int=>I r) (fun r:Int=>[]) (leaf:=(i:Int)) (foll hR (ct h3 rfl)) ?_;exact tt [] .nil t1
    ·exact Ql0 (i+1) (wkA []) omA ⟨folA,by exact omA⟩
   ·rw [Qd0 (l:=l) (j:=i) (geA h2)] at hR;refine Qt0 (fun r:Int=>I r) (fun r:Int=>[]) (leaf:=(-1)) (foll hR rfl) ?_;exact tt [] .nil t1
  refine us (mv [] (hof2) .nil (dl lw (dv (QK6 (Low.fn _ _ _ LowL.nil LowL.nil)) .nil)) .nil rx) ?_;refine Qt0 (fun r:Bool=>Bo r) (fun r:Bool=>[]) (leaf:=(decide ((Qg2 l (fun (y:Node)=>(!(QP0 y)))) >= 0))) (foll hR rfl) ?_;exact tt [] .nil t1
 (first|apply u2|apply u3|apply u4|apply us);exact mv [] (hof1) .nil (dl lw (dv (QK6 (Low.fn _ _ _ LowL.nil LowL.nil)) .nil)) .nil rx;refine ai (fun h5=>?_) (fun h6=>?_)
 ·exact lfA
 ·exact lfA
def Q62 (ok:Bool):Int:=bif (!ok) then 70 else 0
def QU1 (s:Shape):Int:=bif (s.kind==1) then Q62 (((((s.min==0)&&(s.max==0))&&(s.wall==0))&&((s.alts.length:Int)==1))&&(Q91 (s.alts.getD 0 Alt.zero))) else bif (s.kind==2) then Q62 (((((((s.min==0)&&(s.max==0))&&(s.wall==0))&&(decide ((s.alts.length:Int) >= 1)))&&(decide ((s.alts.length:Int)<=6)))&&(Ql5 s.alts))&&(!(QU0 s.alts (fun (y:Alt)=>(!(Q91 y)))))) else bif (s.kind==3) then Q62 (((((s.alts.length:Int)==0)&&(decide (s.min<=s.max)))&&(Q91 (⟨s.min,s.wall⟩:Alt)))&&(decide (s.max<=48))) else Q62 false
theorem QGc (s:Shape) (hs0:s.sz):GV 199 [Shape.a s] (I (QU1 s)):=by
 generalize hR:QU1 s=R;refine gA (kj [1000011] 6 [23,24,38,60,85]) Tryz.func199 ?_;have hk0:=hs0;obtain z13:s.alts.length<=4294967296:=hs0;refine Qb1 (fun (ok:Bool)=>Q62 ok=R) (fun ok=>[(2,I 0),(5,Bo ok)]) (fun ok=>[]) ?_ ?_
 ·clear hR;rintro ok hR;(try dsimp only at hR);refine ai (fun h1=>?_) (fun h2=>?_)
  ·exact lfA
  ·exact lfA
 ·refine ai (fun h3=>?_) (fun h4=>?_)
  ·refine ai gkA ?_;(first|apply u2|apply u3|apply u4|apply us);exact QCa (s.alts.getD 0 Alt.zero) _;exact Q70 (((((s.min==0)&&(s.max==0))&&(s.wall==0))&&((s.alts.length:Int)==1))&&(Q91 (s.alts.getD 0 Alt.zero))) (wkA []) (foll hR (ct h3 rfl))
  ·refine ai (fun h5=>?_) (fun h6=>?_)
   ·(first|apply u2|apply u3|apply u4|apply us);exact shape_apart_c s.alts szA _;have cl1:∀ (y1:Alt),AMoves Tryz.prog 242 [Alt.a y1] [] 0 (Bo ((fun (y:Alt)=>(!(Q91 y))) y1)) []:=by
     intro y1;have hR:(fun (y:Alt)=>(!(Q91 y))) y1=(fun (y:Alt)=>(!(Q91 y))) y1:=rfl;refine mo (kp 3 []) Tryz.func242 ?_;refine us (QCa y1 _) ?_;refine Qt0 (fun r:Bool=>Bo r) (fun _=>[]) (leaf:=(!(Q91 y1))) (foll hR rfl) ?_;exact tt [] .nil t1
    have hof1:AMoves Tryz.prog 241 [altL s.alts,AVal.fn (.func 242) [] []] [] 0 (Bo (QU0 s.alts (fun (y:Alt)=>(!(Q91 y))))) []:=by
     have hR:QU0 s.alts (fun (y:Alt)=>(!(Q91 y)))=QU0 s.alts (fun (y:Alt)=>(!(Q91 y))):=rfl;refine mo (kp 5 []) Tryz.func241 ?_;have hof2:AMoves Tryz.prog 273 [altL s.alts,AVal.fn (.func 242) [] []] [] 0 (I (Q31 s.alts (fun (y:Alt)=>(!(Q91 y))))) []:=by
      have hR:Q31 s.alts (fun (y:Alt)=>(!(Q91 y)))=Q31 s.alts (fun (y:Alt)=>(!(Q91 y))):=rfl;refine mo (kp 6 [7,8,9,16]) Tryz.func273 ?_;refine Qg0 (fun (i:Nat)=>Q33 (fun (y:Alt)=>(!(Q91 y))) (List.drop i s.alts) i=Q31 s.alts (fun (y:Alt)=>(!(Q91 y)))∧i<=s.alts.length) (fun i=>s.alts.length - i) (fun i=>[(0,altL s.alts),(1,AVal.fn (.func 242) [] []),(4,I 0),(7,I (s.alts.length:Int)),(8,I (i:Int))]) (fun i=>[]) 0 (wkA []) ⟨foll hR rfl,by exact omA⟩ ?_;clear hR;rintro i ⟨hR,hj⟩;(try dsimp only at hR hj);refine ai (fun h7=>?_) (fun h8=>?_)
      ·have hlt:=ltA h7;rw [Qc0 Alt.zero hlt] at hR;refine ai gkA ?_;refine us (mv [] (cl1 (s.alts.getD i Alt.zero)) .nil (dl (Alt.low _ _) .nil) .nil rx) ?_;refine ai (fun h9=>?_) (fun h10=>?_)
       ·refine Qt0 (fun r:Int=>I r) (fun r:Int=>[]) (leaf:=(i:Int)) (foll hR (ct h9 rfl)) ?_;exact tt [] .nil t1
       ·exact Ql0 (i+1) (wkA []) omA ⟨folA,by exact omA⟩
      ·rw [Qd0 (l:=s.alts) (j:=i) (geA h8)] at hR;refine Qt0 (fun r:Int=>I r) (fun r:Int=>[]) (leaf:=(-1)) (foll hR rfl) ?_;exact tt [] .nil t1
     refine us (mv [] (hof2) .nil (dl lw (dv (QK6 (Low.fn _ _ _ LowL.nil LowL.nil)) .nil)) .nil rx) ?_;refine Qt0 (fun r:Bool=>Bo r) (fun r:Bool=>[]) (leaf:=(decide ((Q31 s.alts (fun (y:Alt)=>(!(Q91 y)))) >= 0))) (foll hR rfl) ?_;exact tt [] .nil t1
    (first|apply u2|apply u3|apply u4|apply us);exact mv [] (hof1) .nil (dl lw (dv (QK6 (Low.fn _ _ _ LowL.nil LowL.nil)) .nil)) .nil rx;exact Q70 (((((((s.min==0)&&(s.max==0))&&(s.wall==0))&&(decide ((s.alts.length:Int) >= 1)))&&(decide ((s.alts.length:Int)<=6)))&&(Ql5 s.alts))&&(!(QU0 s.alts (fun (y:Alt)=>(!(Q91 y)))))) (wkA []) (foll hR (cf h4 (ct h5 rfl)))
   ·refine ai (fun h11=>?_) (fun h12=>?_)
    ·(first|apply u2|apply u3|apply u4|apply us);exact QCa (⟨s.min,s.wall⟩:Alt) _;exact Q70 (((((s.alts.length:Int)==0)&&(decide (s.min<=s.max)))&&(Q91 (⟨s.min,s.wall⟩:Alt)))&&(decide (s.max<=48))) (wkA []) (foll hR (cf h4 (cf h6 (ct h11 rfl))))
    ·exact Q70 false (wkA []) (foll hR (cf h4 (cf h6 (cf h12 rfl))))
def Qy1 (r_:LexReader):Token × LexReader:=bif (!(Q48 ((Q10 r_ (fun (y:Int)=>(((decide (y >= 48))&&(decide (y<=57)))||((decide (y >= 97))&&(decide (y<=122)))))).1))) then ((⟨3,(Q10 r_ (fun (y:Int)=>(((decide (y >= 48))&&(decide (y<=57)))||((decide (y >= 97))&&(decide (y<=122)))))).1,0,0⟩:Token),(Q10 r_ (fun (y:Int)=>(((decide (y >= 48))&&(decide (y<=57)))||((decide (y >= 97))&&(decide (y<=122)))))).2) else bif (!(QT6 ((Q10 r_ (fun (y:Int)=>(((decide (y >= 48))&&(decide (y<=57)))||((decide (y >= 97))&&(decide (y<=122)))))).1)).2) then ((⟨2,⟨#[]⟩,(QT6 ((Q10 r_ (fun (y:Int)=>(((decide (y >= 48))&&(decide (y<=57)))||((decide (y >= 97))&&(decide (y<=122)))))).1)).1,0⟩:Token),(QW0 ((Q10 r_ (fun (y:Int)=>(((decide (y >= 48))&&(decide (y<=57)))||((decide (y >= 97))&&(decide (y<=122)))))).2) r_.at_ 50)) else ((⟨2,⟨#[]⟩,(QT6 ((Q10 r_ (fun (y:Int)=>(((decide (y >= 48))&&(decide (y<=57)))||((decide (y >= 97))&&(decide (y<=122)))))).1)).1,0⟩:Token),(Q10 r_ (fun (y:Int)=>(((decide (y >= 48))&&(decide (y<=57)))||((decide (y >= 97))&&(decide (y<=122)))))).2)
theorem Qmc (r_:LexReader) (hs0:r_.sz) (hp0:0<=r_.at_∧r_.at_<=(r_.line.length:Int)∧r_.line.length<=400):AMoves Tryz.prog 317 [AVal.ptr 0 0 4 0 0] [(0,AObj.row 321 4 [[runes r_.line,I r_.at_,I r_.bad,I r_.error]])] 1 (Token.a ((Qy1 r_).1)) [(0,AObj.row 321 4 [[runes ((Qy1 r_).2.line),I ((Qy1 r_).2.at_),I ((Qy1 r_).2.bad),I ((Qy1 r_).2.error)]])]:=by
 generalize hR:Qy1 r_=R;refine mo (kp 7 [15,24]) Tryz.func317 ?_;have hk0:=hs0;obtain z7:r_.line.length<=4294967296:=hs0;have cl1:∀ (y1:Int),AMoves Tryz.prog 332 [J y1] [] 0 (Bo ((fun (y:Int)=>(((decide (y >= 48))&&(decide (y<=57)))||((decide (y >= 97))&&(decide (y<=122))))) y1)) []:=by
  intro y1;have hR:(fun (y:Int)=>(((decide (y >= 48))&&(decide (y<=57)))||((decide (y >= 97))&&(decide (y<=122))))) y1=(fun (y:Int)=>(((decide (y >= 48))&&(decide (y<=57)))||((decide (y >= 97))&&(decide (y<=122))))) y1:=rfl;refine mo (kp 3 []) Tryz.func332 ?_;refine Qt0 (fun r:Bool=>Bo r) (fun _=>[]) (leaf:=(((decide (y1 >= 48))&&(decide (y1<=57)))||((decide (y1 >= 97))&&(decide (y1<=122))))) (foll hR rfl) ?_;exact tt [] .nil t1
 have hof1:AMoves Tryz.prog 307 [AVal.ptr 0 0 4 0 0,AVal.fn (.func 332) [] []] [(0,AObj.row 321 4 [[runes r_.line,I r_.at_,I r_.bad,I r_.error]])] 1 (Sg ((Q10 r_ (fun (y:Int)=>(((decide (y >= 48))&&(decide (y<=57)))||((decide (y >= 97))&&(decide (y<=122)))))).1)) [(0,AObj.row 321 4 [[runes (((Q10 r_ (fun (y:Int)=>(((decide (y >= 48))&&(decide (y<=57)))||((decide (y >= 97))&&(decide (y<=122)))))).2).line),I (((Q10 r_ (fun (y:Int)=>(((decide (y >= 48))&&(decide (y<=57)))||((decide (y >= 97))&&(decide (y<=122)))))).2).at_),I (((Q10 r_ (fun (y:Int)=>(((decide (y >= 48))&&(decide (y<=57)))||((decide (y >= 97))&&(decide (y<=122)))))).2).bad),I (((Q10 r_ (fun (y:Int)=>(((decide (y >= 48))&&(decide (y<=57)))||((decide (y >= 97))&&(decide (y<=122)))))).2).error)]])]:=by
  have hR:Q10 r_ (fun (y:Int)=>(((decide (y >= 48))&&(decide (y<=57)))||((decide (y >= 97))&&(decide (y<=122)))))=Q10 r_ (fun (y:Int)=>(((decide (y >= 48))&&(decide (y<=57)))||((decide (y >= 97))&&(decide (y<=122))))):=rfl;refine mo (kp 6 [33]) Tryz.func307 ?_;refine Qg0 (fun (c:LexReader)=>∃ m,(Int.toNat ((c.line.length:Int) - c.at_))<m∧QE0 r_ (QD0 (fun (y:Int)=>(((decide (y >= 48))&&(decide (y<=57)))||((decide (y >= 97))&&(decide (y<=122))))) m c)=Q10 r_ (fun (y:Int)=>(((decide (y >= 48))&&(decide (y<=57)))||((decide (y >= 97))&&(decide (y<=122)))))∧0<=c.at_∧c.at_<=(c.line.length:Int)∧c.line.length<=400∧r_.at_<=c.at_∧0<=r_.at_) (fun c=>(Int.toNat ((c.line.length:Int) - c.at_))) (fun c=>[(0,AVal.ptr 0 0 4 0 0),(1,AVal.fn (.func 332) [] []),(4,Sg ⟨#[]⟩),(5,I r_.at_)]) (fun c=>[(0,AObj.row 321 4 [[runes c.line,I c.at_,I c.bad,I c.error]])]) r_ (wkA [0]) ⟨_,Nat.lt_succ_self _,foll hR rfl,by exact exA⟩ ?_;clear hR;rintro c ⟨m,hm,hR,hx⟩;(try dsimp only at hR hm hx);obtain ⟨m,rfl⟩:=sucA m;refine dchk (by kernel_rfl) ?_;refine ai gkA ?_;(first|apply u2|apply u3|apply u4|apply us);exact mv [] (cl1 (c.line.getD (Int.toNat c.at_) 0)) .nil (d1 .nil) .nil rx;(repeat ((first|refine ai rfl ?_|refine ai (fun _=>rfl) ?_)));refine ai (fun h1=>?_) (fun h2=>?_)
  ·have hq1:=of_decide_eq_true ((Bool.and_eq_true _ _).mp h1).1;have hwr:w64 (c.at_+1)=c.at_+1:=wr (by omega);exact Ql0 { c with at_:=(w64 (c.at_+1)) } (wk [0] (tO rfl (ts LexReader.lo) .nil) (sv (Qg1 0 rfl rfl) (sv (Qv3 (Low.fn _ _ _ LowL.nil LowL.nil)) (s1 (s1 .nil))))) omA ⟨m,by exact omA,foll hR (congrArg (fun p:LexReader=>QE0 r_ p) (ct h1 rfl)),by exact exA⟩
  ·replace hR:QE0 r_ c=Q10 r_ (fun (y:Int)=>(((decide (y >= 48))&&(decide (y<=57)))||((decide (y >= 97))&&(decide (y<=122))))):=fo2 (fun p:LexReader=>QE0 r_ p) (c) hR (cf h2 rfl);refine dchk (by kernel_rfl) ?_;refine ai gkA ?_;(first|refine ⟨(List.drop (Int.toNat r_.at_) (List.take (Int.toNat c.at_) c.line)),by exact cvA,?_⟩|refine ⟨_,fun _=>⟨(List.drop (Int.toNat r_.at_) (List.take (Int.toNat c.at_) c.line)),by exact cvA,rfl,rfl⟩,?_⟩|refine ⟨_,rfl,⟨(List.drop (Int.toNat r_.at_) (List.take (Int.toNat c.at_) c.line)),by exact cvA,Sub.refl _,rfl⟩,?_⟩);(repeat ((first|refine ai rfl ?_|refine ai (fun _=>rfl) ?_)));refine Qt0 (fun r:ByteArray × LexReader=>Sg r.1) (fun r:ByteArray × LexReader=>[(0,AObj.row 321 4 [[runes r.2.line,I r.2.at_,I r.2.bad,I r.2.error]])]) (leaf:=((runesBytes (List.drop (Int.toNat r_.at_) (List.take (Int.toNat c.at_) c.line))),c)) (foll hR rfl) ?_;exact tt [0] (tO rfl (ts LexReader.lo) .nil) t1
 refine us (mv [0] (hof1) (dO (ds LexReader.lo) .nil) (dp (dv (QK6 (Low.fn _ _ _ LowL.nil LowL.nil)) .nil)) (rO (re LexReader.lo) .nil) rx) ?_;refine us (QDd ((Q10 r_ (fun (y:Int)=>(((decide (y >= 48))&&(decide (y<=57)))||((decide (y >= 97))&&(decide (y<=122)))))).1) (by first|(exact Qia _ _ hp0.2.2)|exact szA) _) ?_;refine ai (fun h3=>?_) (fun h4=>?_)
 ·obtain rfl:=foll hR (ct h3 rfl);exact rq (ttA [0])
 ·refine us (lex_number_c ((Q10 r_ (fun (y:Int)=>(((decide (y >= 48))&&(decide (y<=57)))||((decide (y >= 97))&&(decide (y<=122)))))).1) (by first|(exact Qia _ _ hp0.2.2)|exact szA) _) ?_;refine ai (fun h5=>?_) (fun h6=>?_)
  ·refine us (mv [0] (Qh3 ((Q10 r_ (fun (y:Int)=>(((decide (y >= 48))&&(decide (y<=57)))||((decide (y >= 97))&&(decide (y<=122)))))).2) r_.at_ 50) (dO (ds LexReader.lo) .nil) (dp (d1 (d1 .nil))) (rO (re LexReader.lo) .nil) rx) ?_;obtain rfl:=foll hR (cf h4 (ct h5 rfl));exact rq (ttA [0])
  ·obtain rfl:=foll hR (cf h4 (cf h6 rfl));exact rq (ttA [0])
attribute [local irreducible] QO0
def QD3 :List (Nat × Int)->Bool->List Int->ByteArray × Int
 | [],held,buf=>bif held then (⟨#[]⟩,50) else ((Qv2 buf),0)
 | x_ :: r,held,buf=>bif ((held&&(x_.2 != 34))&&(x_.2 != 92)) then bif ((held&&(x_.2 != 34))&&(x_.2 != 92)) then (⟨#[]⟩,50) else bif ((!held)&&(x_.2==92)) then QD3 r true buf else QD3 r false (QO0 buf x_.2) else bif ((!held)&&(x_.2==34)) then (⟨#[]⟩,50) else bif ((!held)&&(x_.2==92)) then QD3 r true buf else QD3 r false (QO0 buf x_.2)
def Q13 (s:ByteArray):ByteArray × Int:=bif ((Qs4 s).2 != 0) then (⟨#[]⟩,(Qs4 s).2) else bif (((decide ((ByteArray.size s:Int)<2))||(((s.data.toList.getD 0 0).toNat:Int)!=34))||(((s.data.toList.getD (Int.toNat (w64 ((ByteArray.size s:Int) - 1))) 0).toNat:Int)!=34)) then (⟨#[]⟩,50) else QD3 (Qm7 (s.extract 1 (Int.toNat (w64 ((ByteArray.size s:Int) - 1))))) false []
theorem b3a0 {P:Prop} (h:P:=by first|(have hsz:=extract_size s 1 (Int.toNat (w64 ((ByteArray.size s:Int) - 1)));refine ⟨?_,?_,?_⟩ <;> (try dsimp only) <;> first|omega|with_reducible exact QJa|with_reducible exact hx.2.2|with_reducible exact byteIn_rune _ _ hx.2.2|exact Nat.le_trans (QNb _ _) (by omega)|(simp;done))|exact exA):P:=h
theorem Qza (s:ByteArray) (hs0:s.size<=4294967296) (hp0:ByteArray.size s<=1000000):GV 336 [Sg s] (AVal.tup [Sg ((Q13 s).1),I ((Q13 s).2)]):=by
 generalize hR:Q13 s=R;refine gA (kp 10 [16,33,39,40,41,43,59,68]) Tryz.func336 ?_;have hk0:=hs0;obtain z19:s.size<=4294967296:=hs0;have hw0:w64 ((ByteArray.size s:Int) - 1)=(ByteArray.size s:Int) - 1:=wr (by omega);refine us (QDc s szA _) ?_;refine ai (fun h1=>?_) (fun h2=>?_)
 ·exact lfA
 ·refine ai gkA ?_;refine ai gkA ?_;refine ai (fun h3=>?_) (fun h4=>?_)
  ·obtain rfl:=foll hR (cf h2 (ct h3 rfl));exact Q80 (Low.tup' (l1 (l1 .nil))) (Seen.tup (e1 (e1 .nil)))
  ·refine ai gkA ?_;refine Qj8 (fun (held:Bool) (buf:List Int) (pos:Nat)=>∃ m,ByteArray.size (s.extract 1 (Int.toNat (w64 ((ByteArray.size s:Int) - 1)))) - pos<=m∧QD3 (Q34 (s.extract 1 (Int.toNat (w64 ((ByteArray.size s:Int) - 1)))) m pos) held buf=R∧buf.length<=4*pos∧pos<=ByteArray.size s∧Qr7 buf) (fun held buf pos=>ByteArray.size (s.extract 1 (Int.toNat (w64 ((ByteArray.size s:Int) - 1)))) - pos) (fun held buf pos=>[(2,Sg ⟨#[]⟩),(3,I 0),(6,AVal.ptr 0 0 2 0 0),(7,Bo held),(39,AVal.ptr 1 0 1 0 0)]) (fun held buf pos=>[(0,AObj.row 339 2 [[AVal.sel 0 0 2 0 0,AVal.buf 2 0 1 buf.length]]),(0,AObj.other (.strIter (s.extract 1 (Int.toNat (w64 ((ByteArray.size s:Int) - 1)))) pos)),(0,AObj.row 5 1 (buf.map (fun q_=>[Y q_])))]) false [] 0 ((Qx1 5 1).trans (wk [0,1,2] (tO rfl (QN2 (cv (turn_selnil) (cv (turn_nilbuf 2 rfl) .nil))) (tO rfl (.strIter _ _) (tO rfl (tl eqA) .nil))) (s1 (s1 (sv (Qg1 0 rfl rfl) (s1 (sv (Qg1 1 rfl rfl) .nil))))))) ⟨ByteArray.size (s.extract 1 (Int.toNat (w64 ((ByteArray.size s:Int) - 1)))),by exact omA,foll hR (cf h2 (cf h4 rfl)),b3a0⟩ ?_;clear hR;rintro held buf pos ⟨m,hm,hR,hx⟩;(try dsimp only at hR hm hx);refine ai (fun h5=>?_) (fun h6=>?_)
   ·have hlt:=of_decide_eq_true h5;have hw:=Q28 (s.extract 1 (Int.toNat (w64 ((ByteArray.size s:Int) - 1)))) pos;have hwe:=Q18 (s.extract 1 (Int.toNat (w64 ((ByteArray.size s:Int) - 1)))) pos hlt;obtain ⟨m,rfl⟩:=sucA m;rw [Q53 h5] at hR;refine ai (fun _=>?_) (fun h=>nomatch h);refine ai (fun h7=>?_) (fun h8=>?_)
    ·refine ai (fun h9=>?_) (fun h10=>?_)
     ·exact lfA
     ·refine ai (fun h11=>?_) (fun h12=>?_)
      ·exact Qb4 true buf (pos+(Utf8.decode (s.extract 1 (Int.toNat (w64 ((ByteArray.size s:Int) - 1)))) pos).2) (wk [0,1,2] (tO rfl (QN2 (cv (turn_sel 0 rfl rfl) (cv (turn_buf 2 rfl rfl) .nil))) (tO rfl (.strIter _ _) (tO rfl (tl eqA) .nil))) (s1 (s1 (sv (Qg1 0 rfl rfl) (s1 (sv (Qg1 1 rfl rfl) .nil)))))) omA ⟨m,by exact omA,foll hR (ct h7 (cf h10 (ct h11 rfl))),b3a0⟩
      ·refine us (mv [0,2] (QCe buf ((pos,((Utf8.decode (s.extract 1 (Int.toNat (w64 ((ByteArray.size s:Int) - 1)))) pos).1:Int)).2) szA) (dO (dc (dv (dn_sel rfl) (dv (dn_buf rfl) .nil))) (dO (dr eqA) .nil)) (dp (d1 .nil)) (rO (rc (rv (rp 0 0 rfl) (rv (rw_ 3 0 rfl) .nil))) (rO rr .nil)) (Ren.low _ (Low.tup' (l1 (l1 .nil))))) ?_;exact Qb4 false (QO0 buf (pos,((Utf8.decode (s.extract 1 (Int.toNat (w64 ((ByteArray.size s:Int) - 1)))) pos).1:Int)).2) (pos+(Utf8.decode (s.extract 1 (Int.toNat (w64 ((ByteArray.size s:Int) - 1)))) pos).2) (wk [0,1,3] (tO rfl (QN2 (cv (QMb 0 rfl rfl) (cv (QTf 2 rfl rfl lnA (by first|with_reducible exact QJ8 _ _|(simp;done)|grind)) .nil))) (tO rfl (.strIter _ _) (tO rfl (tl eqA) .nil))) (s1 (s1 (sv (Qg1 0 rfl rfl) (s1 (sv (Qg1 1 rfl rfl) .nil)))))) omA ⟨m,by exact omA,foll hR (ct h7 (cf h10 (cf h12 rfl))),b3a0⟩
    ·refine ai (fun h13=>?_) (fun h14=>?_)
     ·exact lfA
     ·refine ai (fun h15=>?_) (fun h16=>?_)
      ·exact Qb4 true buf (pos+(Utf8.decode (s.extract 1 (Int.toNat (w64 ((ByteArray.size s:Int) - 1)))) pos).2) (wk [0,1,2] (tO rfl (QN2 (cv (turn_sel 0 rfl rfl) (cv (turn_buf 2 rfl rfl) .nil))) (tO rfl (.strIter _ _) (tO rfl (tl eqA) .nil))) (s1 (s1 (sv (Qg1 0 rfl rfl) (s1 (sv (Qg1 1 rfl rfl) .nil)))))) omA ⟨m,by exact omA,foll hR (cf h8 (cf h14 (ct h15 rfl))),b3a0⟩
      ·refine us (mv [0,2] (QCe buf ((pos,((Utf8.decode (s.extract 1 (Int.toNat (w64 ((ByteArray.size s:Int) - 1)))) pos).1:Int)).2) szA) (dO (dc (dv (dn_sel rfl) (dv (dn_buf rfl) .nil))) (dO (dr eqA) .nil)) (dp (d1 .nil)) (rO (rc (rv (rp 0 0 rfl) (rv (rw_ 3 0 rfl) .nil))) (rO rr .nil)) (Ren.low _ (Low.tup' (l1 (l1 .nil))))) ?_;exact Qb4 false (QO0 buf (pos,((Utf8.decode (s.extract 1 (Int.toNat (w64 ((ByteArray.size s:Int) - 1)))) pos).1:Int)).2) (pos+(Utf8.decode (s.extract 1 (Int.toNat (w64 ((ByteArray.size s:Int) - 1)))) pos).2) (wk [0,1,3] (tO rfl (QN2 (cv (QMb 0 rfl rfl) (cv (QTf 2 rfl rfl lnA (by first|with_reducible exact QJ8 _ _|(simp;done)|grind)) .nil))) (tO rfl (.strIter _ _) (tO rfl (tl eqA) .nil))) (s1 (s1 (sv (Qg1 0 rfl rfl) (s1 (sv (Qg1 1 rfl rfl) .nil)))))) omA ⟨m,by exact omA,foll hR (cf h8 (cf h14 (cf h16 rfl))),b3a0⟩
   ·rw [Qn5 h6] at hR;refine ai (fun h=>nomatch h) (fun _=>?_);refine ai (fun h17=>?_) (fun h18=>?_)
    ·exact lfA
    ·refine us (mv [0,2] (String_c buf (by first|(with_reducible exact hx.2.2)|first|assumption|exact QJa|grind) szA) (dO (dc (dv (dn_any) (dv (dn_bufbuf rfl) .nil))) (dO (dr eqA) .nil)) (dp .nil) (rO (re (.cons Low.any (.cons Low.any .nil))) .nil) rx) ?_;exact lfA
def Q85 (l:List Usage):List Usage->Nat->Int
 | [],_=>0
 | x_ :: r,i=>bif ((((((!(Q66 x_.user))||(!(Q66 x_.account)))||(x_.used != (Qh4 x_.used)))||(decide (x_.share<0)))||(decide (x_.share > x_.used)))||((decide ((i:Int) > 0))&&(decide ((Qx7 (l.getD (Int.toNat (w64 ((i:Int) - 1))) Usage.zero) x_) >= 0)))) then 2 else Q85 l r (i+1)
def Qw7 (l:List Usage):Int:=bif (decide ((l.length:Int) > 200)) then 2 else Q85 l l 0
theorem ledger_Check_c (l:List Usage) (hs0:l.length<=4294967296∧(∀ y ∈ l,y.sz)):GV 122 [QD2 l] (I (Qw7 l)):=by
 generalize hR:Qw7 l=R;refine gA (kp 5 [7,8,9,10,11,58]) Tryz.func122 ?_;obtain ⟨z9,z10⟩:=id hs0;refine ai (fun h1=>?_) (fun h2=>?_)
 ·have qh1:=of_decide_eq_true h1;exact lfA
 ·have qh2:=of_decide_eq_false h2;refine Qg0 (fun (i:Nat)=>Q85 l (List.drop i l) i=R∧i<=l.length) (fun i=>l.length - i) (fun i=>[(0,QD2 l),(2,I 0),(8,QD2 l),(9,I (l.length:Int)),(10,I (i:Int))]) (fun i=>[]) 0 (wkA []) ⟨folA,by exact omA⟩ ?_;clear hR;rintro i ⟨hR,hj⟩;(try dsimp only at hR hj);refine ai (fun h3=>?_) (fun h4=>?_)
  ·have hlt:=ltA h3;rw [Qc0 Usage.zero hlt] at hR;have hxz:(l.getD i Usage.zero).sz:=Q94 (by first|assumption|grind) (Usage.szz _);have hkz:=hxz;obtain ⟨z5,z6⟩:=Usage.zz hxz;refine ai gkA ?_;refine dchk (by kernel_rfl) ?_;(first|apply u2|apply u3|apply u4|apply us);exact QU7 ((l.getD i Usage.zero).user) _;(first|apply u2|apply u3|apply u4|apply us);exact QU7 ((l.getD i Usage.zero).account) _;(first|apply u2|apply u3|apply u4|apply us);exact QJ9 ((l.getD i Usage.zero).used) _;refine ai gkA ?_;(first|apply u2|apply u3|apply u4|apply us);exact Qbb (l.getD (Int.toNat (w64 ((i:Int) - 1))) Usage.zero) (l.getD i Usage.zero) szA szA _;(repeat ((first|refine ai rfl ?_|refine ai (fun _=>rfl) ?_|refine ai (fun _=>QU7 ((l.getD i Usage.zero).user) _) ?_|refine ai (fun _=>QU7 ((l.getD i Usage.zero).account) _) ?_|refine ai (fun _=>QJ9 ((l.getD i Usage.zero).used) _) ?_|refine ai (fun _=>Qbb (l.getD (Int.toNat (w64 ((i:Int) - 1))) Usage.zero) (l.getD i Usage.zero) szA szA _) ?_)));refine ai (fun h7=>?_) (fun h8=>?_)
   ·exact lfA
   ·exact Ql0 (i+1) (wkA []) omA ⟨folA,by exact omA⟩
  ·rw [Qd0 (l:=l) (j:=i) (geA h4)] at hR;exact lfA
def fit_Fits (p_:List Step) (at_:Int) (long:Int) (nodes:Int):Bool:=bif ((((QZ2 p_)!=0)||(!(fit_asks long nodes)))||(!(QZ8 at_ 0 (w64 (1000000 - long))))) then false else (decide ((QD9 p_ at_ (w64 (at_+long))) >= nodes))
theorem fit_Fits_c (p_:List Step) (at_:Int) (long:Int) (nodes:Int) (hs0:p_.length<=4294967296):GV 34 [stepL p_,I at_,I long,I nodes] (Bo (fit_Fits p_ at_ long nodes)):=by
 generalize hR:fit_Fits p_ at_ long nodes=R;refine gA (kp 9 [24]) Tryz.func34 ?_;have hk0:=hs0;obtain z3:p_.length<=4294967296:=hs0;refine us (QC6 p_ szA _) ?_;(first|apply u2|apply u3|apply u4|apply us);exact fit_asks_c long nodes _;(first|apply u2|apply u3|apply u4|apply us);exact Q7a at_ 0 (w64 (1000000 - long)) _;refine ai (fun h1=>?_) (fun h2=>?_)
 ·exact lfA
 ·refine us (Qsf p_ at_ (w64 (at_+long)) szA _) ?_;exact lfA
def QB1 (t:Taken) (from_:Int) (to_:Int) (n:Int):Taken:=bif ((decide (to_<=from_))||(n==0)) then t else bif ((Q76 t.p from_ to_ (w64 (0 - n))).2==0) then (⟨(Q76 t.p from_ to_ (w64 (0 - n))).1⟩:Taken) else t
theorem Q57 (t:Taken) (from_:Int) (to_:Int) (n:Int) (hs0:t.sz):AMoves Tryz.prog 92 [AVal.ptr 0 0 1 0 0,I from_,I to_,I n] [(0,AObj.row 145 1 [[stepL t.p]])] 1 (AVal.tup []) [(0,AObj.row 145 1 [[stepL ((QB1 t from_ to_ n).p)]])]:=by
 generalize hR:QB1 t from_ to_ n=R;refine mo (kp 10 [16,30]) Tryz.func92 ?_;have hk0:=hs0;obtain z5:t.p.length<=4294967296:=hs0;refine ai (fun h1=>?_) (fun h2=>?_)
 ·obtain rfl:=foll hR (ct h1 rfl);exact rq (ttA [0])
 ·refine us (profile_Add_c t.p from_ to_ (w64 (0 - n)) szA _) ?_;refine ai (fun h3=>?_) (fun h4=>?_)
  ·obtain rfl:=foll hR (cf h2 (ct h3 rfl));exact rq (ttA [0])
  ·obtain rfl:=foll hR (cf h2 (cf h4 rfl));exact rq (ttA [0])
theorem QP9 {t:Taken} {f g n:Int} (h:t.p.length<=4294967296):(QB1 t f g n).p.length<=4294967296:=by
 unfold QB1
 repeat' first|exact h|exact Qrf _ _ _ _ h|(rw [Bool.cond_eq_ite];split)
theorem flat_len (n:Int):(Q95 n).length<=4294967296:=by simp [Q95]
def Qz1 (s:Int) (n:Int):Int × Bool:=bif ((decide (n<0))||(decide (n > (Q40 s)))) then (0,false) else ((wu64 (BitVec.ofInt 64 s &&& ~~~(BitVec.ofInt 64 (Q32 s (w64 ((Q40 s) - n))).1)).toNat),true)
theorem Qed (s:Int) (n:Int):GV 37 [U s,I n] (AVal.tup [U ((Qz1 s n).1),Bo ((Qz1 s n).2)]):=by
 generalize hR:Qz1 s n=R;refine gA (kp 8 [15]) Tryz.func37 ?_;(first|apply u2|apply u3|apply u4|apply us);exact Qc1 s _;refine ai (fun h1=>?_) (fun h2=>?_)
 ·exact lfA
 ·refine us (Qc1 s _) ?_;refine us (QV9 s (w64 ((Q40 s) - n)) _) ?_;exact lfA
def Qy3 (s:ByteArray):Nat->List Int->Int->(List Int) × Int
 | 0,_,_=>([],0)
 | m+1,out,i=>bif (decide (i<(w64 ((ByteArray.size s:Int) - 1)))) then bif ((((s.data.toList.getD (Int.toNat i) 0).toNat:Int)==92)&&(decide ((w64 (i+1))<(w64 ((ByteArray.size s:Int) - 1))))) then Qy3 s m (out++([((s.data.toList.getD (Int.toNat (w64 (i+1))) 0).toNat:Int)]:List Int)) (w64 ((w64 (i+1))+1)) else Qy3 s m (out++([((s.data.toList.getD (Int.toNat i) 0).toNat:Int)]:List Int)) (w64 (i+1)) else (out,i)
def Qz3 (s:ByteArray) (out:List Int) (i:Int):ByteArray × Int:=bif (((Ql8 (Qv2 out)).2 != 0)||(!(ByteArray.toList (Ql8 (Qv2 out)).1==ByteArray.toList s))) then (⟨#[]⟩,50) else ((Qv2 out),0)
def Qv5 (s:ByteArray):ByteArray × Int:=bif ((Qq3 s).2 != 0) then (⟨#[]⟩,(Qq3 s).2) else Qz3 s ((Qy3 s ((Int.toNat ((w64 ((ByteArray.size s:Int) - 1)) - 1))+1) [] 1).1) ((Qy3 s ((Int.toNat ((w64 ((ByteArray.size s:Int) - 1)) - 1))+1) [] 1).2)
theorem Quf (s:ByteArray) (hs0:s.size<=4294967296):GV 342 [Sg s] (AVal.tup [Sg ((Qv5 s).1),I ((Qv5 s).2)]):=by
 generalize hR:Qv5 s=R;refine gA (kp 10 [16,22,36,57]) Tryz.func342 ?_;have hk0:=hs0;obtain z9:s.size<=4294967296:=hs0;refine us (QE9 s szA _) ?_;refine ai (fun h1=>?_) (fun h2=>?_)
 ·exact lfA
 ·refine Qe0 (fun (out:List Int) (i:Int)=>∃ m,(Int.toNat ((w64 ((ByteArray.size s:Int) - 1)) - i))<m∧Qz3 s (Qy3 s m out i).1 (Qy3 s m out i).2=R∧1<=i∧i<=(ByteArray.size s:Int)+1∧(out.length:Int)+1<=i) (fun out i=>(Int.toNat ((w64 ((ByteArray.size s:Int) - 1)) - i))) (fun out i=>[(0,Sg s),(2,Sg ⟨#[]⟩),(3,I 0),(6,AVal.own 0 0 1 0 out.length),(7,I i)]) (fun out i=>[(0,AObj.row 5 1 (out.map (fun q_=>[Y q_])))]) [] 1 ((Qx1 5 1).trans (wkA [0])) ⟨_,Nat.lt_succ_self _,foll hR (cf h2 rfl),by exact exA⟩ ?_;clear hR;rintro out i ⟨m,hm,hR,hx⟩;(try dsimp only at hR hm hx);obtain ⟨m,rfl⟩:=sucA m;refine ai (fun h3=>?_) (fun h4=>?_)
  ·have qh3:=of_decide_eq_true h3;have hq1:i<w64 ((ByteArray.size s:Int) - 1):=of_decide_eq_true h3;have hw0:w64 ((ByteArray.size s:Int) - 1)=(ByteArray.size s:Int) - 1:=wr (by omega);rw [hw0] at hq1;have hw1:w64 (i+1)=i+1:=wr (by omega);have hw2:w64 (i+1+1)=i+1+1:=wr (by omega);refine ai gkA ?_;refine ai (fun h5=>?_) (fun h6=>?_)
   ·refine ai gkA ?_;refine Or.inl ?_;(first|refine ⟨Qo1 1 rfl lnA apA,?_⟩|refine ⟨QI0 1 rfl apA,?_⟩);exact Q60 (out++([((s.data.toList.getD (Int.toNat (w64 (i+1))) 0).toNat:Int)]:List Int)) (w64 ((w64 (i+1))+1)) (wkA [0]) omA ⟨m,by exact omA,foll hR (congrArg (fun p:(List Int) × Int=>Qz3 s p.1 p.2) (ct h3 (ct h5 rfl))),by exact exA⟩
   ·refine ai gkA ?_;refine Or.inl ?_;(first|refine ⟨Qo1 1 rfl lnA apA,?_⟩|refine ⟨QI0 1 rfl apA,?_⟩);exact Q60 (out++([((s.data.toList.getD (Int.toNat i) 0).toNat:Int)]:List Int)) (w64 (i+1)) (wkA [0]) omA ⟨m,by exact omA,foll hR (congrArg (fun p:(List Int) × Int=>Qz3 s p.1 p.2) (ct h3 (cf h6 rfl))),by exact exA⟩
  ·have qh4:=of_decide_eq_false h4;replace hR:Qz3 s out i=R:=fo2 (fun p:(List Int) × Int=>Qz3 s p.1 p.2) (out,i) hR (cf h4 rfl);(first|refine ⟨out,by exact cvA,?_⟩|refine ⟨_,fun _=>⟨out,by exact cvA,rfl,rfl⟩,?_⟩|refine ⟨_,rfl,⟨out,by exact cvA,Sub.refl _,rfl⟩,?_⟩);refine us (ref04_Quote_c (Qv2 out) szA _) ?_;refine ai (fun h7=>?_) (fun h8=>?_)
   ·exact lfA
   ·(first|refine ⟨out,by exact cvA,?_⟩|refine ⟨_,fun _=>⟨out,by exact cvA,rfl,rfl⟩,?_⟩|refine ⟨_,rfl,⟨out,by exact cvA,Sub.refl _,rfl⟩,?_⟩);exact lfA
def Qs2 (s:Shape) (choice:Int):Int:=bif ((decide (choice<0))||(decide (choice >= ((Qz0 s).length:Int)))) then 0 else ((Qz0 s).getD (Int.toNat choice) Alt.zero).wall
theorem QPd (s:Shape) (choice:Int) (hs0:s.sz):GV 285 [Shape.a s,I choice] (I (Qs2 s choice)):=by
 generalize hR:Qs2 s choice=R;refine gA (kp 6 [15]) Tryz.func285 ?_;have hk0:=hs0;obtain z3:s.alts.length<=4294967296:=hs0;have hf0:=Qa9 s hk0;refine us (Qqa s szA _) ?_;refine ai (fun h1=>?_) (fun h2=>?_)
 ·exact lfA
 ·refine ai gkA ?_;exact lfA
def Qa5 (s:Shape) (choice:Int) (n:Int):List Alt->Nat->Bool
 | [],_=>false
 | x_ :: r,i=>bif ((x_.nodes==n)&&(((i:Int)==choice)||(s.kind==3))) then true else Qa5 s choice n r (i+1)
def Qz7 (s:Shape) (choice:Int) (n:Int):Bool:=bif ((decide (choice<0))||(decide (choice >= ((Qz0 s).length:Int)))) then false else Qa5 s choice n (Qz0 s) 0
theorem ref07_Allows_c (s:Shape) (choice:Int) (n:Int) (hs0:s.sz):GV 287 [Shape.a s,I choice,I n] (Bo (Qz7 s choice n)):=by
 generalize hR:Qz7 s choice n=R;refine gA (kp 9 [18,22,41]) Tryz.func287 ?_;have hk0:=hs0;obtain z7:s.alts.length<=4294967296:=hs0;have hf0:=Qa9 s hk0;refine us (Qqa s szA _) ?_;refine ai (fun h1=>?_) (fun h2=>?_)
 ·exact lfA
 ·refine Qg0 (fun (i:Nat)=>Qa5 s choice n (List.drop i (Qz0 s)) i=R∧i<=(Qz0 s).length) (fun i=>(Qz0 s).length - i) (fun i=>[(1,I choice),(2,I n),(3,AVal.ptr 0 0 5 0 0),(6,Bo false),(7,altL (Qz0 s)),(8,I (i:Int))]) (fun i=>[(0,AObj.row 69 5 [[I s.kind,altL s.alts,I s.min,I s.max,I s.wall]])]) 0 (wkA [0]) ⟨folA,by exact omA⟩ ?_;clear hR;rintro i ⟨hR,hj⟩;(try dsimp only at hR hj);refine ai (fun h3=>?_) (fun h4=>?_)
  ·have hlt:=ltA h3;rw [Qc0 Alt.zero hlt] at hR;refine ai gkA ?_;refine ai (fun h5=>?_) (fun h6=>?_)
   ·exact lfA
   ·exact Ql0 (i+1) (wkA [0]) omA ⟨folA,by exact omA⟩
  ·rw [Qd0 (l:=(Qz0 s)) (j:=i) (geA h4)] at hR;exact lfA
def QB2 (x_:Node) (n:Int) (r_:Resize):Bool:=bif r_.grow then bif (!((QT1 r_.nodes n)==(x_.state==2))) then false else (((!(QT1 r_.nodes n))||((QT1 r_.said n)&&(x_.want==0)))||((!(QT1 r_.said n))&&(x_.want==2))) else bif (((QT1 r_.nodes n)&&(x_.state != 1))||((!(QT1 r_.nodes n))&&(x_.want==4))) then false else (((!(QT1 r_.nodes n))||((QT1 r_.said n)&&(x_.want==0)))||((!(QT1 r_.said n))&&(x_.want==4)))
theorem ref25_moved_c (x_:Node) (n:Int) (r_:Resize):GV 162 [Node.a x_,I n,Resize.a r_] (Bo (QB2 x_ n r_)):=by
 generalize hR:QB2 x_ n r_=R;refine gA (kp 9 [18,23,57]) Tryz.func162 ?_;refine dchk (by kernel_rfl) ?_;(first|apply u2|apply u3|apply u4|apply us);exact QA2 r_.nodes n _;(first|apply u2|apply u3|apply u4|apply us);exact QA2 r_.said n _;(repeat ((first|refine ai rfl ?_|refine ai (fun _=>rfl) ?_|refine ai (fun _=>QA2 r_.nodes n _) ?_|refine ai (fun _=>QA2 r_.said n _) ?_)));refine ai (fun h1=>?_) (fun h2=>?_)
 ·refine ai (fun h3=>?_) (fun h4=>?_)
  ·exact lfA
  ·exact lfA
 ·refine ai (fun h5=>?_) (fun h6=>?_)
  ·exact lfA
  ·exact lfA
def QC3 (s:State) (n:Int):Bool:=bif (((((s.nodes.getD (Int.toNat n) Node.zero).state==1)&&((!(Q50 s ((s.nodes.getD (Int.toNat n) Node.zero).job)).2)||(!(QT1 ((Q50 s ((s.nodes.getD (Int.toNat n) Node.zero).job)).1.nodes) n))))||(((s.nodes.getD (Int.toNat n) Node.zero).state==2)&&(!(Q50 s ((s.nodes.getD (Int.toNat n) Node.zero).job)).2)))||(((s.nodes.getD (Int.toNat n) Node.zero).state==3)&&(decide ((s.nodes.getD (Int.toNat n) Node.zero).job >= s.nextJob)))) then false else bif (((s.nodes.getD (Int.toNat n) Node.zero).state==2)||((s.nodes.getD (Int.toNat n) Node.zero).want==4)) then (QT1 ((Q05 s ((s.nodes.getD (Int.toNat n) Node.zero).job)).nodes) n) else true
theorem ref25_node_c (s:State) (n:Int) (hs0:s.sz) (hp0:0<=n∧n<(s.nodes.length:Int)):GV 105 [State.a s,I n] (Bo (QC3 s n)):=by
 generalize hR:QC3 s n=R;refine gA (kp 8 [54,62]) Tryz.func105 ?_;have hk0:=hs0;obtain ⟨z5,z6,z7,z8,z9,z10,z11⟩:=hs0;refine ai gkA ?_;refine us (QAb s ((s.nodes.getD (Int.toNat n) Node.zero).job) szA _) ?_;(first|apply u2|apply u3|apply u4|apply us);exact QA2 ((Q50 s ((s.nodes.getD (Int.toNat n) Node.zero).job)).1.nodes) n _;refine ai (fun h1=>?_) (fun h2=>?_)
 ·exact lfA
 ·refine ai (fun h3=>?_) (fun h4=>?_)
  ·refine us (ref25_of_c s ((s.nodes.getD (Int.toNat n) Node.zero).job) szA _) ?_;refine us (QA2 ((Q05 s ((s.nodes.getD (Int.toNat n) Node.zero).job)).nodes) n _) ?_;exact lfA
  ·exact lfA
def Qk2 (l:List Node):List Int->List Note->Nat->(List Note) × Nat
 | [],out,i=>(out,i)
 | x_ :: r,out,i=>bif (Qw5 l x_).2 then Qk2 l r (out++([(Qw5 l x_).1]:List Note)) (i+1) else Qk2 l r out (i+1)
def QN4 (out:List Note) (i:Nat):(List Note):=out
def Q27 (l:List Node) (nodes:List Int):(List Note):=QN4 ((Qk2 l nodes [] 0).1) ((Qk2 l nodes [] 0).2)
theorem ref13_Notes_c (l:List Node) (nodes:List Int) (hs0:l.length<=4294967296) (hs1:nodes.length<=4294967296):GV 114 [nodeL l,ints nodes] (noteL (Q27 l nodes)):=by
 generalize hR:Q27 l nodes=R;refine gA (kp 9 [12,24]) Tryz.func114 ?_;have hk0:=hs0;obtain z5:l.length<=4294967296:=hs0;have hk1:=hs1;obtain z6:nodes.length<=4294967296:=hs1;refine Qe0 (fun (out:List Note) (i:Nat)=>QN4 (Qk2 l (List.drop i nodes) out i).1 (Qk2 l (List.drop i nodes) out i).2=R∧i<=nodes.length∧out.length<=i) (fun out i=>nodes.length - i) (fun out i=>[(0,nodeL l),(1,ints nodes),(4,AVal.lit (.slice none 0 0)),(5,AVal.own 0 0 4 0 out.length),(6,I (i:Int))]) (fun out i=>[(0,AObj.row 41 4 (out.map Note.cells))]) [] 0 ((Qx1 41 4).trans (wkA [0])) ⟨foll hR rfl,by exact omA,by exact exA⟩ ?_;clear hR;rintro out i ⟨hR,hj,hx⟩;(try dsimp only at hR hj hx);refine ai (fun h1=>?_) (fun h2=>?_)
 ·have hlt:=ltA h1;rw [Qc0 0 hlt] at hR;refine ai gkA ?_;refine us (ref12_Note_c l (nodes.getD i 0) szA _) ?_;refine ai (fun h3=>?_) (fun h4=>?_)
  ·refine Or.inl ?_;(first|refine ⟨Qo1 32 rfl lnA apA,?_⟩|refine ⟨QI0 32 rfl apA,?_⟩);exact Q60 (out++([(Qw5 l (nodes.getD i 0)).1]:List Note)) (i+1) (wkA [0]) omA ⟨foll hR (congrArg (fun p:(List Note) × Nat=>QN4 p.1 p.2) (ct h3 rfl)),by exact omA,by exact exA⟩
  ·exact Q60 out (i+1) (wkA [0]) omA ⟨foll hR (congrArg (fun p:(List Note) × Nat=>QN4 p.1 p.2) (cf h4 rfl)),by exact omA,by exact exA⟩
 ·rw [Qd0 (l:=nodes) (j:=i) (geA h2)] at hR;replace hR:QN4 out i=R:=fo2 (fun p:(List Note) × Nat=>QN4 p.1 p.2) (out,i) hR rfl;obtain rfl:=foll hR rfl;exact Q80 lw (Q90 Note.zero _ rfl eqA lnA)
end Go.Proofs.YtackngeeehiegaaGreatDoor
namespace Go.Proofs.YtackngeeehiegaaGreatDoor
set_option linter.unusedSimpArgs false
set_option linter.unusedVariables false
open Go.Fw
set_option maxRecDepth 20000
set_option maxHeartbeats 4000000
attribute [local irreducible] ACalls AMoves
def QY7 (b:List Job):List Job->Nat->Bool
 | [],_=>true
 | x_ :: r,i=>bif (!(Q58 x_ (b.getD i Job.zero))) then false else QY7 b r (i+1)
def QVa (a:List Job) (b:List Job):Bool:=bif ((a.length:Int)!=(b.length:Int)) then false else QY7 b a 0
theorem ref15_Same_c (a:List Job) (b:List Job) (hs0:a.length<=4294967296∧(∀ y ∈ a,y.sz)) (hs1:b.length<=4294967296∧(∀ y ∈ b,y.sz)):GV 53 [jobL a,jobL b] (Bo (QVa a b)):=by
 generalize hR:QVa a b=R;refine gA (kp 6 [10,14,26]) Tryz.func53 ?_;obtain ⟨z12,z13⟩:=id hs0;obtain ⟨z14,z15⟩:=id hs1;refine ai (fun h1=>?_) (fun h2=>?_)
 ·exact lfA
 ·refine Qg0 (fun (i:Nat)=>QY7 b (List.drop i a) i=R∧i<=a.length) (fun i=>a.length - i) (fun i=>[(0,jobL a),(1,jobL b),(4,Bo false),(5,I (i:Int))]) (fun i=>[]) 0 (wkA []) ⟨folA,by exact omA⟩ ?_;clear hR;rintro i ⟨hR,hj⟩;(try dsimp only at hR hj);refine ai (fun h3=>?_) (fun h4=>?_)
  ·have hlt:=ltA h3;rw [Qc0 Job.zero hlt] at hR;have hxz:(a.getD i Job.zero).sz:=Q94 (by first|assumption|grind) (Job.szz _);have hkz:=hxz;obtain ⟨z5,z6,z7,z8,z9⟩:=Job.zz hxz;refine dchk (by kernel_rfl) ?_;refine ai gkA ?_;refine ai gkA ?_;(first|apply u2|apply u3|apply u4|apply us);exact QOd (a.getD i Job.zero) (b.getD i Job.zero) szA szA _;(repeat ((first|refine ai rfl ?_|refine ai (fun _=>rfl) ?_|refine ai (fun _=>QOd (a.getD i Job.zero) (b.getD i Job.zero) szA szA _) ?_)));refine ai (fun h10=>?_) (fun h11=>?_)
   ·exact lfA
   ·exact Ql0 (i+1) (wkA []) omA ⟨folA,by exact omA⟩
  ·rw [Qd0 (l:=a) (j:=i) (geA h4)] at hR;exact lfA
def QX1 :Nat->LexReader->Bool->LexReader × Bool
 | 0,_,_=>(LexReader.zero,false)
 | m+1,c,c2=>bif ((decide (c.at_<(c.line.length:Int)))&&(Ql1 (c.line.getD (Int.toNat c.at_) 0) c2).1) then QX1 m { c with at_:=(w64 (c.at_+1)) } (bif (decide (c.at_<(c.line.length:Int))) then (Ql1 (c.line.getD (Int.toNat c.at_) 0) c2).2 else c2) else (c,(bif (decide (c.at_<(c.line.length:Int))) then (Ql1 (c.line.getD (Int.toNat c.at_) 0) c2).2 else c2))
def Qm2 (r_:LexReader) (c:LexReader) (c2:Bool):Token × LexReader:=bif (c.at_==(c.line.length:Int)) then (Token.zero,(QW0 c r_.at_ 50)) else bif ((c.line.getD (Int.toNat c.at_) 0)!=34) then (Token.zero,(QW0 c c.at_ 40)) else bif ((Q13 (runesBytes (List.drop (Int.toNat r_.at_) (List.take (Int.toNat (w64 (c.at_+1))) c.line)))).2 != 0) then ((⟨4,(Q13 (runesBytes (List.drop (Int.toNat r_.at_) (List.take (Int.toNat (w64 (c.at_+1))) c.line)))).1,0,0⟩:Token),(QW0 { c with at_:=(w64 (c.at_+1)) } r_.at_ ((Q13 (runesBytes (List.drop (Int.toNat r_.at_) (List.take (Int.toNat (w64 (c.at_+1))) c.line)))).2))) else ((⟨4,(Q13 (runesBytes (List.drop (Int.toNat r_.at_) (List.take (Int.toNat (w64 (c.at_+1))) c.line)))).1,0,0⟩:Token),{ c with at_:=(w64 (c.at_+1)) })
def QL1 (r_:LexReader):Token × LexReader:=Qm2 r_ ((QX1 ((Int.toNat ((r_.line.length:Int) - r_.at_))+1) r_ true).1) ((QX1 ((Int.toNat ((r_.line.length:Int) - r_.at_))+1) r_ true).2)
theorem Q6d (r_:LexReader) (hs0:r_.sz) (hp0:0<=r_.at_∧r_.at_<(r_.line.length:Int)∧r_.line.length<=400):AMoves Tryz.prog 318 [AVal.ptr 0 0 4 0 0] [(0,AObj.row 321 4 [[runes r_.line,I r_.at_,I r_.bad,I r_.error]])] 1 (Token.a ((QL1 r_).1)) [(0,AObj.row 321 4 [[runes ((QL1 r_).2.line),I ((QL1 r_).2.at_),I ((QL1 r_).2.bad),I ((QL1 r_).2.error)]])]:=by
 generalize hR:QL1 r_=R;refine mo (kp 7 [23,38,69]) Tryz.func318 ?_;have hk0:=hs0;obtain z9:r_.line.length<=4294967296:=hs0;refine ACalls.of_cwp (fun _=>true) Tryz.func307 rfl rfl ?_;refine Qe0 (fun (c:LexReader) (c2:Bool)=>∃ m,(Int.toNat ((c.line.length:Int) - c.at_))<m∧Qm2 r_ (QX1 m c c2).1 (QX1 m c c2).2=R∧0<=c.at_∧c.at_<=(c.line.length:Int)∧c.line.length<=400∧r_.at_<=c.at_∧0<=r_.at_) (fun c c2=>(Int.toNat ((c.line.length:Int) - c.at_))) (fun c c2=>[(0,AVal.ptr 0 0 4 0 0),(1,AVal.fn (.func 335) [] [AVal.ptr 2 0 1 0 0]),(4,Sg ⟨#[]⟩),(5,I r_.at_)]) (fun c c2=>[(0,AObj.row 321 4 [[runes c.line,I c.at_,I c.bad,I c.error]]),(0,AObj.row 305 4 [[I 0,Sg ⟨#[]⟩,I 0,I 0]]),(0,AObj.row 4 1 [[Bo c2]])]) r_ true (wkA [0,1,2]) ⟨_,Nat.lt_succ_self _,foll hR rfl,by exact exA⟩ ?_;clear hR;rintro c c2 ⟨m,hm,hR,hx⟩;(try dsimp only at hR hm hx);obtain ⟨m,rfl⟩:=sucA m;refine dchk (by kernel_rfl) ?_;refine ai gkA ?_;refine ⟨_,[(0,AObj.row 321 4 [[runes c.line,I c.at_,I c.bad,I c.error]]),(0,AObj.row 305 4 [[I 0,Sg ⟨#[]⟩,I 0,I 0]]),(0,AObj.row 4 1 [[Bo (bif (decide (c.at_<(c.line.length:Int))) then (Ql1 (c.line.getD (Int.toNat c.at_) 0) c2).2 else c2)]])],fun hg=>(by rw [show (decide (c.at_<(c.line.length:Int)))=true from hg];exact mv [2] (Q3b (c.line.getD (Int.toNat c.at_) 0) c2) (dO (ds (l1 LowL.nil)) .nil) (d1 (dp .nil)) (rO (re (l1 LowL.nil)) .nil) rx),fun hg=>(by rw [show (decide (c.at_<(c.line.length:Int)))=false from hg];rfl),?_⟩;(repeat ((first|refine ai rfl ?_|refine ai (fun _=>rfl) ?_)));refine ai (fun h1=>?_) (fun h2=>?_)
 ·have hq1:=of_decide_eq_true ((Bool.and_eq_true _ _).mp h1).1;have hwr:w64 (c.at_+1)=c.at_+1:=wr (by omega);exact Q60 { c with at_:=(w64 (c.at_+1)) } (bif (decide (c.at_<(c.line.length:Int))) then (Ql1 (c.line.getD (Int.toNat c.at_) 0) c2).2 else c2) (wk [0,1,2] (tO rfl (ts LexReader.lo) (tO rfl (ts Token.lo) (tO rfl (ts (l1 LowL.nil)) .nil))) (sv (Qg1 0 rfl rfl) (sv (QM7 .nil (cv (Qg1 2 rfl rfl) .nil)) (s1 (s1 .nil))))) omA ⟨m,by exact omA,foll hR (congrArg (fun p:LexReader × Bool=>Qm2 r_ p.1 p.2) (ct h1 rfl)),by exact exA⟩
 ·replace hR:Qm2 r_ c (bif (decide (c.at_<(c.line.length:Int))) then (Ql1 (c.line.getD (Int.toNat c.at_) 0) c2).2 else c2)=R:=fo2 (fun p:LexReader × Bool=>Qm2 r_ p.1 p.2) (c,(bif (decide (c.at_<(c.line.length:Int))) then (Ql1 (c.line.getD (Int.toNat c.at_) 0) c2).2 else c2)) hR (cf h2 rfl);refine dchk (by kernel_rfl) ?_;refine ai gkA ?_;(first|refine ⟨(List.drop (Int.toNat r_.at_) (List.take (Int.toNat c.at_) c.line)),by exact cvA,?_⟩|refine ⟨_,fun _=>⟨(List.drop (Int.toNat r_.at_) (List.take (Int.toNat c.at_) c.line)),by exact cvA,rfl,rfl⟩,?_⟩|refine ⟨_,rfl,⟨(List.drop (Int.toNat r_.at_) (List.take (Int.toNat c.at_) c.line)),by exact cvA,Sub.refl _,rfl⟩,?_⟩);(repeat ((first|refine ai rfl ?_|refine ai (fun _=>rfl) ?_)));refine ⟨_,_,Told.refl,?_⟩;refine dchk (by kernel_rfl) ?_;(repeat ((first|refine ai rfl ?_|refine ai (fun _=>rfl) ?_)));refine ai (fun h3=>?_) (fun h4=>?_)
  ·refine us (mv [0] (Qh3 c r_.at_ 50) (dO (ds LexReader.lo) .nil) (dp (d1 (d1 .nil))) (rO (re LexReader.lo) .nil) rx) ?_;obtain rfl:=foll hR (ct h3 rfl);exact rq (ttA [0])
  ·refine dchk (by kernel_rfl) ?_;refine ai gkA ?_;(repeat ((first|refine ai rfl ?_|refine ai (fun _=>rfl) ?_)));refine ai (fun h5=>?_) (fun h6=>?_)
   ·refine us (mv [0] (Qh3 c c.at_ 40) (dO (ds LexReader.lo) .nil) (dp (d1 (d1 .nil))) (rO (re LexReader.lo) .nil) rx) ?_;obtain rfl:=foll hR (cf h4 (ct h5 rfl));exact rq (ttA [0])
   ·refine dchk (by kernel_rfl) ?_;refine ai gkA ?_;(first|refine ⟨(List.drop (Int.toNat r_.at_) (List.take (Int.toNat (w64 (c.at_+1))) c.line)),by exact cvA,?_⟩|refine ⟨_,fun _=>⟨(List.drop (Int.toNat r_.at_) (List.take (Int.toNat (w64 (c.at_+1))) c.line)),by exact cvA,rfl,rfl⟩,?_⟩|refine ⟨_,rfl,⟨(List.drop (Int.toNat r_.at_) (List.take (Int.toNat (w64 (c.at_+1))) c.line)),by exact cvA,Sub.refl _,rfl⟩,?_⟩);(first|apply u2|apply u3|apply u4|apply us);exact Qza (runesBytes (List.drop (Int.toNat r_.at_) (List.take (Int.toNat (w64 (c.at_+1))) c.line))) szA (by refine Nat.le_trans (QH6 _) ?_;simp only [List.length_drop,List.length_take];omega) _;(repeat ((first|refine ai rfl ?_|refine ai (fun _=>rfl) ?_|refine ai (fun _=>Qza (runesBytes (List.drop (Int.toNat r_.at_) (List.take (Int.toNat (w64 (c.at_+1))) c.line))) szA (by refine Nat.le_trans (QH6 _) ?_;simp only [List.length_drop,List.length_take];omega) _) ?_)));refine ai (fun h7=>?_) (fun h8=>?_)
    ·refine us (mv [0] (Qh3 { c with at_:=(w64 (c.at_+1)) } r_.at_ ((Q13 (runesBytes (List.drop (Int.toNat r_.at_) (List.take (Int.toNat (w64 (c.at_+1))) c.line)))).2)) (dO (ds LexReader.lo) .nil) (dp (d1 (d1 .nil))) (rO (re LexReader.lo) .nil) rx) ?_;obtain rfl:=foll hR (cf h4 (cf h6 (ct h7 rfl)));exact rq (ttA [0])
    ·obtain rfl:=foll hR (cf h4 (cf h6 (cf h8 rfl)));exact rq (tt [0] (tO rfl (ts LexReader.lo) .nil) (Qv3 (Low.agg' (Token.lo))))
def Qf6 (min max wall:Int):List Alt:=(List.range (max - min+1).toNat).map fun (i:Nat)=>(⟨max - (i:Int),wall⟩:Alt)
def Q51 (s:Shape):List Alt:=bif QU1 s != 0 then [] else bif s.kind==3 then s.alts++Qf6 s.min s.max s.wall else s.alts
theorem Qw8 {s:Shape} (h:(QU1 s != 0)=false) (hk:(s.kind==3)=true):1<=s.min∧s.min<=s.max∧s.max<=48:=by
 have hk':s.kind=3:=by simpa using hk
 simp only [QU1,hk'] at h
 revert h
 cases h2:(((((s.alts.length:Int)==0)&&(decide (s.min<=s.max)))&&(Q91 (⟨s.min,s.wall⟩:Alt)))&&(decide (s.max<=48))) with
 | false=>simp [h2,Q62]
 | true =>
  intro _
  simp [Q91] at h2
  omega
theorem QPf (lo hi wall:Int):((Qr5 hi (hi - lo+1).toNat).map fun (n:Int)=>(⟨n,wall⟩:Alt))=Qf6 lo hi wall:=by
 simp [Qr5,Qf6,List.map_map,Function.comp_def]
theorem QJ6 (s:Shape) (hs0:s.sz):GV 131 [Shape.a s] (altL (Q51 s)):=by
 generalize hR:Q51 s=R;refine gA (kp 4 [7,13,18]) Tryz.func131 ?_;have hk0:=hs0;obtain z7:s.alts.length<=4294967296:=hs0;refine us (QGc s szA _) ?_;refine ai (fun h1=>?_) (fun h2=>?_)
 ·exact lfA
 ·refine us (mv [] (QIc s.alts szA) .nil (dv (QK6 (Alt.lows _ _)) .nil) (rO rr .nil) (rw_ 1 0 rfl)) ?_;refine ai (fun h3=>?_) (fun h4=>?_)
  ·refine us (r:=.fn (.func 243) [] [.ptr 4 0 1 0 0,.ptr 3 0 1 0 0]) (o:=[(0,.row 69 5 [[I s.kind,altL s.alts,I s.min,I s.max,I s.wall]]),(0,.row 178 2 (s.alts.map Alt.cells)),(0,.row 67 1 [[.own 1 0 2 0 s.alts.length]]),(0,.row 3 1 [[I s.min]]),(0,.row 3 1 [[I s.max]])]) (ACalls.of_cwp (fun _=>true) Tryz.func201 rfl rfl ?_) ?_
   ·exact ⟨_,_,told_same,rfl,rfl⟩
   obtain ⟨q1,q2,q3⟩:=Qw8 h2 h3;refine range_next (α:=Int) (fun n=>.int .i64 n) (Qr5 s.max (s.max - s.min+1).toNat) (fun xs=>[(0,.row 69 5 [[I s.kind,altL s.alts,I s.min,I s.max,I s.wall]]),(0,.row 178 2 ((s.alts++xs.map fun (n:Int)=>(⟨n,s.wall⟩:Alt)).map Alt.cells)),(0,.row 67 1 [[.own 1 0 2 0 (s.alts++xs.map fun (n:Int)=>(⟨n,s.wall⟩:Alt)).length]]),(0,.row 3 1 [[I s.min]]),(0,.row 3 1 [[I s.max]])])
    (by simp) (by decide) (by decide) rfl rfl rfl rfl ?_ ?_ (by decide) ?_ ?_
   ·intro xs q hq _;simp only [List.mem_cons,List.not_mem_nil,or_false] at hq;rcases hq with rfl|rfl|rfl|rfl|rfl <;> exact ⟨_,_,_,rfl⟩
   ·intro K a w hs;have hv:=QAf (hs.slot 18);obtain ⟨c1,c2⟩:=box_cell (o:=4) hs.mem rfl;obtain ⟨c3,c4⟩:=box_cell (o:=3) hs.mem rfl;refine ⟨243,#[.pointer (some ⟨K.ρ 4 0,0,none⟩),.pointer (some ⟨K.ρ 3 0,0,none⟩)],⟨K.ρ 3 0,0,none⟩,.int .i64 s.min,hv,?_,c4,?_,?_⟩
    ·intro args w;simp [go_sem]
    ·intro K1 xs W hs1;have hv1:=QAf (hs1.slot 18);have e:K1.ρ 3 0=K.ρ 3 0:=by
      have:=hv1.symm.trans hv;exact (by simpa using this:K1.ρ 4 0=K.ρ 4 0∧K1.ρ 3 0=K.ρ 3 0).2
     rw [← e];exact (box_cell (o:=3) hs1.mem rfl).1
    ·rw [Qd8];exact sizes_stops 2 (by decide) _ _ s.min s.max w q1 q2 q3 c2 c4 c1 c3
   ·intro xs x hlen;rw [Qd8] at hlen;refine Or.inl ?_;refine ⟨Qo1 16 rfl lnA (by simp;omega),?_⟩;exact wk [0,1,2,3,4] (tO rfl (ts Shape.lo) (tO rfl (QUc (by simp only [List.map_append,List.append_assoc];rfl) (QL8 fun _=>Alt.lowc _ _)) (tO rfl (QN2 (.cons _ _ _ _ (to 1 (by simp [List.length_append];omega)) .nil)) (tO rfl (ts (l1 .nil)) (tO rfl (ts (l1 .nil)) .nil)))))
     (sv (QM7 .nil (.cons _ _ _ _ (Qg1 4 rfl rfl) (.cons _ _ _ _ (Qg1 3 rfl rfl) .nil))) (s1 (sv (Qg1 2 rfl rfl) (s1 (s1 (sv (Qg1 0 rfl rfl) (sl (Shape.low _ _) .nil)))))))
   ·have e:Q51 s=s.alts++(Qr5 s.max (s.max - s.min+1).toNat).map fun (n:Int)=>(⟨n,s.wall⟩:Alt):=by
     rw [QPf];exact cf h2 (ct h3 rfl)
    obtain rfl:=foll hR e;exact Q80 lw (Q90 Alt.zero _ rfl rfl rfl)
  ·obtain rfl:=foll hR (cf h2 (cf h4 rfl));exact Q80 lw (Q90 Alt.zero _ rfl eqA lnA)
def QD5 (l:List Node):List Int->Nat->Bool
 | [],_=>true
 | x_ :: r,i=>bif ((decide (x_<(l.length:Int)))&&((l.getD (Int.toNat x_) Node.zero).want==0)) then QD5 l r (i+1) else false
def Q36 (l:List Node) (set_:Int):Bool:=bif ((Qa0 l)!=0) then false else QD5 l (Qm0 set_) 0
theorem Qj9 (l:List Node) (set_:Int) (hs0:l.length<=4294967296):GV 86 [nodeL l,U set_] (Bo (Q36 l set_)):=by
 generalize hR:Q36 l set_=R;refine gA (kp 7 [9,11,12,13,14,28]) Tryz.func86 ?_;have hk0:=hs0;obtain z7:l.length<=4294967296:=hs0;refine us (QX2 l szA _) ?_;refine ai (fun h1=>?_) (fun h2=>?_)
 ·exact lfA
 ·refine us (Qeb set_ _) ?_;refine Qg0 (fun (i:Nat)=>QD5 l (List.drop i (Qm0 set_)) i=R∧i<=(Qm0 set_).length) (fun i=>(Qm0 set_).length - i) (fun i=>[(0,nodeL l),(4,Bo false),(11,ints (Qm0 set_)),(12,I ((Qm0 set_).length:Int)),(13,I (i:Int))]) (fun i=>[]) 0 (wkA []) ⟨folA,by exact omA⟩ ?_;clear hR;rintro i ⟨hR,hj⟩;(try dsimp only at hR hj);refine ai (fun h3=>?_) (fun h4=>?_)
  ·have hlt:=ltA h3;rw [Qc0 0 hlt] at hR;have hq:=Qde set_ hlt;have hq2:=QI7 set_;refine ai gkA ?_;refine ai gkA ?_;refine ai (fun h5=>?_) (fun h6=>?_)
   ·exact Ql0 (i+1) (wkA []) omA ⟨folA,by exact omA⟩
   ·exact lfA
  ·rw [Qd0 (l:=(Qm0 set_)) (j:=i) (geA h4)] at hR;exact lfA
def Qa3 (is:Node->Bool):List Node->List Int->Nat->(List Int)
 | [],out,_=>out
 | x_ :: r,out,i=>bif (is x_) then Qa3 is r (out++([(i:Int)]:List Int)) (i+1) else Qa3 is r out (i+1)
def Q01 (out:List Int):Int:=(QH0 out).1
def Qa1 (l:List Node) (is:Node->Bool):Int:=bif ((Qa0 l)!=0) then 0 else Q01 (Qa3 is l [] 0)
def Qu3 (l:List Node) (n:Int) (act:Int) (job:Int) (now:Int):(List Node) × Int:=bif ((Qa0 l)!=0) then ([],(Qa0 l)) else bif ((((decide (n<0))||(decide (n >= (l.length:Int))))||(!(Qg3 now)))||(!(Qx4 (l.getD (Int.toNat n) Node.zero) act job))) then ([],120) else ((l.set (Int.toNat n) (QR0 (l.getD (Int.toNat n) Node.zero) act job now)),0)
theorem fleet_Do_c (l:List Node) (n:Int) (act:Int) (job:Int) (now:Int) (hs0:l.length<=4294967296):GV 156 [nodeL l,I n,I act,I job,I now] (AVal.tup [nodeL ((Qu3 l n act job now).1),I ((Qu3 l n act job now).2)]):=by
 generalize hR:Qu3 l n act job now=R;refine gA (kp 14 [17,41]) Tryz.func156 ?_;have hk0:=hs0;obtain z5:l.length<=4294967296:=hs0;refine us (QX2 l szA _) ?_;refine ai (fun h1=>?_) (fun h2=>?_)
 ·exact lfA
 ·(first|apply u2|apply u3|apply u4|apply us);exact Qba now _;refine ai gkA ?_;(first|apply u2|apply u3|apply u4|apply us);exact fleet_may_c (l.getD (Int.toNat n) Node.zero) act job _;refine ai (fun h3=>?_) (fun h4=>?_)
  ·exact lfA
  ·refine us (mv [] (QEb l szA) .nil (dl lw .nil) (rO rr .nil) (rw_ 0 0 rfl)) ?_;refine ai gkA ?_;refine us (fleet_done_c (l.getD (Int.toNat n) Node.zero) act job now _) ?_;refine ai gkA ?_;refine ⟨_,Qu2 rfl rfl rfl rfl (Q21 Node.zero (Int.toNat n) (by first|rfl|exact Nat.zero_add _|omega) ckA) rfl rfl (Qld (Int.toNat n) (QR0 (l.getD (Int.toNat n) Node.zero) act job now) (by first|rfl|exact Nat.zero_add _|omega) rfl),?_⟩;obtain rfl:=foll hR (cf h2 (cf h4 rfl));exact Q80 (Low.tup' (.cons lw (l1 .nil))) (Seen.tup (ev (Q90 Node.zero _ rfl eqA lnA) (e1 .nil)))
theorem fleet_Do_len (l:List Node) (n act job now:Int):(Qu3 l n act job now).1.length<=l.length:=by
 unfold Qu3
 repeat' first|exact Nat.zero_le _|(simp;done)|(rw [Bool.cond_eq_ite];split)
def Q84 (l:List Node) (n:Int):Note × Bool:=bif (((((Qa0 l)!=0)||(decide (n<0)))||(decide (n >= (l.length:Int))))||((l.getD (Int.toNat n) Node.zero).want==0)) then (Note.zero,false) else ((⟨(l.getD (Int.toNat n) Node.zero).want,n,(l.getD (Int.toNat n) Node.zero).job,(l.getD (Int.toNat n) Node.zero).epoch⟩:Note),true)
theorem fleet_Note_c (l:List Node) (n:Int) (hs0:l.length<=4294967296):GV 214 [nodeL l,I n] (AVal.tup [Note.a ((Q84 l n).1),Bo ((Q84 l n).2)]):=by
 generalize hR:Q84 l n=R;refine gA (kp 6 [26]) Tryz.func214 ?_;have hk0:=hs0;obtain z3:l.length<=4294967296:=hs0;refine us (QX2 l szA _) ?_;refine ai gkA ?_;refine ai (fun h1=>?_) (fun h2=>?_)
 ·exact lfA
 ·refine dchk (by kernel_rfl) ?_;refine ai gkA ?_;refine ai gkA ?_;refine ai gkA ?_;(repeat ((first|refine ai rfl ?_|refine ai (fun _=>rfl) ?_)));exact lfA
def Qn2 (l:List Int) (at_:Int):Nat->Int->Token × Int × Int × Int
 | 0,_=>(Token.zero,0,0,0)
 | m+1,i=>bif ((decide (i<(l.length:Int)))&&((l.getD (Int.toNat i) 0)!=34)) then bif ((Qi0 (l.getD (Int.toNat i) 0))==0) then (Token.zero,0,i,40) else bif ((l.getD (Int.toNat i) 0)==92) then bif ((decide ((w64 (i+1))<(l.length:Int)))&&((Qi0 (l.getD (Int.toNat (w64 (i+1))) 0))==0)) then (Token.zero,0,(w64 (i+1)),40) else Qn2 l at_ m (w64 ((w64 (i+1))+1)) else Qn2 l at_ m (w64 (i+1)) else bif (decide (i >= (l.length:Int))) then (Token.zero,0,at_,50) else bif ((Qv5 (runesBytes (List.drop (Int.toNat at_) (List.take (Int.toNat (w64 (i+1))) l)))).2 != 0) then (Token.zero,0,at_,50) else ((⟨4,(Qv5 (runesBytes (List.drop (Int.toNat at_) (List.take (Int.toNat (w64 (i+1))) l)))).1,0,at_⟩:Token),(w64 (i+1)),0,0)
def Qi3 (l:List Int) (at_:Int):Token × Int × Int × Int:=Qn2 l at_ ((Int.toNat ((l.length:Int) - (w64 (at_+1))))+1) (w64 (at_+1))
theorem ref05_text_c (l:List Int) (at_:Int) (hs0:l.length<=4294967296) (hp0:0<=at_∧at_<(l.length:Int)∧l.length<=400):GV 329 [runes l,I at_] (AVal.tup [Token.a ((Qi3 l at_).1),I ((Qi3 l at_).2.1),I ((Qi3 l at_).2.2.1),I ((Qi3 l at_).2.2.2)]):=by
 generalize hR:Qi3 l at_=R;refine gA (kp 11 [23,29,36,50,58,72]) Tryz.func329 ?_;have hk0:=hs0;obtain z13:l.length<=4294967296:=hs0;have hw0:w64 (at_+1)=at_+1:=wr (by omega);refine Qg0 (fun (i:Int)=>∃ m,(Int.toNat ((l.length:Int) - i))<m∧Qn2 l at_ m i=R∧at_<i∧i<=(l.length:Int)+1) (fun i=>(Int.toNat ((l.length:Int) - i))) (fun i=>[(0,runes l),(1,I at_),(4,AVal.ptr 0 0 4 0 0),(5,I 0),(6,I 0),(7,I 0),(8,I i)]) (fun i=>[(0,AObj.row 305 4 [[I 0,Sg ⟨#[]⟩,I 0,I 0]])]) (w64 (at_+1)) (wkA [0]) ⟨_,Nat.lt_succ_self _,foll hR rfl,by exact exA⟩ ?_;clear hR;rintro i ⟨m,hm,hR,hx⟩;(try dsimp only at hR hm hx);obtain ⟨m,rfl⟩:=sucA m;refine ai gkA ?_;refine ai (fun h1=>?_) (fun h2=>?_)
 ·have hq1:=of_decide_eq_true ((Bool.and_eq_true _ _).mp h1).1;have hw1:w64 (i+1)=i+1:=wr (by omega);have hw2:w64 (i+1+1)=i+1+1:=wr (by omega);refine ai gkA ?_;refine us (Qq4 (l.getD (Int.toNat i) 0) _) ?_;refine ai (fun h3=>?_) (fun h4=>?_)
  ·exact lfA
  ·refine ai gkA ?_;refine ai (fun h5=>?_) (fun h6=>?_)
   ·refine ai gkA ?_;(first|apply u2|apply u3|apply u4|apply us);exact Qq4 (l.getD (Int.toNat (w64 (i+1))) 0) _;refine ai (fun h7=>?_) (fun h8=>?_)
    ·exact lfA
    ·exact Ql0 (w64 ((w64 (i+1))+1)) (wkA [0]) omA ⟨m,by exact omA,foll hR (ct h1 (cf h4 (ct h5 (cf h8 rfl)))),by exact exA⟩
   ·exact Ql0 (w64 (i+1)) (wkA [0]) omA ⟨m,by exact omA,foll hR (ct h1 (cf h4 (cf h6 rfl))),by exact exA⟩
 ·refine ai (fun h9=>?_) (fun h10=>?_)
  ·have qh9:=of_decide_eq_true h9;exact lfA
  ·have qh10:=of_decide_eq_false h10;refine ai gkA ?_;(first|refine ⟨(List.drop (Int.toNat at_) (List.take (Int.toNat (w64 (i+1))) l)),by exact cvA,?_⟩|refine ⟨_,fun _=>⟨(List.drop (Int.toNat at_) (List.take (Int.toNat (w64 (i+1))) l)),by exact cvA,rfl,rfl⟩,?_⟩|refine ⟨_,rfl,⟨(List.drop (Int.toNat at_) (List.take (Int.toNat (w64 (i+1))) l)),by exact cvA,Sub.refl _,rfl⟩,?_⟩);refine us (Quf (runesBytes (List.drop (Int.toNat at_) (List.take (Int.toNat (w64 (i+1))) l))) szA _) ?_;refine ai (fun h11=>?_) (fun h12=>?_)
   ·exact lfA
   ·exact lfA
theorem QQ8 (l:List Int) (at_:Int) (h:l.length<=400):∀ (m:Nat) (i:Int),at_<i->0<=at_->i<=(l.length:Int)+1->(Int.toNat ((l.length:Int) - i))<m->((Qn2 l at_ m i).2.2.2 != 0)=false->at_<(Qn2 l at_ m i).2.1∧(Qn2 l at_ m i).2.1<=(l.length:Int)
 | 0,i,_,_,_,hm=>absurd hm (by omega)
 | m+1,i,h0,hz,h1,hm=>by
  rw [Qn2]
  cases hd:((decide (i<(l.length:Int)))&&((l.getD (Int.toNat i) 0)!=34)) with
  | false =>
   simp only [cond_false]
   cases hi:(decide (i >= (l.length:Int))) with
   | true=>intro h;cases h
   | false =>
    have hlt:=of_decide_eq_false hi
    simp only [cond_false]
    cases ((Qv5 (runesBytes (List.drop (Int.toNat at_) (List.take (Int.toNat (w64 (i+1))) l)))).2 != 0) with
    | true=>intro h;cases h
    | false =>
     intro _
     have hw:w64 (i+1)=i+1:=wr (by omega)
     simp only [cond_false]
     rw [hw]
     omega
  | true =>
   have hlt:=of_decide_eq_true ((Bool.and_eq_true _ _).mp hd).1
   have hw:w64 (i+1)=i+1:=wr (by omega)
   have hw2:w64 (i+1+1)=i+1+1:=wr (by omega)
   simp only [cond_true]
   cases ((Qi0 (l.getD (Int.toNat i) 0))==0) with
   | true=>intro h;cases h
   | false =>
    simp only [cond_false]
    rw [hw]
    cases ((l.getD (Int.toNat i) 0)==92) with
    | true =>
     simp only [cond_true]
     cases ((decide ((i+1)<(l.length:Int)))&&((Qi0 (l.getD (Int.toNat (i+1)) 0))==0)) with
     | true=>intro h;cases h
     | false =>
      simp only [cond_false]
      rw [hw2]
      exact QQ8 l at_ h m _ (by omega) hz (by omega) (by omega)
    | false=>exact QQ8 l at_ h m _ (by omega) hz (by omega) (by omega)
theorem ref05_text_lt (l:List Int) (at_:Int) (h0:0<=at_) (h1:at_<(l.length:Int)) (h:l.length<=400) (he:((Qi3 l at_).2.2.2 != 0)=false):at_<(Qi3 l at_).2.1∧(Qi3 l at_).2.1<=(l.length:Int):=by
 have hw:w64 (at_+1)=at_+1:=wr (by omega)
 unfold Qi3 at he ⊢
 rw [hw] at he ⊢
 exact QQ8 l at_ h _ _ (by omega) h0 (by omega) (Nat.lt_succ_self _) he
def QS2 (j:Job):Bool:=bif (j.state==1) then bif (((j.start != 0)||(j.limit != 0))||(j.nodes != 0)) then false else bif (j.promise==(-1)) then (j.choice==0) else (((QD1 j.promise)&&(decide ((Qs2 j.shape j.choice) > 0)))&&(!j.held)) else bif (j.state==2) then bif ((((((((Qs2 j.shape j.choice)==0)||j.held)||(!(QD1 j.start)))||(!(QD1 j.promise)))||(decide (j.start > j.promise)))||(!(QD1 j.limit)))||(j.limit != (w64 (j.start+(Qs2 j.shape j.choice))))) then false else ((Qwa j.nodes)&&(Qz7 j.shape j.choice ((Qb0 j.nodes).length:Int))) else ((((((((QG9 j.state)&&(j.nodes==0))&&(QD1 j.start))&&(QD1 j.limit))&&(decide (j.promise >= (-1))))&&(decide (j.promise<=1000000)))&&(decide (j.choice >= 0)))&&(decide (j.choice<=48)))
theorem ref14_state_c (j:Job) (hs0:j.sz):GV 257 [Job.a j] (Bo (QS2 j)):=by
 generalize hR:QS2 j=R;refine gA (kp 5 [10,11,25,28,48,94]) Tryz.func257 ?_;obtain ⟨z11,z12,z13,z14,z15⟩:=Job.zz hs0;refine us (QG8 j.nodes _) ?_;refine ai (fun h1=>?_) (fun h2=>?_)
 ·refine ai (fun h3=>?_) (fun h4=>?_)
  ·exact lfA
  ·refine ai (fun h5=>?_) (fun h6=>?_)
   ·exact lfA
   ·refine us (Qm4 j.promise _) ?_;(first|apply u2|apply u3|apply u4|apply us);exact QPd j.shape j.choice szA _;exact lfA
 ·refine ai (fun h7=>?_) (fun h8=>?_)
  ·refine us (QPd j.shape j.choice szA _) ?_;(first|apply u2|apply u3|apply u4|apply us);exact Qm4 j.start _;(first|apply u2|apply u3|apply u4|apply us);exact Qm4 j.promise _;(first|apply u2|apply u3|apply u4|apply us);exact Qm4 j.limit _;refine ai (fun h9=>?_) (fun h10=>?_)
   ·exact lfA
   ·refine us (ref14_Few_c j.nodes _) ?_;(first|apply u2|apply u3|apply u4|apply us);exact ref07_Allows_c j.shape j.choice ((Qb0 j.nodes).length:Int) szA _;exact lfA
  ·refine us (ref14_Ended_c j.state _) ?_;(first|apply u2|apply u3|apply u4|apply us);exact Qm4 j.start _;(first|apply u2|apply u3|apply u4|apply us);exact Qm4 j.limit _;exact lfA
def Qm1 (r_:Resize):List Node->Int->Nat->Sum (Bool) (Int × Nat)
 | [],left,n1=>Sum.inr (left,n1)
 | x_ :: r,left,n1=>bif ((x_.job != r_.job)||(x_.state==3)) then Qm1 r_ r left (n1+1) else bif (!(QB2 x_ (n1:Int) r_)) then Sum.inl false else bif ((x_.state==1)&&(!(QT1 r_.nodes (n1:Int)))) then Qm1 r_ r (w64 (left+1)) (n1+1) else Qm1 r_ r left (n1+1)
def Qg4 (s:State) (r_:Resize):Nat->Nat->Bool
 | 0,_=>false
 | m+1,n=>bif (decide ((n:Int)<64)) then bif (((QT1 r_.said (n:Int))&&(!(QT1 r_.nodes (n:Int))))||((QT1 r_.nodes (n:Int))&&(((decide ((n:Int) >= (s.nodes.length:Int)))||((s.nodes.getD n Node.zero).job != r_.job))||((s.nodes.getD n Node.zero).state==3)))) then false else Qg4 s r_ m (n+1) else (Sum.elim id (fun p1:Int × Nat=>bif r_.grow then (decide ((w64 (((Qb0 ((Q50 s r_.job).1.nodes)).length:Int)+((Qb0 r_.nodes).length:Int)))<=(Q50 s r_.job).1.shape.max)) else ((decide (p1.1 > 0))&&(decide ((w64 (((Qb0 ((Q50 s r_.job).1.nodes)).length:Int) - ((Qb0 r_.nodes).length:Int))) >= (Q50 s r_.job).1.shape.min))))) (Qm1 r_ s.nodes 0 0)
def QI1 (s:State) (r_:Resize):Bool:=bif (((((!(Q50 s r_.job).2)||((Q50 s r_.job).1.shape.kind != 3))||(r_.nodes==0))||(decide (r_.since<0)))||(decide (r_.since > 1000000))) then false else Qg4 s r_ ((Int.toNat (64 - (0:Int)))+1) 0
theorem Qfb (s:State) (r_:Resize) (hs0:s.sz):GV 104 [State.a s,Resize.a r_] (Bo (QI1 s r_)):=by
 generalize hR:QI1 s r_=R;refine gA (kp 13 [42,44,90,95,112,117,127,139]) Tryz.func104 ?_;have hk0:=hs0;obtain ⟨z17,z18,z19,z20,z21,z22,z23⟩:=hs0;refine us (QAb s r_.job szA _) ?_;refine ai (fun h1=>?_) (fun h2=>?_)
 ·exact lfA
 ·refine Qg0 (fun (n:Nat)=>∃ m,(Int.toNat (64 - (n:Int)))<m∧Qg4 s r_ m n=R) (fun n=>(Int.toNat (64 - (n:Int)))) (fun n=>[(2,AVal.ptr 0 0 8 0 0),(3,AVal.ptr 1 0 5 0 0),(4,Bo false),(5,AVal.ptr 2 0 20 0 0),(7,I (n:Int))]) (fun n=>[(0,AObj.row 28 8 [[I s.now,nodeL s.nodes,jobL s.jobs,Qp1 s.resizes,bookL s.books,QD2 s.ledger,I s.nextJob,I s.nextBook]]),(0,AObj.row 49 5 [[I r_.job,Bo r_.grow,U r_.nodes,U r_.said,I r_.since]]),(0,AObj.row 72 20 [[I ((Q50 s r_.job).1.id),Sg ((Q50 s r_.job).1.name),Sg ((Q50 s r_.job).1.user),Sg ((Q50 s r_.job).1.account),I ((Q50 s r_.job).1.shape.kind),altL ((Q50 s r_.job).1.shape.alts),I ((Q50 s r_.job).1.shape.min),I ((Q50 s r_.job).1.shape.max),I ((Q50 s r_.job).1.shape.wall),I ((Q50 s r_.job).1.prio),depL ((Q50 s r_.job).1.after),I ((Q50 s r_.job).1.state),Bo ((Q50 s r_.job).1.held),I ((Q50 s r_.job).1.born),I ((Q50 s r_.job).1.promise),I ((Q50 s r_.job).1.choice),I ((Q50 s r_.job).1.start),I ((Q50 s r_.job).1.limit),U ((Q50 s r_.job).1.nodes),I ((Q50 s r_.job).1.used)]])]) 0 (wkA [0,1,2]) ⟨_,Nat.lt_succ_self _,foll hR (cf h2 rfl)⟩ ?_;clear hR;rintro n ⟨m,hm,hR⟩;(try dsimp only at hR hm);obtain ⟨m,rfl⟩:=sucA m;refine ai (fun h3=>?_) (fun h4=>?_)
  ·have qh3:=of_decide_eq_true h3;refine dchk (by kernel_rfl) ?_;(first|apply u2|apply u3|apply u4|apply us);exact QA2 r_.said (n:Int) _;(first|apply u2|apply u3|apply u4|apply us);exact QA2 r_.nodes (n:Int) _;(first|apply u2|apply u3|apply u4|apply us);exact QA2 r_.nodes (n:Int) _;refine ai gkA ?_;refine ai gkA ?_;(repeat ((first|refine ai rfl ?_|refine ai (fun _=>rfl) ?_|refine ai (fun _=>QA2 r_.said (n:Int) _) ?_|refine ai (fun _=>QA2 r_.nodes (n:Int) _) ?_|refine ai (fun _=>QA2 r_.nodes (n:Int) _) ?_)));refine ai (fun h5=>?_) (fun h6=>?_)
   ·exact lfA
   ·exact Ql0 (n+1) (wkA [0,1,2]) omA ⟨m,by exact omA,foll hR (ct h3 (cf h6 rfl))⟩
  ·have qh4:=of_decide_eq_false h4;obtain ⟨m1_,rfl⟩:∃ q,q=m:=⟨m,rfl⟩;refine Qe0 (fun (left:Int) (n1:Nat)=>(Sum.elim id (fun p1:Int × Nat=>bif r_.grow then (decide ((w64 (((Qb0 ((Q50 s r_.job).1.nodes)).length:Int)+((Qb0 r_.nodes).length:Int)))<=(Q50 s r_.job).1.shape.max)) else ((decide (p1.1 > 0))&&(decide ((w64 (((Qb0 ((Q50 s r_.job).1.nodes)).length:Int) - ((Qb0 r_.nodes).length:Int))) >= (Q50 s r_.job).1.shape.min))))) (Qm1 r_ (List.drop n1 s.nodes) left n1)=R∧n1<=s.nodes.length) (fun left n1=>s.nodes.length - n1) (fun left n1=>[(2,AVal.ptr 0 0 8 0 0),(3,AVal.ptr 1 0 5 0 0),(4,Bo false),(5,AVal.ptr 2 0 20 0 0),(8,I left),(9,I (n1:Int))]) (fun left n1=>[(0,AObj.row 28 8 [[I s.now,nodeL s.nodes,jobL s.jobs,Qp1 s.resizes,bookL s.books,QD2 s.ledger,I s.nextJob,I s.nextBook]]),(0,AObj.row 49 5 [[I r_.job,Bo r_.grow,U r_.nodes,U r_.said,I r_.since]]),(0,AObj.row 72 20 [[I ((Q50 s r_.job).1.id),Sg ((Q50 s r_.job).1.name),Sg ((Q50 s r_.job).1.user),Sg ((Q50 s r_.job).1.account),I ((Q50 s r_.job).1.shape.kind),altL ((Q50 s r_.job).1.shape.alts),I ((Q50 s r_.job).1.shape.min),I ((Q50 s r_.job).1.shape.max),I ((Q50 s r_.job).1.shape.wall),I ((Q50 s r_.job).1.prio),depL ((Q50 s r_.job).1.after),I ((Q50 s r_.job).1.state),Bo ((Q50 s r_.job).1.held),I ((Q50 s r_.job).1.born),I ((Q50 s r_.job).1.promise),I ((Q50 s r_.job).1.choice),I ((Q50 s r_.job).1.start),I ((Q50 s r_.job).1.limit),U ((Q50 s r_.job).1.nodes),I ((Q50 s r_.job).1.used)]])]) 0 0 (wkA [0,1,2]) ⟨folA,by exact omA⟩ ?_;clear hR;rintro left n1 ⟨hR,hj⟩;(try dsimp only at hR hj);refine ai (fun h7=>?_) (fun h8=>?_)
   ·have hlt:=ltA h7;rw [Qc0 Node.zero hlt] at hR;refine ai gkA ?_;refine ai (fun h9=>?_) (fun h10=>?_)
    ·exact Q60 left (n1+1) (wkA [0,1,2]) omA ⟨foll hR (congrArg (Sum.elim id (fun p1:Int × Nat=>bif r_.grow then (decide ((w64 (((Qb0 ((Q50 s r_.job).1.nodes)).length:Int)+((Qb0 r_.nodes).length:Int)))<=(Q50 s r_.job).1.shape.max)) else ((decide (p1.1 > 0))&&(decide ((w64 (((Qb0 ((Q50 s r_.job).1.nodes)).length:Int) - ((Qb0 r_.nodes).length:Int))) >= (Q50 s r_.job).1.shape.min))))) (ct h9 rfl)),by exact omA⟩
    ·refine us (ref25_moved_c (s.nodes.getD n1 Node.zero) (n1:Int) r_ _) ?_;refine ai (fun h11=>?_) (fun h12=>?_)
     ·obtain rfl:=foll hR (congrArg (Sum.elim id (fun p1:Int × Nat=>bif r_.grow then (decide ((w64 (((Qb0 ((Q50 s r_.job).1.nodes)).length:Int)+((Qb0 r_.nodes).length:Int)))<=(Q50 s r_.job).1.shape.max)) else ((decide (p1.1 > 0))&&(decide ((w64 (((Qb0 ((Q50 s r_.job).1.nodes)).length:Int) - ((Qb0 r_.nodes).length:Int))) >= (Q50 s r_.job).1.shape.min))))) (cf h10 (ct h11 rfl)));exact Q80 lx sr
     ·(first|apply u2|apply u3|apply u4|apply us);exact QA2 r_.nodes (n1:Int) _;refine ai (fun h13=>?_) (fun h14=>?_)
      ·exact Q60 (w64 (left+1)) (n1+1) (wkA [0,1,2]) omA ⟨foll hR (congrArg (Sum.elim id (fun p1:Int × Nat=>bif r_.grow then (decide ((w64 (((Qb0 ((Q50 s r_.job).1.nodes)).length:Int)+((Qb0 r_.nodes).length:Int)))<=(Q50 s r_.job).1.shape.max)) else ((decide (p1.1 > 0))&&(decide ((w64 (((Qb0 ((Q50 s r_.job).1.nodes)).length:Int) - ((Qb0 r_.nodes).length:Int))) >= (Q50 s r_.job).1.shape.min))))) (cf h10 (cf h12 (ct h13 rfl)))),by exact omA⟩
      ·exact Q60 left (n1+1) (wkA [0,1,2]) omA ⟨foll hR (congrArg (Sum.elim id (fun p1:Int × Nat=>bif r_.grow then (decide ((w64 (((Qb0 ((Q50 s r_.job).1.nodes)).length:Int)+((Qb0 r_.nodes).length:Int)))<=(Q50 s r_.job).1.shape.max)) else ((decide (p1.1 > 0))&&(decide ((w64 (((Qb0 ((Q50 s r_.job).1.nodes)).length:Int) - ((Qb0 r_.nodes).length:Int))) >= (Q50 s r_.job).1.shape.min))))) (cf h10 (cf h12 (cf h14 rfl)))),by exact omA⟩
   ·rw [Qd0 (l:=s.nodes) (j:=n1) (geA h8)] at hR;replace hR:(Sum.elim id (fun p1:Int × Nat=>bif r_.grow then (decide ((w64 (((Qb0 ((Q50 s r_.job).1.nodes)).length:Int)+((Qb0 r_.nodes).length:Int)))<=(Q50 s r_.job).1.shape.max)) else ((decide (p1.1 > 0))&&(decide ((w64 (((Qb0 ((Q50 s r_.job).1.nodes)).length:Int) - ((Qb0 r_.nodes).length:Int))) >= (Q50 s r_.job).1.shape.min))))) (Sum.inr (left,n1))=R:=foll hR (congrArg (Sum.elim id (fun p1:Int × Nat=>bif r_.grow then (decide ((w64 (((Qb0 ((Q50 s r_.job).1.nodes)).length:Int)+((Qb0 r_.nodes).length:Int)))<=(Q50 s r_.job).1.shape.max)) else ((decide (p1.1 > 0))&&(decide ((w64 (((Qb0 ((Q50 s r_.job).1.nodes)).length:Int) - ((Qb0 r_.nodes).length:Int))) >= (Q50 s r_.job).1.shape.min))))) rfl);refine us (QG8 ((Q50 s r_.job).1.nodes) _) ?_;refine us (QG8 r_.nodes _) ?_;refine ai (fun h15=>?_) (fun h16=>?_)
    ·exact lfA
    ·exact lfA
def Q72 (set_:Int) (act:Int) (job:Int) (now:Int):List Int->List Node->Nat->(List Node) × (List Note) × Int
 | [],l2,_=>bif (!((((((act==1)||(act==2))||(act==3))||(act==5))||(act==7))||(act==10))) then (l2,[],0) else (l2,(Q27 l2 (Qb0 set_)),0)
 | x_ :: r,l2,i=>bif ((Q14 l2 x_ act job now).2 != 0) then ([],[],(Q14 l2 x_ act job now).2) else Q72 set_ act job now r ((Q14 l2 x_ act job now).1) (i+1)
def QS0 (l:List Node) (set_:Int) (act:Int) (job:Int) (now:Int):(List Node) × (List Note) × Int:=bif ((Qr3 l)!=0) then ([],[],120) else Q72 set_ act job now (Qb0 set_) l 0
theorem b4a0 {P:Prop} (h:P:=by first|((have q:=QNd l2 ((Qb0 set_).getD i 0) act job now;omega))|exact exA):P:=h
theorem Qva (l:List Node) (set_:Int) (act:Int) (job:Int) (now:Int) (hs0:l.length<=4294967296):GV 50 [nodeL l,U set_,I act,I job,I now] (AVal.tup [nodeL ((QS0 l set_ act job now).1),noteL ((QS0 l set_ act job now).2.1),I ((QS0 l set_ act job now).2.2)]):=by
 generalize hR:QS0 l set_ act job now=R;refine gA (kp 18 [20,26,42,68]) Tryz.func50 ?_;have hk0:=hs0;obtain z9:l.length<=4294967296:=hs0;have hll:=(Quc set_).1;refine us (QD6 l szA _) ?_;refine ai (fun h1=>?_) (fun h2=>?_)
 ·exact lfA
 ·refine us (QG8 set_ _) ?_;refine Qe0 (fun (l2:List Node) (i:Nat)=>Q72 set_ act job now (List.drop i (Qb0 set_)) l2 i=R∧i<=(Qb0 set_).length∧l2.length<=4294967296) (fun l2 i=>(Qb0 set_).length - i) (fun l2 i=>[(0,nodeL l2),(2,I act),(3,I job),(4,I now),(10,AVal.lit (.slice none 0 0)),(11,AVal.lit (.slice none 0 0)),(12,I 0),(13,ints (Qb0 set_)),(14,I (i:Int))]) (fun l2 i=>[]) l 0 (wkA []) ⟨folA,by exact omA,b4a0⟩ ?_;clear hR;rintro l2 i ⟨hR,hj,hx⟩;(try dsimp only at hR hj hx);refine ai (fun h3=>?_) (fun h4=>?_)
  ·have hlt:=ltA h3;rw [Qc0 0 hlt] at hR;refine ai gkA ?_;refine us (ref12_Do_c l2 ((Qb0 set_).getD i 0) act job now szA _) ?_;refine ai (fun h5=>?_) (fun h6=>?_)
   ·exact lfA
   ·exact Q60 ((Q14 l2 ((Qb0 set_).getD i 0) act job now).1) (i+1) (wkA []) omA ⟨folA,by exact omA,b4a0⟩
  ·rw [Qd0 (l:=(Qb0 set_)) (j:=i) (geA h4)] at hR;refine ai (fun h7=>?_) (fun h8=>?_)
   ·exact lfA
   ·refine us (ref13_Notes_c l2 (Qb0 set_) szA szA _) ?_;exact lfA
def Q68 (a:State) (b:State):Bool:=((((((((a.now==b.now)&&(a.nextJob==b.nextJob))&&(a.nextBook==b.nextBook))&&(QUa a.nodes b.nodes))&&(QVa a.jobs b.jobs))&&(Qx5 a.resizes b.resizes))&&(QXa a.books b.books))&&(QWa a.ledger b.ledger))
theorem QRd (a:State) (b:State) (hs0:a.sz) (hs1:b.sz):GV 12 [State.a a,State.a b] (Bo (Q68 a b)):=by
 generalize hR:Q68 a b=R;refine gA (kp 5 []) Tryz.func12 ?_;have hk0:=hs0;obtain ⟨z1,z2,z3,z4,z5,z6,z7⟩:=hs0;have hk1:=hs1;obtain ⟨z8,z9,z10,z11,z12,z13,z14⟩:=hs1;(first|apply u2|apply u3|apply u4|apply us);exact ref12_Same_c a.nodes b.nodes szA szA _;(first|apply u2|apply u3|apply u4|apply us);exact ref15_Same_c a.jobs b.jobs szA szA _;(first|apply u2|apply u3|apply u4|apply us);exact QBb a.resizes b.resizes szA szA _;(first|apply u2|apply u3|apply u4|apply us);exact ref19_Same_c a.books b.books szA szA _;(first|apply u2|apply u3|apply u4|apply us);exact ref17_Same_c a.ledger b.ledger szA szA _;exact lfA
def Qf0 (r_:LexReader):Token × LexReader:=bif ((Qe1 (r_.line.getD (Int.toNat r_.at_) 0))==2) then ((Q22 r_).1,(Q22 r_).2) else bif ((Qe1 (r_.line.getD (Int.toNat r_.at_) 0))==3) then ((Qy1 r_).1,(Qy1 r_).2) else bif ((r_.line.getD (Int.toNat r_.at_) 0)==34) then ((QL1 r_).1,(QL1 r_).2) else bif ((decide ((Qz5 ⟨#[61,58,44,45]⟩ (wu8 (r_.line.getD (Int.toNat r_.at_) 0))) >= 0))&&(decide ((r_.line.getD (Int.toNat r_.at_) 0)<128))) then ((⟨5,(runeStr (r_.line.getD (Int.toNat r_.at_) 0)),0,0⟩:Token),{ r_ with at_:=(w64 (r_.at_+1)) }) else bif ((Qe1 (r_.line.getD (Int.toNat r_.at_) 0))==0) then (Token.zero,(QW0 r_ r_.at_ 40)) else (Token.zero,(QW0 r_ r_.at_ 50))
theorem Q5d (r_:LexReader) (hs0:r_.sz) (hp0:0<=r_.at_∧r_.at_<(r_.line.length:Int)∧r_.line.length<=400):AMoves Tryz.prog 308 [AVal.ptr 0 0 4 0 0] [(0,AObj.row 321 4 [[runes r_.line,I r_.at_,I r_.bad,I r_.error]])] 1 (Token.a ((Qf0 r_).1)) [(0,AObj.row 321 4 [[runes ((Qf0 r_).2.line),I ((Qf0 r_).2.at_),I ((Qf0 r_).2.bad),I ((Qf0 r_).2.error)]])]:=by
 generalize hR:Qf0 r_=R;refine mo (kp 4 [20,26,32,37,56]) Tryz.func308 ?_;have hk0:=hs0;obtain z11:r_.line.length<=4294967296:=hs0;refine dchk (by kernel_rfl) ?_;refine ai gkA ?_;(repeat ((first|refine ai rfl ?_|refine ai (fun _=>rfl) ?_)));refine us (Qt4 (r_.line.getD (Int.toNat r_.at_) 0) _) ?_;refine ai (fun h1=>?_) (fun h2=>?_)
 ·refine us (mv [0] (Q7d r_ szA ckA) (dO (ds LexReader.lo) .nil) (dp .nil) (rO (re LexReader.lo) .nil) (Ren.low _ (Low.agg' (Token.lo)))) ?_;obtain rfl:=foll hR (ct h1 rfl);exact rq (ttA [0])
 ·refine us (Qt4 (r_.line.getD (Int.toNat r_.at_) 0) _) ?_;refine ai (fun h3=>?_) (fun h4=>?_)
  ·refine us (mv [0] (Qmc r_ szA ckA) (dO (ds LexReader.lo) .nil) (dp .nil) (rO (re LexReader.lo) .nil) (Ren.low _ (Low.agg' (Token.lo)))) ?_;obtain rfl:=foll hR (cf h2 (ct h3 rfl));exact rq (ttA [0])
  ·refine ai (fun h5=>?_) (fun h6=>?_)
   ·refine us (mv [0] (Q6d r_ szA ckA) (dO (ds LexReader.lo) .nil) (dp .nil) (rO (re LexReader.lo) .nil) (Ren.low _ (Low.agg' (Token.lo)))) ?_;obtain rfl:=foll hR (cf h2 (cf h4 (ct h5 rfl)));exact rq (ttA [0])
   ·refine us (QIb ⟨#[61,58,44,45]⟩ (wu8 (r_.line.getD (Int.toNat r_.at_) 0)) _) ?_;refine ai (fun h7=>?_) (fun h8=>?_)
    ·obtain rfl:=foll hR (cf h2 (cf h4 (cf h6 (ct h7 rfl))));exact rq (tt [0] (tO rfl (ts LexReader.lo) .nil) (Qv3 (Low.agg' (Token.lo))))
    ·refine us (Qt4 (r_.line.getD (Int.toNat r_.at_) 0) _) ?_;refine ai (fun h9=>?_) (fun h10=>?_)
     ·refine us (mv [0] (Qh3 r_ r_.at_ 40) (dO (ds LexReader.lo) .nil) (dp (d1 (d1 .nil))) (rO (re LexReader.lo) .nil) rx) ?_;obtain rfl:=foll hR (cf h2 (cf h4 (cf h6 (cf h8 (ct h9 rfl)))));exact rq (ttA [0])
     ·refine us (mv [0] (Qh3 r_ r_.at_ 50) (dO (ds LexReader.lo) .nil) (dp (d1 (d1 .nil))) (rO (re LexReader.lo) .nil) rx) ?_;obtain rfl:=foll hR (cf h2 (cf h4 (cf h6 (cf h8 (cf h10 rfl)))));exact rq (ttA [0])
def Adv (a b:LexReader):Prop:=b.line=a.line∧a.at_<=b.at_∧b.at_<=(a.line.length:Int)∧b.error=a.error∧b.bad=a.bad
theorem QB9 (is:Int->Bool):∀ (m:Nat) (c:LexReader),0<=c.at_->c.at_<=(c.line.length:Int)->c.line.length<=400->(Int.toNat ((c.line.length:Int) - c.at_))<m->Adv c (QD0 is m c)
 | 0,c,_,_,_,h=>absurd h (by omega)
 | m+1,c,h0,h1,h2,h=>by
  rw [QD0]
  cases hc:((decide (c.at_<(c.line.length:Int)))&&(is (c.line.getD (Int.toNat c.at_) 0))) with
  | false=>exact ⟨rfl,Int.le_refl _,h1,rfl,rfl⟩
  | true =>
   have hlt:=of_decide_eq_true ((Bool.and_eq_true _ _).mp hc).1
   have hw:w64 (c.at_+1)=c.at_+1:=wr (by omega)
   rw [hw]
   obtain ⟨a,b,d,e,f⟩:=QB9 is m { c with at_:=c.at_+1 } (by dsimp only;omega) (by dsimp only;omega) h2 (by dsimp only;omega)
   dsimp only at a b d e f
   exact ⟨a,by simp only [cond_true];omega,d,e,f⟩
theorem QC5 (r:LexReader) (is:Int->Bool) (h0:0<=r.at_) (h1:r.at_<=(r.line.length:Int)) (h2:r.line.length<=400):Adv r (Q10 r is).2 :=
 QB9 is _ r h0 h1 h2 (Nat.lt_succ_self _)
theorem Qi8 (r:LexReader) (is:Int->Bool) (h0:0<=r.at_) (h1:r.at_<(r.line.length:Int)) (h2:r.line.length<=400) (h:is (r.line.getD (Int.toNat r.at_) 0)=true):r.at_<(Q10 r is).2.at_:=by
 have hw:w64 (r.at_+1)=r.at_+1:=wr (by omega)
 have e:(Q10 r is).2=QD0 is (Int.toNat ((r.line.length:Int) - r.at_)) { r with at_:=r.at_+1 }:=by
  show QD0 is ((Int.toNat ((r.line.length:Int) - r.at_))+1) r=_
  rw [QD0,show ((decide (r.at_<(r.line.length:Int)))&&(is (r.line.getD (Int.toNat r.at_) 0)))=true by rw [h,Bool.and_true];exact decide_eq_true h1,hw]
  rfl
 rw [e]
 have:=(QB9 is (Int.toNat ((r.line.length:Int) - r.at_)) { r with at_:=r.at_+1 } (by dsimp only;omega) (by dsimp only;omega) h2 (by dsimp only;omega)).2.1
 dsimp only at this
 omega
theorem Qha (r:LexReader) (p e:Int) (he:e ≠ 0):(QW0 r p e).line=r.line∧(QW0 r p e).at_=r.at_∧(QW0 r p e).error ≠ 0:=by
 unfold QW0
 cases h:(r.error==0) with
 | true=>exact ⟨rfl,rfl,he⟩
 | false=>exact ⟨rfl,rfl,by simpa using h⟩
def Nxt (a b:LexReader):Prop:=b.line=a.line∧a.at_<=b.at_∧b.at_<=(a.line.length:Int)∧(b.error ≠ 0∨a.at_<b.at_)
theorem lex_word_nxt (r:LexReader) (h0:0<=r.at_) (h1:r.at_<(r.line.length:Int)) (h2:r.line.length<=400) (hc:((Qe1 (r.line.getD (Int.toNat r.at_) 0))==2)=true):Nxt r (Q22 r).2:=by
 obtain ⟨a,b,c,_,_⟩:=QC5 r (fun (y:Int)=>Qj0 y ([2,3]:List Int) 0) h0 (by omega) h2
 exact ⟨a,b,c,Or.inr (Qi8 r _ h0 h1 h2 (by simp only [Qj0,hc];rfl))⟩
theorem class_digit (x:Int) (h:(Qe1 x==3)=true):48<=x∧x<=57:=by
 unfold Qe1 at h
 revert h
 cases ((x==9)||(x==32)) with
 | true=>simp
 | false =>
  simp only [cond_false]
  cases (((((decide (x<32))||((decide (x >= 127))&&(decide (x<=160))))||((decide (x >= 55296))&&(decide (x<=57343))))||(x==65533))||(decide (x > 1114111))) with
  | true=>simp
  | false =>
   simp only [cond_false]
   cases hd:((decide (x >= 48))&&(decide (x<=57))) with
   | true=>intro _;simp at hd;omega
   | false =>
    simp only [cond_false]
    cases ((((decide (x >= 97))&&(decide (x<=122)))||((decide (x >= 65))&&(decide (x<=90))))||(decide (x > 160))) <;> simp
theorem lex_count_nxt (r:LexReader) (h0:0<=r.at_) (h1:r.at_<(r.line.length:Int)) (h2:r.line.length<=400) (hc:((Qe1 (r.line.getD (Int.toNat r.at_) 0))==3)=true):Nxt r (Qy1 r).2:=by
 obtain ⟨a,b,c,_,_⟩:=QC5 r (fun (y:Int)=>(((decide (y >= 48))&&(decide (y<=57)))||((decide (y >= 97))&&(decide (y<=122))))) h0 (by omega) h2
 have hd:=class_digit _ hc
 have l:=Qi8 r (fun (y:Int)=>(((decide (y >= 48))&&(decide (y<=57)))||((decide (y >= 97))&&(decide (y<=122))))) h0 h1 h2 (by simp only [decide_eq_true hd.1,decide_eq_true hd.2];rfl)
 unfold Qy1
 cases (!(Q48 ((Q10 r (fun (y:Int)=>(((decide (y >= 48))&&(decide (y<=57)))||((decide (y >= 97))&&(decide (y<=122)))))).1))) with
 | true=>exact ⟨a,b,c,Or.inr l⟩
 | false =>
  simp only [cond_false]
  cases (!(QT6 ((Q10 r (fun (y:Int)=>(((decide (y >= 48))&&(decide (y<=57)))||((decide (y >= 97))&&(decide (y<=122)))))).1)).2) with
  | false=>exact ⟨a,b,c,Or.inr l⟩
  | true =>
   obtain ⟨f1,f2,f3⟩:=Qha (Q10 r (fun (y:Int)=>(((decide (y >= 48))&&(decide (y<=57)))||((decide (y >= 97))&&(decide (y<=122)))))).2 r.at_ 50 (by decide)
   exact ⟨f1.trans a,by simp only [cond_true];rw [f2];exact b,by simp only [cond_true];rw [f2];exact c,Or.inl f3⟩
theorem QEd:∀ (m:Nat) (c:LexReader) (b:Bool),0<=c.at_->c.at_<=(c.line.length:Int)->c.line.length<=400->(Int.toNat ((c.line.length:Int) - c.at_))<m->Adv c (QX1 m c b).1
 | 0,c,_,_,_,_,h=>absurd h (by omega)
 | m+1,c,b,h0,h1,h2,h=>by
  rw [QX1]
  cases hc:((decide (c.at_<(c.line.length:Int)))&&(Ql1 (c.line.getD (Int.toNat c.at_) 0) b).1) with
  | false=>exact ⟨rfl,Int.le_refl _,h1,rfl,rfl⟩
  | true =>
   have hlt:=of_decide_eq_true ((Bool.and_eq_true _ _).mp hc).1
   have hw:w64 (c.at_+1)=c.at_+1:=wr (by omega)
   rw [hw]
   obtain ⟨a,b,d,e,f⟩:=QEd m { c with at_:=c.at_+1 } _ (by dsimp only;omega) (by dsimp only;omega) h2 (by dsimp only;omega)
   dsimp only at a b d e f
   exact ⟨a,by simp only [cond_true];omega,d,e,f⟩
theorem lex_text_nxt (r:LexReader) (h0:0<=r.at_) (h1:r.at_<(r.line.length:Int)) (h2:r.line.length<=400):Nxt r (QL1 r).2:=by
 obtain ⟨a,b,c,_,_⟩:=QEd _ r true h0 (by omega) h2 (Nat.lt_succ_self _)
 unfold QL1
 generalize (QX1 ((Int.toNat ((r.line.length:Int) - r.at_))+1) r true).1=q at a b c
 unfold Qm2
 have ff:∀ (x:LexReader) (p e:Int),e ≠ 0->x.line=r.line->r.at_<=x.at_->x.at_<=(r.line.length:Int)->Nxt r (QW0 x p e):=by
  intro x p e he hx hp hq
  obtain ⟨f1,f2,f3⟩:=Qha x p e he
  exact ⟨f1.trans hx,by rw [f2];exact hp,by rw [f2];exact hq,Or.inl f3⟩
 cases h3:(q.at_==(q.line.length:Int)) with
 | true=>exact ff q _ _ (by decide) a b c
 | false =>
  simp only [cond_false]
  have h3':q.at_ ≠ (r.line.length:Int):=by rw [a] at h3;simpa using h3
  have hw:w64 (q.at_+1)=q.at_+1:=wr (by omega)
  cases ((q.line.getD (Int.toNat q.at_) 0)!=34) with
  | true=>exact ff q _ _ (by decide) a b c
  | false =>
   simp only [cond_false]
   rw [hw]
   cases h4:((Q13 (runesBytes (List.drop (Int.toNat r.at_) (List.take (Int.toNat (q.at_+1)) q.line)))).2 != 0) with
   | true=>exact ff { q with at_:=q.at_+1 } _ _ (by simpa using h4) a (by show r.at_<=q.at_+1;omega) (by show q.at_+1<=_;omega)
   | false=>exact ⟨a,by show r.at_<=q.at_+1;omega,by show q.at_+1<=_;omega,Or.inr (by show r.at_<q.at_+1;omega)⟩
theorem lex_next_nxt (r:LexReader) (h0:0<=r.at_) (h1:r.at_<(r.line.length:Int)) (h2:r.line.length<=400):Nxt r (Qf0 r).2:=by
 have hw:w64 (r.at_+1)=r.at_+1:=wr (by omega)
 have ff:∀ (e:Int),e ≠ 0->Nxt r (QW0 r r.at_ e):=by
  intro e he
  obtain ⟨f1,f2,f3⟩:=Qha r r.at_ e he
  exact ⟨f1,by rw [f2];exact Int.le_refl _,by rw [f2];omega,Or.inl f3⟩
 unfold Qf0
 cases hc:((Qe1 (r.line.getD (Int.toNat r.at_) 0))==2) with
 | true=>exact lex_word_nxt r h0 h1 h2 hc
 | false =>
  simp only [cond_false]
  cases hd:((Qe1 (r.line.getD (Int.toNat r.at_) 0))==3) with
  | true=>exact lex_count_nxt r h0 h1 h2 hd
  | false =>
   simp only [cond_false]
   cases ((r.line.getD (Int.toNat r.at_) 0)==34) with
   | true=>exact lex_text_nxt r h0 h1 h2
   | false =>
    simp only [cond_false]
    cases ((decide ((Qz5 ⟨#[61,58,44,45]⟩ (wu8 (r.line.getD (Int.toNat r.at_) 0))) >= 0))&&(decide ((r.line.getD (Int.toNat r.at_) 0)<128))) with
    | true=>rw [hw];exact ⟨rfl,by show r.at_<=r.at_+1;omega,by show r.at_+1<=_;omega,Or.inr (by show r.at_<r.at_+1;omega)⟩
    | false =>
     simp only [cond_false]
     cases ((Qe1 (r.line.getD (Int.toNat r.at_) 0))==0) with
     | true=>exact ff 40 (by decide)
     | false=>exact ff 50 (by decide)
theorem lex_round (r c:LexReader) (b:Int->Bool) (h0:0<=r.at_) (h1:r.at_<=(r.line.length:Int)) (h2:r.line.length<=400) (he:(r.error==0)=true) (e:c=(Q10 r b).2) (hn:(c.at_==(c.line.length:Int))=false) :
  (0<=c.at_∧c.at_<(c.line.length:Int)∧c.line.length<=400)∧(0<=(Qf0 c).2.at_∧(Qf0 c).2.at_<=((Qf0 c).2.line.length:Int)∧(Qf0 c).2.line.length<=400) ∧
  2*Int.toNat (((Qf0 c).2.line.length:Int) - (Qf0 c).2.at_)+(bif (Qf0 c).2.error==0 then 1 else 0)<2*Int.toNat ((r.line.length:Int) - r.at_)+(bif r.error==0 then 1 else 0) ∧
  (((Qf0 c).2.error==0)=true->r.at_+1<=(Qf0 c).2.at_):=by
 obtain ⟨a1,a2,a3,a4,a5⟩:=QC5 r b h0 h1 h2
 rw [← e] at a1 a2 a3 a4 a5
 have hn':c.at_ ≠ (r.line.length:Int):=by rw [a1] at hn;simpa using hn
 have hc:0<=c.at_∧c.at_<(c.line.length:Int)∧c.line.length<=400:=by rw [a1];omega
 obtain ⟨n1,n2,n3,n4⟩:=lex_next_nxt c hc.1 hc.2.1 hc.2.2
 rw [he]
 rw [a1] at n1 n3
 refine ⟨hc,by rw [n1];omega,?_⟩
 rw [n1]
 rcases n4 with n4|n4
 ·have:((Qf0 c).2.error==0)=false:=by simpa using n4
  rw [this]
  simp only [cond_true,cond_false]
  exact ⟨by omega,fun h=>nomatch h⟩
 ·refine ⟨?_,fun _=>by omega⟩
  cases ((Qf0 c).2.error==0) <;> simp only [cond_true,cond_false] <;> omega
def QK0 (v:Job) (choice:Int):Alt × Bool:=bif ((decide (choice<0))||(decide (choice >= ((Q51 v.shape).length:Int)))) then (Alt.zero,false) else (((Q51 v.shape).getD (Int.toNat choice) Alt.zero),true)
theorem Q69 (v:Job) (choice:Int) (hs0:v.sz):GV 238 [Job.a v,I choice] (AVal.tup [Alt.a ((QK0 v choice).1),Bo ((QK0 v choice).2)]):=by
 generalize hR:QK0 v choice=R;refine gA (kp 7 [18]) Tryz.func238 ?_;obtain ⟨z3,z4,z5,z6,z7⟩:=Job.zz hs0;refine us (QJ6 v.shape szA _) ?_;refine ai (fun h1=>?_) (fun h2=>?_)
 ·exact lfA
 ·refine ai gkA ?_;exact lfA
def QM2 (s:Shape) (choice:Int) (n:Int):Bool:=bif ((decide (choice<0))||(decide (choice >= ((Q51 s).length:Int)))) then false else bif (s.kind==3) then ((decide (n >= s.min))&&(decide (n<=s.max))) else (((Q51 s).getD (Int.toNat choice) Alt.zero).nodes==n)
theorem Qn7 (s:Shape) (choice:Int) (n:Int) (hs0:s.sz):GV 226 [Shape.a s,I choice,I n] (Bo (QM2 s choice n)):=by
 generalize hR:QM2 s choice n=R;refine gA (kp 8 [17,20]) Tryz.func226 ?_;have hk0:=hs0;obtain z5:s.alts.length<=4294967296:=hs0;refine us (QJ6 s szA _) ?_;refine ai (fun h1=>?_) (fun h2=>?_)
 ·exact lfA
 ·refine ai (fun h3=>?_) (fun h4=>?_)
  ·exact lfA
  ·refine ai gkA ?_;exact lfA
def Qx6 (l:List Node) (job:Int) (state:Int):Int:=(Qa1 l (fun (y:Node)=>((y.job==job)&&(y.state==state))))
theorem Q3d (l:List Node) (job:Int) (state:Int) (hs0:l.length<=4294967296):GV 124 [nodeL l,I job,I state] (U (Qx6 l job state)):=by
 generalize hR:Qx6 l job state=R;refine gA (kp 7 []) Tryz.func124 ?_;have hk0:=hs0;obtain z7:l.length<=4294967296:=hs0;have cl1:∀ (y1:Node),AMoves Tryz.prog 184 [Node.a y1,AVal.ptr 0 0 1 0 0,AVal.ptr 1 0 1 0 0] [(0,AObj.row 3 1 [[I job]]),(0,AObj.row 3 1 [[I state]])] 2 (Bo ((fun (y:Node)=>((y.job==job)&&(y.state==state))) y1)) [(0,AObj.row 3 1 [[I job]]),(0,AObj.row 3 1 [[I state]])]:=by
  intro y1;have hR:(fun (y:Node)=>((y.job==job)&&(y.state==state))) y1=(fun (y:Node)=>((y.job==job)&&(y.state==state))) y1:=rfl;refine mo (kp 5 []) Tryz.func184 ?_;refine Qt0 (fun r:Bool=>Bo r) (fun _=>[(0,AObj.row 3 1 [[I job]]),(0,AObj.row 3 1 [[I state]])]) (leaf:=((y1.job==job)&&(y1.state==state))) (foll hR rfl) ?_;exact tt [0,1] (tO rfl (ts (l1 LowL.nil)) (tO rfl (ts (l1 LowL.nil)) .nil)) t1
 have hof1:AMoves Tryz.prog 153 [nodeL l,AVal.fn (.func 184) [] [AVal.ptr 0 0 1 0 0,AVal.ptr 1 0 1 0 0]] [(0,AObj.row 3 1 [[I job]]),(0,AObj.row 3 1 [[I state]])] 2 (U (Qa1 l (fun (y:Node)=>((y.job==job)&&(y.state==state))))) [(0,AObj.row 3 1 [[I job]]),(0,AObj.row 3 1 [[I state]])]:=by
  have hR:Qa1 l (fun (y:Node)=>((y.job==job)&&(y.state==state)))=Qa1 l (fun (y:Node)=>((y.job==job)&&(y.state==state))):=rfl;refine mo (kp 10 [12,13,14,15,16,22]) Tryz.func153 ?_;refine us (QX2 l szA _) ?_;refine ai (fun h1=>?_) (fun h2=>?_)
  ·refine Qt0 (fun r:Int=>U r) (fun r:Int=>[(0,AObj.row 3 1 [[I job]]),(0,AObj.row 3 1 [[I state]])]) (leaf:=0) (foll hR (ct h1 rfl)) ?_;exact tt [0,1] (tO rfl (ts (l1 LowL.nil)) (tO rfl (ts (l1 LowL.nil)) .nil)) t1
  ·refine Qe0 (fun (out:List Int) (i:Nat)=>Q01 (Qa3 (fun (y:Node)=>((y.job==job)&&(y.state==state))) (List.drop i l) out i)=Qa1 l (fun (y:Node)=>((y.job==job)&&(y.state==state)))∧i<=l.length∧out.length<=i) (fun out i=>l.length - i) (fun out i=>[(1,AVal.fn (.func 184) [] [AVal.ptr 0 0 1 0 0,AVal.ptr 1 0 1 0 0]),(4,U 0),(5,AVal.own 2 0 1 0 out.length),(13,nodeL l),(14,I (l.length:Int)),(15,I (i:Int))]) (fun out i=>[(0,AObj.row 3 1 [[I job]]),(0,AObj.row 3 1 [[I state]]),(0,AObj.row 3 1 (out.map (fun q_=>[I q_])))]) [] 0 ((Qx1 3 1).trans (wkA [0,1,2])) ⟨folA,by exact omA,by exact exA⟩ ?_;clear hR;rintro out i ⟨hR,hj,hx⟩;(try dsimp only at hR hj hx);refine ai (fun h3=>?_) (fun h4=>?_)
   ·have hlt:=ltA h3;rw [Qc0 Node.zero hlt] at hR;refine ai gkA ?_;refine us (mv [0,1] (cl1 (l.getD i Node.zero)) (dO (ds (l1 LowL.nil)) (dO (ds (l1 LowL.nil)) .nil)) (dl (Node.low _ _) (dp (dp .nil))) (rO (re (l1 LowL.nil)) (rO (re (l1 LowL.nil)) .nil)) rx) ?_;refine ai (fun h5=>?_) (fun h6=>?_)
    ·refine Or.inl ?_;(first|refine ⟨Qo1 8 rfl lnA apA,?_⟩|refine ⟨QI0 8 rfl apA,?_⟩);exact Q60 (out++([(i:Int)]:List Int)) (i+1) (wkA [0,1,2]) omA ⟨foll hR (congrArg (fun p:(List Int)=>Q01 p) (ct h5 rfl)),by exact omA,by exact exA⟩
    ·exact Q60 out (i+1) (wkA [0,1,2]) omA ⟨foll hR (congrArg (fun p:(List Int)=>Q01 p) (cf h6 rfl)),by exact omA,by exact exA⟩
   ·rw [Qd0 (l:=l) (j:=i) (geA h4)] at hR;replace hR:Q01 out=Qa1 l (fun (y:Node)=>((y.job==job)&&(y.state==state))):=fo2 (fun p:(List Int)=>Q01 p) (out) hR rfl;refine us (AGives.lent (Qy7 out szA []) (ev (Q90 _ _ rfl eqA lnA) .nil) (.cons lw .nil) (Qm3 rfl)) ?_;refine Qt0 (fun r:Int=>U r) (fun r:Int=>[(0,AObj.row 3 1 [[I job]]),(0,AObj.row 3 1 [[I state]])]) (leaf:=(QH0 out).1) (foll hR rfl) ?_;exact tt [0,1] (tO rfl (ts (l1 LowL.nil)) (tO rfl (ts (l1 LowL.nil)) .nil)) t1
 refine us (mv [0,1] (hof1) (dO (ds (l1 LowL.nil)) (dO (ds (l1 LowL.nil)) .nil)) (dl lw (dv (dn_fn .nil (dp (dp .nil))) .nil)) (rO (re (l1 LowL.nil)) (rO (re (l1 LowL.nil)) .nil)) rx) ?_;exact lfA
def Qu9 (l:List Node):Int:=(Qa1 l (fun (y:Node)=>((y.state != 4)&&(!y.drain))))
theorem fleet_Up_c (l:List Node) (hs0:l.length<=4294967296):GV 144 [nodeL l] (U (Qu9 l)):=by
 generalize hR:Qu9 l=R;refine gA (kp 3 []) Tryz.func144 ?_;have hk0:=hs0;obtain z7:l.length<=4294967296:=hs0;have cl1:∀ (y1:Node),AMoves Tryz.prog 204 [Node.a y1] [] 0 (Bo ((fun (y:Node)=>((y.state != 4)&&(!y.drain))) y1)) []:=by
  intro y1;have hR:(fun (y:Node)=>((y.state != 4)&&(!y.drain))) y1=(fun (y:Node)=>((y.state != 4)&&(!y.drain))) y1:=rfl;refine mo (kp 3 []) Tryz.func204 ?_;refine Qt0 (fun r:Bool=>Bo r) (fun _=>[]) (leaf:=((y1.state != 4)&&(!y1.drain))) (foll hR rfl) ?_;exact tt [] .nil t1
 have hof1:AMoves Tryz.prog 153 [nodeL l,AVal.fn (.func 204) [] []] [] 0 (U (Qa1 l (fun (y:Node)=>((y.state != 4)&&(!y.drain))))) []:=by
  have hR:Qa1 l (fun (y:Node)=>((y.state != 4)&&(!y.drain)))=Qa1 l (fun (y:Node)=>((y.state != 4)&&(!y.drain))):=rfl;refine mo (kp 10 [12,13,14,15,16,22]) Tryz.func153 ?_;refine us (QX2 l szA _) ?_;refine ai (fun h1=>?_) (fun h2=>?_)
  ·refine Qt0 (fun r:Int=>U r) (fun r:Int=>[]) (leaf:=0) (foll hR (ct h1 rfl)) ?_;exact tt [] .nil t1
  ·refine Qe0 (fun (out:List Int) (i:Nat)=>Q01 (Qa3 (fun (y:Node)=>((y.state != 4)&&(!y.drain))) (List.drop i l) out i)=Qa1 l (fun (y:Node)=>((y.state != 4)&&(!y.drain)))∧i<=l.length∧out.length<=i) (fun out i=>l.length - i) (fun out i=>[(1,AVal.fn (.func 204) [] []),(4,U 0),(5,AVal.own 0 0 1 0 out.length),(13,nodeL l),(14,I (l.length:Int)),(15,I (i:Int))]) (fun out i=>[(0,AObj.row 3 1 (out.map (fun q_=>[I q_])))]) [] 0 ((Qx1 3 1).trans (wkA [0])) ⟨folA,by exact omA,by exact exA⟩ ?_;clear hR;rintro out i ⟨hR,hj,hx⟩;(try dsimp only at hR hj hx);refine ai (fun h3=>?_) (fun h4=>?_)
   ·have hlt:=ltA h3;rw [Qc0 Node.zero hlt] at hR;refine ai gkA ?_;refine us (mv [] (cl1 (l.getD i Node.zero)) .nil (dl (Node.low _ _) .nil) .nil rx) ?_;refine ai (fun h5=>?_) (fun h6=>?_)
    ·refine Or.inl ?_;(first|refine ⟨Qo1 8 rfl lnA apA,?_⟩|refine ⟨QI0 8 rfl apA,?_⟩);exact Q60 (out++([(i:Int)]:List Int)) (i+1) (wkA [0]) omA ⟨foll hR (congrArg (fun p:(List Int)=>Q01 p) (ct h5 rfl)),by exact omA,by exact exA⟩
    ·exact Q60 out (i+1) (wkA [0]) omA ⟨foll hR (congrArg (fun p:(List Int)=>Q01 p) (cf h6 rfl)),by exact omA,by exact exA⟩
   ·rw [Qd0 (l:=l) (j:=i) (geA h4)] at hR;replace hR:Q01 out=Qa1 l (fun (y:Node)=>((y.state != 4)&&(!y.drain))):=fo2 (fun p:(List Int)=>Q01 p) (out) hR rfl;refine us (AGives.lent (Qy7 out szA []) (ev (Q90 _ _ rfl eqA lnA) .nil) (.cons lw .nil) (Qm3 rfl)) ?_;refine Qt0 (fun r:Int=>U r) (fun r:Int=>[]) (leaf:=(QH0 out).1) (foll hR rfl) ?_;exact tt [] .nil t1
 refine us (mv [] (hof1) .nil (dl lw (dv (QK6 (Low.fn _ _ _ LowL.nil LowL.nil)) .nil)) .nil rx) ?_;exact lfA
def QE4 (l:List Node):Int:=(Qa1 l (fun (y:Node)=>((y.state==0)&&(!y.drain))))
theorem fleet_Free_c (l:List Node) (hs0:l.length<=4294967296):GV 96 [nodeL l] (U (QE4 l)):=by
 generalize hR:QE4 l=R;refine gA (kp 3 []) Tryz.func96 ?_;have hk0:=hs0;obtain z7:l.length<=4294967296:=hs0;have cl1:∀ (y1:Node),AMoves Tryz.prog 154 [Node.a y1] [] 0 (Bo ((fun (y:Node)=>((y.state==0)&&(!y.drain))) y1)) []:=by
  intro y1;have hR:(fun (y:Node)=>((y.state==0)&&(!y.drain))) y1=(fun (y:Node)=>((y.state==0)&&(!y.drain))) y1:=rfl;refine mo (kp 3 []) Tryz.func154 ?_;refine Qt0 (fun r:Bool=>Bo r) (fun _=>[]) (leaf:=((y1.state==0)&&(!y1.drain))) (foll hR rfl) ?_;exact tt [] .nil t1
 have hof1:AMoves Tryz.prog 153 [nodeL l,AVal.fn (.func 154) [] []] [] 0 (U (Qa1 l (fun (y:Node)=>((y.state==0)&&(!y.drain))))) []:=by
  have hR:Qa1 l (fun (y:Node)=>((y.state==0)&&(!y.drain)))=Qa1 l (fun (y:Node)=>((y.state==0)&&(!y.drain))):=rfl;refine mo (kp 10 [12,13,14,15,16,22]) Tryz.func153 ?_;refine us (QX2 l szA _) ?_;refine ai (fun h1=>?_) (fun h2=>?_)
  ·refine Qt0 (fun r:Int=>U r) (fun r:Int=>[]) (leaf:=0) (foll hR (ct h1 rfl)) ?_;exact tt [] .nil t1
  ·refine Qe0 (fun (out:List Int) (i:Nat)=>Q01 (Qa3 (fun (y:Node)=>((y.state==0)&&(!y.drain))) (List.drop i l) out i)=Qa1 l (fun (y:Node)=>((y.state==0)&&(!y.drain)))∧i<=l.length∧out.length<=i) (fun out i=>l.length - i) (fun out i=>[(1,AVal.fn (.func 154) [] []),(4,U 0),(5,AVal.own 0 0 1 0 out.length),(13,nodeL l),(14,I (l.length:Int)),(15,I (i:Int))]) (fun out i=>[(0,AObj.row 3 1 (out.map (fun q_=>[I q_])))]) [] 0 ((Qx1 3 1).trans (wkA [0])) ⟨folA,by exact omA,by exact exA⟩ ?_;clear hR;rintro out i ⟨hR,hj,hx⟩;(try dsimp only at hR hj hx);refine ai (fun h3=>?_) (fun h4=>?_)
   ·have hlt:=ltA h3;rw [Qc0 Node.zero hlt] at hR;refine ai gkA ?_;refine us (mv [] (cl1 (l.getD i Node.zero)) .nil (dl (Node.low _ _) .nil) .nil rx) ?_;refine ai (fun h5=>?_) (fun h6=>?_)
    ·refine Or.inl ?_;(first|refine ⟨Qo1 8 rfl lnA apA,?_⟩|refine ⟨QI0 8 rfl apA,?_⟩);exact Q60 (out++([(i:Int)]:List Int)) (i+1) (wkA [0]) omA ⟨foll hR (congrArg (fun p:(List Int)=>Q01 p) (ct h5 rfl)),by exact omA,by exact exA⟩
    ·exact Q60 out (i+1) (wkA [0]) omA ⟨foll hR (congrArg (fun p:(List Int)=>Q01 p) (cf h6 rfl)),by exact omA,by exact exA⟩
   ·rw [Qd0 (l:=l) (j:=i) (geA h4)] at hR;replace hR:Q01 out=Qa1 l (fun (y:Node)=>((y.state==0)&&(!y.drain))):=fo2 (fun p:(List Int)=>Q01 p) (out) hR rfl;refine us (AGives.lent (Qy7 out szA []) (ev (Q90 _ _ rfl eqA lnA) .nil) (.cons lw .nil) (Qm3 rfl)) ?_;refine Qt0 (fun r:Int=>U r) (fun r:Int=>[]) (leaf:=(QH0 out).1) (foll hR rfl) ?_;exact tt [] .nil t1
 refine us (mv [] (hof1) .nil (dl lw (dv (QK6 (Low.fn _ _ _ LowL.nil LowL.nil)) .nil)) .nil rx) ?_;exact lfA
def QE2 (l:List Node):List Int->List Note->Nat->(List Note)
 | [],out,_=>out
 | x_ :: r,out,i=>bif (Q84 l x_).2 then QE2 l r (out++([(Q84 l x_).1]:List Note)) (i+1) else QE2 l r out (i+1)
def QJ3 (out:List Note):(List Note):=out
def Q35 (l:List Node) (nodes:List Int):(List Note):=QJ3 (QE2 l nodes [] 0)
theorem alloc_Notes_c (l:List Node) (nodes:List Int) (hs0:l.length<=4294967296) (hs1:nodes.length<=4294967296):GV 158 [nodeL l,ints nodes] (noteL (Q35 l nodes)):=by
 generalize hR:Q35 l nodes=R;refine gA (kp 10 [10,11,12,13,22]) Tryz.func158 ?_;have hk0:=hs0;obtain z5:l.length<=4294967296:=hs0;have hk1:=hs1;obtain z6:nodes.length<=4294967296:=hs1;refine Qe0 (fun (out:List Note) (i:Nat)=>QJ3 (QE2 l (List.drop i nodes) out i)=R∧i<=nodes.length∧out.length<=i) (fun out i=>nodes.length - i) (fun out i=>[(0,nodeL l),(4,AVal.lit (.slice none 0 0)),(5,AVal.own 0 0 4 0 out.length),(10,ints nodes),(11,I (nodes.length:Int)),(12,I (i:Int))]) (fun out i=>[(0,AObj.row 41 4 (out.map Note.cells))]) [] 0 ((Qx1 41 4).trans (wkA [0])) ⟨foll hR rfl,by exact omA,by exact exA⟩ ?_;clear hR;rintro out i ⟨hR,hj,hx⟩;(try dsimp only at hR hj hx);refine ai (fun h1=>?_) (fun h2=>?_)
 ·have hlt:=ltA h1;rw [Qc0 0 hlt] at hR;refine ai gkA ?_;refine us (fleet_Note_c l (nodes.getD i 0) szA _) ?_;refine ai (fun h3=>?_) (fun h4=>?_)
  ·refine Or.inl ?_;(first|refine ⟨Qo1 32 rfl lnA apA,?_⟩|refine ⟨QI0 32 rfl apA,?_⟩);exact Q60 (out++([(Q84 l (nodes.getD i 0)).1]:List Note)) (i+1) (wkA [0]) omA ⟨foll hR (congrArg (fun p:(List Note)=>QJ3 p) (ct h3 rfl)),by exact omA,by exact exA⟩
  ·exact Q60 out (i+1) (wkA [0]) omA ⟨foll hR (congrArg (fun p:(List Note)=>QJ3 p) (cf h4 rfl)),by exact omA,by exact exA⟩
 ·rw [Qd0 (l:=nodes) (j:=i) (geA h2)] at hR;replace hR:QJ3 out=R:=fo2 (fun p:(List Note)=>QJ3 p) (out) hR rfl;obtain rfl:=foll hR rfl;exact Q80 lw (Q90 Note.zero _ rfl eqA lnA)
def Qd3 (l:List Int) (at_:Int) (i:Bool):Token × Int × Int × Int:=bif i then ((⟨5,(runesBytes (List.drop (Int.toNat at_) (List.take (Int.toNat (w64 (at_+1))) l))),0,at_⟩:Token),(w64 (at_+1)),0,0) else (Token.zero,0,at_,50)
def Qd1 (l:List Int) (at_:Int):Token × Int × Int × Int:=bif ((Qi0 (l.getD (Int.toNat at_) 0))==0) then (Token.zero,0,at_,40) else bif ((Qi0 (l.getD (Int.toNat at_) 0))==2) then ((⟨1,(Qy2 (runesBytes (List.drop (Int.toNat at_) (List.take (Int.toNat (Qu1 l at_)) l)))),0,at_⟩:Token),(Qu1 l at_),0,0) else bif ((Qi0 (l.getD (Int.toNat at_) 0))==3) then bif (Qzb (List.drop (Int.toNat at_) (List.take (Int.toNat (Qu1 l at_)) l))) then ((⟨3,(runesBytes (List.drop (Int.toNat at_) (List.take (Int.toNat (Qu1 l at_)) l))),0,at_⟩:Token),(Qu1 l at_),0,0) else bif (decide ((QE8 (List.drop (Int.toNat at_) (List.take (Int.toNat (Qu1 l at_)) l)))<0)) then (Token.zero,0,at_,50) else ((⟨2,⟨#[]⟩,(QE8 (List.drop (Int.toNat at_) (List.take (Int.toNat (Qu1 l at_)) l))),at_⟩:Token),(Qu1 l at_),0,0) else bif ((l.getD (Int.toNat at_) 0)==34) then ((Qi3 l at_).1,(Qi3 l at_).2.1,(Qi3 l at_).2.2.1,(Qi3 l at_).2.2.2) else bif ((l.getD (Int.toNat at_) 0)==61) then Qd3 l at_ ((l.getD (Int.toNat at_) 0)==61) else bif ((l.getD (Int.toNat at_) 0)==58) then Qd3 l at_ ((l.getD (Int.toNat at_) 0)==58) else bif ((l.getD (Int.toNat at_) 0)==44) then Qd3 l at_ ((l.getD (Int.toNat at_) 0)==44) else Qd3 l at_ ((l.getD (Int.toNat at_) 0)==45)
theorem ref05_one_c (l:List Int) (at_:Int) (hs0:l.length<=4294967296) (hp0:0<=at_∧at_<(l.length:Int)∧l.length<=400):GV 312 [runes l,I at_] (AVal.tup [Token.a ((Qd1 l at_).1),I ((Qd1 l at_).2.1),I ((Qd1 l at_).2.2.1),I ((Qd1 l at_).2.2.2)]):=by
 generalize hR:Qd1 l at_=R;refine gA (kj [1000028] 11 [17,18,22,37,46,65,73,74,83]) Tryz.func312 ?_;have hk0:=hs0;obtain z21:l.length<=4294967296:=hs0;have hw0:w64 (at_+1)=at_+1:=wr (by omega);have hf0:=QJd l at_ hp0.1 hp0.2.1 hp0.2.2;refine ai gkA ?_;refine us (Qq4 (l.getD (Int.toNat at_) 0) _) ?_;refine ai (fun h1=>?_) (fun h2=>?_)
 ·exact lfA
 ·refine ai (fun h3=>?_) (fun h4=>?_)
  ·refine us (Qvf l at_ szA ckA _) ?_;refine ai gkA ?_;(first|refine ⟨(List.drop (Int.toNat at_) (List.take (Int.toNat (Qu1 l at_)) l)),by exact cvA,?_⟩|refine ⟨_,fun _=>⟨(List.drop (Int.toNat at_) (List.take (Int.toNat (Qu1 l at_)) l)),by exact cvA,rfl,rfl⟩,?_⟩|refine ⟨_,rfl,⟨(List.drop (Int.toNat at_) (List.take (Int.toNat (Qu1 l at_)) l)),by exact cvA,Sub.refl _,rfl⟩,?_⟩);refine us (ref04_Lower_c (runesBytes (List.drop (Int.toNat at_) (List.take (Int.toNat (Qu1 l at_)) l))) szA _) ?_;exact lfA
  ·refine ai (fun h5=>?_) (fun h6=>?_)
   ·refine us (Qvf l at_ szA ckA _) ?_;refine ai gkA ?_;refine us (AGives.as2 (ref05_plain_c (List.drop (Int.toNat at_) (List.take (Int.toNat (Qu1 l at_)) l)) szA _) (av (as_cut l (Int.toNat at_) (Int.toNat (Qu1 l at_)) leA ckA) .nil)) ?_;refine ai (fun h7=>?_) (fun h8=>?_)
    ·refine ai gkA ?_;(first|refine ⟨(List.drop (Int.toNat at_) (List.take (Int.toNat (Qu1 l at_)) l)),by exact cvA,?_⟩|refine ⟨_,fun _=>⟨(List.drop (Int.toNat at_) (List.take (Int.toNat (Qu1 l at_)) l)),by exact cvA,rfl,rfl⟩,?_⟩|refine ⟨_,rfl,⟨(List.drop (Int.toNat at_) (List.take (Int.toNat (Qu1 l at_)) l)),by exact cvA,Sub.refl _,rfl⟩,?_⟩);exact lfA
    ·refine ai gkA ?_;refine us (AGives.as2 (ref05_Number_c (List.drop (Int.toNat at_) (List.take (Int.toNat (Qu1 l at_)) l)) szA _) (av (as_cut l (Int.toNat at_) (Int.toNat (Qu1 l at_)) leA ckA) .nil)) ?_;refine ai (fun h9=>?_) (fun h10=>?_)
     ·have qh9:=of_decide_eq_true h9;exact lfA
     ·have qh10:=of_decide_eq_false h10;exact lfA
   ·refine ai gkA ?_;refine ai (fun h11=>?_) (fun h12=>?_)
    ·refine us (ref05_text_c l at_ szA ckA _) ?_;exact lfA
    ·refine Qb1 (fun (i:Bool)=>Qd3 l at_ i=R) (fun i=>[(0,runes l),(1,I at_),(4,AVal.ptr 0 0 4 0 0),(5,I 0),(6,I 0),(7,I 0),(8,AVal.ptr 1 0 4 0 0),(83,Bo i)]) (fun i=>[(0,AObj.row 305 4 [[I 0,Sg ⟨#[]⟩,I 0,I 0]]),(0,AObj.row 305 4 [[I 0,Sg ⟨#[]⟩,I 0,I at_]])]) ?_ ?_
     ·clear hR;rintro i hR;(try dsimp only at hR);refine ai (fun h13=>?_) (fun h14=>?_)
      ·refine ai gkA ?_;(first|refine ⟨(List.drop (Int.toNat at_) (List.take (Int.toNat (w64 (at_+1))) l)),by exact cvA,?_⟩|refine ⟨_,fun _=>⟨(List.drop (Int.toNat at_) (List.take (Int.toNat (w64 (at_+1))) l)),by exact cvA,rfl,rfl⟩,?_⟩|refine ⟨_,rfl,⟨(List.drop (Int.toNat at_) (List.take (Int.toNat (w64 (at_+1))) l)),by exact cvA,Sub.refl _,rfl⟩,?_⟩);exact lfA
      ·exact lfA
     ·refine ai (fun h15=>?_) (fun h16=>?_)
      ·exact Q70 ((l.getD (Int.toNat at_) 0)==61) (wkA [0,1]) (foll hR (cf h2 (cf h4 (cf h6 (cf h12 (ct h15 rfl))))))
      ·refine ai (fun h17=>?_) (fun h18=>?_)
       ·exact Q70 ((l.getD (Int.toNat at_) 0)==58) (wkA [0,1]) (foll hR (cf h2 (cf h4 (cf h6 (cf h12 (cf h16 (ct h17 rfl)))))))
       ·refine ai (fun h19=>?_) (fun h20=>?_)
        ·exact Q70 ((l.getD (Int.toNat at_) 0)==44) (wkA [0,1]) (foll hR (cf h2 (cf h4 (cf h6 (cf h12 (cf h16 (cf h18 (ct h19 rfl))))))))
        ·exact Q70 ((l.getD (Int.toNat at_) 0)==45) (wkA [0,1]) (foll hR (cf h2 (cf h4 (cf h6 (cf h12 (cf h16 (cf h18 (cf h20 rfl))))))))
theorem Qxf (l:List Int) (at_:Int) (b:Bool) (h0:0<=at_) (h1:at_<(l.length:Int)) (h:l.length<=400):((Qd3 l at_ b).2.2.2 != 0)=false->at_<(Qd3 l at_ b).2.1∧(Qd3 l at_ b).2.1<=(l.length:Int):=by
 have hw:w64 (at_+1)=at_+1:=wr (by omega)
 cases b with
 | false=>intro h;cases h
 | true=>intro _;simp only [Qd3,cond_true];rw [hw];omega
theorem ref05_one_lt (l:List Int) (at_:Int) (h0:0<=at_) (h1:at_<(l.length:Int)) (h:l.length<=400):((Qd1 l at_).2.2.2 != 0)=false->at_<(Qd1 l at_).2.1∧(Qd1 l at_).2.1<=(l.length:Int):=by
 have he:=QJd l at_ h0 h1 h
 have hk:=fun b=>Qxf l at_ b h0 h1 h
 have ht:=ref05_text_lt l at_ h0 h1 h
 unfold Qd1
 repeat' first
  | exact hk _
  | exact ht
  | exact fun _=>he
  | (intro h;cases h;done)
  | (rw [Bool.cond_eq_ite];split)
def Qy5 (s:State) (r_:Resize) (set_:Int) (act:Int):State × (List Note) × Int:=bif ((QS0 s.nodes set_ act 0 s.now).2.2 != 0) then (State.zero,[],(QS0 s.nodes set_ act 0 s.now).2.2) else ({ s with nodes:=(QS0 s.nodes set_ act 0 s.now).1,resizes:=(Qs1 s.resizes r_.job) },(QS0 s.nodes set_ act 0 s.now).2.1,0)
def QQ2 (s:State) (r_:Resize):State × (List Note) × Int:=bif r_.grow then Qy5 s r_ r_.nodes 7 else Qy5 s r_ (Qi5 r_.nodes r_.said) 6
theorem QTd (s:State) (r_:Resize) (hs0:s.sz):GV 63 [State.a s,Resize.a r_] (AVal.tup [State.a ((QQ2 s r_).1),noteL ((QQ2 s r_).2.1),I ((QQ2 s r_).2.2)]):=by
 generalize hR:QQ2 s r_=R;refine gA (kj [1000004] 12 [18,33]) Tryz.func63 ?_;have hk0:=hs0;obtain ⟨z5,z6,z7,z8,z9,z10,z11⟩:=hs0;refine us (Qxc r_.nodes r_.said _) ?_;refine Qaf (fun (set_:Int) (act:Int)=>Qy5 s r_ set_ act=R) (fun set_ act=>[(2,AVal.ptr 0 0 8 0 0),(3,AVal.ptr 1 0 5 0 0),(4,AVal.ptr 2 0 8 0 0),(5,AVal.lit (.slice none 0 0)),(6,I 0),(7,U set_),(8,I act)]) (fun set_ act=>[(0,AObj.row 28 8 [[I s.now,nodeL s.nodes,jobL s.jobs,Qp1 s.resizes,bookL s.books,QD2 s.ledger,I s.nextJob,I s.nextBook]]),(0,AObj.row 49 5 [[I r_.job,Bo r_.grow,U r_.nodes,U r_.said,I r_.since]]),(0,AObj.row 28 8 [[I 0,AVal.lit (.slice none 0 0),AVal.lit (.slice none 0 0),AVal.lit (.slice none 0 0),AVal.lit (.slice none 0 0),AVal.lit (.slice none 0 0),I 0,I 0]])]) ?_ ?_
 ·clear hR;rintro set_ act hR;(try dsimp only at hR);refine us (Qva s.nodes set_ act 0 s.now szA _) ?_;refine ai (fun h1=>?_) (fun h2=>?_)
  ·exact lfA
  ·refine us (Qxa s.resizes r_.job szA _) ?_;exact lfA
 ·refine ai (fun h3=>?_) (fun h4=>?_)
  ·exact QRa r_.nodes 7 (wkA [0,1,2]) (foll hR (ct h3 rfl))
  ·exact QRa (Qi5 r_.nodes r_.said) 6 (wkA [0,1,2]) (foll hR (cf h4 rfl))
end Go.Proofs.YtackngeeehiegaaGreatDoor
