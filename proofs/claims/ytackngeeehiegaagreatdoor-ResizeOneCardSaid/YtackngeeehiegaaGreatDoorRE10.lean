/-
  What the last text of this claim leans on: an evaluator over the code, contracts of functions, plain laws. Conditions stand in each statement.
-/
import Derived.Test.YtackngeeehiegaaGreatDoorRE9
import Derived.Test.YtackngeeehiegaaGreatDoorProg
namespace Go.Proofs.YtackngeeehiegaaGreatDoor
set_option linter.unusedSimpArgs false
set_option linter.unusedVariables false
open Go.Fw
set_option maxRecDepth 20000
set_option maxHeartbeats 4000000
attribute [local irreducible] ACalls AMoves
def QH4 (s:State):Bool:=(((((Qdb s.nodes)&&(Qeb s.jobs))&&(Qgb s.books))&&(Qfb s.ledger))&&(decide ((s.resizes.length:Int)<=100)))
theorem Qfe (s:State) (hs0:s.szM):GV 8 [State.a s] (Bo (QH4 s)):=by
 generalize hR:QH4 s=R;refine gA (kp 3 []) Tryz.func8 ?_;have hk0:=hs0;obtain ⟨z1,z2,z3,z4,z5,z6,z7⟩:=hs0;refine us (law12_Few_c s.nodes _) ?_;(first|apply u2|apply u3|apply u4|apply us);exact law15_Few_c s.jobs szA _;(first|apply u2|apply u3|apply u4|apply us);exact law19_Few_c s.books _;(first|apply u2|apply u3|apply u4|apply us);exact law17_Few_c s.ledger szA _;exact lfA
theorem u3g {P:Program} {f:FuncId} {args:List AVal} {objs:Objs} {r:AVal} {g:Bool} {K:AVal->Objs->Prop} (h:g=true->ACalls P f args objs fun a b=>a=r∧b=objs) (k:K r objs):∃ r' o',(g=true->ACalls P f args objs (fun a b=>a=r'∧b=o'))∧(g=false->o'=objs)∧K r' o':=⟨r,objs,h,fun _=>rfl,k⟩
theorem QCc:∀ (l:List Usage) (i:Nat),Qv6 l i=true -> ∀ y ∈ l,y.sz
 | [],_,_,y,hy=>nomatch hy
 | x :: r,i,h,y,hy=>by
  rw [Qv6] at h
  cases hc:((decide ((ByteArray.size x.user:Int) > 1000))||(decide ((ByteArray.size x.account:Int) > 1000))) with
  | true=>rw [hc] at h;cases h
  | false =>
   rw [hc] at h
   rcases List.mem_cons.1 hy with rfl|hy
   ·simp only [Bool.or_eq_false_iff,decide_eq_false_iff_not] at hc
    exact ⟨by omega,by omega⟩
   ·exact QCc r (i+1) h y hy
theorem law14_Few_sz {j:Job} (h:Q48 j=true):j.sz:=by
 simp only [Q48,Qcb,Bool.and_eq_true,decide_eq_true_eq] at h
 exact ⟨by omega,by omega,by omega,by show j.shape.alts.length<=_;omega,by omega⟩
theorem QBc:∀ (l:List Job) (i:Nat),Qu6 l i=true -> ∀ y ∈ l,y.sz
 | [],_,_,y,hy=>nomatch hy
 | x :: r,i,h,y,hy=>by
  rw [Qu6] at h
  cases hc:Q48 x with
  | false=>rw [hc] at h;cases h
  | true =>
   rw [hc] at h
   rcases List.mem_cons.1 hy with rfl|hy
   ·exact law14_Few_sz hc
   ·exact QBc r (i+1) h y hy
theorem Qw6 {s:State} (h:QH4 s=true):s.sz:=by
 simp only [QH4,Qdb,Qeb,Qgb,Qfb,Bool.and_eq_true,decide_eq_true_eq] at h
 obtain ⟨⟨⟨⟨h1,h2⟩,h3⟩,h4⟩,h5⟩:=h
 cases hj:decide ((s.jobs.length:Int) > 60) with
 | true=>rw [hj] at h2;cases h2
 | false =>
  cases hl:decide ((s.ledger.length:Int) > 300) with
  | true=>rw [hl] at h4;cases h4
  | false =>
   rw [hj] at h2
   rw [hl] at h4
   have qj:=of_decide_eq_false hj
   have ql:=of_decide_eq_false hl
   exact ⟨by omega,by omega,QBc _ _ h2,by omega,by omega,by omega,QCc _ _ h4⟩
def Q60 (l:List Node):Int:=bif (((decide ((l.length:Int)<1))||(decide ((l.length:Int) > 48)))||(QW0 l (fun (y:Node)=>(!(QO0 y))))) then 120 else 0
theorem Qw2 (l:List Node) (hs0:l.length<=4294967296):GV 94 [nodeL l] (I (Q60 l)):=by
 generalize hR:Q60 l=R;refine gA (kp 3 [14]) Tryz.func94 ?_;have hk0:=hs0;obtain z7:l.length<=4294967296:=hs0;have cl1:∀ (y1:Node),AMoves Tryz.prog 151 [Node.a y1] [] 0 (Bo ((fun (y:Node)=>(!(QO0 y))) y1)) []:=by
  intro y1;have hR:(fun (y:Node)=>(!(QO0 y))) y1=(fun (y:Node)=>(!(QO0 y))) y1:=rfl;refine mo (kp 3 []) Tryz.func151 ?_;refine us (fleet_fine_c y1 _) ?_;refine Qi0 (fun r:Bool=>Bo r) (fun _=>[]) (leaf:=(!(QO0 y1))) (foll hR rfl) ?_;exact tt [] .nil t1
 have hof1:AMoves Tryz.prog 150 [nodeL l,AVal.fn (.func 151) [] []] [] 0 (Bo (QW0 l (fun (y:Node)=>(!(QO0 y))))) []:=by
  have hR:QW0 l (fun (y:Node)=>(!(QO0 y)))=QW0 l (fun (y:Node)=>(!(QO0 y))):=rfl;refine mo (kp 5 []) Tryz.func150 ?_;have hof2:AMoves Tryz.prog 209 [nodeL l,AVal.fn (.func 151) [] []] [] 0 (I (Q12 l (fun (y:Node)=>(!(QO0 y))))) []:=by
   have hR:Q12 l (fun (y:Node)=>(!(QO0 y)))=Q12 l (fun (y:Node)=>(!(QO0 y))):=rfl;refine mo (kp 6 [7,8,9,16]) Tryz.func209 ?_;refine Qv0 (fun (i:Nat)=>Qx3 (fun (y:Node)=>(!(QO0 y))) (List.drop i l) i=Q12 l (fun (y:Node)=>(!(QO0 y)))∧i<=l.length) (fun i=>l.length - i) (fun i=>[(0,nodeL l),(1,AVal.fn (.func 151) [] []),(4,I 0),(7,I (l.length:Int)),(8,I (i:Int))]) (fun i=>[]) 0 (wkA []) ⟨foll hR rfl,by exact omA⟩ ?_;clear hR;rintro i ⟨hR,hj⟩;(try dsimp only at hR hj);refine ai (fun h1=>?_) (fun h2=>?_)
   ·have hlt:=ltA h1;rw [Qr0 Node.zero hlt] at hR;refine ai gkA ?_;refine us (mv [] (cl1 (l.getD i Node.zero)) .nil (dl (Node.low _ _) .nil) .nil rx) ?_;refine ai (fun h3=>?_) (fun h4=>?_)
    ·refine Qi0 (fun r:Int=>I r) (fun r:Int=>[]) (leaf:=(i:Int)) (foll hR (ct h3 rfl)) ?_;exact tt [] .nil t1
    ·exact Qy0 (i+1) (wkA []) omA ⟨folA,by exact omA⟩
   ·rw [Qs0 (l:=l) (j:=i) (geA h2)] at hR;refine Qi0 (fun r:Int=>I r) (fun r:Int=>[]) (leaf:=(-1)) (foll hR rfl) ?_;exact tt [] .nil t1
  refine us (mv [] (hof2) .nil (dl lw (dv (QP5 (Low.fn _ _ _ LowL.nil LowL.nil)) .nil)) .nil rx) ?_;refine Qi0 (fun r:Bool=>Bo r) (fun r:Bool=>[]) (leaf:=(decide ((Q12 l (fun (y:Node)=>(!(QO0 y)))) >= 0))) (foll hR rfl) ?_;exact tt [] .nil t1
 (first|apply u2|apply u3|apply u4|apply us);exact mv [] (hof1) .nil (dl lw (dv (QP5 (Low.fn _ _ _ LowL.nil LowL.nil)) .nil)) .nil rx;refine ai (fun h5=>?_) (fun h6=>?_)
 ·exact lfA
 ·exact lfA
def QP1 (ok:Bool):Int:=bif (!ok) then 70 else 0
def QF1 (s:Shape):Int:=bif (s.kind==1) then QP1 (((((s.min==0)&&(s.max==0))&&(s.wall==0))&&((s.alts.length:Int)==1))&&(Q61 (s.alts.getD 0 Alt.zero))) else bif (s.kind==2) then QP1 (((((((s.min==0)&&(s.max==0))&&(s.wall==0))&&(decide ((s.alts.length:Int) >= 1)))&&(decide ((s.alts.length:Int)<=6)))&&(Qn4 s.alts))&&(!(QR0 s.alts (fun (y:Alt)=>(!(Q61 y)))))) else bif (s.kind==3) then QP1 (((((s.alts.length:Int)==0)&&(decide (s.min<=s.max)))&&(Q61 (⟨s.min,s.wall⟩:Alt)))&&(decide (s.max<=48))) else QP1 false
theorem QEb (s:Shape) (hs0:s.sz):GV 199 [Shape.a s] (I (QF1 s)):=by
 generalize hR:QF1 s=R;refine gA (kj [1000011] 6 [23,24,38,60,85]) Tryz.func199 ?_;have hk0:=hs0;obtain z13:s.alts.length<=4294967296:=hs0;refine QS1 (fun (ok:Bool)=>QP1 ok=R) (fun ok=>[(2,I 0),(5,Bo ok)]) (fun ok=>[]) ?_ ?_
 ·clear hR;rintro ok hR;(try dsimp only at hR);refine ai (fun h1=>?_) (fun h2=>?_)
  ·exact lfA
  ·exact lfA
 ·refine ai (fun h3=>?_) (fun h4=>?_)
  ·refine ai gkA ?_;(first|apply u2|apply u3|apply u4|apply us);exact Qs9 (s.alts.getD 0 Alt.zero) _;exact Qo0 (((((s.min==0)&&(s.max==0))&&(s.wall==0))&&((s.alts.length:Int)==1))&&(Q61 (s.alts.getD 0 Alt.zero))) (wkA []) (foll hR (ct h3 rfl))
  ·refine ai (fun h5=>?_) (fun h6=>?_)
   ·(first|apply u2|apply u3|apply u4|apply us);exact shape_apart_c s.alts szA _;have cl1:∀ (y1:Alt),AMoves Tryz.prog 242 [Alt.a y1] [] 0 (Bo ((fun (y:Alt)=>(!(Q61 y))) y1)) []:=by
     intro y1;have hR:(fun (y:Alt)=>(!(Q61 y))) y1=(fun (y:Alt)=>(!(Q61 y))) y1:=rfl;refine mo (kp 3 []) Tryz.func242 ?_;refine us (Qs9 y1 _) ?_;refine Qi0 (fun r:Bool=>Bo r) (fun _=>[]) (leaf:=(!(Q61 y1))) (foll hR rfl) ?_;exact tt [] .nil t1
    have hof1:AMoves Tryz.prog 241 [altL s.alts,AVal.fn (.func 242) [] []] [] 0 (Bo (QR0 s.alts (fun (y:Alt)=>(!(Q61 y))))) []:=by
     have hR:QR0 s.alts (fun (y:Alt)=>(!(Q61 y)))=QR0 s.alts (fun (y:Alt)=>(!(Q61 y))):=rfl;refine mo (kp 5 []) Tryz.func241 ?_;have hof2:AMoves Tryz.prog 273 [altL s.alts,AVal.fn (.func 242) [] []] [] 0 (I (Q01 s.alts (fun (y:Alt)=>(!(Q61 y))))) []:=by
      have hR:Q01 s.alts (fun (y:Alt)=>(!(Q61 y)))=Q01 s.alts (fun (y:Alt)=>(!(Q61 y))):=rfl;refine mo (kp 6 [7,8,9,16]) Tryz.func273 ?_;refine Qv0 (fun (i:Nat)=>QC2 (fun (y:Alt)=>(!(Q61 y))) (List.drop i s.alts) i=Q01 s.alts (fun (y:Alt)=>(!(Q61 y)))∧i<=s.alts.length) (fun i=>s.alts.length - i) (fun i=>[(0,altL s.alts),(1,AVal.fn (.func 242) [] []),(4,I 0),(7,I (s.alts.length:Int)),(8,I (i:Int))]) (fun i=>[]) 0 (wkA []) ⟨foll hR rfl,by exact omA⟩ ?_;clear hR;rintro i ⟨hR,hj⟩;(try dsimp only at hR hj);refine ai (fun h7=>?_) (fun h8=>?_)
      ·have hlt:=ltA h7;rw [Qr0 Alt.zero hlt] at hR;refine ai gkA ?_;refine us (mv [] (cl1 (s.alts.getD i Alt.zero)) .nil (dl (Alt.low _ _) .nil) .nil rx) ?_;refine ai (fun h9=>?_) (fun h10=>?_)
       ·refine Qi0 (fun r:Int=>I r) (fun r:Int=>[]) (leaf:=(i:Int)) (foll hR (ct h9 rfl)) ?_;exact tt [] .nil t1
       ·exact Qy0 (i+1) (wkA []) omA ⟨folA,by exact omA⟩
      ·rw [Qs0 (l:=s.alts) (j:=i) (geA h8)] at hR;refine Qi0 (fun r:Int=>I r) (fun r:Int=>[]) (leaf:=(-1)) (foll hR rfl) ?_;exact tt [] .nil t1
     refine us (mv [] (hof2) .nil (dl lw (dv (QP5 (Low.fn _ _ _ LowL.nil LowL.nil)) .nil)) .nil rx) ?_;refine Qi0 (fun r:Bool=>Bo r) (fun r:Bool=>[]) (leaf:=(decide ((Q01 s.alts (fun (y:Alt)=>(!(Q61 y)))) >= 0))) (foll hR rfl) ?_;exact tt [] .nil t1
    (first|apply u2|apply u3|apply u4|apply us);exact mv [] (hof1) .nil (dl lw (dv (QP5 (Low.fn _ _ _ LowL.nil LowL.nil)) .nil)) .nil rx;exact Qo0 (((((((s.min==0)&&(s.max==0))&&(s.wall==0))&&(decide ((s.alts.length:Int) >= 1)))&&(decide ((s.alts.length:Int)<=6)))&&(Qn4 s.alts))&&(!(QR0 s.alts (fun (y:Alt)=>(!(Q61 y)))))) (wkA []) (foll hR (cf h4 (ct h5 rfl)))
   ·refine ai (fun h11=>?_) (fun h12=>?_)
    ·(first|apply u2|apply u3|apply u4|apply us);exact Qs9 (⟨s.min,s.wall⟩:Alt) _;exact Qo0 (((((s.alts.length:Int)==0)&&(decide (s.min<=s.max)))&&(Q61 (⟨s.min,s.wall⟩:Alt)))&&(decide (s.max<=48))) (wkA []) (foll hR (cf h4 (cf h6 (ct h11 rfl))))
    ·exact Qo0 false (wkA []) (foll hR (cf h4 (cf h6 (cf h12 rfl))))
def Qp1 (r_:LexReader):Token × LexReader:=bif (!(Q27 ((Q20 r_ (fun (y:Int)=>(((decide (y >= 48))&&(decide (y<=57)))||((decide (y >= 97))&&(decide (y<=122)))))).1))) then ((⟨3,(Q20 r_ (fun (y:Int)=>(((decide (y >= 48))&&(decide (y<=57)))||((decide (y >= 97))&&(decide (y<=122)))))).1,0,0⟩:Token),(Q20 r_ (fun (y:Int)=>(((decide (y >= 48))&&(decide (y<=57)))||((decide (y >= 97))&&(decide (y<=122)))))).2) else bif (!(QT5 ((Q20 r_ (fun (y:Int)=>(((decide (y >= 48))&&(decide (y<=57)))||((decide (y >= 97))&&(decide (y<=122)))))).1)).2) then ((⟨2,⟨#[]⟩,(QT5 ((Q20 r_ (fun (y:Int)=>(((decide (y >= 48))&&(decide (y<=57)))||((decide (y >= 97))&&(decide (y<=122)))))).1)).1,0⟩:Token),(QS0 ((Q20 r_ (fun (y:Int)=>(((decide (y >= 48))&&(decide (y<=57)))||((decide (y >= 97))&&(decide (y<=122)))))).2) r_.at_ 50)) else ((⟨2,⟨#[]⟩,(QT5 ((Q20 r_ (fun (y:Int)=>(((decide (y >= 48))&&(decide (y<=57)))||((decide (y >= 97))&&(decide (y<=122)))))).1)).1,0⟩:Token),(Q20 r_ (fun (y:Int)=>(((decide (y >= 48))&&(decide (y<=57)))||((decide (y >= 97))&&(decide (y<=122)))))).2)
theorem Qkb (r_:LexReader) (hs0:r_.sz) (hp0:0<=r_.at_∧r_.at_<=(r_.line.length:Int)∧r_.line.length<=400):AMoves Tryz.prog 317 [AVal.ptr 0 0 4 0 0] [(0,AObj.row 321 4 [[runes r_.line,I r_.at_,I r_.bad,I r_.error]])] 1 (Token.a ((Qp1 r_).1)) [(0,AObj.row 321 4 [[runes ((Qp1 r_).2.line),I ((Qp1 r_).2.at_),I ((Qp1 r_).2.bad),I ((Qp1 r_).2.error)]])]:=by
 generalize hR:Qp1 r_=R;refine mo (kp 7 [15,24]) Tryz.func317 ?_;have hk0:=hs0;obtain z7:r_.line.length<=4294967296:=hs0;have cl1:∀ (y1:Int),AMoves Tryz.prog 332 [J y1] [] 0 (Bo ((fun (y:Int)=>(((decide (y >= 48))&&(decide (y<=57)))||((decide (y >= 97))&&(decide (y<=122))))) y1)) []:=by
  intro y1;have hR:(fun (y:Int)=>(((decide (y >= 48))&&(decide (y<=57)))||((decide (y >= 97))&&(decide (y<=122))))) y1=(fun (y:Int)=>(((decide (y >= 48))&&(decide (y<=57)))||((decide (y >= 97))&&(decide (y<=122))))) y1:=rfl;refine mo (kp 3 []) Tryz.func332 ?_;refine Qi0 (fun r:Bool=>Bo r) (fun _=>[]) (leaf:=(((decide (y1 >= 48))&&(decide (y1<=57)))||((decide (y1 >= 97))&&(decide (y1<=122))))) (foll hR rfl) ?_;exact tt [] .nil t1
 have hof1:AMoves Tryz.prog 307 [AVal.ptr 0 0 4 0 0,AVal.fn (.func 332) [] []] [(0,AObj.row 321 4 [[runes r_.line,I r_.at_,I r_.bad,I r_.error]])] 1 (Sg ((Q20 r_ (fun (y:Int)=>(((decide (y >= 48))&&(decide (y<=57)))||((decide (y >= 97))&&(decide (y<=122)))))).1)) [(0,AObj.row 321 4 [[runes (((Q20 r_ (fun (y:Int)=>(((decide (y >= 48))&&(decide (y<=57)))||((decide (y >= 97))&&(decide (y<=122)))))).2).line),I (((Q20 r_ (fun (y:Int)=>(((decide (y >= 48))&&(decide (y<=57)))||((decide (y >= 97))&&(decide (y<=122)))))).2).at_),I (((Q20 r_ (fun (y:Int)=>(((decide (y >= 48))&&(decide (y<=57)))||((decide (y >= 97))&&(decide (y<=122)))))).2).bad),I (((Q20 r_ (fun (y:Int)=>(((decide (y >= 48))&&(decide (y<=57)))||((decide (y >= 97))&&(decide (y<=122)))))).2).error)]])]:=by
  have hR:Q20 r_ (fun (y:Int)=>(((decide (y >= 48))&&(decide (y<=57)))||((decide (y >= 97))&&(decide (y<=122)))))=Q20 r_ (fun (y:Int)=>(((decide (y >= 48))&&(decide (y<=57)))||((decide (y >= 97))&&(decide (y<=122))))):=rfl;refine mo (kp 6 [33]) Tryz.func307 ?_;refine Qv0 (fun (c:LexReader)=>∃ m,(Int.toNat ((c.line.length:Int) - c.at_))<m∧QB0 r_ (QA0 (fun (y:Int)=>(((decide (y >= 48))&&(decide (y<=57)))||((decide (y >= 97))&&(decide (y<=122))))) m c)=Q20 r_ (fun (y:Int)=>(((decide (y >= 48))&&(decide (y<=57)))||((decide (y >= 97))&&(decide (y<=122)))))∧0<=c.at_∧c.at_<=(c.line.length:Int)∧c.line.length<=400∧r_.at_<=c.at_∧0<=r_.at_) (fun c=>(Int.toNat ((c.line.length:Int) - c.at_))) (fun c=>[(0,AVal.ptr 0 0 4 0 0),(1,AVal.fn (.func 332) [] []),(4,Sg ⟨#[]⟩),(5,I r_.at_)]) (fun c=>[(0,AObj.row 321 4 [[runes c.line,I c.at_,I c.bad,I c.error]])]) r_ (wkA [0]) ⟨_,Nat.lt_succ_self _,foll hR rfl,by exact exA⟩ ?_;clear hR;rintro c ⟨m,hm,hR,hx⟩;(try dsimp only at hR hm hx);obtain ⟨m,rfl⟩:=sucA m;refine dchk (by kernel_rfl) ?_;refine ai gkA ?_;(first|apply u2|apply u3|apply u4|apply us);exact mv [] (cl1 (c.line.getD (Int.toNat c.at_) 0)) .nil (d1 .nil) .nil rx;(repeat ((first|refine ai rfl ?_|refine ai (fun _=>rfl) ?_)));refine ai (fun h1=>?_) (fun h2=>?_)
  ·have hq1:=of_decide_eq_true ((Bool.and_eq_true _ _).mp h1).1;have hwr:w64 (c.at_+1)=c.at_+1:=wr (by omega);exact Qy0 { c with at_:=(w64 (c.at_+1)) } (wk [0] (tO rfl (ts LexReader.lo) .nil) (sv (Qc1 0 rfl rfl) (sv (QV2 (Low.fn _ _ _ LowL.nil LowL.nil)) (s1 (s1 .nil))))) omA ⟨m,by exact omA,foll hR (congrArg (fun p:LexReader=>QB0 r_ p) (ct h1 rfl)),by exact exA⟩
  ·replace hR:QB0 r_ c=Q20 r_ (fun (y:Int)=>(((decide (y >= 48))&&(decide (y<=57)))||((decide (y >= 97))&&(decide (y<=122))))):=fo2 (fun p:LexReader=>QB0 r_ p) (c) hR (cf h2 rfl);refine dchk (by kernel_rfl) ?_;refine ai gkA ?_;(first|refine ⟨(List.drop (Int.toNat r_.at_) (List.take (Int.toNat c.at_) c.line)),by exact cvA,?_⟩|refine ⟨_,fun _=>⟨(List.drop (Int.toNat r_.at_) (List.take (Int.toNat c.at_) c.line)),by exact cvA,rfl,rfl⟩,?_⟩|refine ⟨_,rfl,⟨(List.drop (Int.toNat r_.at_) (List.take (Int.toNat c.at_) c.line)),by exact cvA,Sub.refl _,rfl⟩,?_⟩);(repeat ((first|refine ai rfl ?_|refine ai (fun _=>rfl) ?_)));refine Qi0 (fun r:ByteArray × LexReader=>Sg r.1) (fun r:ByteArray × LexReader=>[(0,AObj.row 321 4 [[runes r.2.line,I r.2.at_,I r.2.bad,I r.2.error]])]) (leaf:=((runesBytes (List.drop (Int.toNat r_.at_) (List.take (Int.toNat c.at_) c.line))),c)) (foll hR rfl) ?_;exact tt [0] (tO rfl (ts LexReader.lo) .nil) t1
 refine us (mv [0] (hof1) (dO (ds LexReader.lo) .nil) (dp (dv (QP5 (Low.fn _ _ _ LowL.nil LowL.nil)) .nil)) (rO (re LexReader.lo) .nil) rx) ?_;refine us (QFc ((Q20 r_ (fun (y:Int)=>(((decide (y >= 48))&&(decide (y<=57)))||((decide (y >= 97))&&(decide (y<=122)))))).1) (by first|(exact Qf9 _ _ hp0.2.2)|exact szA) _) ?_;refine ai (fun h3=>?_) (fun h4=>?_)
 ·obtain rfl:=foll hR (ct h3 rfl);exact rq (ttA [0])
 ·refine us (lex_number_c ((Q20 r_ (fun (y:Int)=>(((decide (y >= 48))&&(decide (y<=57)))||((decide (y >= 97))&&(decide (y<=122)))))).1) (by first|(exact Qf9 _ _ hp0.2.2)|exact szA) _) ?_;refine ai (fun h5=>?_) (fun h6=>?_)
  ·refine us (mv [0] (QL2 ((Q20 r_ (fun (y:Int)=>(((decide (y >= 48))&&(decide (y<=57)))||((decide (y >= 97))&&(decide (y<=122)))))).2) r_.at_ 50) (dO (ds LexReader.lo) .nil) (dp (d1 (d1 .nil))) (rO (re LexReader.lo) .nil) rx) ?_;obtain rfl:=foll hR (cf h4 (ct h5 rfl));exact rq (ttA [0])
  ·obtain rfl:=foll hR (cf h4 (cf h6 rfl));exact rq (ttA [0])
attribute [local irreducible] QJ0
def Q03 :List (Nat × Int)->Bool->List Int->ByteArray × Int
 | [],held,buf=>bif held then (⟨#[]⟩,50) else ((Qv2 buf),0)
 | x_ :: r,held,buf=>bif ((held&&(x_.2 != 34))&&(x_.2 != 92)) then bif ((held&&(x_.2 != 34))&&(x_.2 != 92)) then (⟨#[]⟩,50) else bif ((!held)&&(x_.2==92)) then Q03 r true buf else Q03 r false (QJ0 buf x_.2) else bif ((!held)&&(x_.2==34)) then (⟨#[]⟩,50) else bif ((!held)&&(x_.2==92)) then Q03 r true buf else Q03 r false (QJ0 buf x_.2)
def QA2 (s:ByteArray):ByteArray × Int:=bif ((QE3 s).2 != 0) then (⟨#[]⟩,(QE3 s).2) else bif (((decide ((ByteArray.size s:Int)<2))||(((s.data.toList.getD 0 0).toNat:Int)!=34))||(((s.data.toList.getD (Int.toNat (w64 ((ByteArray.size s:Int) - 1))) 0).toNat:Int)!=34)) then (⟨#[]⟩,50) else Q03 (Qo6 (s.extract 1 (Int.toNat (w64 ((ByteArray.size s:Int) - 1))))) false []
theorem b3a0 {P:Prop} (h:P:=by first|(have hsz:=extract_size s 1 (Int.toNat (w64 ((ByteArray.size s:Int) - 1)));refine ⟨?_,?_,?_⟩ <;> (try dsimp only) <;> first|omega|with_reducible exact Qy9|with_reducible exact hx.2.2|with_reducible exact byteIn_rune _ _ hx.2.2|exact Nat.le_trans (QJa _ _) (by omega)|(simp;done))|exact exA):P:=h
theorem Qp9 (s:ByteArray) (hs0:s.size<=4294967296) (hp0:ByteArray.size s<=1000000):GV 336 [Sg s] (AVal.tup [Sg ((QA2 s).1),I ((QA2 s).2)]):=by
 generalize hR:QA2 s=R;refine gA (kp 10 [16,33,39,40,41,43,59,68]) Tryz.func336 ?_;have hk0:=hs0;obtain z19:s.size<=4294967296:=hs0;have hw0:w64 ((ByteArray.size s:Int) - 1)=(ByteArray.size s:Int) - 1:=wr (by omega);refine us (Qzb s szA _) ?_;refine ai (fun h1=>?_) (fun h2=>?_)
 ·exact lfA
 ·refine ai gkA ?_;refine ai gkA ?_;refine ai (fun h3=>?_) (fun h4=>?_)
  ·obtain rfl:=foll hR (cf h2 (ct h3 rfl));exact Q90 (Low.tup' (l1 (l1 .nil))) (Seen.tup (e1 (e1 .nil)))
  ·refine ai gkA ?_;refine Qpa (fun (held:Bool) (buf:List Int) (pos:Nat)=>∃ m,ByteArray.size (s.extract 1 (Int.toNat (w64 ((ByteArray.size s:Int) - 1)))) - pos<=m∧Q03 (Qa4 (s.extract 1 (Int.toNat (w64 ((ByteArray.size s:Int) - 1)))) m pos) held buf=R∧buf.length<=4*pos∧pos<=ByteArray.size s∧Qr6 buf) (fun held buf pos=>ByteArray.size (s.extract 1 (Int.toNat (w64 ((ByteArray.size s:Int) - 1)))) - pos) (fun held buf pos=>[(2,Sg ⟨#[]⟩),(3,I 0),(6,AVal.ptr 0 0 2 0 0),(7,Bo held),(39,AVal.ptr 1 0 1 0 0)]) (fun held buf pos=>[(0,AObj.row 339 2 [[AVal.sel 0 0 2 0 0,AVal.buf 2 0 1 buf.length]]),(0,AObj.other (.strIter (s.extract 1 (Int.toNat (w64 ((ByteArray.size s:Int) - 1)))) pos)),(0,AObj.row 5 1 (buf.map (fun q_=>[Y q_])))]) false [] 0 ((Qk3 5 1).trans (wk [0,1,2] (tO rfl (Qo2 (cv (turn_selnil) (cv (turn_nilbuf 2 rfl) .nil))) (tO rfl (.strIter _ _) (tO rfl (tl eqA) .nil))) (s1 (s1 (sv (Qc1 0 rfl rfl) (s1 (sv (Qc1 1 rfl rfl) .nil))))))) ⟨ByteArray.size (s.extract 1 (Int.toNat (w64 ((ByteArray.size s:Int) - 1)))),by exact omA,foll hR (cf h2 (cf h4 rfl)),b3a0⟩ ?_;clear hR;rintro held buf pos ⟨m,hm,hR,hx⟩;(try dsimp only at hR hm hx);refine ai (fun h5=>?_) (fun h6=>?_)
   ·have hlt:=of_decide_eq_true h5;have hw:=QD9 (s.extract 1 (Int.toNat (w64 ((ByteArray.size s:Int) - 1)))) pos;have hwe:=QC9 (s.extract 1 (Int.toNat (w64 ((ByteArray.size s:Int) - 1)))) pos hlt;obtain ⟨m,rfl⟩:=sucA m;rw [QI3 h5] at hR;refine ai (fun _=>?_) (fun h=>nomatch h);refine ai (fun h7=>?_) (fun h8=>?_)
    ·refine ai (fun h9=>?_) (fun h10=>?_)
     ·exact lfA
     ·refine ai (fun h11=>?_) (fun h12=>?_)
      ·exact QU5 true buf (pos+(Utf8.decode (s.extract 1 (Int.toNat (w64 ((ByteArray.size s:Int) - 1)))) pos).2) (wk [0,1,2] (tO rfl (Qo2 (cv (turn_sel 0 rfl rfl) (cv (turn_buf 2 rfl rfl) .nil))) (tO rfl (.strIter _ _) (tO rfl (tl eqA) .nil))) (s1 (s1 (sv (Qc1 0 rfl rfl) (s1 (sv (Qc1 1 rfl rfl) .nil)))))) omA ⟨m,by exact omA,foll hR (ct h7 (cf h10 (ct h11 rfl))),b3a0⟩
      ·refine us (mv [0,2] (QEd buf ((pos,((Utf8.decode (s.extract 1 (Int.toNat (w64 ((ByteArray.size s:Int) - 1)))) pos).1:Int)).2) szA) (dO (dc (dv (dn_sel rfl) (dv (dn_buf rfl) .nil))) (dO (dr eqA) .nil)) (dp (d1 .nil)) (rO (rc (rv (rp 0 0 rfl) (rv (rw_ 3 0 rfl) .nil))) (rO rr .nil)) (Ren.low _ (Low.tup' (l1 (l1 .nil))))) ?_;exact QU5 false (QJ0 buf (pos,((Utf8.decode (s.extract 1 (Int.toNat (w64 ((ByteArray.size s:Int) - 1)))) pos).1:Int)).2) (pos+(Utf8.decode (s.extract 1 (Int.toNat (w64 ((ByteArray.size s:Int) - 1)))) pos).2) (wk [0,1,3] (tO rfl (Qo2 (cv (QIa 0 rfl rfl) (cv (Q3f 2 rfl rfl lnA (by first|with_reducible exact QB7 _ _|(simp;done)|grind)) .nil))) (tO rfl (.strIter _ _) (tO rfl (tl eqA) .nil))) (s1 (s1 (sv (Qc1 0 rfl rfl) (s1 (sv (Qc1 1 rfl rfl) .nil)))))) omA ⟨m,by exact omA,foll hR (ct h7 (cf h10 (cf h12 rfl))),b3a0⟩
    ·refine ai (fun h13=>?_) (fun h14=>?_)
     ·exact lfA
     ·refine ai (fun h15=>?_) (fun h16=>?_)
      ·exact QU5 true buf (pos+(Utf8.decode (s.extract 1 (Int.toNat (w64 ((ByteArray.size s:Int) - 1)))) pos).2) (wk [0,1,2] (tO rfl (Qo2 (cv (turn_sel 0 rfl rfl) (cv (turn_buf 2 rfl rfl) .nil))) (tO rfl (.strIter _ _) (tO rfl (tl eqA) .nil))) (s1 (s1 (sv (Qc1 0 rfl rfl) (s1 (sv (Qc1 1 rfl rfl) .nil)))))) omA ⟨m,by exact omA,foll hR (cf h8 (cf h14 (ct h15 rfl))),b3a0⟩
      ·refine us (mv [0,2] (QEd buf ((pos,((Utf8.decode (s.extract 1 (Int.toNat (w64 ((ByteArray.size s:Int) - 1)))) pos).1:Int)).2) szA) (dO (dc (dv (dn_sel rfl) (dv (dn_buf rfl) .nil))) (dO (dr eqA) .nil)) (dp (d1 .nil)) (rO (rc (rv (rp 0 0 rfl) (rv (rw_ 3 0 rfl) .nil))) (rO rr .nil)) (Ren.low _ (Low.tup' (l1 (l1 .nil))))) ?_;exact QU5 false (QJ0 buf (pos,((Utf8.decode (s.extract 1 (Int.toNat (w64 ((ByteArray.size s:Int) - 1)))) pos).1:Int)).2) (pos+(Utf8.decode (s.extract 1 (Int.toNat (w64 ((ByteArray.size s:Int) - 1)))) pos).2) (wk [0,1,3] (tO rfl (Qo2 (cv (QIa 0 rfl rfl) (cv (Q3f 2 rfl rfl lnA (by first|with_reducible exact QB7 _ _|(simp;done)|grind)) .nil))) (tO rfl (.strIter _ _) (tO rfl (tl eqA) .nil))) (s1 (s1 (sv (Qc1 0 rfl rfl) (s1 (sv (Qc1 1 rfl rfl) .nil)))))) omA ⟨m,by exact omA,foll hR (cf h8 (cf h14 (cf h16 rfl))),b3a0⟩
   ·rw [QI6 h6] at hR;refine ai (fun h=>nomatch h) (fun _=>?_);refine ai (fun h17=>?_) (fun h18=>?_)
    ·exact lfA
    ·refine us (mv [0,2] (String_c buf (by first|(with_reducible exact hx.2.2)|first|assumption|exact Qy9|grind) szA) (dO (dc (dv (dn_any) (dv (dn_bufbuf rfl) .nil))) (dO (dr eqA) .nil)) (dp .nil) (rO (re (.cons Low.any (.cons Low.any .nil))) .nil) rx) ?_;exact lfA
def Qh4 (l:List Usage):List Usage->Nat->Int
 | [],_=>0
 | x_ :: r,i=>bif ((((((!(Q95 x_.user))||(!(Q95 x_.account)))||(x_.used != (Qw3 x_.used)))||(decide (x_.share<0)))||(decide (x_.share > x_.used)))||((decide ((i:Int) > 0))&&(decide ((Qx6 (l.getD (Int.toNat (w64 ((i:Int) - 1))) Usage.zero) x_) >= 0)))) then 2 else Qh4 l r (i+1)
def Qq5 (l:List Usage):Int:=bif (decide ((l.length:Int) > 200)) then 2 else Qh4 l l 0
theorem ledger_Check_c (l:List Usage) (hs0:l.length<=4294967296∧(∀ y ∈ l,y.sz)):GV 122 [Qb4 l] (I (Qq5 l)):=by
 generalize hR:Qq5 l=R;refine gA (kp 5 [7,8,9,10,11,58]) Tryz.func122 ?_;obtain ⟨z9,z10⟩:=id hs0;refine ai (fun h1=>?_) (fun h2=>?_)
 ·have qh1:=of_decide_eq_true h1;exact lfA
 ·have qh2:=of_decide_eq_false h2;refine Qv0 (fun (i:Nat)=>Qh4 l (List.drop i l) i=R∧i<=l.length) (fun i=>l.length - i) (fun i=>[(0,Qb4 l),(2,I 0),(8,Qb4 l),(9,I (l.length:Int)),(10,I (i:Int))]) (fun i=>[]) 0 (wkA []) ⟨folA,by exact omA⟩ ?_;clear hR;rintro i ⟨hR,hj⟩;(try dsimp only at hR hj);refine ai (fun h3=>?_) (fun h4=>?_)
  ·have hlt:=ltA h3;rw [Qr0 Usage.zero hlt] at hR;have hxz:(l.getD i Usage.zero).sz:=Q74 (by first|assumption|grind) (Usage.szz _);have hkz:=hxz;obtain ⟨z5,z6⟩:=Usage.zz hxz;refine ai gkA ?_;refine dchk (by kernel_rfl) ?_;(first|apply u2|apply u3|apply u4|apply us);exact QX6 ((l.getD i Usage.zero).user) _;(first|apply u2|apply u3|apply u4|apply us);exact QX6 ((l.getD i Usage.zero).account) _;(first|apply u2|apply u3|apply u4|apply us);exact QE8 ((l.getD i Usage.zero).used) _;refine ai gkA ?_;(first|apply u2|apply u3|apply u4|apply us);exact QZ9 (l.getD (Int.toNat (w64 ((i:Int) - 1))) Usage.zero) (l.getD i Usage.zero) szA szA _;(repeat ((first|refine ai rfl ?_|refine ai (fun _=>rfl) ?_|refine ai (fun _=>QX6 ((l.getD i Usage.zero).user) _) ?_|refine ai (fun _=>QX6 ((l.getD i Usage.zero).account) _) ?_|refine ai (fun _=>QE8 ((l.getD i Usage.zero).used) _) ?_|refine ai (fun _=>QZ9 (l.getD (Int.toNat (w64 ((i:Int) - 1))) Usage.zero) (l.getD i Usage.zero) szA szA _) ?_)));refine ai (fun h7=>?_) (fun h8=>?_)
   ·exact lfA
   ·exact Qy0 (i+1) (wkA []) omA ⟨folA,by exact omA⟩
  ·rw [Qs0 (l:=l) (j:=i) (geA h4)] at hR;exact lfA
def fit_Fits (p_:List Step) (at_:Int) (long:Int) (nodes:Int):Bool:=bif ((((Qy2 p_)!=0)||(!(fit_asks long nodes)))||(!(QY7 at_ 0 (w64 (1000000 - long))))) then false else (decide ((Qy8 p_ at_ (w64 (at_+long))) >= nodes))
theorem fit_Fits_c (p_:List Step) (at_:Int) (long:Int) (nodes:Int) (hs0:p_.length<=4294967296):GV 34 [stepL p_,I at_,I long,I nodes] (Bo (fit_Fits p_ at_ long nodes)):=by
 generalize hR:fit_Fits p_ at_ long nodes=R;refine gA (kp 9 [24]) Tryz.func34 ?_;have hk0:=hs0;obtain z3:p_.length<=4294967296:=hs0;refine us (QK5 p_ szA _) ?_;(first|apply u2|apply u3|apply u4|apply us);exact fit_asks_c long nodes _;(first|apply u2|apply u3|apply u4|apply us);exact Q29 at_ 0 (w64 (1000000 - long)) _;refine ai (fun h1=>?_) (fun h2=>?_)
 ·exact lfA
 ·refine us (Qse p_ at_ (w64 (at_+long)) szA _) ?_;exact lfA
def Qs1 (t:Taken) (from_:Int) (to_:Int) (n:Int):Taken:=bif ((decide (to_<=from_))||(n==0)) then t else bif ((Qa5 t.p from_ to_ (w64 (0 - n))).2==0) then (⟨(Qa5 t.p from_ to_ (w64 (0 - n))).1⟩:Taken) else t
theorem Q46 (t:Taken) (from_:Int) (to_:Int) (n:Int) (hs0:t.sz):AMoves Tryz.prog 92 [AVal.ptr 0 0 1 0 0,I from_,I to_,I n] [(0,AObj.row 145 1 [[stepL t.p]])] 1 (AVal.tup []) [(0,AObj.row 145 1 [[stepL ((Qs1 t from_ to_ n).p)]])]:=by
 generalize hR:Qs1 t from_ to_ n=R;refine mo (kp 10 [16,30]) Tryz.func92 ?_;have hk0:=hs0;obtain z5:t.p.length<=4294967296:=hs0;refine ai (fun h1=>?_) (fun h2=>?_)
 ·obtain rfl:=foll hR (ct h1 rfl);exact rq (ttA [0])
 ·refine us (profile_Add_c t.p from_ to_ (w64 (0 - n)) szA _) ?_;refine ai (fun h3=>?_) (fun h4=>?_)
  ·obtain rfl:=foll hR (cf h2 (ct h3 rfl));exact rq (ttA [0])
  ·obtain rfl:=foll hR (cf h2 (cf h4 rfl));exact rq (ttA [0])
theorem QK8 {t:Taken} {f g n:Int} (h:t.p.length<=4294967296):(Qs1 t f g n).p.length<=4294967296:=by
 unfold Qs1
 repeat' first|exact h|exact Qre _ _ _ _ h|(rw [Bool.cond_eq_ite];split)
theorem flat_len (n:Int):(Qi4 n).length<=4294967296:=by simp [Qi4]
def Qq1 (s:Int) (n:Int):Int × Bool:=bif ((decide (n<0))||(decide (n > (Q30 s)))) then (0,false) else ((wu64 (BitVec.ofInt 64 s &&& ~~~(BitVec.ofInt 64 (QN1 s (w64 ((Q30 s) - n))).1)).toNat),true)
theorem Qic (s:Int) (n:Int):GV 37 [U s,I n] (AVal.tup [U ((Qq1 s n).1),Bo ((Qq1 s n).2)]):=by
 generalize hR:Qq1 s n=R;refine gA (kp 8 [15]) Tryz.func37 ?_;(first|apply u2|apply u3|apply u4|apply us);exact QG0 s _;refine ai (fun h1=>?_) (fun h2=>?_)
 ·exact lfA
 ·refine us (QG0 s _) ?_;refine us (QQ8 s (w64 ((Q30 s) - n)) _) ?_;exact lfA
def Q05 (s:ByteArray):Nat->List Int->Int->(List Int) × Int
 | 0,_,_=>([],0)
 | m+1,out,i=>bif (decide (i<(w64 ((ByteArray.size s:Int) - 1)))) then bif ((((s.data.toList.getD (Int.toNat i) 0).toNat:Int)==92)&&(decide ((w64 (i+1))<(w64 ((ByteArray.size s:Int) - 1))))) then Q05 s m (out++([((s.data.toList.getD (Int.toNat (w64 (i+1))) 0).toNat:Int)]:List Int)) (w64 ((w64 (i+1))+1)) else Q05 s m (out++([((s.data.toList.getD (Int.toNat i) 0).toNat:Int)]:List Int)) (w64 (i+1)) else (out,i)
def Qbd (s:ByteArray) (out:List Int) (i:Int):ByteArray × Int:=bif (((Que (Qv2 out)).2 != 0)||(!(ByteArray.toList (Que (Qv2 out)).1==ByteArray.toList s))) then (⟨#[]⟩,50) else ((Qv2 out),0)
def Qtb (s:ByteArray):ByteArray × Int:=bif ((Qj4 s).2 != 0) then (⟨#[]⟩,(Qj4 s).2) else Qbd s ((Q05 s ((Int.toNat ((w64 ((ByteArray.size s:Int) - 1)) - 1))+1) [] 1).1) ((Q05 s ((Int.toNat ((w64 ((ByteArray.size s:Int) - 1)) - 1))+1) [] 1).2)
def Qr2 (s:Shape) (choice:Int):Int:=bif ((decide (choice<0))||(decide (choice >= ((Qi1 s).length:Int)))) then 0 else ((Qi1 s).getD (Int.toNat choice) Alt.zero).wall
def QL5 (s:Shape) (choice:Int) (n:Int):List Alt->Nat->Bool
 | [],_=>false
 | x_ :: r,i=>bif ((x_.nodes==n)&&(((i:Int)==choice)||(s.kind==3))) then true else QL5 s choice n r (i+1)
def Qm9 (s:Shape) (choice:Int) (n:Int):Bool:=bif ((decide (choice<0))||(decide (choice >= ((Qi1 s).length:Int)))) then false else QL5 s choice n (Qi1 s) 0
def QU2 (x_:Node) (n:Int) (r_:Resize):Bool:=bif r_.grow then bif (!((QY1 r_.nodes n)==(x_.state==2))) then false else (((!(QY1 r_.nodes n))||((QY1 r_.said n)&&(x_.want==0)))||((!(QY1 r_.said n))&&(x_.want==2))) else bif (((QY1 r_.nodes n)&&(x_.state != 1))||((!(QY1 r_.nodes n))&&(x_.want==4))) then false else (((!(QY1 r_.nodes n))||((QY1 r_.said n)&&(x_.want==0)))||((!(QY1 r_.said n))&&(x_.want==4)))
def QB4 (s:State) (n:Int):Bool:=bif (((((s.nodes.getD (Int.toNat n) Node.zero).state==1)&&((!(QV0 s ((s.nodes.getD (Int.toNat n) Node.zero).job)).2)||(!(QY1 ((QV0 s ((s.nodes.getD (Int.toNat n) Node.zero).job)).1.nodes) n))))||(((s.nodes.getD (Int.toNat n) Node.zero).state==2)&&(!(QV0 s ((s.nodes.getD (Int.toNat n) Node.zero).job)).2)))||(((s.nodes.getD (Int.toNat n) Node.zero).state==3)&&(decide ((s.nodes.getD (Int.toNat n) Node.zero).job >= s.nextJob)))) then false else bif (((s.nodes.getD (Int.toNat n) Node.zero).state==2)||((s.nodes.getD (Int.toNat n) Node.zero).want==4)) then (QY1 ((Q15 s ((s.nodes.getD (Int.toNat n) Node.zero).job)).nodes) n) else true
end Go.Proofs.YtackngeeehiegaaGreatDoor
namespace Go.Proofs.YtackngeeehiegaaGreatDoor
set_option linter.unusedSimpArgs false
set_option linter.unusedVariables false
open Go.Fw
set_option maxRecDepth 20000
set_option maxHeartbeats 4000000
attribute [local irreducible] ACalls AMoves
def Q07 (b:List Job):List Job->Nat->Bool
 | [],_=>true
 | x_ :: r,i=>bif (!(Q37 x_ (b.getD i Job.zero))) then false else Q07 b r (i+1)
def Q47 (a:List Job) (b:List Job):Bool:=bif ((a.length:Int)!=(b.length:Int)) then false else Q07 b a 0
theorem Qx7 (a:List Job) (b:List Job) (hs0:a.length<=4294967296∧(∀ y ∈ a,y.sz)) (hs1:b.length<=4294967296∧(∀ y ∈ b,y.sz)):GV 53 [jobL a,jobL b] (Bo (Q47 a b)):=by
 generalize hR:Q47 a b=R;refine gA (kp 6 [10,14,26]) Tryz.func53 ?_;obtain ⟨z12,z13⟩:=id hs0;obtain ⟨z14,z15⟩:=id hs1;refine ai (fun h1=>?_) (fun h2=>?_)
 ·exact lfA
 ·refine Qv0 (fun (i:Nat)=>Q07 b (List.drop i a) i=R∧i<=a.length) (fun i=>a.length - i) (fun i=>[(0,jobL a),(1,jobL b),(4,Bo false),(5,I (i:Int))]) (fun i=>[]) 0 (wkA []) ⟨folA,by exact omA⟩ ?_;clear hR;rintro i ⟨hR,hj⟩;(try dsimp only at hR hj);refine ai (fun h3=>?_) (fun h4=>?_)
  ·have hlt:=ltA h3;rw [Qr0 Job.zero hlt] at hR;have hxz:(a.getD i Job.zero).sz:=Q74 (by first|assumption|grind) (Job.szz _);have hkz:=hxz;obtain ⟨z5,z6,z7,z8,z9⟩:=Job.zz hxz;refine dchk (by kernel_rfl) ?_;refine ai gkA ?_;refine ai gkA ?_;(first|apply u2|apply u3|apply u4|apply us);exact QOc (a.getD i Job.zero) (b.getD i Job.zero) szA szA _;(repeat ((first|refine ai rfl ?_|refine ai (fun _=>rfl) ?_|refine ai (fun _=>QOc (a.getD i Job.zero) (b.getD i Job.zero) szA szA _) ?_)));refine ai (fun h10=>?_) (fun h11=>?_)
   ·exact lfA
   ·exact Qy0 (i+1) (wkA []) omA ⟨folA,by exact omA⟩
  ·rw [Qs0 (l:=a) (j:=i) (geA h4)] at hR;exact lfA
def QH1 :Nat->LexReader->Bool->LexReader × Bool
 | 0,_,_=>(LexReader.zero,false)
 | m+1,c,c2=>bif ((decide (c.at_<(c.line.length:Int)))&&(Qh1 (c.line.getD (Int.toNat c.at_) 0) c2).1) then QH1 m { c with at_:=(w64 (c.at_+1)) } (bif (decide (c.at_<(c.line.length:Int))) then (Qh1 (c.line.getD (Int.toNat c.at_) 0) c2).2 else c2) else (c,(bif (decide (c.at_<(c.line.length:Int))) then (Qh1 (c.line.getD (Int.toNat c.at_) 0) c2).2 else c2))
def Q62 (r_:LexReader) (c:LexReader) (c2:Bool):Token × LexReader:=bif (c.at_==(c.line.length:Int)) then (Token.zero,(QS0 c r_.at_ 50)) else bif ((c.line.getD (Int.toNat c.at_) 0)!=34) then (Token.zero,(QS0 c c.at_ 40)) else bif ((QA2 (runesBytes (List.drop (Int.toNat r_.at_) (List.take (Int.toNat (w64 (c.at_+1))) c.line)))).2 != 0) then ((⟨4,(QA2 (runesBytes (List.drop (Int.toNat r_.at_) (List.take (Int.toNat (w64 (c.at_+1))) c.line)))).1,0,0⟩:Token),(QS0 { c with at_:=(w64 (c.at_+1)) } r_.at_ ((QA2 (runesBytes (List.drop (Int.toNat r_.at_) (List.take (Int.toNat (w64 (c.at_+1))) c.line)))).2))) else ((⟨4,(QA2 (runesBytes (List.drop (Int.toNat r_.at_) (List.take (Int.toNat (w64 (c.at_+1))) c.line)))).1,0,0⟩:Token),{ c with at_:=(w64 (c.at_+1)) })
def Qy1 (r_:LexReader):Token × LexReader:=Q62 r_ ((QH1 ((Int.toNat ((r_.line.length:Int) - r_.at_))+1) r_ true).1) ((QH1 ((Int.toNat ((r_.line.length:Int) - r_.at_))+1) r_ true).2)
theorem Qbc (r_:LexReader) (hs0:r_.sz) (hp0:0<=r_.at_∧r_.at_<(r_.line.length:Int)∧r_.line.length<=400):AMoves Tryz.prog 318 [AVal.ptr 0 0 4 0 0] [(0,AObj.row 321 4 [[runes r_.line,I r_.at_,I r_.bad,I r_.error]])] 1 (Token.a ((Qy1 r_).1)) [(0,AObj.row 321 4 [[runes ((Qy1 r_).2.line),I ((Qy1 r_).2.at_),I ((Qy1 r_).2.bad),I ((Qy1 r_).2.error)]])]:=by
 generalize hR:Qy1 r_=R;refine mo (kp 7 [23,38,69]) Tryz.func318 ?_;have hk0:=hs0;obtain z9:r_.line.length<=4294967296:=hs0;refine ACalls.of_cwp (fun _=>true) Tryz.func307 rfl rfl ?_;refine QF0 (fun (c:LexReader) (c2:Bool)=>∃ m,(Int.toNat ((c.line.length:Int) - c.at_))<m∧Q62 r_ (QH1 m c c2).1 (QH1 m c c2).2=R∧0<=c.at_∧c.at_<=(c.line.length:Int)∧c.line.length<=400∧r_.at_<=c.at_∧0<=r_.at_) (fun c c2=>(Int.toNat ((c.line.length:Int) - c.at_))) (fun c c2=>[(0,AVal.ptr 0 0 4 0 0),(1,AVal.fn (.func 335) [] [AVal.ptr 2 0 1 0 0]),(4,Sg ⟨#[]⟩),(5,I r_.at_)]) (fun c c2=>[(0,AObj.row 321 4 [[runes c.line,I c.at_,I c.bad,I c.error]]),(0,AObj.row 305 4 [[I 0,Sg ⟨#[]⟩,I 0,I 0]]),(0,AObj.row 4 1 [[Bo c2]])]) r_ true (wkA [0,1,2]) ⟨_,Nat.lt_succ_self _,foll hR rfl,by exact exA⟩ ?_;clear hR;rintro c c2 ⟨m,hm,hR,hx⟩;(try dsimp only at hR hm hx);obtain ⟨m,rfl⟩:=sucA m;refine dchk (by kernel_rfl) ?_;refine ai gkA ?_;refine ⟨_,[(0,AObj.row 321 4 [[runes c.line,I c.at_,I c.bad,I c.error]]),(0,AObj.row 305 4 [[I 0,Sg ⟨#[]⟩,I 0,I 0]]),(0,AObj.row 4 1 [[Bo (bif (decide (c.at_<(c.line.length:Int))) then (Qh1 (c.line.getD (Int.toNat c.at_) 0) c2).2 else c2)]])],fun hg=>(by rw [show (decide (c.at_<(c.line.length:Int)))=true from hg];exact mv [2] (QQ9 (c.line.getD (Int.toNat c.at_) 0) c2) (dO (ds (l1 LowL.nil)) .nil) (d1 (dp .nil)) (rO (re (l1 LowL.nil)) .nil) rx),fun hg=>(by rw [show (decide (c.at_<(c.line.length:Int)))=false from hg];rfl),?_⟩;(repeat ((first|refine ai rfl ?_|refine ai (fun _=>rfl) ?_)));refine ai (fun h1=>?_) (fun h2=>?_)
 ·have hq1:=of_decide_eq_true ((Bool.and_eq_true _ _).mp h1).1;have hwr:w64 (c.at_+1)=c.at_+1:=wr (by omega);exact Qh0 { c with at_:=(w64 (c.at_+1)) } (bif (decide (c.at_<(c.line.length:Int))) then (Qh1 (c.line.getD (Int.toNat c.at_) 0) c2).2 else c2) (wk [0,1,2] (tO rfl (ts LexReader.lo) (tO rfl (ts Token.lo) (tO rfl (ts (l1 LowL.nil)) .nil))) (sv (Qc1 0 rfl rfl) (sv (QQ6 .nil (cv (Qc1 2 rfl rfl) .nil)) (s1 (s1 .nil))))) omA ⟨m,by exact omA,foll hR (congrArg (fun p:LexReader × Bool=>Q62 r_ p.1 p.2) (ct h1 rfl)),by exact exA⟩
 ·replace hR:Q62 r_ c (bif (decide (c.at_<(c.line.length:Int))) then (Qh1 (c.line.getD (Int.toNat c.at_) 0) c2).2 else c2)=R:=fo2 (fun p:LexReader × Bool=>Q62 r_ p.1 p.2) (c,(bif (decide (c.at_<(c.line.length:Int))) then (Qh1 (c.line.getD (Int.toNat c.at_) 0) c2).2 else c2)) hR (cf h2 rfl);refine dchk (by kernel_rfl) ?_;refine ai gkA ?_;(first|refine ⟨(List.drop (Int.toNat r_.at_) (List.take (Int.toNat c.at_) c.line)),by exact cvA,?_⟩|refine ⟨_,fun _=>⟨(List.drop (Int.toNat r_.at_) (List.take (Int.toNat c.at_) c.line)),by exact cvA,rfl,rfl⟩,?_⟩|refine ⟨_,rfl,⟨(List.drop (Int.toNat r_.at_) (List.take (Int.toNat c.at_) c.line)),by exact cvA,Sub.refl _,rfl⟩,?_⟩);(repeat ((first|refine ai rfl ?_|refine ai (fun _=>rfl) ?_)));refine ⟨_,_,Told.refl,?_⟩;refine dchk (by kernel_rfl) ?_;(repeat ((first|refine ai rfl ?_|refine ai (fun _=>rfl) ?_)));refine ai (fun h3=>?_) (fun h4=>?_)
  ·refine us (mv [0] (QL2 c r_.at_ 50) (dO (ds LexReader.lo) .nil) (dp (d1 (d1 .nil))) (rO (re LexReader.lo) .nil) rx) ?_;obtain rfl:=foll hR (ct h3 rfl);exact rq (ttA [0])
  ·refine dchk (by kernel_rfl) ?_;refine ai gkA ?_;(repeat ((first|refine ai rfl ?_|refine ai (fun _=>rfl) ?_)));refine ai (fun h5=>?_) (fun h6=>?_)
   ·refine us (mv [0] (QL2 c c.at_ 40) (dO (ds LexReader.lo) .nil) (dp (d1 (d1 .nil))) (rO (re LexReader.lo) .nil) rx) ?_;obtain rfl:=foll hR (cf h4 (ct h5 rfl));exact rq (ttA [0])
   ·refine dchk (by kernel_rfl) ?_;refine ai gkA ?_;(first|refine ⟨(List.drop (Int.toNat r_.at_) (List.take (Int.toNat (w64 (c.at_+1))) c.line)),by exact cvA,?_⟩|refine ⟨_,fun _=>⟨(List.drop (Int.toNat r_.at_) (List.take (Int.toNat (w64 (c.at_+1))) c.line)),by exact cvA,rfl,rfl⟩,?_⟩|refine ⟨_,rfl,⟨(List.drop (Int.toNat r_.at_) (List.take (Int.toNat (w64 (c.at_+1))) c.line)),by exact cvA,Sub.refl _,rfl⟩,?_⟩);(first|apply u2|apply u3|apply u4|apply us);exact Qp9 (runesBytes (List.drop (Int.toNat r_.at_) (List.take (Int.toNat (w64 (c.at_+1))) c.line))) szA (by refine Nat.le_trans (QN5 _) ?_;simp only [List.length_drop,List.length_take];omega) _;(repeat ((first|refine ai rfl ?_|refine ai (fun _=>rfl) ?_|refine ai (fun _=>Qp9 (runesBytes (List.drop (Int.toNat r_.at_) (List.take (Int.toNat (w64 (c.at_+1))) c.line))) szA (by refine Nat.le_trans (QN5 _) ?_;simp only [List.length_drop,List.length_take];omega) _) ?_)));refine ai (fun h7=>?_) (fun h8=>?_)
    ·refine us (mv [0] (QL2 { c with at_:=(w64 (c.at_+1)) } r_.at_ ((QA2 (runesBytes (List.drop (Int.toNat r_.at_) (List.take (Int.toNat (w64 (c.at_+1))) c.line)))).2)) (dO (ds LexReader.lo) .nil) (dp (d1 (d1 .nil))) (rO (re LexReader.lo) .nil) rx) ?_;obtain rfl:=foll hR (cf h4 (cf h6 (ct h7 rfl)));exact rq (ttA [0])
    ·obtain rfl:=foll hR (cf h4 (cf h6 (cf h8 rfl)));exact rq (tt [0] (tO rfl (ts LexReader.lo) .nil) (QV2 (Low.agg' (Token.lo))))
def Qf5 (min max wall:Int):List Alt:=(List.range (max - min+1).toNat).map fun (i:Nat)=>(⟨max - (i:Int),wall⟩:Alt)
def Q21 (s:Shape):List Alt:=bif QF1 s != 0 then [] else bif s.kind==3 then s.alts++Qf5 s.min s.max s.wall else s.alts
theorem Qm7 {s:Shape} (h:(QF1 s != 0)=false) (hk:(s.kind==3)=true):1<=s.min∧s.min<=s.max∧s.max<=48:=by
 have hk':s.kind=3:=by simpa using hk
 simp only [QF1,hk'] at h
 revert h
 cases h2:(((((s.alts.length:Int)==0)&&(decide (s.min<=s.max)))&&(Q61 (⟨s.min,s.wall⟩:Alt)))&&(decide (s.max<=48))) with
 | false=>simp [h2,QP1]
 | true =>
  intro _
  simp [Q61] at h2
  omega
theorem QXe (lo hi wall:Int):((Qt4 hi (hi - lo+1).toNat).map fun (n:Int)=>(⟨n,wall⟩:Alt))=Qf5 lo hi wall:=by
 simp [Qt4,Qf5,List.map_map,Function.comp_def]
theorem QO5 (s:Shape) (hs0:s.sz):GV 131 [Shape.a s] (altL (Q21 s)):=by
 generalize hR:Q21 s=R;refine gA (kp 4 [7,13,18]) Tryz.func131 ?_;have hk0:=hs0;obtain z7:s.alts.length<=4294967296:=hs0;refine us (QEb s szA _) ?_;refine ai (fun h1=>?_) (fun h2=>?_)
 ·exact lfA
 ·refine us (mv [] (QGb s.alts szA) .nil (dv (QP5 (Alt.lows _ _)) .nil) (rO rr .nil) (rw_ 1 0 rfl)) ?_;refine ai (fun h3=>?_) (fun h4=>?_)
  ·refine us (r:=.fn (.func 243) [] [.ptr 4 0 1 0 0,.ptr 3 0 1 0 0]) (o:=[(0,.row 69 5 [[I s.kind,altL s.alts,I s.min,I s.max,I s.wall]]),(0,.row 178 2 (s.alts.map Alt.cells)),(0,.row 67 1 [[.own 1 0 2 0 s.alts.length]]),(0,.row 3 1 [[I s.min]]),(0,.row 3 1 [[I s.max]])]) (ACalls.of_cwp (fun _=>true) Tryz.func201 rfl rfl ?_) ?_
   ·exact ⟨_,_,told_same,rfl,rfl⟩
   obtain ⟨q1,q2,q3⟩:=Qm7 h2 h3;refine range_next (α:=Int) (fun n=>.int .i64 n) (Qt4 s.max (s.max - s.min+1).toNat) (fun xs=>[(0,.row 69 5 [[I s.kind,altL s.alts,I s.min,I s.max,I s.wall]]),(0,.row 178 2 ((s.alts++xs.map fun (n:Int)=>(⟨n,s.wall⟩:Alt)).map Alt.cells)),(0,.row 67 1 [[.own 1 0 2 0 (s.alts++xs.map fun (n:Int)=>(⟨n,s.wall⟩:Alt)).length]]),(0,.row 3 1 [[I s.min]]),(0,.row 3 1 [[I s.max]])])
    (by simp) (by decide) (by decide) rfl rfl rfl rfl ?_ ?_ (by decide) ?_ ?_
   ·intro xs q hq _;simp only [List.mem_cons,List.not_mem_nil,or_false] at hq;rcases hq with rfl|rfl|rfl|rfl|rfl <;> exact ⟨_,_,_,rfl⟩
   ·intro K a w hs;have hv:=QDe (hs.slot 18);obtain ⟨c1,c2⟩:=box_cell (o:=4) hs.mem rfl;obtain ⟨c3,c4⟩:=box_cell (o:=3) hs.mem rfl;refine ⟨243,#[.pointer (some ⟨K.ρ 4 0,0,none⟩),.pointer (some ⟨K.ρ 3 0,0,none⟩)],⟨K.ρ 3 0,0,none⟩,.int .i64 s.min,hv,?_,c4,?_,?_⟩
    ·intro args w;simp [go_sem]
    ·intro K1 xs W hs1;have hv1:=QDe (hs1.slot 18);have e:K1.ρ 3 0=K.ρ 3 0:=by
      have:=hv1.symm.trans hv;exact (by simpa using this:K1.ρ 4 0=K.ρ 4 0∧K1.ρ 3 0=K.ρ 3 0).2
     rw [← e];exact (box_cell (o:=3) hs1.mem rfl).1
    ·rw [Qc7];exact sizes_stops 2 (by decide) _ _ s.min s.max w q1 q2 q3 c2 c4 c1 c3
   ·intro xs x hlen;rw [Qc7] at hlen;refine Or.inl ?_;refine ⟨Qe2 16 rfl lnA (by simp;omega),?_⟩;exact wk [0,1,2,3,4] (tO rfl (ts Shape.lo) (tO rfl (QTb (by simp only [List.map_append,List.append_assoc];rfl) (QD7 fun _=>Alt.lowc _ _)) (tO rfl (Qo2 (.cons _ _ _ _ (to 1 (by simp [List.length_append];omega)) .nil)) (tO rfl (ts (l1 .nil)) (tO rfl (ts (l1 .nil)) .nil)))))
     (sv (QQ6 .nil (.cons _ _ _ _ (Qc1 4 rfl rfl) (.cons _ _ _ _ (Qc1 3 rfl rfl) .nil))) (s1 (sv (Qc1 2 rfl rfl) (s1 (s1 (sv (Qc1 0 rfl rfl) (sl (Shape.low _ _) .nil)))))))
   ·have e:Q21 s=s.alts++(Qt4 s.max (s.max - s.min+1).toNat).map fun (n:Int)=>(⟨n,s.wall⟩:Alt):=by
     rw [QXe];exact cf h2 (ct h3 rfl)
    obtain rfl:=foll hR e;exact Q90 lw (Q80 Alt.zero _ rfl rfl rfl)
  ·obtain rfl:=foll hR (cf h2 (cf h4 rfl));exact Q90 lw (Q80 Alt.zero _ rfl eqA lnA)
def QF4 (l:List Node):List Int->Nat->Bool
 | [],_=>true
 | x_ :: r,i=>bif ((decide (x_<(l.length:Int)))&&((l.getD (Int.toNat x_) Node.zero).want==0)) then QF4 l r (i+1) else false
def Q65 (l:List Node) (set_:Int):Bool:=bif ((Q60 l)!=0) then false else QF4 l (Q50 set_) 0
theorem Qe8 (l:List Node) (set_:Int) (hs0:l.length<=4294967296):GV 86 [nodeL l,U set_] (Bo (Q65 l set_)):=by
 generalize hR:Q65 l set_=R;refine gA (kp 7 [9,11,12,13,14,28]) Tryz.func86 ?_;have hk0:=hs0;obtain z7:l.length<=4294967296:=hs0;refine us (Qw2 l szA _) ?_;refine ai (fun h1=>?_) (fun h2=>?_)
 ·exact lfA
 ·refine us (QE7 set_ _) ?_;refine Qv0 (fun (i:Nat)=>QF4 l (List.drop i (Q50 set_)) i=R∧i<=(Q50 set_).length) (fun i=>(Q50 set_).length - i) (fun i=>[(0,nodeL l),(4,Bo false),(11,ints (Q50 set_)),(12,I ((Q50 set_).length:Int)),(13,I (i:Int))]) (fun i=>[]) 0 (wkA []) ⟨folA,by exact omA⟩ ?_;clear hR;rintro i ⟨hR,hj⟩;(try dsimp only at hR hj);refine ai (fun h3=>?_) (fun h4=>?_)
  ·have hlt:=ltA h3;rw [Qr0 0 hlt] at hR;have hq:=Q9d set_ hlt;have hq2:=QM6 set_;refine ai gkA ?_;refine ai gkA ?_;refine ai (fun h5=>?_) (fun h6=>?_)
   ·exact Qy0 (i+1) (wkA []) omA ⟨folA,by exact omA⟩
   ·exact lfA
  ·rw [Qs0 (l:=(Q50 set_)) (j:=i) (geA h4)] at hR;exact lfA
def QI2 (is:Node->Bool):List Node->List Int->Nat->(List Int)
 | [],out,_=>out
 | x_ :: r,out,i=>bif (is x_) then QI2 is r (out++([(i:Int)]:List Int)) (i+1) else QI2 is r out (i+1)
def QX0 (out:List Int):Int:=(Qz0 out).1
def Q81 (l:List Node) (is:Node->Bool):Int:=bif ((Q60 l)!=0) then 0 else QX0 (QI2 is l [] 0)
def Qm3 (l:List Node) (n:Int) (act:Int) (job:Int) (now:Int):(List Node) × Int:=bif ((Q60 l)!=0) then ([],(Q60 l)) else bif ((((decide (n<0))||(decide (n >= (l.length:Int))))||(!(QX2 now)))||(!(QG4 (l.getD (Int.toNat n) Node.zero) act job))) then ([],120) else ((l.set (Int.toNat n) (Qg0 (l.getD (Int.toNat n) Node.zero) act job now)),0)
theorem fleet_Do_c (l:List Node) (n:Int) (act:Int) (job:Int) (now:Int) (hs0:l.length<=4294967296):GV 156 [nodeL l,I n,I act,I job,I now] (AVal.tup [nodeL ((Qm3 l n act job now).1),I ((Qm3 l n act job now).2)]):=by
 generalize hR:Qm3 l n act job now=R;refine gA (kp 14 [17,41]) Tryz.func156 ?_;have hk0:=hs0;obtain z5:l.length<=4294967296:=hs0;refine us (Qw2 l szA _) ?_;refine ai (fun h1=>?_) (fun h2=>?_)
 ·exact lfA
 ·(first|apply u2|apply u3|apply u4|apply us);exact Q69 now _;refine ai gkA ?_;(first|apply u2|apply u3|apply u4|apply us);exact fleet_may_c (l.getD (Int.toNat n) Node.zero) act job _;refine ai (fun h3=>?_) (fun h4=>?_)
  ·exact lfA
  ·refine us (mv [] (QAa l szA) .nil (dl lw .nil) (rO rr .nil) (rw_ 0 0 rfl)) ?_;refine ai gkA ?_;refine us (fleet_done_c (l.getD (Int.toNat n) Node.zero) act job now _) ?_;refine ai gkA ?_;refine ⟨_,QH2 rfl rfl rfl rfl (Qb1 Node.zero (Int.toNat n) (by first|rfl|exact Nat.zero_add _|omega) ckA) rfl rfl (set_map (Int.toNat n) (Qg0 (l.getD (Int.toNat n) Node.zero) act job now) (by first|rfl|exact Nat.zero_add _|omega) rfl),?_⟩;obtain rfl:=foll hR (cf h2 (cf h4 rfl));exact Q90 (Low.tup' (.cons lw (l1 .nil))) (Seen.tup (ev (Q80 Node.zero _ rfl eqA lnA) (e1 .nil)))
theorem fleet_Do_len (l:List Node) (n act job now:Int):(Qm3 l n act job now).1.length<=l.length:=by
 unfold Qm3
 repeat' first|exact Nat.zero_le _|(simp;done)|(rw [Bool.cond_eq_ite];split)
def Qm5 (l:List Node) (n:Int):Note × Bool:=bif (((((Q60 l)!=0)||(decide (n<0)))||(decide (n >= (l.length:Int))))||((l.getD (Int.toNat n) Node.zero).want==0)) then (Note.zero,false) else ((⟨(l.getD (Int.toNat n) Node.zero).want,n,(l.getD (Int.toNat n) Node.zero).job,(l.getD (Int.toNat n) Node.zero).epoch⟩:Note),true)
theorem fleet_Note_c (l:List Node) (n:Int) (hs0:l.length<=4294967296):GV 214 [nodeL l,I n] (AVal.tup [Note.a ((Qm5 l n).1),Bo ((Qm5 l n).2)]):=by
 generalize hR:Qm5 l n=R;refine gA (kp 6 [26]) Tryz.func214 ?_;have hk0:=hs0;obtain z3:l.length<=4294967296:=hs0;refine us (Qw2 l szA _) ?_;refine ai gkA ?_;refine ai (fun h1=>?_) (fun h2=>?_)
 ·exact lfA
 ·refine dchk (by kernel_rfl) ?_;refine ai gkA ?_;refine ai gkA ?_;refine ai gkA ?_;(repeat ((first|refine ai rfl ?_|refine ai (fun _=>rfl) ?_)));exact lfA
def Qz4 (l:List Int) (at_:Int):Nat->Int->Token × Int × Int × Int
 | 0,_=>(Token.zero,0,0,0)
 | m+1,i=>bif ((decide (i<(l.length:Int)))&&((l.getD (Int.toNat i) 0)!=34)) then bif ((Qm0 (l.getD (Int.toNat i) 0))==0) then (Token.zero,0,i,40) else bif ((l.getD (Int.toNat i) 0)==92) then bif ((decide ((w64 (i+1))<(l.length:Int)))&&((Qm0 (l.getD (Int.toNat (w64 (i+1))) 0))==0)) then (Token.zero,0,(w64 (i+1)),40) else Qz4 l at_ m (w64 ((w64 (i+1))+1)) else Qz4 l at_ m (w64 (i+1)) else bif (decide (i >= (l.length:Int))) then (Token.zero,0,at_,50) else bif ((Qtb (runesBytes (List.drop (Int.toNat at_) (List.take (Int.toNat (w64 (i+1))) l)))).2 != 0) then (Token.zero,0,at_,50) else ((⟨4,(Qtb (runesBytes (List.drop (Int.toNat at_) (List.take (Int.toNat (w64 (i+1))) l)))).1,0,at_⟩:Token),(w64 (i+1)),0,0)
def QK9 (l:List Int) (at_:Int):Token × Int × Int × Int:=Qz4 l at_ ((Int.toNat ((l.length:Int) - (w64 (at_+1))))+1) (w64 (at_+1))
def Qe3 (j:Job):Bool:=bif (j.state==1) then bif (((j.start != 0)||(j.limit != 0))||(j.nodes != 0)) then false else bif (j.promise==(-1)) then (j.choice==0) else (((QE1 j.promise)&&(decide ((Qr2 j.shape j.choice) > 0)))&&(!j.held)) else bif (j.state==2) then bif ((((((((Qr2 j.shape j.choice)==0)||j.held)||(!(QE1 j.start)))||(!(QE1 j.promise)))||(decide (j.start > j.promise)))||(!(QE1 j.limit)))||(j.limit != (w64 (j.start+(Qr2 j.shape j.choice))))) then false else ((QCe j.nodes)&&(Qm9 j.shape j.choice ((Qu3 j.nodes).length:Int))) else ((((((((QBe j.state)&&(j.nodes==0))&&(QE1 j.start))&&(QE1 j.limit))&&(decide (j.promise >= (-1))))&&(decide (j.promise<=1000000)))&&(decide (j.choice >= 0)))&&(decide (j.choice<=48)))
def Qk1 (r_:Resize):List Node->Int->Nat->Sum (Bool) (Int × Nat)
 | [],left,n1=>Sum.inr (left,n1)
 | x_ :: r,left,n1=>bif ((x_.job != r_.job)||(x_.state==3)) then Qk1 r_ r left (n1+1) else bif (!(QU2 x_ (n1:Int) r_)) then Sum.inl false else bif ((x_.state==1)&&(!(QY1 r_.nodes (n1:Int)))) then Qk1 r_ r (w64 (left+1)) (n1+1) else Qk1 r_ r left (n1+1)
def Qk4 (s:State) (r_:Resize):Nat->Nat->Bool
 | 0,_=>false
 | m+1,n=>bif (decide ((n:Int)<64)) then bif (((QY1 r_.said (n:Int))&&(!(QY1 r_.nodes (n:Int))))||((QY1 r_.nodes (n:Int))&&(((decide ((n:Int) >= (s.nodes.length:Int)))||((s.nodes.getD n Node.zero).job != r_.job))||((s.nodes.getD n Node.zero).state==3)))) then false else Qk4 s r_ m (n+1) else (Sum.elim id (fun p1:Int × Nat=>bif r_.grow then (decide ((w64 (((Qu3 ((QV0 s r_.job).1.nodes)).length:Int)+((Qu3 r_.nodes).length:Int)))<=(QV0 s r_.job).1.shape.max)) else ((decide (p1.1 > 0))&&(decide ((w64 (((Qu3 ((QV0 s r_.job).1.nodes)).length:Int) - ((Qu3 r_.nodes).length:Int))) >= (QV0 s r_.job).1.shape.min))))) (Qk1 r_ s.nodes 0 0)
def QI1 (s:State) (r_:Resize):Bool:=bif (((((!(QV0 s r_.job).2)||((QV0 s r_.job).1.shape.kind != 3))||(r_.nodes==0))||(decide (r_.since<0)))||(decide (r_.since > 1000000))) then false else Qk4 s r_ ((Int.toNat (64 - (0:Int)))+1) 0
def Q70 (r_:LexReader):Token × LexReader:=bif ((Qa1 (r_.line.getD (Int.toNat r_.at_) 0))==2) then ((QM1 r_).1,(QM1 r_).2) else bif ((Qa1 (r_.line.getD (Int.toNat r_.at_) 0))==3) then ((Qp1 r_).1,(Qp1 r_).2) else bif ((r_.line.getD (Int.toNat r_.at_) 0)==34) then ((Qy1 r_).1,(Qy1 r_).2) else bif ((decide ((QC4 ⟨#[61,58,44,45]⟩ (wu8 (r_.line.getD (Int.toNat r_.at_) 0))) >= 0))&&(decide ((r_.line.getD (Int.toNat r_.at_) 0)<128))) then ((⟨5,(runeStr (r_.line.getD (Int.toNat r_.at_) 0)),0,0⟩:Token),{ r_ with at_:=(w64 (r_.at_+1)) }) else bif ((Qa1 (r_.line.getD (Int.toNat r_.at_) 0))==0) then (Token.zero,(QS0 r_ r_.at_ 40)) else (Token.zero,(QS0 r_ r_.at_ 50))
theorem Qac (r_:LexReader) (hs0:r_.sz) (hp0:0<=r_.at_∧r_.at_<(r_.line.length:Int)∧r_.line.length<=400):AMoves Tryz.prog 308 [AVal.ptr 0 0 4 0 0] [(0,AObj.row 321 4 [[runes r_.line,I r_.at_,I r_.bad,I r_.error]])] 1 (Token.a ((Q70 r_).1)) [(0,AObj.row 321 4 [[runes ((Q70 r_).2.line),I ((Q70 r_).2.at_),I ((Q70 r_).2.bad),I ((Q70 r_).2.error)]])]:=by
 generalize hR:Q70 r_=R;refine mo (kp 4 [20,26,32,37,56]) Tryz.func308 ?_;have hk0:=hs0;obtain z11:r_.line.length<=4294967296:=hs0;refine dchk (by kernel_rfl) ?_;refine ai gkA ?_;(repeat ((first|refine ai rfl ?_|refine ai (fun _=>rfl) ?_)));refine us (QF3 (r_.line.getD (Int.toNat r_.at_) 0) _) ?_;refine ai (fun h1=>?_) (fun h2=>?_)
 ·refine us (mv [0] (Qcc r_ szA ckA) (dO (ds LexReader.lo) .nil) (dp .nil) (rO (re LexReader.lo) .nil) (Ren.low _ (Low.agg' (Token.lo)))) ?_;obtain rfl:=foll hR (ct h1 rfl);exact rq (ttA [0])
 ·refine us (QF3 (r_.line.getD (Int.toNat r_.at_) 0) _) ?_;refine ai (fun h3=>?_) (fun h4=>?_)
  ·refine us (mv [0] (Qkb r_ szA ckA) (dO (ds LexReader.lo) .nil) (dp .nil) (rO (re LexReader.lo) .nil) (Ren.low _ (Low.agg' (Token.lo)))) ?_;obtain rfl:=foll hR (cf h2 (ct h3 rfl));exact rq (ttA [0])
  ·refine ai (fun h5=>?_) (fun h6=>?_)
   ·refine us (mv [0] (Qbc r_ szA ckA) (dO (ds LexReader.lo) .nil) (dp .nil) (rO (re LexReader.lo) .nil) (Ren.low _ (Low.agg' (Token.lo)))) ?_;obtain rfl:=foll hR (cf h2 (cf h4 (ct h5 rfl)));exact rq (ttA [0])
   ·refine us (QEa ⟨#[61,58,44,45]⟩ (wu8 (r_.line.getD (Int.toNat r_.at_) 0)) _) ?_;refine ai (fun h7=>?_) (fun h8=>?_)
    ·obtain rfl:=foll hR (cf h2 (cf h4 (cf h6 (ct h7 rfl))));exact rq (tt [0] (tO rfl (ts LexReader.lo) .nil) (QV2 (Low.agg' (Token.lo))))
    ·refine us (QF3 (r_.line.getD (Int.toNat r_.at_) 0) _) ?_;refine ai (fun h9=>?_) (fun h10=>?_)
     ·refine us (mv [0] (QL2 r_ r_.at_ 40) (dO (ds LexReader.lo) .nil) (dp (d1 (d1 .nil))) (rO (re LexReader.lo) .nil) rx) ?_;obtain rfl:=foll hR (cf h2 (cf h4 (cf h6 (cf h8 (ct h9 rfl)))));exact rq (ttA [0])
     ·refine us (mv [0] (QL2 r_ r_.at_ 50) (dO (ds LexReader.lo) .nil) (dp (d1 (d1 .nil))) (rO (re LexReader.lo) .nil) rx) ?_;obtain rfl:=foll hR (cf h2 (cf h4 (cf h6 (cf h8 (cf h10 rfl)))));exact rq (ttA [0])
def Adv (a b:LexReader):Prop:=b.line=a.line∧a.at_<=b.at_∧b.at_<=(a.line.length:Int)∧b.error=a.error∧b.bad=a.bad
theorem Qw8 (is:Int->Bool):∀ (m:Nat) (c:LexReader),0<=c.at_->c.at_<=(c.line.length:Int)->c.line.length<=400->(Int.toNat ((c.line.length:Int) - c.at_))<m->Adv c (QA0 is m c)
 | 0,c,_,_,_,h=>absurd h (by omega)
 | m+1,c,h0,h1,h2,h=>by
  rw [QA0]
  cases hc:((decide (c.at_<(c.line.length:Int)))&&(is (c.line.getD (Int.toNat c.at_) 0))) with
  | false=>exact ⟨rfl,Int.le_refl _,h1,rfl,rfl⟩
  | true =>
   have hlt:=of_decide_eq_true ((Bool.and_eq_true _ _).mp hc).1
   have hw:w64 (c.at_+1)=c.at_+1:=wr (by omega)
   rw [hw]
   obtain ⟨a,b,d,e,f⟩:=Qw8 is m { c with at_:=c.at_+1 } (by dsimp only;omega) (by dsimp only;omega) h2 (by dsimp only;omega)
   dsimp only at a b d e f
   exact ⟨a,by simp only [cond_true];omega,d,e,f⟩
theorem QE4 (r:LexReader) (is:Int->Bool) (h0:0<=r.at_) (h1:r.at_<=(r.line.length:Int)) (h2:r.line.length<=400):Adv r (Q20 r is).2 :=
 Qw8 is _ r h0 h1 h2 (Nat.lt_succ_self _)
theorem Qh7 (r:LexReader) (is:Int->Bool) (h0:0<=r.at_) (h1:r.at_<(r.line.length:Int)) (h2:r.line.length<=400) (h:is (r.line.getD (Int.toNat r.at_) 0)=true):r.at_<(Q20 r is).2.at_:=by
 have hw:w64 (r.at_+1)=r.at_+1:=wr (by omega)
 have e:(Q20 r is).2=QA0 is (Int.toNat ((r.line.length:Int) - r.at_)) { r with at_:=r.at_+1 }:=by
  show QA0 is ((Int.toNat ((r.line.length:Int) - r.at_))+1) r=_
  rw [QA0,show ((decide (r.at_<(r.line.length:Int)))&&(is (r.line.getD (Int.toNat r.at_) 0)))=true by rw [h,Bool.and_true];exact decide_eq_true h1,hw]
  rfl
 rw [e]
 have:=(Qw8 is (Int.toNat ((r.line.length:Int) - r.at_)) { r with at_:=r.at_+1 } (by dsimp only;omega) (by dsimp only;omega) h2 (by dsimp only;omega)).2.1
 dsimp only at this
 omega
theorem Qe9 (r:LexReader) (p e:Int) (he:e ≠ 0):(QS0 r p e).line=r.line∧(QS0 r p e).at_=r.at_∧(QS0 r p e).error ≠ 0:=by
 unfold QS0
 cases h:(r.error==0) with
 | true=>exact ⟨rfl,rfl,he⟩
 | false=>exact ⟨rfl,rfl,by simpa using h⟩
def Nxt (a b:LexReader):Prop:=b.line=a.line∧a.at_<=b.at_∧b.at_<=(a.line.length:Int)∧(b.error ≠ 0∨a.at_<b.at_)
theorem lex_word_nxt (r:LexReader) (h0:0<=r.at_) (h1:r.at_<(r.line.length:Int)) (h2:r.line.length<=400) (hc:((Qa1 (r.line.getD (Int.toNat r.at_) 0))==2)=true):Nxt r (QM1 r).2:=by
 obtain ⟨a,b,c,_,_⟩:=QE4 r (fun (y:Int)=>Qb0 y ([2,3]:List Int) 0) h0 (by omega) h2
 exact ⟨a,b,c,Or.inr (Qh7 r _ h0 h1 h2 (by simp only [Qb0,hc];rfl))⟩
theorem class_digit (x:Int) (h:(Qa1 x==3)=true):48<=x∧x<=57:=by
 unfold Qa1 at h
 revert h
 cases ((x==9)||(x==32)) with
 | true=>simp
 | false =>
  simp only [cond_false]
  cases (((((decide (x<32))||((decide (x >= 127))&&(decide (x<=160))))||((decide (x >= 55296))&&(decide (x<=57343))))||(x==65533))||(decide (x > 1114111))) with
  | true=>simp
  | false =>
   simp only [cond_false]
   cases hd:((decide (x >= 48))&&(decide (x<=57))) with
   | true=>intro _;simp at hd;omega
   | false =>
    simp only [cond_false]
    cases ((((decide (x >= 97))&&(decide (x<=122)))||((decide (x >= 65))&&(decide (x<=90))))||(decide (x > 160))) <;> simp
theorem lex_count_nxt (r:LexReader) (h0:0<=r.at_) (h1:r.at_<(r.line.length:Int)) (h2:r.line.length<=400) (hc:((Qa1 (r.line.getD (Int.toNat r.at_) 0))==3)=true):Nxt r (Qp1 r).2:=by
 obtain ⟨a,b,c,_,_⟩:=QE4 r (fun (y:Int)=>(((decide (y >= 48))&&(decide (y<=57)))||((decide (y >= 97))&&(decide (y<=122))))) h0 (by omega) h2
 have hd:=class_digit _ hc
 have l:=Qh7 r (fun (y:Int)=>(((decide (y >= 48))&&(decide (y<=57)))||((decide (y >= 97))&&(decide (y<=122))))) h0 h1 h2 (by simp only [decide_eq_true hd.1,decide_eq_true hd.2];rfl)
 unfold Qp1
 cases (!(Q27 ((Q20 r (fun (y:Int)=>(((decide (y >= 48))&&(decide (y<=57)))||((decide (y >= 97))&&(decide (y<=122)))))).1))) with
 | true=>exact ⟨a,b,c,Or.inr l⟩
 | false =>
  simp only [cond_false]
  cases (!(QT5 ((Q20 r (fun (y:Int)=>(((decide (y >= 48))&&(decide (y<=57)))||((decide (y >= 97))&&(decide (y<=122)))))).1)).2) with
  | false=>exact ⟨a,b,c,Or.inr l⟩
  | true =>
   obtain ⟨f1,f2,f3⟩:=Qe9 (Q20 r (fun (y:Int)=>(((decide (y >= 48))&&(decide (y<=57)))||((decide (y >= 97))&&(decide (y<=122)))))).2 r.at_ 50 (by decide)
   exact ⟨f1.trans a,by simp only [cond_true];rw [f2];exact b,by simp only [cond_true];rw [f2];exact c,Or.inl f3⟩
theorem QGc:∀ (m:Nat) (c:LexReader) (b:Bool),0<=c.at_->c.at_<=(c.line.length:Int)->c.line.length<=400->(Int.toNat ((c.line.length:Int) - c.at_))<m->Adv c (QH1 m c b).1
 | 0,c,_,_,_,_,h=>absurd h (by omega)
 | m+1,c,b,h0,h1,h2,h=>by
  rw [QH1]
  cases hc:((decide (c.at_<(c.line.length:Int)))&&(Qh1 (c.line.getD (Int.toNat c.at_) 0) b).1) with
  | false=>exact ⟨rfl,Int.le_refl _,h1,rfl,rfl⟩
  | true =>
   have hlt:=of_decide_eq_true ((Bool.and_eq_true _ _).mp hc).1
   have hw:w64 (c.at_+1)=c.at_+1:=wr (by omega)
   rw [hw]
   obtain ⟨a,b,d,e,f⟩:=QGc m { c with at_:=c.at_+1 } _ (by dsimp only;omega) (by dsimp only;omega) h2 (by dsimp only;omega)
   dsimp only at a b d e f
   exact ⟨a,by simp only [cond_true];omega,d,e,f⟩
theorem lex_text_nxt (r:LexReader) (h0:0<=r.at_) (h1:r.at_<(r.line.length:Int)) (h2:r.line.length<=400):Nxt r (Qy1 r).2:=by
 obtain ⟨a,b,c,_,_⟩:=QGc _ r true h0 (by omega) h2 (Nat.lt_succ_self _)
 unfold Qy1
 generalize (QH1 ((Int.toNat ((r.line.length:Int) - r.at_))+1) r true).1=q at a b c
 unfold Q62
 have ff:∀ (x:LexReader) (p e:Int),e ≠ 0->x.line=r.line->r.at_<=x.at_->x.at_<=(r.line.length:Int)->Nxt r (QS0 x p e):=by
  intro x p e he hx hp hq
  obtain ⟨f1,f2,f3⟩:=Qe9 x p e he
  exact ⟨f1.trans hx,by rw [f2];exact hp,by rw [f2];exact hq,Or.inl f3⟩
 cases h3:(q.at_==(q.line.length:Int)) with
 | true=>exact ff q _ _ (by decide) a b c
 | false =>
  simp only [cond_false]
  have h3':q.at_ ≠ (r.line.length:Int):=by rw [a] at h3;simpa using h3
  have hw:w64 (q.at_+1)=q.at_+1:=wr (by omega)
  cases ((q.line.getD (Int.toNat q.at_) 0)!=34) with
  | true=>exact ff q _ _ (by decide) a b c
  | false =>
   simp only [cond_false]
   rw [hw]
   cases h4:((QA2 (runesBytes (List.drop (Int.toNat r.at_) (List.take (Int.toNat (q.at_+1)) q.line)))).2 != 0) with
   | true=>exact ff { q with at_:=q.at_+1 } _ _ (by simpa using h4) a (by show r.at_<=q.at_+1;omega) (by show q.at_+1<=_;omega)
   | false=>exact ⟨a,by show r.at_<=q.at_+1;omega,by show q.at_+1<=_;omega,Or.inr (by show r.at_<q.at_+1;omega)⟩
theorem lex_next_nxt (r:LexReader) (h0:0<=r.at_) (h1:r.at_<(r.line.length:Int)) (h2:r.line.length<=400):Nxt r (Q70 r).2:=by
 have hw:w64 (r.at_+1)=r.at_+1:=wr (by omega)
 have ff:∀ (e:Int),e ≠ 0->Nxt r (QS0 r r.at_ e):=by
  intro e he
  obtain ⟨f1,f2,f3⟩:=Qe9 r r.at_ e he
  exact ⟨f1,by rw [f2];exact Int.le_refl _,by rw [f2];omega,Or.inl f3⟩
 unfold Q70
 cases hc:((Qa1 (r.line.getD (Int.toNat r.at_) 0))==2) with
 | true=>exact lex_word_nxt r h0 h1 h2 hc
 | false =>
  simp only [cond_false]
  cases hd:((Qa1 (r.line.getD (Int.toNat r.at_) 0))==3) with
  | true=>exact lex_count_nxt r h0 h1 h2 hd
  | false =>
   simp only [cond_false]
   cases ((r.line.getD (Int.toNat r.at_) 0)==34) with
   | true=>exact lex_text_nxt r h0 h1 h2
   | false =>
    simp only [cond_false]
    cases ((decide ((QC4 ⟨#[61,58,44,45]⟩ (wu8 (r.line.getD (Int.toNat r.at_) 0))) >= 0))&&(decide ((r.line.getD (Int.toNat r.at_) 0)<128))) with
    | true=>rw [hw];exact ⟨rfl,by show r.at_<=r.at_+1;omega,by show r.at_+1<=_;omega,Or.inr (by show r.at_<r.at_+1;omega)⟩
    | false =>
     simp only [cond_false]
     cases ((Qa1 (r.line.getD (Int.toNat r.at_) 0))==0) with
     | true=>exact ff 40 (by decide)
     | false=>exact ff 50 (by decide)
theorem lex_round (r c:LexReader) (b:Int->Bool) (h0:0<=r.at_) (h1:r.at_<=(r.line.length:Int)) (h2:r.line.length<=400) (he:(r.error==0)=true) (e:c=(Q20 r b).2) (hn:(c.at_==(c.line.length:Int))=false) :
  (0<=c.at_∧c.at_<(c.line.length:Int)∧c.line.length<=400)∧(0<=(Q70 c).2.at_∧(Q70 c).2.at_<=((Q70 c).2.line.length:Int)∧(Q70 c).2.line.length<=400) ∧
  2*Int.toNat (((Q70 c).2.line.length:Int) - (Q70 c).2.at_)+(bif (Q70 c).2.error==0 then 1 else 0)<2*Int.toNat ((r.line.length:Int) - r.at_)+(bif r.error==0 then 1 else 0) ∧
  (((Q70 c).2.error==0)=true->r.at_+1<=(Q70 c).2.at_):=by
 obtain ⟨a1,a2,a3,a4,a5⟩:=QE4 r b h0 h1 h2
 rw [← e] at a1 a2 a3 a4 a5
 have hn':c.at_ ≠ (r.line.length:Int):=by rw [a1] at hn;simpa using hn
 have hc:0<=c.at_∧c.at_<(c.line.length:Int)∧c.line.length<=400:=by rw [a1];omega
 obtain ⟨n1,n2,n3,n4⟩:=lex_next_nxt c hc.1 hc.2.1 hc.2.2
 rw [he]
 rw [a1] at n1 n3
 refine ⟨hc,by rw [n1];omega,?_⟩
 rw [n1]
 rcases n4 with n4|n4
 ·have:((Q70 c).2.error==0)=false:=by simpa using n4
  rw [this]
  simp only [cond_true,cond_false]
  exact ⟨by omega,fun h=>nomatch h⟩
 ·refine ⟨?_,fun _=>by omega⟩
  cases ((Q70 c).2.error==0) <;> simp only [cond_true,cond_false] <;> omega
def QE0 (v:Job) (choice:Int):Alt × Bool:=bif ((decide (choice<0))||(decide (choice >= ((Q21 v.shape).length:Int)))) then (Alt.zero,false) else (((Q21 v.shape).getD (Int.toNat choice) Alt.zero),true)
theorem Q38 (v:Job) (choice:Int) (hs0:v.sz):GV 238 [Job.a v,I choice] (AVal.tup [Alt.a ((QE0 v choice).1),Bo ((QE0 v choice).2)]):=by
 generalize hR:QE0 v choice=R;refine gA (kp 7 [18]) Tryz.func238 ?_;obtain ⟨z3,z4,z5,z6,z7⟩:=Job.zz hs0;refine us (QO5 v.shape szA _) ?_;refine ai (fun h1=>?_) (fun h2=>?_)
 ·exact lfA
 ·refine ai gkA ?_;exact lfA
def Qn2 (s:Shape) (choice:Int) (n:Int):Bool:=bif ((decide (choice<0))||(decide (choice >= ((Q21 s).length:Int)))) then false else bif (s.kind==3) then ((decide (n >= s.min))&&(decide (n<=s.max))) else (((Q21 s).getD (Int.toNat choice) Alt.zero).nodes==n)
theorem Qp6 (s:Shape) (choice:Int) (n:Int) (hs0:s.sz):GV 226 [Shape.a s,I choice,I n] (Bo (Qn2 s choice n)):=by
 generalize hR:Qn2 s choice n=R;refine gA (kp 8 [17,20]) Tryz.func226 ?_;have hk0:=hs0;obtain z5:s.alts.length<=4294967296:=hs0;refine us (QO5 s szA _) ?_;refine ai (fun h1=>?_) (fun h2=>?_)
 ·exact lfA
 ·refine ai (fun h3=>?_) (fun h4=>?_)
  ·exact lfA
  ·refine ai gkA ?_;exact lfA
def QD5 (l:List Node) (job:Int) (state:Int):Int:=(Q81 l (fun (y:Node)=>((y.job==job)&&(y.state==state))))
theorem Q6c (l:List Node) (job:Int) (state:Int) (hs0:l.length<=4294967296):GV 124 [nodeL l,I job,I state] (U (QD5 l job state)):=by
 generalize hR:QD5 l job state=R;refine gA (kp 7 []) Tryz.func124 ?_;have hk0:=hs0;obtain z7:l.length<=4294967296:=hs0;have cl1:∀ (y1:Node),AMoves Tryz.prog 184 [Node.a y1,AVal.ptr 0 0 1 0 0,AVal.ptr 1 0 1 0 0] [(0,AObj.row 3 1 [[I job]]),(0,AObj.row 3 1 [[I state]])] 2 (Bo ((fun (y:Node)=>((y.job==job)&&(y.state==state))) y1)) [(0,AObj.row 3 1 [[I job]]),(0,AObj.row 3 1 [[I state]])]:=by
  intro y1;have hR:(fun (y:Node)=>((y.job==job)&&(y.state==state))) y1=(fun (y:Node)=>((y.job==job)&&(y.state==state))) y1:=rfl;refine mo (kp 5 []) Tryz.func184 ?_;refine Qi0 (fun r:Bool=>Bo r) (fun _=>[(0,AObj.row 3 1 [[I job]]),(0,AObj.row 3 1 [[I state]])]) (leaf:=((y1.job==job)&&(y1.state==state))) (foll hR rfl) ?_;exact tt [0,1] (tO rfl (ts (l1 LowL.nil)) (tO rfl (ts (l1 LowL.nil)) .nil)) t1
 have hof1:AMoves Tryz.prog 153 [nodeL l,AVal.fn (.func 184) [] [AVal.ptr 0 0 1 0 0,AVal.ptr 1 0 1 0 0]] [(0,AObj.row 3 1 [[I job]]),(0,AObj.row 3 1 [[I state]])] 2 (U (Q81 l (fun (y:Node)=>((y.job==job)&&(y.state==state))))) [(0,AObj.row 3 1 [[I job]]),(0,AObj.row 3 1 [[I state]])]:=by
  have hR:Q81 l (fun (y:Node)=>((y.job==job)&&(y.state==state)))=Q81 l (fun (y:Node)=>((y.job==job)&&(y.state==state))):=rfl;refine mo (kp 10 [12,13,14,15,16,22]) Tryz.func153 ?_;refine us (Qw2 l szA _) ?_;refine ai (fun h1=>?_) (fun h2=>?_)
  ·refine Qi0 (fun r:Int=>U r) (fun r:Int=>[(0,AObj.row 3 1 [[I job]]),(0,AObj.row 3 1 [[I state]])]) (leaf:=0) (foll hR (ct h1 rfl)) ?_;exact tt [0,1] (tO rfl (ts (l1 LowL.nil)) (tO rfl (ts (l1 LowL.nil)) .nil)) t1
  ·refine QF0 (fun (out:List Int) (i:Nat)=>QX0 (QI2 (fun (y:Node)=>((y.job==job)&&(y.state==state))) (List.drop i l) out i)=Q81 l (fun (y:Node)=>((y.job==job)&&(y.state==state)))∧i<=l.length∧out.length<=i) (fun out i=>l.length - i) (fun out i=>[(1,AVal.fn (.func 184) [] [AVal.ptr 0 0 1 0 0,AVal.ptr 1 0 1 0 0]),(4,U 0),(5,AVal.own 2 0 1 0 out.length),(13,nodeL l),(14,I (l.length:Int)),(15,I (i:Int))]) (fun out i=>[(0,AObj.row 3 1 [[I job]]),(0,AObj.row 3 1 [[I state]]),(0,AObj.row 3 1 (out.map (fun q_=>[I q_])))]) [] 0 ((Qk3 3 1).trans (wkA [0,1,2])) ⟨folA,by exact omA,by exact exA⟩ ?_;clear hR;rintro out i ⟨hR,hj,hx⟩;(try dsimp only at hR hj hx);refine ai (fun h3=>?_) (fun h4=>?_)
   ·have hlt:=ltA h3;rw [Qr0 Node.zero hlt] at hR;refine ai gkA ?_;refine us (mv [0,1] (cl1 (l.getD i Node.zero)) (dO (ds (l1 LowL.nil)) (dO (ds (l1 LowL.nil)) .nil)) (dl (Node.low _ _) (dp (dp .nil))) (rO (re (l1 LowL.nil)) (rO (re (l1 LowL.nil)) .nil)) rx) ?_;refine ai (fun h5=>?_) (fun h6=>?_)
    ·refine Or.inl ?_;(first|refine ⟨Qe2 8 rfl lnA apA,?_⟩|refine ⟨Ql1 8 rfl apA,?_⟩);exact Qh0 (out++([(i:Int)]:List Int)) (i+1) (wkA [0,1,2]) omA ⟨foll hR (congrArg (fun p:(List Int)=>QX0 p) (ct h5 rfl)),by exact omA,by exact exA⟩
    ·exact Qh0 out (i+1) (wkA [0,1,2]) omA ⟨foll hR (congrArg (fun p:(List Int)=>QX0 p) (cf h6 rfl)),by exact omA,by exact exA⟩
   ·rw [Qs0 (l:=l) (j:=i) (geA h4)] at hR;replace hR:QX0 out=Q81 l (fun (y:Node)=>((y.job==job)&&(y.state==state))):=fo2 (fun p:(List Int)=>QX0 p) (out) hR rfl;refine us (AGives.lent (Qy6 out szA []) (ev (Q80 _ _ rfl eqA lnA) .nil) (.cons lw .nil) (QO2 rfl)) ?_;refine Qi0 (fun r:Int=>U r) (fun r:Int=>[(0,AObj.row 3 1 [[I job]]),(0,AObj.row 3 1 [[I state]])]) (leaf:=(Qz0 out).1) (foll hR rfl) ?_;exact tt [0,1] (tO rfl (ts (l1 LowL.nil)) (tO rfl (ts (l1 LowL.nil)) .nil)) t1
 refine us (mv [0,1] (hof1) (dO (ds (l1 LowL.nil)) (dO (ds (l1 LowL.nil)) .nil)) (dl lw (dv (dn_fn .nil (dp (dp .nil))) .nil)) (rO (re (l1 LowL.nil)) (rO (re (l1 LowL.nil)) .nil)) rx) ?_;exact lfA
def Qp8 (l:List Node):Int:=(Q81 l (fun (y:Node)=>((y.state != 4)&&(!y.drain))))
theorem fleet_Up_c (l:List Node) (hs0:l.length<=4294967296):GV 144 [nodeL l] (U (Qp8 l)):=by
 generalize hR:Qp8 l=R;refine gA (kp 3 []) Tryz.func144 ?_;have hk0:=hs0;obtain z7:l.length<=4294967296:=hs0;have cl1:∀ (y1:Node),AMoves Tryz.prog 204 [Node.a y1] [] 0 (Bo ((fun (y:Node)=>((y.state != 4)&&(!y.drain))) y1)) []:=by
  intro y1;have hR:(fun (y:Node)=>((y.state != 4)&&(!y.drain))) y1=(fun (y:Node)=>((y.state != 4)&&(!y.drain))) y1:=rfl;refine mo (kp 3 []) Tryz.func204 ?_;refine Qi0 (fun r:Bool=>Bo r) (fun _=>[]) (leaf:=((y1.state != 4)&&(!y1.drain))) (foll hR rfl) ?_;exact tt [] .nil t1
 have hof1:AMoves Tryz.prog 153 [nodeL l,AVal.fn (.func 204) [] []] [] 0 (U (Q81 l (fun (y:Node)=>((y.state != 4)&&(!y.drain))))) []:=by
  have hR:Q81 l (fun (y:Node)=>((y.state != 4)&&(!y.drain)))=Q81 l (fun (y:Node)=>((y.state != 4)&&(!y.drain))):=rfl;refine mo (kp 10 [12,13,14,15,16,22]) Tryz.func153 ?_;refine us (Qw2 l szA _) ?_;refine ai (fun h1=>?_) (fun h2=>?_)
  ·refine Qi0 (fun r:Int=>U r) (fun r:Int=>[]) (leaf:=0) (foll hR (ct h1 rfl)) ?_;exact tt [] .nil t1
  ·refine QF0 (fun (out:List Int) (i:Nat)=>QX0 (QI2 (fun (y:Node)=>((y.state != 4)&&(!y.drain))) (List.drop i l) out i)=Q81 l (fun (y:Node)=>((y.state != 4)&&(!y.drain)))∧i<=l.length∧out.length<=i) (fun out i=>l.length - i) (fun out i=>[(1,AVal.fn (.func 204) [] []),(4,U 0),(5,AVal.own 0 0 1 0 out.length),(13,nodeL l),(14,I (l.length:Int)),(15,I (i:Int))]) (fun out i=>[(0,AObj.row 3 1 (out.map (fun q_=>[I q_])))]) [] 0 ((Qk3 3 1).trans (wkA [0])) ⟨folA,by exact omA,by exact exA⟩ ?_;clear hR;rintro out i ⟨hR,hj,hx⟩;(try dsimp only at hR hj hx);refine ai (fun h3=>?_) (fun h4=>?_)
   ·have hlt:=ltA h3;rw [Qr0 Node.zero hlt] at hR;refine ai gkA ?_;refine us (mv [] (cl1 (l.getD i Node.zero)) .nil (dl (Node.low _ _) .nil) .nil rx) ?_;refine ai (fun h5=>?_) (fun h6=>?_)
    ·refine Or.inl ?_;(first|refine ⟨Qe2 8 rfl lnA apA,?_⟩|refine ⟨Ql1 8 rfl apA,?_⟩);exact Qh0 (out++([(i:Int)]:List Int)) (i+1) (wkA [0]) omA ⟨foll hR (congrArg (fun p:(List Int)=>QX0 p) (ct h5 rfl)),by exact omA,by exact exA⟩
    ·exact Qh0 out (i+1) (wkA [0]) omA ⟨foll hR (congrArg (fun p:(List Int)=>QX0 p) (cf h6 rfl)),by exact omA,by exact exA⟩
   ·rw [Qs0 (l:=l) (j:=i) (geA h4)] at hR;replace hR:QX0 out=Q81 l (fun (y:Node)=>((y.state != 4)&&(!y.drain))):=fo2 (fun p:(List Int)=>QX0 p) (out) hR rfl;refine us (AGives.lent (Qy6 out szA []) (ev (Q80 _ _ rfl eqA lnA) .nil) (.cons lw .nil) (QO2 rfl)) ?_;refine Qi0 (fun r:Int=>U r) (fun r:Int=>[]) (leaf:=(Qz0 out).1) (foll hR rfl) ?_;exact tt [] .nil t1
 refine us (mv [] (hof1) .nil (dl lw (dv (QP5 (Low.fn _ _ _ LowL.nil LowL.nil)) .nil)) .nil rx) ?_;exact lfA
def QQ3 (l:List Node):Int:=(Q81 l (fun (y:Node)=>((y.state==0)&&(!y.drain))))
theorem fleet_Free_c (l:List Node) (hs0:l.length<=4294967296):GV 96 [nodeL l] (U (QQ3 l)):=by
 generalize hR:QQ3 l=R;refine gA (kp 3 []) Tryz.func96 ?_;have hk0:=hs0;obtain z7:l.length<=4294967296:=hs0;have cl1:∀ (y1:Node),AMoves Tryz.prog 154 [Node.a y1] [] 0 (Bo ((fun (y:Node)=>((y.state==0)&&(!y.drain))) y1)) []:=by
  intro y1;have hR:(fun (y:Node)=>((y.state==0)&&(!y.drain))) y1=(fun (y:Node)=>((y.state==0)&&(!y.drain))) y1:=rfl;refine mo (kp 3 []) Tryz.func154 ?_;refine Qi0 (fun r:Bool=>Bo r) (fun _=>[]) (leaf:=((y1.state==0)&&(!y1.drain))) (foll hR rfl) ?_;exact tt [] .nil t1
 have hof1:AMoves Tryz.prog 153 [nodeL l,AVal.fn (.func 154) [] []] [] 0 (U (Q81 l (fun (y:Node)=>((y.state==0)&&(!y.drain))))) []:=by
  have hR:Q81 l (fun (y:Node)=>((y.state==0)&&(!y.drain)))=Q81 l (fun (y:Node)=>((y.state==0)&&(!y.drain))):=rfl;refine mo (kp 10 [12,13,14,15,16,22]) Tryz.func153 ?_;refine us (Qw2 l szA _) ?_;refine ai (fun h1=>?_) (fun h2=>?_)
  ·refine Qi0 (fun r:Int=>U r) (fun r:Int=>[]) (leaf:=0) (foll hR (ct h1 rfl)) ?_;exact tt [] .nil t1
  ·refine QF0 (fun (out:List Int) (i:Nat)=>QX0 (QI2 (fun (y:Node)=>((y.state==0)&&(!y.drain))) (List.drop i l) out i)=Q81 l (fun (y:Node)=>((y.state==0)&&(!y.drain)))∧i<=l.length∧out.length<=i) (fun out i=>l.length - i) (fun out i=>[(1,AVal.fn (.func 154) [] []),(4,U 0),(5,AVal.own 0 0 1 0 out.length),(13,nodeL l),(14,I (l.length:Int)),(15,I (i:Int))]) (fun out i=>[(0,AObj.row 3 1 (out.map (fun q_=>[I q_])))]) [] 0 ((Qk3 3 1).trans (wkA [0])) ⟨folA,by exact omA,by exact exA⟩ ?_;clear hR;rintro out i ⟨hR,hj,hx⟩;(try dsimp only at hR hj hx);refine ai (fun h3=>?_) (fun h4=>?_)
   ·have hlt:=ltA h3;rw [Qr0 Node.zero hlt] at hR;refine ai gkA ?_;refine us (mv [] (cl1 (l.getD i Node.zero)) .nil (dl (Node.low _ _) .nil) .nil rx) ?_;refine ai (fun h5=>?_) (fun h6=>?_)
    ·refine Or.inl ?_;(first|refine ⟨Qe2 8 rfl lnA apA,?_⟩|refine ⟨Ql1 8 rfl apA,?_⟩);exact Qh0 (out++([(i:Int)]:List Int)) (i+1) (wkA [0]) omA ⟨foll hR (congrArg (fun p:(List Int)=>QX0 p) (ct h5 rfl)),by exact omA,by exact exA⟩
    ·exact Qh0 out (i+1) (wkA [0]) omA ⟨foll hR (congrArg (fun p:(List Int)=>QX0 p) (cf h6 rfl)),by exact omA,by exact exA⟩
   ·rw [Qs0 (l:=l) (j:=i) (geA h4)] at hR;replace hR:QX0 out=Q81 l (fun (y:Node)=>((y.state==0)&&(!y.drain))):=fo2 (fun p:(List Int)=>QX0 p) (out) hR rfl;refine us (AGives.lent (Qy6 out szA []) (ev (Q80 _ _ rfl eqA lnA) .nil) (.cons lw .nil) (QO2 rfl)) ?_;refine Qi0 (fun r:Int=>U r) (fun r:Int=>[]) (leaf:=(Qz0 out).1) (foll hR rfl) ?_;exact tt [] .nil t1
 refine us (mv [] (hof1) .nil (dl lw (dv (QP5 (Low.fn _ _ _ LowL.nil LowL.nil)) .nil)) .nil rx) ?_;exact lfA
def Q83 (l:List Node):List Int->List Note->Nat->(List Note)
 | [],out,_=>out
 | x_ :: r,out,i=>bif (Qm5 l x_).2 then Q83 l r (out++([(Qm5 l x_).1]:List Note)) (i+1) else Q83 l r out (i+1)
def Q93 (out:List Note):(List Note):=out
def Q55 (l:List Node) (nodes:List Int):(List Note):=Q93 (Q83 l nodes [] 0)
theorem alloc_Notes_c (l:List Node) (nodes:List Int) (hs0:l.length<=4294967296) (hs1:nodes.length<=4294967296):GV 158 [nodeL l,ints nodes] (noteL (Q55 l nodes)):=by
 generalize hR:Q55 l nodes=R;refine gA (kp 10 [10,11,12,13,22]) Tryz.func158 ?_;have hk0:=hs0;obtain z5:l.length<=4294967296:=hs0;have hk1:=hs1;obtain z6:nodes.length<=4294967296:=hs1;refine QF0 (fun (out:List Note) (i:Nat)=>Q93 (Q83 l (List.drop i nodes) out i)=R∧i<=nodes.length∧out.length<=i) (fun out i=>nodes.length - i) (fun out i=>[(0,nodeL l),(4,AVal.lit (.slice none 0 0)),(5,AVal.own 0 0 4 0 out.length),(10,ints nodes),(11,I (nodes.length:Int)),(12,I (i:Int))]) (fun out i=>[(0,AObj.row 41 4 (out.map Note.cells))]) [] 0 ((Qk3 41 4).trans (wkA [0])) ⟨foll hR rfl,by exact omA,by exact exA⟩ ?_;clear hR;rintro out i ⟨hR,hj,hx⟩;(try dsimp only at hR hj hx);refine ai (fun h1=>?_) (fun h2=>?_)
 ·have hlt:=ltA h1;rw [Qr0 0 hlt] at hR;refine ai gkA ?_;refine us (fleet_Note_c l (nodes.getD i 0) szA _) ?_;refine ai (fun h3=>?_) (fun h4=>?_)
  ·refine Or.inl ?_;(first|refine ⟨Qe2 32 rfl lnA apA,?_⟩|refine ⟨Ql1 32 rfl apA,?_⟩);exact Qh0 (out++([(Qm5 l (nodes.getD i 0)).1]:List Note)) (i+1) (wkA [0]) omA ⟨foll hR (congrArg (fun p:(List Note)=>Q93 p) (ct h3 rfl)),by exact omA,by exact exA⟩
  ·exact Qh0 out (i+1) (wkA [0]) omA ⟨foll hR (congrArg (fun p:(List Note)=>Q93 p) (cf h4 rfl)),by exact omA,by exact exA⟩
 ·rw [Qs0 (l:=nodes) (j:=i) (geA h2)] at hR;replace hR:Q93 out=R:=fo2 (fun p:(List Note)=>Q93 p) (out) hR rfl;obtain rfl:=foll hR rfl;exact Q90 lw (Q80 Note.zero _ rfl eqA lnA)
def Qz6 (l:List Int) (at_:Int) (i:Bool):Token × Int × Int × Int:=bif i then ((⟨5,(runesBytes (List.drop (Int.toNat at_) (List.take (Int.toNat (w64 (at_+1))) l))),0,at_⟩:Token),(w64 (at_+1)),0,0) else (Token.zero,0,at_,50)
def QX1 (l:List Int) (at_:Int):Token × Int × Int × Int:=bif ((Qm0 (l.getD (Int.toNat at_) 0))==0) then (Token.zero,0,at_,40) else bif ((Qm0 (l.getD (Int.toNat at_) 0))==2) then ((⟨1,(QT2 (runesBytes (List.drop (Int.toNat at_) (List.take (Int.toNat (QI4 l at_)) l)))),0,at_⟩:Token),(QI4 l at_),0,0) else bif ((Qm0 (l.getD (Int.toNat at_) 0))==3) then bif (ref05_plain (List.drop (Int.toNat at_) (List.take (Int.toNat (QI4 l at_)) l))) then ((⟨3,(runesBytes (List.drop (Int.toNat at_) (List.take (Int.toNat (QI4 l at_)) l))),0,at_⟩:Token),(QI4 l at_),0,0) else bif (decide ((QLc (List.drop (Int.toNat at_) (List.take (Int.toNat (QI4 l at_)) l)))<0)) then (Token.zero,0,at_,50) else ((⟨2,⟨#[]⟩,(QLc (List.drop (Int.toNat at_) (List.take (Int.toNat (QI4 l at_)) l))),at_⟩:Token),(QI4 l at_),0,0) else bif ((l.getD (Int.toNat at_) 0)==34) then ((QK9 l at_).1,(QK9 l at_).2.1,(QK9 l at_).2.2.1,(QK9 l at_).2.2.2) else bif ((l.getD (Int.toNat at_) 0)==61) then Qz6 l at_ ((l.getD (Int.toNat at_) 0)==61) else bif ((l.getD (Int.toNat at_) 0)==58) then Qz6 l at_ ((l.getD (Int.toNat at_) 0)==58) else bif ((l.getD (Int.toNat at_) 0)==44) then Qz6 l at_ ((l.getD (Int.toNat at_) 0)==44) else Qz6 l at_ ((l.getD (Int.toNat at_) 0)==45)
def Qf0 (y:Int):List Int->Nat->Bool
 | [],_=>false
 | x_1 :: r,i=>bif ((Qa1 y)==x_1) then true else Qf0 y r (i+1)
def Qw4 (line:ByteArray):List (Nat × Int)->LexReader->LexReader
 | [],c=>c
 | x_ :: r,c=>Qw4 line r { c with line:=(c.line++([x_.2]:List Int)) }
def QD1 :Nat->List Token->LexReader->(List Token) × Int × Int
 | 0,_,_=>([],0,0)
 | m+1,out,c2=>bif (c2.error==0) then bif ((Q20 c2 (fun (y:Int)=>Qf0 y ([1]:List Int) 0)).2.at_==(((Q20 c2 (fun (y:Int)=>Qf0 y ([1]:List Int) 0)).2.line).length:Int)) then (out,(((Q20 c2 (fun (y:Int)=>Qf0 y ([1]:List Int) 0)).2.line).length:Int),0) else QD1 m (out++([{ (Q70 ((Q20 c2 (fun (y:Int)=>Qf0 y ([1]:List Int) 0)).2)).1 with at_:=(Q20 c2 (fun (y:Int)=>Qf0 y ([1]:List Int) 0)).2.at_ }]:List Token)) ((Q70 ((Q20 c2 (fun (y:Int)=>Qf0 y ([1]:List Int) 0)).2)).2) else ([],c2.bad,c2.error)
def Qx4 (c:LexReader):(List Token) × Int × Int:=QD1 ((2*Int.toNat ((c.line.length:Int) - c.at_)+(bif c.error==0 then 1 else 0))+1) [] c
def Qd1 (line:ByteArray):(List Token) × Int × Int:=bif (decide ((ByteArray.size line:Int) > 400)) then ([],0,3) else Qx4 (Qw4 line (Qo6 line) LexReader.zero)
theorem b6a0 {P:Prop} (h:P:=by first|(have hq:=hrd _ (by assumption);exact ⟨hq.2.1.1,hq.2.1.2.1,hq.2.1.2.2,fun hz=>by have hq3:=hq.2.2.2 hz;simp only [List.length_append,List.length_cons,List.length_nil];omega⟩)|first|(refine ⟨by omega,by omega,by omega,fun _=>by simp;omega⟩)|first|(simp [LexReader.zero];done)|first|(simp;omega)|exact exA):P:=h
theorem lex_Tokens_c (line:ByteArray) (hs0:line.size<=4294967296):GV 301 [Sg line] (AVal.tup [tokenL ((Qd1 line).1),I ((Qd1 line).2.1),I ((Qd1 line).2.2)]):=by
 generalize hR:Qd1 line=R;refine gA (kp 12 [14,18,19,20,38,51]) Tryz.func301 ?_;have hk0:=hs0;obtain z15:line.size<=4294967296:=hs0;refine ai (fun h1=>?_) (fun h2=>?_)
 ·have qh1:=of_decide_eq_true h1;exact lfA
 ·have qh2:=of_decide_eq_false h2;refine QF0 (fun (c:LexReader) (pos:Nat)=>∃ m,ByteArray.size line - pos<=m∧Qx4 (Qw4 line (Qa4 line m pos) c)=R∧c.line.length<=pos∧pos<=ByteArray.size line∧c.at_=0) (fun c pos=>ByteArray.size line - pos) (fun c pos=>[(2,AVal.lit (.slice none 0 0)),(3,I 0),(4,I 0),(5,AVal.ptr 0 0 4 0 0),(18,AVal.ptr 1 0 1 0 0)]) (fun c pos=>[(0,AObj.row 321 4 [[AVal.own 2 0 1 0 c.line.length,I c.at_,I c.bad,I c.error]]),(0,AObj.other (.strIter line pos)),(0,AObj.row 21 1 (c.line.map (fun q_=>[J q_])))]) LexReader.zero 0 ((Qk3 21 1).trans (wkA [0,1,2])) ⟨ByteArray.size line,by first|(have hq:=hrd _ (by assumption);omega)|exact omA,foll hR (cf h2 rfl),b6a0⟩ ?_;clear hR;rintro c pos ⟨m,hm,hR,hx⟩;(try dsimp only at hR hm hx);refine ai (fun h3=>?_) (fun h4=>?_)
  ·have hlt:=of_decide_eq_true h3;have hw:=QD9 line pos;have hwe:=QC9 line pos hlt;obtain ⟨m,rfl⟩:=sucA m;rw [QI3 h3] at hR;refine ai (fun _=>?_) (fun h=>nomatch h);refine Or.inl ?_;(first|refine ⟨Qe2 4 rfl lnA apA,?_⟩|refine ⟨Ql1 4 rfl apA,?_⟩);exact Qh0 { c with line:=(c.line++([(pos,((Utf8.decode line pos).1:Int)).2]:List Int)) } (pos+(Utf8.decode line pos).2) (wkA [0,1,2]) (by first|(have hq:=hrd _ (by assumption);omega)|exact omA) ⟨m,by first|(have hq:=hrd _ (by assumption);omega)|exact omA,foll hR (congrArg (fun p:LexReader=>Qx4 p) rfl),b6a0⟩
  ·rw [QI6 h4] at hR;refine ai (fun h=>nomatch h) (fun _=>?_);replace hR:Qx4 c=R:=fo2 (fun p:LexReader=>Qx4 p) (c) hR rfl;refine Or.inl ?_;refine ACalls.of_cwp (fun _=>true) Tryz.func306 rfl rfl ?_;refine ⟨_,_,Told.refl,?_⟩;refine QF0 (fun (out:List Token) (c2:LexReader)=>∃ m,(2*Int.toNat ((c2.line.length:Int) - c2.at_)+(bif c2.error==0 then 1 else 0))<m∧QD1 m out c2=R∧0<=c2.at_∧c2.at_<=(c2.line.length:Int)∧c2.line.length<=400∧((c2.error==0)=true->(out.length:Int)<=c2.at_)) (fun out c2=>(2*Int.toNat ((c2.line.length:Int) - c2.at_)+(bif c2.error==0 then 1 else 0))) (fun out c2=>[(2,AVal.lit (.slice none 0 0)),(3,I 0),(4,I 0),(5,AVal.ptr 0 0 4 0 0),(8,AVal.fn (.func 315) [] [AVal.ptr 1 0 1 0 0]),(9,AVal.own 2 0 4 0 out.length)]) (fun out c2=>[(0,AObj.row 321 4 [[runes c2.line,I c2.at_,I c2.bad,I c2.error]]),(0,AObj.row 52 1 [[ints ([1]:List Int)]]),(0,AObj.row 305 4 (out.map Token.cells))]) [] c ((Qk3 305 4).trans (wk [0,3,4] (tO rfl (Qo2 (cv (Q87 _ _ rfl (Nat.zero_le _) (by decide) eqA (fun _=>lowL1 rfl) lnA) (c1 (c1 (c1 .nil))))) (tO rfl (Qo2 (cv (turn_as (QN2 (c:=(fun q_=>[I q_])) (d:=0) ([1]:List Int) rfl) lw) .nil)) (tO rfl (tl eqA) .nil))) (s1 (s1 (s1 (sv (Qc1 0 rfl rfl) (sv (QQ6 .nil (cv (Qc1 1 rfl rfl) .nil)) (sv (Q76 2 rfl) .nil)))))))) ⟨_,Nat.lt_succ_self _,foll hR rfl,b6a0⟩ ?_;clear hR;rintro out c2 ⟨m,hm,hR,hx⟩;(try dsimp only at hR hm hx);obtain ⟨m,rfl⟩:=sucA m;refine ai (fun h5=>?_) (fun h6=>?_)
   ·have hol:=hx.2.2.2 h5;have hrd:=fun (b:Int->Bool) (hn:((Q20 c2 b).2.at_==((Q20 c2 b).2.line.length:Int))=false)=>lex_round c2 _ b (by omega) (by omega) (by omega) h5 rfl hn;have cl1:∀ (y1:Int),AMoves Tryz.prog 315 [J y1,AVal.ptr 0 0 1 0 0] [(0,AObj.row 52 1 [[ints ([1]:List Int)]])] 1 (Bo ((fun (y:Int)=>Qf0 y ([1]:List Int) 0) y1)) [(0,AObj.row 52 1 [[ints ([1]:List Int)]])]:=by
     intro y1;have hR:(fun (y:Int)=>Qf0 y ([1]:List Int) 0) y1=(fun (y:Int)=>Qf0 y ([1]:List Int) 0) y1:=rfl;refine mo (kp 6 [6,7,8,9,15]) Tryz.func315 ?_;refine Qv0 (fun (i:Nat)=>Qf0 y1 (List.drop i ([1]:List Int)) i=(fun (y:Int)=>Qf0 y ([1]:List Int) 0) y1∧i<=([1]:List Int).length) (fun i=>([1]:List Int).length - i) (fun i=>[(0,J y1),(3,Bo false),(6,ints ([1]:List Int)),(7,I (([1]:List Int).length:Int)),(8,I (i:Int))]) (fun i=>[(0,AObj.row 52 1 [[ints ([1]:List Int)]])]) 0 (wkA [0]) ⟨foll hR rfl,by exact omA⟩ ?_;clear hR;rintro i ⟨hR,hj⟩;(try dsimp only at hR hj);refine ai (fun h7=>?_) (fun h8=>?_)
     ·(have hlt:i<([1]:List Int).length:=by have:=of_decide_eq_true h7;omega);rw [Qr0 0 hlt] at hR;refine ai gkA ?_;refine us (QF3 y1 _) ?_;refine ai (fun h9=>?_) (fun h10=>?_)
      ·refine Qi0 (fun r:Bool=>Bo r) (fun _=>[(0,AObj.row 52 1 [[ints ([1]:List Int)]])]) (leaf:=true) (foll hR (ct h9 rfl)) ?_;exact tt [0] (tO rfl (ts (lv lw LowL.nil)) .nil) t1
      ·exact Qy0 (i+1) (wkA [0]) omA ⟨folA,by exact omA⟩
     ·rw [Qs0 (l:=([1]:List Int)) (j:=i) (geA h8)] at hR;refine Qi0 (fun r:Bool=>Bo r) (fun _=>[(0,AObj.row 52 1 [[ints ([1]:List Int)]])]) (leaf:=false) (foll hR rfl) ?_;exact tt [0] (tO rfl (ts (lv lw LowL.nil)) .nil) t1
    have hof1:AMoves Tryz.prog 307 [AVal.ptr 0 0 4 0 0,AVal.fn (.func 315) [] [AVal.ptr 1 0 1 0 0]] [(0,AObj.row 321 4 [[runes c2.line,I c2.at_,I c2.bad,I c2.error]]),(0,AObj.row 52 1 [[ints ([1]:List Int)]])] 2 (Sg ((Q20 c2 (fun (y:Int)=>Qf0 y ([1]:List Int) 0)).1)) [(0,AObj.row 321 4 [[runes (((Q20 c2 (fun (y:Int)=>Qf0 y ([1]:List Int) 0)).2).line),I (((Q20 c2 (fun (y:Int)=>Qf0 y ([1]:List Int) 0)).2).at_),I (((Q20 c2 (fun (y:Int)=>Qf0 y ([1]:List Int) 0)).2).bad),I (((Q20 c2 (fun (y:Int)=>Qf0 y ([1]:List Int) 0)).2).error)]]),(0,AObj.row 52 1 [[ints ([1]:List Int)]])]:=by
     have hR:Q20 c2 (fun (y:Int)=>Qf0 y ([1]:List Int) 0)=Q20 c2 (fun (y:Int)=>Qf0 y ([1]:List Int) 0):=rfl;refine mo (kp 6 [33]) Tryz.func307 ?_;refine Qv0 (fun (c3:LexReader)=>∃ m,(Int.toNat ((c3.line.length:Int) - c3.at_))<m∧QB0 c2 (QA0 (fun (y:Int)=>Qf0 y ([1]:List Int) 0) m c3)=Q20 c2 (fun (y:Int)=>Qf0 y ([1]:List Int) 0)∧0<=c3.at_∧c3.at_<=(c3.line.length:Int)∧c3.line.length<=400∧c2.at_<=c3.at_∧0<=c2.at_) (fun c3=>(Int.toNat ((c3.line.length:Int) - c3.at_))) (fun c3=>[(0,AVal.ptr 0 0 4 0 0),(1,AVal.fn (.func 315) [] [AVal.ptr 1 0 1 0 0]),(4,Sg ⟨#[]⟩),(5,I c2.at_)]) (fun c3=>[(0,AObj.row 321 4 [[runes c3.line,I c3.at_,I c3.bad,I c3.error]]),(0,AObj.row 52 1 [[ints ([1]:List Int)]])]) c2 (wkA [0,1]) ⟨_,Nat.lt_succ_self _,foll hR rfl,by exact exA⟩ ?_;clear hR;rintro c3 ⟨m,hm,hR,hx⟩;(try dsimp only at hR hm hx);obtain ⟨m,rfl⟩:=sucA m;refine dchk (by kernel_rfl) ?_;refine ai gkA ?_;(first|apply u2|apply u3|apply u4|apply us);exact mv [1] (cl1 (c3.line.getD (Int.toNat c3.at_) 0)) (dO (ds (lv lw LowL.nil)) .nil) (d1 (dp .nil)) (rO (re (lv lw LowL.nil)) .nil) rx;(repeat ((first|refine ai rfl ?_|refine ai (fun _=>rfl) ?_)));refine ai (fun h11=>?_) (fun h12=>?_)
     ·have hq1:=of_decide_eq_true ((Bool.and_eq_true _ _).mp h11).1;have hwr:w64 (c3.at_+1)=c3.at_+1:=wr (by omega);exact Qy0 { c3 with at_:=(w64 (c3.at_+1)) } (wk [0,1] (tO rfl (ts LexReader.lo) (tO rfl (ts (lv lw LowL.nil)) .nil)) (sv (Qc1 0 rfl rfl) (sv (QQ6 .nil (cv (Qc1 1 rfl rfl) .nil)) (s1 (s1 .nil))))) omA ⟨m,by exact omA,foll hR (congrArg (fun p:LexReader=>QB0 c2 p) (ct h11 rfl)),by exact exA⟩
     ·replace hR:QB0 c2 c3=Q20 c2 (fun (y:Int)=>Qf0 y ([1]:List Int) 0):=fo2 (fun p:LexReader=>QB0 c2 p) (c3) hR (cf h12 rfl);refine dchk (by kernel_rfl) ?_;refine ai gkA ?_;(first|refine ⟨(List.drop (Int.toNat c2.at_) (List.take (Int.toNat c3.at_) c3.line)),by exact cvA,?_⟩|refine ⟨_,fun _=>⟨(List.drop (Int.toNat c2.at_) (List.take (Int.toNat c3.at_) c3.line)),by exact cvA,rfl,rfl⟩,?_⟩|refine ⟨_,rfl,⟨(List.drop (Int.toNat c2.at_) (List.take (Int.toNat c3.at_) c3.line)),by exact cvA,Sub.refl _,rfl⟩,?_⟩);(repeat ((first|refine ai rfl ?_|refine ai (fun _=>rfl) ?_)));refine Qi0 (fun r:ByteArray × LexReader=>Sg r.1) (fun r:ByteArray × LexReader=>[(0,AObj.row 321 4 [[runes r.2.line,I r.2.at_,I r.2.bad,I r.2.error]]),(0,AObj.row 52 1 [[ints ([1]:List Int)]])]) (leaf:=((runesBytes (List.drop (Int.toNat c2.at_) (List.take (Int.toNat c3.at_) c3.line))),c3)) (foll hR rfl) ?_;exact tt [0,1] (tO rfl (ts LexReader.lo) (tO rfl (ts (lv lw LowL.nil)) .nil)) t1
    refine us (mv [0,1] (hof1) (dO (ds LexReader.lo) (dO (ds (lv lw LowL.nil)) .nil)) (dp (dv (dn_fn .nil (dp .nil)) .nil)) (rO (re LexReader.lo) (rO (re (lv lw LowL.nil)) .nil)) rx) ?_;refine dchk (by kernel_rfl) ?_;(repeat ((first|refine ai rfl ?_|refine ai (fun _=>rfl) ?_)));refine ai (fun h13=>?_) (fun h14=>?_)
    ·refine dchk (by kernel_rfl) ?_;(repeat ((first|refine ai rfl ?_|refine ai (fun _=>rfl) ?_)));obtain rfl:=foll hR (ct h5 (ct h13 rfl));exact Q90 (Low.tup' (.cons lw (l1 (l1 .nil)))) (Seen.tup (ev (Q80 Token.zero _ rfl eqA lnA) (e1 (e1 .nil))))
    ·refine us (mv [0] (Qac ((Q20 c2 (fun (y:Int)=>Qf0 y ([1]:List Int) 0)).2) (by first|(exact Nat.le_trans (hrd _ (by assumption)).1.2.2 (by decide))|exact szA) (by exact (hrd _ (by assumption)).1)) (dO (ds LexReader.lo) .nil) (dp .nil) (rO (re LexReader.lo) .nil) (Ren.low _ (Low.agg' (Token.lo)))) ?_;refine Or.inl ?_;(first|refine ⟨Qe2 40 rfl lnA apA,?_⟩|refine ⟨Ql1 40 rfl apA,?_⟩);exact Qh0 (out++([{ (Q70 ((Q20 c2 (fun (y:Int)=>Qf0 y ([1]:List Int) 0)).2)).1 with at_:=(Q20 c2 (fun (y:Int)=>Qf0 y ([1]:List Int) 0)).2.at_ }]:List Token)) ((Q70 ((Q20 c2 (fun (y:Int)=>Qf0 y ([1]:List Int) 0)).2)).2) (wkA [0,1,2]) (by first|(have hq:=hrd _ (by assumption);omega)|exact omA) ⟨m,by first|(have hq:=hrd _ (by assumption);omega)|exact omA,foll hR (ct h5 (cf h14 rfl)),b6a0⟩
   ·refine dchk (by kernel_rfl) ?_;(repeat ((first|refine ai rfl ?_|refine ai (fun _=>rfl) ?_)));exact lfA
def Q52 (v:Job):Bool:=((((v.start==0)&&(v.limit==0))&&(v.nodes==0))&&(((v.promise==(-1))&&(v.choice==0))||(((Q22 v.promise)&&(QE0 v v.choice).2)&&(!v.held))))
theorem Q7c (v:Job) (hs0:v.sz):GV 196 [Job.a v] (Bo (Q52 v)):=by
 generalize hR:Q52 v=R;refine gA (kp 6 []) Tryz.func196 ?_;obtain ⟨z1,z2,z3,z4,z5⟩:=Job.zz hs0;refine us (Q38 v v.choice szA _) ?_;(first|apply u2|apply u3|apply u4|apply us);exact Qp5 v.promise _;exact lfA
def Qg1 (v:Job):Bool:=bif (((((((!(QE0 v v.choice).2)||v.held)||(!(Q22 v.start)))||(!(Q22 v.promise)))||(decide (v.promise<v.start)))||(!(Q22 v.limit)))||((w64 (v.limit - v.start))!=(QE0 v v.choice).1.wall)) then false else ((QF5 v.nodes)&&(Qn2 v.shape v.choice (Q30 v.nodes)))
theorem Qab (v:Job) (hs0:v.sz):GV 197 [Job.a v] (Bo (Qg1 v)):=by
 generalize hR:Qg1 v=R;refine gA (kp 5 [61]) Tryz.func197 ?_;obtain ⟨z3,z4,z5,z6,z7⟩:=Job.zz hs0;refine us (Q38 v v.choice szA _) ?_;(first|apply u2|apply u3|apply u4|apply us);exact Qp5 v.start _;(first|apply u2|apply u3|apply u4|apply us);exact Qp5 v.promise _;(first|apply u2|apply u3|apply u4|apply us);exact Qp5 v.limit _;refine ai (fun h1=>?_) (fun h2=>?_)
 ·exact lfA
 ·refine dchk (by kernel_rfl) ?_;(first|apply u2|apply u3|apply u4|apply us);exact Qv8 v.nodes _;(first|apply u2|apply u3|apply u4|apply us);exact QG0 v.nodes _;(first|apply u2|apply u3|apply u4|apply us);exact Qp6 v.shape v.choice (Q30 v.nodes) szA _;(repeat ((first|refine ai rfl ?_|refine ai (fun _=>rfl) ?_|refine ai (fun _=>Qv8 v.nodes _) ?_|refine ai (fun _=>QG0 v.nodes _) ?_|refine ai (fun _=>Qp6 v.shape v.choice (Q30 v.nodes) szA _) ?_)));exact lfA
def Qp4 (s:State) (r_:Resize) (j:Job) (c:Int):Bool:=bif (((Qh2 s (fun (y:Int) (y1:Node)=>((y1.job==r_.job)&&(y1.want==c))))!=(wu64 (BitVec.ofInt 64 r_.nodes &&& ~~~(BitVec.ofInt 64 r_.said)).toNat))||(!(Q65 s.nodes r_.said))) then false else bif r_.grow then ((r_.nodes==(QD5 s.nodes r_.job 2))&&(decide ((w64 ((Q30 j.nodes)+(Q30 r_.nodes)))<=j.shape.max))) else (((wu64 (BitVec.ofInt 64 r_.nodes &&& ~~~(BitVec.ofInt 64 j.nodes)).toNat)==0)&&(decide ((w64 ((Q30 j.nodes) - (Q30 r_.nodes))) >= j.shape.min)))
def QJ2 (s:State) (r_:Resize) (j:Job):Bool:=bif (((((j.shape.kind != 3)||(r_.nodes==0))||((wu64 (BitVec.ofInt 64 r_.said &&& ~~~(BitVec.ofInt 64 r_.nodes)).toNat)!=0))||(decide (r_.since<0)))||(decide (r_.since > 1000000))) then false else bif r_.grow then Qp4 s r_ j 2 else Qp4 s r_ j 4
theorem Qca (s:State) (r_:Resize) (j:Job) (hs0:s.sz) (hs1:j.sz):GV 123 [State.a s,Resize.a r_,Job.a j] (Bo (QJ2 s r_ j)):=by
 generalize hR:QJ2 s r_ j=R;refine gA (kj [1000006] 11 [37,39,57,65]) Tryz.func123 ?_;have hk0:=hs0;obtain ⟨z13,z14,z15,z16,z17,z18,z19⟩:=hs0;obtain ⟨z20,z21,z22,z23,z24⟩:=Job.zz hs1;refine ai (fun h1=>?_) (fun h2=>?_)
 ·obtain rfl:=foll hR (ct h1 rfl);exact Q90 lx sr
 ·refine QS1 (fun (c:Int)=>Qp4 s r_ j c=R) (fun c=>[(3,AVal.ptr 0 0 8 0 0),(4,AVal.ptr 1 0 5 0 0),(5,AVal.ptr 2 0 20 0 0),(6,Bo false),(7,AVal.ptr 3 0 1 0 0)]) (fun c=>[(0,AObj.row 28 8 [[I s.now,nodeL s.nodes,jobL s.jobs,Qc2 s.resizes,bookL s.books,Qb4 s.ledger,I s.nextJob,I s.nextBook]]),(0,AObj.row 49 5 [[I r_.job,Bo r_.grow,U r_.nodes,U r_.said,I r_.since]]),(0,AObj.row 72 20 [[I j.id,Sg j.name,Sg j.user,Sg j.account,I j.shape.kind,altL j.shape.alts,I j.shape.min,I j.shape.max,I j.shape.wall,I j.prio,depL j.after,I j.state,Bo j.held,I j.born,I j.promise,I j.choice,I j.start,I j.limit,U j.nodes,I j.used]]),(0,AObj.row 3 1 [[I c]])]) ?_ ?_
  ·clear hR;rintro c hR;(try dsimp only at hR);have cl1:∀ (y1:Int) (y2:Node),AMoves Tryz.prog 183 [I y1,Node.a y2,AVal.ptr 0 0 5 0 0,AVal.ptr 1 0 1 0 0] [(0,AObj.row 49 5 [[I r_.job,Bo r_.grow,U r_.nodes,U r_.said,I r_.since]]),(0,AObj.row 3 1 [[I c]])] 2 (Bo ((fun (y:Int) (y1:Node)=>((y1.job==r_.job)&&(y1.want==c))) y1 y2)) [(0,AObj.row 49 5 [[I r_.job,Bo r_.grow,U r_.nodes,U r_.said,I r_.since]]),(0,AObj.row 3 1 [[I c]])]:=by
    intro y1 y2;have hR:(fun (y:Int) (y1:Node)=>((y1.job==r_.job)&&(y1.want==c))) y1 y2=(fun (y:Int) (y1:Node)=>((y1.job==r_.job)&&(y1.want==c))) y1 y2:=rfl;refine mo (kp 7 []) Tryz.func183 ?_;refine Qi0 (fun r:Bool=>Bo r) (fun _=>[(0,AObj.row 49 5 [[I r_.job,Bo r_.grow,U r_.nodes,U r_.said,I r_.since]]),(0,AObj.row 3 1 [[I c]])]) (leaf:=((y2.job==r_.job)&&(y2.want==c))) (foll hR rfl) ?_;exact tt [0,1] (tO rfl (ts Resize.lo) (tO rfl (ts (l1 LowL.nil)) .nil)) t1
   have hof1:AMoves Tryz.prog 182 [State.a s,AVal.fn (.func 183) [] [AVal.ptr 0 0 5 0 0,AVal.ptr 1 0 1 0 0]] [(0,AObj.row 49 5 [[I r_.job,Bo r_.grow,U r_.nodes,U r_.said,I r_.since]]),(0,AObj.row 3 1 [[I c]])] 2 (U (Qh2 s (fun (y:Int) (y1:Node)=>((y1.job==r_.job)&&(y1.want==c))))) [(0,AObj.row 49 5 [[I r_.job,Bo r_.grow,U r_.nodes,U r_.said,I r_.since]]),(0,AObj.row 3 1 [[I c]])]:=by
    have hR:Qh2 s (fun (y:Int) (y1:Node)=>((y1.job==r_.job)&&(y1.want==c)))=Qh2 s (fun (y:Int) (y1:Node)=>((y1.job==r_.job)&&(y1.want==c))):=rfl;refine mo (kp 10 [11,12,13,14,21]) Tryz.func182 ?_;refine QF0 (fun (l:List Int) (i:Nat)=>Qi3 (QV4 (fun (y:Int) (y1:Node)=>((y1.job==r_.job)&&(y1.want==c))) (List.drop i s.nodes) l i)=Qh2 s (fun (y:Int) (y1:Node)=>((y1.job==r_.job)&&(y1.want==c)))∧i<=s.nodes.length∧l.length<=i) (fun l i=>s.nodes.length - i) (fun l i=>[(1,AVal.fn (.func 183) [] [AVal.ptr 0 0 5 0 0,AVal.ptr 1 0 1 0 0]),(4,U 0),(5,AVal.own 2 0 1 0 l.length),(11,nodeL s.nodes),(12,I (s.nodes.length:Int)),(13,I (i:Int))]) (fun l i=>[(0,AObj.row 49 5 [[I r_.job,Bo r_.grow,U r_.nodes,U r_.said,I r_.since]]),(0,AObj.row 3 1 [[I c]]),(0,AObj.row 3 1 (l.map (fun q_=>[I q_])))]) [] 0 ((Qk3 3 1).trans (wkA [0,1,3])) ⟨foll hR rfl,by exact omA,by exact exA⟩ ?_;clear hR;rintro l i ⟨hR,hj,hx⟩;(try dsimp only at hR hj hx);refine ai (fun h3=>?_) (fun h4=>?_)
    ·have hlt:=ltA h3;rw [Qr0 Node.zero hlt] at hR;refine ai gkA ?_;refine us (mv [0,1] (cl1 (i:Int) (s.nodes.getD i Node.zero)) (dO (ds Resize.lo) (dO (ds (l1 LowL.nil)) .nil)) (d1 (dl (Node.low _ _) (dp (dp .nil)))) (rO (re Resize.lo) (rO (re (l1 LowL.nil)) .nil)) rx) ?_;refine ai (fun h5=>?_) (fun h6=>?_)
     ·refine Or.inl ?_;(first|refine ⟨Qe2 8 rfl lnA apA,?_⟩|refine ⟨Ql1 8 rfl apA,?_⟩);exact Qh0 (l++([(i:Int)]:List Int)) (i+1) (wkA [0,1,2]) omA ⟨foll hR (congrArg (fun p:(List Int)=>Qi3 p) (ct h5 rfl)),by exact omA,by exact exA⟩
     ·exact Qh0 l (i+1) (wkA [0,1,2]) omA ⟨foll hR (congrArg (fun p:(List Int)=>Qi3 p) (cf h6 rfl)),by exact omA,by exact exA⟩
    ·rw [Qs0 (l:=s.nodes) (j:=i) (geA h4)] at hR;replace hR:Qi3 l=Qh2 s (fun (y:Int) (y1:Node)=>((y1.job==r_.job)&&(y1.want==c))):=fo2 (fun p:(List Int)=>Qi3 p) (l) hR rfl;refine us (AGives.lent (Qy6 l szA []) (ev (Q80 _ _ rfl eqA lnA) .nil) (.cons lw .nil) (QO2 rfl)) ?_;refine Qi0 (fun r:Int=>U r) (fun r:Int=>[(0,AObj.row 49 5 [[I r_.job,Bo r_.grow,U r_.nodes,U r_.said,I r_.since]]),(0,AObj.row 3 1 [[I c]])]) (leaf:=(Qz0 l).1) (foll hR rfl) ?_;exact tt [0,1] (tO rfl (ts Resize.lo) (tO rfl (ts (l1 LowL.nil)) .nil)) t1
   refine us (mv [1,3] (hof1) (dO (ds Resize.lo) (dO (ds (l1 LowL.nil)) .nil)) (dv (QP5 (Low.agg' (State.lo))) (dv (dn_fn .nil (dp (dp .nil))) .nil)) (rO (re Resize.lo) (rO (re (l1 LowL.nil)) .nil)) rx) ?_;(first|apply u2|apply u3|apply u4|apply us);exact Qe8 s.nodes r_.said szA _;refine ai (fun h7=>?_) (fun h8=>?_)
   ·obtain rfl:=foll hR (ct h7 rfl);exact Q90 lx sr
   ·refine dchk (by kernel_rfl) ?_;(first|apply u2|apply u3|apply u4|apply us);exact QG0 j.nodes _;(first|apply u2|apply u3|apply u4|apply us);exact QG0 r_.nodes _;(repeat ((first|refine ai rfl ?_|refine ai (fun _=>rfl) ?_|refine ai (fun _=>QG0 j.nodes _) ?_|refine ai (fun _=>QG0 r_.nodes _) ?_)));refine ai (fun h9=>?_) (fun h10=>?_)
    ·refine dchk (by kernel_rfl) ?_;(first|apply u2|apply u3|apply u4|apply us);exact Q6c s.nodes r_.job 2 szA _;(repeat ((first|refine ai rfl ?_|refine ai (fun _=>rfl) ?_|refine ai (fun _=>Q6c s.nodes r_.job 2 szA _) ?_)));obtain rfl:=foll hR (cf h8 (ct h9 rfl));exact Q90 lx sr
    ·obtain rfl:=foll hR (cf h8 (cf h10 rfl));exact Q90 lx sr
  ·refine ai (fun h11=>?_) (fun h12=>?_)
   ·exact Qo0 2 (wkA [0,1,2,3]) (foll hR (cf h2 (ct h11 rfl)))
   ·exact Qo0 4 (wkA [0,1,2,3]) (foll hR (cf h2 (cf h12 rfl)))
def Qp2 (l:List Node) (job:Int):Int:=bif (decide (job<1)) then 0 else (QD5 l job 1)
theorem Quc (l:List Node) (job:Int) (hs0:l.length<=4294967296):GV 77 [nodeL l,I job] (U (Qp2 l job)):=by
 generalize hR:Qp2 l job=R;refine gA (kp 5 [6]) Tryz.func77 ?_;have hk0:=hs0;obtain z3:l.length<=4294967296:=hs0;refine ai (fun h1=>?_) (fun h2=>?_)
 ·have qh1:=of_decide_eq_true h1;exact lfA
 ·have qh2:=of_decide_eq_false h2;refine us (Q6c l job 1 szA _) ?_;exact lfA
def Qi2 (set_:Int) (act:Int) (job:Int) (now:Int):List Int->Nat->List Node->(List Node) × (List Note) × Int
 | [],_,c=>bif (!(Qd4 act)) then (c,[],0) else (c,(Q55 c (Q50 set_)),0)
 | x_ :: r,i,c=>bif ((Qm3 c x_ act job now).2==0) then bif ((Qm3 c x_ act job now).2 != 0) then ([],[],(Qm3 c x_ act job now).2) else Qi2 set_ act job now r (i+1) ((Qm3 c x_ act job now).1) else bif ((Qm3 c x_ act job now).2 != 0) then ([],[],(Qm3 c x_ act job now).2) else Qi2 set_ act job now r (i+1) c
def Qq0 (l:List Node) (set_:Int) (act:Int) (job:Int) (now:Int):(List Node) × (List Note) × Int:=bif ((Q60 l)!=0) then ([],[],(Q60 l)) else Qi2 set_ act job now (Q50 set_) 0 l
theorem b6a1 {P:Prop} (h:P:=by first|((have q:=fleet_Do_len c ((Q50 set_).getD i 0) act job now;omega))|exact exA):P:=h
theorem Qm1 (l:List Node) (set_:Int) (act:Int) (job:Int) (now:Int) (hs0:l.length<=4294967296):GV 97 [nodeL l,U set_,I act,I job,I now] (AVal.tup [nodeL ((Qq0 l set_ act job now).1),noteL ((Qq0 l set_ act job now).2.1),I ((Qq0 l set_ act job now).2.2)]):=by
 generalize hR:Qq0 l set_ act job now=R;refine gA (kp 20 [23,28,29,30,31,38,46]) Tryz.func97 ?_;have hk0:=hs0;obtain z13:l.length<=4294967296:=hs0;have hll:=QM6 set_;refine us (Qw2 l szA _) ?_;refine ai (fun h1=>?_) (fun h2=>?_)
 ·exact lfA
 ·refine us (QE7 set_ _) ?_;refine QF0 (fun (i:Nat) (c:List Node)=>Qi2 set_ act job now (List.drop i (Q50 set_)) i c=R∧i<=(Q50 set_).length∧c.length<=4294967296) (fun i c=>(Q50 set_).length - i) (fun i c=>[(5,AVal.ptr 0 0 1 0 0),(7,AVal.ptr 1 0 1 0 0),(10,AVal.lit (.slice none 0 0)),(11,AVal.lit (.slice none 0 0)),(12,I 0),(14,ints (Q50 set_)),(15,AVal.fn (.func 155) [] [AVal.ptr 0 0 1 0 0,AVal.ptr 1 0 1 0 0,AVal.ptr 2 0 1 0 0,AVal.ptr 3 0 1 0 0]),(28,ints (Q50 set_)),(29,I ((Q50 set_).length:Int)),(30,I (i:Int))]) (fun i c=>[(0,AObj.row 22 1 [[nodeL c]]),(0,AObj.row 3 1 [[I act]]),(0,AObj.row 3 1 [[I job]]),(0,AObj.row 3 1 [[I now]])]) 0 l (wkA [0,1,2,3]) ⟨folA,by exact omA,b6a1⟩ ?_;clear hR;rintro i c ⟨hR,hj,hx⟩;(try dsimp only at hR hj hx);refine ai (fun h3=>?_) (fun h4=>?_)
  ·have hlt:=ltA h3;rw [Qr0 0 hlt] at hR;refine ai gkA ?_;refine ACalls.of_cwp (fun _=>true) Tryz.func155 rfl rfl ?_;refine us (fleet_Do_c c ((Q50 set_).getD i 0) act job now szA _) ?_;refine ai (fun h5=>?_) (fun h6=>?_)
   ·refine ⟨_,_,Told.refl,?_⟩;refine ai (fun h7=>?_) (fun h8=>?_)
    ·exact lfA
    ·exact Qh0 (i+1) ((Qm3 c ((Q50 set_).getD i 0) act job now).1) (wkA [0,1,2,3]) omA ⟨folA,by exact omA,b6a1⟩
   ·refine ⟨_,_,Told.refl,?_⟩;refine ai (fun h9=>?_) (fun h10=>?_)
    ·exact lfA
    ·exact Qh0 (i+1) c (wkA [0,1,2,3]) omA ⟨folA,by exact omA,b6a1⟩
  ·rw [Qs0 (l:=(Q50 set_)) (j:=i) (geA h4)] at hR;(first|refine ⟨Qe2 56 rfl lnA apA,?_⟩|refine ⟨Ql1 56 rfl apA,?_⟩);refine us (alloc_sends_c act _) ?_;refine ai (fun h11=>?_) (fun h12=>?_)
   ·obtain rfl:=foll hR (ct h11 rfl);exact Q90 (Low.tup' (.cons lw (.cons lw (l1 .nil)))) (Seen.tup (ev (Q80 Node.zero _ rfl eqA lnA) (ev (Q40) (e1 .nil))))
   ·refine us (alloc_Notes_c c (Q50 set_) szA szA _) ?_;obtain rfl:=foll hR (cf h12 rfl);exact Q90 (Low.tup' (.cons lw (.cons lw (l1 .nil)))) (Seen.tup (ev (Q80 Node.zero _ rfl eqA lnA) (e1 (e1 .nil))))
theorem QK6 (l:List Node):∀ (r:List Int) (out:List Note) (i:Nat),(Q83 l r out i).length<=out.length+r.length
 | [],out,_=>by rw [Q83];simp
 | x :: r,out,i=>by
  rw [Q83]
  cases (Qm5 l x).2 with
  | true =>
   have:=QK6 l r (out++[(Qm5 l x).1]) (i+1)
   simp only [cond_true,List.length_append,List.length_cons,List.length_nil] at *
   omega
  | false =>
   have:=QK6 l r out (i+1)
   simp only [cond_false,List.length_cons] at *
   omega
theorem QX8 (set_ act job now:Int):∀ (r:List Int) (i:Nat) (c:List Node),(Qi2 set_ act job now r i c).2.1.length<=64
 | [],i,c=>by
  rw [Qi2]
  cases (!(Qd4 act)) with
  | true=>simp
  | false =>
   have h:=QK6 c (Q50 set_) [] 0
   have h2:=QM6 set_
   simp only [cond_false,Q55,Q93]
   simp only [List.length_nil] at h
   omega
 | x :: r,i,c=>by
  rw [Qi2]
  cases ((Qm3 c x act job now).2==0) <;> cases ((Qm3 c x act job now).2 != 0) <;> simp only [cond_true,cond_false] <;> first|exact QX8 set_ act job now r _ _|exact Nat.zero_le _
theorem QE2 (l:List Node) (set_ act job now:Int):(Qq0 l set_ act job now).2.1.length<=64:=by
 unfold Qq0
 cases (Q60 l != 0) with
 | true=>exact Nat.zero_le _
 | false=>exact QX8 _ _ _ _ _ _ _
def QM0 (line:ByteArray):Nat->List Token->Int->(List Token) × Int × Int
 | 0,_,_=>([],0,0)
 | m+1,out,i=>bif (decide (i<((Qv1 line).length:Int))) then bif ((Qm0 ((Qv1 line).getD (Int.toNat i) 0))==1) then QM0 line m out (w64 (i+1)) else bif ((QX1 (Qv1 line) i).2.2.2 != 0) then ([],(QX1 (Qv1 line) i).2.2.1,(QX1 (Qv1 line) i).2.2.2) else QM0 line m (out++([(QX1 (Qv1 line) i).1]:List Token)) ((QX1 (Qv1 line) i).2.1) else (out,((Qv1 line).length:Int),0)
def QZ0 (line:ByteArray):(List Token) × Int × Int:=bif (decide ((ByteArray.size line:Int) > 400)) then ([],0,3) else QM0 line ((Int.toNat (((Qv1 line).length:Int) - 0))+1) [] 0
def QX4 (s:ByteArray):Bool:=bif ((((Qd1 s).2.2 != 0)||((((Qd1 s).1).length:Int)!=1))||(!(((((Qd1 s).1).getD 0 Token.zero).kind==1)&&(((((Qd1 s).1).getD 0 Token.zero).text==s)&&(((((Qd1 s).1).getD 0 Token.zero).num==0)&&((((Qd1 s).1).getD 0 Token.zero).at_==0)))))) then false else true
theorem cmd_word_c (s:ByteArray) (hs0:s.size<=4294967296):GV 267 [Sg s] (Bo (QX4 s)):=by
 generalize hR:QX4 s=R;refine gA (kp 3 []) Tryz.func267 ?_;have hk0:=hs0;obtain z3:s.size<=4294967296:=hs0;refine ACalls.of_cwp (fun _=>true) Tryz.func294 rfl rfl ?_;refine ACalls.of_cwp (fun _=>true) Tryz.func302 rfl rfl ?_;refine ai (fun h=>nomatch h) (fun _=>?_);refine ai (fun h=>nomatch h) (fun _=>?_);refine ⟨_,_,Told.refl,?_⟩;refine us (lex_Tokens_c s szA _) ?_;refine dchk (by kernel_rfl) ?_;refine ai gkA ?_;refine ai (fun _=>(by kernel_rfl:eqOK _ _=true)) ?_;(repeat ((first|refine ai rfl ?_|refine ai (fun _=>rfl) ?_)));refine ai (fun h1=>?_) (fun h2=>?_)
 ·refine ⟨_,_,Told.refl,?_⟩;obtain rfl:=foll hR (ct h1 rfl);exact Q90 lx sr
 ·refine ⟨_,_,Told.refl,?_⟩;obtain rfl:=foll hR (cf h2 rfl);exact Q90 lx sr
def Q45 (l:List Node) (nodes:Int) (act:Int) (job:Int) (now:Int):(List Node) × Int × (List Note) × Int:=bif ((act != 1)&&(act != 2)) then ([],0,[],120) else bif ((Q60 l)!=0) then ([],0,[],120) else bif ((decide (nodes<1))||(decide (nodes > 48))) then ([],0,[],2) else bif (!(QN1 (QQ3 l) nodes).2) then ([],0,[],130) else bif ((Qq0 l ((QN1 (QQ3 l) nodes).1) act job now).2.2 != 0) then ([],0,[],(Qq0 l ((QN1 (QQ3 l) nodes).1) act job now).2.2) else ((Qq0 l ((QN1 (QQ3 l) nodes).1) act job now).1,(QN1 (QQ3 l) nodes).1,(Qq0 l ((QN1 (QQ3 l) nodes).1) act job now).2.1,0)
theorem QMa (l:List Node) (nodes:Int) (act:Int) (job:Int) (now:Int) (hs0:l.length<=4294967296):GV 36 [nodeL l,I nodes,I act,I job,I now] (AVal.tup [nodeL ((Q45 l nodes act job now).1),U ((Q45 l nodes act job now).2.1),noteL ((Q45 l nodes act job now).2.2.1),I ((Q45 l nodes act job now).2.2.2)]):=by
 generalize hR:Q45 l nodes act job now=R;refine gA (kp 19 [19,26,30,45,57]) Tryz.func36 ?_;have hk0:=hs0;obtain z11:l.length<=4294967296:=hs0;refine ai (fun h1=>?_) (fun h2=>?_)
 ·exact lfA
 ·refine us (Qw2 l szA _) ?_;refine ai (fun h3=>?_) (fun h4=>?_)
  ·exact lfA
  ·refine ai (fun h5=>?_) (fun h6=>?_)
   ·exact lfA
   ·refine us (fleet_Free_c l szA _) ?_;refine us (QQ8 (QQ3 l) nodes _) ?_;refine ai (fun h7=>?_) (fun h8=>?_)
    ·exact lfA
    ·refine us (Qm1 l ((QN1 (QQ3 l) nodes).1) act job now szA _) ?_;refine ai (fun h9=>?_) (fun h10=>?_)
     ·exact lfA
     ·exact lfA
def Qu5 (s:ByteArray):Bool:=bif (((QZ0 s).2.2 != 0)||((((QZ0 s).1).length:Int)!=1)) then false else bif ((((((QZ0 s).1).getD 0 Token.zero).kind != 1)||(!(ByteArray.toList (((QZ0 s).1).getD 0 Token.zero).text==ByteArray.toList s)))||((((QZ0 s).1).getD 0 Token.zero).num != 0)) then false else true
end Go.Proofs.YtackngeeehiegaaGreatDoor
