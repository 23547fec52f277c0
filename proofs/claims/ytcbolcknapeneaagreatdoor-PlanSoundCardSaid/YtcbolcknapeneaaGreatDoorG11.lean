/-
  Contracts of functions, printed by a program of this repo (wip/dec). No condition beyond those that stand in each.
-/
import Derived.Test.YtcbolcknapeneaaGreatDoorG10
import Derived.Test.YtcbolcknapeneaaGreatDoorProg
namespace Go.Proofs.YtcbolcknapeneaaGreatDoor
set_option linter.unusedSimpArgs false
set_option linter.unusedVariables false
open Go.Fw
set_option maxRecDepth 20000
set_option maxHeartbeats 4000000
attribute [local irreducible] ACalls AMoves
def QB6 (s:State):Bool:=(((((Qcb s.nodes)&&(Qdb s.jobs))&&(Qfb s.books))&&(Qeb s.ledger))&&(decide ((s.resizes.length:Int)<=100)))
theorem Qee (s:State) (hs0:s.szM):GV 11 [State.a s] (Bo (QB6 s)):=by
 generalize hR:QB6 s=R;refine ga (.cons (State.low _ _) .nil) lx (kp 3 []) Tryz.func11 ?_;have hk0:=hs0;obtain ⟨z1,z2,z3,z4,z5,z6,z7⟩:=hs0;refine us (law12_Few_c s.nodes _) ?_;(first|apply u2|apply u3|apply u4|apply us);exact law15_Few_c s.jobs szA _;(first|apply u2|apply u3|apply u4|apply us);exact law19_Few_c s.books _;(first|apply u2|apply u3|apply u4|apply us);exact law17_Few_c s.ledger szA _;obtain rfl:=foll hR rfl;exact Q00 lx sr
theorem u3g {P:Program} {f:FuncId} {args:List AVal} {objs:Objs} {r:AVal} {g:Bool} {K:AVal->Objs->Prop} (h:g=true->ACalls P f args objs fun a b=>a=r∧b=objs) (k:K r objs):∃ r' o',(g=true->ACalls P f args objs (fun a b=>a=r'∧b=o'))∧(g=false->o'=objs)∧K r' o':=⟨r,objs,h,fun _=>rfl,k⟩
theorem QGc:∀ (l:List Usage) (i:Nat),QA6 l i=true -> ∀ y ∈ l,y.sz
 | [],_,_,y,hy=>nomatch hy
 | x :: r,i,h,y,hy=>by
  rw [QA6] at h
  cases hc:((decide ((ByteArray.size x.user:Int) > 1000))||(decide ((ByteArray.size x.account:Int) > 1000))) with
  | true=>rw [hc] at h;cases h
  | false =>
   rw [hc] at h
   rcases List.mem_cons.1 hy with rfl|hy
   ·simp only [Bool.or_eq_false_iff,decide_eq_false_iff_not] at hc
    exact ⟨by omega,by omega⟩
   ·exact QGc r (i+1) h y hy
theorem law14_Few_sz {j:Job} (h:Q78 j=true):j.sz:=by
 simp only [Q78,Qbb,Bool.and_eq_true,decide_eq_true_eq] at h
 exact ⟨by omega,by omega,by omega,by show j.shape.alts.length<=_;omega,by omega⟩
theorem QFc:∀ (l:List Job) (i:Nat),Qz6 l i=true -> ∀ y ∈ l,y.sz
 | [],_,_,y,hy=>nomatch hy
 | x :: r,i,h,y,hy=>by
  rw [Qz6] at h
  cases hc:Q78 x with
  | false=>rw [hc] at h;cases h
  | true =>
   rw [hc] at h
   rcases List.mem_cons.1 hy with rfl|hy
   ·exact law14_Few_sz hc
   ·exact QFc r (i+1) h y hy
theorem Q40 {s:State} (h:QB6 s=true):s.sz:=by
 simp only [QB6,Qcb,Qdb,Qfb,Qeb,Bool.and_eq_true,decide_eq_true_eq] at h
 obtain ⟨⟨⟨⟨h1,h2⟩,h3⟩,h4⟩,h5⟩:=h
 cases hj:decide ((s.jobs.length:Int) > 60) with
 | true=>rw [hj] at h2;cases h2
 | false =>
  cases hl:decide ((s.ledger.length:Int) > 300) with
  | true=>rw [hl] at h4;cases h4
  | false =>
   rw [hj] at h2
   rw [hl] at h4
   have qj:=of_decide_eq_false hj
   have ql:=of_decide_eq_false hl
   exact ⟨by omega,by omega,QFc _ _ h2,by omega,by omega,by omega,QGc _ _ h4⟩
def Qq2 (l:List Node):Int:=bif (((decide ((l.length:Int)<1))||(decide ((l.length:Int) > 48)))||(QX1 l (fun (y:Node)=>(!(QG1 y))))) then 120 else 0
theorem QZa (l:List Node) (hs0:l.length<=4294967296):GV 155 [nodeL l] (I (Qq2 l)):=by
 generalize hR:Qq2 l=R;refine ga (.cons lw .nil) lx (kp 3 [14]) Tryz.func155 ?_;have hk0:=hs0;obtain z7:l.length<=4294967296:=hs0;have cl1:∀ (y1:Node),AMoves Tryz.prog 242 [Node.a y1] [] 0 (Bo ((fun (y:Node)=>(!(QG1 y))) y1)) []:=by
  intro y1;have hR:(fun (y:Node)=>(!(QG1 y))) y1=(fun (y:Node)=>(!(QG1 y))) y1:=rfl;refine mo (kp 3 []) Tryz.func242 ?_;refine us (fleet_fine_c y1 _) ?_;refine Ql0 (fun r:Bool=>Bo r) (fun _=>[]) (leaf:=(!(QG1 y1))) (foll hR rfl) ?_;exact tt [] .nil t1
 have hof1:AMoves Tryz.prog 241 [nodeL l,AVal.fn (.func 242) [] []] [] 0 (Bo (QX1 l (fun (y:Node)=>(!(QG1 y))))) []:=by
  have hR:QX1 l (fun (y:Node)=>(!(QG1 y)))=QX1 l (fun (y:Node)=>(!(QG1 y))):=rfl;refine mo (kp 5 []) Tryz.func241 ?_;have hof2:AMoves Tryz.prog 303 [nodeL l,AVal.fn (.func 242) [] []] [] 0 (I (QY1 l (fun (y:Node)=>(!(QG1 y))))) []:=by
   have hR:QY1 l (fun (y:Node)=>(!(QG1 y)))=QY1 l (fun (y:Node)=>(!(QG1 y))):=rfl;refine mo (kp 6 [7,8,9,16]) Tryz.func303 ?_;refine Qm0 (fun (i:Nat)=>QU3 (fun (y:Node)=>(!(QG1 y))) (List.drop i l) i=QY1 l (fun (y:Node)=>(!(QG1 y)))∧i<=l.length) (fun i=>l.length - i) (fun i=>[(0,nodeL l),(1,AVal.fn (.func 242) [] []),(4,I 0),(7,I (l.length:Int)),(8,I (i:Int))]) (fun i=>[]) 0 (wk [] .nil (sl lw (sv (Qr0 (Low.fn _ _ _ LowL.nil LowL.nil)) (s1 (s1 (s1 .nil)))))) ⟨foll hR rfl,by exact omA⟩ ?_;clear hR;rintro i ⟨hR,hj⟩;(try dsimp only at hR hj);refine ai (fun h1=>?_) (fun h2=>?_)
   ·have hlt:=ltA h1;rw [Qg0 Node.zero hlt] at hR;refine ai gkA ?_;refine us (mv [] (cl1 (l.getD i Node.zero)) .nil (dl (Node.low _ _) .nil) .nil rx) ?_;refine ai (fun h3=>?_) (fun h4=>?_)
    ·refine Ql0 (fun r:Int=>I r) (fun r:Int=>[]) (leaf:=(i:Int)) (foll hR (ct h3 rfl)) ?_;exact tt [] .nil t1
    ·exact Qq0 (i+1) (wk [] .nil (sl lw (sv (Qr0 (Low.fn _ _ _ LowL.nil LowL.nil)) (s1 (s1 (sv (Qn0 (I_eq (wr omA)) lx) .nil)))))) omA ⟨foll hR (cf h4 rfl),by exact omA⟩
   ·rw [Qt0 (l:=l) (j:=i) (geA h2)] at hR;refine Ql0 (fun r:Int=>I r) (fun r:Int=>[]) (leaf:=(-1)) (foll hR rfl) ?_;exact tt [] .nil t1
  refine us (mv [] (hof2) .nil (dl lw (dv (Q87 (Low.fn _ _ _ LowL.nil LowL.nil)) .nil)) .nil rx) ?_;refine Ql0 (fun r:Bool=>Bo r) (fun r:Bool=>[]) (leaf:=(decide ((QY1 l (fun (y:Node)=>(!(QG1 y)))) >= 0))) (foll hR rfl) ?_;exact tt [] .nil t1
 (first|apply u2|apply u3|apply u4|apply us);exact mv [] (hof1) .nil (dl lw (dv (Q87 (Low.fn _ _ _ LowL.nil LowL.nil)) .nil)) .nil rx;refine ai (fun h5=>?_) (fun h6=>?_)
 ·obtain rfl:=foll hR (ct h5 rfl);exact Q00 lx sr
 ·obtain rfl:=foll hR (cf h6 rfl);exact Q00 lx sr
def QE1 (ok:Bool):Int:=bif (!ok) then 70 else 0
def QC1 (s:Shape):Int:=bif (s.kind==1) then QE1 (((((s.min==0)&&(s.max==0))&&(s.wall==0))&&((s.alts.length:Int)==1))&&(Q01 (s.alts.getD 0 Alt.zero))) else bif (s.kind==2) then QE1 (((((((s.min==0)&&(s.max==0))&&(s.wall==0))&&(decide ((s.alts.length:Int) >= 1)))&&(decide ((s.alts.length:Int)<=6)))&&(QR4 s.alts))&&(!(QM0 s.alts (fun (y:Alt)=>(!(Q01 y)))))) else bif (s.kind==3) then QE1 (((((s.alts.length:Int)==0)&&(decide (s.min<=s.max)))&&(Q01 (⟨s.min,s.wall⟩:Alt)))&&(decide (s.max<=48))) else QE1 false
theorem QBb (s:Shape) (hs0:s.sz):GV 138 [Shape.a s] (I (QC1 s)):=by
 generalize hR:QC1 s=R;refine ga (.cons (Shape.low _ _) .nil) lx (kj [1000011] 6 [23,24,38,60,85]) Tryz.func138 ?_;have hk0:=hs0;obtain z13:s.alts.length<=4294967296:=hs0;refine QJ2 (fun (ok:Bool)=>QE1 ok=R) (fun ok=>[(2,I 0),(5,Bo ok)]) (fun ok=>[]) ?_ ?_
 ·clear hR;rintro ok hR;(try dsimp only at hR);refine ai (fun h1=>?_) (fun h2=>?_)
  ·obtain rfl:=foll hR (ct h1 rfl);exact Q00 lx sr
  ·obtain rfl:=foll hR (cf h2 rfl);exact Q00 lx sr
 ·refine ai (fun h3=>?_) (fun h4=>?_)
  ·refine ai gkA ?_;(first|apply u2|apply u3|apply u4|apply us);exact Qu9 (s.alts.getD 0 Alt.zero) _;exact QC0 (((((s.min==0)&&(s.max==0))&&(s.wall==0))&&((s.alts.length:Int)==1))&&(Q01 (s.alts.getD 0 Alt.zero))) (wk [] .nil (s1 (s1 .nil))) (foll hR (ct h3 rfl))
  ·refine ai (fun h5=>?_) (fun h6=>?_)
   ·(first|apply u2|apply u3|apply u4|apply us);exact shape_apart_c s.alts szA _;have cl1:∀ (y1:Alt),AMoves Tryz.prog 218 [Alt.a y1] [] 0 (Bo ((fun (y:Alt)=>(!(Q01 y))) y1)) []:=by
     intro y1;have hR:(fun (y:Alt)=>(!(Q01 y))) y1=(fun (y:Alt)=>(!(Q01 y))) y1:=rfl;refine mo (kp 3 []) Tryz.func218 ?_;refine us (Qu9 y1 _) ?_;refine Ql0 (fun r:Bool=>Bo r) (fun _=>[]) (leaf:=(!(Q01 y1))) (foll hR rfl) ?_;exact tt [] .nil t1
    have hof1:AMoves Tryz.prog 217 [altL s.alts,AVal.fn (.func 218) [] []] [] 0 (Bo (QM0 s.alts (fun (y:Alt)=>(!(Q01 y))))) []:=by
     have hR:QM0 s.alts (fun (y:Alt)=>(!(Q01 y)))=QM0 s.alts (fun (y:Alt)=>(!(Q01 y))):=rfl;refine mo (kp 5 []) Tryz.func217 ?_;have hof2:AMoves Tryz.prog 296 [altL s.alts,AVal.fn (.func 218) [] []] [] 0 (I (QY0 s.alts (fun (y:Alt)=>(!(Q01 y))))) []:=by
      have hR:QY0 s.alts (fun (y:Alt)=>(!(Q01 y)))=QY0 s.alts (fun (y:Alt)=>(!(Q01 y))):=rfl;refine mo (kp 6 [7,8,9,16]) Tryz.func296 ?_;refine Qm0 (fun (i:Nat)=>QX2 (fun (y:Alt)=>(!(Q01 y))) (List.drop i s.alts) i=QY0 s.alts (fun (y:Alt)=>(!(Q01 y)))∧i<=s.alts.length) (fun i=>s.alts.length - i) (fun i=>[(0,altL s.alts),(1,AVal.fn (.func 218) [] []),(4,I 0),(7,I (s.alts.length:Int)),(8,I (i:Int))]) (fun i=>[]) 0 (wk [] .nil (sl lw (sv (Qr0 (Low.fn _ _ _ LowL.nil LowL.nil)) (s1 (s1 (s1 .nil)))))) ⟨foll hR rfl,by exact omA⟩ ?_;clear hR;rintro i ⟨hR,hj⟩;(try dsimp only at hR hj);refine ai (fun h7=>?_) (fun h8=>?_)
      ·have hlt:=ltA h7;rw [Qg0 Alt.zero hlt] at hR;refine ai gkA ?_;refine us (mv [] (cl1 (s.alts.getD i Alt.zero)) .nil (dl (Alt.low _ _) .nil) .nil rx) ?_;refine ai (fun h9=>?_) (fun h10=>?_)
       ·refine Ql0 (fun r:Int=>I r) (fun r:Int=>[]) (leaf:=(i:Int)) (foll hR (ct h9 rfl)) ?_;exact tt [] .nil t1
       ·exact Qq0 (i+1) (wk [] .nil (sl lw (sv (Qr0 (Low.fn _ _ _ LowL.nil LowL.nil)) (s1 (s1 (sv (Qn0 (I_eq (wr omA)) lx) .nil)))))) omA ⟨foll hR (cf h10 rfl),by exact omA⟩
      ·rw [Qt0 (l:=s.alts) (j:=i) (geA h8)] at hR;refine Ql0 (fun r:Int=>I r) (fun r:Int=>[]) (leaf:=(-1)) (foll hR rfl) ?_;exact tt [] .nil t1
     refine us (mv [] (hof2) .nil (dl lw (dv (Q87 (Low.fn _ _ _ LowL.nil LowL.nil)) .nil)) .nil rx) ?_;refine Ql0 (fun r:Bool=>Bo r) (fun r:Bool=>[]) (leaf:=(decide ((QY0 s.alts (fun (y:Alt)=>(!(Q01 y)))) >= 0))) (foll hR rfl) ?_;exact tt [] .nil t1
    (first|apply u2|apply u3|apply u4|apply us);exact mv [] (hof1) .nil (dl lw (dv (Q87 (Low.fn _ _ _ LowL.nil LowL.nil)) .nil)) .nil rx;exact QC0 (((((((s.min==0)&&(s.max==0))&&(s.wall==0))&&(decide ((s.alts.length:Int) >= 1)))&&(decide ((s.alts.length:Int)<=6)))&&(QR4 s.alts))&&(!(QM0 s.alts (fun (y:Alt)=>(!(Q01 y)))))) (wk [] .nil (s1 (s1 .nil))) (foll hR (cf h4 (ct h5 rfl)))
   ·refine ai (fun h11=>?_) (fun h12=>?_)
    ·(first|apply u2|apply u3|apply u4|apply us);exact Qu9 (⟨s.min,s.wall⟩:Alt) _;exact QC0 (((((s.alts.length:Int)==0)&&(decide (s.min<=s.max)))&&(Q01 (⟨s.min,s.wall⟩:Alt)))&&(decide (s.max<=48))) (wk [] .nil (s1 (s1 .nil))) (foll hR (cf h4 (cf h6 (ct h11 rfl))))
    ·exact QC0 false (wk [] .nil (s1 (s1 .nil))) (foll hR (cf h4 (cf h6 (cf h12 rfl))))
def Qo1 (r_:LexReader):Token × LexReader:=bif (!(QX6 ((Q30 r_ (fun (y:Int)=>(((decide (y >= 48))&&(decide (y<=57)))||((decide (y >= 97))&&(decide (y<=122)))))).1))) then ((⟨3,(Q30 r_ (fun (y:Int)=>(((decide (y >= 48))&&(decide (y<=57)))||((decide (y >= 97))&&(decide (y<=122)))))).1,0,0⟩:Token),(Q30 r_ (fun (y:Int)=>(((decide (y >= 48))&&(decide (y<=57)))||((decide (y >= 97))&&(decide (y<=122)))))).2) else bif (!(Qa6 ((Q30 r_ (fun (y:Int)=>(((decide (y >= 48))&&(decide (y<=57)))||((decide (y >= 97))&&(decide (y<=122)))))).1)).2) then ((⟨2,⟨#[]⟩,(Qa6 ((Q30 r_ (fun (y:Int)=>(((decide (y >= 48))&&(decide (y<=57)))||((decide (y >= 97))&&(decide (y<=122)))))).1)).1,0⟩:Token),(QQ0 ((Q30 r_ (fun (y:Int)=>(((decide (y >= 48))&&(decide (y<=57)))||((decide (y >= 97))&&(decide (y<=122)))))).2) r_.at_ 50)) else ((⟨2,⟨#[]⟩,(Qa6 ((Q30 r_ (fun (y:Int)=>(((decide (y >= 48))&&(decide (y<=57)))||((decide (y >= 97))&&(decide (y<=122)))))).1)).1,0⟩:Token),(Q30 r_ (fun (y:Int)=>(((decide (y >= 48))&&(decide (y<=57)))||((decide (y >= 97))&&(decide (y<=122)))))).2)
theorem Qib (r_:LexReader) (hs0:r_.sz) (hp0:0<=r_.at_∧r_.at_<=(r_.line.length:Int)∧r_.line.length<=400):AMoves Tryz.prog 378 [AVal.ptr 0 0 4 0 0] [(0,AObj.row 364 4 [[runes r_.line,I r_.at_,I r_.bad,I r_.error]])] 1 (Token.a ((Qo1 r_).1)) [(0,AObj.row 364 4 [[runes ((Qo1 r_).2.line),I ((Qo1 r_).2.at_),I ((Qo1 r_).2.bad),I ((Qo1 r_).2.error)]])]:=by
 generalize hR:Qo1 r_=R;refine mo (kp 7 [15,24]) Tryz.func378 ?_;have hk0:=hs0;obtain z7:r_.line.length<=4294967296:=hs0;have cl1:∀ (y1:Int),AMoves Tryz.prog 391 [J y1] [] 0 (Bo ((fun (y:Int)=>(((decide (y >= 48))&&(decide (y<=57)))||((decide (y >= 97))&&(decide (y<=122))))) y1)) []:=by
  intro y1;have hR:(fun (y:Int)=>(((decide (y >= 48))&&(decide (y<=57)))||((decide (y >= 97))&&(decide (y<=122))))) y1=(fun (y:Int)=>(((decide (y >= 48))&&(decide (y<=57)))||((decide (y >= 97))&&(decide (y<=122))))) y1:=rfl;refine mo (kp 3 []) Tryz.func391 ?_;refine Ql0 (fun r:Bool=>Bo r) (fun _=>[]) (leaf:=(((decide (y1 >= 48))&&(decide (y1<=57)))||((decide (y1 >= 97))&&(decide (y1<=122))))) (foll hR rfl) ?_;exact tt [] .nil t1
 have hof1:AMoves Tryz.prog 363 [AVal.ptr 0 0 4 0 0,AVal.fn (.func 391) [] []] [(0,AObj.row 364 4 [[runes r_.line,I r_.at_,I r_.bad,I r_.error]])] 1 (Sg ((Q30 r_ (fun (y:Int)=>(((decide (y >= 48))&&(decide (y<=57)))||((decide (y >= 97))&&(decide (y<=122)))))).1)) [(0,AObj.row 364 4 [[runes (((Q30 r_ (fun (y:Int)=>(((decide (y >= 48))&&(decide (y<=57)))||((decide (y >= 97))&&(decide (y<=122)))))).2).line),I (((Q30 r_ (fun (y:Int)=>(((decide (y >= 48))&&(decide (y<=57)))||((decide (y >= 97))&&(decide (y<=122)))))).2).at_),I (((Q30 r_ (fun (y:Int)=>(((decide (y >= 48))&&(decide (y<=57)))||((decide (y >= 97))&&(decide (y<=122)))))).2).bad),I (((Q30 r_ (fun (y:Int)=>(((decide (y >= 48))&&(decide (y<=57)))||((decide (y >= 97))&&(decide (y<=122)))))).2).error)]])]:=by
  have hR:Q30 r_ (fun (y:Int)=>(((decide (y >= 48))&&(decide (y<=57)))||((decide (y >= 97))&&(decide (y<=122)))))=Q30 r_ (fun (y:Int)=>(((decide (y >= 48))&&(decide (y<=57)))||((decide (y >= 97))&&(decide (y<=122))))):=rfl;refine mo (kp 6 [33]) Tryz.func363 ?_;refine Qm0 (fun (c:LexReader)=>∃ m,(Int.toNat ((c.line.length:Int) - c.at_))<m∧Qx0 r_ (Qw0 (fun (y:Int)=>(((decide (y >= 48))&&(decide (y<=57)))||((decide (y >= 97))&&(decide (y<=122))))) m c)=Q30 r_ (fun (y:Int)=>(((decide (y >= 48))&&(decide (y<=57)))||((decide (y >= 97))&&(decide (y<=122)))))∧0<=c.at_∧c.at_<=(c.line.length:Int)∧c.line.length<=400∧r_.at_<=c.at_∧0<=r_.at_) (fun c=>(Int.toNat ((c.line.length:Int) - c.at_))) (fun c=>[(0,AVal.ptr 0 0 4 0 0),(1,AVal.fn (.func 391) [] []),(4,Sg ⟨#[]⟩),(5,I r_.at_)]) (fun c=>[(0,AObj.row 364 4 [[runes c.line,I c.at_,I c.bad,I c.error]])]) r_ (wk [0] (tO rfl (ts LexReader.lo) .nil) (sv (Q10 0 rfl rfl) (sv (Qr0 (Low.fn _ _ _ LowL.nil LowL.nil)) (s1 (s1 .nil))))) ⟨_,Nat.lt_succ_self _,foll hR rfl,by exact exA⟩ ?_;clear hR;rintro c ⟨m,hm,hR,hx⟩;(try dsimp only at hR hm hx);obtain ⟨m,rfl⟩:=sucA m;refine dchk (by kernel_rfl) ?_;refine ai gkA ?_;(first|apply u2|apply u3|apply u4|apply us);exact mv [] (cl1 (c.line.getD (Int.toNat c.at_) 0)) .nil (d1 .nil) .nil rx;(repeat ((first|refine ai rfl ?_|refine ai (fun _=>rfl) ?_)));refine ai (fun h1=>?_) (fun h2=>?_)
  ·have hq1:=of_decide_eq_true ((Bool.and_eq_true _ _).mp h1).1;have hwr:w64 (c.at_+1)=c.at_+1:=wr (by omega);exact Qq0 { c with at_:=(w64 (c.at_+1)) } (wk [0] (tO rfl (ts LexReader.lo) .nil) (sv (Q10 0 rfl rfl) (sv (Qr0 (Low.fn _ _ _ LowL.nil LowL.nil)) (s1 (s1 .nil))))) omA ⟨m,by exact omA,foll hR (congrArg (fun p:LexReader=>Qx0 r_ p) (ct h1 rfl)),by exact exA⟩
  ·replace hR:Qx0 r_ c=Q30 r_ (fun (y:Int)=>(((decide (y >= 48))&&(decide (y<=57)))||((decide (y >= 97))&&(decide (y<=122))))):=fo2 (fun p:LexReader=>Qx0 r_ p) (c) hR (cf h2 rfl);refine dchk (by kernel_rfl) ?_;refine ai gkA ?_;(first|refine ⟨(List.drop (Int.toNat r_.at_) (List.take (Int.toNat c.at_) c.line)),by exact cvA,?_⟩|refine ⟨_,fun _=>⟨(List.drop (Int.toNat r_.at_) (List.take (Int.toNat c.at_) c.line)),by exact cvA,rfl,rfl⟩,?_⟩|refine ⟨_,rfl,⟨(List.drop (Int.toNat r_.at_) (List.take (Int.toNat c.at_) c.line)),by exact cvA,Sub.refl _,rfl⟩,?_⟩);(repeat ((first|refine ai rfl ?_|refine ai (fun _=>rfl) ?_)));refine Ql0 (fun r:ByteArray × LexReader=>Sg r.1) (fun r:ByteArray × LexReader=>[(0,AObj.row 364 4 [[runes r.2.line,I r.2.at_,I r.2.bad,I r.2.error]])]) (leaf:=((runesBytes (List.drop (Int.toNat r_.at_) (List.take (Int.toNat c.at_) c.line))),c)) (foll hR rfl) ?_;exact tt [0] (tO rfl (ts LexReader.lo) .nil) t1
 refine us (mv [0] (hof1) (dO (ds LexReader.lo) .nil) (dp (dv (Q87 (Low.fn _ _ _ LowL.nil LowL.nil)) .nil)) (rO (re LexReader.lo) .nil) rx) ?_;refine us (QIc ((Q30 r_ (fun (y:Int)=>(((decide (y >= 48))&&(decide (y<=57)))||((decide (y >= 97))&&(decide (y<=122)))))).1) (by first|(exact Qd9 _ _ hp0.2.2)|exact szA) _) ?_;refine ai (fun h3=>?_) (fun h4=>?_)
 ·obtain rfl:=foll hR (ct h3 rfl);exact rq (tt [0] (tO rfl (ts LexReader.lo) .nil) (Qr0 (Low.agg' (Token.lo))))
 ·refine us (lex_number_c ((Q30 r_ (fun (y:Int)=>(((decide (y >= 48))&&(decide (y<=57)))||((decide (y >= 97))&&(decide (y<=122)))))).1) (by first|(exact Qd9 _ _ hp0.2.2)|exact szA) _) ?_;refine ai (fun h5=>?_) (fun h6=>?_)
  ·refine us (mv [0] (Q53 ((Q30 r_ (fun (y:Int)=>(((decide (y >= 48))&&(decide (y<=57)))||((decide (y >= 97))&&(decide (y<=122)))))).2) r_.at_ 50) (dO (ds LexReader.lo) .nil) (dp (d1 (d1 .nil))) (rO (re LexReader.lo) .nil) rx) ?_;obtain rfl:=foll hR (cf h4 (ct h5 rfl));exact rq (tt [0] (tO rfl (ts LexReader.lo) .nil) (Qr0 (Low.agg' (Token.lo))))
  ·obtain rfl:=foll hR (cf h4 (cf h6 rfl));exact rq (tt [0] (tO rfl (ts LexReader.lo) .nil) (Qr0 (Low.agg' (Token.lo))))
attribute [local irreducible] QE0
def Qj3 :List (Nat × Int)->Bool->List Int->ByteArray × Int
 | [],held,buf=>bif held then (⟨#[]⟩,50) else ((QQ2 buf),0)
 | x_ :: r,held,buf=>bif ((held&&(x_.2 != 34))&&(x_.2 != 92)) then bif ((held&&(x_.2 != 34))&&(x_.2 != 92)) then (⟨#[]⟩,50) else bif ((!held)&&(x_.2==92)) then Qj3 r true buf else Qj3 r false (QE0 buf x_.2) else bif ((!held)&&(x_.2==34)) then (⟨#[]⟩,50) else bif ((!held)&&(x_.2==92)) then Qj3 r true buf else Qj3 r false (QE0 buf x_.2)
def QV2 (s:ByteArray):ByteArray × Int:=bif ((Q74 s).2 != 0) then (⟨#[]⟩,(Q74 s).2) else bif (((decide ((ByteArray.size s:Int)<2))||(((s.data.toList.getD 0 0).toNat:Int)!=34))||(((s.data.toList.getD (Int.toNat (w64 ((ByteArray.size s:Int) - 1))) 0).toNat:Int)!=34)) then (⟨#[]⟩,50) else Qj3 (Qq6 (s.extract 1 (Int.toNat (w64 ((ByteArray.size s:Int) - 1))))) false []
theorem b3a1 {P:Prop} (h:P:=by first|(have hsz:=extract_size s 1 (Int.toNat (w64 ((ByteArray.size s:Int) - 1)));refine ⟨?_,?_,?_⟩ <;> (try dsimp only) <;> first|omega|with_reducible exact Qy9|with_reducible exact hx.2.2|with_reducible exact byteIn_rune _ _ hx.2.2|exact Nat.le_trans (QGa _ _) (by omega)|(simp;done))|exact exA):P:=h
theorem Qt9 (s:ByteArray) (hs0:s.size<=4294967296) (hp0:ByteArray.size s<=1000000):GV 395 [Sg s] (AVal.tup [Sg ((QV2 s).1),I ((QV2 s).2)]):=by
 generalize hR:QV2 s=R;refine ga (l1 .nil) (Low.tup' (l1 (l1 .nil))) (kp 10 [16,33,39,40,41,43,59,68]) Tryz.func395 ?_;have hk0:=hs0;obtain z19:s.size<=4294967296:=hs0;have hw0:w64 ((ByteArray.size s:Int) - 1)=(ByteArray.size s:Int) - 1:=wr (by omega);refine us (Qzb s szA _) ?_;refine ai (fun h1=>?_) (fun h2=>?_)
 ·obtain rfl:=foll hR (ct h1 rfl);exact Q00 (Low.tup' (l1 (l1 .nil))) (Seen.tup (e1 (e1 .nil)))
 ·refine ai gkA ?_;refine ai gkA ?_;refine ai (fun h3=>?_) (fun h4=>?_)
  ·obtain rfl:=foll hR (cf h2 (ct h3 rfl));exact Q00 (Low.tup' (l1 (l1 .nil))) (Seen.tup (e1 (e1 .nil)))
  ·refine ai gkA ?_;refine Qv8 (fun (held:Bool) (buf:List Int) (pos:Nat)=>∃ m,ByteArray.size (s.extract 1 (Int.toNat (w64 ((ByteArray.size s:Int) - 1)))) - pos<=m∧Qj3 (QA4 (s.extract 1 (Int.toNat (w64 ((ByteArray.size s:Int) - 1)))) m pos) held buf=R∧buf.length<=4*pos∧pos<=ByteArray.size s∧Qt6 buf) (fun held buf pos=>ByteArray.size (s.extract 1 (Int.toNat (w64 ((ByteArray.size s:Int) - 1)))) - pos) (fun held buf pos=>[(2,Sg ⟨#[]⟩),(3,I 0),(6,AVal.ptr 0 0 2 0 0),(7,Bo held),(39,AVal.ptr 1 0 1 0 0)]) (fun held buf pos=>[(0,AObj.row 384 2 [[AVal.sel 0 0 2 0 0,AVal.buf 2 0 1 buf.length]]),(0,AObj.other (.strIter (s.extract 1 (Int.toNat (w64 ((ByteArray.size s:Int) - 1)))) pos)),(0,AObj.row 5 1 (buf.map (fun q_=>[Y q_])))]) false [] 0 ((QH3 5 1).trans (wk [0,1,2] (tO rfl (Qb0 (cv (turn_selnil) (cv (turn_nilbuf 2 rfl) .nil))) (tO rfl (.strIter _ _) (tO rfl (tl eqA) .nil))) (s1 (s1 (sv (Q10 0 rfl rfl) (s1 (sv (Q10 1 rfl rfl) .nil))))))) ⟨ByteArray.size (s.extract 1 (Int.toNat (w64 ((ByteArray.size s:Int) - 1)))),by exact omA,foll hR (cf h2 (cf h4 rfl)),b3a1⟩ ?_;clear hR;rintro held buf pos ⟨m,hm,hR,hx⟩;(try dsimp only at hR hm hx);refine ai (fun h5=>?_) (fun h6=>?_)
   ·have hlt:=of_decide_eq_true h5;have hw:=QD9 (s.extract 1 (Int.toNat (w64 ((ByteArray.size s:Int) - 1)))) pos;have hwe:=QC9 (s.extract 1 (Int.toNat (w64 ((ByteArray.size s:Int) - 1)))) pos hlt;obtain ⟨m,rfl⟩:=sucA m;rw [Qc4 h5] at hR;refine ai (fun _=>?_) (fun h=>nomatch h);refine ai (fun h7=>?_) (fun h8=>?_)
    ·refine ai (fun h9=>?_) (fun h10=>?_)
     ·obtain rfl:=foll hR (ct h7 (ct h9 rfl));exact Q00 (Low.tup' (l1 (l1 .nil))) (Seen.tup (e1 (e1 .nil)))
     ·refine ai (fun h11=>?_) (fun h12=>?_)
      ·exact Qm4 true buf (pos+(Utf8.decode (s.extract 1 (Int.toNat (w64 ((ByteArray.size s:Int) - 1)))) pos).2) (wk [0,1,2] (tO rfl (Qb0 (cv (turn_sel 0 rfl rfl) (cv (turn_buf 2 rfl rfl) .nil))) (tO rfl (.strIter _ _) (tO rfl (tl eqA) .nil))) (s1 (s1 (sv (Q10 0 rfl rfl) (s1 (sv (Q10 1 rfl rfl) .nil)))))) omA ⟨m,by exact omA,foll hR (ct h7 (cf h10 (ct h11 rfl))),b3a1⟩
      ·refine us (mv [0,2] (Qsd buf ((pos,((Utf8.decode (s.extract 1 (Int.toNat (w64 ((ByteArray.size s:Int) - 1)))) pos).1:Int)).2) szA) (dO (dc (dv (dn_sel rfl) (dv (dn_buf rfl) .nil))) (dO (dr eqA) .nil)) (dp (d1 .nil)) (rO (rc (rv (rp 0 0 rfl) (rv (rw_ 3 0 rfl) .nil))) (rO rr .nil)) (Ren.low _ (Low.tup' (l1 (l1 .nil))))) ?_;exact Qm4 false (QE0 buf (pos,((Utf8.decode (s.extract 1 (Int.toNat (w64 ((ByteArray.size s:Int) - 1)))) pos).1:Int)).2) (pos+(Utf8.decode (s.extract 1 (Int.toNat (w64 ((ByteArray.size s:Int) - 1)))) pos).2) (wk [0,1,3] (tO rfl (Qb0 (cv (QFa 0 rfl rfl) (cv (Q1f 2 rfl rfl lnA (by first|with_reducible exact QM7 _ _|(simp;done)|grind)) .nil))) (tO rfl (.strIter _ _) (tO rfl (tl eqA) .nil))) (s1 (s1 (sv (Q10 0 rfl rfl) (s1 (sv (Q10 1 rfl rfl) .nil)))))) omA ⟨m,by exact omA,foll hR (ct h7 (cf h10 (cf h12 rfl))),b3a1⟩
    ·refine ai (fun h13=>?_) (fun h14=>?_)
     ·obtain rfl:=foll hR (cf h8 (ct h13 rfl));exact Q00 (Low.tup' (l1 (l1 .nil))) (Seen.tup (e1 (e1 .nil)))
     ·refine ai (fun h15=>?_) (fun h16=>?_)
      ·exact Qm4 true buf (pos+(Utf8.decode (s.extract 1 (Int.toNat (w64 ((ByteArray.size s:Int) - 1)))) pos).2) (wk [0,1,2] (tO rfl (Qb0 (cv (turn_sel 0 rfl rfl) (cv (turn_buf 2 rfl rfl) .nil))) (tO rfl (.strIter _ _) (tO rfl (tl eqA) .nil))) (s1 (s1 (sv (Q10 0 rfl rfl) (s1 (sv (Q10 1 rfl rfl) .nil)))))) omA ⟨m,by exact omA,foll hR (cf h8 (cf h14 (ct h15 rfl))),b3a1⟩
      ·refine us (mv [0,2] (Qsd buf ((pos,((Utf8.decode (s.extract 1 (Int.toNat (w64 ((ByteArray.size s:Int) - 1)))) pos).1:Int)).2) szA) (dO (dc (dv (dn_sel rfl) (dv (dn_buf rfl) .nil))) (dO (dr eqA) .nil)) (dp (d1 .nil)) (rO (rc (rv (rp 0 0 rfl) (rv (rw_ 3 0 rfl) .nil))) (rO rr .nil)) (Ren.low _ (Low.tup' (l1 (l1 .nil))))) ?_;exact Qm4 false (QE0 buf (pos,((Utf8.decode (s.extract 1 (Int.toNat (w64 ((ByteArray.size s:Int) - 1)))) pos).1:Int)).2) (pos+(Utf8.decode (s.extract 1 (Int.toNat (w64 ((ByteArray.size s:Int) - 1)))) pos).2) (wk [0,1,3] (tO rfl (Qb0 (cv (QFa 0 rfl rfl) (cv (Q1f 2 rfl rfl lnA (by first|with_reducible exact QM7 _ _|(simp;done)|grind)) .nil))) (tO rfl (.strIter _ _) (tO rfl (tl eqA) .nil))) (s1 (s1 (sv (Q10 0 rfl rfl) (s1 (sv (Q10 1 rfl rfl) .nil)))))) omA ⟨m,by exact omA,foll hR (cf h8 (cf h14 (cf h16 rfl))),b3a1⟩
   ·rw [QI6 h6] at hR;refine ai (fun h=>nomatch h) (fun _=>?_);refine ai (fun h17=>?_) (fun h18=>?_)
    ·obtain rfl:=foll hR (ct h17 rfl);exact Q00 (Low.tup' (l1 (l1 .nil))) (Seen.tup (e1 (e1 .nil)))
    ·refine us (mv [0,2] (String_c buf (by first|(with_reducible exact hx.2.2)|first|assumption|exact Qy9|grind) szA) (dO (dc (dv (dn_any) (dv (dn_bufbuf rfl) .nil))) (dO (dr eqA) .nil)) (dp .nil) (rO (re (.cons Low.any (.cons Low.any .nil))) .nil) rx) ?_;obtain rfl:=foll hR (cf h18 rfl);exact Q00 (Low.tup' (l1 (l1 .nil))) (Seen.tup (e1 (e1 .nil)))
def QI4 (l:List Usage):List Usage->Nat->Int
 | [],_=>0
 | x_ :: r,i=>bif ((((((!(Qs5 x_.user))||(!(Qs5 x_.account)))||(x_.used != (Qd5 x_.used)))||(decide (x_.share<0)))||(decide (x_.share > x_.used)))||((decide ((i:Int) > 0))&&(decide ((QC6 (l.getD (Int.toNat (w64 ((i:Int) - 1))) Usage.zero) x_) >= 0)))) then 2 else QI4 l r (i+1)
def Qe2 (l:List Usage):Int:=bif (decide ((l.length:Int) > 200)) then 2 else QI4 l l 0
theorem Q0a (l:List Usage) (hs0:l.length<=4294967296∧(∀ y ∈ l,y.sz)):GV 60 [Qo2 l] (I (Qe2 l)):=by
 generalize hR:Qe2 l=R;refine ga (.cons lw .nil) lx (kp 5 [7,8,9,10,11,58]) Tryz.func60 ?_;obtain ⟨z9,z10⟩:=id hs0;refine ai (fun h1=>?_) (fun h2=>?_)
 ·have qh1:=of_decide_eq_true h1;obtain rfl:=foll hR (ct h1 rfl);exact Q00 lx sr
 ·have qh2:=of_decide_eq_false h2;refine Qm0 (fun (i:Nat)=>QI4 l (List.drop i l) i=R∧i<=l.length) (fun i=>l.length - i) (fun i=>[(0,Qo2 l),(2,I 0),(8,Qo2 l),(9,I (l.length:Int)),(10,I (i:Int))]) (fun i=>[]) 0 (wk [] .nil (sl lw (s1 (sl lw (s1 (s1 .nil)))))) ⟨foll hR (cf h2 rfl),by exact omA⟩ ?_;clear hR;rintro i ⟨hR,hj⟩;(try dsimp only at hR hj);refine ai (fun h3=>?_) (fun h4=>?_)
  ·have hlt:=ltA h3;rw [Qg0 Usage.zero hlt] at hR;have hxz:(l.getD i Usage.zero).sz:=Q70 (by first|assumption|grind) (Usage.szz _);have hkz:=hxz;obtain ⟨z5,z6⟩:=Usage.zz hxz;refine ai gkA ?_;refine dchk (by kernel_rfl) ?_;(first|apply u2|apply u3|apply u4|apply us);exact QR6 ((l.getD i Usage.zero).user) _;(first|apply u2|apply u3|apply u4|apply us);exact QR6 ((l.getD i Usage.zero).account) _;(first|apply u2|apply u3|apply u4|apply us);exact QK8 ((l.getD i Usage.zero).used) _;refine ai gkA ?_;(first|apply u2|apply u3|apply u4|apply us);exact Q2a (l.getD (Int.toNat (w64 ((i:Int) - 1))) Usage.zero) (l.getD i Usage.zero) szA szA _;(repeat ((first|refine ai rfl ?_|refine ai (fun _=>rfl) ?_|refine ai (fun _=>QR6 ((l.getD i Usage.zero).user) _) ?_|refine ai (fun _=>QR6 ((l.getD i Usage.zero).account) _) ?_|refine ai (fun _=>QK8 ((l.getD i Usage.zero).used) _) ?_|refine ai (fun _=>Q2a (l.getD (Int.toNat (w64 ((i:Int) - 1))) Usage.zero) (l.getD i Usage.zero) szA szA _) ?_)));refine ai (fun h7=>?_) (fun h8=>?_)
   ·obtain rfl:=foll hR (ct h7 rfl);exact Q00 lx sr
   ·exact Qq0 (i+1) (wk [] .nil (sl lw (s1 (sl lw (s1 (sv (Qn0 (I_eq (wr omA)) lx) .nil)))))) omA ⟨foll hR (cf h8 rfl),by exact omA⟩
  ·rw [Qt0 (l:=l) (j:=i) (geA h4)] at hR;obtain rfl:=foll hR rfl;exact Q00 lx sr
def Qe1 (p_:List Step) (from_:Int) (latest:Int) (grace:Int) (options1:List Alt):List Alt->Int->Int->Bool->Nat->Int × Int × Bool
 | [],choice,start,found,_=>(choice,start,found)
 | x_ :: r,choice,start,found,i=>bif ((!(Ql2 x_.wall x_.nodes))||(decide ((max grace 0) > (w64 (1000000 - x_.wall))))) then Qe1 p_ from_ latest grace options1 r choice start found (i+1) else bif ((!((QB2 p_ from_ (w64 (x_.wall+(max grace 0))) x_.nodes).2&&(decide ((QB2 p_ from_ (w64 (x_.wall+(max grace 0))) x_.nodes).1<=latest))))||(found&&(decide ((w64 ((QB2 p_ from_ (w64 (x_.wall+(max grace 0))) x_.nodes).1+x_.wall)) >= (w64 (start+(options1.getD (Int.toNat choice) Alt.zero).wall)))))) then Qe1 p_ from_ latest grace options1 r choice start found (i+1) else Qe1 p_ from_ latest grace options1 r (i:Int) ((QB2 p_ from_ (w64 (x_.wall+(max grace 0))) x_.nodes).1) true (i+1)
def QF4 (choice:Int) (start:Int) (found:Bool):Int × Int × Bool:=(choice,start,found)
def Qc7 (p_:List Step) (from_:Int) (latest:Int) (grace:Int) (options1:List Alt):Int × Int × Bool:=QF4 ((Qe1 p_ from_ latest grace options1 options1 0 0 false 0).1) ((Qe1 p_ from_ latest grace options1 options1 0 0 false 0).2.1) ((Qe1 p_ from_ latest grace options1 options1 0 0 false 0).2.2)
def Qk2 (p_:List Step) (options:List Alt) (from_:Int) (latest:Int) (grace:Int):Int × Int × Bool:=bif (decide ((options.length:Int) > 48)) then Qc7 p_ from_ latest grace (List.take 48 options) else Qc7 p_ from_ latest grace options
theorem b3a0 {P:Prop} (h:P:=by first|((exact hx))|first|((exact fun h=>absurd h (by decide)))|first|((exact fun _=>⟨by omega,by omega⟩))|exact exA):P:=h
theorem QE9 (p_:List Step) (options:List Alt) (from_:Int) (latest:Int) (grace:Int) (hs0:p_.length<=4294967296) (hs1:options.length<=4294967296):GV 46 [stepL p_,altL options,I from_,I latest,I grace] (AVal.tup [I ((Qk2 p_ options from_ latest grace).1),I ((Qk2 p_ options from_ latest grace).2.1),Bo ((Qk2 p_ options from_ latest grace).2.2)]):=by
 generalize hR:Qk2 p_ options from_ latest grace=R;refine ga (.cons lw (.cons lw (l1 (l1 (l1 .nil))))) (Low.tup' (l1 (l1 (l1 .nil)))) (kj [1000003] 21 [23,29,30,31,32,60]) Tryz.func46 ?_;have hk0:=hs0;obtain z9:p_.length<=4294967296:=hs0;have hk1:=hs1;obtain z10:options.length<=4294967296:=hs1;refine QJ2 (fun (options1:List Alt)=>Qc7 p_ from_ latest grace options1=R∧options1.length<=4294967296) (fun options1=>[(1,altL options1),(5,AVal.ptr 0 0 1 0 0),(7,AVal.ptr 1 0 1 0 0),(8,AVal.ptr 2 0 1 0 0),(9,AVal.ptr 3 0 1 0 0),(10,I 0),(11,I 0),(12,Bo false)]) (fun options1=>[(0,AObj.row 85 1 [[stepL p_]]),(0,AObj.row 3 1 [[I from_]]),(0,AObj.row 3 1 [[I latest]]),(0,AObj.row 3 1 [[I grace]])]) ?_ ?_
 ·clear hR;rintro options1 ⟨hR,hx⟩;(try dsimp only at hR hx);refine loop_start4 (fun (choice:Int) (start:Int) (found:Bool) (i:Nat)=>QF4 (Qe1 p_ from_ latest grace options1 (List.drop i options1) choice start found i).1 (Qe1 p_ from_ latest grace options1 (List.drop i options1) choice start found i).2.1 (Qe1 p_ from_ latest grace options1 (List.drop i options1) choice start found i).2.2=R∧i<=options1.length∧(found=true->0<=choice∧choice<(options1.length:Int))) (fun choice start found i=>options1.length - i) (fun choice start found i=>[(1,altL options1),(10,I 0),(11,I 0),(12,Bo false),(13,AVal.fn (.func 131) [] [AVal.ptr 3 0 1 0 0,AVal.ptr 0 0 1 0 0,AVal.ptr 1 0 1 0 0,AVal.ptr 2 0 1 0 0]),(14,I choice),(15,I start),(16,Bo found),(29,altL options1),(30,I (options1.length:Int)),(31,I (i:Int))]) (fun choice start found i=>[(0,AObj.row 85 1 [[stepL p_]]),(0,AObj.row 3 1 [[I from_]]),(0,AObj.row 3 1 [[I latest]]),(0,AObj.row 3 1 [[I (max grace 0)]])]) 0 0 false 0 (wk [0,1,2,3] (tO rfl (ts (lv lw LowL.nil)) (tO rfl (ts (l1 LowL.nil)) (tO rfl (ts (l1 LowL.nil)) (tO rfl (ts (l1 LowL.nil)) .nil)))) (sl lw (s1 (s1 (s1 (sv (QI0 .nil (cv (Q10 3 rfl rfl) (cv (Q10 0 rfl rfl) (cv (Q10 1 rfl rfl) (cv (Q10 2 rfl rfl) .nil))))) (s1 (s1 (s1 (sl lw (s1 (s1 .nil)))))))))))) ⟨foll hR rfl,by exact omA,b3a0⟩ ?_;clear hR;rintro choice start found i ⟨hR,hj,hx⟩;(try dsimp only at hR hj hx);refine ai (fun h1=>?_) (fun h2=>?_)
  ·have hlt:=ltA h1;rw [Qg0 Alt.zero hlt] at hR;refine And.intro (by first|exact fun hg=>decide_eq_true (by first|((have q:=(Bool.and_eq_true_iff.1 hg).2;have q2:=hx q;omega))|exact ckA)|exact gkA) ?_;refine ACalls.of_cwp (fun _=>true) Tryz.func131 rfl rfl ?_;refine us (QZb ((options1.getD i Alt.zero).wall) ((options1.getD i Alt.zero).nodes) _) ?_;refine ai (fun h3=>?_) (fun h4=>?_)
   ·refine ⟨_,_,Told.refl,?_⟩;refine dchk (by kernel_rfl) ?_;refine ai (fun hg=>nomatch (show false=true from hg)) ?_;(repeat ((first|refine ai rfl ?_|refine ai (fun _=>rfl) ?_)));refine ai (fun _=>?_) (fun h=>nomatch h);exact Q9c choice start found (i+1) (wk [0,1,2,3] (tO rfl (ts (lv lw LowL.nil)) (tO rfl (ts (l1 LowL.nil)) (tO rfl (ts (l1 LowL.nil)) (tO rfl (ts (l1 LowL.nil)) .nil)))) (sl lw (s1 (s1 (s1 (sv (QI0 .nil (cv (Q10 3 rfl rfl) (cv (Q10 0 rfl rfl) (cv (Q10 1 rfl rfl) (cv (Q10 2 rfl rfl) .nil))))) (s1 (s1 (s1 (sl lw (s1 (sv (Qn0 (I_eq (wr omA)) lx) .nil)))))))))))) omA ⟨foll hR (congrArg (fun p:Int × Int × Bool=>QF4 p.1 p.2.1 p.2.2) (ct h3 rfl)),by exact omA,b3a0⟩
   ·refine us (fit_Earliest_c p_ from_ (w64 ((options1.getD i Alt.zero).wall+(max grace 0))) ((options1.getD i Alt.zero).nodes) szA _) ?_;refine dchk (by kernel_rfl) ?_;(repeat ((first|refine ai rfl ?_|refine ai (fun _=>rfl) ?_)));refine ⟨_,_,Told.refl,?_⟩;refine dchk (by kernel_rfl) ?_;refine And.intro (by first|exact fun hg=>decide_eq_true (by first|((have q:=(Bool.and_eq_true_iff.1 hg).2;have q2:=hx q;omega))|exact ckA)|exact gkA) ?_;(repeat ((first|refine ai rfl ?_|refine ai (fun _=>rfl) ?_)));refine ai (fun h5=>?_) (fun h6=>?_)
    ·exact Q9c choice start found (i+1) (wk [0,1,2,3] (tO rfl (ts (lv lw LowL.nil)) (tO rfl (ts (l1 LowL.nil)) (tO rfl (ts (l1 LowL.nil)) (tO rfl (ts (l1 LowL.nil)) .nil)))) (sl lw (s1 (s1 (s1 (sv (QI0 .nil (cv (Q10 3 rfl rfl) (cv (Q10 0 rfl rfl) (cv (Q10 1 rfl rfl) (cv (Q10 2 rfl rfl) .nil))))) (s1 (s1 (s1 (sl lw (s1 (sv (Qn0 (I_eq (wr omA)) lx) .nil)))))))))))) omA ⟨foll hR (congrArg (fun p:Int × Int × Bool=>QF4 p.1 p.2.1 p.2.2) (cf h4 (ct h5 rfl))),by exact omA,b3a0⟩
    ·exact Q9c (i:Int) ((QB2 p_ from_ (w64 ((options1.getD i Alt.zero).wall+(max grace 0))) (options1.getD i Alt.zero).nodes).1) true (i+1) (wk [0,1,2,3] (tO rfl (ts (lv lw LowL.nil)) (tO rfl (ts (l1 LowL.nil)) (tO rfl (ts (l1 LowL.nil)) (tO rfl (ts (l1 LowL.nil)) .nil)))) (sl lw (s1 (s1 (s1 (sv (QI0 .nil (cv (Q10 3 rfl rfl) (cv (Q10 0 rfl rfl) (cv (Q10 1 rfl rfl) (cv (Q10 2 rfl rfl) .nil))))) (s1 (s1 (s1 (sl lw (s1 (sv (Qn0 (I_eq (wr omA)) lx) .nil)))))))))))) omA ⟨foll hR (congrArg (fun p:Int × Int × Bool=>QF4 p.1 p.2.1 p.2.2) (cf h4 (cf h6 rfl))),by exact omA,b3a0⟩
  ·rw [Qt0 (l:=options1) (j:=i) (geA h2)] at hR;replace hR:QF4 choice start found=R:=fo2 (fun p:Int × Int × Bool=>QF4 p.1 p.2.1 p.2.2) (choice,start,found) hR rfl;obtain rfl:=foll hR rfl;exact Q00 (Low.tup' (l1 (l1 (l1 .nil)))) (Seen.tup (e1 (e1 (e1 .nil))))
 ·refine ai (fun h7=>?_) (fun h8=>?_)
  ·have qh7:=of_decide_eq_true h7;refine And.intro (by first|exact fun hg=>decide_eq_true (by first|((have q:=(Bool.and_eq_true_iff.1 hg).2;have q2:=hx q;omega))|exact ckA)|exact gkA) ?_;exact QC0 (List.take 48 options) (wk [0,1,2,3] (tO rfl (ts (lv lw LowL.nil)) (tO rfl (ts (l1 LowL.nil)) (tO rfl (ts (l1 LowL.nil)) (tO rfl (ts (l1 LowL.nil)) .nil)))) (sv (turn_as (as_take options 48 (by first|((have q:=(Bool.and_eq_true_iff.1 hg).2;have q2:=hx q;omega))|exact ckA)) lw) (sv (Q10 0 rfl rfl) (sv (Q10 1 rfl rfl) (sv (Q10 2 rfl rfl) (sv (Q10 3 rfl rfl) (s1 (s1 (s1 .nil))))))))) (⟨foll hR (ct h7 rfl),b3a0⟩)
  ·have qh8:=of_decide_eq_false h8;exact QC0 options (wk [0,1,2,3] (tO rfl (ts (lv lw LowL.nil)) (tO rfl (ts (l1 LowL.nil)) (tO rfl (ts (l1 LowL.nil)) (tO rfl (ts (l1 LowL.nil)) .nil)))) (sl lw (sv (Q10 0 rfl rfl) (sv (Q10 1 rfl rfl) (sv (Q10 2 rfl rfl) (sv (Q10 3 rfl rfl) (s1 (s1 (s1 .nil))))))))) (⟨foll hR (cf h8 rfl),b3a0⟩)
def Qd1 (t:Taken) (from_:Int) (to_:Int) (n:Int):Taken:=bif ((decide (to_<=from_))||(n==0)) then t else bif ((QJ1 t.p from_ to_ (w64 (0 - n))).2==0) then (⟨(QJ1 t.p from_ to_ (w64 (0 - n))).1⟩:Taken) else t
theorem Qe6 (t:Taken) (from_:Int) (to_:Int) (n:Int) (hs0:t.sz):AMoves Tryz.prog 136 [AVal.ptr 0 0 1 0 0,I from_,I to_,I n] [(0,AObj.row 185 1 [[stepL t.p]])] 1 (AVal.tup []) [(0,AObj.row 185 1 [[stepL ((Qd1 t from_ to_ n).p)]])]:=by
 generalize hR:Qd1 t from_ to_ n=R;refine mo (kp 10 [16,30]) Tryz.func136 ?_;have hk0:=hs0;obtain z5:t.p.length<=4294967296:=hs0;refine ai (fun h1=>?_) (fun h2=>?_)
 ·obtain rfl:=foll hR (ct h1 rfl);exact rq (tt [0] (tO rfl (ts Taken.lo) .nil) t1)
 ·refine us (Qob t.p from_ to_ (w64 (0 - n)) szA _) ?_;refine ai (fun h3=>?_) (fun h4=>?_)
  ·obtain rfl:=foll hR (cf h2 (ct h3 rfl));exact rq (tt [0] (tO rfl (ts Taken.lo) .nil) t1)
  ·obtain rfl:=foll hR (cf h2 (cf h4 rfl));exact rq (tt [0] (tO rfl (ts Taken.lo) .nil) t1)
theorem QQ8 {t:Taken} {f g n:Int} (h:t.p.length<=4294967296):(Qd1 t f g n).p.length<=4294967296:=by
 unfold Qd1
 repeat' first|exact h|exact Qi9 _ _ _ _ h|(rw [Bool.cond_eq_ite];split)
theorem flat_len (n:Int):(Qg2 n).length<=4294967296:=by simp [Qg2]
def QQ6 (p_:List Step) (at_:Int) (long:Int) (nodes:Int):Bool:=bif ((((Qx1 p_)!=0)||(!(Ql2 long nodes)))||(!(Qj4 at_ 0 (w64 (1000000 - long))))) then false else (decide ((QA0 p_ at_ (w64 (at_+long))) >= nodes))
theorem fit_Fits_c (p_:List Step) (at_:Int) (long:Int) (nodes:Int) (hs0:p_.length<=4294967296):GV 87 [stepL p_,I at_,I long,I nodes] (Bo (QQ6 p_ at_ long nodes)):=by
 generalize hR:QQ6 p_ at_ long nodes=R;refine ga (.cons lw (l1 (l1 (l1 .nil)))) lx (kp 9 [24]) Tryz.func87 ?_;have hk0:=hs0;obtain z3:p_.length<=4294967296:=hs0;refine us (QM4 p_ szA _) ?_;(first|apply u2|apply u3|apply u4|apply us);exact QZb long nodes _;(first|apply u2|apply u3|apply u4|apply us);exact Q39 at_ 0 (w64 (1000000 - long)) _;refine ai (fun h1=>?_) (fun h2=>?_)
 ·obtain rfl:=foll hR (ct h1 rfl);exact Q00 lx sr
 ·refine us (Qj9 p_ at_ (w64 (at_+long)) szA _) ?_;obtain rfl:=foll hR (cf h2 rfl);exact Q00 lx sr
def Qk5 (s:ByteArray):Nat->List Int->Int->(List Int) × Int
 | 0,_,_=>([],0)
 | m+1,out,i=>bif (decide (i<(w64 ((ByteArray.size s:Int) - 1)))) then bif ((((s.data.toList.getD (Int.toNat i) 0).toNat:Int)==92)&&(decide ((w64 (i+1))<(w64 ((ByteArray.size s:Int) - 1))))) then Qk5 s m (out++([((s.data.toList.getD (Int.toNat (w64 (i+1))) 0).toNat:Int)]:List Int)) (w64 ((w64 (i+1))+1)) else Qk5 s m (out++([((s.data.toList.getD (Int.toNat i) 0).toNat:Int)]:List Int)) (w64 (i+1)) else (out,i)
def Qad (s:ByteArray) (out:List Int) (i:Int):ByteArray × Int:=bif (((QDe (QQ2 out)).2 != 0)||(!(ByteArray.toList (QDe (QQ2 out)).1==ByteArray.toList s))) then (⟨#[]⟩,50) else ((QQ2 out),0)
def Qsb (s:ByteArray):ByteArray × Int:=bif ((QN4 s).2 != 0) then (⟨#[]⟩,(QN4 s).2) else Qad s ((Qk5 s ((Int.toNat ((w64 ((ByteArray.size s:Int) - 1)) - 1))+1) [] 1).1) ((Qk5 s ((Int.toNat ((w64 ((ByteArray.size s:Int) - 1)) - 1))+1) [] 1).2)
def QI1 (s:Shape) (choice:Int):Int:=bif ((decide (choice<0))||(decide (choice >= ((Q50 s).length:Int)))) then 0 else ((Q50 s).getD (Int.toNat choice) Alt.zero).wall
def QV5 (s:Shape) (choice:Int) (n:Int):List Alt->Nat->Bool
 | [],_=>false
 | x_ :: r,i=>bif ((x_.nodes==n)&&(((i:Int)==choice)||(s.kind==3))) then true else QV5 s choice n r (i+1)
def Qn9 (s:Shape) (choice:Int) (n:Int):Bool:=bif ((decide (choice<0))||(decide (choice >= ((Q50 s).length:Int)))) then false else QV5 s choice n (Q50 s) 0
def Qa0 (j:Job):Int × Int × Int × Bool:=bif ((j.state != 1)||(j.promise==(-1))) then (0,0,0,false) else (j.promise,(w64 (((Q50 j.shape).getD (Int.toNat j.choice) Alt.zero).wall+12)),((Q50 j.shape).getD (Int.toNat j.choice) Alt.zero).nodes,true)
def Qd6 (p_:List Step) (from_:Int) (to_:Int) (n:Int):(List Step):=bif ((QP2 p_ from_ to_ (w64 (0 - n))).2 != 0) then p_ else (QP2 p_ from_ to_ (w64 (0 - n))).1
end Go.Proofs.YtcbolcknapeneaaGreatDoor
namespace Go.Proofs.YtcbolcknapeneaaGreatDoor
set_option linter.unusedSimpArgs false
set_option linter.unusedVariables false
open Go.Fw
set_option maxRecDepth 20000
set_option maxHeartbeats 4000000
attribute [local irreducible] ACalls AMoves
def Q15 (p_:List Step) (long:Int) (nodes:Int) (from_1:Int):List Step->Nat->Int × Bool
 | [],_=>(0,false)
 | x_ :: r,i=>bif ((decide (x_.at_ > from_1))&&(Qy1 p_ x_.at_ long nodes)) then (x_.at_,true) else Q15 p_ long nodes from_1 r (i+1)
def QR3 (p_:List Step) (long:Int) (nodes:Int) (from_1:Int):Int × Bool:=bif (Qy1 p_ from_1 long nodes) then (from_1,true) else Q15 p_ long nodes from_1 p_ 0
def Qo0 (p_:List Step) (from_:Int) (long:Int) (nodes:Int):Int × Bool:=bif (decide (from_<0)) then QR3 p_ long nodes 0 else QR3 p_ long nodes from_
end Go.Proofs.YtcbolcknapeneaaGreatDoor
namespace Go.Proofs.YtcbolcknapeneaaGreatDoor
set_option linter.unusedSimpArgs false
set_option linter.unusedVariables false
open Go.Fw
set_option maxRecDepth 20000
set_option maxHeartbeats 4000000
attribute [local irreducible] ACalls AMoves
def QK1 :Nat->LexReader->Bool->LexReader × Bool
 | 0,_,_=>(LexReader.zero,false)
 | m+1,c,c2=>bif ((decide (c.at_<(c.line.length:Int)))&&(Qa1 (c.line.getD (Int.toNat c.at_) 0) c2).1) then QK1 m { c with at_:=(w64 (c.at_+1)) } (bif (decide (c.at_<(c.line.length:Int))) then (Qa1 (c.line.getD (Int.toNat c.at_) 0) c2).2 else c2) else (c,(bif (decide (c.at_<(c.line.length:Int))) then (Qa1 (c.line.getD (Int.toNat c.at_) 0) c2).2 else c2))
def Q52 (r_:LexReader) (c:LexReader) (c2:Bool):Token × LexReader:=bif (c.at_==(c.line.length:Int)) then (Token.zero,(QQ0 c r_.at_ 50)) else bif ((c.line.getD (Int.toNat c.at_) 0)!=34) then (Token.zero,(QQ0 c c.at_ 40)) else bif ((QV2 (runesBytes (List.drop (Int.toNat r_.at_) (List.take (Int.toNat (w64 (c.at_+1))) c.line)))).2 != 0) then ((⟨4,(QV2 (runesBytes (List.drop (Int.toNat r_.at_) (List.take (Int.toNat (w64 (c.at_+1))) c.line)))).1,0,0⟩:Token),(QQ0 { c with at_:=(w64 (c.at_+1)) } r_.at_ ((QV2 (runesBytes (List.drop (Int.toNat r_.at_) (List.take (Int.toNat (w64 (c.at_+1))) c.line)))).2))) else ((⟨4,(QV2 (runesBytes (List.drop (Int.toNat r_.at_) (List.take (Int.toNat (w64 (c.at_+1))) c.line)))).1,0,0⟩:Token),{ c with at_:=(w64 (c.at_+1)) })
def QB1 (r_:LexReader):Token × LexReader:=Q52 r_ ((QK1 ((Int.toNat ((r_.line.length:Int) - r_.at_))+1) r_ true).1) ((QK1 ((Int.toNat ((r_.line.length:Int) - r_.at_))+1) r_ true).2)
theorem Q7c (r_:LexReader) (hs0:r_.sz) (hp0:0<=r_.at_∧r_.at_<(r_.line.length:Int)∧r_.line.length<=400):AMoves Tryz.prog 379 [AVal.ptr 0 0 4 0 0] [(0,AObj.row 364 4 [[runes r_.line,I r_.at_,I r_.bad,I r_.error]])] 1 (Token.a ((QB1 r_).1)) [(0,AObj.row 364 4 [[runes ((QB1 r_).2.line),I ((QB1 r_).2.at_),I ((QB1 r_).2.bad),I ((QB1 r_).2.error)]])]:=by
 generalize hR:QB1 r_=R;refine mo (kp 7 [23,38,69]) Tryz.func379 ?_;have hk0:=hs0;obtain z9:r_.line.length<=4294967296:=hs0;refine ACalls.of_cwp (fun _=>true) Tryz.func363 rfl rfl ?_;refine Q41 (fun (c:LexReader) (c2:Bool)=>∃ m,(Int.toNat ((c.line.length:Int) - c.at_))<m∧Q52 r_ (QK1 m c c2).1 (QK1 m c c2).2=R∧0<=c.at_∧c.at_<=(c.line.length:Int)∧c.line.length<=400∧r_.at_<=c.at_∧0<=r_.at_) (fun c c2=>(Int.toNat ((c.line.length:Int) - c.at_))) (fun c c2=>[(0,AVal.ptr 0 0 4 0 0),(1,AVal.fn (.func 394) [] [AVal.ptr 2 0 1 0 0]),(4,Sg ⟨#[]⟩),(5,I r_.at_)]) (fun c c2=>[(0,AObj.row 364 4 [[runes c.line,I c.at_,I c.bad,I c.error]]),(0,AObj.row 309 4 [[I 0,Sg ⟨#[]⟩,I 0,I 0]]),(0,AObj.row 4 1 [[Bo c2]])]) r_ true (wk [0,1,2] (tO rfl (ts LexReader.lo) (tO rfl (ts Token.lo) (tO rfl (ts (l1 LowL.nil)) .nil))) (sv (Q10 0 rfl rfl) (sv (QI0 .nil (cv (Q10 2 rfl rfl) .nil)) (s1 (s1 .nil))))) ⟨_,Nat.lt_succ_self _,foll hR rfl,by exact exA⟩ ?_;clear hR;rintro c c2 ⟨m,hm,hR,hx⟩;(try dsimp only at hR hm hx);obtain ⟨m,rfl⟩:=sucA m;refine dchk (by kernel_rfl) ?_;refine ai gkA ?_;refine ⟨_,[(0,AObj.row 364 4 [[runes c.line,I c.at_,I c.bad,I c.error]]),(0,AObj.row 309 4 [[I 0,Sg ⟨#[]⟩,I 0,I 0]]),(0,AObj.row 4 1 [[Bo (bif (decide (c.at_<(c.line.length:Int))) then (Qa1 (c.line.getD (Int.toNat c.at_) 0) c2).2 else c2)]])],fun hg=>(by rw [show (decide (c.at_<(c.line.length:Int)))=true from hg];exact mv [2] (QS9 (c.line.getD (Int.toNat c.at_) 0) c2) (dO (ds (l1 LowL.nil)) .nil) (d1 (dp .nil)) (rO (re (l1 LowL.nil)) .nil) rx),fun hg=>(by rw [show (decide (c.at_<(c.line.length:Int)))=false from hg];rfl),?_⟩;(repeat ((first|refine ai rfl ?_|refine ai (fun _=>rfl) ?_)));refine ai (fun h1=>?_) (fun h2=>?_)
 ·have hq1:=of_decide_eq_true ((Bool.and_eq_true _ _).mp h1).1;have hwr:w64 (c.at_+1)=c.at_+1:=wr (by omega);exact Qz0 { c with at_:=(w64 (c.at_+1)) } (bif (decide (c.at_<(c.line.length:Int))) then (Qa1 (c.line.getD (Int.toNat c.at_) 0) c2).2 else c2) (wk [0,1,2] (tO rfl (ts LexReader.lo) (tO rfl (ts Token.lo) (tO rfl (ts (l1 LowL.nil)) .nil))) (sv (Q10 0 rfl rfl) (sv (QI0 .nil (cv (Q10 2 rfl rfl) .nil)) (s1 (s1 .nil))))) omA ⟨m,by exact omA,foll hR (congrArg (fun p:LexReader × Bool=>Q52 r_ p.1 p.2) (ct h1 rfl)),by exact exA⟩
 ·replace hR:Q52 r_ c (bif (decide (c.at_<(c.line.length:Int))) then (Qa1 (c.line.getD (Int.toNat c.at_) 0) c2).2 else c2)=R:=fo2 (fun p:LexReader × Bool=>Q52 r_ p.1 p.2) (c,(bif (decide (c.at_<(c.line.length:Int))) then (Qa1 (c.line.getD (Int.toNat c.at_) 0) c2).2 else c2)) hR (cf h2 rfl);refine dchk (by kernel_rfl) ?_;refine ai gkA ?_;(first|refine ⟨(List.drop (Int.toNat r_.at_) (List.take (Int.toNat c.at_) c.line)),by exact cvA,?_⟩|refine ⟨_,fun _=>⟨(List.drop (Int.toNat r_.at_) (List.take (Int.toNat c.at_) c.line)),by exact cvA,rfl,rfl⟩,?_⟩|refine ⟨_,rfl,⟨(List.drop (Int.toNat r_.at_) (List.take (Int.toNat c.at_) c.line)),by exact cvA,Sub.refl _,rfl⟩,?_⟩);(repeat ((first|refine ai rfl ?_|refine ai (fun _=>rfl) ?_)));refine ⟨_,_,Told.refl,?_⟩;refine dchk (by kernel_rfl) ?_;(repeat ((first|refine ai rfl ?_|refine ai (fun _=>rfl) ?_)));refine ai (fun h3=>?_) (fun h4=>?_)
  ·refine us (mv [0] (Q53 c r_.at_ 50) (dO (ds LexReader.lo) .nil) (dp (d1 (d1 .nil))) (rO (re LexReader.lo) .nil) rx) ?_;obtain rfl:=foll hR (ct h3 rfl);exact rq (tt [0] (tO rfl (ts LexReader.lo) .nil) (Qr0 (Low.agg' (Token.lo))))
  ·refine dchk (by kernel_rfl) ?_;refine ai gkA ?_;(repeat ((first|refine ai rfl ?_|refine ai (fun _=>rfl) ?_)));refine ai (fun h5=>?_) (fun h6=>?_)
   ·refine us (mv [0] (Q53 c c.at_ 40) (dO (ds LexReader.lo) .nil) (dp (d1 (d1 .nil))) (rO (re LexReader.lo) .nil) rx) ?_;obtain rfl:=foll hR (cf h4 (ct h5 rfl));exact rq (tt [0] (tO rfl (ts LexReader.lo) .nil) (Qr0 (Low.agg' (Token.lo))))
   ·refine dchk (by kernel_rfl) ?_;refine ai gkA ?_;(first|refine ⟨(List.drop (Int.toNat r_.at_) (List.take (Int.toNat (w64 (c.at_+1))) c.line)),by exact cvA,?_⟩|refine ⟨_,fun _=>⟨(List.drop (Int.toNat r_.at_) (List.take (Int.toNat (w64 (c.at_+1))) c.line)),by exact cvA,rfl,rfl⟩,?_⟩|refine ⟨_,rfl,⟨(List.drop (Int.toNat r_.at_) (List.take (Int.toNat (w64 (c.at_+1))) c.line)),by exact cvA,Sub.refl _,rfl⟩,?_⟩);(first|apply u2|apply u3|apply u4|apply us);exact Qt9 (runesBytes (List.drop (Int.toNat r_.at_) (List.take (Int.toNat (w64 (c.at_+1))) c.line))) szA (by refine Nat.le_trans (QZ5 _) ?_;simp only [List.length_drop,List.length_take];omega) _;(repeat ((first|refine ai rfl ?_|refine ai (fun _=>rfl) ?_|refine ai (fun _=>Qt9 (runesBytes (List.drop (Int.toNat r_.at_) (List.take (Int.toNat (w64 (c.at_+1))) c.line))) szA (by refine Nat.le_trans (QZ5 _) ?_;simp only [List.length_drop,List.length_take];omega) _) ?_)));refine ai (fun h7=>?_) (fun h8=>?_)
    ·refine us (mv [0] (Q53 { c with at_:=(w64 (c.at_+1)) } r_.at_ ((QV2 (runesBytes (List.drop (Int.toNat r_.at_) (List.take (Int.toNat (w64 (c.at_+1))) c.line)))).2)) (dO (ds LexReader.lo) .nil) (dp (d1 (d1 .nil))) (rO (re LexReader.lo) .nil) rx) ?_;obtain rfl:=foll hR (cf h4 (cf h6 (ct h7 rfl)));exact rq (tt [0] (tO rfl (ts LexReader.lo) .nil) (Qr0 (Low.agg' (Token.lo))))
    ·obtain rfl:=foll hR (cf h4 (cf h6 (cf h8 rfl)));exact rq (tt [0] (tO rfl (ts LexReader.lo) .nil) (Qr0 (Low.agg' (Token.lo))))
def QS4 (min max wall:Int):List Alt:=(List.range (max - min+1).toNat).map fun (i:Nat)=>(⟨max - (i:Int),wall⟩:Alt)
def Qf0 (s:Shape):List Alt:=bif QC1 s != 0 then [] else bif s.kind==3 then s.alts++QS4 s.min s.max s.wall else s.alts
theorem Qp7 {s:Shape} (h:(QC1 s != 0)=false) (hk:(s.kind==3)=true):1<=s.min∧s.min<=s.max∧s.max<=48:=by
 have hk':s.kind=3:=by simpa using hk
 simp only [QC1,hk'] at h
 revert h
 cases h2:(((((s.alts.length:Int)==0)&&(decide (s.min<=s.max)))&&(Q01 (⟨s.min,s.wall⟩:Alt)))&&(decide (s.max<=48))) with
 | false=>simp [h2,QE1]
 | true =>
  intro _
  simp [Q01] at h2
  omega
theorem QTe (lo hi wall:Int):((QV4 hi (hi - lo+1).toNat).map fun (n:Int)=>(⟨n,wall⟩:Alt))=QS4 lo hi wall:=by
 simp [QV4,QS4,List.map_map,Function.comp_def]
theorem QE2 (s:Shape) (hs0:s.sz):GV 48 [Shape.a s] (altL (Qf0 s)):=by
 generalize hR:Qf0 s=R;refine ga (.cons (Shape.low _ _) .nil) lw (kp 4 [7,13,18]) Tryz.func48 ?_;have hk0:=hs0;obtain z7:s.alts.length<=4294967296:=hs0;refine us (QBb s szA _) ?_;refine ai (fun h1=>?_) (fun h2=>?_)
 ·obtain rfl:=foll hR (ct h1 rfl);exact Q00 lw QJ0
 ·refine us (mv [] (QDb s.alts szA) .nil (dv (Q87 (Alt.lows _ _)) .nil) (rO rr .nil) (rw_ 1 0 rfl)) ?_;refine ai (fun h3=>?_) (fun h4=>?_)
  ·refine us (r:=.fn (.func 219) [] [.ptr 4 0 1 0 0,.ptr 3 0 1 0 0]) (o:=[(0,.row 31 5 [[I s.kind,altL s.alts,I s.min,I s.max,I s.wall]]),(0,.row 179 2 (s.alts.map Alt.cells)),(0,.row 29 1 [[.own 1 0 2 0 s.alts.length]]),(0,.row 3 1 [[I s.min]]),(0,.row 3 1 [[I s.max]])]) (ACalls.of_cwp (fun _=>true) Tryz.func140 rfl rfl ?_) ?_
   ·exact ⟨_,_,Q0f,rfl,rfl⟩
   obtain ⟨q1,q2,q3⟩:=Qp7 h2 h3;refine range_next (α:=Int) (fun n=>.int .i64 n) (QV4 s.max (s.max - s.min+1).toNat) (fun xs=>[(0,.row 31 5 [[I s.kind,altL s.alts,I s.min,I s.max,I s.wall]]),(0,.row 179 2 ((s.alts++xs.map fun (n:Int)=>(⟨n,s.wall⟩:Alt)).map Alt.cells)),(0,.row 29 1 [[.own 1 0 2 0 (s.alts++xs.map fun (n:Int)=>(⟨n,s.wall⟩:Alt)).length]]),(0,.row 3 1 [[I s.min]]),(0,.row 3 1 [[I s.max]])])
    (by simp) (by decide) (by decide) rfl rfl rfl rfl ?_ ?_ (by decide) ?_ ?_
   ·intro xs q hq _;simp only [List.mem_cons,List.not_mem_nil,or_false] at hq;rcases hq with rfl|rfl|rfl|rfl|rfl <;> exact ⟨_,_,_,rfl⟩
   ·intro K a w hs;have hv:=QLe (hs.slot 18);obtain ⟨c1,c2⟩:=box_cell (o:=4) hs.mem rfl;obtain ⟨c3,c4⟩:=box_cell (o:=3) hs.mem rfl;refine ⟨219,#[.pointer (some ⟨K.ρ 4 0,0,none⟩),.pointer (some ⟨K.ρ 3 0,0,none⟩)],⟨K.ρ 3 0,0,none⟩,.int .i64 s.min,hv,?_,c4,?_,?_⟩
    ·intro args w;simp [go_sem]
    ·intro K1 xs W hs1;have hv1:=QLe (hs1.slot 18);have e:K1.ρ 3 0=K.ρ 3 0:=by
      have:=hv1.symm.trans hv;exact (by simpa using this:K1.ρ 4 0=K.ρ 4 0∧K1.ρ 3 0=K.ρ 3 0).2
     rw [← e];exact (box_cell (o:=3) hs1.mem rfl).1
    ·rw [Q97];exact sizes_stops 2 (by decide) _ _ s.min s.max w q1 q2 q3 c2 c4 c1 c3
   ·intro xs x hlen;rw [Q97] at hlen;refine Or.inl ?_;refine ⟨Q75 16 rfl lnA (by simp;omega),?_⟩;exact wk [0,1,2,3,4] (tO rfl (ts Shape.lo) (tO rfl (QLb (by simp only [List.map_append,List.append_assoc];rfl) (Qg7 fun _=>Alt.lowc _ _)) (tO rfl (Qb0 (.cons _ _ _ _ (to 1 (by simp [List.length_append];omega)) .nil)) (tO rfl (ts (l1 .nil)) (tO rfl (ts (l1 .nil)) .nil)))))
     (sv (QI0 .nil (.cons _ _ _ _ (Q10 4 rfl rfl) (.cons _ _ _ _ (Q10 3 rfl rfl) .nil))) (s1 (sv (Q10 2 rfl rfl) (s1 (s1 (sv (Q10 0 rfl rfl) (sl (Shape.low _ _) .nil)))))))
   ·have e:Qf0 s=s.alts++(QV4 s.max (s.max - s.min+1).toNat).map fun (n:Int)=>(⟨n,s.wall⟩:Alt):=by
     rw [QTe];exact cf h2 (ct h3 rfl)
    obtain rfl:=foll hR e;exact Q00 lw (Q82 Alt.zero _ rfl rfl rfl)
  ·obtain rfl:=foll hR (cf h2 (cf h4 rfl));exact Q00 lw (Q82 Alt.zero _ rfl eqA lnA)
theorem Qf8 (s:Shape) (h:s.sz):(Qf0 s).length<=4294967296:=by
 unfold Qf0
 cases h1:(QC1 s != 0) with
 | true=>simp
 | false =>
  cases hk:(s.kind==3) with
  | false=>exact h
  | true =>
   obtain ⟨a,b,c⟩:=Qp7 h1 hk
   have hz:s.alts.length=0:=by
    have hk':s.kind=3:=by simpa using hk
    simp only [QC1,hk'] at h1
    revert h1
    cases h2:(((((s.alts.length:Int)==0)&&(decide (s.min<=s.max)))&&(Q01 (⟨s.min,s.wall⟩:Alt)))&&(decide (s.max<=48))) with
    | false=>simp [h2,QE1]
    | true =>
     intro _
     simp at h2
     simp [h2.1.1.1]
   simp only [cond_false,cond_true,List.length_append,hz,QS4,List.length_map,List.length_range]
   omega
def Qk4 (is:Node->Bool):List Node->List Int->Nat->(List Int)
 | [],out,_=>out
 | x_ :: r,out,i=>bif (is x_) then Qk4 is r (out++([(i:Int)]:List Int)) (i+1) else Qk4 is r out (i+1)
def Q13 (out:List Int):Int:=(QC5 out).1
def Q93 (l:List Node) (is:Node->Bool):Int:=bif ((Qq2 l)!=0) then 0 else Q13 (Qk4 is l [] 0)
def QN5 (p_:List Step) (at_:Int) (long:Int) (nodes:Int):(List Step) × Int:=bif (!(QQ6 p_ at_ long nodes)) then ([],130) else ((QJ1 p_ at_ (w64 (at_+long)) (w64 (0 - nodes))).1,(QJ1 p_ at_ (w64 (at_+long)) (w64 (0 - nodes))).2)
theorem fit_Take_c (p_:List Step) (at_:Int) (long:Int) (nodes:Int) (hs0:p_.length<=4294967296):GV 64 [stepL p_,I at_,I long,I nodes] (AVal.tup [stepL ((QN5 p_ at_ long nodes).1),I ((QN5 p_ at_ long nodes).2)]):=by
 generalize hR:QN5 p_ at_ long nodes=R;refine ga (.cons lw (l1 (l1 (l1 .nil)))) (Low.tup' (.cons lw (l1 .nil))) (kp 10 [15]) Tryz.func64 ?_;have hk0:=hs0;obtain z3:p_.length<=4294967296:=hs0;refine us (fit_Fits_c p_ at_ long nodes szA _) ?_;refine ai (fun h1=>?_) (fun h2=>?_)
 ·obtain rfl:=foll hR (ct h1 rfl);exact Q00 (Low.tup' (.cons lw (l1 .nil))) (Seen.tup (ev (QJ0) (e1 .nil)))
 ·refine us (Qob p_ at_ (w64 (at_+long)) (w64 (0 - nodes)) szA _) ?_;obtain rfl:=foll hR (cf h2 rfl);exact Q00 (Low.tup' (.cons lw (l1 .nil))) (Seen.tup (e1 (e1 .nil)))
theorem fit_Take_len {p:List Step} (a l n:Int) (h:p.length<=4294967296):(QN5 p a l n).1.length<=4294967296:=by
 unfold QN5
 cases (!(QQ6 p a l n)) with
 | true=>simp
 | false=>exact Qi9 _ _ _ _ h
def Qm3 (of_:Usage->Int):List Usage->Int->Nat->Int
 | [],n,_=>n
 | x_ :: r,n,i=>Qm3 of_ r (QAb ([n,(of_ x_)]:List Int)) (i+1)
def QH2 (n:Int):Int:=n
def Qa3 (l:List Usage) (of_:Usage->Int):Int:=bif ((Qe2 l)!=0) then 0 else QH2 (Qm3 of_ l 0 0)
def Q05 (l:List Int) (at_:Int):Nat->Int->Token × Int × Int × Int
 | 0,_=>(Token.zero,0,0,0)
 | m+1,i=>bif ((decide (i<(l.length:Int)))&&((l.getD (Int.toNat i) 0)!=34)) then bif ((Qk0 (l.getD (Int.toNat i) 0))==0) then (Token.zero,0,i,40) else bif ((l.getD (Int.toNat i) 0)==92) then bif ((decide ((w64 (i+1))<(l.length:Int)))&&((Qk0 (l.getD (Int.toNat (w64 (i+1))) 0))==0)) then (Token.zero,0,(w64 (i+1)),40) else Q05 l at_ m (w64 ((w64 (i+1))+1)) else Q05 l at_ m (w64 (i+1)) else bif (decide (i >= (l.length:Int))) then (Token.zero,0,at_,50) else bif ((Qsb (runesBytes (List.drop (Int.toNat at_) (List.take (Int.toNat (w64 (i+1))) l)))).2 != 0) then (Token.zero,0,at_,50) else ((⟨4,(Qsb (runesBytes (List.drop (Int.toNat at_) (List.take (Int.toNat (w64 (i+1))) l)))).1,0,at_⟩:Token),(w64 (i+1)),0,0)
def QL9 (l:List Int) (at_:Int):Token × Int × Int × Int:=Q05 l at_ ((Int.toNat ((l.length:Int) - (w64 (at_+1))))+1) (w64 (at_+1))
def Q51 (j:Job):Bool:=bif (j.state==1) then bif (((j.start != 0)||(j.limit != 0))||(j.nodes != 0)) then false else bif (j.promise==(-1)) then (j.choice==0) else (((QN0 j.promise)&&(decide ((QI1 j.shape j.choice) > 0)))&&(!j.held)) else bif (j.state==2) then bif ((((((((QI1 j.shape j.choice)==0)||j.held)||(!(QN0 j.start)))||(!(QN0 j.promise)))||(decide (j.start > j.promise)))||(!(QN0 j.limit)))||(j.limit != (w64 (j.start+(QI1 j.shape j.choice))))) then false else ((QGe j.nodes)&&(Qn9 j.shape j.choice ((Qhc j.nodes).length:Int))) else ((((((((Ql7 j.state)&&(j.nodes==0))&&(QN0 j.start))&&(QN0 j.limit))&&(decide (j.promise >= (-1))))&&(decide (j.promise<=1000000)))&&(decide (j.choice >= 0)))&&(decide (j.choice<=48)))
def Qq3 :List Node->Int->Nat->Int × Nat
 | [],up,i=>(up,i)
 | x_ :: r,up,i=>bif ((x_.state != 4)&&(!x_.drain)) then Qq3 r (w64 (up+1)) (i+1) else Qq3 r up (i+1)
def Q54 (s:State):List Node->List Step->Nat->(List Step) × Nat
 | [],p_,i1=>(p_,i1)
 | _ :: r,p_,i1=>Q54 s r (Qd6 p_ 0 (QHe s (i1:Int)) 1) (i1+1)
def ref20_busy_k2 (p_:List Step) (i1:Nat):(List Step):=p_
def ref20_busy_k1 (s:State) (up:Int) (i:Nat):(List Step):=ref20_busy_k2 ((Q54 s s.nodes (Q98 up) 0).1) ((Q54 s s.nodes (Q98 up) 0).2)
def Q17 (s:State):(List Step):=ref20_busy_k1 s ((Qq3 s.nodes 0 0).1) ((Qq3 s.nodes 0 0).2)
def Q72 (p_:List Step) (options:List Alt) (from_:Int) (latest:Int) (grace1:Int):Nat->Int->Int->Int->Nat->Int × Int × Int × Nat
 | 0,_,_,_,_=>(0,0,0,0)
 | m+1,best,start,end_,i=>bif ((decide ((i:Int)<(options.length:Int)))&&(decide ((i:Int)<48))) then bif (((decide ((options.getD i Alt.zero).wall<1))||(decide ((options.getD i Alt.zero).wall > 1000000)))||(decide (grace1 > (w64 (1000000 - (options.getD i Alt.zero).wall))))) then Q72 p_ options from_ latest grace1 m best start end_ (i+1) else bif (((Qo0 p_ from_ (w64 ((options.getD i Alt.zero).wall+grace1)) ((options.getD i Alt.zero).nodes)).2&&(decide ((Qo0 p_ from_ (w64 ((options.getD i Alt.zero).wall+grace1)) ((options.getD i Alt.zero).nodes)).1<=latest)))&&((decide (best<0))||(decide ((w64 ((Qo0 p_ from_ (w64 ((options.getD i Alt.zero).wall+grace1)) ((options.getD i Alt.zero).nodes)).1+(options.getD i Alt.zero).wall))<end_)))) then Q72 p_ options from_ latest grace1 m (i:Int) ((Qo0 p_ from_ (w64 ((options.getD i Alt.zero).wall+grace1)) ((options.getD i Alt.zero).nodes)).1) (w64 ((Qo0 p_ from_ (w64 ((options.getD i Alt.zero).wall+grace1)) ((options.getD i Alt.zero).nodes)).1+(options.getD i Alt.zero).wall)) (i+1) else Q72 p_ options from_ latest grace1 m best start end_ (i+1) else (best,start,end_,i)
def Qvb (best:Int) (start:Int) (end_:Int) (i:Nat):Int × Int × Bool:=bif (decide (best<0)) then (0,0,false) else (best,start,true)
def QC8 (p_:List Step) (options:List Alt) (from_:Int) (latest:Int) (grace1:Int):Int × Int × Bool:=Qvb ((Q72 p_ options from_ latest grace1 ((Int.toNat ((options.length:Int) - (0:Int)))+1) (-1) 0 0 0).1) ((Q72 p_ options from_ latest grace1 ((Int.toNat ((options.length:Int) - (0:Int)))+1) (-1) 0 0 0).2.1) ((Q72 p_ options from_ latest grace1 ((Int.toNat ((options.length:Int) - (0:Int)))+1) (-1) 0 0 0).2.2.1) ((Q72 p_ options from_ latest grace1 ((Int.toNat ((options.length:Int) - (0:Int)))+1) (-1) 0 0 0).2.2.2)
def Qq1 (p_:List Step) (options:List Alt) (from_:Int) (latest:Int) (grace:Int):Int × Int × Bool:=bif (decide (grace<0)) then QC8 p_ options from_ latest 0 else QC8 p_ options from_ latest grace
end Go.Proofs.YtcbolcknapeneaaGreatDoor
namespace Go.Proofs.YtcbolcknapeneaaGreatDoor
set_option linter.unusedSimpArgs false
set_option linter.unusedVariables false
open Go.Fw
set_option maxRecDepth 20000
set_option maxHeartbeats 4000000
attribute [local irreducible] ACalls AMoves
def Q90 (r_:LexReader):Token × LexReader:=bif ((Q61 (r_.line.getD (Int.toNat r_.at_) 0))==2) then ((QL1 r_).1,(QL1 r_).2) else bif ((Q61 (r_.line.getD (Int.toNat r_.at_) 0))==3) then ((Qo1 r_).1,(Qo1 r_).2) else bif ((r_.line.getD (Int.toNat r_.at_) 0)==34) then ((QB1 r_).1,(QB1 r_).2) else bif ((decide ((Q25 ⟨#[61,58,44,45]⟩ (wu8 (r_.line.getD (Int.toNat r_.at_) 0))) >= 0))&&(decide ((r_.line.getD (Int.toNat r_.at_) 0)<128))) then ((⟨5,(runeStr (r_.line.getD (Int.toNat r_.at_) 0)),0,0⟩:Token),{ r_ with at_:=(w64 (r_.at_+1)) }) else bif ((Q61 (r_.line.getD (Int.toNat r_.at_) 0))==0) then (Token.zero,(QQ0 r_ r_.at_ 40)) else (Token.zero,(QQ0 r_ r_.at_ 50))
theorem Q6c (r_:LexReader) (hs0:r_.sz) (hp0:0<=r_.at_∧r_.at_<(r_.line.length:Int)∧r_.line.length<=400):AMoves Tryz.prog 364 [AVal.ptr 0 0 4 0 0] [(0,AObj.row 364 4 [[runes r_.line,I r_.at_,I r_.bad,I r_.error]])] 1 (Token.a ((Q90 r_).1)) [(0,AObj.row 364 4 [[runes ((Q90 r_).2.line),I ((Q90 r_).2.at_),I ((Q90 r_).2.bad),I ((Q90 r_).2.error)]])]:=by
 generalize hR:Q90 r_=R;refine mo (kp 4 [20,26,32,37,56]) Tryz.func364 ?_;have hk0:=hs0;obtain z11:r_.line.length<=4294967296:=hs0;refine dchk (by kernel_rfl) ?_;refine ai gkA ?_;(repeat ((first|refine ai rfl ?_|refine ai (fun _=>rfl) ?_)));refine us (Q84 (r_.line.getD (Int.toNat r_.at_) 0) _) ?_;refine ai (fun h1=>?_) (fun h2=>?_)
 ·refine us (mv [0] (Q8c r_ szA ckA) (dO (ds LexReader.lo) .nil) (dp .nil) (rO (re LexReader.lo) .nil) (Ren.low _ (Low.agg' (Token.lo)))) ?_;obtain rfl:=foll hR (ct h1 rfl);exact rq (tt [0] (tO rfl (ts LexReader.lo) .nil) (Qr0 (Low.agg' (Token.lo))))
 ·refine us (Q84 (r_.line.getD (Int.toNat r_.at_) 0) _) ?_;refine ai (fun h3=>?_) (fun h4=>?_)
  ·refine us (mv [0] (Qib r_ szA ckA) (dO (ds LexReader.lo) .nil) (dp .nil) (rO (re LexReader.lo) .nil) (Ren.low _ (Low.agg' (Token.lo)))) ?_;obtain rfl:=foll hR (cf h2 (ct h3 rfl));exact rq (tt [0] (tO rfl (ts LexReader.lo) .nil) (Qr0 (Low.agg' (Token.lo))))
  ·refine ai (fun h5=>?_) (fun h6=>?_)
   ·refine us (mv [0] (Q7c r_ szA ckA) (dO (ds LexReader.lo) .nil) (dp .nil) (rO (re LexReader.lo) .nil) (Ren.low _ (Low.agg' (Token.lo)))) ?_;obtain rfl:=foll hR (cf h2 (cf h4 (ct h5 rfl)));exact rq (tt [0] (tO rfl (ts LexReader.lo) .nil) (Qr0 (Low.agg' (Token.lo))))
   ·refine us (QCa ⟨#[61,58,44,45]⟩ (wu8 (r_.line.getD (Int.toNat r_.at_) 0)) _) ?_;refine ai (fun h7=>?_) (fun h8=>?_)
    ·obtain rfl:=foll hR (cf h2 (cf h4 (cf h6 (ct h7 rfl))));exact rq (tt [0] (tO rfl (ts LexReader.lo) .nil) (Qr0 (Low.agg' (Token.lo))))
    ·refine us (Q84 (r_.line.getD (Int.toNat r_.at_) 0) _) ?_;refine ai (fun h9=>?_) (fun h10=>?_)
     ·refine us (mv [0] (Q53 r_ r_.at_ 40) (dO (ds LexReader.lo) .nil) (dp (d1 (d1 .nil))) (rO (re LexReader.lo) .nil) rx) ?_;obtain rfl:=foll hR (cf h2 (cf h4 (cf h6 (cf h8 (ct h9 rfl)))));exact rq (tt [0] (tO rfl (ts LexReader.lo) .nil) (Qr0 (Low.agg' (Token.lo))))
     ·refine us (mv [0] (Q53 r_ r_.at_ 50) (dO (ds LexReader.lo) .nil) (dp (d1 (d1 .nil))) (rO (re LexReader.lo) .nil) rx) ?_;obtain rfl:=foll hR (cf h2 (cf h4 (cf h6 (cf h8 (cf h10 rfl)))));exact rq (tt [0] (tO rfl (ts LexReader.lo) .nil) (Qr0 (Low.agg' (Token.lo))))
def Adv (a b:LexReader):Prop:=b.line=a.line∧a.at_<=b.at_∧b.at_<=(a.line.length:Int)∧b.error=a.error∧b.bad=a.bad
theorem Qs8 (is:Int->Bool):∀ (m:Nat) (c:LexReader),0<=c.at_->c.at_<=(c.line.length:Int)->c.line.length<=400->(Int.toNat ((c.line.length:Int) - c.at_))<m->Adv c (Qw0 is m c)
 | 0,c,_,_,_,h=>absurd h (by omega)
 | m+1,c,h0,h1,h2,h=>by
  rw [Qw0]
  cases hc:((decide (c.at_<(c.line.length:Int)))&&(is (c.line.getD (Int.toNat c.at_) 0))) with
  | false=>exact ⟨rfl,Int.le_refl _,h1,rfl,rfl⟩
  | true =>
   have hlt:=of_decide_eq_true ((Bool.and_eq_true _ _).mp hc).1
   have hw:w64 (c.at_+1)=c.at_+1:=wr (by omega)
   rw [hw]
   obtain ⟨a,b,d,e,f⟩:=Qs8 is m { c with at_:=c.at_+1 } (by dsimp only;omega) (by dsimp only;omega) h2 (by dsimp only;omega)
   dsimp only at a b d e f
   exact ⟨a,by simp only [cond_true];omega,d,e,f⟩
theorem Q65 (r:LexReader) (is:Int->Bool) (h0:0<=r.at_) (h1:r.at_<=(r.line.length:Int)) (h2:r.line.length<=400):Adv r (Q30 r is).2 :=
 Qs8 is _ r h0 h1 h2 (Nat.lt_succ_self _)
theorem Qf7 (r:LexReader) (is:Int->Bool) (h0:0<=r.at_) (h1:r.at_<(r.line.length:Int)) (h2:r.line.length<=400) (h:is (r.line.getD (Int.toNat r.at_) 0)=true):r.at_<(Q30 r is).2.at_:=by
 have hw:w64 (r.at_+1)=r.at_+1:=wr (by omega)
 have e:(Q30 r is).2=Qw0 is (Int.toNat ((r.line.length:Int) - r.at_)) { r with at_:=r.at_+1 }:=by
  show Qw0 is ((Int.toNat ((r.line.length:Int) - r.at_))+1) r=_
  rw [Qw0,show ((decide (r.at_<(r.line.length:Int)))&&(is (r.line.getD (Int.toNat r.at_) 0)))=true by rw [h,Bool.and_true];exact decide_eq_true h1,hw]
  rfl
 rw [e]
 have:=(Qs8 is (Int.toNat ((r.line.length:Int) - r.at_)) { r with at_:=r.at_+1 } (by dsimp only;omega) (by dsimp only;omega) h2 (by dsimp only;omega)).2.1
 dsimp only at this
 omega
theorem Qc9 (r:LexReader) (p e:Int) (he:e ≠ 0):(QQ0 r p e).line=r.line∧(QQ0 r p e).at_=r.at_∧(QQ0 r p e).error ≠ 0:=by
 unfold QQ0
 cases h:(r.error==0) with
 | true=>exact ⟨rfl,rfl,he⟩
 | false=>exact ⟨rfl,rfl,by simpa using h⟩
def Nxt (a b:LexReader):Prop:=b.line=a.line∧a.at_<=b.at_∧b.at_<=(a.line.length:Int)∧(b.error ≠ 0∨a.at_<b.at_)
theorem lex_word_nxt (r:LexReader) (h0:0<=r.at_) (h1:r.at_<(r.line.length:Int)) (h2:r.line.length<=400) (hc:((Q61 (r.line.getD (Int.toNat r.at_) 0))==2)=true):Nxt r (QL1 r).2:=by
 obtain ⟨a,b,c,_,_⟩:=Q65 r (fun (y:Int)=>Qc0 y ([2,3]:List Int) 0) h0 (by omega) h2
 exact ⟨a,b,c,Or.inr (Qf7 r _ h0 h1 h2 (by simp only [Qc0,hc];rfl))⟩
theorem class_digit (x:Int) (h:(Q61 x==3)=true):48<=x∧x<=57:=by
 unfold Q61 at h
 revert h
 cases ((x==9)||(x==32)) with
 | true=>simp
 | false =>
  simp only [cond_false]
  cases (((((decide (x<32))||((decide (x >= 127))&&(decide (x<=160))))||((decide (x >= 55296))&&(decide (x<=57343))))||(x==65533))||(decide (x > 1114111))) with
  | true=>simp
  | false =>
   simp only [cond_false]
   cases hd:((decide (x >= 48))&&(decide (x<=57))) with
   | true=>intro _;simp at hd;omega
   | false =>
    simp only [cond_false]
    cases ((((decide (x >= 97))&&(decide (x<=122)))||((decide (x >= 65))&&(decide (x<=90))))||(decide (x > 160))) <;> simp
theorem lex_count_nxt (r:LexReader) (h0:0<=r.at_) (h1:r.at_<(r.line.length:Int)) (h2:r.line.length<=400) (hc:((Q61 (r.line.getD (Int.toNat r.at_) 0))==3)=true):Nxt r (Qo1 r).2:=by
 obtain ⟨a,b,c,_,_⟩:=Q65 r (fun (y:Int)=>(((decide (y >= 48))&&(decide (y<=57)))||((decide (y >= 97))&&(decide (y<=122))))) h0 (by omega) h2
 have hd:=class_digit _ hc
 have l:=Qf7 r (fun (y:Int)=>(((decide (y >= 48))&&(decide (y<=57)))||((decide (y >= 97))&&(decide (y<=122))))) h0 h1 h2 (by simp only [decide_eq_true hd.1,decide_eq_true hd.2];rfl)
 unfold Qo1
 cases (!(QX6 ((Q30 r (fun (y:Int)=>(((decide (y >= 48))&&(decide (y<=57)))||((decide (y >= 97))&&(decide (y<=122)))))).1))) with
 | true=>exact ⟨a,b,c,Or.inr l⟩
 | false =>
  simp only [cond_false]
  cases (!(Qa6 ((Q30 r (fun (y:Int)=>(((decide (y >= 48))&&(decide (y<=57)))||((decide (y >= 97))&&(decide (y<=122)))))).1)).2) with
  | false=>exact ⟨a,b,c,Or.inr l⟩
  | true =>
   obtain ⟨f1,f2,f3⟩:=Qc9 (Q30 r (fun (y:Int)=>(((decide (y >= 48))&&(decide (y<=57)))||((decide (y >= 97))&&(decide (y<=122)))))).2 r.at_ 50 (by decide)
   exact ⟨f1.trans a,by simp only [cond_true];rw [f2];exact b,by simp only [cond_true];rw [f2];exact c,Or.inl f3⟩
theorem QJc:∀ (m:Nat) (c:LexReader) (b:Bool),0<=c.at_->c.at_<=(c.line.length:Int)->c.line.length<=400->(Int.toNat ((c.line.length:Int) - c.at_))<m->Adv c (QK1 m c b).1
 | 0,c,_,_,_,_,h=>absurd h (by omega)
 | m+1,c,b,h0,h1,h2,h=>by
  rw [QK1]
  cases hc:((decide (c.at_<(c.line.length:Int)))&&(Qa1 (c.line.getD (Int.toNat c.at_) 0) b).1) with
  | false=>exact ⟨rfl,Int.le_refl _,h1,rfl,rfl⟩
  | true =>
   have hlt:=of_decide_eq_true ((Bool.and_eq_true _ _).mp hc).1
   have hw:w64 (c.at_+1)=c.at_+1:=wr (by omega)
   rw [hw]
   obtain ⟨a,b,d,e,f⟩:=QJc m { c with at_:=c.at_+1 } _ (by dsimp only;omega) (by dsimp only;omega) h2 (by dsimp only;omega)
   dsimp only at a b d e f
   exact ⟨a,by simp only [cond_true];omega,d,e,f⟩
theorem lex_text_nxt (r:LexReader) (h0:0<=r.at_) (h1:r.at_<(r.line.length:Int)) (h2:r.line.length<=400):Nxt r (QB1 r).2:=by
 obtain ⟨a,b,c,_,_⟩:=QJc _ r true h0 (by omega) h2 (Nat.lt_succ_self _)
 unfold QB1
 generalize (QK1 ((Int.toNat ((r.line.length:Int) - r.at_))+1) r true).1=q at a b c
 unfold Q52
 have ff:∀ (x:LexReader) (p e:Int),e ≠ 0->x.line=r.line->r.at_<=x.at_->x.at_<=(r.line.length:Int)->Nxt r (QQ0 x p e):=by
  intro x p e he hx hp hq
  obtain ⟨f1,f2,f3⟩:=Qc9 x p e he
  exact ⟨f1.trans hx,by rw [f2];exact hp,by rw [f2];exact hq,Or.inl f3⟩
 cases h3:(q.at_==(q.line.length:Int)) with
 | true=>exact ff q _ _ (by decide) a b c
 | false =>
  simp only [cond_false]
  have h3':q.at_ ≠ (r.line.length:Int):=by rw [a] at h3;simpa using h3
  have hw:w64 (q.at_+1)=q.at_+1:=wr (by omega)
  cases ((q.line.getD (Int.toNat q.at_) 0)!=34) with
  | true=>exact ff q _ _ (by decide) a b c
  | false =>
   simp only [cond_false]
   rw [hw]
   cases h4:((QV2 (runesBytes (List.drop (Int.toNat r.at_) (List.take (Int.toNat (q.at_+1)) q.line)))).2 != 0) with
   | true=>exact ff { q with at_:=q.at_+1 } _ _ (by simpa using h4) a (by show r.at_<=q.at_+1;omega) (by show q.at_+1<=_;omega)
   | false=>exact ⟨a,by show r.at_<=q.at_+1;omega,by show q.at_+1<=_;omega,Or.inr (by show r.at_<q.at_+1;omega)⟩
theorem lex_next_nxt (r:LexReader) (h0:0<=r.at_) (h1:r.at_<(r.line.length:Int)) (h2:r.line.length<=400):Nxt r (Q90 r).2:=by
 have hw:w64 (r.at_+1)=r.at_+1:=wr (by omega)
 have ff:∀ (e:Int),e ≠ 0->Nxt r (QQ0 r r.at_ e):=by
  intro e he
  obtain ⟨f1,f2,f3⟩:=Qc9 r r.at_ e he
  exact ⟨f1,by rw [f2];exact Int.le_refl _,by rw [f2];omega,Or.inl f3⟩
 unfold Q90
 cases hc:((Q61 (r.line.getD (Int.toNat r.at_) 0))==2) with
 | true=>exact lex_word_nxt r h0 h1 h2 hc
 | false =>
  simp only [cond_false]
  cases hd:((Q61 (r.line.getD (Int.toNat r.at_) 0))==3) with
  | true=>exact lex_count_nxt r h0 h1 h2 hd
  | false =>
   simp only [cond_false]
   cases ((r.line.getD (Int.toNat r.at_) 0)==34) with
   | true=>exact lex_text_nxt r h0 h1 h2
   | false =>
    simp only [cond_false]
    cases ((decide ((Q25 ⟨#[61,58,44,45]⟩ (wu8 (r.line.getD (Int.toNat r.at_) 0))) >= 0))&&(decide ((r.line.getD (Int.toNat r.at_) 0)<128))) with
    | true=>rw [hw];exact ⟨rfl,by show r.at_<=r.at_+1;omega,by show r.at_+1<=_;omega,Or.inr (by show r.at_<r.at_+1;omega)⟩
    | false =>
     simp only [cond_false]
     cases ((Q61 (r.line.getD (Int.toNat r.at_) 0))==0) with
     | true=>exact ff 40 (by decide)
     | false=>exact ff 50 (by decide)
theorem lex_round (r c:LexReader) (b:Int->Bool) (h0:0<=r.at_) (h1:r.at_<=(r.line.length:Int)) (h2:r.line.length<=400) (he:(r.error==0)=true) (e:c=(Q30 r b).2) (hn:(c.at_==(c.line.length:Int))=false) :
  (0<=c.at_∧c.at_<(c.line.length:Int)∧c.line.length<=400)∧(0<=(Q90 c).2.at_∧(Q90 c).2.at_<=((Q90 c).2.line.length:Int)∧(Q90 c).2.line.length<=400) ∧
  2*Int.toNat (((Q90 c).2.line.length:Int) - (Q90 c).2.at_)+(bif (Q90 c).2.error==0 then 1 else 0)<2*Int.toNat ((r.line.length:Int) - r.at_)+(bif r.error==0 then 1 else 0) ∧
  (((Q90 c).2.error==0)=true->r.at_+1<=(Q90 c).2.at_):=by
 obtain ⟨a1,a2,a3,a4,a5⟩:=Q65 r b h0 h1 h2
 rw [← e] at a1 a2 a3 a4 a5
 have hn':c.at_ ≠ (r.line.length:Int):=by rw [a1] at hn;simpa using hn
 have hc:0<=c.at_∧c.at_<(c.line.length:Int)∧c.line.length<=400:=by rw [a1];omega
 obtain ⟨n1,n2,n3,n4⟩:=lex_next_nxt c hc.1 hc.2.1 hc.2.2
 rw [he]
 rw [a1] at n1 n3
 refine ⟨hc,by rw [n1];omega,?_⟩
 rw [n1]
 rcases n4 with n4|n4
 ·have:((Q90 c).2.error==0)=false:=by simpa using n4
  rw [this]
  simp only [cond_true,cond_false]
  exact ⟨by omega,fun h=>nomatch h⟩
 ·refine ⟨?_,fun _=>by omega⟩
  cases ((Q90 c).2.error==0) <;> simp only [cond_true,cond_false] <;> omega
def QP0 (v:Job) (choice:Int):Alt × Bool:=bif ((decide (choice<0))||(decide (choice >= ((Qf0 v.shape).length:Int)))) then (Alt.zero,false) else (((Qf0 v.shape).getD (Int.toNat choice) Alt.zero),true)
theorem Q86 (v:Job) (choice:Int) (hs0:v.sz):GV 163 [Job.a v,I choice] (AVal.tup [Alt.a ((QP0 v choice).1),Bo ((QP0 v choice).2)]):=by
 generalize hR:QP0 v choice=R;refine ga (.cons (Job.low _ _) (l1 .nil)) (Low.tup' (.cons (Alt.low _ _) (l1 .nil))) (kp 7 [18]) Tryz.func163 ?_;obtain ⟨z3,z4,z5,z6,z7⟩:=Job.zz hs0;refine us (QE2 v.shape szA _) ?_;refine ai (fun h1=>?_) (fun h2=>?_)
 ·obtain rfl:=foll hR (ct h1 rfl);exact Q00 (Low.tup' (.cons (Alt.low _ _) (l1 .nil))) (Seen.tup (e1 (e1 .nil)))
 ·refine ai gkA ?_;obtain rfl:=foll hR (cf h2 rfl);exact Q00 (Low.tup' (.cons (Alt.low _ _) (l1 .nil))) (Seen.tup (e1 (e1 .nil)))
def QG6 (s:Shape) (choice:Int) (n:Int):Bool:=bif ((decide (choice<0))||(decide (choice >= ((Qf0 s).length:Int)))) then false else bif (s.kind==3) then ((decide (n >= s.min))&&(decide (n<=s.max))) else (((Qf0 s).getD (Int.toNat choice) Alt.zero).nodes==n)
theorem Qda (s:Shape) (choice:Int) (n:Int) (hs0:s.sz):GV 177 [Shape.a s,I choice,I n] (Bo (QG6 s choice n)):=by
 generalize hR:QG6 s choice n=R;refine ga (.cons (Shape.low _ _) (l1 (l1 .nil))) lx (kp 8 [17,20]) Tryz.func177 ?_;have hk0:=hs0;obtain z5:s.alts.length<=4294967296:=hs0;refine us (QE2 s szA _) ?_;refine ai (fun h1=>?_) (fun h2=>?_)
 ·obtain rfl:=foll hR (ct h1 rfl);exact Q00 lx sr
 ·refine ai (fun h3=>?_) (fun h4=>?_)
  ·obtain rfl:=foll hR (cf h2 (ct h3 rfl));exact Q00 lx sr
  ·refine ai gkA ?_;obtain rfl:=foll hR (cf h2 (cf h4 rfl));exact Q00 lx sr
def Qv7 (l:List Node):Int:=(Q93 l (fun (y:Node)=>((y.state != 4)&&(!y.drain))))
theorem fleet_Up_c (l:List Node) (hs0:l.length<=4294967296):GV 210 [nodeL l] (U (Qv7 l)):=by
 generalize hR:Qv7 l=R;refine ga (.cons lw .nil) lx (kp 3 []) Tryz.func210 ?_;have hk0:=hs0;obtain z7:l.length<=4294967296:=hs0;have cl1:∀ (y1:Node),AMoves Tryz.prog 292 [Node.a y1] [] 0 (Bo ((fun (y:Node)=>((y.state != 4)&&(!y.drain))) y1)) []:=by
  intro y1;have hR:(fun (y:Node)=>((y.state != 4)&&(!y.drain))) y1=(fun (y:Node)=>((y.state != 4)&&(!y.drain))) y1:=rfl;refine mo (kp 3 []) Tryz.func292 ?_;refine Ql0 (fun r:Bool=>Bo r) (fun _=>[]) (leaf:=((y1.state != 4)&&(!y1.drain))) (foll hR rfl) ?_;exact tt [] .nil t1
 have hof1:AMoves Tryz.prog 268 [nodeL l,AVal.fn (.func 292) [] []] [] 0 (U (Q93 l (fun (y:Node)=>((y.state != 4)&&(!y.drain))))) []:=by
  have hR:Q93 l (fun (y:Node)=>((y.state != 4)&&(!y.drain)))=Q93 l (fun (y:Node)=>((y.state != 4)&&(!y.drain))):=rfl;refine mo (kp 10 [12,13,14,15,16,22]) Tryz.func268 ?_;refine us (QZa l szA _) ?_;refine ai (fun h1=>?_) (fun h2=>?_)
  ·refine Ql0 (fun r:Int=>U r) (fun r:Int=>[]) (leaf:=0) (foll hR (ct h1 rfl)) ?_;exact tt [] .nil t1
  ·refine Q41 (fun (out:List Int) (i:Nat)=>Q13 (Qk4 (fun (y:Node)=>((y.state != 4)&&(!y.drain))) (List.drop i l) out i)=Q93 l (fun (y:Node)=>((y.state != 4)&&(!y.drain)))∧i<=l.length∧out.length<=i) (fun out i=>l.length - i) (fun out i=>[(1,AVal.fn (.func 292) [] []),(4,U 0),(5,AVal.own 0 0 1 0 out.length),(13,nodeL l),(14,I (l.length:Int)),(15,I (i:Int))]) (fun out i=>[(0,AObj.row 3 1 (out.map (fun q_=>[I q_])))]) [] 0 ((QH3 3 1).trans (wk [0] (tO rfl (tl eqA) .nil) (sv (Qr0 (Low.fn _ _ _ LowL.nil LowL.nil)) (s1 (sv (Qv2 0 rfl) (sl lw (s1 (s1 .nil)))))))) ⟨foll hR (cf h2 rfl),by exact omA,by exact exA⟩ ?_;clear hR;rintro out i ⟨hR,hj,hx⟩;(try dsimp only at hR hj hx);refine ai (fun h3=>?_) (fun h4=>?_)
   ·have hlt:=ltA h3;rw [Qg0 Node.zero hlt] at hR;refine ai gkA ?_;refine us (mv [] (cl1 (l.getD i Node.zero)) .nil (dl (Node.low _ _) .nil) .nil rx) ?_;refine ai (fun h5=>?_) (fun h6=>?_)
    ·refine Or.inl ?_;(first|refine ⟨Q75 8 rfl lnA apA,?_⟩|refine ⟨QI2 8 rfl apA,?_⟩);exact Qz0 (out++([(i:Int)]:List Int)) (i+1) (wk [0] (tO rfl (tl eqA) .nil) (sv (Qr0 (Low.fn _ _ _ LowL.nil LowL.nil)) (s1 (sv (to 0 lnA) (sl lw (s1 (sv (Qn0 (I_eq (wr omA)) lx) .nil))))))) omA ⟨foll hR (congrArg (fun p:(List Int)=>Q13 p) (ct h5 rfl)),by exact omA,by exact exA⟩
    ·exact Qz0 out (i+1) (wk [0] (tO rfl (tl eqA) .nil) (sv (Qr0 (Low.fn _ _ _ LowL.nil LowL.nil)) (s1 (sv (to 0 lnA) (sl lw (s1 (sv (Qn0 (I_eq (wr omA)) lx) .nil))))))) omA ⟨foll hR (congrArg (fun p:(List Int)=>Q13 p) (cf h6 rfl)),by exact omA,by exact exA⟩
   ·rw [Qt0 (l:=l) (j:=i) (geA h4)] at hR;replace hR:Q13 out=Q93 l (fun (y:Node)=>((y.state != 4)&&(!y.drain))):=fo2 (fun p:(List Int)=>Q13 p) (out) hR rfl;refine us (AGives.lent (nodeset_Of_c out szA []) (ev (Q82 _ _ rfl eqA lnA) .nil) (.cons lw .nil) (Qxd rfl)) ?_;refine Ql0 (fun r:Int=>U r) (fun r:Int=>[]) (leaf:=(QC5 out).1) (foll hR rfl) ?_;exact tt [] .nil t1
 refine us (mv [] (hof1) .nil (dl lw (dv (Q87 (Low.fn _ _ _ LowL.nil LowL.nil)) .nil)) .nil rx) ?_;obtain rfl:=foll hR rfl;exact Q00 lx sr
def Qi1 (l:List Usage) (user:ByteArray):Int:=(Qa3 l (fun (y:Usage)=>(bif (!(ByteArray.toList y.user==ByteArray.toList user)) then 0 else y.share)))
theorem Q1a (l:List Usage) (user:ByteArray) (hs0:l.length<=4294967296∧(∀ y ∈ l,y.sz)) (hs1:user.size<=4294967296):GV 250 [Qo2 l,Sg user] (I (Qi1 l user)):=by
 generalize hR:Qi1 l user=R;refine ga (.cons lw (l1 .nil)) lx (kp 5 []) Tryz.func250 ?_;obtain ⟨z11,z12⟩:=id hs0;have hk1:=hs1;obtain z13:user.size<=4294967296:=hs1;have cl1:∀ (y1:Usage) (hzy1:y1.sz),AMoves Tryz.prog 307 [Usage.a y1,AVal.ptr 0 0 1 0 0] [(0,AObj.row 9 1 [[Sg user]])] 1 (I ((fun (y:Usage)=>(bif (!(ByteArray.toList y.user==ByteArray.toList user)) then 0 else y.share)) y1)) [(0,AObj.row 9 1 [[Sg user]])]:=by
  intro y1 hzy1;have hky1:=hzy1;obtain ⟨z1,z2⟩:=Usage.zz hzy1;have hR:(fun (y:Usage)=>(bif (!(ByteArray.toList y.user==ByteArray.toList user)) then 0 else y.share)) y1=(fun (y:Usage)=>(bif (!(ByteArray.toList y.user==ByteArray.toList user)) then 0 else y.share)) y1:=rfl;refine mo (kp 4 [7]) Tryz.func307 ?_;refine ai (fun h3=>?_) (fun h4=>?_)
  ·refine Ql0 (fun r:Int=>I r) (fun _=>[(0,AObj.row 9 1 [[Sg user]])]) (leaf:=0) (foll hR (ct h3 rfl)) ?_;exact tt [0] (tO rfl (ts (l1 LowL.nil)) .nil) t1
  ·refine Ql0 (fun r:Int=>I r) (fun _=>[(0,AObj.row 9 1 [[Sg user]])]) (leaf:=y1.share) (foll hR (cf h4 rfl)) ?_;exact tt [0] (tO rfl (ts (l1 LowL.nil)) .nil) t1
 have hof1:AMoves Tryz.prog 306 [Qo2 l,AVal.fn (.func 307) [] [AVal.ptr 0 0 1 0 0]] [(0,AObj.row 9 1 [[Sg user]])] 1 (I (Qa3 l (fun (y:Usage)=>(bif (!(ByteArray.toList y.user==ByteArray.toList user)) then 0 else y.share)))) [(0,AObj.row 9 1 [[Sg user]])]:=by
  have hR:Qa3 l (fun (y:Usage)=>(bif (!(ByteArray.toList y.user==ByteArray.toList user)) then 0 else y.share))=Qa3 l (fun (y:Usage)=>(bif (!(ByteArray.toList y.user==ByteArray.toList user)) then 0 else y.share)):=rfl;refine mo (kp 8 [10,11,12,13,14]) Tryz.func306 ?_;refine us (Q0a l szA _) ?_;refine ai (fun h5=>?_) (fun h6=>?_)
  ·refine Ql0 (fun r:Int=>I r) (fun r:Int=>[(0,AObj.row 9 1 [[Sg user]])]) (leaf:=0) (foll hR (ct h5 rfl)) ?_;exact tt [0] (tO rfl (ts (l1 LowL.nil)) .nil) t1
  ·refine Q41 (fun (n:Int) (i:Nat)=>QH2 (Qm3 (fun (y:Usage)=>(bif (!(ByteArray.toList y.user==ByteArray.toList user)) then 0 else y.share)) (List.drop i l) n i)=Qa3 l (fun (y:Usage)=>(bif (!(ByteArray.toList y.user==ByteArray.toList user)) then 0 else y.share))∧i<=l.length) (fun n i=>l.length - i) (fun n i=>[(1,AVal.fn (.func 307) [] [AVal.ptr 0 0 1 0 0]),(4,I 0),(5,I n),(11,Qo2 l),(12,I (l.length:Int)),(13,I (i:Int))]) (fun n i=>[(0,AObj.row 9 1 [[Sg user]])]) 0 0 (wk [0] (tO rfl (ts (l1 LowL.nil)) .nil) (sv (QI0 .nil (cv (Q10 0 rfl rfl) .nil)) (s1 (s1 (sl lw (s1 (s1 .nil))))))) ⟨foll hR (cf h6 rfl),by exact omA⟩ ?_;clear hR;rintro n i ⟨hR,hj⟩;(try dsimp only at hR hj);refine ai (fun h7=>?_) (fun h8=>?_)
   ·have hlt:=ltA h7;rw [Qg0 Usage.zero hlt] at hR;have hxz:(l.getD i Usage.zero).sz:=Q70 (by first|assumption|grind) (Usage.szz _);have hkz:=hxz;obtain ⟨z9,z10⟩:=Usage.zz hxz;refine ai gkA ?_;refine us (mv [0] (cl1 (l.getD i Usage.zero) szA) (dO (ds (l1 LowL.nil)) .nil) (dl (Usage.low _ _) (dp .nil)) (rO (re (l1 LowL.nil)) .nil) rx) ?_;refine Or.inl ?_;refine us (AGives.as2 (sat_Plus_c ([n,((fun (y:Usage)=>(bif (!(ByteArray.toList y.user==ByteArray.toList user)) then 0 else y.share)) (l.getD i Usage.zero))]:List Int) szA _) (av (Qp5 (c:=(fun q_=>[I q_])) (d:=0) ([n,((fun (y:Usage)=>(bif (!(ByteArray.toList y.user==ByteArray.toList user)) then 0 else y.share)) (l.getD i Usage.zero))]:List Int) rfl) .nil)) ?_;exact Qz0 (QAb ([n,((fun (y:Usage)=>(bif (!(ByteArray.toList y.user==ByteArray.toList user)) then 0 else y.share)) (l.getD i Usage.zero))]:List Int)) (i+1) (wk [0] (tO rfl (ts (l1 LowL.nil)) .nil) (sv (QI0 .nil (cv (Q10 0 rfl rfl) .nil)) (s1 (s1 (sl lw (s1 (sv (Qn0 (I_eq (wr omA)) lx) .nil))))))) omA ⟨foll hR (congrArg (fun p:Int=>QH2 p) rfl),by exact omA⟩
   ·rw [Qt0 (l:=l) (j:=i) (geA h8)] at hR;replace hR:QH2 n=Qa3 l (fun (y:Usage)=>(bif (!(ByteArray.toList y.user==ByteArray.toList user)) then 0 else y.share)):=fo2 (fun p:Int=>QH2 p) (n) hR rfl;refine Ql0 (fun r:Int=>I r) (fun r:Int=>[(0,AObj.row 9 1 [[Sg user]])]) (leaf:=n) (foll hR rfl) ?_;exact tt [0] (tO rfl (ts (l1 LowL.nil)) .nil) t1
 refine us (mv [0] (hof1) (dO (ds (l1 LowL.nil)) .nil) (dl lw (dv (dn_fn .nil (dp .nil)) .nil)) (rO (re (l1 LowL.nil)) .nil) rx) ?_;obtain rfl:=foll hR rfl;exact Q00 lx sr
def QE6 (l:List Int) (at_:Int) (i:Bool):Token × Int × Int × Int:=bif i then ((⟨5,(runesBytes (List.drop (Int.toNat at_) (List.take (Int.toNat (w64 (at_+1))) l))),0,at_⟩:Token),(w64 (at_+1)),0,0) else (Token.zero,0,at_,50)
def QW1 (l:List Int) (at_:Int):Token × Int × Int × Int:=bif ((Qk0 (l.getD (Int.toNat at_) 0))==0) then (Token.zero,0,at_,40) else bif ((Qk0 (l.getD (Int.toNat at_) 0))==2) then ((⟨1,(Qb3 (runesBytes (List.drop (Int.toNat at_) (List.take (Int.toNat (Q95 l at_)) l)))),0,at_⟩:Token),(Q95 l at_),0,0) else bif ((Qk0 (l.getD (Int.toNat at_) 0))==3) then bif (ref05_plain (List.drop (Int.toNat at_) (List.take (Int.toNat (Q95 l at_)) l))) then ((⟨3,(runesBytes (List.drop (Int.toNat at_) (List.take (Int.toNat (Q95 l at_)) l))),0,at_⟩:Token),(Q95 l at_),0,0) else bif (decide ((QQc (List.drop (Int.toNat at_) (List.take (Int.toNat (Q95 l at_)) l)))<0)) then (Token.zero,0,at_,50) else ((⟨2,⟨#[]⟩,(QQc (List.drop (Int.toNat at_) (List.take (Int.toNat (Q95 l at_)) l))),at_⟩:Token),(Q95 l at_),0,0) else bif ((l.getD (Int.toNat at_) 0)==34) then ((QL9 l at_).1,(QL9 l at_).2.1,(QL9 l at_).2.2.1,(QL9 l at_).2.2.2) else bif ((l.getD (Int.toNat at_) 0)==61) then QE6 l at_ ((l.getD (Int.toNat at_) 0)==61) else bif ((l.getD (Int.toNat at_) 0)==58) then QE6 l at_ ((l.getD (Int.toNat at_) 0)==58) else bif ((l.getD (Int.toNat at_) 0)==44) then QE6 l at_ ((l.getD (Int.toNat at_) 0)==44) else QE6 l at_ ((l.getD (Int.toNat at_) 0)==45)
def Qp3 :List Book->List Step->Nat->(List Step) × Nat
 | [],p_,i=>(p_,i)
 | x_ :: r,p_,i=>Qp3 r (Qd6 p_ x_.from_ x_.to x_.nodes) (i+1)
def QW5 (x_1:Job):List Int->Bool->Nat->Bool × Nat
 | [],out,k=>(out,k)
 | x_2 :: r,out,k=>QW5 x_1 r (out||(x_2==x_1.id)) (k+1)
def QU2 (except:List Int):List Job->List Step->Nat->(List Step) × Nat
 | [],p_1,i1=>(p_1,i1)
 | x_1 :: r,p_1,i1=>(fun p1:Bool × Nat=>bif ((Qa0 x_1).2.2.2&&(!p1.1)) then QU2 except r (Qd6 p_1 ((Qa0 x_1).1) (w64 ((Qa0 x_1).1+(Qa0 x_1).2.1)) ((Qa0 x_1).2.2.1)) (i1+1) else QU2 except r p_1 (i1+1)) (QW5 x_1 except false 0)
def ref20_Left_k2 (p_1:List Step) (i1:Nat):(List Step):=p_1
def ref20_Left_k1 (s:State) (except:List Int) (p_:List Step) (i:Nat):(List Step):=ref20_Left_k2 ((QU2 except s.jobs p_ 0).1) ((QU2 except s.jobs p_ 0).2)
def Q91 (s:State) (except:List Int):(List Step):=ref20_Left_k1 s except ((Qp3 s.books (Q17 s) 0).1) ((Qp3 s.books (Q17 s) 0).2)
end Go.Proofs.YtcbolcknapeneaaGreatDoor
namespace Go.Proofs.YtcbolcknapeneaaGreatDoor
set_option linter.unusedSimpArgs false
set_option linter.unusedVariables false
open Go.Fw
set_option maxRecDepth 20000
set_option maxHeartbeats 4000000
attribute [local irreducible] ACalls AMoves
def Qe0 (y:Int):List Int->Nat->Bool
 | [],_=>false
 | x_1 :: r,i=>bif ((Q61 y)==x_1) then true else Qe0 y r (i+1)
def QX4 (line:ByteArray):List (Nat × Int)->LexReader->LexReader
 | [],c=>c
 | x_ :: r,c=>QX4 line r { c with line:=(c.line++([x_.2]:List Int)) }
def QH1 :Nat->List Token->LexReader->(List Token) × Int × Int
 | 0,_,_=>([],0,0)
 | m+1,out,c2=>bif (c2.error==0) then bif ((Q30 c2 (fun (y:Int)=>Qe0 y ([1]:List Int) 0)).2.at_==(((Q30 c2 (fun (y:Int)=>Qe0 y ([1]:List Int) 0)).2.line).length:Int)) then (out,(((Q30 c2 (fun (y:Int)=>Qe0 y ([1]:List Int) 0)).2.line).length:Int),0) else QH1 m (out++([{ (Q90 ((Q30 c2 (fun (y:Int)=>Qe0 y ([1]:List Int) 0)).2)).1 with at_:=(Q30 c2 (fun (y:Int)=>Qe0 y ([1]:List Int) 0)).2.at_ }]:List Token)) ((Q90 ((Q30 c2 (fun (y:Int)=>Qe0 y ([1]:List Int) 0)).2)).2) else ([],c2.bad,c2.error)
def QY4 (c:LexReader):(List Token) × Int × Int:=QH1 ((2*Int.toNat ((c.line.length:Int) - c.at_)+(bif c.error==0 then 1 else 0))+1) [] c
def Q71 (line:ByteArray):(List Token) × Int × Int:=bif (decide ((ByteArray.size line:Int) > 400)) then ([],0,3) else QY4 (QX4 line (Qq6 line) LexReader.zero)
theorem b6a0 {P:Prop} (h:P:=by first|(have hq:=hrd _ (by assumption);exact ⟨hq.2.1.1,hq.2.1.2.1,hq.2.1.2.2,fun hz=>by have hq3:=hq.2.2.2 hz;simp only [List.length_append,List.length_cons,List.length_nil];omega⟩)|first|(refine ⟨by omega,by omega,by omega,fun _=>by simp;omega⟩)|first|(simp [LexReader.zero];done)|first|(simp;omega)|exact exA):P:=h
theorem lex_Tokens_c (line:ByteArray) (hs0:line.size<=4294967296):GV 340 [Sg line] (AVal.tup [tokenL ((Q71 line).1),I ((Q71 line).2.1),I ((Q71 line).2.2)]):=by
 generalize hR:Q71 line=R;refine ga (l1 .nil) (Low.tup' (.cons lw (l1 (l1 .nil)))) (kp 12 [14,18,19,20,38,51]) Tryz.func340 ?_;have hk0:=hs0;obtain z15:line.size<=4294967296:=hs0;refine ai (fun h1=>?_) (fun h2=>?_)
 ·have qh1:=of_decide_eq_true h1;obtain rfl:=foll hR (ct h1 rfl);exact Q00 (Low.tup' (.cons lw (l1 (l1 .nil)))) (Seen.tup (ev (QJ0) (e1 (e1 .nil))))
 ·have qh2:=of_decide_eq_false h2;refine Q41 (fun (c:LexReader) (pos:Nat)=>∃ m,ByteArray.size line - pos<=m∧QY4 (QX4 line (QA4 line m pos) c)=R∧c.line.length<=pos∧pos<=ByteArray.size line∧c.at_=0) (fun c pos=>ByteArray.size line - pos) (fun c pos=>[(2,AVal.lit (.slice none 0 0)),(3,I 0),(4,I 0),(5,AVal.ptr 0 0 4 0 0),(18,AVal.ptr 1 0 1 0 0)]) (fun c pos=>[(0,AObj.row 364 4 [[AVal.own 2 0 1 0 c.line.length,I c.at_,I c.bad,I c.error]]),(0,AObj.other (.strIter line pos)),(0,AObj.row 21 1 (c.line.map (fun q_=>[J q_])))]) LexReader.zero 0 ((QH3 21 1).trans (wk [0,1,2] (tO rfl (Qb0 (cv (Qv2 2 rfl) (c1 (c1 (c1 .nil))))) (tO rfl (.strIter _ _) (tO rfl (tl eqA) .nil))) (s1 (s1 (s1 (sv (Q10 0 rfl rfl) (sv (Q10 1 rfl rfl) .nil))))))) ⟨ByteArray.size line,by first|(have hq:=hrd _ (by assumption);omega)|exact omA,foll hR (cf h2 rfl),b6a0⟩ ?_;clear hR;rintro c pos ⟨m,hm,hR,hx⟩;(try dsimp only at hR hm hx);refine ai (fun h3=>?_) (fun h4=>?_)
  ·have hlt:=of_decide_eq_true h3;have hw:=QD9 line pos;have hwe:=QC9 line pos hlt;obtain ⟨m,rfl⟩:=sucA m;rw [Qc4 h3] at hR;refine ai (fun _=>?_) (fun h=>nomatch h);refine Or.inl ?_;(first|refine ⟨Q75 4 rfl lnA apA,?_⟩|refine ⟨QI2 4 rfl apA,?_⟩);exact Qz0 { c with line:=(c.line++([(pos,((Utf8.decode line pos).1:Int)).2]:List Int)) } (pos+(Utf8.decode line pos).2) (wk [0,1,2] (tO rfl (Qb0 (cv (to 2 lnA) (c1 (c1 (c1 .nil))))) (tO rfl (.strIter _ _) (tO rfl (tl eqA) .nil))) (s1 (s1 (s1 (sv (Q10 0 rfl rfl) (sv (Q10 1 rfl rfl) .nil)))))) (by first|(have hq:=hrd _ (by assumption);omega)|exact omA) ⟨m,by first|(have hq:=hrd _ (by assumption);omega)|exact omA,foll hR (congrArg (fun p:LexReader=>QY4 p) rfl),b6a0⟩
  ·rw [QI6 h4] at hR;refine ai (fun h=>nomatch h) (fun _=>?_);replace hR:QY4 c=R:=fo2 (fun p:LexReader=>QY4 p) (c) hR rfl;refine Or.inl ?_;refine ACalls.of_cwp (fun _=>true) Tryz.func362 rfl rfl ?_;refine ⟨_,_,Told.refl,?_⟩;refine Q41 (fun (out:List Token) (c2:LexReader)=>∃ m,(2*Int.toNat ((c2.line.length:Int) - c2.at_)+(bif c2.error==0 then 1 else 0))<m∧QH1 m out c2=R∧0<=c2.at_∧c2.at_<=(c2.line.length:Int)∧c2.line.length<=400∧((c2.error==0)=true->(out.length:Int)<=c2.at_)) (fun out c2=>(2*Int.toNat ((c2.line.length:Int) - c2.at_)+(bif c2.error==0 then 1 else 0))) (fun out c2=>[(2,AVal.lit (.slice none 0 0)),(3,I 0),(4,I 0),(5,AVal.ptr 0 0 4 0 0),(8,AVal.fn (.func 376) [] [AVal.ptr 1 0 1 0 0]),(9,AVal.own 2 0 4 0 out.length)]) (fun out c2=>[(0,AObj.row 364 4 [[runes c2.line,I c2.at_,I c2.bad,I c2.error]]),(0,AObj.row 44 1 [[ints ([1]:List Int)]]),(0,AObj.row 309 4 (out.map Token.cells))]) [] c ((QH3 309 4).trans (wk [0,3,4] (tO rfl (Qb0 (cv (turn_listL _ _ rfl (Nat.zero_le _) (by decide) eqA (fun _=>lowL1 rfl) lnA) (c1 (c1 (c1 .nil))))) (tO rfl (Qb0 (cv (turn_as (Qp5 (c:=(fun q_=>[I q_])) (d:=0) ([1]:List Int) rfl) lw) .nil)) (tO rfl (tl eqA) .nil))) (s1 (s1 (s1 (sv (Q10 0 rfl rfl) (sv (QI0 .nil (cv (Q10 1 rfl rfl) .nil)) (sv (Qv2 2 rfl) .nil)))))))) ⟨_,Nat.lt_succ_self _,foll hR rfl,b6a0⟩ ?_;clear hR;rintro out c2 ⟨m,hm,hR,hx⟩;(try dsimp only at hR hm hx);obtain ⟨m,rfl⟩:=sucA m;refine ai (fun h5=>?_) (fun h6=>?_)
   ·have hol:=hx.2.2.2 h5;have hrd:=fun (b:Int->Bool) (hn:((Q30 c2 b).2.at_==((Q30 c2 b).2.line.length:Int))=false)=>lex_round c2 _ b (by omega) (by omega) (by omega) h5 rfl hn;have cl1:∀ (y1:Int),AMoves Tryz.prog 376 [J y1,AVal.ptr 0 0 1 0 0] [(0,AObj.row 44 1 [[ints ([1]:List Int)]])] 1 (Bo ((fun (y:Int)=>Qe0 y ([1]:List Int) 0) y1)) [(0,AObj.row 44 1 [[ints ([1]:List Int)]])]:=by
     intro y1;have hR:(fun (y:Int)=>Qe0 y ([1]:List Int) 0) y1=(fun (y:Int)=>Qe0 y ([1]:List Int) 0) y1:=rfl;refine mo (kp 6 [6,7,8,9,15]) Tryz.func376 ?_;refine Qm0 (fun (i:Nat)=>Qe0 y1 (List.drop i ([1]:List Int)) i=(fun (y:Int)=>Qe0 y ([1]:List Int) 0) y1∧i<=([1]:List Int).length) (fun i=>([1]:List Int).length - i) (fun i=>[(0,J y1),(3,Bo false),(6,ints ([1]:List Int)),(7,I (([1]:List Int).length:Int)),(8,I (i:Int))]) (fun i=>[(0,AObj.row 44 1 [[ints ([1]:List Int)]])]) 0 (wk [0] (tO rfl (ts (lv lw LowL.nil)) .nil) (s1 (s1 (sl lw (s1 (s1 .nil)))))) ⟨foll hR rfl,by exact omA⟩ ?_;clear hR;rintro i ⟨hR,hj⟩;(try dsimp only at hR hj);refine ai (fun h7=>?_) (fun h8=>?_)
     ·(have hlt:i<([1]:List Int).length:=by have:=of_decide_eq_true h7;omega);rw [Qg0 0 hlt] at hR;refine ai gkA ?_;refine us (Q84 y1 _) ?_;refine ai (fun h9=>?_) (fun h10=>?_)
      ·refine Ql0 (fun r:Bool=>Bo r) (fun _=>[(0,AObj.row 44 1 [[ints ([1]:List Int)]])]) (leaf:=true) (foll hR (ct h9 rfl)) ?_;exact tt [0] (tO rfl (ts (lv lw LowL.nil)) .nil) t1
      ·exact Qq0 (i+1) (wk [0] (tO rfl (ts (lv lw LowL.nil)) .nil) (s1 (s1 (sl lw (s1 (sv (Qn0 (I_eq (wr omA)) lx) .nil)))))) omA ⟨foll hR (cf h10 rfl),by exact omA⟩
     ·rw [Qt0 (l:=([1]:List Int)) (j:=i) (geA h8)] at hR;refine Ql0 (fun r:Bool=>Bo r) (fun _=>[(0,AObj.row 44 1 [[ints ([1]:List Int)]])]) (leaf:=false) (foll hR rfl) ?_;exact tt [0] (tO rfl (ts (lv lw LowL.nil)) .nil) t1
    have hof1:AMoves Tryz.prog 363 [AVal.ptr 0 0 4 0 0,AVal.fn (.func 376) [] [AVal.ptr 1 0 1 0 0]] [(0,AObj.row 364 4 [[runes c2.line,I c2.at_,I c2.bad,I c2.error]]),(0,AObj.row 44 1 [[ints ([1]:List Int)]])] 2 (Sg ((Q30 c2 (fun (y:Int)=>Qe0 y ([1]:List Int) 0)).1)) [(0,AObj.row 364 4 [[runes (((Q30 c2 (fun (y:Int)=>Qe0 y ([1]:List Int) 0)).2).line),I (((Q30 c2 (fun (y:Int)=>Qe0 y ([1]:List Int) 0)).2).at_),I (((Q30 c2 (fun (y:Int)=>Qe0 y ([1]:List Int) 0)).2).bad),I (((Q30 c2 (fun (y:Int)=>Qe0 y ([1]:List Int) 0)).2).error)]]),(0,AObj.row 44 1 [[ints ([1]:List Int)]])]:=by
     have hR:Q30 c2 (fun (y:Int)=>Qe0 y ([1]:List Int) 0)=Q30 c2 (fun (y:Int)=>Qe0 y ([1]:List Int) 0):=rfl;refine mo (kp 6 [33]) Tryz.func363 ?_;refine Qm0 (fun (c3:LexReader)=>∃ m,(Int.toNat ((c3.line.length:Int) - c3.at_))<m∧Qx0 c2 (Qw0 (fun (y:Int)=>Qe0 y ([1]:List Int) 0) m c3)=Q30 c2 (fun (y:Int)=>Qe0 y ([1]:List Int) 0)∧0<=c3.at_∧c3.at_<=(c3.line.length:Int)∧c3.line.length<=400∧c2.at_<=c3.at_∧0<=c2.at_) (fun c3=>(Int.toNat ((c3.line.length:Int) - c3.at_))) (fun c3=>[(0,AVal.ptr 0 0 4 0 0),(1,AVal.fn (.func 376) [] [AVal.ptr 1 0 1 0 0]),(4,Sg ⟨#[]⟩),(5,I c2.at_)]) (fun c3=>[(0,AObj.row 364 4 [[runes c3.line,I c3.at_,I c3.bad,I c3.error]]),(0,AObj.row 44 1 [[ints ([1]:List Int)]])]) c2 (wk [0,1] (tO rfl (ts LexReader.lo) (tO rfl (ts (lv lw LowL.nil)) .nil)) (sv (Q10 0 rfl rfl) (sv (QI0 .nil (cv (Q10 1 rfl rfl) .nil)) (s1 (s1 .nil))))) ⟨_,Nat.lt_succ_self _,foll hR rfl,by exact exA⟩ ?_;clear hR;rintro c3 ⟨m,hm,hR,hx⟩;(try dsimp only at hR hm hx);obtain ⟨m,rfl⟩:=sucA m;refine dchk (by kernel_rfl) ?_;refine ai gkA ?_;(first|apply u2|apply u3|apply u4|apply us);exact mv [1] (cl1 (c3.line.getD (Int.toNat c3.at_) 0)) (dO (ds (lv lw LowL.nil)) .nil) (d1 (dp .nil)) (rO (re (lv lw LowL.nil)) .nil) rx;(repeat ((first|refine ai rfl ?_|refine ai (fun _=>rfl) ?_)));refine ai (fun h11=>?_) (fun h12=>?_)
     ·have hq1:=of_decide_eq_true ((Bool.and_eq_true _ _).mp h11).1;have hwr:w64 (c3.at_+1)=c3.at_+1:=wr (by omega);exact Qq0 { c3 with at_:=(w64 (c3.at_+1)) } (wk [0,1] (tO rfl (ts LexReader.lo) (tO rfl (ts (lv lw LowL.nil)) .nil)) (sv (Q10 0 rfl rfl) (sv (QI0 .nil (cv (Q10 1 rfl rfl) .nil)) (s1 (s1 .nil))))) omA ⟨m,by exact omA,foll hR (congrArg (fun p:LexReader=>Qx0 c2 p) (ct h11 rfl)),by exact exA⟩
     ·replace hR:Qx0 c2 c3=Q30 c2 (fun (y:Int)=>Qe0 y ([1]:List Int) 0):=fo2 (fun p:LexReader=>Qx0 c2 p) (c3) hR (cf h12 rfl);refine dchk (by kernel_rfl) ?_;refine ai gkA ?_;(first|refine ⟨(List.drop (Int.toNat c2.at_) (List.take (Int.toNat c3.at_) c3.line)),by exact cvA,?_⟩|refine ⟨_,fun _=>⟨(List.drop (Int.toNat c2.at_) (List.take (Int.toNat c3.at_) c3.line)),by exact cvA,rfl,rfl⟩,?_⟩|refine ⟨_,rfl,⟨(List.drop (Int.toNat c2.at_) (List.take (Int.toNat c3.at_) c3.line)),by exact cvA,Sub.refl _,rfl⟩,?_⟩);(repeat ((first|refine ai rfl ?_|refine ai (fun _=>rfl) ?_)));refine Ql0 (fun r:ByteArray × LexReader=>Sg r.1) (fun r:ByteArray × LexReader=>[(0,AObj.row 364 4 [[runes r.2.line,I r.2.at_,I r.2.bad,I r.2.error]]),(0,AObj.row 44 1 [[ints ([1]:List Int)]])]) (leaf:=((runesBytes (List.drop (Int.toNat c2.at_) (List.take (Int.toNat c3.at_) c3.line))),c3)) (foll hR rfl) ?_;exact tt [0,1] (tO rfl (ts LexReader.lo) (tO rfl (ts (lv lw LowL.nil)) .nil)) t1
    refine us (mv [0,1] (hof1) (dO (ds LexReader.lo) (dO (ds (lv lw LowL.nil)) .nil)) (dp (dv (dn_fn .nil (dp .nil)) .nil)) (rO (re LexReader.lo) (rO (re (lv lw LowL.nil)) .nil)) rx) ?_;refine dchk (by kernel_rfl) ?_;(repeat ((first|refine ai rfl ?_|refine ai (fun _=>rfl) ?_)));refine ai (fun h13=>?_) (fun h14=>?_)
    ·refine dchk (by kernel_rfl) ?_;(repeat ((first|refine ai rfl ?_|refine ai (fun _=>rfl) ?_)));obtain rfl:=foll hR (ct h5 (ct h13 rfl));exact Q00 (Low.tup' (.cons lw (l1 (l1 .nil)))) (Seen.tup (ev (Q82 Token.zero _ rfl eqA lnA) (e1 (e1 .nil))))
    ·refine us (mv [0] (Q6c ((Q30 c2 (fun (y:Int)=>Qe0 y ([1]:List Int) 0)).2) (by first|(exact Nat.le_trans (hrd _ (by assumption)).1.2.2 (by decide))|exact szA) (by exact (hrd _ (by assumption)).1)) (dO (ds LexReader.lo) .nil) (dp .nil) (rO (re LexReader.lo) .nil) (Ren.low _ (Low.agg' (Token.lo)))) ?_;refine Or.inl ?_;(first|refine ⟨Q75 40 rfl lnA apA,?_⟩|refine ⟨QI2 40 rfl apA,?_⟩);exact Qz0 (out++([{ (Q90 ((Q30 c2 (fun (y:Int)=>Qe0 y ([1]:List Int) 0)).2)).1 with at_:=(Q30 c2 (fun (y:Int)=>Qe0 y ([1]:List Int) 0)).2.at_ }]:List Token)) ((Q90 ((Q30 c2 (fun (y:Int)=>Qe0 y ([1]:List Int) 0)).2)).2) (wk [0,1,2] (tO rfl (ts LexReader.lo) (tO rfl (ts (lv lw LowL.nil)) (tO rfl (tl eqA) .nil))) (s1 (s1 (s1 (sv (Q10 0 rfl rfl) (sv (QI0 .nil (cv (Q10 1 rfl rfl) .nil)) (sv (to 2 lnA) .nil))))))) (by first|(have hq:=hrd _ (by assumption);omega)|exact omA) ⟨m,by first|(have hq:=hrd _ (by assumption);omega)|exact omA,foll hR (ct h5 (cf h14 rfl)),b6a0⟩
   ·refine dchk (by kernel_rfl) ?_;(repeat ((first|refine ai rfl ?_|refine ai (fun _=>rfl) ?_)));obtain rfl:=foll hR (cf h6 rfl);exact Q00 (Low.tup' (.cons lw (l1 (l1 .nil)))) (Seen.tup (ev (QJ0) (e1 (e1 .nil))))
def Q32 (v:Job):Bool:=((((v.start==0)&&(v.limit==0))&&(v.nodes==0))&&(((v.promise==(-1))&&(v.choice==0))||(((Qc3 v.promise)&&(QP0 v v.choice).2)&&(!v.held))))
theorem Q2c (v:Job) (hs0:v.sz):GV 78 [Job.a v] (Bo (Q32 v)):=by
 generalize hR:Q32 v=R;refine ga (.cons (Job.low _ _) .nil) lx (kp 6 []) Tryz.func78 ?_;obtain ⟨z1,z2,z3,z4,z5⟩:=Job.zz hs0;refine us (Q86 v v.choice szA _) ?_;(first|apply u2|apply u3|apply u4|apply us);exact QW4 v.promise _;obtain rfl:=foll hR rfl;exact Q00 lx sr
def Qg3 (v:Job):Bool:=bif (((((((!(QP0 v v.choice).2)||v.held)||(!(Qc3 v.start)))||(!(Qc3 v.promise)))||(decide (v.promise<v.start)))||(!(Qc3 v.limit)))||((w64 (v.limit - v.start))!=(QP0 v v.choice).1.wall)) then false else ((Q89 v.nodes)&&(QG6 v.shape v.choice (Qw1 v.nodes)))
theorem Qab (v:Job) (hs0:v.sz):GV 79 [Job.a v] (Bo (Qg3 v)):=by
 generalize hR:Qg3 v=R;refine ga (.cons (Job.low _ _) .nil) lx (kp 5 [61]) Tryz.func79 ?_;obtain ⟨z3,z4,z5,z6,z7⟩:=Job.zz hs0;refine us (Q86 v v.choice szA _) ?_;(first|apply u2|apply u3|apply u4|apply us);exact QW4 v.start _;(first|apply u2|apply u3|apply u4|apply us);exact QW4 v.promise _;(first|apply u2|apply u3|apply u4|apply us);exact QW4 v.limit _;refine ai (fun h1=>?_) (fun h2=>?_)
 ·obtain rfl:=foll hR (ct h1 rfl);exact Q00 lx sr
 ·refine dchk (by kernel_rfl) ?_;(first|apply u2|apply u3|apply u4|apply us);exact Qae v.nodes _;(first|apply u2|apply u3|apply u4|apply us);exact Qi7 v.nodes _;(first|apply u2|apply u3|apply u4|apply us);exact Qda v.shape v.choice (Qw1 v.nodes) szA _;(repeat ((first|refine ai rfl ?_|refine ai (fun _=>rfl) ?_|refine ai (fun _=>Qae v.nodes _) ?_|refine ai (fun _=>Qi7 v.nodes _) ?_|refine ai (fun _=>Qda v.shape v.choice (Qw1 v.nodes) szA _) ?_)));obtain rfl:=foll hR (cf h2 rfl);exact Q00 lx sr
def QH0 (line:ByteArray):Nat->List Token->Int->(List Token) × Int × Int
 | 0,_,_=>([],0,0)
 | m+1,out,i=>bif (decide (i<((Qt1 line).length:Int))) then bif ((Qk0 ((Qt1 line).getD (Int.toNat i) 0))==1) then QH0 line m out (w64 (i+1)) else bif ((QW1 (Qt1 line) i).2.2.2 != 0) then ([],(QW1 (Qt1 line) i).2.2.1,(QW1 (Qt1 line) i).2.2.2) else QH0 line m (out++([(QW1 (Qt1 line) i).1]:List Token)) ((QW1 (Qt1 line) i).2.1) else (out,((Qt1 line).length:Int),0)
def QX0 (line:ByteArray):(List Token) × Int × Int:=bif (decide ((ByteArray.size line:Int) > 400)) then ([],0,3) else QH0 line ((Int.toNat (((Qt1 line).length:Int) - 0))+1) [] 0
def QM9 (s:State) (j:Job) (latest:Int):Int × Int × Bool:=((Qq1 (Q91 s ([j.id]:List Int)) (Q50 j.shape) s.now latest 12).1,(Qq1 (Q91 s ([j.id]:List Int)) (Q50 j.shape) s.now latest 12).2.1,(Qq1 (Q91 s ([j.id]:List Int)) (Q50 j.shape) s.now latest 12).2.2)
end Go.Proofs.YtcbolcknapeneaaGreatDoor
namespace Go.Proofs.YtcbolcknapeneaaGreatDoor
set_option linter.unusedSimpArgs false
set_option linter.unusedVariables false
open Go.Fw
set_option maxRecDepth 20000
set_option maxHeartbeats 4000000
attribute [local irreducible] ACalls AMoves
def Qi5 (s:ByteArray):Bool:=bif ((((Q71 s).2.2 != 0)||((((Q71 s).1).length:Int)!=1))||(!(((((Q71 s).1).getD 0 Token.zero).kind==1)&&(((((Q71 s).1).getD 0 Token.zero).text==s)&&(((((Q71 s).1).getD 0 Token.zero).num==0)&&((((Q71 s).1).getD 0 Token.zero).at_==0)))))) then false else true
theorem cmd_word_c (s:ByteArray) (hs0:s.size<=4294967296):GV 255 [Sg s] (Bo (Qi5 s)):=by
 generalize hR:Qi5 s=R;refine ga (l1 .nil) lx (kp 3 []) Tryz.func255 ?_;have hk0:=hs0;obtain z3:s.size<=4294967296:=hs0;refine ACalls.of_cwp (fun _=>true) Tryz.func311 rfl rfl ?_;refine ACalls.of_cwp (fun _=>true) Tryz.func341 rfl rfl ?_;refine ai (fun h=>nomatch h) (fun _=>?_);refine ai (fun h=>nomatch h) (fun _=>?_);refine ⟨_,_,Told.refl,?_⟩;refine us (lex_Tokens_c s szA _) ?_;refine dchk (by kernel_rfl) ?_;refine ai gkA ?_;refine ai (fun _=>(by kernel_rfl:eqOK _ _=true)) ?_;(repeat ((first|refine ai rfl ?_|refine ai (fun _=>rfl) ?_)));refine ai (fun h1=>?_) (fun h2=>?_)
 ·refine ⟨_,_,Told.refl,?_⟩;obtain rfl:=foll hR (ct h1 rfl);exact Q00 lx sr
 ·refine ⟨_,_,Told.refl,?_⟩;obtain rfl:=foll hR (cf h2 rfl);exact Q00 lx sr
def QG5 (s:ByteArray):Bool:=bif (((QX0 s).2.2 != 0)||((((QX0 s).1).length:Int)!=1)) then false else bif ((((((QX0 s).1).getD 0 Token.zero).kind != 1)||(!(ByteArray.toList (((QX0 s).1).getD 0 Token.zero).text==ByteArray.toList s)))||((((QX0 s).1).getD 0 Token.zero).num != 0)) then false else true
end Go.Proofs.YtcbolcknapeneaaGreatDoor
namespace Go.Proofs.YtcbolcknapeneaaGreatDoor
set_option linter.unusedSimpArgs false
set_option linter.unusedVariables false
open Go.Fw
set_option maxRecDepth 20000
set_option maxHeartbeats 4000000
attribute [local irreducible] ACalls AMoves
def Ql8 (c:Cmd) (i1:Bool):Bool:=bif i1 then (Qp2 c.node 0 47) else bif (c.kind==10) then (((Qp2 c.from_ 0 1000000)&&c.hasTime)&&(Qp2 c.nodes 1 48)) else ((c.kind==12)&&(Qp2 c.job 0 99999))
def Q67 (c:Cmd) (i:Bool):Bool:=bif i then (Quc c.job) else bif (c.kind==5) then ((Quc c.job)&&(c.hasPrio||c.hasTime)) else bif (c.kind==6) then ((Quc c.job)&&(Qp2 c.nodes 1 48)) else bif (c.kind==7) then Ql8 c (c.kind==7) else bif (c.kind==8) then Ql8 c (c.kind==8) else Ql8 c (c.kind==9)
def QTa (c:Cmd):Bool:=bif ((((c.hasPrio&&(!(Qp2 c.prio 0 100)))||(c.hasTime&&(!(QSb c.time))))||((!c.hasPrio)&&(c.prio != 0)))||((!c.hasTime)&&(c.time != 0))) then false else bif (c.kind==1) then (((((((QU4 c.name)&&(QU4 c.user))&&(QU4 c.account))&&(Qi5 c.user))&&(Qi5 c.account))&&(QP6 c.after))&&((QC1 c.shape)==0)) else bif (c.kind==2) then Q67 c (c.kind==2) else bif (c.kind==3) then Q67 c (c.kind==3) else bif (c.kind==4) then Q67 c (c.kind==4) else Q67 c (c.kind==11)
theorem cmd_fits_c (c:Cmd) (hs0:c.sz):GV 172 [Cmd.a c] (Bo (QTa c)):=by
 generalize hR:QTa c=R;refine ga (.cons (Cmd.low _ _) .nil) lx (kj [1000010,1000018] 3 [40,42,43,79,87,100,110,117]) Tryz.func172 ?_;have hk0:=hs0;obtain ⟨z25,z26,z27,z28,z29⟩:c.name.size<=4294967296∧c.user.size<=4294967296∧c.account.size<=4294967296∧(c.shape.alts.length<=4294967296)∧c.after.length<=4294967296:=hs0;(first|apply u2|apply u3|apply u4|apply us);exact Q03 c.prio 0 100 _;(first|apply u2|apply u3|apply u4|apply us);exact cmd_length_c c.time _;refine ai (fun h1=>?_) (fun h2=>?_)
 ·obtain rfl:=foll hR (ct h1 rfl);exact Q00 lx sr
 ·refine ai (fun h3=>?_) (fun h4=>?_)
  ·refine us (QTb c.name szA _) ?_;(first|apply u2|apply u3|apply u4|apply us);exact QTb c.user szA _;(first|apply u2|apply u3|apply u4|apply us);exact QTb c.account szA _;(first|apply u2|apply u3|apply u4|apply us);exact cmd_word_c c.user szA _;(first|apply u2|apply u3|apply u4|apply us);exact cmd_word_c c.account szA _;(first|apply u2|apply u3|apply u4|apply us);exact cmd_deps_c c.after szA _;(first|apply u2|apply u3|apply u4|apply us);exact QBb c.shape szA _;obtain rfl:=foll hR (cf h2 (ct h3 rfl));exact Q00 lx sr
  ·refine QJ2 (fun (i:Bool)=>Q67 c i=R) (fun i=>[(1,AVal.ptr 0 0 18 0 0),(2,Bo false),(42,I c.kind),(79,Bo i)]) (fun i=>[(0,AObj.row 119 18 [[I c.kind,I c.job,Sg c.name,Sg c.user,Sg c.account,I c.shape.kind,altL c.shape.alts,I c.shape.min,I c.shape.max,I c.shape.wall,I c.prio,Bo c.hasPrio,I c.time,Bo c.hasTime,depL c.after,I c.node,I c.nodes,I c.from_]])]) ?_ ?_
   ·clear hR;rintro i hR;(try dsimp only at hR);refine ai (fun h5=>?_) (fun h6=>?_)
    ·refine us (Qid c.job _) ?_;obtain rfl:=foll hR (ct h5 rfl);exact Q00 lx sr
    ·refine ai (fun h7=>?_) (fun h8=>?_)
     ·refine us (Qid c.job _) ?_;obtain rfl:=foll hR (cf h6 (ct h7 rfl));exact Q00 lx sr
     ·refine ai (fun h9=>?_) (fun h10=>?_)
      ·refine us (Qid c.job _) ?_;(first|apply u2|apply u3|apply u4|apply us);exact Q03 c.nodes 1 48 _;obtain rfl:=foll hR (cf h6 (cf h8 (ct h9 rfl)));exact Q00 lx sr
      ·refine QJ2 (fun (i1:Bool)=>Ql8 c i1=R) (fun i1=>[(1,AVal.ptr 0 0 18 0 0),(2,Bo false),(42,I c.kind),(110,Bo i1)]) (fun i1=>[(0,AObj.row 119 18 [[I c.kind,I c.job,Sg c.name,Sg c.user,Sg c.account,I c.shape.kind,altL c.shape.alts,I c.shape.min,I c.shape.max,I c.shape.wall,I c.prio,Bo c.hasPrio,I c.time,Bo c.hasTime,depL c.after,I c.node,I c.nodes,I c.from_]])]) ?_ ?_
       ·clear hR;rintro i1 hR;(try dsimp only at hR);refine ai (fun h11=>?_) (fun h12=>?_)
        ·refine us (Q03 c.node 0 47 _) ?_;obtain rfl:=foll hR (ct h11 rfl);exact Q00 lx sr
        ·refine ai (fun h13=>?_) (fun h14=>?_)
         ·refine us (Q03 c.from_ 0 1000000 _) ?_;(first|apply u2|apply u3|apply u4|apply us);exact Q03 c.nodes 1 48 _;obtain rfl:=foll hR (cf h12 (ct h13 rfl));exact Q00 lx sr
         ·(first|apply u2|apply u3|apply u4|apply us);exact Q03 c.job 0 99999 _;obtain rfl:=foll hR (cf h12 (cf h14 rfl));exact Q00 lx sr
       ·refine ai (fun h15=>?_) (fun h16=>?_)
        ·exact QC0 (c.kind==7) (wk [0] (tO rfl (ts Cmd.lo) .nil) (sv (Q10 0 rfl rfl) (s1 (s1 (s1 .nil))))) (foll hR (cf h6 (cf h8 (cf h10 (ct h15 rfl)))))
        ·refine ai (fun h17=>?_) (fun h18=>?_)
         ·exact QC0 (c.kind==8) (wk [0] (tO rfl (ts Cmd.lo) .nil) (sv (Q10 0 rfl rfl) (s1 (s1 (s1 .nil))))) (foll hR (cf h6 (cf h8 (cf h10 (cf h16 (ct h17 rfl))))))
         ·exact QC0 (c.kind==9) (wk [0] (tO rfl (ts Cmd.lo) .nil) (sv (Q10 0 rfl rfl) (s1 (s1 (s1 .nil))))) (foll hR (cf h6 (cf h8 (cf h10 (cf h16 (cf h18 rfl))))))
   ·refine ai (fun h19=>?_) (fun h20=>?_)
    ·exact QC0 (c.kind==2) (wk [0] (tO rfl (ts Cmd.lo) .nil) (sv (Q10 0 rfl rfl) (s1 (s1 (s1 .nil))))) (foll hR (cf h2 (cf h4 (ct h19 rfl))))
    ·refine ai (fun h21=>?_) (fun h22=>?_)
     ·exact QC0 (c.kind==3) (wk [0] (tO rfl (ts Cmd.lo) .nil) (sv (Q10 0 rfl rfl) (s1 (s1 (s1 .nil))))) (foll hR (cf h2 (cf h4 (cf h20 (ct h21 rfl)))))
     ·refine ai (fun h23=>?_) (fun h24=>?_)
      ·exact QC0 (c.kind==4) (wk [0] (tO rfl (ts Cmd.lo) .nil) (sv (Q10 0 rfl rfl) (s1 (s1 (s1 .nil))))) (foll hR (cf h2 (cf h4 (cf h20 (cf h22 (ct h23 rfl))))))
      ·exact QC0 (c.kind==11) (wk [0] (tO rfl (ts Cmd.lo) .nil) (sv (Q10 0 rfl rfl) (s1 (s1 (s1 .nil))))) (foll hR (cf h2 (cf h4 (cf h20 (cf h22 (cf h24 rfl))))))
def QU7 (ok2:Bool):Int:=bif (!ok2) then 80 else 0
def QT7 (c:Cmd) (ok1:Bool):Int:=bif c.hasTime then QU7 (ok1&&(Q62 c.time 1 100000)) else QU7 (ok1&&(c.time==0))
def Qy2 (c:Cmd) (ok:Bool):Int:=bif c.hasPrio then QT7 c (ok&&(Q62 c.prio 0 100)) else QT7 c (ok&&(c.prio==0))
def QS7 (c:Cmd) (i1:Bool):Int:=bif i1 then Qy2 c ((QH5 c true true true true false true true)&&(Q62 c.node 0 47)) else bif (c.kind==10) then Qy2 c ((((QH5 c true true true false true false false)&&(Q62 c.from_ 0 1000000))&&c.hasTime)&&(Q62 c.nodes 1 48)) else Qy2 c false
def Qo6 (c:Cmd) (i:Bool):Int:=bif i then Qy2 c ((QH5 c false true true true true true true)&&(Q62 c.job 1 99999)) else bif (c.kind==12) then Qy2 c ((QH5 c false true true true true true true)&&(Q62 c.job 0 99999)) else bif (c.kind==5) then Qy2 c (((QH5 c false true false false true true true)&&(Q62 c.job 1 99999))&&(c.hasPrio||c.hasTime)) else bif (c.kind==6) then Qy2 c (((QH5 c false true true true true false true)&&(Q62 c.job 1 99999))&&(Q62 c.nodes 1 48)) else bif (c.kind==7) then QS7 c (c.kind==7) else bif (c.kind==8) then QS7 c (c.kind==8) else QS7 c (c.kind==9)
def Q44 (c:Cmd):Int:=bif (c.kind==1) then Qy2 c ((((((((QH5 c true false false true true true true)&&(QF5 c.name))&&(QF5 c.user))&&(QF5 c.account))&&(QG5 c.user))&&(QG5 c.account))&&(Qz8 c.after))&&((Qn1 c.shape)==0)) else bif (c.kind==2) then Qo6 c (c.kind==2) else bif (c.kind==3) then Qo6 c (c.kind==3) else bif (c.kind==4) then Qo6 c (c.kind==4) else Qo6 c (c.kind==11)
end Go.Proofs.YtcbolcknapeneaaGreatDoor
