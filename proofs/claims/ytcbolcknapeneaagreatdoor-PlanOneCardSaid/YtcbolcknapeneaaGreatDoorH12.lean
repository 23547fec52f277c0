/-
  Contracts of functions, printed by a program of this repo (wip/dec). No condition beyond those that stand in each.
-/
import Derived.Test.YtcbolcknapeneaaGreatDoorH11
import Derived.Test.YtcbolcknapeneaaGreatDoorProg
namespace Go.Proofs.YtcbolcknapeneaaGreatDoor
set_option linter.unusedSimpArgs false
set_option linter.unusedVariables false
open Go.Fw
set_option maxRecDepth 20000
set_option maxHeartbeats 4000000
attribute [local irreducible] ACalls AMoves
def Qo8 (s:State):Bool:=(((((Q8b s.nodes)&&(Q9b s.jobs))&&(Qbb s.books))&&(Qab s.ledger))&&(decide ((s.resizes.length:Int)<=100)))
theorem law20_Few_c (s:State) (hs0:s.szM):GV 11 [State.a s] (Bo (Qo8 s)):=by
 generalize hR:Qo8 s=R;refine ga (.cons (State.low _ _) .nil) lx (kp 3 []) Tryz.func11 ?_;have hk0:=hs0;obtain ⟨z1,z2,z3,z4,z5,z6,z7⟩:=hs0;refine us (law12_Few_c s.nodes _) ?_;(first|apply u2|apply u3|apply u4|apply us);exact law15_Few_c s.jobs szA _;(first|apply u2|apply u3|apply u4|apply us);exact law19_Few_c s.books _;(first|apply u2|apply u3|apply u4|apply us);exact law17_Few_c s.ledger szA _;obtain rfl:=foll hR rfl;exact Q00 lx sr
theorem u3g {P:Program} {f:FuncId} {args:List AVal} {objs:Objs} {r:AVal} {g:Bool} {K:AVal->Objs->Prop} (h:g=true->ACalls P f args objs fun a b=>a=r∧b=objs) (k:K r objs):∃ r' o',(g=true->ACalls P f args objs (fun a b=>a=r'∧b=o'))∧(g=false->o'=objs)∧K r' o':=⟨r,objs,h,fun _=>rfl,k⟩
theorem Qkc:∀ (l:List Usage) (i:Nat),QR6 l i=true -> ∀ y ∈ l,y.sz
 | [],_,_,y,hy=>nomatch hy
 | x :: r,i,h,y,hy=>by
  rw [QR6] at h
  cases hc:((decide ((ByteArray.size x.user:Int) > 1000))||(decide ((ByteArray.size x.account:Int) > 1000))) with
  | true=>rw [hc] at h;cases h
  | false =>
   rw [hc] at h
   rcases List.mem_cons.1 hy with rfl|hy
   ·simp only [Bool.or_eq_false_iff,decide_eq_false_iff_not] at hc
    exact ⟨by omega,by omega⟩
   ·exact Qkc r (i+1) h y hy
theorem Q81 {j:Job} (h:QP6 j=true):j.sz:=by
 simp only [QP6,Q7b,Bool.and_eq_true,decide_eq_true_eq] at h
 exact ⟨by omega,by omega,by omega,by show j.shape.alts.length<=_;omega,by omega⟩
theorem Qjc:∀ (l:List Job) (i:Nat),QQ6 l i=true -> ∀ y ∈ l,y.sz
 | [],_,_,y,hy=>nomatch hy
 | x :: r,i,h,y,hy=>by
  rw [QQ6] at h
  cases hc:QP6 x with
  | false=>rw [hc] at h;cases h
  | true =>
   rw [hc] at h
   rcases List.mem_cons.1 hy with rfl|hy
   ·exact Q81 hc
   ·exact Qjc r (i+1) h y hy
theorem Q91 {s:State} (h:Qo8 s=true):s.sz:=by
 simp only [Qo8,Q8b,Q9b,Qbb,Qab,Bool.and_eq_true,decide_eq_true_eq] at h
 obtain ⟨⟨⟨⟨h1,h2⟩,h3⟩,h4⟩,h5⟩:=h
 cases hj:decide ((s.jobs.length:Int) > 60) with
 | true=>rw [hj] at h2;cases h2
 | false =>
  cases hl:decide ((s.ledger.length:Int) > 300) with
  | true=>rw [hl] at h4;cases h4
  | false =>
   rw [hj] at h2
   rw [hl] at h4
   have qj:=of_decide_eq_false hj
   have ql:=of_decide_eq_false hl
   exact ⟨by omega,by omega,Qjc _ _ h2,by omega,by omega,by omega,Qkc _ _ h4⟩
def Qu2 (l:List Node):Int:=bif (((decide ((l.length:Int)<1))||(decide ((l.length:Int) > 48)))||(Q52 l (fun (y:Node)=>(!(QH1 y))))) then 120 else 0
theorem QWa (l:List Node) (hs0:l.length<=4294967296):GV 155 [nodeL l] (I (Qu2 l)):=by
 generalize hR:Qu2 l=R;refine ga (.cons lw .nil) lx (kp 3 [14]) Tryz.func155 ?_;have hk0:=hs0;obtain z7:l.length<=4294967296:=hs0;have cl1:∀ (y1:Node),AMoves Tryz.prog 242 [Node.a y1] [] 0 (Bo ((fun (y:Node)=>(!(QH1 y))) y1)) []:=by
  intro y1;have hR:(fun (y:Node)=>(!(QH1 y))) y1=(fun (y:Node)=>(!(QH1 y))) y1:=rfl;refine mo (kp 3 []) Tryz.func242 ?_;refine us (fleet_fine_c y1 _) ?_;refine Qm0 (fun r:Bool=>Bo r) (fun _=>[]) (leaf:=(!(QH1 y1))) (foll hR rfl) ?_;exact tt [] .nil t1
 have hof1:AMoves Tryz.prog 241 [nodeL l,AVal.fn (.func 242) [] []] [] 0 (Bo (Q52 l (fun (y:Node)=>(!(QH1 y))))) []:=by
  have hR:Q52 l (fun (y:Node)=>(!(QH1 y)))=Q52 l (fun (y:Node)=>(!(QH1 y))):=rfl;refine mo (kp 5 []) Tryz.func241 ?_;have hof2:AMoves Tryz.prog 303 [nodeL l,AVal.fn (.func 242) [] []] [] 0 (I (Q62 l (fun (y:Node)=>(!(QH1 y))))) []:=by
   have hR:Q62 l (fun (y:Node)=>(!(QH1 y)))=Q62 l (fun (y:Node)=>(!(QH1 y))):=rfl;refine mo (kp 6 [7,8,9,16]) Tryz.func303 ?_;refine Qc0 (fun (i:Nat)=>Q84 (fun (y:Node)=>(!(QH1 y))) (List.drop i l) i=Q62 l (fun (y:Node)=>(!(QH1 y)))∧i<=l.length) (fun i=>l.length - i) (fun i=>[(0,nodeL l),(1,AVal.fn (.func 242) [] []),(4,I 0),(7,I (l.length:Int)),(8,I (i:Int))]) (fun i=>[]) 0 (wk [] .nil (sl lw (sv (Qq0 (Low.fn _ _ _ LowL.nil LowL.nil)) (s1 (s1 (s1 .nil)))))) ⟨foll hR rfl,by exact omA⟩ ?_;clear hR;rintro i ⟨hR,hj⟩;(try dsimp only at hR hj);refine ai (fun h1=>?_) (fun h2=>?_)
   ·have hlt:=ltA h1;rw [Q90 Node.zero hlt] at hR;refine ai gkA ?_;refine us (mv [] (cl1 (l.getD i Node.zero)) .nil (dl (Node.low _ _) .nil) .nil rx) ?_;refine ai (fun h3=>?_) (fun h4=>?_)
    ·refine Qm0 (fun r:Int=>I r) (fun r:Int=>[]) (leaf:=(i:Int)) (foll hR (ct h3 rfl)) ?_;exact tt [] .nil t1
    ·exact Qi0 (i+1) (wk [] .nil (sl lw (sv (Qq0 (Low.fn _ _ _ LowL.nil LowL.nil)) (s1 (s1 (sv (Q80 (I_eq (wr omA)) lx) .nil)))))) omA ⟨foll hR (cf h4 rfl),by exact omA⟩
   ·rw [Qf0 (l:=l) (j:=i) (geA h2)] at hR;refine Qm0 (fun r:Int=>I r) (fun r:Int=>[]) (leaf:=(-1)) (foll hR rfl) ?_;exact tt [] .nil t1
  refine us (mv [] (hof2) .nil (dl lw (dv (Qs7 (Low.fn _ _ _ LowL.nil LowL.nil)) .nil)) .nil rx) ?_;refine Qm0 (fun r:Bool=>Bo r) (fun r:Bool=>[]) (leaf:=(decide ((Q62 l (fun (y:Node)=>(!(QH1 y)))) >= 0))) (foll hR rfl) ?_;exact tt [] .nil t1
 (first|apply u2|apply u3|apply u4|apply us);exact mv [] (hof1) .nil (dl lw (dv (Qs7 (Low.fn _ _ _ LowL.nil LowL.nil)) .nil)) .nil rx;refine ai (fun h5=>?_) (fun h6=>?_)
 ·obtain rfl:=foll hR (ct h5 rfl);exact Q00 lx sr
 ·obtain rfl:=foll hR (cf h6 rfl);exact Q00 lx sr
def QE1 (ok:Bool):Int:=bif (!ok) then 70 else 0
def QA1 (s:Shape):Int:=bif (s.kind==1) then QE1 (((((s.min==0)&&(s.max==0))&&(s.wall==0))&&((s.alts.length:Int)==1))&&(QV0 (s.alts.getD 0 Alt.zero))) else bif (s.kind==2) then QE1 (((((((s.min==0)&&(s.max==0))&&(s.wall==0))&&(decide ((s.alts.length:Int) >= 1)))&&(decide ((s.alts.length:Int)<=6)))&&(Q15 s.alts))&&(!(QK0 s.alts (fun (y:Alt)=>(!(QV0 y)))))) else bif (s.kind==3) then QE1 (((((s.alts.length:Int)==0)&&(decide (s.min<=s.max)))&&(QV0 (⟨s.min,s.wall⟩:Alt)))&&(decide (s.max<=48))) else QE1 false
theorem Qtb (s:Shape) (hs0:s.sz):GV 138 [Shape.a s] (I (QA1 s)):=by
 generalize hR:QA1 s=R;refine ga (.cons (Shape.low _ _) .nil) lx (kj [1000011] 6 [23,24,38,60,85]) Tryz.func138 ?_;have hk0:=hs0;obtain z13:s.alts.length<=4294967296:=hs0;refine QY0 (fun (ok:Bool)=>QE1 ok=R) (fun ok=>[(2,I 0),(5,Bo ok)]) (fun ok=>[]) ?_ ?_
 ·clear hR;rintro ok hR;(try dsimp only at hR);refine ai (fun h1=>?_) (fun h2=>?_)
  ·obtain rfl:=foll hR (ct h1 rfl);exact Q00 lx sr
  ·obtain rfl:=foll hR (cf h2 rfl);exact Q00 lx sr
 ·refine ai (fun h3=>?_) (fun h4=>?_)
  ·refine ai gkA ?_;(first|apply u2|apply u3|apply u4|apply us);exact QF9 (s.alts.getD 0 Alt.zero) _;exact Q70 (((((s.min==0)&&(s.max==0))&&(s.wall==0))&&((s.alts.length:Int)==1))&&(QV0 (s.alts.getD 0 Alt.zero))) (wk [] .nil (s1 (s1 .nil))) (foll hR (ct h3 rfl))
  ·refine ai (fun h5=>?_) (fun h6=>?_)
   ·(first|apply u2|apply u3|apply u4|apply us);exact shape_apart_c s.alts szA _;have cl1:∀ (y1:Alt),AMoves Tryz.prog 218 [Alt.a y1] [] 0 (Bo ((fun (y:Alt)=>(!(QV0 y))) y1)) []:=by
     intro y1;have hR:(fun (y:Alt)=>(!(QV0 y))) y1=(fun (y:Alt)=>(!(QV0 y))) y1:=rfl;refine mo (kp 3 []) Tryz.func218 ?_;refine us (QF9 y1 _) ?_;refine Qm0 (fun r:Bool=>Bo r) (fun _=>[]) (leaf:=(!(QV0 y1))) (foll hR rfl) ?_;exact tt [] .nil t1
    have hof1:AMoves Tryz.prog 217 [altL s.alts,AVal.fn (.func 218) [] []] [] 0 (Bo (QK0 s.alts (fun (y:Alt)=>(!(QV0 y))))) []:=by
     have hR:QK0 s.alts (fun (y:Alt)=>(!(QV0 y)))=QK0 s.alts (fun (y:Alt)=>(!(QV0 y))):=rfl;refine mo (kp 5 []) Tryz.func217 ?_;have hof2:AMoves Tryz.prog 296 [altL s.alts,AVal.fn (.func 218) [] []] [] 0 (I (QT0 s.alts (fun (y:Alt)=>(!(QV0 y))))) []:=by
      have hR:QT0 s.alts (fun (y:Alt)=>(!(QV0 y)))=QT0 s.alts (fun (y:Alt)=>(!(QV0 y))):=rfl;refine mo (kp 6 [7,8,9,16]) Tryz.func296 ?_;refine Qc0 (fun (i:Nat)=>QR2 (fun (y:Alt)=>(!(QV0 y))) (List.drop i s.alts) i=QT0 s.alts (fun (y:Alt)=>(!(QV0 y)))∧i<=s.alts.length) (fun i=>s.alts.length - i) (fun i=>[(0,altL s.alts),(1,AVal.fn (.func 218) [] []),(4,I 0),(7,I (s.alts.length:Int)),(8,I (i:Int))]) (fun i=>[]) 0 (wk [] .nil (sl lw (sv (Qq0 (Low.fn _ _ _ LowL.nil LowL.nil)) (s1 (s1 (s1 .nil)))))) ⟨foll hR rfl,by exact omA⟩ ?_;clear hR;rintro i ⟨hR,hj⟩;(try dsimp only at hR hj);refine ai (fun h7=>?_) (fun h8=>?_)
      ·have hlt:=ltA h7;rw [Q90 Alt.zero hlt] at hR;refine ai gkA ?_;refine us (mv [] (cl1 (s.alts.getD i Alt.zero)) .nil (dl (Alt.low _ _) .nil) .nil rx) ?_;refine ai (fun h9=>?_) (fun h10=>?_)
       ·refine Qm0 (fun r:Int=>I r) (fun r:Int=>[]) (leaf:=(i:Int)) (foll hR (ct h9 rfl)) ?_;exact tt [] .nil t1
       ·exact Qi0 (i+1) (wk [] .nil (sl lw (sv (Qq0 (Low.fn _ _ _ LowL.nil LowL.nil)) (s1 (s1 (sv (Q80 (I_eq (wr omA)) lx) .nil)))))) omA ⟨foll hR (cf h10 rfl),by exact omA⟩
      ·rw [Qf0 (l:=s.alts) (j:=i) (geA h8)] at hR;refine Qm0 (fun r:Int=>I r) (fun r:Int=>[]) (leaf:=(-1)) (foll hR rfl) ?_;exact tt [] .nil t1
     refine us (mv [] (hof2) .nil (dl lw (dv (Qs7 (Low.fn _ _ _ LowL.nil LowL.nil)) .nil)) .nil rx) ?_;refine Qm0 (fun r:Bool=>Bo r) (fun r:Bool=>[]) (leaf:=(decide ((QT0 s.alts (fun (y:Alt)=>(!(QV0 y)))) >= 0))) (foll hR rfl) ?_;exact tt [] .nil t1
    (first|apply u2|apply u3|apply u4|apply us);exact mv [] (hof1) .nil (dl lw (dv (Qs7 (Low.fn _ _ _ LowL.nil LowL.nil)) .nil)) .nil rx;exact Q70 (((((((s.min==0)&&(s.max==0))&&(s.wall==0))&&(decide ((s.alts.length:Int) >= 1)))&&(decide ((s.alts.length:Int)<=6)))&&(Q15 s.alts))&&(!(QK0 s.alts (fun (y:Alt)=>(!(QV0 y)))))) (wk [] .nil (s1 (s1 .nil))) (foll hR (cf h4 (ct h5 rfl)))
   ·refine ai (fun h11=>?_) (fun h12=>?_)
    ·(first|apply u2|apply u3|apply u4|apply us);exact QF9 (⟨s.min,s.wall⟩:Alt) _;exact Q70 (((((s.alts.length:Int)==0)&&(decide (s.min<=s.max)))&&(QV0 (⟨s.min,s.wall⟩:Alt)))&&(decide (s.max<=48))) (wk [] .nil (s1 (s1 .nil))) (foll hR (cf h4 (cf h6 (ct h11 rfl))))
    ·exact Q70 false (wk [] .nil (s1 (s1 .nil))) (foll hR (cf h4 (cf h6 (cf h12 rfl))))
def Qo1 (r_:LexReader):Token × LexReader:=bif (!(Qj7 ((Q40 r_ (fun (y:Int)=>(((decide (y >= 48))&&(decide (y<=57)))||((decide (y >= 97))&&(decide (y<=122)))))).1))) then ((⟨3,(Q40 r_ (fun (y:Int)=>(((decide (y >= 48))&&(decide (y<=57)))||((decide (y >= 97))&&(decide (y<=122)))))).1,0,0⟩:Token),(Q40 r_ (fun (y:Int)=>(((decide (y >= 48))&&(decide (y<=57)))||((decide (y >= 97))&&(decide (y<=122)))))).2) else bif (!(Qr6 ((Q40 r_ (fun (y:Int)=>(((decide (y >= 48))&&(decide (y<=57)))||((decide (y >= 97))&&(decide (y<=122)))))).1)).2) then ((⟨2,⟨#[]⟩,(Qr6 ((Q40 r_ (fun (y:Int)=>(((decide (y >= 48))&&(decide (y<=57)))||((decide (y >= 97))&&(decide (y<=122)))))).1)).1,0⟩:Token),(QM0 ((Q40 r_ (fun (y:Int)=>(((decide (y >= 48))&&(decide (y<=57)))||((decide (y >= 97))&&(decide (y<=122)))))).2) r_.at_ 50)) else ((⟨2,⟨#[]⟩,(Qr6 ((Q40 r_ (fun (y:Int)=>(((decide (y >= 48))&&(decide (y<=57)))||((decide (y >= 97))&&(decide (y<=122)))))).1)).1,0⟩:Token),(Q40 r_ (fun (y:Int)=>(((decide (y >= 48))&&(decide (y<=57)))||((decide (y >= 97))&&(decide (y<=122)))))).2)
theorem Qdb (r_:LexReader) (hs0:r_.sz) (hp0:0<=r_.at_∧r_.at_<=(r_.line.length:Int)∧r_.line.length<=400):AMoves Tryz.prog 378 [AVal.ptr 0 0 4 0 0] [(0,AObj.row 364 4 [[runes r_.line,I r_.at_,I r_.bad,I r_.error]])] 1 (Token.a ((Qo1 r_).1)) [(0,AObj.row 364 4 [[runes ((Qo1 r_).2.line),I ((Qo1 r_).2.at_),I ((Qo1 r_).2.bad),I ((Qo1 r_).2.error)]])]:=by
 generalize hR:Qo1 r_=R;refine mo (kp 7 [15,24]) Tryz.func378 ?_;have hk0:=hs0;obtain z7:r_.line.length<=4294967296:=hs0;have cl1:∀ (y1:Int),AMoves Tryz.prog 391 [J y1] [] 0 (Bo ((fun (y:Int)=>(((decide (y >= 48))&&(decide (y<=57)))||((decide (y >= 97))&&(decide (y<=122))))) y1)) []:=by
  intro y1;have hR:(fun (y:Int)=>(((decide (y >= 48))&&(decide (y<=57)))||((decide (y >= 97))&&(decide (y<=122))))) y1=(fun (y:Int)=>(((decide (y >= 48))&&(decide (y<=57)))||((decide (y >= 97))&&(decide (y<=122))))) y1:=rfl;refine mo (kp 3 []) Tryz.func391 ?_;refine Qm0 (fun r:Bool=>Bo r) (fun _=>[]) (leaf:=(((decide (y1 >= 48))&&(decide (y1<=57)))||((decide (y1 >= 97))&&(decide (y1<=122))))) (foll hR rfl) ?_;exact tt [] .nil t1
 have hof1:AMoves Tryz.prog 363 [AVal.ptr 0 0 4 0 0,AVal.fn (.func 391) [] []] [(0,AObj.row 364 4 [[runes r_.line,I r_.at_,I r_.bad,I r_.error]])] 1 (Sg ((Q40 r_ (fun (y:Int)=>(((decide (y >= 48))&&(decide (y<=57)))||((decide (y >= 97))&&(decide (y<=122)))))).1)) [(0,AObj.row 364 4 [[runes (((Q40 r_ (fun (y:Int)=>(((decide (y >= 48))&&(decide (y<=57)))||((decide (y >= 97))&&(decide (y<=122)))))).2).line),I (((Q40 r_ (fun (y:Int)=>(((decide (y >= 48))&&(decide (y<=57)))||((decide (y >= 97))&&(decide (y<=122)))))).2).at_),I (((Q40 r_ (fun (y:Int)=>(((decide (y >= 48))&&(decide (y<=57)))||((decide (y >= 97))&&(decide (y<=122)))))).2).bad),I (((Q40 r_ (fun (y:Int)=>(((decide (y >= 48))&&(decide (y<=57)))||((decide (y >= 97))&&(decide (y<=122)))))).2).error)]])]:=by
  have hR:Q40 r_ (fun (y:Int)=>(((decide (y >= 48))&&(decide (y<=57)))||((decide (y >= 97))&&(decide (y<=122)))))=Q40 r_ (fun (y:Int)=>(((decide (y >= 48))&&(decide (y<=57)))||((decide (y >= 97))&&(decide (y<=122))))):=rfl;refine mo (kp 6 [33]) Tryz.func363 ?_;refine Qc0 (fun (c:LexReader)=>∃ m,(Int.toNat ((c.line.length:Int) - c.at_))<m∧Qv0 r_ (Qu0 (fun (y:Int)=>(((decide (y >= 48))&&(decide (y<=57)))||((decide (y >= 97))&&(decide (y<=122))))) m c)=Q40 r_ (fun (y:Int)=>(((decide (y >= 48))&&(decide (y<=57)))||((decide (y >= 97))&&(decide (y<=122)))))∧0<=c.at_∧c.at_<=(c.line.length:Int)∧c.line.length<=400∧r_.at_<=c.at_∧0<=r_.at_) (fun c=>(Int.toNat ((c.line.length:Int) - c.at_))) (fun c=>[(0,AVal.ptr 0 0 4 0 0),(1,AVal.fn (.func 391) [] []),(4,Sg ⟨#[]⟩),(5,I r_.at_)]) (fun c=>[(0,AObj.row 364 4 [[runes c.line,I c.at_,I c.bad,I c.error]])]) r_ (wk [0] (tO rfl (ts LexReader.lo) .nil) (sv (Q10 0 rfl rfl) (sv (Qq0 (Low.fn _ _ _ LowL.nil LowL.nil)) (s1 (s1 .nil))))) ⟨_,Nat.lt_succ_self _,foll hR rfl,by exact exA⟩ ?_;clear hR;rintro c ⟨m,hm,hR,hx⟩;(try dsimp only at hR hm hx);obtain ⟨m,rfl⟩:=sucA m;refine dchk (by kernel_rfl) ?_;refine ai gkA ?_;(first|apply u2|apply u3|apply u4|apply us);exact mv [] (cl1 (c.line.getD (Int.toNat c.at_) 0)) .nil (d1 .nil) .nil rx;(repeat ((first|refine ai rfl ?_|refine ai (fun _=>rfl) ?_)));refine ai (fun h1=>?_) (fun h2=>?_)
  ·have hq1:=of_decide_eq_true ((Bool.and_eq_true _ _).mp h1).1;have hwr:w64 (c.at_+1)=c.at_+1:=wr (by omega);exact Qi0 { c with at_:=(w64 (c.at_+1)) } (wk [0] (tO rfl (ts LexReader.lo) .nil) (sv (Q10 0 rfl rfl) (sv (Qq0 (Low.fn _ _ _ LowL.nil LowL.nil)) (s1 (s1 .nil))))) omA ⟨m,by exact omA,foll hR (congrArg (fun p:LexReader=>Qv0 r_ p) (ct h1 rfl)),by exact exA⟩
  ·replace hR:Qv0 r_ c=Q40 r_ (fun (y:Int)=>(((decide (y >= 48))&&(decide (y<=57)))||((decide (y >= 97))&&(decide (y<=122))))):=fo2 (fun p:LexReader=>Qv0 r_ p) (c) hR (cf h2 rfl);refine dchk (by kernel_rfl) ?_;refine ai gkA ?_;(first|refine ⟨(List.drop (Int.toNat r_.at_) (List.take (Int.toNat c.at_) c.line)),by exact cvA,?_⟩|refine ⟨_,fun _=>⟨(List.drop (Int.toNat r_.at_) (List.take (Int.toNat c.at_) c.line)),by exact cvA,rfl,rfl⟩,?_⟩|refine ⟨_,rfl,⟨(List.drop (Int.toNat r_.at_) (List.take (Int.toNat c.at_) c.line)),by exact cvA,Sub.refl _,rfl⟩,?_⟩);(repeat ((first|refine ai rfl ?_|refine ai (fun _=>rfl) ?_)));refine Qm0 (fun r:ByteArray × LexReader=>Sg r.1) (fun r:ByteArray × LexReader=>[(0,AObj.row 364 4 [[runes r.2.line,I r.2.at_,I r.2.bad,I r.2.error]])]) (leaf:=((runesBytes (List.drop (Int.toNat r_.at_) (List.take (Int.toNat c.at_) c.line))),c)) (foll hR rfl) ?_;exact tt [0] (tO rfl (ts LexReader.lo) .nil) t1
 refine us (mv [0] (hof1) (dO (ds LexReader.lo) .nil) (dp (dv (Qs7 (Low.fn _ _ _ LowL.nil LowL.nil)) .nil)) (rO (re LexReader.lo) .nil) rx) ?_;refine us (Qmc ((Q40 r_ (fun (y:Int)=>(((decide (y >= 48))&&(decide (y<=57)))||((decide (y >= 97))&&(decide (y<=122)))))).1) (by first|(exact Qj9 _ _ hp0.2.2)|exact szA) _) ?_;refine ai (fun h3=>?_) (fun h4=>?_)
 ·obtain rfl:=foll hR (ct h3 rfl);exact rq (tt [0] (tO rfl (ts LexReader.lo) .nil) (Qq0 (Low.agg' (Token.lo))))
 ·refine us (lex_number_c ((Q40 r_ (fun (y:Int)=>(((decide (y >= 48))&&(decide (y<=57)))||((decide (y >= 97))&&(decide (y<=122)))))).1) (by first|(exact Qj9 _ _ hp0.2.2)|exact szA) _) ?_;refine ai (fun h5=>?_) (fun h6=>?_)
  ·refine us (mv [0] (Q93 ((Q40 r_ (fun (y:Int)=>(((decide (y >= 48))&&(decide (y<=57)))||((decide (y >= 97))&&(decide (y<=122)))))).2) r_.at_ 50) (dO (ds LexReader.lo) .nil) (dp (d1 (d1 .nil))) (rO (re LexReader.lo) .nil) rx) ?_;obtain rfl:=foll hR (cf h4 (ct h5 rfl));exact rq (tt [0] (tO rfl (ts LexReader.lo) .nil) (Qq0 (Low.agg' (Token.lo))))
  ·obtain rfl:=foll hR (cf h4 (cf h6 rfl));exact rq (tt [0] (tO rfl (ts LexReader.lo) .nil) (Qq0 (Low.agg' (Token.lo))))
attribute [local irreducible] QD0
def Qx3 :List (Nat × Int)->Bool->List Int->ByteArray × Int
 | [],held,buf=>bif held then (⟨#[]⟩,50) else ((Qq2 buf),0)
 | x_ :: r,held,buf=>bif ((held&&(x_.2 != 34))&&(x_.2 != 92)) then bif ((held&&(x_.2 != 34))&&(x_.2 != 92)) then (⟨#[]⟩,50) else bif ((!held)&&(x_.2==92)) then Qx3 r true buf else Qx3 r false (QD0 buf x_.2) else bif ((!held)&&(x_.2==34)) then (⟨#[]⟩,50) else bif ((!held)&&(x_.2==92)) then Qx3 r true buf else Qx3 r false (QD0 buf x_.2)
def QP2 (s:ByteArray):ByteArray × Int:=bif ((Qp4 s).2 != 0) then (⟨#[]⟩,(Qp4 s).2) else bif (((decide ((ByteArray.size s:Int)<2))||(((s.data.toList.getD 0 0).toNat:Int)!=34))||(((s.data.toList.getD (Int.toNat (w64 ((ByteArray.size s:Int) - 1))) 0).toNat:Int)!=34)) then (⟨#[]⟩,50) else Qx3 (QI6 (s.extract 1 (Int.toNat (w64 ((ByteArray.size s:Int) - 1))))) false []
theorem b3a1 {P:Prop} (h:P:=by first|(have hsz:=extract_size s 1 (Int.toNat (w64 ((ByteArray.size s:Int) - 1)));refine ⟨?_,?_,?_⟩ <;> (try dsimp only) <;> first|omega|with_reducible exact QK9|with_reducible exact hx.2.2|with_reducible exact byteIn_rune _ _ hx.2.2|exact Nat.le_trans (QDa _ _) (by omega)|(simp;done))|exact exA):P:=h
theorem QE9 (s:ByteArray) (hs0:s.size<=4294967296) (hp0:ByteArray.size s<=1000000):GV 395 [Sg s] (AVal.tup [Sg ((QP2 s).1),I ((QP2 s).2)]):=by
 generalize hR:QP2 s=R;refine ga (l1 .nil) (Low.tup' (l1 (l1 .nil))) (kp 10 [16,33,39,40,41,43,59,68]) Tryz.func395 ?_;have hk0:=hs0;obtain z19:s.size<=4294967296:=hs0;have hw0:w64 ((ByteArray.size s:Int) - 1)=(ByteArray.size s:Int) - 1:=wr (by omega);refine us (Qsb s szA _) ?_;refine ai (fun h1=>?_) (fun h2=>?_)
 ·obtain rfl:=foll hR (ct h1 rfl);exact Q00 (Low.tup' (l1 (l1 .nil))) (Seen.tup (e1 (e1 .nil)))
 ·refine ai gkA ?_;refine ai gkA ?_;refine ai (fun h3=>?_) (fun h4=>?_)
  ·obtain rfl:=foll hR (cf h2 (ct h3 rfl));exact Q00 (Low.tup' (l1 (l1 .nil))) (Seen.tup (e1 (e1 .nil)))
  ·refine ai gkA ?_;refine QA7 (fun (held:Bool) (buf:List Int) (pos:Nat)=>∃ m,ByteArray.size (s.extract 1 (Int.toNat (w64 ((ByteArray.size s:Int) - 1)))) - pos<=m∧Qx3 (QZ3 (s.extract 1 (Int.toNat (w64 ((ByteArray.size s:Int) - 1)))) m pos) held buf=R∧buf.length<=4*pos∧pos<=ByteArray.size s∧QL6 buf) (fun held buf pos=>ByteArray.size (s.extract 1 (Int.toNat (w64 ((ByteArray.size s:Int) - 1)))) - pos) (fun held buf pos=>[(2,Sg ⟨#[]⟩),(3,I 0),(6,AVal.ptr 0 0 2 0 0),(7,Bo held),(39,AVal.ptr 1 0 1 0 0)]) (fun held buf pos=>[(0,AObj.row 384 2 [[AVal.sel 0 0 2 0 0,AVal.buf 2 0 1 buf.length]]),(0,AObj.other (.strIter (s.extract 1 (Int.toNat (w64 ((ByteArray.size s:Int) - 1)))) pos)),(0,AObj.row 5 1 (buf.map (fun q_=>[Y q_])))]) false [] 0 ((QD1 5 1).trans (wk [0,1,2] (tO rfl (Qd0 (cv (turn_selnil) (cv (turn_nilbuf 2 rfl) .nil))) (tO rfl (.strIter _ _) (tO rfl (tl eqA) .nil))) (s1 (s1 (sv (Q10 0 rfl rfl) (s1 (sv (Q10 1 rfl rfl) .nil))))))) ⟨ByteArray.size (s.extract 1 (Int.toNat (w64 ((ByteArray.size s:Int) - 1)))),by exact omA,foll hR (cf h2 (cf h4 rfl)),b3a1⟩ ?_;clear hR;rintro held buf pos ⟨m,hm,hR,hx⟩;(try dsimp only at hR hm hx);refine ai (fun h5=>?_) (fun h6=>?_)
   ·have hlt:=of_decide_eq_true h5;have hw:=Qf7 (s.extract 1 (Int.toNat (w64 ((ByteArray.size s:Int) - 1)))) pos;have hwe:=Qe7 (s.extract 1 (Int.toNat (w64 ((ByteArray.size s:Int) - 1)))) pos hlt;obtain ⟨m,rfl⟩:=sucA m;rw [QT2 h5] at hR;refine ai (fun _=>?_) (fun h=>nomatch h);refine ai (fun h7=>?_) (fun h8=>?_)
    ·refine ai (fun h9=>?_) (fun h10=>?_)
     ·obtain rfl:=foll hR (ct h7 (ct h9 rfl));exact Q00 (Low.tup' (l1 (l1 .nil))) (Seen.tup (e1 (e1 .nil)))
     ·refine ai (fun h11=>?_) (fun h12=>?_)
      ·exact Qp3 true buf (pos+(Utf8.decode (s.extract 1 (Int.toNat (w64 ((ByteArray.size s:Int) - 1)))) pos).2) (wk [0,1,2] (tO rfl (Qd0 (cv (turn_sel 0 rfl rfl) (cv (turn_buf 2 rfl rfl) .nil))) (tO rfl (.strIter _ _) (tO rfl (tl eqA) .nil))) (s1 (s1 (sv (Q10 0 rfl rfl) (s1 (sv (Q10 1 rfl rfl) .nil)))))) omA ⟨m,by exact omA,foll hR (ct h7 (cf h10 (ct h11 rfl))),b3a1⟩
      ·refine us (mv [0,2] (Q7d buf ((pos,((Utf8.decode (s.extract 1 (Int.toNat (w64 ((ByteArray.size s:Int) - 1)))) pos).1:Int)).2) szA) (dO (dc (dv (dn_sel rfl) (dv (dn_buf rfl) .nil))) (dO (dr eqA) .nil)) (dp (d1 .nil)) (rO (rc (rv (rp 0 0 rfl) (rv (rw_ 3 0 rfl) .nil))) (rO rr .nil)) (Ren.low _ (Low.tup' (l1 (l1 .nil))))) ?_;exact Qp3 false (QD0 buf (pos,((Utf8.decode (s.extract 1 (Int.toNat (w64 ((ByteArray.size s:Int) - 1)))) pos).1:Int)).2) (pos+(Utf8.decode (s.extract 1 (Int.toNat (w64 ((ByteArray.size s:Int) - 1)))) pos).2) (wk [0,1,3] (tO rfl (Qd0 (cv (QCa 0 rfl rfl) (cv (Qre 2 rfl rfl lnA (by first|with_reducible exact Q58 _ _|(simp;done)|grind)) .nil))) (tO rfl (.strIter _ _) (tO rfl (tl eqA) .nil))) (s1 (s1 (sv (Q10 0 rfl rfl) (s1 (sv (Q10 1 rfl rfl) .nil)))))) omA ⟨m,by exact omA,foll hR (ct h7 (cf h10 (cf h12 rfl))),b3a1⟩
    ·refine ai (fun h13=>?_) (fun h14=>?_)
     ·obtain rfl:=foll hR (cf h8 (ct h13 rfl));exact Q00 (Low.tup' (l1 (l1 .nil))) (Seen.tup (e1 (e1 .nil)))
     ·refine ai (fun h15=>?_) (fun h16=>?_)
      ·exact Qp3 true buf (pos+(Utf8.decode (s.extract 1 (Int.toNat (w64 ((ByteArray.size s:Int) - 1)))) pos).2) (wk [0,1,2] (tO rfl (Qd0 (cv (turn_sel 0 rfl rfl) (cv (turn_buf 2 rfl rfl) .nil))) (tO rfl (.strIter _ _) (tO rfl (tl eqA) .nil))) (s1 (s1 (sv (Q10 0 rfl rfl) (s1 (sv (Q10 1 rfl rfl) .nil)))))) omA ⟨m,by exact omA,foll hR (cf h8 (cf h14 (ct h15 rfl))),b3a1⟩
      ·refine us (mv [0,2] (Q7d buf ((pos,((Utf8.decode (s.extract 1 (Int.toNat (w64 ((ByteArray.size s:Int) - 1)))) pos).1:Int)).2) szA) (dO (dc (dv (dn_sel rfl) (dv (dn_buf rfl) .nil))) (dO (dr eqA) .nil)) (dp (d1 .nil)) (rO (rc (rv (rp 0 0 rfl) (rv (rw_ 3 0 rfl) .nil))) (rO rr .nil)) (Ren.low _ (Low.tup' (l1 (l1 .nil))))) ?_;exact Qp3 false (QD0 buf (pos,((Utf8.decode (s.extract 1 (Int.toNat (w64 ((ByteArray.size s:Int) - 1)))) pos).1:Int)).2) (pos+(Utf8.decode (s.extract 1 (Int.toNat (w64 ((ByteArray.size s:Int) - 1)))) pos).2) (wk [0,1,3] (tO rfl (Qd0 (cv (QCa 0 rfl rfl) (cv (Qre 2 rfl rfl lnA (by first|with_reducible exact Q58 _ _|(simp;done)|grind)) .nil))) (tO rfl (.strIter _ _) (tO rfl (tl eqA) .nil))) (s1 (s1 (sv (Q10 0 rfl rfl) (s1 (sv (Q10 1 rfl rfl) .nil)))))) omA ⟨m,by exact omA,foll hR (cf h8 (cf h14 (cf h16 rfl))),b3a1⟩
   ·rw [Q35 h6] at hR;refine ai (fun h=>nomatch h) (fun _=>?_);refine ai (fun h17=>?_) (fun h18=>?_)
    ·obtain rfl:=foll hR (ct h17 rfl);exact Q00 (Low.tup' (l1 (l1 .nil))) (Seen.tup (e1 (e1 .nil)))
    ·refine us (mv [0,2] (String_c buf (by first|(with_reducible exact hx.2.2)|first|assumption|exact QK9|grind) szA) (dO (dc (dv (dn_any) (dv (dn_bufbuf rfl) .nil))) (dO (dr eqA) .nil)) (dp .nil) (rO (re (.cons Low.any (.cons Low.any .nil))) .nil) rx) ?_;obtain rfl:=foll hR (cf h18 rfl);exact Q00 (Low.tup' (l1 (l1 .nil))) (Seen.tup (e1 (e1 .nil)))
def QV4 (l:List Usage):List Usage->Nat->Int
 | [],_=>0
 | x_ :: r,i=>bif ((((((!(QE5 x_.user))||(!(QE5 x_.account)))||(x_.used != (Qs5 x_.used)))||(decide (x_.share<0)))||(decide (x_.share > x_.used)))||((decide ((i:Int) > 0))&&(decide ((QS6 (l.getD (Int.toNat (w64 ((i:Int) - 1))) Usage.zero) x_) >= 0)))) then 2 else QV4 l r (i+1)
def Q94 (l:List Usage):Int:=bif (decide ((l.length:Int) > 200)) then 2 else QV4 l l 0
theorem Q9a (l:List Usage) (hs0:l.length<=4294967296∧(∀ y ∈ l,y.sz)):GV 60 [QU1 l] (I (Q94 l)):=by
 generalize hR:Q94 l=R;refine ga (.cons lw .nil) lx (kp 5 [7,8,9,10,11,58]) Tryz.func60 ?_;obtain ⟨z9,z10⟩:=id hs0;refine ai (fun h1=>?_) (fun h2=>?_)
 ·have qh1:=of_decide_eq_true h1;obtain rfl:=foll hR (ct h1 rfl);exact Q00 lx sr
 ·have qh2:=of_decide_eq_false h2;refine Qc0 (fun (i:Nat)=>QV4 l (List.drop i l) i=R∧i<=l.length) (fun i=>l.length - i) (fun i=>[(0,QU1 l),(2,I 0),(8,QU1 l),(9,I (l.length:Int)),(10,I (i:Int))]) (fun i=>[]) 0 (wk [] .nil (sl lw (s1 (sl lw (s1 (s1 .nil)))))) ⟨foll hR (cf h2 rfl),by exact omA⟩ ?_;clear hR;rintro i ⟨hR,hj⟩;(try dsimp only at hR hj);refine ai (fun h3=>?_) (fun h4=>?_)
  ·have hlt:=ltA h3;rw [Q90 Usage.zero hlt] at hR;have hxz:(l.getD i Usage.zero).sz:=Qy0 (by first|assumption|grind) (Usage.szz _);have hkz:=hxz;obtain ⟨z5,z6⟩:=Usage.zz hxz;refine ai gkA ?_;refine dchk (by kernel_rfl) ?_;(first|apply u2|apply u3|apply u4|apply us);exact Q77 ((l.getD i Usage.zero).user) _;(first|apply u2|apply u3|apply u4|apply us);exact Q77 ((l.getD i Usage.zero).account) _;(first|apply u2|apply u3|apply u4|apply us);exact QU8 ((l.getD i Usage.zero).used) _;refine ai gkA ?_;(first|apply u2|apply u3|apply u4|apply us);exact Qba (l.getD (Int.toNat (w64 ((i:Int) - 1))) Usage.zero) (l.getD i Usage.zero) szA szA _;(repeat ((first|refine ai rfl ?_|refine ai (fun _=>rfl) ?_|refine ai (fun _=>Q77 ((l.getD i Usage.zero).user) _) ?_|refine ai (fun _=>Q77 ((l.getD i Usage.zero).account) _) ?_|refine ai (fun _=>QU8 ((l.getD i Usage.zero).used) _) ?_|refine ai (fun _=>Qba (l.getD (Int.toNat (w64 ((i:Int) - 1))) Usage.zero) (l.getD i Usage.zero) szA szA _) ?_)));refine ai (fun h7=>?_) (fun h8=>?_)
   ·obtain rfl:=foll hR (ct h7 rfl);exact Q00 lx sr
   ·exact Qi0 (i+1) (wk [] .nil (sl lw (s1 (sl lw (s1 (sv (Q80 (I_eq (wr omA)) lx) .nil)))))) omA ⟨foll hR (cf h8 rfl),by exact omA⟩
  ·rw [Qf0 (l:=l) (j:=i) (geA h4)] at hR;obtain rfl:=foll hR rfl;exact Q00 lx sr
def Qg3 (p_:List Step) (from_:Int) (latest:Int) (grace:Int) (options1:List Alt):List Alt->Int->Int->Bool->Nat->Int × Int × Bool
 | [],choice,start,found,_=>(choice,start,found)
 | x_ :: r,choice,start,found,i=>bif ((!(QW3 x_.wall x_.nodes))||(decide ((max grace 0) > (w64 (1000000 - x_.wall))))) then Qg3 p_ from_ latest grace options1 r choice start found (i+1) else bif ((!((QB2 p_ from_ (w64 (x_.wall+(max grace 0))) x_.nodes).2&&(decide ((QB2 p_ from_ (w64 (x_.wall+(max grace 0))) x_.nodes).1<=latest))))||(found&&(decide ((w64 ((QB2 p_ from_ (w64 (x_.wall+(max grace 0))) x_.nodes).1+x_.wall)) >= (w64 (start+(options1.getD (Int.toNat choice) Alt.zero).wall)))))) then Qg3 p_ from_ latest grace options1 r choice start found (i+1) else Qg3 p_ from_ latest grace options1 r (i:Int) ((QB2 p_ from_ (w64 (x_.wall+(max grace 0))) x_.nodes).1) true (i+1)
def QT4 (choice:Int) (start:Int) (found:Bool):Int × Int × Bool:=(choice,start,found)
def Qw7 (p_:List Step) (from_:Int) (latest:Int) (grace:Int) (options1:List Alt):Int × Int × Bool:=QT4 ((Qg3 p_ from_ latest grace options1 options1 0 0 false 0).1) ((Qg3 p_ from_ latest grace options1 options1 0 0 false 0).2.1) ((Qg3 p_ from_ latest grace options1 options1 0 0 false 0).2.2)
def Ql3 (p_:List Step) (options:List Alt) (from_:Int) (latest:Int) (grace:Int):Int × Int × Bool:=bif (decide ((options.length:Int) > 48)) then Qw7 p_ from_ latest grace (List.take 48 options) else Qw7 p_ from_ latest grace options
theorem b3a0 {P:Prop} (h:P:=by first|((exact hx))|first|((exact fun h=>absurd h (by decide)))|first|((exact fun _=>⟨by omega,by omega⟩))|exact exA):P:=h
theorem QO9 (p_:List Step) (options:List Alt) (from_:Int) (latest:Int) (grace:Int) (hs0:p_.length<=4294967296) (hs1:options.length<=4294967296):GV 46 [stepL p_,altL options,I from_,I latest,I grace] (AVal.tup [I ((Ql3 p_ options from_ latest grace).1),I ((Ql3 p_ options from_ latest grace).2.1),Bo ((Ql3 p_ options from_ latest grace).2.2)]):=by
 generalize hR:Ql3 p_ options from_ latest grace=R;refine ga (.cons lw (.cons lw (l1 (l1 (l1 .nil))))) (Low.tup' (l1 (l1 (l1 .nil)))) (kj [1000003] 21 [23,29,30,31,32,60]) Tryz.func46 ?_;have hk0:=hs0;obtain z9:p_.length<=4294967296:=hs0;have hk1:=hs1;obtain z10:options.length<=4294967296:=hs1;refine QY0 (fun (options1:List Alt)=>Qw7 p_ from_ latest grace options1=R∧options1.length<=4294967296) (fun options1=>[(1,altL options1),(5,AVal.ptr 0 0 1 0 0),(7,AVal.ptr 1 0 1 0 0),(8,AVal.ptr 2 0 1 0 0),(9,AVal.ptr 3 0 1 0 0),(10,I 0),(11,I 0),(12,Bo false)]) (fun options1=>[(0,AObj.row 85 1 [[stepL p_]]),(0,AObj.row 3 1 [[I from_]]),(0,AObj.row 3 1 [[I latest]]),(0,AObj.row 3 1 [[I grace]])]) ?_ ?_
 ·clear hR;rintro options1 ⟨hR,hx⟩;(try dsimp only at hR hx);refine QVd (fun (choice:Int) (start:Int) (found:Bool) (i:Nat)=>QT4 (Qg3 p_ from_ latest grace options1 (List.drop i options1) choice start found i).1 (Qg3 p_ from_ latest grace options1 (List.drop i options1) choice start found i).2.1 (Qg3 p_ from_ latest grace options1 (List.drop i options1) choice start found i).2.2=R∧i<=options1.length∧(found=true->0<=choice∧choice<(options1.length:Int))) (fun choice start found i=>options1.length - i) (fun choice start found i=>[(1,altL options1),(10,I 0),(11,I 0),(12,Bo false),(13,AVal.fn (.func 131) [] [AVal.ptr 3 0 1 0 0,AVal.ptr 0 0 1 0 0,AVal.ptr 1 0 1 0 0,AVal.ptr 2 0 1 0 0]),(14,I choice),(15,I start),(16,Bo found),(29,altL options1),(30,I (options1.length:Int)),(31,I (i:Int))]) (fun choice start found i=>[(0,AObj.row 85 1 [[stepL p_]]),(0,AObj.row 3 1 [[I from_]]),(0,AObj.row 3 1 [[I latest]]),(0,AObj.row 3 1 [[I (max grace 0)]])]) 0 0 false 0 (wk [0,1,2,3] (tO rfl (ts (lv lw LowL.nil)) (tO rfl (ts (l1 LowL.nil)) (tO rfl (ts (l1 LowL.nil)) (tO rfl (ts (l1 LowL.nil)) .nil)))) (sl lw (s1 (s1 (s1 (sv (QH0 .nil (cv (Q10 3 rfl rfl) (cv (Q10 0 rfl rfl) (cv (Q10 1 rfl rfl) (cv (Q10 2 rfl rfl) .nil))))) (s1 (s1 (s1 (sl lw (s1 (s1 .nil)))))))))))) ⟨foll hR rfl,by exact omA,b3a0⟩ ?_;clear hR;rintro choice start found i ⟨hR,hj,hx⟩;(try dsimp only at hR hj hx);refine ai (fun h1=>?_) (fun h2=>?_)
  ·have hlt:=ltA h1;rw [Q90 Alt.zero hlt] at hR;refine And.intro (by first|exact fun hg=>decide_eq_true (by first|((have q:=(Bool.and_eq_true_iff.1 hg).2;have q2:=hx q;omega))|exact ckA)|exact gkA) ?_;refine ACalls.of_cwp (fun _=>true) Tryz.func131 rfl rfl ?_;refine us (QPb ((options1.getD i Alt.zero).wall) ((options1.getD i Alt.zero).nodes) _) ?_;refine ai (fun h3=>?_) (fun h4=>?_)
   ·refine ⟨_,_,Told.refl,?_⟩;refine dchk (by kernel_rfl) ?_;refine ai (fun hg=>nomatch (show false=true from hg)) ?_;(repeat ((first|refine ai rfl ?_|refine ai (fun _=>rfl) ?_)));refine ai (fun _=>?_) (fun h=>nomatch h);exact Qk7 choice start found (i+1) (wk [0,1,2,3] (tO rfl (ts (lv lw LowL.nil)) (tO rfl (ts (l1 LowL.nil)) (tO rfl (ts (l1 LowL.nil)) (tO rfl (ts (l1 LowL.nil)) .nil)))) (sl lw (s1 (s1 (s1 (sv (QH0 .nil (cv (Q10 3 rfl rfl) (cv (Q10 0 rfl rfl) (cv (Q10 1 rfl rfl) (cv (Q10 2 rfl rfl) .nil))))) (s1 (s1 (s1 (sl lw (s1 (sv (Q80 (I_eq (wr omA)) lx) .nil)))))))))))) omA ⟨foll hR (congrArg (fun p:Int × Int × Bool=>QT4 p.1 p.2.1 p.2.2) (ct h3 rfl)),by exact omA,b3a0⟩
   ·refine us (fit_Earliest_c p_ from_ (w64 ((options1.getD i Alt.zero).wall+(max grace 0))) ((options1.getD i Alt.zero).nodes) szA _) ?_;refine dchk (by kernel_rfl) ?_;(repeat ((first|refine ai rfl ?_|refine ai (fun _=>rfl) ?_)));refine ⟨_,_,Told.refl,?_⟩;refine dchk (by kernel_rfl) ?_;refine And.intro (by first|exact fun hg=>decide_eq_true (by first|((have q:=(Bool.and_eq_true_iff.1 hg).2;have q2:=hx q;omega))|exact ckA)|exact gkA) ?_;(repeat ((first|refine ai rfl ?_|refine ai (fun _=>rfl) ?_)));refine ai (fun h5=>?_) (fun h6=>?_)
    ·exact Qk7 choice start found (i+1) (wk [0,1,2,3] (tO rfl (ts (lv lw LowL.nil)) (tO rfl (ts (l1 LowL.nil)) (tO rfl (ts (l1 LowL.nil)) (tO rfl (ts (l1 LowL.nil)) .nil)))) (sl lw (s1 (s1 (s1 (sv (QH0 .nil (cv (Q10 3 rfl rfl) (cv (Q10 0 rfl rfl) (cv (Q10 1 rfl rfl) (cv (Q10 2 rfl rfl) .nil))))) (s1 (s1 (s1 (sl lw (s1 (sv (Q80 (I_eq (wr omA)) lx) .nil)))))))))))) omA ⟨foll hR (congrArg (fun p:Int × Int × Bool=>QT4 p.1 p.2.1 p.2.2) (cf h4 (ct h5 rfl))),by exact omA,b3a0⟩
    ·exact Qk7 (i:Int) ((QB2 p_ from_ (w64 ((options1.getD i Alt.zero).wall+(max grace 0))) (options1.getD i Alt.zero).nodes).1) true (i+1) (wk [0,1,2,3] (tO rfl (ts (lv lw LowL.nil)) (tO rfl (ts (l1 LowL.nil)) (tO rfl (ts (l1 LowL.nil)) (tO rfl (ts (l1 LowL.nil)) .nil)))) (sl lw (s1 (s1 (s1 (sv (QH0 .nil (cv (Q10 3 rfl rfl) (cv (Q10 0 rfl rfl) (cv (Q10 1 rfl rfl) (cv (Q10 2 rfl rfl) .nil))))) (s1 (s1 (s1 (sl lw (s1 (sv (Q80 (I_eq (wr omA)) lx) .nil)))))))))))) omA ⟨foll hR (congrArg (fun p:Int × Int × Bool=>QT4 p.1 p.2.1 p.2.2) (cf h4 (cf h6 rfl))),by exact omA,b3a0⟩
  ·rw [Qf0 (l:=options1) (j:=i) (geA h2)] at hR;replace hR:QT4 choice start found=R:=fo2 (fun p:Int × Int × Bool=>QT4 p.1 p.2.1 p.2.2) (choice,start,found) hR rfl;obtain rfl:=foll hR rfl;exact Q00 (Low.tup' (l1 (l1 (l1 .nil)))) (Seen.tup (e1 (e1 (e1 .nil))))
 ·refine ai (fun h7=>?_) (fun h8=>?_)
  ·have qh7:=of_decide_eq_true h7;refine And.intro (by first|exact fun hg=>decide_eq_true (by first|((have q:=(Bool.and_eq_true_iff.1 hg).2;have q2:=hx q;omega))|exact ckA)|exact gkA) ?_;exact Q70 (List.take 48 options) (wk [0,1,2,3] (tO rfl (ts (lv lw LowL.nil)) (tO rfl (ts (l1 LowL.nil)) (tO rfl (ts (l1 LowL.nil)) (tO rfl (ts (l1 LowL.nil)) .nil)))) (sv (turn_as (as_take options 48 (by first|((have q:=(Bool.and_eq_true_iff.1 hg).2;have q2:=hx q;omega))|exact ckA)) lw) (sv (Q10 0 rfl rfl) (sv (Q10 1 rfl rfl) (sv (Q10 2 rfl rfl) (sv (Q10 3 rfl rfl) (s1 (s1 (s1 .nil))))))))) (⟨foll hR (ct h7 rfl),b3a0⟩)
  ·have qh8:=of_decide_eq_false h8;exact Q70 options (wk [0,1,2,3] (tO rfl (ts (lv lw LowL.nil)) (tO rfl (ts (l1 LowL.nil)) (tO rfl (ts (l1 LowL.nil)) (tO rfl (ts (l1 LowL.nil)) .nil)))) (sl lw (sv (Q10 0 rfl rfl) (sv (Q10 1 rfl rfl) (sv (Q10 2 rfl rfl) (sv (Q10 3 rfl rfl) (s1 (s1 (s1 .nil))))))))) (⟨foll hR (cf h8 rfl),b3a0⟩)
def Qc1 (t:Taken) (from_:Int) (to_:Int) (n:Int):Taken:=bif ((decide (to_<=from_))||(n==0)) then t else bif ((QZ1 t.p from_ to_ (w64 (0 - n))).2==0) then (⟨(QZ1 t.p from_ to_ (w64 (0 - n))).1⟩:Taken) else t
theorem Qy6 (t:Taken) (from_:Int) (to_:Int) (n:Int) (hs0:t.sz):AMoves Tryz.prog 136 [AVal.ptr 0 0 1 0 0,I from_,I to_,I n] [(0,AObj.row 185 1 [[stepL t.p]])] 1 (AVal.tup []) [(0,AObj.row 185 1 [[stepL ((Qc1 t from_ to_ n).p)]])]:=by
 generalize hR:Qc1 t from_ to_ n=R;refine mo (kp 10 [16,30]) Tryz.func136 ?_;have hk0:=hs0;obtain z5:t.p.length<=4294967296:=hs0;refine ai (fun h1=>?_) (fun h2=>?_)
 ·obtain rfl:=foll hR (ct h1 rfl);exact rq (tt [0] (tO rfl (ts Taken.lo) .nil) t1)
 ·refine us (Qib t.p from_ to_ (w64 (0 - n)) szA _) ?_;refine ai (fun h3=>?_) (fun h4=>?_)
  ·obtain rfl:=foll hR (cf h2 (ct h3 rfl));exact rq (tt [0] (tO rfl (ts Taken.lo) .nil) t1)
  ·obtain rfl:=foll hR (cf h2 (cf h4 rfl));exact rq (tt [0] (tO rfl (ts Taken.lo) .nil) t1)
theorem Q09 {t:Taken} {f g n:Int} (h:t.p.length<=4294967296):(Qc1 t f g n).p.length<=4294967296:=by
 unfold Qc1
 repeat' first|exact h|exact Qo9 _ _ _ _ h|(rw [Bool.cond_eq_ite];split)
theorem flat_len (n:Int):(Qn2 n).length<=4294967296:=by simp [Qn2]
def QYc (p_:List Step) (at_:Int) (long:Int) (nodes:Int):Bool:=bif ((((Qu1 p_)!=0)||(!(QW3 long nodes)))||(!(Qh7 at_ 0 (w64 (1000000 - long))))) then false else (decide ((Qz0 p_ at_ (w64 (at_+long))) >= nodes))
theorem fit_Fits_c (p_:List Step) (at_:Int) (long:Int) (nodes:Int) (hs0:p_.length<=4294967296):GV 87 [stepL p_,I at_,I long,I nodes] (Bo (QYc p_ at_ long nodes)):=by
 generalize hR:QYc p_ at_ long nodes=R;refine ga (.cons lw (l1 (l1 (l1 .nil)))) lx (kp 9 [24]) Tryz.func87 ?_;have hk0:=hs0;obtain z3:p_.length<=4294967296:=hs0;refine us (QW4 p_ szA _) ?_;(first|apply u2|apply u3|apply u4|apply us);exact QPb long nodes _;(first|apply u2|apply u3|apply u4|apply us);exact Qb9 at_ 0 (w64 (1000000 - long)) _;refine ai (fun h1=>?_) (fun h2=>?_)
 ·obtain rfl:=foll hR (ct h1 rfl);exact Q00 lx sr
 ·refine us (Qp9 p_ at_ (w64 (at_+long)) szA _) ?_;obtain rfl:=foll hR (cf h2 rfl);exact Q00 lx sr
def Qt3 (s:ByteArray):Nat->List Int->Int->(List Int) × Int
 | 0,_,_=>([],0)
 | m+1,out,i=>bif (decide (i<(w64 ((ByteArray.size s:Int) - 1)))) then bif ((((s.data.toList.getD (Int.toNat i) 0).toNat:Int)==92)&&(decide ((w64 (i+1))<(w64 ((ByteArray.size s:Int) - 1))))) then Qt3 s m (out++([((s.data.toList.getD (Int.toNat (w64 (i+1))) 0).toNat:Int)]:List Int)) (w64 ((w64 (i+1))+1)) else Qt3 s m (out++([((s.data.toList.getD (Int.toNat i) 0).toNat:Int)]:List Int)) (w64 (i+1)) else (out,i)
def Qu3 (s:ByteArray) (out:List Int) (i:Int):ByteArray × Int:=bif (((QG7 (Qq2 out)).2 != 0)||(!(ByteArray.toList (QG7 (Qq2 out)).1==ByteArray.toList s))) then (⟨#[]⟩,50) else ((Qq2 out),0)
def Qc5 (s:ByteArray):ByteArray × Int:=bif ((Qi3 s).2 != 0) then (⟨#[]⟩,(Qi3 s).2) else Qu3 s ((Qt3 s ((Int.toNat ((w64 ((ByteArray.size s:Int) - 1)) - 1))+1) [] 1).1) ((Qt3 s ((Int.toNat ((w64 ((ByteArray.size s:Int) - 1)) - 1))+1) [] 1).2)
theorem Q8e (s:ByteArray) (hs0:s.size<=4294967296):GV 387 [Sg s] (AVal.tup [Sg ((Qc5 s).1),I ((Qc5 s).2)]):=by
 generalize hR:Qc5 s=R;refine ga (l1 .nil) (Low.tup' (l1 (l1 .nil))) (kp 10 [16,22,36,57]) Tryz.func387 ?_;have hk0:=hs0;obtain z9:s.size<=4294967296:=hs0;refine us (QL8 s szA _) ?_;refine ai (fun h1=>?_) (fun h2=>?_)
 ·obtain rfl:=foll hR (ct h1 rfl);exact Q00 (Low.tup' (l1 (l1 .nil))) (Seen.tup (e1 (e1 .nil)))
 ·refine Qh0 (fun (out:List Int) (i:Int)=>∃ m,(Int.toNat ((w64 ((ByteArray.size s:Int) - 1)) - i))<m∧Qu3 s (Qt3 s m out i).1 (Qt3 s m out i).2=R∧1<=i∧i<=(ByteArray.size s:Int)+1∧(out.length:Int)+1<=i) (fun out i=>(Int.toNat ((w64 ((ByteArray.size s:Int) - 1)) - i))) (fun out i=>[(0,Sg s),(2,Sg ⟨#[]⟩),(3,I 0),(6,AVal.own 0 0 1 0 out.length),(7,I i)]) (fun out i=>[(0,AObj.row 5 1 (out.map (fun q_=>[Y q_])))]) [] 1 ((QD1 5 1).trans (wk [0] (tO rfl (tl eqA) .nil) (s1 (s1 (s1 (sv (Qj1 0 rfl) (s1 .nil))))))) ⟨_,Nat.lt_succ_self _,foll hR (cf h2 rfl),by exact exA⟩ ?_;clear hR;rintro out i ⟨m,hm,hR,hx⟩;(try dsimp only at hR hm hx);obtain ⟨m,rfl⟩:=sucA m;refine ai (fun h3=>?_) (fun h4=>?_)
  ·have qh3:=of_decide_eq_true h3;have hq1:i<w64 ((ByteArray.size s:Int) - 1):=of_decide_eq_true h3;have hw0:w64 ((ByteArray.size s:Int) - 1)=(ByteArray.size s:Int) - 1:=wr (by omega);rw [hw0] at hq1;have hw1:w64 (i+1)=i+1:=wr (by omega);have hw2:w64 (i+1+1)=i+1+1:=wr (by omega);refine ai gkA ?_;refine ai (fun h5=>?_) (fun h6=>?_)
   ·refine ai gkA ?_;refine Or.inl ?_;(first|refine ⟨Qa2 1 rfl lnA apA,?_⟩|refine ⟨Qd1 1 rfl apA,?_⟩);exact Q60 (out++([((s.data.toList.getD (Int.toNat (w64 (i+1))) 0).toNat:Int)]:List Int)) (w64 ((w64 (i+1))+1)) (wk [0] (tO rfl (tl eqA) .nil) (s1 (s1 (s1 (sv (to 0 lnA) (s1 .nil)))))) omA ⟨m,by exact omA,foll hR (congrArg (fun p:(List Int) × Int=>Qu3 s p.1 p.2) (ct h3 (ct h5 rfl))),by exact exA⟩
   ·refine ai gkA ?_;refine Or.inl ?_;(first|refine ⟨Qa2 1 rfl lnA apA,?_⟩|refine ⟨Qd1 1 rfl apA,?_⟩);exact Q60 (out++([((s.data.toList.getD (Int.toNat i) 0).toNat:Int)]:List Int)) (w64 (i+1)) (wk [0] (tO rfl (tl eqA) .nil) (s1 (s1 (s1 (sv (to 0 lnA) (s1 .nil)))))) omA ⟨m,by exact omA,foll hR (congrArg (fun p:(List Int) × Int=>Qu3 s p.1 p.2) (ct h3 (cf h6 rfl))),by exact exA⟩
  ·have qh4:=of_decide_eq_false h4;replace hR:Qu3 s out i=R:=fo2 (fun p:(List Int) × Int=>Qu3 s p.1 p.2) (out,i) hR (cf h4 rfl);(first|refine ⟨out,by exact cvA,?_⟩|refine ⟨_,fun _=>⟨out,by exact cvA,rfl,rfl⟩,?_⟩|refine ⟨_,rfl,⟨out,by exact cvA,Sub.refl _,rfl⟩,?_⟩);refine us (ref04_Quote_c (Qq2 out) szA _) ?_;refine ai (fun h7=>?_) (fun h8=>?_)
   ·obtain rfl:=foll hR (ct h7 rfl);exact Q00 (Low.tup' (l1 (l1 .nil))) (Seen.tup (e1 (e1 .nil)))
   ·(first|refine ⟨out,by exact cvA,?_⟩|refine ⟨_,fun _=>⟨out,by exact cvA,rfl,rfl⟩,?_⟩|refine ⟨_,rfl,⟨out,by exact cvA,Sub.refl _,rfl⟩,?_⟩);obtain rfl:=foll hR (cf h8 rfl);exact Q00 (Low.tup' (l1 (l1 .nil))) (Seen.tup (e1 (e1 .nil)))
def Q42 (s:Shape) (choice:Int):Int:=bif ((decide (choice<0))||(decide (choice >= ((Q50 s).length:Int)))) then 0 else ((Q50 s).getD (Int.toNat choice) Alt.zero).wall
theorem QBc (s:Shape) (choice:Int) (hs0:s.sz):GV 230 [Shape.a s,I choice] (I (Q42 s choice)):=by
 generalize hR:Q42 s choice=R;refine ga (.cons (Shape.low _ _) (l1 .nil)) lx (kp 6 [15]) Tryz.func230 ?_;have hk0:=hs0;obtain z3:s.alts.length<=4294967296:=hs0;have hf0:=Qd5 s hk0;refine us (Q44 s szA _) ?_;refine ai (fun h1=>?_) (fun h2=>?_)
 ·obtain rfl:=foll hR (ct h1 rfl);exact Q00 lx sr
 ·refine ai gkA ?_;obtain rfl:=foll hR (cf h2 rfl);exact Q00 lx sr
def QX4 (s:Shape) (choice:Int) (n:Int):List Alt->Nat->Bool
 | [],_=>false
 | x_ :: r,i=>bif ((x_.nodes==n)&&(((i:Int)==choice)||(s.kind==3))) then true else QX4 s choice n r (i+1)
def QT6 (s:Shape) (choice:Int) (n:Int):Bool:=bif ((decide (choice<0))||(decide (choice >= ((Q50 s).length:Int)))) then false else QX4 s choice n (Q50 s) 0
theorem ref07_Allows_c (s:Shape) (choice:Int) (n:Int) (hs0:s.sz):GV 232 [Shape.a s,I choice,I n] (Bo (QT6 s choice n)):=by
 generalize hR:QT6 s choice n=R;refine ga (.cons (Shape.low _ _) (l1 (l1 .nil))) lx (kp 9 [18,22,41]) Tryz.func232 ?_;have hk0:=hs0;obtain z7:s.alts.length<=4294967296:=hs0;have hf0:=Qd5 s hk0;refine us (Q44 s szA _) ?_;refine ai (fun h1=>?_) (fun h2=>?_)
 ·obtain rfl:=foll hR (ct h1 rfl);exact Q00 lx sr
 ·refine Qc0 (fun (i:Nat)=>QX4 s choice n (List.drop i (Q50 s)) i=R∧i<=(Q50 s).length) (fun i=>(Q50 s).length - i) (fun i=>[(1,I choice),(2,I n),(3,AVal.ptr 0 0 5 0 0),(6,Bo false),(7,altL (Q50 s)),(8,I (i:Int))]) (fun i=>[(0,AObj.row 31 5 [[I s.kind,altL s.alts,I s.min,I s.max,I s.wall]])]) 0 (wk [0] (tO rfl (ts Shape.lo) .nil) (s1 (s1 (sv (Q10 0 rfl rfl) (s1 (sl lw (s1 .nil))))))) ⟨foll hR (cf h2 rfl),by exact omA⟩ ?_;clear hR;rintro i ⟨hR,hj⟩;(try dsimp only at hR hj);refine ai (fun h3=>?_) (fun h4=>?_)
  ·have hlt:=ltA h3;rw [Q90 Alt.zero hlt] at hR;refine ai gkA ?_;refine ai (fun h5=>?_) (fun h6=>?_)
   ·obtain rfl:=foll hR (ct h5 rfl);exact Q00 lx sr
   ·exact Qi0 (i+1) (wk [0] (tO rfl (ts Shape.lo) .nil) (s1 (s1 (sv (Q10 0 rfl rfl) (s1 (sl lw (sv (Q80 (I_eq (wr omA)) lx) .nil))))))) omA ⟨foll hR (cf h6 rfl),by exact omA⟩
  ·rw [Qf0 (l:=(Q50 s)) (j:=i) (geA h4)] at hR;obtain rfl:=foll hR rfl;exact Q00 lx sr
def Q20 (j:Job):Int × Int × Int × Bool:=bif ((j.state != 1)||(j.promise==(-1))) then (0,0,0,false) else (j.promise,(w64 (((Q50 j.shape).getD (Int.toNat j.choice) Alt.zero).wall+12)),((Q50 j.shape).getD (Int.toNat j.choice) Alt.zero).nodes,true)
theorem Qy9 (j:Job) (hs0:j.sz) (hp0:((j.state != 1)||(j.promise==(-1)))=false->0<=j.choice∧j.choice<((Q50 j.shape).length:Int)):GV 57 [Job.a j] (AVal.tup [I ((Q20 j).1),I ((Q20 j).2.1),I ((Q20 j).2.2.1),Bo ((Q20 j).2.2.2)]):=by
 generalize hR:Q20 j=R;refine ga (.cons (Job.low _ _) .nil) (Low.tup' (l1 (l1 (l1 (l1 .nil))))) (kp 7 [14]) Tryz.func57 ?_;obtain ⟨z3,z4,z5,z6,z7⟩:=Job.zz hs0;refine ai (fun h1=>?_) (fun h2=>?_)
 ·obtain rfl:=foll hR (ct h1 rfl);exact Q00 (Low.tup' (l1 (l1 (l1 (l1 .nil))))) (Seen.tup (e1 (e1 (e1 (e1 .nil)))))
 ·refine dchk (by kernel_rfl) ?_;(first|apply u2|apply u3|apply u4|apply us);exact Q44 j.shape szA _;refine And.intro (by first|exact fun hg=>decide_eq_true (by first|((have q:=hp0 (by assumption);omega))|exact ckA)|exact gkA) ?_;(repeat ((first|refine ai rfl ?_|refine ai (fun _=>rfl) ?_|refine ai (fun _=>Q44 j.shape szA _) ?_)));(try (refine dchk (by kernel_rfl) ?_));(repeat ((first|refine ai rfl ?_|refine ai (fun _=>rfl) ?_)));obtain rfl:=foll hR (cf h2 rfl);exact Q00 (Low.tup' (l1 (l1 (l1 (l1 .nil))))) (Seen.tup (e1 (e1 (e1 (e1 .nil)))))
def QN1 (p_:List Step) (from_:Int) (to_:Int) (n:Int):(List Step):=bif ((QS1 p_ from_ to_ (w64 (0 - n))).2 != 0) then p_ else (QS1 p_ from_ to_ (w64 (0 - n))).1
theorem Q08 (p_:List Step) (from_:Int) (to_:Int) (n:Int) (hs0:p_.length<=4294967296):GV 152 [stepL p_,I from_,I to_,I n] (stepL (QN1 p_ from_ to_ n)):=by
 generalize hR:QN1 p_ from_ to_ n=R;refine ga (.cons lw (l1 (l1 (l1 .nil)))) lw (kp 11 [21]) Tryz.func152 ?_;have hk0:=hs0;obtain z3:p_.length<=4294967296:=hs0;refine us (ref10_Add_c p_ from_ to_ (w64 (0 - n)) szA _) ?_;refine ai (fun h1=>?_) (fun h2=>?_)
 ·obtain rfl:=foll hR (ct h1 rfl);exact Q00 lw sr
 ·obtain rfl:=foll hR (cf h2 rfl);exact Q00 lw sr
theorem ref10_Add_len (p:List Step) (f t n:Int):(QS1 p f t n).1.length<=4294967296:=by
 have k2:∀ c i,(QD2 c i).1.length<=4294967296:=by
  intro c i
  unfold QD2
  cases h:((QF0 c)!=0) with
  | true=>simp
  | false=>have:=Q86 h;simp only [cond_false];omega
 unfold QS1 QT5
 repeat' first|exact k2 _ _|(simp;done)|(rw [Bool.cond_eq_ite];split)
theorem Q46 {p:List Step} {f t n:Int} (h:p.length<=4294967296):(QN1 p f t n).length<=4294967296:=by
 unfold QN1
 repeat' first|exact h|exact ref10_Add_len _ _ _ _|(rw [Bool.cond_eq_ite];split)
theorem QB9 (n:Int):(QG4 n).length<=4294967296:=by
 unfold QG4 Q96
 repeat' first|(simp;done)|(rw [Bool.cond_eq_ite];split)
end Go.Proofs.YtcbolcknapeneaaGreatDoor
namespace Go.Proofs.YtcbolcknapeneaaGreatDoor
set_option linter.unusedSimpArgs false
set_option linter.unusedVariables false
open Go.Fw
set_option maxRecDepth 20000
set_option maxHeartbeats 4000000
attribute [local irreducible] ACalls AMoves
def Q54 (p_:List Step) (long:Int) (nodes:Int) (from_1:Int):List Step->Nat->Int × Bool
 | [],_=>(0,false)
 | x_ :: r,i=>bif ((decide (x_.at_ > from_1))&&(QI2 p_ x_.at_ long nodes)) then (x_.at_,true) else Q54 p_ long nodes from_1 r (i+1)
def Qe5 (p_:List Step) (long:Int) (nodes:Int) (from_1:Int):Int × Bool:=bif (QI2 p_ from_1 long nodes) then (from_1,true) else Q54 p_ long nodes from_1 p_ 0
def Qf1 (p_:List Step) (from_:Int) (long:Int) (nodes:Int):Int × Bool:=bif (decide (from_<0)) then Qe5 p_ long nodes 0 else Qe5 p_ long nodes from_
theorem QQc (p_:List Step) (from_:Int) (long:Int) (nodes:Int) (hs0:p_.length<=4294967296):GV 234 [stepL p_,I from_,I long,I nodes] (AVal.tup [I ((Qf1 p_ from_ long nodes).1),Bo ((Qf1 p_ from_ long nodes).2)]):=by
 generalize hR:Qf1 p_ from_ long nodes=R;refine ga (.cons lw (l1 (l1 (l1 .nil)))) (Low.tup' (l1 (l1 .nil))) (kj [1000003] 11 [12,17,22,42]) Tryz.func234 ?_;have hk0:=hs0;obtain z9:p_.length<=4294967296:=hs0;refine QY0 (fun (from_1:Int)=>Qe5 p_ long nodes from_1=R) (fun from_1=>[(0,stepL p_),(1,I from_1),(2,I long),(3,I nodes),(8,I 0),(9,Bo false)]) (fun from_1=>[]) ?_ ?_
 ·clear hR;rintro from_1 hR;(try dsimp only at hR);refine us (QAc p_ from_1 long nodes szA _) ?_;refine ai (fun h1=>?_) (fun h2=>?_)
  ·obtain rfl:=foll hR (ct h1 rfl);exact Q00 (Low.tup' (l1 (l1 .nil))) (Seen.tup (e1 (e1 .nil)))
  ·refine Qc0 (fun (i:Nat)=>Q54 p_ long nodes from_1 (List.drop i p_) i=R∧i<=p_.length) (fun i=>p_.length - i) (fun i=>[(0,stepL p_),(1,I from_1),(2,I long),(3,I nodes),(8,I 0),(9,Bo false),(10,I (i:Int))]) (fun i=>[]) 0 (wk [] .nil (sl lw (s1 (s1 (s1 (s1 (s1 (s1 .nil)))))))) ⟨foll hR (cf h2 rfl),by exact omA⟩ ?_;clear hR;rintro i ⟨hR,hj⟩;(try dsimp only at hR hj);refine ai (fun h3=>?_) (fun h4=>?_)
   ·have hlt:=ltA h3;rw [Q90 Step.zero hlt] at hR;refine ai gkA ?_;refine ai gkA ?_;(first|apply u2|apply u3|apply u4|apply us);exact QAc p_ ((p_.getD i Step.zero).at_) long nodes szA _;refine ai (fun h5=>?_) (fun h6=>?_)
    ·refine ai gkA ?_;obtain rfl:=foll hR (ct h5 rfl);exact Q00 (Low.tup' (l1 (l1 .nil))) (Seen.tup (e1 (e1 .nil)))
    ·exact Qi0 (i+1) (wk [] .nil (sl lw (s1 (s1 (s1 (s1 (s1 (sv (Q80 (I_eq (wr omA)) lx) .nil)))))))) omA ⟨foll hR (cf h6 rfl),by exact omA⟩
   ·rw [Qf0 (l:=p_) (j:=i) (geA h4)] at hR;obtain rfl:=foll hR rfl;exact Q00 (Low.tup' (l1 (l1 .nil))) (Seen.tup (e1 (e1 .nil)))
 ·refine ai (fun h7=>?_) (fun h8=>?_)
  ·have qh7:=of_decide_eq_true h7;exact Q70 0 (wk [] .nil (sl lw (s1 (s1 (s1 (s1 (s1 .nil))))))) (foll hR (ct h7 rfl))
  ·have qh8:=of_decide_eq_false h8;exact Q70 from_ (wk [] .nil (sl lw (s1 (s1 (s1 (s1 (s1 .nil))))))) (foll hR (cf h8 rfl))
end Go.Proofs.YtcbolcknapeneaaGreatDoor
namespace Go.Proofs.YtcbolcknapeneaaGreatDoor
set_option linter.unusedSimpArgs false
set_option linter.unusedVariables false
open Go.Fw
set_option maxRecDepth 20000
set_option maxHeartbeats 4000000
attribute [local irreducible] ACalls AMoves
def QM1 :Nat->LexReader->Bool->LexReader × Bool
 | 0,_,_=>(LexReader.zero,false)
 | m+1,c,c2=>bif ((decide (c.at_<(c.line.length:Int)))&&(Qa1 (c.line.getD (Int.toNat c.at_) 0) c2).1) then QM1 m { c with at_:=(w64 (c.at_+1)) } (bif (decide (c.at_<(c.line.length:Int))) then (Qa1 (c.line.getD (Int.toNat c.at_) 0) c2).2 else c2) else (c,(bif (decide (c.at_<(c.line.length:Int))) then (Qa1 (c.line.getD (Int.toNat c.at_) 0) c2).2 else c2))
def Qd2 (r_:LexReader) (c:LexReader) (c2:Bool):Token × LexReader:=bif (c.at_==(c.line.length:Int)) then (Token.zero,(QM0 c r_.at_ 50)) else bif ((c.line.getD (Int.toNat c.at_) 0)!=34) then (Token.zero,(QM0 c c.at_ 40)) else bif ((QP2 (runesBytes (List.drop (Int.toNat r_.at_) (List.take (Int.toNat (w64 (c.at_+1))) c.line)))).2 != 0) then ((⟨4,(QP2 (runesBytes (List.drop (Int.toNat r_.at_) (List.take (Int.toNat (w64 (c.at_+1))) c.line)))).1,0,0⟩:Token),(QM0 { c with at_:=(w64 (c.at_+1)) } r_.at_ ((QP2 (runesBytes (List.drop (Int.toNat r_.at_) (List.take (Int.toNat (w64 (c.at_+1))) c.line)))).2))) else ((⟨4,(QP2 (runesBytes (List.drop (Int.toNat r_.at_) (List.take (Int.toNat (w64 (c.at_+1))) c.line)))).1,0,0⟩:Token),{ c with at_:=(w64 (c.at_+1)) })
def Qz1 (r_:LexReader):Token × LexReader:=Qd2 r_ ((QM1 ((Int.toNat ((r_.line.length:Int) - r_.at_))+1) r_ true).1) ((QM1 ((Int.toNat ((r_.line.length:Int) - r_.at_))+1) r_ true).2)
theorem QUb (r_:LexReader) (hs0:r_.sz) (hp0:0<=r_.at_∧r_.at_<(r_.line.length:Int)∧r_.line.length<=400):AMoves Tryz.prog 379 [AVal.ptr 0 0 4 0 0] [(0,AObj.row 364 4 [[runes r_.line,I r_.at_,I r_.bad,I r_.error]])] 1 (Token.a ((Qz1 r_).1)) [(0,AObj.row 364 4 [[runes ((Qz1 r_).2.line),I ((Qz1 r_).2.at_),I ((Qz1 r_).2.bad),I ((Qz1 r_).2.error)]])]:=by
 generalize hR:Qz1 r_=R;refine mo (kp 7 [23,38,69]) Tryz.func379 ?_;have hk0:=hs0;obtain z9:r_.line.length<=4294967296:=hs0;refine ACalls.of_cwp (fun _=>true) Tryz.func363 rfl rfl ?_;refine Qh0 (fun (c:LexReader) (c2:Bool)=>∃ m,(Int.toNat ((c.line.length:Int) - c.at_))<m∧Qd2 r_ (QM1 m c c2).1 (QM1 m c c2).2=R∧0<=c.at_∧c.at_<=(c.line.length:Int)∧c.line.length<=400∧r_.at_<=c.at_∧0<=r_.at_) (fun c c2=>(Int.toNat ((c.line.length:Int) - c.at_))) (fun c c2=>[(0,AVal.ptr 0 0 4 0 0),(1,AVal.fn (.func 394) [] [AVal.ptr 2 0 1 0 0]),(4,Sg ⟨#[]⟩),(5,I r_.at_)]) (fun c c2=>[(0,AObj.row 364 4 [[runes c.line,I c.at_,I c.bad,I c.error]]),(0,AObj.row 309 4 [[I 0,Sg ⟨#[]⟩,I 0,I 0]]),(0,AObj.row 4 1 [[Bo c2]])]) r_ true (wk [0,1,2] (tO rfl (ts LexReader.lo) (tO rfl (ts Token.lo) (tO rfl (ts (l1 LowL.nil)) .nil))) (sv (Q10 0 rfl rfl) (sv (QH0 .nil (cv (Q10 2 rfl rfl) .nil)) (s1 (s1 .nil))))) ⟨_,Nat.lt_succ_self _,foll hR rfl,by exact exA⟩ ?_;clear hR;rintro c c2 ⟨m,hm,hR,hx⟩;(try dsimp only at hR hm hx);obtain ⟨m,rfl⟩:=sucA m;refine dchk (by kernel_rfl) ?_;refine ai gkA ?_;refine ⟨_,[(0,AObj.row 364 4 [[runes c.line,I c.at_,I c.bad,I c.error]]),(0,AObj.row 309 4 [[I 0,Sg ⟨#[]⟩,I 0,I 0]]),(0,AObj.row 4 1 [[Bo (bif (decide (c.at_<(c.line.length:Int))) then (Qa1 (c.line.getD (Int.toNat c.at_) 0) c2).2 else c2)]])],fun hg=>(by rw [show (decide (c.at_<(c.line.length:Int)))=true from hg];exact mv [2] (Q0a (c.line.getD (Int.toNat c.at_) 0) c2) (dO (ds (l1 LowL.nil)) .nil) (d1 (dp .nil)) (rO (re (l1 LowL.nil)) .nil) rx),fun hg=>(by rw [show (decide (c.at_<(c.line.length:Int)))=false from hg];rfl),?_⟩;(repeat ((first|refine ai rfl ?_|refine ai (fun _=>rfl) ?_)));refine ai (fun h1=>?_) (fun h2=>?_)
 ·have hq1:=of_decide_eq_true ((Bool.and_eq_true _ _).mp h1).1;have hwr:w64 (c.at_+1)=c.at_+1:=wr (by omega);exact Q60 { c with at_:=(w64 (c.at_+1)) } (bif (decide (c.at_<(c.line.length:Int))) then (Qa1 (c.line.getD (Int.toNat c.at_) 0) c2).2 else c2) (wk [0,1,2] (tO rfl (ts LexReader.lo) (tO rfl (ts Token.lo) (tO rfl (ts (l1 LowL.nil)) .nil))) (sv (Q10 0 rfl rfl) (sv (QH0 .nil (cv (Q10 2 rfl rfl) .nil)) (s1 (s1 .nil))))) omA ⟨m,by exact omA,foll hR (congrArg (fun p:LexReader × Bool=>Qd2 r_ p.1 p.2) (ct h1 rfl)),by exact exA⟩
 ·replace hR:Qd2 r_ c (bif (decide (c.at_<(c.line.length:Int))) then (Qa1 (c.line.getD (Int.toNat c.at_) 0) c2).2 else c2)=R:=fo2 (fun p:LexReader × Bool=>Qd2 r_ p.1 p.2) (c,(bif (decide (c.at_<(c.line.length:Int))) then (Qa1 (c.line.getD (Int.toNat c.at_) 0) c2).2 else c2)) hR (cf h2 rfl);refine dchk (by kernel_rfl) ?_;refine ai gkA ?_;(first|refine ⟨(List.drop (Int.toNat r_.at_) (List.take (Int.toNat c.at_) c.line)),by exact cvA,?_⟩|refine ⟨_,fun _=>⟨(List.drop (Int.toNat r_.at_) (List.take (Int.toNat c.at_) c.line)),by exact cvA,rfl,rfl⟩,?_⟩|refine ⟨_,rfl,⟨(List.drop (Int.toNat r_.at_) (List.take (Int.toNat c.at_) c.line)),by exact cvA,Sub.refl _,rfl⟩,?_⟩);(repeat ((first|refine ai rfl ?_|refine ai (fun _=>rfl) ?_)));refine ⟨_,_,Told.refl,?_⟩;refine dchk (by kernel_rfl) ?_;(repeat ((first|refine ai rfl ?_|refine ai (fun _=>rfl) ?_)));refine ai (fun h3=>?_) (fun h4=>?_)
  ·refine us (mv [0] (Q93 c r_.at_ 50) (dO (ds LexReader.lo) .nil) (dp (d1 (d1 .nil))) (rO (re LexReader.lo) .nil) rx) ?_;obtain rfl:=foll hR (ct h3 rfl);exact rq (tt [0] (tO rfl (ts LexReader.lo) .nil) (Qq0 (Low.agg' (Token.lo))))
  ·refine dchk (by kernel_rfl) ?_;refine ai gkA ?_;(repeat ((first|refine ai rfl ?_|refine ai (fun _=>rfl) ?_)));refine ai (fun h5=>?_) (fun h6=>?_)
   ·refine us (mv [0] (Q93 c c.at_ 40) (dO (ds LexReader.lo) .nil) (dp (d1 (d1 .nil))) (rO (re LexReader.lo) .nil) rx) ?_;obtain rfl:=foll hR (cf h4 (ct h5 rfl));exact rq (tt [0] (tO rfl (ts LexReader.lo) .nil) (Qq0 (Low.agg' (Token.lo))))
   ·refine dchk (by kernel_rfl) ?_;refine ai gkA ?_;(first|refine ⟨(List.drop (Int.toNat r_.at_) (List.take (Int.toNat (w64 (c.at_+1))) c.line)),by exact cvA,?_⟩|refine ⟨_,fun _=>⟨(List.drop (Int.toNat r_.at_) (List.take (Int.toNat (w64 (c.at_+1))) c.line)),by exact cvA,rfl,rfl⟩,?_⟩|refine ⟨_,rfl,⟨(List.drop (Int.toNat r_.at_) (List.take (Int.toNat (w64 (c.at_+1))) c.line)),by exact cvA,Sub.refl _,rfl⟩,?_⟩);(first|apply u2|apply u3|apply u4|apply us);exact QE9 (runesBytes (List.drop (Int.toNat r_.at_) (List.take (Int.toNat (w64 (c.at_+1))) c.line))) szA (by refine Nat.le_trans (Qf6 _) ?_;simp only [List.length_drop,List.length_take];omega) _;(repeat ((first|refine ai rfl ?_|refine ai (fun _=>rfl) ?_|refine ai (fun _=>QE9 (runesBytes (List.drop (Int.toNat r_.at_) (List.take (Int.toNat (w64 (c.at_+1))) c.line))) szA (by refine Nat.le_trans (Qf6 _) ?_;simp only [List.length_drop,List.length_take];omega) _) ?_)));refine ai (fun h7=>?_) (fun h8=>?_)
    ·refine us (mv [0] (Q93 { c with at_:=(w64 (c.at_+1)) } r_.at_ ((QP2 (runesBytes (List.drop (Int.toNat r_.at_) (List.take (Int.toNat (w64 (c.at_+1))) c.line)))).2)) (dO (ds LexReader.lo) .nil) (dp (d1 (d1 .nil))) (rO (re LexReader.lo) .nil) rx) ?_;obtain rfl:=foll hR (cf h4 (cf h6 (ct h7 rfl)));exact rq (tt [0] (tO rfl (ts LexReader.lo) .nil) (Qq0 (Low.agg' (Token.lo))))
    ·obtain rfl:=foll hR (cf h4 (cf h6 (cf h8 rfl)));exact rq (tt [0] (tO rfl (ts LexReader.lo) .nil) (Qq0 (Low.agg' (Token.lo))))
def Q25 (min max wall:Int):List Alt:=(List.range (max - min+1).toNat).map fun (i:Nat)=>(⟨max - (i:Int),wall⟩:Alt)
def Qk0 (s:Shape):List Alt:=bif QA1 s != 0 then [] else bif s.kind==3 then s.alts++Q25 s.min s.max s.wall else s.alts
theorem QM7 {s:Shape} (h:(QA1 s != 0)=false) (hk:(s.kind==3)=true):1<=s.min∧s.min<=s.max∧s.max<=48:=by
 have hk':s.kind=3:=by simpa using hk
 simp only [QA1,hk'] at h
 revert h
 cases h2:(((((s.alts.length:Int)==0)&&(decide (s.min<=s.max)))&&(QV0 (⟨s.min,s.wall⟩:Alt)))&&(decide (s.max<=48))) with
 | false=>simp [h2,QE1]
 | true =>
  intro _
  simp [QV0] at h2
  omega
theorem Qne (lo hi wall:Int):((Q65 hi (hi - lo+1).toNat).map fun (n:Int)=>(⟨n,wall⟩:Alt))=Q25 lo hi wall:=by
 simp [Q65,Q25,List.map_map,Function.comp_def]
theorem QG2 (s:Shape) (hs0:s.sz):GV 48 [Shape.a s] (altL (Qk0 s)):=by
 generalize hR:Qk0 s=R;refine ga (.cons (Shape.low _ _) .nil) lw (kp 4 [7,13,18]) Tryz.func48 ?_;have hk0:=hs0;obtain z7:s.alts.length<=4294967296:=hs0;refine us (Qtb s szA _) ?_;refine ai (fun h1=>?_) (fun h2=>?_)
 ·obtain rfl:=foll hR (ct h1 rfl);exact Q00 lw Qs0
 ·refine us (mv [] (Qvb s.alts szA) .nil (dv (Qs7 (Alt.lows _ _)) .nil) (rO rr .nil) (rw_ 1 0 rfl)) ?_;refine ai (fun h3=>?_) (fun h4=>?_)
  ·refine us (r:=.fn (.func 219) [] [.ptr 4 0 1 0 0,.ptr 3 0 1 0 0]) (o:=[(0,.row 31 5 [[I s.kind,altL s.alts,I s.min,I s.max,I s.wall]]),(0,.row 179 2 (s.alts.map Alt.cells)),(0,.row 29 1 [[.own 1 0 2 0 s.alts.length]]),(0,.row 3 1 [[I s.min]]),(0,.row 3 1 [[I s.max]])]) (ACalls.of_cwp (fun _=>true) Tryz.func140 rfl rfl ?_) ?_
   ·exact ⟨_,_,Qqe,rfl,rfl⟩
   obtain ⟨q1,q2,q3⟩:=QM7 h2 h3;refine range_next (α:=Int) (fun n=>.int .i64 n) (Q65 s.max (s.max - s.min+1).toNat) (fun xs=>[(0,.row 31 5 [[I s.kind,altL s.alts,I s.min,I s.max,I s.wall]]),(0,.row 179 2 ((s.alts++xs.map fun (n:Int)=>(⟨n,s.wall⟩:Alt)).map Alt.cells)),(0,.row 29 1 [[.own 1 0 2 0 (s.alts++xs.map fun (n:Int)=>(⟨n,s.wall⟩:Alt)).length]]),(0,.row 3 1 [[I s.min]]),(0,.row 3 1 [[I s.max]])])
    (by simp) (by decide) (by decide) rfl rfl rfl rfl ?_ ?_ (by decide) ?_ ?_
   ·intro xs q hq _;simp only [List.mem_cons,List.not_mem_nil,or_false] at hq;rcases hq with rfl|rfl|rfl|rfl|rfl <;> exact ⟨_,_,_,rfl⟩
   ·intro K a w hs;have hv:=Qge (hs.slot 18);obtain ⟨c1,c2⟩:=box_cell (o:=4) hs.mem rfl;obtain ⟨c3,c4⟩:=box_cell (o:=3) hs.mem rfl;refine ⟨219,#[.pointer (some ⟨K.ρ 4 0,0,none⟩),.pointer (some ⟨K.ρ 3 0,0,none⟩)],⟨K.ρ 3 0,0,none⟩,.int .i64 s.min,hv,?_,c4,?_,?_⟩
    ·intro args w;simp [go_sem]
    ·intro K1 xs W hs1;have hv1:=Qge (hs1.slot 18);have e:K1.ρ 3 0=K.ρ 3 0:=by
      have:=hv1.symm.trans hv;exact (by simpa using this:K1.ρ 4 0=K.ρ 4 0∧K1.ρ 3 0=K.ρ 3 0).2
     rw [← e];exact (box_cell (o:=3) hs1.mem rfl).1
    ·rw [Qt7];exact sizes_stops 2 (by decide) _ _ s.min s.max w q1 q2 q3 c2 c4 c1 c3
   ·intro xs x hlen;rw [Qt7] at hlen;refine Or.inl ?_;refine ⟨Qa2 16 rfl lnA (by simp;omega),?_⟩;exact wk [0,1,2,3,4] (tO rfl (ts Shape.lo) (tO rfl (QDb (by simp only [List.map_append,List.append_assoc];rfl) (QB7 fun _=>Alt.lowc _ _)) (tO rfl (Qd0 (.cons _ _ _ _ (to 1 (by simp [List.length_append];omega)) .nil)) (tO rfl (ts (l1 .nil)) (tO rfl (ts (l1 .nil)) .nil)))))
     (sv (QH0 .nil (.cons _ _ _ _ (Q10 4 rfl rfl) (.cons _ _ _ _ (Q10 3 rfl rfl) .nil))) (s1 (sv (Q10 2 rfl rfl) (s1 (s1 (sv (Q10 0 rfl rfl) (sl (Shape.low _ _) .nil)))))))
   ·have e:Qk0 s=s.alts++(Q65 s.max (s.max - s.min+1).toNat).map fun (n:Int)=>(⟨n,s.wall⟩:Alt):=by
     rw [Qne];exact cf h2 (ct h3 rfl)
    obtain rfl:=foll hR e;exact Q00 lw (Ql1 Alt.zero _ rfl rfl rfl)
  ·obtain rfl:=foll hR (cf h2 (cf h4 rfl));exact Q00 lw (Ql1 Alt.zero _ rfl eqA lnA)
theorem Qt8 (s:Shape) (h:s.sz):(Qk0 s).length<=4294967296:=by
 unfold Qk0
 cases h1:(QA1 s != 0) with
 | true=>simp
 | false =>
  cases hk:(s.kind==3) with
  | false=>exact h
  | true =>
   obtain ⟨a,b,c⟩:=QM7 h1 hk
   have hz:s.alts.length=0:=by
    have hk':s.kind=3:=by simpa using hk
    simp only [QA1,hk'] at h1
    revert h1
    cases h2:(((((s.alts.length:Int)==0)&&(decide (s.min<=s.max)))&&(QV0 (⟨s.min,s.wall⟩:Alt)))&&(decide (s.max<=48))) with
    | false=>simp [h2,QE1]
    | true =>
     intro _
     simp at h2
     simp [h2.1.1.1]
   simp only [cond_false,cond_true,List.length_append,hz,Q25,List.length_map,List.length_range]
   omega
def QB4 (is:Node->Bool):List Node->List Int->Nat->(List Int)
 | [],out,_=>out
 | x_ :: r,out,i=>bif (is x_) then QB4 is r (out++([(i:Int)]:List Int)) (i+1) else QB4 is r out (i+1)
def QW2 (out:List Int):Int:=(QO5 out).1
def Qh3 (l:List Node) (is:Node->Bool):Int:=bif ((Qu2 l)!=0) then 0 else QW2 (QB4 is l [] 0)
def QR7 (p_:List Step) (at_:Int) (long:Int) (nodes:Int):(List Step) × Int:=bif (!(QYc p_ at_ long nodes)) then ([],130) else ((QZ1 p_ at_ (w64 (at_+long)) (w64 (0 - nodes))).1,(QZ1 p_ at_ (w64 (at_+long)) (w64 (0 - nodes))).2)
theorem fit_Take_c (p_:List Step) (at_:Int) (long:Int) (nodes:Int) (hs0:p_.length<=4294967296):GV 64 [stepL p_,I at_,I long,I nodes] (AVal.tup [stepL ((QR7 p_ at_ long nodes).1),I ((QR7 p_ at_ long nodes).2)]):=by
 generalize hR:QR7 p_ at_ long nodes=R;refine ga (.cons lw (l1 (l1 (l1 .nil)))) (Low.tup' (.cons lw (l1 .nil))) (kp 10 [15]) Tryz.func64 ?_;have hk0:=hs0;obtain z3:p_.length<=4294967296:=hs0;refine us (fit_Fits_c p_ at_ long nodes szA _) ?_;refine ai (fun h1=>?_) (fun h2=>?_)
 ·obtain rfl:=foll hR (ct h1 rfl);exact Q00 (Low.tup' (.cons lw (l1 .nil))) (Seen.tup (ev (Qs0) (e1 .nil)))
 ·refine us (Qib p_ at_ (w64 (at_+long)) (w64 (0 - nodes)) szA _) ?_;obtain rfl:=foll hR (cf h2 rfl);exact Q00 (Low.tup' (.cons lw (l1 .nil))) (Seen.tup (e1 (e1 .nil)))
theorem fit_Take_len {p:List Step} (a l n:Int) (h:p.length<=4294967296):(QR7 p a l n).1.length<=4294967296:=by
 unfold QR7
 cases (!(QYc p a l n)) with
 | true=>simp
 | false=>exact Qo9 _ _ _ _ h
def Q36 (of_:Usage->Int):List Usage->Int->Nat->Int
 | [],n,_=>n
 | x_ :: r,n,i=>Q36 of_ r (Q3d ([n,(of_ x_)]:List Int)) (i+1)
def QC3 (n:Int):Int:=n
def Q24 (l:List Usage) (of_:Usage->Int):Int:=bif ((Q94 l)!=0) then 0 else QC3 (Q36 of_ l 0 0)
def Qe2 (l:List Int) (at_:Int):Nat->Int->Token × Int × Int × Int
 | 0,_=>(Token.zero,0,0,0)
 | m+1,i=>bif ((decide (i<(l.length:Int)))&&((l.getD (Int.toNat i) 0)!=34)) then bif ((Qe0 (l.getD (Int.toNat i) 0))==0) then (Token.zero,0,i,40) else bif ((l.getD (Int.toNat i) 0)==92) then bif ((decide ((w64 (i+1))<(l.length:Int)))&&((Qe0 (l.getD (Int.toNat (w64 (i+1))) 0))==0)) then (Token.zero,0,(w64 (i+1)),40) else Qe2 l at_ m (w64 ((w64 (i+1))+1)) else Qe2 l at_ m (w64 (i+1)) else bif (decide (i >= (l.length:Int))) then (Token.zero,0,at_,50) else bif ((Qc5 (runesBytes (List.drop (Int.toNat at_) (List.take (Int.toNat (w64 (i+1))) l)))).2 != 0) then (Token.zero,0,at_,50) else ((⟨4,(Qc5 (runesBytes (List.drop (Int.toNat at_) (List.take (Int.toNat (w64 (i+1))) l)))).1,0,at_⟩:Token),(w64 (i+1)),0,0)
def Qb3 (l:List Int) (at_:Int):Token × Int × Int × Int:=Qe2 l at_ ((Int.toNat ((l.length:Int) - (w64 (at_+1))))+1) (w64 (at_+1))
theorem ref05_text_c (l:List Int) (at_:Int) (hs0:l.length<=4294967296) (hp0:0<=at_∧at_<(l.length:Int)∧l.length<=400):GV 372 [runes l,I at_] (AVal.tup [Token.a ((Qb3 l at_).1),I ((Qb3 l at_).2.1),I ((Qb3 l at_).2.2.1),I ((Qb3 l at_).2.2.2)]):=by
 generalize hR:Qb3 l at_=R;refine ga (.cons lw (l1 .nil)) (Low.tup' (.cons (Token.low _ _) (l1 (l1 (l1 .nil))))) (kp 11 [23,29,36,50,58,72]) Tryz.func372 ?_;have hk0:=hs0;obtain z13:l.length<=4294967296:=hs0;have hw0:w64 (at_+1)=at_+1:=wr (by omega);refine Qc0 (fun (i:Int)=>∃ m,(Int.toNat ((l.length:Int) - i))<m∧Qe2 l at_ m i=R∧at_<i∧i<=(l.length:Int)+1) (fun i=>(Int.toNat ((l.length:Int) - i))) (fun i=>[(0,runes l),(1,I at_),(4,AVal.ptr 0 0 4 0 0),(5,I 0),(6,I 0),(7,I 0),(8,I i)]) (fun i=>[(0,AObj.row 309 4 [[I 0,Sg ⟨#[]⟩,I 0,I 0]])]) (w64 (at_+1)) (wk [0] (tO rfl (ts Token.lo) .nil) (sl lw (s1 (sv (Q10 0 rfl rfl) (s1 (s1 (s1 (s1 .nil)))))))) ⟨_,Nat.lt_succ_self _,foll hR rfl,by exact exA⟩ ?_;clear hR;rintro i ⟨m,hm,hR,hx⟩;(try dsimp only at hR hm hx);obtain ⟨m,rfl⟩:=sucA m;refine ai gkA ?_;refine ai (fun h1=>?_) (fun h2=>?_)
 ·have hq1:=of_decide_eq_true ((Bool.and_eq_true _ _).mp h1).1;have hw1:w64 (i+1)=i+1:=wr (by omega);have hw2:w64 (i+1+1)=i+1+1:=wr (by omega);refine ai gkA ?_;refine us (Qk4 (l.getD (Int.toNat i) 0) _) ?_;refine ai (fun h3=>?_) (fun h4=>?_)
  ·obtain rfl:=foll hR (ct h1 (ct h3 rfl));exact Q00 (Low.tup' (.cons (Token.low _ _) (l1 (l1 (l1 .nil))))) (Seen.tup (e1 (e1 (e1 (e1 .nil)))))
  ·refine ai gkA ?_;refine ai (fun h5=>?_) (fun h6=>?_)
   ·refine ai gkA ?_;(first|apply u2|apply u3|apply u4|apply us);exact Qk4 (l.getD (Int.toNat (w64 (i+1))) 0) _;refine ai (fun h7=>?_) (fun h8=>?_)
    ·obtain rfl:=foll hR (ct h1 (cf h4 (ct h5 (ct h7 rfl))));exact Q00 (Low.tup' (.cons (Token.low _ _) (l1 (l1 (l1 .nil))))) (Seen.tup (e1 (e1 (e1 (e1 .nil)))))
    ·exact Qi0 (w64 ((w64 (i+1))+1)) (wk [0] (tO rfl (ts Token.lo) .nil) (sl lw (s1 (sv (Q10 0 rfl rfl) (s1 (s1 (s1 (s1 .nil)))))))) omA ⟨m,by exact omA,foll hR (ct h1 (cf h4 (ct h5 (cf h8 rfl)))),by exact exA⟩
   ·exact Qi0 (w64 (i+1)) (wk [0] (tO rfl (ts Token.lo) .nil) (sl lw (s1 (sv (Q10 0 rfl rfl) (s1 (s1 (s1 (s1 .nil)))))))) omA ⟨m,by exact omA,foll hR (ct h1 (cf h4 (cf h6 rfl))),by exact exA⟩
 ·refine ai (fun h9=>?_) (fun h10=>?_)
  ·have qh9:=of_decide_eq_true h9;obtain rfl:=foll hR (cf h2 (ct h9 rfl));exact Q00 (Low.tup' (.cons (Token.low _ _) (l1 (l1 (l1 .nil))))) (Seen.tup (e1 (e1 (e1 (e1 .nil)))))
  ·have qh10:=of_decide_eq_false h10;refine ai gkA ?_;(first|refine ⟨(List.drop (Int.toNat at_) (List.take (Int.toNat (w64 (i+1))) l)),by exact cvA,?_⟩|refine ⟨_,fun _=>⟨(List.drop (Int.toNat at_) (List.take (Int.toNat (w64 (i+1))) l)),by exact cvA,rfl,rfl⟩,?_⟩|refine ⟨_,rfl,⟨(List.drop (Int.toNat at_) (List.take (Int.toNat (w64 (i+1))) l)),by exact cvA,Sub.refl _,rfl⟩,?_⟩);refine us (Q8e (runesBytes (List.drop (Int.toNat at_) (List.take (Int.toNat (w64 (i+1))) l))) szA _) ?_;refine ai (fun h11=>?_) (fun h12=>?_)
   ·obtain rfl:=foll hR (cf h2 (cf h10 (ct h11 rfl)));exact Q00 (Low.tup' (.cons (Token.low _ _) (l1 (l1 (l1 .nil))))) (Seen.tup (e1 (e1 (e1 (e1 .nil)))))
   ·obtain rfl:=foll hR (cf h2 (cf h10 (cf h12 rfl)));exact Q00 (Low.tup' (.cons (Token.low _ _) (l1 (l1 (l1 .nil))))) (Seen.tup (e1 (e1 (e1 (e1 .nil)))))
theorem Qb8 (l:List Int) (at_:Int) (h:l.length<=400):∀ (m:Nat) (i:Int),at_<i->0<=at_->i<=(l.length:Int)+1->(Int.toNat ((l.length:Int) - i))<m->((Qe2 l at_ m i).2.2.2 != 0)=false->at_<(Qe2 l at_ m i).2.1∧(Qe2 l at_ m i).2.1<=(l.length:Int)
 | 0,i,_,_,_,hm=>absurd hm (by omega)
 | m+1,i,h0,hz,h1,hm=>by
  rw [Qe2]
  cases hd:((decide (i<(l.length:Int)))&&((l.getD (Int.toNat i) 0)!=34)) with
  | false =>
   simp only [cond_false]
   cases hi:(decide (i >= (l.length:Int))) with
   | true=>intro h;cases h
   | false =>
    have hlt:=of_decide_eq_false hi
    simp only [cond_false]
    cases ((Qc5 (runesBytes (List.drop (Int.toNat at_) (List.take (Int.toNat (w64 (i+1))) l)))).2 != 0) with
    | true=>intro h;cases h
    | false =>
     intro _
     have hw:w64 (i+1)=i+1:=wr (by omega)
     simp only [cond_false]
     rw [hw]
     omega
  | true =>
   have hlt:=of_decide_eq_true ((Bool.and_eq_true _ _).mp hd).1
   have hw:w64 (i+1)=i+1:=wr (by omega)
   have hw2:w64 (i+1+1)=i+1+1:=wr (by omega)
   simp only [cond_true]
   cases ((Qe0 (l.getD (Int.toNat i) 0))==0) with
   | true=>intro h;cases h
   | false =>
    simp only [cond_false]
    rw [hw]
    cases ((l.getD (Int.toNat i) 0)==92) with
    | true =>
     simp only [cond_true]
     cases ((decide ((i+1)<(l.length:Int)))&&((Qe0 (l.getD (Int.toNat (i+1)) 0))==0)) with
     | true=>intro h;cases h
     | false =>
      simp only [cond_false]
      rw [hw2]
      exact Qb8 l at_ h m _ (by omega) hz (by omega) (by omega)
    | false=>exact Qb8 l at_ h m _ (by omega) hz (by omega) (by omega)
theorem ref05_text_lt (l:List Int) (at_:Int) (h0:0<=at_) (h1:at_<(l.length:Int)) (h:l.length<=400) (he:((Qb3 l at_).2.2.2 != 0)=false):at_<(Qb3 l at_).2.1∧(Qb3 l at_).2.1<=(l.length:Int):=by
 have hw:w64 (at_+1)=at_+1:=wr (by omega)
 unfold Qb3 at he ⊢
 rw [hw] at he ⊢
 exact Qb8 l at_ h _ _ (by omega) h0 (by omega) (Nat.lt_succ_self _) he
def Qn1 (j:Job):Bool:=bif (j.state==1) then bif (((j.start != 0)||(j.limit != 0))||(j.nodes != 0)) then false else bif (j.promise==(-1)) then (j.choice==0) else (((Qg1 j.promise)&&(decide ((Q42 j.shape j.choice) > 0)))&&(!j.held)) else bif (j.state==2) then bif ((((((((Q42 j.shape j.choice)==0)||j.held)||(!(Qg1 j.start)))||(!(Qg1 j.promise)))||(decide (j.start > j.promise)))||(!(Qg1 j.limit)))||(j.limit != (w64 (j.start+(Q42 j.shape j.choice))))) then false else ((Qw9 j.nodes)&&(QT6 j.shape j.choice ((Qm7 j.nodes).length:Int))) else ((((((((QO8 j.state)&&(j.nodes==0))&&(Qg1 j.start))&&(Qg1 j.limit))&&(decide (j.promise >= (-1))))&&(decide (j.promise<=1000000)))&&(decide (j.choice >= 0)))&&(decide (j.choice<=48)))
theorem ref14_state_c (j:Job) (hs0:j.sz):GV 145 [Job.a j] (Bo (Qn1 j)):=by
 generalize hR:Qn1 j=R;refine ga (.cons (Job.low _ _) .nil) lx (kp 5 [10,11,25,28,48,94]) Tryz.func145 ?_;obtain ⟨z11,z12,z13,z14,z15⟩:=Job.zz hs0;refine us (ref09_List_c j.nodes _) ?_;refine ai (fun h1=>?_) (fun h2=>?_)
 ·refine ai (fun h3=>?_) (fun h4=>?_)
  ·obtain rfl:=foll hR (ct h1 (ct h3 rfl));exact Q00 lx sr
  ·refine ai (fun h5=>?_) (fun h6=>?_)
   ·obtain rfl:=foll hR (ct h1 (cf h4 (ct h5 rfl)));exact Q00 lx sr
   ·refine us (Qb4 j.promise _) ?_;(first|apply u2|apply u3|apply u4|apply us);exact QBc j.shape j.choice szA _;obtain rfl:=foll hR (ct h1 (cf h4 (cf h6 rfl)));exact Q00 lx sr
 ·refine ai (fun h7=>?_) (fun h8=>?_)
  ·refine us (QBc j.shape j.choice szA _) ?_;(first|apply u2|apply u3|apply u4|apply us);exact Qb4 j.start _;(first|apply u2|apply u3|apply u4|apply us);exact Qb4 j.promise _;(first|apply u2|apply u3|apply u4|apply us);exact Qb4 j.limit _;refine ai (fun h9=>?_) (fun h10=>?_)
   ·obtain rfl:=foll hR (cf h2 (ct h7 (ct h9 rfl)));exact Q00 lx sr
   ·refine us (ref14_Few_c j.nodes _) ?_;(first|apply u2|apply u3|apply u4|apply us);exact ref07_Allows_c j.shape j.choice ((Qm7 j.nodes).length:Int) szA _;obtain rfl:=foll hR (cf h2 (ct h7 (cf h10 rfl)));exact Q00 lx sr
  ·refine us (ref14_Ended_c j.state _) ?_;(first|apply u2|apply u3|apply u4|apply us);exact Qb4 j.start _;(first|apply u2|apply u3|apply u4|apply us);exact Qb4 j.limit _;obtain rfl:=foll hR (cf h2 (cf h8 rfl));exact Q00 lx sr
def Qz2 :List Node->Int->Nat->Int × Nat
 | [],up,i=>(up,i)
 | x_ :: r,up,i=>bif ((x_.state != 4)&&(!x_.drain)) then Qz2 r (w64 (up+1)) (i+1) else Qz2 r up (i+1)
def Qh2 (s:State):List Node->List Step->Nat->(List Step) × Nat
 | [],p_,i1=>(p_,i1)
 | _ :: r,p_,i1=>Qh2 s r (QN1 p_ 0 (Qx6 s (i1:Int)) 1) (i1+1)
def Qh5 (p_:List Step) (i1:Nat):(List Step):=p_
def Qn4 (s:State) (up:Int) (i:Nat):(List Step):=Qh5 ((Qh2 s s.nodes (QG4 up) 0).1) ((Qh2 s s.nodes (QG4 up) 0).2)
def Q74 (s:State):(List Step):=Qn4 s ((Qz2 s.nodes 0 0).1) ((Qz2 s.nodes 0 0).2)
theorem b4a0 {P:Prop} (h:P:=by first|(((try dsimp only);exact Q46 (by assumption)))|first|(((try dsimp only);exact Q46 hx))|first|(exact QB9 _)|first|(exact Qs9 _)|exact exA):P:=h
theorem b4a1 {P:Prop} (h:P:=by first|(((try dsimp only);exact Q46 (by assumption)))|first|(((try dsimp only);exact Q46 hx))|first|(exact QB9 _)|first|(exact Qs9 _)|exact szA):P:=h
theorem ref20_busy_c (s:State) (hs0:s.sz):GV 151 [State.a s] (stepL (Q74 s)):=by
 generalize hR:Q74 s=R;refine ga (.cons (State.low _ _) .nil) lw (kp 7 [11,29,38]) Tryz.func151 ?_;have hk0:=hs0;obtain ⟨z7,z8,z9,z10,z11,z12,z13⟩:=hs0;refine Qh0 (fun (up:Int) (i:Nat)=>Qn4 s (Qz2 (List.drop i s.nodes) up i).1 (Qz2 (List.drop i s.nodes) up i).2=R∧i<=s.nodes.length) (fun up i=>s.nodes.length - i) (fun up i=>[(1,AVal.ptr 0 0 8 0 0),(2,AVal.lit (.slice none 0 0)),(3,I up),(4,I (i:Int))]) (fun up i=>[(0,AObj.row 28 8 [[I s.now,nodeL s.nodes,jobL s.jobs,Q02 s.resizes,bookL s.books,QU1 s.ledger,I s.nextJob,I s.nextBook]])]) 0 0 (wk [0] (tO rfl (ts State.lo) .nil) (sv (Q10 0 rfl rfl) (s1 (s1 (s1 .nil))))) ⟨foll hR rfl,by exact omA⟩ ?_;clear hR;rintro up i ⟨hR,hj⟩;(try dsimp only at hR hj);refine ai (fun h1=>?_) (fun h2=>?_)
 ·have hlt:=ltA h1;rw [Q90 Node.zero hlt] at hR;refine ai gkA ?_;refine ai gkA ?_;refine ai (fun h3=>?_) (fun h4=>?_)
  ·exact Q60 (w64 (up+1)) (i+1) (wk [0] (tO rfl (ts State.lo) .nil) (sv (Q10 0 rfl rfl) (s1 (s1 (sv (Q80 (I_eq (wr omA)) lx) .nil))))) omA ⟨foll hR (congrArg (fun p:Int × Nat=>Qn4 s p.1 p.2) (ct h3 rfl)),by exact omA⟩
  ·exact Q60 up (i+1) (wk [0] (tO rfl (ts State.lo) .nil) (sv (Q10 0 rfl rfl) (s1 (s1 (sv (Q80 (I_eq (wr omA)) lx) .nil))))) omA ⟨foll hR (congrArg (fun p:Int × Nat=>Qn4 s p.1 p.2) (cf h4 rfl)),by exact omA⟩
 ·rw [Qf0 (l:=s.nodes) (j:=i) (geA h2)] at hR;replace hR:Qn4 s up i=R:=fo2 (fun p:Int × Nat=>Qn4 s p.1 p.2) (up,i) hR rfl;refine us (ref10_Flat_c up _) ?_;refine Qh0 (fun (p_:List Step) (i1:Nat)=>Qh5 (Qh2 s (List.drop i1 s.nodes) p_ i1).1 (Qh2 s (List.drop i1 s.nodes) p_ i1).2=R∧i1<=s.nodes.length∧p_.length<=4294967296) (fun p_ i1=>s.nodes.length - i1) (fun p_ i1=>[(1,AVal.ptr 0 0 8 0 0),(2,AVal.lit (.slice none 0 0)),(5,stepL p_),(6,I (i1:Int))]) (fun p_ i1=>[(0,AObj.row 28 8 [[I s.now,nodeL s.nodes,jobL s.jobs,Q02 s.resizes,bookL s.books,QU1 s.ledger,I s.nextJob,I s.nextBook]])]) (QG4 up) 0 (wk [0] (tO rfl (ts State.lo) .nil) (sv (Q10 0 rfl rfl) (s1 (sl lw (s1 .nil))))) ⟨foll hR rfl,by exact omA,b4a0⟩ ?_;clear hR;rintro p_ i1 ⟨hR,hj,hx⟩;(try dsimp only at hR hj hx);refine ai (fun h5=>?_) (fun h6=>?_)
  ·have hlt:=ltA h5;rw [Q90 Node.zero hlt] at hR;refine us (ref20_until_c s (i1:Int) b4a1 ckA _) ?_;refine us (Q08 p_ 0 (Qx6 s (i1:Int)) 1 b4a1 _) ?_;exact Q60 (QN1 p_ 0 (Qx6 s (i1:Int)) 1) (i1+1) (wk [0] (tO rfl (ts State.lo) .nil) (sv (Q10 0 rfl rfl) (s1 (sl lw (sv (Q80 (I_eq (wr omA)) lx) .nil))))) omA ⟨foll hR (congrArg (fun p:(List Step) × Nat=>Qh5 p.1 p.2) rfl),by exact omA,b4a0⟩
  ·rw [Qf0 (l:=s.nodes) (j:=i1) (geA h6)] at hR;replace hR:Qh5 p_ i1=R:=fo2 (fun p:(List Step) × Nat=>Qh5 p.1 p.2) (p_,i1) hR rfl;obtain rfl:=foll hR rfl;exact Q00 lw sr
theorem Qs9 (s:State):(Q74 s).length<=4294967296:=by
 have g2:∀ (l:List Node) (p:List Step) (i:Nat),p.length<=4294967296->(Qh2 s l p i).1.length<=4294967296:=by
  intro l
  induction l with
  | nil=>intro p i h;exact h
  | cons x r ih=>intro p i h;rw [Qh2];exact ih _ _ (Q46 h)
 unfold Q74 Qn4 Qh5
 exact g2 _ _ _ (QB9 _)
def Qm1 (p_:List Step) (options:List Alt) (from_:Int) (latest:Int) (grace1:Int):Nat->Int->Int->Int->Nat->Int × Int × Int × Nat
 | 0,_,_,_,_=>(0,0,0,0)
 | m+1,best,start,end_,i=>bif ((decide ((i:Int)<(options.length:Int)))&&(decide ((i:Int)<48))) then bif (((decide ((options.getD i Alt.zero).wall<1))||(decide ((options.getD i Alt.zero).wall > 1000000)))||(decide (grace1 > (w64 (1000000 - (options.getD i Alt.zero).wall))))) then Qm1 p_ options from_ latest grace1 m best start end_ (i+1) else bif (((Qf1 p_ from_ (w64 ((options.getD i Alt.zero).wall+grace1)) ((options.getD i Alt.zero).nodes)).2&&(decide ((Qf1 p_ from_ (w64 ((options.getD i Alt.zero).wall+grace1)) ((options.getD i Alt.zero).nodes)).1<=latest)))&&((decide (best<0))||(decide ((w64 ((Qf1 p_ from_ (w64 ((options.getD i Alt.zero).wall+grace1)) ((options.getD i Alt.zero).nodes)).1+(options.getD i Alt.zero).wall))<end_)))) then Qm1 p_ options from_ latest grace1 m (i:Int) ((Qf1 p_ from_ (w64 ((options.getD i Alt.zero).wall+grace1)) ((options.getD i Alt.zero).nodes)).1) (w64 ((Qf1 p_ from_ (w64 ((options.getD i Alt.zero).wall+grace1)) ((options.getD i Alt.zero).nodes)).1+(options.getD i Alt.zero).wall)) (i+1) else Qm1 p_ options from_ latest grace1 m best start end_ (i+1) else (best,start,end_,i)
def QE3 (best:Int) (start:Int) (end_:Int) (i:Nat):Int × Int × Bool:=bif (decide (best<0)) then (0,0,false) else (best,start,true)
def Qc7 (p_:List Step) (options:List Alt) (from_:Int) (latest:Int) (grace1:Int):Int × Int × Bool:=QE3 ((Qm1 p_ options from_ latest grace1 ((Int.toNat ((options.length:Int) - (0:Int)))+1) (-1) 0 0 0).1) ((Qm1 p_ options from_ latest grace1 ((Int.toNat ((options.length:Int) - (0:Int)))+1) (-1) 0 0 0).2.1) ((Qm1 p_ options from_ latest grace1 ((Int.toNat ((options.length:Int) - (0:Int)))+1) (-1) 0 0 0).2.2.1) ((Qm1 p_ options from_ latest grace1 ((Int.toNat ((options.length:Int) - (0:Int)))+1) (-1) 0 0 0).2.2.2)
def QJ4 (p_:List Step) (options:List Alt) (from_:Int) (latest:Int) (grace:Int):Int × Int × Bool:=bif (decide (grace<0)) then Qc7 p_ options from_ latest 0 else Qc7 p_ options from_ latest grace
theorem Qzc (p_:List Step) (options:List Alt) (from_:Int) (latest:Int) (grace:Int) (hs0:p_.length<=4294967296) (hs1:options.length<=4294967296):GV 146 [stepL p_,altL options,I from_,I latest,I grace] (AVal.tup [I ((QJ4 p_ options from_ latest grace).1),I ((QJ4 p_ options from_ latest grace).2.1),Bo ((QJ4 p_ options from_ latest grace).2.2)]):=by
 generalize hR:QJ4 p_ options from_ latest grace=R;refine ga (.cons lw (.cons lw (l1 (l1 (l1 .nil))))) (Low.tup' (l1 (l1 (l1 .nil)))) (kj [1000003] 20 [21,29,50,80,88]) Tryz.func146 ?_;have hk0:=hs0;obtain z11:p_.length<=4294967296:=hs0;have hk1:=hs1;obtain z12:options.length<=4294967296:=hs1;refine QY0 (fun (grace1:Int)=>Qc7 p_ options from_ latest grace1=R) (fun grace1=>[(0,stepL p_),(1,altL options),(2,I from_),(3,I latest),(4,I grace1),(10,I 0),(11,I 0),(12,Bo false)]) (fun grace1=>[]) ?_ ?_
 ·clear hR;rintro grace1 hR;(try dsimp only at hR);refine QVd (fun (best:Int) (start:Int) (end_:Int) (i:Nat)=>∃ m,(Int.toNat ((options.length:Int) - (i:Int)))<m∧QE3 (Qm1 p_ options from_ latest grace1 m best start end_ i).1 (Qm1 p_ options from_ latest grace1 m best start end_ i).2.1 (Qm1 p_ options from_ latest grace1 m best start end_ i).2.2.1 (Qm1 p_ options from_ latest grace1 m best start end_ i).2.2.2=R∧(i:Int)<=(options.length:Int)) (fun best start end_ i=>(Int.toNat ((options.length:Int) - (i:Int)))) (fun best start end_ i=>[(0,stepL p_),(1,altL options),(2,I from_),(3,I latest),(4,I grace1),(10,I 0),(11,I 0),(12,Bo false),(13,I best),(14,I start),(15,I end_),(16,I (i:Int))]) (fun best start end_ i=>[]) (-1) 0 0 0 (wk [] .nil (sl lw (sl lw (s1 (s1 (s1 (s1 (s1 (s1 (s1 (s1 (s1 (s1 .nil))))))))))))) ⟨_,Nat.lt_succ_self _,foll hR rfl,by exact exA⟩ ?_;clear hR;rintro best start end_ i ⟨m,hm,hR,hx⟩;(try dsimp only at hR hm hx);obtain ⟨m,rfl⟩:=sucA m;refine ai (fun h1=>?_) (fun h2=>?_)
  ·refine ai gkA ?_;refine ai (fun h3=>?_) (fun h4=>?_)
   ·exact Qk7 best start end_ (i+1) (wk [] .nil (sl lw (sl lw (s1 (s1 (s1 (s1 (s1 (s1 (s1 (s1 (s1 (sv (Q80 (I_eq (wr omA)) lx) .nil))))))))))))) omA ⟨m,by exact omA,foll hR (congrArg (fun p:Int × Int × Int × Nat=>QE3 p.1 p.2.1 p.2.2.1 p.2.2.2) (ct h1 (ct h3 rfl))),by exact exA⟩
   ·refine us (QQc p_ from_ (w64 ((options.getD i Alt.zero).wall+grace1)) ((options.getD i Alt.zero).nodes) szA _) ?_;refine ai (fun h5=>?_) (fun h6=>?_)
    ·refine dchk (by kernel_rfl) ?_;(repeat ((first|refine ai rfl ?_|refine ai (fun _=>rfl) ?_)));exact Qk7 (i:Int) ((Qf1 p_ from_ (w64 ((options.getD i Alt.zero).wall+grace1)) ((options.getD i Alt.zero).nodes)).1) (w64 ((Qf1 p_ from_ (w64 ((options.getD i Alt.zero).wall+grace1)) ((options.getD i Alt.zero).nodes)).1+(options.getD i Alt.zero).wall)) (i+1) (wk [] .nil (sl lw (sl lw (s1 (s1 (s1 (s1 (s1 (s1 (s1 (s1 (s1 (sv (Q80 (I_eq (wr omA)) lx) .nil))))))))))))) omA ⟨m,by exact omA,foll hR (congrArg (fun p:Int × Int × Int × Nat=>QE3 p.1 p.2.1 p.2.2.1 p.2.2.2) (ct h1 (cf h4 (ct h5 rfl)))),by exact exA⟩
    ·exact Qk7 best start end_ (i+1) (wk [] .nil (sl lw (sl lw (s1 (s1 (s1 (s1 (s1 (s1 (s1 (s1 (s1 (sv (Q80 (I_eq (wr omA)) lx) .nil))))))))))))) omA ⟨m,by exact omA,foll hR (congrArg (fun p:Int × Int × Int × Nat=>QE3 p.1 p.2.1 p.2.2.1 p.2.2.2) (ct h1 (cf h4 (cf h6 rfl)))),by exact exA⟩
  ·replace hR:QE3 best start end_ i=R:=fo2 (fun p:Int × Int × Int × Nat=>QE3 p.1 p.2.1 p.2.2.1 p.2.2.2) (best,start,end_,i) hR (cf h2 rfl);refine ai (fun h7=>?_) (fun h8=>?_)
   ·have qh7:=of_decide_eq_true h7;obtain rfl:=foll hR (ct h7 rfl);exact Q00 (Low.tup' (l1 (l1 (l1 .nil)))) (Seen.tup (e1 (e1 (e1 .nil))))
   ·have qh8:=of_decide_eq_false h8;obtain rfl:=foll hR (cf h8 rfl);exact Q00 (Low.tup' (l1 (l1 (l1 .nil)))) (Seen.tup (e1 (e1 (e1 .nil))))
 ·refine ai (fun h9=>?_) (fun h10=>?_)
  ·have qh9:=of_decide_eq_true h9;exact Q70 0 (wk [] .nil (sl lw (sl lw (s1 (s1 (s1 (s1 (s1 (s1 .nil))))))))) (foll hR (ct h9 rfl))
  ·have qh10:=of_decide_eq_false h10;exact Q70 grace (wk [] .nil (sl lw (sl lw (s1 (s1 (s1 (s1 (s1 (s1 .nil))))))))) (foll hR (cf h10 rfl))
end Go.Proofs.YtcbolcknapeneaaGreatDoor
