/-
  What the last text of this claim leans on: an evaluator over the code, contracts of functions, plain laws. Conditions stand in each statement.
-/
import Derived.Test.YtackngeeehiegaaGreatDoorRB10
import Derived.Test.YtackngeeehiegaaGreatDoorProg
namespace Go.Proofs.YtackngeeehiegaaGreatDoor
set_option linter.unusedSimpArgs false
set_option linter.unusedVariables false
open Go.Fw
set_option maxRecDepth 20000
set_option maxHeartbeats 4000000
attribute [local irreducible] ACalls AMoves
def Q16 (s:State):Bool:=(((((Qgd s.nodes)&&(Qhd s.jobs))&&(Qjd s.books))&&(Qid s.ledger))&&(decide ((s.resizes.length:Int)<=100)))
theorem law20_Few_c (s:State) (hs0:s.szM):GV 8 [State.a s] (Bo (Q16 s)):=by
 generalize hR:Q16 s=R;refine gA (kp 3 []) Tryz.func8 ?_;have hk0:=hs0;obtain ⟨z1,z2,z3,z4,z5,z6,z7⟩:=hs0;refine us (law12_Few_c s.nodes _) ?_;(first|apply u2|apply u3|apply u4|apply us);exact law15_Few_c s.jobs szA _;(first|apply u2|apply u3|apply u4|apply us);exact law19_Few_c s.books _;(first|apply u2|apply u3|apply u4|apply us);exact law17_Few_c s.ledger szA _;exact lfA
theorem u3g {P:Program} {f:FuncId} {args:List AVal} {objs:Objs} {r:AVal} {g:Bool} {K:AVal->Objs->Prop} (h:g=true->ACalls P f args objs fun a b=>a=r∧b=objs) (k:K r objs):∃ r' o',(g=true->ACalls P f args objs (fun a b=>a=r'∧b=o'))∧(g=false->o'=objs)∧K r' o':=⟨r,objs,h,fun _=>rfl,k⟩
theorem QIe:∀ (l:List Usage) (i:Nat),Qo8 l i=true -> ∀ y ∈ l,y.sz
 | [],_,_,y,hy=>nomatch hy
 | x :: r,i,h,y,hy=>by
  rw [Qo8] at h;cases hc:((decide ((ByteArray.size x.user:Int) > 1000))||(decide ((ByteArray.size x.account:Int) > 1000))) with
  | true=>rw [hc] at h;cases h
  | false =>
   rw [hc] at h;rcases List.mem_cons.1 hy with rfl|hy
   ·simp only [yXa,yGa] at hc;exact ⟨by omega,by omega⟩
   ·exact QIe r (i+1) h y hy
theorem law14_Few_sz {j:Job} (h:Q1a j=true):j.sz:=by
 simp only [Q1a,Qfd,yea,yfa] at h;exact ⟨by omega,by omega,by omega,by show j.shape.alts.length<=_;omega,by omega⟩
theorem QHe:∀ (l:List Job) (i:Nat),Qn8 l i=true -> ∀ y ∈ l,y.sz
 | [],_,_,y,hy=>nomatch hy
 | x :: r,i,h,y,hy=>by
  rw [Qn8] at h;cases hc:Q1a x with
  | false=>rw [hc] at h;cases h
  | true =>
   rw [hc] at h;rcases List.mem_cons.1 hy with rfl|hy
   ·exact law14_Few_sz hc
   ·exact QHe r (i+1) h y hy
theorem QJe {s:State} (h:Q16 s=true):s.sz:=by
 simp only [Q16,Qgd,Qhd,Qjd,Qid,yea,yfa] at h;obtain ⟨⟨⟨⟨h1,h2⟩,h3⟩,h4⟩,h5⟩:=h;cases hj:decide ((s.jobs.length:Int) > 60) with
 | true=>rw [hj] at h2;cases h2
 | false =>
  cases hl:decide ((s.ledger.length:Int) > 300) with
  | true=>rw [hl] at h4;cases h4
  | false =>
   rw [hj] at h2;rw [hl] at h4;have qj:=yca hj;have ql:=yca hl;exact ⟨by omega,by omega,QHe _ _ h2,by omega,by omega,by omega,QIe _ _ h4⟩
def Q80 (l:List Node):Int:=bif (((decide ((l.length:Int)<1))||(decide ((l.length:Int) > 48)))||(QI0 l (fun (y:Node)=>(!(QR0 y))))) then 120 else 0
theorem Qr3 (l:List Node) (hs0:l.length<=4294967296):GV 94 [nodeL l] (I (Q80 l)):=by
 generalize hR:Q80 l=R;refine gA (kp 3 [14]) Tryz.func94 ?_;have hk0:=hs0;obtain z7:l.length<=4294967296:=hs0;have cl1:∀ (y1:Node),AMoves Tryz.prog 151 [Node.a y1] [] 0 (Bo ((fun (y:Node)=>(!(QR0 y))) y1)) []:=by
  intro y1;have hR:(fun (y:Node)=>(!(QR0 y))) y1=(fun (y:Node)=>(!(QR0 y))) y1:=rfl;refine mo (kp 3 []) Tryz.func151 ?_;refine us (fleet_fine_c y1 _) ?_;refine Qu0 (fun r:Bool=>Bo r) (fun _=>[]) (leaf:=(!(QR0 y1))) (foll hR rfl) ?_;exact tt [] .nil t1
 have hof1:AMoves Tryz.prog 150 [nodeL l,AVal.fn (.func 151) [] []] [] 0 (Bo (QI0 l (fun (y:Node)=>(!(QR0 y))))) []:=by
  have hR:QI0 l (fun (y:Node)=>(!(QR0 y)))=QI0 l (fun (y:Node)=>(!(QR0 y))):=rfl;refine mo (kp 5 []) Tryz.func150 ?_;have hof2:AMoves Tryz.prog 209 [nodeL l,AVal.fn (.func 151) [] []] [] 0 (I (Qv2 l (fun (y:Node)=>(!(QR0 y))))) []:=by
   have hR:Qv2 l (fun (y:Node)=>(!(QR0 y)))=Qv2 l (fun (y:Node)=>(!(QR0 y))):=rfl;refine mo (kp 6 [7,8,9,16]) Tryz.func209 ?_;refine Qg0 (fun (i:Nat)=>Q35 (fun (y:Node)=>(!(QR0 y))) (List.drop i l) i=Qv2 l (fun (y:Node)=>(!(QR0 y)))∧i<=l.length) (fun i=>l.length - i) (fun i=>[(0,nodeL l),(1,AVal.fn (.func 151) [] []),(4,I 0),(7,I (l.length:Int)),(8,I (i:Int))]) (fun i=>[]) 0 (wkA []) ⟨foll hR rfl,by exact omA⟩ ?_;clear hR;rintro i ⟨hR,hj⟩;(try dsimp only at hR hj);apply ai<;>intro h1
   ·have hlt:=ltA h1;rw [Qa0 zF hlt] at hR;refine ai gkA ?_;refine us (mv [] (cl1 (l.getD i zF)) .nil (dl (Node.low _ _) .nil) .nil rx) ?_;apply ai<;>intro h3
    ·refine Qu0 (fun r:Int=>I r) (fun r:Int=>[]) (leaf:=(i:Int)) (foll hR (ct h3 rfl)) ?_;exact tt [] .nil t1
    ·exact Qn0 (i+1) (wkA []) omA ⟨folA,by exact omA⟩
   ·rw [Qd0 (l:=l) (j:=i) (geA h1)] at hR;refine Qu0 (fun r:Int=>I r) (fun r:Int=>[]) (leaf:=(-1)) (foll hR rfl) ?_;exact tt [] .nil t1
  refine us (mv [] (hof2) .nil (dl lw (dv (QI7 (Low.fn _ _ _ LowL.nil LowL.nil)) .nil)) .nil rx) ?_;refine Qu0 (fun r:Bool=>Bo r) (fun r:Bool=>[]) (leaf:=(decide ((Qv2 l (fun (y:Node)=>(!(QR0 y)))) >= 0))) (foll hR rfl) ?_;exact tt [] .nil t1
 (first|apply u2|apply u3|apply u4|apply us);exact mv [] (hof1) .nil (dl lw (dv (QI7 (Low.fn _ _ _ LowL.nil LowL.nil)) .nil)) .nil rx;apply ai<;>intro h5
 ·exact lfA
 ·exact lfA
def Qk2 (ok:Bool):Int:=bif (!ok) then 70 else 0
def Qa2 (s:Shape):Int:=bif (s.kind==1) then Qk2 (((((s.min==0)&&(s.max==0))&&(s.wall==0))&&((s.alts.length:Int)==1))&&(Qg1 (s.alts.getD 0 zA))) else bif (s.kind==2) then Qk2 (((((((s.min==0)&&(s.max==0))&&(s.wall==0))&&(decide ((s.alts.length:Int) >= 1)))&&(decide ((s.alts.length:Int)<=6)))&&(Qb6 s.alts))&&(!(QY0 s.alts (fun (y:Alt)=>(!(Qg1 y)))))) else bif (s.kind==3) then Qk2 (((((s.alts.length:Int)==0)&&(decide (s.min<=s.max)))&&(Qg1 (⟨s.min,s.wall⟩:Alt)))&&(decide (s.max<=48))) else Qk2 false
theorem QMd (s:Shape) (hs0:s.sz):GV 199 [Shape.a s] (I (Qa2 s)):=by
 generalize hR:Qa2 s=R;refine gA (kj [1000011] 6 [23,24,38,60,85]) Tryz.func199 ?_;have hk0:=hs0;obtain z13:s.alts.length<=4294967296:=hs0;refine Q81 (fun (ok:Bool)=>Qk2 ok=R) (fun ok=>[(2,I 0),(5,Bo ok)]) (fun ok=>[]) ?_ ?_
 ·clear hR;rintro ok hR;(try dsimp only at hR);apply ai<;>intro h1
  ·exact lfA
  ·exact lfA
 ·apply ai<;>intro h3
  ·refine ai gkA ?_;(first|apply u2|apply u3|apply u4|apply us);exact Qwb (s.alts.getD 0 zA) _;exact Q90 (((((s.min==0)&&(s.max==0))&&(s.wall==0))&&((s.alts.length:Int)==1))&&(Qg1 (s.alts.getD 0 zA))) (wkA []) (foll hR (ct h3 rfl))
  ·apply ai<;>intro h5
   ·(first|apply u2|apply u3|apply u4|apply us);exact shape_apart_c s.alts szA _;have cl1:∀ (y1:Alt),AMoves Tryz.prog 242 [Alt.a y1] [] 0 (Bo ((fun (y:Alt)=>(!(Qg1 y))) y1)) []:=by
     intro y1;have hR:(fun (y:Alt)=>(!(Qg1 y))) y1=(fun (y:Alt)=>(!(Qg1 y))) y1:=rfl;refine mo (kp 3 []) Tryz.func242 ?_;refine us (Qwb y1 _) ?_;refine Qu0 (fun r:Bool=>Bo r) (fun _=>[]) (leaf:=(!(Qg1 y1))) (foll hR rfl) ?_;exact tt [] .nil t1
    have hof1:AMoves Tryz.prog 241 [altL s.alts,AVal.fn (.func 242) [] []] [] 0 (Bo (QY0 s.alts (fun (y:Alt)=>(!(Qg1 y))))) []:=by
     have hR:QY0 s.alts (fun (y:Alt)=>(!(Qg1 y)))=QY0 s.alts (fun (y:Alt)=>(!(Qg1 y))):=rfl;refine mo (kp 5 []) Tryz.func241 ?_;have hof2:AMoves Tryz.prog 273 [altL s.alts,AVal.fn (.func 242) [] []] [] 0 (I (Qb1 s.alts (fun (y:Alt)=>(!(Qg1 y))))) []:=by
      have hR:Qb1 s.alts (fun (y:Alt)=>(!(Qg1 y)))=Qb1 s.alts (fun (y:Alt)=>(!(Qg1 y))):=rfl;refine mo (kp 6 [7,8,9,16]) Tryz.func273 ?_;refine Qg0 (fun (i:Nat)=>Qw3 (fun (y:Alt)=>(!(Qg1 y))) (List.drop i s.alts) i=Qb1 s.alts (fun (y:Alt)=>(!(Qg1 y)))∧i<=s.alts.length) (fun i=>s.alts.length - i) (fun i=>[(0,altL s.alts),(1,AVal.fn (.func 242) [] []),(4,I 0),(7,I (s.alts.length:Int)),(8,I (i:Int))]) (fun i=>[]) 0 (wkA []) ⟨foll hR rfl,by exact omA⟩ ?_;clear hR;rintro i ⟨hR,hj⟩;(try dsimp only at hR hj);apply ai<;>intro h7
      ·have hlt:=ltA h7;rw [Qa0 zA hlt] at hR;refine ai gkA ?_;refine us (mv [] (cl1 (s.alts.getD i zA)) .nil (dl (Alt.low _ _) .nil) .nil rx) ?_;apply ai<;>intro h9
       ·refine Qu0 (fun r:Int=>I r) (fun r:Int=>[]) (leaf:=(i:Int)) (foll hR (ct h9 rfl)) ?_;exact tt [] .nil t1
       ·exact Qn0 (i+1) (wkA []) omA ⟨folA,by exact omA⟩
      ·rw [Qd0 (l:=s.alts) (j:=i) (geA h7)] at hR;refine Qu0 (fun r:Int=>I r) (fun r:Int=>[]) (leaf:=(-1)) (foll hR rfl) ?_;exact tt [] .nil t1
     refine us (mv [] (hof2) .nil (dl lw (dv (QI7 (Low.fn _ _ _ LowL.nil LowL.nil)) .nil)) .nil rx) ?_;refine Qu0 (fun r:Bool=>Bo r) (fun r:Bool=>[]) (leaf:=(decide ((Qb1 s.alts (fun (y:Alt)=>(!(Qg1 y)))) >= 0))) (foll hR rfl) ?_;exact tt [] .nil t1
    (first|apply u2|apply u3|apply u4|apply us);exact mv [] (hof1) .nil (dl lw (dv (QI7 (Low.fn _ _ _ LowL.nil LowL.nil)) .nil)) .nil rx;exact Q90 (((((((s.min==0)&&(s.max==0))&&(s.wall==0))&&(decide ((s.alts.length:Int) >= 1)))&&(decide ((s.alts.length:Int)<=6)))&&(Qb6 s.alts))&&(!(QY0 s.alts (fun (y:Alt)=>(!(Qg1 y)))))) (wkA []) (foll hR (cf h3 (ct h5 rfl)))
   ·apply ai<;>intro h11
    ·(first|apply u2|apply u3|apply u4|apply us);exact Qwb (⟨s.min,s.wall⟩:Alt) _;exact Q90 (((((s.alts.length:Int)==0)&&(decide (s.min<=s.max)))&&(Qg1 (⟨s.min,s.wall⟩:Alt)))&&(decide (s.max<=48))) (wkA []) (foll hR (cf h3 (cf h5 (ct h11 rfl))))
    ·exact Q90 false (wkA []) (foll hR (cf h3 (cf h5 (cf h11 rfl))))
def QL1 (r_:LexReader):Token × LexReader:=bif (!(Q19 ((Q20 r_ (fun (y:Int)=>(((decide (y >= 48))&&(decide (y<=57)))||((decide (y >= 97))&&(decide (y<=122)))))).1))) then ((⟨3,(Q20 r_ (fun (y:Int)=>(((decide (y >= 48))&&(decide (y<=57)))||((decide (y >= 97))&&(decide (y<=122)))))).1,0,0⟩:Token),(Q20 r_ (fun (y:Int)=>(((decide (y >= 48))&&(decide (y<=57)))||((decide (y >= 97))&&(decide (y<=122)))))).2) else bif (!(QQ7 ((Q20 r_ (fun (y:Int)=>(((decide (y >= 48))&&(decide (y<=57)))||((decide (y >= 97))&&(decide (y<=122)))))).1)).2) then ((⟨2,⟨#[]⟩,(QQ7 ((Q20 r_ (fun (y:Int)=>(((decide (y >= 48))&&(decide (y<=57)))||((decide (y >= 97))&&(decide (y<=122)))))).1)).1,0⟩:Token),(QZ0 ((Q20 r_ (fun (y:Int)=>(((decide (y >= 48))&&(decide (y<=57)))||((decide (y >= 97))&&(decide (y<=122)))))).2) r_.at_ 50)) else ((⟨2,⟨#[]⟩,(QQ7 ((Q20 r_ (fun (y:Int)=>(((decide (y >= 48))&&(decide (y<=57)))||((decide (y >= 97))&&(decide (y<=122)))))).1)).1,0⟩:Token),(Q20 r_ (fun (y:Int)=>(((decide (y >= 48))&&(decide (y<=57)))||((decide (y >= 97))&&(decide (y<=122)))))).2)
theorem Qnd (r_:LexReader) (hs0:r_.sz) (hp0:0<=r_.at_∧r_.at_<=(r_.line.length:Int)∧r_.line.length<=400):AMoves Tryz.prog 317 [AVal.ptr 0 0 4 0 0] [(0,AObj.row 321 4 [[runes r_.line,I r_.at_,I r_.bad,I r_.error]])] 1 (Token.a ((QL1 r_).1)) [(0,AObj.row 321 4 [[runes ((QL1 r_).2.line),I ((QL1 r_).2.at_),I ((QL1 r_).2.bad),I ((QL1 r_).2.error)]])]:=by
 generalize hR:QL1 r_=R;refine mo (kp 7 [15,24]) Tryz.func317 ?_;have hk0:=hs0;obtain z7:r_.line.length<=4294967296:=hs0;have cl1:∀ (y1:Int),AMoves Tryz.prog 332 [J y1] [] 0 (Bo ((fun (y:Int)=>(((decide (y >= 48))&&(decide (y<=57)))||((decide (y >= 97))&&(decide (y<=122))))) y1)) []:=by
  intro y1;have hR:(fun (y:Int)=>(((decide (y >= 48))&&(decide (y<=57)))||((decide (y >= 97))&&(decide (y<=122))))) y1=(fun (y:Int)=>(((decide (y >= 48))&&(decide (y<=57)))||((decide (y >= 97))&&(decide (y<=122))))) y1:=rfl;refine mo (kp 3 []) Tryz.func332 ?_;refine Qu0 (fun r:Bool=>Bo r) (fun _=>[]) (leaf:=(((decide (y1 >= 48))&&(decide (y1<=57)))||((decide (y1 >= 97))&&(decide (y1<=122))))) (foll hR rfl) ?_;exact tt [] .nil t1
 have hof1:AMoves Tryz.prog 307 [AVal.ptr 0 0 4 0 0,AVal.fn (.func 332) [] []] [(0,AObj.row 321 4 [[runes r_.line,I r_.at_,I r_.bad,I r_.error]])] 1 (Sg ((Q20 r_ (fun (y:Int)=>(((decide (y >= 48))&&(decide (y<=57)))||((decide (y >= 97))&&(decide (y<=122)))))).1)) [(0,AObj.row 321 4 [[runes (((Q20 r_ (fun (y:Int)=>(((decide (y >= 48))&&(decide (y<=57)))||((decide (y >= 97))&&(decide (y<=122)))))).2).line),I (((Q20 r_ (fun (y:Int)=>(((decide (y >= 48))&&(decide (y<=57)))||((decide (y >= 97))&&(decide (y<=122)))))).2).at_),I (((Q20 r_ (fun (y:Int)=>(((decide (y >= 48))&&(decide (y<=57)))||((decide (y >= 97))&&(decide (y<=122)))))).2).bad),I (((Q20 r_ (fun (y:Int)=>(((decide (y >= 48))&&(decide (y<=57)))||((decide (y >= 97))&&(decide (y<=122)))))).2).error)]])]:=by
  have hR:Q20 r_ (fun (y:Int)=>(((decide (y >= 48))&&(decide (y<=57)))||((decide (y >= 97))&&(decide (y<=122)))))=Q20 r_ (fun (y:Int)=>(((decide (y >= 48))&&(decide (y<=57)))||((decide (y >= 97))&&(decide (y<=122))))):=rfl;refine mo (kp 6 [33]) Tryz.func307 ?_;refine Qg0 (fun (c:LexReader)=>∃ m,(((c.line.length:Int) - c.at_).toNat)<m∧QH0 r_ (QG0 (fun (y:Int)=>(((decide (y >= 48))&&(decide (y<=57)))||((decide (y >= 97))&&(decide (y<=122))))) m c)=Q20 r_ (fun (y:Int)=>(((decide (y >= 48))&&(decide (y<=57)))||((decide (y >= 97))&&(decide (y<=122)))))∧0<=c.at_∧c.at_<=(c.line.length:Int)∧c.line.length<=400∧r_.at_<=c.at_∧0<=r_.at_) (fun c=>(((c.line.length:Int) - c.at_).toNat)) (fun c=>[(0,AVal.ptr 0 0 4 0 0),(1,AVal.fn (.func 332) [] []),(4,Sg ⟨#[]⟩),(5,I r_.at_)]) (fun c=>[(0,AObj.row 321 4 [[runes c.line,I c.at_,I c.bad,I c.error]])]) r_ (wkA [0]) ⟨_,yCa _,foll hR rfl,by exact exA⟩ ?_;clear hR;rintro c ⟨m,hm,hR,hx⟩;(try dsimp only at hR hm hx);obtain ⟨m,rfl⟩:=sucA m;refine dchk (by kernel_rfl) ?_;refine ai gkA ?_;(first|apply u2|apply u3|apply u4|apply us);exact mv [] (cl1 (c.line.getD (c.at_.toNat) 0)) .nil (d1 .nil) .nil rx;(repeat ((first|refine ai rfl ?_|refine ai (fun _=>rfl) ?_)));apply ai<;>intro h1
  ·have hq1:=yda ((yea _ _).mp h1).1;have hwr:w64 (c.at_+1)=c.at_+1:=wr oA;exact Qn0 { c with at_:=(w64 (c.at_+1)) } (wk [0] (tO rfl (ts LexReader.lo) .nil) (sv (Qm1 0 rfl rfl) (sv (Q54 (Low.fn _ _ _ LowL.nil LowL.nil)) (s1 (s1 .nil))))) omA ⟨m,by exact omA,foll hR (congrArg (fun p:LexReader=>QH0 r_ p) (ct h1 rfl)),by exact exA⟩
  ·replace hR:QH0 r_ c=Q20 r_ (fun (y:Int)=>(((decide (y >= 48))&&(decide (y<=57)))||((decide (y >= 97))&&(decide (y<=122))))):=fo2 (fun p:LexReader=>QH0 r_ p) (c) hR (cf h1 rfl);refine dchk (by kernel_rfl) ?_;refine ai gkA ?_;(first|refine ⟨(List.drop (r_.at_.toNat) (List.take (c.at_.toNat) c.line)),by exact cvA,?_⟩|refine ⟨_,fun _=>⟨(List.drop (r_.at_.toNat) (List.take (c.at_.toNat) c.line)),by exact cvA,rfl,rfl⟩,?_⟩|refine ⟨_,rfl,⟨(List.drop (r_.at_.toNat) (List.take (c.at_.toNat) c.line)),by exact cvA,Sub.refl _,rfl⟩,?_⟩);(repeat ((first|refine ai rfl ?_|refine ai (fun _=>rfl) ?_)));refine Qu0 (fun r:ByteArray × LexReader=>Sg r.1) (fun r:ByteArray × LexReader=>[(0,AObj.row 321 4 [[runes r.2.line,I r.2.at_,I r.2.bad,I r.2.error]])]) (leaf:=((runesBytes (List.drop (r_.at_.toNat) (List.take (c.at_.toNat) c.line))),c)) (foll hR rfl) ?_;exact tt [0] (tO rfl (ts LexReader.lo) .nil) t1
 refine us (mv [0] (hof1) (dO (ds LexReader.lo) .nil) (dp (dv (QI7 (Low.fn _ _ _ LowL.nil LowL.nil)) .nil)) (rO (re LexReader.lo) .nil) rx) ?_;refine us (QLe ((Q20 r_ (fun (y:Int)=>(((decide (y >= 48))&&(decide (y<=57)))||((decide (y >= 97))&&(decide (y<=122)))))).1) (by first|(exact Qcb _ _ hp0.2.2)|exact szA) _) ?_;apply ai<;>intro h3
 ·obtain rfl:=foll hR (ct h3 rfl);exact rq (ttA [0])
 ·refine us (lex_number_c ((Q20 r_ (fun (y:Int)=>(((decide (y >= 48))&&(decide (y<=57)))||((decide (y >= 97))&&(decide (y<=122)))))).1) (by first|(exact Qcb _ _ hp0.2.2)|exact szA) _) ?_;apply ai<;>intro h5
  ·refine us (mv [0] (QQ3 ((Q20 r_ (fun (y:Int)=>(((decide (y >= 48))&&(decide (y<=57)))||((decide (y >= 97))&&(decide (y<=122)))))).2) r_.at_ 50) (dO (ds LexReader.lo) .nil) (dp (d1 (d1 .nil))) (rO (re LexReader.lo) .nil) rx) ?_;obtain rfl:=foll hR (cf h3 (ct h5 rfl));exact rq (ttA [0])
  ·obtain rfl:=foll hR (cf h3 (cf h5 rfl));exact rq (ttA [0])
attribute [local irreducible] QQ0
def Qf4 :List (Nat × Int)->Bool->List Int->ByteArray × Int
 | [],held,buf=>bif held then (⟨#[]⟩,50) else ((QQ2 buf),0)
 | x_ :: r,held,buf=>bif ((held&&(x_.2 != 34))&&(x_.2 != 92)) then bif ((held&&(x_.2 != 34))&&(x_.2 != 92)) then (⟨#[]⟩,50) else bif ((!held)&&(x_.2==92)) then Qf4 r true buf else Qf4 r false (QQ0 buf x_.2) else bif ((!held)&&(x_.2==34)) then (⟨#[]⟩,50) else bif ((!held)&&(x_.2==92)) then Qf4 r true buf else Qf4 r false (QQ0 buf x_.2)
def Qu3 (s:ByteArray):ByteArray × Int:=bif ((Ql5 s).2 != 0) then (⟨#[]⟩,(Ql5 s).2) else bif (((decide ((ByteArray.size s:Int)<2))||(((s.data.toList.getD 0 0).toNat:Int)!=34))||(((s.data.toList.getD ((w64 ((ByteArray.size s:Int) - 1)).toNat) 0).toNat:Int)!=34)) then (⟨#[]⟩,50) else Qf4 (Qf8 (s.extract 1 ((w64 ((ByteArray.size s:Int) - 1)).toNat))) false []
theorem b3a0 {P:Prop} (h:P:=by first|(have hsz:=extract_size s 1 ((w64 ((ByteArray.size s:Int) - 1)).toNat);refine ⟨?_,?_,?_⟩ <;> (try dsimp only) <;> first|omega|with_reducible exact QDb|with_reducible exact hx.2.2|with_reducible exact byteIn_rune _ _ hx.2.2|exact yHa (QKc _ _) oA|(simp;done))|exact exA):P:=h
theorem Qtb (s:ByteArray) (hs0:s.size<=4294967296) (hp0:ByteArray.size s<=1000000):GV 336 [Sg s] (AVal.tup [Sg ((Qu3 s).1),I ((Qu3 s).2)]):=by
 generalize hR:Qu3 s=R;refine gA (kp 10 [16,33,39,40,41,43,59,68]) Tryz.func336 ?_;have hk0:=hs0;obtain z19:s.size<=4294967296:=hs0;have hw0:w64 ((ByteArray.size s:Int) - 1)=(ByteArray.size s:Int) - 1:=wr oA;refine us (QJd s szA _) ?_;apply ai<;>intro h1
 ·exact lfA
 ·refine ai gkA ?_;refine ai gkA ?_;apply ai<;>intro h3
  ·obtain rfl:=foll hR (cf h1 (ct h3 rfl));exact Qc0 (Low.tup' (l1 (l1 .nil))) (Seen.tup (e1 (e1 .nil)))
  ·refine ai gkA ?_;refine Qh9 (fun (held:Bool) (buf:List Int) (pos:Nat)=>∃ m,ByteArray.size (s.extract 1 ((w64 ((ByteArray.size s:Int) - 1)).toNat)) - pos<=m∧Qf4 (QL4 (s.extract 1 ((w64 ((ByteArray.size s:Int) - 1)).toNat)) m pos) held buf=R∧buf.length<=4*pos∧pos<=ByteArray.size s∧Qj8 buf) (fun held buf pos=>ByteArray.size (s.extract 1 ((w64 ((ByteArray.size s:Int) - 1)).toNat)) - pos) (fun held buf pos=>[(2,Sg ⟨#[]⟩),(3,I 0),(6,AVal.ptr 0 0 2 0 0),(7,Bo held),(39,AVal.ptr 1 0 1 0 0)]) (fun held buf pos=>[(0,AObj.row 339 2 [[AVal.sel 0 0 2 0 0,AVal.buf 2 0 1 buf.length]]),(0,AObj.other (.strIter (s.extract 1 ((w64 ((ByteArray.size s:Int) - 1)).toNat)) pos)),(0,AObj.row 5 1 (buf.map (fun q_=>[Y q_])))]) false [] 0 ((QC1 5 1).trans (wk [0,1,2] (tO rfl (Qi3 (cv (turn_selnil) (cv (turn_nilbuf 2 rfl) .nil))) (tO rfl (.strIter _ _) (tO rfl (tl eqA) .nil))) (s1 (s1 (sv (Qm1 0 rfl rfl) (s1 (sv (Qm1 1 rfl rfl) .nil))))))) ⟨ByteArray.size (s.extract 1 ((w64 ((ByteArray.size s:Int) - 1)).toNat)),by exact omA,foll hR (cf h1 (cf h3 rfl)),b3a0⟩ ?_;clear hR;rintro held buf pos ⟨m,hm,hR,hx⟩;(try dsimp only at hR hm hx);apply ai<;>intro h5
   ·have hlt:=yda h5;have hw:=Q09 (s.extract 1 ((w64 ((ByteArray.size s:Int) - 1)).toNat)) pos;have hwe:=QZ8 (s.extract 1 ((w64 ((ByteArray.size s:Int) - 1)).toNat)) pos hlt;obtain ⟨m,rfl⟩:=sucA m;rw [Qy3 h5] at hR;refine ai (fun _=>?_) (fun h=>nomatch h);apply ai<;>intro h7
    ·apply ai<;>intro h9
     ·exact lfA
     ·apply ai<;>intro h11
      ·exact QU4 true buf (pos+(Utf8.decode (s.extract 1 ((w64 ((ByteArray.size s:Int) - 1)).toNat)) pos).2) (wk [0,1,2] (tO rfl (Qi3 (cv (turn_sel 0 rfl rfl) (cv (turn_buf 2 rfl rfl) .nil))) (tO rfl (.strIter _ _) (tO rfl (tl eqA) .nil))) (s1 (s1 (sv (Qm1 0 rfl rfl) (s1 (sv (Qm1 1 rfl rfl) .nil)))))) omA ⟨m,by exact omA,foll hR (ct h7 (cf h9 (ct h11 rfl))),b3a0⟩
      ·refine us (mv [0,2] (Q6g buf ((pos,((Utf8.decode (s.extract 1 ((w64 ((ByteArray.size s:Int) - 1)).toNat)) pos).1:Int)).2) szA) (dO (dc (dv (dn_sel rfl) (dv (dn_buf rfl) .nil))) (dO (dr eqA) .nil)) (dp (d1 .nil)) (rO (rc (rv (rp 0 0 rfl) (rv (rw_ 3 0 rfl) .nil))) (rO rr .nil)) (Ren.low _ (Low.tup' (l1 (l1 .nil))))) ?_;exact QU4 false (QQ0 buf (pos,((Utf8.decode (s.extract 1 ((w64 ((ByteArray.size s:Int) - 1)).toNat)) pos).1:Int)).2) (pos+(Utf8.decode (s.extract 1 ((w64 ((ByteArray.size s:Int) - 1)).toNat)) pos).2) (wk [0,1,3] (tO rfl (Qi3 (cv (QJc 0 rfl rfl) (cv (QIh 2 rfl rfl lnA (by first|with_reducible exact QF9 _ _|(simp;done)|grind)) .nil))) (tO rfl (.strIter _ _) (tO rfl (tl eqA) .nil))) (s1 (s1 (sv (Qm1 0 rfl rfl) (s1 (sv (Qm1 1 rfl rfl) .nil)))))) omA ⟨m,by exact omA,foll hR (ct h7 (cf h9 (cf h11 rfl))),b3a0⟩
    ·apply ai<;>intro h13
     ·exact lfA
     ·apply ai<;>intro h15
      ·exact QU4 true buf (pos+(Utf8.decode (s.extract 1 ((w64 ((ByteArray.size s:Int) - 1)).toNat)) pos).2) (wk [0,1,2] (tO rfl (Qi3 (cv (turn_sel 0 rfl rfl) (cv (turn_buf 2 rfl rfl) .nil))) (tO rfl (.strIter _ _) (tO rfl (tl eqA) .nil))) (s1 (s1 (sv (Qm1 0 rfl rfl) (s1 (sv (Qm1 1 rfl rfl) .nil)))))) omA ⟨m,by exact omA,foll hR (cf h7 (cf h13 (ct h15 rfl))),b3a0⟩
      ·refine us (mv [0,2] (Q6g buf ((pos,((Utf8.decode (s.extract 1 ((w64 ((ByteArray.size s:Int) - 1)).toNat)) pos).1:Int)).2) szA) (dO (dc (dv (dn_sel rfl) (dv (dn_buf rfl) .nil))) (dO (dr eqA) .nil)) (dp (d1 .nil)) (rO (rc (rv (rp 0 0 rfl) (rv (rw_ 3 0 rfl) .nil))) (rO rr .nil)) (Ren.low _ (Low.tup' (l1 (l1 .nil))))) ?_;exact QU4 false (QQ0 buf (pos,((Utf8.decode (s.extract 1 ((w64 ((ByteArray.size s:Int) - 1)).toNat)) pos).1:Int)).2) (pos+(Utf8.decode (s.extract 1 ((w64 ((ByteArray.size s:Int) - 1)).toNat)) pos).2) (wk [0,1,3] (tO rfl (Qi3 (cv (QJc 0 rfl rfl) (cv (QIh 2 rfl rfl lnA (by first|with_reducible exact QF9 _ _|(simp;done)|grind)) .nil))) (tO rfl (.strIter _ _) (tO rfl (tl eqA) .nil))) (s1 (s1 (sv (Qm1 0 rfl rfl) (s1 (sv (Qm1 1 rfl rfl) .nil)))))) omA ⟨m,by exact omA,foll hR (cf h7 (cf h13 (cf h15 rfl))),b3a0⟩
   ·rw [Qd6 h5] at hR;refine ai (fun h=>nomatch h) (fun _=>?_);apply ai<;>intro h17
    ·exact lfA
    ·refine us (mv [0,2] (String_c buf (by first|(with_reducible exact hx.2.2)|first|assumption|exact QDb|grind) szA) (dO (dc (dv (dn_any) (dv (dn_bufbuf rfl) .nil))) (dO (dr eqA) .nil)) (dp .nil) (rO (re (.cons Low.any (.cons Low.any .nil))) .nil) rx) ?_;exact lfA
def Q26 (l:List Usage):List Usage->Nat->Int
 | [],_=>0
 | x_ :: r,i=>bif ((((((!(QT6 x_.user))||(!(QT6 x_.account)))||(x_.used != (Q25 x_.used)))||(decide (x_.share<0)))||(decide (x_.share > x_.used)))||((decide ((i:Int) > 0))&&(decide ((Qq8 (l.getD ((w64 ((i:Int) - 1)).toNat) zJ) x_) >= 0)))) then 2 else Q26 l r (i+1)
def Qp8 (l:List Usage):Int:=bif (decide ((l.length:Int) > 200)) then 2 else Q26 l l 0
theorem ledger_Check_c (l:List Usage) (hs0:l.length<=4294967296∧(∀ y ∈ l,y.sz)):GV 122 [QI2 l] (I (Qp8 l)):=by
 generalize hR:Qp8 l=R;refine gA (kp 5 [7,8,9,10,11,58]) Tryz.func122 ?_;obtain ⟨z9,z10⟩:=id hs0;apply ai<;>intro h1
 ·have qh1:=yda h1;exact lfA
 ·have qh1:=yca h1;refine Qg0 (fun (i:Nat)=>Q26 l (List.drop i l) i=R∧i<=l.length) (fun i=>l.length - i) (fun i=>[(0,QI2 l),(2,I 0),(8,QI2 l),(9,I (l.length:Int)),(10,I (i:Int))]) (fun i=>[]) 0 (wkA []) ⟨folA,by exact omA⟩ ?_;clear hR;rintro i ⟨hR,hj⟩;(try dsimp only at hR hj);apply ai<;>intro h3
  ·have hlt:=ltA h3;rw [Qa0 zJ hlt] at hR;have hxz:(l.getD i zJ).sz:=Qp4 (by first|assumption|grind) (Usage.szz _);have hkz:=hxz;obtain ⟨z5,z6⟩:=Usage.zz hxz;refine ai gkA ?_;refine dchk (by kernel_rfl) ?_;(first|apply u2|apply u3|apply u4|apply us);exact QQ8 ((l.getD i zJ).user) _;(first|apply u2|apply u3|apply u4|apply us);exact QQ8 ((l.getD i zJ).account) _;(first|apply u2|apply u3|apply u4|apply us);exact QDa ((l.getD i zJ).used) _;refine ai gkA ?_;(first|apply u2|apply u3|apply u4|apply us);exact Q5c (l.getD ((w64 ((i:Int) - 1)).toNat) zJ) (l.getD i zJ) szA szA _;(repeat ((first|refine ai rfl ?_|refine ai (fun _=>rfl) ?_|refine ai (fun _=>QQ8 ((l.getD i zJ).user) _) ?_|refine ai (fun _=>QQ8 ((l.getD i zJ).account) _) ?_|refine ai (fun _=>QDa ((l.getD i zJ).used) _) ?_|refine ai (fun _=>Q5c (l.getD ((w64 ((i:Int) - 1)).toNat) zJ) (l.getD i zJ) szA szA _) ?_)));apply ai<;>intro h7
   ·exact lfA
   ·exact Qn0 (i+1) (wkA []) omA ⟨folA,by exact omA⟩
  ·rw [Qd0 (l:=l) (j:=i) (geA h3)] at hR;exact lfA
def Qoa (p_:List Step) (at_:Int) (long:Int) (nodes:Int):Bool:=bif ((((Q42 p_)!=0)||(!(Qpa long nodes)))||(!(Qw5 at_ 0 (w64 (1000000 - long))))) then false else (decide ((Qo6 p_ at_ (w64 (at_+long))) >= nodes))
theorem fit_Fits_c (p_:List Step) (at_:Int) (long:Int) (nodes:Int) (hs0:p_.length<=4294967296):GV 34 [stepL p_,I at_,I long,I nodes] (Bo (Qoa p_ at_ long nodes)):=by
 generalize hR:Qoa p_ at_ long nodes=R;refine gA (kp 9 [24]) Tryz.func34 ?_;have hk0:=hs0;obtain z3:p_.length<=4294967296:=hs0;refine us (Qq7 p_ szA _) ?_;(first|apply u2|apply u3|apply u4|apply us);exact fit_asks_c long nodes _;(first|apply u2|apply u3|apply u4|apply us);exact Q0b at_ 0 (w64 (1000000 - long)) _;apply ai<;>intro h1
 ·exact lfA
 ·refine us (QXg p_ at_ (w64 (at_+long)) szA _) ?_;exact lfA
def Qw1 (t:Taken) (from_:Int) (to_:Int) (n:Int):Taken:=bif ((decide (to_<=from_))||(n==0)) then t else bif ((QV2 t.p from_ to_ (w64 (0 - n))).2==0) then (⟨(QV2 t.p from_ to_ (w64 (0 - n))).1⟩:Taken) else t
theorem Q28 (t:Taken) (from_:Int) (to_:Int) (n:Int) (hs0:t.sz):AMoves Tryz.prog 92 [AVal.ptr 0 0 1 0 0,I from_,I to_,I n] [(0,AObj.row 145 1 [[stepL t.p]])] 1 (AVal.tup []) [(0,AObj.row 145 1 [[stepL ((Qw1 t from_ to_ n).p)]])]:=by
 generalize hR:Qw1 t from_ to_ n=R;refine mo (kp 10 [16,30]) Tryz.func92 ?_;have hk0:=hs0;obtain z5:t.p.length<=4294967296:=hs0;apply ai<;>intro h1
 ·obtain rfl:=foll hR (ct h1 rfl);exact rq (ttA [0])
 ·refine us (profile_Add_c t.p from_ to_ (w64 (0 - n)) szA _) ?_;apply ai<;>intro h3
  ·obtain rfl:=foll hR (cf h1 (ct h3 rfl));exact rq (ttA [0])
  ·obtain rfl:=foll hR (cf h1 (cf h3 rfl));exact rq (ttA [0])
theorem QKa {t:Taken} {f g n:Int} (h:t.p.length<=4294967296):(Qw1 t f g n).p.length<=4294967296:=by
 unfold Qw1
 repeat' first|exact h|exact QWg _ _ _ _ h|(rw [yAa];split)
theorem flat_len (n:Int):(QN2 n).length<=4294967296:=by simp [QN2]
def Q01 (s:Int) (n:Int):Int × Bool:=bif ((decide (n<0))||(decide (n > (Q10 s)))) then (0,false) else ((wu64 (BitVec.ofInt 64 s &&& ~~~(BitVec.ofInt 64 (Qq1 s (w64 ((Q10 s) - n))).1)).toNat),true)
theorem Qke (s:Int) (n:Int):GV 37 [U s,I n] (AVal.tup [U ((Q01 s n).1),Bo ((Q01 s n).2)]):=by
 generalize hR:Q01 s n=R;refine gA (kp 8 [15]) Tryz.func37 ?_;(first|apply u2|apply u3|apply u4|apply us);exact Qh1 s _;apply ai<;>intro h1
 ·exact lfA
 ·refine us (Qh1 s _) ?_;refine us (QPa s (w64 ((Q10 s) - n)) _) ?_;exact lfA
def Qa4 (s:ByteArray):Nat->List Int->Int->(List Int) × Int
 | 0,_,_=>([],0)
 | m+1,out,i=>bif (decide (i<(w64 ((ByteArray.size s:Int) - 1)))) then bif ((((s.data.toList.getD (i.toNat) 0).toNat:Int)==92)&&(decide ((w64 (i+1))<(w64 ((ByteArray.size s:Int) - 1))))) then Qa4 s m (out++([((s.data.toList.getD ((w64 (i+1)).toNat) 0).toNat:Int)]:List Int)) (w64 ((w64 (i+1))+1)) else Qa4 s m (out++([((s.data.toList.getD (i.toNat) 0).toNat:Int)]:List Int)) (w64 (i+1)) else (out,i)
def Qb4 (s:ByteArray) (out:List Int) (i:Int):ByteArray × Int:=bif (((Qj9 (QQ2 out)).2 != 0)||(!(ByteArray.toList (Qj9 (QQ2 out)).1==ByteArray.toList s))) then (⟨#[]⟩,50) else ((QQ2 out),0)
def Qq6 (s:ByteArray):ByteArray × Int:=bif ((Q04 s).2 != 0) then (⟨#[]⟩,(Q04 s).2) else Qb4 s ((Qa4 s ((((w64 ((ByteArray.size s:Int) - 1)) - 1).toNat)+1) [] 1).1) ((Qa4 s ((((w64 ((ByteArray.size s:Int) - 1)) - 1).toNat)+1) [] 1).2)
theorem Q1h (s:ByteArray) (hs0:s.size<=4294967296):GV 342 [Sg s] (AVal.tup [Sg ((Qq6 s).1),I ((Qq6 s).2)]):=by
 generalize hR:Qq6 s=R;refine gA (kp 10 [16,22,36,57]) Tryz.func342 ?_;have hk0:=hs0;obtain z9:s.size<=4294967296:=hs0;refine us (Qza s szA _) ?_;apply ai<;>intro h1
 ·exact lfA
 ·refine Qb0 (fun (out:List Int) (i:Int)=>∃ m,(((w64 ((ByteArray.size s:Int) - 1)) - i).toNat)<m∧Qb4 s (Qa4 s m out i).1 (Qa4 s m out i).2=R∧1<=i∧i<=(ByteArray.size s:Int)+1∧(out.length:Int)+1<=i) (fun out i=>(((w64 ((ByteArray.size s:Int) - 1)) - i).toNat)) (fun out i=>[(0,Sg s),(2,Sg ⟨#[]⟩),(3,I 0),(6,AVal.own 0 0 1 0 out.length),(7,I i)]) (fun out i=>[(0,AObj.row 5 1 (out.map (fun q_=>[Y q_])))]) [] 1 ((QC1 5 1).trans (wkA [0])) ⟨_,yCa _,foll hR (cf h1 rfl),by exact exA⟩ ?_;clear hR;rintro out i ⟨m,hm,hR,hx⟩;(try dsimp only at hR hm hx);obtain ⟨m,rfl⟩:=sucA m;apply ai<;>intro h3
  ·have qh3:=yda h3;have hq1:i<w64 ((ByteArray.size s:Int) - 1):=yda h3;have hw0:w64 ((ByteArray.size s:Int) - 1)=(ByteArray.size s:Int) - 1:=wr oA;rw [hw0] at hq1;have hw1:w64 (i+1)=i+1:=wr oA;have hw2:w64 (i+1+1)=i+1+1:=wr oA;refine ai gkA ?_;apply ai<;>intro h5
   ·refine ai gkA ?_;refine Or.inl ?_;(first|refine ⟨Qn1 1 rfl lnA apA,?_⟩|refine ⟨QD0 1 rfl apA,?_⟩);exact Q60 (out++([((s.data.toList.getD ((w64 (i+1)).toNat) 0).toNat:Int)]:List Int)) (w64 ((w64 (i+1))+1)) (wkA [0]) omA ⟨m,by exact omA,foll hR (congrArg (fun p:(List Int) × Int=>Qb4 s p.1 p.2) (ct h3 (ct h5 rfl))),by exact exA⟩
   ·refine ai gkA ?_;refine Or.inl ?_;(first|refine ⟨Qn1 1 rfl lnA apA,?_⟩|refine ⟨QD0 1 rfl apA,?_⟩);exact Q60 (out++([((s.data.toList.getD (i.toNat) 0).toNat:Int)]:List Int)) (w64 (i+1)) (wkA [0]) omA ⟨m,by exact omA,foll hR (congrArg (fun p:(List Int) × Int=>Qb4 s p.1 p.2) (ct h3 (cf h5 rfl))),by exact exA⟩
  ·have qh3:=yca h3;replace hR:Qb4 s out i=R:=fo2 (fun p:(List Int) × Int=>Qb4 s p.1 p.2) (out,i) hR (cf h3 rfl);(first|refine ⟨out,by exact cvA,?_⟩|refine ⟨_,fun _=>⟨out,by exact cvA,rfl,rfl⟩,?_⟩|refine ⟨_,rfl,⟨out,by exact cvA,Sub.refl _,rfl⟩,?_⟩);refine us (ref04_Quote_c (QQ2 out) szA _) ?_;apply ai<;>intro h7
   ·exact lfA
   ·(first|refine ⟨out,by exact cvA,?_⟩|refine ⟨_,fun _=>⟨out,by exact cvA,rfl,rfl⟩,?_⟩|refine ⟨_,rfl,⟨out,by exact cvA,Sub.refl _,rfl⟩,?_⟩);exact lfA
def Qt2 (s:Shape) (choice:Int):Int:=bif ((decide (choice<0))||(decide (choice >= ((Qi0 s).length:Int)))) then 0 else ((Qi0 s).getD (choice.toNat) zA).wall
theorem Q0f (s:Shape) (choice:Int) (hs0:s.sz):GV 285 [Shape.a s,I choice] (I (Qt2 s choice)):=by
 generalize hR:Qt2 s choice=R;refine gA (kp 6 [15]) Tryz.func285 ?_;have hk0:=hs0;obtain z3:s.alts.length<=4294967296:=hs0;have hf0:=Q3a s hk0;refine us (Qs7 s szA _) ?_;apply ai<;>intro h1
 ·exact lfA
 ·refine ai gkA ?_;exact lfA
def Q36 (s:Shape) (choice:Int) (n:Int):List Alt->Nat->Bool
 | [],_=>false
 | x_ :: r,i=>bif ((x_.nodes==n)&&(((i:Int)==choice)||(s.kind==3))) then true else Q36 s choice n r (i+1)
def Qt8 (s:Shape) (choice:Int) (n:Int):Bool:=bif ((decide (choice<0))||(decide (choice >= ((Qi0 s).length:Int)))) then false else Q36 s choice n (Qi0 s) 0
theorem ref07_Allows_c (s:Shape) (choice:Int) (n:Int) (hs0:s.sz):GV 287 [Shape.a s,I choice,I n] (Bo (Qt8 s choice n)):=by
 generalize hR:Qt8 s choice n=R;refine gA (kp 9 [18,22,41]) Tryz.func287 ?_;have hk0:=hs0;obtain z7:s.alts.length<=4294967296:=hs0;have hf0:=Q3a s hk0;refine us (Qs7 s szA _) ?_;apply ai<;>intro h1
 ·exact lfA
 ·refine Qg0 (fun (i:Nat)=>Q36 s choice n (List.drop i (Qi0 s)) i=R∧i<=(Qi0 s).length) (fun i=>(Qi0 s).length - i) (fun i=>[(1,I choice),(2,I n),(3,AVal.ptr 0 0 5 0 0),(6,Bo false),(7,altL (Qi0 s)),(8,I (i:Int))]) (fun i=>[(0,AObj.row 69 5 [[I s.kind,altL s.alts,I s.min,I s.max,I s.wall]])]) 0 (wkA [0]) ⟨folA,by exact omA⟩ ?_;clear hR;rintro i ⟨hR,hj⟩;(try dsimp only at hR hj);apply ai<;>intro h3
  ·have hlt:=ltA h3;rw [Qa0 zA hlt] at hR;refine ai gkA ?_;apply ai<;>intro h5
   ·exact lfA
   ·exact Qn0 (i+1) (wkA [0]) omA ⟨folA,by exact omA⟩
  ·rw [Qd0 (l:=(Qi0 s)) (j:=i) (geA h3)] at hR;exact lfA
def QZ2 (x_:Node) (n:Int) (r_:Resize):Bool:=bif r_.grow then bif (!((Q62 r_.nodes n)==(x_.state==2))) then false else (((!(Q62 r_.nodes n))||((Q62 r_.said n)&&(x_.want==0)))||((!(Q62 r_.said n))&&(x_.want==2))) else bif (((Q62 r_.nodes n)&&(x_.state != 1))||((!(Q62 r_.nodes n))&&(x_.want==4))) then false else (((!(Q62 r_.nodes n))||((Q62 r_.said n)&&(x_.want==0)))||((!(Q62 r_.said n))&&(x_.want==4)))
theorem ref25_moved_c (x_:Node) (n:Int) (r_:Resize):GV 162 [Node.a x_,I n,Resize.a r_] (Bo (QZ2 x_ n r_)):=by
 generalize hR:QZ2 x_ n r_=R;refine gA (kp 9 [18,23,57]) Tryz.func162 ?_;refine dchk (by kernel_rfl) ?_;(first|apply u2|apply u3|apply u4|apply us);exact QY2 r_.nodes n _;(first|apply u2|apply u3|apply u4|apply us);exact QY2 r_.said n _;(repeat ((first|refine ai rfl ?_|refine ai (fun _=>rfl) ?_|refine ai (fun _=>QY2 r_.nodes n _) ?_|refine ai (fun _=>QY2 r_.said n _) ?_)));apply ai<;>intro h1
 ·apply ai<;>intro h3
  ·exact lfA
  ·exact lfA
 ·apply ai<;>intro h5
  ·exact lfA
  ·exact lfA
def Qe4 (s:State) (n:Int):Bool:=bif (((((s.nodes.getD (n.toNat) zF).state==1)&&((!(Q70 s ((s.nodes.getD (n.toNat) zF).job)).2)||(!(Q62 ((Q70 s ((s.nodes.getD (n.toNat) zF).job)).1.nodes) n))))||(((s.nodes.getD (n.toNat) zF).state==2)&&(!(Q70 s ((s.nodes.getD (n.toNat) zF).job)).2)))||(((s.nodes.getD (n.toNat) zF).state==3)&&(decide ((s.nodes.getD (n.toNat) zF).job >= s.nextJob)))) then false else bif (((s.nodes.getD (n.toNat) zF).state==2)||((s.nodes.getD (n.toNat) zF).want==4)) then (Q62 ((QU5 s ((s.nodes.getD (n.toNat) zF).job)).nodes) n) else true
theorem ref25_node_c (s:State) (n:Int) (hs0:s.sz) (hp0:0<=n∧n<(s.nodes.length:Int)):GV 105 [State.a s,I n] (Bo (Qe4 s n)):=by
 generalize hR:Qe4 s n=R;refine gA (kp 8 [54,62]) Tryz.func105 ?_;have hk0:=hs0;obtain ⟨z5,z6,z7,z8,z9,z10,z11⟩:=hs0;refine ai gkA ?_;refine us (Qch s ((s.nodes.getD (n.toNat) zF).job) szA _) ?_;(first|apply u2|apply u3|apply u4|apply us);exact QY2 ((Q70 s ((s.nodes.getD (n.toNat) zF).job)).1.nodes) n _;apply ai<;>intro h1
 ·exact lfA
 ·apply ai<;>intro h3
  ·refine us (ref25_of_c s ((s.nodes.getD (n.toNat) zF).job) szA _) ?_;refine us (QY2 ((QU5 s ((s.nodes.getD (n.toNat) zF).job)).nodes) n _) ?_;exact lfA
  ·exact lfA
def Qd2 (p_:List Step) (from_:Int) (to_:Int) (n:Int):(List Step):=bif ((Qi2 p_ from_ to_ (w64 (0 - n))).2 != 0) then p_ else (Qi2 p_ from_ to_ (w64 (0 - n))).1
theorem QB9 (p_:List Step) (from_:Int) (to_:Int) (n:Int) (hs0:p_.length<=4294967296):GV 170 [stepL p_,I from_,I to_,I n] (stepL (Qd2 p_ from_ to_ n)):=by
 generalize hR:Qd2 p_ from_ to_ n=R;refine gA (kp 11 [21]) Tryz.func170 ?_;have hk0:=hs0;obtain z3:p_.length<=4294967296:=hs0;refine us (ref10_Add_c p_ from_ to_ (w64 (0 - n)) szA _) ?_;apply ai<;>intro h1
 ·exact lfA
 ·exact lfA
theorem ref10_Add_len (p:List Step) (f t n:Int):(Qi2 p f t n).1.length<=4294967296:=by
 have k2:∀ c i,(Qe3 c i).1.length<=4294967296:=by
  intro c i;unfold Qe3;cases h:((QW0 c)!=0) with
  | true=>simp
  | false=>have:=Qv7 h;simp only [cond_false];omega
 unfold Qi2 Qd7
 repeat' first|exact k2 _ _|(simp;done)|(rw [yAa];split)
theorem Qn7 {p:List Step} {f t n:Int} (h:p.length<=4294967296):(Qd2 p f t n).length<=4294967296:=by
 unfold Qd2
 repeat' first|exact h|exact ref10_Add_len _ _ _ _|(rw [yAa];split)
theorem Qsb (n:Int):(QB5 n).length<=4294967296:=by
 unfold QB5 Qw7
 repeat' first|(simp;done)|(rw [yAa];split)
def Q50 (j:Job):Int × Int × Int × Bool:=bif ((j.state != 1)||(j.promise==(-1))) then (0,0,0,false) else (j.promise,(w64 (((Qi0 j.shape).getD (j.choice.toNat) zA).wall+12)),((Qi0 j.shape).getD (j.choice.toNat) zA).nodes,true)
theorem Qbh (j:Job) (hs0:j.sz) (hp0:((j.state != 1)||(j.promise==(-1)))=false->0<=j.choice∧j.choice<((Qi0 j.shape).length:Int)):GV 171 [Job.a j] (AVal.tup [I ((Q50 j).1),I ((Q50 j).2.1),I ((Q50 j).2.2.1),Bo ((Q50 j).2.2.2)]):=by
 generalize hR:Q50 j=R;refine gA (kp 7 [14]) Tryz.func171 ?_;obtain ⟨z3,z4,z5,z6,z7⟩:=Job.zz hs0;refine ai (fun h1=>?_) (fun h2=>?_)
 ·exact lfA
 ·refine dchk (by kernel_rfl) ?_;(first|apply u2|apply u3|apply u4|apply us);exact Qs7 j.shape szA _;refine And.intro (by first|exact fun hg=>yga (by first|((have q:=hp0 (by assumption);omega))|exact ckA)|exact gkA) ?_;(repeat ((first|refine ai rfl ?_|refine ai (fun _=>rfl) ?_|refine ai (fun _=>Qs7 j.shape szA _) ?_)));(try (refine dchk (by kernel_rfl) ?_));(repeat ((first|refine ai rfl ?_|refine ai (fun _=>rfl) ?_)));exact lfA
def QB2 (l:List Node):List Int->List Note->Nat->(List Note) × Nat
 | [],out,i=>(out,i)
 | x_ :: r,out,i=>bif (Qr6 l x_).2 then QB2 l r (out++([(Qr6 l x_).1]:List Note)) (i+1) else QB2 l r out (i+1)
def QE5 (out:List Note) (i:Nat):(List Note):=out
def QX7 (l:List Node) (nodes:List Int):(List Note):=QE5 ((QB2 l nodes [] 0).1) ((QB2 l nodes [] 0).2)
theorem ref13_Notes_c (l:List Node) (nodes:List Int) (hs0:l.length<=4294967296) (hs1:nodes.length<=4294967296):GV 114 [nodeL l,ints nodes] (noteL (QX7 l nodes)):=by
 generalize hR:QX7 l nodes=R;refine gA (kp 9 [12,24]) Tryz.func114 ?_;have hk0:=hs0;obtain z5:l.length<=4294967296:=hs0;have hk1:=hs1;obtain z6:nodes.length<=4294967296:=hs1;refine Qb0 (fun (out:List Note) (i:Nat)=>QE5 (QB2 l (List.drop i nodes) out i).1 (QB2 l (List.drop i nodes) out i).2=R∧i<=nodes.length∧out.length<=i) (fun out i=>nodes.length - i) (fun out i=>[(0,nodeL l),(1,ints nodes),(4,AVal.lit (.slice none 0 0)),(5,AVal.own 0 0 4 0 out.length),(6,I (i:Int))]) (fun out i=>[(0,AObj.row 41 4 (out.map Note.cells))]) [] 0 ((QC1 41 4).trans (wkA [0])) ⟨foll hR rfl,by exact omA,by exact exA⟩ ?_;clear hR;rintro out i ⟨hR,hj,hx⟩;(try dsimp only at hR hj hx);apply ai<;>intro h1
 ·have hlt:=ltA h1;rw [Qa0 0 hlt] at hR;refine ai gkA ?_;refine us (ref12_Note_c l (nodes.getD i 0) szA _) ?_;apply ai<;>intro h3
  ·refine Or.inl ?_;(first|refine ⟨Qn1 32 rfl lnA apA,?_⟩|refine ⟨QD0 32 rfl apA,?_⟩);exact Q60 (out++([(Qr6 l (nodes.getD i 0)).1]:List Note)) (i+1) (wkA [0]) omA ⟨foll hR (congrArg (fun p:(List Note) × Nat=>QE5 p.1 p.2) (ct h3 rfl)),by exact omA,by exact exA⟩
  ·exact Q60 out (i+1) (wkA [0]) omA ⟨foll hR (congrArg (fun p:(List Note) × Nat=>QE5 p.1 p.2) (cf h3 rfl)),by exact omA,by exact exA⟩
 ·rw [Qd0 (l:=nodes) (j:=i) (geA h1)] at hR;replace hR:QE5 out i=R:=fo2 (fun p:(List Note) × Nat=>QE5 p.1 p.2) (out,i) hR rfl;obtain rfl:=foll hR rfl;exact Qc0 lw (Qe0 zL _ rfl eqA lnA)
def Q53 (s:Int) (n:Int):Int × Bool:=bif ((decide (n<0))||(decide (n > ((Q40 s).length:Int)))) then (0,false) else ((Qs5 (List.drop ((w64 (((Q40 s).length:Int) - n)).toNat) (Q40 s))),true)
theorem Q6h (s:Int) (n:Int):GV 49 [U s,I n] (AVal.tup [U ((Q53 s n).1),Bo ((Q53 s n).2)]):=by
 generalize hR:Q53 s n=R;refine gA (kp 7 [16]) Tryz.func49 ?_;have hll:=(Qt7 s).1;refine us (Q56 s _) ?_;refine ai (fun h1=>?_) (fun h2=>?_)
 ·exact lfA
 ·refine And.intro (by first|exact fun hg=>yga (by first|((have hb:=Bool.or_eq_false_iff.1 h2;have hb1:=yca hb.1;have hb2:=yca hb.2;have hw:w64 (((Q40 s).length:Int) - n)=((Q40 s).length:Int) - n:=wr oA;simp only [yEa,yXb,hw];omega))|exact ckA)|exact gkA) ?_;refine us (AGives.as2 (Q7h (List.drop ((w64 (((Q40 s).length:Int) - n)).toNat) (Q40 s)) szA (by exact fun y hy=>by have:=(Qt7 s).2 y (yVa hy);omega) _) (av (as_drop (Q40 s) ((w64 (((Q40 s).length:Int) - n)).toNat) _ (by first|((have hb:=Bool.or_eq_false_iff.1 h2;have hb1:=yca hb.1;have hb2:=yca hb.2;have hw:w64 (((Q40 s).length:Int) - n)=((Q40 s).length:Int) - n:=wr oA;simp only [yEa,yXb,hw];omega))|exact leA)) .nil)) ?_;exact lfA
end Go.Proofs.YtackngeeehiegaaGreatDoor
namespace Go.Proofs.YtackngeeehiegaaGreatDoor
set_option linter.unusedSimpArgs false
set_option linter.unusedVariables false
open Go.Fw
set_option maxRecDepth 20000
set_option maxHeartbeats 4000000
attribute [local irreducible] ACalls AMoves
def QW8 (b:List Job):List Job->Nat->Bool
 | [],_=>true
 | x_ :: r,i=>bif (!(Q39 x_ (b.getD i zG))) then false else QW8 b r (i+1)
def QOb (a:List Job) (b:List Job):Bool:=bif ((a.length:Int)!=(b.length:Int)) then false else QW8 b a 0
theorem ref15_Same_c (a:List Job) (b:List Job) (hs0:a.length<=4294967296∧(∀ y ∈ a,y.sz)) (hs1:b.length<=4294967296∧(∀ y ∈ b,y.sz)):GV 53 [jobL a,jobL b] (Bo (QOb a b)):=by
 generalize hR:QOb a b=R;refine gA (kp 6 [10,14,26]) Tryz.func53 ?_;obtain ⟨z12,z13⟩:=id hs0;obtain ⟨z14,z15⟩:=id hs1;apply ai<;>intro h1
 ·exact lfA
 ·refine Qg0 (fun (i:Nat)=>QW8 b (List.drop i a) i=R∧i<=a.length) (fun i=>a.length - i) (fun i=>[(0,jobL a),(1,jobL b),(4,Bo false),(5,I (i:Int))]) (fun i=>[]) 0 (wkA []) ⟨folA,by exact omA⟩ ?_;clear hR;rintro i ⟨hR,hj⟩;(try dsimp only at hR hj);apply ai<;>intro h3
  ·have hlt:=ltA h3;rw [Qa0 zG hlt] at hR;have hxz:(a.getD i zG).sz:=Qp4 (by first|assumption|grind) (Job.szz _);have hkz:=hxz;obtain ⟨z5,z6,z7,z8,z9⟩:=Job.zz hxz;refine dchk (by kernel_rfl) ?_;refine ai gkA ?_;refine ai gkA ?_;(first|apply u2|apply u3|apply u4|apply us);exact QYe (a.getD i zG) (b.getD i zG) szA szA _;(repeat ((first|refine ai rfl ?_|refine ai (fun _=>rfl) ?_|refine ai (fun _=>QYe (a.getD i zG) (b.getD i zG) szA szA _) ?_)));apply ai<;>intro h10
   ·exact lfA
   ·exact Qn0 (i+1) (wkA []) omA ⟨folA,by exact omA⟩
  ·rw [Qd0 (l:=a) (j:=i) (geA h3)] at hR;exact lfA
def Qb2 :Nat->LexReader->Bool->LexReader × Bool
 | 0,_,_=>(zM,false)
 | m+1,c,c2=>bif ((decide (c.at_<(c.line.length:Int)))&&(Qu1 (c.line.getD (c.at_.toNat) 0) c2).1) then Qb2 m { c with at_:=(w64 (c.at_+1)) } (bif (decide (c.at_<(c.line.length:Int))) then (Qu1 (c.line.getD (c.at_.toNat) 0) c2).2 else c2) else (c,(bif (decide (c.at_<(c.line.length:Int))) then (Qu1 (c.line.getD (c.at_.toNat) 0) c2).2 else c2))
def QD2 (r_:LexReader) (c:LexReader) (c2:Bool):Token × LexReader:=bif (c.at_==(c.line.length:Int)) then (zD,(QZ0 c r_.at_ 50)) else bif ((c.line.getD (c.at_.toNat) 0)!=34) then (zD,(QZ0 c c.at_ 40)) else bif ((Qu3 (runesBytes (List.drop (r_.at_.toNat) (List.take ((w64 (c.at_+1)).toNat) c.line)))).2 != 0) then ((⟨4,(Qu3 (runesBytes (List.drop (r_.at_.toNat) (List.take ((w64 (c.at_+1)).toNat) c.line)))).1,0,0⟩:Token),(QZ0 { c with at_:=(w64 (c.at_+1)) } r_.at_ ((Qu3 (runesBytes (List.drop (r_.at_.toNat) (List.take ((w64 (c.at_+1)).toNat) c.line)))).2))) else ((⟨4,(Qu3 (runesBytes (List.drop (r_.at_.toNat) (List.take ((w64 (c.at_+1)).toNat) c.line)))).1,0,0⟩:Token),{ c with at_:=(w64 (c.at_+1)) })
def QZ1 (r_:LexReader):Token × LexReader:=QD2 r_ ((Qb2 ((((r_.line.length:Int) - r_.at_).toNat)+1) r_ true).1) ((Qb2 ((((r_.line.length:Int) - r_.at_).toNat)+1) r_ true).2)
theorem Qee (r_:LexReader) (hs0:r_.sz) (hp0:0<=r_.at_∧r_.at_<(r_.line.length:Int)∧r_.line.length<=400):AMoves Tryz.prog 318 [AVal.ptr 0 0 4 0 0] [(0,AObj.row 321 4 [[runes r_.line,I r_.at_,I r_.bad,I r_.error]])] 1 (Token.a ((QZ1 r_).1)) [(0,AObj.row 321 4 [[runes ((QZ1 r_).2.line),I ((QZ1 r_).2.at_),I ((QZ1 r_).2.bad),I ((QZ1 r_).2.error)]])]:=by
 generalize hR:QZ1 r_=R;refine mo (kp 7 [23,38,69]) Tryz.func318 ?_;have hk0:=hs0;obtain z9:r_.line.length<=4294967296:=hs0;refine ACalls.of_cwp (fun _=>true) Tryz.func307 rfl rfl ?_;refine Qb0 (fun (c:LexReader) (c2:Bool)=>∃ m,(((c.line.length:Int) - c.at_).toNat)<m∧QD2 r_ (Qb2 m c c2).1 (Qb2 m c c2).2=R∧0<=c.at_∧c.at_<=(c.line.length:Int)∧c.line.length<=400∧r_.at_<=c.at_∧0<=r_.at_) (fun c c2=>(((c.line.length:Int) - c.at_).toNat)) (fun c c2=>[(0,AVal.ptr 0 0 4 0 0),(1,AVal.fn (.func 335) [] [AVal.ptr 2 0 1 0 0]),(4,Sg ⟨#[]⟩),(5,I r_.at_)]) (fun c c2=>[(0,AObj.row 321 4 [[runes c.line,I c.at_,I c.bad,I c.error]]),(0,AObj.row 305 4 [[I 0,Sg ⟨#[]⟩,I 0,I 0]]),(0,AObj.row 4 1 [[Bo c2]])]) r_ true (wkA [0,1,2]) ⟨_,yCa _,foll hR rfl,by exact exA⟩ ?_;clear hR;rintro c c2 ⟨m,hm,hR,hx⟩;(try dsimp only at hR hm hx);obtain ⟨m,rfl⟩:=sucA m;refine dchk (by kernel_rfl) ?_;refine ai gkA ?_;refine ⟨_,[(0,AObj.row 321 4 [[runes c.line,I c.at_,I c.bad,I c.error]]),(0,AObj.row 305 4 [[I 0,Sg ⟨#[]⟩,I 0,I 0]]),(0,AObj.row 4 1 [[Bo (bif (decide (c.at_<(c.line.length:Int))) then (Qu1 (c.line.getD (c.at_.toNat) 0) c2).2 else c2)]])],fun hg=>(by rw [show (decide (c.at_<(c.line.length:Int)))=true from hg];exact mv [2] (QXb (c.line.getD (c.at_.toNat) 0) c2) (dO (ds (l1 LowL.nil)) .nil) (d1 (dp .nil)) (rO (re (l1 LowL.nil)) .nil) rx),fun hg=>(by rw [show (decide (c.at_<(c.line.length:Int)))=false from hg];rfl),?_⟩;(repeat ((first|refine ai rfl ?_|refine ai (fun _=>rfl) ?_)));apply ai<;>intro h1
 ·have hq1:=yda ((yea _ _).mp h1).1;have hwr:w64 (c.at_+1)=c.at_+1:=wr oA;exact Q60 { c with at_:=(w64 (c.at_+1)) } (bif (decide (c.at_<(c.line.length:Int))) then (Qu1 (c.line.getD (c.at_.toNat) 0) c2).2 else c2) (wk [0,1,2] (tO rfl (ts LexReader.lo) (tO rfl (ts Token.lo) (tO rfl (ts (l1 LowL.nil)) .nil))) (sv (Qm1 0 rfl rfl) (sv (QF8 .nil (cv (Qm1 2 rfl rfl) .nil)) (s1 (s1 .nil))))) omA ⟨m,by exact omA,foll hR (congrArg (fun p:LexReader × Bool=>QD2 r_ p.1 p.2) (ct h1 rfl)),by exact exA⟩
 ·replace hR:QD2 r_ c (bif (decide (c.at_<(c.line.length:Int))) then (Qu1 (c.line.getD (c.at_.toNat) 0) c2).2 else c2)=R:=fo2 (fun p:LexReader × Bool=>QD2 r_ p.1 p.2) (c,(bif (decide (c.at_<(c.line.length:Int))) then (Qu1 (c.line.getD (c.at_.toNat) 0) c2).2 else c2)) hR (cf h1 rfl);refine dchk (by kernel_rfl) ?_;refine ai gkA ?_;(first|refine ⟨(List.drop (r_.at_.toNat) (List.take (c.at_.toNat) c.line)),by exact cvA,?_⟩|refine ⟨_,fun _=>⟨(List.drop (r_.at_.toNat) (List.take (c.at_.toNat) c.line)),by exact cvA,rfl,rfl⟩,?_⟩|refine ⟨_,rfl,⟨(List.drop (r_.at_.toNat) (List.take (c.at_.toNat) c.line)),by exact cvA,Sub.refl _,rfl⟩,?_⟩);(repeat ((first|refine ai rfl ?_|refine ai (fun _=>rfl) ?_)));refine ⟨_,_,Told.refl,?_⟩;refine dchk (by kernel_rfl) ?_;(repeat ((first|refine ai rfl ?_|refine ai (fun _=>rfl) ?_)));apply ai<;>intro h3
  ·refine us (mv [0] (QQ3 c r_.at_ 50) (dO (ds LexReader.lo) .nil) (dp (d1 (d1 .nil))) (rO (re LexReader.lo) .nil) rx) ?_;obtain rfl:=foll hR (ct h3 rfl);exact rq (ttA [0])
  ·refine dchk (by kernel_rfl) ?_;refine ai gkA ?_;(repeat ((first|refine ai rfl ?_|refine ai (fun _=>rfl) ?_)));apply ai<;>intro h5
   ·refine us (mv [0] (QQ3 c c.at_ 40) (dO (ds LexReader.lo) .nil) (dp (d1 (d1 .nil))) (rO (re LexReader.lo) .nil) rx) ?_;obtain rfl:=foll hR (cf h3 (ct h5 rfl));exact rq (ttA [0])
   ·refine dchk (by kernel_rfl) ?_;refine ai gkA ?_;(first|refine ⟨(List.drop (r_.at_.toNat) (List.take ((w64 (c.at_+1)).toNat) c.line)),by exact cvA,?_⟩|refine ⟨_,fun _=>⟨(List.drop (r_.at_.toNat) (List.take ((w64 (c.at_+1)).toNat) c.line)),by exact cvA,rfl,rfl⟩,?_⟩|refine ⟨_,rfl,⟨(List.drop (r_.at_.toNat) (List.take ((w64 (c.at_+1)).toNat) c.line)),by exact cvA,Sub.refl _,rfl⟩,?_⟩);(first|apply u2|apply u3|apply u4|apply us);exact Qtb (runesBytes (List.drop (r_.at_.toNat) (List.take ((w64 (c.at_+1)).toNat) c.line))) szA (by refine yHa (QC7 _) ?_;simp only [ywa,yta];omega) _;(repeat ((first|refine ai rfl ?_|refine ai (fun _=>rfl) ?_|refine ai (fun _=>Qtb (runesBytes (List.drop (r_.at_.toNat) (List.take ((w64 (c.at_+1)).toNat) c.line))) szA (by refine yHa (QC7 _) ?_;simp only [ywa,yta];omega) _) ?_)));apply ai<;>intro h7
    ·refine us (mv [0] (QQ3 { c with at_:=(w64 (c.at_+1)) } r_.at_ ((Qu3 (runesBytes (List.drop (r_.at_.toNat) (List.take ((w64 (c.at_+1)).toNat) c.line)))).2)) (dO (ds LexReader.lo) .nil) (dp (d1 (d1 .nil))) (rO (re LexReader.lo) .nil) rx) ?_;obtain rfl:=foll hR (cf h3 (cf h5 (ct h7 rfl)));exact rq (ttA [0])
    ·obtain rfl:=foll hR (cf h3 (cf h5 (cf h7 rfl)));exact rq (tt [0] (tO rfl (ts LexReader.lo) .nil) (Q54 (Low.agg' (Token.lo))))
def Q17 (min max wall:Int):List Alt:=(List.range (max - min+1).toNat).map fun (i:Nat)=>(⟨max - (i:Int),wall⟩:Alt)
def Qd1 (s:Shape):List Alt:=bif Qa2 s != 0 then [] else bif s.kind==3 then s.alts++Q17 s.min s.max s.wall else s.alts
theorem QE7 {s:Shape} (h:(Qa2 s != 0)=false) (hk:(s.kind==3)=true):1<=s.min∧s.min<=s.max∧s.max<=48:=by
 have hk':s.kind=3:=by simpa using hk
 simp only [Qa2,hk'] at h;revert h;cases h2:(((((s.alts.length:Int)==0)&&(decide (s.min<=s.max)))&&(Qg1 (⟨s.min,s.wall⟩:Alt)))&&(decide (s.max<=48))) with
 | false=>simp [h2,Qk2]
 | true =>
  intro _;simp [Qg1] at h2;omega
theorem QEh (lo hi wall:Int):((Qk6 hi (hi - lo+1).toNat).map fun (n:Int)=>(⟨n,wall⟩:Alt))=Q17 lo hi wall:=by
 simp [Qk6,Q17,List.map_map,Function.comp_def]
theorem QF7 (s:Shape) (hs0:s.sz):GV 131 [Shape.a s] (altL (Qd1 s)):=by
 generalize hR:Qd1 s=R;refine gA (kp 4 [7,13,18]) Tryz.func131 ?_;have hk0:=hs0;obtain z7:s.alts.length<=4294967296:=hs0;refine us (QMd s szA _) ?_;apply ai<;>intro h1
 ·exact lfA
 ·refine us (mv [] (QOd s.alts szA) .nil (dv (QI7 (Alt.lows _ _)) .nil) (rO rr .nil) (rw_ 1 0 rfl)) ?_;apply ai<;>intro h3
  ·refine us (r:=.fn (.func 243) [] [.ptr 4 0 1 0 0,.ptr 3 0 1 0 0]) (o:=[(0,.row 69 5 [[I s.kind,altL s.alts,I s.min,I s.max,I s.wall]]),(0,.row 178 2 (s.alts.map Alt.cells)),(0,.row 67 1 [[.own 1 0 2 0 s.alts.length]]),(0,.row 3 1 [[I s.min]]),(0,.row 3 1 [[I s.max]])]) (ACalls.of_cwp (fun _=>true) Tryz.func201 rfl rfl ?_) ?_
   ·exact ⟨_,_,told_same,rfl,rfl⟩
   obtain ⟨q1,q2,q3⟩:=QE7 h1 h3;refine range_next (α:=Int) (fun n=>.int .i64 n) (Qk6 s.max (s.max - s.min+1).toNat) (fun xs=>[(0,.row 69 5 [[I s.kind,altL s.alts,I s.min,I s.max,I s.wall]]),(0,.row 178 2 ((s.alts++xs.map fun (n:Int)=>(⟨n,s.wall⟩:Alt)).map Alt.cells)),(0,.row 67 1 [[.own 1 0 2 0 (s.alts++xs.map fun (n:Int)=>(⟨n,s.wall⟩:Alt)).length]]),(0,.row 3 1 [[I s.min]]),(0,.row 3 1 [[I s.max]])])
    (by simp) (by decide) (by decide) rfl rfl rfl rfl ?_ ?_ (by decide) ?_ ?_
   ·intro xs q hq _;simp only [yuc,ybb,or_false] at hq;rcases hq with rfl|rfl|rfl|rfl|rfl <;> exact ⟨_,_,_,rfl⟩
   ·intro K a w hs;have hv:=Qfh (hs.slot 18);obtain ⟨c1,c2⟩:=box_cell (o:=4) hs.mem rfl;obtain ⟨c3,c4⟩:=box_cell (o:=3) hs.mem rfl;refine ⟨243,#[.pointer (some ⟨K.ρ 4 0,0,none⟩),.pointer (some ⟨K.ρ 3 0,0,none⟩)],⟨K.ρ 3 0,0,none⟩,.int .i64 s.min,hv,?_,c4,?_,?_⟩
    ·intro args w;simp [go_sem]
    ·intro K1 xs W hs1;have hv1:=Qfh (hs1.slot 18);have e:K1.ρ 3 0=K.ρ 3 0:=by
      have:=hv1.symm.trans hv;exact (by simpa using this:K1.ρ 4 0=K.ρ 4 0∧K1.ρ 3 0=K.ρ 3 0).2
     rw [← e];exact (box_cell (o:=3) hs1.mem rfl).1
    ·rw [Qa9];exact sizes_stops 2 (by decide) _ _ s.min s.max w q1 q2 q3 c2 c4 c1 c3
   ·intro xs x hlen;rw [Qa9] at hlen;refine Or.inl ?_;refine ⟨Qn1 16 rfl lnA (by simp;omega),?_⟩;exact wk [0,1,2,3,4] (tO rfl (ts Shape.lo) (tO rfl (Q2e (by simp only [yUb,yfb];rfl) (QH9 fun _=>Alt.lowc _ _)) (tO rfl (Qi3 (.cons _ _ _ _ (to 1 (by simp [ypa];omega)) .nil)) (tO rfl (ts (l1 .nil)) (tO rfl (ts (l1 .nil)) .nil)))))
     (sv (QF8 .nil (.cons _ _ _ _ (Qm1 4 rfl rfl) (.cons _ _ _ _ (Qm1 3 rfl rfl) .nil))) (s1 (sv (Qm1 2 rfl rfl) (s1 (s1 (sv (Qm1 0 rfl rfl) (sl (Shape.low _ _) .nil)))))))
   ·have e:Qd1 s=s.alts++(Qk6 s.max (s.max - s.min+1).toNat).map fun (n:Int)=>(⟨n,s.wall⟩:Alt):=by
     rw [QEh];exact cf h1 (ct h3 rfl)
    obtain rfl:=foll hR e;exact Qc0 lw (Qe0 zA _ rfl rfl rfl)
  ·obtain rfl:=foll hR (cf h1 (cf h3 rfl));exact Qc0 lw (Qe0 zA _ rfl eqA lnA)
def Qm4 (l:List Node):List Int->Nat->Bool
 | [],_=>true
 | x_ :: r,i=>bif ((decide (x_<(l.length:Int)))&&((l.getD (x_.toNat) zF).want==0)) then Qm4 l r (i+1) else false
def QS2 (l:List Node) (set_:Int):Bool:=bif ((Q80 l)!=0) then false else Qm4 l (Qo0 set_) 0
theorem Qca (l:List Node) (set_:Int) (hs0:l.length<=4294967296):GV 86 [nodeL l,U set_] (Bo (QS2 l set_)):=by
 generalize hR:QS2 l set_=R;refine gA (kp 7 [9,11,12,13,14,28]) Tryz.func86 ?_;have hk0:=hs0;obtain z7:l.length<=4294967296:=hs0;refine us (Qr3 l szA _) ?_;apply ai<;>intro h1
 ·exact lfA
 ·refine us (Q8c set_ _) ?_;refine Qg0 (fun (i:Nat)=>Qm4 l (List.drop i (Qo0 set_)) i=R∧i<=(Qo0 set_).length) (fun i=>(Qo0 set_).length - i) (fun i=>[(0,nodeL l),(4,Bo false),(11,ints (Qo0 set_)),(12,I ((Qo0 set_).length:Int)),(13,I (i:Int))]) (fun i=>[]) 0 (wkA []) ⟨folA,by exact omA⟩ ?_;clear hR;rintro i ⟨hR,hj⟩;(try dsimp only at hR hj);apply ai<;>intro h3
  ·have hlt:=ltA h3;rw [Qa0 0 hlt] at hR;have hq:=Qmf set_ hlt;have hq2:=QA8 set_;refine ai gkA ?_;refine ai gkA ?_;apply ai<;>intro h5
   ·exact Qn0 (i+1) (wkA []) omA ⟨folA,by exact omA⟩
   ·exact lfA
  ·rw [Qd0 (l:=(Qo0 set_)) (j:=i) (geA h3)] at hR;exact lfA
def QD3 (is:Node->Bool):List Node->List Int->Nat->(List Int)
 | [],out,_=>out
 | x_ :: r,out,i=>bif (is x_) then QD3 is r (out++([(i:Int)]:List Int)) (i+1) else QD3 is r out (i+1)
def Q51 (out:List Int):Int:=(QS0 out).1
def Q71 (l:List Node) (is:Node->Bool):Int:=bif ((Q80 l)!=0) then 0 else Q51 (QD3 is l [] 0)
def Q44 (l:List Node) (n:Int) (act:Int) (job:Int) (now:Int):(List Node) × Int:=bif ((Q80 l)!=0) then ([],(Q80 l)) else bif ((((decide (n<0))||(decide (n >= (l.length:Int))))||(!(QP3 now)))||(!(QS4 (l.getD (n.toNat) zF) act job))) then ([],120) else ((l.set (n.toNat) (QF0 (l.getD (n.toNat) zF) act job now)),0)
theorem fleet_Do_c (l:List Node) (n:Int) (act:Int) (job:Int) (now:Int) (hs0:l.length<=4294967296):GV 156 [nodeL l,I n,I act,I job,I now] (AVal.tup [nodeL ((Q44 l n act job now).1),I ((Q44 l n act job now).2)]):=by
 generalize hR:Q44 l n act job now=R;refine gA (kp 14 [17,41]) Tryz.func156 ?_;have hk0:=hs0;obtain z5:l.length<=4294967296:=hs0;refine us (Qr3 l szA _) ?_;apply ai<;>intro h1
 ·exact lfA
 ·(first|apply u2|apply u3|apply u4|apply us);exact Q4b now _;refine ai gkA ?_;(first|apply u2|apply u3|apply u4|apply us);exact fleet_may_c (l.getD (n.toNat) zF) act job _;apply ai<;>intro h3
  ·exact lfA
  ·refine us (mv [] (QBc l szA) .nil (dl lw .nil) (rO rr .nil) (rw_ 0 0 rfl)) ?_;refine ai gkA ?_;refine us (fleet_done_c (l.getD (n.toNat) zF) act job now _) ?_;refine ai gkA ?_;refine ⟨_,Qb3 rfl rfl rfl rfl (Qa1 zF (n.toNat) (by first|rfl|exact yma _|omega) ckA) rfl rfl (QDh (n.toNat) (QF0 (l.getD (n.toNat) zF) act job now) (by first|rfl|exact yma _|omega) rfl),?_⟩;obtain rfl:=foll hR (cf h1 (cf h3 rfl));exact Qc0 (Low.tup' (.cons lw (l1 .nil))) (Seen.tup (ev (Qe0 zF _ rfl eqA lnA) (e1 .nil)))
theorem fleet_Do_len (l:List Node) (n act job now:Int):(Q44 l n act job now).1.length<=l.length:=by
 unfold Q44
 repeat' first|exact yva _|(simp;done)|(rw [yAa];split)
def QR4 (l:List Node) (n:Int):Note × Bool:=bif (((((Q80 l)!=0)||(decide (n<0)))||(decide (n >= (l.length:Int))))||((l.getD (n.toNat) zF).want==0)) then (zL,false) else ((⟨(l.getD (n.toNat) zF).want,n,(l.getD (n.toNat) zF).job,(l.getD (n.toNat) zF).epoch⟩:Note),true)
theorem fleet_Note_c (l:List Node) (n:Int) (hs0:l.length<=4294967296):GV 214 [nodeL l,I n] (AVal.tup [Note.a ((QR4 l n).1),Bo ((QR4 l n).2)]):=by
 generalize hR:QR4 l n=R;refine gA (kp 6 [26]) Tryz.func214 ?_;have hk0:=hs0;obtain z3:l.length<=4294967296:=hs0;refine us (Qr3 l szA _) ?_;refine ai gkA ?_;apply ai<;>intro h1
 ·exact lfA
 ·refine dchk (by kernel_rfl) ?_;refine ai gkA ?_;refine ai gkA ?_;refine ai gkA ?_;(repeat ((first|refine ai rfl ?_|refine ai (fun _=>rfl) ?_)));exact lfA
def QE2 (l:List Int) (at_:Int):Nat->Int->Token × Int × Int × Int
 | 0,_=>(zD,0,0,0)
 | m+1,i=>bif ((decide (i<(l.length:Int)))&&((l.getD (i.toNat) 0)!=34)) then bif ((Qj0 (l.getD (i.toNat) 0))==0) then (zD,0,i,40) else bif ((l.getD (i.toNat) 0)==92) then bif ((decide ((w64 (i+1))<(l.length:Int)))&&((Qj0 (l.getD ((w64 (i+1)).toNat) 0))==0)) then (zD,0,(w64 (i+1)),40) else QE2 l at_ m (w64 ((w64 (i+1))+1)) else QE2 l at_ m (w64 (i+1)) else bif (decide (i >= (l.length:Int))) then (zD,0,at_,50) else bif ((Qq6 (runesBytes (List.drop (at_.toNat) (List.take ((w64 (i+1)).toNat) l)))).2 != 0) then (zD,0,at_,50) else ((⟨4,(Qq6 (runesBytes (List.drop (at_.toNat) (List.take ((w64 (i+1)).toNat) l)))).1,0,at_⟩:Token),(w64 (i+1)),0,0)
def QS3 (l:List Int) (at_:Int):Token × Int × Int × Int:=QE2 l at_ ((((l.length:Int) - (w64 (at_+1))).toNat)+1) (w64 (at_+1))
theorem ref05_text_c (l:List Int) (at_:Int) (hs0:l.length<=4294967296) (hp0:0<=at_∧at_<(l.length:Int)∧l.length<=400):GV 329 [runes l,I at_] (AVal.tup [Token.a ((QS3 l at_).1),I ((QS3 l at_).2.1),I ((QS3 l at_).2.2.1),I ((QS3 l at_).2.2.2)]):=by
 generalize hR:QS3 l at_=R;refine gA (kp 11 [23,29,36,50,58,72]) Tryz.func329 ?_;have hk0:=hs0;obtain z13:l.length<=4294967296:=hs0;have hw0:w64 (at_+1)=at_+1:=wr oA;refine Qg0 (fun (i:Int)=>∃ m,(((l.length:Int) - i).toNat)<m∧QE2 l at_ m i=R∧at_<i∧i<=(l.length:Int)+1) (fun i=>(((l.length:Int) - i).toNat)) (fun i=>[(0,runes l),(1,I at_),(4,AVal.ptr 0 0 4 0 0),(5,I 0),(6,I 0),(7,I 0),(8,I i)]) (fun i=>[(0,AObj.row 305 4 [[I 0,Sg ⟨#[]⟩,I 0,I 0]])]) (w64 (at_+1)) (wkA [0]) ⟨_,yCa _,foll hR rfl,by exact exA⟩ ?_;clear hR;rintro i ⟨m,hm,hR,hx⟩;(try dsimp only at hR hm hx);obtain ⟨m,rfl⟩:=sucA m;refine ai gkA ?_;apply ai<;>intro h1
 ·have hq1:=yda ((yea _ _).mp h1).1;have hw1:w64 (i+1)=i+1:=wr oA;have hw2:w64 (i+1+1)=i+1+1:=wr oA;refine ai gkA ?_;refine us (Qe5 (l.getD (i.toNat) 0) _) ?_;apply ai<;>intro h3
  ·exact lfA
  ·refine ai gkA ?_;apply ai<;>intro h5
   ·refine ai gkA ?_;(first|apply u2|apply u3|apply u4|apply us);exact Qe5 (l.getD ((w64 (i+1)).toNat) 0) _;apply ai<;>intro h7
    ·exact lfA
    ·exact Qn0 (w64 ((w64 (i+1))+1)) (wkA [0]) omA ⟨m,by exact omA,foll hR (ct h1 (cf h3 (ct h5 (cf h7 rfl)))),by exact exA⟩
   ·exact Qn0 (w64 (i+1)) (wkA [0]) omA ⟨m,by exact omA,foll hR (ct h1 (cf h3 (cf h5 rfl))),by exact exA⟩
 ·apply ai<;>intro h9
  ·have qh9:=yda h9;exact lfA
  ·have qh9:=yca h9;refine ai gkA ?_;(first|refine ⟨(List.drop (at_.toNat) (List.take ((w64 (i+1)).toNat) l)),by exact cvA,?_⟩|refine ⟨_,fun _=>⟨(List.drop (at_.toNat) (List.take ((w64 (i+1)).toNat) l)),by exact cvA,rfl,rfl⟩,?_⟩|refine ⟨_,rfl,⟨(List.drop (at_.toNat) (List.take ((w64 (i+1)).toNat) l)),by exact cvA,Sub.refl _,rfl⟩,?_⟩);refine us (Q1h (runesBytes (List.drop (at_.toNat) (List.take ((w64 (i+1)).toNat) l))) szA _) ?_;apply ai<;>intro h11
   ·exact lfA
   ·exact lfA
theorem QL9 (l:List Int) (at_:Int) (h:l.length<=400):∀ (m:Nat) (i:Int),at_<i->0<=at_->i<=(l.length:Int)+1->(((l.length:Int) - i).toNat)<m->((QE2 l at_ m i).2.2.2 != 0)=false->at_<(QE2 l at_ m i).2.1∧(QE2 l at_ m i).2.1<=(l.length:Int)
 | 0,i,_,_,_,hm=>absurd hm oA
 | m+1,i,h0,hz,h1,hm=>by
  rw [QE2];cases hd:((decide (i<(l.length:Int)))&&((l.getD (i.toNat) 0)!=34)) with
  | false =>
   simp only [cond_false];cases hi:(decide (i >= (l.length:Int))) with
   | true=>intro h;cases h
   | false =>
    have hlt:=yca hi;simp only [cond_false];cases ((Qq6 (runesBytes (List.drop (at_.toNat) (List.take ((w64 (i+1)).toNat) l)))).2 != 0) with
    | true=>intro h;cases h
    | false =>
     intro _;have hw:w64 (i+1)=i+1:=wr oA;simp only [cond_false];rw [hw];omega
  | true =>
   have hlt:=yda ((yea _ _).mp hd).1;have hw:w64 (i+1)=i+1:=wr oA;have hw2:w64 (i+1+1)=i+1+1:=wr oA;simp only [cond_true];cases ((Qj0 (l.getD (i.toNat) 0))==0) with
   | true=>intro h;cases h
   | false =>
    simp only [cond_false];rw [hw];cases ((l.getD (i.toNat) 0)==92) with
    | true =>
     simp only [cond_true];cases ((decide ((i+1)<(l.length:Int)))&&((Qj0 (l.getD ((i+1).toNat) 0))==0)) with
     | true=>intro h;cases h
     | false =>
      simp only [cond_false];rw [hw2];exact QL9 l at_ h m _ oA hz oA oA
    | false=>exact QL9 l at_ h m _ oA hz oA oA
theorem ref05_text_lt (l:List Int) (at_:Int) (h0:0<=at_) (h1:at_<(l.length:Int)) (h:l.length<=400) (he:((QS3 l at_).2.2.2 != 0)=false):at_<(QS3 l at_).2.1∧(QS3 l at_).2.1<=(l.length:Int):=by
 have hw:w64 (at_+1)=at_+1:=wr oA;unfold QS3 at he ⊢;rw [hw] at he ⊢;exact QL9 l at_ h _ _ oA h0 oA (yCa _) he
def QI1 (j:Job):Bool:=bif (j.state==1) then bif (((j.start != 0)||(j.limit != 0))||(j.nodes != 0)) then false else bif (j.promise==(-1)) then (j.choice==0) else (((Qz1 j.promise)&&(decide ((Qt2 j.shape j.choice) > 0)))&&(!j.held)) else bif (j.state==2) then bif ((((((((Qt2 j.shape j.choice)==0)||j.held)||(!(Qz1 j.start)))||(!(Qz1 j.promise)))||(decide (j.start > j.promise)))||(!(Qz1 j.limit)))||(j.limit != (w64 (j.start+(Qt2 j.shape j.choice))))) then false else ((Qqb j.nodes)&&(Qt8 j.shape j.choice ((Q40 j.nodes).length:Int))) else ((((((((QBa j.state)&&(j.nodes==0))&&(Qz1 j.start))&&(Qz1 j.limit))&&(decide (j.promise >= (-1))))&&(decide (j.promise<=1000000)))&&(decide (j.choice >= 0)))&&(decide (j.choice<=48)))
theorem ref14_state_c (j:Job) (hs0:j.sz):GV 257 [Job.a j] (Bo (QI1 j)):=by
 generalize hR:QI1 j=R;refine gA (kp 5 [10,11,25,28,48,94]) Tryz.func257 ?_;obtain ⟨z11,z12,z13,z14,z15⟩:=Job.zz hs0;refine us (Q56 j.nodes _) ?_;apply ai<;>intro h1
 ·apply ai<;>intro h3
  ·exact lfA
  ·apply ai<;>intro h5
   ·exact lfA
   ·refine us (Q65 j.promise _) ?_;(first|apply u2|apply u3|apply u4|apply us);exact Q0f j.shape j.choice szA _;exact lfA
 ·apply ai<;>intro h7
  ·refine us (Q0f j.shape j.choice szA _) ?_;(first|apply u2|apply u3|apply u4|apply us);exact Q65 j.start _;(first|apply u2|apply u3|apply u4|apply us);exact Q65 j.promise _;(first|apply u2|apply u3|apply u4|apply us);exact Q65 j.limit _;apply ai<;>intro h9
   ·exact lfA
   ·refine us (ref14_Few_c j.nodes _) ?_;(first|apply u2|apply u3|apply u4|apply us);exact ref07_Allows_c j.shape j.choice ((Q40 j.nodes).length:Int) szA _;exact lfA
  ·refine us (ref14_Ended_c j.state _) ?_;(first|apply u2|apply u3|apply u4|apply us);exact Q65 j.start _;(first|apply u2|apply u3|apply u4|apply us);exact Q65 j.limit _;exact lfA
def Qv1 (r_:Resize):List Node->Int->Nat->Sum (Bool) (Int × Nat)
 | [],left,n1=>Sum.inr (left,n1)
 | x_ :: r,left,n1=>bif ((x_.job != r_.job)||(x_.state==3)) then Qv1 r_ r left (n1+1) else bif (!(QZ2 x_ (n1:Int) r_)) then Sum.inl false else bif ((x_.state==1)&&(!(Q62 r_.nodes (n1:Int)))) then Qv1 r_ r (w64 (left+1)) (n1+1) else Qv1 r_ r left (n1+1)
def Q15 (s:State) (r_:Resize):Nat->Nat->Bool
 | 0,_=>false
 | m+1,n=>bif (decide ((n:Int)<64)) then bif (((Q62 r_.said (n:Int))&&(!(Q62 r_.nodes (n:Int))))||((Q62 r_.nodes (n:Int))&&(((decide ((n:Int) >= (s.nodes.length:Int)))||((s.nodes.getD n zF).job != r_.job))||((s.nodes.getD n zF).state==3)))) then false else Q15 s r_ m (n+1) else (Sum.elim id (fun p1:Int × Nat=>bif r_.grow then (decide ((w64 (((Q40 ((Q70 s r_.job).1.nodes)).length:Int)+((Q40 r_.nodes).length:Int)))<=(Q70 s r_.job).1.shape.max)) else ((decide (p1.1 > 0))&&(decide ((w64 (((Q40 ((Q70 s r_.job).1.nodes)).length:Int) - ((Q40 r_.nodes).length:Int))) >= (Q70 s r_.job).1.shape.min))))) (Qv1 r_ s.nodes 0 0)
def QU1 (s:State) (r_:Resize):Bool:=bif (((((!(Q70 s r_.job).2)||((Q70 s r_.job).1.shape.kind != 3))||(r_.nodes==0))||(decide (r_.since<0)))||(decide (r_.since > 1000000))) then false else Q15 s r_ (((64 - (0:Int)).toNat)+1) 0
theorem Q9c (s:State) (r_:Resize) (hs0:s.sz):GV 104 [State.a s,Resize.a r_] (Bo (QU1 s r_)):=by
 generalize hR:QU1 s r_=R;refine gA (kp 13 [42,44,90,95,112,117,127,139]) Tryz.func104 ?_;have hk0:=hs0;obtain ⟨z17,z18,z19,z20,z21,z22,z23⟩:=hs0;refine us (Qch s r_.job szA _) ?_;apply ai<;>intro h1
 ·exact lfA
 ·refine Qg0 (fun (n:Nat)=>∃ m,((64 - (n:Int)).toNat)<m∧Q15 s r_ m n=R) (fun n=>((64 - (n:Int)).toNat)) (fun n=>[(2,AVal.ptr 0 0 8 0 0),(3,AVal.ptr 1 0 5 0 0),(4,Bo false),(5,AVal.ptr 2 0 20 0 0),(7,I (n:Int))]) (fun n=>[(0,AObj.row 28 8 [[I s.now,nodeL s.nodes,jobL s.jobs,QA1 s.resizes,bookL s.books,QI2 s.ledger,I s.nextJob,I s.nextBook]]),(0,AObj.row 49 5 [[I r_.job,Bo r_.grow,U r_.nodes,U r_.said,I r_.since]]),(0,AObj.row 72 20 [[I ((Q70 s r_.job).1.id),Sg ((Q70 s r_.job).1.name),Sg ((Q70 s r_.job).1.user),Sg ((Q70 s r_.job).1.account),I ((Q70 s r_.job).1.shape.kind),altL ((Q70 s r_.job).1.shape.alts),I ((Q70 s r_.job).1.shape.min),I ((Q70 s r_.job).1.shape.max),I ((Q70 s r_.job).1.shape.wall),I ((Q70 s r_.job).1.prio),depL ((Q70 s r_.job).1.after),I ((Q70 s r_.job).1.state),Bo ((Q70 s r_.job).1.held),I ((Q70 s r_.job).1.born),I ((Q70 s r_.job).1.promise),I ((Q70 s r_.job).1.choice),I ((Q70 s r_.job).1.start),I ((Q70 s r_.job).1.limit),U ((Q70 s r_.job).1.nodes),I ((Q70 s r_.job).1.used)]])]) 0 (wkA [0,1,2]) ⟨_,yCa _,foll hR (cf h1 rfl)⟩ ?_;clear hR;rintro n ⟨m,hm,hR⟩;(try dsimp only at hR hm);obtain ⟨m,rfl⟩:=sucA m;apply ai<;>intro h3
  ·have qh3:=yda h3;refine dchk (by kernel_rfl) ?_;(first|apply u2|apply u3|apply u4|apply us);exact QY2 r_.said (n:Int) _;(first|apply u2|apply u3|apply u4|apply us);exact QY2 r_.nodes (n:Int) _;(first|apply u2|apply u3|apply u4|apply us);exact QY2 r_.nodes (n:Int) _;refine ai gkA ?_;refine ai gkA ?_;(repeat ((first|refine ai rfl ?_|refine ai (fun _=>rfl) ?_|refine ai (fun _=>QY2 r_.said (n:Int) _) ?_|refine ai (fun _=>QY2 r_.nodes (n:Int) _) ?_|refine ai (fun _=>QY2 r_.nodes (n:Int) _) ?_)));apply ai<;>intro h5
   ·exact lfA
   ·exact Qn0 (n+1) (wkA [0,1,2]) omA ⟨m,by exact omA,foll hR (ct h3 (cf h5 rfl))⟩
  ·have qh3:=yca h3;obtain ⟨m1_,rfl⟩:∃ q,q=m:=⟨m,rfl⟩;refine Qb0 (fun (left:Int) (n1:Nat)=>(Sum.elim id (fun p1:Int × Nat=>bif r_.grow then (decide ((w64 (((Q40 ((Q70 s r_.job).1.nodes)).length:Int)+((Q40 r_.nodes).length:Int)))<=(Q70 s r_.job).1.shape.max)) else ((decide (p1.1 > 0))&&(decide ((w64 (((Q40 ((Q70 s r_.job).1.nodes)).length:Int) - ((Q40 r_.nodes).length:Int))) >= (Q70 s r_.job).1.shape.min))))) (Qv1 r_ (List.drop n1 s.nodes) left n1)=R∧n1<=s.nodes.length) (fun left n1=>s.nodes.length - n1) (fun left n1=>[(2,AVal.ptr 0 0 8 0 0),(3,AVal.ptr 1 0 5 0 0),(4,Bo false),(5,AVal.ptr 2 0 20 0 0),(8,I left),(9,I (n1:Int))]) (fun left n1=>[(0,AObj.row 28 8 [[I s.now,nodeL s.nodes,jobL s.jobs,QA1 s.resizes,bookL s.books,QI2 s.ledger,I s.nextJob,I s.nextBook]]),(0,AObj.row 49 5 [[I r_.job,Bo r_.grow,U r_.nodes,U r_.said,I r_.since]]),(0,AObj.row 72 20 [[I ((Q70 s r_.job).1.id),Sg ((Q70 s r_.job).1.name),Sg ((Q70 s r_.job).1.user),Sg ((Q70 s r_.job).1.account),I ((Q70 s r_.job).1.shape.kind),altL ((Q70 s r_.job).1.shape.alts),I ((Q70 s r_.job).1.shape.min),I ((Q70 s r_.job).1.shape.max),I ((Q70 s r_.job).1.shape.wall),I ((Q70 s r_.job).1.prio),depL ((Q70 s r_.job).1.after),I ((Q70 s r_.job).1.state),Bo ((Q70 s r_.job).1.held),I ((Q70 s r_.job).1.born),I ((Q70 s r_.job).1.promise),I ((Q70 s r_.job).1.choice),I ((Q70 s r_.job).1.start),I ((Q70 s r_.job).1.limit),U ((Q70 s r_.job).1.nodes),I ((Q70 s r_.job).1.used)]])]) 0 0 (wkA [0,1,2]) ⟨folA,by exact omA⟩ ?_;clear hR;rintro left n1 ⟨hR,hj⟩;(try dsimp only at hR hj);apply ai<;>intro h7
   ·have hlt:=ltA h7;rw [Qa0 zF hlt] at hR;refine ai gkA ?_;apply ai<;>intro h9
    ·exact Q60 left (n1+1) (wkA [0,1,2]) omA ⟨foll hR (congrArg (Sum.elim id (fun p1:Int × Nat=>bif r_.grow then (decide ((w64 (((Q40 ((Q70 s r_.job).1.nodes)).length:Int)+((Q40 r_.nodes).length:Int)))<=(Q70 s r_.job).1.shape.max)) else ((decide (p1.1 > 0))&&(decide ((w64 (((Q40 ((Q70 s r_.job).1.nodes)).length:Int) - ((Q40 r_.nodes).length:Int))) >= (Q70 s r_.job).1.shape.min))))) (ct h9 rfl)),by exact omA⟩
    ·refine us (ref25_moved_c (s.nodes.getD n1 zF) (n1:Int) r_ _) ?_;apply ai<;>intro h11
     ·obtain rfl:=foll hR (congrArg (Sum.elim id (fun p1:Int × Nat=>bif r_.grow then (decide ((w64 (((Q40 ((Q70 s r_.job).1.nodes)).length:Int)+((Q40 r_.nodes).length:Int)))<=(Q70 s r_.job).1.shape.max)) else ((decide (p1.1 > 0))&&(decide ((w64 (((Q40 ((Q70 s r_.job).1.nodes)).length:Int) - ((Q40 r_.nodes).length:Int))) >= (Q70 s r_.job).1.shape.min))))) (cf h9 (ct h11 rfl)));exact Qc0 lx sr
     ·(first|apply u2|apply u3|apply u4|apply us);exact QY2 r_.nodes (n1:Int) _;apply ai<;>intro h13
      ·exact Q60 (w64 (left+1)) (n1+1) (wkA [0,1,2]) omA ⟨foll hR (congrArg (Sum.elim id (fun p1:Int × Nat=>bif r_.grow then (decide ((w64 (((Q40 ((Q70 s r_.job).1.nodes)).length:Int)+((Q40 r_.nodes).length:Int)))<=(Q70 s r_.job).1.shape.max)) else ((decide (p1.1 > 0))&&(decide ((w64 (((Q40 ((Q70 s r_.job).1.nodes)).length:Int) - ((Q40 r_.nodes).length:Int))) >= (Q70 s r_.job).1.shape.min))))) (cf h9 (cf h11 (ct h13 rfl)))),by exact omA⟩
      ·exact Q60 left (n1+1) (wkA [0,1,2]) omA ⟨foll hR (congrArg (Sum.elim id (fun p1:Int × Nat=>bif r_.grow then (decide ((w64 (((Q40 ((Q70 s r_.job).1.nodes)).length:Int)+((Q40 r_.nodes).length:Int)))<=(Q70 s r_.job).1.shape.max)) else ((decide (p1.1 > 0))&&(decide ((w64 (((Q40 ((Q70 s r_.job).1.nodes)).length:Int) - ((Q40 r_.nodes).length:Int))) >= (Q70 s r_.job).1.shape.min))))) (cf h9 (cf h11 (cf h13 rfl)))),by exact omA⟩
   ·rw [Qd0 (l:=s.nodes) (j:=n1) (geA h7)] at hR;replace hR:(Sum.elim id (fun p1:Int × Nat=>bif r_.grow then (decide ((w64 (((Q40 ((Q70 s r_.job).1.nodes)).length:Int)+((Q40 r_.nodes).length:Int)))<=(Q70 s r_.job).1.shape.max)) else ((decide (p1.1 > 0))&&(decide ((w64 (((Q40 ((Q70 s r_.job).1.nodes)).length:Int) - ((Q40 r_.nodes).length:Int))) >= (Q70 s r_.job).1.shape.min))))) (Sum.inr (left,n1))=R:=foll hR (congrArg (Sum.elim id (fun p1:Int × Nat=>bif r_.grow then (decide ((w64 (((Q40 ((Q70 s r_.job).1.nodes)).length:Int)+((Q40 r_.nodes).length:Int)))<=(Q70 s r_.job).1.shape.max)) else ((decide (p1.1 > 0))&&(decide ((w64 (((Q40 ((Q70 s r_.job).1.nodes)).length:Int) - ((Q40 r_.nodes).length:Int))) >= (Q70 s r_.job).1.shape.min))))) rfl);refine us (Q56 ((Q70 s r_.job).1.nodes) _) ?_;refine us (Q56 r_.nodes _) ?_;apply ai<;>intro h15
    ·exact lfA
    ·exact lfA
def Q73 :List Node->Int->Nat->Int × Nat
 | [],up,i=>(up,i)
 | x_ :: r,up,i=>bif ((x_.state != 4)&&(!x_.drain)) then Q73 r (w64 (up+1)) (i+1) else Q73 r up (i+1)
def QG2 (s:State):List Node->List Step->Nat->(List Step) × Nat
 | [],p_,i1=>(p_,i1)
 | _ :: r,p_,i1=>QG2 s r (Qd2 p_ 0 (Q18 s (i1:Int)) 1) (i1+1)
def Qu6 (p_:List Step) (i1:Nat):(List Step):=p_
def Qj5 (s:State) (up:Int) (i:Nat):(List Step):=Qu6 ((QG2 s s.nodes (QB5 up) 0).1) ((QG2 s s.nodes (QB5 up) 0).2)
def Q05 (s:State):(List Step):=Qj5 s ((Q73 s.nodes 0 0).1) ((Q73 s.nodes 0 0).2)
theorem b4a0 {P:Prop} (h:P:=by first|(((try dsimp only);exact Qn7 (by assumption)))|first|(((try dsimp only);exact Qn7 hx))|first|(exact Qsb _)|first|(exact Qjb _)|exact exA):P:=h
theorem b4a1 {P:Prop} (h:P:=by first|(((try dsimp only);exact Qn7 (by assumption)))|first|(((try dsimp only);exact Qn7 hx))|first|(exact Qsb _)|first|(exact Qjb _)|exact szA):P:=h
theorem ref20_busy_c (s:State) (hs0:s.sz):GV 169 [State.a s] (stepL (Q05 s)):=by
 generalize hR:Q05 s=R;refine gA (kp 7 [11,29,38]) Tryz.func169 ?_;have hk0:=hs0;obtain ⟨z7,z8,z9,z10,z11,z12,z13⟩:=hs0;refine Qb0 (fun (up:Int) (i:Nat)=>Qj5 s (Q73 (List.drop i s.nodes) up i).1 (Q73 (List.drop i s.nodes) up i).2=R∧i<=s.nodes.length) (fun up i=>s.nodes.length - i) (fun up i=>[(1,AVal.ptr 0 0 8 0 0),(2,AVal.lit (.slice none 0 0)),(3,I up),(4,I (i:Int))]) (fun up i=>[(0,AObj.row 28 8 [[I s.now,nodeL s.nodes,jobL s.jobs,QA1 s.resizes,bookL s.books,QI2 s.ledger,I s.nextJob,I s.nextBook]])]) 0 0 (wkA [0]) ⟨foll hR rfl,by exact omA⟩ ?_;clear hR;rintro up i ⟨hR,hj⟩;(try dsimp only at hR hj);apply ai<;>intro h1
 ·have hlt:=ltA h1;rw [Qa0 zF hlt] at hR;refine ai gkA ?_;refine ai gkA ?_;apply ai<;>intro h3
  ·exact Q60 (w64 (up+1)) (i+1) (wkA [0]) omA ⟨foll hR (congrArg (fun p:Int × Nat=>Qj5 s p.1 p.2) (ct h3 rfl)),by exact omA⟩
  ·exact Q60 up (i+1) (wkA [0]) omA ⟨foll hR (congrArg (fun p:Int × Nat=>Qj5 s p.1 p.2) (cf h3 rfl)),by exact omA⟩
 ·rw [Qd0 (l:=s.nodes) (j:=i) (geA h1)] at hR;replace hR:Qj5 s up i=R:=fo2 (fun p:Int × Nat=>Qj5 s p.1 p.2) (up,i) hR rfl;refine us (ref10_Flat_c up _) ?_;refine Qb0 (fun (p_:List Step) (i1:Nat)=>Qu6 (QG2 s (List.drop i1 s.nodes) p_ i1).1 (QG2 s (List.drop i1 s.nodes) p_ i1).2=R∧i1<=s.nodes.length∧p_.length<=4294967296) (fun p_ i1=>s.nodes.length - i1) (fun p_ i1=>[(1,AVal.ptr 0 0 8 0 0),(2,AVal.lit (.slice none 0 0)),(5,stepL p_),(6,I (i1:Int))]) (fun p_ i1=>[(0,AObj.row 28 8 [[I s.now,nodeL s.nodes,jobL s.jobs,QA1 s.resizes,bookL s.books,QI2 s.ledger,I s.nextJob,I s.nextBook]])]) (QB5 up) 0 (wkA [0]) ⟨foll hR rfl,by exact omA,b4a0⟩ ?_;clear hR;rintro p_ i1 ⟨hR,hj,hx⟩;(try dsimp only at hR hj hx);apply ai<;>intro h5
  ·have hlt:=ltA h5;rw [Qa0 zF hlt] at hR;refine us (ref20_until_c s (i1:Int) b4a1 ckA _) ?_;refine us (QB9 p_ 0 (Q18 s (i1:Int)) 1 b4a1 _) ?_;exact Q60 (Qd2 p_ 0 (Q18 s (i1:Int)) 1) (i1+1) (wkA [0]) omA ⟨foll hR (congrArg (fun p:(List Step) × Nat=>Qu6 p.1 p.2) rfl),by exact omA,b4a0⟩
  ·rw [Qd0 (l:=s.nodes) (j:=i1) (geA h5)] at hR;replace hR:Qu6 p_ i1=R:=fo2 (fun p:(List Step) × Nat=>Qu6 p.1 p.2) (p_,i1) hR rfl;exact lfA
theorem Qjb (s:State):(Q05 s).length<=4294967296:=by
 have g2:∀ (l:List Node) (p:List Step) (i:Nat),p.length<=4294967296->(QG2 s l p i).1.length<=4294967296:=by
  intro l
  induction l with
  | nil=>intro p i h;exact h
  | cons x r ih=>intro p i h;rw [QG2];exact ih _ _ (Qn7 h)
 unfold Q05 Qj5 Qu6;exact g2 _ _ _ (Qsb _)
def Ql2 (set_:Int) (act:Int) (job:Int) (now:Int):List Int->List Node->Nat->(List Node) × (List Note) × Int
 | [],l2,_=>bif (!((((((act==1)||(act==2))||(act==3))||(act==5))||(act==7))||(act==10))) then (l2,[],0) else (l2,(QX7 l2 (Q40 set_)),0)
 | x_ :: r,l2,i=>bif ((QJ4 l2 x_ act job now).2 != 0) then ([],[],(QJ4 l2 x_ act job now).2) else Ql2 set_ act job now r ((QJ4 l2 x_ act job now).1) (i+1)
def QM2 (l:List Node) (set_:Int) (act:Int) (job:Int) (now:Int):(List Node) × (List Note) × Int:=bif ((Q72 l)!=0) then ([],[],120) else Ql2 set_ act job now (Q40 set_) l 0
theorem b4a2 {P:Prop} (h:P:=by first|((have q:=QWe l2 ((Q40 set_).getD i 0) act job now;omega))|exact exA):P:=h
theorem QXe (l:List Node) (set_:Int) (act:Int) (job:Int) (now:Int) (hs0:l.length<=4294967296):GV 50 [nodeL l,U set_,I act,I job,I now] (AVal.tup [nodeL ((QM2 l set_ act job now).1),noteL ((QM2 l set_ act job now).2.1),I ((QM2 l set_ act job now).2.2)]):=by
 generalize hR:QM2 l set_ act job now=R;refine gA (kp 18 [20,26,42,68]) Tryz.func50 ?_;have hk0:=hs0;obtain z9:l.length<=4294967296:=hs0;have hll:=(Qt7 set_).1;refine us (Qg5 l szA _) ?_;apply ai<;>intro h1
 ·exact lfA
 ·refine us (Q56 set_ _) ?_;refine Qb0 (fun (l2:List Node) (i:Nat)=>Ql2 set_ act job now (List.drop i (Q40 set_)) l2 i=R∧i<=(Q40 set_).length∧l2.length<=4294967296) (fun l2 i=>(Q40 set_).length - i) (fun l2 i=>[(0,nodeL l2),(2,I act),(3,I job),(4,I now),(10,AVal.lit (.slice none 0 0)),(11,AVal.lit (.slice none 0 0)),(12,I 0),(13,ints (Q40 set_)),(14,I (i:Int))]) (fun l2 i=>[]) l 0 (wkA []) ⟨folA,by exact omA,b4a2⟩ ?_;clear hR;rintro l2 i ⟨hR,hj,hx⟩;(try dsimp only at hR hj hx);apply ai<;>intro h3
  ·have hlt:=ltA h3;rw [Qa0 0 hlt] at hR;refine ai gkA ?_;refine us (ref12_Do_c l2 ((Q40 set_).getD i 0) act job now szA _) ?_;apply ai<;>intro h5
   ·exact lfA
   ·exact Q60 ((QJ4 l2 ((Q40 set_).getD i 0) act job now).1) (i+1) (wkA []) omA ⟨folA,by exact omA,b4a2⟩
  ·rw [Qd0 (l:=(Q40 set_)) (j:=i) (geA h3)] at hR;apply ai<;>intro h7
   ·exact lfA
   ·refine us (ref13_Notes_c l2 (Q40 set_) szA szA _) ?_;exact lfA
def Q5a (a:State) (b:State):Bool:=((((((((a.now==b.now)&&(a.nextJob==b.nextJob))&&(a.nextBook==b.nextBook))&&(QNb a.nodes b.nodes))&&(QOb a.jobs b.jobs))&&(Qv6 a.resizes b.resizes))&&(QQb a.books b.books))&&(QPb a.ledger b.ledger))
theorem ref25_Same_c (a:State) (b:State) (hs0:a.sz) (hs1:b.sz):GV 12 [State.a a,State.a b] (Bo (Q5a a b)):=by
 generalize hR:Q5a a b=R;refine gA (kp 5 []) Tryz.func12 ?_;have hk0:=hs0;obtain ⟨z1,z2,z3,z4,z5,z6,z7⟩:=hs0;have hk1:=hs1;obtain ⟨z8,z9,z10,z11,z12,z13,z14⟩:=hs1;(first|apply u2|apply u3|apply u4|apply us);exact ref12_Same_c a.nodes b.nodes szA szA _;(first|apply u2|apply u3|apply u4|apply us);exact ref15_Same_c a.jobs b.jobs szA szA _;(first|apply u2|apply u3|apply u4|apply us);exact Qwc a.resizes b.resizes szA szA _;(first|apply u2|apply u3|apply u4|apply us);exact ref19_Same_c a.books b.books szA szA _;(first|apply u2|apply u3|apply u4|apply us);exact ref17_Same_c a.ledger b.ledger szA szA _;exact lfA
end Go.Proofs.YtackngeeehiegaaGreatDoor
