/-
  What the last text of this claim leans on: an evaluator over the code, contracts of functions, plain laws. Conditions stand in each statement.
-/
import Derived.Test.YtackngeeehiegaaGreatDoorRD9
import Derived.Test.YtackngeeehiegaaGreatDoorProg
namespace Go.Proofs.YtackngeeehiegaaGreatDoor
set_option linter.unusedSimpArgs false
set_option linter.unusedVariables false
open Go.Fw
set_option maxRecDepth 20000
set_option maxHeartbeats 4000000
attribute [local irreducible] ACalls AMoves
def Qi4 (n:Int):Nat->Int->Nat->Int
 | 0,_,_=>0
 | m+1,rest,i=>bif (decide ((i:Int)<n)) then Qi4 n m (wu64 (BitVec.ofInt 64 rest &&& BitVec.ofInt 64 (wu64 (rest - 1))).toNat) (i+1) else rest
def Qx3 (s:Int) (rest:Int):Int × Bool:=((wu64 (BitVec.ofInt 64 s &&& ~~~(BitVec.ofInt 64 rest)).toNat),true)
def Q11 (s:Int) (n:Int):Int × Bool:=bif ((decide (n<0))||(decide (n > (Q10 s)))) then (0,false) else Qx3 s (Qi4 n ((Int.toNat (n - (0:Int)))+1) s 0)
theorem QX9 (s:Int) (n:Int):GV 95 [U s,I n] (AVal.tup [U ((Q11 s n).1),Bo ((Q11 s n).2)]):=by
 generalize hR:Q11 s n=R;refine gA (kp 7 [14,16,17,18]) Tryz.func95 ?_;(first|apply u2|apply u3|apply u4|apply us);exact Q71 s _;refine ai (fun h1=>?_) (fun h2=>?_)
 ·exact lfA
 ·refine QP0 (fun (rest:Int) (i:Nat)=>∃ m,(Int.toNat (n - (i:Int)))<m∧Qx3 s (Qi4 n m rest i)=R) (fun rest i=>(Int.toNat (n - (i:Int)))) (fun rest i=>[(0,U s),(4,U 0),(5,Bo false),(6,U rest),(16,I n),(17,I (i:Int))]) (fun rest i=>[]) s 0 (wkA []) ⟨_,yeb _,foll hR (cf h2 rfl)⟩ ?_;clear hR;rintro rest i ⟨m,hm,hR⟩;(try dsimp only at hR hm);obtain ⟨m,rfl⟩:=sucA m;refine ai (fun h3=>?_) (fun h4=>?_)
  ·have qh3:=yfa h3;have hnc:=Qve s;have hb:=Bool.or_eq_false_iff.1 h2;have hb1:=yea hb.1;have hb2:=yea hb.2;exact Qr0 (wu64 (BitVec.ofInt 64 rest &&& BitVec.ofInt 64 (wu64 (rest - 1))).toNat) (i+1) (wkA []) omA ⟨m,by exact omA,foll hR (congrArg (fun p:Int=>Qx3 s p) (ct h3 rfl))⟩
  ·have qh4:=yea h4;replace hR:Qx3 s rest=R:=fo2 (fun p:Int=>Qx3 s p) (rest) hR (cf h4 rfl);exact lfA
def Qj6 (c:Cmd) (job:Bool) (submit:Bool) (prio:Bool) (time:Bool) (node:Bool) (nodes:Bool) (from_:Bool):Bool:=bif ((((((job&&(c.job != 0))||(prio&&c.hasPrio))||(time&&c.hasTime))||(node&&(c.node != 0)))||(nodes&&(c.nodes != 0)))||(from_&&(c.from_ != 0))) then false else bif (!submit) then true else (((((ByteArray.toList c.name==ByteArray.toList ⟨#[]⟩)&&(ByteArray.toList c.user==ByteArray.toList ⟨#[]⟩))&&(ByteArray.toList c.account==ByteArray.toList ⟨#[]⟩))&&((c.after.length:Int)==0))&&(QQ6 c.shape zB))
def Qh6 (s:ByteArray):Bool:=((((Q75 s).2==0)&&(decide ((Q75 s).1 >= 1)))&&(decide ((Q75 s).1<=16)))
def Q57 (s:ByteArray):Nat->Nat->List Int->Nat × (List Int)
 | 0,_,_=>(0,[])
 | m+1,i,c=>bif (decide ((i:Int)<(ByteArray.size s:Int))) then bif ((((s.data.toList.getD i 0).toNat:Int)==34)||(((s.data.toList.getD i 0).toNat:Int)==92)) then Q57 s m (i+1) ((c++([92]:List Int))++([((s.data.toList.getD i 0).toNat:Int)]:List Int)) else Q57 s m (i+1) (c++([((s.data.toList.getD i 0).toNat:Int)]:List Int)) else (i,c)
def ref04_Quote_k1 (i:Nat) (c:List Int):ByteArray × Int:=((Qa3 (c++([34]:List Int))),0)
def QXf (s:ByteArray):ByteArray × Int:=bif ((Q75 s).2 != 0) then (⟨#[]⟩,(Q75 s).2) else ref04_Quote_k1 ((Q57 s ((Int.toNat ((ByteArray.size s:Int) - (0:Int)))+1) 0 ([34]:List Int)).1) ((Q57 s ((Int.toNat ((ByteArray.size s:Int) - (0:Int)))+1) 0 ([34]:List Int)).2)
def QA2 (s:Shape):Nat->List Alt->Nat->(List Alt) × Nat
 | 0,_,_=>([],0)
 | m+1,out,i=>bif (decide ((i:Int)<=(w64 (s.max - s.min)))) then QA2 s m (out++([(⟨(w64 (s.max - (i:Int))),s.wall⟩:Alt)]:List Alt)) (i+1) else (out,i)
def QY9 (out:List Alt) (i:Nat):(List Alt):=out
def Qh0 (s:Shape):(List Alt):=bif ((QC1 s)!=0) then [] else bif (s.kind != 3) then s.alts else QY9 ((QA2 s ((Int.toNat ((w64 (s.max - s.min)) - (0:Int)+1))+1) [] 0).1) ((QA2 s ((Int.toNat ((w64 (s.max - s.min)) - (0:Int)+1))+1) [] 0).2)
def Qg2 (set_:Int) (n:Int):Bool:=(Q59 set_ n)
def QS6 (job:Int) (state:Int):List Node->Int->Nat->Int × Nat
 | [],out,i=>(out,i)
 | x_ :: r,out,i=>bif ((x_.job==job)&&(x_.state==state)) then QS6 job state r (wu64 (out+(Q3g (i:Int)))) (i+1) else QS6 job state r out (i+1)
def Q1g (out:Int) (i:Nat):Int:=out
def Qx8 (l:List Node) (job:Int) (state:Int):Int:=bif ((Q34 l)!=0) then 0 else Q1g ((QS6 job state l 0 0).1) ((QS6 job state l 0 0).2)
def Q87 (l:List Node) (set_:Int):Nat->Bool->Nat->Bool × Nat
 | 0,_,_=>(false,0)
 | m+1,ok,i=>bif ((decide ((i:Int)<((Qy0 set_).length:Int)))&&ok) then Q87 l set_ m ((decide (((Qy0 set_).getD i 0)<(l.length:Int)))&&((l.getD (Int.toNat ((Qy0 set_).getD i 0)) zF).want==0)) (i+1) else (ok,i)
def Qlb (ok:Bool) (i:Nat):Bool:=ok
def QNb (l:List Node) (set_:Int):Bool:=Qlb ((Q87 l set_ ((Int.toNat (((Qy0 set_).length:Int) - (0:Int)))+1) ((Q34 l)==0) 0).1) ((Q87 l set_ ((Int.toNat (((Qy0 set_).length:Int) - (0:Int)))+1) ((Q34 l)==0) 0).2)
def QR6 (p_:List Step) (at_:Int) (long:Int) (nodes:Int):Bool:=bif ((((((((Qk1 p_)!=0)||(decide (nodes<1)))||(decide (nodes > 1000000)))||(decide (long<1)))||(decide (long > 1000000)))||(decide (at_<0)))||(decide (at_ > (w64 (1000000 - long))))) then false else (decide ((QF9 p_ at_ (w64 (at_+long))) >= nodes))
def QS2 (p_:List Step) (from_:Int) (to_:Int) (n:Int):List Int->List Step->Nat->(List Step) × Nat
 | [],out,i=>(out,i)
 | x_ :: r,out,i=>bif ((decide (x_ >= from_))&&(decide (x_<to_))) then bif (((out.length:Int)==0)||((out.getD (Int.toNat (w64 ((out.length:Int) - 1))) zE).free != (w64 ((Qf8 p_ x_)+n)))) then QS2 p_ from_ to_ n r (out++([(⟨x_,(w64 ((Qf8 p_ x_)+n))⟩:Step)]:List Step)) (i+1) else QS2 p_ from_ to_ n r out (i+1) else bif (((out.length:Int)==0)||((out.getD (Int.toNat (w64 ((out.length:Int) - 1))) zE).free != (Qf8 p_ x_))) then QS2 p_ from_ to_ n r (out++([(⟨x_,(Qf8 p_ x_)⟩:Step)]:List Step)) (i+1) else QS2 p_ from_ to_ n r out (i+1)
def Q8e (out:List Step) (i:Nat):(List Step) × Int:=bif ((Qk1 out)!=0) then ([],3) else (out,0)
def Qt8 (p_:List Step) (from_:Int) (to_:Int) (n:Int) (more:List Int):(List Step) × Int:=Q8e ((QS2 p_ from_ to_ n (Q43 p_ more) [] 0).1) ((QS2 p_ from_ to_ n (Q43 p_ more) [] 0).2)
def Q73 (p_:List Step) (from_:Int) (to_:Int) (n:Int):(List Step) × Int:=bif ((Qk1 p_)!=0) then ([],100) else bif (((((decide (from_<0))||(decide (from_ > 1000000)))||(decide (to_<from_)))||(decide (n<(-1000000))))||(decide (n > 1000000))) then ([],2) else bif (decide (to_<=1000000)) then Qt8 p_ from_ to_ n (([from_]:List Int)++([to_]:List Int)) else Qt8 p_ from_ to_ n ([from_]:List Int)
def Q7g (s:State) (n:Int):Int:=bif (((s.nodes.getD (Int.toNat n) zF).drain||((s.nodes.getD (Int.toNat n) zF).state==0))||((s.nodes.getD (Int.toNat n) zF).state==4)) then 0 else bif ((s.nodes.getD (Int.toNat n) zF).state==3) then (w64 ((s.nodes.getD (Int.toNat n) zF).since+12)) else bif ((Q95 s.jobs ((s.nodes.getD (Int.toNat n) zF).job)).state != 2) then 1000001 else (w64 ((Q95 s.jobs ((s.nodes.getD (Int.toNat n) zF).job)).limit+12))
def Q0g (l:List Node) (n:Int) (act:Int) (job:Int) (now:Int):(List Node) × Int:=((l.set (Int.toNat n) ((Q2g (l.getD (Int.toNat n) zF) act job now).1)),0)
def Qw8 (l:List Node) (n:Int) (act:Int) (job:Int) (now:Int):(List Node) × Int:=bif ((((((Q34 l)!=0)||(decide (n<0)))||(decide (n >= (l.length:Int))))||(decide (now<0)))||(decide (now > 1000000))) then ([],120) else bif (!(Q2g (l.getD (Int.toNat n) zF) act job now).2) then ([],120) else Q0g l n act job now
def QVa (l:List Node) (n:Int):Note × Bool:=bif (((((Q34 l)!=0)||(decide (n<0)))||(decide (n >= (l.length:Int))))||((l.getD (Int.toNat n) zF).want==0)) then (zL,false) else ((⟨(l.getD (Int.toNat n) zF).want,n,(l.getD (Int.toNat n) zF).job,(l.getD (Int.toNat n) zF).epoch⟩:Note),true)
def Qp4 :List Int->Int->Nat->Int × Nat
 | [],out,i=>(out,i)
 | x_ :: r,out,i=>bif (!(Q59 out x_)) then Qp4 r (wu64 (out+(QHc x_))) (i+1) else Qp4 r out (i+1)
def ref09_Set_k1 (out:Int) (i:Nat):Int:=out
def Qy6 (l:List Int):Int:=ref09_Set_k1 ((Qp4 l 0 0).1) ((Qp4 l 0 0).2)
def ref14_Same_g1 (a:Job) (b:Job):List Dep->Nat->Bool
 | [],_=>((((((((((((((a.id==b.id)&&(ByteArray.toList a.name==ByteArray.toList b.name))&&(ByteArray.toList a.user==ByteArray.toList b.user))&&(ByteArray.toList a.account==ByteArray.toList b.account))&&(a.prio==b.prio))&&(a.state==b.state))&&(a.held==b.held))&&(a.born==b.born))&&(a.promise==b.promise))&&(a.choice==b.choice))&&(a.start==b.start))&&(a.limit==b.limit))&&(a.nodes==b.nodes))&&(a.used==b.used))
 | x_ :: r,i=>bif (!((x_.how==(b.after.getD i zC).how)&&(x_.job==(b.after.getD i zC).job))) then false else ref14_Same_g1 a b r (i+1)
def QW7 (a:Job) (b:Job):Bool:=bif (((a.after.length:Int)!=(b.after.length:Int))||(!(QQ6 a.shape b.shape))) then false else ref14_Same_g1 a b a.after 0
theorem Qce (a:Job) (b:Job) (hs0:a.sz) (hs1:b.sz):GV 115 [Job.a a,Job.a b] (Bo (QW7 a b)):=by
 generalize hR:QW7 a b=R;refine gA (kp 7 [21,26,39]) Tryz.func115 ?_;obtain ⟨z7,z8,z9,z10,z11⟩:=Job.zz hs0;obtain ⟨z12,z13,z14,z15,z16⟩:=Job.zz hs1;(first|apply u2|apply u3|apply u4|apply us);exact ref07_Same_c a.shape b.shape szA szA _;refine ai (fun h1=>?_) (fun h2=>?_)
 ·exact lfA
 ·refine Qx0 (fun (i:Nat)=>ref14_Same_g1 a b (List.drop i a.after) i=R∧i<=a.after.length) (fun i=>a.after.length - i) (fun i=>[(2,AVal.ptr 0 0 20 0 0),(3,AVal.ptr 1 0 20 0 0),(4,Bo false),(5,I (i:Int))]) (fun i=>[(0,AObj.row 72 20 [[I a.id,Sg a.name,Sg a.user,Sg a.account,I a.shape.kind,altL a.shape.alts,I a.shape.min,I a.shape.max,I a.shape.wall,I a.prio,depL a.after,I a.state,Bo a.held,I a.born,I a.promise,I a.choice,I a.start,I a.limit,U a.nodes,I a.used]]),(0,AObj.row 72 20 [[I b.id,Sg b.name,Sg b.user,Sg b.account,I b.shape.kind,altL b.shape.alts,I b.shape.min,I b.shape.max,I b.shape.wall,I b.prio,depL b.after,I b.state,Bo b.held,I b.born,I b.promise,I b.choice,I b.start,I b.limit,U b.nodes,I b.used]])]) 0 (wkA [0,1]) ⟨folA,by exact omA⟩ ?_;clear hR;rintro i ⟨hR,hj⟩;(try dsimp only at hR hj);refine ai (fun h3=>?_) (fun h4=>?_)
  ·have hlt:=ltA h3;rw [Qq0 zC hlt] at hR;refine dchk (by kernel_rfl) ?_;refine ai gkA ?_;refine ai gkA ?_;refine ai (fun _=>(by kernel_rfl:eqOK _ _=true)) ?_;(repeat ((first|refine ai rfl ?_|refine ai (fun _=>rfl) ?_)));refine ai (fun h5=>?_) (fun h6=>?_)
   ·exact lfA
   ·exact QD0 (i+1) (wkA [0,1]) omA ⟨folA,by exact omA⟩
  ·rw [Qv0 (l:=a.after) (j:=i) (geA h4)] at hR;exact lfA
def Q45 (s:State):Bool:=(((((Qsc s.nodes)&&(Qtc s.jobs))&&(Qvc s.books))&&(Quc s.ledger))&&(decide ((s.resizes.length:Int)<=100)))
theorem law20_Few_c (s:State) (hs0:s.szM):GV 8 [State.a s] (Bo (Q45 s)):=by
 generalize hR:Q45 s=R;refine gA (kp 3 []) Tryz.func8 ?_;have hk0:=hs0;obtain ⟨z1,z2,z3,z4,z5,z6,z7⟩:=hs0;refine us (law12_Few_c s.nodes _) ?_;(first|apply u2|apply u3|apply u4|apply us);exact law15_Few_c s.jobs szA _;(first|apply u2|apply u3|apply u4|apply us);exact law19_Few_c s.books _;(first|apply u2|apply u3|apply u4|apply us);exact law17_Few_c s.ledger szA _;exact lfA
theorem u3g {P:Program} {f:FuncId} {args:List AVal} {objs:Objs} {r:AVal} {g:Bool} {K:AVal->Objs->Prop} (h:g=true->ACalls P f args objs fun a b=>a=r∧b=objs) (k:K r objs):∃ r' o',(g=true->ACalls P f args objs (fun a b=>a=r'∧b=o'))∧(g=false->o'=objs)∧K r' o':=⟨r,objs,h,fun _=>rfl,k⟩
theorem QVd:∀ (l:List Usage) (i:Nat),Qk7 l i=true -> ∀ y ∈ l,y.sz
 | [],_,_,y,hy=>nomatch hy
 | x :: r,i,h,y,hy=>by
  rw [Qk7] at h;cases hc:((decide ((ByteArray.size x.user:Int) > 1000))||(decide ((ByteArray.size x.account:Int) > 1000))) with
  | true=>rw [hc] at h;cases h
  | false =>
   rw [hc] at h;rcases List.mem_cons.1 hy with rfl|hy
   ·simp only [yZa,yCa] at hc;exact ⟨by omega,by omega⟩
   ·exact QVd r (i+1) h y hy
theorem law14_Few_sz {j:Job} (h:Q19 j=true):j.sz:=by
 simp only [Q19,Qrc,yca,yda] at h;exact ⟨by omega,by omega,by omega,by show j.shape.alts.length<=_;omega,by omega⟩
theorem QUd:∀ (l:List Job) (i:Nat),Qj7 l i=true -> ∀ y ∈ l,y.sz
 | [],_,_,y,hy=>nomatch hy
 | x :: r,i,h,y,hy=>by
  rw [Qj7] at h;cases hc:Q19 x with
  | false=>rw [hc] at h;cases h
  | true =>
   rw [hc] at h;rcases List.mem_cons.1 hy with rfl|hy
   ·exact law14_Few_sz hc
   ·exact QUd r (i+1) h y hy
theorem QWd {s:State} (h:Q45 s=true):s.sz:=by
 simp only [Q45,Qsc,Qtc,Qvc,Quc,yca,yda] at h;obtain ⟨⟨⟨⟨h1,h2⟩,h3⟩,h4⟩,h5⟩:=h;cases hj:decide ((s.jobs.length:Int) > 60) with
 | true=>rw [hj] at h2;cases h2
 | false =>
  cases hl:decide ((s.ledger.length:Int) > 300) with
  | true=>rw [hl] at h4;cases h4
  | false =>
   rw [hj] at h2;rw [hl] at h4;have qj:=yea hj;have ql:=yea hl;exact ⟨by omega,by omega,QUd _ _ h2,by omega,by omega,by omega,QVd _ _ h4⟩
def Q50 (l:List Node):Int:=bif (((decide ((l.length:Int)<1))||(decide ((l.length:Int) > 48)))||(QH0 l (fun (y:Node)=>(!(QG0 y))))) then 120 else 0
theorem Qb3 (l:List Node) (hs0:l.length<=4294967296):GV 94 [nodeL l] (I (Q50 l)):=by
 generalize hR:Q50 l=R;refine gA (kp 3 [14]) Tryz.func94 ?_;have hk0:=hs0;obtain z7:l.length<=4294967296:=hs0;have cl1:∀ (y1:Node),AMoves Tryz.prog 151 [Node.a y1] [] 0 (Bo ((fun (y:Node)=>(!(QG0 y))) y1)) []:=by
  intro y1;have hR:(fun (y:Node)=>(!(QG0 y))) y1=(fun (y:Node)=>(!(QG0 y))) y1:=rfl;refine mo (kp 3 []) Tryz.func151 ?_;refine us (fleet_fine_c y1 _) ?_;refine Qi0 (fun r:Bool=>Bo r) (fun _=>[]) (leaf:=(!(QG0 y1))) (foll hR rfl) ?_;exact tt [] .nil t1
 have hof1:AMoves Tryz.prog 150 [nodeL l,AVal.fn (.func 151) [] []] [] 0 (Bo (QH0 l (fun (y:Node)=>(!(QG0 y))))) []:=by
  have hR:QH0 l (fun (y:Node)=>(!(QG0 y)))=QH0 l (fun (y:Node)=>(!(QG0 y))):=rfl;refine mo (kp 5 []) Tryz.func150 ?_;have hof2:AMoves Tryz.prog 209 [nodeL l,AVal.fn (.func 151) [] []] [] 0 (I (Qi2 l (fun (y:Node)=>(!(QG0 y))))) []:=by
   have hR:Qi2 l (fun (y:Node)=>(!(QG0 y)))=Qi2 l (fun (y:Node)=>(!(QG0 y))):=rfl;refine mo (kp 6 [7,8,9,16]) Tryz.func209 ?_;refine Qx0 (fun (i:Nat)=>Qm4 (fun (y:Node)=>(!(QG0 y))) (List.drop i l) i=Qi2 l (fun (y:Node)=>(!(QG0 y)))∧i<=l.length) (fun i=>l.length - i) (fun i=>[(0,nodeL l),(1,AVal.fn (.func 151) [] []),(4,I 0),(7,I (l.length:Int)),(8,I (i:Int))]) (fun i=>[]) 0 (wkA []) ⟨foll hR rfl,by exact omA⟩ ?_;clear hR;rintro i ⟨hR,hj⟩;(try dsimp only at hR hj);refine ai (fun h1=>?_) (fun h2=>?_)
   ·have hlt:=ltA h1;rw [Qq0 zF hlt] at hR;refine ai gkA ?_;refine us (mv [] (cl1 (l.getD i zF)) .nil (dl (Node.low _ _) .nil) .nil rx) ?_;refine ai (fun h3=>?_) (fun h4=>?_)
    ·refine Qi0 (fun r:Int=>I r) (fun r:Int=>[]) (leaf:=(i:Int)) (foll hR (ct h3 rfl)) ?_;exact tt [] .nil t1
    ·exact QD0 (i+1) (wkA []) omA ⟨folA,by exact omA⟩
   ·rw [Qv0 (l:=l) (j:=i) (geA h2)] at hR;refine Qi0 (fun r:Int=>I r) (fun r:Int=>[]) (leaf:=(-1)) (foll hR rfl) ?_;exact tt [] .nil t1
  refine us (mv [] (hof2) .nil (dl lw (dv (QG6 (Low.fn _ _ _ LowL.nil LowL.nil)) .nil)) .nil rx) ?_;refine Qi0 (fun r:Bool=>Bo r) (fun r:Bool=>[]) (leaf:=(decide ((Qi2 l (fun (y:Node)=>(!(QG0 y)))) >= 0))) (foll hR rfl) ?_;exact tt [] .nil t1
 (first|apply u2|apply u3|apply u4|apply us);exact mv [] (hof1) .nil (dl lw (dv (QG6 (Low.fn _ _ _ LowL.nil LowL.nil)) .nil)) .nil rx;refine ai (fun h5=>?_) (fun h6=>?_)
 ·exact lfA
 ·exact lfA
def Q92 (ok:Bool):Int:=bif (!ok) then 70 else 0
def Q02 (s:Shape):Int:=bif (s.kind==1) then Q92 (((((s.min==0)&&(s.max==0))&&(s.wall==0))&&((s.alts.length:Int)==1))&&(Qe1 (s.alts.getD 0 zA))) else bif (s.kind==2) then Q92 (((((((s.min==0)&&(s.max==0))&&(s.wall==0))&&(decide ((s.alts.length:Int) >= 1)))&&(decide ((s.alts.length:Int)<=6)))&&(Qd5 s.alts))&&(!(QV0 s.alts (fun (y:Alt)=>(!(Qe1 y)))))) else bif (s.kind==3) then Q92 (((((s.alts.length:Int)==0)&&(decide (s.min<=s.max)))&&(Qe1 (⟨s.min,s.wall⟩:Alt)))&&(decide (s.max<=48))) else Q92 false
theorem QVc (s:Shape) (hs0:s.sz):GV 199 [Shape.a s] (I (Q02 s)):=by
 generalize hR:Q02 s=R;refine gA (kj [1000011] 6 [23,24,38,60,85]) Tryz.func199 ?_;have hk0:=hs0;obtain z13:s.alts.length<=4294967296:=hs0;refine Qp2 (fun (ok:Bool)=>Q92 ok=R) (fun ok=>[(2,I 0),(5,Bo ok)]) (fun ok=>[]) ?_ ?_
 ·clear hR;rintro ok hR;(try dsimp only at hR);refine ai (fun h1=>?_) (fun h2=>?_)
  ·exact lfA
  ·exact lfA
 ·refine ai (fun h3=>?_) (fun h4=>?_)
  ·refine ai gkA ?_;(first|apply u2|apply u3|apply u4|apply us);exact QBa (s.alts.getD 0 zA) _;exact Qt0 (((((s.min==0)&&(s.max==0))&&(s.wall==0))&&((s.alts.length:Int)==1))&&(Qe1 (s.alts.getD 0 zA))) (wkA []) (foll hR (ct h3 rfl))
  ·refine ai (fun h5=>?_) (fun h6=>?_)
   ·(first|apply u2|apply u3|apply u4|apply us);exact shape_apart_c s.alts szA _;have cl1:∀ (y1:Alt),AMoves Tryz.prog 242 [Alt.a y1] [] 0 (Bo ((fun (y:Alt)=>(!(Qe1 y))) y1)) []:=by
     intro y1;have hR:(fun (y:Alt)=>(!(Qe1 y))) y1=(fun (y:Alt)=>(!(Qe1 y))) y1:=rfl;refine mo (kp 3 []) Tryz.func242 ?_;refine us (QBa y1 _) ?_;refine Qi0 (fun r:Bool=>Bo r) (fun _=>[]) (leaf:=(!(Qe1 y1))) (foll hR rfl) ?_;exact tt [] .nil t1
    have hof1:AMoves Tryz.prog 241 [altL s.alts,AVal.fn (.func 242) [] []] [] 0 (Bo (QV0 s.alts (fun (y:Alt)=>(!(Qe1 y))))) []:=by
     have hR:QV0 s.alts (fun (y:Alt)=>(!(Qe1 y)))=QV0 s.alts (fun (y:Alt)=>(!(Qe1 y))):=rfl;refine mo (kp 5 []) Tryz.func241 ?_;have hof2:AMoves Tryz.prog 273 [altL s.alts,AVal.fn (.func 242) [] []] [] 0 (I (Q81 s.alts (fun (y:Alt)=>(!(Qe1 y))))) []:=by
      have hR:Q81 s.alts (fun (y:Alt)=>(!(Qe1 y)))=Q81 s.alts (fun (y:Alt)=>(!(Qe1 y))):=rfl;refine mo (kp 6 [7,8,9,16]) Tryz.func273 ?_;refine Qx0 (fun (i:Nat)=>Qg3 (fun (y:Alt)=>(!(Qe1 y))) (List.drop i s.alts) i=Q81 s.alts (fun (y:Alt)=>(!(Qe1 y)))∧i<=s.alts.length) (fun i=>s.alts.length - i) (fun i=>[(0,altL s.alts),(1,AVal.fn (.func 242) [] []),(4,I 0),(7,I (s.alts.length:Int)),(8,I (i:Int))]) (fun i=>[]) 0 (wkA []) ⟨foll hR rfl,by exact omA⟩ ?_;clear hR;rintro i ⟨hR,hj⟩;(try dsimp only at hR hj);refine ai (fun h7=>?_) (fun h8=>?_)
      ·have hlt:=ltA h7;rw [Qq0 zA hlt] at hR;refine ai gkA ?_;refine us (mv [] (cl1 (s.alts.getD i zA)) .nil (dl (Alt.low _ _) .nil) .nil rx) ?_;refine ai (fun h9=>?_) (fun h10=>?_)
       ·refine Qi0 (fun r:Int=>I r) (fun r:Int=>[]) (leaf:=(i:Int)) (foll hR (ct h9 rfl)) ?_;exact tt [] .nil t1
       ·exact QD0 (i+1) (wkA []) omA ⟨folA,by exact omA⟩
      ·rw [Qv0 (l:=s.alts) (j:=i) (geA h8)] at hR;refine Qi0 (fun r:Int=>I r) (fun r:Int=>[]) (leaf:=(-1)) (foll hR rfl) ?_;exact tt [] .nil t1
     refine us (mv [] (hof2) .nil (dl lw (dv (QG6 (Low.fn _ _ _ LowL.nil LowL.nil)) .nil)) .nil rx) ?_;refine Qi0 (fun r:Bool=>Bo r) (fun r:Bool=>[]) (leaf:=(decide ((Q81 s.alts (fun (y:Alt)=>(!(Qe1 y)))) >= 0))) (foll hR rfl) ?_;exact tt [] .nil t1
    (first|apply u2|apply u3|apply u4|apply us);exact mv [] (hof1) .nil (dl lw (dv (QG6 (Low.fn _ _ _ LowL.nil LowL.nil)) .nil)) .nil rx;exact Qt0 (((((((s.min==0)&&(s.max==0))&&(s.wall==0))&&(decide ((s.alts.length:Int) >= 1)))&&(decide ((s.alts.length:Int)<=6)))&&(Qd5 s.alts))&&(!(QV0 s.alts (fun (y:Alt)=>(!(Qe1 y)))))) (wkA []) (foll hR (cf h4 (ct h5 rfl)))
   ·refine ai (fun h11=>?_) (fun h12=>?_)
    ·(first|apply u2|apply u3|apply u4|apply us);exact QBa (⟨s.min,s.wall⟩:Alt) _;exact Qt0 (((((s.alts.length:Int)==0)&&(decide (s.min<=s.max)))&&(Qe1 (⟨s.min,s.wall⟩:Alt)))&&(decide (s.max<=48))) (wkA []) (foll hR (cf h4 (cf h6 (ct h11 rfl))))
    ·exact Qt0 false (wkA []) (foll hR (cf h4 (cf h6 (cf h12 rfl))))
def QF1 (r_:LexReader):Token × LexReader:=bif (!(QU7 ((Q30 r_ (fun (y:Int)=>(((decide (y >= 48))&&(decide (y<=57)))||((decide (y >= 97))&&(decide (y<=122)))))).1))) then ((⟨3,(Q30 r_ (fun (y:Int)=>(((decide (y >= 48))&&(decide (y<=57)))||((decide (y >= 97))&&(decide (y<=122)))))).1,0,0⟩:Token),(Q30 r_ (fun (y:Int)=>(((decide (y >= 48))&&(decide (y<=57)))||((decide (y >= 97))&&(decide (y<=122)))))).2) else bif (!(QK6 ((Q30 r_ (fun (y:Int)=>(((decide (y >= 48))&&(decide (y<=57)))||((decide (y >= 97))&&(decide (y<=122)))))).1)).2) then ((⟨2,⟨#[]⟩,(QK6 ((Q30 r_ (fun (y:Int)=>(((decide (y >= 48))&&(decide (y<=57)))||((decide (y >= 97))&&(decide (y<=122)))))).1)).1,0⟩:Token),(QW0 ((Q30 r_ (fun (y:Int)=>(((decide (y >= 48))&&(decide (y<=57)))||((decide (y >= 97))&&(decide (y<=122)))))).2) r_.at_ 50)) else ((⟨2,⟨#[]⟩,(QK6 ((Q30 r_ (fun (y:Int)=>(((decide (y >= 48))&&(decide (y<=57)))||((decide (y >= 97))&&(decide (y<=122)))))).1)).1,0⟩:Token),(Q30 r_ (fun (y:Int)=>(((decide (y >= 48))&&(decide (y<=57)))||((decide (y >= 97))&&(decide (y<=122)))))).2)
theorem Qyc (r_:LexReader) (hs0:r_.sz) (hp0:0<=r_.at_∧r_.at_<=(r_.line.length:Int)∧r_.line.length<=400):AMoves Tryz.prog 317 [AVal.ptr 0 0 4 0 0] [(0,AObj.row 321 4 [[runes r_.line,I r_.at_,I r_.bad,I r_.error]])] 1 (Token.a ((QF1 r_).1)) [(0,AObj.row 321 4 [[runes ((QF1 r_).2.line),I ((QF1 r_).2.at_),I ((QF1 r_).2.bad),I ((QF1 r_).2.error)]])]:=by
 generalize hR:QF1 r_=R;refine mo (kp 7 [15,24]) Tryz.func317 ?_;have hk0:=hs0;obtain z7:r_.line.length<=4294967296:=hs0;have cl1:∀ (y1:Int),AMoves Tryz.prog 332 [J y1] [] 0 (Bo ((fun (y:Int)=>(((decide (y >= 48))&&(decide (y<=57)))||((decide (y >= 97))&&(decide (y<=122))))) y1)) []:=by
  intro y1;have hR:(fun (y:Int)=>(((decide (y >= 48))&&(decide (y<=57)))||((decide (y >= 97))&&(decide (y<=122))))) y1=(fun (y:Int)=>(((decide (y >= 48))&&(decide (y<=57)))||((decide (y >= 97))&&(decide (y<=122))))) y1:=rfl;refine mo (kp 3 []) Tryz.func332 ?_;refine Qi0 (fun r:Bool=>Bo r) (fun _=>[]) (leaf:=(((decide (y1 >= 48))&&(decide (y1<=57)))||((decide (y1 >= 97))&&(decide (y1<=122))))) (foll hR rfl) ?_;exact tt [] .nil t1
 have hof1:AMoves Tryz.prog 307 [AVal.ptr 0 0 4 0 0,AVal.fn (.func 332) [] []] [(0,AObj.row 321 4 [[runes r_.line,I r_.at_,I r_.bad,I r_.error]])] 1 (Sg ((Q30 r_ (fun (y:Int)=>(((decide (y >= 48))&&(decide (y<=57)))||((decide (y >= 97))&&(decide (y<=122)))))).1)) [(0,AObj.row 321 4 [[runes (((Q30 r_ (fun (y:Int)=>(((decide (y >= 48))&&(decide (y<=57)))||((decide (y >= 97))&&(decide (y<=122)))))).2).line),I (((Q30 r_ (fun (y:Int)=>(((decide (y >= 48))&&(decide (y<=57)))||((decide (y >= 97))&&(decide (y<=122)))))).2).at_),I (((Q30 r_ (fun (y:Int)=>(((decide (y >= 48))&&(decide (y<=57)))||((decide (y >= 97))&&(decide (y<=122)))))).2).bad),I (((Q30 r_ (fun (y:Int)=>(((decide (y >= 48))&&(decide (y<=57)))||((decide (y >= 97))&&(decide (y<=122)))))).2).error)]])]:=by
  have hR:Q30 r_ (fun (y:Int)=>(((decide (y >= 48))&&(decide (y<=57)))||((decide (y >= 97))&&(decide (y<=122)))))=Q30 r_ (fun (y:Int)=>(((decide (y >= 48))&&(decide (y<=57)))||((decide (y >= 97))&&(decide (y<=122))))):=rfl;refine mo (kp 6 [33]) Tryz.func307 ?_;refine Qx0 (fun (c:LexReader)=>∃ m,(Int.toNat ((c.line.length:Int) - c.at_))<m∧QF0 r_ (QE0 (fun (y:Int)=>(((decide (y >= 48))&&(decide (y<=57)))||((decide (y >= 97))&&(decide (y<=122))))) m c)=Q30 r_ (fun (y:Int)=>(((decide (y >= 48))&&(decide (y<=57)))||((decide (y >= 97))&&(decide (y<=122)))))∧0<=c.at_∧c.at_<=(c.line.length:Int)∧c.line.length<=400∧r_.at_<=c.at_∧0<=r_.at_) (fun c=>(Int.toNat ((c.line.length:Int) - c.at_))) (fun c=>[(0,AVal.ptr 0 0 4 0 0),(1,AVal.fn (.func 332) [] []),(4,Sg ⟨#[]⟩),(5,I r_.at_)]) (fun c=>[(0,AObj.row 321 4 [[runes c.line,I c.at_,I c.bad,I c.error]])]) r_ (wkA [0]) ⟨_,yeb _,foll hR rfl,by exact exA⟩ ?_;clear hR;rintro c ⟨m,hm,hR,hx⟩;(try dsimp only at hR hm hx);obtain ⟨m,rfl⟩:=sucA m;refine dchk (by kernel_rfl) ?_;refine ai gkA ?_;(first|apply u2|apply u3|apply u4|apply us);exact mv [] (cl1 (c.line.getD (Int.toNat c.at_) 0)) .nil (d1 .nil) .nil rx;(repeat ((first|refine ai rfl ?_|refine ai (fun _=>rfl) ?_)));refine ai (fun h1=>?_) (fun h2=>?_)
  ·have hq1:=yfa ((yca _ _).mp h1).1;have hwr:w64 (c.at_+1)=c.at_+1:=wr (by omega);exact QD0 { c with at_:=(w64 (c.at_+1)) } (wk [0] (tO rfl (ts LexReader.lo) .nil) (sv (Qi1 0 rfl rfl) (sv (QH3 (Low.fn _ _ _ LowL.nil LowL.nil)) (s1 (s1 .nil))))) omA ⟨m,by exact omA,foll hR (congrArg (fun p:LexReader=>QF0 r_ p) (ct h1 rfl)),by exact exA⟩
  ·replace hR:QF0 r_ c=Q30 r_ (fun (y:Int)=>(((decide (y >= 48))&&(decide (y<=57)))||((decide (y >= 97))&&(decide (y<=122))))):=fo2 (fun p:LexReader=>QF0 r_ p) (c) hR (cf h2 rfl);refine dchk (by kernel_rfl) ?_;refine ai gkA ?_;(first|refine ⟨(List.drop (Int.toNat r_.at_) (List.take (Int.toNat c.at_) c.line)),by exact cvA,?_⟩|refine ⟨_,fun _=>⟨(List.drop (Int.toNat r_.at_) (List.take (Int.toNat c.at_) c.line)),by exact cvA,rfl,rfl⟩,?_⟩|refine ⟨_,rfl,⟨(List.drop (Int.toNat r_.at_) (List.take (Int.toNat c.at_) c.line)),by exact cvA,Sub.refl _,rfl⟩,?_⟩);(repeat ((first|refine ai rfl ?_|refine ai (fun _=>rfl) ?_)));refine Qi0 (fun r:ByteArray × LexReader=>Sg r.1) (fun r:ByteArray × LexReader=>[(0,AObj.row 321 4 [[runes r.2.line,I r.2.at_,I r.2.bad,I r.2.error]])]) (leaf:=((runesBytes (List.drop (Int.toNat r_.at_) (List.take (Int.toNat c.at_) c.line))),c)) (foll hR rfl) ?_;exact tt [0] (tO rfl (ts LexReader.lo) .nil) t1
 refine us (mv [0] (hof1) (dO (ds LexReader.lo) .nil) (dp (dv (QG6 (Low.fn _ _ _ LowL.nil LowL.nil)) .nil)) (rO (re LexReader.lo) .nil) rx) ?_;refine us (QYd ((Q30 r_ (fun (y:Int)=>(((decide (y >= 48))&&(decide (y<=57)))||((decide (y >= 97))&&(decide (y<=122)))))).1) (by first|(exact Qma _ _ hp0.2.2)|exact szA) _) ?_;refine ai (fun h3=>?_) (fun h4=>?_)
 ·obtain rfl:=foll hR (ct h3 rfl);exact rq (ttA [0])
 ·refine us (lex_number_c ((Q30 r_ (fun (y:Int)=>(((decide (y >= 48))&&(decide (y<=57)))||((decide (y >= 97))&&(decide (y<=122)))))).1) (by first|(exact Qma _ _ hp0.2.2)|exact szA) _) ?_;refine ai (fun h5=>?_) (fun h6=>?_)
  ·refine us (mv [0] (Qw3 ((Q30 r_ (fun (y:Int)=>(((decide (y >= 48))&&(decide (y<=57)))||((decide (y >= 97))&&(decide (y<=122)))))).2) r_.at_ 50) (dO (ds LexReader.lo) .nil) (dp (d1 (d1 .nil))) (rO (re LexReader.lo) .nil) rx) ?_;obtain rfl:=foll hR (cf h4 (ct h5 rfl));exact rq (ttA [0])
  ·obtain rfl:=foll hR (cf h4 (cf h6 rfl));exact rq (ttA [0])
attribute [local irreducible] QN0
def QL3 :List (Nat × Int)->Bool->List Int->ByteArray × Int
 | [],held,buf=>bif held then (⟨#[]⟩,50) else ((Qa3 buf),0)
 | x_ :: r,held,buf=>bif ((held&&(x_.2 != 34))&&(x_.2 != 92)) then bif ((held&&(x_.2 != 34))&&(x_.2 != 92)) then (⟨#[]⟩,50) else bif ((!held)&&(x_.2==92)) then QL3 r true buf else QL3 r false (QN0 buf x_.2) else bif ((!held)&&(x_.2==34)) then (⟨#[]⟩,50) else bif ((!held)&&(x_.2==92)) then QL3 r true buf else QL3 r false (QN0 buf x_.2)
def Qe3 (s:ByteArray):ByteArray × Int:=bif ((Qz4 s).2 != 0) then (⟨#[]⟩,(Qz4 s).2) else bif (((decide ((ByteArray.size s:Int)<2))||(((s.data.toList.getD 0 0).toNat:Int)!=34))||(((s.data.toList.getD (Int.toNat (w64 ((ByteArray.size s:Int) - 1))) 0).toNat:Int)!=34)) then (⟨#[]⟩,50) else QL3 (Qb7 (s.extract 1 (Int.toNat (w64 ((ByteArray.size s:Int) - 1))))) false []
theorem b3a0 {P:Prop} (h:P:=by first|(have hsz:=extract_size s 1 (Int.toNat (w64 ((ByteArray.size s:Int) - 1)));refine ⟨?_,?_,?_⟩ <;> (try dsimp only) <;> first|omega|with_reducible exact QIa|with_reducible exact hx.2.2|with_reducible exact byteIn_rune _ _ hx.2.2|exact yJa (Q0c _ _) (by omega)|(simp;done))|exact exA):P:=h
theorem Qya (s:ByteArray) (hs0:s.size<=4294967296) (hp0:ByteArray.size s<=1000000):GV 336 [Sg s] (AVal.tup [Sg ((Qe3 s).1),I ((Qe3 s).2)]):=by
 generalize hR:Qe3 s=R;refine gA (kp 10 [16,33,39,40,41,43,59,68]) Tryz.func336 ?_;have hk0:=hs0;obtain z19:s.size<=4294967296:=hs0;have hw0:w64 ((ByteArray.size s:Int) - 1)=(ByteArray.size s:Int) - 1:=wr (by omega);refine us (QRc s szA _) ?_;refine ai (fun h1=>?_) (fun h2=>?_)
 ·exact lfA
 ·refine ai gkA ?_;refine ai gkA ?_;refine ai (fun h3=>?_) (fun h4=>?_)
  ·obtain rfl:=foll hR (cf h2 (ct h3 rfl));exact Qb0 (Low.tup' (l1 (l1 .nil))) (Seen.tup (e1 (e1 .nil)))
  ·refine ai gkA ?_;refine QIb (fun (held:Bool) (buf:List Int) (pos:Nat)=>∃ m,ByteArray.size (s.extract 1 (Int.toNat (w64 ((ByteArray.size s:Int) - 1)))) - pos<=m∧QL3 (Q05 (s.extract 1 (Int.toNat (w64 ((ByteArray.size s:Int) - 1)))) m pos) held buf=R∧buf.length<=4*pos∧pos<=ByteArray.size s∧Qg7 buf) (fun held buf pos=>ByteArray.size (s.extract 1 (Int.toNat (w64 ((ByteArray.size s:Int) - 1)))) - pos) (fun held buf pos=>[(2,Sg ⟨#[]⟩),(3,I 0),(6,AVal.ptr 0 0 2 0 0),(7,Bo held),(39,AVal.ptr 1 0 1 0 0)]) (fun held buf pos=>[(0,AObj.row 339 2 [[AVal.sel 0 0 2 0 0,AVal.buf 2 0 1 buf.length]]),(0,AObj.other (.strIter (s.extract 1 (Int.toNat (w64 ((ByteArray.size s:Int) - 1)))) pos)),(0,AObj.row 5 1 (buf.map (fun q_=>[Y q_])))]) false [] 0 ((Qa4 5 1).trans (wk [0,1,2] (tO rfl (QV2 (cv (turn_selnil) (cv (turn_nilbuf 2 rfl) .nil))) (tO rfl (.strIter _ _) (tO rfl (tl eqA) .nil))) (s1 (s1 (sv (Qi1 0 rfl rfl) (s1 (sv (Qi1 1 rfl rfl) .nil))))))) ⟨ByteArray.size (s.extract 1 (Int.toNat (w64 ((ByteArray.size s:Int) - 1)))),by exact omA,foll hR (cf h2 (cf h4 rfl)),b3a0⟩ ?_;clear hR;rintro held buf pos ⟨m,hm,hR,hx⟩;(try dsimp only at hR hm hx);refine ai (fun h5=>?_) (fun h6=>?_)
   ·have hlt:=yfa h5;have hw:=QNa (s.extract 1 (Int.toNat (w64 ((ByteArray.size s:Int) - 1)))) pos;have hwe:=QMa (s.extract 1 (Int.toNat (w64 ((ByteArray.size s:Int) - 1)))) pos hlt;obtain ⟨m,rfl⟩:=sucA m;rw [QE4 h5] at hR;refine ai (fun _=>?_) (fun h=>nomatch h);refine ai (fun h7=>?_) (fun h8=>?_)
    ·refine ai (fun h9=>?_) (fun h10=>?_)
     ·exact lfA
     ·refine ai (fun h11=>?_) (fun h12=>?_)
      ·exact QL6 true buf (pos+(Utf8.decode (s.extract 1 (Int.toNat (w64 ((ByteArray.size s:Int) - 1)))) pos).2) (wk [0,1,2] (tO rfl (QV2 (cv (turn_sel 0 rfl rfl) (cv (turn_buf 2 rfl rfl) .nil))) (tO rfl (.strIter _ _) (tO rfl (tl eqA) .nil))) (s1 (s1 (sv (Qi1 0 rfl rfl) (s1 (sv (Qi1 1 rfl rfl) .nil)))))) omA ⟨m,by exact omA,foll hR (ct h7 (cf h10 (ct h11 rfl))),b3a0⟩
      ·refine us (mv [0,2] (Q2f buf ((pos,((Utf8.decode (s.extract 1 (Int.toNat (w64 ((ByteArray.size s:Int) - 1)))) pos).1:Int)).2) szA) (dO (dc (dv (dn_sel rfl) (dv (dn_buf rfl) .nil))) (dO (dr eqA) .nil)) (dp (d1 .nil)) (rO (rc (rv (rp 0 0 rfl) (rv (rw_ 3 0 rfl) .nil))) (rO rr .nil)) (Ren.low _ (Low.tup' (l1 (l1 .nil))))) ?_;exact QL6 false (QN0 buf (pos,((Utf8.decode (s.extract 1 (Int.toNat (w64 ((ByteArray.size s:Int) - 1)))) pos).1:Int)).2) (pos+(Utf8.decode (s.extract 1 (Int.toNat (w64 ((ByteArray.size s:Int) - 1)))) pos).2) (wk [0,1,3] (tO rfl (QV2 (cv (QZb 0 rfl rfl) (cv (QRg 2 rfl rfl lnA (by first|with_reducible exact QB8 _ _|(simp;done)|grind)) .nil))) (tO rfl (.strIter _ _) (tO rfl (tl eqA) .nil))) (s1 (s1 (sv (Qi1 0 rfl rfl) (s1 (sv (Qi1 1 rfl rfl) .nil)))))) omA ⟨m,by exact omA,foll hR (ct h7 (cf h10 (cf h12 rfl))),b3a0⟩
    ·refine ai (fun h13=>?_) (fun h14=>?_)
     ·exact lfA
     ·refine ai (fun h15=>?_) (fun h16=>?_)
      ·exact QL6 true buf (pos+(Utf8.decode (s.extract 1 (Int.toNat (w64 ((ByteArray.size s:Int) - 1)))) pos).2) (wk [0,1,2] (tO rfl (QV2 (cv (turn_sel 0 rfl rfl) (cv (turn_buf 2 rfl rfl) .nil))) (tO rfl (.strIter _ _) (tO rfl (tl eqA) .nil))) (s1 (s1 (sv (Qi1 0 rfl rfl) (s1 (sv (Qi1 1 rfl rfl) .nil)))))) omA ⟨m,by exact omA,foll hR (cf h8 (cf h14 (ct h15 rfl))),b3a0⟩
      ·refine us (mv [0,2] (Q2f buf ((pos,((Utf8.decode (s.extract 1 (Int.toNat (w64 ((ByteArray.size s:Int) - 1)))) pos).1:Int)).2) szA) (dO (dc (dv (dn_sel rfl) (dv (dn_buf rfl) .nil))) (dO (dr eqA) .nil)) (dp (d1 .nil)) (rO (rc (rv (rp 0 0 rfl) (rv (rw_ 3 0 rfl) .nil))) (rO rr .nil)) (Ren.low _ (Low.tup' (l1 (l1 .nil))))) ?_;exact QL6 false (QN0 buf (pos,((Utf8.decode (s.extract 1 (Int.toNat (w64 ((ByteArray.size s:Int) - 1)))) pos).1:Int)).2) (pos+(Utf8.decode (s.extract 1 (Int.toNat (w64 ((ByteArray.size s:Int) - 1)))) pos).2) (wk [0,1,3] (tO rfl (QV2 (cv (QZb 0 rfl rfl) (cv (QRg 2 rfl rfl lnA (by first|with_reducible exact QB8 _ _|(simp;done)|grind)) .nil))) (tO rfl (.strIter _ _) (tO rfl (tl eqA) .nil))) (s1 (s1 (sv (Qi1 0 rfl rfl) (s1 (sv (Qi1 1 rfl rfl) .nil)))))) omA ⟨m,by exact omA,foll hR (cf h8 (cf h14 (cf h16 rfl))),b3a0⟩
   ·rw [Qt7 h6] at hR;refine ai (fun h=>nomatch h) (fun _=>?_);refine ai (fun h17=>?_) (fun h18=>?_)
    ·exact lfA
    ·refine us (mv [0,2] (String_c buf (by first|(with_reducible exact hx.2.2)|first|assumption|exact QIa|grind) szA) (dO (dc (dv (dn_any) (dv (dn_bufbuf rfl) .nil))) (dO (dr eqA) .nil)) (dp .nil) (rO (re (.cons Low.any (.cons Low.any .nil))) .nil) rx) ?_;exact lfA
def Q55 (l:List Usage):List Usage->Nat->Int
 | [],_=>0
 | x_ :: r,i=>bif ((((((!(Q06 x_.user))||(!(Q06 x_.account)))||(x_.used != (Ql4 x_.used)))||(decide (x_.share<0)))||(decide (x_.share > x_.used)))||((decide ((i:Int) > 0))&&(decide ((Ql7 (l.getD (Int.toNat (w64 ((i:Int) - 1))) zJ) x_) >= 0)))) then 2 else Q55 l r (i+1)
def Qo4 (l:List Usage):Int:=bif (decide ((l.length:Int) > 200)) then 2 else Q55 l l 0
theorem ledger_Check_c (l:List Usage) (hs0:l.length<=4294967296∧(∀ y ∈ l,y.sz)):GV 122 [Q93 l] (I (Qo4 l)):=by
 generalize hR:Qo4 l=R;refine gA (kp 5 [7,8,9,10,11,58]) Tryz.func122 ?_;obtain ⟨z9,z10⟩:=id hs0;refine ai (fun h1=>?_) (fun h2=>?_)
 ·have qh1:=yfa h1;exact lfA
 ·have qh2:=yea h2;refine Qx0 (fun (i:Nat)=>Q55 l (List.drop i l) i=R∧i<=l.length) (fun i=>l.length - i) (fun i=>[(0,Q93 l),(2,I 0),(8,Q93 l),(9,I (l.length:Int)),(10,I (i:Int))]) (fun i=>[]) 0 (wkA []) ⟨folA,by exact omA⟩ ?_;clear hR;rintro i ⟨hR,hj⟩;(try dsimp only at hR hj);refine ai (fun h3=>?_) (fun h4=>?_)
  ·have hlt:=ltA h3;rw [Qq0 zJ hlt] at hR;have hxz:(l.getD i zJ).sz:=Qu4 (by first|assumption|grind) (Usage.szz _);have hkz:=hxz;obtain ⟨z5,z6⟩:=Usage.zz hxz;refine ai gkA ?_;refine dchk (by kernel_rfl) ?_;(first|apply u2|apply u3|apply u4|apply us);exact QN7 ((l.getD i zJ).user) _;(first|apply u2|apply u3|apply u4|apply us);exact QN7 ((l.getD i zJ).account) _;(first|apply u2|apply u3|apply u4|apply us);exact QK9 ((l.getD i zJ).used) _;refine ai gkA ?_;(first|apply u2|apply u3|apply u4|apply us);exact Qbb (l.getD (Int.toNat (w64 ((i:Int) - 1))) zJ) (l.getD i zJ) szA szA _;(repeat ((first|refine ai rfl ?_|refine ai (fun _=>rfl) ?_|refine ai (fun _=>QN7 ((l.getD i zJ).user) _) ?_|refine ai (fun _=>QN7 ((l.getD i zJ).account) _) ?_|refine ai (fun _=>QK9 ((l.getD i zJ).used) _) ?_|refine ai (fun _=>Qbb (l.getD (Int.toNat (w64 ((i:Int) - 1))) zJ) (l.getD i zJ) szA szA _) ?_)));refine ai (fun h7=>?_) (fun h8=>?_)
   ·exact lfA
   ·exact QD0 (i+1) (wkA []) omA ⟨folA,by exact omA⟩
  ·rw [Qv0 (l:=l) (j:=i) (geA h4)] at hR;exact lfA
def QI7 (p_:List Step) (at_:Int) (long:Int) (nodes:Int):Bool:=bif ((((QX1 p_)!=0)||(!(QJ7 long nodes)))||(!(QK4 at_ 0 (w64 (1000000 - long))))) then false else (decide ((QI0 p_ at_ (w64 (at_+long))) >= nodes))
theorem fit_Fits_c (p_:List Step) (at_:Int) (long:Int) (nodes:Int) (hs0:p_.length<=4294967296):GV 34 [stepL p_,I at_,I long,I nodes] (Bo (QI7 p_ at_ long nodes)):=by
 generalize hR:QI7 p_ at_ long nodes=R;refine gA (kp 9 [24]) Tryz.func34 ?_;have hk0:=hs0;obtain z3:p_.length<=4294967296:=hs0;refine us (Qv6 p_ szA _) ?_;(first|apply u2|apply u3|apply u4|apply us);exact fit_asks_c long nodes _;(first|apply u2|apply u3|apply u4|apply us);exact Qaa at_ 0 (w64 (1000000 - long)) _;refine ai (fun h1=>?_) (fun h2=>?_)
 ·exact lfA
 ·refine us (Qqa p_ at_ (w64 (at_+long)) szA _) ?_;exact lfA
def Qo1 (t:Taken) (from_:Int) (to_:Int) (n:Int):Taken:=bif ((decide (to_<=from_))||(n==0)) then t else bif ((QI2 t.p from_ to_ (w64 (0 - n))).2==0) then (⟨(QI2 t.p from_ to_ (w64 (0 - n))).1⟩:Taken) else t
theorem QW6 (t:Taken) (from_:Int) (to_:Int) (n:Int) (hs0:t.sz):AMoves Tryz.prog 92 [AVal.ptr 0 0 1 0 0,I from_,I to_,I n] [(0,AObj.row 145 1 [[stepL t.p]])] 1 (AVal.tup []) [(0,AObj.row 145 1 [[stepL ((Qo1 t from_ to_ n).p)]])]:=by
 generalize hR:Qo1 t from_ to_ n=R;refine mo (kp 10 [16,30]) Tryz.func92 ?_;have hk0:=hs0;obtain z5:t.p.length<=4294967296:=hs0;refine ai (fun h1=>?_) (fun h2=>?_)
 ·obtain rfl:=foll hR (ct h1 rfl);exact rq (ttA [0])
 ·refine us (profile_Add_c t.p from_ to_ (w64 (0 - n)) szA _) ?_;refine ai (fun h3=>?_) (fun h4=>?_)
  ·obtain rfl:=foll hR (cf h2 (ct h3 rfl));exact rq (ttA [0])
  ·obtain rfl:=foll hR (cf h2 (cf h4 rfl));exact rq (ttA [0])
theorem QS9 {t:Taken} {f g n:Int} (h:t.p.length<=4294967296):(Qo1 t f g n).p.length<=4294967296:=by
 unfold Qo1
 repeat' first|exact h|exact QTf _ _ _ _ h|(rw [yCb];split)
theorem flat_len (n:Int):(Qy2 n).length<=4294967296:=by simp [Qy2]
def QR0 (s:Int) (n:Int):Int × Bool:=bif ((decide (n<0))||(decide (n > (Q10 s)))) then (0,false) else ((wu64 (BitVec.ofInt 64 s &&& ~~~(BitVec.ofInt 64 (Q11 s (w64 ((Q10 s) - n))).1)).toNat),true)
theorem Qxd (s:Int) (n:Int):GV 37 [U s,I n] (AVal.tup [U ((QR0 s n).1),Bo ((QR0 s n).2)]):=by
 generalize hR:QR0 s n=R;refine gA (kp 8 [15]) Tryz.func37 ?_;(first|apply u2|apply u3|apply u4|apply us);exact Q71 s _;refine ai (fun h1=>?_) (fun h2=>?_)
 ·exact lfA
 ·refine us (Q71 s _) ?_;refine us (QX9 s (w64 ((Q10 s) - n)) _) ?_;exact lfA
def QS5 (s:ByteArray):Nat->List Int->Int->(List Int) × Int
 | 0,_,_=>([],0)
 | m+1,out,i=>bif (decide (i<(w64 ((ByteArray.size s:Int) - 1)))) then bif ((((s.data.toList.getD (Int.toNat i) 0).toNat:Int)==92)&&(decide ((w64 (i+1))<(w64 ((ByteArray.size s:Int) - 1))))) then QS5 s m (out++([((s.data.toList.getD (Int.toNat (w64 (i+1))) 0).toNat:Int)]:List Int)) (w64 ((w64 (i+1))+1)) else QS5 s m (out++([((s.data.toList.getD (Int.toNat i) 0).toNat:Int)]:List Int)) (w64 (i+1)) else (out,i)
def Qye (s:ByteArray) (out:List Int) (i:Int):ByteArray × Int:=bif (((QXf (Qa3 out)).2 != 0)||(!(ByteArray.toList (QXf (Qa3 out)).1==ByteArray.toList s))) then (⟨#[]⟩,50) else ((Qa3 out),0)
def QGc (s:ByteArray):ByteArray × Int:=bif ((Q75 s).2 != 0) then (⟨#[]⟩,(Q75 s).2) else Qye s ((QS5 s ((Int.toNat ((w64 ((ByteArray.size s:Int) - 1)) - 1))+1) [] 1).1) ((QS5 s ((Int.toNat ((w64 ((ByteArray.size s:Int) - 1)) - 1))+1) [] 1).2)
def QK2 (s:Shape) (choice:Int):Int:=bif ((decide (choice<0))||(decide (choice >= ((Qh0 s).length:Int)))) then 0 else ((Qh0 s).getD (Int.toNat choice) zA).wall
def Qw6 (s:Shape) (choice:Int) (n:Int):List Alt->Nat->Bool
 | [],_=>false
 | x_ :: r,i=>bif ((x_.nodes==n)&&(((i:Int)==choice)||(s.kind==3))) then true else Qw6 s choice n r (i+1)
def Qua (s:Shape) (choice:Int) (n:Int):Bool:=bif ((decide (choice<0))||(decide (choice >= ((Qh0 s).length:Int)))) then false else Qw6 s choice n (Qh0 s) 0
def QG3 (x_:Node) (n:Int) (r_:Resize):Bool:=bif r_.grow then bif (!((Qg2 r_.nodes n)==(x_.state==2))) then false else (((!(Qg2 r_.nodes n))||((Qg2 r_.said n)&&(x_.want==0)))||((!(Qg2 r_.said n))&&(x_.want==2))) else bif (((Qg2 r_.nodes n)&&(x_.state != 1))||((!(Qg2 r_.nodes n))&&(x_.want==4))) then false else (((!(Qg2 r_.nodes n))||((Qg2 r_.said n)&&(x_.want==0)))||((!(Qg2 r_.said n))&&(x_.want==4)))
def Qv5 (s:State) (n:Int):Bool:=bif (((((s.nodes.getD (Int.toNat n) zF).state==1)&&((!(QZ0 s ((s.nodes.getD (Int.toNat n) zF).job)).2)||(!(Qg2 ((QZ0 s ((s.nodes.getD (Int.toNat n) zF).job)).1.nodes) n))))||(((s.nodes.getD (Int.toNat n) zF).state==2)&&(!(QZ0 s ((s.nodes.getD (Int.toNat n) zF).job)).2)))||(((s.nodes.getD (Int.toNat n) zF).state==3)&&(decide ((s.nodes.getD (Int.toNat n) zF).job >= s.nextJob)))) then false else bif (((s.nodes.getD (Int.toNat n) zF).state==2)||((s.nodes.getD (Int.toNat n) zF).want==4)) then (Qg2 ((QT5 s ((s.nodes.getD (Int.toNat n) zF).job)).nodes) n) else true
def QV6 (p_:List Step) (from_:Int) (to_:Int) (n:Int):(List Step):=bif ((Q73 p_ from_ to_ (w64 (0 - n))).2 != 0) then p_ else (Q73 p_ from_ to_ (w64 (0 - n))).1
def Qf0 (j:Job):Int × Int × Int × Bool:=bif ((j.state != 1)||(j.promise==(-1))) then (0,0,0,false) else (j.promise,(w64 (((Qh0 j.shape).getD (Int.toNat j.choice) zA).wall+12)),((Qh0 j.shape).getD (Int.toNat j.choice) zA).nodes,true)
def QQ4 (l:List Node):List Int->List Note->Nat->(List Note) × Nat
 | [],out,i=>(out,i)
 | x_ :: r,out,i=>bif (QVa l x_).2 then QQ4 l r (out++([(QVa l x_).1]:List Note)) (i+1) else QQ4 l r out (i+1)
def ref13_Notes_k1 (out:List Note) (i:Nat):(List Note):=out
def Q4g (l:List Node) (nodes:List Int):(List Note):=ref13_Notes_k1 ((QQ4 l nodes [] 0).1) ((QQ4 l nodes [] 0).2)
def Qx6 (s:Int) (n:Int):Int × Bool:=bif ((decide (n<0))||(decide (n > ((Qy0 s).length:Int)))) then (0,false) else ((Qy6 (List.drop (Int.toNat (w64 (((Qy0 s).length:Int) - n))) (Qy0 s))),true)
end Go.Proofs.YtackngeeehiegaaGreatDoor
namespace Go.Proofs.YtackngeeehiegaaGreatDoor
set_option linter.unusedSimpArgs false
set_option linter.unusedVariables false
open Go.Fw
set_option maxRecDepth 20000
set_option maxHeartbeats 4000000
attribute [local irreducible] ACalls AMoves
def QQ7 (b:List Job):List Job->Nat->Bool
 | [],_=>true
 | x_ :: r,i=>bif (!(QW7 x_ (b.getD i zG))) then false else QQ7 b r (i+1)
def QX7 (a:List Job) (b:List Job):Bool:=bif ((a.length:Int)!=(b.length:Int)) then false else QQ7 b a 0
theorem Qy8 (a:List Job) (b:List Job) (hs0:a.length<=4294967296∧(∀ y ∈ a,y.sz)) (hs1:b.length<=4294967296∧(∀ y ∈ b,y.sz)):GV 53 [jobL a,jobL b] (Bo (QX7 a b)):=by
 generalize hR:QX7 a b=R;refine gA (kp 6 [10,14,26]) Tryz.func53 ?_;obtain ⟨z12,z13⟩:=id hs0;obtain ⟨z14,z15⟩:=id hs1;refine ai (fun h1=>?_) (fun h2=>?_)
 ·exact lfA
 ·refine Qx0 (fun (i:Nat)=>QQ7 b (List.drop i a) i=R∧i<=a.length) (fun i=>a.length - i) (fun i=>[(0,jobL a),(1,jobL b),(4,Bo false),(5,I (i:Int))]) (fun i=>[]) 0 (wkA []) ⟨folA,by exact omA⟩ ?_;clear hR;rintro i ⟨hR,hj⟩;(try dsimp only at hR hj);refine ai (fun h3=>?_) (fun h4=>?_)
  ·have hlt:=ltA h3;rw [Qq0 zG hlt] at hR;have hxz:(a.getD i zG).sz:=Qu4 (by first|assumption|grind) (Job.szz _);have hkz:=hxz;obtain ⟨z5,z6,z7,z8,z9⟩:=Job.zz hxz;refine dchk (by kernel_rfl) ?_;refine ai gkA ?_;refine ai gkA ?_;(first|apply u2|apply u3|apply u4|apply us);exact Qce (a.getD i zG) (b.getD i zG) szA szA _;(repeat ((first|refine ai rfl ?_|refine ai (fun _=>rfl) ?_|refine ai (fun _=>Qce (a.getD i zG) (b.getD i zG) szA szA _) ?_)));refine ai (fun h10=>?_) (fun h11=>?_)
   ·exact lfA
   ·exact QD0 (i+1) (wkA []) omA ⟨folA,by exact omA⟩
  ·rw [Qv0 (l:=a) (j:=i) (geA h4)] at hR;exact lfA
def Q22 :Nat->LexReader->Bool->LexReader × Bool
 | 0,_,_=>(zM,false)
 | m+1,c,c2=>bif ((decide (c.at_<(c.line.length:Int)))&&(Qm1 (c.line.getD (Int.toNat c.at_) 0) c2).1) then Q22 m { c with at_:=(w64 (c.at_+1)) } (bif (decide (c.at_<(c.line.length:Int))) then (Qm1 (c.line.getD (Int.toNat c.at_) 0) c2).2 else c2) else (c,(bif (decide (c.at_<(c.line.length:Int))) then (Qm1 (c.line.getD (Int.toNat c.at_) 0) c2).2 else c2))
def Qq2 (r_:LexReader) (c:LexReader) (c2:Bool):Token × LexReader:=bif (c.at_==(c.line.length:Int)) then (zD,(QW0 c r_.at_ 50)) else bif ((c.line.getD (Int.toNat c.at_) 0)!=34) then (zD,(QW0 c c.at_ 40)) else bif ((Qe3 (runesBytes (List.drop (Int.toNat r_.at_) (List.take (Int.toNat (w64 (c.at_+1))) c.line)))).2 != 0) then ((⟨4,(Qe3 (runesBytes (List.drop (Int.toNat r_.at_) (List.take (Int.toNat (w64 (c.at_+1))) c.line)))).1,0,0⟩:Token),(QW0 { c with at_:=(w64 (c.at_+1)) } r_.at_ ((Qe3 (runesBytes (List.drop (Int.toNat r_.at_) (List.take (Int.toNat (w64 (c.at_+1))) c.line)))).2))) else ((⟨4,(Qe3 (runesBytes (List.drop (Int.toNat r_.at_) (List.take (Int.toNat (w64 (c.at_+1))) c.line)))).1,0,0⟩:Token),{ c with at_:=(w64 (c.at_+1)) })
def QR1 (r_:LexReader):Token × LexReader:=Qq2 r_ ((Q22 ((Int.toNat ((r_.line.length:Int) - r_.at_))+1) r_ true).1) ((Q22 ((Int.toNat ((r_.line.length:Int) - r_.at_))+1) r_ true).2)
theorem Qrd (r_:LexReader) (hs0:r_.sz) (hp0:0<=r_.at_∧r_.at_<(r_.line.length:Int)∧r_.line.length<=400):AMoves Tryz.prog 318 [AVal.ptr 0 0 4 0 0] [(0,AObj.row 321 4 [[runes r_.line,I r_.at_,I r_.bad,I r_.error]])] 1 (Token.a ((QR1 r_).1)) [(0,AObj.row 321 4 [[runes ((QR1 r_).2.line),I ((QR1 r_).2.at_),I ((QR1 r_).2.bad),I ((QR1 r_).2.error)]])]:=by
 generalize hR:QR1 r_=R;refine mo (kp 7 [23,38,69]) Tryz.func318 ?_;have hk0:=hs0;obtain z9:r_.line.length<=4294967296:=hs0;refine ACalls.of_cwp (fun _=>true) Tryz.func307 rfl rfl ?_;refine QP0 (fun (c:LexReader) (c2:Bool)=>∃ m,(Int.toNat ((c.line.length:Int) - c.at_))<m∧Qq2 r_ (Q22 m c c2).1 (Q22 m c c2).2=R∧0<=c.at_∧c.at_<=(c.line.length:Int)∧c.line.length<=400∧r_.at_<=c.at_∧0<=r_.at_) (fun c c2=>(Int.toNat ((c.line.length:Int) - c.at_))) (fun c c2=>[(0,AVal.ptr 0 0 4 0 0),(1,AVal.fn (.func 335) [] [AVal.ptr 2 0 1 0 0]),(4,Sg ⟨#[]⟩),(5,I r_.at_)]) (fun c c2=>[(0,AObj.row 321 4 [[runes c.line,I c.at_,I c.bad,I c.error]]),(0,AObj.row 305 4 [[I 0,Sg ⟨#[]⟩,I 0,I 0]]),(0,AObj.row 4 1 [[Bo c2]])]) r_ true (wkA [0,1,2]) ⟨_,yeb _,foll hR rfl,by exact exA⟩ ?_;clear hR;rintro c c2 ⟨m,hm,hR,hx⟩;(try dsimp only at hR hm hx);obtain ⟨m,rfl⟩:=sucA m;refine dchk (by kernel_rfl) ?_;refine ai gkA ?_;refine ⟨_,[(0,AObj.row 321 4 [[runes c.line,I c.at_,I c.bad,I c.error]]),(0,AObj.row 305 4 [[I 0,Sg ⟨#[]⟩,I 0,I 0]]),(0,AObj.row 4 1 [[Bo (bif (decide (c.at_<(c.line.length:Int))) then (Qm1 (c.line.getD (Int.toNat c.at_) 0) c2).2 else c2)]])],fun hg=>(by rw [show (decide (c.at_<(c.line.length:Int)))=true from hg];exact mv [2] (Q3b (c.line.getD (Int.toNat c.at_) 0) c2) (dO (ds (l1 LowL.nil)) .nil) (d1 (dp .nil)) (rO (re (l1 LowL.nil)) .nil) rx),fun hg=>(by rw [show (decide (c.at_<(c.line.length:Int)))=false from hg];rfl),?_⟩;(repeat ((first|refine ai rfl ?_|refine ai (fun _=>rfl) ?_)));refine ai (fun h1=>?_) (fun h2=>?_)
 ·have hq1:=yfa ((yca _ _).mp h1).1;have hwr:w64 (c.at_+1)=c.at_+1:=wr (by omega);exact Qr0 { c with at_:=(w64 (c.at_+1)) } (bif (decide (c.at_<(c.line.length:Int))) then (Qm1 (c.line.getD (Int.toNat c.at_) 0) c2).2 else c2) (wk [0,1,2] (tO rfl (ts LexReader.lo) (tO rfl (ts Token.lo) (tO rfl (ts (l1 LowL.nil)) .nil))) (sv (Qi1 0 rfl rfl) (sv (QB7 .nil (cv (Qi1 2 rfl rfl) .nil)) (s1 (s1 .nil))))) omA ⟨m,by exact omA,foll hR (congrArg (fun p:LexReader × Bool=>Qq2 r_ p.1 p.2) (ct h1 rfl)),by exact exA⟩
 ·replace hR:Qq2 r_ c (bif (decide (c.at_<(c.line.length:Int))) then (Qm1 (c.line.getD (Int.toNat c.at_) 0) c2).2 else c2)=R:=fo2 (fun p:LexReader × Bool=>Qq2 r_ p.1 p.2) (c,(bif (decide (c.at_<(c.line.length:Int))) then (Qm1 (c.line.getD (Int.toNat c.at_) 0) c2).2 else c2)) hR (cf h2 rfl);refine dchk (by kernel_rfl) ?_;refine ai gkA ?_;(first|refine ⟨(List.drop (Int.toNat r_.at_) (List.take (Int.toNat c.at_) c.line)),by exact cvA,?_⟩|refine ⟨_,fun _=>⟨(List.drop (Int.toNat r_.at_) (List.take (Int.toNat c.at_) c.line)),by exact cvA,rfl,rfl⟩,?_⟩|refine ⟨_,rfl,⟨(List.drop (Int.toNat r_.at_) (List.take (Int.toNat c.at_) c.line)),by exact cvA,Sub.refl _,rfl⟩,?_⟩);(repeat ((first|refine ai rfl ?_|refine ai (fun _=>rfl) ?_)));refine ⟨_,_,Told.refl,?_⟩;refine dchk (by kernel_rfl) ?_;(repeat ((first|refine ai rfl ?_|refine ai (fun _=>rfl) ?_)));refine ai (fun h3=>?_) (fun h4=>?_)
  ·refine us (mv [0] (Qw3 c r_.at_ 50) (dO (ds LexReader.lo) .nil) (dp (d1 (d1 .nil))) (rO (re LexReader.lo) .nil) rx) ?_;obtain rfl:=foll hR (ct h3 rfl);exact rq (ttA [0])
  ·refine dchk (by kernel_rfl) ?_;refine ai gkA ?_;(repeat ((first|refine ai rfl ?_|refine ai (fun _=>rfl) ?_)));refine ai (fun h5=>?_) (fun h6=>?_)
   ·refine us (mv [0] (Qw3 c c.at_ 40) (dO (ds LexReader.lo) .nil) (dp (d1 (d1 .nil))) (rO (re LexReader.lo) .nil) rx) ?_;obtain rfl:=foll hR (cf h4 (ct h5 rfl));exact rq (ttA [0])
   ·refine dchk (by kernel_rfl) ?_;refine ai gkA ?_;(first|refine ⟨(List.drop (Int.toNat r_.at_) (List.take (Int.toNat (w64 (c.at_+1))) c.line)),by exact cvA,?_⟩|refine ⟨_,fun _=>⟨(List.drop (Int.toNat r_.at_) (List.take (Int.toNat (w64 (c.at_+1))) c.line)),by exact cvA,rfl,rfl⟩,?_⟩|refine ⟨_,rfl,⟨(List.drop (Int.toNat r_.at_) (List.take (Int.toNat (w64 (c.at_+1))) c.line)),by exact cvA,Sub.refl _,rfl⟩,?_⟩);(first|apply u2|apply u3|apply u4|apply us);exact Qya (runesBytes (List.drop (Int.toNat r_.at_) (List.take (Int.toNat (w64 (c.at_+1))) c.line))) szA (by refine yJa (QC6 _) ?_;simp only [yva,yra];omega) _;(repeat ((first|refine ai rfl ?_|refine ai (fun _=>rfl) ?_|refine ai (fun _=>Qya (runesBytes (List.drop (Int.toNat r_.at_) (List.take (Int.toNat (w64 (c.at_+1))) c.line))) szA (by refine yJa (QC6 _) ?_;simp only [yva,yra];omega) _) ?_)));refine ai (fun h7=>?_) (fun h8=>?_)
    ·refine us (mv [0] (Qw3 { c with at_:=(w64 (c.at_+1)) } r_.at_ ((Qe3 (runesBytes (List.drop (Int.toNat r_.at_) (List.take (Int.toNat (w64 (c.at_+1))) c.line)))).2)) (dO (ds LexReader.lo) .nil) (dp (d1 (d1 .nil))) (rO (re LexReader.lo) .nil) rx) ?_;obtain rfl:=foll hR (cf h4 (cf h6 (ct h7 rfl)));exact rq (ttA [0])
    ·obtain rfl:=foll hR (cf h4 (cf h6 (cf h8 rfl)));exact rq (tt [0] (tO rfl (ts LexReader.lo) .nil) (QH3 (Low.agg' (Token.lo))))
def Q76 (min max wall:Int):List Alt:=(List.range (max - min+1).toNat).map fun (i:Nat)=>(⟨max - (i:Int),wall⟩:Alt)
def Qc1 (s:Shape):List Alt:=bif Q02 s != 0 then [] else bif s.kind==3 then s.alts++Q76 s.min s.max s.wall else s.alts
theorem Qc5 {s:Shape} (h:(Q02 s != 0)=false) (hk:(s.kind==3)=true):1<=s.min∧s.min<=s.max∧s.max<=48:=by
 have hk':s.kind=3:=by simpa using hk
 simp only [Q02,hk'] at h;revert h;cases h2:(((((s.alts.length:Int)==0)&&(decide (s.min<=s.max)))&&(Qe1 (⟨s.min,s.wall⟩:Alt)))&&(decide (s.max<=48))) with
 | false=>simp [h2,Q92]
 | true =>
  intro _;simp [Qe1] at h2;omega
theorem QLg (lo hi wall:Int):((Qm5 hi (hi - lo+1).toNat).map fun (n:Int)=>(⟨n,wall⟩:Alt))=Q76 lo hi wall:=by
 simp [Qm5,Q76,List.map_map,Function.comp_def]
theorem QD6 (s:Shape) (hs0:s.sz):GV 131 [Shape.a s] (altL (Qc1 s)):=by
 generalize hR:Qc1 s=R;refine gA (kp 4 [7,13,18]) Tryz.func131 ?_;have hk0:=hs0;obtain z7:s.alts.length<=4294967296:=hs0;refine us (QVc s szA _) ?_;refine ai (fun h1=>?_) (fun h2=>?_)
 ·exact lfA
 ·refine us (mv [] (QXc s.alts szA) .nil (dv (QG6 (Alt.lows _ _)) .nil) (rO rr .nil) (rw_ 1 0 rfl)) ?_;refine ai (fun h3=>?_) (fun h4=>?_)
  ·refine us (r:=.fn (.func 243) [] [.ptr 4 0 1 0 0,.ptr 3 0 1 0 0]) (o:=[(0,.row 69 5 [[I s.kind,altL s.alts,I s.min,I s.max,I s.wall]]),(0,.row 178 2 (s.alts.map Alt.cells)),(0,.row 67 1 [[.own 1 0 2 0 s.alts.length]]),(0,.row 3 1 [[I s.min]]),(0,.row 3 1 [[I s.max]])]) (ACalls.of_cwp (fun _=>true) Tryz.func201 rfl rfl ?_) ?_
   ·exact ⟨_,_,told_same,rfl,rfl⟩
   obtain ⟨q1,q2,q3⟩:=Qc5 h2 h3;refine range_next (α:=Int) (fun n=>.int .i64 n) (Qm5 s.max (s.max - s.min+1).toNat) (fun xs=>[(0,.row 69 5 [[I s.kind,altL s.alts,I s.min,I s.max,I s.wall]]),(0,.row 178 2 ((s.alts++xs.map fun (n:Int)=>(⟨n,s.wall⟩:Alt)).map Alt.cells)),(0,.row 67 1 [[.own 1 0 2 0 (s.alts++xs.map fun (n:Int)=>(⟨n,s.wall⟩:Alt)).length]]),(0,.row 3 1 [[I s.min]]),(0,.row 3 1 [[I s.max]])])
    (by simp) (by decide) (by decide) rfl rfl rfl rfl ?_ ?_ (by decide) ?_ ?_
   ·intro xs q hq _;simp only [ync,ymb,or_false] at hq;rcases hq with rfl|rfl|rfl|rfl|rfl <;> exact ⟨_,_,_,rfl⟩
   ·intro K a w hs;have hv:=Qag (hs.slot 18);obtain ⟨c1,c2⟩:=box_cell (o:=4) hs.mem rfl;obtain ⟨c3,c4⟩:=box_cell (o:=3) hs.mem rfl;refine ⟨243,#[.pointer (some ⟨K.ρ 4 0,0,none⟩),.pointer (some ⟨K.ρ 3 0,0,none⟩)],⟨K.ρ 3 0,0,none⟩,.int .i64 s.min,hv,?_,c4,?_,?_⟩
    ·intro args w;simp [go_sem]
    ·intro K1 xs W hs1;have hv1:=Qag (hs1.slot 18);have e:K1.ρ 3 0=K.ρ 3 0:=by
      have:=hv1.symm.trans hv;exact (by simpa using this:K1.ρ 4 0=K.ρ 4 0∧K1.ρ 3 0=K.ρ 3 0).2
     rw [← e];exact (box_cell (o:=3) hs1.mem rfl).1
    ·rw [Q78];exact sizes_stops 2 (by decide) _ _ s.min s.max w q1 q2 q3 c2 c4 c1 c3
   ·intro xs x hlen;rw [Q78] at hlen;refine Or.inl ?_;refine ⟨QD2 16 rfl lnA (by simp;omega),?_⟩;exact wk [0,1,2,3,4] (tO rfl (ts Shape.lo) (tO rfl (Qad (by simp only [yWb,yhb];rfl) (QD8 fun _=>Alt.lowc _ _)) (tO rfl (QV2 (.cons _ _ _ _ (to 1 (by simp [yta];omega)) .nil)) (tO rfl (ts (l1 .nil)) (tO rfl (ts (l1 .nil)) .nil)))))
     (sv (QB7 .nil (.cons _ _ _ _ (Qi1 4 rfl rfl) (.cons _ _ _ _ (Qi1 3 rfl rfl) .nil))) (s1 (sv (Qi1 2 rfl rfl) (s1 (s1 (sv (Qi1 0 rfl rfl) (sl (Shape.low _ _) .nil)))))))
   ·have e:Qc1 s=s.alts++(Qm5 s.max (s.max - s.min+1).toNat).map fun (n:Int)=>(⟨n,s.wall⟩:Alt):=by
     rw [QLg];exact cf h2 (ct h3 rfl)
    obtain rfl:=foll hR e;exact Qb0 lw (Qa0 zA _ rfl rfl rfl)
  ·obtain rfl:=foll hR (cf h2 (cf h4 rfl));exact Qb0 lw (Qa0 zA _ rfl eqA lnA)
def QT3 (l:List Node):List Int->Nat->Bool
 | [],_=>true
 | x_ :: r,i=>bif ((decide (x_<(l.length:Int)))&&((l.getD (Int.toNat x_) zF).want==0)) then QT3 l r (i+1) else false
def Qn2 (l:List Node) (set_:Int):Bool:=bif ((Q50 l)!=0) then false else QT3 l (Qc0 set_) 0
theorem Qf9 (l:List Node) (set_:Int) (hs0:l.length<=4294967296):GV 86 [nodeL l,U set_] (Bo (Qn2 l set_)):=by
 generalize hR:Qn2 l set_=R;refine gA (kp 7 [9,11,12,13,14,28]) Tryz.func86 ?_;have hk0:=hs0;obtain z7:l.length<=4294967296:=hs0;refine us (Qb3 l szA _) ?_;refine ai (fun h1=>?_) (fun h2=>?_)
 ·exact lfA
 ·refine us (Qeb set_ _) ?_;refine Qx0 (fun (i:Nat)=>QT3 l (List.drop i (Qc0 set_)) i=R∧i<=(Qc0 set_).length) (fun i=>(Qc0 set_).length - i) (fun i=>[(0,nodeL l),(4,Bo false),(11,ints (Qc0 set_)),(12,I ((Qc0 set_).length:Int)),(13,I (i:Int))]) (fun i=>[]) 0 (wkA []) ⟨folA,by exact omA⟩ ?_;clear hR;rintro i ⟨hR,hj⟩;(try dsimp only at hR hj);refine ai (fun h3=>?_) (fun h4=>?_)
  ·have hlt:=ltA h3;rw [Qq0 0 hlt] at hR;have hq:=Qwe set_ hlt;have hq2:=Qx7 set_;refine ai gkA ?_;refine ai gkA ?_;refine ai (fun h5=>?_) (fun h6=>?_)
   ·exact QD0 (i+1) (wkA []) omA ⟨folA,by exact omA⟩
   ·exact lfA
  ·rw [Qv0 (l:=(Qc0 set_)) (j:=i) (geA h4)] at hR;exact lfA
def Qn3 (is:Node->Bool):List Node->List Int->Nat->(List Int)
 | [],out,_=>out
 | x_ :: r,out,i=>bif (is x_) then Qn3 is r (out++([(i:Int)]:List Int)) (i+1) else Qn3 is r out (i+1)
def Q01 (out:List Int):Int:=(QO0 out).1
def Q31 (l:List Node) (is:Node->Bool):Int:=bif ((Q50 l)!=0) then 0 else Q01 (Qn3 is l [] 0)
def QX2 (l:List Node) (n:Int) (act:Int) (job:Int) (now:Int):(List Node) × Int:=bif ((Q50 l)!=0) then ([],(Q50 l)) else bif ((((decide (n<0))||(decide (n >= (l.length:Int))))||(!(QH2 now)))||(!(Qc2 (l.getD (Int.toNat n) zF) act job))) then ([],120) else ((l.set (Int.toNat n) (Q60 (l.getD (Int.toNat n) zF) act job now)),0)
theorem fleet_Do_c (l:List Node) (n:Int) (act:Int) (job:Int) (now:Int) (hs0:l.length<=4294967296):GV 156 [nodeL l,I n,I act,I job,I now] (AVal.tup [nodeL ((QX2 l n act job now).1),I ((QX2 l n act job now).2)]):=by
 generalize hR:QX2 l n act job now=R;refine gA (kp 14 [17,41]) Tryz.func156 ?_;have hk0:=hs0;obtain z5:l.length<=4294967296:=hs0;refine us (Qb3 l szA _) ?_;refine ai (fun h1=>?_) (fun h2=>?_)
 ·exact lfA
 ·(first|apply u2|apply u3|apply u4|apply us);exact Qea now _;refine ai gkA ?_;(first|apply u2|apply u3|apply u4|apply us);exact fleet_may_c (l.getD (Int.toNat n) zF) act job _;refine ai (fun h3=>?_) (fun h4=>?_)
  ·exact lfA
  ·refine us (mv [] (QRb l szA) .nil (dl lw .nil) (rO rr .nil) (rw_ 0 0 rfl)) ?_;refine ai gkA ?_;refine us (fleet_done_c (l.getD (Int.toNat n) zF) act job now _) ?_;refine ai gkA ?_;refine ⟨_,Qm3 rfl rfl rfl rfl (Qh1 zF (Int.toNat n) (by first|rfl|exact yna _|omega) ckA) rfl rfl (set_map (Int.toNat n) (Q60 (l.getD (Int.toNat n) zF) act job now) (by first|rfl|exact yna _|omega) rfl),?_⟩;obtain rfl:=foll hR (cf h2 (cf h4 rfl));exact Qb0 (Low.tup' (.cons lw (l1 .nil))) (Seen.tup (ev (Qa0 zF _ rfl eqA lnA) (e1 .nil)))
theorem fleet_Do_len (l:List Node) (n act job now:Int):(QX2 l n act job now).1.length<=l.length:=by
 unfold QX2
 repeat' first|exact yBa _|(simp;done)|(rw [yCb];split)
def Qv3 (l:List Node) (n:Int):Note × Bool:=bif (((((Q50 l)!=0)||(decide (n<0)))||(decide (n >= (l.length:Int))))||((l.getD (Int.toNat n) zF).want==0)) then (zL,false) else ((⟨(l.getD (Int.toNat n) zF).want,n,(l.getD (Int.toNat n) zF).job,(l.getD (Int.toNat n) zF).epoch⟩:Note),true)
theorem fleet_Note_c (l:List Node) (n:Int) (hs0:l.length<=4294967296):GV 214 [nodeL l,I n] (AVal.tup [Note.a ((Qv3 l n).1),Bo ((Qv3 l n).2)]):=by
 generalize hR:Qv3 l n=R;refine gA (kp 6 [26]) Tryz.func214 ?_;have hk0:=hs0;obtain z3:l.length<=4294967296:=hs0;refine us (Qb3 l szA _) ?_;refine ai gkA ?_;refine ai (fun h1=>?_) (fun h2=>?_)
 ·exact lfA
 ·refine dchk (by kernel_rfl) ?_;refine ai gkA ?_;refine ai gkA ?_;refine ai gkA ?_;(repeat ((first|refine ai rfl ?_|refine ai (fun _=>rfl) ?_)));exact lfA
def Qt5 (l:List Int) (at_:Int):Nat->Int->Token × Int × Int × Int
 | 0,_=>(zD,0,0,0)
 | m+1,i=>bif ((decide (i<(l.length:Int)))&&((l.getD (Int.toNat i) 0)!=34)) then bif ((Qo0 (l.getD (Int.toNat i) 0))==0) then (zD,0,i,40) else bif ((l.getD (Int.toNat i) 0)==92) then bif ((decide ((w64 (i+1))<(l.length:Int)))&&((Qo0 (l.getD (Int.toNat (w64 (i+1))) 0))==0)) then (zD,0,(w64 (i+1)),40) else Qt5 l at_ m (w64 ((w64 (i+1))+1)) else Qt5 l at_ m (w64 (i+1)) else bif (decide (i >= (l.length:Int))) then (zD,0,at_,50) else bif ((QGc (runesBytes (List.drop (Int.toNat at_) (List.take (Int.toNat (w64 (i+1))) l)))).2 != 0) then (zD,0,at_,50) else ((⟨4,(QGc (runesBytes (List.drop (Int.toNat at_) (List.take (Int.toNat (w64 (i+1))) l)))).1,0,at_⟩:Token),(w64 (i+1)),0,0)
def QUa (l:List Int) (at_:Int):Token × Int × Int × Int:=Qt5 l at_ ((Int.toNat ((l.length:Int) - (w64 (at_+1))))+1) (w64 (at_+1))
def QT1 (j:Job):Bool:=bif (j.state==1) then bif (((j.start != 0)||(j.limit != 0))||(j.nodes != 0)) then false else bif (j.promise==(-1)) then (j.choice==0) else (((QA1 j.promise)&&(decide ((QK2 j.shape j.choice) > 0)))&&(!j.held)) else bif (j.state==2) then bif ((((((((QK2 j.shape j.choice)==0)||j.held)||(!(QA1 j.start)))||(!(QA1 j.promise)))||(decide (j.start > j.promise)))||(!(QA1 j.limit)))||(j.limit != (w64 (j.start+(QK2 j.shape j.choice))))) then false else ((Q6g j.nodes)&&(Qua j.shape j.choice ((Qy0 j.nodes).length:Int))) else ((((((((Q5g j.state)&&(j.nodes==0))&&(QA1 j.start))&&(QA1 j.limit))&&(decide (j.promise >= (-1))))&&(decide (j.promise<=1000000)))&&(decide (j.choice >= 0)))&&(decide (j.choice<=48)))
def Qu1 (r_:Resize):List Node->Int->Nat->Sum (Bool) (Int × Nat)
 | [],left,n1=>Sum.inr (left,n1)
 | x_ :: r,left,n1=>bif ((x_.job != r_.job)||(x_.state==3)) then Qu1 r_ r left (n1+1) else bif (!(QG3 x_ (n1:Int) r_)) then Sum.inl false else bif ((x_.state==1)&&(!(Qg2 r_.nodes (n1:Int)))) then Qu1 r_ r (w64 (left+1)) (n1+1) else Qu1 r_ r left (n1+1)
def Qa5 (s:State) (r_:Resize):Nat->Nat->Bool
 | 0,_=>false
 | m+1,n=>bif (decide ((n:Int)<64)) then bif (((Qg2 r_.said (n:Int))&&(!(Qg2 r_.nodes (n:Int))))||((Qg2 r_.nodes (n:Int))&&(((decide ((n:Int) >= (s.nodes.length:Int)))||((s.nodes.getD n zF).job != r_.job))||((s.nodes.getD n zF).state==3)))) then false else Qa5 s r_ m (n+1) else (Sum.elim id (fun p1:Int × Nat=>bif r_.grow then (decide ((w64 (((Qy0 ((QZ0 s r_.job).1.nodes)).length:Int)+((Qy0 r_.nodes).length:Int)))<=(QZ0 s r_.job).1.shape.max)) else ((decide (p1.1 > 0))&&(decide ((w64 (((Qy0 ((QZ0 s r_.job).1.nodes)).length:Int) - ((Qy0 r_.nodes).length:Int))) >= (QZ0 s r_.job).1.shape.min))))) (Qu1 r_ s.nodes 0 0)
def Q32 (s:State) (r_:Resize):Bool:=bif (((((!(QZ0 s r_.job).2)||((QZ0 s r_.job).1.shape.kind != 3))||(r_.nodes==0))||(decide (r_.since<0)))||(decide (r_.since > 1000000))) then false else Qa5 s r_ ((Int.toNat (64 - (0:Int)))+1) 0
def QP3 :List Node->Int->Nat->Int × Nat
 | [],up,i=>(up,i)
 | x_ :: r,up,i=>bif ((x_.state != 4)&&(!x_.drain)) then QP3 r (w64 (up+1)) (i+1) else QP3 r up (i+1)
def Qx4 (s:State):List Node->List Step->Nat->(List Step) × Nat
 | [],p_,i1=>(p_,i1)
 | _ :: r,p_,i1=>Qx4 s r (QV6 p_ 0 (Q7g s (i1:Int)) 1) (i1+1)
def ref20_busy_k2 (p_:List Step) (i1:Nat):(List Step):=p_
def ref20_busy_k1 (s:State) (up:Int) (i:Nat):(List Step):=ref20_busy_k2 ((Qx4 s s.nodes (Q69 up) 0).1) ((Qx4 s s.nodes (Q69 up) 0).2)
def QZ7 (s:State):(List Step):=ref20_busy_k1 s ((QP3 s.nodes 0 0).1) ((QP3 s.nodes 0 0).2)
def Qz6 (set_:Int) (act:Int) (job:Int) (now:Int):List Int->List Node->Nat->(List Node) × (List Note) × Int
 | [],l2,_=>bif (!((((((act==1)||(act==2))||(act==3))||(act==5))||(act==7))||(act==10))) then (l2,[],0) else (l2,(Q4g l2 (Qy0 set_)),0)
 | x_ :: r,l2,i=>bif ((Qw8 l2 x_ act job now).2 != 0) then ([],[],(Qw8 l2 x_ act job now).2) else Qz6 set_ act job now r ((Qw8 l2 x_ act job now).1) (i+1)
def Ql6 (l:List Node) (set_:Int) (act:Int) (job:Int) (now:Int):(List Node) × (List Note) × Int:=bif ((Q34 l)!=0) then ([],[],120) else Qz6 set_ act job now (Qy0 set_) l 0
def Q90 (r_:LexReader):Token × LexReader:=bif ((Qg1 (r_.line.getD (Int.toNat r_.at_) 0))==2) then ((Q52 r_).1,(Q52 r_).2) else bif ((Qg1 (r_.line.getD (Int.toNat r_.at_) 0))==3) then ((QF1 r_).1,(QF1 r_).2) else bif ((r_.line.getD (Int.toNat r_.at_) 0)==34) then ((QR1 r_).1,(QR1 r_).2) else bif ((decide ((Qy5 ⟨#[61,58,44,45]⟩ (wu8 (r_.line.getD (Int.toNat r_.at_) 0))) >= 0))&&(decide ((r_.line.getD (Int.toNat r_.at_) 0)<128))) then ((⟨5,(runeStr (r_.line.getD (Int.toNat r_.at_) 0)),0,0⟩:Token),{ r_ with at_:=(w64 (r_.at_+1)) }) else bif ((Qg1 (r_.line.getD (Int.toNat r_.at_) 0))==0) then (zD,(QW0 r_ r_.at_ 40)) else (zD,(QW0 r_ r_.at_ 50))
theorem Qqd (r_:LexReader) (hs0:r_.sz) (hp0:0<=r_.at_∧r_.at_<(r_.line.length:Int)∧r_.line.length<=400):AMoves Tryz.prog 308 [AVal.ptr 0 0 4 0 0] [(0,AObj.row 321 4 [[runes r_.line,I r_.at_,I r_.bad,I r_.error]])] 1 (Token.a ((Q90 r_).1)) [(0,AObj.row 321 4 [[runes ((Q90 r_).2.line),I ((Q90 r_).2.at_),I ((Q90 r_).2.bad),I ((Q90 r_).2.error)]])]:=by
 generalize hR:Q90 r_=R;refine mo (kp 4 [20,26,32,37,56]) Tryz.func308 ?_;have hk0:=hs0;obtain z11:r_.line.length<=4294967296:=hs0;refine dchk (by kernel_rfl) ?_;refine ai gkA ?_;(repeat ((first|refine ai rfl ?_|refine ai (fun _=>rfl) ?_)));refine us (QA4 (r_.line.getD (Int.toNat r_.at_) 0) _) ?_;refine ai (fun h1=>?_) (fun h2=>?_)
 ·refine us (mv [0] (Qsd r_ szA ckA) (dO (ds LexReader.lo) .nil) (dp .nil) (rO (re LexReader.lo) .nil) (Ren.low _ (Low.agg' (Token.lo)))) ?_;obtain rfl:=foll hR (ct h1 rfl);exact rq (ttA [0])
 ·refine us (QA4 (r_.line.getD (Int.toNat r_.at_) 0) _) ?_;refine ai (fun h3=>?_) (fun h4=>?_)
  ·refine us (mv [0] (Qyc r_ szA ckA) (dO (ds LexReader.lo) .nil) (dp .nil) (rO (re LexReader.lo) .nil) (Ren.low _ (Low.agg' (Token.lo)))) ?_;obtain rfl:=foll hR (cf h2 (ct h3 rfl));exact rq (ttA [0])
  ·refine ai (fun h5=>?_) (fun h6=>?_)
   ·refine us (mv [0] (Qrd r_ szA ckA) (dO (ds LexReader.lo) .nil) (dp .nil) (rO (re LexReader.lo) .nil) (Ren.low _ (Low.agg' (Token.lo)))) ?_;obtain rfl:=foll hR (cf h2 (cf h4 (ct h5 rfl)));exact rq (ttA [0])
   ·refine us (QUb ⟨#[61,58,44,45]⟩ (wu8 (r_.line.getD (Int.toNat r_.at_) 0)) _) ?_;refine ai (fun h7=>?_) (fun h8=>?_)
    ·obtain rfl:=foll hR (cf h2 (cf h4 (cf h6 (ct h7 rfl))));exact rq (tt [0] (tO rfl (ts LexReader.lo) .nil) (QH3 (Low.agg' (Token.lo))))
    ·refine us (QA4 (r_.line.getD (Int.toNat r_.at_) 0) _) ?_;refine ai (fun h9=>?_) (fun h10=>?_)
     ·refine us (mv [0] (Qw3 r_ r_.at_ 40) (dO (ds LexReader.lo) .nil) (dp (d1 (d1 .nil))) (rO (re LexReader.lo) .nil) rx) ?_;obtain rfl:=foll hR (cf h2 (cf h4 (cf h6 (cf h8 (ct h9 rfl)))));exact rq (ttA [0])
     ·refine us (mv [0] (Qw3 r_ r_.at_ 50) (dO (ds LexReader.lo) .nil) (dp (d1 (d1 .nil))) (rO (re LexReader.lo) .nil) rx) ?_;obtain rfl:=foll hR (cf h2 (cf h4 (cf h6 (cf h8 (cf h10 rfl)))));exact rq (ttA [0])
def Adv (a b:LexReader):Prop:=b.line=a.line∧a.at_<=b.at_∧b.at_<=(a.line.length:Int)∧b.error=a.error∧b.bad=a.bad
theorem Qz9 (is:Int->Bool):∀ (m:Nat) (c:LexReader),0<=c.at_->c.at_<=(c.line.length:Int)->c.line.length<=400->(Int.toNat ((c.line.length:Int) - c.at_))<m->Adv c (QE0 is m c)
 | 0,c,_,_,_,h=>absurd h (by omega)
 | m+1,c,h0,h1,h2,h=>by
  rw [QE0];cases hc:((decide (c.at_<(c.line.length:Int)))&&(is (c.line.getD (Int.toNat c.at_) 0))) with
  | false=>exact ⟨rfl,ySa _,h1,rfl,rfl⟩
  | true =>
   have hlt:=yfa ((yca _ _).mp hc).1;have hw:w64 (c.at_+1)=c.at_+1:=wr (by omega);rw [hw];obtain ⟨a,b,d,e,f⟩:=Qz9 is m { c with at_:=c.at_+1 } (by dsimp only;omega) (by dsimp only;omega) h2 (by dsimp only;omega);dsimp only at a b d e f;exact ⟨a,by simp only [cond_true];omega,d,e,f⟩
theorem QA5 (r:LexReader) (is:Int->Bool) (h0:0<=r.at_) (h1:r.at_<=(r.line.length:Int)) (h2:r.line.length<=400):Adv r (Q30 r is).2 :=
 Qz9 is _ r h0 h1 h2 (yeb _)
theorem Qd8 (r:LexReader) (is:Int->Bool) (h0:0<=r.at_) (h1:r.at_<(r.line.length:Int)) (h2:r.line.length<=400) (h:is (r.line.getD (Int.toNat r.at_) 0)=true):r.at_<(Q30 r is).2.at_:=by
 have hw:w64 (r.at_+1)=r.at_+1:=wr (by omega);have e:(Q30 r is).2=QE0 is (Int.toNat ((r.line.length:Int) - r.at_)) { r with at_:=r.at_+1 }:=by
  show QE0 is ((Int.toNat ((r.line.length:Int) - r.at_))+1) r=_;rw [QE0,show ((decide (r.at_<(r.line.length:Int)))&&(is (r.line.getD (Int.toNat r.at_) 0)))=true by rw [h,yBc];exact yha h1,hw]
  rfl
 rw [e];have:=(Qz9 is (Int.toNat ((r.line.length:Int) - r.at_)) { r with at_:=r.at_+1 } (by dsimp only;omega) (by dsimp only;omega) h2 (by dsimp only;omega)).2.1;dsimp only at this;omega
theorem Qla (r:LexReader) (p e:Int) (he:e ≠ 0):(QW0 r p e).line=r.line∧(QW0 r p e).at_=r.at_∧(QW0 r p e).error ≠ 0:=by
 unfold QW0;cases h:(r.error==0) with
 | true=>exact ⟨rfl,rfl,he⟩
 | false=>exact ⟨rfl,rfl,by simpa using h⟩
def Nxt (a b:LexReader):Prop:=b.line=a.line∧a.at_<=b.at_∧b.at_<=(a.line.length:Int)∧(b.error ≠ 0∨a.at_<b.at_)
theorem lex_word_nxt (r:LexReader) (h0:0<=r.at_) (h1:r.at_<(r.line.length:Int)) (h2:r.line.length<=400) (hc:((Qg1 (r.line.getD (Int.toNat r.at_) 0))==2)=true):Nxt r (Q52 r).2:=by
 obtain ⟨a,b,c,_,_⟩:=QA5 r (fun (y:Int)=>Qe0 y ([2,3]:List Int) 0) h0 (by omega) h2;exact ⟨a,b,c,Or.inr (Qd8 r _ h0 h1 h2 (by simp only [Qe0,hc];rfl))⟩
theorem class_digit (x:Int) (h:(Qg1 x==3)=true):48<=x∧x<=57:=by
 unfold Qg1 at h;revert h;cases ((x==9)||(x==32)) with
 | true=>simp
 | false =>
  simp only [cond_false];cases (((((decide (x<32))||((decide (x >= 127))&&(decide (x<=160))))||((decide (x >= 55296))&&(decide (x<=57343))))||(x==65533))||(decide (x > 1114111))) with
  | true=>simp
  | false =>
   simp only [cond_false];cases hd:((decide (x >= 48))&&(decide (x<=57))) with
   | true=>intro _;simp at hd;omega
   | false =>
    simp only [cond_false];cases ((((decide (x >= 97))&&(decide (x<=122)))||((decide (x >= 65))&&(decide (x<=90))))||(decide (x > 160))) <;> simp
theorem lex_count_nxt (r:LexReader) (h0:0<=r.at_) (h1:r.at_<(r.line.length:Int)) (h2:r.line.length<=400) (hc:((Qg1 (r.line.getD (Int.toNat r.at_) 0))==3)=true):Nxt r (QF1 r).2:=by
 obtain ⟨a,b,c,_,_⟩:=QA5 r (fun (y:Int)=>(((decide (y >= 48))&&(decide (y<=57)))||((decide (y >= 97))&&(decide (y<=122))))) h0 (by omega) h2;have hd:=class_digit _ hc;have l:=Qd8 r (fun (y:Int)=>(((decide (y >= 48))&&(decide (y<=57)))||((decide (y >= 97))&&(decide (y<=122))))) h0 h1 h2 (by simp only [yha hd.1,yha hd.2];rfl);unfold QF1;cases (!(QU7 ((Q30 r (fun (y:Int)=>(((decide (y >= 48))&&(decide (y<=57)))||((decide (y >= 97))&&(decide (y<=122)))))).1))) with
 | true=>exact ⟨a,b,c,Or.inr l⟩
 | false =>
  simp only [cond_false];cases (!(QK6 ((Q30 r (fun (y:Int)=>(((decide (y >= 48))&&(decide (y<=57)))||((decide (y >= 97))&&(decide (y<=122)))))).1)).2) with
  | false=>exact ⟨a,b,c,Or.inr l⟩
  | true =>
   obtain ⟨f1,f2,f3⟩:=Qla (Q30 r (fun (y:Int)=>(((decide (y >= 48))&&(decide (y<=57)))||((decide (y >= 97))&&(decide (y<=122)))))).2 r.at_ 50 (by decide);exact ⟨f1.trans a,by simp only [cond_true];rw [f2];exact b,by simp only [cond_true];rw [f2];exact c,Or.inl f3⟩
theorem QZd:∀ (m:Nat) (c:LexReader) (b:Bool),0<=c.at_->c.at_<=(c.line.length:Int)->c.line.length<=400->(Int.toNat ((c.line.length:Int) - c.at_))<m->Adv c (Q22 m c b).1
 | 0,c,_,_,_,_,h=>absurd h (by omega)
 | m+1,c,b,h0,h1,h2,h=>by
  rw [Q22];cases hc:((decide (c.at_<(c.line.length:Int)))&&(Qm1 (c.line.getD (Int.toNat c.at_) 0) b).1) with
  | false=>exact ⟨rfl,ySa _,h1,rfl,rfl⟩
  | true =>
   have hlt:=yfa ((yca _ _).mp hc).1;have hw:w64 (c.at_+1)=c.at_+1:=wr (by omega);rw [hw];obtain ⟨a,b,d,e,f⟩:=QZd m { c with at_:=c.at_+1 } _ (by dsimp only;omega) (by dsimp only;omega) h2 (by dsimp only;omega);dsimp only at a b d e f;exact ⟨a,by simp only [cond_true];omega,d,e,f⟩
theorem lex_text_nxt (r:LexReader) (h0:0<=r.at_) (h1:r.at_<(r.line.length:Int)) (h2:r.line.length<=400):Nxt r (QR1 r).2:=by
 obtain ⟨a,b,c,_,_⟩:=QZd _ r true h0 (by omega) h2 (yeb _);unfold QR1;generalize (Q22 ((Int.toNat ((r.line.length:Int) - r.at_))+1) r true).1=q at a b c;unfold Qq2;have ff:∀ (x:LexReader) (p e:Int),e ≠ 0->x.line=r.line->r.at_<=x.at_->x.at_<=(r.line.length:Int)->Nxt r (QW0 x p e):=by
  intro x p e he hx hp hq;obtain ⟨f1,f2,f3⟩:=Qla x p e he;exact ⟨f1.trans hx,by rw [f2];exact hp,by rw [f2];exact hq,Or.inl f3⟩
 cases h3:(q.at_==(q.line.length:Int)) with
 | true=>exact ff q _ _ (by decide) a b c
 | false =>
  simp only [cond_false];have h3':q.at_ ≠ (r.line.length:Int):=by rw [a] at h3;simpa using h3
  have hw:w64 (q.at_+1)=q.at_+1:=wr (by omega);cases ((q.line.getD (Int.toNat q.at_) 0)!=34) with
  | true=>exact ff q _ _ (by decide) a b c
  | false =>
   simp only [cond_false];rw [hw];cases h4:((Qe3 (runesBytes (List.drop (Int.toNat r.at_) (List.take (Int.toNat (q.at_+1)) q.line)))).2 != 0) with
   | true=>exact ff { q with at_:=q.at_+1 } _ _ (by simpa using h4) a (by show r.at_<=q.at_+1;omega) (by show q.at_+1<=_;omega)
   | false=>exact ⟨a,by show r.at_<=q.at_+1;omega,by show q.at_+1<=_;omega,Or.inr (by show r.at_<q.at_+1;omega)⟩
theorem lex_next_nxt (r:LexReader) (h0:0<=r.at_) (h1:r.at_<(r.line.length:Int)) (h2:r.line.length<=400):Nxt r (Q90 r).2:=by
 have hw:w64 (r.at_+1)=r.at_+1:=wr (by omega);have ff:∀ (e:Int),e ≠ 0->Nxt r (QW0 r r.at_ e):=by
  intro e he;obtain ⟨f1,f2,f3⟩:=Qla r r.at_ e he;exact ⟨f1,by rw [f2];exact ySa _,by rw [f2];omega,Or.inl f3⟩
 unfold Q90;cases hc:((Qg1 (r.line.getD (Int.toNat r.at_) 0))==2) with
 | true=>exact lex_word_nxt r h0 h1 h2 hc
 | false =>
  simp only [cond_false];cases hd:((Qg1 (r.line.getD (Int.toNat r.at_) 0))==3) with
  | true=>exact lex_count_nxt r h0 h1 h2 hd
  | false =>
   simp only [cond_false];cases ((r.line.getD (Int.toNat r.at_) 0)==34) with
   | true=>exact lex_text_nxt r h0 h1 h2
   | false =>
    simp only [cond_false];cases ((decide ((Qy5 ⟨#[61,58,44,45]⟩ (wu8 (r.line.getD (Int.toNat r.at_) 0))) >= 0))&&(decide ((r.line.getD (Int.toNat r.at_) 0)<128))) with
    | true=>rw [hw];exact ⟨rfl,by show r.at_<=r.at_+1;omega,by show r.at_+1<=_;omega,Or.inr (by show r.at_<r.at_+1;omega)⟩
    | false =>
     simp only [cond_false];cases ((Qg1 (r.line.getD (Int.toNat r.at_) 0))==0) with
     | true=>exact ff 40 (by decide)
     | false=>exact ff 50 (by decide)
theorem lex_round (r c:LexReader) (b:Int->Bool) (h0:0<=r.at_) (h1:r.at_<=(r.line.length:Int)) (h2:r.line.length<=400) (he:(r.error==0)=true) (e:c=(Q30 r b).2) (hn:(c.at_==(c.line.length:Int))=false) :
  (0<=c.at_∧c.at_<(c.line.length:Int)∧c.line.length<=400)∧(0<=(Q90 c).2.at_∧(Q90 c).2.at_<=((Q90 c).2.line.length:Int)∧(Q90 c).2.line.length<=400) ∧
  2*Int.toNat (((Q90 c).2.line.length:Int) - (Q90 c).2.at_)+(bif (Q90 c).2.error==0 then 1 else 0)<2*Int.toNat ((r.line.length:Int) - r.at_)+(bif r.error==0 then 1 else 0) ∧
  (((Q90 c).2.error==0)=true->r.at_+1<=(Q90 c).2.at_):=by
 obtain ⟨a1,a2,a3,a4,a5⟩:=QA5 r b h0 h1 h2;rw [← e] at a1 a2 a3 a4 a5;have hn':c.at_ ≠ (r.line.length:Int):=by rw [a1] at hn;simpa using hn
 have hc:0<=c.at_∧c.at_<(c.line.length:Int)∧c.line.length<=400:=by rw [a1];omega
 obtain ⟨n1,n2,n3,n4⟩:=lex_next_nxt c hc.1 hc.2.1 hc.2.2;rw [he];rw [a1] at n1 n3;refine ⟨hc,by rw [n1];omega,?_⟩;rw [n1];rcases n4 with n4|n4
 ·have:((Q90 c).2.error==0)=false:=by simpa using n4
  rw [this];simp only [cond_true,cond_false];exact ⟨by omega,fun h=>nomatch h⟩
 ·refine ⟨?_,fun _=>by omega⟩;cases ((Q90 c).2.error==0) <;> simp only [cond_true,cond_false] <;> omega
def QK0 (v:Job) (choice:Int):Alt × Bool:=bif ((decide (choice<0))||(decide (choice >= ((Qc1 v.shape).length:Int)))) then (zA,false) else (((Qc1 v.shape).getD (Int.toNat choice) zA),true)
theorem Q09 (v:Job) (choice:Int) (hs0:v.sz):GV 238 [Job.a v,I choice] (AVal.tup [Alt.a ((QK0 v choice).1),Bo ((QK0 v choice).2)]):=by
 generalize hR:QK0 v choice=R;refine gA (kp 7 [18]) Tryz.func238 ?_;obtain ⟨z3,z4,z5,z6,z7⟩:=Job.zz hs0;refine us (QD6 v.shape szA _) ?_;refine ai (fun h1=>?_) (fun h2=>?_)
 ·exact lfA
 ·refine ai gkA ?_;exact lfA
def QU2 (s:Shape) (choice:Int) (n:Int):Bool:=bif ((decide (choice<0))||(decide (choice >= ((Qc1 s).length:Int)))) then false else bif (s.kind==3) then ((decide (n >= s.min))&&(decide (n<=s.max))) else (((Qc1 s).getD (Int.toNat choice) zA).nodes==n)
theorem Qc7 (s:Shape) (choice:Int) (n:Int) (hs0:s.sz):GV 226 [Shape.a s,I choice,I n] (Bo (QU2 s choice n)):=by
 generalize hR:QU2 s choice n=R;refine gA (kp 8 [17,20]) Tryz.func226 ?_;have hk0:=hs0;obtain z5:s.alts.length<=4294967296:=hs0;refine us (QD6 s szA _) ?_;refine ai (fun h1=>?_) (fun h2=>?_)
 ·exact lfA
 ·refine ai (fun h3=>?_) (fun h4=>?_)
  ·exact lfA
  ·refine ai gkA ?_;exact lfA
def Qq6 (l:List Node) (job:Int) (state:Int):Int:=(Q31 l (fun (y:Node)=>((y.job==job)&&(y.state==state))))
theorem Qnd (l:List Node) (job:Int) (state:Int) (hs0:l.length<=4294967296):GV 124 [nodeL l,I job,I state] (U (Qq6 l job state)):=by
 generalize hR:Qq6 l job state=R;refine gA (kp 7 []) Tryz.func124 ?_;have hk0:=hs0;obtain z7:l.length<=4294967296:=hs0;have cl1:∀ (y1:Node),AMoves Tryz.prog 184 [Node.a y1,AVal.ptr 0 0 1 0 0,AVal.ptr 1 0 1 0 0] [(0,AObj.row 3 1 [[I job]]),(0,AObj.row 3 1 [[I state]])] 2 (Bo ((fun (y:Node)=>((y.job==job)&&(y.state==state))) y1)) [(0,AObj.row 3 1 [[I job]]),(0,AObj.row 3 1 [[I state]])]:=by
  intro y1;have hR:(fun (y:Node)=>((y.job==job)&&(y.state==state))) y1=(fun (y:Node)=>((y.job==job)&&(y.state==state))) y1:=rfl;refine mo (kp 5 []) Tryz.func184 ?_;refine Qi0 (fun r:Bool=>Bo r) (fun _=>[(0,AObj.row 3 1 [[I job]]),(0,AObj.row 3 1 [[I state]])]) (leaf:=((y1.job==job)&&(y1.state==state))) (foll hR rfl) ?_;exact tt [0,1] (tO rfl (ts (l1 LowL.nil)) (tO rfl (ts (l1 LowL.nil)) .nil)) t1
 have hof1:AMoves Tryz.prog 153 [nodeL l,AVal.fn (.func 184) [] [AVal.ptr 0 0 1 0 0,AVal.ptr 1 0 1 0 0]] [(0,AObj.row 3 1 [[I job]]),(0,AObj.row 3 1 [[I state]])] 2 (U (Q31 l (fun (y:Node)=>((y.job==job)&&(y.state==state))))) [(0,AObj.row 3 1 [[I job]]),(0,AObj.row 3 1 [[I state]])]:=by
  have hR:Q31 l (fun (y:Node)=>((y.job==job)&&(y.state==state)))=Q31 l (fun (y:Node)=>((y.job==job)&&(y.state==state))):=rfl;refine mo (kp 10 [12,13,14,15,16,22]) Tryz.func153 ?_;refine us (Qb3 l szA _) ?_;refine ai (fun h1=>?_) (fun h2=>?_)
  ·refine Qi0 (fun r:Int=>U r) (fun r:Int=>[(0,AObj.row 3 1 [[I job]]),(0,AObj.row 3 1 [[I state]])]) (leaf:=0) (foll hR (ct h1 rfl)) ?_;exact tt [0,1] (tO rfl (ts (l1 LowL.nil)) (tO rfl (ts (l1 LowL.nil)) .nil)) t1
  ·refine QP0 (fun (out:List Int) (i:Nat)=>Q01 (Qn3 (fun (y:Node)=>((y.job==job)&&(y.state==state))) (List.drop i l) out i)=Q31 l (fun (y:Node)=>((y.job==job)&&(y.state==state)))∧i<=l.length∧out.length<=i) (fun out i=>l.length - i) (fun out i=>[(1,AVal.fn (.func 184) [] [AVal.ptr 0 0 1 0 0,AVal.ptr 1 0 1 0 0]),(4,U 0),(5,AVal.own 2 0 1 0 out.length),(13,nodeL l),(14,I (l.length:Int)),(15,I (i:Int))]) (fun out i=>[(0,AObj.row 3 1 [[I job]]),(0,AObj.row 3 1 [[I state]]),(0,AObj.row 3 1 (out.map (fun q_=>[I q_])))]) [] 0 ((Qa4 3 1).trans (wkA [0,1,2])) ⟨folA,by exact omA,by exact exA⟩ ?_;clear hR;rintro out i ⟨hR,hj,hx⟩;(try dsimp only at hR hj hx);refine ai (fun h3=>?_) (fun h4=>?_)
   ·have hlt:=ltA h3;rw [Qq0 zF hlt] at hR;refine ai gkA ?_;refine us (mv [0,1] (cl1 (l.getD i zF)) (dO (ds (l1 LowL.nil)) (dO (ds (l1 LowL.nil)) .nil)) (dl (Node.low _ _) (dp (dp .nil))) (rO (re (l1 LowL.nil)) (rO (re (l1 LowL.nil)) .nil)) rx) ?_;refine ai (fun h5=>?_) (fun h6=>?_)
    ·refine Or.inl ?_;(first|refine ⟨QD2 8 rfl lnA apA,?_⟩|refine ⟨Qw1 8 rfl apA,?_⟩);exact Qr0 (out++([(i:Int)]:List Int)) (i+1) (wkA [0,1,2]) omA ⟨foll hR (congrArg (fun p:(List Int)=>Q01 p) (ct h5 rfl)),by exact omA,by exact exA⟩
    ·exact Qr0 out (i+1) (wkA [0,1,2]) omA ⟨foll hR (congrArg (fun p:(List Int)=>Q01 p) (cf h6 rfl)),by exact omA,by exact exA⟩
   ·rw [Qv0 (l:=l) (j:=i) (geA h4)] at hR;replace hR:Q01 out=Q31 l (fun (y:Node)=>((y.job==job)&&(y.state==state))):=fo2 (fun p:(List Int)=>Q01 p) (out) hR rfl;refine us (AGives.lent (Qm7 out szA []) (ev (Qa0 _ _ rfl eqA lnA) .nil) (.cons lw .nil) (QA3 rfl)) ?_;refine Qi0 (fun r:Int=>U r) (fun r:Int=>[(0,AObj.row 3 1 [[I job]]),(0,AObj.row 3 1 [[I state]])]) (leaf:=(QO0 out).1) (foll hR rfl) ?_;exact tt [0,1] (tO rfl (ts (l1 LowL.nil)) (tO rfl (ts (l1 LowL.nil)) .nil)) t1
 refine us (mv [0,1] (hof1) (dO (ds (l1 LowL.nil)) (dO (ds (l1 LowL.nil)) .nil)) (dl lw (dv (dn_fn .nil (dp (dp .nil))) .nil)) (rO (re (l1 LowL.nil)) (rO (re (l1 LowL.nil)) .nil)) rx) ?_;exact lfA
def Qp8 (l:List Node):Int:=(Q31 l (fun (y:Node)=>((y.state != 4)&&(!y.drain))))
theorem fleet_Up_c (l:List Node) (hs0:l.length<=4294967296):GV 144 [nodeL l] (U (Qp8 l)):=by
 generalize hR:Qp8 l=R;refine gA (kp 3 []) Tryz.func144 ?_;have hk0:=hs0;obtain z7:l.length<=4294967296:=hs0;have cl1:∀ (y1:Node),AMoves Tryz.prog 204 [Node.a y1] [] 0 (Bo ((fun (y:Node)=>((y.state != 4)&&(!y.drain))) y1)) []:=by
  intro y1;have hR:(fun (y:Node)=>((y.state != 4)&&(!y.drain))) y1=(fun (y:Node)=>((y.state != 4)&&(!y.drain))) y1:=rfl;refine mo (kp 3 []) Tryz.func204 ?_;refine Qi0 (fun r:Bool=>Bo r) (fun _=>[]) (leaf:=((y1.state != 4)&&(!y1.drain))) (foll hR rfl) ?_;exact tt [] .nil t1
 have hof1:AMoves Tryz.prog 153 [nodeL l,AVal.fn (.func 204) [] []] [] 0 (U (Q31 l (fun (y:Node)=>((y.state != 4)&&(!y.drain))))) []:=by
  have hR:Q31 l (fun (y:Node)=>((y.state != 4)&&(!y.drain)))=Q31 l (fun (y:Node)=>((y.state != 4)&&(!y.drain))):=rfl;refine mo (kp 10 [12,13,14,15,16,22]) Tryz.func153 ?_;refine us (Qb3 l szA _) ?_;refine ai (fun h1=>?_) (fun h2=>?_)
  ·refine Qi0 (fun r:Int=>U r) (fun r:Int=>[]) (leaf:=0) (foll hR (ct h1 rfl)) ?_;exact tt [] .nil t1
  ·refine QP0 (fun (out:List Int) (i:Nat)=>Q01 (Qn3 (fun (y:Node)=>((y.state != 4)&&(!y.drain))) (List.drop i l) out i)=Q31 l (fun (y:Node)=>((y.state != 4)&&(!y.drain)))∧i<=l.length∧out.length<=i) (fun out i=>l.length - i) (fun out i=>[(1,AVal.fn (.func 204) [] []),(4,U 0),(5,AVal.own 0 0 1 0 out.length),(13,nodeL l),(14,I (l.length:Int)),(15,I (i:Int))]) (fun out i=>[(0,AObj.row 3 1 (out.map (fun q_=>[I q_])))]) [] 0 ((Qa4 3 1).trans (wkA [0])) ⟨folA,by exact omA,by exact exA⟩ ?_;clear hR;rintro out i ⟨hR,hj,hx⟩;(try dsimp only at hR hj hx);refine ai (fun h3=>?_) (fun h4=>?_)
   ·have hlt:=ltA h3;rw [Qq0 zF hlt] at hR;refine ai gkA ?_;refine us (mv [] (cl1 (l.getD i zF)) .nil (dl (Node.low _ _) .nil) .nil rx) ?_;refine ai (fun h5=>?_) (fun h6=>?_)
    ·refine Or.inl ?_;(first|refine ⟨QD2 8 rfl lnA apA,?_⟩|refine ⟨Qw1 8 rfl apA,?_⟩);exact Qr0 (out++([(i:Int)]:List Int)) (i+1) (wkA [0]) omA ⟨foll hR (congrArg (fun p:(List Int)=>Q01 p) (ct h5 rfl)),by exact omA,by exact exA⟩
    ·exact Qr0 out (i+1) (wkA [0]) omA ⟨foll hR (congrArg (fun p:(List Int)=>Q01 p) (cf h6 rfl)),by exact omA,by exact exA⟩
   ·rw [Qv0 (l:=l) (j:=i) (geA h4)] at hR;replace hR:Q01 out=Q31 l (fun (y:Node)=>((y.state != 4)&&(!y.drain))):=fo2 (fun p:(List Int)=>Q01 p) (out) hR rfl;refine us (AGives.lent (Qm7 out szA []) (ev (Qa0 _ _ rfl eqA lnA) .nil) (.cons lw .nil) (QA3 rfl)) ?_;refine Qi0 (fun r:Int=>U r) (fun r:Int=>[]) (leaf:=(QO0 out).1) (foll hR rfl) ?_;exact tt [] .nil t1
 refine us (mv [] (hof1) .nil (dl lw (dv (QG6 (Low.fn _ _ _ LowL.nil LowL.nil)) .nil)) .nil rx) ?_;exact lfA
def Qa1 (l:List Node):Int:=(Q31 l (fun (y:Node)=>((y.state==0)&&(!y.drain))))
theorem fleet_Free_c (l:List Node) (hs0:l.length<=4294967296):GV 96 [nodeL l] (U (Qa1 l)):=by
 generalize hR:Qa1 l=R;refine gA (kp 3 []) Tryz.func96 ?_;have hk0:=hs0;obtain z7:l.length<=4294967296:=hs0;have cl1:∀ (y1:Node),AMoves Tryz.prog 154 [Node.a y1] [] 0 (Bo ((fun (y:Node)=>((y.state==0)&&(!y.drain))) y1)) []:=by
  intro y1;have hR:(fun (y:Node)=>((y.state==0)&&(!y.drain))) y1=(fun (y:Node)=>((y.state==0)&&(!y.drain))) y1:=rfl;refine mo (kp 3 []) Tryz.func154 ?_;refine Qi0 (fun r:Bool=>Bo r) (fun _=>[]) (leaf:=((y1.state==0)&&(!y1.drain))) (foll hR rfl) ?_;exact tt [] .nil t1
 have hof1:AMoves Tryz.prog 153 [nodeL l,AVal.fn (.func 154) [] []] [] 0 (U (Q31 l (fun (y:Node)=>((y.state==0)&&(!y.drain))))) []:=by
  have hR:Q31 l (fun (y:Node)=>((y.state==0)&&(!y.drain)))=Q31 l (fun (y:Node)=>((y.state==0)&&(!y.drain))):=rfl;refine mo (kp 10 [12,13,14,15,16,22]) Tryz.func153 ?_;refine us (Qb3 l szA _) ?_;refine ai (fun h1=>?_) (fun h2=>?_)
  ·refine Qi0 (fun r:Int=>U r) (fun r:Int=>[]) (leaf:=0) (foll hR (ct h1 rfl)) ?_;exact tt [] .nil t1
  ·refine QP0 (fun (out:List Int) (i:Nat)=>Q01 (Qn3 (fun (y:Node)=>((y.state==0)&&(!y.drain))) (List.drop i l) out i)=Q31 l (fun (y:Node)=>((y.state==0)&&(!y.drain)))∧i<=l.length∧out.length<=i) (fun out i=>l.length - i) (fun out i=>[(1,AVal.fn (.func 154) [] []),(4,U 0),(5,AVal.own 0 0 1 0 out.length),(13,nodeL l),(14,I (l.length:Int)),(15,I (i:Int))]) (fun out i=>[(0,AObj.row 3 1 (out.map (fun q_=>[I q_])))]) [] 0 ((Qa4 3 1).trans (wkA [0])) ⟨folA,by exact omA,by exact exA⟩ ?_;clear hR;rintro out i ⟨hR,hj,hx⟩;(try dsimp only at hR hj hx);refine ai (fun h3=>?_) (fun h4=>?_)
   ·have hlt:=ltA h3;rw [Qq0 zF hlt] at hR;refine ai gkA ?_;refine us (mv [] (cl1 (l.getD i zF)) .nil (dl (Node.low _ _) .nil) .nil rx) ?_;refine ai (fun h5=>?_) (fun h6=>?_)
    ·refine Or.inl ?_;(first|refine ⟨QD2 8 rfl lnA apA,?_⟩|refine ⟨Qw1 8 rfl apA,?_⟩);exact Qr0 (out++([(i:Int)]:List Int)) (i+1) (wkA [0]) omA ⟨foll hR (congrArg (fun p:(List Int)=>Q01 p) (ct h5 rfl)),by exact omA,by exact exA⟩
    ·exact Qr0 out (i+1) (wkA [0]) omA ⟨foll hR (congrArg (fun p:(List Int)=>Q01 p) (cf h6 rfl)),by exact omA,by exact exA⟩
   ·rw [Qv0 (l:=l) (j:=i) (geA h4)] at hR;replace hR:Q01 out=Q31 l (fun (y:Node)=>((y.state==0)&&(!y.drain))):=fo2 (fun p:(List Int)=>Q01 p) (out) hR rfl;refine us (AGives.lent (Qm7 out szA []) (ev (Qa0 _ _ rfl eqA lnA) .nil) (.cons lw .nil) (QA3 rfl)) ?_;refine Qi0 (fun r:Int=>U r) (fun r:Int=>[]) (leaf:=(QO0 out).1) (foll hR rfl) ?_;exact tt [] .nil t1
 refine us (mv [] (hof1) .nil (dl lw (dv (QG6 (Low.fn _ _ _ LowL.nil LowL.nil)) .nil)) .nil rx) ?_;exact lfA
def QU1 (l:List Node):List Int->List Note->Nat->(List Note)
 | [],out,_=>out
 | x_ :: r,out,i=>bif (Qv3 l x_).2 then QU1 l r (out++([(Qv3 l x_).1]:List Note)) (i+1) else QU1 l r out (i+1)
def QS3 (out:List Note):(List Note):=out
def Q03 (l:List Node) (nodes:List Int):(List Note):=QS3 (QU1 l nodes [] 0)
theorem alloc_Notes_c (l:List Node) (nodes:List Int) (hs0:l.length<=4294967296) (hs1:nodes.length<=4294967296):GV 158 [nodeL l,ints nodes] (noteL (Q03 l nodes)):=by
 generalize hR:Q03 l nodes=R;refine gA (kp 10 [10,11,12,13,22]) Tryz.func158 ?_;have hk0:=hs0;obtain z5:l.length<=4294967296:=hs0;have hk1:=hs1;obtain z6:nodes.length<=4294967296:=hs1;refine QP0 (fun (out:List Note) (i:Nat)=>QS3 (QU1 l (List.drop i nodes) out i)=R∧i<=nodes.length∧out.length<=i) (fun out i=>nodes.length - i) (fun out i=>[(0,nodeL l),(4,AVal.lit (.slice none 0 0)),(5,AVal.own 0 0 4 0 out.length),(10,ints nodes),(11,I (nodes.length:Int)),(12,I (i:Int))]) (fun out i=>[(0,AObj.row 41 4 (out.map Note.cells))]) [] 0 ((Qa4 41 4).trans (wkA [0])) ⟨foll hR rfl,by exact omA,by exact exA⟩ ?_;clear hR;rintro out i ⟨hR,hj,hx⟩;(try dsimp only at hR hj hx);refine ai (fun h1=>?_) (fun h2=>?_)
 ·have hlt:=ltA h1;rw [Qq0 0 hlt] at hR;refine ai gkA ?_;refine us (fleet_Note_c l (nodes.getD i 0) szA _) ?_;refine ai (fun h3=>?_) (fun h4=>?_)
  ·refine Or.inl ?_;(first|refine ⟨QD2 32 rfl lnA apA,?_⟩|refine ⟨Qw1 32 rfl apA,?_⟩);exact Qr0 (out++([(Qv3 l (nodes.getD i 0)).1]:List Note)) (i+1) (wkA [0]) omA ⟨foll hR (congrArg (fun p:(List Note)=>QS3 p) (ct h3 rfl)),by exact omA,by exact exA⟩
  ·exact Qr0 out (i+1) (wkA [0]) omA ⟨foll hR (congrArg (fun p:(List Note)=>QS3 p) (cf h4 rfl)),by exact omA,by exact exA⟩
 ·rw [Qv0 (l:=nodes) (j:=i) (geA h2)] at hR;replace hR:QS3 out=R:=fo2 (fun p:(List Note)=>QS3 p) (out) hR rfl;obtain rfl:=foll hR rfl;exact Qb0 lw (Qa0 zL _ rfl eqA lnA)
def Qo7 (l:List Int) (at_:Int) (i:Bool):Token × Int × Int × Int:=bif i then ((⟨5,(runesBytes (List.drop (Int.toNat at_) (List.take (Int.toNat (w64 (at_+1))) l))),0,at_⟩:Token),(w64 (at_+1)),0,0) else (zD,0,at_,50)
def Qe2 (l:List Int) (at_:Int):Token × Int × Int × Int:=bif ((Qo0 (l.getD (Int.toNat at_) 0))==0) then (zD,0,at_,40) else bif ((Qo0 (l.getD (Int.toNat at_) 0))==2) then ((⟨1,(QE3 (runesBytes (List.drop (Int.toNat at_) (List.take (Int.toNat (QD5 l at_)) l)))),0,at_⟩:Token),(QD5 l at_),0,0) else bif ((Qo0 (l.getD (Int.toNat at_) 0))==3) then bif (ref05_plain (List.drop (Int.toNat at_) (List.take (Int.toNat (QD5 l at_)) l))) then ((⟨3,(runesBytes (List.drop (Int.toNat at_) (List.take (Int.toNat (QD5 l at_)) l))),0,at_⟩:Token),(QD5 l at_),0,0) else bif (decide ((Q6e (List.drop (Int.toNat at_) (List.take (Int.toNat (QD5 l at_)) l)))<0)) then (zD,0,at_,50) else ((⟨2,⟨#[]⟩,(Q6e (List.drop (Int.toNat at_) (List.take (Int.toNat (QD5 l at_)) l))),at_⟩:Token),(QD5 l at_),0,0) else bif ((l.getD (Int.toNat at_) 0)==34) then ((QUa l at_).1,(QUa l at_).2.1,(QUa l at_).2.2.1,(QUa l at_).2.2.2) else bif ((l.getD (Int.toNat at_) 0)==61) then Qo7 l at_ ((l.getD (Int.toNat at_) 0)==61) else bif ((l.getD (Int.toNat at_) 0)==58) then Qo7 l at_ ((l.getD (Int.toNat at_) 0)==58) else bif ((l.getD (Int.toNat at_) 0)==44) then Qo7 l at_ ((l.getD (Int.toNat at_) 0)==44) else Qo7 l at_ ((l.getD (Int.toNat at_) 0)==45)
def QO3 :List Book->List Step->Nat->(List Step) × Nat
 | [],p_,i=>(p_,i)
 | x_ :: r,p_,i=>QO3 r (QV6 p_ x_.from_ x_.to x_.nodes) (i+1)
def QA6 (x_1:Job):List Int->Bool->Nat->Bool × Nat
 | [],out,k=>(out,k)
 | x_2 :: r,out,k=>QA6 x_1 r (out||(x_2==x_1.id)) (k+1)
def Qd3 (except:List Int):List Job->List Step->Nat->(List Step) × Nat
 | [],p_1,i1=>(p_1,i1)
 | x_1 :: r,p_1,i1=>(fun p1:Bool × Nat=>bif ((Qf0 x_1).2.2.2&&(!p1.1)) then Qd3 except r (QV6 p_1 ((Qf0 x_1).1) (w64 ((Qf0 x_1).1+(Qf0 x_1).2.1)) ((Qf0 x_1).2.2.1)) (i1+1) else Qd3 except r p_1 (i1+1)) (QA6 x_1 except false 0)
def ref20_Left_k2 (p_1:List Step) (i1:Nat):(List Step):=p_1
def ref20_Left_k1 (s:State) (except:List Int) (p_:List Step) (i:Nat):(List Step):=ref20_Left_k2 ((Qd3 except s.jobs p_ 0).1) ((Qd3 except s.jobs p_ 0).2)
def QY7 (s:State) (except:List Int):(List Step):=ref20_Left_k1 s except ((QO3 s.books (QZ7 s) 0).1) ((QO3 s.books (QZ7 s) 0).2)
def Qq3 (nodes:Int):List Node->List Int->Nat->(List Int) × Nat
 | [],set_,i=>(set_,i)
 | x_ :: r,set_,i=>bif (((x_.state==0)&&(!x_.drain))&&(decide ((set_.length:Int)<nodes))) then Qq3 nodes r (set_++([(i:Int)]:List Int)) (i+1) else Qq3 nodes r set_ (i+1)
def Qkb (l:List Node) (nodes:Int) (act:Int) (job:Int) (now:Int) (set_:List Int) (i:Nat):(List Node) × Int × (List Note) × Int:=bif (decide ((set_.length:Int)<nodes)) then ([],0,[],130) else bif ((Ql6 l (Qy6 set_) act job now).2.2 != 0) then ([],0,[],(Ql6 l (Qy6 set_) act job now).2.2) else ((Ql6 l (Qy6 set_) act job now).1,(Qy6 set_),(Ql6 l (Qy6 set_) act job now).2.1,0)
def Q26 (l:List Node) (nodes:Int) (act:Int) (job:Int) (now:Int):(List Node) × Int × (List Note) × Int:=bif (((act != 1)&&(act != 2))||((Q34 l)!=0)) then ([],0,[],120) else bif ((decide (nodes<1))||(decide (nodes > 48))) then ([],0,[],2) else Qkb l nodes act job now ((Qq3 nodes l [] 0).1) ((Qq3 nodes l [] 0).2)
end Go.Proofs.YtackngeeehiegaaGreatDoor
