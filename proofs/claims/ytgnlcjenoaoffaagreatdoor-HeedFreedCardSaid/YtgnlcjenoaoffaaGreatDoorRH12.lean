/-
  What the last text of this claim leans on: an evaluator over the code, contracts of functions, plain laws. Conditions stand in each statement.
-/
import Derived.Test.YtgnlcjenoaoffaaGreatDoorRH11
import Derived.Test.YtgnlcjenoaoffaaGreatDoorProg
import Derived.Test.YtgnlcjenoaoffaaGreatDoorRH8
namespace Go.Proofs.YtgnlcjenoaoffaaGreatDoor
set_option linter.unusedSimpArgs false
set_option linter.unusedVariables false
open Go.Fw
set_option maxRecDepth 20000
set_option maxHeartbeats 4000000
attribute [local irreducible] ACalls AMoves
def QH8 (c:Cmd) (i1:Bool):Bool:=bif i1 then (Qh3 c.node 0 47) else bif (c.kind==10) then (((Qh3 c.from_ 0 1000000)&&c.hasTime)&&(Qh3 c.nodes 1 48)) else ((c.kind==12)&&(Qh3 c.job 0 99999))
def Qq7 (c:Cmd) (i:Bool):Bool:=bif i then (cmd_id c.job) else bif (c.kind==5) then ((cmd_id c.job)&&(c.hasPrio||c.hasTime)) else bif (c.kind==6) then ((cmd_id c.job)&&(Qh3 c.nodes 1 48)) else bif (c.kind==7) then QH8 c (c.kind==7) else bif (c.kind==8) then QH8 c (c.kind==8) else QH8 c (c.kind==9)
def cmd_fits (c:Cmd):Bool:=bif ((((c.hasPrio&&(!(Qh3 c.prio 0 100)))||(c.hasTime&&(!(QWb c.time))))||((!c.hasPrio)&&(c.prio != 0)))||((!c.hasTime)&&(c.time != 0))) then false else bif (c.kind==1) then (((((((Q4b c.name)&&(Q4b c.user))&&(Q4b c.account))&&(Qud c.user))&&(Qud c.account))&&(cmd_deps c.after))&&((QE3 c.shape)==0)) else bif (c.kind==2) then Qq7 c (c.kind==2) else bif (c.kind==3) then Qq7 c (c.kind==3) else bif (c.kind==4) then Qq7 c (c.kind==4) else Qq7 c (c.kind==11)
theorem cmd_fits_c (c:Cmd) (hs0:c.sz):GV 188 [Cmd.a c] (Bo (cmd_fits c)):=by
 generalize hR:cmd_fits c=R;refine gA (kj [1000010,1000018] 3 [40,42,43,79,87,100,110,117]) Tryz.func188 ?_;have hk0:=hs0;obtain ⟨z25,z26,z27,z28,z29⟩:c.name.size<=4294967296∧c.user.size<=4294967296∧c.account.size<=4294967296∧(c.shape.alts.length<=4294967296)∧c.after.length<=4294967296:=hs0;(first|apply u2|apply u3|apply u4|apply us);exact Q33 c.prio 0 100 _;(first|apply u2|apply u3|apply u4|apply us);exact cmd_length_c c.time _;apply ai<;>intro h1
 ·exact lfA
 ·apply ai<;>intro h3
  ·refine us (QXb c.name szA _) ?_;(first|apply u2|apply u3|apply u4|apply us);exact QXb c.user szA _;(first|apply u2|apply u3|apply u4|apply us);exact QXb c.account szA _;(first|apply u2|apply u3|apply u4|apply us);exact cmd_word_c c.user szA _;(first|apply u2|apply u3|apply u4|apply us);exact cmd_word_c c.account szA _;(first|apply u2|apply u3|apply u4|apply us);exact cmd_deps_c c.after szA _;(first|apply u2|apply u3|apply u4|apply us);exact QCb c.shape szA _;exact lfA
  ·refine Qu1 (fun (i:Bool)=>Qq7 c i=R) (fun i=>[(1,AVal.ptr 0 0 18 0 0),(2,Bo false),(42,I c.kind),(79,Bo i)]) (fun i=>[(0,AObj.row 180 18 [[I c.kind,I c.job,Sg c.name,Sg c.user,Sg c.account,I c.shape.kind,altL c.shape.alts,I c.shape.min,I c.shape.max,I c.shape.wall,I c.prio,Bo c.hasPrio,I c.time,Bo c.hasTime,depL c.after,I c.node,I c.nodes,I c.from_]])]) ?_ ?_
   ·clear hR;rintro i hR;(try dsimp only at hR);apply ai<;>intro h5
    ·refine us (Qtd c.job _) ?_;exact lfA
    ·apply ai<;>intro h7
     ·refine us (Qtd c.job _) ?_;exact lfA
     ·apply ai<;>intro h9
      ·refine us (Qtd c.job _) ?_;(first|apply u2|apply u3|apply u4|apply us);exact Q33 c.nodes 1 48 _;exact lfA
      ·refine Qu1 (fun (i1:Bool)=>QH8 c i1=R) (fun i1=>[(1,AVal.ptr 0 0 18 0 0),(2,Bo false),(42,I c.kind),(110,Bo i1)]) (fun i1=>[(0,AObj.row 180 18 [[I c.kind,I c.job,Sg c.name,Sg c.user,Sg c.account,I c.shape.kind,altL c.shape.alts,I c.shape.min,I c.shape.max,I c.shape.wall,I c.prio,Bo c.hasPrio,I c.time,Bo c.hasTime,depL c.after,I c.node,I c.nodes,I c.from_]])]) ?_ ?_
       ·clear hR;rintro i1 hR;(try dsimp only at hR);apply ai<;>intro h11
        ·refine us (Q33 c.node 0 47 _) ?_;exact lfA
        ·apply ai<;>intro h13
         ·refine us (Q33 c.from_ 0 1000000 _) ?_;(first|apply u2|apply u3|apply u4|apply us);exact Q33 c.nodes 1 48 _;exact lfA
         ·(first|apply u2|apply u3|apply u4|apply us);exact Q33 c.job 0 99999 _;exact lfA
       ·apply ai<;>intro h15
        ·exact Qj0 (c.kind==7) (wkA [0]) (foll hR (cf h5 (cf h7 (cf h9 (ct h15 rfl)))))
        ·apply ai<;>intro h17
         ·exact Qj0 (c.kind==8) (wkA [0]) (foll hR (cf h5 (cf h7 (cf h9 (cf h15 (ct h17 rfl))))))
         ·exact Qj0 (c.kind==9) (wkA [0]) (foll hR (cf h5 (cf h7 (cf h9 (cf h15 (cf h17 rfl))))))
   ·apply ai<;>intro h19
    ·exact Qj0 (c.kind==2) (wkA [0]) (foll hR (cf h1 (cf h3 (ct h19 rfl))))
    ·apply ai<;>intro h21
     ·exact Qj0 (c.kind==3) (wkA [0]) (foll hR (cf h1 (cf h3 (cf h19 (ct h21 rfl)))))
     ·apply ai<;>intro h23
      ·exact Qj0 (c.kind==4) (wkA [0]) (foll hR (cf h1 (cf h3 (cf h19 (cf h21 (ct h23 rfl))))))
      ·exact Qj0 (c.kind==11) (wkA [0]) (foll hR (cf h1 (cf h3 (cf h19 (cf h21 (cf h23 rfl))))))
def QN4 (c:Cmd):Int:=bif ((((decide ((c.shape.alts.length:Int) > 6))||(decide ((c.after.length:Int) > 4)))||(!(cmd_fits c)))||(!(cmd_Same c (QG8 c)))) then 80 else 0
theorem b9a0 {P:Prop} (h:P:=by first|(exact cmd_bare_sz _ (by assumption))|exact szA):P:=h
theorem QQd (c:Cmd) (hs0:c.sz):GV 123 [Cmd.a c] (I (QN4 c)):=by
 generalize hR:QN4 c=R;refine gA (kp 3 [25]) Tryz.func123 ?_;have hk0:=hs0;obtain ⟨z3,z4,z5,z6,z7⟩:c.name.size<=4294967296∧c.user.size<=4294967296∧c.account.size<=4294967296∧(c.shape.alts.length<=4294967296)∧c.after.length<=4294967296:=hs0;refine dchk (by kernel_rfl) ?_;(first|apply u2|apply u3|apply u4|apply us);exact cmd_fits_c c b9a0 _;(first|apply u2|apply u3|apply u4|apply us);exact cmd_bare_c c b9a0 _;(first|apply u2|apply u3|apply u4|apply us);exact cmd_Same_c c (QG8 c) b9a0 b9a0 _;(repeat ((first|refine ai rfl ?_|refine ai (fun _=>rfl) ?_|refine ai (fun _=>cmd_fits_c c b9a0 _) ?_|refine ai (fun _=>cmd_bare_c c b9a0 _) ?_|refine ai (fun _=>cmd_Same_c c (QG8 c) b9a0 b9a0 _) ?_)));apply ai<;>intro h1
 ·exact lfA
 ·exact lfA
def Qm0 (j:Job):Int:=bif ((((((decide (j.id<1))||(decide (j.id > 99999)))||(!(QQ1 j.born)))||(j.used != (Qf4 j.used)))||((QN4 (QA0 j))!=0))||(Qv0 j.after (fun (y:Dep)=>(decide (y.job >= j.id))))) then 140 else bif (j.state==1) then bif (!(QN0 j)) then 140 else 0 else bif (j.state==2) then bif (!(QS2 j)) then 140 else 0 else bif (!(Qj5 j.state)) then 140 else bif (!(Qq2 j)) then 140 else 0
theorem Q34 (j:Job) (hs0:j.sz):GV 69 [Job.a j] (I (Qm0 j)):=by
 generalize hR:Qm0 j=R;refine gA (kp 6 [42,45,51,57,64]) Tryz.func69 ?_;obtain ⟨z19,z20,z21,z22,z23⟩:=Job.zz hs0;refine dchk (by kernel_rfl) ?_;(first|apply u2|apply u3|apply u4|apply us);exact Qj4 j.born _;(first|apply u2|apply u3|apply u4|apply us);exact Q89 j.used _;(first|apply u2|apply u3|apply u4|apply us);exact QJ6 j _;(first|apply u2|apply u3|apply u4|apply us);exact QQd (QA0 j) szA _;have cl1:∀ (y1:Dep),AMoves Tryz.prog 121 [Dep.a y1,AVal.ptr 0 0 20 0 0] [(0,AObj.row 55 20 [[I j.id,Sg j.name,Sg j.user,Sg j.account,I j.shape.kind,altL j.shape.alts,I j.shape.min,I j.shape.max,I j.shape.wall,I j.prio,depL j.after,I j.state,Bo j.held,I j.born,I j.promise,I j.choice,I j.start,I j.limit,U j.nodes,I j.used]])] 1 (Bo ((fun (y:Dep)=>(decide (y.job >= j.id))) y1)) [(0,AObj.row 55 20 [[I j.id,Sg j.name,Sg j.user,Sg j.account,I j.shape.kind,altL j.shape.alts,I j.shape.min,I j.shape.max,I j.shape.wall,I j.prio,depL j.after,I j.state,Bo j.held,I j.born,I j.promise,I j.choice,I j.start,I j.limit,U j.nodes,I j.used]])]:=by
  intro y1;have hR:(fun (y:Dep)=>(decide (y.job >= j.id))) y1=(fun (y:Dep)=>(decide (y.job >= j.id))) y1:=rfl;refine mo (kp 4 []) Tryz.func121 ?_;refine Qs0 (fun r:Bool=>Bo r) (fun _=>[(0,AObj.row 55 20 [[I j.id,Sg j.name,Sg j.user,Sg j.account,I j.shape.kind,altL j.shape.alts,I j.shape.min,I j.shape.max,I j.shape.wall,I j.prio,depL j.after,I j.state,Bo j.held,I j.born,I j.promise,I j.choice,I j.start,I j.limit,U j.nodes,I j.used]])]) (leaf:=(decide (y1.job >= j.id))) (foll hR rfl) ?_;exact tt [0] (tO rfl (ts Job.lo) .nil) t1
 have hof1:AMoves Tryz.prog 125 [depL j.after,AVal.fn (.func 121) [] [AVal.ptr 0 0 20 0 0]] [(0,AObj.row 55 20 [[I j.id,Sg j.name,Sg j.user,Sg j.account,I j.shape.kind,altL j.shape.alts,I j.shape.min,I j.shape.max,I j.shape.wall,I j.prio,depL j.after,I j.state,Bo j.held,I j.born,I j.promise,I j.choice,I j.start,I j.limit,U j.nodes,I j.used]])] 1 (Bo (Qv0 j.after (fun (y:Dep)=>(decide (y.job >= j.id))))) [(0,AObj.row 55 20 [[I j.id,Sg j.name,Sg j.user,Sg j.account,I j.shape.kind,altL j.shape.alts,I j.shape.min,I j.shape.max,I j.shape.wall,I j.prio,depL j.after,I j.state,Bo j.held,I j.born,I j.promise,I j.choice,I j.start,I j.limit,U j.nodes,I j.used]])]:=by
  have hR:Qv0 j.after (fun (y:Dep)=>(decide (y.job >= j.id)))=Qv0 j.after (fun (y:Dep)=>(decide (y.job >= j.id))):=rfl;refine mo (kp 5 []) Tryz.func125 ?_;have hof2:AMoves Tryz.prog 191 [depL j.after,AVal.fn (.func 121) [] [AVal.ptr 0 0 20 0 0]] [(0,AObj.row 55 20 [[I j.id,Sg j.name,Sg j.user,Sg j.account,I j.shape.kind,altL j.shape.alts,I j.shape.min,I j.shape.max,I j.shape.wall,I j.prio,depL j.after,I j.state,Bo j.held,I j.born,I j.promise,I j.choice,I j.start,I j.limit,U j.nodes,I j.used]])] 1 (I (Qg1 j.after (fun (y:Dep)=>(decide (y.job >= j.id))))) [(0,AObj.row 55 20 [[I j.id,Sg j.name,Sg j.user,Sg j.account,I j.shape.kind,altL j.shape.alts,I j.shape.min,I j.shape.max,I j.shape.wall,I j.prio,depL j.after,I j.state,Bo j.held,I j.born,I j.promise,I j.choice,I j.start,I j.limit,U j.nodes,I j.used]])]:=by
   have hR:Qg1 j.after (fun (y:Dep)=>(decide (y.job >= j.id)))=Qg1 j.after (fun (y:Dep)=>(decide (y.job >= j.id))):=rfl;refine mo (kp 6 [7,8,9,16]) Tryz.func191 ?_;refine Qk0 (fun (i:Nat)=>Q23 (fun (y:Dep)=>(decide (y.job >= j.id))) (List.drop i j.after) i=Qg1 j.after (fun (y:Dep)=>(decide (y.job >= j.id)))∧i<=j.after.length) (fun i=>j.after.length - i) (fun i=>[(0,depL j.after),(1,AVal.fn (.func 121) [] [AVal.ptr 0 0 20 0 0]),(4,I 0),(7,I (j.after.length:Int)),(8,I (i:Int))]) (fun i=>[(0,AObj.row 55 20 [[I j.id,Sg j.name,Sg j.user,Sg j.account,I j.shape.kind,altL j.shape.alts,I j.shape.min,I j.shape.max,I j.shape.wall,I j.prio,depL j.after,I j.state,Bo j.held,I j.born,I j.promise,I j.choice,I j.start,I j.limit,U j.nodes,I j.used]])]) 0 (wkA [0]) ⟨foll hR rfl,by exact omA⟩ ?_;clear hR;rintro i ⟨hR,hj⟩;(try dsimp only at hR hj);apply ai<;>intro h1
   ·have hlt:=ltA h1;rw [Qd0 zC hlt] at hR;refine ai gkA ?_;refine us (mv [0] (cl1 (j.after.getD i zC)) (dO (ds Job.lo) .nil) (dl (Dep.low _ _) (dp .nil)) (rO (re Job.lo) .nil) rx) ?_;apply ai<;>intro h3
    ·refine Qs0 (fun r:Int=>I r) (fun r:Int=>[(0,AObj.row 55 20 [[I j.id,Sg j.name,Sg j.user,Sg j.account,I j.shape.kind,altL j.shape.alts,I j.shape.min,I j.shape.max,I j.shape.wall,I j.prio,depL j.after,I j.state,Bo j.held,I j.born,I j.promise,I j.choice,I j.start,I j.limit,U j.nodes,I j.used]])]) (leaf:=(i:Int)) (foll hR (ct h3 rfl)) ?_;exact tt [0] (tO rfl (ts Job.lo) .nil) t1
    ·exact Qr0 (i+1) (wkA [0]) omA ⟨folA,by exact omA⟩
   ·rw [Qh0 (l:=j.after) (j:=i) (geA h1)] at hR;refine Qs0 (fun r:Int=>I r) (fun r:Int=>[(0,AObj.row 55 20 [[I j.id,Sg j.name,Sg j.user,Sg j.account,I j.shape.kind,altL j.shape.alts,I j.shape.min,I j.shape.max,I j.shape.wall,I j.prio,depL j.after,I j.state,Bo j.held,I j.born,I j.promise,I j.choice,I j.start,I j.limit,U j.nodes,I j.used]])]) (leaf:=(-1)) (foll hR rfl) ?_;exact tt [0] (tO rfl (ts Job.lo) .nil) t1
  refine us (mv [0] (hof2) (dO (ds Job.lo) .nil) (dl lw (dv (dn_fn .nil (dp .nil)) .nil)) (rO (re Job.lo) .nil) rx) ?_;refine Qs0 (fun r:Bool=>Bo r) (fun r:Bool=>[(0,AObj.row 55 20 [[I j.id,Sg j.name,Sg j.user,Sg j.account,I j.shape.kind,altL j.shape.alts,I j.shape.min,I j.shape.max,I j.shape.wall,I j.prio,depL j.after,I j.state,Bo j.held,I j.born,I j.promise,I j.choice,I j.start,I j.limit,U j.nodes,I j.used]])]) (leaf:=(decide ((Qg1 j.after (fun (y:Dep)=>(decide (y.job >= j.id)))) >= 0))) (foll hR rfl) ?_;exact tt [0] (tO rfl (ts Job.lo) .nil) t1
 (first|apply u2|apply u3|apply u4|apply us);exact mv [0] (hof1) (dO (ds Job.lo) .nil) (dl lw (dv (dn_fn .nil (dp .nil)) .nil)) (rO (re Job.lo) .nil) rx;(repeat ((first|refine ai rfl ?_|refine ai (fun _=>rfl) ?_|refine ai (fun _=>Qj4 j.born _) ?_|refine ai (fun _=>Q89 j.used _) ?_|refine ai (fun _=>QJ6 j _) ?_|refine ai (fun _=>QQd (QA0 j) szA _) ?_)));apply ai<;>intro h5
 ·exact lfA
 ·apply ai<;>intro h7
  ·refine us (Q7c j szA _) ?_;apply ai<;>intro h9
   ·exact lfA
   ·exact lfA
  ·apply ai<;>intro h11
   ·refine us (Qkb j szA _) ?_;apply ai<;>intro h13
    ·exact lfA
    ·exact lfA
   ·refine us (Qhe j.state _) ?_;apply ai<;>intro h15
    ·exact lfA
    ·refine us (Qie j _) ?_;apply ai<;>intro h17
     ·exact lfA
     ·exact lfA
theorem Qbd {j:Job} (h:((((Qm0 j)!=0)||(j.state != 1))||(decide (j.promise<0)))=false):0<=j.choice∧j.choice<((Qe0 j.shape).length:Int):=by
 simp only [yRa,bne_eq_false_iff_eq,y3a] at h;obtain ⟨⟨h1,h2⟩,h3⟩:=h;have hq:QN0 j=true:=by
  unfold Qm0 at h1;revert h1;rw [show (j.state==1)=true by simpa using h2];cases ((((((decide (j.id<1))||(decide (j.id > 99999)))||(!(QQ1 j.born)))||(j.used != (Qf4 j.used)))||((QN4 (QA0 j))!=0))||(Qv0 j.after (fun (y:Dep)=>(decide (y.job >= j.id))))) with
  | true=>simp
  | false =>
   cases QN0 j with
   | true=>simp
   | false=>simp
 unfold QN0 at hq;simp only [yha,yQa] at hq;rcases hq.2 with hp|hp
 ·have:=hp.1;simp at this;omega
 ·have ho:=hp.1.2;unfold QJ0 at ho;cases hc:((decide (j.choice<0))||(decide (j.choice >= ((Qe0 j.shape).length:Int)))) with
  | true=>rw [hc] at ho;cases ho
  | false=>simp at hc;omega
def QG3 (l:List Job):List Job->Nat->Int
 | [],_=>0
 | x_ :: r,i=>bif (((Qm0 x_)!=0)||((decide ((i:Int) > 0))&&(decide ((l.getD ((w64 ((i:Int) - 1)).toNat) zG).id >= x_.id)))) then 140 else QG3 l r (i+1)
def Qi0 (l:List Job):Int:=bif (decide ((l.length:Int) > 40)) then 140 else QG3 l l 0
theorem Qv3 (l:List Job) (hs0:l.length<=4294967296∧(∀ y ∈ l,y.sz)):GV 38 [jobL l] (I (Qi0 l)):=by
 generalize hR:Qi0 l=R;refine gA (kp 5 [7,8,9,10,11,32]) Tryz.func38 ?_;obtain ⟨z12,z13⟩:=id hs0;apply ai<;>intro h1
 ·have qh1:=yca h1;exact lfA
 ·have qh1:=yja h1;refine Qk0 (fun (i:Nat)=>QG3 l (List.drop i l) i=R∧i<=l.length) (fun i=>l.length - i) (fun i=>[(0,jobL l),(2,I 0),(8,jobL l),(9,I (l.length:Int)),(10,I (i:Int))]) (fun i=>[]) 0 (wkA []) ⟨folA,by exact omA⟩ ?_;clear hR;rintro i ⟨hR,hj⟩;(try dsimp only at hR hj);apply ai<;>intro h3
  ·have hlt:=ltA h3;rw [Qd0 zG hlt] at hR;have hxz:(l.getD i zG).sz:=QB1 (by first|assumption|grind) (Job.szz _);have hkz:=hxz;obtain ⟨z5,z6,z7,z8,z9⟩:=Job.zz hxz;refine ai gkA ?_;refine dchk (by kernel_rfl) ?_;(first|apply u2|apply u3|apply u4|apply us);exact Q34 (l.getD i zG) szA _;refine ai gkA ?_;(repeat ((first|refine ai rfl ?_|refine ai (fun _=>rfl) ?_|refine ai (fun _=>Q34 (l.getD i zG) szA _) ?_)));apply ai<;>intro h10
   ·exact lfA
   ·exact Qr0 (i+1) (wkA []) omA ⟨folA,by exact omA⟩
  ·rw [Qh0 (l:=l) (j:=i) (geA h3)] at hR;exact lfA
def QI2 (j:Job) (state:Int):Job × Int:=bif ((Qm0 j)!=0) then (zG,(Qm0 j)) else bif (!(Qj5 state)) then (zG,2) else bif ((Q85 ((j.state==2)||((j.state==1)&&(state==6))))!=0) then (zG,(Q85 ((j.state==2)||((j.state==1)&&(state==6))))) else bif (j.state==1) then ({ j with state:=state,held:=false,promise:=(-1),choice:=0,nodes:=0 },0) else ({ j with state:=state,nodes:=0 },0)
theorem job_End_c (j:Job) (state:Int) (hs0:j.sz):GV 92 [Job.a j,I state] (AVal.tup [Job.a ((QI2 j state).1),I ((QI2 j state).2)]):=by
 generalize hR:QI2 j state=R;refine gA (kp 7 []) Tryz.func92 ?_;obtain ⟨z9,z10,z11,z12,z13⟩:=Job.zz hs0;refine ACalls.of_cwp (fun _=>true) Tryz.func147 rfl rfl ?_;refine us (Q34 j szA _) ?_;apply ai<;>intro h1
 ·refine ⟨_,_,Told.refl,?_⟩;exact lfA
 ·refine ACalls.of_cwp (fun _=>true) Tryz.func145 rfl rfl ?_;refine us (Qhe state _) ?_;apply ai<;>intro h3
  ·refine ⟨_,_,Told.refl,?_⟩;refine ai (fun _=>?_) (fun h=>nomatch h);refine ⟨_,_,Told.refl,?_⟩;exact lfA
  ·refine us (Q8c ((j.state==2)||((j.state==1)&&(state==6))) _) ?_;refine ⟨_,_,Told.refl,?_⟩;apply ai<;>intro h5
   ·refine ⟨_,_,Told.refl,?_⟩;exact lfA
   ·refine us (QI6 j szA _) ?_;refine ACalls.of_cwp (fun _=>true) Tryz.func148 rfl rfl ?_;apply ai<;>intro h7
    ·refine ⟨_,_,Told.refl,?_⟩;refine ⟨_,_,Told.refl,?_⟩;exact lfA
    ·refine ⟨_,_,Told.refl,?_⟩;refine ⟨_,_,Told.refl,?_⟩;exact lfA
theorem Qd6 {j:Job} (h:j.sz) (x:Int):(QI2 j x).1.sz:=by
 unfold QI2
 repeat' first|exact Job.szz _|exact h|(rw [yka];split)
def QW0 (j:Job):Int × Int × Int × Bool:=bif ((((Qm0 j)!=0)||(j.state != 1))||(decide (j.promise<0))) then (0,0,0,false) else (j.promise,(w64 (((Qe0 j.shape).getD (j.choice.toNat) zA).wall+12)),((Qe0 j.shape).getD (j.choice.toNat) zA).nodes,true)
theorem QS7 (j:Job) (hs0:j.sz):GV 164 [Job.a j] (AVal.tup [I ((QW0 j).1),I ((QW0 j).2.1),I ((QW0 j).2.2.1),Bo ((QW0 j).2.2.2)]):=by
 generalize hR:QW0 j=R;refine gA (kp 7 [19]) Tryz.func164 ?_;obtain ⟨z3,z4,z5,z6,z7⟩:=Job.zz hs0;refine us (Q34 j szA _) ?_;refine ai (fun h1=>?_) (fun h2=>?_)
 ·exact lfA
 ·refine dchk (by kernel_rfl) ?_;(first|apply u2|apply u3|apply u4|apply us);exact Qs2 j.shape szA _;refine And.intro (by first|exact fun hg=>yoa (by first|((have q:=Qbd (by assumption);omega))|exact ckA)|exact gkA) ?_;(repeat ((first|refine ai rfl ?_|refine ai (fun _=>rfl) ?_|refine ai (fun _=>Qs2 j.shape szA _) ?_)));(try (refine dchk (by kernel_rfl) ?_));(repeat ((first|refine ai rfl ?_|refine ai (fun _=>rfl) ?_)));exact lfA
def Q81 (j:Job) (at_:Int) (choice:Int):Job × Int:=bif ((Qm0 j)!=0) then (zG,(Qm0 j)) else bif ((j.state != 1)||j.held) then (zG,141) else bif ((!(QJ0 j choice).2)||(!(QQ1 at_))) then (zG,2) else ({ j with promise:=at_,choice:=choice },0)
theorem Qjb (j:Job) (at_:Int) (choice:Int) (hs0:j.sz):GV 167 [Job.a j,I at_,I choice] (AVal.tup [Job.a ((Q81 j at_ choice).1),I ((Q81 j at_ choice).2)]):=by
 generalize hR:Q81 j at_ choice=R;refine gA (kp 9 []) Tryz.func167 ?_;obtain ⟨z7,z8,z9,z10,z11⟩:=Job.zz hs0;refine ACalls.of_cwp (fun _=>true) Tryz.func147 rfl rfl ?_;refine us (Q34 j szA _) ?_;apply ai<;>intro h1
 ·refine ⟨_,_,Told.refl,?_⟩;exact lfA
 ·refine ACalls.of_cwp (fun _=>true) Tryz.func215 rfl rfl ?_;apply ai<;>intro h3
  ·refine ⟨_,_,Told.refl,?_⟩;refine ai (fun _=>?_) (fun h=>nomatch h);refine ⟨_,_,Told.refl,?_⟩;exact lfA
  ·refine us (Q75 j choice szA _) ?_;(first|apply u2|apply u3|apply u4|apply us);exact Qj4 at_ _;apply ai<;>intro h5
   ·refine ⟨_,_,Told.refl,?_⟩;refine ai (fun _=>?_) (fun h=>nomatch h);refine ⟨_,_,Told.refl,?_⟩;exact lfA
   ·refine ⟨_,_,Told.refl,?_⟩;refine ai (fun h=>nomatch h) (fun _=>?_);refine us (QI6 j szA _) ?_;refine ACalls.of_cwp (fun _=>true) Tryz.func216 rfl rfl ?_;refine dchk (by kernel_rfl) ?_;(repeat ((first|refine ai rfl ?_|refine ai (fun _=>rfl) ?_)));refine ⟨_,_,Told.refl,?_⟩;refine ⟨_,_,Told.refl,?_⟩;exact lfA
theorem Qt6 {j:Job} (a c:Int) (h:j.sz):(Q81 j a c).1.sz:=by
 unfold Q81
 repeat' first|exact Job.szz _|exact h|(rw [yka];split)
def Q44 (j:Job):Job × Int:=bif ((Qm0 j)!=0) then (zG,(Qm0 j)) else bif ((Q85 (j.state==1))!=0) then (zG,(Q85 (j.state==1))) else ({ j with promise:=(-1),choice:=0 },0)
theorem job_Drop_c (j:Job) (hs0:j.sz):GV 161 [Job.a j] (AVal.tup [Job.a ((Q44 j).1),I ((Q44 j).2)]):=by
 generalize hR:Q44 j=R;refine gA (kp 4 []) Tryz.func161 ?_;obtain ⟨z5,z6,z7,z8,z9⟩:=Job.zz hs0;refine ACalls.of_cwp (fun _=>true) Tryz.func147 rfl rfl ?_;refine us (Q34 j szA _) ?_;apply ai<;>intro h1
 ·refine ⟨_,_,Told.refl,?_⟩;exact lfA
 ·refine ACalls.of_cwp (fun _=>true) Tryz.func201 rfl rfl ?_;refine us (Q8c (j.state==1) _) ?_;refine ⟨_,_,Told.refl,?_⟩;apply ai<;>intro h3
  ·refine ⟨_,_,Told.refl,?_⟩;exact lfA
  ·refine us (QI6 j szA _) ?_;refine ACalls.of_cwp (fun _=>true) Tryz.func202 rfl rfl ?_;refine ⟨_,_,Told.refl,?_⟩;refine ⟨_,_,Told.refl,?_⟩;exact lfA
theorem Qfe {j:Job} (h:j.sz):(Q44 j).1.sz:=by
 unfold Q44
 repeat' first|exact Job.szz _|exact h|(rw [yka];split)
def QU1 (j:Job) (now:Int) (set_:Int):Job × Int:=bif ((Qm0 j)!=0) then (zG,(Qm0 j)) else bif (((j.state != 1)||(decide (j.promise<0)))||(decide (j.promise<now))) then (zG,141) else bif ((!(QC9 set_))||((QQ0 set_)!=(QJ0 j j.choice).1.nodes)) then (zG,152) else bif ((!(QQ1 now))||(sat_Over ([now,(QJ0 j j.choice).1.wall]:List Int))) then (zG,153) else ({ j with state:=2,start:=now,limit:=(w64 (now+(QJ0 j j.choice).1.wall)),nodes:=set_ },0)
theorem Qge (j:Job) (now:Int) (set_:Int) (hs0:j.sz):GV 119 [Job.a j,I now,U set_] (AVal.tup [Job.a ((QU1 j now set_).1),I ((QU1 j now set_).2)]):=by
 generalize hR:QU1 j now set_=R;refine gA (kp 10 []) Tryz.func119 ?_;obtain ⟨z9,z10,z11,z12,z13⟩:=Job.zz hs0;refine ACalls.of_cwp (fun _=>true) Tryz.func147 rfl rfl ?_;refine us (Q34 j szA _) ?_;apply ai<;>intro h1
 ·refine ⟨_,_,Told.refl,?_⟩;exact lfA
 ·refine ACalls.of_cwp (fun _=>true) Tryz.func182 rfl rfl ?_;refine us (Q75 j j.choice szA _) ?_;apply ai<;>intro h3
  ·refine ⟨_,_,Told.refl,?_⟩;refine ai (fun _=>?_) (fun h=>nomatch h);refine ⟨_,_,Told.refl,?_⟩;exact lfA
  ·refine dchk (by kernel_rfl) ?_;(first|apply u2|apply u3|apply u4|apply us);exact Qe6 set_ _;(first|apply u2|apply u3|apply u4|apply us);exact Qy1 set_ _;(repeat ((first|refine ai rfl ?_|refine ai (fun _=>rfl) ?_|refine ai (fun _=>Qe6 set_ _) ?_|refine ai (fun _=>Qy1 set_ _) ?_)));apply ai<;>intro h5
   ·refine ⟨_,_,Told.refl,?_⟩;refine ai (fun _=>?_) (fun h=>nomatch h);refine ⟨_,_,Told.refl,?_⟩;exact lfA
   ·refine us (Qj4 now _) ?_;(first|apply u2|apply u3|apply u4|apply us);exact AGives.as2 (sat_Over_c ([now,(QJ0 j j.choice).1.wall]:List Int) szA _) (av (QK5 (c:=(fun q_=>[I q_])) (d:=0) ([now,(QJ0 j j.choice).1.wall]:List Int) rfl) .nil);apply ai<;>intro h7
    ·refine ⟨_,_,Told.refl,?_⟩;refine ai (fun _=>?_) (fun h=>nomatch h);refine ⟨_,_,Told.refl,?_⟩;exact lfA
    ·refine ⟨_,_,Told.refl,?_⟩;refine ai (fun h=>nomatch h) (fun _=>?_);refine us (QI6 j szA _) ?_;refine ACalls.of_cwp (fun _=>true) Tryz.func186 rfl rfl ?_;refine dchk (by kernel_rfl) ?_;(repeat ((first|refine ai rfl ?_|refine ai (fun _=>rfl) ?_)));refine ⟨_,_,Told.refl,?_⟩;refine ⟨_,_,Told.refl,?_⟩;exact lfA
theorem job_Start_sz {j:Job} (h:j.sz) (x y:Int):(QU1 j x y).1.sz:=by
 unfold QU1
 repeat' first|exact Job.szz _|exact h|(rw [yka];split)
def QC2 (j:Job) (set_:Int):Job × Int:=bif ((Qm0 j)!=0) then (zG,(Qm0 j)) else bif ((j.state==2)&&((!(QC9 set_))||(!(QU7 j.shape j.choice (QQ0 set_))))) then (zG,152) else bif ((Q85 (j.state==2))!=0) then (zG,(Q85 (j.state==2))) else ({ j with nodes:=set_ },0)
theorem Qj3 (j:Job) (set_:Int) (hs0:j.sz):GV 198 [Job.a j,U set_] (AVal.tup [Job.a ((QC2 j set_).1),I ((QC2 j set_).2)]):=by
 generalize hR:QC2 j set_=R;refine gA (kp 7 []) Tryz.func198 ?_;obtain ⟨z7,z8,z9,z10,z11⟩:=Job.zz hs0;refine ACalls.of_cwp (fun _=>true) Tryz.func147 rfl rfl ?_;refine us (Q34 j szA _) ?_;apply ai<;>intro h1
 ·refine ⟨_,_,Told.refl,?_⟩;exact lfA
 ·refine ACalls.of_cwp (fun _=>true) Tryz.func238 rfl rfl ?_;refine dchk (by kernel_rfl) ?_;(first|apply u2|apply u3|apply u4|apply us);exact Qe6 set_ _;(first|apply u2|apply u3|apply u4|apply us);exact Qy1 set_ _;(first|apply u2|apply u3|apply u4|apply us);exact QA6 j.shape j.choice (QQ0 set_) szA _;(repeat ((first|refine ai rfl ?_|refine ai (fun _=>rfl) ?_|refine ai (fun _=>Qe6 set_ _) ?_|refine ai (fun _=>Qy1 set_ _) ?_|refine ai (fun _=>QA6 j.shape j.choice (QQ0 set_) szA _) ?_)));apply ai<;>intro h3
  ·refine ⟨_,_,Told.refl,?_⟩;refine ai (fun _=>?_) (fun h=>nomatch h);refine ⟨_,_,Told.refl,?_⟩;exact lfA
  ·refine us (Q8c (j.state==2) _) ?_;refine ⟨_,_,Told.refl,?_⟩;apply ai<;>intro h5
   ·refine ⟨_,_,Told.refl,?_⟩;exact lfA
   ·refine us (QI6 j szA _) ?_;refine ACalls.of_cwp (fun _=>true) Tryz.func239 rfl rfl ?_;refine ⟨_,_,Told.refl,?_⟩;refine ⟨_,_,Told.refl,?_⟩;exact lfA
def QY3 (s:State):Int:=bif (((((decide (s.now<0))||(decide (s.now > 1000000)))||((Q61 s.nodes)!=0))||((Qi0 s.jobs)!=0))||((QX9 s.books)!=0)) then 141 else 0
theorem Q0d (s:State) (hs0:s.sz):GV 41 [State.a s] (I (QY3 s)):=by
 generalize hR:QY3 s=R;refine gA (kp 3 [28]) Tryz.func41 ?_;have hk0:=hs0;obtain ⟨z3,z4,z5,z6,z7,z8,z9⟩:=hs0;(first|apply u2|apply u3|apply u4|apply us);exact QY2 s.nodes szA _;(first|apply u2|apply u3|apply u4|apply us);exact Qv3 s.jobs szA _;(first|apply u2|apply u3|apply u4|apply us);exact book_Check_c s.books szA _;apply ai<;>intro h1
 ·exact lfA
 ·exact lfA
theorem Qid {s:State} (h:((QY3 s)!=0)=false):1<=s.nodes.length∧s.nodes.length<=48:=by
 have hf:Q61 s.nodes=0:=by
  simp only [QY3] at h;revert h;cases h2:(Q61 s.nodes != 0) with
  | true=>simp
  | false=>intro _;simpa using h2
 simp only [Q61] at hf;revert hf;cases h2:((decide ((s.nodes.length:Int)<1))||(decide ((s.nodes.length:Int) > 48))) with
 | true=>simp
 | false=>intro _;simp at h2;omega
theorem busy_ne {order:List Int} {i:Nat} {c:List (Int × Int)} {k:Int} (h:order ≠ []∨(i=0∧c=[])) (hg:(((getM k c).getD 0)==0)=false):order ≠ []:=by
 rcases h with h|⟨_,rfl⟩
 ·exact h
 ·simp [getM] at hg
theorem busy_order {s:State} {order:List Int} {i:Nat} {c:List (Int × Int)} (h:((QY3 s)!=0)=false) (ho:order ≠ []∨(i=0∧c=[])) (hi:decide ((i:Int)<(s.nodes.length:Int))=false):order ≠ []:=by
 rcases ho with ho|⟨rfl,_⟩
 ·exact ho
 ·have:=(Qid h).1;have:=yja hi;omega
def Q68 (out:List Job):(List Job) × Int:=(out,0)
def Qb1 (l:List Job) (j:Job):(List Job) × Int:=bif ((Qi0 l)!=0) then ([],(Qi0 l)) else bif ((Qm0 j)!=0) then ([],(Qm0 j)) else bif (!(Qq0 l j.id).2) then ([],140) else Q68 (l.set (((Qq0 l j.id).1).toNat) j)
theorem b12a1 {P:Prop} (h:P:=by first|((exact hx))|first|((exact hy))|first|((assumption))|exact szA):P:=h
theorem QX1 (l:List Job) (j:Job) (hs0:l.length<=4294967296∧(∀ y ∈ l,y.sz)) (hs1:j.sz):GV 109 [jobL l,Job.a j] (AVal.tup [jobL ((Qb1 l j).1),I ((Qb1 l j).2)]):=by
 generalize hR:Qb1 l j=R;refine gA (kj [1000012] 11 [14,19,29]) Tryz.func109 ?_;obtain ⟨z7,z8⟩:=id hs0;obtain ⟨z9,z10,z11,z12,z13⟩:=Job.zz hs1;refine us (Qv3 l b12a1 _) ?_;refine ai (fun h1=>?_) (fun h2=>?_)
 ·exact lfA
 ·refine us (Q34 j b12a1 _) ?_;refine ai (fun h3=>?_) (fun h4=>?_)
  ·exact lfA
  ·refine us (QMb l j.id b12a1 _) ?_;refine ai (fun h5=>?_) (fun h6=>?_)
   ·exact lfA
   ·refine us (mv [] (Q78 l b12a1) .nil (dl lw .nil) (rO rr .nil) (rw_ 1 0 rfl)) ?_;refine Qu1 (fun (out:List Job)=>Q68 out=R∧(out.length<=4294967296∧(∀ y ∈ out,y.sz))) (fun out=>[(4,AVal.lit (.slice none 0 0)),(5,I 0),(10,jobL out)]) (fun out=>[]) ?_ ?_
    ·clear hR;rintro out ⟨hR,hx⟩;(try dsimp only at hR hx);refine us (mv [] (QNb out b12a1) .nil (dl lw .nil) (rO rr .nil) (rw_ 0 0 rfl)) ?_;obtain rfl:=foll hR rfl;exact Q60 (Low.tup' (.cons lw (l1 .nil))) (Seen.tup (ev (Qa0 zG _ rfl eqA lnA) (e1 .nil)))
    ·refine And.intro (by first|exact fun hg=>yoa (by first|((have hq:=QI3 l j.id z7 (by assumption);omega))|exact ckA)|exact gkA) ?_;refine ⟨_,QV0 rfl rfl rfl rfl (Qo0 zG (((Qq0 l j.id).1).toNat) (by first|rfl|exact yda _|omega) (by first|((have hq:=QI3 l j.id z7 (by assumption);omega))|exact ckA)) rfl rfl (QD7 (((Qq0 l j.id).1).toNat) j (by first|rfl|exact yda _|omega) rfl),?_⟩;exact Qj0 (l.set (((Qq0 l j.id).1).toNat) j) (wk [] .nil (s1 (s1 (sv (Qn7 _ _ rfl (yna _) (by decide) eqA (fun _=>Job.lowc _ _) lnA) .nil)))) (⟨folA,by first|((exact ⟨by rw [yWa];exact z7,fun y hy=>(y6a hy).elim (z8 y) (fun e=>e ▸ hs1)⟩))|exact exA⟩)
theorem Q72 {l:List Job} {j:Job} (h:l.length<=4294967296 ∧ ∀ y ∈ l,y.sz) (hj:j.sz):(Qb1 l j).1.length<=4294967296 ∧ ∀ y ∈ (Qb1 l j).1,y.sz:=by
 unfold Qb1 Q68
 repeat' first|exact ⟨yna _,fun y hy=>nomatch hy⟩|exact ⟨by rw [yWa];exact h.1,fun y hy=>(y6a hy).elim (h.2 y) (fun e=>e ▸ hj)⟩|(rw [yka];split)
def Q70 (l:List Job) (id_:Int):Job × Bool:=bif (((Qi0 l)!=0)||(!(QH3 id_))) then (zG,false) else bif (!(Qq0 l id_).2) then (zG,false) else (((List.drop (((Qq0 l id_).1).toNat) (List.take ((w64 ((Qq0 l id_).1+1)).toNat) l)).getD 0 zG),true)
theorem QW1 (l:List Job) (id_:Int) (hs0:l.length<=4294967296∧(∀ y ∈ l,y.sz)):GV 39 [jobL l,I id_] (AVal.tup [Job.a ((Q70 l id_).1),Bo ((Q70 l id_).2)]):=by
 generalize hR:Q70 l id_=R;refine gA (kp 8 [15,24]) Tryz.func39 ?_;obtain ⟨z5,z6⟩:=id hs0;refine us (Qv3 l szA _) ?_;(first|apply u2|apply u3|apply u4|apply us);exact table_known_c id_ _;refine ai (fun h1=>?_) (fun h2=>?_)
 ·exact lfA
 ·refine us (QMb l id_ szA _) ?_;refine ai (fun h3=>?_) (fun h4=>?_)
  ·exact lfA
  ·refine And.intro (by first|exact fun hg=>yoa (by first|(have hp:=QI3 l id_ hs0.1 (by assumption);have pw:IntKind.i64.wrap ((Qq0 l id_).1+1)=(Qq0 l id_).1+1:=wr oA;simp only [yFa,pw,yEa,yAa];omega)|exact ckA)|exact gkA) ?_;refine us (mv [] (QNb (List.drop (((Qq0 l id_).1).toNat) (List.take ((w64 ((Qq0 l id_).1+1)).toNat) l)) szA) .nil (dv (dn_as (as_cut l (((Qq0 l id_).1).toNat) ((w64 ((Qq0 l id_).1+1)).toNat) leA (by first|(have hp:=QI3 l id_ hs0.1 (by assumption);have pw:IntKind.i64.wrap ((Qq0 l id_).1+1)=(Qq0 l id_).1+1:=wr oA;simp only [yFa,pw,yEa,yAa];omega)|exact ckA)) lw) .nil) (rO rr .nil) (rw_ 1 0 rfl)) ?_;refine And.intro (by first|exact fun hg=>yoa (by first|(have hp:=QI3 l id_ hs0.1 (by assumption);have pw:IntKind.i64.wrap ((Qq0 l id_).1+1)=(Qq0 l id_).1+1:=wr oA;simp only [yFa,pw,yEa,yAa];omega)|exact ckA)|exact gkA) ?_;refine ⟨_,Qf0 rfl rfl rfl (Qo0 zG 0 (by first|rfl|exact yda _|omega) (by first|(have hp:=QI3 l id_ hs0.1 (by assumption);have pw:IntKind.i64.wrap ((Qq0 l id_).1+1)=(Qq0 l id_).1+1:=wr oA;simp only [yFa,pw,yEa,yAa];omega)|exact ckA)) rfl,?_⟩;exact lfA
theorem QG2 {l:List Job} (h:∀ y ∈ l,y.sz) (id:Int):(Q70 l id).1.sz:=by
 unfold Q70
 repeat' first|exact Job.szz _|exact QB1 (fun y hy=>h y (yjb (yib hy))) (Job.szz _)|(rw [yka];split)
def Qc4 (j:Job) (jobs:List Job) (ids:List Int) (pr:Job × Int) (c:List Step):List Job->Nat->List Step × List Job × List Int
 | [],_=>(c,jobs,ids)
 | _ :: r,i=>bif ((jobs.getD i zG).id==j.id) then (c,(jobs.set i pr.1),(ids++([j.id]:List Int))) else Qc4 j jobs ids pr c r (i+1)
def Qu2 (j:Job) (jobs:List Job) (ids:List Int) (pr:Job × Int) (c:List Step):List Step × List Job × List Int:=Qc4 j jobs ids pr c jobs 0
def QD2 (j:Job) (choice:Int) (at_:Int) (left:List Step) (jobs:List Job) (ids:List Int):List Step × List Job × List Int:=(fun pr:Job × Int=>bif (pr.2 != 0) then (left,jobs,ids) else (fun cl:Int × Int × Int × Bool=>(fun tk:(List Step) × Int=>bif (tk.2==0) then Qu2 j jobs ids pr tk.1 else Qu2 j jobs ids pr left) (QR5 left cl.1 cl.2.1 cl.2.2.1)) (QW0 pr.1)) (Q81 j at_ choice)
theorem fresh_next {j:Job} {jobs:List Job} {i:Nat} (hlt:i<jobs.length) (h:((jobs.getD i zG).id==j.id)=false) (hI:∃ x ∈ List.drop i jobs,x.id=j.id):∃ x ∈ List.drop (i+1) jobs,x.id=j.id:=by
 obtain ⟨x,hx,e⟩:=hI;rw [Qd0 zG hlt] at hx;rcases List.mem_cons.1 hx with h2|h2
 ·rw [← h2,e,beq_self_eq_true] at h;cases h
 ·exact ⟨x,h2,e⟩
theorem Qze (j:Job) (choice:Int) (at_:Int) (left:List Step) (jobs:List Job) (ids:List Int) (hs0:j.sz) (hs1:left.length<=4294967296) (hs2:jobs.length<=4294967296∧(∀ y ∈ jobs,y.sz)) (hs3:ids.length<=4294967296) (hp0:∃ x ∈ jobs,x.id=j.id):AMoves Tryz.prog 169 [Job.a j,I choice,I at_,AVal.ptr 0 0 1 0 0,AVal.ptr 1 0 1 0 0,AVal.ptr 2 0 1 0 0] [(0,AObj.row 207 1 [[stepL left]]),(0,AObj.row 23 1 [[AVal.own 3 0 20 0 jobs.length]]),(0,AObj.row 43 1 [[AVal.own 4 0 1 0 ids.length]]),(0,AObj.row 55 20 (jobs.map Job.cells)),(0,AObj.row 3 1 (ids.map (fun q_=>[I q_])))] 3 (AVal.tup []) [(0,AObj.row 207 1 [[stepL ((QD2 j choice at_ left jobs ids).1)]]),(0,AObj.row 23 1 [[AVal.own 3 0 20 0 ((QD2 j choice at_ left jobs ids).2.1).length]]),(0,AObj.row 43 1 [[AVal.own 4 0 1 0 ((QD2 j choice at_ left jobs ids).2.2).length]]),(0,AObj.row 55 20 ((QD2 j choice at_ left jobs ids).2.1.map Job.cells)),(0,AObj.row 3 1 ((QD2 j choice at_ left jobs ids).2.2.map (fun q_=>[I q_])))]:=by
 generalize hR:QD2 j choice at_ left jobs ids=R;refine mo (kj [1000007] 18 [26,43]) Tryz.func169 ?_;obtain ⟨z14,z15,z16,z17,z18⟩:=Job.zz hs0;have hk1:=hs1;obtain z19:left.length<=4294967296:=hs1;obtain ⟨z20,z21⟩:=id hs2;have hk3:=hs3;obtain z22:ids.length<=4294967296:=hs3;refine us (Qjb j at_ choice szA _) ?_;generalize hvpr:Q81 j at_ choice=pr;(have hpr:pr.1.sz:=by rw [← hvpr];exact Qt6 _ _ hs0);apply ai<;>intro h1
 ·obtain rfl:=foll hR ((by subst hvpr;exact ct h1 rfl));exact rq (ttA [0,1,2,3,4])
 ·refine us (QS7 pr.1 szA _) ?_;generalize hvcl:QW0 pr.1=cl;refine Qu1 (fun (c:List Step)=>Qu2 j jobs ids pr c=R) (fun c=>[(4,AVal.ptr 1 0 1 0 0),(5,AVal.ptr 2 0 1 0 0),(6,AVal.ptr 5 0 20 0 0),(9,AVal.ptr 6 0 20 0 0)]) (fun c=>[(0,AObj.row 207 1 [[stepL c]]),(0,AObj.row 23 1 [[AVal.own 3 0 20 0 jobs.length]]),(0,AObj.row 43 1 [[AVal.own 4 0 1 0 ids.length]]),(0,AObj.row 55 20 (jobs.map Job.cells)),(0,AObj.row 3 1 (ids.map (fun q_=>[I q_]))),(0,AObj.row 55 20 [[I j.id,Sg j.name,Sg j.user,Sg j.account,I j.shape.kind,altL j.shape.alts,I j.shape.min,I j.shape.max,I j.shape.wall,I j.prio,depL j.after,I j.state,Bo j.held,I j.born,I j.promise,I j.choice,I j.start,I j.limit,U j.nodes,I j.used]]),(0,AObj.row 55 20 [[I pr.1.id,Sg pr.1.name,Sg pr.1.user,Sg pr.1.account,I pr.1.shape.kind,altL pr.1.shape.alts,I pr.1.shape.min,I pr.1.shape.max,I pr.1.shape.wall,I pr.1.prio,depL pr.1.after,I pr.1.state,Bo pr.1.held,I pr.1.born,I pr.1.promise,I pr.1.choice,I pr.1.start,I pr.1.limit,U pr.1.nodes,I pr.1.used]])]) ?_ ?_
  ·clear hR;rintro c hR;(try dsimp only at hR);refine ACalls.of_cwp (fun _=>true) Tryz.func170 rfl rfl ?_;refine Qk0 (fun (i:Nat)=>Qc4 j jobs ids pr c (List.drop i jobs) i=R∧i<=jobs.length ∧ ∃ x ∈ List.drop i jobs,x.id=j.id) (fun i=>jobs.length - i) (fun i=>[(0,AVal.own 3 0 20 0 jobs.length),(1,AVal.fn (.func 171) [] [AVal.ptr 5 0 20 0 0]),(4,I 0),(7,I (jobs.length:Int)),(8,I (i:Int))]) (fun i=>[(0,AObj.row 207 1 [[stepL c]]),(0,AObj.row 23 1 [[AVal.own 3 0 20 0 jobs.length]]),(0,AObj.row 43 1 [[AVal.own 4 0 1 0 ids.length]]),(0,AObj.row 55 20 (jobs.map Job.cells)),(0,AObj.row 3 1 (ids.map (fun q_=>[I q_]))),(0,AObj.row 55 20 [[I j.id,Sg j.name,Sg j.user,Sg j.account,I j.shape.kind,altL j.shape.alts,I j.shape.min,I j.shape.max,I j.shape.wall,I j.prio,depL j.after,I j.state,Bo j.held,I j.born,I j.promise,I j.choice,I j.start,I j.limit,U j.nodes,I j.used]]),(0,AObj.row 55 20 [[I pr.1.id,Sg pr.1.name,Sg pr.1.user,Sg pr.1.account,I pr.1.shape.kind,altL pr.1.shape.alts,I pr.1.shape.min,I pr.1.shape.max,I pr.1.shape.wall,I pr.1.prio,depL pr.1.after,I pr.1.state,Bo pr.1.held,I pr.1.born,I pr.1.promise,I pr.1.choice,I pr.1.start,I pr.1.limit,U pr.1.nodes,I pr.1.used]])]) 0 (wkA [0,1,2,3,4,5,6]) ⟨foll hR rfl,by exact omA,hp0⟩ ?_;clear hR;rintro i ⟨hR,hj,hI⟩;(try dsimp only at hR hj);apply ai<;>intro h3
   ·have hlt:=ltA h3;rw [Qd0 zG hlt] at hR;have hxz:(jobs.getD i zG).sz:=QB1 (by first|assumption|grind) (Job.szz _);have hkz:=hxz;obtain ⟨z5,z6,z7,z8,z9⟩:=Job.zz hxz;refine ai gkA ?_;refine ⟨_,Qf0 rfl rfl rfl (Qo0 zG i (by first|rfl|exact yda _|omega) ckA) rfl,?_⟩;refine ACalls.of_cwp (fun _=>true) Tryz.func171 rfl rfl ?_;refine ⟨_,_,Told.refl,?_⟩;apply ai<;>intro h10
    ·refine ⟨_,_,Told.refl,?_⟩;refine ai gkA ?_;refine ⟨_,QV0 rfl rfl rfl rfl (Qo0 zG i (by first|rfl|exact yda _|omega) ckA) rfl rfl (QD7 i pr.1 (by first|rfl|exact yda _|omega) rfl),?_⟩;refine Or.inl ?_;(first|refine ⟨Qd1 8 rfl lnA apA,?_⟩|refine ⟨QB0 8 rfl apA,?_⟩);obtain rfl:=foll hR (ct h10 rfl);exact rq (ttA [0,1,2,3,4])
    ·exact Qr0 (i+1) (wkA [0,1,2,3,4,5,6]) omA ⟨folA,by exact omA,fresh_next hlt h10 hI⟩
   ·obtain ⟨x,hx,_⟩:=hI;rw [ysb (by have:=yja h3;omega)] at hx;exact absurd hx y8a
  ·refine us (fit_Take_c left cl.1 cl.2.1 cl.2.2.1 szA _) ?_;generalize hvtk:QR5 left cl.1 cl.2.1 cl.2.2.1=tk;apply ai<;>intro h12
   ·exact Qj0 tk.1 (wkA [0,1,2,3,4,5,6]) (foll hR ((by subst hvpr;exact cf h1 (by subst hvcl;exact (by subst hvtk;exact ct h12 rfl)))))
   ·exact Qj0 left (wkA [0,1,2,3,4,5,6]) (foll hR ((by subst hvpr;exact cf h1 (by subst hvcl;exact (by subst hvtk;exact cf h12 rfl)))))
def QZ1 (l:List Usage) (ids:List Int):List Job->List Ranked->Nat->List (ByteArray × Int)->(List Ranked) × (List (ByteArray × Int))
 | [],r_,_,c=>(r_,c)
 | x_ :: r,r_,i,c=>bif (!(QF0 ids x_.id)) then QZ1 l ids r r_ (i+1) c else bif (!(getM x_.user c).isSome) then QZ1 l ids r (r_++([(⟨x_.id,x_.prio,((getM x_.user (setM x_.user (Q43 l x_.user) c)).getD 0),x_.id⟩:Ranked)]:List Ranked)) (i+1) (setM x_.user (Q43 l x_.user) c) else QZ1 l ids r (r_++([(⟨x_.id,x_.prio,((getM x_.user c).getD 0),x_.id⟩:Ranked)]:List Ranked)) (i+1) c
def Q63 (r_:List Ranked):List Ranked->List Int->Nat->(List Int)
 | [],out,_=>out
 | _ :: r,out,i1=>Q63 r_ r (out++([((QL3 r_).getD i1 zO).what]:List Int)) (i1+1)
def Qs4 (out:List Int):(List Int):=out
def Q73 (r_:List Ranked) (c:List (ByteArray × Int)):(List Int):=Qs4 (Q63 r_ (QL3 r_) [] 0)
def QC0 (jobs:List Job) (l:List Usage) (ids:List Int):(List Int):=bif ((Qi0 jobs)!=0) then [] else Q73 ((QZ1 l ids jobs [] 0 []).1) ((QZ1 l ids jobs [] 0 []).2)
theorem b12a0 {P:Prop} (h:P:=by first|((exact ⟨hx.1,by omega⟩))|first|((exact ⟨fun x hm=>(List.mem_append.1 hm).elim (hx.1 x) (fun h=>by rw [List.mem_singleton.1 h]),by simp;omega⟩))|first|((exact ⟨fun _ h=>absurd h y8a,by simp⟩))|exact exA):P:=h
theorem Qe7 (jobs:List Job) (l:List Usage) (ids:List Int) (hs0:jobs.length<=4294967296∧(∀ y ∈ jobs,y.sz)) (hs1:l.length<=4294967296∧(∀ y ∈ l,y.sz)) (hs2:ids.length<=4294967296):GV 175 [jobL jobs,Qt1 l,ints ids] (ints (QC0 jobs l ids)):=by
 generalize hR:QC0 jobs l ids=R;refine gA (kp 14 [16,18,19,20,21,28,37]) Tryz.func175 ?_;obtain ⟨z16,z17⟩:=id hs0;obtain ⟨z18,z19⟩:=id hs1;have hk2:=hs2;obtain z20:ids.length<=4294967296:=hs2;refine us (Qv3 jobs szA _) ?_;apply ai<;>intro h1
 ·exact lfA
 ·refine QT4 (fun (r_:List Ranked) (i:Nat) (c:List (ByteArray × Int))=>Q73 (QZ1 l ids (List.drop i jobs) r_ i c).1 (QZ1 l ids (List.drop i jobs) r_ i c).2=R∧i<=jobs.length∧(∀ x ∈ r_,x.what=x.id)∧r_.length<=i) (fun r_ i c=>jobs.length - i) (fun r_ i c=>[(1,Qt1 l),(2,ints ids),(6,AVal.lit (.slice none 0 0)),(7,AVal.own 1 0 4 0 r_.length),(8,AVal.map 0),(18,jobL jobs),(19,I (jobs.length:Int)),(20,I (i:Int))]) (fun r_ i c=>[(0,AObj.other (.map (mapEs sk I 0 c) c.length)),(0,AObj.row 266 4 (r_.map Ranked.cells))]) [] 0 [] ((QA1 266 4).trans (wkA [0,1])) ⟨folA,by exact omA,b12a0⟩ ?_;clear hR;rintro r_ i c ⟨hR,hj,hx⟩;(try dsimp only at hR hj hx);apply ai<;>intro h3
  ·have hlt:=ltA h3;rw [Qd0 zG hlt] at hR;have hxz:(jobs.getD i zG).sz:=QB1 (by first|assumption|grind) (Job.szz _);have hkz:=hxz;obtain ⟨z5,z6,z7,z8,z9⟩:=Job.zz hxz;refine ai gkA ?_;refine us (Qz1 ids ((jobs.getD i zG).id) szA _) ?_;apply ai<;>intro h10
   ·exact QH1 r_ (i+1) c (wkA [0,1]) omA ⟨foll hR (congrArg (fun p:(List Ranked) × (List (ByteArray × Int))=>Q73 p.1 p.2) (ct h10 rfl)),by exact omA,b12a0⟩
   ·(first|refine ⟨_,_,Qu6 rfl _ _,QL0 (ek:=sk) ((jobs.getD i zG).user) c 0 (AsA.refl _),?_⟩|refine ⟨_,fun _=>⟨_,_,Qu6 rfl _ _,QL0 (ek:=sk) ((jobs.getD i zG).user) c 0 (AsA.refl _),rfl,rfl⟩,?_⟩|refine ⟨_,rfl,⟨_,_,Qu6 rfl _ _,QL0 (ek:=sk) ((jobs.getD i zG).user) c 0 (AsA.refl _),Sub.refl _,rfl⟩,?_⟩);apply ai<;>intro h12
    ·refine dchk (by kernel_rfl) ?_;(first|apply u2|apply u3|apply u4|apply us);exact Qla l ((jobs.getD i zG).user) szA szA _;refine ⟨_,_,⟨_,_,Qu6 rfl _ _,Qx6 (ek:=sk) ((jobs.getD i zG).user) (Q43 l (jobs.getD i zG).user) c rfl rfl,Sub.refl _,rfl⟩,?_⟩;(repeat ((first|refine ai rfl ?_|refine ai (fun _=>rfl) ?_|refine ai (fun _=>Qla l ((jobs.getD i zG).user) szA szA _) ?_)));(first|refine ⟨_,_,Qu6 rfl _ _,QL0 (ek:=sk) ((jobs.getD i zG).user) (setM (jobs.getD i zG).user (Q43 l (jobs.getD i zG).user) c) 0 (AsA.refl _),?_⟩|refine ⟨_,fun _=>⟨_,_,Qu6 rfl _ _,QL0 (ek:=sk) ((jobs.getD i zG).user) (setM (jobs.getD i zG).user (Q43 l (jobs.getD i zG).user) c) 0 (AsA.refl _),rfl,rfl⟩,?_⟩|refine ⟨_,rfl,⟨_,_,Qu6 rfl _ _,QL0 (ek:=sk) ((jobs.getD i zG).user) (setM (jobs.getD i zG).user (Q43 l (jobs.getD i zG).user) c) 0 (AsA.refl _),Sub.refl _,rfl⟩,?_⟩);refine Or.inl ?_;(first|refine ⟨Qd1 32 rfl lnA apA,?_⟩|refine ⟨QB0 32 rfl apA,?_⟩);exact QH1 (r_++([(⟨(jobs.getD i zG).id,(jobs.getD i zG).prio,((getM (jobs.getD i zG).user (setM (jobs.getD i zG).user (Q43 l (jobs.getD i zG).user) c)).getD 0),(jobs.getD i zG).id⟩:Ranked)]:List Ranked)) (i+1) (setM (jobs.getD i zG).user (Q43 l (jobs.getD i zG).user) c) (wkA [0,1]) omA ⟨foll hR (congrArg (fun p:(List Ranked) × (List (ByteArray × Int))=>Q73 p.1 p.2) (cf h10 (ct h12 rfl))),by exact omA,b12a0⟩
    ·(first|refine ⟨_,_,Qu6 rfl _ _,QL0 (ek:=sk) ((jobs.getD i zG).user) c 0 (AsA.refl _),?_⟩|refine ⟨_,fun _=>⟨_,_,Qu6 rfl _ _,QL0 (ek:=sk) ((jobs.getD i zG).user) c 0 (AsA.refl _),rfl,rfl⟩,?_⟩|refine ⟨_,rfl,⟨_,_,Qu6 rfl _ _,QL0 (ek:=sk) ((jobs.getD i zG).user) c 0 (AsA.refl _),Sub.refl _,rfl⟩,?_⟩);refine Or.inl ?_;(first|refine ⟨Qd1 32 rfl lnA apA,?_⟩|refine ⟨QB0 32 rfl apA,?_⟩);exact QH1 (r_++([(⟨(jobs.getD i zG).id,(jobs.getD i zG).prio,((getM (jobs.getD i zG).user c).getD 0),(jobs.getD i zG).id⟩:Ranked)]:List Ranked)) (i+1) c (wkA [0,1]) omA ⟨foll hR (congrArg (fun p:(List Ranked) × (List (ByteArray × Int))=>Q73 p.1 p.2) (cf h10 (cf h12 rfl))),by exact omA,b12a0⟩
  ·rw [Qh0 (l:=jobs) (j:=i) (geA h3)] at hR;replace hR:Q73 r_ c=R:=fo2 (fun p:(List Ranked) × (List (ByteArray × Int))=>Q73 p.1 p.2) (r_,c) hR rfl;refine ACalls.of_cwp (fun _=>true) Tryz.func220 rfl rfl ?_;refine us (mv [1] (Qsc r_ szA (by exact hx.1)) (dO (dr eqA) .nil) (dv (QP3 rfl lnA) (dv (Qo3 (Low.fn _ _ _ LowL.nil LowL.nil)) .nil)) (rO rr .nil) rx) ?_;have hrl:=QXc r_;rw [← hrl];refine Qu0 (fun (out:List Int) (i1:Nat)=>Qs4 (Q63 r_ (List.drop i1 (QL3 r_)) out i1)=R∧i1<=(QL3 r_).length∧out.length<=i1) (fun out i1=>(QL3 r_).length - i1) (fun out i1=>[(2,AVal.lit (.slice none 0 0)),(3,AVal.own 2 0 1 0 out.length),(8,AVal.own 1 0 4 0 ((QL3 r_).length)),(9,I ((QL3 r_).length:Int)),(10,I (i1:Int))]) (fun out i1=>[(0,AObj.other (.map (mapEs sk I 0 c) c.length)),(0,AObj.row 266 4 ((QL3 r_).map Ranked.cells)),(0,AObj.row 3 1 (out.map (fun q_=>[I q_])))]) [] 0 ((QA1 3 1).trans (wkA [0,1,2])) ⟨foll hR rfl,by exact omA,b12a0⟩ ?_;clear hR;rintro out i1 ⟨hR,hj,hx⟩;(try dsimp only at hR hj hx);apply ai<;>intro h14
   ·have hlt:=ltA h14;rw [Qd0 zO hlt] at hR;refine ai gkA ?_;refine ⟨_,Qf0 rfl rfl rfl (Qo0 zO i1 (by first|rfl|exact yda _|omega) ckA) rfl,?_⟩;refine Or.inl ?_;(first|refine ⟨Qd1 8 rfl lnA apA,?_⟩|refine ⟨QB0 8 rfl apA,?_⟩);exact Qc0 (out++([((QL3 r_).getD i1 zO).what]:List Int)) (i1+1) (wkA [0,1,2]) omA ⟨foll hR (congrArg (fun p:(List Int)=>Qs4 p) rfl),by exact omA,b12a0⟩
   ·rw [Qh0 (l:=(QL3 r_)) (j:=i1) (geA h14)] at hR;replace hR:Qs4 out=R:=fo2 (fun p:(List Int)=>Qs4 p) (out) hR rfl;refine ⟨_,_,Told.refl,?_⟩;obtain rfl:=foll hR rfl;exact Q60 lw (Qa0 0 _ rfl eqA lnA)
theorem QV7 (l:List Usage) (ids:List Int):∀ (r:List Job) (o:List Ranked) (i:Nat) (c:List (ByteArray × Int)),(QZ1 l ids r o i c).1.length<=o.length+r.length
 | [],o,i,c=>by simp [QZ1]
 | x :: r,o,i,c=>by
  have h1:=fun o' c'=>QV7 l ids r o' (i+1) c'
  rw [QZ1]
  repeat' first|exact yea (h1 _ _) (by simp only [yLa,yma,y0a];omega)|(rw [yka];split)
theorem QW7 (R:List Ranked):∀ (r:List Ranked) (out:List Int) (i:Nat),(Q63 R r out i).length=out.length+r.length
 | [],out,i=>by simp [Q63]
 | x :: r,out,i=>by rw [Q63,QW7 R r];simp;omega
theorem Q16 (jobs:List Job) (l:List Usage) (ids:List Int):(QC0 jobs l ids).length<=jobs.length:=by
 unfold QC0 Q73 Qs4;cases ((Qi0 jobs)!=0) with
 | true=>simp
 | false =>
  have h:=QV7 l ids jobs [] 0 [];simp only [cond_false];rw [QW7,QXc];simpa using h
def Qo5 :List Job->Nat->List (Int × Int)->(List (Int × Int))
 | [],_,c=>c
 | x_1 :: r,i1,c=>Qo5 r (i1+1) (setM x_1.id x_1.state c)
def QQ2 (c:List (Int × Int)):List Job->List Int->Nat->(List Int)
 | [],out,_=>out
 | x_2 :: r,out,i2=>bif (((false||(x_2.state != 1))||x_2.held)||(!(Qr7 c x_2))) then QQ2 c r out (i2+1) else QQ2 c r (out++([x_2.id]:List Int)) (i2+1)
def Qi3 (out:List Int):(List Int):=out
def Qa4 (l:List Job) (c:List (Int × Int)):(List Int):=Qi3 (QQ2 c l [] 0)
def Qg0 (l:List Job):(List Int):=bif ((Qi0 l)!=0) then [] else Qa4 l (Qo5 l 0 [])
theorem QN5 (l:List Job) (hs0:l.length<=4294967296∧(∀ y ∈ l,y.sz)):GV 176 [jobL l] (ints (Qg0 l)):=by
 generalize hR:Qg0 l=R;refine gA (kp 7 [9,10,11,12,31]) Tryz.func176 ?_;obtain ⟨z26,z27⟩:=id hs0;refine ACalls.of_cwp (fun _=>true) Tryz.func107 rfl rfl ?_;refine us (Qv3 l szA _) ?_;apply ai<;>intro h1
 ·refine ⟨_,_,Told.refl,?_⟩;refine Qk0 (fun (i:Nat)=>True∧i<=l.length) (fun i=>l.length - i) (fun i=>[(2,AVal.lit (.slice none 0 0)),(3,AVal.lit (.map none)),(4,AVal.lit (.slice none 0 0)),(9,jobL l),(10,I (l.length:Int)),(11,I (i:Int))]) (fun i=>[]) 0 (wkA []) ⟨trivial,by exact omA⟩ ?_;have hR0:=hR;rintro i ⟨hR,hj⟩;(try dsimp only at hR hj);apply ai<;>intro h3
  ·have hlt:=ltA h3;have hxz:(l.getD i zG).sz:=QB1 (by first|assumption|grind) (Job.szz _);have hkz:=hxz;obtain ⟨z5,z6,z7,z8,z9⟩:=Job.zz hxz;refine ai gkA ?_;(first|refine ⟨Bo false,_,fun h=>absurd h (by decide),fun _=>rfl,?_⟩|refine ⟨Bo false,fun h=>absurd h (by decide),?_⟩|refine ⟨Bo false,_,fun h=>absurd h (by simp),fun _=>rfl,?_⟩|refine ⟨Bo false,fun h=>absurd h (by simp),?_⟩);refine ai (fun _=>?_) (fun h=>nomatch h);exact Qr0 (i+1) (wkA []) omA ⟨hR,by exact omA⟩
  ·skip;have hR:=hR0;exact lfA
 ·refine Qu0 (fun (i1:Nat) (c:List (Int × Int))=>Qa4 l (Qo5 (List.drop i1 l) i1 c)=R∧i1<=l.length) (fun i1 c=>l.length - i1) (fun i1 c=>[(2,AVal.lit (.map none)),(3,AVal.map 0),(10,jobL l),(11,I (l.length:Int)),(12,I (i1:Int))]) (fun i1 c=>[(0,AObj.other (.map (mapEs ik I 0 c) c.length))]) 0 [] (wkA [0]) ⟨folA,by exact omA⟩ ?_;clear hR;rintro i1 c ⟨hR,hj⟩;(try dsimp only at hR hj);apply ai<;>intro h10
  ·have hlt:=ltA h10;rw [Qd0 zG hlt] at hR;have hxz:(l.getD i1 zG).sz:=QB1 (by first|assumption|grind) (Job.szz _);have hkz:=hxz;obtain ⟨z12,z13,z14,z15,z16⟩:=Job.zz hxz;refine ai gkA ?_;refine ⟨_,_,Qc1 rfl _ _,Qx6 (ek:=ik) ((l.getD i1 zG).id) ((l.getD i1 zG).state) c rfl rfl,?_⟩;exact Qc0 (i1+1) (setM (l.getD i1 zG).id (l.getD i1 zG).state c) (wkA [0]) omA ⟨foll hR (congrArg (fun p:(List (Int × Int))=>Qa4 l p) rfl),by exact omA⟩
  ·rw [Qh0 (l:=l) (j:=i1) (geA h10)] at hR;replace hR:Qa4 l c=R:=fo2 (fun p:(List (Int × Int))=>Qa4 l p) (c) hR rfl;refine ⟨_,_,Told.refl,?_⟩;refine Qu0 (fun (out:List Int) (i2:Nat)=>Qi3 (QQ2 c (List.drop i2 l) out i2)=R∧i2<=l.length∧out.length<=i2) (fun out i2=>l.length - i2) (fun out i2=>[(2,AVal.lit (.slice none 0 0)),(3,AVal.map 0),(4,AVal.own 1 0 1 0 out.length),(9,jobL l),(10,I (l.length:Int)),(11,I (i2:Int))]) (fun out i2=>[(0,AObj.other (.map (mapEs ik I 0 c) c.length)),(0,AObj.row 3 1 (out.map (fun q_=>[I q_])))]) [] 0 ((QA1 3 1).trans (wkA [0,1])) ⟨foll hR rfl,by exact omA,by exact exA⟩ ?_;clear hR;rintro out i2 ⟨hR,hj,hx⟩;(try dsimp only at hR hj hx);apply ai<;>intro h17
   ·have hlt:=ltA h17;rw [Qd0 zG hlt] at hR;have hxz:(l.getD i2 zG).sz:=QB1 (by first|assumption|grind) (Job.szz _);have hkz:=hxz;obtain ⟨z19,z20,z21,z22,z23⟩:=Job.zz hxz;refine ai gkA ?_;(first|apply u2|apply u3|apply u4|apply us);exact mv [0] (Q1c c (l.getD i2 zG) szA) (dO (.same _ (Qd3 fun _=>lx)) .nil) (dv (Qha (Ren.map _ _ rfl)) (dv (Qo3 (Low.agg' (Job.lo))) .nil)) (rO (RenO.same _ (Qd3 fun _=>lx)) .nil) rx;apply ai<;>intro h24
    ·exact Qc0 out (i2+1) (wkA [0,1]) omA ⟨foll hR (congrArg (fun p:(List Int)=>Qi3 p) (ct h24 rfl)),by exact omA,by exact exA⟩
    ·refine Or.inl ?_;(first|refine ⟨Qd1 8 rfl lnA apA,?_⟩|refine ⟨QB0 8 rfl apA,?_⟩);exact Qc0 (out++([(l.getD i2 zG).id]:List Int)) (i2+1) (wkA [0,1]) omA ⟨foll hR (congrArg (fun p:(List Int)=>Qi3 p) (cf h24 rfl)),by exact omA,by exact exA⟩
   ·rw [Qh0 (l:=l) (j:=i2) (geA h17)] at hR;replace hR:Qi3 out=R:=fo2 (fun p:(List Int)=>Qi3 p) (out) hR rfl;obtain rfl:=foll hR rfl;exact Q60 lw (Qa0 0 _ rfl eqA lnA)
theorem Qd5 (c:List (Int × Int)):∀ (r:List Job) (out:List Int) (i:Nat),(QQ2 c r out i).length<=out.length+r.length
 | [],out,i=>by simp [QQ2]
 | x :: r,out,i=>by
  have h1:=Qd5 c r out (i+1);have h2:=Qd5 c r (out++([x.id]:List Int)) (i+1);rw [QQ2,yka];simp only [yma,yLa,y0a] at *;split <;> omega
theorem Qo8 (l:List Job):(Qg0 l).length<=l.length:=by
 unfold Qg0;cases ((Qi0 l)!=0) with
 | true=>simp
 | false=>have h:=Qd5 (Qo5 l 0 []) l [] 0;rw [y0a,yda] at h;exact h
def Q12 (s:State):Int:=bif (((QY3 s)!=0)||((QO7 s.ledger)!=0)) then 141 else 0
theorem QN6 (s:State) (hs0:s.sz):GV 17 [State.a s] (I (Q12 s)):=by
 generalize hR:Q12 s=R;refine gA (kp 3 [11]) Tryz.func17 ?_;have hk0:=hs0;obtain ⟨z3,z4,z5,z6,z7,z8,z9⟩:=hs0;refine us (Q0d s szA _) ?_;(first|apply u2|apply u3|apply u4|apply us);exact Qka s.ledger szA _;apply ai<;>intro h1
 ·exact lfA
 ·exact lfA
theorem setM_sz (k:Int) (v:Job):∀ (l:List (Int × Job)),(∀ y ∈ l,y.2.sz)->v.sz -> ∀ y ∈ setM k v l,y.2.sz
 | [],_,hv,y,hy=>by
  rw [setM,List.mem_singleton] at hy;subst hy;exact hv
 | p :: r,h,hv,y,hy=>by
  rw [setM] at hy;cases hk:(k==p.1) with
  | true =>
   rw [hk] at hy;rcases List.mem_cons.1 hy with rfl|hy
   ·exact hv
   ·exact h y (ywa _ hy)
  | false =>
   rw [hk] at hy;rcases List.mem_cons.1 hy with rfl|hy
   ·exact h _ (yIa ..)
   ·exact setM_sz k v r (fun z hz=>h z (ywa _ hz)) hv y hy
theorem getM_sz (k:Int):∀ (l:List (Int × Job)),(∀ y ∈ l,y.2.sz)->((getM k l).getD zG).sz
 | [],_=>Job.szz _
 | p :: r,h=>by
  rw [getM];cases (k==p.1) with
  | true=>exact h p (yIa ..)
  | false=>exact getM_sz k r fun z hz=>h z (ywa _ hz)
def QM7 :List Job->Nat->List (Int × Int)->(List (Int × Int))
 | [],_,c=>c
 | x_ :: r,i,c=>QM7 r (i+1) (setM x_.id x_.state c)
def QL1 :List Job->List Job->List Int->Nat->List (Int × Int)->(List Job) × (List Int) × (List (Int × Int))
 | [],l2,out,_,c2=>(l2,out,c2)
 | x_1 :: r,l2,out,i1,c2=>bif ((x_1.state != 1)||(!(Qp5 c2 x_1))) then QL1 r l2 out (i1+1) c2 else bif ((QI2 x_1 6).2 != 0) then QL1 r l2 out (i1+1) c2 else QL1 r ((Qb1 l2 ((QI2 x_1 6).1)).1) (out++([x_1.id]:List Int)) (i1+1) (setM x_1.id ((QI2 x_1 6).1.state) c2)
def Qm3 (l2:List Job) (out:List Int) (c2:List (Int × Int)):(List Job) × (List Int):=(l2,out)
def QP4 (l:List Job) (c:List (Int × Int)):(List Job) × (List Int):=Qm3 ((QL1 l l [] 0 c).1) ((QL1 l l [] 0 c).2.1) ((QL1 l l [] 0 c).2.2)
def QU0 (l:List Job):(List Job) × (List Int):=bif ((Qi0 l)!=0) then ([],[]) else QP4 l (QM7 l 0 [])
theorem b13a1 {P:Prop} (h:P:=by first|((exact hx.1))|first|((exact hx.2))|first|((exact Qd6 (by assumption) _))|first|((exact Qd6 hkz _))|exact szA):P:=h
theorem b13a3 {P:Prop} (h:P:=by first|((exact ⟨by omega,by assumption⟩))|first|((exact ⟨by simp;omega,Q72 hx.2 (Qd6 hkz _)⟩))|first|((exact ⟨Q72 hx.1 (Qd6 hkz _),by simp;omega⟩))|exact exA):P:=h
theorem deps_Doom_c (l:List Job) (hs0:l.length<=4294967296∧(∀ y ∈ l,y.sz)):GV 62 [jobL l] (AVal.tup [jobL ((QU0 l).1),ints ((QU0 l).2)]):=by
 generalize hR:QU0 l=R;refine gA (kp 12 [15,16,17,18,19,30,37,59,60,61]) Tryz.func62 ?_;obtain ⟨z28,z29⟩:=id hs0;refine ACalls.of_cwp (fun _=>true) Tryz.func107 rfl rfl ?_;refine us (Qv3 l b13a1 _) ?_;apply ai<;>intro h1
 ·refine ⟨_,_,Told.refl,?_⟩;refine ai (fun _=>?_) (fun h=>nomatch h);exact lfA
 ·refine Qu0 (fun (i:Nat) (c:List (Int × Int))=>QP4 l (QM7 (List.drop i l) i c)=R∧i<=l.length) (fun i c=>l.length - i) (fun i c=>[(2,AVal.lit (.map none)),(3,AVal.map 0),(10,jobL l),(11,I (l.length:Int)),(12,I (i:Int))]) (fun i c=>[(0,AObj.other (.map (mapEs ik I 0 c) c.length))]) 0 [] (wkA [0]) ⟨folA,by exact omA⟩ ?_;clear hR;rintro i c ⟨hR,hj⟩;(try dsimp only at hR hj);apply ai<;>intro h3
  ·have hlt:=ltA h3;rw [Qd0 zG hlt] at hR;have hxz:(l.getD i zG).sz:=QB1 (by first|assumption|grind) (Job.szz _);have hkz:=hxz;obtain ⟨z5,z6,z7,z8,z9⟩:=Job.zz hxz;refine ai gkA ?_;refine ⟨_,_,Qc1 rfl _ _,Qx6 (ek:=ik) ((l.getD i zG).id) ((l.getD i zG).state) c rfl rfl,?_⟩;exact Qc0 (i+1) (setM (l.getD i zG).id (l.getD i zG).state c) (wkA [0]) omA ⟨foll hR (congrArg (fun p:(List (Int × Int))=>QP4 l p) rfl),by exact omA⟩
  ·rw [Qh0 (l:=l) (j:=i) (geA h3)] at hR;replace hR:QP4 l c=R:=fo2 (fun p:(List (Int × Int))=>QP4 l p) (c) hR rfl;refine ⟨_,_,Told.refl,?_⟩;refine ai (fun h=>nomatch h) (fun _=>?_);refine QIa (fun (l2:List Job) (out:List Int) (i1:Nat) (c2:List (Int × Int))=>Qm3 (QL1 (List.drop i1 l) l2 out i1 c2).1 (QL1 (List.drop i1 l) l2 out i1 c2).2.1 (QL1 (List.drop i1 l) l2 out i1 c2).2.2=R∧i1<=l.length∧(l2.length<=4294967296 ∧ ∀ y ∈ l2,y.sz)∧out.length<=i1) (fun l2 out i1 c2=>l.length - i1) (fun l2 out i1 c2=>[(0,jobL l2),(2,AVal.lit (.slice none 0 0)),(3,AVal.lit (.slice none 0 0)),(4,AVal.map 0),(5,AVal.own 1 0 1 0 out.length),(16,jobL l),(17,I (l.length:Int)),(18,I (i1:Int))]) (fun l2 out i1 c2=>[(0,AObj.other (.map (mapEs ik I 0 c2) c2.length)),(0,AObj.row 3 1 (out.map (fun q_=>[I q_])))]) l [] 0 c ((QA1 3 1).trans (wkA [0,1])) ⟨foll hR rfl,by exact omA,b13a3⟩ ?_;clear hR;rintro l2 out i1 c2 ⟨hR,hj,hx⟩;(try dsimp only at hR hj hx);apply ai<;>intro h10
   ·have hlt:=ltA h10;rw [Qd0 zG hlt] at hR;have hxz:(l.getD i1 zG).sz:=QB1 (by first|assumption|grind) (Job.szz _);have hkz:=hxz;obtain ⟨z12,z13,z14,z15,z16⟩:=Job.zz hxz;refine ai gkA ?_;(first|apply u2|apply u3|apply u4|apply us);exact mv [0] (Q5b c2 (l.getD i1 zG) b13a1) (dO (.same _ (Qd3 fun _=>lx)) .nil) (dv (Qha (Ren.map _ _ rfl)) (dv (Qo3 (Low.agg' (Job.lo))) .nil)) (rO (RenO.same _ (Qd3 fun _=>lx)) .nil) rx;apply ai<;>intro h17
    ·exact QT3 l2 out (i1+1) c2 (wkA [0,1]) omA ⟨foll hR (congrArg (fun p:(List Job) × (List Int) × (List (Int × Int))=>Qm3 p.1 p.2.1 p.2.2) (ct h17 rfl)),by exact omA,b13a3⟩
    ·refine us (job_End_c (l.getD i1 zG) 6 b13a1 _) ?_;apply ai<;>intro h19
     ·exact QT3 l2 out (i1+1) c2 (wkA [0,1]) omA ⟨foll hR (congrArg (fun p:(List Job) × (List Int) × (List (Int × Int))=>Qm3 p.1 p.2.1 p.2.2) (cf h17 (ct h19 rfl))),by exact omA,b13a3⟩
     ·refine us (QX1 l2 ((QI2 (l.getD i1 zG) 6).1) b13a1 b13a1 _) ?_;refine ⟨_,_,Qc1 rfl _ _,Qx6 (ek:=ik) ((l.getD i1 zG).id) ((QI2 (l.getD i1 zG) 6).1.state) c2 rfl rfl,?_⟩;refine Or.inl ?_;(first|refine ⟨Qd1 8 rfl lnA apA,?_⟩|refine ⟨QB0 8 rfl apA,?_⟩);exact QT3 ((Qb1 l2 ((QI2 (l.getD i1 zG) 6).1)).1) (out++([(l.getD i1 zG).id]:List Int)) (i1+1) (setM (l.getD i1 zG).id ((QI2 (l.getD i1 zG) 6).1.state) c2) (wkA [0,1]) omA ⟨foll hR (congrArg (fun p:(List Job) × (List Int) × (List (Int × Int))=>Qm3 p.1 p.2.1 p.2.2) (cf h17 (cf h19 rfl))),by exact omA,b13a3⟩
   ·rw [Qh0 (l:=l) (j:=i1) (geA h10)] at hR;replace hR:Qm3 l2 out c2=R:=fo2 (fun p:(List Job) × (List Int) × (List (Int × Int))=>Qm3 p.1 p.2.1 p.2.2) (l2,out,c2) hR rfl;(first|refine ⟨Qd1 216 rfl lnA apA,?_⟩|refine ⟨QB0 216 rfl apA,?_⟩);refine Qk0 (fun (i2:Nat)=>True∧i2<=l2.length) (fun i2=>l2.length - i2) (fun i2=>[(2,AVal.lit (.slice none 0 0)),(3,AVal.lit (.slice none 0 0)),(5,AVal.own 0 0 1 0 out.length),(10,AVal.own 1 0 20 0 l2.length),(59,I (l2.length:Int)),(60,I (i2:Int))]) (fun i2=>[(0,AObj.row 3 1 (out.map (fun q_=>[I q_]))),(0,AObj.row 55 20 (l2.map Job.cells))]) 0 (wk [1,2] (tO rfl (tl eqA) (tO rfl (tl eqA) .nil)) (s1 (s1 (sv (to 0 lnA) (sv (to 1 lnA) (sv (turn_eq (I_eq (by first|rfl|simp)) lx) (s1 .nil))))))) ⟨trivial,by exact omA⟩ ?_;have hR0:=hR;rintro i2 ⟨hR,hj⟩;(try dsimp only at hR hj);apply ai<;>intro h21
    ·have hlt:=ltA h21;have hxz:(l2.getD i2 zG).sz:=QB1 (by first|assumption|grind) (Job.szz _);have hkz:=hxz;obtain ⟨z23,z24,z25,z26,z27⟩:=Job.zz hxz;refine ai gkA ?_;refine ⟨_,Qf0 rfl rfl rfl (Qo0 zG i2 (by first|rfl|exact yda _|omega) ckA) rfl,?_⟩;(first|refine ⟨Qd1 16 rfl lnA apA,?_⟩|refine ⟨QB0 16 rfl apA,?_⟩);refine ai gkA ?_;refine ⟨_,QV0 rfl rfl rfl rfl (Qo0 zG i2 (by first|rfl|exact yda _|omega) ckA) rfl rfl rfl,?_⟩;refine ai gkA ?_;refine ⟨_,Qf0 rfl rfl rfl (elemI_set i2 (by first|rfl|exact yda _|omega) ckA) rfl,?_⟩;(first|refine ⟨Qd1 16 rfl lnA apA,?_⟩|refine ⟨QB0 16 rfl apA,?_⟩);refine ai gkA ?_;refine ⟨_,QV0 rfl rfl rfl rfl (elemI_set i2 (by first|rfl|exact yda _|omega) ckA) rfl rfl (List.set_set ..),?_⟩;exact Qr0 (i2+1) (wk [0,1] (tO rfl (tl eqA) (tO rfl (turn_rowset i2 (l2.getD i2 zG) (by first|rfl|exact yda _|omega) (by first|exact set_self _ _ _|exact eqA) (fun _=>Job.lowc _ _) (c1 (c1 (c1 (c1 (c1 (cv (Qn7 _ _ rfl (yna _) (by decide) eqA (fun _=>Alt.lowc _ _) lnA) (c1 (c1 (c1 (c1 (cv (Qn7 _ _ rfl (yna _) (by decide) eqA (fun _=>Dep.lowc _ _) lnA) (c1 (c1 (c1 (c1 (c1 (c1 (c1 (c1 (c1 .nil))))))))))))))))))))) .nil)) (s1 (s1 (sv (to 0 lnA) (sv (to 1 lnA) (sv (turn_eq (I_eq (by first|rfl|simp)) lx) (sv (turn_eq (I_eq (wr omA)) lx) .nil))))))) omA ⟨hR,by exact omA⟩
    ·skip;have hR:=hR0;obtain rfl:=foll hR rfl;exact Q60 (Low.tup' (.cons lw (.cons lw .nil))) (Seen.tup (ev (Qa0 zG _ rfl eqA lnA) (ev (Qa0 0 _ rfl eqA lnA) .nil)))
def Qe2 (now:List Job):List Job->List Int->Nat->(List Int)
 | [],out,_=>out
 | x_ :: r,out,i=>bif (((((Q70 now x_.id).2&&(x_.state==1))&&((Q70 now x_.id).1.state==1))&&(decide (x_.promise >= 0)))&&((decide ((Q70 now x_.id).1.promise<0))||(decide ((Q70 now x_.id).1.promise > x_.promise)))) then Qe2 now r (out++([x_.id]:List Int)) (i+1) else Qe2 now r out (i+1)
def Qw2 (out:List Int):(List Int):=out
def QY0 (was:List Job) (now:List Job):(List Int):=bif (((Qi0 was)!=0)||((Qi0 now)!=0)) then [] else Qw2 (Qe2 now was [] 0)
theorem QKe (was:List Job) (now:List Job) (hs0:was.length<=4294967296∧(∀ y ∈ was,y.sz)) (hs1:now.length<=4294967296∧(∀ y ∈ now,y.sz)):GV 12 [jobL was,jobL now] (ints (QY0 was now)):=by
 generalize hR:QY0 was now=R;refine gA (kp 11 [18,19,20,21,22,60]) Tryz.func12 ?_;obtain ⟨z12,z13⟩:=id hs0;obtain ⟨z14,z15⟩:=id hs1;refine us (Qv3 was szA _) ?_;(first|apply u2|apply u3|apply u4|apply us);exact Qv3 now szA _;apply ai<;>intro h1
 ·exact lfA
 ·refine Qu0 (fun (out:List Int) (i:Nat)=>Qw2 (Qe2 now (List.drop i was) out i)=R∧i<=was.length∧out.length<=i) (fun out i=>was.length - i) (fun out i=>[(1,jobL now),(4,AVal.lit (.slice none 0 0)),(5,AVal.own 0 0 1 0 out.length),(19,jobL was),(20,I (was.length:Int)),(21,I (i:Int))]) (fun out i=>[(0,AObj.row 3 1 (out.map (fun q_=>[I q_])))]) [] 0 ((QA1 3 1).trans (wkA [0])) ⟨folA,by exact omA,by exact exA⟩ ?_;clear hR;rintro out i ⟨hR,hj,hx⟩;(try dsimp only at hR hj hx);apply ai<;>intro h3
  ·have hlt:=ltA h3;rw [Qd0 zG hlt] at hR;have hxz:(was.getD i zG).sz:=QB1 (by first|assumption|grind) (Job.szz _);have hkz:=hxz;obtain ⟨z5,z6,z7,z8,z9⟩:=Job.zz hxz;refine ai gkA ?_;refine us (QW1 now ((was.getD i zG).id) szA _) ?_;apply ai<;>intro h10
   ·refine Or.inl ?_;(first|refine ⟨Qd1 8 rfl lnA apA,?_⟩|refine ⟨QB0 8 rfl apA,?_⟩);exact Qc0 (out++([(was.getD i zG).id]:List Int)) (i+1) (wkA [0]) omA ⟨foll hR (congrArg (fun p:(List Int)=>Qw2 p) (ct h10 rfl)),by exact omA,by exact exA⟩
   ·exact Qc0 out (i+1) (wkA [0]) omA ⟨foll hR (congrArg (fun p:(List Int)=>Qw2 p) (cf h10 rfl)),by exact omA,by exact exA⟩
  ·rw [Qh0 (l:=was) (j:=i) (geA h3)] at hR;replace hR:Qw2 out=R:=fo2 (fun p:(List Int)=>Qw2 p) (out) hR rfl;obtain rfl:=foll hR rfl;exact Q60 lw (Qa0 0 _ rfl eqA lnA)
theorem Q67 (now:List Job):∀ (r:List Job) (out:List Int) (i:Nat),(Qe2 now r out i).length<=out.length+r.length
 | [],out,i=>by simp [Qe2]
 | x :: r,out,i=>by
  have h1:=fun o'=>Q67 now r o' (i+1)
  rw [Qe2,yka];split <;> exact yea (h1 _) (by simp only [yLa,yma,y0a];omega)
theorem Qtc {a:List Job} (b:List Job) (h:a.length<=4294967296):(QY0 a b).length<=4294967296:=by
 unfold QY0;cases (((Qi0 a)!=0)||((Qi0 b)!=0)) with
 | true=>simp
 | false =>
  have h1:=Q67 b a [] 0;rw [y0a,yda] at h1;exact yea h1 h
def QG5 (s:State):List Node->List Int->Nat->List (Int × Int)->(List Int) × (List (Int × Int))
 | [],order,_,c=>(order,c)
 | x_ :: r,order,i,c=>bif (((getM (Qr1 x_ (QO0 s.jobs)) c).getD 0)==0) then QG5 s r (order++([(Qr1 x_ (QO0 s.jobs))]:List Int)) (i+1) (setM (Qr1 x_ (QO0 s.jobs)) (w64 (((getM (Qr1 x_ (QO0 s.jobs)) c).getD 0)+1)) c) else QG5 s r order (i+1) (setM (Qr1 x_ (QO0 s.jobs)) (w64 (((getM (Qr1 x_ (QO0 s.jobs)) c).getD 0)+1)) c)
def QP6 (order:List Int) (c:List (Int × Int)):List Int->Nat->Taken->Taken
 | [],_,c2=>c2
 | _ :: r,i1,c2=>QP6 order c r (i1+1) (QG1 c2 0 ((sorted order).getD i1 0) ((getM ((sorted order).getD i1 0) c).getD 0))
def QH5 (c2:Taken):(List Step):=c2.p
def QY4 (s:State) (order:List Int) (c:List (Int × Int)):(List Step):=QH5 (QP6 order c (sorted order) 0 (⟨(QW4 (QQ0 (QN8 s.nodes)))⟩:Taken))
def QO6 (s:State):(List Step):=bif ((QY3 s)!=0) then [] else QY4 s ((QG5 s s.nodes [] 0 []).1) ((QG5 s s.nodes [] 0 []).2)
theorem b13a2 {P:Prop} (h:P:=by first|(exact ⟨.inr ⟨rfl,rfl⟩,yia _⟩)|first|(exact ⟨.inl (by simp),by simp;omega⟩)|first|(exact ⟨.inl (busy_ne hx.1 (by assumption)),by omega⟩)|first|(((try dsimp only);exact Qe9 (by assumption)))|first|(((try dsimp only);exact Qe9 hx))|first|(exact flat_len _)|exact exA):P:=h
theorem room_Busy_c (s:State) (hs0:s.sz):GV 203 [State.a s] (stepL (QO6 s)):=by
 generalize hR:QO6 s=R;refine gA (kp 12 [14,27,28,29,30,39,51,52,53,54]) Tryz.func203 ?_;have hk0:=hs0;obtain ⟨z9,z10,z11,z12,z13,z14,z15⟩:=hs0;refine us (Q0d s szA _) ?_;apply ai<;>intro h1
 ·exact lfA
 ·refine us (fleet_Up_c s.nodes szA _) ?_;refine us (Qy1 (QN8 s.nodes) _) ?_;refine us (profile_Flat_c (QQ0 (QN8 s.nodes)) _) ?_;refine us (mv [] (room_limits_o s.jobs szA) .nil (dl lw .nil) (rO (RenO.same _ (Qd3 fun _=>lx)) .nil) (Ren.map _ _ rfl)) ?_;refine QT4 (fun (order:List Int) (i:Nat) (c:List (Int × Int))=>QY4 s (QG5 s (List.drop i s.nodes) order i c).1 (QG5 s (List.drop i s.nodes) order i c).2=R∧i<=s.nodes.length∧(order ≠ []∨(i=0∧c=[]))∧order.length<=i) (fun order i c=>s.nodes.length - i) (fun order i c=>[(2,AVal.lit (.slice none 0 0)),(3,AVal.ptr 0 0 1 0 0),(4,AVal.map 1),(5,AVal.map 2),(6,AVal.own 3 0 1 0 order.length),(27,nodeL s.nodes),(28,I (s.nodes.length:Int)),(29,I (i:Int))]) (fun order i c=>[(0,AObj.row 251 1 [[stepL (QW4 (QQ0 (QN8 s.nodes)))]]),(0,AObj.other (.map (mapEs ik I 0 c) c.length)),(0,AObj.other (.map (mapEs ik I 0 (QO0 s.jobs)) (QO0 s.jobs).length)),(0,AObj.row 3 1 (order.map (fun q_=>[I q_])))]) [] 0 [] ((QA1 3 1).trans (wkA [1,2,3,4])) ⟨folA,by exact omA,b13a2⟩ ?_;clear hR;rintro order i c ⟨hR,hj,hx⟩;(try dsimp only at hR hj hx);apply ai<;>intro h3
  ·have hlt:=ltA h3;rw [Qd0 zF hlt] at hR;refine ai gkA ?_;refine us (mv [2] (room_until_c (s.nodes.getD i zF) (QO0 s.jobs)) (dO (.same _ (Qd3 fun _=>lx)) .nil) (dv (Qo3 (Low.agg' (Node.lo))) (dv (Qha (Ren.map _ _ rfl)) .nil)) (rO (RenO.same _ (Qd3 fun _=>lx)) .nil) rx) ?_;(first|refine ⟨_,_,Qc1 rfl _ _,QL0 (ek:=ik) (Qr1 (s.nodes.getD i zF) (QO0 s.jobs)) c 0 (AsA.refl _),?_⟩|refine ⟨_,fun _=>⟨_,_,Qc1 rfl _ _,QL0 (ek:=ik) (Qr1 (s.nodes.getD i zF) (QO0 s.jobs)) c 0 (AsA.refl _),rfl,rfl⟩,?_⟩|refine ⟨_,rfl,⟨_,_,Qc1 rfl _ _,QL0 (ek:=ik) (Qr1 (s.nodes.getD i zF) (QO0 s.jobs)) c 0 (AsA.refl _),Sub.refl _,rfl⟩,?_⟩);apply ai<;>intro h5
   ·refine Or.inl ?_;(first|refine ⟨Qd1 8 rfl lnA apA,?_⟩|refine ⟨QB0 8 rfl apA,?_⟩);(first|refine ⟨_,_,Qc1 rfl _ _,QL0 (ek:=ik) (Qr1 (s.nodes.getD i zF) (QO0 s.jobs)) c 0 (AsA.refl _),?_⟩|refine ⟨_,fun _=>⟨_,_,Qc1 rfl _ _,QL0 (ek:=ik) (Qr1 (s.nodes.getD i zF) (QO0 s.jobs)) c 0 (AsA.refl _),rfl,rfl⟩,?_⟩|refine ⟨_,rfl,⟨_,_,Qc1 rfl _ _,QL0 (ek:=ik) (Qr1 (s.nodes.getD i zF) (QO0 s.jobs)) c 0 (AsA.refl _),Sub.refl _,rfl⟩,?_⟩);refine ⟨_,_,Qc1 rfl _ _,Qx6 (ek:=ik) (Qr1 (s.nodes.getD i zF) (QO0 s.jobs)) (w64 (((getM (Qr1 (s.nodes.getD i zF) (QO0 s.jobs)) c).getD 0)+1)) c rfl rfl,?_⟩;exact QH1 (order++([(Qr1 (s.nodes.getD i zF) (QO0 s.jobs))]:List Int)) (i+1) (setM (Qr1 (s.nodes.getD i zF) (QO0 s.jobs)) (w64 (((getM (Qr1 (s.nodes.getD i zF) (QO0 s.jobs)) c).getD 0)+1)) c) (wkA [0,1,2,3]) omA ⟨foll hR (congrArg (fun p:(List Int) × (List (Int × Int))=>QY4 s p.1 p.2) (ct h5 rfl)),by exact omA,b13a2⟩
   ·(first|refine ⟨_,_,Qc1 rfl _ _,QL0 (ek:=ik) (Qr1 (s.nodes.getD i zF) (QO0 s.jobs)) c 0 (AsA.refl _),?_⟩|refine ⟨_,fun _=>⟨_,_,Qc1 rfl _ _,QL0 (ek:=ik) (Qr1 (s.nodes.getD i zF) (QO0 s.jobs)) c 0 (AsA.refl _),rfl,rfl⟩,?_⟩|refine ⟨_,rfl,⟨_,_,Qc1 rfl _ _,QL0 (ek:=ik) (Qr1 (s.nodes.getD i zF) (QO0 s.jobs)) c 0 (AsA.refl _),Sub.refl _,rfl⟩,?_⟩);refine ⟨_,_,Qc1 rfl _ _,Qx6 (ek:=ik) (Qr1 (s.nodes.getD i zF) (QO0 s.jobs)) (w64 (((getM (Qr1 (s.nodes.getD i zF) (QO0 s.jobs)) c).getD 0)+1)) c rfl rfl,?_⟩;exact QH1 order (i+1) (setM (Qr1 (s.nodes.getD i zF) (QO0 s.jobs)) (w64 (((getM (Qr1 (s.nodes.getD i zF) (QO0 s.jobs)) c).getD 0)+1)) c) (wkA [0,1,2,3]) omA ⟨foll hR (congrArg (fun p:(List Int) × (List (Int × Int))=>QY4 s p.1 p.2) (cf h5 rfl)),by exact omA,b13a2⟩
  ·rw [Qh0 (l:=s.nodes) (j:=i) (geA h3)] at hR;replace hR:QY4 s order c=R:=fo2 (fun p:(List Int) × (List (Int × Int))=>QY4 s p.1 p.2) (order,c) hR rfl;refine us (mv [3] (slices_Sort_c order szA (by exact busy_order (by assumption) hx.1 (by assumption))) (dO (dr eqA) .nil) (dv (QP3 rfl lnA) .nil) (rO rr .nil) rx) ?_;refine Qu0 (fun (i1:Nat) (c2:Taken)=>QH5 (QP6 order c (List.drop i1 (sorted order)) i1 c2)=R∧i1<=(sorted order).length∧c2.p.length<=4294967296) (fun i1 c2=>(sorted order).length - i1) (fun i1 c2=>[(2,AVal.lit (.slice none 0 0)),(3,AVal.ptr 0 0 1 0 0),(4,AVal.map 1),(51,AVal.own 2 0 1 0 ((sorted order).length)),(52,I ((sorted order).length:Int)),(53,I (i1:Int))]) (fun i1 c2=>[(0,AObj.row 251 1 [[stepL c2.p]]),(0,AObj.other (.map (mapEs ik I 0 c) c.length)),(0,AObj.row 3 1 ((sorted order).map (fun q_=>[I q_])))]) 0 (⟨(QW4 (QQ0 (QN8 s.nodes)))⟩:Taken) (wk [0,1,3] (tO rfl (ts Taken.lo) (tO rfl (Qz8 _ rfl rfl (fun _=>lx)) (tO rfl (tl eqA) .nil))) (s1 (sv (Qy0 0 rfl rfl) (sv (turn_map 1 rfl rfl) (sv (to 2 lnA) (sv (turn_eq (I_eq (by simp)) lx) (s1 .nil))))))) ⟨foll hR rfl,by exact omA,b13a2⟩ ?_;clear hR;rintro i1 c2 ⟨hR,hj,hx⟩;(try dsimp only at hR hj hx);apply ai<;>intro h7
   ·have hlt:=ltA h7;rw [Qd0 0 hlt] at hR;have hsl:=sorted_len order;refine ai gkA ?_;refine ⟨_,Qf0 rfl rfl rfl (Qo0 0 i1 (by first|rfl|exact yda _|omega) ckA) rfl,?_⟩;(first|refine ⟨_,_,Qc1 rfl _ _,QL0 (ek:=ik) ((sorted order).getD i1 0) c 0 (AsA.refl _),?_⟩|refine ⟨_,fun _=>⟨_,_,Qc1 rfl _ _,QL0 (ek:=ik) ((sorted order).getD i1 0) c 0 (AsA.refl _),rfl,rfl⟩,?_⟩|refine ⟨_,rfl,⟨_,_,Qc1 rfl _ _,QL0 (ek:=ik) ((sorted order).getD i1 0) c 0 (AsA.refl _),Sub.refl _,rfl⟩,?_⟩);refine us (mv [0] (Qn6 c2 0 ((sorted order).getD i1 0) ((getM ((sorted order).getD i1 0) c).getD 0) szA) (dO (ds Taken.lo) .nil) (dp (d1 (d1 (d1 .nil)))) (rO (re Taken.lo) .nil) rx) ?_;exact Qc0 (i1+1) (QG1 c2 0 ((sorted order).getD i1 0) ((getM ((sorted order).getD i1 0) c).getD 0)) (wkA [0,1,2]) omA ⟨foll hR (congrArg (fun p:Taken=>QH5 p) rfl),by exact omA,b13a2⟩
   ·rw [Qh0 (l:=(sorted order)) (j:=i1) (geA h7)] at hR;replace hR:QH5 c2=R:=fo2 (fun p:Taken=>QH5 p) (c2) hR rfl;exact lfA
theorem Q74 (s:State):(QO6 s).length<=4294967296:=by
 have g2:∀ (o:List Int) (c:List (Int × Int)) (l:List Int) (i:Nat) (t:Taken),t.p.length<=4294967296->(QP6 o c l i t).p.length<=4294967296:=by
  intro o c l
  induction l with
  | nil=>intro i t h;exact h
  | cons x r ih=>intro i t h;rw [QP6];exact ih _ _ (Qe9 h)
 unfold QO6 QY4 QH5;cases ((QY3 s)!=0) with
 | true=>simp
 | false=>exact g2 _ _ _ _ _ (flat_len _)
def Qg2 (s:State):List Int->List Int->Nat->(List Int)
 | [],out,_=>out
 | x_ :: r,out,i=>bif ((Q70 s.jobs x_).2&&(decide ((Q70 s.jobs x_).1.promise >= 0))) then Qg2 s r (out++([x_]:List Int)) (i+1) else Qg2 s r out (i+1)
def Qh2 (out:List Int):(List Int):=out
def Q20 (s:State):(List Int):=Qh2 (Qg2 s (QC0 s.jobs s.ledger (Qg0 s.jobs)) [] 0)
theorem QX4 {s:State} {i:Nat} (h:i<(Q20 s).length):0<s.jobs.length:=by
 rcases ySa s.jobs.length with h0|h0
 ·have e:s.jobs=[]:=yCa h0;have hp:Q20 s=[]:=by
   unfold Q20;rw [e]
   rfl
  rw [hp] at h;exact absurd h (by simp)
 ·exact h0
theorem QEc {k k' v x:Int}:∀ {c:List (Int × Int)},getM k (setM k' v c)=some x->x=v∨getM k c=some x
 | [],h=>by
  simp only [setM,getM] at h;cases hk:(k==k') <;> rw [hk] at h <;> simp at h
  exact .inl h.symm
 | p :: r,h=>by
  rw [setM] at h;cases hq:(k'==p.1) with
  | true =>
   rw [hq] at h;simp only [cond_true,getM] at h;have e:k'=p.1:=by simpa using hq
   simp only [getM,← e];cases hk:(k==k') with
   | true=>rw [hk] at h;simp at h;exact .inl h.symm
   | false=>rw [hk] at h;exact .inr h
  | false =>
   rw [hq] at h;simp only [cond_false,getM] at h ⊢;cases hk:(k==p.1) with
   | true=>rw [hk] at h;exact .inr h
   | false=>rw [hk] at h;exact QEc h
theorem Q04 {k:Int} {c:List (Int × Int)} {n:Nat} (hn:0<n) (h:∀ k v,getM k c=some v->0<=v∧v<(n:Int)):0<=(getM k c).getD 0∧(getM k c).getD 0<(n:Int):=by
 cases hg:getM k c with
 | none=>exact ⟨yxb _,by show (0:Int)<n;omega⟩
 | some v=>exact h k v hg
theorem Q46 (s:State):∀ (r out:List Int) (i:Nat),(Qg2 s r out i).length<=out.length+r.length
 | [],out,i=>by simp [Qg2]
 | x :: r,out,i=>by
  have h1:=fun o'=>Q46 s r o' (i+1)
  rw [Qg2,yka];split <;> exact yea (h1 _) (by simp only [yLa,yma,y0a];omega)
theorem QM3 (s:State):(Q20 s).length<=s.jobs.length:=by
 have h:=Q46 s (QC0 s.jobs s.ledger (Qg0 s.jobs)) [] 0;have h2:=Q16 s.jobs s.ledger (Qg0 s.jobs);unfold Q20 Qh2;simp only [y0a,yda] at h;omega
theorem b13a0 {P:Prop} (h:P:=by first|((have hel:=Qo8 s.jobs;omega))|exact szA):P:=h
theorem Q08 (s:State) (hs0:s.sz):AMoves Tryz.prog 115 [State.a s] [] 0 (AVal.own 0 0 1 0 (Q20 s).length) [(0,AObj.row 3 1 ((Q20 s).map (fun q_=>[I q_])))]:=by
 generalize hR:Q20 s=R;refine mo (kp 8 [15,16,17,18,33]) Tryz.func115 ?_;have hk0:=hs0;obtain ⟨z5,z6,z7,z8,z9,z10,z11⟩:=hs0;refine dchk (by kernel_rfl) ?_;(first|apply u2|apply u3|apply u4|apply us);exact QN5 s.jobs b13a0 _;(first|apply u2|apply u3|apply u4|apply us);exact Qe7 s.jobs s.ledger (Qg0 s.jobs) b13a0 b13a0 b13a0 _;(repeat ((first|refine ai rfl ?_|refine ai (fun _=>rfl) ?_|refine ai (fun _=>QN5 s.jobs b13a0 _) ?_|refine ai (fun _=>Qe7 s.jobs s.ledger (Qg0 s.jobs) b13a0 b13a0 b13a0 _) ?_)));refine Qu0 (fun (out:List Int) (i:Nat)=>Qh2 (Qg2 s (List.drop i (QC0 s.jobs s.ledger (Qg0 s.jobs))) out i)=R∧i<=(QC0 s.jobs s.ledger (Qg0 s.jobs)).length∧out.length<=i) (fun out i=>(QC0 s.jobs s.ledger (Qg0 s.jobs)).length - i) (fun out i=>[(1,AVal.ptr 0 0 8 0 0),(2,AVal.lit (.slice none 0 0)),(3,AVal.own 1 0 1 0 out.length),(15,ints (QC0 s.jobs s.ledger (Qg0 s.jobs))),(16,I ((QC0 s.jobs s.ledger (Qg0 s.jobs)).length:Int)),(17,I (i:Int))]) (fun out i=>[(0,AObj.row 28 8 [[I s.now,nodeL s.nodes,jobL s.jobs,Qh1 s.resizes,bookL s.books,Qt1 s.ledger,I s.nextJob,I s.nextBook]]),(0,AObj.row 3 1 (out.map (fun q_=>[I q_])))]) [] 0 ((QA1 3 1).trans (wkA [0,1])) ⟨foll hR rfl,by exact omA,by exact exA⟩ ?_;clear hR;rintro out i ⟨hR,hj,hx⟩;(try dsimp only at hR hj hx);apply ai<;>intro h1
 ·have hlt:=ltA h1;rw [Qd0 0 hlt] at hR;have hsl:=Q16 s.jobs s.ledger (Qg0 s.jobs);refine ai gkA ?_;refine us (QW1 s.jobs ((QC0 s.jobs s.ledger (Qg0 s.jobs)).getD i 0) b13a0 _) ?_;apply ai<;>intro h3
  ·refine Or.inl ?_;(first|refine ⟨Qd1 8 rfl lnA apA,?_⟩|refine ⟨QB0 8 rfl apA,?_⟩);exact Qc0 (out++([((QC0 s.jobs s.ledger (Qg0 s.jobs)).getD i 0)]:List Int)) (i+1) (wkA [0,1]) omA ⟨foll hR (congrArg (fun p:(List Int)=>Qh2 p) (ct h3 rfl)),by exact omA,by exact exA⟩
  ·exact Qc0 out (i+1) (wkA [0,1]) omA ⟨foll hR (congrArg (fun p:(List Int)=>Qh2 p) (cf h3 rfl)),by exact omA,by exact exA⟩
 ·rw [Qh0 (l:=(QC0 s.jobs s.ledger (Qg0 s.jobs))) (j:=i) (geA h1)] at hR;replace hR:Qh2 out=R:=fo2 (fun p:(List Int)=>Qh2 p) (out) hR rfl;obtain rfl:=foll hR rfl;exact rq (ttA [1])
def Qj8 :List Job->Int->Nat->Int
 | [],lastJob,_=>lastJob
 | x_ :: r,_,i=>Qj8 r x_.id (i+1)
def Qk8 :List Book->Int->Nat->Int
 | [],lastBook,_=>lastBook
 | x_1 :: r,_,i1=>Qk8 r x_1.id (i1+1)
def Qv4 :List Job->Nat->List (Int × Job)->(List (Int × Job))
 | [],_,c=>c
 | x_2 :: r,i2,c=>bif (x_2.state==2) then Qv4 r (i2+1) (setM x_2.id x_2 c) else Qv4 r (i2+1) c
def Qw4 (s:State) (lastJob:Int) (lastBook:Int) (c:List (Int × Job)):List Resize->Nat->List (Int × Resize)->Int
 | [],_,c2=>bif ((((!true)||(!(Qm7 s.nextJob lastJob)))||(!(Qm7 s.nextBook lastBook)))||(!(Qc9 s c c2))) then 141 else bif (c.all (fun (en:Int × Job)=>(bif ((QN3 s.nodes en.1)!=en.2.nodes) then false else true))) then 0 else 141
 | x_3 :: r,i3,c2=>bif (((!(getM x_3.job c).isSome)||((decide ((i3:Int) > 0))&&(decide ((s.resizes.getD ((w64 ((i3:Int) - 1)).toNat) zH).job >= x_3.job))))||(!(Q38 s x_3 ((getM x_3.job c).getD zG)))) then 141 else Qw4 s lastJob lastBook c r (i3+1) (setM x_3.job x_3 c2)
def Qx4 (s:State) (lastJob:Int) (lastBook:Int) (c:List (Int × Job)):Int:=Qw4 s lastJob lastBook c s.resizes 0 []
def Qm5 (s:State) (lastJob:Int) (lastBook:Int):Int:=Qx4 s lastJob lastBook (Qv4 s.jobs 0 [])
def Ql5 (s:State) (lastJob:Int):Int:=Qm5 s lastJob (Qk8 s.books 0 0)
def QM0 (s:State):Int:=bif ((Q12 s)!=0) then 141 else Ql5 s (Qj8 s.jobs 0 0)
theorem b14a0 {P:Prop} (h:P:=by first|(exact getM_sz _ _ (by assumption))|exact szA):P:=h
theorem b14a2 {P:Prop} (h:P:=by first|(exact setM_sz _ _ _ (by assumption) (by assumption))|first|(exact fun y hy=>absurd hy y8a)|first|(assumption)|exact exA):P:=h
theorem QF2 (s:State) (hs0:s.sz):GV 7 [State.a s] (I (QM0 s)):=by
 generalize hR:QM0 s=R;refine gA (kp 14 [16,18,19,20,21,28,29,30,31,68,70,72,82]) Tryz.func7 ?_;have hk0:=hs0;obtain ⟨z29,z30,z31,z32,z33,z34,z35⟩:=hs0;refine us (QN6 s b14a0 _) ?_;apply ai<;>intro h1
 ·exact lfA
 ·refine Qu0 (fun (lastJob:Int) (i:Nat)=>Ql5 s (Qj8 (List.drop i s.jobs) lastJob i)=R∧i<=s.jobs.length) (fun lastJob i=>s.jobs.length - i) (fun lastJob i=>[(1,AVal.ptr 0 0 8 0 0),(2,I 0),(3,I lastJob),(4,I 0),(18,jobL s.jobs),(19,I (s.jobs.length:Int)),(20,I (i:Int))]) (fun lastJob i=>[(0,AObj.row 28 8 [[I s.now,nodeL s.nodes,jobL s.jobs,Qh1 s.resizes,bookL s.books,Qt1 s.ledger,I s.nextJob,I s.nextBook]])]) 0 0 (wkA [0]) ⟨folA,by exact omA⟩ ?_;clear hR;rintro lastJob i ⟨hR,hj⟩;(try dsimp only at hR hj);apply ai<;>intro h3
  ·have hlt:=ltA h3;rw [Qd0 zG hlt] at hR;have hxz:(s.jobs.getD i zG).sz:=QB1 (by first|assumption|grind) (Job.szz _);have hkz:=hxz;obtain ⟨z5,z6,z7,z8,z9⟩:=Job.zz hxz;refine ai gkA ?_;exact Qc0 ((s.jobs.getD i zG).id) (i+1) (wkA [0]) omA ⟨foll hR (congrArg (fun p:Int=>Ql5 s p) rfl),by exact omA⟩
  ·rw [Qh0 (l:=s.jobs) (j:=i) (geA h3)] at hR;replace hR:Ql5 s lastJob=R:=fo2 (fun p:Int=>Ql5 s p) (lastJob) hR rfl;refine Qu0 (fun (lastBook:Int) (i1:Nat)=>Qm5 s lastJob (Qk8 (List.drop i1 s.books) lastBook i1)=R∧i1<=s.books.length) (fun lastBook i1=>s.books.length - i1) (fun lastBook i1=>[(1,AVal.ptr 0 0 8 0 0),(2,I 0),(3,I lastJob),(4,I lastBook),(28,bookL s.books),(29,I (s.books.length:Int)),(30,I (i1:Int))]) (fun lastBook i1=>[(0,AObj.row 28 8 [[I s.now,nodeL s.nodes,jobL s.jobs,Qh1 s.resizes,bookL s.books,Qt1 s.ledger,I s.nextJob,I s.nextBook]])]) 0 0 (wkA [0]) ⟨foll hR rfl,by exact omA⟩ ?_;clear hR;rintro lastBook i1 ⟨hR,hj⟩;(try dsimp only at hR hj);apply ai<;>intro h10
   ·have hlt:=ltA h10;rw [Qd0 zI hlt] at hR;refine ai gkA ?_;exact Qc0 ((s.books.getD i1 zI).id) (i1+1) (wkA [0]) omA ⟨foll hR (congrArg (fun p:Int=>Qm5 s lastJob p) rfl),by exact omA⟩
   ·rw [Qh0 (l:=s.books) (j:=i1) (geA h10)] at hR;replace hR:Qm5 s lastJob lastBook=R:=fo2 (fun p:Int=>Qm5 s lastJob p) (lastBook) hR rfl;refine ACalls.of_cwp (fun _=>true) Tryz.func18 rfl rfl ?_;refine Qu0 (fun (i2:Nat) (c:List (Int × Job))=>Qx4 s lastJob lastBook (Qv4 (List.drop i2 s.jobs) i2 c)=R∧i2<=s.jobs.length ∧ ∀ y ∈ c,y.2.sz) (fun i2 c=>s.jobs.length - i2) (fun i2 c=>[(2,AVal.lit (.map none)),(3,AVal.map 1),(7,jobL s.jobs),(8,I (s.jobs.length:Int)),(9,I (i2:Int))]) (fun i2 c=>[(0,AObj.row 28 8 [[I s.now,nodeL s.nodes,jobL s.jobs,Qh1 s.resizes,bookL s.books,Qt1 s.ledger,I s.nextJob,I s.nextBook]]),(0,AObj.other (.map (mapEs ik Job.a 0 c) c.length))]) 0 [] (wkA [0,1]) ⟨foll hR rfl,by exact omA,b14a2⟩ ?_;clear hR;rintro i2 c ⟨hR,hj,hx⟩;(try dsimp only at hR hj hx);apply ai<;>intro h12
    ·have hlt:=ltA h12;rw [Qd0 zG hlt] at hR;have hxz:(s.jobs.getD i2 zG).sz:=QB1 (by first|assumption|grind) (Job.szz _);have hkz:=hxz;obtain ⟨z14,z15,z16,z17,z18⟩:=Job.zz hxz;refine ai gkA ?_;apply ai<;>intro h19
     ·refine ⟨_,_,Qc1 rfl _ _,Qx6 (ek:=ik) ((s.jobs.getD i2 zG).id) (s.jobs.getD i2 zG) c rfl rfl,?_⟩;exact Qc0 (i2+1) (setM (s.jobs.getD i2 zG).id (s.jobs.getD i2 zG) c) (wkA [0,1]) omA ⟨foll hR (congrArg (fun p:(List (Int × Job))=>Qx4 s lastJob lastBook p) (ct h19 rfl)),by exact omA,b14a2⟩
     ·exact Qc0 (i2+1) c (wkA [0,1]) omA ⟨foll hR (congrArg (fun p:(List (Int × Job))=>Qx4 s lastJob lastBook p) (cf h19 rfl)),by exact omA,b14a2⟩
    ·rw [Qh0 (l:=s.jobs) (j:=i2) (geA h12)] at hR;replace hR:Qx4 s lastJob lastBook c=R:=fo2 (fun p:(List (Int × Job))=>Qx4 s lastJob lastBook p) (c) hR rfl;refine ⟨_,_,Told.refl,?_⟩;refine ACalls.of_cwp (fun _=>true) Tryz.func19 rfl rfl ?_;refine Qu0 (fun (i3:Nat) (c2:List (Int × Resize))=>Qw4 s lastJob lastBook c (List.drop i3 s.resizes) i3 c2=R∧i3<=s.resizes.length) (fun i3 c2=>s.resizes.length - i3) (fun i3 c2=>[(1,AVal.map 1),(2,AVal.ptr 2 0 8 0 0),(4,AVal.lit (.map none)),(5,Bo false),(6,AVal.map 3),(13,Qh1 s.resizes),(14,I (s.resizes.length:Int)),(15,I (i3:Int))]) (fun i3 c2=>[(0,AObj.row 28 8 [[I s.now,nodeL s.nodes,jobL s.jobs,Qh1 s.resizes,bookL s.books,Qt1 s.ledger,I s.nextJob,I s.nextBook]]),(0,AObj.other (.map (mapEs ik Job.a 0 c) c.length)),(0,AObj.row 28 8 [[I s.now,nodeL s.nodes,jobL s.jobs,Qh1 s.resizes,bookL s.books,Qt1 s.ledger,I s.nextJob,I s.nextBook]]),(0,AObj.other (.map (mapEs ik Resize.a 0 c2) c2.length))]) 0 [] (wkA [0,1,2,3]) ⟨foll hR rfl,by exact omA⟩ ?_;clear hR;rintro i3 c2 ⟨hR,hj⟩;(try dsimp only at hR hj);apply ai<;>intro h21
     ·have hlt:=ltA h21;rw [Qd0 zH hlt] at hR;refine ai gkA ?_;(first|refine ⟨_,_,Qc1 rfl _ _,QL0 (ek:=ik) ((s.resizes.getD i3 zH).job) c zG (as_agg (a1 (a1 (a1 (a1 (a1 (av (QI7) (a1 (a1 (a1 (a1 (av (QI7) (a1 (a1 (a1 (a1 (a1 (a1 (a1 (a1 (a1 .nil))))))))))))))))))))),?_⟩|refine ⟨_,fun _=>⟨_,_,Qc1 rfl _ _,QL0 (ek:=ik) ((s.resizes.getD i3 zH).job) c zG (as_agg (a1 (a1 (a1 (a1 (a1 (av (QI7) (a1 (a1 (a1 (a1 (av (QI7) (a1 (a1 (a1 (a1 (a1 (a1 (a1 (a1 (a1 .nil))))))))))))))))))))),rfl,rfl⟩,?_⟩|refine ⟨_,rfl,⟨_,_,Qc1 rfl _ _,QL0 (ek:=ik) ((s.resizes.getD i3 zH).job) c zG (as_agg (a1 (a1 (a1 (a1 (a1 (av (QI7) (a1 (a1 (a1 (a1 (av (QI7) (a1 (a1 (a1 (a1 (a1 (a1 (a1 (a1 (a1 .nil))))))))))))))))))))),Sub.refl _,rfl⟩,?_⟩);refine dchk (by kernel_rfl) ?_;refine ai gkA ?_;(first|apply u2|apply u3|apply u4|apply us);exact Qua s (s.resizes.getD i3 zH) ((getM (s.resizes.getD i3 zH).job c).getD zG) b14a0 b14a0 _;(repeat ((first|refine ai rfl ?_|refine ai (fun _=>rfl) ?_|refine ai (fun _=>Qua s (s.resizes.getD i3 zH) ((getM (s.resizes.getD i3 zH).job c).getD zG) b14a0 b14a0 _) ?_)));apply ai<;>intro h23
      ·refine ⟨_,_,Told.refl,?_⟩;(first|refine ⟨Bo false,_,fun h=>absurd h (by decide),fun _=>rfl,?_⟩|refine ⟨Bo false,fun h=>absurd h (by decide),?_⟩|refine ⟨Bo false,_,fun h=>absurd h (by simp),fun _=>rfl,?_⟩|refine ⟨Bo false,fun h=>absurd h (by simp),?_⟩);(first|refine ⟨Bo false,_,fun h=>absurd h (by decide),fun _=>rfl,?_⟩|refine ⟨Bo false,fun h=>absurd h (by decide),?_⟩|refine ⟨Bo false,_,fun h=>absurd h (by simp),fun _=>rfl,?_⟩|refine ⟨Bo false,fun h=>absurd h (by simp),?_⟩);(first|refine ⟨Bo false,_,fun h=>absurd h (by decide),fun _=>rfl,?_⟩|refine ⟨Bo false,fun h=>absurd h (by decide),?_⟩|refine ⟨Bo false,_,fun h=>absurd h (by simp),fun _=>rfl,?_⟩|refine ⟨Bo false,fun h=>absurd h (by simp),?_⟩);refine ai (fun _=>?_) (fun h=>nomatch h);exact lfA
      ·refine ⟨_,_,Qc1 rfl _ _,Qx6 (ek:=ik) ((s.resizes.getD i3 zH).job) (s.resizes.getD i3 zH) c2 rfl rfl,?_⟩;exact Qc0 (i3+1) (setM (s.resizes.getD i3 zH).job (s.resizes.getD i3 zH) c2) (wkA [0,1,2,3]) omA ⟨folA,by exact omA⟩
     ·rw [Qh0 (l:=s.resizes) (j:=i3) (geA h21)] at hR;refine ⟨_,_,Told.refl,?_⟩;(first|apply u2|apply u3|apply u4|apply us);exact Q2d s.nextJob lastJob _;(first|apply u2|apply u3|apply u4|apply us);exact Q2d s.nextBook lastBook _;(first|apply u2|apply u3|apply u4|apply us);exact mv [1,3] (state_nodes_c s c c2 b14a0) (dO (.same _ (Qd3 fun _=>Job.low _ _)) (dO (.same _ (Qd3 fun _=>Resize.low _ _)) .nil)) (dv (Qo3 (Low.agg' (State.lo))) (dv (Qha (Ren.map _ _ rfl)) (dv (Qha (Ren.map _ _ rfl)) .nil))) (rO (RenO.same _ (Qd3 fun _=>Job.low _ _)) (rO (RenO.same _ (Qd3 fun _=>Resize.low _ _)) .nil)) rx;apply ai<;>intro h25
      ·exact lfA
      ·refine loop_start (X:=Array Nat) (fun x=>(bif (c.all (fun (en:Int × Job)=>(bif ((QN3 s.nodes en.1)!=en.2.nodes) then false else true))) then 0 else 141)=R ∧ ∀ j,j<c.length->x.contains j=true->(fun (en:Int × Job)=>(bif ((QN3 s.nodes en.1)!=en.2.nodes) then false else true)) (c.getD j ((0,zG):Int × Job))=true) (fun x=>unseen c.length x) (fun seen=>[(1,AVal.ptr 0 0 8 0 0),(2,I 0),(70,AVal.ptr 2 0 1 0 0)]) (fun seen=>[(0,AObj.row 28 8 [[I s.now,nodeL s.nodes,jobL s.jobs,Qh1 s.resizes,bookL s.books,Qt1 s.ledger,I s.nextJob,I s.nextBook]]),(0,AObj.other (.map (mapEs ik Job.a 0 c) c.length)),(0,AObj.other (.mapIter 1 c.length seen c.length))]) #[] (wk [0,1,4] (tO rfl (ts State.lo) (tO rfl (Qz8 _ rfl rfl (fun _=>Job.low _ _)) (tO rfl (turn_miter 1 rfl rfl) .nil))) (sv (Qy0 0 rfl rfl) (s1 (sv (Qy0 2 rfl rfl) .nil)))) ⟨folA,fun j hj hc=>absurd hc (by simp)⟩ ?_;clear hR;rintro seen ⟨hR,hx⟩;refine map_round ((0,zG):Int × Job) (fun j hj hns=>?_) (fun hall=>?_)
       ·refine ai (fun _=>?_) (fun h=>nomatch h);refine ⟨_,entry_map ((0,zG):Int × Job) rfl rfl hj,?_⟩;refine dchk (by kernel_rfl) ?_;(first|apply u2|apply u3|apply u4|apply us);exact Qzc s.nodes ((c.getD j ((0,zG):Int × Job)).1) b14a0 _;(repeat ((first|refine ai rfl ?_|refine ai (fun _=>rfl) ?_|refine ai (fun _=>Qzc s.nodes ((c.getD j ((0,zG):Int × Job)).1) b14a0 _) ?_)));apply ai<;>intro h27
        ·obtain rfl:=foll hR ((cond_f (all_f (p:=(fun (en:Int × Job)=>(bif ((QN3 s.nodes en.1)!=en.2.nodes) then false else true))) hj (ct h27 rfl))).trans rfl);exact Q60 lx sr
        ·exact loop_next (seen.push j) (unseen_push hj hns) (wk [0,1,2] (tO rfl (ts State.lo) (tO rfl (Qz8 _ rfl rfl (fun _=>Job.low _ _)) (tO rfl (turn_miter 1 rfl rfl) .nil))) (sv (Qy0 0 rfl rfl) (s1 (sv (Qy0 2 rfl rfl) .nil)))) ⟨hR,seen_push (p:=(fun (en:Int × Job)=>(bif ((QN3 s.nodes en.1)!=en.2.nodes) then false else true))) hx (cf h27 rfl)⟩
       ·refine ai (fun h=>nomatch h) (fun _=>?_);obtain rfl:=foll hR (ct (all_t hall hx) rfl);exact Q60 lx sr
def QZ4 :List Book->Nat->Taken->Taken
 | [],_,c=>c
 | x_ :: r,i,c=>QZ4 r (i+1) (QG1 c x_.from_ x_.to x_.nodes)
def Qu3 (except:List Int):List Job->Nat->Taken->Taken
 | [],_,c2=>c2
 | x_1 :: r,i1,c2=>bif (!(QF0 except x_1.id)) then bif (QW0 x_1).2.2.2 then Qu3 except r (i1+1) (QG1 c2 ((QW0 x_1).1) (w64 ((QW0 x_1).1+(QW0 x_1).2.1)) ((QW0 x_1).2.2.1)) else Qu3 except r (i1+1) c2 else Qu3 except r (i1+1) c2
def Q24 (c2:Taken):(List Step):=c2.p
def QI5 (s:State) (except:List Int) (c:Taken):(List Step):=Q24 (Qu3 except s.jobs 0 c)
def Qe3 (s:State) (except:List Int):(List Step):=QI5 s except (QZ4 s.books 0 (⟨(QO6 s)⟩:Taken))
theorem take_nil (f t n:Int):QG1 (⟨[]⟩:Taken) f t n=⟨[]⟩:=by
 unfold QG1;cases ((decide (t<=f))||(n==0)) <;> rfl
theorem room_Room_nil {s:State} {except:List Int} (h:(QO6 s).length=0):Qe3 s except=[]:=by
 have g1:∀ (l:List Book) (i:Nat),QZ4 l i (⟨[]⟩:Taken)=⟨[]⟩:=by
  intro l
  induction l with
  | nil=>intro i;rfl
  | cons x r ih=>intro i;rw [QZ4,take_nil];exact ih _
 have g2:∀ (l:List Job) (i:Nat),Qu3 except l i (⟨[]⟩:Taken)=⟨[]⟩:=by
  intro l
  induction l with
  | nil=>intro i;rfl
  | cons x r ih =>
   intro i;rw [Qu3,take_nil]
   repeat' first|exact ih _|(rw [yka];split)
 unfold Qe3 QI5 Q24;rw [yCa h,g1,g2]
theorem b14a1 {P:Prop} (h:P:=by first|(((try dsimp only);exact Qe9 (by assumption)))|first|(((try dsimp only);exact Qe9 hx))|first|(exact Q74 _)|exact exA):P:=h
theorem QGe (s:State) (except:List Int) (hs0:s.sz) (hs1:except.length<=4294967296):GV 163 [State.a s,ints except] (stepL (Qe3 s except)):=by
 generalize hR:Qe3 s except=R;refine gA (kp 12 [15,21,22,23,24,37,38,39,40,47]) Tryz.func163 ?_;have hk0:=hs0;obtain ⟨z14,z15,z16,z17,z18,z19,z20⟩:=hs0;have hk1:=hs1;obtain z21:except.length<=4294967296:=hs1;refine us (room_Busy_c s (by first|(exact Q74 _)|exact szA) _) ?_;intro nb3 hb3;cases nb3
 ·refine ai (fun h=>nomatch h) (fun _=>?_);refine Qu0 (fun (i:Nat) (c:Taken)=>QI5 s except (QZ4 (List.drop i s.books) i c)=R∧i<=s.books.length∧c.p.length<=4294967296) (fun i c=>s.books.length - i) (fun i c=>[(1,ints except),(2,AVal.ptr 0 0 8 0 0),(4,AVal.lit (.slice none 0 0)),(6,AVal.ptr 2 0 1 0 0),(7,AVal.fn (.func 204) [] [AVal.ptr 2 0 1 0 0]),(21,bookL s.books),(22,I (s.books.length:Int)),(23,I (i:Int))]) (fun i c=>[(0,AObj.row 28 8 [[I s.now,nodeL s.nodes,jobL s.jobs,Qh1 s.resizes,bookL s.books,Qt1 s.ledger,I s.nextJob,I s.nextBook]]),(0,AObj.row 251 1 [[stepL c.p]]),(0,AObj.row 249 1 [[AVal.ptr 1 0 1 0 0]])]) 0 (⟨(QO6 s)⟩:Taken) (wkA [0,1,2]) ⟨foll hR rfl,by exact omA,b14a1⟩ ?_;clear hR;rintro i c ⟨hR,hj,hx⟩;(try dsimp only at hR hj hx);apply ai<;>intro h1
  ·have hlt:=ltA h1;rw [Qd0 zI hlt] at hR;refine ai gkA ?_;refine us (mv [1] (Qn6 c ((s.books.getD i zI).from_) ((s.books.getD i zI).to) ((s.books.getD i zI).nodes) (by first|(exact Q74 _)|exact szA)) (dO (ds Taken.lo) .nil) (dp (d1 (d1 (d1 .nil)))) (rO (re Taken.lo) .nil) rx) ?_;exact Qc0 (i+1) (QG1 c (s.books.getD i zI).from_ (s.books.getD i zI).to (s.books.getD i zI).nodes) (wkA [0,1,2]) omA ⟨foll hR (congrArg (fun p:Taken=>QI5 s except p) rfl),by exact omA,b14a1⟩
  ·rw [Qh0 (l:=s.books) (j:=i) (geA h1)] at hR;replace hR:QI5 s except c=R:=fo2 (fun p:Taken=>QI5 s except p) (c) hR rfl;refine Qu0 (fun (i1:Nat) (c2:Taken)=>Q24 (Qu3 except (List.drop i1 s.jobs) i1 c2)=R∧i1<=s.jobs.length∧c2.p.length<=4294967296) (fun i1 c2=>s.jobs.length - i1) (fun i1 c2=>[(1,ints except),(4,AVal.lit (.slice none 0 0)),(6,AVal.ptr 1 0 1 0 0),(7,AVal.fn (.func 204) [] [AVal.ptr 1 0 1 0 0]),(37,jobL s.jobs),(38,I (s.jobs.length:Int)),(39,I (i1:Int))]) (fun i1 c2=>[(0,AObj.row 251 1 [[stepL c2.p]]),(0,AObj.row 249 1 [[AVal.ptr 0 0 1 0 0]])]) 0 c (wkA [1,2]) ⟨foll hR rfl,by exact omA,b14a1⟩ ?_;clear hR;rintro i1 c2 ⟨hR,hj,hx⟩;(try dsimp only at hR hj hx);apply ai<;>intro h3
   ·have hlt:=ltA h3;rw [Qd0 zG hlt] at hR;have hxz:(s.jobs.getD i1 zG).sz:=QB1 (by first|assumption|grind) (Job.szz _);have hkz:=hxz;obtain ⟨z5,z6,z7,z8,z9⟩:=Job.zz hxz;refine ai gkA ?_;refine us (Qz1 except ((s.jobs.getD i1 zG).id) (by first|(exact Q74 _)|exact szA) _) ?_;apply ai<;>intro h10
    ·refine ACalls.of_cwp (fun _=>true) Tryz.func204 rfl rfl ?_;refine us (QS7 (s.jobs.getD i1 zG) (by first|(exact Q74 _)|exact szA) _) ?_;apply ai<;>intro h12
     ·refine us (mv [0] (Qn6 c2 ((QW0 (s.jobs.getD i1 zG)).1) (w64 ((QW0 (s.jobs.getD i1 zG)).1+(QW0 (s.jobs.getD i1 zG)).2.1)) ((QW0 (s.jobs.getD i1 zG)).2.2.1) (by first|(exact Q74 _)|exact szA)) (dO (ds Taken.lo) .nil) (dp (d1 (d1 (d1 .nil)))) (rO (re Taken.lo) .nil) rx) ?_;refine ⟨_,_,Told.refl,?_⟩;exact Qc0 (i1+1) (QG1 c2 ((QW0 (s.jobs.getD i1 zG)).1) (w64 ((QW0 (s.jobs.getD i1 zG)).1+(QW0 (s.jobs.getD i1 zG)).2.1)) ((QW0 (s.jobs.getD i1 zG)).2.2.1)) (wkA [0,1]) omA ⟨foll hR (congrArg (fun p:Taken=>Q24 p) (ct h10 (ct h12 rfl))),by exact omA,b14a1⟩
     ·refine ⟨_,_,Told.refl,?_⟩;exact Qc0 (i1+1) c2 (wkA [0,1]) omA ⟨foll hR (congrArg (fun p:Taken=>Q24 p) (ct h10 (cf h12 rfl))),by exact omA,b14a1⟩
    ·exact Qc0 (i1+1) c2 (wkA [0,1]) omA ⟨foll hR (congrArg (fun p:Taken=>Q24 p) (cf h10 rfl)),by exact omA,b14a1⟩
   ·rw [Qh0 (l:=s.jobs) (j:=i1) (geA h3)] at hR;replace hR:Q24 c2=R:=fo2 (fun p:Taken=>Q24 p) (c2) hR rfl;exact lfA
 ·have hl3:(QO6 s).length=0:=Decidable.byContradiction fun hn=>absurd (hb3 hn) (by decide);refine ai (fun _=>?_) (fun h=>nomatch h);obtain rfl:=foll hR (room_Room_nil hl3);exact Q60 lw (Q00)
theorem Qyb (s:State) (ex:List Int):(Qe3 s ex).length<=4294967296:=by
 have g1:∀ (l:List Book) (i:Nat) (t:Taken),t.p.length<=4294967296->(QZ4 l i t).p.length<=4294967296:=by
  intro l
  induction l with
  | nil=>intro i t h;exact h
  | cons x r ih=>intro i t h;rw [QZ4];exact ih _ _ (Qe9 h)
 have g2:∀ (l:List Job) (i:Nat) (t:Taken),t.p.length<=4294967296->(Qu3 ex l i t).p.length<=4294967296:=by
  intro l
  induction l with
  | nil=>intro i t h;exact h
  | cons x r ih =>
   intro i t h;rw [Qu3]
   repeat' first|exact ih _ _ h|exact ih _ _ (Qe9 h)|(rw [yka];split)
 exact g2 _ _ _ (g1 _ _ _ (Q74 s))
def QF3 (s:State):Nat->Int->Nat->List Int->Int × Nat × (List Int)
 | 0,_,_,_=>(0,0,[])
 | m+1,i1,j,c=>bif (decide ((j:Int)<(c.length:Int))) then bif (!(decide ((Q70 s.jobs (c.getD j 0)).1.promise > s.now))) then QF3 s m (w64 (i1+1)) (j+1) (c.set (i1.toNat) (c.getD j 0)) else QF3 s m i1 (j+1) c else (i1,j,c)
def Qk5 (s:State):List Int->Nat->(List Int)
 | [],_=>(Q20 s)
 | _ :: r,i=>bif (decide ((Q70 s.jobs ((Q20 s).getD i 0)).1.promise > s.now)) then bif ((i:Int)==(-1)) then (Q20 s) else (fun p1:Int × Nat × (List Int)=>(List.take (p1.1.toNat) p1.2.2)) (QF3 s (((((Q20 s).length:Int) - ((i+1):Int)).toNat)+1) (i:Int) (i+1) (Q20 s)) else Qk5 s r (i+1)
def Qe1 (s:State):(List Int):=bif ((Q12 s)!=0) then [] else Qk5 s (Q20 s) 0
theorem b14a3 {P:Prop} (h:P:=by first|((refine ⟨?_,?_⟩ <;> first|(rw [hw1];simp;omega)|(simp;omega)|omega))|first|((rw [hw1];simp;omega))|exact exA):P:=h
theorem squeeze_Due_c (s:State) (hs0:s.sz):GV 66 [State.a s] (ints (Qe1 s)):=by
 generalize hR:Qe1 s=R;refine gA (kp 3 [5]) Tryz.func66 ?_;have hk0:=hs0;obtain ⟨z13,z14,z15,z16,z17,z18,z19⟩:=hs0;have hpl:=QM3 s;refine us (QN6 s (by first|((exact ⟨z21,z22⟩))|exact szA) _) ?_;apply ai<;>intro h1
 ·exact lfA
 ·refine us (mv [] (Q08 s (by first|((exact ⟨z21,z22⟩))|exact szA)) .nil (dv (Qo3 (Low.agg' (State.lo))) .nil) (rO rr .nil) (rw_ 1 0 rfl)) ?_;refine ACalls.of_cwp (fun _=>true) Tryz.func114 rfl rfl ?_;refine ACalls.of_cwp (fun _=>true) Tryz.func174 rfl rfl ?_;refine Qk0 (fun (i:Nat)=>Qk5 s (List.drop i (Q20 s)) i=R∧i<=(Q20 s).length) (fun i=>(Q20 s).length - i) (fun i=>[(0,AVal.own 1 0 1 0 ((Q20 s).length)),(1,AVal.fn (.func 116) [] [AVal.ptr 0 0 8 0 0]),(4,I 0),(7,I ((Q20 s).length:Int)),(8,I (i:Int))]) (fun i=>[(0,AObj.row 28 8 [[I s.now,nodeL s.nodes,jobL s.jobs,Qh1 s.resizes,bookL s.books,Qt1 s.ledger,I s.nextJob,I s.nextBook]]),(0,AObj.row 3 1 ((Q20 s).map (fun q_=>[I q_])))]) 0 (wkA [0,1]) ⟨folA,by first|((dsimp only;rw [hw1];omega))|exact omA⟩ ?_;clear hR;rintro i ⟨hR,hj⟩;(try dsimp only at hR hj);apply ai<;>intro h3
  ·have hlt:=ltA h3;rw [Qd0 0 hlt] at hR;refine ai gkA ?_;refine ⟨_,Qf0 rfl rfl rfl (Qo0 0 i (by first|rfl|exact yda _|omega) ckA) rfl,?_⟩;refine ACalls.of_cwp (fun _=>true) Tryz.func116 rfl rfl ?_;refine us (QW1 s.jobs ((Q20 s).getD i 0) (by first|((exact ⟨z21,z22⟩))|exact szA) _) ?_;refine ⟨_,_,Told.refl,?_⟩;apply ai<;>intro h5
   ·have qh5:=yca h5;refine ⟨_,_,Told.refl,?_⟩;apply ai<;>intro h7
    ·refine ⟨_,_,Told.refl,?_⟩;obtain rfl:=foll hR (ct h5 (ct h7 rfl));exact Q60 lw (Qa0 0 _ rfl eqA lnA)
    ·refine QT4 (fun (i1:Int) (j:Nat) (c:List Int)=>∃ m,(((c.length:Int) - (j:Int)).toNat)<m∧(fun p1:Int × Nat × (List Int)=>(List.take (p1.1.toNat) p1.2.2)) (QF3 s m i1 j c)=R∧(0<=i1∧i1<=(j:Int)∧(j:Int)<=(c.length:Int)∧c.length=(Q20 s).length)∧c.length=(Q20 s).length) (fun i1 j c=>(((c.length:Int) - (j:Int)).toNat)) (fun i1 j c=>[(0,AVal.own 1 0 1 0 c.length),(1,AVal.fn (.func 116) [] [AVal.ptr 0 0 8 0 0]),(4,AVal.lit (.slice none 0 0)),(5,I i1),(6,I (j:Int))]) (fun i1 j c=>[(0,AObj.row 28 8 [[I s.now,nodeL s.nodes,jobL s.jobs,Qh1 s.resizes,bookL s.books,Qt1 s.ledger,I s.nextJob,I s.nextBook]]),(0,AObj.row 3 1 (c.map (fun q_=>[I q_])))]) (i:Int) (i+1) (Q20 s) (wkA [0,1]) ⟨_,yTa _,foll hR (ct h5 (cf h7 rfl)),b14a3⟩ ?_;clear hR;rintro i1 j c ⟨m,hm,hR,hx⟩;(try dsimp only at hR hm hx);obtain ⟨m,rfl⟩:=sucA m;apply ai<;>intro h9
     ·have qh9:=yca h9;have hw1:w64 (i1+1)=i1+1:=wr oA;refine ai gkA ?_;refine ⟨_,Qf0 rfl rfl rfl (Qo0 0 j (by first|rfl|exact yda _|omega) ckA) rfl,?_⟩;refine ACalls.of_cwp (fun _=>true) Tryz.func116 rfl rfl ?_;refine us (QW1 s.jobs (c.getD j 0) (by first|((exact ⟨z21,z22⟩))|exact szA) _) ?_;refine ⟨_,_,Told.refl,?_⟩;apply ai<;>intro h11
      ·refine ai gkA ?_;refine ⟨_,QV0 rfl rfl rfl rfl (Qo0 0 (i1.toNat) (by first|rfl|exact yda _|omega) ckA) rfl rfl (QD7 (i1.toNat) (c.getD j 0) (by first|rfl|exact yda _|omega) rfl),?_⟩;exact QH1 (w64 (i1+1)) (j+1) (c.set (i1.toNat) (c.getD j 0)) (wkA [0,1]) (by first|((dsimp only;rw [hw1];omega))|exact omA) ⟨m,by first|((dsimp only;rw [hw1];omega))|exact omA,foll hR (congrArg (fun p1:Int × Nat × (List Int)=>(List.take (p1.1.toNat) p1.2.2)) (ct h9 (ct h11 rfl))),b14a3⟩
      ·exact QH1 i1 (j+1) c (wkA [0,1]) (by first|((dsimp only;rw [hw1];omega))|exact omA) ⟨m,by first|((dsimp only;rw [hw1];omega))|exact omA,foll hR (congrArg (fun p1:Int × Nat × (List Int)=>(List.take (p1.1.toNat) p1.2.2)) (ct h9 (cf h11 rfl))),b14a3⟩
     ·have qh9:=yja h9;replace hR:(fun p1:Int × Nat × (List Int)=>(List.take (p1.1.toNat) p1.2.2)) (i1,j,c)=R:=foll hR (congrArg (fun p1:Int × Nat × (List Int)=>(List.take (p1.1.toNat) p1.2.2)) (cf h9 rfl));refine ai gkA ?_;refine And.intro (And.intro (by (simp only [yxa,yWa,yXa,yFa,yqb];omega)) rfl) ?_;refine ai gkA ?_;refine ⟨_,_,Told.refl,?_⟩;obtain rfl:=foll hR rfl;exact Q60 lw (Qa0 0 _ rfl eqA lnA)
   ·have qh5:=yja h5;exact Qr0 (i+1) (wkA [0,1]) (by first|((dsimp only;rw [hw1];omega))|exact omA) ⟨folA,by first|((dsimp only;rw [hw1];omega))|exact omA⟩
  ·rw [Qh0 (l:=(Q20 s)) (j:=i) (geA h3)] at hR;refine ⟨_,_,Told.refl,?_⟩;refine ai (fun _=>?_) (fun h=>nomatch h);refine ⟨_,_,Told.refl,?_⟩;obtain rfl:=foll hR rfl;exact Q60 lw (Qa0 0 _ rfl eqA lnA)
theorem QY7 (s:State):∀ (m:Nat) (i1:Int) (j:Nat) (c:List Int),(QF3 s m i1 j c).2.2.length<=c.length
 | 0,_,_,_=>by simp [QF3]
 | m+1,i1,j,c=>by
  have h1:=fun a c'=>QY7 s m a (j+1) c'
  rw [QF3]
  repeat' first|exact h1 _ _|exact yia _|exact yea (h1 _ _) (by simp)|(rw [yka];split)
theorem QX7 (s:State):∀ (r:List Int) (i:Nat),(Qk5 s r i).length<=(Q20 s).length
 | [],i=>yia _
 | x :: r,i=>by
  rw [Qk5];dsimp only
  repeat' first|exact QX7 s r (i+1)|exact yia _|exact yea (List.length_take_le' ..) (QY7 ..)|(rw [yka];split)
theorem QT9 {s:State} (h:s.sz):(Qe1 s).length<=4294967296:=by
 unfold Qe1;cases ((Q12 s)!=0) with
 | true=>simp
 | false=>exact yea (QX7 s _ 0) (yea (QM3 s) h.2.1)
end Go.Proofs.YtgnlcjenoaoffaaGreatDoor
