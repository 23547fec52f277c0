/-
  What the last text of this claim leans on: an evaluator over the code, contracts of functions, plain laws. Conditions stand in each statement.
-/
import Derived.Test.YtackngeeehiegaaGreatDoorRE10
import Derived.Test.YtackngeeehiegaaGreatDoorProg
import Derived.Test.YtackngeeehiegaaGreatDoorRE8
import Derived.Test.YtackngeeehiegaaGreatDoorRE5
namespace Go.Proofs.YtackngeeehiegaaGreatDoor
set_option linter.unusedSimpArgs false
set_option linter.unusedVariables false
open Go.Fw
set_option maxRecDepth 20000
set_option maxHeartbeats 4000000
attribute [local irreducible] ACalls AMoves
def Ql8 (c:Cmd) (i1:Bool):Bool:=bif i1 then (Qf2 c.node 0 47) else bif (c.kind==10) then (((Qf2 c.from_ 0 1000000)&&c.hasTime)&&(Qf2 c.nodes 1 48)) else ((c.kind==12)&&(Qf2 c.job 0 99999))
def Qb7 (c:Cmd) (i:Bool):Bool:=bif i then (Qwc c.job) else bif (c.kind==5) then ((Qwc c.job)&&(c.hasPrio||c.hasTime)) else bif (c.kind==6) then ((Qwc c.job)&&(Qf2 c.nodes 1 48)) else bif (c.kind==7) then Ql8 c (c.kind==7) else bif (c.kind==8) then Ql8 c (c.kind==8) else Ql8 c (c.kind==9)
def Qq7 (c:Cmd):Bool:=bif ((((c.hasPrio&&(!(Qf2 c.prio 0 100)))||(c.hasTime&&(!(Q0c c.time))))||((!c.hasPrio)&&(c.prio != 0)))||((!c.hasTime)&&(c.time != 0))) then false else bif (c.kind==1) then (((((((Qs4 c.name)&&(Qs4 c.user))&&(Qs4 c.account))&&(QX4 c.user))&&(QX4 c.account))&&(QV6 c.after))&&((QF1 c.shape)==0)) else bif (c.kind==2) then Qb7 c (c.kind==2) else bif (c.kind==3) then Qb7 c (c.kind==3) else bif (c.kind==4) then Qb7 c (c.kind==4) else Qb7 c (c.kind==11)
theorem cmd_fits_c (c:Cmd) (hs0:c.sz):GV 234 [Cmd.a c] (Bo (Qq7 c)):=by
 generalize hR:Qq7 c=R;refine gA (kj [1000010,1000018] 3 [40,42,43,79,87,100,110,117]) Tryz.func234 ?_;have hk0:=hs0;obtain ⟨z25,z26,z27,z28,z29⟩:c.name.size<=4294967296∧c.user.size<=4294967296∧c.account.size<=4294967296∧(c.shape.alts.length<=4294967296)∧c.after.length<=4294967296:=hs0;(first|apply u2|apply u3|apply u4|apply us);exact QG2 c.prio 0 100 _;(first|apply u2|apply u3|apply u4|apply us);exact cmd_length_c c.time _;refine ai (fun h1=>?_) (fun h2=>?_)
 ·exact lfA
 ·refine ai (fun h3=>?_) (fun h4=>?_)
  ·refine us (Q1c c.name szA _) ?_;(first|apply u2|apply u3|apply u4|apply us);exact Q1c c.user szA _;(first|apply u2|apply u3|apply u4|apply us);exact Q1c c.account szA _;(first|apply u2|apply u3|apply u4|apply us);exact cmd_word_c c.user szA _;(first|apply u2|apply u3|apply u4|apply us);exact cmd_word_c c.account szA _;(first|apply u2|apply u3|apply u4|apply us);exact cmd_deps_c c.after szA _;(first|apply u2|apply u3|apply u4|apply us);exact QEb c.shape szA _;exact lfA
  ·refine QS1 (fun (i:Bool)=>Qb7 c i=R) (fun i=>[(1,AVal.ptr 0 0 18 0 0),(2,Bo false),(42,I c.kind),(79,Bo i)]) (fun i=>[(0,AObj.row 234 18 [[I c.kind,I c.job,Sg c.name,Sg c.user,Sg c.account,I c.shape.kind,altL c.shape.alts,I c.shape.min,I c.shape.max,I c.shape.wall,I c.prio,Bo c.hasPrio,I c.time,Bo c.hasTime,depL c.after,I c.node,I c.nodes,I c.from_]])]) ?_ ?_
   ·clear hR;rintro i hR;(try dsimp only at hR);refine ai (fun h5=>?_) (fun h6=>?_)
    ·refine us (Qvd c.job _) ?_;exact lfA
    ·refine ai (fun h7=>?_) (fun h8=>?_)
     ·refine us (Qvd c.job _) ?_;exact lfA
     ·refine ai (fun h9=>?_) (fun h10=>?_)
      ·refine us (Qvd c.job _) ?_;(first|apply u2|apply u3|apply u4|apply us);exact QG2 c.nodes 1 48 _;exact lfA
      ·refine QS1 (fun (i1:Bool)=>Ql8 c i1=R) (fun i1=>[(1,AVal.ptr 0 0 18 0 0),(2,Bo false),(42,I c.kind),(110,Bo i1)]) (fun i1=>[(0,AObj.row 234 18 [[I c.kind,I c.job,Sg c.name,Sg c.user,Sg c.account,I c.shape.kind,altL c.shape.alts,I c.shape.min,I c.shape.max,I c.shape.wall,I c.prio,Bo c.hasPrio,I c.time,Bo c.hasTime,depL c.after,I c.node,I c.nodes,I c.from_]])]) ?_ ?_
       ·clear hR;rintro i1 hR;(try dsimp only at hR);refine ai (fun h11=>?_) (fun h12=>?_)
        ·refine us (QG2 c.node 0 47 _) ?_;exact lfA
        ·refine ai (fun h13=>?_) (fun h14=>?_)
         ·refine us (QG2 c.from_ 0 1000000 _) ?_;(first|apply u2|apply u3|apply u4|apply us);exact QG2 c.nodes 1 48 _;exact lfA
         ·(first|apply u2|apply u3|apply u4|apply us);exact QG2 c.job 0 99999 _;exact lfA
       ·refine ai (fun h15=>?_) (fun h16=>?_)
        ·exact Qo0 (c.kind==7) (wkA [0]) (foll hR (cf h6 (cf h8 (cf h10 (ct h15 rfl)))))
        ·refine ai (fun h17=>?_) (fun h18=>?_)
         ·exact Qo0 (c.kind==8) (wkA [0]) (foll hR (cf h6 (cf h8 (cf h10 (cf h16 (ct h17 rfl))))))
         ·exact Qo0 (c.kind==9) (wkA [0]) (foll hR (cf h6 (cf h8 (cf h10 (cf h16 (cf h18 rfl))))))
   ·refine ai (fun h19=>?_) (fun h20=>?_)
    ·exact Qo0 (c.kind==2) (wkA [0]) (foll hR (cf h2 (cf h4 (ct h19 rfl))))
    ·refine ai (fun h21=>?_) (fun h22=>?_)
     ·exact Qo0 (c.kind==3) (wkA [0]) (foll hR (cf h2 (cf h4 (cf h20 (ct h21 rfl)))))
     ·refine ai (fun h23=>?_) (fun h24=>?_)
      ·exact Qo0 (c.kind==4) (wkA [0]) (foll hR (cf h2 (cf h4 (cf h20 (cf h22 (ct h23 rfl))))))
      ·exact Qo0 (c.kind==11) (wkA [0]) (foll hR (cf h2 (cf h4 (cf h20 (cf h22 (cf h24 rfl))))))
def QL7 (ok2:Bool):Int:=bif (!ok2) then 80 else 0
def QK7 (c:Cmd) (ok1:Bool):Int:=bif c.hasTime then QL7 (ok1&&(Q72 c.time 1 100000)) else QL7 (ok1&&(c.time==0))
def Ql2 (c:Cmd) (ok:Bool):Int:=bif c.hasPrio then QK7 c (ok&&(Q72 c.prio 0 100)) else QK7 c (ok&&(c.prio==0))
def QJ7 (c:Cmd) (i1:Bool):Int:=bif i1 then Ql2 c ((Qv5 c true true true true false true true)&&(Q72 c.node 0 47)) else bif (c.kind==10) then Ql2 c ((((Qv5 c true true true false true false false)&&(Q72 c.from_ 0 1000000))&&c.hasTime)&&(Q72 c.nodes 1 48)) else Ql2 c false
def Qi6 (c:Cmd) (i:Bool):Int:=bif i then Ql2 c ((Qv5 c false true true true true true true)&&(Q72 c.job 1 99999)) else bif (c.kind==12) then Ql2 c ((Qv5 c false true true true true true true)&&(Q72 c.job 0 99999)) else bif (c.kind==5) then Ql2 c (((Qv5 c false true false false true true true)&&(Q72 c.job 1 99999))&&(c.hasPrio||c.hasTime)) else bif (c.kind==6) then Ql2 c (((Qv5 c false true true true true false true)&&(Q72 c.job 1 99999))&&(Q72 c.nodes 1 48)) else bif (c.kind==7) then QJ7 c (c.kind==7) else bif (c.kind==8) then QJ7 c (c.kind==8) else QJ7 c (c.kind==9)
def Q26 (c:Cmd):Int:=bif (c.kind==1) then Ql2 c ((((((((Qv5 c true false false true true true true)&&(Qt5 c.name))&&(Qt5 c.user))&&(Qt5 c.account))&&(Qu5 c.user))&&(Qu5 c.account))&&(Qz8 c.after))&&((QT1 c.shape)==0)) else bif (c.kind==2) then Qi6 c (c.kind==2) else bif (c.kind==3) then Qi6 c (c.kind==3) else bif (c.kind==4) then Qi6 c (c.kind==4) else Qi6 c (c.kind==11)
def Qn3 (c:Cmd):Int:=bif ((((decide ((c.shape.alts.length:Int) > 6))||(decide ((c.after.length:Int) > 4)))||(!(Qq7 c)))||(!(Qz9 c (QU6 c)))) then 80 else 0
theorem b9a0 {P:Prop} (h:P:=by first|(exact cmd_bare_sz _ (by assumption))|exact szA):P:=h
theorem QTd (c:Cmd) (hs0:c.sz):GV 192 [Cmd.a c] (I (Qn3 c)):=by
 generalize hR:Qn3 c=R;refine gA (kp 3 [25]) Tryz.func192 ?_;have hk0:=hs0;obtain ⟨z3,z4,z5,z6,z7⟩:c.name.size<=4294967296∧c.user.size<=4294967296∧c.account.size<=4294967296∧(c.shape.alts.length<=4294967296)∧c.after.length<=4294967296:=hs0;refine dchk (by kernel_rfl) ?_;(first|apply u2|apply u3|apply u4|apply us);exact cmd_fits_c c b9a0 _;(first|apply u2|apply u3|apply u4|apply us);exact cmd_bare_c c b9a0 _;(first|apply u2|apply u3|apply u4|apply us);exact cmd_Same_c c (QU6 c) b9a0 b9a0 _;(repeat ((first|refine ai rfl ?_|refine ai (fun _=>rfl) ?_|refine ai (fun _=>cmd_fits_c c b9a0 _) ?_|refine ai (fun _=>cmd_bare_c c b9a0 _) ?_|refine ai (fun _=>cmd_Same_c c (QU6 c) b9a0 b9a0 _) ?_)));refine ai (fun h1=>?_) (fun h2=>?_)
 ·exact lfA
 ·exact lfA
def Qj6 (j:Job):List Dep->Nat->Int
 | [],_=>bif (!(Qe3 j)) then 140 else 0
 | x_ :: r,i=>bif (decide (x_.job >= j.id)) then 140 else Qj6 j r (i+1)
def Qsa (j:Job):Int:=bif (((((((Q26 (⟨1,0,j.name,j.user,j.account,j.shape,j.prio,true,0,false,j.after,0,0,0⟩:Cmd))!=0)||(decide (j.id<1)))||(decide (j.id > 99999)))||(!(QE1 j.born)))||(decide (j.used<0)))||(decide (j.used > 1000000000000))) then 140 else Qj6 j j.after 0
def QQ0 (j:Job):Int:=bif ((((((decide (j.id<1))||(decide (j.id > 99999)))||(!(Q22 j.born)))||(j.used != (Qw3 j.used)))||((Qn3 (Qe0 j))!=0))||(Qn0 j.after (fun (y:Dep)=>(decide (y.job >= j.id))))) then 140 else bif (j.state==1) then bif (!(Q52 j)) then 140 else 0 else bif (j.state==2) then bif (!(Qg1 j)) then 140 else 0 else bif (!(Qg7 j.state)) then 140 else bif (!(QB3 j)) then 140 else 0
theorem Qf7 (j:Job) (hs0:j.sz):GV 130 [Job.a j] (I (QQ0 j)):=by
 generalize hR:QQ0 j=R;refine gA (kp 6 [42,45,51,57,64]) Tryz.func130 ?_;obtain ⟨z19,z20,z21,z22,z23⟩:=Job.zz hs0;refine dchk (by kernel_rfl) ?_;(first|apply u2|apply u3|apply u4|apply us);exact Qp5 j.born _;(first|apply u2|apply u3|apply u4|apply us);exact QE8 j.used _;(first|apply u2|apply u3|apply u4|apply us);exact Qt6 j _;(first|apply u2|apply u3|apply u4|apply us);exact QTd (Qe0 j) szA _;have cl1:∀ (y1:Dep),AMoves Tryz.prog 190 [Dep.a y1,AVal.ptr 0 0 20 0 0] [(0,AObj.row 72 20 [[I j.id,Sg j.name,Sg j.user,Sg j.account,I j.shape.kind,altL j.shape.alts,I j.shape.min,I j.shape.max,I j.shape.wall,I j.prio,depL j.after,I j.state,Bo j.held,I j.born,I j.promise,I j.choice,I j.start,I j.limit,U j.nodes,I j.used]])] 1 (Bo ((fun (y:Dep)=>(decide (y.job >= j.id))) y1)) [(0,AObj.row 72 20 [[I j.id,Sg j.name,Sg j.user,Sg j.account,I j.shape.kind,altL j.shape.alts,I j.shape.min,I j.shape.max,I j.shape.wall,I j.prio,depL j.after,I j.state,Bo j.held,I j.born,I j.promise,I j.choice,I j.start,I j.limit,U j.nodes,I j.used]])]:=by
  intro y1;have hR:(fun (y:Dep)=>(decide (y.job >= j.id))) y1=(fun (y:Dep)=>(decide (y.job >= j.id))) y1:=rfl;refine mo (kp 4 []) Tryz.func190 ?_;refine Qi0 (fun r:Bool=>Bo r) (fun _=>[(0,AObj.row 72 20 [[I j.id,Sg j.name,Sg j.user,Sg j.account,I j.shape.kind,altL j.shape.alts,I j.shape.min,I j.shape.max,I j.shape.wall,I j.prio,depL j.after,I j.state,Bo j.held,I j.born,I j.promise,I j.choice,I j.start,I j.limit,U j.nodes,I j.used]])]) (leaf:=(decide (y1.job >= j.id))) (foll hR rfl) ?_;exact tt [0] (tO rfl (ts Job.lo) .nil) t1
 have hof1:AMoves Tryz.prog 194 [depL j.after,AVal.fn (.func 190) [] [AVal.ptr 0 0 20 0 0]] [(0,AObj.row 72 20 [[I j.id,Sg j.name,Sg j.user,Sg j.account,I j.shape.kind,altL j.shape.alts,I j.shape.min,I j.shape.max,I j.shape.wall,I j.prio,depL j.after,I j.state,Bo j.held,I j.born,I j.promise,I j.choice,I j.start,I j.limit,U j.nodes,I j.used]])] 1 (Bo (Qn0 j.after (fun (y:Dep)=>(decide (y.job >= j.id))))) [(0,AObj.row 72 20 [[I j.id,Sg j.name,Sg j.user,Sg j.account,I j.shape.kind,altL j.shape.alts,I j.shape.min,I j.shape.max,I j.shape.wall,I j.prio,depL j.after,I j.state,Bo j.held,I j.born,I j.promise,I j.choice,I j.start,I j.limit,U j.nodes,I j.used]])]:=by
  have hR:Qn0 j.after (fun (y:Dep)=>(decide (y.job >= j.id)))=Qn0 j.after (fun (y:Dep)=>(decide (y.job >= j.id))):=rfl;refine mo (kp 5 []) Tryz.func194 ?_;have hof2:AMoves Tryz.prog 237 [depL j.after,AVal.fn (.func 190) [] [AVal.ptr 0 0 20 0 0]] [(0,AObj.row 72 20 [[I j.id,Sg j.name,Sg j.user,Sg j.account,I j.shape.kind,altL j.shape.alts,I j.shape.min,I j.shape.max,I j.shape.wall,I j.prio,depL j.after,I j.state,Bo j.held,I j.born,I j.promise,I j.choice,I j.start,I j.limit,U j.nodes,I j.used]])] 1 (I (Q11 j.after (fun (y:Dep)=>(decide (y.job >= j.id))))) [(0,AObj.row 72 20 [[I j.id,Sg j.name,Sg j.user,Sg j.account,I j.shape.kind,altL j.shape.alts,I j.shape.min,I j.shape.max,I j.shape.wall,I j.prio,depL j.after,I j.state,Bo j.held,I j.born,I j.promise,I j.choice,I j.start,I j.limit,U j.nodes,I j.used]])]:=by
   have hR:Q11 j.after (fun (y:Dep)=>(decide (y.job >= j.id)))=Q11 j.after (fun (y:Dep)=>(decide (y.job >= j.id))):=rfl;refine mo (kp 6 [7,8,9,16]) Tryz.func237 ?_;refine Qv0 (fun (i:Nat)=>QD2 (fun (y:Dep)=>(decide (y.job >= j.id))) (List.drop i j.after) i=Q11 j.after (fun (y:Dep)=>(decide (y.job >= j.id)))∧i<=j.after.length) (fun i=>j.after.length - i) (fun i=>[(0,depL j.after),(1,AVal.fn (.func 190) [] [AVal.ptr 0 0 20 0 0]),(4,I 0),(7,I (j.after.length:Int)),(8,I (i:Int))]) (fun i=>[(0,AObj.row 72 20 [[I j.id,Sg j.name,Sg j.user,Sg j.account,I j.shape.kind,altL j.shape.alts,I j.shape.min,I j.shape.max,I j.shape.wall,I j.prio,depL j.after,I j.state,Bo j.held,I j.born,I j.promise,I j.choice,I j.start,I j.limit,U j.nodes,I j.used]])]) 0 (wkA [0]) ⟨foll hR rfl,by exact omA⟩ ?_;clear hR;rintro i ⟨hR,hj⟩;(try dsimp only at hR hj);refine ai (fun h1=>?_) (fun h2=>?_)
   ·have hlt:=ltA h1;rw [Qr0 Dep.zero hlt] at hR;refine ai gkA ?_;refine us (mv [0] (cl1 (j.after.getD i Dep.zero)) (dO (ds Job.lo) .nil) (dl (Dep.low _ _) (dp .nil)) (rO (re Job.lo) .nil) rx) ?_;refine ai (fun h3=>?_) (fun h4=>?_)
    ·refine Qi0 (fun r:Int=>I r) (fun r:Int=>[(0,AObj.row 72 20 [[I j.id,Sg j.name,Sg j.user,Sg j.account,I j.shape.kind,altL j.shape.alts,I j.shape.min,I j.shape.max,I j.shape.wall,I j.prio,depL j.after,I j.state,Bo j.held,I j.born,I j.promise,I j.choice,I j.start,I j.limit,U j.nodes,I j.used]])]) (leaf:=(i:Int)) (foll hR (ct h3 rfl)) ?_;exact tt [0] (tO rfl (ts Job.lo) .nil) t1
    ·exact Qy0 (i+1) (wkA [0]) omA ⟨folA,by exact omA⟩
   ·rw [Qs0 (l:=j.after) (j:=i) (geA h2)] at hR;refine Qi0 (fun r:Int=>I r) (fun r:Int=>[(0,AObj.row 72 20 [[I j.id,Sg j.name,Sg j.user,Sg j.account,I j.shape.kind,altL j.shape.alts,I j.shape.min,I j.shape.max,I j.shape.wall,I j.prio,depL j.after,I j.state,Bo j.held,I j.born,I j.promise,I j.choice,I j.start,I j.limit,U j.nodes,I j.used]])]) (leaf:=(-1)) (foll hR rfl) ?_;exact tt [0] (tO rfl (ts Job.lo) .nil) t1
  refine us (mv [0] (hof2) (dO (ds Job.lo) .nil) (dl lw (dv (dn_fn .nil (dp .nil)) .nil)) (rO (re Job.lo) .nil) rx) ?_;refine Qi0 (fun r:Bool=>Bo r) (fun r:Bool=>[(0,AObj.row 72 20 [[I j.id,Sg j.name,Sg j.user,Sg j.account,I j.shape.kind,altL j.shape.alts,I j.shape.min,I j.shape.max,I j.shape.wall,I j.prio,depL j.after,I j.state,Bo j.held,I j.born,I j.promise,I j.choice,I j.start,I j.limit,U j.nodes,I j.used]])]) (leaf:=(decide ((Q11 j.after (fun (y:Dep)=>(decide (y.job >= j.id)))) >= 0))) (foll hR rfl) ?_;exact tt [0] (tO rfl (ts Job.lo) .nil) t1
 (first|apply u2|apply u3|apply u4|apply us);exact mv [0] (hof1) (dO (ds Job.lo) .nil) (dl lw (dv (dn_fn .nil (dp .nil)) .nil)) (rO (re Job.lo) .nil) rx;(repeat ((first|refine ai rfl ?_|refine ai (fun _=>rfl) ?_|refine ai (fun _=>Qp5 j.born _) ?_|refine ai (fun _=>QE8 j.used _) ?_|refine ai (fun _=>Qt6 j _) ?_|refine ai (fun _=>QTd (Qe0 j) szA _) ?_)));refine ai (fun h5=>?_) (fun h6=>?_)
 ·exact lfA
 ·refine ai (fun h7=>?_) (fun h8=>?_)
  ·refine us (Q7c j szA _) ?_;refine ai (fun h9=>?_) (fun h10=>?_)
   ·exact lfA
   ·exact lfA
  ·refine ai (fun h11=>?_) (fun h12=>?_)
   ·refine us (Qab j szA _) ?_;refine ai (fun h13=>?_) (fun h14=>?_)
    ·exact lfA
    ·exact lfA
   ·refine us (job_ended_c j.state _) ?_;refine ai (fun h15=>?_) (fun h16=>?_)
    ·exact lfA
    ·refine us (Qbe j _) ?_;refine ai (fun h17=>?_) (fun h18=>?_)
     ·exact lfA
     ·exact lfA
theorem Q6d {j:Job} (h:((((QQ0 j)!=0)||(j.state != 1))||(decide (j.promise<0)))=false):0<=j.choice∧j.choice<((Q21 j.shape).length:Int):=by
 simp only [Bool.or_eq_false_iff,bne_eq_false_iff_eq,decide_eq_false_iff_not] at h
 obtain ⟨⟨h1,h2⟩,h3⟩:=h
 have hq:Q52 j=true:=by
  unfold QQ0 at h1
  revert h1
  rw [show (j.state==1)=true by simpa using h2]
  cases ((((((decide (j.id<1))||(decide (j.id > 99999)))||(!(Q22 j.born)))||(j.used != (Qw3 j.used)))||((Qn3 (Qe0 j))!=0))||(Qn0 j.after (fun (y:Dep)=>(decide (y.job >= j.id))))) with
  | true=>simp
  | false =>
   cases Q52 j with
   | true=>simp
   | false=>simp
 unfold Q52 at hq
 simp only [Bool.and_eq_true,Bool.or_eq_true] at hq
 rcases hq.2 with hp|hp
 ·have:=hp.1
  simp at this
  omega
 ·have ho:=hp.1.2
  unfold QE0 at ho
  cases hc:((decide (j.choice<0))||(decide (j.choice >= ((Q21 j.shape).length:Int)))) with
  | true=>rw [hc] at ho;cases ho
  | false=>simp at hc;omega
def Qk6 :List Job->Int->Nat->Int
 | [],_,_=>0
 | x_ :: r,last,i=>bif ((((i:Int)==40)||((Qsa x_)!=0))||(decide (x_.id<=last))) then 140 else Qk6 r x_.id (i+1)
def Qta (l:List Job):Int:=Qk6 l 0 0
def QK2 (l:List Job):List Job->Nat->Int
 | [],_=>0
 | x_ :: r,i=>bif (((QQ0 x_)!=0)||((decide ((i:Int) > 0))&&(decide ((l.getD (Int.toNat (w64 ((i:Int) - 1))) Job.zero).id >= x_.id)))) then 140 else QK2 l r (i+1)
def Qf1 (l:List Job):Int:=bif (decide ((l.length:Int) > 40)) then 140 else QK2 l l 0
theorem QI8 (l:List Job) (hs0:l.length<=4294967296∧(∀ y ∈ l,y.sz)):GV 125 [jobL l] (I (Qf1 l)):=by
 generalize hR:Qf1 l=R;refine gA (kp 5 [7,8,9,10,11,32]) Tryz.func125 ?_;obtain ⟨z12,z13⟩:=id hs0;refine ai (fun h1=>?_) (fun h2=>?_)
 ·have qh1:=of_decide_eq_true h1;exact lfA
 ·have qh2:=of_decide_eq_false h2;refine Qv0 (fun (i:Nat)=>QK2 l (List.drop i l) i=R∧i<=l.length) (fun i=>l.length - i) (fun i=>[(0,jobL l),(2,I 0),(8,jobL l),(9,I (l.length:Int)),(10,I (i:Int))]) (fun i=>[]) 0 (wkA []) ⟨folA,by exact omA⟩ ?_;clear hR;rintro i ⟨hR,hj⟩;(try dsimp only at hR hj);refine ai (fun h3=>?_) (fun h4=>?_)
  ·have hlt:=ltA h3;rw [Qr0 Job.zero hlt] at hR;have hxz:(l.getD i Job.zero).sz:=Q74 (by first|assumption|grind) (Job.szz _);have hkz:=hxz;obtain ⟨z5,z6,z7,z8,z9⟩:=Job.zz hxz;refine ai gkA ?_;refine dchk (by kernel_rfl) ?_;(first|apply u2|apply u3|apply u4|apply us);exact Qf7 (l.getD i Job.zero) szA _;refine ai gkA ?_;(repeat ((first|refine ai rfl ?_|refine ai (fun _=>rfl) ?_|refine ai (fun _=>Qf7 (l.getD i Job.zero) szA _) ?_)));refine ai (fun h10=>?_) (fun h11=>?_)
   ·exact lfA
   ·exact Qy0 (i+1) (wkA []) omA ⟨folA,by exact omA⟩
  ·rw [Qs0 (l:=l) (j:=i) (geA h4)] at hR;exact lfA
def QK1 (j:Job):Int × Int × Int × Bool:=bif ((((QQ0 j)!=0)||(j.state != 1))||(decide (j.promise<0))) then (0,0,0,false) else (j.promise,(w64 (((Q21 j.shape).getD (Int.toNat j.choice) Alt.zero).wall+12)),((Q21 j.shape).getD (Int.toNat j.choice) Alt.zero).nodes,true)
theorem room_Claim_c (j:Job) (hs0:j.sz):GV 82 [Job.a j] (AVal.tup [I ((QK1 j).1),I ((QK1 j).2.1),I ((QK1 j).2.2.1),Bo ((QK1 j).2.2.2)]):=by
 generalize hR:QK1 j=R;refine gA (kp 7 [19]) Tryz.func82 ?_;obtain ⟨z3,z4,z5,z6,z7⟩:=Job.zz hs0;refine us (Qf7 j szA _) ?_;refine ai (fun h1=>?_) (fun h2=>?_)
 ·exact lfA
 ·refine dchk (by kernel_rfl) ?_;(first|apply u2|apply u3|apply u4|apply us);exact QO5 j.shape szA _;refine And.intro (by first|exact fun hg=>decide_eq_true (by first|((have q:=Q6d (by assumption);omega))|exact ckA)|exact gkA) ?_;(repeat ((first|refine ai rfl ?_|refine ai (fun _=>rfl) ?_|refine ai (fun _=>QO5 j.shape szA _) ?_)));(try (refine dchk (by kernel_rfl) ?_));(repeat ((first|refine ai rfl ?_|refine ai (fun _=>rfl) ?_)));exact lfA
def Qk2 (j:Job) (set_:Int):Job × Int:=bif ((QQ0 j)!=0) then (Job.zero,(QQ0 j)) else bif ((j.state==2)&&((!(QF5 set_))||(!(Qn2 j.shape j.choice (Q30 set_))))) then (Job.zero,152) else bif ((Qbb (j.state==2))!=0) then (Job.zero,(Qbb (j.state==2))) else ({ j with nodes:=set_ },0)
theorem QI9 (j:Job) (set_:Int) (hs0:j.sz):GV 176 [Job.a j,U set_] (AVal.tup [Job.a ((Qk2 j set_).1),I ((Qk2 j set_).2)]):=by
 generalize hR:Qk2 j set_=R;refine gA (kp 7 []) Tryz.func176 ?_;obtain ⟨z7,z8,z9,z10,z11⟩:=Job.zz hs0;refine ACalls.of_cwp (fun _=>true) Tryz.func228 rfl rfl ?_;refine us (Qf7 j szA _) ?_;refine ai (fun h1=>?_) (fun h2=>?_)
 ·refine ⟨_,_,Told.refl,?_⟩;exact lfA
 ·refine ACalls.of_cwp (fun _=>true) Tryz.func224 rfl rfl ?_;refine dchk (by kernel_rfl) ?_;(first|apply u2|apply u3|apply u4|apply us);exact Qv8 set_ _;(first|apply u2|apply u3|apply u4|apply us);exact QG0 set_ _;(first|apply u2|apply u3|apply u4|apply us);exact Qp6 j.shape j.choice (Q30 set_) szA _;(repeat ((first|refine ai rfl ?_|refine ai (fun _=>rfl) ?_|refine ai (fun _=>Qv8 set_ _) ?_|refine ai (fun _=>QG0 set_ _) ?_|refine ai (fun _=>Qp6 j.shape j.choice (Q30 set_) szA _) ?_)));refine ai (fun h3=>?_) (fun h4=>?_)
  ·refine ⟨_,_,Told.refl,?_⟩;refine ai (fun _=>?_) (fun h=>nomatch h);refine ⟨_,_,Told.refl,?_⟩;exact lfA
  ·refine us (job_when_c (j.state==2) _) ?_;refine ⟨_,_,Told.refl,?_⟩;refine ai (fun h5=>?_) (fun h6=>?_)
   ·refine ⟨_,_,Told.refl,?_⟩;exact lfA
   ·refine us (job_copied_c j szA _) ?_;refine ACalls.of_cwp (fun _=>true) Tryz.func229 rfl rfl ?_;refine ⟨_,_,Told.refl,?_⟩;refine ⟨_,_,Told.refl,?_⟩;exact lfA
def Qwa (s:State):Int:=bif ((((!(QE1 s.now))||((QA8 s.nodes)!=0))||((Qta s.jobs)!=0))||((Qva s.books)!=0)) then 141 else 0
def QZ1 (s:State):Int:=bif (((((decide (s.now<0))||(decide (s.now > 1000000)))||((Q60 s.nodes)!=0))||((Qf1 s.jobs)!=0))||((Qi5 s.books)!=0)) then 141 else 0
theorem QRc (s:State) (hs0:s.sz):GV 121 [State.a s] (I (QZ1 s)):=by
 generalize hR:QZ1 s=R;refine gA (kp 3 [28]) Tryz.func121 ?_;have hk0:=hs0;obtain ⟨z3,z4,z5,z6,z7,z8,z9⟩:=hs0;(first|apply u2|apply u3|apply u4|apply us);exact Qw2 s.nodes szA _;(first|apply u2|apply u3|apply u4|apply us);exact QI8 s.jobs szA _;(first|apply u2|apply u3|apply u4|apply us);exact book_Check_c s.books szA _;refine ai (fun h1=>?_) (fun h2=>?_)
 ·exact lfA
 ·exact lfA
theorem Qid {s:State} (h:((QZ1 s)!=0)=false):1<=s.nodes.length∧s.nodes.length<=48:=by
 have hf:Q60 s.nodes=0:=by
  simp only [QZ1] at h
  revert h
  cases h2:(Q60 s.nodes != 0) with
  | true=>simp
  | false=>intro _;simpa using h2
 simp only [Q60] at hf
 revert hf
 cases h2:((decide ((s.nodes.length:Int)<1))||(decide ((s.nodes.length:Int) > 48))) with
 | true=>simp
 | false=>intro _;simp at h2;omega
theorem busy_ne {order:List Int} {i:Nat} {c:List (Int × Int)} {k:Int} (h:order ≠ []∨(i=0∧c=[])) (hg:(((getM k c).getD 0)==0)=false):order ≠ []:=by
 rcases h with h|⟨_,rfl⟩
 ·exact h
 ·simp [getM] at hg
theorem busy_order {s:State} {order:List Int} {i:Nat} {c:List (Int × Int)} (h:((QZ1 s)!=0)=false) (ho:order ≠ []∨(i=0∧c=[])) (hi:decide ((i:Int)<(s.nodes.length:Int))=false):order ≠ []:=by
 rcases ho with ho|⟨rfl,_⟩
 ·exact ho
 ·have:=(Qid h).1
  have:=of_decide_eq_false hi
  omega
def QK0 (l:List Job) (id_:Int):Job × Bool:=bif (((Qf1 l)!=0)||(!(Q66 id_))) then (Job.zero,false) else bif (!(Qk0 l id_).2) then (Job.zero,false) else (((List.drop (Int.toNat ((Qk0 l id_).1)) (List.take (Int.toNat (w64 ((Qk0 l id_).1+1))) l)).getD 0 Job.zero),true)
theorem Qz7 (l:List Job) (id_:Int) (hs0:l.length<=4294967296∧(∀ y ∈ l,y.sz)):GV 78 [jobL l,I id_] (AVal.tup [Job.a ((QK0 l id_).1),Bo ((QK0 l id_).2)]):=by
 generalize hR:QK0 l id_=R;refine gA (kp 8 [15,24]) Tryz.func78 ?_;obtain ⟨z5,z6⟩:=id hs0;refine us (QI8 l szA _) ?_;(first|apply u2|apply u3|apply u4|apply us);exact table_known_c id_ _;refine ai (fun h1=>?_) (fun h2=>?_)
 ·exact lfA
 ·refine us (QOb l id_ szA _) ?_;refine ai (fun h3=>?_) (fun h4=>?_)
  ·exact lfA
  ·refine And.intro (by first|exact fun hg=>decide_eq_true (by first|(have hp:=Q54 l id_ hs0.1 (by assumption);have pw:IntKind.i64.wrap ((Qk0 l id_).1+1)=(Qk0 l id_).1+1:=wr (by omega);simp only [Option.getD_some,pw,List.length_drop,List.length_take];omega)|exact ckA)|exact gkA) ?_;refine us (mv [] (QPb (List.drop (Int.toNat ((Qk0 l id_).1)) (List.take (Int.toNat (w64 ((Qk0 l id_).1+1))) l)) szA) .nil (dv (dn_as (as_cut l (Int.toNat ((Qk0 l id_).1)) (Int.toNat (w64 ((Qk0 l id_).1+1))) leA (by first|(have hp:=Q54 l id_ hs0.1 (by assumption);have pw:IntKind.i64.wrap ((Qk0 l id_).1+1)=(Qk0 l id_).1+1:=wr (by omega);simp only [Option.getD_some,pw,List.length_drop,List.length_take];omega)|exact ckA)) lw) .nil) (rO rr .nil) (rw_ 1 0 rfl)) ?_;refine And.intro (by first|exact fun hg=>decide_eq_true (by first|(have hp:=Q54 l id_ hs0.1 (by assumption);have pw:IntKind.i64.wrap ((Qk0 l id_).1+1)=(Qk0 l id_).1+1:=wr (by omega);simp only [Option.getD_some,pw,List.length_drop,List.length_take];omega)|exact ckA)|exact gkA) ?_;refine ⟨_,QN0 rfl rfl rfl (Qb1 Job.zero 0 (by first|rfl|exact Nat.zero_add _|omega) (by first|(have hp:=Q54 l id_ hs0.1 (by assumption);have pw:IntKind.i64.wrap ((Qk0 l id_).1+1)=(Qk0 l id_).1+1:=wr (by omega);simp only [Option.getD_some,pw,List.length_drop,List.length_take];omega)|exact ckA)) rfl,?_⟩;exact lfA
def Qw9 (out:List Job):(List Job) × Int:=(out,0)
def Qq4 (l:List Job) (j:Job):(List Job) × Int:=bif ((Qf1 l)!=0) then ([],(Qf1 l)) else bif ((QQ0 j)!=0) then ([],(QQ0 j)) else bif (!(Qk0 l j.id).2) then ([],140) else Qw9 (l.set (Int.toNat ((Qk0 l j.id).1)) j)
theorem b12a0 {P:Prop} (h:P:=by first|((exact hx))|first|((exact hy))|first|((assumption))|exact szA):P:=h
theorem QJ8 (l:List Job) (j:Job) (hs0:l.length<=4294967296∧(∀ y ∈ l,y.sz)) (hs1:j.sz):GV 177 [jobL l,Job.a j] (AVal.tup [jobL ((Qq4 l j).1),I ((Qq4 l j).2)]):=by
 generalize hR:Qq4 l j=R;refine gA (kj [1000012] 11 [14,19,29]) Tryz.func177 ?_;obtain ⟨z7,z8⟩:=id hs0;obtain ⟨z9,z10,z11,z12,z13⟩:=Job.zz hs1;refine us (QI8 l b12a0 _) ?_;refine ai (fun h1=>?_) (fun h2=>?_)
 ·exact lfA
 ·refine us (Qf7 j b12a0 _) ?_;refine ai (fun h3=>?_) (fun h4=>?_)
  ·exact lfA
  ·refine us (QOb l j.id b12a0 _) ?_;refine ai (fun h5=>?_) (fun h6=>?_)
   ·exact lfA
   ·refine us (mv [] (QA7 l b12a0) .nil (dl lw .nil) (rO rr .nil) (rw_ 1 0 rfl)) ?_;refine QS1 (fun (out:List Job)=>Qw9 out=R∧(out.length<=4294967296∧(∀ y ∈ out,y.sz))) (fun out=>[(4,AVal.lit (.slice none 0 0)),(5,I 0),(10,jobL out)]) (fun out=>[]) ?_ ?_
    ·clear hR;rintro out ⟨hR,hx⟩;(try dsimp only at hR hx);refine us (mv [] (QPb out b12a0) .nil (dl lw .nil) (rO rr .nil) (rw_ 0 0 rfl)) ?_;obtain rfl:=foll hR rfl;exact Q90 (Low.tup' (.cons lw (l1 .nil))) (Seen.tup (ev (Q80 Job.zero _ rfl eqA lnA) (e1 .nil)))
    ·refine And.intro (by first|exact fun hg=>decide_eq_true (by first|((have hq:=Q54 l j.id z7 (by assumption);omega))|exact ckA)|exact gkA) ?_;refine ⟨_,QH2 rfl rfl rfl rfl (Qb1 Job.zero (Int.toNat ((Qk0 l j.id).1)) (by first|rfl|exact Nat.zero_add _|omega) (by first|((have hq:=Q54 l j.id z7 (by assumption);omega))|exact ckA)) rfl rfl (set_map (Int.toNat ((Qk0 l j.id).1)) j (by first|rfl|exact Nat.zero_add _|omega) rfl),?_⟩;exact Qo0 (l.set (Int.toNat ((Qk0 l j.id).1)) j) (wk [] .nil (s1 (s1 (sv (Q87 _ _ rfl (Nat.zero_le _) (by decide) eqA (fun _=>Job.lowc _ _) lnA) .nil)))) (⟨folA,by first|((exact ⟨by rw [List.length_set];exact z7,fun y hy=>(List.mem_or_eq_of_mem_set hy).elim (z8 y) (fun e=>e ▸ hs1)⟩))|exact exA⟩)
def Qj7 (s:State):Int:=bif (((Qwa s)!=0)||((Qua s.ledger)!=0)) then 141 else 0
def QW1 (s:State):Int:=bif (((QZ1 s)!=0)||((Qq5 s.ledger)!=0)) then 141 else 0
theorem plan_Check_c (s:State) (hs0:s.sz):GV 72 [State.a s] (I (QW1 s)):=by
 generalize hR:QW1 s=R;refine gA (kp 3 [11]) Tryz.func72 ?_;have hk0:=hs0;obtain ⟨z3,z4,z5,z6,z7,z8,z9⟩:=hs0;refine us (QRc s szA _) ?_;(first|apply u2|apply u3|apply u4|apply us);exact ledger_Check_c s.ledger szA _;refine ai (fun h1=>?_) (fun h2=>?_)
 ·exact lfA
 ·exact lfA
theorem setM_sz (k:Int) (v:Job):∀ (l:List (Int × Job)),(∀ y ∈ l,y.2.sz)->v.sz -> ∀ y ∈ setM k v l,y.2.sz
 | [],_,hv,y,hy=>by
  rw [setM,List.mem_singleton] at hy
  subst hy
  exact hv
 | p :: r,h,hv,y,hy=>by
  rw [setM] at hy
  cases hk:(k==p.1) with
  | true =>
   rw [hk] at hy
   rcases List.mem_cons.1 hy with rfl|hy
   ·exact hv
   ·exact h y (List.mem_cons_of_mem _ hy)
  | false =>
   rw [hk] at hy
   rcases List.mem_cons.1 hy with rfl|hy
   ·exact h _ (List.mem_cons_self ..)
   ·exact setM_sz k v r (fun z hz=>h z (List.mem_cons_of_mem _ hz)) hv y hy
theorem getM_sz (k:Int):∀ (l:List (Int × Job)),(∀ y ∈ l,y.2.sz)->((getM k l).getD Job.zero).sz
 | [],_=>Job.szz _
 | p :: r,h=>by
  rw [getM]
  cases (k==p.1) with
  | true=>exact h p (List.mem_cons_self ..)
  | false=>exact getM_sz k r fun z hz=>h z (List.mem_cons_of_mem _ hz)
def Qx5 (s:State):List Node->List Int->Nat->List (Int × Int)->(List Int) × (List (Int × Int))
 | [],order,_,c=>(order,c)
 | x_ :: r,order,i,c=>bif (((getM (Qe1 x_ (QD0 s.jobs)) c).getD 0)==0) then Qx5 s r (order++([(Qe1 x_ (QD0 s.jobs))]:List Int)) (i+1) (setM (Qe1 x_ (QD0 s.jobs)) (w64 (((getM (Qe1 x_ (QD0 s.jobs)) c).getD 0)+1)) c) else Qx5 s r order (i+1) (setM (Qe1 x_ (QD0 s.jobs)) (w64 (((getM (Qe1 x_ (QD0 s.jobs)) c).getD 0)+1)) c)
def QD6 (order:List Int) (c:List (Int × Int)):List Int->Nat->Taken->Taken
 | [],_,c2=>c2
 | _ :: r,i1,c2=>QD6 order c r (i1+1) (Qs1 c2 0 ((sorted order).getD i1 0) ((getM ((sorted order).getD i1 0) c).getD 0))
def Qy5 (c2:Taken):(List Step):=c2.p
def Ql4 (s:State) (order:List Int) (c:List (Int × Int)):(List Step):=Qy5 (QD6 order c (sorted order) 0 (⟨(Qi4 (Q30 (Qp8 s.nodes)))⟩:Taken))
def QC6 (s:State):(List Step):=bif ((QZ1 s)!=0) then [] else Ql4 s ((Qx5 s s.nodes [] 0 []).1) ((Qx5 s s.nodes [] 0 []).2)
theorem b13a0 {P:Prop} (h:P:=by first|(exact ⟨.inr ⟨rfl,rfl⟩,Nat.le_refl _⟩)|first|(exact ⟨.inl (by simp),by simp;omega⟩)|first|(exact ⟨.inl (busy_ne hx.1 (by assumption)),by omega⟩)|first|(((try dsimp only);exact QK8 (by assumption)))|first|(((try dsimp only);exact QK8 hx))|first|(exact flat_len _)|exact exA):P:=h
theorem room_Busy_c (s:State) (hs0:s.sz):GV 90 [State.a s] (stepL (QC6 s)):=by
 generalize hR:QC6 s=R;refine gA (kp 12 [14,27,28,29,30,39,51,52,53,54]) Tryz.func90 ?_;have hk0:=hs0;obtain ⟨z9,z10,z11,z12,z13,z14,z15⟩:=hs0;refine us (QRc s szA _) ?_;refine ai (fun h1=>?_) (fun h2=>?_)
 ·exact lfA
 ·refine us (fleet_Up_c s.nodes szA _) ?_;refine us (QG0 (Qp8 s.nodes) _) ?_;refine us (profile_Flat_c (Q30 (Qp8 s.nodes)) _) ?_;refine us (mv [] (room_limits_o s.jobs szA) .nil (dl lw .nil) (rO (RenO.same _ (Qi7 fun _=>lx)) .nil) (Ren.map _ _ rfl)) ?_;refine Qpa (fun (order:List Int) (i:Nat) (c:List (Int × Int))=>Ql4 s (Qx5 s (List.drop i s.nodes) order i c).1 (Qx5 s (List.drop i s.nodes) order i c).2=R∧i<=s.nodes.length∧(order ≠ []∨(i=0∧c=[]))∧order.length<=i) (fun order i c=>s.nodes.length - i) (fun order i c=>[(2,AVal.lit (.slice none 0 0)),(3,AVal.ptr 0 0 1 0 0),(4,AVal.map 1),(5,AVal.map 2),(6,AVal.own 3 0 1 0 order.length),(27,nodeL s.nodes),(28,I (s.nodes.length:Int)),(29,I (i:Int))]) (fun order i c=>[(0,AObj.row 145 1 [[stepL (Qi4 (Q30 (Qp8 s.nodes)))]]),(0,AObj.other (.map (mapEs ik I 0 c) c.length)),(0,AObj.other (.map (mapEs ik I 0 (QD0 s.jobs)) (QD0 s.jobs).length)),(0,AObj.row 3 1 (order.map (fun q_=>[I q_])))]) [] 0 [] ((Qk3 3 1).trans (wkA [1,2,3,4])) ⟨folA,by exact omA,b13a0⟩ ?_;clear hR;rintro order i c ⟨hR,hj,hx⟩;(try dsimp only at hR hj hx);refine ai (fun h3=>?_) (fun h4=>?_)
  ·have hlt:=ltA h3;rw [Qr0 Node.zero hlt] at hR;refine ai gkA ?_;refine us (mv [2] (room_until_c (s.nodes.getD i Node.zero) (QD0 s.jobs)) (dO (.same _ (Qi7 fun _=>lx)) .nil) (dv (QP5 (Low.agg' (Node.lo))) (dv (dn_ren (Ren.map _ _ rfl)) .nil)) (rO (RenO.same _ (Qi7 fun _=>lx)) .nil) rx) ?_;(first|refine ⟨_,_,Qw1 rfl _ _,Qx1 (ek:=ik) (Qe1 (s.nodes.getD i Node.zero) (QD0 s.jobs)) c 0 (AsA.refl _),?_⟩|refine ⟨_,fun _=>⟨_,_,Qw1 rfl _ _,Qx1 (ek:=ik) (Qe1 (s.nodes.getD i Node.zero) (QD0 s.jobs)) c 0 (AsA.refl _),rfl,rfl⟩,?_⟩|refine ⟨_,rfl,⟨_,_,Qw1 rfl _ _,Qx1 (ek:=ik) (Qe1 (s.nodes.getD i Node.zero) (QD0 s.jobs)) c 0 (AsA.refl _),Sub.refl _,rfl⟩,?_⟩);refine ai (fun h5=>?_) (fun h6=>?_)
   ·refine Or.inl ?_;(first|refine ⟨Qe2 8 rfl lnA apA,?_⟩|refine ⟨Ql1 8 rfl apA,?_⟩);(first|refine ⟨_,_,Qw1 rfl _ _,Qx1 (ek:=ik) (Qe1 (s.nodes.getD i Node.zero) (QD0 s.jobs)) c 0 (AsA.refl _),?_⟩|refine ⟨_,fun _=>⟨_,_,Qw1 rfl _ _,Qx1 (ek:=ik) (Qe1 (s.nodes.getD i Node.zero) (QD0 s.jobs)) c 0 (AsA.refl _),rfl,rfl⟩,?_⟩|refine ⟨_,rfl,⟨_,_,Qw1 rfl _ _,Qx1 (ek:=ik) (Qe1 (s.nodes.getD i Node.zero) (QD0 s.jobs)) c 0 (AsA.refl _),Sub.refl _,rfl⟩,?_⟩);refine ⟨_,_,Qw1 rfl _ _,Qsb (ek:=ik) (Qe1 (s.nodes.getD i Node.zero) (QD0 s.jobs)) (w64 (((getM (Qe1 (s.nodes.getD i Node.zero) (QD0 s.jobs)) c).getD 0)+1)) c rfl rfl,?_⟩;exact QU5 (order++([(Qe1 (s.nodes.getD i Node.zero) (QD0 s.jobs))]:List Int)) (i+1) (setM (Qe1 (s.nodes.getD i Node.zero) (QD0 s.jobs)) (w64 (((getM (Qe1 (s.nodes.getD i Node.zero) (QD0 s.jobs)) c).getD 0)+1)) c) (wkA [0,1,2,3]) omA ⟨foll hR (congrArg (fun p:(List Int) × (List (Int × Int))=>Ql4 s p.1 p.2) (ct h5 rfl)),by exact omA,b13a0⟩
   ·(first|refine ⟨_,_,Qw1 rfl _ _,Qx1 (ek:=ik) (Qe1 (s.nodes.getD i Node.zero) (QD0 s.jobs)) c 0 (AsA.refl _),?_⟩|refine ⟨_,fun _=>⟨_,_,Qw1 rfl _ _,Qx1 (ek:=ik) (Qe1 (s.nodes.getD i Node.zero) (QD0 s.jobs)) c 0 (AsA.refl _),rfl,rfl⟩,?_⟩|refine ⟨_,rfl,⟨_,_,Qw1 rfl _ _,Qx1 (ek:=ik) (Qe1 (s.nodes.getD i Node.zero) (QD0 s.jobs)) c 0 (AsA.refl _),Sub.refl _,rfl⟩,?_⟩);refine ⟨_,_,Qw1 rfl _ _,Qsb (ek:=ik) (Qe1 (s.nodes.getD i Node.zero) (QD0 s.jobs)) (w64 (((getM (Qe1 (s.nodes.getD i Node.zero) (QD0 s.jobs)) c).getD 0)+1)) c rfl rfl,?_⟩;exact QU5 order (i+1) (setM (Qe1 (s.nodes.getD i Node.zero) (QD0 s.jobs)) (w64 (((getM (Qe1 (s.nodes.getD i Node.zero) (QD0 s.jobs)) c).getD 0)+1)) c) (wkA [0,1,2,3]) omA ⟨foll hR (congrArg (fun p:(List Int) × (List (Int × Int))=>Ql4 s p.1 p.2) (cf h6 rfl)),by exact omA,b13a0⟩
  ·rw [Qs0 (l:=s.nodes) (j:=i) (geA h4)] at hR;replace hR:Ql4 s order c=R:=fo2 (fun p:(List Int) × (List (Int × Int))=>Ql4 s p.1 p.2) (order,c) hR rfl;refine us (mv [3] (slices_Sort_c order szA (by exact busy_order (by assumption) hx.1 (by assumption))) (dO (dr eqA) .nil) (dv (Q85 rfl lnA) .nil) (rO rr .nil) rx) ?_;refine QF0 (fun (i1:Nat) (c2:Taken)=>Qy5 (QD6 order c (List.drop i1 (sorted order)) i1 c2)=R∧i1<=(sorted order).length∧c2.p.length<=4294967296) (fun i1 c2=>(sorted order).length - i1) (fun i1 c2=>[(2,AVal.lit (.slice none 0 0)),(3,AVal.ptr 0 0 1 0 0),(4,AVal.map 1),(51,AVal.own 2 0 1 0 ((sorted order).length)),(52,I ((sorted order).length:Int)),(53,I (i1:Int))]) (fun i1 c2=>[(0,AObj.row 145 1 [[stepL c2.p]]),(0,AObj.other (.map (mapEs ik I 0 c) c.length)),(0,AObj.row 3 1 ((sorted order).map (fun q_=>[I q_])))]) 0 (⟨(Qi4 (Q30 (Qp8 s.nodes)))⟩:Taken) (wk [0,1,3] (tO rfl (ts Taken.lo) (tO rfl (Qd8 _ rfl rfl (fun _=>lx)) (tO rfl (tl eqA) .nil))) (s1 (sv (Qc1 0 rfl rfl) (sv (turn_map 1 rfl rfl) (sv (to 2 lnA) (sv (turn_eq (I_eq (by simp)) lx) (s1 .nil))))))) ⟨foll hR rfl,by exact omA,b13a0⟩ ?_;clear hR;rintro i1 c2 ⟨hR,hj,hx⟩;(try dsimp only at hR hj hx);refine ai (fun h7=>?_) (fun h8=>?_)
   ·have hlt:=ltA h7;rw [Qr0 0 hlt] at hR;have hsl:=sorted_len order;refine ai gkA ?_;refine ⟨_,QN0 rfl rfl rfl (Qb1 0 i1 (by first|rfl|exact Nat.zero_add _|omega) ckA) rfl,?_⟩;(first|refine ⟨_,_,Qw1 rfl _ _,Qx1 (ek:=ik) ((sorted order).getD i1 0) c 0 (AsA.refl _),?_⟩|refine ⟨_,fun _=>⟨_,_,Qw1 rfl _ _,Qx1 (ek:=ik) ((sorted order).getD i1 0) c 0 (AsA.refl _),rfl,rfl⟩,?_⟩|refine ⟨_,rfl,⟨_,_,Qw1 rfl _ _,Qx1 (ek:=ik) ((sorted order).getD i1 0) c 0 (AsA.refl _),Sub.refl _,rfl⟩,?_⟩);refine us (mv [0] (Q46 c2 0 ((sorted order).getD i1 0) ((getM ((sorted order).getD i1 0) c).getD 0) szA) (dO (ds Taken.lo) .nil) (dp (d1 (d1 (d1 .nil)))) (rO (re Taken.lo) .nil) rx) ?_;exact Qh0 (i1+1) (Qs1 c2 0 ((sorted order).getD i1 0) ((getM ((sorted order).getD i1 0) c).getD 0)) (wkA [0,1,2]) omA ⟨foll hR (congrArg (fun p:Taken=>Qy5 p) rfl),by exact omA,b13a0⟩
   ·rw [Qs0 (l:=(sorted order)) (j:=i1) (geA h8)] at hR;replace hR:Qy5 c2=R:=fo2 (fun p:Taken=>Qy5 p) (c2) hR rfl;exact lfA
theorem QD3 (s:State):(QC6 s).length<=4294967296:=by
 have g2:∀ (o:List Int) (c:List (Int × Int)) (l:List Int) (i:Nat) (t:Taken),t.p.length<=4294967296->(QD6 o c l i t).p.length<=4294967296:=by
  intro o c l
  induction l with
  | nil=>intro i t h;exact h
  | cons x r ih=>intro i t h;rw [QD6];exact ih _ _ (QK8 h)
 unfold QC6 Ql4 Qy5
 cases ((QZ1 s)!=0) with
 | true=>simp
 | false=>exact g2 _ _ _ _ _ (flat_len _)
def QO1 :List Job->Int->Nat->Int × Nat
 | [],last,i=>(last,i)
 | x_ :: r,_,i=>QO1 r x_.id (i+1)
def QL4 :List Book->Int->Nat->Int × Nat
 | [],final,i1=>(final,i1)
 | x_1 :: r,_,i1=>QL4 r x_1.id (i1+1)
def QM4 (s:State):Nat->Bool->Nat->Bool × Nat
 | 0,_,_=>(false,0)
 | m+1,ok,i2=>bif ((decide ((i2:Int)<(s.resizes.length:Int)))&&ok) then QM4 s m ((QI1 s (s.resizes.getD i2 Resize.zero))&&(((i2:Int)==0)||(decide ((s.resizes.getD (Int.toNat (w64 ((i2:Int) - 1))) Resize.zero).job<(s.resizes.getD i2 Resize.zero).job)))) (i2+1) else (ok,i2)
def QN4 (s:State):Nat->Bool->Nat->Bool × Nat
 | 0,_,_=>(false,0)
 | m+1,ok1,n=>bif ((decide ((n:Int)<(s.nodes.length:Int)))&&ok1) then QN4 s m (QB4 s (n:Int)) (n+1) else (ok1,n)
def QO4 (s:State):Nat->Bool->Nat->Bool × Nat
 | 0,_,_=>(false,0)
 | m+1,ok2,i3=>bif ((decide ((i3:Int)<(s.jobs.length:Int)))&&ok2) then QO4 s m (((s.jobs.getD i3 Job.zero).state != 2)||((Qw7 s.nodes ((s.jobs.getD i3 Job.zero).id) 1)==(s.jobs.getD i3 Job.zero).nodes)) (i3+1) else (ok2,i3)
def Q7a (ok2:Bool) (i3:Nat):Int:=bif (!ok2) then 141 else 0
def Q6a (s:State) (ok1:Bool) (n:Nat):Int:=Q7a ((QO4 s ((Int.toNat ((s.jobs.length:Int) - (0:Int)))+1) ok1 0).1) ((QO4 s ((Int.toNat ((s.jobs.length:Int) - (0:Int)))+1) ok1 0).2)
def Q5a (s:State) (ok:Bool) (i2:Nat):Int:=Q6a s ((QN4 s ((Int.toNat ((s.nodes.length:Int) - (0:Int)))+1) ok 0).1) ((QN4 s ((Int.toNat ((s.nodes.length:Int) - (0:Int)))+1) ok 0).2)
def Q4a (s:State) (last:Int) (final:Int) (i1:Nat):Int:=Q5a s ((QM4 s ((Int.toNat ((s.resizes.length:Int) - (0:Int)))+1) ((Q57 s.nextJob last)&&(Q57 s.nextBook final)) 0).1) ((QM4 s ((Int.toNat ((s.resizes.length:Int) - (0:Int)))+1) ((Q57 s.nextJob last)&&(Q57 s.nextBook final)) 0).2)
def QP4 (s:State) (last:Int) (i:Nat):Int:=Q4a s last ((QL4 s.books 0 0).1) ((QL4 s.books 0 0).2)
def Qt2 (s:State):Int:=bif ((Qj7 s)!=0) then 141 else QP4 s ((QO1 s.jobs 0 0).1) ((QO1 s.jobs 0 0).2)
def Qu1 :List Job->Int->Nat->Int
 | [],lastJob,_=>lastJob
 | x_ :: r,_,i=>Qu1 r x_.id (i+1)
def QQ1 :List Book->Int->Nat->Int
 | [],lastBook,_=>lastBook
 | x_1 :: r,_,i1=>QQ1 r x_1.id (i1+1)
def QC0 :List Job->Nat->List (Int × Job)->(List (Int × Job))
 | [],_,c=>c
 | x_2 :: r,i2,c=>bif (x_2.state==2) then QC0 r (i2+1) (setM x_2.id x_2 c) else QC0 r (i2+1) c
def QB1 (s:State) (lastJob:Int) (lastBook:Int) (c:List (Int × Job)):List Resize->Nat->List (Int × Resize)->Int
 | [],_,c2=>bif ((((!true)||(!(Q71 s.nextJob lastJob)))||(!(Q71 s.nextBook lastBook)))||(!(Qu2 s c c2))) then 141 else bif (c.all (fun (en:Int × Job)=>(bif ((Qp2 s.nodes en.1)!=en.2.nodes) then false else true))) then 0 else 141
 | x_3 :: r,i3,c2=>bif (((!(getM x_3.job c).isSome)||((decide ((i3:Int) > 0))&&(decide ((s.resizes.getD (Int.toNat (w64 ((i3:Int) - 1))) Resize.zero).job >= x_3.job))))||(!(QJ2 s x_3 ((getM x_3.job c).getD Job.zero)))) then 141 else QB1 s lastJob lastBook c r (i3+1) (setM x_3.job x_3 c2)
def Qh3 (s:State) (lastJob:Int) (lastBook:Int) (c:List (Int × Job)):Int:=QB1 s lastJob lastBook c s.resizes 0 []
def Q44 (s:State) (lastJob:Int) (lastBook:Int):Int:=Qh3 s lastJob lastBook (QC0 s.jobs 0 [])
def Q34 (s:State) (lastJob:Int):Int:=Q44 s lastJob (QQ1 s.books 0 0)
def Qd0 (s:State):Int:=bif ((QW1 s)!=0) then 141 else Q34 s (Qu1 s.jobs 0 0)
theorem b14a0 {P:Prop} (h:P:=by first|(exact getM_sz _ _ (by assumption))|exact szA):P:=h
theorem b14a2 {P:Prop} (h:P:=by first|(exact setM_sz _ _ _ (by assumption) (by assumption))|first|(exact fun y hy=>absurd hy List.not_mem_nil)|first|(assumption)|exact exA):P:=h
theorem Q63 (s:State) (hs0:s.sz):GV 20 [State.a s] (I (Qd0 s)):=by
 generalize hR:Qd0 s=R;refine gA (kp 14 [16,18,19,20,21,28,29,30,31,68,70,72,82]) Tryz.func20 ?_;have hk0:=hs0;obtain ⟨z29,z30,z31,z32,z33,z34,z35⟩:=hs0;refine us (plan_Check_c s b14a0 _) ?_;refine ai (fun h1=>?_) (fun h2=>?_)
 ·exact lfA
 ·refine QF0 (fun (lastJob:Int) (i:Nat)=>Q34 s (Qu1 (List.drop i s.jobs) lastJob i)=R∧i<=s.jobs.length) (fun lastJob i=>s.jobs.length - i) (fun lastJob i=>[(1,AVal.ptr 0 0 8 0 0),(2,I 0),(3,I lastJob),(4,I 0),(18,jobL s.jobs),(19,I (s.jobs.length:Int)),(20,I (i:Int))]) (fun lastJob i=>[(0,AObj.row 28 8 [[I s.now,nodeL s.nodes,jobL s.jobs,Qc2 s.resizes,bookL s.books,Qb4 s.ledger,I s.nextJob,I s.nextBook]])]) 0 0 (wkA [0]) ⟨folA,by exact omA⟩ ?_;clear hR;rintro lastJob i ⟨hR,hj⟩;(try dsimp only at hR hj);refine ai (fun h3=>?_) (fun h4=>?_)
  ·have hlt:=ltA h3;rw [Qr0 Job.zero hlt] at hR;have hxz:(s.jobs.getD i Job.zero).sz:=Q74 (by first|assumption|grind) (Job.szz _);have hkz:=hxz;obtain ⟨z5,z6,z7,z8,z9⟩:=Job.zz hxz;refine ai gkA ?_;exact Qh0 ((s.jobs.getD i Job.zero).id) (i+1) (wkA [0]) omA ⟨foll hR (congrArg (fun p:Int=>Q34 s p) rfl),by exact omA⟩
  ·rw [Qs0 (l:=s.jobs) (j:=i) (geA h4)] at hR;replace hR:Q34 s lastJob=R:=fo2 (fun p:Int=>Q34 s p) (lastJob) hR rfl;refine QF0 (fun (lastBook:Int) (i1:Nat)=>Q44 s lastJob (QQ1 (List.drop i1 s.books) lastBook i1)=R∧i1<=s.books.length) (fun lastBook i1=>s.books.length - i1) (fun lastBook i1=>[(1,AVal.ptr 0 0 8 0 0),(2,I 0),(3,I lastJob),(4,I lastBook),(28,bookL s.books),(29,I (s.books.length:Int)),(30,I (i1:Int))]) (fun lastBook i1=>[(0,AObj.row 28 8 [[I s.now,nodeL s.nodes,jobL s.jobs,Qc2 s.resizes,bookL s.books,Qb4 s.ledger,I s.nextJob,I s.nextBook]])]) 0 0 (wkA [0]) ⟨foll hR rfl,by exact omA⟩ ?_;clear hR;rintro lastBook i1 ⟨hR,hj⟩;(try dsimp only at hR hj);refine ai (fun h10=>?_) (fun h11=>?_)
   ·have hlt:=ltA h10;rw [Qr0 Book.zero hlt] at hR;refine ai gkA ?_;exact Qh0 ((s.books.getD i1 Book.zero).id) (i1+1) (wkA [0]) omA ⟨foll hR (congrArg (fun p:Int=>Q44 s lastJob p) rfl),by exact omA⟩
   ·rw [Qs0 (l:=s.books) (j:=i1) (geA h11)] at hR;replace hR:Q44 s lastJob lastBook=R:=fo2 (fun p:Int=>Q44 s lastJob p) (lastBook) hR rfl;refine ACalls.of_cwp (fun _=>true) Tryz.func73 rfl rfl ?_;refine QF0 (fun (i2:Nat) (c:List (Int × Job))=>Qh3 s lastJob lastBook (QC0 (List.drop i2 s.jobs) i2 c)=R∧i2<=s.jobs.length ∧ ∀ y ∈ c,y.2.sz) (fun i2 c=>s.jobs.length - i2) (fun i2 c=>[(2,AVal.lit (.map none)),(3,AVal.map 1),(7,jobL s.jobs),(8,I (s.jobs.length:Int)),(9,I (i2:Int))]) (fun i2 c=>[(0,AObj.row 28 8 [[I s.now,nodeL s.nodes,jobL s.jobs,Qc2 s.resizes,bookL s.books,Qb4 s.ledger,I s.nextJob,I s.nextBook]]),(0,AObj.other (.map (mapEs ik Job.a 0 c) c.length))]) 0 [] (wkA [0,1]) ⟨foll hR rfl,by exact omA,b14a2⟩ ?_;clear hR;rintro i2 c ⟨hR,hj,hx⟩;(try dsimp only at hR hj hx);refine ai (fun h12=>?_) (fun h13=>?_)
    ·have hlt:=ltA h12;rw [Qr0 Job.zero hlt] at hR;have hxz:(s.jobs.getD i2 Job.zero).sz:=Q74 (by first|assumption|grind) (Job.szz _);have hkz:=hxz;obtain ⟨z14,z15,z16,z17,z18⟩:=Job.zz hxz;refine ai gkA ?_;refine ai (fun h19=>?_) (fun h20=>?_)
     ·refine ⟨_,_,Qw1 rfl _ _,Qsb (ek:=ik) ((s.jobs.getD i2 Job.zero).id) (s.jobs.getD i2 Job.zero) c rfl rfl,?_⟩;exact Qh0 (i2+1) (setM (s.jobs.getD i2 Job.zero).id (s.jobs.getD i2 Job.zero) c) (wkA [0,1]) omA ⟨foll hR (congrArg (fun p:(List (Int × Job))=>Qh3 s lastJob lastBook p) (ct h19 rfl)),by exact omA,b14a2⟩
     ·exact Qh0 (i2+1) c (wkA [0,1]) omA ⟨foll hR (congrArg (fun p:(List (Int × Job))=>Qh3 s lastJob lastBook p) (cf h20 rfl)),by exact omA,b14a2⟩
    ·rw [Qs0 (l:=s.jobs) (j:=i2) (geA h13)] at hR;replace hR:Qh3 s lastJob lastBook c=R:=fo2 (fun p:(List (Int × Job))=>Qh3 s lastJob lastBook p) (c) hR rfl;refine ⟨_,_,Told.refl,?_⟩;refine ACalls.of_cwp (fun _=>true) Tryz.func74 rfl rfl ?_;refine QF0 (fun (i3:Nat) (c2:List (Int × Resize))=>QB1 s lastJob lastBook c (List.drop i3 s.resizes) i3 c2=R∧i3<=s.resizes.length) (fun i3 c2=>s.resizes.length - i3) (fun i3 c2=>[(1,AVal.map 1),(2,AVal.ptr 2 0 8 0 0),(4,AVal.lit (.map none)),(5,Bo false),(6,AVal.map 3),(13,Qc2 s.resizes),(14,I (s.resizes.length:Int)),(15,I (i3:Int))]) (fun i3 c2=>[(0,AObj.row 28 8 [[I s.now,nodeL s.nodes,jobL s.jobs,Qc2 s.resizes,bookL s.books,Qb4 s.ledger,I s.nextJob,I s.nextBook]]),(0,AObj.other (.map (mapEs ik Job.a 0 c) c.length)),(0,AObj.row 28 8 [[I s.now,nodeL s.nodes,jobL s.jobs,Qc2 s.resizes,bookL s.books,Qb4 s.ledger,I s.nextJob,I s.nextBook]]),(0,AObj.other (.map (mapEs ik Resize.a 0 c2) c2.length))]) 0 [] (wkA [0,1,2,3]) ⟨foll hR rfl,by exact omA⟩ ?_;clear hR;rintro i3 c2 ⟨hR,hj⟩;(try dsimp only at hR hj);refine ai (fun h21=>?_) (fun h22=>?_)
     ·have hlt:=ltA h21;rw [Qr0 Resize.zero hlt] at hR;refine ai gkA ?_;(first|refine ⟨_,_,Qw1 rfl _ _,Qx1 (ek:=ik) ((s.resizes.getD i3 Resize.zero).job) c Job.zero (as_agg (a1 (a1 (a1 (a1 (a1 (av (QR6) (a1 (a1 (a1 (a1 (av (QR6) (a1 (a1 (a1 (a1 (a1 (a1 (a1 (a1 (a1 .nil))))))))))))))))))))),?_⟩|refine ⟨_,fun _=>⟨_,_,Qw1 rfl _ _,Qx1 (ek:=ik) ((s.resizes.getD i3 Resize.zero).job) c Job.zero (as_agg (a1 (a1 (a1 (a1 (a1 (av (QR6) (a1 (a1 (a1 (a1 (av (QR6) (a1 (a1 (a1 (a1 (a1 (a1 (a1 (a1 (a1 .nil))))))))))))))))))))),rfl,rfl⟩,?_⟩|refine ⟨_,rfl,⟨_,_,Qw1 rfl _ _,Qx1 (ek:=ik) ((s.resizes.getD i3 Resize.zero).job) c Job.zero (as_agg (a1 (a1 (a1 (a1 (a1 (av (QR6) (a1 (a1 (a1 (a1 (av (QR6) (a1 (a1 (a1 (a1 (a1 (a1 (a1 (a1 (a1 .nil))))))))))))))))))))),Sub.refl _,rfl⟩,?_⟩);refine dchk (by kernel_rfl) ?_;refine ai gkA ?_;(first|apply u2|apply u3|apply u4|apply us);exact Qca s (s.resizes.getD i3 Resize.zero) ((getM (s.resizes.getD i3 Resize.zero).job c).getD Job.zero) b14a0 b14a0 _;(repeat ((first|refine ai rfl ?_|refine ai (fun _=>rfl) ?_|refine ai (fun _=>Qca s (s.resizes.getD i3 Resize.zero) ((getM (s.resizes.getD i3 Resize.zero).job c).getD Job.zero) b14a0 b14a0 _) ?_)));refine ai (fun h23=>?_) (fun h24=>?_)
      ·refine ⟨_,_,Told.refl,?_⟩;(first|refine ⟨Bo false,_,fun h=>absurd h (by decide),fun _=>rfl,?_⟩|refine ⟨Bo false,fun h=>absurd h (by decide),?_⟩|refine ⟨Bo false,_,fun h=>absurd h (by simp),fun _=>rfl,?_⟩|refine ⟨Bo false,fun h=>absurd h (by simp),?_⟩);(first|refine ⟨Bo false,_,fun h=>absurd h (by decide),fun _=>rfl,?_⟩|refine ⟨Bo false,fun h=>absurd h (by decide),?_⟩|refine ⟨Bo false,_,fun h=>absurd h (by simp),fun _=>rfl,?_⟩|refine ⟨Bo false,fun h=>absurd h (by simp),?_⟩);(first|refine ⟨Bo false,_,fun h=>absurd h (by decide),fun _=>rfl,?_⟩|refine ⟨Bo false,fun h=>absurd h (by decide),?_⟩|refine ⟨Bo false,_,fun h=>absurd h (by simp),fun _=>rfl,?_⟩|refine ⟨Bo false,fun h=>absurd h (by simp),?_⟩);refine ai (fun _=>?_) (fun h=>nomatch h);exact lfA
      ·refine ⟨_,_,Qw1 rfl _ _,Qsb (ek:=ik) ((s.resizes.getD i3 Resize.zero).job) (s.resizes.getD i3 Resize.zero) c2 rfl rfl,?_⟩;exact Qh0 (i3+1) (setM (s.resizes.getD i3 Resize.zero).job (s.resizes.getD i3 Resize.zero) c2) (wkA [0,1,2,3]) omA ⟨folA,by exact omA⟩
     ·rw [Qs0 (l:=s.resizes) (j:=i3) (geA h22)] at hR;refine ⟨_,_,Told.refl,?_⟩;(first|apply u2|apply u3|apply u4|apply us);exact QVc s.nextJob lastJob _;(first|apply u2|apply u3|apply u4|apply us);exact QVc s.nextBook lastBook _;(first|apply u2|apply u3|apply u4|apply us);exact mv [1,3] (state_nodes_c s c c2 b14a0) (dO (.same _ (Qi7 fun _=>Job.low _ _)) (dO (.same _ (Qi7 fun _=>Resize.low _ _)) .nil)) (dv (QP5 (Low.agg' (State.lo))) (dv (dn_ren (Ren.map _ _ rfl)) (dv (dn_ren (Ren.map _ _ rfl)) .nil))) (rO (RenO.same _ (Qi7 fun _=>Job.low _ _)) (rO (RenO.same _ (Qi7 fun _=>Resize.low _ _)) .nil)) rx;refine ai (fun h25=>?_) (fun h26=>?_)
      ·exact lfA
      ·refine loop_start (X:=Array Nat) (fun x=>(bif (c.all (fun (en:Int × Job)=>(bif ((Qp2 s.nodes en.1)!=en.2.nodes) then false else true))) then 0 else 141)=R ∧ ∀ j,j<c.length->x.contains j=true->(fun (en:Int × Job)=>(bif ((Qp2 s.nodes en.1)!=en.2.nodes) then false else true)) (c.getD j ((0,Job.zero):Int × Job))=true) (fun x=>unseen c.length x) (fun seen=>[(1,AVal.ptr 0 0 8 0 0),(2,I 0),(70,AVal.ptr 2 0 1 0 0)]) (fun seen=>[(0,AObj.row 28 8 [[I s.now,nodeL s.nodes,jobL s.jobs,Qc2 s.resizes,bookL s.books,Qb4 s.ledger,I s.nextJob,I s.nextBook]]),(0,AObj.other (.map (mapEs ik Job.a 0 c) c.length)),(0,AObj.other (.mapIter 1 c.length seen c.length))]) #[] (wk [0,1,4] (tO rfl (ts State.lo) (tO rfl (Qd8 _ rfl rfl (fun _=>Job.low _ _)) (tO rfl (turn_miter 1 rfl rfl) .nil))) (sv (Qc1 0 rfl rfl) (s1 (sv (Qc1 2 rfl rfl) .nil)))) ⟨folA,fun j hj hc=>absurd hc (by simp)⟩ ?_;clear hR;rintro seen ⟨hR,hx⟩;refine map_round ((0,Job.zero):Int × Job) (fun j hj hns=>?_) (fun hall=>?_)
       ·refine ai (fun _=>?_) (fun h=>nomatch h);refine ⟨_,entry_map ((0,Job.zero):Int × Job) rfl rfl hj,?_⟩;refine dchk (by kernel_rfl) ?_;(first|apply u2|apply u3|apply u4|apply us);exact Quc s.nodes ((c.getD j ((0,Job.zero):Int × Job)).1) b14a0 _;(repeat ((first|refine ai rfl ?_|refine ai (fun _=>rfl) ?_|refine ai (fun _=>Quc s.nodes ((c.getD j ((0,Job.zero):Int × Job)).1) b14a0 _) ?_)));refine ai (fun h27=>?_) (fun h28=>?_)
        ·obtain rfl:=foll hR ((cond_f (all_f (p:=(fun (en:Int × Job)=>(bif ((Qp2 s.nodes en.1)!=en.2.nodes) then false else true))) hj (ct h27 rfl))).trans rfl);exact Q90 lx sr
        ·exact loop_next (seen.push j) (unseen_push hj hns) (wk [0,1,2] (tO rfl (ts State.lo) (tO rfl (Qd8 _ rfl rfl (fun _=>Job.low _ _)) (tO rfl (turn_miter 1 rfl rfl) .nil))) (sv (Qc1 0 rfl rfl) (s1 (sv (Qc1 2 rfl rfl) .nil)))) ⟨hR,seen_push (p:=(fun (en:Int × Job)=>(bif ((Qp2 s.nodes en.1)!=en.2.nodes) then false else true))) hx (cf h28 rfl)⟩
       ·refine ai (fun h=>nomatch h) (fun _=>?_);obtain rfl:=foll hR (ct (all_t hall hx) rfl);exact Q90 lx sr
def Qm4 :List Book->Nat->Taken->Taken
 | [],_,c=>c
 | x_ :: r,i,c=>Qm4 r (i+1) (Qs1 c x_.from_ x_.to x_.nodes)
def Q53 (except:List Int):List Job->Nat->Taken->Taken
 | [],_,c2=>c2
 | x_1 :: r,i1,c2=>bif (!(Qo1 except x_1.id)) then bif (QK1 x_1).2.2.2 then Q53 except r (i1+1) (Qs1 c2 ((QK1 x_1).1) (w64 ((QK1 x_1).1+(QK1 x_1).2.1)) ((QK1 x_1).2.2.1)) else Q53 except r (i1+1) c2 else Q53 except r (i1+1) c2
def QA3 (c2:Taken):(List Step):=c2.p
def Qz5 (s:State) (except:List Int) (c:Taken):(List Step):=QA3 (Q53 except s.jobs 0 c)
def QE6 (s:State) (except:List Int):(List Step):=Qz5 s except (Qm4 s.books 0 (⟨(QC6 s)⟩:Taken))
theorem take_nil (f t n:Int):Qs1 (⟨[]⟩:Taken) f t n=⟨[]⟩:=by
 unfold Qs1
 cases ((decide (t<=f))||(n==0)) <;> rfl
theorem room_Room_nil {s:State} {except:List Int} (h:(QC6 s).length=0):QE6 s except=[]:=by
 have g1:∀ (l:List Book) (i:Nat),Qm4 l i (⟨[]⟩:Taken)=⟨[]⟩:=by
  intro l
  induction l with
  | nil=>intro i;rfl
  | cons x r ih=>intro i;rw [Qm4,take_nil];exact ih _
 have g2:∀ (l:List Job) (i:Nat),Q53 except l i (⟨[]⟩:Taken)=⟨[]⟩:=by
  intro l
  induction l with
  | nil=>intro i;rfl
  | cons x r ih =>
   intro i
   rw [Q53,take_nil]
   repeat' first|exact ih _|(rw [Bool.cond_eq_ite];split)
 unfold QE6 Qz5 QA3
 rw [List.eq_nil_of_length_eq_zero h,g1,g2]
theorem b14a1 {P:Prop} (h:P:=by first|(((try dsimp only);exact QK8 (by assumption)))|first|(((try dsimp only);exact QK8 hx))|first|(exact QD3 _)|exact exA):P:=h
theorem QOe (s:State) (except:List Int) (hs0:s.sz) (hs1:except.length<=4294967296):GV 35 [State.a s,ints except] (stepL (QE6 s except)):=by
 generalize hR:QE6 s except=R;refine gA (kp 12 [15,21,22,23,24,37,38,39,40,47]) Tryz.func35 ?_;have hk0:=hs0;obtain ⟨z14,z15,z16,z17,z18,z19,z20⟩:=hs0;have hk1:=hs1;obtain z21:except.length<=4294967296:=hs1;refine us (room_Busy_c s (by first|(exact QD3 _)|exact szA) _) ?_;intro nb3 hb3
 cases nb3
 ·refine ai (fun h=>nomatch h) (fun _=>?_);refine QF0 (fun (i:Nat) (c:Taken)=>Qz5 s except (Qm4 (List.drop i s.books) i c)=R∧i<=s.books.length∧c.p.length<=4294967296) (fun i c=>s.books.length - i) (fun i c=>[(1,ints except),(2,AVal.ptr 0 0 8 0 0),(4,AVal.lit (.slice none 0 0)),(6,AVal.ptr 2 0 1 0 0),(7,AVal.fn (.func 91) [] [AVal.ptr 2 0 1 0 0]),(21,bookL s.books),(22,I (s.books.length:Int)),(23,I (i:Int))]) (fun i c=>[(0,AObj.row 28 8 [[I s.now,nodeL s.nodes,jobL s.jobs,Qc2 s.resizes,bookL s.books,Qb4 s.ledger,I s.nextJob,I s.nextBook]]),(0,AObj.row 145 1 [[stepL c.p]]),(0,AObj.row 143 1 [[AVal.ptr 1 0 1 0 0]])]) 0 (⟨(QC6 s)⟩:Taken) (wkA [0,1,2]) ⟨foll hR rfl,by exact omA,b14a1⟩ ?_;clear hR;rintro i c ⟨hR,hj,hx⟩;(try dsimp only at hR hj hx);refine ai (fun h1=>?_) (fun h2=>?_)
  ·have hlt:=ltA h1;rw [Qr0 Book.zero hlt] at hR;refine ai gkA ?_;refine us (mv [1] (Q46 c ((s.books.getD i Book.zero).from_) ((s.books.getD i Book.zero).to) ((s.books.getD i Book.zero).nodes) (by first|(exact QD3 _)|exact szA)) (dO (ds Taken.lo) .nil) (dp (d1 (d1 (d1 .nil)))) (rO (re Taken.lo) .nil) rx) ?_;exact Qh0 (i+1) (Qs1 c (s.books.getD i Book.zero).from_ (s.books.getD i Book.zero).to (s.books.getD i Book.zero).nodes) (wkA [0,1,2]) omA ⟨foll hR (congrArg (fun p:Taken=>Qz5 s except p) rfl),by exact omA,b14a1⟩
  ·rw [Qs0 (l:=s.books) (j:=i) (geA h2)] at hR;replace hR:Qz5 s except c=R:=fo2 (fun p:Taken=>Qz5 s except p) (c) hR rfl;refine QF0 (fun (i1:Nat) (c2:Taken)=>QA3 (Q53 except (List.drop i1 s.jobs) i1 c2)=R∧i1<=s.jobs.length∧c2.p.length<=4294967296) (fun i1 c2=>s.jobs.length - i1) (fun i1 c2=>[(1,ints except),(4,AVal.lit (.slice none 0 0)),(6,AVal.ptr 1 0 1 0 0),(7,AVal.fn (.func 91) [] [AVal.ptr 1 0 1 0 0]),(37,jobL s.jobs),(38,I (s.jobs.length:Int)),(39,I (i1:Int))]) (fun i1 c2=>[(0,AObj.row 145 1 [[stepL c2.p]]),(0,AObj.row 143 1 [[AVal.ptr 0 0 1 0 0]])]) 0 c (wkA [1,2]) ⟨foll hR rfl,by exact omA,b14a1⟩ ?_;clear hR;rintro i1 c2 ⟨hR,hj,hx⟩;(try dsimp only at hR hj hx);refine ai (fun h3=>?_) (fun h4=>?_)
   ·have hlt:=ltA h3;rw [Qr0 Job.zero hlt] at hR;have hxz:(s.jobs.getD i1 Job.zero).sz:=Q74 (by first|assumption|grind) (Job.szz _);have hkz:=hxz;obtain ⟨z5,z6,z7,z8,z9⟩:=Job.zz hxz;refine ai gkA ?_;refine us (Q02 except ((s.jobs.getD i1 Job.zero).id) (by first|(exact QD3 _)|exact szA) _) ?_;refine ai (fun h10=>?_) (fun h11=>?_)
    ·refine ACalls.of_cwp (fun _=>true) Tryz.func91 rfl rfl ?_;refine us (room_Claim_c (s.jobs.getD i1 Job.zero) (by first|(exact QD3 _)|exact szA) _) ?_;refine ai (fun h12=>?_) (fun h13=>?_)
     ·refine us (mv [0] (Q46 c2 ((QK1 (s.jobs.getD i1 Job.zero)).1) (w64 ((QK1 (s.jobs.getD i1 Job.zero)).1+(QK1 (s.jobs.getD i1 Job.zero)).2.1)) ((QK1 (s.jobs.getD i1 Job.zero)).2.2.1) (by first|(exact QD3 _)|exact szA)) (dO (ds Taken.lo) .nil) (dp (d1 (d1 (d1 .nil)))) (rO (re Taken.lo) .nil) rx) ?_;refine ⟨_,_,Told.refl,?_⟩;exact Qh0 (i1+1) (Qs1 c2 ((QK1 (s.jobs.getD i1 Job.zero)).1) (w64 ((QK1 (s.jobs.getD i1 Job.zero)).1+(QK1 (s.jobs.getD i1 Job.zero)).2.1)) ((QK1 (s.jobs.getD i1 Job.zero)).2.2.1)) (wkA [0,1]) omA ⟨foll hR (congrArg (fun p:Taken=>QA3 p) (ct h10 (ct h12 rfl))),by exact omA,b14a1⟩
     ·refine ⟨_,_,Told.refl,?_⟩;exact Qh0 (i1+1) c2 (wkA [0,1]) omA ⟨foll hR (congrArg (fun p:Taken=>QA3 p) (ct h10 (cf h13 rfl))),by exact omA,b14a1⟩
    ·exact Qh0 (i1+1) c2 (wkA [0,1]) omA ⟨foll hR (congrArg (fun p:Taken=>QA3 p) (cf h11 rfl)),by exact omA,b14a1⟩
   ·rw [Qs0 (l:=s.jobs) (j:=i1) (geA h4)] at hR;replace hR:QA3 c2=R:=fo2 (fun p:Taken=>QA3 p) (c2) hR rfl;exact lfA
 ·have hl3:(QC6 s).length=0:=Decidable.byContradiction fun hn=>absurd (hb3 hn) (by decide);refine ai (fun _=>?_) (fun h=>nomatch h);obtain rfl:=foll hR (room_Room_nil hl3);exact Q90 lw (Q40)
theorem Qx0 (s:State) (ex:List Int):(QE6 s ex).length<=4294967296:=by
 have g1:∀ (l:List Book) (i:Nat) (t:Taken),t.p.length<=4294967296->(Qm4 l i t).p.length<=4294967296:=by
  intro l
  induction l with
  | nil=>intro i t h;exact h
  | cons x r ih=>intro i t h;rw [Qm4];exact ih _ _ (QK8 h)
 have g2:∀ (l:List Job) (i:Nat) (t:Taken),t.p.length<=4294967296->(Q53 ex l i t).p.length<=4294967296:=by
  intro l
  induction l with
  | nil=>intro i t h;exact h
  | cons x r ih =>
   intro i t h
   rw [Q53]
   repeat' first|exact ih _ _ h|exact ih _ _ (QK8 h)|(rw [Bool.cond_eq_ite];split)
 exact g2 _ _ _ (g1 _ _ _ (QD3 s))
def Qf3 (s:State) (id_:Int):Resize × Bool:=bif (((Q15 s id_).nodes==0)||((Qt2 s)!=0)) then (Resize.zero,false) else ((Q15 s id_),true)
def Qt0 (s:State) (id_:Int) (size:Int):State × (List Note) × Int:=bif ((Qd0 s)!=0) then (State.zero,[],(Qd0 s)) else (fun tf:Job × Bool=>bif (!tf.2) then (State.zero,[],140) else bif (tf.1.state != 2) then (State.zero,[],141) else bif (((tf.1.shape.kind != 3)||(!(Q65 s.nodes tf.1.nodes)))||((Q30 tf.1.nodes)==size)) then (State.zero,[],250) else bif (Q00 s.resizes id_ bsrF).2 then (State.zero,[],250) else bif ((decide (size<tf.1.shape.min))||(decide (size > tf.1.shape.max))) then (State.zero,[],152) else bif (decide ((w64 (size - (Q30 tf.1.nodes))) > 0)) then bif (!(fit_Fits (QE6 s []) s.now (w64 ((w64 (tf.1.limit+12)) - s.now)) (w64 (size - (Q30 tf.1.nodes))))) then (State.zero,[],130) else (fun gr:(List Node) × Int × (List Note) × Int=>bif (gr.2.2.2 != 0) then (State.zero,[],gr.2.2.2) else ({ s with nodes:=gr.1,resizes:=(QR2 s.resizes ((Q00 s.resizes id_ bsrF).1) ([(⟨id_,true,gr.2.1,0,s.now⟩:Resize)]:List Resize)) },gr.2.2.1,0)) (Q45 s.nodes (w64 (size - (Q30 tf.1.nodes))) 2 id_ s.now) else (fun ea:(List Node) × (List Note) × Int=>bif (ea.2.2 != 0) then (State.zero,[],ea.2.2) else ({ s with nodes:=ea.1,resizes:=(QR2 s.resizes ((Q00 s.resizes id_ bsrF).1) ([(⟨id_,false,(Qq1 tf.1.nodes (w64 (0 - (w64 (size - (Q30 tf.1.nodes)))))).1,0,s.now⟩:Resize)]:List Resize)) },ea.2.1,0)) (Qq0 s.nodes ((Qq1 tf.1.nodes (w64 (0 - (w64 (size - (Q30 tf.1.nodes)))))).1) 5 0 s.now)) (QK0 s.jobs id_)
theorem Q8a (s:State) (id_:Int) (size:Int) (hs0:s.sz):GV 10 [State.a s,I id_,I size] (AVal.tup [State.a ((Qt0 s id_ size).1),noteL ((Qt0 s id_ size).2.1),I ((Qt0 s id_ size).2.2)]):=by
 generalize hR:Qt0 s id_ size=R;refine gA (kp 20 [26,40,62,81,108]) Tryz.func10 ?_;have hk0:=hs0;obtain ⟨z29,z30,z31,z32,z33,z34,z35⟩:=hs0;refine ACalls.of_cwp (fun _=>true) Tryz.func30 rfl rfl ?_;refine us (Q63 s (by first|((exact Qx0 _ _))|exact szA) _) ?_;refine ai (fun h1=>?_) (fun h2=>?_)
 ·refine ⟨_,_,Told.refl,?_⟩;refine ai (fun h3=>?_) (fun h4=>?_)
  ·refine ACalls.of_cwp (fun _=>true) Tryz.func31 rfl rfl ?_;refine ai (fun h5=>?_) (fun h6=>?_)
   ·refine dchk (by kernel_rfl) ?_;(repeat ((first|refine ai rfl ?_|refine ai (fun _=>rfl) ?_)));refine ⟨_,_,Told.refl,?_⟩;exact lfA
   ·exfalso;exact Bool.noConfusion (h1.symm.trans h6)
  ·exfalso;exact Bool.noConfusion (h1.symm.trans h4)
 ·refine us (mv [] (Qt9 s (by first|((exact Qx0 _ _))|exact szA)) .nil (dv (QP5 (Low.agg' (State.lo))) .nil) (rO rr .nil) (ren_agg (r1 (rv (Ren.low _ lw) (rv (Ren.low _ lw) (.cons _ _ _ _ (rw_ 3 0 rfl) (rv (Ren.low _ lw) (rv (Ren.low _ lw) (r1 (r1 .nil)))))))))) ?_;refine ⟨_,_,Told.refl,?_⟩;refine ai (fun h=>nomatch h) (fun _=>?_);refine ACalls.of_cwp (fun _=>true) Tryz.func32 rfl rfl ?_;refine us (Qz7 s.jobs id_ (by first|((exact Qx0 _ _))|exact szA) _) ?_;generalize hvtf:QK0 s.jobs id_=tf;refine ai (fun h7=>?_) (fun h8=>?_)
  ·refine ⟨_,_,Told.refl,?_⟩;refine ai (fun _=>?_) (fun h=>nomatch h);refine ACalls.of_cwp (fun _=>true) Tryz.func33 rfl rfl ?_;refine ai (fun _=>?_) (fun h=>nomatch h);refine ⟨_,_,Told.refl,?_⟩;refine ACalls.of_cwp (fun _=>true) Tryz.func31 rfl rfl ?_;refine ai (fun _=>?_) (fun h=>nomatch h);refine dchk (by kernel_rfl) ?_;(repeat ((first|refine ai rfl ?_|refine ai (fun _=>rfl) ?_)));refine ⟨_,_,Told.refl,?_⟩;obtain rfl:=foll hR (cf h2 (by subst hvtf;exact ct h7 rfl));first|exact Q90 (Low.tup' (.cons (State.low _ _) (.cons lw (l1 .nil)))) (Seen.tup (ev (Seen.agg (e1 (ev (Q40) (ev (Q40) (ev (Q40) (ev (Q40) (ev (Q40) (e1 (e1 .nil))))))))) (ev (Q40) (e1 .nil))))|(subst hvtf;exact Q90 (Low.tup' (.cons (State.low _ _) (.cons lw (l1 .nil)))) (Seen.tup (ev (Seen.agg (e1 (ev (Q40) (ev (Q40) (ev (Q40) (ev (Q40) (ev (Q40) (e1 (e1 .nil))))))))) (ev (Q40) (e1 .nil)))))
  ·refine ai (fun h9=>?_) (fun h10=>?_)
   ·refine ⟨_,_,Told.refl,?_⟩;refine ai (fun _=>?_) (fun h=>nomatch h);refine ACalls.of_cwp (fun _=>true) Tryz.func33 rfl rfl ?_;refine ai (fun _=>?_) (fun h=>nomatch h);refine ⟨_,_,Told.refl,?_⟩;refine ACalls.of_cwp (fun _=>true) Tryz.func31 rfl rfl ?_;refine ai (fun _=>?_) (fun h=>nomatch h);refine dchk (by kernel_rfl) ?_;(repeat ((first|refine ai rfl ?_|refine ai (fun _=>rfl) ?_)));refine ⟨_,_,Told.refl,?_⟩;obtain rfl:=foll hR (cf h2 (by subst hvtf;exact cf h8 (ct h9 rfl)));first|exact Q90 (Low.tup' (.cons (State.low _ _) (.cons lw (l1 .nil)))) (Seen.tup (ev (Seen.agg (e1 (ev (Q40) (ev (Q40) (ev (Q40) (ev (Q40) (ev (Q40) (e1 (e1 .nil))))))))) (ev (Q40) (e1 .nil))))|(subst hvtf;exact Q90 (Low.tup' (.cons (State.low _ _) (.cons lw (l1 .nil)))) (Seen.tup (ev (Seen.agg (e1 (ev (Q40) (ev (Q40) (ev (Q40) (ev (Q40) (ev (Q40) (e1 (e1 .nil))))))))) (ev (Q40) (e1 .nil)))))
   ·refine dchk (by kernel_rfl) ?_;(first|apply u2|apply u3|apply u4|apply us);exact Qe8 s.nodes tf.1.nodes (by first|((exact Qx0 _ _))|exact szA) _;(first|apply u2|apply u3|apply u4|apply us);exact QG0 tf.1.nodes _;(repeat ((first|refine ai rfl ?_|refine ai (fun _=>rfl) ?_|refine ai (fun _=>Qe8 s.nodes tf.1.nodes (by first|((exact Qx0 _ _))|exact szA) _) ?_|refine ai (fun _=>QG0 tf.1.nodes _) ?_)));refine ai (fun h11=>?_) (fun h12=>?_)
    ·refine ⟨_,_,Told.refl,?_⟩;refine ai (fun _=>?_) (fun h=>nomatch h);refine ACalls.of_cwp (fun _=>true) Tryz.func33 rfl rfl ?_;refine ai (fun _=>?_) (fun h=>nomatch h);refine ⟨_,_,Told.refl,?_⟩;refine ACalls.of_cwp (fun _=>true) Tryz.func31 rfl rfl ?_;refine ai (fun _=>?_) (fun h=>nomatch h);refine dchk (by kernel_rfl) ?_;(repeat ((first|refine ai rfl ?_|refine ai (fun _=>rfl) ?_)));refine ⟨_,_,Told.refl,?_⟩;obtain rfl:=foll hR (cf h2 (by subst hvtf;exact cf h8 (cf h10 (ct h11 rfl))));first|exact Q90 (Low.tup' (.cons (State.low _ _) (.cons lw (l1 .nil)))) (Seen.tup (ev (Seen.agg (e1 (ev (Q40) (ev (Q40) (ev (Q40) (ev (Q40) (ev (Q40) (e1 (e1 .nil))))))))) (ev (Q40) (e1 .nil))))|(subst hvtf;exact Q90 (Low.tup' (.cons (State.low _ _) (.cons lw (l1 .nil)))) (Seen.tup (ev (Seen.agg (e1 (ev (Q40) (ev (Q40) (ev (Q40) (ev (Q40) (ev (Q40) (e1 (e1 .nil))))))))) (ev (Q40) (e1 .nil)))))
    ·refine ACalls.of_cwp (fun _=>true) Tryz.func39 rfl rfl ?_;refine us (AGives.lent (bsr_c s.resizes id_ (by first|((exact Qx0 _ _))|exact szA) []) (ev (Q80 _ _ rfl eqA lnA) (e1 (e1 .nil))) (.cons lw (l1 (.cons (Low.fn _ _ _ LowL.nil LowL.nil) .nil))) (QO2 rfl)) ?_;refine ⟨_,_,Told.refl,?_⟩;refine ai (fun h13=>?_) (fun h14=>?_)
     ·refine ⟨_,_,Told.refl,?_⟩;refine ai (fun _=>?_) (fun h=>nomatch h);refine ACalls.of_cwp (fun _=>true) Tryz.func33 rfl rfl ?_;refine ai (fun _=>?_) (fun h=>nomatch h);refine ⟨_,_,Told.refl,?_⟩;refine ACalls.of_cwp (fun _=>true) Tryz.func31 rfl rfl ?_;refine ai (fun _=>?_) (fun h=>nomatch h);refine dchk (by kernel_rfl) ?_;(repeat ((first|refine ai rfl ?_|refine ai (fun _=>rfl) ?_)));refine ⟨_,_,Told.refl,?_⟩;obtain rfl:=foll hR (cf h2 (by subst hvtf;exact cf h8 (cf h10 (cf h12 (ct h13 rfl)))));first|exact Q90 (Low.tup' (.cons (State.low _ _) (.cons lw (l1 .nil)))) (Seen.tup (ev (Seen.agg (e1 (ev (Q40) (ev (Q40) (ev (Q40) (ev (Q40) (ev (Q40) (e1 (e1 .nil))))))))) (ev (Q40) (e1 .nil))))|(subst hvtf;exact Q90 (Low.tup' (.cons (State.low _ _) (.cons lw (l1 .nil)))) (Seen.tup (ev (Seen.agg (e1 (ev (Q40) (ev (Q40) (ev (Q40) (ev (Q40) (ev (Q40) (e1 (e1 .nil))))))))) (ev (Q40) (e1 .nil)))))
     ·refine ai (fun h15=>?_) (fun h16=>?_)
      ·refine ⟨_,_,Told.refl,?_⟩;refine ai (fun _=>?_) (fun h=>nomatch h);refine ACalls.of_cwp (fun _=>true) Tryz.func33 rfl rfl ?_;refine ai (fun _=>?_) (fun h=>nomatch h);refine ⟨_,_,Told.refl,?_⟩;refine ACalls.of_cwp (fun _=>true) Tryz.func31 rfl rfl ?_;refine ai (fun _=>?_) (fun h=>nomatch h);refine dchk (by kernel_rfl) ?_;(repeat ((first|refine ai rfl ?_|refine ai (fun _=>rfl) ?_)));refine ⟨_,_,Told.refl,?_⟩;obtain rfl:=foll hR (cf h2 (by subst hvtf;exact cf h8 (cf h10 (cf h12 (cf h14 (ct h15 rfl))))));first|exact Q90 (Low.tup' (.cons (State.low _ _) (.cons lw (l1 .nil)))) (Seen.tup (ev (Seen.agg (e1 (ev (Q40) (ev (Q40) (ev (Q40) (ev (Q40) (ev (Q40) (e1 (e1 .nil))))))))) (ev (Q40) (e1 .nil))))|(subst hvtf;exact Q90 (Low.tup' (.cons (State.low _ _) (.cons lw (l1 .nil)))) (Seen.tup (ev (Seen.agg (e1 (ev (Q40) (ev (Q40) (ev (Q40) (ev (Q40) (ev (Q40) (e1 (e1 .nil))))))))) (ev (Q40) (e1 .nil)))))
      ·refine ⟨_,_,Told.refl,?_⟩;refine ai (fun h=>nomatch h) (fun _=>?_);refine us (QG0 tf.1.nodes _) ?_;refine ai (fun h17=>?_) (fun h18=>?_)
       ·have qh17:=of_decide_eq_true h17;refine dchk (by kernel_rfl) ?_;(first|apply u2|apply u3|apply u4|apply us);exact AGives.as2 (QOe s [] (by first|((exact Qx0 _ _))|exact szA) (by first|((exact Qx0 _ _))|exact szA) _) (a1 (av (QR6) .nil));(first|apply u2|apply u3|apply u4|apply us);exact fit_Fits_c (QE6 s []) s.now (w64 ((w64 (tf.1.limit+12)) - s.now)) (w64 (size - (Q30 tf.1.nodes))) (by first|((exact Qx0 _ _))|exact szA) _;(repeat ((first|refine ai rfl ?_|refine ai (fun _=>rfl) ?_|refine ai (fun _=>AGives.as2 (QOe s [] (by first|((exact Qx0 _ _))|exact szA) (by first|((exact Qx0 _ _))|exact szA) _) (a1 (av (QR6) .nil))) ?_|refine ai (fun _=>fit_Fits_c (QE6 s []) s.now (w64 ((w64 (tf.1.limit+12)) - s.now)) (w64 (size - (Q30 tf.1.nodes))) (by first|((exact Qx0 _ _))|exact szA) _) ?_)));refine ai (fun h19=>?_) (fun h20=>?_)
        ·refine ACalls.of_cwp (fun _=>true) Tryz.func33 rfl rfl ?_;refine ai (fun _=>?_) (fun h=>nomatch h);refine ⟨_,_,Told.refl,?_⟩;refine ACalls.of_cwp (fun _=>true) Tryz.func31 rfl rfl ?_;refine ai (fun _=>?_) (fun h=>nomatch h);refine dchk (by kernel_rfl) ?_;(repeat ((first|refine ai rfl ?_|refine ai (fun _=>rfl) ?_)));refine ⟨_,_,Told.refl,?_⟩;obtain rfl:=foll hR (cf h2 (by subst hvtf;exact cf h8 (cf h10 (cf h12 (cf h14 (cf h16 (ct h17 (ct h19 rfl))))))));first|exact Q90 (Low.tup' (.cons (State.low _ _) (.cons lw (l1 .nil)))) (Seen.tup (ev (Seen.agg (e1 (ev (Q40) (ev (Q40) (ev (Q40) (ev (Q40) (ev (Q40) (e1 (e1 .nil))))))))) (ev (Q40) (e1 .nil))))|(subst hvtf;exact Q90 (Low.tup' (.cons (State.low _ _) (.cons lw (l1 .nil)))) (Seen.tup (ev (Seen.agg (e1 (ev (Q40) (ev (Q40) (ev (Q40) (ev (Q40) (ev (Q40) (e1 (e1 .nil))))))))) (ev (Q40) (e1 .nil)))))
        ·refine dchk (by kernel_rfl) ?_;(first|apply u2|apply u3|apply u4|apply us);exact QMa s.nodes (w64 (size - (Q30 tf.1.nodes))) 2 id_ s.now (by first|((exact Qx0 _ _))|exact szA) _;generalize hvgr:Q45 s.nodes (w64 (size - (Q30 tf.1.nodes))) 2 id_ s.now=gr;(repeat ((first|refine ai rfl ?_|refine ai (fun _=>rfl) ?_|refine ai (fun _=>by subst hvgr;exact QMa s.nodes (w64 (size - (Q30 tf.1.nodes))) 2 id_ s.now (by first|((exact Qx0 _ _))|exact szA) _) ?_)));refine ai (fun h21=>?_) (fun h22=>?_)
         ·refine ACalls.of_cwp (fun _=>true) Tryz.func33 rfl rfl ?_;refine ai (fun _=>?_) (fun h=>nomatch h);refine ⟨_,_,Told.refl,?_⟩;refine ACalls.of_cwp (fun _=>true) Tryz.func31 rfl rfl ?_;refine ai (fun h23=>?_) (fun h24=>?_)
          ·refine dchk (by kernel_rfl) ?_;(repeat ((first|refine ai rfl ?_|refine ai (fun _=>rfl) ?_)));refine ⟨_,_,Told.refl,?_⟩;obtain rfl:=foll hR (cf h2 (by subst hvtf;exact cf h8 (cf h10 (cf h12 (cf h14 (cf h16 (ct h17 (cf h20 (by subst hvgr;exact ct h21 rfl)))))))));first|exact Q90 (Low.tup' (.cons (State.low _ _) (.cons lw (l1 .nil)))) (Seen.tup (ev (Seen.agg (e1 (ev (Q40) (ev (Q40) (ev (Q40) (ev (Q40) (ev (Q40) (e1 (e1 .nil))))))))) (ev (Q40) (e1 .nil))))|(subst hvtf hvgr;exact Q90 (Low.tup' (.cons (State.low _ _) (.cons lw (l1 .nil)))) (Seen.tup (ev (Seen.agg (e1 (ev (Q40) (ev (Q40) (ev (Q40) (ev (Q40) (ev (Q40) (e1 (e1 .nil))))))))) (ev (Q40) (e1 .nil)))))
          ·exfalso;exact Bool.noConfusion (h21.symm.trans h24)
         ·refine ACalls.of_cwp (fun _=>true) Tryz.func39 rfl rfl ?_;refine us (AGives.lent (bsr_c s.resizes id_ (by first|((exact Qx0 _ _))|exact szA) []) (ev (Q80 _ _ rfl eqA lnA) (e1 (e1 .nil))) (.cons lw (l1 (.cons (Low.fn _ _ _ LowL.nil LowL.nil) .nil))) (QO2 rfl)) ?_;refine ⟨_,_,Told.refl,?_⟩;refine dchk (by kernel_rfl) ?_;(first|apply u2|apply u3|apply u4|apply us);exact mv [3] (Qoa s.resizes ((Q00 s.resizes id_ bsrF).1) ([(⟨id_,true,gr.2.1,0,s.now⟩:Resize)]:List Resize) (by first|((exact Qx0 _ _))|exact szA) (by first|((exact Qx0 _ _))|exact szA) (by (have hq:=bsr_le s.resizes id_ bsrF (by assumption);exact ⟨hq.1,hq.2,rfl⟩))) (dO (dr eqA) .nil) (dv (Q85 rfl lnA) (d1 (dv (dn_as (QN2 (c:=Resize.cells) (d:=Resize.zero) ([(⟨id_,true,gr.2.1,0,s.now⟩:Resize)]:List Resize) rfl) lw) .nil))) (rO rr .nil) (rw_ 9 0 rfl);(repeat ((first|refine ai rfl ?_|refine ai (fun _=>rfl) ?_)));refine ACalls.of_cwp (fun _=>true) Tryz.func31 rfl rfl ?_;refine ai (fun h=>nomatch h) (fun _=>?_);refine dchk (by kernel_rfl) ?_;(repeat ((first|refine ai rfl ?_|refine ai (fun _=>rfl) ?_)));refine ⟨_,_,Told.refl,?_⟩;obtain rfl:=foll hR (cf h2 (by subst hvtf;exact cf h8 (cf h10 (cf h12 (cf h14 (cf h16 (ct h17 (cf h20 (by subst hvgr;exact cf h22 rfl)))))))));first|exact Q90 (Low.tup' (.cons (State.low _ _) (.cons lw (l1 .nil)))) (Seen.tup (ev (Seen.agg (e1 (e1 (e1 (ev (Q80 Resize.zero _ rfl eqA lnA) (e1 (e1 (e1 (e1 .nil))))))))) (e1 (e1 .nil))))|(subst hvtf hvgr;exact Q90 (Low.tup' (.cons (State.low _ _) (.cons lw (l1 .nil)))) (Seen.tup (ev (Seen.agg (e1 (e1 (e1 (ev (Q80 Resize.zero _ rfl eqA lnA) (e1 (e1 (e1 (e1 .nil))))))))) (e1 (e1 .nil)))))
       ·have qh18:=of_decide_eq_false h18;refine us (Qic tf.1.nodes (w64 (0 - (w64 (size - (Q30 tf.1.nodes))))) _) ?_;refine ACalls.of_cwp (fun _=>true) Tryz.func38 rfl rfl ?_;refine ai (fun h=>nomatch h) (fun _=>?_);refine dchk (by kernel_rfl) ?_;(first|apply u2|apply u3|apply u4|apply us);exact Qm1 s.nodes ((Qq1 tf.1.nodes (w64 (0 - (w64 (size - (Q30 tf.1.nodes)))))).1) 5 0 s.now (by first|((exact Qx0 _ _))|exact szA) _;generalize hvea:Qq0 s.nodes ((Qq1 tf.1.nodes (w64 (0 - (w64 (size - (Q30 tf.1.nodes)))))).1) 5 0 s.now=ea;(have qea:ea.2.1.length<=64:=by rw [← hvea];exact QE2 _ _ _ _ _);(repeat ((first|refine ai rfl ?_|refine ai (fun _=>rfl) ?_|refine ai (fun _=>by subst hvea;exact Qm1 s.nodes ((Qq1 tf.1.nodes (w64 (0 - (w64 (size - (Q30 tf.1.nodes)))))).1) 5 0 s.now (by first|((exact Qx0 _ _))|exact szA) _) ?_)));refine ai (fun h25=>?_) (fun h26=>?_)
        ·refine ACalls.of_cwp (fun _=>true) Tryz.func33 rfl rfl ?_;refine ai (fun _=>?_) (fun h=>nomatch h);refine ⟨_,_,Told.refl,?_⟩;refine ⟨_,_,Told.refl,?_⟩;refine ACalls.of_cwp (fun _=>true) Tryz.func39 rfl rfl ?_;refine us (AGives.lent (bsr_c s.resizes id_ (by first|((exact Qx0 _ _))|exact szA) []) (ev (Q80 _ _ rfl eqA lnA) (e1 (e1 .nil))) (.cons lw (l1 (.cons (Low.fn _ _ _ LowL.nil LowL.nil) .nil))) (QO2 rfl)) ?_;refine ⟨_,_,Told.refl,?_⟩;refine dchk (by kernel_rfl) ?_;(first|apply u2|apply u3|apply u4|apply us);exact mv [3] (Qoa s.resizes ((Q00 s.resizes id_ bsrF).1) ([(⟨id_,false,(Qq1 tf.1.nodes (w64 (0 - (w64 (size - (Q30 tf.1.nodes)))))).1,0,s.now⟩:Resize)]:List Resize) (by first|((exact Qx0 _ _))|exact szA) (by first|((exact Qx0 _ _))|exact szA) (by (have hq:=bsr_le s.resizes id_ bsrF (by assumption);exact ⟨hq.1,hq.2,rfl⟩))) (dO (dr eqA) .nil) (dv (Q85 rfl lnA) (d1 (dv (dn_as (QN2 (c:=Resize.cells) (d:=Resize.zero) ([(⟨id_,false,(Qq1 tf.1.nodes (w64 (0 - (w64 (size - (Q30 tf.1.nodes)))))).1,0,s.now⟩:Resize)]:List Resize) rfl) lw) .nil))) (rO rr .nil) (rw_ 9 0 rfl);(repeat ((first|refine ai rfl ?_|refine ai (fun _=>rfl) ?_)));refine ACalls.of_cwp (fun _=>true) Tryz.func31 rfl rfl ?_;refine ai (fun h27=>?_) (fun h28=>?_)
         ·refine dchk (by kernel_rfl) ?_;(repeat ((first|refine ai rfl ?_|refine ai (fun _=>rfl) ?_)));refine ⟨_,_,Told.refl,?_⟩;obtain rfl:=foll hR (cf h2 (by subst hvtf;exact cf h8 (cf h10 (cf h12 (cf h14 (cf h16 (cf h18 (by subst hvea;exact ct h25 rfl))))))));first|exact Q90 (Low.tup' (.cons (State.low _ _) (.cons lw (l1 .nil)))) (Seen.tup (ev (Seen.agg (e1 (ev (Q40) (ev (Q40) (ev (Q40) (ev (Q40) (ev (Q40) (e1 (e1 .nil))))))))) (ev (Q40) (e1 .nil))))|(subst hvtf hvea;exact Q90 (Low.tup' (.cons (State.low _ _) (.cons lw (l1 .nil)))) (Seen.tup (ev (Seen.agg (e1 (ev (Q40) (ev (Q40) (ev (Q40) (ev (Q40) (ev (Q40) (e1 (e1 .nil))))))))) (ev (Q40) (e1 .nil)))))
         ·exfalso;exact Bool.noConfusion (h25.symm.trans h28)
        ·(first|refine ⟨Qe2 32 rfl lnA apA,?_⟩|refine ⟨Ql1 32 rfl apA,?_⟩);refine ⟨_,_,Told.refl,?_⟩;refine ACalls.of_cwp (fun _=>true) Tryz.func39 rfl rfl ?_;refine us (AGives.lent (bsr_c s.resizes id_ (by first|((exact Qx0 _ _))|exact szA) []) (ev (Q80 _ _ rfl eqA lnA) (e1 (e1 .nil))) (.cons lw (l1 (.cons (Low.fn _ _ _ LowL.nil LowL.nil) .nil))) (QO2 rfl)) ?_;refine ⟨_,_,Told.refl,?_⟩;refine dchk (by kernel_rfl) ?_;(first|apply u2|apply u3|apply u4|apply us);exact mv [3] (Qoa s.resizes ((Q00 s.resizes id_ bsrF).1) ([(⟨id_,false,(Qq1 tf.1.nodes (w64 (0 - (w64 (size - (Q30 tf.1.nodes)))))).1,0,s.now⟩:Resize)]:List Resize) (by first|((exact Qx0 _ _))|exact szA) (by first|((exact Qx0 _ _))|exact szA) (by (have hq:=bsr_le s.resizes id_ bsrF (by assumption);exact ⟨hq.1,hq.2,rfl⟩))) (dO (dr eqA) .nil) (dv (Q85 rfl lnA) (d1 (dv (dn_as (QN2 (c:=Resize.cells) (d:=Resize.zero) ([(⟨id_,false,(Qq1 tf.1.nodes (w64 (0 - (w64 (size - (Q30 tf.1.nodes)))))).1,0,s.now⟩:Resize)]:List Resize) rfl) lw) .nil))) (rO rr .nil) (rw_ 10 0 rfl);(repeat ((first|refine ai rfl ?_|refine ai (fun _=>rfl) ?_)));refine ACalls.of_cwp (fun _=>true) Tryz.func31 rfl rfl ?_;refine ai (fun h=>nomatch h) (fun _=>?_);refine dchk (by kernel_rfl) ?_;(repeat ((first|refine ai rfl ?_|refine ai (fun _=>rfl) ?_)));refine ⟨_,_,Told.refl,?_⟩;obtain rfl:=foll hR (cf h2 (by subst hvtf;exact cf h8 (cf h10 (cf h12 (cf h14 (cf h16 (cf h18 (by subst hvea;exact cf h26 rfl))))))));first|exact Q90 (Low.tup' (.cons (State.low _ _) (.cons lw (l1 .nil)))) (Seen.tup (ev (Seen.agg (e1 (e1 (e1 (ev (Q80 Resize.zero _ rfl eqA lnA) (e1 (e1 (e1 (e1 .nil))))))))) (ev (Q80 Note.zero _ rfl eqA lnA) (e1 .nil))))|(subst hvtf hvea;exact Q90 (Low.tup' (.cons (State.low _ _) (.cons lw (l1 .nil)))) (Seen.tup (ev (Seen.agg (e1 (e1 (e1 (ev (Q80 Resize.zero _ rfl eqA lnA) (e1 (e1 (e1 (e1 .nil))))))))) (ev (Q80 Note.zero _ rfl eqA lnA) (e1 .nil)))))
def QL0 (s:State) (id_:Int):State × (List Note) × Int:=bif ((Qd0 s)!=0) then (State.zero,[],(Qd0 s)) else bif (!(Q41 id_)) then (State.zero,[],250) else bif (!(Q00 s.resizes id_ bsrF).2) then (State.zero,[],250) else bif (s.resizes.getD (Int.toNat ((Q00 s.resizes id_ bsrF).1)) Resize.zero).grow then (fun ea:(List Node) × (List Note) × Int=>bif (ea.2.2 != 0) then (State.zero,[],ea.2.2) else ({ s with nodes:=ea.1,resizes:=(QU1 s.resizes ((Q00 s.resizes id_ bsrF).1) (w64 ((Q00 s.resizes id_ bsrF).1+1))) },ea.2.1,0)) (Qq0 s.nodes ((s.resizes.getD (Int.toNat ((Q00 s.resizes id_ bsrF).1)) Resize.zero).nodes) 7 0 s.now) else (fun ea1:(List Node) × (List Note) × Int=>bif (ea1.2.2 != 0) then (State.zero,[],ea1.2.2) else ({ s with nodes:=ea1.1,resizes:=(QU1 s.resizes ((Q00 s.resizes id_ bsrF).1) (w64 ((Q00 s.resizes id_ bsrF).1+1))) },ea1.2.1,0)) (Qq0 s.nodes (wu64 (BitVec.ofInt 64 (s.resizes.getD (Int.toNat ((Q00 s.resizes id_ bsrF).1)) Resize.zero).nodes &&& ~~~(BitVec.ofInt 64 (s.resizes.getD (Int.toNat ((Q00 s.resizes id_ bsrF).1)) Resize.zero).said)).toNat) 6 0 s.now)
theorem QO7 (s:State) (id_:Int) (hs0:s.sz):GV 16 [State.a s,I id_] (AVal.tup [State.a ((QL0 s id_).1),noteL ((QL0 s id_).2.1),I ((QL0 s id_).2.2)]):=by
 generalize hR:QL0 s id_=R;refine gA (kp 10 [16,24,39]) Tryz.func16 ?_;have hk0:=hs0;obtain ⟨z21,z22,z23,z24,z25,z26,z27⟩:=hs0;refine ACalls.of_cwp (fun _=>true) Tryz.func30 rfl rfl ?_;refine us (Q63 s szA _) ?_;refine ai (fun h1=>?_) (fun h2=>?_)
 ·refine ⟨_,_,Told.refl,?_⟩;refine ai (fun h3=>?_) (fun h4=>?_)
  ·refine ACalls.of_cwp (fun _=>true) Tryz.func31 rfl rfl ?_;refine ai (fun h5=>?_) (fun h6=>?_)
   ·refine dchk (by kernel_rfl) ?_;(repeat ((first|refine ai rfl ?_|refine ai (fun _=>rfl) ?_)));refine ⟨_,_,Told.refl,?_⟩;exact lfA
   ·exfalso;exact Bool.noConfusion (h1.symm.trans h6)
  ·exfalso;exact Bool.noConfusion (h1.symm.trans h4)
 ·refine us (mv [] (Qt9 s szA) .nil (dv (QP5 (Low.agg' (State.lo))) .nil) (rO rr .nil) (ren_agg (r1 (rv (Ren.low _ lw) (rv (Ren.low _ lw) (.cons _ _ _ _ (rw_ 3 0 rfl) (rv (Ren.low _ lw) (rv (Ren.low _ lw) (r1 (r1 .nil)))))))))) ?_;refine ⟨_,_,Told.refl,?_⟩;refine ai (fun h=>nomatch h) (fun _=>?_);refine us (QP7 id_ _) ?_;refine ai (fun h7=>?_) (fun h8=>?_)
  ·refine ACalls.of_cwp (fun _=>true) Tryz.func33 rfl rfl ?_;refine ai (fun _=>?_) (fun h=>nomatch h);refine ⟨_,_,Told.refl,?_⟩;refine ACalls.of_cwp (fun _=>true) Tryz.func31 rfl rfl ?_;refine ai (fun _=>?_) (fun h=>nomatch h);refine dchk (by kernel_rfl) ?_;(repeat ((first|refine ai rfl ?_|refine ai (fun _=>rfl) ?_)));refine ⟨_,_,Told.refl,?_⟩;exact lfA
  ·refine ACalls.of_cwp (fun _=>true) Tryz.func39 rfl rfl ?_;refine us (AGives.lent (bsr_c s.resizes id_ szA []) (ev (Q80 _ _ rfl eqA lnA) (e1 (e1 .nil))) (.cons lw (l1 (.cons (Low.fn _ _ _ LowL.nil LowL.nil) .nil))) (QO2 rfl)) ?_;refine ⟨_,_,Told.refl,?_⟩;refine ai (fun h9=>?_) (fun h10=>?_)
   ·refine ACalls.of_cwp (fun _=>true) Tryz.func33 rfl rfl ?_;refine ai (fun _=>?_) (fun h=>nomatch h);refine ⟨_,_,Told.refl,?_⟩;refine ACalls.of_cwp (fun _=>true) Tryz.func31 rfl rfl ?_;refine ai (fun _=>?_) (fun h=>nomatch h);refine dchk (by kernel_rfl) ?_;(repeat ((first|refine ai rfl ?_|refine ai (fun _=>rfl) ?_)));refine ⟨_,_,Told.refl,?_⟩;exact lfA
   ·refine ACalls.of_cwp (fun _=>true) Tryz.func59 rfl rfl ?_;refine ACalls.of_cwp (fun _=>true) Tryz.func116 rfl rfl ?_;refine And.intro (by first|exact fun hg=>decide_eq_true (by first|((have hq:=bsr_at (by assumption) (by assumption);omega))|exact ckA)|exact gkA) ?_;refine ⟨_,QN0 rfl rfl rfl (Qb1 Resize.zero (Int.toNat ((Q00 s.resizes id_ bsrF).1)) (by first|rfl|exact Nat.zero_add _|omega) (by first|((have hq:=bsr_at (by assumption) (by assumption);omega))|exact ckA)) rfl,?_⟩;refine us (mv [3] (Qha s.resizes ((Q00 s.resizes id_ bsrF).1) (w64 ((Q00 s.resizes id_ bsrF).1+1)) szA (by (have hq:=bsr_at (by assumption) (by assumption);rw [hq.2.2];omega))) (dO (dr eqA) .nil) (dv (Q85 rfl lnA) (d1 (d1 .nil))) (rO rr .nil) (rw_ 7 0 rfl)) ?_;refine ⟨_,_,Told.refl,?_⟩;refine ai (fun h11=>?_) (fun h12=>?_)
    ·refine ACalls.of_cwp (fun _=>true) Tryz.func38 rfl rfl ?_;refine ai (fun h=>nomatch h) (fun _=>?_);refine dchk (by kernel_rfl) ?_;(first|apply u2|apply u3|apply u4|apply us);exact Qm1 s.nodes ((s.resizes.getD (Int.toNat ((Q00 s.resizes id_ bsrF).1)) Resize.zero).nodes) 7 0 s.now szA _;generalize hvea:Qq0 s.nodes ((s.resizes.getD (Int.toNat ((Q00 s.resizes id_ bsrF).1)) Resize.zero).nodes) 7 0 s.now=ea;(have qea:ea.2.1.length<=64:=by rw [← hvea];exact QE2 _ _ _ _ _);(repeat ((first|refine ai rfl ?_|refine ai (fun _=>rfl) ?_|refine ai (fun _=>by subst hvea;exact Qm1 s.nodes ((s.resizes.getD (Int.toNat ((Q00 s.resizes id_ bsrF).1)) Resize.zero).nodes) 7 0 s.now szA _) ?_)));refine ai (fun h13=>?_) (fun h14=>?_)
     ·refine ACalls.of_cwp (fun _=>true) Tryz.func33 rfl rfl ?_;refine ai (fun _=>?_) (fun h=>nomatch h);refine ⟨_,_,Told.refl,?_⟩;refine ⟨_,_,Told.refl,?_⟩;refine ⟨_,_,Told.refl,?_⟩;refine ACalls.of_cwp (fun _=>true) Tryz.func31 rfl rfl ?_;refine ai (fun h15=>?_) (fun h16=>?_)
      ·refine dchk (by kernel_rfl) ?_;(repeat ((first|refine ai rfl ?_|refine ai (fun _=>rfl) ?_)));refine ⟨_,_,Told.refl,?_⟩;obtain rfl:=foll hR (cf h2 (cf h8 (cf h10 (ct h11 (by subst hvea;exact ct h13 rfl)))));first|exact Q90 (Low.tup' (.cons (State.low _ _) (.cons lw (l1 .nil)))) (Seen.tup (ev (Seen.agg (e1 (ev (Q40) (ev (Q40) (ev (Q40) (ev (Q40) (ev (Q40) (e1 (e1 .nil))))))))) (ev (Q40) (e1 .nil))))|(subst hvea;exact Q90 (Low.tup' (.cons (State.low _ _) (.cons lw (l1 .nil)))) (Seen.tup (ev (Seen.agg (e1 (ev (Q40) (ev (Q40) (ev (Q40) (ev (Q40) (ev (Q40) (e1 (e1 .nil))))))))) (ev (Q40) (e1 .nil)))))
      ·exfalso;exact Bool.noConfusion (h13.symm.trans h16)
     ·(first|refine ⟨Qe2 32 rfl lnA apA,?_⟩|refine ⟨Ql1 32 rfl apA,?_⟩);refine ⟨_,_,Told.refl,?_⟩;refine ⟨_,_,Told.refl,?_⟩;refine ACalls.of_cwp (fun _=>true) Tryz.func31 rfl rfl ?_;refine ai (fun h=>nomatch h) (fun _=>?_);refine dchk (by kernel_rfl) ?_;(repeat ((first|refine ai rfl ?_|refine ai (fun _=>rfl) ?_)));refine ⟨_,_,Told.refl,?_⟩;obtain rfl:=foll hR (cf h2 (cf h8 (cf h10 (ct h11 (by subst hvea;exact cf h14 rfl)))));first|exact Q90 (Low.tup' (.cons (State.low _ _) (.cons lw (l1 .nil)))) (Seen.tup (ev (Seen.agg (e1 (e1 (e1 (ev (Q80 Resize.zero _ rfl eqA lnA) (e1 (e1 (e1 (e1 .nil))))))))) (ev (Q80 Note.zero _ rfl eqA lnA) (e1 .nil))))|(subst hvea;exact Q90 (Low.tup' (.cons (State.low _ _) (.cons lw (l1 .nil)))) (Seen.tup (ev (Seen.agg (e1 (e1 (e1 (ev (Q80 Resize.zero _ rfl eqA lnA) (e1 (e1 (e1 (e1 .nil))))))))) (ev (Q80 Note.zero _ rfl eqA lnA) (e1 .nil)))))
    ·refine ACalls.of_cwp (fun _=>true) Tryz.func38 rfl rfl ?_;refine ai (fun h=>nomatch h) (fun _=>?_);refine dchk (by kernel_rfl) ?_;(first|apply u2|apply u3|apply u4|apply us);exact Qm1 s.nodes (wu64 (BitVec.ofInt 64 (s.resizes.getD (Int.toNat ((Q00 s.resizes id_ bsrF).1)) Resize.zero).nodes &&& ~~~(BitVec.ofInt 64 (s.resizes.getD (Int.toNat ((Q00 s.resizes id_ bsrF).1)) Resize.zero).said)).toNat) 6 0 s.now szA _;generalize hvea1:Qq0 s.nodes (wu64 (BitVec.ofInt 64 (s.resizes.getD (Int.toNat ((Q00 s.resizes id_ bsrF).1)) Resize.zero).nodes &&& ~~~(BitVec.ofInt 64 (s.resizes.getD (Int.toNat ((Q00 s.resizes id_ bsrF).1)) Resize.zero).said)).toNat) 6 0 s.now=ea1;(have qea:ea1.2.1.length<=64:=by rw [← hvea1];exact QE2 _ _ _ _ _);(repeat ((first|refine ai rfl ?_|refine ai (fun _=>rfl) ?_|refine ai (fun _=>by subst hvea1;exact Qm1 s.nodes (wu64 (BitVec.ofInt 64 (s.resizes.getD (Int.toNat ((Q00 s.resizes id_ bsrF).1)) Resize.zero).nodes &&& ~~~(BitVec.ofInt 64 (s.resizes.getD (Int.toNat ((Q00 s.resizes id_ bsrF).1)) Resize.zero).said)).toNat) 6 0 s.now szA _) ?_)));refine ai (fun h17=>?_) (fun h18=>?_)
     ·refine ACalls.of_cwp (fun _=>true) Tryz.func33 rfl rfl ?_;refine ai (fun _=>?_) (fun h=>nomatch h);refine ⟨_,_,Told.refl,?_⟩;refine ⟨_,_,Told.refl,?_⟩;refine ⟨_,_,Told.refl,?_⟩;refine ACalls.of_cwp (fun _=>true) Tryz.func31 rfl rfl ?_;refine ai (fun h19=>?_) (fun h20=>?_)
      ·refine dchk (by kernel_rfl) ?_;(repeat ((first|refine ai rfl ?_|refine ai (fun _=>rfl) ?_)));refine ⟨_,_,Told.refl,?_⟩;obtain rfl:=foll hR (cf h2 (cf h8 (cf h10 (cf h12 (by subst hvea1;exact ct h17 rfl)))));first|exact Q90 (Low.tup' (.cons (State.low _ _) (.cons lw (l1 .nil)))) (Seen.tup (ev (Seen.agg (e1 (ev (Q40) (ev (Q40) (ev (Q40) (ev (Q40) (ev (Q40) (e1 (e1 .nil))))))))) (ev (Q40) (e1 .nil))))|(subst hvea1;exact Q90 (Low.tup' (.cons (State.low _ _) (.cons lw (l1 .nil)))) (Seen.tup (ev (Seen.agg (e1 (ev (Q40) (ev (Q40) (ev (Q40) (ev (Q40) (ev (Q40) (e1 (e1 .nil))))))))) (ev (Q40) (e1 .nil)))))
      ·exfalso;exact Bool.noConfusion (h17.symm.trans h20)
     ·(first|refine ⟨Qe2 32 rfl lnA apA,?_⟩|refine ⟨Ql1 32 rfl apA,?_⟩);refine ⟨_,_,Told.refl,?_⟩;refine ⟨_,_,Told.refl,?_⟩;refine ACalls.of_cwp (fun _=>true) Tryz.func31 rfl rfl ?_;refine ai (fun h=>nomatch h) (fun _=>?_);refine dchk (by kernel_rfl) ?_;(repeat ((first|refine ai rfl ?_|refine ai (fun _=>rfl) ?_)));refine ⟨_,_,Told.refl,?_⟩;obtain rfl:=foll hR (cf h2 (cf h8 (cf h10 (cf h12 (by subst hvea1;exact cf h18 rfl)))));first|exact Q90 (Low.tup' (.cons (State.low _ _) (.cons lw (l1 .nil)))) (Seen.tup (ev (Seen.agg (e1 (e1 (e1 (ev (Q80 Resize.zero _ rfl eqA lnA) (e1 (e1 (e1 (e1 .nil))))))))) (ev (Q80 Note.zero _ rfl eqA lnA) (e1 .nil))))|(subst hvea1;exact Q90 (Low.tup' (.cons (State.low _ _) (.cons lw (l1 .nil)))) (Seen.tup (ev (Seen.agg (e1 (e1 (e1 (ev (Q80 Resize.zero _ rfl eqA lnA) (e1 (e1 (e1 (e1 .nil))))))))) (ev (Q80 Note.zero _ rfl eqA lnA) (e1 .nil)))))
def Q10 (s:State) (id_:Int):Resize × Bool:=bif ((decide ((QI0 s.resizes (fun (y:Resize)=>(y.job==id_)))<0))||((Qd0 s)!=0)) then (Resize.zero,false) else ((s.resizes.getD (Int.toNat (QI0 s.resizes (fun (y:Resize)=>(y.job==id_)))) Resize.zero),true)
theorem Q13 (s:State) (id_:Int) (hs0:s.sz):GV 18 [State.a s,I id_] (AVal.tup [Resize.a ((Q10 s id_).1),Bo ((Q10 s id_).2)]):=by
 generalize hR:Q10 s id_=R;refine gA (kp 7 [17]) Tryz.func18 ?_;have hk0:=hs0;obtain ⟨z7,z8,z9,z10,z11,z12,z13⟩:=hs0;have cl1:∀ (y1:Resize),AMoves Tryz.prog 70 [Resize.a y1,AVal.ptr 0 0 1 0 0] [(0,AObj.row 3 1 [[I id_]])] 1 (Bo ((fun (y:Resize)=>(y.job==id_)) y1)) [(0,AObj.row 3 1 [[I id_]])]:=by
  intro y1;have hR:(fun (y:Resize)=>(y.job==id_)) y1=(fun (y:Resize)=>(y.job==id_)) y1:=rfl;refine mo (kp 4 []) Tryz.func70 ?_;refine Qi0 (fun r:Bool=>Bo r) (fun _=>[(0,AObj.row 3 1 [[I id_]])]) (leaf:=(y1.job==id_)) (foll hR rfl) ?_;exact tt [0] (tO rfl (ts (l1 LowL.nil)) .nil) t1
 have hof1:AMoves Tryz.prog 69 [Qc2 s.resizes,AVal.fn (.func 70) [] [AVal.ptr 0 0 1 0 0]] [(0,AObj.row 3 1 [[I id_]])] 1 (I (QI0 s.resizes (fun (y:Resize)=>(y.job==id_)))) [(0,AObj.row 3 1 [[I id_]])]:=by
  have hR:QI0 s.resizes (fun (y:Resize)=>(y.job==id_))=QI0 s.resizes (fun (y:Resize)=>(y.job==id_)):=rfl;refine mo (kp 6 [7,8,9,16]) Tryz.func69 ?_;refine Qv0 (fun (i:Nat)=>Qp0 (fun (y:Resize)=>(y.job==id_)) (List.drop i s.resizes) i=QI0 s.resizes (fun (y:Resize)=>(y.job==id_))∧i<=s.resizes.length) (fun i=>s.resizes.length - i) (fun i=>[(0,Qc2 s.resizes),(1,AVal.fn (.func 70) [] [AVal.ptr 0 0 1 0 0]),(4,I 0),(7,I (s.resizes.length:Int)),(8,I (i:Int))]) (fun i=>[(0,AObj.row 3 1 [[I id_]])]) 0 (wkA [0]) ⟨foll hR rfl,by exact omA⟩ ?_;clear hR;rintro i ⟨hR,hj⟩;(try dsimp only at hR hj);refine ai (fun h1=>?_) (fun h2=>?_)
  ·have hlt:=ltA h1;rw [Qr0 Resize.zero hlt] at hR;refine ai gkA ?_;refine us (mv [0] (cl1 (s.resizes.getD i Resize.zero)) (dO (ds (l1 LowL.nil)) .nil) (dl (Resize.low _ _) (dp .nil)) (rO (re (l1 LowL.nil)) .nil) rx) ?_;refine ai (fun h3=>?_) (fun h4=>?_)
   ·refine Qi0 (fun r:Int=>I r) (fun r:Int=>[(0,AObj.row 3 1 [[I id_]])]) (leaf:=(i:Int)) (foll hR (ct h3 rfl)) ?_;exact tt [0] (tO rfl (ts (l1 LowL.nil)) .nil) t1
   ·exact Qy0 (i+1) (wkA [0]) omA ⟨folA,by exact omA⟩
  ·rw [Qs0 (l:=s.resizes) (j:=i) (geA h2)] at hR;refine Qi0 (fun r:Int=>I r) (fun r:Int=>[(0,AObj.row 3 1 [[I id_]])]) (leaf:=(-1)) (foll hR rfl) ?_;exact tt [0] (tO rfl (ts (l1 LowL.nil)) .nil) t1
 refine us (mv [1] (hof1) (dO (ds (l1 LowL.nil)) .nil) (dl lw (dv (dn_fn .nil (dp .nil)) .nil)) (rO (re (l1 LowL.nil)) .nil) rx) ?_;(first|apply u2|apply u3|apply u4|apply us);exact Q63 s szA _;refine ai (fun h5=>?_) (fun h6=>?_)
 ·exact lfA
 ·refine And.intro (by first|exact fun hg=>decide_eq_true (by first|(have hp:=Qp7 s.resizes (fun (y:Resize)=>(y.job==id_));simp only [Bool.or_eq_false_iff,decide_eq_false_iff_not] at *;omega)|exact ckA)|exact gkA) ?_;exact lfA
def QA1 (s:State) (id_:Int):Int:=bif (((!(QK0 s.jobs id_).2)||((QK0 s.jobs id_).1.state != 2))||((Qd0 s)!=0)) then 0 else (QK0 s.jobs id_).1.nodes
theorem QS7 (s:State) (id_:Int) (hs0:s.sz):GV 21 [State.a s,I id_] (U (QA1 s id_)):=by
 generalize hR:QA1 s id_=R;refine gA (kp 7 [25]) Tryz.func21 ?_;have hk0:=hs0;obtain ⟨z3,z4,z5,z6,z7,z8,z9⟩:=hs0;refine us (Qz7 s.jobs id_ szA _) ?_;(first|apply u2|apply u3|apply u4|apply us);exact Q63 s szA _;refine ai (fun h1=>?_) (fun h2=>?_)
 ·exact lfA
 ·exact lfA
attribute [local irreducible] DrawS
def Qv4 (t:State) (id_:Int) (or_:Int):List Job->Nat->Bool
 | [],_=>true
 | x_ :: r,i=>bif ((x_.id==id_)&&((t.jobs.getD i Job.zero).nodes==or_)) then bif (!(Q47 ([x_]:List Job) ([{ (t.jobs.getD i Job.zero) with nodes:=x_.nodes }]:List Job))) then false else Qv4 t id_ or_ r (i+1) else bif (!(Q47 ([x_]:List Job) ([(t.jobs.getD i Job.zero)]:List Job))) then false else Qv4 t id_ or_ r (i+1)
def Qu4 (s:State) (t:State) (id_:Int) (or_:Int):Bool:=bif ((((((Qd0 t)!=0)||(t.now != s.now))||((t.jobs.length:Int)!=(s.jobs.length:Int)))||((t.books.length:Int)!=(s.books.length:Int)))||(t.nextJob != s.nextJob)) then false else Qv4 t id_ or_ s.jobs 0
theorem b15a0 {P:Prop} (h:P:=by first|((refine ⟨Nat.le_of_ble_eq_true rfl,fun y hy=>?_⟩;rw [List.mem_singleton.1 hy];first|exact Q74 hk0.2.2.1 (Job.szz _)|exact Q74 hk1.2.2.1 (Job.szz _)|exact (Q74 hk1.2.2.1 (Job.szz _):(t.jobs.getD i Job.zero).sz)))|exact szA):P:=h
theorem QDc (s:State) (t:State) (id_:Int) (or_:Int) (hs0:s.sz) (hs1:t.sz):GV 22 [State.a s,State.a t,I id_,U or_] (Bo (Qu4 s t id_ or_)):=by
 generalize hR:Qu4 s t id_ or_=R;refine gA (kj [2000006] 12 [46,51,73,82]) Tryz.func22 ?_;have hk0:=hs0;obtain ⟨z22,z23,z24,z25,z26,z27,z28⟩:=hs0;have hk1:=hs1;obtain ⟨z29,z30,z31,z32,z33,z34,z35⟩:=hs1;refine us (Q63 t b15a0 _) ?_;refine ai (fun h1=>?_) (fun h2=>?_)
 ·exact lfA
 ·refine Qv0 (fun (i:Nat)=>Qv4 t id_ or_ (List.drop i s.jobs) i=R∧i<=s.jobs.length) (fun i=>s.jobs.length - i) (fun i=>[(2,I id_),(3,U or_),(4,AVal.ptr 0 0 8 0 0),(5,AVal.ptr 1 0 8 0 0),(8,Bo false),(9,I (i:Int))]) (fun i=>[(0,AObj.row 28 8 [[I s.now,nodeL s.nodes,jobL s.jobs,Qc2 s.resizes,bookL s.books,Qb4 s.ledger,I s.nextJob,I s.nextBook]]),(0,AObj.row 28 8 [[I t.now,nodeL t.nodes,jobL t.jobs,Qc2 t.resizes,bookL t.books,Qb4 t.ledger,I t.nextJob,I t.nextBook]])]) 0 (wkA [0,1]) ⟨folA,by exact omA⟩ ?_;clear hR;rintro i ⟨hR,hj⟩;(try dsimp only at hR hj);refine ai (fun h3=>?_) (fun h4=>?_)
  ·have hlt:=ltA h3;rw [Qr0 Job.zero hlt] at hR;have hxz:(s.jobs.getD i Job.zero).sz:=Q74 (by first|assumption|grind) (Job.szz _);have hkz:=hxz;obtain ⟨z5,z6,z7,z8,z9⟩:=Job.zz hxz;refine cdraw_two 10 (by kernel_rfl) ?_ ?_
   ·refine dchk (by kernel_rfl) ?_;refine ai gkA ?_;refine ai gkA ?_;(repeat ((first|refine ai rfl ?_|refine ai (fun _=>rfl) ?_)));refine ai (fun h10=>?_) (fun h11=>?_)
    ·refine Or.inl ?_;refine Or.inl ?_;refine us (AGives.as2 (Qx7 ([(s.jobs.getD i Job.zero)]:List Job) ([{ (t.jobs.getD i Job.zero) with nodes:=(s.jobs.getD i Job.zero).nodes }]:List Job) b15a0 b15a0 _) (av (QN2 (c:=Job.cells) (d:=Job.zero) ([(s.jobs.getD i Job.zero)]:List Job) rfl) (av (QN2 (c:=Job.cells) (d:=Job.zero) ([{ (t.jobs.getD i Job.zero) with nodes:=(s.jobs.getD i Job.zero).nodes }]:List Job) rfl) .nil))) ?_;refine ai (fun h12=>?_) (fun h13=>?_)
     ·exact lfA
     ·exact Qy0 (i+1) (wkA [0,1]) omA ⟨folA,by exact omA⟩
    ·refine Or.inl ?_;refine Or.inl ?_;refine us (AGives.as2 (Qx7 ([(s.jobs.getD i Job.zero)]:List Job) ([(t.jobs.getD i Job.zero)]:List Job) b15a0 b15a0 _) (av (QN2 (c:=Job.cells) (d:=Job.zero) ([(s.jobs.getD i Job.zero)]:List Job) rfl) (av (QN2 (c:=Job.cells) (d:=Job.zero) ([(t.jobs.getD i Job.zero)]:List Job) rfl) .nil))) ?_;refine ai (fun h14=>?_) (fun h15=>?_)
     ·exact lfA
     ·exact Qy0 (i+1) (wkA [0,1]) omA ⟨folA,by exact omA⟩
   ·refine dchk (by kernel_rfl) ?_;refine ai gkA ?_;refine ai gkA ?_;(repeat ((first|refine ai rfl ?_|refine ai (fun _=>rfl) ?_)));refine ai (fun h16=>?_) (fun h17=>?_)
    ·refine Or.inl ?_;refine Or.inl ?_;refine us (AGives.as2 (Qx7 ([(s.jobs.getD i Job.zero)]:List Job) ([{ (t.jobs.getD i Job.zero) with nodes:=(s.jobs.getD i Job.zero).nodes }]:List Job) b15a0 b15a0 _) (av (QN2 (c:=Job.cells) (d:=Job.zero) ([(s.jobs.getD i Job.zero)]:List Job) rfl) (av (QN2 (c:=Job.cells) (d:=Job.zero) ([{ (t.jobs.getD i Job.zero) with nodes:=(s.jobs.getD i Job.zero).nodes }]:List Job) rfl) .nil))) ?_;refine ai (fun h18=>?_) (fun h19=>?_)
     ·exact lfA
     ·exact Qy0 (i+1) (wkA [0,1]) omA ⟨folA,by exact omA⟩
    ·refine Or.inl ?_;refine Or.inl ?_;refine us (AGives.as2 (Qx7 ([(s.jobs.getD i Job.zero)]:List Job) ([(t.jobs.getD i Job.zero)]:List Job) b15a0 b15a0 _) (av (QN2 (c:=Job.cells) (d:=Job.zero) ([(s.jobs.getD i Job.zero)]:List Job) rfl) (av (QN2 (c:=Job.cells) (d:=Job.zero) ([(t.jobs.getD i Job.zero)]:List Job) rfl) .nil))) ?_;refine ai (fun h20=>?_) (fun h21=>?_)
     ·exact lfA
     ·exact Qy0 (i+1) (wkA [0,1]) omA ⟨folA,by exact omA⟩
  ·rw [Qs0 (l:=s.jobs) (j:=i) (geA h4)] at hR;exact lfA
end Go.Proofs.YtackngeeehiegaaGreatDoor
namespace Go.Proofs.YtackngeeehiegaaGreatDoor
set_option linter.unusedSimpArgs false
set_option linter.unusedVariables false
open Go.Fw
set_option maxRecDepth 20000
set_option maxHeartbeats 4000000
attribute [local irreducible] ACalls AMoves
end Go.Proofs.YtackngeeehiegaaGreatDoor
namespace Go.Proofs.YtackngeeehiegaaGreatDoor
set_option linter.unusedSimpArgs false
set_option linter.unusedVariables false
end Go.Proofs.YtackngeeehiegaaGreatDoor
