/-
  Contracts of functions, printed by a program of this repo (wip/dec). No condition beyond those that stand in each.
-/
import Derived.Test.YtcbolcknapeneaaGreatDoorG11
import Derived.Test.YtcbolcknapeneaaGreatDoorProg
import Derived.Test.YtcbolcknapeneaaGreatDoorG8
namespace Go.Proofs.YtcbolcknapeneaaGreatDoor
set_option linter.unusedSimpArgs false
set_option linter.unusedVariables false
open Go.Fw
set_option maxRecDepth 20000
set_option maxHeartbeats 4000000
attribute [local irreducible] ACalls AMoves
def Qu6 (c:Cmd):Int:=bif ((((decide ((c.shape.alts.length:Int) > 6))||(decide ((c.after.length:Int) > 4)))||(!(QTa c)))||(!(QSa c (Qt7 c)))) then 80 else 0
theorem b9a0 {P:Prop} (h:P:=by first|(exact cmd_bare_sz _ (by assumption))|exact szA):P:=h
theorem QId (c:Cmd) (hs0:c.sz):GV 74 [Cmd.a c] (I (Qu6 c)):=by
 generalize hR:Qu6 c=R;refine ga (.cons (Cmd.low _ _) .nil) lx (kp 3 [25]) Tryz.func74 ?_;have hk0:=hs0;obtain ⟨z3,z4,z5,z6,z7⟩:c.name.size<=4294967296∧c.user.size<=4294967296∧c.account.size<=4294967296∧(c.shape.alts.length<=4294967296)∧c.after.length<=4294967296:=hs0;refine dchk (by kernel_rfl) ?_;(first|apply u2|apply u3|apply u4|apply us);exact cmd_fits_c c b9a0 _;(first|apply u2|apply u3|apply u4|apply us);exact cmd_bare_c c b9a0 _;(first|apply u2|apply u3|apply u4|apply us);exact cmd_Same_c c (Qt7 c) b9a0 b9a0 _;(repeat ((first|refine ai rfl ?_|refine ai (fun _=>rfl) ?_|refine ai (fun _=>cmd_fits_c c b9a0 _) ?_|refine ai (fun _=>cmd_bare_c c b9a0 _) ?_|refine ai (fun _=>cmd_Same_c c (Qt7 c) b9a0 b9a0 _) ?_)));refine ai (fun h1=>?_) (fun h2=>?_)
 ·obtain rfl:=foll hR (ct h1 rfl);exact Q00 lx sr
 ·obtain rfl:=foll hR (cf h2 rfl);exact Q00 lx sr
def QB3 (j:Job):List Dep->Nat->Int
 | [],_=>bif (!(Q51 j)) then 140 else 0
 | x_ :: r,i=>bif (decide (x_.job >= j.id)) then 140 else QB3 j r (i+1)
def Qi0 (j:Job):Int:=bif (((((((Q44 (⟨1,0,j.name,j.user,j.account,j.shape,j.prio,true,0,false,j.after,0,0,0⟩:Cmd))!=0)||(decide (j.id<1)))||(decide (j.id > 99999)))||(!(QN0 j.born)))||(decide (j.used<0)))||(decide (j.used > 1000000000000))) then 140 else QB3 j j.after 0
theorem QS3 {j:Job} (h:((Qi0 j)!=0)=false):Q51 j=true:=by
 have g1:∀ (l:List Dep) (i:Nat),QB3 j l i=0->Q51 j=true:=by
  intro l
  induction l with
  | nil =>
   intro i hi
   rw [QB3] at hi
   cases hs:Q51 j with
   | true=>rfl
   | false=>rw [hs] at hi;cases hi
  | cons x r ih =>
   intro i hi
   rw [QB3] at hi
   cases hx:decide (x.job >= j.id) with
   | true=>rw [hx] at hi;cases hi
   | false=>rw [hx] at hi;exact ih _ hi
 simp only [Qi0] at h
 revert h
 cases (((((((Q44 (⟨1,0,j.name,j.user,j.account,j.shape,j.prio,true,0,false,j.after,0,0,0⟩:Cmd))!=0)||(decide (j.id<1)))||(decide (j.id > 99999)))||(!(QN0 j.born)))||(decide (j.used<0)))||(decide (j.used > 1000000000000))) with
 | true=>simp
 | false =>
  intro h
  exact g1 _ _ (by simpa using h)
theorem QTc {j:Job} (h:Q51 j=true):((j.state != 1)||(j.promise==(-1)))=false->0<=j.choice∧j.choice<((Q50 j.shape).length:Int):=by
 intro hq
 rw [Bool.or_eq_false_iff] at hq
 have h1:(j.state==1)=true:=by simpa using hq.1
 rw [Q51,h1,hq.2] at h
 simp only [cond_true,cond_false] at h
 revert h
 cases (((j.start != 0)||(j.limit != 0))||(j.nodes != 0)) with
 | true=>intro h;cases h
 | false =>
  intro h
  simp only [cond_false,Bool.and_eq_true,decide_eq_true_eq] at h
  have hw:=h.1.2
  unfold QI1 at hw
  cases hc:((decide (j.choice<0))||(decide (j.choice >= ((Q50 j.shape).length:Int)))) with
  | true=>rw [hc] at hw;simp at hw
  | false=>simp at hc;omega
end Go.Proofs.YtcbolcknapeneaaGreatDoor
namespace Go.Proofs.YtcbolcknapeneaaGreatDoor
set_option linter.unusedSimpArgs false
set_option linter.unusedVariables false
open Go.Fw
set_option maxRecDepth 20000
set_option maxHeartbeats 4000000
attribute [local irreducible] ACalls AMoves
def Qv1 (j:Job):Int:=bif ((((((decide (j.id<1))||(decide (j.id > 99999)))||(!(Qc3 j.born)))||(j.used != (Qd5 j.used)))||((Qu6 (QA1 j))!=0))||(Qv0 j.after (fun (y:Dep)=>(decide (y.job >= j.id))))) then 140 else bif (j.state==1) then bif (!(Q32 j)) then 140 else 0 else bif (j.state==2) then bif (!(Qg3 j)) then 140 else 0 else bif (!(Qe7 j.state)) then 140 else bif (!(Q04 j)) then 140 else 0
theorem QH4 (j:Job) (hs0:j.sz):GV 23 [Job.a j] (I (Qv1 j)):=by
 generalize hR:Qv1 j=R;refine ga (.cons (Job.low _ _) .nil) lx (kp 6 [42,45,51,57,64]) Tryz.func23 ?_;obtain ⟨z19,z20,z21,z22,z23⟩:=Job.zz hs0;refine dchk (by kernel_rfl) ?_;(first|apply u2|apply u3|apply u4|apply us);exact QW4 j.born _;(first|apply u2|apply u3|apply u4|apply us);exact QK8 j.used _;(first|apply u2|apply u3|apply u4|apply us);exact Qx6 j _;(first|apply u2|apply u3|apply u4|apply us);exact QId (QA1 j) szA _;have cl1:∀ (y1:Dep),AMoves Tryz.prog 71 [Dep.a y1,AVal.ptr 0 0 20 0 0] [(0,AObj.row 35 20 [[I j.id,Sg j.name,Sg j.user,Sg j.account,I j.shape.kind,altL j.shape.alts,I j.shape.min,I j.shape.max,I j.shape.wall,I j.prio,depL j.after,I j.state,Bo j.held,I j.born,I j.promise,I j.choice,I j.start,I j.limit,U j.nodes,I j.used]])] 1 (Bo ((fun (y:Dep)=>(decide (y.job >= j.id))) y1)) [(0,AObj.row 35 20 [[I j.id,Sg j.name,Sg j.user,Sg j.account,I j.shape.kind,altL j.shape.alts,I j.shape.min,I j.shape.max,I j.shape.wall,I j.prio,depL j.after,I j.state,Bo j.held,I j.born,I j.promise,I j.choice,I j.start,I j.limit,U j.nodes,I j.used]])]:=by
  intro y1;have hR:(fun (y:Dep)=>(decide (y.job >= j.id))) y1=(fun (y:Dep)=>(decide (y.job >= j.id))) y1:=rfl;refine mo (kp 4 []) Tryz.func71 ?_;refine Ql0 (fun r:Bool=>Bo r) (fun _=>[(0,AObj.row 35 20 [[I j.id,Sg j.name,Sg j.user,Sg j.account,I j.shape.kind,altL j.shape.alts,I j.shape.min,I j.shape.max,I j.shape.wall,I j.prio,depL j.after,I j.state,Bo j.held,I j.born,I j.promise,I j.choice,I j.start,I j.limit,U j.nodes,I j.used]])]) (leaf:=(decide (y1.job >= j.id))) (foll hR rfl) ?_;exact tt [0] (tO rfl (ts Job.lo) .nil) t1
 have hof1:AMoves Tryz.prog 76 [depL j.after,AVal.fn (.func 71) [] [AVal.ptr 0 0 20 0 0]] [(0,AObj.row 35 20 [[I j.id,Sg j.name,Sg j.user,Sg j.account,I j.shape.kind,altL j.shape.alts,I j.shape.min,I j.shape.max,I j.shape.wall,I j.prio,depL j.after,I j.state,Bo j.held,I j.born,I j.promise,I j.choice,I j.start,I j.limit,U j.nodes,I j.used]])] 1 (Bo (Qv0 j.after (fun (y:Dep)=>(decide (y.job >= j.id))))) [(0,AObj.row 35 20 [[I j.id,Sg j.name,Sg j.user,Sg j.account,I j.shape.kind,altL j.shape.alts,I j.shape.min,I j.shape.max,I j.shape.wall,I j.prio,depL j.after,I j.state,Bo j.held,I j.born,I j.promise,I j.choice,I j.start,I j.limit,U j.nodes,I j.used]])]:=by
  have hR:Qv0 j.after (fun (y:Dep)=>(decide (y.job >= j.id)))=Qv0 j.after (fun (y:Dep)=>(decide (y.job >= j.id))):=rfl;refine mo (kp 5 []) Tryz.func76 ?_;have hof2:AMoves Tryz.prog 175 [depL j.after,AVal.fn (.func 71) [] [AVal.ptr 0 0 20 0 0]] [(0,AObj.row 35 20 [[I j.id,Sg j.name,Sg j.user,Sg j.account,I j.shape.kind,altL j.shape.alts,I j.shape.min,I j.shape.max,I j.shape.wall,I j.prio,depL j.after,I j.state,Bo j.held,I j.born,I j.promise,I j.choice,I j.start,I j.limit,U j.nodes,I j.used]])] 1 (I (QZ0 j.after (fun (y:Dep)=>(decide (y.job >= j.id))))) [(0,AObj.row 35 20 [[I j.id,Sg j.name,Sg j.user,Sg j.account,I j.shape.kind,altL j.shape.alts,I j.shape.min,I j.shape.max,I j.shape.wall,I j.prio,depL j.after,I j.state,Bo j.held,I j.born,I j.promise,I j.choice,I j.start,I j.limit,U j.nodes,I j.used]])]:=by
   have hR:QZ0 j.after (fun (y:Dep)=>(decide (y.job >= j.id)))=QZ0 j.after (fun (y:Dep)=>(decide (y.job >= j.id))):=rfl;refine mo (kp 6 [7,8,9,16]) Tryz.func175 ?_;refine Qm0 (fun (i:Nat)=>QY2 (fun (y:Dep)=>(decide (y.job >= j.id))) (List.drop i j.after) i=QZ0 j.after (fun (y:Dep)=>(decide (y.job >= j.id)))∧i<=j.after.length) (fun i=>j.after.length - i) (fun i=>[(0,depL j.after),(1,AVal.fn (.func 71) [] [AVal.ptr 0 0 20 0 0]),(4,I 0),(7,I (j.after.length:Int)),(8,I (i:Int))]) (fun i=>[(0,AObj.row 35 20 [[I j.id,Sg j.name,Sg j.user,Sg j.account,I j.shape.kind,altL j.shape.alts,I j.shape.min,I j.shape.max,I j.shape.wall,I j.prio,depL j.after,I j.state,Bo j.held,I j.born,I j.promise,I j.choice,I j.start,I j.limit,U j.nodes,I j.used]])]) 0 (wk [0] (tO rfl (ts Job.lo) .nil) (sl lw (sv (QI0 .nil (cv (Q10 0 rfl rfl) .nil)) (s1 (s1 (s1 .nil)))))) ⟨foll hR rfl,by exact omA⟩ ?_;clear hR;rintro i ⟨hR,hj⟩;(try dsimp only at hR hj);refine ai (fun h1=>?_) (fun h2=>?_)
   ·have hlt:=ltA h1;rw [Qg0 Dep.zero hlt] at hR;refine ai gkA ?_;refine us (mv [0] (cl1 (j.after.getD i Dep.zero)) (dO (ds Job.lo) .nil) (dl (Dep.low _ _) (dp .nil)) (rO (re Job.lo) .nil) rx) ?_;refine ai (fun h3=>?_) (fun h4=>?_)
    ·refine Ql0 (fun r:Int=>I r) (fun r:Int=>[(0,AObj.row 35 20 [[I j.id,Sg j.name,Sg j.user,Sg j.account,I j.shape.kind,altL j.shape.alts,I j.shape.min,I j.shape.max,I j.shape.wall,I j.prio,depL j.after,I j.state,Bo j.held,I j.born,I j.promise,I j.choice,I j.start,I j.limit,U j.nodes,I j.used]])]) (leaf:=(i:Int)) (foll hR (ct h3 rfl)) ?_;exact tt [0] (tO rfl (ts Job.lo) .nil) t1
    ·exact Qq0 (i+1) (wk [0] (tO rfl (ts Job.lo) .nil) (sl lw (sv (QI0 .nil (cv (Q10 0 rfl rfl) .nil)) (s1 (s1 (sv (Qn0 (I_eq (wr omA)) lx) .nil)))))) omA ⟨foll hR (cf h4 rfl),by exact omA⟩
   ·rw [Qt0 (l:=j.after) (j:=i) (geA h2)] at hR;refine Ql0 (fun r:Int=>I r) (fun r:Int=>[(0,AObj.row 35 20 [[I j.id,Sg j.name,Sg j.user,Sg j.account,I j.shape.kind,altL j.shape.alts,I j.shape.min,I j.shape.max,I j.shape.wall,I j.prio,depL j.after,I j.state,Bo j.held,I j.born,I j.promise,I j.choice,I j.start,I j.limit,U j.nodes,I j.used]])]) (leaf:=(-1)) (foll hR rfl) ?_;exact tt [0] (tO rfl (ts Job.lo) .nil) t1
  refine us (mv [0] (hof2) (dO (ds Job.lo) .nil) (dl lw (dv (dn_fn .nil (dp .nil)) .nil)) (rO (re Job.lo) .nil) rx) ?_;refine Ql0 (fun r:Bool=>Bo r) (fun r:Bool=>[(0,AObj.row 35 20 [[I j.id,Sg j.name,Sg j.user,Sg j.account,I j.shape.kind,altL j.shape.alts,I j.shape.min,I j.shape.max,I j.shape.wall,I j.prio,depL j.after,I j.state,Bo j.held,I j.born,I j.promise,I j.choice,I j.start,I j.limit,U j.nodes,I j.used]])]) (leaf:=(decide ((QZ0 j.after (fun (y:Dep)=>(decide (y.job >= j.id)))) >= 0))) (foll hR rfl) ?_;exact tt [0] (tO rfl (ts Job.lo) .nil) t1
 (first|apply u2|apply u3|apply u4|apply us);exact mv [0] (hof1) (dO (ds Job.lo) .nil) (dl lw (dv (dn_fn .nil (dp .nil)) .nil)) (rO (re Job.lo) .nil) rx;(repeat ((first|refine ai rfl ?_|refine ai (fun _=>rfl) ?_|refine ai (fun _=>QW4 j.born _) ?_|refine ai (fun _=>QK8 j.used _) ?_|refine ai (fun _=>Qx6 j _) ?_|refine ai (fun _=>QId (QA1 j) szA _) ?_)));refine ai (fun h5=>?_) (fun h6=>?_)
 ·obtain rfl:=foll hR (ct h5 rfl);exact Q00 lx sr
 ·refine ai (fun h7=>?_) (fun h8=>?_)
  ·refine us (Q2c j szA _) ?_;refine ai (fun h9=>?_) (fun h10=>?_)
   ·obtain rfl:=foll hR (cf h6 (ct h7 (ct h9 rfl)));exact Q00 lx sr
   ·obtain rfl:=foll hR (cf h6 (ct h7 (cf h10 rfl)));exact Q00 lx sr
  ·refine ai (fun h11=>?_) (fun h12=>?_)
   ·refine us (Qab j szA _) ?_;refine ai (fun h13=>?_) (fun h14=>?_)
    ·obtain rfl:=foll hR (cf h6 (cf h8 (ct h11 (ct h13 rfl))));exact Q00 lx sr
    ·obtain rfl:=foll hR (cf h6 (cf h8 (ct h11 (cf h14 rfl))));exact Q00 lx sr
   ·refine us (job_ended_c j.state _) ?_;refine ai (fun h15=>?_) (fun h16=>?_)
    ·obtain rfl:=foll hR (cf h6 (cf h8 (cf h12 (ct h15 rfl))));exact Q00 lx sr
    ·refine us (Qbe j _) ?_;refine ai (fun h17=>?_) (fun h18=>?_)
     ·obtain rfl:=foll hR (cf h6 (cf h8 (cf h12 (cf h16 (ct h17 rfl)))));exact Q00 lx sr
     ·obtain rfl:=foll hR (cf h6 (cf h8 (cf h12 (cf h16 (cf h18 rfl)))));exact Q00 lx sr
theorem Q3d {j:Job} (h:((((Qv1 j)!=0)||(j.state != 1))||(decide (j.promise<0)))=false):0<=j.choice∧j.choice<((Qf0 j.shape).length:Int):=by
 simp only [Bool.or_eq_false_iff,bne_eq_false_iff_eq,decide_eq_false_iff_not] at h
 obtain ⟨⟨h1,h2⟩,h3⟩:=h
 have hq:Q32 j=true:=by
  unfold Qv1 at h1
  revert h1
  rw [show (j.state==1)=true by simpa using h2]
  cases ((((((decide (j.id<1))||(decide (j.id > 99999)))||(!(Qc3 j.born)))||(j.used != (Qd5 j.used)))||((Qu6 (QA1 j))!=0))||(Qv0 j.after (fun (y:Dep)=>(decide (y.job >= j.id))))) with
  | true=>simp
  | false =>
   cases Q32 j with
   | true=>simp
   | false=>simp
 unfold Q32 at hq
 simp only [Bool.and_eq_true,Bool.or_eq_true] at hq
 rcases hq.2 with hp|hp
 ·have:=hp.1
  simp at this
  omega
 ·have ho:=hp.1.2
  unfold QP0 at ho
  cases hc:((decide (j.choice<0))||(decide (j.choice >= ((Qf0 j.shape).length:Int)))) with
  | true=>rw [hc] at ho;cases ho
  | false=>simp at hc;omega
def QD3 :List Job->Int->Nat->Int
 | [],_,_=>0
 | x_ :: r,last,i=>bif ((((i:Int)==40)||((Qi0 x_)!=0))||(decide (x_.id<=last))) then 140 else QD3 r x_.id (i+1)
def QT1 (l:List Job):Int:=QD3 l 0 0
end Go.Proofs.YtcbolcknapeneaaGreatDoor
namespace Go.Proofs.YtcbolcknapeneaaGreatDoor
set_option linter.unusedSimpArgs false
set_option linter.unusedVariables false
open Go.Fw
set_option maxRecDepth 20000
set_option maxHeartbeats 4000000
attribute [local irreducible] ACalls AMoves
def Qy4 (l:List Job):List Job->Nat->Int
 | [],_=>0
 | x_ :: r,i=>bif (((Qv1 x_)!=0)||((decide ((i:Int) > 0))&&(decide ((l.getD (Int.toNat (w64 ((i:Int) - 1))) Job.zero).id >= x_.id)))) then 140 else Qy4 l r (i+1)
def Ql1 (l:List Job):Int:=bif (decide ((l.length:Int) > 40)) then 140 else Qy4 l l 0
theorem QU6 (l:List Job) (hs0:l.length<=4294967296∧(∀ y ∈ l,y.sz)):GV 156 [jobL l] (I (Ql1 l)):=by
 generalize hR:Ql1 l=R;refine ga (.cons lw .nil) lx (kp 5 [7,8,9,10,11,32]) Tryz.func156 ?_;obtain ⟨z12,z13⟩:=id hs0;refine ai (fun h1=>?_) (fun h2=>?_)
 ·have qh1:=of_decide_eq_true h1;obtain rfl:=foll hR (ct h1 rfl);exact Q00 lx sr
 ·have qh2:=of_decide_eq_false h2;refine Qm0 (fun (i:Nat)=>Qy4 l (List.drop i l) i=R∧i<=l.length) (fun i=>l.length - i) (fun i=>[(0,jobL l),(2,I 0),(8,jobL l),(9,I (l.length:Int)),(10,I (i:Int))]) (fun i=>[]) 0 (wk [] .nil (sl lw (s1 (sl lw (s1 (s1 .nil)))))) ⟨foll hR (cf h2 rfl),by exact omA⟩ ?_;clear hR;rintro i ⟨hR,hj⟩;(try dsimp only at hR hj);refine ai (fun h3=>?_) (fun h4=>?_)
  ·have hlt:=ltA h3;rw [Qg0 Job.zero hlt] at hR;have hxz:(l.getD i Job.zero).sz:=Q70 (by first|assumption|grind) (Job.szz _);have hkz:=hxz;obtain ⟨z5,z6,z7,z8,z9⟩:=Job.zz hxz;refine ai gkA ?_;refine dchk (by kernel_rfl) ?_;(first|apply u2|apply u3|apply u4|apply us);exact QH4 (l.getD i Job.zero) szA _;refine ai gkA ?_;(repeat ((first|refine ai rfl ?_|refine ai (fun _=>rfl) ?_|refine ai (fun _=>QH4 (l.getD i Job.zero) szA _) ?_)));refine ai (fun h10=>?_) (fun h11=>?_)
   ·obtain rfl:=foll hR (ct h10 rfl);exact Q00 lx sr
   ·exact Qq0 (i+1) (wk [] .nil (sl lw (s1 (sl lw (s1 (sv (Qn0 (I_eq (wr omA)) lx) .nil)))))) omA ⟨foll hR (cf h11 rfl),by exact omA⟩
  ·rw [Qt0 (l:=l) (j:=i) (geA h4)] at hR;obtain rfl:=foll hR rfl;exact Q00 lx sr
def Q20 (j:Job):Int × Int × Int × Bool:=bif ((((Qv1 j)!=0)||(j.state != 1))||(decide (j.promise<0))) then (0,0,0,false) else (j.promise,(w64 (((Qf0 j.shape).getD (Int.toNat j.choice) Alt.zero).wall+12)),((Qf0 j.shape).getD (Int.toNat j.choice) Alt.zero).nodes,true)
theorem Qr9 (j:Job) (hs0:j.sz):GV 54 [Job.a j] (AVal.tup [I ((Q20 j).1),I ((Q20 j).2.1),I ((Q20 j).2.2.1),Bo ((Q20 j).2.2.2)]):=by
 generalize hR:Q20 j=R;refine ga (.cons (Job.low _ _) .nil) (Low.tup' (l1 (l1 (l1 (l1 .nil))))) (kp 7 [19]) Tryz.func54 ?_;obtain ⟨z3,z4,z5,z6,z7⟩:=Job.zz hs0;refine us (QH4 j szA _) ?_;refine ai (fun h1=>?_) (fun h2=>?_)
 ·obtain rfl:=foll hR (ct h1 rfl);exact Q00 (Low.tup' (l1 (l1 (l1 (l1 .nil))))) (Seen.tup (e1 (e1 (e1 (e1 .nil)))))
 ·refine dchk (by kernel_rfl) ?_;(first|apply u2|apply u3|apply u4|apply us);exact QE2 j.shape szA _;refine And.intro (by first|exact fun hg=>decide_eq_true (by first|((have q:=Q3d (by assumption);omega))|exact ckA)|exact gkA) ?_;(repeat ((first|refine ai rfl ?_|refine ai (fun _=>rfl) ?_|refine ai (fun _=>QE2 j.shape szA _) ?_)));(try (refine dchk (by kernel_rfl) ?_));(repeat ((first|refine ai rfl ?_|refine ai (fun _=>rfl) ?_)));obtain rfl:=foll hR (cf h2 rfl);exact Q00 (Low.tup' (l1 (l1 (l1 (l1 .nil))))) (Seen.tup (e1 (e1 (e1 (e1 .nil)))))
def Qj1 (j:Job) (at_:Int) (choice:Int):Job × Int:=bif ((Qv1 j)!=0) then (Job.zero,(Qv1 j)) else bif ((j.state != 1)||j.held) then (Job.zero,141) else bif ((!(QP0 j choice).2)||(!(Qc3 at_))) then (Job.zero,2) else ({ j with promise:=at_,choice:=choice },0)
theorem job_Promise_c (j:Job) (at_:Int) (choice:Int) (hs0:j.sz):GV 63 [Job.a j,I at_,I choice] (AVal.tup [Job.a ((Qj1 j at_ choice).1),I ((Qj1 j at_ choice).2)]):=by
 generalize hR:Qj1 j at_ choice=R;refine ga (.cons (Job.low _ _) (l1 (l1 .nil))) (Low.tup' (.cons (Job.low _ _) (l1 .nil))) (kp 9 []) Tryz.func63 ?_;obtain ⟨z7,z8,z9,z10,z11⟩:=Job.zz hs0;refine ACalls.of_cwp (fun _=>true) Tryz.func164 rfl rfl ?_;refine us (QH4 j szA _) ?_;refine ai (fun h1=>?_) (fun h2=>?_)
 ·refine ⟨_,_,Told.refl,?_⟩;obtain rfl:=foll hR (ct h1 rfl);exact Q00 (Low.tup' (.cons (Job.low _ _) (l1 .nil))) (Seen.tup (ev (Seen.agg (e1 (e1 (e1 (e1 (e1 (ev (QJ0) (e1 (e1 (e1 (e1 (ev (QJ0) (e1 (e1 (e1 (e1 (e1 (e1 (e1 (e1 (e1 .nil))))))))))))))))))))) (e1 .nil)))
 ·refine ACalls.of_cwp (fun _=>true) Tryz.func162 rfl rfl ?_;refine ai (fun h3=>?_) (fun h4=>?_)
  ·refine ⟨_,_,Told.refl,?_⟩;refine ai (fun _=>?_) (fun h=>nomatch h);refine ⟨_,_,Told.refl,?_⟩;obtain rfl:=foll hR (cf h2 (ct h3 rfl));exact Q00 (Low.tup' (.cons (Job.low _ _) (l1 .nil))) (Seen.tup (ev (Seen.agg (e1 (e1 (e1 (e1 (e1 (ev (QJ0) (e1 (e1 (e1 (e1 (ev (QJ0) (e1 (e1 (e1 (e1 (e1 (e1 (e1 (e1 (e1 .nil))))))))))))))))))))) (e1 .nil)))
  ·refine us (Q86 j choice szA _) ?_;(first|apply u2|apply u3|apply u4|apply us);exact QW4 at_ _;refine ai (fun h5=>?_) (fun h6=>?_)
   ·refine ⟨_,_,Told.refl,?_⟩;refine ai (fun _=>?_) (fun h=>nomatch h);refine ⟨_,_,Told.refl,?_⟩;obtain rfl:=foll hR (cf h2 (cf h4 (ct h5 rfl)));exact Q00 (Low.tup' (.cons (Job.low _ _) (l1 .nil))) (Seen.tup (ev (Seen.agg (e1 (e1 (e1 (e1 (e1 (ev (QJ0) (e1 (e1 (e1 (e1 (ev (QJ0) (e1 (e1 (e1 (e1 (e1 (e1 (e1 (e1 (e1 .nil))))))))))))))))))))) (e1 .nil)))
   ·refine ⟨_,_,Told.refl,?_⟩;refine ai (fun h=>nomatch h) (fun _=>?_);refine us (QDc j szA _) ?_;refine ACalls.of_cwp (fun _=>true) Tryz.func165 rfl rfl ?_;refine dchk (by kernel_rfl) ?_;(repeat ((first|refine ai rfl ?_|refine ai (fun _=>rfl) ?_)));refine ⟨_,_,Told.refl,?_⟩;refine ⟨_,_,Told.refl,?_⟩;obtain rfl:=foll hR (cf h2 (cf h4 (cf h6 rfl)));exact Q00 (Low.tup' (.cons (Job.low _ _) (l1 .nil))) (Seen.tup (e1 (e1 .nil)))
theorem QZ9 {j:Job} (a c:Int) (h:j.sz):(Qj1 j a c).1.sz:=by
 unfold Qj1
 repeat' first|exact Job.szz _|exact h|(rw [Bool.cond_eq_ite];split)
def Qj5 (j:Job):Job × Int:=bif ((Qv1 j)!=0) then (Job.zero,(Qv1 j)) else bif ((Qld (j.state==1))!=0) then (Job.zero,(Qld (j.state==1))) else ({ j with promise:=(-1),choice:=0 },0)
theorem job_Drop_c (j:Job) (hs0:j.sz):GV 81 [Job.a j] (AVal.tup [Job.a ((Qj5 j).1),I ((Qj5 j).2)]):=by
 generalize hR:Qj5 j=R;refine ga (.cons (Job.low _ _) .nil) (Low.tup' (.cons (Job.low _ _) (l1 .nil))) (kp 4 []) Tryz.func81 ?_;obtain ⟨z5,z6,z7,z8,z9⟩:=Job.zz hs0;refine ACalls.of_cwp (fun _=>true) Tryz.func164 rfl rfl ?_;refine us (QH4 j szA _) ?_;refine ai (fun h1=>?_) (fun h2=>?_)
 ·refine ⟨_,_,Told.refl,?_⟩;obtain rfl:=foll hR (ct h1 rfl);exact Q00 (Low.tup' (.cons (Job.low _ _) (l1 .nil))) (Seen.tup (ev (Seen.agg (e1 (e1 (e1 (e1 (e1 (ev (QJ0) (e1 (e1 (e1 (e1 (ev (QJ0) (e1 (e1 (e1 (e1 (e1 (e1 (e1 (e1 (e1 .nil))))))))))))))))))))) (e1 .nil)))
 ·refine ACalls.of_cwp (fun _=>true) Tryz.func178 rfl rfl ?_;refine us (job_when_c (j.state==1) _) ?_;refine ⟨_,_,Told.refl,?_⟩;refine ai (fun h3=>?_) (fun h4=>?_)
  ·refine ⟨_,_,Told.refl,?_⟩;obtain rfl:=foll hR (cf h2 (ct h3 rfl));exact Q00 (Low.tup' (.cons (Job.low _ _) (l1 .nil))) (Seen.tup (ev (Seen.agg (e1 (e1 (e1 (e1 (e1 (ev (QJ0) (e1 (e1 (e1 (e1 (ev (QJ0) (e1 (e1 (e1 (e1 (e1 (e1 (e1 (e1 (e1 .nil))))))))))))))))))))) (e1 .nil)))
  ·refine us (QDc j szA _) ?_;refine ACalls.of_cwp (fun _=>true) Tryz.func180 rfl rfl ?_;refine ⟨_,_,Told.refl,?_⟩;refine ⟨_,_,Told.refl,?_⟩;obtain rfl:=foll hR (cf h2 (cf h4 rfl));exact Q00 (Low.tup' (.cons (Job.low _ _) (l1 .nil))) (Seen.tup (e1 (e1 .nil)))
theorem Q9e {j:Job} (h:j.sz):(Qj5 j).1.sz:=by
 unfold Qj5
 repeat' first|exact Job.szz _|exact h|(rw [Bool.cond_eq_ite];split)
def Qu5 (s:State):Int:=bif ((((!(QN0 s.now))||((Qya s.nodes)!=0))||((QT1 s.jobs)!=0))||((Qn7 s.books)!=0)) then 141 else 0
theorem QV8 {s:State} (h:((Qu5 s)!=0)=false):((QT1 s.jobs)!=0)=false:=by
 simp only [Qu5] at h
 revert h
 cases ((QT1 s.jobs)!=0) with
 | true=>simp
 | false=>intro _;rfl
end Go.Proofs.YtcbolcknapeneaaGreatDoor
namespace Go.Proofs.YtcbolcknapeneaaGreatDoor
set_option linter.unusedSimpArgs false
set_option linter.unusedVariables false
open Go.Fw
set_option maxRecDepth 20000
set_option maxHeartbeats 4000000
attribute [local irreducible] ACalls AMoves
def Qz1 (s:State):Int:=bif (((((decide (s.now<0))||(decide (s.now > 1000000)))||((Qq2 s.nodes)!=0))||((Ql1 s.jobs)!=0))||((Q46 s.books)!=0)) then 141 else 0
theorem QUc (s:State) (hs0:s.sz):GV 59 [State.a s] (I (Qz1 s)):=by
 generalize hR:Qz1 s=R;refine ga (.cons (State.low _ _) .nil) lx (kp 3 [28]) Tryz.func59 ?_;have hk0:=hs0;obtain ⟨z3,z4,z5,z6,z7,z8,z9⟩:=hs0;(first|apply u2|apply u3|apply u4|apply us);exact QZa s.nodes szA _;(first|apply u2|apply u3|apply u4|apply us);exact QU6 s.jobs szA _;(first|apply u2|apply u3|apply u4|apply us);exact book_Check_c s.books szA _;refine ai (fun h1=>?_) (fun h2=>?_)
 ·obtain rfl:=foll hR (ct h1 rfl);exact Q00 lx sr
 ·obtain rfl:=foll hR (cf h2 rfl);exact Q00 lx sr
theorem Ql5 {s:State} (h:((Qz1 s)!=0)=false):1<=s.nodes.length∧s.nodes.length<=48:=by
 have hf:Qq2 s.nodes=0:=by
  simp only [Qz1] at h
  revert h
  cases h2:(Qq2 s.nodes != 0) with
  | true=>simp
  | false=>intro _;simpa using h2
 simp only [Qq2] at hf
 revert hf
 cases h2:((decide ((s.nodes.length:Int)<1))||(decide ((s.nodes.length:Int) > 48))) with
 | true=>simp
 | false=>intro _;simp at h2;omega
theorem busy_ne {order:List Int} {i:Nat} {c:List (Int × Int)} {k:Int} (h:order ≠ []∨(i=0∧c=[])) (hg:(((getM k c).getD 0)==0)=false):order ≠ []:=by
 rcases h with h|⟨_,rfl⟩
 ·exact h
 ·simp [getM] at hg
theorem busy_order {s:State} {order:List Int} {i:Nat} {c:List (Int × Int)} (h:((Qz1 s)!=0)=false) (ho:order ≠ []∨(i=0∧c=[])) (hi:decide ((i:Int)<(s.nodes.length:Int))=false):order ≠ []:=by
 rcases ho with ho|⟨rfl,_⟩
 ·exact ho
 ·have:=(Ql5 h).1
  have:=of_decide_eq_false hi
  omega
def Qg4 (j:Job) (jobs:List Job) (ids:List Int) (pr:Job × Int) (c:List Step):List Job->Nat->List Step × List Job × List Int
 | [],_=>(c,jobs,ids)
 | _ :: r,i=>bif ((jobs.getD i Job.zero).id==j.id) then (c,(jobs.set i pr.1),(ids++([j.id]:List Int))) else Qg4 j jobs ids pr c r (i+1)
def Qf2 (j:Job) (jobs:List Job) (ids:List Int) (pr:Job × Int) (c:List Step):List Step × List Job × List Int:=Qg4 j jobs ids pr c jobs 0
def Qw2 (j:Job) (choice:Int) (at_:Int) (left:List Step) (jobs:List Job) (ids:List Int):List Step × List Job × List Int:=(fun pr:Job × Int=>bif (pr.2 != 0) then (left,jobs,ids) else (fun cl:Int × Int × Int × Bool=>(fun tk:(List Step) × Int=>bif (tk.2==0) then Qf2 j jobs ids pr tk.1 else Qf2 j jobs ids pr left) (QN5 left cl.1 cl.2.1 cl.2.2.1)) (Q20 pr.1)) (Qj1 j at_ choice)
theorem fresh_next {j:Job} {jobs:List Job} {i:Nat} (hlt:i<jobs.length) (h:((jobs.getD i Job.zero).id==j.id)=false) (hI:∃ x ∈ List.drop i jobs,x.id=j.id):∃ x ∈ List.drop (i+1) jobs,x.id=j.id:=by
 obtain ⟨x,hx,e⟩:=hI
 rw [Qg0 Job.zero hlt] at hx
 rcases List.mem_cons.1 hx with h2|h2
 ·rw [← h2,e,beq_self_eq_true] at h
  cases h
 ·exact ⟨x,h2,e⟩
theorem Qxe (j:Job) (choice:Int) (at_:Int) (left:List Step) (jobs:List Job) (ids:List Int) (hs0:j.sz) (hs1:left.length<=4294967296) (hs2:jobs.length<=4294967296∧(∀ y ∈ jobs,y.sz)) (hs3:ids.length<=4294967296) (hp0:∃ x ∈ jobs,x.id=j.id):AMoves Tryz.prog 62 [Job.a j,I choice,I at_,AVal.ptr 0 0 1 0 0,AVal.ptr 1 0 1 0 0,AVal.ptr 2 0 1 0 0] [(0,AObj.row 85 1 [[stepL left]]),(0,AObj.row 23 1 [[AVal.own 3 0 20 0 jobs.length]]),(0,AObj.row 44 1 [[AVal.own 4 0 1 0 ids.length]]),(0,AObj.row 35 20 (jobs.map Job.cells)),(0,AObj.row 3 1 (ids.map (fun q_=>[I q_])))] 3 (AVal.tup []) [(0,AObj.row 85 1 [[stepL ((Qw2 j choice at_ left jobs ids).1)]]),(0,AObj.row 23 1 [[AVal.own 3 0 20 0 ((Qw2 j choice at_ left jobs ids).2.1).length]]),(0,AObj.row 44 1 [[AVal.own 4 0 1 0 ((Qw2 j choice at_ left jobs ids).2.2).length]]),(0,AObj.row 35 20 ((Qw2 j choice at_ left jobs ids).2.1.map Job.cells)),(0,AObj.row 3 1 ((Qw2 j choice at_ left jobs ids).2.2.map (fun q_=>[I q_])))]:=by
 generalize hR:Qw2 j choice at_ left jobs ids=R;refine mo (kj [1000007] 18 [26,43]) Tryz.func62 ?_;obtain ⟨z14,z15,z16,z17,z18⟩:=Job.zz hs0;have hk1:=hs1;obtain z19:left.length<=4294967296:=hs1;obtain ⟨z20,z21⟩:=id hs2;have hk3:=hs3;obtain z22:ids.length<=4294967296:=hs3;refine us (job_Promise_c j at_ choice szA _) ?_;generalize hvpr:Qj1 j at_ choice=pr;(have hpr:pr.1.sz:=by rw [← hvpr];exact QZ9 _ _ hs0);refine ai (fun h1=>?_) (fun h2=>?_)
 ·obtain rfl:=foll hR ((by subst hvpr;exact ct h1 rfl));exact rq (tt [0,1,2,3,4] (tO rfl (ts (lv lw LowL.nil)) (tO rfl (Qb0 (cv (to 3 lnA) .nil)) (tO rfl (Qb0 (cv (to 4 lnA) .nil)) (tO rfl (tl eqA) (tO rfl (tl eqA) .nil))))) t1)
 ·refine us (Qr9 pr.1 szA _) ?_;generalize hvcl:Q20 pr.1=cl;refine QJ2 (fun (c:List Step)=>Qf2 j jobs ids pr c=R) (fun c=>[(4,AVal.ptr 1 0 1 0 0),(5,AVal.ptr 2 0 1 0 0),(6,AVal.ptr 5 0 20 0 0),(9,AVal.ptr 6 0 20 0 0)]) (fun c=>[(0,AObj.row 85 1 [[stepL c]]),(0,AObj.row 23 1 [[AVal.own 3 0 20 0 jobs.length]]),(0,AObj.row 44 1 [[AVal.own 4 0 1 0 ids.length]]),(0,AObj.row 35 20 (jobs.map Job.cells)),(0,AObj.row 3 1 (ids.map (fun q_=>[I q_]))),(0,AObj.row 35 20 [[I j.id,Sg j.name,Sg j.user,Sg j.account,I j.shape.kind,altL j.shape.alts,I j.shape.min,I j.shape.max,I j.shape.wall,I j.prio,depL j.after,I j.state,Bo j.held,I j.born,I j.promise,I j.choice,I j.start,I j.limit,U j.nodes,I j.used]]),(0,AObj.row 35 20 [[I pr.1.id,Sg pr.1.name,Sg pr.1.user,Sg pr.1.account,I pr.1.shape.kind,altL pr.1.shape.alts,I pr.1.shape.min,I pr.1.shape.max,I pr.1.shape.wall,I pr.1.prio,depL pr.1.after,I pr.1.state,Bo pr.1.held,I pr.1.born,I pr.1.promise,I pr.1.choice,I pr.1.start,I pr.1.limit,U pr.1.nodes,I pr.1.used]])]) ?_ ?_
  ·clear hR;rintro c hR;(try dsimp only at hR);refine ACalls.of_cwp (fun _=>true) Tryz.func65 rfl rfl ?_;refine Qm0 (fun (i:Nat)=>Qg4 j jobs ids pr c (List.drop i jobs) i=R∧i<=jobs.length ∧ ∃ x ∈ List.drop i jobs,x.id=j.id) (fun i=>jobs.length - i) (fun i=>[(0,AVal.own 3 0 20 0 jobs.length),(1,AVal.fn (.func 66) [] [AVal.ptr 5 0 20 0 0]),(4,I 0),(7,I (jobs.length:Int)),(8,I (i:Int))]) (fun i=>[(0,AObj.row 85 1 [[stepL c]]),(0,AObj.row 23 1 [[AVal.own 3 0 20 0 jobs.length]]),(0,AObj.row 44 1 [[AVal.own 4 0 1 0 ids.length]]),(0,AObj.row 35 20 (jobs.map Job.cells)),(0,AObj.row 3 1 (ids.map (fun q_=>[I q_]))),(0,AObj.row 35 20 [[I j.id,Sg j.name,Sg j.user,Sg j.account,I j.shape.kind,altL j.shape.alts,I j.shape.min,I j.shape.max,I j.shape.wall,I j.prio,depL j.after,I j.state,Bo j.held,I j.born,I j.promise,I j.choice,I j.start,I j.limit,U j.nodes,I j.used]]),(0,AObj.row 35 20 [[I pr.1.id,Sg pr.1.name,Sg pr.1.user,Sg pr.1.account,I pr.1.shape.kind,altL pr.1.shape.alts,I pr.1.shape.min,I pr.1.shape.max,I pr.1.shape.wall,I pr.1.prio,depL pr.1.after,I pr.1.state,Bo pr.1.held,I pr.1.born,I pr.1.promise,I pr.1.choice,I pr.1.start,I pr.1.limit,U pr.1.nodes,I pr.1.used]])]) 0 (wk [0,1,2,3,4,5,6] (tO rfl (ts (lv lw LowL.nil)) (tO rfl (Qb0 (cv (to 3 lnA) .nil)) (tO rfl (Qb0 (cv (to 4 lnA) .nil)) (tO rfl (tl eqA) (tO rfl (tl eqA) (tO rfl (ts Job.lo) (tO rfl (ts Job.lo) .nil))))))) (sv (to 3 lnA) (sv (QI0 .nil (cv (Q10 5 rfl rfl) .nil)) (s1 (s1 (s1 .nil)))))) ⟨foll hR rfl,by exact omA,hp0⟩ ?_;clear hR;rintro i ⟨hR,hj,hI⟩;(try dsimp only at hR hj);refine ai (fun h3=>?_) (fun h4=>?_)
   ·have hlt:=ltA h3;rw [Qg0 Job.zero hlt] at hR;have hxz:(jobs.getD i Job.zero).sz:=Q70 (by first|assumption|grind) (Job.szz _);have hkz:=hxz;obtain ⟨z5,z6,z7,z8,z9⟩:=Job.zz hxz;refine ai gkA ?_;refine ⟨_,Q22 rfl rfl rfl (Q12 Job.zero i (by first|rfl|exact Nat.zero_add _|omega) ckA) rfl,?_⟩;refine ACalls.of_cwp (fun _=>true) Tryz.func66 rfl rfl ?_;refine ⟨_,_,Told.refl,?_⟩;refine ai (fun h10=>?_) (fun h11=>?_)
    ·refine ⟨_,_,Told.refl,?_⟩;refine ai gkA ?_;refine ⟨_,Ql3 rfl rfl rfl rfl (Q12 Job.zero i (by first|rfl|exact Nat.zero_add _|omega) ckA) rfl rfl (set_map i pr.1 (by first|rfl|exact Nat.zero_add _|omega) rfl),?_⟩;refine Or.inl ?_;(first|refine ⟨Q75 8 rfl lnA apA,?_⟩|refine ⟨QI2 8 rfl apA,?_⟩);obtain rfl:=foll hR (ct h10 rfl);exact rq (tt [0,1,2,3,4] (tO rfl (ts (lv lw LowL.nil)) (tO rfl (Qb0 (cv (to 3 lnA) .nil)) (tO rfl (Qb0 (cv (to 4 lnA) .nil)) (tO rfl (tl eqA) (tO rfl (tl eqA) .nil))))) t1)
    ·exact Qq0 (i+1) (wk [0,1,2,3,4,5,6] (tO rfl (ts (lv lw LowL.nil)) (tO rfl (Qb0 (cv (to 3 lnA) .nil)) (tO rfl (Qb0 (cv (to 4 lnA) .nil)) (tO rfl (tl eqA) (tO rfl (tl eqA) (tO rfl (ts Job.lo) (tO rfl (ts Job.lo) .nil))))))) (sv (to 3 lnA) (sv (QI0 .nil (cv (Q10 5 rfl rfl) .nil)) (s1 (s1 (sv (Qn0 (I_eq (wr omA)) lx) .nil)))))) omA ⟨foll hR (cf h11 rfl),by exact omA,fresh_next hlt h11 hI⟩
   ·obtain ⟨x,hx,_⟩:=hI;rw [List.drop_eq_nil_of_le (by have:=of_decide_eq_false h4;omega)] at hx;exact absurd hx List.not_mem_nil
  ·refine us (fit_Take_c left cl.1 cl.2.1 cl.2.2.1 szA _) ?_;generalize hvtk:QN5 left cl.1 cl.2.1 cl.2.2.1=tk;refine ai (fun h12=>?_) (fun h13=>?_)
   ·exact QC0 tk.1 (wk [0,1,2,3,4,5,6] (tO rfl (ts (lv lw LowL.nil)) (tO rfl (Qb0 (cv (to 3 lnA) .nil)) (tO rfl (Qb0 (cv (to 4 lnA) .nil)) (tO rfl (tl eqA) (tO rfl (tl eqA) (tO rfl (ts Job.lo) (tO rfl (ts Job.lo) .nil))))))) (sv (Q10 1 rfl rfl) (sv (Q10 2 rfl rfl) (sv (Q10 5 rfl rfl) (sv (Q10 6 rfl rfl) .nil))))) (foll hR ((by subst hvpr;exact cf h2 (by subst hvcl;exact (by subst hvtk;exact ct h12 rfl)))))
   ·exact QC0 left (wk [0,1,2,3,4,5,6] (tO rfl (ts (lv lw LowL.nil)) (tO rfl (Qb0 (cv (to 3 lnA) .nil)) (tO rfl (Qb0 (cv (to 4 lnA) .nil)) (tO rfl (tl eqA) (tO rfl (tl eqA) (tO rfl (ts Job.lo) (tO rfl (ts Job.lo) .nil))))))) (sv (Q10 1 rfl rfl) (sv (Q10 2 rfl rfl) (sv (Q10 5 rfl rfl) (sv (Q10 6 rfl rfl) .nil))))) (foll hR ((by subst hvpr;exact cf h2 (by subst hvcl;exact (by subst hvtk;exact cf h13 rfl)))))
def Q31 :List Job->Nat->List (Int × Int)->(List (Int × Int))
 | [],_,c=>c
 | x_1 :: r,i1,c=>Q31 r (i1+1) (setM x_1.id x_1.state c)
def QR1 (c:List (Int × Int)):List Job->List Int->Nat->(List Int)
 | [],out,_=>out
 | x_2 :: r,out,i2=>bif (((false||(x_2.state != 1))||x_2.held)||(!(QL5 c x_2))) then QR1 c r out (i2+1) else QR1 c r (out++([x_2.id]:List Int)) (i2+1)
def Qf3 (out:List Int):(List Int):=out
def Qd4 (l:List Job) (c:List (Int × Int)):(List Int):=Qf3 (QR1 c l [] 0)
def Q60 (l:List Job):(List Int):=bif ((Ql1 l)!=0) then [] else Qd4 l (Q31 l 0 [])
theorem Q77 (l:List Job) (hs0:l.length<=4294967296∧(∀ y ∈ l,y.sz)):GV 20 [jobL l] (ints (Q60 l)):=by
 generalize hR:Q60 l=R;refine ga (.cons lw .nil) lw (kp 7 [9,10,11,12,31]) Tryz.func20 ?_;obtain ⟨z26,z27⟩:=id hs0;refine ACalls.of_cwp (fun _=>true) Tryz.func68 rfl rfl ?_;refine us (QU6 l szA _) ?_;refine ai (fun h1=>?_) (fun h2=>?_)
 ·refine ⟨_,_,Told.refl,?_⟩;refine Qm0 (fun (i:Nat)=>True∧i<=l.length) (fun i=>l.length - i) (fun i=>[(2,AVal.lit (.slice none 0 0)),(3,AVal.lit (.map none)),(4,AVal.lit (.slice none 0 0)),(9,jobL l),(10,I (l.length:Int)),(11,I (i:Int))]) (fun i=>[]) 0 (wk [] .nil (s1 (s1 (s1 (sl lw (s1 (s1 .nil))))))) ⟨trivial,by exact omA⟩ ?_;have hR0:=hR;rintro i ⟨hR,hj⟩;(try dsimp only at hR hj);refine ai (fun h3=>?_) (fun h4=>?_)
  ·have hlt:=ltA h3;have hxz:(l.getD i Job.zero).sz:=Q70 (by first|assumption|grind) (Job.szz _);have hkz:=hxz;obtain ⟨z5,z6,z7,z8,z9⟩:=Job.zz hxz;refine ai gkA ?_;(first|refine ⟨Bo false,_,fun h=>absurd h (by decide),fun _=>rfl,?_⟩|refine ⟨Bo false,fun h=>absurd h (by decide),?_⟩|refine ⟨Bo false,_,fun h=>absurd h (by simp),fun _=>rfl,?_⟩|refine ⟨Bo false,fun h=>absurd h (by simp),?_⟩);refine ai (fun _=>?_) (fun h=>nomatch h);exact Qq0 (i+1) (wk [] .nil (s1 (s1 (s1 (sl lw (s1 (sv (Qn0 (I_eq (wr omA)) lx) .nil))))))) omA ⟨hR,by exact omA⟩
  ·skip;have hR:=hR0;obtain rfl:=foll hR (ct h1 rfl);exact Q00 lw (QJ0)
 ·refine Q41 (fun (i1:Nat) (c:List (Int × Int))=>Qd4 l (Q31 (List.drop i1 l) i1 c)=R∧i1<=l.length) (fun i1 c=>l.length - i1) (fun i1 c=>[(2,AVal.lit (.map none)),(3,AVal.map 0),(10,jobL l),(11,I (l.length:Int)),(12,I (i1:Int))]) (fun i1 c=>[(0,AObj.other (.map (mapEs ik I 0 c) c.length))]) 0 [] (wk [0] (tO rfl (QF0 _ rfl rfl (fun _=>lx)) .nil) (s1 (sv (Qa2 0 rfl rfl) (sl lw (s1 (s1 .nil)))))) ⟨foll hR (cf h2 rfl),by exact omA⟩ ?_;clear hR;rintro i1 c ⟨hR,hj⟩;(try dsimp only at hR hj);refine ai (fun h10=>?_) (fun h11=>?_)
  ·have hlt:=ltA h10;rw [Qg0 Job.zero hlt] at hR;have hxz:(l.getD i1 Job.zero).sz:=Q70 (by first|assumption|grind) (Job.szz _);have hkz:=hxz;obtain ⟨z12,z13,z14,z15,z16⟩:=Job.zz hxz;refine ai gkA ?_;refine ⟨_,_,Qm2 rfl _ _,Qqb (ek:=ik) ((l.getD i1 Job.zero).id) ((l.getD i1 Job.zero).state) c rfl rfl,?_⟩;exact Qz0 (i1+1) (setM (l.getD i1 Job.zero).id (l.getD i1 Job.zero).state c) (wk [0] (tO rfl (QF0 _ rfl rfl (fun _=>lx)) .nil) (s1 (sv (Qa2 0 rfl rfl) (sl lw (s1 (sv (Qn0 (I_eq (wr omA)) lx) .nil)))))) omA ⟨foll hR (congrArg (fun p:(List (Int × Int))=>Qd4 l p) rfl),by exact omA⟩
  ·rw [Qt0 (l:=l) (j:=i1) (geA h11)] at hR;replace hR:Qd4 l c=R:=fo2 (fun p:(List (Int × Int))=>Qd4 l p) (c) hR rfl;refine ⟨_,_,Told.refl,?_⟩;refine Q41 (fun (out:List Int) (i2:Nat)=>Qf3 (QR1 c (List.drop i2 l) out i2)=R∧i2<=l.length∧out.length<=i2) (fun out i2=>l.length - i2) (fun out i2=>[(2,AVal.lit (.slice none 0 0)),(3,AVal.map 0),(4,AVal.own 1 0 1 0 out.length),(9,jobL l),(10,I (l.length:Int)),(11,I (i2:Int))]) (fun out i2=>[(0,AObj.other (.map (mapEs ik I 0 c) c.length)),(0,AObj.row 3 1 (out.map (fun q_=>[I q_])))]) [] 0 ((QH3 3 1).trans (wk [0,1] (tO rfl (QF0 _ rfl rfl (fun _=>lx)) (tO rfl (tl eqA) .nil)) (s1 (sv (Qa2 0 rfl rfl) (sv (Qv2 1 rfl) (sl lw (s1 (s1 .nil)))))))) ⟨foll hR rfl,by exact omA,by exact exA⟩ ?_;clear hR;rintro out i2 ⟨hR,hj,hx⟩;(try dsimp only at hR hj hx);refine ai (fun h17=>?_) (fun h18=>?_)
   ·have hlt:=ltA h17;rw [Qg0 Job.zero hlt] at hR;have hxz:(l.getD i2 Job.zero).sz:=Q70 (by first|assumption|grind) (Job.szz _);have hkz:=hxz;obtain ⟨z19,z20,z21,z22,z23⟩:=Job.zz hxz;refine ai gkA ?_;(first|apply u2|apply u3|apply u4|apply us);exact mv [0] (QXb c (l.getD i2 Job.zero) szA) (dO (.same _ (Qh7 fun _=>lx)) .nil) (dv (dn_ren (Ren.map _ _ rfl)) (dv (Q87 (Low.agg' (Job.lo))) .nil)) (rO (RenO.same _ (Qh7 fun _=>lx)) .nil) rx;refine ai (fun h24=>?_) (fun h25=>?_)
    ·exact Qz0 out (i2+1) (wk [0,1] (tO rfl (QF0 _ rfl rfl (fun _=>lx)) (tO rfl (tl eqA) .nil)) (s1 (sv (Qa2 0 rfl rfl) (sv (to 1 lnA) (sl lw (s1 (sv (Qn0 (I_eq (wr omA)) lx) .nil))))))) omA ⟨foll hR (congrArg (fun p:(List Int)=>Qf3 p) (ct h24 rfl)),by exact omA,by exact exA⟩
    ·refine Or.inl ?_;(first|refine ⟨Q75 8 rfl lnA apA,?_⟩|refine ⟨QI2 8 rfl apA,?_⟩);exact Qz0 (out++([(l.getD i2 Job.zero).id]:List Int)) (i2+1) (wk [0,1] (tO rfl (QF0 _ rfl rfl (fun _=>lx)) (tO rfl (tl eqA) .nil)) (s1 (sv (Qa2 0 rfl rfl) (sv (to 1 lnA) (sl lw (s1 (sv (Qn0 (I_eq (wr omA)) lx) .nil))))))) omA ⟨foll hR (congrArg (fun p:(List Int)=>Qf3 p) (cf h25 rfl)),by exact omA,by exact exA⟩
   ·rw [Qt0 (l:=l) (j:=i2) (geA h18)] at hR;replace hR:Qf3 out=R:=fo2 (fun p:(List Int)=>Qf3 p) (out) hR rfl;obtain rfl:=foll hR rfl;exact Q00 lw (Q82 0 _ rfl eqA lnA)
theorem Q45 (c:List (Int × Int)):∀ (r:List Job) (out:List Int) (i:Nat),(QR1 c r out i).length<=out.length+r.length
 | [],out,i=>by simp [QR1]
 | x :: r,out,i=>by
  have h1:=Q45 c r out (i+1)
  have h2:=Q45 c r (out++([x.id]:List Int)) (i+1)
  rw [QR1,Bool.cond_eq_ite]
  simp only [List.length_append,List.length_cons,List.length_nil] at *
  split <;> omega
theorem Qy0 (l:List Job):(Q60 l).length<=l.length:=by
 unfold Q60
 cases ((Ql1 l)!=0) with
 | true=>simp
 | false=>have h:=Q45 (Q31 l 0 []) l [] 0;rw [List.length_nil,Nat.zero_add] at h;exact h
def Qh1 (l:List Job) (id_:Int):Job × Bool:=bif (((Ql1 l)!=0)||(!(Qq7 id_))) then (Job.zero,false) else bif (!(QL0 l id_).2) then (Job.zero,false) else (((List.drop (Int.toNat ((QL0 l id_).1)) (List.take (Int.toNat (w64 ((QL0 l id_).1+1))) l)).getD 0 Job.zero),true)
theorem table_Find_c (l:List Job) (id_:Int) (hs0:l.length<=4294967296∧(∀ y ∈ l,y.sz)):GV 129 [jobL l,I id_] (AVal.tup [Job.a ((Qh1 l id_).1),Bo ((Qh1 l id_).2)]):=by
 generalize hR:Qh1 l id_=R;refine ga (.cons lw (l1 .nil)) (Low.tup' (.cons (Job.low _ _) (l1 .nil))) (kp 8 [15,24]) Tryz.func129 ?_;obtain ⟨z5,z6⟩:=id hs0;refine us (QU6 l szA _) ?_;(first|apply u2|apply u3|apply u4|apply us);exact table_known_c id_ _;refine ai (fun h1=>?_) (fun h2=>?_)
 ·obtain rfl:=foll hR (ct h1 rfl);exact Q00 (Low.tup' (.cons (Job.low _ _) (l1 .nil))) (Seen.tup (ev (Seen.agg (e1 (e1 (e1 (e1 (e1 (ev (QJ0) (e1 (e1 (e1 (e1 (ev (QJ0) (e1 (e1 (e1 (e1 (e1 (e1 (e1 (e1 (e1 .nil))))))))))))))))))))) (e1 .nil)))
 ·refine us (table_place_c l id_ szA _) ?_;refine ai (fun h3=>?_) (fun h4=>?_)
  ·obtain rfl:=foll hR (cf h2 (ct h3 rfl));exact Q00 (Low.tup' (.cons (Job.low _ _) (l1 .nil))) (Seen.tup (ev (Seen.agg (e1 (e1 (e1 (e1 (e1 (ev (QJ0) (e1 (e1 (e1 (e1 (ev (QJ0) (e1 (e1 (e1 (e1 (e1 (e1 (e1 (e1 (e1 .nil))))))))))))))))))))) (e1 .nil)))
  ·refine And.intro (by first|exact fun hg=>decide_eq_true (by first|(have hp:=Qr6 l id_ hs0.1 (by assumption);have pw:IntKind.i64.wrap ((QL0 l id_).1+1)=(QL0 l id_).1+1:=wr (by omega);simp only [Option.getD_some,pw,List.length_drop,List.length_take];omega)|exact ckA)|exact gkA) ?_;refine us (mv [] (table_whole_o (List.drop (Int.toNat ((QL0 l id_).1)) (List.take (Int.toNat (w64 ((QL0 l id_).1+1))) l)) szA) .nil (dv (dn_as (as_cut l (Int.toNat ((QL0 l id_).1)) (Int.toNat (w64 ((QL0 l id_).1+1))) leA (by first|(have hp:=Qr6 l id_ hs0.1 (by assumption);have pw:IntKind.i64.wrap ((QL0 l id_).1+1)=(QL0 l id_).1+1:=wr (by omega);simp only [Option.getD_some,pw,List.length_drop,List.length_take];omega)|exact ckA)) lw) .nil) (rO rr .nil) (rw_ 1 0 rfl)) ?_;refine And.intro (by first|exact fun hg=>decide_eq_true (by first|(have hp:=Qr6 l id_ hs0.1 (by assumption);have pw:IntKind.i64.wrap ((QL0 l id_).1+1)=(QL0 l id_).1+1:=wr (by omega);simp only [Option.getD_some,pw,List.length_drop,List.length_take];omega)|exact ckA)|exact gkA) ?_;refine ⟨_,Q22 rfl rfl rfl (Q12 Job.zero 0 (by first|rfl|exact Nat.zero_add _|omega) (by first|(have hp:=Qr6 l id_ hs0.1 (by assumption);have pw:IntKind.i64.wrap ((QL0 l id_).1+1)=(QL0 l id_).1+1:=wr (by omega);simp only [Option.getD_some,pw,List.length_drop,List.length_take];omega)|exact ckA)) rfl,?_⟩;obtain rfl:=foll hR (cf h2 (cf h4 rfl));exact Q00 (Low.tup' (.cons (Job.low _ _) (l1 .nil))) (Seen.tup (e1 (e1 .nil)))
def Qg1 (l:List Usage) (ids:List Int):List Job->List Ranked->Nat->List (ByteArray × Int)->(List Ranked) × (List (ByteArray × Int))
 | [],r_,_,c=>(r_,c)
 | x_ :: r,r_,i,c=>bif (!(QK0 ids x_.id)) then Qg1 l ids r r_ (i+1) c else bif (!(getM x_.user c).isSome) then Qg1 l ids r (r_++([(⟨x_.id,x_.prio,((getM x_.user (setM x_.user (Qi1 l x_.user) c)).getD 0),x_.id⟩:Ranked)]:List Ranked)) (i+1) (setM x_.user (Qi1 l x_.user) c) else Qg1 l ids r (r_++([(⟨x_.id,x_.prio,((getM x_.user c).getD 0),x_.id⟩:Ranked)]:List Ranked)) (i+1) c
def QQ1 (r_:List Ranked):List Ranked->List Int->Nat->(List Int)
 | [],out,_=>out
 | _ :: r,out,i1=>QQ1 r_ r (out++([((QS2 r_).getD i1 Ranked.zero).what]:List Int)) (i1+1)
def QG3 (out:List Int):(List Int):=out
def Qz2 (r_:List Ranked) (c:List (ByteArray × Int)):(List Int):=QG3 (QQ1 r_ (QS2 r_) [] 0)
def QB0 (jobs:List Job) (l:List Usage) (ids:List Int):(List Int):=bif ((Ql1 jobs)!=0) then [] else Qz2 ((Qg1 l ids jobs [] 0 []).1) ((Qg1 l ids jobs [] 0 []).2)
theorem b12a0 {P:Prop} (h:P:=by first|((exact ⟨hx.1,by omega⟩))|first|((exact ⟨fun x hm=>(List.mem_append.1 hm).elim (hx.1 x) (fun h=>by rw [List.mem_singleton.1 h]),by simp;omega⟩))|first|((exact ⟨fun _ h=>absurd h List.not_mem_nil,by simp⟩))|exact exA):P:=h
theorem QCb (jobs:List Job) (l:List Usage) (ids:List Int) (hs0:jobs.length<=4294967296∧(∀ y ∈ jobs,y.sz)) (hs1:l.length<=4294967296∧(∀ y ∈ l,y.sz)) (hs2:ids.length<=4294967296):GV 168 [jobL jobs,Qo2 l,ints ids] (ints (QB0 jobs l ids)):=by
 generalize hR:QB0 jobs l ids=R;refine ga (.cons lw (.cons lw (.cons lw .nil))) lw (kp 14 [16,18,19,20,21,28,37]) Tryz.func168 ?_;obtain ⟨z16,z17⟩:=id hs0;obtain ⟨z18,z19⟩:=id hs1;have hk2:=hs2;obtain z20:ids.length<=4294967296:=hs2;refine us (QU6 jobs szA _) ?_;refine ai (fun h1=>?_) (fun h2=>?_)
 ·obtain rfl:=foll hR (ct h1 rfl);exact Q00 lw (QJ0)
 ·refine Qv8 (fun (r_:List Ranked) (i:Nat) (c:List (ByteArray × Int))=>Qz2 (Qg1 l ids (List.drop i jobs) r_ i c).1 (Qg1 l ids (List.drop i jobs) r_ i c).2=R∧i<=jobs.length∧(∀ x ∈ r_,x.what=x.id)∧r_.length<=i) (fun r_ i c=>jobs.length - i) (fun r_ i c=>[(1,Qo2 l),(2,ints ids),(6,AVal.lit (.slice none 0 0)),(7,AVal.own 1 0 4 0 r_.length),(8,AVal.map 0),(18,jobL jobs),(19,I (jobs.length:Int)),(20,I (i:Int))]) (fun r_ i c=>[(0,AObj.other (.map (mapEs sk I 0 c) c.length)),(0,AObj.row 277 4 (r_.map Ranked.cells))]) [] 0 [] ((QH3 277 4).trans (wk [0,1] (tO rfl (QF0 _ rfl rfl (fun _=>lx)) (tO rfl (tl eqA) .nil)) (sl lw (sl lw (s1 (sv (Qv2 1 rfl) (sv (Qa2 0 rfl rfl) (sl lw (s1 (s1 .nil)))))))))) ⟨foll hR (cf h2 rfl),by exact omA,b12a0⟩ ?_;clear hR;rintro r_ i c ⟨hR,hj,hx⟩;(try dsimp only at hR hj hx);refine ai (fun h3=>?_) (fun h4=>?_)
  ·have hlt:=ltA h3;rw [Qg0 Job.zero hlt] at hR;have hxz:(jobs.getD i Job.zero).sz:=Q70 (by first|assumption|grind) (Job.szz _);have hkz:=hxz;obtain ⟨z5,z6,z7,z8,z9⟩:=Job.zz hxz;refine ai gkA ?_;refine us (QD1 ids ((jobs.getD i Job.zero).id) szA _) ?_;refine ai (fun h10=>?_) (fun h11=>?_)
   ·exact Qm4 r_ (i+1) c (wk [0,1] (tO rfl (QF0 _ rfl rfl (fun _=>lx)) (tO rfl (tl eqA) .nil)) (sl lw (sl lw (s1 (sv (to 1 lnA) (sv (Qa2 0 rfl rfl) (sl lw (s1 (sv (Qn0 (I_eq (wr omA)) lx) .nil))))))))) omA ⟨foll hR (congrArg (fun p:(List Ranked) × (List (ByteArray × Int))=>Qz2 p.1 p.2) (ct h10 rfl)),by exact omA,b12a0⟩
   ·(first|refine ⟨_,_,Qi6 rfl _ _,Qk1 (ek:=sk) ((jobs.getD i Job.zero).user) c 0 (AsA.refl _),?_⟩|refine ⟨_,fun _=>⟨_,_,Qi6 rfl _ _,Qk1 (ek:=sk) ((jobs.getD i Job.zero).user) c 0 (AsA.refl _),rfl,rfl⟩,?_⟩|refine ⟨_,rfl,⟨_,_,Qi6 rfl _ _,Qk1 (ek:=sk) ((jobs.getD i Job.zero).user) c 0 (AsA.refl _),Sub.refl _,rfl⟩,?_⟩);refine ai (fun h12=>?_) (fun h13=>?_)
    ·refine dchk (by kernel_rfl) ?_;(first|apply u2|apply u3|apply u4|apply us);exact Q1a l ((jobs.getD i Job.zero).user) szA szA _;refine ⟨_,_,⟨_,_,Qi6 rfl _ _,Qqb (ek:=sk) ((jobs.getD i Job.zero).user) (Qi1 l (jobs.getD i Job.zero).user) c rfl rfl,Sub.refl _,rfl⟩,?_⟩;(repeat ((first|refine ai rfl ?_|refine ai (fun _=>rfl) ?_|refine ai (fun _=>Q1a l ((jobs.getD i Job.zero).user) szA szA _) ?_)));(first|refine ⟨_,_,Qi6 rfl _ _,Qk1 (ek:=sk) ((jobs.getD i Job.zero).user) (setM (jobs.getD i Job.zero).user (Qi1 l (jobs.getD i Job.zero).user) c) 0 (AsA.refl _),?_⟩|refine ⟨_,fun _=>⟨_,_,Qi6 rfl _ _,Qk1 (ek:=sk) ((jobs.getD i Job.zero).user) (setM (jobs.getD i Job.zero).user (Qi1 l (jobs.getD i Job.zero).user) c) 0 (AsA.refl _),rfl,rfl⟩,?_⟩|refine ⟨_,rfl,⟨_,_,Qi6 rfl _ _,Qk1 (ek:=sk) ((jobs.getD i Job.zero).user) (setM (jobs.getD i Job.zero).user (Qi1 l (jobs.getD i Job.zero).user) c) 0 (AsA.refl _),Sub.refl _,rfl⟩,?_⟩);refine Or.inl ?_;(first|refine ⟨Q75 32 rfl lnA apA,?_⟩|refine ⟨QI2 32 rfl apA,?_⟩);exact Qm4 (r_++([(⟨(jobs.getD i Job.zero).id,(jobs.getD i Job.zero).prio,((getM (jobs.getD i Job.zero).user (setM (jobs.getD i Job.zero).user (Qi1 l (jobs.getD i Job.zero).user) c)).getD 0),(jobs.getD i Job.zero).id⟩:Ranked)]:List Ranked)) (i+1) (setM (jobs.getD i Job.zero).user (Qi1 l (jobs.getD i Job.zero).user) c) (wk [0,1] (tO rfl (QF0 _ rfl rfl (fun _=>lx)) (tO rfl (tl eqA) .nil)) (sl lw (sl lw (s1 (sv (to 1 lnA) (sv (Qa2 0 rfl rfl) (sl lw (s1 (sv (Qn0 (I_eq (wr omA)) lx) .nil))))))))) omA ⟨foll hR (congrArg (fun p:(List Ranked) × (List (ByteArray × Int))=>Qz2 p.1 p.2) (cf h11 (ct h12 rfl))),by exact omA,b12a0⟩
    ·(first|refine ⟨_,_,Qi6 rfl _ _,Qk1 (ek:=sk) ((jobs.getD i Job.zero).user) c 0 (AsA.refl _),?_⟩|refine ⟨_,fun _=>⟨_,_,Qi6 rfl _ _,Qk1 (ek:=sk) ((jobs.getD i Job.zero).user) c 0 (AsA.refl _),rfl,rfl⟩,?_⟩|refine ⟨_,rfl,⟨_,_,Qi6 rfl _ _,Qk1 (ek:=sk) ((jobs.getD i Job.zero).user) c 0 (AsA.refl _),Sub.refl _,rfl⟩,?_⟩);refine Or.inl ?_;(first|refine ⟨Q75 32 rfl lnA apA,?_⟩|refine ⟨QI2 32 rfl apA,?_⟩);exact Qm4 (r_++([(⟨(jobs.getD i Job.zero).id,(jobs.getD i Job.zero).prio,((getM (jobs.getD i Job.zero).user c).getD 0),(jobs.getD i Job.zero).id⟩:Ranked)]:List Ranked)) (i+1) c (wk [0,1] (tO rfl (QF0 _ rfl rfl (fun _=>lx)) (tO rfl (tl eqA) .nil)) (sl lw (sl lw (s1 (sv (to 1 lnA) (sv (Qa2 0 rfl rfl) (sl lw (s1 (sv (Qn0 (I_eq (wr omA)) lx) .nil))))))))) omA ⟨foll hR (congrArg (fun p:(List Ranked) × (List (ByteArray × Int))=>Qz2 p.1 p.2) (cf h11 (cf h13 rfl))),by exact omA,b12a0⟩
  ·rw [Qt0 (l:=jobs) (j:=i) (geA h4)] at hR;replace hR:Qz2 r_ c=R:=fo2 (fun p:(List Ranked) × (List (ByteArray × Int))=>Qz2 p.1 p.2) (r_,c) hR rfl;refine ACalls.of_cwp (fun _=>true) Tryz.func251 rfl rfl ?_;refine us (mv [1] (Qoc r_ szA (by exact hx.1)) (dO (dr eqA) .nil) (dv (QJ6 rfl lnA) (dv (Q87 (Low.fn _ _ _ LowL.nil LowL.nil)) .nil)) (rO rr .nil) rx) ?_;have hrl:=QPc r_;rw [← hrl];refine Q41 (fun (out:List Int) (i1:Nat)=>QG3 (QQ1 r_ (List.drop i1 (QS2 r_)) out i1)=R∧i1<=(QS2 r_).length∧out.length<=i1) (fun out i1=>(QS2 r_).length - i1) (fun out i1=>[(2,AVal.lit (.slice none 0 0)),(3,AVal.own 2 0 1 0 out.length),(8,AVal.own 1 0 4 0 ((QS2 r_).length)),(9,I ((QS2 r_).length:Int)),(10,I (i1:Int))]) (fun out i1=>[(0,AObj.other (.map (mapEs sk I 0 c) c.length)),(0,AObj.row 277 4 ((QS2 r_).map Ranked.cells)),(0,AObj.row 3 1 (out.map (fun q_=>[I q_])))]) [] 0 ((QH3 3 1).trans (wk [0,1,2] (tO rfl (QF0 _ rfl rfl (fun _=>lx)) (tO rfl (tl eqA) (tO rfl (tl eqA) .nil))) (s1 (sv (Qv2 2 rfl) (sv (to 1 lnA) (s1 (s1 .nil))))))) ⟨foll hR rfl,by exact omA,b12a0⟩ ?_;clear hR;rintro out i1 ⟨hR,hj,hx⟩;(try dsimp only at hR hj hx);refine ai (fun h14=>?_) (fun h15=>?_)
   ·have hlt:=ltA h14;rw [Qg0 Ranked.zero hlt] at hR;refine ai gkA ?_;refine ⟨_,Q22 rfl rfl rfl (Q12 Ranked.zero i1 (by first|rfl|exact Nat.zero_add _|omega) ckA) rfl,?_⟩;refine Or.inl ?_;(first|refine ⟨Q75 8 rfl lnA apA,?_⟩|refine ⟨QI2 8 rfl apA,?_⟩);exact Qz0 (out++([((QS2 r_).getD i1 Ranked.zero).what]:List Int)) (i1+1) (wk [0,1,2] (tO rfl (QF0 _ rfl rfl (fun _=>lx)) (tO rfl (tl eqA) (tO rfl (tl eqA) .nil))) (s1 (sv (to 2 lnA) (sv (to 1 lnA) (s1 (sv (Qn0 (I_eq (wr omA)) lx) .nil)))))) omA ⟨foll hR (congrArg (fun p:(List Int)=>QG3 p) rfl),by exact omA,b12a0⟩
   ·rw [Qt0 (l:=(QS2 r_)) (j:=i1) (geA h15)] at hR;replace hR:QG3 out=R:=fo2 (fun p:(List Int)=>QG3 p) (out) hR rfl;refine ⟨_,_,Told.refl,?_⟩;obtain rfl:=foll hR rfl;exact Q00 lw (Q82 0 _ rfl eqA lnA)
theorem QI7 (l:List Usage) (ids:List Int):∀ (r:List Job) (o:List Ranked) (i:Nat) (c:List (ByteArray × Int)),(Qg1 l ids r o i c).1.length<=o.length+r.length
 | [],o,i,c=>by simp [Qg1]
 | x :: r,o,i,c=>by
  have h1:=fun o' c'=>QI7 l ids r o' (i+1) c'
  rw [Qg1]
  repeat' first|exact Nat.le_trans (h1 _ _) (by simp only [List.length_cons,List.length_append,List.length_nil];omega)|(rw [Bool.cond_eq_ite];split)
theorem QJ7 (R:List Ranked):∀ (r:List Ranked) (out:List Int) (i:Nat),(QQ1 R r out i).length=out.length+r.length
 | [],out,i=>by simp [QQ1]
 | x :: r,out,i=>by rw [QQ1,QJ7 R r];simp;omega
theorem Qv9 (jobs:List Job) (l:List Usage) (ids:List Int):(QB0 jobs l ids).length<=jobs.length:=by
 unfold QB0 Qz2 QG3
 cases ((Ql1 jobs)!=0) with
 | true=>simp
 | false =>
  have h:=QI7 l ids jobs [] 0 []
  simp only [cond_false]
  rw [QJ7,QPc]
  simpa using h
def Qo7 (s:State):Int:=bif (((Qu5 s)!=0)||((QE8 s.ledger)!=0)) then 141 else 0
end Go.Proofs.YtcbolcknapeneaaGreatDoor
namespace Go.Proofs.YtcbolcknapeneaaGreatDoor
set_option linter.unusedSimpArgs false
set_option linter.unusedVariables false
open Go.Fw
set_option maxRecDepth 20000
set_option maxHeartbeats 4000000
attribute [local irreducible] ACalls AMoves
def Q81 (s:State):Int:=bif (((Qz1 s)!=0)||((Qe2 s.ledger)!=0)) then 141 else 0
theorem QV3 (s:State) (hs0:s.sz):GV 18 [State.a s] (I (Q81 s)):=by
 generalize hR:Q81 s=R;refine ga (.cons (State.low _ _) .nil) lx (kp 3 [11]) Tryz.func18 ?_;have hk0:=hs0;obtain ⟨z3,z4,z5,z6,z7,z8,z9⟩:=hs0;refine us (QUc s szA _) ?_;(first|apply u2|apply u3|apply u4|apply us);exact Q0a s.ledger szA _;refine ai (fun h1=>?_) (fun h2=>?_)
 ·obtain rfl:=foll hR (ct h1 rfl);exact Q00 lx sr
 ·obtain rfl:=foll hR (cf h2 rfl);exact Q00 lx sr
def Qs1 (s:State):List Node->List Int->Nat->List (Int × Int)->(List Int) × (List (Int × Int))
 | [],order,_,c=>(order,c)
 | x_ :: r,order,i,c=>bif (((getM (QG0 x_ (Qp0 s.jobs)) c).getD 0)==0) then Qs1 s r (order++([(QG0 x_ (Qp0 s.jobs))]:List Int)) (i+1) (setM (QG0 x_ (Qp0 s.jobs)) (w64 (((getM (QG0 x_ (Qp0 s.jobs)) c).getD 0)+1)) c) else Qs1 s r order (i+1) (setM (QG0 x_ (Qp0 s.jobs)) (w64 (((getM (QG0 x_ (Qp0 s.jobs)) c).getD 0)+1)) c)
def QX3 (order:List Int) (c:List (Int × Int)):List Int->Nat->Taken->Taken
 | [],_,c2=>c2
 | _ :: r,i1,c2=>QX3 order c r (i1+1) (Qd1 c2 0 ((sorted order).getD i1 0) ((getM ((sorted order).getD i1 0) c).getD 0))
def QQ4 (c2:Taken):(List Step):=c2.p
def QY3 (s:State) (order:List Int) (c:List (Int × Int)):(List Step):=QQ4 (QX3 order c (sorted order) 0 (⟨(Qg2 (Qw1 (Qv7 s.nodes)))⟩:Taken))
def Qr3 (s:State):(List Step):=bif ((Qz1 s)!=0) then [] else QY3 s ((Qs1 s s.nodes [] 0 []).1) ((Qs1 s s.nodes [] 0 []).2)
theorem b13a0 {P:Prop} (h:P:=by first|(exact ⟨.inr ⟨rfl,rfl⟩,Nat.le_refl _⟩)|first|(exact ⟨.inl (by simp),by simp;omega⟩)|first|(exact ⟨.inl (busy_ne hx.1 (by assumption)),by omega⟩)|first|(((try dsimp only);exact QQ8 (by assumption)))|first|(((try dsimp only);exact QQ8 hx))|first|(exact flat_len _)|exact exA):P:=h
theorem room_Busy_c (s:State) (hs0:s.sz):GV 134 [State.a s] (stepL (Qr3 s)):=by
 generalize hR:Qr3 s=R;refine ga (.cons (State.low _ _) .nil) lw (kp 12 [14,27,28,29,30,39,51,52,53,54]) Tryz.func134 ?_;have hk0:=hs0;obtain ⟨z9,z10,z11,z12,z13,z14,z15⟩:=hs0;refine us (QUc s szA _) ?_;refine ai (fun h1=>?_) (fun h2=>?_)
 ·obtain rfl:=foll hR (ct h1 rfl);exact Q00 lw (QJ0)
 ·refine us (fleet_Up_c s.nodes szA _) ?_;refine us (Qi7 (Qv7 s.nodes) _) ?_;refine us (profile_Flat_c (Qw1 (Qv7 s.nodes)) _) ?_;refine us (mv [] (room_limits_o s.jobs szA) .nil (dl lw .nil) (rO (RenO.same _ (Qh7 fun _=>lx)) .nil) (Ren.map _ _ rfl)) ?_;refine Qv8 (fun (order:List Int) (i:Nat) (c:List (Int × Int))=>QY3 s (Qs1 s (List.drop i s.nodes) order i c).1 (Qs1 s (List.drop i s.nodes) order i c).2=R∧i<=s.nodes.length∧(order ≠ []∨(i=0∧c=[]))∧order.length<=i) (fun order i c=>s.nodes.length - i) (fun order i c=>[(2,AVal.lit (.slice none 0 0)),(3,AVal.ptr 0 0 1 0 0),(4,AVal.map 1),(5,AVal.map 2),(6,AVal.own 3 0 1 0 order.length),(27,nodeL s.nodes),(28,I (s.nodes.length:Int)),(29,I (i:Int))]) (fun order i c=>[(0,AObj.row 185 1 [[stepL (Qg2 (Qw1 (Qv7 s.nodes)))]]),(0,AObj.other (.map (mapEs ik I 0 c) c.length)),(0,AObj.other (.map (mapEs ik I 0 (Qp0 s.jobs)) (Qp0 s.jobs).length)),(0,AObj.row 3 1 (order.map (fun q_=>[I q_])))]) [] 0 [] ((QH3 3 1).trans (wk [1,2,3,4] (tO rfl (ts Taken.lo) (tO rfl (QF0 _ rfl rfl (fun _=>lx)) (tO rfl (QF0 _ rfl rfl (fun _=>lx)) (tO rfl (tl eqA) .nil)))) (s1 (sv (Q10 0 rfl rfl) (sv (Qa2 1 rfl rfl) (sv (Qa2 2 rfl rfl) (sv (Qv2 3 rfl) (sl lw (s1 (s1 .nil)))))))))) ⟨foll hR (cf h2 rfl),by exact omA,b13a0⟩ ?_;clear hR;rintro order i c ⟨hR,hj,hx⟩;(try dsimp only at hR hj hx);refine ai (fun h3=>?_) (fun h4=>?_)
  ·have hlt:=ltA h3;rw [Qg0 Node.zero hlt] at hR;refine ai gkA ?_;refine us (mv [2] (room_until_c (s.nodes.getD i Node.zero) (Qp0 s.jobs)) (dO (.same _ (Qh7 fun _=>lx)) .nil) (dv (Q87 (Low.agg' (Node.lo))) (dv (dn_ren (Ren.map _ _ rfl)) .nil)) (rO (RenO.same _ (Qh7 fun _=>lx)) .nil) rx) ?_;(first|refine ⟨_,_,Qm2 rfl _ _,Qk1 (ek:=ik) (QG0 (s.nodes.getD i Node.zero) (Qp0 s.jobs)) c 0 (AsA.refl _),?_⟩|refine ⟨_,fun _=>⟨_,_,Qm2 rfl _ _,Qk1 (ek:=ik) (QG0 (s.nodes.getD i Node.zero) (Qp0 s.jobs)) c 0 (AsA.refl _),rfl,rfl⟩,?_⟩|refine ⟨_,rfl,⟨_,_,Qm2 rfl _ _,Qk1 (ek:=ik) (QG0 (s.nodes.getD i Node.zero) (Qp0 s.jobs)) c 0 (AsA.refl _),Sub.refl _,rfl⟩,?_⟩);refine ai (fun h5=>?_) (fun h6=>?_)
   ·refine Or.inl ?_;(first|refine ⟨Q75 8 rfl lnA apA,?_⟩|refine ⟨QI2 8 rfl apA,?_⟩);(first|refine ⟨_,_,Qm2 rfl _ _,Qk1 (ek:=ik) (QG0 (s.nodes.getD i Node.zero) (Qp0 s.jobs)) c 0 (AsA.refl _),?_⟩|refine ⟨_,fun _=>⟨_,_,Qm2 rfl _ _,Qk1 (ek:=ik) (QG0 (s.nodes.getD i Node.zero) (Qp0 s.jobs)) c 0 (AsA.refl _),rfl,rfl⟩,?_⟩|refine ⟨_,rfl,⟨_,_,Qm2 rfl _ _,Qk1 (ek:=ik) (QG0 (s.nodes.getD i Node.zero) (Qp0 s.jobs)) c 0 (AsA.refl _),Sub.refl _,rfl⟩,?_⟩);refine ⟨_,_,Qm2 rfl _ _,Qqb (ek:=ik) (QG0 (s.nodes.getD i Node.zero) (Qp0 s.jobs)) (w64 (((getM (QG0 (s.nodes.getD i Node.zero) (Qp0 s.jobs)) c).getD 0)+1)) c rfl rfl,?_⟩;exact Qm4 (order++([(QG0 (s.nodes.getD i Node.zero) (Qp0 s.jobs))]:List Int)) (i+1) (setM (QG0 (s.nodes.getD i Node.zero) (Qp0 s.jobs)) (w64 (((getM (QG0 (s.nodes.getD i Node.zero) (Qp0 s.jobs)) c).getD 0)+1)) c) (wk [0,1,2,3] (tO rfl (ts Taken.lo) (tO rfl (QF0 _ rfl rfl (fun _=>lx)) (tO rfl (QF0 _ rfl rfl (fun _=>lx)) (tO rfl (tl eqA) .nil)))) (s1 (sv (Q10 0 rfl rfl) (sv (Qa2 1 rfl rfl) (sv (Qa2 2 rfl rfl) (sv (to 3 lnA) (sl lw (s1 (sv (Qn0 (I_eq (wr omA)) lx) .nil))))))))) omA ⟨foll hR (congrArg (fun p:(List Int) × (List (Int × Int))=>QY3 s p.1 p.2) (ct h5 rfl)),by exact omA,b13a0⟩
   ·(first|refine ⟨_,_,Qm2 rfl _ _,Qk1 (ek:=ik) (QG0 (s.nodes.getD i Node.zero) (Qp0 s.jobs)) c 0 (AsA.refl _),?_⟩|refine ⟨_,fun _=>⟨_,_,Qm2 rfl _ _,Qk1 (ek:=ik) (QG0 (s.nodes.getD i Node.zero) (Qp0 s.jobs)) c 0 (AsA.refl _),rfl,rfl⟩,?_⟩|refine ⟨_,rfl,⟨_,_,Qm2 rfl _ _,Qk1 (ek:=ik) (QG0 (s.nodes.getD i Node.zero) (Qp0 s.jobs)) c 0 (AsA.refl _),Sub.refl _,rfl⟩,?_⟩);refine ⟨_,_,Qm2 rfl _ _,Qqb (ek:=ik) (QG0 (s.nodes.getD i Node.zero) (Qp0 s.jobs)) (w64 (((getM (QG0 (s.nodes.getD i Node.zero) (Qp0 s.jobs)) c).getD 0)+1)) c rfl rfl,?_⟩;exact Qm4 order (i+1) (setM (QG0 (s.nodes.getD i Node.zero) (Qp0 s.jobs)) (w64 (((getM (QG0 (s.nodes.getD i Node.zero) (Qp0 s.jobs)) c).getD 0)+1)) c) (wk [0,1,2,3] (tO rfl (ts Taken.lo) (tO rfl (QF0 _ rfl rfl (fun _=>lx)) (tO rfl (QF0 _ rfl rfl (fun _=>lx)) (tO rfl (tl eqA) .nil)))) (s1 (sv (Q10 0 rfl rfl) (sv (Qa2 1 rfl rfl) (sv (Qa2 2 rfl rfl) (sv (to 3 lnA) (sl lw (s1 (sv (Qn0 (I_eq (wr omA)) lx) .nil))))))))) omA ⟨foll hR (congrArg (fun p:(List Int) × (List (Int × Int))=>QY3 s p.1 p.2) (cf h6 rfl)),by exact omA,b13a0⟩
  ·rw [Qt0 (l:=s.nodes) (j:=i) (geA h4)] at hR;replace hR:QY3 s order c=R:=fo2 (fun p:(List Int) × (List (Int × Int))=>QY3 s p.1 p.2) (order,c) hR rfl;refine us (mv [3] (slices_Sort_c order szA (by exact busy_order (by assumption) hx.1 (by assumption))) (dO (dr eqA) .nil) (dv (QJ6 rfl lnA) .nil) (rO rr .nil) rx) ?_;refine Q41 (fun (i1:Nat) (c2:Taken)=>QQ4 (QX3 order c (List.drop i1 (sorted order)) i1 c2)=R∧i1<=(sorted order).length∧c2.p.length<=4294967296) (fun i1 c2=>(sorted order).length - i1) (fun i1 c2=>[(2,AVal.lit (.slice none 0 0)),(3,AVal.ptr 0 0 1 0 0),(4,AVal.map 1),(51,AVal.own 2 0 1 0 ((sorted order).length)),(52,I ((sorted order).length:Int)),(53,I (i1:Int))]) (fun i1 c2=>[(0,AObj.row 185 1 [[stepL c2.p]]),(0,AObj.other (.map (mapEs ik I 0 c) c.length)),(0,AObj.row 3 1 ((sorted order).map (fun q_=>[I q_])))]) 0 (⟨(Qg2 (Qw1 (Qv7 s.nodes)))⟩:Taken) (wk [0,1,3] (tO rfl (ts Taken.lo) (tO rfl (QF0 _ rfl rfl (fun _=>lx)) (tO rfl (tl eqA) .nil))) (s1 (sv (Q10 0 rfl rfl) (sv (Qa2 1 rfl rfl) (sv (to 2 lnA) (sv (Qn0 (I_eq (by simp)) lx) (s1 .nil))))))) ⟨foll hR rfl,by exact omA,b13a0⟩ ?_;clear hR;rintro i1 c2 ⟨hR,hj,hx⟩;(try dsimp only at hR hj hx);refine ai (fun h7=>?_) (fun h8=>?_)
   ·have hlt:=ltA h7;rw [Qg0 0 hlt] at hR;have hsl:=Qpc order;refine ai gkA ?_;refine ⟨_,Q22 rfl rfl rfl (Q12 0 i1 (by first|rfl|exact Nat.zero_add _|omega) ckA) rfl,?_⟩;(first|refine ⟨_,_,Qm2 rfl _ _,Qk1 (ek:=ik) ((sorted order).getD i1 0) c 0 (AsA.refl _),?_⟩|refine ⟨_,fun _=>⟨_,_,Qm2 rfl _ _,Qk1 (ek:=ik) ((sorted order).getD i1 0) c 0 (AsA.refl _),rfl,rfl⟩,?_⟩|refine ⟨_,rfl,⟨_,_,Qm2 rfl _ _,Qk1 (ek:=ik) ((sorted order).getD i1 0) c 0 (AsA.refl _),Sub.refl _,rfl⟩,?_⟩);refine us (mv [0] (Qe6 c2 0 ((sorted order).getD i1 0) ((getM ((sorted order).getD i1 0) c).getD 0) szA) (dO (ds Taken.lo) .nil) (dp (d1 (d1 (d1 .nil)))) (rO (re Taken.lo) .nil) rx) ?_;exact Qz0 (i1+1) (Qd1 c2 0 ((sorted order).getD i1 0) ((getM ((sorted order).getD i1 0) c).getD 0)) (wk [0,1,2] (tO rfl (ts Taken.lo) (tO rfl (QF0 _ rfl rfl (fun _=>lx)) (tO rfl (tl eqA) .nil))) (s1 (sv (Q10 0 rfl rfl) (sv (Qa2 1 rfl rfl) (sv (to 2 lnA) (sv (Qn0 (I_eq (by simp)) lx) (sv (Qn0 (I_eq (wr omA)) lx) .nil))))))) omA ⟨foll hR (congrArg (fun p:Taken=>QQ4 p) rfl),by exact omA,b13a0⟩
   ·rw [Qt0 (l:=(sorted order)) (j:=i1) (geA h8)] at hR;replace hR:QQ4 c2=R:=fo2 (fun p:Taken=>QQ4 p) (c2) hR rfl;obtain rfl:=foll hR rfl;exact Q00 lw sr
theorem Q64 (s:State):(Qr3 s).length<=4294967296:=by
 have g2:∀ (o:List Int) (c:List (Int × Int)) (l:List Int) (i:Nat) (t:Taken),t.p.length<=4294967296->(QX3 o c l i t).p.length<=4294967296:=by
  intro o c l
  induction l with
  | nil=>intro i t h;exact h
  | cons x r ih=>intro i t h;rw [QX3];exact ih _ _ (QQ8 h)
 unfold Qr3 QY3 QQ4
 cases ((Qz1 s)!=0) with
 | true=>simp
 | false=>exact g2 _ _ _ _ _ (flat_len _)
def QIe (s:State) (j:Job) (latest:Int):Int × Int × Bool:=bif (((Qo7 s)!=0)||((Qi0 j)!=0)) then (0,0,false) else ((QM9 s j latest).1,(QM9 s j latest).2.1,(QM9 s j latest).2.2)
end Go.Proofs.YtcbolcknapeneaaGreatDoor
namespace Go.Proofs.YtcbolcknapeneaaGreatDoor
set_option linter.unusedSimpArgs false
set_option linter.unusedVariables false
open Go.Fw
set_option maxRecDepth 20000
set_option maxHeartbeats 4000000
attribute [local irreducible] ACalls AMoves
def QD2 :List Book->Nat->Taken->Taken
 | [],_,c=>c
 | x_ :: r,i,c=>QD2 r (i+1) (Qd1 c x_.from_ x_.to x_.nodes)
def Qj2 (except:List Int):List Job->Nat->Taken->Taken
 | [],_,c2=>c2
 | x_1 :: r,i1,c2=>bif (!(QK0 except x_1.id)) then bif (Q20 x_1).2.2.2 then Qj2 except r (i1+1) (Qd1 c2 ((Q20 x_1).1) (w64 ((Q20 x_1).1+(Q20 x_1).2.1)) ((Q20 x_1).2.2.1)) else Qj2 except r (i1+1) c2 else Qj2 except r (i1+1) c2
def QZ3 (c2:Taken):(List Step):=c2.p
def QJ5 (s:State) (except:List Int) (c:Taken):(List Step):=QZ3 (Qj2 except s.jobs 0 c)
def Qh0 (s:State) (except:List Int):(List Step):=QJ5 s except (QD2 s.books 0 (⟨(Qr3 s)⟩:Taken))
theorem take_nil (f t n:Int):Qd1 (⟨[]⟩:Taken) f t n=⟨[]⟩:=by
 unfold Qd1
 cases ((decide (t<=f))||(n==0)) <;> rfl
theorem room_Room_nil {s:State} {except:List Int} (h:(Qr3 s).length=0):Qh0 s except=[]:=by
 have g1:∀ (l:List Book) (i:Nat),QD2 l i (⟨[]⟩:Taken)=⟨[]⟩:=by
  intro l
  induction l with
  | nil=>intro i;rfl
  | cons x r ih=>intro i;rw [QD2,take_nil];exact ih _
 have g2:∀ (l:List Job) (i:Nat),Qj2 except l i (⟨[]⟩:Taken)=⟨[]⟩:=by
  intro l
  induction l with
  | nil=>intro i;rfl
  | cons x r ih =>
   intro i
   rw [Qj2,take_nil]
   repeat' first|exact ih _|(rw [Bool.cond_eq_ite];split)
 unfold Qh0 QJ5 QZ3
 rw [List.eq_nil_of_length_eq_zero h,g1,g2]
theorem b14a0 {P:Prop} (h:P:=by first|(((try dsimp only);exact QQ8 (by assumption)))|first|(((try dsimp only);exact QQ8 hx))|first|(exact Q64 _)|exact exA):P:=h
theorem QI8 (s:State) (except:List Int) (hs0:s.sz) (hs1:except.length<=4294967296):GV 47 [State.a s,ints except] (stepL (Qh0 s except)):=by
 generalize hR:Qh0 s except=R;refine ga (.cons (State.low _ _) (.cons lw .nil)) lw (kp 12 [15,21,22,23,24,37,38,39,40,47]) Tryz.func47 ?_;have hk0:=hs0;obtain ⟨z14,z15,z16,z17,z18,z19,z20⟩:=hs0;have hk1:=hs1;obtain z21:except.length<=4294967296:=hs1;refine us (room_Busy_c s (by first|(exact Q64 _)|exact szA) _) ?_;intro nb3 hb3
 cases nb3
 ·refine ai (fun h=>nomatch h) (fun _=>?_);refine Q41 (fun (i:Nat) (c:Taken)=>QJ5 s except (QD2 (List.drop i s.books) i c)=R∧i<=s.books.length∧c.p.length<=4294967296) (fun i c=>s.books.length - i) (fun i c=>[(1,ints except),(2,AVal.ptr 0 0 8 0 0),(4,AVal.lit (.slice none 0 0)),(6,AVal.ptr 2 0 1 0 0),(7,AVal.fn (.func 135) [] [AVal.ptr 2 0 1 0 0]),(21,bookL s.books),(22,I (s.books.length:Int)),(23,I (i:Int))]) (fun i c=>[(0,AObj.row 28 8 [[I s.now,nodeL s.nodes,jobL s.jobs,Qt2 s.resizes,bookL s.books,Qo2 s.ledger,I s.nextJob,I s.nextBook]]),(0,AObj.row 185 1 [[stepL c.p]]),(0,AObj.row 183 1 [[AVal.ptr 1 0 1 0 0]])]) 0 (⟨(Qr3 s)⟩:Taken) (wk [0,1,2] (tO rfl (ts State.lo) (tO rfl (ts Taken.lo) (tO rfl (Qb0 (cv (Q10 1 rfl rfl) .nil)) .nil))) (sl lw (sv (Q10 0 rfl rfl) (s1 (sv (Q10 2 rfl rfl) (sv (QI0 .nil (cv (Q10 2 rfl rfl) .nil)) (sl lw (s1 (s1 .nil))))))))) ⟨foll hR rfl,by exact omA,b14a0⟩ ?_;clear hR;rintro i c ⟨hR,hj,hx⟩;(try dsimp only at hR hj hx);refine ai (fun h1=>?_) (fun h2=>?_)
  ·have hlt:=ltA h1;rw [Qg0 Book.zero hlt] at hR;refine ai gkA ?_;refine us (mv [1] (Qe6 c ((s.books.getD i Book.zero).from_) ((s.books.getD i Book.zero).to) ((s.books.getD i Book.zero).nodes) (by first|(exact Q64 _)|exact szA)) (dO (ds Taken.lo) .nil) (dp (d1 (d1 (d1 .nil)))) (rO (re Taken.lo) .nil) rx) ?_;exact Qz0 (i+1) (Qd1 c (s.books.getD i Book.zero).from_ (s.books.getD i Book.zero).to (s.books.getD i Book.zero).nodes) (wk [0,1,2] (tO rfl (ts State.lo) (tO rfl (ts Taken.lo) (tO rfl (Qb0 (cv (Q10 1 rfl rfl) .nil)) .nil))) (sl lw (sv (Q10 0 rfl rfl) (s1 (sv (Q10 2 rfl rfl) (sv (QI0 .nil (cv (Q10 2 rfl rfl) .nil)) (sl lw (s1 (sv (Qn0 (I_eq (wr omA)) lx) .nil))))))))) omA ⟨foll hR (congrArg (fun p:Taken=>QJ5 s except p) rfl),by exact omA,b14a0⟩
  ·rw [Qt0 (l:=s.books) (j:=i) (geA h2)] at hR;replace hR:QJ5 s except c=R:=fo2 (fun p:Taken=>QJ5 s except p) (c) hR rfl;refine Q41 (fun (i1:Nat) (c2:Taken)=>QZ3 (Qj2 except (List.drop i1 s.jobs) i1 c2)=R∧i1<=s.jobs.length∧c2.p.length<=4294967296) (fun i1 c2=>s.jobs.length - i1) (fun i1 c2=>[(1,ints except),(4,AVal.lit (.slice none 0 0)),(6,AVal.ptr 1 0 1 0 0),(7,AVal.fn (.func 135) [] [AVal.ptr 1 0 1 0 0]),(37,jobL s.jobs),(38,I (s.jobs.length:Int)),(39,I (i1:Int))]) (fun i1 c2=>[(0,AObj.row 185 1 [[stepL c2.p]]),(0,AObj.row 183 1 [[AVal.ptr 0 0 1 0 0]])]) 0 c (wk [1,2] (tO rfl (ts Taken.lo) (tO rfl (Qb0 (cv (Q10 0 rfl rfl) .nil)) .nil)) (sl lw (s1 (sv (Q10 1 rfl rfl) (sv (QI0 .nil (cv (Q10 1 rfl rfl) .nil)) (sl lw (s1 (s1 .nil)))))))) ⟨foll hR rfl,by exact omA,b14a0⟩ ?_;clear hR;rintro i1 c2 ⟨hR,hj,hx⟩;(try dsimp only at hR hj hx);refine ai (fun h3=>?_) (fun h4=>?_)
   ·have hlt:=ltA h3;rw [Qg0 Job.zero hlt] at hR;have hxz:(s.jobs.getD i1 Job.zero).sz:=Q70 (by first|assumption|grind) (Job.szz _);have hkz:=hxz;obtain ⟨z5,z6,z7,z8,z9⟩:=Job.zz hxz;refine ai gkA ?_;refine us (QD1 except ((s.jobs.getD i1 Job.zero).id) (by first|(exact Q64 _)|exact szA) _) ?_;refine ai (fun h10=>?_) (fun h11=>?_)
    ·refine ACalls.of_cwp (fun _=>true) Tryz.func135 rfl rfl ?_;refine us (Qr9 (s.jobs.getD i1 Job.zero) (by first|(exact Q64 _)|exact szA) _) ?_;refine ai (fun h12=>?_) (fun h13=>?_)
     ·refine us (mv [0] (Qe6 c2 ((Q20 (s.jobs.getD i1 Job.zero)).1) (w64 ((Q20 (s.jobs.getD i1 Job.zero)).1+(Q20 (s.jobs.getD i1 Job.zero)).2.1)) ((Q20 (s.jobs.getD i1 Job.zero)).2.2.1) (by first|(exact Q64 _)|exact szA)) (dO (ds Taken.lo) .nil) (dp (d1 (d1 (d1 .nil)))) (rO (re Taken.lo) .nil) rx) ?_;refine ⟨_,_,Told.refl,?_⟩;exact Qz0 (i1+1) (Qd1 c2 ((Q20 (s.jobs.getD i1 Job.zero)).1) (w64 ((Q20 (s.jobs.getD i1 Job.zero)).1+(Q20 (s.jobs.getD i1 Job.zero)).2.1)) ((Q20 (s.jobs.getD i1 Job.zero)).2.2.1)) (wk [0,1] (tO rfl (ts Taken.lo) (tO rfl (Qb0 (cv (Q10 0 rfl rfl) .nil)) .nil)) (sl lw (s1 (sv (Q10 1 rfl rfl) (sv (QI0 .nil (cv (Q10 1 rfl rfl) .nil)) (sl lw (s1 (sv (Qn0 (I_eq (wr omA)) lx) .nil)))))))) omA ⟨foll hR (congrArg (fun p:Taken=>QZ3 p) (ct h10 (ct h12 rfl))),by exact omA,b14a0⟩
     ·refine ⟨_,_,Told.refl,?_⟩;exact Qz0 (i1+1) c2 (wk [0,1] (tO rfl (ts Taken.lo) (tO rfl (Qb0 (cv (Q10 0 rfl rfl) .nil)) .nil)) (sl lw (s1 (sv (Q10 1 rfl rfl) (sv (QI0 .nil (cv (Q10 1 rfl rfl) .nil)) (sl lw (s1 (sv (Qn0 (I_eq (wr omA)) lx) .nil)))))))) omA ⟨foll hR (congrArg (fun p:Taken=>QZ3 p) (ct h10 (cf h13 rfl))),by exact omA,b14a0⟩
    ·exact Qz0 (i1+1) c2 (wk [0,1] (tO rfl (ts Taken.lo) (tO rfl (Qb0 (cv (Q10 0 rfl rfl) .nil)) .nil)) (sl lw (s1 (sv (Q10 1 rfl rfl) (sv (QI0 .nil (cv (Q10 1 rfl rfl) .nil)) (sl lw (s1 (sv (Qn0 (I_eq (wr omA)) lx) .nil)))))))) omA ⟨foll hR (congrArg (fun p:Taken=>QZ3 p) (cf h11 rfl)),by exact omA,b14a0⟩
   ·rw [Qt0 (l:=s.jobs) (j:=i1) (geA h4)] at hR;replace hR:QZ3 c2=R:=fo2 (fun p:Taken=>QZ3 p) (c2) hR rfl;obtain rfl:=foll hR rfl;exact Q00 lw sr
 ·have hl3:(Qr3 s).length=0:=Decidable.byContradiction fun hn=>absurd (hb3 hn) (by decide);refine ai (fun _=>?_) (fun h=>nomatch h);obtain rfl:=foll hR (room_Room_nil hl3);exact Q00 lw (QJ0)
theorem QJ8 (s:State) (ex:List Int):(Qh0 s ex).length<=4294967296:=by
 have g1:∀ (l:List Book) (i:Nat) (t:Taken),t.p.length<=4294967296->(QD2 l i t).p.length<=4294967296:=by
  intro l
  induction l with
  | nil=>intro i t h;exact h
  | cons x r ih=>intro i t h;rw [QD2];exact ih _ _ (QQ8 h)
 have g2:∀ (l:List Job) (i:Nat) (t:Taken),t.p.length<=4294967296->(Qj2 ex l i t).p.length<=4294967296:=by
  intro l
  induction l with
  | nil=>intro i t h;exact h
  | cons x r ih =>
   intro i t h
   rw [Qj2]
   repeat' first|exact ih _ _ h|exact ih _ _ (QQ8 h)|(rw [Bool.cond_eq_ite];split)
 exact g2 _ _ _ (g1 _ _ _ (Q64 s))
end Go.Proofs.YtcbolcknapeneaaGreatDoor
namespace Go.Proofs.YtcbolcknapeneaaGreatDoor
set_option linter.unusedSimpArgs false
set_option linter.unusedVariables false
open Go.Fw
set_option maxRecDepth 20000
set_option maxHeartbeats 4000000
attribute [local irreducible] ACalls AMoves
def QT5 (s:State) (j:Job) (latest:Int):Int × Int × Bool:=bif (((Q81 s)!=0)||((Qv1 j)!=0)) then (0,0,false) else ((Qk2 (Qh0 s ([j.id]:List Int)) (Qf0 j.shape) s.now latest 12).1,(Qk2 (Qh0 s ([j.id]:List Int)) (Qf0 j.shape) s.now latest 12).2.1,(Qk2 (Qh0 s ([j.id]:List Int)) (Qf0 j.shape) s.now latest 12).2.2)
theorem b15a0 {P:Prop} (h:P:=by first|((with_reducible exact QJ8 _ _))|first|(((with_reducible refine Qf8 _ ?_);exact hs1.2.2.2.1))|exact szA):P:=h
theorem plan_One_c (s:State) (j:Job) (latest:Int) (hs0:s.sz) (hs1:j.sz):GV 14 [State.a s,Job.a j,I latest] (AVal.tup [I ((QT5 s j latest).1),I ((QT5 s j latest).2.1),Bo ((QT5 s j latest).2.2)]):=by
 generalize hR:QT5 s j latest=R;refine ga (.cons (State.low _ _) (.cons (Job.low _ _) (l1 .nil))) (Low.tup' (l1 (l1 (l1 .nil)))) (kp 9 [16]) Tryz.func14 ?_;have hk0:=hs0;obtain ⟨z3,z4,z5,z6,z7,z8,z9⟩:=hs0;obtain ⟨z10,z11,z12,z13,z14⟩:=Job.zz hs1;refine us (QV3 s b15a0 _) ?_;(first|apply u2|apply u3|apply u4|apply us);exact QH4 j b15a0 _;refine ai (fun h1=>?_) (fun h2=>?_)
 ·obtain rfl:=foll hR (ct h1 rfl);exact Q00 (Low.tup' (l1 (l1 (l1 .nil)))) (Seen.tup (e1 (e1 (e1 .nil))))
 ·refine dchk (by kernel_rfl) ?_;(first|apply u2|apply u3|apply u4|apply us);exact AGives.as2 (QI8 s ([j.id]:List Int) b15a0 b15a0 _) (a1 (av (Qp5 (c:=(fun q_=>[I q_])) (d:=0) ([j.id]:List Int) rfl) .nil));(first|apply u2|apply u3|apply u4|apply us);exact QE2 j.shape b15a0 _;(first|apply u2|apply u3|apply u4|apply us);exact QE9 (Qh0 s ([j.id]:List Int)) (Qf0 j.shape) s.now latest 12 b15a0 b15a0 _;(repeat ((first|refine ai rfl ?_|refine ai (fun _=>rfl) ?_|refine ai (fun _=>AGives.as2 (QI8 s ([j.id]:List Int) b15a0 b15a0 _) (a1 (av (Qp5 (c:=(fun q_=>[I q_])) (d:=0) ([j.id]:List Int) rfl) .nil))) ?_|refine ai (fun _=>QE2 j.shape b15a0 _) ?_|refine ai (fun _=>QE9 (Qh0 s ([j.id]:List Int)) (Qf0 j.shape) s.now latest 12 b15a0 b15a0 _) ?_)));obtain rfl:=foll hR (cf h2 rfl);exact Q00 (Low.tup' (l1 (l1 (l1 .nil)))) (Seen.tup (e1 (e1 (e1 .nil))))
def QP3 (s:State):Bool:=bif ((Q81 s)!=0) then false else (!(Q92 s.jobs (fun (y:Job)=>((Q20 y).2.2.2&&((decide ((w64 ((Q20 y).1+(Q20 y).2.1)) > 1000000))||(decide ((QA0 (Qh0 s []) (max (Q20 y).1 s.now) (w64 ((Q20 y).1+(Q20 y).2.1)))<0)))))))
theorem b15a1 {P:Prop} (h:P:=by first|((with_reducible exact QJ8 _ _))|exact szA):P:=h
theorem QL4 (s:State) (hs0:s.sz):GV 16 [State.a s] (Bo (QP3 s)):=by
 generalize hR:QP3 s=R;refine ga (.cons (State.low _ _) .nil) lx (kp 4 [6]) Tryz.func16 ?_;have hk0:=hs0;obtain ⟨z17,z18,z19,z20,z21,z22,z23⟩:=hs0;refine us (QV3 s b15a1 _) ?_;refine ai (fun h1=>?_) (fun h2=>?_)
 ·obtain rfl:=foll hR (ct h1 rfl);exact Q00 lx sr
 ·refine us (AGives.as2 (QI8 s [] b15a1 b15a1 _) (a1 (av (QKa) .nil))) ?_;have cl1:∀ (y1:Job) (hzy1:y1.sz),AMoves Tryz.prog 53 [Job.a y1,AVal.ptr 1 0 1 0 0,AVal.ptr 0 0 8 0 0] [(0,AObj.row 28 8 [[I s.now,nodeL s.nodes,jobL s.jobs,Qt2 s.resizes,bookL s.books,Qo2 s.ledger,I s.nextJob,I s.nextBook]]),(0,AObj.row 85 1 [[stepL (Qh0 s [])]])] 2 (Bo ((fun (y:Job)=>((Q20 y).2.2.2&&((decide ((w64 ((Q20 y).1+(Q20 y).2.1)) > 1000000))||(decide ((QA0 (Qh0 s []) (max (Q20 y).1 s.now) (w64 ((Q20 y).1+(Q20 y).2.1)))<0))))) y1)) [(0,AObj.row 28 8 [[I s.now,nodeL s.nodes,jobL s.jobs,Qt2 s.resizes,bookL s.books,Qo2 s.ledger,I s.nextJob,I s.nextBook]]),(0,AObj.row 85 1 [[stepL (Qh0 s [])]])]:=by
   intro y1 hzy1;have hky1:=hzy1;obtain ⟨z3,z4,z5,z6,z7⟩:=Job.zz hzy1;have hR:(fun (y:Job)=>((Q20 y).2.2.2&&((decide ((w64 ((Q20 y).1+(Q20 y).2.1)) > 1000000))||(decide ((QA0 (Qh0 s []) (max (Q20 y).1 s.now) (w64 ((Q20 y).1+(Q20 y).2.1)))<0))))) y1=(fun (y:Job)=>((Q20 y).2.2.2&&((decide ((w64 ((Q20 y).1+(Q20 y).2.1)) > 1000000))||(decide ((QA0 (Qh0 s []) (max (Q20 y).1 s.now) (w64 ((Q20 y).1+(Q20 y).2.1)))<0))))) y1:=rfl;refine mo (kp 9 []) Tryz.func53 ?_;refine us (Qr9 y1 b15a1 _) ?_;(first|apply u2|apply u3|apply u4|apply us);exact Qj9 (Qh0 s []) (max (Q20 y1).1 s.now) (w64 ((Q20 y1).1+(Q20 y1).2.1)) b15a1 _;refine Ql0 (fun r:Bool=>Bo r) (fun _=>[(0,AObj.row 28 8 [[I s.now,nodeL s.nodes,jobL s.jobs,Qt2 s.resizes,bookL s.books,Qo2 s.ledger,I s.nextJob,I s.nextBook]]),(0,AObj.row 85 1 [[stepL (Qh0 s [])]])]) (leaf:=((Q20 y1).2.2.2&&((decide ((w64 ((Q20 y1).1+(Q20 y1).2.1)) > 1000000))||(decide ((QA0 (Qh0 s []) (max (Q20 y1).1 s.now) (w64 ((Q20 y1).1+(Q20 y1).2.1)))<0))))) (foll hR rfl) ?_;exact tt [0,1] (tO rfl (ts State.lo) (tO rfl (ts (lv lw LowL.nil)) .nil)) t1
  have hof1:AMoves Tryz.prog 52 [jobL s.jobs,AVal.fn (.func 53) [] [AVal.ptr 1 0 1 0 0,AVal.ptr 0 0 8 0 0]] [(0,AObj.row 28 8 [[I s.now,nodeL s.nodes,jobL s.jobs,Qt2 s.resizes,bookL s.books,Qo2 s.ledger,I s.nextJob,I s.nextBook]]),(0,AObj.row 85 1 [[stepL (Qh0 s [])]])] 2 (Bo (Q92 s.jobs (fun (y:Job)=>((Q20 y).2.2.2&&((decide ((w64 ((Q20 y).1+(Q20 y).2.1)) > 1000000))||(decide ((QA0 (Qh0 s []) (max (Q20 y).1 s.now) (w64 ((Q20 y).1+(Q20 y).2.1)))<0))))))) [(0,AObj.row 28 8 [[I s.now,nodeL s.nodes,jobL s.jobs,Qt2 s.resizes,bookL s.books,Qo2 s.ledger,I s.nextJob,I s.nextBook]]),(0,AObj.row 85 1 [[stepL (Qh0 s [])]])]:=by
   have hR:Q92 s.jobs (fun (y:Job)=>((Q20 y).2.2.2&&((decide ((w64 ((Q20 y).1+(Q20 y).2.1)) > 1000000))||(decide ((QA0 (Qh0 s []) (max (Q20 y).1 s.now) (w64 ((Q20 y).1+(Q20 y).2.1)))<0)))))=Q92 s.jobs (fun (y:Job)=>((Q20 y).2.2.2&&((decide ((w64 ((Q20 y).1+(Q20 y).2.1)) > 1000000))||(decide ((QA0 (Qh0 s []) (max (Q20 y).1 s.now) (w64 ((Q20 y).1+(Q20 y).2.1)))<0))))):=rfl;refine mo (kp 5 []) Tryz.func52 ?_;have hof2:AMoves Tryz.prog 65 [jobL s.jobs,AVal.fn (.func 53) [] [AVal.ptr 1 0 1 0 0,AVal.ptr 0 0 8 0 0]] [(0,AObj.row 28 8 [[I s.now,nodeL s.nodes,jobL s.jobs,Qt2 s.resizes,bookL s.books,Qo2 s.ledger,I s.nextJob,I s.nextBook]]),(0,AObj.row 85 1 [[stepL (Qh0 s [])]])] 2 (I (Qd2 s.jobs (fun (y:Job)=>((Q20 y).2.2.2&&((decide ((w64 ((Q20 y).1+(Q20 y).2.1)) > 1000000))||(decide ((QA0 (Qh0 s []) (max (Q20 y).1 s.now) (w64 ((Q20 y).1+(Q20 y).2.1)))<0))))))) [(0,AObj.row 28 8 [[I s.now,nodeL s.nodes,jobL s.jobs,Qt2 s.resizes,bookL s.books,Qo2 s.ledger,I s.nextJob,I s.nextBook]]),(0,AObj.row 85 1 [[stepL (Qh0 s [])]])]:=by
    have hR:Qd2 s.jobs (fun (y:Job)=>((Q20 y).2.2.2&&((decide ((w64 ((Q20 y).1+(Q20 y).2.1)) > 1000000))||(decide ((QA0 (Qh0 s []) (max (Q20 y).1 s.now) (w64 ((Q20 y).1+(Q20 y).2.1)))<0)))))=Qd2 s.jobs (fun (y:Job)=>((Q20 y).2.2.2&&((decide ((w64 ((Q20 y).1+(Q20 y).2.1)) > 1000000))||(decide ((QA0 (Qh0 s []) (max (Q20 y).1 s.now) (w64 ((Q20 y).1+(Q20 y).2.1)))<0))))):=rfl;refine mo (kp 6 [7,8,9,16]) Tryz.func65 ?_;refine Qm0 (fun (i:Nat)=>Qb4 (fun (y:Job)=>((Q20 y).2.2.2&&((decide ((w64 ((Q20 y).1+(Q20 y).2.1)) > 1000000))||(decide ((QA0 (Qh0 s []) (max (Q20 y).1 s.now) (w64 ((Q20 y).1+(Q20 y).2.1)))<0))))) (List.drop i s.jobs) i=Qd2 s.jobs (fun (y:Job)=>((Q20 y).2.2.2&&((decide ((w64 ((Q20 y).1+(Q20 y).2.1)) > 1000000))||(decide ((QA0 (Qh0 s []) (max (Q20 y).1 s.now) (w64 ((Q20 y).1+(Q20 y).2.1)))<0)))))∧i<=s.jobs.length) (fun i=>s.jobs.length - i) (fun i=>[(0,jobL s.jobs),(1,AVal.fn (.func 53) [] [AVal.ptr 1 0 1 0 0,AVal.ptr 0 0 8 0 0]),(4,I 0),(7,I (s.jobs.length:Int)),(8,I (i:Int))]) (fun i=>[(0,AObj.row 28 8 [[I s.now,nodeL s.nodes,jobL s.jobs,Qt2 s.resizes,bookL s.books,Qo2 s.ledger,I s.nextJob,I s.nextBook]]),(0,AObj.row 85 1 [[stepL (Qh0 s [])]])]) 0 (wk [0,1] (tO rfl (ts State.lo) (tO rfl (ts (lv lw LowL.nil)) .nil)) (sl lw (sv (QI0 .nil (cv (Q10 1 rfl rfl) (cv (Q10 0 rfl rfl) .nil))) (s1 (s1 (s1 .nil)))))) ⟨foll hR rfl,by exact omA⟩ ?_;clear hR;rintro i ⟨hR,hj⟩;(try dsimp only at hR hj);refine ai (fun h8=>?_) (fun h9=>?_)
    ·have hlt:=ltA h8;rw [Qg0 Job.zero hlt] at hR;have hxz:(s.jobs.getD i Job.zero).sz:=Q70 (by first|assumption|grind) (Job.szz _);have hkz:=hxz;obtain ⟨z10,z11,z12,z13,z14⟩:=Job.zz hxz;refine ai gkA ?_;refine us (mv [0,1] (cl1 (s.jobs.getD i Job.zero) szA) (dO (ds State.lo) (dO (ds (lv lw LowL.nil)) .nil)) (dl (Job.low _ _) (dp (dp .nil))) (rO (re State.lo) (rO (re (lv lw LowL.nil)) .nil)) rx) ?_;refine ai (fun h15=>?_) (fun h16=>?_)
     ·refine Ql0 (fun r:Int=>I r) (fun r:Int=>[(0,AObj.row 28 8 [[I s.now,nodeL s.nodes,jobL s.jobs,Qt2 s.resizes,bookL s.books,Qo2 s.ledger,I s.nextJob,I s.nextBook]]),(0,AObj.row 85 1 [[stepL (Qh0 s [])]])]) (leaf:=(i:Int)) (foll hR (ct h15 rfl)) ?_;exact tt [0,1] (tO rfl (ts State.lo) (tO rfl (ts (lv lw LowL.nil)) .nil)) t1
     ·exact Qq0 (i+1) (wk [0,1] (tO rfl (ts State.lo) (tO rfl (ts (lv lw LowL.nil)) .nil)) (sl lw (sv (QI0 .nil (cv (Q10 1 rfl rfl) (cv (Q10 0 rfl rfl) .nil))) (s1 (s1 (sv (Qn0 (I_eq (wr omA)) lx) .nil)))))) omA ⟨foll hR (cf h16 rfl),by exact omA⟩
    ·rw [Qt0 (l:=s.jobs) (j:=i) (geA h9)] at hR;refine Ql0 (fun r:Int=>I r) (fun r:Int=>[(0,AObj.row 28 8 [[I s.now,nodeL s.nodes,jobL s.jobs,Qt2 s.resizes,bookL s.books,Qo2 s.ledger,I s.nextJob,I s.nextBook]]),(0,AObj.row 85 1 [[stepL (Qh0 s [])]])]) (leaf:=(-1)) (foll hR rfl) ?_;exact tt [0,1] (tO rfl (ts State.lo) (tO rfl (ts (lv lw LowL.nil)) .nil)) t1
   refine us (mv [0,1] (hof2) (dO (ds State.lo) (dO (ds (lv lw LowL.nil)) .nil)) (dl lw (dv (dn_fn .nil (dp (dp .nil))) .nil)) (rO (re State.lo) (rO (re (lv lw LowL.nil)) .nil)) rx) ?_;refine Ql0 (fun r:Bool=>Bo r) (fun r:Bool=>[(0,AObj.row 28 8 [[I s.now,nodeL s.nodes,jobL s.jobs,Qt2 s.resizes,bookL s.books,Qo2 s.ledger,I s.nextJob,I s.nextBook]]),(0,AObj.row 85 1 [[stepL (Qh0 s [])]])]) (leaf:=(decide ((Qd2 s.jobs (fun (y:Job)=>((Q20 y).2.2.2&&((decide ((w64 ((Q20 y).1+(Q20 y).2.1)) > 1000000))||(decide ((QA0 (Qh0 s []) (max (Q20 y).1 s.now) (w64 ((Q20 y).1+(Q20 y).2.1)))<0)))))) >= 0))) (foll hR rfl) ?_;exact tt [0,1] (tO rfl (ts State.lo) (tO rfl (ts (lv lw LowL.nil)) .nil)) t1
  refine us (mv [0,1] (hof1) (dO (ds State.lo) (dO (ds (lv lw LowL.nil)) .nil)) (dl lw (dv (dn_fn .nil (dp (dp .nil))) .nil)) (rO (re State.lo) (rO (re (lv lw LowL.nil)) .nil)) rx) ?_;obtain rfl:=foll hR (cf h2 rfl);exact Q00 lx sr
end Go.Proofs.YtcbolcknapeneaaGreatDoor
