/-
  Contracts of functions, printed by a program of this repo (wip/dec). No condition beyond those that stand in each.
-/
import Derived.Test.YtiiaifgeekdpaaaGreatDoorG11
import Derived.Test.YtiiaifgeekdpaaaGreatDoorProg
import Derived.Test.YtiiaifgeekdpaaaGreatDoorG7
namespace Go.Proofs.YtiiaifgeekdpaaaGreatDoor
set_option linter.unusedSimpArgs false
set_option linter.unusedVariables false
open Go.Fw
set_option maxRecDepth 20000
set_option maxHeartbeats 4000000
attribute [local irreducible] ACalls AMoves
def QQ2 (j:Job):Int:=bif ((((((decide (j.id<1))||(decide (j.id > 99999)))||(!(QB3 j.born)))||(j.used != (Qu6 j.used)))||((QM5 (Qm1 j))!=0))||(Qo0 j.after (fun (y:Dep)=>(decide (y.job >= j.id))))) then 140 else bif (j.state==1) then bif (!(QV1 j)) then 140 else 0 else bif (j.state==2) then bif (!(Q03 j)) then 140 else 0 else bif (!(Ql6 j.state)) then 140 else bif (!(QC3 j)) then 140 else 0
theorem QH8 (j:Job) (hs0:j.sz):∀ objs,AGives Tryz.prog 46 [Job.a j] objs (I (QQ2 j)):=by
 generalize hR:QQ2 j=R;refine ga (.cons (Job.low _ _) .nil) lx (kp 6 [42,45,51,57,64]) Tryz.func46 ?_;have hk0:=hs0;obtain ⟨z19,z20,z21,z22,z23⟩:j.name.size<=4294967296∧j.user.size<=4294967296∧j.account.size<=4294967296∧(j.shape.alts.length<=4294967296)∧j.after.length<=4294967296:=hs0;refine dchk (by kernel_rfl) ?_;(first|apply u2|apply u3|apply u4|apply us);exact Q05 j.born _;(first|apply u2|apply u3|apply u4|apply us);exact Qac j.used _;(first|apply u2|apply u3|apply u4|apply us);exact QO5 j _;(first|apply u2|apply u3|apply u4|apply us);exact Qob (Qm1 j) szA _;have cl1:∀ (y1:Dep),AMoves Tryz.prog 74 [Dep.a y1,AVal.ptr 0 0 20 0 0] [(0,AObj.row 46 20 [[I j.id,Sg j.name,Sg j.user,Sg j.account,I j.shape.kind,altL j.shape.alts,I j.shape.min,I j.shape.max,I j.shape.wall,I j.prio,depL j.after,I j.state,Bo j.held,I j.born,I j.promise,I j.choice,I j.start,I j.limit,U j.nodes,I j.used]])] 1 (Bo ((fun (y:Dep)=>(decide (y.job >= j.id))) y1)) [(0,AObj.row 46 20 [[I j.id,Sg j.name,Sg j.user,Sg j.account,I j.shape.kind,altL j.shape.alts,I j.shape.min,I j.shape.max,I j.shape.wall,I j.prio,depL j.after,I j.state,Bo j.held,I j.born,I j.promise,I j.choice,I j.start,I j.limit,U j.nodes,I j.used]])]:=by
  intro y1;have hR:(fun (y:Dep)=>(decide (y.job >= j.id))) y1=(fun (y:Dep)=>(decide (y.job >= j.id))) y1:=rfl;refine mo (kp 4 []) Tryz.func74 ?_;refine Qn0 (fun r:Bool=>Bo r) (fun _=>[(0,AObj.row 46 20 [[I j.id,Sg j.name,Sg j.user,Sg j.account,I j.shape.kind,altL j.shape.alts,I j.shape.min,I j.shape.max,I j.shape.wall,I j.prio,depL j.after,I j.state,Bo j.held,I j.born,I j.promise,I j.choice,I j.start,I j.limit,U j.nodes,I j.used]])]) (leaf:=(decide (y1.job >= j.id))) (foll hR rfl) ?_;exact tt [0] (tO rfl (ts Job.lo) .nil) t1
 have hof1:AMoves Tryz.prog 79 [depL j.after,AVal.fn (.func 74) [] [AVal.ptr 0 0 20 0 0]] [(0,AObj.row 46 20 [[I j.id,Sg j.name,Sg j.user,Sg j.account,I j.shape.kind,altL j.shape.alts,I j.shape.min,I j.shape.max,I j.shape.wall,I j.prio,depL j.after,I j.state,Bo j.held,I j.born,I j.promise,I j.choice,I j.start,I j.limit,U j.nodes,I j.used]])] 1 (Bo (Qo0 j.after (fun (y:Dep)=>(decide (y.job >= j.id))))) [(0,AObj.row 46 20 [[I j.id,Sg j.name,Sg j.user,Sg j.account,I j.shape.kind,altL j.shape.alts,I j.shape.min,I j.shape.max,I j.shape.wall,I j.prio,depL j.after,I j.state,Bo j.held,I j.born,I j.promise,I j.choice,I j.start,I j.limit,U j.nodes,I j.used]])]:=by
  have hR:Qo0 j.after (fun (y:Dep)=>(decide (y.job >= j.id)))=Qo0 j.after (fun (y:Dep)=>(decide (y.job >= j.id))):=rfl;refine mo (kp 5 []) Tryz.func79 ?_;have hof2:AMoves Tryz.prog 121 [depL j.after,AVal.fn (.func 74) [] [AVal.ptr 0 0 20 0 0]] [(0,AObj.row 46 20 [[I j.id,Sg j.name,Sg j.user,Sg j.account,I j.shape.kind,altL j.shape.alts,I j.shape.min,I j.shape.max,I j.shape.wall,I j.prio,depL j.after,I j.state,Bo j.held,I j.born,I j.promise,I j.choice,I j.start,I j.limit,U j.nodes,I j.used]])] 1 (I (QL0 j.after (fun (y:Dep)=>(decide (y.job >= j.id))))) [(0,AObj.row 46 20 [[I j.id,Sg j.name,Sg j.user,Sg j.account,I j.shape.kind,altL j.shape.alts,I j.shape.min,I j.shape.max,I j.shape.wall,I j.prio,depL j.after,I j.state,Bo j.held,I j.born,I j.promise,I j.choice,I j.start,I j.limit,U j.nodes,I j.used]])]:=by
   have hR:QL0 j.after (fun (y:Dep)=>(decide (y.job >= j.id)))=QL0 j.after (fun (y:Dep)=>(decide (y.job >= j.id))):=rfl;refine mo (kp 6 [7,8,9,16]) Tryz.func121 ?_;refine Qh0 (fun (i:Nat)=>Qz2 (fun (y:Dep)=>(decide (y.job >= j.id))) (List.drop i j.after) i=QL0 j.after (fun (y:Dep)=>(decide (y.job >= j.id)))∧i<=j.after.length) (fun i=>j.after.length - i) (fun i=>[(0,depL j.after),(1,AVal.fn (.func 74) [] [AVal.ptr 0 0 20 0 0]),(4,I 0),(7,I (j.after.length:Int)),(8,I (i:Int))]) (fun i=>[(0,AObj.row 46 20 [[I j.id,Sg j.name,Sg j.user,Sg j.account,I j.shape.kind,altL j.shape.alts,I j.shape.min,I j.shape.max,I j.shape.wall,I j.prio,depL j.after,I j.state,Bo j.held,I j.born,I j.promise,I j.choice,I j.start,I j.limit,U j.nodes,I j.used]])]) 0 (wk [0] (tO rfl (ts Job.lo) .nil) (sl lw (sv (Q51 .nil (cv (Q10 0 rfl rfl) .nil)) (s1 (s1 (s1 .nil)))))) ⟨foll hR rfl,by exact omA⟩ ?_;clear hR;rintro i ⟨hR,hj⟩;(try dsimp only at hR hj);refine ai (fun h1=>?_) (fun h2=>?_)
   ·have hlt:=ltA h1;rw [Qf0 Dep.zero hlt] at hR;refine ai gkA ?_;refine us (mv [0] (cl1 (j.after.getD i Dep.zero)) (dO (ds Job.lo) .nil) (dl (Dep.low _ _) (dp .nil)) (rO (re Job.lo) .nil) rx) ?_;refine ai (fun h3=>?_) (fun h4=>?_)
    ·refine Qn0 (fun r:Int=>I r) (fun r:Int=>[(0,AObj.row 46 20 [[I j.id,Sg j.name,Sg j.user,Sg j.account,I j.shape.kind,altL j.shape.alts,I j.shape.min,I j.shape.max,I j.shape.wall,I j.prio,depL j.after,I j.state,Bo j.held,I j.born,I j.promise,I j.choice,I j.start,I j.limit,U j.nodes,I j.used]])]) (leaf:=(i:Int)) (foll hR (ct h3 rfl)) ?_;exact tt [0] (tO rfl (ts Job.lo) .nil) t1
    ·exact Ql0 (i+1) (wk [0] (tO rfl (ts Job.lo) .nil) (sl lw (sv (Q51 .nil (cv (Q10 0 rfl rfl) .nil)) (s1 (s1 (sv (Qd0 (I_eq (wr omA)) lx) .nil)))))) omA ⟨foll hR (cf h4 rfl),by exact omA⟩
   ·rw [Qg0 (l:=j.after) (j:=i) (geA h2)] at hR;refine Qn0 (fun r:Int=>I r) (fun r:Int=>[(0,AObj.row 46 20 [[I j.id,Sg j.name,Sg j.user,Sg j.account,I j.shape.kind,altL j.shape.alts,I j.shape.min,I j.shape.max,I j.shape.wall,I j.prio,depL j.after,I j.state,Bo j.held,I j.born,I j.promise,I j.choice,I j.start,I j.limit,U j.nodes,I j.used]])]) (leaf:=(-1)) (foll hR rfl) ?_;exact tt [0] (tO rfl (ts Job.lo) .nil) t1
  refine us (mv [0] (hof2) (dO (ds Job.lo) .nil) (dl lw (dv (dn_fn .nil (dp .nil)) .nil)) (rO (re Job.lo) .nil) rx) ?_;refine Qn0 (fun r:Bool=>Bo r) (fun r:Bool=>[(0,AObj.row 46 20 [[I j.id,Sg j.name,Sg j.user,Sg j.account,I j.shape.kind,altL j.shape.alts,I j.shape.min,I j.shape.max,I j.shape.wall,I j.prio,depL j.after,I j.state,Bo j.held,I j.born,I j.promise,I j.choice,I j.start,I j.limit,U j.nodes,I j.used]])]) (leaf:=(decide ((QL0 j.after (fun (y:Dep)=>(decide (y.job >= j.id)))) >= 0))) (foll hR rfl) ?_;exact tt [0] (tO rfl (ts Job.lo) .nil) t1
 (first|apply u2|apply u3|apply u4|apply us);exact mv [0] (hof1) (dO (ds Job.lo) .nil) (dl lw (dv (dn_fn .nil (dp .nil)) .nil)) (rO (re Job.lo) .nil) rx;(repeat ((first|refine ai rfl ?_|refine ai (fun _=>rfl) ?_|refine ai (fun _=>Q05 j.born _) ?_|refine ai (fun _=>Qac j.used _) ?_|refine ai (fun _=>QO5 j _) ?_|refine ai (fun _=>Qob (Qm1 j) szA _) ?_)));refine ai (fun h5=>?_) (fun h6=>?_)
 ·obtain rfl:=foll hR (ct h5 rfl);exact Q00 lx sr
 ·refine ai (fun h7=>?_) (fun h8=>?_)
  ·refine us (Q1a j szA _) ?_;refine ai (fun h9=>?_) (fun h10=>?_)
   ·obtain rfl:=foll hR (cf h6 (ct h7 (ct h9 rfl)));exact Q00 lx sr
   ·obtain rfl:=foll hR (cf h6 (ct h7 (cf h10 rfl)));exact Q00 lx sr
  ·refine ai (fun h11=>?_) (fun h12=>?_)
   ·refine us (Qk9 j szA _) ?_;refine ai (fun h13=>?_) (fun h14=>?_)
    ·obtain rfl:=foll hR (cf h6 (cf h8 (ct h11 (ct h13 rfl))));exact Q00 lx sr
    ·obtain rfl:=foll hR (cf h6 (cf h8 (ct h11 (cf h14 rfl))));exact Q00 lx sr
   ·refine us (job_ended_c j.state _) ?_;refine ai (fun h15=>?_) (fun h16=>?_)
    ·obtain rfl:=foll hR (cf h6 (cf h8 (cf h12 (ct h15 rfl))));exact Q00 lx sr
    ·refine us (QDb j _) ?_;refine ai (fun h17=>?_) (fun h18=>?_)
     ·obtain rfl:=foll hR (cf h6 (cf h8 (cf h12 (cf h16 (ct h17 rfl)))));exact Q00 lx sr
     ·obtain rfl:=foll hR (cf h6 (cf h8 (cf h12 (cf h16 (cf h18 rfl)))));exact Q00 lx sr
theorem QRa {j:Job} (h:((((QQ2 j)!=0)||(j.state != 1))||(decide (j.promise<0)))=false):0<=j.choice∧j.choice<((Q01 j.shape).length:Int):=by
 simp only [Bool.or_eq_false_iff,bne_eq_false_iff_eq,decide_eq_false_iff_not] at h
 obtain ⟨⟨h1,h2⟩,h3⟩:=h
 have hq:QV1 j=true:=by
  unfold QQ2 at h1
  revert h1
  rw [show (j.state==1)=true by simpa using h2]
  cases ((((((decide (j.id<1))||(decide (j.id > 99999)))||(!(QB3 j.born)))||(j.used != (Qu6 j.used)))||((QM5 (Qm1 j))!=0))||(Qo0 j.after (fun (y:Dep)=>(decide (y.job >= j.id))))) with
  | true=>simp
  | false =>
   cases QV1 j with
   | true=>simp
   | false=>simp
 unfold QV1 at hq
 simp only [Bool.and_eq_true,Bool.or_eq_true] at hq
 rcases hq.2 with hp|hp
 ·have:=hp.1
  simp at this
  omega
 ·have ho:=hp.1.2
  unfold Q41 at ho
  cases hc:((decide (j.choice<0))||(decide (j.choice >= ((Q01 j.shape).length:Int)))) with
  | true=>rw [hc] at ho;cases ho
  | false=>simp at hc;omega
def Qm3 :List Job->Int->Nat->Int
 | [],_,_=>0
 | x_ :: r,last,i=>bif ((((i:Int)==40)||((Qg1 x_)!=0))||(decide (x_.id<=last))) then 140 else Qm3 r x_.id (i+1)
def QJ3 (l:List Job):Int:=Qm3 l 0 0
theorem ref15_Check_c (l:List Job) (hs0:l.length<=4294967296∧(∀ y ∈ l,y.sz)):∀ objs,AGives Tryz.prog 35 [jobL l] objs (I (QJ3 l)):=by
 generalize hR:QJ3 l=R;refine ga (.cons lw .nil) lx (kp 5 [8,29]) Tryz.func35 ?_;have hk0:=hs0;obtain ⟨z10,z11⟩:l.length<=4294967296∧(∀ y ∈ l,y.sz):=hs0;refine Qj0 (fun (last:Int) (i:Nat)=>Qm3 (List.drop i l) last i=R∧i<=l.length) (fun last i=>l.length - i) (fun last i=>[(0,jobL l),(2,I 0),(3,I last),(4,I (i:Int))]) (fun last i=>[]) 0 0 (wk [] .nil (sl lw (s1 (s1 (s1 .nil))))) ⟨foll hR rfl,by exact omA⟩ ?_;clear hR;rintro last i ⟨hR,hj⟩;(try dsimp only at hR hj);refine ai (fun h1=>?_) (fun h2=>?_)
 ·have hlt:=ltA h1;rw [Qf0 Job.zero hlt] at hR;have hxz:(l.getD i Job.zero).sz:=Qk6 (by first|assumption|grind) (Job.szz _);have hkz:=hxz;obtain ⟨z3,z4,z5,z6,z7⟩:((l.getD i Job.zero).name).size<=4294967296∧((l.getD i Job.zero).user).size<=4294967296∧((l.getD i Job.zero).account).size<=4294967296∧((((l.getD i Job.zero).shape).alts).length<=4294967296)∧((l.getD i Job.zero).after).length<=4294967296:=hxz;refine ai gkA ?_;(first|apply u2|apply u3|apply u4|apply us);exact Qz9 (l.getD i Job.zero) szA _;refine ai gkA ?_;refine ai (fun h8=>?_) (fun h9=>?_)
  ·obtain rfl:=foll hR (ct h8 rfl);exact Q00 lx sr
  ·refine ai gkA ?_;exact Qa0 ((l.getD i Job.zero).id) (i+1) (wk [] .nil (sl lw (s1 (s1 (sv (Qd0 (I_eq (wr omA)) lx) .nil))))) omA ⟨foll hR (cf h9 rfl),by exact omA⟩
 ·rw [Qg0 (l:=l) (j:=i) (geA h2)] at hR;obtain rfl:=foll hR rfl;exact Q00 lx sr
theorem ref15_each:∀ (l:List Job) (last:Int) (i:Nat),Qm3 l last i=0 -> ∀ x ∈ l,((Qg1 x)!=0)=false
 | [],_,_,_,x,hx=>absurd hx List.not_mem_nil
 | y :: r,last,i,h,x,hx=>by
  rw [Qm3] at h
  cases hc:((((i:Int)==40)||((Qg1 y)!=0))||(decide (y.id<=last))) with
  | true=>rw [hc] at h;cases h
  | false =>
   rw [hc] at h
   simp only [Bool.or_eq_false_iff] at hc
   rcases List.mem_cons.1 hx with rfl|hx
   ·exact hc.1.2
   ·exact ref15_each r y.id (i+1) h x hx
theorem ref15_choices {l:List Job} (h:((QJ3 l)!=0)=false):∀ y ∈ l,((y.state != 1)||(y.promise==(-1)))=false->0<=y.choice∧y.choice<((Q60 y.shape).length:Int) :=
 fun y hy=>Q18 (Qq4 (ref15_each l 0 0 (show QJ3 l=0 by simpa using h) y hy))
def Qe2 (j:Job):Int × Int × Int × Bool:=bif ((Qg1 j)!=0) then (0,0,0,false) else ((Q40 j).1,(Q40 j).2.1,(Q40 j).2.2.1,(Q40 j).2.2.2)
theorem ref20_Claim_c (j:Job) (hs0:j.sz):∀ objs,AGives Tryz.prog 18 [Job.a j] objs (AVal.tup [I ((Qe2 j).1),I ((Qe2 j).2.1),I ((Qe2 j).2.2.1),Bo ((Qe2 j).2.2.2)]):=by
 generalize hR:Qe2 j=R;refine ga (.cons (Job.low _ _) .nil) (Low.tup' (l1 (l1 (l1 (l1 .nil))))) (kp 6 [8]) Tryz.func18 ?_;have hk0:=hs0;obtain ⟨z3,z4,z5,z6,z7⟩:j.name.size<=4294967296∧j.user.size<=4294967296∧j.account.size<=4294967296∧(j.shape.alts.length<=4294967296)∧j.after.length<=4294967296:=hs0;refine us (Qz9 j szA _) ?_;refine ai (fun h1=>?_) (fun h2=>?_)
 ·obtain rfl:=foll hR (ct h1 rfl);exact Q00 (Low.tup' (l1 (l1 (l1 (l1 .nil))))) (Seen.tup (e1 (e1 (e1 (e1 .nil)))))
 ·refine us (Q28 j szA (by exact Q18 (Qq4 (by assumption))) _) ?_;obtain rfl:=foll hR (cf h2 rfl);exact Q00 (Low.tup' (l1 (l1 (l1 (l1 .nil))))) (Seen.tup (e1 (e1 (e1 (e1 .nil)))))
end Go.Proofs.YtiiaifgeekdpaaaGreatDoor
namespace Go.Proofs.YtiiaifgeekdpaaaGreatDoor
set_option linter.unusedSimpArgs false
set_option linter.unusedVariables false
open Go.Fw
set_option maxRecDepth 20000
set_option maxHeartbeats 4000000
attribute [local irreducible] ACalls AMoves
def Q64 (l:List Job):List Job->Nat->Int
 | [],_=>0
 | x_ :: r,i=>bif (((QQ2 x_)!=0)||((decide ((i:Int) > 0))&&(decide ((l.getD (Int.toNat (w64 ((i:Int) - 1))) Job.zero).id >= x_.id)))) then 140 else Q64 l r (i+1)
def Qt2 (l:List Job):Int:=bif (decide ((l.length:Int) > 40)) then 140 else Q64 l l 0
theorem QM9 (l:List Job) (hs0:l.length<=4294967296∧(∀ y ∈ l,y.sz)):∀ objs,AGives Tryz.prog 31 [jobL l] objs (I (Qt2 l)):=by
 generalize hR:Qt2 l=R;refine ga (.cons lw .nil) lx (kp 5 [7,8,9,10,11,32]) Tryz.func31 ?_;have hk0:=hs0;obtain ⟨z12,z13⟩:l.length<=4294967296∧(∀ y ∈ l,y.sz):=hs0;refine ai (fun h1=>?_) (fun h2=>?_)
 ·have qh1:=of_decide_eq_true h1;obtain rfl:=foll hR (ct h1 rfl);exact Q00 lx sr
 ·have qh2:=of_decide_eq_false h2;refine Qh0 (fun (i:Nat)=>Q64 l (List.drop i l) i=R∧i<=l.length) (fun i=>l.length - i) (fun i=>[(0,jobL l),(2,I 0),(8,jobL l),(9,I (l.length:Int)),(10,I (i:Int))]) (fun i=>[]) 0 (wk [] .nil (sl lw (s1 (sl lw (s1 (s1 .nil)))))) ⟨foll hR (cf h2 rfl),by exact omA⟩ ?_;clear hR;rintro i ⟨hR,hj⟩;(try dsimp only at hR hj);refine ai (fun h3=>?_) (fun h4=>?_)
  ·have hlt:=ltA h3;rw [Qf0 Job.zero hlt] at hR;have hxz:(l.getD i Job.zero).sz:=Qk6 (by first|assumption|grind) (Job.szz _);have hkz:=hxz;obtain ⟨z5,z6,z7,z8,z9⟩:((l.getD i Job.zero).name).size<=4294967296∧((l.getD i Job.zero).user).size<=4294967296∧((l.getD i Job.zero).account).size<=4294967296∧((((l.getD i Job.zero).shape).alts).length<=4294967296)∧((l.getD i Job.zero).after).length<=4294967296:=hxz;refine ai gkA ?_;refine dchk (by kernel_rfl) ?_;(first|apply u2|apply u3|apply u4|apply us);exact QH8 (l.getD i Job.zero) szA _;refine ai gkA ?_;(repeat ((first|refine ai rfl ?_|refine ai (fun _=>rfl) ?_|refine ai (fun _=>QH8 (l.getD i Job.zero) szA _) ?_)));refine ai (fun h10=>?_) (fun h11=>?_)
   ·obtain rfl:=foll hR (ct h10 rfl);exact Q00 lx sr
   ·exact Ql0 (i+1) (wk [] .nil (sl lw (s1 (sl lw (s1 (sv (Qd0 (I_eq (wr omA)) lx) .nil)))))) omA ⟨foll hR (cf h11 rfl),by exact omA⟩
  ·rw [Qg0 (l:=l) (j:=i) (geA h4)] at hR;obtain rfl:=foll hR rfl;exact Q00 lx sr
def QB0 (j:Job):Int × Int × Int × Bool:=bif ((((QQ2 j)!=0)||(j.state != 1))||(decide (j.promise<0))) then (0,0,0,false) else (j.promise,(w64 (((Q01 j.shape).getD (Int.toNat j.choice) Alt.zero).wall+12)),((Q01 j.shape).getD (Int.toNat j.choice) Alt.zero).nodes,true)
theorem Q48 (j:Job) (hs0:j.sz):∀ objs,AGives Tryz.prog 17 [Job.a j] objs (AVal.tup [I ((QB0 j).1),I ((QB0 j).2.1),I ((QB0 j).2.2.1),Bo ((QB0 j).2.2.2)]):=by
 generalize hR:QB0 j=R;refine ga (.cons (Job.low _ _) .nil) (Low.tup' (l1 (l1 (l1 (l1 .nil))))) (kp 7 [19]) Tryz.func17 ?_;have hk0:=hs0;obtain ⟨z3,z4,z5,z6,z7⟩:j.name.size<=4294967296∧j.user.size<=4294967296∧j.account.size<=4294967296∧(j.shape.alts.length<=4294967296)∧j.after.length<=4294967296:=hs0;refine us (QH8 j szA _) ?_;refine ai (fun h1=>?_) (fun h2=>?_)
 ·obtain rfl:=foll hR (ct h1 rfl);exact Q00 (Low.tup' (l1 (l1 (l1 (l1 .nil))))) (Seen.tup (e1 (e1 (e1 (e1 .nil)))))
 ·refine dchk (by kernel_rfl) ?_;(first|apply u2|apply u3|apply u4|apply us);exact Ql5 j.shape szA _;refine And.intro (by first|exact fun hg=>decide_eq_true (by first|((have q:=QRa (by assumption);omega))|exact ckA)|exact gkA) ?_;(repeat ((first|refine ai rfl ?_|refine ai (fun _=>rfl) ?_|refine ai (fun _=>Ql5 j.shape szA _) ?_)));(try (refine dchk (by kernel_rfl) ?_));(repeat ((first|refine ai rfl ?_|refine ai (fun _=>rfl) ?_)));obtain rfl:=foll hR (cf h2 rfl);exact Q00 (Low.tup' (l1 (l1 (l1 (l1 .nil))))) (Seen.tup (e1 (e1 (e1 (e1 .nil)))))
def Qu1 (s:State):Int:=bif ((((!(Q31 s.now))||((Qr6 s.nodes)!=0))||((QJ3 s.jobs)!=0))||((QN4 s.books)!=0)) then 141 else 0
theorem Qh5 (s:State) (hs0:s.sz):∀ objs,AGives Tryz.prog 10 [State.a s] objs (I (Qu1 s)):=by
 generalize hR:Qu1 s=R;refine ga (.cons (State.low _ _) .nil) lx (kp 3 [24]) Tryz.func10 ?_;have hk0:=hs0;obtain ⟨z3,z4,z5,z6,z7,z8,z9⟩:=hs0;refine us (Qw3 s.now _) ?_;(first|apply u2|apply u3|apply u4|apply us);exact ref12_Check_c s.nodes szA _;(first|apply u2|apply u3|apply u4|apply us);exact ref15_Check_c s.jobs szA _;(first|apply u2|apply u3|apply u4|apply us);exact ref19_Check_c s.books szA _;refine ai (fun h1=>?_) (fun h2=>?_)
 ·obtain rfl:=foll hR (ct h1 rfl);exact Q00 lx sr
 ·obtain rfl:=foll hR (cf h2 rfl);exact Q00 lx sr
theorem QYa {s:State} (h:((Qu1 s)!=0)=false):((QJ3 s.jobs)!=0)=false:=by
 simp only [Qu1] at h
 revert h
 cases ((QJ3 s.jobs)!=0) with
 | true=>simp
 | false=>intro _;rfl
end Go.Proofs.YtiiaifgeekdpaaaGreatDoor
namespace Go.Proofs.YtiiaifgeekdpaaaGreatDoor
set_option linter.unusedSimpArgs false
set_option linter.unusedVariables false
open Go.Fw
set_option maxRecDepth 20000
set_option maxHeartbeats 4000000
attribute [local irreducible] ACalls AMoves
def Qt0 (s:State):Int:=bif (((((decide (s.now<0))||(decide (s.now > 1000000)))||((Qb2 s.nodes)!=0))||((Qt2 s.jobs)!=0))||((Qn5 s.books)!=0)) then 141 else 0
theorem Qc3 (s:State) (hs0:s.sz):∀ objs,AGives Tryz.prog 9 [State.a s] objs (I (Qt0 s)):=by
 generalize hR:Qt0 s=R;refine ga (.cons (State.low _ _) .nil) lx (kp 3 [28]) Tryz.func9 ?_;have hk0:=hs0;obtain ⟨z3,z4,z5,z6,z7,z8,z9⟩:=hs0;(first|apply u2|apply u3|apply u4|apply us);exact Qj7 s.nodes szA _;(first|apply u2|apply u3|apply u4|apply us);exact QM9 s.jobs szA _;(first|apply u2|apply u3|apply u4|apply us);exact book_Check_c s.books szA _;refine ai (fun h1=>?_) (fun h2=>?_)
 ·obtain rfl:=foll hR (ct h1 rfl);exact Q00 lx sr
 ·obtain rfl:=foll hR (cf h2 rfl);exact Q00 lx sr
theorem Qs2 {s:State} (h:((Qt0 s)!=0)=false):1<=s.nodes.length∧s.nodes.length<=48:=by
 have hf:Qb2 s.nodes=0:=by
  simp only [Qt0] at h
  revert h
  cases h2:(Qb2 s.nodes != 0) with
  | true=>simp
  | false=>intro _;simpa using h2
 simp only [Qb2] at hf
 revert hf
 cases h2:((decide ((s.nodes.length:Int)<1))||(decide ((s.nodes.length:Int) > 48))) with
 | true=>simp
 | false=>intro _;simp at h2;omega
theorem Qib {order:List Int} {i:Nat} {c:List (Int × Int)} {k:Int} (h:order ≠ []∨(i=0∧c=[])) (hg:(((getM k c).getD 0)==0)=false):order ≠ []:=by
 rcases h with h|⟨_,rfl⟩
 ·exact h
 ·simp [getM] at hg
theorem busy_order {s:State} {order:List Int} {i:Nat} {c:List (Int × Int)} (h:((Qt0 s)!=0)=false) (ho:order ≠ []∨(i=0∧c=[])) (hi:decide ((i:Int)<(s.nodes.length:Int))=false):order ≠ []:=by
 rcases ho with ho|⟨rfl,_⟩
 ·exact ho
 ·have:=(Qs2 h).1
  have:=of_decide_eq_false hi
  omega
def Qs6 (s:State) (n:Int):Int:=bif ((((Qu1 s)!=0)||(decide (n<0)))||(decide (n >= (s.nodes.length:Int)))) then 0 else (QO4 s n)
theorem QA9 (s:State) (n:Int) (hs0:s.sz):∀ objs,AGives Tryz.prog 12 [State.a s,I n] objs (I (Qs6 s n)):=by
 generalize hR:Qs6 s n=R;refine ga (.cons (State.low _ _) (l1 .nil)) lx (kp 5 [18]) Tryz.func12 ?_;have hk0:=hs0;obtain ⟨z3,z4,z5,z6,z7,z8,z9⟩:=hs0;refine us (Qh5 s szA _) ?_;refine ai (fun h1=>?_) (fun h2=>?_)
 ·obtain rfl:=foll hR (ct h1 rfl);exact Q00 lx sr
 ·refine us (QB9 s n szA ckA _) ?_;obtain rfl:=foll hR (cf h2 rfl);exact Q00 lx sr
def Q14 (s:State):(List Step):=bif ((Qu1 s)!=0) then [] else (Q63 s)
theorem QDa (s:State) (hs0:s.sz):∀ objs,AGives Tryz.prog 15 [State.a s] objs (stepL (Q14 s)):=by
 generalize hR:Q14 s=R;refine ga (.cons (State.low _ _) .nil) lw (kp 3 [5]) Tryz.func15 ?_;have hk0:=hs0;obtain ⟨z3,z4,z5,z6,z7,z8,z9⟩:=hs0;refine us (Qh5 s szA _) ?_;refine ai (fun h1=>?_) (fun h2=>?_)
 ·obtain rfl:=foll hR (ct h1 rfl);exact Q00 lw (QT0)
 ·refine us (QFa s szA _) ?_;obtain rfl:=foll hR (cf h2 rfl);exact Q00 lw sr
theorem ref20_Busy_len (s:State):(Q14 s).length<=4294967296:=by
 unfold Q14
 cases ((Qu1 s)!=0) with
 | true=>simp
 | false=>exact Qu2 s
def Qs4 (s:State) (except:List Int):(List Step):=bif ((Qu1 s)!=0) then [] else (Q57 s except)
theorem QEa (s:State) (except:List Int) (hs0:s.sz) (hs1:except.length<=4294967296):∀ objs,AGives Tryz.prog 20 [State.a s,ints except] objs (stepL (Qs4 s except)):=by
 generalize hR:Qs4 s except=R;refine ga (.cons (State.low _ _) (.cons lw .nil)) lw (kp 5 [7]) Tryz.func20 ?_;have hk0:=hs0;obtain ⟨z3,z4,z5,z6,z7,z8,z9⟩:=hs0;have hk1:=hs1;obtain z10:except.length<=4294967296:=hs1;refine us (Qh5 s szA _) ?_;refine ai (fun h1=>?_) (fun h2=>?_)
 ·obtain rfl:=foll hR (ct h1 rfl);exact Q00 lw (QT0)
 ·refine us (ref20_Left_c s except szA szA (by exact ref15_choices (QYa (by assumption))) _) ?_;obtain rfl:=foll hR (cf h2 rfl);exact Q00 lw sr
theorem ref20_Room_len (s:State) (ex:List Int):(Qs4 s ex).length<=4294967296:=by
 have g1:∀ (l:List Book) (p:List Step) (i:Nat),p.length<=4294967296->(QH1 l p i).1.length<=4294967296:=by
  intro l
  induction l with
  | nil=>intro p i h;exact h
  | cons x r ih=>intro p i h;rw [QH1];exact ih _ _ (Q91 h)
 have g2:∀ (l:List Job) (p:List Step) (i:Nat),p.length<=4294967296->(QC0 ex l p i).1.length<=4294967296:=by
  intro l
  induction l with
  | nil=>intro p i h;exact h
  | cons x r ih =>
   intro p i h
   rw [QC0]
   dsimp only
   repeat' first|exact ih _ _ h|exact ih _ _ (Q91 h)|(rw [Bool.cond_eq_ite];split)
 unfold Qs4
 cases ((Qu1 s)!=0) with
 | true=>simp
 | false=>exact g2 _ _ _ (g1 _ _ _ (Qu2 s))
def Q32 (l:List Job) (id_:Int):Job × Bool:=bif (((Qt2 l)!=0)||(!(QT4 id_))) then (Job.zero,false) else bif (!(Qk0 l id_).2) then (Job.zero,false) else (((List.drop (Int.toNat ((Qk0 l id_).1)) (List.take (Int.toNat (w64 ((Qk0 l id_).1+1))) l)).getD 0 Job.zero),true)
theorem table_Find_c (l:List Job) (id_:Int) (hs0:l.length<=4294967296∧(∀ y ∈ l,y.sz)):∀ objs,AGives Tryz.prog 24 [jobL l,I id_] objs (AVal.tup [Job.a ((Q32 l id_).1),Bo ((Q32 l id_).2)]):=by
 generalize hR:Q32 l id_=R;refine ga (.cons lw (l1 .nil)) (Low.tup' (.cons (Job.low _ _) (l1 .nil))) (kp 8 [15,24]) Tryz.func24 ?_;have hk0:=hs0;obtain ⟨z5,z6⟩:l.length<=4294967296∧(∀ y ∈ l,y.sz):=hs0;refine us (QM9 l szA _) ?_;(first|apply u2|apply u3|apply u4|apply us);exact table_known_c id_ _;refine ai (fun h1=>?_) (fun h2=>?_)
 ·obtain rfl:=foll hR (ct h1 rfl);exact Q00 (Low.tup' (.cons (Job.low _ _) (l1 .nil))) (Seen.tup (ev (Seen.agg (e1 (e1 (e1 (e1 (e1 (ev (QT0) (e1 (e1 (e1 (e1 (ev (QT0) (e1 (e1 (e1 (e1 (e1 (e1 (e1 (e1 (e1 .nil))))))))))))))))))))) (e1 .nil)))
 ·refine us (table_place_c l id_ szA _) ?_;refine ai (fun h3=>?_) (fun h4=>?_)
  ·obtain rfl:=foll hR (cf h2 (ct h3 rfl));exact Q00 (Low.tup' (.cons (Job.low _ _) (l1 .nil))) (Seen.tup (ev (Seen.agg (e1 (e1 (e1 (e1 (e1 (ev (QT0) (e1 (e1 (e1 (e1 (ev (QT0) (e1 (e1 (e1 (e1 (e1 (e1 (e1 (e1 (e1 .nil))))))))))))))))))))) (e1 .nil)))
  ·refine And.intro (by first|exact fun hg=>decide_eq_true (by first|(have hp:=QE4 l id_ hk0.1 (by assumption);have pw:IntKind.i64.wrap ((Qk0 l id_).1+1)=(Qk0 l id_).1+1:=wr (by omega);simp only [Option.getD_some,pw,List.length_drop,List.length_take];omega)|exact ckA)|exact gkA) ?_;refine us (mv [] (table_whole_o (List.drop (Int.toNat ((Qk0 l id_).1)) (List.take (Int.toNat (w64 ((Qk0 l id_).1+1))) l)) szA) .nil (dv (dn_as (as_cut l (Int.toNat ((Qk0 l id_).1)) (Int.toNat (w64 ((Qk0 l id_).1+1))) leA (by first|(have hp:=QE4 l id_ hk0.1 (by assumption);have pw:IntKind.i64.wrap ((Qk0 l id_).1+1)=(Qk0 l id_).1+1:=wr (by omega);simp only [Option.getD_some,pw,List.length_drop,List.length_take];omega)|exact ckA)) lw) .nil) (rO rr .nil) (rw_ 1 0 rfl)) ?_;refine And.intro (by first|exact fun hg=>decide_eq_true (by first|(have hp:=QE4 l id_ hk0.1 (by assumption);have pw:IntKind.i64.wrap ((Qk0 l id_).1+1)=(Qk0 l id_).1+1:=wr (by omega);simp only [Option.getD_some,pw,List.length_drop,List.length_take];omega)|exact ckA)|exact gkA) ?_;refine ⟨_,QA3 rfl rfl rfl (QH4 Job.zero 0 (by first|rfl|exact Nat.zero_add _|omega) (by first|(have hp:=QE4 l id_ hk0.1 (by assumption);have pw:IntKind.i64.wrap ((Qk0 l id_).1+1)=(Qk0 l id_).1+1:=wr (by omega);simp only [Option.getD_some,pw,List.length_drop,List.length_take];omega)|exact ckA)) rfl,?_⟩;obtain rfl:=foll hR (cf h2 (cf h4 rfl));exact Q00 (Low.tup' (.cons (Job.low _ _) (l1 .nil))) (Seen.tup (e1 (e1 .nil)))
end Go.Proofs.YtiiaifgeekdpaaaGreatDoor
namespace Go.Proofs.YtiiaifgeekdpaaaGreatDoor
set_option linter.unusedSimpArgs false
set_option linter.unusedVariables false
open Go.Fw
set_option maxRecDepth 20000
set_option maxHeartbeats 4000000
attribute [local irreducible] ACalls AMoves
def Q24 (s:State) (n:Int):Int:=bif ((((Qt0 s)!=0)||(decide (n<0)))||(decide (n >= (s.nodes.length:Int)))) then 0 else (QA0 (s.nodes.getD (Int.toNat n) Node.zero) (Qi0 s.jobs))
theorem QT5 (s:State) (n:Int) (hs0:s.sz):∀ objs,AGives Tryz.prog 11 [State.a s,I n] objs (I (Q24 s n)):=by
 generalize hR:Q24 s n=R;refine ga (.cons (State.low _ _) (l1 .nil)) lx (kp 5 [18]) Tryz.func11 ?_;have hk0:=hs0;obtain ⟨z3,z4,z5,z6,z7,z8,z9⟩:=hs0;refine us (Qc3 s szA _) ?_;refine ai (fun h1=>?_) (fun h2=>?_)
 ·obtain rfl:=foll hR (ct h1 rfl);exact Q00 lx sr
 ·refine dchk (by kernel_rfl) ?_;refine ai gkA ?_;(first|apply u2|apply u3|apply u4|apply us);exact mv [] (QE9 s.jobs szA) .nil (dl lw .nil) (rO (RenO.same _ (Q17 fun _=>lx)) .nil) (Ren.map _ _ rfl);(first|apply u2|apply u3|apply u4|apply us);exact mv [1] (QGa (s.nodes.getD (Int.toNat n) Node.zero) (Qi0 s.jobs)) (dO (.same _ (Q17 fun _=>lx)) .nil) (dv (Qw6 (Low.agg' (Node.lo))) (dv (dn_ren (Ren.map _ _ rfl)) .nil)) (rO (RenO.same _ (Q17 fun _=>lx)) .nil) rx;(repeat ((first|refine ai rfl ?_|refine ai (fun _=>rfl) ?_)));obtain rfl:=foll hR (cf h2 rfl);exact Q00 lx sr
def Q71 (s:State):List Node->List Int->Nat->List (Int × Int)->(List Int) × (List (Int × Int))
 | [],order,_,c=>(order,c)
 | x_ :: r,order,i,c=>bif (((getM (QA0 x_ (Qi0 s.jobs)) c).getD 0)==0) then Q71 s r (order++([(QA0 x_ (Qi0 s.jobs))]:List Int)) (i+1) (setM (QA0 x_ (Qi0 s.jobs)) (w64 (((getM (QA0 x_ (Qi0 s.jobs)) c).getD 0)+1)) c) else Q71 s r order (i+1) (setM (QA0 x_ (Qi0 s.jobs)) (w64 (((getM (QA0 x_ (Qi0 s.jobs)) c).getD 0)+1)) c)
def Qa3 (order:List Int) (c:List (Int × Int)):List Int->Nat->Taken->Taken
 | [],_,c2=>c2
 | _ :: r,i1,c2=>Qa3 order c r (i1+1) (QZ0 c2 0 ((QZ2 order).getD i1 0) ((getM ((QZ2 order).getD i1 0) c).getD 0))
def Qx3 (c2:Taken):(List Step):=c2.p
def Qb3 (s:State) (order:List Int) (c:List (Int × Int)):(List Step):=Qx3 (Qa3 order c (QZ2 order) 0 (⟨(Q52 (QY0 (Qx6 s.nodes)))⟩:Taken))
def Qr0 (s:State):(List Step):=bif ((Qt0 s)!=0) then [] else Qb3 s ((Q71 s s.nodes [] 0 []).1) ((Q71 s s.nodes [] 0 []).2)
theorem QL3 (s:State) (hs0:s.sz):∀ objs,AGives Tryz.prog 14 [State.a s] objs (stepL (Qr0 s)):=by
 generalize hR:Qr0 s=R;refine ga (.cons (State.low _ _) .nil) lw (kp 12 [14,27,28,29,30,39,51,52,53,54]) Tryz.func14 ?_;have hk0:=hs0;obtain ⟨z9,z10,z11,z12,z13,z14,z15⟩:=hs0;refine us (Qc3 s szA _) ?_;refine ai (fun h1=>?_) (fun h2=>?_)
 ·obtain rfl:=foll hR (ct h1 rfl);exact Q00 lw (QT0)
 ·refine us (fleet_Up_c s.nodes szA _) ?_;refine us (Qb4 (Qx6 s.nodes) _) ?_;refine us (profile_Flat_c (QY0 (Qx6 s.nodes)) _) ?_;refine us (mv [] (QE9 s.jobs szA) .nil (dl lw .nil) (rO (RenO.same _ (Q17 fun _=>lx)) .nil) (Ren.map _ _ rfl)) ?_;refine Qr7 (fun (order:List Int) (i:Nat) (c:List (Int × Int))=>Qb3 s (Q71 s (List.drop i s.nodes) order i c).1 (Q71 s (List.drop i s.nodes) order i c).2=R∧i<=s.nodes.length∧(order ≠ []∨(i=0∧c=[]))∧order.length<=i) (fun order i c=>s.nodes.length - i) (fun order i c=>[(2,AVal.lit (.slice none 0 0)),(3,AVal.ptr 0 0 1 0 0),(4,AVal.map 1),(5,AVal.map 2),(6,AVal.own 3 0 1 0 order.length),(27,nodeL s.nodes),(28,I (s.nodes.length:Int)),(29,I (i:Int))]) (fun order i c=>[(0,AObj.row 81 1 [[stepL (Q52 (QY0 (Qx6 s.nodes)))]]),(0,AObj.other (.map (mapEs ik I 0 c) c.length)),(0,AObj.other (.map (mapEs ik I 0 (Qi0 s.jobs)) (Qi0 s.jobs).length)),(0,AObj.row 3 1 (order.map (fun q_=>[I q_])))]) [] 0 [] ((Qf2 3 1).trans (wk [1,2,3,4] (tO rfl (ts Taken.lo) (tO rfl (Qv2 _ rfl rfl (fun _=>lx)) (tO rfl (Qv2 _ rfl rfl (fun _=>lx)) (tO rfl (tl eqA) .nil)))) (s1 (sv (Q10 0 rfl rfl) (sv (QK4 1 rfl rfl) (sv (QK4 2 rfl rfl) (sv (QL1 3 rfl) (sl lw (s1 (s1 .nil)))))))))) ⟨foll hR (cf h2 rfl),by exact omA,by first|(exact ⟨.inr ⟨rfl,rfl⟩,Nat.le_refl _⟩)|first|(exact ⟨.inl (by simp),by simp;omega⟩)|first|(exact ⟨.inl (Qib hx.1 (by assumption)),by omega⟩)|first|(((try dsimp only);exact QI1 (by assumption)))|first|(((try dsimp only);exact QI1 hx))|first|(exact Qb8 _)|exact exA⟩ ?_;clear hR;rintro order i c ⟨hR,hj,hx⟩;(try dsimp only at hR hj hx);refine ai (fun h3=>?_) (fun h4=>?_)
  ·have hlt:=ltA h3;rw [Qf0 Node.zero hlt] at hR;refine ai gkA ?_;refine us (mv [2] (QGa (s.nodes.getD i Node.zero) (Qi0 s.jobs)) (dO (.same _ (Q17 fun _=>lx)) .nil) (dv (Qw6 (Low.agg' (Node.lo))) (dv (dn_ren (Ren.map _ _ rfl)) .nil)) (rO (RenO.same _ (Q17 fun _=>lx)) .nil) rx) ?_;(first|refine ⟨_,_,QY2 rfl _ _,QR2 (ek:=ik) (QA0 (s.nodes.getD i Node.zero) (Qi0 s.jobs)) c 0 (AsA.refl _),?_⟩|refine ⟨_,fun _=>⟨_,_,QY2 rfl _ _,QR2 (ek:=ik) (QA0 (s.nodes.getD i Node.zero) (Qi0 s.jobs)) c 0 (AsA.refl _),rfl,rfl⟩,?_⟩|refine ⟨_,rfl,⟨_,_,QY2 rfl _ _,QR2 (ek:=ik) (QA0 (s.nodes.getD i Node.zero) (Qi0 s.jobs)) c 0 (AsA.refl _),Sub.refl _,rfl⟩,?_⟩);refine ai (fun h5=>?_) (fun h6=>?_)
   ·refine Or.inl ?_;(first|refine ⟨Qp2 8 rfl lnA apA,?_⟩|refine ⟨Qk1 8 rfl apA,?_⟩);(first|refine ⟨_,_,QY2 rfl _ _,QR2 (ek:=ik) (QA0 (s.nodes.getD i Node.zero) (Qi0 s.jobs)) c 0 (AsA.refl _),?_⟩|refine ⟨_,fun _=>⟨_,_,QY2 rfl _ _,QR2 (ek:=ik) (QA0 (s.nodes.getD i Node.zero) (Qi0 s.jobs)) c 0 (AsA.refl _),rfl,rfl⟩,?_⟩|refine ⟨_,rfl,⟨_,_,QY2 rfl _ _,QR2 (ek:=ik) (QA0 (s.nodes.getD i Node.zero) (Qi0 s.jobs)) c 0 (AsA.refl _),Sub.refl _,rfl⟩,?_⟩);refine ⟨_,_,QY2 rfl _ _,putM_map (ek:=ik) (QA0 (s.nodes.getD i Node.zero) (Qi0 s.jobs)) (w64 (((getM (QA0 (s.nodes.getD i Node.zero) (Qi0 s.jobs)) c).getD 0)+1)) c rfl rfl,?_⟩;exact Qn4 (order++([(QA0 (s.nodes.getD i Node.zero) (Qi0 s.jobs))]:List Int)) (i+1) (setM (QA0 (s.nodes.getD i Node.zero) (Qi0 s.jobs)) (w64 (((getM (QA0 (s.nodes.getD i Node.zero) (Qi0 s.jobs)) c).getD 0)+1)) c) (wk [0,1,2,3] (tO rfl (ts Taken.lo) (tO rfl (Qv2 _ rfl rfl (fun _=>lx)) (tO rfl (Qv2 _ rfl rfl (fun _=>lx)) (tO rfl (tl eqA) .nil)))) (s1 (sv (Q10 0 rfl rfl) (sv (QK4 1 rfl rfl) (sv (QK4 2 rfl rfl) (sv (to 3 lnA) (sl lw (s1 (sv (Qd0 (I_eq (wr omA)) lx) .nil))))))))) omA ⟨foll hR (congrArg (fun p:(List Int) × (List (Int × Int))=>Qb3 s p.1 p.2) (ct h5 rfl)),by exact omA,by first|(exact ⟨.inr ⟨rfl,rfl⟩,Nat.le_refl _⟩)|first|(exact ⟨.inl (by simp),by simp;omega⟩)|first|(exact ⟨.inl (Qib hx.1 (by assumption)),by omega⟩)|first|(((try dsimp only);exact QI1 (by assumption)))|first|(((try dsimp only);exact QI1 hx))|first|(exact Qb8 _)|exact exA⟩
   ·(first|refine ⟨_,_,QY2 rfl _ _,QR2 (ek:=ik) (QA0 (s.nodes.getD i Node.zero) (Qi0 s.jobs)) c 0 (AsA.refl _),?_⟩|refine ⟨_,fun _=>⟨_,_,QY2 rfl _ _,QR2 (ek:=ik) (QA0 (s.nodes.getD i Node.zero) (Qi0 s.jobs)) c 0 (AsA.refl _),rfl,rfl⟩,?_⟩|refine ⟨_,rfl,⟨_,_,QY2 rfl _ _,QR2 (ek:=ik) (QA0 (s.nodes.getD i Node.zero) (Qi0 s.jobs)) c 0 (AsA.refl _),Sub.refl _,rfl⟩,?_⟩);refine ⟨_,_,QY2 rfl _ _,putM_map (ek:=ik) (QA0 (s.nodes.getD i Node.zero) (Qi0 s.jobs)) (w64 (((getM (QA0 (s.nodes.getD i Node.zero) (Qi0 s.jobs)) c).getD 0)+1)) c rfl rfl,?_⟩;exact Qn4 order (i+1) (setM (QA0 (s.nodes.getD i Node.zero) (Qi0 s.jobs)) (w64 (((getM (QA0 (s.nodes.getD i Node.zero) (Qi0 s.jobs)) c).getD 0)+1)) c) (wk [0,1,2,3] (tO rfl (ts Taken.lo) (tO rfl (Qv2 _ rfl rfl (fun _=>lx)) (tO rfl (Qv2 _ rfl rfl (fun _=>lx)) (tO rfl (tl eqA) .nil)))) (s1 (sv (Q10 0 rfl rfl) (sv (QK4 1 rfl rfl) (sv (QK4 2 rfl rfl) (sv (to 3 lnA) (sl lw (s1 (sv (Qd0 (I_eq (wr omA)) lx) .nil))))))))) omA ⟨foll hR (congrArg (fun p:(List Int) × (List (Int × Int))=>Qb3 s p.1 p.2) (cf h6 rfl)),by exact omA,by first|(exact ⟨.inr ⟨rfl,rfl⟩,Nat.le_refl _⟩)|first|(exact ⟨.inl (by simp),by simp;omega⟩)|first|(exact ⟨.inl (Qib hx.1 (by assumption)),by omega⟩)|first|(((try dsimp only);exact QI1 (by assumption)))|first|(((try dsimp only);exact QI1 hx))|first|(exact Qb8 _)|exact exA⟩
  ·rw [Qg0 (l:=s.nodes) (j:=i) (geA h4)] at hR;replace hR:Qb3 s order c=R:=fo2 (fun p:(List Int) × (List (Int × Int))=>Qb3 s p.1 p.2) (order,c) hR rfl;refine us (mv [3] (slices_Sort_c order szA (by exact busy_order (by assumption) hx.1 (by assumption))) (dO (dr eqA) .nil) (dv (Qi7 rfl lnA) .nil) (rO rr .nil) rx) ?_;refine Qj0 (fun (i1:Nat) (c2:Taken)=>Qx3 (Qa3 order c (List.drop i1 (QZ2 order)) i1 c2)=R∧i1<=(QZ2 order).length∧c2.p.length<=4294967296) (fun i1 c2=>(QZ2 order).length - i1) (fun i1 c2=>[(2,AVal.lit (.slice none 0 0)),(3,AVal.ptr 0 0 1 0 0),(4,AVal.map 1),(51,AVal.own 2 0 1 0 ((QZ2 order).length)),(52,I ((QZ2 order).length:Int)),(53,I (i1:Int))]) (fun i1 c2=>[(0,AObj.row 81 1 [[stepL c2.p]]),(0,AObj.other (.map (mapEs ik I 0 c) c.length)),(0,AObj.row 3 1 ((QZ2 order).map (fun q_=>[I q_])))]) 0 (⟨(Q52 (QY0 (Qx6 s.nodes)))⟩:Taken) (wk [0,1,3] (tO rfl (ts Taken.lo) (tO rfl (Qv2 _ rfl rfl (fun _=>lx)) (tO rfl (tl eqA) .nil))) (s1 (sv (Q10 0 rfl rfl) (sv (QK4 1 rfl rfl) (sv (to 2 lnA) (sv (Qd0 (I_eq (by simp)) lx) (s1 .nil))))))) ⟨foll hR rfl,by exact omA,by first|(exact ⟨.inr ⟨rfl,rfl⟩,Nat.le_refl _⟩)|first|(exact ⟨.inl (by simp),by simp;omega⟩)|first|(exact ⟨.inl (Qib hx.1 (by assumption)),by omega⟩)|first|(((try dsimp only);exact QI1 (by assumption)))|first|(((try dsimp only);exact QI1 hx))|first|(exact Qb8 _)|exact exA⟩ ?_;clear hR;rintro i1 c2 ⟨hR,hj,hx⟩;(try dsimp only at hR hj hx);refine ai (fun h7=>?_) (fun h8=>?_)
   ·have hlt:=ltA h7;rw [Qf0 0 hlt] at hR;have hsl:=sorted_len order;refine ai gkA ?_;refine ⟨_,QA3 rfl rfl rfl (QH4 0 i1 (by first|rfl|exact Nat.zero_add _|omega) ckA) rfl,?_⟩;(first|refine ⟨_,_,QY2 rfl _ _,QR2 (ek:=ik) ((QZ2 order).getD i1 0) c 0 (AsA.refl _),?_⟩|refine ⟨_,fun _=>⟨_,_,QY2 rfl _ _,QR2 (ek:=ik) ((QZ2 order).getD i1 0) c 0 (AsA.refl _),rfl,rfl⟩,?_⟩|refine ⟨_,rfl,⟨_,_,QY2 rfl _ _,QR2 (ek:=ik) ((QZ2 order).getD i1 0) c 0 (AsA.refl _),Sub.refl _,rfl⟩,?_⟩);refine us (mv [0] (Qw5 c2 0 ((QZ2 order).getD i1 0) ((getM ((QZ2 order).getD i1 0) c).getD 0) szA) (dO (ds Taken.lo) .nil) (dp (d1 (d1 (d1 .nil)))) (rO (re Taken.lo) .nil) rx) ?_;exact Qa0 (i1+1) (QZ0 c2 0 ((QZ2 order).getD i1 0) ((getM ((QZ2 order).getD i1 0) c).getD 0)) (wk [0,1,2] (tO rfl (ts Taken.lo) (tO rfl (Qv2 _ rfl rfl (fun _=>lx)) (tO rfl (tl eqA) .nil))) (s1 (sv (Q10 0 rfl rfl) (sv (QK4 1 rfl rfl) (sv (to 2 lnA) (sv (Qd0 (I_eq (by simp)) lx) (sv (Qd0 (I_eq (wr omA)) lx) .nil))))))) omA ⟨foll hR (congrArg (fun p:Taken=>Qx3 p) rfl),by exact omA,by first|(exact ⟨.inr ⟨rfl,rfl⟩,Nat.le_refl _⟩)|first|(exact ⟨.inl (by simp),by simp;omega⟩)|first|(exact ⟨.inl (Qib hx.1 (by assumption)),by omega⟩)|first|(((try dsimp only);exact QI1 (by assumption)))|first|(((try dsimp only);exact QI1 hx))|first|(exact Qb8 _)|exact exA⟩
   ·rw [Qg0 (l:=(QZ2 order)) (j:=i1) (geA h8)] at hR;replace hR:Qx3 c2=R:=fo2 (fun p:Taken=>Qx3 p) (c2) hR rfl;obtain rfl:=foll hR rfl;exact Q00 lw sr
theorem Qt1 (s:State):(Qr0 s).length<=4294967296:=by
 have g2:∀ (o:List Int) (c:List (Int × Int)) (l:List Int) (i:Nat) (t:Taken),t.p.length<=4294967296->(Qa3 o c l i t).p.length<=4294967296:=by
  intro o c l
  induction l with
  | nil=>intro i t h;exact h
  | cons x r ih=>intro i t h;rw [Qa3];exact ih _ _ (QI1 h)
 unfold Qr0 Qb3 Qx3
 cases ((Qt0 s)!=0) with
 | true=>simp
 | false=>exact g2 _ _ _ _ _ (Qb8 _)
end Go.Proofs.YtiiaifgeekdpaaaGreatDoor
namespace Go.Proofs.YtiiaifgeekdpaaaGreatDoor
set_option linter.unusedSimpArgs false
set_option linter.unusedVariables false
open Go.Fw
set_option maxRecDepth 20000
set_option maxHeartbeats 4000000
attribute [local irreducible] ACalls AMoves
def Qn2 :List Book->Nat->Taken->Taken
 | [],_,c=>c
 | x_ :: r,i,c=>Qn2 r (i+1) (QZ0 c x_.from_ x_.to x_.nodes)
def Q72 (except:List Int):List Job->Nat->Taken->Taken
 | [],_,c2=>c2
 | x_1 :: r,i1,c2=>bif (!(Qc1 except x_1.id)) then bif (QB0 x_1).2.2.2 then Q72 except r (i1+1) (QZ0 c2 ((QB0 x_1).1) (w64 ((QB0 x_1).1+(QB0 x_1).2.1)) ((QB0 x_1).2.2.1)) else Q72 except r (i1+1) c2 else Q72 except r (i1+1) c2
def Qy3 (c2:Taken):(List Step):=c2.p
def Q55 (s:State) (except:List Int) (c:Taken):(List Step):=Qy3 (Q72 except s.jobs 0 c)
def QF0 (s:State) (except:List Int):(List Step):=Q55 s except (Qn2 s.books 0 (⟨(Qr0 s)⟩:Taken))
theorem take_nil (f t n:Int):QZ0 (⟨[]⟩:Taken) f t n=⟨[]⟩:=by
 unfold QZ0
 cases ((decide (t<=f))||(n==0)) <;> rfl
theorem QD9 {s:State} {except:List Int} (h:(Qr0 s).length=0):QF0 s except=[]:=by
 have g1:∀ (l:List Book) (i:Nat),Qn2 l i (⟨[]⟩:Taken)=⟨[]⟩:=by
  intro l
  induction l with
  | nil=>intro i;rfl
  | cons x r ih=>intro i;rw [Qn2,take_nil];exact ih _
 have g2:∀ (l:List Job) (i:Nat),Q72 except l i (⟨[]⟩:Taken)=⟨[]⟩:=by
  intro l
  induction l with
  | nil=>intro i;rfl
  | cons x r ih =>
   intro i
   rw [Q72,take_nil]
   repeat' first|exact ih _|(rw [Bool.cond_eq_ite];split)
 unfold QF0 Q55 Qy3
 rw [List.eq_nil_of_length_eq_zero h,g1,g2]
theorem QQ4 (s:State) (except:List Int) (hs0:s.sz) (hs1:except.length<=4294967296):∀ objs,AGives Tryz.prog 19 [State.a s,ints except] objs (stepL (QF0 s except)):=by
 generalize hR:QF0 s except=R;refine ga (.cons (State.low _ _) (.cons lw .nil)) lw (kp 12 [15,21,22,23,24,37,38,39,40,47]) Tryz.func19 ?_;have hk0:=hs0;obtain ⟨z14,z15,z16,z17,z18,z19,z20⟩:=hs0;have hk1:=hs1;obtain z21:except.length<=4294967296:=hs1;refine us (QL3 s (by first|(exact Qt1 _)|exact szA) _) ?_;intro nb3 hb3
 cases nb3
 ·refine ai (fun h=>nomatch h) (fun _=>?_);refine Qj0 (fun (i:Nat) (c:Taken)=>Q55 s except (Qn2 (List.drop i s.books) i c)=R∧i<=s.books.length∧c.p.length<=4294967296) (fun i c=>s.books.length - i) (fun i c=>[(1,ints except),(2,AVal.ptr 0 0 8 0 0),(4,AVal.lit (.slice none 0 0)),(6,AVal.ptr 2 0 1 0 0),(7,AVal.fn (.func 50) [] [AVal.ptr 2 0 1 0 0]),(21,bookL s.books),(22,I (s.books.length:Int)),(23,I (i:Int))]) (fun i c=>[(0,AObj.row 28 8 [[I s.now,nodeL s.nodes,jobL s.jobs,Qt6 s.resizes,bookL s.books,Qa7 s.ledger,I s.nextJob,I s.nextBook]]),(0,AObj.row 81 1 [[stepL c.p]]),(0,AObj.row 78 1 [[AVal.ptr 1 0 1 0 0]])]) 0 (⟨(Qr0 s)⟩:Taken) (wk [0,1,2] (tO rfl (ts State.lo) (tO rfl (ts Taken.lo) (tO rfl (Qs0 (cv (Q10 1 rfl rfl) .nil)) .nil))) (sl lw (sv (Q10 0 rfl rfl) (s1 (sv (Q10 2 rfl rfl) (sv (Q51 .nil (cv (Q10 2 rfl rfl) .nil)) (sl lw (s1 (s1 .nil))))))))) ⟨foll hR rfl,by exact omA,by first|(((try dsimp only);exact QI1 (by assumption)))|first|(((try dsimp only);exact QI1 hx))|first|(exact Qt1 _)|exact exA⟩ ?_;clear hR;rintro i c ⟨hR,hj,hx⟩;(try dsimp only at hR hj hx);refine ai (fun h1=>?_) (fun h2=>?_)
  ·have hlt:=ltA h1;rw [Qf0 Book.zero hlt] at hR;refine ai gkA ?_;refine us (mv [1] (Qw5 c ((s.books.getD i Book.zero).from_) ((s.books.getD i Book.zero).to) ((s.books.getD i Book.zero).nodes) (by first|(exact Qt1 _)|exact szA)) (dO (ds Taken.lo) .nil) (dp (d1 (d1 (d1 .nil)))) (rO (re Taken.lo) .nil) rx) ?_;exact Qa0 (i+1) (QZ0 c (s.books.getD i Book.zero).from_ (s.books.getD i Book.zero).to (s.books.getD i Book.zero).nodes) (wk [0,1,2] (tO rfl (ts State.lo) (tO rfl (ts Taken.lo) (tO rfl (Qs0 (cv (Q10 1 rfl rfl) .nil)) .nil))) (sl lw (sv (Q10 0 rfl rfl) (s1 (sv (Q10 2 rfl rfl) (sv (Q51 .nil (cv (Q10 2 rfl rfl) .nil)) (sl lw (s1 (sv (Qd0 (I_eq (wr omA)) lx) .nil))))))))) omA ⟨foll hR (congrArg (fun p:Taken=>Q55 s except p) rfl),by exact omA,by first|(((try dsimp only);exact QI1 (by assumption)))|first|(((try dsimp only);exact QI1 hx))|first|(exact Qt1 _)|exact exA⟩
  ·rw [Qg0 (l:=s.books) (j:=i) (geA h2)] at hR;replace hR:Q55 s except c=R:=fo2 (fun p:Taken=>Q55 s except p) (c) hR rfl;refine Qj0 (fun (i1:Nat) (c2:Taken)=>Qy3 (Q72 except (List.drop i1 s.jobs) i1 c2)=R∧i1<=s.jobs.length∧c2.p.length<=4294967296) (fun i1 c2=>s.jobs.length - i1) (fun i1 c2=>[(1,ints except),(4,AVal.lit (.slice none 0 0)),(6,AVal.ptr 1 0 1 0 0),(7,AVal.fn (.func 50) [] [AVal.ptr 1 0 1 0 0]),(37,jobL s.jobs),(38,I (s.jobs.length:Int)),(39,I (i1:Int))]) (fun i1 c2=>[(0,AObj.row 81 1 [[stepL c2.p]]),(0,AObj.row 78 1 [[AVal.ptr 0 0 1 0 0]])]) 0 c (wk [1,2] (tO rfl (ts Taken.lo) (tO rfl (Qs0 (cv (Q10 0 rfl rfl) .nil)) .nil)) (sl lw (s1 (sv (Q10 1 rfl rfl) (sv (Q51 .nil (cv (Q10 1 rfl rfl) .nil)) (sl lw (s1 (s1 .nil)))))))) ⟨foll hR rfl,by exact omA,by first|(((try dsimp only);exact QI1 (by assumption)))|first|(((try dsimp only);exact QI1 hx))|first|(exact Qt1 _)|exact exA⟩ ?_;clear hR;rintro i1 c2 ⟨hR,hj,hx⟩;(try dsimp only at hR hj hx);refine ai (fun h3=>?_) (fun h4=>?_)
   ·have hlt:=ltA h3;rw [Qf0 Job.zero hlt] at hR;have hxz:(s.jobs.getD i1 Job.zero).sz:=Qk6 (by first|assumption|grind) (Job.szz _);have hkz:=hxz;obtain ⟨z5,z6,z7,z8,z9⟩:((s.jobs.getD i1 Job.zero).name).size<=4294967296∧((s.jobs.getD i1 Job.zero).user).size<=4294967296∧((s.jobs.getD i1 Job.zero).account).size<=4294967296∧((((s.jobs.getD i1 Job.zero).shape).alts).length<=4294967296)∧((s.jobs.getD i1 Job.zero).after).length<=4294967296:=hxz;refine ai gkA ?_;refine us (QQ1 except ((s.jobs.getD i1 Job.zero).id) (by first|(exact Qt1 _)|exact szA) _) ?_;refine ai (fun h10=>?_) (fun h11=>?_)
    ·refine ACalls.of_cwp (fun _=>true) Tryz.func50 rfl rfl ?_;refine us (Q48 (s.jobs.getD i1 Job.zero) (by first|(exact Qt1 _)|exact szA) _) ?_;refine ai (fun h12=>?_) (fun h13=>?_)
     ·refine us (mv [0] (Qw5 c2 ((QB0 (s.jobs.getD i1 Job.zero)).1) (w64 ((QB0 (s.jobs.getD i1 Job.zero)).1+(QB0 (s.jobs.getD i1 Job.zero)).2.1)) ((QB0 (s.jobs.getD i1 Job.zero)).2.2.1) (by first|(exact Qt1 _)|exact szA)) (dO (ds Taken.lo) .nil) (dp (d1 (d1 (d1 .nil)))) (rO (re Taken.lo) .nil) rx) ?_;refine ⟨_,_,Told.refl,?_⟩;exact Qa0 (i1+1) (QZ0 c2 ((QB0 (s.jobs.getD i1 Job.zero)).1) (w64 ((QB0 (s.jobs.getD i1 Job.zero)).1+(QB0 (s.jobs.getD i1 Job.zero)).2.1)) ((QB0 (s.jobs.getD i1 Job.zero)).2.2.1)) (wk [0,1] (tO rfl (ts Taken.lo) (tO rfl (Qs0 (cv (Q10 0 rfl rfl) .nil)) .nil)) (sl lw (s1 (sv (Q10 1 rfl rfl) (sv (Q51 .nil (cv (Q10 1 rfl rfl) .nil)) (sl lw (s1 (sv (Qd0 (I_eq (wr omA)) lx) .nil)))))))) omA ⟨foll hR (congrArg (fun p:Taken=>Qy3 p) (ct h10 (ct h12 rfl))),by exact omA,by first|(((try dsimp only);exact QI1 (by assumption)))|first|(((try dsimp only);exact QI1 hx))|first|(exact Qt1 _)|exact exA⟩
     ·refine ⟨_,_,Told.refl,?_⟩;exact Qa0 (i1+1) c2 (wk [0,1] (tO rfl (ts Taken.lo) (tO rfl (Qs0 (cv (Q10 0 rfl rfl) .nil)) .nil)) (sl lw (s1 (sv (Q10 1 rfl rfl) (sv (Q51 .nil (cv (Q10 1 rfl rfl) .nil)) (sl lw (s1 (sv (Qd0 (I_eq (wr omA)) lx) .nil)))))))) omA ⟨foll hR (congrArg (fun p:Taken=>Qy3 p) (ct h10 (cf h13 rfl))),by exact omA,by first|(((try dsimp only);exact QI1 (by assumption)))|first|(((try dsimp only);exact QI1 hx))|first|(exact Qt1 _)|exact exA⟩
    ·exact Qa0 (i1+1) c2 (wk [0,1] (tO rfl (ts Taken.lo) (tO rfl (Qs0 (cv (Q10 0 rfl rfl) .nil)) .nil)) (sl lw (s1 (sv (Q10 1 rfl rfl) (sv (Q51 .nil (cv (Q10 1 rfl rfl) .nil)) (sl lw (s1 (sv (Qd0 (I_eq (wr omA)) lx) .nil)))))))) omA ⟨foll hR (congrArg (fun p:Taken=>Qy3 p) (cf h11 rfl)),by exact omA,by first|(((try dsimp only);exact QI1 (by assumption)))|first|(((try dsimp only);exact QI1 hx))|first|(exact Qt1 _)|exact exA⟩
   ·rw [Qg0 (l:=s.jobs) (j:=i1) (geA h4)] at hR;replace hR:Qy3 c2=R:=fo2 (fun p:Taken=>Qy3 p) (c2) hR rfl;obtain rfl:=foll hR rfl;exact Q00 lw sr
 ·have hl3:(Qr0 s).length=0:=Decidable.byContradiction fun hn=>absurd (hb3 hn) (by decide);refine ai (fun _=>?_) (fun h=>nomatch h);obtain rfl:=foll hR (QD9 hl3);exact Q00 lw (QT0)
theorem room_Room_len (s:State) (ex:List Int):(QF0 s ex).length<=4294967296:=by
 have g1:∀ (l:List Book) (i:Nat) (t:Taken),t.p.length<=4294967296->(Qn2 l i t).p.length<=4294967296:=by
  intro l
  induction l with
  | nil=>intro i t h;exact h
  | cons x r ih=>intro i t h;rw [Qn2];exact ih _ _ (QI1 h)
 have g2:∀ (l:List Job) (i:Nat) (t:Taken),t.p.length<=4294967296->(Q72 ex l i t).p.length<=4294967296:=by
  intro l
  induction l with
  | nil=>intro i t h;exact h
  | cons x r ih =>
   intro i t h
   rw [Q72]
   repeat' first|exact ih _ _ h|exact ih _ _ (QI1 h)|(rw [Bool.cond_eq_ite];split)
 exact g2 _ _ _ (g1 _ _ _ (Qt1 s))
end Go.Proofs.YtiiaifgeekdpaaaGreatDoor
namespace Go.Proofs.YtiiaifgeekdpaaaGreatDoor
set_option linter.unusedSimpArgs false
set_option linter.unusedVariables false
open Go.Fw
set_option maxRecDepth 20000
set_option maxHeartbeats 4000000
attribute [local irreducible] ACalls AMoves
def Q81 :Bool:=((((((((Qt0 law20_two)==0)&&((Qt0 State.zero)==141))&&(((Qr0 law20_two).length:Int)==2))&&(((Qr0 law20_two).getD 0 Step.zero).free==1))&&((((Qr0 law20_two).getD 1 Step.zero).at_==76)&&(((Qr0 law20_two).getD 1 Step.zero).free==2)))&&((Q24 law20_two 0)==76))&&(((QF0 law20_two []).length:Int)==2))
theorem two_sz:law20_two.sz:=⟨by decide,by decide,fun y hy=>by rw [List.mem_singleton.1 hy];exact ⟨by decide,by decide,by decide,(by decide:(1:Nat)<=4294967296),by decide⟩,by decide,by decide,by decide,fun _ h=>absurd h List.not_mem_nil⟩
theorem find_sz {l:List Job} (id:Int) (h:∀ y ∈ l,y.sz):(Q32 l id).1.sz:=by
 unfold Q32
 repeat' first|exact Job.szz _|exact Qk6 (fun y hy=>h y (List.mem_of_mem_take (List.mem_of_mem_drop hy))) (Job.szz _)|(rw [Bool.cond_eq_ite];split)
theorem rmA {P:Prop} (h:P:=by first|(have q:=h2;simp at q;first|exact Qi2 q|exact Qi2 q.1|exact Qi2 q.1.1|exact Qi2 q.1.1.1|exact Qoa q.2|omega)|(with_reducible exact Qt1 _)|(with_reducible exact ref20_Busy_len _)|(with_reducible exact room_Room_len _ _)|(with_reducible exact ref20_Room_len _ _)|(have q:=hg;simp at q;exact Qi2 q)|(have q:=h2;simp at q;exact ⟨(Qi2 q.1.1.1).2.1,(Qi2 q.1.1.1).2.2.1⟩)|(have q:=h2;simp at q;have q2:=(Qi2 q.1.1.1).2.2.1;with_reducible exact find_sz _ q2)|(exact hp0)|(exact hp0.1)|exact szA):P:=h
theorem Qi1 :∀ objs,AGives Tryz.prog 8 [] objs (Bo Q81):=by
 generalize hR:Q81=R;refine ga .nil lx (kp 2 []) Tryz.func8 ?_;refine us (Qn7 _) ?_;refine us (QL3 law20_two (by first|(exact two_sz)|first|(exact State.szz _)|exact szA) _) ?_;refine us (Qn7 _) ?_;refine us (Qc3 law20_two (by first|(exact two_sz)|first|(exact State.szz _)|exact szA) _) ?_;(first|apply u2|apply u3|apply u4|apply us);exact AGives.as2 (Qc3 State.zero (by first|(exact two_sz)|first|(exact State.szz _)|exact szA) _) (av (as_agg (a1 (av (Qj8) (av (Qj8) (av (Qj8) (av (Qj8) (av (Qj8) (a1 (a1 .nil))))))))) .nil);refine ai gkA ?_;refine ai gkA ?_;refine ai (fun _=>(by kernel_rfl:eqOK _ _=true)) ?_;(first|apply u2|apply u3|apply u4|apply us);exact Qn7 _;(first|apply u2|apply u3|apply u4|apply us);exact QT5 law20_two 0 (by first|(exact two_sz)|first|(exact State.szz _)|exact szA) _;(first|apply u2|apply u3|apply u4|apply us);exact Qn7 _;(first|apply u2|apply u3|apply u4|apply us);exact AGives.as2 (QQ4 law20_two [] (by first|(exact two_sz)|first|(exact State.szz _)|exact szA) (by first|(exact two_sz)|first|(exact State.szz _)|exact szA) _) (a1 (av (Qj8) .nil));obtain rfl:=foll hR rfl;exact Q00 lx sr
end Go.Proofs.YtiiaifgeekdpaaaGreatDoor
namespace Go.Proofs.YtiiaifgeekdpaaaGreatDoor
set_option linter.unusedSimpArgs false
set_option linter.unusedVariables false
open Go.Fw
set_option maxRecDepth 20000
set_option maxHeartbeats 4000000
attribute [local irreducible] ACalls AMoves
def Qz5 (s:State) (n:Int):Bool:=bif (!(Q83 s)) then Q81 else (((((Qt0 s)==(Qu1 s))&&((Q24 s n)==(Qs6 s n)))&&(Q96 (Qr0 s) (Q14 s)))&&Q81)
theorem QSa (s:State) (n:Int) (hs0:s.szM):∀ objs,AGives Tryz.prog 3 [State.a s,I n] objs (Bo (Qz5 s n)):=by
 generalize hR:Qz5 s n=R;refine ga (.cons (State.low _ _) (l1 .nil)) lx (kp 5 [7]) Tryz.func3 ?_;have hk0:=hs0;obtain ⟨z3,z4,z5,z6,z7,z8,z9⟩:=hs0;refine us (Qm7 s (by first|(exact rmA)|exact szA) _) ?_;refine ai (fun h1=>?_) (fun h2=>?_)
 ·refine us (Qi1 _) ?_;obtain rfl:=foll hR (ct h1 rfl);exact Q00 lx sr
 ·refine dchk (by kernel_rfl) ?_;(first|apply u2|apply u3|apply u4|apply us);exact Qc3 s (by first|(exact rmA)|exact szA) _;(first|apply u2|apply u3|apply u4|apply us);exact Qh5 s (by first|(exact rmA)|exact szA) _;(first|apply u3g|apply u4g);exact fun hg=>QT5 s n (by first|(exact rmA)|exact szA) _;(first|apply u3g|apply u4g);exact fun hg=>QA9 s n (by first|(exact rmA)|exact szA) _;(first|apply u3g|apply u4g);exact fun hg=>QL3 s (by first|(exact rmA)|exact szA) _;(first|apply u3g|apply u4g);exact fun hg=>QDa s (by first|(exact rmA)|exact szA) _;(first|apply u3g|apply u4g);exact fun hg=>QB6 (Qr0 s) (Q14 s) (by first|(exact rmA)|exact szA) (by first|(exact rmA)|exact szA) _;(first|apply u3g|apply u4g);exact fun hg=>Qi1 _;(repeat ((first|refine ai rfl ?_|refine ai (fun _=>rfl) ?_|refine ai (fun _=>Qc3 s (by first|(exact rmA)|exact szA) _) ?_|refine ai (fun _=>Qh5 s (by first|(exact rmA)|exact szA) _) ?_|refine ai (fun _=>QT5 s n (by first|(exact rmA)|exact szA) _) ?_|refine ai (fun _=>QA9 s n (by first|(exact rmA)|exact szA) _) ?_|refine ai (fun _=>QL3 s (by first|(exact rmA)|exact szA) _) ?_|refine ai (fun _=>QDa s (by first|(exact rmA)|exact szA) _) ?_|refine ai (fun _=>QB6 (Qr0 s) (Q14 s) (by first|(exact rmA)|exact szA) (by first|(exact rmA)|exact szA) _) ?_|refine ai (fun _=>Qi1 _) ?_)));obtain rfl:=foll hR (cf h2 rfl);exact Q00 lx sr
def QA5 (s:State) (except:List Int) (j:Job):Bool:=bif (((!(Q83 s))||(decide ((except.length:Int) > 100)))||(!(QP5 j))) then Q81 else ((((((Q96 (QF0 s except) (Qs4 s except))&&((QB0 j).1==(Qe2 j).1))&&((QB0 j).2.1==(Qe2 j).2.1))&&((QB0 j).2.2.1==(Qe2 j).2.2.1))&&((QB0 j).2.2.2==(Qe2 j).2.2.2))&&Q81)
theorem QTa (s:State) (except:List Int) (j:Job) (hs0:s.szM) (hs1:except.length<=9223372036854775807) (hs2:j.szM):∀ objs,AGives Tryz.prog 4 [State.a s,ints except,Job.a j] objs (Bo (QA5 s except j)):=by
 generalize hR:QA5 s except j=R;refine ga (.cons (State.low _ _) (.cons lw (.cons (Job.low _ _) .nil))) lx (kp 15 [27]) Tryz.func4 ?_;have hk0:=hs0;obtain ⟨z3,z4,z5,z6,z7,z8,z9⟩:=hs0;have hk1:=hs1;obtain z10:except.length<=9223372036854775807:=hs1;have hk2:=hs2;obtain ⟨z11,z12,z13,z14,z15⟩:j.name.size<=9223372036854775807∧j.user.size<=9223372036854775807∧j.account.size<=9223372036854775807∧(j.shape.alts.length<=9223372036854775807)∧j.after.length<=9223372036854775807:=hs2;refine us (Qm7 s (by first|(exact rmA)|exact szA) _) ?_;(first|apply u3g|apply u4g);exact fun hg=>QGb j _;refine ai (fun h1=>?_) (fun h2=>?_)
 ·refine us (Qi1 _) ?_;obtain rfl:=foll hR (ct h1 rfl);exact Q00 lx sr
 ·refine us (Q48 j (by first|(exact rmA)|exact szA) _) ?_;refine us (ref20_Claim_c j (by first|(exact rmA)|exact szA) _) ?_;refine dchk (by kernel_rfl) ?_;(first|apply u2|apply u3|apply u4|apply us);exact QQ4 s except (by first|(exact rmA)|exact szA) (by first|(exact rmA)|exact szA) _;(first|apply u2|apply u3|apply u4|apply us);exact QEa s except (by first|(exact rmA)|exact szA) (by first|(exact rmA)|exact szA) _;(first|apply u2|apply u3|apply u4|apply us);exact QB6 (QF0 s except) (Qs4 s except) (by first|(exact rmA)|exact szA) (by first|(exact rmA)|exact szA) _;(first|apply u3g|apply u4g);exact fun hg=>Qi1 _;(repeat ((first|refine ai rfl ?_|refine ai (fun _=>rfl) ?_|refine ai (fun _=>QQ4 s except (by first|(exact rmA)|exact szA) (by first|(exact rmA)|exact szA) _) ?_|refine ai (fun _=>QEa s except (by first|(exact rmA)|exact szA) (by first|(exact rmA)|exact szA) _) ?_|refine ai (fun _=>QB6 (QF0 s except) (Qs4 s except) (by first|(exact rmA)|exact szA) (by first|(exact rmA)|exact szA) _) ?_|refine ai (fun _=>Qi1 _) ?_)));obtain rfl:=foll hR (cf h2 rfl);exact Q00 lx sr
def Q42 (s:State):List Node->Nat->Bool
 | [],_=>(((Qj1 (Qr0 s) s.now)==(QY0 (Qp5 s.nodes)))&&Q81)
 | x_ :: r,i=>bif ((((x_.state != 0)&&(x_.state != 4))&&(!x_.drain))&&(decide ((Q24 s (i:Int))<=s.now))) then Q81 else Q42 s r (i+1)
def Q26 (s:State):Bool:=bif ((!(Q83 s))||((Qt0 s)!=0)) then ((((Qr0 s).length:Int)==0)||(((Qt0 s)==0)&&Q81)) else Q42 s s.nodes 0
theorem law20_RoomNow_c (s:State) (hs0:s.szM) (hp0:s.sz):∀ objs,AGives Tryz.prog 5 [State.a s] objs (Bo (Q26 s)):=by
 generalize hR:Q26 s=R;refine ga (.cons (State.low _ _) .nil) lx (kp 5 [12,29,57]) Tryz.func5 ?_;have hk0:=hs0;obtain ⟨z7,z8,z9,z10,z11,z12,z13⟩:=hs0;refine us (Qm7 s (by first|(exact rmA)|exact szA) _) ?_;(first|apply u3g|apply u4g);exact fun hg=>Qc3 s (by first|(exact rmA)|exact szA) _;refine ai (fun h1=>?_) (fun h2=>?_)
 ·refine us (QL3 s (by first|(exact rmA)|exact szA) _) ?_;(first|apply u3g|apply u4g);exact fun hg=>Qc3 s (by first|(exact rmA)|exact szA) _;(first|apply u3g|apply u4g);exact fun hg=>Qi1 _;obtain rfl:=foll hR (ct h1 rfl);exact Q00 lx sr
 ·refine Qh0 (fun (i:Nat)=>Q42 s (List.drop i s.nodes) i=R∧i<=s.nodes.length) (fun i=>s.nodes.length - i) (fun i=>[(1,AVal.ptr 0 0 8 0 0),(2,Bo false),(3,I (i:Int))]) (fun i=>[(0,AObj.row 28 8 [[I s.now,nodeL s.nodes,jobL s.jobs,Qt6 s.resizes,bookL s.books,Qa7 s.ledger,I s.nextJob,I s.nextBook]])]) 0 (wk [0] (tO rfl (ts State.lo) .nil) (sv (Q10 0 rfl rfl) (s1 (s1 .nil)))) ⟨foll hR (cf h2 rfl),by exact omA⟩ ?_;clear hR;rintro i ⟨hR,hj⟩;(try dsimp only at hR hj);refine ai (fun h3=>?_) (fun h4=>?_)
  ·have hlt:=ltA h3;rw [Qf0 Node.zero hlt] at hR;refine ai gkA ?_;refine dchk (by kernel_rfl) ?_;(first|apply u3g|apply u4g);exact fun hg=>QT5 s (i:Int) (by first|(exact rmA)|exact szA) _;(repeat ((first|refine ai rfl ?_|refine ai (fun _=>rfl) ?_|refine ai (fun _=>QT5 s (i:Int) (by first|(exact rmA)|exact szA) _) ?_)));refine ai (fun h5=>?_) (fun h6=>?_)
   ·refine us (Qi1 _) ?_;obtain rfl:=foll hR (ct h5 rfl);exact Q00 lx sr
   ·exact Ql0 (i+1) (wk [0] (tO rfl (ts State.lo) .nil) (sv (Q10 0 rfl rfl) (s1 (sv (Qd0 (I_eq (wr omA)) lx) .nil)))) omA ⟨foll hR (cf h6 rfl),by exact omA⟩
  ·rw [Qg0 (l:=s.nodes) (j:=i) (geA h4)] at hR;refine dchk (by kernel_rfl) ?_;(first|apply u2|apply u3|apply u4|apply us);exact QL3 s (by first|(exact rmA)|exact szA) _;(first|apply u2|apply u3|apply u4|apply us);exact Qw1 (Qr0 s) s.now (by first|(exact rmA)|exact szA) _;(first|apply u2|apply u3|apply u4|apply us);exact Qla s.nodes (by first|(exact rmA)|exact szA) _;(first|apply u2|apply u3|apply u4|apply us);exact Qb4 (Qp5 s.nodes) _;(first|apply u3g|apply u4g);exact fun hg=>Qi1 _;(repeat ((first|refine ai rfl ?_|refine ai (fun _=>rfl) ?_|refine ai (fun _=>QL3 s (by first|(exact rmA)|exact szA) _) ?_|refine ai (fun _=>Qw1 (Qr0 s) s.now (by first|(exact rmA)|exact szA) _) ?_|refine ai (fun _=>Qla s.nodes (by first|(exact rmA)|exact szA) _) ?_|refine ai (fun _=>Qb4 (Qp5 s.nodes) _) ?_|refine ai (fun _=>Qi1 _) ?_)));obtain rfl:=foll hR rfl;exact Q00 lx sr
def QB5 (s:State) (id_:Int) (t:Int):Bool:=bif ((((!(Q83 s))||((Qt0 s)!=0))||(decide (t<0)))||(decide (t > 1000000))) then Q81 else bif (Q32 s.jobs id_).2 then bif (((QB0 ((Q32 s.jobs id_).1)).2.2.2&&(decide ((QB0 ((Q32 s.jobs id_).1)).1<=t)))&&(decide (t<(w64 ((QB0 ((Q32 s.jobs id_).1)).1+(QB0 ((Q32 s.jobs id_).1)).2.1))))) then (((decide ((Qj1 (QF0 s []) t)<=(Qj1 (Qr0 s) t)))&&((Qj1 (QF0 s ([id_]:List Int)) t)==(w64 ((Qj1 (QF0 s []) t)+(QB0 ((Q32 s.jobs id_).1)).2.2.1))))&&Q81) else (((decide ((Qj1 (QF0 s []) t)<=(Qj1 (Qr0 s) t)))&&((Qj1 (QF0 s ([id_]:List Int)) t)==(w64 ((Qj1 (QF0 s []) t)+0))))&&Q81) else (((decide ((Qj1 (QF0 s []) t)<=(Qj1 (Qr0 s) t)))&&((Qj1 (QF0 s ([id_]:List Int)) t)==(w64 ((Qj1 (QF0 s []) t)+0))))&&Q81)
theorem QUa (s:State) (id_:Int) (t:Int) (hs0:s.szM):∀ objs,AGives Tryz.prog 6 [State.a s,I id_,I t] objs (Bo (QB5 s id_ t)):=by
 generalize hR:QB5 s id_ t=R;refine ga (.cons (State.low _ _) (l1 (l1 .nil))) lx (kp 17 [32,49,69]) Tryz.func6 ?_;have hk0:=hs0;obtain ⟨z7,z8,z9,z10,z11,z12,z13⟩:=hs0;refine us (Qm7 s (by first|(exact rmA)|exact szA) _) ?_;(first|apply u3g|apply u4g);exact fun hg=>Qc3 s (by first|(exact rmA)|exact szA) _;refine ai (fun h1=>?_) (fun h2=>?_)
 ·refine us (Qi1 _) ?_;obtain rfl:=foll hR (ct h1 rfl);exact Q00 lx sr
 ·refine dchk (by kernel_rfl) ?_;(first|apply u2|apply u3|apply u4|apply us);exact AGives.as2 (QQ4 s [] (by first|(exact rmA)|exact szA) (by first|(exact rmA)|exact szA) _) (a1 (av (Qj8) .nil));(first|apply u2|apply u3|apply u4|apply us);exact AGives.as2 (QQ4 s ([id_]:List Int) (by first|(exact rmA)|exact szA) (by first|(exact rmA)|exact szA) _) (a1 (av (Q75 (c:=(fun q_=>[I q_])) (d:=0) ([id_]:List Int) rfl) .nil));(first|apply u2|apply u3|apply u4|apply us);exact QL3 s (by first|(exact rmA)|exact szA) _;(repeat ((first|refine ai rfl ?_|refine ai (fun _=>rfl) ?_|refine ai (fun _=>AGives.as2 (QQ4 s [] (by first|(exact rmA)|exact szA) (by first|(exact rmA)|exact szA) _) (a1 (av (Qj8) .nil))) ?_|refine ai (fun _=>AGives.as2 (QQ4 s ([id_]:List Int) (by first|(exact rmA)|exact szA) (by first|(exact rmA)|exact szA) _) (a1 (av (Q75 (c:=(fun q_=>[I q_])) (d:=0) ([id_]:List Int) rfl) .nil))) ?_|refine ai (fun _=>QL3 s (by first|(exact rmA)|exact szA) _) ?_)));refine us (table_Find_c s.jobs id_ (by first|(exact rmA)|exact szA) _) ?_;refine ai (fun h3=>?_) (fun h4=>?_)
  ·refine us (Q48 ((Q32 s.jobs id_).1) (by first|(exact rmA)|exact szA) _) ?_;refine ai (fun h5=>?_) (fun h6=>?_)
   ·refine us (Qw1 (QF0 s []) t (by first|(exact rmA)|exact szA) _) ?_;refine us (Qw1 (Qr0 s) t (by first|(exact rmA)|exact szA) _) ?_;(first|apply u3g|apply u4g);exact fun hg=>Qw1 (QF0 s ([id_]:List Int)) t (by first|(exact rmA)|exact szA) _;(first|apply u3g|apply u4g);exact fun hg=>Qw1 (QF0 s []) t (by first|(exact rmA)|exact szA) _;(first|apply u3g|apply u4g);exact fun hg=>Qi1 _;obtain rfl:=foll hR (cf h2 (ct h3 (ct h5 rfl)));exact Q00 lx sr
   ·refine us (Qw1 (QF0 s []) t (by first|(exact rmA)|exact szA) _) ?_;refine us (Qw1 (Qr0 s) t (by first|(exact rmA)|exact szA) _) ?_;(first|apply u3g|apply u4g);exact fun hg=>Qw1 (QF0 s ([id_]:List Int)) t (by first|(exact rmA)|exact szA) _;(first|apply u3g|apply u4g);exact fun hg=>Qw1 (QF0 s []) t (by first|(exact rmA)|exact szA) _;(first|apply u3g|apply u4g);exact fun hg=>Qi1 _;obtain rfl:=foll hR (cf h2 (ct h3 (cf h6 rfl)));exact Q00 lx sr
  ·refine us (Qw1 (QF0 s []) t (by first|(exact rmA)|exact szA) _) ?_;refine us (Qw1 (Qr0 s) t (by first|(exact rmA)|exact szA) _) ?_;(first|apply u3g|apply u4g);exact fun hg=>Qw1 (QF0 s ([id_]:List Int)) t (by first|(exact rmA)|exact szA) _;(first|apply u3g|apply u4g);exact fun hg=>Qw1 (QF0 s []) t (by first|(exact rmA)|exact szA) _;(first|apply u3g|apply u4g);exact fun hg=>Qi1 _;obtain rfl:=foll hR (cf h2 (cf h4 rfl));exact Q00 lx sr
end Go.Proofs.YtiiaifgeekdpaaaGreatDoor
