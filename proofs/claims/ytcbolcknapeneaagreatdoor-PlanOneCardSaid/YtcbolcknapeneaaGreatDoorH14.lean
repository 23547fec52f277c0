/-
  Contracts of functions, printed by a program of this repo (wip/dec). No condition beyond those that stand in each.
-/
import Derived.Test.YtcbolcknapeneaaGreatDoorH13
import Derived.Test.YtcbolcknapeneaaGreatDoorH8
import Derived.Test.YtcbolcknapeneaaGreatDoorProg
namespace Go.Proofs.YtcbolcknapeneaaGreatDoor
set_option linter.unusedSimpArgs false
set_option linter.unusedVariables false
open Go.Fw
set_option maxRecDepth 20000
set_option maxHeartbeats 4000000
attribute [local irreducible] ACalls AMoves
def Qv1 (s:State):Int:=bif (((((decide (s.now<0))||(decide (s.now > 1000000)))||((Qu2 s.nodes)!=0))||((QC1 s.jobs)!=0))||((Qj6 s.books)!=0)) then 141 else 0
theorem QDc (s:State) (hs0:s.sz):GV 59 [State.a s] (I (Qv1 s)):=by
 generalize hR:Qv1 s=R;refine ga (.cons (State.low _ _) .nil) lx (kp 3 [28]) Tryz.func59 ?_;have hk0:=hs0;obtain ⟨z3,z4,z5,z6,z7,z8,z9⟩:=hs0;(first|apply u2|apply u3|apply u4|apply us);exact QWa s.nodes szA _;(first|apply u2|apply u3|apply u4|apply us);exact Qd7 s.jobs szA _;(first|apply u2|apply u3|apply u4|apply us);exact book_Check_c s.books szA _;refine ai (fun h1=>?_) (fun h2=>?_)
 ·obtain rfl:=foll hR (ct h1 rfl);exact Q00 lx sr
 ·obtain rfl:=foll hR (cf h2 rfl);exact Q00 lx sr
theorem QA5 {s:State} (h:((Qv1 s)!=0)=false):1<=s.nodes.length∧s.nodes.length<=48:=by
 have hf:Qu2 s.nodes=0:=by
  simp only [Qv1] at h
  revert h
  cases h2:(Qu2 s.nodes != 0) with
  | true=>simp
  | false=>intro _;simpa using h2
 simp only [Qu2] at hf
 revert hf
 cases h2:((decide ((s.nodes.length:Int)<1))||(decide ((s.nodes.length:Int) > 48))) with
 | true=>simp
 | false=>intro _;simp at h2;omega
theorem busy_ne {order:List Int} {i:Nat} {c:List (Int × Int)} {k:Int} (h:order ≠ []∨(i=0∧c=[])) (hg:(((getM k c).getD 0)==0)=false):order ≠ []:=by
 rcases h with h|⟨_,rfl⟩
 ·exact h
 ·simp [getM] at hg
theorem busy_order {s:State} {order:List Int} {i:Nat} {c:List (Int × Int)} (h:((Qv1 s)!=0)=false) (ho:order ≠ []∨(i=0∧c=[])) (hi:decide ((i:Int)<(s.nodes.length:Int))=false):order ≠ []:=by
 rcases ho with ho|⟨rfl,_⟩
 ·exact ho
 ·have:=(QA5 h).1
  have:=of_decide_eq_false hi
  omega
def Qx4 (j:Job) (jobs:List Job) (ids:List Int) (pr:Job × Int) (c:List Step):List Job->Nat->List Step × List Job × List Int
 | [],_=>(c,jobs,ids)
 | _ :: r,i=>bif ((jobs.getD i Job.zero).id==j.id) then (c,(jobs.set i pr.1),(ids++([j.id]:List Int))) else Qx4 j jobs ids pr c r (i+1)
def Qq3 (j:Job) (jobs:List Job) (ids:List Int) (pr:Job × Int) (c:List Step):List Step × List Job × List Int:=Qx4 j jobs ids pr c jobs 0
def QO2 (j:Job) (choice:Int) (at_:Int) (left:List Step) (jobs:List Job) (ids:List Int):List Step × List Job × List Int:=(fun pr:Job × Int=>bif (pr.2 != 0) then (left,jobs,ids) else (fun cl:Int × Int × Int × Bool=>(fun tk:(List Step) × Int=>bif (tk.2==0) then Qq3 j jobs ids pr tk.1 else Qq3 j jobs ids pr left) (QR7 left cl.1 cl.2.1 cl.2.2.1)) (Q30 pr.1)) (Qx1 j at_ choice)
theorem fresh_next {j:Job} {jobs:List Job} {i:Nat} (hlt:i<jobs.length) (h:((jobs.getD i Job.zero).id==j.id)=false) (hI:∃ x ∈ List.drop i jobs,x.id=j.id):∃ x ∈ List.drop (i+1) jobs,x.id=j.id:=by
 obtain ⟨x,hx,e⟩:=hI
 rw [Q90 Job.zero hlt] at hx
 rcases List.mem_cons.1 hx with h2|h2
 ·rw [← h2,e,beq_self_eq_true] at h
  cases h
 ·exact ⟨x,h2,e⟩
theorem Q4e (j:Job) (choice:Int) (at_:Int) (left:List Step) (jobs:List Job) (ids:List Int) (hs0:j.sz) (hs1:left.length<=4294967296) (hs2:jobs.length<=4294967296∧(∀ y ∈ jobs,y.sz)) (hs3:ids.length<=4294967296) (hp0:∃ x ∈ jobs,x.id=j.id):AMoves Tryz.prog 62 [Job.a j,I choice,I at_,AVal.ptr 0 0 1 0 0,AVal.ptr 1 0 1 0 0,AVal.ptr 2 0 1 0 0] [(0,AObj.row 85 1 [[stepL left]]),(0,AObj.row 23 1 [[AVal.own 3 0 20 0 jobs.length]]),(0,AObj.row 44 1 [[AVal.own 4 0 1 0 ids.length]]),(0,AObj.row 35 20 (jobs.map Job.cells)),(0,AObj.row 3 1 (ids.map (fun q_=>[I q_])))] 3 (AVal.tup []) [(0,AObj.row 85 1 [[stepL ((QO2 j choice at_ left jobs ids).1)]]),(0,AObj.row 23 1 [[AVal.own 3 0 20 0 ((QO2 j choice at_ left jobs ids).2.1).length]]),(0,AObj.row 44 1 [[AVal.own 4 0 1 0 ((QO2 j choice at_ left jobs ids).2.2).length]]),(0,AObj.row 35 20 ((QO2 j choice at_ left jobs ids).2.1.map Job.cells)),(0,AObj.row 3 1 ((QO2 j choice at_ left jobs ids).2.2.map (fun q_=>[I q_])))]:=by
 generalize hR:QO2 j choice at_ left jobs ids=R;refine mo (kj [1000007] 18 [26,43]) Tryz.func62 ?_;obtain ⟨z14,z15,z16,z17,z18⟩:=Job.zz hs0;have hk1:=hs1;obtain z19:left.length<=4294967296:=hs1;obtain ⟨z20,z21⟩:=id hs2;have hk3:=hs3;obtain z22:ids.length<=4294967296:=hs3;refine us (job_Promise_c j at_ choice szA _) ?_;generalize hvpr:Qx1 j at_ choice=pr;(have hpr:pr.1.sz:=by rw [← hvpr];exact Q8a _ _ hs0);refine ai (fun h1=>?_) (fun h2=>?_)
 ·obtain rfl:=foll hR ((by subst hvpr;exact ct h1 rfl));exact rq (tt [0,1,2,3,4] (tO rfl (ts (lv lw LowL.nil)) (tO rfl (Qd0 (cv (to 3 lnA) .nil)) (tO rfl (Qd0 (cv (to 4 lnA) .nil)) (tO rfl (tl eqA) (tO rfl (tl eqA) .nil))))) t1)
 ·refine us (QC9 pr.1 szA _) ?_;generalize hvcl:Q30 pr.1=cl;refine QY0 (fun (c:List Step)=>Qq3 j jobs ids pr c=R) (fun c=>[(4,AVal.ptr 1 0 1 0 0),(5,AVal.ptr 2 0 1 0 0),(6,AVal.ptr 5 0 20 0 0),(9,AVal.ptr 6 0 20 0 0)]) (fun c=>[(0,AObj.row 85 1 [[stepL c]]),(0,AObj.row 23 1 [[AVal.own 3 0 20 0 jobs.length]]),(0,AObj.row 44 1 [[AVal.own 4 0 1 0 ids.length]]),(0,AObj.row 35 20 (jobs.map Job.cells)),(0,AObj.row 3 1 (ids.map (fun q_=>[I q_]))),(0,AObj.row 35 20 [[I j.id,Sg j.name,Sg j.user,Sg j.account,I j.shape.kind,altL j.shape.alts,I j.shape.min,I j.shape.max,I j.shape.wall,I j.prio,depL j.after,I j.state,Bo j.held,I j.born,I j.promise,I j.choice,I j.start,I j.limit,U j.nodes,I j.used]]),(0,AObj.row 35 20 [[I pr.1.id,Sg pr.1.name,Sg pr.1.user,Sg pr.1.account,I pr.1.shape.kind,altL pr.1.shape.alts,I pr.1.shape.min,I pr.1.shape.max,I pr.1.shape.wall,I pr.1.prio,depL pr.1.after,I pr.1.state,Bo pr.1.held,I pr.1.born,I pr.1.promise,I pr.1.choice,I pr.1.start,I pr.1.limit,U pr.1.nodes,I pr.1.used]])]) ?_ ?_
  ·clear hR;rintro c hR;(try dsimp only at hR);refine ACalls.of_cwp (fun _=>true) Tryz.func65 rfl rfl ?_;refine Qc0 (fun (i:Nat)=>Qx4 j jobs ids pr c (List.drop i jobs) i=R∧i<=jobs.length ∧ ∃ x ∈ List.drop i jobs,x.id=j.id) (fun i=>jobs.length - i) (fun i=>[(0,AVal.own 3 0 20 0 jobs.length),(1,AVal.fn (.func 66) [] [AVal.ptr 5 0 20 0 0]),(4,I 0),(7,I (jobs.length:Int)),(8,I (i:Int))]) (fun i=>[(0,AObj.row 85 1 [[stepL c]]),(0,AObj.row 23 1 [[AVal.own 3 0 20 0 jobs.length]]),(0,AObj.row 44 1 [[AVal.own 4 0 1 0 ids.length]]),(0,AObj.row 35 20 (jobs.map Job.cells)),(0,AObj.row 3 1 (ids.map (fun q_=>[I q_]))),(0,AObj.row 35 20 [[I j.id,Sg j.name,Sg j.user,Sg j.account,I j.shape.kind,altL j.shape.alts,I j.shape.min,I j.shape.max,I j.shape.wall,I j.prio,depL j.after,I j.state,Bo j.held,I j.born,I j.promise,I j.choice,I j.start,I j.limit,U j.nodes,I j.used]]),(0,AObj.row 35 20 [[I pr.1.id,Sg pr.1.name,Sg pr.1.user,Sg pr.1.account,I pr.1.shape.kind,altL pr.1.shape.alts,I pr.1.shape.min,I pr.1.shape.max,I pr.1.shape.wall,I pr.1.prio,depL pr.1.after,I pr.1.state,Bo pr.1.held,I pr.1.born,I pr.1.promise,I pr.1.choice,I pr.1.start,I pr.1.limit,U pr.1.nodes,I pr.1.used]])]) 0 (wk [0,1,2,3,4,5,6] (tO rfl (ts (lv lw LowL.nil)) (tO rfl (Qd0 (cv (to 3 lnA) .nil)) (tO rfl (Qd0 (cv (to 4 lnA) .nil)) (tO rfl (tl eqA) (tO rfl (tl eqA) (tO rfl (ts Job.lo) (tO rfl (ts Job.lo) .nil))))))) (sv (to 3 lnA) (sv (QH0 .nil (cv (Q10 5 rfl rfl) .nil)) (s1 (s1 (s1 .nil)))))) ⟨foll hR rfl,by exact omA,hp0⟩ ?_;clear hR;rintro i ⟨hR,hj,hI⟩;(try dsimp only at hR hj);refine ai (fun h3=>?_) (fun h4=>?_)
   ·have hlt:=ltA h3;rw [Q90 Job.zero hlt] at hR;have hxz:(jobs.getD i Job.zero).sz:=Qy0 (by first|assumption|grind) (Job.szz _);have hkz:=hxz;obtain ⟨z5,z6,z7,z8,z9⟩:=Job.zz hxz;refine ai gkA ?_;refine ⟨_,QL1 rfl rfl rfl (QV1 Job.zero i (by first|rfl|exact Nat.zero_add _|omega) ckA) rfl,?_⟩;refine ACalls.of_cwp (fun _=>true) Tryz.func66 rfl rfl ?_;refine ⟨_,_,Told.refl,?_⟩;refine ai (fun h10=>?_) (fun h11=>?_)
    ·refine ⟨_,_,Told.refl,?_⟩;refine ai gkA ?_;refine ⟨_,QA3 rfl rfl rfl rfl (QV1 Job.zero i (by first|rfl|exact Nat.zero_add _|omega) ckA) rfl rfl (set_map i pr.1 (by first|rfl|exact Nat.zero_add _|omega) rfl),?_⟩;refine Or.inl ?_;(first|refine ⟨Qa2 8 rfl lnA apA,?_⟩|refine ⟨Qd1 8 rfl apA,?_⟩);obtain rfl:=foll hR (ct h10 rfl);exact rq (tt [0,1,2,3,4] (tO rfl (ts (lv lw LowL.nil)) (tO rfl (Qd0 (cv (to 3 lnA) .nil)) (tO rfl (Qd0 (cv (to 4 lnA) .nil)) (tO rfl (tl eqA) (tO rfl (tl eqA) .nil))))) t1)
    ·exact Qi0 (i+1) (wk [0,1,2,3,4,5,6] (tO rfl (ts (lv lw LowL.nil)) (tO rfl (Qd0 (cv (to 3 lnA) .nil)) (tO rfl (Qd0 (cv (to 4 lnA) .nil)) (tO rfl (tl eqA) (tO rfl (tl eqA) (tO rfl (ts Job.lo) (tO rfl (ts Job.lo) .nil))))))) (sv (to 3 lnA) (sv (QH0 .nil (cv (Q10 5 rfl rfl) .nil)) (s1 (s1 (sv (Q80 (I_eq (wr omA)) lx) .nil)))))) omA ⟨foll hR (cf h11 rfl),by exact omA,fresh_next hlt h11 hI⟩
   ·obtain ⟨x,hx,_⟩:=hI;rw [List.drop_eq_nil_of_le (by have:=of_decide_eq_false h4;omega)] at hx;exact absurd hx List.not_mem_nil
  ·refine us (fit_Take_c left cl.1 cl.2.1 cl.2.2.1 szA _) ?_;generalize hvtk:QR7 left cl.1 cl.2.1 cl.2.2.1=tk;refine ai (fun h12=>?_) (fun h13=>?_)
   ·exact Q70 tk.1 (wk [0,1,2,3,4,5,6] (tO rfl (ts (lv lw LowL.nil)) (tO rfl (Qd0 (cv (to 3 lnA) .nil)) (tO rfl (Qd0 (cv (to 4 lnA) .nil)) (tO rfl (tl eqA) (tO rfl (tl eqA) (tO rfl (ts Job.lo) (tO rfl (ts Job.lo) .nil))))))) (sv (Q10 1 rfl rfl) (sv (Q10 2 rfl rfl) (sv (Q10 5 rfl rfl) (sv (Q10 6 rfl rfl) .nil))))) (foll hR ((by subst hvpr;exact cf h2 (by subst hvcl;exact (by subst hvtk;exact ct h12 rfl)))))
   ·exact Q70 left (wk [0,1,2,3,4,5,6] (tO rfl (ts (lv lw LowL.nil)) (tO rfl (Qd0 (cv (to 3 lnA) .nil)) (tO rfl (Qd0 (cv (to 4 lnA) .nil)) (tO rfl (tl eqA) (tO rfl (tl eqA) (tO rfl (ts Job.lo) (tO rfl (ts Job.lo) .nil))))))) (sv (Q10 1 rfl rfl) (sv (Q10 2 rfl rfl) (sv (Q10 5 rfl rfl) (sv (Q10 6 rfl rfl) .nil))))) (foll hR ((by subst hvpr;exact cf h2 (by subst hvcl;exact (by subst hvtk;exact cf h13 rfl)))))
def Qx5 :List Job->Nat->List (Int × Int)->(List (Int × Int))
 | [],_,c=>c
 | x_1 :: r,i1,c=>Qx5 r (i1+1) (setM x_1.id x_1.state c)
def QJ2 (c:List (Int × Int)):List Job->List Int->Nat->(List Int)
 | [],out,_=>out
 | x_2 :: r,out,i2=>bif (((false||(x_2.state != 1))||x_2.held)||(!(Qr7 c x_2))) then QJ2 c r out (i2+1) else QJ2 c r (out++([x_2.id]:List Int)) (i2+1)
def Qn3 (out:List Int):(List Int):=out
def Qu4 (l:List Job) (c:List (Int × Int)):(List Int):=Qn3 (QJ2 c l [] 0)
def Qn0 (l:List Job):(List Int):=bif ((QC1 l)!=0) then [] else Qu4 l (Qx5 l 0 [])
theorem Qa9 (l:List Job) (hs0:l.length<=4294967296∧(∀ y ∈ l,y.sz)):GV 20 [jobL l] (ints (Qn0 l)):=by
 generalize hR:Qn0 l=R;refine ga (.cons lw .nil) lw (kp 7 [9,10,11,12,31]) Tryz.func20 ?_;obtain ⟨z26,z27⟩:=id hs0;refine ACalls.of_cwp (fun _=>true) Tryz.func68 rfl rfl ?_;refine us (Qd7 l szA _) ?_;refine ai (fun h1=>?_) (fun h2=>?_)
 ·refine ⟨_,_,Told.refl,?_⟩;refine Qc0 (fun (i:Nat)=>True∧i<=l.length) (fun i=>l.length - i) (fun i=>[(2,AVal.lit (.slice none 0 0)),(3,AVal.lit (.map none)),(4,AVal.lit (.slice none 0 0)),(9,jobL l),(10,I (l.length:Int)),(11,I (i:Int))]) (fun i=>[]) 0 (wk [] .nil (s1 (s1 (s1 (sl lw (s1 (s1 .nil))))))) ⟨trivial,by exact omA⟩ ?_;have hR0:=hR;rintro i ⟨hR,hj⟩;(try dsimp only at hR hj);refine ai (fun h3=>?_) (fun h4=>?_)
  ·have hlt:=ltA h3;have hxz:(l.getD i Job.zero).sz:=Qy0 (by first|assumption|grind) (Job.szz _);have hkz:=hxz;obtain ⟨z5,z6,z7,z8,z9⟩:=Job.zz hxz;refine ai gkA ?_;(first|refine ⟨Bo false,_,fun h=>absurd h (by decide),fun _=>rfl,?_⟩|refine ⟨Bo false,fun h=>absurd h (by decide),?_⟩|refine ⟨Bo false,_,fun h=>absurd h (by simp),fun _=>rfl,?_⟩|refine ⟨Bo false,fun h=>absurd h (by simp),?_⟩);refine ai (fun _=>?_) (fun h=>nomatch h);exact Qi0 (i+1) (wk [] .nil (s1 (s1 (s1 (sl lw (s1 (sv (Q80 (I_eq (wr omA)) lx) .nil))))))) omA ⟨hR,by exact omA⟩
  ·skip;have hR:=hR0;obtain rfl:=foll hR (ct h1 rfl);exact Q00 lw (Qs0)
 ·refine Qh0 (fun (i1:Nat) (c:List (Int × Int))=>Qu4 l (Qx5 (List.drop i1 l) i1 c)=R∧i1<=l.length) (fun i1 c=>l.length - i1) (fun i1 c=>[(2,AVal.lit (.map none)),(3,AVal.map 0),(10,jobL l),(11,I (l.length:Int)),(12,I (i1:Int))]) (fun i1 c=>[(0,AObj.other (.map (mapEs ik I 0 c) c.length))]) 0 [] (wk [0] (tO rfl (QE0 _ rfl rfl (fun _=>lx)) .nil) (s1 (sv (Qj2 0 rfl rfl) (sl lw (s1 (s1 .nil)))))) ⟨foll hR (cf h2 rfl),by exact omA⟩ ?_;clear hR;rintro i1 c ⟨hR,hj⟩;(try dsimp only at hR hj);refine ai (fun h10=>?_) (fun h11=>?_)
  ·have hlt:=ltA h10;rw [Q90 Job.zero hlt] at hR;have hxz:(l.getD i1 Job.zero).sz:=Qy0 (by first|assumption|grind) (Job.szz _);have hkz:=hxz;obtain ⟨z12,z13,z14,z15,z16⟩:=Job.zz hxz;refine ai gkA ?_;refine ⟨_,_,Qr2 rfl _ _,Qkb (ek:=ik) ((l.getD i1 Job.zero).id) ((l.getD i1 Job.zero).state) c rfl rfl,?_⟩;exact Q60 (i1+1) (setM (l.getD i1 Job.zero).id (l.getD i1 Job.zero).state c) (wk [0] (tO rfl (QE0 _ rfl rfl (fun _=>lx)) .nil) (s1 (sv (Qj2 0 rfl rfl) (sl lw (s1 (sv (Q80 (I_eq (wr omA)) lx) .nil)))))) omA ⟨foll hR (congrArg (fun p:(List (Int × Int))=>Qu4 l p) rfl),by exact omA⟩
  ·rw [Qf0 (l:=l) (j:=i1) (geA h11)] at hR;replace hR:Qu4 l c=R:=fo2 (fun p:(List (Int × Int))=>Qu4 l p) (c) hR rfl;refine ⟨_,_,Told.refl,?_⟩;refine Qh0 (fun (out:List Int) (i2:Nat)=>Qn3 (QJ2 c (List.drop i2 l) out i2)=R∧i2<=l.length∧out.length<=i2) (fun out i2=>l.length - i2) (fun out i2=>[(2,AVal.lit (.slice none 0 0)),(3,AVal.map 0),(4,AVal.own 1 0 1 0 out.length),(9,jobL l),(10,I (l.length:Int)),(11,I (i2:Int))]) (fun out i2=>[(0,AObj.other (.map (mapEs ik I 0 c) c.length)),(0,AObj.row 3 1 (out.map (fun q_=>[I q_])))]) [] 0 ((QD1 3 1).trans (wk [0,1] (tO rfl (QE0 _ rfl rfl (fun _=>lx)) (tO rfl (tl eqA) .nil)) (s1 (sv (Qj2 0 rfl rfl) (sv (Qj1 1 rfl) (sl lw (s1 (s1 .nil)))))))) ⟨foll hR rfl,by exact omA,by exact exA⟩ ?_;clear hR;rintro out i2 ⟨hR,hj,hx⟩;(try dsimp only at hR hj hx);refine ai (fun h17=>?_) (fun h18=>?_)
   ·have hlt:=ltA h17;rw [Q90 Job.zero hlt] at hR;have hxz:(l.getD i2 Job.zero).sz:=Qy0 (by first|assumption|grind) (Job.szz _);have hkz:=hxz;obtain ⟨z19,z20,z21,z22,z23⟩:=Job.zz hxz;refine ai gkA ?_;(first|apply u2|apply u3|apply u4|apply us);exact mv [0] (QNb c (l.getD i2 Job.zero) szA) (dO (.same _ (QC7 fun _=>lx)) .nil) (dv (dn_ren (Ren.map _ _ rfl)) (dv (Qs7 (Low.agg' (Job.lo))) .nil)) (rO (RenO.same _ (QC7 fun _=>lx)) .nil) rx;refine ai (fun h24=>?_) (fun h25=>?_)
    ·exact Q60 out (i2+1) (wk [0,1] (tO rfl (QE0 _ rfl rfl (fun _=>lx)) (tO rfl (tl eqA) .nil)) (s1 (sv (Qj2 0 rfl rfl) (sv (to 1 lnA) (sl lw (s1 (sv (Q80 (I_eq (wr omA)) lx) .nil))))))) omA ⟨foll hR (congrArg (fun p:(List Int)=>Qn3 p) (ct h24 rfl)),by exact omA,by exact exA⟩
    ·refine Or.inl ?_;(first|refine ⟨Qa2 8 rfl lnA apA,?_⟩|refine ⟨Qd1 8 rfl apA,?_⟩);exact Q60 (out++([(l.getD i2 Job.zero).id]:List Int)) (i2+1) (wk [0,1] (tO rfl (QE0 _ rfl rfl (fun _=>lx)) (tO rfl (tl eqA) .nil)) (s1 (sv (Qj2 0 rfl rfl) (sv (to 1 lnA) (sl lw (s1 (sv (Q80 (I_eq (wr omA)) lx) .nil))))))) omA ⟨foll hR (congrArg (fun p:(List Int)=>Qn3 p) (cf h25 rfl)),by exact omA,by exact exA⟩
   ·rw [Qf0 (l:=l) (j:=i2) (geA h18)] at hR;replace hR:Qn3 out=R:=fo2 (fun p:(List Int)=>Qn3 p) (out) hR rfl;obtain rfl:=foll hR rfl;exact Q00 lw (Ql1 0 _ rfl eqA lnA)
theorem Qk5 (c:List (Int × Int)):∀ (r:List Job) (out:List Int) (i:Nat),(QJ2 c r out i).length<=out.length+r.length
 | [],out,i=>by simp [QJ2]
 | x :: r,out,i=>by
  have h1:=Qk5 c r out (i+1)
  have h2:=Qk5 c r (out++([x.id]:List Int)) (i+1)
  rw [QJ2,Bool.cond_eq_ite]
  simp only [List.length_append,List.length_cons,List.length_nil] at *
  split <;> omega
theorem QMb (l:List Job):(Qn0 l).length<=l.length:=by
 unfold Qn0
 cases ((QC1 l)!=0) with
 | true=>simp
 | false=>have h:=Qk5 (Qx5 l 0 []) l [] 0;rw [List.length_nil,Nat.zero_add] at h;exact h
def Qw1 (l:List Job) (id_:Int):Job × Bool:=bif (((QC1 l)!=0)||(!(QN7 id_))) then (Job.zero,false) else bif (!(QI0 l id_).2) then (Job.zero,false) else (((List.drop (Int.toNat ((QI0 l id_).1)) (List.take (Int.toNat (w64 ((QI0 l id_).1+1))) l)).getD 0 Job.zero),true)
theorem table_Find_c (l:List Job) (id_:Int) (hs0:l.length<=4294967296∧(∀ y ∈ l,y.sz)):GV 129 [jobL l,I id_] (AVal.tup [Job.a ((Qw1 l id_).1),Bo ((Qw1 l id_).2)]):=by
 generalize hR:Qw1 l id_=R;refine ga (.cons lw (l1 .nil)) (Low.tup' (.cons (Job.low _ _) (l1 .nil))) (kp 8 [15,24]) Tryz.func129 ?_;obtain ⟨z5,z6⟩:=id hs0;refine us (Qd7 l szA _) ?_;(first|apply u2|apply u3|apply u4|apply us);exact table_known_c id_ _;refine ai (fun h1=>?_) (fun h2=>?_)
 ·obtain rfl:=foll hR (ct h1 rfl);exact Q00 (Low.tup' (.cons (Job.low _ _) (l1 .nil))) (Seen.tup (ev (Seen.agg (e1 (e1 (e1 (e1 (e1 (ev (Qs0) (e1 (e1 (e1 (e1 (ev (Qs0) (e1 (e1 (e1 (e1 (e1 (e1 (e1 (e1 (e1 .nil))))))))))))))))))))) (e1 .nil)))
 ·refine us (table_place_c l id_ szA _) ?_;refine ai (fun h3=>?_) (fun h4=>?_)
  ·obtain rfl:=foll hR (cf h2 (ct h3 rfl));exact Q00 (Low.tup' (.cons (Job.low _ _) (l1 .nil))) (Seen.tup (ev (Seen.agg (e1 (e1 (e1 (e1 (e1 (ev (Qs0) (e1 (e1 (e1 (e1 (ev (Qs0) (e1 (e1 (e1 (e1 (e1 (e1 (e1 (e1 (e1 .nil))))))))))))))))))))) (e1 .nil)))
  ·refine And.intro (by first|exact fun hg=>decide_eq_true (by first|(have hp:=QJ6 l id_ hs0.1 (by assumption);have pw:IntKind.i64.wrap ((QI0 l id_).1+1)=(QI0 l id_).1+1:=wr (by omega);simp only [Option.getD_some,pw,List.length_drop,List.length_take];omega)|exact ckA)|exact gkA) ?_;refine us (mv [] (table_whole_o (List.drop (Int.toNat ((QI0 l id_).1)) (List.take (Int.toNat (w64 ((QI0 l id_).1+1))) l)) szA) .nil (dv (dn_as (as_cut l (Int.toNat ((QI0 l id_).1)) (Int.toNat (w64 ((QI0 l id_).1+1))) leA (by first|(have hp:=QJ6 l id_ hs0.1 (by assumption);have pw:IntKind.i64.wrap ((QI0 l id_).1+1)=(QI0 l id_).1+1:=wr (by omega);simp only [Option.getD_some,pw,List.length_drop,List.length_take];omega)|exact ckA)) lw) .nil) (rO rr .nil) (rw_ 1 0 rfl)) ?_;refine And.intro (by first|exact fun hg=>decide_eq_true (by first|(have hp:=QJ6 l id_ hs0.1 (by assumption);have pw:IntKind.i64.wrap ((QI0 l id_).1+1)=(QI0 l id_).1+1:=wr (by omega);simp only [Option.getD_some,pw,List.length_drop,List.length_take];omega)|exact ckA)|exact gkA) ?_;refine ⟨_,QL1 rfl rfl rfl (QV1 Job.zero 0 (by first|rfl|exact Nat.zero_add _|omega) (by first|(have hp:=QJ6 l id_ hs0.1 (by assumption);have pw:IntKind.i64.wrap ((QI0 l id_).1+1)=(QI0 l id_).1+1:=wr (by omega);simp only [Option.getD_some,pw,List.length_drop,List.length_take];omega)|exact ckA)) rfl,?_⟩;obtain rfl:=foll hR (cf h2 (cf h4 rfl));exact Q00 (Low.tup' (.cons (Job.low _ _) (l1 .nil))) (Seen.tup (e1 (e1 .nil)))
def QF1 (l:List Usage) (ids:List Int):List Job->List Ranked->Nat->List (ByteArray × Int)->(List Ranked) × (List (ByteArray × Int))
 | [],r_,_,c=>(r_,c)
 | x_ :: r,r_,i,c=>bif (!(Q21 ids x_.id)) then QF1 l ids r r_ (i+1) c else bif (!(getM x_.user c).isSome) then QF1 l ids r (r_++([(⟨x_.id,x_.prio,((getM x_.user (setM x_.user (QX2 l x_.user) c)).getD 0),x_.id⟩:Ranked)]:List Ranked)) (i+1) (setM x_.user (QX2 l x_.user) c) else QF1 l ids r (r_++([(⟨x_.id,x_.prio,((getM x_.user c).getD 0),x_.id⟩:Ranked)]:List Ranked)) (i+1) c
def Q73 (r_:List Ranked):List Ranked->List Int->Nat->(List Int)
 | [],out,_=>out
 | _ :: r,out,i1=>Q73 r_ r (out++([((QY3 r_).getD i1 Ranked.zero).what]:List Int)) (i1+1)
def QM4 (out:List Int):(List Int):=out
def Q83 (r_:List Ranked) (c:List (ByteArray × Int)):(List Int):=QM4 (Q73 r_ (QY3 r_) [] 0)
def QO0 (jobs:List Job) (l:List Usage) (ids:List Int):(List Int):=bif ((QC1 jobs)!=0) then [] else Q83 ((QF1 l ids jobs [] 0 []).1) ((QF1 l ids jobs [] 0 []).2)
theorem b12a0 {P:Prop} (h:P:=by first|((exact ⟨hx.1,by omega⟩))|first|((exact ⟨fun x hm=>(List.mem_append.1 hm).elim (hx.1 x) (fun h=>by rw [List.mem_singleton.1 h]),by simp;omega⟩))|first|((exact ⟨fun _ h=>absurd h List.not_mem_nil,by simp⟩))|exact exA):P:=h
theorem Qub (jobs:List Job) (l:List Usage) (ids:List Int) (hs0:jobs.length<=4294967296∧(∀ y ∈ jobs,y.sz)) (hs1:l.length<=4294967296∧(∀ y ∈ l,y.sz)) (hs2:ids.length<=4294967296):GV 168 [jobL jobs,QU1 l,ints ids] (ints (QO0 jobs l ids)):=by
 generalize hR:QO0 jobs l ids=R;refine ga (.cons lw (.cons lw (.cons lw .nil))) lw (kp 14 [16,18,19,20,21,28,37]) Tryz.func168 ?_;obtain ⟨z16,z17⟩:=id hs0;obtain ⟨z18,z19⟩:=id hs1;have hk2:=hs2;obtain z20:ids.length<=4294967296:=hs2;refine us (Qd7 jobs szA _) ?_;refine ai (fun h1=>?_) (fun h2=>?_)
 ·obtain rfl:=foll hR (ct h1 rfl);exact Q00 lw (Qs0)
 ·refine QA7 (fun (r_:List Ranked) (i:Nat) (c:List (ByteArray × Int))=>Q83 (QF1 l ids (List.drop i jobs) r_ i c).1 (QF1 l ids (List.drop i jobs) r_ i c).2=R∧i<=jobs.length∧(∀ x ∈ r_,x.what=x.id)∧r_.length<=i) (fun r_ i c=>jobs.length - i) (fun r_ i c=>[(1,QU1 l),(2,ints ids),(6,AVal.lit (.slice none 0 0)),(7,AVal.own 1 0 4 0 r_.length),(8,AVal.map 0),(18,jobL jobs),(19,I (jobs.length:Int)),(20,I (i:Int))]) (fun r_ i c=>[(0,AObj.other (.map (mapEs sk I 0 c) c.length)),(0,AObj.row 277 4 (r_.map Ranked.cells))]) [] 0 [] ((QD1 277 4).trans (wk [0,1] (tO rfl (QE0 _ rfl rfl (fun _=>lx)) (tO rfl (tl eqA) .nil)) (sl lw (sl lw (s1 (sv (Qj1 1 rfl) (sv (Qj2 0 rfl rfl) (sl lw (s1 (s1 .nil)))))))))) ⟨foll hR (cf h2 rfl),by exact omA,b12a0⟩ ?_;clear hR;rintro r_ i c ⟨hR,hj,hx⟩;(try dsimp only at hR hj hx);refine ai (fun h3=>?_) (fun h4=>?_)
  ·have hlt:=ltA h3;rw [Q90 Job.zero hlt] at hR;have hxz:(jobs.getD i Job.zero).sz:=Qy0 (by first|assumption|grind) (Job.szz _);have hkz:=hxz;obtain ⟨z5,z6,z7,z8,z9⟩:=Job.zz hxz;refine ai gkA ?_;refine us (QB1 ids ((jobs.getD i Job.zero).id) szA _) ?_;refine ai (fun h10=>?_) (fun h11=>?_)
   ·exact Qp3 r_ (i+1) c (wk [0,1] (tO rfl (QE0 _ rfl rfl (fun _=>lx)) (tO rfl (tl eqA) .nil)) (sl lw (sl lw (s1 (sv (to 1 lnA) (sv (Qj2 0 rfl rfl) (sl lw (s1 (sv (Q80 (I_eq (wr omA)) lx) .nil))))))))) omA ⟨foll hR (congrArg (fun p:(List Ranked) × (List (ByteArray × Int))=>Q83 p.1 p.2) (ct h10 rfl)),by exact omA,b12a0⟩
   ·(first|refine ⟨_,_,QC6 rfl _ _,Qh1 (ek:=sk) ((jobs.getD i Job.zero).user) c 0 (AsA.refl _),?_⟩|refine ⟨_,fun _=>⟨_,_,QC6 rfl _ _,Qh1 (ek:=sk) ((jobs.getD i Job.zero).user) c 0 (AsA.refl _),rfl,rfl⟩,?_⟩|refine ⟨_,rfl,⟨_,_,QC6 rfl _ _,Qh1 (ek:=sk) ((jobs.getD i Job.zero).user) c 0 (AsA.refl _),Sub.refl _,rfl⟩,?_⟩);refine ai (fun h12=>?_) (fun h13=>?_)
    ·refine dchk (by kernel_rfl) ?_;(first|apply u2|apply u3|apply u4|apply us);exact Qaa l ((jobs.getD i Job.zero).user) szA szA _;refine ⟨_,_,⟨_,_,QC6 rfl _ _,Qkb (ek:=sk) ((jobs.getD i Job.zero).user) (QX2 l (jobs.getD i Job.zero).user) c rfl rfl,Sub.refl _,rfl⟩,?_⟩;(repeat ((first|refine ai rfl ?_|refine ai (fun _=>rfl) ?_|refine ai (fun _=>Qaa l ((jobs.getD i Job.zero).user) szA szA _) ?_)));(first|refine ⟨_,_,QC6 rfl _ _,Qh1 (ek:=sk) ((jobs.getD i Job.zero).user) (setM (jobs.getD i Job.zero).user (QX2 l (jobs.getD i Job.zero).user) c) 0 (AsA.refl _),?_⟩|refine ⟨_,fun _=>⟨_,_,QC6 rfl _ _,Qh1 (ek:=sk) ((jobs.getD i Job.zero).user) (setM (jobs.getD i Job.zero).user (QX2 l (jobs.getD i Job.zero).user) c) 0 (AsA.refl _),rfl,rfl⟩,?_⟩|refine ⟨_,rfl,⟨_,_,QC6 rfl _ _,Qh1 (ek:=sk) ((jobs.getD i Job.zero).user) (setM (jobs.getD i Job.zero).user (QX2 l (jobs.getD i Job.zero).user) c) 0 (AsA.refl _),Sub.refl _,rfl⟩,?_⟩);refine Or.inl ?_;(first|refine ⟨Qa2 32 rfl lnA apA,?_⟩|refine ⟨Qd1 32 rfl apA,?_⟩);exact Qp3 (r_++([(⟨(jobs.getD i Job.zero).id,(jobs.getD i Job.zero).prio,((getM (jobs.getD i Job.zero).user (setM (jobs.getD i Job.zero).user (QX2 l (jobs.getD i Job.zero).user) c)).getD 0),(jobs.getD i Job.zero).id⟩:Ranked)]:List Ranked)) (i+1) (setM (jobs.getD i Job.zero).user (QX2 l (jobs.getD i Job.zero).user) c) (wk [0,1] (tO rfl (QE0 _ rfl rfl (fun _=>lx)) (tO rfl (tl eqA) .nil)) (sl lw (sl lw (s1 (sv (to 1 lnA) (sv (Qj2 0 rfl rfl) (sl lw (s1 (sv (Q80 (I_eq (wr omA)) lx) .nil))))))))) omA ⟨foll hR (congrArg (fun p:(List Ranked) × (List (ByteArray × Int))=>Q83 p.1 p.2) (cf h11 (ct h12 rfl))),by exact omA,b12a0⟩
    ·(first|refine ⟨_,_,QC6 rfl _ _,Qh1 (ek:=sk) ((jobs.getD i Job.zero).user) c 0 (AsA.refl _),?_⟩|refine ⟨_,fun _=>⟨_,_,QC6 rfl _ _,Qh1 (ek:=sk) ((jobs.getD i Job.zero).user) c 0 (AsA.refl _),rfl,rfl⟩,?_⟩|refine ⟨_,rfl,⟨_,_,QC6 rfl _ _,Qh1 (ek:=sk) ((jobs.getD i Job.zero).user) c 0 (AsA.refl _),Sub.refl _,rfl⟩,?_⟩);refine Or.inl ?_;(first|refine ⟨Qa2 32 rfl lnA apA,?_⟩|refine ⟨Qd1 32 rfl apA,?_⟩);exact Qp3 (r_++([(⟨(jobs.getD i Job.zero).id,(jobs.getD i Job.zero).prio,((getM (jobs.getD i Job.zero).user c).getD 0),(jobs.getD i Job.zero).id⟩:Ranked)]:List Ranked)) (i+1) c (wk [0,1] (tO rfl (QE0 _ rfl rfl (fun _=>lx)) (tO rfl (tl eqA) .nil)) (sl lw (sl lw (s1 (sv (to 1 lnA) (sv (Qj2 0 rfl rfl) (sl lw (s1 (sv (Q80 (I_eq (wr omA)) lx) .nil))))))))) omA ⟨foll hR (congrArg (fun p:(List Ranked) × (List (ByteArray × Int))=>Q83 p.1 p.2) (cf h11 (cf h13 rfl))),by exact omA,b12a0⟩
  ·rw [Qf0 (l:=jobs) (j:=i) (geA h4)] at hR;replace hR:Q83 r_ c=R:=fo2 (fun p:(List Ranked) × (List (ByteArray × Int))=>Q83 p.1 p.2) (r_,c) hR rfl;refine ACalls.of_cwp (fun _=>true) Tryz.func251 rfl rfl ?_;refine us (mv [1] (Q4c r_ szA (by exact hx.1)) (dO (dr eqA) .nil) (dv (QW6 rfl lnA) (dv (Qs7 (Low.fn _ _ _ LowL.nil LowL.nil)) .nil)) (rO rr .nil) rx) ?_;have hrl:=Qvc r_;rw [← hrl];refine Qh0 (fun (out:List Int) (i1:Nat)=>QM4 (Q73 r_ (List.drop i1 (QY3 r_)) out i1)=R∧i1<=(QY3 r_).length∧out.length<=i1) (fun out i1=>(QY3 r_).length - i1) (fun out i1=>[(2,AVal.lit (.slice none 0 0)),(3,AVal.own 2 0 1 0 out.length),(8,AVal.own 1 0 4 0 ((QY3 r_).length)),(9,I ((QY3 r_).length:Int)),(10,I (i1:Int))]) (fun out i1=>[(0,AObj.other (.map (mapEs sk I 0 c) c.length)),(0,AObj.row 277 4 ((QY3 r_).map Ranked.cells)),(0,AObj.row 3 1 (out.map (fun q_=>[I q_])))]) [] 0 ((QD1 3 1).trans (wk [0,1,2] (tO rfl (QE0 _ rfl rfl (fun _=>lx)) (tO rfl (tl eqA) (tO rfl (tl eqA) .nil))) (s1 (sv (Qj1 2 rfl) (sv (to 1 lnA) (s1 (s1 .nil))))))) ⟨foll hR rfl,by exact omA,b12a0⟩ ?_;clear hR;rintro out i1 ⟨hR,hj,hx⟩;(try dsimp only at hR hj hx);refine ai (fun h14=>?_) (fun h15=>?_)
   ·have hlt:=ltA h14;rw [Q90 Ranked.zero hlt] at hR;refine ai gkA ?_;refine ⟨_,QL1 rfl rfl rfl (QV1 Ranked.zero i1 (by first|rfl|exact Nat.zero_add _|omega) ckA) rfl,?_⟩;refine Or.inl ?_;(first|refine ⟨Qa2 8 rfl lnA apA,?_⟩|refine ⟨Qd1 8 rfl apA,?_⟩);exact Q60 (out++([((QY3 r_).getD i1 Ranked.zero).what]:List Int)) (i1+1) (wk [0,1,2] (tO rfl (QE0 _ rfl rfl (fun _=>lx)) (tO rfl (tl eqA) (tO rfl (tl eqA) .nil))) (s1 (sv (to 2 lnA) (sv (to 1 lnA) (s1 (sv (Q80 (I_eq (wr omA)) lx) .nil)))))) omA ⟨foll hR (congrArg (fun p:(List Int)=>QM4 p) rfl),by exact omA,b12a0⟩
   ·rw [Qf0 (l:=(QY3 r_)) (j:=i1) (geA h15)] at hR;replace hR:QM4 out=R:=fo2 (fun p:(List Int)=>QM4 p) (out) hR rfl;refine ⟨_,_,Told.refl,?_⟩;obtain rfl:=foll hR rfl;exact Q00 lw (Ql1 0 _ rfl eqA lnA)
theorem Q18 (l:List Usage) (ids:List Int):∀ (r:List Job) (o:List Ranked) (i:Nat) (c:List (ByteArray × Int)),(QF1 l ids r o i c).1.length<=o.length+r.length
 | [],o,i,c=>by simp [QF1]
 | x :: r,o,i,c=>by
  have h1:=fun o' c'=>Q18 l ids r o' (i+1) c'
  rw [QF1]
  repeat' first|exact Nat.le_trans (h1 _ _) (by simp only [List.length_cons,List.length_append,List.length_nil];omega)|(rw [Bool.cond_eq_ite];split)
theorem Q28 (R:List Ranked):∀ (r:List Ranked) (out:List Int) (i:Nat),(Q73 R r out i).length=out.length+r.length
 | [],out,i=>by simp [Q73]
 | x :: r,out,i=>by rw [Q73,Q28 R r];simp;omega
theorem QG9 (jobs:List Job) (l:List Usage) (ids:List Int):(QO0 jobs l ids).length<=jobs.length:=by
 unfold QO0 Q83 QM4
 cases ((QC1 jobs)!=0) with
 | true=>simp
 | false =>
  have h:=Q18 l ids jobs [] 0 []
  simp only [cond_false]
  rw [Q28,Qvc]
  simpa using h
def QS3 (s:State):Int:=bif (((QR3 s)!=0)||((QK7 s.ledger)!=0)) then 141 else 0
theorem Qob (s:State) (hs0:s.sz):GV 49 [State.a s] (I (QS3 s)):=by
 generalize hR:QS3 s=R;refine ga (.cons (State.low _ _) .nil) lx (kp 3 [11]) Tryz.func49 ?_;have hk0:=hs0;obtain ⟨z3,z4,z5,z6,z7,z8,z9⟩:=hs0;refine us (ref20_Check_c s szA _) ?_;(first|apply u2|apply u3|apply u4|apply us);exact ref17_Check_c s.ledger szA _;refine ai (fun h1=>?_) (fun h2=>?_)
 ·obtain rfl:=foll hR (ct h1 rfl);exact Q00 lx sr
 ·obtain rfl:=foll hR (cf h2 rfl);exact Q00 lx sr
theorem QZ6 {s:State} (h:((QS3 s)!=0)=false):((QR3 s)!=0)=false:=by
 unfold QS3 at h
 cases hc:((QR3 s)!=0) with
 | false=>rfl
 | true=>rw [hc] at h;cases h
end Go.Proofs.YtcbolcknapeneaaGreatDoor
namespace Go.Proofs.YtcbolcknapeneaaGreatDoor
set_option linter.unusedSimpArgs false
set_option linter.unusedVariables false
open Go.Fw
set_option maxRecDepth 20000
set_option maxHeartbeats 4000000
attribute [local irreducible] ACalls AMoves
def Ql2 (s:State):Int:=bif (((Qv1 s)!=0)||((Q94 s.ledger)!=0)) then 141 else 0
theorem QS5 (s:State) (hs0:s.sz):GV 18 [State.a s] (I (Ql2 s)):=by
 generalize hR:Ql2 s=R;refine ga (.cons (State.low _ _) .nil) lx (kp 3 [11]) Tryz.func18 ?_;have hk0:=hs0;obtain ⟨z3,z4,z5,z6,z7,z8,z9⟩:=hs0;refine us (QDc s szA _) ?_;(first|apply u2|apply u3|apply u4|apply us);exact Q9a s.ledger szA _;refine ai (fun h1=>?_) (fun h2=>?_)
 ·obtain rfl:=foll hR (ct h1 rfl);exact Q00 lx sr
 ·obtain rfl:=foll hR (cf h2 rfl);exact Q00 lx sr
def Qr1 (s:State):List Node->List Int->Nat->List (Int × Int)->(List Int) × (List (Int × Int))
 | [],order,_,c=>(order,c)
 | x_ :: r,order,i,c=>bif (((getM (QG0 x_ (Qp0 s.jobs)) c).getD 0)==0) then Qr1 s r (order++([(QG0 x_ (Qp0 s.jobs))]:List Int)) (i+1) (setM (QG0 x_ (Qp0 s.jobs)) (w64 (((getM (QG0 x_ (Qp0 s.jobs)) c).getD 0)+1)) c) else Qr1 s r order (i+1) (setM (QG0 x_ (Qp0 s.jobs)) (w64 (((getM (QG0 x_ (Qp0 s.jobs)) c).getD 0)+1)) c)
def Qc4 (order:List Int) (c:List (Int × Int)):List Int->Nat->Taken->Taken
 | [],_,c2=>c2
 | _ :: r,i1,c2=>Qc4 order c r (i1+1) (Qc1 c2 0 ((sorted order).getD i1 0) ((getM ((sorted order).getD i1 0) c).getD 0))
def Q05 (c2:Taken):(List Step):=c2.p
def Qd4 (s:State) (order:List Int) (c:List (Int × Int)):(List Step):=Q05 (Qc4 order c (sorted order) 0 (⟨(Qn2 (Qt1 (QS7 s.nodes)))⟩:Taken))
def QF3 (s:State):(List Step):=bif ((Qv1 s)!=0) then [] else Qd4 s ((Qr1 s s.nodes [] 0 []).1) ((Qr1 s s.nodes [] 0 []).2)
theorem b13a1 {P:Prop} (h:P:=by first|(exact ⟨.inr ⟨rfl,rfl⟩,Nat.le_refl _⟩)|first|(exact ⟨.inl (by simp),by simp;omega⟩)|first|(exact ⟨.inl (busy_ne hx.1 (by assumption)),by omega⟩)|first|(((try dsimp only);exact Q09 (by assumption)))|first|(((try dsimp only);exact Q09 hx))|first|(exact flat_len _)|exact exA):P:=h
theorem room_Busy_c (s:State) (hs0:s.sz):GV 134 [State.a s] (stepL (QF3 s)):=by
 generalize hR:QF3 s=R;refine ga (.cons (State.low _ _) .nil) lw (kp 12 [14,27,28,29,30,39,51,52,53,54]) Tryz.func134 ?_;have hk0:=hs0;obtain ⟨z9,z10,z11,z12,z13,z14,z15⟩:=hs0;refine us (QDc s szA _) ?_;refine ai (fun h1=>?_) (fun h2=>?_)
 ·obtain rfl:=foll hR (ct h1 rfl);exact Q00 lw (Qs0)
 ·refine us (fleet_Up_c s.nodes szA _) ?_;refine us (QD7 (QS7 s.nodes) _) ?_;refine us (profile_Flat_c (Qt1 (QS7 s.nodes)) _) ?_;refine us (mv [] (room_limits_o s.jobs szA) .nil (dl lw .nil) (rO (RenO.same _ (QC7 fun _=>lx)) .nil) (Ren.map _ _ rfl)) ?_;refine QA7 (fun (order:List Int) (i:Nat) (c:List (Int × Int))=>Qd4 s (Qr1 s (List.drop i s.nodes) order i c).1 (Qr1 s (List.drop i s.nodes) order i c).2=R∧i<=s.nodes.length∧(order ≠ []∨(i=0∧c=[]))∧order.length<=i) (fun order i c=>s.nodes.length - i) (fun order i c=>[(2,AVal.lit (.slice none 0 0)),(3,AVal.ptr 0 0 1 0 0),(4,AVal.map 1),(5,AVal.map 2),(6,AVal.own 3 0 1 0 order.length),(27,nodeL s.nodes),(28,I (s.nodes.length:Int)),(29,I (i:Int))]) (fun order i c=>[(0,AObj.row 185 1 [[stepL (Qn2 (Qt1 (QS7 s.nodes)))]]),(0,AObj.other (.map (mapEs ik I 0 c) c.length)),(0,AObj.other (.map (mapEs ik I 0 (Qp0 s.jobs)) (Qp0 s.jobs).length)),(0,AObj.row 3 1 (order.map (fun q_=>[I q_])))]) [] 0 [] ((QD1 3 1).trans (wk [1,2,3,4] (tO rfl (ts Taken.lo) (tO rfl (QE0 _ rfl rfl (fun _=>lx)) (tO rfl (QE0 _ rfl rfl (fun _=>lx)) (tO rfl (tl eqA) .nil)))) (s1 (sv (Q10 0 rfl rfl) (sv (Qj2 1 rfl rfl) (sv (Qj2 2 rfl rfl) (sv (Qj1 3 rfl) (sl lw (s1 (s1 .nil)))))))))) ⟨foll hR (cf h2 rfl),by exact omA,b13a1⟩ ?_;clear hR;rintro order i c ⟨hR,hj,hx⟩;(try dsimp only at hR hj hx);refine ai (fun h3=>?_) (fun h4=>?_)
  ·have hlt:=ltA h3;rw [Q90 Node.zero hlt] at hR;refine ai gkA ?_;refine us (mv [2] (room_until_c (s.nodes.getD i Node.zero) (Qp0 s.jobs)) (dO (.same _ (QC7 fun _=>lx)) .nil) (dv (Qs7 (Low.agg' (Node.lo))) (dv (dn_ren (Ren.map _ _ rfl)) .nil)) (rO (RenO.same _ (QC7 fun _=>lx)) .nil) rx) ?_;(first|refine ⟨_,_,Qr2 rfl _ _,Qh1 (ek:=ik) (QG0 (s.nodes.getD i Node.zero) (Qp0 s.jobs)) c 0 (AsA.refl _),?_⟩|refine ⟨_,fun _=>⟨_,_,Qr2 rfl _ _,Qh1 (ek:=ik) (QG0 (s.nodes.getD i Node.zero) (Qp0 s.jobs)) c 0 (AsA.refl _),rfl,rfl⟩,?_⟩|refine ⟨_,rfl,⟨_,_,Qr2 rfl _ _,Qh1 (ek:=ik) (QG0 (s.nodes.getD i Node.zero) (Qp0 s.jobs)) c 0 (AsA.refl _),Sub.refl _,rfl⟩,?_⟩);refine ai (fun h5=>?_) (fun h6=>?_)
   ·refine Or.inl ?_;(first|refine ⟨Qa2 8 rfl lnA apA,?_⟩|refine ⟨Qd1 8 rfl apA,?_⟩);(first|refine ⟨_,_,Qr2 rfl _ _,Qh1 (ek:=ik) (QG0 (s.nodes.getD i Node.zero) (Qp0 s.jobs)) c 0 (AsA.refl _),?_⟩|refine ⟨_,fun _=>⟨_,_,Qr2 rfl _ _,Qh1 (ek:=ik) (QG0 (s.nodes.getD i Node.zero) (Qp0 s.jobs)) c 0 (AsA.refl _),rfl,rfl⟩,?_⟩|refine ⟨_,rfl,⟨_,_,Qr2 rfl _ _,Qh1 (ek:=ik) (QG0 (s.nodes.getD i Node.zero) (Qp0 s.jobs)) c 0 (AsA.refl _),Sub.refl _,rfl⟩,?_⟩);refine ⟨_,_,Qr2 rfl _ _,Qkb (ek:=ik) (QG0 (s.nodes.getD i Node.zero) (Qp0 s.jobs)) (w64 (((getM (QG0 (s.nodes.getD i Node.zero) (Qp0 s.jobs)) c).getD 0)+1)) c rfl rfl,?_⟩;exact Qp3 (order++([(QG0 (s.nodes.getD i Node.zero) (Qp0 s.jobs))]:List Int)) (i+1) (setM (QG0 (s.nodes.getD i Node.zero) (Qp0 s.jobs)) (w64 (((getM (QG0 (s.nodes.getD i Node.zero) (Qp0 s.jobs)) c).getD 0)+1)) c) (wk [0,1,2,3] (tO rfl (ts Taken.lo) (tO rfl (QE0 _ rfl rfl (fun _=>lx)) (tO rfl (QE0 _ rfl rfl (fun _=>lx)) (tO rfl (tl eqA) .nil)))) (s1 (sv (Q10 0 rfl rfl) (sv (Qj2 1 rfl rfl) (sv (Qj2 2 rfl rfl) (sv (to 3 lnA) (sl lw (s1 (sv (Q80 (I_eq (wr omA)) lx) .nil))))))))) omA ⟨foll hR (congrArg (fun p:(List Int) × (List (Int × Int))=>Qd4 s p.1 p.2) (ct h5 rfl)),by exact omA,b13a1⟩
   ·(first|refine ⟨_,_,Qr2 rfl _ _,Qh1 (ek:=ik) (QG0 (s.nodes.getD i Node.zero) (Qp0 s.jobs)) c 0 (AsA.refl _),?_⟩|refine ⟨_,fun _=>⟨_,_,Qr2 rfl _ _,Qh1 (ek:=ik) (QG0 (s.nodes.getD i Node.zero) (Qp0 s.jobs)) c 0 (AsA.refl _),rfl,rfl⟩,?_⟩|refine ⟨_,rfl,⟨_,_,Qr2 rfl _ _,Qh1 (ek:=ik) (QG0 (s.nodes.getD i Node.zero) (Qp0 s.jobs)) c 0 (AsA.refl _),Sub.refl _,rfl⟩,?_⟩);refine ⟨_,_,Qr2 rfl _ _,Qkb (ek:=ik) (QG0 (s.nodes.getD i Node.zero) (Qp0 s.jobs)) (w64 (((getM (QG0 (s.nodes.getD i Node.zero) (Qp0 s.jobs)) c).getD 0)+1)) c rfl rfl,?_⟩;exact Qp3 order (i+1) (setM (QG0 (s.nodes.getD i Node.zero) (Qp0 s.jobs)) (w64 (((getM (QG0 (s.nodes.getD i Node.zero) (Qp0 s.jobs)) c).getD 0)+1)) c) (wk [0,1,2,3] (tO rfl (ts Taken.lo) (tO rfl (QE0 _ rfl rfl (fun _=>lx)) (tO rfl (QE0 _ rfl rfl (fun _=>lx)) (tO rfl (tl eqA) .nil)))) (s1 (sv (Q10 0 rfl rfl) (sv (Qj2 1 rfl rfl) (sv (Qj2 2 rfl rfl) (sv (to 3 lnA) (sl lw (s1 (sv (Q80 (I_eq (wr omA)) lx) .nil))))))))) omA ⟨foll hR (congrArg (fun p:(List Int) × (List (Int × Int))=>Qd4 s p.1 p.2) (cf h6 rfl)),by exact omA,b13a1⟩
  ·rw [Qf0 (l:=s.nodes) (j:=i) (geA h4)] at hR;replace hR:Qd4 s order c=R:=fo2 (fun p:(List Int) × (List (Int × Int))=>Qd4 s p.1 p.2) (order,c) hR rfl;refine us (mv [3] (slices_Sort_c order szA (by exact busy_order (by assumption) hx.1 (by assumption))) (dO (dr eqA) .nil) (dv (QW6 rfl lnA) .nil) (rO rr .nil) rx) ?_;refine Qh0 (fun (i1:Nat) (c2:Taken)=>Q05 (Qc4 order c (List.drop i1 (sorted order)) i1 c2)=R∧i1<=(sorted order).length∧c2.p.length<=4294967296) (fun i1 c2=>(sorted order).length - i1) (fun i1 c2=>[(2,AVal.lit (.slice none 0 0)),(3,AVal.ptr 0 0 1 0 0),(4,AVal.map 1),(51,AVal.own 2 0 1 0 ((sorted order).length)),(52,I ((sorted order).length:Int)),(53,I (i1:Int))]) (fun i1 c2=>[(0,AObj.row 185 1 [[stepL c2.p]]),(0,AObj.other (.map (mapEs ik I 0 c) c.length)),(0,AObj.row 3 1 ((sorted order).map (fun q_=>[I q_])))]) 0 (⟨(Qn2 (Qt1 (QS7 s.nodes)))⟩:Taken) (wk [0,1,3] (tO rfl (ts Taken.lo) (tO rfl (QE0 _ rfl rfl (fun _=>lx)) (tO rfl (tl eqA) .nil))) (s1 (sv (Q10 0 rfl rfl) (sv (Qj2 1 rfl rfl) (sv (to 2 lnA) (sv (Q80 (I_eq (by simp)) lx) (s1 .nil))))))) ⟨foll hR rfl,by exact omA,b13a1⟩ ?_;clear hR;rintro i1 c2 ⟨hR,hj,hx⟩;(try dsimp only at hR hj hx);refine ai (fun h7=>?_) (fun h8=>?_)
   ·have hlt:=ltA h7;rw [Q90 0 hlt] at hR;have hsl:=Q5c order;refine ai gkA ?_;refine ⟨_,QL1 rfl rfl rfl (QV1 0 i1 (by first|rfl|exact Nat.zero_add _|omega) ckA) rfl,?_⟩;(first|refine ⟨_,_,Qr2 rfl _ _,Qh1 (ek:=ik) ((sorted order).getD i1 0) c 0 (AsA.refl _),?_⟩|refine ⟨_,fun _=>⟨_,_,Qr2 rfl _ _,Qh1 (ek:=ik) ((sorted order).getD i1 0) c 0 (AsA.refl _),rfl,rfl⟩,?_⟩|refine ⟨_,rfl,⟨_,_,Qr2 rfl _ _,Qh1 (ek:=ik) ((sorted order).getD i1 0) c 0 (AsA.refl _),Sub.refl _,rfl⟩,?_⟩);refine us (mv [0] (Qy6 c2 0 ((sorted order).getD i1 0) ((getM ((sorted order).getD i1 0) c).getD 0) szA) (dO (ds Taken.lo) .nil) (dp (d1 (d1 (d1 .nil)))) (rO (re Taken.lo) .nil) rx) ?_;exact Q60 (i1+1) (Qc1 c2 0 ((sorted order).getD i1 0) ((getM ((sorted order).getD i1 0) c).getD 0)) (wk [0,1,2] (tO rfl (ts Taken.lo) (tO rfl (QE0 _ rfl rfl (fun _=>lx)) (tO rfl (tl eqA) .nil))) (s1 (sv (Q10 0 rfl rfl) (sv (Qj2 1 rfl rfl) (sv (to 2 lnA) (sv (Q80 (I_eq (by simp)) lx) (sv (Q80 (I_eq (wr omA)) lx) .nil))))))) omA ⟨foll hR (congrArg (fun p:Taken=>Q05 p) rfl),by exact omA,b13a1⟩
   ·rw [Qf0 (l:=(sorted order)) (j:=i1) (geA h8)] at hR;replace hR:Q05 c2=R:=fo2 (fun p:Taken=>Q05 p) (c2) hR rfl;obtain rfl:=foll hR rfl;exact Q00 lw sr
theorem Qo4 (s:State):(QF3 s).length<=4294967296:=by
 have g2:∀ (o:List Int) (c:List (Int × Int)) (l:List Int) (i:Nat) (t:Taken),t.p.length<=4294967296->(Qc4 o c l i t).p.length<=4294967296:=by
  intro o c l
  induction l with
  | nil=>intro i t h;exact h
  | cons x r ih=>intro i t h;rw [Qc4];exact ih _ _ (Q09 h)
 unfold QF3 Qd4 Q05
 cases ((Qv1 s)!=0) with
 | true=>simp
 | false=>exact g2 _ _ _ _ _ (flat_len _)
def Qc6 (s:State) (j:Job) (latest:Int):Int × Int × Bool:=bif (((QS3 s)!=0)||((Q51 j)!=0)) then (0,0,false) else ((QW5 s j latest).1,(QW5 s j latest).2.1,(QW5 s j latest).2.2)
theorem ref21_One_c (s:State) (j:Job) (latest:Int) (hs0:s.sz) (hs1:j.sz):GV 15 [State.a s,Job.a j,I latest] (AVal.tup [I ((Qc6 s j latest).1),I ((Qc6 s j latest).2.1),Bo ((Qc6 s j latest).2.2)]):=by
 generalize hR:Qc6 s j latest=R;refine ga (.cons (State.low _ _) (.cons (Job.low _ _) (l1 .nil))) (Low.tup' (l1 (l1 (l1 .nil)))) (kp 9 [16]) Tryz.func15 ?_;have hk0:=hs0;obtain ⟨z3,z4,z5,z6,z7,z8,z9⟩:=hs0;obtain ⟨z10,z11,z12,z13,z14⟩:=Job.zz hs1;refine us (Qob s szA _) ?_;(first|apply u2|apply u3|apply u4|apply us);exact Qmb j szA _;refine ai (fun h1=>?_) (fun h2=>?_)
 ·obtain rfl:=foll hR (ct h1 rfl);exact Q00 (Low.tup' (l1 (l1 (l1 .nil)))) (Seen.tup (e1 (e1 (e1 .nil))))
 ·refine us (ref21_Pick_c s j latest szA szA (by exact QP8 (Qz5 (QZ6 (Bool.or_eq_false_iff.1 (by assumption)).1))) _) ?_;obtain rfl:=foll hR (cf h2 rfl);exact Q00 (Low.tup' (l1 (l1 (l1 .nil)))) (Seen.tup (e1 (e1 (e1 .nil))))
def QA2 (s:State):Nat->Bool->Nat->Bool × Nat
 | 0,_,_=>(false,0)
 | m+1,ok,i=>bif ((decide ((i:Int)<(s.jobs.length:Int)))&&ok) then bif (decide ((Q20 (s.jobs.getD i Job.zero)).1<s.now)) then QA2 s m ((!(Q20 (s.jobs.getD i Job.zero)).2.2.2)||((decide ((w64 ((Q20 (s.jobs.getD i Job.zero)).1+(Q20 (s.jobs.getD i Job.zero)).2.1))<=1000000))&&(decide ((Qf2 (Qi1 s []) s.now (w64 ((Q20 (s.jobs.getD i Job.zero)).1+(Q20 (s.jobs.getD i Job.zero)).2.1))) >= 0)))) (i+1) else QA2 s m ((!(Q20 (s.jobs.getD i Job.zero)).2.2.2)||((decide ((w64 ((Q20 (s.jobs.getD i Job.zero)).1+(Q20 (s.jobs.getD i Job.zero)).2.1))<=1000000))&&(decide ((Qf2 (Qi1 s []) ((Q20 (s.jobs.getD i Job.zero)).1) (w64 ((Q20 (s.jobs.getD i Job.zero)).1+(Q20 (s.jobs.getD i Job.zero)).2.1))) >= 0)))) (i+1) else (ok,i)
def QT3 (ok:Bool) (i:Nat):Bool:=ok
def QL7 (s:State):Bool:=bif ((QS3 s)!=0) then false else QT3 ((QA2 s ((Int.toNat ((s.jobs.length:Int) - (0:Int)))+1) true 0).1) ((QA2 s ((Int.toNat ((s.jobs.length:Int) - (0:Int)))+1) true 0).2)
theorem b13a0 {P:Prop} (h:P:=by first|((with_reducible exact Qda _ _))|exact szA):P:=h
theorem Qpb (s:State) (hs0:s.sz):GV 17 [State.a s] (Bo (QL7 s)):=by
 generalize hR:QL7 s=R;refine ga (.cons (State.low _ _) .nil) lx (kp 11 [13,23,41]) Tryz.func17 ?_;have hk0:=hs0;obtain ⟨z7,z8,z9,z10,z11,z12,z13⟩:=hs0;refine us (Qob s b13a0 _) ?_;refine ai (fun h1=>?_) (fun h2=>?_)
 ·obtain rfl:=foll hR (ct h1 rfl);exact Q00 lx sr
 ·refine us (AGives.as2 (Qz9 s [] b13a0 b13a0 (by exact QP8 (Qz5 (QZ6 (by assumption)))) _) (a1 (av (Q79) .nil))) ?_;refine Qh0 (fun (ok:Bool) (i:Nat)=>∃ m,(Int.toNat ((s.jobs.length:Int) - (i:Int)))<m∧QT3 (QA2 s m ok i).1 (QA2 s m ok i).2=R∧(i:Int)<=(s.jobs.length:Int)) (fun ok i=>(Int.toNat ((s.jobs.length:Int) - (i:Int)))) (fun ok i=>[(1,AVal.ptr 0 0 8 0 0),(2,Bo false),(3,stepL (Qi1 s [])),(4,Bo ok),(5,I (i:Int))]) (fun ok i=>[(0,AObj.row 28 8 [[I s.now,nodeL s.nodes,jobL s.jobs,Q02 s.resizes,bookL s.books,QU1 s.ledger,I s.nextJob,I s.nextBook]])]) true 0 (wk [0] (tO rfl (ts State.lo) .nil) (sv (Q10 0 rfl rfl) (s1 (sl lw (s1 (s1 .nil)))))) ⟨_,Nat.lt_succ_self _,foll hR (cf h2 rfl),by exact exA⟩ ?_;clear hR;rintro ok i ⟨m,hm,hR,hx⟩;(try dsimp only at hR hm hx);obtain ⟨m,rfl⟩:=sucA m;refine ai (fun h3=>?_) (fun h4=>?_)
  ·refine ai gkA ?_;refine us (Qy9 (s.jobs.getD i Job.zero) b13a0 (by exact Qy0 (p:=fun y:Job=>((y.state != 1)||(y.promise==(-1)))=false->0<=y.choice∧y.choice<((Q50 y.shape).length:Int)) (QP8 (Qz5 (QZ6 (by assumption)))) (by decide)) _) ?_;refine ai (fun h5=>?_) (fun h6=>?_)
   ·have qh5:=of_decide_eq_true h5;(first|apply u2|apply u3|apply u4|apply us);exact QN8 (Qi1 s []) s.now (w64 ((Q20 (s.jobs.getD i Job.zero)).1+(Q20 (s.jobs.getD i Job.zero)).2.1)) b13a0 _;exact Q60 ((!(Q20 (s.jobs.getD i Job.zero)).2.2.2)||((decide ((w64 ((Q20 (s.jobs.getD i Job.zero)).1+(Q20 (s.jobs.getD i Job.zero)).2.1))<=1000000))&&(decide ((Qf2 (Qi1 s []) s.now (w64 ((Q20 (s.jobs.getD i Job.zero)).1+(Q20 (s.jobs.getD i Job.zero)).2.1))) >= 0)))) (i+1) (wk [0] (tO rfl (ts State.lo) .nil) (sv (Q10 0 rfl rfl) (s1 (sl lw (s1 (sv (Q80 (I_eq (wr omA)) lx) .nil)))))) omA ⟨m,by exact omA,foll hR (congrArg (fun p:Bool × Nat=>QT3 p.1 p.2) (ct h3 (ct h5 rfl))),by exact exA⟩
   ·have qh6:=of_decide_eq_false h6;(first|apply u2|apply u3|apply u4|apply us);exact QN8 (Qi1 s []) ((Q20 (s.jobs.getD i Job.zero)).1) (w64 ((Q20 (s.jobs.getD i Job.zero)).1+(Q20 (s.jobs.getD i Job.zero)).2.1)) b13a0 _;exact Q60 ((!(Q20 (s.jobs.getD i Job.zero)).2.2.2)||((decide ((w64 ((Q20 (s.jobs.getD i Job.zero)).1+(Q20 (s.jobs.getD i Job.zero)).2.1))<=1000000))&&(decide ((Qf2 (Qi1 s []) ((Q20 (s.jobs.getD i Job.zero)).1) (w64 ((Q20 (s.jobs.getD i Job.zero)).1+(Q20 (s.jobs.getD i Job.zero)).2.1))) >= 0)))) (i+1) (wk [0] (tO rfl (ts State.lo) .nil) (sv (Q10 0 rfl rfl) (s1 (sl lw (s1 (sv (Q80 (I_eq (wr omA)) lx) .nil)))))) omA ⟨m,by exact omA,foll hR (congrArg (fun p:Bool × Nat=>QT3 p.1 p.2) (ct h3 (cf h6 rfl))),by exact exA⟩
  ·replace hR:QT3 ok i=R:=fo2 (fun p:Bool × Nat=>QT3 p.1 p.2) (ok,i) hR (cf h4 rfl);obtain rfl:=foll hR rfl;exact Q00 lx sr
end Go.Proofs.YtcbolcknapeneaaGreatDoor
namespace Go.Proofs.YtcbolcknapeneaaGreatDoor
set_option linter.unusedSimpArgs false
set_option linter.unusedVariables false
open Go.Fw
set_option maxRecDepth 20000
set_option maxHeartbeats 4000000
attribute [local irreducible] ACalls AMoves
def QF2 :List Book->Nat->Taken->Taken
 | [],_,c=>c
 | x_ :: r,i,c=>QF2 r (i+1) (Qc1 c x_.from_ x_.to x_.nodes)
def Qp2 (except:List Int):List Job->Nat->Taken->Taken
 | [],_,c2=>c2
 | x_1 :: r,i1,c2=>bif (!(Q21 except x_1.id)) then bif (Q30 x_1).2.2.2 then Qp2 except r (i1+1) (Qc1 c2 ((Q30 x_1).1) (w64 ((Q30 x_1).1+(Q30 x_1).2.1)) ((Q30 x_1).2.2.1)) else Qp2 except r (i1+1) c2 else Qp2 except r (i1+1) c2
def Qe4 (c2:Taken):(List Step):=c2.p
def QX5 (s:State) (except:List Int) (c:Taken):(List Step):=Qe4 (Qp2 except s.jobs 0 c)
def Qo0 (s:State) (except:List Int):(List Step):=QX5 s except (QF2 s.books 0 (⟨(QF3 s)⟩:Taken))
theorem take_nil (f t n:Int):Qc1 (⟨[]⟩:Taken) f t n=⟨[]⟩:=by
 unfold Qc1
 cases ((decide (t<=f))||(n==0)) <;> rfl
theorem room_Room_nil {s:State} {except:List Int} (h:(QF3 s).length=0):Qo0 s except=[]:=by
 have g1:∀ (l:List Book) (i:Nat),QF2 l i (⟨[]⟩:Taken)=⟨[]⟩:=by
  intro l
  induction l with
  | nil=>intro i;rfl
  | cons x r ih=>intro i;rw [QF2,take_nil];exact ih _
 have g2:∀ (l:List Job) (i:Nat),Qp2 except l i (⟨[]⟩:Taken)=⟨[]⟩:=by
  intro l
  induction l with
  | nil=>intro i;rfl
  | cons x r ih =>
   intro i
   rw [Qp2,take_nil]
   repeat' first|exact ih _|(rw [Bool.cond_eq_ite];split)
 unfold Qo0 QX5 Qe4
 rw [List.eq_nil_of_length_eq_zero h,g1,g2]
theorem b14a0 {P:Prop} (h:P:=by first|(((try dsimp only);exact Q09 (by assumption)))|first|(((try dsimp only);exact Q09 hx))|first|(exact Qo4 _)|exact exA):P:=h
theorem QS8 (s:State) (except:List Int) (hs0:s.sz) (hs1:except.length<=4294967296):GV 47 [State.a s,ints except] (stepL (Qo0 s except)):=by
 generalize hR:Qo0 s except=R;refine ga (.cons (State.low _ _) (.cons lw .nil)) lw (kp 12 [15,21,22,23,24,37,38,39,40,47]) Tryz.func47 ?_;have hk0:=hs0;obtain ⟨z14,z15,z16,z17,z18,z19,z20⟩:=hs0;have hk1:=hs1;obtain z21:except.length<=4294967296:=hs1;refine us (room_Busy_c s (by first|(exact Qo4 _)|exact szA) _) ?_;intro nb3 hb3
 cases nb3
 ·refine ai (fun h=>nomatch h) (fun _=>?_);refine Qh0 (fun (i:Nat) (c:Taken)=>QX5 s except (QF2 (List.drop i s.books) i c)=R∧i<=s.books.length∧c.p.length<=4294967296) (fun i c=>s.books.length - i) (fun i c=>[(1,ints except),(2,AVal.ptr 0 0 8 0 0),(4,AVal.lit (.slice none 0 0)),(6,AVal.ptr 2 0 1 0 0),(7,AVal.fn (.func 135) [] [AVal.ptr 2 0 1 0 0]),(21,bookL s.books),(22,I (s.books.length:Int)),(23,I (i:Int))]) (fun i c=>[(0,AObj.row 28 8 [[I s.now,nodeL s.nodes,jobL s.jobs,Q02 s.resizes,bookL s.books,QU1 s.ledger,I s.nextJob,I s.nextBook]]),(0,AObj.row 185 1 [[stepL c.p]]),(0,AObj.row 183 1 [[AVal.ptr 1 0 1 0 0]])]) 0 (⟨(QF3 s)⟩:Taken) (wk [0,1,2] (tO rfl (ts State.lo) (tO rfl (ts Taken.lo) (tO rfl (Qd0 (cv (Q10 1 rfl rfl) .nil)) .nil))) (sl lw (sv (Q10 0 rfl rfl) (s1 (sv (Q10 2 rfl rfl) (sv (QH0 .nil (cv (Q10 2 rfl rfl) .nil)) (sl lw (s1 (s1 .nil))))))))) ⟨foll hR rfl,by exact omA,b14a0⟩ ?_;clear hR;rintro i c ⟨hR,hj,hx⟩;(try dsimp only at hR hj hx);refine ai (fun h1=>?_) (fun h2=>?_)
  ·have hlt:=ltA h1;rw [Q90 Book.zero hlt] at hR;refine ai gkA ?_;refine us (mv [1] (Qy6 c ((s.books.getD i Book.zero).from_) ((s.books.getD i Book.zero).to) ((s.books.getD i Book.zero).nodes) (by first|(exact Qo4 _)|exact szA)) (dO (ds Taken.lo) .nil) (dp (d1 (d1 (d1 .nil)))) (rO (re Taken.lo) .nil) rx) ?_;exact Q60 (i+1) (Qc1 c (s.books.getD i Book.zero).from_ (s.books.getD i Book.zero).to (s.books.getD i Book.zero).nodes) (wk [0,1,2] (tO rfl (ts State.lo) (tO rfl (ts Taken.lo) (tO rfl (Qd0 (cv (Q10 1 rfl rfl) .nil)) .nil))) (sl lw (sv (Q10 0 rfl rfl) (s1 (sv (Q10 2 rfl rfl) (sv (QH0 .nil (cv (Q10 2 rfl rfl) .nil)) (sl lw (s1 (sv (Q80 (I_eq (wr omA)) lx) .nil))))))))) omA ⟨foll hR (congrArg (fun p:Taken=>QX5 s except p) rfl),by exact omA,b14a0⟩
  ·rw [Qf0 (l:=s.books) (j:=i) (geA h2)] at hR;replace hR:QX5 s except c=R:=fo2 (fun p:Taken=>QX5 s except p) (c) hR rfl;refine Qh0 (fun (i1:Nat) (c2:Taken)=>Qe4 (Qp2 except (List.drop i1 s.jobs) i1 c2)=R∧i1<=s.jobs.length∧c2.p.length<=4294967296) (fun i1 c2=>s.jobs.length - i1) (fun i1 c2=>[(1,ints except),(4,AVal.lit (.slice none 0 0)),(6,AVal.ptr 1 0 1 0 0),(7,AVal.fn (.func 135) [] [AVal.ptr 1 0 1 0 0]),(37,jobL s.jobs),(38,I (s.jobs.length:Int)),(39,I (i1:Int))]) (fun i1 c2=>[(0,AObj.row 185 1 [[stepL c2.p]]),(0,AObj.row 183 1 [[AVal.ptr 0 0 1 0 0]])]) 0 c (wk [1,2] (tO rfl (ts Taken.lo) (tO rfl (Qd0 (cv (Q10 0 rfl rfl) .nil)) .nil)) (sl lw (s1 (sv (Q10 1 rfl rfl) (sv (QH0 .nil (cv (Q10 1 rfl rfl) .nil)) (sl lw (s1 (s1 .nil)))))))) ⟨foll hR rfl,by exact omA,b14a0⟩ ?_;clear hR;rintro i1 c2 ⟨hR,hj,hx⟩;(try dsimp only at hR hj hx);refine ai (fun h3=>?_) (fun h4=>?_)
   ·have hlt:=ltA h3;rw [Q90 Job.zero hlt] at hR;have hxz:(s.jobs.getD i1 Job.zero).sz:=Qy0 (by first|assumption|grind) (Job.szz _);have hkz:=hxz;obtain ⟨z5,z6,z7,z8,z9⟩:=Job.zz hxz;refine ai gkA ?_;refine us (QB1 except ((s.jobs.getD i1 Job.zero).id) (by first|(exact Qo4 _)|exact szA) _) ?_;refine ai (fun h10=>?_) (fun h11=>?_)
    ·refine ACalls.of_cwp (fun _=>true) Tryz.func135 rfl rfl ?_;refine us (QC9 (s.jobs.getD i1 Job.zero) (by first|(exact Qo4 _)|exact szA) _) ?_;refine ai (fun h12=>?_) (fun h13=>?_)
     ·refine us (mv [0] (Qy6 c2 ((Q30 (s.jobs.getD i1 Job.zero)).1) (w64 ((Q30 (s.jobs.getD i1 Job.zero)).1+(Q30 (s.jobs.getD i1 Job.zero)).2.1)) ((Q30 (s.jobs.getD i1 Job.zero)).2.2.1) (by first|(exact Qo4 _)|exact szA)) (dO (ds Taken.lo) .nil) (dp (d1 (d1 (d1 .nil)))) (rO (re Taken.lo) .nil) rx) ?_;refine ⟨_,_,Told.refl,?_⟩;exact Q60 (i1+1) (Qc1 c2 ((Q30 (s.jobs.getD i1 Job.zero)).1) (w64 ((Q30 (s.jobs.getD i1 Job.zero)).1+(Q30 (s.jobs.getD i1 Job.zero)).2.1)) ((Q30 (s.jobs.getD i1 Job.zero)).2.2.1)) (wk [0,1] (tO rfl (ts Taken.lo) (tO rfl (Qd0 (cv (Q10 0 rfl rfl) .nil)) .nil)) (sl lw (s1 (sv (Q10 1 rfl rfl) (sv (QH0 .nil (cv (Q10 1 rfl rfl) .nil)) (sl lw (s1 (sv (Q80 (I_eq (wr omA)) lx) .nil)))))))) omA ⟨foll hR (congrArg (fun p:Taken=>Qe4 p) (ct h10 (ct h12 rfl))),by exact omA,b14a0⟩
     ·refine ⟨_,_,Told.refl,?_⟩;exact Q60 (i1+1) c2 (wk [0,1] (tO rfl (ts Taken.lo) (tO rfl (Qd0 (cv (Q10 0 rfl rfl) .nil)) .nil)) (sl lw (s1 (sv (Q10 1 rfl rfl) (sv (QH0 .nil (cv (Q10 1 rfl rfl) .nil)) (sl lw (s1 (sv (Q80 (I_eq (wr omA)) lx) .nil)))))))) omA ⟨foll hR (congrArg (fun p:Taken=>Qe4 p) (ct h10 (cf h13 rfl))),by exact omA,b14a0⟩
    ·exact Q60 (i1+1) c2 (wk [0,1] (tO rfl (ts Taken.lo) (tO rfl (Qd0 (cv (Q10 0 rfl rfl) .nil)) .nil)) (sl lw (s1 (sv (Q10 1 rfl rfl) (sv (QH0 .nil (cv (Q10 1 rfl rfl) .nil)) (sl lw (s1 (sv (Q80 (I_eq (wr omA)) lx) .nil)))))))) omA ⟨foll hR (congrArg (fun p:Taken=>Qe4 p) (cf h11 rfl)),by exact omA,b14a0⟩
   ·rw [Qf0 (l:=s.jobs) (j:=i1) (geA h4)] at hR;replace hR:Qe4 c2=R:=fo2 (fun p:Taken=>Qe4 p) (c2) hR rfl;obtain rfl:=foll hR rfl;exact Q00 lw sr
 ·have hl3:(QF3 s).length=0:=Decidable.byContradiction fun hn=>absurd (hb3 hn) (by decide);refine ai (fun _=>?_) (fun h=>nomatch h);obtain rfl:=foll hR (room_Room_nil hl3);exact Q00 lw (Qs0)
theorem QT8 (s:State) (ex:List Int):(Qo0 s ex).length<=4294967296:=by
 have g1:∀ (l:List Book) (i:Nat) (t:Taken),t.p.length<=4294967296->(QF2 l i t).p.length<=4294967296:=by
  intro l
  induction l with
  | nil=>intro i t h;exact h
  | cons x r ih=>intro i t h;rw [QF2];exact ih _ _ (Q09 h)
 have g2:∀ (l:List Job) (i:Nat) (t:Taken),t.p.length<=4294967296->(Qp2 ex l i t).p.length<=4294967296:=by
  intro l
  induction l with
  | nil=>intro i t h;exact h
  | cons x r ih =>
   intro i t h
   rw [Qp2]
   repeat' first|exact ih _ _ h|exact ih _ _ (Q09 h)|(rw [Bool.cond_eq_ite];split)
 exact g2 _ _ _ (g1 _ _ _ (Qo4 s))
end Go.Proofs.YtcbolcknapeneaaGreatDoor
namespace Go.Proofs.YtcbolcknapeneaaGreatDoor
set_option linter.unusedSimpArgs false
set_option linter.unusedVariables false
open Go.Fw
set_option maxRecDepth 20000
set_option maxHeartbeats 4000000
attribute [local irreducible] ACalls AMoves
def Qy5 (s:State) (j:Job) (latest:Int):Int × Int × Bool:=bif (((Ql2 s)!=0)||((QK1 j)!=0)) then (0,0,false) else ((Ql3 (Qo0 s ([j.id]:List Int)) (Qk0 j.shape) s.now latest 12).1,(Ql3 (Qo0 s ([j.id]:List Int)) (Qk0 j.shape) s.now latest 12).2.1,(Ql3 (Qo0 s ([j.id]:List Int)) (Qk0 j.shape) s.now latest 12).2.2)
theorem b15a0 {P:Prop} (h:P:=by first|((with_reducible exact QT8 _ _))|first|(((with_reducible refine Qt8 _ ?_);exact hs1.2.2.2.1))|exact szA):P:=h
theorem plan_One_c (s:State) (j:Job) (latest:Int) (hs0:s.sz) (hs1:j.sz):GV 14 [State.a s,Job.a j,I latest] (AVal.tup [I ((Qy5 s j latest).1),I ((Qy5 s j latest).2.1),Bo ((Qy5 s j latest).2.2)]):=by
 generalize hR:Qy5 s j latest=R;refine ga (.cons (State.low _ _) (.cons (Job.low _ _) (l1 .nil))) (Low.tup' (l1 (l1 (l1 .nil)))) (kp 9 [16]) Tryz.func14 ?_;have hk0:=hs0;obtain ⟨z3,z4,z5,z6,z7,z8,z9⟩:=hs0;obtain ⟨z10,z11,z12,z13,z14⟩:=Job.zz hs1;refine us (QS5 s b15a0 _) ?_;(first|apply u2|apply u3|apply u4|apply us);exact Qn6 j b15a0 _;refine ai (fun h1=>?_) (fun h2=>?_)
 ·obtain rfl:=foll hR (ct h1 rfl);exact Q00 (Low.tup' (l1 (l1 (l1 .nil)))) (Seen.tup (e1 (e1 (e1 .nil))))
 ·refine dchk (by kernel_rfl) ?_;(first|apply u2|apply u3|apply u4|apply us);exact AGives.as2 (QS8 s ([j.id]:List Int) b15a0 b15a0 _) (a1 (av (Qf4 (c:=(fun q_=>[I q_])) (d:=0) ([j.id]:List Int) rfl) .nil));(first|apply u2|apply u3|apply u4|apply us);exact QG2 j.shape b15a0 _;(first|apply u2|apply u3|apply u4|apply us);exact QO9 (Qo0 s ([j.id]:List Int)) (Qk0 j.shape) s.now latest 12 b15a0 b15a0 _;(repeat ((first|refine ai rfl ?_|refine ai (fun _=>rfl) ?_|refine ai (fun _=>AGives.as2 (QS8 s ([j.id]:List Int) b15a0 b15a0 _) (a1 (av (Qf4 (c:=(fun q_=>[I q_])) (d:=0) ([j.id]:List Int) rfl) .nil))) ?_|refine ai (fun _=>QG2 j.shape b15a0 _) ?_|refine ai (fun _=>QO9 (Qo0 s ([j.id]:List Int)) (Qk0 j.shape) s.now latest 12 b15a0 b15a0 _) ?_)));obtain rfl:=foll hR (cf h2 rfl);exact Q00 (Low.tup' (l1 (l1 (l1 .nil)))) (Seen.tup (e1 (e1 (e1 .nil))))
def Ql7 (s:State):Bool:=bif ((Ql2 s)!=0) then false else (!(Qi2 s.jobs (fun (y:Job)=>((Q30 y).2.2.2&&((decide ((w64 ((Q30 y).1+(Q30 y).2.1)) > 1000000))||(decide ((Qz0 (Qo0 s []) (max (Q30 y).1 s.now) (w64 ((Q30 y).1+(Q30 y).2.1)))<0)))))))
theorem b15a1 {P:Prop} (h:P:=by first|((with_reducible exact QT8 _ _))|exact szA):P:=h
theorem Qn9 (s:State) (hs0:s.sz):GV 16 [State.a s] (Bo (Ql7 s)):=by
 generalize hR:Ql7 s=R;refine ga (.cons (State.low _ _) .nil) lx (kp 4 [6]) Tryz.func16 ?_;have hk0:=hs0;obtain ⟨z17,z18,z19,z20,z21,z22,z23⟩:=hs0;refine us (QS5 s b15a1 _) ?_;refine ai (fun h1=>?_) (fun h2=>?_)
 ·obtain rfl:=foll hR (ct h1 rfl);exact Q00 lx sr
 ·refine us (AGives.as2 (QS8 s [] b15a1 b15a1 _) (a1 (av (Q79) .nil))) ?_;have cl1:∀ (y1:Job) (hzy1:y1.sz),AMoves Tryz.prog 53 [Job.a y1,AVal.ptr 1 0 1 0 0,AVal.ptr 0 0 8 0 0] [(0,AObj.row 28 8 [[I s.now,nodeL s.nodes,jobL s.jobs,Q02 s.resizes,bookL s.books,QU1 s.ledger,I s.nextJob,I s.nextBook]]),(0,AObj.row 85 1 [[stepL (Qo0 s [])]])] 2 (Bo ((fun (y:Job)=>((Q30 y).2.2.2&&((decide ((w64 ((Q30 y).1+(Q30 y).2.1)) > 1000000))||(decide ((Qz0 (Qo0 s []) (max (Q30 y).1 s.now) (w64 ((Q30 y).1+(Q30 y).2.1)))<0))))) y1)) [(0,AObj.row 28 8 [[I s.now,nodeL s.nodes,jobL s.jobs,Q02 s.resizes,bookL s.books,QU1 s.ledger,I s.nextJob,I s.nextBook]]),(0,AObj.row 85 1 [[stepL (Qo0 s [])]])]:=by
   intro y1 hzy1;have hky1:=hzy1;obtain ⟨z3,z4,z5,z6,z7⟩:=Job.zz hzy1;have hR:(fun (y:Job)=>((Q30 y).2.2.2&&((decide ((w64 ((Q30 y).1+(Q30 y).2.1)) > 1000000))||(decide ((Qz0 (Qo0 s []) (max (Q30 y).1 s.now) (w64 ((Q30 y).1+(Q30 y).2.1)))<0))))) y1=(fun (y:Job)=>((Q30 y).2.2.2&&((decide ((w64 ((Q30 y).1+(Q30 y).2.1)) > 1000000))||(decide ((Qz0 (Qo0 s []) (max (Q30 y).1 s.now) (w64 ((Q30 y).1+(Q30 y).2.1)))<0))))) y1:=rfl;refine mo (kp 9 []) Tryz.func53 ?_;refine us (QC9 y1 b15a1 _) ?_;(first|apply u2|apply u3|apply u4|apply us);exact Qp9 (Qo0 s []) (max (Q30 y1).1 s.now) (w64 ((Q30 y1).1+(Q30 y1).2.1)) b15a1 _;refine Qm0 (fun r:Bool=>Bo r) (fun _=>[(0,AObj.row 28 8 [[I s.now,nodeL s.nodes,jobL s.jobs,Q02 s.resizes,bookL s.books,QU1 s.ledger,I s.nextJob,I s.nextBook]]),(0,AObj.row 85 1 [[stepL (Qo0 s [])]])]) (leaf:=((Q30 y1).2.2.2&&((decide ((w64 ((Q30 y1).1+(Q30 y1).2.1)) > 1000000))||(decide ((Qz0 (Qo0 s []) (max (Q30 y1).1 s.now) (w64 ((Q30 y1).1+(Q30 y1).2.1)))<0))))) (foll hR rfl) ?_;exact tt [0,1] (tO rfl (ts State.lo) (tO rfl (ts (lv lw LowL.nil)) .nil)) t1
  have hof1:AMoves Tryz.prog 52 [jobL s.jobs,AVal.fn (.func 53) [] [AVal.ptr 1 0 1 0 0,AVal.ptr 0 0 8 0 0]] [(0,AObj.row 28 8 [[I s.now,nodeL s.nodes,jobL s.jobs,Q02 s.resizes,bookL s.books,QU1 s.ledger,I s.nextJob,I s.nextBook]]),(0,AObj.row 85 1 [[stepL (Qo0 s [])]])] 2 (Bo (Qi2 s.jobs (fun (y:Job)=>((Q30 y).2.2.2&&((decide ((w64 ((Q30 y).1+(Q30 y).2.1)) > 1000000))||(decide ((Qz0 (Qo0 s []) (max (Q30 y).1 s.now) (w64 ((Q30 y).1+(Q30 y).2.1)))<0))))))) [(0,AObj.row 28 8 [[I s.now,nodeL s.nodes,jobL s.jobs,Q02 s.resizes,bookL s.books,QU1 s.ledger,I s.nextJob,I s.nextBook]]),(0,AObj.row 85 1 [[stepL (Qo0 s [])]])]:=by
   have hR:Qi2 s.jobs (fun (y:Job)=>((Q30 y).2.2.2&&((decide ((w64 ((Q30 y).1+(Q30 y).2.1)) > 1000000))||(decide ((Qz0 (Qo0 s []) (max (Q30 y).1 s.now) (w64 ((Q30 y).1+(Q30 y).2.1)))<0)))))=Qi2 s.jobs (fun (y:Job)=>((Q30 y).2.2.2&&((decide ((w64 ((Q30 y).1+(Q30 y).2.1)) > 1000000))||(decide ((Qz0 (Qo0 s []) (max (Q30 y).1 s.now) (w64 ((Q30 y).1+(Q30 y).2.1)))<0))))):=rfl;refine mo (kp 5 []) Tryz.func52 ?_;have hof2:AMoves Tryz.prog 65 [jobL s.jobs,AVal.fn (.func 53) [] [AVal.ptr 1 0 1 0 0,AVal.ptr 0 0 8 0 0]] [(0,AObj.row 28 8 [[I s.now,nodeL s.nodes,jobL s.jobs,Q02 s.resizes,bookL s.books,QU1 s.ledger,I s.nextJob,I s.nextBook]]),(0,AObj.row 85 1 [[stepL (Qo0 s [])]])] 2 (I (Qm2 s.jobs (fun (y:Job)=>((Q30 y).2.2.2&&((decide ((w64 ((Q30 y).1+(Q30 y).2.1)) > 1000000))||(decide ((Qz0 (Qo0 s []) (max (Q30 y).1 s.now) (w64 ((Q30 y).1+(Q30 y).2.1)))<0))))))) [(0,AObj.row 28 8 [[I s.now,nodeL s.nodes,jobL s.jobs,Q02 s.resizes,bookL s.books,QU1 s.ledger,I s.nextJob,I s.nextBook]]),(0,AObj.row 85 1 [[stepL (Qo0 s [])]])]:=by
    have hR:Qm2 s.jobs (fun (y:Job)=>((Q30 y).2.2.2&&((decide ((w64 ((Q30 y).1+(Q30 y).2.1)) > 1000000))||(decide ((Qz0 (Qo0 s []) (max (Q30 y).1 s.now) (w64 ((Q30 y).1+(Q30 y).2.1)))<0)))))=Qm2 s.jobs (fun (y:Job)=>((Q30 y).2.2.2&&((decide ((w64 ((Q30 y).1+(Q30 y).2.1)) > 1000000))||(decide ((Qz0 (Qo0 s []) (max (Q30 y).1 s.now) (w64 ((Q30 y).1+(Q30 y).2.1)))<0))))):=rfl;refine mo (kp 6 [7,8,9,16]) Tryz.func65 ?_;refine Qc0 (fun (i:Nat)=>Qt4 (fun (y:Job)=>((Q30 y).2.2.2&&((decide ((w64 ((Q30 y).1+(Q30 y).2.1)) > 1000000))||(decide ((Qz0 (Qo0 s []) (max (Q30 y).1 s.now) (w64 ((Q30 y).1+(Q30 y).2.1)))<0))))) (List.drop i s.jobs) i=Qm2 s.jobs (fun (y:Job)=>((Q30 y).2.2.2&&((decide ((w64 ((Q30 y).1+(Q30 y).2.1)) > 1000000))||(decide ((Qz0 (Qo0 s []) (max (Q30 y).1 s.now) (w64 ((Q30 y).1+(Q30 y).2.1)))<0)))))∧i<=s.jobs.length) (fun i=>s.jobs.length - i) (fun i=>[(0,jobL s.jobs),(1,AVal.fn (.func 53) [] [AVal.ptr 1 0 1 0 0,AVal.ptr 0 0 8 0 0]),(4,I 0),(7,I (s.jobs.length:Int)),(8,I (i:Int))]) (fun i=>[(0,AObj.row 28 8 [[I s.now,nodeL s.nodes,jobL s.jobs,Q02 s.resizes,bookL s.books,QU1 s.ledger,I s.nextJob,I s.nextBook]]),(0,AObj.row 85 1 [[stepL (Qo0 s [])]])]) 0 (wk [0,1] (tO rfl (ts State.lo) (tO rfl (ts (lv lw LowL.nil)) .nil)) (sl lw (sv (QH0 .nil (cv (Q10 1 rfl rfl) (cv (Q10 0 rfl rfl) .nil))) (s1 (s1 (s1 .nil)))))) ⟨foll hR rfl,by exact omA⟩ ?_;clear hR;rintro i ⟨hR,hj⟩;(try dsimp only at hR hj);refine ai (fun h8=>?_) (fun h9=>?_)
    ·have hlt:=ltA h8;rw [Q90 Job.zero hlt] at hR;have hxz:(s.jobs.getD i Job.zero).sz:=Qy0 (by first|assumption|grind) (Job.szz _);have hkz:=hxz;obtain ⟨z10,z11,z12,z13,z14⟩:=Job.zz hxz;refine ai gkA ?_;refine us (mv [0,1] (cl1 (s.jobs.getD i Job.zero) szA) (dO (ds State.lo) (dO (ds (lv lw LowL.nil)) .nil)) (dl (Job.low _ _) (dp (dp .nil))) (rO (re State.lo) (rO (re (lv lw LowL.nil)) .nil)) rx) ?_;refine ai (fun h15=>?_) (fun h16=>?_)
     ·refine Qm0 (fun r:Int=>I r) (fun r:Int=>[(0,AObj.row 28 8 [[I s.now,nodeL s.nodes,jobL s.jobs,Q02 s.resizes,bookL s.books,QU1 s.ledger,I s.nextJob,I s.nextBook]]),(0,AObj.row 85 1 [[stepL (Qo0 s [])]])]) (leaf:=(i:Int)) (foll hR (ct h15 rfl)) ?_;exact tt [0,1] (tO rfl (ts State.lo) (tO rfl (ts (lv lw LowL.nil)) .nil)) t1
     ·exact Qi0 (i+1) (wk [0,1] (tO rfl (ts State.lo) (tO rfl (ts (lv lw LowL.nil)) .nil)) (sl lw (sv (QH0 .nil (cv (Q10 1 rfl rfl) (cv (Q10 0 rfl rfl) .nil))) (s1 (s1 (sv (Q80 (I_eq (wr omA)) lx) .nil)))))) omA ⟨foll hR (cf h16 rfl),by exact omA⟩
    ·rw [Qf0 (l:=s.jobs) (j:=i) (geA h9)] at hR;refine Qm0 (fun r:Int=>I r) (fun r:Int=>[(0,AObj.row 28 8 [[I s.now,nodeL s.nodes,jobL s.jobs,Q02 s.resizes,bookL s.books,QU1 s.ledger,I s.nextJob,I s.nextBook]]),(0,AObj.row 85 1 [[stepL (Qo0 s [])]])]) (leaf:=(-1)) (foll hR rfl) ?_;exact tt [0,1] (tO rfl (ts State.lo) (tO rfl (ts (lv lw LowL.nil)) .nil)) t1
   refine us (mv [0,1] (hof2) (dO (ds State.lo) (dO (ds (lv lw LowL.nil)) .nil)) (dl lw (dv (dn_fn .nil (dp (dp .nil))) .nil)) (rO (re State.lo) (rO (re (lv lw LowL.nil)) .nil)) rx) ?_;refine Qm0 (fun r:Bool=>Bo r) (fun r:Bool=>[(0,AObj.row 28 8 [[I s.now,nodeL s.nodes,jobL s.jobs,Q02 s.resizes,bookL s.books,QU1 s.ledger,I s.nextJob,I s.nextBook]]),(0,AObj.row 85 1 [[stepL (Qo0 s [])]])]) (leaf:=(decide ((Qm2 s.jobs (fun (y:Job)=>((Q30 y).2.2.2&&((decide ((w64 ((Q30 y).1+(Q30 y).2.1)) > 1000000))||(decide ((Qz0 (Qo0 s []) (max (Q30 y).1 s.now) (w64 ((Q30 y).1+(Q30 y).2.1)))<0)))))) >= 0))) (foll hR rfl) ?_;exact tt [0,1] (tO rfl (ts State.lo) (tO rfl (ts (lv lw LowL.nil)) .nil)) t1
  refine us (mv [0,1] (hof1) (dO (ds State.lo) (dO (ds (lv lw LowL.nil)) .nil)) (dl lw (dv (dn_fn .nil (dp (dp .nil))) .nil)) (rO (re State.lo) (rO (re (lv lw LowL.nil)) .nil)) rx) ?_;obtain rfl:=foll hR (cf h2 rfl);exact Q00 lx sr
end Go.Proofs.YtcbolcknapeneaaGreatDoor
