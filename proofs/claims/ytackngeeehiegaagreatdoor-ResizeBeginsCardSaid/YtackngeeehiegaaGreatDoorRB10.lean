/-
  What the last text of this claim leans on: an evaluator over the code, contracts of functions, plain laws. Conditions stand in each statement.
-/
import Derived.Test.YtackngeeehiegaaGreatDoorRB8
import Derived.Test.YtackngeeehiegaaGreatDoorRB9
import Derived.Test.YtackngeeehiegaaGreatDoorProg
namespace Go.Proofs.YtackngeeehiegaaGreatDoor
set_option linter.unusedSimpArgs false
set_option linter.unusedVariables false
open Go.Fw
set_option maxRecDepth 20000
set_option maxHeartbeats 4000000
attribute [local irreducible] ACalls AMoves
def table_whole (l:List Job):(List Job):=l
theorem QYd (l:List Job) (hs0:l.length<=4294967296∧(∀ y ∈ l,y.sz)):AMoves Tryz.prog 128 [jobL l] [] 0 (AVal.own 0 0 20 0 l.length) [(0,AObj.row 72 20 (l.map Job.cells))]:=by
 generalize hR:table_whole l=R;refine mo (kp 5 [8,9,10]) Tryz.func128 ?_;obtain ⟨z8,z9⟩:=id hs0;refine us (mv [] (QE9 l szA) .nil (dl lw .nil) (rO rr .nil) (rw_ 0 0 rfl)) ?_;refine Qg0 (fun (i:Nat)=>True∧i<=l.length) (fun i=>l.length - i) (fun i=>[(2,AVal.lit (.slice none 0 0)),(3,AVal.own 0 0 20 0 l.length),(8,I (l.length:Int)),(9,I (i:Int))]) (fun i=>[(0,AObj.row 72 20 (l.map Job.cells))]) 0 (wkA [0]) ⟨trivial,by exact omA⟩ ?_;have hR0:=hR;rintro i ⟨hR,hj⟩;(try dsimp only at hR hj);apply ai<;>intro h1
 ·have hlt:=ltA h1;have hxz:(l.getD i zG).sz:=Qp4 (by first|assumption|grind) (Job.szz _);have hkz:=hxz;obtain ⟨z3,z4,z5,z6,z7⟩:=Job.zz hxz;refine ai gkA ?_;refine ⟨_,QL0 rfl rfl rfl (Qa1 zG i (by first|rfl|exact yma _|omega) ckA) rfl,?_⟩;refine us (QVd ((l.getD i zG).shape.alts) szA _) ?_;refine ai gkA ?_;refine ⟨_,Qb3 rfl rfl rfl rfl (Qa1 zG i (by first|rfl|exact yma _|omega) ckA) rfl rfl (Qh7 zG i (by first|rfl|exact yma _|omega) ckA rfl),?_⟩;refine ai gkA ?_;refine ⟨_,QL0 rfl rfl rfl (Qa1 zG i (by first|rfl|exact yma _|omega) ckA) rfl,?_⟩;refine us (QWd ((l.getD i zG).after) szA _) ?_;refine ai gkA ?_;refine ⟨_,Qb3 rfl rfl rfl rfl (Qa1 zG i (by first|rfl|exact yma _|omega) ckA) rfl rfl (Qh7 zG i (by first|rfl|exact yma _|omega) ckA rfl),?_⟩;exact Qn0 (i+1) (wkA [0]) omA ⟨hR,by exact omA⟩
 ·skip;have hR:=hR0;obtain rfl:=foll hR rfl;exact rq (ttA [0])
def Qr5 (p_:List Step):List Step->Nat->Int
 | [],_=>0
 | x_ :: r,i=>bif (((!(QO2 x_.free))||(decide (x_.at_ > 1000000)))||((decide ((i:Int) > 0))&&((decide (x_.at_<=(p_.getD ((w64 ((i:Int) - 1)).toNat) zE).at_))||(x_.free==(p_.getD ((w64 ((i:Int) - 1)).toNat) zE).free)))) then 100 else Qr5 p_ r (i+1)
def Q42 (p_:List Step):Int:=bif ((((p_.length:Int)==0)||(decide ((p_.length:Int) > 1000)))||((p_.getD 0 zE).at_ != 0)) then 100 else Qr5 p_ p_ 0
theorem Qq7 (p_:List Step) (hs0:p_.length<=4294967296):GV 87 [stepL p_] (I (Q42 p_)):=by
 generalize hR:Q42 p_=R;refine gA (kp 5 [19,20,21,22,23,61]) Tryz.func87 ?_;have hk0:=hs0;obtain z7:p_.length<=4294967296:=hs0;refine ai gkA ?_;apply ai<;>intro h1
 ·obtain rfl:=foll hR (ct h1 rfl);exact Qc0 lx sr
 ·refine Qg0 (fun (i:Nat)=>Qr5 p_ (List.drop i p_) i=R∧i<=p_.length) (fun i=>p_.length - i) (fun i=>[(0,stepL p_),(2,I 0),(20,stepL p_),(21,I (p_.length:Int)),(22,I (i:Int))]) (fun i=>[]) 0 (wkA []) ⟨foll hR (cf h1 rfl),by exact omA⟩ ?_;clear hR;rintro i ⟨hR,hj⟩;(try dsimp only at hR hj);apply ai<;>intro h3
  ·have hlt:=ltA h3;rw [Qa0 zE hlt] at hR;refine ai gkA ?_;refine dchk (by kernel_rfl) ?_;(first|apply u2|apply u3|apply u4|apply us);exact QJ9 ((p_.getD i zE).free) _;refine ai gkA ?_;refine ai gkA ?_;(repeat ((first|refine ai rfl ?_|refine ai (fun _=>rfl) ?_|refine ai (fun _=>QJ9 ((p_.getD i zE).free) _) ?_)));apply ai<;>intro h5
   ·exact lfA
   ·exact Qn0 (i+1) (wkA []) omA ⟨folA,by exact omA⟩
  ·rw [Qd0 (l:=p_) (j:=i) (geA h3)] at hR;exact lfA
theorem QT7 {p:List Step} (h:(Q42 p != 0)=false):1<=p.length∧p.length<=1000∧(p.getD 0 zE).at_=0:=by
 simp only [Q42] at h;revert h;cases h2:((((p.length:Int)==0)||(decide ((p.length:Int) > 1000)))||((p.getD 0 zE).at_ != 0)) with
 | true=>simp
 | false=>intro _;simp at h2;refine ⟨?_,by omega,h2.2⟩;have:=List.length_pos_iff.2 h2.1.1;omega
def Qf0 (p_:List Step) (t:Int):Int:=(w64 ((QW1 (p_.length:Int) (fun (y:Int)=>(decide ((p_.getD (y.toNat) zE).at_ > t)))) - 1))
theorem Qhb (p_:List Step) (t:Int) (hs0:p_.length<=4294967296):GV 133 [stepL p_,I t] (I (Qf0 p_ t)):=by
 generalize hR:Qf0 p_ t=R;refine gA (kp 5 []) Tryz.func133 ?_;have hk0:=hs0;obtain z5:p_.length<=4294967296:=hs0;have cl1:∀ (y1:Int) (hcl:0<=y1∧y1<(p_.length:Int)),AMoves Tryz.prog 203 [I y1,AVal.ptr 0 0 1 0 0,AVal.ptr 1 0 1 0 0] [(0,AObj.row 82 1 [[stepL p_]]),(0,AObj.row 3 1 [[I t]])] 2 (Bo ((fun (y:Int)=>(decide ((p_.getD (y.toNat) zE).at_ > t))) y1)) [(0,AObj.row 82 1 [[stepL p_]]),(0,AObj.row 3 1 [[I t]])]:=by
  intro y1 hcl;have hR:(fun (y:Int)=>(decide ((p_.getD (y.toNat) zE).at_ > t))) y1=(fun (y:Int)=>(decide ((p_.getD (y.toNat) zE).at_ > t))) y1:=rfl;refine mo (kp 5 []) Tryz.func203 ?_;refine dchk (by kernel_rfl) ?_;refine ai gkA ?_;(repeat ((first|refine ai rfl ?_|refine ai (fun _=>rfl) ?_)));refine Qu0 (fun r:Bool=>Bo r) (fun _=>[(0,AObj.row 82 1 [[stepL p_]]),(0,AObj.row 3 1 [[I t]])]) (leaf:=(decide ((p_.getD (y1.toNat) zE).at_ > t))) (foll hR rfl) ?_;exact tt [0,1] (tO rfl (ts (lv lw LowL.nil)) (tO rfl (ts (l1 LowL.nil)) .nil)) t1
 have hof1:AMoves Tryz.prog 202 [I (p_.length:Int),AVal.fn (.func 203) [] [AVal.ptr 0 0 1 0 0,AVal.ptr 1 0 1 0 0]] [(0,AObj.row 82 1 [[stepL p_]]),(0,AObj.row 3 1 [[I t]])] 2 (I (QW1 (p_.length:Int) (fun (y:Int)=>(decide ((p_.getD (y.toNat) zE).at_ > t))))) [(0,AObj.row 82 1 [[stepL p_]]),(0,AObj.row 3 1 [[I t]])]:=by
  have hR:QW1 (p_.length:Int) (fun (y:Int)=>(decide ((p_.getD (y.toNat) zE).at_ > t)))=QW1 (p_.length:Int) (fun (y:Int)=>(decide ((p_.getD (y.toNat) zE).at_ > t))):=rfl;refine mo (kp 8 [11,21]) Tryz.func202 ?_;refine Qb0 (fun (i:Int) (j:Int)=>∃ m,((j - i).toNat)<m∧QP5 (Qf1 (fun (y:Int)=>(decide ((p_.getD (y.toNat) zE).at_ > t))) m i j).1 (Qf1 (fun (y:Int)=>(decide ((p_.getD (y.toNat) zE).at_ > t))) m i j).2=QW1 (p_.length:Int) (fun (y:Int)=>(decide ((p_.getD (y.toNat) zE).at_ > t)))∧0<=i∧i<=j∧j<=(p_.length:Int)) (fun i j=>((j - i).toNat)) (fun i j=>[(1,AVal.fn (.func 203) [] [AVal.ptr 0 0 1 0 0,AVal.ptr 1 0 1 0 0]),(4,I 0),(5,I i),(6,I j)]) (fun i j=>[(0,AObj.row 82 1 [[stepL p_]]),(0,AObj.row 3 1 [[I t]])]) 0 (p_.length:Int) (wkA [0,1]) ⟨_,yCa _,foll hR rfl,by exact exA⟩ ?_;clear hR;rintro i j ⟨m,hm,hR,hx⟩;(try dsimp only at hR hm hx);obtain ⟨m,rfl⟩:=sucA m;apply ai<;>intro h1
  ·have qh1:=yda h1;(have hq0:i<j:=qh1;have hh:w64 (Int.fdiv (wu64 (w64 (i+j))) (2 ^ (min (Int.toNat 1) 64)))=(i+j) / 2:=Q9b hx.1 hq0 hx.2.2 oA;have hh3:w64 (w64 (Int.fdiv (wu64 (w64 (i+j))) (2 ^ (min (Int.toNat 1) 64)))+1)=(i+j) / 2+1:=by rw [hh];exact wr oA);refine ai gkA ?_;refine us (mv [0,1] (cl1 (w64 (Int.fdiv (wu64 (w64 (i+j))) (2 ^ (min (Int.toNat 1) 64)))) ckA) (dO (ds (lv lw LowL.nil)) (dO (ds (l1 LowL.nil)) .nil)) (d1 (dp (dp .nil))) (rO (re (lv lw LowL.nil)) (rO (re (l1 LowL.nil)) .nil)) rx) ?_;apply ai<;>intro h3
   ·exact Q60 (w64 ((w64 (Int.fdiv (wu64 (w64 (i+j))) (2 ^ (min (Int.toNat 1) 64))))+1)) j (wkA [0,1]) (by first|(dsimp only;rw [hh3];omega)|first|(dsimp only;rw [hh];omega)|exact omA) ⟨m,by first|(dsimp only;rw [hh3];omega)|first|(dsimp only;rw [hh];omega)|exact omA,foll hR (congrArg (fun p:Int × Int=>QP5 p.1 p.2) (ct h1 (ct h3 rfl))),by exact exA⟩
   ·exact Q60 i (w64 (Int.fdiv (wu64 (w64 (i+j))) (2 ^ (min (Int.toNat 1) 64)))) (wkA [0,1]) (by first|(dsimp only;rw [hh3];omega)|first|(dsimp only;rw [hh];omega)|exact omA) ⟨m,by first|(dsimp only;rw [hh3];omega)|first|(dsimp only;rw [hh];omega)|exact omA,foll hR (congrArg (fun p:Int × Int=>QP5 p.1 p.2) (ct h1 (cf h3 rfl))),by exact exA⟩
  ·have qh1:=yca h1;replace hR:QP5 i j=QW1 (p_.length:Int) (fun (y:Int)=>(decide ((p_.getD (y.toNat) zE).at_ > t))):=fo2 (fun p:Int × Int=>QP5 p.1 p.2) (i,j) hR (cf h1 rfl);refine Qu0 (fun r:Int=>I r) (fun r:Int=>[(0,AObj.row 82 1 [[stepL p_]]),(0,AObj.row 3 1 [[I t]])]) (leaf:=i) (foll hR rfl) ?_;exact tt [0,1] (tO rfl (ts (lv lw LowL.nil)) (tO rfl (ts (l1 LowL.nil)) .nil)) t1
 refine us (mv [0,1] (hof1) (dO (ds (lv lw LowL.nil)) (dO (ds (l1 LowL.nil)) .nil)) (d1 (dv (dn_fn .nil (dp (dp .nil))) .nil)) (rO (re (lv lw LowL.nil)) (rO (re (l1 LowL.nil)) .nil)) rx) ?_;exact lfA
theorem QB8 {p:List Step} {t:Int} (h1:1<=p.length) (h2:p.length<=1000) (h3:(p.getD 0 zE).at_=0) (ht:0<=t):0<=Qf0 p t∧Qf0 p t<p.length:=by
 obtain ⟨a,b,c,d⟩:=QRa (fun (y:Int)=>(decide ((p.getD (y.toNat) zE).at_ > t))) (N:=p.length) oA;have h4:1<=QW1 (p.length:Int) (fun (y:Int)=>(decide ((p.getD (y.toNat) zE).at_ > t))):=by
  rcases Int.lt_or_le 0 (QW1 (p.length:Int) (fun (y:Int)=>(decide ((p.getD (y.toNat) zE).at_ > t)))) with h|h
  ·omega
  ·have e:QW1 (p.length:Int) (fun (y:Int)=>(decide ((p.getD (y.toNat) zE).at_ > t)))=0:=by omega
   have:=d oA;rw [e] at this;have:=yda this;simp only [Int.toNat_zero] at this;omega
 have e:Qf0 p t=QW1 (p.length:Int) (fun (y:Int)=>(decide ((p.getD (y.toNat) zE).at_ > t))) - 1:=wr oA;rw [e];omega
def Qpa (long:Int) (nodes:Int):Bool:=((Qw5 nodes 1 1000000)&&(Qw5 long 1 1000000))
theorem fit_asks_c (long:Int) (nodes:Int):GV 88 [I long,I nodes] (Bo (Qpa long nodes)):=by
 generalize hR:Qpa long nodes=R;refine gA (kp 5 []) Tryz.func88 ?_;refine us (Q0b nodes 1 1000000 _) ?_;(first|apply u2|apply u3|apply u4|apply us);exact Q0b long 1 1000000 _;exact lfA
def job_copied (j:Job):Job:=j
theorem job_copied_c (j:Job) (hs0:j.sz):GV 262 [Job.a j] (Job.a j):=by
 generalize hR:job_copied j=R;refine gA (kp 3 []) Tryz.func262 ?_;obtain ⟨z1,z2,z3,z4,z5⟩:=Job.zz hs0;refine us (QNd j.shape.alts szA _) ?_;refine us (QPd j.after szA _) ?_;exact lfA
def Qe8 :List Node->Nat->Int
 | [],_=>0
 | x_ :: r,i=>bif (!(QY4 x_)) then 120 else Qe8 r (i+1)
def Q72 (l:List Node):Int:=bif (((l.length:Int)==0)||(decide ((l.length:Int) > 48))) then 120 else Qe8 l 0
theorem Qg5 (l:List Node) (hs0:l.length<=4294967296):GV 108 [nodeL l] (I (Q72 l)):=by
 generalize hR:Q72 l=R;refine gA (kp 4 [11,15,23]) Tryz.func108 ?_;have hk0:=hs0;obtain z7:l.length<=4294967296:=hs0;apply ai<;>intro h1
 ·exact lfA
 ·refine Qg0 (fun (i:Nat)=>Qe8 (List.drop i l) i=R∧i<=l.length) (fun i=>l.length - i) (fun i=>[(0,nodeL l),(2,I 0),(3,I (i:Int))]) (fun i=>[]) 0 (wkA []) ⟨folA,by exact omA⟩ ?_;clear hR;rintro i ⟨hR,hj⟩;(try dsimp only at hR hj);apply ai<;>intro h3
  ·have hlt:=ltA h3;rw [Qa0 zF hlt] at hR;refine ai gkA ?_;refine us (ref12_fine_c (l.getD i zF) _) ?_;apply ai<;>intro h5
   ·exact lfA
   ·exact Qn0 (i+1) (wkA []) omA ⟨folA,by exact omA⟩
  ·rw [Qd0 (l:=l) (j:=i) (geA h3)] at hR;exact lfA
theorem Qnb {l:List Node} (h:(Q72 l != 0)=false):l.length<=48:=by
 simp only [Q72] at h;revert h;cases h2:(((l.length:Int)==0)||(decide ((l.length:Int) > 48))) with
 | true=>simp
 | false=>intro _;simp at h2;omega
def Qg2 (x_:Alt):List Alt->Nat->Sum (Int) (Nat)
 | [],k=>Sum.inr k
 | x_1 :: r,k=>bif (x_.nodes==x_1.nodes) then Sum.inl 70 else Qg2 x_ r (k+1)
def QK0 (s:Shape):List Alt->Nat->Int
 | [],_=>0
 | x_ :: r,i=>bif ((!(Qt1 x_.nodes))||(!(Q52 x_.wall))) then 70 else (Sum.elim id (fun p1:Nat=>QK0 s r (i+1))) (Qg2 x_ (List.drop (i+1) s.alts) (i+1))
def QI3 (s:Shape) (most:Int):Int:=bif (((((decide ((s.alts.length:Int)<1))||(decide ((s.alts.length:Int) > most)))||(s.min != 0))||(s.max != 0))||(s.wall != 0)) then 70 else QK0 s s.alts 0
def Qj1 (s:Shape):Int:=bif (s.kind==3) then bif (((((decide ((s.alts.length:Int) > 0))||(!(Qt1 s.min)))||(!(Qt1 s.max)))||(decide (s.max<s.min)))||(!(Q52 s.wall))) then 70 else 0 else bif (s.kind==2) then QI3 s 6 else bif (s.kind != 1) then 70 else QI3 s 1
theorem Qxd (s:Shape) (hs0:s.sz):GV 260 [Shape.a s] (I (Qj1 s)):=by
 generalize hR:Qj1 s=R;refine gA (kj [1000010] 6 [8,37,40,43,69,74,94,101,116]) Tryz.func260 ?_;have hk0:=hs0;obtain z19:s.alts.length<=4294967296:=hs0;apply ai<;>intro h1
 ·(first|apply u2|apply u3|apply u4|apply us);exact Qlb s.min _;(first|apply u2|apply u3|apply u4|apply us);exact Qlb s.max _;(first|apply u2|apply u3|apply u4|apply us);exact QTe s.wall _;apply ai<;>intro h3
  ·exact lfA
  ·exact lfA
 ·refine Q81 (fun (most:Int)=>QI3 s most=R) (fun most=>[(1,AVal.ptr 0 0 5 0 0),(2,I 0),(3,I most)]) (fun most=>[(0,AObj.row 69 5 [[I s.kind,altL s.alts,I s.min,I s.max,I s.wall]])]) ?_ ?_
  ·clear hR;rintro most hR;(try dsimp only at hR);apply ai<;>intro h5
   ·exact lfA
   ·refine Qg0 (fun (i:Nat)=>QK0 s (List.drop i s.alts) i=R∧i<=s.alts.length) (fun i=>s.alts.length - i) (fun i=>[(1,AVal.ptr 0 0 5 0 0),(2,I 0),(4,I (i:Int))]) (fun i=>[(0,AObj.row 69 5 [[I s.kind,altL s.alts,I s.min,I s.max,I s.wall]])]) 0 (wkA [0]) ⟨folA,by exact omA⟩ ?_;clear hR;rintro i ⟨hR,hj⟩;(try dsimp only at hR hj);apply ai<;>intro h7
    ·have hlt:=ltA h7;rw [Qa0 zA hlt] at hR;refine ai gkA ?_;refine us (Qlb ((s.alts.getD i zA).nodes) _) ?_;refine ai gkA ?_;(first|apply u2|apply u3|apply u4|apply us);exact QTe ((s.alts.getD i zA).wall) _;apply ai<;>intro h9
     ·exact lfA
     ·refine Qg0 (fun (k:Nat)=>(Sum.elim id (fun p1:Nat=>QK0 s (List.drop (i+1) s.alts) (i+1))) (Qg2 (s.alts.getD i zA) (List.drop k s.alts) k)=R∧k<=s.alts.length) (fun k=>s.alts.length - k) (fun k=>[(1,AVal.ptr 0 0 5 0 0),(2,I 0),(4,I (i:Int)),(5,I (k:Int)),(74,Bo (decide ((i:Int)<(s.alts.length:Int)))),(94,Bo ((!(Qt1 (s.alts.getD i zA).nodes))||(!(Q52 (s.alts.getD i zA).wall))))]) (fun k=>[(0,AObj.row 69 5 [[I s.kind,altL s.alts,I s.min,I s.max,I s.wall]])]) (i+1) (wkA [0]) ⟨folA,by exact omA⟩ ?_;clear hR;rintro k ⟨hR,hj⟩;(try dsimp only at hR hj);apply ai<;>intro h11
      ·have hlt:=ltA h11;rw [Qa0 zA hlt] at hR;refine dchk (by kernel_rfl) ?_;refine ai gkA ?_;refine ai gkA ?_;(repeat ((first|refine ai rfl ?_|refine ai (fun _=>rfl) ?_)));apply ai<;>intro h13
       ·obtain rfl:=foll hR (congrArg (Sum.elim id (fun p1:Nat=>QK0 s (List.drop (i+1) s.alts) (i+1))) (ct h13 rfl));exact Qc0 lx sr
       ·exact Qn0 (k+1) (wkA [0]) omA ⟨foll hR (congrArg (Sum.elim id (fun p1:Nat=>QK0 s (List.drop (i+1) s.alts) (i+1))) (cf h13 rfl)),by exact omA⟩
      ·rw [Qd0 (l:=s.alts) (j:=k) (geA h11)] at hR;replace hR:(Sum.elim id (fun p1:Nat=>QK0 s (List.drop (i+1) s.alts) (i+1))) (Sum.inr k)=R:=foll hR (congrArg (Sum.elim id (fun p1:Nat=>QK0 s (List.drop (i+1) s.alts) (i+1))) rfl);exact Qn0 (i+1) (wkA [0]) omA ⟨foll hR rfl,by exact omA⟩
    ·rw [Qd0 (l:=s.alts) (j:=i) (geA h7)] at hR;exact lfA
  ·apply ai<;>intro h15
   ·exact Q90 6 (wkA [0]) (foll hR (cf h1 (ct h15 rfl)))
   ·apply ai<;>intro h17
    ·exact lfA
    ·exact Q90 1 (wkA [0]) (foll hR (cf h1 (cf h15 (cf h17 rfl))))
theorem Qr7 {s:Shape} (h:(Qj1 s != 0)=false) (hk:(s.kind != 3)=false):1<=s.min∧s.min<=s.max∧s.max<=48∧w64 (s.max - s.min)=s.max - s.min:=by
 have hk':s.kind=3:=by simpa using hk
 have h1:Qt1 s.min=true∧Qt1 s.max=true ∧ ¬ s.max<s.min:=by
  simp only [Qj1,hk',beq_self_eq_true,cond_true] at h;revert h;cases h2:(((((decide ((s.alts.length:Int) > 0))||(!(Qt1 s.min)))||(!(Qt1 s.max)))||(decide (s.max<s.min)))||(!(Q52 s.wall))) with
  | true=>simp
  | false=>intro _;simp at h2;exact ⟨h2.1.1.1.2,h2.1.1.2,by omega⟩
 obtain ⟨a,b,c⟩:=h1;simp [Qt1] at a b;exact ⟨by omega,by omega,by omega,wr oA⟩
def QU7 (a:Shape) (b:Shape):Bool:=(((((a.kind==b.kind)&&(a.min==b.min))&&(a.max==b.max))&&(a.wall==b.wall))&&(Qa8 a.alts b.alts))
theorem QSe (a:Shape) (b:Shape) (hs0:a.sz) (hs1:b.sz):GV 174 [Shape.a a,Shape.a b] (Bo (QU7 a b)):=by
 generalize hR:QU7 a b=R;refine gA (kp 5 []) Tryz.func174 ?_;have hk0:=hs0;obtain z1:a.alts.length<=4294967296:=hs0;have hk1:=hs1;obtain z2:b.alts.length<=4294967296:=hs1;(first|apply u2|apply u3|apply u4|apply us);exact Qof a.alts b.alts szA szA _;exact lfA
def QC6 :List (Nat × Int)->Nat->Int × Int
 | [],n=>((n:Int),0)
 | x_ :: r,n=>bif ((Qj0 x_.2)==0) then ((n:Int),40) else QC6 r (n+1)
def Q04 (s:ByteArray):Int × Int:=QC6 (Qf8 s) 0
theorem Qza (s:ByteArray) (hs0:s.size<=4294967296):GV 298 [Sg s] (AVal.tup [I ((Q04 s).1),I ((Q04 s).2)]):=by
 generalize hR:Q04 s=R;refine gA (kp 7 [8,9,10,14]) Tryz.func298 ?_;have hk0:=hs0;obtain z5:s.size<=4294967296:=hs0;refine Qb0 (fun (n:Nat) (pos:Nat)=>∃ m,ByteArray.size s - pos<=m∧QC6 (QL4 s m pos) n=R∧n<=pos) (fun n pos=>ByteArray.size s - pos) (fun n pos=>[(2,I 0),(3,I 0),(4,I (n:Int)),(8,AVal.ptr 0 0 1 0 0)]) (fun n pos=>[(0,AObj.other (.strIter s pos))]) 0 0 (wkA [0]) ⟨ByteArray.size s,by exact omA,foll hR rfl,by exact exA⟩ ?_;clear hR;rintro n pos ⟨m,hm,hR,hx⟩;(try dsimp only at hR hm hx);apply ai<;>intro h1
 ·have hlt:=yda h1;have hw:=Q09 s pos;have hwe:=QZ8 s pos hlt;obtain ⟨m,rfl⟩:=sucA m;rw [Qy3 h1] at hR;refine ai (fun _=>?_) (fun h=>nomatch h);refine us (Qe5 ((pos,((Utf8.decode s pos).1:Int)).2) _) ?_;apply ai<;>intro h3
  ·exact lfA
  ·exact Q60 (n+1) (pos+(Utf8.decode s pos).2) (wkA [0]) omA ⟨m,by exact omA,foll hR (cf h3 rfl),by exact exA⟩
 ·rw [Qd6 h1] at hR;refine ai (fun h=>nomatch h) (fun _=>?_);exact lfA
def Qd3 (l:List Int) (at_:Int):Nat->Int->Int
 | 0,_=>0
 | m+1,i=>bif (decide (i<(l.length:Int))) then bif ((((((Qj0 (l.getD (at_.toNat) 0))==2)&&((Qj0 (l.getD (i.toNat) 0))!=2))&&((Qj0 (l.getD (i.toNat) 0))!=3))&&((l.getD (i.toNat) 0)!=45))&&((l.getD (i.toNat) 0)!=95)) then i else bif (((Qj0 (l.getD (at_.toNat) 0))==3)&&(!(QAa (l.getD (i.toNat) 0)))) then i else Qd3 l at_ m (w64 (i+1)) else i
def QF1 (l:List Int) (at_:Int):Int:=Qd3 l at_ ((((l.length:Int) - (w64 (at_+1))).toNat)+1) (w64 (at_+1))
theorem Q2h (l:List Int) (at_:Int) (hs0:l.length<=4294967296) (hp0:0<=at_∧at_<(l.length:Int)):GV 325 [runes l,I at_] (I (QF1 l at_)):=by
 generalize hR:QF1 l at_=R;refine gA (kp 8 [18,47,58]) Tryz.func325 ?_;have hk0:=hs0;obtain z7:l.length<=4294967296:=hs0;have hw0:w64 (at_+1)=at_+1:=wr oA;refine ai gkA ?_;refine us (Qe5 (l.getD (at_.toNat) 0) _) ?_;refine Qg0 (fun (i:Int)=>∃ m,(((l.length:Int) - i).toNat)<m∧Qd3 l at_ m i=R∧0<=i∧i<=(l.length:Int)) (fun i=>(((l.length:Int) - i).toNat)) (fun i=>[(0,runes l),(4,I 0),(5,I (Qj0 (l.getD (at_.toNat) 0))),(6,I i)]) (fun i=>[]) (w64 (at_+1)) (wkA []) ⟨_,yCa _,foll hR rfl,by exact exA⟩ ?_;clear hR;rintro i ⟨m,hm,hR,hx⟩;(try dsimp only at hR hm hx);obtain ⟨m,rfl⟩:=sucA m;apply ai<;>intro h1
 ·have qh1:=yda h1;have hw1:w64 (i+1)=i+1:=wr oA;refine ai gkA ?_;refine us (Qe5 (l.getD (i.toNat) 0) _) ?_;refine ai gkA ?_;refine ai gkA ?_;apply ai<;>intro h3
  ·exact lfA
  ·refine ai gkA ?_;(first|apply u2|apply u3|apply u4|apply us);exact ref05_small_c (l.getD (i.toNat) 0) _;apply ai<;>intro h5
   ·exact lfA
   ·exact Qn0 (w64 (i+1)) (wkA []) omA ⟨m,by exact omA,foll hR (ct h1 (cf h3 (cf h5 rfl))),by exact exA⟩
 ·have qh1:=yca h1;exact lfA
theorem Q3h (l:List Int) (at_:Int) (h:l.length<=400):∀ (m:Nat) (i:Int),0<=i->i<=l.length->0<=Qd3 l at_ m i∧Qd3 l at_ m i<=l.length∧(((l.length:Int) - i).toNat<m->i<=Qd3 l at_ m i):=by
 intro m
 induction m with
 | zero=>intro i h0 h1;refine ⟨by simp [Qd3],by simp [Qd3],fun h=>absurd h oA⟩
 | succ m ih =>
  intro i h0 h1;rw [Qd3];cases hd:decide (i<(l.length:Int)) with
  | false=>exact ⟨h0,h1,fun _=>by simp⟩
  | true =>
   have hi:=yda hd;have hw:w64 (i+1)=i+1:=wr oA;simp only [cond_true];cases ((((((Qj0 (l.getD (at_.toNat) 0))==2)&&((Qj0 (l.getD (i.toNat) 0))!=2))&&((Qj0 (l.getD (i.toNat) 0))!=3))&&((l.getD (i.toNat) 0)!=45))&&((l.getD (i.toNat) 0)!=95)) with
   | true=>exact ⟨h0,h1,fun _=>by simp⟩
   | false =>
    simp only [cond_false];cases (((Qj0 (l.getD (at_.toNat) 0))==3)&&(!(QAa (l.getD (i.toNat) 0)))) with
    | true=>exact ⟨h0,h1,fun _=>by simp⟩
    | false =>
     simp only [cond_false];rw [hw];obtain ⟨a,b,c⟩:=ih (i+1) oA oA;exact ⟨a,b,fun hm=>by have:=c oA;omega⟩
theorem QRe (l:List Int) (at_:Int) (h0:0<=at_) (h1:at_<l.length) (h:l.length<=400):at_<QF1 l at_∧QF1 l at_<=l.length:=by
 have hw:w64 (at_+1)=at_+1:=wr oA;unfold QF1;rw [hw];obtain ⟨a,b,c⟩:=Q3h l at_ h ((((l.length:Int) - (at_+1)).toNat)+1) (at_+1) oA oA;have:=c oA;omega
def Qu4 (l:List Dep) (i:Nat) (x_:Dep):Nat->Nat->Sum (Bool) (Nat)
 | 0,_=>Sum.inr 0
 | m+1,k=>bif (decide ((k:Int)<(i:Int))) then bif ((l.getD k zC).job==x_.job) then Sum.inl false else Qu4 l i x_ m (k+1) else Sum.inr k
def Qh2 (l:List Dep):List Dep->Nat->Bool
 | [],_=>true
 | x_ :: r,i=>bif ((!(Ql1 x_.how 1 3))||(!(Ql1 x_.job 1 99999))) then false else (Sum.elim id (fun p1:Nat=>Qh2 l r (i+1))) (Qu4 l i x_ ((((i:Int) - (0:Int)).toNat)+1) 0)
def QV6 (l:List Dep):Bool:=bif (decide ((l.length:Int) > 4)) then false else Qh2 l l 0
theorem ref08_waits_c (l:List Dep) (hs0:l.length<=4294967296):GV 283 [depL l] (Bo (QV6 l)):=by
 generalize hR:QV6 l=R;refine gA (kp 5 [7,11,29,32,45]) Tryz.func283 ?_;have hk0:=hs0;obtain z11:l.length<=4294967296:=hs0;apply ai<;>intro h1
 ·have qh1:=yda h1;exact lfA
 ·have qh1:=yca h1;refine Qg0 (fun (i:Nat)=>Qh2 l (List.drop i l) i=R∧i<=l.length) (fun i=>l.length - i) (fun i=>[(0,depL l),(2,Bo false),(3,I (i:Int))]) (fun i=>[]) 0 (wkA []) ⟨folA,by exact omA⟩ ?_;clear hR;rintro i ⟨hR,hj⟩;(try dsimp only at hR hj);apply ai<;>intro h3
  ·have hlt:=ltA h3;rw [Qa0 zC hlt] at hR;refine ai gkA ?_;refine us (Qd4 ((l.getD i zC).how) 1 3 _) ?_;refine ai gkA ?_;(first|apply u2|apply u3|apply u4|apply us);exact Qd4 ((l.getD i zC).job) 1 99999 _;apply ai<;>intro h5
   ·exact lfA
   ·refine Qg0 (fun (k:Nat)=>∃ m,(((i:Int) - (k:Int)).toNat)<m∧(Sum.elim id (fun p1:Nat=>Qh2 l (List.drop (i+1) l) (i+1))) (Qu4 l i (l.getD i zC) m k)=R∧(k:Int)<=(i:Int)) (fun k=>(((i:Int) - (k:Int)).toNat)) (fun k=>[(0,depL l),(2,Bo false),(3,I (i:Int)),(4,I (k:Int)),(11,Bo (decide ((i:Int)<(l.length:Int)))),(29,Bo ((!(Ql1 (l.getD i zC).how 1 3))||(!(Ql1 (l.getD i zC).job 1 99999))))]) (fun k=>[]) 0 (wkA []) ⟨_,yCa _,foll hR (cf h5 rfl),by exact exA⟩ ?_;clear hR;rintro k ⟨m,hm,hR,hx⟩;(try dsimp only at hR hm hx);obtain ⟨m,rfl⟩:=sucA m;apply ai<;>intro h7
    ·have qh7:=yda h7;refine dchk (by kernel_rfl) ?_;refine ai gkA ?_;refine ai gkA ?_;(repeat ((first|refine ai rfl ?_|refine ai (fun _=>rfl) ?_)));apply ai<;>intro h9
     ·obtain rfl:=foll hR (congrArg (Sum.elim id (fun p1:Nat=>Qh2 l (List.drop (i+1) l) (i+1))) (ct h7 (ct h9 rfl)));exact Qc0 lx sr
     ·exact Qn0 (k+1) (wkA []) omA ⟨m,by exact omA,foll hR (congrArg (Sum.elim id (fun p1:Nat=>Qh2 l (List.drop (i+1) l) (i+1))) (ct h7 (cf h9 rfl))),by exact exA⟩
    ·have qh7:=yca h7;replace hR:(Sum.elim id (fun p1:Nat=>Qh2 l (List.drop (i+1) l) (i+1))) (Sum.inr k)=R:=foll hR (congrArg (Sum.elim id (fun p1:Nat=>Qh2 l (List.drop (i+1) l) (i+1))) (cf h7 rfl));exact Qn0 (i+1) (wkA []) omA ⟨foll hR rfl,by exact omA⟩
  ·rw [Qd0 (l:=l) (j:=i) (geA h3)] at hR;exact lfA
def QE6 (l:List Usage):List Usage->Nat->Int
 | [],_=>0
 | x_ :: r,i=>bif ((((((((i:Int)==200)||(!(QU3 x_.user)))||(!(QU3 x_.account)))||(decide (x_.used<0)))||(decide (x_.used > 1000000000000)))||(decide (x_.share<0)))||(decide (x_.share > x_.used))) then 2 else bif ((decide ((i:Int) > 0))&&(!(QZ7 (l.getD ((w64 ((i:Int) - 1)).toNat) zJ) x_))) then 2 else QE6 l r (i+1)
def Qo9 (l:List Usage):Int:=QE6 l l 0
theorem ref17_Check_c (l:List Usage) (hs0:l.length<=4294967296∧(∀ y ∈ l,y.sz)):GV 160 [QI2 l] (I (Qo9 l)):=by
 generalize hR:Qo9 l=R;refine gA (kp 5 [8,50,62]) Tryz.func160 ?_;obtain ⟨z9,z10⟩:=id hs0;refine Qg0 (fun (i:Nat)=>QE6 l (List.drop i l) i=R∧i<=l.length) (fun i=>l.length - i) (fun i=>[(0,QI2 l),(2,I 0),(3,I (i:Int))]) (fun i=>[]) 0 (wkA []) ⟨foll hR rfl,by exact omA⟩ ?_;clear hR;rintro i ⟨hR,hj⟩;(try dsimp only at hR hj);apply ai<;>intro h1
 ·have hlt:=ltA h1;rw [Qa0 zJ hlt] at hR;have hxz:(l.getD i zJ).sz:=Qp4 (by first|assumption|grind) (Usage.szz _);have hkz:=hxz;obtain ⟨z3,z4⟩:=Usage.zz hxz;refine ai gkA ?_;(first|apply u2|apply u3|apply u4|apply us);exact Q1f ((l.getD i zJ).user) _;(first|apply u2|apply u3|apply u4|apply us);exact Q1f ((l.getD i zJ).account) _;apply ai<;>intro h5
  ·exact lfA
  ·refine dchk (by kernel_rfl) ?_;refine ai gkA ?_;(first|apply u2|apply u3|apply u4|apply us);exact Qzd (l.getD ((w64 ((i:Int) - 1)).toNat) zJ) (l.getD i zJ) _;(repeat ((first|refine ai rfl ?_|refine ai (fun _=>rfl) ?_|refine ai (fun _=>Qzd (l.getD ((w64 ((i:Int) - 1)).toNat) zJ) (l.getD i zJ) _) ?_)));apply ai<;>intro h7
   ·exact lfA
   ·exact Qn0 (i+1) (wkA []) omA ⟨folA,by exact omA⟩
 ·rw [Qd0 (l:=l) (j:=i) (geA h1)] at hR;exact lfA
def Q70 (s:State) (id_:Int):Job × Bool:=bif ((decide ((QA0 s.jobs id_)<0))||((s.jobs.getD ((QA0 s.jobs id_).toNat) zG).state != 2)) then (zG,false) else ((s.jobs.getD ((QA0 s.jobs id_).toNat) zG),true)
theorem Qch (s:State) (id_:Int) (hs0:s.sz):GV 66 [State.a s,I id_] (AVal.tup [Job.a ((Q70 s id_).1),Bo ((Q70 s id_).2)]):=by
 generalize hR:Q70 s id_=R;refine gA (kp 7 [21]) Tryz.func66 ?_;have hk0:=hs0;obtain ⟨z3,z4,z5,z6,z7,z8,z9⟩:=hs0;have hf0:=QCa s.jobs id_;refine us (Qme s.jobs id_ szA _) ?_;refine ai gkA ?_;apply ai<;>intro h1
 ·exact lfA
 ·refine ai gkA ?_;exact lfA
def Qu8 (s:Int) (n:Int):Bool:=bif ((decide (n<0))||(decide (n > 63))) then false else ((Int.tmod (wu64 (Int.tdiv s (Qu7 n))) 2)==1)
theorem Q5h (s:Int) (n:Int):GV 62 [U s,I n] (Bo (Qu8 s n)):=by
 generalize hR:Qu8 s n=R;refine gA (kp 5 [10]) Tryz.func62 ?_;have hf0:=ref09_bit_pos n;apply ai<;>intro h1
 ·exact lfA
 ·refine us (Q8h n ckA _) ?_;refine ai gkA ?_;refine ai gkA ?_;exact lfA
def Q63 (from_:Int) (to_:Int):List Step->Int->Nat->Int × Nat
 | [],out,i=>(out,i)
 | x_ :: r,out,i=>bif (((decide (x_.at_ > from_))&&(decide (x_.at_<to_)))&&(decide (x_.free<out))) then Q63 from_ to_ r x_.free (i+1) else Q63 from_ to_ r out (i+1)
def Qv4 (out:Int) (i:Nat):Int:=out
def QV7 (p_:List Step) (from_:Int) (to_:Int):Int:=bif (((((QW0 p_)!=0)||(decide (from_<0)))||(decide (from_ > 1000000)))||(decide (to_<=from_))) then 0 else Qv4 ((Q63 from_ to_ p_ (Qt5 p_ from_) 0).1) ((Q63 from_ to_ p_ (Qt5 p_ from_) 0).2)
theorem ref10_Least_c (p_:List Step) (from_:Int) (to_:Int) (hs0:p_.length<=4294967296):GV 110 [stepL p_,I from_,I to_] (I (QV7 p_ from_ to_)):=by
 generalize hR:QV7 p_ from_ to_=R;refine gA (kp 9 [24,31,58]) Tryz.func110 ?_;have hk0:=hs0;obtain z7:p_.length<=4294967296:=hs0;refine us (QT8 p_ szA _) ?_;apply ai<;>intro h1
 ·exact lfA
 ·refine us (Q9h p_ from_ szA _) ?_;refine Qb0 (fun (out:Int) (i:Nat)=>Qv4 (Q63 from_ to_ (List.drop i p_) out i).1 (Q63 from_ to_ (List.drop i p_) out i).2=R∧i<=p_.length) (fun out i=>p_.length - i) (fun out i=>[(0,stepL p_),(1,I from_),(2,I to_),(6,I 0),(7,I out),(8,I (i:Int))]) (fun out i=>[]) (Qt5 p_ from_) 0 (wkA []) ⟨folA,by exact omA⟩ ?_;clear hR;rintro out i ⟨hR,hj⟩;(try dsimp only at hR hj);apply ai<;>intro h3
  ·have hlt:=ltA h3;rw [Qa0 zE hlt] at hR;refine ai gkA ?_;refine ai gkA ?_;refine ai gkA ?_;apply ai<;>intro h5
   ·refine ai gkA ?_;exact Q60 ((p_.getD i zE).free) (i+1) (wkA []) omA ⟨foll hR (congrArg (fun p:Int × Nat=>Qv4 p.1 p.2) (ct h5 rfl)),by exact omA⟩
   ·exact Q60 out (i+1) (wkA []) omA ⟨foll hR (congrArg (fun p:Int × Nat=>Qv4 p.1 p.2) (cf h5 rfl)),by exact omA⟩
  ·rw [Qd0 (l:=p_) (j:=i) (geA h3)] at hR;replace hR:Qv4 out i=R:=fo2 (fun p:Int × Nat=>Qv4 p.1 p.2) (out,i) hR rfl;exact lfA
def Qx1 :List Step->List Int->Nat->(List Int) × Nat
 | [],out,i=>(out,i)
 | x_ :: r,out,i=>Qx1 r (Q14 out x_.at_) (i+1)
def QO1 :List Int->List Int->Nat->(List Int) × Nat
 | [],out1,i1=>(out1,i1)
 | x_1 :: r,out1,i1=>QO1 r (Q14 out1 x_1) (i1+1)
def QD5 (out1:List Int) (i1:Nat):(List Int):=out1
def QC5 (more:List Int) (out:List Int) (i:Nat):(List Int):=QD5 ((QO1 more out 0).1) ((QO1 more out 0).2)
def Q91 (p_:List Step) (more:List Int):(List Int):=QC5 more ((Qx1 p_ [] 0).1) ((Qx1 p_ [] 0).2)
theorem b1b0 {P:Prop} (h:P:=by first|((try dsimp only);refine yHa (QU8 _ _) ?_;omega)|exact exA):P:=h
theorem b1b1 {P:Prop} (h:P:=by first|((try dsimp only);refine yHa (QU8 _ _) ?_;omega)|exact szA):P:=h
theorem ref10_Ticks_c (p_:List Step) (more:List Int) (hs0:p_.length<=4294967296) (hs1:more.length<=4294967296) (hp0:p_.length<=1000∧more.length<=2):GV 259 [stepL p_,ints more] (ints (Q91 p_ more)):=by
 generalize hR:Q91 p_ more=R;refine gA (kp 8 [11,24]) Tryz.func259 ?_;have hk0:=hs0;obtain z5:p_.length<=4294967296:=hs0;have hk1:=hs1;obtain z6:more.length<=4294967296:=hs1;refine Qb0 (fun (out:List Int) (i:Nat)=>QC5 more (Qx1 (List.drop i p_) out i).1 (Qx1 (List.drop i p_) out i).2=R∧i<=p_.length∧out.length<=i) (fun out i=>p_.length - i) (fun out i=>[(0,stepL p_),(1,ints more),(4,AVal.lit (.slice none 0 0)),(5,ints out),(6,I (i:Int))]) (fun out i=>[]) [] 0 (wk [] .nil (sl lw (sl lw (s1 (sv (turn_nil) (s1 .nil)))))) ⟨foll hR rfl,by exact omA,b1b0⟩ ?_;clear hR;rintro out i ⟨hR,hj,hx⟩;(try dsimp only at hR hj hx);apply ai<;>intro h1
 ·have hlt:=ltA h1;rw [Qa0 zE hlt] at hR;refine ai gkA ?_;refine us (Qah out ((p_.getD i zE).at_) b1b1 _) ?_;exact Q60 (Q14 out (p_.getD i zE).at_) (i+1) (wkA []) omA ⟨foll hR (congrArg (fun p:(List Int) × Nat=>QC5 more p.1 p.2) rfl),by exact omA,b1b0⟩
 ·rw [Qd0 (l:=p_) (j:=i) (geA h1)] at hR;replace hR:QC5 more out i=R:=fo2 (fun p:(List Int) × Nat=>QC5 more p.1 p.2) (out,i) hR rfl;refine Qb0 (fun (out1:List Int) (i1:Nat)=>QD5 (QO1 (List.drop i1 more) out1 i1).1 (QO1 (List.drop i1 more) out1 i1).2=R∧i1<=more.length∧out1.length<=p_.length+i1) (fun out1 i1=>more.length - i1) (fun out1 i1=>[(1,ints more),(4,AVal.lit (.slice none 0 0)),(5,ints out1),(7,I (i1:Int))]) (fun out1 i1=>[]) out 0 (wkA []) ⟨foll hR rfl,by exact omA,b1b0⟩ ?_;clear hR;rintro out1 i1 ⟨hR,hj,hx⟩;(try dsimp only at hR hj hx);apply ai<;>intro h3
  ·have hlt:=ltA h3;rw [Qa0 0 hlt] at hR;refine ai gkA ?_;refine us (Qah out1 (more.getD i1 0) b1b1 _) ?_;exact Q60 (Q14 out1 (more.getD i1 0)) (i1+1) (wkA []) omA ⟨foll hR (congrArg (fun p:(List Int) × Nat=>QD5 p.1 p.2) rfl),by exact omA,b1b0⟩
  ·rw [Qd0 (l:=more) (j:=i1) (geA h3)] at hR;replace hR:QD5 out1 i1=R:=fo2 (fun p:(List Int) × Nat=>QD5 p.1 p.2) (out1,i1) hR rfl;exact lfA
theorem Qz9:∀ (p:List Step) (out:List Int) (i:Nat),(Qx1 p out i).1.length<=out.length+p.length
 | [],out,i=>by simp [Qx1]
 | x :: r,out,i=>by
  rw [Qx1];have h1:=Qz9 r (Q14 out x.at_) (i+1);have h2:=QU8 out x.at_;simp only [yja];omega
theorem QA9:∀ (p out:List Int) (i:Nat),(QO1 p out i).1.length<=out.length+p.length
 | [],out,i=>by simp [QO1]
 | x :: r,out,i=>by
  rw [QO1];have h1:=QA9 r (Q14 out x) (i+1);have h2:=QU8 out x;simp only [yja];omega
theorem Ql9 (p:List Step) (more:List Int):(Q91 p more).length<=p.length+more.length:=by
 have h1:=Qz9 p [] 0;have h2:=QA9 more (Qx1 p [] 0).1 0;unfold Q91 QC5 QD5;simp only [yJa] at h1;omega
def QZ4 (l:List Job) (id_:Int):Job:=bif (decide ((QA0 l id_)<0)) then zG else (l.getD ((QA0 l id_).toNat) zG)
theorem ref15_Get_c (l:List Job) (id_:Int) (hs0:l.length<=4294967296∧(∀ y ∈ l,y.sz)):GV 258 [jobL l,I id_] (Job.a (QZ4 l id_)):=by
 generalize hR:QZ4 l id_=R;refine gA (kp 6 [10]) Tryz.func258 ?_;obtain ⟨z3,z4⟩:=id hs0;refine us (Qme l id_ szA _) ?_;refine ai (fun h1=>?_) (fun h2=>?_)
 ·have qh1:=yda h1;exact lfA
 ·have qh2:=yca h2;refine And.intro (by first|exact fun hg=>yga (by first|((have hq:=QCa l id_;omega))|exact ckA)|exact gkA) ?_;exact lfA
def Qn8 :List Job->Nat->Bool
 | [],_=>true
 | x_ :: r,i=>bif (!(Q1a x_)) then false else Qn8 r (i+1)
def Qhd (l:List Job):Bool:=bif (decide ((l.length:Int) > 60)) then false else Qn8 l 0
theorem law15_Few_c (l:List Job) (hs0:l.length<=9223372036854775807∧(∀ y ∈ l,y.szM)):GV 26 [jobL l] (Bo (Qhd l)):=by
 generalize hR:Qhd l=R;refine gA (kp 4 [6,10,18]) Tryz.func26 ?_;obtain ⟨z12,z13⟩:=id hs0;refine ai (fun h1=>?_) (fun h2=>?_)
 ·have qh1:=yda h1;exact lfA
 ·have qh2:=yca h2;refine Qg0 (fun (i:Nat)=>Qn8 (List.drop i l) i=R∧i<=l.length) (fun i=>l.length - i) (fun i=>[(0,jobL l),(2,Bo false),(3,I (i:Int))]) (fun i=>[]) 0 (wkA []) ⟨folA,by exact omA⟩ ?_;clear hR;rintro i ⟨hR,hj⟩;(try dsimp only at hR hj);refine ai (fun h3=>?_) (fun h4=>?_)
  ·have hlt:=ltA h3;rw [Qa0 zG hlt] at hR;have hxz:(l.getD i zG).szM:=Qp4 (by first|assumption|grind) (Job.szz _);have hkz:=hxz;obtain ⟨z5,z6,z7,z8,z9⟩:((l.getD i zG).name).size<=9223372036854775807∧((l.getD i zG).user).size<=9223372036854775807∧((l.getD i zG).account).size<=9223372036854775807∧((((l.getD i zG).shape).alts).length<=9223372036854775807)∧((l.getD i zG).after).length<=9223372036854775807:=hxz;refine ai gkA ?_;refine us (law14_Few_c (l.getD i zG) _) ?_;refine ai (fun h10=>?_) (fun h11=>?_)
   ·exact lfA
   ·exact Qn0 (i+1) (wkA []) omA ⟨folA,by exact omA⟩
  ·rw [Qd0 (l:=l) (j:=i) (geA h4)] at hR;exact lfA
def QR0 (x_:Node):Bool:=bif ((((decide (x_.epoch<0))||(decide (x_.epoch > 999999999)))||(!(QP3 x_.since)))||(!(QP3 x_.asked))) then false else bif (x_.state==0) then ((x_.job==0)&&(QJ1 ([0]:List Int) x_.want)) else bif (x_.state==1) then (((decide (x_.job >= 1))&&(decide (x_.job<=99999)))&&(QJ1 ([0,1,3,4]:List Int) x_.want)) else bif (x_.state==2) then (((decide (x_.job >= 1))&&(decide (x_.job<=99999)))&&(QJ1 ([0,2]:List Int) x_.want)) else bif (x_.state==3) then (((decide (x_.job >= 1))&&(decide (x_.job<=99999)))&&(QJ1 ([5]:List Int) x_.want)) else bif (x_.state==4) then ((x_.job==0)&&(QJ1 ([0,6]:List Int) x_.want)) else false
theorem fleet_fine_c (x_:Node):GV 152 [Node.a x_] (Bo (QR0 x_)):=by
 generalize hR:QR0 x_=R;refine gA (kp 5 [24,35,36,41,44,47,50]) Tryz.func152 ?_;(first|apply u2|apply u3|apply u4|apply us);exact Q4b x_.since _;(first|apply u2|apply u3|apply u4|apply us);exact Q4b x_.asked _;apply ai<;>intro h1
 ·exact lfA
 ·refine Or.inl ?_;apply ai<;>intro h3
  ·(first|apply u2|apply u3|apply u4|apply us);exact AGives.as2 (Qu2 ([0]:List Int) x_.want szA _) (av (QX5 (c:=(fun q_=>[I q_])) (d:=0) ([0]:List Int) rfl) (a1 .nil));exact lfA
  ·apply ai<;>intro h5
   ·refine Or.inl ?_;(first|apply u2|apply u3|apply u4|apply us);exact AGives.as2 (Qu2 ([0,1,3,4]:List Int) x_.want szA _) (av (QX5 (c:=(fun q_=>[I q_])) (d:=0) ([0,1,3,4]:List Int) rfl) (a1 .nil));exact lfA
   ·apply ai<;>intro h7
    ·refine Or.inl ?_;(first|apply u2|apply u3|apply u4|apply us);exact AGives.as2 (Qu2 ([0,2]:List Int) x_.want szA _) (av (QX5 (c:=(fun q_=>[I q_])) (d:=0) ([0,2]:List Int) rfl) (a1 .nil));exact lfA
    ·apply ai<;>intro h9
     ·refine Or.inl ?_;(first|apply u2|apply u3|apply u4|apply us);exact AGives.as2 (Qu2 ([5]:List Int) x_.want szA _) (av (QX5 (c:=(fun q_=>[I q_])) (d:=0) ([5]:List Int) rfl) (a1 .nil));exact lfA
     ·apply ai<;>intro h11
      ·refine Or.inl ?_;(first|apply u2|apply u3|apply u4|apply us);exact AGives.as2 (Qu2 ([0,6]:List Int) x_.want szA _) (av (QX5 (c:=(fun q_=>[I q_])) (d:=0) ([0,6]:List Int) rfl) (a1 .nil));exact lfA
      ·exact lfA
def QH6 (l:List Alt):List Alt->Nat->Bool
 | [],_=>true
 | x_ :: r,i=>bif (QY0 (List.take i l) (fun (y:Alt)=>(x_.nodes==y.nodes))) then false else QH6 l r (i+1)
def Qb6 (l:List Alt):Bool:=QH6 l l 0
theorem shape_apart_c (l:List Alt) (hs0:l.length<=4294967296):GV 240 [altL l] (Bo (Qb6 l)):=by
 generalize hR:Qb6 l=R;refine gA (kp 5 [5,6,7,8,16]) Tryz.func240 ?_;have hk0:=hs0;obtain z9:l.length<=4294967296:=hs0;refine Qg0 (fun (i:Nat)=>QH6 l (List.drop i l) i=R∧i<=l.length) (fun i=>l.length - i) (fun i=>[(0,altL l),(2,Bo false),(5,altL l),(6,I (l.length:Int)),(7,I (i:Int))]) (fun i=>[]) 0 (wkA []) ⟨foll hR rfl,by exact omA⟩ ?_;clear hR;rintro i ⟨hR,hj⟩;(try dsimp only at hR hj);apply ai<;>intro h1
 ·have hlt:=ltA h1;rw [Qa0 zA hlt] at hR;refine ai gkA ?_;refine ai gkA ?_;have cl1:∀ (y1:Alt),AMoves Tryz.prog 272 [Alt.a y1,AVal.ptr 0 0 2 0 0] [(0,AObj.row 178 2 [[I (l.getD i zA).nodes,I (l.getD i zA).wall]])] 1 (Bo ((fun (y:Alt)=>((l.getD i zA).nodes==y.nodes)) y1)) [(0,AObj.row 178 2 [[I (l.getD i zA).nodes,I (l.getD i zA).wall]])]:=by
   intro y1;have hR:(fun (y:Alt)=>((l.getD i zA).nodes==y.nodes)) y1=(fun (y:Alt)=>((l.getD i zA).nodes==y.nodes)) y1:=rfl;refine mo (kp 4 []) Tryz.func272 ?_;refine Qu0 (fun r:Bool=>Bo r) (fun _=>[(0,AObj.row 178 2 [[I (l.getD i zA).nodes,I (l.getD i zA).wall]])]) (leaf:=((l.getD i zA).nodes==y1.nodes)) (foll hR rfl) ?_;exact tt [0] (tO rfl (ts Alt.lo) .nil) t1
  have hof1:AMoves Tryz.prog 241 [altL (List.take i l),AVal.fn (.func 272) [] [AVal.ptr 0 0 2 0 0]] [(0,AObj.row 178 2 [[I (l.getD i zA).nodes,I (l.getD i zA).wall]])] 1 (Bo (QY0 (List.take i l) (fun (y:Alt)=>((l.getD i zA).nodes==y.nodes)))) [(0,AObj.row 178 2 [[I (l.getD i zA).nodes,I (l.getD i zA).wall]])]:=by
   have hR:QY0 (List.take i l) (fun (y:Alt)=>((l.getD i zA).nodes==y.nodes))=QY0 (List.take i l) (fun (y:Alt)=>((l.getD i zA).nodes==y.nodes)):=rfl;refine mo (kp 5 []) Tryz.func241 ?_;have hof2:AMoves Tryz.prog 273 [altL (List.take i l),AVal.fn (.func 272) [] [AVal.ptr 0 0 2 0 0]] [(0,AObj.row 178 2 [[I (l.getD i zA).nodes,I (l.getD i zA).wall]])] 1 (I (Qb1 (List.take i l) (fun (y:Alt)=>((l.getD i zA).nodes==y.nodes)))) [(0,AObj.row 178 2 [[I (l.getD i zA).nodes,I (l.getD i zA).wall]])]:=by
    have hR:Qb1 (List.take i l) (fun (y:Alt)=>((l.getD i zA).nodes==y.nodes))=Qb1 (List.take i l) (fun (y:Alt)=>((l.getD i zA).nodes==y.nodes)):=rfl;refine mo (kp 6 [7,8,9,16]) Tryz.func273 ?_;refine Qg0 (fun (i1:Nat)=>Qw3 (fun (y:Alt)=>((l.getD i zA).nodes==y.nodes)) (List.drop i1 (List.take i l)) i1=Qb1 (List.take i l) (fun (y:Alt)=>((l.getD i zA).nodes==y.nodes))∧i1<=(List.take i l).length) (fun i1=>(List.take i l).length - i1) (fun i1=>[(0,altL (List.take i l)),(1,AVal.fn (.func 272) [] [AVal.ptr 0 0 2 0 0]),(4,I 0),(7,I ((List.take i l).length:Int)),(8,I (i1:Int))]) (fun i1=>[(0,AObj.row 178 2 [[I (l.getD i zA).nodes,I (l.getD i zA).wall]])]) 0 (wkA [0]) ⟨foll hR rfl,by exact omA⟩ ?_;clear hR;rintro i1 ⟨hR,hj⟩;(try dsimp only at hR hj);apply ai<;>intro h3
    ·have hlt:=ltA h3;rw [Qa0 zA hlt] at hR;refine ai gkA ?_;refine us (mv [0] (cl1 ((List.take i l).getD i1 zA)) (dO (ds Alt.lo) .nil) (dl (Alt.low _ _) (dp .nil)) (rO (re Alt.lo) .nil) rx) ?_;apply ai<;>intro h5
     ·refine Qu0 (fun r:Int=>I r) (fun r:Int=>[(0,AObj.row 178 2 [[I (l.getD i zA).nodes,I (l.getD i zA).wall]])]) (leaf:=(i1:Int)) (foll hR (ct h5 rfl)) ?_;exact tt [0] (tO rfl (ts Alt.lo) .nil) t1
     ·exact Qn0 (i1+1) (wkA [0]) omA ⟨folA,by exact omA⟩
    ·rw [Qd0 (l:=(List.take i l)) (j:=i1) (geA h3)] at hR;refine Qu0 (fun r:Int=>I r) (fun r:Int=>[(0,AObj.row 178 2 [[I (l.getD i zA).nodes,I (l.getD i zA).wall]])]) (leaf:=(-1)) (foll hR rfl) ?_;exact tt [0] (tO rfl (ts Alt.lo) .nil) t1
   refine us (mv [0] (hof2) (dO (ds Alt.lo) .nil) (dl lw (dv (dn_fn .nil (dp .nil)) .nil)) (rO (re Alt.lo) .nil) rx) ?_;refine Qu0 (fun r:Bool=>Bo r) (fun r:Bool=>[(0,AObj.row 178 2 [[I (l.getD i zA).nodes,I (l.getD i zA).wall]])]) (leaf:=(decide ((Qb1 (List.take i l) (fun (y:Alt)=>((l.getD i zA).nodes==y.nodes))) >= 0))) (foll hR rfl) ?_;exact tt [0] (tO rfl (ts Alt.lo) .nil) t1
  refine us (mv [0] (hof1) (dO (ds Alt.lo) .nil) (dv (dn_as (as_take l i ckA) lw) (dv (dn_fn .nil (dp .nil)) .nil)) (rO (re Alt.lo) .nil) rx) ?_;apply ai<;>intro h7
  ·exact lfA
  ·exact Qn0 (i+1) (wkA []) omA ⟨folA,by exact omA⟩
 ·rw [Qd0 (l:=l) (j:=i) (geA h1)] at hR;exact lfA
def Qj6 (s:ByteArray):Bool:=(((Ql5 s).2==0)&&(QU2 ((Ql5 s).1) 1 16))
theorem Q7e (s:ByteArray) (hs0:s.size<=4294967296):GV 266 [Sg s] (Bo (Qj6 s)):=by
 generalize hR:Qj6 s=R;refine gA (kp 5 []) Tryz.func266 ?_;have hk0:=hs0;obtain z1:s.size<=4294967296:=hs0;refine us (QJd s szA _) ?_;(first|apply u2|apply u3|apply u4|apply us);exact QC3 ((Ql5 s).1) 1 16 _;exact lfA
def QQ7 (s:ByteArray):Int × Bool:=bif (((!(Q19 s))||(decide ((ByteArray.size s:Int) > 9)))||((decide ((ByteArray.size s:Int) > 1))&&(((s.data.toList.getD 0 0).toNat:Int)==48))) then (0,false) else ((Qzb s).1,true)
theorem lex_number_c (s:ByteArray) (hs0:s.size<=4294967296):GV 334 [Sg s] (AVal.tup [I ((QQ7 s).1),Bo ((QQ7 s).2)]):=by
 generalize hR:QQ7 s=R;refine gA (kp 6 [23]) Tryz.func334 ?_;have hk0:=hs0;obtain z3:s.size<=4294967296:=hs0;refine us (QLe s szA _) ?_;refine ai gkA ?_;apply ai<;>intro h1
 ·obtain rfl:=foll hR (ct h1 rfl);exact Qc0 (Low.tup' (l1 (l1 .nil))) (Seen.tup (e1 (e1 .nil)))
 ·refine us (strconv_Atoi_c s szA (by exact lex_digits_ok (by assumption)) _) ?_;refine dchk (by kernel_rfl) ?_;(repeat ((first|refine ai rfl ?_|refine ai (fun _=>rfl) ?_)));obtain rfl:=foll hR (cf h1 rfl);exact Qc0 (Low.tup' (l1 (l1 .nil))) (Seen.tup (e1 (e1 .nil)))
theorem Q6g (l:List Int) (r_:Int) (hl:l.length<=4294967296):AMoves Tryz.prog 323 [.ptr 0 0 2 0 0,J r_] [(0,.row 339 2 [[.sel 0 0 2 0 0,.own 1 0 1 0 l.length]]),(0,Qi6 l)] 1 (.tup [I (w64 (((QQ0 l r_).length:Int) - (l.length:Int))),.lit .nilIface]) [(0,.row 339 2 [[.ptr 0 0 2 0 0,.own 1 0 1 0 (QQ0 l r_).length]]),(0,Qi6 (QQ0 l r_))]:=by
 refine AMoves.of_cwp (fun t=>Nat.ble 1000000 t||Nat.blt t 7) Tryz.func323 rfl rfl rfl ?_;refine us (AMoves.on [0,1] (copyCheck_m bldT0 (x:=.own 1 0 1 0 l.length) (rest:=[(0,Qi6 l)]) (n0:=2) (by simp)) (by decide) rfl rfl rfl (.cons _ _ _ _ (.row1 _ _ _ _ (.cons _ _ _ _ (dn_sel rfl) (.cons _ _ _ _ (dn_own rfl) .nil))) (.cons _ _ _ _ (.same _ (QH9 fun _=>lowL1 rfl)) .nil)) rfl (.cons _ _ _ _ (dn_ptr rfl) .nil) (.cons _ _ _ _ (RenO.row1 _ _ _ _ (.cons _ _ _ _ (Ren.ptr _ _ _ _ _ _ rfl) (.cons _ _ _ _ (Ren.own _ _ _ _ _ _ rfl) .nil))) (.cons _ _ _ _ (RenO.same _ (QH9 fun _=>lowL1 rfl)) .nil)) (Ren.low _ (.tup _ (fun x h=>nomatch h)))) ?_;refine us (AMoves.on [1] (Qxe l r_ hl) (by decide) rfl rfl rfl (.cons _ _ _ _ (dn_row rfl (QH9 fun _=>lowL1 rfl)) .nil) rfl (.cons _ _ _ _ (QS6 rfl rfl) (.cons _ _ _ _ (QI7 (Qk3 rfl)) .nil)) (.cons _ _ _ _ (RenO.same _ (QH9 fun _=>lowL1 rfl)) .nil) (Ren.own _ _ _ _ _ _ rfl)) ?_;refine Qu0 (fun _:Unit=>.tup [I (w64 (((QQ0 l r_).length:Int) - (l.length:Int))),.lit .nilIface]) (fun _:Unit=>[(0,.row 339 2 [[.ptr 0 0 2 0 0,.own 1 0 1 0 (QQ0 l r_).length]]),(0,Qi6 (QQ0 l r_))]) (leaf:=()) rfl ?_;exact Q45 [0,2] rfl (by decide) (.cons 0 _ _ _ _ rfl (Qi3 (.cons _ _ _ _ (Qm1 0 rfl rfl) (.cons _ _ _ _ (Q1e 1 rfl rfl rfl) .nil))) (.cons 2 _ _ _ _ rfl (Q2e rfl (QH9 fun _=>lowL1 rfl)) .nil)) (turn_tup (.cons _ _ _ _ (Q54 (Qk3 rfl)) (.cons _ _ _ _ (Q54 (Qk3 rfl)) .nil)))
def QZ5 (l:List Dep):List Dep->Nat->Bool
 | [],_=>(decide ((l.length:Int)<=4))
 | x_ :: r,i=>bif (((!(QU2 x_.how 1 3))||(!(QAe x_.job)))||(Qt0 (List.take i l) (fun (y:Dep)=>(y.job==x_.job)))) then false else QZ5 l r (i+1)
def QM8 (l:List Dep):Bool:=QZ5 l l 0
theorem cmd_deps_c (l:List Dep) (hs0:l.length<=4294967296):GV 268 [depL l] (Bo (QM8 l)):=by
 generalize hR:QM8 l=R;refine gA (kp 6 [6,7,8,9,30]) Tryz.func268 ?_;have hk0:=hs0;obtain z9:l.length<=4294967296:=hs0;refine Qg0 (fun (i:Nat)=>QZ5 l (List.drop i l) i=R∧i<=l.length) (fun i=>l.length - i) (fun i=>[(0,depL l),(2,Bo false),(6,depL l),(7,I (l.length:Int)),(8,I (i:Int))]) (fun i=>[]) 0 (wkA []) ⟨foll hR rfl,by exact omA⟩ ?_;clear hR;rintro i ⟨hR,hj⟩;(try dsimp only at hR hj);apply ai<;>intro h1
 ·have hlt:=ltA h1;rw [Qa0 zC hlt] at hR;refine ai gkA ?_;refine ai gkA ?_;have cl1:∀ (y1:Dep),AMoves Tryz.prog 295 [Dep.a y1,AVal.ptr 0 0 2 0 0] [(0,AObj.row 191 2 [[I (l.getD i zC).how,I (l.getD i zC).job]])] 1 (Bo ((fun (y:Dep)=>(y.job==(l.getD i zC).job)) y1)) [(0,AObj.row 191 2 [[I (l.getD i zC).how,I (l.getD i zC).job]])]:=by
   intro y1;have hR:(fun (y:Dep)=>(y.job==(l.getD i zC).job)) y1=(fun (y:Dep)=>(y.job==(l.getD i zC).job)) y1:=rfl;refine mo (kp 4 []) Tryz.func295 ?_;refine Qu0 (fun r:Bool=>Bo r) (fun _=>[(0,AObj.row 191 2 [[I (l.getD i zC).how,I (l.getD i zC).job]])]) (leaf:=(y1.job==(l.getD i zC).job)) (foll hR rfl) ?_;exact tt [0] (tO rfl (ts Dep.lo) .nil) t1
  have hof1:AMoves Tryz.prog 194 [depL (List.take i l),AVal.fn (.func 295) [] [AVal.ptr 0 0 2 0 0]] [(0,AObj.row 191 2 [[I (l.getD i zC).how,I (l.getD i zC).job]])] 1 (Bo (Qt0 (List.take i l) (fun (y:Dep)=>(y.job==(l.getD i zC).job)))) [(0,AObj.row 191 2 [[I (l.getD i zC).how,I (l.getD i zC).job]])]:=by
   have hR:Qt0 (List.take i l) (fun (y:Dep)=>(y.job==(l.getD i zC).job))=Qt0 (List.take i l) (fun (y:Dep)=>(y.job==(l.getD i zC).job)):=rfl;refine mo (kp 5 []) Tryz.func194 ?_;have hof2:AMoves Tryz.prog 237 [depL (List.take i l),AVal.fn (.func 295) [] [AVal.ptr 0 0 2 0 0]] [(0,AObj.row 191 2 [[I (l.getD i zC).how,I (l.getD i zC).job]])] 1 (I (Qc1 (List.take i l) (fun (y:Dep)=>(y.job==(l.getD i zC).job)))) [(0,AObj.row 191 2 [[I (l.getD i zC).how,I (l.getD i zC).job]])]:=by
    have hR:Qc1 (List.take i l) (fun (y:Dep)=>(y.job==(l.getD i zC).job))=Qc1 (List.take i l) (fun (y:Dep)=>(y.job==(l.getD i zC).job)):=rfl;refine mo (kp 6 [7,8,9,16]) Tryz.func237 ?_;refine Qg0 (fun (i1:Nat)=>Qx3 (fun (y:Dep)=>(y.job==(l.getD i zC).job)) (List.drop i1 (List.take i l)) i1=Qc1 (List.take i l) (fun (y:Dep)=>(y.job==(l.getD i zC).job))∧i1<=(List.take i l).length) (fun i1=>(List.take i l).length - i1) (fun i1=>[(0,depL (List.take i l)),(1,AVal.fn (.func 295) [] [AVal.ptr 0 0 2 0 0]),(4,I 0),(7,I ((List.take i l).length:Int)),(8,I (i1:Int))]) (fun i1=>[(0,AObj.row 191 2 [[I (l.getD i zC).how,I (l.getD i zC).job]])]) 0 (wkA [0]) ⟨foll hR rfl,by exact omA⟩ ?_;clear hR;rintro i1 ⟨hR,hj⟩;(try dsimp only at hR hj);apply ai<;>intro h3
    ·have hlt:=ltA h3;rw [Qa0 zC hlt] at hR;refine ai gkA ?_;refine us (mv [0] (cl1 ((List.take i l).getD i1 zC)) (dO (ds Dep.lo) .nil) (dl (Dep.low _ _) (dp .nil)) (rO (re Dep.lo) .nil) rx) ?_;apply ai<;>intro h5
     ·refine Qu0 (fun r:Int=>I r) (fun r:Int=>[(0,AObj.row 191 2 [[I (l.getD i zC).how,I (l.getD i zC).job]])]) (leaf:=(i1:Int)) (foll hR (ct h5 rfl)) ?_;exact tt [0] (tO rfl (ts Dep.lo) .nil) t1
     ·exact Qn0 (i1+1) (wkA [0]) omA ⟨folA,by exact omA⟩
    ·rw [Qd0 (l:=(List.take i l)) (j:=i1) (geA h3)] at hR;refine Qu0 (fun r:Int=>I r) (fun r:Int=>[(0,AObj.row 191 2 [[I (l.getD i zC).how,I (l.getD i zC).job]])]) (leaf:=(-1)) (foll hR rfl) ?_;exact tt [0] (tO rfl (ts Dep.lo) .nil) t1
   refine us (mv [0] (hof2) (dO (ds Dep.lo) .nil) (dl lw (dv (dn_fn .nil (dp .nil)) .nil)) (rO (re Dep.lo) .nil) rx) ?_;refine Qu0 (fun r:Bool=>Bo r) (fun r:Bool=>[(0,AObj.row 191 2 [[I (l.getD i zC).how,I (l.getD i zC).job]])]) (leaf:=(decide ((Qc1 (List.take i l) (fun (y:Dep)=>(y.job==(l.getD i zC).job))) >= 0))) (foll hR rfl) ?_;exact tt [0] (tO rfl (ts Dep.lo) .nil) t1
  refine us (mv [0] (hof1) (dO (ds Dep.lo) .nil) (dv (dn_as (as_take l i ckA) lw) (dv (dn_fn .nil (dp .nil)) .nil)) (rO (re Dep.lo) .nil) rx) ?_;refine us (QC3 ((l.getD i zC).how) 1 3 _) ?_;(first|apply u2|apply u3|apply u4|apply us);exact QYf ((l.getD i zC).job) _;apply ai<;>intro h7
  ·exact lfA
  ·exact Qn0 (i+1) (wkA []) omA ⟨folA,by exact omA⟩
 ·rw [Qd0 (l:=l) (j:=i) (geA h1)] at hR;exact lfA
def QEb (a:Cmd) (b:Cmd):Bool:=bif ((!(Qaa a.shape b.shape))||(!(QQ6 a.after b.after))) then false else ((((((((((((a.kind==b.kind)&&(a.job==b.job))&&(ByteArray.toList a.name==ByteArray.toList b.name))&&(ByteArray.toList a.user==ByteArray.toList b.user))&&(ByteArray.toList a.account==ByteArray.toList b.account))&&(a.prio==b.prio))&&(a.hasPrio==b.hasPrio))&&(a.time==b.time))&&(a.hasTime==b.hasTime))&&(a.node==b.node))&&(a.nodes==b.nodes))&&(a.from_==b.from_))
theorem cmd_Same_c (a:Cmd) (b:Cmd) (hs0:a.sz) (hs1:b.sz):GV 235 [Cmd.a a,Cmd.a b] (Bo (QEb a b)):=by
 generalize hR:QEb a b=R;refine gA (kp 5 [18]) Tryz.func235 ?_;have hk0:=hs0;obtain ⟨z3,z4,z5,z6,z7⟩:a.name.size<=4294967296∧a.user.size<=4294967296∧a.account.size<=4294967296∧(a.shape.alts.length<=4294967296)∧a.after.length<=4294967296:=hs0;have hk1:=hs1;obtain ⟨z8,z9,z10,z11,z12⟩:b.name.size<=4294967296∧b.user.size<=4294967296∧b.account.size<=4294967296∧(b.shape.alts.length<=4294967296)∧b.after.length<=4294967296:=hs1;refine us (shape_Same_c a.shape b.shape szA szA _) ?_;(first|apply u2|apply u3|apply u4|apply us);exact QRd a.after b.after szA szA _;apply ai<;>intro h1
 ·exact lfA
 ·exact lfA
def Qm7 (set_:Int):Bool:=((wu64 (BitVec.ofInt 64 set_ &&& ~~~(BitVec.ofInt 64 (QZ3 48))).toNat)==0)
theorem Qva (set_:Int):GV 225 [U set_] (Bo (Qm7 set_)):=by
 generalize hR:Qm7 set_=R;refine gA (kp 3 []) Tryz.func225 ?_;refine us (nodeset_All_c 48 _) ?_;exact lfA
def Qq8 (a:Usage) (b:Usage):Int:=(QFb ([(Q31 a.user b.user),(Q31 a.account b.account)]:List Int))
theorem Q5c (a:Usage) (b:Usage) (hs0:a.sz) (hs1:b.sz):GV 181 [Usage.a a,Usage.a b] (I (Qq8 a b)):=by
 generalize hR:Qq8 a b=R;refine gA (kp 5 []) Tryz.func181 ?_;obtain ⟨z1,z2⟩:=Usage.zz hs0;obtain ⟨z3,z4⟩:=Usage.zz hs1;refine dchk (by kernel_rfl) ?_;(first|apply u2|apply u3|apply u4|apply us);exact QI4 a.user b.user _;(first|apply u2|apply u3|apply u4|apply us);exact QI4 a.account b.account _;(first|apply u2|apply u3|apply u4|apply us);exact AGives.as2 (QBe ([(Q31 a.user b.user),(Q31 a.account b.account)]:List Int) szA _) (av (QX5 (c:=(fun q_=>[I q_])) (d:=0) ([(Q31 a.user b.user),(Q31 a.account b.account)]:List Int) rfl) .nil);(repeat ((first|refine ai rfl ?_|refine ai (fun _=>rfl) ?_|refine ai (fun _=>QI4 a.user b.user _) ?_|refine ai (fun _=>QI4 a.account b.account _) ?_|refine ai (fun _=>AGives.as2 (QBe ([(Q31 a.user b.user),(Q31 a.account b.account)]:List Int) szA _) (av (QX5 (c:=(fun q_=>[I q_])) (d:=0) ([(Q31 a.user b.user),(Q31 a.account b.account)]:List Int) rfl) .nil)) ?_)));exact lfA
def QK6 (is:Int->Node->Bool):List Node->List Int->Nat->(List Int)
 | [],l,_=>l
 | x_ :: r,l,i=>bif (is (i:Int) x_) then QK6 is r (l++([(i:Int)]:List Int)) (i+1) else QK6 is r l (i+1)
def QF4 (l:List Int):Int:=(QS0 l).1
def Q03 (s:State) (is:Int->Node->Bool):Int:=QF4 (QK6 is s.nodes [] 0)
def QJ6 (s:State) (jobs:List (Int × Job)) (all_:List (Int × Resize)):List Node->Nat->Bool
 | [],_=>true
 | x_ :: r,i=>bif ((x_.state==1)&&((!(getM x_.job jobs).isSome)||(!(QV0 (((getM x_.job jobs).getD zG).nodes) (i:Int))))) then false else bif ((x_.state==2)&&(!(getM x_.job jobs).isSome)) then false else bif (((x_.state==2)||(x_.want==4))&&(!(QV0 (((getM x_.job all_).getD zH).nodes) (i:Int)))) then false else bif ((x_.state==3)&&(decide (x_.job >= s.nextJob))) then false else QJ6 s jobs all_ r (i+1)
def Qo3 (s:State) (jobs:List (Int × Job)) (all_:List (Int × Resize)):Bool:=QJ6 s jobs all_ s.nodes 0
theorem state_nodes_c (s:State) (jobs:List (Int × Job)) (all_:List (Int × Resize)) (hs0:s.sz):AMoves Tryz.prog 76 [State.a s,AVal.map 0,AVal.map 1] [(0,AObj.other (.map (mapEs ik Job.a 0 jobs) jobs.length)),(0,AObj.other (.map (mapEs ik Resize.a 0 all_) all_.length))] 2 (Bo (Qo3 s jobs all_)) [(0,AObj.other (.map (mapEs ik Job.a 0 jobs) jobs.length)),(0,AObj.other (.map (mapEs ik Resize.a 0 all_) all_.length))]:=by
 generalize hR:Qo3 s jobs all_=R;refine mo (kp 12 [13,14,15,16,35,50,58,70]) Tryz.func76 ?_;have hk0:=hs0;obtain ⟨z11,z12,z13,z14,z15,z16,z17⟩:=hs0;refine Qg0 (fun (i:Nat)=>QJ6 s jobs all_ (List.drop i s.nodes) i=R∧i<=s.nodes.length) (fun i=>s.nodes.length - i) (fun i=>[(1,AVal.map 0),(2,AVal.map 1),(3,AVal.ptr 2 0 8 0 0),(6,Bo false),(13,nodeL s.nodes),(14,I (s.nodes.length:Int)),(15,I (i:Int))]) (fun i=>[(0,AObj.other (.map (mapEs ik Job.a 0 jobs) jobs.length)),(0,AObj.other (.map (mapEs ik Resize.a 0 all_) all_.length)),(0,AObj.row 28 8 [[I s.now,nodeL s.nodes,jobL s.jobs,QA1 s.resizes,bookL s.books,QI2 s.ledger,I s.nextJob,I s.nextBook]])]) 0 (wkA [0,1,2]) ⟨foll hR rfl,by exact omA⟩ ?_;clear hR;rintro i ⟨hR,hj⟩;(try dsimp only at hR hj);apply ai<;>intro h1
 ·have hlt:=ltA h1;rw [Qa0 zF hlt] at hR;refine ai gkA ?_;(first|refine ⟨_,_,QX1 rfl _ _,QY1 (ek:=ik) ((s.nodes.getD i zF).job) jobs zG (Q9g (a1 (a1 (a1 (a1 (a1 (av (Qj7) (a1 (a1 (a1 (a1 (av (Qj7) (a1 (a1 (a1 (a1 (a1 (a1 (a1 (a1 (a1 .nil))))))))))))))))))))),?_⟩|refine ⟨_,fun _=>⟨_,_,QX1 rfl _ _,QY1 (ek:=ik) ((s.nodes.getD i zF).job) jobs zG (Q9g (a1 (a1 (a1 (a1 (a1 (av (Qj7) (a1 (a1 (a1 (a1 (av (Qj7) (a1 (a1 (a1 (a1 (a1 (a1 (a1 (a1 (a1 .nil))))))))))))))))))))),rfl,rfl⟩,?_⟩|refine ⟨_,rfl,⟨_,_,QX1 rfl _ _,QY1 (ek:=ik) ((s.nodes.getD i zF).job) jobs zG (Q9g (a1 (a1 (a1 (a1 (a1 (av (Qj7) (a1 (a1 (a1 (a1 (av (Qj7) (a1 (a1 (a1 (a1 (a1 (a1 (a1 (a1 (a1 .nil))))))))))))))))))))),Sub.refl _,rfl⟩,?_⟩);(first|apply u2|apply u3|apply u4|apply us);exact QR8 (((getM (s.nodes.getD i zF).job jobs).getD zG).nodes) (i:Int) _;apply ai<;>intro h3
  ·obtain rfl:=foll hR (ct h3 rfl);exact rq (ttA [0,1])
  ·apply ai<;>intro h5
   ·obtain rfl:=foll hR (cf h3 (ct h5 rfl));exact rq (ttA [0,1])
   ·(first|refine ⟨_,_,QX1 rfl _ _,QY1 (ek:=ik) ((s.nodes.getD i zF).job) all_ zH (AsA.refl _),?_⟩|refine ⟨_,fun _=>⟨_,_,QX1 rfl _ _,QY1 (ek:=ik) ((s.nodes.getD i zF).job) all_ zH (AsA.refl _),rfl,rfl⟩,?_⟩|refine ⟨_,rfl,⟨_,_,QX1 rfl _ _,QY1 (ek:=ik) ((s.nodes.getD i zF).job) all_ zH (AsA.refl _),Sub.refl _,rfl⟩,?_⟩);(first|apply u2|apply u3|apply u4|apply us);exact QR8 (((getM (s.nodes.getD i zF).job all_).getD zH).nodes) (i:Int) _;apply ai<;>intro h7
    ·obtain rfl:=foll hR (cf h3 (cf h5 (ct h7 rfl)));exact rq (ttA [0,1])
    ·apply ai<;>intro h9
     ·obtain rfl:=foll hR (cf h3 (cf h5 (cf h7 (ct h9 rfl))));exact rq (ttA [0,1])
     ·exact Qn0 (i+1) (wkA [0,1,2]) omA ⟨folA,by exact omA⟩
 ·rw [Qd0 (l:=s.nodes) (j:=i) (geA h1)] at hR;obtain rfl:=foll hR rfl;exact rq (ttA [0,1])
def Ql3 (p_:List Step) (to_:Int):Nat->Int->Int->Int × Int
 | 0,_,_=>(0,0)
 | m+1,i,n=>bif ((decide (i<(p_.length:Int)))&&(decide ((p_.getD (i.toNat) zE).at_<to_))) then Ql3 p_ to_ m (w64 (i+1)) (min n (p_.getD (i.toNat) zE).free) else (i,n)
def Q94 (i:Int) (n:Int):Int:=n
def Qo6 (p_:List Step) (from_:Int) (to_:Int):Int:=bif ((((Q42 p_)!=0)||(!(QW2 from_)))||(decide (to_<=from_))) then 0 else Q94 ((Ql3 p_ to_ ((((p_.length:Int) - (w64 ((Qf0 p_ from_)+1))).toNat)+1) (w64 ((Qf0 p_ from_)+1)) ((p_.getD ((Qf0 p_ from_).toNat) zE).free)).1) ((Ql3 p_ to_ ((((p_.length:Int) - (w64 ((Qf0 p_ from_)+1))).toNat)+1) (w64 ((Qf0 p_ from_)+1)) ((p_.getD ((Qf0 p_ from_).toNat) zE).free)).2)
theorem QXg (p_:List Step) (from_:Int) (to_:Int) (hs0:p_.length<=4294967296):GV 83 [stepL p_,I from_,I to_] (I (Qo6 p_ from_ to_)):=by
 generalize hR:Qo6 p_ from_ to_=R;refine gA (kp 9 [21,44]) Tryz.func83 ?_;have hk0:=hs0;obtain z5:p_.length<=4294967296:=hs0;refine us (Qq7 p_ szA _) ?_;(first|apply u2|apply u3|apply u4|apply us);exact QQe from_ _;apply ai<;>intro h1
 ·exact lfA
 ·refine us (Qhb p_ from_ szA _) ?_;have hb:=Bool.or_eq_false_iff.1 (Bool.or_eq_false_iff.1 h1).1;have hc:=QT7 hb.1;have hq:=hb.2;simp [QW2] at hq;have hp:=QB8 hc.1 hc.2.1 hc.2.2 (t:=from_) oA;have hw:w64 (Qf0 p_ from_+1)=Qf0 p_ from_+1:=wr oA;refine ai gkA ?_;refine Qb0 (fun (i:Int) (n:Int)=>∃ m,(((p_.length:Int) - i).toNat)<m∧Q94 (Ql3 p_ to_ m i n).1 (Ql3 p_ to_ m i n).2=R∧0<=i∧i<=(p_.length:Int)) (fun i n=>(((p_.length:Int) - i).toNat)) (fun i n=>[(0,stepL p_),(2,I to_),(6,I 0),(7,I i),(8,I n)]) (fun i n=>[]) (w64 ((Qf0 p_ from_)+1)) ((p_.getD ((Qf0 p_ from_).toNat) zE).free) (wkA []) ⟨_,yCa _,foll hR (cf h1 rfl),by first|((rw [hw];omega))|first|((rw [hw1];omega))|exact exA⟩ ?_;clear hR;rintro i n ⟨m,hm,hR,hx⟩;(try dsimp only at hR hm hx);obtain ⟨m,rfl⟩:=sucA m;refine ai gkA ?_;apply ai<;>intro h3
  ·have hw1:w64 (i+1)=i+1:=wr oA;refine ai gkA ?_;exact Q60 (w64 (i+1)) (min n (p_.getD (i.toNat) zE).free) (wkA []) (by first|((dsimp only;rw [hw1];omega))|exact omA) ⟨m,by first|((dsimp only;rw [hw1];omega))|exact omA,foll hR (congrArg (fun p:Int × Int=>Q94 p.1 p.2) (ct h3 rfl)),by first|((rw [hw];omega))|first|((rw [hw1];omega))|exact exA⟩
  ·replace hR:Q94 i n=R:=fo2 (fun p:Int × Int=>Q94 p.1 p.2) (i,n) hR (cf h3 rfl);exact lfA
def Qy2 (c4:List Step):(List Step) × Int:=bif ((Q42 c4)!=0) then ([],3) else (c4,0)
def QB6 :List Step->Nat->List Step->(List Step)
 | [],_,c5=>c5
 | x_ :: r,i2,c5=>QB6 r (i2+1) (Q61 x_.at_ x_.free c5)
def Qr4 (c5:List Step):(List Step) × Int:=Qy2 c5
def Q43 (p_:List Step) (to_:Int) (i:Int) (last:Int) (c2:List Step):(List Step) × Int:=bif (i==(p_.length:Int)) then bif (decide (to_<=1000000)) then Qy2 (Q61 to_ last c2) else Qy2 c2 else Qr4 (QB6 (List.drop (i.toNat) p_) 0 c2)
def QE3 (p_:List Step) (to_:Int) (n:Int):Nat->Int->Int->List Step->(List Step) × Int
 | 0,_,_,_=>([],0)
 | m+1,i1,last1,c3=>bif (decide (i1<(p_.length:Int))) then bif (decide ((p_.getD (i1.toNat) zE).at_<to_)) then QE3 p_ to_ n m (w64 (i1+1)) ((p_.getD (i1.toNat) zE).free) (Q61 ((p_.getD (i1.toNat) zE).at_) (w64 ((p_.getD (i1.toNat) zE).free+n)) c3) else bif (decide ((p_.getD (i1.toNat) zE).at_ > to_)) then Q43 p_ to_ i1 ((p_.getD (i1.toNat) zE).free) (Q61 to_ ((p_.getD ((w64 (i1 - 1)).toNat) zE).free) c3) else Q43 p_ to_ i1 ((p_.getD (i1.toNat) zE).free) c3 else Q43 p_ to_ i1 last1 c3
def Qy5 (p_:List Step) (from_:Int) (to_:Int) (n:Int) (c:List Step):(List Step) × Int:=QE3 p_ to_ n ((((p_.length:Int) - (w64 ((Qf0 p_ from_)+1))).toNat)+1) (w64 ((Qf0 p_ from_)+1)) ((p_.getD ((Qf0 p_ from_).toNat) zE).free) (Q61 from_ (w64 ((p_.getD ((Qf0 p_ from_).toNat) zE).free+n)) c)
def QV2 (p_:List Step) (from_:Int) (to_:Int) (n:Int):(List Step) × Int:=bif ((Q42 p_)!=0) then ([],100) else bif (((!(QW2 from_))||(decide (to_<from_)))||(!(QO2 n))) then ([],2) else bif (to_==from_) then (p_,0) else bif (decide ((p_.getD ((Qf0 p_ from_).toNat) zE).at_<from_)) then Qy5 p_ from_ to_ n (Q61 ((p_.getD ((Qf0 p_ from_).toNat) zE).at_) ((p_.getD ((Qf0 p_ from_).toNat) zE).free) (List.take ((Qf0 p_ from_).toNat) p_)) else Qy5 p_ from_ to_ n (List.take ((Qf0 p_ from_).toNat) p_)
theorem b2a0 {P:Prop} (h:P:=by first|((exact ⟨by omega,by omega,yHa (Qh4 _ _ _) oA⟩))|first|((exact ⟨by omega,by omega,by omega⟩))|first|((rw [hw1];exact ⟨by omega,by omega,Int.le_trans (Int.ofNat_le.2 (Qh4 _ _ _)) oA⟩))|first|((rw [hw];exact ⟨by omega,by omega,Int.le_trans (Int.ofNat_le.2 (Qh4 _ _ _)) oA⟩))|first|(((try dsimp only);refine yHa (Qh4 _ _ _) ?_;first|omega|(simp;omega)))|first|(((try dsimp only);rw [ywa] at *;omega))|first|((simp;omega))|exact exA):P:=h
theorem b2a1 {P:Prop} (h:P:=by first|((refine yHa (Qh4 _ _ _) ?_;omega))|first|((simp;omega))|exact szA):P:=h
theorem profile_Add_c (p_:List Step) (from_:Int) (to_:Int) (n:Int) (hs0:p_.length<=4294967296):GV 148 [stepL p_,I from_,I to_,I n] (AVal.tup [stepL ((QV2 p_ from_ to_ n).1),I ((QV2 p_ from_ to_ n).2)]):=by
 generalize hR:QV2 p_ from_ to_ n=R;refine gA (kj [1000014,1000024,1000032] 17 [17,21,35,58,91,99,117,137,139,146,147,148,149,161]) Tryz.func148 ?_;have hk0:=hs0;obtain z23:p_.length<=4294967296:=hs0;refine us (Qq7 p_ b2a1 _) ?_;apply ai<;>intro h1
 ·exact lfA
 ·refine us (QQe from_ _) ?_;(first|apply u2|apply u3|apply u4|apply us);exact QJ9 n _;apply ai<;>intro h3
  ·exact lfA
  ·apply ai<;>intro h5
   ·refine us (mv [] (QCc p_ b2a1) .nil (dl lw .nil) (rO rr .nil) (rw_ 0 0 rfl)) ?_;obtain rfl:=foll hR (cf h1 (cf h3 (ct h5 rfl)));exact Qc0 (Low.tup' (.cons lw (l1 .nil))) (Seen.tup (ev (Qe0 zE _ rfl eqA lnA) (e1 .nil)))
   ·refine us (Qhb p_ from_ b2a1 _) ?_;have hc:=QT7 (p:=p_) (by assumption);have hp:=QB8 hc.1 hc.2.1 hc.2.2 (Qvd (by assumption));have hw:w64 (Qf0 p_ from_+1)=Qf0 p_ from_+1:=wr oA;refine ai gkA ?_;(first|refine ⟨Qn1 16 rfl lnA apA,?_⟩|refine ⟨QD0 16 rfl apA,?_⟩);refine Q81 (fun (c:List Step)=>Qy5 p_ from_ to_ n c=R∧c.length<=(Qf0 p_ from_).toNat+1) (fun c=>[(0,stepL p_),(1,I from_),(2,I to_),(3,I n),(8,AVal.lit (.slice none 0 0)),(9,I 0),(10,AVal.ptr 0 0 1 0 0),(11,AVal.fn (.func 208) [] [AVal.ptr 0 0 1 0 0]),(12,I (Qf0 p_ from_))]) (fun c=>[(0,AObj.row 82 1 [[AVal.own 1 0 2 0 c.length]]),(0,AObj.row 182 2 (c.map Step.cells))]) ?_ ?_
    ·clear hR;rintro c ⟨hR,hx⟩;(try dsimp only at hR hx);refine ai gkA ?_;refine us (mv [0,1] (Q84 from_ (w64 ((p_.getD ((Qf0 p_ from_).toNat) zE).free+n)) c b2a1) (dO (dc (dv (QS6 rfl lnA) .nil)) (dO (dr eqA) .nil)) (d1 (d1 (dp .nil))) (rO (rc (.cons _ _ _ _ (rw_ 2 0 rfl) .nil)) (rO rr .nil)) rx) ?_;refine ai gkA ?_;refine QEg (fun (i:Int) (last:Int) (c2:List Step)=>Q43 p_ to_ i last c2=R∧1<=i∧i<=(p_.length:Int)∧c2.length<=1003) (fun i last c2=>[(0,stepL p_),(2,I to_),(8,AVal.lit (.slice none 0 0)),(9,I 0),(10,AVal.ptr 0 0 1 0 0),(11,AVal.fn (.func 208) [] [AVal.ptr 0 0 1 0 0]),(12,I i),(14,I last)]) (fun i last c2=>[(0,AObj.row 82 1 [[AVal.own 1 0 2 0 c2.length]]),(0,AObj.row 182 2 (c2.map Step.cells))]) ?_ ?_
     ·clear hR;rintro i last c2 ⟨hR,hx⟩;(try dsimp only at hR hx);refine Q81 (fun (c4:List Step)=>Qy2 c4=R∧c4.length<=4000) (fun c4=>[(8,AVal.lit (.slice none 0 0)),(9,I 0),(10,AVal.ptr 0 0 1 0 0)]) (fun c4=>[(0,AObj.row 82 1 [[AVal.own 1 0 2 0 c4.length]]),(0,AObj.row 182 2 (c4.map Step.cells))]) ?_ ?_
      ·clear hR;rintro c4 ⟨hR,hx⟩;(try dsimp only at hR hx);refine us (AGives.lent (Qq7 c4 b2a1 []) (ev (Qe0 _ _ rfl eqA lnA) .nil) (.cons lw .nil) (QT2 rfl)) ?_;apply ai<;>intro h7
       ·exact lfA
       ·obtain rfl:=foll hR (cf h7 rfl);exact Qc0 (Low.tup' (.cons lw (l1 .nil))) (Seen.tup (ev (Qe0 zE _ rfl eqA lnA) (e1 .nil)))
      ·apply ai<;>intro h9
       ·apply ai<;>intro h11
        ·have qh11:=yda h11;refine us (mv [0,1] (Q84 to_ last c2 b2a1) (dO (dc (dv (QS6 rfl lnA) .nil)) (dO (dr eqA) .nil)) (d1 (d1 (dp .nil))) (rO (rc (.cons _ _ _ _ (rw_ 2 0 rfl) .nil)) (rO rr .nil)) rx) ?_;exact Q90 (Q61 to_ last c2) (wkA [0,2]) (⟨folA,b2a0⟩)
        ·have qh11:=yca h11;exact Q90 c2 (wkA [0,1]) (⟨folA,b2a0⟩)
       ·refine ai gkA ?_;refine Qb0 (fun (i2:Nat) (c5:List Step)=>Qr4 (QB6 (List.drop i2 (List.drop (i.toNat) p_)) i2 c5)=R∧i2<=(List.drop (i.toNat) p_).length∧c5.length<=2000+i2) (fun i2 c5=>(List.drop (i.toNat) p_).length - i2) (fun i2 c5=>[(8,AVal.lit (.slice none 0 0)),(9,I 0),(10,AVal.ptr 0 0 1 0 0),(11,AVal.fn (.func 208) [] [AVal.ptr 0 0 1 0 0]),(146,stepL (List.drop (i.toNat) p_)),(147,I ((List.drop (i.toNat) p_).length:Int)),(148,I (i2:Int))]) (fun i2 c5=>[(0,AObj.row 82 1 [[AVal.own 1 0 2 0 c5.length]]),(0,AObj.row 182 2 (c5.map Step.cells))]) 0 c2 (wk [0,1] (tO rfl (Qi3 (cv (to 1 lnA) .nil)) (tO rfl (tl eqA) .nil)) (s1 (s1 (sv (Qm1 0 rfl rfl) (sv (QF8 .nil (cv (Qm1 0 rfl rfl) .nil)) (sv (turn_as (as_drop p_ (i.toNat) _ leA) lw) (sv (turn_eq (I_eq (by simp)) lx) (s1 .nil)))))))) ⟨folA,by exact omA,b2a0⟩ ?_;clear hR;rintro i2 c5 ⟨hR,hj,hx⟩;(try dsimp only at hR hj hx);apply ai<;>intro h13
        ·have hlt:=ltA h13;rw [Qa0 zE hlt] at hR;have hdl:(List.drop (i.toNat) p_).length<=1000:=(by rw [ywa];omega);refine ai gkA ?_;refine us (mv [0,1] (Q84 (((List.drop (i.toNat) p_).getD i2 zE).at_) (((List.drop (i.toNat) p_).getD i2 zE).free) c5 b2a1) (dO (dc (dv (QS6 rfl lnA) .nil)) (dO (dr eqA) .nil)) (d1 (d1 (dp .nil))) (rO (rc (.cons _ _ _ _ (rw_ 3 0 rfl) .nil)) (rO rr .nil)) rx) ?_;exact Q60 (i2+1) (Q61 ((List.drop (i.toNat) p_).getD i2 zE).at_ ((List.drop (i.toNat) p_).getD i2 zE).free c5) (wkA [0,3]) omA ⟨foll hR (congrArg (fun p:(List Step)=>Qr4 p) rfl),by exact omA,b2a0⟩
        ·rw [Qd0 (l:=(List.drop (i.toNat) p_)) (j:=i2) (geA h13)] at hR;replace hR:Qr4 c5=R:=fo2 (fun p:(List Step)=>Qr4 p) (c5) hR rfl;exact Q90 c5 (wkA [0,1]) (⟨foll hR rfl,b2a0⟩)
     ·refine Qh9 (fun (i1:Int) (last1:Int) (c3:List Step)=>∃ m,(((p_.length:Int) - i1).toNat)<m∧QE3 p_ to_ n m i1 last1 c3=R∧1<=i1∧i1<=(p_.length:Int)∧(c3.length:Int)<=i1+1) (fun i1 last1 c3=>(((p_.length:Int) - i1).toNat)) (fun i1 last1 c3=>[(0,stepL p_),(2,I to_),(3,I n),(8,AVal.lit (.slice none 0 0)),(9,I 0),(10,AVal.ptr 0 0 1 0 0),(11,AVal.fn (.func 208) [] [AVal.ptr 0 0 1 0 0]),(12,I i1),(14,I last1)]) (fun i1 last1 c3=>[(0,AObj.row 82 1 [[AVal.own 1 0 2 0 c3.length]]),(0,AObj.row 182 2 (c3.map Step.cells))]) (w64 ((Qf0 p_ from_)+1)) ((p_.getD ((Qf0 p_ from_).toNat) zE).free) (Q61 from_ (w64 ((p_.getD ((Qf0 p_ from_).toNat) zE).free+n)) c) (wkA [0,2]) ⟨_,yCa _,foll hR rfl,b2a0⟩ ?_;clear hR;rintro i1 last1 c3 ⟨m,hm,hR,hx⟩;(try dsimp only at hR hm hx);obtain ⟨m,rfl⟩:=sucA m;apply ai<;>intro h15
      ·have qh15:=yda h15;have hw1:w64 (i1+1)=i1+1:=wr oA;refine ai gkA ?_;refine ai gkA ?_;apply ai<;>intro h17
       ·have qh17:=yda h17;refine ai gkA ?_;refine us (mv [0,1] (Q84 ((p_.getD (i1.toNat) zE).at_) (w64 ((p_.getD (i1.toNat) zE).free+n)) c3 b2a1) (dO (dc (dv (QS6 rfl lnA) .nil)) (dO (dr eqA) .nil)) (d1 (d1 (dp .nil))) (rO (rc (.cons _ _ _ _ (rw_ 2 0 rfl) .nil)) (rO rr .nil)) rx) ?_;exact QU4 (w64 (i1+1)) ((p_.getD (i1.toNat) zE).free) (Q61 ((p_.getD (i1.toNat) zE).at_) (w64 ((p_.getD (i1.toNat) zE).free+n)) c3) (wkA [0,2]) omA ⟨m,by exact omA,foll hR (ct h15 (ct h17 rfl)),b2a0⟩
       ·have qh17:=yca h17;refine ai gkA ?_;apply ai<;>intro h19
        ·have qh19:=yda h19;refine ai gkA ?_;refine us (mv [0,1] (Q84 to_ ((p_.getD ((w64 (i1 - 1)).toNat) zE).free) c3 b2a1) (dO (dc (dv (QS6 rfl lnA) .nil)) (dO (dr eqA) .nil)) (d1 (d1 (dp .nil))) (rO (rc (.cons _ _ _ _ (rw_ 2 0 rfl) .nil)) (rO rr .nil)) rx) ?_;exact QK2 i1 ((p_.getD (i1.toNat) zE).free) (Q61 to_ ((p_.getD ((w64 (i1 - 1)).toNat) zE).free) c3) (wkA [0,2]) (⟨folA,b2a0⟩)
        ·have qh19:=yca h19;exact QK2 i1 ((p_.getD (i1.toNat) zE).free) c3 (wkA [0,1]) (⟨folA,b2a0⟩)
      ·have qh15:=yca h15;exact QK2 i1 last1 c3 (wkA [0,1]) (⟨folA,b2a0⟩)
    ·refine ai gkA ?_;apply ai<;>intro h21
     ·have qh21:=yda h21;refine dchk (by kernel_rfl) ?_;refine ai gkA ?_;refine ai gkA ?_;(first|apply u2|apply u3|apply u4|apply us);exact mv [0,1] (Q84 ((p_.getD ((Qf0 p_ from_).toNat) zE).at_) ((p_.getD ((Qf0 p_ from_).toNat) zE).free) (List.take ((Qf0 p_ from_).toNat) p_) b2a1) (dO (dc (dv (QS6 rfl lnA) .nil)) (dO (dr eqA) .nil)) (d1 (d1 (dp .nil))) (rO (rc (.cons _ _ _ _ (rw_ 2 0 rfl) .nil)) (rO rr .nil)) rx;(repeat ((first|refine ai rfl ?_|refine ai (fun _=>rfl) ?_)));exact Q90 (Q61 ((p_.getD ((Qf0 p_ from_).toNat) zE).at_) ((p_.getD ((Qf0 p_ from_).toNat) zE).free) (List.take ((Qf0 p_ from_).toNat) p_)) (wkA [0,2]) (⟨folA,b2a0⟩)
     ·have qh21:=yca h21;exact Q90 (List.take ((Qf0 p_ from_).toNat) p_) (wkA [0,1]) (⟨folA,b2a0⟩)
theorem QWg (p:List Step) (f t n:Int) (hp:p.length<=4294967296):(QV2 p f t n).1.length<=4294967296:=by
 have k4:∀ c,(Qy2 c).1.length<=4294967296:=by
  intro c;unfold Qy2;cases h:((Q42 c)!=0) with
  | true=>simp
  | false=>have:=QT7 h;simp only [cond_false];omega
 have k2:∀ i last c,(Q43 p t i last c).1.length<=4294967296:=by
  intro i last c;unfold Q43 Qr4;cases (i==(p.length:Int)) <;> simp only [cond_true,cond_false]
  ·exact k4 _
  ·cases (decide (t<=1000000)) <;> simp only [cond_true,cond_false] <;> exact k4 _
 have g3:∀ m i last c,(QE3 p t n m i last c).1.length<=4294967296:=by
  intro m
  induction m with
  | zero=>intro i last c;simp [QE3]
  | succ m ih =>
   intro i last c;rw [QE3]
   repeat' first|exact ih _ _ _|exact k2 _ _ _|(rw [yAa];split)
 unfold QV2 Qy5
 repeat' first|exact g3 _ _ _ _|exact hp|(simp;done)|(rw [yAa];split)
def QW4 (n:Int):Nat->Int->Nat->Int
 | 0,_,_=>0
 | m+1,rest,i=>bif (decide ((i:Int)<n)) then QW4 n m (wu64 (BitVec.ofInt 64 rest &&& BitVec.ofInt 64 (wu64 (rest - 1))).toNat) (i+1) else rest
def QR3 (s:Int) (rest:Int):Int × Bool:=((wu64 (BitVec.ofInt 64 s &&& ~~~(BitVec.ofInt 64 rest)).toNat),true)
def Qq1 (s:Int) (n:Int):Int × Bool:=bif ((decide (n<0))||(decide (n > (Q10 s)))) then (0,false) else QR3 s (QW4 n (((n - (0:Int)).toNat)+1) s 0)
theorem QPa (s:Int) (n:Int):GV 95 [U s,I n] (AVal.tup [U ((Qq1 s n).1),Bo ((Qq1 s n).2)]):=by
 generalize hR:Qq1 s n=R;refine gA (kp 7 [14,16,17,18]) Tryz.func95 ?_;(first|apply u2|apply u3|apply u4|apply us);exact Qh1 s _;apply ai<;>intro h1
 ·exact lfA
 ·refine Qb0 (fun (rest:Int) (i:Nat)=>∃ m,((n - (i:Int)).toNat)<m∧QR3 s (QW4 n m rest i)=R) (fun rest i=>((n - (i:Int)).toNat)) (fun rest i=>[(0,U s),(4,U 0),(5,Bo false),(6,U rest),(16,I n),(17,I (i:Int))]) (fun rest i=>[]) s 0 (wkA []) ⟨_,yCa _,foll hR (cf h1 rfl)⟩ ?_;clear hR;rintro rest i ⟨m,hm,hR⟩;(try dsimp only at hR hm);obtain ⟨m,rfl⟩:=sucA m;apply ai<;>intro h3
  ·have qh3:=yda h3;have hnc:=Qlf s;have hb:=Bool.or_eq_false_iff.1 h1;have hb1:=yca hb.1;have hb2:=yca hb.2;exact Q60 (wu64 (BitVec.ofInt 64 rest &&& BitVec.ofInt 64 (wu64 (rest - 1))).toNat) (i+1) (wkA []) omA ⟨m,by exact omA,foll hR (congrArg (fun p:Int=>QR3 s p) (ct h3 rfl))⟩
  ·have qh3:=yca h3;replace hR:QR3 s rest=R:=fo2 (fun p:Int=>QR3 s p) (rest) hR (cf h3 rfl);exact lfA
def Qr2 (c:Cmd) (job:Bool) (submit:Bool) (prio:Bool) (time:Bool) (node:Bool) (nodes:Bool) (from_:Bool):Bool:=bif ((((((job&&(c.job != 0))||(prio&&c.hasPrio))||(time&&c.hasTime))||(node&&(c.node != 0)))||(nodes&&(c.nodes != 0)))||(from_&&(c.from_ != 0))) then false else bif (!submit) then true else (((((ByteArray.toList c.name==ByteArray.toList ⟨#[]⟩)&&(ByteArray.toList c.user==ByteArray.toList ⟨#[]⟩))&&(ByteArray.toList c.account==ByteArray.toList ⟨#[]⟩))&&((c.after.length:Int)==0))&&(QU7 c.shape zB))
theorem Q46 (c:Cmd) (job:Bool) (submit:Bool) (prio:Bool) (time:Bool) (node:Bool) (nodes:Bool) (from_:Bool) (hs0:c.sz):GV 280 [Cmd.a c,Bo job,Bo submit,Bo prio,Bo time,Bo node,Bo nodes,Bo from_] (Bo (Qr2 c job submit prio time node nodes from_)):=by
 generalize hR:Qr2 c job submit prio time node nodes from_=R;refine gA (kp 17 [60,62]) Tryz.func280 ?_;have hk0:=hs0;obtain ⟨z5,z6,z7,z8,z9⟩:c.name.size<=4294967296∧c.user.size<=4294967296∧c.account.size<=4294967296∧(c.shape.alts.length<=4294967296)∧c.after.length<=4294967296:=hs0;apply ai<;>intro h1
 ·exact lfA
 ·apply ai<;>intro h3
  ·exact lfA
  ·(first|apply u2|apply u3|apply u4|apply us);exact AGives.as2 (QSe c.shape zB szA szA _) (a1 (av (Q9g (a1 (av (Qj7) (a1 (a1 (a1 .nil)))))) .nil));exact lfA
def QT3 (s:ByteArray):Bool:=((((Q04 s).2==0)&&(decide ((Q04 s).1 >= 1)))&&(decide ((Q04 s).1<=16)))
theorem Qmb (s:ByteArray) (hs0:s.size<=4294967296):GV 281 [Sg s] (Bo (QT3 s)):=by
 generalize hR:QT3 s=R;refine gA (kp 5 []) Tryz.func281 ?_;have hk0:=hs0;obtain z1:s.size<=4294967296:=hs0;refine us (Qza s szA _) ?_;exact lfA
def Qz5 (s:ByteArray):Nat->Nat->List Int->Nat × (List Int)
 | 0,_,_=>(0,[])
 | m+1,i,c=>bif (decide ((i:Int)<(ByteArray.size s:Int))) then bif ((((s.data.toList.getD i 0).toNat:Int)==34)||(((s.data.toList.getD i 0).toNat:Int)==92)) then Qz5 s m (i+1) ((c++([92]:List Int))++([((s.data.toList.getD i 0).toNat:Int)]:List Int)) else Qz5 s m (i+1) (c++([((s.data.toList.getD i 0).toNat:Int)]:List Int)) else (i,c)
def QA5 (i:Nat) (c:List Int):ByteArray × Int:=((QQ2 (c++([34]:List Int))),0)
def Qj9 (s:ByteArray):ByteArray × Int:=bif ((Q04 s).2 != 0) then (⟨#[]⟩,(Q04 s).2) else QA5 ((Qz5 s ((((ByteArray.size s:Int) - (0:Int)).toNat)+1) 0 ([34]:List Int)).1) ((Qz5 s ((((ByteArray.size s:Int) - (0:Int)).toNat)+1) 0 ([34]:List Int)).2)
theorem ref04_Quote_c (s:ByteArray) (hs0:s.size<=4294967296):GV 314 [Sg s] (AVal.tup [Sg ((Qj9 s).1),I ((Qj9 s).2)]):=by
 generalize hR:Qj9 s=R;refine gA (kp 8 [14,20,32]) Tryz.func314 ?_;have hk0:=hs0;obtain z7:s.size<=4294967296:=hs0;refine us (Qza s szA _) ?_;apply ai<;>intro h1
 ·exact lfA
 ·refine Or.inr ?_;refine Qb0 (fun (i:Nat) (c:List Int)=>∃ m,(((ByteArray.size s:Int) - (i:Int)).toNat)<m∧QA5 (Qz5 s m i c).1 (Qz5 s m i c).2=R∧c.length<=([34]:List Int).length+2*i∧(i:Int)<=(ByteArray.size s:Int)) (fun i c=>(((ByteArray.size s:Int) - (i:Int)).toNat)) (fun i c=>[(0,Sg s),(2,Sg ⟨#[]⟩),(3,I 0),(6,AVal.own 0 0 1 0 c.length),(7,I (i:Int))]) (fun i c=>[(0,AObj.row 5 1 (c.map (fun q_=>[Y q_])))]) 0 ([34]:List Int) (wkA [0]) ⟨_,yCa _,foll hR (cf h1 rfl),by exact exA⟩ ?_;clear hR;rintro i c ⟨m,hm,hR,hx⟩;(try dsimp only at hR hm hx);obtain ⟨m,rfl⟩:=sucA m;apply ai<;>intro h3
  ·have qh3:=yda h3;refine ai gkA ?_;refine ai gkA ?_;apply ai<;>intro h5
   ·refine Or.inl ?_;(first|refine ⟨Qn1 1 rfl lnA apA,?_⟩|refine ⟨QD0 1 rfl apA,?_⟩);refine ai gkA ?_;refine Or.inl ?_;(first|refine ⟨Qn1 1 rfl lnA apA,?_⟩|refine ⟨QD0 1 rfl apA,?_⟩);exact Q60 (i+1) ((c++([92]:List Int))++([((s.data.toList.getD i 0).toNat:Int)]:List Int)) (wkA [0]) omA ⟨m,by exact omA,foll hR (congrArg (fun p:Nat × (List Int)=>QA5 p.1 p.2) (ct h3 (ct h5 rfl))),by exact exA⟩
   ·refine ai gkA ?_;refine Or.inl ?_;(first|refine ⟨Qn1 1 rfl lnA apA,?_⟩|refine ⟨QD0 1 rfl apA,?_⟩);exact Q60 (i+1) (c++([((s.data.toList.getD i 0).toNat:Int)]:List Int)) (wkA [0]) omA ⟨m,by exact omA,foll hR (congrArg (fun p:Nat × (List Int)=>QA5 p.1 p.2) (ct h3 (cf h5 rfl))),by exact exA⟩
  ·have qh3:=yca h3;replace hR:QA5 i c=R:=fo2 (fun p:Nat × (List Int)=>QA5 p.1 p.2) (i,c) hR (cf h3 rfl);refine Or.inl ?_;(first|refine ⟨Qn1 1 rfl lnA apA,?_⟩|refine ⟨QD0 1 rfl apA,?_⟩);(first|refine ⟨(c++([34]:List Int)),by exact cvA,?_⟩|refine ⟨_,fun _=>⟨(c++([34]:List Int)),by exact cvA,rfl,rfl⟩,?_⟩|refine ⟨_,rfl,⟨(c++([34]:List Int)),by exact cvA,Sub.refl _,rfl⟩,?_⟩);exact lfA
def Qs1 (s:Shape):Nat->List Alt->Nat->(List Alt) × Nat
 | 0,_,_=>([],0)
 | m+1,out,i=>bif (decide ((i:Int)<=(w64 (s.max - s.min)))) then Qs1 s m (out++([(⟨(w64 (s.max - (i:Int))),s.wall⟩:Alt)]:List Alt)) (i+1) else (out,i)
def Qm3 (out:List Alt) (i:Nat):(List Alt):=out
def Qi0 (s:Shape):(List Alt):=bif ((Qj1 s)!=0) then [] else bif (s.kind != 3) then s.alts else Qm3 ((Qs1 s ((((w64 (s.max - s.min)) - (0:Int)+1).toNat)+1) [] 0).1) ((Qs1 s ((((w64 (s.max - s.min)) - (0:Int)+1).toNat)+1) [] 0).2)
theorem Qs7 (s:Shape) (hs0:s.sz):GV 222 [Shape.a s] (altL (Qi0 s)):=by
 generalize hR:Qi0 s=R;refine gA (kp 5 [7,10,19]) Tryz.func222 ?_;have hk0:=hs0;obtain z7:s.alts.length<=4294967296:=hs0;have hf0:=Qr7 (s:=s);refine us (Qxd s szA _) ?_;apply ai<;>intro h1
 ·exact lfA
 ·apply ai<;>intro h3
  ·exact lfA
  ·refine Qb0 (fun (out:List Alt) (i:Nat)=>∃ m,(((w64 (s.max - s.min)) - (i:Int)+1).toNat)<m∧Qm3 (Qs1 s m out i).1 (Qs1 s m out i).2=R∧out.length<=i) (fun out i=>(((w64 (s.max - s.min)) - (i:Int)+1).toNat)) (fun out i=>[(1,AVal.ptr 0 0 5 0 0),(2,AVal.lit (.slice none 0 0)),(3,AVal.own 1 0 2 0 out.length),(4,I (i:Int))]) (fun out i=>[(0,AObj.row 69 5 [[I s.kind,altL s.alts,I s.min,I s.max,I s.wall]]),(0,AObj.row 178 2 (out.map Alt.cells))]) [] 0 ((QC1 178 2).trans (wkA [0,1])) ⟨_,yCa _,foll hR (cf h1 (cf h3 rfl)),by exact exA⟩ ?_;clear hR;rintro out i ⟨m,hm,hR,hx⟩;(try dsimp only at hR hm hx);obtain ⟨m,rfl⟩:=sucA m;apply ai<;>intro h5
   ·have qh5:=yda h5;refine Or.inl ?_;(first|refine ⟨Qn1 16 rfl lnA apA,?_⟩|refine ⟨QD0 16 rfl apA,?_⟩);exact Q60 (out++([(⟨(w64 (s.max - (i:Int))),s.wall⟩:Alt)]:List Alt)) (i+1) (wkA [0,1]) omA ⟨m,by exact omA,foll hR (congrArg (fun p:(List Alt) × Nat=>Qm3 p.1 p.2) (ct h5 rfl)),by exact exA⟩
   ·have qh5:=yca h5;replace hR:Qm3 out i=R:=fo2 (fun p:(List Alt) × Nat=>Qm3 p.1 p.2) (out,i) hR (cf h5 rfl);obtain rfl:=foll hR rfl;exact Qc0 lw (Qe0 zA _ rfl eqA lnA)
theorem QH8 (s:Shape):∀ (m:Nat) (out:List Alt) (i:Nat),(Qs1 s m out i).1.length<=out.length+m
 | 0,out,i=>by simp [Qs1]
 | m+1,out,i=>by
  rw [Qs1];cases (decide ((i:Int)<=(w64 (s.max - s.min)))) with
  | false=>simp
  | true =>
   have:=QH8 s m (out++([(⟨(w64 (s.max - (i:Int))),s.wall⟩:Alt)]:List Alt)) (i+1);simp only [ypa,yja,yJa] at this;simp only [cond_true];omega
theorem Q3a (s:Shape) (h:s.sz):(Qi0 s).length<=4294967296:=by
 unfold Qi0;cases h1:(Qj1 s != 0) with
 | true=>simp
 | false =>
  cases h2:(s.kind != 3) with
  | true=>exact h
  | false =>
   obtain ⟨a,b,c,d⟩:=Qr7 h1 h2;have hl:=QH8 s ((((w64 (s.max - s.min)) - (0:Int)+1).toNat)+1) [] 0;simp only [cond_false,Qm3];rw [d] at hl ⊢;simp only [yJa] at hl;omega
def Q62 (set_:Int) (n:Int):Bool:=(Qu8 set_ n)
theorem QY2 (set_:Int) (n:Int):GV 161 [U set_,I n] (Bo (Q62 set_ n)):=by
 generalize hR:Q62 set_ n=R;refine gA (kp 5 []) Tryz.func161 ?_;refine us (Q5h set_ n _) ?_;exact lfA
def Q86 (job:Int) (state:Int):List Node->Int->Nat->Int × Nat
 | [],out,i=>(out,i)
 | x_ :: r,out,i=>bif ((x_.job==job)&&(x_.state==state)) then Q86 job state r (wu64 (out+(Q4a (i:Int)))) (i+1) else Q86 job state r out (i+1)
def QW6 (out:Int) (i:Nat):Int:=out
def Qx7 (l:List Node) (job:Int) (state:Int):Int:=bif ((Q72 l)!=0) then 0 else QW6 ((Q86 job state l 0 0).1) ((Q86 job state l 0 0).2)
theorem ref12_Of_c (l:List Node) (job:Int) (state:Int) (hs0:l.length<=4294967296):GV 106 [nodeL l,I job,I state] (U (Qx7 l job state)):=by
 generalize hR:Qx7 l job state=R;refine gA (kp 9 [11,16,34]) Tryz.func106 ?_;have hk0:=hs0;obtain z7:l.length<=4294967296:=hs0;have hf0:=Qnb (l:=l);refine us (Qg5 l szA _) ?_;apply ai<;>intro h1
 ·exact lfA
 ·refine Qb0 (fun (out:Int) (i:Nat)=>QW6 (Q86 job state (List.drop i l) out i).1 (Q86 job state (List.drop i l) out i).2=R∧i<=l.length) (fun out i=>l.length - i) (fun out i=>[(0,nodeL l),(1,I job),(2,I state),(6,U 0),(7,U out),(8,I (i:Int))]) (fun out i=>[]) 0 0 (wkA []) ⟨folA,by exact omA⟩ ?_;clear hR;rintro out i ⟨hR,hj⟩;(try dsimp only at hR hj);apply ai<;>intro h3
  ·have hlt:=ltA h3;rw [Qa0 zF hlt] at hR;refine ai gkA ?_;refine ai gkA ?_;apply ai<;>intro h5
   ·refine us (ref12_bit_c (i:Int) ckA _) ?_;exact Q60 (wu64 (out+(Q4a (i:Int)))) (i+1) (wkA []) omA ⟨foll hR (congrArg (fun p:Int × Nat=>QW6 p.1 p.2) (ct h5 rfl)),by exact omA⟩
   ·exact Q60 out (i+1) (wkA []) omA ⟨foll hR (congrArg (fun p:Int × Nat=>QW6 p.1 p.2) (cf h5 rfl)),by exact omA⟩
  ·rw [Qd0 (l:=l) (j:=i) (geA h3)] at hR;replace hR:QW6 out i=R:=fo2 (fun p:Int × Nat=>QW6 p.1 p.2) (out,i) hR rfl;exact lfA
def QF5 (l:List Node) (set_:Int):Nat->Bool->Nat->Bool × Nat
 | 0,_,_=>(false,0)
 | m+1,ok,i=>bif ((decide ((i:Int)<((Q40 set_).length:Int)))&&ok) then QF5 l set_ m ((decide (((Q40 set_).getD i 0)<(l.length:Int)))&&((l.getD (((Q40 set_).getD i 0).toNat) zF).want==0)) (i+1) else (ok,i)
def QG5 (ok:Bool) (i:Nat):Bool:=ok
def Qn9 (l:List Node) (set_:Int):Bool:=QG5 ((QF5 l set_ (((((Q40 set_).length:Int) - (0:Int)).toNat)+1) ((Q72 l)==0) 0).1) ((QF5 l set_ (((((Q40 set_).length:Int) - (0:Int)).toNat)+1) ((Q72 l)==0) 0).2)
theorem ref13_Quiet_c (l:List Node) (set_:Int) (hs0:l.length<=4294967296):GV 45 [nodeL l,U set_] (Bo (Qn9 l set_)):=by
 generalize hR:Qn9 l set_=R;refine gA (kp 8 [19]) Tryz.func45 ?_;have hk0:=hs0;obtain z3:l.length<=4294967296:=hs0;have hll:=Qt7 set_;have hgi:∀ k,0<=(Q40 set_).getD k 0:=fun k=>Qp4 (p:=fun y:Int=>0<=y) (fun y hy=>(hll.2 y hy).1) (by decide);refine us (Q56 set_ _) ?_;refine us (Qg5 l szA _) ?_;refine Qb0 (fun (ok:Bool) (i:Nat)=>∃ m,((((Q40 set_).length:Int) - (i:Int)).toNat)<m∧QG5 (QF5 l set_ m ok i).1 (QF5 l set_ m ok i).2=R∧(i:Int)<=((Q40 set_).length:Int)) (fun ok i=>((((Q40 set_).length:Int) - (i:Int)).toNat)) (fun ok i=>[(0,nodeL l),(4,Bo false),(5,ints (Q40 set_)),(6,Bo ok),(7,I (i:Int))]) (fun ok i=>[]) ((Q72 l)==0) 0 (wkA []) ⟨_,yCa _,foll hR rfl,by exact exA⟩ ?_;clear hR;rintro ok i ⟨m,hm,hR,hx⟩;(try dsimp only at hR hm hx);obtain ⟨m,rfl⟩:=sucA m;apply ai<;>intro h1
 ·refine And.intro (by first|exact fun hg=>yga (by first|((have hq:=hgi ((i:Int).toNat);simp at hg;simp at hq;omega))|first|((have hq:=hgi ((i:Int).toNat);simp at *;omega))|exact ckA)|exact gkA) ?_;refine And.intro (by first|exact fun hg=>yga (by first|((have hq:=hgi ((i:Int).toNat);simp at hg;simp at hq;omega))|first|((have hq:=hgi ((i:Int).toNat);simp at *;omega))|exact ckA)|exact gkA) ?_;refine And.intro (by first|exact fun hg=>yga (by first|((have hq:=hgi ((i:Int).toNat);simp at hg;simp at hq;omega))|first|((have hq:=hgi ((i:Int).toNat);simp at *;omega))|exact ckA)|exact gkA) ?_;exact Q60 ((decide (((Q40 set_).getD i 0)<(l.length:Int)))&&((l.getD (((Q40 set_).getD i 0).toNat) zF).want==0)) (i+1) (wkA []) omA ⟨m,by exact omA,foll hR (congrArg (fun p:Bool × Nat=>QG5 p.1 p.2) (ct h1 rfl)),by exact exA⟩
 ·replace hR:QG5 ok i=R:=fo2 (fun p:Bool × Nat=>QG5 p.1 p.2) (ok,i) hR (cf h1 rfl);exact lfA
def QW7 (p_:List Step) (at_:Int) (long:Int) (nodes:Int):Bool:=bif ((((((((QW0 p_)!=0)||(decide (nodes<1)))||(decide (nodes > 1000000)))||(decide (long<1)))||(decide (long > 1000000)))||(decide (at_<0)))||(decide (at_ > (w64 (1000000 - long))))) then false else (decide ((QV7 p_ at_ (w64 (at_+long))) >= nodes))
theorem QVe (p_:List Step) (at_:Int) (long:Int) (nodes:Int) (hs0:p_.length<=4294967296):GV 46 [stepL p_,I at_,I long,I nodes] (Bo (QW7 p_ at_ long nodes)):=by
 generalize hR:QW7 p_ at_ long nodes=R;refine gA (kp 9 [37]) Tryz.func46 ?_;have hk0:=hs0;obtain z3:p_.length<=4294967296:=hs0;refine us (QT8 p_ szA _) ?_;apply ai<;>intro h1
 ·exact lfA
 ·refine us (ref10_Least_c p_ at_ (w64 (at_+long)) szA _) ?_;exact lfA
def Qs2 (p_:List Step) (from_:Int) (to_:Int) (n:Int):List Int->List Step->Nat->(List Step) × Nat
 | [],out,i=>(out,i)
 | x_ :: r,out,i=>bif ((decide (x_ >= from_))&&(decide (x_<to_))) then bif (((out.length:Int)==0)||((out.getD ((w64 ((out.length:Int) - 1)).toNat) zE).free != (w64 ((Qt5 p_ x_)+n)))) then Qs2 p_ from_ to_ n r (out++([(⟨x_,(w64 ((Qt5 p_ x_)+n))⟩:Step)]:List Step)) (i+1) else Qs2 p_ from_ to_ n r out (i+1) else bif (((out.length:Int)==0)||((out.getD ((w64 ((out.length:Int) - 1)).toNat) zE).free != (Qt5 p_ x_))) then Qs2 p_ from_ to_ n r (out++([(⟨x_,(Qt5 p_ x_)⟩:Step)]:List Step)) (i+1) else Qs2 p_ from_ to_ n r out (i+1)
def Qe3 (out:List Step) (i:Nat):(List Step) × Int:=bif ((QW0 out)!=0) then ([],3) else (out,0)
def Qd7 (p_:List Step) (from_:Int) (to_:Int) (n:Int) (more:List Int):(List Step) × Int:=Qe3 ((Qs2 p_ from_ to_ n (Q91 p_ more) [] 0).1) ((Qs2 p_ from_ to_ n (Q91 p_ more) [] 0).2)
def Qi2 (p_:List Step) (from_:Int) (to_:Int) (n:Int):(List Step) × Int:=bif ((QW0 p_)!=0) then ([],100) else bif (((((decide (from_<0))||(decide (from_ > 1000000)))||(decide (to_<from_)))||(decide (n<(-1000000))))||(decide (n > 1000000))) then ([],2) else bif (decide (to_<=1000000)) then Qd7 p_ from_ to_ n (([from_]:List Int)++([to_]:List Int)) else Qd7 p_ from_ to_ n ([from_]:List Int)
theorem b2b0 {P:Prop} (h:P:=by first|((have hT:=Ql9 p_ more;have hP:=Qv7 (p:=p_) (by assumption);omega))|exact szA):P:=h
theorem ref10_Add_c (p_:List Step) (from_:Int) (to_:Int) (n:Int) (hs0:p_.length<=4294967296):GV 221 [stepL p_,I from_,I to_,I n] (AVal.tup [stepL ((Qi2 p_ from_ to_ n).1),I ((Qi2 p_ from_ to_ n).2)]):=by
 generalize hR:Qi2 p_ from_ to_ n=R;refine gA (kj [1000008] 15 [17,36,40,51,73,90,102]) Tryz.func221 ?_;have hk0:=hs0;obtain z17:p_.length<=4294967296:=hs0;refine us (QT8 p_ b2b0 _) ?_;refine ai (fun h1=>?_) (fun h2=>?_)
 ·exact lfA
 ·refine ai (fun h3=>?_) (fun h4=>?_)
  ·exact lfA
  ·refine Or.inr ?_;refine Q81 (fun (more:List Int)=>Qd7 p_ from_ to_ n more=R∧more.length<=2) (fun more=>[(0,stepL p_),(1,I from_),(2,I to_),(3,I n),(8,AVal.lit (.slice none 0 0)),(9,I 0),(10,ints more)]) (fun more=>[]) ?_ ?_
   ·clear hR;rintro more ⟨hR,hx⟩;(try dsimp only at hR hx);refine us (ref10_Ticks_c p_ more b2b0 b2b0 (by exact ⟨Qv7 (by assumption),by assumption⟩) _) ?_;refine Qb0 (fun (out:List Step) (i:Nat)=>Qe3 (Qs2 p_ from_ to_ n (List.drop i (Q91 p_ more)) out i).1 (Qs2 p_ from_ to_ n (List.drop i (Q91 p_ more)) out i).2=R∧i<=(Q91 p_ more).length∧out.length<=i) (fun out i=>(Q91 p_ more).length - i) (fun out i=>[(0,stepL p_),(1,I from_),(2,I to_),(3,I n),(8,AVal.lit (.slice none 0 0)),(9,I 0),(11,ints (Q91 p_ more)),(12,AVal.own 0 0 2 0 out.length),(13,I (i:Int))]) (fun out i=>[(0,AObj.row 182 2 (out.map Step.cells))]) [] 0 ((QC1 182 2).trans (wkA [0])) ⟨foll hR rfl,by exact omA,by exact exA⟩ ?_;clear hR;rintro out i ⟨hR,hj,hx⟩;(try dsimp only at hR hj hx);apply ai<;>intro h5
    ·have hlt:=ltA h5;rw [Qa0 0 hlt] at hR;have hT:=Ql9 p_ more;have hP:=Qv7 (p:=p_) (by assumption);refine ai gkA ?_;refine us (Q9h p_ ((Q91 p_ more).getD i 0) b2b0 _) ?_;refine ai gkA ?_;refine ai gkA ?_;refine ai (fun h7=>?_) (fun h8=>?_)
     ·refine ai gkA ?_;refine ⟨_,fun hg=>QL0 rfl rfl rfl (Qa1 zE ((w64 ((out.length:Int) - 1)).toNat) (by first|rfl|exact yma _|omega) ckA) rfl,?_⟩;apply ai<;>intro h9
      ·refine ai gkA ?_;refine Or.inl ?_;(first|refine ⟨Qn1 16 rfl lnA apA,?_⟩|refine ⟨QD0 16 rfl apA,?_⟩);exact Q60 (out++([(⟨((Q91 p_ more).getD i 0),(w64 ((Qt5 p_ ((Q91 p_ more).getD i 0))+n))⟩:Step)]:List Step)) (i+1) (wkA [0]) omA ⟨foll hR (congrArg (fun p:(List Step) × Nat=>Qe3 p.1 p.2) (ct h7 (ct h9 rfl))),by exact omA,by exact exA⟩
      ·exact Q60 out (i+1) (wkA [0]) omA ⟨foll hR (congrArg (fun p:(List Step) × Nat=>Qe3 p.1 p.2) (ct h7 (cf h9 rfl))),by exact omA,by exact exA⟩
     ·refine ai gkA ?_;refine ⟨_,fun hg=>QL0 rfl rfl rfl (Qa1 zE ((w64 ((out.length:Int) - 1)).toNat) (by first|rfl|exact yma _|omega) ckA) rfl,?_⟩;apply ai<;>intro h11
      ·refine ai gkA ?_;refine Or.inl ?_;(first|refine ⟨Qn1 16 rfl lnA apA,?_⟩|refine ⟨QD0 16 rfl apA,?_⟩);exact Q60 (out++([(⟨((Q91 p_ more).getD i 0),(Qt5 p_ ((Q91 p_ more).getD i 0))⟩:Step)]:List Step)) (i+1) (wkA [0]) omA ⟨foll hR (congrArg (fun p:(List Step) × Nat=>Qe3 p.1 p.2) (cf h8 (ct h11 rfl))),by exact omA,by exact exA⟩
      ·exact Q60 out (i+1) (wkA [0]) omA ⟨foll hR (congrArg (fun p:(List Step) × Nat=>Qe3 p.1 p.2) (cf h8 (cf h11 rfl))),by exact omA,by exact exA⟩
    ·rw [Qd0 (l:=(Q91 p_ more)) (j:=i) (geA h5)] at hR;replace hR:Qe3 out i=R:=fo2 (fun p:(List Step) × Nat=>Qe3 p.1 p.2) (out,i) hR rfl;refine us (AGives.lent (QT8 out b2b0 []) (ev (Qe0 _ _ rfl eqA lnA) .nil) (.cons lw .nil) (QT2 rfl)) ?_;apply ai<;>intro h13
     ·exact lfA
     ·obtain rfl:=foll hR (cf h13 rfl);exact Qc0 (Low.tup' (.cons lw (l1 .nil))) (Seen.tup (ev (Qe0 zE _ rfl eqA lnA) (e1 .nil)))
   ·apply ai<;>intro h15
    ·have qh15:=yda h15;refine Or.inl ?_;(first|refine ⟨Qn1 8 rfl lnA apA,?_⟩|refine ⟨QD0 8 rfl apA,?_⟩);exact Q90 (([from_]:List Int)++([to_]:List Int)) (wk [] .nil (sl lw (s1 (s1 (s1 (s1 (s1 (sv (Qi7 _ _ rfl (yva _) (by decide) eqA (fun _=>lowL1 rfl) lnA) .nil)))))))) (⟨folA,by exact exA⟩)
    ·have qh15:=yca h15;exact Q90 ([from_]:List Int) (wk [] .nil (sl lw (s1 (s1 (s1 (s1 (s1 (sv (Qi7 _ _ rfl (yva _) (by decide) eqA (fun _=>lowL1 rfl) lnA) .nil)))))))) (⟨folA,by exact exA⟩)
def Q18 (s:State) (n:Int):Int:=bif (((s.nodes.getD (n.toNat) zF).drain||((s.nodes.getD (n.toNat) zF).state==0))||((s.nodes.getD (n.toNat) zF).state==4)) then 0 else bif ((s.nodes.getD (n.toNat) zF).state==3) then (w64 ((s.nodes.getD (n.toNat) zF).since+12)) else bif ((QZ4 s.jobs ((s.nodes.getD (n.toNat) zF).job)).state != 2) then 1000001 else (w64 ((QZ4 s.jobs ((s.nodes.getD (n.toNat) zF).job)).limit+12))
theorem ref20_until_c (s:State) (n:Int) (hs0:s.sz) (hp0:0<=n∧n<(s.nodes.length:Int)):GV 220 [State.a s,I n] (I (Q18 s n)):=by
 generalize hR:Q18 s n=R;refine gA (kp 7 [23,26,37]) Tryz.func220 ?_;have hk0:=hs0;obtain ⟨z7,z8,z9,z10,z11,z12,z13⟩:=hs0;refine ai gkA ?_;apply ai<;>intro h1
 ·exact lfA
 ·apply ai<;>intro h3
  ·exact lfA
  ·refine us (ref15_Get_c s.jobs ((s.nodes.getD (n.toNat) zF).job) szA _) ?_;apply ai<;>intro h5
   ·exact lfA
   ·exact lfA
def Qm9 (l:List Node) (n:Int) (act:Int) (job:Int) (now:Int):(List Node) × Int:=((l.set (n.toNat) ((Qi4 (l.getD (n.toNat) zF) act job now).1)),0)
def QJ4 (l:List Node) (n:Int) (act:Int) (job:Int) (now:Int):(List Node) × Int:=bif ((((((Q72 l)!=0)||(decide (n<0)))||(decide (n >= (l.length:Int))))||(decide (now<0)))||(decide (now > 1000000))) then ([],120) else bif (!(Qi4 (l.getD (n.toNat) zF) act job now).2) then ([],120) else Qm9 l n act job now
@[simp] theorem ref12_Do_k1_len (l:List Node) (n act job now:Int):(Qm9 l n act job now).1.length=l.length:=by simp [Qm9]
theorem ref12_Do_c (l:List Node) (n:Int) (act:Int) (job:Int) (now:Int) (hs0:l.length<=4294967296):GV 113 [nodeL l,I n,I act,I job,I now] (AVal.tup [nodeL ((QJ4 l n act job now).1),I ((QJ4 l n act job now).2)]):=by
 generalize hR:QJ4 l n act job now=R;refine gA (kj [1000007] 15 [35,48]) Tryz.func113 ?_;have hk0:=hs0;obtain z5:l.length<=4294967296:=hs0;refine us (Qg5 l szA _) ?_;apply ai<;>intro h1
 ·exact lfA
 ·refine ai gkA ?_;refine us (ref12_One_c (l.getD (n.toNat) zF) act job now _) ?_;apply ai<;>intro h3
  ·exact lfA
  ·refine join_start (X:=Unit) (fun _=>Qm9 l n act job now  = R) (fun _=>[(1,I n),(10,AVal.lit (.slice none 0 0)),(11,I 0),(12,AVal.ptr 0 0 7 0 0),(14,AVal.own 1 0 7 0 l.length)]) (fun _=>[(0,AObj.row 55 7 [[I ((Qi4 (l.getD (n.toNat) zF) act job now).1.state),I ((Qi4 (l.getD (n.toNat) zF) act job now).1.job),I ((Qi4 (l.getD (n.toNat) zF) act job now).1.epoch),Bo ((Qi4 (l.getD (n.toNat) zF) act job now).1.drain),I ((Qi4 (l.getD (n.toNat) zF) act job now).1.want),I ((Qi4 (l.getD (n.toNat) zF) act job now).1.since),I ((Qi4 (l.getD (n.toNat) zF) act job now).1.asked)]]),(0,AObj.row 55 7 (l.map Node.cells))]) ?_ ?_
   ·clear hR;rintro _ hR;(try dsimp only at hR);refine ai gkA ?_;refine ⟨_,Qb3 rfl rfl rfl rfl (Qa1 zF (n.toNat) (by first|rfl|exact yma _|omega) ckA) rfl rfl (QDh (n.toNat) ((Qi4 (l.getD (n.toNat) zF) act job now).1) (by first|rfl|exact yma _|omega) rfl),?_⟩;obtain rfl:=foll hR rfl;exact Qc0 (Low.tup' (.cons lw (l1 .nil))) (Seen.tup (ev (Qe0 zF _ rfl eqA lnA) (e1 .nil)))
   ·(first|refine ⟨Qn1 56 rfl lnA apA,?_⟩|refine ⟨QD0 56 rfl apA,?_⟩);exact QDg () (wkA [0,1]) (foll hR (cf h1 (cf h3 rfl)))
theorem QWe (l:List Node) (n act job now:Int):(QJ4 l n act job now).1.length<=l.length:=by
 unfold QJ4
 repeat' first|exact yva _|(simp;done)|(rw [yAa];split)
def Qr6 (l:List Node) (n:Int):Note × Bool:=bif (((((Q72 l)!=0)||(decide (n<0)))||(decide (n >= (l.length:Int))))||((l.getD (n.toNat) zF).want==0)) then (zL,false) else ((⟨(l.getD (n.toNat) zF).want,n,(l.getD (n.toNat) zF).job,(l.getD (n.toNat) zF).epoch⟩:Note),true)
theorem ref12_Note_c (l:List Node) (n:Int) (hs0:l.length<=4294967296):GV 173 [nodeL l,I n] (AVal.tup [Note.a ((Qr6 l n).1),Bo ((Qr6 l n).2)]):=by
 generalize hR:Qr6 l n=R;refine gA (kp 6 [26]) Tryz.func173 ?_;have hk0:=hs0;obtain z3:l.length<=4294967296:=hs0;refine us (Qg5 l szA _) ?_;refine ai gkA ?_;apply ai<;>intro h1
 ·exact lfA
 ·refine dchk (by kernel_rfl) ?_;refine ai gkA ?_;refine ai gkA ?_;refine ai gkA ?_;(repeat ((first|refine ai rfl ?_|refine ai (fun _=>rfl) ?_)));exact lfA
def QJ3 :List Int->Int->Nat->Int × Nat
 | [],out,i=>(out,i)
 | x_ :: r,out,i=>bif (!(Qu8 out x_)) then QJ3 r (wu64 (out+(Qu7 x_))) (i+1) else QJ3 r out (i+1)
def Qb7 (out:Int) (i:Nat):Int:=out
def Qs5 (l:List Int):Int:=Qb7 ((QJ3 l 0 0).1) ((QJ3 l 0 0).2)
theorem Q7h (l:List Int) (hs0:l.length<=4294967296) (hp0:∀ y ∈ l,y<=100):GV 64 [ints l] (U (Qs5 l)):=by
 generalize hR:Qs5 l=R;refine gA (kp 5 [8,17]) Tryz.func64 ?_;have hk0:=hs0;obtain z5:l.length<=4294967296:=hs0;refine Qb0 (fun (out:Int) (i:Nat)=>Qb7 (QJ3 (List.drop i l) out i).1 (QJ3 (List.drop i l) out i).2=R∧i<=l.length) (fun out i=>l.length - i) (fun out i=>[(0,ints l),(2,U 0),(3,U out),(4,I (i:Int))]) (fun out i=>[]) 0 0 (wkA []) ⟨foll hR rfl,by exact omA⟩ ?_;clear hR;rintro out i ⟨hR,hj⟩;(try dsimp only at hR hj);apply ai<;>intro h1
 ·have hlt:=ltA h1;rw [Qa0 0 hlt] at hR;have hgi:l.getD i 0<=100:=hp0 _ (by rw [yTa,yaa hlt];exact yZa hlt);refine ai gkA ?_;refine us (Q5h out (l.getD i 0) _) ?_;apply ai<;>intro h3
  ·refine ai gkA ?_;refine us (Q8h (l.getD i 0) ckA _) ?_;exact Q60 (wu64 (out+(Qu7 (l.getD i 0)))) (i+1) (wkA []) omA ⟨foll hR (congrArg (fun p:Int × Nat=>Qb7 p.1 p.2) (ct h3 rfl)),by exact omA⟩
  ·exact Q60 out (i+1) (wkA []) omA ⟨foll hR (congrArg (fun p:Int × Nat=>Qb7 p.1 p.2) (cf h3 rfl)),by exact omA⟩
 ·rw [Qd0 (l:=l) (j:=i) (geA h1)] at hR;replace hR:Qb7 out i=R:=fo2 (fun p:Int × Nat=>Qb7 p.1 p.2) (out,i) hR rfl;exact lfA
def ref14_Same_g1 (a:Job) (b:Job):List Dep->Nat->Bool
 | [],_=>((((((((((((((a.id==b.id)&&(ByteArray.toList a.name==ByteArray.toList b.name))&&(ByteArray.toList a.user==ByteArray.toList b.user))&&(ByteArray.toList a.account==ByteArray.toList b.account))&&(a.prio==b.prio))&&(a.state==b.state))&&(a.held==b.held))&&(a.born==b.born))&&(a.promise==b.promise))&&(a.choice==b.choice))&&(a.start==b.start))&&(a.limit==b.limit))&&(a.nodes==b.nodes))&&(a.used==b.used))
 | x_ :: r,i=>bif (!((x_.how==(b.after.getD i zC).how)&&(x_.job==(b.after.getD i zC).job))) then false else ref14_Same_g1 a b r (i+1)
def Q39 (a:Job) (b:Job):Bool:=bif (((a.after.length:Int)!=(b.after.length:Int))||(!(QU7 a.shape b.shape))) then false else ref14_Same_g1 a b a.after 0
theorem QYe (a:Job) (b:Job) (hs0:a.sz) (hs1:b.sz):GV 115 [Job.a a,Job.a b] (Bo (Q39 a b)):=by
 generalize hR:Q39 a b=R;refine gA (kp 7 [21,26,39]) Tryz.func115 ?_;obtain ⟨z7,z8,z9,z10,z11⟩:=Job.zz hs0;obtain ⟨z12,z13,z14,z15,z16⟩:=Job.zz hs1;(first|apply u2|apply u3|apply u4|apply us);exact QSe a.shape b.shape szA szA _;apply ai<;>intro h1
 ·exact lfA
 ·refine Qg0 (fun (i:Nat)=>ref14_Same_g1 a b (List.drop i a.after) i=R∧i<=a.after.length) (fun i=>a.after.length - i) (fun i=>[(2,AVal.ptr 0 0 20 0 0),(3,AVal.ptr 1 0 20 0 0),(4,Bo false),(5,I (i:Int))]) (fun i=>[(0,AObj.row 72 20 [[I a.id,Sg a.name,Sg a.user,Sg a.account,I a.shape.kind,altL a.shape.alts,I a.shape.min,I a.shape.max,I a.shape.wall,I a.prio,depL a.after,I a.state,Bo a.held,I a.born,I a.promise,I a.choice,I a.start,I a.limit,U a.nodes,I a.used]]),(0,AObj.row 72 20 [[I b.id,Sg b.name,Sg b.user,Sg b.account,I b.shape.kind,altL b.shape.alts,I b.shape.min,I b.shape.max,I b.shape.wall,I b.prio,depL b.after,I b.state,Bo b.held,I b.born,I b.promise,I b.choice,I b.start,I b.limit,U b.nodes,I b.used]])]) 0 (wkA [0,1]) ⟨folA,by exact omA⟩ ?_;clear hR;rintro i ⟨hR,hj⟩;(try dsimp only at hR hj);apply ai<;>intro h3
  ·have hlt:=ltA h3;rw [Qa0 zC hlt] at hR;refine dchk (by kernel_rfl) ?_;refine ai gkA ?_;refine ai gkA ?_;refine ai (fun _=>(by kernel_rfl:eqOK _ _=true)) ?_;(repeat ((first|refine ai rfl ?_|refine ai (fun _=>rfl) ?_)));apply ai<;>intro h5
   ·exact lfA
   ·exact Qn0 (i+1) (wkA [0,1]) omA ⟨folA,by exact omA⟩
  ·rw [Qd0 (l:=a.after) (j:=i) (geA h3)] at hR;exact lfA
end Go.Proofs.YtackngeeehiegaaGreatDoor
