/-
  What the last text of this claim leans on: an evaluator over the code, contracts of functions, plain laws. Conditions stand in each statement.
-/
import Derived.Test.YtackngeeehiegaaGreatDoorRS8
import Derived.Test.YtackngeeehiegaaGreatDoorRS9
import Derived.Test.YtackngeeehiegaaGreatDoorProg
namespace Go.Proofs.YtackngeeehiegaaGreatDoor
set_option linter.unusedSimpArgs false
set_option linter.unusedVariables false
open Go.Fw
set_option maxRecDepth 20000
set_option maxHeartbeats 4000000
attribute [local irreducible] ACalls AMoves
def table_whole (l:List Job):(List Job):=l
theorem QRc (l:List Job) (hs0:l.length<=4294967296∧(∀ y ∈ l,y.sz)):AMoves Tryz.prog 128 [jobL l] [] 0 (AVal.own 0 0 20 0 l.length) [(0,AObj.row 72 20 (l.map Job.cells))]:=by
 generalize hR:table_whole l=R;refine mo (kp 5 [8,9,10]) Tryz.func128 ?_;obtain ⟨z8,z9⟩:=id hs0;refine us (mv [] (QI8 l szA) .nil (dl lw .nil) (rO rr .nil) (rw_ 0 0 rfl)) ?_;refine Qg0 (fun (i:Nat)=>True∧i<=l.length) (fun i=>l.length - i) (fun i=>[(2,AVal.lit (.slice none 0 0)),(3,AVal.own 0 0 20 0 l.length),(8,I (l.length:Int)),(9,I (i:Int))]) (fun i=>[(0,AObj.row 72 20 (l.map Job.cells))]) 0 (wkA [0]) ⟨trivial,by exact omA⟩ ?_;have hR0:=hR;rintro i ⟨hR,hj⟩;(try dsimp only at hR hj);refine ai (fun h1=>?_) (fun h2=>?_)
 ·have hlt:=ltA h1;have hxz:(l.getD i Job.zero).sz:=Q94 (by first|assumption|grind) (Job.szz _);have hkz:=hxz;obtain ⟨z3,z4,z5,z6,z7⟩:=Job.zz hxz;refine ai gkA ?_;refine ⟨_,QQ0 rfl rfl rfl (Q21 Job.zero i (by first|rfl|exact Nat.zero_add _|omega) ckA) rfl,?_⟩;refine us (QOc ((l.getD i Job.zero).shape.alts) szA _) ?_;refine ai gkA ?_;refine ⟨_,Qu2 rfl rfl rfl rfl (Q21 Job.zero i (by first|rfl|exact Nat.zero_add _|omega) ckA) rfl rfl (Qv6 Job.zero i (by first|rfl|exact Nat.zero_add _|omega) ckA rfl),?_⟩;refine ai gkA ?_;refine ⟨_,QQ0 rfl rfl rfl (Q21 Job.zero i (by first|rfl|exact Nat.zero_add _|omega) ckA) rfl,?_⟩;refine us (QPc ((l.getD i Job.zero).after) szA _) ?_;refine ai gkA ?_;refine ⟨_,Qu2 rfl rfl rfl rfl (Q21 Job.zero i (by first|rfl|exact Nat.zero_add _|omega) ckA) rfl rfl (Qv6 Job.zero i (by first|rfl|exact Nat.zero_add _|omega) ckA rfl),?_⟩;exact Ql0 (i+1) (wkA [0]) omA ⟨hR,by exact omA⟩
 ·skip;have hR:=hR0;obtain rfl:=foll hR rfl;exact rq (ttA [0])
def QJ7 (p_:List Step):List Step->Nat->Int
 | [],_=>0
 | x_ :: r,i=>bif (((!(QD8 x_.free))||(decide (x_.at_ > 1000000)))||((decide ((i:Int) > 0))&&((decide (x_.at_<=(p_.getD (Int.toNat (w64 ((i:Int) - 1))) Step.zero).at_))||(x_.free==(p_.getD (Int.toNat (w64 ((i:Int) - 1))) Step.zero).free)))) then 100 else QJ7 p_ r (i+1)
def QZ2 (p_:List Step):Int:=bif ((((p_.length:Int)==0)||(decide ((p_.length:Int) > 1000)))||((p_.getD 0 Step.zero).at_ != 0)) then 100 else QJ7 p_ p_ 0
theorem QC6 (p_:List Step) (hs0:p_.length<=4294967296):GV 87 [stepL p_] (I (QZ2 p_)):=by
 generalize hR:QZ2 p_=R;refine gA (kp 5 [19,20,21,22,23,61]) Tryz.func87 ?_;have hk0:=hs0;obtain z7:p_.length<=4294967296:=hs0;refine ai gkA ?_;refine ai (fun h1=>?_) (fun h2=>?_)
 ·obtain rfl:=foll hR (ct h1 rfl);exact Q80 lx sr
 ·refine Qg0 (fun (i:Nat)=>QJ7 p_ (List.drop i p_) i=R∧i<=p_.length) (fun i=>p_.length - i) (fun i=>[(0,stepL p_),(2,I 0),(20,stepL p_),(21,I (p_.length:Int)),(22,I (i:Int))]) (fun i=>[]) 0 (wkA []) ⟨foll hR (cf h2 rfl),by exact omA⟩ ?_;clear hR;rintro i ⟨hR,hj⟩;(try dsimp only at hR hj);refine ai (fun h3=>?_) (fun h4=>?_)
  ·have hlt:=ltA h3;rw [Qc0 Step.zero hlt] at hR;refine ai gkA ?_;refine dchk (by kernel_rfl) ?_;(first|apply u2|apply u3|apply u4|apply us);exact QO8 ((p_.getD i Step.zero).free) _;refine ai gkA ?_;refine ai gkA ?_;(repeat ((first|refine ai rfl ?_|refine ai (fun _=>rfl) ?_|refine ai (fun _=>QO8 ((p_.getD i Step.zero).free) _) ?_)));refine ai (fun h5=>?_) (fun h6=>?_)
   ·exact lfA
   ·exact Ql0 (i+1) (wkA []) omA ⟨folA,by exact omA⟩
  ·rw [Qd0 (l:=p_) (j:=i) (geA h4)] at hR;exact lfA
theorem QY6 {p:List Step} (h:(QZ2 p != 0)=false):1<=p.length∧p.length<=1000∧(p.getD 0 Step.zero).at_=0:=by
 simp only [QZ2] at h
 revert h
 cases h2:((((p.length:Int)==0)||(decide ((p.length:Int) > 1000)))||((p.getD 0 Step.zero).at_ != 0)) with
 | true=>simp
 | false=>intro _;simp at h2;refine ⟨?_,by omega,h2.2⟩;have:=List.length_pos_iff.2 h2.1.1;omega
def Qh0 (p_:List Step) (t:Int):Int:=(w64 ((QV1 (p_.length:Int) (fun (y:Int)=>(decide ((p_.getD (Int.toNat y) Step.zero).at_ > t)))) - 1))
theorem Qna (p_:List Step) (t:Int) (hs0:p_.length<=4294967296):GV 133 [stepL p_,I t] (I (Qh0 p_ t)):=by
 generalize hR:Qh0 p_ t=R;refine gA (kp 5 []) Tryz.func133 ?_;have hk0:=hs0;obtain z5:p_.length<=4294967296:=hs0;have cl1:∀ (y1:Int) (hcl:0<=y1∧y1<(p_.length:Int)),AMoves Tryz.prog 203 [I y1,AVal.ptr 0 0 1 0 0,AVal.ptr 1 0 1 0 0] [(0,AObj.row 82 1 [[stepL p_]]),(0,AObj.row 3 1 [[I t]])] 2 (Bo ((fun (y:Int)=>(decide ((p_.getD (Int.toNat y) Step.zero).at_ > t))) y1)) [(0,AObj.row 82 1 [[stepL p_]]),(0,AObj.row 3 1 [[I t]])]:=by
  intro y1 hcl;have hR:(fun (y:Int)=>(decide ((p_.getD (Int.toNat y) Step.zero).at_ > t))) y1=(fun (y:Int)=>(decide ((p_.getD (Int.toNat y) Step.zero).at_ > t))) y1:=rfl;refine mo (kp 5 []) Tryz.func203 ?_;refine dchk (by kernel_rfl) ?_;refine ai gkA ?_;(repeat ((first|refine ai rfl ?_|refine ai (fun _=>rfl) ?_)));refine Qt0 (fun r:Bool=>Bo r) (fun _=>[(0,AObj.row 82 1 [[stepL p_]]),(0,AObj.row 3 1 [[I t]])]) (leaf:=(decide ((p_.getD (Int.toNat y1) Step.zero).at_ > t))) (foll hR rfl) ?_;exact tt [0,1] (tO rfl (ts (lv lw LowL.nil)) (tO rfl (ts (l1 LowL.nil)) .nil)) t1
 have hof1:AMoves Tryz.prog 202 [I (p_.length:Int),AVal.fn (.func 203) [] [AVal.ptr 0 0 1 0 0,AVal.ptr 1 0 1 0 0]] [(0,AObj.row 82 1 [[stepL p_]]),(0,AObj.row 3 1 [[I t]])] 2 (I (QV1 (p_.length:Int) (fun (y:Int)=>(decide ((p_.getD (Int.toNat y) Step.zero).at_ > t))))) [(0,AObj.row 82 1 [[stepL p_]]),(0,AObj.row 3 1 [[I t]])]:=by
  have hR:QV1 (p_.length:Int) (fun (y:Int)=>(decide ((p_.getD (Int.toNat y) Step.zero).at_ > t)))=QV1 (p_.length:Int) (fun (y:Int)=>(decide ((p_.getD (Int.toNat y) Step.zero).at_ > t))):=rfl;refine mo (kp 8 [11,21]) Tryz.func202 ?_;refine Qe0 (fun (i:Int) (j:Int)=>∃ m,(Int.toNat (j - i))<m∧QV4 (Q81 (fun (y:Int)=>(decide ((p_.getD (Int.toNat y) Step.zero).at_ > t))) m i j).1 (Q81 (fun (y:Int)=>(decide ((p_.getD (Int.toNat y) Step.zero).at_ > t))) m i j).2=QV1 (p_.length:Int) (fun (y:Int)=>(decide ((p_.getD (Int.toNat y) Step.zero).at_ > t)))∧0<=i∧i<=j∧j<=(p_.length:Int)) (fun i j=>(Int.toNat (j - i))) (fun i j=>[(1,AVal.fn (.func 203) [] [AVal.ptr 0 0 1 0 0,AVal.ptr 1 0 1 0 0]),(4,I 0),(5,I i),(6,I j)]) (fun i j=>[(0,AObj.row 82 1 [[stepL p_]]),(0,AObj.row 3 1 [[I t]])]) 0 (p_.length:Int) (wkA [0,1]) ⟨_,Nat.lt_succ_self _,foll hR rfl,by exact exA⟩ ?_;clear hR;rintro i j ⟨m,hm,hR,hx⟩;(try dsimp only at hR hm hx);obtain ⟨m,rfl⟩:=sucA m;refine ai (fun h1=>?_) (fun h2=>?_)
  ·have qh1:=of_decide_eq_true h1;(have hq0:i<j:=qh1;have hh:w64 (Int.fdiv (wu64 (w64 (i+j))) (2 ^ (min (Int.toNat 1) 64)))=(i+j) / 2:=Qfa hx.1 hq0 hx.2.2 (by omega);have hh3:w64 (w64 (Int.fdiv (wu64 (w64 (i+j))) (2 ^ (min (Int.toNat 1) 64)))+1)=(i+j) / 2+1:=by rw [hh];exact wr (by omega));refine ai gkA ?_;refine us (mv [0,1] (cl1 (w64 (Int.fdiv (wu64 (w64 (i+j))) (2 ^ (min (Int.toNat 1) 64)))) ckA) (dO (ds (lv lw LowL.nil)) (dO (ds (l1 LowL.nil)) .nil)) (d1 (dp (dp .nil))) (rO (re (lv lw LowL.nil)) (rO (re (l1 LowL.nil)) .nil)) rx) ?_;refine ai (fun h3=>?_) (fun h4=>?_)
   ·exact Q60 (w64 ((w64 (Int.fdiv (wu64 (w64 (i+j))) (2 ^ (min (Int.toNat 1) 64))))+1)) j (wkA [0,1]) (by first|(dsimp only;rw [hh3];omega)|first|(dsimp only;rw [hh];omega)|exact omA) ⟨m,by first|(dsimp only;rw [hh3];omega)|first|(dsimp only;rw [hh];omega)|exact omA,foll hR (congrArg (fun p:Int × Int=>QV4 p.1 p.2) (ct h1 (ct h3 rfl))),by exact exA⟩
   ·exact Q60 i (w64 (Int.fdiv (wu64 (w64 (i+j))) (2 ^ (min (Int.toNat 1) 64)))) (wkA [0,1]) (by first|(dsimp only;rw [hh3];omega)|first|(dsimp only;rw [hh];omega)|exact omA) ⟨m,by first|(dsimp only;rw [hh3];omega)|first|(dsimp only;rw [hh];omega)|exact omA,foll hR (congrArg (fun p:Int × Int=>QV4 p.1 p.2) (ct h1 (cf h4 rfl))),by exact exA⟩
  ·have qh2:=of_decide_eq_false h2;replace hR:QV4 i j=QV1 (p_.length:Int) (fun (y:Int)=>(decide ((p_.getD (Int.toNat y) Step.zero).at_ > t))):=fo2 (fun p:Int × Int=>QV4 p.1 p.2) (i,j) hR (cf h2 rfl);refine Qt0 (fun r:Int=>I r) (fun r:Int=>[(0,AObj.row 82 1 [[stepL p_]]),(0,AObj.row 3 1 [[I t]])]) (leaf:=i) (foll hR rfl) ?_;exact tt [0,1] (tO rfl (ts (lv lw LowL.nil)) (tO rfl (ts (l1 LowL.nil)) .nil)) t1
 refine us (mv [0,1] (hof1) (dO (ds (lv lw LowL.nil)) (dO (ds (l1 LowL.nil)) .nil)) (d1 (dv (dn_fn .nil (dp (dp .nil))) .nil)) (rO (re (lv lw LowL.nil)) (rO (re (l1 LowL.nil)) .nil)) rx) ?_;exact lfA
theorem QW9 {p:List Step} {t:Int} (h1:1<=p.length) (h2:p.length<=1000) (h3:(p.getD 0 Step.zero).at_=0) (ht:0<=t):0<=Qh0 p t∧Qh0 p t<p.length:=by
 obtain ⟨a,b,c,d⟩:=Qke (fun (y:Int)=>(decide ((p.getD (Int.toNat y) Step.zero).at_ > t))) (N:=p.length) (by omega)
 have h4:1<=QV1 (p.length:Int) (fun (y:Int)=>(decide ((p.getD (Int.toNat y) Step.zero).at_ > t))):=by
  rcases Int.lt_or_le 0 (QV1 (p.length:Int) (fun (y:Int)=>(decide ((p.getD (Int.toNat y) Step.zero).at_ > t)))) with h|h
  ·omega
  ·have e:QV1 (p.length:Int) (fun (y:Int)=>(decide ((p.getD (Int.toNat y) Step.zero).at_ > t)))=0:=by omega
   have:=d (by omega)
   rw [e] at this
   have:=of_decide_eq_true this
   simp only [Int.toNat_zero] at this
   omega
 have e:Qh0 p t=QV1 (p.length:Int) (fun (y:Int)=>(decide ((p.getD (Int.toNat y) Step.zero).at_ > t))) - 1:=wr (by omega)
 rw [e]
 omega
def fit_asks (long:Int) (nodes:Int):Bool:=((QZ8 nodes 1 1000000)&&(QZ8 long 1 1000000))
theorem fit_asks_c (long:Int) (nodes:Int):GV 88 [I long,I nodes] (Bo (fit_asks long nodes)):=by
 generalize hR:fit_asks long nodes=R;refine gA (kp 5 []) Tryz.func88 ?_;refine us (Q7a nodes 1 1000000 _) ?_;(first|apply u2|apply u3|apply u4|apply us);exact Q7a long 1 1000000 _;exact lfA
def job_copied (j:Job):Job:=j
theorem job_copied_c (j:Job) (hs0:j.sz):GV 262 [Job.a j] (Job.a j):=by
 generalize hR:job_copied j=R;refine gA (kp 3 []) Tryz.func262 ?_;obtain ⟨z1,z2,z3,z4,z5⟩:=Job.zz hs0;refine us (QHc j.shape.alts szA _) ?_;refine us (QJc j.after szA _) ?_;exact lfA
def Qk7 :List Node->Nat->Int
 | [],_=>0
 | x_ :: r,i=>bif (!(Qf4 x_)) then 120 else Qk7 r (i+1)
def Qr3 (l:List Node):Int:=bif (((l.length:Int)==0)||(decide ((l.length:Int) > 48))) then 120 else Qk7 l 0
theorem QD6 (l:List Node) (hs0:l.length<=4294967296):GV 108 [nodeL l] (I (Qr3 l)):=by
 generalize hR:Qr3 l=R;refine gA (kp 4 [11,15,23]) Tryz.func108 ?_;have hk0:=hs0;obtain z7:l.length<=4294967296:=hs0;refine ai (fun h1=>?_) (fun h2=>?_)
 ·exact lfA
 ·refine Qg0 (fun (i:Nat)=>Qk7 (List.drop i l) i=R∧i<=l.length) (fun i=>l.length - i) (fun i=>[(0,nodeL l),(2,I 0),(3,I (i:Int))]) (fun i=>[]) 0 (wkA []) ⟨folA,by exact omA⟩ ?_;clear hR;rintro i ⟨hR,hj⟩;(try dsimp only at hR hj);refine ai (fun h3=>?_) (fun h4=>?_)
  ·have hlt:=ltA h3;rw [Qc0 Node.zero hlt] at hR;refine ai gkA ?_;refine us (ref12_fine_c (l.getD i Node.zero) _) ?_;refine ai (fun h5=>?_) (fun h6=>?_)
   ·exact lfA
   ·exact Ql0 (i+1) (wkA []) omA ⟨folA,by exact omA⟩
  ·rw [Qd0 (l:=l) (j:=i) (geA h4)] at hR;exact lfA
theorem Qzf {l:List Node} (h:(Qr3 l != 0)=false):l.length<=48:=by
 simp only [Qr3] at h
 revert h
 cases h2:(((l.length:Int)==0)||(decide ((l.length:Int) > 48))) with
 | true=>simp
 | false=>intro _;simp at h2;omega
def QP3 (x_:Alt):List Alt->Nat->Sum (Int) (Nat)
 | [],k=>Sum.inr k
 | x_1 :: r,k=>bif (x_.nodes==x_1.nodes) then Sum.inl 70 else QP3 x_ r (k+1)
def QT0 (s:Shape):List Alt->Nat->Int
 | [],_=>0
 | x_ :: r,i=>bif ((!(QC1 x_.nodes))||(!(Qz2 x_.wall))) then 70 else (Sum.elim id (fun p1:Nat=>QT0 s r (i+1))) (QP3 x_ (List.drop (i+1) s.alts) (i+1))
def QM4 (s:Shape) (most:Int):Int:=bif (((((decide ((s.alts.length:Int)<1))||(decide ((s.alts.length:Int) > most)))||(s.min != 0))||(s.max != 0))||(s.wall != 0)) then 70 else QT0 s s.alts 0
def Qv1 (s:Shape):Int:=bif (s.kind==3) then bif (((((decide ((s.alts.length:Int) > 0))||(!(QC1 s.min)))||(!(QC1 s.max)))||(decide (s.max<s.min)))||(!(Qz2 s.wall))) then 70 else 0 else bif (s.kind==2) then QM4 s 6 else bif (s.kind != 1) then 70 else QM4 s 1
theorem Qtc (s:Shape) (hs0:s.sz):GV 260 [Shape.a s] (I (Qv1 s)):=by
 generalize hR:Qv1 s=R;refine gA (kj [1000010] 6 [8,37,40,43,69,74,94,101,116]) Tryz.func260 ?_;have hk0:=hs0;obtain z19:s.alts.length<=4294967296:=hs0;refine ai (fun h1=>?_) (fun h2=>?_)
 ·(first|apply u2|apply u3|apply u4|apply us);exact Qra s.min _;(first|apply u2|apply u3|apply u4|apply us);exact Qra s.max _;(first|apply u2|apply u3|apply u4|apply us);exact QLd s.wall _;refine ai (fun h3=>?_) (fun h4=>?_)
  ·exact lfA
  ·exact lfA
 ·refine Qb1 (fun (most:Int)=>QM4 s most=R) (fun most=>[(1,AVal.ptr 0 0 5 0 0),(2,I 0),(3,I most)]) (fun most=>[(0,AObj.row 69 5 [[I s.kind,altL s.alts,I s.min,I s.max,I s.wall]])]) ?_ ?_
  ·clear hR;rintro most hR;(try dsimp only at hR);refine ai (fun h5=>?_) (fun h6=>?_)
   ·exact lfA
   ·refine Qg0 (fun (i:Nat)=>QT0 s (List.drop i s.alts) i=R∧i<=s.alts.length) (fun i=>s.alts.length - i) (fun i=>[(1,AVal.ptr 0 0 5 0 0),(2,I 0),(4,I (i:Int))]) (fun i=>[(0,AObj.row 69 5 [[I s.kind,altL s.alts,I s.min,I s.max,I s.wall]])]) 0 (wkA [0]) ⟨folA,by exact omA⟩ ?_;clear hR;rintro i ⟨hR,hj⟩;(try dsimp only at hR hj);refine ai (fun h7=>?_) (fun h8=>?_)
    ·have hlt:=ltA h7;rw [Qc0 Alt.zero hlt] at hR;refine ai gkA ?_;refine us (Qra ((s.alts.getD i Alt.zero).nodes) _) ?_;refine ai gkA ?_;(first|apply u2|apply u3|apply u4|apply us);exact QLd ((s.alts.getD i Alt.zero).wall) _;refine ai (fun h9=>?_) (fun h10=>?_)
     ·exact lfA
     ·refine Qg0 (fun (k:Nat)=>(Sum.elim id (fun p1:Nat=>QT0 s (List.drop (i+1) s.alts) (i+1))) (QP3 (s.alts.getD i Alt.zero) (List.drop k s.alts) k)=R∧k<=s.alts.length) (fun k=>s.alts.length - k) (fun k=>[(1,AVal.ptr 0 0 5 0 0),(2,I 0),(4,I (i:Int)),(5,I (k:Int)),(74,Bo (decide ((i:Int)<(s.alts.length:Int)))),(94,Bo ((!(QC1 (s.alts.getD i Alt.zero).nodes))||(!(Qz2 (s.alts.getD i Alt.zero).wall))))]) (fun k=>[(0,AObj.row 69 5 [[I s.kind,altL s.alts,I s.min,I s.max,I s.wall]])]) (i+1) (wkA [0]) ⟨folA,by exact omA⟩ ?_;clear hR;rintro k ⟨hR,hj⟩;(try dsimp only at hR hj);refine ai (fun h11=>?_) (fun h12=>?_)
      ·have hlt:=ltA h11;rw [Qc0 Alt.zero hlt] at hR;refine dchk (by kernel_rfl) ?_;refine ai gkA ?_;refine ai gkA ?_;(repeat ((first|refine ai rfl ?_|refine ai (fun _=>rfl) ?_)));refine ai (fun h13=>?_) (fun h14=>?_)
       ·obtain rfl:=foll hR (congrArg (Sum.elim id (fun p1:Nat=>QT0 s (List.drop (i+1) s.alts) (i+1))) (ct h13 rfl));exact Q80 lx sr
       ·exact Ql0 (k+1) (wkA [0]) omA ⟨foll hR (congrArg (Sum.elim id (fun p1:Nat=>QT0 s (List.drop (i+1) s.alts) (i+1))) (cf h14 rfl)),by exact omA⟩
      ·rw [Qd0 (l:=s.alts) (j:=k) (geA h12)] at hR;replace hR:(Sum.elim id (fun p1:Nat=>QT0 s (List.drop (i+1) s.alts) (i+1))) (Sum.inr k)=R:=foll hR (congrArg (Sum.elim id (fun p1:Nat=>QT0 s (List.drop (i+1) s.alts) (i+1))) rfl);exact Ql0 (i+1) (wkA [0]) omA ⟨foll hR rfl,by exact omA⟩
    ·rw [Qd0 (l:=s.alts) (j:=i) (geA h8)] at hR;exact lfA
  ·refine ai (fun h15=>?_) (fun h16=>?_)
   ·exact Q70 6 (wkA [0]) (foll hR (cf h2 (ct h15 rfl)))
   ·refine ai (fun h17=>?_) (fun h18=>?_)
    ·exact lfA
    ·exact Q70 1 (wkA [0]) (foll hR (cf h2 (cf h16 (cf h18 rfl))))
theorem Qn8 {s:Shape} (h:(Qv1 s != 0)=false) (hk:(s.kind != 3)=false):1<=s.min∧s.min<=s.max∧s.max<=48∧w64 (s.max - s.min)=s.max - s.min:=by
 have hk':s.kind=3:=by simpa using hk
 have h1:QC1 s.min=true∧QC1 s.max=true ∧ ¬ s.max<s.min:=by
  simp only [Qv1,hk',beq_self_eq_true,cond_true] at h
  revert h
  cases h2:(((((decide ((s.alts.length:Int) > 0))||(!(QC1 s.min)))||(!(QC1 s.max)))||(decide (s.max<s.min)))||(!(Qz2 s.wall))) with
  | true=>simp
  | false=>intro _;simp at h2;exact ⟨h2.1.1.1.2,h2.1.1.2,by omega⟩
 obtain ⟨a,b,c⟩:=h1
 simp [QC1] at a b
 exact ⟨by omega,by omega,by omega,wr (by omega)⟩
def Q07 (a:Shape) (b:Shape):Bool:=(((((a.kind==b.kind)&&(a.min==b.min))&&(a.max==b.max))&&(a.wall==b.wall))&&(Qg7 a.alts b.alts))
theorem QKd (a:Shape) (b:Shape) (hs0:a.sz) (hs1:b.sz):GV 174 [Shape.a a,Shape.a b] (Bo (Q07 a b)):=by
 generalize hR:Q07 a b=R;refine gA (kp 5 []) Tryz.func174 ?_;have hk0:=hs0;obtain z1:a.alts.length<=4294967296:=hs0;have hk1:=hs1;obtain z2:b.alts.length<=4294967296:=hs1;(first|apply u2|apply u3|apply u4|apply us);exact Qfe a.alts b.alts szA szA _;exact lfA
def QF5 :List (Nat × Int)->Nat->Int × Int
 | [],n=>((n:Int),0)
 | x_ :: r,n=>bif ((Qi0 x_.2)==0) then ((n:Int),40) else QF5 r (n+1)
def Qq3 (s:ByteArray):Int × Int:=QF5 (Qm7 s) 0
theorem QE9 (s:ByteArray) (hs0:s.size<=4294967296):GV 298 [Sg s] (AVal.tup [I ((Qq3 s).1),I ((Qq3 s).2)]):=by
 generalize hR:Qq3 s=R;refine gA (kp 7 [8,9,10,14]) Tryz.func298 ?_;have hk0:=hs0;obtain z5:s.size<=4294967296:=hs0;refine Qe0 (fun (n:Nat) (pos:Nat)=>∃ m,ByteArray.size s - pos<=m∧QF5 (Q34 s m pos) n=R∧n<=pos) (fun n pos=>ByteArray.size s - pos) (fun n pos=>[(2,I 0),(3,I 0),(4,I (n:Int)),(8,AVal.ptr 0 0 1 0 0)]) (fun n pos=>[(0,AObj.other (.strIter s pos))]) 0 0 (wkA [0]) ⟨ByteArray.size s,by exact omA,foll hR rfl,by exact exA⟩ ?_;clear hR;rintro n pos ⟨m,hm,hR,hx⟩;(try dsimp only at hR hm hx);refine ai (fun h1=>?_) (fun h2=>?_)
 ·have hlt:=of_decide_eq_true h1;have hw:=Q28 s pos;have hwe:=Q18 s pos hlt;obtain ⟨m,rfl⟩:=sucA m;rw [Q53 h1] at hR;refine ai (fun _=>?_) (fun h=>nomatch h);refine us (Qq4 ((pos,((Utf8.decode s pos).1:Int)).2) _) ?_;refine ai (fun h3=>?_) (fun h4=>?_)
  ·exact lfA
  ·exact Q60 (n+1) (pos+(Utf8.decode s pos).2) (wkA [0]) omA ⟨m,by exact omA,foll hR (cf h4 rfl),by exact exA⟩
 ·rw [Qn5 h2] at hR;refine ai (fun h=>nomatch h) (fun _=>?_);exact lfA
def QL2 (l:List Int) (at_:Int):Nat->Int->Int
 | 0,_=>0
 | m+1,i=>bif (decide (i<(l.length:Int))) then bif ((((((Qi0 (l.getD (Int.toNat at_) 0))==2)&&((Qi0 (l.getD (Int.toNat i) 0))!=2))&&((Qi0 (l.getD (Int.toNat i) 0))!=3))&&((l.getD (Int.toNat i) 0)!=45))&&((l.getD (Int.toNat i) 0)!=95)) then i else bif (((Qi0 (l.getD (Int.toNat at_) 0))==3)&&(!(QF9 (l.getD (Int.toNat i) 0)))) then i else QL2 l at_ m (w64 (i+1)) else i
def Qu1 (l:List Int) (at_:Int):Int:=QL2 l at_ ((Int.toNat ((l.length:Int) - (w64 (at_+1))))+1) (w64 (at_+1))
theorem Qvf (l:List Int) (at_:Int) (hs0:l.length<=4294967296) (hp0:0<=at_∧at_<(l.length:Int)):GV 325 [runes l,I at_] (I (Qu1 l at_)):=by
 generalize hR:Qu1 l at_=R;refine gA (kp 8 [18,47,58]) Tryz.func325 ?_;have hk0:=hs0;obtain z7:l.length<=4294967296:=hs0;have hw0:w64 (at_+1)=at_+1:=wr (by omega);refine ai gkA ?_;refine us (Qq4 (l.getD (Int.toNat at_) 0) _) ?_;refine Qg0 (fun (i:Int)=>∃ m,(Int.toNat ((l.length:Int) - i))<m∧QL2 l at_ m i=R∧0<=i∧i<=(l.length:Int)) (fun i=>(Int.toNat ((l.length:Int) - i))) (fun i=>[(0,runes l),(4,I 0),(5,I (Qi0 (l.getD (Int.toNat at_) 0))),(6,I i)]) (fun i=>[]) (w64 (at_+1)) (wkA []) ⟨_,Nat.lt_succ_self _,foll hR rfl,by exact exA⟩ ?_;clear hR;rintro i ⟨m,hm,hR,hx⟩;(try dsimp only at hR hm hx);obtain ⟨m,rfl⟩:=sucA m;refine ai (fun h1=>?_) (fun h2=>?_)
 ·have qh1:=of_decide_eq_true h1;have hw1:w64 (i+1)=i+1:=wr (by omega);refine ai gkA ?_;refine us (Qq4 (l.getD (Int.toNat i) 0) _) ?_;refine ai gkA ?_;refine ai gkA ?_;refine ai (fun h3=>?_) (fun h4=>?_)
  ·exact lfA
  ·refine ai gkA ?_;(first|apply u2|apply u3|apply u4|apply us);exact ref05_small_c (l.getD (Int.toNat i) 0) _;refine ai (fun h5=>?_) (fun h6=>?_)
   ·exact lfA
   ·exact Ql0 (w64 (i+1)) (wkA []) omA ⟨m,by exact omA,foll hR (ct h1 (cf h4 (cf h6 rfl))),by exact exA⟩
 ·have qh2:=of_decide_eq_false h2;exact lfA
theorem Qwf (l:List Int) (at_:Int) (h:l.length<=400):∀ (m:Nat) (i:Int),0<=i->i<=l.length->0<=QL2 l at_ m i∧QL2 l at_ m i<=l.length∧(Int.toNat ((l.length:Int) - i)<m->i<=QL2 l at_ m i):=by
 intro m
 induction m with
 | zero=>intro i h0 h1;refine ⟨by simp [QL2],by simp [QL2],fun h=>absurd h (by omega)⟩
 | succ m ih =>
  intro i h0 h1
  rw [QL2]
  cases hd:decide (i<(l.length:Int)) with
  | false=>exact ⟨h0,h1,fun _=>by simp⟩
  | true =>
   have hi:=of_decide_eq_true hd
   have hw:w64 (i+1)=i+1:=wr (by omega)
   simp only [cond_true]
   cases ((((((Qi0 (l.getD (Int.toNat at_) 0))==2)&&((Qi0 (l.getD (Int.toNat i) 0))!=2))&&((Qi0 (l.getD (Int.toNat i) 0))!=3))&&((l.getD (Int.toNat i) 0)!=45))&&((l.getD (Int.toNat i) 0)!=95)) with
   | true=>exact ⟨h0,h1,fun _=>by simp⟩
   | false =>
    simp only [cond_false]
    cases (((Qi0 (l.getD (Int.toNat at_) 0))==3)&&(!(QF9 (l.getD (Int.toNat i) 0)))) with
    | true=>exact ⟨h0,h1,fun _=>by simp⟩
    | false =>
     simp only [cond_false]
     rw [hw]
     obtain ⟨a,b,c⟩:=ih (i+1) (by omega) (by omega)
     exact ⟨a,b,fun hm=>by have:=c (by omega);omega⟩
theorem QJd (l:List Int) (at_:Int) (h0:0<=at_) (h1:at_<l.length) (h:l.length<=400):at_<Qu1 l at_∧Qu1 l at_<=l.length:=by
 have hw:w64 (at_+1)=at_+1:=wr (by omega)
 unfold Qu1
 rw [hw]
 obtain ⟨a,b,c⟩:=Qwf l at_ h ((Int.toNat ((l.length:Int) - (at_+1)))+1) (at_+1) (by omega) (by omega)
 have:=c (by omega)
 omega
def QQ3 (l:List Dep) (i:Nat) (x_:Dep):Nat->Nat->Sum (Bool) (Nat)
 | 0,_=>Sum.inr 0
 | m+1,k=>bif (decide ((k:Int)<(i:Int))) then bif ((l.getD k Dep.zero).job==x_.job) then Sum.inl false else QQ3 l i x_ m (k+1) else Sum.inr k
def Q42 (l:List Dep):List Dep->Nat->Bool
 | [],_=>true
 | x_ :: r,i=>bif ((!(Qf1 x_.how 1 3))||(!(Qf1 x_.job 1 99999))) then false else (Sum.elim id (fun p1:Nat=>Q42 l r (i+1))) (QQ3 l i x_ ((Int.toNat ((i:Int) - (0:Int)))+1) 0)
def Q86 (l:List Dep):Bool:=bif (decide ((l.length:Int) > 4)) then false else Q42 l l 0
theorem ref08_waits_c (l:List Dep) (hs0:l.length<=4294967296):GV 283 [depL l] (Bo (Q86 l)):=by
 generalize hR:Q86 l=R;refine gA (kp 5 [7,11,29,32,45]) Tryz.func283 ?_;have hk0:=hs0;obtain z11:l.length<=4294967296:=hs0;refine ai (fun h1=>?_) (fun h2=>?_)
 ·have qh1:=of_decide_eq_true h1;exact lfA
 ·have qh2:=of_decide_eq_false h2;refine Qg0 (fun (i:Nat)=>Q42 l (List.drop i l) i=R∧i<=l.length) (fun i=>l.length - i) (fun i=>[(0,depL l),(2,Bo false),(3,I (i:Int))]) (fun i=>[]) 0 (wkA []) ⟨folA,by exact omA⟩ ?_;clear hR;rintro i ⟨hR,hj⟩;(try dsimp only at hR hj);refine ai (fun h3=>?_) (fun h4=>?_)
  ·have hlt:=ltA h3;rw [Qc0 Dep.zero hlt] at hR;refine ai gkA ?_;refine us (QB3 ((l.getD i Dep.zero).how) 1 3 _) ?_;refine ai gkA ?_;(first|apply u2|apply u3|apply u4|apply us);exact QB3 ((l.getD i Dep.zero).job) 1 99999 _;refine ai (fun h5=>?_) (fun h6=>?_)
   ·exact lfA
   ·refine Qg0 (fun (k:Nat)=>∃ m,(Int.toNat ((i:Int) - (k:Int)))<m∧(Sum.elim id (fun p1:Nat=>Q42 l (List.drop (i+1) l) (i+1))) (QQ3 l i (l.getD i Dep.zero) m k)=R∧(k:Int)<=(i:Int)) (fun k=>(Int.toNat ((i:Int) - (k:Int)))) (fun k=>[(0,depL l),(2,Bo false),(3,I (i:Int)),(4,I (k:Int)),(11,Bo (decide ((i:Int)<(l.length:Int)))),(29,Bo ((!(Qf1 (l.getD i Dep.zero).how 1 3))||(!(Qf1 (l.getD i Dep.zero).job 1 99999))))]) (fun k=>[]) 0 (wkA []) ⟨_,Nat.lt_succ_self _,foll hR (cf h6 rfl),by exact exA⟩ ?_;clear hR;rintro k ⟨m,hm,hR,hx⟩;(try dsimp only at hR hm hx);obtain ⟨m,rfl⟩:=sucA m;refine ai (fun h7=>?_) (fun h8=>?_)
    ·have qh7:=of_decide_eq_true h7;refine dchk (by kernel_rfl) ?_;refine ai gkA ?_;refine ai gkA ?_;(repeat ((first|refine ai rfl ?_|refine ai (fun _=>rfl) ?_)));refine ai (fun h9=>?_) (fun h10=>?_)
     ·obtain rfl:=foll hR (congrArg (Sum.elim id (fun p1:Nat=>Q42 l (List.drop (i+1) l) (i+1))) (ct h7 (ct h9 rfl)));exact Q80 lx sr
     ·exact Ql0 (k+1) (wkA []) omA ⟨m,by exact omA,foll hR (congrArg (Sum.elim id (fun p1:Nat=>Q42 l (List.drop (i+1) l) (i+1))) (ct h7 (cf h10 rfl))),by exact exA⟩
    ·have qh8:=of_decide_eq_false h8;replace hR:(Sum.elim id (fun p1:Nat=>Q42 l (List.drop (i+1) l) (i+1))) (Sum.inr k)=R:=foll hR (congrArg (Sum.elim id (fun p1:Nat=>Q42 l (List.drop (i+1) l) (i+1))) (cf h8 rfl));exact Ql0 (i+1) (wkA []) omA ⟨foll hR rfl,by exact omA⟩
  ·rw [Qd0 (l:=l) (j:=i) (geA h4)] at hR;exact lfA
def QK5 (l:List Usage):List Usage->Nat->Int
 | [],_=>0
 | x_ :: r,i=>bif ((((((((i:Int)==200)||(!(Qk3 x_.user)))||(!(Qk3 x_.account)))||(decide (x_.used<0)))||(decide (x_.used > 1000000000000)))||(decide (x_.share<0)))||(decide (x_.share > x_.used))) then 2 else bif ((decide ((i:Int) > 0))&&(!(Q37 (l.getD (Int.toNat (w64 ((i:Int) - 1))) Usage.zero) x_))) then 2 else QK5 l r (i+1)
def Qr8 (l:List Usage):Int:=QK5 l l 0
theorem ref17_Check_c (l:List Usage) (hs0:l.length<=4294967296∧(∀ y ∈ l,y.sz)):GV 160 [QD2 l] (I (Qr8 l)):=by
 generalize hR:Qr8 l=R;refine gA (kp 5 [8,50,62]) Tryz.func160 ?_;obtain ⟨z9,z10⟩:=id hs0;refine Qg0 (fun (i:Nat)=>QK5 l (List.drop i l) i=R∧i<=l.length) (fun i=>l.length - i) (fun i=>[(0,QD2 l),(2,I 0),(3,I (i:Int))]) (fun i=>[]) 0 (wkA []) ⟨foll hR rfl,by exact omA⟩ ?_;clear hR;rintro i ⟨hR,hj⟩;(try dsimp only at hR hj);refine ai (fun h1=>?_) (fun h2=>?_)
 ·have hlt:=ltA h1;rw [Qc0 Usage.zero hlt] at hR;have hxz:(l.getD i Usage.zero).sz:=Q94 (by first|assumption|grind) (Usage.szz _);have hkz:=hxz;obtain ⟨z3,z4⟩:=Usage.zz hxz;refine ai gkA ?_;(first|apply u2|apply u3|apply u4|apply us);exact QQd ((l.getD i Usage.zero).user) _;(first|apply u2|apply u3|apply u4|apply us);exact QQd ((l.getD i Usage.zero).account) _;refine ai (fun h5=>?_) (fun h6=>?_)
  ·exact lfA
  ·refine dchk (by kernel_rfl) ?_;refine ai gkA ?_;(first|apply u2|apply u3|apply u4|apply us);exact Qwc (l.getD (Int.toNat (w64 ((i:Int) - 1))) Usage.zero) (l.getD i Usage.zero) _;(repeat ((first|refine ai rfl ?_|refine ai (fun _=>rfl) ?_|refine ai (fun _=>Qwc (l.getD (Int.toNat (w64 ((i:Int) - 1))) Usage.zero) (l.getD i Usage.zero) _) ?_)));refine ai (fun h7=>?_) (fun h8=>?_)
   ·exact lfA
   ·exact Ql0 (i+1) (wkA []) omA ⟨folA,by exact omA⟩
 ·rw [Qd0 (l:=l) (j:=i) (geA h2)] at hR;exact lfA
def Q50 (s:State) (id_:Int):Job × Bool:=bif ((decide ((QZ5 s.jobs id_)<0))||((s.jobs.getD (Int.toNat (QZ5 s.jobs id_)) Job.zero).state != 2)) then (Job.zero,false) else ((s.jobs.getD (Int.toNat (QZ5 s.jobs id_)) Job.zero),true)
theorem QAb (s:State) (id_:Int) (hs0:s.sz):GV 66 [State.a s,I id_] (AVal.tup [Job.a ((Q50 s id_).1),Bo ((Q50 s id_).2)]):=by
 generalize hR:Q50 s id_=R;refine gA (kp 7 [21]) Tryz.func66 ?_;have hk0:=hs0;obtain ⟨z3,z4,z5,z6,z7,z8,z9⟩:=hs0;have hf0:=ref15_At_lt s.jobs id_;refine us (ref15_At_c s.jobs id_ szA _) ?_;refine ai gkA ?_;refine ai (fun h1=>?_) (fun h2=>?_)
 ·exact lfA
 ·refine ai gkA ?_;exact lfA
def QC4 (s:Int) (n:Int):Bool:=bif ((decide (n<0))||(decide (n > 63))) then false else ((Int.tmod (wu64 (Int.tdiv s (QH5 n))) 2)==1)
theorem Q17 (s:Int) (n:Int):GV 62 [U s,I n] (Bo (QC4 s n)):=by
 generalize hR:QC4 s n=R;refine gA (kp 5 [10]) Tryz.func62 ?_;have hf0:=ref09_bit_pos n;refine ai (fun h1=>?_) (fun h2=>?_)
 ·exact lfA
 ·refine us (Qyf n ckA _) ?_;refine ai gkA ?_;refine ai gkA ?_;exact lfA
def Qu7 :List Job->Nat->Bool
 | [],_=>true
 | x_ :: r,i=>bif (!(Q79 x_)) then false else Qu7 r (i+1)
def Qfc (l:List Job):Bool:=bif (decide ((l.length:Int) > 60)) then false else Qu7 l 0
theorem law15_Few_c (l:List Job) (hs0:l.length<=9223372036854775807∧(∀ y ∈ l,y.szM)):GV 26 [jobL l] (Bo (Qfc l)):=by
 generalize hR:Qfc l=R;refine gA (kp 4 [6,10,18]) Tryz.func26 ?_;obtain ⟨z12,z13⟩:=id hs0;refine ai (fun h1=>?_) (fun h2=>?_)
 ·have qh1:=of_decide_eq_true h1;exact lfA
 ·have qh2:=of_decide_eq_false h2;refine Qg0 (fun (i:Nat)=>Qu7 (List.drop i l) i=R∧i<=l.length) (fun i=>l.length - i) (fun i=>[(0,jobL l),(2,Bo false),(3,I (i:Int))]) (fun i=>[]) 0 (wkA []) ⟨folA,by exact omA⟩ ?_;clear hR;rintro i ⟨hR,hj⟩;(try dsimp only at hR hj);refine ai (fun h3=>?_) (fun h4=>?_)
  ·have hlt:=ltA h3;rw [Qc0 Job.zero hlt] at hR;have hxz:(l.getD i Job.zero).szM:=Q94 (by first|assumption|grind) (Job.szz _);have hkz:=hxz;obtain ⟨z5,z6,z7,z8,z9⟩:((l.getD i Job.zero).name).size<=9223372036854775807∧((l.getD i Job.zero).user).size<=9223372036854775807∧((l.getD i Job.zero).account).size<=9223372036854775807∧((((l.getD i Job.zero).shape).alts).length<=9223372036854775807)∧((l.getD i Job.zero).after).length<=9223372036854775807:=hxz;refine ai gkA ?_;refine us (law14_Few_c (l.getD i Job.zero) _) ?_;refine ai (fun h10=>?_) (fun h11=>?_)
   ·exact lfA
   ·exact Ql0 (i+1) (wkA []) omA ⟨folA,by exact omA⟩
  ·rw [Qd0 (l:=l) (j:=i) (geA h4)] at hR;exact lfA
def QP0 (x_:Node):Bool:=bif ((((decide (x_.epoch<0))||(decide (x_.epoch > 999999999)))||(!(Qg3 x_.since)))||(!(Qg3 x_.asked))) then false else bif (x_.state==0) then ((x_.job==0)&&(Qw1 ([0]:List Int) x_.want)) else bif (x_.state==1) then (((decide (x_.job >= 1))&&(decide (x_.job<=99999)))&&(Qw1 ([0,1,3,4]:List Int) x_.want)) else bif (x_.state==2) then (((decide (x_.job >= 1))&&(decide (x_.job<=99999)))&&(Qw1 ([0,2]:List Int) x_.want)) else bif (x_.state==3) then (((decide (x_.job >= 1))&&(decide (x_.job<=99999)))&&(Qw1 ([5]:List Int) x_.want)) else bif (x_.state==4) then ((x_.job==0)&&(Qw1 ([0,6]:List Int) x_.want)) else false
theorem fleet_fine_c (x_:Node):GV 152 [Node.a x_] (Bo (QP0 x_)):=by
 generalize hR:QP0 x_=R;refine gA (kp 5 [24,35,36,41,44,47,50]) Tryz.func152 ?_;(first|apply u2|apply u3|apply u4|apply us);exact Qba x_.since _;(first|apply u2|apply u3|apply u4|apply us);exact Qba x_.asked _;refine ai (fun h1=>?_) (fun h2=>?_)
 ·exact lfA
 ·refine Or.inl ?_;refine ai (fun h3=>?_) (fun h4=>?_)
  ·(first|apply u2|apply u3|apply u4|apply us);exact AGives.as2 (Qf2 ([0]:List Int) x_.want szA _) (av (QA5 (c:=(fun q_=>[I q_])) (d:=0) ([0]:List Int) rfl) (a1 .nil));exact lfA
  ·refine ai (fun h5=>?_) (fun h6=>?_)
   ·refine Or.inl ?_;(first|apply u2|apply u3|apply u4|apply us);exact AGives.as2 (Qf2 ([0,1,3,4]:List Int) x_.want szA _) (av (QA5 (c:=(fun q_=>[I q_])) (d:=0) ([0,1,3,4]:List Int) rfl) (a1 .nil));exact lfA
   ·refine ai (fun h7=>?_) (fun h8=>?_)
    ·refine Or.inl ?_;(first|apply u2|apply u3|apply u4|apply us);exact AGives.as2 (Qf2 ([0,2]:List Int) x_.want szA _) (av (QA5 (c:=(fun q_=>[I q_])) (d:=0) ([0,2]:List Int) rfl) (a1 .nil));exact lfA
    ·refine ai (fun h9=>?_) (fun h10=>?_)
     ·refine Or.inl ?_;(first|apply u2|apply u3|apply u4|apply us);exact AGives.as2 (Qf2 ([5]:List Int) x_.want szA _) (av (QA5 (c:=(fun q_=>[I q_])) (d:=0) ([5]:List Int) rfl) (a1 .nil));exact lfA
     ·refine ai (fun h11=>?_) (fun h12=>?_)
      ·refine Or.inl ?_;(first|apply u2|apply u3|apply u4|apply us);exact AGives.as2 (Qf2 ([0,6]:List Int) x_.want szA _) (av (QA5 (c:=(fun q_=>[I q_])) (d:=0) ([0,6]:List Int) rfl) (a1 .nil));exact lfA
      ·exact lfA
def QO5 (l:List Alt):List Alt->Nat->Bool
 | [],_=>true
 | x_ :: r,i=>bif (QU0 (List.take i l) (fun (y:Alt)=>(x_.nodes==y.nodes))) then false else QO5 l r (i+1)
def Ql5 (l:List Alt):Bool:=QO5 l l 0
theorem shape_apart_c (l:List Alt) (hs0:l.length<=4294967296):GV 240 [altL l] (Bo (Ql5 l)):=by
 generalize hR:Ql5 l=R;refine gA (kp 5 [5,6,7,8,16]) Tryz.func240 ?_;have hk0:=hs0;obtain z9:l.length<=4294967296:=hs0;refine Qg0 (fun (i:Nat)=>QO5 l (List.drop i l) i=R∧i<=l.length) (fun i=>l.length - i) (fun i=>[(0,altL l),(2,Bo false),(5,altL l),(6,I (l.length:Int)),(7,I (i:Int))]) (fun i=>[]) 0 (wkA []) ⟨foll hR rfl,by exact omA⟩ ?_;clear hR;rintro i ⟨hR,hj⟩;(try dsimp only at hR hj);refine ai (fun h1=>?_) (fun h2=>?_)
 ·have hlt:=ltA h1;rw [Qc0 Alt.zero hlt] at hR;refine ai gkA ?_;refine ai gkA ?_;have cl1:∀ (y1:Alt),AMoves Tryz.prog 272 [Alt.a y1,AVal.ptr 0 0 2 0 0] [(0,AObj.row 178 2 [[I (l.getD i Alt.zero).nodes,I (l.getD i Alt.zero).wall]])] 1 (Bo ((fun (y:Alt)=>((l.getD i Alt.zero).nodes==y.nodes)) y1)) [(0,AObj.row 178 2 [[I (l.getD i Alt.zero).nodes,I (l.getD i Alt.zero).wall]])]:=by
   intro y1;have hR:(fun (y:Alt)=>((l.getD i Alt.zero).nodes==y.nodes)) y1=(fun (y:Alt)=>((l.getD i Alt.zero).nodes==y.nodes)) y1:=rfl;refine mo (kp 4 []) Tryz.func272 ?_;refine Qt0 (fun r:Bool=>Bo r) (fun _=>[(0,AObj.row 178 2 [[I (l.getD i Alt.zero).nodes,I (l.getD i Alt.zero).wall]])]) (leaf:=((l.getD i Alt.zero).nodes==y1.nodes)) (foll hR rfl) ?_;exact tt [0] (tO rfl (ts Alt.lo) .nil) t1
  have hof1:AMoves Tryz.prog 241 [altL (List.take i l),AVal.fn (.func 272) [] [AVal.ptr 0 0 2 0 0]] [(0,AObj.row 178 2 [[I (l.getD i Alt.zero).nodes,I (l.getD i Alt.zero).wall]])] 1 (Bo (QU0 (List.take i l) (fun (y:Alt)=>((l.getD i Alt.zero).nodes==y.nodes)))) [(0,AObj.row 178 2 [[I (l.getD i Alt.zero).nodes,I (l.getD i Alt.zero).wall]])]:=by
   have hR:QU0 (List.take i l) (fun (y:Alt)=>((l.getD i Alt.zero).nodes==y.nodes))=QU0 (List.take i l) (fun (y:Alt)=>((l.getD i Alt.zero).nodes==y.nodes)):=rfl;refine mo (kp 5 []) Tryz.func241 ?_;have hof2:AMoves Tryz.prog 273 [altL (List.take i l),AVal.fn (.func 272) [] [AVal.ptr 0 0 2 0 0]] [(0,AObj.row 178 2 [[I (l.getD i Alt.zero).nodes,I (l.getD i Alt.zero).wall]])] 1 (I (Q31 (List.take i l) (fun (y:Alt)=>((l.getD i Alt.zero).nodes==y.nodes)))) [(0,AObj.row 178 2 [[I (l.getD i Alt.zero).nodes,I (l.getD i Alt.zero).wall]])]:=by
    have hR:Q31 (List.take i l) (fun (y:Alt)=>((l.getD i Alt.zero).nodes==y.nodes))=Q31 (List.take i l) (fun (y:Alt)=>((l.getD i Alt.zero).nodes==y.nodes)):=rfl;refine mo (kp 6 [7,8,9,16]) Tryz.func273 ?_;refine Qg0 (fun (i1:Nat)=>Q33 (fun (y:Alt)=>((l.getD i Alt.zero).nodes==y.nodes)) (List.drop i1 (List.take i l)) i1=Q31 (List.take i l) (fun (y:Alt)=>((l.getD i Alt.zero).nodes==y.nodes))∧i1<=(List.take i l).length) (fun i1=>(List.take i l).length - i1) (fun i1=>[(0,altL (List.take i l)),(1,AVal.fn (.func 272) [] [AVal.ptr 0 0 2 0 0]),(4,I 0),(7,I ((List.take i l).length:Int)),(8,I (i1:Int))]) (fun i1=>[(0,AObj.row 178 2 [[I (l.getD i Alt.zero).nodes,I (l.getD i Alt.zero).wall]])]) 0 (wkA [0]) ⟨foll hR rfl,by exact omA⟩ ?_;clear hR;rintro i1 ⟨hR,hj⟩;(try dsimp only at hR hj);refine ai (fun h3=>?_) (fun h4=>?_)
    ·have hlt:=ltA h3;rw [Qc0 Alt.zero hlt] at hR;refine ai gkA ?_;refine us (mv [0] (cl1 ((List.take i l).getD i1 Alt.zero)) (dO (ds Alt.lo) .nil) (dl (Alt.low _ _) (dp .nil)) (rO (re Alt.lo) .nil) rx) ?_;refine ai (fun h5=>?_) (fun h6=>?_)
     ·refine Qt0 (fun r:Int=>I r) (fun r:Int=>[(0,AObj.row 178 2 [[I (l.getD i Alt.zero).nodes,I (l.getD i Alt.zero).wall]])]) (leaf:=(i1:Int)) (foll hR (ct h5 rfl)) ?_;exact tt [0] (tO rfl (ts Alt.lo) .nil) t1
     ·exact Ql0 (i1+1) (wkA [0]) omA ⟨folA,by exact omA⟩
    ·rw [Qd0 (l:=(List.take i l)) (j:=i1) (geA h4)] at hR;refine Qt0 (fun r:Int=>I r) (fun r:Int=>[(0,AObj.row 178 2 [[I (l.getD i Alt.zero).nodes,I (l.getD i Alt.zero).wall]])]) (leaf:=(-1)) (foll hR rfl) ?_;exact tt [0] (tO rfl (ts Alt.lo) .nil) t1
   refine us (mv [0] (hof2) (dO (ds Alt.lo) .nil) (dl lw (dv (dn_fn .nil (dp .nil)) .nil)) (rO (re Alt.lo) .nil) rx) ?_;refine Qt0 (fun r:Bool=>Bo r) (fun r:Bool=>[(0,AObj.row 178 2 [[I (l.getD i Alt.zero).nodes,I (l.getD i Alt.zero).wall]])]) (leaf:=(decide ((Q31 (List.take i l) (fun (y:Alt)=>((l.getD i Alt.zero).nodes==y.nodes))) >= 0))) (foll hR rfl) ?_;exact tt [0] (tO rfl (ts Alt.lo) .nil) t1
  refine us (mv [0] (hof1) (dO (ds Alt.lo) .nil) (dv (dn_as (as_take l i ckA) lw) (dv (dn_fn .nil (dp .nil)) .nil)) (rO (re Alt.lo) .nil) rx) ?_;refine ai (fun h7=>?_) (fun h8=>?_)
  ·exact lfA
  ·exact Ql0 (i+1) (wkA []) omA ⟨folA,by exact omA⟩
 ·rw [Qd0 (l:=l) (j:=i) (geA h2)] at hR;exact lfA
def Qq5 (s:ByteArray):Bool:=(((Qs4 s).2==0)&&(Qx2 ((Qs4 s).1) 1 16))
theorem QZc (s:ByteArray) (hs0:s.size<=4294967296):GV 266 [Sg s] (Bo (Qq5 s)):=by
 generalize hR:Qq5 s=R;refine gA (kp 5 []) Tryz.func266 ?_;have hk0:=hs0;obtain z1:s.size<=4294967296:=hs0;refine us (QDc s szA _) ?_;(first|apply u2|apply u3|apply u4|apply us);exact Q93 ((Qs4 s).1) 1 16 _;exact lfA
def QT6 (s:ByteArray):Int × Bool:=bif (((!(Q48 s))||(decide ((ByteArray.size s:Int) > 9)))||((decide ((ByteArray.size s:Int) > 1))&&(((s.data.toList.getD 0 0).toNat:Int)==48))) then (0,false) else ((QFa s).1,true)
theorem lex_number_c (s:ByteArray) (hs0:s.size<=4294967296):GV 334 [Sg s] (AVal.tup [I ((QT6 s).1),Bo ((QT6 s).2)]):=by
 generalize hR:QT6 s=R;refine gA (kp 6 [23]) Tryz.func334 ?_;have hk0:=hs0;obtain z3:s.size<=4294967296:=hs0;refine us (QDd s szA _) ?_;refine ai gkA ?_;refine ai (fun h1=>?_) (fun h2=>?_)
 ·obtain rfl:=foll hR (ct h1 rfl);exact Q80 (Low.tup' (l1 (l1 .nil))) (Seen.tup (e1 (e1 .nil)))
 ·refine us (strconv_Atoi_c s szA (by exact lex_digits_ok (by assumption)) _) ?_;refine dchk (by kernel_rfl) ?_;(repeat ((first|refine ai rfl ?_|refine ai (fun _=>rfl) ?_)));obtain rfl:=foll hR (cf h2 rfl);exact Q80 (Low.tup' (l1 (l1 .nil))) (Seen.tup (e1 (e1 .nil)))
theorem QCe (l:List Int) (r_:Int) (hl:l.length<=4294967296):AMoves Tryz.prog 323 [.ptr 0 0 2 0 0,J r_] [(0,.row 339 2 [[.sel 0 0 2 0 0,.own 1 0 1 0 l.length]]),(0,Qp5 l)] 1 (.tup [I (w64 (((QO0 l r_).length:Int) - (l.length:Int))),.lit .nilIface]) [(0,.row 339 2 [[.ptr 0 0 2 0 0,.own 1 0 1 0 (QO0 l r_).length]]),(0,Qp5 (QO0 l r_))]:=by
 refine AMoves.of_cwp (fun t=>Nat.ble 1000000 t||Nat.blt t 7) Tryz.func323 rfl rfl rfl ?_
 refine us (AMoves.on [0,1] (copyCheck_m bldT0 (x:=.own 1 0 1 0 l.length) (rest:=[(0,Qp5 l)]) (n0:=2) (by simp)) (by decide) rfl rfl rfl (.cons _ _ _ _ (.row1 _ _ _ _ (.cons _ _ _ _ (dn_sel rfl) (.cons _ _ _ _ (dn_own rfl) .nil))) (.cons _ _ _ _ (.same _ (QL8 fun _=>lowL1 rfl)) .nil)) rfl (.cons _ _ _ _ (dn_ptr rfl) .nil) (.cons _ _ _ _ (RenO.row1 _ _ _ _ (.cons _ _ _ _ (Ren.ptr _ _ _ _ _ _ rfl) (.cons _ _ _ _ (Ren.own _ _ _ _ _ _ rfl) .nil))) (.cons _ _ _ _ (RenO.same _ (QL8 fun _=>lowL1 rfl)) .nil)) (Ren.low _ (.tup _ (fun x h=>nomatch h)))) ?_
 refine us (AMoves.on [1] (Qpd l r_ hl) (by decide) rfl rfl rfl (.cons _ _ _ _ (dn_row rfl (QL8 fun _=>lowL1 rfl)) .nil) rfl (.cons _ _ _ _ (Q56 rfl rfl) (.cons _ _ _ _ (QK6 (QP2 rfl)) .nil)) (.cons _ _ _ _ (RenO.same _ (QL8 fun _=>lowL1 rfl)) .nil) (Ren.own _ _ _ _ _ _ rfl)) ?_
 refine Qt0 (fun _:Unit=>.tup [I (w64 (((QO0 l r_).length:Int) - (l.length:Int))),.lit .nilIface]) (fun _:Unit=>[(0,.row 339 2 [[.ptr 0 0 2 0 0,.own 1 0 1 0 (QO0 l r_).length]]),(0,Qp5 (QO0 l r_))]) (leaf:=()) rfl ?_
 exact Qj4 [0,2] rfl (by decide) (.cons 0 _ _ _ _ rfl (QN2 (.cons _ _ _ _ (Qg1 0 rfl rfl) (.cons _ _ _ _ (QTc 1 rfl rfl rfl) .nil))) (.cons 2 _ _ _ _ rfl (QUc rfl (QL8 fun _=>lowL1 rfl)) .nil)) (turn_tup (.cons _ _ _ _ (Qv3 (QP2 rfl)) (.cons _ _ _ _ (Qv3 (QP2 rfl)) .nil)))
def Q55 (l:List Dep):List Dep->Nat->Bool
 | [],_=>(decide ((l.length:Int)<=4))
 | x_ :: r,i=>bif (((!(Qx2 x_.how 1 3))||(!(Qtd x_.job)))||(Qs0 (List.take i l) (fun (y:Dep)=>(y.job==x_.job)))) then false else Q55 l r (i+1)
def QS7 (l:List Dep):Bool:=Q55 l l 0
theorem cmd_deps_c (l:List Dep) (hs0:l.length<=4294967296):GV 268 [depL l] (Bo (QS7 l)):=by
 generalize hR:QS7 l=R;refine gA (kp 6 [6,7,8,9,30]) Tryz.func268 ?_;have hk0:=hs0;obtain z9:l.length<=4294967296:=hs0;refine Qg0 (fun (i:Nat)=>Q55 l (List.drop i l) i=R∧i<=l.length) (fun i=>l.length - i) (fun i=>[(0,depL l),(2,Bo false),(6,depL l),(7,I (l.length:Int)),(8,I (i:Int))]) (fun i=>[]) 0 (wkA []) ⟨foll hR rfl,by exact omA⟩ ?_;clear hR;rintro i ⟨hR,hj⟩;(try dsimp only at hR hj);refine ai (fun h1=>?_) (fun h2=>?_)
 ·have hlt:=ltA h1;rw [Qc0 Dep.zero hlt] at hR;refine ai gkA ?_;refine ai gkA ?_;have cl1:∀ (y1:Dep),AMoves Tryz.prog 295 [Dep.a y1,AVal.ptr 0 0 2 0 0] [(0,AObj.row 191 2 [[I (l.getD i Dep.zero).how,I (l.getD i Dep.zero).job]])] 1 (Bo ((fun (y:Dep)=>(y.job==(l.getD i Dep.zero).job)) y1)) [(0,AObj.row 191 2 [[I (l.getD i Dep.zero).how,I (l.getD i Dep.zero).job]])]:=by
   intro y1;have hR:(fun (y:Dep)=>(y.job==(l.getD i Dep.zero).job)) y1=(fun (y:Dep)=>(y.job==(l.getD i Dep.zero).job)) y1:=rfl;refine mo (kp 4 []) Tryz.func295 ?_;refine Qt0 (fun r:Bool=>Bo r) (fun _=>[(0,AObj.row 191 2 [[I (l.getD i Dep.zero).how,I (l.getD i Dep.zero).job]])]) (leaf:=(y1.job==(l.getD i Dep.zero).job)) (foll hR rfl) ?_;exact tt [0] (tO rfl (ts Dep.lo) .nil) t1
  have hof1:AMoves Tryz.prog 194 [depL (List.take i l),AVal.fn (.func 295) [] [AVal.ptr 0 0 2 0 0]] [(0,AObj.row 191 2 [[I (l.getD i Dep.zero).how,I (l.getD i Dep.zero).job]])] 1 (Bo (Qs0 (List.take i l) (fun (y:Dep)=>(y.job==(l.getD i Dep.zero).job)))) [(0,AObj.row 191 2 [[I (l.getD i Dep.zero).how,I (l.getD i Dep.zero).job]])]:=by
   have hR:Qs0 (List.take i l) (fun (y:Dep)=>(y.job==(l.getD i Dep.zero).job))=Qs0 (List.take i l) (fun (y:Dep)=>(y.job==(l.getD i Dep.zero).job)):=rfl;refine mo (kp 5 []) Tryz.func194 ?_;have hof2:AMoves Tryz.prog 237 [depL (List.take i l),AVal.fn (.func 295) [] [AVal.ptr 0 0 2 0 0]] [(0,AObj.row 191 2 [[I (l.getD i Dep.zero).how,I (l.getD i Dep.zero).job]])] 1 (I (Q41 (List.take i l) (fun (y:Dep)=>(y.job==(l.getD i Dep.zero).job)))) [(0,AObj.row 191 2 [[I (l.getD i Dep.zero).how,I (l.getD i Dep.zero).job]])]:=by
    have hR:Q41 (List.take i l) (fun (y:Dep)=>(y.job==(l.getD i Dep.zero).job))=Q41 (List.take i l) (fun (y:Dep)=>(y.job==(l.getD i Dep.zero).job)):=rfl;refine mo (kp 6 [7,8,9,16]) Tryz.func237 ?_;refine Qg0 (fun (i1:Nat)=>Q43 (fun (y:Dep)=>(y.job==(l.getD i Dep.zero).job)) (List.drop i1 (List.take i l)) i1=Q41 (List.take i l) (fun (y:Dep)=>(y.job==(l.getD i Dep.zero).job))∧i1<=(List.take i l).length) (fun i1=>(List.take i l).length - i1) (fun i1=>[(0,depL (List.take i l)),(1,AVal.fn (.func 295) [] [AVal.ptr 0 0 2 0 0]),(4,I 0),(7,I ((List.take i l).length:Int)),(8,I (i1:Int))]) (fun i1=>[(0,AObj.row 191 2 [[I (l.getD i Dep.zero).how,I (l.getD i Dep.zero).job]])]) 0 (wkA [0]) ⟨foll hR rfl,by exact omA⟩ ?_;clear hR;rintro i1 ⟨hR,hj⟩;(try dsimp only at hR hj);refine ai (fun h3=>?_) (fun h4=>?_)
    ·have hlt:=ltA h3;rw [Qc0 Dep.zero hlt] at hR;refine ai gkA ?_;refine us (mv [0] (cl1 ((List.take i l).getD i1 Dep.zero)) (dO (ds Dep.lo) .nil) (dl (Dep.low _ _) (dp .nil)) (rO (re Dep.lo) .nil) rx) ?_;refine ai (fun h5=>?_) (fun h6=>?_)
     ·refine Qt0 (fun r:Int=>I r) (fun r:Int=>[(0,AObj.row 191 2 [[I (l.getD i Dep.zero).how,I (l.getD i Dep.zero).job]])]) (leaf:=(i1:Int)) (foll hR (ct h5 rfl)) ?_;exact tt [0] (tO rfl (ts Dep.lo) .nil) t1
     ·exact Ql0 (i1+1) (wkA [0]) omA ⟨folA,by exact omA⟩
    ·rw [Qd0 (l:=(List.take i l)) (j:=i1) (geA h4)] at hR;refine Qt0 (fun r:Int=>I r) (fun r:Int=>[(0,AObj.row 191 2 [[I (l.getD i Dep.zero).how,I (l.getD i Dep.zero).job]])]) (leaf:=(-1)) (foll hR rfl) ?_;exact tt [0] (tO rfl (ts Dep.lo) .nil) t1
   refine us (mv [0] (hof2) (dO (ds Dep.lo) .nil) (dl lw (dv (dn_fn .nil (dp .nil)) .nil)) (rO (re Dep.lo) .nil) rx) ?_;refine Qt0 (fun r:Bool=>Bo r) (fun r:Bool=>[(0,AObj.row 191 2 [[I (l.getD i Dep.zero).how,I (l.getD i Dep.zero).job]])]) (leaf:=(decide ((Q41 (List.take i l) (fun (y:Dep)=>(y.job==(l.getD i Dep.zero).job))) >= 0))) (foll hR rfl) ?_;exact tt [0] (tO rfl (ts Dep.lo) .nil) t1
  refine us (mv [0] (hof1) (dO (ds Dep.lo) .nil) (dv (dn_as (as_take l i ckA) lw) (dv (dn_fn .nil (dp .nil)) .nil)) (rO (re Dep.lo) .nil) rx) ?_;refine us (Q93 ((l.getD i Dep.zero).how) 1 3 _) ?_;(first|apply u2|apply u3|apply u4|apply us);exact Que ((l.getD i Dep.zero).job) _;refine ai (fun h7=>?_) (fun h8=>?_)
  ·exact lfA
  ·exact Ql0 (i+1) (wkA []) omA ⟨folA,by exact omA⟩
 ·rw [Qd0 (l:=l) (j:=i) (geA h2)] at hR;exact lfA
def QKa (a:Cmd) (b:Cmd):Bool:=bif ((!(Qh9 a.shape b.shape))||(!(Q16 a.after b.after))) then false else ((((((((((((a.kind==b.kind)&&(a.job==b.job))&&(ByteArray.toList a.name==ByteArray.toList b.name))&&(ByteArray.toList a.user==ByteArray.toList b.user))&&(ByteArray.toList a.account==ByteArray.toList b.account))&&(a.prio==b.prio))&&(a.hasPrio==b.hasPrio))&&(a.time==b.time))&&(a.hasTime==b.hasTime))&&(a.node==b.node))&&(a.nodes==b.nodes))&&(a.from_==b.from_))
theorem cmd_Same_c (a:Cmd) (b:Cmd) (hs0:a.sz) (hs1:b.sz):GV 235 [Cmd.a a,Cmd.a b] (Bo (QKa a b)):=by
 generalize hR:QKa a b=R;refine gA (kp 5 [18]) Tryz.func235 ?_;have hk0:=hs0;obtain ⟨z3,z4,z5,z6,z7⟩:a.name.size<=4294967296∧a.user.size<=4294967296∧a.account.size<=4294967296∧(a.shape.alts.length<=4294967296)∧a.after.length<=4294967296:=hs0;have hk1:=hs1;obtain ⟨z8,z9,z10,z11,z12⟩:b.name.size<=4294967296∧b.user.size<=4294967296∧b.account.size<=4294967296∧(b.shape.alts.length<=4294967296)∧b.after.length<=4294967296:=hs1;refine us (shape_Same_c a.shape b.shape szA szA _) ?_;(first|apply u2|apply u3|apply u4|apply us);exact QLc a.after b.after szA szA _;refine ai (fun h1=>?_) (fun h2=>?_)
 ·exact lfA
 ·exact lfA
def Qz6 (set_:Int):Bool:=((wu64 (BitVec.ofInt 64 set_ &&& ~~~(BitVec.ofInt 64 (Qp3 48))).toNat)==0)
theorem QA9 (set_:Int):GV 225 [U set_] (Bo (Qz6 set_)):=by
 generalize hR:Qz6 set_=R;refine gA (kp 3 []) Tryz.func225 ?_;refine us (nodeset_All_c 48 _) ?_;exact lfA
def Qx7 (a:Usage) (b:Usage):Int:=(QLa ([(QY0 a.user b.user),(QY0 a.account b.account)]:List Int))
theorem Qbb (a:Usage) (b:Usage) (hs0:a.sz) (hs1:b.sz):GV 181 [Usage.a a,Usage.a b] (I (Qx7 a b)):=by
 generalize hR:Qx7 a b=R;refine gA (kp 5 []) Tryz.func181 ?_;obtain ⟨z1,z2⟩:=Usage.zz hs0;obtain ⟨z3,z4⟩:=Usage.zz hs1;refine dchk (by kernel_rfl) ?_;(first|apply u2|apply u3|apply u4|apply us);exact Q04 a.user b.user _;(first|apply u2|apply u3|apply u4|apply us);exact Q04 a.account b.account _;(first|apply u2|apply u3|apply u4|apply us);exact AGives.as2 (Qud ([(QY0 a.user b.user),(QY0 a.account b.account)]:List Int) szA _) (av (QA5 (c:=(fun q_=>[I q_])) (d:=0) ([(QY0 a.user b.user),(QY0 a.account b.account)]:List Int) rfl) .nil);(repeat ((first|refine ai rfl ?_|refine ai (fun _=>rfl) ?_|refine ai (fun _=>Q04 a.user b.user _) ?_|refine ai (fun _=>Q04 a.account b.account _) ?_|refine ai (fun _=>AGives.as2 (Qud ([(QY0 a.user b.user),(QY0 a.account b.account)]:List Int) szA _) (av (QA5 (c:=(fun q_=>[I q_])) (d:=0) ([(QY0 a.user b.user),(QY0 a.account b.account)]:List Int) rfl) .nil)) ?_)));exact lfA
def QR5 (is:Int->Node->Bool):List Node->List Int->Nat->(List Int)
 | [],l,_=>l
 | x_ :: r,l,i=>bif (is (i:Int) x_) then QR5 is r (l++([(i:Int)]:List Int)) (i+1) else QR5 is r l (i+1)
def QZ3 (l:List Int):Int:=(QH0 l).1
def QC2 (s:State) (is:Int->Node->Bool):Int:=QZ3 (QR5 is s.nodes [] 0)
def QQ5 (s:State) (jobs:List (Int × Job)) (all_:List (Int × Resize)):List Node->Nat->Bool
 | [],_=>true
 | x_ :: r,i=>bif ((x_.state==1)&&((!(getM x_.job jobs).isSome)||(!(Qu0 (((getM x_.job jobs).getD Job.zero).nodes) (i:Int))))) then false else bif ((x_.state==2)&&(!(getM x_.job jobs).isSome)) then false else bif (((x_.state==2)||(x_.want==4))&&(!(Qu0 (((getM x_.job all_).getD Resize.zero).nodes) (i:Int)))) then false else bif ((x_.state==3)&&(decide (x_.job >= s.nextJob))) then false else QQ5 s jobs all_ r (i+1)
def QV2 (s:State) (jobs:List (Int × Job)) (all_:List (Int × Resize)):Bool:=QQ5 s jobs all_ s.nodes 0
theorem state_nodes_c (s:State) (jobs:List (Int × Job)) (all_:List (Int × Resize)) (hs0:s.sz):AMoves Tryz.prog 76 [State.a s,AVal.map 0,AVal.map 1] [(0,AObj.other (.map (mapEs ik Job.a 0 jobs) jobs.length)),(0,AObj.other (.map (mapEs ik Resize.a 0 all_) all_.length))] 2 (Bo (QV2 s jobs all_)) [(0,AObj.other (.map (mapEs ik Job.a 0 jobs) jobs.length)),(0,AObj.other (.map (mapEs ik Resize.a 0 all_) all_.length))]:=by
 generalize hR:QV2 s jobs all_=R;refine mo (kp 12 [13,14,15,16,35,50,58,70]) Tryz.func76 ?_;have hk0:=hs0;obtain ⟨z11,z12,z13,z14,z15,z16,z17⟩:=hs0;refine Qg0 (fun (i:Nat)=>QQ5 s jobs all_ (List.drop i s.nodes) i=R∧i<=s.nodes.length) (fun i=>s.nodes.length - i) (fun i=>[(1,AVal.map 0),(2,AVal.map 1),(3,AVal.ptr 2 0 8 0 0),(6,Bo false),(13,nodeL s.nodes),(14,I (s.nodes.length:Int)),(15,I (i:Int))]) (fun i=>[(0,AObj.other (.map (mapEs ik Job.a 0 jobs) jobs.length)),(0,AObj.other (.map (mapEs ik Resize.a 0 all_) all_.length)),(0,AObj.row 28 8 [[I s.now,nodeL s.nodes,jobL s.jobs,Qp1 s.resizes,bookL s.books,QD2 s.ledger,I s.nextJob,I s.nextBook]])]) 0 (wkA [0,1,2]) ⟨foll hR rfl,by exact omA⟩ ?_;clear hR;rintro i ⟨hR,hj⟩;(try dsimp only at hR hj);refine ai (fun h1=>?_) (fun h2=>?_)
 ·have hlt:=ltA h1;rw [Qc0 Node.zero hlt] at hR;refine ai gkA ?_;(first|refine ⟨_,_,QJ1 rfl _ _,QK1 (ek:=ik) ((s.nodes.getD i Node.zero).job) jobs Job.zero (QFe (a1 (a1 (a1 (a1 (a1 (av (Qp7) (a1 (a1 (a1 (a1 (av (Qp7) (a1 (a1 (a1 (a1 (a1 (a1 (a1 (a1 (a1 .nil))))))))))))))))))))),?_⟩|refine ⟨_,fun _=>⟨_,_,QJ1 rfl _ _,QK1 (ek:=ik) ((s.nodes.getD i Node.zero).job) jobs Job.zero (QFe (a1 (a1 (a1 (a1 (a1 (av (Qp7) (a1 (a1 (a1 (a1 (av (Qp7) (a1 (a1 (a1 (a1 (a1 (a1 (a1 (a1 (a1 .nil))))))))))))))))))))),rfl,rfl⟩,?_⟩|refine ⟨_,rfl,⟨_,_,QJ1 rfl _ _,QK1 (ek:=ik) ((s.nodes.getD i Node.zero).job) jobs Job.zero (QFe (a1 (a1 (a1 (a1 (a1 (av (Qp7) (a1 (a1 (a1 (a1 (av (Qp7) (a1 (a1 (a1 (a1 (a1 (a1 (a1 (a1 (a1 .nil))))))))))))))))))))),Sub.refl _,rfl⟩,?_⟩);(first|apply u2|apply u3|apply u4|apply us);exact QV7 (((getM (s.nodes.getD i Node.zero).job jobs).getD Job.zero).nodes) (i:Int) _;refine ai (fun h3=>?_) (fun h4=>?_)
  ·obtain rfl:=foll hR (ct h3 rfl);exact rq (ttA [0,1])
  ·refine ai (fun h5=>?_) (fun h6=>?_)
   ·obtain rfl:=foll hR (cf h4 (ct h5 rfl));exact rq (ttA [0,1])
   ·(first|refine ⟨_,_,QJ1 rfl _ _,QK1 (ek:=ik) ((s.nodes.getD i Node.zero).job) all_ Resize.zero (AsA.refl _),?_⟩|refine ⟨_,fun _=>⟨_,_,QJ1 rfl _ _,QK1 (ek:=ik) ((s.nodes.getD i Node.zero).job) all_ Resize.zero (AsA.refl _),rfl,rfl⟩,?_⟩|refine ⟨_,rfl,⟨_,_,QJ1 rfl _ _,QK1 (ek:=ik) ((s.nodes.getD i Node.zero).job) all_ Resize.zero (AsA.refl _),Sub.refl _,rfl⟩,?_⟩);(first|apply u2|apply u3|apply u4|apply us);exact QV7 (((getM (s.nodes.getD i Node.zero).job all_).getD Resize.zero).nodes) (i:Int) _;refine ai (fun h7=>?_) (fun h8=>?_)
    ·obtain rfl:=foll hR (cf h4 (cf h6 (ct h7 rfl)));exact rq (ttA [0,1])
    ·refine ai (fun h9=>?_) (fun h10=>?_)
     ·obtain rfl:=foll hR (cf h4 (cf h6 (cf h8 (ct h9 rfl))));exact rq (ttA [0,1])
     ·exact Ql0 (i+1) (wkA [0,1,2]) omA ⟨folA,by exact omA⟩
 ·rw [Qd0 (l:=s.nodes) (j:=i) (geA h2)] at hR;obtain rfl:=foll hR rfl;exact rq (ttA [0,1])
def QA4 (p_:List Step) (to_:Int):Nat->Int->Int->Int × Int
 | 0,_,_=>(0,0)
 | m+1,i,n=>bif ((decide (i<(p_.length:Int)))&&(decide ((p_.getD (Int.toNat i) Step.zero).at_<to_))) then QA4 p_ to_ m (w64 (i+1)) (min n (p_.getD (Int.toNat i) Step.zero).free) else (i,n)
def QB4 (i:Int) (n:Int):Int:=n
def QD9 (p_:List Step) (from_:Int) (to_:Int):Int:=bif ((((QZ2 p_)!=0)||(!(QZ6 from_)))||(decide (to_<=from_))) then 0 else QB4 ((QA4 p_ to_ ((Int.toNat ((p_.length:Int) - (w64 ((Qh0 p_ from_)+1))))+1) (w64 ((Qh0 p_ from_)+1)) ((p_.getD (Int.toNat (Qh0 p_ from_)) Step.zero).free)).1) ((QA4 p_ to_ ((Int.toNat ((p_.length:Int) - (w64 ((Qh0 p_ from_)+1))))+1) (w64 ((Qh0 p_ from_)+1)) ((p_.getD (Int.toNat (Qh0 p_ from_)) Step.zero).free)).2)
theorem Qsf (p_:List Step) (from_:Int) (to_:Int) (hs0:p_.length<=4294967296):GV 83 [stepL p_,I from_,I to_] (I (QD9 p_ from_ to_)):=by
 generalize hR:QD9 p_ from_ to_=R;refine gA (kp 9 [21,44]) Tryz.func83 ?_;have hk0:=hs0;obtain z5:p_.length<=4294967296:=hs0;refine us (QC6 p_ szA _) ?_;(first|apply u2|apply u3|apply u4|apply us);exact QId from_ _;refine ai (fun h1=>?_) (fun h2=>?_)
 ·exact lfA
 ·refine us (Qna p_ from_ szA _) ?_;have hb:=Bool.or_eq_false_iff.1 (Bool.or_eq_false_iff.1 h2).1;have hc:=QY6 hb.1;have hq:=hb.2;simp [QZ6] at hq;have hp:=QW9 hc.1 hc.2.1 hc.2.2 (t:=from_) (by omega);have hw:w64 (Qh0 p_ from_+1)=Qh0 p_ from_+1:=wr (by omega);refine ai gkA ?_;refine Qe0 (fun (i:Int) (n:Int)=>∃ m,(Int.toNat ((p_.length:Int) - i))<m∧QB4 (QA4 p_ to_ m i n).1 (QA4 p_ to_ m i n).2=R∧0<=i∧i<=(p_.length:Int)) (fun i n=>(Int.toNat ((p_.length:Int) - i))) (fun i n=>[(0,stepL p_),(2,I to_),(6,I 0),(7,I i),(8,I n)]) (fun i n=>[]) (w64 ((Qh0 p_ from_)+1)) ((p_.getD (Int.toNat (Qh0 p_ from_)) Step.zero).free) (wkA []) ⟨_,Nat.lt_succ_self _,foll hR (cf h2 rfl),by first|((rw [hw];omega))|first|((rw [hw1];omega))|exact exA⟩ ?_;clear hR;rintro i n ⟨m,hm,hR,hx⟩;(try dsimp only at hR hm hx);obtain ⟨m,rfl⟩:=sucA m;refine ai gkA ?_;refine ai (fun h3=>?_) (fun h4=>?_)
  ·have hw1:w64 (i+1)=i+1:=wr (by omega);refine ai gkA ?_;exact Q60 (w64 (i+1)) (min n (p_.getD (Int.toNat i) Step.zero).free) (wkA []) (by first|((dsimp only;rw [hw1];omega))|exact omA) ⟨m,by first|((dsimp only;rw [hw1];omega))|exact omA,foll hR (congrArg (fun p:Int × Int=>QB4 p.1 p.2) (ct h3 rfl)),by first|((rw [hw];omega))|first|((rw [hw1];omega))|exact exA⟩
  ·replace hR:QB4 i n=R:=fo2 (fun p:Int × Int=>QB4 p.1 p.2) (i,n) hR (cf h4 rfl);exact lfA
def QI4 (c4:List Step):(List Step) × Int:=bif ((QZ2 c4)!=0) then ([],3) else (c4,0)
def QN8 :List Step->Nat->List Step->(List Step)
 | [],_,c5=>c5
 | x_ :: r,i2,c5=>QN8 r (i2+1) (Q71 x_.at_ x_.free c5)
def QJ4 (c5:List Step):(List Step) × Int:=QI4 c5
def QH4 (p_:List Step) (to_:Int) (i:Int) (last:Int) (c2:List Step):(List Step) × Int:=bif (i==(p_.length:Int)) then bif (decide (to_<=1000000)) then QI4 (Q71 to_ last c2) else QI4 c2 else QJ4 (QN8 (List.drop (Int.toNat i) p_) 0 c2)
def QG4 (p_:List Step) (to_:Int) (n:Int):Nat->Int->Int->List Step->(List Step) × Int
 | 0,_,_,_=>([],0)
 | m+1,i1,last1,c3=>bif (decide (i1<(p_.length:Int))) then bif (decide ((p_.getD (Int.toNat i1) Step.zero).at_<to_)) then QG4 p_ to_ n m (w64 (i1+1)) ((p_.getD (Int.toNat i1) Step.zero).free) (Q71 ((p_.getD (Int.toNat i1) Step.zero).at_) (w64 ((p_.getD (Int.toNat i1) Step.zero).free+n)) c3) else bif (decide ((p_.getD (Int.toNat i1) Step.zero).at_ > to_)) then QH4 p_ to_ i1 ((p_.getD (Int.toNat i1) Step.zero).free) (Q71 to_ ((p_.getD (Int.toNat (w64 (i1 - 1))) Step.zero).free) c3) else QH4 p_ to_ i1 ((p_.getD (Int.toNat i1) Step.zero).free) c3 else QH4 p_ to_ i1 last1 c3
def Qf7 (p_:List Step) (from_:Int) (to_:Int) (n:Int) (c:List Step):(List Step) × Int:=QG4 p_ to_ n ((Int.toNat ((p_.length:Int) - (w64 ((Qh0 p_ from_)+1))))+1) (w64 ((Qh0 p_ from_)+1)) ((p_.getD (Int.toNat (Qh0 p_ from_)) Step.zero).free) (Q71 from_ (w64 ((p_.getD (Int.toNat (Qh0 p_ from_)) Step.zero).free+n)) c)
def Q76 (p_:List Step) (from_:Int) (to_:Int) (n:Int):(List Step) × Int:=bif ((QZ2 p_)!=0) then ([],100) else bif (((!(QZ6 from_))||(decide (to_<from_)))||(!(QD8 n))) then ([],2) else bif (to_==from_) then (p_,0) else bif (decide ((p_.getD (Int.toNat (Qh0 p_ from_)) Step.zero).at_<from_)) then Qf7 p_ from_ to_ n (Q71 ((p_.getD (Int.toNat (Qh0 p_ from_)) Step.zero).at_) ((p_.getD (Int.toNat (Qh0 p_ from_)) Step.zero).free) (List.take (Int.toNat (Qh0 p_ from_)) p_)) else Qf7 p_ from_ to_ n (List.take (Int.toNat (Qh0 p_ from_)) p_)
theorem b2a0 {P:Prop} (h:P:=by first|((exact ⟨by omega,by omega,Nat.le_trans (QF3 _ _ _) (by omega)⟩))|first|((exact ⟨by omega,by omega,by omega⟩))|first|((rw [hw1];exact ⟨by omega,by omega,Int.le_trans (Int.ofNat_le.2 (QF3 _ _ _)) (by omega)⟩))|first|((rw [hw];exact ⟨by omega,by omega,Int.le_trans (Int.ofNat_le.2 (QF3 _ _ _)) (by omega)⟩))|first|(((try dsimp only);refine Nat.le_trans (QF3 _ _ _) ?_;first|omega|(simp;omega)))|first|(((try dsimp only);rw [List.length_drop] at *;omega))|first|((simp;omega))|exact exA):P:=h
theorem b2a1 {P:Prop} (h:P:=by first|((refine Nat.le_trans (QF3 _ _ _) ?_;omega))|first|((simp;omega))|exact szA):P:=h
theorem profile_Add_c (p_:List Step) (from_:Int) (to_:Int) (n:Int) (hs0:p_.length<=4294967296):GV 148 [stepL p_,I from_,I to_,I n] (AVal.tup [stepL ((Q76 p_ from_ to_ n).1),I ((Q76 p_ from_ to_ n).2)]):=by
 generalize hR:Q76 p_ from_ to_ n=R;refine gA (kj [1000014,1000024,1000032] 17 [17,21,35,58,91,99,117,137,139,146,147,148,149,161]) Tryz.func148 ?_;have hk0:=hs0;obtain z23:p_.length<=4294967296:=hs0;refine us (QC6 p_ b2a1 _) ?_;refine ai (fun h1=>?_) (fun h2=>?_)
 ·exact lfA
 ·refine us (QId from_ _) ?_;(first|apply u2|apply u3|apply u4|apply us);exact QO8 n _;refine ai (fun h3=>?_) (fun h4=>?_)
  ·exact lfA
  ·refine ai (fun h5=>?_) (fun h6=>?_)
   ·refine us (mv [] (QFb p_ b2a1) .nil (dl lw .nil) (rO rr .nil) (rw_ 0 0 rfl)) ?_;obtain rfl:=foll hR (cf h2 (cf h4 (ct h5 rfl)));exact Q80 (Low.tup' (.cons lw (l1 .nil))) (Seen.tup (ev (Q90 Step.zero _ rfl eqA lnA) (e1 .nil)))
   ·refine us (Qna p_ from_ b2a1 _) ?_;have hc:=QY6 (p:=p_) (by assumption);have hp:=QW9 hc.1 hc.2.1 hc.2.2 (Qrc (by assumption));have hw:w64 (Qh0 p_ from_+1)=Qh0 p_ from_+1:=wr (by omega);refine ai gkA ?_;(first|refine ⟨Qo1 16 rfl lnA apA,?_⟩|refine ⟨QI0 16 rfl apA,?_⟩);refine Qb1 (fun (c:List Step)=>Qf7 p_ from_ to_ n c=R∧c.length<=Int.toNat (Qh0 p_ from_)+1) (fun c=>[(0,stepL p_),(1,I from_),(2,I to_),(3,I n),(8,AVal.lit (.slice none 0 0)),(9,I 0),(10,AVal.ptr 0 0 1 0 0),(11,AVal.fn (.func 208) [] [AVal.ptr 0 0 1 0 0]),(12,I (Qh0 p_ from_))]) (fun c=>[(0,AObj.row 82 1 [[AVal.own 1 0 2 0 c.length]]),(0,AObj.row 182 2 (c.map Step.cells))]) ?_ ?_
    ·clear hR;rintro c ⟨hR,hx⟩;(try dsimp only at hR hx);refine ai gkA ?_;refine us (mv [0,1] (Qx3 from_ (w64 ((p_.getD (Int.toNat (Qh0 p_ from_)) Step.zero).free+n)) c b2a1) (dO (dc (dv (Q56 rfl lnA) .nil)) (dO (dr eqA) .nil)) (d1 (d1 (dp .nil))) (rO (rc (.cons _ _ _ _ (rw_ 2 0 rfl) .nil)) (rO rr .nil)) rx) ?_;refine ai gkA ?_;refine Qbf (fun (i:Int) (last:Int) (c2:List Step)=>QH4 p_ to_ i last c2=R∧1<=i∧i<=(p_.length:Int)∧c2.length<=1003) (fun i last c2=>[(0,stepL p_),(2,I to_),(8,AVal.lit (.slice none 0 0)),(9,I 0),(10,AVal.ptr 0 0 1 0 0),(11,AVal.fn (.func 208) [] [AVal.ptr 0 0 1 0 0]),(12,I i),(14,I last)]) (fun i last c2=>[(0,AObj.row 82 1 [[AVal.own 1 0 2 0 c2.length]]),(0,AObj.row 182 2 (c2.map Step.cells))]) ?_ ?_
     ·clear hR;rintro i last c2 ⟨hR,hx⟩;(try dsimp only at hR hx);refine Qb1 (fun (c4:List Step)=>QI4 c4=R∧c4.length<=4000) (fun c4=>[(8,AVal.lit (.slice none 0 0)),(9,I 0),(10,AVal.ptr 0 0 1 0 0)]) (fun c4=>[(0,AObj.row 82 1 [[AVal.own 1 0 2 0 c4.length]]),(0,AObj.row 182 2 (c4.map Step.cells))]) ?_ ?_
      ·clear hR;rintro c4 ⟨hR,hx⟩;(try dsimp only at hR hx);refine us (AGives.lent (QC6 c4 b2a1 []) (ev (Q90 _ _ rfl eqA lnA) .nil) (.cons lw .nil) (Qm3 rfl)) ?_;refine ai (fun h7=>?_) (fun h8=>?_)
       ·exact lfA
       ·obtain rfl:=foll hR (cf h8 rfl);exact Q80 (Low.tup' (.cons lw (l1 .nil))) (Seen.tup (ev (Q90 Step.zero _ rfl eqA lnA) (e1 .nil)))
      ·refine ai (fun h9=>?_) (fun h10=>?_)
       ·refine ai (fun h11=>?_) (fun h12=>?_)
        ·have qh11:=of_decide_eq_true h11;refine us (mv [0,1] (Qx3 to_ last c2 b2a1) (dO (dc (dv (Q56 rfl lnA) .nil)) (dO (dr eqA) .nil)) (d1 (d1 (dp .nil))) (rO (rc (.cons _ _ _ _ (rw_ 2 0 rfl) .nil)) (rO rr .nil)) rx) ?_;exact Q70 (Q71 to_ last c2) (wkA [0,2]) (⟨folA,b2a0⟩)
        ·have qh12:=of_decide_eq_false h12;exact Q70 c2 (wkA [0,1]) (⟨folA,b2a0⟩)
       ·refine ai gkA ?_;refine Qe0 (fun (i2:Nat) (c5:List Step)=>QJ4 (QN8 (List.drop i2 (List.drop (Int.toNat i) p_)) i2 c5)=R∧i2<=(List.drop (Int.toNat i) p_).length∧c5.length<=2000+i2) (fun i2 c5=>(List.drop (Int.toNat i) p_).length - i2) (fun i2 c5=>[(8,AVal.lit (.slice none 0 0)),(9,I 0),(10,AVal.ptr 0 0 1 0 0),(11,AVal.fn (.func 208) [] [AVal.ptr 0 0 1 0 0]),(146,stepL (List.drop (Int.toNat i) p_)),(147,I ((List.drop (Int.toNat i) p_).length:Int)),(148,I (i2:Int))]) (fun i2 c5=>[(0,AObj.row 82 1 [[AVal.own 1 0 2 0 c5.length]]),(0,AObj.row 182 2 (c5.map Step.cells))]) 0 c2 (wk [0,1] (tO rfl (QN2 (cv (to 1 lnA) .nil)) (tO rfl (tl eqA) .nil)) (s1 (s1 (sv (Qg1 0 rfl rfl) (sv (QM7 .nil (cv (Qg1 0 rfl rfl) .nil)) (sv (turn_as (as_drop p_ (Int.toNat i) _ leA) lw) (sv (turn_eq (I_eq (by simp)) lx) (s1 .nil)))))))) ⟨folA,by exact omA,b2a0⟩ ?_;clear hR;rintro i2 c5 ⟨hR,hj,hx⟩;(try dsimp only at hR hj hx);refine ai (fun h13=>?_) (fun h14=>?_)
        ·have hlt:=ltA h13;rw [Qc0 Step.zero hlt] at hR;have hdl:(List.drop (Int.toNat i) p_).length<=1000:=(by rw [List.length_drop];omega);refine ai gkA ?_;refine us (mv [0,1] (Qx3 (((List.drop (Int.toNat i) p_).getD i2 Step.zero).at_) (((List.drop (Int.toNat i) p_).getD i2 Step.zero).free) c5 b2a1) (dO (dc (dv (Q56 rfl lnA) .nil)) (dO (dr eqA) .nil)) (d1 (d1 (dp .nil))) (rO (rc (.cons _ _ _ _ (rw_ 3 0 rfl) .nil)) (rO rr .nil)) rx) ?_;exact Q60 (i2+1) (Q71 ((List.drop (Int.toNat i) p_).getD i2 Step.zero).at_ ((List.drop (Int.toNat i) p_).getD i2 Step.zero).free c5) (wkA [0,3]) omA ⟨foll hR (congrArg (fun p:(List Step)=>QJ4 p) rfl),by exact omA,b2a0⟩
        ·rw [Qd0 (l:=(List.drop (Int.toNat i) p_)) (j:=i2) (geA h14)] at hR;replace hR:QJ4 c5=R:=fo2 (fun p:(List Step)=>QJ4 p) (c5) hR rfl;exact Q70 c5 (wkA [0,1]) (⟨foll hR rfl,b2a0⟩)
     ·refine Qj8 (fun (i1:Int) (last1:Int) (c3:List Step)=>∃ m,(Int.toNat ((p_.length:Int) - i1))<m∧QG4 p_ to_ n m i1 last1 c3=R∧1<=i1∧i1<=(p_.length:Int)∧(c3.length:Int)<=i1+1) (fun i1 last1 c3=>(Int.toNat ((p_.length:Int) - i1))) (fun i1 last1 c3=>[(0,stepL p_),(2,I to_),(3,I n),(8,AVal.lit (.slice none 0 0)),(9,I 0),(10,AVal.ptr 0 0 1 0 0),(11,AVal.fn (.func 208) [] [AVal.ptr 0 0 1 0 0]),(12,I i1),(14,I last1)]) (fun i1 last1 c3=>[(0,AObj.row 82 1 [[AVal.own 1 0 2 0 c3.length]]),(0,AObj.row 182 2 (c3.map Step.cells))]) (w64 ((Qh0 p_ from_)+1)) ((p_.getD (Int.toNat (Qh0 p_ from_)) Step.zero).free) (Q71 from_ (w64 ((p_.getD (Int.toNat (Qh0 p_ from_)) Step.zero).free+n)) c) (wkA [0,2]) ⟨_,Nat.lt_succ_self _,foll hR rfl,b2a0⟩ ?_;clear hR;rintro i1 last1 c3 ⟨m,hm,hR,hx⟩;(try dsimp only at hR hm hx);obtain ⟨m,rfl⟩:=sucA m;refine ai (fun h15=>?_) (fun h16=>?_)
      ·have qh15:=of_decide_eq_true h15;have hw1:w64 (i1+1)=i1+1:=wr (by omega);refine ai gkA ?_;refine ai gkA ?_;refine ai (fun h17=>?_) (fun h18=>?_)
       ·have qh17:=of_decide_eq_true h17;refine ai gkA ?_;refine us (mv [0,1] (Qx3 ((p_.getD (Int.toNat i1) Step.zero).at_) (w64 ((p_.getD (Int.toNat i1) Step.zero).free+n)) c3 b2a1) (dO (dc (dv (Q56 rfl lnA) .nil)) (dO (dr eqA) .nil)) (d1 (d1 (dp .nil))) (rO (rc (.cons _ _ _ _ (rw_ 2 0 rfl) .nil)) (rO rr .nil)) rx) ?_;exact Qb4 (w64 (i1+1)) ((p_.getD (Int.toNat i1) Step.zero).free) (Q71 ((p_.getD (Int.toNat i1) Step.zero).at_) (w64 ((p_.getD (Int.toNat i1) Step.zero).free+n)) c3) (wkA [0,2]) omA ⟨m,by exact omA,foll hR (ct h15 (ct h17 rfl)),b2a0⟩
       ·have qh18:=of_decide_eq_false h18;refine ai gkA ?_;refine ai (fun h19=>?_) (fun h20=>?_)
        ·have qh19:=of_decide_eq_true h19;refine ai gkA ?_;refine us (mv [0,1] (Qx3 to_ ((p_.getD (Int.toNat (w64 (i1 - 1))) Step.zero).free) c3 b2a1) (dO (dc (dv (Q56 rfl lnA) .nil)) (dO (dr eqA) .nil)) (d1 (d1 (dp .nil))) (rO (rc (.cons _ _ _ _ (rw_ 2 0 rfl) .nil)) (rO rr .nil)) rx) ?_;exact Qq2 i1 ((p_.getD (Int.toNat i1) Step.zero).free) (Q71 to_ ((p_.getD (Int.toNat (w64 (i1 - 1))) Step.zero).free) c3) (wkA [0,2]) (⟨folA,b2a0⟩)
        ·have qh20:=of_decide_eq_false h20;exact Qq2 i1 ((p_.getD (Int.toNat i1) Step.zero).free) c3 (wkA [0,1]) (⟨folA,b2a0⟩)
      ·have qh16:=of_decide_eq_false h16;exact Qq2 i1 last1 c3 (wkA [0,1]) (⟨folA,b2a0⟩)
    ·refine ai gkA ?_;refine ai (fun h21=>?_) (fun h22=>?_)
     ·have qh21:=of_decide_eq_true h21;refine dchk (by kernel_rfl) ?_;refine ai gkA ?_;refine ai gkA ?_;(first|apply u2|apply u3|apply u4|apply us);exact mv [0,1] (Qx3 ((p_.getD (Int.toNat (Qh0 p_ from_)) Step.zero).at_) ((p_.getD (Int.toNat (Qh0 p_ from_)) Step.zero).free) (List.take (Int.toNat (Qh0 p_ from_)) p_) b2a1) (dO (dc (dv (Q56 rfl lnA) .nil)) (dO (dr eqA) .nil)) (d1 (d1 (dp .nil))) (rO (rc (.cons _ _ _ _ (rw_ 2 0 rfl) .nil)) (rO rr .nil)) rx;(repeat ((first|refine ai rfl ?_|refine ai (fun _=>rfl) ?_)));exact Q70 (Q71 ((p_.getD (Int.toNat (Qh0 p_ from_)) Step.zero).at_) ((p_.getD (Int.toNat (Qh0 p_ from_)) Step.zero).free) (List.take (Int.toNat (Qh0 p_ from_)) p_)) (wkA [0,2]) (⟨folA,b2a0⟩)
     ·have qh22:=of_decide_eq_false h22;exact Q70 (List.take (Int.toNat (Qh0 p_ from_)) p_) (wkA [0,1]) (⟨folA,b2a0⟩)
theorem Qrf (p:List Step) (f t n:Int) (hp:p.length<=4294967296):(Q76 p f t n).1.length<=4294967296:=by
 have k4:∀ c,(QI4 c).1.length<=4294967296:=by
  intro c
  unfold QI4
  cases h:((QZ2 c)!=0) with
  | true=>simp
  | false=>have:=QY6 h;simp only [cond_false];omega
 have k2:∀ i last c,(QH4 p t i last c).1.length<=4294967296:=by
  intro i last c
  unfold QH4 QJ4
  cases (i==(p.length:Int)) <;> simp only [cond_true,cond_false]
  ·exact k4 _
  ·cases (decide (t<=1000000)) <;> simp only [cond_true,cond_false] <;> exact k4 _
 have g3:∀ m i last c,(QG4 p t n m i last c).1.length<=4294967296:=by
  intro m
  induction m with
  | zero=>intro i last c;simp [QG4]
  | succ m ih =>
   intro i last c
   rw [QG4]
   repeat' first|exact ih _ _ _|exact k2 _ _ _|(rw [Bool.cond_eq_ite];split)
 unfold Q76 Qf7
 repeat' first|exact g3 _ _ _ _|exact hp|(simp;done)|(rw [Bool.cond_eq_ite];split)
def QW6 (n:Int):Nat->Int->Nat->Int
 | 0,_,_=>0
 | m+1,rest,i=>bif (decide ((i:Int)<n)) then QW6 n m (wu64 (BitVec.ofInt 64 rest &&& BitVec.ofInt 64 (wu64 (rest - 1))).toNat) (i+1) else rest
def Qd4 (s:Int) (rest:Int):Int × Bool:=((wu64 (BitVec.ofInt 64 s &&& ~~~(BitVec.ofInt 64 rest)).toNat),true)
def Q32 (s:Int) (n:Int):Int × Bool:=bif ((decide (n<0))||(decide (n > (Q40 s)))) then (0,false) else Qd4 s (QW6 n ((Int.toNat (n - (0:Int)))+1) s 0)
theorem QV9 (s:Int) (n:Int):GV 95 [U s,I n] (AVal.tup [U ((Q32 s n).1),Bo ((Q32 s n).2)]):=by
 generalize hR:Q32 s n=R;refine gA (kp 7 [14,16,17,18]) Tryz.func95 ?_;(first|apply u2|apply u3|apply u4|apply us);exact Qc1 s _;refine ai (fun h1=>?_) (fun h2=>?_)
 ·exact lfA
 ·refine Qe0 (fun (rest:Int) (i:Nat)=>∃ m,(Int.toNat (n - (i:Int)))<m∧Qd4 s (QW6 n m rest i)=R) (fun rest i=>(Int.toNat (n - (i:Int)))) (fun rest i=>[(0,U s),(4,U 0),(5,Bo false),(6,U rest),(16,I n),(17,I (i:Int))]) (fun rest i=>[]) s 0 (wkA []) ⟨_,Nat.lt_succ_self _,foll hR (cf h2 rfl)⟩ ?_;clear hR;rintro rest i ⟨m,hm,hR⟩;(try dsimp only at hR hm);obtain ⟨m,rfl⟩:=sucA m;refine ai (fun h3=>?_) (fun h4=>?_)
  ·have qh3:=of_decide_eq_true h3;have hnc:=Qce s;have hb:=Bool.or_eq_false_iff.1 h2;have hb1:=of_decide_eq_false hb.1;have hb2:=of_decide_eq_false hb.2;exact Q60 (wu64 (BitVec.ofInt 64 rest &&& BitVec.ofInt 64 (wu64 (rest - 1))).toNat) (i+1) (wkA []) omA ⟨m,by exact omA,foll hR (congrArg (fun p:Int=>Qd4 s p) (ct h3 rfl))⟩
  ·have qh4:=of_decide_eq_false h4;replace hR:Qd4 s rest=R:=fo2 (fun p:Int=>Qd4 s p) (rest) hR (cf h4 rfl);exact lfA
def Qe2 (c:Cmd) (job:Bool) (submit:Bool) (prio:Bool) (time:Bool) (node:Bool) (nodes:Bool) (from_:Bool):Bool:=bif ((((((job&&(c.job != 0))||(prio&&c.hasPrio))||(time&&c.hasTime))||(node&&(c.node != 0)))||(nodes&&(c.nodes != 0)))||(from_&&(c.from_ != 0))) then false else bif (!submit) then true else (((((ByteArray.toList c.name==ByteArray.toList ⟨#[]⟩)&&(ByteArray.toList c.user==ByteArray.toList ⟨#[]⟩))&&(ByteArray.toList c.account==ByteArray.toList ⟨#[]⟩))&&((c.after.length:Int)==0))&&(Q07 c.shape Shape.zero))
theorem Qc5 (c:Cmd) (job:Bool) (submit:Bool) (prio:Bool) (time:Bool) (node:Bool) (nodes:Bool) (from_:Bool) (hs0:c.sz):GV 280 [Cmd.a c,Bo job,Bo submit,Bo prio,Bo time,Bo node,Bo nodes,Bo from_] (Bo (Qe2 c job submit prio time node nodes from_)):=by
 generalize hR:Qe2 c job submit prio time node nodes from_=R;refine gA (kp 17 [60,62]) Tryz.func280 ?_;have hk0:=hs0;obtain ⟨z5,z6,z7,z8,z9⟩:c.name.size<=4294967296∧c.user.size<=4294967296∧c.account.size<=4294967296∧(c.shape.alts.length<=4294967296)∧c.after.length<=4294967296:=hs0;refine ai (fun h1=>?_) (fun h2=>?_)
 ·exact lfA
 ·refine ai (fun h3=>?_) (fun h4=>?_)
  ·exact lfA
  ·(first|apply u2|apply u3|apply u4|apply us);exact AGives.as2 (QKd c.shape Shape.zero szA szA _) (a1 (av (QFe (a1 (av (Qp7) (a1 (a1 (a1 .nil)))))) .nil));exact lfA
def Qj3 (s:ByteArray):Bool:=((((Qq3 s).2==0)&&(decide ((Qq3 s).1 >= 1)))&&(decide ((Qq3 s).1<=16)))
theorem Qsa (s:ByteArray) (hs0:s.size<=4294967296):GV 281 [Sg s] (Bo (Qj3 s)):=by
 generalize hR:Qj3 s=R;refine gA (kp 5 []) Tryz.func281 ?_;have hk0:=hs0;obtain z1:s.size<=4294967296:=hs0;refine us (QE9 s szA _) ?_;exact lfA
def QK4 (s:ByteArray):Nat->Nat->List Int->Nat × (List Int)
 | 0,_,_=>(0,[])
 | m+1,i,c=>bif (decide ((i:Int)<(ByteArray.size s:Int))) then bif ((((s.data.toList.getD i 0).toNat:Int)==34)||(((s.data.toList.getD i 0).toNat:Int)==92)) then QK4 s m (i+1) ((c++([92]:List Int))++([((s.data.toList.getD i 0).toNat:Int)]:List Int)) else QK4 s m (i+1) (c++([((s.data.toList.getD i 0).toNat:Int)]:List Int)) else (i,c)
def QL4 (i:Nat) (c:List Int):ByteArray × Int:=((Qv2 (c++([34]:List Int))),0)
def Ql8 (s:ByteArray):ByteArray × Int:=bif ((Qq3 s).2 != 0) then (⟨#[]⟩,(Qq3 s).2) else QL4 ((QK4 s ((Int.toNat ((ByteArray.size s:Int) - (0:Int)))+1) 0 ([34]:List Int)).1) ((QK4 s ((Int.toNat ((ByteArray.size s:Int) - (0:Int)))+1) 0 ([34]:List Int)).2)
theorem ref04_Quote_c (s:ByteArray) (hs0:s.size<=4294967296):GV 314 [Sg s] (AVal.tup [Sg ((Ql8 s).1),I ((Ql8 s).2)]):=by
 generalize hR:Ql8 s=R;refine gA (kp 8 [14,20,32]) Tryz.func314 ?_;have hk0:=hs0;obtain z7:s.size<=4294967296:=hs0;refine us (QE9 s szA _) ?_;refine ai (fun h1=>?_) (fun h2=>?_)
 ·exact lfA
 ·refine Or.inr ?_;refine Qe0 (fun (i:Nat) (c:List Int)=>∃ m,(Int.toNat ((ByteArray.size s:Int) - (i:Int)))<m∧QL4 (QK4 s m i c).1 (QK4 s m i c).2=R∧c.length<=([34]:List Int).length+2*i∧(i:Int)<=(ByteArray.size s:Int)) (fun i c=>(Int.toNat ((ByteArray.size s:Int) - (i:Int)))) (fun i c=>[(0,Sg s),(2,Sg ⟨#[]⟩),(3,I 0),(6,AVal.own 0 0 1 0 c.length),(7,I (i:Int))]) (fun i c=>[(0,AObj.row 5 1 (c.map (fun q_=>[Y q_])))]) 0 ([34]:List Int) (wkA [0]) ⟨_,Nat.lt_succ_self _,foll hR (cf h2 rfl),by exact exA⟩ ?_;clear hR;rintro i c ⟨m,hm,hR,hx⟩;(try dsimp only at hR hm hx);obtain ⟨m,rfl⟩:=sucA m;refine ai (fun h3=>?_) (fun h4=>?_)
  ·have qh3:=of_decide_eq_true h3;refine ai gkA ?_;refine ai gkA ?_;refine ai (fun h5=>?_) (fun h6=>?_)
   ·refine Or.inl ?_;(first|refine ⟨Qo1 1 rfl lnA apA,?_⟩|refine ⟨QI0 1 rfl apA,?_⟩);refine ai gkA ?_;refine Or.inl ?_;(first|refine ⟨Qo1 1 rfl lnA apA,?_⟩|refine ⟨QI0 1 rfl apA,?_⟩);exact Q60 (i+1) ((c++([92]:List Int))++([((s.data.toList.getD i 0).toNat:Int)]:List Int)) (wkA [0]) omA ⟨m,by exact omA,foll hR (congrArg (fun p:Nat × (List Int)=>QL4 p.1 p.2) (ct h3 (ct h5 rfl))),by exact exA⟩
   ·refine ai gkA ?_;refine Or.inl ?_;(first|refine ⟨Qo1 1 rfl lnA apA,?_⟩|refine ⟨QI0 1 rfl apA,?_⟩);exact Q60 (i+1) (c++([((s.data.toList.getD i 0).toNat:Int)]:List Int)) (wkA [0]) omA ⟨m,by exact omA,foll hR (congrArg (fun p:Nat × (List Int)=>QL4 p.1 p.2) (ct h3 (cf h6 rfl))),by exact exA⟩
  ·have qh4:=of_decide_eq_false h4;replace hR:QL4 i c=R:=fo2 (fun p:Nat × (List Int)=>QL4 p.1 p.2) (i,c) hR (cf h4 rfl);refine Or.inl ?_;(first|refine ⟨Qo1 1 rfl lnA apA,?_⟩|refine ⟨QI0 1 rfl apA,?_⟩);(first|refine ⟨(c++([34]:List Int)),by exact cvA,?_⟩|refine ⟨_,fun _=>⟨(c++([34]:List Int)),by exact cvA,rfl,rfl⟩,?_⟩|refine ⟨_,rfl,⟨(c++([34]:List Int)),by exact cvA,Sub.refl _,rfl⟩,?_⟩);exact lfA
def QO1 (s:Shape):Nat->List Alt->Nat->(List Alt) × Nat
 | 0,_,_=>([],0)
 | m+1,out,i=>bif (decide ((i:Int)<=(w64 (s.max - s.min)))) then QO1 s m (out++([(⟨(w64 (s.max - (i:Int))),s.wall⟩:Alt)]:List Alt)) (i+1) else (out,i)
def QR2 (out:List Alt) (i:Nat):(List Alt):=out
def Qz0 (s:Shape):(List Alt):=bif ((Qv1 s)!=0) then [] else bif (s.kind != 3) then s.alts else QR2 ((QO1 s ((Int.toNat ((w64 (s.max - s.min)) - (0:Int)+1))+1) [] 0).1) ((QO1 s ((Int.toNat ((w64 (s.max - s.min)) - (0:Int)+1))+1) [] 0).2)
theorem Qqa (s:Shape) (hs0:s.sz):GV 222 [Shape.a s] (altL (Qz0 s)):=by
 generalize hR:Qz0 s=R;refine gA (kp 5 [7,10,19]) Tryz.func222 ?_;have hk0:=hs0;obtain z7:s.alts.length<=4294967296:=hs0;have hf0:=Qn8 (s:=s);refine us (Qtc s szA _) ?_;refine ai (fun h1=>?_) (fun h2=>?_)
 ·exact lfA
 ·refine ai (fun h3=>?_) (fun h4=>?_)
  ·exact lfA
  ·refine Qe0 (fun (out:List Alt) (i:Nat)=>∃ m,(Int.toNat ((w64 (s.max - s.min)) - (i:Int)+1))<m∧QR2 (QO1 s m out i).1 (QO1 s m out i).2=R∧out.length<=i) (fun out i=>(Int.toNat ((w64 (s.max - s.min)) - (i:Int)+1))) (fun out i=>[(1,AVal.ptr 0 0 5 0 0),(2,AVal.lit (.slice none 0 0)),(3,AVal.own 1 0 2 0 out.length),(4,I (i:Int))]) (fun out i=>[(0,AObj.row 69 5 [[I s.kind,altL s.alts,I s.min,I s.max,I s.wall]]),(0,AObj.row 178 2 (out.map Alt.cells))]) [] 0 ((Qx1 178 2).trans (wkA [0,1])) ⟨_,Nat.lt_succ_self _,foll hR (cf h2 (cf h4 rfl)),by exact exA⟩ ?_;clear hR;rintro out i ⟨m,hm,hR,hx⟩;(try dsimp only at hR hm hx);obtain ⟨m,rfl⟩:=sucA m;refine ai (fun h5=>?_) (fun h6=>?_)
   ·have qh5:=of_decide_eq_true h5;refine Or.inl ?_;(first|refine ⟨Qo1 16 rfl lnA apA,?_⟩|refine ⟨QI0 16 rfl apA,?_⟩);exact Q60 (out++([(⟨(w64 (s.max - (i:Int))),s.wall⟩:Alt)]:List Alt)) (i+1) (wkA [0,1]) omA ⟨m,by exact omA,foll hR (congrArg (fun p:(List Alt) × Nat=>QR2 p.1 p.2) (ct h5 rfl)),by exact exA⟩
   ·have qh6:=of_decide_eq_false h6;replace hR:QR2 out i=R:=fo2 (fun p:(List Alt) × Nat=>QR2 p.1 p.2) (out,i) hR (cf h6 rfl);obtain rfl:=foll hR rfl;exact Q80 lw (Q90 Alt.zero _ rfl eqA lnA)
theorem QO7 (s:Shape):∀ (m:Nat) (out:List Alt) (i:Nat),(QO1 s m out i).1.length<=out.length+m
 | 0,out,i=>by simp [QO1]
 | m+1,out,i=>by
  rw [QO1]
  cases (decide ((i:Int)<=(w64 (s.max - s.min)))) with
  | false=>simp
  | true =>
   have:=QO7 s m (out++([(⟨(w64 (s.max - (i:Int))),s.wall⟩:Alt)]:List Alt)) (i+1)
   simp only [List.length_append,List.length_cons,List.length_nil] at this
   simp only [cond_true]
   omega
theorem Qa9 (s:Shape) (h:s.sz):(Qz0 s).length<=4294967296:=by
 unfold Qz0
 cases h1:(Qv1 s != 0) with
 | true=>simp
 | false =>
  cases h2:(s.kind != 3) with
  | true=>exact h
  | false =>
   obtain ⟨a,b,c,d⟩:=Qn8 h1 h2
   have hl:=QO7 s ((Int.toNat ((w64 (s.max - s.min)) - (0:Int)+1))+1) [] 0
   simp only [cond_false,QR2]
   rw [d] at hl ⊢
   simp only [List.length_nil] at hl
   omega
def QT1 (set_:Int) (n:Int):Bool:=(QC4 set_ n)
theorem QA2 (set_:Int) (n:Int):GV 161 [U set_,I n] (Bo (QT1 set_ n)):=by
 generalize hR:QT1 set_ n=R;refine gA (kp 5 []) Tryz.func161 ?_;refine us (Q17 set_ n _) ?_;exact lfA
def Qf5 (job:Int) (state:Int):List Node->Int->Nat->Int × Nat
 | [],out,i=>(out,i)
 | x_ :: r,out,i=>bif ((x_.job==job)&&(x_.state==state)) then Qf5 job state r (wu64 (out+(Qb9 (i:Int)))) (i+1) else Qf5 job state r out (i+1)
def Q96 (out:Int) (i:Nat):Int:=out
def QE6 (l:List Node) (job:Int) (state:Int):Int:=bif ((Qr3 l)!=0) then 0 else Q96 ((Qf5 job state l 0 0).1) ((Qf5 job state l 0 0).2)
theorem ref12_Of_c (l:List Node) (job:Int) (state:Int) (hs0:l.length<=4294967296):GV 106 [nodeL l,I job,I state] (U (QE6 l job state)):=by
 generalize hR:QE6 l job state=R;refine gA (kp 9 [11,16,34]) Tryz.func106 ?_;have hk0:=hs0;obtain z7:l.length<=4294967296:=hs0;have hf0:=Qzf (l:=l);refine us (QD6 l szA _) ?_;refine ai (fun h1=>?_) (fun h2=>?_)
 ·exact lfA
 ·refine Qe0 (fun (out:Int) (i:Nat)=>Q96 (Qf5 job state (List.drop i l) out i).1 (Qf5 job state (List.drop i l) out i).2=R∧i<=l.length) (fun out i=>l.length - i) (fun out i=>[(0,nodeL l),(1,I job),(2,I state),(6,U 0),(7,U out),(8,I (i:Int))]) (fun out i=>[]) 0 0 (wkA []) ⟨folA,by exact omA⟩ ?_;clear hR;rintro out i ⟨hR,hj⟩;(try dsimp only at hR hj);refine ai (fun h3=>?_) (fun h4=>?_)
  ·have hlt:=ltA h3;rw [Qc0 Node.zero hlt] at hR;refine ai gkA ?_;refine ai gkA ?_;refine ai (fun h5=>?_) (fun h6=>?_)
   ·refine us (ref12_bit_c (i:Int) ckA _) ?_;exact Q60 (wu64 (out+(Qb9 (i:Int)))) (i+1) (wkA []) omA ⟨foll hR (congrArg (fun p:Int × Nat=>Q96 p.1 p.2) (ct h5 rfl)),by exact omA⟩
   ·exact Q60 out (i+1) (wkA []) omA ⟨foll hR (congrArg (fun p:Int × Nat=>Q96 p.1 p.2) (cf h6 rfl)),by exact omA⟩
  ·rw [Qd0 (l:=l) (j:=i) (geA h4)] at hR;replace hR:Q96 out i=R:=fo2 (fun p:Int × Nat=>Q96 p.1 p.2) (out,i) hR rfl;exact lfA
def Qo8 (l:List Node) (n:Int) (act:Int) (job:Int) (now:Int):(List Node) × Int:=((l.set (Int.toNat n) ((QG3 (l.getD (Int.toNat n) Node.zero) act job now).1)),0)
def Q14 (l:List Node) (n:Int) (act:Int) (job:Int) (now:Int):(List Node) × Int:=bif ((((((Qr3 l)!=0)||(decide (n<0)))||(decide (n >= (l.length:Int))))||(decide (now<0)))||(decide (now > 1000000))) then ([],120) else bif (!(QG3 (l.getD (Int.toNat n) Node.zero) act job now).2) then ([],120) else Qo8 l n act job now
@[simp] theorem ref12_Do_k1_len (l:List Node) (n act job now:Int):(Qo8 l n act job now).1.length=l.length:=by simp [Qo8]
theorem ref12_Do_c (l:List Node) (n:Int) (act:Int) (job:Int) (now:Int) (hs0:l.length<=4294967296):GV 113 [nodeL l,I n,I act,I job,I now] (AVal.tup [nodeL ((Q14 l n act job now).1),I ((Q14 l n act job now).2)]):=by
 generalize hR:Q14 l n act job now=R;refine gA (kj [1000007] 15 [35,48]) Tryz.func113 ?_;have hk0:=hs0;obtain z5:l.length<=4294967296:=hs0;refine us (QD6 l szA _) ?_;refine ai (fun h1=>?_) (fun h2=>?_)
 ·exact lfA
 ·refine ai gkA ?_;refine us (ref12_One_c (l.getD (Int.toNat n) Node.zero) act job now _) ?_;refine ai (fun h3=>?_) (fun h4=>?_)
  ·exact lfA
  ·refine join_start (X:=Unit) (fun _=>Qo8 l n act job now  = R) (fun _=>[(1,I n),(10,AVal.lit (.slice none 0 0)),(11,I 0),(12,AVal.ptr 0 0 7 0 0),(14,AVal.own 1 0 7 0 l.length)]) (fun _=>[(0,AObj.row 55 7 [[I ((QG3 (l.getD (Int.toNat n) Node.zero) act job now).1.state),I ((QG3 (l.getD (Int.toNat n) Node.zero) act job now).1.job),I ((QG3 (l.getD (Int.toNat n) Node.zero) act job now).1.epoch),Bo ((QG3 (l.getD (Int.toNat n) Node.zero) act job now).1.drain),I ((QG3 (l.getD (Int.toNat n) Node.zero) act job now).1.want),I ((QG3 (l.getD (Int.toNat n) Node.zero) act job now).1.since),I ((QG3 (l.getD (Int.toNat n) Node.zero) act job now).1.asked)]]),(0,AObj.row 55 7 (l.map Node.cells))]) ?_ ?_
   ·clear hR;rintro _ hR;(try dsimp only at hR);refine ai gkA ?_;refine ⟨_,Qu2 rfl rfl rfl rfl (Q21 Node.zero (Int.toNat n) (by first|rfl|exact Nat.zero_add _|omega) ckA) rfl rfl (Qld (Int.toNat n) ((QG3 (l.getD (Int.toNat n) Node.zero) act job now).1) (by first|rfl|exact Nat.zero_add _|omega) rfl),?_⟩;obtain rfl:=foll hR rfl;exact Q80 (Low.tup' (.cons lw (l1 .nil))) (Seen.tup (ev (Q90 Node.zero _ rfl eqA lnA) (e1 .nil)))
   ·(first|refine ⟨Qo1 56 rfl lnA apA,?_⟩|refine ⟨QI0 56 rfl apA,?_⟩);exact Q9f () (wkA [0,1]) (foll hR (cf h2 (cf h4 rfl)))
theorem QNd (l:List Node) (n act job now:Int):(Q14 l n act job now).1.length<=l.length:=by
 unfold Q14
 repeat' first|exact Nat.zero_le _|(simp;done)|(rw [Bool.cond_eq_ite];split)
def Qw5 (l:List Node) (n:Int):Note × Bool:=bif (((((Qr3 l)!=0)||(decide (n<0)))||(decide (n >= (l.length:Int))))||((l.getD (Int.toNat n) Node.zero).want==0)) then (Note.zero,false) else ((⟨(l.getD (Int.toNat n) Node.zero).want,n,(l.getD (Int.toNat n) Node.zero).job,(l.getD (Int.toNat n) Node.zero).epoch⟩:Note),true)
theorem ref12_Note_c (l:List Node) (n:Int) (hs0:l.length<=4294967296):GV 173 [nodeL l,I n] (AVal.tup [Note.a ((Qw5 l n).1),Bo ((Qw5 l n).2)]):=by
 generalize hR:Qw5 l n=R;refine gA (kp 6 [26]) Tryz.func173 ?_;have hk0:=hs0;obtain z3:l.length<=4294967296:=hs0;refine us (QD6 l szA _) ?_;refine ai gkA ?_;refine ai (fun h1=>?_) (fun h2=>?_)
 ·exact lfA
 ·refine dchk (by kernel_rfl) ?_;refine ai gkA ?_;refine ai gkA ?_;refine ai gkA ?_;(repeat ((first|refine ai rfl ?_|refine ai (fun _=>rfl) ?_)));exact lfA
def Ql4 :List Int->Int->Nat->Int × Nat
 | [],out,i=>(out,i)
 | x_ :: r,out,i=>bif (!(QC4 out x_)) then Ql4 r (wu64 (out+(QH5 x_))) (i+1) else Ql4 r out (i+1)
def Qd5 (out:Int) (i:Nat):Int:=out
def QN1 (l:List Int):Int:=Qd5 ((Ql4 l 0 0).1) ((Ql4 l 0 0).2)
theorem ref09_Set_c (l:List Int) (hs0:l.length<=4294967296) (hp0:∀ y ∈ l,y<=100):GV 64 [ints l] (U (QN1 l)):=by
 generalize hR:QN1 l=R;refine gA (kp 5 [8,17]) Tryz.func64 ?_;have hk0:=hs0;obtain z5:l.length<=4294967296:=hs0;refine Qe0 (fun (out:Int) (i:Nat)=>Qd5 (Ql4 (List.drop i l) out i).1 (Ql4 (List.drop i l) out i).2=R∧i<=l.length) (fun out i=>l.length - i) (fun out i=>[(0,ints l),(2,U 0),(3,U out),(4,I (i:Int))]) (fun out i=>[]) 0 0 (wkA []) ⟨foll hR rfl,by exact omA⟩ ?_;clear hR;rintro out i ⟨hR,hj⟩;(try dsimp only at hR hj);refine ai (fun h1=>?_) (fun h2=>?_)
 ·have hlt:=ltA h1;rw [Qc0 0 hlt] at hR;have hgi:l.getD i 0<=100:=hp0 _ (by rw [List.getD_eq_getElem?_getD,List.getElem?_eq_getElem hlt];exact List.getElem_mem hlt);refine ai gkA ?_;refine us (Q17 out (l.getD i 0) _) ?_;refine ai (fun h3=>?_) (fun h4=>?_)
  ·refine ai gkA ?_;refine us (Qyf (l.getD i 0) ckA _) ?_;exact Q60 (wu64 (out+(QH5 (l.getD i 0)))) (i+1) (wkA []) omA ⟨foll hR (congrArg (fun p:Int × Nat=>Qd5 p.1 p.2) (ct h3 rfl)),by exact omA⟩
  ·exact Q60 out (i+1) (wkA []) omA ⟨foll hR (congrArg (fun p:Int × Nat=>Qd5 p.1 p.2) (cf h4 rfl)),by exact omA⟩
 ·rw [Qd0 (l:=l) (j:=i) (geA h2)] at hR;replace hR:Qd5 out i=R:=fo2 (fun p:Int × Nat=>Qd5 p.1 p.2) (out,i) hR rfl;exact lfA
def ref14_Same_g1 (a:Job) (b:Job):List Dep->Nat->Bool
 | [],_=>((((((((((((((a.id==b.id)&&(ByteArray.toList a.name==ByteArray.toList b.name))&&(ByteArray.toList a.user==ByteArray.toList b.user))&&(ByteArray.toList a.account==ByteArray.toList b.account))&&(a.prio==b.prio))&&(a.state==b.state))&&(a.held==b.held))&&(a.born==b.born))&&(a.promise==b.promise))&&(a.choice==b.choice))&&(a.start==b.start))&&(a.limit==b.limit))&&(a.nodes==b.nodes))&&(a.used==b.used))
 | x_ :: r,i=>bif (!((x_.how==(b.after.getD i Dep.zero).how)&&(x_.job==(b.after.getD i Dep.zero).job))) then false else ref14_Same_g1 a b r (i+1)
def Q58 (a:Job) (b:Job):Bool:=bif (((a.after.length:Int)!=(b.after.length:Int))||(!(Q07 a.shape b.shape))) then false else ref14_Same_g1 a b a.after 0
theorem QOd (a:Job) (b:Job) (hs0:a.sz) (hs1:b.sz):GV 115 [Job.a a,Job.a b] (Bo (Q58 a b)):=by
 generalize hR:Q58 a b=R;refine gA (kp 7 [21,26,39]) Tryz.func115 ?_;obtain ⟨z7,z8,z9,z10,z11⟩:=Job.zz hs0;obtain ⟨z12,z13,z14,z15,z16⟩:=Job.zz hs1;(first|apply u2|apply u3|apply u4|apply us);exact QKd a.shape b.shape szA szA _;refine ai (fun h1=>?_) (fun h2=>?_)
 ·exact lfA
 ·refine Qg0 (fun (i:Nat)=>ref14_Same_g1 a b (List.drop i a.after) i=R∧i<=a.after.length) (fun i=>a.after.length - i) (fun i=>[(2,AVal.ptr 0 0 20 0 0),(3,AVal.ptr 1 0 20 0 0),(4,Bo false),(5,I (i:Int))]) (fun i=>[(0,AObj.row 72 20 [[I a.id,Sg a.name,Sg a.user,Sg a.account,I a.shape.kind,altL a.shape.alts,I a.shape.min,I a.shape.max,I a.shape.wall,I a.prio,depL a.after,I a.state,Bo a.held,I a.born,I a.promise,I a.choice,I a.start,I a.limit,U a.nodes,I a.used]]),(0,AObj.row 72 20 [[I b.id,Sg b.name,Sg b.user,Sg b.account,I b.shape.kind,altL b.shape.alts,I b.shape.min,I b.shape.max,I b.shape.wall,I b.prio,depL b.after,I b.state,Bo b.held,I b.born,I b.promise,I b.choice,I b.start,I b.limit,U b.nodes,I b.used]])]) 0 (wkA [0,1]) ⟨folA,by exact omA⟩ ?_;clear hR;rintro i ⟨hR,hj⟩;(try dsimp only at hR hj);refine ai (fun h3=>?_) (fun h4=>?_)
  ·have hlt:=ltA h3;rw [Qc0 Dep.zero hlt] at hR;refine dchk (by kernel_rfl) ?_;refine ai gkA ?_;refine ai gkA ?_;refine ai (fun _=>(by kernel_rfl:eqOK _ _=true)) ?_;(repeat ((first|refine ai rfl ?_|refine ai (fun _=>rfl) ?_)));refine ai (fun h5=>?_) (fun h6=>?_)
   ·exact lfA
   ·exact Ql0 (i+1) (wkA [0,1]) omA ⟨folA,by exact omA⟩
  ·rw [Qd0 (l:=a.after) (j:=i) (geA h4)] at hR;exact lfA
end Go.Proofs.YtackngeeehiegaaGreatDoor
