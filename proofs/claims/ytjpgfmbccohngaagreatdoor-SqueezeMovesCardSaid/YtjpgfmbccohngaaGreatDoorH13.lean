/-
  Contracts of functions, printed by a program of this repo (wip/dec). No condition beyond those that stand in each.
-/
import Derived.Test.YtjpgfmbccohngaaGreatDoorH12
import Derived.Test.YtjpgfmbccohngaaGreatDoorProg
import Derived.Test.YtjpgfmbccohngaaGreatDoorH8
namespace Go.Proofs.YtjpgfmbccohngaaGreatDoor
set_option linter.unusedSimpArgs false
set_option linter.unusedVariables false
open Go.Fw
set_option maxRecDepth 20000
set_option maxHeartbeats 4000000
attribute [local irreducible] ACalls AMoves
def Qj5 (l:List Job):List Job->Nat->Int
 | [],_=>0
 | x_ :: r,i=>bif (((Q33 x_)!=0)||((decide ((i:Int) > 0))&&(decide ((l.getD (Int.toNat (w64 ((i:Int) - 1))) Job.zero).id >= x_.id)))) then 140 else Qj5 l r (i+1)
def Ql1 (l:List Job):Int:=bif (decide ((l.length:Int) > 40)) then 140 else Qj5 l l 0
theorem QX5 (l:List Job) (hs0:l.length<=4294967296∧(∀ y ∈ l,y.sz)):GV 35 [jobL l] (I (Ql1 l)):=by
 generalize hR:Ql1 l=R;refine ga (.cons lw .nil) lx (kp 5 [7,8,9,10,11,32]) Tryz.func35 ?_;obtain ⟨z12,z13⟩:=id hs0;refine ai (fun h1=>?_) (fun h2=>?_)
 ·have qh1:=of_decide_eq_true h1;obtain rfl:=foll hR (ct h1 rfl);exact Q00 lx sr
 ·have qh2:=of_decide_eq_false h2;refine Qf0 (fun (i:Nat)=>Qj5 l (List.drop i l) i=R∧i<=l.length) (fun i=>l.length - i) (fun i=>[(0,jobL l),(2,I 0),(8,jobL l),(9,I (l.length:Int)),(10,I (i:Int))]) (fun i=>[]) 0 (wk [] .nil (sl lw (s1 (sl lw (s1 (s1 .nil)))))) ⟨foll hR (cf h2 rfl),by exact omA⟩ ?_;clear hR;rintro i ⟨hR,hj⟩;(try dsimp only at hR hj);refine ai (fun h3=>?_) (fun h4=>?_)
  ·have hlt:=ltA h3;rw [Q90 Job.zero hlt] at hR;have hxz:(l.getD i Job.zero).sz:=Q72 (by first|assumption|grind) (Job.szz _);have hkz:=hxz;obtain ⟨z5,z6,z7,z8,z9⟩:=Job.zz hxz;refine ai gkA ?_;refine dchk (by kernel_rfl) ?_;(first|apply u2|apply u3|apply u4|apply us);exact Qq9 (l.getD i Job.zero) szA _;refine ai gkA ?_;(repeat ((first|refine ai rfl ?_|refine ai (fun _=>rfl) ?_|refine ai (fun _=>Qq9 (l.getD i Job.zero) szA _) ?_)));refine ai (fun h10=>?_) (fun h11=>?_)
   ·obtain rfl:=foll hR (ct h10 rfl);exact Q00 lx sr
   ·exact Qj0 (i+1) (wk [] .nil (sl lw (s1 (sl lw (s1 (sv (Q70 (I_eq (wr omA)) lx) .nil)))))) omA ⟨foll hR (cf h11 rfl),by exact omA⟩
  ·rw [Qa0 (l:=l) (j:=i) (geA h4)] at hR;obtain rfl:=foll hR rfl;exact Q00 lx sr
def Qn0 (j:Job):Int × Int × Int × Bool:=bif ((((Q33 j)!=0)||(j.state != 1))||(decide (j.promise<0))) then (0,0,0,false) else (j.promise,(w64 (((QH0 j.shape).getD (Int.toNat j.choice) Alt.zero).wall+12)),((QH0 j.shape).getD (Int.toNat j.choice) Alt.zero).nodes,true)
theorem Qna (j:Job) (hs0:j.sz):GV 38 [Job.a j] (AVal.tup [I ((Qn0 j).1),I ((Qn0 j).2.1),I ((Qn0 j).2.2.1),Bo ((Qn0 j).2.2.2)]):=by
 generalize hR:Qn0 j=R;refine ga (.cons (Job.low _ _) .nil) (Low.tup' (l1 (l1 (l1 (l1 .nil))))) (kp 7 [19]) Tryz.func38 ?_;obtain ⟨z3,z4,z5,z6,z7⟩:=Job.zz hs0;refine us (Qq9 j szA _) ?_;refine ai (fun h1=>?_) (fun h2=>?_)
 ·obtain rfl:=foll hR (ct h1 rfl);exact Q00 (Low.tup' (l1 (l1 (l1 (l1 .nil))))) (Seen.tup (e1 (e1 (e1 (e1 .nil)))))
 ·refine dchk (by kernel_rfl) ?_;(first|apply u2|apply u3|apply u4|apply us);exact QD4 j.shape szA _;refine And.intro (by first|exact fun hg=>decide_eq_true (by first|((have q:=Q2e (by assumption);omega))|exact ckA)|exact gkA) ?_;(repeat ((first|refine ai rfl ?_|refine ai (fun _=>rfl) ?_|refine ai (fun _=>QD4 j.shape szA _) ?_)));(try (refine dchk (by kernel_rfl) ?_));(repeat ((first|refine ai rfl ?_|refine ai (fun _=>rfl) ?_)));obtain rfl:=foll hR (cf h2 rfl);exact Q00 (Low.tup' (l1 (l1 (l1 (l1 .nil))))) (Seen.tup (e1 (e1 (e1 (e1 .nil)))))
def Qa4 (j:Job) (at_:Int) (choice:Int):Job × Int:=bif ((Q33 j)!=0) then (Job.zero,(Q33 j)) else bif ((j.state != 1)||j.held) then (Job.zero,141) else bif ((!(Q41 j choice).2)||(!(QZ3 at_))) then (Job.zero,2) else ({ j with promise:=at_,choice:=choice },0)
theorem job_Promise_c (j:Job) (at_:Int) (choice:Int) (hs0:j.sz):GV 62 [Job.a j,I at_,I choice] (AVal.tup [Job.a ((Qa4 j at_ choice).1),I ((Qa4 j at_ choice).2)]):=by
 generalize hR:Qa4 j at_ choice=R;refine ga (.cons (Job.low _ _) (l1 (l1 .nil))) (Low.tup' (.cons (Job.low _ _) (l1 .nil))) (kp 9 []) Tryz.func62 ?_;obtain ⟨z7,z8,z9,z10,z11⟩:=Job.zz hs0;refine ACalls.of_cwp (fun _=>true) Tryz.func134 rfl rfl ?_;refine us (Qq9 j szA _) ?_;refine ai (fun h1=>?_) (fun h2=>?_)
 ·refine ⟨_,_,Told.refl,?_⟩;obtain rfl:=foll hR (ct h1 rfl);exact Q00 (Low.tup' (.cons (Job.low _ _) (l1 .nil))) (Seen.tup (ev (Seen.agg (e1 (e1 (e1 (e1 (e1 (ev (Qq0) (e1 (e1 (e1 (e1 (ev (Qq0) (e1 (e1 (e1 (e1 (e1 (e1 (e1 (e1 (e1 .nil))))))))))))))))))))) (e1 .nil)))
 ·refine ACalls.of_cwp (fun _=>true) Tryz.func132 rfl rfl ?_;refine ai (fun h3=>?_) (fun h4=>?_)
  ·refine ⟨_,_,Told.refl,?_⟩;refine ai (fun _=>?_) (fun h=>nomatch h);refine ⟨_,_,Told.refl,?_⟩;obtain rfl:=foll hR (cf h2 (ct h3 rfl));exact Q00 (Low.tup' (.cons (Job.low _ _) (l1 .nil))) (Seen.tup (ev (Seen.agg (e1 (e1 (e1 (e1 (e1 (ev (Qq0) (e1 (e1 (e1 (e1 (ev (Qq0) (e1 (e1 (e1 (e1 (e1 (e1 (e1 (e1 (e1 .nil))))))))))))))))))))) (e1 .nil)))
  ·refine us (QZ6 j choice szA _) ?_;(first|apply u2|apply u3|apply u4|apply us);exact QK5 at_ _;refine ai (fun h5=>?_) (fun h6=>?_)
   ·refine ⟨_,_,Told.refl,?_⟩;refine ai (fun _=>?_) (fun h=>nomatch h);refine ⟨_,_,Told.refl,?_⟩;obtain rfl:=foll hR (cf h2 (cf h4 (ct h5 rfl)));exact Q00 (Low.tup' (.cons (Job.low _ _) (l1 .nil))) (Seen.tup (ev (Seen.agg (e1 (e1 (e1 (e1 (e1 (ev (Qq0) (e1 (e1 (e1 (e1 (ev (Qq0) (e1 (e1 (e1 (e1 (e1 (e1 (e1 (e1 (e1 .nil))))))))))))))))))))) (e1 .nil)))
   ·refine ⟨_,_,Told.refl,?_⟩;refine ai (fun h=>nomatch h) (fun _=>?_);refine us (job_copied_c j szA _) ?_;refine ACalls.of_cwp (fun _=>true) Tryz.func135 rfl rfl ?_;refine dchk (by kernel_rfl) ?_;(repeat ((first|refine ai rfl ?_|refine ai (fun _=>rfl) ?_)));refine ⟨_,_,Told.refl,?_⟩;refine ⟨_,_,Told.refl,?_⟩;obtain rfl:=foll hR (cf h2 (cf h4 (cf h6 rfl)));exact Q00 (Low.tup' (.cons (Job.low _ _) (l1 .nil))) (Seen.tup (e1 (e1 .nil)))
theorem QWa {j:Job} (a c:Int) (h:j.sz):(Qa4 j a c).1.sz:=by
 unfold Qa4
 repeat' first|exact Job.szz _|exact h|(rw [Bool.cond_eq_ite];split)
def QM3 (s:State):Int:=bif ((((!(QL0 s.now))||((Qf8 s.nodes)!=0))||((Qt1 s.jobs)!=0))||((Qq6 s.books)!=0)) then 141 else 0
theorem ref20_Check_c (s:State) (hs0:s.sz):GV 112 [State.a s] (I (QM3 s)):=by
 generalize hR:QM3 s=R;refine ga (.cons (State.low _ _) .nil) lx (kp 3 [24]) Tryz.func112 ?_;have hk0:=hs0;obtain ⟨z3,z4,z5,z6,z7,z8,z9⟩:=hs0;refine us (Q44 s.now _) ?_;(first|apply u2|apply u3|apply u4|apply us);exact ref12_Check_c s.nodes szA _;(first|apply u2|apply u3|apply u4|apply us);exact QC9 s.jobs szA _;(first|apply u2|apply u3|apply u4|apply us);exact ref19_Check_c s.books szA _;refine ai (fun h1=>?_) (fun h2=>?_)
 ·obtain rfl:=foll hR (ct h1 rfl);exact Q00 lx sr
 ·obtain rfl:=foll hR (cf h2 rfl);exact Q00 lx sr
theorem QC7 {s:State} (h:((QM3 s)!=0)=false):((Qt1 s.jobs)!=0)=false:=by
 simp only [QM3] at h
 revert h
 cases ((Qt1 s.jobs)!=0) with
 | true=>simp
 | false=>intro _;rfl
def Qf5 (x_:Job):List Int->Bool->Nat->Bool × Nat
 | [],meant,k=>(meant,k)
 | x_1 :: r,meant,k=>Qf5 x_ r (meant||(x_1==x_.id)) (k+1)
def Qh2 (l:List Usage) (out:List Job) (x_:Job):Nat->Nat->Nat
 | 0,_=>0
 | m+1,n=>bif ((decide ((n:Int)<(out.length:Int)))&&(QS4 l (out.getD n Job.zero) x_)) then Qh2 l out x_ m (n+1) else n
def Qw0 (l:List Usage) (ids:List Int):List Job->List Job->Nat->(List Job) × Nat
 | [],out,i=>(out,i)
 | x_ :: r,out,i=>(fun p1:Bool × Nat=>bif (!p1.1) then Qw0 l ids r out (i+1) else (fun p2:Nat=>Qw0 l ids r (((List.take p2 out)++([x_]:List Job))++(List.drop p2 out)) (i+1)) (Qh2 l out x_ ((Int.toNat ((out.length:Int) - (0:Int)))+1) 0)) (Qf5 x_ ids false 0)
def Qi2 :List Job->List Int->Nat->(List Int) × Nat
 | [],told,i1=>(told,i1)
 | x_2 :: r,told,i1=>Qi2 r (told++([x_2.id]:List Int)) (i1+1)
def Qk4 (told:List Int) (i1:Nat):(List Int):=told
def Q01 (out:List Job) (i:Nat):(List Int):=Qk4 ((Qi2 out [] 0).1) ((Qi2 out [] 0).2)
def Qk0 (jobs:List Job) (l:List Usage) (ids:List Int):(List Int):=bif ((Qt1 jobs)!=0) then [] else Q01 ((Qw0 l ids jobs [] 0).1) ((Qw0 l ids jobs [] 0).2)
theorem ord_mem {out:List Job} {x:Job} {k:Nat} (h:∀ y ∈ out,y.sz) (hx:x.sz):∀ y ∈ (List.take k out++([x]:List Job))++List.drop k out,y.sz:=by
 intro y hy
 rcases List.mem_append.1 hy with hy|hy
 ·rcases List.mem_append.1 hy with hy|hy
  ·exact h y (List.mem_of_mem_take hy)
  ·exact List.mem_singleton.1 hy ▸ hx
 ·exact h y (List.mem_of_mem_drop hy)
theorem b11a0 {P:Prop} (h:P:=by first|((exact ⟨fun y hy=>ord_mem hox hkz y hy,by simp;omega⟩))|first|((exact ⟨hox,by omega⟩))|first|((exact ⟨fun _ h=>absurd h List.not_mem_nil,by simp⟩))|exact exA):P:=h
theorem QP7 (jobs:List Job) (l:List Usage) (ids:List Int) (hs0:jobs.length<=4294967296∧(∀ y ∈ jobs,y.sz)) (hs1:l.length<=4294967296∧(∀ y ∈ l,y.sz)) (hs2:ids.length<=4294967296):GV 85 [jobL jobs,QU2 l,ints ids] (ints (Qk0 jobs l ids)):=by
 generalize hR:Qk0 jobs l ids=R;refine ga (.cons lw (.cons lw (.cons lw .nil))) lw (kp 14 [16,20,26,43,59,80]) Tryz.func85 ?_;obtain ⟨z23,z24⟩:=id hs0;obtain ⟨z25,z26⟩:=id hs1;have hk2:=hs2;obtain z27:ids.length<=4294967296:=hs2;refine us (QC9 jobs szA _) ?_;refine ai (fun h1=>?_) (fun h2=>?_)
 ·obtain rfl:=foll hR (ct h1 rfl);exact Q00 lw (Qq0)
 ·refine Qg0 (fun (out:List Job) (i:Nat)=>Q01 (Qw0 l ids (List.drop i jobs) out i).1 (Qw0 l ids (List.drop i jobs) out i).2=R∧i<=jobs.length∧((∀ y ∈ out,y.sz)∧out.length<=i)) (fun out i=>jobs.length - i) (fun out i=>[(0,jobL jobs),(1,QU2 l),(2,ints ids),(6,AVal.lit (.slice none 0 0)),(7,jobL out),(8,I (i:Int))]) (fun out i=>[]) [] 0 (wk [] .nil (sl lw (sl lw (sl lw (s1 (sv (turn_nil) (s1 .nil))))))) ⟨foll hR (cf h2 rfl),by exact omA,b11a0⟩ ?_;clear hR;rintro out i ⟨hR,hj,hx⟩;(try dsimp only at hR hj hx);refine ai (fun h3=>?_) (fun h4=>?_)
  ·have hlt:=ltA h3;rw [Q90 Job.zero hlt] at hR;have hox:=hx.1;have hol:=hx.2;have hxz:(jobs.getD i Job.zero).sz:=Q72 (by first|assumption|grind) (Job.szz _);have hkz:=hxz;obtain ⟨z5,z6,z7,z8,z9⟩:=Job.zz hxz;refine Qg0 (fun (meant:Bool) (k:Nat)=>(fun z=>(fun p:(List Job) × Nat=>Q01 p.1 p.2) ((fun p1:Bool × Nat=>bif (!p1.1) then Qw0 l ids (List.drop (i+1) jobs) out (i+1) else (fun p2:Nat=>Qw0 l ids (List.drop (i+1) jobs) (((List.take p2 out)++([(jobs.getD i Job.zero)]:List Job))++(List.drop p2 out)) (i+1)) (Qh2 l out (jobs.getD i Job.zero) ((Int.toNat ((out.length:Int) - (0:Int)))+1) 0)) z)) (Qf5 (jobs.getD i Job.zero) (List.drop k ids) meant k)=R∧k<=ids.length) (fun meant k=>ids.length - k) (fun meant k=>[(0,jobL jobs),(1,QU2 l),(2,ints ids),(6,AVal.lit (.slice none 0 0)),(7,jobL out),(8,I (i:Int)),(9,Bo meant),(10,I (k:Int)),(20,Bo (decide ((i:Int)<(jobs.length:Int))))]) (fun meant k=>[]) false 0 (wk [] .nil (sl lw (sl lw (sl lw (s1 (sl lw (s1 (s1 (s1 (s1 .nil)))))))))) ⟨foll hR (congrArg (fun p:(List Job) × Nat=>Q01 p.1 p.2) rfl),by exact omA⟩ ?_;clear hR;rintro meant k ⟨hR,hj⟩;(try dsimp only at hR hj);refine ai (fun h10=>?_) (fun h11=>?_)
   ·have hlt:=ltA h10;rw [Q90 0 hlt] at hR;refine dchk (by kernel_rfl) ?_;refine ai gkA ?_;refine ai gkA ?_;(repeat ((first|refine ai rfl ?_|refine ai (fun _=>rfl) ?_)));exact Q80 (meant||((ids.getD k 0)==(jobs.getD i Job.zero).id)) (k+1) (wk [] .nil (sl lw (sl lw (sl lw (s1 (sl lw (s1 (s1 (sv (Q70 (I_eq (wr omA)) lx) (s1 .nil)))))))))) omA ⟨foll hR (congrArg (fun z=>(fun p:(List Job) × Nat=>Q01 p.1 p.2) ((fun p1:Bool × Nat=>bif (!p1.1) then Qw0 l ids (List.drop (i+1) jobs) out (i+1) else (fun p2:Nat=>Qw0 l ids (List.drop (i+1) jobs) (((List.take p2 out)++([(jobs.getD i Job.zero)]:List Job))++(List.drop p2 out)) (i+1)) (Qh2 l out (jobs.getD i Job.zero) ((Int.toNat ((out.length:Int) - (0:Int)))+1) 0)) z)) rfl),by exact omA⟩
   ·rw [Qa0 (l:=ids) (j:=k) (geA h11)] at hR;replace hR:(fun z=>(fun p:(List Job) × Nat=>Q01 p.1 p.2) ((fun p1:Bool × Nat=>bif (!p1.1) then Qw0 l ids (List.drop (i+1) jobs) out (i+1) else (fun p2:Nat=>Qw0 l ids (List.drop (i+1) jobs) (((List.take p2 out)++([(jobs.getD i Job.zero)]:List Job))++(List.drop p2 out)) (i+1)) (Qh2 l out (jobs.getD i Job.zero) ((Int.toNat ((out.length:Int) - (0:Int)))+1) 0)) z)) (meant,k)=R:=foll hR (congrArg (fun z=>(fun p:(List Job) × Nat=>Q01 p.1 p.2) ((fun p1:Bool × Nat=>bif (!p1.1) then Qw0 l ids (List.drop (i+1) jobs) out (i+1) else (fun p2:Nat=>Qw0 l ids (List.drop (i+1) jobs) (((List.take p2 out)++([(jobs.getD i Job.zero)]:List Job))++(List.drop p2 out)) (i+1)) (Qh2 l out (jobs.getD i Job.zero) ((Int.toNat ((out.length:Int) - (0:Int)))+1) 0)) z)) rfl);refine ai (fun h12=>?_) (fun h13=>?_)
    ·exact Q80 out (i+1) (wk [] .nil (sl lw (sl lw (sl lw (s1 (sl lw (sv (Q70 (I_eq (wr omA)) lx) .nil))))))) omA ⟨foll hR (congrArg (fun p:(List Job) × Nat=>Q01 p.1 p.2) (ct h12 rfl)),by exact omA,b11a0⟩
    ·refine Qf0 (fun (n:Nat)=>∃ m,(Int.toNat ((out.length:Int) - (n:Int)))<m∧(fun z=>(fun p:(List Job) × Nat=>Q01 p.1 p.2) ((fun p2:Nat=>Qw0 l ids (List.drop (i+1) jobs) (((List.take p2 out)++([(jobs.getD i Job.zero)]:List Job))++(List.drop p2 out)) (i+1)) z)) (Qh2 l out (jobs.getD i Job.zero) m n)=R∧(n:Int)<=(out.length:Int)) (fun n=>(Int.toNat ((out.length:Int) - (n:Int)))) (fun n=>[(0,jobL jobs),(1,QU2 l),(2,ints ids),(6,AVal.lit (.slice none 0 0)),(7,jobL out),(8,I (i:Int)),(9,Bo meant),(10,I (k:Int)),(11,I (n:Int)),(20,Bo (decide ((i:Int)<(jobs.length:Int)))),(43,Bo (!meant))]) (fun n=>[]) 0 (wk [] .nil (sl lw (sl lw (sl lw (s1 (sl lw (s1 (s1 (s1 (s1 (s1 (s1 .nil)))))))))))) ⟨_,Nat.lt_succ_self _,foll hR (congrArg (fun p:(List Job) × Nat=>Q01 p.1 p.2) (cf h13 rfl)),b11a0⟩ ?_;clear hR;rintro n ⟨m,hm,hR,hx⟩;(try dsimp only at hR hm hx);obtain ⟨m,rfl⟩:=sucA m;refine dchk (by kernel_rfl) ?_;refine ai gkA ?_;refine ai gkA ?_;(first|apply u2|apply u3|apply u4|apply us);exact Qjc l (out.getD n Job.zero) (jobs.getD i Job.zero) szA szA szA _;(repeat ((first|refine ai rfl ?_|refine ai (fun _=>rfl) ?_|refine ai (fun _=>Qjc l (out.getD n Job.zero) (jobs.getD i Job.zero) szA szA szA _) ?_)));refine ai (fun h14=>?_) (fun h15=>?_)
     ·exact Qj0 (n+1) (wk [] .nil (sl lw (sl lw (sl lw (s1 (sl lw (s1 (s1 (s1 (sv (Q70 (I_eq (wr omA)) lx) (s1 (s1 .nil)))))))))))) omA ⟨m,by exact omA,foll hR (congrArg (fun z=>(fun p:(List Job) × Nat=>Q01 p.1 p.2) ((fun p2:Nat=>Qw0 l ids (List.drop (i+1) jobs) (((List.take p2 out)++([(jobs.getD i Job.zero)]:List Job))++(List.drop p2 out)) (i+1)) z)) (ct h14 rfl)),b11a0⟩
     ·replace hR:(fun z=>(fun p:(List Job) × Nat=>Q01 p.1 p.2) ((fun p2:Nat=>Qw0 l ids (List.drop (i+1) jobs) (((List.take p2 out)++([(jobs.getD i Job.zero)]:List Job))++(List.drop p2 out)) (i+1)) z)) n=R:=foll hR (congrArg (fun z=>(fun p:(List Job) × Nat=>Q01 p.1 p.2) ((fun p2:Nat=>Qw0 l ids (List.drop (i+1) jobs) (((List.take p2 out)++([(jobs.getD i Job.zero)]:List Job))++(List.drop p2 out)) (i+1)) z)) (cf h15 rfl));refine dchk (by kernel_rfl) ?_;refine ai gkA ?_;(first|refine ⟨QK1 216 rfl lnA apA,?_⟩|refine ⟨QR0 216 rfl apA,?_⟩);refine ai gkA ?_;(first|refine ⟨QK1 216 rfl lnA apA,?_⟩|refine ⟨QR0 216 rfl apA,?_⟩);refine ai gkA ?_;(first|refine ⟨QK1 216 rfl lnA apA,?_⟩|refine ⟨QR0 216 rfl apA,?_⟩);(repeat ((first|refine ai rfl ?_|refine ai (fun _=>rfl) ?_)));exact Q80 (((List.take n out)++([(jobs.getD i Job.zero)]:List Job))++(List.drop n out)) (i+1) (wk [] .nil (sl lw (sl lw (sl lw (s1 (sv (QLa _ _ rfl (Nat.zero_le _) (by decide) eqA (fun _=>Job.lowc _ _) lnA) (sv (Q70 (I_eq (wr omA)) lx) .nil))))))) omA ⟨foll hR (congrArg (fun p:(List Job) × Nat=>Q01 p.1 p.2) rfl),by exact omA,b11a0⟩
  ·rw [Qa0 (l:=jobs) (j:=i) (geA h4)] at hR;replace hR:Q01 out i=R:=fo2 (fun p:(List Job) × Nat=>Q01 p.1 p.2) (out,i) hR rfl;refine Qg0 (fun (told:List Int) (i1:Nat)=>Qk4 (Qi2 (List.drop i1 out) told i1).1 (Qi2 (List.drop i1 out) told i1).2=R∧i1<=out.length∧told.length<=i1) (fun told i1=>out.length - i1) (fun told i1=>[(6,AVal.lit (.slice none 0 0)),(7,jobL out),(12,AVal.own 0 0 1 0 told.length),(13,I (i1:Int))]) (fun told i1=>[(0,AObj.row 3 1 (told.map (fun q_=>[I q_])))]) [] 0 ((Qh1 3 1).trans (wk [0] (tO rfl (tl eqA) .nil) (s1 (sl lw (sv (QV0 0 rfl) (s1 .nil)))))) ⟨foll hR rfl,by exact omA,b11a0⟩ ?_;clear hR;rintro told i1 ⟨hR,hj,hx⟩;(try dsimp only at hR hj hx);refine ai (fun h16=>?_) (fun h17=>?_)
   ·have hlt:=ltA h16;rw [Q90 Job.zero hlt] at hR;have hxz:(out.getD i1 Job.zero).sz:=Q72 (by first|assumption|grind) (Job.szz _);have hkz:=hxz;obtain ⟨z18,z19,z20,z21,z22⟩:=Job.zz hxz;refine ai gkA ?_;refine Or.inl ?_;(first|refine ⟨QK1 8 rfl lnA apA,?_⟩|refine ⟨QR0 8 rfl apA,?_⟩);exact Q80 (told++([(out.getD i1 Job.zero).id]:List Int)) (i1+1) (wk [0] (tO rfl (tl eqA) .nil) (s1 (sl lw (sv (to 0 lnA) (sv (Q70 (I_eq (wr omA)) lx) .nil))))) omA ⟨foll hR (congrArg (fun p:(List Int) × Nat=>Qk4 p.1 p.2) rfl),by exact omA,b11a0⟩
   ·rw [Qa0 (l:=out) (j:=i1) (geA h17)] at hR;replace hR:Qk4 told i1=R:=fo2 (fun p:(List Int) × Nat=>Qk4 p.1 p.2) (told,i1) hR rfl;obtain rfl:=foll hR rfl;exact Q00 lw (QT0 0 _ rfl eqA lnA)
theorem Qw8 (l:List Usage) (ids:List Int):∀ (r out:List Job) (i:Nat),(Qw0 l ids r out i).1.length<=out.length+r.length
 | [],out,i=>by simp [Qw0]
 | x :: r,out,i=>by
  have h1:=fun o'=>Qw8 l ids r o' (i+1)
  rw [Qw0]
  dsimp only
  rw [Bool.cond_eq_ite]
  split
  ·exact Nat.le_trans (h1 _) (by simp only [List.length_cons];omega)
  ·exact Nat.le_trans (h1 _) (by simp only [List.length_cons,List.length_append,List.length_take,List.length_drop,List.length_nil];omega)
theorem Qx8:∀ (l:List Job) (out:List Int) (i:Nat),(Qi2 l out i).1.length=out.length+l.length
 | [],out,i=>by simp [Qi2]
 | x :: r,out,i=>by rw [Qi2,Qx8 r];simp;omega
theorem QP6 (jobs:List Job) (l:List Usage) (ids:List Int):(Qk0 jobs l ids).length<=jobs.length:=by
 unfold Qk0 Q01 Qk4
 cases ((Qt1 jobs)!=0) with
 | true=>simp
 | false =>
  have h:=Qw8 l ids jobs [] 0
  simp only [cond_false]
  rw [Qx8]
  simpa using h
def QY0 (l:List Job):List Job->List Int->Nat->(List Int) × Nat
 | [],out,i=>(out,i)
 | x_ :: r,out,i=>bif (((x_.state==1)&&(!x_.held))&&(Q89 l x_)) then QY0 l r (out++([x_.id]:List Int)) (i+1) else QY0 l r out (i+1)
def QE3 (out:List Int) (i:Nat):(List Int):=out
def Q60 (l:List Job):(List Int):=bif ((Qt1 l)!=0) then [] else QE3 ((QY0 l l [] 0).1) ((QY0 l l [] 0).2)
theorem Qf6 (l:List Job) (hs0:l.length<=4294967296∧(∀ y ∈ l,y.sz)):GV 86 [jobL l] (ints (Q60 l)):=by
 generalize hR:Q60 l=R;refine ga (.cons lw .nil) lw (kp 5 [7,11,35]) Tryz.func86 ?_;obtain ⟨z12,z13⟩:=id hs0;refine us (QC9 l szA _) ?_;refine ai (fun h1=>?_) (fun h2=>?_)
 ·obtain rfl:=foll hR (ct h1 rfl);exact Q00 lw (Qq0)
 ·refine Qg0 (fun (out:List Int) (i:Nat)=>QE3 (QY0 l (List.drop i l) out i).1 (QY0 l (List.drop i l) out i).2=R∧i<=l.length∧out.length<=i) (fun out i=>l.length - i) (fun out i=>[(0,jobL l),(2,AVal.lit (.slice none 0 0)),(3,AVal.own 0 0 1 0 out.length),(4,I (i:Int))]) (fun out i=>[(0,AObj.row 3 1 (out.map (fun q_=>[I q_])))]) [] 0 ((Qh1 3 1).trans (wk [0] (tO rfl (tl eqA) .nil) (sl lw (s1 (sv (QV0 0 rfl) (s1 .nil)))))) ⟨foll hR (cf h2 rfl),by exact omA,by exact exA⟩ ?_;clear hR;rintro out i ⟨hR,hj,hx⟩;(try dsimp only at hR hj hx);refine ai (fun h3=>?_) (fun h4=>?_)
  ·have hlt:=ltA h3;rw [Q90 Job.zero hlt] at hR;have hxz:(l.getD i Job.zero).sz:=Q72 (by first|assumption|grind) (Job.szz _);have hkz:=hxz;obtain ⟨z5,z6,z7,z8,z9⟩:=Job.zz hxz;refine ai gkA ?_;refine ai gkA ?_;refine ai gkA ?_;(first|apply u2|apply u3|apply u4|apply us);exact ref16_all_c l (l.getD i Job.zero) szA szA _;refine ai (fun h10=>?_) (fun h11=>?_)
   ·refine ai gkA ?_;refine Or.inl ?_;(first|refine ⟨QK1 8 rfl lnA apA,?_⟩|refine ⟨QR0 8 rfl apA,?_⟩);exact Q80 (out++([(l.getD i Job.zero).id]:List Int)) (i+1) (wk [0] (tO rfl (tl eqA) .nil) (sl lw (s1 (sv (to 0 lnA) (sv (Q70 (I_eq (wr omA)) lx) .nil))))) omA ⟨foll hR (congrArg (fun p:(List Int) × Nat=>QE3 p.1 p.2) (ct h10 rfl)),by exact omA,by exact exA⟩
   ·exact Q80 out (i+1) (wk [0] (tO rfl (tl eqA) .nil) (sl lw (s1 (sv (to 0 lnA) (sv (Q70 (I_eq (wr omA)) lx) .nil))))) omA ⟨foll hR (congrArg (fun p:(List Int) × Nat=>QE3 p.1 p.2) (cf h11 rfl)),by exact omA,by exact exA⟩
  ·rw [Qa0 (l:=l) (j:=i) (geA h4)] at hR;replace hR:QE3 out i=R:=fo2 (fun p:(List Int) × Nat=>QE3 p.1 p.2) (out,i) hR rfl;obtain rfl:=foll hR rfl;exact Q00 lw (QT0 0 _ rfl eqA lnA)
theorem Qy5 (l:List Job):∀ (r:List Job) (out:List Int) (i:Nat),(QY0 l r out i).1.length<=out.length+r.length
 | [],out,i=>by simp [QY0]
 | x :: r,out,i=>by
  have h1:=Qy5 l r out (i+1)
  have h2:=Qy5 l r (out++([x.id]:List Int)) (i+1)
  rw [QY0,Bool.cond_eq_ite]
  simp only [List.length_append,List.length_cons,List.length_nil] at *
  split <;> omega
theorem Qv8 (l:List Job):(Q60 l).length<=l.length:=by
 unfold Q60
 cases ((Qt1 l)!=0) with
 | true=>simp
 | false=>have h:=Qy5 l l [] 0;rw [List.length_nil,Nat.zero_add] at h;exact h
end Go.Proofs.YtjpgfmbccohngaaGreatDoor
namespace Go.Proofs.YtjpgfmbccohngaaGreatDoor
set_option linter.unusedSimpArgs false
set_option linter.unusedVariables false
open Go.Fw
set_option maxRecDepth 20000
set_option maxHeartbeats 4000000
attribute [local irreducible] ACalls AMoves
def QR1 (s:State):Int:=bif (((((decide (s.now<0))||(decide (s.now > 1000000)))||((QQ2 s.nodes)!=0))||((Ql1 s.jobs)!=0))||((QW6 s.books)!=0)) then 141 else 0
theorem QSd (s:State) (hs0:s.sz):GV 58 [State.a s] (I (QR1 s)):=by
 generalize hR:QR1 s=R;refine ga (.cons (State.low _ _) .nil) lx (kp 3 [28]) Tryz.func58 ?_;have hk0:=hs0;obtain ⟨z3,z4,z5,z6,z7,z8,z9⟩:=hs0;(first|apply u2|apply u3|apply u4|apply us);exact QPb s.nodes szA _;(first|apply u2|apply u3|apply u4|apply us);exact QX5 s.jobs szA _;(first|apply u2|apply u3|apply u4|apply us);exact book_Check_c s.books szA _;refine ai (fun h1=>?_) (fun h2=>?_)
 ·obtain rfl:=foll hR (ct h1 rfl);exact Q00 lx sr
 ·obtain rfl:=foll hR (cf h2 rfl);exact Q00 lx sr
theorem Qg6 {s:State} (h:((QR1 s)!=0)=false):1<=s.nodes.length∧s.nodes.length<=48:=by
 have hf:QQ2 s.nodes=0:=by
  simp only [QR1] at h
  revert h
  cases h2:(QQ2 s.nodes != 0) with
  | true=>simp
  | false=>intro _;simpa using h2
 simp only [QQ2] at hf
 revert hf
 cases h2:((decide ((s.nodes.length:Int)<1))||(decide ((s.nodes.length:Int) > 48))) with
 | true=>simp
 | false=>intro _;simp at h2;omega
theorem busy_ne {order:List Int} {i:Nat} {c:List (Int × Int)} {k:Int} (h:order ≠ []∨(i=0∧c=[])) (hg:(((getM k c).getD 0)==0)=false):order ≠ []:=by
 rcases h with h|⟨_,rfl⟩
 ·exact h
 ·simp [getM] at hg
theorem busy_order {s:State} {order:List Int} {i:Nat} {c:List (Int × Int)} (h:((QR1 s)!=0)=false) (ho:order ≠ []∨(i=0∧c=[])) (hi:decide ((i:Int)<(s.nodes.length:Int))=false):order ≠ []:=by
 rcases ho with ho|⟨rfl,_⟩
 ·exact ho
 ·have:=(Qg6 h).1
  have:=of_decide_eq_false hi
  omega
def Qc1 :List Job->Nat->List (Int × Int)->(List (Int × Int))
 | [],_,c=>c
 | x_1 :: r,i1,c=>Qc1 r (i1+1) (setM x_1.id x_1.state c)
def Qk2 (c:List (Int × Int)):List Job->List Int->Nat->(List Int)
 | [],out,_=>out
 | x_2 :: r,out,i2=>bif (((false||(x_2.state != 1))||x_2.held)||(!(QD6 c x_2))) then Qk2 c r out (i2+1) else Qk2 c r (out++([x_2.id]:List Int)) (i2+1)
def QO3 (out:List Int):(List Int):=out
def QZ4 (l:List Job) (c:List (Int × Int)):(List Int):=QO3 (Qk2 c l [] 0)
def QX0 (l:List Job):(List Int):=bif ((Ql1 l)!=0) then [] else QZ4 l (Qc1 l 0 [])
theorem QX9 (l:List Job) (hs0:l.length<=4294967296∧(∀ y ∈ l,y.sz)):GV 20 [jobL l] (ints (QX0 l)):=by
 generalize hR:QX0 l=R;refine ga (.cons lw .nil) lw (kp 7 [9,10,11,12,31]) Tryz.func20 ?_;obtain ⟨z26,z27⟩:=id hs0;refine ACalls.of_cwp (fun _=>true) Tryz.func67 rfl rfl ?_;refine us (QX5 l szA _) ?_;refine ai (fun h1=>?_) (fun h2=>?_)
 ·refine ⟨_,_,Told.refl,?_⟩;refine Qf0 (fun (i:Nat)=>True∧i<=l.length) (fun i=>l.length - i) (fun i=>[(2,AVal.lit (.slice none 0 0)),(3,AVal.lit (.map none)),(4,AVal.lit (.slice none 0 0)),(9,jobL l),(10,I (l.length:Int)),(11,I (i:Int))]) (fun i=>[]) 0 (wk [] .nil (s1 (s1 (s1 (sl lw (s1 (s1 .nil))))))) ⟨trivial,by exact omA⟩ ?_;have hR0:=hR;rintro i ⟨hR,hj⟩;(try dsimp only at hR hj);refine ai (fun h3=>?_) (fun h4=>?_)
  ·have hlt:=ltA h3;have hxz:(l.getD i Job.zero).sz:=Q72 (by first|assumption|grind) (Job.szz _);have hkz:=hxz;obtain ⟨z5,z6,z7,z8,z9⟩:=Job.zz hxz;refine ai gkA ?_;(first|refine ⟨Bo false,_,fun h=>absurd h (by decide),fun _=>rfl,?_⟩|refine ⟨Bo false,fun h=>absurd h (by decide),?_⟩|refine ⟨Bo false,_,fun h=>absurd h (by simp),fun _=>rfl,?_⟩|refine ⟨Bo false,fun h=>absurd h (by simp),?_⟩);refine ai (fun _=>?_) (fun h=>nomatch h);exact Qj0 (i+1) (wk [] .nil (s1 (s1 (s1 (sl lw (s1 (sv (Q70 (I_eq (wr omA)) lx) .nil))))))) omA ⟨hR,by exact omA⟩
  ·skip;have hR:=hR0;obtain rfl:=foll hR (ct h1 rfl);exact Q00 lw (Qq0)
 ·refine Qg0 (fun (i1:Nat) (c:List (Int × Int))=>QZ4 l (Qc1 (List.drop i1 l) i1 c)=R∧i1<=l.length) (fun i1 c=>l.length - i1) (fun i1 c=>[(2,AVal.lit (.map none)),(3,AVal.map 0),(10,jobL l),(11,I (l.length:Int)),(12,I (i1:Int))]) (fun i1 c=>[(0,AObj.other (.map (mapEs ik I 0 c) c.length))]) 0 [] (wk [0] (tO rfl (Qt0 _ rfl rfl (fun _=>lx)) .nil) (s1 (sv (QD1 0 rfl rfl) (sl lw (s1 (s1 .nil)))))) ⟨foll hR (cf h2 rfl),by exact omA⟩ ?_;clear hR;rintro i1 c ⟨hR,hj⟩;(try dsimp only at hR hj);refine ai (fun h10=>?_) (fun h11=>?_)
  ·have hlt:=ltA h10;rw [Q90 Job.zero hlt] at hR;have hxz:(l.getD i1 Job.zero).sz:=Q72 (by first|assumption|grind) (Job.szz _);have hkz:=hxz;obtain ⟨z12,z13,z14,z15,z16⟩:=Job.zz hxz;refine ai gkA ?_;refine ⟨_,_,QL1 rfl _ _,QDa (ek:=ik) ((l.getD i1 Job.zero).id) ((l.getD i1 Job.zero).state) c rfl rfl,?_⟩;exact Q80 (i1+1) (setM (l.getD i1 Job.zero).id (l.getD i1 Job.zero).state c) (wk [0] (tO rfl (Qt0 _ rfl rfl (fun _=>lx)) .nil) (s1 (sv (QD1 0 rfl rfl) (sl lw (s1 (sv (Q70 (I_eq (wr omA)) lx) .nil)))))) omA ⟨foll hR (congrArg (fun p:(List (Int × Int))=>QZ4 l p) rfl),by exact omA⟩
  ·rw [Qa0 (l:=l) (j:=i1) (geA h11)] at hR;replace hR:QZ4 l c=R:=fo2 (fun p:(List (Int × Int))=>QZ4 l p) (c) hR rfl;refine ⟨_,_,Told.refl,?_⟩;refine Qg0 (fun (out:List Int) (i2:Nat)=>QO3 (Qk2 c (List.drop i2 l) out i2)=R∧i2<=l.length∧out.length<=i2) (fun out i2=>l.length - i2) (fun out i2=>[(2,AVal.lit (.slice none 0 0)),(3,AVal.map 0),(4,AVal.own 1 0 1 0 out.length),(9,jobL l),(10,I (l.length:Int)),(11,I (i2:Int))]) (fun out i2=>[(0,AObj.other (.map (mapEs ik I 0 c) c.length)),(0,AObj.row 3 1 (out.map (fun q_=>[I q_])))]) [] 0 ((Qh1 3 1).trans (wk [0,1] (tO rfl (Qt0 _ rfl rfl (fun _=>lx)) (tO rfl (tl eqA) .nil)) (s1 (sv (QD1 0 rfl rfl) (sv (QV0 1 rfl) (sl lw (s1 (s1 .nil)))))))) ⟨foll hR rfl,by exact omA,by exact exA⟩ ?_;clear hR;rintro out i2 ⟨hR,hj,hx⟩;(try dsimp only at hR hj hx);refine ai (fun h17=>?_) (fun h18=>?_)
   ·have hlt:=ltA h17;rw [Q90 Job.zero hlt] at hR;have hxz:(l.getD i2 Job.zero).sz:=Q72 (by first|assumption|grind) (Job.szz _);have hkz:=hxz;obtain ⟨z19,z20,z21,z22,z23⟩:=Job.zz hxz;refine ai gkA ?_;(first|apply u2|apply u3|apply u4|apply us);exact mv [0] (QOc c (l.getD i2 Job.zero) szA) (dO (.same _ (Q98 fun _=>lx)) .nil) (dv (dn_ren (Ren.map _ _ rfl)) (dv (Qp7 (Low.agg' (Job.lo))) .nil)) (rO (RenO.same _ (Q98 fun _=>lx)) .nil) rx;refine ai (fun h24=>?_) (fun h25=>?_)
    ·exact Q80 out (i2+1) (wk [0,1] (tO rfl (Qt0 _ rfl rfl (fun _=>lx)) (tO rfl (tl eqA) .nil)) (s1 (sv (QD1 0 rfl rfl) (sv (to 1 lnA) (sl lw (s1 (sv (Q70 (I_eq (wr omA)) lx) .nil))))))) omA ⟨foll hR (congrArg (fun p:(List Int)=>QO3 p) (ct h24 rfl)),by exact omA,by exact exA⟩
    ·refine Or.inl ?_;(first|refine ⟨QK1 8 rfl lnA apA,?_⟩|refine ⟨QR0 8 rfl apA,?_⟩);exact Q80 (out++([(l.getD i2 Job.zero).id]:List Int)) (i2+1) (wk [0,1] (tO rfl (Qt0 _ rfl rfl (fun _=>lx)) (tO rfl (tl eqA) .nil)) (s1 (sv (QD1 0 rfl rfl) (sv (to 1 lnA) (sl lw (s1 (sv (Q70 (I_eq (wr omA)) lx) .nil))))))) omA ⟨foll hR (congrArg (fun p:(List Int)=>QO3 p) (cf h25 rfl)),by exact omA,by exact exA⟩
   ·rw [Qa0 (l:=l) (j:=i2) (geA h18)] at hR;replace hR:QO3 out=R:=fo2 (fun p:(List Int)=>QO3 p) (out) hR rfl;obtain rfl:=foll hR rfl;exact Q00 lw (QT0 0 _ rfl eqA lnA)
theorem Q06 (c:List (Int × Int)):∀ (r:List Job) (out:List Int) (i:Nat),(Qk2 c r out i).length<=out.length+r.length
 | [],out,i=>by simp [Qk2]
 | x :: r,out,i=>by
  have h1:=Q06 c r out (i+1)
  have h2:=Q06 c r (out++([x.id]:List Int)) (i+1)
  rw [Qk2,Bool.cond_eq_ite]
  simp only [List.length_append,List.length_cons,List.length_nil] at *
  split <;> omega
theorem QNc (l:List Job):(QX0 l).length<=l.length:=by
 unfold QX0
 cases ((Ql1 l)!=0) with
 | true=>simp
 | false=>have h:=Q06 (Qc1 l 0 []) l [] 0;rw [List.length_nil,Nat.zero_add] at h;exact h
def QS1 (l:List Job) (id_:Int):Job × Bool:=bif (((Ql1 l)!=0)||(!(Qj8 id_))) then (Job.zero,false) else bif (!(QN0 l id_).2) then (Job.zero,false) else (((List.drop (Int.toNat ((QN0 l id_).1)) (List.take (Int.toNat (w64 ((QN0 l id_).1+1))) l)).getD 0 Job.zero),true)
theorem QJ8 (l:List Job) (id_:Int) (hs0:l.length<=4294967296∧(∀ y ∈ l,y.sz)):GV 37 [jobL l,I id_] (AVal.tup [Job.a ((QS1 l id_).1),Bo ((QS1 l id_).2)]):=by
 generalize hR:QS1 l id_=R;refine ga (.cons lw (l1 .nil)) (Low.tup' (.cons (Job.low _ _) (l1 .nil))) (kp 8 [15,24]) Tryz.func37 ?_;obtain ⟨z5,z6⟩:=id hs0;refine us (QX5 l szA _) ?_;(first|apply u2|apply u3|apply u4|apply us);exact table_known_c id_ _;refine ai (fun h1=>?_) (fun h2=>?_)
 ·obtain rfl:=foll hR (ct h1 rfl);exact Q00 (Low.tup' (.cons (Job.low _ _) (l1 .nil))) (Seen.tup (ev (Seen.agg (e1 (e1 (e1 (e1 (e1 (ev (Qq0) (e1 (e1 (e1 (e1 (ev (Qq0) (e1 (e1 (e1 (e1 (e1 (e1 (e1 (e1 (e1 .nil))))))))))))))))))))) (e1 .nil)))
 ·refine us (table_place_c l id_ szA _) ?_;refine ai (fun h3=>?_) (fun h4=>?_)
  ·obtain rfl:=foll hR (cf h2 (ct h3 rfl));exact Q00 (Low.tup' (.cons (Job.low _ _) (l1 .nil))) (Seen.tup (ev (Seen.agg (e1 (e1 (e1 (e1 (e1 (ev (Qq0) (e1 (e1 (e1 (e1 (ev (Qq0) (e1 (e1 (e1 (e1 (e1 (e1 (e1 (e1 (e1 .nil))))))))))))))))))))) (e1 .nil)))
  ·refine And.intro (by first|exact fun hg=>decide_eq_true (by first|(have hp:=Ql7 l id_ hs0.1 (by assumption);have pw:IntKind.i64.wrap ((QN0 l id_).1+1)=(QN0 l id_).1+1:=wr (by omega);simp only [Option.getD_some,pw,List.length_drop,List.length_take];omega)|exact ckA)|exact gkA) ?_;refine us (mv [] (table_whole_o (List.drop (Int.toNat ((QN0 l id_).1)) (List.take (Int.toNat (w64 ((QN0 l id_).1+1))) l)) szA) .nil (dv (dn_as (as_cut l (Int.toNat ((QN0 l id_).1)) (Int.toNat (w64 ((QN0 l id_).1+1))) leA (by first|(have hp:=Ql7 l id_ hs0.1 (by assumption);have pw:IntKind.i64.wrap ((QN0 l id_).1+1)=(QN0 l id_).1+1:=wr (by omega);simp only [Option.getD_some,pw,List.length_drop,List.length_take];omega)|exact ckA)) lw) .nil) (rO rr .nil) (rw_ 1 0 rfl)) ?_;refine And.intro (by first|exact fun hg=>decide_eq_true (by first|(have hp:=Ql7 l id_ hs0.1 (by assumption);have pw:IntKind.i64.wrap ((QN0 l id_).1+1)=(QN0 l id_).1+1:=wr (by omega);simp only [Option.getD_some,pw,List.length_drop,List.length_take];omega)|exact ckA)|exact gkA) ?_;refine ⟨_,QT1 rfl rfl rfl (Ql2 Job.zero 0 (by first|rfl|exact Nat.zero_add _|omega) (by first|(have hp:=Ql7 l id_ hs0.1 (by assumption);have pw:IntKind.i64.wrap ((QN0 l id_).1+1)=(QN0 l id_).1+1:=wr (by omega);simp only [Option.getD_some,pw,List.length_drop,List.length_take];omega)|exact ckA)) rfl,?_⟩;obtain rfl:=foll hR (cf h2 (cf h4 rfl));exact Q00 (Low.tup' (.cons (Job.low _ _) (l1 .nil))) (Seen.tup (e1 (e1 .nil)))
def QG1 (l:List Usage) (ids:List Int):List Job->List Ranked->Nat->List (ByteArray × Int)->(List Ranked) × (List (ByteArray × Int))
 | [],r_,_,c=>(r_,c)
 | x_ :: r,r_,i,c=>bif (!(Q21 ids x_.id)) then QG1 l ids r r_ (i+1) c else bif (!(getM x_.user c).isSome) then QG1 l ids r (r_++([(⟨x_.id,x_.prio,((getM x_.user (setM x_.user (Qv1 l x_.user) c)).getD 0),x_.id⟩:Ranked)]:List Ranked)) (i+1) (setM x_.user (Qv1 l x_.user) c) else QG1 l ids r (r_++([(⟨x_.id,x_.prio,((getM x_.user c).getD 0),x_.id⟩:Ranked)]:List Ranked)) (i+1) c
def QZ2 (r_:List Ranked):List Ranked->List Int->Nat->(List Int)
 | [],out,_=>out
 | _ :: r,out,i1=>QZ2 r_ r (out++([((Q24 r_).getD i1 Ranked.zero).what]:List Int)) (i1+1)
def Qn4 (out:List Int):(List Int):=out
def Q03 (r_:List Ranked) (c:List (ByteArray × Int)):(List Int):=Qn4 (QZ2 r_ (Q24 r_) [] 0)
def Q82 (jobs:List Job) (l:List Usage) (ids:List Int):(List Int):=bif ((Ql1 jobs)!=0) then [] else Q03 ((QG1 l ids jobs [] 0 []).1) ((QG1 l ids jobs [] 0 []).2)
theorem b12a0 {P:Prop} (h:P:=by first|((exact ⟨hx.1,by omega⟩))|first|((exact ⟨fun x hm=>(List.mem_append.1 hm).elim (hx.1 x) (fun h=>by rw [List.mem_singleton.1 h]),by simp;omega⟩))|first|((exact ⟨fun _ h=>absurd h List.not_mem_nil,by simp⟩))|exact exA):P:=h
theorem Qsc (jobs:List Job) (l:List Usage) (ids:List Int) (hs0:jobs.length<=4294967296∧(∀ y ∈ jobs,y.sz)) (hs1:l.length<=4294967296∧(∀ y ∈ l,y.sz)) (hs2:ids.length<=4294967296):GV 138 [jobL jobs,QU2 l,ints ids] (ints (Q82 jobs l ids)):=by
 generalize hR:Q82 jobs l ids=R;refine ga (.cons lw (.cons lw (.cons lw .nil))) lw (kp 14 [16,18,19,20,21,28,37]) Tryz.func138 ?_;obtain ⟨z16,z17⟩:=id hs0;obtain ⟨z18,z19⟩:=id hs1;have hk2:=hs2;obtain z20:ids.length<=4294967296:=hs2;refine us (QX5 jobs szA _) ?_;refine ai (fun h1=>?_) (fun h2=>?_)
 ·obtain rfl:=foll hR (ct h1 rfl);exact Q00 lw (Qq0)
 ·refine Qm6 (fun (r_:List Ranked) (i:Nat) (c:List (ByteArray × Int))=>Q03 (QG1 l ids (List.drop i jobs) r_ i c).1 (QG1 l ids (List.drop i jobs) r_ i c).2=R∧i<=jobs.length∧(∀ x ∈ r_,x.what=x.id)∧r_.length<=i) (fun r_ i c=>jobs.length - i) (fun r_ i c=>[(1,QU2 l),(2,ints ids),(6,AVal.lit (.slice none 0 0)),(7,AVal.own 1 0 4 0 r_.length),(8,AVal.map 0),(18,jobL jobs),(19,I (jobs.length:Int)),(20,I (i:Int))]) (fun r_ i c=>[(0,AObj.other (.map (mapEs sk I 0 c) c.length)),(0,AObj.row 209 4 (r_.map Ranked.cells))]) [] 0 [] ((Qh1 209 4).trans (wk [0,1] (tO rfl (Qt0 _ rfl rfl (fun _=>lx)) (tO rfl (tl eqA) .nil)) (sl lw (sl lw (s1 (sv (QV0 1 rfl) (sv (QD1 0 rfl rfl) (sl lw (s1 (s1 .nil)))))))))) ⟨foll hR (cf h2 rfl),by exact omA,b12a0⟩ ?_;clear hR;rintro r_ i c ⟨hR,hj,hx⟩;(try dsimp only at hR hj hx);refine ai (fun h3=>?_) (fun h4=>?_)
  ·have hlt:=ltA h3;rw [Q90 Job.zero hlt] at hR;have hxz:(jobs.getD i Job.zero).sz:=Q72 (by first|assumption|grind) (Job.szz _);have hkz:=hxz;obtain ⟨z5,z6,z7,z8,z9⟩:=Job.zz hxz;refine ai gkA ?_;refine us (QY1 ids ((jobs.getD i Job.zero).id) szA _) ?_;refine ai (fun h10=>?_) (fun h11=>?_)
   ·exact Qp2 r_ (i+1) c (wk [0,1] (tO rfl (Qt0 _ rfl rfl (fun _=>lx)) (tO rfl (tl eqA) .nil)) (sl lw (sl lw (s1 (sv (to 1 lnA) (sv (QD1 0 rfl rfl) (sl lw (s1 (sv (Q70 (I_eq (wr omA)) lx) .nil))))))))) omA ⟨foll hR (congrArg (fun p:(List Ranked) × (List (ByteArray × Int))=>Q03 p.1 p.2) (ct h10 rfl)),by exact omA,b12a0⟩
   ·(first|refine ⟨_,_,Qc7 rfl _ _,Q51 (ek:=sk) ((jobs.getD i Job.zero).user) c 0 (AsA.refl _),?_⟩|refine ⟨_,fun _=>⟨_,_,Qc7 rfl _ _,Q51 (ek:=sk) ((jobs.getD i Job.zero).user) c 0 (AsA.refl _),rfl,rfl⟩,?_⟩|refine ⟨_,rfl,⟨_,_,Qc7 rfl _ _,Q51 (ek:=sk) ((jobs.getD i Job.zero).user) c 0 (AsA.refl _),Sub.refl _,rfl⟩,?_⟩);refine ai (fun h12=>?_) (fun h13=>?_)
    ·refine dchk (by kernel_rfl) ?_;(first|apply u2|apply u3|apply u4|apply us);exact QYa l ((jobs.getD i Job.zero).user) szA szA _;refine ⟨_,_,⟨_,_,Qc7 rfl _ _,QDa (ek:=sk) ((jobs.getD i Job.zero).user) (Qv1 l (jobs.getD i Job.zero).user) c rfl rfl,Sub.refl _,rfl⟩,?_⟩;(repeat ((first|refine ai rfl ?_|refine ai (fun _=>rfl) ?_|refine ai (fun _=>QYa l ((jobs.getD i Job.zero).user) szA szA _) ?_)));(first|refine ⟨_,_,Qc7 rfl _ _,Q51 (ek:=sk) ((jobs.getD i Job.zero).user) (setM (jobs.getD i Job.zero).user (Qv1 l (jobs.getD i Job.zero).user) c) 0 (AsA.refl _),?_⟩|refine ⟨_,fun _=>⟨_,_,Qc7 rfl _ _,Q51 (ek:=sk) ((jobs.getD i Job.zero).user) (setM (jobs.getD i Job.zero).user (Qv1 l (jobs.getD i Job.zero).user) c) 0 (AsA.refl _),rfl,rfl⟩,?_⟩|refine ⟨_,rfl,⟨_,_,Qc7 rfl _ _,Q51 (ek:=sk) ((jobs.getD i Job.zero).user) (setM (jobs.getD i Job.zero).user (Qv1 l (jobs.getD i Job.zero).user) c) 0 (AsA.refl _),Sub.refl _,rfl⟩,?_⟩);refine Or.inl ?_;(first|refine ⟨QK1 32 rfl lnA apA,?_⟩|refine ⟨QR0 32 rfl apA,?_⟩);exact Qp2 (r_++([(⟨(jobs.getD i Job.zero).id,(jobs.getD i Job.zero).prio,((getM (jobs.getD i Job.zero).user (setM (jobs.getD i Job.zero).user (Qv1 l (jobs.getD i Job.zero).user) c)).getD 0),(jobs.getD i Job.zero).id⟩:Ranked)]:List Ranked)) (i+1) (setM (jobs.getD i Job.zero).user (Qv1 l (jobs.getD i Job.zero).user) c) (wk [0,1] (tO rfl (Qt0 _ rfl rfl (fun _=>lx)) (tO rfl (tl eqA) .nil)) (sl lw (sl lw (s1 (sv (to 1 lnA) (sv (QD1 0 rfl rfl) (sl lw (s1 (sv (Q70 (I_eq (wr omA)) lx) .nil))))))))) omA ⟨foll hR (congrArg (fun p:(List Ranked) × (List (ByteArray × Int))=>Q03 p.1 p.2) (cf h11 (ct h12 rfl))),by exact omA,b12a0⟩
    ·(first|refine ⟨_,_,Qc7 rfl _ _,Q51 (ek:=sk) ((jobs.getD i Job.zero).user) c 0 (AsA.refl _),?_⟩|refine ⟨_,fun _=>⟨_,_,Qc7 rfl _ _,Q51 (ek:=sk) ((jobs.getD i Job.zero).user) c 0 (AsA.refl _),rfl,rfl⟩,?_⟩|refine ⟨_,rfl,⟨_,_,Qc7 rfl _ _,Q51 (ek:=sk) ((jobs.getD i Job.zero).user) c 0 (AsA.refl _),Sub.refl _,rfl⟩,?_⟩);refine Or.inl ?_;(first|refine ⟨QK1 32 rfl lnA apA,?_⟩|refine ⟨QR0 32 rfl apA,?_⟩);exact Qp2 (r_++([(⟨(jobs.getD i Job.zero).id,(jobs.getD i Job.zero).prio,((getM (jobs.getD i Job.zero).user c).getD 0),(jobs.getD i Job.zero).id⟩:Ranked)]:List Ranked)) (i+1) c (wk [0,1] (tO rfl (Qt0 _ rfl rfl (fun _=>lx)) (tO rfl (tl eqA) .nil)) (sl lw (sl lw (s1 (sv (to 1 lnA) (sv (QD1 0 rfl rfl) (sl lw (s1 (sv (Q70 (I_eq (wr omA)) lx) .nil))))))))) omA ⟨foll hR (congrArg (fun p:(List Ranked) × (List (ByteArray × Int))=>Q03 p.1 p.2) (cf h11 (cf h13 rfl))),by exact omA,b12a0⟩
  ·rw [Qa0 (l:=jobs) (j:=i) (geA h4)] at hR;replace hR:Q03 r_ c=R:=fo2 (fun p:(List Ranked) × (List (ByteArray × Int))=>Q03 p.1 p.2) (r_,c) hR rfl;refine ACalls.of_cwp (fun _=>true) Tryz.func202 rfl rfl ?_;refine us (mv [1] (Q9d r_ szA (by exact hx.1)) (dO (dr eqA) .nil) (dv (QM8 rfl lnA) (dv (Qp7 (Low.fn _ _ _ LowL.nil LowL.nil)) .nil)) (rO rr .nil) rx) ?_;have hrl:=QFd r_;rw [← hrl];refine Qg0 (fun (out:List Int) (i1:Nat)=>Qn4 (QZ2 r_ (List.drop i1 (Q24 r_)) out i1)=R∧i1<=(Q24 r_).length∧out.length<=i1) (fun out i1=>(Q24 r_).length - i1) (fun out i1=>[(2,AVal.lit (.slice none 0 0)),(3,AVal.own 2 0 1 0 out.length),(8,AVal.own 1 0 4 0 ((Q24 r_).length)),(9,I ((Q24 r_).length:Int)),(10,I (i1:Int))]) (fun out i1=>[(0,AObj.other (.map (mapEs sk I 0 c) c.length)),(0,AObj.row 209 4 ((Q24 r_).map Ranked.cells)),(0,AObj.row 3 1 (out.map (fun q_=>[I q_])))]) [] 0 ((Qh1 3 1).trans (wk [0,1,2] (tO rfl (Qt0 _ rfl rfl (fun _=>lx)) (tO rfl (tl eqA) (tO rfl (tl eqA) .nil))) (s1 (sv (QV0 2 rfl) (sv (to 1 lnA) (s1 (s1 .nil))))))) ⟨foll hR rfl,by exact omA,b12a0⟩ ?_;clear hR;rintro out i1 ⟨hR,hj,hx⟩;(try dsimp only at hR hj hx);refine ai (fun h14=>?_) (fun h15=>?_)
   ·have hlt:=ltA h14;rw [Q90 Ranked.zero hlt] at hR;refine ai gkA ?_;refine ⟨_,QT1 rfl rfl rfl (Ql2 Ranked.zero i1 (by first|rfl|exact Nat.zero_add _|omega) ckA) rfl,?_⟩;refine Or.inl ?_;(first|refine ⟨QK1 8 rfl lnA apA,?_⟩|refine ⟨QR0 8 rfl apA,?_⟩);exact Q80 (out++([((Q24 r_).getD i1 Ranked.zero).what]:List Int)) (i1+1) (wk [0,1,2] (tO rfl (Qt0 _ rfl rfl (fun _=>lx)) (tO rfl (tl eqA) (tO rfl (tl eqA) .nil))) (s1 (sv (to 2 lnA) (sv (to 1 lnA) (s1 (sv (Q70 (I_eq (wr omA)) lx) .nil)))))) omA ⟨foll hR (congrArg (fun p:(List Int)=>Qn4 p) rfl),by exact omA,b12a0⟩
   ·rw [Qa0 (l:=(Q24 r_)) (j:=i1) (geA h15)] at hR;replace hR:Qn4 out=R:=fo2 (fun p:(List Int)=>Qn4 p) (out) hR rfl;refine ⟨_,_,Told.refl,?_⟩;obtain rfl:=foll hR rfl;exact Q00 lw (QT0 0 _ rfl eqA lnA)
theorem QA8 (l:List Usage) (ids:List Int):∀ (r:List Job) (o:List Ranked) (i:Nat) (c:List (ByteArray × Int)),(QG1 l ids r o i c).1.length<=o.length+r.length
 | [],o,i,c=>by simp [QG1]
 | x :: r,o,i,c=>by
  have h1:=fun o' c'=>QA8 l ids r o' (i+1) c'
  rw [QG1]
  repeat' first|exact Nat.le_trans (h1 _ _) (by simp only [List.length_cons,List.length_append,List.length_nil];omega)|(rw [Bool.cond_eq_ite];split)
theorem QB8 (R:List Ranked):∀ (r:List Ranked) (out:List Int) (i:Nat),(QZ2 R r out i).length=out.length+r.length
 | [],out,i=>by simp [QZ2]
 | x :: r,out,i=>by rw [QZ2,QB8 R r];simp;omega
theorem Qra (jobs:List Job) (l:List Usage) (ids:List Int):(Q82 jobs l ids).length<=jobs.length:=by
 unfold Q82 Q03 Qn4
 cases ((Ql1 jobs)!=0) with
 | true=>simp
 | false =>
  have h:=QA8 l ids jobs [] 0 []
  simp only [cond_false]
  rw [QB8,QFd]
  simpa using h
def QI1 (s:State):Int:=bif (((QM3 s)!=0)||((Qz5 s.ledger)!=0)) then 141 else 0
theorem Qkc (s:State) (hs0:s.sz):GV 49 [State.a s] (I (QI1 s)):=by
 generalize hR:QI1 s=R;refine ga (.cons (State.low _ _) .nil) lx (kp 3 [11]) Tryz.func49 ?_;have hk0:=hs0;obtain ⟨z3,z4,z5,z6,z7,z8,z9⟩:=hs0;refine us (ref20_Check_c s szA _) ?_;(first|apply u2|apply u3|apply u4|apply us);exact Qgc s.ledger szA _;refine ai (fun h1=>?_) (fun h2=>?_)
 ·obtain rfl:=foll hR (ct h1 rfl);exact Q00 lx sr
 ·obtain rfl:=foll hR (cf h2 rfl);exact Q00 lx sr
theorem Q7e {s:State} (h:((QI1 s)!=0)=false):((QM3 s)!=0)=false:=by
 unfold QI1 at h
 cases hc:((QM3 s)!=0) with
 | false=>rfl
 | true=>rw [hc] at h;cases h
end Go.Proofs.YtjpgfmbccohngaaGreatDoor
namespace Go.Proofs.YtjpgfmbccohngaaGreatDoor
set_option linter.unusedSimpArgs false
set_option linter.unusedVariables false
open Go.Fw
set_option maxRecDepth 20000
set_option maxHeartbeats 4000000
attribute [local irreducible] ACalls AMoves
def Q42 (s:State):Int:=bif (((QR1 s)!=0)||((Qp3 s.ledger)!=0)) then 141 else 0
theorem QCd (s:State) (hs0:s.sz):GV 18 [State.a s] (I (Q42 s)):=by
 generalize hR:Q42 s=R;refine ga (.cons (State.low _ _) .nil) lx (kp 3 [11]) Tryz.func18 ?_;have hk0:=hs0;obtain ⟨z3,z4,z5,z6,z7,z8,z9⟩:=hs0;refine us (QSd s szA _) ?_;(first|apply u2|apply u3|apply u4|apply us);exact QXa s.ledger szA _;refine ai (fun h1=>?_) (fun h2=>?_)
 ·obtain rfl:=foll hR (ct h1 rfl);exact Q00 lx sr
 ·obtain rfl:=foll hR (cf h2 rfl);exact Q00 lx sr
def QH1 (s:State):List Node->List Int->Nat->List (Int × Int)->(List Int) × (List (Int × Int))
 | [],order,_,c=>(order,c)
 | x_ :: r,order,i,c=>bif (((getM (QM0 x_ (Qr0 s.jobs)) c).getD 0)==0) then QH1 s r (order++([(QM0 x_ (Qr0 s.jobs))]:List Int)) (i+1) (setM (QM0 x_ (Qr0 s.jobs)) (w64 (((getM (QM0 x_ (Qr0 s.jobs)) c).getD 0)+1)) c) else QH1 s r order (i+1) (setM (QM0 x_ (Qr0 s.jobs)) (w64 (((getM (QM0 x_ (Qr0 s.jobs)) c).getD 0)+1)) c)
def QI4 (order:List Int) (c:List (Int × Int)):List Int->Nat->Taken->Taken
 | [],_,c2=>c2
 | _ :: r,i1,c2=>QI4 order c r (i1+1) (Qq1 c2 0 ((sorted order).getD i1 0) ((getM ((sorted order).getD i1 0) c).getD 0))
def QD5 (c2:Taken):(List Step):=c2.p
def QJ4 (s:State) (order:List Int) (c:List (Int × Int)):(List Step):=QD5 (QI4 order c (sorted order) 0 (⟨(QI2 (QM1 (Qn8 s.nodes)))⟩:Taken))
def Q54 (s:State):(List Step):=bif ((QR1 s)!=0) then [] else QJ4 s ((QH1 s s.nodes [] 0 []).1) ((QH1 s s.nodes [] 0 []).2)
theorem b13a3 {P:Prop} (h:P:=by first|(exact ⟨.inr ⟨rfl,rfl⟩,Nat.le_refl _⟩)|first|(exact ⟨.inl (by simp),by simp;omega⟩)|first|(exact ⟨.inl (busy_ne hx.1 (by assumption)),by omega⟩)|first|(((try dsimp only);exact QM9 (by assumption)))|first|(((try dsimp only);exact QM9 hx))|first|(exact flat_len _)|exact exA):P:=h
theorem room_Busy_c (s:State) (hs0:s.sz):GV 105 [State.a s] (stepL (Q54 s)):=by
 generalize hR:Q54 s=R;refine ga (.cons (State.low _ _) .nil) lw (kp 12 [14,27,28,29,30,39,51,52,53,54]) Tryz.func105 ?_;have hk0:=hs0;obtain ⟨z9,z10,z11,z12,z13,z14,z15⟩:=hs0;refine us (QSd s szA _) ?_;refine ai (fun h1=>?_) (fun h2=>?_)
 ·obtain rfl:=foll hR (ct h1 rfl);exact Q00 lw (Qq0)
 ·refine us (fleet_Up_c s.nodes szA _) ?_;refine us (Qa8 (Qn8 s.nodes) _) ?_;refine us (profile_Flat_c (QM1 (Qn8 s.nodes)) _) ?_;refine us (mv [] (room_limits_o s.jobs szA) .nil (dl lw .nil) (rO (RenO.same _ (Q98 fun _=>lx)) .nil) (Ren.map _ _ rfl)) ?_;refine Qm6 (fun (order:List Int) (i:Nat) (c:List (Int × Int))=>QJ4 s (QH1 s (List.drop i s.nodes) order i c).1 (QH1 s (List.drop i s.nodes) order i c).2=R∧i<=s.nodes.length∧(order ≠ []∨(i=0∧c=[]))∧order.length<=i) (fun order i c=>s.nodes.length - i) (fun order i c=>[(2,AVal.lit (.slice none 0 0)),(3,AVal.ptr 0 0 1 0 0),(4,AVal.map 1),(5,AVal.map 2),(6,AVal.own 3 0 1 0 order.length),(27,nodeL s.nodes),(28,I (s.nodes.length:Int)),(29,I (i:Int))]) (fun order i c=>[(0,AObj.row 132 1 [[stepL (QI2 (QM1 (Qn8 s.nodes)))]]),(0,AObj.other (.map (mapEs ik I 0 c) c.length)),(0,AObj.other (.map (mapEs ik I 0 (Qr0 s.jobs)) (Qr0 s.jobs).length)),(0,AObj.row 3 1 (order.map (fun q_=>[I q_])))]) [] 0 [] ((Qh1 3 1).trans (wk [1,2,3,4] (tO rfl (ts Taken.lo) (tO rfl (Qt0 _ rfl rfl (fun _=>lx)) (tO rfl (Qt0 _ rfl rfl (fun _=>lx)) (tO rfl (tl eqA) .nil)))) (s1 (sv (Q20 0 rfl rfl) (sv (QD1 1 rfl rfl) (sv (QD1 2 rfl rfl) (sv (QV0 3 rfl) (sl lw (s1 (s1 .nil)))))))))) ⟨foll hR (cf h2 rfl),by exact omA,b13a3⟩ ?_;clear hR;rintro order i c ⟨hR,hj,hx⟩;(try dsimp only at hR hj hx);refine ai (fun h3=>?_) (fun h4=>?_)
  ·have hlt:=ltA h3;rw [Q90 Node.zero hlt] at hR;refine ai gkA ?_;refine us (mv [2] (room_until_c (s.nodes.getD i Node.zero) (Qr0 s.jobs)) (dO (.same _ (Q98 fun _=>lx)) .nil) (dv (Qp7 (Low.agg' (Node.lo))) (dv (dn_ren (Ren.map _ _ rfl)) .nil)) (rO (RenO.same _ (Q98 fun _=>lx)) .nil) rx) ?_;(first|refine ⟨_,_,QL1 rfl _ _,Q51 (ek:=ik) (QM0 (s.nodes.getD i Node.zero) (Qr0 s.jobs)) c 0 (AsA.refl _),?_⟩|refine ⟨_,fun _=>⟨_,_,QL1 rfl _ _,Q51 (ek:=ik) (QM0 (s.nodes.getD i Node.zero) (Qr0 s.jobs)) c 0 (AsA.refl _),rfl,rfl⟩,?_⟩|refine ⟨_,rfl,⟨_,_,QL1 rfl _ _,Q51 (ek:=ik) (QM0 (s.nodes.getD i Node.zero) (Qr0 s.jobs)) c 0 (AsA.refl _),Sub.refl _,rfl⟩,?_⟩);refine ai (fun h5=>?_) (fun h6=>?_)
   ·refine Or.inl ?_;(first|refine ⟨QK1 8 rfl lnA apA,?_⟩|refine ⟨QR0 8 rfl apA,?_⟩);(first|refine ⟨_,_,QL1 rfl _ _,Q51 (ek:=ik) (QM0 (s.nodes.getD i Node.zero) (Qr0 s.jobs)) c 0 (AsA.refl _),?_⟩|refine ⟨_,fun _=>⟨_,_,QL1 rfl _ _,Q51 (ek:=ik) (QM0 (s.nodes.getD i Node.zero) (Qr0 s.jobs)) c 0 (AsA.refl _),rfl,rfl⟩,?_⟩|refine ⟨_,rfl,⟨_,_,QL1 rfl _ _,Q51 (ek:=ik) (QM0 (s.nodes.getD i Node.zero) (Qr0 s.jobs)) c 0 (AsA.refl _),Sub.refl _,rfl⟩,?_⟩);refine ⟨_,_,QL1 rfl _ _,QDa (ek:=ik) (QM0 (s.nodes.getD i Node.zero) (Qr0 s.jobs)) (w64 (((getM (QM0 (s.nodes.getD i Node.zero) (Qr0 s.jobs)) c).getD 0)+1)) c rfl rfl,?_⟩;exact Qp2 (order++([(QM0 (s.nodes.getD i Node.zero) (Qr0 s.jobs))]:List Int)) (i+1) (setM (QM0 (s.nodes.getD i Node.zero) (Qr0 s.jobs)) (w64 (((getM (QM0 (s.nodes.getD i Node.zero) (Qr0 s.jobs)) c).getD 0)+1)) c) (wk [0,1,2,3] (tO rfl (ts Taken.lo) (tO rfl (Qt0 _ rfl rfl (fun _=>lx)) (tO rfl (Qt0 _ rfl rfl (fun _=>lx)) (tO rfl (tl eqA) .nil)))) (s1 (sv (Q20 0 rfl rfl) (sv (QD1 1 rfl rfl) (sv (QD1 2 rfl rfl) (sv (to 3 lnA) (sl lw (s1 (sv (Q70 (I_eq (wr omA)) lx) .nil))))))))) omA ⟨foll hR (congrArg (fun p:(List Int) × (List (Int × Int))=>QJ4 s p.1 p.2) (ct h5 rfl)),by exact omA,b13a3⟩
   ·(first|refine ⟨_,_,QL1 rfl _ _,Q51 (ek:=ik) (QM0 (s.nodes.getD i Node.zero) (Qr0 s.jobs)) c 0 (AsA.refl _),?_⟩|refine ⟨_,fun _=>⟨_,_,QL1 rfl _ _,Q51 (ek:=ik) (QM0 (s.nodes.getD i Node.zero) (Qr0 s.jobs)) c 0 (AsA.refl _),rfl,rfl⟩,?_⟩|refine ⟨_,rfl,⟨_,_,QL1 rfl _ _,Q51 (ek:=ik) (QM0 (s.nodes.getD i Node.zero) (Qr0 s.jobs)) c 0 (AsA.refl _),Sub.refl _,rfl⟩,?_⟩);refine ⟨_,_,QL1 rfl _ _,QDa (ek:=ik) (QM0 (s.nodes.getD i Node.zero) (Qr0 s.jobs)) (w64 (((getM (QM0 (s.nodes.getD i Node.zero) (Qr0 s.jobs)) c).getD 0)+1)) c rfl rfl,?_⟩;exact Qp2 order (i+1) (setM (QM0 (s.nodes.getD i Node.zero) (Qr0 s.jobs)) (w64 (((getM (QM0 (s.nodes.getD i Node.zero) (Qr0 s.jobs)) c).getD 0)+1)) c) (wk [0,1,2,3] (tO rfl (ts Taken.lo) (tO rfl (Qt0 _ rfl rfl (fun _=>lx)) (tO rfl (Qt0 _ rfl rfl (fun _=>lx)) (tO rfl (tl eqA) .nil)))) (s1 (sv (Q20 0 rfl rfl) (sv (QD1 1 rfl rfl) (sv (QD1 2 rfl rfl) (sv (to 3 lnA) (sl lw (s1 (sv (Q70 (I_eq (wr omA)) lx) .nil))))))))) omA ⟨foll hR (congrArg (fun p:(List Int) × (List (Int × Int))=>QJ4 s p.1 p.2) (cf h6 rfl)),by exact omA,b13a3⟩
  ·rw [Qa0 (l:=s.nodes) (j:=i) (geA h4)] at hR;replace hR:QJ4 s order c=R:=fo2 (fun p:(List Int) × (List (Int × Int))=>QJ4 s p.1 p.2) (order,c) hR rfl;refine us (mv [3] (slices_Sort_c order szA (by exact busy_order (by assumption) hx.1 (by assumption))) (dO (dr eqA) .nil) (dv (QM8 rfl lnA) .nil) (rO rr .nil) rx) ?_;refine Qg0 (fun (i1:Nat) (c2:Taken)=>QD5 (QI4 order c (List.drop i1 (sorted order)) i1 c2)=R∧i1<=(sorted order).length∧c2.p.length<=4294967296) (fun i1 c2=>(sorted order).length - i1) (fun i1 c2=>[(2,AVal.lit (.slice none 0 0)),(3,AVal.ptr 0 0 1 0 0),(4,AVal.map 1),(51,AVal.own 2 0 1 0 ((sorted order).length)),(52,I ((sorted order).length:Int)),(53,I (i1:Int))]) (fun i1 c2=>[(0,AObj.row 132 1 [[stepL c2.p]]),(0,AObj.other (.map (mapEs ik I 0 c) c.length)),(0,AObj.row 3 1 ((sorted order).map (fun q_=>[I q_])))]) 0 (⟨(QI2 (QM1 (Qn8 s.nodes)))⟩:Taken) (wk [0,1,3] (tO rfl (ts Taken.lo) (tO rfl (Qt0 _ rfl rfl (fun _=>lx)) (tO rfl (tl eqA) .nil))) (s1 (sv (Q20 0 rfl rfl) (sv (QD1 1 rfl rfl) (sv (to 2 lnA) (sv (Q70 (I_eq (by simp)) lx) (s1 .nil))))))) ⟨foll hR rfl,by exact omA,b13a3⟩ ?_;clear hR;rintro i1 c2 ⟨hR,hj,hx⟩;(try dsimp only at hR hj hx);refine ai (fun h7=>?_) (fun h8=>?_)
   ·have hlt:=ltA h7;rw [Q90 0 hlt] at hR;have hsl:=Qad order;refine ai gkA ?_;refine ⟨_,QT1 rfl rfl rfl (Ql2 0 i1 (by first|rfl|exact Nat.zero_add _|omega) ckA) rfl,?_⟩;(first|refine ⟨_,_,QL1 rfl _ _,Q51 (ek:=ik) ((sorted order).getD i1 0) c 0 (AsA.refl _),?_⟩|refine ⟨_,fun _=>⟨_,_,QL1 rfl _ _,Q51 (ek:=ik) ((sorted order).getD i1 0) c 0 (AsA.refl _),rfl,rfl⟩,?_⟩|refine ⟨_,rfl,⟨_,_,QL1 rfl _ _,Q51 (ek:=ik) ((sorted order).getD i1 0) c 0 (AsA.refl _),Sub.refl _,rfl⟩,?_⟩);refine us (mv [0] (Q87 c2 0 ((sorted order).getD i1 0) ((getM ((sorted order).getD i1 0) c).getD 0) szA) (dO (ds Taken.lo) .nil) (dp (d1 (d1 (d1 .nil)))) (rO (re Taken.lo) .nil) rx) ?_;exact Q80 (i1+1) (Qq1 c2 0 ((sorted order).getD i1 0) ((getM ((sorted order).getD i1 0) c).getD 0)) (wk [0,1,2] (tO rfl (ts Taken.lo) (tO rfl (Qt0 _ rfl rfl (fun _=>lx)) (tO rfl (tl eqA) .nil))) (s1 (sv (Q20 0 rfl rfl) (sv (QD1 1 rfl rfl) (sv (to 2 lnA) (sv (Q70 (I_eq (by simp)) lx) (sv (Q70 (I_eq (wr omA)) lx) .nil))))))) omA ⟨foll hR (congrArg (fun p:Taken=>QD5 p) rfl),by exact omA,b13a3⟩
   ·rw [Qa0 (l:=(sorted order)) (j:=i1) (geA h8)] at hR;replace hR:QD5 c2=R:=fo2 (fun p:Taken=>QD5 p) (c2) hR rfl;obtain rfl:=foll hR rfl;exact Q00 lw sr
theorem QU4 (s:State):(Q54 s).length<=4294967296:=by
 have g2:∀ (o:List Int) (c:List (Int × Int)) (l:List Int) (i:Nat) (t:Taken),t.p.length<=4294967296->(QI4 o c l i t).p.length<=4294967296:=by
  intro o c l
  induction l with
  | nil=>intro i t h;exact h
  | cons x r ih=>intro i t h;rw [QI4];exact ih _ _ (QM9 h)
 unfold Q54 QJ4 QD5
 cases ((QR1 s)!=0) with
 | true=>simp
 | false=>exact g2 _ _ _ _ _ (flat_len _)
def Qu1 (s:State):List Int->List Int->Nat->(List Int)
 | [],out,_=>out
 | x_ :: r,out,i=>bif ((QS1 s.jobs x_).2&&(decide ((QS1 s.jobs x_).1.promise >= 0))) then Qu1 s r (out++([x_]:List Int)) (i+1) else Qu1 s r out (i+1)
def QC1 (out:List Int):(List Int):=out
def Q10 (s:State):(List Int):=QC1 (Qu1 s (Q82 s.jobs s.ledger (QX0 s.jobs)) [] 0)
theorem Qu5 {s:State} {i:Nat} (h:i<(Q10 s).length):0<s.jobs.length:=by
 rcases Nat.eq_zero_or_pos s.jobs.length with h0|h0
 ·have e:s.jobs=[]:=List.eq_nil_of_length_eq_zero h0
  have hp:Q10 s=[]:=by
   unfold Q10
   rw [e]
   rfl
  rw [hp] at h
  exact absurd h (by simp)
 ·exact h0
theorem Qqd {k k' v x:Int}:∀ {c:List (Int × Int)},getM k (setM k' v c)=some x->x=v∨getM k c=some x
 | [],h=>by
  simp only [setM,getM] at h
  cases hk:(k==k') <;> rw [hk] at h <;> simp at h
  exact .inl h.symm
 | p :: r,h=>by
  rw [setM] at h
  cases hq:(k'==p.1) with
  | true =>
   rw [hq] at h
   simp only [cond_true,getM] at h
   have e:k'=p.1:=by simpa using hq
   simp only [getM,← e]
   cases hk:(k==k') with
   | true=>rw [hk] at h;simp at h;exact .inl h.symm
   | false=>rw [hk] at h;exact .inr h
  | false =>
   rw [hq] at h
   simp only [cond_false,getM] at h ⊢
   cases hk:(k==p.1) with
   | true=>rw [hk] at h;exact .inr h
   | false=>rw [hk] at h;exact Qqd h
theorem QG4 {k:Int} {c:List (Int × Int)} {n:Nat} (hn:0<n) (h:∀ k v,getM k c=some v->0<=v∧v<(n:Int)):0<=(getM k c).getD 0∧(getM k c).getD 0<(n:Int):=by
 cases hg:getM k c with
 | none=>exact ⟨Int.le_refl _,by show (0:Int)<n;omega⟩
 | some v=>exact h k v hg
theorem QU6 (s:State):∀ (r out:List Int) (i:Nat),(Qu1 s r out i).length<=out.length+r.length
 | [],out,i=>by simp [Qu1]
 | x :: r,out,i=>by
  have h1:=fun o'=>QU6 s r o' (i+1)
  rw [Qu1,Bool.cond_eq_ite]
  split <;> exact Nat.le_trans (h1 _) (by simp only [List.length_cons,List.length_append,List.length_nil];omega)
theorem Qq4 (s:State):(Q10 s).length<=s.jobs.length:=by
 have h:=QU6 s (Q82 s.jobs s.ledger (QX0 s.jobs)) [] 0
 have h2:=Qra s.jobs s.ledger (QX0 s.jobs)
 unfold Q10 QC1
 simp only [List.length_nil,Nat.zero_add] at h
 omega
theorem b13a2 {P:Prop} (h:P:=by first|((have hel:=QNc s.jobs;omega))|exact szA):P:=h
theorem QI8 (s:State) (hs0:s.sz):AMoves Tryz.prog 83 [State.a s] [] 0 (AVal.own 0 0 1 0 (Q10 s).length) [(0,AObj.row 3 1 ((Q10 s).map (fun q_=>[I q_])))]:=by
 generalize hR:Q10 s=R;refine mo (kp 8 [15,16,17,18,33]) Tryz.func83 ?_;have hk0:=hs0;obtain ⟨z5,z6,z7,z8,z9,z10,z11⟩:=hs0;refine dchk (by kernel_rfl) ?_;(first|apply u2|apply u3|apply u4|apply us);exact QX9 s.jobs b13a2 _;(first|apply u2|apply u3|apply u4|apply us);exact Qsc s.jobs s.ledger (QX0 s.jobs) b13a2 b13a2 b13a2 _;(repeat ((first|refine ai rfl ?_|refine ai (fun _=>rfl) ?_|refine ai (fun _=>QX9 s.jobs b13a2 _) ?_|refine ai (fun _=>Qsc s.jobs s.ledger (QX0 s.jobs) b13a2 b13a2 b13a2 _) ?_)));refine Qg0 (fun (out:List Int) (i:Nat)=>QC1 (Qu1 s (List.drop i (Q82 s.jobs s.ledger (QX0 s.jobs))) out i)=R∧i<=(Q82 s.jobs s.ledger (QX0 s.jobs)).length∧out.length<=i) (fun out i=>(Q82 s.jobs s.ledger (QX0 s.jobs)).length - i) (fun out i=>[(1,AVal.ptr 0 0 8 0 0),(2,AVal.lit (.slice none 0 0)),(3,AVal.own 1 0 1 0 out.length),(15,ints (Q82 s.jobs s.ledger (QX0 s.jobs))),(16,I ((Q82 s.jobs s.ledger (QX0 s.jobs)).length:Int)),(17,I (i:Int))]) (fun out i=>[(0,AObj.row 28 8 [[I s.now,nodeL s.nodes,jobL s.jobs,QC5 s.resizes,bookL s.books,QU2 s.ledger,I s.nextJob,I s.nextBook]]),(0,AObj.row 3 1 (out.map (fun q_=>[I q_])))]) [] 0 ((Qh1 3 1).trans (wk [0,1] (tO rfl (ts State.lo) (tO rfl (tl eqA) .nil)) (sv (Q20 0 rfl rfl) (s1 (sv (QV0 1 rfl) (sl lw (s1 (s1 .nil)))))))) ⟨foll hR rfl,by exact omA,by exact exA⟩ ?_;clear hR;rintro out i ⟨hR,hj,hx⟩;(try dsimp only at hR hj hx);refine ai (fun h1=>?_) (fun h2=>?_)
 ·have hlt:=ltA h1;rw [Q90 0 hlt] at hR;have hsl:=Qra s.jobs s.ledger (QX0 s.jobs);refine ai gkA ?_;refine us (QJ8 s.jobs ((Q82 s.jobs s.ledger (QX0 s.jobs)).getD i 0) b13a2 _) ?_;refine ai (fun h3=>?_) (fun h4=>?_)
  ·refine Or.inl ?_;(first|refine ⟨QK1 8 rfl lnA apA,?_⟩|refine ⟨QR0 8 rfl apA,?_⟩);exact Q80 (out++([((Q82 s.jobs s.ledger (QX0 s.jobs)).getD i 0)]:List Int)) (i+1) (wk [0,1] (tO rfl (ts State.lo) (tO rfl (tl eqA) .nil)) (sv (Q20 0 rfl rfl) (s1 (sv (to 1 lnA) (sl lw (s1 (sv (Q70 (I_eq (wr omA)) lx) .nil))))))) omA ⟨foll hR (congrArg (fun p:(List Int)=>QC1 p) (ct h3 rfl)),by exact omA,by exact exA⟩
  ·exact Q80 out (i+1) (wk [0,1] (tO rfl (ts State.lo) (tO rfl (tl eqA) .nil)) (sv (Q20 0 rfl rfl) (s1 (sv (to 1 lnA) (sl lw (s1 (sv (Q70 (I_eq (wr omA)) lx) .nil))))))) omA ⟨foll hR (congrArg (fun p:(List Int)=>QC1 p) (cf h4 rfl)),by exact omA,by exact exA⟩
 ·rw [Qa0 (l:=(Q82 s.jobs s.ledger (QX0 s.jobs))) (j:=i) (geA h2)] at hR;replace hR:QC1 out=R:=fo2 (fun p:(List Int)=>QC1 p) (out) hR rfl;obtain rfl:=foll hR rfl;exact rq (tt [1] (tO rfl (tl eqA) .nil) (to 0 lnA))
def Qg3 (now:List Job):List Job->List Int->Nat->(List Int)
 | [],out,_=>out
 | x_ :: r,out,i=>bif (((((QS1 now x_.id).2&&(x_.state==1))&&((QS1 now x_.id).1.state==1))&&(decide (x_.promise >= 0)))&&((decide ((QS1 now x_.id).1.promise<0))||(decide ((QS1 now x_.id).1.promise > x_.promise)))) then Qg3 now r (out++([x_.id]:List Int)) (i+1) else Qg3 now r out (i+1)
def QX3 (out:List Int):(List Int):=out
def Q74 (was:List Job) (now:List Job):(List Int):=bif (((Ql1 was)!=0)||((Ql1 now)!=0)) then [] else QX3 (Qg3 now was [] 0)
theorem Qsa (was:List Job) (now:List Job) (hs0:was.length<=4294967296∧(∀ y ∈ was,y.sz)) (hs1:now.length<=4294967296∧(∀ y ∈ now,y.sz)):GV 33 [jobL was,jobL now] (ints (Q74 was now)):=by
 generalize hR:Q74 was now=R;refine ga (.cons lw (.cons lw .nil)) lw (kp 11 [18,19,20,21,22,60]) Tryz.func33 ?_;obtain ⟨z12,z13⟩:=id hs0;obtain ⟨z14,z15⟩:=id hs1;refine us (QX5 was szA _) ?_;(first|apply u2|apply u3|apply u4|apply us);exact QX5 now szA _;refine ai (fun h1=>?_) (fun h2=>?_)
 ·obtain rfl:=foll hR (ct h1 rfl);exact Q00 lw (Qq0)
 ·refine Qg0 (fun (out:List Int) (i:Nat)=>QX3 (Qg3 now (List.drop i was) out i)=R∧i<=was.length∧out.length<=i) (fun out i=>was.length - i) (fun out i=>[(1,jobL now),(4,AVal.lit (.slice none 0 0)),(5,AVal.own 0 0 1 0 out.length),(19,jobL was),(20,I (was.length:Int)),(21,I (i:Int))]) (fun out i=>[(0,AObj.row 3 1 (out.map (fun q_=>[I q_])))]) [] 0 ((Qh1 3 1).trans (wk [0] (tO rfl (tl eqA) .nil) (sl lw (s1 (sv (QV0 0 rfl) (sl lw (s1 (s1 .nil)))))))) ⟨foll hR (cf h2 rfl),by exact omA,by exact exA⟩ ?_;clear hR;rintro out i ⟨hR,hj,hx⟩;(try dsimp only at hR hj hx);refine ai (fun h3=>?_) (fun h4=>?_)
  ·have hlt:=ltA h3;rw [Q90 Job.zero hlt] at hR;have hxz:(was.getD i Job.zero).sz:=Q72 (by first|assumption|grind) (Job.szz _);have hkz:=hxz;obtain ⟨z5,z6,z7,z8,z9⟩:=Job.zz hxz;refine ai gkA ?_;refine us (QJ8 now ((was.getD i Job.zero).id) szA _) ?_;refine ai (fun h10=>?_) (fun h11=>?_)
   ·refine Or.inl ?_;(first|refine ⟨QK1 8 rfl lnA apA,?_⟩|refine ⟨QR0 8 rfl apA,?_⟩);exact Q80 (out++([(was.getD i Job.zero).id]:List Int)) (i+1) (wk [0] (tO rfl (tl eqA) .nil) (sl lw (s1 (sv (to 0 lnA) (sl lw (s1 (sv (Q70 (I_eq (wr omA)) lx) .nil))))))) omA ⟨foll hR (congrArg (fun p:(List Int)=>QX3 p) (ct h10 rfl)),by exact omA,by exact exA⟩
   ·exact Q80 out (i+1) (wk [0] (tO rfl (tl eqA) .nil) (sl lw (s1 (sv (to 0 lnA) (sl lw (s1 (sv (Q70 (I_eq (wr omA)) lx) .nil))))))) omA ⟨foll hR (congrArg (fun p:(List Int)=>QX3 p) (cf h11 rfl)),by exact omA,by exact exA⟩
  ·rw [Qa0 (l:=was) (j:=i) (geA h4)] at hR;replace hR:QX3 out=R:=fo2 (fun p:(List Int)=>QX3 p) (out) hR rfl;obtain rfl:=foll hR rfl;exact Q00 lw (QT0 0 _ rfl eqA lnA)
theorem QE7 (now:List Job):∀ (r:List Job) (out:List Int) (i:Nat),(Qg3 now r out i).length<=out.length+r.length
 | [],out,i=>by simp [Qg3]
 | x :: r,out,i=>by
  have h1:=fun o'=>QE7 now r o' (i+1)
  rw [Qg3,Bool.cond_eq_ite]
  split <;> exact Nat.le_trans (h1 _) (by simp only [List.length_cons,List.length_append,List.length_nil];omega)
theorem Qed {a:List Job} (b:List Job) (h:a.length<=4294967296):(Q74 a b).length<=4294967296:=by
 unfold Q74
 cases (((Ql1 a)!=0)||((Ql1 b)!=0)) with
 | true=>simp
 | false =>
  have h1:=QE7 b a [] 0
  rw [List.length_nil,Nat.zero_add] at h1
  exact Nat.le_trans h1 h
def QB0 :List Int->List Int->Nat->State->(List Int) × Nat × State
 | [],ids,i,c=>(ids,i,c)
 | x_ :: r,ids,i,c=>(fun j:Job=>bif (j.promise==(-1)) then QB0 r ids (i+1) c else (fun pk:Int × Int × Bool=>bif ((!pk.2.2)||((pk.1==j.choice)&&(pk.2.1==j.promise))) then QB0 r ids (i+1) c else (fun pr:Job × Int=>QB0 r (ids++([x_]:List Int)) (i+1) { c with jobs:=(QD3 c.jobs pr.1) }) (Qw1 j pk.2.1 pk.1)) (QV5 c j j.promise)) (QO0 c.jobs x_)
def QL2 (ids:List Int) (i:Nat) (c:State):(List Job) × (List Int):=(c.jobs,ids)
def Qj1 (s:State):(List Job) × (List Int):=bif ((QI1 s)!=0) then (s.jobs,[]) else QL2 ((QB0 (Qk0 s.jobs s.ledger (Q60 s.jobs)) [] 0 s).1) ((QB0 (Qk0 s.jobs s.ledger (Q60 s.jobs)) [] 0 s).2.1) ((QB0 (Qk0 s.jobs s.ledger (Q60 s.jobs)) [] 0 s).2.2)
theorem with_sz {s:State} {p:Job} (h:s.sz) (hp:p.sz):({ s with jobs:=QD3 s.jobs p }:State).sz :=
 ⟨h.1,by show (QD3 s.jobs p).length<=_;rw [ref15_With_len];exact h.2.1,fun y hy=>(Q2b hy).elim (fun e=>e ▸ hp) (h.2.2.1 y),h.2.2.2⟩
theorem with_choice {l:List Job} {p:Job} (h:∀ y ∈ l,((y.state != 1)||(y.promise==(-1)))=false->0<=y.choice∧y.choice<((Q40 y.shape).length:Int)) (hp:((p.state != 1)||(p.promise==(-1)))=false->0<=p.choice∧p.choice<((Q40 p.shape).length:Int)) :
  ∀ y ∈ QD3 l p,((y.state != 1)||(y.promise==(-1)))=false->0<=y.choice∧y.choice<((Q40 y.shape).length:Int) :=
 fun y hy=>(Q2b hy).elim (fun e=>e ▸ hp) (h y)
theorem b13a0 {P:Prop} (h:P:=by first|((have hel:=Qv8 s.jobs;omega))|first|((exact hx.1.1))|first|((exact ⟨hx.1.1.2.1,hx.1.1.2.2.1⟩))|first|((exact hx.1.1.2.1))|first|((exact hx.1.1.2.2.1))|first|((exact hjz))|first|((exact hpz))|exact szA):P:=h
theorem b13a4 {P:Prop} (h:P:=by first|((exact ⟨hx.1,by omega⟩))|first|((exact ⟨⟨with_sz hx.1.1 hpz,with_choice hx.1.2 hpc⟩,by simp;omega⟩))|first|((exact ⟨⟨by assumption,ref15_choices (QC7 (Q7e (by assumption)))⟩,by simp⟩))|exact exA):P:=h
theorem QOf (s:State) (hs0:s.sz):GV 27 [State.a s] (AVal.tup [jobL ((Qj1 s).1),ints ((Qj1 s).2)]):=by
 generalize hR:Qj1 s=R;refine ga (.cons (State.low _ _) .nil) (Low.tup' (.cons lw (.cons lw .nil))) (kp 13 [15,29,41,64]) Tryz.func27 ?_;have hk0:=hs0;obtain ⟨z9,z10,z11,z12,z13,z14,z15⟩:=hs0;refine us (Qkc s b13a0 _) ?_;refine ai (fun h1=>?_) (fun h2=>?_)
 ·obtain rfl:=foll hR (ct h1 rfl);exact Q00 (Low.tup' (.cons lw (.cons lw .nil))) (Seen.tup (e1 (ev (Qq0) .nil)))
 ·refine dchk (by kernel_rfl) ?_;(first|apply u2|apply u3|apply u4|apply us);exact Qf6 s.jobs b13a0 _;(first|apply u2|apply u3|apply u4|apply us);exact QP7 s.jobs s.ledger (Q60 s.jobs) b13a0 b13a0 b13a0 _;(repeat ((first|refine ai rfl ?_|refine ai (fun _=>rfl) ?_|refine ai (fun _=>Qf6 s.jobs b13a0 _) ?_|refine ai (fun _=>QP7 s.jobs s.ledger (Q60 s.jobs) b13a0 b13a0 b13a0 _) ?_)));refine Qm6 (fun (ids:List Int) (i:Nat) (c:State)=>QL2 (QB0 (List.drop i (Qk0 s.jobs s.ledger (Q60 s.jobs))) ids i c).1 (QB0 (List.drop i (Qk0 s.jobs s.ledger (Q60 s.jobs))) ids i c).2.1 (QB0 (List.drop i (Qk0 s.jobs s.ledger (Q60 s.jobs))) ids i c).2.2=R∧i<=(Qk0 s.jobs s.ledger (Q60 s.jobs)).length∧(c.sz∧(∀ y ∈ c.jobs,((y.state != 1)||(y.promise==(-1)))=false->0<=y.choice∧y.choice<((Q40 y.shape).length:Int)))∧ids.length<=i) (fun ids i c=>(Qk0 s.jobs s.ledger (Q60 s.jobs)).length - i) (fun ids i c=>[(1,AVal.ptr 0 0 8 0 0),(2,AVal.lit (.slice none 0 0)),(3,AVal.lit (.slice none 0 0)),(4,AVal.own 1 0 1 0 ids.length),(5,ints (Qk0 s.jobs s.ledger (Q60 s.jobs))),(6,I (i:Int))]) (fun ids i c=>[(0,AObj.row 28 8 [[I c.now,nodeL c.nodes,jobL c.jobs,QC5 c.resizes,bookL c.books,QU2 c.ledger,I c.nextJob,I c.nextBook]]),(0,AObj.row 3 1 (ids.map (fun q_=>[I q_])))]) [] 0 s ((Qh1 3 1).trans (wk [0,1] (tO rfl (ts State.lo) (tO rfl (tl eqA) .nil)) (sv (Q20 0 rfl rfl) (s1 (s1 (sv (QV0 1 rfl) (sl lw (s1 .nil)))))))) ⟨foll hR (cf h2 rfl),by exact omA,b13a4⟩ ?_;clear hR;rintro ids i c ⟨hR,hj,hx⟩;(try dsimp only at hR hj hx);refine ai (fun h3=>?_) (fun h4=>?_)
  ·have hlt:=ltA h3;rw [Q90 0 hlt] at hR;have hsl:=QP6 s.jobs s.ledger (Q60 s.jobs);refine dchk (by kernel_rfl) ?_;refine ai gkA ?_;(first|apply u2|apply u3|apply u4|apply us);exact Qg8 c.jobs ((Qk0 s.jobs s.ledger (Q60 s.jobs)).getD i 0) b13a0 _;generalize hvj:QO0 c.jobs ((Qk0 s.jobs s.ledger (Q60 s.jobs)).getD i 0)=j;(have hjz:j.sz:=by rw [← hvj];exact QOd _ hx.1.1.2.2.1);(repeat ((first|refine ai rfl ?_|refine ai (fun _=>rfl) ?_|refine ai (fun _=>by subst hvj;exact Qg8 c.jobs ((Qk0 s.jobs s.ledger (Q60 s.jobs)).getD i 0) b13a0 _) ?_)));refine ai (fun h5=>?_) (fun h6=>?_)
   ·exact Qp2 ids (i+1) c (wk [0,1] (tO rfl (ts State.lo) (tO rfl (tl eqA) .nil)) (sv (Q20 0 rfl rfl) (s1 (s1 (sv (to 1 lnA) (sl lw (sv (Q70 (I_eq (wr omA)) lx) .nil))))))) omA ⟨foll hR (congrArg (fun p:(List Int) × Nat × State=>QL2 p.1 p.2.1 p.2.2) ((by subst hvj;exact ct h5 rfl))),by exact omA,b13a4⟩
   ·refine us (ref21_Pick_c c j j.promise b13a0 b13a0 (by exact hx.1.2) _) ?_;generalize hvpk:QV5 c j j.promise=pk;refine ai (fun h7=>?_) (fun h8=>?_)
    ·exact Qp2 ids (i+1) c (wk [0,1] (tO rfl (ts State.lo) (tO rfl (tl eqA) .nil)) (sv (Q20 0 rfl rfl) (s1 (s1 (sv (to 1 lnA) (sl lw (sv (Q70 (I_eq (wr omA)) lx) .nil))))))) omA ⟨foll hR (congrArg (fun p:(List Int) × Nat × State=>QL2 p.1 p.2.1 p.2.2) ((by subst hvj;exact cf h6 (by subst hvpk;exact ct h7 rfl)))),by exact omA,b13a4⟩
    ·refine us (QLf j pk.2.1 pk.1 b13a0 _) ?_;generalize hvpr:Qw1 j pk.2.1 pk.1=pr;have hpz:pr.1.sz:=(by rw [← hvpr];exact QP9 _ _ hjz);have hpc:=QPa j pk.2.1 pk.1;rw [hvpr] at hpc;refine us (ref15_With_c c.jobs pr.1 b13a0 b13a0 _) ?_;refine ai gkA ?_;refine Or.inl ?_;(first|refine ⟨QK1 8 rfl lnA apA,?_⟩|refine ⟨QR0 8 rfl apA,?_⟩);exact Qp2 (ids++([((Qk0 s.jobs s.ledger (Q60 s.jobs)).getD i 0)]:List Int)) (i+1) { c with jobs:=(QD3 c.jobs pr.1) } (wk [0,1] (tO rfl (ts State.lo) (tO rfl (tl eqA) .nil)) (sv (Q20 0 rfl rfl) (s1 (s1 (sv (to 1 lnA) (sl lw (sv (Q70 (I_eq (wr omA)) lx) .nil))))))) omA ⟨foll hR (congrArg (fun p:(List Int) × Nat × State=>QL2 p.1 p.2.1 p.2.2) ((by subst hvj;exact cf h6 (by subst hvpk;exact cf h8 (by subst hvpr;exact rfl))))),by exact omA,b13a4⟩
  ·rw [Qa0 (l:=(Qk0 s.jobs s.ledger (Q60 s.jobs))) (j:=i) (geA h4)] at hR;replace hR:QL2 ids i c=R:=fo2 (fun p:(List Int) × Nat × State=>QL2 p.1 p.2.1 p.2.2) (ids,i,c) hR rfl;obtain rfl:=foll hR rfl;exact Q00 (Low.tup' (.cons lw (.cons lw .nil))) (Seen.tup (e1 (ev (QT0 0 _ rfl eqA lnA) .nil)))
theorem Qh8:∀ (r ids:List Int) (i:Nat) (c:State),c.sz->(QB0 r ids i c).1.length<=ids.length+r.length∧(QB0 r ids i c).2.2.sz
 | [],ids,i,c,h=>⟨by simp [QB0],h⟩
 | x :: r,ids,i,c,h=>by
  have ih:=fun ids' c' h'=>Qh8 r ids' (i+1) c' h'
  have keep:(QB0 r ids (i+1) c).1.length<=ids.length+(x :: r).length∧(QB0 r ids (i+1) c).2.2.sz:=by
   obtain ⟨a,b⟩:=ih ids c h
   exact ⟨by simp only [List.length_cons];omega,b⟩
  rw [QB0]
  dsimp only
  repeat' first|exact keep|(rw [Bool.cond_eq_ite];split)
  obtain ⟨a,b⟩:=ih (ids++([x]:List Int)) _ (with_sz h (QP9 (QV5 c (QO0 c.jobs x) (QO0 c.jobs x).promise).2.1 (QV5 c (QO0 c.jobs x) (QO0 c.jobs x).promise).1 (QOd x h.2.2.1)))
  refine ⟨Nat.le_trans a ?_,b⟩
  simp only [List.length_append,List.length_cons,List.length_nil]
  omega
theorem Q8e {s:State} (h:s.sz):((Qj1 s).1.length<=4294967296 ∧ ∀ y ∈ (Qj1 s).1,y.sz)∧(Qj1 s).2.length<=4294967296:=by
 unfold Qj1
 cases ((QI1 s)!=0) with
 | true=>exact ⟨⟨h.2.1,h.2.2.1⟩,by simp⟩
 | false =>
  obtain ⟨a,b⟩:=Qh8 (Qk0 s.jobs s.ledger (Q60 s.jobs)) [] 0 s h
  have hp:=QP6 s.jobs s.ledger (Q60 s.jobs)
  have hl:=h.2.1
  rw [List.length_nil,Nat.zero_add] at a
  exact ⟨⟨b.2.1,b.2.2.1⟩,Nat.le_trans a (Nat.le_trans hp hl)⟩
def QK2 (s:State):List Int->List Int->Nat->(List Int) × Nat
 | [],out,i=>(out,i)
 | x_ :: r,out,i=>bif ((decide ((QO0 s.jobs x_).promise >= 0))&&(decide ((QO0 s.jobs x_).promise<=s.now))) then QK2 s r (out++([x_]:List Int)) (i+1) else QK2 s r out (i+1)
def QB5 (out:List Int) (i:Nat):(List Int):=out
def QA5 (s:State):(List Int):=bif ((QI1 s)!=0) then [] else QB5 ((QK2 s (Qk0 s.jobs s.ledger (Q60 s.jobs)) [] 0).1) ((QK2 s (Qk0 s.jobs s.ledger (Q60 s.jobs)) [] 0).2)
theorem b13a1 {P:Prop} (h:P:=by first|((have hel:=Qv8 s.jobs;omega))|exact szA):P:=h
theorem QNf (s:State) (hs0:s.sz):GV 31 [State.a s] (ints (QA5 s)):=by
 generalize hR:QA5 s=R;refine ga (.cons (State.low _ _) .nil) lw (kp 7 [9,21,40]) Tryz.func31 ?_;have hk0:=hs0;obtain ⟨z7,z8,z9,z10,z11,z12,z13⟩:=hs0;refine us (Qkc s b13a1 _) ?_;refine ai (fun h1=>?_) (fun h2=>?_)
 ·obtain rfl:=foll hR (ct h1 rfl);exact Q00 lw (Qq0)
 ·refine dchk (by kernel_rfl) ?_;(first|apply u2|apply u3|apply u4|apply us);exact Qf6 s.jobs b13a1 _;(first|apply u2|apply u3|apply u4|apply us);exact QP7 s.jobs s.ledger (Q60 s.jobs) b13a1 b13a1 b13a1 _;(repeat ((first|refine ai rfl ?_|refine ai (fun _=>rfl) ?_|refine ai (fun _=>Qf6 s.jobs b13a1 _) ?_|refine ai (fun _=>QP7 s.jobs s.ledger (Q60 s.jobs) b13a1 b13a1 b13a1 _) ?_)));refine Qg0 (fun (out:List Int) (i:Nat)=>QB5 (QK2 s (List.drop i (Qk0 s.jobs s.ledger (Q60 s.jobs))) out i).1 (QK2 s (List.drop i (Qk0 s.jobs s.ledger (Q60 s.jobs))) out i).2=R∧i<=(Qk0 s.jobs s.ledger (Q60 s.jobs)).length∧out.length<=i) (fun out i=>(Qk0 s.jobs s.ledger (Q60 s.jobs)).length - i) (fun out i=>[(1,AVal.ptr 0 0 8 0 0),(2,AVal.lit (.slice none 0 0)),(3,AVal.own 1 0 1 0 out.length),(4,ints (Qk0 s.jobs s.ledger (Q60 s.jobs))),(5,I (i:Int))]) (fun out i=>[(0,AObj.row 28 8 [[I s.now,nodeL s.nodes,jobL s.jobs,QC5 s.resizes,bookL s.books,QU2 s.ledger,I s.nextJob,I s.nextBook]]),(0,AObj.row 3 1 (out.map (fun q_=>[I q_])))]) [] 0 ((Qh1 3 1).trans (wk [0,1] (tO rfl (ts State.lo) (tO rfl (tl eqA) .nil)) (sv (Q20 0 rfl rfl) (s1 (sv (QV0 1 rfl) (sl lw (s1 .nil))))))) ⟨foll hR (cf h2 rfl),by exact omA,by exact exA⟩ ?_;clear hR;rintro out i ⟨hR,hj,hx⟩;(try dsimp only at hR hj hx);refine ai (fun h3=>?_) (fun h4=>?_)
  ·have hlt:=ltA h3;rw [Q90 0 hlt] at hR;have hsl:=QP6 s.jobs s.ledger (Q60 s.jobs);refine dchk (by kernel_rfl) ?_;refine ai gkA ?_;(first|apply u2|apply u3|apply u4|apply us);exact Qg8 s.jobs ((Qk0 s.jobs s.ledger (Q60 s.jobs)).getD i 0) b13a1 _;(repeat ((first|refine ai rfl ?_|refine ai (fun _=>rfl) ?_|refine ai (fun _=>Qg8 s.jobs ((Qk0 s.jobs s.ledger (Q60 s.jobs)).getD i 0) b13a1 _) ?_)));refine ai (fun h5=>?_) (fun h6=>?_)
   ·refine ai gkA ?_;refine Or.inl ?_;(first|refine ⟨QK1 8 rfl lnA apA,?_⟩|refine ⟨QR0 8 rfl apA,?_⟩);exact Q80 (out++([((Qk0 s.jobs s.ledger (Q60 s.jobs)).getD i 0)]:List Int)) (i+1) (wk [0,1] (tO rfl (ts State.lo) (tO rfl (tl eqA) .nil)) (sv (Q20 0 rfl rfl) (s1 (sv (to 1 lnA) (sl lw (sv (Q70 (I_eq (wr omA)) lx) .nil)))))) omA ⟨foll hR (congrArg (fun p:(List Int) × Nat=>QB5 p.1 p.2) (ct h5 rfl)),by exact omA,by exact exA⟩
   ·exact Q80 out (i+1) (wk [0,1] (tO rfl (ts State.lo) (tO rfl (tl eqA) .nil)) (sv (Q20 0 rfl rfl) (s1 (sv (to 1 lnA) (sl lw (sv (Q70 (I_eq (wr omA)) lx) .nil)))))) omA ⟨foll hR (congrArg (fun p:(List Int) × Nat=>QB5 p.1 p.2) (cf h6 rfl)),by exact omA,by exact exA⟩
  ·rw [Qa0 (l:=(Qk0 s.jobs s.ledger (Q60 s.jobs))) (j:=i) (geA h4)] at hR;replace hR:QB5 out i=R:=fo2 (fun p:(List Int) × Nat=>QB5 p.1 p.2) (out,i) hR rfl;obtain rfl:=foll hR rfl;exact Q00 lw (QT0 0 _ rfl eqA lnA)
theorem QQ9 (s:State):∀ (r out:List Int) (i:Nat),(QK2 s r out i).1.length<=out.length+r.length
 | [],out,i=>by simp [QK2]
 | x :: r,out,i=>by
  have h1:=fun o'=>QQ9 s r o' (i+1)
  rw [QK2,Bool.cond_eq_ite]
  split <;> exact Nat.le_trans (h1 _) (by simp only [List.length_cons,List.length_append,List.length_nil];omega)
theorem ref22_Due_len {s:State} (h:s.sz):(QA5 s).length<=4294967296:=by
 unfold QA5
 cases ((QI1 s)!=0) with
 | true=>simp
 | false =>
  have h1:=QQ9 s (Qk0 s.jobs s.ledger (Q60 s.jobs)) [] 0
  have hp:=QP6 s.jobs s.ledger (Q60 s.jobs)
  have hl:=h.2.1
  rw [List.length_nil,Nat.zero_add] at h1
  exact Nat.le_trans h1 (Nat.le_trans hp hl)
end Go.Proofs.YtjpgfmbccohngaaGreatDoor
namespace Go.Proofs.YtjpgfmbccohngaaGreatDoor
set_option linter.unusedSimpArgs false
set_option linter.unusedVariables false
open Go.Fw
set_option maxRecDepth 20000
set_option maxHeartbeats 4000000
attribute [local irreducible] ACalls AMoves
def Q73 :List Book->Nat->Taken->Taken
 | [],_,c=>c
 | x_ :: r,i,c=>Q73 r (i+1) (Qq1 c x_.from_ x_.to x_.nodes)
def QM2 (except:List Int):List Job->Nat->Taken->Taken
 | [],_,c2=>c2
 | x_1 :: r,i1,c2=>bif (!(Q21 except x_1.id)) then bif (Qn0 x_1).2.2.2 then QM2 except r (i1+1) (Qq1 c2 ((Qn0 x_1).1) (w64 ((Qn0 x_1).1+(Qn0 x_1).2.1)) ((Qn0 x_1).2.2.1)) else QM2 except r (i1+1) c2 else QM2 except r (i1+1) c2
def QK4 (c2:Taken):(List Step):=c2.p
def QC6 (s:State) (except:List Int) (c:Taken):(List Step):=QK4 (QM2 except s.jobs 0 c)
def QG2 (s:State) (except:List Int):(List Step):=QC6 s except (Q73 s.books 0 (⟨(Q54 s)⟩:Taken))
theorem take_nil (f t n:Int):Qq1 (⟨[]⟩:Taken) f t n=⟨[]⟩:=by
 unfold Qq1
 cases ((decide (t<=f))||(n==0)) <;> rfl
theorem room_Room_nil {s:State} {except:List Int} (h:(Q54 s).length=0):QG2 s except=[]:=by
 have g1:∀ (l:List Book) (i:Nat),Q73 l i (⟨[]⟩:Taken)=⟨[]⟩:=by
  intro l
  induction l with
  | nil=>intro i;rfl
  | cons x r ih=>intro i;rw [Q73,take_nil];exact ih _
 have g2:∀ (l:List Job) (i:Nat),QM2 except l i (⟨[]⟩:Taken)=⟨[]⟩:=by
  intro l
  induction l with
  | nil=>intro i;rfl
  | cons x r ih =>
   intro i
   rw [QM2,take_nil]
   repeat' first|exact ih _|(rw [Bool.cond_eq_ite];split)
 unfold QG2 QC6 QK4
 rw [List.eq_nil_of_length_eq_zero h,g1,g2]
theorem b14a0 {P:Prop} (h:P:=by first|(((try dsimp only);exact QM9 (by assumption)))|first|(((try dsimp only);exact QM9 hx))|first|(exact QU4 _)|exact exA):P:=h
theorem room_Room_c (s:State) (except:List Int) (hs0:s.sz) (hs1:except.length<=4294967296):GV 47 [State.a s,ints except] (stepL (QG2 s except)):=by
 generalize hR:QG2 s except=R;refine ga (.cons (State.low _ _) (.cons lw .nil)) lw (kp 12 [15,21,22,23,24,37,38,39,40,47]) Tryz.func47 ?_;have hk0:=hs0;obtain ⟨z14,z15,z16,z17,z18,z19,z20⟩:=hs0;have hk1:=hs1;obtain z21:except.length<=4294967296:=hs1;refine us (room_Busy_c s (by first|(exact QU4 _)|exact szA) _) ?_;intro nb3 hb3
 cases nb3
 ·refine ai (fun h=>nomatch h) (fun _=>?_);refine Qg0 (fun (i:Nat) (c:Taken)=>QC6 s except (Q73 (List.drop i s.books) i c)=R∧i<=s.books.length∧c.p.length<=4294967296) (fun i c=>s.books.length - i) (fun i c=>[(1,ints except),(2,AVal.ptr 0 0 8 0 0),(4,AVal.lit (.slice none 0 0)),(6,AVal.ptr 2 0 1 0 0),(7,AVal.fn (.func 106) [] [AVal.ptr 2 0 1 0 0]),(21,bookL s.books),(22,I (s.books.length:Int)),(23,I (i:Int))]) (fun i c=>[(0,AObj.row 28 8 [[I s.now,nodeL s.nodes,jobL s.jobs,QC5 s.resizes,bookL s.books,QU2 s.ledger,I s.nextJob,I s.nextBook]]),(0,AObj.row 132 1 [[stepL c.p]]),(0,AObj.row 130 1 [[AVal.ptr 1 0 1 0 0]])]) 0 (⟨(Q54 s)⟩:Taken) (wk [0,1,2] (tO rfl (ts State.lo) (tO rfl (ts Taken.lo) (tO rfl (QC0 (cv (Q20 1 rfl rfl) .nil)) .nil))) (sl lw (sv (Q20 0 rfl rfl) (s1 (sv (Q20 2 rfl rfl) (sv (Q31 .nil (cv (Q20 2 rfl rfl) .nil)) (sl lw (s1 (s1 .nil))))))))) ⟨foll hR rfl,by exact omA,b14a0⟩ ?_;clear hR;rintro i c ⟨hR,hj,hx⟩;(try dsimp only at hR hj hx);refine ai (fun h1=>?_) (fun h2=>?_)
  ·have hlt:=ltA h1;rw [Q90 Book.zero hlt] at hR;refine ai gkA ?_;refine us (mv [1] (Q87 c ((s.books.getD i Book.zero).from_) ((s.books.getD i Book.zero).to) ((s.books.getD i Book.zero).nodes) (by first|(exact QU4 _)|exact szA)) (dO (ds Taken.lo) .nil) (dp (d1 (d1 (d1 .nil)))) (rO (re Taken.lo) .nil) rx) ?_;exact Q80 (i+1) (Qq1 c (s.books.getD i Book.zero).from_ (s.books.getD i Book.zero).to (s.books.getD i Book.zero).nodes) (wk [0,1,2] (tO rfl (ts State.lo) (tO rfl (ts Taken.lo) (tO rfl (QC0 (cv (Q20 1 rfl rfl) .nil)) .nil))) (sl lw (sv (Q20 0 rfl rfl) (s1 (sv (Q20 2 rfl rfl) (sv (Q31 .nil (cv (Q20 2 rfl rfl) .nil)) (sl lw (s1 (sv (Q70 (I_eq (wr omA)) lx) .nil))))))))) omA ⟨foll hR (congrArg (fun p:Taken=>QC6 s except p) rfl),by exact omA,b14a0⟩
  ·rw [Qa0 (l:=s.books) (j:=i) (geA h2)] at hR;replace hR:QC6 s except c=R:=fo2 (fun p:Taken=>QC6 s except p) (c) hR rfl;refine Qg0 (fun (i1:Nat) (c2:Taken)=>QK4 (QM2 except (List.drop i1 s.jobs) i1 c2)=R∧i1<=s.jobs.length∧c2.p.length<=4294967296) (fun i1 c2=>s.jobs.length - i1) (fun i1 c2=>[(1,ints except),(4,AVal.lit (.slice none 0 0)),(6,AVal.ptr 1 0 1 0 0),(7,AVal.fn (.func 106) [] [AVal.ptr 1 0 1 0 0]),(37,jobL s.jobs),(38,I (s.jobs.length:Int)),(39,I (i1:Int))]) (fun i1 c2=>[(0,AObj.row 132 1 [[stepL c2.p]]),(0,AObj.row 130 1 [[AVal.ptr 0 0 1 0 0]])]) 0 c (wk [1,2] (tO rfl (ts Taken.lo) (tO rfl (QC0 (cv (Q20 0 rfl rfl) .nil)) .nil)) (sl lw (s1 (sv (Q20 1 rfl rfl) (sv (Q31 .nil (cv (Q20 1 rfl rfl) .nil)) (sl lw (s1 (s1 .nil)))))))) ⟨foll hR rfl,by exact omA,b14a0⟩ ?_;clear hR;rintro i1 c2 ⟨hR,hj,hx⟩;(try dsimp only at hR hj hx);refine ai (fun h3=>?_) (fun h4=>?_)
   ·have hlt:=ltA h3;rw [Q90 Job.zero hlt] at hR;have hxz:(s.jobs.getD i1 Job.zero).sz:=Q72 (by first|assumption|grind) (Job.szz _);have hkz:=hxz;obtain ⟨z5,z6,z7,z8,z9⟩:=Job.zz hxz;refine ai gkA ?_;refine us (QY1 except ((s.jobs.getD i1 Job.zero).id) (by first|(exact QU4 _)|exact szA) _) ?_;refine ai (fun h10=>?_) (fun h11=>?_)
    ·refine ACalls.of_cwp (fun _=>true) Tryz.func106 rfl rfl ?_;refine us (Qna (s.jobs.getD i1 Job.zero) (by first|(exact QU4 _)|exact szA) _) ?_;refine ai (fun h12=>?_) (fun h13=>?_)
     ·refine us (mv [0] (Q87 c2 ((Qn0 (s.jobs.getD i1 Job.zero)).1) (w64 ((Qn0 (s.jobs.getD i1 Job.zero)).1+(Qn0 (s.jobs.getD i1 Job.zero)).2.1)) ((Qn0 (s.jobs.getD i1 Job.zero)).2.2.1) (by first|(exact QU4 _)|exact szA)) (dO (ds Taken.lo) .nil) (dp (d1 (d1 (d1 .nil)))) (rO (re Taken.lo) .nil) rx) ?_;refine ⟨_,_,Told.refl,?_⟩;exact Q80 (i1+1) (Qq1 c2 ((Qn0 (s.jobs.getD i1 Job.zero)).1) (w64 ((Qn0 (s.jobs.getD i1 Job.zero)).1+(Qn0 (s.jobs.getD i1 Job.zero)).2.1)) ((Qn0 (s.jobs.getD i1 Job.zero)).2.2.1)) (wk [0,1] (tO rfl (ts Taken.lo) (tO rfl (QC0 (cv (Q20 0 rfl rfl) .nil)) .nil)) (sl lw (s1 (sv (Q20 1 rfl rfl) (sv (Q31 .nil (cv (Q20 1 rfl rfl) .nil)) (sl lw (s1 (sv (Q70 (I_eq (wr omA)) lx) .nil)))))))) omA ⟨foll hR (congrArg (fun p:Taken=>QK4 p) (ct h10 (ct h12 rfl))),by exact omA,b14a0⟩
     ·refine ⟨_,_,Told.refl,?_⟩;exact Q80 (i1+1) c2 (wk [0,1] (tO rfl (ts Taken.lo) (tO rfl (QC0 (cv (Q20 0 rfl rfl) .nil)) .nil)) (sl lw (s1 (sv (Q20 1 rfl rfl) (sv (Q31 .nil (cv (Q20 1 rfl rfl) .nil)) (sl lw (s1 (sv (Q70 (I_eq (wr omA)) lx) .nil)))))))) omA ⟨foll hR (congrArg (fun p:Taken=>QK4 p) (ct h10 (cf h13 rfl))),by exact omA,b14a0⟩
    ·exact Q80 (i1+1) c2 (wk [0,1] (tO rfl (ts Taken.lo) (tO rfl (QC0 (cv (Q20 0 rfl rfl) .nil)) .nil)) (sl lw (s1 (sv (Q20 1 rfl rfl) (sv (Q31 .nil (cv (Q20 1 rfl rfl) .nil)) (sl lw (s1 (sv (Q70 (I_eq (wr omA)) lx) .nil)))))))) omA ⟨foll hR (congrArg (fun p:Taken=>QK4 p) (cf h11 rfl)),by exact omA,b14a0⟩
   ·rw [Qa0 (l:=s.jobs) (j:=i1) (geA h4)] at hR;replace hR:QK4 c2=R:=fo2 (fun p:Taken=>QK4 p) (c2) hR rfl;obtain rfl:=foll hR rfl;exact Q00 lw sr
 ·have hl3:(Q54 s).length=0:=Decidable.byContradiction fun hn=>absurd (hb3 hn) (by decide);refine ai (fun _=>?_) (fun h=>nomatch h);obtain rfl:=foll hR (room_Room_nil hl3);exact Q00 lw (Qq0)
theorem room_Room_len (s:State) (ex:List Int):(QG2 s ex).length<=4294967296:=by
 have g1:∀ (l:List Book) (i:Nat) (t:Taken),t.p.length<=4294967296->(Q73 l i t).p.length<=4294967296:=by
  intro l
  induction l with
  | nil=>intro i t h;exact h
  | cons x r ih=>intro i t h;rw [Q73];exact ih _ _ (QM9 h)
 have g2:∀ (l:List Job) (i:Nat) (t:Taken),t.p.length<=4294967296->(QM2 ex l i t).p.length<=4294967296:=by
  intro l
  induction l with
  | nil=>intro i t h;exact h
  | cons x r ih =>
   intro i t h
   rw [QM2]
   repeat' first|exact ih _ _ h|exact ih _ _ (QM9 h)|(rw [Bool.cond_eq_ite];split)
 exact g2 _ _ _ (g1 _ _ _ (QU4 s))
def Qy2 (s:State):Nat->Int->Nat->List Int->Int × Nat × (List Int)
 | 0,_,_,_=>(0,0,[])
 | m+1,i1,j,c=>bif (decide ((j:Int)<(c.length:Int))) then bif (!(decide ((QS1 s.jobs (c.getD j 0)).1.promise > s.now))) then Qy2 s m (w64 (i1+1)) (j+1) (c.set (Int.toNat i1) (c.getD j 0)) else Qy2 s m i1 (j+1) c else (i1,j,c)
def Qo4 (s:State):List Int->Nat->(List Int)
 | [],_=>(Q10 s)
 | _ :: r,i=>bif (decide ((QS1 s.jobs ((Q10 s).getD i 0)).1.promise > s.now)) then bif ((i:Int)==(-1)) then (Q10 s) else (fun p1:Int × Nat × (List Int)=>(List.take (Int.toNat p1.1) p1.2.2)) (Qy2 s ((Int.toNat (((Q10 s).length:Int) - ((i+1):Int)))+1) (i:Int) (i+1) (Q10 s)) else Qo4 s r (i+1)
def Q92 (s:State):(List Int):=bif ((Q42 s)!=0) then [] else Qo4 s (Q10 s) 0
theorem b14a1 {P:Prop} (h:P:=by first|((refine ⟨?_,?_⟩ <;> first|(rw [hw1];simp;omega)|(simp;omega)|omega))|first|((rw [hw1];simp;omega))|exact exA):P:=h
theorem QK9 (s:State) (hs0:s.sz):GV 30 [State.a s] (ints (Q92 s)):=by
 generalize hR:Q92 s=R;refine ga (.cons (State.low _ _) .nil) lw (kp 3 [5]) Tryz.func30 ?_;have hk0:=hs0;obtain ⟨z13,z14,z15,z16,z17,z18,z19⟩:=hs0;have hpl:=Qq4 s;refine us (QCd s (by first|((exact ⟨z21,z22⟩))|exact szA) _) ?_;refine ai (fun h1=>?_) (fun h2=>?_)
 ·obtain rfl:=foll hR (ct h1 rfl);exact Q00 lw (Qq0)
 ·refine us (mv [] (QI8 s (by first|((exact ⟨z21,z22⟩))|exact szA)) .nil (dv (Qp7 (Low.agg' (State.lo))) .nil) (rO rr .nil) (rw_ 1 0 rfl)) ?_;refine ACalls.of_cwp (fun _=>true) Tryz.func90 rfl rfl ?_;refine ACalls.of_cwp (fun _=>true) Tryz.func157 rfl rfl ?_;refine Qf0 (fun (i:Nat)=>Qo4 s (List.drop i (Q10 s)) i=R∧i<=(Q10 s).length) (fun i=>(Q10 s).length - i) (fun i=>[(0,AVal.own 1 0 1 0 ((Q10 s).length)),(1,AVal.fn (.func 91) [] [AVal.ptr 0 0 8 0 0]),(4,I 0),(7,I ((Q10 s).length:Int)),(8,I (i:Int))]) (fun i=>[(0,AObj.row 28 8 [[I s.now,nodeL s.nodes,jobL s.jobs,QC5 s.resizes,bookL s.books,QU2 s.ledger,I s.nextJob,I s.nextBook]]),(0,AObj.row 3 1 ((Q10 s).map (fun q_=>[I q_])))]) 0 (wk [0,1] (tO rfl (ts State.lo) (tO rfl (tl eqA) .nil)) (sv (to 1 lnA) (sv (Q31 .nil (cv (Q20 0 rfl rfl) .nil)) (s1 (s1 (s1 .nil)))))) ⟨foll hR (cf h2 rfl),by first|((dsimp only;rw [hw1];omega))|exact omA⟩ ?_;clear hR;rintro i ⟨hR,hj⟩;(try dsimp only at hR hj);refine ai (fun h3=>?_) (fun h4=>?_)
  ·have hlt:=ltA h3;rw [Q90 0 hlt] at hR;refine ai gkA ?_;refine ⟨_,QT1 rfl rfl rfl (Ql2 0 i (by first|rfl|exact Nat.zero_add _|omega) ckA) rfl,?_⟩;refine ACalls.of_cwp (fun _=>true) Tryz.func91 rfl rfl ?_;refine us (QJ8 s.jobs ((Q10 s).getD i 0) (by first|((exact ⟨z21,z22⟩))|exact szA) _) ?_;refine ⟨_,_,Told.refl,?_⟩;refine ai (fun h5=>?_) (fun h6=>?_)
   ·have qh5:=of_decide_eq_true h5;refine ⟨_,_,Told.refl,?_⟩;refine ai (fun h7=>?_) (fun h8=>?_)
    ·refine ⟨_,_,Told.refl,?_⟩;obtain rfl:=foll hR (ct h5 (ct h7 rfl));exact Q00 lw (QT0 0 _ rfl eqA lnA)
    ·refine Qm6 (fun (i1:Int) (j:Nat) (c:List Int)=>∃ m,(Int.toNat ((c.length:Int) - (j:Int)))<m∧(fun p1:Int × Nat × (List Int)=>(List.take (Int.toNat p1.1) p1.2.2)) (Qy2 s m i1 j c)=R∧(0<=i1∧i1<=(j:Int)∧(j:Int)<=(c.length:Int)∧c.length=(Q10 s).length)∧c.length=(Q10 s).length) (fun i1 j c=>(Int.toNat ((c.length:Int) - (j:Int)))) (fun i1 j c=>[(0,AVal.own 1 0 1 0 c.length),(1,AVal.fn (.func 91) [] [AVal.ptr 0 0 8 0 0]),(4,AVal.lit (.slice none 0 0)),(5,I i1),(6,I (j:Int))]) (fun i1 j c=>[(0,AObj.row 28 8 [[I s.now,nodeL s.nodes,jobL s.jobs,QC5 s.resizes,bookL s.books,QU2 s.ledger,I s.nextJob,I s.nextBook]]),(0,AObj.row 3 1 (c.map (fun q_=>[I q_])))]) (i:Int) (i+1) (Q10 s) (wk [0,1] (tO rfl (ts State.lo) (tO rfl (tl eqA) .nil)) (sv (to 1 lnA) (sv (Q31 .nil (cv (Q20 0 rfl rfl) .nil)) (s1 (s1 (sv (Q70 (I_eq (wr (by first|((dsimp only;rw [hw1];omega))|exact omA))) lx) .nil)))))) ⟨_,Nat.lt_succ_self _,foll hR (ct h5 (cf h8 rfl)),b14a1⟩ ?_;clear hR;rintro i1 j c ⟨m,hm,hR,hx⟩;(try dsimp only at hR hm hx);obtain ⟨m,rfl⟩:=sucA m;refine ai (fun h9=>?_) (fun h10=>?_)
     ·have qh9:=of_decide_eq_true h9;have hw1:w64 (i1+1)=i1+1:=wr (by omega);refine ai gkA ?_;refine ⟨_,QT1 rfl rfl rfl (Ql2 0 j (by first|rfl|exact Nat.zero_add _|omega) ckA) rfl,?_⟩;refine ACalls.of_cwp (fun _=>true) Tryz.func91 rfl rfl ?_;refine us (QJ8 s.jobs (c.getD j 0) (by first|((exact ⟨z21,z22⟩))|exact szA) _) ?_;refine ⟨_,_,Told.refl,?_⟩;refine ai (fun h11=>?_) (fun h12=>?_)
      ·refine ai gkA ?_;refine ⟨_,QF4 rfl rfl rfl rfl (Ql2 0 (Int.toNat i1) (by first|rfl|exact Nat.zero_add _|omega) ckA) rfl rfl (set_map (Int.toNat i1) (c.getD j 0) (by first|rfl|exact Nat.zero_add _|omega) rfl),?_⟩;exact Qp2 (w64 (i1+1)) (j+1) (c.set (Int.toNat i1) (c.getD j 0)) (wk [0,1] (tO rfl (ts State.lo) (tO rfl (tl eqA) .nil)) (sv (to 1 lnA) (sv (Q31 .nil (cv (Q20 0 rfl rfl) .nil)) (s1 (s1 (sv (Q70 (I_eq (wr (by first|((dsimp only;rw [hw1];omega))|exact omA))) lx) .nil)))))) (by first|((dsimp only;rw [hw1];omega))|exact omA) ⟨m,by first|((dsimp only;rw [hw1];omega))|exact omA,foll hR (congrArg (fun p1:Int × Nat × (List Int)=>(List.take (Int.toNat p1.1) p1.2.2)) (ct h9 (ct h11 rfl))),b14a1⟩
      ·exact Qp2 i1 (j+1) c (wk [0,1] (tO rfl (ts State.lo) (tO rfl (tl eqA) .nil)) (sv (to 1 lnA) (sv (Q31 .nil (cv (Q20 0 rfl rfl) .nil)) (s1 (s1 (sv (Q70 (I_eq (wr (by first|((dsimp only;rw [hw1];omega))|exact omA))) lx) .nil)))))) (by first|((dsimp only;rw [hw1];omega))|exact omA) ⟨m,by first|((dsimp only;rw [hw1];omega))|exact omA,foll hR (congrArg (fun p1:Int × Nat × (List Int)=>(List.take (Int.toNat p1.1) p1.2.2)) (ct h9 (cf h12 rfl))),b14a1⟩
     ·have qh10:=of_decide_eq_false h10;replace hR:(fun p1:Int × Nat × (List Int)=>(List.take (Int.toNat p1.1) p1.2.2)) (i1,j,c)=R:=foll hR (congrArg (fun p1:Int × Nat × (List Int)=>(List.take (Int.toNat p1.1) p1.2.2)) (cf h10 rfl));refine ai gkA ?_;refine And.intro (And.intro (by (simp only [List.length_map,List.length_set,Int.toNat_natCast,Option.getD_some,Option.getD_none];omega)) rfl) ?_;refine ai gkA ?_;refine ⟨_,_,Told.refl,?_⟩;obtain rfl:=foll hR rfl;exact Q00 lw (QT0 0 _ rfl eqA lnA)
   ·have qh6:=of_decide_eq_false h6;exact Qj0 (i+1) (wk [0,1] (tO rfl (ts State.lo) (tO rfl (tl eqA) .nil)) (sv (to 1 lnA) (sv (Q31 .nil (cv (Q20 0 rfl rfl) .nil)) (s1 (s1 (sv (Q70 (I_eq (wr (by first|((dsimp only;rw [hw1];omega))|exact omA))) lx) .nil)))))) (by first|((dsimp only;rw [hw1];omega))|exact omA) ⟨foll hR (cf h6 rfl),by first|((dsimp only;rw [hw1];omega))|exact omA⟩
  ·rw [Qa0 (l:=(Q10 s)) (j:=i) (geA h4)] at hR;refine ⟨_,_,Told.refl,?_⟩;refine ai (fun _=>?_) (fun h=>nomatch h);refine ⟨_,_,Told.refl,?_⟩;obtain rfl:=foll hR rfl;exact Q00 lw (QT0 0 _ rfl eqA lnA)
theorem QG8 (s:State):∀ (m:Nat) (i1:Int) (j:Nat) (c:List Int),(Qy2 s m i1 j c).2.2.length<=c.length
 | 0,_,_,_=>by simp [Qy2]
 | m+1,i1,j,c=>by
  have h1:=fun a c'=>QG8 s m a (j+1) c'
  rw [Qy2]
  repeat' first|exact h1 _ _|exact Nat.le_refl _|exact Nat.le_trans (h1 _ _) (by simp)|(rw [Bool.cond_eq_ite];split)
theorem QF8 (s:State):∀ (r:List Int) (i:Nat),(Qo4 s r i).length<=(Q10 s).length
 | [],i=>Nat.le_refl _
 | x :: r,i=>by
  rw [Qo4]
  dsimp only
  repeat' first|exact QF8 s r (i+1)|exact Nat.le_refl _|exact Nat.le_trans (List.length_take_le' ..) (QG8 ..)|(rw [Bool.cond_eq_ite];split)
theorem Qag {s:State} (h:s.sz):(Q92 s).length<=4294967296:=by
 unfold Q92
 cases ((Q42 s)!=0) with
 | true=>simp
 | false=>exact Nat.le_trans (QF8 s _ 0) (Nat.le_trans (Qq4 s) h.2.1)
end Go.Proofs.YtjpgfmbccohngaaGreatDoor
namespace Go.Proofs.YtjpgfmbccohngaaGreatDoor
set_option linter.unusedSimpArgs false
set_option linter.unusedVariables false
open Go.Fw
set_option maxRecDepth 20000
set_option maxHeartbeats 4000000
attribute [local irreducible] ACalls AMoves
def QP1 (s:State):List Job->Nat->List (Int × Int)->(List (Int × Int))
 | [],_,c=>c
 | _ :: r,i,c=>QP1 s r (i+1) (setM ((s.jobs.getD i Job.zero).id) (i:Int) c)
def Qm0 (s:State) (c:List (Int × Int)):List Int->List Step->List Int->Nat->List Job->(List Step) × (List Int) × (List Job)
 | [],left,ids,_,c2=>(left,ids,c2)
 | _ :: r,left,ids,i1,c2=>(fun cl:Int × Int × Int × Bool=>(fun own:(List Step) × Int=>bif (own.2 != 0) then Qm0 s c r left ids (i1+1) c2 else (fun best:Int × Int × Bool=>bif ((!best.2.2)||((best.1==(c2.getD (Int.toNat ((getM ((Q10 s).getD i1 0) c).getD 0)) Job.zero).choice)&&(best.2.1==(c2.getD (Int.toNat ((getM ((Q10 s).getD i1 0) c).getD 0)) Job.zero).promise))) then Qm0 s c r left ids (i1+1) c2 else (fun pr:Job × Int=>bif (pr.2 != 0) then Qm0 s c r left ids (i1+1) c2 else (fun cl1:Int × Int × Int × Bool=>(fun tk:(List Step) × Int=>bif (tk.2==0) then Qm0 s c r tk.1 (ids++([((Q10 s).getD i1 0)]:List Int)) (i1+1) (c2.set (Int.toNat ((getM ((Q10 s).getD i1 0) c).getD 0)) pr.1) else Qm0 s c r tk.1 ids (i1+1) c2) (QG6 own.1 cl1.1 cl1.2.1 cl1.2.2.1)) (Qn0 pr.1)) (Qa4 (c2.getD (Int.toNat ((getM ((Q10 s).getD i1 0) c).getD 0)) Job.zero) best.2.1 best.1)) (QF6 own.1 (QH0 ((c2.getD (Int.toNat ((getM ((Q10 s).getD i1 0) c).getD 0)) Job.zero).shape)) s.now ((c2.getD (Int.toNat ((getM ((Q10 s).getD i1 0) c).getD 0)) Job.zero).promise) 12)) (Qx1 left cl.1 (w64 (cl.1+cl.2.1)) cl.2.2.1)) (Qn0 (c2.getD (Int.toNat ((getM ((Q10 s).getD i1 0) c).getD 0)) Job.zero))
def Qz1 (left:List Step) (ids:List Int) (c2:List Job):(List Job) × (List Int):=(c2,ids)
def Qc3 (s:State) (c:List (Int × Int)):(List Job) × (List Int):=Qz1 ((Qm0 s c (Q10 s) (QG2 s []) [] 0 s.jobs).1) ((Qm0 s c (Q10 s) (QG2 s []) [] 0 s.jobs).2.1) ((Qm0 s c (Q10 s) (QG2 s []) [] 0 s.jobs).2.2)
def Qd0 (s:State):(List Job) × (List Int):=bif ((Q42 s)!=0) then (s.jobs,[]) else Qc3 s (QP1 s s.jobs 0 [])
theorem Q7d (s:Shape) (h:s.sz):(QH0 s).length<=4294967296:=by
 unfold QH0
 cases h1:(QX1 s != 0) with
 | true=>simp
 | false =>
  cases hk:(s.kind==3) with
  | false=>exact h
  | true =>
   obtain ⟨a,b,c⟩:=Qi8 h1 hk
   have hz:s.alts.length=0:=by
    have hk':s.kind=3:=by simpa using hk
    simp only [QX1,hk'] at h1
    revert h1
    cases h2:(((((s.alts.length:Int)==0)&&(decide (s.min<=s.max)))&&(Q91 (⟨s.min,s.wall⟩:Alt)))&&(decide (s.max<=48))) with
    | false=>simp [h2,QZ1]
    | true =>
     intro _
     simp at h2
     simp [h2.1.1.1]
   simp only [cond_false,cond_true,List.length_append,hz,QF5,List.length_map,List.length_range]
   omega
theorem b15a0 {P:Prop} (h:P:=by first|((exact Q72 hx.1.2.2.1 (Job.szz _)))|first|((exact (Q72 hx.1.2.2.1 (Job.szz _)).2.2.2.1))|first|((exact hx.1.1))|first|(((with_reducible refine Q7d _ ?_);exact (Q72 hx.1.2.2.1 (Job.szz _)).2.2.2.1))|exact szA):P:=h
theorem b15a1 {P:Prop} (h:P:=by first|((exact ⟨hx.1,by omega⟩))|first|((exact ⟨⟨htk,hx.1.2⟩,by omega⟩))|first|((exact ⟨⟨htk,by rw [List.length_set];exact hx.1.2.1,fun y hy=>(List.mem_or_eq_of_mem_set hy).elim (hx.1.2.2.1 y) (fun e=>e ▸ hpr),hx.1.2.2.2⟩,by simp;omega⟩))|first|((exact ⟨⟨room_Room_len _ _,rfl,by assumption,fun k v h=>by have:=hx k v h;omega⟩,by simp⟩))|first|((exact fun k v h=>by cases h))|first|((intro k v h;exact (Qqd h).elim (fun e=>by omega) (fun h=>by have:=hx k v h;omega)))|exact exA):P:=h
theorem Qe9 (s:State) (hs0:s.sz):GV 26 [State.a s] (AVal.tup [jobL ((Qd0 s).1),ints ((Qd0 s).2)]):=by
 generalize hR:Qd0 s=R;refine ga (.cons (State.low _ _) .nil) (Low.tup' (.cons lw (.cons lw .nil))) (kp 23 [28,33,34,35,36,46,47,48,49,76,103,112,129]) Tryz.func26 ?_;have hk0:=hs0;obtain ⟨z20,z21,z22,z23,z24,z25,z26⟩:=hs0;refine us (mv [] (Qwe s.jobs b15a0) .nil (dl lw .nil) (rO rr .nil) (rw_ 1 0 rfl)) ?_;refine us (QCd s b15a0 _) ?_;refine ai (fun h1=>?_) (fun h2=>?_)
 ·obtain rfl:=foll hR (ct h1 rfl);exact Q00 (Low.tup' (.cons lw (.cons lw .nil))) (Seen.tup (ev (QT0 Job.zero _ rfl eqA lnA) (ev (Qq0) .nil)))
 ·refine us (AGives.as2 (room_Room_c s [] b15a0 b15a0 _) (a1 (av (as_nil) .nil))) ?_;refine Qg0 (fun (i:Nat) (c:List (Int × Int))=>Qc3 s (QP1 s (List.drop i s.jobs) i c)=R∧i<=s.jobs.length∧(∀ k v,getM k c=some v->0<=v∧v<(i:Int))) (fun i c=>s.jobs.length - i) (fun i c=>[(1,AVal.ptr 0 0 8 0 0),(2,AVal.lit (.slice none 0 0)),(3,AVal.lit (.slice none 0 0)),(4,AVal.own 1 0 20 0 s.jobs.length),(5,stepL (QG2 s [])),(6,AVal.map 2),(33,AVal.own 1 0 20 0 s.jobs.length),(34,I (s.jobs.length:Int)),(35,I (i:Int))]) (fun i c=>[(0,AObj.row 28 8 [[I s.now,nodeL s.nodes,jobL s.jobs,QC5 s.resizes,bookL s.books,QU2 s.ledger,I s.nextJob,I s.nextBook]]),(0,AObj.row 35 20 (s.jobs.map Job.cells)),(0,AObj.other (.map (mapEs ik I 0 c) c.length))]) 0 [] (wk [0,1,2] (tO rfl (ts State.lo) (tO rfl (tl eqA) (tO rfl (Qt0 _ rfl rfl (fun _=>lx)) .nil))) (sv (Q20 0 rfl rfl) (s1 (s1 (sv (to 1 lnA) (sl lw (sv (QD1 2 rfl rfl) (sv (to 1 lnA) (s1 (s1 .nil)))))))))) ⟨foll hR (cf h2 rfl),by exact omA,b15a1⟩ ?_;clear hR;rintro i c ⟨hR,hj,hx⟩;(try dsimp only at hR hj hx);refine ai (fun h3=>?_) (fun h4=>?_)
  ·have hlt:=ltA h3;rw [Q90 Job.zero hlt] at hR;have hxz:(s.jobs.getD i Job.zero).sz:=Q72 (by first|assumption|grind) (Job.szz _);have hkz:=hxz;obtain ⟨z5,z6,z7,z8,z9⟩:=Job.zz hxz;refine And.intro (by first|exact fun hg=>decide_eq_true (by first|((have hq:=QG4 (k:=(Q10 s).getD i1 0) (Qu5 hlt) hx.1.2.2.2;have he:=hx.1.2.1;omega))|exact ckA)|exact gkA) ?_;refine ⟨_,QT1 rfl rfl rfl (Ql2 Job.zero i (by first|rfl|exact Nat.zero_add _|omega) (by first|((have hq:=QG4 (k:=(Q10 s).getD i1 0) (Qu5 hlt) hx.1.2.2.2;have he:=hx.1.2.1;omega))|exact ckA)) rfl,?_⟩;refine ⟨_,_,QL1 rfl _ _,QDa (ek:=ik) ((s.jobs.getD i Job.zero).id) (i:Int) c rfl rfl,?_⟩;exact Q80 (i+1) (setM ((s.jobs.getD i Job.zero).id) (i:Int) c) (wk [0,1,2] (tO rfl (ts State.lo) (tO rfl (tl eqA) (tO rfl (Qt0 _ rfl rfl (fun _=>lx)) .nil))) (sv (Q20 0 rfl rfl) (s1 (s1 (sv (to 1 lnA) (sl lw (sv (QD1 2 rfl rfl) (sv (to 1 lnA) (s1 (sv (Q70 (I_eq (wr omA)) lx) .nil)))))))))) omA ⟨foll hR (congrArg (fun p:(List (Int × Int))=>Qc3 s p) rfl),by exact omA,b15a1⟩
  ·rw [Qa0 (l:=s.jobs) (j:=i) (geA h4)] at hR;replace hR:Qc3 s c=R:=fo2 (fun p:(List (Int × Int))=>Qc3 s p) (c) hR rfl;refine us (mv [] (QI8 s b15a0) .nil (dv (Qp7 (Low.agg' (State.lo))) .nil) (rO rr .nil) (rw_ 3 0 rfl)) ?_;refine Qjb (fun (left:List Step) (ids:List Int) (i1:Nat) (c2:List Job)=>Qz1 (Qm0 s c (List.drop i1 (Q10 s)) left ids i1 c2).1 (Qm0 s c (List.drop i1 (Q10 s)) left ids i1 c2).2.1 (Qm0 s c (List.drop i1 (Q10 s)) left ids i1 c2).2.2=R∧i1<=(Q10 s).length∧(left.length<=4294967296∧c2.length=s.jobs.length∧(∀ y ∈ c2,y.sz)∧(∀ k v,getM k c=some v->0<=v∧v<(s.jobs.length:Int)))∧ids.length<=i1∧c2.length=s.jobs.length) (fun left ids i1 c2=>(Q10 s).length - i1) (fun left ids i1 c2=>[(1,AVal.ptr 0 0 8 0 0),(2,AVal.lit (.slice none 0 0)),(3,AVal.lit (.slice none 0 0)),(4,AVal.own 1 0 20 0 c2.length),(5,stepL left),(6,AVal.map 2),(9,AVal.own 4 0 1 0 ids.length),(46,AVal.own 3 0 1 0 ((Q10 s).length)),(47,I ((Q10 s).length:Int)),(48,I (i1:Int))]) (fun left ids i1 c2=>[(0,AObj.row 28 8 [[I s.now,nodeL s.nodes,jobL s.jobs,QC5 s.resizes,bookL s.books,QU2 s.ledger,I s.nextJob,I s.nextBook]]),(0,AObj.row 35 20 (c2.map Job.cells)),(0,AObj.other (.map (mapEs ik I 0 c) c.length)),(0,AObj.row 3 1 ((Q10 s).map (fun q_=>[I q_]))),(0,AObj.row 3 1 (ids.map (fun q_=>[I q_])))]) (QG2 s []) [] 0 s.jobs ((Qh1 3 1).trans (wk [0,1,2,3,4] (tO rfl (ts State.lo) (tO rfl (tl eqA) (tO rfl (Qt0 _ rfl rfl (fun _=>lx)) (tO rfl (tl eqA) (tO rfl (tl eqA) .nil))))) (sv (Q20 0 rfl rfl) (s1 (s1 (sv (to 1 lnA) (sl lw (sv (QD1 2 rfl rfl) (sv (QV0 4 rfl) (sv (to 3 lnA) (s1 (s1 .nil)))))))))))) ⟨foll hR rfl,by exact omA,b15a1⟩ ?_;clear hR;rintro left ids i1 c2 ⟨hR,hj,hx⟩;(try dsimp only at hR hj hx);refine ai (fun h10=>?_) (fun h11=>?_)
   ·have hlt:=ltA h10;rw [Q90 0 hlt] at hR;have hpl:=Qq4 s;refine And.intro (by first|exact fun hg=>decide_eq_true (by first|((have hq:=QG4 (k:=(Q10 s).getD i1 0) (Qu5 hlt) hx.1.2.2.2;have he:=hx.1.2.1;omega))|exact ckA)|exact gkA) ?_;refine ⟨_,QT1 rfl rfl rfl (Ql2 0 i1 (by first|rfl|exact Nat.zero_add _|omega) (by first|((have hq:=QG4 (k:=(Q10 s).getD i1 0) (Qu5 hlt) hx.1.2.2.2;have he:=hx.1.2.1;omega))|exact ckA)) rfl,?_⟩;(first|refine ⟨_,_,QL1 rfl _ _,Q51 (ek:=ik) ((Q10 s).getD i1 0) c 0 (AsA.refl _),?_⟩|refine ⟨_,fun _=>⟨_,_,QL1 rfl _ _,Q51 (ek:=ik) ((Q10 s).getD i1 0) c 0 (AsA.refl _),rfl,rfl⟩,?_⟩|refine ⟨_,rfl,⟨_,_,QL1 rfl _ _,Q51 (ek:=ik) ((Q10 s).getD i1 0) c 0 (AsA.refl _),Sub.refl _,rfl⟩,?_⟩);refine And.intro (by first|exact fun hg=>decide_eq_true (by first|((have hq:=QG4 (k:=(Q10 s).getD i1 0) (Qu5 hlt) hx.1.2.2.2;have he:=hx.1.2.1;omega))|exact ckA)|exact gkA) ?_;refine ⟨_,QT1 rfl rfl rfl (Ql2 Job.zero (Int.toNat ((getM ((Q10 s).getD i1 0) c).getD 0)) (by first|rfl|exact Nat.zero_add _|omega) (by first|((have hq:=QG4 (k:=(Q10 s).getD i1 0) (Qu5 hlt) hx.1.2.2.2;have he:=hx.1.2.1;omega))|exact ckA)) rfl,?_⟩;refine us (Qna (c2.getD (Int.toNat ((getM ((Q10 s).getD i1 0) c).getD 0)) Job.zero) b15a0 _) ?_;generalize hvcl:Qn0 (c2.getD (Int.toNat ((getM ((Q10 s).getD i1 0) c).getD 0)) Job.zero)=cl;refine us (Qy9 left cl.1 (w64 (cl.1+cl.2.1)) cl.2.2.1 b15a0 _) ?_;generalize hvown:Qx1 left cl.1 (w64 (cl.1+cl.2.1)) cl.2.2.1=own;(have hown:own.1.length<=4294967296:=by rw [← hvown];exact Qb8 _ _ _ _ (by first|assumption|omega));refine ai (fun h12=>?_) (fun h13=>?_)
    ·exact Qv4 left ids (i1+1) c2 (wk [0,1,2,3,4] (tO rfl (ts State.lo) (tO rfl (tl eqA) (tO rfl (Qt0 _ rfl rfl (fun _=>lx)) (tO rfl (tl eqA) (tO rfl (tl eqA) .nil))))) (sv (Q20 0 rfl rfl) (s1 (s1 (sv (to 1 lnA) (sl lw (sv (QD1 2 rfl rfl) (sv (to 4 lnA) (sv (to 3 lnA) (s1 (sv (Q70 (I_eq (wr omA)) lx) .nil))))))))))) omA ⟨foll hR (congrArg (fun p:(List Step) × (List Int) × (List Job)=>Qz1 p.1 p.2.1 p.2.2) ((by subst hvcl;exact (by subst hvown;exact ct h12 rfl)))),by exact omA,b15a1⟩
    ·refine dchk (by kernel_rfl) ?_;(first|apply u2|apply u3|apply u4|apply us);exact QD4 ((c2.getD (Int.toNat ((getM ((Q10 s).getD i1 0) c).getD 0)) Job.zero).shape) b15a0 _;(first|apply u2|apply u3|apply u4|apply us);exact fit_Best_c own.1 (QH0 ((c2.getD (Int.toNat ((getM ((Q10 s).getD i1 0) c).getD 0)) Job.zero).shape)) s.now ((c2.getD (Int.toNat ((getM ((Q10 s).getD i1 0) c).getD 0)) Job.zero).promise) 12 b15a0 b15a0 _;generalize hvbest:QF6 own.1 (QH0 ((c2.getD (Int.toNat ((getM ((Q10 s).getD i1 0) c).getD 0)) Job.zero).shape)) s.now ((c2.getD (Int.toNat ((getM ((Q10 s).getD i1 0) c).getD 0)) Job.zero).promise) 12=best;(repeat ((first|refine ai rfl ?_|refine ai (fun _=>rfl) ?_|refine ai (fun _=>QD4 ((c2.getD (Int.toNat ((getM ((Q10 s).getD i1 0) c).getD 0)) Job.zero).shape) b15a0 _) ?_|refine ai (fun _=>by subst hvbest;exact fit_Best_c own.1 (QH0 ((c2.getD (Int.toNat ((getM ((Q10 s).getD i1 0) c).getD 0)) Job.zero).shape)) s.now ((c2.getD (Int.toNat ((getM ((Q10 s).getD i1 0) c).getD 0)) Job.zero).promise) 12 b15a0 b15a0 _) ?_)));refine ai (fun h14=>?_) (fun h15=>?_)
     ·exact Qv4 left ids (i1+1) c2 (wk [0,1,2,3,4] (tO rfl (ts State.lo) (tO rfl (tl eqA) (tO rfl (Qt0 _ rfl rfl (fun _=>lx)) (tO rfl (tl eqA) (tO rfl (tl eqA) .nil))))) (sv (Q20 0 rfl rfl) (s1 (s1 (sv (to 1 lnA) (sl lw (sv (QD1 2 rfl rfl) (sv (to 4 lnA) (sv (to 3 lnA) (s1 (sv (Q70 (I_eq (wr omA)) lx) .nil))))))))))) omA ⟨foll hR (congrArg (fun p:(List Step) × (List Int) × (List Job)=>Qz1 p.1 p.2.1 p.2.2) ((by subst hvcl;exact (by subst hvown;exact cf h13 (by subst hvbest;exact ct h14 rfl))))),by exact omA,b15a1⟩
     ·refine us (job_Promise_c (c2.getD (Int.toNat ((getM ((Q10 s).getD i1 0) c).getD 0)) Job.zero) best.2.1 best.1 b15a0 _) ?_;generalize hvpr:Qa4 (c2.getD (Int.toNat ((getM ((Q10 s).getD i1 0) c).getD 0)) Job.zero) best.2.1 best.1=pr;(have hpr:pr.1.sz:=by rw [← hvpr];exact QWa _ _ (Q72 hx.1.2.2.1 (Job.szz _)));refine ai (fun h16=>?_) (fun h17=>?_)
      ·exact Qv4 left ids (i1+1) c2 (wk [0,1,2,3,4] (tO rfl (ts State.lo) (tO rfl (tl eqA) (tO rfl (Qt0 _ rfl rfl (fun _=>lx)) (tO rfl (tl eqA) (tO rfl (tl eqA) .nil))))) (sv (Q20 0 rfl rfl) (s1 (s1 (sv (to 1 lnA) (sl lw (sv (QD1 2 rfl rfl) (sv (to 4 lnA) (sv (to 3 lnA) (s1 (sv (Q70 (I_eq (wr omA)) lx) .nil))))))))))) omA ⟨foll hR (congrArg (fun p:(List Step) × (List Int) × (List Job)=>Qz1 p.1 p.2.1 p.2.2) ((by subst hvcl;exact (by subst hvown;exact cf h13 (by subst hvbest;exact cf h15 (by subst hvpr;exact ct h16 rfl)))))),by exact omA,b15a1⟩
      ·refine us (Qna pr.1 b15a0 _) ?_;generalize hvcl1:Qn0 pr.1=cl1;refine us (fit_Take_c own.1 cl1.1 cl1.2.1 cl1.2.2.1 b15a0 _) ?_;generalize hvtk:QG6 own.1 cl1.1 cl1.2.1 cl1.2.2.1=tk;(have htk:tk.1.length<=4294967296:=by rw [← hvtk];exact fit_Take_len _ _ _ (by assumption));refine ai (fun h18=>?_) (fun h19=>?_)
       ·(first|refine ⟨_,_,QL1 rfl _ _,Q51 (ek:=ik) ((Q10 s).getD i1 0) c 0 (AsA.refl _),?_⟩|refine ⟨_,fun _=>⟨_,_,QL1 rfl _ _,Q51 (ek:=ik) ((Q10 s).getD i1 0) c 0 (AsA.refl _),rfl,rfl⟩,?_⟩|refine ⟨_,rfl,⟨_,_,QL1 rfl _ _,Q51 (ek:=ik) ((Q10 s).getD i1 0) c 0 (AsA.refl _),Sub.refl _,rfl⟩,?_⟩);refine And.intro (by first|exact fun hg=>decide_eq_true (by first|((have hq:=QG4 (k:=(Q10 s).getD i1 0) (Qu5 hlt) hx.1.2.2.2;have he:=hx.1.2.1;omega))|exact ckA)|exact gkA) ?_;refine ⟨_,QF4 rfl rfl rfl rfl (Ql2 Job.zero (Int.toNat ((getM ((Q10 s).getD i1 0) c).getD 0)) (by first|rfl|exact Nat.zero_add _|omega) (by first|((have hq:=QG4 (k:=(Q10 s).getD i1 0) (Qu5 hlt) hx.1.2.2.2;have he:=hx.1.2.1;omega))|exact ckA)) rfl rfl (set_map (Int.toNat ((getM ((Q10 s).getD i1 0) c).getD 0)) pr.1 (by first|rfl|exact Nat.zero_add _|omega) rfl),?_⟩;refine Or.inl ?_;(first|refine ⟨QK1 8 rfl lnA apA,?_⟩|refine ⟨QR0 8 rfl apA,?_⟩);exact Qv4 tk.1 (ids++([((Q10 s).getD i1 0)]:List Int)) (i1+1) (c2.set (Int.toNat ((getM ((Q10 s).getD i1 0) c).getD 0)) pr.1) (wk [0,1,2,3,4] (tO rfl (ts State.lo) (tO rfl (tl eqA) (tO rfl (Qt0 _ rfl rfl (fun _=>lx)) (tO rfl (tl eqA) (tO rfl (tl eqA) .nil))))) (sv (Q20 0 rfl rfl) (s1 (s1 (sv (to 1 lnA) (sl lw (sv (QD1 2 rfl rfl) (sv (to 4 lnA) (sv (to 3 lnA) (s1 (sv (Q70 (I_eq (wr omA)) lx) .nil))))))))))) omA ⟨foll hR (congrArg (fun p:(List Step) × (List Int) × (List Job)=>Qz1 p.1 p.2.1 p.2.2) ((by subst hvcl;exact (by subst hvown;exact cf h13 (by subst hvbest;exact cf h15 (by subst hvpr;exact cf h17 (by subst hvcl1;exact (by subst hvtk;exact ct h18 rfl)))))))),by exact omA,b15a1⟩
       ·exact Qv4 tk.1 ids (i1+1) c2 (wk [0,1,2,3,4] (tO rfl (ts State.lo) (tO rfl (tl eqA) (tO rfl (Qt0 _ rfl rfl (fun _=>lx)) (tO rfl (tl eqA) (tO rfl (tl eqA) .nil))))) (sv (Q20 0 rfl rfl) (s1 (s1 (sv (to 1 lnA) (sl lw (sv (QD1 2 rfl rfl) (sv (to 4 lnA) (sv (to 3 lnA) (s1 (sv (Q70 (I_eq (wr omA)) lx) .nil))))))))))) omA ⟨foll hR (congrArg (fun p:(List Step) × (List Int) × (List Job)=>Qz1 p.1 p.2.1 p.2.2) ((by subst hvcl;exact (by subst hvown;exact cf h13 (by subst hvbest;exact cf h15 (by subst hvpr;exact cf h17 (by subst hvcl1;exact (by subst hvtk;exact cf h19 rfl)))))))),by exact omA,b15a1⟩
   ·rw [Qa0 (l:=(Q10 s)) (j:=i1) (geA h11)] at hR;replace hR:Qz1 left ids c2=R:=fo2 (fun p:(List Step) × (List Int) × (List Job)=>Qz1 p.1 p.2.1 p.2.2) (left,ids,c2) hR rfl;obtain rfl:=foll hR rfl;exact Q00 (Low.tup' (.cons lw (.cons lw .nil))) (Seen.tup (ev (QT0 Job.zero _ rfl eqA lnA) (ev (QT0 0 _ rfl eqA lnA) .nil)))
theorem Qz7 (s:State) (c:List (Int × Int)):∀ (r:List Int) (left:List Step) (ids:List Int) (i:Nat) (c2:List Job),(∀ y ∈ c2,y.sz) ->
  (Qm0 s c r left ids i c2).2.1.length<=ids.length+r.length∧(Qm0 s c r left ids i c2).2.2.length=c2.length ∧ ∀ y ∈ (Qm0 s c r left ids i c2).2.2,y.sz
 | [],left,ids,i,c2,h=>⟨by simp [Qm0],by simp [Qm0],h⟩
 | x :: r,left,ids,i,c2,h=>by
  have ih:=fun left' ids' c2' h'=>Qz7 s c r left' ids' (i+1) c2' h'
  have keep:∀ left',(Qm0 s c r left' ids (i+1) c2).2.1.length<=ids.length+(x :: r).length∧(Qm0 s c r left' ids (i+1) c2).2.2.length=c2.length ∧ ∀ y ∈ (Qm0 s c r left' ids (i+1) c2).2.2,y.sz:=by
   intro left'
   obtain ⟨a,b,d⟩:=ih left' ids c2 h
   exact ⟨by simp only [List.length_cons];omega,b,d⟩
  rw [Qm0]
  dsimp only
  repeat' first|exact keep _|(rw [Bool.cond_eq_ite];split)
  obtain ⟨a,b,d⟩:=ih (QG6 (Qx1 left (Qn0 (c2.getD (Int.toNat ((getM ((Q10 s).getD i 0) c).getD 0)) Job.zero)).1 (w64 ((Qn0 (c2.getD (Int.toNat ((getM ((Q10 s).getD i 0) c).getD 0)) Job.zero)).1+(Qn0 (c2.getD (Int.toNat ((getM ((Q10 s).getD i 0) c).getD 0)) Job.zero)).2.1)) (Qn0 (c2.getD (Int.toNat ((getM ((Q10 s).getD i 0) c).getD 0)) Job.zero)).2.2.1).1 _ _ _).1 _ _ (fun y hy=>(List.mem_or_eq_of_mem_set hy).elim (h y) (fun e=>e ▸ QWa _ _ (Q72 h (Job.szz _))))
  refine ⟨Nat.le_trans a ?_,b.trans (List.length_set ..),d⟩
  simp only [List.length_append,List.length_cons,List.length_nil]
  omega
theorem QH8 {s:State} (h:s.sz):((Qd0 s).1.length<=4294967296 ∧ ∀ y ∈ (Qd0 s).1,y.sz)∧(Qd0 s).2.length<=4294967296:=by
 unfold Qd0
 cases ((Q42 s)!=0) with
 | true=>exact ⟨⟨h.2.1,h.2.2.1⟩,by simp⟩
 | false =>
  obtain ⟨a,b,d⟩:=Qz7 s (QP1 s s.jobs 0 []) (Q10 s) (QG2 s []) [] 0 s.jobs h.2.2.1
  have hp:=Qq4 s
  have hl:=h.2.1
  rw [List.length_nil,Nat.zero_add] at a
  exact ⟨⟨Nat.le_trans (Nat.le_of_eq b) hl,d⟩,Nat.le_trans a (Nat.le_trans hp hl)⟩
end Go.Proofs.YtjpgfmbccohngaaGreatDoor
namespace Go.Proofs.YtjpgfmbccohngaaGreatDoor
set_option linter.unusedSimpArgs false
set_option linter.unusedVariables false
open Go.Fw
set_option maxRecDepth 20000
set_option maxHeartbeats 4000000
attribute [local irreducible] ACalls AMoves
def Q07 :Bool:=bif ((((((((Qd0 law22_two).1).length:Int)!=1)||((((Qd0 law22_two).2).length:Int)!=1))||((((Qd0 law22_two).2).getD 0 0)!=2))||((((Qd0 law22_two).1).getD 0 Job.zero).promise != 5))||(((Q74 law22_two.jobs ((Qd0 law22_two).1)).length:Int)!=0)) then false else ((((((Q74 ((Qd0 law22_two).1) law22_two.jobs).length:Int)==1)&&(((Q74 ((Qd0 law22_two).1) law22_two.jobs).getD 0 0)==2))&&(((Q92 { law22_two with jobs:=(Qd0 law22_two).1 }).length:Int)==1))&&(((Q92 { law22_two with jobs:=(Qd0 law22_two).1 }).getD 0 0)==2))
theorem two22_sz:law22_two.sz:=⟨by decide,by decide,fun y hy=>by rw [List.mem_singleton.1 hy];exact ⟨by decide,by decide,by decide,(by decide:(1:Nat)<=4294967296),by decide⟩,by decide,by decide,by decide,fun _ h=>absurd h List.not_mem_nil⟩
theorem f22 {s:State} {P:Prop} (F:s.sz) (k:s.sz->s.nodes.length<=4294967296->s.jobs.length<=4294967296->(∀ y ∈ s.jobs,y.sz)->(Qd0 s).1.length<=4294967296->(∀ y ∈ (Qd0 s).1,y.sz)->(Qd0 s).2.length<=4294967296->(Q92 s).length<=4294967296->(Q74 s.jobs (Qd0 s).1).length<=4294967296->({ s with jobs:=(Qd0 s).1 }:State).sz->P):P:=by
 have S:=QH8 F
 exact k F F.1 F.2.1 F.2.2.1 S.1.1 S.1.2 S.2 (Qag F) (Qed _ F.2.1) ⟨F.1,S.1.1,S.1.2,F.2.2.2⟩
theorem b16a0 {P:Prop} (h:P:=by first|(exact two22_sz)|first|((have S1:=QH8 two22_sz;first|exact S1.1|exact S1.2|exact ⟨two22_sz.1,S1.1.1,S1.1.2,two22_sz.2.2.2⟩|exact ⟨two22_sz.2.1,two22_sz.2.2.1⟩))|exact szA):P:=h
theorem Qr9 :GV 25 [] (Bo Q07):=by
 generalize hR:Q07=R;refine ga .nil lx (kp 6 [40]) Tryz.func25 ?_;refine us (law22_two_c _) ?_;refine us (Qe9 law22_two b16a0 _) ?_;refine ai gkA ?_;refine ai gkA ?_;(first|apply u2|apply u3|apply u4|apply us);exact Qsa law22_two.jobs ((Qd0 law22_two).1) b16a0 b16a0 _;refine ai (fun h1=>?_) (fun h2=>?_)
 ·obtain rfl:=foll hR (ct h1 rfl);exact Q00 lx sr
 ·refine us (Qsa ((Qd0 law22_two).1) law22_two.jobs b16a0 b16a0 _) ?_;refine us (QK9 { law22_two with jobs:=(Qd0 law22_two).1 } b16a0 _) ?_;refine ai gkA ?_;refine ai gkA ?_;obtain rfl:=foll hR (cf h2 rfl);exact Q00 lx sr
end Go.Proofs.YtjpgfmbccohngaaGreatDoor
