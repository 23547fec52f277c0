/-
  Contracts of functions, printed by a program of this repo (wip/dec). No condition beyond those that stand in each.
-/
import Derived.Test.YtjpgfmbccohngaaGreatDoorH8
import Derived.Test.YtjpgfmbccohngaaGreatDoorH9
import Derived.Test.YtjpgfmbccohngaaGreatDoorProg
import Derived.Test.YtjpgfmbccohngaaGreatDoorH7
import Derived.Test.YtjpgfmbccohngaaGreatDoorH6
namespace Go.Proofs.YtjpgfmbccohngaaGreatDoor
set_option linter.unusedSimpArgs false
set_option linter.unusedVariables false
open Go.Fw
set_option maxRecDepth 20000
set_option maxHeartbeats 4000000
attribute [local irreducible] ACalls AMoves
def Q5d (end_:Int):List Int->Int->Nat->Int × Bool
 | [],left,_=>((w64 (end_ - left)),true)
 | x_ :: r,left,i=>bif (decide ((Qx3 x_ 0 end_) > left)) then (end_,false) else Q5d end_ r (w64 (left - (Qx3 x_ 0 end_))) (i+1)
def sat_sum (end_:Int) (l:List Int):Int × Bool:=Q5d end_ l end_ 0
theorem sat_sum_c (end_:Int) (l:List Int) (hs0:l.length<=4294967296):GV 273 [I end_,ints l] (AVal.tup [I ((sat_sum end_ l).1),Bo ((sat_sum end_ l).2)]):=by
 generalize hR:sat_sum end_ l=R;refine ga (l1 (.cons lw .nil)) (Low.tup' (l1 (l1 .nil))) (kp 9 [10,11,12,13,21]) Tryz.func273 ?_;have hk0:=hs0;obtain z5:l.length<=4294967296:=hs0;refine Qg0 (fun (left:Int) (i:Nat)=>Q5d end_ (List.drop i l) left i=R∧i<=l.length) (fun left i=>l.length - i) (fun left i=>[(0,I end_),(4,I 0),(5,Bo false),(6,I left),(10,ints l),(11,I (l.length:Int)),(12,I (i:Int))]) (fun left i=>[]) end_ 0 (wk [] .nil (s1 (s1 (s1 (s1 (sl lw (s1 (s1 .nil)))))))) ⟨foll hR rfl,by exact omA⟩ ?_;clear hR;rintro left i ⟨hR,hj⟩;(try dsimp only at hR hj);refine ai (fun h1=>?_) (fun h2=>?_)
 ·have hlt:=ltA h1;rw [Q90 0 hlt] at hR;refine ai gkA ?_;refine us (QS9 (l.getD i 0) 0 end_ _) ?_;refine ai (fun h3=>?_) (fun h4=>?_)
  ·have qh3:=of_decide_eq_true h3;obtain rfl:=foll hR (ct h3 rfl);exact Q00 (Low.tup' (l1 (l1 .nil))) (Seen.tup (e1 (e1 .nil)))
  ·have qh4:=of_decide_eq_false h4;exact Q80 (w64 (left - (Qx3 (l.getD i 0) 0 end_))) (i+1) (wk [] .nil (s1 (s1 (s1 (s1 (sl lw (s1 (sv (Q70 (I_eq (wr omA)) lx) .nil)))))))) omA ⟨foll hR (cf h4 rfl),by exact omA⟩
 ·rw [Qa0 (l:=l) (j:=i) (geA h2)] at hR;obtain rfl:=foll hR rfl;exact Q00 (Low.tup' (l1 (l1 .nil))) (Seen.tup (e1 (e1 .nil)))
def Q47 (a:Shape) (b:Shape):Bool:=(((((a.kind==b.kind)&&(a.min==b.min))&&(a.max==b.max))&&(a.wall==b.wall))&&(Qf7 a.alts b.alts))
theorem QId (a:Shape) (b:Shape) (hs0:a.sz) (hs1:b.sz):GV 69 [Shape.a a,Shape.a b] (Bo (Q47 a b)):=by
 generalize hR:Q47 a b=R;refine ga (.cons (Shape.low _ _) (.cons (Shape.low _ _) .nil)) lx (kp 5 []) Tryz.func69 ?_;have hk0:=hs0;obtain z1:a.alts.length<=4294967296:=hs0;have hk1:=hs1;obtain z2:b.alts.length<=4294967296:=hs1;(first|apply u2|apply u3|apply u4|apply us);exact Q5e a.alts b.alts szA szA _;obtain rfl:=foll hR rfl;exact Q00 lx sr
def Q56 :List (Nat × Int)->Nat->Int × Int
 | [],n=>((n:Int),0)
 | x_ :: r,n=>bif ((Qh0 x_.2)==0) then ((n:Int),40) else Q56 r (n+1)
def QK3 (s:ByteArray):Int × Int:=Q56 (Qk7 s) 0
theorem QA9 (s:ByteArray) (hs0:s.size<=4294967296):GV 221 [Sg s] (AVal.tup [I ((QK3 s).1),I ((QK3 s).2)]):=by
 generalize hR:QK3 s=R;refine ga (l1 .nil) (Low.tup' (l1 (l1 .nil))) (kp 7 [8,9,10,14]) Tryz.func221 ?_;have hk0:=hs0;obtain z5:s.size<=4294967296:=hs0;refine Qg0 (fun (n:Nat) (pos:Nat)=>∃ m,ByteArray.size s - pos<=m∧Q56 (Qr4 s m pos) n=R∧n<=pos) (fun n pos=>ByteArray.size s - pos) (fun n pos=>[(2,I 0),(3,I 0),(4,I (n:Int)),(8,AVal.ptr 0 0 1 0 0)]) (fun n pos=>[(0,AObj.other (.strIter s pos))]) 0 0 (wk [0] (tO rfl (.strIter _ _) .nil) (s1 (s1 (s1 (sv (Q20 0 rfl rfl) .nil))))) ⟨ByteArray.size s,by exact omA,foll hR rfl,by exact exA⟩ ?_;clear hR;rintro n pos ⟨m,hm,hR,hx⟩;(try dsimp only at hR hm hx);refine ai (fun h1=>?_) (fun h2=>?_)
 ·have hlt:=of_decide_eq_true h1;have hw:=QR7 s pos;have hwe:=QQ7 s pos hlt;obtain ⟨m,rfl⟩:=sucA m;rw [Ql3 h1] at hR;refine ai (fun _=>?_) (fun h=>nomatch h);refine us (QQ4 ((pos,((Utf8.decode s pos).1:Int)).2) _) ?_;refine ai (fun h3=>?_) (fun h4=>?_)
  ·obtain rfl:=foll hR (ct h3 rfl);exact Q00 (Low.tup' (l1 (l1 .nil))) (Seen.tup (e1 (e1 .nil)))
  ·exact Q80 (n+1) (pos+(Utf8.decode s pos).2) (wk [0] (tO rfl (.strIter _ _) .nil) (s1 (s1 (sv (Q70 (I_eq (wr omA)) lx) (sv (Q20 0 rfl rfl) .nil))))) omA ⟨m,by exact omA,foll hR (cf h4 rfl),by exact exA⟩
 ·rw [QG5 h2] at hR;refine ai (fun h=>nomatch h) (fun _=>?_);obtain rfl:=foll hR rfl;exact Q00 (Low.tup' (l1 (l1 .nil))) (Seen.tup (e1 (e1 .nil)))
def Q43 (l:List Int) (at_:Int):Nat->Int->Int
 | 0,_=>0
 | m+1,i=>bif (decide (i<(l.length:Int))) then bif ((((((Qh0 (l.getD (Int.toNat at_) 0))==2)&&((Qh0 (l.getD (Int.toNat i) 0))!=2))&&((Qh0 (l.getD (Int.toNat i) 0))!=3))&&((l.getD (Int.toNat i) 0)!=45))&&((l.getD (Int.toNat i) 0)!=95)) then i else bif (((Qh0 (l.getD (Int.toNat at_) 0))==3)&&(!(QB9 (l.getD (Int.toNat i) 0)))) then i else Q43 l at_ m (w64 (i+1)) else i
def QA1 (l:List Int) (at_:Int):Int:=Q43 l at_ ((Int.toNat ((l.length:Int) - (w64 (at_+1))))+1) (w64 (at_+1))
theorem QGf (l:List Int) (at_:Int) (hs0:l.length<=4294967296) (hp0:0<=at_∧at_<(l.length:Int)):GV 288 [runes l,I at_] (I (QA1 l at_)):=by
 generalize hR:QA1 l at_=R;refine ga (.cons lw (l1 .nil)) lx (kp 8 [18,47,58]) Tryz.func288 ?_;have hk0:=hs0;obtain z7:l.length<=4294967296:=hs0;have hw0:w64 (at_+1)=at_+1:=wr (by omega);refine ai gkA ?_;refine us (QQ4 (l.getD (Int.toNat at_) 0) _) ?_;refine Qf0 (fun (i:Int)=>∃ m,(Int.toNat ((l.length:Int) - i))<m∧Q43 l at_ m i=R∧0<=i∧i<=(l.length:Int)) (fun i=>(Int.toNat ((l.length:Int) - i))) (fun i=>[(0,runes l),(4,I 0),(5,I (Qh0 (l.getD (Int.toNat at_) 0))),(6,I i)]) (fun i=>[]) (w64 (at_+1)) (wk [] .nil (sl lw (s1 (s1 (s1 .nil))))) ⟨_,Nat.lt_succ_self _,foll hR rfl,by exact exA⟩ ?_;clear hR;rintro i ⟨m,hm,hR,hx⟩;(try dsimp only at hR hm hx);obtain ⟨m,rfl⟩:=sucA m;refine ai (fun h1=>?_) (fun h2=>?_)
 ·have qh1:=of_decide_eq_true h1;have hw1:w64 (i+1)=i+1:=wr (by omega);refine ai gkA ?_;refine us (QQ4 (l.getD (Int.toNat i) 0) _) ?_;refine ai gkA ?_;refine ai gkA ?_;refine ai (fun h3=>?_) (fun h4=>?_)
  ·obtain rfl:=foll hR (ct h1 (ct h3 rfl));exact Q00 lx sr
  ·refine ai gkA ?_;(first|apply u2|apply u3|apply u4|apply us);exact ref05_small_c (l.getD (Int.toNat i) 0) _;refine ai (fun h5=>?_) (fun h6=>?_)
   ·obtain rfl:=foll hR (ct h1 (cf h4 (ct h5 rfl)));exact Q00 lx sr
   ·exact Qj0 (w64 (i+1)) (wk [] .nil (sl lw (s1 (s1 (s1 .nil))))) omA ⟨m,by exact omA,foll hR (ct h1 (cf h4 (cf h6 rfl))),by exact exA⟩
 ·have qh2:=of_decide_eq_false h2;obtain rfl:=foll hR (cf h2 rfl);exact Q00 lx sr
theorem QHf (l:List Int) (at_:Int) (h:l.length<=400):∀ (m:Nat) (i:Int),0<=i->i<=l.length->0<=Q43 l at_ m i∧Q43 l at_ m i<=l.length∧(Int.toNat ((l.length:Int) - i)<m->i<=Q43 l at_ m i):=by
 intro m
 induction m with
 | zero=>intro i h0 h1;refine ⟨by simp [Q43],by simp [Q43],fun h=>absurd h (by omega)⟩
 | succ m ih =>
  intro i h0 h1
  rw [Q43]
  cases hd:decide (i<(l.length:Int)) with
  | false=>exact ⟨h0,h1,fun _=>by simp⟩
  | true =>
   have hi:=of_decide_eq_true hd
   have hw:w64 (i+1)=i+1:=wr (by omega)
   simp only [cond_true]
   cases ((((((Qh0 (l.getD (Int.toNat at_) 0))==2)&&((Qh0 (l.getD (Int.toNat i) 0))!=2))&&((Qh0 (l.getD (Int.toNat i) 0))!=3))&&((l.getD (Int.toNat i) 0)!=45))&&((l.getD (Int.toNat i) 0)!=95)) with
   | true=>exact ⟨h0,h1,fun _=>by simp⟩
   | false =>
    simp only [cond_false]
    cases (((Qh0 (l.getD (Int.toNat at_) 0))==3)&&(!(QB9 (l.getD (Int.toNat i) 0)))) with
    | true=>exact ⟨h0,h1,fun _=>by simp⟩
    | false =>
     simp only [cond_false]
     rw [hw]
     obtain ⟨a,b,c⟩:=ih (i+1) (by omega) (by omega)
     exact ⟨a,b,fun hm=>by have:=c (by omega);omega⟩
theorem QHd (l:List Int) (at_:Int) (h0:0<=at_) (h1:at_<l.length) (h:l.length<=400):at_<QA1 l at_∧QA1 l at_<=l.length:=by
 have hw:w64 (at_+1)=at_+1:=wr (by omega)
 unfold QA1
 rw [hw]
 obtain ⟨a,b,c⟩:=QHf l at_ h ((Int.toNat ((l.length:Int) - (at_+1)))+1) (at_+1) (by omega) (by omega)
 have:=c (by omega)
 omega
def Qg4 (l:List Dep) (i:Nat) (x_:Dep):Nat->Nat->Sum (Bool) (Nat)
 | 0,_=>Sum.inr 0
 | m+1,k=>bif (decide ((k:Int)<(i:Int))) then bif ((l.getD k Dep.zero).job==x_.job) then Sum.inl false else Qg4 l i x_ m (k+1) else Sum.inr k
def Qf2 (l:List Dep):List Dep->Nat->Bool
 | [],_=>true
 | x_ :: r,i=>bif ((!(Qi1 x_.how 1 3))||(!(Qi1 x_.job 1 99999))) then false else (Sum.elim id (fun p1:Nat=>Qf2 l r (i+1))) (Qg4 l i x_ ((Int.toNat ((i:Int) - (0:Int)))+1) 0)
def Qn6 (l:List Dep):Bool:=bif (decide ((l.length:Int) > 4)) then false else Qf2 l l 0
theorem ref08_waits_c (l:List Dep) (hs0:l.length<=4294967296):GV 181 [depL l] (Bo (Qn6 l)):=by
 generalize hR:Qn6 l=R;refine ga (.cons lw .nil) lx (kp 5 [7,11,29,32,45]) Tryz.func181 ?_;have hk0:=hs0;obtain z11:l.length<=4294967296:=hs0;refine ai (fun h1=>?_) (fun h2=>?_)
 ·have qh1:=of_decide_eq_true h1;obtain rfl:=foll hR (ct h1 rfl);exact Q00 lx sr
 ·have qh2:=of_decide_eq_false h2;refine Qf0 (fun (i:Nat)=>Qf2 l (List.drop i l) i=R∧i<=l.length) (fun i=>l.length - i) (fun i=>[(0,depL l),(2,Bo false),(3,I (i:Int))]) (fun i=>[]) 0 (wk [] .nil (sl lw (s1 (s1 .nil)))) ⟨foll hR (cf h2 rfl),by exact omA⟩ ?_;clear hR;rintro i ⟨hR,hj⟩;(try dsimp only at hR hj);refine ai (fun h3=>?_) (fun h4=>?_)
  ·have hlt:=ltA h3;rw [Q90 Dep.zero hlt] at hR;refine ai gkA ?_;refine us (QV3 ((l.getD i Dep.zero).how) 1 3 _) ?_;refine ai gkA ?_;(first|apply u2|apply u3|apply u4|apply us);exact QV3 ((l.getD i Dep.zero).job) 1 99999 _;refine ai (fun h5=>?_) (fun h6=>?_)
   ·obtain rfl:=foll hR (ct h5 rfl);exact Q00 lx sr
   ·refine Qf0 (fun (k:Nat)=>∃ m,(Int.toNat ((i:Int) - (k:Int)))<m∧(Sum.elim id (fun p1:Nat=>Qf2 l (List.drop (i+1) l) (i+1))) (Qg4 l i (l.getD i Dep.zero) m k)=R∧(k:Int)<=(i:Int)) (fun k=>(Int.toNat ((i:Int) - (k:Int)))) (fun k=>[(0,depL l),(2,Bo false),(3,I (i:Int)),(4,I (k:Int)),(11,Bo (decide ((i:Int)<(l.length:Int)))),(29,Bo ((!(Qi1 (l.getD i Dep.zero).how 1 3))||(!(Qi1 (l.getD i Dep.zero).job 1 99999))))]) (fun k=>[]) 0 (wk [] .nil (sl lw (s1 (s1 (s1 (s1 (s1 .nil))))))) ⟨_,Nat.lt_succ_self _,foll hR (cf h6 rfl),by exact exA⟩ ?_;clear hR;rintro k ⟨m,hm,hR,hx⟩;(try dsimp only at hR hm hx);obtain ⟨m,rfl⟩:=sucA m;refine ai (fun h7=>?_) (fun h8=>?_)
    ·have qh7:=of_decide_eq_true h7;refine dchk (by kernel_rfl) ?_;refine ai gkA ?_;refine ai gkA ?_;(repeat ((first|refine ai rfl ?_|refine ai (fun _=>rfl) ?_)));refine ai (fun h9=>?_) (fun h10=>?_)
     ·obtain rfl:=foll hR (congrArg (Sum.elim id (fun p1:Nat=>Qf2 l (List.drop (i+1) l) (i+1))) (ct h7 (ct h9 rfl)));exact Q00 lx sr
     ·exact Qj0 (k+1) (wk [] .nil (sl lw (s1 (s1 (sv (Q70 (I_eq (wr omA)) lx) (s1 (s1 .nil))))))) omA ⟨m,by exact omA,foll hR (congrArg (Sum.elim id (fun p1:Nat=>Qf2 l (List.drop (i+1) l) (i+1))) (ct h7 (cf h10 rfl))),by exact exA⟩
    ·have qh8:=of_decide_eq_false h8;replace hR:(Sum.elim id (fun p1:Nat=>Qf2 l (List.drop (i+1) l) (i+1))) (Sum.inr k)=R:=foll hR (congrArg (Sum.elim id (fun p1:Nat=>Qf2 l (List.drop (i+1) l) (i+1))) (cf h8 rfl));exact Qj0 (i+1) (wk [] .nil (sl lw (s1 (sv (Q70 (I_eq (wr omA)) lx) .nil)))) omA ⟨foll hR rfl,by exact omA⟩
  ·rw [Qa0 (l:=l) (j:=i) (geA h4)] at hR;obtain rfl:=foll hR rfl;exact Q00 lx sr
def Qe2 (x_:Alt):List Alt->Nat->Sum (Int) (Nat)
 | [],k=>Sum.inr k
 | x_1 :: r,k=>bif (x_.nodes==x_1.nodes) then Sum.inl 70 else Qe2 x_ r (k+1)
def QE0 (s:Shape):List Alt->Nat->Int
 | [],_=>0
 | x_ :: r,i=>bif ((!(Qn1 x_.nodes))||(!(Q52 x_.wall))) then 70 else (Sum.elim id (fun p1:Nat=>QE0 s r (i+1))) (Qe2 x_ (List.drop (i+1) s.alts) (i+1))
def Qu3 (s:Shape) (most:Int):Int:=bif (((((decide ((s.alts.length:Int)<1))||(decide ((s.alts.length:Int) > most)))||(s.min != 0))||(s.max != 0))||(s.wall != 0)) then 70 else QE0 s s.alts 0
def Qe1 (s:Shape):Int:=bif (s.kind==3) then bif (((((decide ((s.alts.length:Int) > 0))||(!(Qn1 s.min)))||(!(Qn1 s.max)))||(decide (s.max<s.min)))||(!(Q52 s.wall))) then 70 else 0 else bif (s.kind==2) then Qu3 s 6 else bif (s.kind != 1) then 70 else Qu3 s 1
theorem Qcc (s:Shape) (hs0:s.sz):GV 182 [Shape.a s] (I (Qe1 s)):=by
 generalize hR:Qe1 s=R;refine ga (.cons (Shape.low _ _) .nil) lx (kj [1000010] 6 [8,37,40,43,69,74,94,101,116]) Tryz.func182 ?_;have hk0:=hs0;obtain z19:s.alts.length<=4294967296:=hs0;refine ai (fun h1=>?_) (fun h2=>?_)
 ·(first|apply u2|apply u3|apply u4|apply us);exact Qfa s.min _;(first|apply u2|apply u3|apply u4|apply us);exact Qfa s.max _;(first|apply u2|apply u3|apply u4|apply us);exact QJd s.wall _;refine ai (fun h3=>?_) (fun h4=>?_)
  ·obtain rfl:=foll hR (ct h1 (ct h3 rfl));exact Q00 lx sr
  ·obtain rfl:=foll hR (ct h1 (cf h4 rfl));exact Q00 lx sr
 ·refine Qr1 (fun (most:Int)=>Qu3 s most=R) (fun most=>[(1,AVal.ptr 0 0 5 0 0),(2,I 0),(3,I most)]) (fun most=>[(0,AObj.row 31 5 [[I s.kind,altL s.alts,I s.min,I s.max,I s.wall]])]) ?_ ?_
  ·clear hR;rintro most hR;(try dsimp only at hR);refine ai (fun h5=>?_) (fun h6=>?_)
   ·obtain rfl:=foll hR (ct h5 rfl);exact Q00 lx sr
   ·refine Qf0 (fun (i:Nat)=>QE0 s (List.drop i s.alts) i=R∧i<=s.alts.length) (fun i=>s.alts.length - i) (fun i=>[(1,AVal.ptr 0 0 5 0 0),(2,I 0),(4,I (i:Int))]) (fun i=>[(0,AObj.row 31 5 [[I s.kind,altL s.alts,I s.min,I s.max,I s.wall]])]) 0 (wk [0] (tO rfl (ts Shape.lo) .nil) (sv (Q20 0 rfl rfl) (s1 (s1 .nil)))) ⟨foll hR (cf h6 rfl),by exact omA⟩ ?_;clear hR;rintro i ⟨hR,hj⟩;(try dsimp only at hR hj);refine ai (fun h7=>?_) (fun h8=>?_)
    ·have hlt:=ltA h7;rw [Q90 Alt.zero hlt] at hR;refine ai gkA ?_;refine us (Qfa ((s.alts.getD i Alt.zero).nodes) _) ?_;refine ai gkA ?_;(first|apply u2|apply u3|apply u4|apply us);exact QJd ((s.alts.getD i Alt.zero).wall) _;refine ai (fun h9=>?_) (fun h10=>?_)
     ·obtain rfl:=foll hR (ct h9 rfl);exact Q00 lx sr
     ·refine Qf0 (fun (k:Nat)=>(Sum.elim id (fun p1:Nat=>QE0 s (List.drop (i+1) s.alts) (i+1))) (Qe2 (s.alts.getD i Alt.zero) (List.drop k s.alts) k)=R∧k<=s.alts.length) (fun k=>s.alts.length - k) (fun k=>[(1,AVal.ptr 0 0 5 0 0),(2,I 0),(4,I (i:Int)),(5,I (k:Int)),(74,Bo (decide ((i:Int)<(s.alts.length:Int)))),(94,Bo ((!(Qn1 (s.alts.getD i Alt.zero).nodes))||(!(Q52 (s.alts.getD i Alt.zero).wall))))]) (fun k=>[(0,AObj.row 31 5 [[I s.kind,altL s.alts,I s.min,I s.max,I s.wall]])]) (i+1) (wk [0] (tO rfl (ts Shape.lo) .nil) (sv (Q20 0 rfl rfl) (s1 (s1 (sv (Q70 (I_eq (wr omA)) lx) (s1 (s1 .nil))))))) ⟨foll hR (cf h10 rfl),by exact omA⟩ ?_;clear hR;rintro k ⟨hR,hj⟩;(try dsimp only at hR hj);refine ai (fun h11=>?_) (fun h12=>?_)
      ·have hlt:=ltA h11;rw [Q90 Alt.zero hlt] at hR;refine dchk (by kernel_rfl) ?_;refine ai gkA ?_;refine ai gkA ?_;(repeat ((first|refine ai rfl ?_|refine ai (fun _=>rfl) ?_)));refine ai (fun h13=>?_) (fun h14=>?_)
       ·obtain rfl:=foll hR (congrArg (Sum.elim id (fun p1:Nat=>QE0 s (List.drop (i+1) s.alts) (i+1))) (ct h13 rfl));exact Q00 lx sr
       ·exact Qj0 (k+1) (wk [0] (tO rfl (ts Shape.lo) .nil) (sv (Q20 0 rfl rfl) (s1 (s1 (sv (Q70 (I_eq (wr omA)) lx) (s1 (s1 .nil))))))) omA ⟨foll hR (congrArg (Sum.elim id (fun p1:Nat=>QE0 s (List.drop (i+1) s.alts) (i+1))) (cf h14 rfl)),by exact omA⟩
      ·rw [Qa0 (l:=s.alts) (j:=k) (geA h12)] at hR;replace hR:(Sum.elim id (fun p1:Nat=>QE0 s (List.drop (i+1) s.alts) (i+1))) (Sum.inr k)=R:=foll hR (congrArg (Sum.elim id (fun p1:Nat=>QE0 s (List.drop (i+1) s.alts) (i+1))) rfl);exact Qj0 (i+1) (wk [0] (tO rfl (ts Shape.lo) .nil) (sv (Q20 0 rfl rfl) (s1 (sv (Q70 (I_eq (wr omA)) lx) .nil)))) omA ⟨foll hR rfl,by exact omA⟩
    ·rw [Qa0 (l:=s.alts) (j:=i) (geA h8)] at hR;obtain rfl:=foll hR rfl;exact Q00 lx sr
  ·refine ai (fun h15=>?_) (fun h16=>?_)
   ·exact Qb0 6 (wk [0] (tO rfl (ts Shape.lo) .nil) (sv (Q20 0 rfl rfl) (s1 (s1 .nil)))) (foll hR (cf h2 (ct h15 rfl)))
   ·refine ai (fun h17=>?_) (fun h18=>?_)
    ·obtain rfl:=foll hR (cf h2 (cf h16 (ct h17 rfl)));exact Q00 lx sr
    ·exact Qb0 1 (wk [0] (tO rfl (ts Shape.lo) .nil) (sv (Q20 0 rfl rfl) (s1 (s1 .nil)))) (foll hR (cf h2 (cf h16 (cf h18 rfl))))
theorem QL6 {s:Shape} (h:(Qe1 s != 0)=false) (hk:(s.kind != 3)=false):1<=s.min∧s.min<=s.max∧s.max<=48∧w64 (s.max - s.min)=s.max - s.min:=by
 have hk':s.kind=3:=by simpa using hk
 have h1:Qn1 s.min=true∧Qn1 s.max=true ∧ ¬ s.max<s.min:=by
  simp only [Qe1,hk',beq_self_eq_true,cond_true] at h
  revert h
  cases h2:(((((decide ((s.alts.length:Int) > 0))||(!(Qn1 s.min)))||(!(Qn1 s.max)))||(decide (s.max<s.min)))||(!(Q52 s.wall))) with
  | true=>simp
  | false=>intro _;simp at h2;exact ⟨h2.1.1.1.2,h2.1.1.2,by omega⟩
 obtain ⟨a,b,c⟩:=h1
 simp [Qn1] at a b
 exact ⟨by omega,by omega,by omega,wr (by omega)⟩
def Qj7 :List Node->Nat->Int
 | [],_=>0
 | x_ :: r,i=>bif (!(QB6 x_)) then 120 else Qj7 r (i+1)
def Qf8 (l:List Node):Int:=bif (((l.length:Int)==0)||(decide ((l.length:Int) > 48))) then 120 else Qj7 l 0
theorem ref12_Check_c (l:List Node) (hs0:l.length<=4294967296):GV 174 [nodeL l] (I (Qf8 l)):=by
 generalize hR:Qf8 l=R;refine ga (.cons lw .nil) lx (kp 4 [11,15,23]) Tryz.func174 ?_;have hk0:=hs0;obtain z7:l.length<=4294967296:=hs0;refine ai (fun h1=>?_) (fun h2=>?_)
 ·obtain rfl:=foll hR (ct h1 rfl);exact Q00 lx sr
 ·refine Qf0 (fun (i:Nat)=>Qj7 (List.drop i l) i=R∧i<=l.length) (fun i=>l.length - i) (fun i=>[(0,nodeL l),(2,I 0),(3,I (i:Int))]) (fun i=>[]) 0 (wk [] .nil (sl lw (s1 (s1 .nil)))) ⟨foll hR (cf h2 rfl),by exact omA⟩ ?_;clear hR;rintro i ⟨hR,hj⟩;(try dsimp only at hR hj);refine ai (fun h3=>?_) (fun h4=>?_)
  ·have hlt:=ltA h3;rw [Q90 Node.zero hlt] at hR;refine ai gkA ?_;refine us (ref12_fine_c (l.getD i Node.zero) _) ?_;refine ai (fun h5=>?_) (fun h6=>?_)
   ·obtain rfl:=foll hR (ct h5 rfl);exact Q00 lx sr
   ·exact Qj0 (i+1) (wk [] .nil (sl lw (s1 (sv (Q70 (I_eq (wr omA)) lx) .nil)))) omA ⟨foll hR (cf h6 rfl),by exact omA⟩
  ·rw [Qa0 (l:=l) (j:=i) (geA h4)] at hR;obtain rfl:=foll hR rfl;exact Q00 lx sr
def Q76 (l:List Usage):List Usage->Nat->Int
 | [],_=>0
 | x_ :: r,i=>bif ((((((((i:Int)==200)||(!(QF3 x_.user)))||(!(QF3 x_.account)))||(decide (x_.used<0)))||(decide (x_.used > 1000000000000)))||(decide (x_.share<0)))||(decide (x_.share > x_.used))) then 2 else bif ((decide ((i:Int) > 0))&&(!(Q67 (l.getD (Int.toNat (w64 ((i:Int) - 1))) Usage.zero) x_))) then 2 else Q76 l r (i+1)
def Qz5 (l:List Usage):Int:=Q76 l l 0
theorem Qgc (l:List Usage) (hs0:l.length<=4294967296∧(∀ y ∈ l,y.sz)):GV 113 [QU2 l] (I (Qz5 l)):=by
 generalize hR:Qz5 l=R;refine ga (.cons lw .nil) lx (kp 5 [8,50,62]) Tryz.func113 ?_;obtain ⟨z9,z10⟩:=id hs0;refine Qf0 (fun (i:Nat)=>Q76 l (List.drop i l) i=R∧i<=l.length) (fun i=>l.length - i) (fun i=>[(0,QU2 l),(2,I 0),(3,I (i:Int))]) (fun i=>[]) 0 (wk [] .nil (sl lw (s1 (s1 .nil)))) ⟨foll hR rfl,by exact omA⟩ ?_;clear hR;rintro i ⟨hR,hj⟩;(try dsimp only at hR hj);refine ai (fun h1=>?_) (fun h2=>?_)
 ·have hlt:=ltA h1;rw [Q90 Usage.zero hlt] at hR;have hxz:(l.getD i Usage.zero).sz:=Q72 (by first|assumption|grind) (Usage.szz _);have hkz:=hxz;obtain ⟨z3,z4⟩:=Usage.zz hxz;refine ai gkA ?_;(first|apply u2|apply u3|apply u4|apply us);exact QQd ((l.getD i Usage.zero).user) _;(first|apply u2|apply u3|apply u4|apply us);exact QQd ((l.getD i Usage.zero).account) _;refine ai (fun h5=>?_) (fun h6=>?_)
  ·obtain rfl:=foll hR (ct h5 rfl);exact Q00 lx sr
  ·refine dchk (by kernel_rfl) ?_;refine ai gkA ?_;(first|apply u2|apply u3|apply u4|apply us);exact Qic (l.getD (Int.toNat (w64 ((i:Int) - 1))) Usage.zero) (l.getD i Usage.zero) _;(repeat ((first|refine ai rfl ?_|refine ai (fun _=>rfl) ?_|refine ai (fun _=>Qic (l.getD (Int.toNat (w64 ((i:Int) - 1))) Usage.zero) (l.getD i Usage.zero) _) ?_)));refine ai (fun h7=>?_) (fun h8=>?_)
   ·obtain rfl:=foll hR (cf h6 (ct h7 rfl));exact Q00 lx sr
   ·exact Qj0 (i+1) (wk [] .nil (sl lw (s1 (sv (Q70 (I_eq (wr omA)) lx) .nil)))) omA ⟨foll hR (cf h6 (cf h8 rfl)),by exact omA⟩
 ·rw [Qa0 (l:=l) (j:=i) (geA h2)] at hR;obtain rfl:=foll hR rfl;exact Q00 lx sr
def Qs1 :List Step->List Int->Nat->(List Int) × Nat
 | [],out,i=>(out,i)
 | x_ :: r,out,i=>Qs1 r (QL3 out x_.at_) (i+1)
def QF1 :List Int->List Int->Nat->(List Int) × Nat
 | [],out1,i1=>(out1,i1)
 | x_1 :: r,out1,i1=>QF1 r (QL3 out1 x_1) (i1+1)
def Qe5 (out1:List Int) (i1:Nat):(List Int):=out1
def Qd5 (more:List Int) (out:List Int) (i:Nat):(List Int):=Qe5 ((QF1 more out 0).1) ((QF1 more out 0).2)
def Q11 (p_:List Step) (more:List Int):(List Int):=Qd5 more ((Qs1 p_ [] 0).1) ((Qs1 p_ [] 0).2)
theorem b1b0 {P:Prop} (h:P:=by first|((try dsimp only);refine Nat.le_trans (QM7 _ _) ?_;omega)|exact exA):P:=h
theorem b1b1 {P:Prop} (h:P:=by first|((try dsimp only);refine Nat.le_trans (QM7 _ _) ?_;omega)|exact szA):P:=h
theorem ref10_Ticks_c (p_:List Step) (more:List Int) (hs0:p_.length<=4294967296) (hs1:more.length<=4294967296) (hp0:p_.length<=1000∧more.length<=2):GV 226 [stepL p_,ints more] (ints (Q11 p_ more)):=by
 generalize hR:Q11 p_ more=R;refine ga (.cons lw (.cons lw .nil)) lw (kp 8 [11,24]) Tryz.func226 ?_;have hk0:=hs0;obtain z5:p_.length<=4294967296:=hs0;have hk1:=hs1;obtain z6:more.length<=4294967296:=hs1;refine Qg0 (fun (out:List Int) (i:Nat)=>Qd5 more (Qs1 (List.drop i p_) out i).1 (Qs1 (List.drop i p_) out i).2=R∧i<=p_.length∧out.length<=i) (fun out i=>p_.length - i) (fun out i=>[(0,stepL p_),(1,ints more),(4,AVal.lit (.slice none 0 0)),(5,ints out),(6,I (i:Int))]) (fun out i=>[]) [] 0 (wk [] .nil (sl lw (sl lw (s1 (sv (turn_nil) (s1 .nil)))))) ⟨foll hR rfl,by exact omA,b1b0⟩ ?_;clear hR;rintro out i ⟨hR,hj,hx⟩;(try dsimp only at hR hj hx);refine ai (fun h1=>?_) (fun h2=>?_)
 ·have hlt:=ltA h1;rw [Q90 Step.zero hlt] at hR;refine ai gkA ?_;refine us (QKf out ((p_.getD i Step.zero).at_) b1b1 _) ?_;exact Q80 (QL3 out (p_.getD i Step.zero).at_) (i+1) (wk [] .nil (sl lw (sl lw (s1 (sl lw (sv (Q70 (I_eq (wr omA)) lx) .nil)))))) omA ⟨foll hR (congrArg (fun p:(List Int) × Nat=>Qd5 more p.1 p.2) rfl),by exact omA,b1b0⟩
 ·rw [Qa0 (l:=p_) (j:=i) (geA h2)] at hR;replace hR:Qd5 more out i=R:=fo2 (fun p:(List Int) × Nat=>Qd5 more p.1 p.2) (out,i) hR rfl;refine Qg0 (fun (out1:List Int) (i1:Nat)=>Qe5 (QF1 (List.drop i1 more) out1 i1).1 (QF1 (List.drop i1 more) out1 i1).2=R∧i1<=more.length∧out1.length<=p_.length+i1) (fun out1 i1=>more.length - i1) (fun out1 i1=>[(1,ints more),(4,AVal.lit (.slice none 0 0)),(5,ints out1),(7,I (i1:Int))]) (fun out1 i1=>[]) out 0 (wk [] .nil (sl lw (s1 (sl lw (s1 .nil))))) ⟨foll hR rfl,by exact omA,b1b0⟩ ?_;clear hR;rintro out1 i1 ⟨hR,hj,hx⟩;(try dsimp only at hR hj hx);refine ai (fun h3=>?_) (fun h4=>?_)
  ·have hlt:=ltA h3;rw [Q90 0 hlt] at hR;refine ai gkA ?_;refine us (QKf out1 (more.getD i1 0) b1b1 _) ?_;exact Q80 (QL3 out1 (more.getD i1 0)) (i1+1) (wk [] .nil (sl lw (s1 (sl lw (sv (Q70 (I_eq (wr omA)) lx) .nil))))) omA ⟨foll hR (congrArg (fun p:(List Int) × Nat=>Qe5 p.1 p.2) rfl),by exact omA,b1b0⟩
  ·rw [Qa0 (l:=more) (j:=i1) (geA h4)] at hR;replace hR:Qe5 out1 i1=R:=fo2 (fun p:(List Int) × Nat=>Qe5 p.1 p.2) (out1,i1) hR rfl;obtain rfl:=foll hR rfl;exact Q00 lw sr
theorem Qt8:∀ (p:List Step) (out:List Int) (i:Nat),(Qs1 p out i).1.length<=out.length+p.length
 | [],out,i=>by simp [Qs1]
 | x :: r,out,i=>by
  rw [Qs1]
  have h1:=Qt8 r (QL3 out x.at_) (i+1)
  have h2:=QM7 out x.at_
  simp only [List.length_cons]
  omega
theorem Qu8:∀ (p out:List Int) (i:Nat),(QF1 p out i).1.length<=out.length+p.length
 | [],out,i=>by simp [QF1]
 | x :: r,out,i=>by
  rw [QF1]
  have h1:=Qu8 r (QL3 out x) (i+1)
  have h2:=QM7 out x
  simp only [List.length_cons]
  omega
theorem Qe8 (p:List Step) (more:List Int):(Q11 p more).length<=p.length+more.length:=by
 have h1:=Qt8 p [] 0
 have h2:=Qu8 more (Qs1 p [] 0).1 0
 unfold Q11 Qd5 Qe5
 simp only [List.length_nil] at h1
 omega
def QO0 (l:List Job) (id_:Int):Job:=bif (decide ((QO1 l id_)<0)) then Job.zero else (l.getD (Int.toNat (QO1 l id_)) Job.zero)
theorem Qg8 (l:List Job) (id_:Int) (hs0:l.length<=4294967296∧(∀ y ∈ l,y.sz)):GV 87 [jobL l,I id_] (Job.a (QO0 l id_)):=by
 generalize hR:QO0 l id_=R;refine ga (.cons lw (l1 .nil)) (Job.low _ _) (kp 6 [10]) Tryz.func87 ?_;obtain ⟨z3,z4⟩:=id hs0;refine us (Q1d l id_ szA _) ?_;refine ai (fun h1=>?_) (fun h2=>?_)
 ·have qh1:=of_decide_eq_true h1;obtain rfl:=foll hR (ct h1 rfl);exact Q00 (Job.low _ _) (Seen.agg (e1 (e1 (e1 (e1 (e1 (ev (Qq0) (e1 (e1 (e1 (e1 (ev (Qq0) (e1 (e1 (e1 (e1 (e1 (e1 (e1 (e1 (e1 .nil)))))))))))))))))))))
 ·have qh2:=of_decide_eq_false h2;refine And.intro (by first|exact fun hg=>decide_eq_true (by first|((have hq:=Qp6 l id_;omega))|exact ckA)|exact gkA) ?_;obtain rfl:=foll hR (cf h2 rfl);exact Q00 (Job.low _ _) sr
theorem QOd {l:List Job} (id:Int) (h:∀ y ∈ l,y.sz):(QO0 l id).sz:=by
 unfold QO0
 cases (decide ((QO1 l id)<0)) with
 | true=>exact Job.szz _
 | false=>exact Q72 h (Job.szz _)
def QW2 (from_:Int) (to_:Int):List Step->Int->Nat->Int × Nat
 | [],out,i=>(out,i)
 | x_ :: r,out,i=>bif (((decide (x_.at_ > from_))&&(decide (x_.at_<to_)))&&(decide (x_.free<out))) then QW2 from_ to_ r x_.free (i+1) else QW2 from_ to_ r out (i+1)
def Qh4 (out:Int) (i:Nat):Int:=out
def Q57 (p_:List Step) (from_:Int) (to_:Int):Int:=bif (((((QA0 p_)!=0)||(decide (from_<0)))||(decide (from_ > 1000000)))||(decide (to_<=from_))) then 0 else Qh4 ((QW2 from_ to_ p_ (Q35 p_ from_) 0).1) ((QW2 from_ to_ p_ (Q35 p_ from_) 0).2)
theorem ref10_Least_c (p_:List Step) (from_:Int) (to_:Int) (hs0:p_.length<=4294967296):GV 57 [stepL p_,I from_,I to_] (I (Q57 p_ from_ to_)):=by
 generalize hR:Q57 p_ from_ to_=R;refine ga (.cons lw (l1 (l1 .nil))) lx (kp 9 [24,31,58]) Tryz.func57 ?_;have hk0:=hs0;obtain z7:p_.length<=4294967296:=hs0;refine us (QL7 p_ szA _) ?_;refine ai (fun h1=>?_) (fun h2=>?_)
 ·obtain rfl:=foll hR (ct h1 rfl);exact Q00 lx sr
 ·refine us (QJf p_ from_ szA _) ?_;refine Qg0 (fun (out:Int) (i:Nat)=>Qh4 (QW2 from_ to_ (List.drop i p_) out i).1 (QW2 from_ to_ (List.drop i p_) out i).2=R∧i<=p_.length) (fun out i=>p_.length - i) (fun out i=>[(0,stepL p_),(1,I from_),(2,I to_),(6,I 0),(7,I out),(8,I (i:Int))]) (fun out i=>[]) (Q35 p_ from_) 0 (wk [] .nil (sl lw (s1 (s1 (s1 (s1 (s1 .nil))))))) ⟨foll hR (cf h2 rfl),by exact omA⟩ ?_;clear hR;rintro out i ⟨hR,hj⟩;(try dsimp only at hR hj);refine ai (fun h3=>?_) (fun h4=>?_)
  ·have hlt:=ltA h3;rw [Q90 Step.zero hlt] at hR;refine ai gkA ?_;refine ai gkA ?_;refine ai gkA ?_;refine ai (fun h5=>?_) (fun h6=>?_)
   ·refine ai gkA ?_;exact Q80 ((p_.getD i Step.zero).free) (i+1) (wk [] .nil (sl lw (s1 (s1 (s1 (s1 (sv (Q70 (I_eq (wr omA)) lx) .nil))))))) omA ⟨foll hR (congrArg (fun p:Int × Nat=>Qh4 p.1 p.2) (ct h5 rfl)),by exact omA⟩
   ·exact Q80 out (i+1) (wk [] .nil (sl lw (s1 (s1 (s1 (s1 (sv (Q70 (I_eq (wr omA)) lx) .nil))))))) omA ⟨foll hR (congrArg (fun p:Int × Nat=>Qh4 p.1 p.2) (cf h6 rfl)),by exact omA⟩
  ·rw [Qa0 (l:=p_) (j:=i) (geA h4)] at hR;replace hR:Qh4 out i=R:=fo2 (fun p:Int × Nat=>Qh4 p.1 p.2) (out,i) hR rfl;obtain rfl:=foll hR rfl;exact Q00 lx sr
def QK0 (n:Int):Int:=(QQ5 n 1000000000000)
theorem ref01_Usage_c (n:Int):GV 262 [I n] (I (QK0 n)):=by
 generalize hR:QK0 n=R;refine ga (l1 .nil) lx (kp 3 []) Tryz.func262 ?_;refine us (QGd n 1000000000000 _) ?_;obtain rfl:=foll hR rfl;exact Q00 lx sr
def QGa (j:Job):Bool:=(Qo6 j.state)
theorem ref15_Over_c (j:Job):GV 239 [Job.a j] (Bo (QGa j)):=by
 generalize hR:QGa j=R;refine ga (.cons (Job.low _ _) .nil) lx (kp 3 []) Tryz.func239 ?_;refine us (Qec j.state _) ?_;obtain rfl:=foll hR rfl;exact Q00 lx sr
def QO6 (l:List Job) (j:Job):(List Job):=bif (decide ((QO1 l j.id) >= 0)) then (l.set (Int.toNat (QO1 l j.id)) j) else l
def QD3 (l:List Job) (j:Job):(List Job):=QO6 l j
theorem ref15_With_c (l:List Job) (j:Job) (hs0:l.length<=4294967296∧(∀ y ∈ l,y.sz)) (hs1:j.sz):GV 89 [jobL l,Job.a j] (jobL (QD3 l j)):=by
 generalize hR:QD3 l j=R;refine ga (.cons lw (.cons (Job.low _ _) .nil)) lw (kj [1000003] 7 [15]) Tryz.func89 ?_;obtain ⟨z3,z4⟩:=id hs0;obtain ⟨z5,z6,z7,z8,z9⟩:=Job.zz hs1;(first|refine ⟨QK1 216 rfl lnA apA,?_⟩|refine ⟨QR0 216 rfl apA,?_⟩);refine join_start (X:=Unit) (fun _=>QO6 l j  = R) (fun _=>[(3,AVal.ptr 0 0 20 0 0),(4,AVal.lit (.slice none 0 0)),(5,AVal.own 1 0 20 0 l.length),(6,I (QO1 l j.id))]) (fun _=>[(0,AObj.row 35 20 [[I j.id,Sg j.name,Sg j.user,Sg j.account,I j.shape.kind,altL j.shape.alts,I j.shape.min,I j.shape.max,I j.shape.wall,I j.prio,depL j.after,I j.state,Bo j.held,I j.born,I j.promise,I j.choice,I j.start,I j.limit,U j.nodes,I j.used]]),(0,AObj.row 35 20 (l.map Job.cells))]) ?_ ?_
 ·clear hR;rintro _ hR;(try dsimp only at hR);refine ai (fun h1=>?_) (fun h2=>?_)
  ·have qh1:=of_decide_eq_true h1;refine And.intro (by first|exact fun hg=>decide_eq_true (by first|((have hq:=Qp6 l j.id;omega))|exact ckA)|exact gkA) ?_;refine ⟨_,QF4 rfl rfl rfl rfl (Ql2 Job.zero (Int.toNat (QO1 l j.id)) (by first|rfl|exact Nat.zero_add _|omega) (by first|((have hq:=Qp6 l j.id;omega))|exact ckA)) rfl rfl (set_map (Int.toNat (QO1 l j.id)) j (by first|rfl|exact Nat.zero_add _|omega) rfl),?_⟩;obtain rfl:=foll hR (ct h1 rfl);exact Q00 lw (QT0 Job.zero _ rfl eqA lnA)
  ·have qh2:=of_decide_eq_false h2;obtain rfl:=foll hR (cf h2 rfl);exact Q00 lw (QT0 Job.zero _ rfl eqA lnA)
 ·refine us (Q1d l j.id szA _) ?_;exact join_here () (wk [0,1] (tO rfl (ts Job.lo) (tO rfl (tl eqA) .nil)) (sv (Q20 0 rfl rfl) (s1 (sv (to 1 lnA) (s1 .nil))))) (foll hR rfl)
theorem Q2b {l:List Job} {j x:Job} (h:x ∈ QD3 l j):x=j∨x ∈ l:=by
 unfold QD3 QO6 at h
 cases hc:(decide ((QO1 l j.id) >= 0)) with
 | true=>rw [hc] at h;exact (List.mem_or_eq_of_mem_set h).symm
 | false=>rw [hc] at h;exact .inr h
theorem ref15_With_len (l:List Job) (j:Job):(QD3 l j).length=l.length:=by
 unfold QD3 QO6
 cases (decide ((QO1 l j.id) >= 0)) <;> simp
end Go.Proofs.YtjpgfmbccohngaaGreatDoor
namespace Go.Proofs.YtjpgfmbccohngaaGreatDoor
set_option linter.unusedSimpArgs false
set_option linter.unusedVariables false
open Go.Fw
set_option maxRecDepth 20000
set_option maxHeartbeats 4000000
attribute [local irreducible] ACalls AMoves
def Qs7 :List Job->Nat->Bool
 | [],_=>true
 | x_ :: r,i=>bif (!(Q59 x_)) then false else Qs7 r (i+1)
def Q2c (l:List Job):Bool:=bif (decide ((l.length:Int) > 60)) then false else Qs7 l 0
theorem law15_Few_c (l:List Job) (hs0:l.length<=9223372036854775807∧(∀ y ∈ l,y.szM)):GV 32 [jobL l] (Bo (Q2c l)):=by
 generalize hR:Q2c l=R;refine ga (.cons lw .nil) lx (kp 4 [6,10,18]) Tryz.func32 ?_;obtain ⟨z12,z13⟩:=id hs0;refine ai (fun h1=>?_) (fun h2=>?_)
 ·have qh1:=of_decide_eq_true h1;obtain rfl:=foll hR (ct h1 rfl);exact Q00 lx sr
 ·have qh2:=of_decide_eq_false h2;refine Qf0 (fun (i:Nat)=>Qs7 (List.drop i l) i=R∧i<=l.length) (fun i=>l.length - i) (fun i=>[(0,jobL l),(2,Bo false),(3,I (i:Int))]) (fun i=>[]) 0 (wk [] .nil (sl lw (s1 (s1 .nil)))) ⟨foll hR (cf h2 rfl),by exact omA⟩ ?_;clear hR;rintro i ⟨hR,hj⟩;(try dsimp only at hR hj);refine ai (fun h3=>?_) (fun h4=>?_)
  ·have hlt:=ltA h3;rw [Q90 Job.zero hlt] at hR;have hxz:(l.getD i Job.zero).szM:=Q72 (by first|assumption|grind) (Job.szz _);have hkz:=hxz;obtain ⟨z5,z6,z7,z8,z9⟩:((l.getD i Job.zero).name).size<=9223372036854775807∧((l.getD i Job.zero).user).size<=9223372036854775807∧((l.getD i Job.zero).account).size<=9223372036854775807∧((((l.getD i Job.zero).shape).alts).length<=9223372036854775807)∧((l.getD i Job.zero).after).length<=9223372036854775807:=hxz;refine ai gkA ?_;refine us (law14_Few_c (l.getD i Job.zero) _) ?_;refine ai (fun h10=>?_) (fun h11=>?_)
   ·obtain rfl:=foll hR (ct h10 rfl);exact Q00 lx sr
   ·exact Qj0 (i+1) (wk [] .nil (sl lw (s1 (sv (Q70 (I_eq (wr omA)) lx) .nil)))) omA ⟨foll hR (cf h11 rfl),by exact omA⟩
  ·rw [Qa0 (l:=l) (j:=i) (geA h4)] at hR;obtain rfl:=foll hR rfl;exact Q00 lx sr
def Qa6 (l:List Alt):List Alt->Nat->Bool
 | [],_=>true
 | x_ :: r,i=>bif (QQ0 (List.take i l) (fun (y:Alt)=>(x_.nodes==y.nodes))) then false else Qa6 l r (i+1)
def QE5 (l:List Alt):Bool:=Qa6 l l 0
theorem shape_apart_c (l:List Alt) (hs0:l.length<=4294967296):GV 170 [altL l] (Bo (QE5 l)):=by
 generalize hR:QE5 l=R;refine ga (.cons lw .nil) lx (kp 5 [5,6,7,8,16]) Tryz.func170 ?_;have hk0:=hs0;obtain z9:l.length<=4294967296:=hs0;refine Qf0 (fun (i:Nat)=>Qa6 l (List.drop i l) i=R∧i<=l.length) (fun i=>l.length - i) (fun i=>[(0,altL l),(2,Bo false),(5,altL l),(6,I (l.length:Int)),(7,I (i:Int))]) (fun i=>[]) 0 (wk [] .nil (sl lw (s1 (sl lw (s1 (s1 .nil)))))) ⟨foll hR rfl,by exact omA⟩ ?_;clear hR;rintro i ⟨hR,hj⟩;(try dsimp only at hR hj);refine ai (fun h1=>?_) (fun h2=>?_)
 ·have hlt:=ltA h1;rw [Q90 Alt.zero hlt] at hR;refine ai gkA ?_;refine ai gkA ?_;have cl1:∀ (y1:Alt),AMoves Tryz.prog 218 [Alt.a y1,AVal.ptr 0 0 2 0 0] [(0,AObj.row 121 2 [[I (l.getD i Alt.zero).nodes,I (l.getD i Alt.zero).wall]])] 1 (Bo ((fun (y:Alt)=>((l.getD i Alt.zero).nodes==y.nodes)) y1)) [(0,AObj.row 121 2 [[I (l.getD i Alt.zero).nodes,I (l.getD i Alt.zero).wall]])]:=by
   intro y1;have hR:(fun (y:Alt)=>((l.getD i Alt.zero).nodes==y.nodes)) y1=(fun (y:Alt)=>((l.getD i Alt.zero).nodes==y.nodes)) y1:=rfl;refine mo (kp 4 []) Tryz.func218 ?_;refine Qs0 (fun r:Bool=>Bo r) (fun _=>[(0,AObj.row 121 2 [[I (l.getD i Alt.zero).nodes,I (l.getD i Alt.zero).wall]])]) (leaf:=((l.getD i Alt.zero).nodes==y1.nodes)) (foll hR rfl) ?_;exact tt [0] (tO rfl (ts Alt.lo) .nil) t1
  have hof1:AMoves Tryz.prog 171 [altL (List.take i l),AVal.fn (.func 218) [] [AVal.ptr 0 0 2 0 0]] [(0,AObj.row 121 2 [[I (l.getD i Alt.zero).nodes,I (l.getD i Alt.zero).wall]])] 1 (Bo (QQ0 (List.take i l) (fun (y:Alt)=>((l.getD i Alt.zero).nodes==y.nodes)))) [(0,AObj.row 121 2 [[I (l.getD i Alt.zero).nodes,I (l.getD i Alt.zero).wall]])]:=by
   have hR:QQ0 (List.take i l) (fun (y:Alt)=>((l.getD i Alt.zero).nodes==y.nodes))=QQ0 (List.take i l) (fun (y:Alt)=>((l.getD i Alt.zero).nodes==y.nodes)):=rfl;refine mo (kp 5 []) Tryz.func171 ?_;have hof2:AMoves Tryz.prog 219 [altL (List.take i l),AVal.fn (.func 218) [] [AVal.ptr 0 0 2 0 0]] [(0,AObj.row 121 2 [[I (l.getD i Alt.zero).nodes,I (l.getD i Alt.zero).wall]])] 1 (I (Q71 (List.take i l) (fun (y:Alt)=>((l.getD i Alt.zero).nodes==y.nodes)))) [(0,AObj.row 121 2 [[I (l.getD i Alt.zero).nodes,I (l.getD i Alt.zero).wall]])]:=by
    have hR:Q71 (List.take i l) (fun (y:Alt)=>((l.getD i Alt.zero).nodes==y.nodes))=Q71 (List.take i l) (fun (y:Alt)=>((l.getD i Alt.zero).nodes==y.nodes)):=rfl;refine mo (kp 6 [7,8,9,16]) Tryz.func219 ?_;refine Qf0 (fun (i1:Nat)=>Qj3 (fun (y:Alt)=>((l.getD i Alt.zero).nodes==y.nodes)) (List.drop i1 (List.take i l)) i1=Q71 (List.take i l) (fun (y:Alt)=>((l.getD i Alt.zero).nodes==y.nodes))∧i1<=(List.take i l).length) (fun i1=>(List.take i l).length - i1) (fun i1=>[(0,altL (List.take i l)),(1,AVal.fn (.func 218) [] [AVal.ptr 0 0 2 0 0]),(4,I 0),(7,I ((List.take i l).length:Int)),(8,I (i1:Int))]) (fun i1=>[(0,AObj.row 121 2 [[I (l.getD i Alt.zero).nodes,I (l.getD i Alt.zero).wall]])]) 0 (wk [0] (tO rfl (ts Alt.lo) .nil) (sl lw (sv (Q31 .nil (cv (Q20 0 rfl rfl) .nil)) (s1 (s1 (s1 .nil)))))) ⟨foll hR rfl,by exact omA⟩ ?_;clear hR;rintro i1 ⟨hR,hj⟩;(try dsimp only at hR hj);refine ai (fun h3=>?_) (fun h4=>?_)
    ·have hlt:=ltA h3;rw [Q90 Alt.zero hlt] at hR;refine ai gkA ?_;refine us (mv [0] (cl1 ((List.take i l).getD i1 Alt.zero)) (dO (ds Alt.lo) .nil) (dl (Alt.low _ _) (dp .nil)) (rO (re Alt.lo) .nil) rx) ?_;refine ai (fun h5=>?_) (fun h6=>?_)
     ·refine Qs0 (fun r:Int=>I r) (fun r:Int=>[(0,AObj.row 121 2 [[I (l.getD i Alt.zero).nodes,I (l.getD i Alt.zero).wall]])]) (leaf:=(i1:Int)) (foll hR (ct h5 rfl)) ?_;exact tt [0] (tO rfl (ts Alt.lo) .nil) t1
     ·exact Qj0 (i1+1) (wk [0] (tO rfl (ts Alt.lo) .nil) (sl lw (sv (Q31 .nil (cv (Q20 0 rfl rfl) .nil)) (s1 (s1 (sv (Q70 (I_eq (wr omA)) lx) .nil)))))) omA ⟨foll hR (cf h6 rfl),by exact omA⟩
    ·rw [Qa0 (l:=(List.take i l)) (j:=i1) (geA h4)] at hR;refine Qs0 (fun r:Int=>I r) (fun r:Int=>[(0,AObj.row 121 2 [[I (l.getD i Alt.zero).nodes,I (l.getD i Alt.zero).wall]])]) (leaf:=(-1)) (foll hR rfl) ?_;exact tt [0] (tO rfl (ts Alt.lo) .nil) t1
   refine us (mv [0] (hof2) (dO (ds Alt.lo) .nil) (dl lw (dv (dn_fn .nil (dp .nil)) .nil)) (rO (re Alt.lo) .nil) rx) ?_;refine Qs0 (fun r:Bool=>Bo r) (fun r:Bool=>[(0,AObj.row 121 2 [[I (l.getD i Alt.zero).nodes,I (l.getD i Alt.zero).wall]])]) (leaf:=(decide ((Q71 (List.take i l) (fun (y:Alt)=>((l.getD i Alt.zero).nodes==y.nodes))) >= 0))) (foll hR rfl) ?_;exact tt [0] (tO rfl (ts Alt.lo) .nil) t1
  refine us (mv [0] (hof1) (dO (ds Alt.lo) .nil) (dv (dn_as (as_take l i ckA) lw) (dv (dn_fn .nil (dp .nil)) .nil)) (rO (re Alt.lo) .nil) rx) ?_;refine ai (fun h7=>?_) (fun h8=>?_)
  ·obtain rfl:=foll hR (ct h7 rfl);exact Q00 lx sr
  ·exact Qj0 (i+1) (wk [] .nil (sl lw (s1 (sl lw (s1 (sv (Q70 (I_eq (wr omA)) lx) .nil)))))) omA ⟨foll hR (cf h8 rfl),by exact omA⟩
 ·rw [Qa0 (l:=l) (j:=i) (geA h2)] at hR;obtain rfl:=foll hR rfl;exact Q00 lx sr
def QI5 (s:ByteArray):Bool:=(((QV4 s).2==0)&&(QP2 ((QV4 s).1) 1 16))
theorem QKc (s:ByteArray) (hs0:s.size<=4294967296):GV 205 [Sg s] (Bo (QI5 s)):=by
 generalize hR:QI5 s=R;refine ga (l1 .nil) lx (kp 5 []) Tryz.func205 ?_;have hk0:=hs0;obtain z1:s.size<=4294967296:=hs0;refine us (Qnc s szA _) ?_;(first|apply u2|apply u3|apply u4|apply us);exact Qn3 ((QV4 s).1) 1 16 _;obtain rfl:=foll hR rfl;exact Q00 lx sr
def Q17 (s:ByteArray):Int × Bool:=bif (((!(QS7 s))||(decide ((ByteArray.size s:Int) > 9)))||((decide ((ByteArray.size s:Int) > 1))&&(((s.data.toList.getD 0 0).toNat:Int)==48))) then (0,false) else ((Qua s).1,true)
theorem lex_number_c (s:ByteArray) (hs0:s.size<=4294967296):GV 313 [Sg s] (AVal.tup [I ((Q17 s).1),Bo ((Q17 s).2)]):=by
 generalize hR:Q17 s=R;refine ga (l1 .nil) (Low.tup' (l1 (l1 .nil))) (kp 6 [23]) Tryz.func313 ?_;have hk0:=hs0;obtain z3:s.size<=4294967296:=hs0;refine us (Qwd s szA _) ?_;refine ai gkA ?_;refine ai (fun h1=>?_) (fun h2=>?_)
 ·obtain rfl:=foll hR (ct h1 rfl);exact Q00 (Low.tup' (l1 (l1 .nil))) (Seen.tup (e1 (e1 .nil)))
 ·refine us (strconv_Atoi_c s szA (by exact lex_digits_ok (by assumption)) _) ?_;refine dchk (by kernel_rfl) ?_;(repeat ((first|refine ai rfl ?_|refine ai (fun _=>rfl) ?_)));obtain rfl:=foll hR (cf h2 rfl);exact Q00 (Low.tup' (l1 (l1 .nil))) (Seen.tup (e1 (e1 .nil)))
theorem QIe (l:List Int) (r_:Int) (hl:l.length<=4294967296):AMoves Tryz.prog 304 [.ptr 0 0 2 0 0,J r_] [(0,.row 293 2 [[.sel 0 0 2 0 0,.own 1 0 1 0 l.length]]),(0,QH5 l)] 1 (.tup [I (w64 (((QJ0 l r_).length:Int) - (l.length:Int))),.lit .nilIface]) [(0,.row 293 2 [[.ptr 0 0 2 0 0,.own 1 0 1 0 (QJ0 l r_).length]]),(0,QH5 (QJ0 l r_))]:=by
 refine AMoves.of_cwp (fun t=>Nat.ble 1000000 t||Nat.blt t 7) Tryz.func304 rfl rfl rfl ?_
 refine us (AMoves.on [0,1] (copyCheck_m bldT0 (x:=.own 1 0 1 0 l.length) (rest:=[(0,QH5 l)]) (n0:=2) (by simp)) (by decide) rfl rfl rfl (.cons _ _ _ _ (.row1 _ _ _ _ (.cons _ _ _ _ (dn_sel rfl) (.cons _ _ _ _ (dn_own rfl) .nil))) (.cons _ _ _ _ (.same _ (Qv9 fun _=>lowL1 rfl)) .nil)) rfl (.cons _ _ _ _ (dn_ptr rfl) .nil) (.cons _ _ _ _ (RenO.row1 _ _ _ _ (.cons _ _ _ _ (Ren.ptr _ _ _ _ _ _ rfl) (.cons _ _ _ _ (Ren.own _ _ _ _ _ _ rfl) .nil))) (.cons _ _ _ _ (RenO.same _ (Qv9 fun _=>lowL1 rfl)) .nil)) (Ren.low _ (.tup _ (fun x h=>nomatch h)))) ?_
 refine us (AMoves.on [1] (Qhd l r_ hl) (by decide) rfl rfl rfl (.cons _ _ _ _ (dn_row rfl (Qv9 fun _=>lowL1 rfl)) .nil) rfl (.cons _ _ _ _ (QM8 rfl rfl) (.cons _ _ _ _ (Qp7 (Qz3 rfl)) .nil)) (.cons _ _ _ _ (RenO.same _ (Qv9 fun _=>lowL1 rfl)) .nil) (Ren.own _ _ _ _ _ _ rfl)) ?_
 refine Qs0 (fun _:Unit=>.tup [I (w64 (((QJ0 l r_).length:Int) - (l.length:Int))),.lit .nilIface]) (fun _:Unit=>[(0,.row 293 2 [[.ptr 0 0 2 0 0,.own 1 0 1 0 (QJ0 l r_).length]]),(0,QH5 (QJ0 l r_))]) (leaf:=()) rfl ?_
 exact Qk5 [0,2] rfl (by decide) (.cons 0 _ _ _ _ rfl (QC0 (.cons _ _ _ _ (Q20 0 rfl rfl) (.cons _ _ _ _ (QGe 1 rfl rfl rfl) .nil))) (.cons 2 _ _ _ _ rfl (QFc rfl (Qv9 fun _=>lowL1 rfl)) .nil)) (turn_tup (.cons _ _ _ _ (Qa1 (Qz3 rfl)) (.cons _ _ _ _ (Qa1 (Qz3 rfl)) .nil)))
def Qo5 (l:List Dep):List Dep->Nat->Bool
 | [],_=>(decide ((l.length:Int)<=4))
 | x_ :: r,i=>bif (((!(QP2 x_.how 1 3))||(!(Qjd x_.job)))||(Qx0 (List.take i l) (fun (y:Dep)=>(y.job==x_.job)))) then false else Qo5 l r (i+1)
def QH7 (l:List Dep):Bool:=Qo5 l l 0
theorem cmd_deps_c (l:List Dep) (hs0:l.length<=4294967296):GV 207 [depL l] (Bo (QH7 l)):=by
 generalize hR:QH7 l=R;refine ga (.cons lw .nil) lx (kp 6 [6,7,8,9,30]) Tryz.func207 ?_;have hk0:=hs0;obtain z9:l.length<=4294967296:=hs0;refine Qf0 (fun (i:Nat)=>Qo5 l (List.drop i l) i=R∧i<=l.length) (fun i=>l.length - i) (fun i=>[(0,depL l),(2,Bo false),(6,depL l),(7,I (l.length:Int)),(8,I (i:Int))]) (fun i=>[]) 0 (wk [] .nil (sl lw (s1 (sl lw (s1 (s1 .nil)))))) ⟨foll hR rfl,by exact omA⟩ ?_;clear hR;rintro i ⟨hR,hj⟩;(try dsimp only at hR hj);refine ai (fun h1=>?_) (fun h2=>?_)
 ·have hlt:=ltA h1;rw [Q90 Dep.zero hlt] at hR;refine ai gkA ?_;refine ai gkA ?_;have cl1:∀ (y1:Dep),AMoves Tryz.prog 236 [Dep.a y1,AVal.ptr 0 0 2 0 0] [(0,AObj.row 96 2 [[I (l.getD i Dep.zero).how,I (l.getD i Dep.zero).job]])] 1 (Bo ((fun (y:Dep)=>(y.job==(l.getD i Dep.zero).job)) y1)) [(0,AObj.row 96 2 [[I (l.getD i Dep.zero).how,I (l.getD i Dep.zero).job]])]:=by
   intro y1;have hR:(fun (y:Dep)=>(y.job==(l.getD i Dep.zero).job)) y1=(fun (y:Dep)=>(y.job==(l.getD i Dep.zero).job)) y1:=rfl;refine mo (kp 4 []) Tryz.func236 ?_;refine Qs0 (fun r:Bool=>Bo r) (fun _=>[(0,AObj.row 96 2 [[I (l.getD i Dep.zero).how,I (l.getD i Dep.zero).job]])]) (leaf:=(y1.job==(l.getD i Dep.zero).job)) (foll hR rfl) ?_;exact tt [0] (tO rfl (ts Dep.lo) .nil) t1
  have hof1:AMoves Tryz.prog 75 [depL (List.take i l),AVal.fn (.func 236) [] [AVal.ptr 0 0 2 0 0]] [(0,AObj.row 96 2 [[I (l.getD i Dep.zero).how,I (l.getD i Dep.zero).job]])] 1 (Bo (Qx0 (List.take i l) (fun (y:Dep)=>(y.job==(l.getD i Dep.zero).job)))) [(0,AObj.row 96 2 [[I (l.getD i Dep.zero).how,I (l.getD i Dep.zero).job]])]:=by
   have hR:Qx0 (List.take i l) (fun (y:Dep)=>(y.job==(l.getD i Dep.zero).job))=Qx0 (List.take i l) (fun (y:Dep)=>(y.job==(l.getD i Dep.zero).job)):=rfl;refine mo (kp 5 []) Tryz.func75 ?_;have hof2:AMoves Tryz.prog 145 [depL (List.take i l),AVal.fn (.func 236) [] [AVal.ptr 0 0 2 0 0]] [(0,AObj.row 96 2 [[I (l.getD i Dep.zero).how,I (l.getD i Dep.zero).job]])] 1 (I (Q81 (List.take i l) (fun (y:Dep)=>(y.job==(l.getD i Dep.zero).job)))) [(0,AObj.row 96 2 [[I (l.getD i Dep.zero).how,I (l.getD i Dep.zero).job]])]:=by
    have hR:Q81 (List.take i l) (fun (y:Dep)=>(y.job==(l.getD i Dep.zero).job))=Q81 (List.take i l) (fun (y:Dep)=>(y.job==(l.getD i Dep.zero).job)):=rfl;refine mo (kp 6 [7,8,9,16]) Tryz.func145 ?_;refine Qf0 (fun (i1:Nat)=>Qk3 (fun (y:Dep)=>(y.job==(l.getD i Dep.zero).job)) (List.drop i1 (List.take i l)) i1=Q81 (List.take i l) (fun (y:Dep)=>(y.job==(l.getD i Dep.zero).job))∧i1<=(List.take i l).length) (fun i1=>(List.take i l).length - i1) (fun i1=>[(0,depL (List.take i l)),(1,AVal.fn (.func 236) [] [AVal.ptr 0 0 2 0 0]),(4,I 0),(7,I ((List.take i l).length:Int)),(8,I (i1:Int))]) (fun i1=>[(0,AObj.row 96 2 [[I (l.getD i Dep.zero).how,I (l.getD i Dep.zero).job]])]) 0 (wk [0] (tO rfl (ts Dep.lo) .nil) (sl lw (sv (Q31 .nil (cv (Q20 0 rfl rfl) .nil)) (s1 (s1 (s1 .nil)))))) ⟨foll hR rfl,by exact omA⟩ ?_;clear hR;rintro i1 ⟨hR,hj⟩;(try dsimp only at hR hj);refine ai (fun h3=>?_) (fun h4=>?_)
    ·have hlt:=ltA h3;rw [Q90 Dep.zero hlt] at hR;refine ai gkA ?_;refine us (mv [0] (cl1 ((List.take i l).getD i1 Dep.zero)) (dO (ds Dep.lo) .nil) (dl (Dep.low _ _) (dp .nil)) (rO (re Dep.lo) .nil) rx) ?_;refine ai (fun h5=>?_) (fun h6=>?_)
     ·refine Qs0 (fun r:Int=>I r) (fun r:Int=>[(0,AObj.row 96 2 [[I (l.getD i Dep.zero).how,I (l.getD i Dep.zero).job]])]) (leaf:=(i1:Int)) (foll hR (ct h5 rfl)) ?_;exact tt [0] (tO rfl (ts Dep.lo) .nil) t1
     ·exact Qj0 (i1+1) (wk [0] (tO rfl (ts Dep.lo) .nil) (sl lw (sv (Q31 .nil (cv (Q20 0 rfl rfl) .nil)) (s1 (s1 (sv (Q70 (I_eq (wr omA)) lx) .nil)))))) omA ⟨foll hR (cf h6 rfl),by exact omA⟩
    ·rw [Qa0 (l:=(List.take i l)) (j:=i1) (geA h4)] at hR;refine Qs0 (fun r:Int=>I r) (fun r:Int=>[(0,AObj.row 96 2 [[I (l.getD i Dep.zero).how,I (l.getD i Dep.zero).job]])]) (leaf:=(-1)) (foll hR rfl) ?_;exact tt [0] (tO rfl (ts Dep.lo) .nil) t1
   refine us (mv [0] (hof2) (dO (ds Dep.lo) .nil) (dl lw (dv (dn_fn .nil (dp .nil)) .nil)) (rO (re Dep.lo) .nil) rx) ?_;refine Qs0 (fun r:Bool=>Bo r) (fun r:Bool=>[(0,AObj.row 96 2 [[I (l.getD i Dep.zero).how,I (l.getD i Dep.zero).job]])]) (leaf:=(decide ((Q81 (List.take i l) (fun (y:Dep)=>(y.job==(l.getD i Dep.zero).job))) >= 0))) (foll hR rfl) ?_;exact tt [0] (tO rfl (ts Dep.lo) .nil) t1
  refine us (mv [0] (hof1) (dO (ds Dep.lo) .nil) (dv (dn_as (as_take l i ckA) lw) (dv (dn_fn .nil (dp .nil)) .nil)) (rO (re Dep.lo) .nil) rx) ?_;refine us (Qn3 ((l.getD i Dep.zero).how) 1 3 _) ?_;(first|apply u2|apply u3|apply u4|apply us);exact QBe ((l.getD i Dep.zero).job) _;refine ai (fun h7=>?_) (fun h8=>?_)
  ·obtain rfl:=foll hR (ct h7 rfl);exact Q00 lx sr
  ·exact Qj0 (i+1) (wk [] .nil (sl lw (s1 (sl lw (s1 (sv (Q70 (I_eq (wr omA)) lx) .nil)))))) omA ⟨foll hR (cf h8 rfl),by exact omA⟩
 ·rw [Qa0 (l:=l) (j:=i) (geA h2)] at hR;obtain rfl:=foll hR rfl;exact Q00 lx sr
def QHb (a:Cmd) (b:Cmd):Bool:=bif ((!(Qd9 a.shape b.shape))||(!(Qi6 a.after b.after))) then false else ((((((((((((a.kind==b.kind)&&(a.job==b.job))&&(ByteArray.toList a.name==ByteArray.toList b.name))&&(ByteArray.toList a.user==ByteArray.toList b.user))&&(ByteArray.toList a.account==ByteArray.toList b.account))&&(a.prio==b.prio))&&(a.hasPrio==b.hasPrio))&&(a.time==b.time))&&(a.hasTime==b.hasTime))&&(a.node==b.node))&&(a.nodes==b.nodes))&&(a.from_==b.from_))
theorem cmd_Same_c (a:Cmd) (b:Cmd) (hs0:a.sz) (hs1:b.sz):GV 143 [Cmd.a a,Cmd.a b] (Bo (QHb a b)):=by
 generalize hR:QHb a b=R;refine ga (.cons (Cmd.low _ _) (.cons (Cmd.low _ _) .nil)) lx (kp 5 [18]) Tryz.func143 ?_;have hk0:=hs0;obtain ⟨z3,z4,z5,z6,z7⟩:a.name.size<=4294967296∧a.user.size<=4294967296∧a.account.size<=4294967296∧(a.shape.alts.length<=4294967296)∧a.after.length<=4294967296:=hs0;have hk1:=hs1;obtain ⟨z8,z9,z10,z11,z12⟩:b.name.size<=4294967296∧b.user.size<=4294967296∧b.account.size<=4294967296∧(b.shape.alts.length<=4294967296)∧b.after.length<=4294967296:=hs1;refine us (shape_Same_c a.shape b.shape szA szA _) ?_;(first|apply u2|apply u3|apply u4|apply us);exact Qwc a.after b.after szA szA _;refine ai (fun h1=>?_) (fun h2=>?_)
 ·obtain rfl:=foll hR (ct h1 rfl);exact Q00 lx sr
 ·obtain rfl:=foll hR (cf h2 rfl);exact Q00 lx sr
def Q3a (set_:Int):Bool:=((wu64 (BitVec.ofInt 64 set_ &&& ~~~(BitVec.ofInt 64 (QM4 48))).toNat)==0)
theorem Qjf (set_:Int):GV 146 [U set_] (Bo (Q3a set_)):=by
 generalize hR:Q3a set_=R;refine ga (l1 .nil) lx (kp 3 []) Tryz.func146 ?_;refine us (nodeset_All_c 48 _) ?_;obtain rfl:=foll hR rfl;exact Q00 lx sr
def Q22 (x_:Node):Bool:=bif ((((decide (x_.epoch<0))||(decide (x_.epoch > 999999999)))||(!(Q09 x_.since)))||(!(Q09 x_.asked))) then false else bif (x_.state==0) then ((x_.job==0)&&(Q21 ([0]:List Int) x_.want)) else bif (x_.state==1) then (((decide (x_.job >= 1))&&(decide (x_.job<=99999)))&&(Q21 ([0,1,3,4]:List Int) x_.want)) else bif (x_.state==2) then (((decide (x_.job >= 1))&&(decide (x_.job<=99999)))&&(Q21 ([0,2]:List Int) x_.want)) else bif (x_.state==3) then (((decide (x_.job >= 1))&&(decide (x_.job<=99999)))&&(Q21 ([5]:List Int) x_.want)) else bif (x_.state==4) then ((x_.job==0)&&(Q21 ([0,6]:List Int) x_.want)) else false
theorem fleet_fine_c (x_:Node):GV 196 [Node.a x_] (Bo (Q22 x_)):=by
 generalize hR:Q22 x_=R;refine ga (.cons (Node.low _ _) .nil) lx (kp 5 [24,35,36,41,44,47,50]) Tryz.func196 ?_;(first|apply u2|apply u3|apply u4|apply us);exact Qod x_.since _;(first|apply u2|apply u3|apply u4|apply us);exact Qod x_.asked _;refine ai (fun h1=>?_) (fun h2=>?_)
 ·obtain rfl:=foll hR (ct h1 rfl);exact Q00 lx sr
 ·refine Or.inl ?_;refine ai (fun h3=>?_) (fun h4=>?_)
  ·(first|apply u2|apply u3|apply u4|apply us);exact AGives.as2 (QY1 ([0]:List Int) x_.want szA _) (av (QZ5 (c:=(fun q_=>[I q_])) (d:=0) ([0]:List Int) rfl) (a1 .nil));obtain rfl:=foll hR (cf h2 (ct h3 rfl));exact Q00 lx sr
  ·refine ai (fun h5=>?_) (fun h6=>?_)
   ·refine Or.inl ?_;(first|apply u2|apply u3|apply u4|apply us);exact AGives.as2 (QY1 ([0,1,3,4]:List Int) x_.want szA _) (av (QZ5 (c:=(fun q_=>[I q_])) (d:=0) ([0,1,3,4]:List Int) rfl) (a1 .nil));obtain rfl:=foll hR (cf h2 (cf h4 (ct h5 rfl)));exact Q00 lx sr
   ·refine ai (fun h7=>?_) (fun h8=>?_)
    ·refine Or.inl ?_;(first|apply u2|apply u3|apply u4|apply us);exact AGives.as2 (QY1 ([0,2]:List Int) x_.want szA _) (av (QZ5 (c:=(fun q_=>[I q_])) (d:=0) ([0,2]:List Int) rfl) (a1 .nil));obtain rfl:=foll hR (cf h2 (cf h4 (cf h6 (ct h7 rfl))));exact Q00 lx sr
    ·refine ai (fun h9=>?_) (fun h10=>?_)
     ·refine Or.inl ?_;(first|apply u2|apply u3|apply u4|apply us);exact AGives.as2 (QY1 ([5]:List Int) x_.want szA _) (av (QZ5 (c:=(fun q_=>[I q_])) (d:=0) ([5]:List Int) rfl) (a1 .nil));obtain rfl:=foll hR (cf h2 (cf h4 (cf h6 (cf h8 (ct h9 rfl)))));exact Q00 lx sr
     ·refine ai (fun h11=>?_) (fun h12=>?_)
      ·refine Or.inl ?_;(first|apply u2|apply u3|apply u4|apply us);exact AGives.as2 (QY1 ([0,6]:List Int) x_.want szA _) (av (QZ5 (c:=(fun q_=>[I q_])) (d:=0) ([0,6]:List Int) rfl) (a1 .nil));obtain rfl:=foll hR (cf h2 (cf h4 (cf h6 (cf h8 (cf h10 (ct h11 rfl))))));exact Q00 lx sr
      ·obtain rfl:=foll hR (cf h2 (cf h4 (cf h6 (cf h8 (cf h10 (cf h12 rfl))))));exact Q00 lx sr
def Qu7 (a:Usage) (b:Usage):Int:=(Qwa ([(QW0 a.user b.user),(QW0 a.account b.account)]:List Int))
theorem QZa (a:Usage) (b:Usage) (hs0:a.sz) (hs1:b.sz):GV 129 [Usage.a a,Usage.a b] (I (Qu7 a b)):=by
 generalize hR:Qu7 a b=R;refine ga (.cons (Usage.low _ _) (.cons (Usage.low _ _) .nil)) lx (kp 5 []) Tryz.func129 ?_;obtain ⟨z1,z2⟩:=Usage.zz hs0;obtain ⟨z3,z4⟩:=Usage.zz hs1;refine dchk (by kernel_rfl) ?_;(first|apply u2|apply u3|apply u4|apply us);exact Qp4 a.user b.user _;(first|apply u2|apply u3|apply u4|apply us);exact Qp4 a.account b.account _;(first|apply u2|apply u3|apply u4|apply us);exact AGives.as2 (Qkd ([(QW0 a.user b.user),(QW0 a.account b.account)]:List Int) szA _) (av (QZ5 (c:=(fun q_=>[I q_])) (d:=0) ([(QW0 a.user b.user),(QW0 a.account b.account)]:List Int) rfl) .nil);(repeat ((first|refine ai rfl ?_|refine ai (fun _=>rfl) ?_|refine ai (fun _=>Qp4 a.user b.user _) ?_|refine ai (fun _=>Qp4 a.account b.account _) ?_|refine ai (fun _=>AGives.as2 (Qkd ([(QW0 a.user b.user),(QW0 a.account b.account)]:List Int) szA _) (av (QZ5 (c:=(fun q_=>[I q_])) (d:=0) ([(QW0 a.user b.user),(QW0 a.account b.account)]:List Int) rfl) .nil)) ?_)));obtain rfl:=foll hR rfl;exact Q00 lx sr
def Qq5 (p_:List Step) (long nodes at_:Int) (i:Nat):Int × Bool:=bif (decide (at_ > (w64 (1000000 - long)))) then (0,false) else ear long nodes (List.drop i p_) at_
def Q23 (p_:List Step) (from_ long nodes:Int):Int × Bool:=bif (((QN1 p_)!=0)||(!(Q93 long nodes))) then (0,false) else Qq5 p_ long nodes (max from_ 0) 0
theorem ear_step (long n a:Int) (p:List Step) (i:Nat) (hi:i<p.length) (hp:p.length<=4294967296) (h:(p.getD i Step.zero).at_<w64 (a+long)) :
  (((decide ((p.getD i Step.zero).free >= n))||((!((w64 ((i:Int)+1))==(p.length:Int)))&&(decide ((p.getD (Int.toNat (w64 ((i:Int)+1))) Step.zero).at_<=a))))=true->ear long n (List.drop i p) a=ear long n (List.drop (i+1) p) a) ∧
  (((decide ((p.getD i Step.zero).free >= n))||((!((w64 ((i:Int)+1))==(p.length:Int)))&&(decide ((p.getD (Int.toNat (w64 ((i:Int)+1))) Step.zero).at_<=a))))=false ->
   (((w64 ((i:Int)+1))==(p.length:Int))=true->ear long n (List.drop i p) a=(0,false))∧(((w64 ((i:Int)+1))==(p.length:Int))=false->i+1<p.length∧ear long n (List.drop i p) a=Qq5 p long n (p.getD (i+1) Step.zero).at_ (i+1))):=by
 have hw:w64 ((i:Int)+1)=((i+1:Nat):Int):=wr (by omega)
 rw [hw,Q90 Step.zero hi]
 simp only [Int.toNat_natCast]
 have e:∀ r,ear long n (p.getD i Step.zero :: r) a=bif decide ((p.getD i Step.zero).free >= n) then ear long n r a else match r with | []=>(0,false)|y :: _=>bif decide (y.at_<=a) then ear long n r a else bif decide (y.at_ > w64 (1000000 - long)) then (0,false) else ear long n r y.at_:=by
  intro r
  rw [ear_cons,decide_eq_true h]
  rfl
 rw [e]
 cases decide ((p.getD i Step.zero).free >= n) with
 | true=>exact ⟨fun _=>rfl,fun h=>nomatch h⟩
 | false =>
  rcases Nat.lt_or_ge (i+1) p.length with hl|hl
  ·have hb:(((i+1:Nat):Int)==(p.length:Int))=false:=by simp;omega
   rw [hb,Q90 Step.zero hl]
   cases hc:decide ((p.getD (i+1) Step.zero).at_<=a) with
   | true=>exact ⟨fun _=>by simp only [cond_false,hc,cond_true],fun h=>nomatch h⟩
   | false =>
    refine ⟨fun h=>(nomatch h),fun _=>⟨fun h=>(nomatch h),fun _=>⟨hl,?_⟩⟩⟩
    unfold Qq5
    rw [Q90 Step.zero hl]
    simp only [cond_false,hc]
  ·have hb:(((i+1:Nat):Int)==(p.length:Int))=true:=by simp;omega
   rw [hb,List.drop_eq_nil_of_le hl]
   exact ⟨fun h=>(by cases h),fun _=>⟨fun _=>rfl,fun h=>nomatch h⟩⟩
theorem ear_end {long n a:Int} {p:List Step} {i:Nat} (hi:i<=p.length) (h:((decide ((i:Int)<(p.length:Int)))&&(decide ((p.getD i Step.zero).at_<w64 (a+long))))=false):ear long n (List.drop i p) a=(a,true):=by
 rcases Nat.lt_or_ge i p.length with hl|hl
 ·rw [Q90 Step.zero hl,ear_cons]
  rw [show decide ((i:Int)<(p.length:Int))=true from decide_eq_true (by omega),Bool.true_and] at h
  rw [h]
  rfl
 ·rw [List.drop_eq_nil_of_le hl]
  rfl
theorem fit_Earliest_c (p_:List Step) (from_ long nodes:Int) (hs0:p_.length<=4294967296):GV 104 [stepL p_,I from_,I long,I nodes] (AVal.tup [I (Q23 p_ from_ long nodes).1,Bo (Q23 p_ from_ long nodes).2]):=by
 generalize hR:Q23 p_ from_ long nodes=R;refine ga (.cons lw (l1 (l1 (l1 .nil)))) (Low.tup' (l1 (l1 .nil))) (kj [3000001] 13 [21,27,42,70,71]) Tryz.func104 ?_;have hk0:=hs0;refine scope_start2 (keep:=kj [3000001] 13 [21,27,42,70,71]) 0 (p_.length+1) (fun (at_:Int) (i:Nat)=>Qq5 p_ long nodes at_ i=R∧i<=p_.length) (fun at_ i=>p_.length - i) (fun at_ i=>[(0,stepL p_),(2,I long),(3,I nodes),(8,I 0),(9,Bo false),(10,I at_),(11,I (i:Int))]) (fun _ _=>[]) rfl ?_ ?_
 ·clear hR;rintro at_ i0 ⟨hR,hi0⟩;refine ai (fun h1=>?_) (fun h2=>?_)
  ·obtain rfl:=foll hR (ct h1 rfl);exact Q00 (Low.tup' (l1 (l1 .nil))) sr
  ·refine Qf0 (fun (i:Nat)=>ear long nodes (List.drop i p_) at_=R∧i<=p_.length∧i0<=i) (fun i=>p_.length - i) (fun i=>[(0,stepL p_),(2,I long),(3,I nodes),(8,I 0),(9,Bo false),(10,I at_),(11,I (i:Int))]) (fun _=>[]) i0 (wk [] .nil (sl lw (s1 (s1 (s1 (s1 (s1 (s1 .nil)))))))) ⟨foll hR (cf h2 rfl),hi0,Nat.le_refl _⟩ ?_;clear hR;rintro i ⟨hR,hj,hq⟩;(try dsimp only at hR hj hq);refine ai gkA ?_;refine ai (fun h3=>?_) (fun h4=>?_)
   ·have h3':=Bool.and_eq_true_iff.1 h3;(have hlt:i<p_.length:=by have:=of_decide_eq_true h3'.1;omega);have hs:=ear_step long nodes at_ p_ i hlt hs0 (of_decide_eq_true h3'.2);have hw1:w64 ((i:Int)+1)=(i:Int)+1:=wr (by omega);refine ai gkA ?_;refine ai gkA ?_;refine ai (fun h5=>?_) (fun h6=>?_)
    ·exact Qj0 (i+1) (wk [] .nil (sl lw (s1 (s1 (s1 (s1 (s1 (sv (Q70 (I_eq (wr omA)) lx) .nil)))))))) omA ⟨(hs.1 h5).symm.trans hR,hlt,by omega⟩
    ·refine ai (fun h7=>?_) (fun h8=>?_)
     ·obtain rfl:=((hs.2 h6).1 h7).symm.trans hR;exact Q00 (Low.tup' (l1 (l1 .nil))) sr
     ·have h8':=(hs.2 h6).2 h8;refine ai gkA ?_;exact ⟨rfl,Q80 ((p_.getD (i+1) Step.zero).at_) (i+1) (wk [] .nil (sl lw (s1 (s1 (s1 (s1 (sv (Q70 (I_eq (by show (p_.getD (Int.toNat (w64 ((i:Int)+1))) Step.zero).at_=_;rw [hw1];rfl)) lx) (sv (Q70 (I_eq (wr omA)) lx) .nil)))))))) omA ⟨h8'.2.symm.trans hR,hlt⟩⟩
   ·obtain rfl:=(ear_end hj h4).symm.trans hR;exact Q00 (Low.tup' (l1 (l1 .nil))) sr
 ·refine us (Qt5 p_ szA _) ?_;(first|apply u2|apply u3|apply u4|apply us);exact QQc long nodes _;refine ai (fun h1=>?_) (fun h2=>?_)
  ·obtain rfl:=foll hR (ct h1 rfl);exact Q00 (Low.tup' (l1 (l1 .nil))) sr
  ·refine ai (fun h3=>?_) (fun h4=>?_)
   ·obtain rfl:=foll hR ((cf h2 rfl).trans (ct h3 rfl));exact Q00 (Low.tup' (l1 (l1 .nil))) sr
   ·refine Qf0 (fun (i:Nat)=>ear long nodes (List.drop i p_) (max from_ 0)=R∧i<=p_.length) (fun i=>p_.length - i) (fun i=>[(0,stepL p_),(2,I long),(3,I nodes),(8,I 0),(9,Bo false),(10,I (max from_ 0)),(11,I (i:Int))]) (fun _=>[]) 0 (wk [] .nil (sl lw (s1 (s1 (s1 (s1 (s1 (s1 .nil)))))))) ⟨foll hR ((cf h2 rfl).trans (cf h4 rfl)),Nat.zero_le _⟩ ?_;clear hR;rintro i ⟨hR,hj⟩;(try dsimp only at hR hj);refine ai gkA ?_;refine ai (fun h3=>?_) (fun h4=>?_)
    ·have h3':=Bool.and_eq_true_iff.1 h3;(have hlt:i<p_.length:=by have:=of_decide_eq_true h3'.1;omega);have hs:=ear_step long nodes (max from_ 0) p_ i hlt hs0 (of_decide_eq_true h3'.2);have hw1:w64 ((i:Int)+1)=(i:Int)+1:=wr (by omega);refine ai gkA ?_;refine ai gkA ?_;refine ai (fun h5=>?_) (fun h6=>?_)
     ·exact Qj0 (i+1) (wk [] .nil (sl lw (s1 (s1 (s1 (s1 (s1 (sv (Q70 (I_eq (wr omA)) lx) .nil)))))))) omA ⟨(hs.1 h5).symm.trans hR,hlt⟩
     ·refine ai (fun h7=>?_) (fun h8=>?_)
      ·obtain rfl:=((hs.2 h6).1 h7).symm.trans hR;exact Q00 (Low.tup' (l1 (l1 .nil))) sr
      ·have h8':=(hs.2 h6).2 h8;refine ai gkA ?_;exact ⟨rfl,Q80 ((p_.getD (i+1) Step.zero).at_) (i+1) (wk [] .nil (sl lw (s1 (s1 (s1 (s1 (sv (Q70 (I_eq (by show (p_.getD (Int.toNat (w64 ((i:Int)+1))) Step.zero).at_=_;rw [hw1];rfl)) lx) (sv (Q70 (I_eq (wr omA)) lx) .nil)))))))) omA ⟨h8'.2.symm.trans hR,hlt⟩⟩
    ·obtain rfl:=(ear_end hj h4).symm.trans hR;exact Q00 (Low.tup' (l1 (l1 .nil))) sr
def Qv2 (c4:List Step):(List Step) × Int:=bif ((QN1 c4)!=0) then ([],3) else (c4,0)
def Q46 :List Step->Nat->List Step->(List Step)
 | [],_,c5=>c5
 | x_ :: r,i2,c5=>Q46 r (i2+1) (QZ0 x_.at_ x_.free c5)
def Qc4 (c5:List Step):(List Step) × Int:=Qv2 c5
def QV2 (p_:List Step) (to_:Int) (i:Int) (last:Int) (c2:List Step):(List Step) × Int:=bif (i==(p_.length:Int)) then bif (decide (to_<=1000000)) then Qv2 (QZ0 to_ last c2) else Qv2 c2 else Qc4 (Q46 (List.drop (Int.toNat i) p_) 0 c2)
def Qq3 (p_:List Step) (to_:Int) (n:Int):Nat->Int->Int->List Step->(List Step) × Int
 | 0,_,_,_=>([],0)
 | m+1,i1,last1,c3=>bif (decide (i1<(p_.length:Int))) then bif (decide ((p_.getD (Int.toNat i1) Step.zero).at_<to_)) then Qq3 p_ to_ n m (w64 (i1+1)) ((p_.getD (Int.toNat i1) Step.zero).free) (QZ0 ((p_.getD (Int.toNat i1) Step.zero).at_) (w64 ((p_.getD (Int.toNat i1) Step.zero).free+n)) c3) else bif (decide ((p_.getD (Int.toNat i1) Step.zero).at_ > to_)) then QV2 p_ to_ i1 ((p_.getD (Int.toNat i1) Step.zero).free) (QZ0 to_ ((p_.getD (Int.toNat (w64 (i1 - 1))) Step.zero).free) c3) else QV2 p_ to_ i1 ((p_.getD (Int.toNat i1) Step.zero).free) c3 else QV2 p_ to_ i1 last1 c3
def Q85 (p_:List Step) (from_:Int) (to_:Int) (n:Int) (c:List Step):(List Step) × Int:=Qq3 p_ to_ n ((Int.toNat ((p_.length:Int) - (w64 ((Qc0 p_ from_)+1))))+1) (w64 ((Qc0 p_ from_)+1)) ((p_.getD (Int.toNat (Qc0 p_ from_)) Step.zero).free) (QZ0 from_ (w64 ((p_.getD (Int.toNat (Qc0 p_ from_)) Step.zero).free+n)) c)
def Qx1 (p_:List Step) (from_:Int) (to_:Int) (n:Int):(List Step) × Int:=bif ((QN1 p_)!=0) then ([],100) else bif (((!(QR2 from_))||(decide (to_<from_)))||(!(QJ2 n))) then ([],2) else bif (to_==from_) then (p_,0) else bif (decide ((p_.getD (Int.toNat (Qc0 p_ from_)) Step.zero).at_<from_)) then Q85 p_ from_ to_ n (QZ0 ((p_.getD (Int.toNat (Qc0 p_ from_)) Step.zero).at_) ((p_.getD (Int.toNat (Qc0 p_ from_)) Step.zero).free) (List.take (Int.toNat (Qc0 p_ from_)) p_)) else Q85 p_ from_ to_ n (List.take (Int.toNat (Qc0 p_ from_)) p_)
theorem b2a0 {P:Prop} (h:P:=by first|((exact ⟨by omega,by omega,Nat.le_trans (Q14 _ _ _) (by omega)⟩))|first|((exact ⟨by omega,by omega,by omega⟩))|first|((rw [hw1];exact ⟨by omega,by omega,Int.le_trans (Int.ofNat_le.2 (Q14 _ _ _)) (by omega)⟩))|first|((rw [hw];exact ⟨by omega,by omega,Int.le_trans (Int.ofNat_le.2 (Q14 _ _ _)) (by omega)⟩))|first|(((try dsimp only);refine Nat.le_trans (Q14 _ _ _) ?_;first|omega|(simp;omega)))|first|(((try dsimp only);rw [List.length_drop] at *;omega))|first|((simp;omega))|exact exA):P:=h
theorem b2a1 {P:Prop} (h:P:=by first|((refine Nat.le_trans (Q14 _ _ _) ?_;omega))|first|((simp;omega))|exact szA):P:=h
theorem Qy9 (p_:List Step) (from_:Int) (to_:Int) (n:Int) (hs0:p_.length<=4294967296):GV 84 [stepL p_,I from_,I to_,I n] (AVal.tup [stepL ((Qx1 p_ from_ to_ n).1),I ((Qx1 p_ from_ to_ n).2)]):=by
 generalize hR:Qx1 p_ from_ to_ n=R;refine ga (.cons lw (l1 (l1 (l1 .nil)))) (Low.tup' (.cons lw (l1 .nil))) (kj [1000014,1000024,1000032] 17 [17,21,35,58,91,99,117,137,139,146,147,148,149,161]) Tryz.func84 ?_;have hk0:=hs0;obtain z23:p_.length<=4294967296:=hs0;refine us (Qt5 p_ b2a1 _) ?_;refine ai (fun h1=>?_) (fun h2=>?_)
 ·obtain rfl:=foll hR (ct h1 rfl);exact Q00 (Low.tup' (.cons lw (l1 .nil))) (Seen.tup (ev (Qq0) (e1 .nil)))
 ·refine us (QDd from_ _) ?_;(first|apply u2|apply u3|apply u4|apply us);exact QP8 n _;refine ai (fun h3=>?_) (fun h4=>?_)
  ·obtain rfl:=foll hR (cf h2 (ct h3 rfl));exact Q00 (Low.tup' (.cons lw (l1 .nil))) (Seen.tup (ev (Qq0) (e1 .nil)))
  ·refine ai (fun h5=>?_) (fun h6=>?_)
   ·refine us (mv [] (Qpb p_ b2a1) .nil (dl lw .nil) (rO rr .nil) (rw_ 0 0 rfl)) ?_;obtain rfl:=foll hR (cf h2 (cf h4 (ct h5 rfl)));exact Q00 (Low.tup' (.cons lw (l1 .nil))) (Seen.tup (ev (QT0 Step.zero _ rfl eqA lnA) (e1 .nil)))
   ·refine us (Qba p_ from_ b2a1 _) ?_;have hc:=Q27 (p:=p_) (by assumption);have hp:=QB7 hc.1 hc.2.1 hc.2.2 (Qbc (by assumption));have hw:w64 (Qc0 p_ from_+1)=Qc0 p_ from_+1:=wr (by omega);refine ai gkA ?_;(first|refine ⟨QK1 16 rfl lnA apA,?_⟩|refine ⟨QR0 16 rfl apA,?_⟩);refine Qr1 (fun (c:List Step)=>Q85 p_ from_ to_ n c=R∧c.length<=Int.toNat (Qc0 p_ from_)+1) (fun c=>[(0,stepL p_),(1,I from_),(2,I to_),(3,I n),(8,AVal.lit (.slice none 0 0)),(9,I 0),(10,AVal.ptr 0 0 1 0 0),(11,AVal.fn (.func 153) [] [AVal.ptr 0 0 1 0 0]),(12,I (Qc0 p_ from_))]) (fun c=>[(0,AObj.row 72 1 [[AVal.own 1 0 2 0 c.length]]),(0,AObj.row 147 2 (c.map Step.cells))]) ?_ ?_
    ·clear hR;rintro c ⟨hR,hx⟩;(try dsimp only at hR hx);refine ai gkA ?_;refine us (mv [0,1] (QQ3 from_ (w64 ((p_.getD (Int.toNat (Qc0 p_ from_)) Step.zero).free+n)) c b2a1) (dO (dc (dv (QM8 rfl lnA) .nil)) (dO (dr eqA) .nil)) (d1 (d1 (dp .nil))) (rO (rc (.cons _ _ _ _ (rw_ 2 0 rfl) .nil)) (rO rr .nil)) rx) ?_;refine ai gkA ?_;refine join_start3 (fun (i:Int) (last:Int) (c2:List Step)=>QV2 p_ to_ i last c2=R∧1<=i∧i<=(p_.length:Int)∧c2.length<=1003) (fun i last c2=>[(0,stepL p_),(2,I to_),(8,AVal.lit (.slice none 0 0)),(9,I 0),(10,AVal.ptr 0 0 1 0 0),(11,AVal.fn (.func 153) [] [AVal.ptr 0 0 1 0 0]),(12,I i),(14,I last)]) (fun i last c2=>[(0,AObj.row 72 1 [[AVal.own 1 0 2 0 c2.length]]),(0,AObj.row 147 2 (c2.map Step.cells))]) ?_ ?_
     ·clear hR;rintro i last c2 ⟨hR,hx⟩;(try dsimp only at hR hx);refine Qr1 (fun (c4:List Step)=>Qv2 c4=R∧c4.length<=4000) (fun c4=>[(8,AVal.lit (.slice none 0 0)),(9,I 0),(10,AVal.ptr 0 0 1 0 0)]) (fun c4=>[(0,AObj.row 72 1 [[AVal.own 1 0 2 0 c4.length]]),(0,AObj.row 147 2 (c4.map Step.cells))]) ?_ ?_
      ·clear hR;rintro c4 ⟨hR,hx⟩;(try dsimp only at hR hx);refine us (AGives.lent (Qt5 c4 b2a1 []) (ev (QT0 _ _ rfl eqA lnA) .nil) (.cons lw .nil) (Qi9 rfl)) ?_;refine ai (fun h7=>?_) (fun h8=>?_)
       ·obtain rfl:=foll hR (ct h7 rfl);exact Q00 (Low.tup' (.cons lw (l1 .nil))) (Seen.tup (ev (Qq0) (e1 .nil)))
       ·obtain rfl:=foll hR (cf h8 rfl);exact Q00 (Low.tup' (.cons lw (l1 .nil))) (Seen.tup (ev (QT0 Step.zero _ rfl eqA lnA) (e1 .nil)))
      ·refine ai (fun h9=>?_) (fun h10=>?_)
       ·refine ai (fun h11=>?_) (fun h12=>?_)
        ·have qh11:=of_decide_eq_true h11;refine us (mv [0,1] (QQ3 to_ last c2 b2a1) (dO (dc (dv (QM8 rfl lnA) .nil)) (dO (dr eqA) .nil)) (d1 (d1 (dp .nil))) (rO (rc (.cons _ _ _ _ (rw_ 2 0 rfl) .nil)) (rO rr .nil)) rx) ?_;exact Qb0 (QZ0 to_ last c2) (wk [0,2] (tO rfl (QC0 (cv (to 1 lnA) .nil)) (tO rfl (tl eqA) .nil)) (s1 (s1 (sv (Q20 0 rfl rfl) .nil)))) (⟨foll hR (ct h9 (ct h11 rfl)),b2a0⟩)
        ·have qh12:=of_decide_eq_false h12;exact Qb0 c2 (wk [0,1] (tO rfl (QC0 (cv (to 1 lnA) .nil)) (tO rfl (tl eqA) .nil)) (s1 (s1 (sv (Q20 0 rfl rfl) .nil)))) (⟨foll hR (ct h9 (cf h12 rfl)),b2a0⟩)
       ·refine ai gkA ?_;refine Qg0 (fun (i2:Nat) (c5:List Step)=>Qc4 (Q46 (List.drop i2 (List.drop (Int.toNat i) p_)) i2 c5)=R∧i2<=(List.drop (Int.toNat i) p_).length∧c5.length<=2000+i2) (fun i2 c5=>(List.drop (Int.toNat i) p_).length - i2) (fun i2 c5=>[(8,AVal.lit (.slice none 0 0)),(9,I 0),(10,AVal.ptr 0 0 1 0 0),(11,AVal.fn (.func 153) [] [AVal.ptr 0 0 1 0 0]),(146,stepL (List.drop (Int.toNat i) p_)),(147,I ((List.drop (Int.toNat i) p_).length:Int)),(148,I (i2:Int))]) (fun i2 c5=>[(0,AObj.row 72 1 [[AVal.own 1 0 2 0 c5.length]]),(0,AObj.row 147 2 (c5.map Step.cells))]) 0 c2 (wk [0,1] (tO rfl (QC0 (cv (to 1 lnA) .nil)) (tO rfl (tl eqA) .nil)) (s1 (s1 (sv (Q20 0 rfl rfl) (sv (Q31 .nil (cv (Q20 0 rfl rfl) .nil)) (sv (turn_as (as_drop p_ (Int.toNat i) _ leA) lw) (sv (Q70 (I_eq (by simp)) lx) (s1 .nil)))))))) ⟨foll hR (cf h10 rfl),by exact omA,b2a0⟩ ?_;clear hR;rintro i2 c5 ⟨hR,hj,hx⟩;(try dsimp only at hR hj hx);refine ai (fun h13=>?_) (fun h14=>?_)
        ·have hlt:=ltA h13;rw [Q90 Step.zero hlt] at hR;have hdl:(List.drop (Int.toNat i) p_).length<=1000:=(by rw [List.length_drop];omega);refine ai gkA ?_;refine us (mv [0,1] (QQ3 (((List.drop (Int.toNat i) p_).getD i2 Step.zero).at_) (((List.drop (Int.toNat i) p_).getD i2 Step.zero).free) c5 b2a1) (dO (dc (dv (QM8 rfl lnA) .nil)) (dO (dr eqA) .nil)) (d1 (d1 (dp .nil))) (rO (rc (.cons _ _ _ _ (rw_ 3 0 rfl) .nil)) (rO rr .nil)) rx) ?_;exact Q80 (i2+1) (QZ0 ((List.drop (Int.toNat i) p_).getD i2 Step.zero).at_ ((List.drop (Int.toNat i) p_).getD i2 Step.zero).free c5) (wk [0,3] (tO rfl (QC0 (cv (to 1 lnA) .nil)) (tO rfl (tl eqA) .nil)) (s1 (s1 (sv (Q20 0 rfl rfl) (sv (Q31 .nil (cv (Q20 0 rfl rfl) .nil)) (sl lw (sv (Q70 (I_eq (by simp)) lx) (sv (Q70 (I_eq (wr omA)) lx) .nil)))))))) omA ⟨foll hR (congrArg (fun p:(List Step)=>Qc4 p) rfl),by exact omA,b2a0⟩
        ·rw [Qa0 (l:=(List.drop (Int.toNat i) p_)) (j:=i2) (geA h14)] at hR;replace hR:Qc4 c5=R:=fo2 (fun p:(List Step)=>Qc4 p) (c5) hR rfl;exact Qb0 c5 (wk [0,1] (tO rfl (QC0 (cv (to 1 lnA) .nil)) (tO rfl (tl eqA) .nil)) (s1 (s1 (sv (Q20 0 rfl rfl) .nil)))) (⟨foll hR rfl,b2a0⟩)
     ·refine Qm6 (fun (i1:Int) (last1:Int) (c3:List Step)=>∃ m,(Int.toNat ((p_.length:Int) - i1))<m∧Qq3 p_ to_ n m i1 last1 c3=R∧1<=i1∧i1<=(p_.length:Int)∧(c3.length:Int)<=i1+1) (fun i1 last1 c3=>(Int.toNat ((p_.length:Int) - i1))) (fun i1 last1 c3=>[(0,stepL p_),(2,I to_),(3,I n),(8,AVal.lit (.slice none 0 0)),(9,I 0),(10,AVal.ptr 0 0 1 0 0),(11,AVal.fn (.func 153) [] [AVal.ptr 0 0 1 0 0]),(12,I i1),(14,I last1)]) (fun i1 last1 c3=>[(0,AObj.row 72 1 [[AVal.own 1 0 2 0 c3.length]]),(0,AObj.row 147 2 (c3.map Step.cells))]) (w64 ((Qc0 p_ from_)+1)) ((p_.getD (Int.toNat (Qc0 p_ from_)) Step.zero).free) (QZ0 from_ (w64 ((p_.getD (Int.toNat (Qc0 p_ from_)) Step.zero).free+n)) c) (wk [0,2] (tO rfl (QC0 (cv (to 1 lnA) .nil)) (tO rfl (tl eqA) .nil)) (sl lw (s1 (s1 (s1 (s1 (sv (Q20 0 rfl rfl) (sv (Q31 .nil (cv (Q20 0 rfl rfl) .nil)) (s1 (s1 .nil)))))))))) ⟨_,Nat.lt_succ_self _,foll hR rfl,b2a0⟩ ?_;clear hR;rintro i1 last1 c3 ⟨m,hm,hR,hx⟩;(try dsimp only at hR hm hx);obtain ⟨m,rfl⟩:=sucA m;refine ai (fun h15=>?_) (fun h16=>?_)
      ·have qh15:=of_decide_eq_true h15;have hw1:w64 (i1+1)=i1+1:=wr (by omega);refine ai gkA ?_;refine ai gkA ?_;refine ai (fun h17=>?_) (fun h18=>?_)
       ·have qh17:=of_decide_eq_true h17;refine ai gkA ?_;refine us (mv [0,1] (QQ3 ((p_.getD (Int.toNat i1) Step.zero).at_) (w64 ((p_.getD (Int.toNat i1) Step.zero).free+n)) c3 b2a1) (dO (dc (dv (QM8 rfl lnA) .nil)) (dO (dr eqA) .nil)) (d1 (d1 (dp .nil))) (rO (rc (.cons _ _ _ _ (rw_ 2 0 rfl) .nil)) (rO rr .nil)) rx) ?_;exact Qp2 (w64 (i1+1)) ((p_.getD (Int.toNat i1) Step.zero).free) (QZ0 ((p_.getD (Int.toNat i1) Step.zero).at_) (w64 ((p_.getD (Int.toNat i1) Step.zero).free+n)) c3) (wk [0,2] (tO rfl (QC0 (cv (to 1 lnA) .nil)) (tO rfl (tl eqA) .nil)) (sl lw (s1 (s1 (s1 (s1 (sv (Q20 0 rfl rfl) (sv (Q31 .nil (cv (Q20 0 rfl rfl) .nil)) (s1 (s1 .nil)))))))))) omA ⟨m,by exact omA,foll hR (ct h15 (ct h17 rfl)),b2a0⟩
       ·have qh18:=of_decide_eq_false h18;refine ai gkA ?_;refine ai (fun h19=>?_) (fun h20=>?_)
        ·have qh19:=of_decide_eq_true h19;refine ai gkA ?_;refine us (mv [0,1] (QQ3 to_ ((p_.getD (Int.toNat (w64 (i1 - 1))) Step.zero).free) c3 b2a1) (dO (dc (dv (QM8 rfl lnA) .nil)) (dO (dr eqA) .nil)) (d1 (d1 (dp .nil))) (rO (rc (.cons _ _ _ _ (rw_ 2 0 rfl) .nil)) (rO rr .nil)) rx) ?_;exact QSc i1 ((p_.getD (Int.toNat i1) Step.zero).free) (QZ0 to_ ((p_.getD (Int.toNat (w64 (i1 - 1))) Step.zero).free) c3) (wk [0,2] (tO rfl (QC0 (cv (to 1 lnA) .nil)) (tO rfl (tl eqA) .nil)) (sl lw (s1 (s1 (s1 (sv (Q20 0 rfl rfl) (sv (Q31 .nil (cv (Q20 0 rfl rfl) .nil)) (s1 (s1 .nil))))))))) (⟨foll hR (ct h15 (cf h18 (ct h19 rfl))),b2a0⟩)
        ·have qh20:=of_decide_eq_false h20;exact QSc i1 ((p_.getD (Int.toNat i1) Step.zero).free) c3 (wk [0,1] (tO rfl (QC0 (cv (to 1 lnA) .nil)) (tO rfl (tl eqA) .nil)) (sl lw (s1 (s1 (s1 (sv (Q20 0 rfl rfl) (sv (Q31 .nil (cv (Q20 0 rfl rfl) .nil)) (s1 (s1 .nil))))))))) (⟨foll hR (ct h15 (cf h18 (cf h20 rfl))),b2a0⟩)
      ·have qh16:=of_decide_eq_false h16;exact QSc i1 last1 c3 (wk [0,1] (tO rfl (QC0 (cv (to 1 lnA) .nil)) (tO rfl (tl eqA) .nil)) (sl lw (s1 (s1 (s1 (sv (Q20 0 rfl rfl) (sv (Q31 .nil (cv (Q20 0 rfl rfl) .nil)) (s1 (s1 .nil))))))))) (⟨foll hR (cf h16 rfl),b2a0⟩)
    ·refine ai gkA ?_;refine ai (fun h21=>?_) (fun h22=>?_)
     ·have qh21:=of_decide_eq_true h21;refine dchk (by kernel_rfl) ?_;refine ai gkA ?_;refine ai gkA ?_;(first|apply u2|apply u3|apply u4|apply us);exact mv [0,1] (QQ3 ((p_.getD (Int.toNat (Qc0 p_ from_)) Step.zero).at_) ((p_.getD (Int.toNat (Qc0 p_ from_)) Step.zero).free) (List.take (Int.toNat (Qc0 p_ from_)) p_) b2a1) (dO (dc (dv (QM8 rfl lnA) .nil)) (dO (dr eqA) .nil)) (d1 (d1 (dp .nil))) (rO (rc (.cons _ _ _ _ (rw_ 2 0 rfl) .nil)) (rO rr .nil)) rx;(repeat ((first|refine ai rfl ?_|refine ai (fun _=>rfl) ?_)));exact Qb0 (QZ0 ((p_.getD (Int.toNat (Qc0 p_ from_)) Step.zero).at_) ((p_.getD (Int.toNat (Qc0 p_ from_)) Step.zero).free) (List.take (Int.toNat (Qc0 p_ from_)) p_)) (wk [0,2] (tO rfl (QC0 (cv (to 1 lnA) .nil)) (tO rfl (tl eqA) .nil)) (sl lw (s1 (s1 (s1 (s1 (s1 (sv (Q20 0 rfl rfl) (sv (Q31 .nil (cv (Q20 0 rfl rfl) .nil)) (s1 .nil)))))))))) (⟨foll hR (cf h2 (cf h4 (cf h6 (ct h21 rfl)))),b2a0⟩)
     ·have qh22:=of_decide_eq_false h22;exact Qb0 (List.take (Int.toNat (Qc0 p_ from_)) p_) (wk [0,1] (tO rfl (QC0 (cv (to 1 lnA) .nil)) (tO rfl (tl eqA) .nil)) (sl lw (s1 (s1 (s1 (s1 (s1 (sv (Q20 0 rfl rfl) (sv (Q31 .nil (cv (Q20 0 rfl rfl) .nil)) (s1 .nil)))))))))) (⟨foll hR (cf h2 (cf h4 (cf h6 (cf h22 rfl)))),b2a0⟩)
theorem Qb8 (p:List Step) (f t n:Int) (hp:p.length<=4294967296):(Qx1 p f t n).1.length<=4294967296:=by
 have k4:∀ c,(Qv2 c).1.length<=4294967296:=by
  intro c
  unfold Qv2
  cases h:((QN1 c)!=0) with
  | true=>simp
  | false=>have:=Q27 h;simp only [cond_false];omega
 have k2:∀ i last c,(QV2 p t i last c).1.length<=4294967296:=by
  intro i last c
  unfold QV2 Qc4
  cases (i==(p.length:Int)) <;> simp only [cond_true,cond_false]
  ·exact k4 _
  ·cases (decide (t<=1000000)) <;> simp only [cond_true,cond_false] <;> exact k4 _
 have g3:∀ m i last c,(Qq3 p t n m i last c).1.length<=4294967296:=by
  intro m
  induction m with
  | zero=>intro i last c;simp [Qq3]
  | succ m ih =>
   intro i last c
   rw [Qq3]
   repeat' first|exact ih _ _ _|exact k2 _ _ _|(rw [Bool.cond_eq_ite];split)
 unfold Qx1 Q85
 repeat' first|exact g3 _ _ _ _|exact hp|(simp;done)|(rw [Bool.cond_eq_ite];split)
end Go.Proofs.YtjpgfmbccohngaaGreatDoor
namespace Go.Proofs.YtjpgfmbccohngaaGreatDoor
set_option linter.unusedSimpArgs false
set_option linter.unusedVariables false
open Go.Fw
set_option maxRecDepth 20000
set_option maxHeartbeats 4000000
attribute [local irreducible] ACalls AMoves
def Qe3 (p_:List Step) (to_:Int):Nat->Int->Int->Int × Int
 | 0,_,_=>(0,0)
 | m+1,i,n=>bif ((decide (i<(p_.length:Int)))&&(decide ((p_.getD (Int.toNat i) Step.zero).at_<to_))) then Qe3 p_ to_ m (w64 (i+1)) (min n (p_.getD (Int.toNat i) Step.zero).free) else (i,n)
def QR3 (i:Int) (n:Int):Int:=n
def QO5 (p_:List Step) (from_:Int) (to_:Int):Int:=bif ((((QN1 p_)!=0)||(!(QR2 from_)))||(decide (to_<=from_))) then 0 else QR3 ((Qe3 p_ to_ ((Int.toNat ((p_.length:Int) - (w64 ((Qc0 p_ from_)+1))))+1) (w64 ((Qc0 p_ from_)+1)) ((p_.getD (Int.toNat (Qc0 p_ from_)) Step.zero).free)).1) ((Qe3 p_ to_ ((Int.toNat ((p_.length:Int) - (w64 ((Qc0 p_ from_)+1))))+1) (w64 ((Qc0 p_ from_)+1)) ((p_.getD (Int.toNat (Qc0 p_ from_)) Step.zero).free)).2)
theorem QAf (p_:List Step) (from_:Int) (to_:Int) (hs0:p_.length<=4294967296):GV 54 [stepL p_,I from_,I to_] (I (QO5 p_ from_ to_)):=by
 generalize hR:QO5 p_ from_ to_=R;refine ga (.cons lw (l1 (l1 .nil))) lx (kp 9 [21,44]) Tryz.func54 ?_;have hk0:=hs0;obtain z5:p_.length<=4294967296:=hs0;refine us (Qt5 p_ szA _) ?_;(first|apply u2|apply u3|apply u4|apply us);exact QDd from_ _;refine ai (fun h1=>?_) (fun h2=>?_)
 ·obtain rfl:=foll hR (ct h1 rfl);exact Q00 lx sr
 ·refine us (Qba p_ from_ szA _) ?_;have hb:=Bool.or_eq_false_iff.1 (Bool.or_eq_false_iff.1 h2).1;have hc:=Q27 hb.1;have hq:=hb.2;simp [QR2] at hq;have hp:=QB7 hc.1 hc.2.1 hc.2.2 (t:=from_) (by omega);have hw:w64 (Qc0 p_ from_+1)=Qc0 p_ from_+1:=wr (by omega);refine ai gkA ?_;refine Qg0 (fun (i:Int) (n:Int)=>∃ m,(Int.toNat ((p_.length:Int) - i))<m∧QR3 (Qe3 p_ to_ m i n).1 (Qe3 p_ to_ m i n).2=R∧0<=i∧i<=(p_.length:Int)) (fun i n=>(Int.toNat ((p_.length:Int) - i))) (fun i n=>[(0,stepL p_),(2,I to_),(6,I 0),(7,I i),(8,I n)]) (fun i n=>[]) (w64 ((Qc0 p_ from_)+1)) ((p_.getD (Int.toNat (Qc0 p_ from_)) Step.zero).free) (wk [] .nil (sl lw (s1 (s1 (s1 (s1 .nil)))))) ⟨_,Nat.lt_succ_self _,foll hR (cf h2 rfl),by first|((rw [hw];omega))|first|((rw [hw1];omega))|exact exA⟩ ?_;clear hR;rintro i n ⟨m,hm,hR,hx⟩;(try dsimp only at hR hm hx);obtain ⟨m,rfl⟩:=sucA m;refine ai gkA ?_;refine ai (fun h3=>?_) (fun h4=>?_)
  ·have hw1:w64 (i+1)=i+1:=wr (by omega);refine ai gkA ?_;exact Q80 (w64 (i+1)) (min n (p_.getD (Int.toNat i) Step.zero).free) (wk [] .nil (sl lw (s1 (s1 (s1 (s1 .nil)))))) (by first|((dsimp only;rw [hw1];omega))|exact omA) ⟨m,by first|((dsimp only;rw [hw1];omega))|exact omA,foll hR (congrArg (fun p:Int × Int=>QR3 p.1 p.2) (ct h3 rfl)),by first|((rw [hw];omega))|first|((rw [hw1];omega))|exact exA⟩
  ·replace hR:QR3 i n=R:=fo2 (fun p:Int × Int=>QR3 p.1 p.2) (i,n) hR (cf h4 rfl);obtain rfl:=foll hR rfl;exact Q00 lx sr
def Qqc (l:List Int):Int:=(sat_sum 1000000000000 l).1
theorem sat_Plus_c (l:List Int) (hs0:l.length<=4294967296):GV 255 [ints l] (I (Qqc l)):=by
 generalize hR:Qqc l=R;refine ga (.cons lw .nil) lx (kp 5 []) Tryz.func255 ?_;have hk0:=hs0;obtain z1:l.length<=4294967296:=hs0;refine us (sat_sum_c 1000000000000 l szA _) ?_;obtain rfl:=foll hR rfl;exact Q00 lx sr
def Qq2 (c:Cmd) (job:Bool) (submit:Bool) (prio:Bool) (time:Bool) (node:Bool) (nodes:Bool) (from_:Bool):Bool:=bif ((((((job&&(c.job != 0))||(prio&&c.hasPrio))||(time&&c.hasTime))||(node&&(c.node != 0)))||(nodes&&(c.nodes != 0)))||(from_&&(c.from_ != 0))) then false else bif (!submit) then true else (((((ByteArray.toList c.name==ByteArray.toList ⟨#[]⟩)&&(ByteArray.toList c.user==ByteArray.toList ⟨#[]⟩))&&(ByteArray.toList c.account==ByteArray.toList ⟨#[]⟩))&&((c.after.length:Int)==0))&&(Q47 c.shape Shape.zero))
theorem Qw5 (c:Cmd) (job:Bool) (submit:Bool) (prio:Bool) (time:Bool) (node:Bool) (nodes:Bool) (from_:Bool) (hs0:c.sz):GV 178 [Cmd.a c,Bo job,Bo submit,Bo prio,Bo time,Bo node,Bo nodes,Bo from_] (Bo (Qq2 c job submit prio time node nodes from_)):=by
 generalize hR:Qq2 c job submit prio time node nodes from_=R;refine ga (.cons (Cmd.low _ _) (l1 (l1 (l1 (l1 (l1 (l1 (l1 .nil)))))))) lx (kp 17 [60,62]) Tryz.func178 ?_;have hk0:=hs0;obtain ⟨z5,z6,z7,z8,z9⟩:c.name.size<=4294967296∧c.user.size<=4294967296∧c.account.size<=4294967296∧(c.shape.alts.length<=4294967296)∧c.after.length<=4294967296:=hs0;refine ai (fun h1=>?_) (fun h2=>?_)
 ·obtain rfl:=foll hR (ct h1 rfl);exact Q00 lx sr
 ·refine ai (fun h3=>?_) (fun h4=>?_)
  ·obtain rfl:=foll hR (cf h2 (ct h3 rfl));exact Q00 lx sr
  ·(first|apply u2|apply u3|apply u4|apply us);exact AGives.as2 (QId c.shape Shape.zero szA szA _) (a1 (av (as_agg (a1 (av (as_nil) (a1 (a1 (a1 .nil)))))) .nil));obtain rfl:=foll hR (cf h2 (cf h4 rfl));exact Q00 lx sr
def QB3 (s:ByteArray):Bool:=((((QK3 s).2==0)&&(decide ((QK3 s).1 >= 1)))&&(decide ((QK3 s).1<=16)))
theorem Qga (s:ByteArray) (hs0:s.size<=4294967296):GV 179 [Sg s] (Bo (QB3 s)):=by
 generalize hR:QB3 s=R;refine ga (l1 .nil) lx (kp 5 []) Tryz.func179 ?_;have hk0:=hs0;obtain z1:s.size<=4294967296:=hs0;refine us (QA9 s szA _) ?_;obtain rfl:=foll hR rfl;exact Q00 lx sr
def Q95 (s:ByteArray):Nat->Nat->List Int->Nat × (List Int)
 | 0,_,_=>(0,[])
 | m+1,i,c=>bif (decide ((i:Int)<(ByteArray.size s:Int))) then bif ((((s.data.toList.getD i 0).toNat:Int)==34)||(((s.data.toList.getD i 0).toNat:Int)==92)) then Q95 s m (i+1) ((c++([92]:List Int))++([((s.data.toList.getD i 0).toNat:Int)]:List Int)) else Q95 s m (i+1) (c++([((s.data.toList.getD i 0).toNat:Int)]:List Int)) else (i,c)
def Qa5 (i:Nat) (c:List Int):ByteArray × Int:=((QN2 (c++([34]:List Int))),0)
def Qc8 (s:ByteArray):ByteArray × Int:=bif ((QK3 s).2 != 0) then (⟨#[]⟩,(QK3 s).2) else Qa5 ((Q95 s ((Int.toNat ((ByteArray.size s:Int) - (0:Int)))+1) 0 ([34]:List Int)).1) ((Q95 s ((Int.toNat ((ByteArray.size s:Int) - (0:Int)))+1) 0 ([34]:List Int)).2)
theorem ref04_Quote_c (s:ByteArray) (hs0:s.size<=4294967296):GV 272 [Sg s] (AVal.tup [Sg ((Qc8 s).1),I ((Qc8 s).2)]):=by
 generalize hR:Qc8 s=R;refine ga (l1 .nil) (Low.tup' (l1 (l1 .nil))) (kp 8 [14,20,32]) Tryz.func272 ?_;have hk0:=hs0;obtain z7:s.size<=4294967296:=hs0;refine us (QA9 s szA _) ?_;refine ai (fun h1=>?_) (fun h2=>?_)
 ·obtain rfl:=foll hR (ct h1 rfl);exact Q00 (Low.tup' (l1 (l1 .nil))) (Seen.tup (e1 (e1 .nil)))
 ·refine Or.inr ?_;refine Qg0 (fun (i:Nat) (c:List Int)=>∃ m,(Int.toNat ((ByteArray.size s:Int) - (i:Int)))<m∧Qa5 (Q95 s m i c).1 (Q95 s m i c).2=R∧c.length<=([34]:List Int).length+2*i∧(i:Int)<=(ByteArray.size s:Int)) (fun i c=>(Int.toNat ((ByteArray.size s:Int) - (i:Int)))) (fun i c=>[(0,Sg s),(2,Sg ⟨#[]⟩),(3,I 0),(6,AVal.own 0 0 1 0 c.length),(7,I (i:Int))]) (fun i c=>[(0,AObj.row 5 1 (c.map (fun q_=>[Y q_])))]) 0 ([34]:List Int) (wk [0] (tO rfl (tl eqA) .nil) (s1 (s1 (s1 (sv (to 0 lnA) (s1 .nil)))))) ⟨_,Nat.lt_succ_self _,foll hR (cf h2 rfl),by exact exA⟩ ?_;clear hR;rintro i c ⟨m,hm,hR,hx⟩;(try dsimp only at hR hm hx);obtain ⟨m,rfl⟩:=sucA m;refine ai (fun h3=>?_) (fun h4=>?_)
  ·have qh3:=of_decide_eq_true h3;refine ai gkA ?_;refine ai gkA ?_;refine ai (fun h5=>?_) (fun h6=>?_)
   ·refine Or.inl ?_;(first|refine ⟨QK1 1 rfl lnA apA,?_⟩|refine ⟨QR0 1 rfl apA,?_⟩);refine ai gkA ?_;refine Or.inl ?_;(first|refine ⟨QK1 1 rfl lnA apA,?_⟩|refine ⟨QR0 1 rfl apA,?_⟩);exact Q80 (i+1) ((c++([92]:List Int))++([((s.data.toList.getD i 0).toNat:Int)]:List Int)) (wk [0] (tO rfl (tl eqA) .nil) (s1 (s1 (s1 (sv (to 0 lnA) (sv (Q70 (I_eq (wr omA)) lx) .nil)))))) omA ⟨m,by exact omA,foll hR (congrArg (fun p:Nat × (List Int)=>Qa5 p.1 p.2) (ct h3 (ct h5 rfl))),by exact exA⟩
   ·refine ai gkA ?_;refine Or.inl ?_;(first|refine ⟨QK1 1 rfl lnA apA,?_⟩|refine ⟨QR0 1 rfl apA,?_⟩);exact Q80 (i+1) (c++([((s.data.toList.getD i 0).toNat:Int)]:List Int)) (wk [0] (tO rfl (tl eqA) .nil) (s1 (s1 (s1 (sv (to 0 lnA) (sv (Q70 (I_eq (wr omA)) lx) .nil)))))) omA ⟨m,by exact omA,foll hR (congrArg (fun p:Nat × (List Int)=>Qa5 p.1 p.2) (ct h3 (cf h6 rfl))),by exact exA⟩
  ·have qh4:=of_decide_eq_false h4;replace hR:Qa5 i c=R:=fo2 (fun p:Nat × (List Int)=>Qa5 p.1 p.2) (i,c) hR (cf h4 rfl);refine Or.inl ?_;(first|refine ⟨QK1 1 rfl lnA apA,?_⟩|refine ⟨QR0 1 rfl apA,?_⟩);(first|refine ⟨(c++([34]:List Int)),by exact cvA,?_⟩|refine ⟨_,fun _=>⟨(c++([34]:List Int)),by exact cvA,rfl,rfl⟩,?_⟩|refine ⟨_,rfl,⟨(c++([34]:List Int)),by exact cvA,Sub.refl _,rfl⟩,?_⟩);obtain rfl:=foll hR rfl;exact Q00 (Low.tup' (l1 (l1 .nil))) (Seen.tup (e1 (e1 .nil)))
def Qm1 (s:Shape):Nat->List Alt->Nat->(List Alt) × Nat
 | 0,_,_=>([],0)
 | m+1,out,i=>bif (decide ((i:Int)<=(w64 (s.max - s.min)))) then Qm1 s m (out++([(⟨(w64 (s.max - (i:Int))),s.wall⟩:Alt)]:List Alt)) (i+1) else (out,i)
def Qf3 (out:List Alt) (i:Nat):(List Alt):=out
def Q40 (s:Shape):(List Alt):=bif ((Qe1 s)!=0) then [] else bif (s.kind != 3) then s.alts else Qf3 ((Qm1 s ((Int.toNat ((w64 (s.max - s.min)) - (0:Int)+1))+1) [] 0).1) ((Qm1 s ((Int.toNat ((w64 (s.max - s.min)) - (0:Int)+1))+1) [] 0).2)
theorem Qx4 (s:Shape) (hs0:s.sz):GV 118 [Shape.a s] (altL (Q40 s)):=by
 generalize hR:Q40 s=R;refine ga (.cons (Shape.low _ _) .nil) lw (kp 5 [7,10,19]) Tryz.func118 ?_;have hk0:=hs0;obtain z7:s.alts.length<=4294967296:=hs0;have hf0:=QL6 (s:=s);refine us (Qcc s szA _) ?_;refine ai (fun h1=>?_) (fun h2=>?_)
 ·obtain rfl:=foll hR (ct h1 rfl);exact Q00 lw (Qq0)
 ·refine ai (fun h3=>?_) (fun h4=>?_)
  ·obtain rfl:=foll hR (cf h2 (ct h3 rfl));exact Q00 lw sr
  ·refine Qg0 (fun (out:List Alt) (i:Nat)=>∃ m,(Int.toNat ((w64 (s.max - s.min)) - (i:Int)+1))<m∧Qf3 (Qm1 s m out i).1 (Qm1 s m out i).2=R∧out.length<=i) (fun out i=>(Int.toNat ((w64 (s.max - s.min)) - (i:Int)+1))) (fun out i=>[(1,AVal.ptr 0 0 5 0 0),(2,AVal.lit (.slice none 0 0)),(3,AVal.own 1 0 2 0 out.length),(4,I (i:Int))]) (fun out i=>[(0,AObj.row 31 5 [[I s.kind,altL s.alts,I s.min,I s.max,I s.wall]]),(0,AObj.row 121 2 (out.map Alt.cells))]) [] 0 ((Qh1 121 2).trans (wk [0,1] (tO rfl (ts Shape.lo) (tO rfl (tl eqA) .nil)) (sv (Q20 0 rfl rfl) (s1 (sv (QV0 1 rfl) (s1 .nil)))))) ⟨_,Nat.lt_succ_self _,foll hR (cf h2 (cf h4 rfl)),by exact exA⟩ ?_;clear hR;rintro out i ⟨m,hm,hR,hx⟩;(try dsimp only at hR hm hx);obtain ⟨m,rfl⟩:=sucA m;refine ai (fun h5=>?_) (fun h6=>?_)
   ·have qh5:=of_decide_eq_true h5;refine Or.inl ?_;(first|refine ⟨QK1 16 rfl lnA apA,?_⟩|refine ⟨QR0 16 rfl apA,?_⟩);exact Q80 (out++([(⟨(w64 (s.max - (i:Int))),s.wall⟩:Alt)]:List Alt)) (i+1) (wk [0,1] (tO rfl (ts Shape.lo) (tO rfl (tl eqA) .nil)) (sv (Q20 0 rfl rfl) (s1 (sv (to 1 lnA) (sv (Q70 (I_eq (wr omA)) lx) .nil))))) omA ⟨m,by exact omA,foll hR (congrArg (fun p:(List Alt) × Nat=>Qf3 p.1 p.2) (ct h5 rfl)),by exact exA⟩
   ·have qh6:=of_decide_eq_false h6;replace hR:Qf3 out i=R:=fo2 (fun p:(List Alt) × Nat=>Qf3 p.1 p.2) (out,i) hR (cf h6 rfl);obtain rfl:=foll hR rfl;exact Q00 lw (QT0 Alt.zero _ rfl eqA lnA)
theorem QD7 (s:Shape):∀ (m:Nat) (out:List Alt) (i:Nat),(Qm1 s m out i).1.length<=out.length+m
 | 0,out,i=>by simp [Qm1]
 | m+1,out,i=>by
  rw [Qm1]
  cases (decide ((i:Int)<=(w64 (s.max - s.min)))) with
  | false=>simp
  | true =>
   have:=QD7 s m (out++([(⟨(w64 (s.max - (i:Int))),s.wall⟩:Alt)]:List Alt)) (i+1)
   simp only [List.length_append,List.length_cons,List.length_nil] at this
   simp only [cond_true]
   omega
theorem QS5 (s:Shape) (h:s.sz):(Q40 s).length<=4294967296:=by
 unfold Q40
 cases h1:(Qe1 s != 0) with
 | true=>simp
 | false =>
  cases h2:(s.kind != 3) with
  | true=>exact h
  | false =>
   obtain ⟨a,b,c,d⟩:=QL6 h1 h2
   have hl:=QD7 s ((Int.toNat ((w64 (s.max - s.min)) - (0:Int)+1))+1) [] 0
   simp only [cond_false,Qf3]
   rw [d] at hl ⊢
   simp only [List.length_nil] at hl
   omega
def Qr2 (p_:List Step) (from_:Int) (to_:Int) (n:Int):List Int->List Step->Nat->(List Step) × Nat
 | [],out,i=>(out,i)
 | x_ :: r,out,i=>bif ((decide (x_ >= from_))&&(decide (x_<to_))) then bif (((out.length:Int)==0)||((out.getD (Int.toNat (w64 ((out.length:Int) - 1))) Step.zero).free != (w64 ((Q35 p_ x_)+n)))) then Qr2 p_ from_ to_ n r (out++([(⟨x_,(w64 ((Q35 p_ x_)+n))⟩:Step)]:List Step)) (i+1) else Qr2 p_ from_ to_ n r out (i+1) else bif (((out.length:Int)==0)||((out.getD (Int.toNat (w64 ((out.length:Int) - 1))) Step.zero).free != (Q35 p_ x_))) then Qr2 p_ from_ to_ n r (out++([(⟨x_,(Q35 p_ x_)⟩:Step)]:List Step)) (i+1) else Qr2 p_ from_ to_ n r out (i+1)
def Q53 (out:List Step) (i:Nat):(List Step) × Int:=bif ((QA0 out)!=0) then ([],3) else (out,0)
def Qz6 (p_:List Step) (from_:Int) (to_:Int) (n:Int) (more:List Int):(List Step) × Int:=Q53 ((Qr2 p_ from_ to_ n (Q11 p_ more) [] 0).1) ((Qr2 p_ from_ to_ n (Q11 p_ more) [] 0).2)
def Qg2 (p_:List Step) (from_:Int) (to_:Int) (n:Int):(List Step) × Int:=bif ((QA0 p_)!=0) then ([],100) else bif (((((decide (from_<0))||(decide (from_ > 1000000)))||(decide (to_<from_)))||(decide (n<(-1000000))))||(decide (n > 1000000))) then ([],2) else bif (decide (to_<=1000000)) then Qz6 p_ from_ to_ n (([from_]:List Int)++([to_]:List Int)) else Qz6 p_ from_ to_ n ([from_]:List Int)
theorem b2b0 {P:Prop} (h:P:=by first|((have hT:=Qe8 p_ more;have hP:=QM6 (p:=p_) (by assumption);omega))|exact szA):P:=h
theorem ref10_Add_c (p_:List Step) (from_:Int) (to_:Int) (n:Int) (hs0:p_.length<=4294967296):GV 193 [stepL p_,I from_,I to_,I n] (AVal.tup [stepL ((Qg2 p_ from_ to_ n).1),I ((Qg2 p_ from_ to_ n).2)]):=by
 generalize hR:Qg2 p_ from_ to_ n=R;refine ga (.cons lw (l1 (l1 (l1 .nil)))) (Low.tup' (.cons lw (l1 .nil))) (kj [1000008] 15 [17,36,40,51,73,90,102]) Tryz.func193 ?_;have hk0:=hs0;obtain z17:p_.length<=4294967296:=hs0;refine us (QL7 p_ b2b0 _) ?_;refine ai (fun h1=>?_) (fun h2=>?_)
 ·obtain rfl:=foll hR (ct h1 rfl);exact Q00 (Low.tup' (.cons lw (l1 .nil))) (Seen.tup (ev (Qq0) (e1 .nil)))
 ·refine ai (fun h3=>?_) (fun h4=>?_)
  ·obtain rfl:=foll hR (cf h2 (ct h3 rfl));exact Q00 (Low.tup' (.cons lw (l1 .nil))) (Seen.tup (ev (Qq0) (e1 .nil)))
  ·refine Or.inr ?_;refine Qr1 (fun (more:List Int)=>Qz6 p_ from_ to_ n more=R∧more.length<=2) (fun more=>[(0,stepL p_),(1,I from_),(2,I to_),(3,I n),(8,AVal.lit (.slice none 0 0)),(9,I 0),(10,ints more)]) (fun more=>[]) ?_ ?_
   ·clear hR;rintro more ⟨hR,hx⟩;(try dsimp only at hR hx);refine us (ref10_Ticks_c p_ more b2b0 b2b0 (by exact ⟨QM6 (by assumption),by assumption⟩) _) ?_;refine Qg0 (fun (out:List Step) (i:Nat)=>Q53 (Qr2 p_ from_ to_ n (List.drop i (Q11 p_ more)) out i).1 (Qr2 p_ from_ to_ n (List.drop i (Q11 p_ more)) out i).2=R∧i<=(Q11 p_ more).length∧out.length<=i) (fun out i=>(Q11 p_ more).length - i) (fun out i=>[(0,stepL p_),(1,I from_),(2,I to_),(3,I n),(8,AVal.lit (.slice none 0 0)),(9,I 0),(11,ints (Q11 p_ more)),(12,AVal.own 0 0 2 0 out.length),(13,I (i:Int))]) (fun out i=>[(0,AObj.row 147 2 (out.map Step.cells))]) [] 0 ((Qh1 147 2).trans (wk [0] (tO rfl (tl eqA) .nil) (sl lw (s1 (s1 (s1 (s1 (s1 (sl lw (sv (QV0 0 rfl) (s1 .nil))))))))))) ⟨foll hR rfl,by exact omA,by exact exA⟩ ?_;clear hR;rintro out i ⟨hR,hj,hx⟩;(try dsimp only at hR hj hx);refine ai (fun h5=>?_) (fun h6=>?_)
    ·have hlt:=ltA h5;rw [Q90 0 hlt] at hR;have hT:=Qe8 p_ more;have hP:=QM6 (p:=p_) (by assumption);refine ai gkA ?_;refine us (QJf p_ ((Q11 p_ more).getD i 0) b2b0 _) ?_;refine ai gkA ?_;refine ai gkA ?_;refine ai (fun h7=>?_) (fun h8=>?_)
     ·refine ai gkA ?_;refine ⟨_,fun hg=>QT1 rfl rfl rfl (Ql2 Step.zero (Int.toNat (w64 ((out.length:Int) - 1))) (by first|rfl|exact Nat.zero_add _|omega) ckA) rfl,?_⟩;refine ai (fun h9=>?_) (fun h10=>?_)
      ·refine ai gkA ?_;refine Or.inl ?_;(first|refine ⟨QK1 16 rfl lnA apA,?_⟩|refine ⟨QR0 16 rfl apA,?_⟩);exact Q80 (out++([(⟨((Q11 p_ more).getD i 0),(w64 ((Q35 p_ ((Q11 p_ more).getD i 0))+n))⟩:Step)]:List Step)) (i+1) (wk [0] (tO rfl (tl eqA) .nil) (sl lw (s1 (s1 (s1 (s1 (s1 (sl lw (sv (to 0 lnA) (sv (Q70 (I_eq (wr omA)) lx) .nil)))))))))) omA ⟨foll hR (congrArg (fun p:(List Step) × Nat=>Q53 p.1 p.2) (ct h7 (ct h9 rfl))),by exact omA,by exact exA⟩
      ·exact Q80 out (i+1) (wk [0] (tO rfl (tl eqA) .nil) (sl lw (s1 (s1 (s1 (s1 (s1 (sl lw (sv (to 0 lnA) (sv (Q70 (I_eq (wr omA)) lx) .nil)))))))))) omA ⟨foll hR (congrArg (fun p:(List Step) × Nat=>Q53 p.1 p.2) (ct h7 (cf h10 rfl))),by exact omA,by exact exA⟩
     ·refine ai gkA ?_;refine ⟨_,fun hg=>QT1 rfl rfl rfl (Ql2 Step.zero (Int.toNat (w64 ((out.length:Int) - 1))) (by first|rfl|exact Nat.zero_add _|omega) ckA) rfl,?_⟩;refine ai (fun h11=>?_) (fun h12=>?_)
      ·refine ai gkA ?_;refine Or.inl ?_;(first|refine ⟨QK1 16 rfl lnA apA,?_⟩|refine ⟨QR0 16 rfl apA,?_⟩);exact Q80 (out++([(⟨((Q11 p_ more).getD i 0),(Q35 p_ ((Q11 p_ more).getD i 0))⟩:Step)]:List Step)) (i+1) (wk [0] (tO rfl (tl eqA) .nil) (sl lw (s1 (s1 (s1 (s1 (s1 (sl lw (sv (to 0 lnA) (sv (Q70 (I_eq (wr omA)) lx) .nil)))))))))) omA ⟨foll hR (congrArg (fun p:(List Step) × Nat=>Q53 p.1 p.2) (cf h8 (ct h11 rfl))),by exact omA,by exact exA⟩
      ·exact Q80 out (i+1) (wk [0] (tO rfl (tl eqA) .nil) (sl lw (s1 (s1 (s1 (s1 (s1 (sl lw (sv (to 0 lnA) (sv (Q70 (I_eq (wr omA)) lx) .nil)))))))))) omA ⟨foll hR (congrArg (fun p:(List Step) × Nat=>Q53 p.1 p.2) (cf h8 (cf h12 rfl))),by exact omA,by exact exA⟩
    ·rw [Qa0 (l:=(Q11 p_ more)) (j:=i) (geA h6)] at hR;replace hR:Q53 out i=R:=fo2 (fun p:(List Step) × Nat=>Q53 p.1 p.2) (out,i) hR rfl;refine us (AGives.lent (QL7 out b2b0 []) (ev (QT0 _ _ rfl eqA lnA) .nil) (.cons lw .nil) (Qi9 rfl)) ?_;refine ai (fun h13=>?_) (fun h14=>?_)
     ·obtain rfl:=foll hR (ct h13 rfl);exact Q00 (Low.tup' (.cons lw (l1 .nil))) (Seen.tup (ev (Qq0) (e1 .nil)))
     ·obtain rfl:=foll hR (cf h14 rfl);exact Q00 (Low.tup' (.cons lw (l1 .nil))) (Seen.tup (ev (QT0 Step.zero _ rfl eqA lnA) (e1 .nil)))
   ·refine ai (fun h15=>?_) (fun h16=>?_)
    ·have qh15:=of_decide_eq_true h15;refine Or.inl ?_;(first|refine ⟨QK1 8 rfl lnA apA,?_⟩|refine ⟨QR0 8 rfl apA,?_⟩);exact Qb0 (([from_]:List Int)++([to_]:List Int)) (wk [] .nil (sl lw (s1 (s1 (s1 (s1 (s1 (sv (QLa _ _ rfl (Nat.zero_le _) (by decide) eqA (fun _=>lowL1 rfl) lnA) .nil)))))))) (⟨foll hR (cf h2 (cf h4 (ct h15 rfl))),by exact exA⟩)
    ·have qh16:=of_decide_eq_false h16;exact Qb0 ([from_]:List Int) (wk [] .nil (sl lw (s1 (s1 (s1 (s1 (s1 (sv (QLa _ _ rfl (Nat.zero_le _) (by decide) eqA (fun _=>lowL1 rfl) lnA) .nil)))))))) (⟨foll hR (cf h2 (cf h4 (cf h16 rfl))),by exact exA⟩)
def Q77 (s:State) (n:Int):Int:=bif (((s.nodes.getD (Int.toNat n) Node.zero).drain||((s.nodes.getD (Int.toNat n) Node.zero).state==0))||((s.nodes.getD (Int.toNat n) Node.zero).state==4)) then 0 else bif ((s.nodes.getD (Int.toNat n) Node.zero).state==3) then (w64 ((s.nodes.getD (Int.toNat n) Node.zero).since+12)) else bif ((QO0 s.jobs ((s.nodes.getD (Int.toNat n) Node.zero).job)).state != 2) then 1000001 else (w64 ((QO0 s.jobs ((s.nodes.getD (Int.toNat n) Node.zero).job)).limit+12))
theorem ref20_until_c (s:State) (n:Int) (hs0:s.sz) (hp0:0<=n∧n<(s.nodes.length:Int)):GV 192 [State.a s,I n] (I (Q77 s n)):=by
 generalize hR:Q77 s n=R;refine ga (.cons (State.low _ _) (l1 .nil)) lx (kp 7 [23,26,37]) Tryz.func192 ?_;have hk0:=hs0;obtain ⟨z7,z8,z9,z10,z11,z12,z13⟩:=hs0;refine ai gkA ?_;refine ai (fun h1=>?_) (fun h2=>?_)
 ·obtain rfl:=foll hR (ct h1 rfl);exact Q00 lx sr
 ·refine ai (fun h3=>?_) (fun h4=>?_)
  ·obtain rfl:=foll hR (cf h2 (ct h3 rfl));exact Q00 lx sr
  ·refine us (Qg8 s.jobs ((s.nodes.getD (Int.toNat n) Node.zero).job) szA _) ?_;refine ai (fun h5=>?_) (fun h6=>?_)
   ·obtain rfl:=foll hR (cf h2 (cf h4 (ct h5 rfl)));exact Q00 lx sr
   ·obtain rfl:=foll hR (cf h2 (cf h4 (cf h6 rfl)));exact Q00 lx sr
def Q62 (p_:List Step) (at_:Int) (long:Int) (nodes:Int):Bool:=bif ((((((((QA0 p_)!=0)||(decide (nodes<1)))||(decide (nodes > 1000000)))||(decide (long<1)))||(decide (long > 1000000)))||(decide (at_<0)))||(decide (at_ > (w64 (1000000 - long))))) then false else (decide ((Q57 p_ at_ (w64 (at_+long))) >= nodes))
theorem QMd (p_:List Step) (at_:Int) (long:Int) (nodes:Int) (hs0:p_.length<=4294967296):GV 225 [stepL p_,I at_,I long,I nodes] (Bo (Q62 p_ at_ long nodes)):=by
 generalize hR:Q62 p_ at_ long nodes=R;refine ga (.cons lw (l1 (l1 (l1 .nil)))) lx (kp 9 [37]) Tryz.func225 ?_;have hk0:=hs0;obtain z3:p_.length<=4294967296:=hs0;refine us (QL7 p_ szA _) ?_;refine ai (fun h1=>?_) (fun h2=>?_)
 ·obtain rfl:=foll hR (ct h1 rfl);exact Q00 lx sr
 ·refine us (ref10_Least_c p_ at_ (w64 (at_+long)) szA _) ?_;obtain rfl:=foll hR (cf h2 rfl);exact Q00 lx sr
def QP4 :List Int->Int->Nat->Int × Nat
 | [],out,i=>(out,i)
 | x_ :: r,out,i=>QP4 r (QQ5 (w64 (out+(QK0 x_))) 1000000000000) (i+1)
def QP5 (out:Int) (i:Nat):Int:=out
def QFa (l:List Int):Int:=QP5 ((QP4 l 0 0).1) ((QP4 l 0 0).2)
theorem ref01_Plus_c (l:List Int) (hs0:l.length<=4294967296):GV 238 [ints l] (I (QFa l)):=by
 generalize hR:QFa l=R;refine ga (.cons lw .nil) lx (kp 5 [8]) Tryz.func238 ?_;have hk0:=hs0;obtain z3:l.length<=4294967296:=hs0;refine Qg0 (fun (out:Int) (i:Nat)=>QP5 (QP4 (List.drop i l) out i).1 (QP4 (List.drop i l) out i).2=R∧i<=l.length) (fun out i=>l.length - i) (fun out i=>[(0,ints l),(2,I 0),(3,I out),(4,I (i:Int))]) (fun out i=>[]) 0 0 (wk [] .nil (sl lw (s1 (s1 (s1 .nil))))) ⟨foll hR rfl,by exact omA⟩ ?_;clear hR;rintro out i ⟨hR,hj⟩;(try dsimp only at hR hj);refine ai (fun h1=>?_) (fun h2=>?_)
 ·have hlt:=ltA h1;rw [Q90 0 hlt] at hR;refine ai gkA ?_;refine us (ref01_Usage_c (l.getD i 0) _) ?_;refine us (QGd (w64 (out+(QK0 (l.getD i 0)))) 1000000000000 _) ?_;exact Q80 (QQ5 (w64 (out+(QK0 (l.getD i 0)))) 1000000000000) (i+1) (wk [] .nil (sl lw (s1 (s1 (sv (Q70 (I_eq (wr omA)) lx) .nil))))) omA ⟨foll hR (congrArg (fun p:Int × Nat=>QP5 p.1 p.2) rfl),by exact omA⟩
 ·rw [Qa0 (l:=l) (j:=i) (geA h2)] at hR;replace hR:QP5 out i=R:=fo2 (fun p:Int × Nat=>QP5 p.1 p.2) (out,i) hR rfl;obtain rfl:=foll hR rfl;exact Q00 lx sr
def Q99 (l:List Job) (d:Dep):Bool:=bif ((decide ((QO1 l d.job)<0))||(!(QGa (l.getD (Int.toNat (QO1 l d.job)) Job.zero)))) then false else (((d.how==1)||((d.how==2)&&((l.getD (Int.toNat (QO1 l d.job)) Job.zero).state==3)))||((d.how==3)&&(!((l.getD (Int.toNat (QO1 l d.job)) Job.zero).state==3))))
theorem ref16_met_c (l:List Job) (d:Dep) (hs0:l.length<=4294967296∧(∀ y ∈ l,y.sz)):GV 213 [jobL l,Dep.a d] (Bo (Q99 l d)):=by
 generalize hR:Q99 l d=R;refine ga (.cons lw (.cons (Dep.low _ _) .nil)) lx (kp 7 [20]) Tryz.func213 ?_;obtain ⟨z3,z4⟩:=id hs0;refine us (Q1d l d.job szA _) ?_;refine And.intro (by first|exact fun hg=>decide_eq_true (by first|((have hq:=Qp6 l d.job;omega))|first|((have hq:=Qp6 l d.job;simp at *;omega))|exact ckA)|exact gkA) ?_;(first|apply u2|apply u3|apply u4|apply us);exact ref15_Over_c (l.getD (Int.toNat (QO1 l d.job)) Job.zero) _;refine ai (fun h1=>?_) (fun h2=>?_)
 ·obtain rfl:=foll hR (ct h1 rfl);exact Q00 lx sr
 ·refine And.intro (by first|exact fun hg=>decide_eq_true (by first|((have hq:=Qp6 l d.job;omega))|first|((have hq:=Qp6 l d.job;simp at *;omega))|exact ckA)|exact gkA) ?_;obtain rfl:=foll hR (cf h2 rfl);exact Q00 lx sr
def ref14_Same_g1 (a:Job) (b:Job):List Dep->Nat->Bool
 | [],_=>((((((((((((((a.id==b.id)&&(ByteArray.toList a.name==ByteArray.toList b.name))&&(ByteArray.toList a.user==ByteArray.toList b.user))&&(ByteArray.toList a.account==ByteArray.toList b.account))&&(a.prio==b.prio))&&(a.state==b.state))&&(a.held==b.held))&&(a.born==b.born))&&(a.promise==b.promise))&&(a.choice==b.choice))&&(a.start==b.start))&&(a.limit==b.limit))&&(a.nodes==b.nodes))&&(a.used==b.used))
 | x_ :: r,i=>bif (!((x_.how==(b.after.getD i Dep.zero).how)&&(x_.job==(b.after.getD i Dep.zero).job))) then false else ref14_Same_g1 a b r (i+1)
def QU7 (a:Job) (b:Job):Bool:=bif (((a.after.length:Int)!=(b.after.length:Int))||(!(Q47 a.shape b.shape))) then false else ref14_Same_g1 a b a.after 0
theorem QNd (a:Job) (b:Job) (hs0:a.sz) (hs1:b.sz):GV 22 [Job.a a,Job.a b] (Bo (QU7 a b)):=by
 generalize hR:QU7 a b=R;refine ga (.cons (Job.low _ _) (.cons (Job.low _ _) .nil)) lx (kp 7 [21,26,39]) Tryz.func22 ?_;obtain ⟨z7,z8,z9,z10,z11⟩:=Job.zz hs0;obtain ⟨z12,z13,z14,z15,z16⟩:=Job.zz hs1;(first|apply u2|apply u3|apply u4|apply us);exact QId a.shape b.shape szA szA _;refine ai (fun h1=>?_) (fun h2=>?_)
 ·obtain rfl:=foll hR (ct h1 rfl);exact Q00 lx sr
 ·refine Qf0 (fun (i:Nat)=>ref14_Same_g1 a b (List.drop i a.after) i=R∧i<=a.after.length) (fun i=>a.after.length - i) (fun i=>[(2,AVal.ptr 0 0 20 0 0),(3,AVal.ptr 1 0 20 0 0),(4,Bo false),(5,I (i:Int))]) (fun i=>[(0,AObj.row 35 20 [[I a.id,Sg a.name,Sg a.user,Sg a.account,I a.shape.kind,altL a.shape.alts,I a.shape.min,I a.shape.max,I a.shape.wall,I a.prio,depL a.after,I a.state,Bo a.held,I a.born,I a.promise,I a.choice,I a.start,I a.limit,U a.nodes,I a.used]]),(0,AObj.row 35 20 [[I b.id,Sg b.name,Sg b.user,Sg b.account,I b.shape.kind,altL b.shape.alts,I b.shape.min,I b.shape.max,I b.shape.wall,I b.prio,depL b.after,I b.state,Bo b.held,I b.born,I b.promise,I b.choice,I b.start,I b.limit,U b.nodes,I b.used]])]) 0 (wk [0,1] (tO rfl (ts Job.lo) (tO rfl (ts Job.lo) .nil)) (sv (Q20 0 rfl rfl) (sv (Q20 1 rfl rfl) (s1 (s1 .nil))))) ⟨foll hR (cf h2 rfl),by exact omA⟩ ?_;clear hR;rintro i ⟨hR,hj⟩;(try dsimp only at hR hj);refine ai (fun h3=>?_) (fun h4=>?_)
  ·have hlt:=ltA h3;rw [Q90 Dep.zero hlt] at hR;refine dchk (by kernel_rfl) ?_;refine ai gkA ?_;refine ai gkA ?_;refine ai (fun _=>(by kernel_rfl:eqOK _ _=true)) ?_;(repeat ((first|refine ai rfl ?_|refine ai (fun _=>rfl) ?_)));refine ai (fun h5=>?_) (fun h6=>?_)
   ·obtain rfl:=foll hR (ct h5 rfl);exact Q00 lx sr
   ·exact Qj0 (i+1) (wk [0,1] (tO rfl (ts Job.lo) (tO rfl (ts Job.lo) .nil)) (sv (Q20 0 rfl rfl) (sv (Q20 1 rfl rfl) (s1 (sv (Q70 (I_eq (wr omA)) lx) .nil))))) omA ⟨foll hR (cf h6 rfl),by exact omA⟩
  ·rw [Qa0 (l:=a.after) (j:=i) (geA h4)] at hR;obtain rfl:=foll hR rfl;exact Q00 lx sr
end Go.Proofs.YtjpgfmbccohngaaGreatDoor
