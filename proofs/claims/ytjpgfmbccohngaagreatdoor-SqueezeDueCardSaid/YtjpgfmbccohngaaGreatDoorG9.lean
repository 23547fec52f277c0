/-
  Contracts of functions, printed by a program of this repo (wip/dec). No condition beyond those that stand in each.
-/
import Derived.Test.YtjpgfmbccohngaaGreatDoorG7
import Derived.Test.YtjpgfmbccohngaaGreatDoorProg
import Derived.Test.YtjpgfmbccohngaaGreatDoorG8
namespace Go.Proofs.YtjpgfmbccohngaaGreatDoor
set_option linter.unusedSimpArgs false
set_option linter.unusedVariables false
open Go.Fw
set_option maxRecDepth 20000
set_option maxHeartbeats 4000000
attribute [local irreducible] ACalls AMoves
def QB9 (n1:Int):(List Step):=bif (decide (n1 > 1000000)) then ([(⟨0,1000000⟩:Step)]:List Step) else ([(⟨0,n1⟩:Step)]:List Step)
def Q89 (n:Int):(List Step):=bif (decide (n<(-1000000))) then QB9 (-1000000) else QB9 n
def QL2 (id_:Int):List Job->Nat->Int
 | [],_=>(-1)
 | x_ :: r,i=>bif (x_.id==id_) then (i:Int) else QL2 id_ r (i+1)
def QU1 (l:List Job) (id_:Int):Int:=QL2 id_ l 0
theorem ref15_At_c (l:List Job) (id_:Int) (hs0:l.length<=4294967296∧(∀ y ∈ l,y.sz)):∀ objs,AGives Tryz.prog 93 [jobL l,I id_] objs (I (QU1 l id_)):=by
 generalize hR:QU1 l id_=R;refine ga (.cons lw (l1 .nil)) lx (kp 6 [9,18]) Tryz.func93 ?_;have hk0:=hs0;obtain ⟨z10,z11⟩:l.length<=4294967296∧(∀ y ∈ l,y.sz):=hs0;refine Qj0 (fun (i:Nat)=>QL2 id_ (List.drop i l) i=R∧i<=l.length) (fun i=>l.length - i) (fun i=>[(0,jobL l),(1,I id_),(4,I 0),(5,I (i:Int))]) (fun i=>[]) 0 (wk [] .nil (sl lw (s1 (s1 (s1 .nil))))) ⟨foll hR rfl,by exact omA⟩ ?_;clear hR;rintro i ⟨hR,hj⟩;(try dsimp only at hR hj);refine ai (fun h1=>?_) (fun h2=>?_)
 ·have hlt:=ltA h1;rw [Qc0 Job.zero hlt] at hR;have hxz:(l.getD i Job.zero).sz:=Q90 (by first|assumption|grind) (Job.szz _);have hkz:=hxz;obtain ⟨z3,z4,z5,z6,z7⟩:((l.getD i Job.zero).name).size<=4294967296∧((l.getD i Job.zero).user).size<=4294967296∧((l.getD i Job.zero).account).size<=4294967296∧((((l.getD i Job.zero).shape).alts).length<=4294967296)∧((l.getD i Job.zero).after).length<=4294967296:=hxz;refine ai gkA ?_;refine ai (fun h8=>?_) (fun h9=>?_)
  ·obtain rfl:=foll hR (ct h8 rfl);exact Q00 lx sr
  ·exact Qn0 (i+1) (wk [] .nil (sl lw (s1 (s1 (sv (Qb0 (I_eq (wr omA)) lx) .nil))))) omA ⟨foll hR (cf h9 rfl),by exact omA⟩
 ·rw [Qk0 (l:=l) (j:=i) (geA h2)] at hR;obtain rfl:=foll hR rfl;exact Q00 lx sr
theorem ref15_At_g1_lt (id_:Int) (r:List Job):∀ (i:Nat),QL2 id_ r i = -1∨((i:Int)<=QL2 id_ r i∧QL2 id_ r i<(i:Int)+(r.length:Int)):=by
 induction r with
 | nil=>intro i;left;rfl
 | cons x r ih =>
  intro i
  rw [QL2]
  cases (x.id==id_) with
  | true=>right;simp;omega
  | false =>
   rcases ih (i+1) with h|h
   ·left;exact h
   ·right;simp only [cond_false,List.length_cons];omega
theorem Qd1 (L:List Job) (id_:Int):QU1 L id_<0∨(0<=QU1 L id_∧QU1 L id_<(L.length:Int)):=by
 rcases ref15_At_g1_lt id_ L 0 with h|h
 ·left;rw [QU1,h];decide
 ·right;rw [QU1];omega
def QU7 (n:Int) (end_:Int):Int:=bif (decide (n<0)) then 0 else bif (decide (n > end_)) then end_ else n
def QD4 (b:List Int):List Int->Nat->Bool
 | [],_=>true
 | x_ :: r,i=>bif (x_ != (b.getD i 0)) then false else QD4 b r (i+1)
def Q76 (a:List Int) (b:List Int):Bool:=bif ((a.length:Int)!=(b.length:Int)) then false else QD4 b a 0
theorem Qme (a:List Int) (b:List Int) (hs0:a.length<=4294967296) (hs1:b.length<=4294967296):∀ objs,AGives Tryz.prog 29 [ints a,ints b] objs (Bo (Q76 a b)):=by
 generalize hR:Q76 a b=R;refine ga (.cons lw (.cons lw .nil)) lx (kp 6 [10,14,25]) Tryz.func29 ?_;have hk0:=hs0;obtain z7:a.length<=4294967296:=hs0;have hk1:=hs1;obtain z8:b.length<=4294967296:=hs1;refine ai (fun h1=>?_) (fun h2=>?_)
 ·obtain rfl:=foll hR (ct h1 rfl);exact Q00 lx sr
 ·refine Qj0 (fun (i:Nat)=>QD4 b (List.drop i a) i=R∧i<=a.length) (fun i=>a.length - i) (fun i=>[(0,ints a),(1,ints b),(4,Bo false),(5,I (i:Int))]) (fun i=>[]) 0 (wk [] .nil (sl lw (sl lw (s1 (s1 .nil))))) ⟨foll hR (cf h2 rfl),by exact omA⟩ ?_;clear hR;rintro i ⟨hR,hj⟩;(try dsimp only at hR hj);refine ai (fun h3=>?_) (fun h4=>?_)
  ·have hlt:=ltA h3;rw [Qc0 0 hlt] at hR;refine dchk (by kernel_rfl) ?_;refine ai gkA ?_;refine ai gkA ?_;(repeat ((first|refine ai rfl ?_|refine ai (fun _=>rfl) ?_)));refine ai (fun h5=>?_) (fun h6=>?_)
   ·obtain rfl:=foll hR (ct h5 rfl);exact Q00 lx sr
   ·exact Qn0 (i+1) (wk [] .nil (sl lw (sl lw (s1 (sv (Qb0 (I_eq (wr omA)) lx) .nil))))) omA ⟨foll hR (cf h6 rfl),by exact omA⟩
  ·rw [Qk0 (l:=a) (j:=i) (geA h4)] at hR;obtain rfl:=foll hR rfl;exact Q00 lx sr
def QW4 (f:Job->Bool):List Job->Nat->Int
 | [],_=>(-1)
 | x_ :: r,i=>bif (f x_) then (i:Int) else QW4 f r (i+1)
def QO2 (s:List Job) (f:Job->Bool):Int:=QW4 f s 0
end Go.Proofs.YtjpgfmbccohngaaGreatDoor
namespace Go.Proofs.YtjpgfmbccohngaaGreatDoor
set_option linter.unusedSimpArgs false
set_option linter.unusedVariables false
open Go.Fw
set_option maxRecDepth 20000
set_option maxHeartbeats 4000000
attribute [local irreducible] ACalls AMoves
def Q59 (j:Job):Bool:=(((((Qdc j.shape)&&(decide ((j.after.length:Int)<=100)))&&(decide ((ByteArray.size j.name:Int)<=1000)))&&(decide ((ByteArray.size j.user:Int)<=1000)))&&(decide ((ByteArray.size j.account:Int)<=1000)))
theorem law14_Few_c (j:Job):∀ objs,AGives Tryz.prog 12 [Job.a j] objs (Bo (Q59 j)):=by
 generalize hR:Q59 j=R;refine ga (.cons (Job.low _ _) .nil) lx (kp 3 []) Tryz.func12 ?_;refine us (law07_Few_c j.shape _) ?_;obtain rfl:=foll hR rfl;exact Q00 lx sr
def Qa6 (n:Int):Int:=(QI3 n 0 1000000000000)
theorem QH9 (n:Int):∀ objs,AGives Tryz.prog 72 [I n] objs (I (Qa6 n)):=by
 generalize hR:Qa6 n=R;refine ga (l1 .nil) lx (kp 3 []) Tryz.func72 ?_;refine us (QS9 n 0 1000000000000 _) ?_;obtain rfl:=foll hR rfl;exact Q00 lx sr
def QW0 (s:List Alt) (f:Alt->Bool):Bool:=(decide ((Q91 s f) >= 0))
def QYc (n:Int):Bool:=(QX2 n 1 100000)
theorem cmd_length_c (n:Int):∀ objs,AGives Tryz.prog 204 [I n] objs (Bo (QYc n)):=by
 generalize hR:QYc n=R;refine ga (l1 .nil) lx (kp 3 []) Tryz.func204 ?_;refine us (Qy3 n 1 100000 _) ?_;obtain rfl:=foll hR rfl;exact Q00 lx sr
def Q96 :List (Nat × Int)->Nat->Int × Int
 | [],n=>((n:Int),0)
 | x_ :: r,n=>bif ((Ql1 x_.2)==0) then ((n:Int),40) else Q96 r (n+1)
def QS4 (s:ByteArray):Int × Int:=Q96 (Qk7 s) 0
theorem QBc (s:ByteArray) (hs0:s.size<=4294967296):∀ objs,AGives Tryz.prog 234 [Sg s] objs (AVal.tup [I ((QS4 s).1),I ((QS4 s).2)]):=by
 generalize hR:QS4 s=R;refine ga (l1 .nil) (Low.tup' (l1 (l1 .nil))) (kp 7 [8,9,10,14]) Tryz.func234 ?_;have hk0:=hs0;obtain z5:s.size<=4294967296:=hs0;refine Qs0 (fun (n:Nat) (pos:Nat)=>∃ m,ByteArray.size s - pos<=m∧Q96 (Qw4 s m pos) n=R∧n<=pos) (fun n pos=>ByteArray.size s - pos) (fun n pos=>[(2,I 0),(3,I 0),(4,I (n:Int)),(8,AVal.ptr 0 0 1 0 0)]) (fun n pos=>[(0,AObj.other (.strIter s pos))]) 0 0 (wk [0] (tO rfl (.strIter _ _) .nil) (s1 (s1 (s1 (sv (Q30 0 rfl rfl) .nil))))) ⟨ByteArray.size s,by exact omA,foll hR rfl,by exact exA⟩ ?_;clear hR;rintro n pos ⟨m,hm,hR,hx⟩;(try dsimp only at hR hm hx);refine ai (fun h1=>?_) (fun h2=>?_)
 ·have hlt:=of_decide_eq_true h1;have hw:=QP7 s pos;have hwe:=QO7 s pos hlt;obtain ⟨m,rfl⟩:=sucA m;rw [Qw3 h1] at hR;refine ai (fun _=>?_) (fun h=>nomatch h);refine us (QT4 ((pos,((Utf8.decode s pos).1:Int)).2) _) ?_;refine ai (fun h3=>?_) (fun h4=>?_)
  ·obtain rfl:=foll hR (ct h3 rfl);exact Q00 (Low.tup' (l1 (l1 .nil))) (Seen.tup (e1 (e1 .nil)))
  ·exact Qe0 (n+1) (pos+(Utf8.decode s pos).2) (wk [0] (tO rfl (.strIter _ _) .nil) (s1 (s1 (sv (Qb0 (I_eq (wr omA)) lx) (sv (Q30 0 rfl rfl) .nil))))) omA ⟨m,by exact omA,foll hR (cf h4 rfl),by exact exA⟩
 ·rw [QI5 h2] at hR;refine ai (fun h=>nomatch h) (fun _=>?_);obtain rfl:=foll hR rfl;exact Q00 (Low.tup' (l1 (l1 .nil))) (Seen.tup (e1 (e1 .nil)))
def Qh0 (y:Int):List Int->Nat->Bool
 | [],_=>((false||(y==45))||(y==95))
 | x_ :: r,i=>bif ((Ql1 y)==x_) then true else Qh0 y r (i+1)
def Qi2 (r_:LexReader):Token × LexReader:=((⟨1,(Q77 ((Q40 r_ (fun (y:Int)=>Qh0 y ([2,3]:List Int) 0)).1)),0,0⟩:Token),(Q40 r_ (fun (y:Int)=>Qh0 y ([2,3]:List Int) 0)).2)
theorem Qad (r_:LexReader) (hs0:r_.sz) (hp0:0<=r_.at_∧r_.at_<=(r_.line.length:Int)∧r_.line.length<=400):AMoves Tryz.prog 297 [AVal.ptr 0 0 4 0 0] [(0,AObj.row 273 4 [[runes r_.line,I r_.at_,I r_.bad,I r_.error]])] 1 (Token.a ((Qi2 r_).1)) [(0,AObj.row 273 4 [[runes ((Qi2 r_).2.line),I ((Qi2 r_).2.at_),I ((Qi2 r_).2.bad),I ((Qi2 r_).2.error)]])]:=by
 generalize hR:Qi2 r_=R;refine mo (kp 5 []) Tryz.func297 ?_;have hk0:=hs0;obtain z7:r_.line.length<=4294967296:=hs0;refine Or.inl ?_;refine ACalls.of_cwp (fun _=>true) Tryz.func282 rfl rfl ?_;refine ⟨_,_,Told.refl,?_⟩;have cl1:∀ (y1:Int),AMoves Tryz.prog 309 [J y1,AVal.ptr 1 0 1 0 0] [(0,AObj.row 44 1 [[ints ([2,3]:List Int)]]),(0,AObj.row 274 1 [[AVal.fn (.func 296) [] [AVal.ptr 0 0 1 0 0]]])] 2 (Bo ((fun (y:Int)=>Qh0 y ([2,3]:List Int) 0) y1)) [(0,AObj.row 44 1 [[ints ([2,3]:List Int)]]),(0,AObj.row 274 1 [[AVal.fn (.func 296) [] [AVal.ptr 0 0 1 0 0]]])]:=by
  intro y1;have hR:(fun (y:Int)=>Qh0 y ([2,3]:List Int) 0) y1=(fun (y:Int)=>Qh0 y ([2,3]:List Int) 0) y1:=rfl;refine mo (kp 4 []) Tryz.func309 ?_;refine ACalls.of_cwp (fun _=>true) Tryz.func296 rfl rfl ?_;refine Qj0 (fun (i:Nat)=>Qh0 y1 (List.drop i ([2,3]:List Int)) i=(fun (y:Int)=>Qh0 y ([2,3]:List Int) 0) y1∧i<=([2,3]:List Int).length) (fun i=>([2,3]:List Int).length - i) (fun i=>[(0,J y1),(3,Bo false),(6,ints ([2,3]:List Int)),(7,I (([2,3]:List Int).length:Int)),(8,I (i:Int))]) (fun i=>[(0,AObj.row 44 1 [[ints ([2,3]:List Int)]]),(0,AObj.row 274 1 [[AVal.fn (.func 296) [] [AVal.ptr 0 0 1 0 0]]])]) 0 (wk [0,1] (tO rfl (ts (lv lw LowL.nil)) (tO rfl (QH0 (cv (QZ0 .nil (cv (Q30 0 rfl rfl) .nil)) .nil)) .nil)) (s1 (s1 (sl lw (s1 (s1 .nil)))))) ⟨foll hR rfl,by exact omA⟩ ?_;clear hR;rintro i ⟨hR,hj⟩;(try dsimp only at hR hj);refine ai (fun h1=>?_) (fun h2=>?_)
  ·(have hlt:i<([2,3]:List Int).length:=by have:=of_decide_eq_true h1;omega);rw [Qc0 0 hlt] at hR;refine ai gkA ?_;refine us (QT4 y1 _) ?_;refine ai (fun h3=>?_) (fun h4=>?_)
   ·refine ⟨_,_,Told.refl,?_⟩;refine Qq0 (fun r:Bool=>Bo r) (fun _=>[(0,AObj.row 44 1 [[ints ([2,3]:List Int)]]),(0,AObj.row 274 1 [[AVal.fn (.func 296) [] [AVal.ptr 0 0 1 0 0]]])]) (leaf:=true) (foll hR (ct h3 rfl)) ?_;exact tt [0,1] (tO rfl (ts (lv lw LowL.nil)) (tO rfl (QH0 (cv (QZ0 .nil (cv (Q30 0 rfl rfl) .nil)) .nil)) .nil)) t1
   ·exact Qn0 (i+1) (wk [0,1] (tO rfl (ts (lv lw LowL.nil)) (tO rfl (QH0 (cv (QZ0 .nil (cv (Q30 0 rfl rfl) .nil)) .nil)) .nil)) (s1 (s1 (sl lw (s1 (sv (Qb0 (I_eq (wr omA)) lx) .nil)))))) omA ⟨foll hR (cf h4 rfl),by exact omA⟩
  ·rw [Qk0 (l:=([2,3]:List Int)) (j:=i) (geA h2)] at hR;refine ⟨_,_,Told.refl,?_⟩;refine Qq0 (fun r:Bool=>Bo r) (fun _=>[(0,AObj.row 44 1 [[ints ([2,3]:List Int)]]),(0,AObj.row 274 1 [[AVal.fn (.func 296) [] [AVal.ptr 0 0 1 0 0]]])]) (leaf:=((false||(y1==45))||(y1==95))) (foll hR rfl) ?_;exact tt [0,1] (tO rfl (ts (lv lw LowL.nil)) (tO rfl (QH0 (cv (QZ0 .nil (cv (Q30 0 rfl rfl) .nil)) .nil)) .nil)) t1
 have hof1:AMoves Tryz.prog 283 [AVal.ptr 0 0 4 0 0,AVal.fn (.func 309) [] [AVal.ptr 2 0 1 0 0]] [(0,AObj.row 273 4 [[runes r_.line,I r_.at_,I r_.bad,I r_.error]]),(0,AObj.row 44 1 [[ints ([2,3]:List Int)]]),(0,AObj.row 274 1 [[AVal.fn (.func 296) [] [AVal.ptr 1 0 1 0 0]]])] 3 (Sg ((Q40 r_ (fun (y:Int)=>Qh0 y ([2,3]:List Int) 0)).1)) [(0,AObj.row 273 4 [[runes (((Q40 r_ (fun (y:Int)=>Qh0 y ([2,3]:List Int) 0)).2).line),I (((Q40 r_ (fun (y:Int)=>Qh0 y ([2,3]:List Int) 0)).2).at_),I (((Q40 r_ (fun (y:Int)=>Qh0 y ([2,3]:List Int) 0)).2).bad),I (((Q40 r_ (fun (y:Int)=>Qh0 y ([2,3]:List Int) 0)).2).error)]]),(0,AObj.row 44 1 [[ints ([2,3]:List Int)]]),(0,AObj.row 274 1 [[AVal.fn (.func 296) [] [AVal.ptr 1 0 1 0 0]]])]:=by
  have hR:Q40 r_ (fun (y:Int)=>Qh0 y ([2,3]:List Int) 0)=Q40 r_ (fun (y:Int)=>Qh0 y ([2,3]:List Int) 0):=rfl;refine mo (kp 6 [33]) Tryz.func283 ?_;refine Qj0 (fun (c:LexReader)=>∃ m,(Int.toNat ((c.line.length:Int) - c.at_))<m∧QE0 r_ (QD0 (fun (y:Int)=>Qh0 y ([2,3]:List Int) 0) m c)=Q40 r_ (fun (y:Int)=>Qh0 y ([2,3]:List Int) 0)∧0<=c.at_∧c.at_<=(c.line.length:Int)∧c.line.length<=400∧r_.at_<=c.at_∧0<=r_.at_) (fun c=>(Int.toNat ((c.line.length:Int) - c.at_))) (fun c=>[(0,AVal.ptr 0 0 4 0 0),(1,AVal.fn (.func 309) [] [AVal.ptr 2 0 1 0 0]),(4,Sg ⟨#[]⟩),(5,I r_.at_)]) (fun c=>[(0,AObj.row 273 4 [[runes c.line,I c.at_,I c.bad,I c.error]]),(0,AObj.row 44 1 [[ints ([2,3]:List Int)]]),(0,AObj.row 274 1 [[AVal.fn (.func 296) [] [AVal.ptr 1 0 1 0 0]]])]) r_ (wk [0,1,2] (tO rfl (ts LexReader.lo) (tO rfl (ts (lv lw LowL.nil)) (tO rfl (QH0 (cv (QZ0 .nil (cv (Q30 1 rfl rfl) .nil)) .nil)) .nil))) (sv (Q30 0 rfl rfl) (sv (QZ0 .nil (cv (Q30 2 rfl rfl) .nil)) (s1 (s1 .nil))))) ⟨_,Nat.lt_succ_self _,foll hR rfl,by exact exA⟩ ?_;clear hR;rintro c ⟨m,hm,hR,hx⟩;(try dsimp only at hR hm hx);obtain ⟨m,rfl⟩:=sucA m;refine dchk (by kernel_rfl) ?_;refine ai gkA ?_;(first|apply u2|apply u3|apply u4|apply us);exact mv [1,2] (cl1 (c.line.getD (Int.toNat c.at_) 0)) (dO (ds (lv lw LowL.nil)) (dO (dc (dv (dn_fn .nil (dp .nil)) .nil)) .nil)) (d1 (dp .nil)) (rO (re (lv lw LowL.nil)) (rO (rc (rv (ren_fn .nil (.cons _ _ _ _ (rp 1 0 rfl) .nil)) .nil)) .nil)) rx;(repeat ((first|refine ai rfl ?_|refine ai (fun _=>rfl) ?_)));refine ai (fun h5=>?_) (fun h6=>?_)
  ·have hq1:=of_decide_eq_true ((Bool.and_eq_true _ _).mp h5).1;have hwr:w64 (c.at_+1)=c.at_+1:=wr (by omega);exact Qn0 { c with at_:=(w64 (c.at_+1)) } (wk [0,1,2] (tO rfl (ts LexReader.lo) (tO rfl (ts (lv lw LowL.nil)) (tO rfl (QH0 (cv (QZ0 .nil (cv (Q30 1 rfl rfl) .nil)) .nil)) .nil))) (sv (Q30 0 rfl rfl) (sv (QZ0 .nil (cv (Q30 2 rfl rfl) .nil)) (s1 (s1 .nil))))) omA ⟨m,by exact omA,foll hR (congrArg (fun p:LexReader=>QE0 r_ p) (ct h5 rfl)),by exact exA⟩
  ·replace hR:QE0 r_ c=Q40 r_ (fun (y:Int)=>Qh0 y ([2,3]:List Int) 0):=fo2 (fun p:LexReader=>QE0 r_ p) (c) hR (cf h6 rfl);refine dchk (by kernel_rfl) ?_;refine ai gkA ?_;(first|refine ⟨(List.drop (Int.toNat r_.at_) (List.take (Int.toNat c.at_) c.line)),by exact cvA,?_⟩|refine ⟨_,fun _=>⟨(List.drop (Int.toNat r_.at_) (List.take (Int.toNat c.at_) c.line)),by exact cvA,rfl,rfl⟩,?_⟩|refine ⟨_,rfl,⟨(List.drop (Int.toNat r_.at_) (List.take (Int.toNat c.at_) c.line)),by exact cvA,Sub.refl _,rfl⟩,?_⟩);(repeat ((first|refine ai rfl ?_|refine ai (fun _=>rfl) ?_)));refine Qq0 (fun r:ByteArray × LexReader=>Sg r.1) (fun r:ByteArray × LexReader=>[(0,AObj.row 273 4 [[runes r.2.line,I r.2.at_,I r.2.bad,I r.2.error]]),(0,AObj.row 44 1 [[ints ([2,3]:List Int)]]),(0,AObj.row 274 1 [[AVal.fn (.func 296) [] [AVal.ptr 1 0 1 0 0]]])]) (leaf:=((runesBytes (List.drop (Int.toNat r_.at_) (List.take (Int.toNat c.at_) c.line))),c)) (foll hR rfl) ?_;exact tt [0,1,2] (tO rfl (ts LexReader.lo) (tO rfl (ts (lv lw LowL.nil)) (tO rfl (QH0 (cv (QZ0 .nil (cv (Q30 1 rfl rfl) .nil)) .nil)) .nil))) t1
 refine us (mv [0,2,3] (hof1) (dO (ds LexReader.lo) (dO (dc (dv (dn_as (QA7 (c:=(fun q_=>[I q_])) (d:=0) ([2,3]:List Int) rfl) lw) .nil)) (dO (dc (dv (dn_fn .nil (dp .nil)) .nil)) .nil))) (dp (dv (dn_fn .nil (dp .nil)) .nil)) (rO (re LexReader.lo) (rO (re (lv lw LowL.nil)) (rO (rc (rv (ren_fn .nil (.cons _ _ _ _ (rp 2 0 rfl) .nil)) .nil)) .nil))) rx) ?_;refine us (runes_Lower_c ((Q40 r_ (fun (y:Int)=>Qh0 y ([2,3]:List Int) 0)).1) (by first|(exact Q8a _ _ hp0.2.2)|exact szA) _) ?_;obtain rfl:=foll hR rfl;exact rq (tt [0] (tO rfl (ts LexReader.lo) .nil) (Q01 (Low.agg' (Token.lo))))
def Qxa (s:ByteArray):Int × Unit:=((Qo9 s).1,())
theorem strconv_Atoi_c (s:ByteArray) (hs0:s.size<=4294967296) (hp0:atoiOK s):∀ objs,AGives Tryz.prog 320 [Sg s] objs (AVal.tup [I ((Qxa s).1),AVal.lit .nilIface]):=by
 generalize hR:Qxa s=R;refine ga (l1 .nil) (Low.tup' (l1 (l1 .nil))) (kp 6 [12]) Tryz.func320 ?_;have hk0:=hs0;obtain z1:s.size<=4294967296:=hs0;refine us (Qmg s szA ckA _) ?_;refine ai (fun h=>nomatch h) (fun _=>?_);obtain rfl:=foll hR rfl;exact Q00 (Low.tup' (l1 (l1 .nil))) (Seen.tup (e1 (e1 .nil)))
def Qr1 (x_:Int) (held:Bool):Bool × Bool:=bif (((Ql1 x_)==0)||((x_==34)&&(!held))) then (false,held) else (true,((x_==92)&&(!held)))
theorem QQa (x_:Int) (held:Bool):AMoves Tryz.prog 314 [J x_,AVal.ptr 0 0 1 0 0] [(0,AObj.row 4 1 [[Bo held]])] 1 (Bo ((Qr1 x_ held).1)) [(0,AObj.row 4 1 [[Bo ((Qr1 x_ held).2)]])]:=by
 generalize hR:Qr1 x_ held=R;refine mo (kp 4 [14]) Tryz.func314 ?_;refine us (QT4 x_ _) ?_;refine ai (fun h1=>?_) (fun h2=>?_)
 ·obtain rfl:=foll hR (ct h1 rfl);exact rq (tt [0] (tO rfl (ts (l1 LowL.nil)) .nil) t1)
 ·obtain rfl:=foll hR (cf h2 rfl);exact rq (tt [0] (tO rfl (ts (l1 LowL.nil)) .nil) t1)
def QP0 (p_:List Int) (r_:Int):(List Int):=bif (decide ((wu32 r_)<=127)) then (p_++([(wu8 r_)]:List Int)) else (QN2 p_ r_)
theorem QCd (p_:List Int) (r_:Int) (hs0:p_.length<=4294967296):AMoves Tryz.prog 319 [AVal.own 0 0 1 0 p_.length,J r_] [(0,AObj.row 5 1 (p_.map (fun q_=>[Y q_])))] 0 (AVal.own 0 0 1 0 (QP0 p_ r_).length) [(0,AObj.row 5 1 ((QP0 p_ r_).map (fun q_=>[Y q_])))]:=by
 generalize hR:QP0 p_ r_=R;refine mo (kp 5 [7]) Tryz.func319 ?_;have hk0:=hs0;obtain z3:p_.length<=4294967296:=hs0;refine ai (fun h1=>?_) (fun h2=>?_)
 ·have qh1:=of_decide_eq_true h1;refine Or.inl ?_;(first|refine ⟨Q33 1 rfl lnA apA,?_⟩|refine ⟨QA1 1 rfl apA,?_⟩);obtain rfl:=foll hR (ct h1 rfl);exact rq (tt [0] (tO rfl (tl eqA) .nil) (to 0 lnA))
 ·have qh2:=of_decide_eq_false h2;refine us (mv [0] (QU8 p_ r_ szA) (dO (dr eqA) .nil) (dv (QK8 rfl lnA) (d1 .nil)) (rO rr .nil) (rw_ 1 0 rfl)) ?_;obtain rfl:=foll hR (cf h2 rfl);exact rq (tt [1] (tO rfl (tl eqA) .nil) (to 0 lnA))
theorem Qs6 (l:List Int) (r_:Int):∃ k,QP0 l r_=l++k∧1<=k.length∧k.length<=4∧Qm7 k:=by
 have h1:∀ a:Int,Qm7 [wu8 a]:=fun a=>Qk6 (wu8_in a) Qt6
 have h2:∀ a b:Int,Qm7 [wu8 a,wu8 b]:=fun a b=>Qk6 (wu8_in a) (h1 b)
 have h3:∀ a b c:Int,Qm7 [wu8 a,wu8 b,wu8 c]:=fun a b c=>Qk6 (wu8_in a) (h2 b c)
 have h4:∀ a b c d:Int,Qm7 [wu8 a,wu8 b,wu8 c,wu8 d]:=fun a b c d=>Qk6 (wu8_in a) (h3 b c d)
 have hc:Qm7 [239,191,189]:=Qk6 (by decide) (Qk6 (by decide) (Qk6 (by decide) Qt6))
 unfold QP0
 cases (decide ((wu32 r_)<=127)) with
 | true=>exact ⟨_,rfl,by simp,by simp,h1 _⟩
 | false =>
  simp only [cond_false]
  unfold QN2
  repeat' first
   | exact ⟨_,rfl,by simp,by simp,h2 _ _⟩
   | exact ⟨_,rfl,by simp,by simp,h3 _ _ _⟩
   | exact ⟨_,rfl,by simp,by simp,h4 _ _ _ _⟩
   | exact ⟨_,rfl,by simp,by simp,hc⟩
   | unfold QV2
   | (rw [Bool.cond_eq_ite];split)
theorem QI8 (l:List Int) (r_:Int):(QP0 l r_).length ≠ 0:=by
 obtain ⟨k,e,h,_⟩:=Qs6 l r_
 rw [e,List.length_append]
 omega
theorem QS3 (l:List Int) (r_:Int):(QP0 l r_).length<=l.length+4:=by
 obtain ⟨k,e,_,h,_⟩:=Qs6 l r_
 rw [e,List.length_append]
 omega
theorem Q38 (l:List Int) (r_:Int) (h:Qm7 l):Qm7 (QP0 l r_):=by
 obtain ⟨k,e,_,_,g⟩:=Qs6 l r_
 rw [e]
 exact byteIn_app h g
def QC0 (s:List Dep) (f:Dep->Bool):Bool:=(decide ((Qa1 s f) >= 0))
def QEd (n:Int):Bool:=(QX2 n 1 99999)
theorem QBf (n:Int):∀ objs,AGives Tryz.prog 208 [I n] objs (Bo (QEd n)):=by
 generalize hR:QEd n=R;refine ga (l1 .nil) lx (kp 3 []) Tryz.func208 ?_;refine us (Qy3 n 1 99999 _) ?_;obtain rfl:=foll hR rfl;exact Q00 lx sr
def Qc9 (a:Shape) (b:Shape):Bool:=(((((a.kind==b.kind)&&(a.min==b.min))&&(a.max==b.max))&&(a.wall==b.wall))&&(Qh6 a.alts b.alts))
theorem shape_Same_c (a:Shape) (b:Shape) (hs0:a.sz) (hs1:b.sz):∀ objs,AGives Tryz.prog 209 [Shape.a a,Shape.a b] objs (Bo (Qc9 a b)):=by
 generalize hR:Qc9 a b=R;refine ga (.cons (Shape.low _ _) (.cons (Shape.low _ _) .nil)) lx (kp 5 []) Tryz.func209 ?_;have hk0:=hs0;obtain z1:a.alts.length<=4294967296:=hs0;have hk1:=hs1;obtain z2:b.alts.length<=4294967296:=hs1;(first|apply u2|apply u3|apply u4|apply us);exact QHc a.alts b.alts szA szA _;obtain rfl:=foll hR rfl;exact Q00 lx sr
def QL4 (v:Job):Bool:=(((((((v.nodes==0)&&(Q54 v.start))&&(Q54 v.limit))&&(decide (v.promise >= (-1))))&&(decide (v.promise<=1000000)))&&(decide (v.choice >= 0)))&&(decide (v.choice<=48)))
theorem Qpg (v:Job):∀ objs,AGives Tryz.prog 76 [Job.a v] objs (Bo (QL4 v)):=by
 generalize hR:QL4 v=R;refine ga (.cons (Job.low _ _) .nil) lx (kp 3 []) Tryz.func76 ?_;(first|apply u2|apply u3|apply u4|apply us);exact QM5 v.start _;(first|apply u2|apply u3|apply u4|apply us);exact QM5 v.limit _;obtain rfl:=foll hR rfl;exact Q00 lx sr
def Qo0 (s:Int):Int:=(Qe6 s)
theorem QL6 (s:Int):∀ objs,AGives Tryz.prog 39 [U s] objs (I (Qo0 s)):=by
 generalize hR:Qo0 s=R;refine ga (l1 .nil) lx (kp 3 []) Tryz.func39 ?_;refine us (QRb s _) ?_;obtain rfl:=foll hR rfl;exact Q00 lx sr
def QM4 (n:Int):Int:=bif (decide (n<=0)) then 0 else bif (decide (n >= 64)) then 18446744073709551615 else (wu64 ((Qk3 n) - 1))
theorem nodeset_All_c (n:Int):∀ objs,AGives Tryz.prog 211 [I n] objs (U (QM4 n)):=by
 generalize hR:QM4 n=R;refine ga (l1 .nil) lx (kp 3 [3,6]) Tryz.func211 ?_;refine ai (fun h1=>?_) (fun h2=>?_)
 ·have qh1:=of_decide_eq_true h1;obtain rfl:=foll hR (ct h1 rfl);exact Q00 lx sr
 ·have qh2:=of_decide_eq_false h2;refine ai (fun h3=>?_) (fun h4=>?_)
  ·have qh3:=of_decide_eq_true h3;obtain rfl:=foll hR (cf h2 (ct h3 rfl));exact Q00 lx sr
  ·have qh4:=of_decide_eq_false h4;refine us (Qv9 n _) ?_;obtain rfl:=foll hR (cf h2 (cf h4 rfl));exact Q00 lx sr
def QA2 (s:List Node) (f:Node->Bool):Bool:=(decide ((QB2 s f) >= 0))
def Q51 (s:List Int) (v:Int):Bool:=(decide ((Qj6 s v) >= 0))
theorem Q32 (s:List Int) (v:Int) (hs0:s.length<=4294967296):∀ objs,AGives Tryz.prog 108 [ints s,I v] objs (Bo (Q51 s v)):=by
 generalize hR:Q51 s v=R;refine ga (.cons lw (l1 .nil)) lx (kp 5 []) Tryz.func108 ?_;have hk0:=hs0;obtain z1:s.length<=4294967296:=hs0;refine us (QJc s v szA _) ?_;obtain rfl:=foll hR rfl;exact Q00 lx sr
def QG7 (l:List Book):List Book->Nat->Int
 | [],_=>0
 | x_ :: r,i=>bif ((!(QW8 x_))||((decide ((i:Int) > 0))&&(decide ((l.getD (Int.toNat (w64 ((i:Int) - 1))) Book.zero).id >= x_.id)))) then 190 else QG7 l r (i+1)
def QW6 (l:List Book):Int:=bif (decide ((l.length:Int) > 8)) then 190 else QG7 l l 0
theorem book_Check_c (l:List Book) (hs0:l.length<=4294967296):∀ objs,AGives Tryz.prog 127 [bookL l] objs (I (QW6 l)):=by
 generalize hR:QW6 l=R;refine ga (.cons lw .nil) lx (kp 5 [7,8,9,10,11,32]) Tryz.func127 ?_;have hk0:=hs0;obtain z7:l.length<=4294967296:=hs0;refine ai (fun h1=>?_) (fun h2=>?_)
 ·have qh1:=of_decide_eq_true h1;obtain rfl:=foll hR (ct h1 rfl);exact Q00 lx sr
 ·have qh2:=of_decide_eq_false h2;refine Qj0 (fun (i:Nat)=>QG7 l (List.drop i l) i=R∧i<=l.length) (fun i=>l.length - i) (fun i=>[(0,bookL l),(2,I 0),(8,bookL l),(9,I (l.length:Int)),(10,I (i:Int))]) (fun i=>[]) 0 (wk [] .nil (sl lw (s1 (sl lw (s1 (s1 .nil)))))) ⟨foll hR (cf h2 rfl),by exact omA⟩ ?_;clear hR;rintro i ⟨hR,hj⟩;(try dsimp only at hR hj);refine ai (fun h3=>?_) (fun h4=>?_)
  ·have hlt:=ltA h3;rw [Qc0 Book.zero hlt] at hR;refine ai gkA ?_;refine dchk (by kernel_rfl) ?_;(first|apply u2|apply u3|apply u4|apply us);exact QOf (l.getD i Book.zero) _;refine ai gkA ?_;(repeat ((first|refine ai rfl ?_|refine ai (fun _=>rfl) ?_|refine ai (fun _=>QOf (l.getD i Book.zero) _) ?_)));refine ai (fun h5=>?_) (fun h6=>?_)
   ·obtain rfl:=foll hR (ct h5 rfl);exact Q00 lx sr
   ·exact Qn0 (i+1) (wk [] .nil (sl lw (s1 (sl lw (s1 (sv (Qb0 (I_eq (wr omA)) lx) .nil)))))) omA ⟨foll hR (cf h6 rfl),by exact omA⟩
  ·rw [Qk0 (l:=l) (j:=i) (geA h4)] at hR;obtain rfl:=foll hR rfl;exact Q00 lx sr
def Q11 (x_:ByteArray) (y:ByteArray):Int:=bif (QT3 x_) then bif (QT3 y) then 0 else (-1) else bif (QT3 y) then 1 else bif (Op.bytesLess (ByteArray.toList x_) (ByteArray.toList y)) then (-1) else bif (!((Op.bytesLess (ByteArray.toList x_) (ByteArray.toList y))||(ByteArray.toList x_==ByteArray.toList y))) then 1 else 0
theorem Qu4 (x_:ByteArray) (y:ByteArray):∀ objs,AGives Tryz.prog 199 [Sg x_,Sg y] objs (I (Q11 x_ y)):=by
 generalize hR:Q11 x_ y=R;refine ga (l1 (l1 .nil)) lx (kp 7 [11,12,13,16,19]) Tryz.func199 ?_;refine us (Qk8 x_ _) ?_;refine us (Qk8 y _) ?_;refine ai (fun h1=>?_) (fun h2=>?_)
 ·refine ai (fun h3=>?_) (fun h4=>?_)
  ·obtain rfl:=foll hR (ct h1 (ct h3 rfl));exact Q00 lx sr
  ·obtain rfl:=foll hR (ct h1 (cf h4 rfl));exact Q00 lx sr
 ·refine ai (fun h5=>?_) (fun h6=>?_)
  ·obtain rfl:=foll hR (cf h2 (ct h5 rfl));exact Q00 lx sr
  ·refine ai (fun h7=>?_) (fun h8=>?_)
   ·obtain rfl:=foll hR (cf h2 (cf h6 (ct h7 rfl)));exact Q00 lx sr
   ·refine ai (fun h9=>?_) (fun h10=>?_)
    ·obtain rfl:=foll hR (cf h2 (cf h6 (cf h8 (ct h9 rfl))));exact Q00 lx sr
    ·obtain rfl:=foll hR (cf h2 (cf h6 (cf h8 (cf h10 rfl))));exact Q00 lx sr
def Qg3 (long:Int) (nodes:Int):Bool:=((Q45 nodes 1 1000000)&&(Q45 long 1 1000000))
theorem Q4d (long:Int) (nodes:Int):∀ objs,AGives Tryz.prog 103 [I long,I nodes] objs (Bo (Qg3 long nodes)):=by
 generalize hR:Qg3 long nodes=R;refine ga (l1 (l1 .nil)) lx (kp 5 []) Tryz.func103 ?_;refine us (Q0a nodes 1 1000000 _) ?_;(first|apply u2|apply u3|apply u4|apply us);exact Q0a long 1 1000000 _;obtain rfl:=foll hR rfl;exact Q00 lx sr
def Q15 (p_:List Step):List Step->Nat->Int
 | [],_=>0
 | x_ :: r,i=>bif (((!(QQ2 x_.free))||(decide (x_.at_ > 1000000)))||((decide ((i:Int) > 0))&&((decide (x_.at_<=(p_.getD (Int.toNat (w64 ((i:Int) - 1))) Step.zero).at_))||(x_.free==(p_.getD (Int.toNat (w64 ((i:Int) - 1))) Step.zero).free)))) then 100 else Q15 p_ r (i+1)
def QT1 (p_:List Step):Int:=bif ((((p_.length:Int)==0)||(decide ((p_.length:Int) > 1000)))||((p_.getD 0 Step.zero).at_ != 0)) then 100 else Q15 p_ p_ 0
theorem Qw5 (p_:List Step) (hs0:p_.length<=4294967296):∀ objs,AGives Tryz.prog 119 [stepL p_] objs (I (QT1 p_)):=by
 generalize hR:QT1 p_=R;refine ga (.cons lw .nil) lx (kp 5 [19,20,21,22,23,61]) Tryz.func119 ?_;have hk0:=hs0;obtain z7:p_.length<=4294967296:=hs0;refine ai gkA ?_;refine ai (fun h1=>?_) (fun h2=>?_)
 ·obtain rfl:=foll hR (ct h1 rfl);exact Q00 lx sr
 ·refine Qj0 (fun (i:Nat)=>Q15 p_ (List.drop i p_) i=R∧i<=p_.length) (fun i=>p_.length - i) (fun i=>[(0,stepL p_),(2,I 0),(20,stepL p_),(21,I (p_.length:Int)),(22,I (i:Int))]) (fun i=>[]) 0 (wk [] .nil (sl lw (s1 (sl lw (s1 (s1 .nil)))))) ⟨foll hR (cf h2 rfl),by exact omA⟩ ?_;clear hR;rintro i ⟨hR,hj⟩;(try dsimp only at hR hj);refine ai (fun h3=>?_) (fun h4=>?_)
  ·have hlt:=ltA h3;rw [Qc0 Step.zero hlt] at hR;refine ai gkA ?_;refine dchk (by kernel_rfl) ?_;(first|apply u2|apply u3|apply u4|apply us);exact QN8 ((p_.getD i Step.zero).free) _;refine ai gkA ?_;refine ai gkA ?_;(repeat ((first|refine ai rfl ?_|refine ai (fun _=>rfl) ?_|refine ai (fun _=>QN8 ((p_.getD i Step.zero).free) _) ?_)));refine ai (fun h5=>?_) (fun h6=>?_)
   ·obtain rfl:=foll hR (ct h5 rfl);exact Q00 lx sr
   ·exact Qn0 (i+1) (wk [] .nil (sl lw (s1 (sl lw (s1 (sv (Qb0 (I_eq (wr omA)) lx) .nil)))))) omA ⟨foll hR (cf h6 rfl),by exact omA⟩
  ·rw [Qk0 (l:=p_) (j:=i) (geA h4)] at hR;obtain rfl:=foll hR rfl;exact Q00 lx sr
theorem Q27 {p:List Step} (h:(QT1 p != 0)=false):1<=p.length∧p.length<=1000∧(p.getD 0 Step.zero).at_=0:=by
 simp only [QT1] at h
 revert h
 cases h2:((((p.length:Int)==0)||(decide ((p.length:Int) > 1000)))||((p.getD 0 Step.zero).at_ != 0)) with
 | true=>simp
 | false=>intro _;simp at h2;refine ⟨?_,by omega,h2.2⟩;have:=List.length_pos_iff.2 h2.1.1;omega
def Qa0 (p_:List Step) (t:Int):Int:=(w64 ((QQ1 (p_.length:Int) (fun (y:Int)=>(decide ((p_.getD (Int.toNat y) Step.zero).at_ > t)))) - 1))
theorem Qfa (p_:List Step) (t:Int) (hs0:p_.length<=4294967296):∀ objs,AGives Tryz.prog 121 [stepL p_,I t] objs (I (Qa0 p_ t)):=by
 generalize hR:Qa0 p_ t=R;refine ga (.cons lw (l1 .nil)) lx (kp 5 []) Tryz.func121 ?_;have hk0:=hs0;obtain z5:p_.length<=4294967296:=hs0;have cl1:∀ (y1:Int) (hcl:0<=y1∧y1<(p_.length:Int)),AMoves Tryz.prog 190 [I y1,AVal.ptr 0 0 1 0 0,AVal.ptr 1 0 1 0 0] [(0,AObj.row 72 1 [[stepL p_]]),(0,AObj.row 3 1 [[I t]])] 2 (Bo ((fun (y:Int)=>(decide ((p_.getD (Int.toNat y) Step.zero).at_ > t))) y1)) [(0,AObj.row 72 1 [[stepL p_]]),(0,AObj.row 3 1 [[I t]])]:=by
  intro y1 hcl;have hR:(fun (y:Int)=>(decide ((p_.getD (Int.toNat y) Step.zero).at_ > t))) y1=(fun (y:Int)=>(decide ((p_.getD (Int.toNat y) Step.zero).at_ > t))) y1:=rfl;refine mo (kp 5 []) Tryz.func190 ?_;refine dchk (by kernel_rfl) ?_;refine ai gkA ?_;(repeat ((first|refine ai rfl ?_|refine ai (fun _=>rfl) ?_)));refine Qq0 (fun r:Bool=>Bo r) (fun _=>[(0,AObj.row 72 1 [[stepL p_]]),(0,AObj.row 3 1 [[I t]])]) (leaf:=(decide ((p_.getD (Int.toNat y1) Step.zero).at_ > t))) (foll hR rfl) ?_;exact tt [0,1] (tO rfl (ts (lv lw LowL.nil)) (tO rfl (ts (l1 LowL.nil)) .nil)) t1
 have hof1:AMoves Tryz.prog 189 [I (p_.length:Int),AVal.fn (.func 190) [] [AVal.ptr 0 0 1 0 0,AVal.ptr 1 0 1 0 0]] [(0,AObj.row 72 1 [[stepL p_]]),(0,AObj.row 3 1 [[I t]])] 2 (I (QQ1 (p_.length:Int) (fun (y:Int)=>(decide ((p_.getD (Int.toNat y) Step.zero).at_ > t))))) [(0,AObj.row 72 1 [[stepL p_]]),(0,AObj.row 3 1 [[I t]])]:=by
  have hR:QQ1 (p_.length:Int) (fun (y:Int)=>(decide ((p_.getD (Int.toNat y) Step.zero).at_ > t)))=QQ1 (p_.length:Int) (fun (y:Int)=>(decide ((p_.getD (Int.toNat y) Step.zero).at_ > t))):=rfl;refine mo (kp 8 [11,21]) Tryz.func189 ?_;refine Qs0 (fun (i:Int) (j:Int)=>∃ m,(Int.toNat (j - i))<m∧Qh5 (Qf1 (fun (y:Int)=>(decide ((p_.getD (Int.toNat y) Step.zero).at_ > t))) m i j).1 (Qf1 (fun (y:Int)=>(decide ((p_.getD (Int.toNat y) Step.zero).at_ > t))) m i j).2=QQ1 (p_.length:Int) (fun (y:Int)=>(decide ((p_.getD (Int.toNat y) Step.zero).at_ > t)))∧0<=i∧i<=j∧j<=(p_.length:Int)) (fun i j=>(Int.toNat (j - i))) (fun i j=>[(1,AVal.fn (.func 190) [] [AVal.ptr 0 0 1 0 0,AVal.ptr 1 0 1 0 0]),(4,I 0),(5,I i),(6,I j)]) (fun i j=>[(0,AObj.row 72 1 [[stepL p_]]),(0,AObj.row 3 1 [[I t]])]) 0 (p_.length:Int) (wk [0,1] (tO rfl (ts (lv lw LowL.nil)) (tO rfl (ts (l1 LowL.nil)) .nil)) (sv (QZ0 .nil (cv (Q30 0 rfl rfl) (cv (Q30 1 rfl rfl) .nil))) (s1 (s1 (s1 .nil))))) ⟨_,Nat.lt_succ_self _,foll hR rfl,by exact exA⟩ ?_;clear hR;rintro i j ⟨m,hm,hR,hx⟩;(try dsimp only at hR hm hx);obtain ⟨m,rfl⟩:=sucA m;refine ai (fun h1=>?_) (fun h2=>?_)
  ·have qh1:=of_decide_eq_true h1;(have hq0:i<j:=qh1;have hh:w64 (Int.fdiv (wu64 (w64 (i+j))) (2 ^ (min (Int.toNat 1) 64)))=(i+j) / 2:=Qgg hx.1 hq0 hx.2.2 (by omega);have hh3:w64 (w64 (Int.fdiv (wu64 (w64 (i+j))) (2 ^ (min (Int.toNat 1) 64)))+1)=(i+j) / 2+1:=by rw [hh];exact wr (by omega));refine ai gkA ?_;refine us (mv [0,1] (cl1 (w64 (Int.fdiv (wu64 (w64 (i+j))) (2 ^ (min (Int.toNat 1) 64)))) ckA) (dO (ds (lv lw LowL.nil)) (dO (ds (l1 LowL.nil)) .nil)) (d1 (dp (dp .nil))) (rO (re (lv lw LowL.nil)) (rO (re (l1 LowL.nil)) .nil)) rx) ?_;refine ai (fun h3=>?_) (fun h4=>?_)
   ·exact Qe0 (w64 ((w64 (Int.fdiv (wu64 (w64 (i+j))) (2 ^ (min (Int.toNat 1) 64))))+1)) j (wk [0,1] (tO rfl (ts (lv lw LowL.nil)) (tO rfl (ts (l1 LowL.nil)) .nil)) (sv (QZ0 .nil (cv (Q30 0 rfl rfl) (cv (Q30 1 rfl rfl) .nil))) (s1 (s1 (s1 .nil))))) (by first|(dsimp only;rw [hh3];omega)|first|(dsimp only;rw [hh];omega)|exact omA) ⟨m,by first|(dsimp only;rw [hh3];omega)|first|(dsimp only;rw [hh];omega)|exact omA,foll hR (congrArg (fun p:Int × Int=>Qh5 p.1 p.2) (ct h1 (ct h3 rfl))),by exact exA⟩
   ·exact Qe0 i (w64 (Int.fdiv (wu64 (w64 (i+j))) (2 ^ (min (Int.toNat 1) 64)))) (wk [0,1] (tO rfl (ts (lv lw LowL.nil)) (tO rfl (ts (l1 LowL.nil)) .nil)) (sv (QZ0 .nil (cv (Q30 0 rfl rfl) (cv (Q30 1 rfl rfl) .nil))) (s1 (s1 (s1 .nil))))) (by first|(dsimp only;rw [hh3];omega)|first|(dsimp only;rw [hh];omega)|exact omA) ⟨m,by first|(dsimp only;rw [hh3];omega)|first|(dsimp only;rw [hh];omega)|exact omA,foll hR (congrArg (fun p:Int × Int=>Qh5 p.1 p.2) (ct h1 (cf h4 rfl))),by exact exA⟩
  ·have qh2:=of_decide_eq_false h2;replace hR:Qh5 i j=QQ1 (p_.length:Int) (fun (y:Int)=>(decide ((p_.getD (Int.toNat y) Step.zero).at_ > t))):=fo2 (fun p:Int × Int=>Qh5 p.1 p.2) (i,j) hR (cf h2 rfl);refine Qq0 (fun r:Int=>I r) (fun r:Int=>[(0,AObj.row 72 1 [[stepL p_]]),(0,AObj.row 3 1 [[I t]])]) (leaf:=i) (foll hR rfl) ?_;exact tt [0,1] (tO rfl (ts (lv lw LowL.nil)) (tO rfl (ts (l1 LowL.nil)) .nil)) t1
 refine us (mv [0,1] (hof1) (dO (ds (lv lw LowL.nil)) (dO (ds (l1 LowL.nil)) .nil)) (d1 (dv (dn_fn .nil (dp (dp .nil))) .nil)) (rO (re (lv lw LowL.nil)) (rO (re (l1 LowL.nil)) .nil)) rx) ?_;obtain rfl:=foll hR rfl;exact Q00 lx sr
theorem QC7 {p:List Step} {t:Int} (h1:1<=p.length) (h2:p.length<=1000) (h3:(p.getD 0 Step.zero).at_=0) (ht:0<=t):0<=Qa0 p t∧Qa0 p t<p.length:=by
 obtain ⟨a,b,c,d⟩:=QT9 (fun (y:Int)=>(decide ((p.getD (Int.toNat y) Step.zero).at_ > t))) (N:=p.length) (by omega)
 have h4:1<=QQ1 (p.length:Int) (fun (y:Int)=>(decide ((p.getD (Int.toNat y) Step.zero).at_ > t))):=by
  rcases Int.lt_or_le 0 (QQ1 (p.length:Int) (fun (y:Int)=>(decide ((p.getD (Int.toNat y) Step.zero).at_ > t)))) with h|h
  ·omega
  ·have e:QQ1 (p.length:Int) (fun (y:Int)=>(decide ((p.getD (Int.toNat y) Step.zero).at_ > t)))=0:=by omega
   have:=d (by omega)
   rw [e] at this
   have:=of_decide_eq_true this
   simp only [Int.toNat_zero] at this
   omega
 have e:Qa0 p t=QQ1 (p.length:Int) (fun (y:Int)=>(decide ((p.getD (Int.toNat y) Step.zero).at_ > t))) - 1:=wr (by omega)
 rw [e]
 omega
def QN4 :List Int->Int->Nat->Int × Int
 | [],s,_=>(s,0)
 | x_ :: r,s,i=>bif (((decide (x_<0))||(decide (x_ >= 64)))||((wu64 (BitVec.ofInt 64 s &&& BitVec.ofInt 64 (Qk3 x_)).toNat)!=0)) then (0,90) else QN4 r (wu64 (BitVec.ofInt 64 s ||| BitVec.ofInt 64 (Qk3 x_)).toNat) (i+1)
def QQ5 (l:List Int):Int × Int:=QN4 l 0 0
theorem QSd (l:List Int) (hs0:l.length<=4294967296):∀ objs,AGives Tryz.prog 163 [ints l] objs (AVal.tup [U ((QQ5 l).1),I ((QQ5 l).2)]):=by
 generalize hR:QQ5 l=R;refine ga (.cons lw .nil) (Low.tup' (l1 (l1 .nil))) (kp 7 [7,8,9,10,25]) Tryz.func163 ?_;have hk0:=hs0;obtain z5:l.length<=4294967296:=hs0;refine Qs0 (fun (s:Int) (i:Nat)=>QN4 (List.drop i l) s i=R∧i<=l.length) (fun s i=>l.length - i) (fun s i=>[(2,U 0),(3,I 0),(4,U s),(7,ints l),(8,I (l.length:Int)),(9,I (i:Int))]) (fun s i=>[]) 0 0 (wk [] .nil (s1 (s1 (s1 (sl lw (s1 (s1 .nil))))))) ⟨foll hR rfl,by exact omA⟩ ?_;clear hR;rintro s i ⟨hR,hj⟩;(try dsimp only at hR hj);refine ai (fun h1=>?_) (fun h2=>?_)
 ·have hlt:=ltA h1;rw [Qc0 0 hlt] at hR;refine ai gkA ?_;(first|apply u2|apply u3|apply u4|apply us);exact Qv9 (l.getD i 0) _;refine ai (fun h3=>?_) (fun h4=>?_)
  ·obtain rfl:=foll hR (ct h3 rfl);exact Q00 (Low.tup' (l1 (l1 .nil))) (Seen.tup (e1 (e1 .nil)))
  ·refine us (Qv9 (l.getD i 0) _) ?_;exact Qe0 (wu64 (BitVec.ofInt 64 s ||| BitVec.ofInt 64 (Qk3 (l.getD i 0))).toNat) (i+1) (wk [] .nil (s1 (s1 (s1 (sl lw (s1 (sv (Qb0 (I_eq (wr omA)) lx) .nil))))))) omA ⟨foll hR (cf h4 rfl),by exact omA⟩
 ·rw [Qk0 (l:=l) (j:=i) (geA h2)] at hR;obtain rfl:=foll hR rfl;exact Q00 (Low.tup' (l1 (l1 .nil))) (Seen.tup (e1 (e1 .nil)))
def job_copied (j:Job):Job:=j
theorem job_copied_c (j:Job) (hs0:j.sz):∀ objs,AGives Tryz.prog 200 [Job.a j] objs (Job.a j):=by
 generalize hR:job_copied j=R;refine ga (.cons (Job.low _ _) .nil) (Job.low _ _) (kp 3 []) Tryz.func200 ?_;have hk0:=hs0;obtain ⟨z1,z2,z3,z4,z5⟩:j.name.size<=4294967296∧j.user.size<=4294967296∧j.account.size<=4294967296∧(j.shape.alts.length<=4294967296)∧j.after.length<=4294967296:=hs0;refine us (Qz8 j.shape.alts szA _) ?_;refine us (QA8 j.after szA _) ?_;obtain rfl:=foll hR rfl;exact Q00 (Job.low _ _) sr
def squeeze_copied (l:List Job):(List Job):=l
theorem Qwf (l:List Job) (hs0:l.length<=4294967296∧(∀ y ∈ l,y.sz)):AMoves Tryz.prog 82 [jobL l] [] 0 (AVal.own 0 0 20 0 l.length) [(0,AObj.row 35 20 (l.map Job.cells))]:=by
 generalize hR:squeeze_copied l=R;refine mo (kp 5 [8,9,10]) Tryz.func82 ?_;have hk0:=hs0;obtain ⟨z8,z9⟩:l.length<=4294967296∧(∀ y ∈ l,y.sz):=hs0;refine us (mv [] (QGc l szA) .nil (dl lw .nil) (rO rr .nil) (rw_ 0 0 rfl)) ?_;refine Qj0 (fun (i:Nat)=>True∧i<=l.length) (fun i=>l.length - i) (fun i=>[(2,AVal.lit (.slice none 0 0)),(3,AVal.own 0 0 20 0 l.length),(8,I (l.length:Int)),(9,I (i:Int))]) (fun i=>[(0,AObj.row 35 20 (l.map Job.cells))]) 0 (wk [0] (tO rfl (tl eqA) .nil) (s1 (sv (to 0 lnA) (s1 (s1 .nil))))) ⟨trivial,by exact omA⟩ ?_;have hR0:=hR;rintro i ⟨hR,hj⟩;(try dsimp only at hR hj);refine ai (fun h1=>?_) (fun h2=>?_)
 ·have hlt:=ltA h1;have hxz:(l.getD i Job.zero).sz:=Q90 (by first|assumption|grind) (Job.szz _);have hkz:=hxz;obtain ⟨z3,z4,z5,z6,z7⟩:((l.getD i Job.zero).name).size<=4294967296∧((l.getD i Job.zero).user).size<=4294967296∧((l.getD i Job.zero).account).size<=4294967296∧((((l.getD i Job.zero).shape).alts).length<=4294967296)∧((l.getD i Job.zero).after).length<=4294967296:=hxz;refine ai gkA ?_;refine ⟨_,Qt2 rfl rfl rfl (QU2 Job.zero i (by first|rfl|exact Nat.zero_add _|omega) ckA) rfl,?_⟩;refine us (Qz8 ((l.getD i Job.zero).shape.alts) szA _) ?_;refine ai gkA ?_;refine ⟨_,Qr5 rfl rfl rfl rfl (QU2 Job.zero i (by first|rfl|exact Nat.zero_add _|omega) ckA) rfl rfl (Qw8 Job.zero i (by first|rfl|exact Nat.zero_add _|omega) ckA rfl),?_⟩;refine ai gkA ?_;refine ⟨_,Qt2 rfl rfl rfl (QU2 Job.zero i (by first|rfl|exact Nat.zero_add _|omega) ckA) rfl,?_⟩;refine us (QA8 ((l.getD i Job.zero).after) szA _) ?_;refine ai gkA ?_;refine ⟨_,Qr5 rfl rfl rfl rfl (QU2 Job.zero i (by first|rfl|exact Nat.zero_add _|omega) ckA) rfl rfl (Qw8 Job.zero i (by first|rfl|exact Nat.zero_add _|omega) ckA rfl),?_⟩;exact Qn0 (i+1) (wk [0] (tO rfl (tl eqA) .nil) (s1 (sv (to 0 lnA) (s1 (sv (Qb0 (I_eq (wr omA)) lx) .nil))))) omA ⟨hR,by exact omA⟩
 ·skip;have hR:=hR0;obtain rfl:=foll hR rfl;exact rq (tt [0] (tO rfl (tl eqA) .nil) (to 0 lnA))
def Q34 (s:List (Int × Int)):List Dep->Nat->Bool
 | [],_=>true
 | x_ :: r,i=>bif ((Qf3 s x_)!=1) then false else Q34 s r (i+1)
def QD6 (s:List (Int × Int)) (j:Job):Bool:=Q34 s j.after 0
theorem Q2d (s:List (Int × Int)) (j:Job) (hs0:j.sz):AMoves Tryz.prog 68 [AVal.map 0,Job.a j] [(0,AObj.other (.map (mapEs ik I 0 s) s.length))] 1 (Bo (QD6 s j)) [(0,AObj.other (.map (mapEs ik I 0 s) s.length))]:=by
 generalize hR:QD6 s j=R;refine mo (kp 7 [8,9,10,11,17]) Tryz.func68 ?_;have hk0:=hs0;obtain ⟨z5,z6,z7,z8,z9⟩:j.name.size<=4294967296∧j.user.size<=4294967296∧j.account.size<=4294967296∧(j.shape.alts.length<=4294967296)∧j.after.length<=4294967296:=hs0;refine Qj0 (fun (i:Nat)=>Q34 s (List.drop i j.after) i=R∧i<=j.after.length) (fun i=>j.after.length - i) (fun i=>[(0,AVal.map 0),(4,Bo false),(8,depL j.after),(9,I (j.after.length:Int)),(10,I (i:Int))]) (fun i=>[(0,AObj.other (.map (mapEs ik I 0 s) s.length))]) 0 (wk [0] (tO rfl (Qz0 _ rfl rfl (fun _=>lx)) .nil) (sv (QF1 0 rfl rfl) (s1 (sl lw (s1 (s1 .nil)))))) ⟨foll hR rfl,by exact omA⟩ ?_;clear hR;rintro i ⟨hR,hj⟩;(try dsimp only at hR hj);refine ai (fun h1=>?_) (fun h2=>?_)
 ·have hlt:=ltA h1;rw [Qc0 Dep.zero hlt] at hR;refine ai gkA ?_;refine us (mv [0] (QMa s (j.after.getD i Dep.zero)) (dO (.same _ (Q36 fun _=>lx)) .nil) (dv (Q4g (Ren.map _ _ rfl)) (dv (QE6 (Low.agg' (Dep.lo))) .nil)) (rO (RenO.same _ (Q36 fun _=>lx)) .nil) rx) ?_;refine ai (fun h3=>?_) (fun h4=>?_)
  ·obtain rfl:=foll hR (ct h3 rfl);exact rq (tt [0] (tO rfl (Qz0 _ rfl rfl (fun _=>lx)) .nil) t1)
  ·exact Qn0 (i+1) (wk [0] (tO rfl (Qz0 _ rfl rfl (fun _=>lx)) .nil) (sv (QF1 0 rfl rfl) (s1 (sl lw (s1 (sv (Qb0 (I_eq (wr omA)) lx) .nil)))))) omA ⟨foll hR (cf h4 rfl),by exact omA⟩
 ·rw [Qk0 (l:=j.after) (j:=i) (geA h2)] at hR;obtain rfl:=foll hR rfl;exact rq (tt [0] (tO rfl (Qz0 _ rfl rfl (fun _=>lx)) .nil) t1)
def Qx0 (l:List Job) (id_:Int):Int × Bool:=((QO0 l id_ (fun (y:Job) (y1:Int)=>(w64 (y.id - y1)))).1,(QO0 l id_ (fun (y:Job) (y1:Int)=>(w64 (y.id - y1)))).2)
theorem table_place_c (l:List Job) (id_:Int) (hs0:l.length<=4294967296∧(∀ y ∈ l,y.sz)):∀ objs,AGives Tryz.prog 97 [jobL l,I id_] objs (AVal.tup [I ((Qx0 l id_).1),Bo ((Qx0 l id_).2)]):=by
 generalize hR:Qx0 l id_=R;refine ga (.cons lw (l1 .nil)) (Low.tup' (l1 (l1 .nil))) (kp 6 []) Tryz.func97 ?_;have hk0:=hs0;obtain ⟨z10,z11⟩:l.length<=4294967296∧(∀ y ∈ l,y.sz):=hs0;have cl1:∀ (y1:Job) (y2:Int) (hzy1:y1.sz),AMoves Tryz.prog 159 [Job.a y1,I y2] [] 0 (I ((fun (y:Job) (y1:Int)=>(w64 (y.id - y1))) y1 y2)) []:=by
  intro y1 y2 hzy1;have hky1:=hzy1;obtain ⟨z1,z2,z3,z4,z5⟩:y1.name.size<=4294967296∧y1.user.size<=4294967296∧y1.account.size<=4294967296∧(y1.shape.alts.length<=4294967296)∧y1.after.length<=4294967296:=hzy1;have hR:(fun (y:Job) (y1:Int)=>(w64 (y.id - y1))) y1 y2=(fun (y:Job) (y1:Int)=>(w64 (y.id - y1))) y1 y2:=rfl;refine mo (kp 5 []) Tryz.func159 ?_;refine Qq0 (fun r:Int=>I r) (fun _=>[]) (leaf:=(w64 (y1.id - y2))) (foll hR rfl) ?_;exact tt [] .nil t1
 have hof1:AMoves Tryz.prog 158 [jobL l,I id_,AVal.fn (.func 159) [] []] [] 0 (AVal.tup [I ((QO0 l id_ (fun (y:Job) (y1:Int)=>(w64 (y.id - y1)))).1),Bo ((QO0 l id_ (fun (y:Job) (y1:Int)=>(w64 (y.id - y1)))).2)]) []:=by
  have hR:QO0 l id_ (fun (y:Job) (y1:Int)=>(w64 (y.id - y1)))=QO0 l id_ (fun (y:Job) (y1:Int)=>(w64 (y.id - y1))):=rfl;refine mo (kp 12 [17,31]) Tryz.func158 ?_;refine Qs0 (fun (i:Int) (j:Int)=>∃ m,(Int.toNat (j - i))<m∧QY0 l id_ (fun (y:Job) (y1:Int)=>(w64 (y.id - y1))) (Qr0 l id_ (fun (y:Job) (y1:Int)=>(w64 (y.id - y1))) m i j).1 (Qr0 l id_ (fun (y:Job) (y1:Int)=>(w64 (y.id - y1))) m i j).2=QO0 l id_ (fun (y:Job) (y1:Int)=>(w64 (y.id - y1)))∧0<=i∧i<=j∧j<=(l.length:Int)) (fun i j=>(Int.toNat (j - i))) (fun i j=>[(0,jobL l),(1,I id_),(2,AVal.fn (.func 159) [] []),(6,I 0),(7,Bo false),(8,I (l.length:Int)),(9,I i),(10,I j)]) (fun i j=>[]) 0 (l.length:Int) (wk [] .nil (sl lw (s1 (sv (Q01 (Low.fn _ _ _ LowL.nil LowL.nil)) (s1 (s1 (s1 (s1 (s1 .nil))))))))) ⟨_,Nat.lt_succ_self _,foll hR rfl,by first|(dsimp only;rw [hh3];omega)|first|(dsimp only;rw [hh];omega)|exact exA⟩ ?_;clear hR;rintro i j ⟨m,hm,hR,hx⟩;(try dsimp only at hR hm hx);obtain ⟨m,rfl⟩:=sucA m;refine ai (fun h6=>?_) (fun h7=>?_)
  ·have qh6:=of_decide_eq_true h6;(have hq0:i<j:=qh6;have hh:w64 (Int.fdiv (wu64 (w64 (i+j))) (2 ^ (min (Int.toNat 1) 64)))=(i+j) / 2:=Qgg hx.1 hq0 hx.2.2 (by omega);have hh3:w64 (w64 (Int.fdiv (wu64 (w64 (i+j))) (2 ^ (min (Int.toNat 1) 64)))+1)=(i+j) / 2+1:=by rw [hh];exact wr (by omega));refine And.intro (by first|exact fun hg=>decide_eq_true (by first|(show 0<=w64 (Int.fdiv (wu64 (w64 (i+j))) (2 ^ (min (Int.toNat 1) 64)))∧w64 (Int.fdiv (wu64 (w64 (i+j))) (2 ^ (min (Int.toNat 1) 64)))<(l.length:Int);rw [hh];omega)|exact ckA)|exact gkA) ?_;refine And.intro (by first|exact fun hg=>decide_eq_true (by first|(show 0<=w64 (Int.fdiv (wu64 (w64 (i+j))) (2 ^ (min (Int.toNat 1) 64)))∧w64 (Int.fdiv (wu64 (w64 (i+j))) (2 ^ (min (Int.toNat 1) 64)))<(l.length:Int);rw [hh];omega)|exact ckA)|exact gkA) ?_;refine us (mv [] (cl1 (l.getD (Int.toNat (w64 (Int.fdiv (wu64 (w64 (i+j))) (2 ^ (min (Int.toNat 1) 64))))) Job.zero) id_ szA) .nil (dl (Job.low _ _) (d1 .nil)) .nil rx) ?_;refine ai (fun h8=>?_) (fun h9=>?_)
   ·have qh8:=of_decide_eq_true h8;exact Qe0 (w64 ((w64 (Int.fdiv (wu64 (w64 (i+j))) (2 ^ (min (Int.toNat 1) 64))))+1)) j (wk [] .nil (sl lw (s1 (sv (Q01 (Low.fn _ _ _ LowL.nil LowL.nil)) (s1 (s1 (s1 (s1 (s1 .nil))))))))) (by first|(dsimp only;rw [hh3];omega)|first|(dsimp only;rw [hh];omega)|exact omA) ⟨m,by first|(dsimp only;rw [hh3];omega)|first|(dsimp only;rw [hh];omega)|exact omA,foll hR (congrArg (fun p:Int × Int=>QY0 l id_ (fun (y:Job) (y1:Int)=>(w64 (y.id - y1))) p.1 p.2) (ct h6 (ct h8 rfl))),by first|(dsimp only;rw [hh3];omega)|first|(dsimp only;rw [hh];omega)|exact exA⟩
   ·have qh9:=of_decide_eq_false h9;exact Qe0 i (w64 (Int.fdiv (wu64 (w64 (i+j))) (2 ^ (min (Int.toNat 1) 64)))) (wk [] .nil (sl lw (s1 (sv (Q01 (Low.fn _ _ _ LowL.nil LowL.nil)) (s1 (s1 (s1 (s1 (s1 .nil))))))))) (by first|(dsimp only;rw [hh3];omega)|first|(dsimp only;rw [hh];omega)|exact omA) ⟨m,by first|(dsimp only;rw [hh3];omega)|first|(dsimp only;rw [hh];omega)|exact omA,foll hR (congrArg (fun p:Int × Int=>QY0 l id_ (fun (y:Job) (y1:Int)=>(w64 (y.id - y1))) p.1 p.2) (ct h6 (cf h9 rfl))),by first|(dsimp only;rw [hh3];omega)|first|(dsimp only;rw [hh];omega)|exact exA⟩
  ·have qh7:=of_decide_eq_false h7;replace hR:QY0 l id_ (fun (y:Job) (y1:Int)=>(w64 (y.id - y1))) i j=QO0 l id_ (fun (y:Job) (y1:Int)=>(w64 (y.id - y1))):=fo2 (fun p:Int × Int=>QY0 l id_ (fun (y:Job) (y1:Int)=>(w64 (y.id - y1))) p.1 p.2) (i,j) hR (cf h7 rfl);refine And.intro (by first|exact fun hg=>decide_eq_true (by first|(show 0<=w64 (Int.fdiv (wu64 (w64 (i+j))) (2 ^ (min (Int.toNat 1) 64)))∧w64 (Int.fdiv (wu64 (w64 (i+j))) (2 ^ (min (Int.toNat 1) 64)))<(l.length:Int);rw [hh];omega)|exact ckA)|exact gkA) ?_;(first|apply u2|apply u3|apply u4|apply us);exact mv [] (cl1 (l.getD (Int.toNat i) Job.zero) id_ szA) .nil (dl (Job.low _ _) (d1 .nil)) .nil rx;refine Qq0 (fun r:Int × Bool=>AVal.tup [I r.1,Bo r.2]) (fun r:Int × Bool=>[]) (leaf:=(i,((decide (i<(l.length:Int)))&&(((fun (y:Job) (y1:Int)=>(w64 (y.id - y1))) (l.getD (Int.toNat i) Job.zero) id_)==0)))) (foll hR rfl) ?_;exact tt [] .nil (turn_tup (c1 (c1 .nil)))
 refine us (mv [] (hof1) .nil (dl lw (d1 (dv (QE6 (Low.fn _ _ _ LowL.nil LowL.nil)) .nil))) .nil (Ren.low _ (Low.tup' (l1 (l1 .nil))))) ?_;obtain rfl:=foll hR rfl;exact Q00 (Low.tup' (l1 (l1 .nil))) (Seen.tup (e1 (e1 .nil)))
theorem bs_ge (x_:List Job) (target:Int) (cmp:Job->Int->Int) (hn:x_.length<=4294967296):∀ (m:Nat) (i j:Int),0<=i->i<=j->j<=(x_.length:Int)->0<=(Qr0 x_ target cmp m i j).1
 | 0,_,_,_,_,_=>by simp [Qr0]
 | m+1,i,j,h0,h1,h2=>by
  rw [Qr0]
  cases hd:decide (i<j) with
  | false=>exact h0
  | true =>
   have hlt:=of_decide_eq_true hd
   rw [Qgg h0 hlt h2 (by omega)]
   simp only [cond_true]
   cases decide (cmp (x_.getD (Int.toNat ((i+j) / 2)) Job.zero) target<0) with
   | true =>
    have hw:w64 ((i+j) / 2+1)=(i+j) / 2+1:=wr (by omega)
    simp only [cond_true]
    rw [hw]
    exact bs_ge x_ target cmp hn m _ _ (by omega) (by omega) h2
   | false=>exact bs_ge x_ target cmp hn m _ _ h0 (by omega) (by omega)
theorem Qd6 (l:List Job) (id_:Int) (hn:l.length<=4294967296) (h:(!(Qx0 l id_).2)=false):0<=(Qx0 l id_).1∧(Qx0 l id_).1<(l.length:Int):=by
 simp only [Qx0,QO0,QY0,Bool.not_eq_false',Bool.and_eq_true,decide_eq_true_eq] at h
 exact ⟨bs_ge _ _ _ hn _ _ _ (by omega) (by omega) (by omega),h.1⟩
def table_whole (l:List Job):(List Job):=l
theorem table_whole_o (l:List Job) (hs0:l.length<=4294967296∧(∀ y ∈ l,y.sz)):AMoves Tryz.prog 98 [jobL l] [] 0 (AVal.own 0 0 20 0 l.length) [(0,AObj.row 35 20 (l.map Job.cells))]:=by
 generalize hR:table_whole l=R;refine mo (kp 5 [8,9,10]) Tryz.func98 ?_;have hk0:=hs0;obtain ⟨z8,z9⟩:l.length<=4294967296∧(∀ y ∈ l,y.sz):=hs0;refine us (mv [] (QTc l szA) .nil (dl lw .nil) (rO rr .nil) (rw_ 0 0 rfl)) ?_;refine Qj0 (fun (i:Nat)=>True∧i<=l.length) (fun i=>l.length - i) (fun i=>[(2,AVal.lit (.slice none 0 0)),(3,AVal.own 0 0 20 0 l.length),(8,I (l.length:Int)),(9,I (i:Int))]) (fun i=>[(0,AObj.row 35 20 (l.map Job.cells))]) 0 (wk [0] (tO rfl (tl eqA) .nil) (s1 (sv (to 0 lnA) (s1 (s1 .nil))))) ⟨trivial,by exact omA⟩ ?_;have hR0:=hR;rintro i ⟨hR,hj⟩;(try dsimp only at hR hj);refine ai (fun h1=>?_) (fun h2=>?_)
 ·have hlt:=ltA h1;have hxz:(l.getD i Job.zero).sz:=Q90 (by first|assumption|grind) (Job.szz _);have hkz:=hxz;obtain ⟨z3,z4,z5,z6,z7⟩:((l.getD i Job.zero).name).size<=4294967296∧((l.getD i Job.zero).user).size<=4294967296∧((l.getD i Job.zero).account).size<=4294967296∧((((l.getD i Job.zero).shape).alts).length<=4294967296)∧((l.getD i Job.zero).after).length<=4294967296:=hxz;refine ai gkA ?_;refine ⟨_,Qt2 rfl rfl rfl (QU2 Job.zero i (by first|rfl|exact Nat.zero_add _|omega) ckA) rfl,?_⟩;refine us (QRc ((l.getD i Job.zero).shape.alts) szA _) ?_;refine ai gkA ?_;refine ⟨_,Qr5 rfl rfl rfl rfl (QU2 Job.zero i (by first|rfl|exact Nat.zero_add _|omega) ckA) rfl rfl (Qw8 Job.zero i (by first|rfl|exact Nat.zero_add _|omega) ckA rfl),?_⟩;refine ai gkA ?_;refine ⟨_,Qt2 rfl rfl rfl (QU2 Job.zero i (by first|rfl|exact Nat.zero_add _|omega) ckA) rfl,?_⟩;refine us (QSc ((l.getD i Job.zero).after) szA _) ?_;refine ai gkA ?_;refine ⟨_,Qr5 rfl rfl rfl rfl (QU2 Job.zero i (by first|rfl|exact Nat.zero_add _|omega) ckA) rfl rfl (Qw8 Job.zero i (by first|rfl|exact Nat.zero_add _|omega) ckA rfl),?_⟩;exact Qn0 (i+1) (wk [0] (tO rfl (tl eqA) .nil) (s1 (sv (to 0 lnA) (s1 (sv (Qb0 (I_eq (wr omA)) lx) .nil))))) omA ⟨hR,by exact omA⟩
 ·skip;have hR:=hR0;obtain rfl:=foll hR rfl;exact rq (tt [0] (tO rfl (tl eqA) .nil) (to 0 lnA))
end Go.Proofs.YtjpgfmbccohngaaGreatDoor
namespace Go.Proofs.YtjpgfmbccohngaaGreatDoor
set_option linter.unusedSimpArgs false
set_option linter.unusedVariables false
open Go.Fw
set_option maxRecDepth 20000
set_option maxHeartbeats 4000000
attribute [local irreducible] ACalls AMoves
def Qkd (end_:Int):List Int->Int->Nat->Int × Bool
 | [],left,_=>((w64 (end_ - left)),true)
 | x_ :: r,left,i=>bif (decide ((QI3 x_ 0 end_) > left)) then (end_,false) else Qkd end_ r (w64 (left - (QI3 x_ 0 end_))) (i+1)
def sat_sum (end_:Int) (l:List Int):Int × Bool:=Qkd end_ l end_ 0
theorem sat_sum_c (end_:Int) (l:List Int) (hs0:l.length<=4294967296):∀ objs,AGives Tryz.prog 273 [I end_,ints l] objs (AVal.tup [I ((sat_sum end_ l).1),Bo ((sat_sum end_ l).2)]):=by
 generalize hR:sat_sum end_ l=R;refine ga (l1 (.cons lw .nil)) (Low.tup' (l1 (l1 .nil))) (kp 9 [10,11,12,13,21]) Tryz.func273 ?_;have hk0:=hs0;obtain z5:l.length<=4294967296:=hs0;refine Qs0 (fun (left:Int) (i:Nat)=>Qkd end_ (List.drop i l) left i=R∧i<=l.length) (fun left i=>l.length - i) (fun left i=>[(0,I end_),(4,I 0),(5,Bo false),(6,I left),(10,ints l),(11,I (l.length:Int)),(12,I (i:Int))]) (fun left i=>[]) end_ 0 (wk [] .nil (s1 (s1 (s1 (s1 (sl lw (s1 (s1 .nil)))))))) ⟨foll hR rfl,by exact omA⟩ ?_;clear hR;rintro left i ⟨hR,hj⟩;(try dsimp only at hR hj);refine ai (fun h1=>?_) (fun h2=>?_)
 ·have hlt:=ltA h1;rw [Qc0 0 hlt] at hR;refine ai gkA ?_;refine us (QS9 (l.getD i 0) 0 end_ _) ?_;refine ai (fun h3=>?_) (fun h4=>?_)
  ·have qh3:=of_decide_eq_true h3;obtain rfl:=foll hR (ct h3 rfl);exact Q00 (Low.tup' (l1 (l1 .nil))) (Seen.tup (e1 (e1 .nil)))
  ·have qh4:=of_decide_eq_false h4;exact Qe0 (w64 (left - (QI3 (l.getD i 0) 0 end_))) (i+1) (wk [] .nil (s1 (s1 (s1 (s1 (sl lw (s1 (sv (Qb0 (I_eq (wr omA)) lx) .nil)))))))) omA ⟨foll hR (cf h4 rfl),by exact omA⟩
 ·rw [Qk0 (l:=l) (j:=i) (geA h2)] at hR;obtain rfl:=foll hR rfl;exact Q00 (Low.tup' (l1 (l1 .nil))) (Seen.tup (e1 (e1 .nil)))
def Q37 (a:Shape) (b:Shape):Bool:=(((((a.kind==b.kind)&&(a.min==b.min))&&(a.max==b.max))&&(a.wall==b.wall))&&(Qf7 a.alts b.alts))
theorem QZd (a:Shape) (b:Shape) (hs0:a.sz) (hs1:b.sz):∀ objs,AGives Tryz.prog 69 [Shape.a a,Shape.a b] objs (Bo (Q37 a b)):=by
 generalize hR:Q37 a b=R;refine ga (.cons (Shape.low _ _) (.cons (Shape.low _ _) .nil)) lx (kp 5 []) Tryz.func69 ?_;have hk0:=hs0;obtain z1:a.alts.length<=4294967296:=hs0;have hk1:=hs1;obtain z2:b.alts.length<=4294967296:=hs1;(first|apply u2|apply u3|apply u4|apply us);exact Qle a.alts b.alts szA szA _;obtain rfl:=foll hR rfl;exact Q00 lx sr
def Q56 :List (Nat × Int)->Nat->Int × Int
 | [],n=>((n:Int),0)
 | x_ :: r,n=>bif ((Qg0 x_.2)==0) then ((n:Int),40) else Q56 r (n+1)
def QR3 (s:ByteArray):Int × Int:=Q56 (Qk7 s) 0
theorem Qz9 (s:ByteArray) (hs0:s.size<=4294967296):∀ objs,AGives Tryz.prog 221 [Sg s] objs (AVal.tup [I ((QR3 s).1),I ((QR3 s).2)]):=by
 generalize hR:QR3 s=R;refine ga (l1 .nil) (Low.tup' (l1 (l1 .nil))) (kp 7 [8,9,10,14]) Tryz.func221 ?_;have hk0:=hs0;obtain z5:s.size<=4294967296:=hs0;refine Qs0 (fun (n:Nat) (pos:Nat)=>∃ m,ByteArray.size s - pos<=m∧Q56 (Qw4 s m pos) n=R∧n<=pos) (fun n pos=>ByteArray.size s - pos) (fun n pos=>[(2,I 0),(3,I 0),(4,I (n:Int)),(8,AVal.ptr 0 0 1 0 0)]) (fun n pos=>[(0,AObj.other (.strIter s pos))]) 0 0 (wk [0] (tO rfl (.strIter _ _) .nil) (s1 (s1 (s1 (sv (Q30 0 rfl rfl) .nil))))) ⟨ByteArray.size s,by exact omA,foll hR rfl,by exact exA⟩ ?_;clear hR;rintro n pos ⟨m,hm,hR,hx⟩;(try dsimp only at hR hm hx);refine ai (fun h1=>?_) (fun h2=>?_)
 ·have hlt:=of_decide_eq_true h1;have hw:=QP7 s pos;have hwe:=QO7 s pos hlt;obtain ⟨m,rfl⟩:=sucA m;rw [Qw3 h1] at hR;refine ai (fun _=>?_) (fun h=>nomatch h);refine us (QP4 ((pos,((Utf8.decode s pos).1:Int)).2) _) ?_;refine ai (fun h3=>?_) (fun h4=>?_)
  ·obtain rfl:=foll hR (ct h3 rfl);exact Q00 (Low.tup' (l1 (l1 .nil))) (Seen.tup (e1 (e1 .nil)))
  ·exact Qe0 (n+1) (pos+(Utf8.decode s pos).2) (wk [0] (tO rfl (.strIter _ _) .nil) (s1 (s1 (sv (Qb0 (I_eq (wr omA)) lx) (sv (Q30 0 rfl rfl) .nil))))) omA ⟨m,by exact omA,foll hR (cf h4 rfl),by exact exA⟩
 ·rw [QI5 h2] at hR;refine ai (fun h=>nomatch h) (fun _=>?_);obtain rfl:=foll hR rfl;exact Q00 (Low.tup' (l1 (l1 .nil))) (Seen.tup (e1 (e1 .nil)))
def Qa3 (l:List Int) (at_:Int):Nat->Int->Int
 | 0,_=>0
 | m+1,i=>bif (decide (i<(l.length:Int))) then bif ((((((Qg0 (l.getD (Int.toNat at_) 0))==2)&&((Qg0 (l.getD (Int.toNat i) 0))!=2))&&((Qg0 (l.getD (Int.toNat i) 0))!=3))&&((l.getD (Int.toNat i) 0)!=45))&&((l.getD (Int.toNat i) 0)!=95)) then i else bif (((Qg0 (l.getD (Int.toNat at_) 0))==3)&&(!(QA9 (l.getD (Int.toNat i) 0)))) then i else Qa3 l at_ m (w64 (i+1)) else i
def QB1 (l:List Int) (at_:Int):Int:=Qa3 l at_ ((Int.toNat ((l.length:Int) - (w64 (at_+1))))+1) (w64 (at_+1))
theorem QNg (l:List Int) (at_:Int) (hs0:l.length<=4294967296) (hp0:0<=at_∧at_<(l.length:Int)):∀ objs,AGives Tryz.prog 288 [runes l,I at_] objs (I (QB1 l at_)):=by
 generalize hR:QB1 l at_=R;refine ga (.cons lw (l1 .nil)) lx (kp 8 [18,47,58]) Tryz.func288 ?_;have hk0:=hs0;obtain z7:l.length<=4294967296:=hs0;have hw0:w64 (at_+1)=at_+1:=wr (by omega);refine ai gkA ?_;refine us (QP4 (l.getD (Int.toNat at_) 0) _) ?_;refine Qj0 (fun (i:Int)=>∃ m,(Int.toNat ((l.length:Int) - i))<m∧Qa3 l at_ m i=R∧0<=i∧i<=(l.length:Int)) (fun i=>(Int.toNat ((l.length:Int) - i))) (fun i=>[(0,runes l),(4,I 0),(5,I (Qg0 (l.getD (Int.toNat at_) 0))),(6,I i)]) (fun i=>[]) (w64 (at_+1)) (wk [] .nil (sl lw (s1 (s1 (s1 .nil))))) ⟨_,Nat.lt_succ_self _,foll hR rfl,by exact exA⟩ ?_;clear hR;rintro i ⟨m,hm,hR,hx⟩;(try dsimp only at hR hm hx);obtain ⟨m,rfl⟩:=sucA m;refine ai (fun h1=>?_) (fun h2=>?_)
 ·have qh1:=of_decide_eq_true h1;have hw1:w64 (i+1)=i+1:=wr (by omega);refine ai gkA ?_;refine us (QP4 (l.getD (Int.toNat i) 0) _) ?_;refine ai gkA ?_;refine ai gkA ?_;refine ai (fun h3=>?_) (fun h4=>?_)
  ·obtain rfl:=foll hR (ct h1 (ct h3 rfl));exact Q00 lx sr
  ·refine ai gkA ?_;(first|apply u2|apply u3|apply u4|apply us);exact ref05_small_c (l.getD (Int.toNat i) 0) _;refine ai (fun h5=>?_) (fun h6=>?_)
   ·obtain rfl:=foll hR (ct h1 (cf h4 (ct h5 rfl)));exact Q00 lx sr
   ·exact Qn0 (w64 (i+1)) (wk [] .nil (sl lw (s1 (s1 (s1 .nil))))) omA ⟨m,by exact omA,foll hR (ct h1 (cf h4 (cf h6 rfl))),by exact exA⟩
 ·have qh2:=of_decide_eq_false h2;obtain rfl:=foll hR (cf h2 rfl);exact Q00 lx sr
theorem QOg (l:List Int) (at_:Int) (h:l.length<=400):∀ (m:Nat) (i:Int),0<=i->i<=l.length->0<=Qa3 l at_ m i∧Qa3 l at_ m i<=l.length∧(Int.toNat ((l.length:Int) - i)<m->i<=Qa3 l at_ m i):=by
 intro m
 induction m with
 | zero=>intro i h0 h1;refine ⟨by simp [Qa3],by simp [Qa3],fun h=>absurd h (by omega)⟩
 | succ m ih =>
  intro i h0 h1
  rw [Qa3]
  cases hd:decide (i<(l.length:Int)) with
  | false=>exact ⟨h0,h1,fun _=>by simp⟩
  | true =>
   have hi:=of_decide_eq_true hd
   have hw:w64 (i+1)=i+1:=wr (by omega)
   simp only [cond_true]
   cases ((((((Qg0 (l.getD (Int.toNat at_) 0))==2)&&((Qg0 (l.getD (Int.toNat i) 0))!=2))&&((Qg0 (l.getD (Int.toNat i) 0))!=3))&&((l.getD (Int.toNat i) 0)!=45))&&((l.getD (Int.toNat i) 0)!=95)) with
   | true=>exact ⟨h0,h1,fun _=>by simp⟩
   | false =>
    simp only [cond_false]
    cases (((Qg0 (l.getD (Int.toNat at_) 0))==3)&&(!(QA9 (l.getD (Int.toNat i) 0)))) with
    | true=>exact ⟨h0,h1,fun _=>by simp⟩
    | false =>
     simp only [cond_false]
     rw [hw]
     obtain ⟨a,b,c⟩:=ih (i+1) (by omega) (by omega)
     exact ⟨a,b,fun hm=>by have:=c (by omega);omega⟩
theorem QYd (l:List Int) (at_:Int) (h0:0<=at_) (h1:at_<l.length) (h:l.length<=400):at_<QB1 l at_∧QB1 l at_<=l.length:=by
 have hw:w64 (at_+1)=at_+1:=wr (by omega)
 unfold QB1
 rw [hw]
 obtain ⟨a,b,c⟩:=QOg l at_ h ((Int.toNat ((l.length:Int) - (at_+1)))+1) (at_+1) (by omega) (by omega)
 have:=c (by omega)
 omega
def Ql4 (l:List Dep) (i:Nat) (x_:Dep):Nat->Nat->Sum (Bool) (Nat)
 | 0,_=>Sum.inr 0
 | m+1,k=>bif (decide ((k:Int)<(i:Int))) then bif ((l.getD k Dep.zero).job==x_.job) then Sum.inl false else Ql4 l i x_ m (k+1) else Sum.inr k
def Qk2 (l:List Dep):List Dep->Nat->Bool
 | [],_=>true
 | x_ :: r,i=>bif ((!(Qm1 x_.how 1 3))||(!(Qm1 x_.job 1 99999))) then false else (Sum.elim id (fun p1:Nat=>Qk2 l r (i+1))) (Ql4 l i x_ ((Int.toNat ((i:Int) - (0:Int)))+1) 0)
def Qm6 (l:List Dep):Bool:=bif (decide ((l.length:Int) > 4)) then false else Qk2 l l 0
theorem ref08_waits_c (l:List Dep) (hs0:l.length<=4294967296):∀ objs,AGives Tryz.prog 181 [depL l] objs (Bo (Qm6 l)):=by
 generalize hR:Qm6 l=R;refine ga (.cons lw .nil) lx (kp 5 [7,11,29,32,45]) Tryz.func181 ?_;have hk0:=hs0;obtain z11:l.length<=4294967296:=hs0;refine ai (fun h1=>?_) (fun h2=>?_)
 ·have qh1:=of_decide_eq_true h1;obtain rfl:=foll hR (ct h1 rfl);exact Q00 lx sr
 ·have qh2:=of_decide_eq_false h2;refine Qj0 (fun (i:Nat)=>Qk2 l (List.drop i l) i=R∧i<=l.length) (fun i=>l.length - i) (fun i=>[(0,depL l),(2,Bo false),(3,I (i:Int))]) (fun i=>[]) 0 (wk [] .nil (sl lw (s1 (s1 .nil)))) ⟨foll hR (cf h2 rfl),by exact omA⟩ ?_;clear hR;rintro i ⟨hR,hj⟩;(try dsimp only at hR hj);refine ai (fun h3=>?_) (fun h4=>?_)
  ·have hlt:=ltA h3;rw [Qc0 Dep.zero hlt] at hR;refine ai gkA ?_;refine us (Q14 ((l.getD i Dep.zero).how) 1 3 _) ?_;refine ai gkA ?_;(first|apply u2|apply u3|apply u4|apply us);exact Q14 ((l.getD i Dep.zero).job) 1 99999 _;refine ai (fun h5=>?_) (fun h6=>?_)
   ·obtain rfl:=foll hR (ct h5 rfl);exact Q00 lx sr
   ·refine Qj0 (fun (k:Nat)=>∃ m,(Int.toNat ((i:Int) - (k:Int)))<m∧(Sum.elim id (fun p1:Nat=>Qk2 l (List.drop (i+1) l) (i+1))) (Ql4 l i (l.getD i Dep.zero) m k)=R∧(k:Int)<=(i:Int)) (fun k=>(Int.toNat ((i:Int) - (k:Int)))) (fun k=>[(0,depL l),(2,Bo false),(3,I (i:Int)),(4,I (k:Int)),(11,Bo (decide ((i:Int)<(l.length:Int)))),(29,Bo ((!(Qm1 (l.getD i Dep.zero).how 1 3))||(!(Qm1 (l.getD i Dep.zero).job 1 99999))))]) (fun k=>[]) 0 (wk [] .nil (sl lw (s1 (s1 (s1 (s1 (s1 .nil))))))) ⟨_,Nat.lt_succ_self _,foll hR (cf h6 rfl),by exact exA⟩ ?_;clear hR;rintro k ⟨m,hm,hR,hx⟩;(try dsimp only at hR hm hx);obtain ⟨m,rfl⟩:=sucA m;refine ai (fun h7=>?_) (fun h8=>?_)
    ·have qh7:=of_decide_eq_true h7;refine dchk (by kernel_rfl) ?_;refine ai gkA ?_;refine ai gkA ?_;(repeat ((first|refine ai rfl ?_|refine ai (fun _=>rfl) ?_)));refine ai (fun h9=>?_) (fun h10=>?_)
     ·obtain rfl:=foll hR (congrArg (Sum.elim id (fun p1:Nat=>Qk2 l (List.drop (i+1) l) (i+1))) (ct h7 (ct h9 rfl)));exact Q00 lx sr
     ·exact Qn0 (k+1) (wk [] .nil (sl lw (s1 (s1 (sv (Qb0 (I_eq (wr omA)) lx) (s1 (s1 .nil))))))) omA ⟨m,by exact omA,foll hR (congrArg (Sum.elim id (fun p1:Nat=>Qk2 l (List.drop (i+1) l) (i+1))) (ct h7 (cf h10 rfl))),by exact exA⟩
    ·have qh8:=of_decide_eq_false h8;replace hR:(Sum.elim id (fun p1:Nat=>Qk2 l (List.drop (i+1) l) (i+1))) (Sum.inr k)=R:=foll hR (congrArg (Sum.elim id (fun p1:Nat=>Qk2 l (List.drop (i+1) l) (i+1))) (cf h8 rfl));exact Qn0 (i+1) (wk [] .nil (sl lw (s1 (sv (Qb0 (I_eq (wr omA)) lx) .nil)))) omA ⟨foll hR rfl,by exact omA⟩
  ·rw [Qk0 (l:=l) (j:=i) (geA h4)] at hR;obtain rfl:=foll hR rfl;exact Q00 lx sr
def Qj2 (x_:Alt):List Alt->Nat->Sum (Int) (Nat)
 | [],k=>Sum.inr k
 | x_1 :: r,k=>bif (x_.nodes==x_1.nodes) then Sum.inl 70 else Qj2 x_ r (k+1)
def QK0 (s:Shape):List Alt->Nat->Int
 | [],_=>0
 | x_ :: r,i=>bif ((!(Qq1 x_.nodes))||(!(Qa2 x_.wall))) then 70 else (Sum.elim id (fun p1:Nat=>QK0 s r (i+1))) (Qj2 x_ (List.drop (i+1) s.alts) (i+1))
def QD3 (s:Shape) (most:Int):Int:=bif (((((decide ((s.alts.length:Int)<1))||(decide ((s.alts.length:Int) > most)))||(s.min != 0))||(s.max != 0))||(s.wall != 0)) then 70 else QK0 s s.alts 0
def Qi1 (s:Shape):Int:=bif (s.kind==3) then bif (((((decide ((s.alts.length:Int) > 0))||(!(Qq1 s.min)))||(!(Qq1 s.max)))||(decide (s.max<s.min)))||(!(Qa2 s.wall))) then 70 else 0 else bif (s.kind==2) then QD3 s 6 else bif (s.kind != 1) then 70 else QD3 s 1
theorem Qqc (s:Shape) (hs0:s.sz):∀ objs,AGives Tryz.prog 182 [Shape.a s] objs (I (Qi1 s)):=by
 generalize hR:Qi1 s=R;refine ga (.cons (Shape.low _ _) .nil) lx (kj [1000010] 6 [8,37,40,43,69,74,94,101,116]) Tryz.func182 ?_;have hk0:=hs0;obtain z19:s.alts.length<=4294967296:=hs0;refine ai (fun h1=>?_) (fun h2=>?_)
 ·(first|apply u2|apply u3|apply u4|apply us);exact Qja s.min _;(first|apply u2|apply u3|apply u4|apply us);exact Qja s.max _;(first|apply u2|apply u3|apply u4|apply us);exact Q0e s.wall _;refine ai (fun h3=>?_) (fun h4=>?_)
  ·obtain rfl:=foll hR (ct h1 (ct h3 rfl));exact Q00 lx sr
  ·obtain rfl:=foll hR (ct h1 (cf h4 rfl));exact Q00 lx sr
 ·refine QZ1 (fun (most:Int)=>QD3 s most=R) (fun most=>[(1,AVal.ptr 0 0 5 0 0),(2,I 0),(3,I most)]) (fun most=>[(0,AObj.row 31 5 [[I s.kind,altL s.alts,I s.min,I s.max,I s.wall]])]) ?_ ?_
  ·clear hR;rintro most hR;(try dsimp only at hR);refine ai (fun h5=>?_) (fun h6=>?_)
   ·obtain rfl:=foll hR (ct h5 rfl);exact Q00 lx sr
   ·refine Qj0 (fun (i:Nat)=>QK0 s (List.drop i s.alts) i=R∧i<=s.alts.length) (fun i=>s.alts.length - i) (fun i=>[(1,AVal.ptr 0 0 5 0 0),(2,I 0),(4,I (i:Int))]) (fun i=>[(0,AObj.row 31 5 [[I s.kind,altL s.alts,I s.min,I s.max,I s.wall]])]) 0 (wk [0] (tO rfl (ts Shape.lo) .nil) (sv (Q30 0 rfl rfl) (s1 (s1 .nil)))) ⟨foll hR (cf h6 rfl),by exact omA⟩ ?_;clear hR;rintro i ⟨hR,hj⟩;(try dsimp only at hR hj);refine ai (fun h7=>?_) (fun h8=>?_)
    ·have hlt:=ltA h7;rw [Qc0 Alt.zero hlt] at hR;refine ai gkA ?_;refine us (Qja ((s.alts.getD i Alt.zero).nodes) _) ?_;refine ai gkA ?_;(first|apply u2|apply u3|apply u4|apply us);exact Q0e ((s.alts.getD i Alt.zero).wall) _;refine ai (fun h9=>?_) (fun h10=>?_)
     ·obtain rfl:=foll hR (ct h9 rfl);exact Q00 lx sr
     ·refine Qj0 (fun (k:Nat)=>(Sum.elim id (fun p1:Nat=>QK0 s (List.drop (i+1) s.alts) (i+1))) (Qj2 (s.alts.getD i Alt.zero) (List.drop k s.alts) k)=R∧k<=s.alts.length) (fun k=>s.alts.length - k) (fun k=>[(1,AVal.ptr 0 0 5 0 0),(2,I 0),(4,I (i:Int)),(5,I (k:Int)),(74,Bo (decide ((i:Int)<(s.alts.length:Int)))),(94,Bo ((!(Qq1 (s.alts.getD i Alt.zero).nodes))||(!(Qa2 (s.alts.getD i Alt.zero).wall))))]) (fun k=>[(0,AObj.row 31 5 [[I s.kind,altL s.alts,I s.min,I s.max,I s.wall]])]) (i+1) (wk [0] (tO rfl (ts Shape.lo) .nil) (sv (Q30 0 rfl rfl) (s1 (s1 (sv (Qb0 (I_eq (wr omA)) lx) (s1 (s1 .nil))))))) ⟨foll hR (cf h10 rfl),by exact omA⟩ ?_;clear hR;rintro k ⟨hR,hj⟩;(try dsimp only at hR hj);refine ai (fun h11=>?_) (fun h12=>?_)
      ·have hlt:=ltA h11;rw [Qc0 Alt.zero hlt] at hR;refine dchk (by kernel_rfl) ?_;refine ai gkA ?_;refine ai gkA ?_;(repeat ((first|refine ai rfl ?_|refine ai (fun _=>rfl) ?_)));refine ai (fun h13=>?_) (fun h14=>?_)
       ·obtain rfl:=foll hR (congrArg (Sum.elim id (fun p1:Nat=>QK0 s (List.drop (i+1) s.alts) (i+1))) (ct h13 rfl));exact Q00 lx sr
       ·exact Qn0 (k+1) (wk [0] (tO rfl (ts Shape.lo) .nil) (sv (Q30 0 rfl rfl) (s1 (s1 (sv (Qb0 (I_eq (wr omA)) lx) (s1 (s1 .nil))))))) omA ⟨foll hR (congrArg (Sum.elim id (fun p1:Nat=>QK0 s (List.drop (i+1) s.alts) (i+1))) (cf h14 rfl)),by exact omA⟩
      ·rw [Qk0 (l:=s.alts) (j:=k) (geA h12)] at hR;replace hR:(Sum.elim id (fun p1:Nat=>QK0 s (List.drop (i+1) s.alts) (i+1))) (Sum.inr k)=R:=foll hR (congrArg (Sum.elim id (fun p1:Nat=>QK0 s (List.drop (i+1) s.alts) (i+1))) rfl);exact Qn0 (i+1) (wk [0] (tO rfl (ts Shape.lo) .nil) (sv (Q30 0 rfl rfl) (s1 (sv (Qb0 (I_eq (wr omA)) lx) .nil)))) omA ⟨foll hR rfl,by exact omA⟩
    ·rw [Qk0 (l:=s.alts) (j:=i) (geA h8)] at hR;obtain rfl:=foll hR rfl;exact Q00 lx sr
  ·refine ai (fun h15=>?_) (fun h16=>?_)
   ·exact Qf0 6 (wk [0] (tO rfl (ts Shape.lo) .nil) (sv (Q30 0 rfl rfl) (s1 (s1 .nil)))) (foll hR (cf h2 (ct h15 rfl)))
   ·refine ai (fun h17=>?_) (fun h18=>?_)
    ·obtain rfl:=foll hR (cf h2 (cf h16 (ct h17 rfl)));exact Q00 lx sr
    ·exact Qf0 1 (wk [0] (tO rfl (ts Shape.lo) .nil) (sv (Q30 0 rfl rfl) (s1 (s1 .nil)))) (foll hR (cf h2 (cf h16 (cf h18 rfl))))
theorem QO6 {s:Shape} (h:(Qi1 s != 0)=false) (hk:(s.kind != 3)=false):1<=s.min∧s.min<=s.max∧s.max<=48∧w64 (s.max - s.min)=s.max - s.min:=by
 have hk':s.kind=3:=by simpa using hk
 have h1:Qq1 s.min=true∧Qq1 s.max=true ∧ ¬ s.max<s.min:=by
  simp only [Qi1,hk',beq_self_eq_true,cond_true] at h
  revert h
  cases h2:(((((decide ((s.alts.length:Int) > 0))||(!(Qq1 s.min)))||(!(Qq1 s.max)))||(decide (s.max<s.min)))||(!(Qa2 s.wall))) with
  | true=>simp
  | false=>intro _;simp at h2;exact ⟨h2.1.1.1.2,h2.1.1.2,by omega⟩
 obtain ⟨a,b,c⟩:=h1
 simp [Qq1] at a b
 exact ⟨by omega,by omega,by omega,wr (by omega)⟩
def QQ8 :List Node->Nat->Int
 | [],_=>0
 | x_ :: r,i=>bif (!(QW7 x_)) then 120 else QQ8 r (i+1)
def Qxb (l:List Node):Int:=bif (((l.length:Int)==0)||(decide ((l.length:Int) > 48))) then 120 else QQ8 l 0
def Qj7 (l:List Usage):List Usage->Nat->Int
 | [],_=>0
 | x_ :: r,i=>bif ((((((((i:Int)==200)||(!(QE4 x_.user)))||(!(QE4 x_.account)))||(decide (x_.used<0)))||(decide (x_.used > 1000000000000)))||(decide (x_.share<0)))||(decide (x_.share > x_.used))) then 2 else bif ((decide ((i:Int) > 0))&&(!(QE9 (l.getD (Int.toNat (w64 ((i:Int) - 1))) Usage.zero) x_))) then 2 else Qj7 l r (i+1)
def Q47 (l:List Usage):Int:=Qj7 l l 0
def QL1 :List Step->List Int->Nat->(List Int) × Nat
 | [],out,i=>(out,i)
 | x_ :: r,out,i=>QL1 r (QA5 out x_.at_) (i+1)
def Ql2 :List Int->List Int->Nat->(List Int) × Nat
 | [],out1,i1=>(out1,i1)
 | x_1 :: r,out1,i1=>Ql2 r (QA5 out1 x_1) (i1+1)
def Q5b (out1:List Int) (i1:Nat):(List Int):=out1
def Q4b (more:List Int) (out:List Int) (i:Nat):(List Int):=Q5b ((Ql2 more out 0).1) ((Ql2 more out 0).2)
def Qn3 (p_:List Step) (more:List Int):(List Int):=Q4b more ((QL1 p_ [] 0).1) ((QL1 p_ [] 0).2)
theorem Qr8:∀ (p:List Step) (out:List Int) (i:Nat),(QL1 p out i).1.length<=out.length+p.length
 | [],out,i=>by simp [QL1]
 | x :: r,out,i=>by
  rw [QL1]
  have h1:=Qr8 r (QA5 out x.at_) (i+1)
  have h2:=Qrc out x.at_
  simp only [List.length_cons]
  omega
theorem Qs8:∀ (p out:List Int) (i:Nat),(Ql2 p out i).1.length<=out.length+p.length
 | [],out,i=>by simp [Ql2]
 | x :: r,out,i=>by
  rw [Ql2]
  have h1:=Qs8 r (QA5 out x) (i+1)
  have h2:=Qrc out x
  simp only [List.length_cons]
  omega
theorem QQg (p:List Step) (more:List Int):(Qn3 p more).length<=p.length+more.length:=by
 have h1:=Qr8 p [] 0
 have h2:=Qs8 more (QL1 p [] 0).1 0
 unfold Qn3 Q4b Q5b
 simp only [List.length_nil] at h1
 omega
def Q81 (l:List Job) (id_:Int):Job:=bif (decide ((QU1 l id_)<0)) then Job.zero else (l.getD (Int.toNat (QU1 l id_)) Job.zero)
def Qn4 (from_:Int) (to_:Int):List Step->Int->Nat->Int × Nat
 | [],out,i=>(out,i)
 | x_ :: r,out,i=>bif (((decide (x_.at_ > from_))&&(decide (x_.at_<to_)))&&(decide (x_.free<out))) then Qn4 from_ to_ r x_.free (i+1) else Qn4 from_ to_ r out (i+1)
def Q3b (out:Int) (i:Nat):Int:=out
def QC9 (p_:List Step) (from_:Int) (to_:Int):Int:=bif (((((Q41 p_)!=0)||(decide (from_<0)))||(decide (from_ > 1000000)))||(decide (to_<=from_))) then 0 else Q3b ((Qn4 from_ to_ p_ (Qg8 p_ from_) 0).1) ((Qn4 from_ to_ p_ (Qg8 p_ from_) 0).2)
def Qc1 (n:Int):Int:=(QU7 n 1000000000000)
def ref15_Over (j:Job):Bool:=(Qn6 j.state)
def Qvc (l:List Job) (j:Job):(List Job):=bif (decide ((QU1 l j.id) >= 0)) then (l.set (Int.toNat (QU1 l j.id)) j) else l
def Qgd (l:List Job) (j:Job):(List Job):=Qvc l j
def QM2 (s:List Job) (f:Job->Bool):Bool:=(decide ((QO2 s f) >= 0))
end Go.Proofs.YtjpgfmbccohngaaGreatDoor
