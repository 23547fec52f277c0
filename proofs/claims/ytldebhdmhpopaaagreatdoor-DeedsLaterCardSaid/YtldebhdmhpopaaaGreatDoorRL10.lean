/-
  What the last text of this claim leans on: an evaluator over the code, contracts of functions, plain laws. Conditions stand in each statement.
-/
import Derived.Test.YtldebhdmhpopaaaGreatDoorRL9
import Derived.Test.YtldebhdmhpopaaaGreatDoorProg
namespace Go.Proofs.YtldebhdmhpopaaaGreatDoor
set_option linter.unusedSimpArgs false
set_option linter.unusedVariables false
open Go.Fw
set_option maxRecDepth 20000
set_option maxHeartbeats 4000000
attribute [local irreducible] ACalls AMoves
def QK7 (j:Job):Bool:=(((((QCa j.shape)&&(decide ((j.after.length:Int)<=100)))&&(decide ((ByteArray.size j.name:Int)<=1000)))&&(decide ((ByteArray.size j.user:Int)<=1000)))&&(decide ((ByteArray.size j.account:Int)<=1000)))
theorem law14_Few_c (j:Job):GV 68 [Job.a j] (Bo (QK7 j)):=by
 generalize hR:QK7 j=R;refine ga (.cons (Job.low _ _) .nil) lx (kp 3 []) Tryz.func68 ?_;refine us (law07_Few_c j.shape _) ?_;obtain rfl:=foll hR rfl;exact Q10 lx sr
def QP3 (n:Int):Int:=(Q24 n 0 1000000000000)
theorem Qm8 (n:Int):GV 151 [I n] (I (QP3 n)):=by
 generalize hR:QP3 n=R;refine ga (l1 .nil) lx (kp 3 []) Tryz.func151 ?_;refine us (QA8 n 0 1000000000000 _) ?_;obtain rfl:=foll hR rfl;exact Q10 lx sr
def Qa1 (s:List Alt) (f:Alt->Bool):Bool:=(decide ((Q71 s f) >= 0))
def Qab (n:Int):Bool:=(QU2 n 1 100000)
theorem cmd_length_c (n:Int):GV 228 [I n] (Bo (Qab n)):=by
 generalize hR:Qab n=R;refine ga (l1 .nil) lx (kp 3 []) Tryz.func228 ?_;refine us (QJ2 n 1 100000 _) ?_;obtain rfl:=foll hR rfl;exact Q10 lx sr
def Qw7 :List (Nat × Int)->Nat->Int × Int
 | [],n=>((n:Int),0)
 | x_ :: r,n=>bif ((QJ1 x_.2)==0) then ((n:Int),40) else Qw7 r (n+1)
def Qy4 (s:ByteArray):Int × Int:=Qw7 (Qwc s) 0
theorem QSa (s:ByteArray) (hs0:s.size<=4294967296):GV 250 [Sg s] (AVal.tup [I ((Qy4 s).1),I ((Qy4 s).2)]):=by
 generalize hR:Qy4 s=R;refine ga (l1 .nil) (Low.tup' (l1 (l1 .nil))) (kp 7 [8,9,10,14]) Tryz.func250 ?_;have hk0:=hs0;obtain z5:s.size<=4294967296:=hs0;refine Qq0 (fun (n:Nat) (pos:Nat)=>∃ m,ByteArray.size s - pos<=m∧Qw7 (QV4 s m pos) n=R∧n<=pos) (fun n pos=>ByteArray.size s - pos) (fun n pos=>[(2,I 0),(3,I 0),(4,I (n:Int)),(8,AVal.ptr 0 0 1 0 0)]) (fun n pos=>[(0,AObj.other (.strIter s pos))]) 0 0 (wk [0] (tO rfl (.strIter _ _) .nil) (s1 (s1 (s1 (sv (Q00 0 rfl rfl) .nil))))) ⟨ByteArray.size s,by exact omA,foll hR rfl,by exact exA⟩ ?_;clear hR;rintro n pos ⟨m,hm,hR,hx⟩;(try dsimp only at hR hm hx);refine ai (fun h1=>?_) (fun h2=>?_)
 ·have hlt:=of_decide_eq_true h1;have hw:=Qe9 s pos;have hwe:=Qd9 s pos hlt;obtain ⟨m,rfl⟩:=sucA m;rw [Qy5 h1] at hR;refine ai (fun _=>?_) (fun h=>nomatch h);refine us (QH3 ((pos,((Utf8.decode s pos).1:Int)).2) _) ?_;refine ai (fun h3=>?_) (fun h4=>?_)
  ·obtain rfl:=foll hR (ct h3 rfl);exact Q10 (Low.tup' (l1 (l1 .nil))) (Seen.tup (e1 (e1 .nil)))
  ·exact Qd0 (n+1) (pos+(Utf8.decode s pos).2) (wk [0] (tO rfl (.strIter _ _) .nil) (s1 (s1 (sv (Qa0 (I_eq (wr omA)) lx) (sv (Q00 0 rfl rfl) .nil))))) omA ⟨m,by exact omA,foll hR (cf h4 rfl),by exact exA⟩
 ·rw [Qm7 h2] at hR;refine ai (fun h=>nomatch h) (fun _=>?_);obtain rfl:=foll hR rfl;exact Q10 (Low.tup' (l1 (l1 .nil))) (Seen.tup (e1 (e1 .nil)))
def Qv0 (y:Int):List Int->Nat->Bool
 | [],_=>((false||(y==45))||(y==95))
 | x_ :: r,i=>bif ((QJ1 y)==x_) then true else Qv0 y r (i+1)
def Q72 (r_:LexReader):Token × LexReader:=((⟨1,(Q3a ((Q70 r_ (fun (y:Int)=>Qv0 y ([2,3]:List Int) 0)).1)),0,0⟩:Token),(Q70 r_ (fun (y:Int)=>Qv0 y ([2,3]:List Int) 0)).2)
theorem Qrb (r_:LexReader) (hs0:r_.sz) (hp0:0<=r_.at_∧r_.at_<=(r_.line.length:Int)∧r_.line.length<=400):AMoves Tryz.prog 282 [AVal.ptr 0 0 4 0 0] [(0,AObj.row 317 4 [[runes r_.line,I r_.at_,I r_.bad,I r_.error]])] 1 (Token.a ((Q72 r_).1)) [(0,AObj.row 317 4 [[runes ((Q72 r_).2.line),I ((Q72 r_).2.at_),I ((Q72 r_).2.bad),I ((Q72 r_).2.error)]])]:=by
 generalize hR:Q72 r_=R;refine mo (kp 5 []) Tryz.func282 ?_;have hk0:=hs0;obtain z7:r_.line.length<=4294967296:=hs0;refine Or.inl ?_;refine ACalls.of_cwp (fun _=>true) Tryz.func275 rfl rfl ?_;refine ⟨_,_,Told.refl,?_⟩;have cl1:∀ (y1:Int),AMoves Tryz.prog 291 [J y1,AVal.ptr 1 0 1 0 0] [(0,AObj.row 35 1 [[ints ([2,3]:List Int)]]),(0,AObj.row 318 1 [[AVal.fn (.func 281) [] [AVal.ptr 0 0 1 0 0]]])] 2 (Bo ((fun (y:Int)=>Qv0 y ([2,3]:List Int) 0) y1)) [(0,AObj.row 35 1 [[ints ([2,3]:List Int)]]),(0,AObj.row 318 1 [[AVal.fn (.func 281) [] [AVal.ptr 0 0 1 0 0]]])]:=by
  intro y1;have hR:(fun (y:Int)=>Qv0 y ([2,3]:List Int) 0) y1=(fun (y:Int)=>Qv0 y ([2,3]:List Int) 0) y1:=rfl;refine mo (kp 4 []) Tryz.func291 ?_;refine ACalls.of_cwp (fun _=>true) Tryz.func281 rfl rfl ?_;refine Qs0 (fun (i:Nat)=>Qv0 y1 (List.drop i ([2,3]:List Int)) i=(fun (y:Int)=>Qv0 y ([2,3]:List Int) 0) y1∧i<=([2,3]:List Int).length) (fun i=>([2,3]:List Int).length - i) (fun i=>[(0,J y1),(3,Bo false),(6,ints ([2,3]:List Int)),(7,I (([2,3]:List Int).length:Int)),(8,I (i:Int))]) (fun i=>[(0,AObj.row 35 1 [[ints ([2,3]:List Int)]]),(0,AObj.row 318 1 [[AVal.fn (.func 281) [] [AVal.ptr 0 0 1 0 0]]])]) 0 (wk [0,1] (tO rfl (ts (lv lw LowL.nil)) (tO rfl (Q90 (cv (Qu0 .nil (cv (Q00 0 rfl rfl) .nil)) .nil)) .nil)) (s1 (s1 (sl lw (s1 (s1 .nil)))))) ⟨foll hR rfl,by exact omA⟩ ?_;clear hR;rintro i ⟨hR,hj⟩;(try dsimp only at hR hj);refine ai (fun h1=>?_) (fun h2=>?_)
  ·(have hlt:i<([2,3]:List Int).length:=by have:=of_decide_eq_true h1;omega);rw [Qi0 0 hlt] at hR;refine ai gkA ?_;refine us (QH3 y1 _) ?_;refine ai (fun h3=>?_) (fun h4=>?_)
   ·refine ⟨_,_,Told.refl,?_⟩;refine Qp0 (fun r:Bool=>Bo r) (fun _=>[(0,AObj.row 35 1 [[ints ([2,3]:List Int)]]),(0,AObj.row 318 1 [[AVal.fn (.func 281) [] [AVal.ptr 0 0 1 0 0]]])]) (leaf:=true) (foll hR (ct h3 rfl)) ?_;exact tt [0,1] (tO rfl (ts (lv lw LowL.nil)) (tO rfl (Q90 (cv (Qu0 .nil (cv (Q00 0 rfl rfl) .nil)) .nil)) .nil)) t1
   ·exact Qz0 (i+1) (wk [0,1] (tO rfl (ts (lv lw LowL.nil)) (tO rfl (Q90 (cv (Qu0 .nil (cv (Q00 0 rfl rfl) .nil)) .nil)) .nil)) (s1 (s1 (sl lw (s1 (sv (Qa0 (I_eq (wr omA)) lx) .nil)))))) omA ⟨foll hR (cf h4 rfl),by exact omA⟩
  ·rw [Ql0 (l:=([2,3]:List Int)) (j:=i) (geA h2)] at hR;refine ⟨_,_,Told.refl,?_⟩;refine Qp0 (fun r:Bool=>Bo r) (fun _=>[(0,AObj.row 35 1 [[ints ([2,3]:List Int)]]),(0,AObj.row 318 1 [[AVal.fn (.func 281) [] [AVal.ptr 0 0 1 0 0]]])]) (leaf:=((false||(y1==45))||(y1==95))) (foll hR rfl) ?_;exact tt [0,1] (tO rfl (ts (lv lw LowL.nil)) (tO rfl (Q90 (cv (Qu0 .nil (cv (Q00 0 rfl rfl) .nil)) .nil)) .nil)) t1
 have hof1:AMoves Tryz.prog 276 [AVal.ptr 0 0 4 0 0,AVal.fn (.func 291) [] [AVal.ptr 2 0 1 0 0]] [(0,AObj.row 317 4 [[runes r_.line,I r_.at_,I r_.bad,I r_.error]]),(0,AObj.row 35 1 [[ints ([2,3]:List Int)]]),(0,AObj.row 318 1 [[AVal.fn (.func 281) [] [AVal.ptr 1 0 1 0 0]]])] 3 (Sg ((Q70 r_ (fun (y:Int)=>Qv0 y ([2,3]:List Int) 0)).1)) [(0,AObj.row 317 4 [[runes (((Q70 r_ (fun (y:Int)=>Qv0 y ([2,3]:List Int) 0)).2).line),I (((Q70 r_ (fun (y:Int)=>Qv0 y ([2,3]:List Int) 0)).2).at_),I (((Q70 r_ (fun (y:Int)=>Qv0 y ([2,3]:List Int) 0)).2).bad),I (((Q70 r_ (fun (y:Int)=>Qv0 y ([2,3]:List Int) 0)).2).error)]]),(0,AObj.row 35 1 [[ints ([2,3]:List Int)]]),(0,AObj.row 318 1 [[AVal.fn (.func 281) [] [AVal.ptr 1 0 1 0 0]]])]:=by
  have hR:Q70 r_ (fun (y:Int)=>Qv0 y ([2,3]:List Int) 0)=Q70 r_ (fun (y:Int)=>Qv0 y ([2,3]:List Int) 0):=rfl;refine mo (kp 6 [33]) Tryz.func276 ?_;refine Qs0 (fun (c:LexReader)=>∃ m,(Int.toNat ((c.line.length:Int) - c.at_))<m∧QP0 r_ (QW0 (fun (y:Int)=>Qv0 y ([2,3]:List Int) 0) m c)=Q70 r_ (fun (y:Int)=>Qv0 y ([2,3]:List Int) 0)∧0<=c.at_∧c.at_<=(c.line.length:Int)∧c.line.length<=400∧r_.at_<=c.at_∧0<=r_.at_) (fun c=>(Int.toNat ((c.line.length:Int) - c.at_))) (fun c=>[(0,AVal.ptr 0 0 4 0 0),(1,AVal.fn (.func 291) [] [AVal.ptr 2 0 1 0 0]),(4,Sg ⟨#[]⟩),(5,I r_.at_)]) (fun c=>[(0,AObj.row 317 4 [[runes c.line,I c.at_,I c.bad,I c.error]]),(0,AObj.row 35 1 [[ints ([2,3]:List Int)]]),(0,AObj.row 318 1 [[AVal.fn (.func 281) [] [AVal.ptr 1 0 1 0 0]]])]) r_ (wk [0,1,2] (tO rfl (ts LexReader.lo) (tO rfl (ts (lv lw LowL.nil)) (tO rfl (Q90 (cv (Qu0 .nil (cv (Q00 1 rfl rfl) .nil)) .nil)) .nil))) (sv (Q00 0 rfl rfl) (sv (Qu0 .nil (cv (Q00 2 rfl rfl) .nil)) (s1 (s1 .nil))))) ⟨_,Nat.lt_succ_self _,foll hR rfl,by exact exA⟩ ?_;clear hR;rintro c ⟨m,hm,hR,hx⟩;(try dsimp only at hR hm hx);obtain ⟨m,rfl⟩:=sucA m;refine dchk (by kernel_rfl) ?_;refine ai gkA ?_;(first|apply u2|apply u3|apply u4|apply us);exact mv [1,2] (cl1 (c.line.getD (Int.toNat c.at_) 0)) (dO (ds (lv lw LowL.nil)) (dO (dc (dv (dn_fn .nil (dp .nil)) .nil)) .nil)) (d1 (dp .nil)) (rO (re (lv lw LowL.nil)) (rO (rc (rv (ren_fn .nil (.cons _ _ _ _ (rp 1 0 rfl) .nil)) .nil)) .nil)) rx;(repeat ((first|refine ai rfl ?_|refine ai (fun _=>rfl) ?_)));refine ai (fun h5=>?_) (fun h6=>?_)
  ·have hq1:=of_decide_eq_true ((Bool.and_eq_true _ _).mp h5).1;have hwr:w64 (c.at_+1)=c.at_+1:=wr (by omega);exact Qz0 { c with at_:=(w64 (c.at_+1)) } (wk [0,1,2] (tO rfl (ts LexReader.lo) (tO rfl (ts (lv lw LowL.nil)) (tO rfl (Q90 (cv (Qu0 .nil (cv (Q00 1 rfl rfl) .nil)) .nil)) .nil))) (sv (Q00 0 rfl rfl) (sv (Qu0 .nil (cv (Q00 2 rfl rfl) .nil)) (s1 (s1 .nil))))) omA ⟨m,by exact omA,foll hR (congrArg (fun p:LexReader=>QP0 r_ p) (ct h5 rfl)),by exact exA⟩
  ·replace hR:QP0 r_ c=Q70 r_ (fun (y:Int)=>Qv0 y ([2,3]:List Int) 0):=fo2 (fun p:LexReader=>QP0 r_ p) (c) hR (cf h6 rfl);refine dchk (by kernel_rfl) ?_;refine ai gkA ?_;(first|refine ⟨(List.drop (Int.toNat r_.at_) (List.take (Int.toNat c.at_) c.line)),by exact cvA,?_⟩|refine ⟨_,fun _=>⟨(List.drop (Int.toNat r_.at_) (List.take (Int.toNat c.at_) c.line)),by exact cvA,rfl,rfl⟩,?_⟩|refine ⟨_,rfl,⟨(List.drop (Int.toNat r_.at_) (List.take (Int.toNat c.at_) c.line)),by exact cvA,Sub.refl _,rfl⟩,?_⟩);(repeat ((first|refine ai rfl ?_|refine ai (fun _=>rfl) ?_)));refine Qp0 (fun r:ByteArray × LexReader=>Sg r.1) (fun r:ByteArray × LexReader=>[(0,AObj.row 317 4 [[runes r.2.line,I r.2.at_,I r.2.bad,I r.2.error]]),(0,AObj.row 35 1 [[ints ([2,3]:List Int)]]),(0,AObj.row 318 1 [[AVal.fn (.func 281) [] [AVal.ptr 1 0 1 0 0]]])]) (leaf:=((runesBytes (List.drop (Int.toNat r_.at_) (List.take (Int.toNat c.at_) c.line))),c)) (foll hR rfl) ?_;exact tt [0,1,2] (tO rfl (ts LexReader.lo) (tO rfl (ts (lv lw LowL.nil)) (tO rfl (Q90 (cv (Qu0 .nil (cv (Q00 1 rfl rfl) .nil)) .nil)) .nil))) t1
 refine us (mv [0,2,3] (hof1) (dO (ds LexReader.lo) (dO (dc (dv (dn_as (QW4 (c:=(fun q_=>[I q_])) (d:=0) ([2,3]:List Int) rfl) lw) .nil)) (dO (dc (dv (dn_fn .nil (dp .nil)) .nil)) .nil))) (dp (dv (dn_fn .nil (dp .nil)) .nil)) (rO (re LexReader.lo) (rO (re (lv lw LowL.nil)) (rO (rc (rv (ren_fn .nil (.cons _ _ _ _ (rp 2 0 rfl) .nil)) .nil)) .nil))) rx) ?_;refine us (runes_Lower_c ((Q70 r_ (fun (y:Int)=>Qv0 y ([2,3]:List Int) 0)).1) (by first|(exact QQ8 _ _ hp0.2.2)|exact szA) _) ?_;obtain rfl:=foll hR rfl;exact rq (tt [0] (tO rfl (ts LexReader.lo) .nil) (Q20 (Low.agg' (Token.lo))))
def Q59 (s:ByteArray):Int × Unit:=((Q68 s).1,())
theorem strconv_Atoi_c (s:ByteArray) (hs0:s.size<=4294967296) (hp0:atoiOK s):GV 302 [Sg s] (AVal.tup [I ((Q59 s).1),AVal.lit .nilIface]):=by
 generalize hR:Q59 s=R;refine ga (l1 .nil) (Low.tup' (l1 (l1 .nil))) (kp 6 [12]) Tryz.func302 ?_;have hk0:=hs0;obtain z1:s.size<=4294967296:=hs0;refine us (Qad s szA ckA _) ?_;refine ai (fun h=>nomatch h) (fun _=>?_);obtain rfl:=foll hR rfl;exact Q10 (Low.tup' (l1 (l1 .nil))) (Seen.tup (e1 (e1 .nil)))
def Ql1 (x_:Int) (held:Bool):Bool × Bool:=bif (((QJ1 x_)==0)||((x_==34)&&(!held))) then (false,held) else (true,((x_==92)&&(!held)))
theorem Qq9 (x_:Int) (held:Bool):AMoves Tryz.prog 296 [J x_,AVal.ptr 0 0 1 0 0] [(0,AObj.row 4 1 [[Bo held]])] 1 (Bo ((Ql1 x_ held).1)) [(0,AObj.row 4 1 [[Bo ((Ql1 x_ held).2)]])]:=by
 generalize hR:Ql1 x_ held=R;refine mo (kp 4 [14]) Tryz.func296 ?_;refine us (QH3 x_ _) ?_;refine ai (fun h1=>?_) (fun h2=>?_)
 ·obtain rfl:=foll hR (ct h1 rfl);exact rq (tt [0] (tO rfl (ts (l1 LowL.nil)) .nil) t1)
 ·obtain rfl:=foll hR (cf h2 rfl);exact rq (tt [0] (tO rfl (ts (l1 LowL.nil)) .nil) t1)
def QS0 (p_:List Int) (r_:Int):(List Int):=bif (decide ((wu32 r_)<=127)) then (p_++([(wu8 r_)]:List Int)) else (Qa2 p_ r_)
theorem QBb (p_:List Int) (r_:Int) (hs0:p_.length<=4294967296):AMoves Tryz.prog 301 [AVal.own 0 0 1 0 p_.length,J r_] [(0,AObj.row 5 1 (p_.map (fun q_=>[Y q_])))] 0 (AVal.own 0 0 1 0 (QS0 p_ r_).length) [(0,AObj.row 5 1 ((QS0 p_ r_).map (fun q_=>[Y q_])))]:=by
 generalize hR:QS0 p_ r_=R;refine mo (kp 5 [7]) Tryz.func301 ?_;have hk0:=hs0;obtain z3:p_.length<=4294967296:=hs0;refine ai (fun h1=>?_) (fun h2=>?_)
 ·have qh1:=of_decide_eq_true h1;refine Or.inl ?_;(first|refine ⟨Qp1 1 rfl lnA apA,?_⟩|refine ⟨QN0 1 rfl apA,?_⟩);obtain rfl:=foll hR (ct h1 rfl);exact rq (tt [0] (tO rfl (tl eqA) .nil) (to 0 lnA))
 ·have qh2:=of_decide_eq_false h2;refine us (mv [0] (QC7 p_ r_ szA) (dO (dr eqA) .nil) (dv (Qn4 rfl lnA) (d1 .nil)) (rO rr .nil) (rw_ 1 0 rfl)) ?_;obtain rfl:=foll hR (cf h2 rfl);exact rq (tt [1] (tO rfl (tl eqA) .nil) (to 0 lnA))
theorem Q45 (l:List Int) (r_:Int):∃ k,QS0 l r_=l++k∧1<=k.length∧k.length<=4∧Q16 k:=by
 have h1:∀ a:Int,Q16 [wu8 a]:=fun a=>QY4 (wu8_in a) Qa9
 have h2:∀ a b:Int,Q16 [wu8 a,wu8 b]:=fun a b=>QY4 (wu8_in a) (h1 b)
 have h3:∀ a b c:Int,Q16 [wu8 a,wu8 b,wu8 c]:=fun a b c=>QY4 (wu8_in a) (h2 b c)
 have h4:∀ a b c d:Int,Q16 [wu8 a,wu8 b,wu8 c,wu8 d]:=fun a b c d=>QY4 (wu8_in a) (h3 b c d)
 have hc:Q16 [239,191,189]:=QY4 (by decide) (QY4 (by decide) (QY4 (by decide) Qa9))
 unfold QS0
 cases (decide ((wu32 r_)<=127)) with
 | true=>exact ⟨_,rfl,by simp,by simp,h1 _⟩
 | false =>
  simp only [cond_false]
  unfold Qa2
  repeat' first
   | exact ⟨_,rfl,by simp,by simp,h2 _ _⟩
   | exact ⟨_,rfl,by simp,by simp,h3 _ _ _⟩
   | exact ⟨_,rfl,by simp,by simp,h4 _ _ _ _⟩
   | exact ⟨_,rfl,by simp,by simp,hc⟩
   | unfold Qf2
   | (rw [Bool.cond_eq_ite];split)
theorem Qp7 (l:List Int) (r_:Int):(QS0 l r_).length ≠ 0:=by
 obtain ⟨k,e,h,_⟩:=Q45 l r_
 rw [e,List.length_append]
 omega
theorem Qba (l:List Int) (r_:Int):(QS0 l r_).length<=l.length+4:=by
 obtain ⟨k,e,_,h,_⟩:=Q45 l r_
 rw [e,List.length_append]
 omega
theorem byteIn_rune (l:List Int) (r_:Int) (h:Q16 l):Q16 (QS0 l r_):=by
 obtain ⟨k,e,_,_,g⟩:=Q45 l r_
 rw [e]
 exact byteIn_app h g
def Qt0 (s:List Dep) (f:Dep->Bool):Bool:=(decide ((Q81 s f) >= 0))
def cmd_id (n:Int):Bool:=(QU2 n 1 99999)
theorem Qrc (n:Int):GV 232 [I n] (Bo (cmd_id n)):=by
 generalize hR:cmd_id n=R;refine ga (l1 .nil) lx (kp 3 []) Tryz.func232 ?_;refine us (QJ2 n 1 99999 _) ?_;obtain rfl:=foll hR rfl;exact Q10 lx sr
def Qvb (a:Shape) (b:Shape):Bool:=(((((a.kind==b.kind)&&(a.min==b.min))&&(a.max==b.max))&&(a.wall==b.wall))&&(Qi6 a.alts b.alts))
theorem shape_Same_c (a:Shape) (b:Shape) (hs0:a.sz) (hs1:b.sz):GV 233 [Shape.a a,Shape.a b] (Bo (Qvb a b)):=by
 generalize hR:Qvb a b=R;refine ga (.cons (Shape.low _ _) (.cons (Shape.low _ _) .nil)) lx (kp 5 []) Tryz.func233 ?_;have hk0:=hs0;obtain z1:a.alts.length<=4294967296:=hs0;have hk1:=hs1;obtain z2:b.alts.length<=4294967296:=hs1;(first|apply u2|apply u3|apply u4|apply us);exact QWa a.alts b.alts szA szA _;obtain rfl:=foll hR rfl;exact Q10 lx sr
def Q62 (v:Job):Bool:=(((((((v.nodes==0)&&(QD1 v.start))&&(QD1 v.limit))&&(decide (v.promise >= (-1))))&&(decide (v.promise<=1000000)))&&(decide (v.choice >= 0)))&&(decide (v.choice<=48)))
theorem Qed (v:Job):GV 155 [Job.a v] (Bo (Q62 v)):=by
 generalize hR:Q62 v=R;refine ga (.cons (Job.low _ _) .nil) lx (kp 3 []) Tryz.func155 ?_;(first|apply u2|apply u3|apply u4|apply us);exact QU3 v.start _;(first|apply u2|apply u3|apply u4|apply us);exact QU3 v.limit _;obtain rfl:=foll hR rfl;exact Q10 lx sr
def Q1a (n:Int):Int:=bif (decide (n<=0)) then 0 else bif (decide (n >= 64)) then 18446744073709551615 else (wu64 ((Qd3 n) - 1))
theorem nodeset_All_c (n:Int):GV 204 [I n] (U (Q1a n)):=by
 generalize hR:Q1a n=R;refine ga (l1 .nil) lx (kp 3 [3,6]) Tryz.func204 ?_;refine ai (fun h1=>?_) (fun h2=>?_)
 ·have qh1:=of_decide_eq_true h1;obtain rfl:=foll hR (ct h1 rfl);exact Q10 lx sr
 ·have qh2:=of_decide_eq_false h2;refine ai (fun h3=>?_) (fun h4=>?_)
  ·have qh3:=of_decide_eq_true h3;obtain rfl:=foll hR (cf h2 (ct h3 rfl));exact Q10 lx sr
  ·have qh4:=of_decide_eq_false h4;refine us (Qr5 n _) ?_;obtain rfl:=foll hR (cf h2 (cf h4 rfl));exact Q10 lx sr
def Qm1 (s:Int):Int:=(Qc6 s)
theorem QR1 (s:Int):GV 146 [U s] (I (Qm1 s)):=by
 generalize hR:Qm1 s=R;refine ga (l1 .nil) lx (kp 3 []) Tryz.func146 ?_;refine us (Qfa s _) ?_;obtain rfl:=foll hR rfl;exact Q10 lx sr
theorem Qdc (s:Int):0<=Qm1 s∧Qm1 s<=127:=by
 have h:∀ a:BitVec 64,0<=w64 ((a &&& BitVec.ofInt 64 127).toNat:Int)∧w64 ((a &&& BitVec.ofInt 64 127).toNat:Int)<=127:=by
  intro a
  have:(a &&& BitVec.ofInt 64 127).toNat<=127:=by rw [BitVec.toNat_and];exact Nat.and_le_right
  have e:w64 ((a &&& BitVec.ofInt 64 127).toNat:Int)=((a &&& BitVec.ofInt 64 127).toNat:Int):=wr (by omega)
  rw [e]
  omega
 exact h _
def Qv2 (s:List Node) (f:Node->Bool):Bool:=(decide ((Q32 s f) >= 0))
def QE0 (s:List Int) (v:Int):Bool:=(decide ((Qk6 s v) >= 0))
theorem Qn1 (s:List Int) (v:Int) (hs0:s.length<=4294967296):GV 81 [ints s,I v] (Bo (QE0 s v)):=by
 generalize hR:QE0 s v=R;refine ga (.cons lw (l1 .nil)) lx (kp 5 []) Tryz.func81 ?_;have hk0:=hs0;obtain z1:s.length<=4294967296:=hs0;refine us (QYa s v szA _) ?_;obtain rfl:=foll hR rfl;exact Q10 lx sr
def QU7 (l:List Book):List Book->Nat->Int
 | [],_=>0
 | x_ :: r,i=>bif ((!(QFc x_))||((decide ((i:Int) > 0))&&(decide ((l.getD (Int.toNat (w64 ((i:Int) - 1))) Book.zero).id >= x_.id)))) then 190 else QU7 l r (i+1)
def Q89 (l:List Book):Int:=bif (decide ((l.length:Int) > 8)) then 190 else QU7 l l 0
theorem book_Check_c (l:List Book) (hs0:l.length<=4294967296):GV 97 [bookL l] (I (Q89 l)):=by
 generalize hR:Q89 l=R;refine ga (.cons lw .nil) lx (kp 5 [7,8,9,10,11,32]) Tryz.func97 ?_;have hk0:=hs0;obtain z7:l.length<=4294967296:=hs0;refine ai (fun h1=>?_) (fun h2=>?_)
 ·have qh1:=of_decide_eq_true h1;obtain rfl:=foll hR (ct h1 rfl);exact Q10 lx sr
 ·have qh2:=of_decide_eq_false h2;refine Qs0 (fun (i:Nat)=>QU7 l (List.drop i l) i=R∧i<=l.length) (fun i=>l.length - i) (fun i=>[(0,bookL l),(2,I 0),(8,bookL l),(9,I (l.length:Int)),(10,I (i:Int))]) (fun i=>[]) 0 (wk [] .nil (sl lw (s1 (sl lw (s1 (s1 .nil)))))) ⟨foll hR (cf h2 rfl),by exact omA⟩ ?_;clear hR;rintro i ⟨hR,hj⟩;(try dsimp only at hR hj);refine ai (fun h3=>?_) (fun h4=>?_)
  ·have hlt:=ltA h3;rw [Qi0 Book.zero hlt] at hR;refine ai gkA ?_;refine dchk (by kernel_rfl) ?_;(first|apply u2|apply u3|apply u4|apply us);exact QGc (l.getD i Book.zero) _;refine ai gkA ?_;(repeat ((first|refine ai rfl ?_|refine ai (fun _=>rfl) ?_|refine ai (fun _=>QGc (l.getD i Book.zero) _) ?_)));refine ai (fun h5=>?_) (fun h6=>?_)
   ·obtain rfl:=foll hR (ct h5 rfl);exact Q10 lx sr
   ·exact Qz0 (i+1) (wk [] .nil (sl lw (s1 (sl lw (s1 (sv (Qa0 (I_eq (wr omA)) lx) .nil)))))) omA ⟨foll hR (cf h6 rfl),by exact omA⟩
  ·rw [Ql0 (l:=l) (j:=i) (geA h4)] at hR;obtain rfl:=foll hR rfl;exact Q10 lx sr
def Qf1 (x_:ByteArray) (y:ByteArray):Int:=bif (QI3 x_) then bif (QI3 y) then 0 else (-1) else bif (QI3 y) then 1 else bif (Op.bytesLess (ByteArray.toList x_) (ByteArray.toList y)) then (-1) else bif (!((Op.bytesLess (ByteArray.toList x_) (ByteArray.toList y))||(ByteArray.toList x_==ByteArray.toList y))) then 1 else 0
theorem Qj3 (x_:ByteArray) (y:ByteArray):GV 214 [Sg x_,Sg y] (I (Qf1 x_ y)):=by
 generalize hR:Qf1 x_ y=R;refine ga (l1 (l1 .nil)) lx (kp 7 [11,12,13,16,19]) Tryz.func214 ?_;refine us (Q17 x_ _) ?_;refine us (Q17 y _) ?_;refine ai (fun h1=>?_) (fun h2=>?_)
 ·refine ai (fun h3=>?_) (fun h4=>?_)
  ·obtain rfl:=foll hR (ct h1 (ct h3 rfl));exact Q10 lx sr
  ·obtain rfl:=foll hR (ct h1 (cf h4 rfl));exact Q10 lx sr
 ·refine ai (fun h5=>?_) (fun h6=>?_)
  ·obtain rfl:=foll hR (cf h2 (ct h5 rfl));exact Q10 lx sr
  ·refine ai (fun h7=>?_) (fun h8=>?_)
   ·obtain rfl:=foll hR (cf h2 (cf h6 (ct h7 rfl)));exact Q10 lx sr
   ·refine ai (fun h9=>?_) (fun h10=>?_)
    ·obtain rfl:=foll hR (cf h2 (cf h6 (cf h8 (ct h9 rfl))));exact Q10 lx sr
    ·obtain rfl:=foll hR (cf h2 (cf h6 (cf h8 (cf h10 rfl))));exact Q10 lx sr
def Qf8 :List Int->Int->Nat->Int × Int
 | [],s,_=>(s,0)
 | x_ :: r,s,i=>bif (((decide (x_<0))||(decide (x_ >= 64)))||((wu64 (BitVec.ofInt 64 s &&& BitVec.ofInt 64 (Qd3 x_)).toNat)!=0)) then (0,90) else Qf8 r (wu64 (BitVec.ofInt 64 s ||| BitVec.ofInt 64 (Qd3 x_)).toNat) (i+1)
def QF4 (l:List Int):Int × Int:=Qf8 l 0 0
theorem Q77 (l:List Int) (hs0:l.length<=4294967296):GV 101 [ints l] (AVal.tup [U ((QF4 l).1),I ((QF4 l).2)]):=by
 generalize hR:QF4 l=R;refine ga (.cons lw .nil) (Low.tup' (l1 (l1 .nil))) (kp 7 [7,8,9,10,25]) Tryz.func101 ?_;have hk0:=hs0;obtain z5:l.length<=4294967296:=hs0;refine Qq0 (fun (s:Int) (i:Nat)=>Qf8 (List.drop i l) s i=R∧i<=l.length) (fun s i=>l.length - i) (fun s i=>[(2,U 0),(3,I 0),(4,U s),(7,ints l),(8,I (l.length:Int)),(9,I (i:Int))]) (fun s i=>[]) 0 0 (wk [] .nil (s1 (s1 (s1 (sl lw (s1 (s1 .nil))))))) ⟨foll hR rfl,by exact omA⟩ ?_;clear hR;rintro s i ⟨hR,hj⟩;(try dsimp only at hR hj);refine ai (fun h1=>?_) (fun h2=>?_)
 ·have hlt:=ltA h1;rw [Qi0 0 hlt] at hR;refine ai gkA ?_;(first|apply u2|apply u3|apply u4|apply us);exact Qr5 (l.getD i 0) _;refine ai (fun h3=>?_) (fun h4=>?_)
  ·obtain rfl:=foll hR (ct h3 rfl);exact Q10 (Low.tup' (l1 (l1 .nil))) (Seen.tup (e1 (e1 .nil)))
  ·refine us (Qr5 (l.getD i 0) _) ?_;exact Qd0 (wu64 (BitVec.ofInt 64 s ||| BitVec.ofInt 64 (Qd3 (l.getD i 0))).toNat) (i+1) (wk [] .nil (s1 (s1 (s1 (sl lw (s1 (sv (Qa0 (I_eq (wr omA)) lx) .nil))))))) omA ⟨foll hR (cf h4 rfl),by exact omA⟩
 ·rw [Ql0 (l:=l) (j:=i) (geA h2)] at hR;obtain rfl:=foll hR rfl;exact Q10 (Low.tup' (l1 (l1 .nil))) (Seen.tup (e1 (e1 .nil)))
def QS1 (s:Int):Nat->List Int->Nat->(List Int)
 | 0,_,_=>[]
 | m+1,out,i=>bif (decide ((i:Int)<64)) then bif ((wu64 (BitVec.ofInt 64 s &&& BitVec.ofInt 64 (Qd3 (i:Int))).toNat)!=0) then QS1 s m (out++([(i:Int)]:List Int)) (i+1) else QS1 s m out (i+1) else out
def Qt3 (out:List Int):(List Int):=out
def QG0 (s:Int):(List Int):=Qt3 (QS1 s ((Int.toNat (64 - (0:Int)))+1) [] 0)
theorem QF9 (s:Int):GV 176 [U s] (ints (QG0 s)):=by
 generalize hR:QG0 s=R;refine ga (l1 .nil) lw (kp 5 [5,6,12]) Tryz.func176 ?_;refine Qq0 (fun (out:List Int) (i:Nat)=>∃ m,(Int.toNat (64 - (i:Int)))<m∧Qt3 (QS1 s m out i)=R∧out.length<=i) (fun out i=>(Int.toNat (64 - (i:Int)))) (fun out i=>[(0,U s),(2,AVal.lit (.slice none 0 0)),(3,AVal.own 0 0 1 0 out.length),(5,I (i:Int))]) (fun out i=>[(0,AObj.row 3 1 (out.map (fun q_=>[I q_])))]) [] 0 ((Qo1 3 1).trans (wk [0] (tO rfl (tl eqA) .nil) (s1 (s1 (sv (Q51 0 rfl) (s1 .nil)))))) ⟨_,Nat.lt_succ_self _,foll hR rfl,by exact exA⟩ ?_;clear hR;rintro out i ⟨m,hm,hR,hx⟩;(try dsimp only at hR hm hx);obtain ⟨m,rfl⟩:=sucA m;refine ai (fun h1=>?_) (fun h2=>?_)
 ·have qh1:=of_decide_eq_true h1;refine us (Qr5 (i:Int) _) ?_;refine ai (fun h3=>?_) (fun h4=>?_)
  ·refine Or.inl ?_;(first|refine ⟨Qp1 8 rfl lnA apA,?_⟩|refine ⟨QN0 8 rfl apA,?_⟩);exact Qd0 (out++([(i:Int)]:List Int)) (i+1) (wk [0] (tO rfl (tl eqA) .nil) (s1 (s1 (sv (to 0 lnA) (sv (Qa0 (I_eq (wr omA)) lx) .nil))))) omA ⟨m,by exact omA,foll hR (congrArg (fun p:(List Int)=>Qt3 p) (ct h1 (ct h3 rfl))),by exact exA⟩
  ·exact Qd0 out (i+1) (wk [0] (tO rfl (tl eqA) .nil) (s1 (s1 (sv (to 0 lnA) (sv (Qa0 (I_eq (wr omA)) lx) .nil))))) omA ⟨m,by exact omA,foll hR (congrArg (fun p:(List Int)=>Qt3 p) (ct h1 (cf h4 rfl))),by exact exA⟩
 ·have qh2:=of_decide_eq_false h2;replace hR:Qt3 out=R:=fo2 (fun p:(List Int)=>Qt3 p) (out) hR (cf h2 rfl);obtain rfl:=foll hR rfl;exact Q10 lw (Qn0 0 _ rfl eqA lnA)
theorem QH5 (s:Int):∀ (m:Nat) (out:List Int) (i:Nat),(∀ x ∈ out,0<=x∧x<64) -> ∀ x ∈ QS1 s m out i,0<=x∧x<64
 | 0,_,_,_,x,hx=>by simp [QS1] at hx
 | m+1,out,i,h,x,hx=>by
  rw [QS1] at hx
  cases hd:decide ((i:Int)<64) with
  | false=>rw [hd] at hx;exact h x hx
  | true =>
   rw [hd] at hx
   have hi:=of_decide_eq_true hd
   simp only [cond_true] at hx
   cases hb:((wu64 (BitVec.ofInt 64 s &&& BitVec.ofInt 64 (Qd3 (i:Int))).toNat)!=0) with
   | false=>rw [hb] at hx;exact QH5 s m out (i+1) h x hx
   | true =>
    rw [hb] at hx
    refine QH5 s m _ (i+1) (fun y hy=>?_) x hx
    rcases List.mem_append.1 hy with hy|hy
    ·exact h y hy
    ·rw [List.mem_singleton.1 hy];omega
theorem Qfc (s:Int):∀ x ∈ QG0 s,0<=x∧x<64:=QH5 s _ _ _ (fun x hx=>nomatch hx)
theorem Qec (s:Int) {i:Nat} (h:i<(QG0 s).length):0<=(QG0 s).getD i 0∧(QG0 s).getD i 0<64:=by
 have e:(QG0 s).getD i 0=(QG0 s)[i]:=by simp [List.getD,List.getElem?_eq_getElem h]
 rw [e]
 exact Qfc s _ (List.getElem_mem h)
theorem QG5 (s:Int):∀ (m:Nat) (out:List Int) (i:Nat),out.length<=i->i<=64->(QS1 s m out i).length<=64
 | 0,_,_,_,_=>by simp [QS1]
 | m+1,out,i,h,h64=>by
  rw [QS1]
  cases hd:decide ((i:Int)<64) with
  | false=>simp only [cond_false];omega
  | true =>
   have hi:=of_decide_eq_true hd
   simp only [cond_true]
   cases ((wu64 (BitVec.ofInt 64 s &&& BitVec.ofInt 64 (Qd3 (i:Int))).toNat)!=0) with
   | false=>exact QG5 s m out (i+1) (by omega) (by omega)
   | true=>exact QG5 s m _ (i+1) (by simp;omega) (by omega)
theorem Qf6 (s:Int):(QG0 s).length<=64:=QG5 s _ _ _ (by simp) (by omega)
def Qe8 (s:Int) (n:Int):Bool:=(((decide (n >= 0))&&(decide (n<64)))&&((wu64 (BitVec.ofInt 64 s &&& BitVec.ofInt 64 (Qd3 n)).toNat)!=0))
theorem QNa (s:Int) (n:Int):GV 21 [U s,I n] (Bo (Qe8 s n)):=by
 generalize hR:Qe8 s n=R;refine ga (l1 (l1 .nil)) lx (kp 5 []) Tryz.func21 ?_;(first|apply u2|apply u3|apply u4|apply us);exact Qr5 n _;obtain rfl:=foll hR rfl;exact Q10 lx sr
def Qm0 (l:List Job) (id_:Int):Int × Bool:=((QR0 l id_ (fun (y:Job) (y1:Int)=>(w64 (y.id - y1)))).1,(QR0 l id_ (fun (y:Job) (y1:Int)=>(w64 (y.id - y1)))).2)
theorem b1a0 {P:Prop} (h:P:=by first|(dsimp only;rw [hh3];omega)|first|(dsimp only;rw [hh];omega)|exact exA):P:=h
theorem Q3b (l:List Job) (id_:Int) (hs0:l.length<=4294967296∧(∀ y ∈ l,y.sz)):GV 63 [jobL l,I id_] (AVal.tup [I ((Qm0 l id_).1),Bo ((Qm0 l id_).2)]):=by
 generalize hR:Qm0 l id_=R;refine ga (.cons lw (l1 .nil)) (Low.tup' (l1 (l1 .nil))) (kp 6 []) Tryz.func63 ?_;obtain ⟨z10,z11⟩:=id hs0;have cl1:∀ (y1:Job) (y2:Int) (hzy1:y1.sz),AMoves Tryz.prog 118 [Job.a y1,I y2] [] 0 (I ((fun (y:Job) (y1:Int)=>(w64 (y.id - y1))) y1 y2)) []:=by
  intro y1 y2 hzy1;have hky1:=hzy1;obtain ⟨z1,z2,z3,z4,z5⟩:=Job.zz hzy1;have hR:(fun (y:Job) (y1:Int)=>(w64 (y.id - y1))) y1 y2=(fun (y:Job) (y1:Int)=>(w64 (y.id - y1))) y1 y2:=rfl;refine mo (kp 5 []) Tryz.func118 ?_;refine Qp0 (fun r:Int=>I r) (fun _=>[]) (leaf:=(w64 (y1.id - y2))) (foll hR rfl) ?_;exact tt [] .nil t1
 have hof1:AMoves Tryz.prog 117 [jobL l,I id_,AVal.fn (.func 118) [] []] [] 0 (AVal.tup [I ((QR0 l id_ (fun (y:Job) (y1:Int)=>(w64 (y.id - y1)))).1),Bo ((QR0 l id_ (fun (y:Job) (y1:Int)=>(w64 (y.id - y1)))).2)]) []:=by
  have hR:QR0 l id_ (fun (y:Job) (y1:Int)=>(w64 (y.id - y1)))=QR0 l id_ (fun (y:Job) (y1:Int)=>(w64 (y.id - y1))):=rfl;refine mo (kp 12 [17,31]) Tryz.func117 ?_;refine Qq0 (fun (i:Int) (j:Int)=>∃ m,(Int.toNat (j - i))<m∧Q41 l id_ (fun (y:Job) (y1:Int)=>(w64 (y.id - y1))) (Qx0 l id_ (fun (y:Job) (y1:Int)=>(w64 (y.id - y1))) m i j).1 (Qx0 l id_ (fun (y:Job) (y1:Int)=>(w64 (y.id - y1))) m i j).2=QR0 l id_ (fun (y:Job) (y1:Int)=>(w64 (y.id - y1)))∧0<=i∧i<=j∧j<=(l.length:Int)) (fun i j=>(Int.toNat (j - i))) (fun i j=>[(0,jobL l),(1,I id_),(2,AVal.fn (.func 118) [] []),(6,I 0),(7,Bo false),(8,I (l.length:Int)),(9,I i),(10,I j)]) (fun i j=>[]) 0 (l.length:Int) (wk [] .nil (sl lw (s1 (sv (Q20 (Low.fn _ _ _ LowL.nil LowL.nil)) (s1 (s1 (s1 (s1 (s1 .nil))))))))) ⟨_,Nat.lt_succ_self _,foll hR rfl,b1a0⟩ ?_;clear hR;rintro i j ⟨m,hm,hR,hx⟩;(try dsimp only at hR hm hx);obtain ⟨m,rfl⟩:=sucA m;refine ai (fun h6=>?_) (fun h7=>?_)
  ·have qh6:=of_decide_eq_true h6;(have hq0:i<j:=qh6;have hh:w64 (Int.fdiv (wu64 (w64 (i+j))) (2 ^ (min (Int.toNat 1) 64)))=(i+j) / 2:=QY9 hx.1 hq0 hx.2.2 (by omega);have hh3:w64 (w64 (Int.fdiv (wu64 (w64 (i+j))) (2 ^ (min (Int.toNat 1) 64)))+1)=(i+j) / 2+1:=by rw [hh];exact wr (by omega));refine And.intro (by first|exact fun hg=>decide_eq_true (by first|(show 0<=w64 (Int.fdiv (wu64 (w64 (i+j))) (2 ^ (min (Int.toNat 1) 64)))∧w64 (Int.fdiv (wu64 (w64 (i+j))) (2 ^ (min (Int.toNat 1) 64)))<(l.length:Int);rw [hh];omega)|exact ckA)|exact gkA) ?_;refine And.intro (by first|exact fun hg=>decide_eq_true (by first|(show 0<=w64 (Int.fdiv (wu64 (w64 (i+j))) (2 ^ (min (Int.toNat 1) 64)))∧w64 (Int.fdiv (wu64 (w64 (i+j))) (2 ^ (min (Int.toNat 1) 64)))<(l.length:Int);rw [hh];omega)|exact ckA)|exact gkA) ?_;refine us (mv [] (cl1 (l.getD (Int.toNat (w64 (Int.fdiv (wu64 (w64 (i+j))) (2 ^ (min (Int.toNat 1) 64))))) Job.zero) id_ szA) .nil (dl (Job.low _ _) (d1 .nil)) .nil rx) ?_;refine ai (fun h8=>?_) (fun h9=>?_)
   ·have qh8:=of_decide_eq_true h8;exact Qd0 (w64 ((w64 (Int.fdiv (wu64 (w64 (i+j))) (2 ^ (min (Int.toNat 1) 64))))+1)) j (wk [] .nil (sl lw (s1 (sv (Q20 (Low.fn _ _ _ LowL.nil LowL.nil)) (s1 (s1 (s1 (s1 (s1 .nil))))))))) (by first|(dsimp only;rw [hh3];omega)|first|(dsimp only;rw [hh];omega)|exact omA) ⟨m,by first|(dsimp only;rw [hh3];omega)|first|(dsimp only;rw [hh];omega)|exact omA,foll hR (congrArg (fun p:Int × Int=>Q41 l id_ (fun (y:Job) (y1:Int)=>(w64 (y.id - y1))) p.1 p.2) (ct h6 (ct h8 rfl))),b1a0⟩
   ·have qh9:=of_decide_eq_false h9;exact Qd0 i (w64 (Int.fdiv (wu64 (w64 (i+j))) (2 ^ (min (Int.toNat 1) 64)))) (wk [] .nil (sl lw (s1 (sv (Q20 (Low.fn _ _ _ LowL.nil LowL.nil)) (s1 (s1 (s1 (s1 (s1 .nil))))))))) (by first|(dsimp only;rw [hh3];omega)|first|(dsimp only;rw [hh];omega)|exact omA) ⟨m,by first|(dsimp only;rw [hh3];omega)|first|(dsimp only;rw [hh];omega)|exact omA,foll hR (congrArg (fun p:Int × Int=>Q41 l id_ (fun (y:Job) (y1:Int)=>(w64 (y.id - y1))) p.1 p.2) (ct h6 (cf h9 rfl))),b1a0⟩
  ·have qh7:=of_decide_eq_false h7;replace hR:Q41 l id_ (fun (y:Job) (y1:Int)=>(w64 (y.id - y1))) i j=QR0 l id_ (fun (y:Job) (y1:Int)=>(w64 (y.id - y1))):=fo2 (fun p:Int × Int=>Q41 l id_ (fun (y:Job) (y1:Int)=>(w64 (y.id - y1))) p.1 p.2) (i,j) hR (cf h7 rfl);refine And.intro (by first|exact fun hg=>decide_eq_true (by first|(show 0<=w64 (Int.fdiv (wu64 (w64 (i+j))) (2 ^ (min (Int.toNat 1) 64)))∧w64 (Int.fdiv (wu64 (w64 (i+j))) (2 ^ (min (Int.toNat 1) 64)))<(l.length:Int);rw [hh];omega)|exact ckA)|exact gkA) ?_;(first|apply u2|apply u3|apply u4|apply us);exact mv [] (cl1 (l.getD (Int.toNat i) Job.zero) id_ szA) .nil (dl (Job.low _ _) (d1 .nil)) .nil rx;refine Qp0 (fun r:Int × Bool=>AVal.tup [I r.1,Bo r.2]) (fun r:Int × Bool=>[]) (leaf:=(i,((decide (i<(l.length:Int)))&&(((fun (y:Job) (y1:Int)=>(w64 (y.id - y1))) (l.getD (Int.toNat i) Job.zero) id_)==0)))) (foll hR rfl) ?_;exact tt [] .nil (turn_tup (c1 (c1 .nil)))
 refine us (mv [] (hof1) .nil (dl lw (d1 (dv (QK3 (Low.fn _ _ _ LowL.nil LowL.nil)) .nil))) .nil (Ren.low _ (Low.tup' (l1 (l1 .nil))))) ?_;obtain rfl:=foll hR rfl;exact Q10 (Low.tup' (l1 (l1 .nil))) (Seen.tup (e1 (e1 .nil)))
theorem bs_ge (x_:List Job) (target:Int) (cmp:Job->Int->Int) (hn:x_.length<=4294967296):∀ (m:Nat) (i j:Int),0<=i->i<=j->j<=(x_.length:Int)->0<=(Qx0 x_ target cmp m i j).1
 | 0,_,_,_,_,_=>by simp [Qx0]
 | m+1,i,j,h0,h1,h2=>by
  rw [Qx0]
  cases hd:decide (i<j) with
  | false=>exact h0
  | true =>
   have hlt:=of_decide_eq_true hd
   rw [QY9 h0 hlt h2 (by omega)]
   simp only [cond_true]
   cases decide (cmp (x_.getD (Int.toNat ((i+j) / 2)) Job.zero) target<0) with
   | true =>
    have hw:w64 ((i+j) / 2+1)=(i+j) / 2+1:=wr (by omega)
    simp only [cond_true]
    rw [hw]
    exact bs_ge x_ target cmp hn m _ _ (by omega) (by omega) h2
   | false=>exact bs_ge x_ target cmp hn m _ _ h0 (by omega) (by omega)
theorem Qi3 (l:List Job) (id_:Int) (hn:l.length<=4294967296) (h:(!(Qm0 l id_).2)=false):0<=(Qm0 l id_).1∧(Qm0 l id_).1<(l.length:Int):=by
 simp only [Qm0,QR0,Q41,Bool.not_eq_false',Bool.and_eq_true,decide_eq_true_eq] at h
 exact ⟨bs_ge _ _ _ hn _ _ _ (by omega) (by omega) (by omega),h.1⟩
def table_whole (l:List Job):(List Job):=l
theorem Q4b (l:List Job) (hs0:l.length<=4294967296∧(∀ y ∈ l,y.sz)):AMoves Tryz.prog 64 [jobL l] [] 0 (AVal.own 0 0 20 0 l.length) [(0,AObj.row 52 20 (l.map Job.cells))]:=by
 generalize hR:table_whole l=R;refine mo (kp 5 [8,9,10]) Tryz.func64 ?_;obtain ⟨z8,z9⟩:=id hs0;refine us (mv [] (Qo7 l szA) .nil (dl lw .nil) (rO rr .nil) (rw_ 0 0 rfl)) ?_;refine Qs0 (fun (i:Nat)=>True∧i<=l.length) (fun i=>l.length - i) (fun i=>[(2,AVal.lit (.slice none 0 0)),(3,AVal.own 0 0 20 0 l.length),(8,I (l.length:Int)),(9,I (i:Int))]) (fun i=>[(0,AObj.row 52 20 (l.map Job.cells))]) 0 (wk [0] (tO rfl (tl eqA) .nil) (s1 (sv (to 0 lnA) (s1 (s1 .nil))))) ⟨trivial,by exact omA⟩ ?_;have hR0:=hR;rintro i ⟨hR,hj⟩;(try dsimp only at hR hj);refine ai (fun h1=>?_) (fun h2=>?_)
 ·have hlt:=ltA h1;have hxz:(l.getD i Job.zero).sz:=Qw1 (by first|assumption|grind) (Job.szz _);have hkz:=hxz;obtain ⟨z3,z4,z5,z6,z7⟩:=Job.zz hxz;refine ai gkA ?_;refine ⟨_,QA0 rfl rfl rfl (QC0 Job.zero i (by first|rfl|exact Nat.zero_add _|omega) ckA) rfl,?_⟩;refine us (Q1b ((l.getD i Job.zero).shape.alts) szA _) ?_;refine ai gkA ?_;refine ⟨_,Q01 rfl rfl rfl rfl (QC0 Job.zero i (by first|rfl|exact Nat.zero_add _|omega) ckA) rfl rfl (Qd2 Job.zero i (by first|rfl|exact Nat.zero_add _|omega) ckA rfl),?_⟩;refine ai gkA ?_;refine ⟨_,QA0 rfl rfl rfl (QC0 Job.zero i (by first|rfl|exact Nat.zero_add _|omega) ckA) rfl,?_⟩;refine us (Q2b ((l.getD i Job.zero).after) szA _) ?_;refine ai gkA ?_;refine ⟨_,Q01 rfl rfl rfl rfl (QC0 Job.zero i (by first|rfl|exact Nat.zero_add _|omega) ckA) rfl rfl (Qd2 Job.zero i (by first|rfl|exact Nat.zero_add _|omega) ckA rfl),?_⟩;exact Qz0 (i+1) (wk [0] (tO rfl (tl eqA) .nil) (s1 (sv (to 0 lnA) (s1 (sv (Qa0 (I_eq (wr omA)) lx) .nil))))) omA ⟨hR,by exact omA⟩
 ·skip;have hR:=hR0;obtain rfl:=foll hR rfl;exact rq (tt [0] (tO rfl (tl eqA) .nil) (to 0 lnA))
def Qub (end_:Int):List Int->Int->Nat->Int × Bool
 | [],left,_=>((w64 (end_ - left)),true)
 | x_ :: r,left,i=>bif (decide ((Q24 x_ 0 end_) > left)) then (end_,false) else Qub end_ r (w64 (left - (Q24 x_ 0 end_))) (i+1)
def QDd (end_:Int) (l:List Int):Int × Bool:=Qub end_ l end_ 0
theorem sat_sum_c (end_:Int) (l:List Int) (hs0:l.length<=4294967296):GV 206 [I end_,ints l] (AVal.tup [I ((QDd end_ l).1),Bo ((QDd end_ l).2)]):=by
 generalize hR:QDd end_ l=R;refine ga (l1 (.cons lw .nil)) (Low.tup' (l1 (l1 .nil))) (kp 9 [10,11,12,13,21]) Tryz.func206 ?_;have hk0:=hs0;obtain z5:l.length<=4294967296:=hs0;refine Qq0 (fun (left:Int) (i:Nat)=>Qub end_ (List.drop i l) left i=R∧i<=l.length) (fun left i=>l.length - i) (fun left i=>[(0,I end_),(4,I 0),(5,Bo false),(6,I left),(10,ints l),(11,I (l.length:Int)),(12,I (i:Int))]) (fun left i=>[]) end_ 0 (wk [] .nil (s1 (s1 (s1 (s1 (sl lw (s1 (s1 .nil)))))))) ⟨foll hR rfl,by exact omA⟩ ?_;clear hR;rintro left i ⟨hR,hj⟩;(try dsimp only at hR hj);refine ai (fun h1=>?_) (fun h2=>?_)
 ·have hlt:=ltA h1;rw [Qi0 0 hlt] at hR;refine ai gkA ?_;refine us (QA8 (l.getD i 0) 0 end_ _) ?_;refine ai (fun h3=>?_) (fun h4=>?_)
  ·have qh3:=of_decide_eq_true h3;obtain rfl:=foll hR (ct h3 rfl);exact Q10 (Low.tup' (l1 (l1 .nil))) (Seen.tup (e1 (e1 .nil)))
  ·have qh4:=of_decide_eq_false h4;exact Qd0 (w64 (left - (Q24 (l.getD i 0) 0 end_))) (i+1) (wk [] .nil (s1 (s1 (s1 (s1 (sl lw (s1 (sv (Qa0 (I_eq (wr omA)) lx) .nil)))))))) omA ⟨foll hR (cf h4 rfl),by exact omA⟩
 ·rw [Ql0 (l:=l) (j:=i) (geA h2)] at hR;obtain rfl:=foll hR rfl;exact Q10 (Low.tup' (l1 (l1 .nil))) (Seen.tup (e1 (e1 .nil)))
def Qj5 (s:List (Int × Int)):List Dep->Nat->Bool
 | [],_=>true
 | x_ :: r,i=>bif ((Qb4 s x_)!=1) then false else Qj5 s r (i+1)
def QL6 (s:List (Int × Int)) (j:Job):Bool:=Qj5 s j.after 0
theorem Qib (s:List (Int × Int)) (j:Job) (hs0:j.sz):AMoves Tryz.prog 174 [AVal.map 0,Job.a j] [(0,AObj.other (.map (mapEs ik I 0 s) s.length))] 1 (Bo (QL6 s j)) [(0,AObj.other (.map (mapEs ik I 0 s) s.length))]:=by
 generalize hR:QL6 s j=R;refine mo (kp 7 [8,9,10,11,17]) Tryz.func174 ?_;obtain ⟨z5,z6,z7,z8,z9⟩:=Job.zz hs0;refine Qs0 (fun (i:Nat)=>Qj5 s (List.drop i j.after) i=R∧i<=j.after.length) (fun i=>j.after.length - i) (fun i=>[(0,AVal.map 0),(4,Bo false),(8,depL j.after),(9,I (j.after.length:Int)),(10,I (i:Int))]) (fun i=>[(0,AObj.other (.map (mapEs ik I 0 s) s.length))]) 0 (wk [0] (tO rfl (Qb0 _ rfl rfl (fun _=>lx)) .nil) (sv (QK0 0 rfl rfl) (s1 (sl lw (s1 (s1 .nil)))))) ⟨foll hR rfl,by exact omA⟩ ?_;clear hR;rintro i ⟨hR,hj⟩;(try dsimp only at hR hj);refine ai (fun h1=>?_) (fun h2=>?_)
 ·have hlt:=ltA h1;rw [Qi0 Dep.zero hlt] at hR;refine ai gkA ?_;refine us (mv [0] (Qn6 s (j.after.getD i Dep.zero)) (dO (.same _ (QR2 fun _=>lx)) .nil) (dv (Qx9 (Ren.map _ _ rfl)) (dv (QK3 (Low.agg' (Dep.lo))) .nil)) (rO (RenO.same _ (QR2 fun _=>lx)) .nil) rx) ?_;refine ai (fun h3=>?_) (fun h4=>?_)
  ·obtain rfl:=foll hR (ct h3 rfl);exact rq (tt [0] (tO rfl (Qb0 _ rfl rfl (fun _=>lx)) .nil) t1)
  ·exact Qz0 (i+1) (wk [0] (tO rfl (Qb0 _ rfl rfl (fun _=>lx)) .nil) (sv (QK0 0 rfl rfl) (s1 (sl lw (s1 (sv (Qa0 (I_eq (wr omA)) lx) .nil)))))) omA ⟨foll hR (cf h4 rfl),by exact omA⟩
 ·rw [Ql0 (l:=j.after) (j:=i) (geA h2)] at hR;obtain rfl:=foll hR rfl;exact rq (tt [0] (tO rfl (Qb0 _ rfl rfl (fun _=>lx)) .nil) t1)
def state_Copy (s:State):State:=s
theorem state_Copy_c (s:State) (hs0:s.sz):GV 29 [State.a s] (State.a s):=by
 generalize hR:state_Copy s=R;refine ga (.cons (State.low _ _) .nil) (State.low _ _) (kp 4 [26,27,28]) Tryz.func29 ?_;have hk0:=hs0;obtain ⟨z8,z9,z10,z11,z12,z13,z14⟩:=hs0;refine dchk (by kernel_rfl) ?_;(first|apply u2|apply u3|apply u4|apply us);exact mv [] (QX6 s.nodes szA) .nil (dl lw .nil) (rO rr .nil) (rw_ 2 0 rfl);(first|apply u2|apply u3|apply u4|apply us);exact mv [] (Qj7 s.jobs szA) .nil (dl lw .nil) (rO rr .nil) (rw_ 3 0 rfl);(first|apply u2|apply u3|apply u4|apply us);exact mv [] (Qa6 s.resizes szA) .nil (dl lw .nil) (rO rr .nil) (rw_ 4 0 rfl);(first|apply u2|apply u3|apply u4|apply us);exact mv [] (QW6 s.books szA) .nil (dl lw .nil) (rO rr .nil) (rw_ 5 0 rfl);(first|apply u2|apply u3|apply u4|apply us);exact mv [] (Qq6 s.ledger szA) .nil (dl lw .nil) (rO rr .nil) (rw_ 6 0 rfl);(repeat ((first|refine ai rfl ?_|refine ai (fun _=>rfl) ?_)));refine Qs0 (fun (i:Nat)=>True∧i<=s.jobs.length) (fun i=>s.jobs.length - i) (fun i=>[(1,AVal.ptr 0 0 8 0 0),(2,AVal.ptr 1 0 8 0 0),(26,I (s.jobs.length:Int)),(27,I (i:Int))]) (fun i=>[(0,AObj.row 28 8 [[I s.now,AVal.own 2 0 7 0 s.nodes.length,AVal.own 3 0 20 0 s.jobs.length,AVal.own 4 0 5 0 s.resizes.length,AVal.own 5 0 4 0 s.books.length,AVal.own 6 0 4 0 s.ledger.length,I s.nextJob,I s.nextBook]]),(0,AObj.row 28 8 [[I 0,AVal.lit (.slice none 0 0),AVal.lit (.slice none 0 0),AVal.lit (.slice none 0 0),AVal.lit (.slice none 0 0),AVal.lit (.slice none 0 0),I 0,I 0]]),(0,AObj.row 44 7 (s.nodes.map Node.cells)),(0,AObj.row 52 20 (s.jobs.map Job.cells)),(0,AObj.row 126 5 (s.resizes.map Resize.cells)),(0,AObj.row 83 4 (s.books.map Book.cells)),(0,AObj.row 120 4 (s.ledger.map Usage.cells))]) 0 (wk [0,1,2,3,4,5,6] (tO rfl (Q90 (c1 (cv (to 2 lnA) (cv (to 3 lnA) (cv (to 4 lnA) (cv (to 5 lnA) (cv (to 6 lnA) (c1 (c1 .nil))))))))) (tO rfl (ts (l1 (l1 (l1 (l1 (l1 (l1 (l1 (l1 LowL.nil))))))))) (tO rfl (tl eqA) (tO rfl (tl eqA) (tO rfl (tl eqA) (tO rfl (tl eqA) (tO rfl (tl eqA) .nil))))))) (sv (Q00 0 rfl rfl) (sv (Q00 1 rfl rfl) (s1 (s1 .nil))))) ⟨trivial,by exact omA⟩ ?_;have hR0:=hR;rintro i ⟨hR,hj⟩;(try dsimp only at hR hj);refine ai (fun h1=>?_) (fun h2=>?_)
 ·have hlt:=ltA h1;have hxz:(s.jobs.getD i Job.zero).sz:=Qw1 (by first|assumption|grind) (Job.szz _);have hkz:=hxz;obtain ⟨z3,z4,z5,z6,z7⟩:=Job.zz hxz;refine dchk (by kernel_rfl) ?_;refine ai gkA ?_;refine ⟨_,QA0 rfl rfl rfl (QC0 Job.zero i (by first|rfl|exact Nat.zero_add _|omega) ckA) rfl,?_⟩;(first|apply u2|apply u3|apply u4|apply us);exact Qf4 ((s.jobs.getD i Job.zero).shape.alts) szA _;refine ai gkA ?_;refine ⟨_,QA0 rfl rfl rfl (QC0 Job.zero i (by first|rfl|exact Nat.zero_add _|omega) ckA) rfl,?_⟩;(first|apply u2|apply u3|apply u4|apply us);exact Qg4 ((s.jobs.getD i Job.zero).after) szA _;refine ai gkA ?_;refine ⟨_,Q01 rfl rfl rfl rfl (QC0 Job.zero i (by first|rfl|exact Nat.zero_add _|omega) ckA) rfl rfl (Qd2 Job.zero i (by first|rfl|exact Nat.zero_add _|omega) ckA rfl),?_⟩;refine ai gkA ?_;refine ⟨_,Q01 rfl rfl rfl rfl (QC0 Job.zero i (by first|rfl|exact Nat.zero_add _|omega) ckA) rfl rfl (Qd2 Job.zero i (by first|rfl|exact Nat.zero_add _|omega) ckA rfl),?_⟩;(repeat ((first|refine ai rfl ?_|refine ai (fun _=>rfl) ?_|refine And.intro (QA0 rfl rfl rfl (QC0 Job.zero i (by first|rfl|exact Nat.zero_add _|omega) ckA) rfl) ?_|refine ai (fun _=>Qf4 ((s.jobs.getD i Job.zero).shape.alts) szA _) ?_|refine And.intro (QA0 rfl rfl rfl (QC0 Job.zero i (by first|rfl|exact Nat.zero_add _|omega) ckA) rfl) ?_|refine ai (fun _=>Qg4 ((s.jobs.getD i Job.zero).after) szA _) ?_)));exact Qz0 (i+1) (wk [0,1,2,3,4,5,6] (tO rfl (Q90 (c1 (cv (to 2 lnA) (cv (to 3 lnA) (cv (to 4 lnA) (cv (to 5 lnA) (cv (to 6 lnA) (c1 (c1 .nil))))))))) (tO rfl (ts (l1 (l1 (l1 (l1 (l1 (l1 (l1 (l1 LowL.nil))))))))) (tO rfl (tl eqA) (tO rfl (tl eqA) (tO rfl (tl eqA) (tO rfl (tl eqA) (tO rfl (tl eqA) .nil))))))) (sv (Q00 0 rfl rfl) (sv (Q00 1 rfl rfl) (s1 (sv (Qa0 (I_eq (wr omA)) lx) .nil))))) omA ⟨hR,by exact omA⟩
 ·skip;have hR:=hR0;obtain rfl:=foll hR rfl;exact Q10 (State.low _ _) (Seen.agg (e1 (ev (Qn0 Node.zero _ rfl eqA lnA) (ev (Qn0 Job.zero _ rfl eqA lnA) (ev (Qn0 Resize.zero _ rfl eqA lnA) (ev (Qn0 Book.zero _ rfl eqA lnA) (ev (Qn0 Usage.zero _ rfl eqA lnA) (e1 (e1 .nil)))))))))
theorem Q39 (s:State) (hs0:s.sz):AMoves Tryz.prog 29 [State.a s] [] 0 (AVal.agg [I s.now,nodeL s.nodes,jobL s.jobs,AVal.own 0 0 5 0 s.resizes.length,bookL s.books,Qt1 s.ledger,I s.nextJob,I s.nextBook]) [(0,AObj.row 126 5 (s.resizes.map Resize.cells))]:=by
 generalize hR:state_Copy s=R;refine mo (kp 4 [26,27,28]) Tryz.func29 ?_;have hk0:=hs0;obtain ⟨z8,z9,z10,z11,z12,z13,z14⟩:=hs0;refine dchk (by kernel_rfl) ?_;(first|apply u2|apply u3|apply u4|apply us);exact mv [] (QX6 s.nodes szA) .nil (dl lw .nil) (rO rr .nil) (rw_ 2 0 rfl);(first|apply u2|apply u3|apply u4|apply us);exact mv [] (Qj7 s.jobs szA) .nil (dl lw .nil) (rO rr .nil) (rw_ 3 0 rfl);(first|apply u2|apply u3|apply u4|apply us);exact mv [] (Qa6 s.resizes szA) .nil (dl lw .nil) (rO rr .nil) (rw_ 4 0 rfl);(first|apply u2|apply u3|apply u4|apply us);exact mv [] (QW6 s.books szA) .nil (dl lw .nil) (rO rr .nil) (rw_ 5 0 rfl);(first|apply u2|apply u3|apply u4|apply us);exact mv [] (Qq6 s.ledger szA) .nil (dl lw .nil) (rO rr .nil) (rw_ 6 0 rfl);(repeat ((first|refine ai rfl ?_|refine ai (fun _=>rfl) ?_)));refine Qs0 (fun (i:Nat)=>True∧i<=s.jobs.length) (fun i=>s.jobs.length - i) (fun i=>[(1,AVal.ptr 0 0 8 0 0),(2,AVal.ptr 1 0 8 0 0),(26,I (s.jobs.length:Int)),(27,I (i:Int))]) (fun i=>[(0,AObj.row 28 8 [[I s.now,AVal.own 2 0 7 0 s.nodes.length,AVal.own 3 0 20 0 s.jobs.length,AVal.own 4 0 5 0 s.resizes.length,AVal.own 5 0 4 0 s.books.length,AVal.own 6 0 4 0 s.ledger.length,I s.nextJob,I s.nextBook]]),(0,AObj.row 28 8 [[I 0,AVal.lit (.slice none 0 0),AVal.lit (.slice none 0 0),AVal.lit (.slice none 0 0),AVal.lit (.slice none 0 0),AVal.lit (.slice none 0 0),I 0,I 0]]),(0,AObj.row 44 7 (s.nodes.map Node.cells)),(0,AObj.row 52 20 (s.jobs.map Job.cells)),(0,AObj.row 126 5 (s.resizes.map Resize.cells)),(0,AObj.row 83 4 (s.books.map Book.cells)),(0,AObj.row 120 4 (s.ledger.map Usage.cells))]) 0 (wk [0,1,2,3,4,5,6] (tO rfl (Q90 (c1 (cv (to 2 lnA) (cv (to 3 lnA) (cv (to 4 lnA) (cv (to 5 lnA) (cv (to 6 lnA) (c1 (c1 .nil))))))))) (tO rfl (ts (l1 (l1 (l1 (l1 (l1 (l1 (l1 (l1 LowL.nil))))))))) (tO rfl (tl eqA) (tO rfl (tl eqA) (tO rfl (tl eqA) (tO rfl (tl eqA) (tO rfl (tl eqA) .nil))))))) (sv (Q00 0 rfl rfl) (sv (Q00 1 rfl rfl) (s1 (s1 .nil))))) ⟨trivial,by exact omA⟩ ?_;have hR0:=hR;rintro i ⟨hR,hj⟩;(try dsimp only at hR hj);refine ai (fun h1=>?_) (fun h2=>?_)
 ·have hlt:=ltA h1;have hxz:(s.jobs.getD i Job.zero).sz:=Qw1 (by first|assumption|grind) (Job.szz _);have hkz:=hxz;obtain ⟨z3,z4,z5,z6,z7⟩:=Job.zz hxz;refine dchk (by kernel_rfl) ?_;refine ai gkA ?_;refine ⟨_,QA0 rfl rfl rfl (QC0 Job.zero i (by first|rfl|exact Nat.zero_add _|omega) ckA) rfl,?_⟩;(first|apply u2|apply u3|apply u4|apply us);exact Qf4 ((s.jobs.getD i Job.zero).shape.alts) szA _;refine ai gkA ?_;refine ⟨_,QA0 rfl rfl rfl (QC0 Job.zero i (by first|rfl|exact Nat.zero_add _|omega) ckA) rfl,?_⟩;(first|apply u2|apply u3|apply u4|apply us);exact Qg4 ((s.jobs.getD i Job.zero).after) szA _;refine ai gkA ?_;refine ⟨_,Q01 rfl rfl rfl rfl (QC0 Job.zero i (by first|rfl|exact Nat.zero_add _|omega) ckA) rfl rfl (Qd2 Job.zero i (by first|rfl|exact Nat.zero_add _|omega) ckA rfl),?_⟩;refine ai gkA ?_;refine ⟨_,Q01 rfl rfl rfl rfl (QC0 Job.zero i (by first|rfl|exact Nat.zero_add _|omega) ckA) rfl rfl (Qd2 Job.zero i (by first|rfl|exact Nat.zero_add _|omega) ckA rfl),?_⟩;(repeat ((first|refine ai rfl ?_|refine ai (fun _=>rfl) ?_|refine And.intro (QA0 rfl rfl rfl (QC0 Job.zero i (by first|rfl|exact Nat.zero_add _|omega) ckA) rfl) ?_|refine ai (fun _=>Qf4 ((s.jobs.getD i Job.zero).shape.alts) szA _) ?_|refine And.intro (QA0 rfl rfl rfl (QC0 Job.zero i (by first|rfl|exact Nat.zero_add _|omega) ckA) rfl) ?_|refine ai (fun _=>Qg4 ((s.jobs.getD i Job.zero).after) szA _) ?_)));exact Qz0 (i+1) (wk [0,1,2,3,4,5,6] (tO rfl (Q90 (c1 (cv (to 2 lnA) (cv (to 3 lnA) (cv (to 4 lnA) (cv (to 5 lnA) (cv (to 6 lnA) (c1 (c1 .nil))))))))) (tO rfl (ts (l1 (l1 (l1 (l1 (l1 (l1 (l1 (l1 LowL.nil))))))))) (tO rfl (tl eqA) (tO rfl (tl eqA) (tO rfl (tl eqA) (tO rfl (tl eqA) (tO rfl (tl eqA) .nil))))))) (sv (Q00 0 rfl rfl) (sv (Q00 1 rfl rfl) (s1 (sv (Qa0 (I_eq (wr omA)) lx) .nil))))) omA ⟨hR,by exact omA⟩
 ·skip;have hR:=hR0;obtain rfl:=foll hR rfl;exact rq (tt [4] (tO rfl (tl eqA) .nil) (turn_agg (c1 (cv (Qx3 _ _ rfl (Nat.zero_le _) (by decide) eqA (fun _=>Node.lowc _ _) lnA) (cv (Qx3 _ _ rfl (Nat.zero_le _) (by decide) eqA (fun _=>Job.lowc _ _) lnA) (cv (to 0 lnA) (cv (Qx3 _ _ rfl (Nat.zero_le _) (by decide) eqA (fun _=>Book.lowc _ _) lnA) (cv (Qx3 _ _ rfl (Nat.zero_le _) (by decide) eqA (fun _=>Usage.lowc _ _) lnA) (c1 (c1 .nil))))))))))
def Q05 (s:List (Int × Int)):List Dep->Nat->Bool
 | [],_=>false
 | x_ :: r,i=>bif ((Qb4 s x_)==2) then true else Q05 s r (i+1)
def QT4 (s:List (Int × Int)) (j:Job):Bool:=Q05 s j.after 0
theorem Qka (s:List (Int × Int)) (j:Job) (hs0:j.sz):AMoves Tryz.prog 61 [AVal.map 0,Job.a j] [(0,AObj.other (.map (mapEs ik I 0 s) s.length))] 1 (Bo (QT4 s j)) [(0,AObj.other (.map (mapEs ik I 0 s) s.length))]:=by
 generalize hR:QT4 s j=R;refine mo (kp 7 [8,9,10,11,17]) Tryz.func61 ?_;obtain ⟨z5,z6,z7,z8,z9⟩:=Job.zz hs0;refine Qs0 (fun (i:Nat)=>Q05 s (List.drop i j.after) i=R∧i<=j.after.length) (fun i=>j.after.length - i) (fun i=>[(0,AVal.map 0),(4,Bo false),(8,depL j.after),(9,I (j.after.length:Int)),(10,I (i:Int))]) (fun i=>[(0,AObj.other (.map (mapEs ik I 0 s) s.length))]) 0 (wk [0] (tO rfl (Qb0 _ rfl rfl (fun _=>lx)) .nil) (sv (QK0 0 rfl rfl) (s1 (sl lw (s1 (s1 .nil)))))) ⟨foll hR rfl,by exact omA⟩ ?_;clear hR;rintro i ⟨hR,hj⟩;(try dsimp only at hR hj);refine ai (fun h1=>?_) (fun h2=>?_)
 ·have hlt:=ltA h1;rw [Qi0 Dep.zero hlt] at hR;refine ai gkA ?_;refine us (mv [0] (Qn6 s (j.after.getD i Dep.zero)) (dO (.same _ (QR2 fun _=>lx)) .nil) (dv (Qx9 (Ren.map _ _ rfl)) (dv (QK3 (Low.agg' (Dep.lo))) .nil)) (rO (RenO.same _ (QR2 fun _=>lx)) .nil) rx) ?_;refine ai (fun h3=>?_) (fun h4=>?_)
  ·obtain rfl:=foll hR (ct h3 rfl);exact rq (tt [0] (tO rfl (Qb0 _ rfl rfl (fun _=>lx)) .nil) t1)
  ·exact Qz0 (i+1) (wk [0] (tO rfl (Qb0 _ rfl rfl (fun _=>lx)) .nil) (sv (QK0 0 rfl rfl) (s1 (sl lw (s1 (sv (Qa0 (I_eq (wr omA)) lx) .nil)))))) omA ⟨foll hR (cf h4 rfl),by exact omA⟩
 ·rw [Ql0 (l:=j.after) (j:=i) (geA h2)] at hR;obtain rfl:=foll hR rfl;exact rq (tt [0] (tO rfl (Qb0 _ rfl rfl (fun _=>lx)) .nil) t1)
def job_copied (j:Job):Job:=j
theorem Q57 (j:Job) (hs0:j.sz):GV 185 [Job.a j] (Job.a j):=by
 generalize hR:job_copied j=R;refine ga (.cons (Job.low _ _) .nil) (Job.low _ _) (kp 3 []) Tryz.func185 ?_;obtain ⟨z1,z2,z3,z4,z5⟩:=Job.zz hs0;refine us (Qc4 j.shape.alts szA _) ?_;refine us (Qd4 j.after szA _) ?_;obtain rfl:=foll hR rfl;exact Q10 (Job.low _ _) sr
def Qh6 (p_:List Step):List Step->Nat->Int
 | [],_=>0
 | x_ :: r,i=>bif (((!(Qa7 x_.free))||(decide (x_.at_ > 1000000)))||((decide ((i:Int) > 0))&&((decide (x_.at_<=(p_.getD (Int.toNat (w64 ((i:Int) - 1))) Step.zero).at_))||(x_.free==(p_.getD (Int.toNat (w64 ((i:Int) - 1))) Step.zero).free)))) then 100 else Qh6 p_ r (i+1)
def Qm2 (p_:List Step):Int:=bif ((((p_.length:Int)==0)||(decide ((p_.length:Int) > 1000)))||((p_.getD 0 Step.zero).at_ != 0)) then 100 else Qh6 p_ p_ 0
theorem Qt4 (p_:List Step) (hs0:p_.length<=4294967296):GV 93 [stepL p_] (I (Qm2 p_)):=by
 generalize hR:Qm2 p_=R;refine ga (.cons lw .nil) lx (kp 5 [19,20,21,22,23,61]) Tryz.func93 ?_;have hk0:=hs0;obtain z7:p_.length<=4294967296:=hs0;refine ai gkA ?_;refine ai (fun h1=>?_) (fun h2=>?_)
 ·obtain rfl:=foll hR (ct h1 rfl);exact Q10 lx sr
 ·refine Qs0 (fun (i:Nat)=>Qh6 p_ (List.drop i p_) i=R∧i<=p_.length) (fun i=>p_.length - i) (fun i=>[(0,stepL p_),(2,I 0),(20,stepL p_),(21,I (p_.length:Int)),(22,I (i:Int))]) (fun i=>[]) 0 (wk [] .nil (sl lw (s1 (sl lw (s1 (s1 .nil)))))) ⟨foll hR (cf h2 rfl),by exact omA⟩ ?_;clear hR;rintro i ⟨hR,hj⟩;(try dsimp only at hR hj);refine ai (fun h3=>?_) (fun h4=>?_)
  ·have hlt:=ltA h3;rw [Qi0 Step.zero hlt] at hR;refine ai gkA ?_;refine dchk (by kernel_rfl) ?_;(first|apply u2|apply u3|apply u4|apply us);exact Qv7 ((p_.getD i Step.zero).free) _;refine ai gkA ?_;refine ai gkA ?_;(repeat ((first|refine ai rfl ?_|refine ai (fun _=>rfl) ?_|refine ai (fun _=>Qv7 ((p_.getD i Step.zero).free) _) ?_)));refine ai (fun h5=>?_) (fun h6=>?_)
   ·obtain rfl:=foll hR (ct h5 rfl);exact Q10 lx sr
   ·exact Qz0 (i+1) (wk [] .nil (sl lw (s1 (sl lw (s1 (sv (Qa0 (I_eq (wr omA)) lx) .nil)))))) omA ⟨foll hR (cf h6 rfl),by exact omA⟩
  ·rw [Ql0 (l:=p_) (j:=i) (geA h4)] at hR;obtain rfl:=foll hR rfl;exact Q10 lx sr
theorem QJ5 {p:List Step} (h:(Qm2 p != 0)=false):1<=p.length∧p.length<=1000∧(p.getD 0 Step.zero).at_=0:=by
 simp only [Qm2] at h
 revert h
 cases h2:((((p.length:Int)==0)||(decide ((p.length:Int) > 1000)))||((p.getD 0 Step.zero).at_ != 0)) with
 | true=>simp
 | false=>intro _;simp at h2;refine ⟨?_,by omega,h2.2⟩;have:=List.length_pos_iff.2 h2.1.1;omega
def Qj0 (p_:List Step) (t:Int):Int:=(w64 ((QK1 (p_.length:Int) (fun (y:Int)=>(decide ((p_.getD (Int.toNat y) Step.zero).at_ > t)))) - 1))
theorem QT8 (p_:List Step) (t:Int) (hs0:p_.length<=4294967296):GV 95 [stepL p_,I t] (I (Qj0 p_ t)):=by
 generalize hR:Qj0 p_ t=R;refine ga (.cons lw (l1 .nil)) lx (kp 5 []) Tryz.func95 ?_;have hk0:=hs0;obtain z5:p_.length<=4294967296:=hs0;have cl1:∀ (y1:Int) (hcl:0<=y1∧y1<(p_.length:Int)),AMoves Tryz.prog 167 [I y1,AVal.ptr 0 0 1 0 0,AVal.ptr 1 0 1 0 0] [(0,AObj.row 92 1 [[stepL p_]]),(0,AObj.row 3 1 [[I t]])] 2 (Bo ((fun (y:Int)=>(decide ((p_.getD (Int.toNat y) Step.zero).at_ > t))) y1)) [(0,AObj.row 92 1 [[stepL p_]]),(0,AObj.row 3 1 [[I t]])]:=by
  intro y1 hcl;have hR:(fun (y:Int)=>(decide ((p_.getD (Int.toNat y) Step.zero).at_ > t))) y1=(fun (y:Int)=>(decide ((p_.getD (Int.toNat y) Step.zero).at_ > t))) y1:=rfl;refine mo (kp 5 []) Tryz.func167 ?_;refine dchk (by kernel_rfl) ?_;refine ai gkA ?_;(repeat ((first|refine ai rfl ?_|refine ai (fun _=>rfl) ?_)));refine Qp0 (fun r:Bool=>Bo r) (fun _=>[(0,AObj.row 92 1 [[stepL p_]]),(0,AObj.row 3 1 [[I t]])]) (leaf:=(decide ((p_.getD (Int.toNat y1) Step.zero).at_ > t))) (foll hR rfl) ?_;exact tt [0,1] (tO rfl (ts (lv lw LowL.nil)) (tO rfl (ts (l1 LowL.nil)) .nil)) t1
 have hof1:AMoves Tryz.prog 166 [I (p_.length:Int),AVal.fn (.func 167) [] [AVal.ptr 0 0 1 0 0,AVal.ptr 1 0 1 0 0]] [(0,AObj.row 92 1 [[stepL p_]]),(0,AObj.row 3 1 [[I t]])] 2 (I (QK1 (p_.length:Int) (fun (y:Int)=>(decide ((p_.getD (Int.toNat y) Step.zero).at_ > t))))) [(0,AObj.row 92 1 [[stepL p_]]),(0,AObj.row 3 1 [[I t]])]:=by
  have hR:QK1 (p_.length:Int) (fun (y:Int)=>(decide ((p_.getD (Int.toNat y) Step.zero).at_ > t)))=QK1 (p_.length:Int) (fun (y:Int)=>(decide ((p_.getD (Int.toNat y) Step.zero).at_ > t))):=rfl;refine mo (kp 8 [11,21]) Tryz.func166 ?_;refine Qq0 (fun (i:Int) (j:Int)=>∃ m,(Int.toNat (j - i))<m∧Q54 (Qe1 (fun (y:Int)=>(decide ((p_.getD (Int.toNat y) Step.zero).at_ > t))) m i j).1 (Qe1 (fun (y:Int)=>(decide ((p_.getD (Int.toNat y) Step.zero).at_ > t))) m i j).2=QK1 (p_.length:Int) (fun (y:Int)=>(decide ((p_.getD (Int.toNat y) Step.zero).at_ > t)))∧0<=i∧i<=j∧j<=(p_.length:Int)) (fun i j=>(Int.toNat (j - i))) (fun i j=>[(1,AVal.fn (.func 167) [] [AVal.ptr 0 0 1 0 0,AVal.ptr 1 0 1 0 0]),(4,I 0),(5,I i),(6,I j)]) (fun i j=>[(0,AObj.row 92 1 [[stepL p_]]),(0,AObj.row 3 1 [[I t]])]) 0 (p_.length:Int) (wk [0,1] (tO rfl (ts (lv lw LowL.nil)) (tO rfl (ts (l1 LowL.nil)) .nil)) (sv (Qu0 .nil (cv (Q00 0 rfl rfl) (cv (Q00 1 rfl rfl) .nil))) (s1 (s1 (s1 .nil))))) ⟨_,Nat.lt_succ_self _,foll hR rfl,by exact exA⟩ ?_;clear hR;rintro i j ⟨m,hm,hR,hx⟩;(try dsimp only at hR hm hx);obtain ⟨m,rfl⟩:=sucA m;refine ai (fun h1=>?_) (fun h2=>?_)
  ·have qh1:=of_decide_eq_true h1;(have hq0:i<j:=qh1;have hh:w64 (Int.fdiv (wu64 (w64 (i+j))) (2 ^ (min (Int.toNat 1) 64)))=(i+j) / 2:=QY9 hx.1 hq0 hx.2.2 (by omega);have hh3:w64 (w64 (Int.fdiv (wu64 (w64 (i+j))) (2 ^ (min (Int.toNat 1) 64)))+1)=(i+j) / 2+1:=by rw [hh];exact wr (by omega));refine ai gkA ?_;refine us (mv [0,1] (cl1 (w64 (Int.fdiv (wu64 (w64 (i+j))) (2 ^ (min (Int.toNat 1) 64)))) ckA) (dO (ds (lv lw LowL.nil)) (dO (ds (l1 LowL.nil)) .nil)) (d1 (dp (dp .nil))) (rO (re (lv lw LowL.nil)) (rO (re (l1 LowL.nil)) .nil)) rx) ?_;refine ai (fun h3=>?_) (fun h4=>?_)
   ·exact Qd0 (w64 ((w64 (Int.fdiv (wu64 (w64 (i+j))) (2 ^ (min (Int.toNat 1) 64))))+1)) j (wk [0,1] (tO rfl (ts (lv lw LowL.nil)) (tO rfl (ts (l1 LowL.nil)) .nil)) (sv (Qu0 .nil (cv (Q00 0 rfl rfl) (cv (Q00 1 rfl rfl) .nil))) (s1 (s1 (s1 .nil))))) (by first|(dsimp only;rw [hh3];omega)|first|(dsimp only;rw [hh];omega)|exact omA) ⟨m,by first|(dsimp only;rw [hh3];omega)|first|(dsimp only;rw [hh];omega)|exact omA,foll hR (congrArg (fun p:Int × Int=>Q54 p.1 p.2) (ct h1 (ct h3 rfl))),by exact exA⟩
   ·exact Qd0 i (w64 (Int.fdiv (wu64 (w64 (i+j))) (2 ^ (min (Int.toNat 1) 64)))) (wk [0,1] (tO rfl (ts (lv lw LowL.nil)) (tO rfl (ts (l1 LowL.nil)) .nil)) (sv (Qu0 .nil (cv (Q00 0 rfl rfl) (cv (Q00 1 rfl rfl) .nil))) (s1 (s1 (s1 .nil))))) (by first|(dsimp only;rw [hh3];omega)|first|(dsimp only;rw [hh];omega)|exact omA) ⟨m,by first|(dsimp only;rw [hh3];omega)|first|(dsimp only;rw [hh];omega)|exact omA,foll hR (congrArg (fun p:Int × Int=>Q54 p.1 p.2) (ct h1 (cf h4 rfl))),by exact exA⟩
  ·have qh2:=of_decide_eq_false h2;replace hR:Q54 i j=QK1 (p_.length:Int) (fun (y:Int)=>(decide ((p_.getD (Int.toNat y) Step.zero).at_ > t))):=fo2 (fun p:Int × Int=>Q54 p.1 p.2) (i,j) hR (cf h2 rfl);refine Qp0 (fun r:Int=>I r) (fun r:Int=>[(0,AObj.row 92 1 [[stepL p_]]),(0,AObj.row 3 1 [[I t]])]) (leaf:=i) (foll hR rfl) ?_;exact tt [0,1] (tO rfl (ts (lv lw LowL.nil)) (tO rfl (ts (l1 LowL.nil)) .nil)) t1
 refine us (mv [0,1] (hof1) (dO (ds (lv lw LowL.nil)) (dO (ds (l1 LowL.nil)) .nil)) (d1 (dv (dn_fn .nil (dp (dp .nil))) .nil)) (rO (re (lv lw LowL.nil)) (rO (re (l1 LowL.nil)) .nil)) rx) ?_;obtain rfl:=foll hR rfl;exact Q10 lx sr
theorem Qz8 {p:List Step} {t:Int} (h1:1<=p.length) (h2:p.length<=1000) (h3:(p.getD 0 Step.zero).at_=0) (ht:0<=t):0<=Qj0 p t∧Qj0 p t<p.length:=by
 obtain ⟨a,b,c,d⟩:=Qic (fun (y:Int)=>(decide ((p.getD (Int.toNat y) Step.zero).at_ > t))) (N:=p.length) (by omega)
 have h4:1<=QK1 (p.length:Int) (fun (y:Int)=>(decide ((p.getD (Int.toNat y) Step.zero).at_ > t))):=by
  rcases Int.lt_or_le 0 (QK1 (p.length:Int) (fun (y:Int)=>(decide ((p.getD (Int.toNat y) Step.zero).at_ > t)))) with h|h
  ·omega
  ·have e:QK1 (p.length:Int) (fun (y:Int)=>(decide ((p.getD (Int.toNat y) Step.zero).at_ > t)))=0:=by omega
   have:=d (by omega)
   rw [e] at this
   have:=of_decide_eq_true this
   simp only [Int.toNat_zero] at this
   omega
 have e:Qj0 p t=QK1 (p.length:Int) (fun (y:Int)=>(decide ((p.getD (Int.toNat y) Step.zero).at_ > t))) - 1:=wr (by omega)
 rw [e]
 omega
def Qwd (l:List Job):(List Job):=l
theorem plan_copied_c (l:List Job) (hs0:l.length<=4294967296∧(∀ y ∈ l,y.sz)):GV 128 [jobL l] (jobL l):=by
 generalize hR:Qwd l=R;refine ga (.cons lw .nil) lw (kp 5 [8,9,10]) Tryz.func128 ?_;obtain ⟨z8,z9⟩:=id hs0;refine us (mv [] (Qw5 l szA) .nil (dl lw .nil) (rO rr .nil) (rw_ 0 0 rfl)) ?_;refine Qs0 (fun (i:Nat)=>True∧i<=l.length) (fun i=>l.length - i) (fun i=>[(2,AVal.lit (.slice none 0 0)),(3,AVal.own 0 0 20 0 l.length),(8,I (l.length:Int)),(9,I (i:Int))]) (fun i=>[(0,AObj.row 52 20 (l.map Job.cells))]) 0 (wk [0] (tO rfl (tl eqA) .nil) (s1 (sv (to 0 lnA) (s1 (s1 .nil))))) ⟨trivial,by exact omA⟩ ?_;have hR0:=hR;rintro i ⟨hR,hj⟩;(try dsimp only at hR hj);refine ai (fun h1=>?_) (fun h2=>?_)
 ·have hlt:=ltA h1;have hxz:(l.getD i Job.zero).sz:=Qw1 (by first|assumption|grind) (Job.szz _);have hkz:=hxz;obtain ⟨z3,z4,z5,z6,z7⟩:=Job.zz hxz;refine ai gkA ?_;refine ⟨_,QA0 rfl rfl rfl (QC0 Job.zero i (by first|rfl|exact Nat.zero_add _|omega) ckA) rfl,?_⟩;refine us (Qc4 ((l.getD i Job.zero).shape.alts) szA _) ?_;refine ai gkA ?_;refine ⟨_,Q01 rfl rfl rfl rfl (QC0 Job.zero i (by first|rfl|exact Nat.zero_add _|omega) ckA) rfl rfl (Qd2 Job.zero i (by first|rfl|exact Nat.zero_add _|omega) ckA rfl),?_⟩;refine ai gkA ?_;refine ⟨_,QA0 rfl rfl rfl (QC0 Job.zero i (by first|rfl|exact Nat.zero_add _|omega) ckA) rfl,?_⟩;refine us (Qd4 ((l.getD i Job.zero).after) szA _) ?_;refine ai gkA ?_;refine ⟨_,Q01 rfl rfl rfl rfl (QC0 Job.zero i (by first|rfl|exact Nat.zero_add _|omega) ckA) rfl rfl (Qd2 Job.zero i (by first|rfl|exact Nat.zero_add _|omega) ckA rfl),?_⟩;exact Qz0 (i+1) (wk [0] (tO rfl (tl eqA) .nil) (s1 (sv (to 0 lnA) (s1 (sv (Qa0 (I_eq (wr omA)) lx) .nil))))) omA ⟨hR,by exact omA⟩
 ·skip;have hR:=hR0;obtain rfl:=foll hR rfl;exact Q10 lw (Qn0 Job.zero _ rfl eqA lnA)
theorem Qg8 (l:List Job) (hs0:l.length<=4294967296∧(∀ y ∈ l,y.sz)):AMoves Tryz.prog 128 [jobL l] [] 0 (AVal.own 0 0 20 0 l.length) [(0,AObj.row 52 20 (l.map Job.cells))]:=by
 generalize hR:Qwd l=R;refine mo (kp 5 [8,9,10]) Tryz.func128 ?_;obtain ⟨z8,z9⟩:=id hs0;refine us (mv [] (Qw5 l szA) .nil (dl lw .nil) (rO rr .nil) (rw_ 0 0 rfl)) ?_;refine Qs0 (fun (i:Nat)=>True∧i<=l.length) (fun i=>l.length - i) (fun i=>[(2,AVal.lit (.slice none 0 0)),(3,AVal.own 0 0 20 0 l.length),(8,I (l.length:Int)),(9,I (i:Int))]) (fun i=>[(0,AObj.row 52 20 (l.map Job.cells))]) 0 (wk [0] (tO rfl (tl eqA) .nil) (s1 (sv (to 0 lnA) (s1 (s1 .nil))))) ⟨trivial,by exact omA⟩ ?_;have hR0:=hR;rintro i ⟨hR,hj⟩;(try dsimp only at hR hj);refine ai (fun h1=>?_) (fun h2=>?_)
 ·have hlt:=ltA h1;have hxz:(l.getD i Job.zero).sz:=Qw1 (by first|assumption|grind) (Job.szz _);have hkz:=hxz;obtain ⟨z3,z4,z5,z6,z7⟩:=Job.zz hxz;refine ai gkA ?_;refine ⟨_,QA0 rfl rfl rfl (QC0 Job.zero i (by first|rfl|exact Nat.zero_add _|omega) ckA) rfl,?_⟩;refine us (Qc4 ((l.getD i Job.zero).shape.alts) szA _) ?_;refine ai gkA ?_;refine ⟨_,Q01 rfl rfl rfl rfl (QC0 Job.zero i (by first|rfl|exact Nat.zero_add _|omega) ckA) rfl rfl (Qd2 Job.zero i (by first|rfl|exact Nat.zero_add _|omega) ckA rfl),?_⟩;refine ai gkA ?_;refine ⟨_,QA0 rfl rfl rfl (QC0 Job.zero i (by first|rfl|exact Nat.zero_add _|omega) ckA) rfl,?_⟩;refine us (Qd4 ((l.getD i Job.zero).after) szA _) ?_;refine ai gkA ?_;refine ⟨_,Q01 rfl rfl rfl rfl (QC0 Job.zero i (by first|rfl|exact Nat.zero_add _|omega) ckA) rfl rfl (Qd2 Job.zero i (by first|rfl|exact Nat.zero_add _|omega) ckA rfl),?_⟩;exact Qz0 (i+1) (wk [0] (tO rfl (tl eqA) .nil) (s1 (sv (to 0 lnA) (s1 (sv (Qa0 (I_eq (wr omA)) lx) .nil))))) omA ⟨hR,by exact omA⟩
 ·skip;have hR:=hR0;obtain rfl:=foll hR rfl;exact rq (tt [0] (tO rfl (tl eqA) .nil) (to 0 lnA))
def Qg9 (long:Int) (nodes:Int):Bool:=((QH7 nodes 1 1000000)&&(QH7 long 1 1000000))
theorem Qlb (long:Int) (nodes:Int):GV 193 [I long,I nodes] (Bo (Qg9 long nodes)):=by
 generalize hR:Qg9 long nodes=R;refine ga (l1 (l1 .nil)) lx (kp 5 []) Tryz.func193 ?_;refine us (QF8 nodes 1 1000000 _) ?_;(first|apply u2|apply u3|apply u4|apply us);exact QF8 long 1 1000000 _;obtain rfl:=foll hR rfl;exact Q10 lx sr
def squeeze_copied (l:List Job):(List Job):=l
theorem Qjc (l:List Job) (hs0:l.length<=4294967296∧(∀ y ∈ l,y.sz)):AMoves Tryz.prog 130 [jobL l] [] 0 (AVal.own 0 0 20 0 l.length) [(0,AObj.row 52 20 (l.map Job.cells))]:=by
 generalize hR:squeeze_copied l=R;refine mo (kp 5 [8,9,10]) Tryz.func130 ?_;obtain ⟨z8,z9⟩:=id hs0;refine us (mv [] (Qw5 l szA) .nil (dl lw .nil) (rO rr .nil) (rw_ 0 0 rfl)) ?_;refine Qs0 (fun (i:Nat)=>True∧i<=l.length) (fun i=>l.length - i) (fun i=>[(2,AVal.lit (.slice none 0 0)),(3,AVal.own 0 0 20 0 l.length),(8,I (l.length:Int)),(9,I (i:Int))]) (fun i=>[(0,AObj.row 52 20 (l.map Job.cells))]) 0 (wk [0] (tO rfl (tl eqA) .nil) (s1 (sv (to 0 lnA) (s1 (s1 .nil))))) ⟨trivial,by exact omA⟩ ?_;have hR0:=hR;rintro i ⟨hR,hj⟩;(try dsimp only at hR hj);refine ai (fun h1=>?_) (fun h2=>?_)
 ·have hlt:=ltA h1;have hxz:(l.getD i Job.zero).sz:=Qw1 (by first|assumption|grind) (Job.szz _);have hkz:=hxz;obtain ⟨z3,z4,z5,z6,z7⟩:=Job.zz hxz;refine ai gkA ?_;refine ⟨_,QA0 rfl rfl rfl (QC0 Job.zero i (by first|rfl|exact Nat.zero_add _|omega) ckA) rfl,?_⟩;refine us (Qc4 ((l.getD i Job.zero).shape.alts) szA _) ?_;refine ai gkA ?_;refine ⟨_,Q01 rfl rfl rfl rfl (QC0 Job.zero i (by first|rfl|exact Nat.zero_add _|omega) ckA) rfl rfl (Qd2 Job.zero i (by first|rfl|exact Nat.zero_add _|omega) ckA rfl),?_⟩;refine ai gkA ?_;refine ⟨_,QA0 rfl rfl rfl (QC0 Job.zero i (by first|rfl|exact Nat.zero_add _|omega) ckA) rfl,?_⟩;refine us (Qd4 ((l.getD i Job.zero).after) szA _) ?_;refine ai gkA ?_;refine ⟨_,Q01 rfl rfl rfl rfl (QC0 Job.zero i (by first|rfl|exact Nat.zero_add _|omega) ckA) rfl rfl (Qd2 Job.zero i (by first|rfl|exact Nat.zero_add _|omega) ckA rfl),?_⟩;exact Qz0 (i+1) (wk [0] (tO rfl (tl eqA) .nil) (s1 (sv (to 0 lnA) (s1 (sv (Qa0 (I_eq (wr omA)) lx) .nil))))) omA ⟨hR,by exact omA⟩
 ·skip;have hR:=hR0;obtain rfl:=foll hR rfl;exact rq (tt [0] (tO rfl (tl eqA) .nil) (to 0 lnA))
def Q46 :List Job->Nat->Bool
 | [],_=>true
 | x_ :: r,i=>bif (!(QK7 x_)) then false else Q46 r (i+1)
def QEa (l:List Job):Bool:=bif (decide ((l.length:Int) > 60)) then false else Q46 l 0
theorem law15_Few_c (l:List Job) (hs0:l.length<=9223372036854775807∧(∀ y ∈ l,y.szM)):GV 24 [jobL l] (Bo (QEa l)):=by
 generalize hR:QEa l=R;refine ga (.cons lw .nil) lx (kp 4 [6,10,18]) Tryz.func24 ?_;obtain ⟨z12,z13⟩:=id hs0;refine ai (fun h1=>?_) (fun h2=>?_)
 ·have qh1:=of_decide_eq_true h1;obtain rfl:=foll hR (ct h1 rfl);exact Q10 lx sr
 ·have qh2:=of_decide_eq_false h2;refine Qs0 (fun (i:Nat)=>Q46 (List.drop i l) i=R∧i<=l.length) (fun i=>l.length - i) (fun i=>[(0,jobL l),(2,Bo false),(3,I (i:Int))]) (fun i=>[]) 0 (wk [] .nil (sl lw (s1 (s1 .nil)))) ⟨foll hR (cf h2 rfl),by exact omA⟩ ?_;clear hR;rintro i ⟨hR,hj⟩;(try dsimp only at hR hj);refine ai (fun h3=>?_) (fun h4=>?_)
  ·have hlt:=ltA h3;rw [Qi0 Job.zero hlt] at hR;have hxz:(l.getD i Job.zero).szM:=Qw1 (by first|assumption|grind) (Job.szz _);have hkz:=hxz;obtain ⟨z5,z6,z7,z8,z9⟩:((l.getD i Job.zero).name).size<=9223372036854775807∧((l.getD i Job.zero).user).size<=9223372036854775807∧((l.getD i Job.zero).account).size<=9223372036854775807∧((((l.getD i Job.zero).shape).alts).length<=9223372036854775807)∧((l.getD i Job.zero).after).length<=9223372036854775807:=hxz;refine ai gkA ?_;refine us (law14_Few_c (l.getD i Job.zero) _) ?_;refine ai (fun h10=>?_) (fun h11=>?_)
   ·obtain rfl:=foll hR (ct h10 rfl);exact Q10 lx sr
   ·exact Qz0 (i+1) (wk [] .nil (sl lw (s1 (sv (Qa0 (I_eq (wr omA)) lx) .nil)))) omA ⟨foll hR (cf h11 rfl),by exact omA⟩
  ·rw [Ql0 (l:=l) (j:=i) (geA h4)] at hR;obtain rfl:=foll hR rfl;exact Q10 lx sr
def Qx7 (l:List Alt):List Alt->Nat->Bool
 | [],_=>true
 | x_ :: r,i=>bif (Qa1 (List.take i l) (fun (y:Alt)=>(x_.nodes==y.nodes))) then false else Qx7 l r (i+1)
def Qq8 (l:List Alt):Bool:=Qx7 l l 0
theorem shape_apart_c (l:List Alt) (hs0:l.length<=4294967296):GV 200 [altL l] (Bo (Qq8 l)):=by
 generalize hR:Qq8 l=R;refine ga (.cons lw .nil) lx (kp 5 [5,6,7,8,16]) Tryz.func200 ?_;have hk0:=hs0;obtain z9:l.length<=4294967296:=hs0;refine Qs0 (fun (i:Nat)=>Qx7 l (List.drop i l) i=R∧i<=l.length) (fun i=>l.length - i) (fun i=>[(0,altL l),(2,Bo false),(5,altL l),(6,I (l.length:Int)),(7,I (i:Int))]) (fun i=>[]) 0 (wk [] .nil (sl lw (s1 (sl lw (s1 (s1 .nil)))))) ⟨foll hR rfl,by exact omA⟩ ?_;clear hR;rintro i ⟨hR,hj⟩;(try dsimp only at hR hj);refine ai (fun h1=>?_) (fun h2=>?_)
 ·have hlt:=ltA h1;rw [Qi0 Alt.zero hlt] at hR;refine ai gkA ?_;refine ai gkA ?_;have cl1:∀ (y1:Alt),AMoves Tryz.prog 225 [Alt.a y1,AVal.ptr 0 0 2 0 0] [(0,AObj.row 122 2 [[I (l.getD i Alt.zero).nodes,I (l.getD i Alt.zero).wall]])] 1 (Bo ((fun (y:Alt)=>((l.getD i Alt.zero).nodes==y.nodes)) y1)) [(0,AObj.row 122 2 [[I (l.getD i Alt.zero).nodes,I (l.getD i Alt.zero).wall]])]:=by
   intro y1;have hR:(fun (y:Alt)=>((l.getD i Alt.zero).nodes==y.nodes)) y1=(fun (y:Alt)=>((l.getD i Alt.zero).nodes==y.nodes)) y1:=rfl;refine mo (kp 4 []) Tryz.func225 ?_;refine Qp0 (fun r:Bool=>Bo r) (fun _=>[(0,AObj.row 122 2 [[I (l.getD i Alt.zero).nodes,I (l.getD i Alt.zero).wall]])]) (leaf:=((l.getD i Alt.zero).nodes==y1.nodes)) (foll hR rfl) ?_;exact tt [0] (tO rfl (ts Alt.lo) .nil) t1
  have hof1:AMoves Tryz.prog 201 [altL (List.take i l),AVal.fn (.func 225) [] [AVal.ptr 0 0 2 0 0]] [(0,AObj.row 122 2 [[I (l.getD i Alt.zero).nodes,I (l.getD i Alt.zero).wall]])] 1 (Bo (Qa1 (List.take i l) (fun (y:Alt)=>((l.getD i Alt.zero).nodes==y.nodes)))) [(0,AObj.row 122 2 [[I (l.getD i Alt.zero).nodes,I (l.getD i Alt.zero).wall]])]:=by
   have hR:Qa1 (List.take i l) (fun (y:Alt)=>((l.getD i Alt.zero).nodes==y.nodes))=Qa1 (List.take i l) (fun (y:Alt)=>((l.getD i Alt.zero).nodes==y.nodes)):=rfl;refine mo (kp 5 []) Tryz.func201 ?_;have hof2:AMoves Tryz.prog 226 [altL (List.take i l),AVal.fn (.func 225) [] [AVal.ptr 0 0 2 0 0]] [(0,AObj.row 122 2 [[I (l.getD i Alt.zero).nodes,I (l.getD i Alt.zero).wall]])] 1 (I (Q71 (List.take i l) (fun (y:Alt)=>((l.getD i Alt.zero).nodes==y.nodes)))) [(0,AObj.row 122 2 [[I (l.getD i Alt.zero).nodes,I (l.getD i Alt.zero).wall]])]:=by
    have hR:Q71 (List.take i l) (fun (y:Alt)=>((l.getD i Alt.zero).nodes==y.nodes))=Q71 (List.take i l) (fun (y:Alt)=>((l.getD i Alt.zero).nodes==y.nodes)):=rfl;refine mo (kp 6 [7,8,9,16]) Tryz.func226 ?_;refine Qs0 (fun (i1:Nat)=>QH2 (fun (y:Alt)=>((l.getD i Alt.zero).nodes==y.nodes)) (List.drop i1 (List.take i l)) i1=Q71 (List.take i l) (fun (y:Alt)=>((l.getD i Alt.zero).nodes==y.nodes))∧i1<=(List.take i l).length) (fun i1=>(List.take i l).length - i1) (fun i1=>[(0,altL (List.take i l)),(1,AVal.fn (.func 225) [] [AVal.ptr 0 0 2 0 0]),(4,I 0),(7,I ((List.take i l).length:Int)),(8,I (i1:Int))]) (fun i1=>[(0,AObj.row 122 2 [[I (l.getD i Alt.zero).nodes,I (l.getD i Alt.zero).wall]])]) 0 (wk [0] (tO rfl (ts Alt.lo) .nil) (sl lw (sv (Qu0 .nil (cv (Q00 0 rfl rfl) .nil)) (s1 (s1 (s1 .nil)))))) ⟨foll hR rfl,by exact omA⟩ ?_;clear hR;rintro i1 ⟨hR,hj⟩;(try dsimp only at hR hj);refine ai (fun h3=>?_) (fun h4=>?_)
    ·have hlt:=ltA h3;rw [Qi0 Alt.zero hlt] at hR;refine ai gkA ?_;refine us (mv [0] (cl1 ((List.take i l).getD i1 Alt.zero)) (dO (ds Alt.lo) .nil) (dl (Alt.low _ _) (dp .nil)) (rO (re Alt.lo) .nil) rx) ?_;refine ai (fun h5=>?_) (fun h6=>?_)
     ·refine Qp0 (fun r:Int=>I r) (fun r:Int=>[(0,AObj.row 122 2 [[I (l.getD i Alt.zero).nodes,I (l.getD i Alt.zero).wall]])]) (leaf:=(i1:Int)) (foll hR (ct h5 rfl)) ?_;exact tt [0] (tO rfl (ts Alt.lo) .nil) t1
     ·exact Qz0 (i1+1) (wk [0] (tO rfl (ts Alt.lo) .nil) (sl lw (sv (Qu0 .nil (cv (Q00 0 rfl rfl) .nil)) (s1 (s1 (sv (Qa0 (I_eq (wr omA)) lx) .nil)))))) omA ⟨foll hR (cf h6 rfl),by exact omA⟩
    ·rw [Ql0 (l:=(List.take i l)) (j:=i1) (geA h4)] at hR;refine Qp0 (fun r:Int=>I r) (fun r:Int=>[(0,AObj.row 122 2 [[I (l.getD i Alt.zero).nodes,I (l.getD i Alt.zero).wall]])]) (leaf:=(-1)) (foll hR rfl) ?_;exact tt [0] (tO rfl (ts Alt.lo) .nil) t1
   refine us (mv [0] (hof2) (dO (ds Alt.lo) .nil) (dl lw (dv (dn_fn .nil (dp .nil)) .nil)) (rO (re Alt.lo) .nil) rx) ?_;refine Qp0 (fun r:Bool=>Bo r) (fun r:Bool=>[(0,AObj.row 122 2 [[I (l.getD i Alt.zero).nodes,I (l.getD i Alt.zero).wall]])]) (leaf:=(decide ((Q71 (List.take i l) (fun (y:Alt)=>((l.getD i Alt.zero).nodes==y.nodes))) >= 0))) (foll hR rfl) ?_;exact tt [0] (tO rfl (ts Alt.lo) .nil) t1
  refine us (mv [0] (hof1) (dO (ds Alt.lo) .nil) (dv (dn_as (as_take l i ckA) lw) (dv (dn_fn .nil (dp .nil)) .nil)) (rO (re Alt.lo) .nil) rx) ?_;refine ai (fun h7=>?_) (fun h8=>?_)
  ·obtain rfl:=foll hR (ct h7 rfl);exact Q10 lx sr
  ·exact Qz0 (i+1) (wk [] .nil (sl lw (s1 (sl lw (s1 (sv (Qa0 (I_eq (wr omA)) lx) .nil)))))) omA ⟨foll hR (cf h8 rfl),by exact omA⟩
 ·rw [Ql0 (l:=l) (j:=i) (geA h2)] at hR;obtain rfl:=foll hR rfl;exact Q10 lx sr
def Qja (s:ByteArray):Bool:=(((Qy4 s).2==0)&&(QU2 ((Qy4 s).1) 1 16))
theorem Qbb (s:ByteArray) (hs0:s.size<=4294967296):GV 229 [Sg s] (Bo (Qja s)):=by
 generalize hR:Qja s=R;refine ga (l1 .nil) lx (kp 5 []) Tryz.func229 ?_;have hk0:=hs0;obtain z1:s.size<=4294967296:=hs0;refine us (QSa s szA _) ?_;(first|apply u2|apply u3|apply u4|apply us);exact QJ2 ((Qy4 s).1) 1 16 _;obtain rfl:=foll hR rfl;exact Q10 lx sr
def QF5 (s:ByteArray):Int × Bool:=bif (((!(QE6 s))||(decide ((ByteArray.size s:Int) > 9)))||((decide ((ByteArray.size s:Int) > 1))&&(((s.data.toList.getD 0 0).toNat:Int)==48))) then (0,false) else ((Q59 s).1,true)
theorem lex_number_c (s:ByteArray) (hs0:s.size<=4294967296):GV 295 [Sg s] (AVal.tup [I ((QF5 s).1),Bo ((QF5 s).2)]):=by
 generalize hR:QF5 s=R;refine ga (l1 .nil) (Low.tup' (l1 (l1 .nil))) (kp 6 [23]) Tryz.func295 ?_;have hk0:=hs0;obtain z3:s.size<=4294967296:=hs0;refine us (QPb s szA _) ?_;refine ai gkA ?_;refine ai (fun h1=>?_) (fun h2=>?_)
 ·obtain rfl:=foll hR (ct h1 rfl);exact Q10 (Low.tup' (l1 (l1 .nil))) (Seen.tup (e1 (e1 .nil)))
 ·refine us (strconv_Atoi_c s szA (by exact lex_digits_ok (by assumption)) _) ?_;refine dchk (by kernel_rfl) ?_;(repeat ((first|refine ai rfl ?_|refine ai (fun _=>rfl) ?_)));obtain rfl:=foll hR (cf h2 rfl);exact Q10 (Low.tup' (l1 (l1 .nil))) (Seen.tup (e1 (e1 .nil)))
theorem QAc (l:List Int) (r_:Int) (hl:l.length<=4294967296):AMoves Tryz.prog 289 [.ptr 0 0 2 0 0,J r_] [(0,.row 331 2 [[.sel 0 0 2 0 0,.own 1 0 1 0 l.length]]),(0,QB4 l)] 1 (.tup [I (w64 (((QS0 l r_).length:Int) - (l.length:Int))),.lit .nilIface]) [(0,.row 331 2 [[.ptr 0 0 2 0 0,.own 1 0 1 0 (QS0 l r_).length]]),(0,QB4 (QS0 l r_))]:=by
 refine AMoves.of_cwp (fun t=>Nat.ble 1000000 t||Nat.blt t 7) Tryz.func289 rfl rfl rfl ?_
 refine us (AMoves.on [0,1] (copyCheck_m bldT0 (x:=.own 1 0 1 0 l.length) (rest:=[(0,QB4 l)]) (n0:=2) (by simp)) (by decide) rfl rfl rfl (.cons _ _ _ _ (.row1 _ _ _ _ (.cons _ _ _ _ (dn_sel rfl) (.cons _ _ _ _ (dn_own rfl) .nil))) (.cons _ _ _ _ (.same _ (QQ6 fun _=>lowL1 rfl)) .nil)) rfl (.cons _ _ _ _ (dn_ptr rfl) .nil) (.cons _ _ _ _ (RenO.row1 _ _ _ _ (.cons _ _ _ _ (Ren.ptr _ _ _ _ _ _ rfl) (.cons _ _ _ _ (Ren.own _ _ _ _ _ _ rfl) .nil))) (.cons _ _ _ _ (RenO.same _ (QQ6 fun _=>lowL1 rfl)) .nil)) (Ren.low _ (.tup _ (fun x h=>nomatch h)))) ?_
 refine us (AMoves.on [1] (QBb l r_ hl) (by decide) rfl rfl rfl (.cons _ _ _ _ (dn_row rfl (QQ6 fun _=>lowL1 rfl)) .nil) rfl (.cons _ _ _ _ (Qn4 rfl rfl) (.cons _ _ _ _ (QK3 (Qt2 rfl)) .nil)) (.cons _ _ _ _ (RenO.same _ (QQ6 fun _=>lowL1 rfl)) .nil) (Ren.own _ _ _ _ _ _ rfl)) ?_
 refine Qp0 (fun _:Unit=>.tup [I (w64 (((QS0 l r_).length:Int) - (l.length:Int))),.lit .nilIface]) (fun _:Unit=>[(0,.row 331 2 [[.ptr 0 0 2 0 0,.own 1 0 1 0 (QS0 l r_).length]]),(0,QB4 (QS0 l r_))]) (leaf:=()) rfl ?_
 exact QQ2 [0,2] rfl (by decide) (.cons 0 _ _ _ _ rfl (Q90 (.cons _ _ _ _ (Q00 0 rfl rfl) (.cons _ _ _ _ (Q6b 1 rfl rfl rfl) .nil))) (.cons 2 _ _ _ _ rfl (Q7b rfl (QQ6 fun _=>lowL1 rfl)) .nil)) (turn_tup (.cons _ _ _ _ (Q20 (Qt2 rfl)) (.cons _ _ _ _ (Q20 (Qt2 rfl)) .nil)))
def QQ9 (l:List Dep):List Dep->Nat->Bool
 | [],_=>(decide ((l.length:Int)<=4))
 | x_ :: r,i=>bif (((!(QU2 x_.how 1 3))||(!(cmd_id x_.job)))||(Qt0 (List.take i l) (fun (y:Dep)=>(y.job==x_.job)))) then false else QQ9 l r (i+1)
def cmd_deps (l:List Dep):Bool:=QQ9 l l 0
theorem cmd_deps_c (l:List Dep) (hs0:l.length<=4294967296):GV 231 [depL l] (Bo (cmd_deps l)):=by
 generalize hR:cmd_deps l=R;refine ga (.cons lw .nil) lx (kp 6 [6,7,8,9,30]) Tryz.func231 ?_;have hk0:=hs0;obtain z9:l.length<=4294967296:=hs0;refine Qs0 (fun (i:Nat)=>QQ9 l (List.drop i l) i=R∧i<=l.length) (fun i=>l.length - i) (fun i=>[(0,depL l),(2,Bo false),(6,depL l),(7,I (l.length:Int)),(8,I (i:Int))]) (fun i=>[]) 0 (wk [] .nil (sl lw (s1 (sl lw (s1 (s1 .nil)))))) ⟨foll hR rfl,by exact omA⟩ ?_;clear hR;rintro i ⟨hR,hj⟩;(try dsimp only at hR hj);refine ai (fun h1=>?_) (fun h2=>?_)
 ·have hlt:=ltA h1;rw [Qi0 Dep.zero hlt] at hR;refine ai gkA ?_;refine ai gkA ?_;have cl1:∀ (y1:Dep),AMoves Tryz.prog 252 [Dep.a y1,AVal.ptr 0 0 2 0 0] [(0,AObj.row 132 2 [[I (l.getD i Dep.zero).how,I (l.getD i Dep.zero).job]])] 1 (Bo ((fun (y:Dep)=>(y.job==(l.getD i Dep.zero).job)) y1)) [(0,AObj.row 132 2 [[I (l.getD i Dep.zero).how,I (l.getD i Dep.zero).job]])]:=by
   intro y1;have hR:(fun (y:Dep)=>(y.job==(l.getD i Dep.zero).job)) y1=(fun (y:Dep)=>(y.job==(l.getD i Dep.zero).job)) y1:=rfl;refine mo (kp 4 []) Tryz.func252 ?_;refine Qp0 (fun r:Bool=>Bo r) (fun _=>[(0,AObj.row 132 2 [[I (l.getD i Dep.zero).how,I (l.getD i Dep.zero).job]])]) (leaf:=(y1.job==(l.getD i Dep.zero).job)) (foll hR rfl) ?_;exact tt [0] (tO rfl (ts Dep.lo) .nil) t1
  have hof1:AMoves Tryz.prog 154 [depL (List.take i l),AVal.fn (.func 252) [] [AVal.ptr 0 0 2 0 0]] [(0,AObj.row 132 2 [[I (l.getD i Dep.zero).how,I (l.getD i Dep.zero).job]])] 1 (Bo (Qt0 (List.take i l) (fun (y:Dep)=>(y.job==(l.getD i Dep.zero).job)))) [(0,AObj.row 132 2 [[I (l.getD i Dep.zero).how,I (l.getD i Dep.zero).job]])]:=by
   have hR:Qt0 (List.take i l) (fun (y:Dep)=>(y.job==(l.getD i Dep.zero).job))=Qt0 (List.take i l) (fun (y:Dep)=>(y.job==(l.getD i Dep.zero).job)):=rfl;refine mo (kp 5 []) Tryz.func154 ?_;have hof2:AMoves Tryz.prog 211 [depL (List.take i l),AVal.fn (.func 252) [] [AVal.ptr 0 0 2 0 0]] [(0,AObj.row 132 2 [[I (l.getD i Dep.zero).how,I (l.getD i Dep.zero).job]])] 1 (I (Q81 (List.take i l) (fun (y:Dep)=>(y.job==(l.getD i Dep.zero).job)))) [(0,AObj.row 132 2 [[I (l.getD i Dep.zero).how,I (l.getD i Dep.zero).job]])]:=by
    have hR:Q81 (List.take i l) (fun (y:Dep)=>(y.job==(l.getD i Dep.zero).job))=Q81 (List.take i l) (fun (y:Dep)=>(y.job==(l.getD i Dep.zero).job)):=rfl;refine mo (kp 6 [7,8,9,16]) Tryz.func211 ?_;refine Qs0 (fun (i1:Nat)=>QI2 (fun (y:Dep)=>(y.job==(l.getD i Dep.zero).job)) (List.drop i1 (List.take i l)) i1=Q81 (List.take i l) (fun (y:Dep)=>(y.job==(l.getD i Dep.zero).job))∧i1<=(List.take i l).length) (fun i1=>(List.take i l).length - i1) (fun i1=>[(0,depL (List.take i l)),(1,AVal.fn (.func 252) [] [AVal.ptr 0 0 2 0 0]),(4,I 0),(7,I ((List.take i l).length:Int)),(8,I (i1:Int))]) (fun i1=>[(0,AObj.row 132 2 [[I (l.getD i Dep.zero).how,I (l.getD i Dep.zero).job]])]) 0 (wk [0] (tO rfl (ts Dep.lo) .nil) (sl lw (sv (Qu0 .nil (cv (Q00 0 rfl rfl) .nil)) (s1 (s1 (s1 .nil)))))) ⟨foll hR rfl,by exact omA⟩ ?_;clear hR;rintro i1 ⟨hR,hj⟩;(try dsimp only at hR hj);refine ai (fun h3=>?_) (fun h4=>?_)
    ·have hlt:=ltA h3;rw [Qi0 Dep.zero hlt] at hR;refine ai gkA ?_;refine us (mv [0] (cl1 ((List.take i l).getD i1 Dep.zero)) (dO (ds Dep.lo) .nil) (dl (Dep.low _ _) (dp .nil)) (rO (re Dep.lo) .nil) rx) ?_;refine ai (fun h5=>?_) (fun h6=>?_)
     ·refine Qp0 (fun r:Int=>I r) (fun r:Int=>[(0,AObj.row 132 2 [[I (l.getD i Dep.zero).how,I (l.getD i Dep.zero).job]])]) (leaf:=(i1:Int)) (foll hR (ct h5 rfl)) ?_;exact tt [0] (tO rfl (ts Dep.lo) .nil) t1
     ·exact Qz0 (i1+1) (wk [0] (tO rfl (ts Dep.lo) .nil) (sl lw (sv (Qu0 .nil (cv (Q00 0 rfl rfl) .nil)) (s1 (s1 (sv (Qa0 (I_eq (wr omA)) lx) .nil)))))) omA ⟨foll hR (cf h6 rfl),by exact omA⟩
    ·rw [Ql0 (l:=(List.take i l)) (j:=i1) (geA h4)] at hR;refine Qp0 (fun r:Int=>I r) (fun r:Int=>[(0,AObj.row 132 2 [[I (l.getD i Dep.zero).how,I (l.getD i Dep.zero).job]])]) (leaf:=(-1)) (foll hR rfl) ?_;exact tt [0] (tO rfl (ts Dep.lo) .nil) t1
   refine us (mv [0] (hof2) (dO (ds Dep.lo) .nil) (dl lw (dv (dn_fn .nil (dp .nil)) .nil)) (rO (re Dep.lo) .nil) rx) ?_;refine Qp0 (fun r:Bool=>Bo r) (fun r:Bool=>[(0,AObj.row 132 2 [[I (l.getD i Dep.zero).how,I (l.getD i Dep.zero).job]])]) (leaf:=(decide ((Q81 (List.take i l) (fun (y:Dep)=>(y.job==(l.getD i Dep.zero).job))) >= 0))) (foll hR rfl) ?_;exact tt [0] (tO rfl (ts Dep.lo) .nil) t1
  refine us (mv [0] (hof1) (dO (ds Dep.lo) .nil) (dv (dn_as (as_take l i ckA) lw) (dv (dn_fn .nil (dp .nil)) .nil)) (rO (re Dep.lo) .nil) rx) ?_;refine us (QJ2 ((l.getD i Dep.zero).how) 1 3 _) ?_;(first|apply u2|apply u3|apply u4|apply us);exact Qrc ((l.getD i Dep.zero).job) _;refine ai (fun h7=>?_) (fun h8=>?_)
  ·obtain rfl:=foll hR (ct h7 rfl);exact Q10 lx sr
  ·exact Qz0 (i+1) (wk [] .nil (sl lw (s1 (sl lw (s1 (sv (Qa0 (I_eq (wr omA)) lx) .nil)))))) omA ⟨foll hR (cf h8 rfl),by exact omA⟩
 ·rw [Ql0 (l:=l) (j:=i) (geA h2)] at hR;obtain rfl:=foll hR rfl;exact Q10 lx sr
def cmd_Same (a:Cmd) (b:Cmd):Bool:=bif ((!(Qvb a.shape b.shape))||(!(Qj6 a.after b.after))) then false else ((((((((((((a.kind==b.kind)&&(a.job==b.job))&&(ByteArray.toList a.name==ByteArray.toList b.name))&&(ByteArray.toList a.user==ByteArray.toList b.user))&&(ByteArray.toList a.account==ByteArray.toList b.account))&&(a.prio==b.prio))&&(a.hasPrio==b.hasPrio))&&(a.time==b.time))&&(a.hasTime==b.hasTime))&&(a.node==b.node))&&(a.nodes==b.nodes))&&(a.from_==b.from_))
theorem cmd_Same_c (a:Cmd) (b:Cmd) (hs0:a.sz) (hs1:b.sz):GV 209 [Cmd.a a,Cmd.a b] (Bo (cmd_Same a b)):=by
 generalize hR:cmd_Same a b=R;refine ga (.cons (Cmd.low _ _) (.cons (Cmd.low _ _) .nil)) lx (kp 5 [18]) Tryz.func209 ?_;have hk0:=hs0;obtain ⟨z3,z4,z5,z6,z7⟩:a.name.size<=4294967296∧a.user.size<=4294967296∧a.account.size<=4294967296∧(a.shape.alts.length<=4294967296)∧a.after.length<=4294967296:=hs0;have hk1:=hs1;obtain ⟨z8,z9,z10,z11,z12⟩:b.name.size<=4294967296∧b.user.size<=4294967296∧b.account.size<=4294967296∧(b.shape.alts.length<=4294967296)∧b.after.length<=4294967296:=hs1;refine us (shape_Same_c a.shape b.shape szA szA _) ?_;(first|apply u2|apply u3|apply u4|apply us);exact QXa a.after b.after szA szA _;refine ai (fun h1=>?_) (fun h2=>?_)
 ·obtain rfl:=foll hR (ct h1 rfl);exact Q10 lx sr
 ·obtain rfl:=foll hR (cf h2 rfl);exact Q10 lx sr
def Qza (set_:Int):Bool:=((wu64 (BitVec.ofInt 64 set_ &&& ~~~(BitVec.ofInt 64 (Q1a 48))).toNat)==0)
theorem Q78 (set_:Int):GV 145 [U set_] (Bo (Qza set_)):=by
 generalize hR:Qza set_=R;refine ga (l1 .nil) lx (kp 3 []) Tryz.func145 ?_;refine us (nodeset_All_c 48 _) ?_;obtain rfl:=foll hR rfl;exact Q10 lx sr
def Qb2 (x_:Node):Bool:=bif ((((decide (x_.epoch<0))||(decide (x_.epoch > 999999999)))||(!(QB6 x_.since)))||(!(QB6 x_.asked))) then false else bif (x_.state==0) then ((x_.job==0)&&(QE0 ([0]:List Int) x_.want)) else bif (x_.state==1) then (((decide (x_.job >= 1))&&(decide (x_.job<=99999)))&&(QE0 ([0,1,3,4]:List Int) x_.want)) else bif (x_.state==2) then (((decide (x_.job >= 1))&&(decide (x_.job<=99999)))&&(QE0 ([0,2]:List Int) x_.want)) else bif (x_.state==3) then (((decide (x_.job >= 1))&&(decide (x_.job<=99999)))&&(QE0 ([5]:List Int) x_.want)) else bif (x_.state==4) then ((x_.job==0)&&(QE0 ([0,6]:List Int) x_.want)) else false
theorem fleet_fine_c (x_:Node):GV 170 [Node.a x_] (Bo (Qb2 x_)):=by
 generalize hR:Qb2 x_=R;refine ga (.cons (Node.low _ _) .nil) lx (kp 5 [24,35,36,41,44,47,50]) Tryz.func170 ?_;(first|apply u2|apply u3|apply u4|apply us);exact QJ8 x_.since _;(first|apply u2|apply u3|apply u4|apply us);exact QJ8 x_.asked _;refine ai (fun h1=>?_) (fun h2=>?_)
 ·obtain rfl:=foll hR (ct h1 rfl);exact Q10 lx sr
 ·refine Or.inl ?_;refine ai (fun h3=>?_) (fun h4=>?_)
  ·(first|apply u2|apply u3|apply u4|apply us);exact AGives.as2 (Qn1 ([0]:List Int) x_.want szA _) (av (QW4 (c:=(fun q_=>[I q_])) (d:=0) ([0]:List Int) rfl) (a1 .nil));obtain rfl:=foll hR (cf h2 (ct h3 rfl));exact Q10 lx sr
  ·refine ai (fun h5=>?_) (fun h6=>?_)
   ·refine Or.inl ?_;(first|apply u2|apply u3|apply u4|apply us);exact AGives.as2 (Qn1 ([0,1,3,4]:List Int) x_.want szA _) (av (QW4 (c:=(fun q_=>[I q_])) (d:=0) ([0,1,3,4]:List Int) rfl) (a1 .nil));obtain rfl:=foll hR (cf h2 (cf h4 (ct h5 rfl)));exact Q10 lx sr
   ·refine ai (fun h7=>?_) (fun h8=>?_)
    ·refine Or.inl ?_;(first|apply u2|apply u3|apply u4|apply us);exact AGives.as2 (Qn1 ([0,2]:List Int) x_.want szA _) (av (QW4 (c:=(fun q_=>[I q_])) (d:=0) ([0,2]:List Int) rfl) (a1 .nil));obtain rfl:=foll hR (cf h2 (cf h4 (cf h6 (ct h7 rfl))));exact Q10 lx sr
    ·refine ai (fun h9=>?_) (fun h10=>?_)
     ·refine Or.inl ?_;(first|apply u2|apply u3|apply u4|apply us);exact AGives.as2 (Qn1 ([5]:List Int) x_.want szA _) (av (QW4 (c:=(fun q_=>[I q_])) (d:=0) ([5]:List Int) rfl) (a1 .nil));obtain rfl:=foll hR (cf h2 (cf h4 (cf h6 (cf h8 (ct h9 rfl)))));exact Q10 lx sr
     ·refine ai (fun h11=>?_) (fun h12=>?_)
      ·refine Or.inl ?_;(first|apply u2|apply u3|apply u4|apply us);exact AGives.as2 (Qn1 ([0,6]:List Int) x_.want szA _) (av (QW4 (c:=(fun q_=>[I q_])) (d:=0) ([0,6]:List Int) rfl) (a1 .nil));obtain rfl:=foll hR (cf h2 (cf h4 (cf h6 (cf h8 (cf h10 (ct h11 rfl))))));exact Q10 lx sr
      ·obtain rfl:=foll hR (cf h2 (cf h4 (cf h6 (cf h8 (cf h10 (cf h12 rfl))))));exact Q10 lx sr
def QO8 (a:Usage) (b:Usage):Int:=(Qdb ([(Qf1 a.user b.user),(Qf1 a.account b.account)]:List Int))
theorem QC9 (a:Usage) (b:Usage) (hs0:a.sz) (hs1:b.sz):GV 159 [Usage.a a,Usage.a b] (I (QO8 a b)):=by
 generalize hR:QO8 a b=R;refine ga (.cons (Usage.low _ _) (.cons (Usage.low _ _) .nil)) lx (kp 5 []) Tryz.func159 ?_;obtain ⟨z1,z2⟩:=Usage.zz hs0;obtain ⟨z3,z4⟩:=Usage.zz hs1;refine dchk (by kernel_rfl) ?_;(first|apply u2|apply u3|apply u4|apply us);exact Qj3 a.user b.user _;(first|apply u2|apply u3|apply u4|apply us);exact Qj3 a.account b.account _;(first|apply u2|apply u3|apply u4|apply us);exact AGives.as2 (QDb ([(Qf1 a.user b.user),(Qf1 a.account b.account)]:List Int) szA _) (av (QW4 (c:=(fun q_=>[I q_])) (d:=0) ([(Qf1 a.user b.user),(Qf1 a.account b.account)]:List Int) rfl) .nil);(repeat ((first|refine ai rfl ?_|refine ai (fun _=>rfl) ?_|refine ai (fun _=>Qj3 a.user b.user _) ?_|refine ai (fun _=>Qj3 a.account b.account _) ?_|refine ai (fun _=>AGives.as2 (QDb ([(Qf1 a.user b.user),(Qf1 a.account b.account)]:List Int) szA _) (av (QW4 (c:=(fun q_=>[I q_])) (d:=0) ([(Qf1 a.user b.user),(Qf1 a.account b.account)]:List Int) rfl) .nil)) ?_)));obtain rfl:=foll hR rfl;exact Q10 lx sr
def QY5 (is:Int->Node->Bool):List Node->List Int->Nat->(List Int)
 | [],l,_=>l
 | x_ :: r,l,i=>bif (is (i:Int) x_) then QY5 is r (l++([(i:Int)]:List Int)) (i+1) else QY5 is r l (i+1)
def Q94 (l:List Int):Int:=(QF4 l).1
def QO5 (s:State) (is:Int->Node->Bool):Int:=Q94 (QY5 is s.nodes [] 0)
def QB7 (s:State) (jobs:List (Int × Job)) (all_:List (Int × Resize)):List Node->Nat->Bool
 | [],_=>true
 | x_ :: r,i=>bif ((x_.state==1)&&((!(getM x_.job jobs).isSome)||(!(Qe8 (((getM x_.job jobs).getD Job.zero).nodes) (i:Int))))) then false else bif ((x_.state==2)&&(!(getM x_.job jobs).isSome)) then false else bif (((x_.state==2)||(x_.want==4))&&(!(Qe8 (((getM x_.job all_).getD Resize.zero).nodes) (i:Int)))) then false else bif ((x_.state==3)&&(decide (x_.job >= s.nextJob))) then false else QB7 s jobs all_ r (i+1)
def Qr8 (s:State) (jobs:List (Int × Job)) (all_:List (Int × Resize)):Bool:=QB7 s jobs all_ s.nodes 0
theorem state_nodes_c (s:State) (jobs:List (Int × Job)) (all_:List (Int × Resize)) (hs0:s.sz):AMoves Tryz.prog 40 [State.a s,AVal.map 0,AVal.map 1] [(0,AObj.other (.map (mapEs ik Job.a 0 jobs) jobs.length)),(0,AObj.other (.map (mapEs ik Resize.a 0 all_) all_.length))] 2 (Bo (Qr8 s jobs all_)) [(0,AObj.other (.map (mapEs ik Job.a 0 jobs) jobs.length)),(0,AObj.other (.map (mapEs ik Resize.a 0 all_) all_.length))]:=by
 generalize hR:Qr8 s jobs all_=R;refine mo (kp 12 [13,14,15,16,35,50,58,70]) Tryz.func40 ?_;have hk0:=hs0;obtain ⟨z11,z12,z13,z14,z15,z16,z17⟩:=hs0;refine Qs0 (fun (i:Nat)=>QB7 s jobs all_ (List.drop i s.nodes) i=R∧i<=s.nodes.length) (fun i=>s.nodes.length - i) (fun i=>[(1,AVal.map 0),(2,AVal.map 1),(3,AVal.ptr 2 0 8 0 0),(6,Bo false),(13,nodeL s.nodes),(14,I (s.nodes.length:Int)),(15,I (i:Int))]) (fun i=>[(0,AObj.other (.map (mapEs ik Job.a 0 jobs) jobs.length)),(0,AObj.other (.map (mapEs ik Resize.a 0 all_) all_.length)),(0,AObj.row 28 8 [[I s.now,nodeL s.nodes,jobL s.jobs,Qq1 s.resizes,bookL s.books,Qt1 s.ledger,I s.nextJob,I s.nextBook]])]) 0 (wk [0,1,2] (tO rfl (Qb0 _ rfl rfl (fun _=>Job.low _ _)) (tO rfl (Qb0 _ rfl rfl (fun _=>Resize.low _ _)) (tO rfl (ts State.lo) .nil))) (sv (QK0 0 rfl rfl) (sv (QK0 1 rfl rfl) (sv (Q00 2 rfl rfl) (s1 (sl lw (s1 (s1 .nil)))))))) ⟨foll hR rfl,by exact omA⟩ ?_;clear hR;rintro i ⟨hR,hj⟩;(try dsimp only at hR hj);refine ai (fun h1=>?_) (fun h2=>?_)
 ·have hlt:=ltA h1;rw [Qi0 Node.zero hlt] at hR;refine ai gkA ?_;(first|refine ⟨_,_,Q61 rfl _ _,QL0 (ek:=ik) ((s.nodes.getD i Node.zero).job) jobs Job.zero (as_agg (a1 (a1 (a1 (a1 (a1 (av (Qm6) (a1 (a1 (a1 (a1 (av (Qm6) (a1 (a1 (a1 (a1 (a1 (a1 (a1 (a1 (a1 .nil))))))))))))))))))))),?_⟩|refine ⟨_,fun _=>⟨_,_,Q61 rfl _ _,QL0 (ek:=ik) ((s.nodes.getD i Node.zero).job) jobs Job.zero (as_agg (a1 (a1 (a1 (a1 (a1 (av (Qm6) (a1 (a1 (a1 (a1 (av (Qm6) (a1 (a1 (a1 (a1 (a1 (a1 (a1 (a1 (a1 .nil))))))))))))))))))))),rfl,rfl⟩,?_⟩|refine ⟨_,rfl,⟨_,_,Q61 rfl _ _,QL0 (ek:=ik) ((s.nodes.getD i Node.zero).job) jobs Job.zero (as_agg (a1 (a1 (a1 (a1 (a1 (av (Qm6) (a1 (a1 (a1 (a1 (av (Qm6) (a1 (a1 (a1 (a1 (a1 (a1 (a1 (a1 (a1 .nil))))))))))))))))))))),Sub.refl _,rfl⟩,?_⟩);(first|apply u2|apply u3|apply u4|apply us);exact QNa (((getM (s.nodes.getD i Node.zero).job jobs).getD Job.zero).nodes) (i:Int) _;refine ai (fun h3=>?_) (fun h4=>?_)
  ·obtain rfl:=foll hR (ct h3 rfl);exact rq (tt [0,1] (tO rfl (Qb0 _ rfl rfl (fun _=>Job.low _ _)) (tO rfl (Qb0 _ rfl rfl (fun _=>Resize.low _ _)) .nil)) t1)
  ·refine ai (fun h5=>?_) (fun h6=>?_)
   ·obtain rfl:=foll hR (cf h4 (ct h5 rfl));exact rq (tt [0,1] (tO rfl (Qb0 _ rfl rfl (fun _=>Job.low _ _)) (tO rfl (Qb0 _ rfl rfl (fun _=>Resize.low _ _)) .nil)) t1)
   ·(first|refine ⟨_,_,Q61 rfl _ _,QL0 (ek:=ik) ((s.nodes.getD i Node.zero).job) all_ Resize.zero (AsA.refl _),?_⟩|refine ⟨_,fun _=>⟨_,_,Q61 rfl _ _,QL0 (ek:=ik) ((s.nodes.getD i Node.zero).job) all_ Resize.zero (AsA.refl _),rfl,rfl⟩,?_⟩|refine ⟨_,rfl,⟨_,_,Q61 rfl _ _,QL0 (ek:=ik) ((s.nodes.getD i Node.zero).job) all_ Resize.zero (AsA.refl _),Sub.refl _,rfl⟩,?_⟩);(first|apply u2|apply u3|apply u4|apply us);exact QNa (((getM (s.nodes.getD i Node.zero).job all_).getD Resize.zero).nodes) (i:Int) _;refine ai (fun h7=>?_) (fun h8=>?_)
    ·obtain rfl:=foll hR (cf h4 (cf h6 (ct h7 rfl)));exact rq (tt [0,1] (tO rfl (Qb0 _ rfl rfl (fun _=>Job.low _ _)) (tO rfl (Qb0 _ rfl rfl (fun _=>Resize.low _ _)) .nil)) t1)
    ·refine ai (fun h9=>?_) (fun h10=>?_)
     ·obtain rfl:=foll hR (cf h4 (cf h6 (cf h8 (ct h9 rfl))));exact rq (tt [0,1] (tO rfl (Qb0 _ rfl rfl (fun _=>Job.low _ _)) (tO rfl (Qb0 _ rfl rfl (fun _=>Resize.low _ _)) .nil)) t1)
     ·exact Qz0 (i+1) (wk [0,1,2] (tO rfl (Qb0 _ rfl rfl (fun _=>Job.low _ _)) (tO rfl (Qb0 _ rfl rfl (fun _=>Resize.low _ _)) (tO rfl (ts State.lo) .nil))) (sv (QK0 0 rfl rfl) (sv (QK0 1 rfl rfl) (sv (Q00 2 rfl rfl) (s1 (sl lw (s1 (sv (Qa0 (I_eq (wr omA)) lx) .nil)))))))) omA ⟨foll hR (cf h4 (cf h6 (cf h8 (cf h10 rfl)))),by exact omA⟩
 ·rw [Ql0 (l:=s.nodes) (j:=i) (geA h2)] at hR;obtain rfl:=foll hR rfl;exact rq (tt [0,1] (tO rfl (Qb0 _ rfl rfl (fun _=>Job.low _ _)) (tO rfl (Qb0 _ rfl rfl (fun _=>Resize.low _ _)) .nil)) t1)
def Qxc (l:List Int):Int:=(QDd 1000000000000 l).1
theorem sat_Plus_c (l:List Int) (hs0:l.length<=4294967296):GV 247 [ints l] (I (Qxc l)):=by
 generalize hR:Qxc l=R;refine ga (.cons lw .nil) lx (kp 5 []) Tryz.func247 ?_;have hk0:=hs0;obtain z1:l.length<=4294967296:=hs0;refine us (sat_sum_c 1000000000000 l szA _) ?_;obtain rfl:=foll hR rfl;exact Q10 lx sr
def QY3 (c4:List Step):(List Step) × Int:=bif ((Qm2 c4)!=0) then ([],3) else (c4,0)
def Qu7 :List Step->Nat->List Step->(List Step)
 | [],_,c5=>c5
 | x_ :: r,i2,c5=>Qu7 r (i2+1) (Qd1 x_.at_ x_.free c5)
def QZ3 (c5:List Step):(List Step) × Int:=QY3 c5
def QX3 (p_:List Step) (to_:Int) (i:Int) (last:Int) (c2:List Step):(List Step) × Int:=bif (i==(p_.length:Int)) then bif (decide (to_<=1000000)) then QY3 (Qd1 to_ last c2) else QY3 c2 else QZ3 (Qu7 (List.drop (Int.toNat i) p_) 0 c2)
def QW3 (p_:List Step) (to_:Int) (n:Int):Nat->Int->Int->List Step->(List Step) × Int
 | 0,_,_,_=>([],0)
 | m+1,i1,last1,c3=>bif (decide (i1<(p_.length:Int))) then bif (decide ((p_.getD (Int.toNat i1) Step.zero).at_<to_)) then QW3 p_ to_ n m (w64 (i1+1)) ((p_.getD (Int.toNat i1) Step.zero).free) (Qd1 ((p_.getD (Int.toNat i1) Step.zero).at_) (w64 ((p_.getD (Int.toNat i1) Step.zero).free+n)) c3) else bif (decide ((p_.getD (Int.toNat i1) Step.zero).at_ > to_)) then QX3 p_ to_ i1 ((p_.getD (Int.toNat i1) Step.zero).free) (Qd1 to_ ((p_.getD (Int.toNat (w64 (i1 - 1))) Step.zero).free) c3) else QX3 p_ to_ i1 ((p_.getD (Int.toNat i1) Step.zero).free) c3 else QX3 p_ to_ i1 last1 c3
def QU5 (p_:List Step) (from_:Int) (to_:Int) (n:Int) (c:List Step):(List Step) × Int:=QW3 p_ to_ n ((Int.toNat ((p_.length:Int) - (w64 ((Qj0 p_ from_)+1))))+1) (w64 ((Qj0 p_ from_)+1)) ((p_.getD (Int.toNat (Qj0 p_ from_)) Step.zero).free) (Qd1 from_ (w64 ((p_.getD (Int.toNat (Qj0 p_ from_)) Step.zero).free+n)) c)
def Qi2 (p_:List Step) (from_:Int) (to_:Int) (n:Int):(List Step) × Int:=bif ((Qm2 p_)!=0) then ([],100) else bif (((!(QK5 from_))||(decide (to_<from_)))||(!(Qa7 n))) then ([],2) else bif (to_==from_) then (p_,0) else bif (decide ((p_.getD (Int.toNat (Qj0 p_ from_)) Step.zero).at_<from_)) then QU5 p_ from_ to_ n (Qd1 ((p_.getD (Int.toNat (Qj0 p_ from_)) Step.zero).at_) ((p_.getD (Int.toNat (Qj0 p_ from_)) Step.zero).free) (List.take (Int.toNat (Qj0 p_ from_)) p_)) else QU5 p_ from_ to_ n (List.take (Int.toNat (Qj0 p_ from_)) p_)
theorem b2a0 {P:Prop} (h:P:=by first|((exact ⟨by omega,by omega,Nat.le_trans (Q43 _ _ _) (by omega)⟩))|first|((exact ⟨by omega,by omega,by omega⟩))|first|((rw [hw1];exact ⟨by omega,by omega,Int.le_trans (Int.ofNat_le.2 (Q43 _ _ _)) (by omega)⟩))|first|((rw [hw];exact ⟨by omega,by omega,Int.le_trans (Int.ofNat_le.2 (Q43 _ _ _)) (by omega)⟩))|first|(((try dsimp only);refine Nat.le_trans (Q43 _ _ _) ?_;first|omega|(simp;omega)))|first|(((try dsimp only);rw [List.length_drop] at *;omega))|first|((simp;omega))|exact exA):P:=h
theorem b2a1 {P:Prop} (h:P:=by first|((refine Nat.le_trans (Q43 _ _ _) ?_;omega))|first|((simp;omega))|exact szA):P:=h
theorem Qj8 (p_:List Step) (from_:Int) (to_:Int) (n:Int) (hs0:p_.length<=4294967296):GV 131 [stepL p_,I from_,I to_,I n] (AVal.tup [stepL ((Qi2 p_ from_ to_ n).1),I ((Qi2 p_ from_ to_ n).2)]):=by
 generalize hR:Qi2 p_ from_ to_ n=R;refine ga (.cons lw (l1 (l1 (l1 .nil)))) (Low.tup' (.cons lw (l1 .nil))) (kj [1000014,1000024,1000032] 17 [17,21,35,58,91,99,117,137,139,146,147,148,149,161]) Tryz.func131 ?_;have hk0:=hs0;obtain z23:p_.length<=4294967296:=hs0;refine us (Qt4 p_ b2a1 _) ?_;refine ai (fun h1=>?_) (fun h2=>?_)
 ·obtain rfl:=foll hR (ct h1 rfl);exact Q10 (Low.tup' (.cons lw (l1 .nil))) (Seen.tup (ev (Q50) (e1 .nil)))
 ·refine us (QXb from_ _) ?_;(first|apply u2|apply u3|apply u4|apply us);exact Qv7 n _;refine ai (fun h3=>?_) (fun h4=>?_)
  ·obtain rfl:=foll hR (cf h2 (ct h3 rfl));exact Q10 (Low.tup' (.cons lw (l1 .nil))) (Seen.tup (ev (Q50) (e1 .nil)))
  ·refine ai (fun h5=>?_) (fun h6=>?_)
   ·refine us (mv [] (Q5a p_ b2a1) .nil (dl lw .nil) (rO rr .nil) (rw_ 0 0 rfl)) ?_;obtain rfl:=foll hR (cf h2 (cf h4 (ct h5 rfl)));exact Q10 (Low.tup' (.cons lw (l1 .nil))) (Seen.tup (ev (Qn0 Step.zero _ rfl eqA lnA) (e1 .nil)))
   ·refine us (QT8 p_ from_ b2a1 _) ?_;have hc:=QJ5 (p:=p_) (by assumption);have hp:=Qz8 hc.1 hc.2.1 hc.2.2 (QOa (by assumption));have hw:w64 (Qj0 p_ from_+1)=Qj0 p_ from_+1:=wr (by omega);refine ai gkA ?_;(first|refine ⟨Qp1 16 rfl lnA apA,?_⟩|refine ⟨QN0 16 rfl apA,?_⟩);refine Qx1 (fun (c:List Step)=>QU5 p_ from_ to_ n c=R∧c.length<=Int.toNat (Qj0 p_ from_)+1) (fun c=>[(0,stepL p_),(1,I from_),(2,I to_),(3,I n),(8,AVal.lit (.slice none 0 0)),(9,I 0),(10,AVal.ptr 0 0 1 0 0),(11,AVal.fn (.func 191) [] [AVal.ptr 0 0 1 0 0]),(12,I (Qj0 p_ from_))]) (fun c=>[(0,AObj.row 92 1 [[AVal.own 1 0 2 0 c.length]]),(0,AObj.row 155 2 (c.map Step.cells))]) ?_ ?_
    ·clear hR;rintro c ⟨hR,hx⟩;(try dsimp only at hR hx);refine ai gkA ?_;refine us (mv [0,1] (QW2 from_ (w64 ((p_.getD (Int.toNat (Qj0 p_ from_)) Step.zero).free+n)) c b2a1) (dO (dc (dv (Qn4 rfl lnA) .nil)) (dO (dr eqA) .nil)) (d1 (d1 (dp .nil))) (rO (rc (.cons _ _ _ _ (rw_ 2 0 rfl) .nil)) (rO rr .nil)) rx) ?_;refine ai gkA ?_;refine Qgd (fun (i:Int) (last:Int) (c2:List Step)=>QX3 p_ to_ i last c2=R∧1<=i∧i<=(p_.length:Int)∧c2.length<=1003) (fun i last c2=>[(0,stepL p_),(2,I to_),(8,AVal.lit (.slice none 0 0)),(9,I 0),(10,AVal.ptr 0 0 1 0 0),(11,AVal.fn (.func 191) [] [AVal.ptr 0 0 1 0 0]),(12,I i),(14,I last)]) (fun i last c2=>[(0,AObj.row 92 1 [[AVal.own 1 0 2 0 c2.length]]),(0,AObj.row 155 2 (c2.map Step.cells))]) ?_ ?_
     ·clear hR;rintro i last c2 ⟨hR,hx⟩;(try dsimp only at hR hx);refine Qx1 (fun (c4:List Step)=>QY3 c4=R∧c4.length<=4000) (fun c4=>[(8,AVal.lit (.slice none 0 0)),(9,I 0),(10,AVal.ptr 0 0 1 0 0)]) (fun c4=>[(0,AObj.row 92 1 [[AVal.own 1 0 2 0 c4.length]]),(0,AObj.row 155 2 (c4.map Step.cells))]) ?_ ?_
      ·clear hR;rintro c4 ⟨hR,hx⟩;(try dsimp only at hR hx);refine us (AGives.lent (Qt4 c4 b2a1 []) (ev (Qn0 _ _ rfl eqA lnA) .nil) (.cons lw .nil) (QA5 rfl)) ?_;refine ai (fun h7=>?_) (fun h8=>?_)
       ·obtain rfl:=foll hR (ct h7 rfl);exact Q10 (Low.tup' (.cons lw (l1 .nil))) (Seen.tup (ev (Q50) (e1 .nil)))
       ·obtain rfl:=foll hR (cf h8 rfl);exact Q10 (Low.tup' (.cons lw (l1 .nil))) (Seen.tup (ev (Qn0 Step.zero _ rfl eqA lnA) (e1 .nil)))
      ·refine ai (fun h9=>?_) (fun h10=>?_)
       ·refine ai (fun h11=>?_) (fun h12=>?_)
        ·have qh11:=of_decide_eq_true h11;refine us (mv [0,1] (QW2 to_ last c2 b2a1) (dO (dc (dv (Qn4 rfl lnA) .nil)) (dO (dr eqA) .nil)) (d1 (d1 (dp .nil))) (rO (rc (.cons _ _ _ _ (rw_ 2 0 rfl) .nil)) (rO rr .nil)) rx) ?_;exact Qo0 (Qd1 to_ last c2) (wk [0,2] (tO rfl (Q90 (cv (to 1 lnA) .nil)) (tO rfl (tl eqA) .nil)) (s1 (s1 (sv (Q00 0 rfl rfl) .nil)))) (⟨foll hR (ct h9 (ct h11 rfl)),b2a0⟩)
        ·have qh12:=of_decide_eq_false h12;exact Qo0 c2 (wk [0,1] (tO rfl (Q90 (cv (to 1 lnA) .nil)) (tO rfl (tl eqA) .nil)) (s1 (s1 (sv (Q00 0 rfl rfl) .nil)))) (⟨foll hR (ct h9 (cf h12 rfl)),b2a0⟩)
       ·refine ai gkA ?_;refine Qq0 (fun (i2:Nat) (c5:List Step)=>QZ3 (Qu7 (List.drop i2 (List.drop (Int.toNat i) p_)) i2 c5)=R∧i2<=(List.drop (Int.toNat i) p_).length∧c5.length<=2000+i2) (fun i2 c5=>(List.drop (Int.toNat i) p_).length - i2) (fun i2 c5=>[(8,AVal.lit (.slice none 0 0)),(9,I 0),(10,AVal.ptr 0 0 1 0 0),(11,AVal.fn (.func 191) [] [AVal.ptr 0 0 1 0 0]),(146,stepL (List.drop (Int.toNat i) p_)),(147,I ((List.drop (Int.toNat i) p_).length:Int)),(148,I (i2:Int))]) (fun i2 c5=>[(0,AObj.row 92 1 [[AVal.own 1 0 2 0 c5.length]]),(0,AObj.row 155 2 (c5.map Step.cells))]) 0 c2 (wk [0,1] (tO rfl (Q90 (cv (to 1 lnA) .nil)) (tO rfl (tl eqA) .nil)) (s1 (s1 (sv (Q00 0 rfl rfl) (sv (Qu0 .nil (cv (Q00 0 rfl rfl) .nil)) (sv (turn_as (as_drop p_ (Int.toNat i) _ leA) lw) (sv (Qa0 (I_eq (by simp)) lx) (s1 .nil)))))))) ⟨foll hR (cf h10 rfl),by exact omA,b2a0⟩ ?_;clear hR;rintro i2 c5 ⟨hR,hj,hx⟩;(try dsimp only at hR hj hx);refine ai (fun h13=>?_) (fun h14=>?_)
        ·have hlt:=ltA h13;rw [Qi0 Step.zero hlt] at hR;have hdl:(List.drop (Int.toNat i) p_).length<=1000:=(by rw [List.length_drop];omega);refine ai gkA ?_;refine us (mv [0,1] (QW2 (((List.drop (Int.toNat i) p_).getD i2 Step.zero).at_) (((List.drop (Int.toNat i) p_).getD i2 Step.zero).free) c5 b2a1) (dO (dc (dv (Qn4 rfl lnA) .nil)) (dO (dr eqA) .nil)) (d1 (d1 (dp .nil))) (rO (rc (.cons _ _ _ _ (rw_ 3 0 rfl) .nil)) (rO rr .nil)) rx) ?_;exact Qd0 (i2+1) (Qd1 ((List.drop (Int.toNat i) p_).getD i2 Step.zero).at_ ((List.drop (Int.toNat i) p_).getD i2 Step.zero).free c5) (wk [0,3] (tO rfl (Q90 (cv (to 1 lnA) .nil)) (tO rfl (tl eqA) .nil)) (s1 (s1 (sv (Q00 0 rfl rfl) (sv (Qu0 .nil (cv (Q00 0 rfl rfl) .nil)) (sl lw (sv (Qa0 (I_eq (by simp)) lx) (sv (Qa0 (I_eq (wr omA)) lx) .nil)))))))) omA ⟨foll hR (congrArg (fun p:(List Step)=>QZ3 p) rfl),by exact omA,b2a0⟩
        ·rw [Ql0 (l:=(List.drop (Int.toNat i) p_)) (j:=i2) (geA h14)] at hR;replace hR:QZ3 c5=R:=fo2 (fun p:(List Step)=>QZ3 p) (c5) hR rfl;exact Qo0 c5 (wk [0,1] (tO rfl (Q90 (cv (to 1 lnA) .nil)) (tO rfl (tl eqA) .nil)) (s1 (s1 (sv (Q00 0 rfl rfl) .nil)))) (⟨foll hR rfl,b2a0⟩)
     ·refine Qr4 (fun (i1:Int) (last1:Int) (c3:List Step)=>∃ m,(Int.toNat ((p_.length:Int) - i1))<m∧QW3 p_ to_ n m i1 last1 c3=R∧1<=i1∧i1<=(p_.length:Int)∧(c3.length:Int)<=i1+1) (fun i1 last1 c3=>(Int.toNat ((p_.length:Int) - i1))) (fun i1 last1 c3=>[(0,stepL p_),(2,I to_),(3,I n),(8,AVal.lit (.slice none 0 0)),(9,I 0),(10,AVal.ptr 0 0 1 0 0),(11,AVal.fn (.func 191) [] [AVal.ptr 0 0 1 0 0]),(12,I i1),(14,I last1)]) (fun i1 last1 c3=>[(0,AObj.row 92 1 [[AVal.own 1 0 2 0 c3.length]]),(0,AObj.row 155 2 (c3.map Step.cells))]) (w64 ((Qj0 p_ from_)+1)) ((p_.getD (Int.toNat (Qj0 p_ from_)) Step.zero).free) (Qd1 from_ (w64 ((p_.getD (Int.toNat (Qj0 p_ from_)) Step.zero).free+n)) c) (wk [0,2] (tO rfl (Q90 (cv (to 1 lnA) .nil)) (tO rfl (tl eqA) .nil)) (sl lw (s1 (s1 (s1 (s1 (sv (Q00 0 rfl rfl) (sv (Qu0 .nil (cv (Q00 0 rfl rfl) .nil)) (s1 (s1 .nil)))))))))) ⟨_,Nat.lt_succ_self _,foll hR rfl,b2a0⟩ ?_;clear hR;rintro i1 last1 c3 ⟨m,hm,hR,hx⟩;(try dsimp only at hR hm hx);obtain ⟨m,rfl⟩:=sucA m;refine ai (fun h15=>?_) (fun h16=>?_)
      ·have qh15:=of_decide_eq_true h15;have hw1:w64 (i1+1)=i1+1:=wr (by omega);refine ai gkA ?_;refine ai gkA ?_;refine ai (fun h17=>?_) (fun h18=>?_)
       ·have qh17:=of_decide_eq_true h17;refine ai gkA ?_;refine us (mv [0,1] (QW2 ((p_.getD (Int.toNat i1) Step.zero).at_) (w64 ((p_.getD (Int.toNat i1) Step.zero).free+n)) c3 b2a1) (dO (dc (dv (Qn4 rfl lnA) .nil)) (dO (dr eqA) .nil)) (d1 (d1 (dp .nil))) (rO (rc (.cons _ _ _ _ (rw_ 2 0 rfl) .nil)) (rO rr .nil)) rx) ?_;exact Qz1 (w64 (i1+1)) ((p_.getD (Int.toNat i1) Step.zero).free) (Qd1 ((p_.getD (Int.toNat i1) Step.zero).at_) (w64 ((p_.getD (Int.toNat i1) Step.zero).free+n)) c3) (wk [0,2] (tO rfl (Q90 (cv (to 1 lnA) .nil)) (tO rfl (tl eqA) .nil)) (sl lw (s1 (s1 (s1 (s1 (sv (Q00 0 rfl rfl) (sv (Qu0 .nil (cv (Q00 0 rfl rfl) .nil)) (s1 (s1 .nil)))))))))) omA ⟨m,by exact omA,foll hR (ct h15 (ct h17 rfl)),b2a0⟩
       ·have qh18:=of_decide_eq_false h18;refine ai gkA ?_;refine ai (fun h19=>?_) (fun h20=>?_)
        ·have qh19:=of_decide_eq_true h19;refine ai gkA ?_;refine us (mv [0,1] (QW2 to_ ((p_.getD (Int.toNat (w64 (i1 - 1))) Step.zero).free) c3 b2a1) (dO (dc (dv (Qn4 rfl lnA) .nil)) (dO (dr eqA) .nil)) (d1 (d1 (dp .nil))) (rO (rc (.cons _ _ _ _ (rw_ 2 0 rfl) .nil)) (rO rr .nil)) rx) ?_;exact QD6 i1 ((p_.getD (Int.toNat i1) Step.zero).free) (Qd1 to_ ((p_.getD (Int.toNat (w64 (i1 - 1))) Step.zero).free) c3) (wk [0,2] (tO rfl (Q90 (cv (to 1 lnA) .nil)) (tO rfl (tl eqA) .nil)) (sl lw (s1 (s1 (s1 (sv (Q00 0 rfl rfl) (sv (Qu0 .nil (cv (Q00 0 rfl rfl) .nil)) (s1 (s1 .nil))))))))) (⟨foll hR (ct h15 (cf h18 (ct h19 rfl))),b2a0⟩)
        ·have qh20:=of_decide_eq_false h20;exact QD6 i1 ((p_.getD (Int.toNat i1) Step.zero).free) c3 (wk [0,1] (tO rfl (Q90 (cv (to 1 lnA) .nil)) (tO rfl (tl eqA) .nil)) (sl lw (s1 (s1 (s1 (sv (Q00 0 rfl rfl) (sv (Qu0 .nil (cv (Q00 0 rfl rfl) .nil)) (s1 (s1 .nil))))))))) (⟨foll hR (ct h15 (cf h18 (cf h20 rfl))),b2a0⟩)
      ·have qh16:=of_decide_eq_false h16;exact QD6 i1 last1 c3 (wk [0,1] (tO rfl (Q90 (cv (to 1 lnA) .nil)) (tO rfl (tl eqA) .nil)) (sl lw (s1 (s1 (s1 (sv (Q00 0 rfl rfl) (sv (Qu0 .nil (cv (Q00 0 rfl rfl) .nil)) (s1 (s1 .nil))))))))) (⟨foll hR (cf h16 rfl),b2a0⟩)
    ·refine ai gkA ?_;refine ai (fun h21=>?_) (fun h22=>?_)
     ·have qh21:=of_decide_eq_true h21;refine dchk (by kernel_rfl) ?_;refine ai gkA ?_;refine ai gkA ?_;(first|apply u2|apply u3|apply u4|apply us);exact mv [0,1] (QW2 ((p_.getD (Int.toNat (Qj0 p_ from_)) Step.zero).at_) ((p_.getD (Int.toNat (Qj0 p_ from_)) Step.zero).free) (List.take (Int.toNat (Qj0 p_ from_)) p_) b2a1) (dO (dc (dv (Qn4 rfl lnA) .nil)) (dO (dr eqA) .nil)) (d1 (d1 (dp .nil))) (rO (rc (.cons _ _ _ _ (rw_ 2 0 rfl) .nil)) (rO rr .nil)) rx;(repeat ((first|refine ai rfl ?_|refine ai (fun _=>rfl) ?_)));exact Qo0 (Qd1 ((p_.getD (Int.toNat (Qj0 p_ from_)) Step.zero).at_) ((p_.getD (Int.toNat (Qj0 p_ from_)) Step.zero).free) (List.take (Int.toNat (Qj0 p_ from_)) p_)) (wk [0,2] (tO rfl (Q90 (cv (to 1 lnA) .nil)) (tO rfl (tl eqA) .nil)) (sl lw (s1 (s1 (s1 (s1 (s1 (sv (Q00 0 rfl rfl) (sv (Qu0 .nil (cv (Q00 0 rfl rfl) .nil)) (s1 .nil)))))))))) (⟨foll hR (cf h2 (cf h4 (cf h6 (ct h21 rfl)))),b2a0⟩)
     ·have qh22:=of_decide_eq_false h22;exact Qo0 (List.take (Int.toNat (Qj0 p_ from_)) p_) (wk [0,1] (tO rfl (Q90 (cv (to 1 lnA) .nil)) (tO rfl (tl eqA) .nil)) (sl lw (s1 (s1 (s1 (s1 (s1 (sv (Q00 0 rfl rfl) (sv (Qu0 .nil (cv (Q00 0 rfl rfl) .nil)) (s1 .nil)))))))))) (⟨foll hR (cf h2 (cf h4 (cf h6 (cf h22 rfl)))),b2a0⟩)
theorem QS6 (p:List Step) (f t n:Int) (hp:p.length<=4294967296):(Qi2 p f t n).1.length<=4294967296:=by
 have k4:∀ c,(QY3 c).1.length<=4294967296:=by
  intro c
  unfold QY3
  cases h:((Qm2 c)!=0) with
  | true=>simp
  | false=>have:=QJ5 h;simp only [cond_false];omega
 have k2:∀ i last c,(QX3 p t i last c).1.length<=4294967296:=by
  intro i last c
  unfold QX3 QZ3
  cases (i==(p.length:Int)) <;> simp only [cond_true,cond_false]
  ·exact k4 _
  ·cases (decide (t<=1000000)) <;> simp only [cond_true,cond_false] <;> exact k4 _
 have g3:∀ m i last c,(QW3 p t n m i last c).1.length<=4294967296:=by
  intro m
  induction m with
  | zero=>intro i last c;simp [QW3]
  | succ m ih =>
   intro i last c
   rw [QW3]
   repeat' first|exact ih _ _ _|exact k2 _ _ _|(rw [Bool.cond_eq_ite];split)
 unfold Qi2 QU5
 repeat' first|exact g3 _ _ _ _|exact hp|(simp;done)|(rw [Bool.cond_eq_ite];split)
end Go.Proofs.YtldebhdmhpopaaaGreatDoor
