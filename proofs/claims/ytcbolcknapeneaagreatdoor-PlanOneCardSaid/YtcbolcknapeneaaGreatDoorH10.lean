/-
  Contracts of functions, printed by a program of this repo (wip/dec). No condition beyond those that stand in each.
-/
import Derived.Test.YtcbolcknapeneaaGreatDoorH9
import Derived.Test.YtcbolcknapeneaaGreatDoorProg
namespace Go.Proofs.YtcbolcknapeneaaGreatDoor
set_option linter.unusedSimpArgs false
set_option linter.unusedVariables false
open Go.Fw
set_option maxRecDepth 20000
set_option maxHeartbeats 4000000
attribute [local irreducible] ACalls AMoves
def QP6 (j:Job):Bool:=(((((Q7b j.shape)&&(decide ((j.after.length:Int)<=100)))&&(decide ((ByteArray.size j.name:Int)<=1000)))&&(decide ((ByteArray.size j.user:Int)<=1000)))&&(decide ((ByteArray.size j.account:Int)<=1000)))
theorem QOd (j:Job):GV 12 [Job.a j] (Bo (QP6 j)):=by
 generalize hR:QP6 j=R;refine ga (.cons (Job.low _ _) .nil) lx (kp 3 []) Tryz.func12 ?_;refine us (law07_Few_c j.shape _) ?_;obtain rfl:=foll hR rfl;exact Q00 lx sr
def Q52 (s:List Node) (f:Node->Bool):Bool:=(decide ((Q62 s f) >= 0))
def Q21 (s:List Int) (v:Int):Bool:=(decide ((Q07 s v) >= 0))
theorem QB1 (s:List Int) (v:Int) (hs0:s.length<=4294967296):GV 137 [ints s,I v] (Bo (Q21 s v)):=by
 generalize hR:Q21 s v=R;refine ga (.cons lw (l1 .nil)) lx (kp 5 []) Tryz.func137 ?_;have hk0:=hs0;obtain z1:s.length<=4294967296:=hs0;refine us (Qyb s v szA _) ?_;obtain rfl:=foll hR rfl;exact Q00 lx sr
def Qs5 (n:Int):Int:=(Q63 n 0 1000000000000)
theorem QU8 (n:Int):GV 73 [I n] (I (Qs5 n)):=by
 generalize hR:Qs5 n=R;refine ga (l1 .nil) lx (kp 3 []) Tryz.func73 ?_;refine us (Q49 n 0 1000000000000 _) ?_;obtain rfl:=foll hR rfl;exact Q00 lx sr
def QK0 (s:List Alt) (f:Alt->Bool):Bool:=(decide ((QT0 s f) >= 0))
def QHb (n:Int):Bool:=(Qt2 n 1 100000)
theorem cmd_length_c (n:Int):GV 253 [I n] (Bo (QHb n)):=by
 generalize hR:QHb n=R;refine ga (l1 .nil) lx (kp 3 []) Tryz.func253 ?_;refine us (QV2 n 1 100000 _) ?_;obtain rfl:=foll hR rfl;exact Q00 lx sr
def Qr5 :List (Nat × Int)->Nat->Int × Int
 | [],n=>((n:Int),0)
 | x_ :: r,n=>bif ((Q11 x_.2)==0) then ((n:Int),40) else Qr5 r (n+1)
def Qp4 (s:ByteArray):Int × Int:=Qr5 (QI6 s) 0
theorem Qsb (s:ByteArray) (hs0:s.size<=4294967296):GV 310 [Sg s] (AVal.tup [I ((Qp4 s).1),I ((Qp4 s).2)]):=by
 generalize hR:Qp4 s=R;refine ga (l1 .nil) (Low.tup' (l1 (l1 .nil))) (kp 7 [8,9,10,14]) Tryz.func310 ?_;have hk0:=hs0;obtain z5:s.size<=4294967296:=hs0;refine Qh0 (fun (n:Nat) (pos:Nat)=>∃ m,ByteArray.size s - pos<=m∧Qr5 (QZ3 s m pos) n=R∧n<=pos) (fun n pos=>ByteArray.size s - pos) (fun n pos=>[(2,I 0),(3,I 0),(4,I (n:Int)),(8,AVal.ptr 0 0 1 0 0)]) (fun n pos=>[(0,AObj.other (.strIter s pos))]) 0 0 (wk [0] (tO rfl (.strIter _ _) .nil) (s1 (s1 (s1 (sv (Q10 0 rfl rfl) .nil))))) ⟨ByteArray.size s,by exact omA,foll hR rfl,by exact exA⟩ ?_;clear hR;rintro n pos ⟨m,hm,hR,hx⟩;(try dsimp only at hR hm hx);refine ai (fun h1=>?_) (fun h2=>?_)
 ·have hlt:=of_decide_eq_true h1;have hw:=Qf7 s pos;have hwe:=Qe7 s pos hlt;obtain ⟨m,rfl⟩:=sucA m;rw [QT2 h1] at hR;refine ai (fun _=>?_) (fun h=>nomatch h);refine us (Qq4 ((pos,((Utf8.decode s pos).1:Int)).2) _) ?_;refine ai (fun h3=>?_) (fun h4=>?_)
  ·obtain rfl:=foll hR (ct h3 rfl);exact Q00 (Low.tup' (l1 (l1 .nil))) (Seen.tup (e1 (e1 .nil)))
  ·exact Q60 (n+1) (pos+(Utf8.decode s pos).2) (wk [0] (tO rfl (.strIter _ _) .nil) (s1 (s1 (sv (Q80 (I_eq (wr omA)) lx) (sv (Q10 0 rfl rfl) .nil))))) omA ⟨m,by exact omA,foll hR (cf h4 rfl),by exact exA⟩
 ·rw [Q35 h2] at hR;refine ai (fun h=>nomatch h) (fun _=>?_);obtain rfl:=foll hR rfl;exact Q00 (Low.tup' (l1 (l1 .nil))) (Seen.tup (e1 (e1 .nil)))
def Qg0 (y:Int):List Int->Nat->Bool
 | [],_=>((false||(y==45))||(y==95))
 | x_ :: r,i=>bif ((Q11 y)==x_) then true else Qg0 y r (i+1)
def QO1 (r_:LexReader):Token × LexReader:=((⟨1,(QA6 ((Q40 r_ (fun (y:Int)=>Qg0 y ([2,3]:List Int) 0)).1)),0,0⟩:Token),(Q40 r_ (fun (y:Int)=>Qg0 y ([2,3]:List Int) 0)).2)
theorem QVb (r_:LexReader) (hs0:r_.sz) (hp0:0<=r_.at_∧r_.at_<=(r_.line.length:Int)∧r_.line.length<=400):AMoves Tryz.prog 377 [AVal.ptr 0 0 4 0 0] [(0,AObj.row 364 4 [[runes r_.line,I r_.at_,I r_.bad,I r_.error]])] 1 (Token.a ((QO1 r_).1)) [(0,AObj.row 364 4 [[runes ((QO1 r_).2.line),I ((QO1 r_).2.at_),I ((QO1 r_).2.bad),I ((QO1 r_).2.error)]])]:=by
 generalize hR:QO1 r_=R;refine mo (kp 5 []) Tryz.func377 ?_;have hk0:=hs0;obtain z7:r_.line.length<=4294967296:=hs0;refine Or.inl ?_;refine ACalls.of_cwp (fun _=>true) Tryz.func362 rfl rfl ?_;refine ⟨_,_,Told.refl,?_⟩;have cl1:∀ (y1:Int),AMoves Tryz.prog 389 [J y1,AVal.ptr 1 0 1 0 0] [(0,AObj.row 44 1 [[ints ([2,3]:List Int)]]),(0,AObj.row 365 1 [[AVal.fn (.func 376) [] [AVal.ptr 0 0 1 0 0]]])] 2 (Bo ((fun (y:Int)=>Qg0 y ([2,3]:List Int) 0) y1)) [(0,AObj.row 44 1 [[ints ([2,3]:List Int)]]),(0,AObj.row 365 1 [[AVal.fn (.func 376) [] [AVal.ptr 0 0 1 0 0]]])]:=by
  intro y1;have hR:(fun (y:Int)=>Qg0 y ([2,3]:List Int) 0) y1=(fun (y:Int)=>Qg0 y ([2,3]:List Int) 0) y1:=rfl;refine mo (kp 4 []) Tryz.func389 ?_;refine ACalls.of_cwp (fun _=>true) Tryz.func376 rfl rfl ?_;refine Qc0 (fun (i:Nat)=>Qg0 y1 (List.drop i ([2,3]:List Int)) i=(fun (y:Int)=>Qg0 y ([2,3]:List Int) 0) y1∧i<=([2,3]:List Int).length) (fun i=>([2,3]:List Int).length - i) (fun i=>[(0,J y1),(3,Bo false),(6,ints ([2,3]:List Int)),(7,I (([2,3]:List Int).length:Int)),(8,I (i:Int))]) (fun i=>[(0,AObj.row 44 1 [[ints ([2,3]:List Int)]]),(0,AObj.row 365 1 [[AVal.fn (.func 376) [] [AVal.ptr 0 0 1 0 0]]])]) 0 (wk [0,1] (tO rfl (ts (lv lw LowL.nil)) (tO rfl (Qd0 (cv (QH0 .nil (cv (Q10 0 rfl rfl) .nil)) .nil)) .nil)) (s1 (s1 (sl lw (s1 (s1 .nil)))))) ⟨foll hR rfl,by exact omA⟩ ?_;clear hR;rintro i ⟨hR,hj⟩;(try dsimp only at hR hj);refine ai (fun h1=>?_) (fun h2=>?_)
  ·(have hlt:i<([2,3]:List Int).length:=by have:=of_decide_eq_true h1;omega);rw [Q90 0 hlt] at hR;refine ai gkA ?_;refine us (Qq4 y1 _) ?_;refine ai (fun h3=>?_) (fun h4=>?_)
   ·refine ⟨_,_,Told.refl,?_⟩;refine Qm0 (fun r:Bool=>Bo r) (fun _=>[(0,AObj.row 44 1 [[ints ([2,3]:List Int)]]),(0,AObj.row 365 1 [[AVal.fn (.func 376) [] [AVal.ptr 0 0 1 0 0]]])]) (leaf:=true) (foll hR (ct h3 rfl)) ?_;exact tt [0,1] (tO rfl (ts (lv lw LowL.nil)) (tO rfl (Qd0 (cv (QH0 .nil (cv (Q10 0 rfl rfl) .nil)) .nil)) .nil)) t1
   ·exact Qi0 (i+1) (wk [0,1] (tO rfl (ts (lv lw LowL.nil)) (tO rfl (Qd0 (cv (QH0 .nil (cv (Q10 0 rfl rfl) .nil)) .nil)) .nil)) (s1 (s1 (sl lw (s1 (sv (Q80 (I_eq (wr omA)) lx) .nil)))))) omA ⟨foll hR (cf h4 rfl),by exact omA⟩
  ·rw [Qf0 (l:=([2,3]:List Int)) (j:=i) (geA h2)] at hR;refine ⟨_,_,Told.refl,?_⟩;refine Qm0 (fun r:Bool=>Bo r) (fun _=>[(0,AObj.row 44 1 [[ints ([2,3]:List Int)]]),(0,AObj.row 365 1 [[AVal.fn (.func 376) [] [AVal.ptr 0 0 1 0 0]]])]) (leaf:=((false||(y1==45))||(y1==95))) (foll hR rfl) ?_;exact tt [0,1] (tO rfl (ts (lv lw LowL.nil)) (tO rfl (Qd0 (cv (QH0 .nil (cv (Q10 0 rfl rfl) .nil)) .nil)) .nil)) t1
 have hof1:AMoves Tryz.prog 363 [AVal.ptr 0 0 4 0 0,AVal.fn (.func 389) [] [AVal.ptr 2 0 1 0 0]] [(0,AObj.row 364 4 [[runes r_.line,I r_.at_,I r_.bad,I r_.error]]),(0,AObj.row 44 1 [[ints ([2,3]:List Int)]]),(0,AObj.row 365 1 [[AVal.fn (.func 376) [] [AVal.ptr 1 0 1 0 0]]])] 3 (Sg ((Q40 r_ (fun (y:Int)=>Qg0 y ([2,3]:List Int) 0)).1)) [(0,AObj.row 364 4 [[runes (((Q40 r_ (fun (y:Int)=>Qg0 y ([2,3]:List Int) 0)).2).line),I (((Q40 r_ (fun (y:Int)=>Qg0 y ([2,3]:List Int) 0)).2).at_),I (((Q40 r_ (fun (y:Int)=>Qg0 y ([2,3]:List Int) 0)).2).bad),I (((Q40 r_ (fun (y:Int)=>Qg0 y ([2,3]:List Int) 0)).2).error)]]),(0,AObj.row 44 1 [[ints ([2,3]:List Int)]]),(0,AObj.row 365 1 [[AVal.fn (.func 376) [] [AVal.ptr 1 0 1 0 0]]])]:=by
  have hR:Q40 r_ (fun (y:Int)=>Qg0 y ([2,3]:List Int) 0)=Q40 r_ (fun (y:Int)=>Qg0 y ([2,3]:List Int) 0):=rfl;refine mo (kp 6 [33]) Tryz.func363 ?_;refine Qc0 (fun (c:LexReader)=>∃ m,(Int.toNat ((c.line.length:Int) - c.at_))<m∧Qv0 r_ (Qu0 (fun (y:Int)=>Qg0 y ([2,3]:List Int) 0) m c)=Q40 r_ (fun (y:Int)=>Qg0 y ([2,3]:List Int) 0)∧0<=c.at_∧c.at_<=(c.line.length:Int)∧c.line.length<=400∧r_.at_<=c.at_∧0<=r_.at_) (fun c=>(Int.toNat ((c.line.length:Int) - c.at_))) (fun c=>[(0,AVal.ptr 0 0 4 0 0),(1,AVal.fn (.func 389) [] [AVal.ptr 2 0 1 0 0]),(4,Sg ⟨#[]⟩),(5,I r_.at_)]) (fun c=>[(0,AObj.row 364 4 [[runes c.line,I c.at_,I c.bad,I c.error]]),(0,AObj.row 44 1 [[ints ([2,3]:List Int)]]),(0,AObj.row 365 1 [[AVal.fn (.func 376) [] [AVal.ptr 1 0 1 0 0]]])]) r_ (wk [0,1,2] (tO rfl (ts LexReader.lo) (tO rfl (ts (lv lw LowL.nil)) (tO rfl (Qd0 (cv (QH0 .nil (cv (Q10 1 rfl rfl) .nil)) .nil)) .nil))) (sv (Q10 0 rfl rfl) (sv (QH0 .nil (cv (Q10 2 rfl rfl) .nil)) (s1 (s1 .nil))))) ⟨_,Nat.lt_succ_self _,foll hR rfl,by exact exA⟩ ?_;clear hR;rintro c ⟨m,hm,hR,hx⟩;(try dsimp only at hR hm hx);obtain ⟨m,rfl⟩:=sucA m;refine dchk (by kernel_rfl) ?_;refine ai gkA ?_;(first|apply u2|apply u3|apply u4|apply us);exact mv [1,2] (cl1 (c.line.getD (Int.toNat c.at_) 0)) (dO (ds (lv lw LowL.nil)) (dO (dc (dv (dn_fn .nil (dp .nil)) .nil)) .nil)) (d1 (dp .nil)) (rO (re (lv lw LowL.nil)) (rO (rc (rv (ren_fn .nil (.cons _ _ _ _ (rp 1 0 rfl) .nil)) .nil)) .nil)) rx;(repeat ((first|refine ai rfl ?_|refine ai (fun _=>rfl) ?_)));refine ai (fun h5=>?_) (fun h6=>?_)
  ·have hq1:=of_decide_eq_true ((Bool.and_eq_true _ _).mp h5).1;have hwr:w64 (c.at_+1)=c.at_+1:=wr (by omega);exact Qi0 { c with at_:=(w64 (c.at_+1)) } (wk [0,1,2] (tO rfl (ts LexReader.lo) (tO rfl (ts (lv lw LowL.nil)) (tO rfl (Qd0 (cv (QH0 .nil (cv (Q10 1 rfl rfl) .nil)) .nil)) .nil))) (sv (Q10 0 rfl rfl) (sv (QH0 .nil (cv (Q10 2 rfl rfl) .nil)) (s1 (s1 .nil))))) omA ⟨m,by exact omA,foll hR (congrArg (fun p:LexReader=>Qv0 r_ p) (ct h5 rfl)),by exact exA⟩
  ·replace hR:Qv0 r_ c=Q40 r_ (fun (y:Int)=>Qg0 y ([2,3]:List Int) 0):=fo2 (fun p:LexReader=>Qv0 r_ p) (c) hR (cf h6 rfl);refine dchk (by kernel_rfl) ?_;refine ai gkA ?_;(first|refine ⟨(List.drop (Int.toNat r_.at_) (List.take (Int.toNat c.at_) c.line)),by exact cvA,?_⟩|refine ⟨_,fun _=>⟨(List.drop (Int.toNat r_.at_) (List.take (Int.toNat c.at_) c.line)),by exact cvA,rfl,rfl⟩,?_⟩|refine ⟨_,rfl,⟨(List.drop (Int.toNat r_.at_) (List.take (Int.toNat c.at_) c.line)),by exact cvA,Sub.refl _,rfl⟩,?_⟩);(repeat ((first|refine ai rfl ?_|refine ai (fun _=>rfl) ?_)));refine Qm0 (fun r:ByteArray × LexReader=>Sg r.1) (fun r:ByteArray × LexReader=>[(0,AObj.row 364 4 [[runes r.2.line,I r.2.at_,I r.2.bad,I r.2.error]]),(0,AObj.row 44 1 [[ints ([2,3]:List Int)]]),(0,AObj.row 365 1 [[AVal.fn (.func 376) [] [AVal.ptr 1 0 1 0 0]]])]) (leaf:=((runesBytes (List.drop (Int.toNat r_.at_) (List.take (Int.toNat c.at_) c.line))),c)) (foll hR rfl) ?_;exact tt [0,1,2] (tO rfl (ts LexReader.lo) (tO rfl (ts (lv lw LowL.nil)) (tO rfl (Qd0 (cv (QH0 .nil (cv (Q10 1 rfl rfl) .nil)) .nil)) .nil))) t1
 refine us (mv [0,2,3] (hof1) (dO (ds LexReader.lo) (dO (dc (dv (dn_as (Qf4 (c:=(fun q_=>[I q_])) (d:=0) ([2,3]:List Int) rfl) lw) .nil)) (dO (dc (dv (dn_fn .nil (dp .nil)) .nil)) .nil))) (dp (dv (dn_fn .nil (dp .nil)) .nil)) (rO (re LexReader.lo) (rO (re (lv lw LowL.nil)) (rO (rc (rv (ren_fn .nil (.cons _ _ _ _ (rp 2 0 rfl) .nil)) .nil)) .nil))) rx) ?_;refine us (runes_Lower_c ((Q40 r_ (fun (y:Int)=>Qg0 y ([2,3]:List Int) 0)).1) (by first|(exact Qj9 _ _ hp0.2.2)|exact szA) _) ?_;obtain rfl:=foll hR rfl;exact rq (tt [0] (tO rfl (ts LexReader.lo) .nil) (Qq0 (Low.agg' (Token.lo))))
def QI9 (s:ByteArray):Int × Unit:=((QD8 s).1,())
theorem strconv_Atoi_c (s:ByteArray) (hs0:s.size<=4294967296) (hp0:atoiOK s):GV 400 [Sg s] (AVal.tup [I ((QI9 s).1),AVal.lit .nilIface]):=by
 generalize hR:QI9 s=R;refine ga (l1 .nil) (Low.tup' (l1 (l1 .nil))) (kp 6 [12]) Tryz.func400 ?_;have hk0:=hs0;obtain z1:s.size<=4294967296:=hs0;refine us (QId s szA ckA _) ?_;refine ai (fun h=>nomatch h) (fun _=>?_);obtain rfl:=foll hR rfl;exact Q00 (Low.tup' (l1 (l1 .nil))) (Seen.tup (e1 (e1 .nil)))
def Qa1 (x_:Int) (held:Bool):Bool × Bool:=bif (((Q11 x_)==0)||((x_==34)&&(!held))) then (false,held) else (true,((x_==92)&&(!held)))
theorem Q0a (x_:Int) (held:Bool):AMoves Tryz.prog 394 [J x_,AVal.ptr 0 0 1 0 0] [(0,AObj.row 4 1 [[Bo held]])] 1 (Bo ((Qa1 x_ held).1)) [(0,AObj.row 4 1 [[Bo ((Qa1 x_ held).2)]])]:=by
 generalize hR:Qa1 x_ held=R;refine mo (kp 4 [14]) Tryz.func394 ?_;refine us (Qq4 x_ _) ?_;refine ai (fun h1=>?_) (fun h2=>?_)
 ·obtain rfl:=foll hR (ct h1 rfl);exact rq (tt [0] (tO rfl (ts (l1 LowL.nil)) .nil) t1)
 ·obtain rfl:=foll hR (cf h2 rfl);exact rq (tt [0] (tO rfl (ts (l1 LowL.nil)) .nil) t1)
def QD0 (p_:List Int) (r_:Int):(List Int):=bif (decide ((wu32 r_)<=127)) then (p_++([(wu8 r_)]:List Int)) else (Qk2 p_ r_)
theorem Q8c (p_:List Int) (r_:Int) (hs0:p_.length<=4294967296):AMoves Tryz.prog 399 [AVal.own 0 0 1 0 p_.length,J r_] [(0,AObj.row 5 1 (p_.map (fun q_=>[Y q_])))] 0 (AVal.own 0 0 1 0 (QD0 p_ r_).length) [(0,AObj.row 5 1 ((QD0 p_ r_).map (fun q_=>[Y q_])))]:=by
 generalize hR:QD0 p_ r_=R;refine mo (kp 5 [7]) Tryz.func399 ?_;have hk0:=hs0;obtain z3:p_.length<=4294967296:=hs0;refine ai (fun h1=>?_) (fun h2=>?_)
 ·have qh1:=of_decide_eq_true h1;refine Or.inl ?_;(first|refine ⟨Qa2 1 rfl lnA apA,?_⟩|refine ⟨Qd1 1 rfl apA,?_⟩);obtain rfl:=foll hR (ct h1 rfl);exact rq (tt [0] (tO rfl (tl eqA) .nil) (to 0 lnA))
 ·have qh2:=of_decide_eq_false h2;refine us (mv [0] (Qg8 p_ r_ szA) (dO (dr eqA) .nil) (dv (QW6 rfl lnA) (d1 .nil)) (rO rr .nil) (rw_ 1 0 rfl)) ?_;obtain rfl:=foll hR (cf h2 rfl);exact rq (tt [1] (tO rfl (tl eqA) .nil) (to 0 lnA))
theorem QJ5 (l:List Int) (r_:Int):∃ k,QD0 l r_=l++k∧1<=k.length∧k.length<=4∧QL6 k:=by
 have h1:∀ a:Int,QL6 [wu8 a]:=fun a=>QD5 (wu8_in a) QK9
 have h2:∀ a b:Int,QL6 [wu8 a,wu8 b]:=fun a b=>QD5 (wu8_in a) (h1 b)
 have h3:∀ a b c:Int,QL6 [wu8 a,wu8 b,wu8 c]:=fun a b c=>QD5 (wu8_in a) (h2 b c)
 have h4:∀ a b c d:Int,QL6 [wu8 a,wu8 b,wu8 c,wu8 d]:=fun a b c d=>QD5 (wu8_in a) (h3 b c d)
 have hc:QL6 [239,191,189]:=QD5 (by decide) (QD5 (by decide) (QD5 (by decide) QK9))
 unfold QD0
 cases (decide ((wu32 r_)<=127)) with
 | true=>exact ⟨_,rfl,by simp,by simp,h1 _⟩
 | false =>
  simp only [cond_false]
  unfold Qk2
  repeat' first
   | exact ⟨_,rfl,by simp,by simp,h2 _ _⟩
   | exact ⟨_,rfl,by simp,by simp,h3 _ _ _⟩
   | exact ⟨_,rfl,by simp,by simp,h4 _ _ _ _⟩
   | exact ⟨_,rfl,by simp,by simp,hc⟩
   | unfold Qs2
   | (rw [Bool.cond_eq_ite];split)
theorem Q58 (l:List Int) (r_:Int):(QD0 l r_).length ≠ 0:=by
 obtain ⟨k,e,h,_⟩:=QJ5 l r_
 rw [e,List.length_append]
 omega
theorem QDa (l:List Int) (r_:Int):(QD0 l r_).length<=l.length+4:=by
 obtain ⟨k,e,_,h,_⟩:=QJ5 l r_
 rw [e,List.length_append]
 omega
theorem byteIn_rune (l:List Int) (r_:Int) (h:QL6 l):QL6 (QD0 l r_):=by
 obtain ⟨k,e,_,_,g⟩:=QJ5 l r_
 rw [e]
 exact byteIn_app h g
def Qt0 (s:List Dep) (f:Dep->Bool):Bool:=(decide ((QU0 s f) >= 0))
def Q9c (n:Int):Bool:=(Qt2 n 1 99999)
theorem QVc (n:Int):GV 257 [I n] (Bo (Q9c n)):=by
 generalize hR:Q9c n=R;refine ga (l1 .nil) lx (kp 3 []) Tryz.func257 ?_;refine us (QV2 n 1 99999 _) ?_;obtain rfl:=foll hR rfl;exact Q00 lx sr
def Qu8 (a:Shape) (b:Shape):Bool:=(((((a.kind==b.kind)&&(a.min==b.min))&&(a.max==b.max))&&(a.wall==b.wall))&&(QB5 a.alts b.alts))
theorem shape_Same_c (a:Shape) (b:Shape) (hs0:a.sz) (hs1:b.sz):GV 258 [Shape.a a,Shape.a b] (Bo (Qu8 a b)):=by
 generalize hR:Qu8 a b=R;refine ga (.cons (Shape.low _ _) (.cons (Shape.low _ _) .nil)) lx (kp 5 []) Tryz.func258 ?_;have hk0:=hs0;obtain z1:a.alts.length<=4294967296:=hs0;have hk1:=hs1;obtain z2:b.alts.length<=4294967296:=hs1;(first|apply u2|apply u3|apply u4|apply us);exact Qwb a.alts b.alts szA szA _;obtain rfl:=foll hR rfl;exact Q00 lx sr
def Qg4 (v:Job):Bool:=(((((((v.nodes==0)&&(QB3 v.start))&&(QB3 v.limit))&&(decide (v.promise >= (-1))))&&(decide (v.promise<=1000000)))&&(decide (v.choice >= 0)))&&(decide (v.choice<=48)))
theorem QLd (v:Job):GV 77 [Job.a v] (Bo (Qg4 v)):=by
 generalize hR:Qg4 v=R;refine ga (.cons (Job.low _ _) .nil) lx (kp 3 []) Tryz.func77 ?_;(first|apply u2|apply u3|apply u4|apply us);exact Q85 v.start _;(first|apply u2|apply u3|apply u4|apply us);exact Q85 v.limit _;obtain rfl:=foll hR rfl;exact Q00 lx sr
def Qt1 (s:Int):Int:=(Qv5 s)
theorem QD7 (s:Int):GV 39 [U s] (I (Qt1 s)):=by
 generalize hR:Qt1 s=R;refine ga (l1 .nil) lx (kp 3 []) Tryz.func39 ?_;refine us (QHa s _) ?_;obtain rfl:=foll hR rfl;exact Q00 lx sr
def Qh4 (n:Int):Int:=bif (decide (n<=0)) then 0 else bif (decide (n >= 64)) then 18446744073709551615 else (wu64 ((QL2 n) - 1))
theorem nodeset_All_c (n:Int):GV 260 [I n] (U (Qh4 n)):=by
 generalize hR:Qh4 n=R;refine ga (l1 .nil) lx (kp 3 [3,6]) Tryz.func260 ?_;refine ai (fun h1=>?_) (fun h2=>?_)
 ·have qh1:=of_decide_eq_true h1;obtain rfl:=foll hR (ct h1 rfl);exact Q00 lx sr
 ·have qh2:=of_decide_eq_false h2;refine ai (fun h3=>?_) (fun h4=>?_)
  ·have qh3:=of_decide_eq_true h3;obtain rfl:=foll hR (cf h2 (ct h3 rfl));exact Q00 lx sr
  ·have qh4:=of_decide_eq_false h4;refine us (QJ8 n _) ?_;obtain rfl:=foll hR (cf h2 (cf h4 rfl));exact Q00 lx sr
def Q37 (l:List Book):List Book->Nat->Int
 | [],_=>0
 | x_ :: r,i=>bif ((!(Qi8 x_))||((decide ((i:Int) > 0))&&(decide ((l.getD (Int.toNat (w64 ((i:Int) - 1))) Book.zero).id >= x_.id)))) then 190 else Q37 l r (i+1)
def Qj6 (l:List Book):Int:=bif (decide ((l.length:Int) > 8)) then 190 else Q37 l l 0
theorem book_Check_c (l:List Book) (hs0:l.length<=4294967296):GV 157 [bookL l] (I (Qj6 l)):=by
 generalize hR:Qj6 l=R;refine ga (.cons lw .nil) lx (kp 5 [7,8,9,10,11,32]) Tryz.func157 ?_;have hk0:=hs0;obtain z7:l.length<=4294967296:=hs0;refine ai (fun h1=>?_) (fun h2=>?_)
 ·have qh1:=of_decide_eq_true h1;obtain rfl:=foll hR (ct h1 rfl);exact Q00 lx sr
 ·have qh2:=of_decide_eq_false h2;refine Qc0 (fun (i:Nat)=>Q37 l (List.drop i l) i=R∧i<=l.length) (fun i=>l.length - i) (fun i=>[(0,bookL l),(2,I 0),(8,bookL l),(9,I (l.length:Int)),(10,I (i:Int))]) (fun i=>[]) 0 (wk [] .nil (sl lw (s1 (sl lw (s1 (s1 .nil)))))) ⟨foll hR (cf h2 rfl),by exact omA⟩ ?_;clear hR;rintro i ⟨hR,hj⟩;(try dsimp only at hR hj);refine ai (fun h3=>?_) (fun h4=>?_)
  ·have hlt:=ltA h3;rw [Q90 Book.zero hlt] at hR;refine ai gkA ?_;refine dchk (by kernel_rfl) ?_;(first|apply u2|apply u3|apply u4|apply us);exact Qcd (l.getD i Book.zero) _;refine ai gkA ?_;(repeat ((first|refine ai rfl ?_|refine ai (fun _=>rfl) ?_|refine ai (fun _=>Qcd (l.getD i Book.zero) _) ?_)));refine ai (fun h5=>?_) (fun h6=>?_)
   ·obtain rfl:=foll hR (ct h5 rfl);exact Q00 lx sr
   ·exact Qi0 (i+1) (wk [] .nil (sl lw (s1 (sl lw (s1 (sv (Q80 (I_eq (wr omA)) lx) .nil)))))) omA ⟨foll hR (cf h6 rfl),by exact omA⟩
  ·rw [Qf0 (l:=l) (j:=i) (geA h4)] at hR;obtain rfl:=foll hR rfl;exact Q00 lx sr
def QQ0 (x_:ByteArray) (y:ByteArray):Int:=bif (Qm3 x_) then bif (Qm3 y) then 0 else (-1) else bif (Qm3 y) then 1 else bif (Op.bytesLess (ByteArray.toList x_) (ByteArray.toList y)) then (-1) else bif (!((Op.bytesLess (ByteArray.toList x_) (ByteArray.toList y))||(ByteArray.toList x_==ByteArray.toList y))) then 1 else 0
theorem QV3 (x_:ByteArray) (y:ByteArray):GV 246 [Sg x_,Sg y] (I (QQ0 x_ y)):=by
 generalize hR:QQ0 x_ y=R;refine ga (l1 (l1 .nil)) lx (kp 7 [11,12,13,16,19]) Tryz.func246 ?_;refine us (QQ7 x_ _) ?_;refine us (QQ7 y _) ?_;refine ai (fun h1=>?_) (fun h2=>?_)
 ·refine ai (fun h3=>?_) (fun h4=>?_)
  ·obtain rfl:=foll hR (ct h1 (ct h3 rfl));exact Q00 lx sr
  ·obtain rfl:=foll hR (ct h1 (cf h4 rfl));exact Q00 lx sr
 ·refine ai (fun h5=>?_) (fun h6=>?_)
  ·obtain rfl:=foll hR (cf h2 (ct h5 rfl));exact Q00 lx sr
  ·refine ai (fun h7=>?_) (fun h8=>?_)
   ·obtain rfl:=foll hR (cf h2 (cf h6 (ct h7 rfl)));exact Q00 lx sr
   ·refine ai (fun h9=>?_) (fun h10=>?_)
    ·obtain rfl:=foll hR (cf h2 (cf h6 (cf h8 (ct h9 rfl))));exact Q00 lx sr
    ·obtain rfl:=foll hR (cf h2 (cf h6 (cf h8 (cf h10 rfl))));exact Q00 lx sr
def QW3 (long:Int) (nodes:Int):Bool:=((Qh7 nodes 1 1000000)&&(Qh7 long 1 1000000))
theorem QPb (long:Int) (nodes:Int):GV 132 [I long,I nodes] (Bo (QW3 long nodes)):=by
 generalize hR:QW3 long nodes=R;refine ga (l1 (l1 .nil)) lx (kp 5 []) Tryz.func132 ?_;refine us (Qb9 nodes 1 1000000 _) ?_;(first|apply u2|apply u3|apply u4|apply us);exact Qb9 long 1 1000000 _;obtain rfl:=foll hR rfl;exact Q00 lx sr
def Qy4 (p_:List Step):List Step->Nat->Int
 | [],_=>0
 | x_ :: r,i=>bif (((!(Qo2 x_.free))||(decide (x_.at_ > 1000000)))||((decide ((i:Int) > 0))&&((decide (x_.at_<=(p_.getD (Int.toNat (w64 ((i:Int) - 1))) Step.zero).at_))||(x_.free==(p_.getD (Int.toNat (w64 ((i:Int) - 1))) Step.zero).free)))) then 100 else Qy4 p_ r (i+1)
def Qu1 (p_:List Step):Int:=bif ((((p_.length:Int)==0)||(decide ((p_.length:Int) > 1000)))||((p_.getD 0 Step.zero).at_ != 0)) then 100 else Qy4 p_ p_ 0
theorem QW4 (p_:List Step) (hs0:p_.length<=4294967296):GV 148 [stepL p_] (I (Qu1 p_)):=by
 generalize hR:Qu1 p_=R;refine ga (.cons lw .nil) lx (kp 5 [19,20,21,22,23,61]) Tryz.func148 ?_;have hk0:=hs0;obtain z7:p_.length<=4294967296:=hs0;refine ai gkA ?_;refine ai (fun h1=>?_) (fun h2=>?_)
 ·obtain rfl:=foll hR (ct h1 rfl);exact Q00 lx sr
 ·refine Qc0 (fun (i:Nat)=>Qy4 p_ (List.drop i p_) i=R∧i<=p_.length) (fun i=>p_.length - i) (fun i=>[(0,stepL p_),(2,I 0),(20,stepL p_),(21,I (p_.length:Int)),(22,I (i:Int))]) (fun i=>[]) 0 (wk [] .nil (sl lw (s1 (sl lw (s1 (s1 .nil)))))) ⟨foll hR (cf h2 rfl),by exact omA⟩ ?_;clear hR;rintro i ⟨hR,hj⟩;(try dsimp only at hR hj);refine ai (fun h3=>?_) (fun h4=>?_)
  ·have hlt:=ltA h3;rw [Q90 Step.zero hlt] at hR;refine ai gkA ?_;refine dchk (by kernel_rfl) ?_;(first|apply u2|apply u3|apply u4|apply us);exact Q98 ((p_.getD i Step.zero).free) _;refine ai gkA ?_;refine ai gkA ?_;(repeat ((first|refine ai rfl ?_|refine ai (fun _=>rfl) ?_|refine ai (fun _=>Q98 ((p_.getD i Step.zero).free) _) ?_)));refine ai (fun h5=>?_) (fun h6=>?_)
   ·obtain rfl:=foll hR (ct h5 rfl);exact Q00 lx sr
   ·exact Qi0 (i+1) (wk [] .nil (sl lw (s1 (sl lw (s1 (sv (Q80 (I_eq (wr omA)) lx) .nil)))))) omA ⟨foll hR (cf h6 rfl),by exact omA⟩
  ·rw [Qf0 (l:=p_) (j:=i) (geA h4)] at hR;obtain rfl:=foll hR rfl;exact Q00 lx sr
theorem Qt6 {p:List Step} (h:(Qu1 p != 0)=false):1<=p.length∧p.length<=1000∧(p.getD 0 Step.zero).at_=0:=by
 simp only [Qu1] at h
 revert h
 cases h2:((((p.length:Int)==0)||(decide ((p.length:Int) > 1000)))||((p.getD 0 Step.zero).at_ != 0)) with
 | true=>simp
 | false=>intro _;simp at h2;refine ⟨?_,by omega,h2.2⟩;have:=List.length_pos_iff.2 h2.1.1;omega
def Qa0 (p_:List Step) (t:Int):Int:=(w64 ((Qs1 (p_.length:Int) (fun (y:Int)=>(decide ((p_.getD (Int.toNat y) Step.zero).at_ > t)))) - 1))
theorem Qq9 (p_:List Step) (t:Int) (hs0:p_.length<=4294967296):GV 150 [stepL p_,I t] (I (Qa0 p_ t)):=by
 generalize hR:Qa0 p_ t=R;refine ga (.cons lw (l1 .nil)) lx (kp 5 []) Tryz.func150 ?_;have hk0:=hs0;obtain z5:p_.length<=4294967296:=hs0;have cl1:∀ (y1:Int) (hcl:0<=y1∧y1<(p_.length:Int)),AMoves Tryz.prog 237 [I y1,AVal.ptr 0 0 1 0 0,AVal.ptr 1 0 1 0 0] [(0,AObj.row 85 1 [[stepL p_]]),(0,AObj.row 3 1 [[I t]])] 2 (Bo ((fun (y:Int)=>(decide ((p_.getD (Int.toNat y) Step.zero).at_ > t))) y1)) [(0,AObj.row 85 1 [[stepL p_]]),(0,AObj.row 3 1 [[I t]])]:=by
  intro y1 hcl;have hR:(fun (y:Int)=>(decide ((p_.getD (Int.toNat y) Step.zero).at_ > t))) y1=(fun (y:Int)=>(decide ((p_.getD (Int.toNat y) Step.zero).at_ > t))) y1:=rfl;refine mo (kp 5 []) Tryz.func237 ?_;refine dchk (by kernel_rfl) ?_;refine ai gkA ?_;(repeat ((first|refine ai rfl ?_|refine ai (fun _=>rfl) ?_)));refine Qm0 (fun r:Bool=>Bo r) (fun _=>[(0,AObj.row 85 1 [[stepL p_]]),(0,AObj.row 3 1 [[I t]])]) (leaf:=(decide ((p_.getD (Int.toNat y1) Step.zero).at_ > t))) (foll hR rfl) ?_;exact tt [0,1] (tO rfl (ts (lv lw LowL.nil)) (tO rfl (ts (l1 LowL.nil)) .nil)) t1
 have hof1:AMoves Tryz.prog 236 [I (p_.length:Int),AVal.fn (.func 237) [] [AVal.ptr 0 0 1 0 0,AVal.ptr 1 0 1 0 0]] [(0,AObj.row 85 1 [[stepL p_]]),(0,AObj.row 3 1 [[I t]])] 2 (I (Qs1 (p_.length:Int) (fun (y:Int)=>(decide ((p_.getD (Int.toNat y) Step.zero).at_ > t))))) [(0,AObj.row 85 1 [[stepL p_]]),(0,AObj.row 3 1 [[I t]])]:=by
  have hR:Qs1 (p_.length:Int) (fun (y:Int)=>(decide ((p_.getD (Int.toNat y) Step.zero).at_ > t)))=Qs1 (p_.length:Int) (fun (y:Int)=>(decide ((p_.getD (Int.toNat y) Step.zero).at_ > t))):=rfl;refine mo (kp 8 [11,21]) Tryz.func236 ?_;refine Qh0 (fun (i:Int) (j:Int)=>∃ m,(Int.toNat (j - i))<m∧QN4 (QW0 (fun (y:Int)=>(decide ((p_.getD (Int.toNat y) Step.zero).at_ > t))) m i j).1 (QW0 (fun (y:Int)=>(decide ((p_.getD (Int.toNat y) Step.zero).at_ > t))) m i j).2=Qs1 (p_.length:Int) (fun (y:Int)=>(decide ((p_.getD (Int.toNat y) Step.zero).at_ > t)))∧0<=i∧i<=j∧j<=(p_.length:Int)) (fun i j=>(Int.toNat (j - i))) (fun i j=>[(1,AVal.fn (.func 237) [] [AVal.ptr 0 0 1 0 0,AVal.ptr 1 0 1 0 0]),(4,I 0),(5,I i),(6,I j)]) (fun i j=>[(0,AObj.row 85 1 [[stepL p_]]),(0,AObj.row 3 1 [[I t]])]) 0 (p_.length:Int) (wk [0,1] (tO rfl (ts (lv lw LowL.nil)) (tO rfl (ts (l1 LowL.nil)) .nil)) (sv (QH0 .nil (cv (Q10 0 rfl rfl) (cv (Q10 1 rfl rfl) .nil))) (s1 (s1 (s1 .nil))))) ⟨_,Nat.lt_succ_self _,foll hR rfl,by exact exA⟩ ?_;clear hR;rintro i j ⟨m,hm,hR,hx⟩;(try dsimp only at hR hm hx);obtain ⟨m,rfl⟩:=sucA m;refine ai (fun h1=>?_) (fun h2=>?_)
  ·have qh1:=of_decide_eq_true h1;(have hq0:i<j:=qh1;have hh:w64 (Int.fdiv (wu64 (w64 (i+j))) (2 ^ (min (Int.toNat 1) 64)))=(i+j) / 2:=QCd hx.1 hq0 hx.2.2 (by omega);have hh3:w64 (w64 (Int.fdiv (wu64 (w64 (i+j))) (2 ^ (min (Int.toNat 1) 64)))+1)=(i+j) / 2+1:=by rw [hh];exact wr (by omega));refine ai gkA ?_;refine us (mv [0,1] (cl1 (w64 (Int.fdiv (wu64 (w64 (i+j))) (2 ^ (min (Int.toNat 1) 64)))) ckA) (dO (ds (lv lw LowL.nil)) (dO (ds (l1 LowL.nil)) .nil)) (d1 (dp (dp .nil))) (rO (re (lv lw LowL.nil)) (rO (re (l1 LowL.nil)) .nil)) rx) ?_;refine ai (fun h3=>?_) (fun h4=>?_)
   ·exact Q60 (w64 ((w64 (Int.fdiv (wu64 (w64 (i+j))) (2 ^ (min (Int.toNat 1) 64))))+1)) j (wk [0,1] (tO rfl (ts (lv lw LowL.nil)) (tO rfl (ts (l1 LowL.nil)) .nil)) (sv (QH0 .nil (cv (Q10 0 rfl rfl) (cv (Q10 1 rfl rfl) .nil))) (s1 (s1 (s1 .nil))))) (by first|(dsimp only;rw [hh3];omega)|first|(dsimp only;rw [hh];omega)|exact omA) ⟨m,by first|(dsimp only;rw [hh3];omega)|first|(dsimp only;rw [hh];omega)|exact omA,foll hR (congrArg (fun p:Int × Int=>QN4 p.1 p.2) (ct h1 (ct h3 rfl))),by exact exA⟩
   ·exact Q60 i (w64 (Int.fdiv (wu64 (w64 (i+j))) (2 ^ (min (Int.toNat 1) 64)))) (wk [0,1] (tO rfl (ts (lv lw LowL.nil)) (tO rfl (ts (l1 LowL.nil)) .nil)) (sv (QH0 .nil (cv (Q10 0 rfl rfl) (cv (Q10 1 rfl rfl) .nil))) (s1 (s1 (s1 .nil))))) (by first|(dsimp only;rw [hh3];omega)|first|(dsimp only;rw [hh];omega)|exact omA) ⟨m,by first|(dsimp only;rw [hh3];omega)|first|(dsimp only;rw [hh];omega)|exact omA,foll hR (congrArg (fun p:Int × Int=>QN4 p.1 p.2) (ct h1 (cf h4 rfl))),by exact exA⟩
  ·have qh2:=of_decide_eq_false h2;replace hR:QN4 i j=Qs1 (p_.length:Int) (fun (y:Int)=>(decide ((p_.getD (Int.toNat y) Step.zero).at_ > t))):=fo2 (fun p:Int × Int=>QN4 p.1 p.2) (i,j) hR (cf h2 rfl);refine Qm0 (fun r:Int=>I r) (fun r:Int=>[(0,AObj.row 85 1 [[stepL p_]]),(0,AObj.row 3 1 [[I t]])]) (leaf:=i) (foll hR rfl) ?_;exact tt [0,1] (tO rfl (ts (lv lw LowL.nil)) (tO rfl (ts (l1 LowL.nil)) .nil)) t1
 refine us (mv [0,1] (hof1) (dO (ds (lv lw LowL.nil)) (dO (ds (l1 LowL.nil)) .nil)) (d1 (dv (dn_fn .nil (dp (dp .nil))) .nil)) (rO (re (lv lw LowL.nil)) (rO (re (l1 LowL.nil)) .nil)) rx) ?_;obtain rfl:=foll hR rfl;exact Q00 lx sr
theorem QY6 {p:List Step} {t:Int} (h1:1<=p.length) (h2:p.length<=1000) (h3:(p.getD 0 Step.zero).at_=0) (ht:0<=t):0<=Qa0 p t∧Qa0 p t<p.length:=by
 obtain ⟨a,b,c,d⟩:=Q59 (fun (y:Int)=>(decide ((p.getD (Int.toNat y) Step.zero).at_ > t))) (N:=p.length) (by omega)
 have h4:1<=Qs1 (p.length:Int) (fun (y:Int)=>(decide ((p.getD (Int.toNat y) Step.zero).at_ > t))):=by
  rcases Int.lt_or_le 0 (Qs1 (p.length:Int) (fun (y:Int)=>(decide ((p.getD (Int.toNat y) Step.zero).at_ > t)))) with h|h
  ·omega
  ·have e:Qs1 (p.length:Int) (fun (y:Int)=>(decide ((p.getD (Int.toNat y) Step.zero).at_ > t)))=0:=by omega
   have:=d (by omega)
   rw [e] at this
   have:=of_decide_eq_true this
   simp only [Int.toNat_zero] at this
   omega
 have e:Qa0 p t=Qs1 (p.length:Int) (fun (y:Int)=>(decide ((p.getD (Int.toNat y) Step.zero).at_ > t))) - 1:=wr (by omega)
 rw [e]
 omega
def Qi4 :List Int->Int->Nat->Int × Int
 | [],s,_=>(s,0)
 | x_ :: r,s,i=>bif (((decide (x_<0))||(decide (x_ >= 64)))||((wu64 (BitVec.ofInt 64 s &&& BitVec.ofInt 64 (QL2 x_)).toNat)!=0)) then (0,90) else Qi4 r (wu64 (BitVec.ofInt 64 s ||| BitVec.ofInt 64 (QL2 x_)).toNat) (i+1)
def QO5 (l:List Int):Int × Int:=Qi4 l 0 0
theorem nodeset_Of_c (l:List Int) (hs0:l.length<=4294967296):GV 112 [ints l] (AVal.tup [U ((QO5 l).1),I ((QO5 l).2)]):=by
 generalize hR:QO5 l=R;refine ga (.cons lw .nil) (Low.tup' (l1 (l1 .nil))) (kp 7 [7,8,9,10,25]) Tryz.func112 ?_;have hk0:=hs0;obtain z5:l.length<=4294967296:=hs0;refine Qh0 (fun (s:Int) (i:Nat)=>Qi4 (List.drop i l) s i=R∧i<=l.length) (fun s i=>l.length - i) (fun s i=>[(2,U 0),(3,I 0),(4,U s),(7,ints l),(8,I (l.length:Int)),(9,I (i:Int))]) (fun s i=>[]) 0 0 (wk [] .nil (s1 (s1 (s1 (sl lw (s1 (s1 .nil))))))) ⟨foll hR rfl,by exact omA⟩ ?_;clear hR;rintro s i ⟨hR,hj⟩;(try dsimp only at hR hj);refine ai (fun h1=>?_) (fun h2=>?_)
 ·have hlt:=ltA h1;rw [Q90 0 hlt] at hR;refine ai gkA ?_;(first|apply u2|apply u3|apply u4|apply us);exact QJ8 (l.getD i 0) _;refine ai (fun h3=>?_) (fun h4=>?_)
  ·obtain rfl:=foll hR (ct h3 rfl);exact Q00 (Low.tup' (l1 (l1 .nil))) (Seen.tup (e1 (e1 .nil)))
  ·refine us (QJ8 (l.getD i 0) _) ?_;exact Q60 (wu64 (BitVec.ofInt 64 s ||| BitVec.ofInt 64 (QL2 (l.getD i 0))).toNat) (i+1) (wk [] .nil (s1 (s1 (s1 (sl lw (s1 (sv (Q80 (I_eq (wr omA)) lx) .nil))))))) omA ⟨foll hR (cf h4 rfl),by exact omA⟩
 ·rw [Qf0 (l:=l) (j:=i) (geA h2)] at hR;obtain rfl:=foll hR rfl;exact Q00 (Low.tup' (l1 (l1 .nil))) (Seen.tup (e1 (e1 .nil)))
def Qi2 (s:List Job) (f:Job->Bool):Bool:=(decide ((Qm2 s f) >= 0))
def Q5e (l:List Job):(List Job):=l
theorem plan_copied_c (l:List Job) (hs0:l.length<=4294967296∧(∀ y ∈ l,y.sz)):GV 61 [jobL l] (jobL l):=by
 generalize hR:Q5e l=R;refine ga (.cons lw .nil) lw (kp 5 [8,9,10]) Tryz.func61 ?_;obtain ⟨z8,z9⟩:=id hs0;refine us (mv [] (Q38 l szA) .nil (dl lw .nil) (rO rr .nil) (rw_ 0 0 rfl)) ?_;refine Qc0 (fun (i:Nat)=>True∧i<=l.length) (fun i=>l.length - i) (fun i=>[(2,AVal.lit (.slice none 0 0)),(3,AVal.own 0 0 20 0 l.length),(8,I (l.length:Int)),(9,I (i:Int))]) (fun i=>[(0,AObj.row 35 20 (l.map Job.cells))]) 0 (wk [0] (tO rfl (tl eqA) .nil) (s1 (sv (to 0 lnA) (s1 (s1 .nil))))) ⟨trivial,by exact omA⟩ ?_;have hR0:=hR;rintro i ⟨hR,hj⟩;(try dsimp only at hR hj);refine ai (fun h1=>?_) (fun h2=>?_)
 ·have hlt:=ltA h1;have hxz:(l.getD i Job.zero).sz:=Qy0 (by first|assumption|grind) (Job.szz _);have hkz:=hxz;obtain ⟨z3,z4,z5,z6,z7⟩:=Job.zz hxz;refine ai gkA ?_;refine ⟨_,QL1 rfl rfl rfl (QV1 Job.zero i (by first|rfl|exact Nat.zero_add _|omega) ckA) rfl,?_⟩;refine us (Qg6 ((l.getD i Job.zero).shape.alts) szA _) ?_;refine ai gkA ?_;refine ⟨_,QA3 rfl rfl rfl rfl (QV1 Job.zero i (by first|rfl|exact Nat.zero_add _|omega) ckA) rfl rfl (QY5 Job.zero i (by first|rfl|exact Nat.zero_add _|omega) ckA rfl),?_⟩;refine ai gkA ?_;refine ⟨_,QL1 rfl rfl rfl (QV1 Job.zero i (by first|rfl|exact Nat.zero_add _|omega) ckA) rfl,?_⟩;refine us (Qh6 ((l.getD i Job.zero).after) szA _) ?_;refine ai gkA ?_;refine ⟨_,QA3 rfl rfl rfl rfl (QV1 Job.zero i (by first|rfl|exact Nat.zero_add _|omega) ckA) rfl rfl (QY5 Job.zero i (by first|rfl|exact Nat.zero_add _|omega) ckA rfl),?_⟩;exact Qi0 (i+1) (wk [0] (tO rfl (tl eqA) .nil) (s1 (sv (to 0 lnA) (s1 (sv (Q80 (I_eq (wr omA)) lx) .nil))))) omA ⟨hR,by exact omA⟩
 ·skip;have hR:=hR0;obtain rfl:=foll hR rfl;exact Q00 lw (Ql1 Job.zero _ rfl eqA lnA)
theorem QK8 (l:List Job) (hs0:l.length<=4294967296∧(∀ y ∈ l,y.sz)):AMoves Tryz.prog 61 [jobL l] [] 0 (AVal.own 0 0 20 0 l.length) [(0,AObj.row 35 20 (l.map Job.cells))]:=by
 generalize hR:Q5e l=R;refine mo (kp 5 [8,9,10]) Tryz.func61 ?_;obtain ⟨z8,z9⟩:=id hs0;refine us (mv [] (Q38 l szA) .nil (dl lw .nil) (rO rr .nil) (rw_ 0 0 rfl)) ?_;refine Qc0 (fun (i:Nat)=>True∧i<=l.length) (fun i=>l.length - i) (fun i=>[(2,AVal.lit (.slice none 0 0)),(3,AVal.own 0 0 20 0 l.length),(8,I (l.length:Int)),(9,I (i:Int))]) (fun i=>[(0,AObj.row 35 20 (l.map Job.cells))]) 0 (wk [0] (tO rfl (tl eqA) .nil) (s1 (sv (to 0 lnA) (s1 (s1 .nil))))) ⟨trivial,by exact omA⟩ ?_;have hR0:=hR;rintro i ⟨hR,hj⟩;(try dsimp only at hR hj);refine ai (fun h1=>?_) (fun h2=>?_)
 ·have hlt:=ltA h1;have hxz:(l.getD i Job.zero).sz:=Qy0 (by first|assumption|grind) (Job.szz _);have hkz:=hxz;obtain ⟨z3,z4,z5,z6,z7⟩:=Job.zz hxz;refine ai gkA ?_;refine ⟨_,QL1 rfl rfl rfl (QV1 Job.zero i (by first|rfl|exact Nat.zero_add _|omega) ckA) rfl,?_⟩;refine us (Qg6 ((l.getD i Job.zero).shape.alts) szA _) ?_;refine ai gkA ?_;refine ⟨_,QA3 rfl rfl rfl rfl (QV1 Job.zero i (by first|rfl|exact Nat.zero_add _|omega) ckA) rfl rfl (QY5 Job.zero i (by first|rfl|exact Nat.zero_add _|omega) ckA rfl),?_⟩;refine ai gkA ?_;refine ⟨_,QL1 rfl rfl rfl (QV1 Job.zero i (by first|rfl|exact Nat.zero_add _|omega) ckA) rfl,?_⟩;refine us (Qh6 ((l.getD i Job.zero).after) szA _) ?_;refine ai gkA ?_;refine ⟨_,QA3 rfl rfl rfl rfl (QV1 Job.zero i (by first|rfl|exact Nat.zero_add _|omega) ckA) rfl rfl (QY5 Job.zero i (by first|rfl|exact Nat.zero_add _|omega) ckA rfl),?_⟩;exact Qi0 (i+1) (wk [0] (tO rfl (tl eqA) .nil) (s1 (sv (to 0 lnA) (s1 (sv (Q80 (I_eq (wr omA)) lx) .nil))))) omA ⟨hR,by exact omA⟩
 ·skip;have hR:=hR0;obtain rfl:=foll hR rfl;exact rq (tt [0] (tO rfl (tl eqA) .nil) (to 0 lnA))
def job_copied (j:Job):Job:=j
theorem Qhc (j:Job) (hs0:j.sz):GV 247 [Job.a j] (Job.a j):=by
 generalize hR:job_copied j=R;refine ga (.cons (Job.low _ _) .nil) (Job.low _ _) (kp 3 []) Tryz.func247 ?_;obtain ⟨z1,z2,z3,z4,z5⟩:=Job.zz hs0;refine us (Qg6 j.shape.alts szA _) ?_;refine us (Qh6 j.after szA _) ?_;obtain rfl:=foll hR rfl;exact Q00 (Job.low _ _) sr
def Q06 (s:List (Int × Int)):List Dep->Nat->Bool
 | [],_=>true
 | x_ :: r,i=>bif ((Q16 s x_)!=1) then false else Q06 s r (i+1)
def Qr7 (s:List (Int × Int)) (j:Job):Bool:=Q06 s j.after 0
theorem QNb (s:List (Int × Int)) (j:Job) (hs0:j.sz):AMoves Tryz.prog 69 [AVal.map 0,Job.a j] [(0,AObj.other (.map (mapEs ik I 0 s) s.length))] 1 (Bo (Qr7 s j)) [(0,AObj.other (.map (mapEs ik I 0 s) s.length))]:=by
 generalize hR:Qr7 s j=R;refine mo (kp 7 [8,9,10,11,17]) Tryz.func69 ?_;obtain ⟨z5,z6,z7,z8,z9⟩:=Job.zz hs0;refine Qc0 (fun (i:Nat)=>Q06 s (List.drop i j.after) i=R∧i<=j.after.length) (fun i=>j.after.length - i) (fun i=>[(0,AVal.map 0),(4,Bo false),(8,depL j.after),(9,I (j.after.length:Int)),(10,I (i:Int))]) (fun i=>[(0,AObj.other (.map (mapEs ik I 0 s) s.length))]) 0 (wk [0] (tO rfl (QE0 _ rfl rfl (fun _=>lx)) .nil) (sv (Qj2 0 rfl rfl) (s1 (sl lw (s1 (s1 .nil)))))) ⟨foll hR rfl,by exact omA⟩ ?_;clear hR;rintro i ⟨hR,hj⟩;(try dsimp only at hR hj);refine ai (fun h1=>?_) (fun h2=>?_)
 ·have hlt:=ltA h1;rw [Q90 Dep.zero hlt] at hR;refine ai gkA ?_;refine us (mv [0] (QZ9 s (j.after.getD i Dep.zero)) (dO (.same _ (QC7 fun _=>lx)) .nil) (dv (dn_ren (Ren.map _ _ rfl)) (dv (Qs7 (Low.agg' (Dep.lo))) .nil)) (rO (RenO.same _ (QC7 fun _=>lx)) .nil) rx) ?_;refine ai (fun h3=>?_) (fun h4=>?_)
  ·obtain rfl:=foll hR (ct h3 rfl);exact rq (tt [0] (tO rfl (QE0 _ rfl rfl (fun _=>lx)) .nil) t1)
  ·exact Qi0 (i+1) (wk [0] (tO rfl (QE0 _ rfl rfl (fun _=>lx)) .nil) (sv (Qj2 0 rfl rfl) (s1 (sl lw (s1 (sv (Q80 (I_eq (wr omA)) lx) .nil)))))) omA ⟨foll hR (cf h4 rfl),by exact omA⟩
 ·rw [Qf0 (l:=j.after) (j:=i) (geA h2)] at hR;obtain rfl:=foll hR rfl;exact rq (tt [0] (tO rfl (QE0 _ rfl rfl (fun _=>lx)) .nil) t1)
def QI0 (l:List Job) (id_:Int):Int × Bool:=((QC0 l id_ (fun (y:Job) (y1:Int)=>(w64 (y.id - y1)))).1,(QC0 l id_ (fun (y:Job) (y1:Int)=>(w64 (y.id - y1)))).2)
theorem b1a0 {P:Prop} (h:P:=by first|(dsimp only;rw [hh3];omega)|first|(dsimp only;rw [hh];omega)|exact exA):P:=h
theorem table_place_c (l:List Job) (id_:Int) (hs0:l.length<=4294967296∧(∀ y ∈ l,y.sz)):GV 207 [jobL l,I id_] (AVal.tup [I ((QI0 l id_).1),Bo ((QI0 l id_).2)]):=by
 generalize hR:QI0 l id_=R;refine ga (.cons lw (l1 .nil)) (Low.tup' (l1 (l1 .nil))) (kp 6 []) Tryz.func207 ?_;obtain ⟨z10,z11⟩:=id hs0;have cl1:∀ (y1:Job) (y2:Int) (hzy1:y1.sz),AMoves Tryz.prog 288 [Job.a y1,I y2] [] 0 (I ((fun (y:Job) (y1:Int)=>(w64 (y.id - y1))) y1 y2)) []:=by
  intro y1 y2 hzy1;have hky1:=hzy1;obtain ⟨z1,z2,z3,z4,z5⟩:=Job.zz hzy1;have hR:(fun (y:Job) (y1:Int)=>(w64 (y.id - y1))) y1 y2=(fun (y:Job) (y1:Int)=>(w64 (y.id - y1))) y1 y2:=rfl;refine mo (kp 5 []) Tryz.func288 ?_;refine Qm0 (fun r:Int=>I r) (fun _=>[]) (leaf:=(w64 (y1.id - y2))) (foll hR rfl) ?_;exact tt [] .nil t1
 have hof1:AMoves Tryz.prog 287 [jobL l,I id_,AVal.fn (.func 288) [] []] [] 0 (AVal.tup [I ((QC0 l id_ (fun (y:Job) (y1:Int)=>(w64 (y.id - y1)))).1),Bo ((QC0 l id_ (fun (y:Job) (y1:Int)=>(w64 (y.id - y1)))).2)]) []:=by
  have hR:QC0 l id_ (fun (y:Job) (y1:Int)=>(w64 (y.id - y1)))=QC0 l id_ (fun (y:Job) (y1:Int)=>(w64 (y.id - y1))):=rfl;refine mo (kp 12 [17,31]) Tryz.func287 ?_;refine Qh0 (fun (i:Int) (j:Int)=>∃ m,(Int.toNat (j - i))<m∧QP0 l id_ (fun (y:Job) (y1:Int)=>(w64 (y.id - y1))) (Ql0 l id_ (fun (y:Job) (y1:Int)=>(w64 (y.id - y1))) m i j).1 (Ql0 l id_ (fun (y:Job) (y1:Int)=>(w64 (y.id - y1))) m i j).2=QC0 l id_ (fun (y:Job) (y1:Int)=>(w64 (y.id - y1)))∧0<=i∧i<=j∧j<=(l.length:Int)) (fun i j=>(Int.toNat (j - i))) (fun i j=>[(0,jobL l),(1,I id_),(2,AVal.fn (.func 288) [] []),(6,I 0),(7,Bo false),(8,I (l.length:Int)),(9,I i),(10,I j)]) (fun i j=>[]) 0 (l.length:Int) (wk [] .nil (sl lw (s1 (sv (Qq0 (Low.fn _ _ _ LowL.nil LowL.nil)) (s1 (s1 (s1 (s1 (s1 .nil))))))))) ⟨_,Nat.lt_succ_self _,foll hR rfl,b1a0⟩ ?_;clear hR;rintro i j ⟨m,hm,hR,hx⟩;(try dsimp only at hR hm hx);obtain ⟨m,rfl⟩:=sucA m;refine ai (fun h6=>?_) (fun h7=>?_)
  ·have qh6:=of_decide_eq_true h6;(have hq0:i<j:=qh6;have hh:w64 (Int.fdiv (wu64 (w64 (i+j))) (2 ^ (min (Int.toNat 1) 64)))=(i+j) / 2:=QCd hx.1 hq0 hx.2.2 (by omega);have hh3:w64 (w64 (Int.fdiv (wu64 (w64 (i+j))) (2 ^ (min (Int.toNat 1) 64)))+1)=(i+j) / 2+1:=by rw [hh];exact wr (by omega));refine And.intro (by first|exact fun hg=>decide_eq_true (by first|(show 0<=w64 (Int.fdiv (wu64 (w64 (i+j))) (2 ^ (min (Int.toNat 1) 64)))∧w64 (Int.fdiv (wu64 (w64 (i+j))) (2 ^ (min (Int.toNat 1) 64)))<(l.length:Int);rw [hh];omega)|exact ckA)|exact gkA) ?_;refine And.intro (by first|exact fun hg=>decide_eq_true (by first|(show 0<=w64 (Int.fdiv (wu64 (w64 (i+j))) (2 ^ (min (Int.toNat 1) 64)))∧w64 (Int.fdiv (wu64 (w64 (i+j))) (2 ^ (min (Int.toNat 1) 64)))<(l.length:Int);rw [hh];omega)|exact ckA)|exact gkA) ?_;refine us (mv [] (cl1 (l.getD (Int.toNat (w64 (Int.fdiv (wu64 (w64 (i+j))) (2 ^ (min (Int.toNat 1) 64))))) Job.zero) id_ szA) .nil (dl (Job.low _ _) (d1 .nil)) .nil rx) ?_;refine ai (fun h8=>?_) (fun h9=>?_)
   ·have qh8:=of_decide_eq_true h8;exact Q60 (w64 ((w64 (Int.fdiv (wu64 (w64 (i+j))) (2 ^ (min (Int.toNat 1) 64))))+1)) j (wk [] .nil (sl lw (s1 (sv (Qq0 (Low.fn _ _ _ LowL.nil LowL.nil)) (s1 (s1 (s1 (s1 (s1 .nil))))))))) (by first|(dsimp only;rw [hh3];omega)|first|(dsimp only;rw [hh];omega)|exact omA) ⟨m,by first|(dsimp only;rw [hh3];omega)|first|(dsimp only;rw [hh];omega)|exact omA,foll hR (congrArg (fun p:Int × Int=>QP0 l id_ (fun (y:Job) (y1:Int)=>(w64 (y.id - y1))) p.1 p.2) (ct h6 (ct h8 rfl))),b1a0⟩
   ·have qh9:=of_decide_eq_false h9;exact Q60 i (w64 (Int.fdiv (wu64 (w64 (i+j))) (2 ^ (min (Int.toNat 1) 64)))) (wk [] .nil (sl lw (s1 (sv (Qq0 (Low.fn _ _ _ LowL.nil LowL.nil)) (s1 (s1 (s1 (s1 (s1 .nil))))))))) (by first|(dsimp only;rw [hh3];omega)|first|(dsimp only;rw [hh];omega)|exact omA) ⟨m,by first|(dsimp only;rw [hh3];omega)|first|(dsimp only;rw [hh];omega)|exact omA,foll hR (congrArg (fun p:Int × Int=>QP0 l id_ (fun (y:Job) (y1:Int)=>(w64 (y.id - y1))) p.1 p.2) (ct h6 (cf h9 rfl))),b1a0⟩
  ·have qh7:=of_decide_eq_false h7;replace hR:QP0 l id_ (fun (y:Job) (y1:Int)=>(w64 (y.id - y1))) i j=QC0 l id_ (fun (y:Job) (y1:Int)=>(w64 (y.id - y1))):=fo2 (fun p:Int × Int=>QP0 l id_ (fun (y:Job) (y1:Int)=>(w64 (y.id - y1))) p.1 p.2) (i,j) hR (cf h7 rfl);refine And.intro (by first|exact fun hg=>decide_eq_true (by first|(show 0<=w64 (Int.fdiv (wu64 (w64 (i+j))) (2 ^ (min (Int.toNat 1) 64)))∧w64 (Int.fdiv (wu64 (w64 (i+j))) (2 ^ (min (Int.toNat 1) 64)))<(l.length:Int);rw [hh];omega)|exact ckA)|exact gkA) ?_;(first|apply u2|apply u3|apply u4|apply us);exact mv [] (cl1 (l.getD (Int.toNat i) Job.zero) id_ szA) .nil (dl (Job.low _ _) (d1 .nil)) .nil rx;refine Qm0 (fun r:Int × Bool=>AVal.tup [I r.1,Bo r.2]) (fun r:Int × Bool=>[]) (leaf:=(i,((decide (i<(l.length:Int)))&&(((fun (y:Job) (y1:Int)=>(w64 (y.id - y1))) (l.getD (Int.toNat i) Job.zero) id_)==0)))) (foll hR rfl) ?_;exact tt [] .nil (turn_tup (c1 (c1 .nil)))
 refine us (mv [] (hof1) .nil (dl lw (d1 (dv (Qs7 (Low.fn _ _ _ LowL.nil LowL.nil)) .nil))) .nil (Ren.low _ (Low.tup' (l1 (l1 .nil))))) ?_;obtain rfl:=foll hR rfl;exact Q00 (Low.tup' (l1 (l1 .nil))) (Seen.tup (e1 (e1 .nil)))
theorem bs_ge (x_:List Job) (target:Int) (cmp:Job->Int->Int) (hn:x_.length<=4294967296):∀ (m:Nat) (i j:Int),0<=i->i<=j->j<=(x_.length:Int)->0<=(Ql0 x_ target cmp m i j).1
 | 0,_,_,_,_,_=>by simp [Ql0]
 | m+1,i,j,h0,h1,h2=>by
  rw [Ql0]
  cases hd:decide (i<j) with
  | false=>exact h0
  | true =>
   have hlt:=of_decide_eq_true hd
   rw [QCd h0 hlt h2 (by omega)]
   simp only [cond_true]
   cases decide (cmp (x_.getD (Int.toNat ((i+j) / 2)) Job.zero) target<0) with
   | true =>
    have hw:w64 ((i+j) / 2+1)=(i+j) / 2+1:=wr (by omega)
    simp only [cond_true]
    rw [hw]
    exact bs_ge x_ target cmp hn m _ _ (by omega) (by omega) h2
   | false=>exact bs_ge x_ target cmp hn m _ _ h0 (by omega) (by omega)
theorem QJ6 (l:List Job) (id_:Int) (hn:l.length<=4294967296) (h:(!(QI0 l id_).2)=false):0<=(QI0 l id_).1∧(QI0 l id_).1<(l.length:Int):=by
 simp only [QI0,QC0,QP0,Bool.not_eq_false',Bool.and_eq_true,decide_eq_true_eq] at h
 exact ⟨bs_ge _ _ _ hn _ _ _ (by omega) (by omega) (by omega),h.1⟩
def table_whole (l:List Job):(List Job):=l
theorem table_whole_o (l:List Job) (hs0:l.length<=4294967296∧(∀ y ∈ l,y.sz)):AMoves Tryz.prog 208 [jobL l] [] 0 (AVal.own 0 0 20 0 l.length) [(0,AObj.row 35 20 (l.map Job.cells))]:=by
 generalize hR:table_whole l=R;refine mo (kp 5 [8,9,10]) Tryz.func208 ?_;obtain ⟨z8,z9⟩:=id hs0;refine us (mv [] (QBb l szA) .nil (dl lw .nil) (rO rr .nil) (rw_ 0 0 rfl)) ?_;refine Qc0 (fun (i:Nat)=>True∧i<=l.length) (fun i=>l.length - i) (fun i=>[(2,AVal.lit (.slice none 0 0)),(3,AVal.own 0 0 20 0 l.length),(8,I (l.length:Int)),(9,I (i:Int))]) (fun i=>[(0,AObj.row 35 20 (l.map Job.cells))]) 0 (wk [0] (tO rfl (tl eqA) .nil) (s1 (sv (to 0 lnA) (s1 (s1 .nil))))) ⟨trivial,by exact omA⟩ ?_;have hR0:=hR;rintro i ⟨hR,hj⟩;(try dsimp only at hR hj);refine ai (fun h1=>?_) (fun h2=>?_)
 ·have hlt:=ltA h1;have hxz:(l.getD i Job.zero).sz:=Qy0 (by first|assumption|grind) (Job.szz _);have hkz:=hxz;obtain ⟨z3,z4,z5,z6,z7⟩:=Job.zz hxz;refine ai gkA ?_;refine ⟨_,QL1 rfl rfl rfl (QV1 Job.zero i (by first|rfl|exact Nat.zero_add _|omega) ckA) rfl,?_⟩;refine us (Qzb ((l.getD i Job.zero).shape.alts) szA _) ?_;refine ai gkA ?_;refine ⟨_,QA3 rfl rfl rfl rfl (QV1 Job.zero i (by first|rfl|exact Nat.zero_add _|omega) ckA) rfl rfl (QY5 Job.zero i (by first|rfl|exact Nat.zero_add _|omega) ckA rfl),?_⟩;refine ai gkA ?_;refine ⟨_,QL1 rfl rfl rfl (QV1 Job.zero i (by first|rfl|exact Nat.zero_add _|omega) ckA) rfl,?_⟩;refine us (QAb ((l.getD i Job.zero).after) szA _) ?_;refine ai gkA ?_;refine ⟨_,QA3 rfl rfl rfl rfl (QV1 Job.zero i (by first|rfl|exact Nat.zero_add _|omega) ckA) rfl rfl (QY5 Job.zero i (by first|rfl|exact Nat.zero_add _|omega) ckA rfl),?_⟩;exact Qi0 (i+1) (wk [0] (tO rfl (tl eqA) .nil) (s1 (sv (to 0 lnA) (s1 (sv (Q80 (I_eq (wr omA)) lx) .nil))))) omA ⟨hR,by exact omA⟩
 ·skip;have hR:=hR0;obtain rfl:=foll hR rfl;exact rq (tt [0] (tO rfl (tl eqA) .nil) (to 0 lnA))
end Go.Proofs.YtcbolcknapeneaaGreatDoor
namespace Go.Proofs.YtcbolcknapeneaaGreatDoor
set_option linter.unusedSimpArgs false
set_option linter.unusedVariables false
open Go.Fw
set_option maxRecDepth 20000
set_option maxHeartbeats 4000000
attribute [local irreducible] ACalls AMoves
def Q3c (end_:Int):List Int->Int->Nat->Int × Bool
 | [],left,_=>((w64 (end_ - left)),true)
 | x_ :: r,left,i=>bif (decide ((Q63 x_ 0 end_) > left)) then (end_,false) else Q3c end_ r (w64 (left - (Q63 x_ 0 end_))) (i+1)
def sat_sum (end_:Int) (l:List Int):Int × Bool:=Q3c end_ l end_ 0
theorem sat_sum_c (end_:Int) (l:List Int) (hs0:l.length<=4294967296):GV 353 [I end_,ints l] (AVal.tup [I ((sat_sum end_ l).1),Bo ((sat_sum end_ l).2)]):=by
 generalize hR:sat_sum end_ l=R;refine ga (l1 (.cons lw .nil)) (Low.tup' (l1 (l1 .nil))) (kp 9 [10,11,12,13,21]) Tryz.func353 ?_;have hk0:=hs0;obtain z5:l.length<=4294967296:=hs0;refine Qh0 (fun (left:Int) (i:Nat)=>Q3c end_ (List.drop i l) left i=R∧i<=l.length) (fun left i=>l.length - i) (fun left i=>[(0,I end_),(4,I 0),(5,Bo false),(6,I left),(10,ints l),(11,I (l.length:Int)),(12,I (i:Int))]) (fun left i=>[]) end_ 0 (wk [] .nil (s1 (s1 (s1 (s1 (sl lw (s1 (s1 .nil)))))))) ⟨foll hR rfl,by exact omA⟩ ?_;clear hR;rintro left i ⟨hR,hj⟩;(try dsimp only at hR hj);refine ai (fun h1=>?_) (fun h2=>?_)
 ·have hlt:=ltA h1;rw [Q90 0 hlt] at hR;refine ai gkA ?_;refine us (Q49 (l.getD i 0) 0 end_ _) ?_;refine ai (fun h3=>?_) (fun h4=>?_)
  ·have qh3:=of_decide_eq_true h3;obtain rfl:=foll hR (ct h3 rfl);exact Q00 (Low.tup' (l1 (l1 .nil))) (Seen.tup (e1 (e1 .nil)))
  ·have qh4:=of_decide_eq_false h4;exact Q60 (w64 (left - (Q63 (l.getD i 0) 0 end_))) (i+1) (wk [] .nil (s1 (s1 (s1 (s1 (sl lw (s1 (sv (Q80 (I_eq (wr omA)) lx) .nil)))))))) omA ⟨foll hR (cf h4 rfl),by exact omA⟩
 ·rw [Qf0 (l:=l) (j:=i) (geA h2)] at hR;obtain rfl:=foll hR rfl;exact Q00 (Low.tup' (l1 (l1 .nil))) (Seen.tup (e1 (e1 .nil)))
def QH6 :List Node->Nat->Int
 | [],_=>0
 | x_ :: r,i=>bif (!(QV5 x_)) then 120 else QH6 r (i+1)
def QJ7 (l:List Node):Int:=bif (((l.length:Int)==0)||(decide ((l.length:Int) > 48))) then 120 else QH6 l 0
theorem ref12_Check_c (l:List Node) (hs0:l.length<=4294967296):GV 196 [nodeL l] (I (QJ7 l)):=by
 generalize hR:QJ7 l=R;refine ga (.cons lw .nil) lx (kp 4 [11,15,23]) Tryz.func196 ?_;have hk0:=hs0;obtain z7:l.length<=4294967296:=hs0;refine ai (fun h1=>?_) (fun h2=>?_)
 ·obtain rfl:=foll hR (ct h1 rfl);exact Q00 lx sr
 ·refine Qc0 (fun (i:Nat)=>QH6 (List.drop i l) i=R∧i<=l.length) (fun i=>l.length - i) (fun i=>[(0,nodeL l),(2,I 0),(3,I (i:Int))]) (fun i=>[]) 0 (wk [] .nil (sl lw (s1 (s1 .nil)))) ⟨foll hR (cf h2 rfl),by exact omA⟩ ?_;clear hR;rintro i ⟨hR,hj⟩;(try dsimp only at hR hj);refine ai (fun h3=>?_) (fun h4=>?_)
  ·have hlt:=ltA h3;rw [Q90 Node.zero hlt] at hR;refine ai gkA ?_;refine us (ref12_fine_c (l.getD i Node.zero) _) ?_;refine ai (fun h5=>?_) (fun h6=>?_)
   ·obtain rfl:=foll hR (ct h5 rfl);exact Q00 lx sr
   ·exact Qi0 (i+1) (wk [] .nil (sl lw (s1 (sv (Q80 (I_eq (wr omA)) lx) .nil)))) omA ⟨foll hR (cf h6 rfl),by exact omA⟩
  ·rw [Qf0 (l:=l) (j:=i) (geA h4)] at hR;obtain rfl:=foll hR rfl;exact Q00 lx sr
def Q0c (a:Shape) (b:Shape):Bool:=(((((a.kind==b.kind)&&(a.min==b.min))&&(a.max==b.max))&&(a.wall==b.wall))&&(Qc8 a.alts b.alts))
theorem ref07_Same_c (a:Shape) (b:Shape) (hs0:a.sz) (hs1:b.sz):GV 70 [Shape.a a,Shape.a b] (Bo (Q0c a b)):=by
 generalize hR:Q0c a b=R;refine ga (.cons (Shape.low _ _) (.cons (Shape.low _ _) .nil)) lx (kp 5 []) Tryz.func70 ?_;have hk0:=hs0;obtain z1:a.alts.length<=4294967296:=hs0;have hk1:=hs1;obtain z2:b.alts.length<=4294967296:=hs1;(first|apply u2|apply u3|apply u4|apply us);exact QPc a.alts b.alts szA szA _;obtain rfl:=foll hR rfl;exact Q00 lx sr
def Qo5 :List (Nat × Int)->Nat->Int × Int
 | [],n=>((n:Int),0)
 | x_ :: r,n=>bif ((Qe0 x_.2)==0) then ((n:Int),40) else Qo5 r (n+1)
def Qi3 (s:ByteArray):Int × Int:=Qo5 (QI6 s) 0
theorem QL8 (s:ByteArray) (hs0:s.size<=4294967296):GV 297 [Sg s] (AVal.tup [I ((Qi3 s).1),I ((Qi3 s).2)]):=by
 generalize hR:Qi3 s=R;refine ga (l1 .nil) (Low.tup' (l1 (l1 .nil))) (kp 7 [8,9,10,14]) Tryz.func297 ?_;have hk0:=hs0;obtain z5:s.size<=4294967296:=hs0;refine Qh0 (fun (n:Nat) (pos:Nat)=>∃ m,ByteArray.size s - pos<=m∧Qo5 (QZ3 s m pos) n=R∧n<=pos) (fun n pos=>ByteArray.size s - pos) (fun n pos=>[(2,I 0),(3,I 0),(4,I (n:Int)),(8,AVal.ptr 0 0 1 0 0)]) (fun n pos=>[(0,AObj.other (.strIter s pos))]) 0 0 (wk [0] (tO rfl (.strIter _ _) .nil) (s1 (s1 (s1 (sv (Q10 0 rfl rfl) .nil))))) ⟨ByteArray.size s,by exact omA,foll hR rfl,by exact exA⟩ ?_;clear hR;rintro n pos ⟨m,hm,hR,hx⟩;(try dsimp only at hR hm hx);refine ai (fun h1=>?_) (fun h2=>?_)
 ·have hlt:=of_decide_eq_true h1;have hw:=Qf7 s pos;have hwe:=Qe7 s pos hlt;obtain ⟨m,rfl⟩:=sucA m;rw [QT2 h1] at hR;refine ai (fun _=>?_) (fun h=>nomatch h);refine us (Qk4 ((pos,((Utf8.decode s pos).1:Int)).2) _) ?_;refine ai (fun h3=>?_) (fun h4=>?_)
  ·obtain rfl:=foll hR (ct h3 rfl);exact Q00 (Low.tup' (l1 (l1 .nil))) (Seen.tup (e1 (e1 .nil)))
  ·exact Q60 (n+1) (pos+(Utf8.decode s pos).2) (wk [0] (tO rfl (.strIter _ _) .nil) (s1 (s1 (sv (Q80 (I_eq (wr omA)) lx) (sv (Q10 0 rfl rfl) .nil))))) omA ⟨m,by exact omA,foll hR (cf h4 rfl),by exact exA⟩
 ·rw [Q35 h2] at hR;refine ai (fun h=>nomatch h) (fun _=>?_);obtain rfl:=foll hR rfl;exact Q00 (Low.tup' (l1 (l1 .nil))) (Seen.tup (e1 (e1 .nil)))
def QC2 (l:List Int) (at_:Int):Nat->Int->Int
 | 0,_=>0
 | m+1,i=>bif (decide (i<(l.length:Int))) then bif ((((((Qe0 (l.getD (Int.toNat at_) 0))==2)&&((Qe0 (l.getD (Int.toNat i) 0))!=2))&&((Qe0 (l.getD (Int.toNat i) 0))!=3))&&((l.getD (Int.toNat i) 0)!=45))&&((l.getD (Int.toNat i) 0)!=95)) then i else bif (((Qe0 (l.getD (Int.toNat at_) 0))==3)&&(!(QM8 (l.getD (Int.toNat i) 0)))) then i else QC2 l at_ m (w64 (i+1)) else i
def Qk1 (l:List Int) (at_:Int):Int:=QC2 l at_ ((Int.toNat ((l.length:Int) - (w64 (at_+1))))+1) (w64 (at_+1))
theorem Q9e (l:List Int) (at_:Int) (hs0:l.length<=4294967296) (hp0:0<=at_∧at_<(l.length:Int)):GV 368 [runes l,I at_] (I (Qk1 l at_)):=by
 generalize hR:Qk1 l at_=R;refine ga (.cons lw (l1 .nil)) lx (kp 8 [18,47,58]) Tryz.func368 ?_;have hk0:=hs0;obtain z7:l.length<=4294967296:=hs0;have hw0:w64 (at_+1)=at_+1:=wr (by omega);refine ai gkA ?_;refine us (Qk4 (l.getD (Int.toNat at_) 0) _) ?_;refine Qc0 (fun (i:Int)=>∃ m,(Int.toNat ((l.length:Int) - i))<m∧QC2 l at_ m i=R∧0<=i∧i<=(l.length:Int)) (fun i=>(Int.toNat ((l.length:Int) - i))) (fun i=>[(0,runes l),(4,I 0),(5,I (Qe0 (l.getD (Int.toNat at_) 0))),(6,I i)]) (fun i=>[]) (w64 (at_+1)) (wk [] .nil (sl lw (s1 (s1 (s1 .nil))))) ⟨_,Nat.lt_succ_self _,foll hR rfl,by exact exA⟩ ?_;clear hR;rintro i ⟨m,hm,hR,hx⟩;(try dsimp only at hR hm hx);obtain ⟨m,rfl⟩:=sucA m;refine ai (fun h1=>?_) (fun h2=>?_)
 ·have qh1:=of_decide_eq_true h1;have hw1:w64 (i+1)=i+1:=wr (by omega);refine ai gkA ?_;refine us (Qk4 (l.getD (Int.toNat i) 0) _) ?_;refine ai gkA ?_;refine ai gkA ?_;refine ai (fun h3=>?_) (fun h4=>?_)
  ·obtain rfl:=foll hR (ct h1 (ct h3 rfl));exact Q00 lx sr
  ·refine ai gkA ?_;(first|apply u2|apply u3|apply u4|apply us);exact ref05_small_c (l.getD (Int.toNat i) 0) _;refine ai (fun h5=>?_) (fun h6=>?_)
   ·obtain rfl:=foll hR (ct h1 (cf h4 (ct h5 rfl)));exact Q00 lx sr
   ·exact Qi0 (w64 (i+1)) (wk [] .nil (sl lw (s1 (s1 (s1 .nil))))) omA ⟨m,by exact omA,foll hR (ct h1 (cf h4 (cf h6 rfl))),by exact exA⟩
 ·have qh2:=of_decide_eq_false h2;obtain rfl:=foll hR (cf h2 rfl);exact Q00 lx sr
theorem Qae (l:List Int) (at_:Int) (h:l.length<=400):∀ (m:Nat) (i:Int),0<=i->i<=l.length->0<=QC2 l at_ m i∧QC2 l at_ m i<=l.length∧(Int.toNat ((l.length:Int) - i)<m->i<=QC2 l at_ m i):=by
 intro m
 induction m with
 | zero=>intro i h0 h1;refine ⟨by simp [QC2],by simp [QC2],fun h=>absurd h (by omega)⟩
 | succ m ih =>
  intro i h0 h1
  rw [QC2]
  cases hd:decide (i<(l.length:Int)) with
  | false=>exact ⟨h0,h1,fun _=>by simp⟩
  | true =>
   have hi:=of_decide_eq_true hd
   have hw:w64 (i+1)=i+1:=wr (by omega)
   simp only [cond_true]
   cases ((((((Qe0 (l.getD (Int.toNat at_) 0))==2)&&((Qe0 (l.getD (Int.toNat i) 0))!=2))&&((Qe0 (l.getD (Int.toNat i) 0))!=3))&&((l.getD (Int.toNat i) 0)!=45))&&((l.getD (Int.toNat i) 0)!=95)) with
   | true=>exact ⟨h0,h1,fun _=>by simp⟩
   | false =>
    simp only [cond_false]
    cases (((Qe0 (l.getD (Int.toNat at_) 0))==3)&&(!(QM8 (l.getD (Int.toNat i) 0)))) with
    | true=>exact ⟨h0,h1,fun _=>by simp⟩
    | false =>
     simp only [cond_false]
     rw [hw]
     obtain ⟨a,b,c⟩:=ih (i+1) (by omega) (by omega)
     exact ⟨a,b,fun hm=>by have:=c (by omega);omega⟩
theorem Qwc (l:List Int) (at_:Int) (h0:0<=at_) (h1:at_<l.length) (h:l.length<=400):at_<Qk1 l at_∧Qk1 l at_<=l.length:=by
 have hw:w64 (at_+1)=at_+1:=wr (by omega)
 unfold Qk1
 rw [hw]
 obtain ⟨a,b,c⟩:=Qae l at_ h ((Int.toNat ((l.length:Int) - (at_+1)))+1) (at_+1) (by omega) (by omega)
 have:=c (by omega)
 omega
def QM3 (l:List Dep) (i:Nat) (x_:Dep):Nat->Nat->Sum (Bool) (Nat)
 | 0,_=>Sum.inr 0
 | m+1,k=>bif (decide ((k:Int)<(i:Int))) then bif ((l.getD k Dep.zero).job==x_.job) then Sum.inl false else QM3 l i x_ m (k+1) else Sum.inr k
def QR1 (l:List Dep):List Dep->Nat->Bool
 | [],_=>true
 | x_ :: r,i=>bif ((!(Q31 x_.how 1 3))||(!(Q31 x_.job 1 99999))) then false else (Sum.elim id (fun p1:Nat=>QR1 l r (i+1))) (QM3 l i x_ ((Int.toNat ((i:Int) - (0:Int)))+1) 0)
def QF5 (l:List Dep):Bool:=bif (decide ((l.length:Int) > 4)) then false else QR1 l l 0
theorem ref08_waits_c (l:List Dep) (hs0:l.length<=4294967296):GV 227 [depL l] (Bo (QF5 l)):=by
 generalize hR:QF5 l=R;refine ga (.cons lw .nil) lx (kp 5 [7,11,29,32,45]) Tryz.func227 ?_;have hk0:=hs0;obtain z11:l.length<=4294967296:=hs0;refine ai (fun h1=>?_) (fun h2=>?_)
 ·have qh1:=of_decide_eq_true h1;obtain rfl:=foll hR (ct h1 rfl);exact Q00 lx sr
 ·have qh2:=of_decide_eq_false h2;refine Qc0 (fun (i:Nat)=>QR1 l (List.drop i l) i=R∧i<=l.length) (fun i=>l.length - i) (fun i=>[(0,depL l),(2,Bo false),(3,I (i:Int))]) (fun i=>[]) 0 (wk [] .nil (sl lw (s1 (s1 .nil)))) ⟨foll hR (cf h2 rfl),by exact omA⟩ ?_;clear hR;rintro i ⟨hR,hj⟩;(try dsimp only at hR hj);refine ai (fun h3=>?_) (fun h4=>?_)
  ·have hlt:=ltA h3;rw [Q90 Dep.zero hlt] at hR;refine ai gkA ?_;refine us (Qw3 ((l.getD i Dep.zero).how) 1 3 _) ?_;refine ai gkA ?_;(first|apply u2|apply u3|apply u4|apply us);exact Qw3 ((l.getD i Dep.zero).job) 1 99999 _;refine ai (fun h5=>?_) (fun h6=>?_)
   ·obtain rfl:=foll hR (ct h5 rfl);exact Q00 lx sr
   ·refine Qc0 (fun (k:Nat)=>∃ m,(Int.toNat ((i:Int) - (k:Int)))<m∧(Sum.elim id (fun p1:Nat=>QR1 l (List.drop (i+1) l) (i+1))) (QM3 l i (l.getD i Dep.zero) m k)=R∧(k:Int)<=(i:Int)) (fun k=>(Int.toNat ((i:Int) - (k:Int)))) (fun k=>[(0,depL l),(2,Bo false),(3,I (i:Int)),(4,I (k:Int)),(11,Bo (decide ((i:Int)<(l.length:Int)))),(29,Bo ((!(Q31 (l.getD i Dep.zero).how 1 3))||(!(Q31 (l.getD i Dep.zero).job 1 99999))))]) (fun k=>[]) 0 (wk [] .nil (sl lw (s1 (s1 (s1 (s1 (s1 .nil))))))) ⟨_,Nat.lt_succ_self _,foll hR (cf h6 rfl),by exact exA⟩ ?_;clear hR;rintro k ⟨m,hm,hR,hx⟩;(try dsimp only at hR hm hx);obtain ⟨m,rfl⟩:=sucA m;refine ai (fun h7=>?_) (fun h8=>?_)
    ·have qh7:=of_decide_eq_true h7;refine dchk (by kernel_rfl) ?_;refine ai gkA ?_;refine ai gkA ?_;(repeat ((first|refine ai rfl ?_|refine ai (fun _=>rfl) ?_)));refine ai (fun h9=>?_) (fun h10=>?_)
     ·obtain rfl:=foll hR (congrArg (Sum.elim id (fun p1:Nat=>QR1 l (List.drop (i+1) l) (i+1))) (ct h7 (ct h9 rfl)));exact Q00 lx sr
     ·exact Qi0 (k+1) (wk [] .nil (sl lw (s1 (s1 (sv (Q80 (I_eq (wr omA)) lx) (s1 (s1 .nil))))))) omA ⟨m,by exact omA,foll hR (congrArg (Sum.elim id (fun p1:Nat=>QR1 l (List.drop (i+1) l) (i+1))) (ct h7 (cf h10 rfl))),by exact exA⟩
    ·have qh8:=of_decide_eq_false h8;replace hR:(Sum.elim id (fun p1:Nat=>QR1 l (List.drop (i+1) l) (i+1))) (Sum.inr k)=R:=foll hR (congrArg (Sum.elim id (fun p1:Nat=>QR1 l (List.drop (i+1) l) (i+1))) (cf h8 rfl));exact Qi0 (i+1) (wk [] .nil (sl lw (s1 (sv (Q80 (I_eq (wr omA)) lx) .nil)))) omA ⟨foll hR rfl,by exact omA⟩
  ·rw [Qf0 (l:=l) (j:=i) (geA h4)] at hR;obtain rfl:=foll hR rfl;exact Q00 lx sr
def QQ1 (x_:Alt):List Alt->Nat->Sum (Int) (Nat)
 | [],k=>Sum.inr k
 | x_1 :: r,k=>bif (x_.nodes==x_1.nodes) then Sum.inl 70 else QQ1 x_ r (k+1)
def Qx0 (s:Shape):List Alt->Nat->Int
 | [],_=>0
 | x_ :: r,i=>bif ((!(Q71 x_.nodes))||(!(QJ1 x_.wall))) then 70 else (Sum.elim id (fun p1:Nat=>Qx0 s r (i+1))) (QQ1 x_ (List.drop (i+1) s.alts) (i+1))
def Q33 (s:Shape) (most:Int):Int:=bif (((((decide ((s.alts.length:Int)<1))||(decide ((s.alts.length:Int) > most)))||(s.min != 0))||(s.max != 0))||(s.wall != 0)) then 70 else Qx0 s s.alts 0
def Q01 (s:Shape):Int:=bif (s.kind==3) then bif (((((decide ((s.alts.length:Int) > 0))||(!(Q71 s.min)))||(!(Q71 s.max)))||(decide (s.max<s.min)))||(!(QJ1 s.wall))) then 70 else 0 else bif (s.kind==2) then Q33 s 6 else bif (s.kind != 1) then 70 else Q33 s 1
theorem Qlb (s:Shape) (hs0:s.sz):GV 228 [Shape.a s] (I (Q01 s)):=by
 generalize hR:Q01 s=R;refine ga (.cons (Shape.low _ _) .nil) lx (kj [1000010] 6 [8,37,40,43,69,74,94,101,116]) Tryz.func228 ?_;have hk0:=hs0;obtain z19:s.alts.length<=4294967296:=hs0;refine ai (fun h1=>?_) (fun h2=>?_)
 ·(first|apply u2|apply u3|apply u4|apply us);exact Qu9 s.min _;(first|apply u2|apply u3|apply u4|apply us);exact Qu9 s.max _;(first|apply u2|apply u3|apply u4|apply us);exact Qxc s.wall _;refine ai (fun h3=>?_) (fun h4=>?_)
  ·obtain rfl:=foll hR (ct h1 (ct h3 rfl));exact Q00 lx sr
  ·obtain rfl:=foll hR (ct h1 (cf h4 rfl));exact Q00 lx sr
 ·refine QY0 (fun (most:Int)=>Q33 s most=R) (fun most=>[(1,AVal.ptr 0 0 5 0 0),(2,I 0),(3,I most)]) (fun most=>[(0,AObj.row 31 5 [[I s.kind,altL s.alts,I s.min,I s.max,I s.wall]])]) ?_ ?_
  ·clear hR;rintro most hR;(try dsimp only at hR);refine ai (fun h5=>?_) (fun h6=>?_)
   ·obtain rfl:=foll hR (ct h5 rfl);exact Q00 lx sr
   ·refine Qc0 (fun (i:Nat)=>Qx0 s (List.drop i s.alts) i=R∧i<=s.alts.length) (fun i=>s.alts.length - i) (fun i=>[(1,AVal.ptr 0 0 5 0 0),(2,I 0),(4,I (i:Int))]) (fun i=>[(0,AObj.row 31 5 [[I s.kind,altL s.alts,I s.min,I s.max,I s.wall]])]) 0 (wk [0] (tO rfl (ts Shape.lo) .nil) (sv (Q10 0 rfl rfl) (s1 (s1 .nil)))) ⟨foll hR (cf h6 rfl),by exact omA⟩ ?_;clear hR;rintro i ⟨hR,hj⟩;(try dsimp only at hR hj);refine ai (fun h7=>?_) (fun h8=>?_)
    ·have hlt:=ltA h7;rw [Q90 Alt.zero hlt] at hR;refine ai gkA ?_;refine us (Qu9 ((s.alts.getD i Alt.zero).nodes) _) ?_;refine ai gkA ?_;(first|apply u2|apply u3|apply u4|apply us);exact Qxc ((s.alts.getD i Alt.zero).wall) _;refine ai (fun h9=>?_) (fun h10=>?_)
     ·obtain rfl:=foll hR (ct h9 rfl);exact Q00 lx sr
     ·refine Qc0 (fun (k:Nat)=>(Sum.elim id (fun p1:Nat=>Qx0 s (List.drop (i+1) s.alts) (i+1))) (QQ1 (s.alts.getD i Alt.zero) (List.drop k s.alts) k)=R∧k<=s.alts.length) (fun k=>s.alts.length - k) (fun k=>[(1,AVal.ptr 0 0 5 0 0),(2,I 0),(4,I (i:Int)),(5,I (k:Int)),(74,Bo (decide ((i:Int)<(s.alts.length:Int)))),(94,Bo ((!(Q71 (s.alts.getD i Alt.zero).nodes))||(!(QJ1 (s.alts.getD i Alt.zero).wall))))]) (fun k=>[(0,AObj.row 31 5 [[I s.kind,altL s.alts,I s.min,I s.max,I s.wall]])]) (i+1) (wk [0] (tO rfl (ts Shape.lo) .nil) (sv (Q10 0 rfl rfl) (s1 (s1 (sv (Q80 (I_eq (wr omA)) lx) (s1 (s1 .nil))))))) ⟨foll hR (cf h10 rfl),by exact omA⟩ ?_;clear hR;rintro k ⟨hR,hj⟩;(try dsimp only at hR hj);refine ai (fun h11=>?_) (fun h12=>?_)
      ·have hlt:=ltA h11;rw [Q90 Alt.zero hlt] at hR;refine dchk (by kernel_rfl) ?_;refine ai gkA ?_;refine ai gkA ?_;(repeat ((first|refine ai rfl ?_|refine ai (fun _=>rfl) ?_)));refine ai (fun h13=>?_) (fun h14=>?_)
       ·obtain rfl:=foll hR (congrArg (Sum.elim id (fun p1:Nat=>Qx0 s (List.drop (i+1) s.alts) (i+1))) (ct h13 rfl));exact Q00 lx sr
       ·exact Qi0 (k+1) (wk [0] (tO rfl (ts Shape.lo) .nil) (sv (Q10 0 rfl rfl) (s1 (s1 (sv (Q80 (I_eq (wr omA)) lx) (s1 (s1 .nil))))))) omA ⟨foll hR (congrArg (Sum.elim id (fun p1:Nat=>Qx0 s (List.drop (i+1) s.alts) (i+1))) (cf h14 rfl)),by exact omA⟩
      ·rw [Qf0 (l:=s.alts) (j:=k) (geA h12)] at hR;replace hR:(Sum.elim id (fun p1:Nat=>Qx0 s (List.drop (i+1) s.alts) (i+1))) (Sum.inr k)=R:=foll hR (congrArg (Sum.elim id (fun p1:Nat=>Qx0 s (List.drop (i+1) s.alts) (i+1))) rfl);exact Qi0 (i+1) (wk [0] (tO rfl (ts Shape.lo) .nil) (sv (Q10 0 rfl rfl) (s1 (sv (Q80 (I_eq (wr omA)) lx) .nil)))) omA ⟨foll hR rfl,by exact omA⟩
    ·rw [Qf0 (l:=s.alts) (j:=i) (geA h8)] at hR;obtain rfl:=foll hR rfl;exact Q00 lx sr
  ·refine ai (fun h15=>?_) (fun h16=>?_)
   ·exact Q70 6 (wk [0] (tO rfl (ts Shape.lo) .nil) (sv (Q10 0 rfl rfl) (s1 (s1 .nil)))) (foll hR (cf h2 (ct h15 rfl)))
   ·refine ai (fun h17=>?_) (fun h18=>?_)
    ·obtain rfl:=foll hR (cf h2 (cf h16 (ct h17 rfl)));exact Q00 lx sr
    ·exact Q70 1 (wk [0] (tO rfl (ts Shape.lo) .nil) (sv (Q10 0 rfl rfl) (s1 (s1 .nil)))) (foll hR (cf h2 (cf h16 (cf h18 rfl))))
theorem Q76 {s:Shape} (h:(Q01 s != 0)=false) (hk:(s.kind != 3)=false):1<=s.min∧s.min<=s.max∧s.max<=48∧w64 (s.max - s.min)=s.max - s.min:=by
 have hk':s.kind=3:=by simpa using hk
 have h1:Q71 s.min=true∧Q71 s.max=true ∧ ¬ s.max<s.min:=by
  simp only [Q01,hk',beq_self_eq_true,cond_true] at h
  revert h
  cases h2:(((((decide ((s.alts.length:Int) > 0))||(!(Q71 s.min)))||(!(Q71 s.max)))||(decide (s.max<s.min)))||(!(QJ1 s.wall))) with
  | true=>simp
  | false=>intro _;simp at h2;exact ⟨h2.1.1.1.2,h2.1.1.2,by omega⟩
 obtain ⟨a,b,c⟩:=h1
 simp [Q71] at a b
 exact ⟨by omega,by omega,by omega,wr (by omega)⟩
def Qq5 (l:List Usage):List Usage->Nat->Int
 | [],_=>0
 | x_ :: r,i=>bif ((((((((i:Int)==200)||(!(Qd3 x_.user)))||(!(Qd3 x_.account)))||(decide (x_.used<0)))||(decide (x_.used > 1000000000000)))||(decide (x_.share<0)))||(decide (x_.share > x_.used))) then 2 else bif ((decide ((i:Int) > 0))&&(!(Qw6 (l.getD (Int.toNat (w64 ((i:Int) - 1))) Usage.zero) x_))) then 2 else Qq5 l r (i+1)
def QK7 (l:List Usage):Int:=Qq5 l l 0
theorem ref17_Check_c (l:List Usage) (hs0:l.length<=4294967296∧(∀ y ∈ l,y.sz)):GV 142 [QU1 l] (I (QK7 l)):=by
 generalize hR:QK7 l=R;refine ga (.cons lw .nil) lx (kp 5 [8,50,62]) Tryz.func142 ?_;obtain ⟨z9,z10⟩:=id hs0;refine Qc0 (fun (i:Nat)=>Qq5 l (List.drop i l) i=R∧i<=l.length) (fun i=>l.length - i) (fun i=>[(0,QU1 l),(2,I 0),(3,I (i:Int))]) (fun i=>[]) 0 (wk [] .nil (sl lw (s1 (s1 .nil)))) ⟨foll hR rfl,by exact omA⟩ ?_;clear hR;rintro i ⟨hR,hj⟩;(try dsimp only at hR hj);refine ai (fun h1=>?_) (fun h2=>?_)
 ·have hlt:=ltA h1;rw [Q90 Usage.zero hlt] at hR;have hxz:(l.getD i Usage.zero).sz:=Qy0 (by first|assumption|grind) (Usage.szz _);have hkz:=hxz;obtain ⟨z3,z4⟩:=Usage.zz hxz;refine ai gkA ?_;(first|apply u2|apply u3|apply u4|apply us);exact QCc ((l.getD i Usage.zero).user) _;(first|apply u2|apply u3|apply u4|apply us);exact QCc ((l.getD i Usage.zero).account) _;refine ai (fun h5=>?_) (fun h6=>?_)
  ·obtain rfl:=foll hR (ct h5 rfl);exact Q00 lx sr
  ·refine dchk (by kernel_rfl) ?_;refine ai gkA ?_;(first|apply u2|apply u3|apply u4|apply us);exact Qnb (l.getD (Int.toNat (w64 ((i:Int) - 1))) Usage.zero) (l.getD i Usage.zero) _;(repeat ((first|refine ai rfl ?_|refine ai (fun _=>rfl) ?_|refine ai (fun _=>Qnb (l.getD (Int.toNat (w64 ((i:Int) - 1))) Usage.zero) (l.getD i Usage.zero) _) ?_)));refine ai (fun h7=>?_) (fun h8=>?_)
   ·obtain rfl:=foll hR (cf h6 (ct h7 rfl));exact Q00 lx sr
   ·exact Qi0 (i+1) (wk [] .nil (sl lw (s1 (sv (Q80 (I_eq (wr omA)) lx) .nil)))) omA ⟨foll hR (cf h6 (cf h8 rfl)),by exact omA⟩
 ·rw [Qf0 (l:=l) (j:=i) (geA h2)] at hR;obtain rfl:=foll hR rfl;exact Q00 lx sr
def Qe1 :List Step->List Int->Nat->(List Int) × Nat
 | [],out,i=>(out,i)
 | x_ :: r,out,i=>Qe1 r (Qj3 out x_.at_) (i+1)
def Qq1 :List Int->List Int->Nat->(List Int) × Nat
 | [],out1,i1=>(out1,i1)
 | x_1 :: r,out1,i1=>Qq1 r (Qj3 out1 x_1) (i1+1)
def QI4 (out1:List Int) (i1:Nat):(List Int):=out1
def QH4 (more:List Int) (out:List Int) (i:Nat):(List Int):=QI4 ((Qq1 more out 0).1) ((Qq1 more out 0).2)
def QS0 (p_:List Step) (more:List Int):(List Int):=QH4 more ((Qe1 p_ [] 0).1) ((Qe1 p_ [] 0).2)
theorem b1b0 {P:Prop} (h:P:=by first|((try dsimp only);refine Nat.le_trans (Qb7 _ _) ?_;omega)|exact exA):P:=h
theorem b1b1 {P:Prop} (h:P:=by first|((try dsimp only);refine Nat.le_trans (Qb7 _ _) ?_;omega)|exact szA):P:=h
theorem ref10_Ticks_c (p_:List Step) (more:List Int) (hs0:p_.length<=4294967296) (hs1:more.length<=4294967296) (hp0:p_.length<=1000∧more.length<=2):GV 302 [stepL p_,ints more] (ints (QS0 p_ more)):=by
 generalize hR:QS0 p_ more=R;refine ga (.cons lw (.cons lw .nil)) lw (kp 8 [11,24]) Tryz.func302 ?_;have hk0:=hs0;obtain z5:p_.length<=4294967296:=hs0;have hk1:=hs1;obtain z6:more.length<=4294967296:=hs1;refine Qh0 (fun (out:List Int) (i:Nat)=>QH4 more (Qe1 (List.drop i p_) out i).1 (Qe1 (List.drop i p_) out i).2=R∧i<=p_.length∧out.length<=i) (fun out i=>p_.length - i) (fun out i=>[(0,stepL p_),(1,ints more),(4,AVal.lit (.slice none 0 0)),(5,ints out),(6,I (i:Int))]) (fun out i=>[]) [] 0 (wk [] .nil (sl lw (sl lw (s1 (sv (turn_nil) (s1 .nil)))))) ⟨foll hR rfl,by exact omA,b1b0⟩ ?_;clear hR;rintro out i ⟨hR,hj,hx⟩;(try dsimp only at hR hj hx);refine ai (fun h1=>?_) (fun h2=>?_)
 ·have hlt:=ltA h1;rw [Q90 Step.zero hlt] at hR;refine ai gkA ?_;refine us (Qde out ((p_.getD i Step.zero).at_) b1b1 _) ?_;exact Q60 (Qj3 out (p_.getD i Step.zero).at_) (i+1) (wk [] .nil (sl lw (sl lw (s1 (sl lw (sv (Q80 (I_eq (wr omA)) lx) .nil)))))) omA ⟨foll hR (congrArg (fun p:(List Int) × Nat=>QH4 more p.1 p.2) rfl),by exact omA,b1b0⟩
 ·rw [Qf0 (l:=p_) (j:=i) (geA h2)] at hR;replace hR:QH4 more out i=R:=fo2 (fun p:(List Int) × Nat=>QH4 more p.1 p.2) (out,i) hR rfl;refine Qh0 (fun (out1:List Int) (i1:Nat)=>QI4 (Qq1 (List.drop i1 more) out1 i1).1 (Qq1 (List.drop i1 more) out1 i1).2=R∧i1<=more.length∧out1.length<=p_.length+i1) (fun out1 i1=>more.length - i1) (fun out1 i1=>[(1,ints more),(4,AVal.lit (.slice none 0 0)),(5,ints out1),(7,I (i1:Int))]) (fun out1 i1=>[]) out 0 (wk [] .nil (sl lw (s1 (sl lw (s1 .nil))))) ⟨foll hR rfl,by exact omA,b1b0⟩ ?_;clear hR;rintro out1 i1 ⟨hR,hj,hx⟩;(try dsimp only at hR hj hx);refine ai (fun h3=>?_) (fun h4=>?_)
  ·have hlt:=ltA h3;rw [Q90 0 hlt] at hR;refine ai gkA ?_;refine us (Qde out1 (more.getD i1 0) b1b1 _) ?_;exact Q60 (Qj3 out1 (more.getD i1 0)) (i1+1) (wk [] .nil (sl lw (s1 (sl lw (sv (Q80 (I_eq (wr omA)) lx) .nil))))) omA ⟨foll hR (congrArg (fun p:(List Int) × Nat=>QI4 p.1 p.2) rfl),by exact omA,b1b0⟩
  ·rw [Qf0 (l:=more) (j:=i1) (geA h4)] at hR;replace hR:QI4 out1 i1=R:=fo2 (fun p:(List Int) × Nat=>QI4 p.1 p.2) (out1,i1) hR rfl;obtain rfl:=foll hR rfl;exact Q00 lw sr
theorem QY7:∀ (p:List Step) (out:List Int) (i:Nat),(Qe1 p out i).1.length<=out.length+p.length
 | [],out,i=>by simp [Qe1]
 | x :: r,out,i=>by
  rw [Qe1]
  have h1:=QY7 r (Qj3 out x.at_) (i+1)
  have h2:=Qb7 out x.at_
  simp only [List.length_cons]
  omega
theorem QZ7:∀ (p out:List Int) (i:Nat),(Qq1 p out i).1.length<=out.length+p.length
 | [],out,i=>by simp [Qq1]
 | x :: r,out,i=>by
  rw [Qq1]
  have h1:=QZ7 r (Qj3 out x) (i+1)
  have h2:=Qb7 out x
  simp only [List.length_cons]
  omega
theorem QI7 (p:List Step) (more:List Int):(QS0 p more).length<=p.length+more.length:=by
 have h1:=QY7 p [] 0
 have h2:=QZ7 more (Qe1 p [] 0).1 0
 unfold QS0 QH4 QI4
 simp only [List.length_nil] at h1
 omega
def Q64 (l:List Job) (id_:Int):Job:=bif (decide ((Qa6 l id_)<0)) then Job.zero else (l.getD (Int.toNat (Qa6 l id_)) Job.zero)
theorem ref15_Get_c (l:List Job) (id_:Int) (hs0:l.length<=4294967296∧(∀ y ∈ l,y.sz)):GV 301 [jobL l,I id_] (Job.a (Q64 l id_)):=by
 generalize hR:Q64 l id_=R;refine ga (.cons lw (l1 .nil)) (Job.low _ _) (kp 6 [10]) Tryz.func301 ?_;obtain ⟨z3,z4⟩:=id hs0;refine us (ref15_At_c l id_ szA _) ?_;refine ai (fun h1=>?_) (fun h2=>?_)
 ·have qh1:=of_decide_eq_true h1;obtain rfl:=foll hR (ct h1 rfl);exact Q00 (Job.low _ _) (Seen.agg (e1 (e1 (e1 (e1 (e1 (ev (Qs0) (e1 (e1 (e1 (e1 (ev (Qs0) (e1 (e1 (e1 (e1 (e1 (e1 (e1 (e1 (e1 .nil)))))))))))))))))))))
 ·have qh2:=of_decide_eq_false h2;refine And.intro (by first|exact fun hg=>decide_eq_true (by first|((have hq:=ref15_At_lt l id_;omega))|exact ckA)|exact gkA) ?_;obtain rfl:=foll hR (cf h2 rfl);exact Q00 (Job.low _ _) sr
def Qy2 (from_:Int) (to_:Int):List Step->Int->Nat->Int × Nat
 | [],out,i=>(out,i)
 | x_ :: r,out,i=>bif (((decide (x_.at_ > from_))&&(decide (x_.at_<to_)))&&(decide (x_.free<out))) then Qy2 from_ to_ r x_.free (i+1) else Qy2 from_ to_ r out (i+1)
def QN3 (out:Int) (i:Nat):Int:=out
def Qf2 (p_:List Step) (from_:Int) (to_:Int):Int:=bif (((((QF0 p_)!=0)||(decide (from_<0)))||(decide (from_ > 1000000)))||(decide (to_<=from_))) then 0 else QN3 ((Qy2 from_ to_ p_ (Qz4 p_ from_) 0).1) ((Qy2 from_ to_ p_ (Qz4 p_ from_) 0).2)
theorem QN8 (p_:List Step) (from_:Int) (to_:Int) (hs0:p_.length<=4294967296):GV 58 [stepL p_,I from_,I to_] (I (Qf2 p_ from_ to_)):=by
 generalize hR:Qf2 p_ from_ to_=R;refine ga (.cons lw (l1 (l1 .nil))) lx (kp 9 [24,31,58]) Tryz.func58 ?_;have hk0:=hs0;obtain z7:p_.length<=4294967296:=hs0;refine us (Qa7 p_ szA _) ?_;refine ai (fun h1=>?_) (fun h2=>?_)
 ·obtain rfl:=foll hR (ct h1 rfl);exact Q00 lx sr
 ·refine us (Qce p_ from_ szA _) ?_;refine Qh0 (fun (out:Int) (i:Nat)=>QN3 (Qy2 from_ to_ (List.drop i p_) out i).1 (Qy2 from_ to_ (List.drop i p_) out i).2=R∧i<=p_.length) (fun out i=>p_.length - i) (fun out i=>[(0,stepL p_),(1,I from_),(2,I to_),(6,I 0),(7,I out),(8,I (i:Int))]) (fun out i=>[]) (Qz4 p_ from_) 0 (wk [] .nil (sl lw (s1 (s1 (s1 (s1 (s1 .nil))))))) ⟨foll hR (cf h2 rfl),by exact omA⟩ ?_;clear hR;rintro out i ⟨hR,hj⟩;(try dsimp only at hR hj);refine ai (fun h3=>?_) (fun h4=>?_)
  ·have hlt:=ltA h3;rw [Q90 Step.zero hlt] at hR;refine ai gkA ?_;refine ai gkA ?_;refine ai gkA ?_;refine ai (fun h5=>?_) (fun h6=>?_)
   ·refine ai gkA ?_;exact Q60 ((p_.getD i Step.zero).free) (i+1) (wk [] .nil (sl lw (s1 (s1 (s1 (s1 (sv (Q80 (I_eq (wr omA)) lx) .nil))))))) omA ⟨foll hR (congrArg (fun p:Int × Nat=>QN3 p.1 p.2) (ct h5 rfl)),by exact omA⟩
   ·exact Q60 out (i+1) (wk [] .nil (sl lw (s1 (s1 (s1 (s1 (sv (Q80 (I_eq (wr omA)) lx) .nil))))))) omA ⟨foll hR (congrArg (fun p:Int × Nat=>QN3 p.1 p.2) (cf h6 rfl)),by exact omA⟩
  ·rw [Qf0 (l:=p_) (j:=i) (geA h4)] at hR;replace hR:QN3 out i=R:=fo2 (fun p:Int × Nat=>QN3 p.1 p.2) (out,i) hR rfl;obtain rfl:=foll hR rfl;exact Q00 lx sr
end Go.Proofs.YtcbolcknapeneaaGreatDoor
