/-
  Contracts of functions, printed by a program of this repo (wip/dec). No condition beyond those that stand in each.
-/
import Derived.Test.YtcbolcknapeneaaGreatDoorG9
import Derived.Test.YtcbolcknapeneaaGreatDoorProg
import Derived.Test.YtcbolcknapeneaaGreatDoorG7
namespace Go.Proofs.YtcbolcknapeneaaGreatDoor
set_option linter.unusedSimpArgs false
set_option linter.unusedVariables false
open Go.Fw
set_option maxRecDepth 20000
set_option maxHeartbeats 4000000
attribute [local irreducible] ACalls AMoves
def Q78 (j:Job):Bool:=(((((Qbb j.shape)&&(decide ((j.after.length:Int)<=100)))&&(decide ((ByteArray.size j.name:Int)<=1000)))&&(decide ((ByteArray.size j.user:Int)<=1000)))&&(decide ((ByteArray.size j.account:Int)<=1000)))
theorem law14_Few_c (j:Job):GV 12 [Job.a j] (Bo (Q78 j)):=by
 generalize hR:Q78 j=R;refine ga (.cons (Job.low _ _) .nil) lx (kp 3 []) Tryz.func12 ?_;refine us (law07_Few_c j.shape _) ?_;obtain rfl:=foll hR rfl;exact Q00 lx sr
def QX1 (s:List Node) (f:Node->Bool):Bool:=(decide ((QY1 s f) >= 0))
def QK0 (s:List Int) (v:Int):Bool:=(decide ((Qo5 s v) >= 0))
theorem QD1 (s:List Int) (v:Int) (hs0:s.length<=4294967296):GV 137 [ints s,I v] (Bo (QK0 s v)):=by
 generalize hR:QK0 s v=R;refine ga (.cons lw (l1 .nil)) lx (kp 5 []) Tryz.func137 ?_;have hk0:=hs0;obtain z1:s.length<=4294967296:=hs0;refine us (QGb s v szA _) ?_;obtain rfl:=foll hR rfl;exact Q00 lx sr
def Qd5 (n:Int):Int:=(Q43 n 0 1000000000000)
theorem QK8 (n:Int):GV 73 [I n] (I (Qd5 n)):=by
 generalize hR:Qd5 n=R;refine ga (l1 .nil) lx (kp 3 []) Tryz.func73 ?_;refine us (QX8 n 0 1000000000000 _) ?_;obtain rfl:=foll hR rfl;exact Q00 lx sr
def QM0 (s:List Alt) (f:Alt->Bool):Bool:=(decide ((QY0 s f) >= 0))
def QSb (n:Int):Bool:=(Qp2 n 1 100000)
theorem cmd_length_c (n:Int):GV 253 [I n] (Bo (QSb n)):=by
 generalize hR:QSb n=R;refine ga (l1 .nil) lx (kp 3 []) Tryz.func253 ?_;refine us (Q03 n 1 100000 _) ?_;obtain rfl:=foll hR rfl;exact Q00 lx sr
def Qc5 :List (Nat × Int)->Nat->Int × Int
 | [],n=>((n:Int),0)
 | x_ :: r,n=>bif ((Q61 x_.2)==0) then ((n:Int),40) else Qc5 r (n+1)
def Q74 (s:ByteArray):Int × Int:=Qc5 (Qq6 s) 0
theorem Qzb (s:ByteArray) (hs0:s.size<=4294967296):GV 310 [Sg s] (AVal.tup [I ((Q74 s).1),I ((Q74 s).2)]):=by
 generalize hR:Q74 s=R;refine ga (l1 .nil) (Low.tup' (l1 (l1 .nil))) (kp 7 [8,9,10,14]) Tryz.func310 ?_;have hk0:=hs0;obtain z5:s.size<=4294967296:=hs0;refine Q41 (fun (n:Nat) (pos:Nat)=>∃ m,ByteArray.size s - pos<=m∧Qc5 (QA4 s m pos) n=R∧n<=pos) (fun n pos=>ByteArray.size s - pos) (fun n pos=>[(2,I 0),(3,I 0),(4,I (n:Int)),(8,AVal.ptr 0 0 1 0 0)]) (fun n pos=>[(0,AObj.other (.strIter s pos))]) 0 0 (wk [0] (tO rfl (.strIter _ _) .nil) (s1 (s1 (s1 (sv (Q10 0 rfl rfl) .nil))))) ⟨ByteArray.size s,by exact omA,foll hR rfl,by exact exA⟩ ?_;clear hR;rintro n pos ⟨m,hm,hR,hx⟩;(try dsimp only at hR hm hx);refine ai (fun h1=>?_) (fun h2=>?_)
 ·have hlt:=of_decide_eq_true h1;have hw:=QD9 s pos;have hwe:=QC9 s pos hlt;obtain ⟨m,rfl⟩:=sucA m;rw [Qc4 h1] at hR;refine ai (fun _=>?_) (fun h=>nomatch h);refine us (Q84 ((pos,((Utf8.decode s pos).1:Int)).2) _) ?_;refine ai (fun h3=>?_) (fun h4=>?_)
  ·obtain rfl:=foll hR (ct h3 rfl);exact Q00 (Low.tup' (l1 (l1 .nil))) (Seen.tup (e1 (e1 .nil)))
  ·exact Qz0 (n+1) (pos+(Utf8.decode s pos).2) (wk [0] (tO rfl (.strIter _ _) .nil) (s1 (s1 (sv (Qn0 (I_eq (wr omA)) lx) (sv (Q10 0 rfl rfl) .nil))))) omA ⟨m,by exact omA,foll hR (cf h4 rfl),by exact exA⟩
 ·rw [QI6 h2] at hR;refine ai (fun h=>nomatch h) (fun _=>?_);obtain rfl:=foll hR rfl;exact Q00 (Low.tup' (l1 (l1 .nil))) (Seen.tup (e1 (e1 .nil)))
def Qc0 (y:Int):List Int->Nat->Bool
 | [],_=>((false||(y==45))||(y==95))
 | x_ :: r,i=>bif ((Q61 y)==x_) then true else Qc0 y r (i+1)
def QL1 (r_:LexReader):Token × LexReader:=((⟨1,(Qg6 ((Q30 r_ (fun (y:Int)=>Qc0 y ([2,3]:List Int) 0)).1)),0,0⟩:Token),(Q30 r_ (fun (y:Int)=>Qc0 y ([2,3]:List Int) 0)).2)
theorem Q8c (r_:LexReader) (hs0:r_.sz) (hp0:0<=r_.at_∧r_.at_<=(r_.line.length:Int)∧r_.line.length<=400):AMoves Tryz.prog 377 [AVal.ptr 0 0 4 0 0] [(0,AObj.row 364 4 [[runes r_.line,I r_.at_,I r_.bad,I r_.error]])] 1 (Token.a ((QL1 r_).1)) [(0,AObj.row 364 4 [[runes ((QL1 r_).2.line),I ((QL1 r_).2.at_),I ((QL1 r_).2.bad),I ((QL1 r_).2.error)]])]:=by
 generalize hR:QL1 r_=R;refine mo (kp 5 []) Tryz.func377 ?_;have hk0:=hs0;obtain z7:r_.line.length<=4294967296:=hs0;refine Or.inl ?_;refine ACalls.of_cwp (fun _=>true) Tryz.func362 rfl rfl ?_;refine ⟨_,_,Told.refl,?_⟩;have cl1:∀ (y1:Int),AMoves Tryz.prog 389 [J y1,AVal.ptr 1 0 1 0 0] [(0,AObj.row 44 1 [[ints ([2,3]:List Int)]]),(0,AObj.row 365 1 [[AVal.fn (.func 376) [] [AVal.ptr 0 0 1 0 0]]])] 2 (Bo ((fun (y:Int)=>Qc0 y ([2,3]:List Int) 0) y1)) [(0,AObj.row 44 1 [[ints ([2,3]:List Int)]]),(0,AObj.row 365 1 [[AVal.fn (.func 376) [] [AVal.ptr 0 0 1 0 0]]])]:=by
  intro y1;have hR:(fun (y:Int)=>Qc0 y ([2,3]:List Int) 0) y1=(fun (y:Int)=>Qc0 y ([2,3]:List Int) 0) y1:=rfl;refine mo (kp 4 []) Tryz.func389 ?_;refine ACalls.of_cwp (fun _=>true) Tryz.func376 rfl rfl ?_;refine Qm0 (fun (i:Nat)=>Qc0 y1 (List.drop i ([2,3]:List Int)) i=(fun (y:Int)=>Qc0 y ([2,3]:List Int) 0) y1∧i<=([2,3]:List Int).length) (fun i=>([2,3]:List Int).length - i) (fun i=>[(0,J y1),(3,Bo false),(6,ints ([2,3]:List Int)),(7,I (([2,3]:List Int).length:Int)),(8,I (i:Int))]) (fun i=>[(0,AObj.row 44 1 [[ints ([2,3]:List Int)]]),(0,AObj.row 365 1 [[AVal.fn (.func 376) [] [AVal.ptr 0 0 1 0 0]]])]) 0 (wk [0,1] (tO rfl (ts (lv lw LowL.nil)) (tO rfl (Qb0 (cv (QI0 .nil (cv (Q10 0 rfl rfl) .nil)) .nil)) .nil)) (s1 (s1 (sl lw (s1 (s1 .nil)))))) ⟨foll hR rfl,by exact omA⟩ ?_;clear hR;rintro i ⟨hR,hj⟩;(try dsimp only at hR hj);refine ai (fun h1=>?_) (fun h2=>?_)
  ·(have hlt:i<([2,3]:List Int).length:=by have:=of_decide_eq_true h1;omega);rw [Qg0 0 hlt] at hR;refine ai gkA ?_;refine us (Q84 y1 _) ?_;refine ai (fun h3=>?_) (fun h4=>?_)
   ·refine ⟨_,_,Told.refl,?_⟩;refine Ql0 (fun r:Bool=>Bo r) (fun _=>[(0,AObj.row 44 1 [[ints ([2,3]:List Int)]]),(0,AObj.row 365 1 [[AVal.fn (.func 376) [] [AVal.ptr 0 0 1 0 0]]])]) (leaf:=true) (foll hR (ct h3 rfl)) ?_;exact tt [0,1] (tO rfl (ts (lv lw LowL.nil)) (tO rfl (Qb0 (cv (QI0 .nil (cv (Q10 0 rfl rfl) .nil)) .nil)) .nil)) t1
   ·exact Qq0 (i+1) (wk [0,1] (tO rfl (ts (lv lw LowL.nil)) (tO rfl (Qb0 (cv (QI0 .nil (cv (Q10 0 rfl rfl) .nil)) .nil)) .nil)) (s1 (s1 (sl lw (s1 (sv (Qn0 (I_eq (wr omA)) lx) .nil)))))) omA ⟨foll hR (cf h4 rfl),by exact omA⟩
  ·rw [Qt0 (l:=([2,3]:List Int)) (j:=i) (geA h2)] at hR;refine ⟨_,_,Told.refl,?_⟩;refine Ql0 (fun r:Bool=>Bo r) (fun _=>[(0,AObj.row 44 1 [[ints ([2,3]:List Int)]]),(0,AObj.row 365 1 [[AVal.fn (.func 376) [] [AVal.ptr 0 0 1 0 0]]])]) (leaf:=((false||(y1==45))||(y1==95))) (foll hR rfl) ?_;exact tt [0,1] (tO rfl (ts (lv lw LowL.nil)) (tO rfl (Qb0 (cv (QI0 .nil (cv (Q10 0 rfl rfl) .nil)) .nil)) .nil)) t1
 have hof1:AMoves Tryz.prog 363 [AVal.ptr 0 0 4 0 0,AVal.fn (.func 389) [] [AVal.ptr 2 0 1 0 0]] [(0,AObj.row 364 4 [[runes r_.line,I r_.at_,I r_.bad,I r_.error]]),(0,AObj.row 44 1 [[ints ([2,3]:List Int)]]),(0,AObj.row 365 1 [[AVal.fn (.func 376) [] [AVal.ptr 1 0 1 0 0]]])] 3 (Sg ((Q30 r_ (fun (y:Int)=>Qc0 y ([2,3]:List Int) 0)).1)) [(0,AObj.row 364 4 [[runes (((Q30 r_ (fun (y:Int)=>Qc0 y ([2,3]:List Int) 0)).2).line),I (((Q30 r_ (fun (y:Int)=>Qc0 y ([2,3]:List Int) 0)).2).at_),I (((Q30 r_ (fun (y:Int)=>Qc0 y ([2,3]:List Int) 0)).2).bad),I (((Q30 r_ (fun (y:Int)=>Qc0 y ([2,3]:List Int) 0)).2).error)]]),(0,AObj.row 44 1 [[ints ([2,3]:List Int)]]),(0,AObj.row 365 1 [[AVal.fn (.func 376) [] [AVal.ptr 1 0 1 0 0]]])]:=by
  have hR:Q30 r_ (fun (y:Int)=>Qc0 y ([2,3]:List Int) 0)=Q30 r_ (fun (y:Int)=>Qc0 y ([2,3]:List Int) 0):=rfl;refine mo (kp 6 [33]) Tryz.func363 ?_;refine Qm0 (fun (c:LexReader)=>∃ m,(Int.toNat ((c.line.length:Int) - c.at_))<m∧Qx0 r_ (Qw0 (fun (y:Int)=>Qc0 y ([2,3]:List Int) 0) m c)=Q30 r_ (fun (y:Int)=>Qc0 y ([2,3]:List Int) 0)∧0<=c.at_∧c.at_<=(c.line.length:Int)∧c.line.length<=400∧r_.at_<=c.at_∧0<=r_.at_) (fun c=>(Int.toNat ((c.line.length:Int) - c.at_))) (fun c=>[(0,AVal.ptr 0 0 4 0 0),(1,AVal.fn (.func 389) [] [AVal.ptr 2 0 1 0 0]),(4,Sg ⟨#[]⟩),(5,I r_.at_)]) (fun c=>[(0,AObj.row 364 4 [[runes c.line,I c.at_,I c.bad,I c.error]]),(0,AObj.row 44 1 [[ints ([2,3]:List Int)]]),(0,AObj.row 365 1 [[AVal.fn (.func 376) [] [AVal.ptr 1 0 1 0 0]]])]) r_ (wk [0,1,2] (tO rfl (ts LexReader.lo) (tO rfl (ts (lv lw LowL.nil)) (tO rfl (Qb0 (cv (QI0 .nil (cv (Q10 1 rfl rfl) .nil)) .nil)) .nil))) (sv (Q10 0 rfl rfl) (sv (QI0 .nil (cv (Q10 2 rfl rfl) .nil)) (s1 (s1 .nil))))) ⟨_,Nat.lt_succ_self _,foll hR rfl,by exact exA⟩ ?_;clear hR;rintro c ⟨m,hm,hR,hx⟩;(try dsimp only at hR hm hx);obtain ⟨m,rfl⟩:=sucA m;refine dchk (by kernel_rfl) ?_;refine ai gkA ?_;(first|apply u2|apply u3|apply u4|apply us);exact mv [1,2] (cl1 (c.line.getD (Int.toNat c.at_) 0)) (dO (ds (lv lw LowL.nil)) (dO (dc (dv (dn_fn .nil (dp .nil)) .nil)) .nil)) (d1 (dp .nil)) (rO (re (lv lw LowL.nil)) (rO (rc (rv (ren_fn .nil (.cons _ _ _ _ (rp 1 0 rfl) .nil)) .nil)) .nil)) rx;(repeat ((first|refine ai rfl ?_|refine ai (fun _=>rfl) ?_)));refine ai (fun h5=>?_) (fun h6=>?_)
  ·have hq1:=of_decide_eq_true ((Bool.and_eq_true _ _).mp h5).1;have hwr:w64 (c.at_+1)=c.at_+1:=wr (by omega);exact Qq0 { c with at_:=(w64 (c.at_+1)) } (wk [0,1,2] (tO rfl (ts LexReader.lo) (tO rfl (ts (lv lw LowL.nil)) (tO rfl (Qb0 (cv (QI0 .nil (cv (Q10 1 rfl rfl) .nil)) .nil)) .nil))) (sv (Q10 0 rfl rfl) (sv (QI0 .nil (cv (Q10 2 rfl rfl) .nil)) (s1 (s1 .nil))))) omA ⟨m,by exact omA,foll hR (congrArg (fun p:LexReader=>Qx0 r_ p) (ct h5 rfl)),by exact exA⟩
  ·replace hR:Qx0 r_ c=Q30 r_ (fun (y:Int)=>Qc0 y ([2,3]:List Int) 0):=fo2 (fun p:LexReader=>Qx0 r_ p) (c) hR (cf h6 rfl);refine dchk (by kernel_rfl) ?_;refine ai gkA ?_;(first|refine ⟨(List.drop (Int.toNat r_.at_) (List.take (Int.toNat c.at_) c.line)),by exact cvA,?_⟩|refine ⟨_,fun _=>⟨(List.drop (Int.toNat r_.at_) (List.take (Int.toNat c.at_) c.line)),by exact cvA,rfl,rfl⟩,?_⟩|refine ⟨_,rfl,⟨(List.drop (Int.toNat r_.at_) (List.take (Int.toNat c.at_) c.line)),by exact cvA,Sub.refl _,rfl⟩,?_⟩);(repeat ((first|refine ai rfl ?_|refine ai (fun _=>rfl) ?_)));refine Ql0 (fun r:ByteArray × LexReader=>Sg r.1) (fun r:ByteArray × LexReader=>[(0,AObj.row 364 4 [[runes r.2.line,I r.2.at_,I r.2.bad,I r.2.error]]),(0,AObj.row 44 1 [[ints ([2,3]:List Int)]]),(0,AObj.row 365 1 [[AVal.fn (.func 376) [] [AVal.ptr 1 0 1 0 0]]])]) (leaf:=((runesBytes (List.drop (Int.toNat r_.at_) (List.take (Int.toNat c.at_) c.line))),c)) (foll hR rfl) ?_;exact tt [0,1,2] (tO rfl (ts LexReader.lo) (tO rfl (ts (lv lw LowL.nil)) (tO rfl (Qb0 (cv (QI0 .nil (cv (Q10 1 rfl rfl) .nil)) .nil)) .nil))) t1
 refine us (mv [0,2,3] (hof1) (dO (ds LexReader.lo) (dO (dc (dv (dn_as (Qp5 (c:=(fun q_=>[I q_])) (d:=0) ([2,3]:List Int) rfl) lw) .nil)) (dO (dc (dv (dn_fn .nil (dp .nil)) .nil)) .nil))) (dp (dv (dn_fn .nil (dp .nil)) .nil)) (rO (re LexReader.lo) (rO (re (lv lw LowL.nil)) (rO (rc (rv (ren_fn .nil (.cons _ _ _ _ (rp 2 0 rfl) .nil)) .nil)) .nil))) rx) ?_;refine us (runes_Lower_c ((Q30 r_ (fun (y:Int)=>Qc0 y ([2,3]:List Int) 0)).1) (by first|(exact Qd9 _ _ hp0.2.2)|exact szA) _) ?_;obtain rfl:=foll hR rfl;exact rq (tt [0] (tO rfl (ts LexReader.lo) .nil) (Qr0 (Low.agg' (Token.lo))))
def Qx9 (s:ByteArray):Int × Unit:=((Qq8 s).1,())
theorem strconv_Atoi_c (s:ByteArray) (hs0:s.size<=4294967296) (hp0:atoiOK s):GV 400 [Sg s] (AVal.tup [I ((Qx9 s).1),AVal.lit .nilIface]):=by
 generalize hR:Qx9 s=R;refine ga (l1 .nil) (Low.tup' (l1 (l1 .nil))) (kp 6 [12]) Tryz.func400 ?_;have hk0:=hs0;obtain z1:s.size<=4294967296:=hs0;refine us (Q7e s szA ckA _) ?_;refine ai (fun h=>nomatch h) (fun _=>?_);obtain rfl:=foll hR rfl;exact Q00 (Low.tup' (l1 (l1 .nil))) (Seen.tup (e1 (e1 .nil)))
def Qa1 (x_:Int) (held:Bool):Bool × Bool:=bif (((Q61 x_)==0)||((x_==34)&&(!held))) then (false,held) else (true,((x_==92)&&(!held)))
theorem QS9 (x_:Int) (held:Bool):AMoves Tryz.prog 394 [J x_,AVal.ptr 0 0 1 0 0] [(0,AObj.row 4 1 [[Bo held]])] 1 (Bo ((Qa1 x_ held).1)) [(0,AObj.row 4 1 [[Bo ((Qa1 x_ held).2)]])]:=by
 generalize hR:Qa1 x_ held=R;refine mo (kp 4 [14]) Tryz.func394 ?_;refine us (Q84 x_ _) ?_;refine ai (fun h1=>?_) (fun h2=>?_)
 ·obtain rfl:=foll hR (ct h1 rfl);exact rq (tt [0] (tO rfl (ts (l1 LowL.nil)) .nil) t1)
 ·obtain rfl:=foll hR (cf h2 rfl);exact rq (tt [0] (tO rfl (ts (l1 LowL.nil)) .nil) t1)
def QE0 (p_:List Int) (r_:Int):(List Int):=bif (decide ((wu32 r_)<=127)) then (p_++([(wu8 r_)]:List Int)) else (Qb2 p_ r_)
theorem Qtc (p_:List Int) (r_:Int) (hs0:p_.length<=4294967296):AMoves Tryz.prog 399 [AVal.own 0 0 1 0 p_.length,J r_] [(0,AObj.row 5 1 (p_.map (fun q_=>[Y q_])))] 0 (AVal.own 0 0 1 0 (QE0 p_ r_).length) [(0,AObj.row 5 1 ((QE0 p_ r_).map (fun q_=>[Y q_])))]:=by
 generalize hR:QE0 p_ r_=R;refine mo (kp 5 [7]) Tryz.func399 ?_;have hk0:=hs0;obtain z3:p_.length<=4294967296:=hs0;refine ai (fun h1=>?_) (fun h2=>?_)
 ·have qh1:=of_decide_eq_true h1;refine Or.inl ?_;(first|refine ⟨Q75 1 rfl lnA apA,?_⟩|refine ⟨QI2 1 rfl apA,?_⟩);obtain rfl:=foll hR (ct h1 rfl);exact rq (tt [0] (tO rfl (tl eqA) .nil) (to 0 lnA))
 ·have qh2:=of_decide_eq_false h2;refine us (mv [0] (QZ7 p_ r_ szA) (dO (dr eqA) .nil) (dv (QJ6 rfl lnA) (d1 .nil)) (rO rr .nil) (rw_ 1 0 rfl)) ?_;obtain rfl:=foll hR (cf h2 rfl);exact rq (tt [1] (tO rfl (tl eqA) .nil) (to 0 lnA))
theorem Qw5 (l:List Int) (r_:Int):∃ k,QE0 l r_=l++k∧1<=k.length∧k.length<=4∧Qt6 k:=by
 have h1:∀ a:Int,Qt6 [wu8 a]:=fun a=>Qq5 (wu8_in a) Qy9
 have h2:∀ a b:Int,Qt6 [wu8 a,wu8 b]:=fun a b=>Qq5 (wu8_in a) (h1 b)
 have h3:∀ a b c:Int,Qt6 [wu8 a,wu8 b,wu8 c]:=fun a b c=>Qq5 (wu8_in a) (h2 b c)
 have h4:∀ a b c d:Int,Qt6 [wu8 a,wu8 b,wu8 c,wu8 d]:=fun a b c d=>Qq5 (wu8_in a) (h3 b c d)
 have hc:Qt6 [239,191,189]:=Qq5 (by decide) (Qq5 (by decide) (Qq5 (by decide) Qy9))
 unfold QE0
 cases (decide ((wu32 r_)<=127)) with
 | true=>exact ⟨_,rfl,by simp,by simp,h1 _⟩
 | false =>
  simp only [cond_false]
  unfold Qb2
  repeat' first
   | exact ⟨_,rfl,by simp,by simp,h2 _ _⟩
   | exact ⟨_,rfl,by simp,by simp,h3 _ _ _⟩
   | exact ⟨_,rfl,by simp,by simp,h4 _ _ _ _⟩
   | exact ⟨_,rfl,by simp,by simp,hc⟩
   | unfold Qn2
   | (rw [Bool.cond_eq_ite];split)
theorem QM7 (l:List Int) (r_:Int):(QE0 l r_).length ≠ 0:=by
 obtain ⟨k,e,h,_⟩:=Qw5 l r_
 rw [e,List.length_append]
 omega
theorem QGa (l:List Int) (r_:Int):(QE0 l r_).length<=l.length+4:=by
 obtain ⟨k,e,_,h,_⟩:=Qw5 l r_
 rw [e,List.length_append]
 omega
theorem byteIn_rune (l:List Int) (r_:Int) (h:Qt6 l):Qt6 (QE0 l r_):=by
 obtain ⟨k,e,_,_,g⟩:=Qw5 l r_
 rw [e]
 exact byteIn_app h g
def Qv0 (s:List Dep) (f:Dep->Bool):Bool:=(decide ((QZ0 s f) >= 0))
def Quc (n:Int):Bool:=(Qp2 n 1 99999)
theorem Qid (n:Int):GV 257 [I n] (Bo (Quc n)):=by
 generalize hR:Quc n=R;refine ga (l1 .nil) lx (kp 3 []) Tryz.func257 ?_;refine us (Q03 n 1 99999 _) ?_;obtain rfl:=foll hR rfl;exact Q00 lx sr
def Qg8 (a:Shape) (b:Shape):Bool:=(((((a.kind==b.kind)&&(a.min==b.min))&&(a.max==b.max))&&(a.wall==b.wall))&&(Qm5 a.alts b.alts))
theorem shape_Same_c (a:Shape) (b:Shape) (hs0:a.sz) (hs1:b.sz):GV 258 [Shape.a a,Shape.a b] (Bo (Qg8 a b)):=by
 generalize hR:Qg8 a b=R;refine ga (.cons (Shape.low _ _) (.cons (Shape.low _ _) .nil)) lx (kp 5 []) Tryz.func258 ?_;have hk0:=hs0;obtain z1:a.alts.length<=4294967296:=hs0;have hk1:=hs1;obtain z2:b.alts.length<=4294967296:=hs1;(first|apply u2|apply u3|apply u4|apply us);exact QEb a.alts b.alts szA szA _;obtain rfl:=foll hR rfl;exact Q00 lx sr
def Q04 (v:Job):Bool:=(((((((v.nodes==0)&&(Qc3 v.start))&&(Qc3 v.limit))&&(decide (v.promise >= (-1))))&&(decide (v.promise<=1000000)))&&(decide (v.choice >= 0)))&&(decide (v.choice<=48)))
theorem Qbe (v:Job):GV 77 [Job.a v] (Bo (Q04 v)):=by
 generalize hR:Q04 v=R;refine ga (.cons (Job.low _ _) .nil) lx (kp 3 []) Tryz.func77 ?_;(first|apply u2|apply u3|apply u4|apply us);exact QW4 v.start _;(first|apply u2|apply u3|apply u4|apply us);exact QW4 v.limit _;obtain rfl:=foll hR rfl;exact Q00 lx sr
def Qw1 (s:Int):Int:=(Qh5 s)
theorem Qi7 (s:Int):GV 39 [U s] (I (Qw1 s)):=by
 generalize hR:Qw1 s=R;refine ga (l1 .nil) lx (kp 3 []) Tryz.func39 ?_;refine us (QLa s _) ?_;obtain rfl:=foll hR rfl;exact Q00 lx sr
def Q14 (n:Int):Int:=bif (decide (n<=0)) then 0 else bif (decide (n >= 64)) then 18446744073709551615 else (wu64 ((QL2 n) - 1))
theorem nodeset_All_c (n:Int):GV 260 [I n] (U (Q14 n)):=by
 generalize hR:Q14 n=R;refine ga (l1 .nil) lx (kp 3 [3,6]) Tryz.func260 ?_;refine ai (fun h1=>?_) (fun h2=>?_)
 ·have qh1:=of_decide_eq_true h1;obtain rfl:=foll hR (ct h1 rfl);exact Q00 lx sr
 ·have qh2:=of_decide_eq_false h2;refine ai (fun h3=>?_) (fun h4=>?_)
  ·have qh3:=of_decide_eq_true h3;obtain rfl:=foll hR (cf h2 (ct h3 rfl));exact Q00 lx sr
  ·have qh4:=of_decide_eq_false h4;refine us (Qx8 n _) ?_;obtain rfl:=foll hR (cf h2 (cf h4 rfl));exact Q00 lx sr
def QO6 (l:List Book):List Book->Nat->Int
 | [],_=>0
 | x_ :: r,i=>bif ((!(Q18 x_))||((decide ((i:Int) > 0))&&(decide ((l.getD (Int.toNat (w64 ((i:Int) - 1))) Book.zero).id >= x_.id)))) then 190 else QO6 l r (i+1)
def Q46 (l:List Book):Int:=bif (decide ((l.length:Int) > 8)) then 190 else QO6 l l 0
theorem book_Check_c (l:List Book) (hs0:l.length<=4294967296):GV 157 [bookL l] (I (Q46 l)):=by
 generalize hR:Q46 l=R;refine ga (.cons lw .nil) lx (kp 5 [7,8,9,10,11,32]) Tryz.func157 ?_;have hk0:=hs0;obtain z7:l.length<=4294967296:=hs0;refine ai (fun h1=>?_) (fun h2=>?_)
 ·have qh1:=of_decide_eq_true h1;obtain rfl:=foll hR (ct h1 rfl);exact Q00 lx sr
 ·have qh2:=of_decide_eq_false h2;refine Qm0 (fun (i:Nat)=>QO6 l (List.drop i l) i=R∧i<=l.length) (fun i=>l.length - i) (fun i=>[(0,bookL l),(2,I 0),(8,bookL l),(9,I (l.length:Int)),(10,I (i:Int))]) (fun i=>[]) 0 (wk [] .nil (sl lw (s1 (sl lw (s1 (s1 .nil)))))) ⟨foll hR (cf h2 rfl),by exact omA⟩ ?_;clear hR;rintro i ⟨hR,hj⟩;(try dsimp only at hR hj);refine ai (fun h3=>?_) (fun h4=>?_)
  ·have hlt:=ltA h3;rw [Qg0 Book.zero hlt] at hR;refine ai gkA ?_;refine dchk (by kernel_rfl) ?_;(first|apply u2|apply u3|apply u4|apply us);exact Qzd (l.getD i Book.zero) _;refine ai gkA ?_;(repeat ((first|refine ai rfl ?_|refine ai (fun _=>rfl) ?_|refine ai (fun _=>Qzd (l.getD i Book.zero) _) ?_)));refine ai (fun h5=>?_) (fun h6=>?_)
   ·obtain rfl:=foll hR (ct h5 rfl);exact Q00 lx sr
   ·exact Qq0 (i+1) (wk [] .nil (sl lw (s1 (sl lw (s1 (sv (Qn0 (I_eq (wr omA)) lx) .nil)))))) omA ⟨foll hR (cf h6 rfl),by exact omA⟩
  ·rw [Qt0 (l:=l) (j:=i) (geA h4)] at hR;obtain rfl:=foll hR rfl;exact Q00 lx sr
def QT0 (x_:ByteArray) (y:ByteArray):Int:=bif (Qe3 x_) then bif (Qe3 y) then 0 else (-1) else bif (Qe3 y) then 1 else bif (Op.bytesLess (ByteArray.toList x_) (ByteArray.toList y)) then (-1) else bif (!((Op.bytesLess (ByteArray.toList x_) (ByteArray.toList y))||(ByteArray.toList x_==ByteArray.toList y))) then 1 else 0
theorem QI3 (x_:ByteArray) (y:ByteArray):GV 246 [Sg x_,Sg y] (I (QT0 x_ y)):=by
 generalize hR:QT0 x_ y=R;refine ga (l1 (l1 .nil)) lx (kp 7 [11,12,13,16,19]) Tryz.func246 ?_;refine us (Qu7 x_ _) ?_;refine us (Qu7 y _) ?_;refine ai (fun h1=>?_) (fun h2=>?_)
 ·refine ai (fun h3=>?_) (fun h4=>?_)
  ·obtain rfl:=foll hR (ct h1 (ct h3 rfl));exact Q00 lx sr
  ·obtain rfl:=foll hR (ct h1 (cf h4 rfl));exact Q00 lx sr
 ·refine ai (fun h5=>?_) (fun h6=>?_)
  ·obtain rfl:=foll hR (cf h2 (ct h5 rfl));exact Q00 lx sr
  ·refine ai (fun h7=>?_) (fun h8=>?_)
   ·obtain rfl:=foll hR (cf h2 (cf h6 (ct h7 rfl)));exact Q00 lx sr
   ·refine ai (fun h9=>?_) (fun h10=>?_)
    ·obtain rfl:=foll hR (cf h2 (cf h6 (cf h8 (ct h9 rfl))));exact Q00 lx sr
    ·obtain rfl:=foll hR (cf h2 (cf h6 (cf h8 (cf h10 rfl))));exact Q00 lx sr
def Ql2 (long:Int) (nodes:Int):Bool:=((Qj4 nodes 1 1000000)&&(Qj4 long 1 1000000))
theorem QZb (long:Int) (nodes:Int):GV 132 [I long,I nodes] (Bo (Ql2 long nodes)):=by
 generalize hR:Ql2 long nodes=R;refine ga (l1 (l1 .nil)) lx (kp 5 []) Tryz.func132 ?_;refine us (Q39 nodes 1 1000000 _) ?_;(first|apply u2|apply u3|apply u4|apply us);exact Q39 long 1 1000000 _;obtain rfl:=foll hR rfl;exact Q00 lx sr
def Qh4 (p_:List Step):List Step->Nat->Int
 | [],_=>0
 | x_ :: r,i=>bif (((!(Qh2 x_.free))||(decide (x_.at_ > 1000000)))||((decide ((i:Int) > 0))&&((decide (x_.at_<=(p_.getD (Int.toNat (w64 ((i:Int) - 1))) Step.zero).at_))||(x_.free==(p_.getD (Int.toNat (w64 ((i:Int) - 1))) Step.zero).free)))) then 100 else Qh4 p_ r (i+1)
def Qx1 (p_:List Step):Int:=bif ((((p_.length:Int)==0)||(decide ((p_.length:Int) > 1000)))||((p_.getD 0 Step.zero).at_ != 0)) then 100 else Qh4 p_ p_ 0
theorem QM4 (p_:List Step) (hs0:p_.length<=4294967296):GV 148 [stepL p_] (I (Qx1 p_)):=by
 generalize hR:Qx1 p_=R;refine ga (.cons lw .nil) lx (kp 5 [19,20,21,22,23,61]) Tryz.func148 ?_;have hk0:=hs0;obtain z7:p_.length<=4294967296:=hs0;refine ai gkA ?_;refine ai (fun h1=>?_) (fun h2=>?_)
 ·obtain rfl:=foll hR (ct h1 rfl);exact Q00 lx sr
 ·refine Qm0 (fun (i:Nat)=>Qh4 p_ (List.drop i p_) i=R∧i<=p_.length) (fun i=>p_.length - i) (fun i=>[(0,stepL p_),(2,I 0),(20,stepL p_),(21,I (p_.length:Int)),(22,I (i:Int))]) (fun i=>[]) 0 (wk [] .nil (sl lw (s1 (sl lw (s1 (s1 .nil)))))) ⟨foll hR (cf h2 rfl),by exact omA⟩ ?_;clear hR;rintro i ⟨hR,hj⟩;(try dsimp only at hR hj);refine ai (fun h3=>?_) (fun h4=>?_)
  ·have hlt:=ltA h3;rw [Qg0 Step.zero hlt] at hR;refine ai gkA ?_;refine dchk (by kernel_rfl) ?_;(first|apply u2|apply u3|apply u4|apply us);exact QQ7 ((p_.getD i Step.zero).free) _;refine ai gkA ?_;refine ai gkA ?_;(repeat ((first|refine ai rfl ?_|refine ai (fun _=>rfl) ?_|refine ai (fun _=>QQ7 ((p_.getD i Step.zero).free) _) ?_)));refine ai (fun h5=>?_) (fun h6=>?_)
   ·obtain rfl:=foll hR (ct h5 rfl);exact Q00 lx sr
   ·exact Qq0 (i+1) (wk [] .nil (sl lw (s1 (sl lw (s1 (sv (Qn0 (I_eq (wr omA)) lx) .nil)))))) omA ⟨foll hR (cf h6 rfl),by exact omA⟩
  ·rw [Qt0 (l:=p_) (j:=i) (geA h4)] at hR;obtain rfl:=foll hR rfl;exact Q00 lx sr
theorem Qb6 {p:List Step} (h:(Qx1 p != 0)=false):1<=p.length∧p.length<=1000∧(p.getD 0 Step.zero).at_=0:=by
 simp only [Qx1] at h
 revert h
 cases h2:((((p.length:Int)==0)||(decide ((p.length:Int) > 1000)))||((p.getD 0 Step.zero).at_ != 0)) with
 | true=>simp
 | false=>intro _;simp at h2;refine ⟨?_,by omega,h2.2⟩;have:=List.length_pos_iff.2 h2.1.1;omega
def Q80 (p_:List Step) (t:Int):Int:=(w64 ((Qu1 (p_.length:Int) (fun (y:Int)=>(decide ((p_.getD (Int.toNat y) Step.zero).at_ > t)))) - 1))
theorem Qk9 (p_:List Step) (t:Int) (hs0:p_.length<=4294967296):GV 150 [stepL p_,I t] (I (Q80 p_ t)):=by
 generalize hR:Q80 p_ t=R;refine ga (.cons lw (l1 .nil)) lx (kp 5 []) Tryz.func150 ?_;have hk0:=hs0;obtain z5:p_.length<=4294967296:=hs0;have cl1:∀ (y1:Int) (hcl:0<=y1∧y1<(p_.length:Int)),AMoves Tryz.prog 237 [I y1,AVal.ptr 0 0 1 0 0,AVal.ptr 1 0 1 0 0] [(0,AObj.row 85 1 [[stepL p_]]),(0,AObj.row 3 1 [[I t]])] 2 (Bo ((fun (y:Int)=>(decide ((p_.getD (Int.toNat y) Step.zero).at_ > t))) y1)) [(0,AObj.row 85 1 [[stepL p_]]),(0,AObj.row 3 1 [[I t]])]:=by
  intro y1 hcl;have hR:(fun (y:Int)=>(decide ((p_.getD (Int.toNat y) Step.zero).at_ > t))) y1=(fun (y:Int)=>(decide ((p_.getD (Int.toNat y) Step.zero).at_ > t))) y1:=rfl;refine mo (kp 5 []) Tryz.func237 ?_;refine dchk (by kernel_rfl) ?_;refine ai gkA ?_;(repeat ((first|refine ai rfl ?_|refine ai (fun _=>rfl) ?_)));refine Ql0 (fun r:Bool=>Bo r) (fun _=>[(0,AObj.row 85 1 [[stepL p_]]),(0,AObj.row 3 1 [[I t]])]) (leaf:=(decide ((p_.getD (Int.toNat y1) Step.zero).at_ > t))) (foll hR rfl) ?_;exact tt [0,1] (tO rfl (ts (lv lw LowL.nil)) (tO rfl (ts (l1 LowL.nil)) .nil)) t1
 have hof1:AMoves Tryz.prog 236 [I (p_.length:Int),AVal.fn (.func 237) [] [AVal.ptr 0 0 1 0 0,AVal.ptr 1 0 1 0 0]] [(0,AObj.row 85 1 [[stepL p_]]),(0,AObj.row 3 1 [[I t]])] 2 (I (Qu1 (p_.length:Int) (fun (y:Int)=>(decide ((p_.getD (Int.toNat y) Step.zero).at_ > t))))) [(0,AObj.row 85 1 [[stepL p_]]),(0,AObj.row 3 1 [[I t]])]:=by
  have hR:Qu1 (p_.length:Int) (fun (y:Int)=>(decide ((p_.getD (Int.toNat y) Step.zero).at_ > t)))=Qu1 (p_.length:Int) (fun (y:Int)=>(decide ((p_.getD (Int.toNat y) Step.zero).at_ > t))):=rfl;refine mo (kp 8 [11,21]) Tryz.func236 ?_;refine Q41 (fun (i:Int) (j:Int)=>∃ m,(Int.toNat (j - i))<m∧Qx4 (Q21 (fun (y:Int)=>(decide ((p_.getD (Int.toNat y) Step.zero).at_ > t))) m i j).1 (Q21 (fun (y:Int)=>(decide ((p_.getD (Int.toNat y) Step.zero).at_ > t))) m i j).2=Qu1 (p_.length:Int) (fun (y:Int)=>(decide ((p_.getD (Int.toNat y) Step.zero).at_ > t)))∧0<=i∧i<=j∧j<=(p_.length:Int)) (fun i j=>(Int.toNat (j - i))) (fun i j=>[(1,AVal.fn (.func 237) [] [AVal.ptr 0 0 1 0 0,AVal.ptr 1 0 1 0 0]),(4,I 0),(5,I i),(6,I j)]) (fun i j=>[(0,AObj.row 85 1 [[stepL p_]]),(0,AObj.row 3 1 [[I t]])]) 0 (p_.length:Int) (wk [0,1] (tO rfl (ts (lv lw LowL.nil)) (tO rfl (ts (l1 LowL.nil)) .nil)) (sv (QI0 .nil (cv (Q10 0 rfl rfl) (cv (Q10 1 rfl rfl) .nil))) (s1 (s1 (s1 .nil))))) ⟨_,Nat.lt_succ_self _,foll hR rfl,by exact exA⟩ ?_;clear hR;rintro i j ⟨m,hm,hR,hx⟩;(try dsimp only at hR hm hx);obtain ⟨m,rfl⟩:=sucA m;refine ai (fun h1=>?_) (fun h2=>?_)
  ·have qh1:=of_decide_eq_true h1;(have hq0:i<j:=qh1;have hh:w64 (Int.fdiv (wu64 (w64 (i+j))) (2 ^ (min (Int.toNat 1) 64)))=(i+j) / 2:=Q0e hx.1 hq0 hx.2.2 (by omega);have hh3:w64 (w64 (Int.fdiv (wu64 (w64 (i+j))) (2 ^ (min (Int.toNat 1) 64)))+1)=(i+j) / 2+1:=by rw [hh];exact wr (by omega));refine ai gkA ?_;refine us (mv [0,1] (cl1 (w64 (Int.fdiv (wu64 (w64 (i+j))) (2 ^ (min (Int.toNat 1) 64)))) ckA) (dO (ds (lv lw LowL.nil)) (dO (ds (l1 LowL.nil)) .nil)) (d1 (dp (dp .nil))) (rO (re (lv lw LowL.nil)) (rO (re (l1 LowL.nil)) .nil)) rx) ?_;refine ai (fun h3=>?_) (fun h4=>?_)
   ·exact Qz0 (w64 ((w64 (Int.fdiv (wu64 (w64 (i+j))) (2 ^ (min (Int.toNat 1) 64))))+1)) j (wk [0,1] (tO rfl (ts (lv lw LowL.nil)) (tO rfl (ts (l1 LowL.nil)) .nil)) (sv (QI0 .nil (cv (Q10 0 rfl rfl) (cv (Q10 1 rfl rfl) .nil))) (s1 (s1 (s1 .nil))))) (by first|(dsimp only;rw [hh3];omega)|first|(dsimp only;rw [hh];omega)|exact omA) ⟨m,by first|(dsimp only;rw [hh3];omega)|first|(dsimp only;rw [hh];omega)|exact omA,foll hR (congrArg (fun p:Int × Int=>Qx4 p.1 p.2) (ct h1 (ct h3 rfl))),by exact exA⟩
   ·exact Qz0 i (w64 (Int.fdiv (wu64 (w64 (i+j))) (2 ^ (min (Int.toNat 1) 64)))) (wk [0,1] (tO rfl (ts (lv lw LowL.nil)) (tO rfl (ts (l1 LowL.nil)) .nil)) (sv (QI0 .nil (cv (Q10 0 rfl rfl) (cv (Q10 1 rfl rfl) .nil))) (s1 (s1 (s1 .nil))))) (by first|(dsimp only;rw [hh3];omega)|first|(dsimp only;rw [hh];omega)|exact omA) ⟨m,by first|(dsimp only;rw [hh3];omega)|first|(dsimp only;rw [hh];omega)|exact omA,foll hR (congrArg (fun p:Int × Int=>Qx4 p.1 p.2) (ct h1 (cf h4 rfl))),by exact exA⟩
  ·have qh2:=of_decide_eq_false h2;replace hR:Qx4 i j=Qu1 (p_.length:Int) (fun (y:Int)=>(decide ((p_.getD (Int.toNat y) Step.zero).at_ > t))):=fo2 (fun p:Int × Int=>Qx4 p.1 p.2) (i,j) hR (cf h2 rfl);refine Ql0 (fun r:Int=>I r) (fun r:Int=>[(0,AObj.row 85 1 [[stepL p_]]),(0,AObj.row 3 1 [[I t]])]) (leaf:=i) (foll hR rfl) ?_;exact tt [0,1] (tO rfl (ts (lv lw LowL.nil)) (tO rfl (ts (l1 LowL.nil)) .nil)) t1
 refine us (mv [0,1] (hof1) (dO (ds (lv lw LowL.nil)) (dO (ds (l1 LowL.nil)) .nil)) (d1 (dv (dn_fn .nil (dp (dp .nil))) .nil)) (rO (re (lv lw LowL.nil)) (rO (re (l1 LowL.nil)) .nil)) rx) ?_;obtain rfl:=foll hR rfl;exact Q00 lx sr
theorem QL6 {p:List Step} {t:Int} (h1:1<=p.length) (h2:p.length<=1000) (h3:(p.getD 0 Step.zero).at_=0) (ht:0<=t):0<=Q80 p t∧Q80 p t<p.length:=by
 obtain ⟨a,b,c,d⟩:=QY8 (fun (y:Int)=>(decide ((p.getD (Int.toNat y) Step.zero).at_ > t))) (N:=p.length) (by omega)
 have h4:1<=Qu1 (p.length:Int) (fun (y:Int)=>(decide ((p.getD (Int.toNat y) Step.zero).at_ > t))):=by
  rcases Int.lt_or_le 0 (Qu1 (p.length:Int) (fun (y:Int)=>(decide ((p.getD (Int.toNat y) Step.zero).at_ > t)))) with h|h
  ·omega
  ·have e:Qu1 (p.length:Int) (fun (y:Int)=>(decide ((p.getD (Int.toNat y) Step.zero).at_ > t)))=0:=by omega
   have:=d (by omega)
   rw [e] at this
   have:=of_decide_eq_true this
   simp only [Int.toNat_zero] at this
   omega
 have e:Q80 p t=Qu1 (p.length:Int) (fun (y:Int)=>(decide ((p.getD (Int.toNat y) Step.zero).at_ > t))) - 1:=wr (by omega)
 rw [e]
 omega
def Q24 :List Int->Int->Nat->Int × Int
 | [],s,_=>(s,0)
 | x_ :: r,s,i=>bif (((decide (x_<0))||(decide (x_ >= 64)))||((wu64 (BitVec.ofInt 64 s &&& BitVec.ofInt 64 (QL2 x_)).toNat)!=0)) then (0,90) else Q24 r (wu64 (BitVec.ofInt 64 s ||| BitVec.ofInt 64 (QL2 x_)).toNat) (i+1)
def QC5 (l:List Int):Int × Int:=Q24 l 0 0
theorem nodeset_Of_c (l:List Int) (hs0:l.length<=4294967296):GV 112 [ints l] (AVal.tup [U ((QC5 l).1),I ((QC5 l).2)]):=by
 generalize hR:QC5 l=R;refine ga (.cons lw .nil) (Low.tup' (l1 (l1 .nil))) (kp 7 [7,8,9,10,25]) Tryz.func112 ?_;have hk0:=hs0;obtain z5:l.length<=4294967296:=hs0;refine Q41 (fun (s:Int) (i:Nat)=>Q24 (List.drop i l) s i=R∧i<=l.length) (fun s i=>l.length - i) (fun s i=>[(2,U 0),(3,I 0),(4,U s),(7,ints l),(8,I (l.length:Int)),(9,I (i:Int))]) (fun s i=>[]) 0 0 (wk [] .nil (s1 (s1 (s1 (sl lw (s1 (s1 .nil))))))) ⟨foll hR rfl,by exact omA⟩ ?_;clear hR;rintro s i ⟨hR,hj⟩;(try dsimp only at hR hj);refine ai (fun h1=>?_) (fun h2=>?_)
 ·have hlt:=ltA h1;rw [Qg0 0 hlt] at hR;refine ai gkA ?_;(first|apply u2|apply u3|apply u4|apply us);exact Qx8 (l.getD i 0) _;refine ai (fun h3=>?_) (fun h4=>?_)
  ·obtain rfl:=foll hR (ct h3 rfl);exact Q00 (Low.tup' (l1 (l1 .nil))) (Seen.tup (e1 (e1 .nil)))
  ·refine us (Qx8 (l.getD i 0) _) ?_;exact Qz0 (wu64 (BitVec.ofInt 64 s ||| BitVec.ofInt 64 (QL2 (l.getD i 0))).toNat) (i+1) (wk [] .nil (s1 (s1 (s1 (sl lw (s1 (sv (Qn0 (I_eq (wr omA)) lx) .nil))))))) omA ⟨foll hR (cf h4 rfl),by exact omA⟩
 ·rw [Qt0 (l:=l) (j:=i) (geA h2)] at hR;obtain rfl:=foll hR rfl;exact Q00 (Low.tup' (l1 (l1 .nil))) (Seen.tup (e1 (e1 .nil)))
def Q92 (s:List Job) (f:Job->Bool):Bool:=(decide ((Qd2 s f) >= 0))
def Qye (l:List Job):(List Job):=l
theorem plan_copied_c (l:List Job) (hs0:l.length<=4294967296∧(∀ y ∈ l,y.sz)):GV 61 [jobL l] (jobL l):=by
 generalize hR:Qye l=R;refine ga (.cons lw .nil) lw (kp 5 [8,9,10]) Tryz.func61 ?_;obtain ⟨z8,z9⟩:=id hs0;refine us (mv [] (QK7 l szA) .nil (dl lw .nil) (rO rr .nil) (rw_ 0 0 rfl)) ?_;refine Qm0 (fun (i:Nat)=>True∧i<=l.length) (fun i=>l.length - i) (fun i=>[(2,AVal.lit (.slice none 0 0)),(3,AVal.own 0 0 20 0 l.length),(8,I (l.length:Int)),(9,I (i:Int))]) (fun i=>[(0,AObj.row 35 20 (l.map Job.cells))]) 0 (wk [0] (tO rfl (tl eqA) .nil) (s1 (sv (to 0 lnA) (s1 (s1 .nil))))) ⟨trivial,by exact omA⟩ ?_;have hR0:=hR;rintro i ⟨hR,hj⟩;(try dsimp only at hR hj);refine ai (fun h1=>?_) (fun h2=>?_)
 ·have hlt:=ltA h1;have hxz:(l.getD i Job.zero).sz:=Q70 (by first|assumption|grind) (Job.szz _);have hkz:=hxz;obtain ⟨z3,z4,z5,z6,z7⟩:=Job.zz hxz;refine ai gkA ?_;refine ⟨_,Q22 rfl rfl rfl (Q12 Job.zero i (by first|rfl|exact Nat.zero_add _|omega) ckA) rfl,?_⟩;refine us (Q06 ((l.getD i Job.zero).shape.alts) szA _) ?_;refine ai gkA ?_;refine ⟨_,Ql3 rfl rfl rfl rfl (Q12 Job.zero i (by first|rfl|exact Nat.zero_add _|omega) ckA) rfl rfl (QK5 Job.zero i (by first|rfl|exact Nat.zero_add _|omega) ckA rfl),?_⟩;refine ai gkA ?_;refine ⟨_,Q22 rfl rfl rfl (Q12 Job.zero i (by first|rfl|exact Nat.zero_add _|omega) ckA) rfl,?_⟩;refine us (Q16 ((l.getD i Job.zero).after) szA _) ?_;refine ai gkA ?_;refine ⟨_,Ql3 rfl rfl rfl rfl (Q12 Job.zero i (by first|rfl|exact Nat.zero_add _|omega) ckA) rfl rfl (QK5 Job.zero i (by first|rfl|exact Nat.zero_add _|omega) ckA rfl),?_⟩;exact Qq0 (i+1) (wk [0] (tO rfl (tl eqA) .nil) (s1 (sv (to 0 lnA) (s1 (sv (Qn0 (I_eq (wr omA)) lx) .nil))))) omA ⟨hR,by exact omA⟩
 ·skip;have hR:=hR0;obtain rfl:=foll hR rfl;exact Q00 lw (Q82 Job.zero _ rfl eqA lnA)
theorem Qy8 (l:List Job) (hs0:l.length<=4294967296∧(∀ y ∈ l,y.sz)):AMoves Tryz.prog 61 [jobL l] [] 0 (AVal.own 0 0 20 0 l.length) [(0,AObj.row 35 20 (l.map Job.cells))]:=by
 generalize hR:Qye l=R;refine mo (kp 5 [8,9,10]) Tryz.func61 ?_;obtain ⟨z8,z9⟩:=id hs0;refine us (mv [] (QK7 l szA) .nil (dl lw .nil) (rO rr .nil) (rw_ 0 0 rfl)) ?_;refine Qm0 (fun (i:Nat)=>True∧i<=l.length) (fun i=>l.length - i) (fun i=>[(2,AVal.lit (.slice none 0 0)),(3,AVal.own 0 0 20 0 l.length),(8,I (l.length:Int)),(9,I (i:Int))]) (fun i=>[(0,AObj.row 35 20 (l.map Job.cells))]) 0 (wk [0] (tO rfl (tl eqA) .nil) (s1 (sv (to 0 lnA) (s1 (s1 .nil))))) ⟨trivial,by exact omA⟩ ?_;have hR0:=hR;rintro i ⟨hR,hj⟩;(try dsimp only at hR hj);refine ai (fun h1=>?_) (fun h2=>?_)
 ·have hlt:=ltA h1;have hxz:(l.getD i Job.zero).sz:=Q70 (by first|assumption|grind) (Job.szz _);have hkz:=hxz;obtain ⟨z3,z4,z5,z6,z7⟩:=Job.zz hxz;refine ai gkA ?_;refine ⟨_,Q22 rfl rfl rfl (Q12 Job.zero i (by first|rfl|exact Nat.zero_add _|omega) ckA) rfl,?_⟩;refine us (Q06 ((l.getD i Job.zero).shape.alts) szA _) ?_;refine ai gkA ?_;refine ⟨_,Ql3 rfl rfl rfl rfl (Q12 Job.zero i (by first|rfl|exact Nat.zero_add _|omega) ckA) rfl rfl (QK5 Job.zero i (by first|rfl|exact Nat.zero_add _|omega) ckA rfl),?_⟩;refine ai gkA ?_;refine ⟨_,Q22 rfl rfl rfl (Q12 Job.zero i (by first|rfl|exact Nat.zero_add _|omega) ckA) rfl,?_⟩;refine us (Q16 ((l.getD i Job.zero).after) szA _) ?_;refine ai gkA ?_;refine ⟨_,Ql3 rfl rfl rfl rfl (Q12 Job.zero i (by first|rfl|exact Nat.zero_add _|omega) ckA) rfl rfl (QK5 Job.zero i (by first|rfl|exact Nat.zero_add _|omega) ckA rfl),?_⟩;exact Qq0 (i+1) (wk [0] (tO rfl (tl eqA) .nil) (s1 (sv (to 0 lnA) (s1 (sv (Qn0 (I_eq (wr omA)) lx) .nil))))) omA ⟨hR,by exact omA⟩
 ·skip;have hR:=hR0;obtain rfl:=foll hR rfl;exact rq (tt [0] (tO rfl (tl eqA) .nil) (to 0 lnA))
def job_copied (j:Job):Job:=j
theorem QDc (j:Job) (hs0:j.sz):GV 247 [Job.a j] (Job.a j):=by
 generalize hR:job_copied j=R;refine ga (.cons (Job.low _ _) .nil) (Job.low _ _) (kp 3 []) Tryz.func247 ?_;obtain ⟨z1,z2,z3,z4,z5⟩:=Job.zz hs0;refine us (Q06 j.shape.alts szA _) ?_;refine us (Q16 j.after szA _) ?_;obtain rfl:=foll hR rfl;exact Q00 (Job.low _ _) sr
def Qk3 (s:List (Int × Int)):List Dep->Nat->Bool
 | [],_=>true
 | x_ :: r,i=>bif ((QF2 s x_)!=1) then false else Qk3 s r (i+1)
def QL5 (s:List (Int × Int)) (j:Job):Bool:=Qk3 s j.after 0
theorem QXb (s:List (Int × Int)) (j:Job) (hs0:j.sz):AMoves Tryz.prog 69 [AVal.map 0,Job.a j] [(0,AObj.other (.map (mapEs ik I 0 s) s.length))] 1 (Bo (QL5 s j)) [(0,AObj.other (.map (mapEs ik I 0 s) s.length))]:=by
 generalize hR:QL5 s j=R;refine mo (kp 7 [8,9,10,11,17]) Tryz.func69 ?_;obtain ⟨z5,z6,z7,z8,z9⟩:=Job.zz hs0;refine Qm0 (fun (i:Nat)=>Qk3 s (List.drop i j.after) i=R∧i<=j.after.length) (fun i=>j.after.length - i) (fun i=>[(0,AVal.map 0),(4,Bo false),(8,depL j.after),(9,I (j.after.length:Int)),(10,I (i:Int))]) (fun i=>[(0,AObj.other (.map (mapEs ik I 0 s) s.length))]) 0 (wk [0] (tO rfl (QF0 _ rfl rfl (fun _=>lx)) .nil) (sv (Qa2 0 rfl rfl) (s1 (sl lw (s1 (s1 .nil)))))) ⟨foll hR rfl,by exact omA⟩ ?_;clear hR;rintro i ⟨hR,hj⟩;(try dsimp only at hR hj);refine ai (fun h1=>?_) (fun h2=>?_)
 ·have hlt:=ltA h1;rw [Qg0 Dep.zero hlt] at hR;refine ai gkA ?_;refine us (mv [0] (QR9 s (j.after.getD i Dep.zero)) (dO (.same _ (Qh7 fun _=>lx)) .nil) (dv (dn_ren (Ren.map _ _ rfl)) (dv (Q87 (Low.agg' (Dep.lo))) .nil)) (rO (RenO.same _ (Qh7 fun _=>lx)) .nil) rx) ?_;refine ai (fun h3=>?_) (fun h4=>?_)
  ·obtain rfl:=foll hR (ct h3 rfl);exact rq (tt [0] (tO rfl (QF0 _ rfl rfl (fun _=>lx)) .nil) t1)
  ·exact Qq0 (i+1) (wk [0] (tO rfl (QF0 _ rfl rfl (fun _=>lx)) .nil) (sv (Qa2 0 rfl rfl) (s1 (sl lw (s1 (sv (Qn0 (I_eq (wr omA)) lx) .nil)))))) omA ⟨foll hR (cf h4 rfl),by exact omA⟩
 ·rw [Qt0 (l:=j.after) (j:=i) (geA h2)] at hR;obtain rfl:=foll hR rfl;exact rq (tt [0] (tO rfl (QF0 _ rfl rfl (fun _=>lx)) .nil) t1)
def QL0 (l:List Job) (id_:Int):Int × Bool:=((QD0 l id_ (fun (y:Job) (y1:Int)=>(w64 (y.id - y1)))).1,(QD0 l id_ (fun (y:Job) (y1:Int)=>(w64 (y.id - y1)))).2)
theorem b1a0 {P:Prop} (h:P:=by first|(dsimp only;rw [hh3];omega)|first|(dsimp only;rw [hh];omega)|exact exA):P:=h
theorem table_place_c (l:List Job) (id_:Int) (hs0:l.length<=4294967296∧(∀ y ∈ l,y.sz)):GV 207 [jobL l,I id_] (AVal.tup [I ((QL0 l id_).1),Bo ((QL0 l id_).2)]):=by
 generalize hR:QL0 l id_=R;refine ga (.cons lw (l1 .nil)) (Low.tup' (l1 (l1 .nil))) (kp 6 []) Tryz.func207 ?_;obtain ⟨z10,z11⟩:=id hs0;have cl1:∀ (y1:Job) (y2:Int) (hzy1:y1.sz),AMoves Tryz.prog 288 [Job.a y1,I y2] [] 0 (I ((fun (y:Job) (y1:Int)=>(w64 (y.id - y1))) y1 y2)) []:=by
  intro y1 y2 hzy1;have hky1:=hzy1;obtain ⟨z1,z2,z3,z4,z5⟩:=Job.zz hzy1;have hR:(fun (y:Job) (y1:Int)=>(w64 (y.id - y1))) y1 y2=(fun (y:Job) (y1:Int)=>(w64 (y.id - y1))) y1 y2:=rfl;refine mo (kp 5 []) Tryz.func288 ?_;refine Ql0 (fun r:Int=>I r) (fun _=>[]) (leaf:=(w64 (y1.id - y2))) (foll hR rfl) ?_;exact tt [] .nil t1
 have hof1:AMoves Tryz.prog 287 [jobL l,I id_,AVal.fn (.func 288) [] []] [] 0 (AVal.tup [I ((QD0 l id_ (fun (y:Job) (y1:Int)=>(w64 (y.id - y1)))).1),Bo ((QD0 l id_ (fun (y:Job) (y1:Int)=>(w64 (y.id - y1)))).2)]) []:=by
  have hR:QD0 l id_ (fun (y:Job) (y1:Int)=>(w64 (y.id - y1)))=QD0 l id_ (fun (y:Job) (y1:Int)=>(w64 (y.id - y1))):=rfl;refine mo (kp 12 [17,31]) Tryz.func287 ?_;refine Q41 (fun (i:Int) (j:Int)=>∃ m,(Int.toNat (j - i))<m∧QR0 l id_ (fun (y:Job) (y1:Int)=>(w64 (y.id - y1))) (Qj0 l id_ (fun (y:Job) (y1:Int)=>(w64 (y.id - y1))) m i j).1 (Qj0 l id_ (fun (y:Job) (y1:Int)=>(w64 (y.id - y1))) m i j).2=QD0 l id_ (fun (y:Job) (y1:Int)=>(w64 (y.id - y1)))∧0<=i∧i<=j∧j<=(l.length:Int)) (fun i j=>(Int.toNat (j - i))) (fun i j=>[(0,jobL l),(1,I id_),(2,AVal.fn (.func 288) [] []),(6,I 0),(7,Bo false),(8,I (l.length:Int)),(9,I i),(10,I j)]) (fun i j=>[]) 0 (l.length:Int) (wk [] .nil (sl lw (s1 (sv (Qr0 (Low.fn _ _ _ LowL.nil LowL.nil)) (s1 (s1 (s1 (s1 (s1 .nil))))))))) ⟨_,Nat.lt_succ_self _,foll hR rfl,b1a0⟩ ?_;clear hR;rintro i j ⟨m,hm,hR,hx⟩;(try dsimp only at hR hm hx);obtain ⟨m,rfl⟩:=sucA m;refine ai (fun h6=>?_) (fun h7=>?_)
  ·have qh6:=of_decide_eq_true h6;(have hq0:i<j:=qh6;have hh:w64 (Int.fdiv (wu64 (w64 (i+j))) (2 ^ (min (Int.toNat 1) 64)))=(i+j) / 2:=Q0e hx.1 hq0 hx.2.2 (by omega);have hh3:w64 (w64 (Int.fdiv (wu64 (w64 (i+j))) (2 ^ (min (Int.toNat 1) 64)))+1)=(i+j) / 2+1:=by rw [hh];exact wr (by omega));refine And.intro (by first|exact fun hg=>decide_eq_true (by first|(show 0<=w64 (Int.fdiv (wu64 (w64 (i+j))) (2 ^ (min (Int.toNat 1) 64)))∧w64 (Int.fdiv (wu64 (w64 (i+j))) (2 ^ (min (Int.toNat 1) 64)))<(l.length:Int);rw [hh];omega)|exact ckA)|exact gkA) ?_;refine And.intro (by first|exact fun hg=>decide_eq_true (by first|(show 0<=w64 (Int.fdiv (wu64 (w64 (i+j))) (2 ^ (min (Int.toNat 1) 64)))∧w64 (Int.fdiv (wu64 (w64 (i+j))) (2 ^ (min (Int.toNat 1) 64)))<(l.length:Int);rw [hh];omega)|exact ckA)|exact gkA) ?_;refine us (mv [] (cl1 (l.getD (Int.toNat (w64 (Int.fdiv (wu64 (w64 (i+j))) (2 ^ (min (Int.toNat 1) 64))))) Job.zero) id_ szA) .nil (dl (Job.low _ _) (d1 .nil)) .nil rx) ?_;refine ai (fun h8=>?_) (fun h9=>?_)
   ·have qh8:=of_decide_eq_true h8;exact Qz0 (w64 ((w64 (Int.fdiv (wu64 (w64 (i+j))) (2 ^ (min (Int.toNat 1) 64))))+1)) j (wk [] .nil (sl lw (s1 (sv (Qr0 (Low.fn _ _ _ LowL.nil LowL.nil)) (s1 (s1 (s1 (s1 (s1 .nil))))))))) (by first|(dsimp only;rw [hh3];omega)|first|(dsimp only;rw [hh];omega)|exact omA) ⟨m,by first|(dsimp only;rw [hh3];omega)|first|(dsimp only;rw [hh];omega)|exact omA,foll hR (congrArg (fun p:Int × Int=>QR0 l id_ (fun (y:Job) (y1:Int)=>(w64 (y.id - y1))) p.1 p.2) (ct h6 (ct h8 rfl))),b1a0⟩
   ·have qh9:=of_decide_eq_false h9;exact Qz0 i (w64 (Int.fdiv (wu64 (w64 (i+j))) (2 ^ (min (Int.toNat 1) 64)))) (wk [] .nil (sl lw (s1 (sv (Qr0 (Low.fn _ _ _ LowL.nil LowL.nil)) (s1 (s1 (s1 (s1 (s1 .nil))))))))) (by first|(dsimp only;rw [hh3];omega)|first|(dsimp only;rw [hh];omega)|exact omA) ⟨m,by first|(dsimp only;rw [hh3];omega)|first|(dsimp only;rw [hh];omega)|exact omA,foll hR (congrArg (fun p:Int × Int=>QR0 l id_ (fun (y:Job) (y1:Int)=>(w64 (y.id - y1))) p.1 p.2) (ct h6 (cf h9 rfl))),b1a0⟩
  ·have qh7:=of_decide_eq_false h7;replace hR:QR0 l id_ (fun (y:Job) (y1:Int)=>(w64 (y.id - y1))) i j=QD0 l id_ (fun (y:Job) (y1:Int)=>(w64 (y.id - y1))):=fo2 (fun p:Int × Int=>QR0 l id_ (fun (y:Job) (y1:Int)=>(w64 (y.id - y1))) p.1 p.2) (i,j) hR (cf h7 rfl);refine And.intro (by first|exact fun hg=>decide_eq_true (by first|(show 0<=w64 (Int.fdiv (wu64 (w64 (i+j))) (2 ^ (min (Int.toNat 1) 64)))∧w64 (Int.fdiv (wu64 (w64 (i+j))) (2 ^ (min (Int.toNat 1) 64)))<(l.length:Int);rw [hh];omega)|exact ckA)|exact gkA) ?_;(first|apply u2|apply u3|apply u4|apply us);exact mv [] (cl1 (l.getD (Int.toNat i) Job.zero) id_ szA) .nil (dl (Job.low _ _) (d1 .nil)) .nil rx;refine Ql0 (fun r:Int × Bool=>AVal.tup [I r.1,Bo r.2]) (fun r:Int × Bool=>[]) (leaf:=(i,((decide (i<(l.length:Int)))&&(((fun (y:Job) (y1:Int)=>(w64 (y.id - y1))) (l.getD (Int.toNat i) Job.zero) id_)==0)))) (foll hR rfl) ?_;exact tt [] .nil (turn_tup (c1 (c1 .nil)))
 refine us (mv [] (hof1) .nil (dl lw (d1 (dv (Q87 (Low.fn _ _ _ LowL.nil LowL.nil)) .nil))) .nil (Ren.low _ (Low.tup' (l1 (l1 .nil))))) ?_;obtain rfl:=foll hR rfl;exact Q00 (Low.tup' (l1 (l1 .nil))) (Seen.tup (e1 (e1 .nil)))
theorem bs_ge (x_:List Job) (target:Int) (cmp:Job->Int->Int) (hn:x_.length<=4294967296):∀ (m:Nat) (i j:Int),0<=i->i<=j->j<=(x_.length:Int)->0<=(Qj0 x_ target cmp m i j).1
 | 0,_,_,_,_,_=>by simp [Qj0]
 | m+1,i,j,h0,h1,h2=>by
  rw [Qj0]
  cases hd:decide (i<j) with
  | false=>exact h0
  | true =>
   have hlt:=of_decide_eq_true hd
   rw [Q0e h0 hlt h2 (by omega)]
   simp only [cond_true]
   cases decide (cmp (x_.getD (Int.toNat ((i+j) / 2)) Job.zero) target<0) with
   | true =>
    have hw:w64 ((i+j) / 2+1)=(i+j) / 2+1:=wr (by omega)
    simp only [cond_true]
    rw [hw]
    exact bs_ge x_ target cmp hn m _ _ (by omega) (by omega) h2
   | false=>exact bs_ge x_ target cmp hn m _ _ h0 (by omega) (by omega)
theorem Qr6 (l:List Job) (id_:Int) (hn:l.length<=4294967296) (h:(!(QL0 l id_).2)=false):0<=(QL0 l id_).1∧(QL0 l id_).1<(l.length:Int):=by
 simp only [QL0,QD0,QR0,Bool.not_eq_false',Bool.and_eq_true,decide_eq_true_eq] at h
 exact ⟨bs_ge _ _ _ hn _ _ _ (by omega) (by omega) (by omega),h.1⟩
def table_whole (l:List Job):(List Job):=l
theorem table_whole_o (l:List Job) (hs0:l.length<=4294967296∧(∀ y ∈ l,y.sz)):AMoves Tryz.prog 208 [jobL l] [] 0 (AVal.own 0 0 20 0 l.length) [(0,AObj.row 35 20 (l.map Job.cells))]:=by
 generalize hR:table_whole l=R;refine mo (kp 5 [8,9,10]) Tryz.func208 ?_;obtain ⟨z8,z9⟩:=id hs0;refine us (mv [] (QJb l szA) .nil (dl lw .nil) (rO rr .nil) (rw_ 0 0 rfl)) ?_;refine Qm0 (fun (i:Nat)=>True∧i<=l.length) (fun i=>l.length - i) (fun i=>[(2,AVal.lit (.slice none 0 0)),(3,AVal.own 0 0 20 0 l.length),(8,I (l.length:Int)),(9,I (i:Int))]) (fun i=>[(0,AObj.row 35 20 (l.map Job.cells))]) 0 (wk [0] (tO rfl (tl eqA) .nil) (s1 (sv (to 0 lnA) (s1 (s1 .nil))))) ⟨trivial,by exact omA⟩ ?_;have hR0:=hR;rintro i ⟨hR,hj⟩;(try dsimp only at hR hj);refine ai (fun h1=>?_) (fun h2=>?_)
 ·have hlt:=ltA h1;have hxz:(l.getD i Job.zero).sz:=Q70 (by first|assumption|grind) (Job.szz _);have hkz:=hxz;obtain ⟨z3,z4,z5,z6,z7⟩:=Job.zz hxz;refine ai gkA ?_;refine ⟨_,Q22 rfl rfl rfl (Q12 Job.zero i (by first|rfl|exact Nat.zero_add _|omega) ckA) rfl,?_⟩;refine us (QHb ((l.getD i Job.zero).shape.alts) szA _) ?_;refine ai gkA ?_;refine ⟨_,Ql3 rfl rfl rfl rfl (Q12 Job.zero i (by first|rfl|exact Nat.zero_add _|omega) ckA) rfl rfl (QK5 Job.zero i (by first|rfl|exact Nat.zero_add _|omega) ckA rfl),?_⟩;refine ai gkA ?_;refine ⟨_,Q22 rfl rfl rfl (Q12 Job.zero i (by first|rfl|exact Nat.zero_add _|omega) ckA) rfl,?_⟩;refine us (QIb ((l.getD i Job.zero).after) szA _) ?_;refine ai gkA ?_;refine ⟨_,Ql3 rfl rfl rfl rfl (Q12 Job.zero i (by first|rfl|exact Nat.zero_add _|omega) ckA) rfl rfl (QK5 Job.zero i (by first|rfl|exact Nat.zero_add _|omega) ckA rfl),?_⟩;exact Qq0 (i+1) (wk [0] (tO rfl (tl eqA) .nil) (s1 (sv (to 0 lnA) (s1 (sv (Qn0 (I_eq (wr omA)) lx) .nil))))) omA ⟨hR,by exact omA⟩
 ·skip;have hR:=hR0;obtain rfl:=foll hR rfl;exact rq (tt [0] (tO rfl (tl eqA) .nil) (to 0 lnA))
end Go.Proofs.YtcbolcknapeneaaGreatDoor
namespace Go.Proofs.YtcbolcknapeneaaGreatDoor
set_option linter.unusedSimpArgs false
set_option linter.unusedVariables false
open Go.Fw
set_option maxRecDepth 20000
set_option maxHeartbeats 4000000
attribute [local irreducible] ACalls AMoves
def Qmc (end_:Int):List Int->Int->Nat->Int × Bool
 | [],left,_=>((w64 (end_ - left)),true)
 | x_ :: r,left,i=>bif (decide ((Q43 x_ 0 end_) > left)) then (end_,false) else Qmc end_ r (w64 (left - (Q43 x_ 0 end_))) (i+1)
def sat_sum (end_:Int) (l:List Int):Int × Bool:=Qmc end_ l end_ 0
theorem sat_sum_c (end_:Int) (l:List Int) (hs0:l.length<=4294967296):GV 353 [I end_,ints l] (AVal.tup [I ((sat_sum end_ l).1),Bo ((sat_sum end_ l).2)]):=by
 generalize hR:sat_sum end_ l=R;refine ga (l1 (.cons lw .nil)) (Low.tup' (l1 (l1 .nil))) (kp 9 [10,11,12,13,21]) Tryz.func353 ?_;have hk0:=hs0;obtain z5:l.length<=4294967296:=hs0;refine Q41 (fun (left:Int) (i:Nat)=>Qmc end_ (List.drop i l) left i=R∧i<=l.length) (fun left i=>l.length - i) (fun left i=>[(0,I end_),(4,I 0),(5,Bo false),(6,I left),(10,ints l),(11,I (l.length:Int)),(12,I (i:Int))]) (fun left i=>[]) end_ 0 (wk [] .nil (s1 (s1 (s1 (s1 (sl lw (s1 (s1 .nil)))))))) ⟨foll hR rfl,by exact omA⟩ ?_;clear hR;rintro left i ⟨hR,hj⟩;(try dsimp only at hR hj);refine ai (fun h1=>?_) (fun h2=>?_)
 ·have hlt:=ltA h1;rw [Qg0 0 hlt] at hR;refine ai gkA ?_;refine us (QX8 (l.getD i 0) 0 end_ _) ?_;refine ai (fun h3=>?_) (fun h4=>?_)
  ·have qh3:=of_decide_eq_true h3;obtain rfl:=foll hR (ct h3 rfl);exact Q00 (Low.tup' (l1 (l1 .nil))) (Seen.tup (e1 (e1 .nil)))
  ·have qh4:=of_decide_eq_false h4;exact Qz0 (w64 (left - (Q43 (l.getD i 0) 0 end_))) (i+1) (wk [] .nil (s1 (s1 (s1 (s1 (sl lw (s1 (sv (Qn0 (I_eq (wr omA)) lx) .nil)))))))) omA ⟨foll hR (cf h4 rfl),by exact omA⟩
 ·rw [Qt0 (l:=l) (j:=i) (geA h2)] at hR;obtain rfl:=foll hR rfl;exact Q00 (Low.tup' (l1 (l1 .nil))) (Seen.tup (e1 (e1 .nil)))
def QV7 :List Node->Nat->Int
 | [],_=>0
 | x_ :: r,i=>bif (!(Q07 x_)) then 120 else QV7 r (i+1)
def Qya (l:List Node):Int:=bif (((l.length:Int)==0)||(decide ((l.length:Int) > 48))) then 120 else QV7 l 0
def Qc6 (a:Shape) (b:Shape):Bool:=(((((a.kind==b.kind)&&(a.min==b.min))&&(a.max==b.max))&&(a.wall==b.wall))&&(Qn6 a.alts b.alts))
theorem ref07_Same_c (a:Shape) (b:Shape) (hs0:a.sz) (hs1:b.sz):GV 70 [Shape.a a,Shape.a b] (Bo (Qc6 a b)):=by
 generalize hR:Qc6 a b=R;refine ga (.cons (Shape.low _ _) (.cons (Shape.low _ _) .nil)) lx (kp 5 []) Tryz.func70 ?_;have hk0:=hs0;obtain z1:a.alts.length<=4294967296:=hs0;have hk1:=hs1;obtain z2:b.alts.length<=4294967296:=hs1;(first|apply u2|apply u3|apply u4|apply us);exact Qbd a.alts b.alts szA szA _;obtain rfl:=foll hR rfl;exact Q00 lx sr
def Ql6 :List (Nat × Int)->Nat->Int × Int
 | [],n=>((n:Int),0)
 | x_ :: r,n=>bif ((Qk0 x_.2)==0) then ((n:Int),40) else Ql6 r (n+1)
def QN4 (s:ByteArray):Int × Int:=Ql6 (Qq6 s) 0
def QE7 (l:List Int) (at_:Int):Nat->Int->Int
 | 0,_=>0
 | m+1,i=>bif (decide (i<(l.length:Int))) then bif ((((((Qk0 (l.getD (Int.toNat at_) 0))==2)&&((Qk0 (l.getD (Int.toNat i) 0))!=2))&&((Qk0 (l.getD (Int.toNat i) 0))!=3))&&((l.getD (Int.toNat i) 0)!=45))&&((l.getD (Int.toNat i) 0)!=95)) then i else bif (((Qk0 (l.getD (Int.toNat at_) 0))==3)&&(!(ref05_small (l.getD (Int.toNat i) 0)))) then i else QE7 l at_ m (w64 (i+1)) else i
def Q95 (l:List Int) (at_:Int):Int:=QE7 l at_ ((Int.toNat ((l.length:Int) - (w64 (at_+1))))+1) (w64 (at_+1))
def Qq4 (l:List Dep) (i:Nat) (x_:Dep):Nat->Nat->Sum (Bool) (Nat)
 | 0,_=>Sum.inr 0
 | m+1,k=>bif (decide ((k:Int)<(i:Int))) then bif ((l.getD k Dep.zero).job==x_.job) then Sum.inl false else Qq4 l i x_ m (k+1) else Sum.inr k
def Qa5 (l:List Dep):List Dep->Nat->Bool
 | [],_=>true
 | x_ :: r,i=>bif ((!(Q62 x_.how 1 3))||(!(Q62 x_.job 1 99999))) then false else (Sum.elim id (fun p1:Nat=>Qa5 l r (i+1))) (Qq4 l i x_ ((Int.toNat ((i:Int) - (0:Int)))+1) 0)
def Qz8 (l:List Dep):Bool:=bif (decide ((l.length:Int) > 4)) then false else Qa5 l l 0
def Q02 (x_:Alt):List Alt->Nat->Sum (Int) (Nat)
 | [],k=>Sum.inr k
 | x_1 :: r,k=>bif (x_.nodes==x_1.nodes) then Sum.inl 70 else Q02 x_ r (k+1)
def Qf1 (s:Shape):List Alt->Nat->Int
 | [],_=>0
 | x_ :: r,i=>bif ((!(Qm1 x_.nodes))||(!(Qc2 x_.wall))) then 70 else (Sum.elim id (fun p1:Nat=>Qf1 s r (i+1))) (Q02 x_ (List.drop (i+1) s.alts) (i+1))
def Qy3 (s:Shape) (most:Int):Int:=bif (((((decide ((s.alts.length:Int)<1))||(decide ((s.alts.length:Int) > most)))||(s.min != 0))||(s.max != 0))||(s.wall != 0)) then 70 else Qf1 s s.alts 0
def Qn1 (s:Shape):Int:=bif (s.kind==3) then bif (((((decide ((s.alts.length:Int) > 0))||(!(Qm1 s.min)))||(!(Qm1 s.max)))||(decide (s.max<s.min)))||(!(Qc2 s.wall))) then 70 else 0 else bif (s.kind==2) then Qy3 s 6 else bif (s.kind != 1) then 70 else Qy3 s 1
theorem Qo9 {s:Shape} (h:(Qn1 s != 0)=false) (hk:(s.kind != 3)=false):1<=s.min∧s.min<=s.max∧s.max<=48∧w64 (s.max - s.min)=s.max - s.min:=by
 have hk':s.kind=3:=by simpa using hk
 have h1:Qm1 s.min=true∧Qm1 s.max=true ∧ ¬ s.max<s.min:=by
  simp only [Qn1,hk',beq_self_eq_true,cond_true] at h
  revert h
  cases h2:(((((decide ((s.alts.length:Int) > 0))||(!(Qm1 s.min)))||(!(Qm1 s.max)))||(decide (s.max<s.min)))||(!(Qc2 s.wall))) with
  | true=>simp
  | false=>intro _;simp at h2;exact ⟨h2.1.1.1.2,h2.1.1.2,by omega⟩
 obtain ⟨a,b,c⟩:=h1
 simp [Qm1] at a b
 exact ⟨by omega,by omega,by omega,wr (by omega)⟩
def Qp6 (l:List Usage):List Usage->Nat->Int
 | [],_=>0
 | x_ :: r,i=>bif ((((((((i:Int)==200)||(!(QT3 x_.user)))||(!(QT3 x_.account)))||(decide (x_.used<0)))||(decide (x_.used > 1000000000000)))||(decide (x_.share<0)))||(decide (x_.share > x_.used))) then 2 else bif ((decide ((i:Int) > 0))&&(!(QF8 (l.getD (Int.toNat (w64 ((i:Int) - 1))) Usage.zero) x_))) then 2 else Qp6 l r (i+1)
def QE8 (l:List Usage):Int:=Qp6 l l 0
def Qp1 :List Step->List Int->Nat->(List Int) × Nat
 | [],out,i=>(out,i)
 | x_ :: r,out,i=>Qp1 r (QO4 out x_.at_) (i+1)
def QO1 :List Int->List Int->Nat->(List Int) × Nat
 | [],out1,i1=>(out1,i1)
 | x_1 :: r,out1,i1=>QO1 r (QO4 out1 x_1) (i1+1)
def Q9a (out1:List Int) (i1:Nat):(List Int):=out1
def Q8a (more:List Int) (out:List Int) (i:Nat):(List Int):=Q9a ((QO1 more out 0).1) ((QO1 more out 0).2)
def QN2 (p_:List Step) (more:List Int):(List Int):=Q8a more ((Qp1 p_ [] 0).1) ((Qp1 p_ [] 0).2)
theorem QG7:∀ (p:List Step) (out:List Int) (i:Nat),(Qp1 p out i).1.length<=out.length+p.length
 | [],out,i=>by simp [Qp1]
 | x :: r,out,i=>by
  rw [Qp1]
  have h1:=QG7 r (QO4 out x.at_) (i+1)
  have h2:=Qub out x.at_
  simp only [List.length_cons]
  omega
theorem QH7:∀ (p out:List Int) (i:Nat),(QO1 p out i).1.length<=out.length+p.length
 | [],out,i=>by simp [QO1]
 | x :: r,out,i=>by
  rw [QO1]
  have h1:=QH7 r (QO4 out x) (i+1)
  have h2:=Qub out x
  simp only [List.length_cons]
  omega
theorem QFe (p:List Step) (more:List Int):(QN2 p more).length<=p.length+more.length:=by
 have h1:=QG7 p [] 0
 have h2:=QH7 more (Qp1 p [] 0).1 0
 unfold QN2 Q8a Q9a
 simp only [List.length_nil] at h1
 omega
def Qo3 (l:List Job) (id_:Int):Job:=bif (decide ((QK3 l id_)<0)) then Job.zero else (l.getD (Int.toNat (QK3 l id_)) Job.zero)
def QA3 (from_:Int) (to_:Int):List Step->Int->Nat->Int × Nat
 | [],out,i=>(out,i)
 | x_ :: r,out,i=>bif (((decide (x_.at_ > from_))&&(decide (x_.at_<to_)))&&(decide (x_.free<out))) then QA3 from_ to_ r x_.free (i+1) else QA3 from_ to_ r out (i+1)
def Q7a (out:Int) (i:Nat):Int:=out
def QB8 (p_:List Step) (from_:Int) (to_:Int):Int:=bif (((((QW0 p_)!=0)||(decide (from_<0)))||(decide (from_ > 1000000)))||(decide (to_<=from_))) then 0 else Q7a ((QA3 from_ to_ p_ (Qk7 p_ from_) 0).1) ((QA3 from_ to_ p_ (Qk7 p_ from_) 0).2)
end Go.Proofs.YtcbolcknapeneaaGreatDoor
namespace Go.Proofs.YtcbolcknapeneaaGreatDoor
set_option linter.unusedSimpArgs false
set_option linter.unusedVariables false
open Go.Fw
set_option maxRecDepth 20000
set_option maxHeartbeats 4000000
attribute [local irreducible] ACalls AMoves
def Qz6 :List Job->Nat->Bool
 | [],_=>true
 | x_ :: r,i=>bif (!(Q78 x_)) then false else Qz6 r (i+1)
def Qdb (l:List Job):Bool:=bif (decide ((l.length:Int) > 60)) then false else Qz6 l 0
theorem law15_Few_c (l:List Job) (hs0:l.length<=9223372036854775807∧(∀ y ∈ l,y.szM)):GV 41 [jobL l] (Bo (Qdb l)):=by
 generalize hR:Qdb l=R;refine ga (.cons lw .nil) lx (kp 4 [6,10,18]) Tryz.func41 ?_;obtain ⟨z12,z13⟩:=id hs0;refine ai (fun h1=>?_) (fun h2=>?_)
 ·have qh1:=of_decide_eq_true h1;obtain rfl:=foll hR (ct h1 rfl);exact Q00 lx sr
 ·have qh2:=of_decide_eq_false h2;refine Qm0 (fun (i:Nat)=>Qz6 (List.drop i l) i=R∧i<=l.length) (fun i=>l.length - i) (fun i=>[(0,jobL l),(2,Bo false),(3,I (i:Int))]) (fun i=>[]) 0 (wk [] .nil (sl lw (s1 (s1 .nil)))) ⟨foll hR (cf h2 rfl),by exact omA⟩ ?_;clear hR;rintro i ⟨hR,hj⟩;(try dsimp only at hR hj);refine ai (fun h3=>?_) (fun h4=>?_)
  ·have hlt:=ltA h3;rw [Qg0 Job.zero hlt] at hR;have hxz:(l.getD i Job.zero).szM:=Q70 (by first|assumption|grind) (Job.szz _);have hkz:=hxz;obtain ⟨z5,z6,z7,z8,z9⟩:((l.getD i Job.zero).name).size<=9223372036854775807∧((l.getD i Job.zero).user).size<=9223372036854775807∧((l.getD i Job.zero).account).size<=9223372036854775807∧((((l.getD i Job.zero).shape).alts).length<=9223372036854775807)∧((l.getD i Job.zero).after).length<=9223372036854775807:=hxz;refine ai gkA ?_;refine us (law14_Few_c (l.getD i Job.zero) _) ?_;refine ai (fun h10=>?_) (fun h11=>?_)
   ·obtain rfl:=foll hR (ct h10 rfl);exact Q00 lx sr
   ·exact Qq0 (i+1) (wk [] .nil (sl lw (s1 (sv (Qn0 (I_eq (wr omA)) lx) .nil)))) omA ⟨foll hR (cf h11 rfl),by exact omA⟩
  ·rw [Qt0 (l:=l) (j:=i) (geA h4)] at hR;obtain rfl:=foll hR rfl;exact Q00 lx sr
def QG1 (x_:Node):Bool:=bif ((((decide (x_.epoch<0))||(decide (x_.epoch > 999999999)))||(!(Q48 x_.since)))||(!(Q48 x_.asked))) then false else bif (x_.state==0) then ((x_.job==0)&&(QK0 ([0]:List Int) x_.want)) else bif (x_.state==1) then (((decide (x_.job >= 1))&&(decide (x_.job<=99999)))&&(QK0 ([0,1,3,4]:List Int) x_.want)) else bif (x_.state==2) then (((decide (x_.job >= 1))&&(decide (x_.job<=99999)))&&(QK0 ([0,2]:List Int) x_.want)) else bif (x_.state==3) then (((decide (x_.job >= 1))&&(decide (x_.job<=99999)))&&(QK0 ([5]:List Int) x_.want)) else bif (x_.state==4) then ((x_.job==0)&&(QK0 ([0,6]:List Int) x_.want)) else false
theorem fleet_fine_c (x_:Node):GV 243 [Node.a x_] (Bo (QG1 x_)):=by
 generalize hR:QG1 x_=R;refine ga (.cons (Node.low _ _) .nil) lx (kp 5 [24,35,36,41,44,47,50]) Tryz.func243 ?_;(first|apply u2|apply u3|apply u4|apply us);exact Qzc x_.since _;(first|apply u2|apply u3|apply u4|apply us);exact Qzc x_.asked _;refine ai (fun h1=>?_) (fun h2=>?_)
 ·obtain rfl:=foll hR (ct h1 rfl);exact Q00 lx sr
 ·refine Or.inl ?_;refine ai (fun h3=>?_) (fun h4=>?_)
  ·(first|apply u2|apply u3|apply u4|apply us);exact AGives.as2 (QD1 ([0]:List Int) x_.want szA _) (av (Qp5 (c:=(fun q_=>[I q_])) (d:=0) ([0]:List Int) rfl) (a1 .nil));obtain rfl:=foll hR (cf h2 (ct h3 rfl));exact Q00 lx sr
  ·refine ai (fun h5=>?_) (fun h6=>?_)
   ·refine Or.inl ?_;(first|apply u2|apply u3|apply u4|apply us);exact AGives.as2 (QD1 ([0,1,3,4]:List Int) x_.want szA _) (av (Qp5 (c:=(fun q_=>[I q_])) (d:=0) ([0,1,3,4]:List Int) rfl) (a1 .nil));obtain rfl:=foll hR (cf h2 (cf h4 (ct h5 rfl)));exact Q00 lx sr
   ·refine ai (fun h7=>?_) (fun h8=>?_)
    ·refine Or.inl ?_;(first|apply u2|apply u3|apply u4|apply us);exact AGives.as2 (QD1 ([0,2]:List Int) x_.want szA _) (av (Qp5 (c:=(fun q_=>[I q_])) (d:=0) ([0,2]:List Int) rfl) (a1 .nil));obtain rfl:=foll hR (cf h2 (cf h4 (cf h6 (ct h7 rfl))));exact Q00 lx sr
    ·refine ai (fun h9=>?_) (fun h10=>?_)
     ·refine Or.inl ?_;(first|apply u2|apply u3|apply u4|apply us);exact AGives.as2 (QD1 ([5]:List Int) x_.want szA _) (av (Qp5 (c:=(fun q_=>[I q_])) (d:=0) ([5]:List Int) rfl) (a1 .nil));obtain rfl:=foll hR (cf h2 (cf h4 (cf h6 (cf h8 (ct h9 rfl)))));exact Q00 lx sr
     ·refine ai (fun h11=>?_) (fun h12=>?_)
      ·refine Or.inl ?_;(first|apply u2|apply u3|apply u4|apply us);exact AGives.as2 (QD1 ([0,6]:List Int) x_.want szA _) (av (Qp5 (c:=(fun q_=>[I q_])) (d:=0) ([0,6]:List Int) rfl) (a1 .nil));obtain rfl:=foll hR (cf h2 (cf h4 (cf h6 (cf h8 (cf h10 (ct h11 rfl))))));exact Q00 lx sr
      ·obtain rfl:=foll hR (cf h2 (cf h4 (cf h6 (cf h8 (cf h10 (cf h12 rfl))))));exact Q00 lx sr
def Qe5 (l:List Alt):List Alt->Nat->Bool
 | [],_=>true
 | x_ :: r,i=>bif (QM0 (List.take i l) (fun (y:Alt)=>(x_.nodes==y.nodes))) then false else Qe5 l r (i+1)
def QR4 (l:List Alt):Bool:=Qe5 l l 0
theorem shape_apart_c (l:List Alt) (hs0:l.length<=4294967296):GV 216 [altL l] (Bo (QR4 l)):=by
 generalize hR:QR4 l=R;refine ga (.cons lw .nil) lx (kp 5 [5,6,7,8,16]) Tryz.func216 ?_;have hk0:=hs0;obtain z9:l.length<=4294967296:=hs0;refine Qm0 (fun (i:Nat)=>Qe5 l (List.drop i l) i=R∧i<=l.length) (fun i=>l.length - i) (fun i=>[(0,altL l),(2,Bo false),(5,altL l),(6,I (l.length:Int)),(7,I (i:Int))]) (fun i=>[]) 0 (wk [] .nil (sl lw (s1 (sl lw (s1 (s1 .nil)))))) ⟨foll hR rfl,by exact omA⟩ ?_;clear hR;rintro i ⟨hR,hj⟩;(try dsimp only at hR hj);refine ai (fun h1=>?_) (fun h2=>?_)
 ·have hlt:=ltA h1;rw [Qg0 Alt.zero hlt] at hR;refine ai gkA ?_;refine ai gkA ?_;have cl1:∀ (y1:Alt),AMoves Tryz.prog 295 [Alt.a y1,AVal.ptr 0 0 2 0 0] [(0,AObj.row 179 2 [[I (l.getD i Alt.zero).nodes,I (l.getD i Alt.zero).wall]])] 1 (Bo ((fun (y:Alt)=>((l.getD i Alt.zero).nodes==y.nodes)) y1)) [(0,AObj.row 179 2 [[I (l.getD i Alt.zero).nodes,I (l.getD i Alt.zero).wall]])]:=by
   intro y1;have hR:(fun (y:Alt)=>((l.getD i Alt.zero).nodes==y.nodes)) y1=(fun (y:Alt)=>((l.getD i Alt.zero).nodes==y.nodes)) y1:=rfl;refine mo (kp 4 []) Tryz.func295 ?_;refine Ql0 (fun r:Bool=>Bo r) (fun _=>[(0,AObj.row 179 2 [[I (l.getD i Alt.zero).nodes,I (l.getD i Alt.zero).wall]])]) (leaf:=((l.getD i Alt.zero).nodes==y1.nodes)) (foll hR rfl) ?_;exact tt [0] (tO rfl (ts Alt.lo) .nil) t1
  have hof1:AMoves Tryz.prog 217 [altL (List.take i l),AVal.fn (.func 295) [] [AVal.ptr 0 0 2 0 0]] [(0,AObj.row 179 2 [[I (l.getD i Alt.zero).nodes,I (l.getD i Alt.zero).wall]])] 1 (Bo (QM0 (List.take i l) (fun (y:Alt)=>((l.getD i Alt.zero).nodes==y.nodes)))) [(0,AObj.row 179 2 [[I (l.getD i Alt.zero).nodes,I (l.getD i Alt.zero).wall]])]:=by
   have hR:QM0 (List.take i l) (fun (y:Alt)=>((l.getD i Alt.zero).nodes==y.nodes))=QM0 (List.take i l) (fun (y:Alt)=>((l.getD i Alt.zero).nodes==y.nodes)):=rfl;refine mo (kp 5 []) Tryz.func217 ?_;have hof2:AMoves Tryz.prog 296 [altL (List.take i l),AVal.fn (.func 295) [] [AVal.ptr 0 0 2 0 0]] [(0,AObj.row 179 2 [[I (l.getD i Alt.zero).nodes,I (l.getD i Alt.zero).wall]])] 1 (I (QY0 (List.take i l) (fun (y:Alt)=>((l.getD i Alt.zero).nodes==y.nodes)))) [(0,AObj.row 179 2 [[I (l.getD i Alt.zero).nodes,I (l.getD i Alt.zero).wall]])]:=by
    have hR:QY0 (List.take i l) (fun (y:Alt)=>((l.getD i Alt.zero).nodes==y.nodes))=QY0 (List.take i l) (fun (y:Alt)=>((l.getD i Alt.zero).nodes==y.nodes)):=rfl;refine mo (kp 6 [7,8,9,16]) Tryz.func296 ?_;refine Qm0 (fun (i1:Nat)=>QX2 (fun (y:Alt)=>((l.getD i Alt.zero).nodes==y.nodes)) (List.drop i1 (List.take i l)) i1=QY0 (List.take i l) (fun (y:Alt)=>((l.getD i Alt.zero).nodes==y.nodes))∧i1<=(List.take i l).length) (fun i1=>(List.take i l).length - i1) (fun i1=>[(0,altL (List.take i l)),(1,AVal.fn (.func 295) [] [AVal.ptr 0 0 2 0 0]),(4,I 0),(7,I ((List.take i l).length:Int)),(8,I (i1:Int))]) (fun i1=>[(0,AObj.row 179 2 [[I (l.getD i Alt.zero).nodes,I (l.getD i Alt.zero).wall]])]) 0 (wk [0] (tO rfl (ts Alt.lo) .nil) (sl lw (sv (QI0 .nil (cv (Q10 0 rfl rfl) .nil)) (s1 (s1 (s1 .nil)))))) ⟨foll hR rfl,by exact omA⟩ ?_;clear hR;rintro i1 ⟨hR,hj⟩;(try dsimp only at hR hj);refine ai (fun h3=>?_) (fun h4=>?_)
    ·have hlt:=ltA h3;rw [Qg0 Alt.zero hlt] at hR;refine ai gkA ?_;refine us (mv [0] (cl1 ((List.take i l).getD i1 Alt.zero)) (dO (ds Alt.lo) .nil) (dl (Alt.low _ _) (dp .nil)) (rO (re Alt.lo) .nil) rx) ?_;refine ai (fun h5=>?_) (fun h6=>?_)
     ·refine Ql0 (fun r:Int=>I r) (fun r:Int=>[(0,AObj.row 179 2 [[I (l.getD i Alt.zero).nodes,I (l.getD i Alt.zero).wall]])]) (leaf:=(i1:Int)) (foll hR (ct h5 rfl)) ?_;exact tt [0] (tO rfl (ts Alt.lo) .nil) t1
     ·exact Qq0 (i1+1) (wk [0] (tO rfl (ts Alt.lo) .nil) (sl lw (sv (QI0 .nil (cv (Q10 0 rfl rfl) .nil)) (s1 (s1 (sv (Qn0 (I_eq (wr omA)) lx) .nil)))))) omA ⟨foll hR (cf h6 rfl),by exact omA⟩
    ·rw [Qt0 (l:=(List.take i l)) (j:=i1) (geA h4)] at hR;refine Ql0 (fun r:Int=>I r) (fun r:Int=>[(0,AObj.row 179 2 [[I (l.getD i Alt.zero).nodes,I (l.getD i Alt.zero).wall]])]) (leaf:=(-1)) (foll hR rfl) ?_;exact tt [0] (tO rfl (ts Alt.lo) .nil) t1
   refine us (mv [0] (hof2) (dO (ds Alt.lo) .nil) (dl lw (dv (dn_fn .nil (dp .nil)) .nil)) (rO (re Alt.lo) .nil) rx) ?_;refine Ql0 (fun r:Bool=>Bo r) (fun r:Bool=>[(0,AObj.row 179 2 [[I (l.getD i Alt.zero).nodes,I (l.getD i Alt.zero).wall]])]) (leaf:=(decide ((QY0 (List.take i l) (fun (y:Alt)=>((l.getD i Alt.zero).nodes==y.nodes))) >= 0))) (foll hR rfl) ?_;exact tt [0] (tO rfl (ts Alt.lo) .nil) t1
  refine us (mv [0] (hof1) (dO (ds Alt.lo) .nil) (dv (dn_as (as_take l i ckA) lw) (dv (dn_fn .nil (dp .nil)) .nil)) (rO (re Alt.lo) .nil) rx) ?_;refine ai (fun h7=>?_) (fun h8=>?_)
  ·obtain rfl:=foll hR (ct h7 rfl);exact Q00 lx sr
  ·exact Qq0 (i+1) (wk [] .nil (sl lw (s1 (sl lw (s1 (sv (Qn0 (I_eq (wr omA)) lx) .nil)))))) omA ⟨foll hR (cf h8 rfl),by exact omA⟩
 ·rw [Qt0 (l:=l) (j:=i) (geA h2)] at hR;obtain rfl:=foll hR rfl;exact Q00 lx sr
def QU4 (s:ByteArray):Bool:=(((Q74 s).2==0)&&(Qp2 ((Q74 s).1) 1 16))
theorem QTb (s:ByteArray) (hs0:s.size<=4294967296):GV 254 [Sg s] (Bo (QU4 s)):=by
 generalize hR:QU4 s=R;refine ga (l1 .nil) lx (kp 5 []) Tryz.func254 ?_;have hk0:=hs0;obtain z1:s.size<=4294967296:=hs0;refine us (Qzb s szA _) ?_;(first|apply u2|apply u3|apply u4|apply us);exact Q03 ((Q74 s).1) 1 16 _;obtain rfl:=foll hR rfl;exact Q00 lx sr
def Qa6 (s:ByteArray):Int × Bool:=bif (((!(QX6 s))||(decide ((ByteArray.size s:Int) > 9)))||((decide ((ByteArray.size s:Int) > 1))&&(((s.data.toList.getD 0 0).toNat:Int)==48))) then (0,false) else ((Qx9 s).1,true)
theorem lex_number_c (s:ByteArray) (hs0:s.size<=4294967296):GV 393 [Sg s] (AVal.tup [I ((Qa6 s).1),Bo ((Qa6 s).2)]):=by
 generalize hR:Qa6 s=R;refine ga (l1 .nil) (Low.tup' (l1 (l1 .nil))) (kp 6 [23]) Tryz.func393 ?_;have hk0:=hs0;obtain z3:s.size<=4294967296:=hs0;refine us (QIc s szA _) ?_;refine ai gkA ?_;refine ai (fun h1=>?_) (fun h2=>?_)
 ·obtain rfl:=foll hR (ct h1 rfl);exact Q00 (Low.tup' (l1 (l1 .nil))) (Seen.tup (e1 (e1 .nil)))
 ·refine us (strconv_Atoi_c s szA (by exact lex_digits_ok (by assumption)) _) ?_;refine dchk (by kernel_rfl) ?_;(repeat ((first|refine ai rfl ?_|refine ai (fun _=>rfl) ?_)));obtain rfl:=foll hR (cf h2 rfl);exact Q00 (Low.tup' (l1 (l1 .nil))) (Seen.tup (e1 (e1 .nil)))
theorem Qsd (l:List Int) (r_:Int) (hl:l.length<=4294967296):AMoves Tryz.prog 384 [.ptr 0 0 2 0 0,J r_] [(0,.row 384 2 [[.sel 0 0 2 0 0,.own 1 0 1 0 l.length]]),(0,QT4 l)] 1 (.tup [I (w64 (((QE0 l r_).length:Int) - (l.length:Int))),.lit .nilIface]) [(0,.row 384 2 [[.ptr 0 0 2 0 0,.own 1 0 1 0 (QE0 l r_).length]]),(0,QT4 (QE0 l r_))]:=by
 refine AMoves.of_cwp (fun t=>Nat.ble 1000000 t||Nat.blt t 7) Tryz.func384 rfl rfl rfl ?_
 refine us (AMoves.on [0,1] (copyCheck_m bldT0 (x:=.own 1 0 1 0 l.length) (rest:=[(0,QT4 l)]) (n0:=2) (by simp)) (by decide) rfl rfl rfl (.cons _ _ _ _ (.row1 _ _ _ _ (.cons _ _ _ _ (dn_sel rfl) (.cons _ _ _ _ (dn_own rfl) .nil))) (.cons _ _ _ _ (.same _ (Qg7 fun _=>lowL1 rfl)) .nil)) rfl (.cons _ _ _ _ (dn_ptr rfl) .nil) (.cons _ _ _ _ (RenO.row1 _ _ _ _ (.cons _ _ _ _ (Ren.ptr _ _ _ _ _ _ rfl) (.cons _ _ _ _ (Ren.own _ _ _ _ _ _ rfl) .nil))) (.cons _ _ _ _ (RenO.same _ (Qg7 fun _=>lowL1 rfl)) .nil)) (Ren.low _ (.tup _ (fun x h=>nomatch h)))) ?_
 refine us (AMoves.on [1] (Qtc l r_ hl) (by decide) rfl rfl rfl (.cons _ _ _ _ (dn_row rfl (Qg7 fun _=>lowL1 rfl)) .nil) rfl (.cons _ _ _ _ (QJ6 rfl rfl) (.cons _ _ _ _ (Q87 (Q63 rfl)) .nil)) (.cons _ _ _ _ (RenO.same _ (Qg7 fun _=>lowL1 rfl)) .nil) (Ren.own _ _ _ _ _ _ rfl)) ?_
 refine Ql0 (fun _:Unit=>.tup [I (w64 (((QE0 l r_).length:Int) - (l.length:Int))),.lit .nilIface]) (fun _:Unit=>[(0,.row 384 2 [[.ptr 0 0 2 0 0,.own 1 0 1 0 (QE0 l r_).length]]),(0,QT4 (QE0 l r_))]) (leaf:=()) rfl ?_
 exact Qz4 [0,2] rfl (by decide) (.cons 0 _ _ _ _ rfl (Qb0 (.cons _ _ _ _ (Q10 0 rfl rfl) (.cons _ _ _ _ (Qpd 1 rfl rfl rfl) .nil))) (.cons 2 _ _ _ _ rfl (QLb rfl (Qg7 fun _=>lowL1 rfl)) .nil)) (turn_tup (.cons _ _ _ _ (Qr0 (Q63 rfl)) (.cons _ _ _ _ (Qr0 (Q63 rfl)) .nil)))
def QE4 (l:List Dep):List Dep->Nat->Bool
 | [],_=>(decide ((l.length:Int)<=4))
 | x_ :: r,i=>bif (((!(Qp2 x_.how 1 3))||(!(Quc x_.job)))||(Qv0 (List.take i l) (fun (y:Dep)=>(y.job==x_.job)))) then false else QE4 l r (i+1)
def QP6 (l:List Dep):Bool:=QE4 l l 0
theorem cmd_deps_c (l:List Dep) (hs0:l.length<=4294967296):GV 256 [depL l] (Bo (QP6 l)):=by
 generalize hR:QP6 l=R;refine ga (.cons lw .nil) lx (kp 6 [6,7,8,9,30]) Tryz.func256 ?_;have hk0:=hs0;obtain z9:l.length<=4294967296:=hs0;refine Qm0 (fun (i:Nat)=>QE4 l (List.drop i l) i=R∧i<=l.length) (fun i=>l.length - i) (fun i=>[(0,depL l),(2,Bo false),(6,depL l),(7,I (l.length:Int)),(8,I (i:Int))]) (fun i=>[]) 0 (wk [] .nil (sl lw (s1 (sl lw (s1 (s1 .nil)))))) ⟨foll hR rfl,by exact omA⟩ ?_;clear hR;rintro i ⟨hR,hj⟩;(try dsimp only at hR hj);refine ai (fun h1=>?_) (fun h2=>?_)
 ·have hlt:=ltA h1;rw [Qg0 Dep.zero hlt] at hR;refine ai gkA ?_;refine ai gkA ?_;have cl1:∀ (y1:Dep),AMoves Tryz.prog 312 [Dep.a y1,AVal.ptr 0 0 2 0 0] [(0,AObj.row 111 2 [[I (l.getD i Dep.zero).how,I (l.getD i Dep.zero).job]])] 1 (Bo ((fun (y:Dep)=>(y.job==(l.getD i Dep.zero).job)) y1)) [(0,AObj.row 111 2 [[I (l.getD i Dep.zero).how,I (l.getD i Dep.zero).job]])]:=by
   intro y1;have hR:(fun (y:Dep)=>(y.job==(l.getD i Dep.zero).job)) y1=(fun (y:Dep)=>(y.job==(l.getD i Dep.zero).job)) y1:=rfl;refine mo (kp 4 []) Tryz.func312 ?_;refine Ql0 (fun r:Bool=>Bo r) (fun _=>[(0,AObj.row 111 2 [[I (l.getD i Dep.zero).how,I (l.getD i Dep.zero).job]])]) (leaf:=(y1.job==(l.getD i Dep.zero).job)) (foll hR rfl) ?_;exact tt [0] (tO rfl (ts Dep.lo) .nil) t1
  have hof1:AMoves Tryz.prog 76 [depL (List.take i l),AVal.fn (.func 312) [] [AVal.ptr 0 0 2 0 0]] [(0,AObj.row 111 2 [[I (l.getD i Dep.zero).how,I (l.getD i Dep.zero).job]])] 1 (Bo (Qv0 (List.take i l) (fun (y:Dep)=>(y.job==(l.getD i Dep.zero).job)))) [(0,AObj.row 111 2 [[I (l.getD i Dep.zero).how,I (l.getD i Dep.zero).job]])]:=by
   have hR:Qv0 (List.take i l) (fun (y:Dep)=>(y.job==(l.getD i Dep.zero).job))=Qv0 (List.take i l) (fun (y:Dep)=>(y.job==(l.getD i Dep.zero).job)):=rfl;refine mo (kp 5 []) Tryz.func76 ?_;have hof2:AMoves Tryz.prog 175 [depL (List.take i l),AVal.fn (.func 312) [] [AVal.ptr 0 0 2 0 0]] [(0,AObj.row 111 2 [[I (l.getD i Dep.zero).how,I (l.getD i Dep.zero).job]])] 1 (I (QZ0 (List.take i l) (fun (y:Dep)=>(y.job==(l.getD i Dep.zero).job)))) [(0,AObj.row 111 2 [[I (l.getD i Dep.zero).how,I (l.getD i Dep.zero).job]])]:=by
    have hR:QZ0 (List.take i l) (fun (y:Dep)=>(y.job==(l.getD i Dep.zero).job))=QZ0 (List.take i l) (fun (y:Dep)=>(y.job==(l.getD i Dep.zero).job)):=rfl;refine mo (kp 6 [7,8,9,16]) Tryz.func175 ?_;refine Qm0 (fun (i1:Nat)=>QY2 (fun (y:Dep)=>(y.job==(l.getD i Dep.zero).job)) (List.drop i1 (List.take i l)) i1=QZ0 (List.take i l) (fun (y:Dep)=>(y.job==(l.getD i Dep.zero).job))∧i1<=(List.take i l).length) (fun i1=>(List.take i l).length - i1) (fun i1=>[(0,depL (List.take i l)),(1,AVal.fn (.func 312) [] [AVal.ptr 0 0 2 0 0]),(4,I 0),(7,I ((List.take i l).length:Int)),(8,I (i1:Int))]) (fun i1=>[(0,AObj.row 111 2 [[I (l.getD i Dep.zero).how,I (l.getD i Dep.zero).job]])]) 0 (wk [0] (tO rfl (ts Dep.lo) .nil) (sl lw (sv (QI0 .nil (cv (Q10 0 rfl rfl) .nil)) (s1 (s1 (s1 .nil)))))) ⟨foll hR rfl,by exact omA⟩ ?_;clear hR;rintro i1 ⟨hR,hj⟩;(try dsimp only at hR hj);refine ai (fun h3=>?_) (fun h4=>?_)
    ·have hlt:=ltA h3;rw [Qg0 Dep.zero hlt] at hR;refine ai gkA ?_;refine us (mv [0] (cl1 ((List.take i l).getD i1 Dep.zero)) (dO (ds Dep.lo) .nil) (dl (Dep.low _ _) (dp .nil)) (rO (re Dep.lo) .nil) rx) ?_;refine ai (fun h5=>?_) (fun h6=>?_)
     ·refine Ql0 (fun r:Int=>I r) (fun r:Int=>[(0,AObj.row 111 2 [[I (l.getD i Dep.zero).how,I (l.getD i Dep.zero).job]])]) (leaf:=(i1:Int)) (foll hR (ct h5 rfl)) ?_;exact tt [0] (tO rfl (ts Dep.lo) .nil) t1
     ·exact Qq0 (i1+1) (wk [0] (tO rfl (ts Dep.lo) .nil) (sl lw (sv (QI0 .nil (cv (Q10 0 rfl rfl) .nil)) (s1 (s1 (sv (Qn0 (I_eq (wr omA)) lx) .nil)))))) omA ⟨foll hR (cf h6 rfl),by exact omA⟩
    ·rw [Qt0 (l:=(List.take i l)) (j:=i1) (geA h4)] at hR;refine Ql0 (fun r:Int=>I r) (fun r:Int=>[(0,AObj.row 111 2 [[I (l.getD i Dep.zero).how,I (l.getD i Dep.zero).job]])]) (leaf:=(-1)) (foll hR rfl) ?_;exact tt [0] (tO rfl (ts Dep.lo) .nil) t1
   refine us (mv [0] (hof2) (dO (ds Dep.lo) .nil) (dl lw (dv (dn_fn .nil (dp .nil)) .nil)) (rO (re Dep.lo) .nil) rx) ?_;refine Ql0 (fun r:Bool=>Bo r) (fun r:Bool=>[(0,AObj.row 111 2 [[I (l.getD i Dep.zero).how,I (l.getD i Dep.zero).job]])]) (leaf:=(decide ((QZ0 (List.take i l) (fun (y:Dep)=>(y.job==(l.getD i Dep.zero).job))) >= 0))) (foll hR rfl) ?_;exact tt [0] (tO rfl (ts Dep.lo) .nil) t1
  refine us (mv [0] (hof1) (dO (ds Dep.lo) .nil) (dv (dn_as (as_take l i ckA) lw) (dv (dn_fn .nil (dp .nil)) .nil)) (rO (re Dep.lo) .nil) rx) ?_;refine us (Q03 ((l.getD i Dep.zero).how) 1 3 _) ?_;(first|apply u2|apply u3|apply u4|apply us);exact Qid ((l.getD i Dep.zero).job) _;refine ai (fun h7=>?_) (fun h8=>?_)
  ·obtain rfl:=foll hR (ct h7 rfl);exact Q00 lx sr
  ·exact Qq0 (i+1) (wk [] .nil (sl lw (s1 (sl lw (s1 (sv (Qn0 (I_eq (wr omA)) lx) .nil)))))) omA ⟨foll hR (cf h8 rfl),by exact omA⟩
 ·rw [Qt0 (l:=l) (j:=i) (geA h2)] at hR;obtain rfl:=foll hR rfl;exact Q00 lx sr
def QSa (a:Cmd) (b:Cmd):Bool:=bif ((!(Qg8 a.shape b.shape))||(!(Qn5 a.after b.after))) then false else ((((((((((((a.kind==b.kind)&&(a.job==b.job))&&(ByteArray.toList a.name==ByteArray.toList b.name))&&(ByteArray.toList a.user==ByteArray.toList b.user))&&(ByteArray.toList a.account==ByteArray.toList b.account))&&(a.prio==b.prio))&&(a.hasPrio==b.hasPrio))&&(a.time==b.time))&&(a.hasTime==b.hasTime))&&(a.node==b.node))&&(a.nodes==b.nodes))&&(a.from_==b.from_))
theorem cmd_Same_c (a:Cmd) (b:Cmd) (hs0:a.sz) (hs1:b.sz):GV 173 [Cmd.a a,Cmd.a b] (Bo (QSa a b)):=by
 generalize hR:QSa a b=R;refine ga (.cons (Cmd.low _ _) (.cons (Cmd.low _ _) .nil)) lx (kp 5 [18]) Tryz.func173 ?_;have hk0:=hs0;obtain ⟨z3,z4,z5,z6,z7⟩:a.name.size<=4294967296∧a.user.size<=4294967296∧a.account.size<=4294967296∧(a.shape.alts.length<=4294967296)∧a.after.length<=4294967296:=hs0;have hk1:=hs1;obtain ⟨z8,z9,z10,z11,z12⟩:b.name.size<=4294967296∧b.user.size<=4294967296∧b.account.size<=4294967296∧(b.shape.alts.length<=4294967296)∧b.after.length<=4294967296:=hs1;refine us (shape_Same_c a.shape b.shape szA szA _) ?_;(first|apply u2|apply u3|apply u4|apply us);exact QFb a.after b.after szA szA _;refine ai (fun h1=>?_) (fun h2=>?_)
 ·obtain rfl:=foll hR (ct h1 rfl);exact Q00 lx sr
 ·obtain rfl:=foll hR (cf h2 rfl);exact Q00 lx sr
def Q89 (set_:Int):Bool:=((wu64 (BitVec.ofInt 64 set_ &&& ~~~(BitVec.ofInt 64 (Q14 48))).toNat)==0)
theorem Qae (set_:Int):GV 176 [U set_] (Bo (Q89 set_)):=by
 generalize hR:Q89 set_=R;refine ga (l1 .nil) lx (kp 3 []) Tryz.func176 ?_;refine us (nodeset_All_c 48 _) ?_;obtain rfl:=foll hR rfl;exact Q00 lx sr
def QC6 (a:Usage) (b:Usage):Int:=(Qz9 ([(QT0 a.user b.user),(QT0 a.account b.account)]:List Int))
theorem Q2a (a:Usage) (b:Usage) (hs0:a.sz) (hs1:b.sz):GV 159 [Usage.a a,Usage.a b] (I (QC6 a b)):=by
 generalize hR:QC6 a b=R;refine ga (.cons (Usage.low _ _) (.cons (Usage.low _ _) .nil)) lx (kp 5 []) Tryz.func159 ?_;obtain ⟨z1,z2⟩:=Usage.zz hs0;obtain ⟨z3,z4⟩:=Usage.zz hs1;refine dchk (by kernel_rfl) ?_;(first|apply u2|apply u3|apply u4|apply us);exact QI3 a.user b.user _;(first|apply u2|apply u3|apply u4|apply us);exact QI3 a.account b.account _;(first|apply u2|apply u3|apply u4|apply us);exact AGives.as2 (Qvc ([(QT0 a.user b.user),(QT0 a.account b.account)]:List Int) szA _) (av (Qp5 (c:=(fun q_=>[I q_])) (d:=0) ([(QT0 a.user b.user),(QT0 a.account b.account)]:List Int) rfl) .nil);(repeat ((first|refine ai rfl ?_|refine ai (fun _=>rfl) ?_|refine ai (fun _=>QI3 a.user b.user _) ?_|refine ai (fun _=>QI3 a.account b.account _) ?_|refine ai (fun _=>AGives.as2 (Qvc ([(QT0 a.user b.user),(QT0 a.account b.account)]:List Int) szA _) (av (Qp5 (c:=(fun q_=>[I q_])) (d:=0) ([(QT0 a.user b.user),(QT0 a.account b.account)]:List Int) rfl) .nil)) ?_)));obtain rfl:=foll hR rfl;exact Q00 lx sr
def QG4 (p_:List Step) (long nodes at_:Int) (i:Nat):Int × Bool:=bif (decide (at_ > (w64 (1000000 - long)))) then (0,false) else ear long nodes (List.drop i p_) at_
def QB2 (p_:List Step) (from_ long nodes:Int):Int × Bool:=bif (((Qx1 p_)!=0)||(!(Ql2 long nodes))) then (0,false) else QG4 p_ long nodes (max from_ 0) 0
theorem ear_step (long n a:Int) (p:List Step) (i:Nat) (hi:i<p.length) (hp:p.length<=4294967296) (h:(p.getD i Step.zero).at_<w64 (a+long)) :
  (((decide ((p.getD i Step.zero).free >= n))||((!((w64 ((i:Int)+1))==(p.length:Int)))&&(decide ((p.getD (Int.toNat (w64 ((i:Int)+1))) Step.zero).at_<=a))))=true->ear long n (List.drop i p) a=ear long n (List.drop (i+1) p) a) ∧
  (((decide ((p.getD i Step.zero).free >= n))||((!((w64 ((i:Int)+1))==(p.length:Int)))&&(decide ((p.getD (Int.toNat (w64 ((i:Int)+1))) Step.zero).at_<=a))))=false ->
   (((w64 ((i:Int)+1))==(p.length:Int))=true->ear long n (List.drop i p) a=(0,false))∧(((w64 ((i:Int)+1))==(p.length:Int))=false->i+1<p.length∧ear long n (List.drop i p) a=QG4 p long n (p.getD (i+1) Step.zero).at_ (i+1))):=by
 have hw:w64 ((i:Int)+1)=((i+1:Nat):Int):=wr (by omega)
 rw [hw,Qg0 Step.zero hi]
 simp only [Int.toNat_natCast]
 have e:∀ r,ear long n (p.getD i Step.zero :: r) a=bif decide ((p.getD i Step.zero).free >= n) then ear long n r a else match r with | []=>(0,false)|y :: _=>bif decide (y.at_<=a) then ear long n r a else bif decide (y.at_ > w64 (1000000 - long)) then (0,false) else ear long n r y.at_:=by
  intro r
  rw [ear_cons,decide_eq_true h]
  rfl
 rw [e]
 cases decide ((p.getD i Step.zero).free >= n) with
 | true=>exact ⟨fun _=>rfl,fun h=>nomatch h⟩
 | false =>
  rcases Nat.lt_or_ge (i+1) p.length with hl|hl
  ·have hb:(((i+1:Nat):Int)==(p.length:Int))=false:=by simp;omega
   rw [hb,Qg0 Step.zero hl]
   cases hc:decide ((p.getD (i+1) Step.zero).at_<=a) with
   | true=>exact ⟨fun _=>by simp only [cond_false,hc,cond_true],fun h=>nomatch h⟩
   | false =>
    refine ⟨fun h=>(nomatch h),fun _=>⟨fun h=>(nomatch h),fun _=>⟨hl,?_⟩⟩⟩
    unfold QG4
    rw [Qg0 Step.zero hl]
    simp only [cond_false,hc]
  ·have hb:(((i+1:Nat):Int)==(p.length:Int))=true:=by simp;omega
   rw [hb,List.drop_eq_nil_of_le hl]
   exact ⟨fun h=>(by cases h),fun _=>⟨fun _=>rfl,fun h=>nomatch h⟩⟩
theorem ear_end {long n a:Int} {p:List Step} {i:Nat} (hi:i<=p.length) (h:((decide ((i:Int)<(p.length:Int)))&&(decide ((p.getD i Step.zero).at_<w64 (a+long))))=false):ear long n (List.drop i p) a=(a,true):=by
 rcases Nat.lt_or_ge i p.length with hl|hl
 ·rw [Qg0 Step.zero hl,ear_cons]
  rw [show decide ((i:Int)<(p.length:Int))=true from decide_eq_true (by omega),Bool.true_and] at h
  rw [h]
  rfl
 ·rw [List.drop_eq_nil_of_le hl]
  rfl
theorem fit_Earliest_c (p_:List Step) (from_ long nodes:Int) (hs0:p_.length<=4294967296):GV 133 [stepL p_,I from_,I long,I nodes] (AVal.tup [I (QB2 p_ from_ long nodes).1,Bo (QB2 p_ from_ long nodes).2]):=by
 generalize hR:QB2 p_ from_ long nodes=R;refine ga (.cons lw (l1 (l1 (l1 .nil)))) (Low.tup' (l1 (l1 .nil))) (kj [3000001] 13 [21,27,42,70,71]) Tryz.func133 ?_;have hk0:=hs0;refine scope_start2 (keep:=kj [3000001] 13 [21,27,42,70,71]) 0 (p_.length+1) (fun (at_:Int) (i:Nat)=>QG4 p_ long nodes at_ i=R∧i<=p_.length) (fun at_ i=>p_.length - i) (fun at_ i=>[(0,stepL p_),(2,I long),(3,I nodes),(8,I 0),(9,Bo false),(10,I at_),(11,I (i:Int))]) (fun _ _=>[]) rfl ?_ ?_
 ·clear hR;rintro at_ i0 ⟨hR,hi0⟩;refine ai (fun h1=>?_) (fun h2=>?_)
  ·obtain rfl:=foll hR (ct h1 rfl);exact Q00 (Low.tup' (l1 (l1 .nil))) sr
  ·refine Qm0 (fun (i:Nat)=>ear long nodes (List.drop i p_) at_=R∧i<=p_.length∧i0<=i) (fun i=>p_.length - i) (fun i=>[(0,stepL p_),(2,I long),(3,I nodes),(8,I 0),(9,Bo false),(10,I at_),(11,I (i:Int))]) (fun _=>[]) i0 (wk [] .nil (sl lw (s1 (s1 (s1 (s1 (s1 (s1 .nil)))))))) ⟨foll hR (cf h2 rfl),hi0,Nat.le_refl _⟩ ?_;clear hR;rintro i ⟨hR,hj,hq⟩;(try dsimp only at hR hj hq);refine ai gkA ?_;refine ai (fun h3=>?_) (fun h4=>?_)
   ·have h3':=Bool.and_eq_true_iff.1 h3;(have hlt:i<p_.length:=by have:=of_decide_eq_true h3'.1;omega);have hs:=ear_step long nodes at_ p_ i hlt hs0 (of_decide_eq_true h3'.2);have hw1:w64 ((i:Int)+1)=(i:Int)+1:=wr (by omega);refine ai gkA ?_;refine ai gkA ?_;refine ai (fun h5=>?_) (fun h6=>?_)
    ·exact Qq0 (i+1) (wk [] .nil (sl lw (s1 (s1 (s1 (s1 (s1 (sv (Qn0 (I_eq (wr omA)) lx) .nil)))))))) omA ⟨(hs.1 h5).symm.trans hR,hlt,by omega⟩
    ·refine ai (fun h7=>?_) (fun h8=>?_)
     ·obtain rfl:=((hs.2 h6).1 h7).symm.trans hR;exact Q00 (Low.tup' (l1 (l1 .nil))) sr
     ·have h8':=(hs.2 h6).2 h8;refine ai gkA ?_;exact ⟨rfl,Qz0 ((p_.getD (i+1) Step.zero).at_) (i+1) (wk [] .nil (sl lw (s1 (s1 (s1 (s1 (sv (Qn0 (I_eq (by show (p_.getD (Int.toNat (w64 ((i:Int)+1))) Step.zero).at_=_;rw [hw1];rfl)) lx) (sv (Qn0 (I_eq (wr omA)) lx) .nil)))))))) omA ⟨h8'.2.symm.trans hR,hlt⟩⟩
   ·obtain rfl:=(ear_end hj h4).symm.trans hR;exact Q00 (Low.tup' (l1 (l1 .nil))) sr
 ·refine us (QM4 p_ szA _) ?_;(first|apply u2|apply u3|apply u4|apply us);exact QZb long nodes _;refine ai (fun h1=>?_) (fun h2=>?_)
  ·obtain rfl:=foll hR (ct h1 rfl);exact Q00 (Low.tup' (l1 (l1 .nil))) sr
  ·refine ai (fun h3=>?_) (fun h4=>?_)
   ·obtain rfl:=foll hR ((cf h2 rfl).trans (ct h3 rfl));exact Q00 (Low.tup' (l1 (l1 .nil))) sr
   ·refine Qm0 (fun (i:Nat)=>ear long nodes (List.drop i p_) (max from_ 0)=R∧i<=p_.length) (fun i=>p_.length - i) (fun i=>[(0,stepL p_),(2,I long),(3,I nodes),(8,I 0),(9,Bo false),(10,I (max from_ 0)),(11,I (i:Int))]) (fun _=>[]) 0 (wk [] .nil (sl lw (s1 (s1 (s1 (s1 (s1 (s1 .nil)))))))) ⟨foll hR ((cf h2 rfl).trans (cf h4 rfl)),Nat.zero_le _⟩ ?_;clear hR;rintro i ⟨hR,hj⟩;(try dsimp only at hR hj);refine ai gkA ?_;refine ai (fun h3=>?_) (fun h4=>?_)
    ·have h3':=Bool.and_eq_true_iff.1 h3;(have hlt:i<p_.length:=by have:=of_decide_eq_true h3'.1;omega);have hs:=ear_step long nodes (max from_ 0) p_ i hlt hs0 (of_decide_eq_true h3'.2);have hw1:w64 ((i:Int)+1)=(i:Int)+1:=wr (by omega);refine ai gkA ?_;refine ai gkA ?_;refine ai (fun h5=>?_) (fun h6=>?_)
     ·exact Qq0 (i+1) (wk [] .nil (sl lw (s1 (s1 (s1 (s1 (s1 (sv (Qn0 (I_eq (wr omA)) lx) .nil)))))))) omA ⟨(hs.1 h5).symm.trans hR,hlt⟩
     ·refine ai (fun h7=>?_) (fun h8=>?_)
      ·obtain rfl:=((hs.2 h6).1 h7).symm.trans hR;exact Q00 (Low.tup' (l1 (l1 .nil))) sr
      ·have h8':=(hs.2 h6).2 h8;refine ai gkA ?_;exact ⟨rfl,Qz0 ((p_.getD (i+1) Step.zero).at_) (i+1) (wk [] .nil (sl lw (s1 (s1 (s1 (s1 (sv (Qn0 (I_eq (by show (p_.getD (Int.toNat (w64 ((i:Int)+1))) Step.zero).at_=_;rw [hw1];rfl)) lx) (sv (Qn0 (I_eq (wr omA)) lx) .nil)))))))) omA ⟨h8'.2.symm.trans hR,hlt⟩⟩
    ·obtain rfl:=(ear_end hj h4).symm.trans hR;exact Q00 (Low.tup' (l1 (l1 .nil))) sr
def QZ1 (c4:List Step):(List Step) × Int:=bif ((Qx1 c4)!=0) then ([],3) else (c4,0)
def Q85 :List Step->Nat->List Step->(List Step)
 | [],_,c5=>c5
 | x_ :: r,i2,c5=>Q85 r (i2+1) (QV0 x_.at_ x_.free c5)
def Qw3 (c5:List Step):(List Step) × Int:=QZ1 c5
def Qx2 (p_:List Step) (to_:Int) (i:Int) (last:Int) (c2:List Step):(List Step) × Int:=bif (i==(p_.length:Int)) then bif (decide (to_<=1000000)) then QZ1 (QV0 to_ last c2) else QZ1 c2 else Qw3 (Q85 (List.drop (Int.toNat i) p_) 0 c2)
def Q23 (p_:List Step) (to_:Int) (n:Int):Nat->Int->Int->List Step->(List Step) × Int
 | 0,_,_,_=>([],0)
 | m+1,i1,last1,c3=>bif (decide (i1<(p_.length:Int))) then bif (decide ((p_.getD (Int.toNat i1) Step.zero).at_<to_)) then Q23 p_ to_ n m (w64 (i1+1)) ((p_.getD (Int.toNat i1) Step.zero).free) (QV0 ((p_.getD (Int.toNat i1) Step.zero).at_) (w64 ((p_.getD (Int.toNat i1) Step.zero).free+n)) c3) else bif (decide ((p_.getD (Int.toNat i1) Step.zero).at_ > to_)) then Qx2 p_ to_ i1 ((p_.getD (Int.toNat i1) Step.zero).free) (QV0 to_ ((p_.getD (Int.toNat (w64 (i1 - 1))) Step.zero).free) c3) else Qx2 p_ to_ i1 ((p_.getD (Int.toNat i1) Step.zero).free) c3 else Qx2 p_ to_ i1 last1 c3
def Qo4 (p_:List Step) (from_:Int) (to_:Int) (n:Int) (c:List Step):(List Step) × Int:=Q23 p_ to_ n ((Int.toNat ((p_.length:Int) - (w64 ((Q80 p_ from_)+1))))+1) (w64 ((Q80 p_ from_)+1)) ((p_.getD (Int.toNat (Q80 p_ from_)) Step.zero).free) (QV0 from_ (w64 ((p_.getD (Int.toNat (Q80 p_ from_)) Step.zero).free+n)) c)
def QJ1 (p_:List Step) (from_:Int) (to_:Int) (n:Int):(List Step) × Int:=bif ((Qx1 p_)!=0) then ([],100) else bif (((!(Qs2 from_))||(decide (to_<from_)))||(!(Qh2 n))) then ([],2) else bif (to_==from_) then (p_,0) else bif (decide ((p_.getD (Int.toNat (Q80 p_ from_)) Step.zero).at_<from_)) then Qo4 p_ from_ to_ n (QV0 ((p_.getD (Int.toNat (Q80 p_ from_)) Step.zero).at_) ((p_.getD (Int.toNat (Q80 p_ from_)) Step.zero).free) (List.take (Int.toNat (Q80 p_ from_)) p_)) else Qo4 p_ from_ to_ n (List.take (Int.toNat (Q80 p_ from_)) p_)
theorem b2a0 {P:Prop} (h:P:=by first|((exact ⟨by omega,by omega,Nat.le_trans (Qn3 _ _ _) (by omega)⟩))|first|((exact ⟨by omega,by omega,by omega⟩))|first|((rw [hw1];exact ⟨by omega,by omega,Int.le_trans (Int.ofNat_le.2 (Qn3 _ _ _)) (by omega)⟩))|first|((rw [hw];exact ⟨by omega,by omega,Int.le_trans (Int.ofNat_le.2 (Qn3 _ _ _)) (by omega)⟩))|first|(((try dsimp only);refine Nat.le_trans (Qn3 _ _ _) ?_;first|omega|(simp;omega)))|first|(((try dsimp only);rw [List.length_drop] at *;omega))|first|((simp;omega))|exact exA):P:=h
theorem b2a1 {P:Prop} (h:P:=by first|((refine Nat.le_trans (Qn3 _ _ _) ?_;omega))|first|((simp;omega))|exact szA):P:=h
theorem Qob (p_:List Step) (from_:Int) (to_:Int) (n:Int) (hs0:p_.length<=4294967296):GV 166 [stepL p_,I from_,I to_,I n] (AVal.tup [stepL ((QJ1 p_ from_ to_ n).1),I ((QJ1 p_ from_ to_ n).2)]):=by
 generalize hR:QJ1 p_ from_ to_ n=R;refine ga (.cons lw (l1 (l1 (l1 .nil)))) (Low.tup' (.cons lw (l1 .nil))) (kj [1000014,1000024,1000032] 17 [17,21,35,58,91,99,117,137,139,146,147,148,149,161]) Tryz.func166 ?_;have hk0:=hs0;obtain z23:p_.length<=4294967296:=hs0;refine us (QM4 p_ b2a1 _) ?_;refine ai (fun h1=>?_) (fun h2=>?_)
 ·obtain rfl:=foll hR (ct h1 rfl);exact Q00 (Low.tup' (.cons lw (l1 .nil))) (Seen.tup (ev (QJ0) (e1 .nil)))
 ·refine us (QNc from_ _) ?_;(first|apply u2|apply u3|apply u4|apply us);exact QQ7 n _;refine ai (fun h3=>?_) (fun h4=>?_)
  ·obtain rfl:=foll hR (cf h2 (ct h3 rfl));exact Q00 (Low.tup' (.cons lw (l1 .nil))) (Seen.tup (ev (QJ0) (e1 .nil)))
  ·refine ai (fun h5=>?_) (fun h6=>?_)
   ·refine us (mv [] (QAa p_ b2a1) .nil (dl lw .nil) (rO rr .nil) (rw_ 0 0 rfl)) ?_;obtain rfl:=foll hR (cf h2 (cf h4 (ct h5 rfl)));exact Q00 (Low.tup' (.cons lw (l1 .nil))) (Seen.tup (ev (Q82 Step.zero _ rfl eqA lnA) (e1 .nil)))
   ·refine us (Qk9 p_ from_ b2a1 _) ?_;have hc:=Qb6 (p:=p_) (by assumption);have hp:=QL6 hc.1 hc.2.1 hc.2.2 (Qpb (by assumption));have hw:w64 (Q80 p_ from_+1)=Q80 p_ from_+1:=wr (by omega);refine ai gkA ?_;(first|refine ⟨Q75 16 rfl lnA apA,?_⟩|refine ⟨QI2 16 rfl apA,?_⟩);refine QJ2 (fun (c:List Step)=>Qo4 p_ from_ to_ n c=R∧c.length<=Int.toNat (Q80 p_ from_)+1) (fun c=>[(0,stepL p_),(1,I from_),(2,I to_),(3,I n),(8,AVal.lit (.slice none 0 0)),(9,I 0),(10,AVal.ptr 0 0 1 0 0),(11,AVal.fn (.func 249) [] [AVal.ptr 0 0 1 0 0]),(12,I (Q80 p_ from_))]) (fun c=>[(0,AObj.row 85 1 [[AVal.own 1 0 2 0 c.length]]),(0,AObj.row 198 2 (c.map Step.cells))]) ?_ ?_
    ·clear hR;rintro c ⟨hR,hx⟩;(try dsimp only at hR hx);refine ai gkA ?_;refine us (mv [0,1] (Qh3 from_ (w64 ((p_.getD (Int.toNat (Q80 p_ from_)) Step.zero).free+n)) c b2a1) (dO (dc (dv (QJ6 rfl lnA) .nil)) (dO (dr eqA) .nil)) (d1 (d1 (dp .nil))) (rO (rc (.cons _ _ _ _ (rw_ 2 0 rfl) .nil)) (rO rr .nil)) rx) ?_;refine ai gkA ?_;refine join_start3 (fun (i:Int) (last:Int) (c2:List Step)=>Qx2 p_ to_ i last c2=R∧1<=i∧i<=(p_.length:Int)∧c2.length<=1003) (fun i last c2=>[(0,stepL p_),(2,I to_),(8,AVal.lit (.slice none 0 0)),(9,I 0),(10,AVal.ptr 0 0 1 0 0),(11,AVal.fn (.func 249) [] [AVal.ptr 0 0 1 0 0]),(12,I i),(14,I last)]) (fun i last c2=>[(0,AObj.row 85 1 [[AVal.own 1 0 2 0 c2.length]]),(0,AObj.row 198 2 (c2.map Step.cells))]) ?_ ?_
     ·clear hR;rintro i last c2 ⟨hR,hx⟩;(try dsimp only at hR hx);refine QJ2 (fun (c4:List Step)=>QZ1 c4=R∧c4.length<=4000) (fun c4=>[(8,AVal.lit (.slice none 0 0)),(9,I 0),(10,AVal.ptr 0 0 1 0 0)]) (fun c4=>[(0,AObj.row 85 1 [[AVal.own 1 0 2 0 c4.length]]),(0,AObj.row 198 2 (c4.map Step.cells))]) ?_ ?_
      ·clear hR;rintro c4 ⟨hR,hx⟩;(try dsimp only at hR hx);refine us (AGives.lent (QM4 c4 b2a1 []) (ev (Q82 _ _ rfl eqA lnA) .nil) (.cons lw .nil) (Qxd rfl)) ?_;refine ai (fun h7=>?_) (fun h8=>?_)
       ·obtain rfl:=foll hR (ct h7 rfl);exact Q00 (Low.tup' (.cons lw (l1 .nil))) (Seen.tup (ev (QJ0) (e1 .nil)))
       ·obtain rfl:=foll hR (cf h8 rfl);exact Q00 (Low.tup' (.cons lw (l1 .nil))) (Seen.tup (ev (Q82 Step.zero _ rfl eqA lnA) (e1 .nil)))
      ·refine ai (fun h9=>?_) (fun h10=>?_)
       ·refine ai (fun h11=>?_) (fun h12=>?_)
        ·have qh11:=of_decide_eq_true h11;refine us (mv [0,1] (Qh3 to_ last c2 b2a1) (dO (dc (dv (QJ6 rfl lnA) .nil)) (dO (dr eqA) .nil)) (d1 (d1 (dp .nil))) (rO (rc (.cons _ _ _ _ (rw_ 2 0 rfl) .nil)) (rO rr .nil)) rx) ?_;exact QC0 (QV0 to_ last c2) (wk [0,2] (tO rfl (Qb0 (cv (to 1 lnA) .nil)) (tO rfl (tl eqA) .nil)) (s1 (s1 (sv (Q10 0 rfl rfl) .nil)))) (⟨foll hR (ct h9 (ct h11 rfl)),b2a0⟩)
        ·have qh12:=of_decide_eq_false h12;exact QC0 c2 (wk [0,1] (tO rfl (Qb0 (cv (to 1 lnA) .nil)) (tO rfl (tl eqA) .nil)) (s1 (s1 (sv (Q10 0 rfl rfl) .nil)))) (⟨foll hR (ct h9 (cf h12 rfl)),b2a0⟩)
       ·refine ai gkA ?_;refine Q41 (fun (i2:Nat) (c5:List Step)=>Qw3 (Q85 (List.drop i2 (List.drop (Int.toNat i) p_)) i2 c5)=R∧i2<=(List.drop (Int.toNat i) p_).length∧c5.length<=2000+i2) (fun i2 c5=>(List.drop (Int.toNat i) p_).length - i2) (fun i2 c5=>[(8,AVal.lit (.slice none 0 0)),(9,I 0),(10,AVal.ptr 0 0 1 0 0),(11,AVal.fn (.func 249) [] [AVal.ptr 0 0 1 0 0]),(146,stepL (List.drop (Int.toNat i) p_)),(147,I ((List.drop (Int.toNat i) p_).length:Int)),(148,I (i2:Int))]) (fun i2 c5=>[(0,AObj.row 85 1 [[AVal.own 1 0 2 0 c5.length]]),(0,AObj.row 198 2 (c5.map Step.cells))]) 0 c2 (wk [0,1] (tO rfl (Qb0 (cv (to 1 lnA) .nil)) (tO rfl (tl eqA) .nil)) (s1 (s1 (sv (Q10 0 rfl rfl) (sv (QI0 .nil (cv (Q10 0 rfl rfl) .nil)) (sv (turn_as (as_drop p_ (Int.toNat i) _ leA) lw) (sv (Qn0 (I_eq (by simp)) lx) (s1 .nil)))))))) ⟨foll hR (cf h10 rfl),by exact omA,b2a0⟩ ?_;clear hR;rintro i2 c5 ⟨hR,hj,hx⟩;(try dsimp only at hR hj hx);refine ai (fun h13=>?_) (fun h14=>?_)
        ·have hlt:=ltA h13;rw [Qg0 Step.zero hlt] at hR;have hdl:(List.drop (Int.toNat i) p_).length<=1000:=(by rw [List.length_drop];omega);refine ai gkA ?_;refine us (mv [0,1] (Qh3 (((List.drop (Int.toNat i) p_).getD i2 Step.zero).at_) (((List.drop (Int.toNat i) p_).getD i2 Step.zero).free) c5 b2a1) (dO (dc (dv (QJ6 rfl lnA) .nil)) (dO (dr eqA) .nil)) (d1 (d1 (dp .nil))) (rO (rc (.cons _ _ _ _ (rw_ 3 0 rfl) .nil)) (rO rr .nil)) rx) ?_;exact Qz0 (i2+1) (QV0 ((List.drop (Int.toNat i) p_).getD i2 Step.zero).at_ ((List.drop (Int.toNat i) p_).getD i2 Step.zero).free c5) (wk [0,3] (tO rfl (Qb0 (cv (to 1 lnA) .nil)) (tO rfl (tl eqA) .nil)) (s1 (s1 (sv (Q10 0 rfl rfl) (sv (QI0 .nil (cv (Q10 0 rfl rfl) .nil)) (sl lw (sv (Qn0 (I_eq (by simp)) lx) (sv (Qn0 (I_eq (wr omA)) lx) .nil)))))))) omA ⟨foll hR (congrArg (fun p:(List Step)=>Qw3 p) rfl),by exact omA,b2a0⟩
        ·rw [Qt0 (l:=(List.drop (Int.toNat i) p_)) (j:=i2) (geA h14)] at hR;replace hR:Qw3 c5=R:=fo2 (fun p:(List Step)=>Qw3 p) (c5) hR rfl;exact QC0 c5 (wk [0,1] (tO rfl (Qb0 (cv (to 1 lnA) .nil)) (tO rfl (tl eqA) .nil)) (s1 (s1 (sv (Q10 0 rfl rfl) .nil)))) (⟨foll hR rfl,b2a0⟩)
     ·refine Qv8 (fun (i1:Int) (last1:Int) (c3:List Step)=>∃ m,(Int.toNat ((p_.length:Int) - i1))<m∧Q23 p_ to_ n m i1 last1 c3=R∧1<=i1∧i1<=(p_.length:Int)∧(c3.length:Int)<=i1+1) (fun i1 last1 c3=>(Int.toNat ((p_.length:Int) - i1))) (fun i1 last1 c3=>[(0,stepL p_),(2,I to_),(3,I n),(8,AVal.lit (.slice none 0 0)),(9,I 0),(10,AVal.ptr 0 0 1 0 0),(11,AVal.fn (.func 249) [] [AVal.ptr 0 0 1 0 0]),(12,I i1),(14,I last1)]) (fun i1 last1 c3=>[(0,AObj.row 85 1 [[AVal.own 1 0 2 0 c3.length]]),(0,AObj.row 198 2 (c3.map Step.cells))]) (w64 ((Q80 p_ from_)+1)) ((p_.getD (Int.toNat (Q80 p_ from_)) Step.zero).free) (QV0 from_ (w64 ((p_.getD (Int.toNat (Q80 p_ from_)) Step.zero).free+n)) c) (wk [0,2] (tO rfl (Qb0 (cv (to 1 lnA) .nil)) (tO rfl (tl eqA) .nil)) (sl lw (s1 (s1 (s1 (s1 (sv (Q10 0 rfl rfl) (sv (QI0 .nil (cv (Q10 0 rfl rfl) .nil)) (s1 (s1 .nil)))))))))) ⟨_,Nat.lt_succ_self _,foll hR rfl,b2a0⟩ ?_;clear hR;rintro i1 last1 c3 ⟨m,hm,hR,hx⟩;(try dsimp only at hR hm hx);obtain ⟨m,rfl⟩:=sucA m;refine ai (fun h15=>?_) (fun h16=>?_)
      ·have qh15:=of_decide_eq_true h15;have hw1:w64 (i1+1)=i1+1:=wr (by omega);refine ai gkA ?_;refine ai gkA ?_;refine ai (fun h17=>?_) (fun h18=>?_)
       ·have qh17:=of_decide_eq_true h17;refine ai gkA ?_;refine us (mv [0,1] (Qh3 ((p_.getD (Int.toNat i1) Step.zero).at_) (w64 ((p_.getD (Int.toNat i1) Step.zero).free+n)) c3 b2a1) (dO (dc (dv (QJ6 rfl lnA) .nil)) (dO (dr eqA) .nil)) (d1 (d1 (dp .nil))) (rO (rc (.cons _ _ _ _ (rw_ 2 0 rfl) .nil)) (rO rr .nil)) rx) ?_;exact Qm4 (w64 (i1+1)) ((p_.getD (Int.toNat i1) Step.zero).free) (QV0 ((p_.getD (Int.toNat i1) Step.zero).at_) (w64 ((p_.getD (Int.toNat i1) Step.zero).free+n)) c3) (wk [0,2] (tO rfl (Qb0 (cv (to 1 lnA) .nil)) (tO rfl (tl eqA) .nil)) (sl lw (s1 (s1 (s1 (s1 (sv (Q10 0 rfl rfl) (sv (QI0 .nil (cv (Q10 0 rfl rfl) .nil)) (s1 (s1 .nil)))))))))) omA ⟨m,by exact omA,foll hR (ct h15 (ct h17 rfl)),b2a0⟩
       ·have qh18:=of_decide_eq_false h18;refine ai gkA ?_;refine ai (fun h19=>?_) (fun h20=>?_)
        ·have qh19:=of_decide_eq_true h19;refine ai gkA ?_;refine us (mv [0,1] (Qh3 to_ ((p_.getD (Int.toNat (w64 (i1 - 1))) Step.zero).free) c3 b2a1) (dO (dc (dv (QJ6 rfl lnA) .nil)) (dO (dr eqA) .nil)) (d1 (d1 (dp .nil))) (rO (rc (.cons _ _ _ _ (rw_ 2 0 rfl) .nil)) (rO rr .nil)) rx) ?_;exact Q3c i1 ((p_.getD (Int.toNat i1) Step.zero).free) (QV0 to_ ((p_.getD (Int.toNat (w64 (i1 - 1))) Step.zero).free) c3) (wk [0,2] (tO rfl (Qb0 (cv (to 1 lnA) .nil)) (tO rfl (tl eqA) .nil)) (sl lw (s1 (s1 (s1 (sv (Q10 0 rfl rfl) (sv (QI0 .nil (cv (Q10 0 rfl rfl) .nil)) (s1 (s1 .nil))))))))) (⟨foll hR (ct h15 (cf h18 (ct h19 rfl))),b2a0⟩)
        ·have qh20:=of_decide_eq_false h20;exact Q3c i1 ((p_.getD (Int.toNat i1) Step.zero).free) c3 (wk [0,1] (tO rfl (Qb0 (cv (to 1 lnA) .nil)) (tO rfl (tl eqA) .nil)) (sl lw (s1 (s1 (s1 (sv (Q10 0 rfl rfl) (sv (QI0 .nil (cv (Q10 0 rfl rfl) .nil)) (s1 (s1 .nil))))))))) (⟨foll hR (ct h15 (cf h18 (cf h20 rfl))),b2a0⟩)
      ·have qh16:=of_decide_eq_false h16;exact Q3c i1 last1 c3 (wk [0,1] (tO rfl (Qb0 (cv (to 1 lnA) .nil)) (tO rfl (tl eqA) .nil)) (sl lw (s1 (s1 (s1 (sv (Q10 0 rfl rfl) (sv (QI0 .nil (cv (Q10 0 rfl rfl) .nil)) (s1 (s1 .nil))))))))) (⟨foll hR (cf h16 rfl),b2a0⟩)
    ·refine ai gkA ?_;refine ai (fun h21=>?_) (fun h22=>?_)
     ·have qh21:=of_decide_eq_true h21;refine dchk (by kernel_rfl) ?_;refine ai gkA ?_;refine ai gkA ?_;(first|apply u2|apply u3|apply u4|apply us);exact mv [0,1] (Qh3 ((p_.getD (Int.toNat (Q80 p_ from_)) Step.zero).at_) ((p_.getD (Int.toNat (Q80 p_ from_)) Step.zero).free) (List.take (Int.toNat (Q80 p_ from_)) p_) b2a1) (dO (dc (dv (QJ6 rfl lnA) .nil)) (dO (dr eqA) .nil)) (d1 (d1 (dp .nil))) (rO (rc (.cons _ _ _ _ (rw_ 2 0 rfl) .nil)) (rO rr .nil)) rx;(repeat ((first|refine ai rfl ?_|refine ai (fun _=>rfl) ?_)));exact QC0 (QV0 ((p_.getD (Int.toNat (Q80 p_ from_)) Step.zero).at_) ((p_.getD (Int.toNat (Q80 p_ from_)) Step.zero).free) (List.take (Int.toNat (Q80 p_ from_)) p_)) (wk [0,2] (tO rfl (Qb0 (cv (to 1 lnA) .nil)) (tO rfl (tl eqA) .nil)) (sl lw (s1 (s1 (s1 (s1 (s1 (sv (Q10 0 rfl rfl) (sv (QI0 .nil (cv (Q10 0 rfl rfl) .nil)) (s1 .nil)))))))))) (⟨foll hR (cf h2 (cf h4 (cf h6 (ct h21 rfl)))),b2a0⟩)
     ·have qh22:=of_decide_eq_false h22;exact QC0 (List.take (Int.toNat (Q80 p_ from_)) p_) (wk [0,1] (tO rfl (Qb0 (cv (to 1 lnA) .nil)) (tO rfl (tl eqA) .nil)) (sl lw (s1 (s1 (s1 (s1 (s1 (sv (Q10 0 rfl rfl) (sv (QI0 .nil (cv (Q10 0 rfl rfl) .nil)) (s1 .nil)))))))))) (⟨foll hR (cf h2 (cf h4 (cf h6 (cf h22 rfl)))),b2a0⟩)
theorem Qi9 (p:List Step) (f t n:Int) (hp:p.length<=4294967296):(QJ1 p f t n).1.length<=4294967296:=by
 have k4:∀ c,(QZ1 c).1.length<=4294967296:=by
  intro c
  unfold QZ1
  cases h:((Qx1 c)!=0) with
  | true=>simp
  | false=>have:=Qb6 h;simp only [cond_false];omega
 have k2:∀ i last c,(Qx2 p t i last c).1.length<=4294967296:=by
  intro i last c
  unfold Qx2 Qw3
  cases (i==(p.length:Int)) <;> simp only [cond_true,cond_false]
  ·exact k4 _
  ·cases (decide (t<=1000000)) <;> simp only [cond_true,cond_false] <;> exact k4 _
 have g3:∀ m i last c,(Q23 p t n m i last c).1.length<=4294967296:=by
  intro m
  induction m with
  | zero=>intro i last c;simp [Q23]
  | succ m ih =>
   intro i last c
   rw [Q23]
   repeat' first|exact ih _ _ _|exact k2 _ _ _|(rw [Bool.cond_eq_ite];split)
 unfold QJ1 Qo4
 repeat' first|exact g3 _ _ _ _|exact hp|(simp;done)|(rw [Bool.cond_eq_ite];split)
end Go.Proofs.YtcbolcknapeneaaGreatDoor
namespace Go.Proofs.YtcbolcknapeneaaGreatDoor
set_option linter.unusedSimpArgs false
set_option linter.unusedVariables false
open Go.Fw
set_option maxRecDepth 20000
set_option maxHeartbeats 4000000
attribute [local irreducible] ACalls AMoves
def QM2 (p_:List Step) (to_:Int):Nat->Int->Int->Int × Int
 | 0,_,_=>(0,0)
 | m+1,i,n=>bif ((decide (i<(p_.length:Int)))&&(decide ((p_.getD (Int.toNat i) Step.zero).at_<to_))) then QM2 p_ to_ m (w64 (i+1)) (min n (p_.getD (Int.toNat i) Step.zero).free) else (i,n)
def Qi3 (i:Int) (n:Int):Int:=n
def QA0 (p_:List Step) (from_:Int) (to_:Int):Int:=bif ((((Qx1 p_)!=0)||(!(Qs2 from_)))||(decide (to_<=from_))) then 0 else Qi3 ((QM2 p_ to_ ((Int.toNat ((p_.length:Int) - (w64 ((Q80 p_ from_)+1))))+1) (w64 ((Q80 p_ from_)+1)) ((p_.getD (Int.toNat (Q80 p_ from_)) Step.zero).free)).1) ((QM2 p_ to_ ((Int.toNat ((p_.length:Int) - (w64 ((Q80 p_ from_)+1))))+1) (w64 ((Q80 p_ from_)+1)) ((p_.getD (Int.toNat (Q80 p_ from_)) Step.zero).free)).2)
theorem Qj9 (p_:List Step) (from_:Int) (to_:Int) (hs0:p_.length<=4294967296):GV 55 [stepL p_,I from_,I to_] (I (QA0 p_ from_ to_)):=by
 generalize hR:QA0 p_ from_ to_=R;refine ga (.cons lw (l1 (l1 .nil))) lx (kp 9 [21,44]) Tryz.func55 ?_;have hk0:=hs0;obtain z5:p_.length<=4294967296:=hs0;refine us (QM4 p_ szA _) ?_;(first|apply u2|apply u3|apply u4|apply us);exact QNc from_ _;refine ai (fun h1=>?_) (fun h2=>?_)
 ·obtain rfl:=foll hR (ct h1 rfl);exact Q00 lx sr
 ·refine us (Qk9 p_ from_ szA _) ?_;have hb:=Bool.or_eq_false_iff.1 (Bool.or_eq_false_iff.1 h2).1;have hc:=Qb6 hb.1;have hq:=hb.2;simp [Qs2] at hq;have hp:=QL6 hc.1 hc.2.1 hc.2.2 (t:=from_) (by omega);have hw:w64 (Q80 p_ from_+1)=Q80 p_ from_+1:=wr (by omega);refine ai gkA ?_;refine Q41 (fun (i:Int) (n:Int)=>∃ m,(Int.toNat ((p_.length:Int) - i))<m∧Qi3 (QM2 p_ to_ m i n).1 (QM2 p_ to_ m i n).2=R∧0<=i∧i<=(p_.length:Int)) (fun i n=>(Int.toNat ((p_.length:Int) - i))) (fun i n=>[(0,stepL p_),(2,I to_),(6,I 0),(7,I i),(8,I n)]) (fun i n=>[]) (w64 ((Q80 p_ from_)+1)) ((p_.getD (Int.toNat (Q80 p_ from_)) Step.zero).free) (wk [] .nil (sl lw (s1 (s1 (s1 (s1 .nil)))))) ⟨_,Nat.lt_succ_self _,foll hR (cf h2 rfl),by first|((rw [hw];omega))|first|((rw [hw1];omega))|exact exA⟩ ?_;clear hR;rintro i n ⟨m,hm,hR,hx⟩;(try dsimp only at hR hm hx);obtain ⟨m,rfl⟩:=sucA m;refine ai gkA ?_;refine ai (fun h3=>?_) (fun h4=>?_)
  ·have hw1:w64 (i+1)=i+1:=wr (by omega);refine ai gkA ?_;exact Qz0 (w64 (i+1)) (min n (p_.getD (Int.toNat i) Step.zero).free) (wk [] .nil (sl lw (s1 (s1 (s1 (s1 .nil)))))) (by first|((dsimp only;rw [hw1];omega))|exact omA) ⟨m,by first|((dsimp only;rw [hw1];omega))|exact omA,foll hR (congrArg (fun p:Int × Int=>Qi3 p.1 p.2) (ct h3 rfl)),by first|((rw [hw];omega))|first|((rw [hw1];omega))|exact exA⟩
  ·replace hR:Qi3 i n=R:=fo2 (fun p:Int × Int=>Qi3 p.1 p.2) (i,n) hR (cf h4 rfl);obtain rfl:=foll hR rfl;exact Q00 lx sr
def QAb (l:List Int):Int:=(sat_sum 1000000000000 l).1
theorem sat_Plus_c (l:List Int) (hs0:l.length<=4294967296):GV 336 [ints l] (I (QAb l)):=by
 generalize hR:QAb l=R;refine ga (.cons lw .nil) lx (kp 5 []) Tryz.func336 ?_;have hk0:=hs0;obtain z1:l.length<=4294967296:=hs0;refine us (sat_sum_c 1000000000000 l szA _) ?_;obtain rfl:=foll hR rfl;exact Q00 lx sr
def QH5 (c:Cmd) (job:Bool) (submit:Bool) (prio:Bool) (time:Bool) (node:Bool) (nodes:Bool) (from_:Bool):Bool:=bif ((((((job&&(c.job != 0))||(prio&&c.hasPrio))||(time&&c.hasTime))||(node&&(c.node != 0)))||(nodes&&(c.nodes != 0)))||(from_&&(c.from_ != 0))) then false else bif (!submit) then true else (((((ByteArray.toList c.name==ByteArray.toList ⟨#[]⟩)&&(ByteArray.toList c.user==ByteArray.toList ⟨#[]⟩))&&(ByteArray.toList c.account==ByteArray.toList ⟨#[]⟩))&&((c.after.length:Int)==0))&&(Qc6 c.shape Shape.zero))
def QF5 (s:ByteArray):Bool:=((((QN4 s).2==0)&&(decide ((QN4 s).1 >= 1)))&&(decide ((QN4 s).1<=16)))
def Qm6 (s:ByteArray):Nat->Nat->List Int->Nat × (List Int)
 | 0,_,_=>(0,[])
 | m+1,i,c=>bif (decide ((i:Int)<(ByteArray.size s:Int))) then bif ((((s.data.toList.getD i 0).toNat:Int)==34)||(((s.data.toList.getD i 0).toNat:Int)==92)) then Qm6 s m (i+1) ((c++([92]:List Int))++([((s.data.toList.getD i 0).toNat:Int)]:List Int)) else Qm6 s m (i+1) (c++([((s.data.toList.getD i 0).toNat:Int)]:List Int)) else (i,c)
def ref04_Quote_k1 (i:Nat) (c:List Int):ByteArray × Int:=((QQ2 (c++([34]:List Int))),0)
def QDe (s:ByteArray):ByteArray × Int:=bif ((QN4 s).2 != 0) then (⟨#[]⟩,(QN4 s).2) else ref04_Quote_k1 ((Qm6 s ((Int.toNat ((ByteArray.size s:Int) - (0:Int)))+1) 0 ([34]:List Int)).1) ((Qm6 s ((Int.toNat ((ByteArray.size s:Int) - (0:Int)))+1) 0 ([34]:List Int)).2)
def Qi2 (s:Shape):Nat->List Alt->Nat->(List Alt) × Nat
 | 0,_,_=>([],0)
 | m+1,out,i=>bif (decide ((i:Int)<=(w64 (s.max - s.min)))) then Qi2 s m (out++([(⟨(w64 (s.max - (i:Int))),s.wall⟩:Alt)]:List Alt)) (i+1) else (out,i)
def QU8 (out:List Alt) (i:Nat):(List Alt):=out
def Q50 (s:Shape):(List Alt):=bif ((Qn1 s)!=0) then [] else bif (s.kind != 3) then s.alts else QU8 ((Qi2 s ((Int.toNat ((w64 (s.max - s.min)) - (0:Int)+1))+1) [] 0).1) ((Qi2 s ((Int.toNat ((w64 (s.max - s.min)) - (0:Int)+1))+1) [] 0).2)
def QC2 (p_:List Step) (from_:Int) (to_:Int) (n:Int):List Int->List Step->Nat->(List Step) × Nat
 | [],out,i=>(out,i)
 | x_ :: r,out,i=>bif ((decide (x_ >= from_))&&(decide (x_<to_))) then bif (((out.length:Int)==0)||((out.getD (Int.toNat (w64 ((out.length:Int) - 1))) Step.zero).free != (w64 ((Qk7 p_ x_)+n)))) then QC2 p_ from_ to_ n r (out++([(⟨x_,(w64 ((Qk7 p_ x_)+n))⟩:Step)]:List Step)) (i+1) else QC2 p_ from_ to_ n r out (i+1) else bif (((out.length:Int)==0)||((out.getD (Int.toNat (w64 ((out.length:Int) - 1))) Step.zero).free != (Qk7 p_ x_))) then QC2 p_ from_ to_ n r (out++([(⟨x_,(Qk7 p_ x_)⟩:Step)]:List Step)) (i+1) else QC2 p_ from_ to_ n r out (i+1)
def QRc (out:List Step) (i:Nat):(List Step) × Int:=bif ((QW0 out)!=0) then ([],3) else (out,0)
def QF7 (p_:List Step) (from_:Int) (to_:Int) (n:Int) (more:List Int):(List Step) × Int:=QRc ((QC2 p_ from_ to_ n (QN2 p_ more) [] 0).1) ((QC2 p_ from_ to_ n (QN2 p_ more) [] 0).2)
def QP2 (p_:List Step) (from_:Int) (to_:Int) (n:Int):(List Step) × Int:=bif ((QW0 p_)!=0) then ([],100) else bif (((((decide (from_<0))||(decide (from_ > 1000000)))||(decide (to_<from_)))||(decide (n<(-1000000))))||(decide (n > 1000000))) then ([],2) else bif (decide (to_<=1000000)) then QF7 p_ from_ to_ n (([from_]:List Int)++([to_]:List Int)) else QF7 p_ from_ to_ n ([from_]:List Int)
def QHe (s:State) (n:Int):Int:=bif (((s.nodes.getD (Int.toNat n) Node.zero).drain||((s.nodes.getD (Int.toNat n) Node.zero).state==0))||((s.nodes.getD (Int.toNat n) Node.zero).state==4)) then 0 else bif ((s.nodes.getD (Int.toNat n) Node.zero).state==3) then (w64 ((s.nodes.getD (Int.toNat n) Node.zero).since+12)) else bif ((Qo3 s.jobs ((s.nodes.getD (Int.toNat n) Node.zero).job)).state != 2) then 1000001 else (w64 ((Qo3 s.jobs ((s.nodes.getD (Int.toNat n) Node.zero).job)).limit+12))
def Qy1 (p_:List Step) (at_:Int) (long:Int) (nodes:Int):Bool:=bif ((((((((QW0 p_)!=0)||(decide (nodes<1)))||(decide (nodes > 1000000)))||(decide (long<1)))||(decide (long > 1000000)))||(decide (at_<0)))||(decide (at_ > (w64 (1000000 - long))))) then false else (decide ((QB8 p_ at_ (w64 (at_+long))) >= nodes))
def ref14_Same_g1 (a:Job) (b:Job):List Dep->Nat->Bool
 | [],_=>((((((((((((((a.id==b.id)&&(ByteArray.toList a.name==ByteArray.toList b.name))&&(ByteArray.toList a.user==ByteArray.toList b.user))&&(ByteArray.toList a.account==ByteArray.toList b.account))&&(a.prio==b.prio))&&(a.state==b.state))&&(a.held==b.held))&&(a.born==b.born))&&(a.promise==b.promise))&&(a.choice==b.choice))&&(a.start==b.start))&&(a.limit==b.limit))&&(a.nodes==b.nodes))&&(a.used==b.used))
 | x_ :: r,i=>bif (!((x_.how==(b.after.getD i Dep.zero).how)&&(x_.job==(b.after.getD i Dep.zero).job))) then false else ref14_Same_g1 a b r (i+1)
def Qa8 (a:Job) (b:Job):Bool:=bif (((a.after.length:Int)!=(b.after.length:Int))||(!(Qc6 a.shape b.shape))) then false else ref14_Same_g1 a b a.after 0
theorem QSc (a:Job) (b:Job) (hs0:a.sz) (hs1:b.sz):GV 22 [Job.a a,Job.a b] (Bo (Qa8 a b)):=by
 generalize hR:Qa8 a b=R;refine ga (.cons (Job.low _ _) (.cons (Job.low _ _) .nil)) lx (kp 7 [21,26,39]) Tryz.func22 ?_;obtain ⟨z7,z8,z9,z10,z11⟩:=Job.zz hs0;obtain ⟨z12,z13,z14,z15,z16⟩:=Job.zz hs1;(first|apply u2|apply u3|apply u4|apply us);exact ref07_Same_c a.shape b.shape szA szA _;refine ai (fun h1=>?_) (fun h2=>?_)
 ·obtain rfl:=foll hR (ct h1 rfl);exact Q00 lx sr
 ·refine Qm0 (fun (i:Nat)=>ref14_Same_g1 a b (List.drop i a.after) i=R∧i<=a.after.length) (fun i=>a.after.length - i) (fun i=>[(2,AVal.ptr 0 0 20 0 0),(3,AVal.ptr 1 0 20 0 0),(4,Bo false),(5,I (i:Int))]) (fun i=>[(0,AObj.row 35 20 [[I a.id,Sg a.name,Sg a.user,Sg a.account,I a.shape.kind,altL a.shape.alts,I a.shape.min,I a.shape.max,I a.shape.wall,I a.prio,depL a.after,I a.state,Bo a.held,I a.born,I a.promise,I a.choice,I a.start,I a.limit,U a.nodes,I a.used]]),(0,AObj.row 35 20 [[I b.id,Sg b.name,Sg b.user,Sg b.account,I b.shape.kind,altL b.shape.alts,I b.shape.min,I b.shape.max,I b.shape.wall,I b.prio,depL b.after,I b.state,Bo b.held,I b.born,I b.promise,I b.choice,I b.start,I b.limit,U b.nodes,I b.used]])]) 0 (wk [0,1] (tO rfl (ts Job.lo) (tO rfl (ts Job.lo) .nil)) (sv (Q10 0 rfl rfl) (sv (Q10 1 rfl rfl) (s1 (s1 .nil))))) ⟨foll hR (cf h2 rfl),by exact omA⟩ ?_;clear hR;rintro i ⟨hR,hj⟩;(try dsimp only at hR hj);refine ai (fun h3=>?_) (fun h4=>?_)
  ·have hlt:=ltA h3;rw [Qg0 Dep.zero hlt] at hR;refine dchk (by kernel_rfl) ?_;refine ai gkA ?_;refine ai gkA ?_;refine ai (fun _=>(by kernel_rfl:eqOK _ _=true)) ?_;(repeat ((first|refine ai rfl ?_|refine ai (fun _=>rfl) ?_)));refine ai (fun h5=>?_) (fun h6=>?_)
   ·obtain rfl:=foll hR (ct h5 rfl);exact Q00 lx sr
   ·exact Qq0 (i+1) (wk [0,1] (tO rfl (ts Job.lo) (tO rfl (ts Job.lo) .nil)) (sv (Q10 0 rfl rfl) (sv (Q10 1 rfl rfl) (s1 (sv (Qn0 (I_eq (wr omA)) lx) .nil))))) omA ⟨foll hR (cf h6 rfl),by exact omA⟩
  ·rw [Qt0 (l:=a.after) (j:=i) (geA h4)] at hR;obtain rfl:=foll hR rfl;exact Q00 lx sr
end Go.Proofs.YtcbolcknapeneaaGreatDoor
