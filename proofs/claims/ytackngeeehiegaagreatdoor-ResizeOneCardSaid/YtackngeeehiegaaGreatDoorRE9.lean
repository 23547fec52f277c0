/-
  What the last text of this claim leans on: an evaluator over the code, contracts of functions, plain laws. Conditions stand in each statement.
-/
import Derived.Test.YtackngeeehiegaaGreatDoorRE8
import Derived.Test.YtackngeeehiegaaGreatDoorProg
namespace Go.Proofs.YtackngeeehiegaaGreatDoor
set_option linter.unusedSimpArgs false
set_option linter.unusedVariables false
open Go.Fw
set_option maxRecDepth 20000
set_option maxHeartbeats 4000000
attribute [local irreducible] ACalls AMoves
def Q48 (j:Job):Bool:=(((((Qcb j.shape)&&(decide ((j.after.length:Int)<=100)))&&(decide ((ByteArray.size j.name:Int)<=1000)))&&(decide ((ByteArray.size j.user:Int)<=1000)))&&(decide ((ByteArray.size j.account:Int)<=1000)))
theorem law14_Few_c (j:Job):GV 84 [Job.a j] (Bo (Q48 j)):=by
 generalize hR:Q48 j=R;refine gA (kp 3 []) Tryz.func84 ?_;refine us (law07_Few_c j.shape _) ?_;exact lfA
def Q30 (s:Int):Int:=(QW4 s)
theorem QG0 (s:Int):GV 23 [U s] (I (Q30 s)):=by
 generalize hR:Q30 s=R;refine gA (kp 3 []) Tryz.func23 ?_;refine us (QOa s _) ?_;exact lfA
theorem Q8d (s:Int):0<=Q30 s∧Q30 s<=127:=by
 have h:∀ a:BitVec 64,0<=w64 ((a &&& BitVec.ofInt 64 127).toNat:Int)∧w64 ((a &&& BitVec.ofInt 64 127).toNat:Int)<=127:=by
  intro a
  have:(a &&& BitVec.ofInt 64 127).toNat<=127:=by rw [BitVec.toNat_and];exact Nat.and_le_right
  have e:w64 ((a &&& BitVec.ofInt 64 127).toNat:Int)=((a &&& BitVec.ofInt 64 127).toNat:Int):=wr (by omega)
  rw [e]
  omega
 exact h _
def QW0 (s:List Node) (f:Node->Bool):Bool:=(decide ((Q12 s f) >= 0))
def Qo1 (s:List Int) (v:Int):Bool:=(decide ((QO6 s v) >= 0))
theorem Q02 (s:List Int) (v:Int) (hs0:s.length<=4294967296):GV 93 [ints s,I v] (Bo (Qo1 s v)):=by
 generalize hR:Qo1 s v=R;refine gA (kp 5 []) Tryz.func93 ?_;have hk0:=hs0;obtain z1:s.length<=4294967296:=hs0;refine us (QKb s v szA _) ?_;exact lfA
def Qw3 (n:Int):Int:=(QR4 n 0 1000000000000)
theorem QE8 (n:Int):GV 180 [I n] (I (Qw3 n)):=by
 generalize hR:Qw3 n=R;refine gA (kp 3 []) Tryz.func180 ?_;refine us (Qjd n 0 1000000000000 _) ?_;exact lfA
def QR0 (s:List Alt) (f:Alt->Bool):Bool:=(decide ((Q01 s f) >= 0))
def Q0c (n:Int):Bool:=(Qf2 n 1 100000)
theorem cmd_length_c (n:Int):GV 265 [I n] (Bo (Q0c n)):=by
 generalize hR:Q0c n=R;refine gA (kp 3 []) Tryz.func265 ?_;refine us (QG2 n 1 100000 _) ?_;exact lfA
def QQ4 :List (Nat × Int)->Nat->Int × Int
 | [],n=>((n:Int),0)
 | x_ :: r,n=>bif ((Qa1 x_.2)==0) then ((n:Int),40) else QQ4 r (n+1)
def QE3 (s:ByteArray):Int × Int:=QQ4 (Qo6 s) 0
theorem Qzb (s:ByteArray) (hs0:s.size<=4294967296):GV 293 [Sg s] (AVal.tup [I ((QE3 s).1),I ((QE3 s).2)]):=by
 generalize hR:QE3 s=R;refine gA (kp 7 [8,9,10,14]) Tryz.func293 ?_;have hk0:=hs0;obtain z5:s.size<=4294967296:=hs0;refine QF0 (fun (n:Nat) (pos:Nat)=>∃ m,ByteArray.size s - pos<=m∧QQ4 (Qa4 s m pos) n=R∧n<=pos) (fun n pos=>ByteArray.size s - pos) (fun n pos=>[(2,I 0),(3,I 0),(4,I (n:Int)),(8,AVal.ptr 0 0 1 0 0)]) (fun n pos=>[(0,AObj.other (.strIter s pos))]) 0 0 (wkA [0]) ⟨ByteArray.size s,by exact omA,foll hR rfl,by exact exA⟩ ?_;clear hR;rintro n pos ⟨m,hm,hR,hx⟩;(try dsimp only at hR hm hx);refine ai (fun h1=>?_) (fun h2=>?_)
 ·have hlt:=of_decide_eq_true h1;have hw:=QD9 s pos;have hwe:=QC9 s pos hlt;obtain ⟨m,rfl⟩:=sucA m;rw [QI3 h1] at hR;refine ai (fun _=>?_) (fun h=>nomatch h);refine us (QF3 ((pos,((Utf8.decode s pos).1:Int)).2) _) ?_;refine ai (fun h3=>?_) (fun h4=>?_)
  ·exact lfA
  ·exact Qh0 (n+1) (pos+(Utf8.decode s pos).2) (wkA [0]) omA ⟨m,by exact omA,foll hR (cf h4 rfl),by exact exA⟩
 ·rw [QI6 h2] at hR;refine ai (fun h=>nomatch h) (fun _=>?_);exact lfA
def Qb0 (y:Int):List Int->Nat->Bool
 | [],_=>((false||(y==45))||(y==95))
 | x_ :: r,i=>bif ((Qa1 y)==x_) then true else Qb0 y r (i+1)
def QM1 (r_:LexReader):Token × LexReader:=((⟨1,(Q56 ((Q20 r_ (fun (y:Int)=>Qb0 y ([2,3]:List Int) 0)).1)),0,0⟩:Token),(Q20 r_ (fun (y:Int)=>Qb0 y ([2,3]:List Int) 0)).2)
theorem Qcc (r_:LexReader) (hs0:r_.sz) (hp0:0<=r_.at_∧r_.at_<=(r_.line.length:Int)∧r_.line.length<=400):AMoves Tryz.prog 316 [AVal.ptr 0 0 4 0 0] [(0,AObj.row 321 4 [[runes r_.line,I r_.at_,I r_.bad,I r_.error]])] 1 (Token.a ((QM1 r_).1)) [(0,AObj.row 321 4 [[runes ((QM1 r_).2.line),I ((QM1 r_).2.at_),I ((QM1 r_).2.bad),I ((QM1 r_).2.error)]])]:=by
 generalize hR:QM1 r_=R;refine mo (kp 5 []) Tryz.func316 ?_;have hk0:=hs0;obtain z7:r_.line.length<=4294967296:=hs0;refine Or.inl ?_;refine ACalls.of_cwp (fun _=>true) Tryz.func306 rfl rfl ?_;refine ⟨_,_,Told.refl,?_⟩;have cl1:∀ (y1:Int),AMoves Tryz.prog 330 [J y1,AVal.ptr 1 0 1 0 0] [(0,AObj.row 52 1 [[ints ([2,3]:List Int)]]),(0,AObj.row 322 1 [[AVal.fn (.func 315) [] [AVal.ptr 0 0 1 0 0]]])] 2 (Bo ((fun (y:Int)=>Qb0 y ([2,3]:List Int) 0) y1)) [(0,AObj.row 52 1 [[ints ([2,3]:List Int)]]),(0,AObj.row 322 1 [[AVal.fn (.func 315) [] [AVal.ptr 0 0 1 0 0]]])]:=by
  intro y1;have hR:(fun (y:Int)=>Qb0 y ([2,3]:List Int) 0) y1=(fun (y:Int)=>Qb0 y ([2,3]:List Int) 0) y1:=rfl;refine mo (kp 4 []) Tryz.func330 ?_;refine ACalls.of_cwp (fun _=>true) Tryz.func315 rfl rfl ?_;refine Qv0 (fun (i:Nat)=>Qb0 y1 (List.drop i ([2,3]:List Int)) i=(fun (y:Int)=>Qb0 y ([2,3]:List Int) 0) y1∧i<=([2,3]:List Int).length) (fun i=>([2,3]:List Int).length - i) (fun i=>[(0,J y1),(3,Bo false),(6,ints ([2,3]:List Int)),(7,I (([2,3]:List Int).length:Int)),(8,I (i:Int))]) (fun i=>[(0,AObj.row 52 1 [[ints ([2,3]:List Int)]]),(0,AObj.row 322 1 [[AVal.fn (.func 315) [] [AVal.ptr 0 0 1 0 0]]])]) 0 (wkA [0,1]) ⟨foll hR rfl,by exact omA⟩ ?_;clear hR;rintro i ⟨hR,hj⟩;(try dsimp only at hR hj);refine ai (fun h1=>?_) (fun h2=>?_)
  ·(have hlt:i<([2,3]:List Int).length:=by have:=of_decide_eq_true h1;omega);rw [Qr0 0 hlt] at hR;refine ai gkA ?_;refine us (QF3 y1 _) ?_;refine ai (fun h3=>?_) (fun h4=>?_)
   ·refine ⟨_,_,Told.refl,?_⟩;refine Qi0 (fun r:Bool=>Bo r) (fun _=>[(0,AObj.row 52 1 [[ints ([2,3]:List Int)]]),(0,AObj.row 322 1 [[AVal.fn (.func 315) [] [AVal.ptr 0 0 1 0 0]]])]) (leaf:=true) (foll hR (ct h3 rfl)) ?_;exact tt [0,1] (tO rfl (ts (lv lw LowL.nil)) (tO rfl (Qo2 (cv (QQ6 .nil (cv (Qc1 0 rfl rfl) .nil)) .nil)) .nil)) t1
   ·exact Qy0 (i+1) (wkA [0,1]) omA ⟨folA,by exact omA⟩
  ·rw [Qs0 (l:=([2,3]:List Int)) (j:=i) (geA h2)] at hR;refine ⟨_,_,Told.refl,?_⟩;refine Qi0 (fun r:Bool=>Bo r) (fun _=>[(0,AObj.row 52 1 [[ints ([2,3]:List Int)]]),(0,AObj.row 322 1 [[AVal.fn (.func 315) [] [AVal.ptr 0 0 1 0 0]]])]) (leaf:=((false||(y1==45))||(y1==95))) (foll hR rfl) ?_;exact tt [0,1] (tO rfl (ts (lv lw LowL.nil)) (tO rfl (Qo2 (cv (QQ6 .nil (cv (Qc1 0 rfl rfl) .nil)) .nil)) .nil)) t1
 have hof1:AMoves Tryz.prog 307 [AVal.ptr 0 0 4 0 0,AVal.fn (.func 330) [] [AVal.ptr 2 0 1 0 0]] [(0,AObj.row 321 4 [[runes r_.line,I r_.at_,I r_.bad,I r_.error]]),(0,AObj.row 52 1 [[ints ([2,3]:List Int)]]),(0,AObj.row 322 1 [[AVal.fn (.func 315) [] [AVal.ptr 1 0 1 0 0]]])] 3 (Sg ((Q20 r_ (fun (y:Int)=>Qb0 y ([2,3]:List Int) 0)).1)) [(0,AObj.row 321 4 [[runes (((Q20 r_ (fun (y:Int)=>Qb0 y ([2,3]:List Int) 0)).2).line),I (((Q20 r_ (fun (y:Int)=>Qb0 y ([2,3]:List Int) 0)).2).at_),I (((Q20 r_ (fun (y:Int)=>Qb0 y ([2,3]:List Int) 0)).2).bad),I (((Q20 r_ (fun (y:Int)=>Qb0 y ([2,3]:List Int) 0)).2).error)]]),(0,AObj.row 52 1 [[ints ([2,3]:List Int)]]),(0,AObj.row 322 1 [[AVal.fn (.func 315) [] [AVal.ptr 1 0 1 0 0]]])]:=by
  have hR:Q20 r_ (fun (y:Int)=>Qb0 y ([2,3]:List Int) 0)=Q20 r_ (fun (y:Int)=>Qb0 y ([2,3]:List Int) 0):=rfl;refine mo (kp 6 [33]) Tryz.func307 ?_;refine Qv0 (fun (c:LexReader)=>∃ m,(Int.toNat ((c.line.length:Int) - c.at_))<m∧QB0 r_ (QA0 (fun (y:Int)=>Qb0 y ([2,3]:List Int) 0) m c)=Q20 r_ (fun (y:Int)=>Qb0 y ([2,3]:List Int) 0)∧0<=c.at_∧c.at_<=(c.line.length:Int)∧c.line.length<=400∧r_.at_<=c.at_∧0<=r_.at_) (fun c=>(Int.toNat ((c.line.length:Int) - c.at_))) (fun c=>[(0,AVal.ptr 0 0 4 0 0),(1,AVal.fn (.func 330) [] [AVal.ptr 2 0 1 0 0]),(4,Sg ⟨#[]⟩),(5,I r_.at_)]) (fun c=>[(0,AObj.row 321 4 [[runes c.line,I c.at_,I c.bad,I c.error]]),(0,AObj.row 52 1 [[ints ([2,3]:List Int)]]),(0,AObj.row 322 1 [[AVal.fn (.func 315) [] [AVal.ptr 1 0 1 0 0]]])]) r_ (wkA [0,1,2]) ⟨_,Nat.lt_succ_self _,foll hR rfl,by exact exA⟩ ?_;clear hR;rintro c ⟨m,hm,hR,hx⟩;(try dsimp only at hR hm hx);obtain ⟨m,rfl⟩:=sucA m;refine dchk (by kernel_rfl) ?_;refine ai gkA ?_;(first|apply u2|apply u3|apply u4|apply us);exact mv [1,2] (cl1 (c.line.getD (Int.toNat c.at_) 0)) (dO (ds (lv lw LowL.nil)) (dO (dc (dv (dn_fn .nil (dp .nil)) .nil)) .nil)) (d1 (dp .nil)) (rO (re (lv lw LowL.nil)) (rO (rc (rv (ren_fn .nil (.cons _ _ _ _ (rp 1 0 rfl) .nil)) .nil)) .nil)) rx;(repeat ((first|refine ai rfl ?_|refine ai (fun _=>rfl) ?_)));refine ai (fun h5=>?_) (fun h6=>?_)
  ·have hq1:=of_decide_eq_true ((Bool.and_eq_true _ _).mp h5).1;have hwr:w64 (c.at_+1)=c.at_+1:=wr (by omega);exact Qy0 { c with at_:=(w64 (c.at_+1)) } (wk [0,1,2] (tO rfl (ts LexReader.lo) (tO rfl (ts (lv lw LowL.nil)) (tO rfl (Qo2 (cv (QQ6 .nil (cv (Qc1 1 rfl rfl) .nil)) .nil)) .nil))) (sv (Qc1 0 rfl rfl) (sv (QQ6 .nil (cv (Qc1 2 rfl rfl) .nil)) (s1 (s1 .nil))))) omA ⟨m,by exact omA,foll hR (congrArg (fun p:LexReader=>QB0 r_ p) (ct h5 rfl)),by exact exA⟩
  ·replace hR:QB0 r_ c=Q20 r_ (fun (y:Int)=>Qb0 y ([2,3]:List Int) 0):=fo2 (fun p:LexReader=>QB0 r_ p) (c) hR (cf h6 rfl);refine dchk (by kernel_rfl) ?_;refine ai gkA ?_;(first|refine ⟨(List.drop (Int.toNat r_.at_) (List.take (Int.toNat c.at_) c.line)),by exact cvA,?_⟩|refine ⟨_,fun _=>⟨(List.drop (Int.toNat r_.at_) (List.take (Int.toNat c.at_) c.line)),by exact cvA,rfl,rfl⟩,?_⟩|refine ⟨_,rfl,⟨(List.drop (Int.toNat r_.at_) (List.take (Int.toNat c.at_) c.line)),by exact cvA,Sub.refl _,rfl⟩,?_⟩);(repeat ((first|refine ai rfl ?_|refine ai (fun _=>rfl) ?_)));refine Qi0 (fun r:ByteArray × LexReader=>Sg r.1) (fun r:ByteArray × LexReader=>[(0,AObj.row 321 4 [[runes r.2.line,I r.2.at_,I r.2.bad,I r.2.error]]),(0,AObj.row 52 1 [[ints ([2,3]:List Int)]]),(0,AObj.row 322 1 [[AVal.fn (.func 315) [] [AVal.ptr 1 0 1 0 0]]])]) (leaf:=((runesBytes (List.drop (Int.toNat r_.at_) (List.take (Int.toNat c.at_) c.line))),c)) (foll hR rfl) ?_;exact tt [0,1,2] (tO rfl (ts LexReader.lo) (tO rfl (ts (lv lw LowL.nil)) (tO rfl (Qo2 (cv (QQ6 .nil (cv (Qc1 1 rfl rfl) .nil)) .nil)) .nil))) t1
 refine us (mv [0,2,3] (hof1) (dO (ds LexReader.lo) (dO (dc (dv (dn_as (QN2 (c:=(fun q_=>[I q_])) (d:=0) ([2,3]:List Int) rfl) lw) .nil)) (dO (dc (dv (dn_fn .nil (dp .nil)) .nil)) .nil))) (dp (dv (dn_fn .nil (dp .nil)) .nil)) (rO (re LexReader.lo) (rO (re (lv lw LowL.nil)) (rO (rc (rv (ren_fn .nil (.cons _ _ _ _ (rp 2 0 rfl) .nil)) .nil)) .nil))) rx) ?_;refine us (runes_Lower_c ((Q20 r_ (fun (y:Int)=>Qb0 y ([2,3]:List Int) 0)).1) (by first|(exact Qf9 _ _ hp0.2.2)|exact szA) _) ?_;obtain rfl:=foll hR rfl;exact rq (ttA [0])
def Qv9 (s:ByteArray):Int × Unit:=((Qu8 s).1,())
theorem strconv_Atoi_c (s:ByteArray) (hs0:s.size<=4294967296) (hp0:atoiOK s):GV 343 [Sg s] (AVal.tup [I ((Qv9 s).1),AVal.lit .nilIface]):=by
 generalize hR:Qv9 s=R;refine gA (kp 6 [12]) Tryz.func343 ?_;have hk0:=hs0;obtain z1:s.size<=4294967296:=hs0;refine us (Qae s szA ckA _) ?_;refine ai (fun h=>nomatch h) (fun _=>?_);exact lfA
def Qh1 (x_:Int) (held:Bool):Bool × Bool:=bif (((Qa1 x_)==0)||((x_==34)&&(!held))) then (false,held) else (true,((x_==92)&&(!held)))
theorem QQ9 (x_:Int) (held:Bool):AMoves Tryz.prog 335 [J x_,AVal.ptr 0 0 1 0 0] [(0,AObj.row 4 1 [[Bo held]])] 1 (Bo ((Qh1 x_ held).1)) [(0,AObj.row 4 1 [[Bo ((Qh1 x_ held).2)]])]:=by
 generalize hR:Qh1 x_ held=R;refine mo (kp 4 [14]) Tryz.func335 ?_;refine us (QF3 x_ _) ?_;refine ai (fun h1=>?_) (fun h2=>?_)
 ·obtain rfl:=foll hR (ct h1 rfl);exact rq (ttA [0])
 ·obtain rfl:=foll hR (cf h2 rfl);exact rq (ttA [0])
def QJ0 (p_:List Int) (r_:Int):(List Int):=bif (decide ((wu32 r_)<=127)) then (p_++([(wu8 r_)]:List Int)) else (Qa2 p_ r_)
theorem Qtc (p_:List Int) (r_:Int) (hs0:p_.length<=4294967296):AMoves Tryz.prog 340 [AVal.own 0 0 1 0 p_.length,J r_] [(0,AObj.row 5 1 (p_.map (fun q_=>[Y q_])))] 0 (AVal.own 0 0 1 0 (QJ0 p_ r_).length) [(0,AObj.row 5 1 ((QJ0 p_ r_).map (fun q_=>[Y q_])))]:=by
 generalize hR:QJ0 p_ r_=R;refine mo (kp 5 [7]) Tryz.func340 ?_;have hk0:=hs0;obtain z3:p_.length<=4294967296:=hs0;refine ai (fun h1=>?_) (fun h2=>?_)
 ·have qh1:=of_decide_eq_true h1;refine Or.inl ?_;(first|refine ⟨Qe2 1 rfl lnA apA,?_⟩|refine ⟨Ql1 1 rfl apA,?_⟩);obtain rfl:=foll hR (ct h1 rfl);exact rq (ttA [0])
 ·have qh2:=of_decide_eq_false h2;refine us (mv [0] (QT7 p_ r_ szA) (dO (dr eqA) .nil) (dv (Q85 rfl lnA) (d1 .nil)) (rO rr .nil) (rw_ 1 0 rfl)) ?_;obtain rfl:=foll hR (cf h2 rfl);exact rq (ttA [1])
theorem Qh5 (l:List Int) (r_:Int):∃ k,QJ0 l r_=l++k∧1<=k.length∧k.length<=4∧Qr6 k:=by
 have h1:∀ a:Int,Qr6 [wu8 a]:=fun a=>Q75 (wu8_in a) Qy9
 have h2:∀ a b:Int,Qr6 [wu8 a,wu8 b]:=fun a b=>Q75 (wu8_in a) (h1 b)
 have h3:∀ a b c:Int,Qr6 [wu8 a,wu8 b,wu8 c]:=fun a b c=>Q75 (wu8_in a) (h2 b c)
 have h4:∀ a b c d:Int,Qr6 [wu8 a,wu8 b,wu8 c,wu8 d]:=fun a b c d=>Q75 (wu8_in a) (h3 b c d)
 have hc:Qr6 [239,191,189]:=Q75 (by decide) (Q75 (by decide) (Q75 (by decide) Qy9))
 unfold QJ0
 cases (decide ((wu32 r_)<=127)) with
 | true=>exact ⟨_,rfl,by simp,by simp,h1 _⟩
 | false =>
  simp only [cond_false]
  unfold Qa2
  repeat' first
   | exact ⟨_,rfl,by simp,by simp,h2 _ _⟩
   | exact ⟨_,rfl,by simp,by simp,h3 _ _ _⟩
   | exact ⟨_,rfl,by simp,by simp,h4 _ _ _ _⟩
   | exact ⟨_,rfl,by simp,by simp,hc⟩
   | unfold Qd2
   | (rw [Bool.cond_eq_ite];split)
theorem QB7 (l:List Int) (r_:Int):(QJ0 l r_).length ≠ 0:=by
 obtain ⟨k,e,h,_⟩:=Qh5 l r_
 rw [e,List.length_append]
 omega
theorem QJa (l:List Int) (r_:Int):(QJ0 l r_).length<=l.length+4:=by
 obtain ⟨k,e,_,h,_⟩:=Qh5 l r_
 rw [e,List.length_append]
 omega
theorem byteIn_rune (l:List Int) (r_:Int) (h:Qr6 l):Qr6 (QJ0 l r_):=by
 obtain ⟨k,e,_,_,g⟩:=Qh5 l r_
 rw [e]
 exact byteIn_app h g
def Qn0 (s:List Dep) (f:Dep->Bool):Bool:=(decide ((Q11 s f) >= 0))
def Qwc (n:Int):Bool:=(Qf2 n 1 99999)
theorem Qvd (n:Int):GV 269 [I n] (Bo (Qwc n)):=by
 generalize hR:Qwc n=R;refine gA (kp 3 []) Tryz.func269 ?_;refine us (QG2 n 1 99999 _) ?_;exact lfA
def Qc8 (a:Shape) (b:Shape):Bool:=(((((a.kind==b.kind)&&(a.min==b.min))&&(a.max==b.max))&&(a.wall==b.wall))&&(Q25 a.alts b.alts))
theorem shape_Same_c (a:Shape) (b:Shape) (hs0:a.sz) (hs1:b.sz):GV 270 [Shape.a a,Shape.a b] (Bo (Qc8 a b)):=by
 generalize hR:Qc8 a b=R;refine gA (kp 5 []) Tryz.func270 ?_;have hk0:=hs0;obtain z1:a.alts.length<=4294967296:=hs0;have hk1:=hs1;obtain z2:b.alts.length<=4294967296:=hs1;(first|apply u2|apply u3|apply u4|apply us);exact QIb a.alts b.alts szA szA _;exact lfA
def QB3 (v:Job):Bool:=(((((((v.nodes==0)&&(Q22 v.start))&&(Q22 v.limit))&&(decide (v.promise >= (-1))))&&(decide (v.promise<=1000000)))&&(decide (v.choice >= 0)))&&(decide (v.choice<=48)))
theorem Qbe (v:Job):GV 195 [Job.a v] (Bo (QB3 v)):=by
 generalize hR:QB3 v=R;refine gA (kp 3 []) Tryz.func195 ?_;(first|apply u2|apply u3|apply u4|apply us);exact Qp5 v.start _;(first|apply u2|apply u3|apply u4|apply us);exact Qp5 v.limit _;exact lfA
def QS2 (n:Int):Int:=bif (decide (n<=0)) then 0 else bif (decide (n >= 64)) then 18446744073709551615 else (wu64 ((Qz1 n) - 1))
theorem nodeset_All_c (n:Int):GV 261 [I n] (U (QS2 n)):=by
 generalize hR:QS2 n=R;refine gA (kp 3 [3,6]) Tryz.func261 ?_;refine ai (fun h1=>?_) (fun h2=>?_)
 ·have qh1:=of_decide_eq_true h1;exact lfA
 ·have qh2:=of_decide_eq_false h2;refine ai (fun h3=>?_) (fun h4=>?_)
  ·have qh3:=of_decide_eq_true h3;exact lfA
  ·have qh4:=of_decide_eq_false h4;refine us (QJ5 n _) ?_;exact lfA
def QT6 (l:List Book):List Book->Nat->Int
 | [],_=>0
 | x_ :: r,i=>bif ((!(QW7 x_))||((decide ((i:Int) > 0))&&(decide ((l.getD (Int.toNat (w64 ((i:Int) - 1))) Book.zero).id >= x_.id)))) then 190 else QT6 l r (i+1)
def Qi5 (l:List Book):Int:=bif (decide ((l.length:Int) > 8)) then 190 else QT6 l l 0
theorem book_Check_c (l:List Book) (hs0:l.length<=4294967296):GV 178 [bookL l] (I (Qi5 l)):=by
 generalize hR:Qi5 l=R;refine gA (kp 5 [7,8,9,10,11,32]) Tryz.func178 ?_;have hk0:=hs0;obtain z7:l.length<=4294967296:=hs0;refine ai (fun h1=>?_) (fun h2=>?_)
 ·have qh1:=of_decide_eq_true h1;exact lfA
 ·have qh2:=of_decide_eq_false h2;refine Qv0 (fun (i:Nat)=>QT6 l (List.drop i l) i=R∧i<=l.length) (fun i=>l.length - i) (fun i=>[(0,bookL l),(2,I 0),(8,bookL l),(9,I (l.length:Int)),(10,I (i:Int))]) (fun i=>[]) 0 (wkA []) ⟨folA,by exact omA⟩ ?_;clear hR;rintro i ⟨hR,hj⟩;(try dsimp only at hR hj);refine ai (fun h3=>?_) (fun h4=>?_)
  ·have hlt:=ltA h3;rw [Qr0 Book.zero hlt] at hR;refine ai gkA ?_;refine dchk (by kernel_rfl) ?_;(first|apply u2|apply u3|apply u4|apply us);exact QKd (l.getD i Book.zero) _;refine ai gkA ?_;(repeat ((first|refine ai rfl ?_|refine ai (fun _=>rfl) ?_|refine ai (fun _=>QKd (l.getD i Book.zero) _) ?_)));refine ai (fun h5=>?_) (fun h6=>?_)
   ·exact lfA
   ·exact Qy0 (i+1) (wkA []) omA ⟨folA,by exact omA⟩
  ·rw [Qs0 (l:=l) (j:=i) (geA h4)] at hR;exact lfA
def QU0 (x_:ByteArray) (y:ByteArray):Int:=bif (QW2 x_) then bif (QW2 y) then 0 else (-1) else bif (QW2 y) then 1 else bif (Op.bytesLess (ByteArray.toList x_) (ByteArray.toList y)) then (-1) else bif (!((Op.bytesLess (ByteArray.toList x_) (ByteArray.toList y))||(ByteArray.toList x_==ByteArray.toList y))) then 1 else 0
theorem Ql3 (x_:ByteArray) (y:ByteArray):GV 233 [Sg x_,Sg y] (I (QU0 x_ y)):=by
 generalize hR:QU0 x_ y=R;refine gA (kp 7 [11,12,13,16,19]) Tryz.func233 ?_;refine us (Qr7 x_ _) ?_;refine us (Qr7 y _) ?_;refine ai (fun h1=>?_) (fun h2=>?_)
 ·refine ai (fun h3=>?_) (fun h4=>?_)
  ·exact lfA
  ·exact lfA
 ·refine ai (fun h5=>?_) (fun h6=>?_)
  ·exact lfA
  ·refine ai (fun h7=>?_) (fun h8=>?_)
   ·exact lfA
   ·refine ai (fun h9=>?_) (fun h10=>?_)
    ·exact lfA
    ·exact lfA
def Qr1 (s:Int):Nat->List Int->Nat->(List Int)
 | 0,_,_=>[]
 | m+1,out,i=>bif (decide ((i:Int)<64)) then bif ((wu64 (BitVec.ofInt 64 s &&& BitVec.ofInt 64 (Qz1 (i:Int))).toNat)!=0) then Qr1 s m (out++([(i:Int)]:List Int)) (i+1) else Qr1 s m out (i+1) else out
def Qm2 (out:List Int):(List Int):=out
def Q50 (s:Int):(List Int):=Qm2 (Qr1 s ((Int.toNat (64 - (0:Int)))+1) [] 0)
theorem QE7 (s:Int):GV 19 [U s] (ints (Q50 s)):=by
 generalize hR:Q50 s=R;refine gA (kp 5 [5,6,12]) Tryz.func19 ?_;refine QF0 (fun (out:List Int) (i:Nat)=>∃ m,(Int.toNat (64 - (i:Int)))<m∧Qm2 (Qr1 s m out i)=R∧out.length<=i) (fun out i=>(Int.toNat (64 - (i:Int)))) (fun out i=>[(0,U s),(2,AVal.lit (.slice none 0 0)),(3,AVal.own 0 0 1 0 out.length),(5,I (i:Int))]) (fun out i=>[(0,AObj.row 3 1 (out.map (fun q_=>[I q_])))]) [] 0 ((Qk3 3 1).trans (wkA [0])) ⟨_,Nat.lt_succ_self _,foll hR rfl,by exact exA⟩ ?_;clear hR;rintro out i ⟨m,hm,hR,hx⟩;(try dsimp only at hR hm hx);obtain ⟨m,rfl⟩:=sucA m;refine ai (fun h1=>?_) (fun h2=>?_)
 ·have qh1:=of_decide_eq_true h1;refine us (QJ5 (i:Int) _) ?_;refine ai (fun h3=>?_) (fun h4=>?_)
  ·refine Or.inl ?_;(first|refine ⟨Qe2 8 rfl lnA apA,?_⟩|refine ⟨Ql1 8 rfl apA,?_⟩);exact Qh0 (out++([(i:Int)]:List Int)) (i+1) (wkA [0]) omA ⟨m,by exact omA,foll hR (congrArg (fun p:(List Int)=>Qm2 p) (ct h1 (ct h3 rfl))),by exact exA⟩
  ·exact Qh0 out (i+1) (wkA [0]) omA ⟨m,by exact omA,foll hR (congrArg (fun p:(List Int)=>Qm2 p) (ct h1 (cf h4 rfl))),by exact exA⟩
 ·have qh2:=of_decide_eq_false h2;replace hR:Qm2 out=R:=fo2 (fun p:(List Int)=>Qm2 p) (out) hR (cf h2 rfl);obtain rfl:=foll hR rfl;exact Q90 lw (Q80 0 _ rfl eqA lnA)
theorem QW5 (s:Int):∀ (m:Nat) (out:List Int) (i:Nat),(∀ x ∈ out,0<=x∧x<64) -> ∀ x ∈ Qr1 s m out i,0<=x∧x<64
 | 0,_,_,_,x,hx=>by simp [Qr1] at hx
 | m+1,out,i,h,x,hx=>by
  rw [Qr1] at hx
  cases hd:decide ((i:Int)<64) with
  | false=>rw [hd] at hx;exact h x hx
  | true =>
   rw [hd] at hx
   have hi:=of_decide_eq_true hd
   simp only [cond_true] at hx
   cases hb:((wu64 (BitVec.ofInt 64 s &&& BitVec.ofInt 64 (Qz1 (i:Int))).toNat)!=0) with
   | false=>rw [hb] at hx;exact QW5 s m out (i+1) h x hx
   | true =>
    rw [hb] at hx
    refine QW5 s m _ (i+1) (fun y hy=>?_) x hx
    rcases List.mem_append.1 hy with hy|hy
    ·exact h y hy
    ·rw [List.mem_singleton.1 hy];omega
theorem Qad (s:Int):∀ x ∈ Q50 s,0<=x∧x<64:=QW5 s _ _ _ (fun x hx=>nomatch hx)
theorem Q9d (s:Int) {i:Nat} (h:i<(Q50 s).length):0<=(Q50 s).getD i 0∧(Q50 s).getD i 0<64:=by
 have e:(Q50 s).getD i 0=(Q50 s)[i]:=by simp [List.getD,List.getElem?_eq_getElem h]
 rw [e]
 exact Qad s _ (List.getElem_mem h)
theorem QV5 (s:Int):∀ (m:Nat) (out:List Int) (i:Nat),out.length<=i->i<=64->(Qr1 s m out i).length<=64
 | 0,_,_,_,_=>by simp [Qr1]
 | m+1,out,i,h,h64=>by
  rw [Qr1]
  cases hd:decide ((i:Int)<64) with
  | false=>simp only [cond_false];omega
  | true =>
   have hi:=of_decide_eq_true hd
   simp only [cond_true]
   cases ((wu64 (BitVec.ofInt 64 s &&& BitVec.ofInt 64 (Qz1 (i:Int))).toNat)!=0) with
   | false=>exact QV5 s m out (i+1) (by omega) (by omega)
   | true=>exact QV5 s m _ (i+1) (by simp;omega) (by omega)
theorem QM6 (s:Int):(Q50 s).length<=64:=QV5 s _ _ _ (by simp) (by omega)
def Q33 :List Int->Int->Nat->Int × Int
 | [],s,_=>(s,0)
 | x_ :: r,s,i=>bif (((decide (x_<0))||(decide (x_ >= 64)))||((wu64 (BitVec.ofInt 64 s &&& BitVec.ofInt 64 (Qz1 x_)).toNat)!=0)) then (0,90) else Q33 r (wu64 (BitVec.ofInt 64 s ||| BitVec.ofInt 64 (Qz1 x_)).toNat) (i+1)
def Qz0 (l:List Int):Int × Int:=Q33 l 0 0
theorem Qy6 (l:List Int) (hs0:l.length<=4294967296):GV 60 [ints l] (AVal.tup [U ((Qz0 l).1),I ((Qz0 l).2)]):=by
 generalize hR:Qz0 l=R;refine gA (kp 7 [7,8,9,10,25]) Tryz.func60 ?_;have hk0:=hs0;obtain z5:l.length<=4294967296:=hs0;refine QF0 (fun (s:Int) (i:Nat)=>Q33 (List.drop i l) s i=R∧i<=l.length) (fun s i=>l.length - i) (fun s i=>[(2,U 0),(3,I 0),(4,U s),(7,ints l),(8,I (l.length:Int)),(9,I (i:Int))]) (fun s i=>[]) 0 0 (wkA []) ⟨foll hR rfl,by exact omA⟩ ?_;clear hR;rintro s i ⟨hR,hj⟩;(try dsimp only at hR hj);refine ai (fun h1=>?_) (fun h2=>?_)
 ·have hlt:=ltA h1;rw [Qr0 0 hlt] at hR;refine ai gkA ?_;(first|apply u2|apply u3|apply u4|apply us);exact QJ5 (l.getD i 0) _;refine ai (fun h3=>?_) (fun h4=>?_)
  ·obtain rfl:=foll hR (ct h3 rfl);exact Q90 (Low.tup' (l1 (l1 .nil))) (Seen.tup (e1 (e1 .nil)))
  ·refine us (QJ5 (l.getD i 0) _) ?_;exact Qh0 (wu64 (BitVec.ofInt 64 s ||| BitVec.ofInt 64 (Qz1 (l.getD i 0))).toNat) (i+1) (wkA []) omA ⟨foll hR (cf h4 rfl),by exact omA⟩
 ·rw [Qs0 (l:=l) (j:=i) (geA h2)] at hR;exact lfA
def QP0 (s:Int) (n:Int):Bool:=(((decide (n >= 0))&&(decide (n<64)))&&((wu64 (BitVec.ofInt 64 s &&& BitVec.ofInt 64 (Qz1 n)).toNat)!=0))
theorem QY6 (s:Int) (n:Int):GV 58 [U s,I n] (Bo (QP0 s n)):=by
 generalize hR:QP0 s n=R;refine gA (kp 5 []) Tryz.func58 ?_;(first|apply u2|apply u3|apply u4|apply us);exact QJ5 n _;exact lfA
def state_Copy (s:State):State:=s
theorem state_Copy_c (s:State) (hs0:s.sz):GV 85 [State.a s] (State.a s):=by
 generalize hR:state_Copy s=R;refine gA (kp 4 [26,27,28]) Tryz.func85 ?_;have hk0:=hs0;obtain ⟨z8,z9,z10,z11,z12,z13,z14⟩:=hs0;refine dchk (by kernel_rfl) ?_;(first|apply u2|apply u3|apply u4|apply us);exact mv [] (Qo7 s.nodes szA) .nil (dl lw .nil) (rO rr .nil) (rw_ 2 0 rfl);(first|apply u2|apply u3|apply u4|apply us);exact mv [] (Qy7 s.jobs szA) .nil (dl lw .nil) (rO rr .nil) (rw_ 3 0 rfl);(first|apply u2|apply u3|apply u4|apply us);exact mv [] (QH6 s.resizes szA) .nil (dl lw .nil) (rO rr .nil) (rw_ 4 0 rfl);(first|apply u2|apply u3|apply u4|apply us);exact mv [] (Qn7 s.books szA) .nil (dl lw .nil) (rO rr .nil) (rw_ 5 0 rfl);(first|apply u2|apply u3|apply u4|apply us);exact mv [] (QS6 s.ledger szA) .nil (dl lw .nil) (rO rr .nil) (rw_ 6 0 rfl);(repeat ((first|refine ai rfl ?_|refine ai (fun _=>rfl) ?_)));refine Qv0 (fun (i:Nat)=>True∧i<=s.jobs.length) (fun i=>s.jobs.length - i) (fun i=>[(1,AVal.ptr 0 0 8 0 0),(2,AVal.ptr 1 0 8 0 0),(26,I (s.jobs.length:Int)),(27,I (i:Int))]) (fun i=>[(0,AObj.row 28 8 [[I s.now,AVal.own 2 0 7 0 s.nodes.length,AVal.own 3 0 20 0 s.jobs.length,AVal.own 4 0 5 0 s.resizes.length,AVal.own 5 0 4 0 s.books.length,AVal.own 6 0 4 0 s.ledger.length,I s.nextJob,I s.nextBook]]),(0,AObj.row 28 8 [[I 0,AVal.lit (.slice none 0 0),AVal.lit (.slice none 0 0),AVal.lit (.slice none 0 0),AVal.lit (.slice none 0 0),AVal.lit (.slice none 0 0),I 0,I 0]]),(0,AObj.row 55 7 (s.nodes.map Node.cells)),(0,AObj.row 72 20 (s.jobs.map Job.cells)),(0,AObj.row 49 5 (s.resizes.map Resize.cells)),(0,AObj.row 122 4 (s.books.map Book.cells)),(0,AObj.row 138 4 (s.ledger.map Usage.cells))]) 0 (wkA [0,1,2,3,4,5,6]) ⟨trivial,by exact omA⟩ ?_;have hR0:=hR;rintro i ⟨hR,hj⟩;(try dsimp only at hR hj);refine ai (fun h1=>?_) (fun h2=>?_)
 ·have hlt:=ltA h1;have hxz:(s.jobs.getD i Job.zero).sz:=Q74 (by first|assumption|grind) (Job.szz _);have hkz:=hxz;obtain ⟨z3,z4,z5,z6,z7⟩:=Job.zz hxz;refine dchk (by kernel_rfl) ?_;refine ai gkA ?_;refine ⟨_,QN0 rfl rfl rfl (Qb1 Job.zero i (by first|rfl|exact Nat.zero_add _|omega) ckA) rfl,?_⟩;(first|apply u2|apply u3|apply u4|apply us);exact Q84 ((s.jobs.getD i Job.zero).shape.alts) szA _;refine ai gkA ?_;refine ⟨_,QN0 rfl rfl rfl (Qb1 Job.zero i (by first|rfl|exact Nat.zero_add _|omega) ckA) rfl,?_⟩;(first|apply u2|apply u3|apply u4|apply us);exact Q94 ((s.jobs.getD i Job.zero).after) szA _;refine ai gkA ?_;refine ⟨_,QH2 rfl rfl rfl rfl (Qb1 Job.zero i (by first|rfl|exact Nat.zero_add _|omega) ckA) rfl rfl (QA5 Job.zero i (by first|rfl|exact Nat.zero_add _|omega) ckA rfl),?_⟩;refine ai gkA ?_;refine ⟨_,QH2 rfl rfl rfl rfl (Qb1 Job.zero i (by first|rfl|exact Nat.zero_add _|omega) ckA) rfl rfl (QA5 Job.zero i (by first|rfl|exact Nat.zero_add _|omega) ckA rfl),?_⟩;(repeat ((first|refine ai rfl ?_|refine ai (fun _=>rfl) ?_|refine And.intro (QN0 rfl rfl rfl (Qb1 Job.zero i (by first|rfl|exact Nat.zero_add _|omega) ckA) rfl) ?_|refine ai (fun _=>Q84 ((s.jobs.getD i Job.zero).shape.alts) szA _) ?_|refine And.intro (QN0 rfl rfl rfl (Qb1 Job.zero i (by first|rfl|exact Nat.zero_add _|omega) ckA) rfl) ?_|refine ai (fun _=>Q94 ((s.jobs.getD i Job.zero).after) szA _) ?_)));exact Qy0 (i+1) (wkA [0,1,2,3,4,5,6]) omA ⟨hR,by exact omA⟩
 ·skip;have hR:=hR0;obtain rfl:=foll hR rfl;exact Q90 (State.low _ _) (Seen.agg (e1 (ev (Q80 Node.zero _ rfl eqA lnA) (ev (Q80 Job.zero _ rfl eqA lnA) (ev (Q80 Resize.zero _ rfl eqA lnA) (ev (Q80 Book.zero _ rfl eqA lnA) (ev (Q80 Usage.zero _ rfl eqA lnA) (e1 (e1 .nil)))))))))
theorem Qt9 (s:State) (hs0:s.sz):AMoves Tryz.prog 85 [State.a s] [] 0 (AVal.agg [I s.now,nodeL s.nodes,jobL s.jobs,AVal.own 0 0 5 0 s.resizes.length,bookL s.books,Qb4 s.ledger,I s.nextJob,I s.nextBook]) [(0,AObj.row 49 5 (s.resizes.map Resize.cells))]:=by
 generalize hR:state_Copy s=R;refine mo (kp 4 [26,27,28]) Tryz.func85 ?_;have hk0:=hs0;obtain ⟨z8,z9,z10,z11,z12,z13,z14⟩:=hs0;refine dchk (by kernel_rfl) ?_;(first|apply u2|apply u3|apply u4|apply us);exact mv [] (Qo7 s.nodes szA) .nil (dl lw .nil) (rO rr .nil) (rw_ 2 0 rfl);(first|apply u2|apply u3|apply u4|apply us);exact mv [] (Qy7 s.jobs szA) .nil (dl lw .nil) (rO rr .nil) (rw_ 3 0 rfl);(first|apply u2|apply u3|apply u4|apply us);exact mv [] (QH6 s.resizes szA) .nil (dl lw .nil) (rO rr .nil) (rw_ 4 0 rfl);(first|apply u2|apply u3|apply u4|apply us);exact mv [] (Qn7 s.books szA) .nil (dl lw .nil) (rO rr .nil) (rw_ 5 0 rfl);(first|apply u2|apply u3|apply u4|apply us);exact mv [] (QS6 s.ledger szA) .nil (dl lw .nil) (rO rr .nil) (rw_ 6 0 rfl);(repeat ((first|refine ai rfl ?_|refine ai (fun _=>rfl) ?_)));refine Qv0 (fun (i:Nat)=>True∧i<=s.jobs.length) (fun i=>s.jobs.length - i) (fun i=>[(1,AVal.ptr 0 0 8 0 0),(2,AVal.ptr 1 0 8 0 0),(26,I (s.jobs.length:Int)),(27,I (i:Int))]) (fun i=>[(0,AObj.row 28 8 [[I s.now,AVal.own 2 0 7 0 s.nodes.length,AVal.own 3 0 20 0 s.jobs.length,AVal.own 4 0 5 0 s.resizes.length,AVal.own 5 0 4 0 s.books.length,AVal.own 6 0 4 0 s.ledger.length,I s.nextJob,I s.nextBook]]),(0,AObj.row 28 8 [[I 0,AVal.lit (.slice none 0 0),AVal.lit (.slice none 0 0),AVal.lit (.slice none 0 0),AVal.lit (.slice none 0 0),AVal.lit (.slice none 0 0),I 0,I 0]]),(0,AObj.row 55 7 (s.nodes.map Node.cells)),(0,AObj.row 72 20 (s.jobs.map Job.cells)),(0,AObj.row 49 5 (s.resizes.map Resize.cells)),(0,AObj.row 122 4 (s.books.map Book.cells)),(0,AObj.row 138 4 (s.ledger.map Usage.cells))]) 0 (wkA [0,1,2,3,4,5,6]) ⟨trivial,by exact omA⟩ ?_;have hR0:=hR;rintro i ⟨hR,hj⟩;(try dsimp only at hR hj);refine ai (fun h1=>?_) (fun h2=>?_)
 ·have hlt:=ltA h1;have hxz:(s.jobs.getD i Job.zero).sz:=Q74 (by first|assumption|grind) (Job.szz _);have hkz:=hxz;obtain ⟨z3,z4,z5,z6,z7⟩:=Job.zz hxz;refine dchk (by kernel_rfl) ?_;refine ai gkA ?_;refine ⟨_,QN0 rfl rfl rfl (Qb1 Job.zero i (by first|rfl|exact Nat.zero_add _|omega) ckA) rfl,?_⟩;(first|apply u2|apply u3|apply u4|apply us);exact Q84 ((s.jobs.getD i Job.zero).shape.alts) szA _;refine ai gkA ?_;refine ⟨_,QN0 rfl rfl rfl (Qb1 Job.zero i (by first|rfl|exact Nat.zero_add _|omega) ckA) rfl,?_⟩;(first|apply u2|apply u3|apply u4|apply us);exact Q94 ((s.jobs.getD i Job.zero).after) szA _;refine ai gkA ?_;refine ⟨_,QH2 rfl rfl rfl rfl (Qb1 Job.zero i (by first|rfl|exact Nat.zero_add _|omega) ckA) rfl rfl (QA5 Job.zero i (by first|rfl|exact Nat.zero_add _|omega) ckA rfl),?_⟩;refine ai gkA ?_;refine ⟨_,QH2 rfl rfl rfl rfl (Qb1 Job.zero i (by first|rfl|exact Nat.zero_add _|omega) ckA) rfl rfl (QA5 Job.zero i (by first|rfl|exact Nat.zero_add _|omega) ckA rfl),?_⟩;(repeat ((first|refine ai rfl ?_|refine ai (fun _=>rfl) ?_|refine And.intro (QN0 rfl rfl rfl (Qb1 Job.zero i (by first|rfl|exact Nat.zero_add _|omega) ckA) rfl) ?_|refine ai (fun _=>Q84 ((s.jobs.getD i Job.zero).shape.alts) szA _) ?_|refine And.intro (QN0 rfl rfl rfl (Qb1 Job.zero i (by first|rfl|exact Nat.zero_add _|omega) ckA) rfl) ?_|refine ai (fun _=>Q94 ((s.jobs.getD i Job.zero).after) szA _) ?_)));exact Qy0 (i+1) (wkA [0,1,2,3,4,5,6]) omA ⟨hR,by exact omA⟩
 ·skip;have hR:=hR0;obtain rfl:=foll hR rfl;exact rq (tt [4] (tO rfl (tl eqA) .nil) (turn_agg (c1 (cv (Q87 _ _ rfl (Nat.zero_le _) (by decide) eqA (fun _=>Node.lowc _ _) lnA) (cv (Q87 _ _ rfl (Nat.zero_le _) (by decide) eqA (fun _=>Job.lowc _ _) lnA) (cv (to 0 lnA) (cv (Q87 _ _ rfl (Nat.zero_le _) (by decide) eqA (fun _=>Book.lowc _ _) lnA) (cv (Q87 _ _ rfl (Nat.zero_le _) (by decide) eqA (fun _=>Usage.lowc _ _) lnA) (c1 (c1 .nil))))))))))
def Qk0 (l:List Job) (id_:Int):Int × Bool:=((QH0 l id_ (fun (y:Job) (y1:Int)=>(w64 (y.id - y1)))).1,(QH0 l id_ (fun (y:Job) (y1:Int)=>(w64 (y.id - y1)))).2)
theorem b1a0 {P:Prop} (h:P:=by first|(dsimp only;rw [hh3];omega)|first|(dsimp only;rw [hh];omega)|exact exA):P:=h
theorem QOb (l:List Job) (id_:Int) (hs0:l.length<=4294967296∧(∀ y ∈ l,y.sz)):GV 127 [jobL l,I id_] (AVal.tup [I ((Qk0 l id_).1),Bo ((Qk0 l id_).2)]):=by
 generalize hR:Qk0 l id_=R;refine gA (kp 6 []) Tryz.func127 ?_;obtain ⟨z10,z11⟩:=id hs0;have cl1:∀ (y1:Job) (y2:Int) (hzy1:y1.sz),AMoves Tryz.prog 186 [Job.a y1,I y2] [] 0 (I ((fun (y:Job) (y1:Int)=>(w64 (y.id - y1))) y1 y2)) []:=by
  intro y1 y2 hzy1;have hky1:=hzy1;obtain ⟨z1,z2,z3,z4,z5⟩:=Job.zz hzy1;have hR:(fun (y:Job) (y1:Int)=>(w64 (y.id - y1))) y1 y2=(fun (y:Job) (y1:Int)=>(w64 (y.id - y1))) y1 y2:=rfl;refine mo (kp 5 []) Tryz.func186 ?_;refine Qi0 (fun r:Int=>I r) (fun _=>[]) (leaf:=(w64 (y1.id - y2))) (foll hR rfl) ?_;exact tt [] .nil t1
 have hof1:AMoves Tryz.prog 185 [jobL l,I id_,AVal.fn (.func 186) [] []] [] 0 (AVal.tup [I ((QH0 l id_ (fun (y:Job) (y1:Int)=>(w64 (y.id - y1)))).1),Bo ((QH0 l id_ (fun (y:Job) (y1:Int)=>(w64 (y.id - y1)))).2)]) []:=by
  have hR:QH0 l id_ (fun (y:Job) (y1:Int)=>(w64 (y.id - y1)))=QH0 l id_ (fun (y:Job) (y1:Int)=>(w64 (y.id - y1))):=rfl;refine mo (kp 12 [17,31]) Tryz.func185 ?_;refine QF0 (fun (i:Int) (j:Int)=>∃ m,(Int.toNat (j - i))<m∧QT0 l id_ (fun (y:Job) (y1:Int)=>(w64 (y.id - y1))) (Ql0 l id_ (fun (y:Job) (y1:Int)=>(w64 (y.id - y1))) m i j).1 (Ql0 l id_ (fun (y:Job) (y1:Int)=>(w64 (y.id - y1))) m i j).2=QH0 l id_ (fun (y:Job) (y1:Int)=>(w64 (y.id - y1)))∧0<=i∧i<=j∧j<=(l.length:Int)) (fun i j=>(Int.toNat (j - i))) (fun i j=>[(0,jobL l),(1,I id_),(2,AVal.fn (.func 186) [] []),(6,I 0),(7,Bo false),(8,I (l.length:Int)),(9,I i),(10,I j)]) (fun i j=>[]) 0 (l.length:Int) (wkA []) ⟨_,Nat.lt_succ_self _,foll hR rfl,b1a0⟩ ?_;clear hR;rintro i j ⟨m,hm,hR,hx⟩;(try dsimp only at hR hm hx);obtain ⟨m,rfl⟩:=sucA m;refine ai (fun h6=>?_) (fun h7=>?_)
  ·have qh6:=of_decide_eq_true h6;(have hq0:i<j:=qh6;have hh:w64 (Int.fdiv (wu64 (w64 (i+j))) (2 ^ (min (Int.toNat 1) 64)))=(i+j) / 2:=Qb9 hx.1 hq0 hx.2.2 (by omega);have hh3:w64 (w64 (Int.fdiv (wu64 (w64 (i+j))) (2 ^ (min (Int.toNat 1) 64)))+1)=(i+j) / 2+1:=by rw [hh];exact wr (by omega));refine And.intro (by first|exact fun hg=>decide_eq_true (by first|(show 0<=w64 (Int.fdiv (wu64 (w64 (i+j))) (2 ^ (min (Int.toNat 1) 64)))∧w64 (Int.fdiv (wu64 (w64 (i+j))) (2 ^ (min (Int.toNat 1) 64)))<(l.length:Int);rw [hh];omega)|exact ckA)|exact gkA) ?_;refine And.intro (by first|exact fun hg=>decide_eq_true (by first|(show 0<=w64 (Int.fdiv (wu64 (w64 (i+j))) (2 ^ (min (Int.toNat 1) 64)))∧w64 (Int.fdiv (wu64 (w64 (i+j))) (2 ^ (min (Int.toNat 1) 64)))<(l.length:Int);rw [hh];omega)|exact ckA)|exact gkA) ?_;refine us (mv [] (cl1 (l.getD (Int.toNat (w64 (Int.fdiv (wu64 (w64 (i+j))) (2 ^ (min (Int.toNat 1) 64))))) Job.zero) id_ szA) .nil (dl (Job.low _ _) (d1 .nil)) .nil rx) ?_;refine ai (fun h8=>?_) (fun h9=>?_)
   ·have qh8:=of_decide_eq_true h8;exact Qh0 (w64 ((w64 (Int.fdiv (wu64 (w64 (i+j))) (2 ^ (min (Int.toNat 1) 64))))+1)) j (wkA []) (by first|(dsimp only;rw [hh3];omega)|first|(dsimp only;rw [hh];omega)|exact omA) ⟨m,by first|(dsimp only;rw [hh3];omega)|first|(dsimp only;rw [hh];omega)|exact omA,foll hR (congrArg (fun p:Int × Int=>QT0 l id_ (fun (y:Job) (y1:Int)=>(w64 (y.id - y1))) p.1 p.2) (ct h6 (ct h8 rfl))),b1a0⟩
   ·have qh9:=of_decide_eq_false h9;exact Qh0 i (w64 (Int.fdiv (wu64 (w64 (i+j))) (2 ^ (min (Int.toNat 1) 64)))) (wkA []) (by first|(dsimp only;rw [hh3];omega)|first|(dsimp only;rw [hh];omega)|exact omA) ⟨m,by first|(dsimp only;rw [hh3];omega)|first|(dsimp only;rw [hh];omega)|exact omA,foll hR (congrArg (fun p:Int × Int=>QT0 l id_ (fun (y:Job) (y1:Int)=>(w64 (y.id - y1))) p.1 p.2) (ct h6 (cf h9 rfl))),b1a0⟩
  ·have qh7:=of_decide_eq_false h7;replace hR:QT0 l id_ (fun (y:Job) (y1:Int)=>(w64 (y.id - y1))) i j=QH0 l id_ (fun (y:Job) (y1:Int)=>(w64 (y.id - y1))):=fo2 (fun p:Int × Int=>QT0 l id_ (fun (y:Job) (y1:Int)=>(w64 (y.id - y1))) p.1 p.2) (i,j) hR (cf h7 rfl);refine And.intro (by first|exact fun hg=>decide_eq_true (by first|(show 0<=w64 (Int.fdiv (wu64 (w64 (i+j))) (2 ^ (min (Int.toNat 1) 64)))∧w64 (Int.fdiv (wu64 (w64 (i+j))) (2 ^ (min (Int.toNat 1) 64)))<(l.length:Int);rw [hh];omega)|exact ckA)|exact gkA) ?_;(first|apply u2|apply u3|apply u4|apply us);exact mv [] (cl1 (l.getD (Int.toNat i) Job.zero) id_ szA) .nil (dl (Job.low _ _) (d1 .nil)) .nil rx;refine Qi0 (fun r:Int × Bool=>AVal.tup [I r.1,Bo r.2]) (fun r:Int × Bool=>[]) (leaf:=(i,((decide (i<(l.length:Int)))&&(((fun (y:Job) (y1:Int)=>(w64 (y.id - y1))) (l.getD (Int.toNat i) Job.zero) id_)==0)))) (foll hR rfl) ?_;exact tt [] .nil (turn_tup (c1 (c1 .nil)))
 refine us (mv [] (hof1) .nil (dl lw (d1 (dv (QP5 (Low.fn _ _ _ LowL.nil LowL.nil)) .nil))) .nil (Ren.low _ (Low.tup' (l1 (l1 .nil))))) ?_;exact lfA
theorem bs_ge (x_:List Job) (target:Int) (cmp:Job->Int->Int) (hn:x_.length<=4294967296):∀ (m:Nat) (i j:Int),0<=i->i<=j->j<=(x_.length:Int)->0<=(Ql0 x_ target cmp m i j).1
 | 0,_,_,_,_,_=>by simp [Ql0]
 | m+1,i,j,h0,h1,h2=>by
  rw [Ql0]
  cases hd:decide (i<j) with
  | false=>exact h0
  | true =>
   have hlt:=of_decide_eq_true hd
   rw [Qb9 h0 hlt h2 (by omega)]
   simp only [cond_true]
   cases decide (cmp (x_.getD (Int.toNat ((i+j) / 2)) Job.zero) target<0) with
   | true =>
    have hw:w64 ((i+j) / 2+1)=(i+j) / 2+1:=wr (by omega)
    simp only [cond_true]
    rw [hw]
    exact bs_ge x_ target cmp hn m _ _ (by omega) (by omega) h2
   | false=>exact bs_ge x_ target cmp hn m _ _ h0 (by omega) (by omega)
theorem Q54 (l:List Job) (id_:Int) (hn:l.length<=4294967296) (h:(!(Qk0 l id_).2)=false):0<=(Qk0 l id_).1∧(Qk0 l id_).1<(l.length:Int):=by
 simp only [Qk0,QH0,QT0,Bool.not_eq_false',Bool.and_eq_true,decide_eq_true_eq] at h
 exact ⟨bs_ge _ _ _ hn _ _ _ (by omega) (by omega) (by omega),h.1⟩
def table_whole (l:List Job):(List Job):=l
theorem QPb (l:List Job) (hs0:l.length<=4294967296∧(∀ y ∈ l,y.sz)):AMoves Tryz.prog 128 [jobL l] [] 0 (AVal.own 0 0 20 0 l.length) [(0,AObj.row 72 20 (l.map Job.cells))]:=by
 generalize hR:table_whole l=R;refine mo (kp 5 [8,9,10]) Tryz.func128 ?_;obtain ⟨z8,z9⟩:=id hs0;refine us (mv [] (QA7 l szA) .nil (dl lw .nil) (rO rr .nil) (rw_ 0 0 rfl)) ?_;refine Qv0 (fun (i:Nat)=>True∧i<=l.length) (fun i=>l.length - i) (fun i=>[(2,AVal.lit (.slice none 0 0)),(3,AVal.own 0 0 20 0 l.length),(8,I (l.length:Int)),(9,I (i:Int))]) (fun i=>[(0,AObj.row 72 20 (l.map Job.cells))]) 0 (wkA [0]) ⟨trivial,by exact omA⟩ ?_;have hR0:=hR;rintro i ⟨hR,hj⟩;(try dsimp only at hR hj);refine ai (fun h1=>?_) (fun h2=>?_)
 ·have hlt:=ltA h1;have hxz:(l.getD i Job.zero).sz:=Q74 (by first|assumption|grind) (Job.szz _);have hkz:=hxz;obtain ⟨z3,z4,z5,z6,z7⟩:=Job.zz hxz;refine ai gkA ?_;refine ⟨_,QN0 rfl rfl rfl (Qb1 Job.zero i (by first|rfl|exact Nat.zero_add _|omega) ckA) rfl,?_⟩;refine us (QMb ((l.getD i Job.zero).shape.alts) szA _) ?_;refine ai gkA ?_;refine ⟨_,QH2 rfl rfl rfl rfl (Qb1 Job.zero i (by first|rfl|exact Nat.zero_add _|omega) ckA) rfl rfl (QA5 Job.zero i (by first|rfl|exact Nat.zero_add _|omega) ckA rfl),?_⟩;refine ai gkA ?_;refine ⟨_,QN0 rfl rfl rfl (Qb1 Job.zero i (by first|rfl|exact Nat.zero_add _|omega) ckA) rfl,?_⟩;refine us (QNb ((l.getD i Job.zero).after) szA _) ?_;refine ai gkA ?_;refine ⟨_,QH2 rfl rfl rfl rfl (Qb1 Job.zero i (by first|rfl|exact Nat.zero_add _|omega) ckA) rfl rfl (QA5 Job.zero i (by first|rfl|exact Nat.zero_add _|omega) ckA rfl),?_⟩;exact Qy0 (i+1) (wkA [0]) omA ⟨hR,by exact omA⟩
 ·skip;have hR:=hR0;obtain rfl:=foll hR rfl;exact rq (ttA [0])
def QN6 (p_:List Step):List Step->Nat->Int
 | [],_=>0
 | x_ :: r,i=>bif (((!(Qt7 x_.free))||(decide (x_.at_ > 1000000)))||((decide ((i:Int) > 0))&&((decide (x_.at_<=(p_.getD (Int.toNat (w64 ((i:Int) - 1))) Step.zero).at_))||(x_.free==(p_.getD (Int.toNat (w64 ((i:Int) - 1))) Step.zero).free)))) then 100 else QN6 p_ r (i+1)
def Qy2 (p_:List Step):Int:=bif ((((p_.length:Int)==0)||(decide ((p_.length:Int) > 1000)))||((p_.getD 0 Step.zero).at_ != 0)) then 100 else QN6 p_ p_ 0
theorem QK5 (p_:List Step) (hs0:p_.length<=4294967296):GV 87 [stepL p_] (I (Qy2 p_)):=by
 generalize hR:Qy2 p_=R;refine gA (kp 5 [19,20,21,22,23,61]) Tryz.func87 ?_;have hk0:=hs0;obtain z7:p_.length<=4294967296:=hs0;refine ai gkA ?_;refine ai (fun h1=>?_) (fun h2=>?_)
 ·obtain rfl:=foll hR (ct h1 rfl);exact Q90 lx sr
 ·refine Qv0 (fun (i:Nat)=>QN6 p_ (List.drop i p_) i=R∧i<=p_.length) (fun i=>p_.length - i) (fun i=>[(0,stepL p_),(2,I 0),(20,stepL p_),(21,I (p_.length:Int)),(22,I (i:Int))]) (fun i=>[]) 0 (wkA []) ⟨foll hR (cf h2 rfl),by exact omA⟩ ?_;clear hR;rintro i ⟨hR,hj⟩;(try dsimp only at hR hj);refine ai (fun h3=>?_) (fun h4=>?_)
  ·have hlt:=ltA h3;rw [Qr0 Step.zero hlt] at hR;refine ai gkA ?_;refine dchk (by kernel_rfl) ?_;(first|apply u2|apply u3|apply u4|apply us);exact QH7 ((p_.getD i Step.zero).free) _;refine ai gkA ?_;refine ai gkA ?_;(repeat ((first|refine ai rfl ?_|refine ai (fun _=>rfl) ?_|refine ai (fun _=>QH7 ((p_.getD i Step.zero).free) _) ?_)));refine ai (fun h5=>?_) (fun h6=>?_)
   ·exact lfA
   ·exact Qy0 (i+1) (wkA []) omA ⟨folA,by exact omA⟩
  ·rw [Qs0 (l:=p_) (j:=i) (geA h4)] at hR;exact lfA
theorem QZ5 {p:List Step} (h:(Qy2 p != 0)=false):1<=p.length∧p.length<=1000∧(p.getD 0 Step.zero).at_=0:=by
 simp only [Qy2] at h
 revert h
 cases h2:((((p.length:Int)==0)||(decide ((p.length:Int) > 1000)))||((p.getD 0 Step.zero).at_ != 0)) with
 | true=>simp
 | false=>intro _;simp at h2;refine ⟨?_,by omega,h2.2⟩;have:=List.length_pos_iff.2 h2.1.1;omega
def Qa0 (p_:List Step) (t:Int):Int:=(w64 ((QG1 (p_.length:Int) (fun (y:Int)=>(decide ((p_.getD (Int.toNat y) Step.zero).at_ > t)))) - 1))
theorem Qj9 (p_:List Step) (t:Int) (hs0:p_.length<=4294967296):GV 133 [stepL p_,I t] (I (Qa0 p_ t)):=by
 generalize hR:Qa0 p_ t=R;refine gA (kp 5 []) Tryz.func133 ?_;have hk0:=hs0;obtain z5:p_.length<=4294967296:=hs0;have cl1:∀ (y1:Int) (hcl:0<=y1∧y1<(p_.length:Int)),AMoves Tryz.prog 203 [I y1,AVal.ptr 0 0 1 0 0,AVal.ptr 1 0 1 0 0] [(0,AObj.row 82 1 [[stepL p_]]),(0,AObj.row 3 1 [[I t]])] 2 (Bo ((fun (y:Int)=>(decide ((p_.getD (Int.toNat y) Step.zero).at_ > t))) y1)) [(0,AObj.row 82 1 [[stepL p_]]),(0,AObj.row 3 1 [[I t]])]:=by
  intro y1 hcl;have hR:(fun (y:Int)=>(decide ((p_.getD (Int.toNat y) Step.zero).at_ > t))) y1=(fun (y:Int)=>(decide ((p_.getD (Int.toNat y) Step.zero).at_ > t))) y1:=rfl;refine mo (kp 5 []) Tryz.func203 ?_;refine dchk (by kernel_rfl) ?_;refine ai gkA ?_;(repeat ((first|refine ai rfl ?_|refine ai (fun _=>rfl) ?_)));refine Qi0 (fun r:Bool=>Bo r) (fun _=>[(0,AObj.row 82 1 [[stepL p_]]),(0,AObj.row 3 1 [[I t]])]) (leaf:=(decide ((p_.getD (Int.toNat y1) Step.zero).at_ > t))) (foll hR rfl) ?_;exact tt [0,1] (tO rfl (ts (lv lw LowL.nil)) (tO rfl (ts (l1 LowL.nil)) .nil)) t1
 have hof1:AMoves Tryz.prog 202 [I (p_.length:Int),AVal.fn (.func 203) [] [AVal.ptr 0 0 1 0 0,AVal.ptr 1 0 1 0 0]] [(0,AObj.row 82 1 [[stepL p_]]),(0,AObj.row 3 1 [[I t]])] 2 (I (QG1 (p_.length:Int) (fun (y:Int)=>(decide ((p_.getD (Int.toNat y) Step.zero).at_ > t))))) [(0,AObj.row 82 1 [[stepL p_]]),(0,AObj.row 3 1 [[I t]])]:=by
  have hR:QG1 (p_.length:Int) (fun (y:Int)=>(decide ((p_.getD (Int.toNat y) Step.zero).at_ > t)))=QG1 (p_.length:Int) (fun (y:Int)=>(decide ((p_.getD (Int.toNat y) Step.zero).at_ > t))):=rfl;refine mo (kp 8 [11,21]) Tryz.func202 ?_;refine QF0 (fun (i:Int) (j:Int)=>∃ m,(Int.toNat (j - i))<m∧Q24 (Q51 (fun (y:Int)=>(decide ((p_.getD (Int.toNat y) Step.zero).at_ > t))) m i j).1 (Q51 (fun (y:Int)=>(decide ((p_.getD (Int.toNat y) Step.zero).at_ > t))) m i j).2=QG1 (p_.length:Int) (fun (y:Int)=>(decide ((p_.getD (Int.toNat y) Step.zero).at_ > t)))∧0<=i∧i<=j∧j<=(p_.length:Int)) (fun i j=>(Int.toNat (j - i))) (fun i j=>[(1,AVal.fn (.func 203) [] [AVal.ptr 0 0 1 0 0,AVal.ptr 1 0 1 0 0]),(4,I 0),(5,I i),(6,I j)]) (fun i j=>[(0,AObj.row 82 1 [[stepL p_]]),(0,AObj.row 3 1 [[I t]])]) 0 (p_.length:Int) (wkA [0,1]) ⟨_,Nat.lt_succ_self _,foll hR rfl,by exact exA⟩ ?_;clear hR;rintro i j ⟨m,hm,hR,hx⟩;(try dsimp only at hR hm hx);obtain ⟨m,rfl⟩:=sucA m;refine ai (fun h1=>?_) (fun h2=>?_)
  ·have qh1:=of_decide_eq_true h1;(have hq0:i<j:=qh1;have hh:w64 (Int.fdiv (wu64 (w64 (i+j))) (2 ^ (min (Int.toNat 1) 64)))=(i+j) / 2:=Qb9 hx.1 hq0 hx.2.2 (by omega);have hh3:w64 (w64 (Int.fdiv (wu64 (w64 (i+j))) (2 ^ (min (Int.toNat 1) 64)))+1)=(i+j) / 2+1:=by rw [hh];exact wr (by omega));refine ai gkA ?_;refine us (mv [0,1] (cl1 (w64 (Int.fdiv (wu64 (w64 (i+j))) (2 ^ (min (Int.toNat 1) 64)))) ckA) (dO (ds (lv lw LowL.nil)) (dO (ds (l1 LowL.nil)) .nil)) (d1 (dp (dp .nil))) (rO (re (lv lw LowL.nil)) (rO (re (l1 LowL.nil)) .nil)) rx) ?_;refine ai (fun h3=>?_) (fun h4=>?_)
   ·exact Qh0 (w64 ((w64 (Int.fdiv (wu64 (w64 (i+j))) (2 ^ (min (Int.toNat 1) 64))))+1)) j (wkA [0,1]) (by first|(dsimp only;rw [hh3];omega)|first|(dsimp only;rw [hh];omega)|exact omA) ⟨m,by first|(dsimp only;rw [hh3];omega)|first|(dsimp only;rw [hh];omega)|exact omA,foll hR (congrArg (fun p:Int × Int=>Q24 p.1 p.2) (ct h1 (ct h3 rfl))),by exact exA⟩
   ·exact Qh0 i (w64 (Int.fdiv (wu64 (w64 (i+j))) (2 ^ (min (Int.toNat 1) 64)))) (wkA [0,1]) (by first|(dsimp only;rw [hh3];omega)|first|(dsimp only;rw [hh];omega)|exact omA) ⟨m,by first|(dsimp only;rw [hh3];omega)|first|(dsimp only;rw [hh];omega)|exact omA,foll hR (congrArg (fun p:Int × Int=>Q24 p.1 p.2) (ct h1 (cf h4 rfl))),by exact exA⟩
  ·have qh2:=of_decide_eq_false h2;replace hR:Q24 i j=QG1 (p_.length:Int) (fun (y:Int)=>(decide ((p_.getD (Int.toNat y) Step.zero).at_ > t))):=fo2 (fun p:Int × Int=>Q24 p.1 p.2) (i,j) hR (cf h2 rfl);refine Qi0 (fun r:Int=>I r) (fun r:Int=>[(0,AObj.row 82 1 [[stepL p_]]),(0,AObj.row 3 1 [[I t]])]) (leaf:=i) (foll hR rfl) ?_;exact tt [0,1] (tO rfl (ts (lv lw LowL.nil)) (tO rfl (ts (l1 LowL.nil)) .nil)) t1
 refine us (mv [0,1] (hof1) (dO (ds (lv lw LowL.nil)) (dO (ds (l1 LowL.nil)) .nil)) (d1 (dv (dn_fn .nil (dp (dp .nil))) .nil)) (rO (re (lv lw LowL.nil)) (rO (re (l1 LowL.nil)) .nil)) rx) ?_;exact lfA
theorem QR8 {p:List Step} {t:Int} (h1:1<=p.length) (h2:p.length<=1000) (h3:(p.getD 0 Step.zero).at_=0) (ht:0<=t):0<=Qa0 p t∧Qa0 p t<p.length:=by
 obtain ⟨a,b,c,d⟩:=Qkd (fun (y:Int)=>(decide ((p.getD (Int.toNat y) Step.zero).at_ > t))) (N:=p.length) (by omega)
 have h4:1<=QG1 (p.length:Int) (fun (y:Int)=>(decide ((p.getD (Int.toNat y) Step.zero).at_ > t))):=by
  rcases Int.lt_or_le 0 (QG1 (p.length:Int) (fun (y:Int)=>(decide ((p.getD (Int.toNat y) Step.zero).at_ > t)))) with h|h
  ·omega
  ·have e:QG1 (p.length:Int) (fun (y:Int)=>(decide ((p.getD (Int.toNat y) Step.zero).at_ > t)))=0:=by omega
   have:=d (by omega)
   rw [e] at this
   have:=of_decide_eq_true this
   simp only [Int.toNat_zero] at this
   omega
 have e:Qa0 p t=QG1 (p.length:Int) (fun (y:Int)=>(decide ((p.getD (Int.toNat y) Step.zero).at_ > t))) - 1:=wr (by omega)
 rw [e]
 omega
def fit_asks (long:Int) (nodes:Int):Bool:=((QY7 nodes 1 1000000)&&(QY7 long 1 1000000))
theorem fit_asks_c (long:Int) (nodes:Int):GV 88 [I long,I nodes] (Bo (fit_asks long nodes)):=by
 generalize hR:fit_asks long nodes=R;refine gA (kp 5 []) Tryz.func88 ?_;refine us (Q29 nodes 1 1000000 _) ?_;(first|apply u2|apply u3|apply u4|apply us);exact Q29 long 1 1000000 _;exact lfA
def job_copied (j:Job):Job:=j
theorem job_copied_c (j:Job) (hs0:j.sz):GV 262 [Job.a j] (Job.a j):=by
 generalize hR:job_copied j=R;refine gA (kp 3 []) Tryz.func262 ?_;obtain ⟨z1,z2,z3,z4,z5⟩:=Job.zz hs0;refine us (QFb j.shape.alts szA _) ?_;refine us (QHb j.after szA _) ?_;exact lfA
def QM7 :List Node->Nat->Int
 | [],_=>0
 | x_ :: r,i=>bif (!(QA4 x_)) then 120 else QM7 r (i+1)
def QA8 (l:List Node):Int:=bif (((l.length:Int)==0)||(decide ((l.length:Int) > 48))) then 120 else QM7 l 0
def QY3 (x_:Alt):List Alt->Nat->Sum (Int) (Nat)
 | [],k=>Sum.inr k
 | x_1 :: r,k=>bif (x_.nodes==x_1.nodes) then Sum.inl 70 else QY3 x_ r (k+1)
def Qt1 (s:Shape):List Alt->Nat->Int
 | [],_=>0
 | x_ :: r,i=>bif ((!(QJ1 x_.nodes))||(!(QZ2 x_.wall))) then 70 else (Sum.elim id (fun p1:Nat=>Qt1 s r (i+1))) (QY3 x_ (List.drop (i+1) s.alts) (i+1))
def QJ4 (s:Shape) (most:Int):Int:=bif (((((decide ((s.alts.length:Int)<1))||(decide ((s.alts.length:Int) > most)))||(s.min != 0))||(s.max != 0))||(s.wall != 0)) then 70 else Qt1 s s.alts 0
def QT1 (s:Shape):Int:=bif (s.kind==3) then bif (((((decide ((s.alts.length:Int) > 0))||(!(QJ1 s.min)))||(!(QJ1 s.max)))||(decide (s.max<s.min)))||(!(QZ2 s.wall))) then 70 else 0 else bif (s.kind==2) then QJ4 s 6 else bif (s.kind != 1) then 70 else QJ4 s 1
theorem Qwe {s:Shape} (h:(QT1 s != 0)=false) (hk:(s.kind != 3)=false):1<=s.min∧s.min<=s.max∧s.max<=48∧w64 (s.max - s.min)=s.max - s.min:=by
 have hk':s.kind=3:=by simpa using hk
 have h1:QJ1 s.min=true∧QJ1 s.max=true ∧ ¬ s.max<s.min:=by
  simp only [QT1,hk',beq_self_eq_true,cond_true] at h
  revert h
  cases h2:(((((decide ((s.alts.length:Int) > 0))||(!(QJ1 s.min)))||(!(QJ1 s.max)))||(decide (s.max<s.min)))||(!(QZ2 s.wall))) with
  | true=>simp
  | false=>intro _;simp at h2;exact ⟨h2.1.1.1.2,h2.1.1.2,by omega⟩
 obtain ⟨a,b,c⟩:=h1
 simp [QJ1] at a b
 exact ⟨by omega,by omega,by omega,wr (by omega)⟩
def Q16 (a:Shape) (b:Shape):Bool:=(((((a.kind==b.kind)&&(a.min==b.min))&&(a.max==b.max))&&(a.wall==b.wall))&&(Qh6 a.alts b.alts))
theorem ref07_Same_c (a:Shape) (b:Shape) (hs0:a.sz) (hs1:b.sz):GV 174 [Shape.a a,Shape.a b] (Bo (Q16 a b)):=by
 generalize hR:Q16 a b=R;refine gA (kp 5 []) Tryz.func174 ?_;have hk0:=hs0;obtain z1:a.alts.length<=4294967296:=hs0;have hk1:=hs1;obtain z2:b.alts.length<=4294967296:=hs1;(first|apply u2|apply u3|apply u4|apply us);exact Qcd a.alts b.alts szA szA _;exact lfA
def Qf6 :List (Nat × Int)->Nat->Int × Int
 | [],n=>((n:Int),0)
 | x_ :: r,n=>bif ((Qm0 x_.2)==0) then ((n:Int),40) else Qf6 r (n+1)
def Qj4 (s:ByteArray):Int × Int:=Qf6 (Qo6 s) 0
def Qv7 (l:List Int) (at_:Int):Nat->Int->Int
 | 0,_=>0
 | m+1,i=>bif (decide (i<(l.length:Int))) then bif ((((((Qm0 (l.getD (Int.toNat at_) 0))==2)&&((Qm0 (l.getD (Int.toNat i) 0))!=2))&&((Qm0 (l.getD (Int.toNat i) 0))!=3))&&((l.getD (Int.toNat i) 0)!=45))&&((l.getD (Int.toNat i) 0)!=95)) then i else bif (((Qm0 (l.getD (Int.toNat at_) 0))==3)&&(!(ref05_small (l.getD (Int.toNat i) 0)))) then i else Qv7 l at_ m (w64 (i+1)) else i
def QI4 (l:List Int) (at_:Int):Int:=Qv7 l at_ ((Int.toNat ((l.length:Int) - (w64 (at_+1))))+1) (w64 (at_+1))
def QZ3 (l:List Dep) (i:Nat) (x_:Dep):Nat->Nat->Sum (Bool) (Nat)
 | 0,_=>Sum.inr 0
 | m+1,k=>bif (decide ((k:Int)<(i:Int))) then bif ((l.getD k Dep.zero).job==x_.job) then Sum.inl false else QZ3 l i x_ m (k+1) else Sum.inr k
def QK4 (l:List Dep):List Dep->Nat->Bool
 | [],_=>true
 | x_ :: r,i=>bif ((!(Q72 x_.how 1 3))||(!(Q72 x_.job 1 99999))) then false else (Sum.elim id (fun p1:Nat=>QK4 l r (i+1))) (QZ3 l i x_ ((Int.toNat ((i:Int) - (0:Int)))+1) 0)
def Qz8 (l:List Dep):Bool:=bif (decide ((l.length:Int) > 4)) then false else QK4 l l 0
def Ql6 (l:List Usage):List Usage->Nat->Int
 | [],_=>0
 | x_ :: r,i=>bif ((((((((i:Int)==200)||(!(Qv3 x_.user)))||(!(Qv3 x_.account)))||(decide (x_.used<0)))||(decide (x_.used > 1000000000000)))||(decide (x_.share<0)))||(decide (x_.share > x_.used))) then 2 else bif ((decide ((i:Int) > 0))&&(!(QB8 (l.getD (Int.toNat (w64 ((i:Int) - 1))) Usage.zero) x_))) then 2 else Ql6 l r (i+1)
def Qua (l:List Usage):Int:=Ql6 l l 0
def QV0 (s:State) (id_:Int):Job × Bool:=bif ((decide ((Qwb s.jobs id_)<0))||((s.jobs.getD (Int.toNat (Qwb s.jobs id_)) Job.zero).state != 2)) then (Job.zero,false) else ((s.jobs.getD (Int.toNat (Qwb s.jobs id_)) Job.zero),true)
def Qxe (s:Int) (n:Int):Bool:=bif ((decide (n<0))||(decide (n > 63))) then false else ((Int.tmod (wu64 (Int.tdiv s (Qye n))) 2)==1)
def Qu6 :List Job->Nat->Bool
 | [],_=>true
 | x_ :: r,i=>bif (!(Q48 x_)) then false else Qu6 r (i+1)
def Qeb (l:List Job):Bool:=bif (decide ((l.length:Int) > 60)) then false else Qu6 l 0
theorem law15_Few_c (l:List Job) (hs0:l.length<=9223372036854775807∧(∀ y ∈ l,y.szM)):GV 26 [jobL l] (Bo (Qeb l)):=by
 generalize hR:Qeb l=R;refine gA (kp 4 [6,10,18]) Tryz.func26 ?_;obtain ⟨z12,z13⟩:=id hs0;refine ai (fun h1=>?_) (fun h2=>?_)
 ·have qh1:=of_decide_eq_true h1;exact lfA
 ·have qh2:=of_decide_eq_false h2;refine Qv0 (fun (i:Nat)=>Qu6 (List.drop i l) i=R∧i<=l.length) (fun i=>l.length - i) (fun i=>[(0,jobL l),(2,Bo false),(3,I (i:Int))]) (fun i=>[]) 0 (wkA []) ⟨folA,by exact omA⟩ ?_;clear hR;rintro i ⟨hR,hj⟩;(try dsimp only at hR hj);refine ai (fun h3=>?_) (fun h4=>?_)
  ·have hlt:=ltA h3;rw [Qr0 Job.zero hlt] at hR;have hxz:(l.getD i Job.zero).szM:=Q74 (by first|assumption|grind) (Job.szz _);have hkz:=hxz;obtain ⟨z5,z6,z7,z8,z9⟩:((l.getD i Job.zero).name).size<=9223372036854775807∧((l.getD i Job.zero).user).size<=9223372036854775807∧((l.getD i Job.zero).account).size<=9223372036854775807∧((((l.getD i Job.zero).shape).alts).length<=9223372036854775807)∧((l.getD i Job.zero).after).length<=9223372036854775807:=hxz;refine ai gkA ?_;refine us (law14_Few_c (l.getD i Job.zero) _) ?_;refine ai (fun h10=>?_) (fun h11=>?_)
   ·exact lfA
   ·exact Qy0 (i+1) (wkA []) omA ⟨folA,by exact omA⟩
  ·rw [Qs0 (l:=l) (j:=i) (geA h4)] at hR;exact lfA
def QO0 (x_:Node):Bool:=bif ((((decide (x_.epoch<0))||(decide (x_.epoch > 999999999)))||(!(QX2 x_.since)))||(!(QX2 x_.asked))) then false else bif (x_.state==0) then ((x_.job==0)&&(Qo1 ([0]:List Int) x_.want)) else bif (x_.state==1) then (((decide (x_.job >= 1))&&(decide (x_.job<=99999)))&&(Qo1 ([0,1,3,4]:List Int) x_.want)) else bif (x_.state==2) then (((decide (x_.job >= 1))&&(decide (x_.job<=99999)))&&(Qo1 ([0,2]:List Int) x_.want)) else bif (x_.state==3) then (((decide (x_.job >= 1))&&(decide (x_.job<=99999)))&&(Qo1 ([5]:List Int) x_.want)) else bif (x_.state==4) then ((x_.job==0)&&(Qo1 ([0,6]:List Int) x_.want)) else false
theorem fleet_fine_c (x_:Node):GV 152 [Node.a x_] (Bo (QO0 x_)):=by
 generalize hR:QO0 x_=R;refine gA (kp 5 [24,35,36,41,44,47,50]) Tryz.func152 ?_;(first|apply u2|apply u3|apply u4|apply us);exact Q69 x_.since _;(first|apply u2|apply u3|apply u4|apply us);exact Q69 x_.asked _;refine ai (fun h1=>?_) (fun h2=>?_)
 ·exact lfA
 ·refine Or.inl ?_;refine ai (fun h3=>?_) (fun h4=>?_)
  ·(first|apply u2|apply u3|apply u4|apply us);exact AGives.as2 (Q02 ([0]:List Int) x_.want szA _) (av (QN2 (c:=(fun q_=>[I q_])) (d:=0) ([0]:List Int) rfl) (a1 .nil));exact lfA
  ·refine ai (fun h5=>?_) (fun h6=>?_)
   ·refine Or.inl ?_;(first|apply u2|apply u3|apply u4|apply us);exact AGives.as2 (Q02 ([0,1,3,4]:List Int) x_.want szA _) (av (QN2 (c:=(fun q_=>[I q_])) (d:=0) ([0,1,3,4]:List Int) rfl) (a1 .nil));exact lfA
   ·refine ai (fun h7=>?_) (fun h8=>?_)
    ·refine Or.inl ?_;(first|apply u2|apply u3|apply u4|apply us);exact AGives.as2 (Q02 ([0,2]:List Int) x_.want szA _) (av (QN2 (c:=(fun q_=>[I q_])) (d:=0) ([0,2]:List Int) rfl) (a1 .nil));exact lfA
    ·refine ai (fun h9=>?_) (fun h10=>?_)
     ·refine Or.inl ?_;(first|apply u2|apply u3|apply u4|apply us);exact AGives.as2 (Q02 ([5]:List Int) x_.want szA _) (av (QN2 (c:=(fun q_=>[I q_])) (d:=0) ([5]:List Int) rfl) (a1 .nil));exact lfA
     ·refine ai (fun h11=>?_) (fun h12=>?_)
      ·refine Or.inl ?_;(first|apply u2|apply u3|apply u4|apply us);exact AGives.as2 (Q02 ([0,6]:List Int) x_.want szA _) (av (QN2 (c:=(fun q_=>[I q_])) (d:=0) ([0,6]:List Int) rfl) (a1 .nil));exact lfA
      ·exact lfA
def QS4 (l:List Alt):List Alt->Nat->Bool
 | [],_=>true
 | x_ :: r,i=>bif (QR0 (List.take i l) (fun (y:Alt)=>(x_.nodes==y.nodes))) then false else QS4 l r (i+1)
def Qn4 (l:List Alt):Bool:=QS4 l l 0
theorem shape_apart_c (l:List Alt) (hs0:l.length<=4294967296):GV 240 [altL l] (Bo (Qn4 l)):=by
 generalize hR:Qn4 l=R;refine gA (kp 5 [5,6,7,8,16]) Tryz.func240 ?_;have hk0:=hs0;obtain z9:l.length<=4294967296:=hs0;refine Qv0 (fun (i:Nat)=>QS4 l (List.drop i l) i=R∧i<=l.length) (fun i=>l.length - i) (fun i=>[(0,altL l),(2,Bo false),(5,altL l),(6,I (l.length:Int)),(7,I (i:Int))]) (fun i=>[]) 0 (wkA []) ⟨foll hR rfl,by exact omA⟩ ?_;clear hR;rintro i ⟨hR,hj⟩;(try dsimp only at hR hj);refine ai (fun h1=>?_) (fun h2=>?_)
 ·have hlt:=ltA h1;rw [Qr0 Alt.zero hlt] at hR;refine ai gkA ?_;refine ai gkA ?_;have cl1:∀ (y1:Alt),AMoves Tryz.prog 272 [Alt.a y1,AVal.ptr 0 0 2 0 0] [(0,AObj.row 178 2 [[I (l.getD i Alt.zero).nodes,I (l.getD i Alt.zero).wall]])] 1 (Bo ((fun (y:Alt)=>((l.getD i Alt.zero).nodes==y.nodes)) y1)) [(0,AObj.row 178 2 [[I (l.getD i Alt.zero).nodes,I (l.getD i Alt.zero).wall]])]:=by
   intro y1;have hR:(fun (y:Alt)=>((l.getD i Alt.zero).nodes==y.nodes)) y1=(fun (y:Alt)=>((l.getD i Alt.zero).nodes==y.nodes)) y1:=rfl;refine mo (kp 4 []) Tryz.func272 ?_;refine Qi0 (fun r:Bool=>Bo r) (fun _=>[(0,AObj.row 178 2 [[I (l.getD i Alt.zero).nodes,I (l.getD i Alt.zero).wall]])]) (leaf:=((l.getD i Alt.zero).nodes==y1.nodes)) (foll hR rfl) ?_;exact tt [0] (tO rfl (ts Alt.lo) .nil) t1
  have hof1:AMoves Tryz.prog 241 [altL (List.take i l),AVal.fn (.func 272) [] [AVal.ptr 0 0 2 0 0]] [(0,AObj.row 178 2 [[I (l.getD i Alt.zero).nodes,I (l.getD i Alt.zero).wall]])] 1 (Bo (QR0 (List.take i l) (fun (y:Alt)=>((l.getD i Alt.zero).nodes==y.nodes)))) [(0,AObj.row 178 2 [[I (l.getD i Alt.zero).nodes,I (l.getD i Alt.zero).wall]])]:=by
   have hR:QR0 (List.take i l) (fun (y:Alt)=>((l.getD i Alt.zero).nodes==y.nodes))=QR0 (List.take i l) (fun (y:Alt)=>((l.getD i Alt.zero).nodes==y.nodes)):=rfl;refine mo (kp 5 []) Tryz.func241 ?_;have hof2:AMoves Tryz.prog 273 [altL (List.take i l),AVal.fn (.func 272) [] [AVal.ptr 0 0 2 0 0]] [(0,AObj.row 178 2 [[I (l.getD i Alt.zero).nodes,I (l.getD i Alt.zero).wall]])] 1 (I (Q01 (List.take i l) (fun (y:Alt)=>((l.getD i Alt.zero).nodes==y.nodes)))) [(0,AObj.row 178 2 [[I (l.getD i Alt.zero).nodes,I (l.getD i Alt.zero).wall]])]:=by
    have hR:Q01 (List.take i l) (fun (y:Alt)=>((l.getD i Alt.zero).nodes==y.nodes))=Q01 (List.take i l) (fun (y:Alt)=>((l.getD i Alt.zero).nodes==y.nodes)):=rfl;refine mo (kp 6 [7,8,9,16]) Tryz.func273 ?_;refine Qv0 (fun (i1:Nat)=>QC2 (fun (y:Alt)=>((l.getD i Alt.zero).nodes==y.nodes)) (List.drop i1 (List.take i l)) i1=Q01 (List.take i l) (fun (y:Alt)=>((l.getD i Alt.zero).nodes==y.nodes))∧i1<=(List.take i l).length) (fun i1=>(List.take i l).length - i1) (fun i1=>[(0,altL (List.take i l)),(1,AVal.fn (.func 272) [] [AVal.ptr 0 0 2 0 0]),(4,I 0),(7,I ((List.take i l).length:Int)),(8,I (i1:Int))]) (fun i1=>[(0,AObj.row 178 2 [[I (l.getD i Alt.zero).nodes,I (l.getD i Alt.zero).wall]])]) 0 (wkA [0]) ⟨foll hR rfl,by exact omA⟩ ?_;clear hR;rintro i1 ⟨hR,hj⟩;(try dsimp only at hR hj);refine ai (fun h3=>?_) (fun h4=>?_)
    ·have hlt:=ltA h3;rw [Qr0 Alt.zero hlt] at hR;refine ai gkA ?_;refine us (mv [0] (cl1 ((List.take i l).getD i1 Alt.zero)) (dO (ds Alt.lo) .nil) (dl (Alt.low _ _) (dp .nil)) (rO (re Alt.lo) .nil) rx) ?_;refine ai (fun h5=>?_) (fun h6=>?_)
     ·refine Qi0 (fun r:Int=>I r) (fun r:Int=>[(0,AObj.row 178 2 [[I (l.getD i Alt.zero).nodes,I (l.getD i Alt.zero).wall]])]) (leaf:=(i1:Int)) (foll hR (ct h5 rfl)) ?_;exact tt [0] (tO rfl (ts Alt.lo) .nil) t1
     ·exact Qy0 (i1+1) (wkA [0]) omA ⟨folA,by exact omA⟩
    ·rw [Qs0 (l:=(List.take i l)) (j:=i1) (geA h4)] at hR;refine Qi0 (fun r:Int=>I r) (fun r:Int=>[(0,AObj.row 178 2 [[I (l.getD i Alt.zero).nodes,I (l.getD i Alt.zero).wall]])]) (leaf:=(-1)) (foll hR rfl) ?_;exact tt [0] (tO rfl (ts Alt.lo) .nil) t1
   refine us (mv [0] (hof2) (dO (ds Alt.lo) .nil) (dl lw (dv (dn_fn .nil (dp .nil)) .nil)) (rO (re Alt.lo) .nil) rx) ?_;refine Qi0 (fun r:Bool=>Bo r) (fun r:Bool=>[(0,AObj.row 178 2 [[I (l.getD i Alt.zero).nodes,I (l.getD i Alt.zero).wall]])]) (leaf:=(decide ((Q01 (List.take i l) (fun (y:Alt)=>((l.getD i Alt.zero).nodes==y.nodes))) >= 0))) (foll hR rfl) ?_;exact tt [0] (tO rfl (ts Alt.lo) .nil) t1
  refine us (mv [0] (hof1) (dO (ds Alt.lo) .nil) (dv (dn_as (as_take l i ckA) lw) (dv (dn_fn .nil (dp .nil)) .nil)) (rO (re Alt.lo) .nil) rx) ?_;refine ai (fun h7=>?_) (fun h8=>?_)
  ·exact lfA
  ·exact Qy0 (i+1) (wkA []) omA ⟨folA,by exact omA⟩
 ·rw [Qs0 (l:=l) (j:=i) (geA h2)] at hR;exact lfA
def Qs4 (s:ByteArray):Bool:=(((QE3 s).2==0)&&(Qf2 ((QE3 s).1) 1 16))
theorem Q1c (s:ByteArray) (hs0:s.size<=4294967296):GV 266 [Sg s] (Bo (Qs4 s)):=by
 generalize hR:Qs4 s=R;refine gA (kp 5 []) Tryz.func266 ?_;have hk0:=hs0;obtain z1:s.size<=4294967296:=hs0;refine us (Qzb s szA _) ?_;(first|apply u2|apply u3|apply u4|apply us);exact QG2 ((QE3 s).1) 1 16 _;exact lfA
def QT5 (s:ByteArray):Int × Bool:=bif (((!(Q27 s))||(decide ((ByteArray.size s:Int) > 9)))||((decide ((ByteArray.size s:Int) > 1))&&(((s.data.toList.getD 0 0).toNat:Int)==48))) then (0,false) else ((Qv9 s).1,true)
theorem lex_number_c (s:ByteArray) (hs0:s.size<=4294967296):GV 334 [Sg s] (AVal.tup [I ((QT5 s).1),Bo ((QT5 s).2)]):=by
 generalize hR:QT5 s=R;refine gA (kp 6 [23]) Tryz.func334 ?_;have hk0:=hs0;obtain z3:s.size<=4294967296:=hs0;refine us (QFc s szA _) ?_;refine ai gkA ?_;refine ai (fun h1=>?_) (fun h2=>?_)
 ·obtain rfl:=foll hR (ct h1 rfl);exact Q90 (Low.tup' (l1 (l1 .nil))) (Seen.tup (e1 (e1 .nil)))
 ·refine us (strconv_Atoi_c s szA (by exact lex_digits_ok (by assumption)) _) ?_;refine dchk (by kernel_rfl) ?_;(repeat ((first|refine ai rfl ?_|refine ai (fun _=>rfl) ?_)));obtain rfl:=foll hR (cf h2 rfl);exact Q90 (Low.tup' (l1 (l1 .nil))) (Seen.tup (e1 (e1 .nil)))
theorem QEd (l:List Int) (r_:Int) (hl:l.length<=4294967296):AMoves Tryz.prog 323 [.ptr 0 0 2 0 0,J r_] [(0,.row 339 2 [[.sel 0 0 2 0 0,.own 1 0 1 0 l.length]]),(0,Qr4 l)] 1 (.tup [I (w64 (((QJ0 l r_).length:Int) - (l.length:Int))),.lit .nilIface]) [(0,.row 339 2 [[.ptr 0 0 2 0 0,.own 1 0 1 0 (QJ0 l r_).length]]),(0,Qr4 (QJ0 l r_))]:=by
 refine AMoves.of_cwp (fun t=>Nat.ble 1000000 t||Nat.blt t 7) Tryz.func323 rfl rfl rfl ?_
 refine us (AMoves.on [0,1] (copyCheck_m bldT0 (x:=.own 1 0 1 0 l.length) (rest:=[(0,Qr4 l)]) (n0:=2) (by simp)) (by decide) rfl rfl rfl (.cons _ _ _ _ (.row1 _ _ _ _ (.cons _ _ _ _ (dn_sel rfl) (.cons _ _ _ _ (dn_own rfl) .nil))) (.cons _ _ _ _ (.same _ (QD7 fun _=>lowL1 rfl)) .nil)) rfl (.cons _ _ _ _ (dn_ptr rfl) .nil) (.cons _ _ _ _ (RenO.row1 _ _ _ _ (.cons _ _ _ _ (Ren.ptr _ _ _ _ _ _ rfl) (.cons _ _ _ _ (Ren.own _ _ _ _ _ _ rfl) .nil))) (.cons _ _ _ _ (RenO.same _ (QD7 fun _=>lowL1 rfl)) .nil)) (Ren.low _ (.tup _ (fun x h=>nomatch h)))) ?_
 refine us (AMoves.on [1] (Qtc l r_ hl) (by decide) rfl rfl rfl (.cons _ _ _ _ (dn_row rfl (QD7 fun _=>lowL1 rfl)) .nil) rfl (.cons _ _ _ _ (Q85 rfl rfl) (.cons _ _ _ _ (QP5 (Qq2 rfl)) .nil)) (.cons _ _ _ _ (RenO.same _ (QD7 fun _=>lowL1 rfl)) .nil) (Ren.own _ _ _ _ _ _ rfl)) ?_
 refine Qi0 (fun _:Unit=>.tup [I (w64 (((QJ0 l r_).length:Int) - (l.length:Int))),.lit .nilIface]) (fun _:Unit=>[(0,.row 339 2 [[.ptr 0 0 2 0 0,.own 1 0 1 0 (QJ0 l r_).length]]),(0,Qr4 (QJ0 l r_))]) (leaf:=()) rfl ?_
 exact Qy3 [0,2] rfl (by decide) (.cons 0 _ _ _ _ rfl (Qo2 (.cons _ _ _ _ (Qc1 0 rfl rfl) (.cons _ _ _ _ (QSb 1 rfl rfl rfl) .nil))) (.cons 2 _ _ _ _ rfl (QTb rfl (QD7 fun _=>lowL1 rfl)) .nil)) (turn_tup (.cons _ _ _ _ (QV2 (Qq2 rfl)) (.cons _ _ _ _ (QV2 (Qq2 rfl)) .nil)))
def Qf4 (l:List Dep):List Dep->Nat->Bool
 | [],_=>(decide ((l.length:Int)<=4))
 | x_ :: r,i=>bif (((!(Qf2 x_.how 1 3))||(!(Qwc x_.job)))||(Qn0 (List.take i l) (fun (y:Dep)=>(y.job==x_.job)))) then false else Qf4 l r (i+1)
def QV6 (l:List Dep):Bool:=Qf4 l l 0
theorem cmd_deps_c (l:List Dep) (hs0:l.length<=4294967296):GV 268 [depL l] (Bo (QV6 l)):=by
 generalize hR:QV6 l=R;refine gA (kp 6 [6,7,8,9,30]) Tryz.func268 ?_;have hk0:=hs0;obtain z9:l.length<=4294967296:=hs0;refine Qv0 (fun (i:Nat)=>Qf4 l (List.drop i l) i=R∧i<=l.length) (fun i=>l.length - i) (fun i=>[(0,depL l),(2,Bo false),(6,depL l),(7,I (l.length:Int)),(8,I (i:Int))]) (fun i=>[]) 0 (wkA []) ⟨foll hR rfl,by exact omA⟩ ?_;clear hR;rintro i ⟨hR,hj⟩;(try dsimp only at hR hj);refine ai (fun h1=>?_) (fun h2=>?_)
 ·have hlt:=ltA h1;rw [Qr0 Dep.zero hlt] at hR;refine ai gkA ?_;refine ai gkA ?_;have cl1:∀ (y1:Dep),AMoves Tryz.prog 295 [Dep.a y1,AVal.ptr 0 0 2 0 0] [(0,AObj.row 191 2 [[I (l.getD i Dep.zero).how,I (l.getD i Dep.zero).job]])] 1 (Bo ((fun (y:Dep)=>(y.job==(l.getD i Dep.zero).job)) y1)) [(0,AObj.row 191 2 [[I (l.getD i Dep.zero).how,I (l.getD i Dep.zero).job]])]:=by
   intro y1;have hR:(fun (y:Dep)=>(y.job==(l.getD i Dep.zero).job)) y1=(fun (y:Dep)=>(y.job==(l.getD i Dep.zero).job)) y1:=rfl;refine mo (kp 4 []) Tryz.func295 ?_;refine Qi0 (fun r:Bool=>Bo r) (fun _=>[(0,AObj.row 191 2 [[I (l.getD i Dep.zero).how,I (l.getD i Dep.zero).job]])]) (leaf:=(y1.job==(l.getD i Dep.zero).job)) (foll hR rfl) ?_;exact tt [0] (tO rfl (ts Dep.lo) .nil) t1
  have hof1:AMoves Tryz.prog 194 [depL (List.take i l),AVal.fn (.func 295) [] [AVal.ptr 0 0 2 0 0]] [(0,AObj.row 191 2 [[I (l.getD i Dep.zero).how,I (l.getD i Dep.zero).job]])] 1 (Bo (Qn0 (List.take i l) (fun (y:Dep)=>(y.job==(l.getD i Dep.zero).job)))) [(0,AObj.row 191 2 [[I (l.getD i Dep.zero).how,I (l.getD i Dep.zero).job]])]:=by
   have hR:Qn0 (List.take i l) (fun (y:Dep)=>(y.job==(l.getD i Dep.zero).job))=Qn0 (List.take i l) (fun (y:Dep)=>(y.job==(l.getD i Dep.zero).job)):=rfl;refine mo (kp 5 []) Tryz.func194 ?_;have hof2:AMoves Tryz.prog 237 [depL (List.take i l),AVal.fn (.func 295) [] [AVal.ptr 0 0 2 0 0]] [(0,AObj.row 191 2 [[I (l.getD i Dep.zero).how,I (l.getD i Dep.zero).job]])] 1 (I (Q11 (List.take i l) (fun (y:Dep)=>(y.job==(l.getD i Dep.zero).job)))) [(0,AObj.row 191 2 [[I (l.getD i Dep.zero).how,I (l.getD i Dep.zero).job]])]:=by
    have hR:Q11 (List.take i l) (fun (y:Dep)=>(y.job==(l.getD i Dep.zero).job))=Q11 (List.take i l) (fun (y:Dep)=>(y.job==(l.getD i Dep.zero).job)):=rfl;refine mo (kp 6 [7,8,9,16]) Tryz.func237 ?_;refine Qv0 (fun (i1:Nat)=>QD2 (fun (y:Dep)=>(y.job==(l.getD i Dep.zero).job)) (List.drop i1 (List.take i l)) i1=Q11 (List.take i l) (fun (y:Dep)=>(y.job==(l.getD i Dep.zero).job))∧i1<=(List.take i l).length) (fun i1=>(List.take i l).length - i1) (fun i1=>[(0,depL (List.take i l)),(1,AVal.fn (.func 295) [] [AVal.ptr 0 0 2 0 0]),(4,I 0),(7,I ((List.take i l).length:Int)),(8,I (i1:Int))]) (fun i1=>[(0,AObj.row 191 2 [[I (l.getD i Dep.zero).how,I (l.getD i Dep.zero).job]])]) 0 (wkA [0]) ⟨foll hR rfl,by exact omA⟩ ?_;clear hR;rintro i1 ⟨hR,hj⟩;(try dsimp only at hR hj);refine ai (fun h3=>?_) (fun h4=>?_)
    ·have hlt:=ltA h3;rw [Qr0 Dep.zero hlt] at hR;refine ai gkA ?_;refine us (mv [0] (cl1 ((List.take i l).getD i1 Dep.zero)) (dO (ds Dep.lo) .nil) (dl (Dep.low _ _) (dp .nil)) (rO (re Dep.lo) .nil) rx) ?_;refine ai (fun h5=>?_) (fun h6=>?_)
     ·refine Qi0 (fun r:Int=>I r) (fun r:Int=>[(0,AObj.row 191 2 [[I (l.getD i Dep.zero).how,I (l.getD i Dep.zero).job]])]) (leaf:=(i1:Int)) (foll hR (ct h5 rfl)) ?_;exact tt [0] (tO rfl (ts Dep.lo) .nil) t1
     ·exact Qy0 (i1+1) (wkA [0]) omA ⟨folA,by exact omA⟩
    ·rw [Qs0 (l:=(List.take i l)) (j:=i1) (geA h4)] at hR;refine Qi0 (fun r:Int=>I r) (fun r:Int=>[(0,AObj.row 191 2 [[I (l.getD i Dep.zero).how,I (l.getD i Dep.zero).job]])]) (leaf:=(-1)) (foll hR rfl) ?_;exact tt [0] (tO rfl (ts Dep.lo) .nil) t1
   refine us (mv [0] (hof2) (dO (ds Dep.lo) .nil) (dl lw (dv (dn_fn .nil (dp .nil)) .nil)) (rO (re Dep.lo) .nil) rx) ?_;refine Qi0 (fun r:Bool=>Bo r) (fun r:Bool=>[(0,AObj.row 191 2 [[I (l.getD i Dep.zero).how,I (l.getD i Dep.zero).job]])]) (leaf:=(decide ((Q11 (List.take i l) (fun (y:Dep)=>(y.job==(l.getD i Dep.zero).job))) >= 0))) (foll hR rfl) ?_;exact tt [0] (tO rfl (ts Dep.lo) .nil) t1
  refine us (mv [0] (hof1) (dO (ds Dep.lo) .nil) (dv (dn_as (as_take l i ckA) lw) (dv (dn_fn .nil (dp .nil)) .nil)) (rO (re Dep.lo) .nil) rx) ?_;refine us (QG2 ((l.getD i Dep.zero).how) 1 3 _) ?_;(first|apply u2|apply u3|apply u4|apply us);exact Qvd ((l.getD i Dep.zero).job) _;refine ai (fun h7=>?_) (fun h8=>?_)
  ·exact lfA
  ·exact Qy0 (i+1) (wkA []) omA ⟨folA,by exact omA⟩
 ·rw [Qs0 (l:=l) (j:=i) (geA h2)] at hR;exact lfA
def Qz9 (a:Cmd) (b:Cmd):Bool:=bif ((!(Qc8 a.shape b.shape))||(!(Q35 a.after b.after))) then false else ((((((((((((a.kind==b.kind)&&(a.job==b.job))&&(ByteArray.toList a.name==ByteArray.toList b.name))&&(ByteArray.toList a.user==ByteArray.toList b.user))&&(ByteArray.toList a.account==ByteArray.toList b.account))&&(a.prio==b.prio))&&(a.hasPrio==b.hasPrio))&&(a.time==b.time))&&(a.hasTime==b.hasTime))&&(a.node==b.node))&&(a.nodes==b.nodes))&&(a.from_==b.from_))
theorem cmd_Same_c (a:Cmd) (b:Cmd) (hs0:a.sz) (hs1:b.sz):GV 235 [Cmd.a a,Cmd.a b] (Bo (Qz9 a b)):=by
 generalize hR:Qz9 a b=R;refine gA (kp 5 [18]) Tryz.func235 ?_;have hk0:=hs0;obtain ⟨z3,z4,z5,z6,z7⟩:a.name.size<=4294967296∧a.user.size<=4294967296∧a.account.size<=4294967296∧(a.shape.alts.length<=4294967296)∧a.after.length<=4294967296:=hs0;have hk1:=hs1;obtain ⟨z8,z9,z10,z11,z12⟩:b.name.size<=4294967296∧b.user.size<=4294967296∧b.account.size<=4294967296∧(b.shape.alts.length<=4294967296)∧b.after.length<=4294967296:=hs1;refine us (shape_Same_c a.shape b.shape szA szA _) ?_;(first|apply u2|apply u3|apply u4|apply us);exact QJb a.after b.after szA szA _;refine ai (fun h1=>?_) (fun h2=>?_)
 ·exact lfA
 ·exact lfA
def QF5 (set_:Int):Bool:=((wu64 (BitVec.ofInt 64 set_ &&& ~~~(BitVec.ofInt 64 (QS2 48))).toNat)==0)
theorem Qv8 (set_:Int):GV 225 [U set_] (Bo (QF5 set_)):=by
 generalize hR:QF5 set_=R;refine gA (kp 3 []) Tryz.func225 ?_;refine us (nodeset_All_c 48 _) ?_;exact lfA
def Qx6 (a:Usage) (b:Usage):Int:=(QA9 ([(QU0 a.user b.user),(QU0 a.account b.account)]:List Int))
theorem QZ9 (a:Usage) (b:Usage) (hs0:a.sz) (hs1:b.sz):GV 181 [Usage.a a,Usage.a b] (I (Qx6 a b)):=by
 generalize hR:Qx6 a b=R;refine gA (kp 5 []) Tryz.func181 ?_;obtain ⟨z1,z2⟩:=Usage.zz hs0;obtain ⟨z3,z4⟩:=Usage.zz hs1;refine dchk (by kernel_rfl) ?_;(first|apply u2|apply u3|apply u4|apply us);exact Ql3 a.user b.user _;(first|apply u2|apply u3|apply u4|apply us);exact Ql3 a.account b.account _;(first|apply u2|apply u3|apply u4|apply us);exact AGives.as2 (Qxc ([(QU0 a.user b.user),(QU0 a.account b.account)]:List Int) szA _) (av (QN2 (c:=(fun q_=>[I q_])) (d:=0) ([(QU0 a.user b.user),(QU0 a.account b.account)]:List Int) rfl) .nil);(repeat ((first|refine ai rfl ?_|refine ai (fun _=>rfl) ?_|refine ai (fun _=>Ql3 a.user b.user _) ?_|refine ai (fun _=>Ql3 a.account b.account _) ?_|refine ai (fun _=>AGives.as2 (Qxc ([(QU0 a.user b.user),(QU0 a.account b.account)]:List Int) szA _) (av (QN2 (c:=(fun q_=>[I q_])) (d:=0) ([(QU0 a.user b.user),(QU0 a.account b.account)]:List Int) rfl) .nil)) ?_)));exact lfA
def QV4 (is:Int->Node->Bool):List Node->List Int->Nat->(List Int)
 | [],l,_=>l
 | x_ :: r,l,i=>bif (is (i:Int) x_) then QV4 is r (l++([(i:Int)]:List Int)) (i+1) else QV4 is r l (i+1)
def Qi3 (l:List Int):Int:=(Qz0 l).1
def Qh2 (s:State) (is:Int->Node->Bool):Int:=Qi3 (QV4 is s.nodes [] 0)
def QU4 (s:State) (jobs:List (Int × Job)) (all_:List (Int × Resize)):List Node->Nat->Bool
 | [],_=>true
 | x_ :: r,i=>bif ((x_.state==1)&&((!(getM x_.job jobs).isSome)||(!(QP0 (((getM x_.job jobs).getD Job.zero).nodes) (i:Int))))) then false else bif ((x_.state==2)&&(!(getM x_.job jobs).isSome)) then false else bif (((x_.state==2)||(x_.want==4))&&(!(QP0 (((getM x_.job all_).getD Resize.zero).nodes) (i:Int)))) then false else bif ((x_.state==3)&&(decide (x_.job >= s.nextJob))) then false else QU4 s jobs all_ r (i+1)
def Qu2 (s:State) (jobs:List (Int × Job)) (all_:List (Int × Resize)):Bool:=QU4 s jobs all_ s.nodes 0
theorem state_nodes_c (s:State) (jobs:List (Int × Job)) (all_:List (Int × Resize)) (hs0:s.sz):AMoves Tryz.prog 76 [State.a s,AVal.map 0,AVal.map 1] [(0,AObj.other (.map (mapEs ik Job.a 0 jobs) jobs.length)),(0,AObj.other (.map (mapEs ik Resize.a 0 all_) all_.length))] 2 (Bo (Qu2 s jobs all_)) [(0,AObj.other (.map (mapEs ik Job.a 0 jobs) jobs.length)),(0,AObj.other (.map (mapEs ik Resize.a 0 all_) all_.length))]:=by
 generalize hR:Qu2 s jobs all_=R;refine mo (kp 12 [13,14,15,16,35,50,58,70]) Tryz.func76 ?_;have hk0:=hs0;obtain ⟨z11,z12,z13,z14,z15,z16,z17⟩:=hs0;refine Qv0 (fun (i:Nat)=>QU4 s jobs all_ (List.drop i s.nodes) i=R∧i<=s.nodes.length) (fun i=>s.nodes.length - i) (fun i=>[(1,AVal.map 0),(2,AVal.map 1),(3,AVal.ptr 2 0 8 0 0),(6,Bo false),(13,nodeL s.nodes),(14,I (s.nodes.length:Int)),(15,I (i:Int))]) (fun i=>[(0,AObj.other (.map (mapEs ik Job.a 0 jobs) jobs.length)),(0,AObj.other (.map (mapEs ik Resize.a 0 all_) all_.length)),(0,AObj.row 28 8 [[I s.now,nodeL s.nodes,jobL s.jobs,Qc2 s.resizes,bookL s.books,Qb4 s.ledger,I s.nextJob,I s.nextBook]])]) 0 (wkA [0,1,2]) ⟨foll hR rfl,by exact omA⟩ ?_;clear hR;rintro i ⟨hR,hj⟩;(try dsimp only at hR hj);refine ai (fun h1=>?_) (fun h2=>?_)
 ·have hlt:=ltA h1;rw [Qr0 Node.zero hlt] at hR;refine ai gkA ?_;(first|refine ⟨_,_,Qw1 rfl _ _,Qx1 (ek:=ik) ((s.nodes.getD i Node.zero).job) jobs Job.zero (as_agg (a1 (a1 (a1 (a1 (a1 (av (QR6) (a1 (a1 (a1 (a1 (av (QR6) (a1 (a1 (a1 (a1 (a1 (a1 (a1 (a1 (a1 .nil))))))))))))))))))))),?_⟩|refine ⟨_,fun _=>⟨_,_,Qw1 rfl _ _,Qx1 (ek:=ik) ((s.nodes.getD i Node.zero).job) jobs Job.zero (as_agg (a1 (a1 (a1 (a1 (a1 (av (QR6) (a1 (a1 (a1 (a1 (av (QR6) (a1 (a1 (a1 (a1 (a1 (a1 (a1 (a1 (a1 .nil))))))))))))))))))))),rfl,rfl⟩,?_⟩|refine ⟨_,rfl,⟨_,_,Qw1 rfl _ _,Qx1 (ek:=ik) ((s.nodes.getD i Node.zero).job) jobs Job.zero (as_agg (a1 (a1 (a1 (a1 (a1 (av (QR6) (a1 (a1 (a1 (a1 (av (QR6) (a1 (a1 (a1 (a1 (a1 (a1 (a1 (a1 (a1 .nil))))))))))))))))))))),Sub.refl _,rfl⟩,?_⟩);(first|apply u2|apply u3|apply u4|apply us);exact QY6 (((getM (s.nodes.getD i Node.zero).job jobs).getD Job.zero).nodes) (i:Int) _;refine ai (fun h3=>?_) (fun h4=>?_)
  ·obtain rfl:=foll hR (ct h3 rfl);exact rq (ttA [0,1])
  ·refine ai (fun h5=>?_) (fun h6=>?_)
   ·obtain rfl:=foll hR (cf h4 (ct h5 rfl));exact rq (ttA [0,1])
   ·(first|refine ⟨_,_,Qw1 rfl _ _,Qx1 (ek:=ik) ((s.nodes.getD i Node.zero).job) all_ Resize.zero (AsA.refl _),?_⟩|refine ⟨_,fun _=>⟨_,_,Qw1 rfl _ _,Qx1 (ek:=ik) ((s.nodes.getD i Node.zero).job) all_ Resize.zero (AsA.refl _),rfl,rfl⟩,?_⟩|refine ⟨_,rfl,⟨_,_,Qw1 rfl _ _,Qx1 (ek:=ik) ((s.nodes.getD i Node.zero).job) all_ Resize.zero (AsA.refl _),Sub.refl _,rfl⟩,?_⟩);(first|apply u2|apply u3|apply u4|apply us);exact QY6 (((getM (s.nodes.getD i Node.zero).job all_).getD Resize.zero).nodes) (i:Int) _;refine ai (fun h7=>?_) (fun h8=>?_)
    ·obtain rfl:=foll hR (cf h4 (cf h6 (ct h7 rfl)));exact rq (ttA [0,1])
    ·refine ai (fun h9=>?_) (fun h10=>?_)
     ·obtain rfl:=foll hR (cf h4 (cf h6 (cf h8 (ct h9 rfl))));exact rq (ttA [0,1])
     ·exact Qy0 (i+1) (wkA [0,1,2]) omA ⟨folA,by exact omA⟩
 ·rw [Qs0 (l:=s.nodes) (j:=i) (geA h2)] at hR;obtain rfl:=foll hR rfl;exact rq (ttA [0,1])
def QL3 (p_:List Step) (to_:Int):Nat->Int->Int->Int × Int
 | 0,_,_=>(0,0)
 | m+1,i,n=>bif ((decide (i<(p_.length:Int)))&&(decide ((p_.getD (Int.toNat i) Step.zero).at_<to_))) then QL3 p_ to_ m (w64 (i+1)) (min n (p_.getD (Int.toNat i) Step.zero).free) else (i,n)
def QM3 (i:Int) (n:Int):Int:=n
def Qy8 (p_:List Step) (from_:Int) (to_:Int):Int:=bif ((((Qy2 p_)!=0)||(!(Q06 from_)))||(decide (to_<=from_))) then 0 else QM3 ((QL3 p_ to_ ((Int.toNat ((p_.length:Int) - (w64 ((Qa0 p_ from_)+1))))+1) (w64 ((Qa0 p_ from_)+1)) ((p_.getD (Int.toNat (Qa0 p_ from_)) Step.zero).free)).1) ((QL3 p_ to_ ((Int.toNat ((p_.length:Int) - (w64 ((Qa0 p_ from_)+1))))+1) (w64 ((Qa0 p_ from_)+1)) ((p_.getD (Int.toNat (Qa0 p_ from_)) Step.zero).free)).2)
theorem Qse (p_:List Step) (from_:Int) (to_:Int) (hs0:p_.length<=4294967296):GV 83 [stepL p_,I from_,I to_] (I (Qy8 p_ from_ to_)):=by
 generalize hR:Qy8 p_ from_ to_=R;refine gA (kp 9 [21,44]) Tryz.func83 ?_;have hk0:=hs0;obtain z5:p_.length<=4294967296:=hs0;refine us (QK5 p_ szA _) ?_;(first|apply u2|apply u3|apply u4|apply us);exact QKc from_ _;refine ai (fun h1=>?_) (fun h2=>?_)
 ·exact lfA
 ·refine us (Qj9 p_ from_ szA _) ?_;have hb:=Bool.or_eq_false_iff.1 (Bool.or_eq_false_iff.1 h2).1;have hc:=QZ5 hb.1;have hq:=hb.2;simp [Q06] at hq;have hp:=QR8 hc.1 hc.2.1 hc.2.2 (t:=from_) (by omega);have hw:w64 (Qa0 p_ from_+1)=Qa0 p_ from_+1:=wr (by omega);refine ai gkA ?_;refine QF0 (fun (i:Int) (n:Int)=>∃ m,(Int.toNat ((p_.length:Int) - i))<m∧QM3 (QL3 p_ to_ m i n).1 (QL3 p_ to_ m i n).2=R∧0<=i∧i<=(p_.length:Int)) (fun i n=>(Int.toNat ((p_.length:Int) - i))) (fun i n=>[(0,stepL p_),(2,I to_),(6,I 0),(7,I i),(8,I n)]) (fun i n=>[]) (w64 ((Qa0 p_ from_)+1)) ((p_.getD (Int.toNat (Qa0 p_ from_)) Step.zero).free) (wkA []) ⟨_,Nat.lt_succ_self _,foll hR (cf h2 rfl),by first|((rw [hw];omega))|first|((rw [hw1];omega))|exact exA⟩ ?_;clear hR;rintro i n ⟨m,hm,hR,hx⟩;(try dsimp only at hR hm hx);obtain ⟨m,rfl⟩:=sucA m;refine ai gkA ?_;refine ai (fun h3=>?_) (fun h4=>?_)
  ·have hw1:w64 (i+1)=i+1:=wr (by omega);refine ai gkA ?_;exact Qh0 (w64 (i+1)) (min n (p_.getD (Int.toNat i) Step.zero).free) (wkA []) (by first|((dsimp only;rw [hw1];omega))|exact omA) ⟨m,by first|((dsimp only;rw [hw1];omega))|exact omA,foll hR (congrArg (fun p:Int × Int=>QM3 p.1 p.2) (ct h3 rfl)),by first|((rw [hw];omega))|first|((rw [hw1];omega))|exact exA⟩
  ·replace hR:QM3 i n=R:=fo2 (fun p:Int × Int=>QM3 p.1 p.2) (i,n) hR (cf h4 rfl);exact lfA
def QV3 (c4:List Step):(List Step) × Int:=bif ((Qy2 c4)!=0) then ([],3) else (c4,0)
def QG7 :List Step->Nat->List Step->(List Step)
 | [],_,c5=>c5
 | x_ :: r,i2,c5=>QG7 r (i2+1) (Q31 x_.at_ x_.free c5)
def QW3 (c5:List Step):(List Step) × Int:=QV3 c5
def QU3 (p_:List Step) (to_:Int) (i:Int) (last:Int) (c2:List Step):(List Step) × Int:=bif (i==(p_.length:Int)) then bif (decide (to_<=1000000)) then QV3 (Q31 to_ last c2) else QV3 c2 else QW3 (QG7 (List.drop (Int.toNat i) p_) 0 c2)
def QT3 (p_:List Step) (to_:Int) (n:Int):Nat->Int->Int->List Step->(List Step) × Int
 | 0,_,_,_=>([],0)
 | m+1,i1,last1,c3=>bif (decide (i1<(p_.length:Int))) then bif (decide ((p_.getD (Int.toNat i1) Step.zero).at_<to_)) then QT3 p_ to_ n m (w64 (i1+1)) ((p_.getD (Int.toNat i1) Step.zero).free) (Q31 ((p_.getD (Int.toNat i1) Step.zero).at_) (w64 ((p_.getD (Int.toNat i1) Step.zero).free+n)) c3) else bif (decide ((p_.getD (Int.toNat i1) Step.zero).at_ > to_)) then QU3 p_ to_ i1 ((p_.getD (Int.toNat i1) Step.zero).free) (Q31 to_ ((p_.getD (Int.toNat (w64 (i1 - 1))) Step.zero).free) c3) else QU3 p_ to_ i1 ((p_.getD (Int.toNat i1) Step.zero).free) c3 else QU3 p_ to_ i1 last1 c3
def Qe6 (p_:List Step) (from_:Int) (to_:Int) (n:Int) (c:List Step):(List Step) × Int:=QT3 p_ to_ n ((Int.toNat ((p_.length:Int) - (w64 ((Qa0 p_ from_)+1))))+1) (w64 ((Qa0 p_ from_)+1)) ((p_.getD (Int.toNat (Qa0 p_ from_)) Step.zero).free) (Q31 from_ (w64 ((p_.getD (Int.toNat (Qa0 p_ from_)) Step.zero).free+n)) c)
def Qa5 (p_:List Step) (from_:Int) (to_:Int) (n:Int):(List Step) × Int:=bif ((Qy2 p_)!=0) then ([],100) else bif (((!(Q06 from_))||(decide (to_<from_)))||(!(Qt7 n))) then ([],2) else bif (to_==from_) then (p_,0) else bif (decide ((p_.getD (Int.toNat (Qa0 p_ from_)) Step.zero).at_<from_)) then Qe6 p_ from_ to_ n (Q31 ((p_.getD (Int.toNat (Qa0 p_ from_)) Step.zero).at_) ((p_.getD (Int.toNat (Qa0 p_ from_)) Step.zero).free) (List.take (Int.toNat (Qa0 p_ from_)) p_)) else Qe6 p_ from_ to_ n (List.take (Int.toNat (Qa0 p_ from_)) p_)
theorem b2a0 {P:Prop} (h:P:=by first|((exact ⟨by omega,by omega,Nat.le_trans (Q43 _ _ _) (by omega)⟩))|first|((exact ⟨by omega,by omega,by omega⟩))|first|((rw [hw1];exact ⟨by omega,by omega,Int.le_trans (Int.ofNat_le.2 (Q43 _ _ _)) (by omega)⟩))|first|((rw [hw];exact ⟨by omega,by omega,Int.le_trans (Int.ofNat_le.2 (Q43 _ _ _)) (by omega)⟩))|first|(((try dsimp only);refine Nat.le_trans (Q43 _ _ _) ?_;first|omega|(simp;omega)))|first|(((try dsimp only);rw [List.length_drop] at *;omega))|first|((simp;omega))|exact exA):P:=h
theorem b2a1 {P:Prop} (h:P:=by first|((refine Nat.le_trans (Q43 _ _ _) ?_;omega))|first|((simp;omega))|exact szA):P:=h
theorem profile_Add_c (p_:List Step) (from_:Int) (to_:Int) (n:Int) (hs0:p_.length<=4294967296):GV 148 [stepL p_,I from_,I to_,I n] (AVal.tup [stepL ((Qa5 p_ from_ to_ n).1),I ((Qa5 p_ from_ to_ n).2)]):=by
 generalize hR:Qa5 p_ from_ to_ n=R;refine gA (kj [1000014,1000024,1000032] 17 [17,21,35,58,91,99,117,137,139,146,147,148,149,161]) Tryz.func148 ?_;have hk0:=hs0;obtain z23:p_.length<=4294967296:=hs0;refine us (QK5 p_ b2a1 _) ?_;refine ai (fun h1=>?_) (fun h2=>?_)
 ·exact lfA
 ·refine us (QKc from_ _) ?_;(first|apply u2|apply u3|apply u4|apply us);exact QH7 n _;refine ai (fun h3=>?_) (fun h4=>?_)
  ·exact lfA
  ·refine ai (fun h5=>?_) (fun h6=>?_)
   ·refine us (mv [] (QBa p_ b2a1) .nil (dl lw .nil) (rO rr .nil) (rw_ 0 0 rfl)) ?_;obtain rfl:=foll hR (cf h2 (cf h4 (ct h5 rfl)));exact Q90 (Low.tup' (.cons lw (l1 .nil))) (Seen.tup (ev (Q80 Step.zero _ rfl eqA lnA) (e1 .nil)))
   ·refine us (Qj9 p_ from_ b2a1 _) ?_;have hc:=QZ5 (p:=p_) (by assumption);have hp:=QR8 hc.1 hc.2.1 hc.2.2 (Qrb (by assumption));have hw:w64 (Qa0 p_ from_+1)=Qa0 p_ from_+1:=wr (by omega);refine ai gkA ?_;(first|refine ⟨Qe2 16 rfl lnA apA,?_⟩|refine ⟨Ql1 16 rfl apA,?_⟩);refine QS1 (fun (c:List Step)=>Qe6 p_ from_ to_ n c=R∧c.length<=Int.toNat (Qa0 p_ from_)+1) (fun c=>[(0,stepL p_),(1,I from_),(2,I to_),(3,I n),(8,AVal.lit (.slice none 0 0)),(9,I 0),(10,AVal.ptr 0 0 1 0 0),(11,AVal.fn (.func 208) [] [AVal.ptr 0 0 1 0 0]),(12,I (Qa0 p_ from_))]) (fun c=>[(0,AObj.row 82 1 [[AVal.own 1 0 2 0 c.length]]),(0,AObj.row 182 2 (c.map Step.cells))]) ?_ ?_
    ·clear hR;rintro c ⟨hR,hx⟩;(try dsimp only at hR hx);refine ai gkA ?_;refine us (mv [0,1] (QY2 from_ (w64 ((p_.getD (Int.toNat (Qa0 p_ from_)) Step.zero).free+n)) c b2a1) (dO (dc (dv (Q85 rfl lnA) .nil)) (dO (dr eqA) .nil)) (d1 (d1 (dp .nil))) (rO (rc (.cons _ _ _ _ (rw_ 2 0 rfl) .nil)) (rO rr .nil)) rx) ?_;refine ai gkA ?_;refine join_start3 (fun (i:Int) (last:Int) (c2:List Step)=>QU3 p_ to_ i last c2=R∧1<=i∧i<=(p_.length:Int)∧c2.length<=1003) (fun i last c2=>[(0,stepL p_),(2,I to_),(8,AVal.lit (.slice none 0 0)),(9,I 0),(10,AVal.ptr 0 0 1 0 0),(11,AVal.fn (.func 208) [] [AVal.ptr 0 0 1 0 0]),(12,I i),(14,I last)]) (fun i last c2=>[(0,AObj.row 82 1 [[AVal.own 1 0 2 0 c2.length]]),(0,AObj.row 182 2 (c2.map Step.cells))]) ?_ ?_
     ·clear hR;rintro i last c2 ⟨hR,hx⟩;(try dsimp only at hR hx);refine QS1 (fun (c4:List Step)=>QV3 c4=R∧c4.length<=4000) (fun c4=>[(8,AVal.lit (.slice none 0 0)),(9,I 0),(10,AVal.ptr 0 0 1 0 0)]) (fun c4=>[(0,AObj.row 82 1 [[AVal.own 1 0 2 0 c4.length]]),(0,AObj.row 182 2 (c4.map Step.cells))]) ?_ ?_
      ·clear hR;rintro c4 ⟨hR,hx⟩;(try dsimp only at hR hx);refine us (AGives.lent (QK5 c4 b2a1 []) (ev (Q80 _ _ rfl eqA lnA) .nil) (.cons lw .nil) (QO2 rfl)) ?_;refine ai (fun h7=>?_) (fun h8=>?_)
       ·exact lfA
       ·obtain rfl:=foll hR (cf h8 rfl);exact Q90 (Low.tup' (.cons lw (l1 .nil))) (Seen.tup (ev (Q80 Step.zero _ rfl eqA lnA) (e1 .nil)))
      ·refine ai (fun h9=>?_) (fun h10=>?_)
       ·refine ai (fun h11=>?_) (fun h12=>?_)
        ·have qh11:=of_decide_eq_true h11;refine us (mv [0,1] (QY2 to_ last c2 b2a1) (dO (dc (dv (Q85 rfl lnA) .nil)) (dO (dr eqA) .nil)) (d1 (d1 (dp .nil))) (rO (rc (.cons _ _ _ _ (rw_ 2 0 rfl) .nil)) (rO rr .nil)) rx) ?_;exact Qo0 (Q31 to_ last c2) (wkA [0,2]) (⟨folA,b2a0⟩)
        ·have qh12:=of_decide_eq_false h12;exact Qo0 c2 (wkA [0,1]) (⟨folA,b2a0⟩)
       ·refine ai gkA ?_;refine QF0 (fun (i2:Nat) (c5:List Step)=>QW3 (QG7 (List.drop i2 (List.drop (Int.toNat i) p_)) i2 c5)=R∧i2<=(List.drop (Int.toNat i) p_).length∧c5.length<=2000+i2) (fun i2 c5=>(List.drop (Int.toNat i) p_).length - i2) (fun i2 c5=>[(8,AVal.lit (.slice none 0 0)),(9,I 0),(10,AVal.ptr 0 0 1 0 0),(11,AVal.fn (.func 208) [] [AVal.ptr 0 0 1 0 0]),(146,stepL (List.drop (Int.toNat i) p_)),(147,I ((List.drop (Int.toNat i) p_).length:Int)),(148,I (i2:Int))]) (fun i2 c5=>[(0,AObj.row 82 1 [[AVal.own 1 0 2 0 c5.length]]),(0,AObj.row 182 2 (c5.map Step.cells))]) 0 c2 (wk [0,1] (tO rfl (Qo2 (cv (to 1 lnA) .nil)) (tO rfl (tl eqA) .nil)) (s1 (s1 (sv (Qc1 0 rfl rfl) (sv (QQ6 .nil (cv (Qc1 0 rfl rfl) .nil)) (sv (turn_as (as_drop p_ (Int.toNat i) _ leA) lw) (sv (turn_eq (I_eq (by simp)) lx) (s1 .nil)))))))) ⟨folA,by exact omA,b2a0⟩ ?_;clear hR;rintro i2 c5 ⟨hR,hj,hx⟩;(try dsimp only at hR hj hx);refine ai (fun h13=>?_) (fun h14=>?_)
        ·have hlt:=ltA h13;rw [Qr0 Step.zero hlt] at hR;have hdl:(List.drop (Int.toNat i) p_).length<=1000:=(by rw [List.length_drop];omega);refine ai gkA ?_;refine us (mv [0,1] (QY2 (((List.drop (Int.toNat i) p_).getD i2 Step.zero).at_) (((List.drop (Int.toNat i) p_).getD i2 Step.zero).free) c5 b2a1) (dO (dc (dv (Q85 rfl lnA) .nil)) (dO (dr eqA) .nil)) (d1 (d1 (dp .nil))) (rO (rc (.cons _ _ _ _ (rw_ 3 0 rfl) .nil)) (rO rr .nil)) rx) ?_;exact Qh0 (i2+1) (Q31 ((List.drop (Int.toNat i) p_).getD i2 Step.zero).at_ ((List.drop (Int.toNat i) p_).getD i2 Step.zero).free c5) (wkA [0,3]) omA ⟨foll hR (congrArg (fun p:(List Step)=>QW3 p) rfl),by exact omA,b2a0⟩
        ·rw [Qs0 (l:=(List.drop (Int.toNat i) p_)) (j:=i2) (geA h14)] at hR;replace hR:QW3 c5=R:=fo2 (fun p:(List Step)=>QW3 p) (c5) hR rfl;exact Qo0 c5 (wkA [0,1]) (⟨foll hR rfl,b2a0⟩)
     ·refine Qpa (fun (i1:Int) (last1:Int) (c3:List Step)=>∃ m,(Int.toNat ((p_.length:Int) - i1))<m∧QT3 p_ to_ n m i1 last1 c3=R∧1<=i1∧i1<=(p_.length:Int)∧(c3.length:Int)<=i1+1) (fun i1 last1 c3=>(Int.toNat ((p_.length:Int) - i1))) (fun i1 last1 c3=>[(0,stepL p_),(2,I to_),(3,I n),(8,AVal.lit (.slice none 0 0)),(9,I 0),(10,AVal.ptr 0 0 1 0 0),(11,AVal.fn (.func 208) [] [AVal.ptr 0 0 1 0 0]),(12,I i1),(14,I last1)]) (fun i1 last1 c3=>[(0,AObj.row 82 1 [[AVal.own 1 0 2 0 c3.length]]),(0,AObj.row 182 2 (c3.map Step.cells))]) (w64 ((Qa0 p_ from_)+1)) ((p_.getD (Int.toNat (Qa0 p_ from_)) Step.zero).free) (Q31 from_ (w64 ((p_.getD (Int.toNat (Qa0 p_ from_)) Step.zero).free+n)) c) (wkA [0,2]) ⟨_,Nat.lt_succ_self _,foll hR rfl,b2a0⟩ ?_;clear hR;rintro i1 last1 c3 ⟨m,hm,hR,hx⟩;(try dsimp only at hR hm hx);obtain ⟨m,rfl⟩:=sucA m;refine ai (fun h15=>?_) (fun h16=>?_)
      ·have qh15:=of_decide_eq_true h15;have hw1:w64 (i1+1)=i1+1:=wr (by omega);refine ai gkA ?_;refine ai gkA ?_;refine ai (fun h17=>?_) (fun h18=>?_)
       ·have qh17:=of_decide_eq_true h17;refine ai gkA ?_;refine us (mv [0,1] (QY2 ((p_.getD (Int.toNat i1) Step.zero).at_) (w64 ((p_.getD (Int.toNat i1) Step.zero).free+n)) c3 b2a1) (dO (dc (dv (Q85 rfl lnA) .nil)) (dO (dr eqA) .nil)) (d1 (d1 (dp .nil))) (rO (rc (.cons _ _ _ _ (rw_ 2 0 rfl) .nil)) (rO rr .nil)) rx) ?_;exact QU5 (w64 (i1+1)) ((p_.getD (Int.toNat i1) Step.zero).free) (Q31 ((p_.getD (Int.toNat i1) Step.zero).at_) (w64 ((p_.getD (Int.toNat i1) Step.zero).free+n)) c3) (wkA [0,2]) omA ⟨m,by exact omA,foll hR (ct h15 (ct h17 rfl)),b2a0⟩
       ·have qh18:=of_decide_eq_false h18;refine ai gkA ?_;refine ai (fun h19=>?_) (fun h20=>?_)
        ·have qh19:=of_decide_eq_true h19;refine ai gkA ?_;refine us (mv [0,1] (QY2 to_ ((p_.getD (Int.toNat (w64 (i1 - 1))) Step.zero).free) c3 b2a1) (dO (dc (dv (Q85 rfl lnA) .nil)) (dO (dr eqA) .nil)) (d1 (d1 (dp .nil))) (rO (rc (.cons _ _ _ _ (rw_ 2 0 rfl) .nil)) (rO rr .nil)) rx) ?_;exact Q8c i1 ((p_.getD (Int.toNat i1) Step.zero).free) (Q31 to_ ((p_.getD (Int.toNat (w64 (i1 - 1))) Step.zero).free) c3) (wkA [0,2]) (⟨folA,b2a0⟩)
        ·have qh20:=of_decide_eq_false h20;exact Q8c i1 ((p_.getD (Int.toNat i1) Step.zero).free) c3 (wkA [0,1]) (⟨folA,b2a0⟩)
      ·have qh16:=of_decide_eq_false h16;exact Q8c i1 last1 c3 (wkA [0,1]) (⟨folA,b2a0⟩)
    ·refine ai gkA ?_;refine ai (fun h21=>?_) (fun h22=>?_)
     ·have qh21:=of_decide_eq_true h21;refine dchk (by kernel_rfl) ?_;refine ai gkA ?_;refine ai gkA ?_;(first|apply u2|apply u3|apply u4|apply us);exact mv [0,1] (QY2 ((p_.getD (Int.toNat (Qa0 p_ from_)) Step.zero).at_) ((p_.getD (Int.toNat (Qa0 p_ from_)) Step.zero).free) (List.take (Int.toNat (Qa0 p_ from_)) p_) b2a1) (dO (dc (dv (Q85 rfl lnA) .nil)) (dO (dr eqA) .nil)) (d1 (d1 (dp .nil))) (rO (rc (.cons _ _ _ _ (rw_ 2 0 rfl) .nil)) (rO rr .nil)) rx;(repeat ((first|refine ai rfl ?_|refine ai (fun _=>rfl) ?_)));exact Qo0 (Q31 ((p_.getD (Int.toNat (Qa0 p_ from_)) Step.zero).at_) ((p_.getD (Int.toNat (Qa0 p_ from_)) Step.zero).free) (List.take (Int.toNat (Qa0 p_ from_)) p_)) (wkA [0,2]) (⟨folA,b2a0⟩)
     ·have qh22:=of_decide_eq_false h22;exact Qo0 (List.take (Int.toNat (Qa0 p_ from_)) p_) (wkA [0,1]) (⟨folA,b2a0⟩)
theorem Qre (p:List Step) (f t n:Int) (hp:p.length<=4294967296):(Qa5 p f t n).1.length<=4294967296:=by
 have k4:∀ c,(QV3 c).1.length<=4294967296:=by
  intro c
  unfold QV3
  cases h:((Qy2 c)!=0) with
  | true=>simp
  | false=>have:=QZ5 h;simp only [cond_false];omega
 have k2:∀ i last c,(QU3 p t i last c).1.length<=4294967296:=by
  intro i last c
  unfold QU3 QW3
  cases (i==(p.length:Int)) <;> simp only [cond_true,cond_false]
  ·exact k4 _
  ·cases (decide (t<=1000000)) <;> simp only [cond_true,cond_false] <;> exact k4 _
 have g3:∀ m i last c,(QT3 p t n m i last c).1.length<=4294967296:=by
  intro m
  induction m with
  | zero=>intro i last c;simp [QT3]
  | succ m ih =>
   intro i last c
   rw [QT3]
   repeat' first|exact ih _ _ _|exact k2 _ _ _|(rw [Bool.cond_eq_ite];split)
 unfold Qa5 Qe6
 repeat' first|exact g3 _ _ _ _|exact hp|(simp;done)|(rw [Bool.cond_eq_ite];split)
def QX5 (n:Int):Nat->Int->Nat->Int
 | 0,_,_=>0
 | m+1,rest,i=>bif (decide ((i:Int)<n)) then QX5 n m (wu64 (BitVec.ofInt 64 rest &&& BitVec.ofInt 64 (wu64 (rest - 1))).toNat) (i+1) else rest
def Qs3 (s:Int) (rest:Int):Int × Bool:=((wu64 (BitVec.ofInt 64 s &&& ~~~(BitVec.ofInt 64 rest)).toNat),true)
def QN1 (s:Int) (n:Int):Int × Bool:=bif ((decide (n<0))||(decide (n > (Q30 s)))) then (0,false) else Qs3 s (QX5 n ((Int.toNat (n - (0:Int)))+1) s 0)
theorem QQ8 (s:Int) (n:Int):GV 95 [U s,I n] (AVal.tup [U ((QN1 s n).1),Bo ((QN1 s n).2)]):=by
 generalize hR:QN1 s n=R;refine gA (kp 7 [14,16,17,18]) Tryz.func95 ?_;(first|apply u2|apply u3|apply u4|apply us);exact QG0 s _;refine ai (fun h1=>?_) (fun h2=>?_)
 ·exact lfA
 ·refine QF0 (fun (rest:Int) (i:Nat)=>∃ m,(Int.toNat (n - (i:Int)))<m∧Qs3 s (QX5 n m rest i)=R) (fun rest i=>(Int.toNat (n - (i:Int)))) (fun rest i=>[(0,U s),(4,U 0),(5,Bo false),(6,U rest),(16,I n),(17,I (i:Int))]) (fun rest i=>[]) s 0 (wkA []) ⟨_,Nat.lt_succ_self _,foll hR (cf h2 rfl)⟩ ?_;clear hR;rintro rest i ⟨m,hm,hR⟩;(try dsimp only at hR hm);obtain ⟨m,rfl⟩:=sucA m;refine ai (fun h3=>?_) (fun h4=>?_)
  ·have qh3:=of_decide_eq_true h3;have hnc:=Q8d s;have hb:=Bool.or_eq_false_iff.1 h2;have hb1:=of_decide_eq_false hb.1;have hb2:=of_decide_eq_false hb.2;exact Qh0 (wu64 (BitVec.ofInt 64 rest &&& BitVec.ofInt 64 (wu64 (rest - 1))).toNat) (i+1) (wkA []) omA ⟨m,by exact omA,foll hR (congrArg (fun p:Int=>Qs3 s p) (ct h3 rfl))⟩
  ·have qh4:=of_decide_eq_false h4;replace hR:Qs3 s rest=R:=fo2 (fun p:Int=>Qs3 s p) (rest) hR (cf h4 rfl);exact lfA
def Qv5 (c:Cmd) (job:Bool) (submit:Bool) (prio:Bool) (time:Bool) (node:Bool) (nodes:Bool) (from_:Bool):Bool:=bif ((((((job&&(c.job != 0))||(prio&&c.hasPrio))||(time&&c.hasTime))||(node&&(c.node != 0)))||(nodes&&(c.nodes != 0)))||(from_&&(c.from_ != 0))) then false else bif (!submit) then true else (((((ByteArray.toList c.name==ByteArray.toList ⟨#[]⟩)&&(ByteArray.toList c.user==ByteArray.toList ⟨#[]⟩))&&(ByteArray.toList c.account==ByteArray.toList ⟨#[]⟩))&&((c.after.length:Int)==0))&&(Q16 c.shape Shape.zero))
def Qt5 (s:ByteArray):Bool:=((((Qj4 s).2==0)&&(decide ((Qj4 s).1 >= 1)))&&(decide ((Qj4 s).1<=16)))
def Qg6 (s:ByteArray):Nat->Nat->List Int->Nat × (List Int)
 | 0,_,_=>(0,[])
 | m+1,i,c=>bif (decide ((i:Int)<(ByteArray.size s:Int))) then bif ((((s.data.toList.getD i 0).toNat:Int)==34)||(((s.data.toList.getD i 0).toNat:Int)==92)) then Qg6 s m (i+1) ((c++([92]:List Int))++([((s.data.toList.getD i 0).toNat:Int)]:List Int)) else Qg6 s m (i+1) (c++([((s.data.toList.getD i 0).toNat:Int)]:List Int)) else (i,c)
def ref04_Quote_k1 (i:Nat) (c:List Int):ByteArray × Int:=((Qv2 (c++([34]:List Int))),0)
def Que (s:ByteArray):ByteArray × Int:=bif ((Qj4 s).2 != 0) then (⟨#[]⟩,(Qj4 s).2) else ref04_Quote_k1 ((Qg6 s ((Int.toNat ((ByteArray.size s:Int) - (0:Int)))+1) 0 ([34]:List Int)).1) ((Qg6 s ((Int.toNat ((ByteArray.size s:Int) - (0:Int)))+1) 0 ([34]:List Int)).2)
def QN3 (s:Shape):Nat->List Alt->Nat->(List Alt) × Nat
 | 0,_,_=>([],0)
 | m+1,out,i=>bif (decide ((i:Int)<=(w64 (s.max - s.min)))) then QN3 s m (out++([(⟨(w64 (s.max - (i:Int))),s.wall⟩:Alt)]:List Alt)) (i+1) else (out,i)
def QS8 (out:List Alt) (i:Nat):(List Alt):=out
def Qi1 (s:Shape):(List Alt):=bif ((QT1 s)!=0) then [] else bif (s.kind != 3) then s.alts else QS8 ((QN3 s ((Int.toNat ((w64 (s.max - s.min)) - (0:Int)+1))+1) [] 0).1) ((QN3 s ((Int.toNat ((w64 (s.max - s.min)) - (0:Int)+1))+1) [] 0).2)
def QY1 (set_:Int) (n:Int):Bool:=(Qxe set_ n)
def Q36 (job:Int) (state:Int):List Node->Int->Nat->Int × Nat
 | [],out,i=>(out,i)
 | x_ :: r,out,i=>bif ((x_.job==job)&&(x_.state==state)) then Q36 job state r (wu64 (out+(QAe (i:Int)))) (i+1) else Q36 job state r out (i+1)
def Qze (out:Int) (i:Nat):Int:=out
def Qw7 (l:List Node) (job:Int) (state:Int):Int:=bif ((QA8 l)!=0) then 0 else Qze ((Q36 job state l 0 0).1) ((Q36 job state l 0 0).2)
def ref14_Same_g1 (a:Job) (b:Job):List Dep->Nat->Bool
 | [],_=>((((((((((((((a.id==b.id)&&(ByteArray.toList a.name==ByteArray.toList b.name))&&(ByteArray.toList a.user==ByteArray.toList b.user))&&(ByteArray.toList a.account==ByteArray.toList b.account))&&(a.prio==b.prio))&&(a.state==b.state))&&(a.held==b.held))&&(a.born==b.born))&&(a.promise==b.promise))&&(a.choice==b.choice))&&(a.start==b.start))&&(a.limit==b.limit))&&(a.nodes==b.nodes))&&(a.used==b.used))
 | x_ :: r,i=>bif (!((x_.how==(b.after.getD i Dep.zero).how)&&(x_.job==(b.after.getD i Dep.zero).job))) then false else ref14_Same_g1 a b r (i+1)
def Q37 (a:Job) (b:Job):Bool:=bif (((a.after.length:Int)!=(b.after.length:Int))||(!(Q16 a.shape b.shape))) then false else ref14_Same_g1 a b a.after 0
theorem QOc (a:Job) (b:Job) (hs0:a.sz) (hs1:b.sz):GV 115 [Job.a a,Job.a b] (Bo (Q37 a b)):=by
 generalize hR:Q37 a b=R;refine gA (kp 7 [21,26,39]) Tryz.func115 ?_;obtain ⟨z7,z8,z9,z10,z11⟩:=Job.zz hs0;obtain ⟨z12,z13,z14,z15,z16⟩:=Job.zz hs1;(first|apply u2|apply u3|apply u4|apply us);exact ref07_Same_c a.shape b.shape szA szA _;refine ai (fun h1=>?_) (fun h2=>?_)
 ·exact lfA
 ·refine Qv0 (fun (i:Nat)=>ref14_Same_g1 a b (List.drop i a.after) i=R∧i<=a.after.length) (fun i=>a.after.length - i) (fun i=>[(2,AVal.ptr 0 0 20 0 0),(3,AVal.ptr 1 0 20 0 0),(4,Bo false),(5,I (i:Int))]) (fun i=>[(0,AObj.row 72 20 [[I a.id,Sg a.name,Sg a.user,Sg a.account,I a.shape.kind,altL a.shape.alts,I a.shape.min,I a.shape.max,I a.shape.wall,I a.prio,depL a.after,I a.state,Bo a.held,I a.born,I a.promise,I a.choice,I a.start,I a.limit,U a.nodes,I a.used]]),(0,AObj.row 72 20 [[I b.id,Sg b.name,Sg b.user,Sg b.account,I b.shape.kind,altL b.shape.alts,I b.shape.min,I b.shape.max,I b.shape.wall,I b.prio,depL b.after,I b.state,Bo b.held,I b.born,I b.promise,I b.choice,I b.start,I b.limit,U b.nodes,I b.used]])]) 0 (wkA [0,1]) ⟨folA,by exact omA⟩ ?_;clear hR;rintro i ⟨hR,hj⟩;(try dsimp only at hR hj);refine ai (fun h3=>?_) (fun h4=>?_)
  ·have hlt:=ltA h3;rw [Qr0 Dep.zero hlt] at hR;refine dchk (by kernel_rfl) ?_;refine ai gkA ?_;refine ai gkA ?_;refine ai (fun _=>(by kernel_rfl:eqOK _ _=true)) ?_;(repeat ((first|refine ai rfl ?_|refine ai (fun _=>rfl) ?_)));refine ai (fun h5=>?_) (fun h6=>?_)
   ·exact lfA
   ·exact Qy0 (i+1) (wkA [0,1]) omA ⟨folA,by exact omA⟩
  ·rw [Qs0 (l:=a.after) (j:=i) (geA h4)] at hR;exact lfA
end Go.Proofs.YtackngeeehiegaaGreatDoor
