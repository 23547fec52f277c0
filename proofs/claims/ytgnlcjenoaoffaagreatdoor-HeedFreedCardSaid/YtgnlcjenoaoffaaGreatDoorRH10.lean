/-
  What the last text of this claim leans on: an evaluator over the code, contracts of functions, plain laws. Conditions stand in each statement.
-/
import Derived.Test.YtgnlcjenoaoffaaGreatDoorRH9
import Derived.Test.YtgnlcjenoaoffaaGreatDoorProg
import Derived.Test.YtgnlcjenoaoffaaGreatDoorRH8
import Derived.Test.YtgnlcjenoaoffaaGreatDoorRH7
namespace Go.Proofs.YtgnlcjenoaoffaaGreatDoor
set_option linter.unusedSimpArgs false
set_option linter.unusedVariables false
open Go.Fw
set_option maxRecDepth 20000
set_option maxHeartbeats 4000000
attribute [local irreducible] ACalls AMoves
def Qt8 (j:Job):Bool:=(((((Qmb j.shape)&&(decide ((j.after.length:Int)<=100)))&&(decide ((ByteArray.size j.name:Int)<=1000)))&&(decide ((ByteArray.size j.user:Int)<=1000)))&&(decide ((ByteArray.size j.account:Int)<=1000)))
theorem law14_Few_c (j:Job):GV 40 [Job.a j] (Bo (Qt8 j)):=by
 generalize hR:Qt8 j=R;refine gA (kp 3 []) Tryz.func40 ?_;refine us (law07_Few_c j.shape _) ?_;exact lfA
def Qf4 (n:Int):Int:=(Qr4 n 0 1000000000000)
theorem Q89 (n:Int):GV 77 [I n] (I (Qf4 n)):=by
 generalize hR:Qf4 n=R;refine gA (kp 3 []) Tryz.func77 ?_;refine us (Ql9 n 0 1000000000000 _) ?_;exact lfA
def Qi1 (s:List Alt) (f:Alt->Bool):Bool:=(decide ((Qf1 s f) >= 0))
def QWb (n:Int):Bool:=(Qh3 n 1 100000)
theorem cmd_length_c (n:Int):GV 231 [I n] (Bo (QWb n)):=by
 generalize hR:QWb n=R;refine gA (kp 3 []) Tryz.func231 ?_;refine us (Q33 n 1 100000 _) ?_;exact lfA
def Qg8 :List (Nat × Int)->Nat->Int × Int
 | [],n=>((n:Int),0)
 | x_ :: r,n=>bif ((Q32 x_.2)==0) then ((n:Int),40) else Qg8 r (n+1)
def Q05 (s:ByteArray):Int × Int:=Qg8 (Qxd s) 0
theorem QAb (s:ByteArray) (hs0:s.size<=4294967296):GV 255 [Sg s] (AVal.tup [I ((Q05 s).1),I ((Q05 s).2)]):=by
 generalize hR:Q05 s=R;refine gA (kp 7 [8,9,10,14]) Tryz.func255 ?_;have hk0:=hs0;obtain z5:s.size<=4294967296:=hs0;refine Qu0 (fun (n:Nat) (pos:Nat)=>∃ m,ByteArray.size s - pos<=m∧Qg8 (Qq5 s m pos) n=R∧n<=pos) (fun n pos=>ByteArray.size s - pos) (fun n pos=>[(2,I 0),(3,I 0),(4,I (n:Int)),(8,AVal.ptr 0 0 1 0 0)]) (fun n pos=>[(0,AObj.other (.strIter s pos))]) 0 0 (wkA [0]) ⟨ByteArray.size s,by exact omA,foll hR rfl,by exact exA⟩ ?_;clear hR;rintro n pos ⟨m,hm,hR,hx⟩;(try dsimp only at hR hm hx);apply ai<;>intro h1
 ·have hlt:=yca h1;have hw:=Q2a s pos;have hwe:=Q1a s pos hlt;obtain ⟨m,rfl⟩:=sucA m;rw [Q56 h1] at hR;refine ai (fun _=>?_) (fun h=>nomatch h);refine us (Q84 ((pos,((Utf8.decode s pos).1:Int)).2) _) ?_;apply ai<;>intro h3
  ·exact lfA
  ·exact Qc0 (n+1) (pos+(Utf8.decode s pos).2) (wkA [0]) omA ⟨m,by exact omA,foll hR (cf h3 rfl),by exact exA⟩
 ·rw [Q58 h1] at hR;refine ai (fun h=>nomatch h) (fun _=>?_);exact lfA
def Qw0 (y:Int):List Int->Nat->Bool
 | [],_=>((false||(y==45))||(y==95))
 | x_ :: r,i=>bif ((Q32 y)==x_) then true else Qw0 y r (i+1)
def Qr2 (r_:LexReader):Token × LexReader:=((⟨1,(QOa ((Q40 r_ (fun (y:Int)=>Qw0 y ([2,3]:List Int) 0)).1)),0,0⟩:Token),(Q40 r_ (fun (y:Int)=>Qw0 y ([2,3]:List Int) 0)).2)
theorem Qdc (r_:LexReader) (hs0:r_.sz) (hp0:0<=r_.at_∧r_.at_<=(r_.line.length:Int)∧r_.line.length<=400):AMoves Tryz.prog 302 [AVal.ptr 0 0 4 0 0] [(0,AObj.row 318 4 [[runes r_.line,I r_.at_,I r_.bad,I r_.error]])] 1 (Token.a ((Qr2 r_).1)) [(0,AObj.row 318 4 [[runes ((Qr2 r_).2.line),I ((Qr2 r_).2.at_),I ((Qr2 r_).2.bad),I ((Qr2 r_).2.error)]])]:=by
 generalize hR:Qr2 r_=R;refine mo (kp 5 []) Tryz.func302 ?_;have hk0:=hs0;obtain z7:r_.line.length<=4294967296:=hs0;refine Or.inl ?_;refine ACalls.of_cwp (fun _=>true) Tryz.func288 rfl rfl ?_;refine ⟨_,_,Told.refl,?_⟩;have cl1:∀ (y1:Int),AMoves Tryz.prog 313 [J y1,AVal.ptr 1 0 1 0 0] [(0,AObj.row 43 1 [[ints ([2,3]:List Int)]]),(0,AObj.row 319 1 [[AVal.fn (.func 301) [] [AVal.ptr 0 0 1 0 0]]])] 2 (Bo ((fun (y:Int)=>Qw0 y ([2,3]:List Int) 0) y1)) [(0,AObj.row 43 1 [[ints ([2,3]:List Int)]]),(0,AObj.row 319 1 [[AVal.fn (.func 301) [] [AVal.ptr 0 0 1 0 0]]])]:=by
  intro y1;have hR:(fun (y:Int)=>Qw0 y ([2,3]:List Int) 0) y1=(fun (y:Int)=>Qw0 y ([2,3]:List Int) 0) y1:=rfl;refine mo (kp 4 []) Tryz.func313 ?_;refine ACalls.of_cwp (fun _=>true) Tryz.func301 rfl rfl ?_;refine Qk0 (fun (i:Nat)=>Qw0 y1 (List.drop i ([2,3]:List Int)) i=(fun (y:Int)=>Qw0 y ([2,3]:List Int) 0) y1∧i<=([2,3]:List Int).length) (fun i=>([2,3]:List Int).length - i) (fun i=>[(0,J y1),(3,Bo false),(6,ints ([2,3]:List Int)),(7,I (([2,3]:List Int).length:Int)),(8,I (i:Int))]) (fun i=>[(0,AObj.row 43 1 [[ints ([2,3]:List Int)]]),(0,AObj.row 319 1 [[AVal.fn (.func 301) [] [AVal.ptr 0 0 1 0 0]]])]) 0 (wkA [0,1]) ⟨foll hR rfl,by exact omA⟩ ?_;clear hR;rintro i ⟨hR,hj⟩;(try dsimp only at hR hj);apply ai<;>intro h1
  ·(have hlt:i<([2,3]:List Int).length:=by have:=yca h1;omega);rw [Qd0 0 hlt] at hR;refine ai gkA ?_;refine us (Q84 y1 _) ?_;apply ai<;>intro h3
   ·refine ⟨_,_,Told.refl,?_⟩;refine Qs0 (fun r:Bool=>Bo r) (fun _=>[(0,AObj.row 43 1 [[ints ([2,3]:List Int)]]),(0,AObj.row 319 1 [[AVal.fn (.func 301) [] [AVal.ptr 0 0 1 0 0]]])]) (leaf:=true) (foll hR (ct h3 rfl)) ?_;exact tt [0,1] (tO rfl (ts (lv lw LowL.nil)) (tO rfl (QE1 (cv (QB4 .nil (cv (Qy0 0 rfl rfl) .nil)) .nil)) .nil)) t1
   ·exact Qr0 (i+1) (wkA [0,1]) omA ⟨folA,by exact omA⟩
  ·rw [Qh0 (l:=([2,3]:List Int)) (j:=i) (geA h1)] at hR;refine ⟨_,_,Told.refl,?_⟩;refine Qs0 (fun r:Bool=>Bo r) (fun _=>[(0,AObj.row 43 1 [[ints ([2,3]:List Int)]]),(0,AObj.row 319 1 [[AVal.fn (.func 301) [] [AVal.ptr 0 0 1 0 0]]])]) (leaf:=((false||(y1==45))||(y1==95))) (foll hR rfl) ?_;exact tt [0,1] (tO rfl (ts (lv lw LowL.nil)) (tO rfl (QE1 (cv (QB4 .nil (cv (Qy0 0 rfl rfl) .nil)) .nil)) .nil)) t1
 have hof1:AMoves Tryz.prog 289 [AVal.ptr 0 0 4 0 0,AVal.fn (.func 313) [] [AVal.ptr 2 0 1 0 0]] [(0,AObj.row 318 4 [[runes r_.line,I r_.at_,I r_.bad,I r_.error]]),(0,AObj.row 43 1 [[ints ([2,3]:List Int)]]),(0,AObj.row 319 1 [[AVal.fn (.func 301) [] [AVal.ptr 1 0 1 0 0]]])] 3 (Sg ((Q40 r_ (fun (y:Int)=>Qw0 y ([2,3]:List Int) 0)).1)) [(0,AObj.row 318 4 [[runes (((Q40 r_ (fun (y:Int)=>Qw0 y ([2,3]:List Int) 0)).2).line),I (((Q40 r_ (fun (y:Int)=>Qw0 y ([2,3]:List Int) 0)).2).at_),I (((Q40 r_ (fun (y:Int)=>Qw0 y ([2,3]:List Int) 0)).2).bad),I (((Q40 r_ (fun (y:Int)=>Qw0 y ([2,3]:List Int) 0)).2).error)]]),(0,AObj.row 43 1 [[ints ([2,3]:List Int)]]),(0,AObj.row 319 1 [[AVal.fn (.func 301) [] [AVal.ptr 1 0 1 0 0]]])]:=by
  have hR:Q40 r_ (fun (y:Int)=>Qw0 y ([2,3]:List Int) 0)=Q40 r_ (fun (y:Int)=>Qw0 y ([2,3]:List Int) 0):=rfl;refine mo (kp 6 [33]) Tryz.func289 ?_;refine Qk0 (fun (c:LexReader)=>∃ m,(((c.line.length:Int) - c.at_).toNat)<m∧QP0 r_ (Q31 (fun (y:Int)=>Qw0 y ([2,3]:List Int) 0) m c)=Q40 r_ (fun (y:Int)=>Qw0 y ([2,3]:List Int) 0)∧0<=c.at_∧c.at_<=(c.line.length:Int)∧c.line.length<=400∧r_.at_<=c.at_∧0<=r_.at_) (fun c=>(((c.line.length:Int) - c.at_).toNat)) (fun c=>[(0,AVal.ptr 0 0 4 0 0),(1,AVal.fn (.func 313) [] [AVal.ptr 2 0 1 0 0]),(4,Sg ⟨#[]⟩),(5,I r_.at_)]) (fun c=>[(0,AObj.row 318 4 [[runes c.line,I c.at_,I c.bad,I c.error]]),(0,AObj.row 43 1 [[ints ([2,3]:List Int)]]),(0,AObj.row 319 1 [[AVal.fn (.func 301) [] [AVal.ptr 1 0 1 0 0]]])]) r_ (wkA [0,1,2]) ⟨_,yTa _,foll hR rfl,by exact exA⟩ ?_;clear hR;rintro c ⟨m,hm,hR,hx⟩;(try dsimp only at hR hm hx);obtain ⟨m,rfl⟩:=sucA m;refine dchk (by kernel_rfl) ?_;refine ai gkA ?_;(first|apply u2|apply u3|apply u4|apply us);exact mv [1,2] (cl1 (c.line.getD (c.at_.toNat) 0)) (dO (ds (lv lw LowL.nil)) (dO (dc (dv (dn_fn .nil (dp .nil)) .nil)) .nil)) (d1 (dp .nil)) (rO (re (lv lw LowL.nil)) (rO (rc (rv (ren_fn .nil (.cons _ _ _ _ (rp 1 0 rfl) .nil)) .nil)) .nil)) rx;(repeat ((first|refine ai rfl ?_|refine ai (fun _=>rfl) ?_)));apply ai<;>intro h5
  ·have hq1:=yca ((yha _ _).mp h5).1;have hwr:w64 (c.at_+1)=c.at_+1:=wr oA;exact Qr0 { c with at_:=(w64 (c.at_+1)) } (wk [0,1,2] (tO rfl (ts LexReader.lo) (tO rfl (ts (lv lw LowL.nil)) (tO rfl (QE1 (cv (QB4 .nil (cv (Qy0 1 rfl rfl) .nil)) .nil)) .nil))) (sv (Qy0 0 rfl rfl) (sv (QB4 .nil (cv (Qy0 2 rfl rfl) .nil)) (s1 (s1 .nil))))) omA ⟨m,by exact omA,foll hR (congrArg (fun p:LexReader=>QP0 r_ p) (ct h5 rfl)),by exact exA⟩
  ·replace hR:QP0 r_ c=Q40 r_ (fun (y:Int)=>Qw0 y ([2,3]:List Int) 0):=fo2 (fun p:LexReader=>QP0 r_ p) (c) hR (cf h5 rfl);refine dchk (by kernel_rfl) ?_;refine ai gkA ?_;(first|refine ⟨(List.drop (r_.at_.toNat) (List.take (c.at_.toNat) c.line)),by exact cvA,?_⟩|refine ⟨_,fun _=>⟨(List.drop (r_.at_.toNat) (List.take (c.at_.toNat) c.line)),by exact cvA,rfl,rfl⟩,?_⟩|refine ⟨_,rfl,⟨(List.drop (r_.at_.toNat) (List.take (c.at_.toNat) c.line)),by exact cvA,Sub.refl _,rfl⟩,?_⟩);(repeat ((first|refine ai rfl ?_|refine ai (fun _=>rfl) ?_)));refine Qs0 (fun r:ByteArray × LexReader=>Sg r.1) (fun r:ByteArray × LexReader=>[(0,AObj.row 318 4 [[runes r.2.line,I r.2.at_,I r.2.bad,I r.2.error]]),(0,AObj.row 43 1 [[ints ([2,3]:List Int)]]),(0,AObj.row 319 1 [[AVal.fn (.func 301) [] [AVal.ptr 1 0 1 0 0]]])]) (leaf:=((runesBytes (List.drop (r_.at_.toNat) (List.take (c.at_.toNat) c.line))),c)) (foll hR rfl) ?_;exact tt [0,1,2] (tO rfl (ts LexReader.lo) (tO rfl (ts (lv lw LowL.nil)) (tO rfl (QE1 (cv (QB4 .nil (cv (Qy0 1 rfl rfl) .nil)) .nil)) .nil))) t1
 refine us (mv [0,2,3] (hof1) (dO (ds LexReader.lo) (dO (dc (dv (dn_as (QK5 (c:=(fun q_=>[I q_])) (d:=0) ([2,3]:List Int) rfl) lw) .nil)) (dO (dc (dv (dn_fn .nil (dp .nil)) .nil)) .nil))) (dp (dv (dn_fn .nil (dp .nil)) .nil)) (rO (re LexReader.lo) (rO (re (lv lw LowL.nil)) (rO (rc (rv (ren_fn .nil (.cons _ _ _ _ (rp 2 0 rfl) .nil)) .nil)) .nil))) rx) ?_;refine us (runes_Lower_c ((Q40 r_ (fun (y:Int)=>Qw0 y ([2,3]:List Int) 0)).1) (by first|(exact QF9 _ _ hp0.2.2)|exact szA) _) ?_;obtain rfl:=foll hR rfl;exact rq (ttA [0])
def QV9 (s:ByteArray):Int × Unit:=((QQ8 s).1,())
theorem strconv_Atoi_c (s:ByteArray) (hs0:s.size<=4294967296) (hp0:atoiOK s):GV 324 [Sg s] (AVal.tup [I ((QV9 s).1),AVal.lit .nilIface]):=by
 generalize hR:QV9 s=R;refine gA (kp 6 [12]) Tryz.func324 ?_;have hk0:=hs0;obtain z1:s.size<=4294967296:=hs0;refine us (Qee s szA ckA _) ?_;refine ai (fun h=>nomatch h) (fun _=>?_);exact lfA
def Qx1 (x_:Int) (held:Bool):Bool × Bool:=bif (((Q32 x_)==0)||((x_==34)&&(!held))) then (false,held) else (true,((x_==92)&&(!held)))
theorem Qca (x_:Int) (held:Bool):AMoves Tryz.prog 318 [J x_,AVal.ptr 0 0 1 0 0] [(0,AObj.row 4 1 [[Bo held]])] 1 (Bo ((Qx1 x_ held).1)) [(0,AObj.row 4 1 [[Bo ((Qx1 x_ held).2)]])]:=by
 generalize hR:Qx1 x_ held=R;refine mo (kp 4 [14]) Tryz.func318 ?_;refine us (Q84 x_ _) ?_;apply ai<;>intro h1
 ·obtain rfl:=foll hR (ct h1 rfl);exact rq (ttA [0])
 ·obtain rfl:=foll hR (cf h1 rfl);exact rq (ttA [0])
def QT0 (p_:List Int) (r_:Int):(List Int):=bif (decide ((wu32 r_)<=127)) then (p_++([(wu8 r_)]:List Int)) else (Qt2 p_ r_)
theorem Qyc (p_:List Int) (r_:Int) (hs0:p_.length<=4294967296):AMoves Tryz.prog 323 [AVal.own 0 0 1 0 p_.length,J r_] [(0,AObj.row 5 1 (p_.map (fun q_=>[Y q_])))] 0 (AVal.own 0 0 1 0 (QT0 p_ r_).length) [(0,AObj.row 5 1 ((QT0 p_ r_).map (fun q_=>[Y q_])))]:=by
 generalize hR:QT0 p_ r_=R;refine mo (kp 5 [7]) Tryz.func323 ?_;have hk0:=hs0;obtain z3:p_.length<=4294967296:=hs0;apply ai<;>intro h1
 ·have qh1:=yca h1;refine Or.inl ?_;(first|refine ⟨Qd1 1 rfl lnA apA,?_⟩|refine ⟨QB0 1 rfl apA,?_⟩);obtain rfl:=foll hR (ct h1 rfl);exact rq (ttA [0])
 ·have qh1:=yja h1;refine us (mv [0] (Qm8 p_ r_ szA) (dO (dr eqA) .nil) (dv (QP3 rfl lnA) (d1 .nil)) (rO rr .nil) (rw_ 1 0 rfl)) ?_;obtain rfl:=foll hR (cf h1 rfl);exact rq (ttA [1])
theorem Qy5 (l:List Int) (r_:Int):∃ k,QT0 l r_=l++k∧1<=k.length∧k.length<=4∧QE6 k:=by
 have h1:∀ a:Int,QE6 [wu8 a]:=fun a=>Qs5 (wu8_in a) QY9
 have h2:∀ a b:Int,QE6 [wu8 a,wu8 b]:=fun a b=>Qs5 (wu8_in a) (h1 b)
 have h3:∀ a b c:Int,QE6 [wu8 a,wu8 b,wu8 c]:=fun a b c=>Qs5 (wu8_in a) (h2 b c)
 have h4:∀ a b c d:Int,QE6 [wu8 a,wu8 b,wu8 c,wu8 d]:=fun a b c d=>Qs5 (wu8_in a) (h3 b c d)
 have hc:QE6 [239,191,189]:=Qs5 (by decide) (Qs5 (by decide) (Qs5 (by decide) QY9));unfold QT0;cases (decide ((wu32 r_)<=127)) with
 | true=>exact ⟨_,rfl,by simp,by simp,h1 _⟩
 | false =>
  simp only [cond_false];unfold Qt2
  repeat' first
   | exact ⟨_,rfl,by simp,by simp,h2 _ _⟩
   | exact ⟨_,rfl,by simp,by simp,h3 _ _ _⟩
   | exact ⟨_,rfl,by simp,by simp,h4 _ _ _ _⟩
   | exact ⟨_,rfl,by simp,by simp,hc⟩
   | unfold Qx2
   | (rw [yka];split)
theorem Q88 (l:List Int) (r_:Int):(QT0 l r_).length ≠ 0:=by
 obtain ⟨k,e,h,_⟩:=Qy5 l r_;rw [e,yma];omega
theorem QWa (l:List Int) (r_:Int):(QT0 l r_).length<=l.length+4:=by
 obtain ⟨k,e,_,h,_⟩:=Qy5 l r_;rw [e,yma];omega
theorem byteIn_rune (l:List Int) (r_:Int) (h:QE6 l):QE6 (QT0 l r_):=by
 obtain ⟨k,e,_,_,g⟩:=Qy5 l r_;rw [e];exact byteIn_app h g
def Qv0 (s:List Dep) (f:Dep->Bool):Bool:=(decide ((Qg1 s f) >= 0))
def cmd_id (n:Int):Bool:=(Qh3 n 1 99999)
theorem Qtd (n:Int):GV 235 [I n] (Bo (cmd_id n)):=by
 generalize hR:cmd_id n=R;refine gA (kp 3 []) Tryz.func235 ?_;refine us (Q33 n 1 99999 _) ?_;exact lfA
def Qrc (a:Shape) (b:Shape):Bool:=(((((a.kind==b.kind)&&(a.min==b.min))&&(a.max==b.max))&&(a.wall==b.wall))&&(Q07 a.alts b.alts))
theorem shape_Same_c (a:Shape) (b:Shape) (hs0:a.sz) (hs1:b.sz):GV 236 [Shape.a a,Shape.a b] (Bo (Qrc a b)):=by
 generalize hR:Qrc a b=R;refine gA (kp 5 []) Tryz.func236 ?_;have hk0:=hs0;obtain z1:a.alts.length<=4294967296:=hs0;have hk1:=hs1;obtain z2:b.alts.length<=4294967296:=hs1;(first|apply u2|apply u3|apply u4|apply us);exact QEb a.alts b.alts szA szA _;exact lfA
def Qq2 (v:Job):Bool:=(((((((v.nodes==0)&&(QQ1 v.start))&&(QQ1 v.limit))&&(decide (v.promise >= (-1))))&&(decide (v.promise<=1000000)))&&(decide (v.choice >= 0)))&&(decide (v.choice<=48)))
theorem Qie (v:Job):GV 126 [Job.a v] (Bo (Qq2 v)):=by
 generalize hR:Qq2 v=R;refine gA (kp 3 []) Tryz.func126 ?_;(first|apply u2|apply u3|apply u4|apply us);exact Qj4 v.start _;(first|apply u2|apply u3|apply u4|apply us);exact Qj4 v.limit _;exact lfA
def QQ0 (s:Int):Int:=(QU6 s)
theorem Qy1 (s:Int):GV 60 [U s] (I (QQ0 s)):=by
 generalize hR:QQ0 s=R;refine gA (kp 3 []) Tryz.func60 ?_;refine us (Q0b s _) ?_;exact lfA
theorem Qdd (s:Int):0<=QQ0 s∧QQ0 s<=127:=by
 have h:∀ a:BitVec 64,0<=w64 ((a &&& BitVec.ofInt 64 127).toNat:Int)∧w64 ((a &&& BitVec.ofInt 64 127).toNat:Int)<=127:=by
  intro a;have:(a &&& BitVec.ofInt 64 127).toNat<=127:=by rw [BitVec.toNat_and];exact Nat.and_le_right
  have e:w64 ((a &&& BitVec.ofInt 64 127).toNat:Int)=((a &&& BitVec.ofInt 64 127).toNat:Int):=wr oA;rw [e];omega
 exact h _
def QKa (n:Int):Int:=bif (decide (n<=0)) then 0 else bif (decide (n >= 64)) then 18446744073709551615 else (wu64 ((QD3 n) - 1))
theorem nodeset_All_c (n:Int):GV 228 [I n] (U (QKa n)):=by
 generalize hR:QKa n=R;refine gA (kp 3 [3,6]) Tryz.func228 ?_;apply ai<;>intro h1
 ·have qh1:=yca h1;exact lfA
 ·have qh1:=yja h1;apply ai<;>intro h3
  ·have qh3:=yca h3;exact lfA
  ·have qh3:=yja h3;refine us (QW5 n _) ?_;exact lfA
def Ql2 (s:List Node) (f:Node->Bool):Bool:=(decide ((Qm2 s f) >= 0))
def QF0 (s:List Int) (v:Int):Bool:=(decide ((Q27 s v) >= 0))
theorem Qz1 (s:List Int) (v:Int) (hs0:s.length<=4294967296):GV 113 [ints s,I v] (Bo (QF0 s v)):=by
 generalize hR:QF0 s v=R;refine gA (kp 5 []) Tryz.func113 ?_;have hk0:=hs0;obtain z1:s.length<=4294967296:=hs0;refine us (QGb s v szA _) ?_;exact lfA
def QE8 (l:List Book):List Book->Nat->Int
 | [],_=>0
 | x_ :: r,i=>bif ((!(QGd x_))||((decide ((i:Int) > 0))&&(decide ((l.getD ((w64 ((i:Int) - 1)).toNat) zI).id >= x_.id)))) then 190 else QE8 l r (i+1)
def QX9 (l:List Book):Int:=bif (decide ((l.length:Int) > 8)) then 190 else QE8 l l 0
theorem book_Check_c (l:List Book) (hs0:l.length<=4294967296):GV 75 [bookL l] (I (QX9 l)):=by
 generalize hR:QX9 l=R;refine gA (kp 5 [7,8,9,10,11,32]) Tryz.func75 ?_;have hk0:=hs0;obtain z7:l.length<=4294967296:=hs0;apply ai<;>intro h1
 ·have qh1:=yca h1;exact lfA
 ·have qh1:=yja h1;refine Qk0 (fun (i:Nat)=>QE8 l (List.drop i l) i=R∧i<=l.length) (fun i=>l.length - i) (fun i=>[(0,bookL l),(2,I 0),(8,bookL l),(9,I (l.length:Int)),(10,I (i:Int))]) (fun i=>[]) 0 (wkA []) ⟨folA,by exact omA⟩ ?_;clear hR;rintro i ⟨hR,hj⟩;(try dsimp only at hR hj);apply ai<;>intro h3
  ·have hlt:=ltA h3;rw [Qd0 zI hlt] at hR;refine ai gkA ?_;refine dchk (by kernel_rfl) ?_;(first|apply u2|apply u3|apply u4|apply us);exact QHd (l.getD i zI) _;refine ai gkA ?_;(repeat ((first|refine ai rfl ?_|refine ai (fun _=>rfl) ?_|refine ai (fun _=>QHd (l.getD i zI) _) ?_)));apply ai<;>intro h5
   ·exact lfA
   ·exact Qr0 (i+1) (wkA []) omA ⟨folA,by exact omA⟩
  ·rw [Qh0 (l:=l) (j:=i) (geA h3)] at hR;exact lfA
def Qo1 (x_:ByteArray) (y:ByteArray):Int:=bif (Q94 x_) then bif (Q94 y) then 0 else (-1) else bif (Q94 y) then 1 else bif (Op.bytesLess (ByteArray.toList x_) (ByteArray.toList y)) then (-1) else bif (!((Op.bytesLess (ByteArray.toList x_) (ByteArray.toList y))||(ByteArray.toList x_==ByteArray.toList y))) then 1 else 0
theorem QJ3 (x_:ByteArray) (y:ByteArray):GV 141 [Sg x_,Sg y] (I (Qo1 x_ y)):=by
 generalize hR:Qo1 x_ y=R;refine gA (kp 7 [11,12,13,16,19]) Tryz.func141 ?_;refine us (QK7 x_ _) ?_;refine us (QK7 y _) ?_;apply ai<;>intro h1
 ·apply ai<;>intro h3
  ·exact lfA
  ·exact lfA
 ·apply ai<;>intro h5
  ·exact lfA
  ·apply ai<;>intro h7
   ·exact lfA
   ·apply ai<;>intro h9
    ·exact lfA
    ·exact lfA
def QY8 :List Int->Int->Nat->Int × Int
 | [],s,_=>(s,0)
 | x_ :: r,s,i=>bif (((decide (x_<0))||(decide (x_ >= 64)))||((wu64 (BitVec.ofInt 64 s &&& BitVec.ofInt 64 (QD3 x_)).toNat)!=0)) then (0,90) else QY8 r (wu64 (BitVec.ofInt 64 s ||| BitVec.ofInt 64 (QD3 x_)).toNat) (i+1)
def QJ1 (l:List Int):Int × Int:=QY8 l 0 0
theorem QM6 (l:List Int) (hs0:l.length<=4294967296):GV 103 [ints l] (AVal.tup [U ((QJ1 l).1),I ((QJ1 l).2)]):=by
 generalize hR:QJ1 l=R;refine gA (kp 7 [7,8,9,10,25]) Tryz.func103 ?_;have hk0:=hs0;obtain z5:l.length<=4294967296:=hs0;refine Qu0 (fun (s:Int) (i:Nat)=>QY8 (List.drop i l) s i=R∧i<=l.length) (fun s i=>l.length - i) (fun s i=>[(2,U 0),(3,I 0),(4,U s),(7,ints l),(8,I (l.length:Int)),(9,I (i:Int))]) (fun s i=>[]) 0 0 (wkA []) ⟨foll hR rfl,by exact omA⟩ ?_;clear hR;rintro s i ⟨hR,hj⟩;(try dsimp only at hR hj);apply ai<;>intro h1
 ·have hlt:=ltA h1;rw [Qd0 0 hlt] at hR;refine ai gkA ?_;(first|apply u2|apply u3|apply u4|apply us);exact QW5 (l.getD i 0) _;apply ai<;>intro h3
  ·obtain rfl:=foll hR (ct h3 rfl);exact Q60 (Low.tup' (l1 (l1 .nil))) (Seen.tup (e1 (e1 .nil)))
  ·refine us (QW5 (l.getD i 0) _) ?_;exact Qc0 (wu64 (BitVec.ofInt 64 s ||| BitVec.ofInt 64 (QD3 (l.getD i 0))).toNat) (i+1) (wkA []) omA ⟨foll hR (cf h3 rfl),by exact omA⟩
 ·rw [Qh0 (l:=l) (j:=i) (geA h1)] at hR;exact lfA
def Qc2 (s:Int):Nat->List Int->Nat->(List Int)
 | 0,_,_=>[]
 | m+1,out,i=>bif (decide ((i:Int)<64)) then bif ((wu64 (BitVec.ofInt 64 s &&& BitVec.ofInt 64 (QD3 (i:Int))).toNat)!=0) then Qc2 s m (out++([(i:Int)]:List Int)) (i+1) else Qc2 s m out (i+1) else out
def QV3 (out:List Int):(List Int):=out
def QG0 (s:Int):(List Int):=QV3 (Qc2 s (((64 - (0:Int)).toNat)+1) [] 0)
theorem Qpa (s:Int):GV 142 [U s] (ints (QG0 s)):=by
 generalize hR:QG0 s=R;refine gA (kp 5 [5,6,12]) Tryz.func142 ?_;refine Qu0 (fun (out:List Int) (i:Nat)=>∃ m,((64 - (i:Int)).toNat)<m∧QV3 (Qc2 s m out i)=R∧out.length<=i) (fun out i=>((64 - (i:Int)).toNat)) (fun out i=>[(0,U s),(2,AVal.lit (.slice none 0 0)),(3,AVal.own 0 0 1 0 out.length),(5,I (i:Int))]) (fun out i=>[(0,AObj.row 3 1 (out.map (fun q_=>[I q_])))]) [] 0 ((QA1 3 1).trans (wkA [0])) ⟨_,yTa _,foll hR rfl,by exact exA⟩ ?_;clear hR;rintro out i ⟨m,hm,hR,hx⟩;(try dsimp only at hR hm hx);obtain ⟨m,rfl⟩:=sucA m;apply ai<;>intro h1
 ·have qh1:=yca h1;refine us (QW5 (i:Int) _) ?_;apply ai<;>intro h3
  ·refine Or.inl ?_;(first|refine ⟨Qd1 8 rfl lnA apA,?_⟩|refine ⟨QB0 8 rfl apA,?_⟩);exact Qc0 (out++([(i:Int)]:List Int)) (i+1) (wkA [0]) omA ⟨m,by exact omA,foll hR (congrArg (fun p:(List Int)=>QV3 p) (ct h1 (ct h3 rfl))),by exact exA⟩
  ·exact Qc0 out (i+1) (wkA [0]) omA ⟨m,by exact omA,foll hR (congrArg (fun p:(List Int)=>QV3 p) (ct h1 (cf h3 rfl))),by exact exA⟩
 ·have qh1:=yja h1;replace hR:QV3 out=R:=fo2 (fun p:(List Int)=>QV3 p) (out) hR (cf h1 rfl);obtain rfl:=foll hR rfl;exact Q60 lw (Qa0 0 _ rfl eqA lnA)
theorem Qh6 (s:Int):∀ (m:Nat) (out:List Int) (i:Nat),(∀ x ∈ out,0<=x∧x<64) -> ∀ x ∈ Qc2 s m out i,0<=x∧x<64
 | 0,_,_,_,x,hx=>by simp [Qc2] at hx
 | m+1,out,i,h,x,hx=>by
  rw [Qc2] at hx;cases hd:decide ((i:Int)<64) with
  | false=>rw [hd] at hx;exact h x hx
  | true =>
   rw [hd] at hx;have hi:=yca hd;simp only [cond_true] at hx;cases hb:((wu64 (BitVec.ofInt 64 s &&& BitVec.ofInt 64 (QD3 (i:Int))).toNat)!=0) with
   | false=>rw [hb] at hx;exact Qh6 s m out (i+1) h x hx
   | true =>
    rw [hb] at hx;refine Qh6 s m _ (i+1) (fun y hy=>?_) x hx;rcases List.mem_append.1 hy with hy|hy
    ·exact h y hy
    ·rw [List.mem_singleton.1 hy];omega
theorem Qfd (s:Int):∀ x ∈ QG0 s,0<=x∧x<64:=Qh6 s _ _ _ (fun x hx=>nomatch hx)
theorem Qed (s:Int) {i:Nat} (h:i<(QG0 s).length):0<=(QG0 s).getD i 0∧(QG0 s).getD i 0<64:=by
 have e:(QG0 s).getD i 0=(QG0 s)[i]:=by simp [List.getD,yba h]
 rw [e];exact Qfd s _ (ycb h)
theorem Qg6 (s:Int):∀ (m:Nat) (out:List Int) (i:Nat),out.length<=i->i<=64->(Qc2 s m out i).length<=64
 | 0,_,_,_,_=>by simp [Qc2]
 | m+1,out,i,h,h64=>by
  rw [Qc2];cases hd:decide ((i:Int)<64) with
  | false=>simp only [cond_false];omega
  | true =>
   have hi:=yca hd;simp only [cond_true];cases ((wu64 (BitVec.ofInt 64 s &&& BitVec.ofInt 64 (QD3 (i:Int))).toNat)!=0) with
   | false=>exact Qg6 s m out (i+1) oA oA
   | true=>exact Qg6 s m _ (i+1) (by simp;omega) oA
theorem QX6 (s:Int):(QG0 s).length<=64:=Qg6 s _ _ _ (by simp) oA
def Qu5 (s:Int) (n:Int):Bool:=(((decide (n >= 0))&&(decide (n<64)))&&((wu64 (BitVec.ofInt 64 s &&& BitVec.ofInt 64 (QD3 n)).toNat)!=0))
theorem Qb7 (s:Int) (n:Int):GV 44 [U s,I n] (Bo (Qu5 s n)):=by
 generalize hR:Qu5 s n=R;refine gA (kp 5 []) Tryz.func44 ?_;(first|apply u2|apply u3|apply u4|apply us);exact QW5 n _;exact lfA
def QX5 (n:Note) (job:Bool):Int:=bif ((((((!(Qgc n.kind))||(!job))||(decide (n.node<0)))||(decide (n.node >= 48)))||(decide (n.epoch<0)))||(decide (n.epoch > 999999999))) then 230 else 0
def QX3 (n:Note):Int:=bif ((n.kind==6)||(n.kind==13)) then QX5 n (n.job==0) else QX5 n ((decide (n.job >= 1))&&(decide (n.job<=99999)))
theorem QJ9 (n:Note):GV 23 [Note.a n] (I (QX3 n)):=by
 generalize hR:QX3 n=R;refine gA (kj [1000005] 5 [21,52]) Tryz.func23 ?_;refine Qu1 (fun (job:Bool)=>QX5 n job=R) (fun job=>[(1,AVal.ptr 0 0 4 0 0),(2,I 0),(4,Bo job)]) (fun job=>[(0,AObj.row 30 4 [[I n.kind,I n.node,I n.job,I n.epoch]])]) ?_ ?_
 ·clear hR;rintro job hR;(try dsimp only at hR);refine us (note_known_c n.kind _) ?_;apply ai<;>intro h1
  ·exact lfA
  ·exact lfA
 ·apply ai<;>intro h3
  ·exact Qj0 (n.job==0) (wkA [0]) (foll hR (ct h3 rfl))
  ·exact Qj0 ((decide (n.job >= 1))&&(decide (n.job<=99999))) (wkA [0]) (foll hR (cf h3 rfl))
theorem QL9 {n:Note} (h:QX3 n=0):0<=n.node:=by
 have key:∀ b,QX5 n b=0->0<=n.node:=fun b h=>by
  unfold QX5 at h
  by_cases hn:n.node<0
  ·rw [yoa hn] at h;simp at h
  ·omega
 unfold QX3 at h;rw [yka] at h;split at h <;> exact key _ h
def state_Copy (s:State):State:=s
theorem QJ5 (s:State) (hs0:s.sz):GV 28 [State.a s] (State.a s):=by
 generalize hR:state_Copy s=R;refine gA (kp 4 [26,27,28]) Tryz.func28 ?_;have hk0:=hs0;obtain ⟨z8,z9,z10,z11,z12,z13,z14⟩:=hs0;refine dchk (by kernel_rfl) ?_;(first|apply u2|apply u3|apply u4|apply us);exact mv [] (QG7 s.nodes szA) .nil (dl lw .nil) (rO rr .nil) (rw_ 2 0 rfl);(first|apply u2|apply u3|apply u4|apply us);exact mv [] (Q28 s.jobs szA) .nil (dl lw .nil) (rO rr .nil) (rw_ 3 0 rfl);(first|apply u2|apply u3|apply u4|apply us);exact mv [] (QS6 s.resizes szA) .nil (dl lw .nil) (rO rr .nil) (rw_ 4 0 rfl);(first|apply u2|apply u3|apply u4|apply us);exact mv [] (QF7 s.books szA) .nil (dl lw .nil) (rO rr .nil) (rw_ 5 0 rfl);(first|apply u2|apply u3|apply u4|apply us);exact mv [] (Q77 s.ledger szA) .nil (dl lw .nil) (rO rr .nil) (rw_ 6 0 rfl);(repeat ((first|refine ai rfl ?_|refine ai (fun _=>rfl) ?_)));refine Qk0 (fun (i:Nat)=>True∧i<=s.jobs.length) (fun i=>s.jobs.length - i) (fun i=>[(1,AVal.ptr 0 0 8 0 0),(2,AVal.ptr 1 0 8 0 0),(26,I (s.jobs.length:Int)),(27,I (i:Int))]) (fun i=>[(0,AObj.row 28 8 [[I s.now,AVal.own 2 0 7 0 s.nodes.length,AVal.own 3 0 20 0 s.jobs.length,AVal.own 4 0 5 0 s.resizes.length,AVal.own 5 0 4 0 s.books.length,AVal.own 6 0 4 0 s.ledger.length,I s.nextJob,I s.nextBook]]),(0,AObj.row 28 8 [[I 0,AVal.lit (.slice none 0 0),AVal.lit (.slice none 0 0),AVal.lit (.slice none 0 0),AVal.lit (.slice none 0 0),AVal.lit (.slice none 0 0),I 0,I 0]]),(0,AObj.row 40 7 (s.nodes.map Node.cells)),(0,AObj.row 55 20 (s.jobs.map Job.cells)),(0,AObj.row 89 5 (s.resizes.map Resize.cells)),(0,AObj.row 57 4 (s.books.map Book.cells)),(0,AObj.row 86 4 (s.ledger.map Usage.cells))]) 0 (wkA [0,1,2,3,4,5,6]) ⟨trivial,by exact omA⟩ ?_;have hR0:=hR;rintro i ⟨hR,hj⟩;(try dsimp only at hR hj);apply ai<;>intro h1
 ·have hlt:=ltA h1;have hxz:(s.jobs.getD i zG).sz:=QB1 (by first|assumption|grind) (Job.szz _);have hkz:=hxz;obtain ⟨z3,z4,z5,z6,z7⟩:=Job.zz hxz;refine dchk (by kernel_rfl) ?_;refine ai gkA ?_;refine ⟨_,Qf0 rfl rfl rfl (Qo0 zG i (by first|rfl|exact yda _|omega) ckA) rfl,?_⟩;(first|apply u2|apply u3|apply u4|apply us);exact QI4 ((s.jobs.getD i zG).shape.alts) szA _;refine ai gkA ?_;refine ⟨_,Qf0 rfl rfl rfl (Qo0 zG i (by first|rfl|exact yda _|omega) ckA) rfl,?_⟩;(first|apply u2|apply u3|apply u4|apply us);exact QJ4 ((s.jobs.getD i zG).after) szA _;refine ai gkA ?_;refine ⟨_,QV0 rfl rfl rfl rfl (Qo0 zG i (by first|rfl|exact yda _|omega) ckA) rfl rfl (Qv2 zG i (by first|rfl|exact yda _|omega) ckA rfl),?_⟩;refine ai gkA ?_;refine ⟨_,QV0 rfl rfl rfl rfl (Qo0 zG i (by first|rfl|exact yda _|omega) ckA) rfl rfl (Qv2 zG i (by first|rfl|exact yda _|omega) ckA rfl),?_⟩;(repeat ((first|refine ai rfl ?_|refine ai (fun _=>rfl) ?_|refine And.intro (Qf0 rfl rfl rfl (Qo0 zG i (by first|rfl|exact yda _|omega) ckA) rfl) ?_|refine ai (fun _=>QI4 ((s.jobs.getD i zG).shape.alts) szA _) ?_|refine And.intro (Qf0 rfl rfl rfl (Qo0 zG i (by first|rfl|exact yda _|omega) ckA) rfl) ?_|refine ai (fun _=>QJ4 ((s.jobs.getD i zG).after) szA _) ?_)));exact Qr0 (i+1) (wkA [0,1,2,3,4,5,6]) omA ⟨hR,by exact omA⟩
 ·skip;have hR:=hR0;obtain rfl:=foll hR rfl;exact Q60 (State.low _ _) (Seen.agg (e1 (ev (Qa0 zF _ rfl eqA lnA) (ev (Qa0 zG _ rfl eqA lnA) (ev (Qa0 zH _ rfl eqA lnA) (ev (Qa0 zI _ rfl eqA lnA) (ev (Qa0 zJ _ rfl eqA lnA) (e1 (e1 .nil)))))))))
theorem Q18 (s:State) (hs0:s.sz):AMoves Tryz.prog 28 [State.a s] [] 0 (AVal.agg [I s.now,nodeL s.nodes,jobL s.jobs,AVal.own 0 0 5 0 s.resizes.length,bookL s.books,Qt1 s.ledger,I s.nextJob,I s.nextBook]) [(0,AObj.row 89 5 (s.resizes.map Resize.cells))]:=by
 generalize hR:state_Copy s=R;refine mo (kp 4 [26,27,28]) Tryz.func28 ?_;have hk0:=hs0;obtain ⟨z8,z9,z10,z11,z12,z13,z14⟩:=hs0;refine dchk (by kernel_rfl) ?_;(first|apply u2|apply u3|apply u4|apply us);exact mv [] (QG7 s.nodes szA) .nil (dl lw .nil) (rO rr .nil) (rw_ 2 0 rfl);(first|apply u2|apply u3|apply u4|apply us);exact mv [] (Q28 s.jobs szA) .nil (dl lw .nil) (rO rr .nil) (rw_ 3 0 rfl);(first|apply u2|apply u3|apply u4|apply us);exact mv [] (QS6 s.resizes szA) .nil (dl lw .nil) (rO rr .nil) (rw_ 4 0 rfl);(first|apply u2|apply u3|apply u4|apply us);exact mv [] (QF7 s.books szA) .nil (dl lw .nil) (rO rr .nil) (rw_ 5 0 rfl);(first|apply u2|apply u3|apply u4|apply us);exact mv [] (Q77 s.ledger szA) .nil (dl lw .nil) (rO rr .nil) (rw_ 6 0 rfl);(repeat ((first|refine ai rfl ?_|refine ai (fun _=>rfl) ?_)));refine Qk0 (fun (i:Nat)=>True∧i<=s.jobs.length) (fun i=>s.jobs.length - i) (fun i=>[(1,AVal.ptr 0 0 8 0 0),(2,AVal.ptr 1 0 8 0 0),(26,I (s.jobs.length:Int)),(27,I (i:Int))]) (fun i=>[(0,AObj.row 28 8 [[I s.now,AVal.own 2 0 7 0 s.nodes.length,AVal.own 3 0 20 0 s.jobs.length,AVal.own 4 0 5 0 s.resizes.length,AVal.own 5 0 4 0 s.books.length,AVal.own 6 0 4 0 s.ledger.length,I s.nextJob,I s.nextBook]]),(0,AObj.row 28 8 [[I 0,AVal.lit (.slice none 0 0),AVal.lit (.slice none 0 0),AVal.lit (.slice none 0 0),AVal.lit (.slice none 0 0),AVal.lit (.slice none 0 0),I 0,I 0]]),(0,AObj.row 40 7 (s.nodes.map Node.cells)),(0,AObj.row 55 20 (s.jobs.map Job.cells)),(0,AObj.row 89 5 (s.resizes.map Resize.cells)),(0,AObj.row 57 4 (s.books.map Book.cells)),(0,AObj.row 86 4 (s.ledger.map Usage.cells))]) 0 (wkA [0,1,2,3,4,5,6]) ⟨trivial,by exact omA⟩ ?_;have hR0:=hR;rintro i ⟨hR,hj⟩;(try dsimp only at hR hj);apply ai<;>intro h1
 ·have hlt:=ltA h1;have hxz:(s.jobs.getD i zG).sz:=QB1 (by first|assumption|grind) (Job.szz _);have hkz:=hxz;obtain ⟨z3,z4,z5,z6,z7⟩:=Job.zz hxz;refine dchk (by kernel_rfl) ?_;refine ai gkA ?_;refine ⟨_,Qf0 rfl rfl rfl (Qo0 zG i (by first|rfl|exact yda _|omega) ckA) rfl,?_⟩;(first|apply u2|apply u3|apply u4|apply us);exact QI4 ((s.jobs.getD i zG).shape.alts) szA _;refine ai gkA ?_;refine ⟨_,Qf0 rfl rfl rfl (Qo0 zG i (by first|rfl|exact yda _|omega) ckA) rfl,?_⟩;(first|apply u2|apply u3|apply u4|apply us);exact QJ4 ((s.jobs.getD i zG).after) szA _;refine ai gkA ?_;refine ⟨_,QV0 rfl rfl rfl rfl (Qo0 zG i (by first|rfl|exact yda _|omega) ckA) rfl rfl (Qv2 zG i (by first|rfl|exact yda _|omega) ckA rfl),?_⟩;refine ai gkA ?_;refine ⟨_,QV0 rfl rfl rfl rfl (Qo0 zG i (by first|rfl|exact yda _|omega) ckA) rfl rfl (Qv2 zG i (by first|rfl|exact yda _|omega) ckA rfl),?_⟩;(repeat ((first|refine ai rfl ?_|refine ai (fun _=>rfl) ?_|refine And.intro (Qf0 rfl rfl rfl (Qo0 zG i (by first|rfl|exact yda _|omega) ckA) rfl) ?_|refine ai (fun _=>QI4 ((s.jobs.getD i zG).shape.alts) szA _) ?_|refine And.intro (Qf0 rfl rfl rfl (Qo0 zG i (by first|rfl|exact yda _|omega) ckA) rfl) ?_|refine ai (fun _=>QJ4 ((s.jobs.getD i zG).after) szA _) ?_)));exact Qr0 (i+1) (wkA [0,1,2,3,4,5,6]) omA ⟨hR,by exact omA⟩
 ·skip;have hR:=hR0;obtain rfl:=foll hR rfl;exact rq (tt [4] (tO rfl (tl eqA) .nil) (turn_agg (c1 (cv (Qn7 _ _ rfl (yna _) (by decide) eqA (fun _=>Node.lowc _ _) lnA) (cv (Qn7 _ _ rfl (yna _) (by decide) eqA (fun _=>Job.lowc _ _) lnA) (cv (to 0 lnA) (cv (Qn7 _ _ rfl (yna _) (by decide) eqA (fun _=>Book.lowc _ _) lnA) (cv (Qn7 _ _ rfl (yna _) (by decide) eqA (fun _=>Usage.lowc _ _) lnA) (c1 (c1 .nil))))))))))
def job_copied (j:Job):Job:=j
theorem QI6 (j:Job) (hs0:j.sz):GV 195 [Job.a j] (Job.a j):=by
 generalize hR:job_copied j=R;refine gA (kp 3 []) Tryz.func195 ?_;obtain ⟨z1,z2,z3,z4,z5⟩:=Job.zz hs0;refine us (QF4 j.shape.alts szA _) ?_;refine us (QG4 j.after szA _) ?_;exact lfA
def Qt5 (s:List (Int × Int)):List Dep->Nat->Bool
 | [],_=>false
 | x_ :: r,i=>bif ((QC4 s x_)==2) then true else Qt5 s r (i+1)
def Qp5 (s:List (Int × Int)) (j:Job):Bool:=Qt5 s j.after 0
theorem Q5b (s:List (Int × Int)) (j:Job) (hs0:j.sz):AMoves Tryz.prog 108 [AVal.map 0,Job.a j] [(0,AObj.other (.map (mapEs ik I 0 s) s.length))] 1 (Bo (Qp5 s j)) [(0,AObj.other (.map (mapEs ik I 0 s) s.length))]:=by
 generalize hR:Qp5 s j=R;refine mo (kp 7 [8,9,10,11,17]) Tryz.func108 ?_;obtain ⟨z5,z6,z7,z8,z9⟩:=Job.zz hs0;refine Qk0 (fun (i:Nat)=>Qt5 s (List.drop i j.after) i=R∧i<=j.after.length) (fun i=>j.after.length - i) (fun i=>[(0,AVal.map 0),(4,Bo false),(8,depL j.after),(9,I (j.after.length:Int)),(10,I (i:Int))]) (fun i=>[(0,AObj.other (.map (mapEs ik I 0 s) s.length))]) 0 (wkA [0]) ⟨foll hR rfl,by exact omA⟩ ?_;clear hR;rintro i ⟨hR,hj⟩;(try dsimp only at hR hj);apply ai<;>intro h1
 ·have hlt:=ltA h1;rw [Qd0 zC hlt] at hR;refine ai gkA ?_;refine us (mv [0] (Q47 s (j.after.getD i zC)) (dO (.same _ (Qd3 fun _=>lx)) .nil) (dv (Qha (Ren.map _ _ rfl)) (dv (Qo3 (Low.agg' (Dep.lo))) .nil)) (rO (RenO.same _ (Qd3 fun _=>lx)) .nil) rx) ?_;apply ai<;>intro h3
  ·obtain rfl:=foll hR (ct h3 rfl);exact rq (ttA [0])
  ·exact Qr0 (i+1) (wkA [0]) omA ⟨folA,by exact omA⟩
 ·rw [Qh0 (l:=j.after) (j:=i) (geA h1)] at hR;obtain rfl:=foll hR rfl;exact rq (ttA [0])
def Qq0 (l:List Job) (id_:Int):Int × Bool:=((QS0 l id_ (fun (y:Job) (y1:Int)=>(w64 (y.id - y1)))).1,(QS0 l id_ (fun (y:Job) (y1:Int)=>(w64 (y.id - y1)))).2)
theorem b1a0 {P:Prop} (h:P:=by first|(dsimp only;rw [hh3];omega)|first|(dsimp only;rw [hh];omega)|exact exA):P:=h
theorem QMb (l:List Job) (id_:Int) (hs0:l.length<=4294967296∧(∀ y ∈ l,y.sz)):GV 71 [jobL l,I id_] (AVal.tup [I ((Qq0 l id_).1),Bo ((Qq0 l id_).2)]):=by
 generalize hR:Qq0 l id_=R;refine gA (kp 6 []) Tryz.func71 ?_;obtain ⟨z10,z11⟩:=id hs0;have cl1:∀ (y1:Job) (y2:Int) (hzy1:y1.sz),AMoves Tryz.prog 131 [Job.a y1,I y2] [] 0 (I ((fun (y:Job) (y1:Int)=>(w64 (y.id - y1))) y1 y2)) []:=by
  intro y1 y2 hzy1;have hky1:=hzy1;obtain ⟨z1,z2,z3,z4,z5⟩:=Job.zz hzy1;have hR:(fun (y:Job) (y1:Int)=>(w64 (y.id - y1))) y1 y2=(fun (y:Job) (y1:Int)=>(w64 (y.id - y1))) y1 y2:=rfl;refine mo (kp 5 []) Tryz.func131 ?_;refine Qs0 (fun r:Int=>I r) (fun _=>[]) (leaf:=(w64 (y1.id - y2))) (foll hR rfl) ?_;exact tt [] .nil t1
 have hof1:AMoves Tryz.prog 130 [jobL l,I id_,AVal.fn (.func 131) [] []] [] 0 (AVal.tup [I ((QS0 l id_ (fun (y:Job) (y1:Int)=>(w64 (y.id - y1)))).1),Bo ((QS0 l id_ (fun (y:Job) (y1:Int)=>(w64 (y.id - y1)))).2)]) []:=by
  have hR:QS0 l id_ (fun (y:Job) (y1:Int)=>(w64 (y.id - y1)))=QS0 l id_ (fun (y:Job) (y1:Int)=>(w64 (y.id - y1))):=rfl;refine mo (kp 12 [17,31]) Tryz.func130 ?_;refine Qu0 (fun (i:Int) (j:Int)=>∃ m,((j - i).toNat)<m∧Qa1 l id_ (fun (y:Job) (y1:Int)=>(w64 (y.id - y1))) (Qz0 l id_ (fun (y:Job) (y1:Int)=>(w64 (y.id - y1))) m i j).1 (Qz0 l id_ (fun (y:Job) (y1:Int)=>(w64 (y.id - y1))) m i j).2=QS0 l id_ (fun (y:Job) (y1:Int)=>(w64 (y.id - y1)))∧0<=i∧i<=j∧j<=(l.length:Int)) (fun i j=>((j - i).toNat)) (fun i j=>[(0,jobL l),(1,I id_),(2,AVal.fn (.func 131) [] []),(6,I 0),(7,Bo false),(8,I (l.length:Int)),(9,I i),(10,I j)]) (fun i j=>[]) 0 (l.length:Int) (wkA []) ⟨_,yTa _,foll hR rfl,b1a0⟩ ?_;clear hR;rintro i j ⟨m,hm,hR,hx⟩;(try dsimp only at hR hm hx);obtain ⟨m,rfl⟩:=sucA m;refine ai (fun h6=>?_) (fun h7=>?_)
  ·have qh6:=yca h6;(have hq0:i<j:=qh6;have hh:w64 (Int.fdiv (wu64 (w64 (i+j))) (2 ^ (min (Int.toNat 1) 64)))=(i+j) / 2:=QHa hx.1 hq0 hx.2.2 oA;have hh3:w64 (w64 (Int.fdiv (wu64 (w64 (i+j))) (2 ^ (min (Int.toNat 1) 64)))+1)=(i+j) / 2+1:=by rw [hh];exact wr oA);refine And.intro (by first|exact fun hg=>yoa (by first|(show 0<=w64 (Int.fdiv (wu64 (w64 (i+j))) (2 ^ (min (Int.toNat 1) 64)))∧w64 (Int.fdiv (wu64 (w64 (i+j))) (2 ^ (min (Int.toNat 1) 64)))<(l.length:Int);rw [hh];omega)|exact ckA)|exact gkA) ?_;refine And.intro (by first|exact fun hg=>yoa (by first|(show 0<=w64 (Int.fdiv (wu64 (w64 (i+j))) (2 ^ (min (Int.toNat 1) 64)))∧w64 (Int.fdiv (wu64 (w64 (i+j))) (2 ^ (min (Int.toNat 1) 64)))<(l.length:Int);rw [hh];omega)|exact ckA)|exact gkA) ?_;refine us (mv [] (cl1 (l.getD ((w64 (Int.fdiv (wu64 (w64 (i+j))) (2 ^ (min (Int.toNat 1) 64)))).toNat) zG) id_ szA) .nil (dl (Job.low _ _) (d1 .nil)) .nil rx) ?_;apply ai<;>intro h8
   ·have qh8:=yca h8;exact Qc0 (w64 ((w64 (Int.fdiv (wu64 (w64 (i+j))) (2 ^ (min (Int.toNat 1) 64))))+1)) j (wkA []) (by first|(dsimp only;rw [hh3];omega)|first|(dsimp only;rw [hh];omega)|exact omA) ⟨m,by first|(dsimp only;rw [hh3];omega)|first|(dsimp only;rw [hh];omega)|exact omA,foll hR (congrArg (fun p:Int × Int=>Qa1 l id_ (fun (y:Job) (y1:Int)=>(w64 (y.id - y1))) p.1 p.2) (ct h6 (ct h8 rfl))),b1a0⟩
   ·have qh8:=yja h8;exact Qc0 i (w64 (Int.fdiv (wu64 (w64 (i+j))) (2 ^ (min (Int.toNat 1) 64)))) (wkA []) (by first|(dsimp only;rw [hh3];omega)|first|(dsimp only;rw [hh];omega)|exact omA) ⟨m,by first|(dsimp only;rw [hh3];omega)|first|(dsimp only;rw [hh];omega)|exact omA,foll hR (congrArg (fun p:Int × Int=>Qa1 l id_ (fun (y:Job) (y1:Int)=>(w64 (y.id - y1))) p.1 p.2) (ct h6 (cf h8 rfl))),b1a0⟩
  ·have qh7:=yja h7;replace hR:Qa1 l id_ (fun (y:Job) (y1:Int)=>(w64 (y.id - y1))) i j=QS0 l id_ (fun (y:Job) (y1:Int)=>(w64 (y.id - y1))):=fo2 (fun p:Int × Int=>Qa1 l id_ (fun (y:Job) (y1:Int)=>(w64 (y.id - y1))) p.1 p.2) (i,j) hR (cf h7 rfl);refine And.intro (by first|exact fun hg=>yoa (by first|(show 0<=w64 (Int.fdiv (wu64 (w64 (i+j))) (2 ^ (min (Int.toNat 1) 64)))∧w64 (Int.fdiv (wu64 (w64 (i+j))) (2 ^ (min (Int.toNat 1) 64)))<(l.length:Int);rw [hh];omega)|exact ckA)|exact gkA) ?_;(first|apply u2|apply u3|apply u4|apply us);exact mv [] (cl1 (l.getD (i.toNat) zG) id_ szA) .nil (dl (Job.low _ _) (d1 .nil)) .nil rx;refine Qs0 (fun r:Int × Bool=>AVal.tup [I r.1,Bo r.2]) (fun r:Int × Bool=>[]) (leaf:=(i,((decide (i<(l.length:Int)))&&(((fun (y:Job) (y1:Int)=>(w64 (y.id - y1))) (l.getD (i.toNat) zG) id_)==0)))) (foll hR rfl) ?_;exact tt [] .nil (turn_tup (c1 (c1 .nil)))
 refine us (mv [] (hof1) .nil (dl lw (d1 (dv (Qo3 (Low.fn _ _ _ LowL.nil LowL.nil)) .nil))) .nil (Ren.low _ (Low.tup' (l1 (l1 .nil))))) ?_;exact lfA
theorem bs_ge (x_:List Job) (target:Int) (cmp:Job->Int->Int) (hn:x_.length<=4294967296):∀ (m:Nat) (i j:Int),0<=i->i<=j->j<=(x_.length:Int)->0<=(Qz0 x_ target cmp m i j).1
 | 0,_,_,_,_,_=>by simp [Qz0]
 | m+1,i,j,h0,h1,h2=>by
  rw [Qz0];cases hd:decide (i<j) with
  | false=>exact h0
  | true =>
   have hlt:=yca hd;rw [QHa h0 hlt h2 oA];simp only [cond_true];cases decide (cmp (x_.getD (((i+j) / 2).toNat) zG) target<0) with
   | true =>
    have hw:w64 ((i+j) / 2+1)=(i+j) / 2+1:=wr oA;simp only [cond_true];rw [hw];exact bs_ge x_ target cmp hn m _ _ oA oA h2
   | false=>exact bs_ge x_ target cmp hn m _ _ h0 oA oA
theorem QI3 (l:List Job) (id_:Int) (hn:l.length<=4294967296) (h:(!(Qq0 l id_).2)=false):0<=(Qq0 l id_).1∧(Qq0 l id_).1<(l.length:Int):=by
 simp only [Qq0,QS0,Qa1,y2a,yha,yua] at h;exact ⟨bs_ge _ _ _ hn _ _ _ oA oA oA,h.1⟩
def table_whole (l:List Job):(List Job):=l
theorem QNb (l:List Job) (hs0:l.length<=4294967296∧(∀ y ∈ l,y.sz)):AMoves Tryz.prog 72 [jobL l] [] 0 (AVal.own 0 0 20 0 l.length) [(0,AObj.row 55 20 (l.map Job.cells))]:=by
 generalize hR:table_whole l=R;refine mo (kp 5 [8,9,10]) Tryz.func72 ?_;obtain ⟨z8,z9⟩:=id hs0;refine us (mv [] (Q78 l szA) .nil (dl lw .nil) (rO rr .nil) (rw_ 0 0 rfl)) ?_;refine Qk0 (fun (i:Nat)=>True∧i<=l.length) (fun i=>l.length - i) (fun i=>[(2,AVal.lit (.slice none 0 0)),(3,AVal.own 0 0 20 0 l.length),(8,I (l.length:Int)),(9,I (i:Int))]) (fun i=>[(0,AObj.row 55 20 (l.map Job.cells))]) 0 (wkA [0]) ⟨trivial,by exact omA⟩ ?_;have hR0:=hR;rintro i ⟨hR,hj⟩;(try dsimp only at hR hj);apply ai<;>intro h1
 ·have hlt:=ltA h1;have hxz:(l.getD i zG).sz:=QB1 (by first|assumption|grind) (Job.szz _);have hkz:=hxz;obtain ⟨z3,z4,z5,z6,z7⟩:=Job.zz hxz;refine ai gkA ?_;refine ⟨_,Qf0 rfl rfl rfl (Qo0 zG i (by first|rfl|exact yda _|omega) ckA) rfl,?_⟩;refine us (QKb ((l.getD i zG).shape.alts) szA _) ?_;refine ai gkA ?_;refine ⟨_,QV0 rfl rfl rfl rfl (Qo0 zG i (by first|rfl|exact yda _|omega) ckA) rfl rfl (Qv2 zG i (by first|rfl|exact yda _|omega) ckA rfl),?_⟩;refine ai gkA ?_;refine ⟨_,Qf0 rfl rfl rfl (Qo0 zG i (by first|rfl|exact yda _|omega) ckA) rfl,?_⟩;refine us (QLb ((l.getD i zG).after) szA _) ?_;refine ai gkA ?_;refine ⟨_,QV0 rfl rfl rfl rfl (Qo0 zG i (by first|rfl|exact yda _|omega) ckA) rfl rfl (Qv2 zG i (by first|rfl|exact yda _|omega) ckA rfl),?_⟩;exact Qr0 (i+1) (wkA [0]) omA ⟨hR,by exact omA⟩
 ·skip;have hR:=hR0;obtain rfl:=foll hR rfl;exact rq (ttA [0])
def QAe (l:List Job):(List Job):=l
theorem plan_copied_c (l:List Job) (hs0:l.length<=4294967296∧(∀ y ∈ l,y.sz)):GV 160 [jobL l] (jobL l):=by
 generalize hR:QAe l=R;refine gA (kp 5 [8,9,10]) Tryz.func160 ?_;obtain ⟨z8,z9⟩:=id hs0;refine us (mv [] (Q36 l szA) .nil (dl lw .nil) (rO rr .nil) (rw_ 0 0 rfl)) ?_;refine Qk0 (fun (i:Nat)=>True∧i<=l.length) (fun i=>l.length - i) (fun i=>[(2,AVal.lit (.slice none 0 0)),(3,AVal.own 0 0 20 0 l.length),(8,I (l.length:Int)),(9,I (i:Int))]) (fun i=>[(0,AObj.row 55 20 (l.map Job.cells))]) 0 (wkA [0]) ⟨trivial,by exact omA⟩ ?_;have hR0:=hR;rintro i ⟨hR,hj⟩;(try dsimp only at hR hj);apply ai<;>intro h1
 ·have hlt:=ltA h1;have hxz:(l.getD i zG).sz:=QB1 (by first|assumption|grind) (Job.szz _);have hkz:=hxz;obtain ⟨z3,z4,z5,z6,z7⟩:=Job.zz hxz;refine ai gkA ?_;refine ⟨_,Qf0 rfl rfl rfl (Qo0 zG i (by first|rfl|exact yda _|omega) ckA) rfl,?_⟩;refine us (QF4 ((l.getD i zG).shape.alts) szA _) ?_;refine ai gkA ?_;refine ⟨_,QV0 rfl rfl rfl rfl (Qo0 zG i (by first|rfl|exact yda _|omega) ckA) rfl rfl (Qv2 zG i (by first|rfl|exact yda _|omega) ckA rfl),?_⟩;refine ai gkA ?_;refine ⟨_,Qf0 rfl rfl rfl (Qo0 zG i (by first|rfl|exact yda _|omega) ckA) rfl,?_⟩;refine us (QG4 ((l.getD i zG).after) szA _) ?_;refine ai gkA ?_;refine ⟨_,QV0 rfl rfl rfl rfl (Qo0 zG i (by first|rfl|exact yda _|omega) ckA) rfl rfl (Qv2 zG i (by first|rfl|exact yda _|omega) ckA rfl),?_⟩;exact Qr0 (i+1) (wkA [0]) omA ⟨hR,by exact omA⟩
 ·skip;have hR:=hR0;obtain rfl:=foll hR rfl;exact Q60 lw (Qa0 zG _ rfl eqA lnA)
theorem QZ8 (l:List Job) (hs0:l.length<=4294967296∧(∀ y ∈ l,y.sz)):AMoves Tryz.prog 160 [jobL l] [] 0 (AVal.own 0 0 20 0 l.length) [(0,AObj.row 55 20 (l.map Job.cells))]:=by
 generalize hR:QAe l=R;refine mo (kp 5 [8,9,10]) Tryz.func160 ?_;obtain ⟨z8,z9⟩:=id hs0;refine us (mv [] (Q36 l szA) .nil (dl lw .nil) (rO rr .nil) (rw_ 0 0 rfl)) ?_;refine Qk0 (fun (i:Nat)=>True∧i<=l.length) (fun i=>l.length - i) (fun i=>[(2,AVal.lit (.slice none 0 0)),(3,AVal.own 0 0 20 0 l.length),(8,I (l.length:Int)),(9,I (i:Int))]) (fun i=>[(0,AObj.row 55 20 (l.map Job.cells))]) 0 (wkA [0]) ⟨trivial,by exact omA⟩ ?_;have hR0:=hR;rintro i ⟨hR,hj⟩;(try dsimp only at hR hj);apply ai<;>intro h1
 ·have hlt:=ltA h1;have hxz:(l.getD i zG).sz:=QB1 (by first|assumption|grind) (Job.szz _);have hkz:=hxz;obtain ⟨z3,z4,z5,z6,z7⟩:=Job.zz hxz;refine ai gkA ?_;refine ⟨_,Qf0 rfl rfl rfl (Qo0 zG i (by first|rfl|exact yda _|omega) ckA) rfl,?_⟩;refine us (QF4 ((l.getD i zG).shape.alts) szA _) ?_;refine ai gkA ?_;refine ⟨_,QV0 rfl rfl rfl rfl (Qo0 zG i (by first|rfl|exact yda _|omega) ckA) rfl rfl (Qv2 zG i (by first|rfl|exact yda _|omega) ckA rfl),?_⟩;refine ai gkA ?_;refine ⟨_,Qf0 rfl rfl rfl (Qo0 zG i (by first|rfl|exact yda _|omega) ckA) rfl,?_⟩;refine us (QG4 ((l.getD i zG).after) szA _) ?_;refine ai gkA ?_;refine ⟨_,QV0 rfl rfl rfl rfl (Qo0 zG i (by first|rfl|exact yda _|omega) ckA) rfl rfl (Qv2 zG i (by first|rfl|exact yda _|omega) ckA rfl),?_⟩;exact Qr0 (i+1) (wkA [0]) omA ⟨hR,by exact omA⟩
 ·skip;have hR:=hR0;obtain rfl:=foll hR rfl;exact rq (ttA [0])
def QZ6 (p_:List Step):List Step->Nat->Int
 | [],_=>0
 | x_ :: r,i=>bif (((!(QR7 x_.free))||(decide (x_.at_ > 1000000)))||((decide ((i:Int) > 0))&&((decide (x_.at_<=(p_.getD ((w64 ((i:Int) - 1)).toNat) zE).at_))||(x_.free==(p_.getD ((w64 ((i:Int) - 1)).toNat) zE).free)))) then 100 else QZ6 p_ r (i+1)
def QE2 (p_:List Step):Int:=bif ((((p_.length:Int)==0)||(decide ((p_.length:Int) > 1000)))||((p_.getD 0 zE).at_ != 0)) then 100 else QZ6 p_ p_ 0
theorem QV4 (p_:List Step) (hs0:p_.length<=4294967296):GV 206 [stepL p_] (I (QE2 p_)):=by
 generalize hR:QE2 p_=R;refine gA (kp 5 [19,20,21,22,23,61]) Tryz.func206 ?_;have hk0:=hs0;obtain z7:p_.length<=4294967296:=hs0;refine ai gkA ?_;apply ai<;>intro h1
 ·obtain rfl:=foll hR (ct h1 rfl);exact Q60 lx sr
 ·refine Qk0 (fun (i:Nat)=>QZ6 p_ (List.drop i p_) i=R∧i<=p_.length) (fun i=>p_.length - i) (fun i=>[(0,stepL p_),(2,I 0),(20,stepL p_),(21,I (p_.length:Int)),(22,I (i:Int))]) (fun i=>[]) 0 (wkA []) ⟨foll hR (cf h1 rfl),by exact omA⟩ ?_;clear hR;rintro i ⟨hR,hj⟩;(try dsimp only at hR hj);apply ai<;>intro h3
  ·have hlt:=ltA h3;rw [Qd0 zE hlt] at hR;refine ai gkA ?_;refine dchk (by kernel_rfl) ?_;(first|apply u2|apply u3|apply u4|apply us);exact Qd8 ((p_.getD i zE).free) _;refine ai gkA ?_;refine ai gkA ?_;(repeat ((first|refine ai rfl ?_|refine ai (fun _=>rfl) ?_|refine ai (fun _=>Qd8 ((p_.getD i zE).free) _) ?_)));apply ai<;>intro h5
   ·exact lfA
   ·exact Qr0 (i+1) (wkA []) omA ⟨folA,by exact omA⟩
  ·rw [Qh0 (l:=p_) (j:=i) (geA h3)] at hR;exact lfA
theorem Qj6 {p:List Step} (h:(QE2 p != 0)=false):1<=p.length∧p.length<=1000∧(p.getD 0 zE).at_=0:=by
 simp only [QE2] at h;revert h;cases h2:((((p.length:Int)==0)||(decide ((p.length:Int) > 1000)))||((p.getD 0 zE).at_ != 0)) with
 | true=>simp
 | false=>intro _;simp at h2;refine ⟨?_,by omega,h2.2⟩;have:=List.length_pos_iff.2 h2.1.1;omega
def Qn0 (p_:List Step) (t:Int):Int:=(w64 ((Q42 (p_.length:Int) (fun (y:Int)=>(decide ((p_.getD (y.toNat) zE).at_ > t)))) - 1))
theorem QM9 (p_:List Step) (t:Int) (hs0:p_.length<=4294967296):GV 211 [stepL p_,I t] (I (Qn0 p_ t)):=by
 generalize hR:Qn0 p_ t=R;refine gA (kp 5 []) Tryz.func211 ?_;have hk0:=hs0;obtain z5:p_.length<=4294967296:=hs0;have cl1:∀ (y1:Int) (hcl:0<=y1∧y1<(p_.length:Int)),AMoves Tryz.prog 246 [I y1,AVal.ptr 0 0 1 0 0,AVal.ptr 1 0 1 0 0] [(0,AObj.row 207 1 [[stepL p_]]),(0,AObj.row 3 1 [[I t]])] 2 (Bo ((fun (y:Int)=>(decide ((p_.getD (y.toNat) zE).at_ > t))) y1)) [(0,AObj.row 207 1 [[stepL p_]]),(0,AObj.row 3 1 [[I t]])]:=by
  intro y1 hcl;have hR:(fun (y:Int)=>(decide ((p_.getD (y.toNat) zE).at_ > t))) y1=(fun (y:Int)=>(decide ((p_.getD (y.toNat) zE).at_ > t))) y1:=rfl;refine mo (kp 5 []) Tryz.func246 ?_;refine dchk (by kernel_rfl) ?_;refine ai gkA ?_;(repeat ((first|refine ai rfl ?_|refine ai (fun _=>rfl) ?_)));refine Qs0 (fun r:Bool=>Bo r) (fun _=>[(0,AObj.row 207 1 [[stepL p_]]),(0,AObj.row 3 1 [[I t]])]) (leaf:=(decide ((p_.getD (y1.toNat) zE).at_ > t))) (foll hR rfl) ?_;exact tt [0,1] (tO rfl (ts (lv lw LowL.nil)) (tO rfl (ts (l1 LowL.nil)) .nil)) t1
 have hof1:AMoves Tryz.prog 245 [I (p_.length:Int),AVal.fn (.func 246) [] [AVal.ptr 0 0 1 0 0,AVal.ptr 1 0 1 0 0]] [(0,AObj.row 207 1 [[stepL p_]]),(0,AObj.row 3 1 [[I t]])] 2 (I (Q42 (p_.length:Int) (fun (y:Int)=>(decide ((p_.getD (y.toNat) zE).at_ > t))))) [(0,AObj.row 207 1 [[stepL p_]]),(0,AObj.row 3 1 [[I t]])]:=by
  have hR:Q42 (p_.length:Int) (fun (y:Int)=>(decide ((p_.getD (y.toNat) zE).at_ > t)))=Q42 (p_.length:Int) (fun (y:Int)=>(decide ((p_.getD (y.toNat) zE).at_ > t))):=rfl;refine mo (kp 8 [11,21]) Tryz.func245 ?_;refine Qu0 (fun (i:Int) (j:Int)=>∃ m,((j - i).toNat)<m∧Qu4 (Qn1 (fun (y:Int)=>(decide ((p_.getD (y.toNat) zE).at_ > t))) m i j).1 (Qn1 (fun (y:Int)=>(decide ((p_.getD (y.toNat) zE).at_ > t))) m i j).2=Q42 (p_.length:Int) (fun (y:Int)=>(decide ((p_.getD (y.toNat) zE).at_ > t)))∧0<=i∧i<=j∧j<=(p_.length:Int)) (fun i j=>((j - i).toNat)) (fun i j=>[(1,AVal.fn (.func 246) [] [AVal.ptr 0 0 1 0 0,AVal.ptr 1 0 1 0 0]),(4,I 0),(5,I i),(6,I j)]) (fun i j=>[(0,AObj.row 207 1 [[stepL p_]]),(0,AObj.row 3 1 [[I t]])]) 0 (p_.length:Int) (wkA [0,1]) ⟨_,yTa _,foll hR rfl,by exact exA⟩ ?_;clear hR;rintro i j ⟨m,hm,hR,hx⟩;(try dsimp only at hR hm hx);obtain ⟨m,rfl⟩:=sucA m;apply ai<;>intro h1
  ·have qh1:=yca h1;(have hq0:i<j:=qh1;have hh:w64 (Int.fdiv (wu64 (w64 (i+j))) (2 ^ (min (Int.toNat 1) 64)))=(i+j) / 2:=QHa hx.1 hq0 hx.2.2 oA;have hh3:w64 (w64 (Int.fdiv (wu64 (w64 (i+j))) (2 ^ (min (Int.toNat 1) 64)))+1)=(i+j) / 2+1:=by rw [hh];exact wr oA);refine ai gkA ?_;refine us (mv [0,1] (cl1 (w64 (Int.fdiv (wu64 (w64 (i+j))) (2 ^ (min (Int.toNat 1) 64)))) ckA) (dO (ds (lv lw LowL.nil)) (dO (ds (l1 LowL.nil)) .nil)) (d1 (dp (dp .nil))) (rO (re (lv lw LowL.nil)) (rO (re (l1 LowL.nil)) .nil)) rx) ?_;apply ai<;>intro h3
   ·exact Qc0 (w64 ((w64 (Int.fdiv (wu64 (w64 (i+j))) (2 ^ (min (Int.toNat 1) 64))))+1)) j (wkA [0,1]) (by first|(dsimp only;rw [hh3];omega)|first|(dsimp only;rw [hh];omega)|exact omA) ⟨m,by first|(dsimp only;rw [hh3];omega)|first|(dsimp only;rw [hh];omega)|exact omA,foll hR (congrArg (fun p:Int × Int=>Qu4 p.1 p.2) (ct h1 (ct h3 rfl))),by exact exA⟩
   ·exact Qc0 i (w64 (Int.fdiv (wu64 (w64 (i+j))) (2 ^ (min (Int.toNat 1) 64)))) (wkA [0,1]) (by first|(dsimp only;rw [hh3];omega)|first|(dsimp only;rw [hh];omega)|exact omA) ⟨m,by first|(dsimp only;rw [hh3];omega)|first|(dsimp only;rw [hh];omega)|exact omA,foll hR (congrArg (fun p:Int × Int=>Qu4 p.1 p.2) (ct h1 (cf h3 rfl))),by exact exA⟩
  ·have qh1:=yja h1;replace hR:Qu4 i j=Q42 (p_.length:Int) (fun (y:Int)=>(decide ((p_.getD (y.toNat) zE).at_ > t))):=fo2 (fun p:Int × Int=>Qu4 p.1 p.2) (i,j) hR (cf h1 rfl);refine Qs0 (fun r:Int=>I r) (fun r:Int=>[(0,AObj.row 207 1 [[stepL p_]]),(0,AObj.row 3 1 [[I t]])]) (leaf:=i) (foll hR rfl) ?_;exact tt [0,1] (tO rfl (ts (lv lw LowL.nil)) (tO rfl (ts (l1 LowL.nil)) .nil)) t1
 refine us (mv [0,1] (hof1) (dO (ds (lv lw LowL.nil)) (dO (ds (l1 LowL.nil)) .nil)) (d1 (dv (dn_fn .nil (dp (dp .nil))) .nil)) (rO (re (lv lw LowL.nil)) (rO (re (l1 LowL.nil)) .nil)) rx) ?_;exact lfA
theorem Qk9 {p:List Step} {t:Int} (h1:1<=p.length) (h2:p.length<=1000) (h3:(p.getD 0 zE).at_=0) (ht:0<=t):0<=Qn0 p t∧Qn0 p t<p.length:=by
 obtain ⟨a,b,c,d⟩:=Qjd (fun (y:Int)=>(decide ((p.getD (y.toNat) zE).at_ > t))) (N:=p.length) oA;have h4:1<=Q42 (p.length:Int) (fun (y:Int)=>(decide ((p.getD (y.toNat) zE).at_ > t))):=by
  rcases Int.lt_or_le 0 (Q42 (p.length:Int) (fun (y:Int)=>(decide ((p.getD (y.toNat) zE).at_ > t)))) with h|h
  ·omega
  ·have e:Q42 (p.length:Int) (fun (y:Int)=>(decide ((p.getD (y.toNat) zE).at_ > t)))=0:=by omega
   have:=d oA;rw [e] at this;have:=yca this;simp only [Int.toNat_zero] at this;omega
 have e:Qn0 p t=Q42 (p.length:Int) (fun (y:Int)=>(decide ((p.getD (y.toNat) zE).at_ > t))) - 1:=wr oA;rw [e];omega
def Q4a (long:Int) (nodes:Int):Bool:=((Qq8 nodes 1 1000000)&&(Qq8 long 1 1000000))
theorem Q4c (long:Int) (nodes:Int):GV 213 [I long,I nodes] (Bo (Q4a long nodes)):=by
 generalize hR:Q4a long nodes=R;refine gA (kp 5 []) Tryz.func213 ?_;refine us (Qs9 nodes 1 1000000 _) ?_;(first|apply u2|apply u3|apply u4|apply us);exact Qs9 long 1 1000000 _;exact lfA
def Qqc (end_:Int):List Int->Int->Nat->Int × Bool
 | [],left,_=>((w64 (end_ - left)),true)
 | x_ :: r,left,i=>bif (decide ((Qr4 x_ 0 end_) > left)) then (end_,false) else Qqc end_ r (w64 (left - (Qr4 x_ 0 end_))) (i+1)
def QHe (end_:Int) (l:List Int):Int × Bool:=Qqc end_ l end_ 0
theorem sat_sum_c (end_:Int) (l:List Int) (hs0:l.length<=4294967296):GV 229 [I end_,ints l] (AVal.tup [I ((QHe end_ l).1),Bo ((QHe end_ l).2)]):=by
 generalize hR:QHe end_ l=R;refine gA (kp 9 [10,11,12,13,21]) Tryz.func229 ?_;have hk0:=hs0;obtain z5:l.length<=4294967296:=hs0;refine Qu0 (fun (left:Int) (i:Nat)=>Qqc end_ (List.drop i l) left i=R∧i<=l.length) (fun left i=>l.length - i) (fun left i=>[(0,I end_),(4,I 0),(5,Bo false),(6,I left),(10,ints l),(11,I (l.length:Int)),(12,I (i:Int))]) (fun left i=>[]) end_ 0 (wkA []) ⟨foll hR rfl,by exact omA⟩ ?_;clear hR;rintro left i ⟨hR,hj⟩;(try dsimp only at hR hj);apply ai<;>intro h1
 ·have hlt:=ltA h1;rw [Qd0 0 hlt] at hR;refine ai gkA ?_;refine us (Ql9 (l.getD i 0) 0 end_ _) ?_;apply ai<;>intro h3
  ·have qh3:=yca h3;exact lfA
  ·have qh3:=yja h3;exact Qc0 (w64 (left - (Qr4 (l.getD i 0) 0 end_))) (i+1) (wkA []) omA ⟨folA,by exact omA⟩
 ·rw [Qh0 (l:=l) (j:=i) (geA h1)] at hR;exact lfA
def QO5 (s:List (Int × Int)):List Dep->Nat->Bool
 | [],_=>true
 | x_ :: r,i=>bif ((QC4 s x_)!=1) then false else QO5 s r (i+1)
def Qr7 (s:List (Int × Int)) (j:Job):Bool:=QO5 s j.after 0
theorem Q1c (s:List (Int × Int)) (j:Job) (hs0:j.sz):AMoves Tryz.prog 221 [AVal.map 0,Job.a j] [(0,AObj.other (.map (mapEs ik I 0 s) s.length))] 1 (Bo (Qr7 s j)) [(0,AObj.other (.map (mapEs ik I 0 s) s.length))]:=by
 generalize hR:Qr7 s j=R;refine mo (kp 7 [8,9,10,11,17]) Tryz.func221 ?_;obtain ⟨z5,z6,z7,z8,z9⟩:=Job.zz hs0;refine Qk0 (fun (i:Nat)=>QO5 s (List.drop i j.after) i=R∧i<=j.after.length) (fun i=>j.after.length - i) (fun i=>[(0,AVal.map 0),(4,Bo false),(8,depL j.after),(9,I (j.after.length:Int)),(10,I (i:Int))]) (fun i=>[(0,AObj.other (.map (mapEs ik I 0 s) s.length))]) 0 (wkA [0]) ⟨foll hR rfl,by exact omA⟩ ?_;clear hR;rintro i ⟨hR,hj⟩;(try dsimp only at hR hj);apply ai<;>intro h1
 ·have hlt:=ltA h1;rw [Qd0 zC hlt] at hR;refine ai gkA ?_;refine us (mv [0] (Q47 s (j.after.getD i zC)) (dO (.same _ (Qd3 fun _=>lx)) .nil) (dv (Qha (Ren.map _ _ rfl)) (dv (Qo3 (Low.agg' (Dep.lo))) .nil)) (rO (RenO.same _ (Qd3 fun _=>lx)) .nil) rx) ?_;apply ai<;>intro h3
  ·obtain rfl:=foll hR (ct h3 rfl);exact rq (ttA [0])
  ·exact Qr0 (i+1) (wkA [0]) omA ⟨folA,by exact omA⟩
 ·rw [Qh0 (l:=j.after) (j:=i) (geA h1)] at hR;obtain rfl:=foll hR rfl;exact rq (ttA [0])
def squeeze_copied (l:List Job):(List Job):=l
theorem Qkd (l:List Job) (hs0:l.length<=4294967296∧(∀ y ∈ l,y.sz)):AMoves Tryz.prog 162 [jobL l] [] 0 (AVal.own 0 0 20 0 l.length) [(0,AObj.row 55 20 (l.map Job.cells))]:=by
 generalize hR:squeeze_copied l=R;refine mo (kp 5 [8,9,10]) Tryz.func162 ?_;obtain ⟨z8,z9⟩:=id hs0;refine us (mv [] (Q36 l szA) .nil (dl lw .nil) (rO rr .nil) (rw_ 0 0 rfl)) ?_;refine Qk0 (fun (i:Nat)=>True∧i<=l.length) (fun i=>l.length - i) (fun i=>[(2,AVal.lit (.slice none 0 0)),(3,AVal.own 0 0 20 0 l.length),(8,I (l.length:Int)),(9,I (i:Int))]) (fun i=>[(0,AObj.row 55 20 (l.map Job.cells))]) 0 (wkA [0]) ⟨trivial,by exact omA⟩ ?_;have hR0:=hR;rintro i ⟨hR,hj⟩;(try dsimp only at hR hj);apply ai<;>intro h1
 ·have hlt:=ltA h1;have hxz:(l.getD i zG).sz:=QB1 (by first|assumption|grind) (Job.szz _);have hkz:=hxz;obtain ⟨z3,z4,z5,z6,z7⟩:=Job.zz hxz;refine ai gkA ?_;refine ⟨_,Qf0 rfl rfl rfl (Qo0 zG i (by first|rfl|exact yda _|omega) ckA) rfl,?_⟩;refine us (QF4 ((l.getD i zG).shape.alts) szA _) ?_;refine ai gkA ?_;refine ⟨_,QV0 rfl rfl rfl rfl (Qo0 zG i (by first|rfl|exact yda _|omega) ckA) rfl rfl (Qv2 zG i (by first|rfl|exact yda _|omega) ckA rfl),?_⟩;refine ai gkA ?_;refine ⟨_,Qf0 rfl rfl rfl (Qo0 zG i (by first|rfl|exact yda _|omega) ckA) rfl,?_⟩;refine us (QG4 ((l.getD i zG).after) szA _) ?_;refine ai gkA ?_;refine ⟨_,QV0 rfl rfl rfl rfl (Qo0 zG i (by first|rfl|exact yda _|omega) ckA) rfl rfl (Qv2 zG i (by first|rfl|exact yda _|omega) ckA rfl),?_⟩;exact Qr0 (i+1) (wkA [0]) omA ⟨hR,by exact omA⟩
 ·skip;have hR:=hR0;obtain rfl:=foll hR rfl;exact rq (ttA [0])
def Qic (a:Shape) (b:Shape):Bool:=(((((a.kind==b.kind)&&(a.min==b.min))&&(a.max==b.max))&&(a.wall==b.wall))&&(Qe8 a.alts b.alts))
theorem ref07_Same_c (a:Shape) (b:Shape) (hs0:a.sz) (hs1:b.sz):GV 120 [Shape.a a,Shape.a b] (Bo (Qic a b)):=by
 generalize hR:Qic a b=R;refine gA (kp 5 []) Tryz.func120 ?_;have hk0:=hs0;obtain z1:a.alts.length<=4294967296:=hs0;have hk1:=hs1;obtain z2:b.alts.length<=4294967296:=hs1;(first|apply u2|apply u3|apply u4|apply us);exact Qhd a.alts b.alts szA szA _;exact lfA
def QK6 :List Job->Nat->Bool
 | [],_=>true
 | x_ :: r,i=>bif (!(Qt8 x_)) then false else QK6 r (i+1)
def Qob (l:List Job):Bool:=bif (decide ((l.length:Int) > 60)) then false else QK6 l 0
theorem law15_Few_c (l:List Job) (hs0:l.length<=9223372036854775807∧(∀ y ∈ l,y.szM)):GV 14 [jobL l] (Bo (Qob l)):=by
 generalize hR:Qob l=R;refine gA (kp 4 [6,10,18]) Tryz.func14 ?_;obtain ⟨z12,z13⟩:=id hs0;refine ai (fun h1=>?_) (fun h2=>?_)
 ·have qh1:=yca h1;exact lfA
 ·have qh2:=yja h2;refine Qk0 (fun (i:Nat)=>QK6 (List.drop i l) i=R∧i<=l.length) (fun i=>l.length - i) (fun i=>[(0,jobL l),(2,Bo false),(3,I (i:Int))]) (fun i=>[]) 0 (wkA []) ⟨folA,by exact omA⟩ ?_;clear hR;rintro i ⟨hR,hj⟩;(try dsimp only at hR hj);refine ai (fun h3=>?_) (fun h4=>?_)
  ·have hlt:=ltA h3;rw [Qd0 zG hlt] at hR;have hxz:(l.getD i zG).szM:=QB1 (by first|assumption|grind) (Job.szz _);have hkz:=hxz;obtain ⟨z5,z6,z7,z8,z9⟩:((l.getD i zG).name).size<=9223372036854775807∧((l.getD i zG).user).size<=9223372036854775807∧((l.getD i zG).account).size<=9223372036854775807∧((((l.getD i zG).shape).alts).length<=9223372036854775807)∧((l.getD i zG).after).length<=9223372036854775807:=hxz;refine ai gkA ?_;refine us (law14_Few_c (l.getD i zG) _) ?_;refine ai (fun h10=>?_) (fun h11=>?_)
   ·exact lfA
   ·exact Qr0 (i+1) (wkA []) omA ⟨folA,by exact omA⟩
  ·rw [Qh0 (l:=l) (j:=i) (geA h4)] at hR;exact lfA
def Qh8 (l:List Alt):List Alt->Nat->Bool
 | [],_=>true
 | x_ :: r,i=>bif (Qi1 (List.take i l) (fun (y:Alt)=>(x_.nodes==y.nodes))) then false else Qh8 l r (i+1)
def Qa9 (l:List Alt):Bool:=Qh8 l l 0
theorem shape_apart_c (l:List Alt) (hs0:l.length<=4294967296):GV 223 [altL l] (Bo (Qa9 l)):=by
 generalize hR:Qa9 l=R;refine gA (kp 5 [5,6,7,8,16]) Tryz.func223 ?_;have hk0:=hs0;obtain z9:l.length<=4294967296:=hs0;refine Qk0 (fun (i:Nat)=>Qh8 l (List.drop i l) i=R∧i<=l.length) (fun i=>l.length - i) (fun i=>[(0,altL l),(2,Bo false),(5,altL l),(6,I (l.length:Int)),(7,I (i:Int))]) (fun i=>[]) 0 (wkA []) ⟨foll hR rfl,by exact omA⟩ ?_;clear hR;rintro i ⟨hR,hj⟩;(try dsimp only at hR hj);apply ai<;>intro h1
 ·have hlt:=ltA h1;rw [Qd0 zA hlt] at hR;refine ai gkA ?_;refine ai gkA ?_;have cl1:∀ (y1:Alt),AMoves Tryz.prog 253 [Alt.a y1,AVal.ptr 0 0 2 0 0] [(0,AObj.row 103 2 [[I (l.getD i zA).nodes,I (l.getD i zA).wall]])] 1 (Bo ((fun (y:Alt)=>((l.getD i zA).nodes==y.nodes)) y1)) [(0,AObj.row 103 2 [[I (l.getD i zA).nodes,I (l.getD i zA).wall]])]:=by
   intro y1;have hR:(fun (y:Alt)=>((l.getD i zA).nodes==y.nodes)) y1=(fun (y:Alt)=>((l.getD i zA).nodes==y.nodes)) y1:=rfl;refine mo (kp 4 []) Tryz.func253 ?_;refine Qs0 (fun r:Bool=>Bo r) (fun _=>[(0,AObj.row 103 2 [[I (l.getD i zA).nodes,I (l.getD i zA).wall]])]) (leaf:=((l.getD i zA).nodes==y1.nodes)) (foll hR rfl) ?_;exact tt [0] (tO rfl (ts Alt.lo) .nil) t1
  have hof1:AMoves Tryz.prog 224 [altL (List.take i l),AVal.fn (.func 253) [] [AVal.ptr 0 0 2 0 0]] [(0,AObj.row 103 2 [[I (l.getD i zA).nodes,I (l.getD i zA).wall]])] 1 (Bo (Qi1 (List.take i l) (fun (y:Alt)=>((l.getD i zA).nodes==y.nodes)))) [(0,AObj.row 103 2 [[I (l.getD i zA).nodes,I (l.getD i zA).wall]])]:=by
   have hR:Qi1 (List.take i l) (fun (y:Alt)=>((l.getD i zA).nodes==y.nodes))=Qi1 (List.take i l) (fun (y:Alt)=>((l.getD i zA).nodes==y.nodes)):=rfl;refine mo (kp 5 []) Tryz.func224 ?_;have hof2:AMoves Tryz.prog 254 [altL (List.take i l),AVal.fn (.func 253) [] [AVal.ptr 0 0 2 0 0]] [(0,AObj.row 103 2 [[I (l.getD i zA).nodes,I (l.getD i zA).wall]])] 1 (I (Qf1 (List.take i l) (fun (y:Alt)=>((l.getD i zA).nodes==y.nodes)))) [(0,AObj.row 103 2 [[I (l.getD i zA).nodes,I (l.getD i zA).wall]])]:=by
    have hR:Qf1 (List.take i l) (fun (y:Alt)=>((l.getD i zA).nodes==y.nodes))=Qf1 (List.take i l) (fun (y:Alt)=>((l.getD i zA).nodes==y.nodes)):=rfl;refine mo (kp 6 [7,8,9,16]) Tryz.func254 ?_;refine Qk0 (fun (i1:Nat)=>Q13 (fun (y:Alt)=>((l.getD i zA).nodes==y.nodes)) (List.drop i1 (List.take i l)) i1=Qf1 (List.take i l) (fun (y:Alt)=>((l.getD i zA).nodes==y.nodes))∧i1<=(List.take i l).length) (fun i1=>(List.take i l).length - i1) (fun i1=>[(0,altL (List.take i l)),(1,AVal.fn (.func 253) [] [AVal.ptr 0 0 2 0 0]),(4,I 0),(7,I ((List.take i l).length:Int)),(8,I (i1:Int))]) (fun i1=>[(0,AObj.row 103 2 [[I (l.getD i zA).nodes,I (l.getD i zA).wall]])]) 0 (wkA [0]) ⟨foll hR rfl,by exact omA⟩ ?_;clear hR;rintro i1 ⟨hR,hj⟩;(try dsimp only at hR hj);apply ai<;>intro h3
    ·have hlt:=ltA h3;rw [Qd0 zA hlt] at hR;refine ai gkA ?_;refine us (mv [0] (cl1 ((List.take i l).getD i1 zA)) (dO (ds Alt.lo) .nil) (dl (Alt.low _ _) (dp .nil)) (rO (re Alt.lo) .nil) rx) ?_;apply ai<;>intro h5
     ·refine Qs0 (fun r:Int=>I r) (fun r:Int=>[(0,AObj.row 103 2 [[I (l.getD i zA).nodes,I (l.getD i zA).wall]])]) (leaf:=(i1:Int)) (foll hR (ct h5 rfl)) ?_;exact tt [0] (tO rfl (ts Alt.lo) .nil) t1
     ·exact Qr0 (i1+1) (wkA [0]) omA ⟨folA,by exact omA⟩
    ·rw [Qh0 (l:=(List.take i l)) (j:=i1) (geA h3)] at hR;refine Qs0 (fun r:Int=>I r) (fun r:Int=>[(0,AObj.row 103 2 [[I (l.getD i zA).nodes,I (l.getD i zA).wall]])]) (leaf:=(-1)) (foll hR rfl) ?_;exact tt [0] (tO rfl (ts Alt.lo) .nil) t1
   refine us (mv [0] (hof2) (dO (ds Alt.lo) .nil) (dl lw (dv (dn_fn .nil (dp .nil)) .nil)) (rO (re Alt.lo) .nil) rx) ?_;refine Qs0 (fun r:Bool=>Bo r) (fun r:Bool=>[(0,AObj.row 103 2 [[I (l.getD i zA).nodes,I (l.getD i zA).wall]])]) (leaf:=(decide ((Qf1 (List.take i l) (fun (y:Alt)=>((l.getD i zA).nodes==y.nodes))) >= 0))) (foll hR rfl) ?_;exact tt [0] (tO rfl (ts Alt.lo) .nil) t1
  refine us (mv [0] (hof1) (dO (ds Alt.lo) .nil) (dv (dn_as (as_take l i ckA) lw) (dv (dn_fn .nil (dp .nil)) .nil)) (rO (re Alt.lo) .nil) rx) ?_;apply ai<;>intro h7
  ·exact lfA
  ·exact Qr0 (i+1) (wkA []) omA ⟨folA,by exact omA⟩
 ·rw [Qh0 (l:=l) (j:=i) (geA h1)] at hR;exact lfA
def Q4b (s:ByteArray):Bool:=(((Q05 s).2==0)&&(Qh3 ((Q05 s).1) 1 16))
theorem QXb (s:ByteArray) (hs0:s.size<=4294967296):GV 232 [Sg s] (Bo (Q4b s)):=by
 generalize hR:Q4b s=R;refine gA (kp 5 []) Tryz.func232 ?_;have hk0:=hs0;obtain z1:s.size<=4294967296:=hs0;refine us (QAb s szA _) ?_;(first|apply u2|apply u3|apply u4|apply us);exact Q33 ((Q05 s).1) 1 16 _;exact lfA
def Qf6 (s:ByteArray):Int × Bool:=bif (((!(Qh7 s))||(decide ((ByteArray.size s:Int) > 9)))||((decide ((ByteArray.size s:Int) > 1))&&(((s.data.toList.getD 0 0).toNat:Int)==48))) then (0,false) else ((QV9 s).1,true)
theorem lex_number_c (s:ByteArray) (hs0:s.size<=4294967296):GV 317 [Sg s] (AVal.tup [I ((Qf6 s).1),Bo ((Qf6 s).2)]):=by
 generalize hR:Qf6 s=R;refine gA (kp 6 [23]) Tryz.func317 ?_;have hk0:=hs0;obtain z3:s.size<=4294967296:=hs0;refine us (QMc s szA _) ?_;refine ai gkA ?_;apply ai<;>intro h1
 ·obtain rfl:=foll hR (ct h1 rfl);exact Q60 (Low.tup' (l1 (l1 .nil))) (Seen.tup (e1 (e1 .nil)))
 ·refine us (strconv_Atoi_c s szA (by exact lex_digits_ok (by assumption)) _) ?_;refine dchk (by kernel_rfl) ?_;(repeat ((first|refine ai rfl ?_|refine ai (fun _=>rfl) ?_)));obtain rfl:=foll hR (cf h1 rfl);exact Q60 (Low.tup' (l1 (l1 .nil))) (Seen.tup (e1 (e1 .nil)))
theorem QBd (l:List Int) (r_:Int) (hl:l.length<=4294967296):AMoves Tryz.prog 309 [.ptr 0 0 2 0 0,J r_] [(0,.row 339 2 [[.sel 0 0 2 0 0,.own 1 0 1 0 l.length]]),(0,Q35 l)] 1 (.tup [I (w64 (((QT0 l r_).length:Int) - (l.length:Int))),.lit .nilIface]) [(0,.row 339 2 [[.ptr 0 0 2 0 0,.own 1 0 1 0 (QT0 l r_).length]]),(0,Q35 (QT0 l r_))]:=by
 refine AMoves.of_cwp (fun t=>Nat.ble 1000000 t||Nat.blt t 7) Tryz.func309 rfl rfl rfl ?_;refine us (AMoves.on [0,1] (copyCheck_m bldT0 (x:=.own 1 0 1 0 l.length) (rest:=[(0,Q35 l)]) (n0:=2) (by simp)) (by decide) rfl rfl rfl (.cons _ _ _ _ (.row1 _ _ _ _ (.cons _ _ _ _ (dn_sel rfl) (.cons _ _ _ _ (dn_own rfl) .nil))) (.cons _ _ _ _ (.same _ (Qx7 fun _=>lowL1 rfl)) .nil)) rfl (.cons _ _ _ _ (dn_ptr rfl) .nil) (.cons _ _ _ _ (RenO.row1 _ _ _ _ (.cons _ _ _ _ (Ren.ptr _ _ _ _ _ _ rfl) (.cons _ _ _ _ (Ren.own _ _ _ _ _ _ rfl) .nil))) (.cons _ _ _ _ (RenO.same _ (Qx7 fun _=>lowL1 rfl)) .nil)) (Ren.low _ (.tup _ (fun x h=>nomatch h)))) ?_;refine us (AMoves.on [1] (Qyc l r_ hl) (by decide) rfl rfl rfl (.cons _ _ _ _ (dn_row rfl (Qx7 fun _=>lowL1 rfl)) .nil) rfl (.cons _ _ _ _ (QP3 rfl rfl) (.cons _ _ _ _ (Qo3 (QM2 rfl)) .nil)) (.cons _ _ _ _ (RenO.same _ (Qx7 fun _=>lowL1 rfl)) .nil) (Ren.own _ _ _ _ _ _ rfl)) ?_;refine Qs0 (fun _:Unit=>.tup [I (w64 (((QT0 l r_).length:Int) - (l.length:Int))),.lit .nilIface]) (fun _:Unit=>[(0,.row 339 2 [[.ptr 0 0 2 0 0,.own 1 0 1 0 (QT0 l r_).length]]),(0,Q35 (QT0 l r_))]) (leaf:=()) rfl ?_;exact Qb3 [0,2] rfl (by decide) (.cons 0 _ _ _ _ rfl (QE1 (.cons _ _ _ _ (Qy0 0 rfl rfl) (.cons _ _ _ _ (QPb 1 rfl rfl rfl) .nil))) (.cons 2 _ _ _ _ rfl (QQb rfl (Qx7 fun _=>lowL1 rfl)) .nil)) (turn_tup (.cons _ _ _ _ (Qg3 (QM2 rfl)) (.cons _ _ _ _ (Qg3 (QM2 rfl)) .nil)))
def QAa (l:List Dep):List Dep->Nat->Bool
 | [],_=>(decide ((l.length:Int)<=4))
 | x_ :: r,i=>bif (((!(Qh3 x_.how 1 3))||(!(cmd_id x_.job)))||(Qv0 (List.take i l) (fun (y:Dep)=>(y.job==x_.job)))) then false else QAa l r (i+1)
def cmd_deps (l:List Dep):Bool:=QAa l l 0
theorem cmd_deps_c (l:List Dep) (hs0:l.length<=4294967296):GV 234 [depL l] (Bo (cmd_deps l)):=by
 generalize hR:cmd_deps l=R;refine gA (kp 6 [6,7,8,9,30]) Tryz.func234 ?_;have hk0:=hs0;obtain z9:l.length<=4294967296:=hs0;refine Qk0 (fun (i:Nat)=>QAa l (List.drop i l) i=R∧i<=l.length) (fun i=>l.length - i) (fun i=>[(0,depL l),(2,Bo false),(6,depL l),(7,I (l.length:Int)),(8,I (i:Int))]) (fun i=>[]) 0 (wkA []) ⟨foll hR rfl,by exact omA⟩ ?_;clear hR;rintro i ⟨hR,hj⟩;(try dsimp only at hR hj);apply ai<;>intro h1
 ·have hlt:=ltA h1;rw [Qd0 zC hlt] at hR;refine ai gkA ?_;refine ai gkA ?_;have cl1:∀ (y1:Dep),AMoves Tryz.prog 257 [Dep.a y1,AVal.ptr 0 0 2 0 0] [(0,AObj.row 106 2 [[I (l.getD i zC).how,I (l.getD i zC).job]])] 1 (Bo ((fun (y:Dep)=>(y.job==(l.getD i zC).job)) y1)) [(0,AObj.row 106 2 [[I (l.getD i zC).how,I (l.getD i zC).job]])]:=by
   intro y1;have hR:(fun (y:Dep)=>(y.job==(l.getD i zC).job)) y1=(fun (y:Dep)=>(y.job==(l.getD i zC).job)) y1:=rfl;refine mo (kp 4 []) Tryz.func257 ?_;refine Qs0 (fun r:Bool=>Bo r) (fun _=>[(0,AObj.row 106 2 [[I (l.getD i zC).how,I (l.getD i zC).job]])]) (leaf:=(y1.job==(l.getD i zC).job)) (foll hR rfl) ?_;exact tt [0] (tO rfl (ts Dep.lo) .nil) t1
  have hof1:AMoves Tryz.prog 125 [depL (List.take i l),AVal.fn (.func 257) [] [AVal.ptr 0 0 2 0 0]] [(0,AObj.row 106 2 [[I (l.getD i zC).how,I (l.getD i zC).job]])] 1 (Bo (Qv0 (List.take i l) (fun (y:Dep)=>(y.job==(l.getD i zC).job)))) [(0,AObj.row 106 2 [[I (l.getD i zC).how,I (l.getD i zC).job]])]:=by
   have hR:Qv0 (List.take i l) (fun (y:Dep)=>(y.job==(l.getD i zC).job))=Qv0 (List.take i l) (fun (y:Dep)=>(y.job==(l.getD i zC).job)):=rfl;refine mo (kp 5 []) Tryz.func125 ?_;have hof2:AMoves Tryz.prog 191 [depL (List.take i l),AVal.fn (.func 257) [] [AVal.ptr 0 0 2 0 0]] [(0,AObj.row 106 2 [[I (l.getD i zC).how,I (l.getD i zC).job]])] 1 (I (Qg1 (List.take i l) (fun (y:Dep)=>(y.job==(l.getD i zC).job)))) [(0,AObj.row 106 2 [[I (l.getD i zC).how,I (l.getD i zC).job]])]:=by
    have hR:Qg1 (List.take i l) (fun (y:Dep)=>(y.job==(l.getD i zC).job))=Qg1 (List.take i l) (fun (y:Dep)=>(y.job==(l.getD i zC).job)):=rfl;refine mo (kp 6 [7,8,9,16]) Tryz.func191 ?_;refine Qk0 (fun (i1:Nat)=>Q23 (fun (y:Dep)=>(y.job==(l.getD i zC).job)) (List.drop i1 (List.take i l)) i1=Qg1 (List.take i l) (fun (y:Dep)=>(y.job==(l.getD i zC).job))∧i1<=(List.take i l).length) (fun i1=>(List.take i l).length - i1) (fun i1=>[(0,depL (List.take i l)),(1,AVal.fn (.func 257) [] [AVal.ptr 0 0 2 0 0]),(4,I 0),(7,I ((List.take i l).length:Int)),(8,I (i1:Int))]) (fun i1=>[(0,AObj.row 106 2 [[I (l.getD i zC).how,I (l.getD i zC).job]])]) 0 (wkA [0]) ⟨foll hR rfl,by exact omA⟩ ?_;clear hR;rintro i1 ⟨hR,hj⟩;(try dsimp only at hR hj);apply ai<;>intro h3
    ·have hlt:=ltA h3;rw [Qd0 zC hlt] at hR;refine ai gkA ?_;refine us (mv [0] (cl1 ((List.take i l).getD i1 zC)) (dO (ds Dep.lo) .nil) (dl (Dep.low _ _) (dp .nil)) (rO (re Dep.lo) .nil) rx) ?_;apply ai<;>intro h5
     ·refine Qs0 (fun r:Int=>I r) (fun r:Int=>[(0,AObj.row 106 2 [[I (l.getD i zC).how,I (l.getD i zC).job]])]) (leaf:=(i1:Int)) (foll hR (ct h5 rfl)) ?_;exact tt [0] (tO rfl (ts Dep.lo) .nil) t1
     ·exact Qr0 (i1+1) (wkA [0]) omA ⟨folA,by exact omA⟩
    ·rw [Qh0 (l:=(List.take i l)) (j:=i1) (geA h3)] at hR;refine Qs0 (fun r:Int=>I r) (fun r:Int=>[(0,AObj.row 106 2 [[I (l.getD i zC).how,I (l.getD i zC).job]])]) (leaf:=(-1)) (foll hR rfl) ?_;exact tt [0] (tO rfl (ts Dep.lo) .nil) t1
   refine us (mv [0] (hof2) (dO (ds Dep.lo) .nil) (dl lw (dv (dn_fn .nil (dp .nil)) .nil)) (rO (re Dep.lo) .nil) rx) ?_;refine Qs0 (fun r:Bool=>Bo r) (fun r:Bool=>[(0,AObj.row 106 2 [[I (l.getD i zC).how,I (l.getD i zC).job]])]) (leaf:=(decide ((Qg1 (List.take i l) (fun (y:Dep)=>(y.job==(l.getD i zC).job))) >= 0))) (foll hR rfl) ?_;exact tt [0] (tO rfl (ts Dep.lo) .nil) t1
  refine us (mv [0] (hof1) (dO (ds Dep.lo) .nil) (dv (dn_as (as_take l i ckA) lw) (dv (dn_fn .nil (dp .nil)) .nil)) (rO (re Dep.lo) .nil) rx) ?_;refine us (Q33 ((l.getD i zC).how) 1 3 _) ?_;(first|apply u2|apply u3|apply u4|apply us);exact Qtd ((l.getD i zC).job) _;apply ai<;>intro h7
  ·exact lfA
  ·exact Qr0 (i+1) (wkA []) omA ⟨folA,by exact omA⟩
 ·rw [Qh0 (l:=l) (j:=i) (geA h1)] at hR;exact lfA
def cmd_Same (a:Cmd) (b:Cmd):Bool:=bif ((!(Qrc a.shape b.shape))||(!(Q17 a.after b.after))) then false else ((((((((((((a.kind==b.kind)&&(a.job==b.job))&&(ByteArray.toList a.name==ByteArray.toList b.name))&&(ByteArray.toList a.user==ByteArray.toList b.user))&&(ByteArray.toList a.account==ByteArray.toList b.account))&&(a.prio==b.prio))&&(a.hasPrio==b.hasPrio))&&(a.time==b.time))&&(a.hasTime==b.hasTime))&&(a.node==b.node))&&(a.nodes==b.nodes))&&(a.from_==b.from_))
theorem cmd_Same_c (a:Cmd) (b:Cmd) (hs0:a.sz) (hs1:b.sz):GV 189 [Cmd.a a,Cmd.a b] (Bo (cmd_Same a b)):=by
 generalize hR:cmd_Same a b=R;refine gA (kp 5 [18]) Tryz.func189 ?_;have hk0:=hs0;obtain ⟨z3,z4,z5,z6,z7⟩:a.name.size<=4294967296∧a.user.size<=4294967296∧a.account.size<=4294967296∧(a.shape.alts.length<=4294967296)∧a.after.length<=4294967296:=hs0;have hk1:=hs1;obtain ⟨z8,z9,z10,z11,z12⟩:b.name.size<=4294967296∧b.user.size<=4294967296∧b.account.size<=4294967296∧(b.shape.alts.length<=4294967296)∧b.after.length<=4294967296:=hs1;refine us (shape_Same_c a.shape b.shape szA szA _) ?_;(first|apply u2|apply u3|apply u4|apply us);exact QFb a.after b.after szA szA _;apply ai<;>intro h1
 ·exact lfA
 ·exact lfA
def QC9 (set_:Int):Bool:=((wu64 (BitVec.ofInt 64 set_ &&& ~~~(BitVec.ofInt 64 (QKa 48))).toNat)==0)
theorem Qe6 (set_:Int):GV 184 [U set_] (Bo (QC9 set_)):=by
 generalize hR:QC9 set_=R;refine gA (kp 3 []) Tryz.func184 ?_;refine us (nodeset_All_c 48 _) ?_;exact lfA
def Q02 (x_:Node):Bool:=bif ((((decide (x_.epoch<0))||(decide (x_.epoch > 999999999)))||(!(Q65 x_.since)))||(!(Q65 x_.asked))) then false else bif (x_.state==0) then ((x_.job==0)&&(QF0 ([0]:List Int) x_.want)) else bif (x_.state==1) then (((decide (x_.job >= 1))&&(decide (x_.job<=99999)))&&(QF0 ([0,1,3,4]:List Int) x_.want)) else bif (x_.state==2) then (((decide (x_.job >= 1))&&(decide (x_.job<=99999)))&&(QF0 ([0,2]:List Int) x_.want)) else bif (x_.state==3) then (((decide (x_.job >= 1))&&(decide (x_.job<=99999)))&&(QF0 ([5]:List Int) x_.want)) else bif (x_.state==4) then ((x_.job==0)&&(QF0 ([0,6]:List Int) x_.want)) else false
theorem fleet_fine_c (x_:Node):GV 137 [Node.a x_] (Bo (Q02 x_)):=by
 generalize hR:Q02 x_=R;refine gA (kp 5 [24,35,36,41,44,47,50]) Tryz.func137 ?_;(first|apply u2|apply u3|apply u4|apply us);exact Qw9 x_.since _;(first|apply u2|apply u3|apply u4|apply us);exact Qw9 x_.asked _;apply ai<;>intro h1
 ·exact lfA
 ·refine Or.inl ?_;apply ai<;>intro h3
  ·(first|apply u2|apply u3|apply u4|apply us);exact AGives.as2 (Qz1 ([0]:List Int) x_.want szA _) (av (QK5 (c:=(fun q_=>[I q_])) (d:=0) ([0]:List Int) rfl) (a1 .nil));exact lfA
  ·apply ai<;>intro h5
   ·refine Or.inl ?_;(first|apply u2|apply u3|apply u4|apply us);exact AGives.as2 (Qz1 ([0,1,3,4]:List Int) x_.want szA _) (av (QK5 (c:=(fun q_=>[I q_])) (d:=0) ([0,1,3,4]:List Int) rfl) (a1 .nil));exact lfA
   ·apply ai<;>intro h7
    ·refine Or.inl ?_;(first|apply u2|apply u3|apply u4|apply us);exact AGives.as2 (Qz1 ([0,2]:List Int) x_.want szA _) (av (QK5 (c:=(fun q_=>[I q_])) (d:=0) ([0,2]:List Int) rfl) (a1 .nil));exact lfA
    ·apply ai<;>intro h9
     ·refine Or.inl ?_;(first|apply u2|apply u3|apply u4|apply us);exact AGives.as2 (Qz1 ([5]:List Int) x_.want szA _) (av (QK5 (c:=(fun q_=>[I q_])) (d:=0) ([5]:List Int) rfl) (a1 .nil));exact lfA
     ·apply ai<;>intro h11
      ·refine Or.inl ?_;(first|apply u2|apply u3|apply u4|apply us);exact AGives.as2 (Qz1 ([0,6]:List Int) x_.want szA _) (av (QK5 (c:=(fun q_=>[I q_])) (d:=0) ([0,6]:List Int) rfl) (a1 .nil));exact lfA
      ·exact lfA
def QD9 (a:Usage) (b:Usage):Int:=(QZb ([(Qo1 a.user b.user),(Qo1 a.account b.account)]:List Int))
theorem Qma (a:Usage) (b:Usage) (hs0:a.sz) (hs1:b.sz):GV 78 [Usage.a a,Usage.a b] (I (QD9 a b)):=by
 generalize hR:QD9 a b=R;refine gA (kp 5 []) Tryz.func78 ?_;obtain ⟨z1,z2⟩:=Usage.zz hs0;obtain ⟨z3,z4⟩:=Usage.zz hs1;refine dchk (by kernel_rfl) ?_;(first|apply u2|apply u3|apply u4|apply us);exact QJ3 a.user b.user _;(first|apply u2|apply u3|apply u4|apply us);exact QJ3 a.account b.account _;(first|apply u2|apply u3|apply u4|apply us);exact AGives.as2 (QBc ([(Qo1 a.user b.user),(Qo1 a.account b.account)]:List Int) szA _) (av (QK5 (c:=(fun q_=>[I q_])) (d:=0) ([(Qo1 a.user b.user),(Qo1 a.account b.account)]:List Int) rfl) .nil);(repeat ((first|refine ai rfl ?_|refine ai (fun _=>rfl) ?_|refine ai (fun _=>QJ3 a.user b.user _) ?_|refine ai (fun _=>QJ3 a.account b.account _) ?_|refine ai (fun _=>AGives.as2 (QBc ([(Qo1 a.user b.user),(Qo1 a.account b.account)]:List Int) szA _) (av (QK5 (c:=(fun q_=>[I q_])) (d:=0) ([(Qo1 a.user b.user),(Qo1 a.account b.account)]:List Int) rfl) .nil)) ?_)));exact lfA
def QB6 (is:Int->Node->Bool):List Node->List Int->Nat->(List Int)
 | [],l,_=>l
 | x_ :: r,l,i=>bif (is (i:Int) x_) then QB6 is r (l++([(i:Int)]:List Int)) (i+1) else QB6 is r l (i+1)
def Qy4 (l:List Int):Int:=(QJ1 l).1
def Qq6 (s:State) (is:Int->Node->Bool):Int:=Qy4 (QB6 is s.nodes [] 0)
def Ql8 (s:State) (jobs:List (Int × Job)) (all_:List (Int × Resize)):List Node->Nat->Bool
 | [],_=>true
 | x_ :: r,i=>bif ((x_.state==1)&&((!(getM x_.job jobs).isSome)||(!(Qu5 (((getM x_.job jobs).getD zG).nodes) (i:Int))))) then false else bif ((x_.state==2)&&(!(getM x_.job jobs).isSome)) then false else bif (((x_.state==2)||(x_.want==4))&&(!(Qu5 (((getM x_.job all_).getD zH).nodes) (i:Int)))) then false else bif ((x_.state==3)&&(decide (x_.job >= s.nextJob))) then false else Ql8 s jobs all_ r (i+1)
def Qc9 (s:State) (jobs:List (Int × Job)) (all_:List (Int × Resize)):Bool:=Ql8 s jobs all_ s.nodes 0
theorem state_nodes_c (s:State) (jobs:List (Int × Job)) (all_:List (Int × Resize)) (hs0:s.sz):AMoves Tryz.prog 21 [State.a s,AVal.map 0,AVal.map 1] [(0,AObj.other (.map (mapEs ik Job.a 0 jobs) jobs.length)),(0,AObj.other (.map (mapEs ik Resize.a 0 all_) all_.length))] 2 (Bo (Qc9 s jobs all_)) [(0,AObj.other (.map (mapEs ik Job.a 0 jobs) jobs.length)),(0,AObj.other (.map (mapEs ik Resize.a 0 all_) all_.length))]:=by
 generalize hR:Qc9 s jobs all_=R;refine mo (kp 12 [13,14,15,16,35,50,58,70]) Tryz.func21 ?_;have hk0:=hs0;obtain ⟨z11,z12,z13,z14,z15,z16,z17⟩:=hs0;refine Qk0 (fun (i:Nat)=>Ql8 s jobs all_ (List.drop i s.nodes) i=R∧i<=s.nodes.length) (fun i=>s.nodes.length - i) (fun i=>[(1,AVal.map 0),(2,AVal.map 1),(3,AVal.ptr 2 0 8 0 0),(6,Bo false),(13,nodeL s.nodes),(14,I (s.nodes.length:Int)),(15,I (i:Int))]) (fun i=>[(0,AObj.other (.map (mapEs ik Job.a 0 jobs) jobs.length)),(0,AObj.other (.map (mapEs ik Resize.a 0 all_) all_.length)),(0,AObj.row 28 8 [[I s.now,nodeL s.nodes,jobL s.jobs,Qh1 s.resizes,bookL s.books,Qt1 s.ledger,I s.nextJob,I s.nextBook]])]) 0 (wkA [0,1,2]) ⟨foll hR rfl,by exact omA⟩ ?_;clear hR;rintro i ⟨hR,hj⟩;(try dsimp only at hR hj);apply ai<;>intro h1
 ·have hlt:=ltA h1;rw [Qd0 zF hlt] at hR;refine ai gkA ?_;(first|refine ⟨_,_,Qc1 rfl _ _,QL0 (ek:=ik) ((s.nodes.getD i zF).job) jobs zG (as_agg (a1 (a1 (a1 (a1 (a1 (av (QI7) (a1 (a1 (a1 (a1 (av (QI7) (a1 (a1 (a1 (a1 (a1 (a1 (a1 (a1 (a1 .nil))))))))))))))))))))),?_⟩|refine ⟨_,fun _=>⟨_,_,Qc1 rfl _ _,QL0 (ek:=ik) ((s.nodes.getD i zF).job) jobs zG (as_agg (a1 (a1 (a1 (a1 (a1 (av (QI7) (a1 (a1 (a1 (a1 (av (QI7) (a1 (a1 (a1 (a1 (a1 (a1 (a1 (a1 (a1 .nil))))))))))))))))))))),rfl,rfl⟩,?_⟩|refine ⟨_,rfl,⟨_,_,Qc1 rfl _ _,QL0 (ek:=ik) ((s.nodes.getD i zF).job) jobs zG (as_agg (a1 (a1 (a1 (a1 (a1 (av (QI7) (a1 (a1 (a1 (a1 (av (QI7) (a1 (a1 (a1 (a1 (a1 (a1 (a1 (a1 (a1 .nil))))))))))))))))))))),Sub.refl _,rfl⟩,?_⟩);(first|apply u2|apply u3|apply u4|apply us);exact Qb7 (((getM (s.nodes.getD i zF).job jobs).getD zG).nodes) (i:Int) _;apply ai<;>intro h3
  ·obtain rfl:=foll hR (ct h3 rfl);exact rq (ttA [0,1])
  ·apply ai<;>intro h5
   ·obtain rfl:=foll hR (cf h3 (ct h5 rfl));exact rq (ttA [0,1])
   ·(first|refine ⟨_,_,Qc1 rfl _ _,QL0 (ek:=ik) ((s.nodes.getD i zF).job) all_ zH (AsA.refl _),?_⟩|refine ⟨_,fun _=>⟨_,_,Qc1 rfl _ _,QL0 (ek:=ik) ((s.nodes.getD i zF).job) all_ zH (AsA.refl _),rfl,rfl⟩,?_⟩|refine ⟨_,rfl,⟨_,_,Qc1 rfl _ _,QL0 (ek:=ik) ((s.nodes.getD i zF).job) all_ zH (AsA.refl _),Sub.refl _,rfl⟩,?_⟩);(first|apply u2|apply u3|apply u4|apply us);exact Qb7 (((getM (s.nodes.getD i zF).job all_).getD zH).nodes) (i:Int) _;apply ai<;>intro h7
    ·obtain rfl:=foll hR (cf h3 (cf h5 (ct h7 rfl)));exact rq (ttA [0,1])
    ·apply ai<;>intro h9
     ·obtain rfl:=foll hR (cf h3 (cf h5 (cf h7 (ct h9 rfl))));exact rq (ttA [0,1])
     ·exact Qr0 (i+1) (wkA [0,1,2]) omA ⟨folA,by exact omA⟩
 ·rw [Qh0 (l:=s.nodes) (j:=i) (geA h1)] at hR;obtain rfl:=foll hR rfl;exact rq (ttA [0,1])
def Qn4 (c4:List Step):(List Step) × Int:=bif ((QE2 c4)!=0) then ([],3) else (c4,0)
def Qc8 :List Step->Nat->List Step->(List Step)
 | [],_,c5=>c5
 | x_ :: r,i2,c5=>Qc8 r (i2+1) (Qm1 x_.at_ x_.free c5)
def Qo4 (c5:List Step):(List Step) × Int:=Qn4 c5
def Qm4 (p_:List Step) (to_:Int) (i:Int) (last:Int) (c2:List Step):(List Step) × Int:=bif (i==(p_.length:Int)) then bif (decide (to_<=1000000)) then Qn4 (Qm1 to_ last c2) else Qn4 c2 else Qo4 (Qc8 (List.drop (i.toNat) p_) 0 c2)
def Ql4 (p_:List Step) (to_:Int) (n:Int):Nat->Int->Int->List Step->(List Step) × Int
 | 0,_,_,_=>([],0)
 | m+1,i1,last1,c3=>bif (decide (i1<(p_.length:Int))) then bif (decide ((p_.getD (i1.toNat) zE).at_<to_)) then Ql4 p_ to_ n m (w64 (i1+1)) ((p_.getD (i1.toNat) zE).free) (Qm1 ((p_.getD (i1.toNat) zE).at_) (w64 ((p_.getD (i1.toNat) zE).free+n)) c3) else bif (decide ((p_.getD (i1.toNat) zE).at_ > to_)) then Qm4 p_ to_ i1 ((p_.getD (i1.toNat) zE).free) (Qm1 to_ ((p_.getD ((w64 (i1 - 1)).toNat) zE).free) c3) else Qm4 p_ to_ i1 ((p_.getD (i1.toNat) zE).free) c3 else Qm4 p_ to_ i1 last1 c3
def Qw6 (p_:List Step) (from_:Int) (to_:Int) (n:Int) (c:List Step):(List Step) × Int:=Ql4 p_ to_ n ((((p_.length:Int) - (w64 ((Qn0 p_ from_)+1))).toNat)+1) (w64 ((Qn0 p_ from_)+1)) ((p_.getD ((Qn0 p_ from_).toNat) zE).free) (Qm1 from_ (w64 ((p_.getD ((Qn0 p_ from_).toNat) zE).free+n)) c)
def Qz2 (p_:List Step) (from_:Int) (to_:Int) (n:Int):(List Step) × Int:=bif ((QE2 p_)!=0) then ([],100) else bif (((!(Qk6 from_))||(decide (to_<from_)))||(!(QR7 n))) then ([],2) else bif (to_==from_) then (p_,0) else bif (decide ((p_.getD ((Qn0 p_ from_).toNat) zE).at_<from_)) then Qw6 p_ from_ to_ n (Qm1 ((p_.getD ((Qn0 p_ from_).toNat) zE).at_) ((p_.getD ((Qn0 p_ from_).toNat) zE).free) (List.take ((Qn0 p_ from_).toNat) p_)) else Qw6 p_ from_ to_ n (List.take ((Qn0 p_ from_).toNat) p_)
theorem b2a0 {P:Prop} (h:P:=by first|((exact ⟨by omega,by omega,yea (Qt3 _ _ _) oA⟩))|first|((exact ⟨by omega,by omega,by omega⟩))|first|((rw [hw1];exact ⟨by omega,by omega,Int.le_trans (Int.ofNat_le.2 (Qt3 _ _ _)) oA⟩))|first|((rw [hw];exact ⟨by omega,by omega,Int.le_trans (Int.ofNat_le.2 (Qt3 _ _ _)) oA⟩))|first|(((try dsimp only);refine yea (Qt3 _ _ _) ?_;first|omega|(simp;omega)))|first|(((try dsimp only);rw [yEa] at *;omega))|first|((simp;omega))|exact exA):P:=h
theorem b2a1 {P:Prop} (h:P:=by first|((refine yea (Qt3 _ _ _) ?_;omega))|first|((simp;omega))|exact szA):P:=h
theorem Q19 (p_:List Step) (from_:Int) (to_:Int) (n:Int) (hs0:p_.length<=4294967296):GV 165 [stepL p_,I from_,I to_,I n] (AVal.tup [stepL ((Qz2 p_ from_ to_ n).1),I ((Qz2 p_ from_ to_ n).2)]):=by
 generalize hR:Qz2 p_ from_ to_ n=R;refine gA (kj [1000014,1000024,1000032] 17 [17,21,35,58,91,99,117,137,139,146,147,148,149,161]) Tryz.func165 ?_;have hk0:=hs0;obtain z23:p_.length<=4294967296:=hs0;refine us (QV4 p_ b2a1 _) ?_;apply ai<;>intro h1
 ·exact lfA
 ·refine us (QVc from_ _) ?_;(first|apply u2|apply u3|apply u4|apply us);exact Qd8 n _;apply ai<;>intro h3
  ·exact lfA
  ·apply ai<;>intro h5
   ·refine us (mv [] (QQa p_ b2a1) .nil (dl lw .nil) (rO rr .nil) (rw_ 0 0 rfl)) ?_;obtain rfl:=foll hR (cf h1 (cf h3 (ct h5 rfl)));exact Q60 (Low.tup' (.cons lw (l1 .nil))) (Seen.tup (ev (Qa0 zE _ rfl eqA lnA) (e1 .nil)))
   ·refine us (QM9 p_ from_ b2a1 _) ?_;have hc:=Qj6 (p:=p_) (by assumption);have hp:=Qk9 hc.1 hc.2.1 hc.2.2 (Qwb (by assumption));have hw:w64 (Qn0 p_ from_+1)=Qn0 p_ from_+1:=wr oA;refine ai gkA ?_;(first|refine ⟨Qd1 16 rfl lnA apA,?_⟩|refine ⟨QB0 16 rfl apA,?_⟩);refine Qu1 (fun (c:List Step)=>Qw6 p_ from_ to_ n c=R∧c.length<=(Qn0 p_ from_).toNat+1) (fun c=>[(0,stepL p_),(1,I from_),(2,I to_),(3,I n),(8,AVal.lit (.slice none 0 0)),(9,I 0),(10,AVal.ptr 0 0 1 0 0),(11,AVal.fn (.func 210) [] [AVal.ptr 0 0 1 0 0]),(12,I (Qn0 p_ from_))]) (fun c=>[(0,AObj.row 207 1 [[AVal.own 1 0 2 0 c.length]]),(0,AObj.row 255 2 (c.map Step.cells))]) ?_ ?_
    ·clear hR;rintro c ⟨hR,hx⟩;(try dsimp only at hR hx);refine ai gkA ?_;refine us (mv [0,1] (Qk3 from_ (w64 ((p_.getD ((Qn0 p_ from_).toNat) zE).free+n)) c b2a1) (dO (dc (dv (QP3 rfl lnA) .nil)) (dO (dr eqA) .nil)) (d1 (d1 (dp .nil))) (rO (rc (.cons _ _ _ _ (rw_ 2 0 rfl) .nil)) (rO rr .nil)) rx) ?_;refine ai gkA ?_;refine Qke (fun (i:Int) (last:Int) (c2:List Step)=>Qm4 p_ to_ i last c2=R∧1<=i∧i<=(p_.length:Int)∧c2.length<=1003) (fun i last c2=>[(0,stepL p_),(2,I to_),(8,AVal.lit (.slice none 0 0)),(9,I 0),(10,AVal.ptr 0 0 1 0 0),(11,AVal.fn (.func 210) [] [AVal.ptr 0 0 1 0 0]),(12,I i),(14,I last)]) (fun i last c2=>[(0,AObj.row 207 1 [[AVal.own 1 0 2 0 c2.length]]),(0,AObj.row 255 2 (c2.map Step.cells))]) ?_ ?_
     ·clear hR;rintro i last c2 ⟨hR,hx⟩;(try dsimp only at hR hx);refine Qu1 (fun (c4:List Step)=>Qn4 c4=R∧c4.length<=4000) (fun c4=>[(8,AVal.lit (.slice none 0 0)),(9,I 0),(10,AVal.ptr 0 0 1 0 0)]) (fun c4=>[(0,AObj.row 207 1 [[AVal.own 1 0 2 0 c4.length]]),(0,AObj.row 255 2 (c4.map Step.cells))]) ?_ ?_
      ·clear hR;rintro c4 ⟨hR,hx⟩;(try dsimp only at hR hx);refine us (AGives.lent (QV4 c4 b2a1 []) (ev (Qa0 _ _ rfl eqA lnA) .nil) (.cons lw .nil) (Qr5 rfl)) ?_;apply ai<;>intro h7
       ·exact lfA
       ·obtain rfl:=foll hR (cf h7 rfl);exact Q60 (Low.tup' (.cons lw (l1 .nil))) (Seen.tup (ev (Qa0 zE _ rfl eqA lnA) (e1 .nil)))
      ·apply ai<;>intro h9
       ·apply ai<;>intro h11
        ·have qh11:=yca h11;refine us (mv [0,1] (Qk3 to_ last c2 b2a1) (dO (dc (dv (QP3 rfl lnA) .nil)) (dO (dr eqA) .nil)) (d1 (d1 (dp .nil))) (rO (rc (.cons _ _ _ _ (rw_ 2 0 rfl) .nil)) (rO rr .nil)) rx) ?_;exact Qj0 (Qm1 to_ last c2) (wkA [0,2]) (⟨folA,b2a0⟩)
        ·have qh11:=yja h11;exact Qj0 c2 (wkA [0,1]) (⟨folA,b2a0⟩)
       ·refine ai gkA ?_;refine Qu0 (fun (i2:Nat) (c5:List Step)=>Qo4 (Qc8 (List.drop i2 (List.drop (i.toNat) p_)) i2 c5)=R∧i2<=(List.drop (i.toNat) p_).length∧c5.length<=2000+i2) (fun i2 c5=>(List.drop (i.toNat) p_).length - i2) (fun i2 c5=>[(8,AVal.lit (.slice none 0 0)),(9,I 0),(10,AVal.ptr 0 0 1 0 0),(11,AVal.fn (.func 210) [] [AVal.ptr 0 0 1 0 0]),(146,stepL (List.drop (i.toNat) p_)),(147,I ((List.drop (i.toNat) p_).length:Int)),(148,I (i2:Int))]) (fun i2 c5=>[(0,AObj.row 207 1 [[AVal.own 1 0 2 0 c5.length]]),(0,AObj.row 255 2 (c5.map Step.cells))]) 0 c2 (wk [0,1] (tO rfl (QE1 (cv (to 1 lnA) .nil)) (tO rfl (tl eqA) .nil)) (s1 (s1 (sv (Qy0 0 rfl rfl) (sv (QB4 .nil (cv (Qy0 0 rfl rfl) .nil)) (sv (turn_as (as_drop p_ (i.toNat) _ leA) lw) (sv (turn_eq (I_eq (by simp)) lx) (s1 .nil)))))))) ⟨folA,by exact omA,b2a0⟩ ?_;clear hR;rintro i2 c5 ⟨hR,hj,hx⟩;(try dsimp only at hR hj hx);apply ai<;>intro h13
        ·have hlt:=ltA h13;rw [Qd0 zE hlt] at hR;have hdl:(List.drop (i.toNat) p_).length<=1000:=(by rw [yEa];omega);refine ai gkA ?_;refine us (mv [0,1] (Qk3 (((List.drop (i.toNat) p_).getD i2 zE).at_) (((List.drop (i.toNat) p_).getD i2 zE).free) c5 b2a1) (dO (dc (dv (QP3 rfl lnA) .nil)) (dO (dr eqA) .nil)) (d1 (d1 (dp .nil))) (rO (rc (.cons _ _ _ _ (rw_ 3 0 rfl) .nil)) (rO rr .nil)) rx) ?_;exact Qc0 (i2+1) (Qm1 ((List.drop (i.toNat) p_).getD i2 zE).at_ ((List.drop (i.toNat) p_).getD i2 zE).free c5) (wkA [0,3]) omA ⟨foll hR (congrArg (fun p:(List Step)=>Qo4 p) rfl),by exact omA,b2a0⟩
        ·rw [Qh0 (l:=(List.drop (i.toNat) p_)) (j:=i2) (geA h13)] at hR;replace hR:Qo4 c5=R:=fo2 (fun p:(List Step)=>Qo4 p) (c5) hR rfl;exact Qj0 c5 (wkA [0,1]) (⟨foll hR rfl,b2a0⟩)
     ·refine QT4 (fun (i1:Int) (last1:Int) (c3:List Step)=>∃ m,(((p_.length:Int) - i1).toNat)<m∧Ql4 p_ to_ n m i1 last1 c3=R∧1<=i1∧i1<=(p_.length:Int)∧(c3.length:Int)<=i1+1) (fun i1 last1 c3=>(((p_.length:Int) - i1).toNat)) (fun i1 last1 c3=>[(0,stepL p_),(2,I to_),(3,I n),(8,AVal.lit (.slice none 0 0)),(9,I 0),(10,AVal.ptr 0 0 1 0 0),(11,AVal.fn (.func 210) [] [AVal.ptr 0 0 1 0 0]),(12,I i1),(14,I last1)]) (fun i1 last1 c3=>[(0,AObj.row 207 1 [[AVal.own 1 0 2 0 c3.length]]),(0,AObj.row 255 2 (c3.map Step.cells))]) (w64 ((Qn0 p_ from_)+1)) ((p_.getD ((Qn0 p_ from_).toNat) zE).free) (Qm1 from_ (w64 ((p_.getD ((Qn0 p_ from_).toNat) zE).free+n)) c) (wkA [0,2]) ⟨_,yTa _,foll hR rfl,b2a0⟩ ?_;clear hR;rintro i1 last1 c3 ⟨m,hm,hR,hx⟩;(try dsimp only at hR hm hx);obtain ⟨m,rfl⟩:=sucA m;apply ai<;>intro h15
      ·have qh15:=yca h15;have hw1:w64 (i1+1)=i1+1:=wr oA;refine ai gkA ?_;refine ai gkA ?_;apply ai<;>intro h17
       ·have qh17:=yca h17;refine ai gkA ?_;refine us (mv [0,1] (Qk3 ((p_.getD (i1.toNat) zE).at_) (w64 ((p_.getD (i1.toNat) zE).free+n)) c3 b2a1) (dO (dc (dv (QP3 rfl lnA) .nil)) (dO (dr eqA) .nil)) (d1 (d1 (dp .nil))) (rO (rc (.cons _ _ _ _ (rw_ 2 0 rfl) .nil)) (rO rr .nil)) rx) ?_;exact QH1 (w64 (i1+1)) ((p_.getD (i1.toNat) zE).free) (Qm1 ((p_.getD (i1.toNat) zE).at_) (w64 ((p_.getD (i1.toNat) zE).free+n)) c3) (wkA [0,2]) omA ⟨m,by exact omA,foll hR (ct h15 (ct h17 rfl)),b2a0⟩
       ·have qh17:=yja h17;refine ai gkA ?_;apply ai<;>intro h19
        ·have qh19:=yca h19;refine ai gkA ?_;refine us (mv [0,1] (Qk3 to_ ((p_.getD ((w64 (i1 - 1)).toNat) zE).free) c3 b2a1) (dO (dc (dv (QP3 rfl lnA) .nil)) (dO (dr eqA) .nil)) (d1 (d1 (dp .nil))) (rO (rc (.cons _ _ _ _ (rw_ 2 0 rfl) .nil)) (rO rr .nil)) rx) ?_;exact Qg7 i1 ((p_.getD (i1.toNat) zE).free) (Qm1 to_ ((p_.getD ((w64 (i1 - 1)).toNat) zE).free) c3) (wkA [0,2]) (⟨folA,b2a0⟩)
        ·have qh19:=yja h19;exact Qg7 i1 ((p_.getD (i1.toNat) zE).free) c3 (wkA [0,1]) (⟨folA,b2a0⟩)
      ·have qh15:=yja h15;exact Qg7 i1 last1 c3 (wkA [0,1]) (⟨folA,b2a0⟩)
    ·refine ai gkA ?_;apply ai<;>intro h21
     ·have qh21:=yca h21;refine dchk (by kernel_rfl) ?_;refine ai gkA ?_;refine ai gkA ?_;(first|apply u2|apply u3|apply u4|apply us);exact mv [0,1] (Qk3 ((p_.getD ((Qn0 p_ from_).toNat) zE).at_) ((p_.getD ((Qn0 p_ from_).toNat) zE).free) (List.take ((Qn0 p_ from_).toNat) p_) b2a1) (dO (dc (dv (QP3 rfl lnA) .nil)) (dO (dr eqA) .nil)) (d1 (d1 (dp .nil))) (rO (rc (.cons _ _ _ _ (rw_ 2 0 rfl) .nil)) (rO rr .nil)) rx;(repeat ((first|refine ai rfl ?_|refine ai (fun _=>rfl) ?_)));exact Qj0 (Qm1 ((p_.getD ((Qn0 p_ from_).toNat) zE).at_) ((p_.getD ((Qn0 p_ from_).toNat) zE).free) (List.take ((Qn0 p_ from_).toNat) p_)) (wkA [0,2]) (⟨folA,b2a0⟩)
     ·have qh21:=yja h21;exact Qj0 (List.take ((Qn0 p_ from_).toNat) p_) (wkA [0,1]) (⟨folA,b2a0⟩)
theorem Qz7 (p:List Step) (f t n:Int) (hp:p.length<=4294967296):(Qz2 p f t n).1.length<=4294967296:=by
 have k4:∀ c,(Qn4 c).1.length<=4294967296:=by
  intro c;unfold Qn4;cases h:((QE2 c)!=0) with
  | true=>simp
  | false=>have:=Qj6 h;simp only [cond_false];omega
 have k2:∀ i last c,(Qm4 p t i last c).1.length<=4294967296:=by
  intro i last c;unfold Qm4 Qo4;cases (i==(p.length:Int)) <;> simp only [cond_true,cond_false]
  ·exact k4 _
  ·cases (decide (t<=1000000)) <;> simp only [cond_true,cond_false] <;> exact k4 _
 have g3:∀ m i last c,(Ql4 p t n m i last c).1.length<=4294967296:=by
  intro m
  induction m with
  | zero=>intro i last c;simp [Ql4]
  | succ m ih =>
   intro i last c;rw [Ql4]
   repeat' first|exact ih _ _ _|exact k2 _ _ _|(rw [yka];split)
 unfold Qz2 Qw6
 repeat' first|exact g3 _ _ _ _|exact hp|(simp;done)|(rw [yka];split)
def QQ5 (p_:List Step) (long nodes at_:Int) (i:Nat):Int × Bool:=bif (decide (at_ > (w64 (1000000 - long)))) then (0,false) else ear long nodes (List.drop i p_) at_
def QH2 (p_:List Step) (from_ long nodes:Int):Int × Bool:=bif (((QE2 p_)!=0)||(!(Q4a long nodes))) then (0,false) else QQ5 p_ long nodes (max from_ 0) 0
theorem ear_step (long n a:Int) (p:List Step) (i:Nat) (hi:i<p.length) (hp:p.length<=4294967296) (h:(p.getD i zE).at_<w64 (a+long)) :
  (((decide ((p.getD i zE).free >= n))||((!((w64 ((i:Int)+1))==(p.length:Int)))&&(decide ((p.getD ((w64 ((i:Int)+1)).toNat) zE).at_<=a))))=true->ear long n (List.drop i p) a=ear long n (List.drop (i+1) p) a) ∧
  (((decide ((p.getD i zE).free >= n))||((!((w64 ((i:Int)+1))==(p.length:Int)))&&(decide ((p.getD ((w64 ((i:Int)+1)).toNat) zE).at_<=a))))=false ->
   (((w64 ((i:Int)+1))==(p.length:Int))=true->ear long n (List.drop i p) a=(0,false))∧(((w64 ((i:Int)+1))==(p.length:Int))=false->i+1<p.length∧ear long n (List.drop i p) a=QQ5 p long n (p.getD (i+1) zE).at_ (i+1))):=by
 have hw:w64 ((i:Int)+1)=((i+1:Nat):Int):=wr oA;rw [hw,Qd0 zE hi];simp only [yXa];have e:∀ r,ear long n (p.getD i zE :: r) a=bif decide ((p.getD i zE).free >= n) then ear long n r a else match r with | []=>(0,false)|y :: _=>bif decide (y.at_<=a) then ear long n r a else bif decide (y.at_ > w64 (1000000 - long)) then (0,false) else ear long n r y.at_:=by
  intro r;rw [ear_cons,yoa h]
  rfl
 rw [e];cases decide ((p.getD i zE).free >= n) with
 | true=>exact ⟨fun _=>rfl,fun h=>nomatch h⟩
 | false =>
  rcases yGa (i+1) p.length with hl|hl
  ·have hb:(((i+1:Nat):Int)==(p.length:Int))=false:=by simp;omega
   rw [hb,Qd0 zE hl];cases hc:decide ((p.getD (i+1) zE).at_<=a) with
   | true=>exact ⟨fun _=>by simp only [cond_false,hc,cond_true],fun h=>nomatch h⟩
   | false =>
    refine ⟨fun h=>(nomatch h),fun _=>⟨fun h=>(nomatch h),fun _=>⟨hl,?_⟩⟩⟩;unfold QQ5;rw [Qd0 zE hl];simp only [cond_false,hc]
  ·have hb:(((i+1:Nat):Int)==(p.length:Int))=true:=by simp;omega
   rw [hb,ysb hl];exact ⟨fun h=>(by cases h),fun _=>⟨fun _=>rfl,fun h=>nomatch h⟩⟩
theorem ear_end {long n a:Int} {p:List Step} {i:Nat} (hi:i<=p.length) (h:((decide ((i:Int)<(p.length:Int)))&&(decide ((p.getD i zE).at_<w64 (a+long))))=false):ear long n (List.drop i p) a=(a,true):=by
 rcases yGa i p.length with hl|hl
 ·rw [Qd0 zE hl,ear_cons];rw [show decide ((i:Int)<(p.length:Int))=true from yoa oA,y5b] at h;rw [h]
  rfl
 ·rw [ysb hl]
  rfl
theorem fit_Earliest_c (p_:List Step) (from_ long nodes:Int) (hs0:p_.length<=4294967296):GV 214 [stepL p_,I from_,I long,I nodes] (AVal.tup [I (QH2 p_ from_ long nodes).1,Bo (QH2 p_ from_ long nodes).2]):=by
 generalize hR:QH2 p_ from_ long nodes=R;refine ga (.cons lw (l1 (l1 (l1 .nil)))) (Low.tup' (l1 (l1 .nil))) (kj [3000001] 13 [21,27,42,70,71]) Tryz.func214 ?_;have hk0:=hs0;refine scope_start2 (keep:=kj [3000001] 13 [21,27,42,70,71]) 0 (p_.length+1) (fun (at_:Int) (i:Nat)=>QQ5 p_ long nodes at_ i=R∧i<=p_.length) (fun at_ i=>p_.length - i) (fun at_ i=>[(0,stepL p_),(2,I long),(3,I nodes),(8,I 0),(9,Bo false),(10,I at_),(11,I (i:Int))]) (fun _ _=>[]) rfl ?_ ?_
 ·clear hR;rintro at_ i0 ⟨hR,hi0⟩;apply ai<;>intro h1
  ·obtain rfl:=foll hR (ct h1 rfl);exact Q60 (Low.tup' (l1 (l1 .nil))) sr
  ·refine Qk0 (fun (i:Nat)=>ear long nodes (List.drop i p_) at_=R∧i<=p_.length∧i0<=i) (fun i=>p_.length - i) (fun i=>[(0,stepL p_),(2,I long),(3,I nodes),(8,I 0),(9,Bo false),(10,I at_),(11,I (i:Int))]) (fun _=>[]) i0 (wk [] .nil (sl lw (s1 (s1 (s1 (s1 (s1 (s1 .nil)))))))) ⟨foll hR (cf h1 rfl),hi0,yia _⟩ ?_;clear hR;rintro i ⟨hR,hj,hq⟩;(try dsimp only at hR hj hq);refine ai gkA ?_;apply ai<;>intro h3
   ·have h3':=Bool.and_eq_true_iff.1 h3;(have hlt:i<p_.length:=by have:=yca h3'.1;omega);have hs:=ear_step long nodes at_ p_ i hlt hs0 (yca h3'.2);have hw1:w64 ((i:Int)+1)=(i:Int)+1:=wr oA;refine ai gkA ?_;refine ai gkA ?_;apply ai<;>intro h5
    ·exact Qr0 (i+1) (wk [] .nil (sl lw (s1 (s1 (s1 (s1 (s1 (sv (turn_eq (I_eq (wr omA)) lx) .nil)))))))) omA ⟨(hs.1 h5).symm.trans hR,hlt,by omega⟩
    ·apply ai<;>intro h7
     ·obtain rfl:=((hs.2 h5).1 h7).symm.trans hR;exact Q60 (Low.tup' (l1 (l1 .nil))) sr
     ·have h7':=(hs.2 h5).2 h7;refine ai gkA ?_;exact ⟨rfl,Qc0 ((p_.getD (i+1) zE).at_) (i+1) (wk [] .nil (sl lw (s1 (s1 (s1 (s1 (sv (turn_eq (I_eq (by show (p_.getD ((w64 ((i:Int)+1)).toNat) zE).at_=_;rw [hw1];rfl)) lx) (sv (turn_eq (I_eq (wr omA)) lx) .nil)))))))) omA ⟨h7'.2.symm.trans hR,hlt⟩⟩
   ·obtain rfl:=(ear_end hj h3).symm.trans hR;exact Q60 (Low.tup' (l1 (l1 .nil))) sr
 ·refine us (QV4 p_ szA _) ?_;(first|apply u2|apply u3|apply u4|apply us);exact Q4c long nodes _;apply ai<;>intro h1
  ·obtain rfl:=foll hR (ct h1 rfl);exact Q60 (Low.tup' (l1 (l1 .nil))) sr
  ·refine ai (fun h3=>?_) (fun h4=>?_)
   ·obtain rfl:=foll hR ((cf h1 rfl).trans (ct h3 rfl));exact Q60 (Low.tup' (l1 (l1 .nil))) sr
   ·refine Qk0 (fun (i:Nat)=>ear long nodes (List.drop i p_) (max from_ 0)=R∧i<=p_.length) (fun i=>p_.length - i) (fun i=>[(0,stepL p_),(2,I long),(3,I nodes),(8,I 0),(9,Bo false),(10,I (max from_ 0)),(11,I (i:Int))]) (fun _=>[]) 0 (wk [] .nil (sl lw (s1 (s1 (s1 (s1 (s1 (s1 .nil)))))))) ⟨foll hR ((cf h1 rfl).trans (cf h4 rfl)),yna _⟩ ?_;clear hR;rintro i ⟨hR,hj⟩;(try dsimp only at hR hj);refine ai gkA ?_;apply ai<;>intro h3
    ·have h3':=Bool.and_eq_true_iff.1 h3;(have hlt:i<p_.length:=by have:=yca h3'.1;omega);have hs:=ear_step long nodes (max from_ 0) p_ i hlt hs0 (yca h3'.2);have hw1:w64 ((i:Int)+1)=(i:Int)+1:=wr oA;refine ai gkA ?_;refine ai gkA ?_;apply ai<;>intro h5
     ·exact Qr0 (i+1) (wk [] .nil (sl lw (s1 (s1 (s1 (s1 (s1 (sv (turn_eq (I_eq (wr omA)) lx) .nil)))))))) omA ⟨(hs.1 h5).symm.trans hR,hlt⟩
     ·apply ai<;>intro h7
      ·obtain rfl:=((hs.2 h5).1 h7).symm.trans hR;exact Q60 (Low.tup' (l1 (l1 .nil))) sr
      ·have h7':=(hs.2 h5).2 h7;refine ai gkA ?_;exact ⟨rfl,Qc0 ((p_.getD (i+1) zE).at_) (i+1) (wk [] .nil (sl lw (s1 (s1 (s1 (s1 (sv (turn_eq (I_eq (by show (p_.getD ((w64 ((i:Int)+1)).toNat) zE).at_=_;rw [hw1];rfl)) lx) (sv (turn_eq (I_eq (wr omA)) lx) .nil)))))))) omA ⟨h7'.2.symm.trans hR,hlt⟩⟩
    ·obtain rfl:=(ear_end hj h3).symm.trans hR;exact Q60 (Low.tup' (l1 (l1 .nil))) sr
def Qd4 (p_:List Step) (to_:Int):Nat->Int->Int->Int × Int
 | 0,_,_=>(0,0)
 | m+1,i,n=>bif ((decide (i<(p_.length:Int)))&&(decide ((p_.getD (i.toNat) zE).at_<to_))) then Qd4 p_ to_ m (w64 (i+1)) (min n (p_.getD (i.toNat) zE).free) else (i,n)
def Qe4 (i:Int) (n:Int):Int:=n
def Q29 (p_:List Step) (from_:Int) (to_:Int):Int:=bif ((((QE2 p_)!=0)||(!(Qk6 from_)))||(decide (to_<=from_))) then 0 else Qe4 ((Qd4 p_ to_ ((((p_.length:Int) - (w64 ((Qn0 p_ from_)+1))).toNat)+1) (w64 ((Qn0 p_ from_)+1)) ((p_.getD ((Qn0 p_ from_).toNat) zE).free)).1) ((Qd4 p_ to_ ((((p_.length:Int) - (w64 ((Qn0 p_ from_)+1))).toNat)+1) (w64 ((Qn0 p_ from_)+1)) ((p_.getD ((Qn0 p_ from_).toNat) zE).free)).2)
theorem QBe (p_:List Step) (from_:Int) (to_:Int) (hs0:p_.length<=4294967296):GV 248 [stepL p_,I from_,I to_] (I (Q29 p_ from_ to_)):=by
 generalize hR:Q29 p_ from_ to_=R;refine gA (kp 9 [21,44]) Tryz.func248 ?_;have hk0:=hs0;obtain z5:p_.length<=4294967296:=hs0;refine us (QV4 p_ szA _) ?_;(first|apply u2|apply u3|apply u4|apply us);exact QVc from_ _;apply ai<;>intro h1
 ·exact lfA
 ·refine us (QM9 p_ from_ szA _) ?_;have hb:=Bool.or_eq_false_iff.1 (Bool.or_eq_false_iff.1 h1).1;have hc:=Qj6 hb.1;have hq:=hb.2;simp [Qk6] at hq;have hp:=Qk9 hc.1 hc.2.1 hc.2.2 (t:=from_) oA;have hw:w64 (Qn0 p_ from_+1)=Qn0 p_ from_+1:=wr oA;refine ai gkA ?_;refine Qu0 (fun (i:Int) (n:Int)=>∃ m,(((p_.length:Int) - i).toNat)<m∧Qe4 (Qd4 p_ to_ m i n).1 (Qd4 p_ to_ m i n).2=R∧0<=i∧i<=(p_.length:Int)) (fun i n=>(((p_.length:Int) - i).toNat)) (fun i n=>[(0,stepL p_),(2,I to_),(6,I 0),(7,I i),(8,I n)]) (fun i n=>[]) (w64 ((Qn0 p_ from_)+1)) ((p_.getD ((Qn0 p_ from_).toNat) zE).free) (wkA []) ⟨_,yTa _,foll hR (cf h1 rfl),by first|((rw [hw];omega))|first|((rw [hw1];omega))|exact exA⟩ ?_;clear hR;rintro i n ⟨m,hm,hR,hx⟩;(try dsimp only at hR hm hx);obtain ⟨m,rfl⟩:=sucA m;refine ai gkA ?_;apply ai<;>intro h3
  ·have hw1:w64 (i+1)=i+1:=wr oA;refine ai gkA ?_;exact Qc0 (w64 (i+1)) (min n (p_.getD (i.toNat) zE).free) (wkA []) (by first|((dsimp only;rw [hw1];omega))|exact omA) ⟨m,by first|((dsimp only;rw [hw1];omega))|exact omA,foll hR (congrArg (fun p:Int × Int=>Qe4 p.1 p.2) (ct h3 rfl)),by first|((rw [hw];omega))|first|((rw [hw1];omega))|exact exA⟩
  ·replace hR:Qe4 i n=R:=fo2 (fun p:Int × Int=>Qe4 p.1 p.2) (i,n) hR (cf h3 rfl);exact lfA
def Qyd (l:List Int):Int:=(QHe 1000000000000 l).1
theorem sat_Plus_c (l:List Int) (hs0:l.length<=4294967296):GV 262 [ints l] (I (Qyd l)):=by
 generalize hR:Qyd l=R;refine gA (kp 5 []) Tryz.func262 ?_;have hk0:=hs0;obtain z1:l.length<=4294967296:=hs0;refine us (sat_sum_c 1000000000000 l szA _) ?_;exact lfA
def Qi6 (n:Int):Nat->Int->Nat->Int
 | 0,_,_=>0
 | m+1,rest,i=>bif (decide ((i:Int)<n)) then Qi6 n m (wu64 (BitVec.ofInt 64 rest &&& BitVec.ofInt 64 (wu64 (rest - 1))).toNat) (i+1) else rest
def QW3 (s:Int) (rest:Int):Int × Bool:=((wu64 (BitVec.ofInt 64 s &&& ~~~(BitVec.ofInt 64 rest)).toNat),true)
def QI1 (s:Int) (n:Int):Int × Bool:=bif ((decide (n<0))||(decide (n > (QQ0 s)))) then (0,false) else QW3 s (Qi6 n (((n - (0:Int)).toNat)+1) s 0)
theorem Qgd (s:Int) (n:Int):GV 180 [U s,I n] (AVal.tup [U ((QI1 s n).1),Bo ((QI1 s n).2)]):=by
 generalize hR:QI1 s n=R;refine gA (kp 7 [14,16,17,18]) Tryz.func180 ?_;(first|apply u2|apply u3|apply u4|apply us);exact Qy1 s _;apply ai<;>intro h1
 ·exact lfA
 ·refine Qu0 (fun (rest:Int) (i:Nat)=>∃ m,((n - (i:Int)).toNat)<m∧QW3 s (Qi6 n m rest i)=R) (fun rest i=>((n - (i:Int)).toNat)) (fun rest i=>[(0,U s),(4,U 0),(5,Bo false),(6,U rest),(16,I n),(17,I (i:Int))]) (fun rest i=>[]) s 0 (wkA []) ⟨_,yTa _,foll hR (cf h1 rfl)⟩ ?_;clear hR;rintro rest i ⟨m,hm,hR⟩;(try dsimp only at hR hm);obtain ⟨m,rfl⟩:=sucA m;apply ai<;>intro h3
  ·have qh3:=yca h3;have hnc:=Qdd s;have hb:=Bool.or_eq_false_iff.1 h1;have hb1:=yja hb.1;have hb2:=yja hb.2;exact Qc0 (wu64 (BitVec.ofInt 64 rest &&& BitVec.ofInt 64 (wu64 (rest - 1))).toNat) (i+1) (wkA []) omA ⟨m,by exact omA,foll hR (congrArg (fun p:Int=>QW3 s p) (ct h3 rfl))⟩
  ·have qh3:=yja h3;replace hR:QW3 s rest=R:=fo2 (fun p:Int=>QW3 s p) (rest) hR (cf h3 rfl);exact lfA
def sat_Over (l:List Int):Bool:=(!(QHe 1000000 l).2)
theorem sat_Over_c (l:List Int) (hs0:l.length<=4294967296):GV 185 [ints l] (Bo (sat_Over l)):=by
 generalize hR:sat_Over l=R;refine gA (kp 5 []) Tryz.func185 ?_;have hk0:=hs0;obtain z1:l.length<=4294967296:=hs0;refine us (sat_sum_c 1000000 l szA _) ?_;exact lfA
def Q49 (a:Job) (b:Job):List Dep->Nat->Bool
 | [],_=>((((((((((((((a.id==b.id)&&(ByteArray.toList a.name==ByteArray.toList b.name))&&(ByteArray.toList a.user==ByteArray.toList b.user))&&(ByteArray.toList a.account==ByteArray.toList b.account))&&(a.prio==b.prio))&&(a.state==b.state))&&(a.held==b.held))&&(a.born==b.born))&&(a.promise==b.promise))&&(a.choice==b.choice))&&(a.start==b.start))&&(a.limit==b.limit))&&(a.nodes==b.nodes))&&(a.used==b.used))
 | x_ :: r,i=>bif (!((x_.how==(b.after.getD i zC).how)&&(x_.job==(b.after.getD i zC).job))) then false else Q49 a b r (i+1)
def Qkc (a:Job) (b:Job):Bool:=bif (((a.after.length:Int)!=(b.after.length:Int))||(!(Qic a.shape b.shape))) then false else Q49 a b a.after 0
theorem QYc (a:Job) (b:Job) (hs0:a.sz) (hs1:b.sz):GV 68 [Job.a a,Job.a b] (Bo (Qkc a b)):=by
 generalize hR:Qkc a b=R;refine gA (kp 7 [21,26,39]) Tryz.func68 ?_;obtain ⟨z7,z8,z9,z10,z11⟩:=Job.zz hs0;obtain ⟨z12,z13,z14,z15,z16⟩:=Job.zz hs1;(first|apply u2|apply u3|apply u4|apply us);exact ref07_Same_c a.shape b.shape szA szA _;apply ai<;>intro h1
 ·exact lfA
 ·refine Qk0 (fun (i:Nat)=>Q49 a b (List.drop i a.after) i=R∧i<=a.after.length) (fun i=>a.after.length - i) (fun i=>[(2,AVal.ptr 0 0 20 0 0),(3,AVal.ptr 1 0 20 0 0),(4,Bo false),(5,I (i:Int))]) (fun i=>[(0,AObj.row 55 20 [[I a.id,Sg a.name,Sg a.user,Sg a.account,I a.shape.kind,altL a.shape.alts,I a.shape.min,I a.shape.max,I a.shape.wall,I a.prio,depL a.after,I a.state,Bo a.held,I a.born,I a.promise,I a.choice,I a.start,I a.limit,U a.nodes,I a.used]]),(0,AObj.row 55 20 [[I b.id,Sg b.name,Sg b.user,Sg b.account,I b.shape.kind,altL b.shape.alts,I b.shape.min,I b.shape.max,I b.shape.wall,I b.prio,depL b.after,I b.state,Bo b.held,I b.born,I b.promise,I b.choice,I b.start,I b.limit,U b.nodes,I b.used]])]) 0 (wkA [0,1]) ⟨folA,by exact omA⟩ ?_;clear hR;rintro i ⟨hR,hj⟩;(try dsimp only at hR hj);apply ai<;>intro h3
  ·have hlt:=ltA h3;rw [Qd0 zC hlt] at hR;refine dchk (by kernel_rfl) ?_;refine ai gkA ?_;refine ai gkA ?_;refine ai (fun _=>(by kernel_rfl:eqOK _ _=true)) ?_;(repeat ((first|refine ai rfl ?_|refine ai (fun _=>rfl) ?_)));apply ai<;>intro h5
   ·exact lfA
   ·exact Qr0 (i+1) (wkA [0,1]) omA ⟨folA,by exact omA⟩
  ·rw [Qh0 (l:=a.after) (j:=i) (geA h3)] at hR;exact lfA
end Go.Proofs.YtgnlcjenoaoffaaGreatDoor
