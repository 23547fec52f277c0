/-
  Contracts of functions, printed by a program of this repo (wip/dec). No condition beyond those that stand in each.
-/
import Derived.Test.YtiiaifgeekdpaaaGreatDoorG8
import Derived.Test.YtiiaifgeekdpaaaGreatDoorProg
namespace Go.Proofs.YtiiaifgeekdpaaaGreatDoor
set_option linter.unusedSimpArgs false
set_option linter.unusedVariables false
open Go.Fw
set_option maxRecDepth 20000
set_option maxHeartbeats 4000000
attribute [local irreducible] ACalls AMoves
def QP5 (j:Job):Bool:=(((((Ql9 j.shape)&&(decide ((j.after.length:Int)<=100)))&&(decide ((ByteArray.size j.name:Int)<=1000)))&&(decide ((ByteArray.size j.user:Int)<=1000)))&&(decide ((ByteArray.size j.account:Int)<=1000)))
theorem QGb (j:Job):∀ objs,AGives Tryz.prog 16 [Job.a j] objs (Bo (QP5 j)):=by
 generalize hR:QP5 j=R;refine ga (.cons (Job.low _ _) .nil) lx (kp 3 []) Tryz.func16 ?_;refine us (law07_Few_c j.shape _) ?_;obtain rfl:=foll hR rfl;exact Q00 lx sr
def QP1 (s:List Node) (f:Node->Bool):Bool:=(decide ((QR1 s f) >= 0))
def Qc1 (s:List Int) (v:Int):Bool:=(decide ((QY5 s v) >= 0))
theorem QQ1 (s:List Int) (v:Int) (hs0:s.length<=4294967296):∀ objs,AGives Tryz.prog 51 [ints s,I v] objs (Bo (Qc1 s v)):=by
 generalize hR:Qc1 s v=R;refine ga (.cons lw (l1 .nil)) lx (kp 5 []) Tryz.func51 ?_;have hk0:=hs0;obtain z1:s.length<=4294967296:=hs0;refine us (QL9 s v szA _) ?_;obtain rfl:=foll hR rfl;exact Q00 lx sr
def Qu6 (n:Int):Int:=(QJ5 n 0 1000000000000)
theorem Qac (n:Int):∀ objs,AGives Tryz.prog 76 [I n] objs (I (Qu6 n)):=by
 generalize hR:Qu6 n=R;refine ga (l1 .nil) lx (kp 3 []) Tryz.func76 ?_;refine us (QZa n 0 1000000000000 _) ?_;obtain rfl:=foll hR rfl;exact Q00 lx sr
def QD0 (s:List Alt) (f:Alt->Bool):Bool:=(decide ((QK0 s f) >= 0))
def QV9 (n:Int):Bool:=(Qa2 n 1 100000)
theorem cmd_length_c (n:Int):∀ objs,AGives Tryz.prog 152 [I n] objs (Bo (QV9 n)):=by
 generalize hR:QV9 n=R;refine ga (l1 .nil) lx (kp 3 []) Tryz.func152 ?_;refine us (QC2 n 1 100000 _) ?_;obtain rfl:=foll hR rfl;exact Q00 lx sr
def QB4 :List (Nat × Int)->Nat->Int × Int
 | [],n=>((n:Int),0)
 | x_ :: r,n=>bif ((QR0 x_.2)==0) then ((n:Int),40) else QB4 r (n+1)
def QM3 (s:ByteArray):Int × Int:=QB4 (QI5 s) 0
theorem QG9 (s:ByteArray) (hs0:s.size<=4294967296):∀ objs,AGives Tryz.prog 169 [Sg s] objs (AVal.tup [I ((QM3 s).1),I ((QM3 s).2)]):=by
 generalize hR:QM3 s=R;refine ga (l1 .nil) (Low.tup' (l1 (l1 .nil))) (kp 7 [8,9,10,14]) Tryz.func169 ?_;have hk0:=hs0;obtain z5:s.size<=4294967296:=hs0;refine Qj0 (fun (n:Nat) (pos:Nat)=>∃ m,ByteArray.size s - pos<=m∧QB4 (Qp3 s m pos) n=R∧n<=pos) (fun n pos=>ByteArray.size s - pos) (fun n pos=>[(2,I 0),(3,I 0),(4,I (n:Int)),(8,AVal.ptr 0 0 1 0 0)]) (fun n pos=>[(0,AObj.other (.strIter s pos))]) 0 0 (wk [0] (tO rfl (.strIter _ _) .nil) (s1 (s1 (s1 (sv (Q10 0 rfl rfl) .nil))))) ⟨ByteArray.size s,by exact omA,foll hR rfl,by exact exA⟩ ?_;clear hR;rintro n pos ⟨m,hm,hR,hx⟩;(try dsimp only at hR hm hx);refine ai (fun h1=>?_) (fun h2=>?_)
 ·have hlt:=of_decide_eq_true h1;have hw:=Q56 s pos;have hwe:=Q46 s pos hlt;obtain ⟨m,rfl⟩:=sucA m;rw [QA2 h1] at hR;refine ai (fun _=>?_) (fun h=>nomatch h);refine us (QN3 ((pos,((Utf8.decode s pos).1:Int)).2) _) ?_;refine ai (fun h3=>?_) (fun h4=>?_)
  ·obtain rfl:=foll hR (ct h3 rfl);exact Q00 (Low.tup' (l1 (l1 .nil))) (Seen.tup (e1 (e1 .nil)))
  ·exact Qa0 (n+1) (pos+(Utf8.decode s pos).2) (wk [0] (tO rfl (.strIter _ _) .nil) (s1 (s1 (sv (Qd0 (I_eq (wr omA)) lx) (sv (Q10 0 rfl rfl) .nil))))) omA ⟨m,by exact omA,foll hR (cf h4 rfl),by exact exA⟩
 ·rw [Qg4 h2] at hR;refine ai (fun h=>nomatch h) (fun _=>?_);obtain rfl:=foll hR rfl;exact Q00 (Low.tup' (l1 (l1 .nil))) (Seen.tup (e1 (e1 .nil)))
def Q90 (y:Int):List Int->Nat->Bool
 | [],_=>((false||(y==45))||(y==95))
 | x_ :: r,i=>bif ((QR0 y)==x_) then true else Q90 y r (i+1)
def Qz1 (r_:LexReader):Token × LexReader:=((⟨1,(Qx5 ((Q20 r_ (fun (y:Int)=>Q90 y ([2,3]:List Int) 0)).1)),0,0⟩:Token),(Q20 r_ (fun (y:Int)=>Q90 y ([2,3]:List Int) 0)).2)
theorem Q5a (r_:LexReader) (hs0:r_.sz) (hp0:0<=r_.at_∧r_.at_<=(r_.line.length:Int)∧r_.line.length<=400):AMoves Tryz.prog 195 [AVal.ptr 0 0 4 0 0] [(0,AObj.row 210 4 [[runes r_.line,I r_.at_,I r_.bad,I r_.error]])] 1 (Token.a ((Qz1 r_).1)) [(0,AObj.row 210 4 [[runes ((Qz1 r_).2.line),I ((Qz1 r_).2.at_),I ((Qz1 r_).2.bad),I ((Qz1 r_).2.error)]])]:=by
 generalize hR:Qz1 r_=R;refine mo (kp 5 []) Tryz.func195 ?_;have hk0:=hs0;obtain z7:r_.line.length<=4294967296:=hs0;refine Or.inl ?_;refine ACalls.of_cwp (fun _=>true) Tryz.func184 rfl rfl ?_;refine ⟨_,_,Told.refl,?_⟩;have cl1:∀ (y1:Int),AMoves Tryz.prog 206 [J y1,AVal.ptr 1 0 1 0 0] [(0,AObj.row 39 1 [[ints ([2,3]:List Int)]]),(0,AObj.row 211 1 [[AVal.fn (.func 194) [] [AVal.ptr 0 0 1 0 0]]])] 2 (Bo ((fun (y:Int)=>Q90 y ([2,3]:List Int) 0) y1)) [(0,AObj.row 39 1 [[ints ([2,3]:List Int)]]),(0,AObj.row 211 1 [[AVal.fn (.func 194) [] [AVal.ptr 0 0 1 0 0]]])]:=by
  intro y1;have hR:(fun (y:Int)=>Q90 y ([2,3]:List Int) 0) y1=(fun (y:Int)=>Q90 y ([2,3]:List Int) 0) y1:=rfl;refine mo (kp 4 []) Tryz.func206 ?_;refine ACalls.of_cwp (fun _=>true) Tryz.func194 rfl rfl ?_;refine Qh0 (fun (i:Nat)=>Q90 y1 (List.drop i ([2,3]:List Int)) i=(fun (y:Int)=>Q90 y ([2,3]:List Int) 0) y1∧i<=([2,3]:List Int).length) (fun i=>([2,3]:List Int).length - i) (fun i=>[(0,J y1),(3,Bo false),(6,ints ([2,3]:List Int)),(7,I (([2,3]:List Int).length:Int)),(8,I (i:Int))]) (fun i=>[(0,AObj.row 39 1 [[ints ([2,3]:List Int)]]),(0,AObj.row 211 1 [[AVal.fn (.func 194) [] [AVal.ptr 0 0 1 0 0]]])]) 0 (wk [0,1] (tO rfl (ts (lv lw LowL.nil)) (tO rfl (Qs0 (cv (Q51 .nil (cv (Q10 0 rfl rfl) .nil)) .nil)) .nil)) (s1 (s1 (sl lw (s1 (s1 .nil)))))) ⟨foll hR rfl,by exact omA⟩ ?_;clear hR;rintro i ⟨hR,hj⟩;(try dsimp only at hR hj);refine ai (fun h1=>?_) (fun h2=>?_)
  ·(have hlt:i<([2,3]:List Int).length:=by have:=of_decide_eq_true h1;omega);rw [Qf0 0 hlt] at hR;refine ai gkA ?_;refine us (QN3 y1 _) ?_;refine ai (fun h3=>?_) (fun h4=>?_)
   ·refine ⟨_,_,Told.refl,?_⟩;refine Qn0 (fun r:Bool=>Bo r) (fun _=>[(0,AObj.row 39 1 [[ints ([2,3]:List Int)]]),(0,AObj.row 211 1 [[AVal.fn (.func 194) [] [AVal.ptr 0 0 1 0 0]]])]) (leaf:=true) (foll hR (ct h3 rfl)) ?_;exact tt [0,1] (tO rfl (ts (lv lw LowL.nil)) (tO rfl (Qs0 (cv (Q51 .nil (cv (Q10 0 rfl rfl) .nil)) .nil)) .nil)) t1
   ·exact Ql0 (i+1) (wk [0,1] (tO rfl (ts (lv lw LowL.nil)) (tO rfl (Qs0 (cv (Q51 .nil (cv (Q10 0 rfl rfl) .nil)) .nil)) .nil)) (s1 (s1 (sl lw (s1 (sv (Qd0 (I_eq (wr omA)) lx) .nil)))))) omA ⟨foll hR (cf h4 rfl),by exact omA⟩
  ·rw [Qg0 (l:=([2,3]:List Int)) (j:=i) (geA h2)] at hR;refine ⟨_,_,Told.refl,?_⟩;refine Qn0 (fun r:Bool=>Bo r) (fun _=>[(0,AObj.row 39 1 [[ints ([2,3]:List Int)]]),(0,AObj.row 211 1 [[AVal.fn (.func 194) [] [AVal.ptr 0 0 1 0 0]]])]) (leaf:=((false||(y1==45))||(y1==95))) (foll hR rfl) ?_;exact tt [0,1] (tO rfl (ts (lv lw LowL.nil)) (tO rfl (Qs0 (cv (Q51 .nil (cv (Q10 0 rfl rfl) .nil)) .nil)) .nil)) t1
 have hof1:AMoves Tryz.prog 185 [AVal.ptr 0 0 4 0 0,AVal.fn (.func 206) [] [AVal.ptr 2 0 1 0 0]] [(0,AObj.row 210 4 [[runes r_.line,I r_.at_,I r_.bad,I r_.error]]),(0,AObj.row 39 1 [[ints ([2,3]:List Int)]]),(0,AObj.row 211 1 [[AVal.fn (.func 194) [] [AVal.ptr 1 0 1 0 0]]])] 3 (Sg ((Q20 r_ (fun (y:Int)=>Q90 y ([2,3]:List Int) 0)).1)) [(0,AObj.row 210 4 [[runes (((Q20 r_ (fun (y:Int)=>Q90 y ([2,3]:List Int) 0)).2).line),I (((Q20 r_ (fun (y:Int)=>Q90 y ([2,3]:List Int) 0)).2).at_),I (((Q20 r_ (fun (y:Int)=>Q90 y ([2,3]:List Int) 0)).2).bad),I (((Q20 r_ (fun (y:Int)=>Q90 y ([2,3]:List Int) 0)).2).error)]]),(0,AObj.row 39 1 [[ints ([2,3]:List Int)]]),(0,AObj.row 211 1 [[AVal.fn (.func 194) [] [AVal.ptr 1 0 1 0 0]]])]:=by
  have hR:Q20 r_ (fun (y:Int)=>Q90 y ([2,3]:List Int) 0)=Q20 r_ (fun (y:Int)=>Q90 y ([2,3]:List Int) 0):=rfl;refine mo (kp 6 [33]) Tryz.func185 ?_;refine Qh0 (fun (c:LexReader)=>∃ m,(Int.toNat ((c.line.length:Int) - c.at_))<m∧Qq0 r_ (Qp0 (fun (y:Int)=>Q90 y ([2,3]:List Int) 0) m c)=Q20 r_ (fun (y:Int)=>Q90 y ([2,3]:List Int) 0)∧0<=c.at_∧c.at_<=(c.line.length:Int)∧c.line.length<=400∧r_.at_<=c.at_∧0<=r_.at_) (fun c=>(Int.toNat ((c.line.length:Int) - c.at_))) (fun c=>[(0,AVal.ptr 0 0 4 0 0),(1,AVal.fn (.func 206) [] [AVal.ptr 2 0 1 0 0]),(4,Sg ⟨#[]⟩),(5,I r_.at_)]) (fun c=>[(0,AObj.row 210 4 [[runes c.line,I c.at_,I c.bad,I c.error]]),(0,AObj.row 39 1 [[ints ([2,3]:List Int)]]),(0,AObj.row 211 1 [[AVal.fn (.func 194) [] [AVal.ptr 1 0 1 0 0]]])]) r_ (wk [0,1,2] (tO rfl (ts LexReader.lo) (tO rfl (ts (lv lw LowL.nil)) (tO rfl (Qs0 (cv (Q51 .nil (cv (Q10 1 rfl rfl) .nil)) .nil)) .nil))) (sv (Q10 0 rfl rfl) (sv (Q51 .nil (cv (Q10 2 rfl rfl) .nil)) (s1 (s1 .nil))))) ⟨_,Nat.lt_succ_self _,foll hR rfl,by exact exA⟩ ?_;clear hR;rintro c ⟨m,hm,hR,hx⟩;(try dsimp only at hR hm hx);obtain ⟨m,rfl⟩:=sucA m;refine dchk (by kernel_rfl) ?_;refine ai gkA ?_;(first|apply u2|apply u3|apply u4|apply us);exact mv [1,2] (cl1 (c.line.getD (Int.toNat c.at_) 0)) (dO (ds (lv lw LowL.nil)) (dO (dc (dv (dn_fn .nil (dp .nil)) .nil)) .nil)) (d1 (dp .nil)) (rO (re (lv lw LowL.nil)) (rO (rc (rv (ren_fn .nil (.cons _ _ _ _ (rp 1 0 rfl) .nil)) .nil)) .nil)) rx;(repeat ((first|refine ai rfl ?_|refine ai (fun _=>rfl) ?_)));refine ai (fun h5=>?_) (fun h6=>?_)
  ·have hq1:=of_decide_eq_true ((Bool.and_eq_true _ _).mp h5).1;have hwr:w64 (c.at_+1)=c.at_+1:=wr (by omega);exact Ql0 { c with at_:=(w64 (c.at_+1)) } (wk [0,1,2] (tO rfl (ts LexReader.lo) (tO rfl (ts (lv lw LowL.nil)) (tO rfl (Qs0 (cv (Q51 .nil (cv (Q10 1 rfl rfl) .nil)) .nil)) .nil))) (sv (Q10 0 rfl rfl) (sv (Q51 .nil (cv (Q10 2 rfl rfl) .nil)) (s1 (s1 .nil))))) omA ⟨m,by exact omA,foll hR (congrArg (fun p:LexReader=>Qq0 r_ p) (ct h5 rfl)),by exact exA⟩
  ·replace hR:Qq0 r_ c=Q20 r_ (fun (y:Int)=>Q90 y ([2,3]:List Int) 0):=fo2 (fun p:LexReader=>Qq0 r_ p) (c) hR (cf h6 rfl);refine dchk (by kernel_rfl) ?_;refine ai gkA ?_;(first|refine ⟨(List.drop (Int.toNat r_.at_) (List.take (Int.toNat c.at_) c.line)),by exact cvA,?_⟩|refine ⟨_,fun _=>⟨(List.drop (Int.toNat r_.at_) (List.take (Int.toNat c.at_) c.line)),by exact cvA,rfl,rfl⟩,?_⟩|refine ⟨_,rfl,⟨(List.drop (Int.toNat r_.at_) (List.take (Int.toNat c.at_) c.line)),by exact cvA,Sub.refl _,rfl⟩,?_⟩);(repeat ((first|refine ai rfl ?_|refine ai (fun _=>rfl) ?_)));refine Qn0 (fun r:ByteArray × LexReader=>Sg r.1) (fun r:ByteArray × LexReader=>[(0,AObj.row 210 4 [[runes r.2.line,I r.2.at_,I r.2.bad,I r.2.error]]),(0,AObj.row 39 1 [[ints ([2,3]:List Int)]]),(0,AObj.row 211 1 [[AVal.fn (.func 194) [] [AVal.ptr 1 0 1 0 0]]])]) (leaf:=((runesBytes (List.drop (Int.toNat r_.at_) (List.take (Int.toNat c.at_) c.line))),c)) (foll hR rfl) ?_;exact tt [0,1,2] (tO rfl (ts LexReader.lo) (tO rfl (ts (lv lw LowL.nil)) (tO rfl (Qs0 (cv (Q51 .nil (cv (Q10 1 rfl rfl) .nil)) .nil)) .nil))) t1
 refine us (mv [0,2,3] (hof1) (dO (ds LexReader.lo) (dO (dc (dv (dn_as (Q75 (c:=(fun q_=>[I q_])) (d:=0) ([2,3]:List Int) rfl) lw) .nil)) (dO (dc (dv (dn_fn .nil (dp .nil)) .nil)) .nil))) (dp (dv (dn_fn .nil (dp .nil)) .nil)) (rO (re LexReader.lo) (rO (re (lv lw LowL.nil)) (rO (rc (rv (ren_fn .nil (.cons _ _ _ _ (rp 2 0 rfl) .nil)) .nil)) .nil))) rx) ?_;refine us (runes_Lower_c ((Q20 r_ (fun (y:Int)=>Q90 y ([2,3]:List Int) 0)).1) (by first|(exact QR7 _ _ hp0.2.2)|exact szA) _) ?_;obtain rfl:=foll hR rfl;exact rq (tt [0] (tO rfl (ts LexReader.lo) .nil) (QH0 (Low.agg' (Token.lo))))
def Qa8 (s:ByteArray):Int × Unit:=((Ql7 s).1,())
theorem strconv_Atoi_c (s:ByteArray) (hs0:s.size<=4294967296) (hp0:atoiOK s):∀ objs,AGives Tryz.prog 217 [Sg s] objs (AVal.tup [I ((Qa8 s).1),AVal.lit .nilIface]):=by
 generalize hR:Qa8 s=R;refine ga (l1 .nil) (Low.tup' (l1 (l1 .nil))) (kp 6 [12]) Tryz.func217 ?_;have hk0:=hs0;obtain z1:s.size<=4294967296:=hs0;refine us (QBb s szA ckA _) ?_;refine ai (fun h=>nomatch h) (fun _=>?_);obtain rfl:=foll hR rfl;exact Q00 (Low.tup' (l1 (l1 .nil))) (Seen.tup (e1 (e1 .nil)))
def QX0 (x_:Int) (held:Bool):Bool × Bool:=bif (((QR0 x_)==0)||((x_==34)&&(!held))) then (false,held) else (true,((x_==92)&&(!held)))
theorem Qi8 (x_:Int) (held:Bool):AMoves Tryz.prog 211 [J x_,AVal.ptr 0 0 1 0 0] [(0,AObj.row 4 1 [[Bo held]])] 1 (Bo ((QX0 x_ held).1)) [(0,AObj.row 4 1 [[Bo ((QX0 x_ held).2)]])]:=by
 generalize hR:QX0 x_ held=R;refine mo (kp 4 [14]) Tryz.func211 ?_;refine us (QN3 x_ _) ?_;refine ai (fun h1=>?_) (fun h2=>?_)
 ·obtain rfl:=foll hR (ct h1 rfl);exact rq (tt [0] (tO rfl (ts (l1 LowL.nil)) .nil) t1)
 ·obtain rfl:=foll hR (cf h2 rfl);exact rq (tt [0] (tO rfl (ts (l1 LowL.nil)) .nil) t1)
def Qz0 (p_:List Int) (r_:Int):(List Int):=bif (decide ((wu32 r_)<=127)) then (p_++([(wu8 r_)]:List Int)) else (Q12 p_ r_)
theorem Qga (p_:List Int) (r_:Int) (hs0:p_.length<=4294967296):AMoves Tryz.prog 216 [AVal.own 0 0 1 0 p_.length,J r_] [(0,AObj.row 5 1 (p_.map (fun q_=>[Y q_])))] 0 (AVal.own 0 0 1 0 (Qz0 p_ r_).length) [(0,AObj.row 5 1 ((Qz0 p_ r_).map (fun q_=>[Y q_])))]:=by
 generalize hR:Qz0 p_ r_=R;refine mo (kp 5 [7]) Tryz.func216 ?_;have hk0:=hs0;obtain z3:p_.length<=4294967296:=hs0;refine ai (fun h1=>?_) (fun h2=>?_)
 ·have qh1:=of_decide_eq_true h1;refine Or.inl ?_;(first|refine ⟨Qp2 1 rfl lnA apA,?_⟩|refine ⟨Qk1 1 rfl apA,?_⟩);obtain rfl:=foll hR (ct h1 rfl);exact rq (tt [0] (tO rfl (tl eqA) .nil) (to 0 lnA))
 ·have qh2:=of_decide_eq_false h2;refine us (mv [0] (QQ6 p_ r_ szA) (dO (dr eqA) .nil) (dv (Qi7 rfl lnA) (d1 .nil)) (rO rr .nil) (rw_ 1 0 rfl)) ?_;obtain rfl:=foll hR (cf h2 rfl);exact rq (tt [1] (tO rfl (tl eqA) .nil) (to 0 lnA))
theorem QV4 (l:List Int) (r_:Int):∃ k,Qz0 l r_=l++k∧1<=k.length∧k.length<=4∧QL5 k:=by
 have h1:∀ a:Int,QL5 [wu8 a]:=fun a=>QL4 (wu8_in a) QW4
 have h2:∀ a b:Int,QL5 [wu8 a,wu8 b]:=fun a b=>QL4 (wu8_in a) (h1 b)
 have h3:∀ a b c:Int,QL5 [wu8 a,wu8 b,wu8 c]:=fun a b c=>QL4 (wu8_in a) (h2 b c)
 have h4:∀ a b c d:Int,QL5 [wu8 a,wu8 b,wu8 c,wu8 d]:=fun a b c d=>QL4 (wu8_in a) (h3 b c d)
 have hc:QL5 [239,191,189]:=QL4 (by decide) (QL4 (by decide) (QL4 (by decide) QW4))
 unfold Qz0
 cases (decide ((wu32 r_)<=127)) with
 | true=>exact ⟨_,rfl,by simp,by simp,h1 _⟩
 | false =>
  simp only [cond_false]
  unfold Q12
  repeat' first
   | exact ⟨_,rfl,by simp,by simp,h2 _ _⟩
   | exact ⟨_,rfl,by simp,by simp,h3 _ _ _⟩
   | exact ⟨_,rfl,by simp,by simp,h4 _ _ _ _⟩
   | exact ⟨_,rfl,by simp,by simp,hc⟩
   | unfold Q92
   | (rw [Bool.cond_eq_ite];split)
theorem QF6 (l:List Int) (r_:Int):(Qz0 l r_).length ≠ 0:=by
 obtain ⟨k,e,h,_⟩:=QV4 l r_
 rw [e,List.length_append]
 omega
theorem QX2 (l:List Int) (r_:Int):(Qz0 l r_).length<=l.length+4:=by
 obtain ⟨k,e,_,h,_⟩:=QV4 l r_
 rw [e,List.length_append]
 omega
theorem Qf6 (l:List Int) (r_:Int) (h:QL5 l):QL5 (Qz0 l r_):=by
 obtain ⟨k,e,_,_,g⟩:=QV4 l r_
 rw [e]
 exact byteIn_app h g
def Qo0 (s:List Dep) (f:Dep->Bool):Bool:=(decide ((QL0 s f) >= 0))
def Qha (n:Int):Bool:=(Qa2 n 1 99999)
theorem Q5b (n:Int):∀ objs,AGives Tryz.prog 156 [I n] objs (Bo (Qha n)):=by
 generalize hR:Qha n=R;refine ga (l1 .nil) lx (kp 3 []) Tryz.func156 ?_;refine us (QC2 n 1 99999 _) ?_;obtain rfl:=foll hR rfl;exact Q00 lx sr
def Q97 (a:Shape) (b:Shape):Bool:=(((((a.kind==b.kind)&&(a.min==b.min))&&(a.max==b.max))&&(a.wall==b.wall))&&(QI4 a.alts b.alts))
theorem shape_Same_c (a:Shape) (b:Shape) (hs0:a.sz) (hs1:b.sz):∀ objs,AGives Tryz.prog 157 [Shape.a a,Shape.a b] objs (Bo (Q97 a b)):=by
 generalize hR:Q97 a b=R;refine ga (.cons (Shape.low _ _) (.cons (Shape.low _ _) .nil)) lx (kp 5 []) Tryz.func157 ?_;have hk0:=hs0;obtain z1:a.alts.length<=4294967296:=hs0;have hk1:=hs1;obtain z2:b.alts.length<=4294967296:=hs1;(first|apply u2|apply u3|apply u4|apply us);exact QJ9 a.alts b.alts szA szA _;obtain rfl:=foll hR rfl;exact Q00 lx sr
def QC3 (v:Job):Bool:=(((((((v.nodes==0)&&(QB3 v.start))&&(QB3 v.limit))&&(decide (v.promise >= (-1))))&&(decide (v.promise<=1000000)))&&(decide (v.choice >= 0)))&&(decide (v.choice<=48)))
theorem QDb (v:Job):∀ objs,AGives Tryz.prog 80 [Job.a v] objs (Bo (QC3 v)):=by
 generalize hR:QC3 v=R;refine ga (.cons (Job.low _ _) .nil) lx (kp 3 []) Tryz.func80 ?_;(first|apply u2|apply u3|apply u4|apply us);exact Q05 v.start _;(first|apply u2|apply u3|apply u4|apply us);exact Q05 v.limit _;obtain rfl:=foll hR rfl;exact Q00 lx sr
def QY0 (s:Int):Int:=(QF4 s)
theorem Qb4 (s:Int):∀ objs,AGives Tryz.prog 22 [U s] objs (I (QY0 s)):=by
 generalize hR:QY0 s=R;refine ga (l1 .nil) lx (kp 3 []) Tryz.func22 ?_;refine us (QV8 s _) ?_;obtain rfl:=foll hR rfl;exact Q00 lx sr
def QD3 (n:Int):Int:=bif (decide (n<=0)) then 0 else bif (decide (n >= 64)) then 18446744073709551615 else (wu64 ((Qq2 n) - 1))
theorem nodeset_All_c (n:Int):∀ objs,AGives Tryz.prog 159 [I n] objs (U (QD3 n)):=by
 generalize hR:QD3 n=R;refine ga (l1 .nil) lx (kp 3 [3,6]) Tryz.func159 ?_;refine ai (fun h1=>?_) (fun h2=>?_)
 ·have qh1:=of_decide_eq_true h1;obtain rfl:=foll hR (ct h1 rfl);exact Q00 lx sr
 ·have qh2:=of_decide_eq_false h2;refine ai (fun h3=>?_) (fun h4=>?_)
  ·have qh3:=of_decide_eq_true h3;obtain rfl:=foll hR (cf h2 (ct h3 rfl));exact Q00 lx sr
  ·have qh4:=of_decide_eq_false h4;refine us (Qu7 n _) ?_;obtain rfl:=foll hR (cf h2 (cf h4 rfl));exact Q00 lx sr
def Q06 (l:List Book):List Book->Nat->Int
 | [],_=>0
 | x_ :: r,i=>bif ((!(QS6 x_))||((decide ((i:Int) > 0))&&(decide ((l.getD (Int.toNat (w64 ((i:Int) - 1))) Book.zero).id >= x_.id)))) then 190 else Q06 l r (i+1)
def Qn5 (l:List Book):Int:=bif (decide ((l.length:Int) > 8)) then 190 else Q06 l l 0
theorem book_Check_c (l:List Book) (hs0:l.length<=4294967296):∀ objs,AGives Tryz.prog 32 [bookL l] objs (I (Qn5 l)):=by
 generalize hR:Qn5 l=R;refine ga (.cons lw .nil) lx (kp 5 [7,8,9,10,11,32]) Tryz.func32 ?_;have hk0:=hs0;obtain z7:l.length<=4294967296:=hs0;refine ai (fun h1=>?_) (fun h2=>?_)
 ·have qh1:=of_decide_eq_true h1;obtain rfl:=foll hR (ct h1 rfl);exact Q00 lx sr
 ·have qh2:=of_decide_eq_false h2;refine Qh0 (fun (i:Nat)=>Q06 l (List.drop i l) i=R∧i<=l.length) (fun i=>l.length - i) (fun i=>[(0,bookL l),(2,I 0),(8,bookL l),(9,I (l.length:Int)),(10,I (i:Int))]) (fun i=>[]) 0 (wk [] .nil (sl lw (s1 (sl lw (s1 (s1 .nil)))))) ⟨foll hR (cf h2 rfl),by exact omA⟩ ?_;clear hR;rintro i ⟨hR,hj⟩;(try dsimp only at hR hj);refine ai (fun h3=>?_) (fun h4=>?_)
  ·have hlt:=ltA h3;rw [Qf0 Book.zero hlt] at hR;refine ai gkA ?_;refine dchk (by kernel_rfl) ?_;(first|apply u2|apply u3|apply u4|apply us);exact Qfb (l.getD i Book.zero) _;refine ai gkA ?_;(repeat ((first|refine ai rfl ?_|refine ai (fun _=>rfl) ?_|refine ai (fun _=>Qfb (l.getD i Book.zero) _) ?_)));refine ai (fun h5=>?_) (fun h6=>?_)
   ·obtain rfl:=foll hR (ct h5 rfl);exact Q00 lx sr
   ·exact Ql0 (i+1) (wk [] .nil (sl lw (s1 (sl lw (s1 (sv (Qd0 (I_eq (wr omA)) lx) .nil)))))) omA ⟨foll hR (cf h6 rfl),by exact omA⟩
  ·rw [Qg0 (l:=l) (j:=i) (geA h4)] at hR;obtain rfl:=foll hR rfl;exact Q00 lx sr
def QE3 :List Int->Int->Nat->Int × Int
 | [],s,_=>(s,0)
 | x_ :: r,s,i=>bif (((decide (x_<0))||(decide (x_ >= 64)))||((wu64 (BitVec.ofInt 64 s &&& BitVec.ofInt 64 (Qq2 x_)).toNat)!=0)) then (0,90) else QE3 r (wu64 (BitVec.ofInt 64 s ||| BitVec.ofInt 64 (Qq2 x_)).toNat) (i+1)
def Qo4 (l:List Int):Int × Int:=QE3 l 0 0
theorem Qva (l:List Int) (hs0:l.length<=4294967296):∀ objs,AGives Tryz.prog 94 [ints l] objs (AVal.tup [U ((Qo4 l).1),I ((Qo4 l).2)]):=by
 generalize hR:Qo4 l=R;refine ga (.cons lw .nil) (Low.tup' (l1 (l1 .nil))) (kp 7 [7,8,9,10,25]) Tryz.func94 ?_;have hk0:=hs0;obtain z5:l.length<=4294967296:=hs0;refine Qj0 (fun (s:Int) (i:Nat)=>QE3 (List.drop i l) s i=R∧i<=l.length) (fun s i=>l.length - i) (fun s i=>[(2,U 0),(3,I 0),(4,U s),(7,ints l),(8,I (l.length:Int)),(9,I (i:Int))]) (fun s i=>[]) 0 0 (wk [] .nil (s1 (s1 (s1 (sl lw (s1 (s1 .nil))))))) ⟨foll hR rfl,by exact omA⟩ ?_;clear hR;rintro s i ⟨hR,hj⟩;(try dsimp only at hR hj);refine ai (fun h1=>?_) (fun h2=>?_)
 ·have hlt:=ltA h1;rw [Qf0 0 hlt] at hR;refine ai gkA ?_;(first|apply u2|apply u3|apply u4|apply us);exact Qu7 (l.getD i 0) _;refine ai (fun h3=>?_) (fun h4=>?_)
  ·obtain rfl:=foll hR (ct h3 rfl);exact Q00 (Low.tup' (l1 (l1 .nil))) (Seen.tup (e1 (e1 .nil)))
  ·refine us (Qu7 (l.getD i 0) _) ?_;exact Qa0 (wu64 (BitVec.ofInt 64 s ||| BitVec.ofInt 64 (Qq2 (l.getD i 0))).toNat) (i+1) (wk [] .nil (s1 (s1 (s1 (sl lw (s1 (sv (Qd0 (I_eq (wr omA)) lx) .nil))))))) omA ⟨foll hR (cf h4 rfl),by exact omA⟩
 ·rw [Qg0 (l:=l) (j:=i) (geA h2)] at hR;obtain rfl:=foll hR rfl;exact Q00 (Low.tup' (l1 (l1 .nil))) (Seen.tup (e1 (e1 .nil)))
def QS3 (p_:List Step):List Step->Nat->Int
 | [],_=>0
 | x_ :: r,i=>bif (((!(Q62 x_.free))||(decide (x_.at_ > 1000000)))||((decide ((i:Int) > 0))&&((decide (x_.at_<=(p_.getD (Int.toNat (w64 ((i:Int) - 1))) Step.zero).at_))||(x_.free==(p_.getD (Int.toNat (w64 ((i:Int) - 1))) Step.zero).free)))) then 100 else QS3 p_ r (i+1)
def QF1 (p_:List Step):Int:=bif ((((p_.length:Int)==0)||(decide ((p_.length:Int) > 1000)))||((p_.getD 0 Step.zero).at_ != 0)) then 100 else QS3 p_ p_ 0
theorem Qo6 (p_:List Step) (hs0:p_.length<=4294967296):∀ objs,AGives Tryz.prog 53 [stepL p_] objs (I (QF1 p_)):=by
 generalize hR:QF1 p_=R;refine ga (.cons lw .nil) lx (kp 5 [19,20,21,22,23,61]) Tryz.func53 ?_;have hk0:=hs0;obtain z7:p_.length<=4294967296:=hs0;refine ai gkA ?_;refine ai (fun h1=>?_) (fun h2=>?_)
 ·obtain rfl:=foll hR (ct h1 rfl);exact Q00 lx sr
 ·refine Qh0 (fun (i:Nat)=>QS3 p_ (List.drop i p_) i=R∧i<=p_.length) (fun i=>p_.length - i) (fun i=>[(0,stepL p_),(2,I 0),(20,stepL p_),(21,I (p_.length:Int)),(22,I (i:Int))]) (fun i=>[]) 0 (wk [] .nil (sl lw (s1 (sl lw (s1 (s1 .nil)))))) ⟨foll hR (cf h2 rfl),by exact omA⟩ ?_;clear hR;rintro i ⟨hR,hj⟩;(try dsimp only at hR hj);refine ai (fun h3=>?_) (fun h4=>?_)
  ·have hlt:=ltA h3;rw [Qf0 Step.zero hlt] at hR;refine ai gkA ?_;refine dchk (by kernel_rfl) ?_;(first|apply u2|apply u3|apply u4|apply us);exact QJ6 ((p_.getD i Step.zero).free) _;refine ai gkA ?_;refine ai gkA ?_;(repeat ((first|refine ai rfl ?_|refine ai (fun _=>rfl) ?_|refine ai (fun _=>QJ6 ((p_.getD i Step.zero).free) _) ?_)));refine ai (fun h5=>?_) (fun h6=>?_)
   ·obtain rfl:=foll hR (ct h5 rfl);exact Q00 lx sr
   ·exact Ql0 (i+1) (wk [] .nil (sl lw (s1 (sl lw (s1 (sv (Qd0 (I_eq (wr omA)) lx) .nil)))))) omA ⟨foll hR (cf h6 rfl),by exact omA⟩
  ·rw [Qg0 (l:=p_) (j:=i) (geA h4)] at hR;obtain rfl:=foll hR rfl;exact Q00 lx sr
theorem Qs5 {p:List Step} (h:(QF1 p != 0)=false):1<=p.length∧p.length<=1000∧(p.getD 0 Step.zero).at_=0:=by
 simp only [QF1] at h
 revert h
 cases h2:((((p.length:Int)==0)||(decide ((p.length:Int) > 1000)))||((p.getD 0 Step.zero).at_ != 0)) with
 | true=>simp
 | false=>intro _;simp at h2;refine ⟨?_,by omega,h2.2⟩;have:=List.length_pos_iff.2 h2.1.1;omega
def Qc0 (p_:List Step) (t:Int):Int:=(w64 ((Qh1 (p_.length:Int) (fun (y:Int)=>(decide ((p_.getD (Int.toNat y) Step.zero).at_ > t)))) - 1))
theorem QV7 (p_:List Step) (t:Int) (hs0:p_.length<=4294967296):∀ objs,AGives Tryz.prog 55 [stepL p_,I t] objs (I (Qc0 p_ t)):=by
 generalize hR:Qc0 p_ t=R;refine ga (.cons lw (l1 .nil)) lx (kp 5 []) Tryz.func55 ?_;have hk0:=hs0;obtain z5:p_.length<=4294967296:=hs0;have cl1:∀ (y1:Int) (hcl:0<=y1∧y1<(p_.length:Int)),AMoves Tryz.prog 93 [I y1,AVal.ptr 0 0 1 0 0,AVal.ptr 1 0 1 0 0] [(0,AObj.row 36 1 [[stepL p_]]),(0,AObj.row 3 1 [[I t]])] 2 (Bo ((fun (y:Int)=>(decide ((p_.getD (Int.toNat y) Step.zero).at_ > t))) y1)) [(0,AObj.row 36 1 [[stepL p_]]),(0,AObj.row 3 1 [[I t]])]:=by
  intro y1 hcl;have hR:(fun (y:Int)=>(decide ((p_.getD (Int.toNat y) Step.zero).at_ > t))) y1=(fun (y:Int)=>(decide ((p_.getD (Int.toNat y) Step.zero).at_ > t))) y1:=rfl;refine mo (kp 5 []) Tryz.func93 ?_;refine dchk (by kernel_rfl) ?_;refine ai gkA ?_;(repeat ((first|refine ai rfl ?_|refine ai (fun _=>rfl) ?_)));refine Qn0 (fun r:Bool=>Bo r) (fun _=>[(0,AObj.row 36 1 [[stepL p_]]),(0,AObj.row 3 1 [[I t]])]) (leaf:=(decide ((p_.getD (Int.toNat y1) Step.zero).at_ > t))) (foll hR rfl) ?_;exact tt [0,1] (tO rfl (ts (lv lw LowL.nil)) (tO rfl (ts (l1 LowL.nil)) .nil)) t1
 have hof1:AMoves Tryz.prog 92 [I (p_.length:Int),AVal.fn (.func 93) [] [AVal.ptr 0 0 1 0 0,AVal.ptr 1 0 1 0 0]] [(0,AObj.row 36 1 [[stepL p_]]),(0,AObj.row 3 1 [[I t]])] 2 (I (Qh1 (p_.length:Int) (fun (y:Int)=>(decide ((p_.getD (Int.toNat y) Step.zero).at_ > t))))) [(0,AObj.row 36 1 [[stepL p_]]),(0,AObj.row 3 1 [[I t]])]:=by
  have hR:Qh1 (p_.length:Int) (fun (y:Int)=>(decide ((p_.getD (Int.toNat y) Step.zero).at_ > t)))=Qh1 (p_.length:Int) (fun (y:Int)=>(decide ((p_.getD (Int.toNat y) Step.zero).at_ > t))):=rfl;refine mo (kp 8 [11,21]) Tryz.func92 ?_;refine Qj0 (fun (i:Int) (j:Int)=>∃ m,(Int.toNat (j - i))<m∧Q54 (QM0 (fun (y:Int)=>(decide ((p_.getD (Int.toNat y) Step.zero).at_ > t))) m i j).1 (QM0 (fun (y:Int)=>(decide ((p_.getD (Int.toNat y) Step.zero).at_ > t))) m i j).2=Qh1 (p_.length:Int) (fun (y:Int)=>(decide ((p_.getD (Int.toNat y) Step.zero).at_ > t)))∧0<=i∧i<=j∧j<=(p_.length:Int)) (fun i j=>(Int.toNat (j - i))) (fun i j=>[(1,AVal.fn (.func 93) [] [AVal.ptr 0 0 1 0 0,AVal.ptr 1 0 1 0 0]),(4,I 0),(5,I i),(6,I j)]) (fun i j=>[(0,AObj.row 36 1 [[stepL p_]]),(0,AObj.row 3 1 [[I t]])]) 0 (p_.length:Int) (wk [0,1] (tO rfl (ts (lv lw LowL.nil)) (tO rfl (ts (l1 LowL.nil)) .nil)) (sv (Q51 .nil (cv (Q10 0 rfl rfl) (cv (Q10 1 rfl rfl) .nil))) (s1 (s1 (s1 .nil))))) ⟨_,Nat.lt_succ_self _,foll hR rfl,by exact exA⟩ ?_;clear hR;rintro i j ⟨m,hm,hR,hx⟩;(try dsimp only at hR hm hx);obtain ⟨m,rfl⟩:=sucA m;refine ai (fun h1=>?_) (fun h2=>?_)
  ·have qh1:=of_decide_eq_true h1;(have hq0:i<j:=qh1;have hh:w64 (Int.fdiv (wu64 (w64 (i+j))) (2 ^ (min (Int.toNat 1) 64)))=(i+j) / 2:=Qzb hx.1 hq0 hx.2.2 (by omega);have hh3:w64 (w64 (Int.fdiv (wu64 (w64 (i+j))) (2 ^ (min (Int.toNat 1) 64)))+1)=(i+j) / 2+1:=by rw [hh];exact wr (by omega));refine ai gkA ?_;refine us (mv [0,1] (cl1 (w64 (Int.fdiv (wu64 (w64 (i+j))) (2 ^ (min (Int.toNat 1) 64)))) ckA) (dO (ds (lv lw LowL.nil)) (dO (ds (l1 LowL.nil)) .nil)) (d1 (dp (dp .nil))) (rO (re (lv lw LowL.nil)) (rO (re (l1 LowL.nil)) .nil)) rx) ?_;refine ai (fun h3=>?_) (fun h4=>?_)
   ·exact Qa0 (w64 ((w64 (Int.fdiv (wu64 (w64 (i+j))) (2 ^ (min (Int.toNat 1) 64))))+1)) j (wk [0,1] (tO rfl (ts (lv lw LowL.nil)) (tO rfl (ts (l1 LowL.nil)) .nil)) (sv (Q51 .nil (cv (Q10 0 rfl rfl) (cv (Q10 1 rfl rfl) .nil))) (s1 (s1 (s1 .nil))))) (by first|(dsimp only;rw [hh3];omega)|first|(dsimp only;rw [hh];omega)|exact omA) ⟨m,by first|(dsimp only;rw [hh3];omega)|first|(dsimp only;rw [hh];omega)|exact omA,foll hR (congrArg (fun p:Int × Int=>Q54 p.1 p.2) (ct h1 (ct h3 rfl))),by exact exA⟩
   ·exact Qa0 i (w64 (Int.fdiv (wu64 (w64 (i+j))) (2 ^ (min (Int.toNat 1) 64)))) (wk [0,1] (tO rfl (ts (lv lw LowL.nil)) (tO rfl (ts (l1 LowL.nil)) .nil)) (sv (Q51 .nil (cv (Q10 0 rfl rfl) (cv (Q10 1 rfl rfl) .nil))) (s1 (s1 (s1 .nil))))) (by first|(dsimp only;rw [hh3];omega)|first|(dsimp only;rw [hh];omega)|exact omA) ⟨m,by first|(dsimp only;rw [hh3];omega)|first|(dsimp only;rw [hh];omega)|exact omA,foll hR (congrArg (fun p:Int × Int=>Q54 p.1 p.2) (ct h1 (cf h4 rfl))),by exact exA⟩
  ·have qh2:=of_decide_eq_false h2;replace hR:Q54 i j=Qh1 (p_.length:Int) (fun (y:Int)=>(decide ((p_.getD (Int.toNat y) Step.zero).at_ > t))):=fo2 (fun p:Int × Int=>Q54 p.1 p.2) (i,j) hR (cf h2 rfl);refine Qn0 (fun r:Int=>I r) (fun r:Int=>[(0,AObj.row 36 1 [[stepL p_]]),(0,AObj.row 3 1 [[I t]])]) (leaf:=i) (foll hR rfl) ?_;exact tt [0,1] (tO rfl (ts (lv lw LowL.nil)) (tO rfl (ts (l1 LowL.nil)) .nil)) t1
 refine us (mv [0,1] (hof1) (dO (ds (lv lw LowL.nil)) (dO (ds (l1 LowL.nil)) .nil)) (d1 (dv (dn_fn .nil (dp (dp .nil))) .nil)) (rO (re (lv lw LowL.nil)) (rO (re (l1 LowL.nil)) .nil)) rx) ?_;obtain rfl:=foll hR rfl;exact Q00 lx sr
theorem QX5 {p:List Step} {t:Int} (h1:1<=p.length) (h2:p.length<=1000) (h3:(p.getD 0 Step.zero).at_=0) (ht:0<=t):0<=Qc0 p t∧Qc0 p t<p.length:=by
 obtain ⟨a,b,c,d⟩:=QF7 (fun (y:Int)=>(decide ((p.getD (Int.toNat y) Step.zero).at_ > t))) (N:=p.length) (by omega)
 have h4:1<=Qh1 (p.length:Int) (fun (y:Int)=>(decide ((p.getD (Int.toNat y) Step.zero).at_ > t))):=by
  rcases Int.lt_or_le 0 (Qh1 (p.length:Int) (fun (y:Int)=>(decide ((p.getD (Int.toNat y) Step.zero).at_ > t)))) with h|h
  ·omega
  ·have e:Qh1 (p.length:Int) (fun (y:Int)=>(decide ((p.getD (Int.toNat y) Step.zero).at_ > t)))=0:=by omega
   have:=d (by omega)
   rw [e] at this
   have:=of_decide_eq_true this
   simp only [Int.toNat_zero] at this
   omega
 have e:Qc0 p t=Qh1 (p.length:Int) (fun (y:Int)=>(decide ((p.getD (Int.toNat y) Step.zero).at_ > t))) - 1:=wr (by omega)
 rw [e]
 omega
def QH5 :List Node->Nat->Int
 | [],_=>0
 | x_ :: r,i=>bif (!(Q45 x_)) then 120 else QH5 r (i+1)
def Qr6 (l:List Node):Int:=bif (((l.length:Int)==0)||(decide ((l.length:Int) > 48))) then 120 else QH5 l 0
theorem ref12_Check_c (l:List Node) (hs0:l.length<=4294967296):∀ objs,AGives Tryz.prog 34 [nodeL l] objs (I (Qr6 l)):=by
 generalize hR:Qr6 l=R;refine ga (.cons lw .nil) lx (kp 4 [11,15,23]) Tryz.func34 ?_;have hk0:=hs0;obtain z7:l.length<=4294967296:=hs0;refine ai (fun h1=>?_) (fun h2=>?_)
 ·obtain rfl:=foll hR (ct h1 rfl);exact Q00 lx sr
 ·refine Qh0 (fun (i:Nat)=>QH5 (List.drop i l) i=R∧i<=l.length) (fun i=>l.length - i) (fun i=>[(0,nodeL l),(2,I 0),(3,I (i:Int))]) (fun i=>[]) 0 (wk [] .nil (sl lw (s1 (s1 .nil)))) ⟨foll hR (cf h2 rfl),by exact omA⟩ ?_;clear hR;rintro i ⟨hR,hj⟩;(try dsimp only at hR hj);refine ai (fun h3=>?_) (fun h4=>?_)
  ·have hlt:=ltA h3;rw [Qf0 Node.zero hlt] at hR;refine ai gkA ?_;refine us (ref12_fine_c (l.getD i Node.zero) _) ?_;refine ai (fun h5=>?_) (fun h6=>?_)
   ·obtain rfl:=foll hR (ct h5 rfl);exact Q00 lx sr
   ·exact Ql0 (i+1) (wk [] .nil (sl lw (s1 (sv (Qd0 (I_eq (wr omA)) lx) .nil)))) omA ⟨foll hR (cf h6 rfl),by exact omA⟩
  ·rw [Qg0 (l:=l) (j:=i) (geA h4)] at hR;obtain rfl:=foll hR rfl;exact Q00 lx sr
def Qaa (a:Shape) (b:Shape):Bool:=(((((a.kind==b.kind)&&(a.min==b.min))&&(a.max==b.max))&&(a.wall==b.wall))&&(QM6 a.alts b.alts))
theorem ref07_Same_c (a:Shape) (b:Shape) (hs0:a.sz) (hs1:b.sz):∀ objs,AGives Tryz.prog 162 [Shape.a a,Shape.a b] objs (Bo (Qaa a b)):=by
 generalize hR:Qaa a b=R;refine ga (.cons (Shape.low _ _) (.cons (Shape.low _ _) .nil)) lx (kp 5 []) Tryz.func162 ?_;have hk0:=hs0;obtain z1:a.alts.length<=4294967296:=hs0;have hk1:=hs1;obtain z2:b.alts.length<=4294967296:=hs1;(first|apply u2|apply u3|apply u4|apply us);exact QXa a.alts b.alts szA szA _;obtain rfl:=foll hR rfl;exact Q00 lx sr
def Qz4 :List (Nat × Int)->Nat->Int × Int
 | [],n=>((n:Int),0)
 | x_ :: r,n=>bif ((Q80 x_.2)==0) then ((n:Int),40) else Qz4 r (n+1)
def QS2 (s:ByteArray):Int × Int:=Qz4 (QI5 s) 0
theorem Qv7 (s:ByteArray) (hs0:s.size<=4294967296):∀ objs,AGives Tryz.prog 163 [Sg s] objs (AVal.tup [I ((QS2 s).1),I ((QS2 s).2)]):=by
 generalize hR:QS2 s=R;refine ga (l1 .nil) (Low.tup' (l1 (l1 .nil))) (kp 7 [8,9,10,14]) Tryz.func163 ?_;have hk0:=hs0;obtain z5:s.size<=4294967296:=hs0;refine Qj0 (fun (n:Nat) (pos:Nat)=>∃ m,ByteArray.size s - pos<=m∧Qz4 (Qp3 s m pos) n=R∧n<=pos) (fun n pos=>ByteArray.size s - pos) (fun n pos=>[(2,I 0),(3,I 0),(4,I (n:Int)),(8,AVal.ptr 0 0 1 0 0)]) (fun n pos=>[(0,AObj.other (.strIter s pos))]) 0 0 (wk [0] (tO rfl (.strIter _ _) .nil) (s1 (s1 (s1 (sv (Q10 0 rfl rfl) .nil))))) ⟨ByteArray.size s,by exact omA,foll hR rfl,by exact exA⟩ ?_;clear hR;rintro n pos ⟨m,hm,hR,hx⟩;(try dsimp only at hR hm hx);refine ai (fun h1=>?_) (fun h2=>?_)
 ·have hlt:=of_decide_eq_true h1;have hw:=Q56 s pos;have hwe:=Q46 s pos hlt;obtain ⟨m,rfl⟩:=sucA m;rw [QA2 h1] at hR;refine ai (fun _=>?_) (fun h=>nomatch h);refine us (QG3 ((pos,((Utf8.decode s pos).1:Int)).2) _) ?_;refine ai (fun h3=>?_) (fun h4=>?_)
  ·obtain rfl:=foll hR (ct h3 rfl);exact Q00 (Low.tup' (l1 (l1 .nil))) (Seen.tup (e1 (e1 .nil)))
  ·exact Qa0 (n+1) (pos+(Utf8.decode s pos).2) (wk [0] (tO rfl (.strIter _ _) .nil) (s1 (s1 (sv (Qd0 (I_eq (wr omA)) lx) (sv (Q10 0 rfl rfl) .nil))))) omA ⟨m,by exact omA,foll hR (cf h4 rfl),by exact exA⟩
 ·rw [Qg4 h2] at hR;refine ai (fun h=>nomatch h) (fun _=>?_);obtain rfl:=foll hR rfl;exact Q00 (Low.tup' (l1 (l1 .nil))) (Seen.tup (e1 (e1 .nil)))
def Qj2 (l:List Int) (at_:Int):Nat->Int->Int
 | 0,_=>0
 | m+1,i=>bif (decide (i<(l.length:Int))) then bif ((((((Q80 (l.getD (Int.toNat at_) 0))==2)&&((Q80 (l.getD (Int.toNat i) 0))!=2))&&((Q80 (l.getD (Int.toNat i) 0))!=3))&&((l.getD (Int.toNat i) 0)!=45))&&((l.getD (Int.toNat i) 0)!=95)) then i else bif (((Q80 (l.getD (Int.toNat at_) 0))==3)&&(!(Qw7 (l.getD (Int.toNat i) 0)))) then i else Qj2 l at_ m (w64 (i+1)) else i
def Q61 (l:List Int) (at_:Int):Int:=Qj2 l at_ ((Int.toNat ((l.length:Int) - (w64 (at_+1))))+1) (w64 (at_+1))
theorem QVb (l:List Int) (at_:Int) (hs0:l.length<=4294967296) (hp0:0<=at_∧at_<(l.length:Int)):∀ objs,AGives Tryz.prog 189 [runes l,I at_] objs (I (Q61 l at_)):=by
 generalize hR:Q61 l at_=R;refine ga (.cons lw (l1 .nil)) lx (kp 8 [18,47,58]) Tryz.func189 ?_;have hk0:=hs0;obtain z7:l.length<=4294967296:=hs0;have hw0:w64 (at_+1)=at_+1:=wr (by omega);refine ai gkA ?_;refine us (QG3 (l.getD (Int.toNat at_) 0) _) ?_;refine Qh0 (fun (i:Int)=>∃ m,(Int.toNat ((l.length:Int) - i))<m∧Qj2 l at_ m i=R∧0<=i∧i<=(l.length:Int)) (fun i=>(Int.toNat ((l.length:Int) - i))) (fun i=>[(0,runes l),(4,I 0),(5,I (Q80 (l.getD (Int.toNat at_) 0))),(6,I i)]) (fun i=>[]) (w64 (at_+1)) (wk [] .nil (sl lw (s1 (s1 (s1 .nil))))) ⟨_,Nat.lt_succ_self _,foll hR rfl,by exact exA⟩ ?_;clear hR;rintro i ⟨m,hm,hR,hx⟩;(try dsimp only at hR hm hx);obtain ⟨m,rfl⟩:=sucA m;refine ai (fun h1=>?_) (fun h2=>?_)
 ·have qh1:=of_decide_eq_true h1;have hw1:w64 (i+1)=i+1:=wr (by omega);refine ai gkA ?_;refine us (QG3 (l.getD (Int.toNat i) 0) _) ?_;refine ai gkA ?_;refine ai gkA ?_;refine ai (fun h3=>?_) (fun h4=>?_)
  ·obtain rfl:=foll hR (ct h1 (ct h3 rfl));exact Q00 lx sr
  ·refine ai gkA ?_;(first|apply u2|apply u3|apply u4|apply us);exact ref05_small_c (l.getD (Int.toNat i) 0) _;refine ai (fun h5=>?_) (fun h6=>?_)
   ·obtain rfl:=foll hR (ct h1 (cf h4 (ct h5 rfl)));exact Q00 lx sr
   ·exact Ql0 (w64 (i+1)) (wk [] .nil (sl lw (s1 (s1 (s1 .nil))))) omA ⟨m,by exact omA,foll hR (ct h1 (cf h4 (cf h6 rfl))),by exact exA⟩
 ·have qh2:=of_decide_eq_false h2;obtain rfl:=foll hR (cf h2 rfl);exact Q00 lx sr
theorem QWb (l:List Int) (at_:Int) (h:l.length<=400):∀ (m:Nat) (i:Int),0<=i->i<=l.length->0<=Qj2 l at_ m i∧Qj2 l at_ m i<=l.length∧(Int.toNat ((l.length:Int) - i)<m->i<=Qj2 l at_ m i):=by
 intro m
 induction m with
 | zero=>intro i h0 h1;refine ⟨by simp [Qj2],by simp [Qj2],fun h=>absurd h (by omega)⟩
 | succ m ih =>
  intro i h0 h1
  rw [Qj2]
  cases hd:decide (i<(l.length:Int)) with
  | false=>exact ⟨h0,h1,fun _=>by simp⟩
  | true =>
   have hi:=of_decide_eq_true hd
   have hw:w64 (i+1)=i+1:=wr (by omega)
   simp only [cond_true]
   cases ((((((Q80 (l.getD (Int.toNat at_) 0))==2)&&((Q80 (l.getD (Int.toNat i) 0))!=2))&&((Q80 (l.getD (Int.toNat i) 0))!=3))&&((l.getD (Int.toNat i) 0)!=45))&&((l.getD (Int.toNat i) 0)!=95)) with
   | true=>exact ⟨h0,h1,fun _=>by simp⟩
   | false =>
    simp only [cond_false]
    cases (((Q80 (l.getD (Int.toNat at_) 0))==3)&&(!(Qw7 (l.getD (Int.toNat i) 0)))) with
    | true=>exact ⟨h0,h1,fun _=>by simp⟩
    | false =>
     simp only [cond_false]
     rw [hw]
     obtain ⟨a,b,c⟩:=ih (i+1) (by omega) (by omega)
     exact ⟨a,b,fun hm=>by have:=c (by omega);omega⟩
theorem Qza (l:List Int) (at_:Int) (h0:0<=at_) (h1:at_<l.length) (h:l.length<=400):at_<Q61 l at_∧Q61 l at_<=l.length:=by
 have hw:w64 (at_+1)=at_+1:=wr (by omega)
 unfold Q61
 rw [hw]
 obtain ⟨a,b,c⟩:=QWb l at_ h ((Int.toNat ((l.length:Int) - (at_+1)))+1) (at_+1) (by omega) (by omega)
 have:=c (by omega)
 omega
def Ql3 (l:List Dep) (i:Nat) (x_:Dep):Nat->Nat->Sum (Bool) (Nat)
 | 0,_=>Sum.inr 0
 | m+1,k=>bif (decide ((k:Int)<(i:Int))) then bif ((l.getD k Dep.zero).job==x_.job) then Sum.inl false else Ql3 l i x_ m (k+1) else Sum.inr k
def QB1 (l:List Dep):List Dep->Nat->Bool
 | [],_=>true
 | x_ :: r,i=>bif ((!(QS0 x_.how 1 3))||(!(QS0 x_.job 1 99999))) then false else (Sum.elim id (fun p1:Nat=>QB1 l r (i+1))) (Ql3 l i x_ ((Int.toNat ((i:Int) - (0:Int)))+1) 0)
def QM4 (l:List Dep):Bool:=bif (decide ((l.length:Int) > 4)) then false else QB1 l l 0
theorem ref08_waits_c (l:List Dep) (hs0:l.length<=4294967296):∀ objs,AGives Tryz.prog 133 [depL l] objs (Bo (QM4 l)):=by
 generalize hR:QM4 l=R;refine ga (.cons lw .nil) lx (kp 5 [7,11,29,32,45]) Tryz.func133 ?_;have hk0:=hs0;obtain z11:l.length<=4294967296:=hs0;refine ai (fun h1=>?_) (fun h2=>?_)
 ·have qh1:=of_decide_eq_true h1;obtain rfl:=foll hR (ct h1 rfl);exact Q00 lx sr
 ·have qh2:=of_decide_eq_false h2;refine Qh0 (fun (i:Nat)=>QB1 l (List.drop i l) i=R∧i<=l.length) (fun i=>l.length - i) (fun i=>[(0,depL l),(2,Bo false),(3,I (i:Int))]) (fun i=>[]) 0 (wk [] .nil (sl lw (s1 (s1 .nil)))) ⟨foll hR (cf h2 rfl),by exact omA⟩ ?_;clear hR;rintro i ⟨hR,hj⟩;(try dsimp only at hR hj);refine ai (fun h3=>?_) (fun h4=>?_)
  ·have hlt:=ltA h3;rw [Qf0 Dep.zero hlt] at hR;refine ai gkA ?_;refine us (Q53 ((l.getD i Dep.zero).how) 1 3 _) ?_;refine ai gkA ?_;(first|apply u2|apply u3|apply u4|apply us);exact Q53 ((l.getD i Dep.zero).job) 1 99999 _;refine ai (fun h5=>?_) (fun h6=>?_)
   ·obtain rfl:=foll hR (ct h5 rfl);exact Q00 lx sr
   ·refine Qh0 (fun (k:Nat)=>∃ m,(Int.toNat ((i:Int) - (k:Int)))<m∧(Sum.elim id (fun p1:Nat=>QB1 l (List.drop (i+1) l) (i+1))) (Ql3 l i (l.getD i Dep.zero) m k)=R∧(k:Int)<=(i:Int)) (fun k=>(Int.toNat ((i:Int) - (k:Int)))) (fun k=>[(0,depL l),(2,Bo false),(3,I (i:Int)),(4,I (k:Int)),(11,Bo (decide ((i:Int)<(l.length:Int)))),(29,Bo ((!(QS0 (l.getD i Dep.zero).how 1 3))||(!(QS0 (l.getD i Dep.zero).job 1 99999))))]) (fun k=>[]) 0 (wk [] .nil (sl lw (s1 (s1 (s1 (s1 (s1 .nil))))))) ⟨_,Nat.lt_succ_self _,foll hR (cf h6 rfl),by exact exA⟩ ?_;clear hR;rintro k ⟨m,hm,hR,hx⟩;(try dsimp only at hR hm hx);obtain ⟨m,rfl⟩:=sucA m;refine ai (fun h7=>?_) (fun h8=>?_)
    ·have qh7:=of_decide_eq_true h7;refine dchk (by kernel_rfl) ?_;refine ai gkA ?_;refine ai gkA ?_;(repeat ((first|refine ai rfl ?_|refine ai (fun _=>rfl) ?_)));refine ai (fun h9=>?_) (fun h10=>?_)
     ·obtain rfl:=foll hR (congrArg (Sum.elim id (fun p1:Nat=>QB1 l (List.drop (i+1) l) (i+1))) (ct h7 (ct h9 rfl)));exact Q00 lx sr
     ·exact Ql0 (k+1) (wk [] .nil (sl lw (s1 (s1 (sv (Qd0 (I_eq (wr omA)) lx) (s1 (s1 .nil))))))) omA ⟨m,by exact omA,foll hR (congrArg (Sum.elim id (fun p1:Nat=>QB1 l (List.drop (i+1) l) (i+1))) (ct h7 (cf h10 rfl))),by exact exA⟩
    ·have qh8:=of_decide_eq_false h8;replace hR:(Sum.elim id (fun p1:Nat=>QB1 l (List.drop (i+1) l) (i+1))) (Sum.inr k)=R:=foll hR (congrArg (Sum.elim id (fun p1:Nat=>QB1 l (List.drop (i+1) l) (i+1))) (cf h8 rfl));exact Ql0 (i+1) (wk [] .nil (sl lw (s1 (sv (Qd0 (I_eq (wr omA)) lx) .nil)))) omA ⟨foll hR rfl,by exact omA⟩
  ·rw [Qg0 (l:=l) (j:=i) (geA h4)] at hR;obtain rfl:=foll hR rfl;exact Q00 lx sr
def QA1 (x_:Alt):List Alt->Nat->Sum (Int) (Nat)
 | [],k=>Sum.inr k
 | x_1 :: r,k=>bif (x_.nodes==x_1.nodes) then Sum.inl 70 else QA1 x_ r (k+1)
def Qv0 (s:Shape):List Alt->Nat->Int
 | [],_=>0
 | x_ :: r,i=>bif ((!(QW0 x_.nodes))||(!(Qs1 x_.wall))) then 70 else (Sum.elim id (fun p1:Nat=>Qv0 s r (i+1))) (QA1 x_ (List.drop (i+1) s.alts) (i+1))
def QH2 (s:Shape) (most:Int):Int:=bif (((((decide ((s.alts.length:Int)<1))||(decide ((s.alts.length:Int) > most)))||(s.min != 0))||(s.max != 0))||(s.wall != 0)) then 70 else Qv0 s s.alts 0
def QQ0 (s:Shape):Int:=bif (s.kind==3) then bif (((((decide ((s.alts.length:Int) > 0))||(!(QW0 s.min)))||(!(QW0 s.max)))||(decide (s.max<s.min)))||(!(Qs1 s.wall))) then 70 else 0 else bif (s.kind==2) then QH2 s 6 else bif (s.kind != 1) then 70 else QH2 s 1
theorem Qx9 (s:Shape) (hs0:s.sz):∀ objs,AGives Tryz.prog 134 [Shape.a s] objs (I (QQ0 s)):=by
 generalize hR:QQ0 s=R;refine ga (.cons (Shape.low _ _) .nil) lx (kj [1000010] 6 [8,37,40,43,69,74,94,101,116]) Tryz.func134 ?_;have hk0:=hs0;obtain z19:s.alts.length<=4294967296:=hs0;refine ai (fun h1=>?_) (fun h2=>?_)
 ·(first|apply u2|apply u3|apply u4|apply us);exact QY7 s.min _;(first|apply u2|apply u3|apply u4|apply us);exact QY7 s.max _;(first|apply u2|apply u3|apply u4|apply us);exact QAa s.wall _;refine ai (fun h3=>?_) (fun h4=>?_)
  ·obtain rfl:=foll hR (ct h1 (ct h3 rfl));exact Q00 lx sr
  ·obtain rfl:=foll hR (ct h1 (cf h4 rfl));exact Q00 lx sr
 ·refine Qn1 (fun (most:Int)=>QH2 s most=R) (fun most=>[(1,AVal.ptr 0 0 5 0 0),(2,I 0),(3,I most)]) (fun most=>[(0,AObj.row 42 5 [[I s.kind,altL s.alts,I s.min,I s.max,I s.wall]])]) ?_ ?_
  ·clear hR;rintro most hR;(try dsimp only at hR);refine ai (fun h5=>?_) (fun h6=>?_)
   ·obtain rfl:=foll hR (ct h5 rfl);exact Q00 lx sr
   ·refine Qh0 (fun (i:Nat)=>Qv0 s (List.drop i s.alts) i=R∧i<=s.alts.length) (fun i=>s.alts.length - i) (fun i=>[(1,AVal.ptr 0 0 5 0 0),(2,I 0),(4,I (i:Int))]) (fun i=>[(0,AObj.row 42 5 [[I s.kind,altL s.alts,I s.min,I s.max,I s.wall]])]) 0 (wk [0] (tO rfl (ts Shape.lo) .nil) (sv (Q10 0 rfl rfl) (s1 (s1 .nil)))) ⟨foll hR (cf h6 rfl),by exact omA⟩ ?_;clear hR;rintro i ⟨hR,hj⟩;(try dsimp only at hR hj);refine ai (fun h7=>?_) (fun h8=>?_)
    ·have hlt:=ltA h7;rw [Qf0 Alt.zero hlt] at hR;refine ai gkA ?_;refine us (QY7 ((s.alts.getD i Alt.zero).nodes) _) ?_;refine ai gkA ?_;(first|apply u2|apply u3|apply u4|apply us);exact QAa ((s.alts.getD i Alt.zero).wall) _;refine ai (fun h9=>?_) (fun h10=>?_)
     ·obtain rfl:=foll hR (ct h9 rfl);exact Q00 lx sr
     ·refine Qh0 (fun (k:Nat)=>(Sum.elim id (fun p1:Nat=>Qv0 s (List.drop (i+1) s.alts) (i+1))) (QA1 (s.alts.getD i Alt.zero) (List.drop k s.alts) k)=R∧k<=s.alts.length) (fun k=>s.alts.length - k) (fun k=>[(1,AVal.ptr 0 0 5 0 0),(2,I 0),(4,I (i:Int)),(5,I (k:Int)),(74,Bo (decide ((i:Int)<(s.alts.length:Int)))),(94,Bo ((!(QW0 (s.alts.getD i Alt.zero).nodes))||(!(Qs1 (s.alts.getD i Alt.zero).wall))))]) (fun k=>[(0,AObj.row 42 5 [[I s.kind,altL s.alts,I s.min,I s.max,I s.wall]])]) (i+1) (wk [0] (tO rfl (ts Shape.lo) .nil) (sv (Q10 0 rfl rfl) (s1 (s1 (sv (Qd0 (I_eq (wr omA)) lx) (s1 (s1 .nil))))))) ⟨foll hR (cf h10 rfl),by exact omA⟩ ?_;clear hR;rintro k ⟨hR,hj⟩;(try dsimp only at hR hj);refine ai (fun h11=>?_) (fun h12=>?_)
      ·have hlt:=ltA h11;rw [Qf0 Alt.zero hlt] at hR;refine dchk (by kernel_rfl) ?_;refine ai gkA ?_;refine ai gkA ?_;(repeat ((first|refine ai rfl ?_|refine ai (fun _=>rfl) ?_)));refine ai (fun h13=>?_) (fun h14=>?_)
       ·obtain rfl:=foll hR (congrArg (Sum.elim id (fun p1:Nat=>Qv0 s (List.drop (i+1) s.alts) (i+1))) (ct h13 rfl));exact Q00 lx sr
       ·exact Ql0 (k+1) (wk [0] (tO rfl (ts Shape.lo) .nil) (sv (Q10 0 rfl rfl) (s1 (s1 (sv (Qd0 (I_eq (wr omA)) lx) (s1 (s1 .nil))))))) omA ⟨foll hR (congrArg (Sum.elim id (fun p1:Nat=>Qv0 s (List.drop (i+1) s.alts) (i+1))) (cf h14 rfl)),by exact omA⟩
      ·rw [Qg0 (l:=s.alts) (j:=k) (geA h12)] at hR;replace hR:(Sum.elim id (fun p1:Nat=>Qv0 s (List.drop (i+1) s.alts) (i+1))) (Sum.inr k)=R:=foll hR (congrArg (Sum.elim id (fun p1:Nat=>Qv0 s (List.drop (i+1) s.alts) (i+1))) rfl);exact Ql0 (i+1) (wk [0] (tO rfl (ts Shape.lo) .nil) (sv (Q10 0 rfl rfl) (s1 (sv (Qd0 (I_eq (wr omA)) lx) .nil)))) omA ⟨foll hR rfl,by exact omA⟩
    ·rw [Qg0 (l:=s.alts) (j:=i) (geA h8)] at hR;obtain rfl:=foll hR rfl;exact Q00 lx sr
  ·refine ai (fun h15=>?_) (fun h16=>?_)
   ·exact Q70 6 (wk [0] (tO rfl (ts Shape.lo) .nil) (sv (Q10 0 rfl rfl) (s1 (s1 .nil)))) (foll hR (cf h2 (ct h15 rfl)))
   ·refine ai (fun h17=>?_) (fun h18=>?_)
    ·obtain rfl:=foll hR (cf h2 (cf h16 (ct h17 rfl)));exact Q00 lx sr
    ·exact Q70 1 (wk [0] (tO rfl (ts Shape.lo) .nil) (sv (Q10 0 rfl rfl) (s1 (s1 .nil)))) (foll hR (cf h2 (cf h16 (cf h18 rfl))))
theorem Qb5 {s:Shape} (h:(QQ0 s != 0)=false) (hk:(s.kind != 3)=false):1<=s.min∧s.min<=s.max∧s.max<=48∧w64 (s.max - s.min)=s.max - s.min:=by
 have hk':s.kind=3:=by simpa using hk
 have h1:QW0 s.min=true∧QW0 s.max=true ∧ ¬ s.max<s.min:=by
  simp only [QQ0,hk',beq_self_eq_true,cond_true] at h
  revert h
  cases h2:(((((decide ((s.alts.length:Int) > 0))||(!(QW0 s.min)))||(!(QW0 s.max)))||(decide (s.max<s.min)))||(!(Qs1 s.wall))) with
  | true=>simp
  | false=>intro _;simp at h2;exact ⟨h2.1.1.1.2,h2.1.1.2,by omega⟩
 obtain ⟨a,b,c⟩:=h1
 simp [QW0] at a b
 exact ⟨by omega,by omega,by omega,wr (by omega)⟩
def Qt3 (l:List Job) (id_:Int):Job:=bif (decide ((Qg5 l id_)<0)) then Job.zero else (l.getD (Int.toNat (Qg5 l id_)) Job.zero)
theorem ref15_Get_c (l:List Job) (id_:Int) (hs0:l.length<=4294967296∧(∀ y ∈ l,y.sz)):∀ objs,AGives Tryz.prog 67 [jobL l,I id_] objs (Job.a (Qt3 l id_)):=by
 generalize hR:Qt3 l id_=R;refine ga (.cons lw (l1 .nil)) (Job.low _ _) (kp 6 [10]) Tryz.func67 ?_;have hk0:=hs0;obtain ⟨z3,z4⟩:l.length<=4294967296∧(∀ y ∈ l,y.sz):=hs0;refine us (ref15_At_c l id_ szA _) ?_;refine ai (fun h1=>?_) (fun h2=>?_)
 ·have qh1:=of_decide_eq_true h1;obtain rfl:=foll hR (ct h1 rfl);exact Q00 (Job.low _ _) (Seen.agg (e1 (e1 (e1 (e1 (e1 (ev (QT0) (e1 (e1 (e1 (e1 (ev (QT0) (e1 (e1 (e1 (e1 (e1 (e1 (e1 (e1 (e1 .nil)))))))))))))))))))))
 ·have qh2:=of_decide_eq_false h2;refine And.intro (by first|exact fun hg=>decide_eq_true (by first|((have hq:=ref15_At_lt l id_;omega))|exact ckA)|exact gkA) ?_;obtain rfl:=foll hR (cf h2 rfl);exact Q00 (Job.low _ _) sr
def Q21 :List Step->List Int->Nat->(List Int) × Nat
 | [],out,i=>(out,i)
 | x_ :: r,out,i=>Q21 r (QU2 out x_.at_) (i+1)
def Qf1 :List Int->List Int->Nat->(List Int) × Nat
 | [],out1,i1=>(out1,i1)
 | x_1 :: r,out1,i1=>Qf1 r (QU2 out1 x_1) (i1+1)
def Q04 (out1:List Int) (i1:Nat):(List Int):=out1
def QZ3 (more:List Int) (out:List Int) (i:Nat):(List Int):=Q04 ((Qf1 more out 0).1) ((Qf1 more out 0).2)
def QJ0 (p_:List Step) (more:List Int):(List Int):=QZ3 more ((Q21 p_ [] 0).1) ((Q21 p_ [] 0).2)
theorem ref10_Ticks_c (p_:List Step) (more:List Int) (hs0:p_.length<=4294967296) (hs1:more.length<=4294967296) (hp0:p_.length<=1000∧more.length<=2):∀ objs,AGives Tryz.prog 149 [stepL p_,ints more] objs (ints (QJ0 p_ more)):=by
 generalize hR:QJ0 p_ more=R;refine ga (.cons lw (.cons lw .nil)) lw (kp 8 [11,24]) Tryz.func149 ?_;have hk0:=hs0;obtain z5:p_.length<=4294967296:=hs0;have hk1:=hs1;obtain z6:more.length<=4294967296:=hs1;refine Qj0 (fun (out:List Int) (i:Nat)=>QZ3 more (Q21 (List.drop i p_) out i).1 (Q21 (List.drop i p_) out i).2=R∧i<=p_.length∧out.length<=i) (fun out i=>p_.length - i) (fun out i=>[(0,stepL p_),(1,ints more),(4,AVal.lit (.slice none 0 0)),(5,ints out),(6,I (i:Int))]) (fun out i=>[]) [] 0 (wk [] .nil (sl lw (sl lw (s1 (sv (turn_nil) (s1 .nil)))))) ⟨foll hR rfl,by exact omA,by first|((try dsimp only);refine Nat.le_trans (Q93 _ _) ?_;omega)|exact exA⟩ ?_;clear hR;rintro out i ⟨hR,hj,hx⟩;(try dsimp only at hR hj hx);refine ai (fun h1=>?_) (fun h2=>?_)
 ·have hlt:=ltA h1;rw [Qf0 Step.zero hlt] at hR;refine ai gkA ?_;refine us (QYb out ((p_.getD i Step.zero).at_) (by first|((try dsimp only);refine Nat.le_trans (Q93 _ _) ?_;omega)|exact szA) _) ?_;exact Qa0 (QU2 out (p_.getD i Step.zero).at_) (i+1) (wk [] .nil (sl lw (sl lw (s1 (sl lw (sv (Qd0 (I_eq (wr omA)) lx) .nil)))))) omA ⟨foll hR (congrArg (fun p:(List Int) × Nat=>QZ3 more p.1 p.2) rfl),by exact omA,by first|((try dsimp only);refine Nat.le_trans (Q93 _ _) ?_;omega)|exact exA⟩
 ·rw [Qg0 (l:=p_) (j:=i) (geA h2)] at hR;replace hR:QZ3 more out i=R:=fo2 (fun p:(List Int) × Nat=>QZ3 more p.1 p.2) (out,i) hR rfl;refine Qj0 (fun (out1:List Int) (i1:Nat)=>Q04 (Qf1 (List.drop i1 more) out1 i1).1 (Qf1 (List.drop i1 more) out1 i1).2=R∧i1<=more.length∧out1.length<=p_.length+i1) (fun out1 i1=>more.length - i1) (fun out1 i1=>[(1,ints more),(4,AVal.lit (.slice none 0 0)),(5,ints out1),(7,I (i1:Int))]) (fun out1 i1=>[]) out 0 (wk [] .nil (sl lw (s1 (sl lw (s1 .nil))))) ⟨foll hR rfl,by exact omA,by first|((try dsimp only);refine Nat.le_trans (Q93 _ _) ?_;omega)|exact exA⟩ ?_;clear hR;rintro out1 i1 ⟨hR,hj,hx⟩;(try dsimp only at hR hj hx);refine ai (fun h3=>?_) (fun h4=>?_)
  ·have hlt:=ltA h3;rw [Qf0 0 hlt] at hR;refine ai gkA ?_;refine us (QYb out1 (more.getD i1 0) (by first|((try dsimp only);refine Nat.le_trans (Q93 _ _) ?_;omega)|exact szA) _) ?_;exact Qa0 (QU2 out1 (more.getD i1 0)) (i1+1) (wk [] .nil (sl lw (s1 (sl lw (sv (Qd0 (I_eq (wr omA)) lx) .nil))))) omA ⟨foll hR (congrArg (fun p:(List Int) × Nat=>Q04 p.1 p.2) rfl),by exact omA,by first|((try dsimp only);refine Nat.le_trans (Q93 _ _) ?_;omega)|exact exA⟩
  ·rw [Qg0 (l:=more) (j:=i1) (geA h4)] at hR;replace hR:Q04 out1 i1=R:=fo2 (fun p:(List Int) × Nat=>Q04 p.1 p.2) (out1,i1) hR rfl;obtain rfl:=foll hR rfl;exact Q00 lw sr
theorem QC6:∀ (p:List Step) (out:List Int) (i:Nat),(Q21 p out i).1.length<=out.length+p.length
 | [],out,i=>by simp [Q21]
 | x :: r,out,i=>by
  rw [Q21]
  have h1:=QC6 r (QU2 out x.at_) (i+1)
  have h2:=Q93 out x.at_
  simp only [List.length_cons]
  omega
theorem QD6:∀ (p out:List Int) (i:Nat),(Qf1 p out i).1.length<=out.length+p.length
 | [],out,i=>by simp [Qf1]
 | x :: r,out,i=>by
  rw [Qf1]
  have h1:=QD6 r (QU2 out x) (i+1)
  have h2:=Q93 out x
  simp only [List.length_cons]
  omega
theorem QT2 (p:List Step) (more:List Int):(QJ0 p more).length<=p.length+more.length:=by
 have h1:=QC6 p [] 0
 have h2:=QD6 more (Q21 p [] 0).1 0
 unfold QJ0 QZ3 Q04
 simp only [List.length_nil] at h1
 omega
end Go.Proofs.YtiiaifgeekdpaaaGreatDoor
namespace Go.Proofs.YtiiaifgeekdpaaaGreatDoor
set_option linter.unusedSimpArgs false
set_option linter.unusedVariables false
open Go.Fw
set_option maxRecDepth 20000
set_option maxHeartbeats 4000000
attribute [local irreducible] ACalls AMoves
def Qk0 (l:List Job) (id_:Int):Int × Bool:=((Qy0 l id_ (fun (y:Job) (y1:Int)=>(w64 (y.id - y1)))).1,(Qy0 l id_ (fun (y:Job) (y1:Int)=>(w64 (y.id - y1)))).2)
theorem table_place_c (l:List Job) (id_:Int) (hs0:l.length<=4294967296∧(∀ y ∈ l,y.sz)):∀ objs,AGives Tryz.prog 60 [jobL l,I id_] objs (AVal.tup [I ((Qk0 l id_).1),Bo ((Qk0 l id_).2)]):=by
 generalize hR:Qk0 l id_=R;refine ga (.cons lw (l1 .nil)) (Low.tup' (l1 (l1 .nil))) (kp 6 []) Tryz.func60 ?_;have hk0:=hs0;obtain ⟨z10,z11⟩:l.length<=4294967296∧(∀ y ∈ l,y.sz):=hs0;have cl1:∀ (y1:Job) (y2:Int) (hzy1:y1.sz),AMoves Tryz.prog 96 [Job.a y1,I y2] [] 0 (I ((fun (y:Job) (y1:Int)=>(w64 (y.id - y1))) y1 y2)) []:=by
  intro y1 y2 hzy1;have hky1:=hzy1;obtain ⟨z1,z2,z3,z4,z5⟩:y1.name.size<=4294967296∧y1.user.size<=4294967296∧y1.account.size<=4294967296∧(y1.shape.alts.length<=4294967296)∧y1.after.length<=4294967296:=hzy1;have hR:(fun (y:Job) (y1:Int)=>(w64 (y.id - y1))) y1 y2=(fun (y:Job) (y1:Int)=>(w64 (y.id - y1))) y1 y2:=rfl;refine mo (kp 5 []) Tryz.func96 ?_;refine Qn0 (fun r:Int=>I r) (fun _=>[]) (leaf:=(w64 (y1.id - y2))) (foll hR rfl) ?_;exact tt [] .nil t1
 have hof1:AMoves Tryz.prog 95 [jobL l,I id_,AVal.fn (.func 96) [] []] [] 0 (AVal.tup [I ((Qy0 l id_ (fun (y:Job) (y1:Int)=>(w64 (y.id - y1)))).1),Bo ((Qy0 l id_ (fun (y:Job) (y1:Int)=>(w64 (y.id - y1)))).2)]) []:=by
  have hR:Qy0 l id_ (fun (y:Job) (y1:Int)=>(w64 (y.id - y1)))=Qy0 l id_ (fun (y:Job) (y1:Int)=>(w64 (y.id - y1))):=rfl;refine mo (kp 12 [17,31]) Tryz.func95 ?_;refine Qj0 (fun (i:Int) (j:Int)=>∃ m,(Int.toNat (j - i))<m∧QG0 l id_ (fun (y:Job) (y1:Int)=>(w64 (y.id - y1))) (Qe0 l id_ (fun (y:Job) (y1:Int)=>(w64 (y.id - y1))) m i j).1 (Qe0 l id_ (fun (y:Job) (y1:Int)=>(w64 (y.id - y1))) m i j).2=Qy0 l id_ (fun (y:Job) (y1:Int)=>(w64 (y.id - y1)))∧0<=i∧i<=j∧j<=(l.length:Int)) (fun i j=>(Int.toNat (j - i))) (fun i j=>[(0,jobL l),(1,I id_),(2,AVal.fn (.func 96) [] []),(6,I 0),(7,Bo false),(8,I (l.length:Int)),(9,I i),(10,I j)]) (fun i j=>[]) 0 (l.length:Int) (wk [] .nil (sl lw (s1 (sv (QH0 (Low.fn _ _ _ LowL.nil LowL.nil)) (s1 (s1 (s1 (s1 (s1 .nil))))))))) ⟨_,Nat.lt_succ_self _,foll hR rfl,by first|(dsimp only;rw [hh3];omega)|first|(dsimp only;rw [hh];omega)|exact exA⟩ ?_;clear hR;rintro i j ⟨m,hm,hR,hx⟩;(try dsimp only at hR hm hx);obtain ⟨m,rfl⟩:=sucA m;refine ai (fun h6=>?_) (fun h7=>?_)
  ·have qh6:=of_decide_eq_true h6;(have hq0:i<j:=qh6;have hh:w64 (Int.fdiv (wu64 (w64 (i+j))) (2 ^ (min (Int.toNat 1) 64)))=(i+j) / 2:=Qzb hx.1 hq0 hx.2.2 (by omega);have hh3:w64 (w64 (Int.fdiv (wu64 (w64 (i+j))) (2 ^ (min (Int.toNat 1) 64)))+1)=(i+j) / 2+1:=by rw [hh];exact wr (by omega));refine And.intro (by first|exact fun hg=>decide_eq_true (by first|(show 0<=w64 (Int.fdiv (wu64 (w64 (i+j))) (2 ^ (min (Int.toNat 1) 64)))∧w64 (Int.fdiv (wu64 (w64 (i+j))) (2 ^ (min (Int.toNat 1) 64)))<(l.length:Int);rw [hh];omega)|exact ckA)|exact gkA) ?_;refine And.intro (by first|exact fun hg=>decide_eq_true (by first|(show 0<=w64 (Int.fdiv (wu64 (w64 (i+j))) (2 ^ (min (Int.toNat 1) 64)))∧w64 (Int.fdiv (wu64 (w64 (i+j))) (2 ^ (min (Int.toNat 1) 64)))<(l.length:Int);rw [hh];omega)|exact ckA)|exact gkA) ?_;refine us (mv [] (cl1 (l.getD (Int.toNat (w64 (Int.fdiv (wu64 (w64 (i+j))) (2 ^ (min (Int.toNat 1) 64))))) Job.zero) id_ szA) .nil (dl (Job.low _ _) (d1 .nil)) .nil rx) ?_;refine ai (fun h8=>?_) (fun h9=>?_)
   ·have qh8:=of_decide_eq_true h8;exact Qa0 (w64 ((w64 (Int.fdiv (wu64 (w64 (i+j))) (2 ^ (min (Int.toNat 1) 64))))+1)) j (wk [] .nil (sl lw (s1 (sv (QH0 (Low.fn _ _ _ LowL.nil LowL.nil)) (s1 (s1 (s1 (s1 (s1 .nil))))))))) (by first|(dsimp only;rw [hh3];omega)|first|(dsimp only;rw [hh];omega)|exact omA) ⟨m,by first|(dsimp only;rw [hh3];omega)|first|(dsimp only;rw [hh];omega)|exact omA,foll hR (congrArg (fun p:Int × Int=>QG0 l id_ (fun (y:Job) (y1:Int)=>(w64 (y.id - y1))) p.1 p.2) (ct h6 (ct h8 rfl))),by first|(dsimp only;rw [hh3];omega)|first|(dsimp only;rw [hh];omega)|exact exA⟩
   ·have qh9:=of_decide_eq_false h9;exact Qa0 i (w64 (Int.fdiv (wu64 (w64 (i+j))) (2 ^ (min (Int.toNat 1) 64)))) (wk [] .nil (sl lw (s1 (sv (QH0 (Low.fn _ _ _ LowL.nil LowL.nil)) (s1 (s1 (s1 (s1 (s1 .nil))))))))) (by first|(dsimp only;rw [hh3];omega)|first|(dsimp only;rw [hh];omega)|exact omA) ⟨m,by first|(dsimp only;rw [hh3];omega)|first|(dsimp only;rw [hh];omega)|exact omA,foll hR (congrArg (fun p:Int × Int=>QG0 l id_ (fun (y:Job) (y1:Int)=>(w64 (y.id - y1))) p.1 p.2) (ct h6 (cf h9 rfl))),by first|(dsimp only;rw [hh3];omega)|first|(dsimp only;rw [hh];omega)|exact exA⟩
  ·have qh7:=of_decide_eq_false h7;replace hR:QG0 l id_ (fun (y:Job) (y1:Int)=>(w64 (y.id - y1))) i j=Qy0 l id_ (fun (y:Job) (y1:Int)=>(w64 (y.id - y1))):=fo2 (fun p:Int × Int=>QG0 l id_ (fun (y:Job) (y1:Int)=>(w64 (y.id - y1))) p.1 p.2) (i,j) hR (cf h7 rfl);refine And.intro (by first|exact fun hg=>decide_eq_true (by first|(show 0<=w64 (Int.fdiv (wu64 (w64 (i+j))) (2 ^ (min (Int.toNat 1) 64)))∧w64 (Int.fdiv (wu64 (w64 (i+j))) (2 ^ (min (Int.toNat 1) 64)))<(l.length:Int);rw [hh];omega)|exact ckA)|exact gkA) ?_;(first|apply u2|apply u3|apply u4|apply us);exact mv [] (cl1 (l.getD (Int.toNat i) Job.zero) id_ szA) .nil (dl (Job.low _ _) (d1 .nil)) .nil rx;refine Qn0 (fun r:Int × Bool=>AVal.tup [I r.1,Bo r.2]) (fun r:Int × Bool=>[]) (leaf:=(i,((decide (i<(l.length:Int)))&&(((fun (y:Job) (y1:Int)=>(w64 (y.id - y1))) (l.getD (Int.toNat i) Job.zero) id_)==0)))) (foll hR rfl) ?_;exact tt [] .nil (turn_tup (c1 (c1 .nil)))
 refine us (mv [] (hof1) .nil (dl lw (d1 (dv (Qw6 (Low.fn _ _ _ LowL.nil LowL.nil)) .nil))) .nil (Ren.low _ (Low.tup' (l1 (l1 .nil))))) ?_;obtain rfl:=foll hR rfl;exact Q00 (Low.tup' (l1 (l1 .nil))) (Seen.tup (e1 (e1 .nil)))
theorem bs_ge (x_:List Job) (target:Int) (cmp:Job->Int->Int) (hn:x_.length<=4294967296):∀ (m:Nat) (i j:Int),0<=i->i<=j->j<=(x_.length:Int)->0<=(Qe0 x_ target cmp m i j).1
 | 0,_,_,_,_,_=>by simp [Qe0]
 | m+1,i,j,h0,h1,h2=>by
  rw [Qe0]
  cases hd:decide (i<j) with
  | false=>exact h0
  | true =>
   have hlt:=of_decide_eq_true hd
   rw [Qzb h0 hlt h2 (by omega)]
   simp only [cond_true]
   cases decide (cmp (x_.getD (Int.toNat ((i+j) / 2)) Job.zero) target<0) with
   | true =>
    have hw:w64 ((i+j) / 2+1)=(i+j) / 2+1:=wr (by omega)
    simp only [cond_true]
    rw [hw]
    exact bs_ge x_ target cmp hn m _ _ (by omega) (by omega) h2
   | false=>exact bs_ge x_ target cmp hn m _ _ h0 (by omega) (by omega)
theorem QE4 (l:List Job) (id_:Int) (hn:l.length<=4294967296) (h:(!(Qk0 l id_).2)=false):0<=(Qk0 l id_).1∧(Qk0 l id_).1<(l.length:Int):=by
 simp only [Qk0,Qy0,QG0,Bool.not_eq_false',Bool.and_eq_true,decide_eq_true_eq] at h
 exact ⟨bs_ge _ _ _ hn _ _ _ (by omega) (by omega) (by omega),h.1⟩
def table_whole (l:List Job):(List Job):=l
theorem table_whole_o (l:List Job) (hs0:l.length<=4294967296∧(∀ y ∈ l,y.sz)):AMoves Tryz.prog 61 [jobL l] [] 0 (AVal.own 0 0 20 0 l.length) [(0,AObj.row 46 20 (l.map Job.cells))]:=by
 generalize hR:table_whole l=R;refine mo (kp 5 [8,9,10]) Tryz.func61 ?_;have hk0:=hs0;obtain ⟨z8,z9⟩:l.length<=4294967296∧(∀ y ∈ l,y.sz):=hs0;refine us (mv [] (QP9 l szA) .nil (dl lw .nil) (rO rr .nil) (rw_ 0 0 rfl)) ?_;refine Qh0 (fun (i:Nat)=>True∧i<=l.length) (fun i=>l.length - i) (fun i=>[(2,AVal.lit (.slice none 0 0)),(3,AVal.own 0 0 20 0 l.length),(8,I (l.length:Int)),(9,I (i:Int))]) (fun i=>[(0,AObj.row 46 20 (l.map Job.cells))]) 0 (wk [0] (tO rfl (tl eqA) .nil) (s1 (sv (to 0 lnA) (s1 (s1 .nil))))) ⟨trivial,by exact omA⟩ ?_;have hR0:=hR;rintro i ⟨hR,hj⟩;(try dsimp only at hR hj);refine ai (fun h1=>?_) (fun h2=>?_)
 ·have hlt:=ltA h1;have hxz:(l.getD i Job.zero).sz:=Qk6 (by first|assumption|grind) (Job.szz _);have hkz:=hxz;obtain ⟨z3,z4,z5,z6,z7⟩:((l.getD i Job.zero).name).size<=4294967296∧((l.getD i Job.zero).user).size<=4294967296∧((l.getD i Job.zero).account).size<=4294967296∧((((l.getD i Job.zero).shape).alts).length<=4294967296)∧((l.getD i Job.zero).after).length<=4294967296:=hxz;refine ai gkA ?_;refine ⟨_,QA3 rfl rfl rfl (QH4 Job.zero i (by first|rfl|exact Nat.zero_add _|omega) ckA) rfl,?_⟩;refine us (QN9 ((l.getD i Job.zero).shape.alts) szA _) ?_;refine ai gkA ?_;refine ⟨_,QK7 rfl rfl rfl rfl (QH4 Job.zero i (by first|rfl|exact Nat.zero_add _|omega) ckA) rfl rfl (QHa Job.zero i (by first|rfl|exact Nat.zero_add _|omega) ckA rfl),?_⟩;refine ai gkA ?_;refine ⟨_,QA3 rfl rfl rfl (QH4 Job.zero i (by first|rfl|exact Nat.zero_add _|omega) ckA) rfl,?_⟩;refine us (QO9 ((l.getD i Job.zero).after) szA _) ?_;refine ai gkA ?_;refine ⟨_,QK7 rfl rfl rfl rfl (QH4 Job.zero i (by first|rfl|exact Nat.zero_add _|omega) ckA) rfl rfl (QHa Job.zero i (by first|rfl|exact Nat.zero_add _|omega) ckA rfl),?_⟩;exact Ql0 (i+1) (wk [0] (tO rfl (tl eqA) .nil) (s1 (sv (to 0 lnA) (s1 (sv (Qd0 (I_eq (wr omA)) lx) .nil))))) omA ⟨hR,by exact omA⟩
 ·skip;have hR:=hR0;obtain rfl:=foll hR rfl;exact rq (tt [0] (tO rfl (tl eqA) .nil) (to 0 lnA))
end Go.Proofs.YtiiaifgeekdpaaaGreatDoor
