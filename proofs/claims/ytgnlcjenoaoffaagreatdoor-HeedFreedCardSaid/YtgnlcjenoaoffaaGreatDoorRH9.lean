/-
  What the last text of this claim leans on: an evaluator over the code, contracts of functions, plain laws. Conditions stand in each statement.
-/
import Derived.Test.YtgnlcjenoaoffaaGreatDoorRH7
import Derived.Test.YtgnlcjenoaoffaaGreatDoorProg
namespace Go.Proofs.YtgnlcjenoaoffaaGreatDoor
set_option linter.unusedSimpArgs false
set_option linter.unusedVariables false
open Go.Fw
set_option maxRecDepth 20000
set_option maxHeartbeats 4000000
attribute [local irreducible] ACalls AMoves
theorem Job.zz {x:Job} (h:x.sz):x.name.size<=4294967296∧x.user.size<=4294967296∧x.account.size<=4294967296∧x.shape.alts.length<=4294967296∧x.after.length<=4294967296:=h
theorem Usage.zz {x:Usage} (h:x.sz):x.user.size<=4294967296∧x.account.size<=4294967296:=h
abbrev GV (f:FuncId) (a:List AVal) (r:AVal):Prop:=∀ objs,AGives Tryz.prog f a objs r
def Qnb (l:List Node):Bool:=(decide ((l.length:Int)<=100))
theorem law12_Few_c (l:List Node):GV 13 [nodeL l] (Bo (Qnb l)):=by
 generalize hR:Qnb l=R;refine gA (kp 3 []) Tryz.func13 ?_;exact lfA
def Qmb (s:Shape):Bool:=(decide ((s.alts.length:Int)<=100))
theorem law07_Few_c (s:Shape):GV 73 [Shape.a s] (Bo (Qmb s)):=by
 generalize hR:Qmb s=R;refine gA (kp 3 []) Tryz.func73 ?_;exact lfA
def Qqb (l:List Book):Bool:=(decide ((l.length:Int)<=100))
theorem law19_Few_c (l:List Book):GV 15 [bookL l] (Bo (Qqb l)):=by
 generalize hR:Qqb l=R;refine gA (kp 3 []) Tryz.func15 ?_;exact lfA
def QL6 :List Usage->Nat->Bool
 | [],_=>true
 | x_ :: r,i=>bif ((decide ((ByteArray.size x_.user:Int) > 1000))||(decide ((ByteArray.size x_.account:Int) > 1000))) then false else QL6 r (i+1)
def Qpb (l:List Usage):Bool:=bif (decide ((l.length:Int) > 300)) then false else QL6 l 0
theorem law17_Few_c (l:List Usage) (hs0:l.length<=9223372036854775807∧(∀ y ∈ l,y.szM)):GV 16 [Qt1 l] (Bo (Qpb l)):=by
 generalize hR:Qpb l=R;refine gA (kp 4 [6,10,28]) Tryz.func16 ?_;obtain ⟨z9,z10⟩:=id hs0;refine ai (fun h1=>?_) (fun h2=>?_)
 ·have qh1:=yca h1;exact lfA
 ·have qh2:=yja h2;refine Qk0 (fun (i:Nat)=>QL6 (List.drop i l) i=R∧i<=l.length) (fun i=>l.length - i) (fun i=>[(0,Qt1 l),(2,Bo false),(3,I (i:Int))]) (fun i=>[]) 0 (wkA []) ⟨folA,by exact omA⟩ ?_;clear hR;rintro i ⟨hR,hj⟩;(try dsimp only at hR hj);refine ai (fun h3=>?_) (fun h4=>?_)
  ·have hlt:=ltA h3;rw [Qd0 zJ hlt] at hR;have hxz:(l.getD i zJ).szM:=QB1 (by first|assumption|grind) (Usage.szz _);have hkz:=hxz;obtain ⟨z5,z6⟩:((l.getD i zJ).user).size<=9223372036854775807∧((l.getD i zJ).account).size<=9223372036854775807:=hxz;refine ai gkA ?_;refine ai gkA ?_;refine ai (fun h7=>?_) (fun h8=>?_)
   ·exact lfA
   ·exact Qr0 (i+1) (wkA []) omA ⟨folA,by exact omA⟩
  ·rw [Qh0 (l:=l) (j:=i) (geA h4)] at hR;exact lfA
def Qr4 (n:Int) (from_:Int) (to_:Int):Int:=bif (decide (n<from_)) then from_ else bif (decide (n > to_)) then to_ else n
theorem Ql9 (n:Int) (from_:Int) (to_:Int):GV 139 [I n,I from_,I to_] (I (Qr4 n from_ to_)):=by
 generalize hR:Qr4 n from_ to_=R;refine gA (kp 7 [7,12]) Tryz.func139 ?_;apply ai<;>intro h1
 ·have qh1:=yca h1;exact lfA
 ·have qh1:=yja h1;apply ai<;>intro h3
  ·have qh3:=yca h3;exact lfA
  ·have qh3:=yja h3;exact lfA
def QQ1 (n:Int):Bool:=((decide (n >= 0))&&(decide (n<=1000000)))
theorem Qj4 (n:Int):GV 122 [I n] (Bo (QQ1 n)):=by
 generalize hR:QQ1 n=R;refine gA (kp 3 []) Tryz.func122 ?_;exact lfA
def Qv1 (a:Alt):Bool:=((((decide (a.nodes >= 1))&&(decide (a.nodes<=48)))&&(decide (a.wall >= 1)))&&(decide (a.wall<=100000)))
theorem QS9 (a:Alt):GV 222 [Alt.a a] (Bo (Qv1 a)):=by
 generalize hR:Qv1 a=R;refine gA (kp 3 []) Tryz.func222 ?_;exact lfA
def Q13 (f:Alt->Bool):List Alt->Nat->Int
 | [],_=>(-1)
 | x_ :: r,i=>bif (f x_) then (i:Int) else Q13 f r (i+1)
def Qf1 (s:List Alt) (f:Alt->Bool):Int:=Q13 f s 0
def Qh3 (n:Int) (from_:Int) (to_:Int):Bool:=((decide (n >= from_))&&(decide (n<=to_)))
theorem Q33 (n:Int) (from_:Int) (to_:Int):GV 230 [I n,I from_,I to_] (Bo (Qh3 n from_ to_)):=by
 generalize hR:Qh3 n from_ to_=R;refine gA (kp 7 []) Tryz.func230 ?_;exact lfA
def Q32 (r_:Int):Int:=bif ((r_==9)||(r_==32)) then 1 else bif (((((decide (r_<32))||((decide (r_ >= 127))&&(decide (r_<=160))))||((decide (r_ >= 55296))&&(decide (r_<=57343))))||(r_==65533))||(decide (r_ > 1114111))) then 0 else bif ((decide (r_ >= 48))&&(decide (r_<=57))) then 3 else bif ((((decide (r_ >= 97))&&(decide (r_<=122)))||((decide (r_ >= 65))&&(decide (r_<=90))))||(decide (r_ > 160))) then 2 else 4
theorem Q84 (r_:Int):GV 265 [J r_] (I (Q32 r_)):=by
 generalize hR:Q32 r_=R;refine gA (kp 3 [3,10,37,44]) Tryz.func265 ?_;apply ai<;>intro h1
 ·exact lfA
 ·apply ai<;>intro h3
  ·exact lfA
  ·apply ai<;>intro h5
   ·exact lfA
   ·apply ai<;>intro h7
    ·exact lfA
    ·exact lfA
def Q31 (is:Int->Bool):Nat->LexReader->LexReader
 | 0,_=>zN
 | m+1,c=>bif ((decide (c.at_<(c.line.length:Int)))&&(is (c.line.getD (c.at_.toNat) 0))) then Q31 is m { c with at_:=(w64 (c.at_+1)) } else c
def QP0 (r_:LexReader) (c:LexReader):ByteArray × LexReader:=((runesBytes (List.drop (r_.at_.toNat) (List.take (c.at_.toNat) c.line))),c)
def Q40 (r_:LexReader) (is:Int->Bool):ByteArray × LexReader:=QP0 r_ (Q31 is ((((r_.line.length:Int) - r_.at_).toNat)+1) r_)
theorem Qna (is:Int->Bool):∀ (m:Nat) (c:LexReader),(Q31 is m c).line.length<=c.line.length
 | 0,_=>by simp [Q31,zN]
 | m+1,c=>by
  rw [Q31];cases ((decide (c.at_<(c.line.length:Int)))&&(is (c.line.getD (c.at_.toNat) 0))) with
  | true=>exact Qna is m { c with at_:=(w64 (c.at_+1)) }
  | false=>exact yia _
theorem QF9 (r_:LexReader) (is:Int->Bool) (h:r_.line.length<=400):(Q40 r_ is).1.size<=4294967296:=by
 have h1:=Qna is ((((r_.line.length:Int) - r_.at_).toNat)+1) r_;unfold Q40 QP0;refine yea (Q06 _) ?_;simp only [yEa,yAa];omega
def Qz6 (s:ByteArray):Nat->Nat->List Int->(List Int)
 | 0,_,_=>[]
 | m+1,i,c=>bif (decide ((i:Int)<(ByteArray.size s:Int))) then bif ((decide ((c.getD i 0) >= 65))&&(decide ((c.getD i 0)<=90))) then Qz6 s m (i+1) (c.set i (wu8 ((wu8 ((c.getD i 0)+97)) - 65))) else Qz6 s m (i+1) c else c
def Qq4 (c:List Int):ByteArray:=(Qn5 c)
def QOa (s:ByteArray):ByteArray:=Qq4 (Qz6 s ((((ByteArray.size s:Int) - (0:Int)).toNat)+1) 0 (QV6 s))
theorem runes_Lower_c (s:ByteArray) (hs0:s.size<=4294967296):GV 314 [Sg s] (Sg (QOa s)):=by
 generalize hR:QOa s=R;refine gA (kp 6 [8,9,10,11,20]) Tryz.func314 ?_;have hk0:=hs0;obtain z5:s.size<=4294967296:=hs0;refine Qu0 (fun (i:Nat) (c:List Int)=>∃ m,(((ByteArray.size s:Int) - (i:Int)).toNat)<m∧Qq4 (Qz6 s m i c)=R∧c.length=ByteArray.size s∧(i:Int)<=(ByteArray.size s:Int)) (fun i c=>(((ByteArray.size s:Int) - (i:Int)).toNat)) (fun i c=>[(2,Sg ⟨#[]⟩),(3,AVal.own 0 0 1 0 c.length),(8,AVal.own 0 0 1 0 c.length),(9,I (ByteArray.size s:Int)),(10,I (i:Int))]) (fun i c=>[(0,AObj.row 5 1 (c.map (fun q_=>[Y q_])))]) 0 (QV6 s) (wkA [0]) ⟨_,yTa _,foll hR rfl,by exact exA⟩ ?_;clear hR;rintro i c ⟨m,hm,hR,hx⟩;(try dsimp only at hR hm hx);obtain ⟨m,rfl⟩:=sucA m;apply ai<;>intro h1
 ·have qh1:=yca h1;refine ai gkA ?_;refine ⟨_,Qf0 rfl rfl rfl (Qo0 0 i (by first|rfl|exact yda _|omega) ckA) rfl,?_⟩;apply ai<;>intro h3
  ·refine ai gkA ?_;refine ⟨_,QV0 rfl rfl rfl rfl (Qo0 0 i (by first|rfl|exact yda _|omega) ckA) rfl rfl (QD7 i (wu8 ((wu8 ((c.getD i 0)+97)) - 65)) (by first|rfl|exact yda _|omega) rfl),?_⟩;exact Qc0 (i+1) (c.set i (wu8 ((wu8 ((c.getD i 0)+97)) - 65))) (wkA [0]) omA ⟨m,by exact omA,foll hR (congrArg (fun p:(List Int)=>Qq4 p) (ct h1 (ct h3 rfl))),by exact exA⟩
  ·exact Qc0 (i+1) c (wkA [0]) omA ⟨m,by exact omA,foll hR (congrArg (fun p:(List Int)=>Qq4 p) (ct h1 (cf h3 rfl))),by exact exA⟩
 ·have qh1:=yja h1;replace hR:Qq4 c=R:=fo2 (fun p:(List Int)=>Qq4 p) (c) hR (cf h1 rfl);(first|refine ⟨c,by exact cvA,?_⟩|refine ⟨_,fun _=>⟨c,by exact cvA,rfl,rfl⟩,?_⟩|refine ⟨_,rfl,⟨c,by exact cvA,Sub.refl _,rfl⟩,?_⟩);exact lfA
def Q91 (r_:LexReader) (at_:Int) (e_:Int):LexReader:=bif (r_.error==0) then (⟨r_.line,r_.at_,at_,e_⟩:LexReader) else r_
theorem Q93 (r_:LexReader) (at_:Int) (e_:Int):AMoves Tryz.prog 306 [AVal.ptr 0 0 4 0 0,I at_,I e_] [(0,AObj.row 318 4 [[runes r_.line,I r_.at_,I r_.bad,I r_.error]])] 1 (AVal.tup []) [(0,AObj.row 318 4 [[runes ((Q91 r_ at_ e_).line),I ((Q91 r_ at_ e_).at_),I ((Q91 r_ at_ e_).bad),I ((Q91 r_ at_ e_).error)]])]:=by
 generalize hR:Q91 r_ at_ e_=R;refine mo (kp 6 [10]) Tryz.func306 ?_;apply ai<;>intro h1
 ·obtain rfl:=foll hR (ct h1 rfl);exact rq (tt [0] (tO rfl (ts LexReader.lo) .nil) t1)
 ·obtain rfl:=foll hR (cf h1 rfl);exact rq (ttA [0])
def QV5 (s:ByteArray):List (Nat × Int)->Bool
 | []=>(!(ByteArray.toList s==ByteArray.toList ⟨#[]⟩))
 | x_ :: r=>bif ((decide (x_.2<48))||(decide (x_.2 > 57))) then false else QV5 s r
def Qh7 (s:ByteArray):Bool:=QV5 s (Qxd s)
theorem QMc (s:ByteArray) (hs0:s.size<=4294967296):GV 316 [Sg s] (Bo (Qh7 s)):=by
 generalize hR:Qh7 s=R;refine gA (kp 5 [6,7,8,15]) Tryz.func316 ?_;have hk0:=hs0;obtain z5:s.size<=4294967296:=hs0;refine Qk0 (fun (pos:Nat)=>∃ m,ByteArray.size s - pos<=m∧QV5 s (Qq5 s m pos)=R) (fun pos=>ByteArray.size s - pos) (fun pos=>[(0,Sg s),(2,Bo false),(6,AVal.ptr 0 0 1 0 0)]) (fun pos=>[(0,AObj.other (.strIter s pos))]) 0 (wkA [0]) ⟨ByteArray.size s,by exact omA,foll hR rfl⟩ ?_;clear hR;rintro pos ⟨m,hm,hR⟩;(try dsimp only at hR hm);apply ai<;>intro h1
 ·have hlt:=yca h1;have hw:=Q2a s pos;have hwe:=Q1a s pos hlt;obtain ⟨m,rfl⟩:=sucA m;rw [Q56 h1] at hR;refine ai (fun _=>?_) (fun h=>nomatch h);apply ai<;>intro h3
  ·exact lfA
  ·exact Qr0 (pos+(Utf8.decode s pos).2) (wkA [0]) omA ⟨m,by exact omA,foll hR (cf h3 rfl)⟩
 ·rw [Q58 h1] at hR;refine ai (fun h=>nomatch h) (fun _=>?_);exact lfA
theorem Qj9 (s:ByteArray):∀ l,QV5 s l=true->(!(ByteArray.toList s==ByteArray.toList ⟨#[]⟩))=true ∧ ∀ x ∈ l,48<=x.2∧x.2<=57
 | [],h=>⟨h,fun x hx=>nomatch hx⟩
 | x :: r,h=>by
  rw [QV5] at h;cases hc:((decide (x.2<48))||(decide (x.2 > 57))) with
  | true=>rw [hc] at h;cases h
  | false =>
   rw [hc] at h;obtain ⟨a,b⟩:=Qj9 s r h;refine ⟨a,fun y hy=>?_⟩;rcases List.mem_cons.1 hy with rfl|hy
   ·simp only [yRa,y3a] at hc;omega
   ·exact b y hy
theorem lex_digits_ok {s:ByteArray} {q:Bool} (h:(((!(Qh7 s))||(decide ((ByteArray.size s:Int) > 9)))||q)=false):atoiOK s:=by
 simp only [yRa,y2a,y3a] at h;obtain ⟨⟨h1,h2⟩,_⟩:=h;obtain ⟨a,b⟩:=Qj9 s _ h1;refine ⟨?_,by omega,fun i hi=>digits_bytes s s.size 0 oA b i oA hi⟩;rcases ySa s.size with h0|h0
 ·have e:s=⟨#[]⟩:=by
   apply ByteArray.ext;exact yRb h0
  rw [e] at a;simp at a
 ·exact h0
def QW6 (s:ByteArray):Nat->Int->Nat->Int
 | 0,_,_=>0
 | m+1,n,i=>bif (decide ((i:Int)<(ByteArray.size s:Int))) then QW6 s m (w64 ((w64 (n*10))+(w64 (wu8 (((QV6 s).getD i 0) - 48))))) (i+1) else n
def Qb4 (n:Int):Int × Unit:=(n,())
def QQ8 (s:ByteArray):Int × Unit:=Qb4 (QW6 s ((((ByteArray.size s:Int) - (0:Int)).toNat)+1) 0 0)
theorem Qee (s:ByteArray) (hs0:s.size<=4294967296) (hp0:atoiOK s):GV 332 [Sg s] (AVal.tup [I ((QQ8 s).1),AVal.lit .nilIface]):=by
 generalize hR:QQ8 s=R;refine gA (kp 11 [30,39,44,47,48,49,50,56,66]) Tryz.func332 ?_;have hk0:=hs0;obtain z11:s.size<=4294967296:=hs0;apply ai<;>intro h1
 ·refine ai gkA ?_;refine ai gkA ?_;apply ai<;>intro h3
  ·exfalso;exact atoi_sign hp0 h3
  ·refine Qu0 (fun (n:Int) (i:Nat)=>∃ m,(((ByteArray.size s:Int) - (i:Int)).toNat)<m∧Qb4 (QW6 s m n i)=R∧(i:Int)<=(ByteArray.size s:Int)) (fun n i=>(((ByteArray.size s:Int) - (i:Int)).toNat)) (fun n i=>[(0,Sg s),(2,I 0),(3,AVal.lit .nilIface),(5,Sg s),(6,I n),(47,AVal.own 0 0 1 0 (ByteArray.size s)),(48,I (ByteArray.size s:Int)),(49,I (i:Int))]) (fun n i=>[(0,AObj.row 5 1 ((QV6 s).map (fun q_=>[Y q_])))]) 0 0 (wkA [0]) ⟨_,yTa _,foll hR rfl,by exact exA⟩ ?_;clear hR;rintro n i ⟨m,hm,hR,hx⟩;(try dsimp only at hR hm hx);obtain ⟨m,rfl⟩:=sucA m;apply ai<;>intro h5
   ·have qh5:=yca h5;refine ai gkA ?_;refine ⟨_,Qf0 rfl rfl rfl (Qo0 0 i (by first|rfl|exact yda _|omega) ckA) rfl,?_⟩;apply ai<;>intro h7
    ·exfalso;exact atoi_digit hp0 oA h7
    ·have qh7:=yja h7;exact Qc0 (w64 ((w64 (n*10))+(w64 (wu8 (((QV6 s).getD i 0) - 48))))) (i+1) (wkA [0]) omA ⟨m,by exact omA,foll hR (congrArg (fun p:Int=>Qb4 p) (ct h5 rfl)),by exact exA⟩
   ·have qh5:=yja h5;replace hR:Qb4 n=R:=fo2 (fun p:Int=>Qb4 p) (n) hR (cf h5 rfl);refine ai gkA ?_;apply ai<;>intro h9
    ·exfalso;exact atoi_minus hp0 h9
    ·exact lfA
 ·exfalso;have ha1:=hp0.1;have ha2:=hp0.2.1;simp at h1;omega
def Qx2 (p_:List Int) (r_:Int) (i:Bool):(List Int):=bif i then (p_++([(wu8 (BitVec.ofInt 8 224 ||| BitVec.ofInt 8 (wu8 (Int.fdiv r_ (2 ^ (min (Int.toNat 12) 32))))).toNat),(wu8 (BitVec.ofInt 8 128 ||| BitVec.ofInt 8 (wu8 (BitVec.ofInt 8 (wu8 (Int.fdiv r_ (2 ^ (min (Int.toNat 6) 32)))) &&& BitVec.ofInt 8 63).toNat)).toNat),(wu8 (BitVec.ofInt 8 128 ||| BitVec.ofInt 8 (wu8 (BitVec.ofInt 8 (wu8 r_) &&& BitVec.ofInt 8 63).toNat)).toNat)]:List Int)) else bif ((decide ((wu32 r_) > 65535))&&(decide ((wu32 r_)<=1114111))) then (p_++([(wu8 (BitVec.ofInt 8 240 ||| BitVec.ofInt 8 (wu8 (Int.fdiv r_ (2 ^ (min (Int.toNat 18) 32))))).toNat),(wu8 (BitVec.ofInt 8 128 ||| BitVec.ofInt 8 (wu8 (BitVec.ofInt 8 (wu8 (Int.fdiv r_ (2 ^ (min (Int.toNat 12) 32)))) &&& BitVec.ofInt 8 63).toNat)).toNat),(wu8 (BitVec.ofInt 8 128 ||| BitVec.ofInt 8 (wu8 (BitVec.ofInt 8 (wu8 (Int.fdiv r_ (2 ^ (min (Int.toNat 6) 32)))) &&& BitVec.ofInt 8 63).toNat)).toNat),(wu8 (BitVec.ofInt 8 128 ||| BitVec.ofInt 8 (wu8 (BitVec.ofInt 8 (wu8 r_) &&& BitVec.ofInt 8 63).toNat)).toNat)]:List Int)) else (p_++([239,191,189]:List Int))
def Qt2 (p_:List Int) (r_:Int):(List Int):=bif (decide ((wu32 r_)<=2047)) then (p_++([(wu8 (BitVec.ofInt 8 192 ||| BitVec.ofInt 8 (wu8 (Int.fdiv r_ (2 ^ (min (Int.toNat 6) 32))))).toNat),(wu8 (BitVec.ofInt 8 128 ||| BitVec.ofInt 8 (wu8 (BitVec.ofInt 8 (wu8 r_) &&& BitVec.ofInt 8 63).toNat)).toNat)]:List Int)) else bif (decide ((wu32 r_)<55296)) then Qx2 p_ r_ (decide ((wu32 r_)<55296)) else Qx2 p_ r_ ((decide (57343<(wu32 r_)))&&(decide ((wu32 r_)<=65535)))
theorem Qm8 (p_:List Int) (r_:Int) (hs0:p_.length<=4294967296):AMoves Tryz.prog 331 [AVal.own 0 0 1 0 p_.length,J r_] [(0,AObj.row 5 1 (p_.map (fun q_=>[Y q_])))] 0 (AVal.own 0 0 1 0 (Qt2 p_ r_).length) [(0,AObj.row 5 1 ((Qt2 p_ r_).map (fun q_=>[Y q_])))]:=by
 generalize hR:Qt2 p_ r_=R;refine mo (kj [1000007] 6 [11,25,50]) Tryz.func331 ?_;have hk0:=hs0;obtain z9:p_.length<=4294967296:=hs0;apply ai<;>intro h1
 ·have qh1:=yca h1;refine ai gkA ?_;refine Or.inl ?_;(first|refine ⟨Qd1 1 rfl lnA apA,?_⟩|refine ⟨QB0 1 rfl apA,?_⟩);obtain rfl:=foll hR (ct h1 rfl);exact rq (ttA [0])
 ·have qh1:=yja h1;refine Qu1 (fun (i:Bool)=>Qx2 p_ r_ i=R) (fun i=>[(0,AVal.own 0 0 1 0 p_.length),(1,J r_),(4,AVal.lit (.slice none 0 0)),(5,V (wu32 r_)),(25,Bo i)]) (fun i=>[(0,AObj.row 5 1 (p_.map (fun q_=>[Y q_])))]) ?_ ?_
  ·clear hR;rintro i hR;(try dsimp only at hR);apply ai<;>intro h3
   ·refine ai gkA ?_;refine ai gkA ?_;refine Or.inl ?_;(first|refine ⟨Qd1 1 rfl lnA apA,?_⟩|refine ⟨QB0 1 rfl apA,?_⟩);obtain rfl:=foll hR (ct h3 rfl);exact rq (ttA [0])
   ·apply ai<;>intro h5
    ·refine ai gkA ?_;refine ai gkA ?_;refine ai gkA ?_;refine Or.inl ?_;(first|refine ⟨Qd1 1 rfl lnA apA,?_⟩|refine ⟨QB0 1 rfl apA,?_⟩);obtain rfl:=foll hR (cf h3 (ct h5 rfl));exact rq (ttA [0])
    ·refine Or.inl ?_;(first|refine ⟨Qd1 1 rfl lnA apA,?_⟩|refine ⟨QB0 1 rfl apA,?_⟩);obtain rfl:=foll hR (cf h3 (cf h5 rfl));exact rq (ttA [0])
  ·apply ai<;>intro h7
   ·have qh7:=yca h7;exact Qj0 (decide ((wu32 r_)<55296)) (wkA [0]) (foll hR (cf h1 (ct h7 rfl)))
   ·have qh7:=yja h7;exact Qj0 ((decide (57343<(wu32 r_)))&&(decide ((wu32 r_)<=65535))) (wkA [0]) (foll hR (cf h1 (cf h7 rfl)))
def Q23 (f:Dep->Bool):List Dep->Nat->Int
 | [],_=>(-1)
 | x_ :: r,i=>bif (f x_) then (i:Int) else Q23 f r (i+1)
def Qg1 (s:List Dep) (f:Dep->Bool):Int:=Q23 f s 0
def Qw5 (s2:List Alt):List Alt->Nat->Bool
 | [],_=>true
 | x_ :: r,i=>bif (!((x_.nodes==(s2.getD i zA).nodes)&&(x_.wall==(s2.getD i zA).wall))) then false else Qw5 s2 r (i+1)
def Q07 (s1_:List Alt) (s2:List Alt):Bool:=bif ((s1_.length:Int)!=(s2.length:Int)) then false else Qw5 s2 s1_ 0
theorem QEb (s1_:List Alt) (s2:List Alt) (hs0:s1_.length<=4294967296) (hs1:s2.length<=4294967296):GV 258 [altL s1_,altL s2] (Bo (Q07 s1_ s2)):=by
 generalize hR:Q07 s1_ s2=R;refine gA (kp 6 [10,12,13,14,24]) Tryz.func258 ?_;have hk0:=hs0;obtain z7:s1_.length<=4294967296:=hs0;have hk1:=hs1;obtain z8:s2.length<=4294967296:=hs1;apply ai<;>intro h1
 ·exact lfA
 ·refine Qk0 (fun (i:Nat)=>Qw5 s2 (List.drop i s1_) i=R∧i<=s1_.length) (fun i=>s1_.length - i) (fun i=>[(0,altL s1_),(1,altL s2),(4,Bo false),(12,I (s1_.length:Int)),(13,I (i:Int))]) (fun i=>[]) 0 (wkA []) ⟨folA,by exact omA⟩ ?_;clear hR;rintro i ⟨hR,hj⟩;(try dsimp only at hR hj);apply ai<;>intro h3
  ·have hlt:=ltA h3;rw [Qd0 zA hlt] at hR;refine dchk (by kernel_rfl) ?_;refine ai gkA ?_;refine ai gkA ?_;refine ai (fun _=>(by kernel_rfl:eqOK _ _=true)) ?_;(repeat ((first|refine ai rfl ?_|refine ai (fun _=>rfl) ?_)));apply ai<;>intro h5
   ·exact lfA
   ·exact Qr0 (i+1) (wkA []) omA ⟨folA,by exact omA⟩
  ·rw [Qh0 (l:=s1_) (j:=i) (geA h3)] at hR;exact lfA
def Qx5 (s2:List Dep):List Dep->Nat->Bool
 | [],_=>true
 | x_ :: r,i=>bif (!((x_.how==(s2.getD i zC).how)&&(x_.job==(s2.getD i zC).job))) then false else Qx5 s2 r (i+1)
def Q17 (s1_:List Dep) (s2:List Dep):Bool:=bif ((s1_.length:Int)!=(s2.length:Int)) then false else Qx5 s2 s1_ 0
theorem QFb (s1_:List Dep) (s2:List Dep) (hs0:s1_.length<=4294967296) (hs1:s2.length<=4294967296):GV 237 [depL s1_,depL s2] (Bo (Q17 s1_ s2)):=by
 generalize hR:Q17 s1_ s2=R;refine gA (kp 6 [10,12,13,14,24]) Tryz.func237 ?_;have hk0:=hs0;obtain z7:s1_.length<=4294967296:=hs0;have hk1:=hs1;obtain z8:s2.length<=4294967296:=hs1;apply ai<;>intro h1
 ·exact lfA
 ·refine Qk0 (fun (i:Nat)=>Qx5 s2 (List.drop i s1_) i=R∧i<=s1_.length) (fun i=>s1_.length - i) (fun i=>[(0,depL s1_),(1,depL s2),(4,Bo false),(12,I (s1_.length:Int)),(13,I (i:Int))]) (fun i=>[]) 0 (wkA []) ⟨folA,by exact omA⟩ ?_;clear hR;rintro i ⟨hR,hj⟩;(try dsimp only at hR hj);apply ai<;>intro h3
  ·have hlt:=ltA h3;rw [Qd0 zC hlt] at hR;refine dchk (by kernel_rfl) ?_;refine ai gkA ?_;refine ai gkA ?_;refine ai (fun _=>(by kernel_rfl:eqOK _ _=true)) ?_;(repeat ((first|refine ai rfl ?_|refine ai (fun _=>rfl) ?_)));apply ai<;>intro h5
   ·exact lfA
   ·exact Qr0 (i+1) (wkA []) omA ⟨folA,by exact omA⟩
  ·rw [Qh0 (l:=s1_) (j:=i) (geA h3)] at hR;exact lfA
def Q76 (c:Cmd) (i1:Bool):Cmd:=bif i1 then (⟨c.kind,0,⟨#[]⟩,⟨#[]⟩,⟨#[]⟩,zB,0,false,0,false,[],c.node,0,0⟩:Cmd) else bif (c.kind==10) then (⟨c.kind,0,⟨#[]⟩,⟨#[]⟩,⟨#[]⟩,zB,0,false,c.time,c.hasTime,[],0,c.nodes,c.from_⟩:Cmd) else (⟨c.kind,0,⟨#[]⟩,⟨#[]⟩,⟨#[]⟩,zB,0,false,0,false,[],0,0,0⟩:Cmd)
def QO4 (c:Cmd) (i:Bool):Cmd:=bif i then (⟨c.kind,c.job,⟨#[]⟩,⟨#[]⟩,⟨#[]⟩,zB,0,false,0,false,[],0,0,0⟩:Cmd) else bif (c.kind==5) then (⟨c.kind,c.job,⟨#[]⟩,⟨#[]⟩,⟨#[]⟩,zB,c.prio,c.hasPrio,c.time,c.hasTime,[],0,0,0⟩:Cmd) else bif (c.kind==6) then (⟨c.kind,c.job,⟨#[]⟩,⟨#[]⟩,⟨#[]⟩,zB,0,false,0,false,[],0,c.nodes,0⟩:Cmd) else bif (c.kind==7) then Q76 c (c.kind==7) else bif (c.kind==8) then Q76 c (c.kind==8) else Q76 c (c.kind==9)
def QG8 (c:Cmd):Cmd:=bif (c.kind==1) then { c with job:=0,time:=0,hasTime:=false,node:=0,nodes:=0,from_:=0 } else bif (c.kind==2) then QO4 c (c.kind==2) else bif (c.kind==3) then QO4 c (c.kind==3) else bif (c.kind==4) then QO4 c (c.kind==4) else bif (c.kind==11) then QO4 c (c.kind==11) else QO4 c (c.kind==12)
theorem cmd_bare_c (c:Cmd) (hs0:c.sz):GV 190 [Cmd.a c] (Cmd.a (QG8 c)):=by
 generalize hR:QG8 c=R;refine gA (kj [1000011,1000019] 4 [8,9,32,41,58,66,73]) Tryz.func190 ?_;have hk0:=hs0;obtain ⟨z25,z26,z27,z28,z29⟩:c.name.size<=4294967296∧c.user.size<=4294967296∧c.account.size<=4294967296∧(c.shape.alts.length<=4294967296)∧c.after.length<=4294967296:=hs0;apply ai<;>intro h1
 ·refine dchk (by kernel_rfl) ?_;(repeat ((first|refine ai rfl ?_|refine ai (fun _=>rfl) ?_)));(try (refine dchk (by kernel_rfl) ?_));(repeat ((first|refine ai rfl ?_|refine ai (fun _=>rfl) ?_)));exact lfA
 ·refine Qu1 (fun (i:Bool)=>QO4 c i=R) (fun i=>[(1,AVal.ptr 0 0 18 0 0),(2,AVal.ptr 1 0 18 0 0),(3,AVal.ptr 2 0 18 0 0),(8,I c.kind),(32,Bo i)]) (fun i=>[(0,AObj.row 180 18 [[I c.kind,I c.job,Sg c.name,Sg c.user,Sg c.account,I c.shape.kind,altL c.shape.alts,I c.shape.min,I c.shape.max,I c.shape.wall,I c.prio,Bo c.hasPrio,I c.time,Bo c.hasTime,depL c.after,I c.node,I c.nodes,I c.from_]]),(0,AObj.row 180 18 [[I 0,I 0,Sg ⟨#[]⟩,Sg ⟨#[]⟩,Sg ⟨#[]⟩,I 0,AVal.lit (.slice none 0 0),I 0,I 0,I 0,I 0,Bo false,I 0,Bo false,AVal.lit (.slice none 0 0),I 0,I 0,I 0]]),(0,AObj.row 180 18 [[I c.kind,I 0,Sg ⟨#[]⟩,Sg ⟨#[]⟩,Sg ⟨#[]⟩,I 0,AVal.lit (.slice none 0 0),I 0,I 0,I 0,I 0,Bo false,I 0,Bo false,AVal.lit (.slice none 0 0),I 0,I 0,I 0]])]) ?_ ?_
  ·clear hR;rintro i hR;(try dsimp only at hR);apply ai<;>intro h3
   ·exact lfA
   ·apply ai<;>intro h5
    ·refine dchk (by kernel_rfl) ?_;(repeat ((first|refine ai rfl ?_|refine ai (fun _=>rfl) ?_)));exact lfA
    ·apply ai<;>intro h7
     ·refine dchk (by kernel_rfl) ?_;(repeat ((first|refine ai rfl ?_|refine ai (fun _=>rfl) ?_)));exact lfA
     ·refine Qu1 (fun (i1:Bool)=>Q76 c i1=R) (fun i1=>[(1,AVal.ptr 0 0 18 0 0),(2,AVal.ptr 1 0 18 0 0),(3,AVal.ptr 2 0 18 0 0),(8,I c.kind),(66,Bo i1)]) (fun i1=>[(0,AObj.row 180 18 [[I c.kind,I c.job,Sg c.name,Sg c.user,Sg c.account,I c.shape.kind,altL c.shape.alts,I c.shape.min,I c.shape.max,I c.shape.wall,I c.prio,Bo c.hasPrio,I c.time,Bo c.hasTime,depL c.after,I c.node,I c.nodes,I c.from_]]),(0,AObj.row 180 18 [[I 0,I 0,Sg ⟨#[]⟩,Sg ⟨#[]⟩,Sg ⟨#[]⟩,I 0,AVal.lit (.slice none 0 0),I 0,I 0,I 0,I 0,Bo false,I 0,Bo false,AVal.lit (.slice none 0 0),I 0,I 0,I 0]]),(0,AObj.row 180 18 [[I c.kind,I 0,Sg ⟨#[]⟩,Sg ⟨#[]⟩,Sg ⟨#[]⟩,I 0,AVal.lit (.slice none 0 0),I 0,I 0,I 0,I 0,Bo false,I 0,Bo false,AVal.lit (.slice none 0 0),I 0,I 0,I 0]])]) ?_ ?_
      ·clear hR;rintro i1 hR;(try dsimp only at hR);apply ai<;>intro h9
       ·exact lfA
       ·apply ai<;>intro h11
        ·refine dchk (by kernel_rfl) ?_;(repeat ((first|refine ai rfl ?_|refine ai (fun _=>rfl) ?_)));exact lfA
        ·exact lfA
      ·apply ai<;>intro h13
       ·exact Qj0 (c.kind==7) (wkA [0,1,2]) (foll hR (cf h3 (cf h5 (cf h7 (ct h13 rfl)))))
       ·apply ai<;>intro h15
        ·exact Qj0 (c.kind==8) (wkA [0,1,2]) (foll hR (cf h3 (cf h5 (cf h7 (cf h13 (ct h15 rfl))))))
        ·exact Qj0 (c.kind==9) (wkA [0,1,2]) (foll hR (cf h3 (cf h5 (cf h7 (cf h13 (cf h15 rfl))))))
  ·apply ai<;>intro h17
   ·exact Qj0 (c.kind==2) (wkA [0,1,2]) (foll hR (cf h1 (ct h17 rfl)))
   ·apply ai<;>intro h19
    ·exact Qj0 (c.kind==3) (wkA [0,1,2]) (foll hR (cf h1 (cf h17 (ct h19 rfl))))
    ·apply ai<;>intro h21
     ·exact Qj0 (c.kind==4) (wkA [0,1,2]) (foll hR (cf h1 (cf h17 (cf h19 (ct h21 rfl)))))
     ·apply ai<;>intro h23
      ·exact Qj0 (c.kind==11) (wkA [0,1,2]) (foll hR (cf h1 (cf h17 (cf h19 (cf h21 (ct h23 rfl))))))
      ·exact Qj0 (c.kind==12) (wkA [0,1,2]) (foll hR (cf h1 (cf h17 (cf h19 (cf h21 (cf h23 rfl))))))
theorem Qfa (c:Cmd) (b:Bool):(Q76 c b).sz:=by
 cases b <;> simp only [Q76,cond_true,cond_false]
 ·cases (c.kind==10) <;> simp [Cmd.sz,Cmd.szN,Shape.szN,zB,ByteArray.size]
 ·simp [Cmd.sz,Cmd.szN,Shape.szN,zB,ByteArray.size]
theorem Qs6 (c:Cmd) (b:Bool):(QO4 c b).sz:=by
 cases b <;> simp only [QO4,cond_true,cond_false]
 ·cases (c.kind==5) <;> simp only [cond_true,cond_false]
  ·cases (c.kind==6) <;> simp only [cond_true,cond_false]
   ·cases (c.kind==7) <;> simp only [cond_true,cond_false]
    ·cases (c.kind==8) <;> simp only [cond_true,cond_false] <;> exact Qfa _ _
    ·exact Qfa _ _
   ·simp [Cmd.sz,Cmd.szN,Shape.szN,zB,ByteArray.size]
  ·simp [Cmd.sz,Cmd.szN,Shape.szN,zB,ByteArray.size]
 ·simp [Cmd.sz,Cmd.szN,Shape.szN,zB,ByteArray.size]
theorem cmd_bare_sz (c:Cmd) (h:c.sz):(QG8 c).sz:=by
 unfold QG8;cases (c.kind==1) <;> simp only [cond_true,cond_false]
 ·cases (c.kind==2) <;> simp only [cond_true,cond_false]
  ·cases (c.kind==3) <;> simp only [cond_true,cond_false]
   ·cases (c.kind==4) <;> simp only [cond_true,cond_false]
    ·cases (c.kind==11) <;> simp only [cond_true,cond_false] <;> exact Qs6 _ _
    ·exact Qs6 _ _
   ·exact Qs6 _ _
  ·exact Qs6 _ _
 ·exact h
def QA0 (v:Job):Cmd:=(⟨1,0,v.name,v.user,v.account,v.shape,v.prio,true,0,false,v.after,0,0,0⟩:Cmd)
theorem QJ6 (v:Job):GV 124 [Job.a v] (Cmd.a (QA0 v)):=by
 generalize hR:QA0 v=R;refine gA (kp 3 []) Tryz.func124 ?_;exact lfA
theorem QF4 (l:List Alt) (hs0:l.length<=4294967296):GV 178 [altL l] (altL l):=by
 refine AGives.any' (.cons lw .nil) lw (ACalls.of_cwp (fun _=>true) Tryz.func178 rfl rfl ?_);obtain z1:l.length<=4294967296:=hs0;intro b hb;refine ai (fun h1=>?_) (fun h2=>?_)
 ·have hl:l=[]:=by
   rcases l with _|⟨x,r⟩
   ·rfl
   ·exact absurd ((hb (by simp)).symm.trans h1) (by decide)
  subst hl;exact Qwd (fun r:List Alt=>altL r) (leaf:=[]) rfl lw Q00
 ·refine ⟨QB0 16 rfl apA,?_⟩;exact Qwd (fun r:List Alt=>altL r) (leaf:=l) rfl lw (Qa0 zA _ rfl eqA lnA)
theorem QDb (l:List Alt) (hs0:l.length<=4294967296):AMoves Tryz.prog 178 [altL l] [] 0 (AVal.own 0 0 2 0 l.length) [(0,AObj.row 103 2 (l.map Alt.cells))]:=by
 refine AMoves.of_cwp (fun _=>true) Tryz.func178 rfl rfl rfl ?_;obtain z1:l.length<=4294967296:=hs0;intro b hb;refine ai (fun h1=>?_) (fun h2=>?_)
 ·have hl:l=[]:=by
   rcases l with _|⟨x,r⟩
   ·rfl
   ·exact absurd ((hb (by simp)).symm.trans h1) (by decide)
  subst hl;refine Qs0 (fun r:List Alt=>AVal.own 0 0 2 0 r.length) (fun r:List Alt=>[(0,AObj.row 103 2 (r.map Alt.cells))]) (leaf:=[]) rfl ?_;exact Told.pad 103 2 (Qb3 [0] rfl (by decide) (tO rfl (tl eqA) .nil) (Q25 0 rfl))
 ·refine ⟨QB0 16 rfl apA,?_⟩;refine Qs0 (fun r:List Alt=>AVal.own 0 0 2 0 r.length) (fun r:List Alt=>[(0,AObj.row 103 2 (r.map Alt.cells))]) (leaf:=l) rfl ?_;exact Qb3 [0] rfl (by decide) (tO rfl (tl eqA) .nil) (to 0 lnA)
def oc1 (x_:Int):Int:=(wu64 ((wu64 (BitVec.ofInt 64 (Int.fdiv x_ (2 ^ (min (Int.toNat 1) 64))) &&& BitVec.ofInt 64 6148914691236517205).toNat)+(wu64 (BitVec.ofInt 64 x_ &&& BitVec.ofInt 64 6148914691236517205).toNat)))
def oc2 (x_:Int):Int:=(wu64 ((wu64 (BitVec.ofInt 64 (Int.fdiv x_ (2 ^ (min (Int.toNat 2) 64))) &&& BitVec.ofInt 64 3689348814741910323).toNat)+(wu64 (BitVec.ofInt 64 x_ &&& BitVec.ofInt 64 3689348814741910323).toNat)))
def oc3 (x_:Int):Int:=(wu64 (BitVec.ofInt 64 (wu64 ((Int.fdiv x_ (2 ^ (min (Int.toNat 4) 64)))+x_)) &&& BitVec.ofInt 64 1085102592571150095).toNat)
def QU6 (x_:Int):Int:=(w64 (BitVec.ofInt 64 (w64 (wu64 ((wu64 ((wu64 ((oc3 (oc2 (oc1 x_)))+(Int.fdiv (oc3 (oc2 (oc1 x_))) (2 ^ (min (Int.toNat 8) 64)))))+(Int.fdiv (wu64 ((oc3 (oc2 (oc1 x_)))+(Int.fdiv (oc3 (oc2 (oc1 x_))) (2 ^ (min (Int.toNat 8) 64))))) (2 ^ (min (Int.toNat 16) 64)))))+(Int.fdiv (wu64 ((wu64 ((oc3 (oc2 (oc1 x_)))+(Int.fdiv (oc3 (oc2 (oc1 x_))) (2 ^ (min (Int.toNat 8) 64)))))+(Int.fdiv (wu64 ((oc3 (oc2 (oc1 x_)))+(Int.fdiv (oc3 (oc2 (oc1 x_))) (2 ^ (min (Int.toNat 8) 64))))) (2 ^ (min (Int.toNat 16) 64))))) (2 ^ (min (Int.toNat 32) 64)))))) &&& BitVec.ofInt 64 127).toNat)
theorem Q0b (x_:Int):GV 106 [U x_] (I (QU6 x_)):=by
 generalize hR:QU6 x_=R;refine gA (kp 3 []) Tryz.func106 ?_;refine ai gkA ?_;refine ai gkA ?_;refine ai gkA ?_;refine ai gkA ?_;refine ai gkA ?_;refine ai gkA ?_;exact lfA
def QD3 (n:Int):Int:=(wu64 (1*2 ^ (min ((wu64 n).toNat) 64)))
theorem QW5 (n:Int):GV 82 [I n] (U (QD3 n)):=by
 generalize hR:QD3 n=R;refine gA (kp 3 []) Tryz.func82 ?_;refine ai gkA ?_;exact lfA
def Qj5 (state:Int):Bool:=((decide (state >= 3))&&(decide (state<=7)))
theorem Qhe (state:Int):GV 129 [I state] (Bo (Qj5 state)):=by
 generalize hR:Qj5 state=R;refine gA (kp 3 []) Tryz.func129 ?_;exact lfA
def QZ3 (f:Node->Bool):List Node->Nat->Int
 | [],_=>(-1)
 | x_ :: r,i=>bif (f x_) then (i:Int) else QZ3 f r (i+1)
def Qm2 (s:List Node) (f:Node->Bool):Int:=QZ3 f s 0
def Q65 (n:Int):Bool:=((decide (n >= 0))&&(decide (n<=1000000)))
theorem Qw9 (n:Int):GV 88 [I n] (Bo (Q65 n)):=by
 generalize hR:Q65 n=R;refine gA (kp 3 []) Tryz.func88 ?_;exact lfA
def Qf3 (v:Int):List Int->Nat->Int
 | [],_=>(-1)
 | x_ :: r,i=>bif (v==x_) then (i:Int) else Qf3 v r (i+1)
def Q27 (s:List Int) (v:Int):Int:=Qf3 v s 0
theorem QGb (s:List Int) (v:Int) (hs0:s.length<=4294967296):GV 173 [ints s,I v] (I (Q27 s v)):=by
 generalize hR:Q27 s v=R;refine gA (kp 6 [7,8,9,16]) Tryz.func173 ?_;have hk0:=hs0;obtain z5:s.length<=4294967296:=hs0;refine Qk0 (fun (i:Nat)=>Qf3 v (List.drop i s) i=R∧i<=s.length) (fun i=>s.length - i) (fun i=>[(0,ints s),(1,I v),(4,I 0),(7,I (s.length:Int)),(8,I (i:Int))]) (fun i=>[]) 0 (wkA []) ⟨foll hR rfl,by exact omA⟩ ?_;clear hR;rintro i ⟨hR,hj⟩;(try dsimp only at hR hj);apply ai<;>intro h1
 ·have hlt:=ltA h1;rw [Qd0 0 hlt] at hR;refine ai gkA ?_;apply ai<;>intro h3
  ·exact lfA
  ·exact Qr0 (i+1) (wkA []) omA ⟨folA,by exact omA⟩
 ·rw [Qh0 (l:=s) (j:=i) (geA h1)] at hR;exact lfA
def QGd (b:Book):Bool:=(((((((decide (b.id >= 1))&&(decide (b.id<=99999)))&&(decide (b.from_ >= 0)))&&(decide (b.to > b.from_)))&&(decide (b.to<=1000000)))&&(decide (b.nodes >= 1)))&&(decide (b.nodes<=48)))
theorem QHd (b:Book):GV 138 [Book.a b] (Bo (QGd b)):=by
 generalize hR:QGd b=R;refine gA (kp 3 []) Tryz.func138 ?_;exact lfA
def QT8 (s:ByteArray):Bool:=((decide ((ByteArray.size s:Int) >= 1))&&(decide ((ByteArray.size s:Int)<=64)))
theorem Qa7 (s:ByteArray):GV 76 [Sg s] (Bo (QT8 s)):=by
 generalize hR:QT8 s=R;refine gA (kp 3 []) Tryz.func76 ?_;exact lfA
def QI8 :List Int->Nat->Int
 | [],_=>0
 | x_ :: r,i=>bif (x_ != 0) then x_ else QI8 r (i+1)
def QZb (vals:List Int):Int:=QI8 vals 0
theorem QBc (vals:List Int) (hs0:vals.length<=4294967296):GV 140 [ints vals] (I (QZb vals)):=by
 generalize hR:QZb vals=R;refine gA (kp 6 [6,7,8,9,14]) Tryz.func140 ?_;have hk0:=hs0;obtain z5:vals.length<=4294967296:=hs0;refine Qk0 (fun (i:Nat)=>QI8 (List.drop i vals) i=R∧i<=vals.length) (fun i=>vals.length - i) (fun i=>[(2,I 0),(3,I 0),(6,ints vals),(7,I (vals.length:Int)),(8,I (i:Int))]) (fun i=>[]) 0 (wkA []) ⟨foll hR rfl,by exact omA⟩ ?_;clear hR;rintro i ⟨hR,hj⟩;(try dsimp only at hR hj);apply ai<;>intro h1
 ·have hlt:=ltA h1;rw [Qd0 0 hlt] at hR;refine ai gkA ?_;apply ai<;>intro h3
  ·exact lfA
  ·exact Qr0 (i+1) (wkA []) omA ⟨folA,by exact omA⟩
 ·rw [Qh0 (l:=vals) (j:=i) (geA h1)] at hR;exact lfA
def Q94 (x_:ByteArray):Bool:=(!(ByteArray.toList x_==ByteArray.toList x_))
theorem QK7 (x_:ByteArray):GV 194 [Sg x_] (Bo (Q94 x_)):=by
 generalize hR:Q94 x_=R;refine gA (kp 3 []) Tryz.func194 ?_;exact lfA
def Qm7 (n:Int) (last:Int):Bool:=(((decide (n >= 1))&&(decide (n<=100000)))&&(decide (n > last)))
theorem Q2d (n:Int) (last:Int):GV 20 [I n,I last] (Bo (Qm7 n last)):=by
 generalize hR:Qm7 n last=R;refine gA (kp 5 []) Tryz.func20 ?_;exact lfA
def Qgc (kind:Int):Bool:=((decide (kind >= 1))&&(decide (kind<=14)))
theorem note_known_c (kind:Int):GV 46 [I kind] (Bo (Qgc kind)):=by
 generalize hR:Qgc kind=R;refine gA (kp 3 []) Tryz.func46 ?_;exact lfA
def QK9 (kind:Int):Bool:=((decide (kind >= 1))&&(decide (kind<=6)))
theorem note_Down_c (kind:Int):GV 24 [I kind] (Bo (QK9 kind)):=by
 generalize hR:QK9 kind=R;refine gA (kp 3 []) Tryz.func24 ?_;exact lfA
def Qwc (l:List Node):(List Node):=l
theorem QG7 (l:List Node) (hs0:l.length<=4294967296):AMoves Tryz.prog 49 [nodeL l] [] 0 (AVal.own 0 0 7 0 l.length) [(0,AObj.row 40 7 (l.map Node.cells))]:=by
 generalize hR:Qwc l=R;refine mo (kp 3 []) Tryz.func49 ?_;have hk0:=hs0;obtain z1:l.length<=4294967296:=hs0;(first|refine ⟨Qd1 56 rfl lnA apA,?_⟩|refine ⟨QB0 56 rfl apA,?_⟩);obtain rfl:=foll hR rfl;exact rq (ttA [0])
def Qnd (l:List Job):(List Job):=l
theorem Q28 (l:List Job) (hs0:l.length<=4294967296∧(∀ y ∈ l,y.sz)):AMoves Tryz.prog 50 [jobL l] [] 0 (AVal.own 0 0 20 0 l.length) [(0,AObj.row 55 20 (l.map Job.cells))]:=by
 generalize hR:Qnd l=R;refine mo (kp 3 []) Tryz.func50 ?_;obtain ⟨z1,z2⟩:=id hs0;(first|refine ⟨Qd1 216 rfl lnA apA,?_⟩|refine ⟨QB0 216 rfl apA,?_⟩);obtain rfl:=foll hR rfl;exact rq (ttA [0])
def QSa (l:List Resize):(List Resize):=l
theorem QS6 (l:List Resize) (hs0:l.length<=4294967296):AMoves Tryz.prog 51 [Qh1 l] [] 0 (AVal.own 0 0 5 0 l.length) [(0,AObj.row 89 5 (l.map Resize.cells))]:=by
 generalize hR:QSa l=R;refine mo (kp 3 []) Tryz.func51 ?_;have hk0:=hs0;obtain z1:l.length<=4294967296:=hs0;(first|refine ⟨Qd1 40 rfl lnA apA,?_⟩|refine ⟨QB0 40 rfl apA,?_⟩);obtain rfl:=foll hR rfl;exact rq (ttA [0])
def Qvc (l:List Book):(List Book):=l
theorem QF7 (l:List Book) (hs0:l.length<=4294967296):AMoves Tryz.prog 52 [bookL l] [] 0 (AVal.own 0 0 4 0 l.length) [(0,AObj.row 57 4 (l.map Book.cells))]:=by
 generalize hR:Qvc l=R;refine mo (kp 3 []) Tryz.func52 ?_;have hk0:=hs0;obtain z1:l.length<=4294967296:=hs0;(first|refine ⟨Qd1 32 rfl lnA apA,?_⟩|refine ⟨QB0 32 rfl apA,?_⟩);obtain rfl:=foll hR rfl;exact rq (ttA [0])
def QIb (l:List Usage):(List Usage):=l
theorem Q77 (l:List Usage) (hs0:l.length<=4294967296∧(∀ y ∈ l,y.sz)):AMoves Tryz.prog 53 [Qt1 l] [] 0 (AVal.own 0 0 4 0 l.length) [(0,AObj.row 86 4 (l.map Usage.cells))]:=by
 generalize hR:QIb l=R;refine mo (kp 3 []) Tryz.func53 ?_;obtain ⟨z1,z2⟩:=id hs0;(first|refine ⟨Qd1 48 rfl lnA apA,?_⟩|refine ⟨QB0 48 rfl apA,?_⟩);obtain rfl:=foll hR rfl;exact rq (ttA [0])
def Qld (l:List Alt):(List Alt):=l
theorem QI4 (l:List Alt) (hs0:l.length<=4294967296):GV 54 [altL l] (altL l):=by
 generalize hR:Qld l=R;refine gA (kp 3 []) Tryz.func54 ?_;have hk0:=hs0;obtain z1:l.length<=4294967296:=hs0;(first|refine ⟨Qd1 16 rfl lnA apA,?_⟩|refine ⟨QB0 16 rfl apA,?_⟩);obtain rfl:=foll hR rfl;exact Q60 lw (Qa0 zA _ rfl eqA lnA)
def Qmd (l:List Dep):(List Dep):=l
theorem QJ4 (l:List Dep) (hs0:l.length<=4294967296):GV 55 [depL l] (depL l):=by
 generalize hR:Qmd l=R;refine gA (kp 3 []) Tryz.func55 ?_;have hk0:=hs0;obtain z1:l.length<=4294967296:=hs0;(first|refine ⟨Qd1 16 rfl lnA apA,?_⟩|refine ⟨QB0 16 rfl apA,?_⟩);obtain rfl:=foll hR rfl;exact Q60 lw (Qa0 zC _ rfl eqA lnA)
def Q85 (ok:Bool):Int:=bif (!ok) then 141 else 0
theorem Q8c (ok:Bool):GV 146 [Bo ok] (I (Q85 ok)):=by
 generalize hR:Q85 ok=R;refine gA (kp 3 [4]) Tryz.func146 ?_;apply ai<;>intro h1
 ·exact lfA
 ·exact lfA
theorem QG4 (l:List Dep) (hs0:l.length<=4294967296):GV 200 [depL l] (depL l):=by
 refine AGives.any' (.cons lw .nil) lw (ACalls.of_cwp (fun _=>true) Tryz.func200 rfl rfl ?_);obtain z3:l.length<=4294967296:=hs0;intro b hb;refine ai (fun h1=>?_) (fun h2=>?_)
 ·have hl:l=[]:=by
   rcases l with _|⟨x,r⟩
   ·rfl
   ·exact absurd ((hb (by simp)).symm.trans h1) (by decide)
  subst hl;exact Qwd (fun r:List Dep=>depL r) (leaf:=[]) rfl lw Q00
 ·refine ⟨QB0 16 rfl apA,?_⟩;exact Qwd (fun r:List Dep=>depL r) (leaf:=l) rfl lw (Qa0 zC _ rfl eqA lnA)
def Qn3 (i:Bool):Int:=bif i then 1 else 2
def QC4 (s:List (Int × Int)) (d:Dep):Int:=bif (!(getM d.job s).isSome) then 2 else bif (decide (((getM d.job s).getD 0)<3)) then 0 else bif (d.how==1) then Qn3 (d.how==1) else bif ((d.how==2)&&(((getM d.job s).getD 0)==3)) then Qn3 ((d.how==2)&&(((getM d.job s).getD 0)==3)) else Qn3 ((d.how==3)&&(((getM d.job s).getD 0)!=3))
theorem Q47 (s:List (Int × Int)) (d:Dep):AMoves Tryz.prog 159 [AVal.map 0,Dep.a d] [(0,AObj.other (.map (mapEs ik I 0 s) s.length))] 1 (I (QC4 s d)) [(0,AObj.other (.map (mapEs ik I 0 s) s.length))]:=by
 generalize hR:QC4 s d=R;refine mo (kj [1000009] 7 [14,17,20]) Tryz.func159 ?_;(first|refine ⟨_,_,Qc1 rfl _ _,QL0 (ek:=ik) d.job s 0 (AsA.refl _),?_⟩|refine ⟨_,fun _=>⟨_,_,Qc1 rfl _ _,QL0 (ek:=ik) d.job s 0 (AsA.refl _),rfl,rfl⟩,?_⟩|refine ⟨_,rfl,⟨_,_,Qc1 rfl _ _,QL0 (ek:=ik) d.job s 0 (AsA.refl _),Sub.refl _,rfl⟩,?_⟩);apply ai<;>intro h1
 ·obtain rfl:=foll hR (ct h1 rfl);exact rq (ttA [0])
 ·apply ai<;>intro h3
  ·have qh3:=yca h3;obtain rfl:=foll hR (cf h1 (ct h3 rfl));exact rq (ttA [0])
  ·have qh3:=yja h3;refine Qu1 (fun (i:Bool)=>Qn3 i=R) (fun i=>[(4,I 0),(20,Bo i)]) (fun i=>[(0,AObj.other (.map (mapEs ik I 0 s) s.length))]) ?_ ?_
   ·clear hR;rintro i hR;(try dsimp only at hR);apply ai<;>intro h5
    ·obtain rfl:=foll hR (ct h5 rfl);exact rq (ttA [0])
    ·obtain rfl:=foll hR (cf h5 rfl);exact rq (ttA [0])
   ·apply ai<;>intro h7
    ·exact Qj0 (d.how==1) (wkA [0]) (foll hR (cf h1 (cf h3 (ct h7 rfl))))
    ·apply ai<;>intro h9
     ·exact Qj0 ((d.how==2)&&(((getM d.job s).getD 0)==3)) (wkA [0]) (foll hR (cf h1 (cf h3 (cf h7 (ct h9 rfl)))))
     ·exact Qj0 ((d.how==3)&&(((getM d.job s).getD 0)!=3)) (wkA [0]) (foll hR (cf h1 (cf h3 (cf h7 (cf h9 rfl)))))
def Qz0 (x_:List Job) (target:Int) (cmp:Job->Int->Int):Nat->Int->Int->Int × Int
 | 0,_,_=>(0,0)
 | m+1,i,j=>bif (decide (i<j)) then bif (decide ((cmp (x_.getD ((w64 (Int.fdiv (wu64 (w64 (i+j))) (2 ^ (min (Int.toNat 1) 64)))).toNat) zG) target)<0)) then Qz0 x_ target cmp m (w64 ((w64 (Int.fdiv (wu64 (w64 (i+j))) (2 ^ (min (Int.toNat 1) 64))))+1)) j else Qz0 x_ target cmp m i (w64 (Int.fdiv (wu64 (w64 (i+j))) (2 ^ (min (Int.toNat 1) 64)))) else (i,j)
def Qa1 (x_:List Job) (target:Int) (cmp:Job->Int->Int) (i:Int) (j:Int):Int × Bool:=(i,((decide (i<(x_.length:Int)))&&((cmp (x_.getD (i.toNat) zG) target)==0)))
def QS0 (x_:List Job) (target:Int) (cmp:Job->Int->Int):Int × Bool:=Qa1 x_ target cmp ((Qz0 x_ target cmp ((((x_.length:Int) - 0).toNat)+1) 0 (x_.length:Int)).1) ((Qz0 x_ target cmp ((((x_.length:Int) - 0).toNat)+1) 0 (x_.length:Int)).2)
def Qqd (l:List Job):(List Job):=l
theorem Q78 (l:List Job) (hs0:l.length<=4294967296∧(∀ y ∈ l,y.sz)):AMoves Tryz.prog 132 [jobL l] [] 0 (AVal.own 0 0 20 0 l.length) [(0,AObj.row 55 20 (l.map Job.cells))]:=by
 generalize hR:Qqd l=R;refine mo (kp 3 []) Tryz.func132 ?_;obtain ⟨z1,z2⟩:=id hs0;refine ai gkA ?_;(first|refine ⟨Qd1 216 rfl lnA apA,?_⟩|refine ⟨QB0 216 rfl apA,?_⟩);obtain rfl:=foll hR rfl;exact rq (ttA [0])
def Qod (l:List Alt):(List Alt):=l
theorem QKb (l:List Alt) (hs0:l.length<=4294967296):GV 133 [altL l] (altL l):=by
 generalize hR:Qod l=R;refine gA (kp 3 []) Tryz.func133 ?_;have hk0:=hs0;obtain z1:l.length<=4294967296:=hs0;refine ai gkA ?_;(first|refine ⟨Qd1 16 rfl lnA apA,?_⟩|refine ⟨QB0 16 rfl apA,?_⟩);obtain rfl:=foll hR rfl;exact Q60 lw (Qa0 zA _ rfl eqA lnA)
def Qpd (l:List Dep):(List Dep):=l
theorem QLb (l:List Dep) (hs0:l.length<=4294967296):GV 134 [depL l] (depL l):=by
 generalize hR:Qpd l=R;refine gA (kp 3 []) Tryz.func134 ?_;have hk0:=hs0;obtain z1:l.length<=4294967296:=hs0;refine ai gkA ?_;(first|refine ⟨Qd1 16 rfl lnA apA,?_⟩|refine ⟨QB0 16 rfl apA,?_⟩);obtain rfl:=foll hR rfl;exact Q60 lw (Qa0 zC _ rfl eqA lnA)
def QH3 (id_:Int):Bool:=((decide (id_ >= 1))&&(decide (id_<=99999)))
theorem table_known_c (id_:Int):GV 70 [I id_] (Bo (QH3 id_)):=by
 generalize hR:QH3 id_=R;refine gA (kp 3 []) Tryz.func70 ?_;exact lfA
theorem Q36 (l:List Job) (hs0:l.length<=4294967296∧(∀ y ∈ l,y.sz)):AMoves Tryz.prog 199 [jobL l] [] 0 (AVal.own 0 0 20 0 l.length) [(0,AObj.row 55 20 (l.map Job.cells))]:=by
 refine AMoves.of_cwp (fun _=>true) Tryz.func199 rfl rfl rfl ?_;obtain ⟨z16,z17⟩:=id hs0;intro b hb;refine ai (fun h1=>?_) (fun h2=>?_)
 ·have hl:l=[]:=by
   rcases l with _|⟨x,r⟩
   ·rfl
   ·exact absurd ((hb (by simp)).symm.trans h1) (by decide)
  subst hl;refine Qs0 (fun r:List Job=>AVal.own 0 0 20 0 r.length) (fun r:List Job=>[(0,AObj.row 55 20 (r.map Job.cells))]) (leaf:=[]) rfl ?_;exact Told.pad 55 20 (Qb3 [0] rfl (by decide) (tO rfl (tl eqA) .nil) (Q25 0 rfl))
 ·refine ⟨QB0 216 rfl apA,?_⟩;refine Qs0 (fun r:List Job=>AVal.own 0 0 20 0 r.length) (fun r:List Job=>[(0,AObj.row 55 20 (r.map Job.cells))]) (leaf:=l) rfl ?_;exact Qb3 [0] rfl (by decide) (tO rfl (tl eqA) .nil) (to 0 lnA)
def QR7 (n:Int):Bool:=((decide (n >= (-1000000)))&&(decide (n<=1000000)))
theorem Qd8 (n:Int):GV 208 [I n] (Bo (QR7 n)):=by
 generalize hR:QR7 n=R;refine gA (kp 3 []) Tryz.func208 ?_;exact lfA
def Qk6 (t:Int):Bool:=((decide (t >= 0))&&(decide (t<=1000000)))
theorem QVc (t:Int):GV 207 [I t] (Bo (Qk6 t)):=by
 generalize hR:Qk6 t=R;refine gA (kp 3 []) Tryz.func207 ?_;exact lfA
theorem Qwb {t n:Int} {b:Bool} (h:(((!(Qk6 t))||(decide (n<t)))||b)=false):0<=t:=by
 simp [Qk6] at h;omega
theorem QQa (l:List Step) (hs0:l.length<=4294967296):AMoves Tryz.prog 209 [stepL l] [] 0 (AVal.own 0 0 2 0 l.length) [(0,AObj.row 255 2 (l.map Step.cells))]:=by
 refine AMoves.of_cwp (fun _=>true) Tryz.func209 rfl rfl rfl ?_;obtain z1:l.length<=4294967296:=hs0;intro b hb;refine ai (fun h1=>?_) (fun h2=>?_)
 ·have hl:l=[]:=by
   rcases l with _|⟨x,r⟩
   ·rfl
   ·exact absurd ((hb (by simp)).symm.trans h1) (by decide)
  subst hl;refine Qs0 (fun r:List Step=>AVal.own 0 0 2 0 r.length) (fun r:List Step=>[(0,AObj.row 255 2 (r.map Step.cells))]) (leaf:=[]) rfl ?_;exact Told.pad 255 2 (Qb3 [0] rfl (by decide) (tO rfl (tl eqA) .nil) (Q25 0 rfl))
 ·refine ⟨QB0 16 rfl apA,?_⟩;refine Qs0 (fun r:List Step=>AVal.own 0 0 2 0 r.length) (fun r:List Step=>[(0,AObj.row 255 2 (r.map Step.cells))]) (leaf:=l) rfl ?_;exact Qb3 [0] rfl (by decide) (tO rfl (tl eqA) .nil) (to 0 lnA)
def Qm1 (at_:Int) (free:Int) (out:List Step):List Step:=bif (((out.length:Int)==0)||((out.getD ((w64 ((out.length:Int) - 1)).toNat) zE).free != free)) then (out++([(⟨at_,free⟩:Step)]:List Step)) else out
theorem Qk3 (at_:Int) (free:Int) (out:List Step) (hs0:out.length<=4294967296):AMoves Tryz.prog 210 [I at_,I free,AVal.ptr 0 0 1 0 0] [(0,AObj.row 207 1 [[AVal.own 1 0 2 0 out.length]]),(0,AObj.row 255 2 (out.map Step.cells))] 1 (AVal.tup []) [(0,AObj.row 207 1 [[AVal.own 1 0 2 0 (Qm1 at_ free out).length]]),(0,AObj.row 255 2 ((Qm1 at_ free out).map Step.cells))]:=by
 generalize hR:Qm1 at_ free out=R;refine mo (kp 6 [19]) Tryz.func210 ?_;have hk0:=hs0;obtain z3:out.length<=4294967296:=hs0;refine ai gkA ?_;refine ⟨_,fun hg=>Qf0 rfl rfl rfl (Qo0 zE ((w64 ((out.length:Int) - 1)).toNat) (by first|rfl|exact yda _|omega) ckA) rfl,?_⟩;apply ai<;>intro h1
 ·refine Or.inl ?_;(first|refine ⟨Qd1 16 rfl lnA apA,?_⟩|refine ⟨QB0 16 rfl apA,?_⟩);obtain rfl:=foll hR (ct h1 rfl);exact rq (ttA [0,1])
 ·obtain rfl:=foll hR (cf h1 rfl);exact rq (ttA [0,1])
theorem Qt3 (a f:Int) (out:List Step):(Qm1 a f out).length<=out.length+1:=by
 unfold Qm1;cases (((out.length:Int)==0)||((out.getD ((w64 ((out.length:Int) - 1)).toNat) zE).free != f)) with
 | true=>simp
 | false=>simp
def Qn1 (f:Int->Bool):Nat->Int->Int->Int × Int
 | 0,_,_=>(0,0)
 | m+1,i,j=>bif (decide (i<j)) then bif (!(f (w64 (Int.fdiv (wu64 (w64 (i+j))) (2 ^ (min (Int.toNat 1) 64)))))) then Qn1 f m (w64 ((w64 (Int.fdiv (wu64 (w64 (i+j))) (2 ^ (min (Int.toNat 1) 64))))+1)) j else Qn1 f m i (w64 (Int.fdiv (wu64 (w64 (i+j))) (2 ^ (min (Int.toNat 1) 64)))) else (i,j)
def Qu4 (i:Int) (j:Int):Int:=i
def Q42 (n:Int) (f:Int->Bool):Int:=Qu4 ((Qn1 f (((n - 0).toNat)+1) 0 n).1) ((Qn1 f (((n - 0).toNat)+1) 0 n).2)
theorem Qi8 (f:Int->Bool) {N:Nat} (hN:N<=4294967296):∀ (m:Nat) (i j:Int),0<=i->i<=j->j<=N->(j - i).toNat<m->i<=(Qn1 f m i j).1∧(Qn1 f m i j).1<=j∧(i<(Qn1 f m i j).1->f ((Qn1 f m i j).1 - 1)=false)∧((Qn1 f m i j).1<j->f (Qn1 f m i j).1=true)
 | 0,_,_,_,_,_,hm=>absurd hm (yPb _)
 | m+1,i,j,h0,hij,hj,hm=>by
  unfold Qn1;cases hc:decide (i<j) with
  | false =>
   have:=yja hc;simp only [cond_false];exact ⟨yxb _,by omega,fun h=>absurd h oA,fun h=>absurd h oA⟩
  | true =>
   have hlt:=yca hc;have hh:w64 (Int.fdiv (wu64 (w64 (i+j))) (2 ^ (min (Int.toNat 1) 64)))=(i+j) / 2:=QHa h0 hlt hj oA;have hw:w64 ((i+j) / 2+1)=(i+j) / 2+1:=wr oA;simp only [cond_true,hh,hw];cases hf:f ((i+j) / 2) with
   | false =>
    simp only [Bool.not_false,cond_true];obtain ⟨a,b,c,d⟩:=Qi8 f hN m ((i+j) / 2+1) j oA oA hj oA;refine ⟨by omega,b,fun _=>?_,d⟩
    by_cases h:(i+j) / 2+1<(Qn1 f m ((i+j) / 2+1) j).1
    ·exact c h
    ·rw [show (Qn1 f m ((i+j) / 2+1) j).1 - 1=(i+j) / 2 by omega];exact hf
   | true =>
    simp only [yHb,cond_false];obtain ⟨a,b,c,d⟩:=Qi8 f hN m i ((i+j) / 2) h0 oA oA oA;refine ⟨a,by omega,c,fun h=>?_⟩
    by_cases h2:(Qn1 f m i ((i+j) / 2)).1<(i+j) / 2
    ·exact d h2
    ·rw [show (Qn1 f m i ((i+j) / 2)).1=(i+j) / 2 by omega];exact hf
theorem Qjd (f:Int->Bool) {N:Nat} (hN:N<=4294967296):0<=Q42 (N:Int) f∧Q42 (N:Int) f<=N∧(0<Q42 (N:Int) f->f (Q42 (N:Int) f - 1)=false)∧(Q42 (N:Int) f<N->f (Q42 (N:Int) f)=true) :=
 Qi8 f hN _ 0 N (yxb _) oA (yxb _) oA
def QW4 (n:Int):(List Step):=([(⟨0,(min (max n (-1000000)) 1000000)⟩:Step)]:List Step)
theorem profile_Flat_c (n:Int):GV 240 [I n] (stepL (QW4 n)):=by
 generalize hR:QW4 n=R;refine gA (kp 3 []) Tryz.func240 ?_;refine Or.inl ?_;obtain rfl:=foll hR rfl;exact Q60 lw (seen_as (QK5 (c:=Step.cells) (d:=zE) ([(⟨0,(min (max n (-1000000)) 1000000)⟩:Step)]:List Step) rfl))
def Qy6 :List Job->Nat->List (Int × Int)->(List (Int × Int))
 | [],_,c=>c
 | x_ :: r,i,c=>bif (x_.state==2) then Qy6 r (i+1) (setM x_.id x_.limit c) else Qy6 r (i+1) c
def Qp4 (c:List (Int × Int)):(List (Int × Int)):=c
def QO0 (l:List Job):(List (Int × Int)):=Qp4 (Qy6 l 0 [])
theorem room_limits_o (l:List Job) (hs0:l.length<=4294967296∧(∀ y ∈ l,y.sz)):AMoves Tryz.prog 242 [jobL l] [] 0 (AVal.map 0) [(0,AObj.other (.map (mapEs ik I 0 (QO0 l)) (QO0 l).length))]:=by
 generalize hR:QO0 l=R;refine mo (kp 6 [7,8,9,10,15]) Tryz.func242 ?_;obtain ⟨z10,z11⟩:=id hs0;refine Qu0 (fun (i:Nat) (c:List (Int × Int))=>Qp4 (Qy6 (List.drop i l) i c)=R∧i<=l.length) (fun i c=>l.length - i) (fun i c=>[(2,AVal.lit (.map none)),(3,AVal.map 0),(7,jobL l),(8,I (l.length:Int)),(9,I (i:Int))]) (fun i c=>[(0,AObj.other (.map (mapEs ik I 0 c) c.length))]) 0 [] (wkA [0]) ⟨foll hR rfl,by exact omA⟩ ?_;clear hR;rintro i c ⟨hR,hj⟩;(try dsimp only at hR hj);apply ai<;>intro h1
 ·have hlt:=ltA h1;rw [Qd0 zG hlt] at hR;have hxz:(l.getD i zG).sz:=QB1 (by first|assumption|grind) (Job.szz _);have hkz:=hxz;obtain ⟨z3,z4,z5,z6,z7⟩:=Job.zz hxz;refine ai gkA ?_;apply ai<;>intro h8
  ·refine ⟨_,_,Qc1 rfl _ _,Qx6 (ek:=ik) ((l.getD i zG).id) ((l.getD i zG).limit) c rfl rfl,?_⟩;exact Qc0 (i+1) (setM (l.getD i zG).id (l.getD i zG).limit c) (wkA [0]) omA ⟨foll hR (congrArg (fun p:(List (Int × Int))=>Qp4 p) (ct h8 rfl)),by exact omA⟩
  ·exact Qc0 (i+1) c (wkA [0]) omA ⟨foll hR (congrArg (fun p:(List (Int × Int))=>Qp4 p) (cf h8 rfl)),by exact omA⟩
 ·rw [Qh0 (l:=l) (j:=i) (geA h1)] at hR;replace hR:Qp4 c=R:=fo2 (fun p:(List (Int × Int))=>Qp4 p) (c) hR rfl;obtain rfl:=foll hR rfl;exact rq (ttA [0])
def Qr1 (x_:Node) (limits:List (Int × Int)):Int:=bif (((x_.state==0)||(x_.state==4))||x_.drain) then 0 else bif (x_.state==3) then (w64 (x_.since+12)) else bif (!(getM x_.job limits).isSome) then 1000001 else (w64 (((getM x_.job limits).getD 0)+12))
theorem room_until_c (x_:Node) (limits:List (Int × Int)):AMoves Tryz.prog 243 [Node.a x_,AVal.map 0] [(0,AObj.other (.map (mapEs ik I 0 limits) limits.length))] 1 (I (Qr1 x_ limits)) [(0,AObj.other (.map (mapEs ik I 0 limits) limits.length))]:=by
 generalize hR:Qr1 x_ limits=R;refine mo (kp 7 [7,20,35]) Tryz.func243 ?_;apply ai<;>intro h1
 ·obtain rfl:=foll hR (ct h1 rfl);exact rq (ttA [0])
 ·apply ai<;>intro h3
  ·obtain rfl:=foll hR (cf h1 (ct h3 rfl));exact rq (ttA [0])
  ·(first|refine ⟨_,_,Qc1 rfl _ _,QL0 (ek:=ik) x_.job limits 0 (AsA.refl _),?_⟩|refine ⟨_,fun _=>⟨_,_,Qc1 rfl _ _,QL0 (ek:=ik) x_.job limits 0 (AsA.refl _),rfl,rfl⟩,?_⟩|refine ⟨_,rfl,⟨_,_,Qc1 rfl _ _,QL0 (ek:=ik) x_.job limits 0 (AsA.refl _),Sub.refl _,rfl⟩,?_⟩);apply ai<;>intro h5
   ·obtain rfl:=foll hR (cf h1 (cf h3 (ct h5 rfl)));exact rq (ttA [0])
   ·obtain rfl:=foll hR (cf h1 (cf h3 (cf h5 rfl)));exact rq (ttA [0])
def Qq8 (n:Int) (from_:Int) (to_:Int):Bool:=((decide (n >= from_))&&(decide (n<=to_)))
theorem Qs9 (n:Int) (from_:Int) (to_:Int):GV 247 [I n,I from_,I to_] (Bo (Qq8 n from_ to_)):=by
 generalize hR:Qq8 n from_ to_=R;refine gA (kp 7 []) Tryz.func247 ?_;exact lfA
def QX2 :List Note->List Out->Nat->(List Out)
 | [],out,_=>out
 | x_ :: r,out,i=>QX2 r (out++([(⟨2,⟨#[]⟩,x_,0,0,false⟩:Out)]:List Out)) (i+1)
def QM5 (out:List Out):(List Out):=out
def Q11 (l:List Note):(List Out):=QM5 (QX2 l [] 0)
theorem QK1 (l:List Note) (hs0:l.length<=4294967296):GV 61 [noteL l] (outL (Q11 l)):=by
 generalize hR:Q11 l=R;refine gA (kp 6 [6,7,8,9]) Tryz.func61 ?_;have hk0:=hs0;obtain z3:l.length<=4294967296:=hs0;refine Qu0 (fun (out:List Out) (i:Nat)=>QM5 (QX2 (List.drop i l) out i)=R∧i<=l.length∧out.length<=i) (fun out i=>l.length - i) (fun out i=>[(2,AVal.lit (.slice none 0 0)),(3,AVal.own 0 0 9 0 out.length),(6,noteL l),(7,I (l.length:Int)),(8,I (i:Int))]) (fun out i=>[(0,AObj.row 71 9 (out.map Out.cells))]) [] 0 ((QA1 71 9).trans (wkA [0])) ⟨foll hR rfl,by exact omA,by exact exA⟩ ?_;clear hR;rintro out i ⟨hR,hj,hx⟩;(try dsimp only at hR hj hx);apply ai<;>intro h1
 ·have hlt:=ltA h1;rw [Qd0 zL hlt] at hR;refine ai gkA ?_;refine Or.inl ?_;(first|refine ⟨Qd1 80 rfl lnA apA,?_⟩|refine ⟨QB0 80 rfl apA,?_⟩);exact Qc0 (out++([(⟨2,⟨#[]⟩,(l.getD i zL),0,0,false⟩:Out)]:List Out)) (i+1) (wkA [0]) omA ⟨foll hR (congrArg (fun p:(List Out)=>QM5 p) rfl),by exact omA,by exact exA⟩
 ·rw [Qh0 (l:=l) (j:=i) (geA h1)] at hR;replace hR:QM5 out=R:=fo2 (fun p:(List Out)=>QM5 p) (out) hR rfl;obtain rfl:=foll hR rfl;exact Q60 lw (Qa0 zM _ rfl eqA lnA)
def Qv9 (x_:Node) (i2:Bool):Bool:=bif i2 then (x_.state != 4) else false
def Qu9 (x_:Node) (act:Int) (i1:Bool):Bool:=bif i1 then ((x_.state==1)||(x_.state==2)) else bif (act==5) then ((x_.state==1)&&(x_.want==0)) else bif (act==6) then ((x_.state==1)&&(x_.want==4)) else bif (act==8) then (x_.state==3) else bif (act==9) then ((x_.state != 4)&&(decide (x_.epoch<999999999))) else bif (act==10) then (x_.state==4) else bif (act==11) then ((x_.state==4)&&(x_.want==6)) else bif (act==12) then Qv9 x_ (act==12) else Qv9 x_ (act==13)
def Qt9 (x_:Node) (act:Int) (job:Int) (i:Bool):Bool:=bif i then (((((x_.state==0)&&(!x_.drain))&&(decide (x_.epoch<999999999)))&&(decide (job >= 1)))&&(decide (job<=99999))) else bif (act==3) then (x_.state==2) else bif (act==4) then Qu9 x_ act (act==4) else Qu9 x_ act (act==7)
def Qu7 (x_:Node) (act:Int) (job:Int):Bool:=bif (act==1) then Qt9 x_ act job (act==1) else Qt9 x_ act job (act==2)
theorem fleet_may_c (x_:Node) (act:Int) (job:Int):GV 89 [Node.a x_,I act,I job] (Bo (Qu7 x_ act job)):=by
 generalize hR:Qu7 x_ act job=R;refine gA (kj [1000005,1000010,1000025] 8 [16,17,41,46,50,60,70,75,85,90,100]) Tryz.func89 ?_;refine Qu1 (fun (i:Bool)=>Qt9 x_ act job i=R) (fun i=>[(2,I job),(3,AVal.ptr 0 0 7 0 0),(6,Bo false),(7,Bo ((x_.state==1)||(x_.state==2))),(16,I act),(17,Bo i)]) (fun i=>[(0,AObj.row 40 7 [[I x_.state,I x_.job,I x_.epoch,Bo x_.drain,I x_.want,I x_.since,I x_.asked]])]) ?_ ?_
 ·clear hR;rintro i hR;(try dsimp only at hR);apply ai<;>intro h1
  ·exact lfA
  ·apply ai<;>intro h3
   ·exact lfA
   ·refine Qu1 (fun (i1:Bool)=>Qu9 x_ act i1=R) (fun i1=>[(3,AVal.ptr 0 0 7 0 0),(6,Bo false),(7,Bo ((x_.state==1)||(x_.state==2))),(16,I act),(46,Bo i1)]) (fun i1=>[(0,AObj.row 40 7 [[I x_.state,I x_.job,I x_.epoch,Bo x_.drain,I x_.want,I x_.since,I x_.asked]])]) ?_ ?_
    ·clear hR;rintro i1 hR;(try dsimp only at hR);apply ai<;>intro h5
     ·exact lfA
     ·apply ai<;>intro h7
      ·exact lfA
      ·apply ai<;>intro h9
       ·exact lfA
       ·apply ai<;>intro h11
        ·exact lfA
        ·apply ai<;>intro h13
         ·exact lfA
         ·apply ai<;>intro h15
          ·exact lfA
          ·apply ai<;>intro h17
           ·exact lfA
           ·refine Qu1 (fun (i2:Bool)=>Qv9 x_ i2=R) (fun i2=>[(3,AVal.ptr 0 0 7 0 0),(6,Bo false),(100,Bo i2)]) (fun i2=>[(0,AObj.row 40 7 [[I x_.state,I x_.job,I x_.epoch,Bo x_.drain,I x_.want,I x_.since,I x_.asked]])]) ?_ ?_
            ·clear hR;rintro i2 hR;(try dsimp only at hR);apply ai<;>intro h19
             ·exact lfA
             ·exact lfA
            ·apply ai<;>intro h21
             ·exact Qj0 (act==12) (wkA [0]) (foll hR (cf h5 (cf h7 (cf h9 (cf h11 (cf h13 (cf h15 (cf h17 (ct h21 rfl)))))))))
             ·exact Qj0 (act==13) (wkA [0]) (foll hR (cf h5 (cf h7 (cf h9 (cf h11 (cf h13 (cf h15 (cf h17 (cf h21 rfl)))))))))
    ·apply ai<;>intro h23
     ·exact Qj0 (act==4) (wkA [0]) (foll hR (cf h1 (cf h3 (ct h23 rfl))))
     ·exact Qj0 (act==7) (wkA [0]) (foll hR (cf h1 (cf h3 (cf h23 rfl))))
 ·apply ai<;>intro h25
  ·exact Qj0 (act==1) (wkA [0]) (foll hR (ct h25 rfl))
  ·exact Qj0 (act==2) (wkA [0]) (foll hR (cf h25 rfl))
theorem QPa (l:List Node) (hs0:l.length<=4294967296):AMoves Tryz.prog 90 [nodeL l] [] 0 (AVal.own 0 0 7 0 l.length) [(0,AObj.row 40 7 (l.map Node.cells))]:=by
 refine AMoves.of_cwp (fun _=>true) Tryz.func90 rfl rfl rfl ?_;obtain z27:l.length<=4294967296:=hs0;intro b hb;refine ai (fun h1=>?_) (fun h2=>?_)
 ·have hl:l=[]:=by
   rcases l with _|⟨x,r⟩
   ·rfl
   ·exact absurd ((hb (by simp)).symm.trans h1) (by decide)
  subst hl;refine Qs0 (fun r:List Node=>AVal.own 0 0 7 0 r.length) (fun r:List Node=>[(0,AObj.row 40 7 (r.map Node.cells))]) (leaf:=[]) rfl ?_;exact Told.pad 40 7 (Qb3 [0] rfl (by decide) (tO rfl (tl eqA) .nil) (Q25 0 rfl))
 ·refine ⟨QB0 56 rfl apA,?_⟩;refine Qs0 (fun r:List Node=>AVal.own 0 0 7 0 r.length) (fun r:List Node=>[(0,AObj.row 40 7 (r.map Node.cells))]) (leaf:=l) rfl ?_;exact Qb3 [0] rfl (by decide) (tO rfl (tl eqA) .nil) (to 0 lnA)
def QO8 (x_:Node) (act:Int):Node:=bif (act==12) then bif (act==12) then { x_ with drain:=(act==12) } else x_ else bif (act==13) then { x_ with drain:=(act==12) } else x_
def QB5 (x_:Node) (act:Int) (job:Int) (now:Int):Node:=bif (act==1) then (⟨1,job,(w64 (x_.epoch+1)),x_.drain,1,now,now⟩:Node) else bif (act==2) then (⟨2,job,(w64 (x_.epoch+1)),x_.drain,2,now,now⟩:Node) else bif (act==3) then (⟨1,x_.job,x_.epoch,x_.drain,3,now,now⟩:Node) else bif (act==5) then { x_ with want:=4,since:=now,asked:=now } else bif (act==7) then (⟨3,x_.job,x_.epoch,x_.drain,5,now,now⟩:Node) else bif (act==9) then (⟨4,0,(w64 (x_.epoch+1)),x_.drain,0,x_.since,x_.asked⟩:Node) else bif (act==10) then { x_ with want:=6,since:=now,asked:=now } else bif (act==11) then (⟨0,0,x_.epoch,false,0,x_.since,x_.asked⟩:Node) else bif (act==8) then { x_ with state:=0,job:=0,want:=0 } else bif (act==4) then bif (act==4) then { x_ with want:=0 } else QO8 x_ act else bif (act==6) then { x_ with want:=0 } else QO8 x_ act
theorem fleet_done_c (x_:Node) (act:Int) (job:Int) (now:Int):GV 91 [Node.a x_,I act,I job,I now] (Node.a (QB5 x_ act job now)):=by
 generalize hR:QB5 x_ act job now=R;refine AGives.any' (.cons (Node.low _ _) (l1 (l1 (l1 .nil)))) (Node.low _ _) (ACalls.of_cwp (kj [1000014] 10 [11,12,14,16,18,20,22,24,26,28,30,33]) Tryz.func91 rfl rfl ?_);(conv=>whnf);refine And.intro (fun h1=>?_) (fun h2=>?_)
 ·(conv=>whnf);refine ACalls.of_cwp (fun _=>true) Tryz.func144 rfl rfl ?_;(conv=>whnf);refine dchk (by kernel_rfl) ?_;(conv=>whnf);(repeat ((first|refine And.intro rfl ?_|refine And.intro (fun _=>rfl) ?_);conv=>whnf));refine ⟨_,_,Told.refl,?_⟩;(conv=>whnf);exact lfA
 ·(conv=>whnf);refine And.intro (fun h3=>?_) (fun h4=>?_)
  ·(conv=>whnf);refine ACalls.of_cwp (fun _=>true) Tryz.func144 rfl rfl ?_;(conv=>whnf);refine dchk (by kernel_rfl) ?_;(conv=>whnf);(repeat ((first|refine And.intro rfl ?_|refine And.intro (fun _=>rfl) ?_);conv=>whnf));refine ⟨_,_,Told.refl,?_⟩;(conv=>whnf);exact lfA
  ·(conv=>whnf);refine And.intro (fun h5=>?_) (fun h6=>?_)
   ·(conv=>whnf);refine ACalls.of_cwp (fun _=>true) Tryz.func144 rfl rfl ?_;(conv=>whnf);refine dchk (by kernel_rfl) ?_;(conv=>whnf);(repeat ((first|refine And.intro rfl ?_|refine And.intro (fun _=>rfl) ?_);conv=>whnf));refine ⟨_,_,Told.refl,?_⟩;(conv=>whnf);exact lfA
   ·(conv=>whnf);refine And.intro (fun h7=>?_) (fun h8=>?_)
    ·(conv=>whnf);refine ACalls.of_cwp (fun _=>true) Tryz.func144 rfl rfl ?_;(conv=>whnf);refine dchk (by kernel_rfl) ?_;(conv=>whnf);(repeat ((first|refine And.intro rfl ?_|refine And.intro (fun _=>rfl) ?_);conv=>whnf));refine ⟨_,_,Told.refl,?_⟩;(conv=>whnf);exact lfA
    ·(conv=>whnf);refine And.intro (fun h9=>?_) (fun h10=>?_)
     ·(conv=>whnf);refine ACalls.of_cwp (fun _=>true) Tryz.func144 rfl rfl ?_;(conv=>whnf);refine dchk (by kernel_rfl) ?_;(conv=>whnf);(repeat ((first|refine And.intro rfl ?_|refine And.intro (fun _=>rfl) ?_);conv=>whnf));refine ⟨_,_,Told.refl,?_⟩;(conv=>whnf);exact lfA
     ·(conv=>whnf);refine And.intro (fun h11=>?_) (fun h12=>?_)
      ·(conv=>whnf);exact lfA
      ·(conv=>whnf);refine And.intro (fun h13=>?_) (fun h14=>?_)
       ·(conv=>whnf);refine ACalls.of_cwp (fun _=>true) Tryz.func144 rfl rfl ?_;(conv=>whnf);refine dchk (by kernel_rfl) ?_;(conv=>whnf);(repeat ((first|refine And.intro rfl ?_|refine And.intro (fun _=>rfl) ?_);conv=>whnf));refine ⟨_,_,Told.refl,?_⟩;(conv=>whnf);exact lfA
       ·(conv=>whnf);refine And.intro (fun h15=>?_) (fun h16=>?_)
        ·(conv=>whnf);exact lfA
        ·(conv=>whnf);refine And.intro (fun h17=>?_) (fun h18=>?_)
         ·(conv=>whnf);exact lfA
         ·(conv=>whnf);refine join_start (X:=Unit) (fun _=>QO8 x_ act  = R) (fun _=>[(1,I act),(2,I job),(4,AVal.ptr 0 0 7 0 0),(8,AVal.ptr 2 0 7 0 0),(9,AVal.fn (.func 144) [] [AVal.ptr 1 0 1 0 0,AVal.ptr 0 0 7 0 0]),(11,I act)]) (fun _=>[(0,AObj.row 40 7 [[I x_.state,I x_.job,I x_.epoch,Bo x_.drain,I x_.want,I x_.since,I x_.asked]]),(0,AObj.row 3 1 [[I now]]),(0,AObj.row 40 7 [[I 0,I 0,I 0,Bo false,I 0,I 0,I 0]])]) ?_ ?_
          ·clear hR;rintro _ hR;(try dsimp only at hR);(conv=>whnf);refine And.intro (fun h19=>?_) (fun h20=>?_)
           ·(conv=>whnf);refine And.intro (fun h21=>?_) (fun h22=>?_)
            ·(conv=>whnf);exact lfA
            ·(conv=>whnf);obtain rfl:=foll hR (ct h19 (cf h22 rfl));exact Q60 (Node.low _ _) sr
           ·(conv=>whnf);refine And.intro (fun h23=>?_) (fun h24=>?_)
            ·(conv=>whnf);exact lfA
            ·(conv=>whnf);exact lfA
          ·(conv=>whnf);refine And.intro (fun h25=>?_) (fun h26=>?_)
           ·(conv=>whnf);refine And.intro (fun h27=>?_) (fun h28=>?_)
            ·(conv=>whnf);exact lfA
            ·(conv=>whnf);exact Qje () (wkA [0,1,2]) (foll hR (cf h2 (cf h4 (cf h6 (cf h8 (cf h10 (cf h12 (cf h14 (cf h16 (cf h18 (ct h25 (cf h28 rfl))))))))))))
           ·(conv=>whnf);refine And.intro (fun h29=>?_) (fun h30=>?_)
            ·(conv=>whnf);exact lfA
            ·(conv=>whnf);exact Qje () (wkA [0,1,2]) (foll hR (cf h2 (cf h4 (cf h6 (cf h8 (cf h10 (cf h12 (cf h14 (cf h16 (cf h18 (cf h26 (cf h30 rfl))))))))))))
def Qz3 (i:Bool):Bool:=bif i then true else false
def QC8 (act:Int):Bool:=bif (act==1) then Qz3 (act==1) else bif (act==2) then Qz3 (act==2) else bif (act==3) then Qz3 (act==3) else bif (act==5) then Qz3 (act==5) else bif (act==7) then Qz3 (act==7) else Qz3 (act==10)
theorem alloc_sends_c (act:Int):GV 151 [I act] (Bo (QC8 act)):=by
 generalize hR:QC8 act=R;refine gA (kj [1000008] 3 [3,4]) Tryz.func151 ?_;refine Qu1 (fun (i:Bool)=>Qz3 i=R) (fun i=>[(2,Bo false),(4,Bo i)]) (fun i=>[]) ?_ ?_
 ·clear hR;rintro i hR;(try dsimp only at hR);apply ai<;>intro h1
  ·exact lfA
  ·exact lfA
 ·apply ai<;>intro h3
  ·exact Qj0 (act==1) (wkA []) (foll hR (ct h3 rfl))
  ·apply ai<;>intro h5
   ·exact Qj0 (act==2) (wkA []) (foll hR (cf h3 (ct h5 rfl)))
   ·apply ai<;>intro h7
    ·exact Qj0 (act==3) (wkA []) (foll hR (cf h3 (cf h5 (ct h7 rfl))))
    ·apply ai<;>intro h9
     ·exact Qj0 (act==5) (wkA []) (foll hR (cf h3 (cf h5 (cf h7 (ct h9 rfl)))))
     ·apply ai<;>intro h11
      ·exact Qj0 (act==7) (wkA []) (foll hR (cf h3 (cf h5 (cf h7 (cf h9 (ct h11 rfl))))))
      ·exact Qj0 (act==10) (wkA []) (foll hR (cf h3 (cf h5 (cf h7 (cf h9 (cf h11 rfl))))))
def Q14 (id_:Int):Bool:=((decide (id_ >= 1))&&(decide (id_<=99999)))
theorem Qf8 (id_:Int):GV 99 [I id_] (Bo (Q14 id_)):=by
 generalize hR:Q14 id_=R;refine gA (kp 3 []) Tryz.func99 ?_;exact lfA
def Qx0 (x_:List Resize) (target:Int) (cmp:Resize->Int->Int):Nat->Int->Int->Int × Int
 | 0,_,_=>(0,0)
 | m+1,i,j=>bif (decide (i<j)) then bif (decide ((cmp (x_.getD ((w64 (Int.fdiv (wu64 (w64 (i+j))) (2 ^ (min (Int.toNat 1) 64)))).toNat) zH) target)<0)) then Qx0 x_ target cmp m (w64 ((w64 (Int.fdiv (wu64 (w64 (i+j))) (2 ^ (min (Int.toNat 1) 64))))+1)) j else Qx0 x_ target cmp m i (w64 (Int.fdiv (wu64 (w64 (i+j))) (2 ^ (min (Int.toNat 1) 64)))) else (i,j)
def QR0 (x_:List Resize) (target:Int) (cmp:Resize->Int->Int) (i:Int) (j:Int):Int × Bool:=(i,((decide (i<(x_.length:Int)))&&((cmp (x_.getD (i.toNat) zH) target)==0)))
def Q10 (x_:List Resize) (target:Int) (cmp:Resize->Int->Int):Int × Bool:=QR0 x_ target cmp ((Qx0 x_ target cmp ((((x_.length:Int) - 0).toNat)+1) 0 (x_.length:Int)).1) ((Qx0 x_ target cmp ((((x_.length:Int) - 0).toNat)+1) 0 (x_.length:Int)).2)
theorem bsr_in (x_:List Resize) (target:Int) (cmp:Resize->Int->Int) (hn:x_.length<=4294967296):∀ (m:Nat) (i j:Int),0<=i->i<=j->j<=(x_.length:Int)->0<=(Qx0 x_ target cmp m i j).1∧(Qx0 x_ target cmp m i j).1<=(x_.length:Int)
 | 0,_,_,_,_,_=>by simp [Qx0]
 | m+1,i,j,h0,h1,h2=>by
  rw [Qx0];cases hd:decide (i<j) with
  | false=>exact ⟨h0,Int.le_trans h1 h2⟩
  | true =>
   have hlt:=yca hd;rw [QHa h0 hlt h2 oA];simp only [cond_true];cases decide (cmp (x_.getD (((i+j) / 2).toNat) zH) target<0) with
   | true =>
    have hw:w64 ((i+j) / 2+1)=(i+j) / 2+1:=wr oA;simp only [cond_true];rw [hw];exact bsr_in x_ target cmp hn m _ _ oA oA h2
   | false=>exact bsr_in x_ target cmp hn m _ _ h0 oA oA
theorem bsr_le (l:List Resize) (t:Int) (cmp:Resize->Int->Int) (hn:l.length<=4294967296):0<=(Q10 l t cmp).1∧(Q10 l t cmp).1<=(l.length:Int) :=
 bsr_in l t cmp hn _ _ _ oA oA oA
theorem bsr_lt {l:List Resize} {t:Int} {cmp:Resize->Int->Int} (h:(!(Q10 l t cmp).2)=false):(Q10 l t cmp).1<(l.length:Int):=by
 simp only [Q10,QR0,y2a,yha,yua] at h;exact h.1
theorem QId {l:List Resize} {t:Int} {cmp:Resize->Int->Int} (h:(!(Q10 l t cmp).2)=false) (hn:l.length<=4294967296):0<=(Q10 l t cmp).1∧(Q10 l t cmp).1<(l.length:Int)∧w64 ((Q10 l t cmp).1+1)=(Q10 l t cmp).1+1:=by
 have h1:=bsr_lt h;have h2:=bsr_le l t cmp hn;exact ⟨h2.1,h1,wr oA⟩
def bsrF (y:Resize) (y1:Int):Int:=w64 (y.job - y1)
theorem bsr_cl:∀ (y1:Resize) (y2:Int),AMoves Tryz.prog 154 [Resize.a y1,I y2] [] 0 (I (bsrF y1 y2)) []:=by
 intro y1 y2;have hR:bsrF y1 y2=bsrF y1 y2:=rfl;refine mo (kp 5 []) Tryz.func154 ?_;refine Qs0 (fun r:Int=>I r) (fun _=>[]) (leaf:=(w64 (y1.job - y2))) (foll hR rfl) ?_;exact tt [] .nil t1
theorem b0b0 {P:Prop} (h:P:=by first|(dsimp only;rw [hh3];omega)|first|(dsimp only;rw [hh];omega)|exact exA):P:=h
theorem bsr_m (l:List Resize) (id_:Int) (z1:l.length<=4294967296):AMoves Tryz.prog 153 [Qh1 l,I id_,AVal.fn (.func 154) [] []] [] 0 (AVal.tup [I ((Q10 l id_ bsrF).1),Bo ((Q10 l id_ bsrF).2)]) []:=by
 have hR:Q10 l id_ bsrF=Q10 l id_ bsrF:=rfl;refine mo (kp 12 [17,31]) Tryz.func153 ?_;refine Qu0 (fun (i:Int) (j:Int)=>∃ m,((j - i).toNat)<m∧QR0 l id_ bsrF (Qx0 l id_ bsrF m i j).1 (Qx0 l id_ bsrF m i j).2=Q10 l id_ bsrF∧0<=i∧i<=j∧j<=(l.length:Int)) (fun i j=>((j - i).toNat)) (fun i j=>[(0,Qh1 l),(1,I id_),(2,AVal.fn (.func 154) [] []),(6,I 0),(7,Bo false),(8,I (l.length:Int)),(9,I i),(10,I j)]) (fun i j=>[]) 0 (l.length:Int) (wkA []) ⟨_,yTa _,foll hR rfl,b0b0⟩ ?_;clear hR;rintro i j ⟨m,hm,hR,hx⟩;try dsimp only at hR hm hx
 obtain ⟨m,rfl⟩:=sucA m;refine ai (fun h9=>?_) (fun h10=>?_)
 ·have qh9:=yca h9;have hq0:i<j:=qh9;have hh:w64 (Int.fdiv (wu64 (w64 (i+j))) (2 ^ (min (Int.toNat 1) 64)))=(i+j) / 2:=QHa hx.1 hq0 hx.2.2 oA;have hh3:w64 (w64 (Int.fdiv (wu64 (w64 (i+j))) (2 ^ (min (Int.toNat 1) 64)))+1)=(i+j) / 2+1:=by rw [hh];exact wr oA
  refine And.intro (by first|exact fun hg=>yoa (by first|(show 0<=w64 (Int.fdiv (wu64 (w64 (i+j))) (2 ^ (min (Int.toNat 1) 64)))∧w64 (Int.fdiv (wu64 (w64 (i+j))) (2 ^ (min (Int.toNat 1) 64)))<(l.length:Int);rw [hh];omega)|exact ckA)|exact gkA) ?_;refine And.intro (by first|exact fun hg=>yoa (by first|(show 0<=w64 (Int.fdiv (wu64 (w64 (i+j))) (2 ^ (min (Int.toNat 1) 64)))∧w64 (Int.fdiv (wu64 (w64 (i+j))) (2 ^ (min (Int.toNat 1) 64)))<(l.length:Int);rw [hh];omega)|exact ckA)|exact gkA) ?_;refine us (mv [] (bsr_cl (l.getD ((w64 (Int.fdiv (wu64 (w64 (i+j))) (2 ^ (min (Int.toNat 1) 64)))).toNat) zH) id_) .nil (dl (Resize.low _ _) (d1 .nil)) .nil rx) ?_;refine ai (fun h11=>?_) (fun h12=>?_)
  ·have qh11:=yca h11;exact Qc0 (w64 ((w64 (Int.fdiv (wu64 (w64 (i+j))) (2 ^ (min (Int.toNat 1) 64))))+1)) j (wkA []) (by first|(dsimp only;rw [hh3];omega)|first|(dsimp only;rw [hh];omega)|exact omA) ⟨m,by first|(dsimp only;rw [hh3];omega)|first|(dsimp only;rw [hh];omega)|exact omA,foll hR (congrArg (fun p:Int × Int=>QR0 l id_ bsrF p.1 p.2) (ct h9 (ct h11 rfl))),b0b0⟩
  ·have qh12:=yja h12;exact Qc0 i (w64 (Int.fdiv (wu64 (w64 (i+j))) (2 ^ (min (Int.toNat 1) 64)))) (wkA []) (by first|(dsimp only;rw [hh3];omega)|first|(dsimp only;rw [hh];omega)|exact omA) ⟨m,by first|(dsimp only;rw [hh3];omega)|first|(dsimp only;rw [hh];omega)|exact omA,foll hR (congrArg (fun p:Int × Int=>QR0 l id_ bsrF p.1 p.2) (ct h9 (cf h12 rfl))),b0b0⟩
 ·have qh10:=yja h10
  replace hR:QR0 l id_ bsrF i j=Q10 l id_ bsrF:=fo2 (fun p:Int × Int=>QR0 l id_ bsrF p.1 p.2) (i,j) hR (cf h10 rfl)
  refine And.intro (by first|exact fun hg=>yoa (by first|(show 0<=w64 (Int.fdiv (wu64 (w64 (i+j))) (2 ^ (min (Int.toNat 1) 64)))∧w64 (Int.fdiv (wu64 (w64 (i+j))) (2 ^ (min (Int.toNat 1) 64)))<(l.length:Int);rw [hh];omega)|exact ckA)|exact gkA) ?_
  (first|apply u2|apply u3|apply u4|apply us);exact mv [] (bsr_cl (l.getD (i.toNat) zH) id_) .nil (dl (Resize.low _ _) (d1 .nil)) .nil rx
  refine Qs0 (fun r:Int × Bool=>AVal.tup [I r.1,Bo r.2]) (fun r:Int × Bool=>[]) (leaf:=(i,((decide (i<(l.length:Int)))&&((bsrF (l.getD (i.toNat) zH) id_)==0)))) (foll hR rfl) ?_;exact tt [] .nil (turn_tup (c1 (c1 .nil)))
theorem bsr_c (l:List Resize) (id_:Int) (z1:l.length<=4294967296) (objs:Objs):AGives Tryz.prog 153 [Qh1 l,I id_,AVal.fn (.func 154) [] []] objs (AVal.tup [I ((Q10 l id_ bsrF).1),Bo ((Q10 l id_ bsrF).2)]):=by
 refine AGives.any' (.cons lw (l1 (.cons (Low.fn _ _ _ LowL.nil LowL.nil) .nil))) (Low.tup' (l1 (l1 .nil))) ?_ objs;have h:=bsr_m l id_ z1;unfold AGives ACalls;unfold AMoves at h;intro K w vs hm hr;refine (h K w vs hm hr).mono ?_;rintro e w' ⟨v,K',he,hle,hm',hv⟩;have hn:K.n=0:=hm.len.symm;refine ⟨v,_,_,K',he,⟨hle.M,fun o v h=>absurd h oA,fun o v h=>absurd h oA,by omega,fun o h=>absurd h oA,hle.w0,hle.B,hle.M0⟩,hm',hv,rfl,rfl⟩
def QE4 (n:Note) (x_:Node) (i1:Bool):Bool:=bif i1 then ((x_.state==1)&&(x_.job==n.job)) else bif (n.kind==13) then ((x_.state==4)&&(x_.want==6)) else false
def QD4 (n:Note) (x_:Node) (i:Bool):Bool:=bif i then ((((x_.state==2)&&(x_.job==n.job))&&(x_.want==2))||(((x_.state==1)&&(x_.job==n.job))&&(x_.want==4))) else bif (n.kind==10) then ((x_.state==3)&&(x_.job==n.job)) else bif (n.kind==11) then QE4 n x_ (n.kind==11) else bif (n.kind==12) then QE4 n x_ (n.kind==12) else QE4 n x_ (n.kind==14)
def QR4 (n:Note) (x_:Node):Bool:=bif (n.kind==7) then (((x_.state==1)&&(x_.job==n.job))&&((x_.want==1)||(x_.want==3))) else bif (n.kind==8) then QD4 n x_ (n.kind==8) else QD4 n x_ (n.kind==9)
theorem Q5c (n:Note) (x_:Node):GV 48 [Note.a n,Node.a x_] (Bo (QR4 n x_)):=by
 generalize hR:QR4 n x_=R;refine gA (kj [1000007,1000014] 7 [20,21,34,62,75,80]) Tryz.func48 ?_;apply ai<;>intro h1
 ·exact lfA
 ·refine Qu1 (fun (i:Bool)=>QD4 n x_ i=R) (fun i=>[(2,AVal.ptr 0 0 4 0 0),(3,AVal.ptr 1 0 7 0 0),(4,Bo false),(5,Bo ((x_.state==1)&&(x_.job==n.job))),(20,I n.kind),(34,Bo i)]) (fun i=>[(0,AObj.row 95 4 [[I n.kind,I n.node,I n.job,I n.epoch]]),(0,AObj.row 40 7 [[I x_.state,I x_.job,I x_.epoch,Bo x_.drain,I x_.want,I x_.since,I x_.asked]])]) ?_ ?_
  ·clear hR;rintro i hR;(try dsimp only at hR);apply ai<;>intro h3
   ·exact lfA
   ·apply ai<;>intro h5
    ·exact lfA
    ·refine Qu1 (fun (i1:Bool)=>QE4 n x_ i1=R) (fun i1=>[(3,AVal.ptr 0 0 7 0 0),(4,Bo false),(5,Bo ((x_.state==1)&&(x_.job==n.job))),(20,I n.kind),(75,Bo i1)]) (fun i1=>[(0,AObj.row 40 7 [[I x_.state,I x_.job,I x_.epoch,Bo x_.drain,I x_.want,I x_.since,I x_.asked]])]) ?_ ?_
     ·clear hR;rintro i1 hR;(try dsimp only at hR);apply ai<;>intro h7
      ·exact lfA
      ·apply ai<;>intro h9
       ·exact lfA
       ·exact lfA
     ·apply ai<;>intro h11
      ·exact Qj0 (n.kind==11) (wkA [1]) (foll hR (cf h3 (cf h5 (ct h11 rfl))))
      ·apply ai<;>intro h13
       ·exact Qj0 (n.kind==12) (wkA [1]) (foll hR (cf h3 (cf h5 (cf h11 (ct h13 rfl)))))
       ·exact Qj0 (n.kind==14) (wkA [1]) (foll hR (cf h3 (cf h5 (cf h11 (cf h13 rfl)))))
  ·apply ai<;>intro h15
   ·exact Qj0 (n.kind==8) (wkA [0,1]) (foll hR (cf h1 (ct h15 rfl)))
   ·exact Qj0 (n.kind==9) (wkA [0,1]) (foll hR (cf h1 (cf h15 rfl)))
def Q39 (b:List Node):List Node->Nat->Bool
 | [],_=>true
 | x_ :: r,i=>bif (!((x_.state==(b.getD i zF).state)&&((x_.job==(b.getD i zF).job)&&((x_.epoch==(b.getD i zF).epoch)&&((x_.drain==(b.getD i zF).drain)&&((x_.want==(b.getD i zF).want)&&((x_.since==(b.getD i zF).since)&&(x_.asked==(b.getD i zF).asked)))))))) then false else Q39 b r (i+1)
def Qjc (a:List Node) (b:List Node):Bool:=bif ((a.length:Int)!=(b.length:Int)) then false else Q39 b a 0
theorem ref12_Same_c (a:List Node) (b:List Node) (hs0:a.length<=4294967296) (hs1:b.length<=4294967296):GV 33 [nodeL a,nodeL b] (Bo (Qjc a b)):=by
 generalize hR:Qjc a b=R;refine gA (kp 6 [10,14,25]) Tryz.func33 ?_;have hk0:=hs0;obtain z7:a.length<=4294967296:=hs0;have hk1:=hs1;obtain z8:b.length<=4294967296:=hs1;apply ai<;>intro h1
 ·exact lfA
 ·refine Qk0 (fun (i:Nat)=>Q39 b (List.drop i a) i=R∧i<=a.length) (fun i=>a.length - i) (fun i=>[(0,nodeL a),(1,nodeL b),(4,Bo false),(5,I (i:Int))]) (fun i=>[]) 0 (wkA []) ⟨folA,by exact omA⟩ ?_;clear hR;rintro i ⟨hR,hj⟩;(try dsimp only at hR hj);apply ai<;>intro h3
  ·have hlt:=ltA h3;rw [Qd0 zF hlt] at hR;refine dchk (by kernel_rfl) ?_;refine ai gkA ?_;refine ai gkA ?_;refine ai (fun _=>(by kernel_rfl:eqOK _ _=true)) ?_;(repeat ((first|refine ai rfl ?_|refine ai (fun _=>rfl) ?_)));apply ai<;>intro h5
   ·exact lfA
   ·exact Qr0 (i+1) (wkA []) omA ⟨folA,by exact omA⟩
  ·rw [Qh0 (l:=a) (j:=i) (geA h3)] at hR;exact lfA
def Ql6 (b:List Alt):List Alt->Nat->Bool
 | [],_=>true
 | x_ :: r,i=>bif ((x_.nodes != (b.getD i zA).nodes)||(x_.wall != (b.getD i zA).wall)) then false else Ql6 b r (i+1)
def Qe8 (a:List Alt) (b:List Alt):Bool:=bif ((a.length:Int)!=(b.length:Int)) then false else Ql6 b a 0
theorem Qhd (a:List Alt) (b:List Alt) (hs0:a.length<=4294967296) (hs1:b.length<=4294967296):GV 187 [altL a,altL b] (Bo (Qe8 a b)):=by
 generalize hR:Qe8 a b=R;refine gA (kp 6 [10,14,40]) Tryz.func187 ?_;have hk0:=hs0;obtain z7:a.length<=4294967296:=hs0;have hk1:=hs1;obtain z8:b.length<=4294967296:=hs1;apply ai<;>intro h1
 ·exact lfA
 ·refine Qk0 (fun (i:Nat)=>Ql6 b (List.drop i a) i=R∧i<=a.length) (fun i=>a.length - i) (fun i=>[(0,altL a),(1,altL b),(4,Bo false),(5,I (i:Int))]) (fun i=>[]) 0 (wkA []) ⟨folA,by exact omA⟩ ?_;clear hR;rintro i ⟨hR,hj⟩;(try dsimp only at hR hj);apply ai<;>intro h3
  ·have hlt:=ltA h3;rw [Qd0 zA hlt] at hR;refine dchk (by kernel_rfl) ?_;refine ai gkA ?_;refine ai gkA ?_;refine ai gkA ?_;refine ai gkA ?_;(repeat ((first|refine ai rfl ?_|refine ai (fun _=>rfl) ?_)));apply ai<;>intro h5
   ·exact lfA
   ·exact Qr0 (i+1) (wkA []) omA ⟨folA,by exact omA⟩
  ·rw [Qh0 (l:=a) (j:=i) (geA h3)] at hR;exact lfA
def Qg5 (b:List Resize):List Resize->Nat->Bool
 | [],_=>true
 | x_ :: r,i=>bif (!((x_.job==(b.getD i zH).job)&&((x_.grow==(b.getD i zH).grow)&&((x_.nodes==(b.getD i zH).nodes)&&((x_.said==(b.getD i zH).said)&&(x_.since==(b.getD i zH).since)))))) then false else Qg5 b r (i+1)
def Qm6 (a:List Resize) (b:List Resize):Bool:=bif ((a.length:Int)!=(b.length:Int)) then false else Qg5 b a 0
theorem QNa (a:List Resize) (b:List Resize) (hs0:a.length<=4294967296) (hs1:b.length<=4294967296):GV 35 [Qh1 a,Qh1 b] (Bo (Qm6 a b)):=by
 generalize hR:Qm6 a b=R;refine gA (kp 6 [10,14,25]) Tryz.func35 ?_;have hk0:=hs0;obtain z7:a.length<=4294967296:=hs0;have hk1:=hs1;obtain z8:b.length<=4294967296:=hs1;apply ai<;>intro h1
 ·exact lfA
 ·refine Qk0 (fun (i:Nat)=>Qg5 b (List.drop i a) i=R∧i<=a.length) (fun i=>a.length - i) (fun i=>[(0,Qh1 a),(1,Qh1 b),(4,Bo false),(5,I (i:Int))]) (fun i=>[]) 0 (wkA []) ⟨folA,by exact omA⟩ ?_;clear hR;rintro i ⟨hR,hj⟩;(try dsimp only at hR hj);apply ai<;>intro h3
  ·have hlt:=ltA h3;rw [Qd0 zH hlt] at hR;refine dchk (by kernel_rfl) ?_;refine ai gkA ?_;refine ai gkA ?_;refine ai (fun _=>(by kernel_rfl:eqOK _ _=true)) ?_;(repeat ((first|refine ai rfl ?_|refine ai (fun _=>rfl) ?_)));apply ai<;>intro h5
   ·exact lfA
   ·exact Qr0 (i+1) (wkA []) omA ⟨folA,by exact omA⟩
  ·rw [Qh0 (l:=a) (j:=i) (geA h3)] at hR;exact lfA
def Q79 (b:List Book):List Book->Nat->Bool
 | [],_=>true
 | x_ :: r,i=>bif (!((x_.id==(b.getD i zI).id)&&((x_.from_==(b.getD i zI).from_)&&((x_.to==(b.getD i zI).to)&&(x_.nodes==(b.getD i zI).nodes))))) then false else Q79 b r (i+1)
def Qnc (a:List Book) (b:List Book):Bool:=bif ((a.length:Int)!=(b.length:Int)) then false else Q79 b a 0
theorem ref19_Same_c (a:List Book) (b:List Book) (hs0:a.length<=4294967296) (hs1:b.length<=4294967296):GV 36 [bookL a,bookL b] (Bo (Qnc a b)):=by
 generalize hR:Qnc a b=R;refine gA (kp 6 [10,14,25]) Tryz.func36 ?_;have hk0:=hs0;obtain z7:a.length<=4294967296:=hs0;have hk1:=hs1;obtain z8:b.length<=4294967296:=hs1;apply ai<;>intro h1
 ·exact lfA
 ·refine Qk0 (fun (i:Nat)=>Q79 b (List.drop i a) i=R∧i<=a.length) (fun i=>a.length - i) (fun i=>[(0,bookL a),(1,bookL b),(4,Bo false),(5,I (i:Int))]) (fun i=>[]) 0 (wkA []) ⟨folA,by exact omA⟩ ?_;clear hR;rintro i ⟨hR,hj⟩;(try dsimp only at hR hj);apply ai<;>intro h3
  ·have hlt:=ltA h3;rw [Qd0 zI hlt] at hR;refine dchk (by kernel_rfl) ?_;refine ai gkA ?_;refine ai gkA ?_;refine ai (fun _=>(by kernel_rfl:eqOK _ _=true)) ?_;(repeat ((first|refine ai rfl ?_|refine ai (fun _=>rfl) ?_)));apply ai<;>intro h5
   ·exact lfA
   ·exact Qr0 (i+1) (wkA []) omA ⟨folA,by exact omA⟩
  ·rw [Qh0 (l:=a) (j:=i) (geA h3)] at hR;exact lfA
def Q69 (b:List Usage):List Usage->Nat->Bool
 | [],_=>true
 | x_ :: r,i=>bif ((((!(ByteArray.toList x_.user==ByteArray.toList (b.getD i zJ).user))||(!(ByteArray.toList x_.account==ByteArray.toList (b.getD i zJ).account)))||(x_.used != (b.getD i zJ).used))||(x_.share != (b.getD i zJ).share)) then false else Q69 b r (i+1)
def Qmc (a:List Usage) (b:List Usage):Bool:=bif ((a.length:Int)!=(b.length:Int)) then false else Q69 b a 0
theorem ref17_Same_c (a:List Usage) (b:List Usage) (hs0:a.length<=4294967296∧(∀ y ∈ a,y.sz)) (hs1:b.length<=4294967296∧(∀ y ∈ b,y.sz)):GV 37 [Qt1 a,Qt1 b] (Bo (Qmc a b)):=by
 generalize hR:Qmc a b=R;refine gA (kp 6 [10,14,66]) Tryz.func37 ?_;obtain ⟨z9,z10⟩:=id hs0;obtain ⟨z11,z12⟩:=id hs1;apply ai<;>intro h1
 ·exact lfA
 ·refine Qk0 (fun (i:Nat)=>Q69 b (List.drop i a) i=R∧i<=a.length) (fun i=>a.length - i) (fun i=>[(0,Qt1 a),(1,Qt1 b),(4,Bo false),(5,I (i:Int))]) (fun i=>[]) 0 (wkA []) ⟨folA,by exact omA⟩ ?_;clear hR;rintro i ⟨hR,hj⟩;(try dsimp only at hR hj);apply ai<;>intro h3
  ·have hlt:=ltA h3;rw [Qd0 zJ hlt] at hR;have hxz:(a.getD i zJ).sz:=QB1 (by first|assumption|grind) (Usage.szz _);have hkz:=hxz;obtain ⟨z5,z6⟩:=Usage.zz hxz;refine dchk (by kernel_rfl) ?_;refine ai gkA ?_;refine ai gkA ?_;refine ai gkA ?_;refine ai gkA ?_;refine ai gkA ?_;refine ai gkA ?_;refine ai gkA ?_;refine ai gkA ?_;(repeat ((first|refine ai rfl ?_|refine ai (fun _=>rfl) ?_)));apply ai<;>intro h7
   ·exact lfA
   ·exact Qr0 (i+1) (wkA []) omA ⟨folA,by exact omA⟩
  ·rw [Qh0 (l:=a) (j:=i) (geA h3)] at hR;exact lfA
def law31_going :State:=(⟨5,([(⟨3,5,2,false,5,4,4⟩:Node),zF]:List Node),[],[],[],[],6,1⟩:State)
theorem Qd2 :GV 25 [] (State.a law31_going):=by
 generalize hR:law31_going=R;refine gA (kp 1 []) Tryz.func25 ?_;refine Or.inl ?_;obtain rfl:=foll hR rfl;exact Q60 (State.low _ _) (Seen.agg (e1 (ev (seen_as (QK5 (c:=Node.cells) (d:=zF) ([(⟨3,5,2,false,5,4,4⟩:Node),zF]:List Node) rfl)) (ev (Q00) (ev (Q00) (ev (Q00) (ev (Q00) (e1 (e1 .nil)))))))))
end Go.Proofs.YtgnlcjenoaoffaaGreatDoor
