/-
  What the last text of this claim leans on: an evaluator over the code, contracts of functions, plain laws. Conditions stand in each statement.
-/
import Derived.Test.YtldebhdmhpopaaaGreatDoorRL7
import Derived.Test.YtldebhdmhpopaaaGreatDoorProg
namespace Go.Proofs.YtldebhdmhpopaaaGreatDoor
set_option linter.unusedSimpArgs false
set_option linter.unusedVariables false
open Go.Fw
set_option maxRecDepth 20000
set_option maxHeartbeats 4000000
attribute [local irreducible] ACalls AMoves
theorem Job.zz {x:Job} (h:x.sz):x.name.size<=4294967296∧x.user.size<=4294967296∧x.account.size<=4294967296∧x.shape.alts.length<=4294967296∧x.after.length<=4294967296:=h
theorem Usage.zz {x:Usage} (h:x.sz):x.user.size<=4294967296∧x.account.size<=4294967296:=h
abbrev GV (f:FuncId) (a:List AVal) (r:AVal):Prop:=∀ objs,AGives Tryz.prog f a objs r
def QDa (l:List Node):Bool:=(decide ((l.length:Int)<=100))
theorem law12_Few_c (l:List Node):GV 23 [nodeL l] (Bo (QDa l)):=by
 generalize hR:QDa l=R;refine ga (.cons lw .nil) lx (kp 3 []) Tryz.func23 ?_;obtain rfl:=foll hR rfl;exact Q10 lx sr
def QCa (s:Shape):Bool:=(decide ((s.alts.length:Int)<=100))
theorem law07_Few_c (s:Shape):GV 122 [Shape.a s] (Bo (QCa s)):=by
 generalize hR:QCa s=R;refine ga (.cons (Shape.low _ _) .nil) lx (kp 3 []) Tryz.func122 ?_;obtain rfl:=foll hR rfl;exact Q10 lx sr
def QGa (l:List Book):Bool:=(decide ((l.length:Int)<=100))
theorem law19_Few_c (l:List Book):GV 25 [bookL l] (Bo (QGa l)):=by
 generalize hR:QGa l=R;refine ga (.cons lw .nil) lx (kp 3 []) Tryz.func25 ?_;obtain rfl:=foll hR rfl;exact Q10 lx sr
def Q56 :List Usage->Nat->Bool
 | [],_=>true
 | x_ :: r,i=>bif ((decide ((ByteArray.size x_.user:Int) > 1000))||(decide ((ByteArray.size x_.account:Int) > 1000))) then false else Q56 r (i+1)
def QFa (l:List Usage):Bool:=bif (decide ((l.length:Int) > 300)) then false else Q56 l 0
theorem law17_Few_c (l:List Usage) (hs0:l.length<=9223372036854775807∧(∀ y ∈ l,y.szM)):GV 26 [Qt1 l] (Bo (QFa l)):=by
 generalize hR:QFa l=R;refine ga (.cons lw .nil) lx (kp 4 [6,10,28]) Tryz.func26 ?_;obtain ⟨z9,z10⟩:=id hs0;refine ai (fun h1=>?_) (fun h2=>?_)
 ·have qh1:=of_decide_eq_true h1;obtain rfl:=foll hR (ct h1 rfl);exact Q10 lx sr
 ·have qh2:=of_decide_eq_false h2;refine Qs0 (fun (i:Nat)=>Q56 (List.drop i l) i=R∧i<=l.length) (fun i=>l.length - i) (fun i=>[(0,Qt1 l),(2,Bo false),(3,I (i:Int))]) (fun i=>[]) 0 (wk [] .nil (sl lw (s1 (s1 .nil)))) ⟨foll hR (cf h2 rfl),by exact omA⟩ ?_;clear hR;rintro i ⟨hR,hj⟩;(try dsimp only at hR hj);refine ai (fun h3=>?_) (fun h4=>?_)
  ·have hlt:=ltA h3;rw [Qi0 Usage.zero hlt] at hR;have hxz:(l.getD i Usage.zero).szM:=Qw1 (by first|assumption|grind) (Usage.szz _);have hkz:=hxz;obtain ⟨z5,z6⟩:((l.getD i Usage.zero).user).size<=9223372036854775807∧((l.getD i Usage.zero).account).size<=9223372036854775807:=hxz;refine ai gkA ?_;refine ai gkA ?_;refine ai (fun h7=>?_) (fun h8=>?_)
   ·obtain rfl:=foll hR (ct h7 rfl);exact Q10 lx sr
   ·exact Qz0 (i+1) (wk [] .nil (sl lw (s1 (sv (Qa0 (I_eq (wr omA)) lx) .nil)))) omA ⟨foll hR (cf h8 rfl),by exact omA⟩
  ·rw [Ql0 (l:=l) (j:=i) (geA h4)] at hR;obtain rfl:=foll hR rfl;exact Q10 lx sr
def QN4 (state:Int):Bool:=((decide (state >= 3))&&(decide (state<=7)))
theorem Qdd (state:Int):GV 124 [I state] (Bo (QN4 state)):=by
 generalize hR:QN4 state=R;refine ga (l1 .nil) lx (kp 3 []) Tryz.func124 ?_;obtain rfl:=foll hR rfl;exact Q10 lx sr
def QD1 (n:Int):Bool:=((decide (n >= 0))&&(decide (n<=1000000)))
theorem QU3 (n:Int):GV 147 [I n] (Bo (QD1 n)):=by
 generalize hR:QD1 n=R;refine ga (l1 .nil) lx (kp 3 []) Tryz.func147 ?_;obtain rfl:=foll hR rfl;exact Q10 lx sr
def Q24 (n:Int) (from_:Int) (to_:Int):Int:=bif (decide (n<from_)) then from_ else bif (decide (n > to_)) then to_ else n
theorem QA8 (n:Int) (from_:Int) (to_:Int):GV 207 [I n,I from_,I to_] (I (Q24 n from_ to_)):=by
 generalize hR:Q24 n from_ to_=R;refine ga (l1 (l1 (l1 .nil))) lx (kp 7 [7,12]) Tryz.func207 ?_;refine ai (fun h1=>?_) (fun h2=>?_)
 ·have qh1:=of_decide_eq_true h1;obtain rfl:=foll hR (ct h1 rfl);exact Q10 lx sr
 ·have qh2:=of_decide_eq_false h2;refine ai (fun h3=>?_) (fun h4=>?_)
  ·have qh3:=of_decide_eq_true h3;obtain rfl:=foll hR (cf h2 (ct h3 rfl));exact Q10 lx sr
  ·have qh4:=of_decide_eq_false h4;obtain rfl:=foll hR (cf h2 (cf h4 rfl));exact Q10 lx sr
def Qj1 (a:Alt):Bool:=((((decide (a.nodes >= 1))&&(decide (a.nodes<=48)))&&(decide (a.wall >= 1)))&&(decide (a.wall<=100000)))
theorem Q09 (a:Alt):GV 199 [Alt.a a] (Bo (Qj1 a)):=by
 generalize hR:Qj1 a=R;refine ga (.cons (Alt.low _ _) .nil) lx (kp 3 []) Tryz.func199 ?_;obtain rfl:=foll hR rfl;exact Q10 lx sr
def QH2 (f:Alt->Bool):List Alt->Nat->Int
 | [],_=>(-1)
 | x_ :: r,i=>bif (f x_) then (i:Int) else QH2 f r (i+1)
def Q71 (s:List Alt) (f:Alt->Bool):Int:=QH2 f s 0
def QU2 (n:Int) (from_:Int) (to_:Int):Bool:=((decide (n >= from_))&&(decide (n<=to_)))
theorem QJ2 (n:Int) (from_:Int) (to_:Int):GV 227 [I n,I from_,I to_] (Bo (QU2 n from_ to_)):=by
 generalize hR:QU2 n from_ to_=R;refine ga (l1 (l1 (l1 .nil))) lx (kp 7 []) Tryz.func227 ?_;obtain rfl:=foll hR rfl;exact Q10 lx sr
def QJ1 (r_:Int):Int:=bif ((r_==9)||(r_==32)) then 1 else bif (((((decide (r_<32))||((decide (r_ >= 127))&&(decide (r_<=160))))||((decide (r_ >= 55296))&&(decide (r_<=57343))))||(r_==65533))||(decide (r_ > 1114111))) then 0 else bif ((decide (r_ >= 48))&&(decide (r_<=57))) then 3 else bif ((((decide (r_ >= 97))&&(decide (r_<=122)))||((decide (r_ >= 65))&&(decide (r_<=90))))||(decide (r_ > 160))) then 2 else 4
theorem QH3 (r_:Int):GV 268 [J r_] (I (QJ1 r_)):=by
 generalize hR:QJ1 r_=R;refine ga (l1 .nil) lx (kp 3 [3,10,37,44]) Tryz.func268 ?_;refine ai (fun h1=>?_) (fun h2=>?_)
 ·obtain rfl:=foll hR (ct h1 rfl);exact Q10 lx sr
 ·refine ai (fun h3=>?_) (fun h4=>?_)
  ·obtain rfl:=foll hR (cf h2 (ct h3 rfl));exact Q10 lx sr
  ·refine ai (fun h5=>?_) (fun h6=>?_)
   ·obtain rfl:=foll hR (cf h2 (cf h4 (ct h5 rfl)));exact Q10 lx sr
   ·refine ai (fun h7=>?_) (fun h8=>?_)
    ·obtain rfl:=foll hR (cf h2 (cf h4 (cf h6 (ct h7 rfl))));exact Q10 lx sr
    ·obtain rfl:=foll hR (cf h2 (cf h4 (cf h6 (cf h8 rfl))));exact Q10 lx sr
def QW0 (is:Int->Bool):Nat->LexReader->LexReader
 | 0,_=>LexReader.zero
 | m+1,c=>bif ((decide (c.at_<(c.line.length:Int)))&&(is (c.line.getD (Int.toNat c.at_) 0))) then QW0 is m { c with at_:=(w64 (c.at_+1)) } else c
def QP0 (r_:LexReader) (c:LexReader):ByteArray × LexReader:=((runesBytes (List.drop (Int.toNat r_.at_) (List.take (Int.toNat c.at_) c.line))),c)
def Q70 (r_:LexReader) (is:Int->Bool):ByteArray × LexReader:=QP0 r_ (QW0 is ((Int.toNat ((r_.line.length:Int) - r_.at_))+1) r_)
theorem QD9 (is:Int->Bool):∀ (m:Nat) (c:LexReader),(QW0 is m c).line.length<=c.line.length
 | 0,_=>by simp [QW0,LexReader.zero]
 | m+1,c=>by
  rw [QW0]
  cases ((decide (c.at_<(c.line.length:Int)))&&(is (c.line.getD (Int.toNat c.at_) 0))) with
  | true=>exact QD9 is m { c with at_:=(w64 (c.at_+1)) }
  | false=>exact Nat.le_refl _
theorem QQ8 (r_:LexReader) (is:Int->Bool) (h:r_.line.length<=400):(Q70 r_ is).1.size<=4294967296:=by
 have h1:=QD9 is ((Int.toNat ((r_.line.length:Int) - r_.at_))+1) r_
 unfold Q70 QP0
 refine Nat.le_trans (Qt5 _) ?_
 simp only [List.length_drop,List.length_take]
 omega
def QX5 (s:ByteArray):Nat->Nat->List Int->(List Int)
 | 0,_,_=>[]
 | m+1,i,c=>bif (decide ((i:Int)<(ByteArray.size s:Int))) then bif ((decide ((c.getD i 0) >= 65))&&(decide ((c.getD i 0)<=90))) then QX5 s m (i+1) (c.set i (wu8 ((wu8 ((c.getD i 0)+97)) - 65))) else QX5 s m (i+1) c else c
def Q14 (c:List Int):ByteArray:=(QR4 c)
def Q3a (s:ByteArray):ByteArray:=Q14 (QX5 s ((Int.toNat ((ByteArray.size s:Int) - (0:Int)))+1) 0 (Qd6 s))
theorem runes_Lower_c (s:ByteArray) (hs0:s.size<=4294967296):GV 292 [Sg s] (Sg (Q3a s)):=by
 generalize hR:Q3a s=R;refine ga (l1 .nil) lx (kp 6 [8,9,10,11,20]) Tryz.func292 ?_;have hk0:=hs0;obtain z5:s.size<=4294967296:=hs0;refine Qq0 (fun (i:Nat) (c:List Int)=>∃ m,(Int.toNat ((ByteArray.size s:Int) - (i:Int)))<m∧Q14 (QX5 s m i c)=R∧c.length=ByteArray.size s∧(i:Int)<=(ByteArray.size s:Int)) (fun i c=>(Int.toNat ((ByteArray.size s:Int) - (i:Int)))) (fun i c=>[(2,Sg ⟨#[]⟩),(3,AVal.own 0 0 1 0 c.length),(8,AVal.own 0 0 1 0 c.length),(9,I (ByteArray.size s:Int)),(10,I (i:Int))]) (fun i c=>[(0,AObj.row 5 1 (c.map (fun q_=>[Y q_])))]) 0 (Qd6 s) (wk [0] (tO rfl (tl eqA) .nil) (s1 (sv (to 0 lnA) (sv (to 0 lnA) (s1 (s1 .nil)))))) ⟨_,Nat.lt_succ_self _,foll hR rfl,by exact exA⟩ ?_;clear hR;rintro i c ⟨m,hm,hR,hx⟩;(try dsimp only at hR hm hx);obtain ⟨m,rfl⟩:=sucA m;refine ai (fun h1=>?_) (fun h2=>?_)
 ·have qh1:=of_decide_eq_true h1;refine ai gkA ?_;refine ⟨_,QA0 rfl rfl rfl (QC0 0 i (by first|rfl|exact Nat.zero_add _|omega) ckA) rfl,?_⟩;refine ai (fun h3=>?_) (fun h4=>?_)
  ·refine ai gkA ?_;refine ⟨_,Q01 rfl rfl rfl rfl (QC0 0 i (by first|rfl|exact Nat.zero_add _|omega) ckA) rfl rfl (Qp8 i (wu8 ((wu8 ((c.getD i 0)+97)) - 65)) (by first|rfl|exact Nat.zero_add _|omega) rfl),?_⟩;exact Qd0 (i+1) (c.set i (wu8 ((wu8 ((c.getD i 0)+97)) - 65))) (wk [0] (tO rfl (tl eqA) .nil) (s1 (sv (to 0 lnA) (sv (to 0 lnA) (s1 (sv (Qa0 (I_eq (wr omA)) lx) .nil)))))) omA ⟨m,by exact omA,foll hR (congrArg (fun p:(List Int)=>Q14 p) (ct h1 (ct h3 rfl))),by exact exA⟩
  ·exact Qd0 (i+1) c (wk [0] (tO rfl (tl eqA) .nil) (s1 (sv (to 0 lnA) (sv (to 0 lnA) (s1 (sv (Qa0 (I_eq (wr omA)) lx) .nil)))))) omA ⟨m,by exact omA,foll hR (congrArg (fun p:(List Int)=>Q14 p) (ct h1 (cf h4 rfl))),by exact exA⟩
 ·have qh2:=of_decide_eq_false h2;replace hR:Q14 c=R:=fo2 (fun p:(List Int)=>Q14 p) (c) hR (cf h2 rfl);(first|refine ⟨c,by exact cvA,?_⟩|refine ⟨_,fun _=>⟨c,by exact cvA,rfl,rfl⟩,?_⟩|refine ⟨_,rfl,⟨c,by exact cvA,Sub.refl _,rfl⟩,?_⟩);obtain rfl:=foll hR rfl;exact Q10 lx sr
def Q31 (r_:LexReader) (at_:Int) (e_:Int):LexReader:=bif (r_.error==0) then (⟨r_.line,r_.at_,at_,e_⟩:LexReader) else r_
theorem QO2 (r_:LexReader) (at_:Int) (e_:Int):AMoves Tryz.prog 286 [AVal.ptr 0 0 4 0 0,I at_,I e_] [(0,AObj.row 317 4 [[runes r_.line,I r_.at_,I r_.bad,I r_.error]])] 1 (AVal.tup []) [(0,AObj.row 317 4 [[runes ((Q31 r_ at_ e_).line),I ((Q31 r_ at_ e_).at_),I ((Q31 r_ at_ e_).bad),I ((Q31 r_ at_ e_).error)]])]:=by
 generalize hR:Q31 r_ at_ e_=R;refine mo (kp 6 [10]) Tryz.func286 ?_;refine ai (fun h1=>?_) (fun h2=>?_)
 ·obtain rfl:=foll hR (ct h1 rfl);exact rq (tt [0] (tO rfl (ts LexReader.lo) .nil) t1)
 ·obtain rfl:=foll hR (cf h2 rfl);exact rq (tt [0] (tO rfl (ts LexReader.lo) .nil) t1)
def Qq5 (s:ByteArray):List (Nat × Int)->Bool
 | []=>(!(ByteArray.toList s==ByteArray.toList ⟨#[]⟩))
 | x_ :: r=>bif ((decide (x_.2<48))||(decide (x_.2 > 57))) then false else Qq5 s r
def QE6 (s:ByteArray):Bool:=Qq5 s (Qwc s)
theorem QPb (s:ByteArray) (hs0:s.size<=4294967296):GV 294 [Sg s] (Bo (QE6 s)):=by
 generalize hR:QE6 s=R;refine ga (l1 .nil) lx (kp 5 [6,7,8,15]) Tryz.func294 ?_;have hk0:=hs0;obtain z5:s.size<=4294967296:=hs0;refine Qs0 (fun (pos:Nat)=>∃ m,ByteArray.size s - pos<=m∧Qq5 s (QV4 s m pos)=R) (fun pos=>ByteArray.size s - pos) (fun pos=>[(0,Sg s),(2,Bo false),(6,AVal.ptr 0 0 1 0 0)]) (fun pos=>[(0,AObj.other (.strIter s pos))]) 0 (wk [0] (tO rfl (.strIter _ _) .nil) (s1 (s1 (sv (Q00 0 rfl rfl) .nil)))) ⟨ByteArray.size s,by exact omA,foll hR rfl⟩ ?_;clear hR;rintro pos ⟨m,hm,hR⟩;(try dsimp only at hR hm);refine ai (fun h1=>?_) (fun h2=>?_)
 ·have hlt:=of_decide_eq_true h1;have hw:=Qe9 s pos;have hwe:=Qd9 s pos hlt;obtain ⟨m,rfl⟩:=sucA m;rw [Qy5 h1] at hR;refine ai (fun _=>?_) (fun h=>nomatch h);refine ai (fun h3=>?_) (fun h4=>?_)
  ·obtain rfl:=foll hR (ct h3 rfl);exact Q10 lx sr
  ·exact Qz0 (pos+(Utf8.decode s pos).2) (wk [0] (tO rfl (.strIter _ _) .nil) (s1 (s1 (sv (Q00 0 rfl rfl) .nil)))) omA ⟨m,by exact omA,foll hR (cf h4 rfl)⟩
 ·rw [Qm7 h2] at hR;refine ai (fun h=>nomatch h) (fun _=>?_);obtain rfl:=foll hR rfl;exact Q10 lx sr
theorem Qy8 (s:ByteArray):∀ l,Qq5 s l=true->(!(ByteArray.toList s==ByteArray.toList ⟨#[]⟩))=true ∧ ∀ x ∈ l,48<=x.2∧x.2<=57
 | [],h=>⟨h,fun x hx=>nomatch hx⟩
 | x :: r,h=>by
  rw [Qq5] at h
  cases hc:((decide (x.2<48))||(decide (x.2 > 57))) with
  | true=>rw [hc] at h;cases h
  | false =>
   rw [hc] at h
   obtain ⟨a,b⟩:=Qy8 s r h
   refine ⟨a,fun y hy=>?_⟩
   rcases List.mem_cons.1 hy with rfl|hy
   ·simp only [Bool.or_eq_false_iff,decide_eq_false_iff_not] at hc
    omega
   ·exact b y hy
theorem lex_digits_ok {s:ByteArray} {q:Bool} (h:(((!(QE6 s))||(decide ((ByteArray.size s:Int) > 9)))||q)=false):atoiOK s:=by
 simp only [Bool.or_eq_false_iff,Bool.not_eq_false',decide_eq_false_iff_not] at h
 obtain ⟨⟨h1,h2⟩,_⟩:=h
 obtain ⟨a,b⟩:=Qy8 s _ h1
 refine ⟨?_,by omega,fun i hi=>digits_bytes s s.size 0 (by omega) b i (by omega) hi⟩
 rcases Nat.eq_zero_or_pos s.size with h0|h0
 ·have e:s=⟨#[]⟩:=by
   apply ByteArray.ext
   exact Array.eq_empty_of_size_eq_zero h0
  rw [e] at a
  simp at a
 ·exact h0
def Qe6 (s:ByteArray):Nat->Int->Nat->Int
 | 0,_,_=>0
 | m+1,n,i=>bif (decide ((i:Int)<(ByteArray.size s:Int))) then Qe6 s m (w64 ((w64 (n*10))+(w64 (wu8 (((Qd6 s).getD i 0) - 48))))) (i+1) else n
def QL3 (n:Int):Int × Unit:=(n,())
def Q68 (s:ByteArray):Int × Unit:=QL3 (Qe6 s ((Int.toNat ((ByteArray.size s:Int) - (0:Int)))+1) 0 0)
theorem Qad (s:ByteArray) (hs0:s.size<=4294967296) (hp0:atoiOK s):GV 310 [Sg s] (AVal.tup [I ((Q68 s).1),AVal.lit .nilIface]):=by
 generalize hR:Q68 s=R;refine ga (l1 .nil) (Low.tup' (l1 (l1 .nil))) (kp 11 [30,39,44,47,48,49,50,56,66]) Tryz.func310 ?_;have hk0:=hs0;obtain z11:s.size<=4294967296:=hs0;refine ai (fun h1=>?_) (fun h2=>?_)
 ·refine ai gkA ?_;refine ai gkA ?_;refine ai (fun h3=>?_) (fun h4=>?_)
  ·exfalso;exact atoi_sign hp0 h3
  ·refine Qq0 (fun (n:Int) (i:Nat)=>∃ m,(Int.toNat ((ByteArray.size s:Int) - (i:Int)))<m∧QL3 (Qe6 s m n i)=R∧(i:Int)<=(ByteArray.size s:Int)) (fun n i=>(Int.toNat ((ByteArray.size s:Int) - (i:Int)))) (fun n i=>[(0,Sg s),(2,I 0),(3,AVal.lit .nilIface),(5,Sg s),(6,I n),(47,AVal.own 0 0 1 0 (ByteArray.size s)),(48,I (ByteArray.size s:Int)),(49,I (i:Int))]) (fun n i=>[(0,AObj.row 5 1 ((Qd6 s).map (fun q_=>[Y q_])))]) 0 0 (wk [0] (tO rfl (tl eqA) .nil) (s1 (s1 (s1 (s1 (s1 (sv (to 0 lnA) (s1 (s1 .nil))))))))) ⟨_,Nat.lt_succ_self _,foll hR rfl,by exact exA⟩ ?_;clear hR;rintro n i ⟨m,hm,hR,hx⟩;(try dsimp only at hR hm hx);obtain ⟨m,rfl⟩:=sucA m;refine ai (fun h5=>?_) (fun h6=>?_)
   ·have qh5:=of_decide_eq_true h5;refine ai gkA ?_;refine ⟨_,QA0 rfl rfl rfl (QC0 0 i (by first|rfl|exact Nat.zero_add _|omega) ckA) rfl,?_⟩;refine ai (fun h7=>?_) (fun h8=>?_)
    ·exfalso;exact atoi_digit hp0 (by omega) h7
    ·have qh8:=of_decide_eq_false h8;exact Qd0 (w64 ((w64 (n*10))+(w64 (wu8 (((Qd6 s).getD i 0) - 48))))) (i+1) (wk [0] (tO rfl (tl eqA) .nil) (s1 (s1 (s1 (s1 (s1 (sv (to 0 lnA) (s1 (sv (Qa0 (I_eq (wr omA)) lx) .nil))))))))) omA ⟨m,by exact omA,foll hR (congrArg (fun p:Int=>QL3 p) (ct h5 rfl)),by exact exA⟩
   ·have qh6:=of_decide_eq_false h6;replace hR:QL3 n=R:=fo2 (fun p:Int=>QL3 p) (n) hR (cf h6 rfl);refine ai gkA ?_;refine ai (fun h9=>?_) (fun h10=>?_)
    ·exfalso;exact atoi_minus hp0 h9
    ·obtain rfl:=foll hR rfl;exact Q10 (Low.tup' (l1 (l1 .nil))) (Seen.tup (e1 (e1 .nil)))
 ·exfalso;have ha1:=hp0.1;have ha2:=hp0.2.1;simp at h2;omega
def Qf2 (p_:List Int) (r_:Int) (i:Bool):(List Int):=bif i then (p_++([(wu8 (BitVec.ofInt 8 224 ||| BitVec.ofInt 8 (wu8 (Int.fdiv r_ (2 ^ (min (Int.toNat 12) 32))))).toNat),(wu8 (BitVec.ofInt 8 128 ||| BitVec.ofInt 8 (wu8 (BitVec.ofInt 8 (wu8 (Int.fdiv r_ (2 ^ (min (Int.toNat 6) 32)))) &&& BitVec.ofInt 8 63).toNat)).toNat),(wu8 (BitVec.ofInt 8 128 ||| BitVec.ofInt 8 (wu8 (BitVec.ofInt 8 (wu8 r_) &&& BitVec.ofInt 8 63).toNat)).toNat)]:List Int)) else bif ((decide ((wu32 r_) > 65535))&&(decide ((wu32 r_)<=1114111))) then (p_++([(wu8 (BitVec.ofInt 8 240 ||| BitVec.ofInt 8 (wu8 (Int.fdiv r_ (2 ^ (min (Int.toNat 18) 32))))).toNat),(wu8 (BitVec.ofInt 8 128 ||| BitVec.ofInt 8 (wu8 (BitVec.ofInt 8 (wu8 (Int.fdiv r_ (2 ^ (min (Int.toNat 12) 32)))) &&& BitVec.ofInt 8 63).toNat)).toNat),(wu8 (BitVec.ofInt 8 128 ||| BitVec.ofInt 8 (wu8 (BitVec.ofInt 8 (wu8 (Int.fdiv r_ (2 ^ (min (Int.toNat 6) 32)))) &&& BitVec.ofInt 8 63).toNat)).toNat),(wu8 (BitVec.ofInt 8 128 ||| BitVec.ofInt 8 (wu8 (BitVec.ofInt 8 (wu8 r_) &&& BitVec.ofInt 8 63).toNat)).toNat)]:List Int)) else (p_++([239,191,189]:List Int))
def Qa2 (p_:List Int) (r_:Int):(List Int):=bif (decide ((wu32 r_)<=2047)) then (p_++([(wu8 (BitVec.ofInt 8 192 ||| BitVec.ofInt 8 (wu8 (Int.fdiv r_ (2 ^ (min (Int.toNat 6) 32))))).toNat),(wu8 (BitVec.ofInt 8 128 ||| BitVec.ofInt 8 (wu8 (BitVec.ofInt 8 (wu8 r_) &&& BitVec.ofInt 8 63).toNat)).toNat)]:List Int)) else bif (decide ((wu32 r_)<55296)) then Qf2 p_ r_ (decide ((wu32 r_)<55296)) else Qf2 p_ r_ ((decide (57343<(wu32 r_)))&&(decide ((wu32 r_)<=65535)))
theorem QC7 (p_:List Int) (r_:Int) (hs0:p_.length<=4294967296):AMoves Tryz.prog 309 [AVal.own 0 0 1 0 p_.length,J r_] [(0,AObj.row 5 1 (p_.map (fun q_=>[Y q_])))] 0 (AVal.own 0 0 1 0 (Qa2 p_ r_).length) [(0,AObj.row 5 1 ((Qa2 p_ r_).map (fun q_=>[Y q_])))]:=by
 generalize hR:Qa2 p_ r_=R;refine mo (kj [1000007] 6 [11,25,50]) Tryz.func309 ?_;have hk0:=hs0;obtain z9:p_.length<=4294967296:=hs0;refine ai (fun h1=>?_) (fun h2=>?_)
 ·have qh1:=of_decide_eq_true h1;refine ai gkA ?_;refine Or.inl ?_;(first|refine ⟨Qp1 1 rfl lnA apA,?_⟩|refine ⟨QN0 1 rfl apA,?_⟩);obtain rfl:=foll hR (ct h1 rfl);exact rq (tt [0] (tO rfl (tl eqA) .nil) (to 0 lnA))
 ·have qh2:=of_decide_eq_false h2;refine Qx1 (fun (i:Bool)=>Qf2 p_ r_ i=R) (fun i=>[(0,AVal.own 0 0 1 0 p_.length),(1,J r_),(4,AVal.lit (.slice none 0 0)),(5,V (wu32 r_)),(25,Bo i)]) (fun i=>[(0,AObj.row 5 1 (p_.map (fun q_=>[Y q_])))]) ?_ ?_
  ·clear hR;rintro i hR;(try dsimp only at hR);refine ai (fun h3=>?_) (fun h4=>?_)
   ·refine ai gkA ?_;refine ai gkA ?_;refine Or.inl ?_;(first|refine ⟨Qp1 1 rfl lnA apA,?_⟩|refine ⟨QN0 1 rfl apA,?_⟩);obtain rfl:=foll hR (ct h3 rfl);exact rq (tt [0] (tO rfl (tl eqA) .nil) (to 0 lnA))
   ·refine ai (fun h5=>?_) (fun h6=>?_)
    ·refine ai gkA ?_;refine ai gkA ?_;refine ai gkA ?_;refine Or.inl ?_;(first|refine ⟨Qp1 1 rfl lnA apA,?_⟩|refine ⟨QN0 1 rfl apA,?_⟩);obtain rfl:=foll hR (cf h4 (ct h5 rfl));exact rq (tt [0] (tO rfl (tl eqA) .nil) (to 0 lnA))
    ·refine Or.inl ?_;(first|refine ⟨Qp1 1 rfl lnA apA,?_⟩|refine ⟨QN0 1 rfl apA,?_⟩);obtain rfl:=foll hR (cf h4 (cf h6 rfl));exact rq (tt [0] (tO rfl (tl eqA) .nil) (to 0 lnA))
  ·refine ai (fun h7=>?_) (fun h8=>?_)
   ·have qh7:=of_decide_eq_true h7;exact Qo0 (decide ((wu32 r_)<55296)) (wk [0] (tO rfl (tl eqA) .nil) (sv (to 0 lnA) (s1 (s1 (s1 (s1 .nil)))))) (foll hR (cf h2 (ct h7 rfl)))
   ·have qh8:=of_decide_eq_false h8;exact Qo0 ((decide (57343<(wu32 r_)))&&(decide ((wu32 r_)<=65535))) (wk [0] (tO rfl (tl eqA) .nil) (sv (to 0 lnA) (s1 (s1 (s1 (s1 .nil)))))) (foll hR (cf h2 (cf h8 rfl)))
def QI2 (f:Dep->Bool):List Dep->Nat->Int
 | [],_=>(-1)
 | x_ :: r,i=>bif (f x_) then (i:Int) else QI2 f r (i+1)
def Q81 (s:List Dep) (f:Dep->Bool):Int:=QI2 f s 0
def Q25 (s2:List Alt):List Alt->Nat->Bool
 | [],_=>true
 | x_ :: r,i=>bif (!((x_.nodes==(s2.getD i Alt.zero).nodes)&&(x_.wall==(s2.getD i Alt.zero).wall))) then false else Q25 s2 r (i+1)
def Qi6 (s1_:List Alt) (s2:List Alt):Bool:=bif ((s1_.length:Int)!=(s2.length:Int)) then false else Q25 s2 s1_ 0
theorem QWa (s1_:List Alt) (s2:List Alt) (hs0:s1_.length<=4294967296) (hs1:s2.length<=4294967296):GV 253 [altL s1_,altL s2] (Bo (Qi6 s1_ s2)):=by
 generalize hR:Qi6 s1_ s2=R;refine ga (.cons lw (.cons lw .nil)) lx (kp 6 [10,12,13,14,24]) Tryz.func253 ?_;have hk0:=hs0;obtain z7:s1_.length<=4294967296:=hs0;have hk1:=hs1;obtain z8:s2.length<=4294967296:=hs1;refine ai (fun h1=>?_) (fun h2=>?_)
 ·obtain rfl:=foll hR (ct h1 rfl);exact Q10 lx sr
 ·refine Qs0 (fun (i:Nat)=>Q25 s2 (List.drop i s1_) i=R∧i<=s1_.length) (fun i=>s1_.length - i) (fun i=>[(0,altL s1_),(1,altL s2),(4,Bo false),(12,I (s1_.length:Int)),(13,I (i:Int))]) (fun i=>[]) 0 (wk [] .nil (sl lw (sl lw (s1 (s1 (s1 .nil)))))) ⟨foll hR (cf h2 rfl),by exact omA⟩ ?_;clear hR;rintro i ⟨hR,hj⟩;(try dsimp only at hR hj);refine ai (fun h3=>?_) (fun h4=>?_)
  ·have hlt:=ltA h3;rw [Qi0 Alt.zero hlt] at hR;refine dchk (by kernel_rfl) ?_;refine ai gkA ?_;refine ai gkA ?_;refine ai (fun _=>(by kernel_rfl:eqOK _ _=true)) ?_;(repeat ((first|refine ai rfl ?_|refine ai (fun _=>rfl) ?_)));refine ai (fun h5=>?_) (fun h6=>?_)
   ·obtain rfl:=foll hR (ct h5 rfl);exact Q10 lx sr
   ·exact Qz0 (i+1) (wk [] .nil (sl lw (sl lw (s1 (s1 (sv (Qa0 (I_eq (wr omA)) lx) .nil)))))) omA ⟨foll hR (cf h6 rfl),by exact omA⟩
  ·rw [Ql0 (l:=s1_) (j:=i) (geA h4)] at hR;obtain rfl:=foll hR rfl;exact Q10 lx sr
def Q35 (s2:List Dep):List Dep->Nat->Bool
 | [],_=>true
 | x_ :: r,i=>bif (!((x_.how==(s2.getD i Dep.zero).how)&&(x_.job==(s2.getD i Dep.zero).job))) then false else Q35 s2 r (i+1)
def Qj6 (s1_:List Dep) (s2:List Dep):Bool:=bif ((s1_.length:Int)!=(s2.length:Int)) then false else Q35 s2 s1_ 0
theorem QXa (s1_:List Dep) (s2:List Dep) (hs0:s1_.length<=4294967296) (hs1:s2.length<=4294967296):GV 234 [depL s1_,depL s2] (Bo (Qj6 s1_ s2)):=by
 generalize hR:Qj6 s1_ s2=R;refine ga (.cons lw (.cons lw .nil)) lx (kp 6 [10,12,13,14,24]) Tryz.func234 ?_;have hk0:=hs0;obtain z7:s1_.length<=4294967296:=hs0;have hk1:=hs1;obtain z8:s2.length<=4294967296:=hs1;refine ai (fun h1=>?_) (fun h2=>?_)
 ·obtain rfl:=foll hR (ct h1 rfl);exact Q10 lx sr
 ·refine Qs0 (fun (i:Nat)=>Q35 s2 (List.drop i s1_) i=R∧i<=s1_.length) (fun i=>s1_.length - i) (fun i=>[(0,depL s1_),(1,depL s2),(4,Bo false),(12,I (s1_.length:Int)),(13,I (i:Int))]) (fun i=>[]) 0 (wk [] .nil (sl lw (sl lw (s1 (s1 (s1 .nil)))))) ⟨foll hR (cf h2 rfl),by exact omA⟩ ?_;clear hR;rintro i ⟨hR,hj⟩;(try dsimp only at hR hj);refine ai (fun h3=>?_) (fun h4=>?_)
  ·have hlt:=ltA h3;rw [Qi0 Dep.zero hlt] at hR;refine dchk (by kernel_rfl) ?_;refine ai gkA ?_;refine ai gkA ?_;refine ai (fun _=>(by kernel_rfl:eqOK _ _=true)) ?_;(repeat ((first|refine ai rfl ?_|refine ai (fun _=>rfl) ?_)));refine ai (fun h5=>?_) (fun h6=>?_)
   ·obtain rfl:=foll hR (ct h5 rfl);exact Q10 lx sr
   ·exact Qz0 (i+1) (wk [] .nil (sl lw (sl lw (s1 (s1 (sv (Qa0 (I_eq (wr omA)) lx) .nil)))))) omA ⟨foll hR (cf h6 rfl),by exact omA⟩
  ·rw [Ql0 (l:=s1_) (j:=i) (geA h4)] at hR;obtain rfl:=foll hR rfl;exact Q10 lx sr
def QB5 (c:Cmd) (i1:Bool):Cmd:=bif i1 then (⟨c.kind,0,⟨#[]⟩,⟨#[]⟩,⟨#[]⟩,Shape.zero,0,false,0,false,[],c.node,0,0⟩:Cmd) else bif (c.kind==10) then (⟨c.kind,0,⟨#[]⟩,⟨#[]⟩,⟨#[]⟩,Shape.zero,0,false,c.time,c.hasTime,[],0,c.nodes,c.from_⟩:Cmd) else (⟨c.kind,0,⟨#[]⟩,⟨#[]⟩,⟨#[]⟩,Shape.zero,0,false,0,false,[],0,0,0⟩:Cmd)
def Ql4 (c:Cmd) (i:Bool):Cmd:=bif i then (⟨c.kind,c.job,⟨#[]⟩,⟨#[]⟩,⟨#[]⟩,Shape.zero,0,false,0,false,[],0,0,0⟩:Cmd) else bif (c.kind==5) then (⟨c.kind,c.job,⟨#[]⟩,⟨#[]⟩,⟨#[]⟩,Shape.zero,c.prio,c.hasPrio,c.time,c.hasTime,[],0,0,0⟩:Cmd) else bif (c.kind==6) then (⟨c.kind,c.job,⟨#[]⟩,⟨#[]⟩,⟨#[]⟩,Shape.zero,0,false,0,false,[],0,c.nodes,0⟩:Cmd) else bif (c.kind==7) then QB5 c (c.kind==7) else bif (c.kind==8) then QB5 c (c.kind==8) else QB5 c (c.kind==9)
def QW7 (c:Cmd):Cmd:=bif (c.kind==1) then { c with job:=0,time:=0,hasTime:=false,node:=0,nodes:=0,from_:=0 } else bif (c.kind==2) then Ql4 c (c.kind==2) else bif (c.kind==3) then Ql4 c (c.kind==3) else bif (c.kind==4) then Ql4 c (c.kind==4) else bif (c.kind==11) then Ql4 c (c.kind==11) else Ql4 c (c.kind==12)
theorem cmd_bare_c (c:Cmd) (hs0:c.sz):GV 210 [Cmd.a c] (Cmd.a (QW7 c)):=by
 generalize hR:QW7 c=R;refine ga (.cons (Cmd.low _ _) .nil) (Cmd.low _ _) (kj [1000011,1000019] 4 [8,9,32,41,58,66,73]) Tryz.func210 ?_;have hk0:=hs0;obtain ⟨z25,z26,z27,z28,z29⟩:c.name.size<=4294967296∧c.user.size<=4294967296∧c.account.size<=4294967296∧(c.shape.alts.length<=4294967296)∧c.after.length<=4294967296:=hs0;refine ai (fun h1=>?_) (fun h2=>?_)
 ·refine dchk (by kernel_rfl) ?_;(repeat ((first|refine ai rfl ?_|refine ai (fun _=>rfl) ?_)));(try (refine dchk (by kernel_rfl) ?_));(repeat ((first|refine ai rfl ?_|refine ai (fun _=>rfl) ?_)));obtain rfl:=foll hR (ct h1 rfl);exact Q10 (Cmd.low _ _) sr
 ·refine Qx1 (fun (i:Bool)=>Ql4 c i=R) (fun i=>[(1,AVal.ptr 0 0 18 0 0),(2,AVal.ptr 1 0 18 0 0),(3,AVal.ptr 2 0 18 0 0),(8,I c.kind),(32,Bo i)]) (fun i=>[(0,AObj.row 214 18 [[I c.kind,I c.job,Sg c.name,Sg c.user,Sg c.account,I c.shape.kind,altL c.shape.alts,I c.shape.min,I c.shape.max,I c.shape.wall,I c.prio,Bo c.hasPrio,I c.time,Bo c.hasTime,depL c.after,I c.node,I c.nodes,I c.from_]]),(0,AObj.row 214 18 [[I 0,I 0,Sg ⟨#[]⟩,Sg ⟨#[]⟩,Sg ⟨#[]⟩,I 0,AVal.lit (.slice none 0 0),I 0,I 0,I 0,I 0,Bo false,I 0,Bo false,AVal.lit (.slice none 0 0),I 0,I 0,I 0]]),(0,AObj.row 214 18 [[I c.kind,I 0,Sg ⟨#[]⟩,Sg ⟨#[]⟩,Sg ⟨#[]⟩,I 0,AVal.lit (.slice none 0 0),I 0,I 0,I 0,I 0,Bo false,I 0,Bo false,AVal.lit (.slice none 0 0),I 0,I 0,I 0]])]) ?_ ?_
  ·clear hR;rintro i hR;(try dsimp only at hR);refine ai (fun h3=>?_) (fun h4=>?_)
   ·obtain rfl:=foll hR (ct h3 rfl);exact Q10 (Cmd.low _ _) (Seen.agg (e1 (e1 (e1 (e1 (e1 (e1 (ev (Q50) (e1 (e1 (e1 (e1 (e1 (e1 (e1 (ev (Q50) (e1 (e1 (e1 .nil)))))))))))))))))))
   ·refine ai (fun h5=>?_) (fun h6=>?_)
    ·refine dchk (by kernel_rfl) ?_;(repeat ((first|refine ai rfl ?_|refine ai (fun _=>rfl) ?_)));obtain rfl:=foll hR (cf h4 (ct h5 rfl));exact Q10 (Cmd.low _ _) (Seen.agg (e1 (e1 (e1 (e1 (e1 (e1 (ev (Q50) (e1 (e1 (e1 (e1 (e1 (e1 (e1 (ev (Q50) (e1 (e1 (e1 .nil)))))))))))))))))))
    ·refine ai (fun h7=>?_) (fun h8=>?_)
     ·refine dchk (by kernel_rfl) ?_;(repeat ((first|refine ai rfl ?_|refine ai (fun _=>rfl) ?_)));obtain rfl:=foll hR (cf h4 (cf h6 (ct h7 rfl)));exact Q10 (Cmd.low _ _) (Seen.agg (e1 (e1 (e1 (e1 (e1 (e1 (ev (Q50) (e1 (e1 (e1 (e1 (e1 (e1 (e1 (ev (Q50) (e1 (e1 (e1 .nil)))))))))))))))))))
     ·refine Qx1 (fun (i1:Bool)=>QB5 c i1=R) (fun i1=>[(1,AVal.ptr 0 0 18 0 0),(2,AVal.ptr 1 0 18 0 0),(3,AVal.ptr 2 0 18 0 0),(8,I c.kind),(66,Bo i1)]) (fun i1=>[(0,AObj.row 214 18 [[I c.kind,I c.job,Sg c.name,Sg c.user,Sg c.account,I c.shape.kind,altL c.shape.alts,I c.shape.min,I c.shape.max,I c.shape.wall,I c.prio,Bo c.hasPrio,I c.time,Bo c.hasTime,depL c.after,I c.node,I c.nodes,I c.from_]]),(0,AObj.row 214 18 [[I 0,I 0,Sg ⟨#[]⟩,Sg ⟨#[]⟩,Sg ⟨#[]⟩,I 0,AVal.lit (.slice none 0 0),I 0,I 0,I 0,I 0,Bo false,I 0,Bo false,AVal.lit (.slice none 0 0),I 0,I 0,I 0]]),(0,AObj.row 214 18 [[I c.kind,I 0,Sg ⟨#[]⟩,Sg ⟨#[]⟩,Sg ⟨#[]⟩,I 0,AVal.lit (.slice none 0 0),I 0,I 0,I 0,I 0,Bo false,I 0,Bo false,AVal.lit (.slice none 0 0),I 0,I 0,I 0]])]) ?_ ?_
      ·clear hR;rintro i1 hR;(try dsimp only at hR);refine ai (fun h9=>?_) (fun h10=>?_)
       ·obtain rfl:=foll hR (ct h9 rfl);exact Q10 (Cmd.low _ _) (Seen.agg (e1 (e1 (e1 (e1 (e1 (e1 (ev (Q50) (e1 (e1 (e1 (e1 (e1 (e1 (e1 (ev (Q50) (e1 (e1 (e1 .nil)))))))))))))))))))
       ·refine ai (fun h11=>?_) (fun h12=>?_)
        ·refine dchk (by kernel_rfl) ?_;(repeat ((first|refine ai rfl ?_|refine ai (fun _=>rfl) ?_)));obtain rfl:=foll hR (cf h10 (ct h11 rfl));exact Q10 (Cmd.low _ _) (Seen.agg (e1 (e1 (e1 (e1 (e1 (e1 (ev (Q50) (e1 (e1 (e1 (e1 (e1 (e1 (e1 (ev (Q50) (e1 (e1 (e1 .nil)))))))))))))))))))
        ·obtain rfl:=foll hR (cf h10 (cf h12 rfl));exact Q10 (Cmd.low _ _) (Seen.agg (e1 (e1 (e1 (e1 (e1 (e1 (ev (Q50) (e1 (e1 (e1 (e1 (e1 (e1 (e1 (ev (Q50) (e1 (e1 (e1 .nil)))))))))))))))))))
      ·refine ai (fun h13=>?_) (fun h14=>?_)
       ·exact Qo0 (c.kind==7) (wk [0,1,2] (tO rfl (ts Cmd.lo) (tO rfl (ts (l1 (l1 (l1 (l1 (l1 (l1 (l1 (l1 (l1 (l1 (l1 (l1 (l1 (l1 (l1 (l1 (l1 (l1 LowL.nil))))))))))))))))))) (tO rfl (ts (l1 (l1 (l1 (l1 (l1 (l1 (l1 (l1 (l1 (l1 (l1 (l1 (l1 (l1 (l1 (l1 (l1 (l1 LowL.nil))))))))))))))))))) .nil))) (sv (Q00 0 rfl rfl) (sv (Q00 1 rfl rfl) (sv (Q00 2 rfl rfl) (s1 (s1 .nil)))))) (foll hR (cf h4 (cf h6 (cf h8 (ct h13 rfl)))))
       ·refine ai (fun h15=>?_) (fun h16=>?_)
        ·exact Qo0 (c.kind==8) (wk [0,1,2] (tO rfl (ts Cmd.lo) (tO rfl (ts (l1 (l1 (l1 (l1 (l1 (l1 (l1 (l1 (l1 (l1 (l1 (l1 (l1 (l1 (l1 (l1 (l1 (l1 LowL.nil))))))))))))))))))) (tO rfl (ts (l1 (l1 (l1 (l1 (l1 (l1 (l1 (l1 (l1 (l1 (l1 (l1 (l1 (l1 (l1 (l1 (l1 (l1 LowL.nil))))))))))))))))))) .nil))) (sv (Q00 0 rfl rfl) (sv (Q00 1 rfl rfl) (sv (Q00 2 rfl rfl) (s1 (s1 .nil)))))) (foll hR (cf h4 (cf h6 (cf h8 (cf h14 (ct h15 rfl))))))
        ·exact Qo0 (c.kind==9) (wk [0,1,2] (tO rfl (ts Cmd.lo) (tO rfl (ts (l1 (l1 (l1 (l1 (l1 (l1 (l1 (l1 (l1 (l1 (l1 (l1 (l1 (l1 (l1 (l1 (l1 (l1 LowL.nil))))))))))))))))))) (tO rfl (ts (l1 (l1 (l1 (l1 (l1 (l1 (l1 (l1 (l1 (l1 (l1 (l1 (l1 (l1 (l1 (l1 (l1 (l1 LowL.nil))))))))))))))))))) .nil))) (sv (Q00 0 rfl rfl) (sv (Q00 1 rfl rfl) (sv (Q00 2 rfl rfl) (s1 (s1 .nil)))))) (foll hR (cf h4 (cf h6 (cf h8 (cf h14 (cf h16 rfl))))))
  ·refine ai (fun h17=>?_) (fun h18=>?_)
   ·exact Qo0 (c.kind==2) (wk [0,1,2] (tO rfl (ts Cmd.lo) (tO rfl (ts (l1 (l1 (l1 (l1 (l1 (l1 (l1 (l1 (l1 (l1 (l1 (l1 (l1 (l1 (l1 (l1 (l1 (l1 LowL.nil))))))))))))))))))) (tO rfl (ts (l1 (l1 (l1 (l1 (l1 (l1 (l1 (l1 (l1 (l1 (l1 (l1 (l1 (l1 (l1 (l1 (l1 (l1 LowL.nil))))))))))))))))))) .nil))) (sv (Q00 0 rfl rfl) (sv (Q00 1 rfl rfl) (sv (Q00 2 rfl rfl) (s1 (s1 .nil)))))) (foll hR (cf h2 (ct h17 rfl)))
   ·refine ai (fun h19=>?_) (fun h20=>?_)
    ·exact Qo0 (c.kind==3) (wk [0,1,2] (tO rfl (ts Cmd.lo) (tO rfl (ts (l1 (l1 (l1 (l1 (l1 (l1 (l1 (l1 (l1 (l1 (l1 (l1 (l1 (l1 (l1 (l1 (l1 (l1 LowL.nil))))))))))))))))))) (tO rfl (ts (l1 (l1 (l1 (l1 (l1 (l1 (l1 (l1 (l1 (l1 (l1 (l1 (l1 (l1 (l1 (l1 (l1 (l1 LowL.nil))))))))))))))))))) .nil))) (sv (Q00 0 rfl rfl) (sv (Q00 1 rfl rfl) (sv (Q00 2 rfl rfl) (s1 (s1 .nil)))))) (foll hR (cf h2 (cf h18 (ct h19 rfl))))
    ·refine ai (fun h21=>?_) (fun h22=>?_)
     ·exact Qo0 (c.kind==4) (wk [0,1,2] (tO rfl (ts Cmd.lo) (tO rfl (ts (l1 (l1 (l1 (l1 (l1 (l1 (l1 (l1 (l1 (l1 (l1 (l1 (l1 (l1 (l1 (l1 (l1 (l1 LowL.nil))))))))))))))))))) (tO rfl (ts (l1 (l1 (l1 (l1 (l1 (l1 (l1 (l1 (l1 (l1 (l1 (l1 (l1 (l1 (l1 (l1 (l1 (l1 LowL.nil))))))))))))))))))) .nil))) (sv (Q00 0 rfl rfl) (sv (Q00 1 rfl rfl) (sv (Q00 2 rfl rfl) (s1 (s1 .nil)))))) (foll hR (cf h2 (cf h18 (cf h20 (ct h21 rfl)))))
     ·refine ai (fun h23=>?_) (fun h24=>?_)
      ·exact Qo0 (c.kind==11) (wk [0,1,2] (tO rfl (ts Cmd.lo) (tO rfl (ts (l1 (l1 (l1 (l1 (l1 (l1 (l1 (l1 (l1 (l1 (l1 (l1 (l1 (l1 (l1 (l1 (l1 (l1 LowL.nil))))))))))))))))))) (tO rfl (ts (l1 (l1 (l1 (l1 (l1 (l1 (l1 (l1 (l1 (l1 (l1 (l1 (l1 (l1 (l1 (l1 (l1 (l1 LowL.nil))))))))))))))))))) .nil))) (sv (Q00 0 rfl rfl) (sv (Q00 1 rfl rfl) (sv (Q00 2 rfl rfl) (s1 (s1 .nil)))))) (foll hR (cf h2 (cf h18 (cf h20 (cf h22 (ct h23 rfl))))))
      ·exact Qo0 (c.kind==12) (wk [0,1,2] (tO rfl (ts Cmd.lo) (tO rfl (ts (l1 (l1 (l1 (l1 (l1 (l1 (l1 (l1 (l1 (l1 (l1 (l1 (l1 (l1 (l1 (l1 (l1 (l1 LowL.nil))))))))))))))))))) (tO rfl (ts (l1 (l1 (l1 (l1 (l1 (l1 (l1 (l1 (l1 (l1 (l1 (l1 (l1 (l1 (l1 (l1 (l1 (l1 LowL.nil))))))))))))))))))) .nil))) (sv (Q00 0 rfl rfl) (sv (Q00 1 rfl rfl) (sv (Q00 2 rfl rfl) (s1 (s1 .nil)))))) (foll hR (cf h2 (cf h18 (cf h20 (cf h22 (cf h24 rfl))))))
theorem Qu9 (c:Cmd) (b:Bool):(QB5 c b).sz:=by
 cases b <;> simp only [QB5,cond_true,cond_false]
 ·cases (c.kind==10) <;> simp [Cmd.sz,Cmd.szN,Shape.szN,Shape.zero,ByteArray.size]
 ·simp [Cmd.sz,Cmd.szN,Shape.szN,Shape.zero,ByteArray.size]
theorem QQ5 (c:Cmd) (b:Bool):(Ql4 c b).sz:=by
 cases b <;> simp only [Ql4,cond_true,cond_false]
 ·cases (c.kind==5) <;> simp only [cond_true,cond_false]
  ·cases (c.kind==6) <;> simp only [cond_true,cond_false]
   ·cases (c.kind==7) <;> simp only [cond_true,cond_false]
    ·cases (c.kind==8) <;> simp only [cond_true,cond_false] <;> exact Qu9 _ _
    ·exact Qu9 _ _
   ·simp [Cmd.sz,Cmd.szN,Shape.szN,Shape.zero,ByteArray.size]
  ·simp [Cmd.sz,Cmd.szN,Shape.szN,Shape.zero,ByteArray.size]
 ·simp [Cmd.sz,Cmd.szN,Shape.szN,Shape.zero,ByteArray.size]
theorem cmd_bare_sz (c:Cmd) (h:c.sz):(QW7 c).sz:=by
 unfold QW7
 cases (c.kind==1) <;> simp only [cond_true,cond_false]
 ·cases (c.kind==2) <;> simp only [cond_true,cond_false]
  ·cases (c.kind==3) <;> simp only [cond_true,cond_false]
   ·cases (c.kind==4) <;> simp only [cond_true,cond_false]
    ·cases (c.kind==11) <;> simp only [cond_true,cond_false] <;> exact QQ5 _ _
    ·exact QQ5 _ _
   ·exact QQ5 _ _
  ·exact QQ5 _ _
 ·exact h
def Qy0 (v:Job):Cmd:=(⟨1,0,v.name,v.user,v.account,v.shape,v.prio,true,0,false,v.after,0,0,0⟩:Cmd)
theorem Q36 (v:Job):GV 153 [Job.a v] (Cmd.a (Qy0 v)):=by
 generalize hR:Qy0 v=R;refine ga (.cons (Job.low _ _) .nil) (Cmd.low _ _) (kp 3 []) Tryz.func153 ?_;obtain rfl:=foll hR rfl;exact Q10 (Cmd.low _ _) sr
theorem Qc4 (l:List Alt) (hs0:l.length<=4294967296):GV 140 [altL l] (altL l):=by
 refine AGives.any' (.cons lw .nil) lw (ACalls.of_cwp (fun _=>true) Tryz.func140 rfl rfl ?_)
 obtain z1:l.length<=4294967296:=hs0
 intro b hb
 refine ai (fun h1=>?_) (fun h2=>?_)
 ·have hl:l=[]:=by
   rcases l with _|⟨x,r⟩
   ·rfl
   ·exact absurd ((hb (by simp)).symm.trans h1) (by decide)
  subst hl
  exact Qvc (fun r:List Alt=>altL r) (leaf:=[]) rfl lw Q50
 ·refine ⟨QN0 16 rfl apA,?_⟩
  exact Qvc (fun r:List Alt=>altL r) (leaf:=l) rfl lw (Qn0 Alt.zero _ rfl eqA lnA)
theorem QVa (l:List Alt) (hs0:l.length<=4294967296):AMoves Tryz.prog 140 [altL l] [] 0 (AVal.own 0 0 2 0 l.length) [(0,AObj.row 122 2 (l.map Alt.cells))]:=by
 refine AMoves.of_cwp (fun _=>true) Tryz.func140 rfl rfl rfl ?_
 obtain z1:l.length<=4294967296:=hs0
 intro b hb
 refine ai (fun h1=>?_) (fun h2=>?_)
 ·have hl:l=[]:=by
   rcases l with _|⟨x,r⟩
   ·rfl
   ·exact absurd ((hb (by simp)).symm.trans h1) (by decide)
  subst hl
  refine Qp0 (fun r:List Alt=>AVal.own 0 0 2 0 r.length) (fun r:List Alt=>[(0,AObj.row 122 2 (r.map Alt.cells))]) (leaf:=[]) rfl ?_
  exact Told.pad 122 2 (QQ2 [0] rfl (by decide) (tO rfl (tl eqA) .nil) (Q51 0 rfl))
 ·refine ⟨QN0 16 rfl apA,?_⟩
  refine Qp0 (fun r:List Alt=>AVal.own 0 0 2 0 r.length) (fun r:List Alt=>[(0,AObj.row 122 2 (r.map Alt.cells))]) (leaf:=l) rfl ?_
  exact QQ2 [0] rfl (by decide) (tO rfl (tl eqA) .nil) (to 0 lnA)
def Qd3 (n:Int):Int:=(wu64 (1*2 ^ (min (Int.toNat (wu64 n)) 64)))
theorem Qr5 (n:Int):GV 66 [I n] (U (Qd3 n)):=by
 generalize hR:Qd3 n=R;refine ga (l1 .nil) lx (kp 3 []) Tryz.func66 ?_;refine ai gkA ?_;obtain rfl:=foll hR rfl;exact Q10 lx sr
def oc1 (x_:Int):Int:=(wu64 ((wu64 (BitVec.ofInt 64 (Int.fdiv x_ (2 ^ (min (Int.toNat 1) 64))) &&& BitVec.ofInt 64 6148914691236517205).toNat)+(wu64 (BitVec.ofInt 64 x_ &&& BitVec.ofInt 64 6148914691236517205).toNat)))
def oc2 (x_:Int):Int:=(wu64 ((wu64 (BitVec.ofInt 64 (Int.fdiv x_ (2 ^ (min (Int.toNat 2) 64))) &&& BitVec.ofInt 64 3689348814741910323).toNat)+(wu64 (BitVec.ofInt 64 x_ &&& BitVec.ofInt 64 3689348814741910323).toNat)))
def oc3 (x_:Int):Int:=(wu64 (BitVec.ofInt 64 (wu64 ((Int.fdiv x_ (2 ^ (min (Int.toNat 4) 64)))+x_)) &&& BitVec.ofInt 64 1085102592571150095).toNat)
def Qc6 (x_:Int):Int:=(w64 (BitVec.ofInt 64 (w64 (wu64 ((wu64 ((wu64 ((oc3 (oc2 (oc1 x_)))+(Int.fdiv (oc3 (oc2 (oc1 x_))) (2 ^ (min (Int.toNat 8) 64)))))+(Int.fdiv (wu64 ((oc3 (oc2 (oc1 x_)))+(Int.fdiv (oc3 (oc2 (oc1 x_))) (2 ^ (min (Int.toNat 8) 64))))) (2 ^ (min (Int.toNat 16) 64)))))+(Int.fdiv (wu64 ((wu64 ((oc3 (oc2 (oc1 x_)))+(Int.fdiv (oc3 (oc2 (oc1 x_))) (2 ^ (min (Int.toNat 8) 64)))))+(Int.fdiv (wu64 ((oc3 (oc2 (oc1 x_)))+(Int.fdiv (oc3 (oc2 (oc1 x_))) (2 ^ (min (Int.toNat 8) 64))))) (2 ^ (min (Int.toNat 16) 64))))) (2 ^ (min (Int.toNat 32) 64)))))) &&& BitVec.ofInt 64 127).toNat)
theorem Qfa (x_:Int):GV 205 [U x_] (I (Qc6 x_)):=by
 generalize hR:Qc6 x_=R;refine ga (l1 .nil) lx (kp 3 []) Tryz.func205 ?_;refine ai gkA ?_;refine ai gkA ?_;refine ai gkA ?_;refine ai gkA ?_;refine ai gkA ?_;refine ai gkA ?_;obtain rfl:=foll hR rfl;exact Q10 lx sr
def Qw3 (f:Node->Bool):List Node->Nat->Int
 | [],_=>(-1)
 | x_ :: r,i=>bif (f x_) then (i:Int) else Qw3 f r (i+1)
def Q32 (s:List Node) (f:Node->Bool):Int:=Qw3 f s 0
def QT2 (v:Int):List Int->Nat->Int
 | [],_=>(-1)
 | x_ :: r,i=>bif (v==x_) then (i:Int) else QT2 v r (i+1)
def Qk6 (s:List Int) (v:Int):Int:=QT2 v s 0
theorem QYa (s:List Int) (v:Int) (hs0:s.length<=4294967296):GV 138 [ints s,I v] (I (Qk6 s v)):=by
 generalize hR:Qk6 s v=R;refine ga (.cons lw (l1 .nil)) lx (kp 6 [7,8,9,16]) Tryz.func138 ?_;have hk0:=hs0;obtain z5:s.length<=4294967296:=hs0;refine Qs0 (fun (i:Nat)=>QT2 v (List.drop i s) i=R∧i<=s.length) (fun i=>s.length - i) (fun i=>[(0,ints s),(1,I v),(4,I 0),(7,I (s.length:Int)),(8,I (i:Int))]) (fun i=>[]) 0 (wk [] .nil (sl lw (s1 (s1 (s1 (s1 .nil)))))) ⟨foll hR rfl,by exact omA⟩ ?_;clear hR;rintro i ⟨hR,hj⟩;(try dsimp only at hR hj);refine ai (fun h1=>?_) (fun h2=>?_)
 ·have hlt:=ltA h1;rw [Qi0 0 hlt] at hR;refine ai gkA ?_;refine ai (fun h3=>?_) (fun h4=>?_)
  ·obtain rfl:=foll hR (ct h3 rfl);exact Q10 lx sr
  ·exact Qz0 (i+1) (wk [] .nil (sl lw (s1 (s1 (s1 (sv (Qa0 (I_eq (wr omA)) lx) .nil)))))) omA ⟨foll hR (cf h4 rfl),by exact omA⟩
 ·rw [Ql0 (l:=s) (j:=i) (geA h2)] at hR;obtain rfl:=foll hR rfl;exact Q10 lx sr
def QB6 (n:Int):Bool:=((decide (n >= 0))&&(decide (n<=1000000)))
theorem QJ8 (n:Int):GV 105 [I n] (Bo (QB6 n)):=by
 generalize hR:QB6 n=R;refine ga (l1 .nil) lx (kp 3 []) Tryz.func105 ?_;obtain rfl:=foll hR rfl;exact Q10 lx sr
def QFc (b:Book):Bool:=(((((((decide (b.id >= 1))&&(decide (b.id<=99999)))&&(decide (b.from_ >= 0)))&&(decide (b.to > b.from_)))&&(decide (b.to<=1000000)))&&(decide (b.nodes >= 1)))&&(decide (b.nodes<=48)))
theorem QGc (b:Book):GV 171 [Book.a b] (Bo (QFc b)):=by
 generalize hR:QFc b=R;refine ga (.cons (Book.low _ _) .nil) lx (kp 3 []) Tryz.func171 ?_;obtain rfl:=foll hR rfl;exact Q10 lx sr
def Q98 (s:ByteArray):Bool:=((decide ((ByteArray.size s:Int) >= 1))&&(decide ((ByteArray.size s:Int)<=64)))
theorem Qv6 (s:ByteArray):GV 158 [Sg s] (Bo (Q98 s)):=by
 generalize hR:Q98 s=R;refine ga (l1 .nil) lx (kp 3 []) Tryz.func158 ?_;obtain rfl:=foll hR rfl;exact Q10 lx sr
def QY7 :List Int->Nat->Int
 | [],_=>0
 | x_ :: r,i=>bif (x_ != 0) then x_ else QY7 r (i+1)
def Qdb (vals:List Int):Int:=QY7 vals 0
theorem QDb (vals:List Int) (hs0:vals.length<=4294967296):GV 213 [ints vals] (I (Qdb vals)):=by
 generalize hR:Qdb vals=R;refine ga (.cons lw .nil) lx (kp 6 [6,7,8,9,14]) Tryz.func213 ?_;have hk0:=hs0;obtain z5:vals.length<=4294967296:=hs0;refine Qs0 (fun (i:Nat)=>QY7 (List.drop i vals) i=R∧i<=vals.length) (fun i=>vals.length - i) (fun i=>[(2,I 0),(3,I 0),(6,ints vals),(7,I (vals.length:Int)),(8,I (i:Int))]) (fun i=>[]) 0 (wk [] .nil (s1 (s1 (sl lw (s1 (s1 .nil)))))) ⟨foll hR rfl,by exact omA⟩ ?_;clear hR;rintro i ⟨hR,hj⟩;(try dsimp only at hR hj);refine ai (fun h1=>?_) (fun h2=>?_)
 ·have hlt:=ltA h1;rw [Qi0 0 hlt] at hR;refine ai gkA ?_;refine ai (fun h3=>?_) (fun h4=>?_)
  ·obtain rfl:=foll hR (ct h3 rfl);exact Q10 lx sr
  ·exact Qz0 (i+1) (wk [] .nil (s1 (s1 (sl lw (s1 (sv (Qa0 (I_eq (wr omA)) lx) .nil)))))) omA ⟨foll hR (cf h4 rfl),by exact omA⟩
 ·rw [Ql0 (l:=vals) (j:=i) (geA h2)] at hR;obtain rfl:=foll hR rfl;exact Q10 lx sr
def QI3 (x_:ByteArray):Bool:=(!(ByteArray.toList x_==ByteArray.toList x_))
theorem Q17 (x_:ByteArray):GV 235 [Sg x_] (Bo (QI3 x_)):=by
 generalize hR:QI3 x_=R;refine ga (l1 .nil) lx (kp 3 []) Tryz.func235 ?_;obtain rfl:=foll hR rfl;exact Q10 lx sr
def QI6 (n:Int) (last:Int):Bool:=(((decide (n >= 1))&&(decide (n<=100000)))&&(decide (n > last)))
theorem Q3c (n:Int) (last:Int):GV 39 [I n,I last] (Bo (QI6 n last)):=by
 generalize hR:QI6 n last=R;refine ga (l1 (l1 .nil)) lx (kp 5 []) Tryz.func39 ?_;obtain rfl:=foll hR rfl;exact Q10 lx sr
def Qh3 (id_:Int):Bool:=((decide (id_ >= 1))&&(decide (id_<=99999)))
theorem table_known_c (id_:Int):GV 62 [I id_] (Bo (Qh3 id_)):=by
 generalize hR:Qh3 id_=R;refine ga (l1 .nil) lx (kp 3 []) Tryz.func62 ?_;obtain rfl:=foll hR rfl;exact Q10 lx sr
def Qx0 (x_:List Job) (target:Int) (cmp:Job->Int->Int):Nat->Int->Int->Int × Int
 | 0,_,_=>(0,0)
 | m+1,i,j=>bif (decide (i<j)) then bif (decide ((cmp (x_.getD (Int.toNat (w64 (Int.fdiv (wu64 (w64 (i+j))) (2 ^ (min (Int.toNat 1) 64))))) Job.zero) target)<0)) then Qx0 x_ target cmp m (w64 ((w64 (Int.fdiv (wu64 (w64 (i+j))) (2 ^ (min (Int.toNat 1) 64))))+1)) j else Qx0 x_ target cmp m i (w64 (Int.fdiv (wu64 (w64 (i+j))) (2 ^ (min (Int.toNat 1) 64)))) else (i,j)
def Q41 (x_:List Job) (target:Int) (cmp:Job->Int->Int) (i:Int) (j:Int):Int × Bool:=(i,((decide (i<(x_.length:Int)))&&((cmp (x_.getD (Int.toNat i) Job.zero) target)==0)))
def QR0 (x_:List Job) (target:Int) (cmp:Job->Int->Int):Int × Bool:=Q41 x_ target cmp ((Qx0 x_ target cmp ((Int.toNat ((x_.length:Int) - 0))+1) 0 (x_.length:Int)).1) ((Qx0 x_ target cmp ((Int.toNat ((x_.length:Int) - 0))+1) 0 (x_.length:Int)).2)
def Qpc (l:List Job):(List Job):=l
theorem Qo7 (l:List Job) (hs0:l.length<=4294967296∧(∀ y ∈ l,y.sz)):AMoves Tryz.prog 119 [jobL l] [] 0 (AVal.own 0 0 20 0 l.length) [(0,AObj.row 52 20 (l.map Job.cells))]:=by
 generalize hR:Qpc l=R;refine mo (kp 3 []) Tryz.func119 ?_;obtain ⟨z1,z2⟩:=id hs0;refine ai gkA ?_;(first|refine ⟨Qp1 216 rfl lnA apA,?_⟩|refine ⟨QN0 216 rfl apA,?_⟩);obtain rfl:=foll hR rfl;exact rq (tt [0] (tO rfl (tl eqA) .nil) (to 0 lnA))
def Qnc (l:List Alt):(List Alt):=l
theorem Q1b (l:List Alt) (hs0:l.length<=4294967296):GV 120 [altL l] (altL l):=by
 generalize hR:Qnc l=R;refine ga (.cons lw .nil) lw (kp 3 []) Tryz.func120 ?_;have hk0:=hs0;obtain z1:l.length<=4294967296:=hs0;refine ai gkA ?_;(first|refine ⟨Qp1 16 rfl lnA apA,?_⟩|refine ⟨QN0 16 rfl apA,?_⟩);obtain rfl:=foll hR rfl;exact Q10 lw (Qn0 Alt.zero _ rfl eqA lnA)
def Qoc (l:List Dep):(List Dep):=l
theorem Q2b (l:List Dep) (hs0:l.length<=4294967296):GV 121 [depL l] (depL l):=by
 generalize hR:Qoc l=R;refine ga (.cons lw .nil) lw (kp 3 []) Tryz.func121 ?_;have hk0:=hs0;obtain z1:l.length<=4294967296:=hs0;refine ai gkA ?_;(first|refine ⟨Qp1 16 rfl lnA apA,?_⟩|refine ⟨QN0 16 rfl apA,?_⟩);obtain rfl:=foll hR rfl;exact Q10 lw (Qn0 Dep.zero _ rfl eqA lnA)
def QZ2 (i:Bool):Int:=bif i then 1 else 2
def Qb4 (s:List (Int × Int)) (d:Dep):Int:=bif (!(getM d.job s).isSome) then 2 else bif (decide (((getM d.job s).getD 0)<3)) then 0 else bif (d.how==1) then QZ2 (d.how==1) else bif ((d.how==2)&&(((getM d.job s).getD 0)==3)) then QZ2 ((d.how==2)&&(((getM d.job s).getD 0)==3)) else QZ2 ((d.how==3)&&(((getM d.job s).getD 0)!=3))
theorem Qn6 (s:List (Int × Int)) (d:Dep):AMoves Tryz.prog 116 [AVal.map 0,Dep.a d] [(0,AObj.other (.map (mapEs ik I 0 s) s.length))] 1 (I (Qb4 s d)) [(0,AObj.other (.map (mapEs ik I 0 s) s.length))]:=by
 generalize hR:Qb4 s d=R;refine mo (kj [1000009] 7 [14,17,20]) Tryz.func116 ?_;(first|refine ⟨_,_,Q61 rfl _ _,QL0 (ek:=ik) d.job s 0 (AsA.refl _),?_⟩|refine ⟨_,fun _=>⟨_,_,Q61 rfl _ _,QL0 (ek:=ik) d.job s 0 (AsA.refl _),rfl,rfl⟩,?_⟩|refine ⟨_,rfl,⟨_,_,Q61 rfl _ _,QL0 (ek:=ik) d.job s 0 (AsA.refl _),Sub.refl _,rfl⟩,?_⟩);refine ai (fun h1=>?_) (fun h2=>?_)
 ·obtain rfl:=foll hR (ct h1 rfl);exact rq (tt [0] (tO rfl (Qb0 _ rfl rfl (fun _=>lx)) .nil) t1)
 ·refine ai (fun h3=>?_) (fun h4=>?_)
  ·have qh3:=of_decide_eq_true h3;obtain rfl:=foll hR (cf h2 (ct h3 rfl));exact rq (tt [0] (tO rfl (Qb0 _ rfl rfl (fun _=>lx)) .nil) t1)
  ·have qh4:=of_decide_eq_false h4;refine Qx1 (fun (i:Bool)=>QZ2 i=R) (fun i=>[(4,I 0),(20,Bo i)]) (fun i=>[(0,AObj.other (.map (mapEs ik I 0 s) s.length))]) ?_ ?_
   ·clear hR;rintro i hR;(try dsimp only at hR);refine ai (fun h5=>?_) (fun h6=>?_)
    ·obtain rfl:=foll hR (ct h5 rfl);exact rq (tt [0] (tO rfl (Qb0 _ rfl rfl (fun _=>lx)) .nil) t1)
    ·obtain rfl:=foll hR (cf h6 rfl);exact rq (tt [0] (tO rfl (Qb0 _ rfl rfl (fun _=>lx)) .nil) t1)
   ·refine ai (fun h7=>?_) (fun h8=>?_)
    ·exact Qo0 (d.how==1) (wk [0] (tO rfl (Qb0 _ rfl rfl (fun _=>lx)) .nil) (s1 (s1 .nil))) (foll hR (cf h2 (cf h4 (ct h7 rfl))))
    ·refine ai (fun h9=>?_) (fun h10=>?_)
     ·exact Qo0 ((d.how==2)&&(((getM d.job s).getD 0)==3)) (wk [0] (tO rfl (Qb0 _ rfl rfl (fun _=>lx)) .nil) (s1 (s1 .nil))) (foll hR (cf h2 (cf h4 (cf h8 (ct h9 rfl)))))
     ·exact Qo0 ((d.how==3)&&(((getM d.job s).getD 0)!=3)) (wk [0] (tO rfl (Qb0 _ rfl rfl (fun _=>lx)) .nil) (s1 (s1 .nil))) (foll hR (cf h2 (cf h4 (cf h8 (cf h10 rfl)))))
def QAb (l:List Node):(List Node):=l
theorem QX6 (l:List Node) (hs0:l.length<=4294967296):AMoves Tryz.prog 69 [nodeL l] [] 0 (AVal.own 0 0 7 0 l.length) [(0,AObj.row 44 7 (l.map Node.cells))]:=by
 generalize hR:QAb l=R;refine mo (kp 3 []) Tryz.func69 ?_;have hk0:=hs0;obtain z1:l.length<=4294967296:=hs0;(first|refine ⟨Qp1 56 rfl lnA apA,?_⟩|refine ⟨QN0 56 rfl apA,?_⟩);obtain rfl:=foll hR rfl;exact rq (tt [0] (tO rfl (tl eqA) .nil) (to 0 lnA))
def Qmc (l:List Job):(List Job):=l
theorem Qj7 (l:List Job) (hs0:l.length<=4294967296∧(∀ y ∈ l,y.sz)):AMoves Tryz.prog 70 [jobL l] [] 0 (AVal.own 0 0 20 0 l.length) [(0,AObj.row 52 20 (l.map Job.cells))]:=by
 generalize hR:Qmc l=R;refine mo (kp 3 []) Tryz.func70 ?_;obtain ⟨z1,z2⟩:=id hs0;(first|refine ⟨Qp1 216 rfl lnA apA,?_⟩|refine ⟨QN0 216 rfl apA,?_⟩);obtain rfl:=foll hR rfl;exact rq (tt [0] (tO rfl (tl eqA) .nil) (to 0 lnA))
def Q7a (l:List Resize):(List Resize):=l
theorem Qa6 (l:List Resize) (hs0:l.length<=4294967296):AMoves Tryz.prog 71 [Qq1 l] [] 0 (AVal.own 0 0 5 0 l.length) [(0,AObj.row 126 5 (l.map Resize.cells))]:=by
 generalize hR:Q7a l=R;refine mo (kp 3 []) Tryz.func71 ?_;have hk0:=hs0;obtain z1:l.length<=4294967296:=hs0;(first|refine ⟨Qp1 40 rfl lnA apA,?_⟩|refine ⟨QN0 40 rfl apA,?_⟩);obtain rfl:=foll hR rfl;exact rq (tt [0] (tO rfl (tl eqA) .nil) (to 0 lnA))
def Qzb (l:List Book):(List Book):=l
theorem QW6 (l:List Book) (hs0:l.length<=4294967296):AMoves Tryz.prog 72 [bookL l] [] 0 (AVal.own 0 0 4 0 l.length) [(0,AObj.row 83 4 (l.map Book.cells))]:=by
 generalize hR:Qzb l=R;refine mo (kp 3 []) Tryz.func72 ?_;have hk0:=hs0;obtain z1:l.length<=4294967296:=hs0;(first|refine ⟨Qp1 32 rfl lnA apA,?_⟩|refine ⟨QN0 32 rfl apA,?_⟩);obtain rfl:=foll hR rfl;exact rq (tt [0] (tO rfl (tl eqA) .nil) (to 0 lnA))
def QZa (l:List Usage):(List Usage):=l
theorem Qq6 (l:List Usage) (hs0:l.length<=4294967296∧(∀ y ∈ l,y.sz)):AMoves Tryz.prog 73 [Qt1 l] [] 0 (AVal.own 0 0 4 0 l.length) [(0,AObj.row 120 4 (l.map Usage.cells))]:=by
 generalize hR:QZa l=R;refine mo (kp 3 []) Tryz.func73 ?_;obtain ⟨z1,z2⟩:=id hs0;(first|refine ⟨Qp1 48 rfl lnA apA,?_⟩|refine ⟨QN0 48 rfl apA,?_⟩);obtain rfl:=foll hR rfl;exact rq (tt [0] (tO rfl (tl eqA) .nil) (to 0 lnA))
def Qkc (l:List Alt):(List Alt):=l
theorem Qf4 (l:List Alt) (hs0:l.length<=4294967296):GV 74 [altL l] (altL l):=by
 generalize hR:Qkc l=R;refine ga (.cons lw .nil) lw (kp 3 []) Tryz.func74 ?_;have hk0:=hs0;obtain z1:l.length<=4294967296:=hs0;(first|refine ⟨Qp1 16 rfl lnA apA,?_⟩|refine ⟨QN0 16 rfl apA,?_⟩);obtain rfl:=foll hR rfl;exact Q10 lw (Qn0 Alt.zero _ rfl eqA lnA)
def Qlc (l:List Dep):(List Dep):=l
theorem Qg4 (l:List Dep) (hs0:l.length<=4294967296):GV 75 [depL l] (depL l):=by
 generalize hR:Qlc l=R;refine ga (.cons lw .nil) lw (kp 3 []) Tryz.func75 ?_;have hk0:=hs0;obtain z1:l.length<=4294967296:=hs0;(first|refine ⟨Qp1 16 rfl lnA apA,?_⟩|refine ⟨QN0 16 rfl apA,?_⟩);obtain rfl:=foll hR rfl;exact Q10 lw (Qn0 Dep.zero _ rfl eqA lnA)
def Qn5 (ok:Bool):Int:=bif (!ok) then 141 else 0
theorem job_when_c (ok:Bool):GV 125 [Bo ok] (I (Qn5 ok)):=by
 generalize hR:Qn5 ok=R;refine ga (l1 .nil) lx (kp 3 [4]) Tryz.func125 ?_;refine ai (fun h1=>?_) (fun h2=>?_)
 ·obtain rfl:=foll hR (ct h1 rfl);exact Q10 lx sr
 ·obtain rfl:=foll hR (cf h2 rfl);exact Q10 lx sr
theorem Qd4 (l:List Dep) (hs0:l.length<=4294967296):GV 187 [depL l] (depL l):=by
 refine AGives.any' (.cons lw .nil) lw (ACalls.of_cwp (fun _=>true) Tryz.func187 rfl rfl ?_)
 obtain z3:l.length<=4294967296:=hs0
 intro b hb
 refine ai (fun h1=>?_) (fun h2=>?_)
 ·have hl:l=[]:=by
   rcases l with _|⟨x,r⟩
   ·rfl
   ·exact absurd ((hb (by simp)).symm.trans h1) (by decide)
  subst hl
  exact Qvc (fun r:List Dep=>depL r) (leaf:=[]) rfl lw Q50
 ·refine ⟨QN0 16 rfl apA,?_⟩
  exact Qvc (fun r:List Dep=>depL r) (leaf:=l) rfl lw (Qn0 Dep.zero _ rfl eqA lnA)
def Qh1 (x_:Node) (limits:List (Int × Int)):Int:=bif (((x_.state==0)||(x_.state==4))||x_.drain) then 0 else bif (x_.state==3) then (w64 (x_.since+12)) else bif (!(getM x_.job limits).isSome) then 1000001 else (w64 (((getM x_.job limits).getD 0)+12))
theorem room_until_c (x_:Node) (limits:List (Int × Int)):AMoves Tryz.prog 48 [Node.a x_,AVal.map 0] [(0,AObj.other (.map (mapEs ik I 0 limits) limits.length))] 1 (I (Qh1 x_ limits)) [(0,AObj.other (.map (mapEs ik I 0 limits) limits.length))]:=by
 generalize hR:Qh1 x_ limits=R;refine mo (kp 7 [7,20,35]) Tryz.func48 ?_;refine ai (fun h1=>?_) (fun h2=>?_)
 ·obtain rfl:=foll hR (ct h1 rfl);exact rq (tt [0] (tO rfl (Qb0 _ rfl rfl (fun _=>lx)) .nil) t1)
 ·refine ai (fun h3=>?_) (fun h4=>?_)
  ·obtain rfl:=foll hR (cf h2 (ct h3 rfl));exact rq (tt [0] (tO rfl (Qb0 _ rfl rfl (fun _=>lx)) .nil) t1)
  ·(first|refine ⟨_,_,Q61 rfl _ _,QL0 (ek:=ik) x_.job limits 0 (AsA.refl _),?_⟩|refine ⟨_,fun _=>⟨_,_,Q61 rfl _ _,QL0 (ek:=ik) x_.job limits 0 (AsA.refl _),rfl,rfl⟩,?_⟩|refine ⟨_,rfl,⟨_,_,Q61 rfl _ _,QL0 (ek:=ik) x_.job limits 0 (AsA.refl _),Sub.refl _,rfl⟩,?_⟩);refine ai (fun h5=>?_) (fun h6=>?_)
   ·obtain rfl:=foll hR (cf h2 (cf h4 (ct h5 rfl)));exact rq (tt [0] (tO rfl (Qb0 _ rfl rfl (fun _=>lx)) .nil) t1)
   ·obtain rfl:=foll hR (cf h2 (cf h4 (cf h6 rfl)));exact rq (tt [0] (tO rfl (Qb0 _ rfl rfl (fun _=>lx)) .nil) t1)
def QW5 :List Job->Nat->List (Int × Int)->(List (Int × Int))
 | [],_,c=>c
 | x_ :: r,i,c=>bif (x_.state==2) then QW5 r (i+1) (setM x_.id x_.limit c) else QW5 r (i+1) c
def Q04 (c:List (Int × Int)):(List (Int × Int)):=c
def QO0 (l:List Job):(List (Int × Int)):=Q04 (QW5 l 0 [])
theorem room_limits_o (l:List Job) (hs0:l.length<=4294967296∧(∀ y ∈ l,y.sz)):AMoves Tryz.prog 49 [jobL l] [] 0 (AVal.map 0) [(0,AObj.other (.map (mapEs ik I 0 (QO0 l)) (QO0 l).length))]:=by
 generalize hR:QO0 l=R;refine mo (kp 6 [7,8,9,10,15]) Tryz.func49 ?_;obtain ⟨z10,z11⟩:=id hs0;refine Qq0 (fun (i:Nat) (c:List (Int × Int))=>Q04 (QW5 (List.drop i l) i c)=R∧i<=l.length) (fun i c=>l.length - i) (fun i c=>[(2,AVal.lit (.map none)),(3,AVal.map 0),(7,jobL l),(8,I (l.length:Int)),(9,I (i:Int))]) (fun i c=>[(0,AObj.other (.map (mapEs ik I 0 c) c.length))]) 0 [] (wk [0] (tO rfl (Qb0 _ rfl rfl (fun _=>lx)) .nil) (s1 (sv (QK0 0 rfl rfl) (sl lw (s1 (s1 .nil)))))) ⟨foll hR rfl,by exact omA⟩ ?_;clear hR;rintro i c ⟨hR,hj⟩;(try dsimp only at hR hj);refine ai (fun h1=>?_) (fun h2=>?_)
 ·have hlt:=ltA h1;rw [Qi0 Job.zero hlt] at hR;have hxz:(l.getD i Job.zero).sz:=Qw1 (by first|assumption|grind) (Job.szz _);have hkz:=hxz;obtain ⟨z3,z4,z5,z6,z7⟩:=Job.zz hxz;refine ai gkA ?_;refine ai (fun h8=>?_) (fun h9=>?_)
  ·refine ⟨_,_,Q61 rfl _ _,QV5 (ek:=ik) ((l.getD i Job.zero).id) ((l.getD i Job.zero).limit) c rfl rfl,?_⟩;exact Qd0 (i+1) (setM (l.getD i Job.zero).id (l.getD i Job.zero).limit c) (wk [0] (tO rfl (Qb0 _ rfl rfl (fun _=>lx)) .nil) (s1 (sv (QK0 0 rfl rfl) (sl lw (s1 (sv (Qa0 (I_eq (wr omA)) lx) .nil)))))) omA ⟨foll hR (congrArg (fun p:(List (Int × Int))=>Q04 p) (ct h8 rfl)),by exact omA⟩
  ·exact Qd0 (i+1) c (wk [0] (tO rfl (Qb0 _ rfl rfl (fun _=>lx)) .nil) (s1 (sv (QK0 0 rfl rfl) (sl lw (s1 (sv (Qa0 (I_eq (wr omA)) lx) .nil)))))) omA ⟨foll hR (congrArg (fun p:(List (Int × Int))=>Q04 p) (cf h9 rfl)),by exact omA⟩
 ·rw [Ql0 (l:=l) (j:=i) (geA h2)] at hR;replace hR:Q04 c=R:=fo2 (fun p:(List (Int × Int))=>Q04 p) (c) hR rfl;obtain rfl:=foll hR rfl;exact rq (tt [0] (tO rfl (Qb0 _ rfl rfl (fun _=>lx)) .nil) (QK0 0 rfl rfl))
def Qa7 (n:Int):Bool:=((decide (n >= (-1000000)))&&(decide (n<=1000000)))
theorem Qv7 (n:Int):GV 165 [I n] (Bo (Qa7 n)):=by
 generalize hR:Qa7 n=R;refine ga (l1 .nil) lx (kp 3 []) Tryz.func165 ?_;obtain rfl:=foll hR rfl;exact Q10 lx sr
def QK5 (t:Int):Bool:=((decide (t >= 0))&&(decide (t<=1000000)))
theorem QXb (t:Int):GV 94 [I t] (Bo (QK5 t)):=by
 generalize hR:QK5 t=R;refine ga (l1 .nil) lx (kp 3 []) Tryz.func94 ?_;obtain rfl:=foll hR rfl;exact Q10 lx sr
theorem QOa {t n:Int} {b:Bool} (h:(((!(QK5 t))||(decide (n<t)))||b)=false):0<=t:=by
 simp [QK5] at h
 omega
def Qe1 (f:Int->Bool):Nat->Int->Int->Int × Int
 | 0,_,_=>(0,0)
 | m+1,i,j=>bif (decide (i<j)) then bif (!(f (w64 (Int.fdiv (wu64 (w64 (i+j))) (2 ^ (min (Int.toNat 1) 64)))))) then Qe1 f m (w64 ((w64 (Int.fdiv (wu64 (w64 (i+j))) (2 ^ (min (Int.toNat 1) 64))))+1)) j else Qe1 f m i (w64 (Int.fdiv (wu64 (w64 (i+j))) (2 ^ (min (Int.toNat 1) 64)))) else (i,j)
def Q54 (i:Int) (j:Int):Int:=i
def QK1 (n:Int) (f:Int->Bool):Int:=Q54 ((Qe1 f ((Int.toNat (n - 0))+1) 0 n).1) ((Qe1 f ((Int.toNat (n - 0))+1) 0 n).2)
theorem Qy7 (f:Int->Bool) {N:Nat} (hN:N<=4294967296):∀ (m:Nat) (i j:Int),0<=i->i<=j->j<=N->Int.toNat (j - i)<m->i<=(Qe1 f m i j).1∧(Qe1 f m i j).1<=j∧(i<(Qe1 f m i j).1->f ((Qe1 f m i j).1 - 1)=false)∧((Qe1 f m i j).1<j->f (Qe1 f m i j).1=true)
 | 0,_,_,_,_,_,hm=>absurd hm (Nat.not_lt_zero _)
 | m+1,i,j,h0,hij,hj,hm=>by
  unfold Qe1
  cases hc:decide (i<j) with
  | false =>
   have:=of_decide_eq_false hc
   simp only [cond_false]
   exact ⟨Int.le_refl _,by omega,fun h=>absurd h (by omega),fun h=>absurd h (by omega)⟩
  | true =>
   have hlt:=of_decide_eq_true hc
   have hh:w64 (Int.fdiv (wu64 (w64 (i+j))) (2 ^ (min (Int.toNat 1) 64)))=(i+j) / 2:=QY9 h0 hlt hj (by omega)
   have hw:w64 ((i+j) / 2+1)=(i+j) / 2+1:=wr (by omega)
   simp only [cond_true,hh,hw]
   cases hf:f ((i+j) / 2) with
   | false =>
    simp only [Bool.not_false,cond_true]
    obtain ⟨a,b,c,d⟩:=Qy7 f hN m ((i+j) / 2+1) j (by omega) (by omega) hj (by omega)
    refine ⟨by omega,b,fun _=>?_,d⟩
    by_cases h:(i+j) / 2+1<(Qe1 f m ((i+j) / 2+1) j).1
    ·exact c h
    ·rw [show (Qe1 f m ((i+j) / 2+1) j).1 - 1=(i+j) / 2 by omega]
     exact hf
   | true =>
    simp only [Bool.not_true,cond_false]
    obtain ⟨a,b,c,d⟩:=Qy7 f hN m i ((i+j) / 2) h0 (by omega) (by omega) (by omega)
    refine ⟨a,by omega,c,fun h=>?_⟩
    by_cases h2:(Qe1 f m i ((i+j) / 2)).1<(i+j) / 2
    ·exact d h2
    ·rw [show (Qe1 f m i ((i+j) / 2)).1=(i+j) / 2 by omega]
     exact hf
theorem Qic (f:Int->Bool) {N:Nat} (hN:N<=4294967296):0<=QK1 (N:Int) f∧QK1 (N:Int) f<=N∧(0<QK1 (N:Int) f->f (QK1 (N:Int) f - 1)=false)∧(QK1 (N:Int) f<N->f (QK1 (N:Int) f)=true) :=
 Qy7 f hN _ 0 N (Int.le_refl _) (by omega) (Int.le_refl _) (by omega)
theorem Q5a (l:List Step) (hs0:l.length<=4294967296):AMoves Tryz.prog 190 [stepL l] [] 0 (AVal.own 0 0 2 0 l.length) [(0,AObj.row 155 2 (l.map Step.cells))]:=by
 refine AMoves.of_cwp (fun _=>true) Tryz.func190 rfl rfl rfl ?_
 obtain z6:l.length<=4294967296:=hs0
 intro b hb
 refine ai (fun h1=>?_) (fun h2=>?_)
 ·have hl:l=[]:=by
   rcases l with _|⟨x,r⟩
   ·rfl
   ·exact absurd ((hb (by simp)).symm.trans h1) (by decide)
  subst hl
  refine Qp0 (fun r:List Step=>AVal.own 0 0 2 0 r.length) (fun r:List Step=>[(0,AObj.row 155 2 (r.map Step.cells))]) (leaf:=[]) rfl ?_
  exact Told.pad 155 2 (QQ2 [0] rfl (by decide) (tO rfl (tl eqA) .nil) (Q51 0 rfl))
 ·refine ⟨QN0 16 rfl apA,?_⟩
  refine Qp0 (fun r:List Step=>AVal.own 0 0 2 0 r.length) (fun r:List Step=>[(0,AObj.row 155 2 (r.map Step.cells))]) (leaf:=l) rfl ?_
  exact QQ2 [0] rfl (by decide) (tO rfl (tl eqA) .nil) (to 0 lnA)
def Qd1 (at_:Int) (free:Int) (out:List Step):List Step:=bif (((out.length:Int)==0)||((out.getD (Int.toNat (w64 ((out.length:Int) - 1))) Step.zero).free != free)) then (out++([(⟨at_,free⟩:Step)]:List Step)) else out
theorem QW2 (at_:Int) (free:Int) (out:List Step) (hs0:out.length<=4294967296):AMoves Tryz.prog 191 [I at_,I free,AVal.ptr 0 0 1 0 0] [(0,AObj.row 92 1 [[AVal.own 1 0 2 0 out.length]]),(0,AObj.row 155 2 (out.map Step.cells))] 1 (AVal.tup []) [(0,AObj.row 92 1 [[AVal.own 1 0 2 0 (Qd1 at_ free out).length]]),(0,AObj.row 155 2 ((Qd1 at_ free out).map Step.cells))]:=by
 generalize hR:Qd1 at_ free out=R;refine mo (kp 6 [19]) Tryz.func191 ?_;have hk0:=hs0;obtain z3:out.length<=4294967296:=hs0;refine ai gkA ?_;refine ⟨_,fun hg=>QA0 rfl rfl rfl (QC0 Step.zero (Int.toNat (w64 ((out.length:Int) - 1))) (by first|rfl|exact Nat.zero_add _|omega) ckA) rfl,?_⟩;refine ai (fun h1=>?_) (fun h2=>?_)
 ·refine Or.inl ?_;(first|refine ⟨Qp1 16 rfl lnA apA,?_⟩|refine ⟨QN0 16 rfl apA,?_⟩);obtain rfl:=foll hR (ct h1 rfl);exact rq (tt [0,1] (tO rfl (Q90 (cv (to 1 lnA) .nil)) (tO rfl (tl eqA) .nil)) t1)
 ·obtain rfl:=foll hR (cf h2 rfl);exact rq (tt [0,1] (tO rfl (Q90 (cv (to 1 lnA) .nil)) (tO rfl (tl eqA) .nil)) t1)
theorem Q43 (a f:Int) (out:List Step):(Qd1 a f out).length<=out.length+1:=by
 unfold Qd1
 cases (((out.length:Int)==0)||((out.getD (Int.toNat (w64 ((out.length:Int) - 1))) Step.zero).free != f)) with
 | true=>simp
 | false=>simp
def Qu4 (n:Int):(List Step):=([(⟨0,(min (max n (-1000000)) 1000000)⟩:Step)]:List Step)
theorem profile_Flat_c (n:Int):GV 163 [I n] (stepL (Qu4 n)):=by
 generalize hR:Qu4 n=R;refine ga (l1 .nil) lw (kp 3 []) Tryz.func163 ?_;refine Or.inl ?_;obtain rfl:=foll hR rfl;exact Q10 lw (seen_as (QW4 (c:=Step.cells) (d:=Step.zero) ([(⟨0,(min (max n (-1000000)) 1000000)⟩:Step)]:List Step) rfl))
theorem Qw5 (l:List Job) (hs0:l.length<=4294967296∧(∀ y ∈ l,y.sz)):AMoves Tryz.prog 186 [jobL l] [] 0 (AVal.own 0 0 20 0 l.length) [(0,AObj.row 52 20 (l.map Job.cells))]:=by
 refine AMoves.of_cwp (fun _=>true) Tryz.func186 rfl rfl rfl ?_
 obtain ⟨z22,z23⟩:=id hs0
 intro b hb
 refine ai (fun h1=>?_) (fun h2=>?_)
 ·have hl:l=[]:=by
   rcases l with _|⟨x,r⟩
   ·rfl
   ·exact absurd ((hb (by simp)).symm.trans h1) (by decide)
  subst hl
  refine Qp0 (fun r:List Job=>AVal.own 0 0 20 0 r.length) (fun r:List Job=>[(0,AObj.row 52 20 (r.map Job.cells))]) (leaf:=[]) rfl ?_
  exact Told.pad 52 20 (QQ2 [0] rfl (by decide) (tO rfl (tl eqA) .nil) (Q51 0 rfl))
 ·refine ⟨QN0 216 rfl apA,?_⟩
  refine Qp0 (fun r:List Job=>AVal.own 0 0 20 0 r.length) (fun r:List Job=>[(0,AObj.row 52 20 (r.map Job.cells))]) (leaf:=l) rfl ?_
  exact QQ2 [0] rfl (by decide) (tO rfl (tl eqA) .nil) (to 0 lnA)
def QH7 (n:Int) (from_:Int) (to_:Int):Bool:=((decide (n >= from_))&&(decide (n<=to_)))
theorem QF8 (n:Int) (from_:Int) (to_:Int):GV 224 [I n,I from_,I to_] (Bo (QH7 n from_ to_)):=by
 generalize hR:QH7 n from_ to_=R;refine ga (l1 (l1 (l1 .nil))) lx (kp 7 []) Tryz.func224 ?_;obtain rfl:=foll hR rfl;exact Q10 lx sr
def QD2 :List Note->List Out->Nat->(List Out)
 | [],out,_=>out
 | x_ :: r,out,i=>QD2 r (out++([(⟨2,⟨#[]⟩,x_,0,0,false⟩:Out)]:List Out)) (i+1)
def Qg5 (out:List Out):(List Out):=out
def Q91 (l:List Note):(List Out):=Qg5 (QD2 l [] 0)
theorem Q02 (l:List Note) (hs0:l.length<=4294967296):GV 28 [noteL l] (outL (Q91 l)):=by
 generalize hR:Q91 l=R;refine ga (.cons lw .nil) lw (kp 6 [6,7,8,9]) Tryz.func28 ?_;have hk0:=hs0;obtain z3:l.length<=4294967296:=hs0;refine Qq0 (fun (out:List Out) (i:Nat)=>Qg5 (QD2 (List.drop i l) out i)=R∧i<=l.length∧out.length<=i) (fun out i=>l.length - i) (fun out i=>[(2,AVal.lit (.slice none 0 0)),(3,AVal.own 0 0 9 0 out.length),(6,noteL l),(7,I (l.length:Int)),(8,I (i:Int))]) (fun out i=>[(0,AObj.row 40 9 (out.map Out.cells))]) [] 0 ((Qo1 40 9).trans (wk [0] (tO rfl (tl eqA) .nil) (s1 (sv (Q51 0 rfl) (sl lw (s1 (s1 .nil))))))) ⟨foll hR rfl,by exact omA,by exact exA⟩ ?_;clear hR;rintro out i ⟨hR,hj,hx⟩;(try dsimp only at hR hj hx);refine ai (fun h1=>?_) (fun h2=>?_)
 ·have hlt:=ltA h1;rw [Qi0 Note.zero hlt] at hR;refine ai gkA ?_;refine Or.inl ?_;(first|refine ⟨Qp1 80 rfl lnA apA,?_⟩|refine ⟨QN0 80 rfl apA,?_⟩);exact Qd0 (out++([(⟨2,⟨#[]⟩,(l.getD i Note.zero),0,0,false⟩:Out)]:List Out)) (i+1) (wk [0] (tO rfl (tl eqA) .nil) (s1 (sv (to 0 lnA) (sl lw (s1 (sv (Qa0 (I_eq (wr omA)) lx) .nil)))))) omA ⟨foll hR (congrArg (fun p:(List Out)=>Qg5 p) rfl),by exact omA,by exact exA⟩
 ·rw [Ql0 (l:=l) (j:=i) (geA h2)] at hR;replace hR:Qg5 out=R:=fo2 (fun p:(List Out)=>Qg5 p) (out) hR rfl;obtain rfl:=foll hR rfl;exact Q10 lw (Qn0 Out.zero _ rfl eqA lnA)
def QI8 (x_:Node) (i2:Bool):Bool:=bif i2 then (x_.state != 4) else false
def QH8 (x_:Node) (act:Int) (i1:Bool):Bool:=bif i1 then ((x_.state==1)||(x_.state==2)) else bif (act==5) then ((x_.state==1)&&(x_.want==0)) else bif (act==6) then ((x_.state==1)&&(x_.want==4)) else bif (act==8) then (x_.state==3) else bif (act==9) then ((x_.state != 4)&&(decide (x_.epoch<999999999))) else bif (act==10) then (x_.state==4) else bif (act==11) then ((x_.state==4)&&(x_.want==6)) else bif (act==12) then QI8 x_ (act==12) else QI8 x_ (act==13)
def QG8 (x_:Node) (act:Int) (job:Int) (i:Bool):Bool:=bif i then (((((x_.state==0)&&(!x_.drain))&&(decide (x_.epoch<999999999)))&&(decide (job >= 1)))&&(decide (job<=99999))) else bif (act==3) then (x_.state==2) else bif (act==4) then QH8 x_ act (act==4) else QH8 x_ act (act==7)
def Qpa (x_:Node) (act:Int) (job:Int):Bool:=bif (act==1) then QG8 x_ act job (act==1) else QG8 x_ act job (act==2)
theorem fleet_may_c (x_:Node) (act:Int) (job:Int):GV 106 [Node.a x_,I act,I job] (Bo (Qpa x_ act job)):=by
 generalize hR:Qpa x_ act job=R;refine ga (.cons (Node.low _ _) (l1 (l1 .nil))) lx (kj [1000005,1000010,1000025] 8 [16,17,41,46,50,60,70,75,85,90,100]) Tryz.func106 ?_;refine Qx1 (fun (i:Bool)=>QG8 x_ act job i=R) (fun i=>[(2,I job),(3,AVal.ptr 0 0 7 0 0),(6,Bo false),(7,Bo ((x_.state==1)||(x_.state==2))),(16,I act),(17,Bo i)]) (fun i=>[(0,AObj.row 44 7 [[I x_.state,I x_.job,I x_.epoch,Bo x_.drain,I x_.want,I x_.since,I x_.asked]])]) ?_ ?_
 ·clear hR;rintro i hR;(try dsimp only at hR);refine ai (fun h1=>?_) (fun h2=>?_)
  ·obtain rfl:=foll hR (ct h1 rfl);exact Q10 lx sr
  ·refine ai (fun h3=>?_) (fun h4=>?_)
   ·obtain rfl:=foll hR (cf h2 (ct h3 rfl));exact Q10 lx sr
   ·refine Qx1 (fun (i1:Bool)=>QH8 x_ act i1=R) (fun i1=>[(3,AVal.ptr 0 0 7 0 0),(6,Bo false),(7,Bo ((x_.state==1)||(x_.state==2))),(16,I act),(46,Bo i1)]) (fun i1=>[(0,AObj.row 44 7 [[I x_.state,I x_.job,I x_.epoch,Bo x_.drain,I x_.want,I x_.since,I x_.asked]])]) ?_ ?_
    ·clear hR;rintro i1 hR;(try dsimp only at hR);refine ai (fun h5=>?_) (fun h6=>?_)
     ·obtain rfl:=foll hR (ct h5 rfl);exact Q10 lx sr
     ·refine ai (fun h7=>?_) (fun h8=>?_)
      ·obtain rfl:=foll hR (cf h6 (ct h7 rfl));exact Q10 lx sr
      ·refine ai (fun h9=>?_) (fun h10=>?_)
       ·obtain rfl:=foll hR (cf h6 (cf h8 (ct h9 rfl)));exact Q10 lx sr
       ·refine ai (fun h11=>?_) (fun h12=>?_)
        ·obtain rfl:=foll hR (cf h6 (cf h8 (cf h10 (ct h11 rfl))));exact Q10 lx sr
        ·refine ai (fun h13=>?_) (fun h14=>?_)
         ·obtain rfl:=foll hR (cf h6 (cf h8 (cf h10 (cf h12 (ct h13 rfl)))));exact Q10 lx sr
         ·refine ai (fun h15=>?_) (fun h16=>?_)
          ·obtain rfl:=foll hR (cf h6 (cf h8 (cf h10 (cf h12 (cf h14 (ct h15 rfl))))));exact Q10 lx sr
          ·refine ai (fun h17=>?_) (fun h18=>?_)
           ·obtain rfl:=foll hR (cf h6 (cf h8 (cf h10 (cf h12 (cf h14 (cf h16 (ct h17 rfl)))))));exact Q10 lx sr
           ·refine Qx1 (fun (i2:Bool)=>QI8 x_ i2=R) (fun i2=>[(3,AVal.ptr 0 0 7 0 0),(6,Bo false),(100,Bo i2)]) (fun i2=>[(0,AObj.row 44 7 [[I x_.state,I x_.job,I x_.epoch,Bo x_.drain,I x_.want,I x_.since,I x_.asked]])]) ?_ ?_
            ·clear hR;rintro i2 hR;(try dsimp only at hR);refine ai (fun h19=>?_) (fun h20=>?_)
             ·obtain rfl:=foll hR (ct h19 rfl);exact Q10 lx sr
             ·obtain rfl:=foll hR (cf h20 rfl);exact Q10 lx sr
            ·refine ai (fun h21=>?_) (fun h22=>?_)
             ·exact Qo0 (act==12) (wk [0] (tO rfl (ts Node.lo) .nil) (sv (Q00 0 rfl rfl) (s1 (s1 .nil)))) (foll hR (cf h6 (cf h8 (cf h10 (cf h12 (cf h14 (cf h16 (cf h18 (ct h21 rfl)))))))))
             ·exact Qo0 (act==13) (wk [0] (tO rfl (ts Node.lo) .nil) (sv (Q00 0 rfl rfl) (s1 (s1 .nil)))) (foll hR (cf h6 (cf h8 (cf h10 (cf h12 (cf h14 (cf h16 (cf h18 (cf h22 rfl)))))))))
    ·refine ai (fun h23=>?_) (fun h24=>?_)
     ·exact Qo0 (act==4) (wk [0] (tO rfl (ts Node.lo) .nil) (sv (Q00 0 rfl rfl) (s1 (s1 (s1 (s1 .nil)))))) (foll hR (cf h2 (cf h4 (ct h23 rfl))))
     ·exact Qo0 (act==7) (wk [0] (tO rfl (ts Node.lo) .nil) (sv (Q00 0 rfl rfl) (s1 (s1 (s1 (s1 .nil)))))) (foll hR (cf h2 (cf h4 (cf h24 rfl))))
 ·refine ai (fun h25=>?_) (fun h26=>?_)
  ·exact Qo0 (act==1) (wk [0] (tO rfl (ts Node.lo) .nil) (s1 (sv (Q00 0 rfl rfl) (s1 (s1 (s1 (s1 .nil))))))) (foll hR (ct h25 rfl))
  ·exact Qo0 (act==2) (wk [0] (tO rfl (ts Node.lo) .nil) (s1 (sv (Q00 0 rfl rfl) (s1 (s1 (s1 (s1 .nil))))))) (foll hR (cf h26 rfl))
theorem Q4a (l:List Node) (hs0:l.length<=4294967296):AMoves Tryz.prog 107 [nodeL l] [] 0 (AVal.own 0 0 7 0 l.length) [(0,AObj.row 44 7 (l.map Node.cells))]:=by
 refine AMoves.of_cwp (fun _=>true) Tryz.func107 rfl rfl rfl ?_
 obtain z27:l.length<=4294967296:=hs0
 intro b hb
 refine ai (fun h1=>?_) (fun h2=>?_)
 ·have hl:l=[]:=by
   rcases l with _|⟨x,r⟩
   ·rfl
   ·exact absurd ((hb (by simp)).symm.trans h1) (by decide)
  subst hl
  refine Qp0 (fun r:List Node=>AVal.own 0 0 7 0 r.length) (fun r:List Node=>[(0,AObj.row 44 7 (r.map Node.cells))]) (leaf:=[]) rfl ?_
  exact Told.pad 44 7 (QQ2 [0] rfl (by decide) (tO rfl (tl eqA) .nil) (Q51 0 rfl))
 ·refine ⟨QN0 56 rfl apA,?_⟩
  refine Qp0 (fun r:List Node=>AVal.own 0 0 7 0 r.length) (fun r:List Node=>[(0,AObj.row 44 7 (r.map Node.cells))]) (leaf:=l) rfl ?_
  exact QQ2 [0] rfl (by decide) (tO rfl (tl eqA) .nil) (to 0 lnA)
def Q48 (x_:Node) (act:Int):Node:=bif (act==12) then bif (act==12) then { x_ with drain:=(act==12) } else x_ else bif (act==13) then { x_ with drain:=(act==12) } else x_
def Qi9 (x_:Node) (act:Int) (job:Int) (now:Int):Node:=bif (act==1) then (⟨1,job,(w64 (x_.epoch+1)),x_.drain,1,now,now⟩:Node) else bif (act==2) then (⟨2,job,(w64 (x_.epoch+1)),x_.drain,2,now,now⟩:Node) else bif (act==3) then (⟨1,x_.job,x_.epoch,x_.drain,3,now,now⟩:Node) else bif (act==5) then { x_ with want:=4,since:=now,asked:=now } else bif (act==7) then (⟨3,x_.job,x_.epoch,x_.drain,5,now,now⟩:Node) else bif (act==9) then (⟨4,0,(w64 (x_.epoch+1)),x_.drain,0,x_.since,x_.asked⟩:Node) else bif (act==10) then { x_ with want:=6,since:=now,asked:=now } else bif (act==11) then (⟨0,0,x_.epoch,false,0,x_.since,x_.asked⟩:Node) else bif (act==8) then { x_ with state:=0,job:=0,want:=0 } else bif (act==4) then bif (act==4) then { x_ with want:=0 } else Q48 x_ act else bif (act==6) then { x_ with want:=0 } else Q48 x_ act
theorem fleet_done_c (x_:Node) (act:Int) (job:Int) (now:Int):GV 108 [Node.a x_,I act,I job,I now] (Node.a (Qi9 x_ act job now)):=by
 generalize hR:Qi9 x_ act job now=R;refine AGives.any' (.cons (Node.low _ _) (l1 (l1 (l1 .nil)))) (Node.low _ _) (ACalls.of_cwp (kj [1000014] 10 [11,12,14,16,18,20,22,24,26,28,30,33]) Tryz.func108 rfl rfl ?_);(conv=>whnf);refine And.intro (fun h1=>?_) (fun h2=>?_)
 ·(conv=>whnf);refine ACalls.of_cwp (fun _=>true) Tryz.func180 rfl rfl ?_;(conv=>whnf);refine dchk (by kernel_rfl) ?_;(conv=>whnf);(repeat ((first|refine And.intro rfl ?_|refine And.intro (fun _=>rfl) ?_);conv=>whnf));refine ⟨_,_,Told.refl,?_⟩;(conv=>whnf);obtain rfl:=foll hR (ct h1 rfl);exact Q10 (Node.low _ _) sr
 ·(conv=>whnf);refine And.intro (fun h3=>?_) (fun h4=>?_)
  ·(conv=>whnf);refine ACalls.of_cwp (fun _=>true) Tryz.func180 rfl rfl ?_;(conv=>whnf);refine dchk (by kernel_rfl) ?_;(conv=>whnf);(repeat ((first|refine And.intro rfl ?_|refine And.intro (fun _=>rfl) ?_);conv=>whnf));refine ⟨_,_,Told.refl,?_⟩;(conv=>whnf);obtain rfl:=foll hR (cf h2 (ct h3 rfl));exact Q10 (Node.low _ _) sr
  ·(conv=>whnf);refine And.intro (fun h5=>?_) (fun h6=>?_)
   ·(conv=>whnf);refine ACalls.of_cwp (fun _=>true) Tryz.func180 rfl rfl ?_;(conv=>whnf);refine dchk (by kernel_rfl) ?_;(conv=>whnf);(repeat ((first|refine And.intro rfl ?_|refine And.intro (fun _=>rfl) ?_);conv=>whnf));refine ⟨_,_,Told.refl,?_⟩;(conv=>whnf);obtain rfl:=foll hR (cf h2 (cf h4 (ct h5 rfl)));exact Q10 (Node.low _ _) sr
   ·(conv=>whnf);refine And.intro (fun h7=>?_) (fun h8=>?_)
    ·(conv=>whnf);refine ACalls.of_cwp (fun _=>true) Tryz.func180 rfl rfl ?_;(conv=>whnf);refine dchk (by kernel_rfl) ?_;(conv=>whnf);(repeat ((first|refine And.intro rfl ?_|refine And.intro (fun _=>rfl) ?_);conv=>whnf));refine ⟨_,_,Told.refl,?_⟩;(conv=>whnf);obtain rfl:=foll hR (cf h2 (cf h4 (cf h6 (ct h7 rfl))));exact Q10 (Node.low _ _) sr
    ·(conv=>whnf);refine And.intro (fun h9=>?_) (fun h10=>?_)
     ·(conv=>whnf);refine ACalls.of_cwp (fun _=>true) Tryz.func180 rfl rfl ?_;(conv=>whnf);refine dchk (by kernel_rfl) ?_;(conv=>whnf);(repeat ((first|refine And.intro rfl ?_|refine And.intro (fun _=>rfl) ?_);conv=>whnf));refine ⟨_,_,Told.refl,?_⟩;(conv=>whnf);obtain rfl:=foll hR (cf h2 (cf h4 (cf h6 (cf h8 (ct h9 rfl)))));exact Q10 (Node.low _ _) sr
     ·(conv=>whnf);refine And.intro (fun h11=>?_) (fun h12=>?_)
      ·(conv=>whnf);obtain rfl:=foll hR (cf h2 (cf h4 (cf h6 (cf h8 (cf h10 (ct h11 rfl))))));exact Q10 (Node.low _ _) sr
      ·(conv=>whnf);refine And.intro (fun h13=>?_) (fun h14=>?_)
       ·(conv=>whnf);refine ACalls.of_cwp (fun _=>true) Tryz.func180 rfl rfl ?_;(conv=>whnf);refine dchk (by kernel_rfl) ?_;(conv=>whnf);(repeat ((first|refine And.intro rfl ?_|refine And.intro (fun _=>rfl) ?_);conv=>whnf));refine ⟨_,_,Told.refl,?_⟩;(conv=>whnf);obtain rfl:=foll hR (cf h2 (cf h4 (cf h6 (cf h8 (cf h10 (cf h12 (ct h13 rfl)))))));exact Q10 (Node.low _ _) sr
       ·(conv=>whnf);refine And.intro (fun h15=>?_) (fun h16=>?_)
        ·(conv=>whnf);obtain rfl:=foll hR (cf h2 (cf h4 (cf h6 (cf h8 (cf h10 (cf h12 (cf h14 (ct h15 rfl))))))));exact Q10 (Node.low _ _) sr
        ·(conv=>whnf);refine And.intro (fun h17=>?_) (fun h18=>?_)
         ·(conv=>whnf);obtain rfl:=foll hR (cf h2 (cf h4 (cf h6 (cf h8 (cf h10 (cf h12 (cf h14 (cf h16 (ct h17 rfl)))))))));exact Q10 (Node.low _ _) sr
         ·(conv=>whnf);refine join_start (X:=Unit) (fun _=>Q48 x_ act  = R) (fun _=>[(1,I act),(2,I job),(4,AVal.ptr 0 0 7 0 0),(8,AVal.ptr 2 0 7 0 0),(9,AVal.fn (.func 180) [] [AVal.ptr 1 0 1 0 0,AVal.ptr 0 0 7 0 0]),(11,I act)]) (fun _=>[(0,AObj.row 44 7 [[I x_.state,I x_.job,I x_.epoch,Bo x_.drain,I x_.want,I x_.since,I x_.asked]]),(0,AObj.row 3 1 [[I now]]),(0,AObj.row 44 7 [[I 0,I 0,I 0,Bo false,I 0,I 0,I 0]])]) ?_ ?_
          ·clear hR;rintro _ hR;(try dsimp only at hR);(conv=>whnf);refine And.intro (fun h19=>?_) (fun h20=>?_)
           ·(conv=>whnf);refine And.intro (fun h21=>?_) (fun h22=>?_)
            ·(conv=>whnf);obtain rfl:=foll hR (ct h19 (ct h21 rfl));exact Q10 (Node.low _ _) sr
            ·(conv=>whnf);obtain rfl:=foll hR (ct h19 (cf h22 rfl));exact Q10 (Node.low _ _) sr
           ·(conv=>whnf);refine And.intro (fun h23=>?_) (fun h24=>?_)
            ·(conv=>whnf);obtain rfl:=foll hR (cf h20 (ct h23 rfl));exact Q10 (Node.low _ _) sr
            ·(conv=>whnf);obtain rfl:=foll hR (cf h20 (cf h24 rfl));exact Q10 (Node.low _ _) sr
          ·(conv=>whnf);refine And.intro (fun h25=>?_) (fun h26=>?_)
           ·(conv=>whnf);refine And.intro (fun h27=>?_) (fun h28=>?_)
            ·(conv=>whnf);obtain rfl:=foll hR (cf h2 (cf h4 (cf h6 (cf h8 (cf h10 (cf h12 (cf h14 (cf h16 (cf h18 (ct h25 (ct h27 rfl)))))))))));exact Q10 (Node.low _ _) sr
            ·(conv=>whnf);exact Qfd () (wk [0,1,2] (tO rfl (ts Node.lo) (tO rfl (ts (l1 LowL.nil)) (tO rfl (ts Node.lo) .nil))) (s1 (s1 (sv (Q00 0 rfl rfl) (sv (Q00 2 rfl rfl) (sv (Qu0 .nil (cv (Q00 1 rfl rfl) (cv (Q00 0 rfl rfl) .nil))) (s1 .nil))))))) (foll hR (cf h2 (cf h4 (cf h6 (cf h8 (cf h10 (cf h12 (cf h14 (cf h16 (cf h18 (ct h25 (cf h28 rfl))))))))))))
           ·(conv=>whnf);refine And.intro (fun h29=>?_) (fun h30=>?_)
            ·(conv=>whnf);obtain rfl:=foll hR (cf h2 (cf h4 (cf h6 (cf h8 (cf h10 (cf h12 (cf h14 (cf h16 (cf h18 (cf h26 (ct h29 rfl)))))))))));exact Q10 (Node.low _ _) sr
            ·(conv=>whnf);exact Qfd () (wk [0,1,2] (tO rfl (ts Node.lo) (tO rfl (ts (l1 LowL.nil)) (tO rfl (ts Node.lo) .nil))) (s1 (s1 (sv (Q00 0 rfl rfl) (sv (Q00 2 rfl rfl) (sv (Qu0 .nil (cv (Q00 1 rfl rfl) (cv (Q00 0 rfl rfl) .nil))) (s1 .nil))))))) (foll hR (cf h2 (cf h4 (cf h6 (cf h8 (cf h10 (cf h12 (cf h14 (cf h16 (cf h18 (cf h26 (cf h30 rfl))))))))))))
def Qb3 (i:Bool):Bool:=bif i then true else false
def QS7 (act:Int):Bool:=bif (act==1) then Qb3 (act==1) else bif (act==2) then Qb3 (act==2) else bif (act==3) then Qb3 (act==3) else bif (act==5) then Qb3 (act==5) else bif (act==7) then Qb3 (act==7) else Qb3 (act==10)
theorem alloc_sends_c (act:Int):GV 178 [I act] (Bo (QS7 act)):=by
 generalize hR:QS7 act=R;refine ga (l1 .nil) lx (kj [1000008] 3 [3,4]) Tryz.func178 ?_;refine Qx1 (fun (i:Bool)=>Qb3 i=R) (fun i=>[(2,Bo false),(4,Bo i)]) (fun i=>[]) ?_ ?_
 ·clear hR;rintro i hR;(try dsimp only at hR);refine ai (fun h1=>?_) (fun h2=>?_)
  ·obtain rfl:=foll hR (ct h1 rfl);exact Q10 lx sr
  ·obtain rfl:=foll hR (cf h2 rfl);exact Q10 lx sr
 ·refine ai (fun h3=>?_) (fun h4=>?_)
  ·exact Qo0 (act==1) (wk [] .nil (s1 (s1 .nil))) (foll hR (ct h3 rfl))
  ·refine ai (fun h5=>?_) (fun h6=>?_)
   ·exact Qo0 (act==2) (wk [] .nil (s1 (s1 .nil))) (foll hR (cf h4 (ct h5 rfl)))
   ·refine ai (fun h7=>?_) (fun h8=>?_)
    ·exact Qo0 (act==3) (wk [] .nil (s1 (s1 .nil))) (foll hR (cf h4 (cf h6 (ct h7 rfl))))
    ·refine ai (fun h9=>?_) (fun h10=>?_)
     ·exact Qo0 (act==5) (wk [] .nil (s1 (s1 .nil))) (foll hR (cf h4 (cf h6 (cf h8 (ct h9 rfl)))))
     ·refine ai (fun h11=>?_) (fun h12=>?_)
      ·exact Qo0 (act==7) (wk [] .nil (s1 (s1 .nil))) (foll hR (cf h4 (cf h6 (cf h8 (cf h10 (ct h11 rfl))))))
      ·exact Qo0 (act==10) (wk [] .nil (s1 (s1 .nil))) (foll hR (cf h4 (cf h6 (cf h8 (cf h10 (cf h12 rfl))))))
def QW8 (id_:Int):Bool:=((decide (id_ >= 1))&&(decide (id_<=99999)))
theorem resize_known_c (id_:Int):GV 111 [I id_] (Bo (QW8 id_)):=by
 generalize hR:QW8 id_=R;refine ga (l1 .nil) lx (kp 3 []) Tryz.func111 ?_;obtain rfl:=foll hR rfl;exact Q10 lx sr
def Qw0 (x_:List Resize) (target:Int) (cmp:Resize->Int->Int):Nat->Int->Int->Int × Int
 | 0,_,_=>(0,0)
 | m+1,i,j=>bif (decide (i<j)) then bif (decide ((cmp (x_.getD (Int.toNat (w64 (Int.fdiv (wu64 (w64 (i+j))) (2 ^ (min (Int.toNat 1) 64))))) Resize.zero) target)<0)) then Qw0 x_ target cmp m (w64 ((w64 (Int.fdiv (wu64 (w64 (i+j))) (2 ^ (min (Int.toNat 1) 64))))+1)) j else Qw0 x_ target cmp m i (w64 (Int.fdiv (wu64 (w64 (i+j))) (2 ^ (min (Int.toNat 1) 64)))) else (i,j)
def QQ0 (x_:List Resize) (target:Int) (cmp:Resize->Int->Int) (i:Int) (j:Int):Int × Bool:=(i,((decide (i<(x_.length:Int)))&&((cmp (x_.getD (Int.toNat i) Resize.zero) target)==0)))
def Q40 (x_:List Resize) (target:Int) (cmp:Resize->Int->Int):Int × Bool:=QQ0 x_ target cmp ((Qw0 x_ target cmp ((Int.toNat ((x_.length:Int) - 0))+1) 0 (x_.length:Int)).1) ((Qw0 x_ target cmp ((Int.toNat ((x_.length:Int) - 0))+1) 0 (x_.length:Int)).2)
theorem bsr_in (x_:List Resize) (target:Int) (cmp:Resize->Int->Int) (hn:x_.length<=4294967296):∀ (m:Nat) (i j:Int),0<=i->i<=j->j<=(x_.length:Int)->0<=(Qw0 x_ target cmp m i j).1∧(Qw0 x_ target cmp m i j).1<=(x_.length:Int)
 | 0,_,_,_,_,_=>by simp [Qw0]
 | m+1,i,j,h0,h1,h2=>by
  rw [Qw0]
  cases hd:decide (i<j) with
  | false=>exact ⟨h0,Int.le_trans h1 h2⟩
  | true =>
   have hlt:=of_decide_eq_true hd
   rw [QY9 h0 hlt h2 (by omega)]
   simp only [cond_true]
   cases decide (cmp (x_.getD (Int.toNat ((i+j) / 2)) Resize.zero) target<0) with
   | true =>
    have hw:w64 ((i+j) / 2+1)=(i+j) / 2+1:=wr (by omega)
    simp only [cond_true]
    rw [hw]
    exact bsr_in x_ target cmp hn m _ _ (by omega) (by omega) h2
   | false=>exact bsr_in x_ target cmp hn m _ _ h0 (by omega) (by omega)
theorem bsr_le (l:List Resize) (t:Int) (cmp:Resize->Int->Int) (hn:l.length<=4294967296):0<=(Q40 l t cmp).1∧(Q40 l t cmp).1<=(l.length:Int) :=
 bsr_in l t cmp hn _ _ _ (by omega) (by omega) (by omega)
theorem bsr_lt {l:List Resize} {t:Int} {cmp:Resize->Int->Int} (h:(!(Q40 l t cmp).2)=false):(Q40 l t cmp).1<(l.length:Int):=by
 simp only [Q40,QQ0,Bool.not_eq_false',Bool.and_eq_true,decide_eq_true_eq] at h
 exact h.1
theorem bsr_at {l:List Resize} {t:Int} {cmp:Resize->Int->Int} (h:(!(Q40 l t cmp).2)=false) (hn:l.length<=4294967296):0<=(Q40 l t cmp).1∧(Q40 l t cmp).1<(l.length:Int)∧w64 ((Q40 l t cmp).1+1)=(Q40 l t cmp).1+1:=by
 have h1:=bsr_lt h
 have h2:=bsr_le l t cmp hn
 exact ⟨h2.1,h1,wr (by omega)⟩
def bsrF (y:Resize) (y1:Int):Int:=w64 (y.job - y1)
theorem bsr_cl:∀ (y1:Resize) (y2:Int),AMoves Tryz.prog 182 [Resize.a y1,I y2] [] 0 (I (bsrF y1 y2)) []:=by
 intro y1 y2
 have hR:bsrF y1 y2=bsrF y1 y2:=rfl
 refine mo (kp 5 []) Tryz.func182 ?_
 refine Qp0 (fun r:Int=>I r) (fun _=>[]) (leaf:=(w64 (y1.job - y2))) (foll hR rfl) ?_
 exact tt [] .nil t1
theorem b0b0 {P:Prop} (h:P:=by first|(dsimp only;rw [hh3];omega)|first|(dsimp only;rw [hh];omega)|exact exA):P:=h
theorem bsr_m (l:List Resize) (id_:Int) (z1:l.length<=4294967296):AMoves Tryz.prog 181 [Qq1 l,I id_,AVal.fn (.func 182) [] []] [] 0 (AVal.tup [I ((Q40 l id_ bsrF).1),Bo ((Q40 l id_ bsrF).2)]) []:=by
 have hR:Q40 l id_ bsrF=Q40 l id_ bsrF:=rfl
 refine mo (kp 12 [17,31]) Tryz.func181 ?_
 refine Qq0 (fun (i:Int) (j:Int)=>∃ m,(Int.toNat (j - i))<m∧QQ0 l id_ bsrF (Qw0 l id_ bsrF m i j).1 (Qw0 l id_ bsrF m i j).2=Q40 l id_ bsrF∧0<=i∧i<=j∧j<=(l.length:Int)) (fun i j=>(Int.toNat (j - i))) (fun i j=>[(0,Qq1 l),(1,I id_),(2,AVal.fn (.func 182) [] []),(6,I 0),(7,Bo false),(8,I (l.length:Int)),(9,I i),(10,I j)]) (fun i j=>[]) 0 (l.length:Int) (wk [] .nil (sl lw (s1 (sv (Q20 (Low.fn _ _ _ LowL.nil LowL.nil)) (s1 (s1 (s1 (s1 (s1 .nil))))))))) ⟨_,Nat.lt_succ_self _,foll hR rfl,b0b0⟩ ?_
 clear hR
 rintro i j ⟨m,hm,hR,hx⟩
 try dsimp only at hR hm hx
 obtain ⟨m,rfl⟩:=sucA m
 refine ai (fun h9=>?_) (fun h10=>?_)
 ·have qh9:=of_decide_eq_true h9
  have hq0:i<j:=qh9;have hh:w64 (Int.fdiv (wu64 (w64 (i+j))) (2 ^ (min (Int.toNat 1) 64)))=(i+j) / 2:=QY9 hx.1 hq0 hx.2.2 (by omega);have hh3:w64 (w64 (Int.fdiv (wu64 (w64 (i+j))) (2 ^ (min (Int.toNat 1) 64)))+1)=(i+j) / 2+1:=by rw [hh];exact wr (by omega)
  refine And.intro (by first|exact fun hg=>decide_eq_true (by first|(show 0<=w64 (Int.fdiv (wu64 (w64 (i+j))) (2 ^ (min (Int.toNat 1) 64)))∧w64 (Int.fdiv (wu64 (w64 (i+j))) (2 ^ (min (Int.toNat 1) 64)))<(l.length:Int);rw [hh];omega)|exact ckA)|exact gkA) ?_
  refine And.intro (by first|exact fun hg=>decide_eq_true (by first|(show 0<=w64 (Int.fdiv (wu64 (w64 (i+j))) (2 ^ (min (Int.toNat 1) 64)))∧w64 (Int.fdiv (wu64 (w64 (i+j))) (2 ^ (min (Int.toNat 1) 64)))<(l.length:Int);rw [hh];omega)|exact ckA)|exact gkA) ?_
  refine us (mv [] (bsr_cl (l.getD (Int.toNat (w64 (Int.fdiv (wu64 (w64 (i+j))) (2 ^ (min (Int.toNat 1) 64))))) Resize.zero) id_) .nil (dl (Resize.low _ _) (d1 .nil)) .nil rx) ?_
  refine ai (fun h11=>?_) (fun h12=>?_)
  ·have qh11:=of_decide_eq_true h11
   exact Qd0 (w64 ((w64 (Int.fdiv (wu64 (w64 (i+j))) (2 ^ (min (Int.toNat 1) 64))))+1)) j (wk [] .nil (sl lw (s1 (sv (Q20 (Low.fn _ _ _ LowL.nil LowL.nil)) (s1 (s1 (s1 (s1 (s1 .nil))))))))) (by first|(dsimp only;rw [hh3];omega)|first|(dsimp only;rw [hh];omega)|exact omA) ⟨m,by first|(dsimp only;rw [hh3];omega)|first|(dsimp only;rw [hh];omega)|exact omA,foll hR (congrArg (fun p:Int × Int=>QQ0 l id_ bsrF p.1 p.2) (ct h9 (ct h11 rfl))),b0b0⟩
  ·have qh12:=of_decide_eq_false h12
   exact Qd0 i (w64 (Int.fdiv (wu64 (w64 (i+j))) (2 ^ (min (Int.toNat 1) 64)))) (wk [] .nil (sl lw (s1 (sv (Q20 (Low.fn _ _ _ LowL.nil LowL.nil)) (s1 (s1 (s1 (s1 (s1 .nil))))))))) (by first|(dsimp only;rw [hh3];omega)|first|(dsimp only;rw [hh];omega)|exact omA) ⟨m,by first|(dsimp only;rw [hh3];omega)|first|(dsimp only;rw [hh];omega)|exact omA,foll hR (congrArg (fun p:Int × Int=>QQ0 l id_ bsrF p.1 p.2) (ct h9 (cf h12 rfl))),b0b0⟩
 ·have qh10:=of_decide_eq_false h10
  replace hR:QQ0 l id_ bsrF i j=Q40 l id_ bsrF:=fo2 (fun p:Int × Int=>QQ0 l id_ bsrF p.1 p.2) (i,j) hR (cf h10 rfl)
  refine And.intro (by first|exact fun hg=>decide_eq_true (by first|(show 0<=w64 (Int.fdiv (wu64 (w64 (i+j))) (2 ^ (min (Int.toNat 1) 64)))∧w64 (Int.fdiv (wu64 (w64 (i+j))) (2 ^ (min (Int.toNat 1) 64)))<(l.length:Int);rw [hh];omega)|exact ckA)|exact gkA) ?_
  (first|apply u2|apply u3|apply u4|apply us);exact mv [] (bsr_cl (l.getD (Int.toNat i) Resize.zero) id_) .nil (dl (Resize.low _ _) (d1 .nil)) .nil rx
  refine Qp0 (fun r:Int × Bool=>AVal.tup [I r.1,Bo r.2]) (fun r:Int × Bool=>[]) (leaf:=(i,((decide (i<(l.length:Int)))&&((bsrF (l.getD (Int.toNat i) Resize.zero) id_)==0)))) (foll hR rfl) ?_
  exact tt [] .nil (turn_tup (c1 (c1 .nil)))
theorem bsr_c (l:List Resize) (id_:Int) (z1:l.length<=4294967296) (objs:Objs):AGives Tryz.prog 181 [Qq1 l,I id_,AVal.fn (.func 182) [] []] objs (AVal.tup [I ((Q40 l id_ bsrF).1),Bo ((Q40 l id_ bsrF).2)]):=by
 refine AGives.any' (.cons lw (l1 (.cons (Low.fn _ _ _ LowL.nil LowL.nil) .nil))) (Low.tup' (l1 (l1 .nil))) ?_ objs
 have h:=bsr_m l id_ z1
 unfold AGives ACalls;unfold AMoves at h
 intro K w vs hm hr
 refine (h K w vs hm hr).mono ?_
 rintro e w' ⟨v,K',he,hle,hm',hv⟩
 have hn:K.n=0:=hm.len.symm
 refine ⟨v,_,_,K',he,⟨hle.M,fun o v h=>absurd h (by omega),fun o v h=>absurd h (by omega),by omega,fun o h=>absurd h (by omega),hle.w0,hle.B,hle.M0⟩,hm',hv,rfl,rfl⟩
def law29_two :State:=(⟨5,(List.replicate 4 Node.zero),([(⟨1,⟨#[97]⟩,⟨#[117]⟩,⟨#[120]⟩,(⟨1,([(⟨3,10⟩:Alt)]:List Alt),0,0,0⟩:Shape),0,[],1,false,0,(-1),0,0,0,0,0⟩:Job),(⟨2,⟨#[97]⟩,⟨#[117]⟩,⟨#[120]⟩,(⟨1,([(⟨3,10⟩:Alt)]:List Alt),0,0,0⟩:Shape),0,[],1,false,0,(-1),0,0,0,0,0⟩:Job)]:List Job),[],[],[],3,1⟩:State)
theorem law29_two_c :GV 27 [] (State.a law29_two):=by
 generalize hR:law29_two=R;refine ga .nil (State.low _ _) (kp 3 []) Tryz.func27 ?_;refine Or.inl ?_;refine dchk (by kernel_rfl) ?_;refine And.intro (mk_ok 56 rfl (by refine ⟨?_,?_,?_,?_⟩ <;> exact ckA)) ?_;(repeat ((first|refine ai rfl ?_|refine ai (fun _=>rfl) ?_)));obtain rfl:=foll hR rfl;exact Q10 (State.low _ _) (Seen.agg (e1 (ev (Qn0 Node.zero _ rfl eqA lnA) (ev (seen_as (as_deep (c:=Job.cells) (d:=Job.zero) ([(⟨1,⟨#[97]⟩,⟨#[117]⟩,⟨#[120]⟩,(⟨1,([(⟨3,10⟩:Alt)]:List Alt),0,0,0⟩:Shape),0,[],1,false,0,(-1),0,0,0,0,0⟩:Job),(⟨2,⟨#[97]⟩,⟨#[117]⟩,⟨#[120]⟩,(⟨1,([(⟨3,10⟩:Alt)]:List Alt),0,0,0⟩:Shape),0,[],1,false,0,(-1),0,0,0,0,0⟩:Job)]:List Job) (.cons _ _ _ _ (a1 (a1 (a1 (a1 (a1 (av (QW4 (c:=Alt.cells) (d:=Alt.zero) ([(⟨3,10⟩:Alt)]:List Alt) rfl) (a1 (a1 (a1 (a1 (av (Qm6) (a1 (a1 (a1 (a1 (a1 (a1 (a1 (a1 (a1 .nil)))))))))))))))))))) (.cons _ _ _ _ (a1 (a1 (a1 (a1 (a1 (av (QW4 (c:=Alt.cells) (d:=Alt.zero) ([(⟨3,10⟩:Alt)]:List Alt) rfl) (a1 (a1 (a1 (a1 (av (Qm6) (a1 (a1 (a1 (a1 (a1 (a1 (a1 (a1 (a1 .nil)))))))))))))))))))) .nil)))) (ev (Q50) (ev (Q50) (ev (Q50) (e1 (e1 .nil)))))))))
end Go.Proofs.YtldebhdmhpopaaaGreatDoor
