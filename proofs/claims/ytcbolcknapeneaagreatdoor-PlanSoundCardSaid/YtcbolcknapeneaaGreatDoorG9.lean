/-
  Contracts of functions, printed by a program of this repo (wip/dec). No condition beyond those that stand in each.
-/
import Derived.Test.YtcbolcknapeneaaGreatDoorG7
import Derived.Test.YtcbolcknapeneaaGreatDoorProg
namespace Go.Proofs.YtcbolcknapeneaaGreatDoor
set_option linter.unusedSimpArgs false
set_option linter.unusedVariables false
open Go.Fw
set_option maxRecDepth 20000
set_option maxHeartbeats 4000000
attribute [local irreducible] ACalls AMoves
theorem Job.zz {x:Job} (h:x.sz):x.name.size<=4294967296∧x.user.size<=4294967296∧x.account.size<=4294967296∧x.shape.alts.length<=4294967296∧x.after.length<=4294967296:=h
theorem Usage.zz {x:Usage} (h:x.sz):x.user.size<=4294967296∧x.account.size<=4294967296:=h
abbrev GV (f:FuncId) (a:List AVal) (r:AVal):Prop:=∀ objs,AGives Tryz.prog f a objs r
def Qcb (l:List Node):Bool:=(decide ((l.length:Int)<=100))
theorem law12_Few_c (l:List Node):GV 40 [nodeL l] (Bo (Qcb l)):=by
 generalize hR:Qcb l=R;refine ga (.cons lw .nil) lx (kp 3 []) Tryz.func40 ?_;obtain rfl:=foll hR rfl;exact Q00 lx sr
def Qbb (s:Shape):Bool:=(decide ((s.alts.length:Int)<=100))
theorem law07_Few_c (s:Shape):GV 44 [Shape.a s] (Bo (Qbb s)):=by
 generalize hR:Qbb s=R;refine ga (.cons (Shape.low _ _) .nil) lx (kp 3 []) Tryz.func44 ?_;obtain rfl:=foll hR rfl;exact Q00 lx sr
def Qfb (l:List Book):Bool:=(decide ((l.length:Int)<=100))
theorem law19_Few_c (l:List Book):GV 42 [bookL l] (Bo (Qfb l)):=by
 generalize hR:Qfb l=R;refine ga (.cons lw .nil) lx (kp 3 []) Tryz.func42 ?_;obtain rfl:=foll hR rfl;exact Q00 lx sr
def QA6 :List Usage->Nat->Bool
 | [],_=>true
 | x_ :: r,i=>bif ((decide ((ByteArray.size x_.user:Int) > 1000))||(decide ((ByteArray.size x_.account:Int) > 1000))) then false else QA6 r (i+1)
def Qeb (l:List Usage):Bool:=bif (decide ((l.length:Int) > 300)) then false else QA6 l 0
theorem law17_Few_c (l:List Usage) (hs0:l.length<=9223372036854775807∧(∀ y ∈ l,y.szM)):GV 43 [Qo2 l] (Bo (Qeb l)):=by
 generalize hR:Qeb l=R;refine ga (.cons lw .nil) lx (kp 4 [6,10,28]) Tryz.func43 ?_;obtain ⟨z9,z10⟩:=id hs0;refine ai (fun h1=>?_) (fun h2=>?_)
 ·have qh1:=of_decide_eq_true h1;obtain rfl:=foll hR (ct h1 rfl);exact Q00 lx sr
 ·have qh2:=of_decide_eq_false h2;refine Qm0 (fun (i:Nat)=>QA6 (List.drop i l) i=R∧i<=l.length) (fun i=>l.length - i) (fun i=>[(0,Qo2 l),(2,Bo false),(3,I (i:Int))]) (fun i=>[]) 0 (wk [] .nil (sl lw (s1 (s1 .nil)))) ⟨foll hR (cf h2 rfl),by exact omA⟩ ?_;clear hR;rintro i ⟨hR,hj⟩;(try dsimp only at hR hj);refine ai (fun h3=>?_) (fun h4=>?_)
  ·have hlt:=ltA h3;rw [Qg0 Usage.zero hlt] at hR;have hxz:(l.getD i Usage.zero).szM:=Q70 (by first|assumption|grind) (Usage.szz _);have hkz:=hxz;obtain ⟨z5,z6⟩:((l.getD i Usage.zero).user).size<=9223372036854775807∧((l.getD i Usage.zero).account).size<=9223372036854775807:=hxz;refine ai gkA ?_;refine ai gkA ?_;refine ai (fun h7=>?_) (fun h8=>?_)
   ·obtain rfl:=foll hR (ct h7 rfl);exact Q00 lx sr
   ·exact Qq0 (i+1) (wk [] .nil (sl lw (s1 (sv (Qn0 (I_eq (wr omA)) lx) .nil)))) omA ⟨foll hR (cf h8 rfl),by exact omA⟩
  ·rw [Qt0 (l:=l) (j:=i) (geA h4)] at hR;obtain rfl:=foll hR rfl;exact Q00 lx sr
def QU3 (f:Node->Bool):List Node->Nat->Int
 | [],_=>(-1)
 | x_ :: r,i=>bif (f x_) then (i:Int) else QU3 f r (i+1)
def QY1 (s:List Node) (f:Node->Bool):Int:=QU3 f s 0
def Qu2 (v:Int):List Int->Nat->Int
 | [],_=>(-1)
 | x_ :: r,i=>bif (v==x_) then (i:Int) else Qu2 v r (i+1)
def Qo5 (s:List Int) (v:Int):Int:=Qu2 v s 0
theorem QGb (s:List Int) (v:Int) (hs0:s.length<=4294967296):GV 214 [ints s,I v] (I (Qo5 s v)):=by
 generalize hR:Qo5 s v=R;refine ga (.cons lw (l1 .nil)) lx (kp 6 [7,8,9,16]) Tryz.func214 ?_;have hk0:=hs0;obtain z5:s.length<=4294967296:=hs0;refine Qm0 (fun (i:Nat)=>Qu2 v (List.drop i s) i=R∧i<=s.length) (fun i=>s.length - i) (fun i=>[(0,ints s),(1,I v),(4,I 0),(7,I (s.length:Int)),(8,I (i:Int))]) (fun i=>[]) 0 (wk [] .nil (sl lw (s1 (s1 (s1 (s1 .nil)))))) ⟨foll hR rfl,by exact omA⟩ ?_;clear hR;rintro i ⟨hR,hj⟩;(try dsimp only at hR hj);refine ai (fun h1=>?_) (fun h2=>?_)
 ·have hlt:=ltA h1;rw [Qg0 0 hlt] at hR;refine ai gkA ?_;refine ai (fun h3=>?_) (fun h4=>?_)
  ·obtain rfl:=foll hR (ct h3 rfl);exact Q00 lx sr
  ·exact Qq0 (i+1) (wk [] .nil (sl lw (s1 (s1 (s1 (sv (Qn0 (I_eq (wr omA)) lx) .nil)))))) omA ⟨foll hR (cf h4 rfl),by exact omA⟩
 ·rw [Qt0 (l:=s) (j:=i) (geA h2)] at hR;obtain rfl:=foll hR rfl;exact Q00 lx sr
def Q48 (n:Int):Bool:=((decide (n >= 0))&&(decide (n<=1000000)))
theorem Qzc (n:Int):GV 304 [I n] (Bo (Q48 n)):=by
 generalize hR:Q48 n=R;refine ga (l1 .nil) lx (kp 3 []) Tryz.func304 ?_;obtain rfl:=foll hR rfl;exact Q00 lx sr
def Qc3 (n:Int):Bool:=((decide (n >= 0))&&(decide (n<=1000000)))
theorem QW4 (n:Int):GV 72 [I n] (Bo (Qc3 n)):=by
 generalize hR:Qc3 n=R;refine ga (l1 .nil) lx (kp 3 []) Tryz.func72 ?_;obtain rfl:=foll hR rfl;exact Q00 lx sr
def Q43 (n:Int) (from_:Int) (to_:Int):Int:=bif (decide (n<from_)) then from_ else bif (decide (n > to_)) then to_ else n
theorem QX8 (n:Int) (from_:Int) (to_:Int):GV 171 [I n,I from_,I to_] (I (Q43 n from_ to_)):=by
 generalize hR:Q43 n from_ to_=R;refine ga (l1 (l1 (l1 .nil))) lx (kp 7 [7,12]) Tryz.func171 ?_;refine ai (fun h1=>?_) (fun h2=>?_)
 ·have qh1:=of_decide_eq_true h1;obtain rfl:=foll hR (ct h1 rfl);exact Q00 lx sr
 ·have qh2:=of_decide_eq_false h2;refine ai (fun h3=>?_) (fun h4=>?_)
  ·have qh3:=of_decide_eq_true h3;obtain rfl:=foll hR (cf h2 (ct h3 rfl));exact Q00 lx sr
  ·have qh4:=of_decide_eq_false h4;obtain rfl:=foll hR (cf h2 (cf h4 rfl));exact Q00 lx sr
def Q01 (a:Alt):Bool:=((((decide (a.nodes >= 1))&&(decide (a.nodes<=48)))&&(decide (a.wall >= 1)))&&(decide (a.wall<=100000)))
theorem Qu9 (a:Alt):GV 215 [Alt.a a] (Bo (Q01 a)):=by
 generalize hR:Q01 a=R;refine ga (.cons (Alt.low _ _) .nil) lx (kp 3 []) Tryz.func215 ?_;obtain rfl:=foll hR rfl;exact Q00 lx sr
def QX2 (f:Alt->Bool):List Alt->Nat->Int
 | [],_=>(-1)
 | x_ :: r,i=>bif (f x_) then (i:Int) else QX2 f r (i+1)
def QY0 (s:List Alt) (f:Alt->Bool):Int:=QX2 f s 0
def Qp2 (n:Int) (from_:Int) (to_:Int):Bool:=((decide (n >= from_))&&(decide (n<=to_)))
theorem Q03 (n:Int) (from_:Int) (to_:Int):GV 252 [I n,I from_,I to_] (Bo (Qp2 n from_ to_)):=by
 generalize hR:Qp2 n from_ to_=R;refine ga (l1 (l1 (l1 .nil))) lx (kp 7 []) Tryz.func252 ?_;obtain rfl:=foll hR rfl;exact Q00 lx sr
def Q61 (r_:Int):Int:=bif ((r_==9)||(r_==32)) then 1 else bif (((((decide (r_<32))||((decide (r_ >= 127))&&(decide (r_<=160))))||((decide (r_ >= 55296))&&(decide (r_<=57343))))||(r_==65533))||(decide (r_ > 1114111))) then 0 else bif ((decide (r_ >= 48))&&(decide (r_<=57))) then 3 else bif ((((decide (r_ >= 97))&&(decide (r_<=122)))||((decide (r_ >= 65))&&(decide (r_<=90))))||(decide (r_ > 160))) then 2 else 4
theorem Q84 (r_:Int):GV 339 [J r_] (I (Q61 r_)):=by
 generalize hR:Q61 r_=R;refine ga (l1 .nil) lx (kp 3 [3,10,37,44]) Tryz.func339 ?_;refine ai (fun h1=>?_) (fun h2=>?_)
 ·obtain rfl:=foll hR (ct h1 rfl);exact Q00 lx sr
 ·refine ai (fun h3=>?_) (fun h4=>?_)
  ·obtain rfl:=foll hR (cf h2 (ct h3 rfl));exact Q00 lx sr
  ·refine ai (fun h5=>?_) (fun h6=>?_)
   ·obtain rfl:=foll hR (cf h2 (cf h4 (ct h5 rfl)));exact Q00 lx sr
   ·refine ai (fun h7=>?_) (fun h8=>?_)
    ·obtain rfl:=foll hR (cf h2 (cf h4 (cf h6 (ct h7 rfl))));exact Q00 lx sr
    ·obtain rfl:=foll hR (cf h2 (cf h4 (cf h6 (cf h8 rfl))));exact Q00 lx sr
def Qw0 (is:Int->Bool):Nat->LexReader->LexReader
 | 0,_=>LexReader.zero
 | m+1,c=>bif ((decide (c.at_<(c.line.length:Int)))&&(is (c.line.getD (Int.toNat c.at_) 0))) then Qw0 is m { c with at_:=(w64 (c.at_+1)) } else c
def Qx0 (r_:LexReader) (c:LexReader):ByteArray × LexReader:=((runesBytes (List.drop (Int.toNat r_.at_) (List.take (Int.toNat c.at_) c.line))),c)
def Q30 (r_:LexReader) (is:Int->Bool):ByteArray × LexReader:=Qx0 r_ (Qw0 is ((Int.toNat ((r_.line.length:Int) - r_.at_))+1) r_)
theorem Q3a (is:Int->Bool):∀ (m:Nat) (c:LexReader),(Qw0 is m c).line.length<=c.line.length
 | 0,_=>by simp [Qw0,LexReader.zero]
 | m+1,c=>by
  rw [Qw0]
  cases ((decide (c.at_<(c.line.length:Int)))&&(is (c.line.getD (Int.toNat c.at_) 0))) with
  | true=>exact Q3a is m { c with at_:=(w64 (c.at_+1)) }
  | false=>exact Nat.le_refl _
theorem Qd9 (r_:LexReader) (is:Int->Bool) (h:r_.line.length<=400):(Q30 r_ is).1.size<=4294967296:=by
 have h1:=Q3a is ((Int.toNat ((r_.line.length:Int) - r_.at_))+1) r_
 unfold Q30 Qx0
 refine Nat.le_trans (QZ5 _) ?_
 simp only [List.length_drop,List.length_take]
 omega
def Qw4 (s:ByteArray):Nat->Nat->List Int->(List Int)
 | 0,_,_=>[]
 | m+1,i,c=>bif (decide ((i:Int)<(ByteArray.size s:Int))) then bif ((decide ((c.getD i 0) >= 65))&&(decide ((c.getD i 0)<=90))) then Qw4 s m (i+1) (c.set i (wu8 ((wu8 ((c.getD i 0)+97)) - 65))) else Qw4 s m (i+1) c else c
def QF3 (c:List Int):ByteArray:=(QQ2 c)
def Qg6 (s:ByteArray):ByteArray:=QF3 (Qw4 s ((Int.toNat ((ByteArray.size s:Int) - (0:Int)))+1) 0 (QF1 s))
theorem runes_Lower_c (s:ByteArray) (hs0:s.size<=4294967296):GV 390 [Sg s] (Sg (Qg6 s)):=by
 generalize hR:Qg6 s=R;refine ga (l1 .nil) lx (kp 6 [8,9,10,11,20]) Tryz.func390 ?_;have hk0:=hs0;obtain z5:s.size<=4294967296:=hs0;refine Q41 (fun (i:Nat) (c:List Int)=>∃ m,(Int.toNat ((ByteArray.size s:Int) - (i:Int)))<m∧QF3 (Qw4 s m i c)=R∧c.length=ByteArray.size s∧(i:Int)<=(ByteArray.size s:Int)) (fun i c=>(Int.toNat ((ByteArray.size s:Int) - (i:Int)))) (fun i c=>[(2,Sg ⟨#[]⟩),(3,AVal.own 0 0 1 0 c.length),(8,AVal.own 0 0 1 0 c.length),(9,I (ByteArray.size s:Int)),(10,I (i:Int))]) (fun i c=>[(0,AObj.row 5 1 (c.map (fun q_=>[Y q_])))]) 0 (QF1 s) (wk [0] (tO rfl (tl eqA) .nil) (s1 (sv (to 0 lnA) (sv (to 0 lnA) (s1 (s1 .nil)))))) ⟨_,Nat.lt_succ_self _,foll hR rfl,by exact exA⟩ ?_;clear hR;rintro i c ⟨m,hm,hR,hx⟩;(try dsimp only at hR hm hx);obtain ⟨m,rfl⟩:=sucA m;refine ai (fun h1=>?_) (fun h2=>?_)
 ·have qh1:=of_decide_eq_true h1;refine ai gkA ?_;refine ⟨_,Q22 rfl rfl rfl (Q12 0 i (by first|rfl|exact Nat.zero_add _|omega) ckA) rfl,?_⟩;refine ai (fun h3=>?_) (fun h4=>?_)
  ·refine ai gkA ?_;refine ⟨_,Ql3 rfl rfl rfl rfl (Q12 0 i (by first|rfl|exact Nat.zero_add _|omega) ckA) rfl rfl (set_map i (wu8 ((wu8 ((c.getD i 0)+97)) - 65)) (by first|rfl|exact Nat.zero_add _|omega) rfl),?_⟩;exact Qz0 (i+1) (c.set i (wu8 ((wu8 ((c.getD i 0)+97)) - 65))) (wk [0] (tO rfl (tl eqA) .nil) (s1 (sv (to 0 lnA) (sv (to 0 lnA) (s1 (sv (Qn0 (I_eq (wr omA)) lx) .nil)))))) omA ⟨m,by exact omA,foll hR (congrArg (fun p:(List Int)=>QF3 p) (ct h1 (ct h3 rfl))),by exact exA⟩
  ·exact Qz0 (i+1) c (wk [0] (tO rfl (tl eqA) .nil) (s1 (sv (to 0 lnA) (sv (to 0 lnA) (s1 (sv (Qn0 (I_eq (wr omA)) lx) .nil)))))) omA ⟨m,by exact omA,foll hR (congrArg (fun p:(List Int)=>QF3 p) (ct h1 (cf h4 rfl))),by exact exA⟩
 ·have qh2:=of_decide_eq_false h2;replace hR:QF3 c=R:=fo2 (fun p:(List Int)=>QF3 p) (c) hR (cf h2 rfl);(first|refine ⟨c,by exact cvA,?_⟩|refine ⟨_,fun _=>⟨c,by exact cvA,rfl,rfl⟩,?_⟩|refine ⟨_,rfl,⟨c,by exact cvA,Sub.refl _,rfl⟩,?_⟩);obtain rfl:=foll hR rfl;exact Q00 lx sr
def QQ0 (r_:LexReader) (at_:Int) (e_:Int):LexReader:=bif (r_.error==0) then (⟨r_.line,r_.at_,at_,e_⟩:LexReader) else r_
theorem Q53 (r_:LexReader) (at_:Int) (e_:Int):AMoves Tryz.prog 381 [AVal.ptr 0 0 4 0 0,I at_,I e_] [(0,AObj.row 364 4 [[runes r_.line,I r_.at_,I r_.bad,I r_.error]])] 1 (AVal.tup []) [(0,AObj.row 364 4 [[runes ((QQ0 r_ at_ e_).line),I ((QQ0 r_ at_ e_).at_),I ((QQ0 r_ at_ e_).bad),I ((QQ0 r_ at_ e_).error)]])]:=by
 generalize hR:QQ0 r_ at_ e_=R;refine mo (kp 6 [10]) Tryz.func381 ?_;refine ai (fun h1=>?_) (fun h2=>?_)
 ·obtain rfl:=foll hR (ct h1 rfl);exact rq (tt [0] (tO rfl (ts LexReader.lo) .nil) t1)
 ·obtain rfl:=foll hR (cf h2 rfl);exact rq (tt [0] (tO rfl (ts LexReader.lo) .nil) t1)
def QR5 (s:ByteArray):List (Nat × Int)->Bool
 | []=>(!(ByteArray.toList s==ByteArray.toList ⟨#[]⟩))
 | x_ :: r=>bif ((decide (x_.2<48))||(decide (x_.2 > 57))) then false else QR5 s r
def QX6 (s:ByteArray):Bool:=QR5 s (Qq6 s)
theorem QIc (s:ByteArray) (hs0:s.size<=4294967296):GV 392 [Sg s] (Bo (QX6 s)):=by
 generalize hR:QX6 s=R;refine ga (l1 .nil) lx (kp 5 [6,7,8,15]) Tryz.func392 ?_;have hk0:=hs0;obtain z5:s.size<=4294967296:=hs0;refine Qm0 (fun (pos:Nat)=>∃ m,ByteArray.size s - pos<=m∧QR5 s (QA4 s m pos)=R) (fun pos=>ByteArray.size s - pos) (fun pos=>[(0,Sg s),(2,Bo false),(6,AVal.ptr 0 0 1 0 0)]) (fun pos=>[(0,AObj.other (.strIter s pos))]) 0 (wk [0] (tO rfl (.strIter _ _) .nil) (s1 (s1 (sv (Q10 0 rfl rfl) .nil)))) ⟨ByteArray.size s,by exact omA,foll hR rfl⟩ ?_;clear hR;rintro pos ⟨m,hm,hR⟩;(try dsimp only at hR hm);refine ai (fun h1=>?_) (fun h2=>?_)
 ·have hlt:=of_decide_eq_true h1;have hw:=QD9 s pos;have hwe:=QC9 s pos hlt;obtain ⟨m,rfl⟩:=sucA m;rw [Qc4 h1] at hR;refine ai (fun _=>?_) (fun h=>nomatch h);refine ai (fun h3=>?_) (fun h4=>?_)
  ·obtain rfl:=foll hR (ct h3 rfl);exact Q00 lx sr
  ·exact Qq0 (pos+(Utf8.decode s pos).2) (wk [0] (tO rfl (.strIter _ _) .nil) (s1 (s1 (sv (Q10 0 rfl rfl) .nil)))) omA ⟨m,by exact omA,foll hR (cf h4 rfl)⟩
 ·rw [QI6 h2] at hR;refine ai (fun h=>nomatch h) (fun _=>?_);obtain rfl:=foll hR rfl;exact Q00 lx sr
theorem QT8 (s:ByteArray):∀ l,QR5 s l=true->(!(ByteArray.toList s==ByteArray.toList ⟨#[]⟩))=true ∧ ∀ x ∈ l,48<=x.2∧x.2<=57
 | [],h=>⟨h,fun x hx=>nomatch hx⟩
 | x :: r,h=>by
  rw [QR5] at h
  cases hc:((decide (x.2<48))||(decide (x.2 > 57))) with
  | true=>rw [hc] at h;cases h
  | false =>
   rw [hc] at h
   obtain ⟨a,b⟩:=QT8 s r h
   refine ⟨a,fun y hy=>?_⟩
   rcases List.mem_cons.1 hy with rfl|hy
   ·simp only [Bool.or_eq_false_iff,decide_eq_false_iff_not] at hc
    omega
   ·exact b y hy
theorem lex_digits_ok {s:ByteArray} {q:Bool} (h:(((!(QX6 s))||(decide ((ByteArray.size s:Int) > 9)))||q)=false):atoiOK s:=by
 simp only [Bool.or_eq_false_iff,Bool.not_eq_false',decide_eq_false_iff_not] at h
 obtain ⟨⟨h1,h2⟩,_⟩:=h
 obtain ⟨a,b⟩:=QT8 s _ h1
 refine ⟨?_,by omega,fun i hi=>digits_bytes s s.size 0 (by omega) b i (by omega) hi⟩
 rcases Nat.eq_zero_or_pos s.size with h0|h0
 ·have e:s=⟨#[]⟩:=by
   apply ByteArray.ext
   exact Array.eq_empty_of_size_eq_zero h0
  rw [e] at a
  simp at a
 ·exact h0
def QK6 (s:ByteArray):Nat->Int->Nat->Int
 | 0,_,_=>0
 | m+1,n,i=>bif (decide ((i:Int)<(ByteArray.size s:Int))) then QK6 s m (w64 ((w64 (n*10))+(w64 (wu8 (((QF1 s).getD i 0) - 48))))) (i+1) else n
def Qe4 (n:Int):Int × Unit:=(n,())
def Qq8 (s:ByteArray):Int × Unit:=Qe4 (QK6 s ((Int.toNat ((ByteArray.size s:Int) - (0:Int)))+1) 0 0)
theorem Q7e (s:ByteArray) (hs0:s.size<=4294967296) (hp0:atoiOK s):GV 408 [Sg s] (AVal.tup [I ((Qq8 s).1),AVal.lit .nilIface]):=by
 generalize hR:Qq8 s=R;refine ga (l1 .nil) (Low.tup' (l1 (l1 .nil))) (kp 11 [30,39,44,47,48,49,50,56,66]) Tryz.func408 ?_;have hk0:=hs0;obtain z11:s.size<=4294967296:=hs0;refine ai (fun h1=>?_) (fun h2=>?_)
 ·refine ai gkA ?_;refine ai gkA ?_;refine ai (fun h3=>?_) (fun h4=>?_)
  ·exfalso;exact atoi_sign hp0 h3
  ·refine Q41 (fun (n:Int) (i:Nat)=>∃ m,(Int.toNat ((ByteArray.size s:Int) - (i:Int)))<m∧Qe4 (QK6 s m n i)=R∧(i:Int)<=(ByteArray.size s:Int)) (fun n i=>(Int.toNat ((ByteArray.size s:Int) - (i:Int)))) (fun n i=>[(0,Sg s),(2,I 0),(3,AVal.lit .nilIface),(5,Sg s),(6,I n),(47,AVal.own 0 0 1 0 (ByteArray.size s)),(48,I (ByteArray.size s:Int)),(49,I (i:Int))]) (fun n i=>[(0,AObj.row 5 1 ((QF1 s).map (fun q_=>[Y q_])))]) 0 0 (wk [0] (tO rfl (tl eqA) .nil) (s1 (s1 (s1 (s1 (s1 (sv (to 0 lnA) (s1 (s1 .nil))))))))) ⟨_,Nat.lt_succ_self _,foll hR rfl,by exact exA⟩ ?_;clear hR;rintro n i ⟨m,hm,hR,hx⟩;(try dsimp only at hR hm hx);obtain ⟨m,rfl⟩:=sucA m;refine ai (fun h5=>?_) (fun h6=>?_)
   ·have qh5:=of_decide_eq_true h5;refine ai gkA ?_;refine ⟨_,Q22 rfl rfl rfl (Q12 0 i (by first|rfl|exact Nat.zero_add _|omega) ckA) rfl,?_⟩;refine ai (fun h7=>?_) (fun h8=>?_)
    ·exfalso;exact atoi_digit hp0 (by omega) h7
    ·have qh8:=of_decide_eq_false h8;exact Qz0 (w64 ((w64 (n*10))+(w64 (wu8 (((QF1 s).getD i 0) - 48))))) (i+1) (wk [0] (tO rfl (tl eqA) .nil) (s1 (s1 (s1 (s1 (s1 (sv (to 0 lnA) (s1 (sv (Qn0 (I_eq (wr omA)) lx) .nil))))))))) omA ⟨m,by exact omA,foll hR (congrArg (fun p:Int=>Qe4 p) (ct h5 rfl)),by exact exA⟩
   ·have qh6:=of_decide_eq_false h6;replace hR:Qe4 n=R:=fo2 (fun p:Int=>Qe4 p) (n) hR (cf h6 rfl);refine ai gkA ?_;refine ai (fun h9=>?_) (fun h10=>?_)
    ·exfalso;exact atoi_minus hp0 h9
    ·obtain rfl:=foll hR rfl;exact Q00 (Low.tup' (l1 (l1 .nil))) (Seen.tup (e1 (e1 .nil)))
 ·exfalso;have ha1:=hp0.1;have ha2:=hp0.2.1;simp at h2;omega
def Qn2 (p_:List Int) (r_:Int) (i:Bool):(List Int):=bif i then (p_++([(wu8 (BitVec.ofInt 8 224 ||| BitVec.ofInt 8 (wu8 (Int.fdiv r_ (2 ^ (min (Int.toNat 12) 32))))).toNat),(wu8 (BitVec.ofInt 8 128 ||| BitVec.ofInt 8 (wu8 (BitVec.ofInt 8 (wu8 (Int.fdiv r_ (2 ^ (min (Int.toNat 6) 32)))) &&& BitVec.ofInt 8 63).toNat)).toNat),(wu8 (BitVec.ofInt 8 128 ||| BitVec.ofInt 8 (wu8 (BitVec.ofInt 8 (wu8 r_) &&& BitVec.ofInt 8 63).toNat)).toNat)]:List Int)) else bif ((decide ((wu32 r_) > 65535))&&(decide ((wu32 r_)<=1114111))) then (p_++([(wu8 (BitVec.ofInt 8 240 ||| BitVec.ofInt 8 (wu8 (Int.fdiv r_ (2 ^ (min (Int.toNat 18) 32))))).toNat),(wu8 (BitVec.ofInt 8 128 ||| BitVec.ofInt 8 (wu8 (BitVec.ofInt 8 (wu8 (Int.fdiv r_ (2 ^ (min (Int.toNat 12) 32)))) &&& BitVec.ofInt 8 63).toNat)).toNat),(wu8 (BitVec.ofInt 8 128 ||| BitVec.ofInt 8 (wu8 (BitVec.ofInt 8 (wu8 (Int.fdiv r_ (2 ^ (min (Int.toNat 6) 32)))) &&& BitVec.ofInt 8 63).toNat)).toNat),(wu8 (BitVec.ofInt 8 128 ||| BitVec.ofInt 8 (wu8 (BitVec.ofInt 8 (wu8 r_) &&& BitVec.ofInt 8 63).toNat)).toNat)]:List Int)) else (p_++([239,191,189]:List Int))
def Qb2 (p_:List Int) (r_:Int):(List Int):=bif (decide ((wu32 r_)<=2047)) then (p_++([(wu8 (BitVec.ofInt 8 192 ||| BitVec.ofInt 8 (wu8 (Int.fdiv r_ (2 ^ (min (Int.toNat 6) 32))))).toNat),(wu8 (BitVec.ofInt 8 128 ||| BitVec.ofInt 8 (wu8 (BitVec.ofInt 8 (wu8 r_) &&& BitVec.ofInt 8 63).toNat)).toNat)]:List Int)) else bif (decide ((wu32 r_)<55296)) then Qn2 p_ r_ (decide ((wu32 r_)<55296)) else Qn2 p_ r_ ((decide (57343<(wu32 r_)))&&(decide ((wu32 r_)<=65535)))
theorem QZ7 (p_:List Int) (r_:Int) (hs0:p_.length<=4294967296):AMoves Tryz.prog 407 [AVal.own 0 0 1 0 p_.length,J r_] [(0,AObj.row 5 1 (p_.map (fun q_=>[Y q_])))] 0 (AVal.own 0 0 1 0 (Qb2 p_ r_).length) [(0,AObj.row 5 1 ((Qb2 p_ r_).map (fun q_=>[Y q_])))]:=by
 generalize hR:Qb2 p_ r_=R;refine mo (kj [1000007] 6 [11,25,50]) Tryz.func407 ?_;have hk0:=hs0;obtain z9:p_.length<=4294967296:=hs0;refine ai (fun h1=>?_) (fun h2=>?_)
 ·have qh1:=of_decide_eq_true h1;refine ai gkA ?_;refine Or.inl ?_;(first|refine ⟨Q75 1 rfl lnA apA,?_⟩|refine ⟨QI2 1 rfl apA,?_⟩);obtain rfl:=foll hR (ct h1 rfl);exact rq (tt [0] (tO rfl (tl eqA) .nil) (to 0 lnA))
 ·have qh2:=of_decide_eq_false h2;refine QJ2 (fun (i:Bool)=>Qn2 p_ r_ i=R) (fun i=>[(0,AVal.own 0 0 1 0 p_.length),(1,J r_),(4,AVal.lit (.slice none 0 0)),(5,V (wu32 r_)),(25,Bo i)]) (fun i=>[(0,AObj.row 5 1 (p_.map (fun q_=>[Y q_])))]) ?_ ?_
  ·clear hR;rintro i hR;(try dsimp only at hR);refine ai (fun h3=>?_) (fun h4=>?_)
   ·refine ai gkA ?_;refine ai gkA ?_;refine Or.inl ?_;(first|refine ⟨Q75 1 rfl lnA apA,?_⟩|refine ⟨QI2 1 rfl apA,?_⟩);obtain rfl:=foll hR (ct h3 rfl);exact rq (tt [0] (tO rfl (tl eqA) .nil) (to 0 lnA))
   ·refine ai (fun h5=>?_) (fun h6=>?_)
    ·refine ai gkA ?_;refine ai gkA ?_;refine ai gkA ?_;refine Or.inl ?_;(first|refine ⟨Q75 1 rfl lnA apA,?_⟩|refine ⟨QI2 1 rfl apA,?_⟩);obtain rfl:=foll hR (cf h4 (ct h5 rfl));exact rq (tt [0] (tO rfl (tl eqA) .nil) (to 0 lnA))
    ·refine Or.inl ?_;(first|refine ⟨Q75 1 rfl lnA apA,?_⟩|refine ⟨QI2 1 rfl apA,?_⟩);obtain rfl:=foll hR (cf h4 (cf h6 rfl));exact rq (tt [0] (tO rfl (tl eqA) .nil) (to 0 lnA))
  ·refine ai (fun h7=>?_) (fun h8=>?_)
   ·have qh7:=of_decide_eq_true h7;exact QC0 (decide ((wu32 r_)<55296)) (wk [0] (tO rfl (tl eqA) .nil) (sv (to 0 lnA) (s1 (s1 (s1 (s1 .nil)))))) (foll hR (cf h2 (ct h7 rfl)))
   ·have qh8:=of_decide_eq_false h8;exact QC0 ((decide (57343<(wu32 r_)))&&(decide ((wu32 r_)<=65535))) (wk [0] (tO rfl (tl eqA) .nil) (sv (to 0 lnA) (s1 (s1 (s1 (s1 .nil)))))) (foll hR (cf h2 (cf h8 rfl)))
def QY2 (f:Dep->Bool):List Dep->Nat->Int
 | [],_=>(-1)
 | x_ :: r,i=>bif (f x_) then (i:Int) else QY2 f r (i+1)
def QZ0 (s:List Dep) (f:Dep->Bool):Int:=QY2 f s 0
def Q94 (s2:List Alt):List Alt->Nat->Bool
 | [],_=>true
 | x_ :: r,i=>bif (!((x_.nodes==(s2.getD i Alt.zero).nodes)&&(x_.wall==(s2.getD i Alt.zero).wall))) then false else Q94 s2 r (i+1)
def Qm5 (s1_:List Alt) (s2:List Alt):Bool:=bif ((s1_.length:Int)!=(s2.length:Int)) then false else Q94 s2 s1_ 0
theorem QEb (s1_:List Alt) (s2:List Alt) (hs0:s1_.length<=4294967296) (hs1:s2.length<=4294967296):GV 313 [altL s1_,altL s2] (Bo (Qm5 s1_ s2)):=by
 generalize hR:Qm5 s1_ s2=R;refine ga (.cons lw (.cons lw .nil)) lx (kp 6 [10,12,13,14,24]) Tryz.func313 ?_;have hk0:=hs0;obtain z7:s1_.length<=4294967296:=hs0;have hk1:=hs1;obtain z8:s2.length<=4294967296:=hs1;refine ai (fun h1=>?_) (fun h2=>?_)
 ·obtain rfl:=foll hR (ct h1 rfl);exact Q00 lx sr
 ·refine Qm0 (fun (i:Nat)=>Q94 s2 (List.drop i s1_) i=R∧i<=s1_.length) (fun i=>s1_.length - i) (fun i=>[(0,altL s1_),(1,altL s2),(4,Bo false),(12,I (s1_.length:Int)),(13,I (i:Int))]) (fun i=>[]) 0 (wk [] .nil (sl lw (sl lw (s1 (s1 (s1 .nil)))))) ⟨foll hR (cf h2 rfl),by exact omA⟩ ?_;clear hR;rintro i ⟨hR,hj⟩;(try dsimp only at hR hj);refine ai (fun h3=>?_) (fun h4=>?_)
  ·have hlt:=ltA h3;rw [Qg0 Alt.zero hlt] at hR;refine dchk (by kernel_rfl) ?_;refine ai gkA ?_;refine ai gkA ?_;refine ai (fun _=>(by kernel_rfl:eqOK _ _=true)) ?_;(repeat ((first|refine ai rfl ?_|refine ai (fun _=>rfl) ?_)));refine ai (fun h5=>?_) (fun h6=>?_)
   ·obtain rfl:=foll hR (ct h5 rfl);exact Q00 lx sr
   ·exact Qq0 (i+1) (wk [] .nil (sl lw (sl lw (s1 (s1 (sv (Qn0 (I_eq (wr omA)) lx) .nil)))))) omA ⟨foll hR (cf h6 rfl),by exact omA⟩
  ·rw [Qt0 (l:=s1_) (j:=i) (geA h4)] at hR;obtain rfl:=foll hR rfl;exact Q00 lx sr
def Qa4 (s2:List Dep):List Dep->Nat->Bool
 | [],_=>true
 | x_ :: r,i=>bif (!((x_.how==(s2.getD i Dep.zero).how)&&(x_.job==(s2.getD i Dep.zero).job))) then false else Qa4 s2 r (i+1)
def Qn5 (s1_:List Dep) (s2:List Dep):Bool:=bif ((s1_.length:Int)!=(s2.length:Int)) then false else Qa4 s2 s1_ 0
theorem QFb (s1_:List Dep) (s2:List Dep) (hs0:s1_.length<=4294967296) (hs1:s2.length<=4294967296):GV 259 [depL s1_,depL s2] (Bo (Qn5 s1_ s2)):=by
 generalize hR:Qn5 s1_ s2=R;refine ga (.cons lw (.cons lw .nil)) lx (kp 6 [10,12,13,14,24]) Tryz.func259 ?_;have hk0:=hs0;obtain z7:s1_.length<=4294967296:=hs0;have hk1:=hs1;obtain z8:s2.length<=4294967296:=hs1;refine ai (fun h1=>?_) (fun h2=>?_)
 ·obtain rfl:=foll hR (ct h1 rfl);exact Q00 lx sr
 ·refine Qm0 (fun (i:Nat)=>Qa4 s2 (List.drop i s1_) i=R∧i<=s1_.length) (fun i=>s1_.length - i) (fun i=>[(0,depL s1_),(1,depL s2),(4,Bo false),(12,I (s1_.length:Int)),(13,I (i:Int))]) (fun i=>[]) 0 (wk [] .nil (sl lw (sl lw (s1 (s1 (s1 .nil)))))) ⟨foll hR (cf h2 rfl),by exact omA⟩ ?_;clear hR;rintro i ⟨hR,hj⟩;(try dsimp only at hR hj);refine ai (fun h3=>?_) (fun h4=>?_)
  ·have hlt:=ltA h3;rw [Qg0 Dep.zero hlt] at hR;refine dchk (by kernel_rfl) ?_;refine ai gkA ?_;refine ai gkA ?_;refine ai (fun _=>(by kernel_rfl:eqOK _ _=true)) ?_;(repeat ((first|refine ai rfl ?_|refine ai (fun _=>rfl) ?_)));refine ai (fun h5=>?_) (fun h6=>?_)
   ·obtain rfl:=foll hR (ct h5 rfl);exact Q00 lx sr
   ·exact Qq0 (i+1) (wk [] .nil (sl lw (sl lw (s1 (s1 (sv (Qn0 (I_eq (wr omA)) lx) .nil)))))) omA ⟨foll hR (cf h6 rfl),by exact omA⟩
  ·rw [Qt0 (l:=s1_) (j:=i) (geA h4)] at hR;obtain rfl:=foll hR rfl;exact Q00 lx sr
def Q56 (c:Cmd) (i1:Bool):Cmd:=bif i1 then (⟨c.kind,0,⟨#[]⟩,⟨#[]⟩,⟨#[]⟩,Shape.zero,0,false,0,false,[],c.node,0,0⟩:Cmd) else bif (c.kind==10) then (⟨c.kind,0,⟨#[]⟩,⟨#[]⟩,⟨#[]⟩,Shape.zero,0,false,c.time,c.hasTime,[],0,c.nodes,c.from_⟩:Cmd) else (⟨c.kind,0,⟨#[]⟩,⟨#[]⟩,⟨#[]⟩,Shape.zero,0,false,0,false,[],0,0,0⟩:Cmd)
def QD4 (c:Cmd) (i:Bool):Cmd:=bif i then (⟨c.kind,c.job,⟨#[]⟩,⟨#[]⟩,⟨#[]⟩,Shape.zero,0,false,0,false,[],0,0,0⟩:Cmd) else bif (c.kind==5) then (⟨c.kind,c.job,⟨#[]⟩,⟨#[]⟩,⟨#[]⟩,Shape.zero,c.prio,c.hasPrio,c.time,c.hasTime,[],0,0,0⟩:Cmd) else bif (c.kind==6) then (⟨c.kind,c.job,⟨#[]⟩,⟨#[]⟩,⟨#[]⟩,Shape.zero,0,false,0,false,[],0,c.nodes,0⟩:Cmd) else bif (c.kind==7) then Q56 c (c.kind==7) else bif (c.kind==8) then Q56 c (c.kind==8) else Q56 c (c.kind==9)
def Qt7 (c:Cmd):Cmd:=bif (c.kind==1) then { c with job:=0,time:=0,hasTime:=false,node:=0,nodes:=0,from_:=0 } else bif (c.kind==2) then QD4 c (c.kind==2) else bif (c.kind==3) then QD4 c (c.kind==3) else bif (c.kind==4) then QD4 c (c.kind==4) else bif (c.kind==11) then QD4 c (c.kind==11) else QD4 c (c.kind==12)
theorem cmd_bare_c (c:Cmd) (hs0:c.sz):GV 174 [Cmd.a c] (Cmd.a (Qt7 c)):=by
 generalize hR:Qt7 c=R;refine ga (.cons (Cmd.low _ _) .nil) (Cmd.low _ _) (kj [1000011,1000019] 4 [8,9,32,41,58,66,73]) Tryz.func174 ?_;have hk0:=hs0;obtain ⟨z25,z26,z27,z28,z29⟩:c.name.size<=4294967296∧c.user.size<=4294967296∧c.account.size<=4294967296∧(c.shape.alts.length<=4294967296)∧c.after.length<=4294967296:=hs0;refine ai (fun h1=>?_) (fun h2=>?_)
 ·refine dchk (by kernel_rfl) ?_;(repeat ((first|refine ai rfl ?_|refine ai (fun _=>rfl) ?_)));(try (refine dchk (by kernel_rfl) ?_));(repeat ((first|refine ai rfl ?_|refine ai (fun _=>rfl) ?_)));obtain rfl:=foll hR (ct h1 rfl);exact Q00 (Cmd.low _ _) sr
 ·refine QJ2 (fun (i:Bool)=>QD4 c i=R) (fun i=>[(1,AVal.ptr 0 0 18 0 0),(2,AVal.ptr 1 0 18 0 0),(3,AVal.ptr 2 0 18 0 0),(8,I c.kind),(32,Bo i)]) (fun i=>[(0,AObj.row 119 18 [[I c.kind,I c.job,Sg c.name,Sg c.user,Sg c.account,I c.shape.kind,altL c.shape.alts,I c.shape.min,I c.shape.max,I c.shape.wall,I c.prio,Bo c.hasPrio,I c.time,Bo c.hasTime,depL c.after,I c.node,I c.nodes,I c.from_]]),(0,AObj.row 119 18 [[I 0,I 0,Sg ⟨#[]⟩,Sg ⟨#[]⟩,Sg ⟨#[]⟩,I 0,AVal.lit (.slice none 0 0),I 0,I 0,I 0,I 0,Bo false,I 0,Bo false,AVal.lit (.slice none 0 0),I 0,I 0,I 0]]),(0,AObj.row 119 18 [[I c.kind,I 0,Sg ⟨#[]⟩,Sg ⟨#[]⟩,Sg ⟨#[]⟩,I 0,AVal.lit (.slice none 0 0),I 0,I 0,I 0,I 0,Bo false,I 0,Bo false,AVal.lit (.slice none 0 0),I 0,I 0,I 0]])]) ?_ ?_
  ·clear hR;rintro i hR;(try dsimp only at hR);refine ai (fun h3=>?_) (fun h4=>?_)
   ·obtain rfl:=foll hR (ct h3 rfl);exact Q00 (Cmd.low _ _) (Seen.agg (e1 (e1 (e1 (e1 (e1 (e1 (ev (QJ0) (e1 (e1 (e1 (e1 (e1 (e1 (e1 (ev (QJ0) (e1 (e1 (e1 .nil)))))))))))))))))))
   ·refine ai (fun h5=>?_) (fun h6=>?_)
    ·refine dchk (by kernel_rfl) ?_;(repeat ((first|refine ai rfl ?_|refine ai (fun _=>rfl) ?_)));obtain rfl:=foll hR (cf h4 (ct h5 rfl));exact Q00 (Cmd.low _ _) (Seen.agg (e1 (e1 (e1 (e1 (e1 (e1 (ev (QJ0) (e1 (e1 (e1 (e1 (e1 (e1 (e1 (ev (QJ0) (e1 (e1 (e1 .nil)))))))))))))))))))
    ·refine ai (fun h7=>?_) (fun h8=>?_)
     ·refine dchk (by kernel_rfl) ?_;(repeat ((first|refine ai rfl ?_|refine ai (fun _=>rfl) ?_)));obtain rfl:=foll hR (cf h4 (cf h6 (ct h7 rfl)));exact Q00 (Cmd.low _ _) (Seen.agg (e1 (e1 (e1 (e1 (e1 (e1 (ev (QJ0) (e1 (e1 (e1 (e1 (e1 (e1 (e1 (ev (QJ0) (e1 (e1 (e1 .nil)))))))))))))))))))
     ·refine QJ2 (fun (i1:Bool)=>Q56 c i1=R) (fun i1=>[(1,AVal.ptr 0 0 18 0 0),(2,AVal.ptr 1 0 18 0 0),(3,AVal.ptr 2 0 18 0 0),(8,I c.kind),(66,Bo i1)]) (fun i1=>[(0,AObj.row 119 18 [[I c.kind,I c.job,Sg c.name,Sg c.user,Sg c.account,I c.shape.kind,altL c.shape.alts,I c.shape.min,I c.shape.max,I c.shape.wall,I c.prio,Bo c.hasPrio,I c.time,Bo c.hasTime,depL c.after,I c.node,I c.nodes,I c.from_]]),(0,AObj.row 119 18 [[I 0,I 0,Sg ⟨#[]⟩,Sg ⟨#[]⟩,Sg ⟨#[]⟩,I 0,AVal.lit (.slice none 0 0),I 0,I 0,I 0,I 0,Bo false,I 0,Bo false,AVal.lit (.slice none 0 0),I 0,I 0,I 0]]),(0,AObj.row 119 18 [[I c.kind,I 0,Sg ⟨#[]⟩,Sg ⟨#[]⟩,Sg ⟨#[]⟩,I 0,AVal.lit (.slice none 0 0),I 0,I 0,I 0,I 0,Bo false,I 0,Bo false,AVal.lit (.slice none 0 0),I 0,I 0,I 0]])]) ?_ ?_
      ·clear hR;rintro i1 hR;(try dsimp only at hR);refine ai (fun h9=>?_) (fun h10=>?_)
       ·obtain rfl:=foll hR (ct h9 rfl);exact Q00 (Cmd.low _ _) (Seen.agg (e1 (e1 (e1 (e1 (e1 (e1 (ev (QJ0) (e1 (e1 (e1 (e1 (e1 (e1 (e1 (ev (QJ0) (e1 (e1 (e1 .nil)))))))))))))))))))
       ·refine ai (fun h11=>?_) (fun h12=>?_)
        ·refine dchk (by kernel_rfl) ?_;(repeat ((first|refine ai rfl ?_|refine ai (fun _=>rfl) ?_)));obtain rfl:=foll hR (cf h10 (ct h11 rfl));exact Q00 (Cmd.low _ _) (Seen.agg (e1 (e1 (e1 (e1 (e1 (e1 (ev (QJ0) (e1 (e1 (e1 (e1 (e1 (e1 (e1 (ev (QJ0) (e1 (e1 (e1 .nil)))))))))))))))))))
        ·obtain rfl:=foll hR (cf h10 (cf h12 rfl));exact Q00 (Cmd.low _ _) (Seen.agg (e1 (e1 (e1 (e1 (e1 (e1 (ev (QJ0) (e1 (e1 (e1 (e1 (e1 (e1 (e1 (ev (QJ0) (e1 (e1 (e1 .nil)))))))))))))))))))
      ·refine ai (fun h13=>?_) (fun h14=>?_)
       ·exact QC0 (c.kind==7) (wk [0,1,2] (tO rfl (ts Cmd.lo) (tO rfl (ts (l1 (l1 (l1 (l1 (l1 (l1 (l1 (l1 (l1 (l1 (l1 (l1 (l1 (l1 (l1 (l1 (l1 (l1 LowL.nil))))))))))))))))))) (tO rfl (ts (l1 (l1 (l1 (l1 (l1 (l1 (l1 (l1 (l1 (l1 (l1 (l1 (l1 (l1 (l1 (l1 (l1 (l1 LowL.nil))))))))))))))))))) .nil))) (sv (Q10 0 rfl rfl) (sv (Q10 1 rfl rfl) (sv (Q10 2 rfl rfl) (s1 (s1 .nil)))))) (foll hR (cf h4 (cf h6 (cf h8 (ct h13 rfl)))))
       ·refine ai (fun h15=>?_) (fun h16=>?_)
        ·exact QC0 (c.kind==8) (wk [0,1,2] (tO rfl (ts Cmd.lo) (tO rfl (ts (l1 (l1 (l1 (l1 (l1 (l1 (l1 (l1 (l1 (l1 (l1 (l1 (l1 (l1 (l1 (l1 (l1 (l1 LowL.nil))))))))))))))))))) (tO rfl (ts (l1 (l1 (l1 (l1 (l1 (l1 (l1 (l1 (l1 (l1 (l1 (l1 (l1 (l1 (l1 (l1 (l1 (l1 LowL.nil))))))))))))))))))) .nil))) (sv (Q10 0 rfl rfl) (sv (Q10 1 rfl rfl) (sv (Q10 2 rfl rfl) (s1 (s1 .nil)))))) (foll hR (cf h4 (cf h6 (cf h8 (cf h14 (ct h15 rfl))))))
        ·exact QC0 (c.kind==9) (wk [0,1,2] (tO rfl (ts Cmd.lo) (tO rfl (ts (l1 (l1 (l1 (l1 (l1 (l1 (l1 (l1 (l1 (l1 (l1 (l1 (l1 (l1 (l1 (l1 (l1 (l1 LowL.nil))))))))))))))))))) (tO rfl (ts (l1 (l1 (l1 (l1 (l1 (l1 (l1 (l1 (l1 (l1 (l1 (l1 (l1 (l1 (l1 (l1 (l1 (l1 LowL.nil))))))))))))))))))) .nil))) (sv (Q10 0 rfl rfl) (sv (Q10 1 rfl rfl) (sv (Q10 2 rfl rfl) (s1 (s1 .nil)))))) (foll hR (cf h4 (cf h6 (cf h8 (cf h14 (cf h16 rfl))))))
  ·refine ai (fun h17=>?_) (fun h18=>?_)
   ·exact QC0 (c.kind==2) (wk [0,1,2] (tO rfl (ts Cmd.lo) (tO rfl (ts (l1 (l1 (l1 (l1 (l1 (l1 (l1 (l1 (l1 (l1 (l1 (l1 (l1 (l1 (l1 (l1 (l1 (l1 LowL.nil))))))))))))))))))) (tO rfl (ts (l1 (l1 (l1 (l1 (l1 (l1 (l1 (l1 (l1 (l1 (l1 (l1 (l1 (l1 (l1 (l1 (l1 (l1 LowL.nil))))))))))))))))))) .nil))) (sv (Q10 0 rfl rfl) (sv (Q10 1 rfl rfl) (sv (Q10 2 rfl rfl) (s1 (s1 .nil)))))) (foll hR (cf h2 (ct h17 rfl)))
   ·refine ai (fun h19=>?_) (fun h20=>?_)
    ·exact QC0 (c.kind==3) (wk [0,1,2] (tO rfl (ts Cmd.lo) (tO rfl (ts (l1 (l1 (l1 (l1 (l1 (l1 (l1 (l1 (l1 (l1 (l1 (l1 (l1 (l1 (l1 (l1 (l1 (l1 LowL.nil))))))))))))))))))) (tO rfl (ts (l1 (l1 (l1 (l1 (l1 (l1 (l1 (l1 (l1 (l1 (l1 (l1 (l1 (l1 (l1 (l1 (l1 (l1 LowL.nil))))))))))))))))))) .nil))) (sv (Q10 0 rfl rfl) (sv (Q10 1 rfl rfl) (sv (Q10 2 rfl rfl) (s1 (s1 .nil)))))) (foll hR (cf h2 (cf h18 (ct h19 rfl))))
    ·refine ai (fun h21=>?_) (fun h22=>?_)
     ·exact QC0 (c.kind==4) (wk [0,1,2] (tO rfl (ts Cmd.lo) (tO rfl (ts (l1 (l1 (l1 (l1 (l1 (l1 (l1 (l1 (l1 (l1 (l1 (l1 (l1 (l1 (l1 (l1 (l1 (l1 LowL.nil))))))))))))))))))) (tO rfl (ts (l1 (l1 (l1 (l1 (l1 (l1 (l1 (l1 (l1 (l1 (l1 (l1 (l1 (l1 (l1 (l1 (l1 (l1 LowL.nil))))))))))))))))))) .nil))) (sv (Q10 0 rfl rfl) (sv (Q10 1 rfl rfl) (sv (Q10 2 rfl rfl) (s1 (s1 .nil)))))) (foll hR (cf h2 (cf h18 (cf h20 (ct h21 rfl)))))
     ·refine ai (fun h23=>?_) (fun h24=>?_)
      ·exact QC0 (c.kind==11) (wk [0,1,2] (tO rfl (ts Cmd.lo) (tO rfl (ts (l1 (l1 (l1 (l1 (l1 (l1 (l1 (l1 (l1 (l1 (l1 (l1 (l1 (l1 (l1 (l1 (l1 (l1 LowL.nil))))))))))))))))))) (tO rfl (ts (l1 (l1 (l1 (l1 (l1 (l1 (l1 (l1 (l1 (l1 (l1 (l1 (l1 (l1 (l1 (l1 (l1 (l1 LowL.nil))))))))))))))))))) .nil))) (sv (Q10 0 rfl rfl) (sv (Q10 1 rfl rfl) (sv (Q10 2 rfl rfl) (s1 (s1 .nil)))))) (foll hR (cf h2 (cf h18 (cf h20 (cf h22 (ct h23 rfl))))))
      ·exact QC0 (c.kind==12) (wk [0,1,2] (tO rfl (ts Cmd.lo) (tO rfl (ts (l1 (l1 (l1 (l1 (l1 (l1 (l1 (l1 (l1 (l1 (l1 (l1 (l1 (l1 (l1 (l1 (l1 (l1 LowL.nil))))))))))))))))))) (tO rfl (ts (l1 (l1 (l1 (l1 (l1 (l1 (l1 (l1 (l1 (l1 (l1 (l1 (l1 (l1 (l1 (l1 (l1 (l1 LowL.nil))))))))))))))))))) .nil))) (sv (Q10 0 rfl rfl) (sv (Q10 1 rfl rfl) (sv (Q10 2 rfl rfl) (s1 (s1 .nil)))))) (foll hR (cf h2 (cf h18 (cf h20 (cf h22 (cf h24 rfl))))))
theorem QW9 (c:Cmd) (b:Bool):(Q56 c b).sz:=by
 cases b <;> simp only [Q56,cond_true,cond_false]
 ·cases (c.kind==10) <;> simp [Cmd.sz,Cmd.szN,Shape.szN,Shape.zero,ByteArray.size]
 ·simp [Cmd.sz,Cmd.szN,Shape.szN,Shape.zero,ByteArray.size]
theorem Qh6 (c:Cmd) (b:Bool):(QD4 c b).sz:=by
 cases b <;> simp only [QD4,cond_true,cond_false]
 ·cases (c.kind==5) <;> simp only [cond_true,cond_false]
  ·cases (c.kind==6) <;> simp only [cond_true,cond_false]
   ·cases (c.kind==7) <;> simp only [cond_true,cond_false]
    ·cases (c.kind==8) <;> simp only [cond_true,cond_false] <;> exact QW9 _ _
    ·exact QW9 _ _
   ·simp [Cmd.sz,Cmd.szN,Shape.szN,Shape.zero,ByteArray.size]
  ·simp [Cmd.sz,Cmd.szN,Shape.szN,Shape.zero,ByteArray.size]
 ·simp [Cmd.sz,Cmd.szN,Shape.szN,Shape.zero,ByteArray.size]
theorem cmd_bare_sz (c:Cmd) (h:c.sz):(Qt7 c).sz:=by
 unfold Qt7
 cases (c.kind==1) <;> simp only [cond_true,cond_false]
 ·cases (c.kind==2) <;> simp only [cond_true,cond_false]
  ·cases (c.kind==3) <;> simp only [cond_true,cond_false]
   ·cases (c.kind==4) <;> simp only [cond_true,cond_false]
    ·cases (c.kind==11) <;> simp only [cond_true,cond_false] <;> exact Qh6 _ _
    ·exact Qh6 _ _
   ·exact Qh6 _ _
  ·exact Qh6 _ _
 ·exact h
def QA1 (v:Job):Cmd:=(⟨1,0,v.name,v.user,v.account,v.shape,v.prio,true,0,false,v.after,0,0,0⟩:Cmd)
theorem Qx6 (v:Job):GV 75 [Job.a v] (Cmd.a (QA1 v)):=by
 generalize hR:QA1 v=R;refine ga (.cons (Job.low _ _) .nil) (Cmd.low _ _) (kp 3 []) Tryz.func75 ?_;obtain rfl:=foll hR rfl;exact Q00 (Cmd.low _ _) sr
theorem Q06 (l:List Alt) (hs0:l.length<=4294967296):GV 139 [altL l] (altL l):=by
 refine AGives.any' (.cons lw .nil) lw (ACalls.of_cwp (fun _=>true) Tryz.func139 rfl rfl ?_)
 obtain z1:l.length<=4294967296:=hs0
 intro b hb
 refine ai (fun h1=>?_) (fun h2=>?_)
 ·have hl:l=[]:=by
   rcases l with _|⟨x,r⟩
   ·rfl
   ·exact absurd ((hb (by simp)).symm.trans h1) (by decide)
  subst hl
  exact Qnd (fun r:List Alt=>altL r) (leaf:=[]) rfl lw QJ0
 ·refine ⟨QI2 16 rfl apA,?_⟩
  exact Qnd (fun r:List Alt=>altL r) (leaf:=l) rfl lw (Q82 Alt.zero _ rfl eqA lnA)
theorem QDb (l:List Alt) (hs0:l.length<=4294967296):AMoves Tryz.prog 139 [altL l] [] 0 (AVal.own 0 0 2 0 l.length) [(0,AObj.row 179 2 (l.map Alt.cells))]:=by
 refine AMoves.of_cwp (fun _=>true) Tryz.func139 rfl rfl rfl ?_
 obtain z1:l.length<=4294967296:=hs0
 intro b hb
 refine ai (fun h1=>?_) (fun h2=>?_)
 ·have hl:l=[]:=by
   rcases l with _|⟨x,r⟩
   ·rfl
   ·exact absurd ((hb (by simp)).symm.trans h1) (by decide)
  subst hl
  refine Ql0 (fun r:List Alt=>AVal.own 0 0 2 0 r.length) (fun r:List Alt=>[(0,AObj.row 179 2 (r.map Alt.cells))]) (leaf:=[]) rfl ?_
  exact Told.pad 179 2 (Qz4 [0] rfl (by decide) (tO rfl (tl eqA) .nil) (Qv2 0 rfl))
 ·refine ⟨QI2 16 rfl apA,?_⟩
  refine Ql0 (fun r:List Alt=>AVal.own 0 0 2 0 r.length) (fun r:List Alt=>[(0,AObj.row 179 2 (r.map Alt.cells))]) (leaf:=l) rfl ?_
  exact Qz4 [0] rfl (by decide) (tO rfl (tl eqA) .nil) (to 0 lnA)
def oc1 (x_:Int):Int:=(wu64 ((wu64 (BitVec.ofInt 64 (Int.fdiv x_ (2 ^ (min (Int.toNat 1) 64))) &&& BitVec.ofInt 64 6148914691236517205).toNat)+(wu64 (BitVec.ofInt 64 x_ &&& BitVec.ofInt 64 6148914691236517205).toNat)))
def oc2 (x_:Int):Int:=(wu64 ((wu64 (BitVec.ofInt 64 (Int.fdiv x_ (2 ^ (min (Int.toNat 2) 64))) &&& BitVec.ofInt 64 3689348814741910323).toNat)+(wu64 (BitVec.ofInt 64 x_ &&& BitVec.ofInt 64 3689348814741910323).toNat)))
def oc3 (x_:Int):Int:=(wu64 (BitVec.ofInt 64 (wu64 ((Int.fdiv x_ (2 ^ (min (Int.toNat 4) 64)))+x_)) &&& BitVec.ofInt 64 1085102592571150095).toNat)
def Qh5 (x_:Int):Int:=(w64 (BitVec.ofInt 64 (w64 (wu64 ((wu64 ((wu64 ((oc3 (oc2 (oc1 x_)))+(Int.fdiv (oc3 (oc2 (oc1 x_))) (2 ^ (min (Int.toNat 8) 64)))))+(Int.fdiv (wu64 ((oc3 (oc2 (oc1 x_)))+(Int.fdiv (oc3 (oc2 (oc1 x_))) (2 ^ (min (Int.toNat 8) 64))))) (2 ^ (min (Int.toNat 16) 64)))))+(Int.fdiv (wu64 ((wu64 ((oc3 (oc2 (oc1 x_)))+(Int.fdiv (oc3 (oc2 (oc1 x_))) (2 ^ (min (Int.toNat 8) 64)))))+(Int.fdiv (wu64 ((oc3 (oc2 (oc1 x_)))+(Int.fdiv (oc3 (oc2 (oc1 x_))) (2 ^ (min (Int.toNat 8) 64))))) (2 ^ (min (Int.toNat 16) 64))))) (2 ^ (min (Int.toNat 32) 64)))))) &&& BitVec.ofInt 64 127).toNat)
theorem QLa (x_:Int):GV 130 [U x_] (I (Qh5 x_)):=by
 generalize hR:Qh5 x_=R;refine ga (l1 .nil) lx (kp 3 []) Tryz.func130 ?_;refine ai gkA ?_;refine ai gkA ?_;refine ai gkA ?_;refine ai gkA ?_;refine ai gkA ?_;refine ai gkA ?_;obtain rfl:=foll hR rfl;exact Q00 lx sr
def QL2 (n:Int):Int:=(wu64 (1*2 ^ (min (Int.toNat (wu64 n)) 64)))
theorem Qx8 (n:Int):GV 123 [I n] (U (QL2 n)):=by
 generalize hR:QL2 n=R;refine ga (l1 .nil) lx (kp 3 []) Tryz.func123 ?_;refine ai gkA ?_;obtain rfl:=foll hR rfl;exact Q00 lx sr
def Qe7 (state:Int):Bool:=((decide (state >= 3))&&(decide (state<=7)))
theorem job_ended_c (state:Int):GV 80 [I state] (Bo (Qe7 state)):=by
 generalize hR:Qe7 state=R;refine ga (l1 .nil) lx (kp 3 []) Tryz.func80 ?_;obtain rfl:=foll hR rfl;exact Q00 lx sr
def Q18 (b:Book):Bool:=(((((((decide (b.id >= 1))&&(decide (b.id<=99999)))&&(decide (b.from_ >= 0)))&&(decide (b.to > b.from_)))&&(decide (b.to<=1000000)))&&(decide (b.nodes >= 1)))&&(decide (b.nodes<=48)))
theorem Qzd (b:Book):GV 244 [Book.a b] (Bo (Q18 b)):=by
 generalize hR:Q18 b=R;refine ga (.cons (Book.low _ _) .nil) lx (kp 3 []) Tryz.func244 ?_;obtain rfl:=foll hR rfl;exact Q00 lx sr
def Qs5 (s:ByteArray):Bool:=((decide ((ByteArray.size s:Int) >= 1))&&(decide ((ByteArray.size s:Int)<=64)))
theorem QR6 (s:ByteArray):GV 158 [Sg s] (Bo (Qs5 s)):=by
 generalize hR:Qs5 s=R;refine ga (l1 .nil) lx (kp 3 []) Tryz.func158 ?_;obtain rfl:=foll hR rfl;exact Q00 lx sr
def Qm8 :List Int->Nat->Int
 | [],_=>0
 | x_ :: r,i=>bif (x_ != 0) then x_ else Qm8 r (i+1)
def Qz9 (vals:List Int):Int:=Qm8 vals 0
theorem Qvc (vals:List Int) (hs0:vals.length<=4294967296):GV 245 [ints vals] (I (Qz9 vals)):=by
 generalize hR:Qz9 vals=R;refine ga (.cons lw .nil) lx (kp 6 [6,7,8,9,14]) Tryz.func245 ?_;have hk0:=hs0;obtain z5:vals.length<=4294967296:=hs0;refine Qm0 (fun (i:Nat)=>Qm8 (List.drop i vals) i=R∧i<=vals.length) (fun i=>vals.length - i) (fun i=>[(2,I 0),(3,I 0),(6,ints vals),(7,I (vals.length:Int)),(8,I (i:Int))]) (fun i=>[]) 0 (wk [] .nil (s1 (s1 (sl lw (s1 (s1 .nil)))))) ⟨foll hR rfl,by exact omA⟩ ?_;clear hR;rintro i ⟨hR,hj⟩;(try dsimp only at hR hj);refine ai (fun h1=>?_) (fun h2=>?_)
 ·have hlt:=ltA h1;rw [Qg0 0 hlt] at hR;refine ai gkA ?_;refine ai (fun h3=>?_) (fun h4=>?_)
  ·obtain rfl:=foll hR (ct h3 rfl);exact Q00 lx sr
  ·exact Qq0 (i+1) (wk [] .nil (s1 (s1 (sl lw (s1 (sv (Qn0 (I_eq (wr omA)) lx) .nil)))))) omA ⟨foll hR (cf h4 rfl),by exact omA⟩
 ·rw [Qt0 (l:=vals) (j:=i) (geA h2)] at hR;obtain rfl:=foll hR rfl;exact Q00 lx sr
end Go.Proofs.YtcbolcknapeneaaGreatDoor
namespace Go.Proofs.YtcbolcknapeneaaGreatDoor
set_option linter.unusedSimpArgs false
set_option linter.unusedVariables false
open Go.Fw
set_option maxRecDepth 20000
set_option maxHeartbeats 4000000
attribute [local irreducible] ACalls AMoves
def Qe3 (x_:ByteArray):Bool:=(!(ByteArray.toList x_==ByteArray.toList x_))
theorem Qu7 (x_:ByteArray):GV 305 [Sg x_] (Bo (Qe3 x_)):=by
 generalize hR:Qe3 x_=R;refine ga (l1 .nil) lx (kp 3 []) Tryz.func305 ?_;obtain rfl:=foll hR rfl;exact Q00 lx sr
def Qj4 (n:Int) (from_:Int) (to_:Int):Bool:=((decide (n >= from_))&&(decide (n<=to_)))
theorem Q39 (n:Int) (from_:Int) (to_:Int):GV 183 [I n,I from_,I to_] (Bo (Qj4 n from_ to_)):=by
 generalize hR:Qj4 n from_ to_=R;refine ga (l1 (l1 (l1 .nil))) lx (kp 7 []) Tryz.func183 ?_;obtain rfl:=foll hR rfl;exact Q00 lx sr
def Qh2 (n:Int):Bool:=((decide (n >= (-1000000)))&&(decide (n<=1000000)))
theorem QQ7 (n:Int):GV 235 [I n] (Bo (Qh2 n)):=by
 generalize hR:Qh2 n=R;refine ga (l1 .nil) lx (kp 3 []) Tryz.func235 ?_;obtain rfl:=foll hR rfl;exact Q00 lx sr
def Qs2 (t:Int):Bool:=((decide (t >= 0))&&(decide (t<=1000000)))
theorem QNc (t:Int):GV 149 [I t] (Bo (Qs2 t)):=by
 generalize hR:Qs2 t=R;refine ga (l1 .nil) lx (kp 3 []) Tryz.func149 ?_;obtain rfl:=foll hR rfl;exact Q00 lx sr
theorem Qpb {t n:Int} {b:Bool} (h:(((!(Qs2 t))||(decide (n<t)))||b)=false):0<=t:=by
 simp [Qs2] at h
 omega
def Q21 (f:Int->Bool):Nat->Int->Int->Int × Int
 | 0,_,_=>(0,0)
 | m+1,i,j=>bif (decide (i<j)) then bif (!(f (w64 (Int.fdiv (wu64 (w64 (i+j))) (2 ^ (min (Int.toNat 1) 64)))))) then Q21 f m (w64 ((w64 (Int.fdiv (wu64 (w64 (i+j))) (2 ^ (min (Int.toNat 1) 64))))+1)) j else Q21 f m i (w64 (Int.fdiv (wu64 (w64 (i+j))) (2 ^ (min (Int.toNat 1) 64)))) else (i,j)
def Qx4 (i:Int) (j:Int):Int:=i
def Qu1 (n:Int) (f:Int->Bool):Int:=Qx4 ((Q21 f ((Int.toNat (n - 0))+1) 0 n).1) ((Q21 f ((Int.toNat (n - 0))+1) 0 n).2)
theorem QY7 (f:Int->Bool) {N:Nat} (hN:N<=4294967296):∀ (m:Nat) (i j:Int),0<=i->i<=j->j<=N->Int.toNat (j - i)<m->i<=(Q21 f m i j).1∧(Q21 f m i j).1<=j∧(i<(Q21 f m i j).1->f ((Q21 f m i j).1 - 1)=false)∧((Q21 f m i j).1<j->f (Q21 f m i j).1=true)
 | 0,_,_,_,_,_,hm=>absurd hm (Nat.not_lt_zero _)
 | m+1,i,j,h0,hij,hj,hm=>by
  unfold Q21
  cases hc:decide (i<j) with
  | false =>
   have:=of_decide_eq_false hc
   simp only [cond_false]
   exact ⟨Int.le_refl _,by omega,fun h=>absurd h (by omega),fun h=>absurd h (by omega)⟩
  | true =>
   have hlt:=of_decide_eq_true hc
   have hh:w64 (Int.fdiv (wu64 (w64 (i+j))) (2 ^ (min (Int.toNat 1) 64)))=(i+j) / 2:=Q0e h0 hlt hj (by omega)
   have hw:w64 ((i+j) / 2+1)=(i+j) / 2+1:=wr (by omega)
   simp only [cond_true,hh,hw]
   cases hf:f ((i+j) / 2) with
   | false =>
    simp only [Bool.not_false,cond_true]
    obtain ⟨a,b,c,d⟩:=QY7 f hN m ((i+j) / 2+1) j (by omega) (by omega) hj (by omega)
    refine ⟨by omega,b,fun _=>?_,d⟩
    by_cases h:(i+j) / 2+1<(Q21 f m ((i+j) / 2+1) j).1
    ·exact c h
    ·rw [show (Q21 f m ((i+j) / 2+1) j).1 - 1=(i+j) / 2 by omega]
     exact hf
   | true =>
    simp only [Bool.not_true,cond_false]
    obtain ⟨a,b,c,d⟩:=QY7 f hN m i ((i+j) / 2) h0 (by omega) (by omega) (by omega)
    refine ⟨a,by omega,c,fun h=>?_⟩
    by_cases h2:(Q21 f m i ((i+j) / 2)).1<(i+j) / 2
    ·exact d h2
    ·rw [show (Q21 f m i ((i+j) / 2)).1=(i+j) / 2 by omega]
     exact hf
theorem QY8 (f:Int->Bool) {N:Nat} (hN:N<=4294967296):0<=Qu1 (N:Int) f∧Qu1 (N:Int) f<=N∧(0<Qu1 (N:Int) f->f (Qu1 (N:Int) f - 1)=false)∧(Qu1 (N:Int) f<N->f (Qu1 (N:Int) f)=true) :=
 QY7 f hN _ 0 N (Int.le_refl _) (by omega) (Int.le_refl _) (by omega)
theorem QAa (l:List Step) (hs0:l.length<=4294967296):AMoves Tryz.prog 248 [stepL l] [] 0 (AVal.own 0 0 2 0 l.length) [(0,AObj.row 198 2 (l.map Step.cells))]:=by
 refine AMoves.of_cwp (fun _=>true) Tryz.func248 rfl rfl rfl ?_
 obtain z6:l.length<=4294967296:=hs0
 intro b hb
 refine ai (fun h1=>?_) (fun h2=>?_)
 ·have hl:l=[]:=by
   rcases l with _|⟨x,r⟩
   ·rfl
   ·exact absurd ((hb (by simp)).symm.trans h1) (by decide)
  subst hl
  refine Ql0 (fun r:List Step=>AVal.own 0 0 2 0 r.length) (fun r:List Step=>[(0,AObj.row 198 2 (r.map Step.cells))]) (leaf:=[]) rfl ?_
  exact Told.pad 198 2 (Qz4 [0] rfl (by decide) (tO rfl (tl eqA) .nil) (Qv2 0 rfl))
 ·refine ⟨QI2 16 rfl apA,?_⟩
  refine Ql0 (fun r:List Step=>AVal.own 0 0 2 0 r.length) (fun r:List Step=>[(0,AObj.row 198 2 (r.map Step.cells))]) (leaf:=l) rfl ?_
  exact Qz4 [0] rfl (by decide) (tO rfl (tl eqA) .nil) (to 0 lnA)
def QV0 (at_:Int) (free:Int) (out:List Step):List Step:=bif (((out.length:Int)==0)||((out.getD (Int.toNat (w64 ((out.length:Int) - 1))) Step.zero).free != free)) then (out++([(⟨at_,free⟩:Step)]:List Step)) else out
theorem Qh3 (at_:Int) (free:Int) (out:List Step) (hs0:out.length<=4294967296):AMoves Tryz.prog 249 [I at_,I free,AVal.ptr 0 0 1 0 0] [(0,AObj.row 85 1 [[AVal.own 1 0 2 0 out.length]]),(0,AObj.row 198 2 (out.map Step.cells))] 1 (AVal.tup []) [(0,AObj.row 85 1 [[AVal.own 1 0 2 0 (QV0 at_ free out).length]]),(0,AObj.row 198 2 ((QV0 at_ free out).map Step.cells))]:=by
 generalize hR:QV0 at_ free out=R;refine mo (kp 6 [19]) Tryz.func249 ?_;have hk0:=hs0;obtain z3:out.length<=4294967296:=hs0;refine ai gkA ?_;refine ⟨_,fun hg=>Q22 rfl rfl rfl (Q12 Step.zero (Int.toNat (w64 ((out.length:Int) - 1))) (by first|rfl|exact Nat.zero_add _|omega) ckA) rfl,?_⟩;refine ai (fun h1=>?_) (fun h2=>?_)
 ·refine Or.inl ?_;(first|refine ⟨Q75 16 rfl lnA apA,?_⟩|refine ⟨QI2 16 rfl apA,?_⟩);obtain rfl:=foll hR (ct h1 rfl);exact rq (tt [0,1] (tO rfl (Qb0 (cv (to 1 lnA) .nil)) (tO rfl (tl eqA) .nil)) t1)
 ·obtain rfl:=foll hR (cf h2 rfl);exact rq (tt [0,1] (tO rfl (Qb0 (cv (to 1 lnA) .nil)) (tO rfl (tl eqA) .nil)) t1)
theorem Qn3 (a f:Int) (out:List Step):(QV0 a f out).length<=out.length+1:=by
 unfold QV0
 cases (((out.length:Int)==0)||((out.getD (Int.toNat (w64 ((out.length:Int) - 1))) Step.zero).free != f)) with
 | true=>simp
 | false=>simp
def Qg2 (n:Int):(List Step):=([(⟨0,(min (max n (-1000000)) 1000000)⟩:Step)]:List Step)
theorem profile_Flat_c (n:Int):GV 209 [I n] (stepL (Qg2 n)):=by
 generalize hR:Qg2 n=R;refine ga (l1 .nil) lw (kp 3 []) Tryz.func209 ?_;refine Or.inl ?_;obtain rfl:=foll hR rfl;exact Q00 lw (seen_as (Qp5 (c:=Step.cells) (d:=Step.zero) ([(⟨0,(min (max n (-1000000)) 1000000)⟩:Step)]:List Step) rfl))
def QP1 :List Job->Nat->List (Int × Int)->(List (Int × Int))
 | [],_,c=>c
 | x_ :: r,i,c=>bif (x_.state==2) then QP1 r (i+1) (setM x_.id x_.limit c) else QP1 r (i+1) c
def Qv4 (c:List (Int × Int)):(List (Int × Int)):=c
def Qp0 (l:List Job):(List (Int × Int)):=Qv4 (QP1 l 0 [])
theorem room_limits_o (l:List Job) (hs0:l.length<=4294967296∧(∀ y ∈ l,y.sz)):AMoves Tryz.prog 211 [jobL l] [] 0 (AVal.map 0) [(0,AObj.other (.map (mapEs ik I 0 (Qp0 l)) (Qp0 l).length))]:=by
 generalize hR:Qp0 l=R;refine mo (kp 6 [7,8,9,10,15]) Tryz.func211 ?_;obtain ⟨z10,z11⟩:=id hs0;refine Q41 (fun (i:Nat) (c:List (Int × Int))=>Qv4 (QP1 (List.drop i l) i c)=R∧i<=l.length) (fun i c=>l.length - i) (fun i c=>[(2,AVal.lit (.map none)),(3,AVal.map 0),(7,jobL l),(8,I (l.length:Int)),(9,I (i:Int))]) (fun i c=>[(0,AObj.other (.map (mapEs ik I 0 c) c.length))]) 0 [] (wk [0] (tO rfl (QF0 _ rfl rfl (fun _=>lx)) .nil) (s1 (sv (Qa2 0 rfl rfl) (sl lw (s1 (s1 .nil)))))) ⟨foll hR rfl,by exact omA⟩ ?_;clear hR;rintro i c ⟨hR,hj⟩;(try dsimp only at hR hj);refine ai (fun h1=>?_) (fun h2=>?_)
 ·have hlt:=ltA h1;rw [Qg0 Job.zero hlt] at hR;have hxz:(l.getD i Job.zero).sz:=Q70 (by first|assumption|grind) (Job.szz _);have hkz:=hxz;obtain ⟨z3,z4,z5,z6,z7⟩:=Job.zz hxz;refine ai gkA ?_;refine ai (fun h8=>?_) (fun h9=>?_)
  ·refine ⟨_,_,Qm2 rfl _ _,Qqb (ek:=ik) ((l.getD i Job.zero).id) ((l.getD i Job.zero).limit) c rfl rfl,?_⟩;exact Qz0 (i+1) (setM (l.getD i Job.zero).id (l.getD i Job.zero).limit c) (wk [0] (tO rfl (QF0 _ rfl rfl (fun _=>lx)) .nil) (s1 (sv (Qa2 0 rfl rfl) (sl lw (s1 (sv (Qn0 (I_eq (wr omA)) lx) .nil)))))) omA ⟨foll hR (congrArg (fun p:(List (Int × Int))=>Qv4 p) (ct h8 rfl)),by exact omA⟩
  ·exact Qz0 (i+1) c (wk [0] (tO rfl (QF0 _ rfl rfl (fun _=>lx)) .nil) (s1 (sv (Qa2 0 rfl rfl) (sl lw (s1 (sv (Qn0 (I_eq (wr omA)) lx) .nil)))))) omA ⟨foll hR (congrArg (fun p:(List (Int × Int))=>Qv4 p) (cf h9 rfl)),by exact omA⟩
 ·rw [Qt0 (l:=l) (j:=i) (geA h2)] at hR;replace hR:Qv4 c=R:=fo2 (fun p:(List (Int × Int))=>Qv4 p) (c) hR rfl;obtain rfl:=foll hR rfl;exact rq (tt [0] (tO rfl (QF0 _ rfl rfl (fun _=>lx)) .nil) (Qa2 0 rfl rfl))
def QG0 (x_:Node) (limits:List (Int × Int)):Int:=bif (((x_.state==0)||(x_.state==4))||x_.drain) then 0 else bif (x_.state==3) then (w64 (x_.since+12)) else bif (!(getM x_.job limits).isSome) then 1000001 else (w64 (((getM x_.job limits).getD 0)+12))
theorem room_until_c (x_:Node) (limits:List (Int × Int)):AMoves Tryz.prog 212 [Node.a x_,AVal.map 0] [(0,AObj.other (.map (mapEs ik I 0 limits) limits.length))] 1 (I (QG0 x_ limits)) [(0,AObj.other (.map (mapEs ik I 0 limits) limits.length))]:=by
 generalize hR:QG0 x_ limits=R;refine mo (kp 7 [7,20,35]) Tryz.func212 ?_;refine ai (fun h1=>?_) (fun h2=>?_)
 ·obtain rfl:=foll hR (ct h1 rfl);exact rq (tt [0] (tO rfl (QF0 _ rfl rfl (fun _=>lx)) .nil) t1)
 ·refine ai (fun h3=>?_) (fun h4=>?_)
  ·obtain rfl:=foll hR (cf h2 (ct h3 rfl));exact rq (tt [0] (tO rfl (QF0 _ rfl rfl (fun _=>lx)) .nil) t1)
  ·(first|refine ⟨_,_,Qm2 rfl _ _,Qk1 (ek:=ik) x_.job limits 0 (AsA.refl _),?_⟩|refine ⟨_,fun _=>⟨_,_,Qm2 rfl _ _,Qk1 (ek:=ik) x_.job limits 0 (AsA.refl _),rfl,rfl⟩,?_⟩|refine ⟨_,rfl,⟨_,_,Qm2 rfl _ _,Qk1 (ek:=ik) x_.job limits 0 (AsA.refl _),Sub.refl _,rfl⟩,?_⟩);refine ai (fun h5=>?_) (fun h6=>?_)
   ·obtain rfl:=foll hR (cf h2 (cf h4 (ct h5 rfl)));exact rq (tt [0] (tO rfl (QF0 _ rfl rfl (fun _=>lx)) .nil) t1)
   ·obtain rfl:=foll hR (cf h2 (cf h4 (cf h6 rfl)));exact rq (tt [0] (tO rfl (QF0 _ rfl rfl (fun _=>lx)) .nil) t1)
def Qb4 (f:Job->Bool):List Job->Nat->Int
 | [],_=>(-1)
 | x_ :: r,i=>bif (f x_) then (i:Int) else Qb4 f r (i+1)
def Qd2 (s:List Job) (f:Job->Bool):Int:=Qb4 f s 0
theorem QK7 (l:List Job) (hs0:l.length<=4294967296∧(∀ y ∈ l,y.sz)):AMoves Tryz.prog 160 [jobL l] [] 0 (AVal.own 0 0 20 0 l.length) [(0,AObj.row 35 20 (l.map Job.cells))]:=by
 refine AMoves.of_cwp (fun _=>true) Tryz.func160 rfl rfl rfl ?_
 obtain ⟨z24,z25⟩:=id hs0
 intro b hb
 refine ai (fun h1=>?_) (fun h2=>?_)
 ·have hl:l=[]:=by
   rcases l with _|⟨x,r⟩
   ·rfl
   ·exact absurd ((hb (by simp)).symm.trans h1) (by decide)
  subst hl
  refine Ql0 (fun r:List Job=>AVal.own 0 0 20 0 r.length) (fun r:List Job=>[(0,AObj.row 35 20 (r.map Job.cells))]) (leaf:=[]) rfl ?_
  exact Told.pad 35 20 (Qz4 [0] rfl (by decide) (tO rfl (tl eqA) .nil) (Qv2 0 rfl))
 ·refine ⟨QI2 216 rfl apA,?_⟩
  refine Ql0 (fun r:List Job=>AVal.own 0 0 20 0 r.length) (fun r:List Job=>[(0,AObj.row 35 20 (r.map Job.cells))]) (leaf:=l) rfl ?_
  exact Qz4 [0] rfl (by decide) (tO rfl (tl eqA) .nil) (to 0 lnA)
theorem Q16 (l:List Dep) (hs0:l.length<=4294967296):GV 161 [depL l] (depL l):=by
 refine AGives.any' (.cons lw .nil) lw (ACalls.of_cwp (fun _=>true) Tryz.func161 rfl rfl ?_)
 obtain z26:l.length<=4294967296:=hs0
 intro b hb
 refine ai (fun h1=>?_) (fun h2=>?_)
 ·have hl:l=[]:=by
   rcases l with _|⟨x,r⟩
   ·rfl
   ·exact absurd ((hb (by simp)).symm.trans h1) (by decide)
  subst hl
  exact Qnd (fun r:List Dep=>depL r) (leaf:=[]) rfl lw QJ0
 ·refine ⟨QI2 16 rfl apA,?_⟩
  exact Qnd (fun r:List Dep=>depL r) (leaf:=l) rfl lw (Q82 Dep.zero _ rfl eqA lnA)
def QA2 (i:Bool):Int:=bif i then 1 else 2
def QF2 (s:List (Int × Int)) (d:Dep):Int:=bif (!(getM d.job s).isSome) then 2 else bif (decide (((getM d.job s).getD 0)<3)) then 0 else bif (d.how==1) then QA2 (d.how==1) else bif ((d.how==2)&&(((getM d.job s).getD 0)==3)) then QA2 ((d.how==2)&&(((getM d.job s).getD 0)==3)) else QA2 ((d.how==3)&&(((getM d.job s).getD 0)!=3))
theorem QR9 (s:List (Int × Int)) (d:Dep):AMoves Tryz.prog 169 [AVal.map 0,Dep.a d] [(0,AObj.other (.map (mapEs ik I 0 s) s.length))] 1 (I (QF2 s d)) [(0,AObj.other (.map (mapEs ik I 0 s) s.length))]:=by
 generalize hR:QF2 s d=R;refine mo (kj [1000009] 7 [14,17,20]) Tryz.func169 ?_;(first|refine ⟨_,_,Qm2 rfl _ _,Qk1 (ek:=ik) d.job s 0 (AsA.refl _),?_⟩|refine ⟨_,fun _=>⟨_,_,Qm2 rfl _ _,Qk1 (ek:=ik) d.job s 0 (AsA.refl _),rfl,rfl⟩,?_⟩|refine ⟨_,rfl,⟨_,_,Qm2 rfl _ _,Qk1 (ek:=ik) d.job s 0 (AsA.refl _),Sub.refl _,rfl⟩,?_⟩);refine ai (fun h1=>?_) (fun h2=>?_)
 ·obtain rfl:=foll hR (ct h1 rfl);exact rq (tt [0] (tO rfl (QF0 _ rfl rfl (fun _=>lx)) .nil) t1)
 ·refine ai (fun h3=>?_) (fun h4=>?_)
  ·have qh3:=of_decide_eq_true h3;obtain rfl:=foll hR (cf h2 (ct h3 rfl));exact rq (tt [0] (tO rfl (QF0 _ rfl rfl (fun _=>lx)) .nil) t1)
  ·have qh4:=of_decide_eq_false h4;refine QJ2 (fun (i:Bool)=>QA2 i=R) (fun i=>[(4,I 0),(20,Bo i)]) (fun i=>[(0,AObj.other (.map (mapEs ik I 0 s) s.length))]) ?_ ?_
   ·clear hR;rintro i hR;(try dsimp only at hR);refine ai (fun h5=>?_) (fun h6=>?_)
    ·obtain rfl:=foll hR (ct h5 rfl);exact rq (tt [0] (tO rfl (QF0 _ rfl rfl (fun _=>lx)) .nil) t1)
    ·obtain rfl:=foll hR (cf h6 rfl);exact rq (tt [0] (tO rfl (QF0 _ rfl rfl (fun _=>lx)) .nil) t1)
   ·refine ai (fun h7=>?_) (fun h8=>?_)
    ·exact QC0 (d.how==1) (wk [0] (tO rfl (QF0 _ rfl rfl (fun _=>lx)) .nil) (s1 (s1 .nil))) (foll hR (cf h2 (cf h4 (ct h7 rfl))))
    ·refine ai (fun h9=>?_) (fun h10=>?_)
     ·exact QC0 ((d.how==2)&&(((getM d.job s).getD 0)==3)) (wk [0] (tO rfl (QF0 _ rfl rfl (fun _=>lx)) .nil) (s1 (s1 .nil))) (foll hR (cf h2 (cf h4 (cf h8 (ct h9 rfl)))))
     ·exact QC0 ((d.how==3)&&(((getM d.job s).getD 0)!=3)) (wk [0] (tO rfl (QF0 _ rfl rfl (fun _=>lx)) .nil) (s1 (s1 .nil))) (foll hR (cf h2 (cf h4 (cf h8 (cf h10 rfl)))))
def Qq7 (id_:Int):Bool:=((decide (id_ >= 1))&&(decide (id_<=99999)))
theorem table_known_c (id_:Int):GV 206 [I id_] (Bo (Qq7 id_)):=by
 generalize hR:Qq7 id_=R;refine ga (l1 .nil) lx (kp 3 []) Tryz.func206 ?_;obtain rfl:=foll hR rfl;exact Q00 lx sr
def Qj0 (x_:List Job) (target:Int) (cmp:Job->Int->Int):Nat->Int->Int->Int × Int
 | 0,_,_=>(0,0)
 | m+1,i,j=>bif (decide (i<j)) then bif (decide ((cmp (x_.getD (Int.toNat (w64 (Int.fdiv (wu64 (w64 (i+j))) (2 ^ (min (Int.toNat 1) 64))))) Job.zero) target)<0)) then Qj0 x_ target cmp m (w64 ((w64 (Int.fdiv (wu64 (w64 (i+j))) (2 ^ (min (Int.toNat 1) 64))))+1)) j else Qj0 x_ target cmp m i (w64 (Int.fdiv (wu64 (w64 (i+j))) (2 ^ (min (Int.toNat 1) 64)))) else (i,j)
def QR0 (x_:List Job) (target:Int) (cmp:Job->Int->Int) (i:Int) (j:Int):Int × Bool:=(i,((decide (i<(x_.length:Int)))&&((cmp (x_.getD (Int.toNat i) Job.zero) target)==0)))
def QD0 (x_:List Job) (target:Int) (cmp:Job->Int->Int):Int × Bool:=QR0 x_ target cmp ((Qj0 x_ target cmp ((Int.toNat ((x_.length:Int) - 0))+1) 0 (x_.length:Int)).1) ((Qj0 x_ target cmp ((Int.toNat ((x_.length:Int) - 0))+1) 0 (x_.length:Int)).2)
def Qed (l:List Job):(List Job):=l
theorem QJb (l:List Job) (hs0:l.length<=4294967296∧(∀ y ∈ l,y.sz)):AMoves Tryz.prog 289 [jobL l] [] 0 (AVal.own 0 0 20 0 l.length) [(0,AObj.row 35 20 (l.map Job.cells))]:=by
 generalize hR:Qed l=R;refine mo (kp 3 []) Tryz.func289 ?_;obtain ⟨z1,z2⟩:=id hs0;refine ai gkA ?_;(first|refine ⟨Q75 216 rfl lnA apA,?_⟩|refine ⟨QI2 216 rfl apA,?_⟩);obtain rfl:=foll hR rfl;exact rq (tt [0] (tO rfl (tl eqA) .nil) (to 0 lnA))
def Qcd (l:List Alt):(List Alt):=l
theorem QHb (l:List Alt) (hs0:l.length<=4294967296):GV 290 [altL l] (altL l):=by
 generalize hR:Qcd l=R;refine ga (.cons lw .nil) lw (kp 3 []) Tryz.func290 ?_;have hk0:=hs0;obtain z1:l.length<=4294967296:=hs0;refine ai gkA ?_;(first|refine ⟨Q75 16 rfl lnA apA,?_⟩|refine ⟨QI2 16 rfl apA,?_⟩);obtain rfl:=foll hR rfl;exact Q00 lw (Q82 Alt.zero _ rfl eqA lnA)
def Qdd (l:List Dep):(List Dep):=l
theorem QIb (l:List Dep) (hs0:l.length<=4294967296):GV 291 [depL l] (depL l):=by
 generalize hR:Qdd l=R;refine ga (.cons lw .nil) lw (kp 3 []) Tryz.func291 ?_;have hk0:=hs0;obtain z1:l.length<=4294967296:=hs0;refine ai gkA ?_;(first|refine ⟨Q75 16 rfl lnA apA,?_⟩|refine ⟨QI2 16 rfl apA,?_⟩);obtain rfl:=foll hR rfl;exact Q00 lw (Q82 Dep.zero _ rfl eqA lnA)
def Qld (ok:Bool):Int:=bif (!ok) then 141 else 0
theorem job_when_c (ok:Bool):GV 179 [Bo ok] (I (Qld ok)):=by
 generalize hR:Qld ok=R;refine ga (l1 .nil) lx (kp 3 [4]) Tryz.func179 ?_;refine ai (fun h1=>?_) (fun h2=>?_)
 ·obtain rfl:=foll hR (ct h1 rfl);exact Q00 lx sr
 ·obtain rfl:=foll hR (cf h2 rfl);exact Q00 lx sr
def law21_two :State:=(⟨5,(List.replicate 4 Node.zero),([(⟨1,⟨#[97]⟩,⟨#[117]⟩,⟨#[120]⟩,(⟨1,([(⟨3,10⟩:Alt)]:List Alt),0,0,0⟩:Shape),0,[],1,false,0,(-1),0,0,0,0,0⟩:Job),(⟨2,⟨#[97]⟩,⟨#[117]⟩,⟨#[120]⟩,(⟨1,([(⟨3,10⟩:Alt)]:List Alt),0,0,0⟩:Shape),0,[],1,false,0,(-1),0,0,0,0,0⟩:Job)]:List Job),[],[],[],0,0⟩:State)
theorem Q96 :GV 45 [] (State.a law21_two):=by
 generalize hR:law21_two=R;refine ga .nil (State.low _ _) (kp 3 []) Tryz.func45 ?_;refine Or.inl ?_;refine dchk (by kernel_rfl) ?_;refine And.intro (mk_ok 56 rfl (by refine ⟨?_,?_,?_,?_⟩ <;> exact ckA)) ?_;(repeat ((first|refine ai rfl ?_|refine ai (fun _=>rfl) ?_)));obtain rfl:=foll hR rfl;exact Q00 (State.low _ _) (Seen.agg (e1 (ev (Q82 Node.zero _ rfl eqA lnA) (ev (seen_as (as_deep (c:=Job.cells) (d:=Job.zero) ([(⟨1,⟨#[97]⟩,⟨#[117]⟩,⟨#[120]⟩,(⟨1,([(⟨3,10⟩:Alt)]:List Alt),0,0,0⟩:Shape),0,[],1,false,0,(-1),0,0,0,0,0⟩:Job),(⟨2,⟨#[97]⟩,⟨#[117]⟩,⟨#[120]⟩,(⟨1,([(⟨3,10⟩:Alt)]:List Alt),0,0,0⟩:Shape),0,[],1,false,0,(-1),0,0,0,0,0⟩:Job)]:List Job) (.cons _ _ _ _ (a1 (a1 (a1 (a1 (a1 (av (Qp5 (c:=Alt.cells) (d:=Alt.zero) ([(⟨3,10⟩:Alt)]:List Alt) rfl) (a1 (a1 (a1 (a1 (av (QKa) (a1 (a1 (a1 (a1 (a1 (a1 (a1 (a1 (a1 .nil)))))))))))))))))))) (.cons _ _ _ _ (a1 (a1 (a1 (a1 (a1 (av (Qp5 (c:=Alt.cells) (d:=Alt.zero) ([(⟨3,10⟩:Alt)]:List Alt) rfl) (a1 (a1 (a1 (a1 (av (QKa) (a1 (a1 (a1 (a1 (a1 (a1 (a1 (a1 (a1 .nil)))))))))))))))))))) .nil)))) (ev (QJ0) (ev (QJ0) (ev (QJ0) (e1 (e1 .nil)))))))))
def QN0 (n:Int):Bool:=((decide (n >= 0))&&(decide (n<=1000000)))
def Q07 (x_:Node):Bool:=bif ((((((decide (x_.epoch<0))||(decide (x_.epoch > 999999999)))||(decide (x_.since<0)))||(decide (x_.since > 1000000)))||(decide (x_.asked<0)))||(decide (x_.asked > 1000000))) then false else bif ((x_.state==0)||(x_.state==4)) then ((x_.job==0)&&((x_.want==0)||((x_.state==4)&&(x_.want==6)))) else bif ((decide (x_.job<1))||(decide (x_.job > 99999))) then false else bif (x_.state==1) then ((((x_.want==0)||(x_.want==1))||(x_.want==3))||(x_.want==4)) else bif (x_.state==2) then ((x_.want==0)||(x_.want==2)) else bif (x_.state==3) then (x_.want==5) else false
def QQ3 (b:List Alt):List Alt->Nat->Bool
 | [],_=>true
 | x_ :: r,i=>bif ((x_.nodes != (b.getD i Alt.zero).nodes)||(x_.wall != (b.getD i Alt.zero).wall)) then false else QQ3 b r (i+1)
def Qn6 (a:List Alt) (b:List Alt):Bool:=bif ((a.length:Int)!=(b.length:Int)) then false else QQ3 b a 0
theorem Qbd (a:List Alt) (b:List Alt) (hs0:a.length<=4294967296) (hs1:b.length<=4294967296):GV 170 [altL a,altL b] (Bo (Qn6 a b)):=by
 generalize hR:Qn6 a b=R;refine ga (.cons lw (.cons lw .nil)) lx (kp 6 [10,14,40]) Tryz.func170 ?_;have hk0:=hs0;obtain z7:a.length<=4294967296:=hs0;have hk1:=hs1;obtain z8:b.length<=4294967296:=hs1;refine ai (fun h1=>?_) (fun h2=>?_)
 ·obtain rfl:=foll hR (ct h1 rfl);exact Q00 lx sr
 ·refine Qm0 (fun (i:Nat)=>QQ3 b (List.drop i a) i=R∧i<=a.length) (fun i=>a.length - i) (fun i=>[(0,altL a),(1,altL b),(4,Bo false),(5,I (i:Int))]) (fun i=>[]) 0 (wk [] .nil (sl lw (sl lw (s1 (s1 .nil))))) ⟨foll hR (cf h2 rfl),by exact omA⟩ ?_;clear hR;rintro i ⟨hR,hj⟩;(try dsimp only at hR hj);refine ai (fun h3=>?_) (fun h4=>?_)
  ·have hlt:=ltA h3;rw [Qg0 Alt.zero hlt] at hR;refine dchk (by kernel_rfl) ?_;refine ai gkA ?_;refine ai gkA ?_;refine ai gkA ?_;refine ai gkA ?_;(repeat ((first|refine ai rfl ?_|refine ai (fun _=>rfl) ?_)));refine ai (fun h5=>?_) (fun h6=>?_)
   ·obtain rfl:=foll hR (ct h5 rfl);exact Q00 lx sr
   ·exact Qq0 (i+1) (wk [] .nil (sl lw (sl lw (s1 (sv (Qn0 (I_eq (wr omA)) lx) .nil))))) omA ⟨foll hR (cf h6 rfl),by exact omA⟩
  ·rw [Qt0 (l:=a) (j:=i) (geA h4)] at hR;obtain rfl:=foll hR rfl;exact Q00 lx sr
def Qk0 (r_:Int):Int:=bif ((r_==9)||(r_==32)) then 1 else bif (((decide (r_<32))||(r_==65533))||(decide (r_ > 1114111))) then 0 else bif (((decide (r_ > 126))&&(decide (r_<161)))||((decide (r_ > 55295))&&(decide (r_<57344)))) then 0 else bif ((decide (r_ > 47))&&(decide (r_<58))) then 3 else bif (((decide (r_ > 160))||((decide (r_ > 64))&&(decide (r_<91))))||((decide (r_ > 96))&&(decide (r_<123)))) then 2 else 4
def Qx3 :List (Nat × Int)->List Int->(List Int)
 | [],out=>out
 | x_ :: r,out=>Qx3 r (out++([x_.2]:List Int))
def QR7 (out:List Int):(List Int):=out
def Qt1 (s:ByteArray):(List Int):=QR7 (Qx3 (Qq6 s) [])
theorem QD7:∀ (l:List (Nat × Int)) (out:List Int),(Qx3 l out).length=out.length+l.length
 | [],out=>rfl
 | x :: r,out=>by
  rw [Qx3,QD7 r]
  simp
  omega
theorem QWc (s:ByteArray):∀ m pos,(QA4 s m pos).length<=m
 | 0,_=>by simp [QA4]
 | m+1,pos=>by
  cases h:decide (pos<s.size) with
  | false=>rw [QI6 h];simp
  | true=>rw [Qc4 h];have:=QWc s m (pos+(Utf8.decode s pos).2);simp;omega
theorem QEe (s:ByteArray):(Qt1 s).length<=s.size:=by
 unfold Qt1 QR7
 rw [QD7]
 have:=QWc s s.size 0
 simp only [Qq6,List.length_nil]
 omega
def ref05_small (r_:Int):Bool:=(((decide (r_ >= 48))&&(decide (r_<=57)))||((decide (r_ >= 97))&&(decide (r_<=122))))
def Qp4 (s:ByteArray):Nat->List Int->Nat->(List Int) × Nat
 | 0,_,_=>([],0)
 | m+1,out,i=>bif (decide ((i:Int)<(ByteArray.size s:Int))) then bif ((decide (((s.data.toList.getD i 0).toNat:Int) > 64))&&(decide (((s.data.toList.getD i 0).toNat:Int)<91))) then Qp4 s m (out++([(wu8 (((s.data.toList.getD i 0).toNat:Int)+32))]:List Int)) (i+1) else Qp4 s m (out++([((s.data.toList.getD i 0).toNat:Int)]:List Int)) (i+1) else (out,i)
def Q5a (out:List Int) (i:Nat):ByteArray:=(QQ2 out)
def Qb3 (s:ByteArray):ByteArray:=Q5a ((Qp4 s ((Int.toNat ((ByteArray.size s:Int) - (0:Int)))+1) [] 0).1) ((Qp4 s ((Int.toNat ((ByteArray.size s:Int) - (0:Int)))+1) [] 0).2)
def Q6a :List Int->Nat->Bool
 | [],_=>false
 | x_ :: r,i=>bif (decide (x_ >= 97)) then true else Q6a r (i+1)
def ref05_plain (l:List Int):Bool:=Q6a l 0
def Qm9 :List Int->Int->Nat->Int
 | [],n,_=>n
 | x_ :: r,n,i=>bif ((decide (x_<48))||(decide (x_ > 57))) then (-1) else Qm9 r (w64 ((w64 (10*n))+(w64 (w32 (x_ - 48))))) (i+1)
def QQc (l:List Int):Int:=bif ((((l.length:Int)==0)||(decide ((l.length:Int) > 9)))||((decide ((l.length:Int) > 1))&&((l.getD 0 0)==48))) then (-1) else Qm9 l 0 0
def Q62 (n:Int) (from_:Int) (to_:Int):Bool:=((decide (n >= from_))&&(decide (n<=to_)))
def Qm1 (n:Int):Bool:=((decide (n >= 1))&&(decide (n<=48)))
def Qc2 (n:Int):Bool:=((decide (n >= 1))&&(decide (n<=100000)))
def QT2 :Nat->Int->List Int->Nat->Int × (List Int) × Nat
 | 0,_,_,_=>(0,[],0)
 | m+1,s2,out,n=>bif (decide (s2 > 0)) then bif ((Int.tmod s2 2)==1) then QT2 m (wu64 (Int.tdiv s2 2)) (out++([(n:Int)]:List Int)) (n+1) else QT2 m (wu64 (Int.tdiv s2 2)) out (n+1) else (s2,out,n)
def Qtb (s2:Int) (out:List Int) (n:Nat):(List Int):=out
def Qhc (s:Int):(List Int):=Qtb ((QT2 ((Int.toNat s)+1) s [] 0).1) ((QT2 ((Int.toNat s)+1) s [] 0).2.1) ((QT2 ((Int.toNat s)+1) s [] 0).2.2)
def QGe (set_:Int):Bool:=(decide (set_<281474976710656))
def Ql7 (state:Int):Bool:=((decide (state >= 3))&&(decide (state<=7)))
def Qu4 :List Book->Int->Nat->Int
 | [],_,_=>0
 | x_ :: r,last,i=>bif (((((((((i:Int)==8)||(decide (x_.id<=last)))||(decide (x_.id > 99999)))||(decide (x_.from_<0)))||(decide (x_.to<=x_.from_)))||(decide (x_.to > 1000000)))||(decide (x_.nodes<1)))||(decide (x_.nodes > 48))) then 190 else Qu4 r x_.id (i+1)
def Qn7 (l:List Book):Int:=Qu4 l 0 0
def QT3 (s:ByteArray):Bool:=((decide ((ByteArray.size s:Int) > 0))&&(decide ((ByteArray.size s:Int)<65)))
def QF8 (a:Usage) (b:Usage):Bool:=((Op.bytesLess (ByteArray.toList a.user) (ByteArray.toList b.user))||((ByteArray.toList a.user==ByteArray.toList b.user)&&(Op.bytesLess (ByteArray.toList a.account) (ByteArray.toList b.account))))
def Qz3 (p_:List Step):List Step->Nat->Int
 | [],_=>0
 | x_ :: r,i=>bif (((decide (x_.free<(-1000000)))||(decide (x_.free > 1000000)))||(decide (x_.at_ > 1000000))) then 100 else bif ((decide ((i:Int) > 0))&&((decide (x_.at_<=(p_.getD (Int.toNat (w64 ((i:Int) - 1))) Step.zero).at_))||(x_.free==(p_.getD (Int.toNat (w64 ((i:Int) - 1))) Step.zero).free))) then 100 else Qz3 p_ r (i+1)
def QW0 (p_:List Step):Int:=bif (((decide ((p_.length:Int)<1))||(decide ((p_.length:Int) > 1000)))||((p_.getD 0 Step.zero).at_ != 0)) then 100 else Qz3 p_ p_ 0
def QI5 (t:Int):List Step->Int->Nat->Int × Nat
 | [],out,i=>(out,i)
 | x_ :: r,out,i=>bif (decide (x_.at_<=t)) then QI5 t r x_.free (i+1) else QI5 t r out (i+1)
def ref10_Now_k1 (out:Int) (i:Nat):Int:=out
def Qk7 (p_:List Step) (t:Int):Int:=ref10_Now_k1 ((QI5 t p_ 0 0).1) ((QI5 t p_ 0 0).2)
end Go.Proofs.YtcbolcknapeneaaGreatDoor
namespace Go.Proofs.YtcbolcknapeneaaGreatDoor
set_option linter.unusedSimpArgs false
set_option linter.unusedVariables false
open Go.Fw
set_option maxRecDepth 20000
set_option maxHeartbeats 4000000
attribute [local irreducible] ACalls AMoves
def Q33 (l:List Int) (n:Int):Nat->Nat->Nat
 | 0,_=>0
 | m+1,i=>bif ((decide ((i:Int)<(l.length:Int)))&&(decide ((l.getD i 0)<n))) then Q33 l n m (i+1) else i
def Qp9 (l:List Int) (n:Int) (i:Nat):(List Int):=bif ((decide ((i:Int)<(l.length:Int)))&&((l.getD i 0)==n)) then l else (((List.take i l)++([n]:List Int))++(List.drop i l))
def QO4 (l:List Int) (n:Int):(List Int):=Qp9 l n (Q33 l n ((Int.toNat ((l.length:Int) - (0:Int)))+1) 0)
theorem Qub (l:List Int) (n:Int):(QO4 l n).length<=l.length+1:=by
 unfold QO4 Qp9
 generalize Q33 l n _ 0=i
 cases ((decide ((i:Int)<(l.length:Int)))&&((l.getD i 0)==n)) with
 | true=>simp
 | false =>
  simp only [cond_false,List.length_append,List.length_take,List.length_drop,List.length_cons,List.length_nil]
  omega
def QA8 (n1:Int):(List Step):=bif (decide (n1 > 1000000)) then ([(⟨0,1000000⟩:Step)]:List Step) else ([(⟨0,n1⟩:Step)]:List Step)
def Q98 (n:Int):(List Step):=bif (decide (n<(-1000000))) then QA8 (-1000000) else QA8 n
def QC3 (id_:Int):List Job->Nat->Int
 | [],_=>(-1)
 | x_ :: r,i=>bif (x_.id==id_) then (i:Int) else QC3 id_ r (i+1)
def QK3 (l:List Job) (id_:Int):Int:=QC3 id_ l 0
def QA5 (n:Int):List Int->Nat->Bool
 | [],_=>false
 | x_ :: r,i=>bif (x_==n) then true else QA5 n r (i+1)
def QQ5 (l:List Int) (n:Int):Bool:=QA5 n l 0
theorem Qr8 (l:List Int) (n:Int) (hs0:l.length<=4294967296):GV 21 [ints l,I n] (Bo (QQ5 l n)):=by
 generalize hR:QQ5 l n=R;refine ga (.cons lw (l1 .nil)) lx (kp 6 [9,17]) Tryz.func21 ?_;have hk0:=hs0;obtain z5:l.length<=4294967296:=hs0;refine Qm0 (fun (i:Nat)=>QA5 n (List.drop i l) i=R∧i<=l.length) (fun i=>l.length - i) (fun i=>[(0,ints l),(1,I n),(4,Bo false),(5,I (i:Int))]) (fun i=>[]) 0 (wk [] .nil (sl lw (s1 (s1 (s1 .nil))))) ⟨foll hR rfl,by exact omA⟩ ?_;clear hR;rintro i ⟨hR,hj⟩;(try dsimp only at hR hj);refine ai (fun h1=>?_) (fun h2=>?_)
 ·have hlt:=ltA h1;rw [Qg0 0 hlt] at hR;refine ai gkA ?_;refine ai (fun h3=>?_) (fun h4=>?_)
  ·obtain rfl:=foll hR (ct h3 rfl);exact Q00 lx sr
  ·exact Qq0 (i+1) (wk [] .nil (sl lw (s1 (s1 (sv (Qn0 (I_eq (wr omA)) lx) .nil))))) omA ⟨foll hR (cf h4 rfl),by exact omA⟩
 ·rw [Qt0 (l:=l) (j:=i) (geA h2)] at hR;obtain rfl:=foll hR rfl;exact Q00 lx sr
end Go.Proofs.YtcbolcknapeneaaGreatDoor
