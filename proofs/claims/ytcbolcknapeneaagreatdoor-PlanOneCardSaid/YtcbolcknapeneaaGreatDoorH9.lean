/-
  Contracts of functions, printed by a program of this repo (wip/dec). No condition beyond those that stand in each.
-/
import Derived.Test.YtcbolcknapeneaaGreatDoorH7
import Derived.Test.YtcbolcknapeneaaGreatDoorProg
namespace Go.Proofs.YtcbolcknapeneaaGreatDoor
set_option linter.unusedSimpArgs false
set_option linter.unusedVariables false
open Go.Fw
set_option maxRecDepth 20000
set_option maxHeartbeats 4000000
attribute [local irreducible] ACalls AMoves
theorem Job.zz {x:Job} (h:x.sz):x.name.size<=4294967296∧x.user.size<=4294967296∧x.account.size<=4294967296∧x.shape.alts.length<=4294967296∧x.after.length<=4294967296:=h
theorem Usage.zz {x:Usage} (h:x.sz):x.user.size<=4294967296∧x.account.size<=4294967296:=h
abbrev GV (f:FuncId) (a:List AVal) (r:AVal):Prop:=∀ objs,AGives Tryz.prog f a objs r
def Q8b (l:List Node):Bool:=(decide ((l.length:Int)<=100))
theorem law12_Few_c (l:List Node):GV 40 [nodeL l] (Bo (Q8b l)):=by
 generalize hR:Q8b l=R;refine ga (.cons lw .nil) lx (kp 3 []) Tryz.func40 ?_;obtain rfl:=foll hR rfl;exact Q00 lx sr
def Q7b (s:Shape):Bool:=(decide ((s.alts.length:Int)<=100))
theorem law07_Few_c (s:Shape):GV 44 [Shape.a s] (Bo (Q7b s)):=by
 generalize hR:Q7b s=R;refine ga (.cons (Shape.low _ _) .nil) lx (kp 3 []) Tryz.func44 ?_;obtain rfl:=foll hR rfl;exact Q00 lx sr
def Qbb (l:List Book):Bool:=(decide ((l.length:Int)<=100))
theorem law19_Few_c (l:List Book):GV 42 [bookL l] (Bo (Qbb l)):=by
 generalize hR:Qbb l=R;refine ga (.cons lw .nil) lx (kp 3 []) Tryz.func42 ?_;obtain rfl:=foll hR rfl;exact Q00 lx sr
def QR6 :List Usage->Nat->Bool
 | [],_=>true
 | x_ :: r,i=>bif ((decide ((ByteArray.size x_.user:Int) > 1000))||(decide ((ByteArray.size x_.account:Int) > 1000))) then false else QR6 r (i+1)
def Qab (l:List Usage):Bool:=bif (decide ((l.length:Int) > 300)) then false else QR6 l 0
theorem law17_Few_c (l:List Usage) (hs0:l.length<=9223372036854775807∧(∀ y ∈ l,y.szM)):GV 43 [QU1 l] (Bo (Qab l)):=by
 generalize hR:Qab l=R;refine ga (.cons lw .nil) lx (kp 4 [6,10,28]) Tryz.func43 ?_;obtain ⟨z9,z10⟩:=id hs0;refine ai (fun h1=>?_) (fun h2=>?_)
 ·have qh1:=of_decide_eq_true h1;obtain rfl:=foll hR (ct h1 rfl);exact Q00 lx sr
 ·have qh2:=of_decide_eq_false h2;refine Qc0 (fun (i:Nat)=>QR6 (List.drop i l) i=R∧i<=l.length) (fun i=>l.length - i) (fun i=>[(0,QU1 l),(2,Bo false),(3,I (i:Int))]) (fun i=>[]) 0 (wk [] .nil (sl lw (s1 (s1 .nil)))) ⟨foll hR (cf h2 rfl),by exact omA⟩ ?_;clear hR;rintro i ⟨hR,hj⟩;(try dsimp only at hR hj);refine ai (fun h3=>?_) (fun h4=>?_)
  ·have hlt:=ltA h3;rw [Q90 Usage.zero hlt] at hR;have hxz:(l.getD i Usage.zero).szM:=Qy0 (by first|assumption|grind) (Usage.szz _);have hkz:=hxz;obtain ⟨z5,z6⟩:((l.getD i Usage.zero).user).size<=9223372036854775807∧((l.getD i Usage.zero).account).size<=9223372036854775807:=hxz;refine ai gkA ?_;refine ai gkA ?_;refine ai (fun h7=>?_) (fun h8=>?_)
   ·obtain rfl:=foll hR (ct h7 rfl);exact Q00 lx sr
   ·exact Qi0 (i+1) (wk [] .nil (sl lw (s1 (sv (Q80 (I_eq (wr omA)) lx) .nil)))) omA ⟨foll hR (cf h8 rfl),by exact omA⟩
  ·rw [Qf0 (l:=l) (j:=i) (geA h4)] at hR;obtain rfl:=foll hR rfl;exact Q00 lx sr
def Q84 (f:Node->Bool):List Node->Nat->Int
 | [],_=>(-1)
 | x_ :: r,i=>bif (f x_) then (i:Int) else Q84 f r (i+1)
def Q62 (s:List Node) (f:Node->Bool):Int:=Q84 f s 0
def QI5 (v:Int):List Int->Nat->Int
 | [],_=>(-1)
 | x_ :: r,i=>bif (v==x_) then (i:Int) else QI5 v r (i+1)
def Q07 (s:List Int) (v:Int):Int:=QI5 v s 0
theorem Qyb (s:List Int) (v:Int) (hs0:s.length<=4294967296):GV 214 [ints s,I v] (I (Q07 s v)):=by
 generalize hR:Q07 s v=R;refine ga (.cons lw (l1 .nil)) lx (kp 6 [7,8,9,16]) Tryz.func214 ?_;have hk0:=hs0;obtain z5:s.length<=4294967296:=hs0;refine Qc0 (fun (i:Nat)=>QI5 v (List.drop i s) i=R∧i<=s.length) (fun i=>s.length - i) (fun i=>[(0,ints s),(1,I v),(4,I 0),(7,I (s.length:Int)),(8,I (i:Int))]) (fun i=>[]) 0 (wk [] .nil (sl lw (s1 (s1 (s1 (s1 .nil)))))) ⟨foll hR rfl,by exact omA⟩ ?_;clear hR;rintro i ⟨hR,hj⟩;(try dsimp only at hR hj);refine ai (fun h1=>?_) (fun h2=>?_)
 ·have hlt:=ltA h1;rw [Q90 0 hlt] at hR;refine ai gkA ?_;refine ai (fun h3=>?_) (fun h4=>?_)
  ·obtain rfl:=foll hR (ct h3 rfl);exact Q00 lx sr
  ·exact Qi0 (i+1) (wk [] .nil (sl lw (s1 (s1 (s1 (sv (Q80 (I_eq (wr omA)) lx) .nil)))))) omA ⟨foll hR (cf h4 rfl),by exact omA⟩
 ·rw [Qf0 (l:=s) (j:=i) (geA h2)] at hR;obtain rfl:=foll hR rfl;exact Q00 lx sr
def Ql8 (n:Int):Bool:=((decide (n >= 0))&&(decide (n<=1000000)))
theorem Qec (n:Int):GV 304 [I n] (Bo (Ql8 n)):=by
 generalize hR:Ql8 n=R;refine ga (l1 .nil) lx (kp 3 []) Tryz.func304 ?_;obtain rfl:=foll hR rfl;exact Q00 lx sr
def QB3 (n:Int):Bool:=((decide (n >= 0))&&(decide (n<=1000000)))
theorem Q85 (n:Int):GV 72 [I n] (Bo (QB3 n)):=by
 generalize hR:QB3 n=R;refine ga (l1 .nil) lx (kp 3 []) Tryz.func72 ?_;obtain rfl:=foll hR rfl;exact Q00 lx sr
def Q63 (n:Int) (from_:Int) (to_:Int):Int:=bif (decide (n<from_)) then from_ else bif (decide (n > to_)) then to_ else n
theorem Q49 (n:Int) (from_:Int) (to_:Int):GV 171 [I n,I from_,I to_] (I (Q63 n from_ to_)):=by
 generalize hR:Q63 n from_ to_=R;refine ga (l1 (l1 (l1 .nil))) lx (kp 7 [7,12]) Tryz.func171 ?_;refine ai (fun h1=>?_) (fun h2=>?_)
 ·have qh1:=of_decide_eq_true h1;obtain rfl:=foll hR (ct h1 rfl);exact Q00 lx sr
 ·have qh2:=of_decide_eq_false h2;refine ai (fun h3=>?_) (fun h4=>?_)
  ·have qh3:=of_decide_eq_true h3;obtain rfl:=foll hR (cf h2 (ct h3 rfl));exact Q00 lx sr
  ·have qh4:=of_decide_eq_false h4;obtain rfl:=foll hR (cf h2 (cf h4 rfl));exact Q00 lx sr
def QV0 (a:Alt):Bool:=((((decide (a.nodes >= 1))&&(decide (a.nodes<=48)))&&(decide (a.wall >= 1)))&&(decide (a.wall<=100000)))
theorem QF9 (a:Alt):GV 215 [Alt.a a] (Bo (QV0 a)):=by
 generalize hR:QV0 a=R;refine ga (.cons (Alt.low _ _) .nil) lx (kp 3 []) Tryz.func215 ?_;obtain rfl:=foll hR rfl;exact Q00 lx sr
def QR2 (f:Alt->Bool):List Alt->Nat->Int
 | [],_=>(-1)
 | x_ :: r,i=>bif (f x_) then (i:Int) else QR2 f r (i+1)
def QT0 (s:List Alt) (f:Alt->Bool):Int:=QR2 f s 0
def Qt2 (n:Int) (from_:Int) (to_:Int):Bool:=((decide (n >= from_))&&(decide (n<=to_)))
theorem QV2 (n:Int) (from_:Int) (to_:Int):GV 252 [I n,I from_,I to_] (Bo (Qt2 n from_ to_)):=by
 generalize hR:Qt2 n from_ to_=R;refine ga (l1 (l1 (l1 .nil))) lx (kp 7 []) Tryz.func252 ?_;obtain rfl:=foll hR rfl;exact Q00 lx sr
def Q11 (r_:Int):Int:=bif ((r_==9)||(r_==32)) then 1 else bif (((((decide (r_<32))||((decide (r_ >= 127))&&(decide (r_<=160))))||((decide (r_ >= 55296))&&(decide (r_<=57343))))||(r_==65533))||(decide (r_ > 1114111))) then 0 else bif ((decide (r_ >= 48))&&(decide (r_<=57))) then 3 else bif ((((decide (r_ >= 97))&&(decide (r_<=122)))||((decide (r_ >= 65))&&(decide (r_<=90))))||(decide (r_ > 160))) then 2 else 4
theorem Qq4 (r_:Int):GV 339 [J r_] (I (Q11 r_)):=by
 generalize hR:Q11 r_=R;refine ga (l1 .nil) lx (kp 3 [3,10,37,44]) Tryz.func339 ?_;refine ai (fun h1=>?_) (fun h2=>?_)
 ·obtain rfl:=foll hR (ct h1 rfl);exact Q00 lx sr
 ·refine ai (fun h3=>?_) (fun h4=>?_)
  ·obtain rfl:=foll hR (cf h2 (ct h3 rfl));exact Q00 lx sr
  ·refine ai (fun h5=>?_) (fun h6=>?_)
   ·obtain rfl:=foll hR (cf h2 (cf h4 (ct h5 rfl)));exact Q00 lx sr
   ·refine ai (fun h7=>?_) (fun h8=>?_)
    ·obtain rfl:=foll hR (cf h2 (cf h4 (cf h6 (ct h7 rfl))));exact Q00 lx sr
    ·obtain rfl:=foll hR (cf h2 (cf h4 (cf h6 (cf h8 rfl))));exact Q00 lx sr
def Qu0 (is:Int->Bool):Nat->LexReader->LexReader
 | 0,_=>LexReader.zero
 | m+1,c=>bif ((decide (c.at_<(c.line.length:Int)))&&(is (c.line.getD (Int.toNat c.at_) 0))) then Qu0 is m { c with at_:=(w64 (c.at_+1)) } else c
def Qv0 (r_:LexReader) (c:LexReader):ByteArray × LexReader:=((runesBytes (List.drop (Int.toNat r_.at_) (List.take (Int.toNat c.at_) c.line))),c)
def Q40 (r_:LexReader) (is:Int->Bool):ByteArray × LexReader:=Qv0 r_ (Qu0 is ((Int.toNat ((r_.line.length:Int) - r_.at_))+1) r_)
theorem Qca (is:Int->Bool):∀ (m:Nat) (c:LexReader),(Qu0 is m c).line.length<=c.line.length
 | 0,_=>by simp [Qu0,LexReader.zero]
 | m+1,c=>by
  rw [Qu0]
  cases ((decide (c.at_<(c.line.length:Int)))&&(is (c.line.getD (Int.toNat c.at_) 0))) with
  | true=>exact Qca is m { c with at_:=(w64 (c.at_+1)) }
  | false=>exact Nat.le_refl _
theorem Qj9 (r_:LexReader) (is:Int->Bool) (h:r_.line.length<=400):(Q40 r_ is).1.size<=4294967296:=by
 have h1:=Qca is ((Int.toNat ((r_.line.length:Int) - r_.at_))+1) r_
 unfold Q40 Qv0
 refine Nat.le_trans (Qf6 _) ?_
 simp only [List.length_drop,List.length_take]
 omega
def QL4 (s:ByteArray):Nat->Nat->List Int->(List Int)
 | 0,_,_=>[]
 | m+1,i,c=>bif (decide ((i:Int)<(ByteArray.size s:Int))) then bif ((decide ((c.getD i 0) >= 65))&&(decide ((c.getD i 0)<=90))) then QL4 s m (i+1) (c.set i (wu8 ((wu8 ((c.getD i 0)+97)) - 65))) else QL4 s m (i+1) c else c
def QU3 (c:List Int):ByteArray:=(Qq2 c)
def QA6 (s:ByteArray):ByteArray:=QU3 (QL4 s ((Int.toNat ((ByteArray.size s:Int) - (0:Int)))+1) 0 (QG1 s))
theorem runes_Lower_c (s:ByteArray) (hs0:s.size<=4294967296):GV 390 [Sg s] (Sg (QA6 s)):=by
 generalize hR:QA6 s=R;refine ga (l1 .nil) lx (kp 6 [8,9,10,11,20]) Tryz.func390 ?_;have hk0:=hs0;obtain z5:s.size<=4294967296:=hs0;refine Qh0 (fun (i:Nat) (c:List Int)=>∃ m,(Int.toNat ((ByteArray.size s:Int) - (i:Int)))<m∧QU3 (QL4 s m i c)=R∧c.length=ByteArray.size s∧(i:Int)<=(ByteArray.size s:Int)) (fun i c=>(Int.toNat ((ByteArray.size s:Int) - (i:Int)))) (fun i c=>[(2,Sg ⟨#[]⟩),(3,AVal.own 0 0 1 0 c.length),(8,AVal.own 0 0 1 0 c.length),(9,I (ByteArray.size s:Int)),(10,I (i:Int))]) (fun i c=>[(0,AObj.row 5 1 (c.map (fun q_=>[Y q_])))]) 0 (QG1 s) (wk [0] (tO rfl (tl eqA) .nil) (s1 (sv (to 0 lnA) (sv (to 0 lnA) (s1 (s1 .nil)))))) ⟨_,Nat.lt_succ_self _,foll hR rfl,by exact exA⟩ ?_;clear hR;rintro i c ⟨m,hm,hR,hx⟩;(try dsimp only at hR hm hx);obtain ⟨m,rfl⟩:=sucA m;refine ai (fun h1=>?_) (fun h2=>?_)
 ·have qh1:=of_decide_eq_true h1;refine ai gkA ?_;refine ⟨_,QL1 rfl rfl rfl (QV1 0 i (by first|rfl|exact Nat.zero_add _|omega) ckA) rfl,?_⟩;refine ai (fun h3=>?_) (fun h4=>?_)
  ·refine ai gkA ?_;refine ⟨_,QA3 rfl rfl rfl rfl (QV1 0 i (by first|rfl|exact Nat.zero_add _|omega) ckA) rfl rfl (set_map i (wu8 ((wu8 ((c.getD i 0)+97)) - 65)) (by first|rfl|exact Nat.zero_add _|omega) rfl),?_⟩;exact Q60 (i+1) (c.set i (wu8 ((wu8 ((c.getD i 0)+97)) - 65))) (wk [0] (tO rfl (tl eqA) .nil) (s1 (sv (to 0 lnA) (sv (to 0 lnA) (s1 (sv (Q80 (I_eq (wr omA)) lx) .nil)))))) omA ⟨m,by exact omA,foll hR (congrArg (fun p:(List Int)=>QU3 p) (ct h1 (ct h3 rfl))),by exact exA⟩
  ·exact Q60 (i+1) c (wk [0] (tO rfl (tl eqA) .nil) (s1 (sv (to 0 lnA) (sv (to 0 lnA) (s1 (sv (Q80 (I_eq (wr omA)) lx) .nil)))))) omA ⟨m,by exact omA,foll hR (congrArg (fun p:(List Int)=>QU3 p) (ct h1 (cf h4 rfl))),by exact exA⟩
 ·have qh2:=of_decide_eq_false h2;replace hR:QU3 c=R:=fo2 (fun p:(List Int)=>QU3 p) (c) hR (cf h2 rfl);(first|refine ⟨c,by exact cvA,?_⟩|refine ⟨_,fun _=>⟨c,by exact cvA,rfl,rfl⟩,?_⟩|refine ⟨_,rfl,⟨c,by exact cvA,Sub.refl _,rfl⟩,?_⟩);obtain rfl:=foll hR rfl;exact Q00 lx sr
def QM0 (r_:LexReader) (at_:Int) (e_:Int):LexReader:=bif (r_.error==0) then (⟨r_.line,r_.at_,at_,e_⟩:LexReader) else r_
theorem Q93 (r_:LexReader) (at_:Int) (e_:Int):AMoves Tryz.prog 381 [AVal.ptr 0 0 4 0 0,I at_,I e_] [(0,AObj.row 364 4 [[runes r_.line,I r_.at_,I r_.bad,I r_.error]])] 1 (AVal.tup []) [(0,AObj.row 364 4 [[runes ((QM0 r_ at_ e_).line),I ((QM0 r_ at_ e_).at_),I ((QM0 r_ at_ e_).bad),I ((QM0 r_ at_ e_).error)]])]:=by
 generalize hR:QM0 r_ at_ e_=R;refine mo (kp 6 [10]) Tryz.func381 ?_;refine ai (fun h1=>?_) (fun h2=>?_)
 ·obtain rfl:=foll hR (ct h1 rfl);exact rq (tt [0] (tO rfl (ts LexReader.lo) .nil) t1)
 ·obtain rfl:=foll hR (cf h2 rfl);exact rq (tt [0] (tO rfl (ts LexReader.lo) .nil) t1)
def Q56 (s:ByteArray):List (Nat × Int)->Bool
 | []=>(!(ByteArray.toList s==ByteArray.toList ⟨#[]⟩))
 | x_ :: r=>bif ((decide (x_.2<48))||(decide (x_.2 > 57))) then false else Q56 s r
def Qj7 (s:ByteArray):Bool:=Q56 s (QI6 s)
theorem Qmc (s:ByteArray) (hs0:s.size<=4294967296):GV 392 [Sg s] (Bo (Qj7 s)):=by
 generalize hR:Qj7 s=R;refine ga (l1 .nil) lx (kp 5 [6,7,8,15]) Tryz.func392 ?_;have hk0:=hs0;obtain z5:s.size<=4294967296:=hs0;refine Qc0 (fun (pos:Nat)=>∃ m,ByteArray.size s - pos<=m∧Q56 s (QZ3 s m pos)=R) (fun pos=>ByteArray.size s - pos) (fun pos=>[(0,Sg s),(2,Bo false),(6,AVal.ptr 0 0 1 0 0)]) (fun pos=>[(0,AObj.other (.strIter s pos))]) 0 (wk [0] (tO rfl (.strIter _ _) .nil) (s1 (s1 (sv (Q10 0 rfl rfl) .nil)))) ⟨ByteArray.size s,by exact omA,foll hR rfl⟩ ?_;clear hR;rintro pos ⟨m,hm,hR⟩;(try dsimp only at hR hm);refine ai (fun h1=>?_) (fun h2=>?_)
 ·have hlt:=of_decide_eq_true h1;have hw:=Qf7 s pos;have hwe:=Qe7 s pos hlt;obtain ⟨m,rfl⟩:=sucA m;rw [QT2 h1] at hR;refine ai (fun _=>?_) (fun h=>nomatch h);refine ai (fun h3=>?_) (fun h4=>?_)
  ·obtain rfl:=foll hR (ct h3 rfl);exact Q00 lx sr
  ·exact Qi0 (pos+(Utf8.decode s pos).2) (wk [0] (tO rfl (.strIter _ _) .nil) (s1 (s1 (sv (Q10 0 rfl rfl) .nil)))) omA ⟨m,by exact omA,foll hR (cf h4 rfl)⟩
 ·rw [Q35 h2] at hR;refine ai (fun h=>nomatch h) (fun _=>?_);obtain rfl:=foll hR rfl;exact Q00 lx sr
theorem Q29 (s:ByteArray):∀ l,Q56 s l=true->(!(ByteArray.toList s==ByteArray.toList ⟨#[]⟩))=true ∧ ∀ x ∈ l,48<=x.2∧x.2<=57
 | [],h=>⟨h,fun x hx=>nomatch hx⟩
 | x :: r,h=>by
  rw [Q56] at h
  cases hc:((decide (x.2<48))||(decide (x.2 > 57))) with
  | true=>rw [hc] at h;cases h
  | false =>
   rw [hc] at h
   obtain ⟨a,b⟩:=Q29 s r h
   refine ⟨a,fun y hy=>?_⟩
   rcases List.mem_cons.1 hy with rfl|hy
   ·simp only [Bool.or_eq_false_iff,decide_eq_false_iff_not] at hc
    omega
   ·exact b y hy
theorem lex_digits_ok {s:ByteArray} {q:Bool} (h:(((!(Qj7 s))||(decide ((ByteArray.size s:Int) > 9)))||q)=false):atoiOK s:=by
 simp only [Bool.or_eq_false_iff,Bool.not_eq_false',decide_eq_false_iff_not] at h
 obtain ⟨⟨h1,h2⟩,_⟩:=h
 obtain ⟨a,b⟩:=Q29 s _ h1
 refine ⟨?_,by omega,fun i hi=>digits_bytes s s.size 0 (by omega) b i (by omega) hi⟩
 rcases Nat.eq_zero_or_pos s.size with h0|h0
 ·have e:s=⟨#[]⟩:=by
   apply ByteArray.ext
   exact Array.eq_empty_of_size_eq_zero h0
  rw [e] at a
  simp at a
 ·exact h0
def QX6 (s:ByteArray):Nat->Int->Nat->Int
 | 0,_,_=>0
 | m+1,n,i=>bif (decide ((i:Int)<(ByteArray.size s:Int))) then QX6 s m (w64 ((w64 (n*10))+(w64 (wu8 (((QG1 s).getD i 0) - 48))))) (i+1) else n
def Qv4 (n:Int):Int × Unit:=(n,())
def QD8 (s:ByteArray):Int × Unit:=Qv4 (QX6 s ((Int.toNat ((ByteArray.size s:Int) - (0:Int)))+1) 0 0)
theorem QId (s:ByteArray) (hs0:s.size<=4294967296) (hp0:atoiOK s):GV 408 [Sg s] (AVal.tup [I ((QD8 s).1),AVal.lit .nilIface]):=by
 generalize hR:QD8 s=R;refine ga (l1 .nil) (Low.tup' (l1 (l1 .nil))) (kp 11 [30,39,44,47,48,49,50,56,66]) Tryz.func408 ?_;have hk0:=hs0;obtain z11:s.size<=4294967296:=hs0;refine ai (fun h1=>?_) (fun h2=>?_)
 ·refine ai gkA ?_;refine ai gkA ?_;refine ai (fun h3=>?_) (fun h4=>?_)
  ·exfalso;exact atoi_sign hp0 h3
  ·refine Qh0 (fun (n:Int) (i:Nat)=>∃ m,(Int.toNat ((ByteArray.size s:Int) - (i:Int)))<m∧Qv4 (QX6 s m n i)=R∧(i:Int)<=(ByteArray.size s:Int)) (fun n i=>(Int.toNat ((ByteArray.size s:Int) - (i:Int)))) (fun n i=>[(0,Sg s),(2,I 0),(3,AVal.lit .nilIface),(5,Sg s),(6,I n),(47,AVal.own 0 0 1 0 (ByteArray.size s)),(48,I (ByteArray.size s:Int)),(49,I (i:Int))]) (fun n i=>[(0,AObj.row 5 1 ((QG1 s).map (fun q_=>[Y q_])))]) 0 0 (wk [0] (tO rfl (tl eqA) .nil) (s1 (s1 (s1 (s1 (s1 (sv (to 0 lnA) (s1 (s1 .nil))))))))) ⟨_,Nat.lt_succ_self _,foll hR rfl,by exact exA⟩ ?_;clear hR;rintro n i ⟨m,hm,hR,hx⟩;(try dsimp only at hR hm hx);obtain ⟨m,rfl⟩:=sucA m;refine ai (fun h5=>?_) (fun h6=>?_)
   ·have qh5:=of_decide_eq_true h5;refine ai gkA ?_;refine ⟨_,QL1 rfl rfl rfl (QV1 0 i (by first|rfl|exact Nat.zero_add _|omega) ckA) rfl,?_⟩;refine ai (fun h7=>?_) (fun h8=>?_)
    ·exfalso;exact atoi_digit hp0 (by omega) h7
    ·have qh8:=of_decide_eq_false h8;exact Q60 (w64 ((w64 (n*10))+(w64 (wu8 (((QG1 s).getD i 0) - 48))))) (i+1) (wk [0] (tO rfl (tl eqA) .nil) (s1 (s1 (s1 (s1 (s1 (sv (to 0 lnA) (s1 (sv (Q80 (I_eq (wr omA)) lx) .nil))))))))) omA ⟨m,by exact omA,foll hR (congrArg (fun p:Int=>Qv4 p) (ct h5 rfl)),by exact exA⟩
   ·have qh6:=of_decide_eq_false h6;replace hR:Qv4 n=R:=fo2 (fun p:Int=>Qv4 p) (n) hR (cf h6 rfl);refine ai gkA ?_;refine ai (fun h9=>?_) (fun h10=>?_)
    ·exfalso;exact atoi_minus hp0 h9
    ·obtain rfl:=foll hR rfl;exact Q00 (Low.tup' (l1 (l1 .nil))) (Seen.tup (e1 (e1 .nil)))
 ·exfalso;have ha1:=hp0.1;have ha2:=hp0.2.1;simp at h2;omega
def Qs2 (p_:List Int) (r_:Int) (i:Bool):(List Int):=bif i then (p_++([(wu8 (BitVec.ofInt 8 224 ||| BitVec.ofInt 8 (wu8 (Int.fdiv r_ (2 ^ (min (Int.toNat 12) 32))))).toNat),(wu8 (BitVec.ofInt 8 128 ||| BitVec.ofInt 8 (wu8 (BitVec.ofInt 8 (wu8 (Int.fdiv r_ (2 ^ (min (Int.toNat 6) 32)))) &&& BitVec.ofInt 8 63).toNat)).toNat),(wu8 (BitVec.ofInt 8 128 ||| BitVec.ofInt 8 (wu8 (BitVec.ofInt 8 (wu8 r_) &&& BitVec.ofInt 8 63).toNat)).toNat)]:List Int)) else bif ((decide ((wu32 r_) > 65535))&&(decide ((wu32 r_)<=1114111))) then (p_++([(wu8 (BitVec.ofInt 8 240 ||| BitVec.ofInt 8 (wu8 (Int.fdiv r_ (2 ^ (min (Int.toNat 18) 32))))).toNat),(wu8 (BitVec.ofInt 8 128 ||| BitVec.ofInt 8 (wu8 (BitVec.ofInt 8 (wu8 (Int.fdiv r_ (2 ^ (min (Int.toNat 12) 32)))) &&& BitVec.ofInt 8 63).toNat)).toNat),(wu8 (BitVec.ofInt 8 128 ||| BitVec.ofInt 8 (wu8 (BitVec.ofInt 8 (wu8 (Int.fdiv r_ (2 ^ (min (Int.toNat 6) 32)))) &&& BitVec.ofInt 8 63).toNat)).toNat),(wu8 (BitVec.ofInt 8 128 ||| BitVec.ofInt 8 (wu8 (BitVec.ofInt 8 (wu8 r_) &&& BitVec.ofInt 8 63).toNat)).toNat)]:List Int)) else (p_++([239,191,189]:List Int))
def Qk2 (p_:List Int) (r_:Int):(List Int):=bif (decide ((wu32 r_)<=2047)) then (p_++([(wu8 (BitVec.ofInt 8 192 ||| BitVec.ofInt 8 (wu8 (Int.fdiv r_ (2 ^ (min (Int.toNat 6) 32))))).toNat),(wu8 (BitVec.ofInt 8 128 ||| BitVec.ofInt 8 (wu8 (BitVec.ofInt 8 (wu8 r_) &&& BitVec.ofInt 8 63).toNat)).toNat)]:List Int)) else bif (decide ((wu32 r_)<55296)) then Qs2 p_ r_ (decide ((wu32 r_)<55296)) else Qs2 p_ r_ ((decide (57343<(wu32 r_)))&&(decide ((wu32 r_)<=65535)))
theorem Qg8 (p_:List Int) (r_:Int) (hs0:p_.length<=4294967296):AMoves Tryz.prog 407 [AVal.own 0 0 1 0 p_.length,J r_] [(0,AObj.row 5 1 (p_.map (fun q_=>[Y q_])))] 0 (AVal.own 0 0 1 0 (Qk2 p_ r_).length) [(0,AObj.row 5 1 ((Qk2 p_ r_).map (fun q_=>[Y q_])))]:=by
 generalize hR:Qk2 p_ r_=R;refine mo (kj [1000007] 6 [11,25,50]) Tryz.func407 ?_;have hk0:=hs0;obtain z9:p_.length<=4294967296:=hs0;refine ai (fun h1=>?_) (fun h2=>?_)
 ·have qh1:=of_decide_eq_true h1;refine ai gkA ?_;refine Or.inl ?_;(first|refine ⟨Qa2 1 rfl lnA apA,?_⟩|refine ⟨Qd1 1 rfl apA,?_⟩);obtain rfl:=foll hR (ct h1 rfl);exact rq (tt [0] (tO rfl (tl eqA) .nil) (to 0 lnA))
 ·have qh2:=of_decide_eq_false h2;refine QY0 (fun (i:Bool)=>Qs2 p_ r_ i=R) (fun i=>[(0,AVal.own 0 0 1 0 p_.length),(1,J r_),(4,AVal.lit (.slice none 0 0)),(5,V (wu32 r_)),(25,Bo i)]) (fun i=>[(0,AObj.row 5 1 (p_.map (fun q_=>[Y q_])))]) ?_ ?_
  ·clear hR;rintro i hR;(try dsimp only at hR);refine ai (fun h3=>?_) (fun h4=>?_)
   ·refine ai gkA ?_;refine ai gkA ?_;refine Or.inl ?_;(first|refine ⟨Qa2 1 rfl lnA apA,?_⟩|refine ⟨Qd1 1 rfl apA,?_⟩);obtain rfl:=foll hR (ct h3 rfl);exact rq (tt [0] (tO rfl (tl eqA) .nil) (to 0 lnA))
   ·refine ai (fun h5=>?_) (fun h6=>?_)
    ·refine ai gkA ?_;refine ai gkA ?_;refine ai gkA ?_;refine Or.inl ?_;(first|refine ⟨Qa2 1 rfl lnA apA,?_⟩|refine ⟨Qd1 1 rfl apA,?_⟩);obtain rfl:=foll hR (cf h4 (ct h5 rfl));exact rq (tt [0] (tO rfl (tl eqA) .nil) (to 0 lnA))
    ·refine Or.inl ?_;(first|refine ⟨Qa2 1 rfl lnA apA,?_⟩|refine ⟨Qd1 1 rfl apA,?_⟩);obtain rfl:=foll hR (cf h4 (cf h6 rfl));exact rq (tt [0] (tO rfl (tl eqA) .nil) (to 0 lnA))
  ·refine ai (fun h7=>?_) (fun h8=>?_)
   ·have qh7:=of_decide_eq_true h7;exact Q70 (decide ((wu32 r_)<55296)) (wk [0] (tO rfl (tl eqA) .nil) (sv (to 0 lnA) (s1 (s1 (s1 (s1 .nil)))))) (foll hR (cf h2 (ct h7 rfl)))
   ·have qh8:=of_decide_eq_false h8;exact Q70 ((decide (57343<(wu32 r_)))&&(decide ((wu32 r_)<=65535))) (wk [0] (tO rfl (tl eqA) .nil) (sv (to 0 lnA) (s1 (s1 (s1 (s1 .nil)))))) (foll hR (cf h2 (cf h8 rfl)))
def QS2 (f:Dep->Bool):List Dep->Nat->Int
 | [],_=>(-1)
 | x_ :: r,i=>bif (f x_) then (i:Int) else QS2 f r (i+1)
def QU0 (s:List Dep) (f:Dep->Bool):Int:=QS2 f s 0
def Qr4 (s2:List Alt):List Alt->Nat->Bool
 | [],_=>true
 | x_ :: r,i=>bif (!((x_.nodes==(s2.getD i Alt.zero).nodes)&&(x_.wall==(s2.getD i Alt.zero).wall))) then false else Qr4 s2 r (i+1)
def QB5 (s1_:List Alt) (s2:List Alt):Bool:=bif ((s1_.length:Int)!=(s2.length:Int)) then false else Qr4 s2 s1_ 0
theorem Qwb (s1_:List Alt) (s2:List Alt) (hs0:s1_.length<=4294967296) (hs1:s2.length<=4294967296):GV 313 [altL s1_,altL s2] (Bo (QB5 s1_ s2)):=by
 generalize hR:QB5 s1_ s2=R;refine ga (.cons lw (.cons lw .nil)) lx (kp 6 [10,12,13,14,24]) Tryz.func313 ?_;have hk0:=hs0;obtain z7:s1_.length<=4294967296:=hs0;have hk1:=hs1;obtain z8:s2.length<=4294967296:=hs1;refine ai (fun h1=>?_) (fun h2=>?_)
 ·obtain rfl:=foll hR (ct h1 rfl);exact Q00 lx sr
 ·refine Qc0 (fun (i:Nat)=>Qr4 s2 (List.drop i s1_) i=R∧i<=s1_.length) (fun i=>s1_.length - i) (fun i=>[(0,altL s1_),(1,altL s2),(4,Bo false),(12,I (s1_.length:Int)),(13,I (i:Int))]) (fun i=>[]) 0 (wk [] .nil (sl lw (sl lw (s1 (s1 (s1 .nil)))))) ⟨foll hR (cf h2 rfl),by exact omA⟩ ?_;clear hR;rintro i ⟨hR,hj⟩;(try dsimp only at hR hj);refine ai (fun h3=>?_) (fun h4=>?_)
  ·have hlt:=ltA h3;rw [Q90 Alt.zero hlt] at hR;refine dchk (by kernel_rfl) ?_;refine ai gkA ?_;refine ai gkA ?_;refine ai (fun _=>(by kernel_rfl:eqOK _ _=true)) ?_;(repeat ((first|refine ai rfl ?_|refine ai (fun _=>rfl) ?_)));refine ai (fun h5=>?_) (fun h6=>?_)
   ·obtain rfl:=foll hR (ct h5 rfl);exact Q00 lx sr
   ·exact Qi0 (i+1) (wk [] .nil (sl lw (sl lw (s1 (s1 (sv (Q80 (I_eq (wr omA)) lx) .nil)))))) omA ⟨foll hR (cf h6 rfl),by exact omA⟩
  ·rw [Qf0 (l:=s1_) (j:=i) (geA h4)] at hR;obtain rfl:=foll hR rfl;exact Q00 lx sr
def Qs4 (s2:List Dep):List Dep->Nat->Bool
 | [],_=>true
 | x_ :: r,i=>bif (!((x_.how==(s2.getD i Dep.zero).how)&&(x_.job==(s2.getD i Dep.zero).job))) then false else Qs4 s2 r (i+1)
def QC5 (s1_:List Dep) (s2:List Dep):Bool:=bif ((s1_.length:Int)!=(s2.length:Int)) then false else Qs4 s2 s1_ 0
theorem Qxb (s1_:List Dep) (s2:List Dep) (hs0:s1_.length<=4294967296) (hs1:s2.length<=4294967296):GV 259 [depL s1_,depL s2] (Bo (QC5 s1_ s2)):=by
 generalize hR:QC5 s1_ s2=R;refine ga (.cons lw (.cons lw .nil)) lx (kp 6 [10,12,13,14,24]) Tryz.func259 ?_;have hk0:=hs0;obtain z7:s1_.length<=4294967296:=hs0;have hk1:=hs1;obtain z8:s2.length<=4294967296:=hs1;refine ai (fun h1=>?_) (fun h2=>?_)
 ·obtain rfl:=foll hR (ct h1 rfl);exact Q00 lx sr
 ·refine Qc0 (fun (i:Nat)=>Qs4 s2 (List.drop i s1_) i=R∧i<=s1_.length) (fun i=>s1_.length - i) (fun i=>[(0,depL s1_),(1,depL s2),(4,Bo false),(12,I (s1_.length:Int)),(13,I (i:Int))]) (fun i=>[]) 0 (wk [] .nil (sl lw (sl lw (s1 (s1 (s1 .nil)))))) ⟨foll hR (cf h2 rfl),by exact omA⟩ ?_;clear hR;rintro i ⟨hR,hj⟩;(try dsimp only at hR hj);refine ai (fun h3=>?_) (fun h4=>?_)
  ·have hlt:=ltA h3;rw [Q90 Dep.zero hlt] at hR;refine dchk (by kernel_rfl) ?_;refine ai gkA ?_;refine ai gkA ?_;refine ai (fun _=>(by kernel_rfl:eqOK _ _=true)) ?_;(repeat ((first|refine ai rfl ?_|refine ai (fun _=>rfl) ?_)));refine ai (fun h5=>?_) (fun h6=>?_)
   ·obtain rfl:=foll hR (ct h5 rfl);exact Q00 lx sr
   ·exact Qi0 (i+1) (wk [] .nil (sl lw (sl lw (s1 (s1 (sv (Q80 (I_eq (wr omA)) lx) .nil)))))) omA ⟨foll hR (cf h6 rfl),by exact omA⟩
  ·rw [Qf0 (l:=s1_) (j:=i) (geA h4)] at hR;obtain rfl:=foll hR rfl;exact Q00 lx sr
def Qk6 (c:Cmd) (i1:Bool):Cmd:=bif i1 then (⟨c.kind,0,⟨#[]⟩,⟨#[]⟩,⟨#[]⟩,Shape.zero,0,false,0,false,[],c.node,0,0⟩:Cmd) else bif (c.kind==10) then (⟨c.kind,0,⟨#[]⟩,⟨#[]⟩,⟨#[]⟩,Shape.zero,0,false,c.time,c.hasTime,[],0,c.nodes,c.from_⟩:Cmd) else (⟨c.kind,0,⟨#[]⟩,⟨#[]⟩,⟨#[]⟩,Shape.zero,0,false,0,false,[],0,0,0⟩:Cmd)
def QR4 (c:Cmd) (i:Bool):Cmd:=bif i then (⟨c.kind,c.job,⟨#[]⟩,⟨#[]⟩,⟨#[]⟩,Shape.zero,0,false,0,false,[],0,0,0⟩:Cmd) else bif (c.kind==5) then (⟨c.kind,c.job,⟨#[]⟩,⟨#[]⟩,⟨#[]⟩,Shape.zero,c.prio,c.hasPrio,c.time,c.hasTime,[],0,0,0⟩:Cmd) else bif (c.kind==6) then (⟨c.kind,c.job,⟨#[]⟩,⟨#[]⟩,⟨#[]⟩,Shape.zero,0,false,0,false,[],0,c.nodes,0⟩:Cmd) else bif (c.kind==7) then Qk6 c (c.kind==7) else bif (c.kind==8) then Qk6 c (c.kind==8) else Qk6 c (c.kind==9)
def QP7 (c:Cmd):Cmd:=bif (c.kind==1) then { c with job:=0,time:=0,hasTime:=false,node:=0,nodes:=0,from_:=0 } else bif (c.kind==2) then QR4 c (c.kind==2) else bif (c.kind==3) then QR4 c (c.kind==3) else bif (c.kind==4) then QR4 c (c.kind==4) else bif (c.kind==11) then QR4 c (c.kind==11) else QR4 c (c.kind==12)
theorem cmd_bare_c (c:Cmd) (hs0:c.sz):GV 174 [Cmd.a c] (Cmd.a (QP7 c)):=by
 generalize hR:QP7 c=R;refine ga (.cons (Cmd.low _ _) .nil) (Cmd.low _ _) (kj [1000011,1000019] 4 [8,9,32,41,58,66,73]) Tryz.func174 ?_;have hk0:=hs0;obtain ⟨z25,z26,z27,z28,z29⟩:c.name.size<=4294967296∧c.user.size<=4294967296∧c.account.size<=4294967296∧(c.shape.alts.length<=4294967296)∧c.after.length<=4294967296:=hs0;refine ai (fun h1=>?_) (fun h2=>?_)
 ·refine dchk (by kernel_rfl) ?_;(repeat ((first|refine ai rfl ?_|refine ai (fun _=>rfl) ?_)));(try (refine dchk (by kernel_rfl) ?_));(repeat ((first|refine ai rfl ?_|refine ai (fun _=>rfl) ?_)));obtain rfl:=foll hR (ct h1 rfl);exact Q00 (Cmd.low _ _) sr
 ·refine QY0 (fun (i:Bool)=>QR4 c i=R) (fun i=>[(1,AVal.ptr 0 0 18 0 0),(2,AVal.ptr 1 0 18 0 0),(3,AVal.ptr 2 0 18 0 0),(8,I c.kind),(32,Bo i)]) (fun i=>[(0,AObj.row 119 18 [[I c.kind,I c.job,Sg c.name,Sg c.user,Sg c.account,I c.shape.kind,altL c.shape.alts,I c.shape.min,I c.shape.max,I c.shape.wall,I c.prio,Bo c.hasPrio,I c.time,Bo c.hasTime,depL c.after,I c.node,I c.nodes,I c.from_]]),(0,AObj.row 119 18 [[I 0,I 0,Sg ⟨#[]⟩,Sg ⟨#[]⟩,Sg ⟨#[]⟩,I 0,AVal.lit (.slice none 0 0),I 0,I 0,I 0,I 0,Bo false,I 0,Bo false,AVal.lit (.slice none 0 0),I 0,I 0,I 0]]),(0,AObj.row 119 18 [[I c.kind,I 0,Sg ⟨#[]⟩,Sg ⟨#[]⟩,Sg ⟨#[]⟩,I 0,AVal.lit (.slice none 0 0),I 0,I 0,I 0,I 0,Bo false,I 0,Bo false,AVal.lit (.slice none 0 0),I 0,I 0,I 0]])]) ?_ ?_
  ·clear hR;rintro i hR;(try dsimp only at hR);refine ai (fun h3=>?_) (fun h4=>?_)
   ·obtain rfl:=foll hR (ct h3 rfl);exact Q00 (Cmd.low _ _) (Seen.agg (e1 (e1 (e1 (e1 (e1 (e1 (ev (Qs0) (e1 (e1 (e1 (e1 (e1 (e1 (e1 (ev (Qs0) (e1 (e1 (e1 .nil)))))))))))))))))))
   ·refine ai (fun h5=>?_) (fun h6=>?_)
    ·refine dchk (by kernel_rfl) ?_;(repeat ((first|refine ai rfl ?_|refine ai (fun _=>rfl) ?_)));obtain rfl:=foll hR (cf h4 (ct h5 rfl));exact Q00 (Cmd.low _ _) (Seen.agg (e1 (e1 (e1 (e1 (e1 (e1 (ev (Qs0) (e1 (e1 (e1 (e1 (e1 (e1 (e1 (ev (Qs0) (e1 (e1 (e1 .nil)))))))))))))))))))
    ·refine ai (fun h7=>?_) (fun h8=>?_)
     ·refine dchk (by kernel_rfl) ?_;(repeat ((first|refine ai rfl ?_|refine ai (fun _=>rfl) ?_)));obtain rfl:=foll hR (cf h4 (cf h6 (ct h7 rfl)));exact Q00 (Cmd.low _ _) (Seen.agg (e1 (e1 (e1 (e1 (e1 (e1 (ev (Qs0) (e1 (e1 (e1 (e1 (e1 (e1 (e1 (ev (Qs0) (e1 (e1 (e1 .nil)))))))))))))))))))
     ·refine QY0 (fun (i1:Bool)=>Qk6 c i1=R) (fun i1=>[(1,AVal.ptr 0 0 18 0 0),(2,AVal.ptr 1 0 18 0 0),(3,AVal.ptr 2 0 18 0 0),(8,I c.kind),(66,Bo i1)]) (fun i1=>[(0,AObj.row 119 18 [[I c.kind,I c.job,Sg c.name,Sg c.user,Sg c.account,I c.shape.kind,altL c.shape.alts,I c.shape.min,I c.shape.max,I c.shape.wall,I c.prio,Bo c.hasPrio,I c.time,Bo c.hasTime,depL c.after,I c.node,I c.nodes,I c.from_]]),(0,AObj.row 119 18 [[I 0,I 0,Sg ⟨#[]⟩,Sg ⟨#[]⟩,Sg ⟨#[]⟩,I 0,AVal.lit (.slice none 0 0),I 0,I 0,I 0,I 0,Bo false,I 0,Bo false,AVal.lit (.slice none 0 0),I 0,I 0,I 0]]),(0,AObj.row 119 18 [[I c.kind,I 0,Sg ⟨#[]⟩,Sg ⟨#[]⟩,Sg ⟨#[]⟩,I 0,AVal.lit (.slice none 0 0),I 0,I 0,I 0,I 0,Bo false,I 0,Bo false,AVal.lit (.slice none 0 0),I 0,I 0,I 0]])]) ?_ ?_
      ·clear hR;rintro i1 hR;(try dsimp only at hR);refine ai (fun h9=>?_) (fun h10=>?_)
       ·obtain rfl:=foll hR (ct h9 rfl);exact Q00 (Cmd.low _ _) (Seen.agg (e1 (e1 (e1 (e1 (e1 (e1 (ev (Qs0) (e1 (e1 (e1 (e1 (e1 (e1 (e1 (ev (Qs0) (e1 (e1 (e1 .nil)))))))))))))))))))
       ·refine ai (fun h11=>?_) (fun h12=>?_)
        ·refine dchk (by kernel_rfl) ?_;(repeat ((first|refine ai rfl ?_|refine ai (fun _=>rfl) ?_)));obtain rfl:=foll hR (cf h10 (ct h11 rfl));exact Q00 (Cmd.low _ _) (Seen.agg (e1 (e1 (e1 (e1 (e1 (e1 (ev (Qs0) (e1 (e1 (e1 (e1 (e1 (e1 (e1 (ev (Qs0) (e1 (e1 (e1 .nil)))))))))))))))))))
        ·obtain rfl:=foll hR (cf h10 (cf h12 rfl));exact Q00 (Cmd.low _ _) (Seen.agg (e1 (e1 (e1 (e1 (e1 (e1 (ev (Qs0) (e1 (e1 (e1 (e1 (e1 (e1 (e1 (ev (Qs0) (e1 (e1 (e1 .nil)))))))))))))))))))
      ·refine ai (fun h13=>?_) (fun h14=>?_)
       ·exact Q70 (c.kind==7) (wk [0,1,2] (tO rfl (ts Cmd.lo) (tO rfl (ts (l1 (l1 (l1 (l1 (l1 (l1 (l1 (l1 (l1 (l1 (l1 (l1 (l1 (l1 (l1 (l1 (l1 (l1 LowL.nil))))))))))))))))))) (tO rfl (ts (l1 (l1 (l1 (l1 (l1 (l1 (l1 (l1 (l1 (l1 (l1 (l1 (l1 (l1 (l1 (l1 (l1 (l1 LowL.nil))))))))))))))))))) .nil))) (sv (Q10 0 rfl rfl) (sv (Q10 1 rfl rfl) (sv (Q10 2 rfl rfl) (s1 (s1 .nil)))))) (foll hR (cf h4 (cf h6 (cf h8 (ct h13 rfl)))))
       ·refine ai (fun h15=>?_) (fun h16=>?_)
        ·exact Q70 (c.kind==8) (wk [0,1,2] (tO rfl (ts Cmd.lo) (tO rfl (ts (l1 (l1 (l1 (l1 (l1 (l1 (l1 (l1 (l1 (l1 (l1 (l1 (l1 (l1 (l1 (l1 (l1 (l1 LowL.nil))))))))))))))))))) (tO rfl (ts (l1 (l1 (l1 (l1 (l1 (l1 (l1 (l1 (l1 (l1 (l1 (l1 (l1 (l1 (l1 (l1 (l1 (l1 LowL.nil))))))))))))))))))) .nil))) (sv (Q10 0 rfl rfl) (sv (Q10 1 rfl rfl) (sv (Q10 2 rfl rfl) (s1 (s1 .nil)))))) (foll hR (cf h4 (cf h6 (cf h8 (cf h14 (ct h15 rfl))))))
        ·exact Q70 (c.kind==9) (wk [0,1,2] (tO rfl (ts Cmd.lo) (tO rfl (ts (l1 (l1 (l1 (l1 (l1 (l1 (l1 (l1 (l1 (l1 (l1 (l1 (l1 (l1 (l1 (l1 (l1 (l1 LowL.nil))))))))))))))))))) (tO rfl (ts (l1 (l1 (l1 (l1 (l1 (l1 (l1 (l1 (l1 (l1 (l1 (l1 (l1 (l1 (l1 (l1 (l1 (l1 LowL.nil))))))))))))))))))) .nil))) (sv (Q10 0 rfl rfl) (sv (Q10 1 rfl rfl) (sv (Q10 2 rfl rfl) (s1 (s1 .nil)))))) (foll hR (cf h4 (cf h6 (cf h8 (cf h14 (cf h16 rfl))))))
  ·refine ai (fun h17=>?_) (fun h18=>?_)
   ·exact Q70 (c.kind==2) (wk [0,1,2] (tO rfl (ts Cmd.lo) (tO rfl (ts (l1 (l1 (l1 (l1 (l1 (l1 (l1 (l1 (l1 (l1 (l1 (l1 (l1 (l1 (l1 (l1 (l1 (l1 LowL.nil))))))))))))))))))) (tO rfl (ts (l1 (l1 (l1 (l1 (l1 (l1 (l1 (l1 (l1 (l1 (l1 (l1 (l1 (l1 (l1 (l1 (l1 (l1 LowL.nil))))))))))))))))))) .nil))) (sv (Q10 0 rfl rfl) (sv (Q10 1 rfl rfl) (sv (Q10 2 rfl rfl) (s1 (s1 .nil)))))) (foll hR (cf h2 (ct h17 rfl)))
   ·refine ai (fun h19=>?_) (fun h20=>?_)
    ·exact Q70 (c.kind==3) (wk [0,1,2] (tO rfl (ts Cmd.lo) (tO rfl (ts (l1 (l1 (l1 (l1 (l1 (l1 (l1 (l1 (l1 (l1 (l1 (l1 (l1 (l1 (l1 (l1 (l1 (l1 LowL.nil))))))))))))))))))) (tO rfl (ts (l1 (l1 (l1 (l1 (l1 (l1 (l1 (l1 (l1 (l1 (l1 (l1 (l1 (l1 (l1 (l1 (l1 (l1 LowL.nil))))))))))))))))))) .nil))) (sv (Q10 0 rfl rfl) (sv (Q10 1 rfl rfl) (sv (Q10 2 rfl rfl) (s1 (s1 .nil)))))) (foll hR (cf h2 (cf h18 (ct h19 rfl))))
    ·refine ai (fun h21=>?_) (fun h22=>?_)
     ·exact Q70 (c.kind==4) (wk [0,1,2] (tO rfl (ts Cmd.lo) (tO rfl (ts (l1 (l1 (l1 (l1 (l1 (l1 (l1 (l1 (l1 (l1 (l1 (l1 (l1 (l1 (l1 (l1 (l1 (l1 LowL.nil))))))))))))))))))) (tO rfl (ts (l1 (l1 (l1 (l1 (l1 (l1 (l1 (l1 (l1 (l1 (l1 (l1 (l1 (l1 (l1 (l1 (l1 (l1 LowL.nil))))))))))))))))))) .nil))) (sv (Q10 0 rfl rfl) (sv (Q10 1 rfl rfl) (sv (Q10 2 rfl rfl) (s1 (s1 .nil)))))) (foll hR (cf h2 (cf h18 (cf h20 (ct h21 rfl)))))
     ·refine ai (fun h23=>?_) (fun h24=>?_)
      ·exact Q70 (c.kind==11) (wk [0,1,2] (tO rfl (ts Cmd.lo) (tO rfl (ts (l1 (l1 (l1 (l1 (l1 (l1 (l1 (l1 (l1 (l1 (l1 (l1 (l1 (l1 (l1 (l1 (l1 (l1 LowL.nil))))))))))))))))))) (tO rfl (ts (l1 (l1 (l1 (l1 (l1 (l1 (l1 (l1 (l1 (l1 (l1 (l1 (l1 (l1 (l1 (l1 (l1 (l1 LowL.nil))))))))))))))))))) .nil))) (sv (Q10 0 rfl rfl) (sv (Q10 1 rfl rfl) (sv (Q10 2 rfl rfl) (s1 (s1 .nil)))))) (foll hR (cf h2 (cf h18 (cf h20 (cf h22 (ct h23 rfl))))))
      ·exact Q70 (c.kind==12) (wk [0,1,2] (tO rfl (ts Cmd.lo) (tO rfl (ts (l1 (l1 (l1 (l1 (l1 (l1 (l1 (l1 (l1 (l1 (l1 (l1 (l1 (l1 (l1 (l1 (l1 (l1 LowL.nil))))))))))))))))))) (tO rfl (ts (l1 (l1 (l1 (l1 (l1 (l1 (l1 (l1 (l1 (l1 (l1 (l1 (l1 (l1 (l1 (l1 (l1 (l1 LowL.nil))))))))))))))))))) .nil))) (sv (Q10 0 rfl rfl) (sv (Q10 1 rfl rfl) (sv (Q10 2 rfl rfl) (s1 (s1 .nil)))))) (foll hR (cf h2 (cf h18 (cf h20 (cf h22 (cf h24 rfl))))))
theorem Q5a (c:Cmd) (b:Bool):(Qk6 c b).sz:=by
 cases b <;> simp only [Qk6,cond_true,cond_false]
 ·cases (c.kind==10) <;> simp [Cmd.sz,Cmd.szN,Shape.szN,Shape.zero,ByteArray.size]
 ·simp [Cmd.sz,Cmd.szN,Shape.szN,Shape.zero,ByteArray.size]
theorem QB6 (c:Cmd) (b:Bool):(QR4 c b).sz:=by
 cases b <;> simp only [QR4,cond_true,cond_false]
 ·cases (c.kind==5) <;> simp only [cond_true,cond_false]
  ·cases (c.kind==6) <;> simp only [cond_true,cond_false]
   ·cases (c.kind==7) <;> simp only [cond_true,cond_false]
    ·cases (c.kind==8) <;> simp only [cond_true,cond_false] <;> exact Q5a _ _
    ·exact Q5a _ _
   ·simp [Cmd.sz,Cmd.szN,Shape.szN,Shape.zero,ByteArray.size]
  ·simp [Cmd.sz,Cmd.szN,Shape.szN,Shape.zero,ByteArray.size]
 ·simp [Cmd.sz,Cmd.szN,Shape.szN,Shape.zero,ByteArray.size]
theorem cmd_bare_sz (c:Cmd) (h:c.sz):(QP7 c).sz:=by
 unfold QP7
 cases (c.kind==1) <;> simp only [cond_true,cond_false]
 ·cases (c.kind==2) <;> simp only [cond_true,cond_false]
  ·cases (c.kind==3) <;> simp only [cond_true,cond_false]
   ·cases (c.kind==4) <;> simp only [cond_true,cond_false]
    ·cases (c.kind==11) <;> simp only [cond_true,cond_false] <;> exact QB6 _ _
    ·exact QB6 _ _
   ·exact QB6 _ _
  ·exact QB6 _ _
 ·exact h
def Qy1 (v:Job):Cmd:=(⟨1,0,v.name,v.user,v.account,v.shape,v.prio,true,0,false,v.after,0,0,0⟩:Cmd)
theorem QO6 (v:Job):GV 75 [Job.a v] (Cmd.a (Qy1 v)):=by
 generalize hR:Qy1 v=R;refine ga (.cons (Job.low _ _) .nil) (Cmd.low _ _) (kp 3 []) Tryz.func75 ?_;obtain rfl:=foll hR rfl;exact Q00 (Cmd.low _ _) sr
theorem Qg6 (l:List Alt) (hs0:l.length<=4294967296):GV 139 [altL l] (altL l):=by
 refine AGives.any' (.cons lw .nil) lw (ACalls.of_cwp (fun _=>true) Tryz.func139 rfl rfl ?_)
 obtain z1:l.length<=4294967296:=hs0
 intro b hb
 refine ai (fun h1=>?_) (fun h2=>?_)
 ·have hl:l=[]:=by
   rcases l with _|⟨x,r⟩
   ·rfl
   ·exact absurd ((hb (by simp)).symm.trans h1) (by decide)
  subst hl
  exact Q1d (fun r:List Alt=>altL r) (leaf:=[]) rfl lw Qs0
 ·refine ⟨Qd1 16 rfl apA,?_⟩
  exact Q1d (fun r:List Alt=>altL r) (leaf:=l) rfl lw (Ql1 Alt.zero _ rfl eqA lnA)
theorem Qvb (l:List Alt) (hs0:l.length<=4294967296):AMoves Tryz.prog 139 [altL l] [] 0 (AVal.own 0 0 2 0 l.length) [(0,AObj.row 179 2 (l.map Alt.cells))]:=by
 refine AMoves.of_cwp (fun _=>true) Tryz.func139 rfl rfl rfl ?_
 obtain z1:l.length<=4294967296:=hs0
 intro b hb
 refine ai (fun h1=>?_) (fun h2=>?_)
 ·have hl:l=[]:=by
   rcases l with _|⟨x,r⟩
   ·rfl
   ·exact absurd ((hb (by simp)).symm.trans h1) (by decide)
  subst hl
  refine Qm0 (fun r:List Alt=>AVal.own 0 0 2 0 r.length) (fun r:List Alt=>[(0,AObj.row 179 2 (r.map Alt.cells))]) (leaf:=[]) rfl ?_
  exact Told.pad 179 2 (QP4 [0] rfl (by decide) (tO rfl (tl eqA) .nil) (Qj1 0 rfl))
 ·refine ⟨Qd1 16 rfl apA,?_⟩
  refine Qm0 (fun r:List Alt=>AVal.own 0 0 2 0 r.length) (fun r:List Alt=>[(0,AObj.row 179 2 (r.map Alt.cells))]) (leaf:=l) rfl ?_
  exact QP4 [0] rfl (by decide) (tO rfl (tl eqA) .nil) (to 0 lnA)
def oc1 (x_:Int):Int:=(wu64 ((wu64 (BitVec.ofInt 64 (Int.fdiv x_ (2 ^ (min (Int.toNat 1) 64))) &&& BitVec.ofInt 64 6148914691236517205).toNat)+(wu64 (BitVec.ofInt 64 x_ &&& BitVec.ofInt 64 6148914691236517205).toNat)))
def oc2 (x_:Int):Int:=(wu64 ((wu64 (BitVec.ofInt 64 (Int.fdiv x_ (2 ^ (min (Int.toNat 2) 64))) &&& BitVec.ofInt 64 3689348814741910323).toNat)+(wu64 (BitVec.ofInt 64 x_ &&& BitVec.ofInt 64 3689348814741910323).toNat)))
def oc3 (x_:Int):Int:=(wu64 (BitVec.ofInt 64 (wu64 ((Int.fdiv x_ (2 ^ (min (Int.toNat 4) 64)))+x_)) &&& BitVec.ofInt 64 1085102592571150095).toNat)
def Qv5 (x_:Int):Int:=(w64 (BitVec.ofInt 64 (w64 (wu64 ((wu64 ((wu64 ((oc3 (oc2 (oc1 x_)))+(Int.fdiv (oc3 (oc2 (oc1 x_))) (2 ^ (min (Int.toNat 8) 64)))))+(Int.fdiv (wu64 ((oc3 (oc2 (oc1 x_)))+(Int.fdiv (oc3 (oc2 (oc1 x_))) (2 ^ (min (Int.toNat 8) 64))))) (2 ^ (min (Int.toNat 16) 64)))))+(Int.fdiv (wu64 ((wu64 ((oc3 (oc2 (oc1 x_)))+(Int.fdiv (oc3 (oc2 (oc1 x_))) (2 ^ (min (Int.toNat 8) 64)))))+(Int.fdiv (wu64 ((oc3 (oc2 (oc1 x_)))+(Int.fdiv (oc3 (oc2 (oc1 x_))) (2 ^ (min (Int.toNat 8) 64))))) (2 ^ (min (Int.toNat 16) 64))))) (2 ^ (min (Int.toNat 32) 64)))))) &&& BitVec.ofInt 64 127).toNat)
theorem QHa (x_:Int):GV 130 [U x_] (I (Qv5 x_)):=by
 generalize hR:Qv5 x_=R;refine ga (l1 .nil) lx (kp 3 []) Tryz.func130 ?_;refine ai gkA ?_;refine ai gkA ?_;refine ai gkA ?_;refine ai gkA ?_;refine ai gkA ?_;refine ai gkA ?_;obtain rfl:=foll hR rfl;exact Q00 lx sr
def QL2 (n:Int):Int:=(wu64 (1*2 ^ (min (Int.toNat (wu64 n)) 64)))
theorem QJ8 (n:Int):GV 123 [I n] (U (QL2 n)):=by
 generalize hR:QL2 n=R;refine ga (l1 .nil) lx (kp 3 []) Tryz.func123 ?_;refine ai gkA ?_;obtain rfl:=foll hR rfl;exact Q00 lx sr
def Qy7 (state:Int):Bool:=((decide (state >= 3))&&(decide (state<=7)))
theorem job_ended_c (state:Int):GV 80 [I state] (Bo (Qy7 state)):=by
 generalize hR:Qy7 state=R;refine ga (l1 .nil) lx (kp 3 []) Tryz.func80 ?_;obtain rfl:=foll hR rfl;exact Q00 lx sr
def Qi8 (b:Book):Bool:=(((((((decide (b.id >= 1))&&(decide (b.id<=99999)))&&(decide (b.from_ >= 0)))&&(decide (b.to > b.from_)))&&(decide (b.to<=1000000)))&&(decide (b.nodes >= 1)))&&(decide (b.nodes<=48)))
theorem Qcd (b:Book):GV 244 [Book.a b] (Bo (Qi8 b)):=by
 generalize hR:Qi8 b=R;refine ga (.cons (Book.low _ _) .nil) lx (kp 3 []) Tryz.func244 ?_;obtain rfl:=foll hR rfl;exact Q00 lx sr
def QE5 (s:ByteArray):Bool:=((decide ((ByteArray.size s:Int) >= 1))&&(decide ((ByteArray.size s:Int)<=64)))
theorem Q77 (s:ByteArray):GV 158 [Sg s] (Bo (QE5 s)):=by
 generalize hR:QE5 s=R;refine ga (l1 .nil) lx (kp 3 []) Tryz.func158 ?_;obtain rfl:=foll hR rfl;exact Q00 lx sr
def QA8 :List Int->Nat->Int
 | [],_=>0
 | x_ :: r,i=>bif (x_ != 0) then x_ else QA8 r (i+1)
def QL9 (vals:List Int):Int:=QA8 vals 0
theorem Qac (vals:List Int) (hs0:vals.length<=4294967296):GV 245 [ints vals] (I (QL9 vals)):=by
 generalize hR:QL9 vals=R;refine ga (.cons lw .nil) lx (kp 6 [6,7,8,9,14]) Tryz.func245 ?_;have hk0:=hs0;obtain z5:vals.length<=4294967296:=hs0;refine Qc0 (fun (i:Nat)=>QA8 (List.drop i vals) i=R∧i<=vals.length) (fun i=>vals.length - i) (fun i=>[(2,I 0),(3,I 0),(6,ints vals),(7,I (vals.length:Int)),(8,I (i:Int))]) (fun i=>[]) 0 (wk [] .nil (s1 (s1 (sl lw (s1 (s1 .nil)))))) ⟨foll hR rfl,by exact omA⟩ ?_;clear hR;rintro i ⟨hR,hj⟩;(try dsimp only at hR hj);refine ai (fun h1=>?_) (fun h2=>?_)
 ·have hlt:=ltA h1;rw [Q90 0 hlt] at hR;refine ai gkA ?_;refine ai (fun h3=>?_) (fun h4=>?_)
  ·obtain rfl:=foll hR (ct h3 rfl);exact Q00 lx sr
  ·exact Qi0 (i+1) (wk [] .nil (s1 (s1 (sl lw (s1 (sv (Q80 (I_eq (wr omA)) lx) .nil)))))) omA ⟨foll hR (cf h4 rfl),by exact omA⟩
 ·rw [Qf0 (l:=vals) (j:=i) (geA h2)] at hR;obtain rfl:=foll hR rfl;exact Q00 lx sr
end Go.Proofs.YtcbolcknapeneaaGreatDoor
namespace Go.Proofs.YtcbolcknapeneaaGreatDoor
set_option linter.unusedSimpArgs false
set_option linter.unusedVariables false
open Go.Fw
set_option maxRecDepth 20000
set_option maxHeartbeats 4000000
attribute [local irreducible] ACalls AMoves
def Qm3 (x_:ByteArray):Bool:=(!(ByteArray.toList x_==ByteArray.toList x_))
theorem QQ7 (x_:ByteArray):GV 305 [Sg x_] (Bo (Qm3 x_)):=by
 generalize hR:Qm3 x_=R;refine ga (l1 .nil) lx (kp 3 []) Tryz.func305 ?_;obtain rfl:=foll hR rfl;exact Q00 lx sr
def Qh7 (n:Int) (from_:Int) (to_:Int):Bool:=((decide (n >= from_))&&(decide (n<=to_)))
theorem Qb9 (n:Int) (from_:Int) (to_:Int):GV 183 [I n,I from_,I to_] (Bo (Qh7 n from_ to_)):=by
 generalize hR:Qh7 n from_ to_=R;refine ga (l1 (l1 (l1 .nil))) lx (kp 7 []) Tryz.func183 ?_;obtain rfl:=foll hR rfl;exact Q00 lx sr
def Qo2 (n:Int):Bool:=((decide (n >= (-1000000)))&&(decide (n<=1000000)))
theorem Q98 (n:Int):GV 235 [I n] (Bo (Qo2 n)):=by
 generalize hR:Qo2 n=R;refine ga (l1 .nil) lx (kp 3 []) Tryz.func235 ?_;obtain rfl:=foll hR rfl;exact Q00 lx sr
def Qv2 (t:Int):Bool:=((decide (t >= 0))&&(decide (t<=1000000)))
theorem Qtc (t:Int):GV 149 [I t] (Bo (Qv2 t)):=by
 generalize hR:Qv2 t=R;refine ga (l1 .nil) lx (kp 3 []) Tryz.func149 ?_;obtain rfl:=foll hR rfl;exact Q00 lx sr
theorem Qjb {t n:Int} {b:Bool} (h:(((!(Qv2 t))||(decide (n<t)))||b)=false):0<=t:=by
 simp [Qv2] at h
 omega
def QW0 (f:Int->Bool):Nat->Int->Int->Int × Int
 | 0,_,_=>(0,0)
 | m+1,i,j=>bif (decide (i<j)) then bif (!(f (w64 (Int.fdiv (wu64 (w64 (i+j))) (2 ^ (min (Int.toNat 1) 64)))))) then QW0 f m (w64 ((w64 (Int.fdiv (wu64 (w64 (i+j))) (2 ^ (min (Int.toNat 1) 64))))+1)) j else QW0 f m i (w64 (Int.fdiv (wu64 (w64 (i+j))) (2 ^ (min (Int.toNat 1) 64)))) else (i,j)
def QN4 (i:Int) (j:Int):Int:=i
def Qs1 (n:Int) (f:Int->Bool):Int:=QN4 ((QW0 f ((Int.toNat (n - 0))+1) 0 n).1) ((QW0 f ((Int.toNat (n - 0))+1) 0 n).2)
theorem Qf8 (f:Int->Bool) {N:Nat} (hN:N<=4294967296):∀ (m:Nat) (i j:Int),0<=i->i<=j->j<=N->Int.toNat (j - i)<m->i<=(QW0 f m i j).1∧(QW0 f m i j).1<=j∧(i<(QW0 f m i j).1->f ((QW0 f m i j).1 - 1)=false)∧((QW0 f m i j).1<j->f (QW0 f m i j).1=true)
 | 0,_,_,_,_,_,hm=>absurd hm (Nat.not_lt_zero _)
 | m+1,i,j,h0,hij,hj,hm=>by
  unfold QW0
  cases hc:decide (i<j) with
  | false =>
   have:=of_decide_eq_false hc
   simp only [cond_false]
   exact ⟨Int.le_refl _,by omega,fun h=>absurd h (by omega),fun h=>absurd h (by omega)⟩
  | true =>
   have hlt:=of_decide_eq_true hc
   have hh:w64 (Int.fdiv (wu64 (w64 (i+j))) (2 ^ (min (Int.toNat 1) 64)))=(i+j) / 2:=QCd h0 hlt hj (by omega)
   have hw:w64 ((i+j) / 2+1)=(i+j) / 2+1:=wr (by omega)
   simp only [cond_true,hh,hw]
   cases hf:f ((i+j) / 2) with
   | false =>
    simp only [Bool.not_false,cond_true]
    obtain ⟨a,b,c,d⟩:=Qf8 f hN m ((i+j) / 2+1) j (by omega) (by omega) hj (by omega)
    refine ⟨by omega,b,fun _=>?_,d⟩
    by_cases h:(i+j) / 2+1<(QW0 f m ((i+j) / 2+1) j).1
    ·exact c h
    ·rw [show (QW0 f m ((i+j) / 2+1) j).1 - 1=(i+j) / 2 by omega]
     exact hf
   | true =>
    simp only [Bool.not_true,cond_false]
    obtain ⟨a,b,c,d⟩:=Qf8 f hN m i ((i+j) / 2) h0 (by omega) (by omega) (by omega)
    refine ⟨a,by omega,c,fun h=>?_⟩
    by_cases h2:(QW0 f m i ((i+j) / 2)).1<(i+j) / 2
    ·exact d h2
    ·rw [show (QW0 f m i ((i+j) / 2)).1=(i+j) / 2 by omega]
     exact hf
theorem Q59 (f:Int->Bool) {N:Nat} (hN:N<=4294967296):0<=Qs1 (N:Int) f∧Qs1 (N:Int) f<=N∧(0<Qs1 (N:Int) f->f (Qs1 (N:Int) f - 1)=false)∧(Qs1 (N:Int) f<N->f (Qs1 (N:Int) f)=true) :=
 Qf8 f hN _ 0 N (Int.le_refl _) (by omega) (Int.le_refl _) (by omega)
theorem Qya (l:List Step) (hs0:l.length<=4294967296):AMoves Tryz.prog 248 [stepL l] [] 0 (AVal.own 0 0 2 0 l.length) [(0,AObj.row 198 2 (l.map Step.cells))]:=by
 refine AMoves.of_cwp (fun _=>true) Tryz.func248 rfl rfl rfl ?_
 obtain z6:l.length<=4294967296:=hs0
 intro b hb
 refine ai (fun h1=>?_) (fun h2=>?_)
 ·have hl:l=[]:=by
   rcases l with _|⟨x,r⟩
   ·rfl
   ·exact absurd ((hb (by simp)).symm.trans h1) (by decide)
  subst hl
  refine Qm0 (fun r:List Step=>AVal.own 0 0 2 0 r.length) (fun r:List Step=>[(0,AObj.row 198 2 (r.map Step.cells))]) (leaf:=[]) rfl ?_
  exact Told.pad 198 2 (QP4 [0] rfl (by decide) (tO rfl (tl eqA) .nil) (Qj1 0 rfl))
 ·refine ⟨Qd1 16 rfl apA,?_⟩
  refine Qm0 (fun r:List Step=>AVal.own 0 0 2 0 r.length) (fun r:List Step=>[(0,AObj.row 198 2 (r.map Step.cells))]) (leaf:=l) rfl ?_
  exact QP4 [0] rfl (by decide) (tO rfl (tl eqA) .nil) (to 0 lnA)
def QR0 (at_:Int) (free:Int) (out:List Step):List Step:=bif (((out.length:Int)==0)||((out.getD (Int.toNat (w64 ((out.length:Int) - 1))) Step.zero).free != free)) then (out++([(⟨at_,free⟩:Step)]:List Step)) else out
theorem Qr3 (at_:Int) (free:Int) (out:List Step) (hs0:out.length<=4294967296):AMoves Tryz.prog 249 [I at_,I free,AVal.ptr 0 0 1 0 0] [(0,AObj.row 85 1 [[AVal.own 1 0 2 0 out.length]]),(0,AObj.row 198 2 (out.map Step.cells))] 1 (AVal.tup []) [(0,AObj.row 85 1 [[AVal.own 1 0 2 0 (QR0 at_ free out).length]]),(0,AObj.row 198 2 ((QR0 at_ free out).map Step.cells))]:=by
 generalize hR:QR0 at_ free out=R;refine mo (kp 6 [19]) Tryz.func249 ?_;have hk0:=hs0;obtain z3:out.length<=4294967296:=hs0;refine ai gkA ?_;refine ⟨_,fun hg=>QL1 rfl rfl rfl (QV1 Step.zero (Int.toNat (w64 ((out.length:Int) - 1))) (by first|rfl|exact Nat.zero_add _|omega) ckA) rfl,?_⟩;refine ai (fun h1=>?_) (fun h2=>?_)
 ·refine Or.inl ?_;(first|refine ⟨Qa2 16 rfl lnA apA,?_⟩|refine ⟨Qd1 16 rfl apA,?_⟩);obtain rfl:=foll hR (ct h1 rfl);exact rq (tt [0,1] (tO rfl (Qd0 (cv (to 1 lnA) .nil)) (tO rfl (tl eqA) .nil)) t1)
 ·obtain rfl:=foll hR (cf h2 rfl);exact rq (tt [0,1] (tO rfl (Qd0 (cv (to 1 lnA) .nil)) (tO rfl (tl eqA) .nil)) t1)
theorem QD3 (a f:Int) (out:List Step):(QR0 a f out).length<=out.length+1:=by
 unfold QR0
 cases (((out.length:Int)==0)||((out.getD (Int.toNat (w64 ((out.length:Int) - 1))) Step.zero).free != f)) with
 | true=>simp
 | false=>simp
def Qn2 (n:Int):(List Step):=([(⟨0,(min (max n (-1000000)) 1000000)⟩:Step)]:List Step)
theorem profile_Flat_c (n:Int):GV 209 [I n] (stepL (Qn2 n)):=by
 generalize hR:Qn2 n=R;refine ga (l1 .nil) lw (kp 3 []) Tryz.func209 ?_;refine Or.inl ?_;obtain rfl:=foll hR rfl;exact Q00 lw (seen_as (Qf4 (c:=Step.cells) (d:=Step.zero) ([(⟨0,(min (max n (-1000000)) 1000000)⟩:Step)]:List Step) rfl))
def QT1 :List Job->Nat->List (Int × Int)->(List (Int × Int))
 | [],_,c=>c
 | x_ :: r,i,c=>bif (x_.state==2) then QT1 r (i+1) (setM x_.id x_.limit c) else QT1 r (i+1) c
def QK4 (c:List (Int × Int)):(List (Int × Int)):=c
def Qp0 (l:List Job):(List (Int × Int)):=QK4 (QT1 l 0 [])
theorem room_limits_o (l:List Job) (hs0:l.length<=4294967296∧(∀ y ∈ l,y.sz)):AMoves Tryz.prog 211 [jobL l] [] 0 (AVal.map 0) [(0,AObj.other (.map (mapEs ik I 0 (Qp0 l)) (Qp0 l).length))]:=by
 generalize hR:Qp0 l=R;refine mo (kp 6 [7,8,9,10,15]) Tryz.func211 ?_;obtain ⟨z10,z11⟩:=id hs0;refine Qh0 (fun (i:Nat) (c:List (Int × Int))=>QK4 (QT1 (List.drop i l) i c)=R∧i<=l.length) (fun i c=>l.length - i) (fun i c=>[(2,AVal.lit (.map none)),(3,AVal.map 0),(7,jobL l),(8,I (l.length:Int)),(9,I (i:Int))]) (fun i c=>[(0,AObj.other (.map (mapEs ik I 0 c) c.length))]) 0 [] (wk [0] (tO rfl (QE0 _ rfl rfl (fun _=>lx)) .nil) (s1 (sv (Qj2 0 rfl rfl) (sl lw (s1 (s1 .nil)))))) ⟨foll hR rfl,by exact omA⟩ ?_;clear hR;rintro i c ⟨hR,hj⟩;(try dsimp only at hR hj);refine ai (fun h1=>?_) (fun h2=>?_)
 ·have hlt:=ltA h1;rw [Q90 Job.zero hlt] at hR;have hxz:(l.getD i Job.zero).sz:=Qy0 (by first|assumption|grind) (Job.szz _);have hkz:=hxz;obtain ⟨z3,z4,z5,z6,z7⟩:=Job.zz hxz;refine ai gkA ?_;refine ai (fun h8=>?_) (fun h9=>?_)
  ·refine ⟨_,_,Qr2 rfl _ _,Qkb (ek:=ik) ((l.getD i Job.zero).id) ((l.getD i Job.zero).limit) c rfl rfl,?_⟩;exact Q60 (i+1) (setM (l.getD i Job.zero).id (l.getD i Job.zero).limit c) (wk [0] (tO rfl (QE0 _ rfl rfl (fun _=>lx)) .nil) (s1 (sv (Qj2 0 rfl rfl) (sl lw (s1 (sv (Q80 (I_eq (wr omA)) lx) .nil)))))) omA ⟨foll hR (congrArg (fun p:(List (Int × Int))=>QK4 p) (ct h8 rfl)),by exact omA⟩
  ·exact Q60 (i+1) c (wk [0] (tO rfl (QE0 _ rfl rfl (fun _=>lx)) .nil) (s1 (sv (Qj2 0 rfl rfl) (sl lw (s1 (sv (Q80 (I_eq (wr omA)) lx) .nil)))))) omA ⟨foll hR (congrArg (fun p:(List (Int × Int))=>QK4 p) (cf h9 rfl)),by exact omA⟩
 ·rw [Qf0 (l:=l) (j:=i) (geA h2)] at hR;replace hR:QK4 c=R:=fo2 (fun p:(List (Int × Int))=>QK4 p) (c) hR rfl;obtain rfl:=foll hR rfl;exact rq (tt [0] (tO rfl (QE0 _ rfl rfl (fun _=>lx)) .nil) (Qj2 0 rfl rfl))
def QG0 (x_:Node) (limits:List (Int × Int)):Int:=bif (((x_.state==0)||(x_.state==4))||x_.drain) then 0 else bif (x_.state==3) then (w64 (x_.since+12)) else bif (!(getM x_.job limits).isSome) then 1000001 else (w64 (((getM x_.job limits).getD 0)+12))
theorem room_until_c (x_:Node) (limits:List (Int × Int)):AMoves Tryz.prog 212 [Node.a x_,AVal.map 0] [(0,AObj.other (.map (mapEs ik I 0 limits) limits.length))] 1 (I (QG0 x_ limits)) [(0,AObj.other (.map (mapEs ik I 0 limits) limits.length))]:=by
 generalize hR:QG0 x_ limits=R;refine mo (kp 7 [7,20,35]) Tryz.func212 ?_;refine ai (fun h1=>?_) (fun h2=>?_)
 ·obtain rfl:=foll hR (ct h1 rfl);exact rq (tt [0] (tO rfl (QE0 _ rfl rfl (fun _=>lx)) .nil) t1)
 ·refine ai (fun h3=>?_) (fun h4=>?_)
  ·obtain rfl:=foll hR (cf h2 (ct h3 rfl));exact rq (tt [0] (tO rfl (QE0 _ rfl rfl (fun _=>lx)) .nil) t1)
  ·(first|refine ⟨_,_,Qr2 rfl _ _,Qh1 (ek:=ik) x_.job limits 0 (AsA.refl _),?_⟩|refine ⟨_,fun _=>⟨_,_,Qr2 rfl _ _,Qh1 (ek:=ik) x_.job limits 0 (AsA.refl _),rfl,rfl⟩,?_⟩|refine ⟨_,rfl,⟨_,_,Qr2 rfl _ _,Qh1 (ek:=ik) x_.job limits 0 (AsA.refl _),Sub.refl _,rfl⟩,?_⟩);refine ai (fun h5=>?_) (fun h6=>?_)
   ·obtain rfl:=foll hR (cf h2 (cf h4 (ct h5 rfl)));exact rq (tt [0] (tO rfl (QE0 _ rfl rfl (fun _=>lx)) .nil) t1)
   ·obtain rfl:=foll hR (cf h2 (cf h4 (cf h6 rfl)));exact rq (tt [0] (tO rfl (QE0 _ rfl rfl (fun _=>lx)) .nil) t1)
def Qt4 (f:Job->Bool):List Job->Nat->Int
 | [],_=>(-1)
 | x_ :: r,i=>bif (f x_) then (i:Int) else Qt4 f r (i+1)
def Qm2 (s:List Job) (f:Job->Bool):Int:=Qt4 f s 0
theorem Q38 (l:List Job) (hs0:l.length<=4294967296∧(∀ y ∈ l,y.sz)):AMoves Tryz.prog 160 [jobL l] [] 0 (AVal.own 0 0 20 0 l.length) [(0,AObj.row 35 20 (l.map Job.cells))]:=by
 refine AMoves.of_cwp (fun _=>true) Tryz.func160 rfl rfl rfl ?_
 obtain ⟨z24,z25⟩:=id hs0
 intro b hb
 refine ai (fun h1=>?_) (fun h2=>?_)
 ·have hl:l=[]:=by
   rcases l with _|⟨x,r⟩
   ·rfl
   ·exact absurd ((hb (by simp)).symm.trans h1) (by decide)
  subst hl
  refine Qm0 (fun r:List Job=>AVal.own 0 0 20 0 r.length) (fun r:List Job=>[(0,AObj.row 35 20 (r.map Job.cells))]) (leaf:=[]) rfl ?_
  exact Told.pad 35 20 (QP4 [0] rfl (by decide) (tO rfl (tl eqA) .nil) (Qj1 0 rfl))
 ·refine ⟨Qd1 216 rfl apA,?_⟩
  refine Qm0 (fun r:List Job=>AVal.own 0 0 20 0 r.length) (fun r:List Job=>[(0,AObj.row 35 20 (r.map Job.cells))]) (leaf:=l) rfl ?_
  exact QP4 [0] rfl (by decide) (tO rfl (tl eqA) .nil) (to 0 lnA)
theorem Qh6 (l:List Dep) (hs0:l.length<=4294967296):GV 161 [depL l] (depL l):=by
 refine AGives.any' (.cons lw .nil) lw (ACalls.of_cwp (fun _=>true) Tryz.func161 rfl rfl ?_)
 obtain z26:l.length<=4294967296:=hs0
 intro b hb
 refine ai (fun h1=>?_) (fun h2=>?_)
 ·have hl:l=[]:=by
   rcases l with _|⟨x,r⟩
   ·rfl
   ·exact absurd ((hb (by simp)).symm.trans h1) (by decide)
  subst hl
  exact Q1d (fun r:List Dep=>depL r) (leaf:=[]) rfl lw Qs0
 ·refine ⟨Qd1 16 rfl apA,?_⟩
  exact Q1d (fun r:List Dep=>depL r) (leaf:=l) rfl lw (Ql1 Dep.zero _ rfl eqA lnA)
def Qy3 (i:Bool):Int:=bif i then 1 else 2
def Q16 (s:List (Int × Int)) (d:Dep):Int:=bif (!(getM d.job s).isSome) then 2 else bif (decide (((getM d.job s).getD 0)<3)) then 0 else bif (d.how==1) then Qy3 (d.how==1) else bif ((d.how==2)&&(((getM d.job s).getD 0)==3)) then Qy3 ((d.how==2)&&(((getM d.job s).getD 0)==3)) else Qy3 ((d.how==3)&&(((getM d.job s).getD 0)!=3))
theorem QZ9 (s:List (Int × Int)) (d:Dep):AMoves Tryz.prog 169 [AVal.map 0,Dep.a d] [(0,AObj.other (.map (mapEs ik I 0 s) s.length))] 1 (I (Q16 s d)) [(0,AObj.other (.map (mapEs ik I 0 s) s.length))]:=by
 generalize hR:Q16 s d=R;refine mo (kj [1000009] 7 [14,17,20]) Tryz.func169 ?_;(first|refine ⟨_,_,Qr2 rfl _ _,Qh1 (ek:=ik) d.job s 0 (AsA.refl _),?_⟩|refine ⟨_,fun _=>⟨_,_,Qr2 rfl _ _,Qh1 (ek:=ik) d.job s 0 (AsA.refl _),rfl,rfl⟩,?_⟩|refine ⟨_,rfl,⟨_,_,Qr2 rfl _ _,Qh1 (ek:=ik) d.job s 0 (AsA.refl _),Sub.refl _,rfl⟩,?_⟩);refine ai (fun h1=>?_) (fun h2=>?_)
 ·obtain rfl:=foll hR (ct h1 rfl);exact rq (tt [0] (tO rfl (QE0 _ rfl rfl (fun _=>lx)) .nil) t1)
 ·refine ai (fun h3=>?_) (fun h4=>?_)
  ·have qh3:=of_decide_eq_true h3;obtain rfl:=foll hR (cf h2 (ct h3 rfl));exact rq (tt [0] (tO rfl (QE0 _ rfl rfl (fun _=>lx)) .nil) t1)
  ·have qh4:=of_decide_eq_false h4;refine QY0 (fun (i:Bool)=>Qy3 i=R) (fun i=>[(4,I 0),(20,Bo i)]) (fun i=>[(0,AObj.other (.map (mapEs ik I 0 s) s.length))]) ?_ ?_
   ·clear hR;rintro i hR;(try dsimp only at hR);refine ai (fun h5=>?_) (fun h6=>?_)
    ·obtain rfl:=foll hR (ct h5 rfl);exact rq (tt [0] (tO rfl (QE0 _ rfl rfl (fun _=>lx)) .nil) t1)
    ·obtain rfl:=foll hR (cf h6 rfl);exact rq (tt [0] (tO rfl (QE0 _ rfl rfl (fun _=>lx)) .nil) t1)
   ·refine ai (fun h7=>?_) (fun h8=>?_)
    ·exact Q70 (d.how==1) (wk [0] (tO rfl (QE0 _ rfl rfl (fun _=>lx)) .nil) (s1 (s1 .nil))) (foll hR (cf h2 (cf h4 (ct h7 rfl))))
    ·refine ai (fun h9=>?_) (fun h10=>?_)
     ·exact Q70 ((d.how==2)&&(((getM d.job s).getD 0)==3)) (wk [0] (tO rfl (QE0 _ rfl rfl (fun _=>lx)) .nil) (s1 (s1 .nil))) (foll hR (cf h2 (cf h4 (cf h8 (ct h9 rfl)))))
     ·exact Q70 ((d.how==3)&&(((getM d.job s).getD 0)!=3)) (wk [0] (tO rfl (QE0 _ rfl rfl (fun _=>lx)) .nil) (s1 (s1 .nil))) (foll hR (cf h2 (cf h4 (cf h8 (cf h10 rfl)))))
def QN7 (id_:Int):Bool:=((decide (id_ >= 1))&&(decide (id_<=99999)))
theorem table_known_c (id_:Int):GV 206 [I id_] (Bo (QN7 id_)):=by
 generalize hR:QN7 id_=R;refine ga (l1 .nil) lx (kp 3 []) Tryz.func206 ?_;obtain rfl:=foll hR rfl;exact Q00 lx sr
def Ql0 (x_:List Job) (target:Int) (cmp:Job->Int->Int):Nat->Int->Int->Int × Int
 | 0,_,_=>(0,0)
 | m+1,i,j=>bif (decide (i<j)) then bif (decide ((cmp (x_.getD (Int.toNat (w64 (Int.fdiv (wu64 (w64 (i+j))) (2 ^ (min (Int.toNat 1) 64))))) Job.zero) target)<0)) then Ql0 x_ target cmp m (w64 ((w64 (Int.fdiv (wu64 (w64 (i+j))) (2 ^ (min (Int.toNat 1) 64))))+1)) j else Ql0 x_ target cmp m i (w64 (Int.fdiv (wu64 (w64 (i+j))) (2 ^ (min (Int.toNat 1) 64)))) else (i,j)
def QP0 (x_:List Job) (target:Int) (cmp:Job->Int->Int) (i:Int) (j:Int):Int × Bool:=(i,((decide (i<(x_.length:Int)))&&((cmp (x_.getD (Int.toNat i) Job.zero) target)==0)))
def QC0 (x_:List Job) (target:Int) (cmp:Job->Int->Int):Int × Bool:=QP0 x_ target cmp ((Ql0 x_ target cmp ((Int.toNat ((x_.length:Int) - 0))+1) 0 (x_.length:Int)).1) ((Ql0 x_ target cmp ((Int.toNat ((x_.length:Int) - 0))+1) 0 (x_.length:Int)).2)
def QTc (l:List Job):(List Job):=l
theorem QBb (l:List Job) (hs0:l.length<=4294967296∧(∀ y ∈ l,y.sz)):AMoves Tryz.prog 289 [jobL l] [] 0 (AVal.own 0 0 20 0 l.length) [(0,AObj.row 35 20 (l.map Job.cells))]:=by
 generalize hR:QTc l=R;refine mo (kp 3 []) Tryz.func289 ?_;obtain ⟨z1,z2⟩:=id hs0;refine ai gkA ?_;(first|refine ⟨Qa2 216 rfl lnA apA,?_⟩|refine ⟨Qd1 216 rfl apA,?_⟩);obtain rfl:=foll hR rfl;exact rq (tt [0] (tO rfl (tl eqA) .nil) (to 0 lnA))
def QRc (l:List Alt):(List Alt):=l
theorem Qzb (l:List Alt) (hs0:l.length<=4294967296):GV 290 [altL l] (altL l):=by
 generalize hR:QRc l=R;refine ga (.cons lw .nil) lw (kp 3 []) Tryz.func290 ?_;have hk0:=hs0;obtain z1:l.length<=4294967296:=hs0;refine ai gkA ?_;(first|refine ⟨Qa2 16 rfl lnA apA,?_⟩|refine ⟨Qd1 16 rfl apA,?_⟩);obtain rfl:=foll hR rfl;exact Q00 lw (Ql1 Alt.zero _ rfl eqA lnA)
def QSc (l:List Dep):(List Dep):=l
theorem QAb (l:List Dep) (hs0:l.length<=4294967296):GV 291 [depL l] (depL l):=by
 generalize hR:QSc l=R;refine ga (.cons lw .nil) lw (kp 3 []) Tryz.func291 ?_;have hk0:=hs0;obtain z1:l.length<=4294967296:=hs0;refine ai gkA ?_;(first|refine ⟨Qa2 16 rfl lnA apA,?_⟩|refine ⟨Qd1 16 rfl apA,?_⟩);obtain rfl:=foll hR rfl;exact Q00 lw (Ql1 Dep.zero _ rfl eqA lnA)
def Q0d (ok:Bool):Int:=bif (!ok) then 141 else 0
theorem job_when_c (ok:Bool):GV 179 [Bo ok] (I (Q0d ok)):=by
 generalize hR:Q0d ok=R;refine ga (l1 .nil) lx (kp 3 [4]) Tryz.func179 ?_;refine ai (fun h1=>?_) (fun h2=>?_)
 ·obtain rfl:=foll hR (ct h1 rfl);exact Q00 lx sr
 ·obtain rfl:=foll hR (cf h2 rfl);exact Q00 lx sr
def law21_two :State:=(⟨5,(List.replicate 4 Node.zero),([(⟨1,⟨#[97]⟩,⟨#[117]⟩,⟨#[120]⟩,(⟨1,([(⟨3,10⟩:Alt)]:List Alt),0,0,0⟩:Shape),0,[],1,false,0,(-1),0,0,0,0,0⟩:Job),(⟨2,⟨#[97]⟩,⟨#[117]⟩,⟨#[120]⟩,(⟨1,([(⟨3,10⟩:Alt)]:List Alt),0,0,0⟩:Shape),0,[],1,false,0,(-1),0,0,0,0,0⟩:Job)]:List Job),[],[],[],0,0⟩:State)
theorem Qq6 :GV 45 [] (State.a law21_two):=by
 generalize hR:law21_two=R;refine ga .nil (State.low _ _) (kp 3 []) Tryz.func45 ?_;refine Or.inl ?_;refine dchk (by kernel_rfl) ?_;refine And.intro (mk_ok 56 rfl (by refine ⟨?_,?_,?_,?_⟩ <;> exact ckA)) ?_;(repeat ((first|refine ai rfl ?_|refine ai (fun _=>rfl) ?_)));obtain rfl:=foll hR rfl;exact Q00 (State.low _ _) (Seen.agg (e1 (ev (Ql1 Node.zero _ rfl eqA lnA) (ev (seen_as (as_deep (c:=Job.cells) (d:=Job.zero) ([(⟨1,⟨#[97]⟩,⟨#[117]⟩,⟨#[120]⟩,(⟨1,([(⟨3,10⟩:Alt)]:List Alt),0,0,0⟩:Shape),0,[],1,false,0,(-1),0,0,0,0,0⟩:Job),(⟨2,⟨#[97]⟩,⟨#[117]⟩,⟨#[120]⟩,(⟨1,([(⟨3,10⟩:Alt)]:List Alt),0,0,0⟩:Shape),0,[],1,false,0,(-1),0,0,0,0,0⟩:Job)]:List Job) (.cons _ _ _ _ (a1 (a1 (a1 (a1 (a1 (av (Qf4 (c:=Alt.cells) (d:=Alt.zero) ([(⟨3,10⟩:Alt)]:List Alt) rfl) (a1 (a1 (a1 (a1 (av (Q79) (a1 (a1 (a1 (a1 (a1 (a1 (a1 (a1 (a1 .nil)))))))))))))))))))) (.cons _ _ _ _ (a1 (a1 (a1 (a1 (a1 (av (Qf4 (c:=Alt.cells) (d:=Alt.zero) ([(⟨3,10⟩:Alt)]:List Alt) rfl) (a1 (a1 (a1 (a1 (av (Q79) (a1 (a1 (a1 (a1 (a1 (a1 (a1 (a1 (a1 .nil)))))))))))))))))))) .nil)))) (ev (Qs0) (ev (Qs0) (ev (Qs0) (e1 (e1 .nil)))))))))
def Qg1 (n:Int):Bool:=((decide (n >= 0))&&(decide (n<=1000000)))
theorem Qb4 (n:Int):GV 144 [I n] (Bo (Qg1 n)):=by
 generalize hR:Qg1 n=R;refine ga (l1 .nil) lx (kp 3 []) Tryz.func144 ?_;obtain rfl:=foll hR rfl;exact Q00 lx sr
def QV5 (x_:Node):Bool:=bif ((((((decide (x_.epoch<0))||(decide (x_.epoch > 999999999)))||(decide (x_.since<0)))||(decide (x_.since > 1000000)))||(decide (x_.asked<0)))||(decide (x_.asked > 1000000))) then false else bif ((x_.state==0)||(x_.state==4)) then ((x_.job==0)&&((x_.want==0)||((x_.state==4)&&(x_.want==6)))) else bif ((decide (x_.job<1))||(decide (x_.job > 99999))) then false else bif (x_.state==1) then ((((x_.want==0)||(x_.want==1))||(x_.want==3))||(x_.want==4)) else bif (x_.state==2) then ((x_.want==0)||(x_.want==2)) else bif (x_.state==3) then (x_.want==5) else false
theorem ref12_fine_c (x_:Node):GV 278 [Node.a x_] (Bo (QV5 x_)):=by
 generalize hR:QV5 x_=R;refine ga (.cons (Node.low _ _) .nil) lx (kp 3 [30,38,64,66,67,87,97]) Tryz.func278 ?_;refine ai (fun h1=>?_) (fun h2=>?_)
 ·obtain rfl:=foll hR (ct h1 rfl);exact Q00 lx sr
 ·refine ai (fun h3=>?_) (fun h4=>?_)
  ·obtain rfl:=foll hR (cf h2 (ct h3 rfl));exact Q00 lx sr
  ·refine ai (fun h5=>?_) (fun h6=>?_)
   ·obtain rfl:=foll hR (cf h2 (cf h4 (ct h5 rfl)));exact Q00 lx sr
   ·refine ai (fun h7=>?_) (fun h8=>?_)
    ·obtain rfl:=foll hR (cf h2 (cf h4 (cf h6 (ct h7 rfl))));exact Q00 lx sr
    ·refine ai (fun h9=>?_) (fun h10=>?_)
     ·obtain rfl:=foll hR (cf h2 (cf h4 (cf h6 (cf h8 (ct h9 rfl)))));exact Q00 lx sr
     ·refine ai (fun h11=>?_) (fun h12=>?_)
      ·obtain rfl:=foll hR (cf h2 (cf h4 (cf h6 (cf h8 (cf h10 (ct h11 rfl))))));exact Q00 lx sr
      ·obtain rfl:=foll hR (cf h2 (cf h4 (cf h6 (cf h8 (cf h10 (cf h12 rfl))))));exact Q00 lx sr
def Qv6 (b:List Alt):List Alt->Nat->Bool
 | [],_=>true
 | x_ :: r,i=>bif ((x_.nodes != (b.getD i Alt.zero).nodes)||(x_.wall != (b.getD i Alt.zero).wall)) then false else Qv6 b r (i+1)
def Qc8 (a:List Alt) (b:List Alt):Bool:=bif ((a.length:Int)!=(b.length:Int)) then false else Qv6 b a 0
theorem QPc (a:List Alt) (b:List Alt) (hs0:a.length<=4294967296) (hs1:b.length<=4294967296):GV 170 [altL a,altL b] (Bo (Qc8 a b)):=by
 generalize hR:Qc8 a b=R;refine ga (.cons lw (.cons lw .nil)) lx (kp 6 [10,14,40]) Tryz.func170 ?_;have hk0:=hs0;obtain z7:a.length<=4294967296:=hs0;have hk1:=hs1;obtain z8:b.length<=4294967296:=hs1;refine ai (fun h1=>?_) (fun h2=>?_)
 ·obtain rfl:=foll hR (ct h1 rfl);exact Q00 lx sr
 ·refine Qc0 (fun (i:Nat)=>Qv6 b (List.drop i a) i=R∧i<=a.length) (fun i=>a.length - i) (fun i=>[(0,altL a),(1,altL b),(4,Bo false),(5,I (i:Int))]) (fun i=>[]) 0 (wk [] .nil (sl lw (sl lw (s1 (s1 .nil))))) ⟨foll hR (cf h2 rfl),by exact omA⟩ ?_;clear hR;rintro i ⟨hR,hj⟩;(try dsimp only at hR hj);refine ai (fun h3=>?_) (fun h4=>?_)
  ·have hlt:=ltA h3;rw [Q90 Alt.zero hlt] at hR;refine dchk (by kernel_rfl) ?_;refine ai gkA ?_;refine ai gkA ?_;refine ai gkA ?_;refine ai gkA ?_;(repeat ((first|refine ai rfl ?_|refine ai (fun _=>rfl) ?_)));refine ai (fun h5=>?_) (fun h6=>?_)
   ·obtain rfl:=foll hR (ct h5 rfl);exact Q00 lx sr
   ·exact Qi0 (i+1) (wk [] .nil (sl lw (sl lw (s1 (sv (Q80 (I_eq (wr omA)) lx) .nil))))) omA ⟨foll hR (cf h6 rfl),by exact omA⟩
  ·rw [Qf0 (l:=a) (j:=i) (geA h4)] at hR;obtain rfl:=foll hR rfl;exact Q00 lx sr
def Qe0 (r_:Int):Int:=bif ((r_==9)||(r_==32)) then 1 else bif (((decide (r_<32))||(r_==65533))||(decide (r_ > 1114111))) then 0 else bif (((decide (r_ > 126))&&(decide (r_<161)))||((decide (r_ > 55295))&&(decide (r_<57344)))) then 0 else bif ((decide (r_ > 47))&&(decide (r_<58))) then 3 else bif (((decide (r_ > 160))||((decide (r_ > 64))&&(decide (r_<91))))||((decide (r_ > 96))&&(decide (r_<123)))) then 2 else 4
theorem Qk4 (r_:Int):GV 332 [J r_] (I (Qe0 r_)):=by
 generalize hR:Qe0 r_=R;refine ga (l1 .nil) lx (kp 3 [8,18,32,38,56]) Tryz.func332 ?_;refine ai (fun h1=>?_) (fun h2=>?_)
 ·obtain rfl:=foll hR (ct h1 rfl);exact Q00 lx sr
 ·refine ai (fun h3=>?_) (fun h4=>?_)
  ·obtain rfl:=foll hR (cf h2 (ct h3 rfl));exact Q00 lx sr
  ·refine ai (fun h5=>?_) (fun h6=>?_)
   ·obtain rfl:=foll hR (cf h2 (cf h4 (ct h5 rfl)));exact Q00 lx sr
   ·refine ai (fun h7=>?_) (fun h8=>?_)
    ·obtain rfl:=foll hR (cf h2 (cf h4 (cf h6 (ct h7 rfl))));exact Q00 lx sr
    ·refine ai (fun h9=>?_) (fun h10=>?_)
     ·obtain rfl:=foll hR (cf h2 (cf h4 (cf h6 (cf h8 (ct h9 rfl)))));exact Q00 lx sr
     ·obtain rfl:=foll hR (cf h2 (cf h4 (cf h6 (cf h8 (cf h10 rfl)))));exact Q00 lx sr
def Q13 :List (Nat × Int)->List Int->(List Int)
 | [],out=>out
 | x_ :: r,out=>Q13 r (out++([x_.2]:List Int))
def QL3 (out:List Int):(List Int):=out
def QA0 (s:ByteArray):(List Int):=QL3 (Q13 (QI6 s) [])
theorem ref05_Runes_c (s:ByteArray) (hs0:s.size<=4294967296):GV 349 [Sg s] (runes (QA0 s)):=by
 generalize hR:QA0 s=R;refine ga (l1 .nil) lw (kp 6 [7,8,9]) Tryz.func349 ?_;have hk0:=hs0;obtain z3:s.size<=4294967296:=hs0;refine Qh0 (fun (out:List Int) (pos:Nat)=>∃ m,ByteArray.size s - pos<=m∧QL3 (Q13 (QZ3 s m pos) out)=R∧out.length<=pos) (fun out pos=>ByteArray.size s - pos) (fun out pos=>[(2,AVal.lit (.slice none 0 0)),(3,AVal.own 1 0 1 0 out.length),(7,AVal.ptr 0 0 1 0 0)]) (fun out pos=>[(0,AObj.other (.strIter s pos)),(0,AObj.row 21 1 (out.map (fun q_=>[J q_])))]) [] 0 ((QD1 21 1).trans (wk [0,1] (tO rfl (.strIter _ _) (tO rfl (tl eqA) .nil)) (s1 (sv (Qj1 1 rfl) (sv (Q10 0 rfl rfl) .nil))))) ⟨ByteArray.size s,by exact omA,foll hR rfl,by exact exA⟩ ?_;clear hR;rintro out pos ⟨m,hm,hR,hx⟩;(try dsimp only at hR hm hx);refine ai (fun h1=>?_) (fun h2=>?_)
 ·have hlt:=of_decide_eq_true h1;have hw:=Qf7 s pos;have hwe:=Qe7 s pos hlt;obtain ⟨m,rfl⟩:=sucA m;rw [QT2 h1] at hR;refine ai (fun _=>?_) (fun h=>nomatch h);refine Or.inl ?_;(first|refine ⟨Qa2 4 rfl lnA apA,?_⟩|refine ⟨Qd1 4 rfl apA,?_⟩);exact Q60 (out++([(pos,((Utf8.decode s pos).1:Int)).2]:List Int)) (pos+(Utf8.decode s pos).2) (wk [0,1] (tO rfl (.strIter _ _) (tO rfl (tl eqA) .nil)) (s1 (sv (to 1 lnA) (sv (Q10 0 rfl rfl) .nil)))) omA ⟨m,by exact omA,foll hR (congrArg (fun p:(List Int)=>QL3 p) rfl),by exact exA⟩
 ·rw [Q35 h2] at hR;refine ai (fun h=>nomatch h) (fun _=>?_);replace hR:QL3 out=R:=fo2 (fun p:(List Int)=>QL3 p) (out) hR rfl;obtain rfl:=foll hR rfl;exact Q00 lw (Ql1 0 _ rfl eqA lnA)
theorem QX7:∀ (l:List (Nat × Int)) (out:List Int),(Q13 l out).length=out.length+l.length
 | [],out=>rfl
 | x :: r,out=>by
  rw [Q13,QX7 r]
  simp
  omega
theorem QFc (s:ByteArray):∀ m pos,(QZ3 s m pos).length<=m
 | 0,_=>by simp [QZ3]
 | m+1,pos=>by
  cases h:decide (pos<s.size) with
  | false=>rw [Q35 h];simp
  | true=>rw [QT2 h];have:=QFc s m (pos+(Utf8.decode s pos).2);simp;omega
theorem Qt9 (s:ByteArray):(QA0 s).length<=s.size:=by
 unfold QA0 QL3
 rw [QX7]
 have:=QFc s s.size 0
 simp only [QI6,List.length_nil]
 omega
def QM8 (r_:Int):Bool:=(((decide (r_ >= 48))&&(decide (r_<=57)))||((decide (r_ >= 97))&&(decide (r_<=122))))
theorem ref05_small_c (r_:Int):GV 386 [J r_] (Bo (QM8 r_)):=by
 generalize hR:QM8 r_=R;refine ga (l1 .nil) lx (kp 3 []) Tryz.func386 ?_;obtain rfl:=foll hR rfl;exact Q00 lx sr
def Q03 (s:ByteArray):Nat->List Int->Nat->(List Int) × Nat
 | 0,_,_=>([],0)
 | m+1,out,i=>bif (decide ((i:Int)<(ByteArray.size s:Int))) then bif ((decide (((s.data.toList.getD i 0).toNat:Int) > 64))&&(decide (((s.data.toList.getD i 0).toNat:Int)<91))) then Q03 s m (out++([(wu8 (((s.data.toList.getD i 0).toNat:Int)+32))]:List Int)) (i+1) else Q03 s m (out++([((s.data.toList.getD i 0).toNat:Int)]:List Int)) (i+1) else (out,i)
def QK3 (out:List Int) (i:Nat):ByteArray:=(Qq2 out)
def Qw2 (s:ByteArray):ByteArray:=QK3 ((Q03 s ((Int.toNat ((ByteArray.size s:Int) - (0:Int)))+1) [] 0).1) ((Q03 s ((Int.toNat ((ByteArray.size s:Int) - (0:Int)))+1) [] 0).2)
theorem ref04_Lower_c (s:ByteArray) (hs0:s.size<=4294967296):GV 369 [Sg s] (Sg (Qw2 s)):=by
 generalize hR:Qw2 s=R;refine ga (l1 .nil) lx (kp 5 [8,20]) Tryz.func369 ?_;have hk0:=hs0;obtain z5:s.size<=4294967296:=hs0;refine Qh0 (fun (out:List Int) (i:Nat)=>∃ m,(Int.toNat ((ByteArray.size s:Int) - (i:Int)))<m∧QK3 (Q03 s m out i).1 (Q03 s m out i).2=R∧out.length<=i∧(i:Int)<=(ByteArray.size s:Int)) (fun out i=>(Int.toNat ((ByteArray.size s:Int) - (i:Int)))) (fun out i=>[(0,Sg s),(2,Sg ⟨#[]⟩),(3,AVal.own 0 0 1 0 out.length),(4,I (i:Int))]) (fun out i=>[(0,AObj.row 5 1 (out.map (fun q_=>[Y q_])))]) [] 0 ((QD1 5 1).trans (wk [0] (tO rfl (tl eqA) .nil) (s1 (s1 (sv (Qj1 0 rfl) (s1 .nil)))))) ⟨_,Nat.lt_succ_self _,foll hR rfl,by exact exA⟩ ?_;clear hR;rintro out i ⟨m,hm,hR,hx⟩;(try dsimp only at hR hm hx);obtain ⟨m,rfl⟩:=sucA m;refine ai (fun h1=>?_) (fun h2=>?_)
 ·have qh1:=of_decide_eq_true h1;refine ai gkA ?_;refine ai gkA ?_;refine ai (fun h3=>?_) (fun h4=>?_)
  ·refine ai gkA ?_;refine Or.inl ?_;(first|refine ⟨Qa2 1 rfl lnA apA,?_⟩|refine ⟨Qd1 1 rfl apA,?_⟩);exact Q60 (out++([(wu8 (((s.data.toList.getD i 0).toNat:Int)+32))]:List Int)) (i+1) (wk [0] (tO rfl (tl eqA) .nil) (s1 (s1 (sv (to 0 lnA) (sv (Q80 (I_eq (wr omA)) lx) .nil))))) omA ⟨m,by exact omA,foll hR (congrArg (fun p:(List Int) × Nat=>QK3 p.1 p.2) (ct h1 (ct h3 rfl))),by exact exA⟩
  ·refine ai gkA ?_;refine Or.inl ?_;(first|refine ⟨Qa2 1 rfl lnA apA,?_⟩|refine ⟨Qd1 1 rfl apA,?_⟩);exact Q60 (out++([((s.data.toList.getD i 0).toNat:Int)]:List Int)) (i+1) (wk [0] (tO rfl (tl eqA) .nil) (s1 (s1 (sv (to 0 lnA) (sv (Q80 (I_eq (wr omA)) lx) .nil))))) omA ⟨m,by exact omA,foll hR (congrArg (fun p:(List Int) × Nat=>QK3 p.1 p.2) (ct h1 (cf h4 rfl))),by exact exA⟩
 ·have qh2:=of_decide_eq_false h2;replace hR:QK3 out i=R:=fo2 (fun p:(List Int) × Nat=>QK3 p.1 p.2) (out,i) hR (cf h2 rfl);(first|refine ⟨out,by exact cvA,?_⟩|refine ⟨_,fun _=>⟨out,by exact cvA,rfl,rfl⟩,?_⟩|refine ⟨_,rfl,⟨out,by exact cvA,Sub.refl _,rfl⟩,?_⟩);obtain rfl:=foll hR rfl;exact Q00 lx sr
def Qa8 :List Int->Nat->Bool
 | [],_=>false
 | x_ :: r,i=>bif (decide (x_ >= 97)) then true else Qa8 r (i+1)
def Qwa (l:List Int):Bool:=Qa8 l 0
theorem ref05_plain_c (l:List Int) (hs0:l.length<=4294967296):GV 370 [runes l] (Bo (Qwa l)):=by
 generalize hR:Qwa l=R;refine ga (.cons lw .nil) lx (kp 4 [7,14]) Tryz.func370 ?_;have hk0:=hs0;obtain z5:l.length<=4294967296:=hs0;refine Qc0 (fun (i:Nat)=>Qa8 (List.drop i l) i=R∧i<=l.length) (fun i=>l.length - i) (fun i=>[(0,runes l),(2,Bo false),(3,I (i:Int))]) (fun i=>[]) 0 (wk [] .nil (sl lw (s1 (s1 .nil)))) ⟨foll hR rfl,by exact omA⟩ ?_;clear hR;rintro i ⟨hR,hj⟩;(try dsimp only at hR hj);refine ai (fun h1=>?_) (fun h2=>?_)
 ·have hlt:=ltA h1;rw [Q90 0 hlt] at hR;refine ai gkA ?_;refine ai (fun h3=>?_) (fun h4=>?_)
  ·have qh3:=of_decide_eq_true h3;obtain rfl:=foll hR (ct h3 rfl);exact Q00 lx sr
  ·have qh4:=of_decide_eq_false h4;exact Qi0 (i+1) (wk [] .nil (sl lw (s1 (sv (Q80 (I_eq (wr omA)) lx) .nil)))) omA ⟨foll hR (cf h4 rfl),by exact omA⟩
 ·rw [Qf0 (l:=l) (j:=i) (geA h2)] at hR;obtain rfl:=foll hR rfl;exact Q00 lx sr
def QH7 :List Int->Int->Nat->Int
 | [],n,_=>n
 | x_ :: r,n,i=>bif ((decide (x_<48))||(decide (x_ > 57))) then (-1) else QH7 r (w64 ((w64 (10*n))+(w64 (w32 (x_ - 48))))) (i+1)
def QW7 (l:List Int):Int:=bif ((((l.length:Int)==0)||(decide ((l.length:Int) > 9)))||((decide ((l.length:Int) > 1))&&((l.getD 0 0)==48))) then (-1) else QH7 l 0 0
theorem ref05_Number_c (l:List Int) (hs0:l.length<=4294967296):GV 371 [runes l] (I (QW7 l)):=by
 generalize hR:QW7 l=R;refine ga (.cons lw .nil) lx (kp 5 [23,27,41]) Tryz.func371 ?_;have hk0:=hs0;obtain z7:l.length<=4294967296:=hs0;refine ai gkA ?_;refine ai (fun h1=>?_) (fun h2=>?_)
 ·obtain rfl:=foll hR (ct h1 rfl);exact Q00 lx sr
 ·refine Qh0 (fun (n:Int) (i:Nat)=>QH7 (List.drop i l) n i=R∧i<=l.length) (fun n i=>l.length - i) (fun n i=>[(0,runes l),(2,I 0),(3,I n),(4,I (i:Int))]) (fun n i=>[]) 0 0 (wk [] .nil (sl lw (s1 (s1 (s1 .nil))))) ⟨foll hR (cf h2 rfl),by exact omA⟩ ?_;clear hR;rintro n i ⟨hR,hj⟩;(try dsimp only at hR hj);refine ai (fun h3=>?_) (fun h4=>?_)
  ·have hlt:=ltA h3;rw [Q90 0 hlt] at hR;refine ai gkA ?_;refine ai gkA ?_;refine ai (fun h5=>?_) (fun h6=>?_)
   ·obtain rfl:=foll hR (ct h5 rfl);exact Q00 lx sr
   ·refine ai gkA ?_;exact Q60 (w64 ((w64 (10*n))+(w64 (w32 ((l.getD i 0) - 48))))) (i+1) (wk [] .nil (sl lw (s1 (s1 (sv (Q80 (I_eq (wr omA)) lx) .nil))))) omA ⟨foll hR (cf h6 rfl),by exact omA⟩
  ·rw [Qf0 (l:=l) (j:=i) (geA h4)] at hR;obtain rfl:=foll hR rfl;exact Q00 lx sr
def Q31 (n:Int) (from_:Int) (to_:Int):Bool:=((decide (n >= from_))&&(decide (n<=to_)))
theorem Qw3 (n:Int) (from_:Int) (to_:Int):GV 229 [I n,I from_,I to_] (Bo (Q31 n from_ to_)):=by
 generalize hR:Q31 n from_ to_=R;refine ga (l1 (l1 (l1 .nil))) lx (kp 7 []) Tryz.func229 ?_;obtain rfl:=foll hR rfl;exact Q00 lx sr
def Q71 (n:Int):Bool:=((decide (n >= 1))&&(decide (n<=48)))
theorem Qu9 (n:Int):GV 299 [I n] (Bo (Q71 n)):=by
 generalize hR:Q71 n=R;refine ga (l1 .nil) lx (kp 3 []) Tryz.func299 ?_;obtain rfl:=foll hR rfl;exact Q00 lx sr
def QJ1 (n:Int):Bool:=((decide (n >= 1))&&(decide (n<=100000)))
theorem Qxc (n:Int):GV 300 [I n] (Bo (QJ1 n)):=by
 generalize hR:QJ1 n=R;refine ga (l1 .nil) lx (kp 3 []) Tryz.func300 ?_;obtain rfl:=foll hR rfl;exact Q00 lx sr
def QW1 :Nat->Int->List Int->Nat->Int × (List Int) × Nat
 | 0,_,_,_=>(0,[],0)
 | m+1,s2,out,n=>bif (decide (s2 > 0)) then bif ((Int.tmod s2 2)==1) then QW1 m (wu64 (Int.tdiv s2 2)) (out++([(n:Int)]:List Int)) (n+1) else QW1 m (wu64 (Int.tdiv s2 2)) out (n+1) else (s2,out,n)
def Qm4 (s2:Int) (out:List Int) (n:Nat):(List Int):=out
def Qm7 (s:Int):(List Int):=Qm4 ((QW1 ((Int.toNat s)+1) s [] 0).1) ((QW1 ((Int.toNat s)+1) s [] 0).2.1) ((QW1 ((Int.toNat s)+1) s [] 0).2.2)
theorem ref09_List_c (s:Int):GV 96 [U s] (ints (Qm7 s)):=by
 generalize hR:Qm7 s=R;refine ga (l1 .nil) lw (kp 5 [6,11]) Tryz.func96 ?_;refine QA7 (fun (s2:Int) (out:List Int) (n:Nat)=>∃ m,(Int.toNat s2)<m∧Qm4 (QW1 m s2 out n).1 (QW1 m s2 out n).2.1 (QW1 m s2 out n).2.2=R∧(n:Int)<=65∧((n:Int)=0∨(0<=s2∧s2<2 ^ (65 - (Int.toNat (n:Int)))))∧out.length<=n) (fun s2 out n=>(Int.toNat s2)) (fun s2 out n=>[(0,U s2),(2,AVal.lit (.slice none 0 0)),(3,AVal.own 0 0 1 0 out.length),(4,I (n:Int))]) (fun s2 out n=>[(0,AObj.row 3 1 (out.map (fun q_=>[I q_])))]) s [] 0 ((QD1 3 1).trans (wk [0] (tO rfl (tl eqA) .nil) (s1 (s1 (sv (Qj1 0 rfl) (s1 .nil)))))) ⟨_,Nat.lt_succ_self _,foll hR rfl,by exact exA⟩ ?_;clear hR;rintro s2 out n ⟨m,hm,hR,hx⟩;(try dsimp only at hR hm hx);obtain ⟨m,rfl⟩:=sucA m;refine ai (fun h1=>?_) (fun h2=>?_)
 ·have qh1:=of_decide_eq_true h1;obtain ⟨hf1,hf2,hf3,hf4⟩:=ref09_half hx.2.1 hx.1 qh1;refine ai gkA ?_;refine ai (fun h3=>?_) (fun h4=>?_)
  ·refine Or.inl ?_;(first|refine ⟨Qa2 8 rfl lnA apA,?_⟩|refine ⟨Qd1 8 rfl apA,?_⟩);refine ai gkA ?_;exact Qp3 (wu64 (Int.tdiv s2 2)) (out++([(n:Int)]:List Int)) (n+1) (wk [0] (tO rfl (tl eqA) .nil) (s1 (s1 (sv (to 0 lnA) (sv (Q80 (I_eq (wr omA)) lx) .nil))))) omA ⟨m,by exact omA,foll hR (congrArg (fun p:Int × (List Int) × Nat=>Qm4 p.1 p.2.1 p.2.2) (ct h1 (ct h3 rfl))),by exact exA⟩
  ·refine ai gkA ?_;exact Qp3 (wu64 (Int.tdiv s2 2)) out (n+1) (wk [0] (tO rfl (tl eqA) .nil) (s1 (s1 (sv (to 0 lnA) (sv (Q80 (I_eq (wr omA)) lx) .nil))))) omA ⟨m,by exact omA,foll hR (congrArg (fun p:Int × (List Int) × Nat=>Qm4 p.1 p.2.1 p.2.2) (ct h1 (cf h4 rfl))),by exact exA⟩
 ·have qh2:=of_decide_eq_false h2;replace hR:Qm4 s2 out n=R:=fo2 (fun p:Int × (List Int) × Nat=>Qm4 p.1 p.2.1 p.2.2) (s2,out,n) hR (cf h2 rfl);obtain rfl:=foll hR rfl;exact Q00 lw (Ql1 0 _ rfl eqA lnA)
def Qw9 (set_:Int):Bool:=(decide (set_<281474976710656))
theorem ref14_Few_c (set_:Int):GV 231 [U set_] (Bo (Qw9 set_)):=by
 generalize hR:Qw9 set_=R;refine ga (l1 .nil) lx (kp 3 []) Tryz.func231 ?_;obtain rfl:=foll hR rfl;exact Q00 lx sr
def QO8 (state:Int):Bool:=((decide (state >= 3))&&(decide (state<=7)))
theorem ref14_Ended_c (state:Int):GV 233 [I state] (Bo (QO8 state)):=by
 generalize hR:QO8 state=R;refine ga (l1 .nil) lx (kp 3 []) Tryz.func233 ?_;obtain rfl:=foll hR rfl;exact Q00 lx sr
def QQ3 :List Book->Int->Nat->Int
 | [],_,_=>0
 | x_ :: r,last,i=>bif (((((((((i:Int)==8)||(decide (x_.id<=last)))||(decide (x_.id > 99999)))||(decide (x_.from_<0)))||(decide (x_.to<=x_.from_)))||(decide (x_.to > 1000000)))||(decide (x_.nodes<1)))||(decide (x_.nodes > 48))) then 190 else QQ3 r x_.id (i+1)
def QG5 (l:List Book):Int:=QQ3 l 0 0
theorem ref19_Check_c (l:List Book) (hs0:l.length<=4294967296):GV 221 [bookL l] (I (QG5 l)):=by
 generalize hR:QG5 l=R;refine ga (.cons lw .nil) lx (kp 6 [9,55]) Tryz.func221 ?_;have hk0:=hs0;obtain z5:l.length<=4294967296:=hs0;refine Qh0 (fun (last:Int) (i:Nat)=>QQ3 (List.drop i l) last i=R∧i<=l.length) (fun last i=>l.length - i) (fun last i=>[(0,bookL l),(2,I 0),(3,I last),(4,I (i:Int))]) (fun last i=>[]) 0 0 (wk [] .nil (sl lw (s1 (s1 (s1 .nil))))) ⟨foll hR rfl,by exact omA⟩ ?_;clear hR;rintro last i ⟨hR,hj⟩;(try dsimp only at hR hj);refine ai (fun h1=>?_) (fun h2=>?_)
 ·have hlt:=ltA h1;rw [Q90 Book.zero hlt] at hR;refine ai gkA ?_;refine ai (fun h3=>?_) (fun h4=>?_)
  ·obtain rfl:=foll hR (ct h3 rfl);exact Q00 lx sr
  ·exact Q60 ((l.getD i Book.zero).id) (i+1) (wk [] .nil (sl lw (s1 (s1 (sv (Q80 (I_eq (wr omA)) lx) .nil))))) omA ⟨foll hR (cf h4 rfl),by exact omA⟩
 ·rw [Qf0 (l:=l) (j:=i) (geA h2)] at hR;obtain rfl:=foll hR rfl;exact Q00 lx sr
def Qd3 (s:ByteArray):Bool:=((decide ((ByteArray.size s:Int) > 0))&&(decide ((ByteArray.size s:Int)<65)))
theorem QCc (s:ByteArray):GV 222 [Sg s] (Bo (Qd3 s)):=by
 generalize hR:Qd3 s=R;refine ga (l1 .nil) lx (kp 3 []) Tryz.func222 ?_;obtain rfl:=foll hR rfl;exact Q00 lx sr
def Qw6 (a:Usage) (b:Usage):Bool:=((Op.bytesLess (ByteArray.toList a.user) (ByteArray.toList b.user))||((ByteArray.toList a.user==ByteArray.toList b.user)&&(Op.bytesLess (ByteArray.toList a.account) (ByteArray.toList b.account))))
theorem Qnb (a:Usage) (b:Usage):GV 223 [Usage.a a,Usage.a b] (Bo (Qw6 a b)):=by
 generalize hR:Qw6 a b=R;refine ga (.cons (Usage.low _ _) (.cons (Usage.low _ _) .nil)) lx (kp 5 []) Tryz.func223 ?_;obtain rfl:=foll hR rfl;exact Q00 lx sr
def Q43 (p_:List Step):List Step->Nat->Int
 | [],_=>0
 | x_ :: r,i=>bif (((decide (x_.free<(-1000000)))||(decide (x_.free > 1000000)))||(decide (x_.at_ > 1000000))) then 100 else bif ((decide ((i:Int) > 0))&&((decide (x_.at_<=(p_.getD (Int.toNat (w64 ((i:Int) - 1))) Step.zero).at_))||(x_.free==(p_.getD (Int.toNat (w64 ((i:Int) - 1))) Step.zero).free))) then 100 else Q43 p_ r (i+1)
def QF0 (p_:List Step):Int:=bif (((decide ((p_.length:Int)<1))||(decide ((p_.length:Int) > 1000)))||((p_.getD 0 Step.zero).at_ != 0)) then 100 else Q43 p_ p_ 0
theorem Qa7 (p_:List Step) (hs0:p_.length<=4294967296):GV 153 [stepL p_] (I (QF0 p_)):=by
 generalize hR:QF0 p_=R;refine ga (.cons lw .nil) lx (kp 4 [18,22,46,76]) Tryz.func153 ?_;have hk0:=hs0;obtain z9:p_.length<=4294967296:=hs0;refine ai gkA ?_;refine ai (fun h1=>?_) (fun h2=>?_)
 ·obtain rfl:=foll hR (ct h1 rfl);exact Q00 lx sr
 ·refine Qc0 (fun (i:Nat)=>Q43 p_ (List.drop i p_) i=R∧i<=p_.length) (fun i=>p_.length - i) (fun i=>[(0,stepL p_),(2,I 0),(3,I (i:Int))]) (fun i=>[]) 0 (wk [] .nil (sl lw (s1 (s1 .nil)))) ⟨foll hR (cf h2 rfl),by exact omA⟩ ?_;clear hR;rintro i ⟨hR,hj⟩;(try dsimp only at hR hj);refine ai (fun h3=>?_) (fun h4=>?_)
  ·have hlt:=ltA h3;rw [Q90 Step.zero hlt] at hR;refine ai gkA ?_;refine ai gkA ?_;refine ai gkA ?_;refine ai (fun h5=>?_) (fun h6=>?_)
   ·obtain rfl:=foll hR (ct h5 rfl);exact Q00 lx sr
   ·refine dchk (by kernel_rfl) ?_;refine ai gkA ?_;refine ai gkA ?_;refine ai gkA ?_;refine ai gkA ?_;(repeat ((first|refine ai rfl ?_|refine ai (fun _=>rfl) ?_)));refine ai (fun h7=>?_) (fun h8=>?_)
    ·obtain rfl:=foll hR (cf h6 (ct h7 rfl));exact Q00 lx sr
    ·exact Qi0 (i+1) (wk [] .nil (sl lw (s1 (sv (Q80 (I_eq (wr omA)) lx) .nil)))) omA ⟨foll hR (cf h6 (cf h8 rfl)),by exact omA⟩
  ·rw [Qf0 (l:=p_) (j:=i) (geA h4)] at hR;obtain rfl:=foll hR rfl;exact Q00 lx sr
theorem Q86 {p:List Step} (h:(QF0 p != 0)=false):p.length<=1000:=by
 simp only [QF0] at h
 revert h
 cases h2:(((decide ((p.length:Int)<1))||(decide ((p.length:Int) > 1000)))||((p.getD 0 Step.zero).at_ != 0)) with
 | true=>simp
 | false=>intro _;simp at h2;omega
def Qa4 (t:Int):List Step->Int->Nat->Int × Nat
 | [],out,i=>(out,i)
 | x_ :: r,out,i=>bif (decide (x_.at_<=t)) then Qa4 t r x_.free (i+1) else Qa4 t r out (i+1)
def QU5 (out:Int) (i:Nat):Int:=out
def Qz4 (p_:List Step) (t:Int):Int:=QU5 ((Qa4 t p_ 0 0).1) ((Qa4 t p_ 0 0).2)
theorem Qce (p_:List Step) (t:Int) (hs0:p_.length<=4294967296):GV 154 [stepL p_,I t] (I (Qz4 p_ t)):=by
 generalize hR:Qz4 p_ t=R;refine ga (.cons lw (l1 .nil)) lx (kp 7 [10,19]) Tryz.func154 ?_;have hk0:=hs0;obtain z5:p_.length<=4294967296:=hs0;refine Qh0 (fun (out:Int) (i:Nat)=>QU5 (Qa4 t (List.drop i p_) out i).1 (Qa4 t (List.drop i p_) out i).2=R∧i<=p_.length) (fun out i=>p_.length - i) (fun out i=>[(0,stepL p_),(1,I t),(4,I 0),(5,I out),(6,I (i:Int))]) (fun out i=>[]) 0 0 (wk [] .nil (sl lw (s1 (s1 (s1 (s1 .nil)))))) ⟨foll hR rfl,by exact omA⟩ ?_;clear hR;rintro out i ⟨hR,hj⟩;(try dsimp only at hR hj);refine ai (fun h1=>?_) (fun h2=>?_)
 ·have hlt:=ltA h1;rw [Q90 Step.zero hlt] at hR;refine ai gkA ?_;refine ai (fun h3=>?_) (fun h4=>?_)
  ·have qh3:=of_decide_eq_true h3;refine ai gkA ?_;exact Q60 ((p_.getD i Step.zero).free) (i+1) (wk [] .nil (sl lw (s1 (s1 (s1 (sv (Q80 (I_eq (wr omA)) lx) .nil)))))) omA ⟨foll hR (congrArg (fun p:Int × Nat=>QU5 p.1 p.2) (ct h3 rfl)),by exact omA⟩
  ·have qh4:=of_decide_eq_false h4;exact Q60 out (i+1) (wk [] .nil (sl lw (s1 (s1 (s1 (sv (Q80 (I_eq (wr omA)) lx) .nil)))))) omA ⟨foll hR (congrArg (fun p:Int × Nat=>QU5 p.1 p.2) (cf h4 rfl)),by exact omA⟩
 ·rw [Qf0 (l:=p_) (j:=i) (geA h2)] at hR;replace hR:QU5 out i=R:=fo2 (fun p:Int × Nat=>QU5 p.1 p.2) (out,i) hR rfl;obtain rfl:=foll hR rfl;exact Q00 lx sr
end Go.Proofs.YtcbolcknapeneaaGreatDoor
namespace Go.Proofs.YtcbolcknapeneaaGreatDoor
set_option linter.unusedSimpArgs false
set_option linter.unusedVariables false
open Go.Fw
set_option maxRecDepth 20000
set_option maxHeartbeats 4000000
attribute [local irreducible] ACalls AMoves
def QE2 (l:List Int) (n:Int):Nat->Nat->Nat
 | 0,_=>0
 | m+1,i=>bif ((decide ((i:Int)<(l.length:Int)))&&(decide ((l.getD i 0)<n))) then QE2 l n m (i+1) else i
def QZ4 (l:List Int) (n:Int) (i:Nat):(List Int):=bif ((decide ((i:Int)<(l.length:Int)))&&((l.getD i 0)==n)) then l else (((List.take i l)++([n]:List Int))++(List.drop i l))
def Qj3 (l:List Int) (n:Int):(List Int):=QZ4 l n (QE2 l n ((Int.toNat ((l.length:Int) - (0:Int)))+1) 0)
theorem Qde (l:List Int) (n:Int) (hs0:l.length<=4294967296):GV 335 [ints l,I n] (ints (Qj3 l n)):=by
 generalize hR:Qj3 l n=R;refine ga (.cons lw (l1 .nil)) lw (kp 6 [17,31]) Tryz.func335 ?_;have hk0:=hs0;obtain z5:l.length<=4294967296:=hs0;refine Qc0 (fun (i:Nat)=>∃ m,(Int.toNat ((l.length:Int) - (i:Int)))<m∧QZ4 l n (QE2 l n m i)=R∧(i:Int)<=(l.length:Int)) (fun i=>(Int.toNat ((l.length:Int) - (i:Int)))) (fun i=>[(0,ints l),(1,I n),(4,AVal.lit (.slice none 0 0)),(5,I (i:Int))]) (fun i=>[]) 0 (wk [] .nil (sl lw (s1 (s1 (s1 .nil))))) ⟨_,Nat.lt_succ_self _,foll hR rfl,by exact exA⟩ ?_;clear hR;rintro i ⟨m,hm,hR,hx⟩;(try dsimp only at hR hm hx);obtain ⟨m,rfl⟩:=sucA m;refine ai gkA ?_;refine ai (fun h1=>?_) (fun h2=>?_)
 ·exact Qi0 (i+1) (wk [] .nil (sl lw (s1 (s1 (sv (Q80 (I_eq (wr omA)) lx) .nil))))) omA ⟨m,by exact omA,foll hR (congrArg (fun p:Nat=>QZ4 l n p) (ct h1 rfl)),by exact exA⟩
 ·replace hR:QZ4 l n i=R:=fo2 (fun p:Nat=>QZ4 l n p) (i) hR (cf h2 rfl);refine ai gkA ?_;refine ai (fun h3=>?_) (fun h4=>?_)
  ·obtain rfl:=foll hR (ct h3 rfl);exact Q00 lw sr
  ·refine dchk (by kernel_rfl) ?_;refine ai gkA ?_;(first|refine ⟨Qa2 8 rfl lnA apA,?_⟩|refine ⟨Qd1 8 rfl apA,?_⟩);(first|refine ⟨Qa2 8 rfl lnA apA,?_⟩|refine ⟨Qd1 8 rfl apA,?_⟩);refine ai gkA ?_;(first|refine ⟨Qa2 8 rfl lnA apA,?_⟩|refine ⟨Qd1 8 rfl apA,?_⟩);(repeat ((first|refine ai rfl ?_|refine ai (fun _=>rfl) ?_)));obtain rfl:=foll hR (cf h4 rfl);exact Q00 lw (Ql1 0 _ rfl eqA lnA)
theorem Qb7 (l:List Int) (n:Int):(Qj3 l n).length<=l.length+1:=by
 unfold Qj3 QZ4
 generalize QE2 l n _ 0=i
 cases ((decide ((i:Int)<(l.length:Int)))&&((l.getD i 0)==n)) with
 | true=>simp
 | false =>
  simp only [cond_false,List.length_append,List.length_take,List.length_drop,List.length_cons,List.length_nil]
  omega
def Q96 (n1:Int):(List Step):=bif (decide (n1 > 1000000)) then ([(⟨0,1000000⟩:Step)]:List Step) else ([(⟨0,n1⟩:Step)]:List Step)
def QG4 (n:Int):(List Step):=bif (decide (n<(-1000000))) then Q96 (-1000000) else Q96 n
theorem ref10_Flat_c (n:Int):GV 238 [I n] (stepL (QG4 n)):=by
 generalize hR:QG4 n=R;refine ga (l1 .nil) lw (kj [1000003] 3 [4,6]) Tryz.func238 ?_;refine QY0 (fun (n1:Int)=>Q96 n1=R) (fun n1=>[(0,I n1),(2,AVal.lit (.slice none 0 0))]) (fun n1=>[]) ?_ ?_
 ·clear hR;rintro n1 hR;(try dsimp only at hR);refine ai (fun h1=>?_) (fun h2=>?_)
  ·have qh1:=of_decide_eq_true h1;refine Or.inl ?_;obtain rfl:=foll hR (ct h1 rfl);exact Q00 lw (seen_as (Qf4 (c:=Step.cells) (d:=Step.zero) ([(⟨0,1000000⟩:Step)]:List Step) rfl))
  ·have qh2:=of_decide_eq_false h2;refine Or.inl ?_;obtain rfl:=foll hR (cf h2 rfl);exact Q00 lw (seen_as (Qf4 (c:=Step.cells) (d:=Step.zero) ([(⟨0,n1⟩:Step)]:List Step) rfl))
 ·refine ai (fun h3=>?_) (fun h4=>?_)
  ·have qh3:=of_decide_eq_true h3;exact Q70 (-1000000) (wk [] .nil (s1 (s1 .nil))) (foll hR (ct h3 rfl))
  ·have qh4:=of_decide_eq_false h4;exact Q70 n (wk [] .nil (s1 (s1 .nil))) (foll hR (cf h4 rfl))
def Qk3 (id_:Int):List Job->Nat->Int
 | [],_=>(-1)
 | x_ :: r,i=>bif (x_.id==id_) then (i:Int) else Qk3 id_ r (i+1)
def Qa6 (l:List Job) (id_:Int):Int:=Qk3 id_ l 0
theorem ref15_At_c (l:List Job) (id_:Int) (hs0:l.length<=4294967296∧(∀ y ∈ l,y.sz)):GV 94 [jobL l,I id_] (I (Qa6 l id_)):=by
 generalize hR:Qa6 l id_=R;refine ga (.cons lw (l1 .nil)) lx (kp 6 [9,18]) Tryz.func94 ?_;obtain ⟨z10,z11⟩:=id hs0;refine Qc0 (fun (i:Nat)=>Qk3 id_ (List.drop i l) i=R∧i<=l.length) (fun i=>l.length - i) (fun i=>[(0,jobL l),(1,I id_),(4,I 0),(5,I (i:Int))]) (fun i=>[]) 0 (wk [] .nil (sl lw (s1 (s1 (s1 .nil))))) ⟨foll hR rfl,by exact omA⟩ ?_;clear hR;rintro i ⟨hR,hj⟩;(try dsimp only at hR hj);refine ai (fun h1=>?_) (fun h2=>?_)
 ·have hlt:=ltA h1;rw [Q90 Job.zero hlt] at hR;have hxz:(l.getD i Job.zero).sz:=Qy0 (by first|assumption|grind) (Job.szz _);have hkz:=hxz;obtain ⟨z3,z4,z5,z6,z7⟩:=Job.zz hxz;refine ai gkA ?_;refine ai (fun h8=>?_) (fun h9=>?_)
  ·obtain rfl:=foll hR (ct h8 rfl);exact Q00 lx sr
  ·exact Qi0 (i+1) (wk [] .nil (sl lw (s1 (s1 (sv (Q80 (I_eq (wr omA)) lx) .nil))))) omA ⟨foll hR (cf h9 rfl),by exact omA⟩
 ·rw [Qf0 (l:=l) (j:=i) (geA h2)] at hR;obtain rfl:=foll hR rfl;exact Q00 lx sr
theorem ref15_At_g1_lt (id_:Int) (r:List Job):∀ (i:Nat),Qk3 id_ r i = -1∨((i:Int)<=Qk3 id_ r i∧Qk3 id_ r i<(i:Int)+(r.length:Int)):=by
 induction r with
 | nil=>intro i;left;rfl
 | cons x r ih =>
  intro i
  rw [Qk3]
  cases (x.id==id_) with
  | true=>right;simp;omega
  | false =>
   rcases ih (i+1) with h|h
   ·left;exact h
   ·right;simp only [cond_false,List.length_cons];omega
theorem ref15_At_lt (L:List Job) (id_:Int):Qa6 L id_<0∨(0<=Qa6 L id_∧Qa6 L id_<(L.length:Int)):=by
 rcases ref15_At_g1_lt id_ L 0 with h|h
 ·left;rw [Qa6,h];decide
 ·right;rw [Qa6];omega
end Go.Proofs.YtcbolcknapeneaaGreatDoor
