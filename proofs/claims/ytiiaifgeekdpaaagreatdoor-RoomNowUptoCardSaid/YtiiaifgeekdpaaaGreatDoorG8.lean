/-
  Contracts of functions, printed by a program of this repo (wip/dec). No condition beyond those that stand in each.
-/
import Derived.Test.YtiiaifgeekdpaaaGreatDoorG7
import Derived.Test.YtiiaifgeekdpaaaGreatDoorProg
namespace Go.Proofs.YtiiaifgeekdpaaaGreatDoor
set_option linter.unusedSimpArgs false
set_option linter.unusedVariables false
open Go.Fw
set_option maxRecDepth 20000
set_option maxHeartbeats 4000000
attribute [local irreducible] ACalls AMoves
def Qm9 (l:List Node):Bool:=(decide ((l.length:Int)<=100))
theorem law12_Few_c (l:List Node):∀ objs,AGives Tryz.prog 25 [nodeL l] objs (Bo (Qm9 l)):=by
 generalize hR:Qm9 l=R;refine ga (.cons lw .nil) lx (kp 3 []) Tryz.func25 ?_;obtain rfl:=foll hR rfl;exact Q00 lx sr
def Ql9 (s:Shape):Bool:=(decide ((s.alts.length:Int)<=100))
theorem law07_Few_c (s:Shape):∀ objs,AGives Tryz.prog 45 [Shape.a s] objs (Bo (Ql9 s)):=by
 generalize hR:Ql9 s=R;refine ga (.cons (Shape.low _ _) .nil) lx (kp 3 []) Tryz.func45 ?_;obtain rfl:=foll hR rfl;exact Q00 lx sr
def Qp9 (l:List Book):Bool:=(decide ((l.length:Int)<=100))
theorem law19_Few_c (l:List Book):∀ objs,AGives Tryz.prog 27 [bookL l] objs (Bo (Qp9 l)):=by
 generalize hR:Qp9 l=R;refine ga (.cons lw .nil) lx (kp 3 []) Tryz.func27 ?_;obtain rfl:=foll hR rfl;exact Q00 lx sr
def QR5 :List Usage->Nat->Bool
 | [],_=>true
 | x_ :: r,i=>bif ((decide ((ByteArray.size x_.user:Int) > 1000))||(decide ((ByteArray.size x_.account:Int) > 1000))) then false else QR5 r (i+1)
def Qo9 (l:List Usage):Bool:=bif (decide ((l.length:Int) > 300)) then false else QR5 l 0
theorem law17_Few_c (l:List Usage) (hs0:l.length<=9223372036854775807∧(∀ y ∈ l,y.szM)):∀ objs,AGives Tryz.prog 28 [Qa7 l] objs (Bo (Qo9 l)):=by
 generalize hR:Qo9 l=R;refine ga (.cons lw .nil) lx (kp 4 [6,10,28]) Tryz.func28 ?_;have hk0:=hs0;obtain ⟨z9,z10⟩:l.length<=9223372036854775807∧(∀ y ∈ l,y.szM):=hs0;refine ai (fun h1=>?_) (fun h2=>?_)
 ·have qh1:=of_decide_eq_true h1;obtain rfl:=foll hR (ct h1 rfl);exact Q00 lx sr
 ·have qh2:=of_decide_eq_false h2;refine Qh0 (fun (i:Nat)=>QR5 (List.drop i l) i=R∧i<=l.length) (fun i=>l.length - i) (fun i=>[(0,Qa7 l),(2,Bo false),(3,I (i:Int))]) (fun i=>[]) 0 (wk [] .nil (sl lw (s1 (s1 .nil)))) ⟨foll hR (cf h2 rfl),by exact omA⟩ ?_;clear hR;rintro i ⟨hR,hj⟩;(try dsimp only at hR hj);refine ai (fun h3=>?_) (fun h4=>?_)
  ·have hlt:=ltA h3;rw [Qf0 Usage.zero hlt] at hR;have hxz:(l.getD i Usage.zero).szM:=Qk6 (by first|assumption|grind) (Usage.szz _);have hkz:=hxz;obtain ⟨z5,z6⟩:((l.getD i Usage.zero).user).size<=9223372036854775807∧((l.getD i Usage.zero).account).size<=9223372036854775807:=hxz;refine ai gkA ?_;refine ai gkA ?_;refine ai (fun h7=>?_) (fun h8=>?_)
   ·obtain rfl:=foll hR (ct h7 rfl);exact Q00 lx sr
   ·exact Ql0 (i+1) (wk [] .nil (sl lw (s1 (sv (Qd0 (I_eq (wr omA)) lx) .nil)))) omA ⟨foll hR (cf h8 rfl),by exact omA⟩
  ·rw [Qg0 (l:=l) (j:=i) (geA h4)] at hR;obtain rfl:=foll hR rfl;exact Q00 lx sr
def Qu3 (f:Node->Bool):List Node->Nat->Int
 | [],_=>(-1)
 | x_ :: r,i=>bif (f x_) then (i:Int) else Qu3 f r (i+1)
def QR1 (s:List Node) (f:Node->Bool):Int:=Qu3 f s 0
def QS4 (v:Int):List Int->Nat->Int
 | [],_=>(-1)
 | x_ :: r,i=>bif (v==x_) then (i:Int) else QS4 v r (i+1)
def QY5 (s:List Int) (v:Int):Int:=QS4 v s 0
theorem QL9 (s:List Int) (v:Int) (hs0:s.length<=4294967296):∀ objs,AGives Tryz.prog 90 [ints s,I v] objs (I (QY5 s v)):=by
 generalize hR:QY5 s v=R;refine ga (.cons lw (l1 .nil)) lx (kp 6 [7,8,9,16]) Tryz.func90 ?_;have hk0:=hs0;obtain z5:s.length<=4294967296:=hs0;refine Qh0 (fun (i:Nat)=>QS4 v (List.drop i s) i=R∧i<=s.length) (fun i=>s.length - i) (fun i=>[(0,ints s),(1,I v),(4,I 0),(7,I (s.length:Int)),(8,I (i:Int))]) (fun i=>[]) 0 (wk [] .nil (sl lw (s1 (s1 (s1 (s1 .nil)))))) ⟨foll hR rfl,by exact omA⟩ ?_;clear hR;rintro i ⟨hR,hj⟩;(try dsimp only at hR hj);refine ai (fun h1=>?_) (fun h2=>?_)
 ·have hlt:=ltA h1;rw [Qf0 0 hlt] at hR;refine ai gkA ?_;refine ai (fun h3=>?_) (fun h4=>?_)
  ·obtain rfl:=foll hR (ct h3 rfl);exact Q00 lx sr
  ·exact Ql0 (i+1) (wk [] .nil (sl lw (s1 (s1 (s1 (sv (Qd0 (I_eq (wr omA)) lx) .nil)))))) omA ⟨foll hR (cf h4 rfl),by exact omA⟩
 ·rw [Qg0 (l:=s) (j:=i) (geA h2)] at hR;obtain rfl:=foll hR rfl;exact Q00 lx sr
def QV6 (n:Int):Bool:=((decide (n >= 0))&&(decide (n<=1000000)))
theorem Qma (n:Int):∀ objs,AGives Tryz.prog 101 [I n] objs (Bo (QV6 n)):=by
 generalize hR:QV6 n=R;refine ga (l1 .nil) lx (kp 3 []) Tryz.func101 ?_;obtain rfl:=foll hR rfl;exact Q00 lx sr
def QB3 (n:Int):Bool:=((decide (n >= 0))&&(decide (n<=1000000)))
theorem Q05 (n:Int):∀ objs,AGives Tryz.prog 75 [I n] objs (Bo (QB3 n)):=by
 generalize hR:QB3 n=R;refine ga (l1 .nil) lx (kp 3 []) Tryz.func75 ?_;obtain rfl:=foll hR rfl;exact Q00 lx sr
def QJ5 (n:Int) (from_:Int) (to_:Int):Int:=bif (decide (n<from_)) then from_ else bif (decide (n > to_)) then to_ else n
theorem QZa (n:Int) (from_:Int) (to_:Int):∀ objs,AGives Tryz.prog 117 [I n,I from_,I to_] objs (I (QJ5 n from_ to_)):=by
 generalize hR:QJ5 n from_ to_=R;refine ga (l1 (l1 (l1 .nil))) lx (kp 7 [7,12]) Tryz.func117 ?_;refine ai (fun h1=>?_) (fun h2=>?_)
 ·have qh1:=of_decide_eq_true h1;obtain rfl:=foll hR (ct h1 rfl);exact Q00 lx sr
 ·have qh2:=of_decide_eq_false h2;refine ai (fun h3=>?_) (fun h4=>?_)
  ·have qh3:=of_decide_eq_true h3;obtain rfl:=foll hR (cf h2 (ct h3 rfl));exact Q00 lx sr
  ·have qh4:=of_decide_eq_false h4;obtain rfl:=foll hR (cf h2 (cf h4 rfl));exact Q00 lx sr
def QO0 (a:Alt):Bool:=((((decide (a.nodes >= 1))&&(decide (a.nodes<=48)))&&(decide (a.wall >= 1)))&&(decide (a.wall<=100000)))
theorem Q88 (a:Alt):∀ objs,AGives Tryz.prog 125 [Alt.a a] objs (Bo (QO0 a)):=by
 generalize hR:QO0 a=R;refine ga (.cons (Alt.low _ _) .nil) lx (kp 3 []) Tryz.func125 ?_;obtain rfl:=foll hR rfl;exact Q00 lx sr
def Qy2 (f:Alt->Bool):List Alt->Nat->Int
 | [],_=>(-1)
 | x_ :: r,i=>bif (f x_) then (i:Int) else Qy2 f r (i+1)
def QK0 (s:List Alt) (f:Alt->Bool):Int:=Qy2 f s 0
def Qa2 (n:Int) (from_:Int) (to_:Int):Bool:=((decide (n >= from_))&&(decide (n<=to_)))
theorem QC2 (n:Int) (from_:Int) (to_:Int):∀ objs,AGives Tryz.prog 151 [I n,I from_,I to_] objs (Bo (Qa2 n from_ to_)):=by
 generalize hR:Qa2 n from_ to_=R;refine ga (l1 (l1 (l1 .nil))) lx (kp 7 []) Tryz.func151 ?_;obtain rfl:=foll hR rfl;exact Q00 lx sr
def QR0 (r_:Int):Int:=bif ((r_==9)||(r_==32)) then 1 else bif (((((decide (r_<32))||((decide (r_ >= 127))&&(decide (r_<=160))))||((decide (r_ >= 55296))&&(decide (r_<=57343))))||(r_==65533))||(decide (r_ > 1114111))) then 0 else bif ((decide (r_ >= 48))&&(decide (r_<=57))) then 3 else bif ((((decide (r_ >= 97))&&(decide (r_<=122)))||((decide (r_ >= 65))&&(decide (r_<=90))))||(decide (r_ > 160))) then 2 else 4
theorem QN3 (r_:Int):∀ objs,AGives Tryz.prog 177 [J r_] objs (I (QR0 r_)):=by
 generalize hR:QR0 r_=R;refine ga (l1 .nil) lx (kp 3 [3,10,37,44]) Tryz.func177 ?_;refine ai (fun h1=>?_) (fun h2=>?_)
 ·obtain rfl:=foll hR (ct h1 rfl);exact Q00 lx sr
 ·refine ai (fun h3=>?_) (fun h4=>?_)
  ·obtain rfl:=foll hR (cf h2 (ct h3 rfl));exact Q00 lx sr
  ·refine ai (fun h5=>?_) (fun h6=>?_)
   ·obtain rfl:=foll hR (cf h2 (cf h4 (ct h5 rfl)));exact Q00 lx sr
   ·refine ai (fun h7=>?_) (fun h8=>?_)
    ·obtain rfl:=foll hR (cf h2 (cf h4 (cf h6 (ct h7 rfl))));exact Q00 lx sr
    ·obtain rfl:=foll hR (cf h2 (cf h4 (cf h6 (cf h8 rfl))));exact Q00 lx sr
def Qp0 (is:Int->Bool):Nat->LexReader->LexReader
 | 0,_=>LexReader.zero
 | m+1,c=>bif ((decide (c.at_<(c.line.length:Int)))&&(is (c.line.getD (Int.toNat c.at_) 0))) then Qp0 is m { c with at_:=(w64 (c.at_+1)) } else c
def Qq0 (r_:LexReader) (c:LexReader):ByteArray × LexReader:=((runesBytes (List.drop (Int.toNat r_.at_) (List.take (Int.toNat c.at_) c.line))),c)
def Q20 (r_:LexReader) (is:Int->Bool):ByteArray × LexReader:=Qq0 r_ (Qp0 is ((Int.toNat ((r_.line.length:Int) - r_.at_))+1) r_)
theorem Qr8 (is:Int->Bool):∀ (m:Nat) (c:LexReader),(Qp0 is m c).line.length<=c.line.length
 | 0,_=>by simp [Qp0,LexReader.zero]
 | m+1,c=>by
  rw [Qp0]
  cases ((decide (c.at_<(c.line.length:Int)))&&(is (c.line.getD (Int.toNat c.at_) 0))) with
  | true=>exact Qr8 is m { c with at_:=(w64 (c.at_+1)) }
  | false=>exact Nat.le_refl _
theorem QR7 (r_:LexReader) (is:Int->Bool) (h:r_.line.length<=400):(Q20 r_ is).1.size<=4294967296:=by
 have h1:=Qr8 is ((Int.toNat ((r_.line.length:Int) - r_.at_))+1) r_
 unfold Q20 Qq0
 refine Nat.le_trans (Qk5 _) ?_
 simp only [List.length_drop,List.length_take]
 omega
def Q44 (s:ByteArray):Nat->Nat->List Int->(List Int)
 | 0,_,_=>[]
 | m+1,i,c=>bif (decide ((i:Int)<(ByteArray.size s:Int))) then bif ((decide ((c.getD i 0) >= 65))&&(decide ((c.getD i 0)<=90))) then Q44 s m (i+1) (c.set i (wu8 ((wu8 ((c.getD i 0)+97)) - 65))) else Q44 s m (i+1) c else c
def Qo3 (c:List Int):ByteArray:=(Q82 c)
def Qx5 (s:ByteArray):ByteArray:=Qo3 (Q44 s ((Int.toNat ((ByteArray.size s:Int) - (0:Int)))+1) 0 (Qp1 s))
theorem runes_Lower_c (s:ByteArray) (hs0:s.size<=4294967296):∀ objs,AGives Tryz.prog 207 [Sg s] objs (Sg (Qx5 s)):=by
 generalize hR:Qx5 s=R;refine ga (l1 .nil) lx (kp 6 [8,9,10,11,20]) Tryz.func207 ?_;have hk0:=hs0;obtain z5:s.size<=4294967296:=hs0;refine Qj0 (fun (i:Nat) (c:List Int)=>∃ m,(Int.toNat ((ByteArray.size s:Int) - (i:Int)))<m∧Qo3 (Q44 s m i c)=R∧c.length=ByteArray.size s∧(i:Int)<=(ByteArray.size s:Int)) (fun i c=>(Int.toNat ((ByteArray.size s:Int) - (i:Int)))) (fun i c=>[(2,Sg ⟨#[]⟩),(3,AVal.own 0 0 1 0 c.length),(8,AVal.own 0 0 1 0 c.length),(9,I (ByteArray.size s:Int)),(10,I (i:Int))]) (fun i c=>[(0,AObj.row 5 1 (c.map (fun q_=>[Y q_])))]) 0 (Qp1 s) (wk [0] (tO rfl (tl eqA) .nil) (s1 (sv (to 0 lnA) (sv (to 0 lnA) (s1 (s1 .nil)))))) ⟨_,Nat.lt_succ_self _,foll hR rfl,by exact exA⟩ ?_;clear hR;rintro i c ⟨m,hm,hR,hx⟩;(try dsimp only at hR hm hx);obtain ⟨m,rfl⟩:=sucA m;refine ai (fun h1=>?_) (fun h2=>?_)
 ·have qh1:=of_decide_eq_true h1;refine ai gkA ?_;refine ⟨_,QA3 rfl rfl rfl (QH4 0 i (by first|rfl|exact Nat.zero_add _|omega) ckA) rfl,?_⟩;refine ai (fun h3=>?_) (fun h4=>?_)
  ·refine ai gkA ?_;refine ⟨_,QK7 rfl rfl rfl rfl (QH4 0 i (by first|rfl|exact Nat.zero_add _|omega) ckA) rfl rfl (set_map i (wu8 ((wu8 ((c.getD i 0)+97)) - 65)) (by first|rfl|exact Nat.zero_add _|omega) rfl),?_⟩;exact Qa0 (i+1) (c.set i (wu8 ((wu8 ((c.getD i 0)+97)) - 65))) (wk [0] (tO rfl (tl eqA) .nil) (s1 (sv (to 0 lnA) (sv (to 0 lnA) (s1 (sv (Qd0 (I_eq (wr omA)) lx) .nil)))))) omA ⟨m,by exact omA,foll hR (congrArg (fun p:(List Int)=>Qo3 p) (ct h1 (ct h3 rfl))),by exact exA⟩
  ·exact Qa0 (i+1) c (wk [0] (tO rfl (tl eqA) .nil) (s1 (sv (to 0 lnA) (sv (to 0 lnA) (s1 (sv (Qd0 (I_eq (wr omA)) lx) .nil)))))) omA ⟨m,by exact omA,foll hR (congrArg (fun p:(List Int)=>Qo3 p) (ct h1 (cf h4 rfl))),by exact exA⟩
 ·have qh2:=of_decide_eq_false h2;replace hR:Qo3 c=R:=fo2 (fun p:(List Int)=>Qo3 p) (c) hR (cf h2 rfl);(first|refine ⟨c,by exact cvA,?_⟩|refine ⟨_,fun _=>⟨c,by exact cvA,rfl,rfl⟩,?_⟩|refine ⟨_,rfl,⟨c,by exact cvA,Sub.refl _,rfl⟩,?_⟩);obtain rfl:=foll hR rfl;exact Q00 lx sr
def QE0 (r_:LexReader) (at_:Int) (e_:Int):LexReader:=bif (r_.error==0) then (⟨r_.line,r_.at_,at_,e_⟩:LexReader) else r_
theorem QK2 (r_:LexReader) (at_:Int) (e_:Int):AMoves Tryz.prog 199 [AVal.ptr 0 0 4 0 0,I at_,I e_] [(0,AObj.row 210 4 [[runes r_.line,I r_.at_,I r_.bad,I r_.error]])] 1 (AVal.tup []) [(0,AObj.row 210 4 [[runes ((QE0 r_ at_ e_).line),I ((QE0 r_ at_ e_).at_),I ((QE0 r_ at_ e_).bad),I ((QE0 r_ at_ e_).error)]])]:=by
 generalize hR:QE0 r_ at_ e_=R;refine mo (kp 6 [10]) Tryz.func199 ?_;refine ai (fun h1=>?_) (fun h2=>?_)
 ·obtain rfl:=foll hR (ct h1 rfl);exact rq (tt [0] (tO rfl (ts LexReader.lo) .nil) t1)
 ·obtain rfl:=foll hR (cf h2 rfl);exact rq (tt [0] (tO rfl (ts LexReader.lo) .nil) t1)
def Qa5 (s:ByteArray):List (Nat × Int)->Bool
 | []=>(!(ByteArray.toList s==ByteArray.toList ⟨#[]⟩))
 | x_ :: r=>bif ((decide (x_.2<48))||(decide (x_.2 > 57))) then false else Qa5 s r
def Q66 (s:ByteArray):Bool:=Qa5 s (QI5 s)
theorem Qsa (s:ByteArray) (hs0:s.size<=4294967296):∀ objs,AGives Tryz.prog 209 [Sg s] objs (Bo (Q66 s)):=by
 generalize hR:Q66 s=R;refine ga (l1 .nil) lx (kp 5 [6,7,8,15]) Tryz.func209 ?_;have hk0:=hs0;obtain z5:s.size<=4294967296:=hs0;refine Qh0 (fun (pos:Nat)=>∃ m,ByteArray.size s - pos<=m∧Qa5 s (Qp3 s m pos)=R) (fun pos=>ByteArray.size s - pos) (fun pos=>[(0,Sg s),(2,Bo false),(6,AVal.ptr 0 0 1 0 0)]) (fun pos=>[(0,AObj.other (.strIter s pos))]) 0 (wk [0] (tO rfl (.strIter _ _) .nil) (s1 (s1 (sv (Q10 0 rfl rfl) .nil)))) ⟨ByteArray.size s,by exact omA,foll hR rfl⟩ ?_;clear hR;rintro pos ⟨m,hm,hR⟩;(try dsimp only at hR hm);refine ai (fun h1=>?_) (fun h2=>?_)
 ·have hlt:=of_decide_eq_true h1;have hw:=Q56 s pos;have hwe:=Q46 s pos hlt;obtain ⟨m,rfl⟩:=sucA m;rw [QA2 h1] at hR;refine ai (fun _=>?_) (fun h=>nomatch h);refine ai (fun h3=>?_) (fun h4=>?_)
  ·obtain rfl:=foll hR (ct h3 rfl);exact Q00 lx sr
  ·exact Ql0 (pos+(Utf8.decode s pos).2) (wk [0] (tO rfl (.strIter _ _) .nil) (s1 (s1 (sv (Q10 0 rfl rfl) .nil)))) omA ⟨m,by exact omA,foll hR (cf h4 rfl)⟩
 ·rw [Qg4 h2] at hR;refine ai (fun h=>nomatch h) (fun _=>?_);obtain rfl:=foll hR rfl;exact Q00 lx sr
theorem QD7 (s:ByteArray):∀ l,Qa5 s l=true->(!(ByteArray.toList s==ByteArray.toList ⟨#[]⟩))=true ∧ ∀ x ∈ l,48<=x.2∧x.2<=57
 | [],h=>⟨h,fun x hx=>nomatch hx⟩
 | x :: r,h=>by
  rw [Qa5] at h
  cases hc:((decide (x.2<48))||(decide (x.2 > 57))) with
  | true=>rw [hc] at h;cases h
  | false =>
   rw [hc] at h
   obtain ⟨a,b⟩:=QD7 s r h
   refine ⟨a,fun y hy=>?_⟩
   rcases List.mem_cons.1 hy with rfl|hy
   ·simp only [Bool.or_eq_false_iff,decide_eq_false_iff_not] at hc
    omega
   ·exact b y hy
theorem lex_digits_ok {s:ByteArray} {q:Bool} (h:(((!(Q66 s))||(decide ((ByteArray.size s:Int) > 9)))||q)=false):atoiOK s:=by
 simp only [Bool.or_eq_false_iff,Bool.not_eq_false',decide_eq_false_iff_not] at h
 obtain ⟨⟨h1,h2⟩,_⟩:=h
 obtain ⟨a,b⟩:=QD7 s _ h1
 refine ⟨?_,by omega,fun i hi=>digits_bytes s s.size 0 (by omega) b i (by omega) hi⟩
 rcases Nat.eq_zero_or_pos s.size with h0|h0
 ·have e:s=⟨#[]⟩:=by
   apply ByteArray.ext
   exact Array.eq_empty_of_size_eq_zero h0
  rw [e] at a
  simp at a
 ·exact h0
def QW5 (s:ByteArray):Nat->Int->Nat->Int
 | 0,_,_=>0
 | m+1,n,i=>bif (decide ((i:Int)<(ByteArray.size s:Int))) then QW5 s m (w64 ((w64 (n*10))+(w64 (wu8 (((Qp1 s).getD i 0) - 48))))) (i+1) else n
def QR3 (n:Int):Int × Unit:=(n,())
def Ql7 (s:ByteArray):Int × Unit:=QR3 (QW5 s ((Int.toNat ((ByteArray.size s:Int) - (0:Int)))+1) 0 0)
theorem QBb (s:ByteArray) (hs0:s.size<=4294967296) (hp0:atoiOK s):∀ objs,AGives Tryz.prog 225 [Sg s] objs (AVal.tup [I ((Ql7 s).1),AVal.lit .nilIface]):=by
 generalize hR:Ql7 s=R;refine ga (l1 .nil) (Low.tup' (l1 (l1 .nil))) (kp 11 [30,39,44,47,48,49,50,56,66]) Tryz.func225 ?_;have hk0:=hs0;obtain z11:s.size<=4294967296:=hs0;refine ai (fun h1=>?_) (fun h2=>?_)
 ·refine ai gkA ?_;refine ai gkA ?_;refine ai (fun h3=>?_) (fun h4=>?_)
  ·exfalso;exact atoi_sign hp0 h3
  ·refine Qj0 (fun (n:Int) (i:Nat)=>∃ m,(Int.toNat ((ByteArray.size s:Int) - (i:Int)))<m∧QR3 (QW5 s m n i)=R∧(i:Int)<=(ByteArray.size s:Int)) (fun n i=>(Int.toNat ((ByteArray.size s:Int) - (i:Int)))) (fun n i=>[(0,Sg s),(2,I 0),(3,AVal.lit .nilIface),(5,Sg s),(6,I n),(47,AVal.own 0 0 1 0 (ByteArray.size s)),(48,I (ByteArray.size s:Int)),(49,I (i:Int))]) (fun n i=>[(0,AObj.row 5 1 ((Qp1 s).map (fun q_=>[Y q_])))]) 0 0 (wk [0] (tO rfl (tl eqA) .nil) (s1 (s1 (s1 (s1 (s1 (sv (to 0 lnA) (s1 (s1 .nil))))))))) ⟨_,Nat.lt_succ_self _,foll hR rfl,by exact exA⟩ ?_;clear hR;rintro n i ⟨m,hm,hR,hx⟩;(try dsimp only at hR hm hx);obtain ⟨m,rfl⟩:=sucA m;refine ai (fun h5=>?_) (fun h6=>?_)
   ·have qh5:=of_decide_eq_true h5;refine ai gkA ?_;refine ⟨_,QA3 rfl rfl rfl (QH4 0 i (by first|rfl|exact Nat.zero_add _|omega) ckA) rfl,?_⟩;refine ai (fun h7=>?_) (fun h8=>?_)
    ·exfalso;exact atoi_digit hp0 (by omega) h7
    ·have qh8:=of_decide_eq_false h8;exact Qa0 (w64 ((w64 (n*10))+(w64 (wu8 (((Qp1 s).getD i 0) - 48))))) (i+1) (wk [0] (tO rfl (tl eqA) .nil) (s1 (s1 (s1 (s1 (s1 (sv (to 0 lnA) (s1 (sv (Qd0 (I_eq (wr omA)) lx) .nil))))))))) omA ⟨m,by exact omA,foll hR (congrArg (fun p:Int=>QR3 p) (ct h5 rfl)),by exact exA⟩
   ·have qh6:=of_decide_eq_false h6;replace hR:QR3 n=R:=fo2 (fun p:Int=>QR3 p) (n) hR (cf h6 rfl);refine ai gkA ?_;refine ai (fun h9=>?_) (fun h10=>?_)
    ·exfalso;exact atoi_minus hp0 h9
    ·obtain rfl:=foll hR rfl;exact Q00 (Low.tup' (l1 (l1 .nil))) (Seen.tup (e1 (e1 .nil)))
 ·exfalso;have ha1:=hp0.1;have ha2:=hp0.2.1;simp at h2;omega
def Q92 (p_:List Int) (r_:Int) (i:Bool):(List Int):=bif i then (p_++([(wu8 (BitVec.ofInt 8 224 ||| BitVec.ofInt 8 (wu8 (Int.fdiv r_ (2 ^ (min (Int.toNat 12) 32))))).toNat),(wu8 (BitVec.ofInt 8 128 ||| BitVec.ofInt 8 (wu8 (BitVec.ofInt 8 (wu8 (Int.fdiv r_ (2 ^ (min (Int.toNat 6) 32)))) &&& BitVec.ofInt 8 63).toNat)).toNat),(wu8 (BitVec.ofInt 8 128 ||| BitVec.ofInt 8 (wu8 (BitVec.ofInt 8 (wu8 r_) &&& BitVec.ofInt 8 63).toNat)).toNat)]:List Int)) else bif ((decide ((wu32 r_) > 65535))&&(decide ((wu32 r_)<=1114111))) then (p_++([(wu8 (BitVec.ofInt 8 240 ||| BitVec.ofInt 8 (wu8 (Int.fdiv r_ (2 ^ (min (Int.toNat 18) 32))))).toNat),(wu8 (BitVec.ofInt 8 128 ||| BitVec.ofInt 8 (wu8 (BitVec.ofInt 8 (wu8 (Int.fdiv r_ (2 ^ (min (Int.toNat 12) 32)))) &&& BitVec.ofInt 8 63).toNat)).toNat),(wu8 (BitVec.ofInt 8 128 ||| BitVec.ofInt 8 (wu8 (BitVec.ofInt 8 (wu8 (Int.fdiv r_ (2 ^ (min (Int.toNat 6) 32)))) &&& BitVec.ofInt 8 63).toNat)).toNat),(wu8 (BitVec.ofInt 8 128 ||| BitVec.ofInt 8 (wu8 (BitVec.ofInt 8 (wu8 r_) &&& BitVec.ofInt 8 63).toNat)).toNat)]:List Int)) else (p_++([239,191,189]:List Int))
def Q12 (p_:List Int) (r_:Int):(List Int):=bif (decide ((wu32 r_)<=2047)) then (p_++([(wu8 (BitVec.ofInt 8 192 ||| BitVec.ofInt 8 (wu8 (Int.fdiv r_ (2 ^ (min (Int.toNat 6) 32))))).toNat),(wu8 (BitVec.ofInt 8 128 ||| BitVec.ofInt 8 (wu8 (BitVec.ofInt 8 (wu8 r_) &&& BitVec.ofInt 8 63).toNat)).toNat)]:List Int)) else bif (decide ((wu32 r_)<55296)) then Q92 p_ r_ (decide ((wu32 r_)<55296)) else Q92 p_ r_ ((decide (57343<(wu32 r_)))&&(decide ((wu32 r_)<=65535)))
theorem QQ6 (p_:List Int) (r_:Int) (hs0:p_.length<=4294967296):AMoves Tryz.prog 224 [AVal.own 0 0 1 0 p_.length,J r_] [(0,AObj.row 5 1 (p_.map (fun q_=>[Y q_])))] 0 (AVal.own 0 0 1 0 (Q12 p_ r_).length) [(0,AObj.row 5 1 ((Q12 p_ r_).map (fun q_=>[Y q_])))]:=by
 generalize hR:Q12 p_ r_=R;refine mo (kj [1000007] 6 [11,25,50]) Tryz.func224 ?_;have hk0:=hs0;obtain z9:p_.length<=4294967296:=hs0;refine ai (fun h1=>?_) (fun h2=>?_)
 ·have qh1:=of_decide_eq_true h1;refine ai gkA ?_;refine Or.inl ?_;(first|refine ⟨Qp2 1 rfl lnA apA,?_⟩|refine ⟨Qk1 1 rfl apA,?_⟩);obtain rfl:=foll hR (ct h1 rfl);exact rq (tt [0] (tO rfl (tl eqA) .nil) (to 0 lnA))
 ·have qh2:=of_decide_eq_false h2;refine Qn1 (fun (i:Bool)=>Q92 p_ r_ i=R) (fun i=>[(0,AVal.own 0 0 1 0 p_.length),(1,J r_),(4,AVal.lit (.slice none 0 0)),(5,V (wu32 r_)),(25,Bo i)]) (fun i=>[(0,AObj.row 5 1 (p_.map (fun q_=>[Y q_])))]) ?_ ?_
  ·clear hR;rintro i hR;(try dsimp only at hR);refine ai (fun h3=>?_) (fun h4=>?_)
   ·refine ai gkA ?_;refine ai gkA ?_;refine Or.inl ?_;(first|refine ⟨Qp2 1 rfl lnA apA,?_⟩|refine ⟨Qk1 1 rfl apA,?_⟩);obtain rfl:=foll hR (ct h3 rfl);exact rq (tt [0] (tO rfl (tl eqA) .nil) (to 0 lnA))
   ·refine ai (fun h5=>?_) (fun h6=>?_)
    ·refine ai gkA ?_;refine ai gkA ?_;refine ai gkA ?_;refine Or.inl ?_;(first|refine ⟨Qp2 1 rfl lnA apA,?_⟩|refine ⟨Qk1 1 rfl apA,?_⟩);obtain rfl:=foll hR (cf h4 (ct h5 rfl));exact rq (tt [0] (tO rfl (tl eqA) .nil) (to 0 lnA))
    ·refine Or.inl ?_;(first|refine ⟨Qp2 1 rfl lnA apA,?_⟩|refine ⟨Qk1 1 rfl apA,?_⟩);obtain rfl:=foll hR (cf h4 (cf h6 rfl));exact rq (tt [0] (tO rfl (tl eqA) .nil) (to 0 lnA))
  ·refine ai (fun h7=>?_) (fun h8=>?_)
   ·have qh7:=of_decide_eq_true h7;exact Q70 (decide ((wu32 r_)<55296)) (wk [0] (tO rfl (tl eqA) .nil) (sv (to 0 lnA) (s1 (s1 (s1 (s1 .nil)))))) (foll hR (cf h2 (ct h7 rfl)))
   ·have qh8:=of_decide_eq_false h8;exact Q70 ((decide (57343<(wu32 r_)))&&(decide ((wu32 r_)<=65535))) (wk [0] (tO rfl (tl eqA) .nil) (sv (to 0 lnA) (s1 (s1 (s1 (s1 .nil)))))) (foll hR (cf h2 (cf h8 rfl)))
def Qz2 (f:Dep->Bool):List Dep->Nat->Int
 | [],_=>(-1)
 | x_ :: r,i=>bif (f x_) then (i:Int) else Qz2 f r (i+1)
def QL0 (s:List Dep) (f:Dep->Bool):Int:=Qz2 f s 0
def QO3 (s2:List Alt):List Alt->Nat->Bool
 | [],_=>true
 | x_ :: r,i=>bif (!((x_.nodes==(s2.getD i Alt.zero).nodes)&&(x_.wall==(s2.getD i Alt.zero).wall))) then false else QO3 s2 r (i+1)
def QI4 (s1_:List Alt) (s2:List Alt):Bool:=bif ((s1_.length:Int)!=(s2.length:Int)) then false else QO3 s2 s1_ 0
theorem QJ9 (s1_:List Alt) (s2:List Alt) (hs0:s1_.length<=4294967296) (hs1:s2.length<=4294967296):∀ objs,AGives Tryz.prog 172 [altL s1_,altL s2] objs (Bo (QI4 s1_ s2)):=by
 generalize hR:QI4 s1_ s2=R;refine ga (.cons lw (.cons lw .nil)) lx (kp 6 [10,12,13,14,24]) Tryz.func172 ?_;have hk0:=hs0;obtain z7:s1_.length<=4294967296:=hs0;have hk1:=hs1;obtain z8:s2.length<=4294967296:=hs1;refine ai (fun h1=>?_) (fun h2=>?_)
 ·obtain rfl:=foll hR (ct h1 rfl);exact Q00 lx sr
 ·refine Qh0 (fun (i:Nat)=>QO3 s2 (List.drop i s1_) i=R∧i<=s1_.length) (fun i=>s1_.length - i) (fun i=>[(0,altL s1_),(1,altL s2),(4,Bo false),(12,I (s1_.length:Int)),(13,I (i:Int))]) (fun i=>[]) 0 (wk [] .nil (sl lw (sl lw (s1 (s1 (s1 .nil)))))) ⟨foll hR (cf h2 rfl),by exact omA⟩ ?_;clear hR;rintro i ⟨hR,hj⟩;(try dsimp only at hR hj);refine ai (fun h3=>?_) (fun h4=>?_)
  ·have hlt:=ltA h3;rw [Qf0 Alt.zero hlt] at hR;refine dchk (by kernel_rfl) ?_;refine ai gkA ?_;refine ai gkA ?_;refine ai (fun _=>(by kernel_rfl:eqOK _ _=true)) ?_;(repeat ((first|refine ai rfl ?_|refine ai (fun _=>rfl) ?_)));refine ai (fun h5=>?_) (fun h6=>?_)
   ·obtain rfl:=foll hR (ct h5 rfl);exact Q00 lx sr
   ·exact Ql0 (i+1) (wk [] .nil (sl lw (sl lw (s1 (s1 (sv (Qd0 (I_eq (wr omA)) lx) .nil)))))) omA ⟨foll hR (cf h6 rfl),by exact omA⟩
  ·rw [Qg0 (l:=s1_) (j:=i) (geA h4)] at hR;obtain rfl:=foll hR rfl;exact Q00 lx sr
def QP3 (s2:List Dep):List Dep->Nat->Bool
 | [],_=>true
 | x_ :: r,i=>bif (!((x_.how==(s2.getD i Dep.zero).how)&&(x_.job==(s2.getD i Dep.zero).job))) then false else QP3 s2 r (i+1)
def QJ4 (s1_:List Dep) (s2:List Dep):Bool:=bif ((s1_.length:Int)!=(s2.length:Int)) then false else QP3 s2 s1_ 0
theorem QK9 (s1_:List Dep) (s2:List Dep) (hs0:s1_.length<=4294967296) (hs1:s2.length<=4294967296):∀ objs,AGives Tryz.prog 158 [depL s1_,depL s2] objs (Bo (QJ4 s1_ s2)):=by
 generalize hR:QJ4 s1_ s2=R;refine ga (.cons lw (.cons lw .nil)) lx (kp 6 [10,12,13,14,24]) Tryz.func158 ?_;have hk0:=hs0;obtain z7:s1_.length<=4294967296:=hs0;have hk1:=hs1;obtain z8:s2.length<=4294967296:=hs1;refine ai (fun h1=>?_) (fun h2=>?_)
 ·obtain rfl:=foll hR (ct h1 rfl);exact Q00 lx sr
 ·refine Qh0 (fun (i:Nat)=>QP3 s2 (List.drop i s1_) i=R∧i<=s1_.length) (fun i=>s1_.length - i) (fun i=>[(0,depL s1_),(1,depL s2),(4,Bo false),(12,I (s1_.length:Int)),(13,I (i:Int))]) (fun i=>[]) 0 (wk [] .nil (sl lw (sl lw (s1 (s1 (s1 .nil)))))) ⟨foll hR (cf h2 rfl),by exact omA⟩ ?_;clear hR;rintro i ⟨hR,hj⟩;(try dsimp only at hR hj);refine ai (fun h3=>?_) (fun h4=>?_)
  ·have hlt:=ltA h3;rw [Qf0 Dep.zero hlt] at hR;refine dchk (by kernel_rfl) ?_;refine ai gkA ?_;refine ai gkA ?_;refine ai (fun _=>(by kernel_rfl:eqOK _ _=true)) ?_;(repeat ((first|refine ai rfl ?_|refine ai (fun _=>rfl) ?_)));refine ai (fun h5=>?_) (fun h6=>?_)
   ·obtain rfl:=foll hR (ct h5 rfl);exact Q00 lx sr
   ·exact Ql0 (i+1) (wk [] .nil (sl lw (sl lw (s1 (s1 (sv (Qd0 (I_eq (wr omA)) lx) .nil)))))) omA ⟨foll hR (cf h6 rfl),by exact omA⟩
  ·rw [Qg0 (l:=s1_) (j:=i) (geA h4)] at hR;obtain rfl:=foll hR rfl;exact Q00 lx sr
def Qo5 (c:Cmd) (i1:Bool):Cmd:=bif i1 then (⟨c.kind,0,⟨#[]⟩,⟨#[]⟩,⟨#[]⟩,Shape.zero,0,false,0,false,[],c.node,0,0⟩:Cmd) else bif (c.kind==10) then (⟨c.kind,0,⟨#[]⟩,⟨#[]⟩,⟨#[]⟩,Shape.zero,0,false,c.time,c.hasTime,[],0,c.nodes,c.from_⟩:Cmd) else (⟨c.kind,0,⟨#[]⟩,⟨#[]⟩,⟨#[]⟩,Shape.zero,0,false,0,false,[],0,0,0⟩:Cmd)
def Q74 (c:Cmd) (i:Bool):Cmd:=bif i then (⟨c.kind,c.job,⟨#[]⟩,⟨#[]⟩,⟨#[]⟩,Shape.zero,0,false,0,false,[],0,0,0⟩:Cmd) else bif (c.kind==5) then (⟨c.kind,c.job,⟨#[]⟩,⟨#[]⟩,⟨#[]⟩,Shape.zero,c.prio,c.hasPrio,c.time,c.hasTime,[],0,0,0⟩:Cmd) else bif (c.kind==6) then (⟨c.kind,c.job,⟨#[]⟩,⟨#[]⟩,⟨#[]⟩,Shape.zero,0,false,0,false,[],0,c.nodes,0⟩:Cmd) else bif (c.kind==7) then Qo5 c (c.kind==7) else bif (c.kind==8) then Qo5 c (c.kind==8) else Qo5 c (c.kind==9)
def Qv6 (c:Cmd):Cmd:=bif (c.kind==1) then { c with job:=0,time:=0,hasTime:=false,node:=0,nodes:=0,from_:=0 } else bif (c.kind==2) then Q74 c (c.kind==2) else bif (c.kind==3) then Q74 c (c.kind==3) else bif (c.kind==4) then Q74 c (c.kind==4) else bif (c.kind==11) then Q74 c (c.kind==11) else Q74 c (c.kind==12)
theorem cmd_bare_c (c:Cmd) (hs0:c.sz):∀ objs,AGives Tryz.prog 120 [Cmd.a c] objs (Cmd.a (Qv6 c)):=by
 generalize hR:Qv6 c=R;refine ga (.cons (Cmd.low _ _) .nil) (Cmd.low _ _) (kj [1000011,1000019] 4 [8,9,32,41,58,66,73]) Tryz.func120 ?_;have hk0:=hs0;obtain ⟨z25,z26,z27,z28,z29⟩:c.name.size<=4294967296∧c.user.size<=4294967296∧c.account.size<=4294967296∧(c.shape.alts.length<=4294967296)∧c.after.length<=4294967296:=hs0;refine ai (fun h1=>?_) (fun h2=>?_)
 ·refine dchk (by kernel_rfl) ?_;(repeat ((first|refine ai rfl ?_|refine ai (fun _=>rfl) ?_)));(try (refine dchk (by kernel_rfl) ?_));(repeat ((first|refine ai rfl ?_|refine ai (fun _=>rfl) ?_)));obtain rfl:=foll hR (ct h1 rfl);exact Q00 (Cmd.low _ _) sr
 ·refine Qn1 (fun (i:Bool)=>Q74 c i=R) (fun i=>[(1,AVal.ptr 0 0 18 0 0),(2,AVal.ptr 1 0 18 0 0),(3,AVal.ptr 2 0 18 0 0),(8,I c.kind),(32,Bo i)]) (fun i=>[(0,AObj.row 119 18 [[I c.kind,I c.job,Sg c.name,Sg c.user,Sg c.account,I c.shape.kind,altL c.shape.alts,I c.shape.min,I c.shape.max,I c.shape.wall,I c.prio,Bo c.hasPrio,I c.time,Bo c.hasTime,depL c.after,I c.node,I c.nodes,I c.from_]]),(0,AObj.row 119 18 [[I 0,I 0,Sg ⟨#[]⟩,Sg ⟨#[]⟩,Sg ⟨#[]⟩,I 0,AVal.lit (.slice none 0 0),I 0,I 0,I 0,I 0,Bo false,I 0,Bo false,AVal.lit (.slice none 0 0),I 0,I 0,I 0]]),(0,AObj.row 119 18 [[I c.kind,I 0,Sg ⟨#[]⟩,Sg ⟨#[]⟩,Sg ⟨#[]⟩,I 0,AVal.lit (.slice none 0 0),I 0,I 0,I 0,I 0,Bo false,I 0,Bo false,AVal.lit (.slice none 0 0),I 0,I 0,I 0]])]) ?_ ?_
  ·clear hR;rintro i hR;(try dsimp only at hR);refine ai (fun h3=>?_) (fun h4=>?_)
   ·obtain rfl:=foll hR (ct h3 rfl);exact Q00 (Cmd.low _ _) (Seen.agg (e1 (e1 (e1 (e1 (e1 (e1 (ev (QT0) (e1 (e1 (e1 (e1 (e1 (e1 (e1 (ev (QT0) (e1 (e1 (e1 .nil)))))))))))))))))))
   ·refine ai (fun h5=>?_) (fun h6=>?_)
    ·refine dchk (by kernel_rfl) ?_;(repeat ((first|refine ai rfl ?_|refine ai (fun _=>rfl) ?_)));obtain rfl:=foll hR (cf h4 (ct h5 rfl));exact Q00 (Cmd.low _ _) (Seen.agg (e1 (e1 (e1 (e1 (e1 (e1 (ev (QT0) (e1 (e1 (e1 (e1 (e1 (e1 (e1 (ev (QT0) (e1 (e1 (e1 .nil)))))))))))))))))))
    ·refine ai (fun h7=>?_) (fun h8=>?_)
     ·refine dchk (by kernel_rfl) ?_;(repeat ((first|refine ai rfl ?_|refine ai (fun _=>rfl) ?_)));obtain rfl:=foll hR (cf h4 (cf h6 (ct h7 rfl)));exact Q00 (Cmd.low _ _) (Seen.agg (e1 (e1 (e1 (e1 (e1 (e1 (ev (QT0) (e1 (e1 (e1 (e1 (e1 (e1 (e1 (ev (QT0) (e1 (e1 (e1 .nil)))))))))))))))))))
     ·refine Qn1 (fun (i1:Bool)=>Qo5 c i1=R) (fun i1=>[(1,AVal.ptr 0 0 18 0 0),(2,AVal.ptr 1 0 18 0 0),(3,AVal.ptr 2 0 18 0 0),(8,I c.kind),(66,Bo i1)]) (fun i1=>[(0,AObj.row 119 18 [[I c.kind,I c.job,Sg c.name,Sg c.user,Sg c.account,I c.shape.kind,altL c.shape.alts,I c.shape.min,I c.shape.max,I c.shape.wall,I c.prio,Bo c.hasPrio,I c.time,Bo c.hasTime,depL c.after,I c.node,I c.nodes,I c.from_]]),(0,AObj.row 119 18 [[I 0,I 0,Sg ⟨#[]⟩,Sg ⟨#[]⟩,Sg ⟨#[]⟩,I 0,AVal.lit (.slice none 0 0),I 0,I 0,I 0,I 0,Bo false,I 0,Bo false,AVal.lit (.slice none 0 0),I 0,I 0,I 0]]),(0,AObj.row 119 18 [[I c.kind,I 0,Sg ⟨#[]⟩,Sg ⟨#[]⟩,Sg ⟨#[]⟩,I 0,AVal.lit (.slice none 0 0),I 0,I 0,I 0,I 0,Bo false,I 0,Bo false,AVal.lit (.slice none 0 0),I 0,I 0,I 0]])]) ?_ ?_
      ·clear hR;rintro i1 hR;(try dsimp only at hR);refine ai (fun h9=>?_) (fun h10=>?_)
       ·obtain rfl:=foll hR (ct h9 rfl);exact Q00 (Cmd.low _ _) (Seen.agg (e1 (e1 (e1 (e1 (e1 (e1 (ev (QT0) (e1 (e1 (e1 (e1 (e1 (e1 (e1 (ev (QT0) (e1 (e1 (e1 .nil)))))))))))))))))))
       ·refine ai (fun h11=>?_) (fun h12=>?_)
        ·refine dchk (by kernel_rfl) ?_;(repeat ((first|refine ai rfl ?_|refine ai (fun _=>rfl) ?_)));obtain rfl:=foll hR (cf h10 (ct h11 rfl));exact Q00 (Cmd.low _ _) (Seen.agg (e1 (e1 (e1 (e1 (e1 (e1 (ev (QT0) (e1 (e1 (e1 (e1 (e1 (e1 (e1 (ev (QT0) (e1 (e1 (e1 .nil)))))))))))))))))))
        ·obtain rfl:=foll hR (cf h10 (cf h12 rfl));exact Q00 (Cmd.low _ _) (Seen.agg (e1 (e1 (e1 (e1 (e1 (e1 (ev (QT0) (e1 (e1 (e1 (e1 (e1 (e1 (e1 (ev (QT0) (e1 (e1 (e1 .nil)))))))))))))))))))
      ·refine ai (fun h13=>?_) (fun h14=>?_)
       ·exact Q70 (c.kind==7) (wk [0,1,2] (tO rfl (ts Cmd.lo) (tO rfl (ts (l1 (l1 (l1 (l1 (l1 (l1 (l1 (l1 (l1 (l1 (l1 (l1 (l1 (l1 (l1 (l1 (l1 (l1 LowL.nil))))))))))))))))))) (tO rfl (ts (l1 (l1 (l1 (l1 (l1 (l1 (l1 (l1 (l1 (l1 (l1 (l1 (l1 (l1 (l1 (l1 (l1 (l1 LowL.nil))))))))))))))))))) .nil))) (sv (Q10 0 rfl rfl) (sv (Q10 1 rfl rfl) (sv (Q10 2 rfl rfl) (s1 (s1 .nil)))))) (foll hR (cf h4 (cf h6 (cf h8 (ct h13 rfl)))))
       ·refine ai (fun h15=>?_) (fun h16=>?_)
        ·exact Q70 (c.kind==8) (wk [0,1,2] (tO rfl (ts Cmd.lo) (tO rfl (ts (l1 (l1 (l1 (l1 (l1 (l1 (l1 (l1 (l1 (l1 (l1 (l1 (l1 (l1 (l1 (l1 (l1 (l1 LowL.nil))))))))))))))))))) (tO rfl (ts (l1 (l1 (l1 (l1 (l1 (l1 (l1 (l1 (l1 (l1 (l1 (l1 (l1 (l1 (l1 (l1 (l1 (l1 LowL.nil))))))))))))))))))) .nil))) (sv (Q10 0 rfl rfl) (sv (Q10 1 rfl rfl) (sv (Q10 2 rfl rfl) (s1 (s1 .nil)))))) (foll hR (cf h4 (cf h6 (cf h8 (cf h14 (ct h15 rfl))))))
        ·exact Q70 (c.kind==9) (wk [0,1,2] (tO rfl (ts Cmd.lo) (tO rfl (ts (l1 (l1 (l1 (l1 (l1 (l1 (l1 (l1 (l1 (l1 (l1 (l1 (l1 (l1 (l1 (l1 (l1 (l1 LowL.nil))))))))))))))))))) (tO rfl (ts (l1 (l1 (l1 (l1 (l1 (l1 (l1 (l1 (l1 (l1 (l1 (l1 (l1 (l1 (l1 (l1 (l1 (l1 LowL.nil))))))))))))))))))) .nil))) (sv (Q10 0 rfl rfl) (sv (Q10 1 rfl rfl) (sv (Q10 2 rfl rfl) (s1 (s1 .nil)))))) (foll hR (cf h4 (cf h6 (cf h8 (cf h14 (cf h16 rfl))))))
  ·refine ai (fun h17=>?_) (fun h18=>?_)
   ·exact Q70 (c.kind==2) (wk [0,1,2] (tO rfl (ts Cmd.lo) (tO rfl (ts (l1 (l1 (l1 (l1 (l1 (l1 (l1 (l1 (l1 (l1 (l1 (l1 (l1 (l1 (l1 (l1 (l1 (l1 LowL.nil))))))))))))))))))) (tO rfl (ts (l1 (l1 (l1 (l1 (l1 (l1 (l1 (l1 (l1 (l1 (l1 (l1 (l1 (l1 (l1 (l1 (l1 (l1 LowL.nil))))))))))))))))))) .nil))) (sv (Q10 0 rfl rfl) (sv (Q10 1 rfl rfl) (sv (Q10 2 rfl rfl) (s1 (s1 .nil)))))) (foll hR (cf h2 (ct h17 rfl)))
   ·refine ai (fun h19=>?_) (fun h20=>?_)
    ·exact Q70 (c.kind==3) (wk [0,1,2] (tO rfl (ts Cmd.lo) (tO rfl (ts (l1 (l1 (l1 (l1 (l1 (l1 (l1 (l1 (l1 (l1 (l1 (l1 (l1 (l1 (l1 (l1 (l1 (l1 LowL.nil))))))))))))))))))) (tO rfl (ts (l1 (l1 (l1 (l1 (l1 (l1 (l1 (l1 (l1 (l1 (l1 (l1 (l1 (l1 (l1 (l1 (l1 (l1 LowL.nil))))))))))))))))))) .nil))) (sv (Q10 0 rfl rfl) (sv (Q10 1 rfl rfl) (sv (Q10 2 rfl rfl) (s1 (s1 .nil)))))) (foll hR (cf h2 (cf h18 (ct h19 rfl))))
    ·refine ai (fun h21=>?_) (fun h22=>?_)
     ·exact Q70 (c.kind==4) (wk [0,1,2] (tO rfl (ts Cmd.lo) (tO rfl (ts (l1 (l1 (l1 (l1 (l1 (l1 (l1 (l1 (l1 (l1 (l1 (l1 (l1 (l1 (l1 (l1 (l1 (l1 LowL.nil))))))))))))))))))) (tO rfl (ts (l1 (l1 (l1 (l1 (l1 (l1 (l1 (l1 (l1 (l1 (l1 (l1 (l1 (l1 (l1 (l1 (l1 (l1 LowL.nil))))))))))))))))))) .nil))) (sv (Q10 0 rfl rfl) (sv (Q10 1 rfl rfl) (sv (Q10 2 rfl rfl) (s1 (s1 .nil)))))) (foll hR (cf h2 (cf h18 (cf h20 (ct h21 rfl)))))
     ·refine ai (fun h23=>?_) (fun h24=>?_)
      ·exact Q70 (c.kind==11) (wk [0,1,2] (tO rfl (ts Cmd.lo) (tO rfl (ts (l1 (l1 (l1 (l1 (l1 (l1 (l1 (l1 (l1 (l1 (l1 (l1 (l1 (l1 (l1 (l1 (l1 (l1 LowL.nil))))))))))))))))))) (tO rfl (ts (l1 (l1 (l1 (l1 (l1 (l1 (l1 (l1 (l1 (l1 (l1 (l1 (l1 (l1 (l1 (l1 (l1 (l1 LowL.nil))))))))))))))))))) .nil))) (sv (Q10 0 rfl rfl) (sv (Q10 1 rfl rfl) (sv (Q10 2 rfl rfl) (s1 (s1 .nil)))))) (foll hR (cf h2 (cf h18 (cf h20 (cf h22 (ct h23 rfl))))))
      ·exact Q70 (c.kind==12) (wk [0,1,2] (tO rfl (ts Cmd.lo) (tO rfl (ts (l1 (l1 (l1 (l1 (l1 (l1 (l1 (l1 (l1 (l1 (l1 (l1 (l1 (l1 (l1 (l1 (l1 (l1 LowL.nil))))))))))))))))))) (tO rfl (ts (l1 (l1 (l1 (l1 (l1 (l1 (l1 (l1 (l1 (l1 (l1 (l1 (l1 (l1 (l1 (l1 (l1 (l1 LowL.nil))))))))))))))))))) .nil))) (sv (Q10 0 rfl rfl) (sv (Q10 1 rfl rfl) (sv (Q10 2 rfl rfl) (s1 (s1 .nil)))))) (foll hR (cf h2 (cf h18 (cf h20 (cf h22 (cf h24 rfl))))))
theorem Qn8 (c:Cmd) (b:Bool):(Qo5 c b).sz:=by
 cases b <;> simp only [Qo5,cond_true,cond_false]
 ·cases (c.kind==10) <;> simp [Cmd.sz,Cmd.szN,Shape.szN,Shape.zero,ByteArray.size]
 ·simp [Cmd.sz,Cmd.szN,Shape.szN,Shape.zero,ByteArray.size]
theorem Qy5 (c:Cmd) (b:Bool):(Q74 c b).sz:=by
 cases b <;> simp only [Q74,cond_true,cond_false]
 ·cases (c.kind==5) <;> simp only [cond_true,cond_false]
  ·cases (c.kind==6) <;> simp only [cond_true,cond_false]
   ·cases (c.kind==7) <;> simp only [cond_true,cond_false]
    ·cases (c.kind==8) <;> simp only [cond_true,cond_false] <;> exact Qn8 _ _
    ·exact Qn8 _ _
   ·simp [Cmd.sz,Cmd.szN,Shape.szN,Shape.zero,ByteArray.size]
  ·simp [Cmd.sz,Cmd.szN,Shape.szN,Shape.zero,ByteArray.size]
 ·simp [Cmd.sz,Cmd.szN,Shape.szN,Shape.zero,ByteArray.size]
theorem Q84 (c:Cmd) (h:c.sz):(Qv6 c).sz:=by
 unfold Qv6
 cases (c.kind==1) <;> simp only [cond_true,cond_false]
 ·cases (c.kind==2) <;> simp only [cond_true,cond_false]
  ·cases (c.kind==3) <;> simp only [cond_true,cond_false]
   ·cases (c.kind==4) <;> simp only [cond_true,cond_false]
    ·cases (c.kind==11) <;> simp only [cond_true,cond_false] <;> exact Qy5 _ _
    ·exact Qy5 _ _
   ·exact Qy5 _ _
  ·exact Qy5 _ _
 ·exact h
def Qm1 (v:Job):Cmd:=(⟨1,0,v.name,v.user,v.account,v.shape,v.prio,true,0,false,v.after,0,0,0⟩:Cmd)
theorem QO5 (v:Job):∀ objs,AGives Tryz.prog 78 [Job.a v] objs (Cmd.a (Qm1 v)):=by
 generalize hR:Qm1 v=R;refine ga (.cons (Job.low _ _) .nil) (Cmd.low _ _) (kp 3 []) Tryz.func78 ?_;obtain rfl:=foll hR rfl;exact Q00 (Cmd.low _ _) sr
theorem QI9 (l:List Alt) (hs0:l.length<=4294967296):AMoves Tryz.prog 85 [altL l] [] 0 (AVal.own 0 0 2 0 l.length) [(0,AObj.row 87 2 (l.map Alt.cells))]:=by
 refine AMoves.of_cwp (fun _=>true) Tryz.func85 rfl rfl rfl ?_
 obtain z1:l.length<=4294967296:=hs0
 intro b hb
 refine ai (fun h1=>?_) (fun h2=>?_)
 ·have hl:l=[]:=by
   rcases l with _|⟨x,r⟩
   ·rfl
   ·exact absurd ((hb (by simp)).symm.trans h1) (by decide)
  subst hl
  refine Qn0 (fun r:List Alt=>AVal.own 0 0 2 0 r.length) (fun r:List Alt=>[(0,AObj.row 87 2 (r.map Alt.cells))]) (leaf:=[]) rfl ?_
  exact Told.pad 87 2 (Q65 [0] rfl (by decide) (tO rfl (tl eqA) .nil) (QL1 0 rfl))
 ·refine ⟨Qk1 16 rfl apA,?_⟩
  refine Qn0 (fun r:List Alt=>AVal.own 0 0 2 0 r.length) (fun r:List Alt=>[(0,AObj.row 87 2 (r.map Alt.cells))]) (leaf:=l) rfl ?_
  exact Q65 [0] rfl (by decide) (tO rfl (tl eqA) .nil) (to 0 lnA)
def oc1 (x_:Int):Int:=(wu64 ((wu64 (BitVec.ofInt 64 (Int.fdiv x_ (2 ^ (min (Int.toNat 1) 64))) &&& BitVec.ofInt 64 6148914691236517205).toNat)+(wu64 (BitVec.ofInt 64 x_ &&& BitVec.ofInt 64 6148914691236517205).toNat)))
def oc2 (x_:Int):Int:=(wu64 ((wu64 (BitVec.ofInt 64 (Int.fdiv x_ (2 ^ (min (Int.toNat 2) 64))) &&& BitVec.ofInt 64 3689348814741910323).toNat)+(wu64 (BitVec.ofInt 64 x_ &&& BitVec.ofInt 64 3689348814741910323).toNat)))
def oc3 (x_:Int):Int:=(wu64 (BitVec.ofInt 64 (wu64 ((Int.fdiv x_ (2 ^ (min (Int.toNat 4) 64)))+x_)) &&& BitVec.ofInt 64 1085102592571150095).toNat)
def QF4 (x_:Int):Int:=(w64 (BitVec.ofInt 64 (w64 (wu64 ((wu64 ((wu64 ((oc3 (oc2 (oc1 x_)))+(Int.fdiv (oc3 (oc2 (oc1 x_))) (2 ^ (min (Int.toNat 8) 64)))))+(Int.fdiv (wu64 ((oc3 (oc2 (oc1 x_)))+(Int.fdiv (oc3 (oc2 (oc1 x_))) (2 ^ (min (Int.toNat 8) 64))))) (2 ^ (min (Int.toNat 16) 64)))))+(Int.fdiv (wu64 ((wu64 ((oc3 (oc2 (oc1 x_)))+(Int.fdiv (oc3 (oc2 (oc1 x_))) (2 ^ (min (Int.toNat 8) 64)))))+(Int.fdiv (wu64 ((oc3 (oc2 (oc1 x_)))+(Int.fdiv (oc3 (oc2 (oc1 x_))) (2 ^ (min (Int.toNat 8) 64))))) (2 ^ (min (Int.toNat 16) 64))))) (2 ^ (min (Int.toNat 32) 64)))))) &&& BitVec.ofInt 64 127).toNat)
theorem QV8 (x_:Int):∀ objs,AGives Tryz.prog 56 [U x_] objs (I (QF4 x_)):=by
 generalize hR:QF4 x_=R;refine ga (l1 .nil) lx (kp 3 []) Tryz.func56 ?_;refine ai gkA ?_;refine ai gkA ?_;refine ai gkA ?_;refine ai gkA ?_;refine ai gkA ?_;refine ai gkA ?_;obtain rfl:=foll hR rfl;exact Q00 lx sr
def Qq2 (n:Int):Int:=(wu64 (1*2 ^ (min (Int.toNat (wu64 n)) 64)))
theorem Qu7 (n:Int):∀ objs,AGives Tryz.prog 141 [I n] objs (U (Qq2 n)):=by
 generalize hR:Qq2 n=R;refine ga (l1 .nil) lx (kp 3 []) Tryz.func141 ?_;refine ai gkA ?_;obtain rfl:=foll hR rfl;exact Q00 lx sr
def Ql6 (state:Int):Bool:=((decide (state >= 3))&&(decide (state<=7)))
theorem job_ended_c (state:Int):∀ objs,AGives Tryz.prog 83 [I state] objs (Bo (Ql6 state)):=by
 generalize hR:Ql6 state=R;refine ga (l1 .nil) lx (kp 3 []) Tryz.func83 ?_;obtain rfl:=foll hR rfl;exact Q00 lx sr
def QS6 (b:Book):Bool:=(((((((decide (b.id >= 1))&&(decide (b.id<=99999)))&&(decide (b.from_ >= 0)))&&(decide (b.to > b.from_)))&&(decide (b.to<=1000000)))&&(decide (b.nodes >= 1)))&&(decide (b.nodes<=48)))
theorem Qfb (b:Book):∀ objs,AGives Tryz.prog 65 [Book.a b] objs (Bo (QS6 b)):=by
 generalize hR:QS6 b=R;refine ga (.cons (Book.low _ _) .nil) lx (kp 3 []) Tryz.func65 ?_;obtain rfl:=foll hR rfl;exact Q00 lx sr
def QA0 (x_:Node) (limits:List (Int × Int)):Int:=bif (((x_.state==0)||(x_.state==4))||x_.drain) then 0 else bif (x_.state==3) then (w64 (x_.since+12)) else bif (!(getM x_.job limits).isSome) then 1000001 else (w64 (((getM x_.job limits).getD 0)+12))
theorem QGa (x_:Node) (limits:List (Int × Int)):AMoves Tryz.prog 37 [Node.a x_,AVal.map 0] [(0,AObj.other (.map (mapEs ik I 0 limits) limits.length))] 1 (I (QA0 x_ limits)) [(0,AObj.other (.map (mapEs ik I 0 limits) limits.length))]:=by
 generalize hR:QA0 x_ limits=R;refine mo (kp 7 [7,20,35]) Tryz.func37 ?_;refine ai (fun h1=>?_) (fun h2=>?_)
 ·obtain rfl:=foll hR (ct h1 rfl);exact rq (tt [0] (tO rfl (Qv2 _ rfl rfl (fun _=>lx)) .nil) t1)
 ·refine ai (fun h3=>?_) (fun h4=>?_)
  ·obtain rfl:=foll hR (cf h2 (ct h3 rfl));exact rq (tt [0] (tO rfl (Qv2 _ rfl rfl (fun _=>lx)) .nil) t1)
  ·(first|refine ⟨_,_,QY2 rfl _ _,QR2 (ek:=ik) x_.job limits 0 (AsA.refl _),?_⟩|refine ⟨_,fun _=>⟨_,_,QY2 rfl _ _,QR2 (ek:=ik) x_.job limits 0 (AsA.refl _),rfl,rfl⟩,?_⟩|refine ⟨_,rfl,⟨_,_,QY2 rfl _ _,QR2 (ek:=ik) x_.job limits 0 (AsA.refl _),Sub.refl _,rfl⟩,?_⟩);refine ai (fun h5=>?_) (fun h6=>?_)
   ·obtain rfl:=foll hR (cf h2 (cf h4 (ct h5 rfl)));exact rq (tt [0] (tO rfl (Qv2 _ rfl rfl (fun _=>lx)) .nil) t1)
   ·obtain rfl:=foll hR (cf h2 (cf h4 (cf h6 rfl)));exact rq (tt [0] (tO rfl (Qv2 _ rfl rfl (fun _=>lx)) .nil) t1)
end Go.Proofs.YtiiaifgeekdpaaaGreatDoor
namespace Go.Proofs.YtiiaifgeekdpaaaGreatDoor
set_option linter.unusedSimpArgs false
set_option linter.unusedVariables false
open Go.Fw
set_option maxRecDepth 20000
set_option maxHeartbeats 4000000
attribute [local irreducible] ACalls AMoves
def QD1 :List Job->Nat->List (Int × Int)->(List (Int × Int))
 | [],_,c=>c
 | x_ :: r,i,c=>bif (x_.state==2) then QD1 r (i+1) (setM x_.id x_.limit c) else QD1 r (i+1) c
def Q34 (c:List (Int × Int)):(List (Int × Int)):=c
def Qi0 (l:List Job):(List (Int × Int)):=Q34 (QD1 l 0 [])
theorem QE9 (l:List Job) (hs0:l.length<=4294967296∧(∀ y ∈ l,y.sz)):AMoves Tryz.prog 38 [jobL l] [] 0 (AVal.map 0) [(0,AObj.other (.map (mapEs ik I 0 (Qi0 l)) (Qi0 l).length))]:=by
 generalize hR:Qi0 l=R;refine mo (kp 6 [7,8,9,10,15]) Tryz.func38 ?_;have hk0:=hs0;obtain ⟨z10,z11⟩:l.length<=4294967296∧(∀ y ∈ l,y.sz):=hs0;refine Qj0 (fun (i:Nat) (c:List (Int × Int))=>Q34 (QD1 (List.drop i l) i c)=R∧i<=l.length) (fun i c=>l.length - i) (fun i c=>[(2,AVal.lit (.map none)),(3,AVal.map 0),(7,jobL l),(8,I (l.length:Int)),(9,I (i:Int))]) (fun i c=>[(0,AObj.other (.map (mapEs ik I 0 c) c.length))]) 0 [] (wk [0] (tO rfl (Qv2 _ rfl rfl (fun _=>lx)) .nil) (s1 (sv (QK4 0 rfl rfl) (sl lw (s1 (s1 .nil)))))) ⟨foll hR rfl,by exact omA⟩ ?_;clear hR;rintro i c ⟨hR,hj⟩;(try dsimp only at hR hj);refine ai (fun h1=>?_) (fun h2=>?_)
 ·have hlt:=ltA h1;rw [Qf0 Job.zero hlt] at hR;have hxz:(l.getD i Job.zero).sz:=Qk6 (by first|assumption|grind) (Job.szz _);have hkz:=hxz;obtain ⟨z3,z4,z5,z6,z7⟩:((l.getD i Job.zero).name).size<=4294967296∧((l.getD i Job.zero).user).size<=4294967296∧((l.getD i Job.zero).account).size<=4294967296∧((((l.getD i Job.zero).shape).alts).length<=4294967296)∧((l.getD i Job.zero).after).length<=4294967296:=hxz;refine ai gkA ?_;refine ai (fun h8=>?_) (fun h9=>?_)
  ·refine ⟨_,_,QY2 rfl _ _,putM_map (ek:=ik) ((l.getD i Job.zero).id) ((l.getD i Job.zero).limit) c rfl rfl,?_⟩;exact Qa0 (i+1) (setM (l.getD i Job.zero).id (l.getD i Job.zero).limit c) (wk [0] (tO rfl (Qv2 _ rfl rfl (fun _=>lx)) .nil) (s1 (sv (QK4 0 rfl rfl) (sl lw (s1 (sv (Qd0 (I_eq (wr omA)) lx) .nil)))))) omA ⟨foll hR (congrArg (fun p:(List (Int × Int))=>Q34 p) (ct h8 rfl)),by exact omA⟩
  ·exact Qa0 (i+1) c (wk [0] (tO rfl (Qv2 _ rfl rfl (fun _=>lx)) .nil) (s1 (sv (QK4 0 rfl rfl) (sl lw (s1 (sv (Qd0 (I_eq (wr omA)) lx) .nil)))))) omA ⟨foll hR (congrArg (fun p:(List (Int × Int))=>Q34 p) (cf h9 rfl)),by exact omA⟩
 ·rw [Qg0 (l:=l) (j:=i) (geA h2)] at hR;replace hR:Q34 c=R:=fo2 (fun p:(List (Int × Int))=>Q34 p) (c) hR rfl;obtain rfl:=foll hR rfl;exact rq (tt [0] (tO rfl (Qv2 _ rfl rfl (fun _=>lx)) .nil) (QK4 0 rfl rfl))
def Q52 (n:Int):(List Step):=([(⟨0,(min (max n (-1000000)) 1000000)⟩:Step)]:List Step)
theorem profile_Flat_c (n:Int):∀ objs,AGives Tryz.prog 40 [I n] objs (stepL (Q52 n)):=by
 generalize hR:Q52 n=R;refine ga (l1 .nil) lw (kp 3 []) Tryz.func40 ?_;refine Or.inl ?_;obtain rfl:=foll hR rfl;exact Q00 lw (Qcc (Q75 (c:=Step.cells) (d:=Step.zero) ([(⟨0,(min (max n (-1000000)) 1000000)⟩:Step)]:List Step) rfl))
def Q62 (n:Int):Bool:=((decide (n >= (-1000000)))&&(decide (n<=1000000)))
theorem QJ6 (n:Int):∀ objs,AGives Tryz.prog 91 [I n] objs (Bo (Q62 n)):=by
 generalize hR:Q62 n=R;refine ga (l1 .nil) lx (kp 3 []) Tryz.func91 ?_;obtain rfl:=foll hR rfl;exact Q00 lx sr
def Q22 (t:Int):Bool:=((decide (t >= 0))&&(decide (t<=1000000)))
theorem Qya (t:Int):∀ objs,AGives Tryz.prog 54 [I t] objs (Bo (Q22 t)):=by
 generalize hR:Q22 t=R;refine ga (l1 .nil) lx (kp 3 []) Tryz.func54 ?_;obtain rfl:=foll hR rfl;exact Q00 lx sr
theorem Qw9 {t n:Int} {b:Bool} (h:(((!(Q22 t))||(decide (n<t)))||b)=false):0<=t:=by
 simp [Q22] at h
 omega
def QM0 (f:Int->Bool):Nat->Int->Int->Int × Int
 | 0,_,_=>(0,0)
 | m+1,i,j=>bif (decide (i<j)) then bif (!(f (w64 (Int.fdiv (wu64 (w64 (i+j))) (2 ^ (min (Int.toNat 1) 64)))))) then QM0 f m (w64 ((w64 (Int.fdiv (wu64 (w64 (i+j))) (2 ^ (min (Int.toNat 1) 64))))+1)) j else QM0 f m i (w64 (Int.fdiv (wu64 (w64 (i+j))) (2 ^ (min (Int.toNat 1) 64)))) else (i,j)
def Q54 (i:Int) (j:Int):Int:=i
def Qh1 (n:Int) (f:Int->Bool):Int:=Q54 ((QM0 f ((Int.toNat (n - 0))+1) 0 n).1) ((QM0 f ((Int.toNat (n - 0))+1) 0 n).2)
theorem QP6 (f:Int->Bool) {N:Nat} (hN:N<=4294967296):∀ (m:Nat) (i j:Int),0<=i->i<=j->j<=N->Int.toNat (j - i)<m->i<=(QM0 f m i j).1∧(QM0 f m i j).1<=j∧(i<(QM0 f m i j).1->f ((QM0 f m i j).1 - 1)=false)∧((QM0 f m i j).1<j->f (QM0 f m i j).1=true)
 | 0,_,_,_,_,_,hm=>absurd hm (Nat.not_lt_zero _)
 | m+1,i,j,h0,hij,hj,hm=>by
  unfold QM0
  cases hc:decide (i<j) with
  | false =>
   have:=of_decide_eq_false hc
   simp only [cond_false]
   exact ⟨Int.le_refl _,by omega,fun h=>absurd h (by omega),fun h=>absurd h (by omega)⟩
  | true =>
   have hlt:=of_decide_eq_true hc
   have hh:w64 (Int.fdiv (wu64 (w64 (i+j))) (2 ^ (min (Int.toNat 1) 64)))=(i+j) / 2:=Qzb h0 hlt hj (by omega)
   have hw:w64 ((i+j) / 2+1)=(i+j) / 2+1:=wr (by omega)
   simp only [cond_true,hh,hw]
   cases hf:f ((i+j) / 2) with
   | false =>
    simp only [Bool.not_false,cond_true]
    obtain ⟨a,b,c,d⟩:=QP6 f hN m ((i+j) / 2+1) j (by omega) (by omega) hj (by omega)
    refine ⟨by omega,b,fun _=>?_,d⟩
    by_cases h:(i+j) / 2+1<(QM0 f m ((i+j) / 2+1) j).1
    ·exact c h
    ·rw [show (QM0 f m ((i+j) / 2+1) j).1 - 1=(i+j) / 2 by omega]
     exact hf
   | true =>
    simp only [Bool.not_true,cond_false]
    obtain ⟨a,b,c,d⟩:=QP6 f hN m i ((i+j) / 2) h0 (by omega) (by omega) (by omega)
    refine ⟨a,by omega,c,fun h=>?_⟩
    by_cases h2:(QM0 f m i ((i+j) / 2)).1<(i+j) / 2
    ·exact d h2
    ·rw [show (QM0 f m i ((i+j) / 2)).1=(i+j) / 2 by omega]
     exact hf
theorem QF7 (f:Int->Bool) {N:Nat} (hN:N<=4294967296):0<=Qh1 (N:Int) f∧Qh1 (N:Int) f<=N∧(0<Qh1 (N:Int) f->f (Qh1 (N:Int) f - 1)=false)∧(Qh1 (N:Int) f<N->f (Qh1 (N:Int) f)=true) :=
 QP6 f hN _ 0 N (Int.le_refl _) (by omega) (Int.le_refl _) (by omega)
theorem QO8 (l:List Step) (hs0:l.length<=4294967296):AMoves Tryz.prog 114 [stepL l] [] 0 (AVal.own 0 0 2 0 l.length) [(0,AObj.row 67 2 (l.map Step.cells))]:=by
 refine AMoves.of_cwp (fun _=>true) Tryz.func114 rfl rfl rfl ?_
 obtain z6:l.length<=4294967296:=hs0
 intro b hb
 refine ai (fun h1=>?_) (fun h2=>?_)
 ·have hl:l=[]:=by
   rcases l with _|⟨x,r⟩
   ·rfl
   ·exact absurd ((hb (by simp)).symm.trans h1) (by decide)
  subst hl
  refine Qn0 (fun r:List Step=>AVal.own 0 0 2 0 r.length) (fun r:List Step=>[(0,AObj.row 67 2 (r.map Step.cells))]) (leaf:=[]) rfl ?_
  exact Told.pad 67 2 (Q65 [0] rfl (by decide) (tO rfl (tl eqA) .nil) (QL1 0 rfl))
 ·refine ⟨Qk1 16 rfl apA,?_⟩
  refine Qn0 (fun r:List Step=>AVal.own 0 0 2 0 r.length) (fun r:List Step=>[(0,AObj.row 67 2 (r.map Step.cells))]) (leaf:=l) rfl ?_
  exact Q65 [0] rfl (by decide) (tO rfl (tl eqA) .nil) (to 0 lnA)
def QI0 (at_:Int) (free:Int) (out:List Step):List Step:=bif (((out.length:Int)==0)||((out.getD (Int.toNat (w64 ((out.length:Int) - 1))) Step.zero).free != free)) then (out++([(⟨at_,free⟩:Step)]:List Step)) else out
theorem Q13 (at_:Int) (free:Int) (out:List Step) (hs0:out.length<=4294967296):AMoves Tryz.prog 115 [I at_,I free,AVal.ptr 0 0 1 0 0] [(0,AObj.row 36 1 [[AVal.own 1 0 2 0 out.length]]),(0,AObj.row 67 2 (out.map Step.cells))] 1 (AVal.tup []) [(0,AObj.row 36 1 [[AVal.own 1 0 2 0 (QI0 at_ free out).length]]),(0,AObj.row 67 2 ((QI0 at_ free out).map Step.cells))]:=by
 generalize hR:QI0 at_ free out=R;refine mo (kp 6 [19]) Tryz.func115 ?_;have hk0:=hs0;obtain z3:out.length<=4294967296:=hs0;refine ai gkA ?_;refine ⟨_,fun hg=>QA3 rfl rfl rfl (QH4 Step.zero (Int.toNat (w64 ((out.length:Int) - 1))) (by first|rfl|exact Nat.zero_add _|omega) ckA) rfl,?_⟩;refine ai (fun h1=>?_) (fun h2=>?_)
 ·refine Or.inl ?_;(first|refine ⟨Qp2 16 rfl lnA apA,?_⟩|refine ⟨Qk1 16 rfl apA,?_⟩);obtain rfl:=foll hR (ct h1 rfl);exact rq (tt [0,1] (tO rfl (Qs0 (cv (to 1 lnA) .nil)) (tO rfl (tl eqA) .nil)) t1)
 ·obtain rfl:=foll hR (cf h2 rfl);exact rq (tt [0,1] (tO rfl (Qs0 (cv (to 1 lnA) .nil)) (tO rfl (tl eqA) .nil)) t1)
theorem Q30 (a f:Int) (out:List Step):(QI0 a f out).length<=out.length+1:=by
 unfold QI0
 cases (((out.length:Int)==0)||((out.getD (Int.toNat (w64 ((out.length:Int) - 1))) Step.zero).free != f)) with
 | true=>simp
 | false=>simp
def law20_two :State:=(⟨4,([(⟨1,5,1,false,0,0,0⟩:Node),Node.zero]:List Node),([(⟨5,⟨#[97]⟩,⟨#[117]⟩,⟨#[120]⟩,(⟨1,([(⟨1,60⟩:Alt)]:List Alt),0,0,0⟩:Shape),0,[],2,false,0,4,0,4,64,1,0⟩:Job)]:List Job),[],[],[],0,0⟩:State)
theorem Qn7 :∀ objs,AGives Tryz.prog 29 [] objs (State.a law20_two):=by
 generalize hR:law20_two=R;refine ga .nil (State.low _ _) (kp 2 []) Tryz.func29 ?_;refine Or.inl ?_;refine Or.inl ?_;refine Or.inl ?_;obtain rfl:=foll hR rfl;exact Q00 (State.low _ _) (Seen.agg (e1 (ev (Qcc (Q75 (c:=Node.cells) (d:=Node.zero) ([(⟨1,5,1,false,0,0,0⟩:Node),Node.zero]:List Node) rfl)) (ev (Qcc (as_deep (c:=Job.cells) (d:=Job.zero) ([(⟨5,⟨#[97]⟩,⟨#[117]⟩,⟨#[120]⟩,(⟨1,([(⟨1,60⟩:Alt)]:List Alt),0,0,0⟩:Shape),0,[],2,false,0,4,0,4,64,1,0⟩:Job)]:List Job) (.cons _ _ _ _ (a1 (a1 (a1 (a1 (a1 (av (Q75 (c:=Alt.cells) (d:=Alt.zero) ([(⟨1,60⟩:Alt)]:List Alt) rfl) (a1 (a1 (a1 (a1 (av (Qj8) (a1 (a1 (a1 (a1 (a1 (a1 (a1 (a1 (a1 .nil)))))))))))))))))))) .nil))) (ev (QT0) (ev (QT0) (ev (QT0) (e1 (e1 .nil)))))))))
def Q31 (n:Int):Bool:=((decide (n >= 0))&&(decide (n<=1000000)))
theorem Qw3 (n:Int):∀ objs,AGives Tryz.prog 33 [I n] objs (Bo (Q31 n)):=by
 generalize hR:Q31 n=R;refine ga (l1 .nil) lx (kp 3 []) Tryz.func33 ?_;obtain rfl:=foll hR rfl;exact Q00 lx sr
def Q45 (x_:Node):Bool:=bif ((((((decide (x_.epoch<0))||(decide (x_.epoch > 999999999)))||(decide (x_.since<0)))||(decide (x_.since > 1000000)))||(decide (x_.asked<0)))||(decide (x_.asked > 1000000))) then false else bif ((x_.state==0)||(x_.state==4)) then ((x_.job==0)&&((x_.want==0)||((x_.state==4)&&(x_.want==6)))) else bif ((decide (x_.job<1))||(decide (x_.job > 99999))) then false else bif (x_.state==1) then ((((x_.want==0)||(x_.want==1))||(x_.want==3))||(x_.want==4)) else bif (x_.state==2) then ((x_.want==0)||(x_.want==2)) else bif (x_.state==3) then (x_.want==5) else false
theorem ref12_fine_c (x_:Node):∀ objs,AGives Tryz.prog 66 [Node.a x_] objs (Bo (Q45 x_)):=by
 generalize hR:Q45 x_=R;refine ga (.cons (Node.low _ _) .nil) lx (kp 3 [30,38,64,66,67,87,97]) Tryz.func66 ?_;refine ai (fun h1=>?_) (fun h2=>?_)
 ·obtain rfl:=foll hR (ct h1 rfl);exact Q00 lx sr
 ·refine ai (fun h3=>?_) (fun h4=>?_)
  ·obtain rfl:=foll hR (cf h2 (ct h3 rfl));exact Q00 lx sr
  ·refine ai (fun h5=>?_) (fun h6=>?_)
   ·obtain rfl:=foll hR (cf h2 (cf h4 (ct h5 rfl)));exact Q00 lx sr
   ·refine ai (fun h7=>?_) (fun h8=>?_)
    ·obtain rfl:=foll hR (cf h2 (cf h4 (cf h6 (ct h7 rfl))));exact Q00 lx sr
    ·refine ai (fun h9=>?_) (fun h10=>?_)
     ·obtain rfl:=foll hR (cf h2 (cf h4 (cf h6 (cf h8 (ct h9 rfl)))));exact Q00 lx sr
     ·refine ai (fun h11=>?_) (fun h12=>?_)
      ·obtain rfl:=foll hR (cf h2 (cf h4 (cf h6 (cf h8 (cf h10 (ct h11 rfl))))));exact Q00 lx sr
      ·obtain rfl:=foll hR (cf h2 (cf h4 (cf h6 (cf h8 (cf h10 (cf h12 rfl))))));exact Q00 lx sr
def Qu5 (b:List Alt):List Alt->Nat->Bool
 | [],_=>true
 | x_ :: r,i=>bif ((x_.nodes != (b.getD i Alt.zero).nodes)||(x_.wall != (b.getD i Alt.zero).wall)) then false else Qu5 b r (i+1)
def QM6 (a:List Alt) (b:List Alt):Bool:=bif ((a.length:Int)!=(b.length:Int)) then false else Qu5 b a 0
theorem QXa (a:List Alt) (b:List Alt) (hs0:a.length<=4294967296) (hs1:b.length<=4294967296):∀ objs,AGives Tryz.prog 173 [altL a,altL b] objs (Bo (QM6 a b)):=by
 generalize hR:QM6 a b=R;refine ga (.cons lw (.cons lw .nil)) lx (kp 6 [10,14,40]) Tryz.func173 ?_;have hk0:=hs0;obtain z7:a.length<=4294967296:=hs0;have hk1:=hs1;obtain z8:b.length<=4294967296:=hs1;refine ai (fun h1=>?_) (fun h2=>?_)
 ·obtain rfl:=foll hR (ct h1 rfl);exact Q00 lx sr
 ·refine Qh0 (fun (i:Nat)=>Qu5 b (List.drop i a) i=R∧i<=a.length) (fun i=>a.length - i) (fun i=>[(0,altL a),(1,altL b),(4,Bo false),(5,I (i:Int))]) (fun i=>[]) 0 (wk [] .nil (sl lw (sl lw (s1 (s1 .nil))))) ⟨foll hR (cf h2 rfl),by exact omA⟩ ?_;clear hR;rintro i ⟨hR,hj⟩;(try dsimp only at hR hj);refine ai (fun h3=>?_) (fun h4=>?_)
  ·have hlt:=ltA h3;rw [Qf0 Alt.zero hlt] at hR;refine dchk (by kernel_rfl) ?_;refine ai gkA ?_;refine ai gkA ?_;refine ai gkA ?_;refine ai gkA ?_;(repeat ((first|refine ai rfl ?_|refine ai (fun _=>rfl) ?_)));refine ai (fun h5=>?_) (fun h6=>?_)
   ·obtain rfl:=foll hR (ct h5 rfl);exact Q00 lx sr
   ·exact Ql0 (i+1) (wk [] .nil (sl lw (sl lw (s1 (sv (Qd0 (I_eq (wr omA)) lx) .nil))))) omA ⟨foll hR (cf h6 rfl),by exact omA⟩
  ·rw [Qg0 (l:=a) (j:=i) (geA h4)] at hR;obtain rfl:=foll hR rfl;exact Q00 lx sr
def Q80 (r_:Int):Int:=bif ((r_==9)||(r_==32)) then 1 else bif (((decide (r_<32))||(r_==65533))||(decide (r_ > 1114111))) then 0 else bif (((decide (r_ > 126))&&(decide (r_<161)))||((decide (r_ > 55295))&&(decide (r_<57344)))) then 0 else bif ((decide (r_ > 47))&&(decide (r_<58))) then 3 else bif (((decide (r_ > 160))||((decide (r_ > 64))&&(decide (r_<91))))||((decide (r_ > 96))&&(decide (r_<123)))) then 2 else 4
theorem QG3 (r_:Int):∀ objs,AGives Tryz.prog 174 [J r_] objs (I (Q80 r_)):=by
 generalize hR:Q80 r_=R;refine ga (l1 .nil) lx (kp 3 [8,18,32,38,56]) Tryz.func174 ?_;refine ai (fun h1=>?_) (fun h2=>?_)
 ·obtain rfl:=foll hR (ct h1 rfl);exact Q00 lx sr
 ·refine ai (fun h3=>?_) (fun h4=>?_)
  ·obtain rfl:=foll hR (cf h2 (ct h3 rfl));exact Q00 lx sr
  ·refine ai (fun h5=>?_) (fun h6=>?_)
   ·obtain rfl:=foll hR (cf h2 (cf h4 (ct h5 rfl)));exact Q00 lx sr
   ·refine ai (fun h7=>?_) (fun h8=>?_)
    ·obtain rfl:=foll hR (cf h2 (cf h4 (cf h6 (ct h7 rfl))));exact Q00 lx sr
    ·refine ai (fun h9=>?_) (fun h10=>?_)
     ·obtain rfl:=foll hR (cf h2 (cf h4 (cf h6 (cf h8 (ct h9 rfl)))));exact Q00 lx sr
     ·obtain rfl:=foll hR (cf h2 (cf h4 (cf h6 (cf h8 (cf h10 rfl)))));exact Q00 lx sr
def QF2 :List (Nat × Int)->List Int->(List Int)
 | [],out=>out
 | x_ :: r,out=>QF2 r (out++([x_.2]:List Int))
def Qk3 (out:List Int):(List Int):=out
def Qw0 (s:ByteArray):(List Int):=Qk3 (QF2 (QI5 s) [])
theorem ref05_Runes_c (s:ByteArray) (hs0:s.size<=4294967296):∀ objs,AGives Tryz.prog 180 [Sg s] objs (runes (Qw0 s)):=by
 generalize hR:Qw0 s=R;refine ga (l1 .nil) lw (kp 6 [7,8,9]) Tryz.func180 ?_;have hk0:=hs0;obtain z3:s.size<=4294967296:=hs0;refine Qj0 (fun (out:List Int) (pos:Nat)=>∃ m,ByteArray.size s - pos<=m∧Qk3 (QF2 (Qp3 s m pos) out)=R∧out.length<=pos) (fun out pos=>ByteArray.size s - pos) (fun out pos=>[(2,AVal.lit (.slice none 0 0)),(3,AVal.own 1 0 1 0 out.length),(7,AVal.ptr 0 0 1 0 0)]) (fun out pos=>[(0,AObj.other (.strIter s pos)),(0,AObj.row 21 1 (out.map (fun q_=>[J q_])))]) [] 0 ((Qf2 21 1).trans (wk [0,1] (tO rfl (.strIter _ _) (tO rfl (tl eqA) .nil)) (s1 (sv (QL1 1 rfl) (sv (Q10 0 rfl rfl) .nil))))) ⟨ByteArray.size s,by exact omA,foll hR rfl,by exact exA⟩ ?_;clear hR;rintro out pos ⟨m,hm,hR,hx⟩;(try dsimp only at hR hm hx);refine ai (fun h1=>?_) (fun h2=>?_)
 ·have hlt:=of_decide_eq_true h1;have hw:=Q56 s pos;have hwe:=Q46 s pos hlt;obtain ⟨m,rfl⟩:=sucA m;rw [QA2 h1] at hR;refine ai (fun _=>?_) (fun h=>nomatch h);refine Or.inl ?_;(first|refine ⟨Qp2 4 rfl lnA apA,?_⟩|refine ⟨Qk1 4 rfl apA,?_⟩);exact Qa0 (out++([(pos,((Utf8.decode s pos).1:Int)).2]:List Int)) (pos+(Utf8.decode s pos).2) (wk [0,1] (tO rfl (.strIter _ _) (tO rfl (tl eqA) .nil)) (s1 (sv (to 1 lnA) (sv (Q10 0 rfl rfl) .nil)))) omA ⟨m,by exact omA,foll hR (congrArg (fun p:(List Int)=>Qk3 p) rfl),by exact exA⟩
 ·rw [Qg4 h2] at hR;refine ai (fun h=>nomatch h) (fun _=>?_);replace hR:Qk3 out=R:=fo2 (fun p:(List Int)=>Qk3 p) (out) hR rfl;obtain rfl:=foll hR rfl;exact Q00 lw (Qo2 0 _ rfl eqA lnA)
theorem QA6:∀ (l:List (Nat × Int)) (out:List Int),(QF2 l out).length=out.length+l.length
 | [],out=>rfl
 | x :: r,out=>by
  rw [QF2,QA6 r]
  simp
  omega
theorem QKa (s:ByteArray):∀ m pos,(Qp3 s m pos).length<=m
 | 0,_=>by simp [Qp3]
 | m+1,pos=>by
  cases h:decide (pos<s.size) with
  | false=>rw [Qg4 h];simp
  | true=>rw [QA2 h];have:=QKa s m (pos+(Utf8.decode s pos).2);simp;omega
theorem QX7 (s:ByteArray):(Qw0 s).length<=s.size:=by
 unfold Qw0 Qk3
 rw [QA6]
 have:=QKa s s.size 0
 simp only [QI5,List.length_nil]
 omega
def Qw7 (r_:Int):Bool:=(((decide (r_ >= 48))&&(decide (r_<=57)))||((decide (r_ >= 97))&&(decide (r_<=122))))
theorem ref05_small_c (r_:Int):∀ objs,AGives Tryz.prog 204 [J r_] objs (Bo (Qw7 r_)):=by
 generalize hR:Qw7 r_=R;refine ga (l1 .nil) lx (kp 3 []) Tryz.func204 ?_;obtain rfl:=foll hR rfl;exact Q00 lx sr
def QE2 (s:ByteArray):Nat->List Int->Nat->(List Int) × Nat
 | 0,_,_=>([],0)
 | m+1,out,i=>bif (decide ((i:Int)<(ByteArray.size s:Int))) then bif ((decide (((s.data.toList.getD i 0).toNat:Int) > 64))&&(decide (((s.data.toList.getD i 0).toNat:Int)<91))) then QE2 s m (out++([(wu8 (((s.data.toList.getD i 0).toNat:Int)+32))]:List Int)) (i+1) else QE2 s m (out++([((s.data.toList.getD i 0).toNat:Int)]:List Int)) (i+1) else (out,i)
def Qj3 (out:List Int) (i:Nat):ByteArray:=(Q82 out)
def Qd2 (s:ByteArray):ByteArray:=Qj3 ((QE2 s ((Int.toNat ((ByteArray.size s:Int) - (0:Int)))+1) [] 0).1) ((QE2 s ((Int.toNat ((ByteArray.size s:Int) - (0:Int)))+1) [] 0).2)
theorem ref04_Lower_c (s:ByteArray) (hs0:s.size<=4294967296):∀ objs,AGives Tryz.prog 190 [Sg s] objs (Sg (Qd2 s)):=by
 generalize hR:Qd2 s=R;refine ga (l1 .nil) lx (kp 5 [8,20]) Tryz.func190 ?_;have hk0:=hs0;obtain z5:s.size<=4294967296:=hs0;refine Qj0 (fun (out:List Int) (i:Nat)=>∃ m,(Int.toNat ((ByteArray.size s:Int) - (i:Int)))<m∧Qj3 (QE2 s m out i).1 (QE2 s m out i).2=R∧out.length<=i∧(i:Int)<=(ByteArray.size s:Int)) (fun out i=>(Int.toNat ((ByteArray.size s:Int) - (i:Int)))) (fun out i=>[(0,Sg s),(2,Sg ⟨#[]⟩),(3,AVal.own 0 0 1 0 out.length),(4,I (i:Int))]) (fun out i=>[(0,AObj.row 5 1 (out.map (fun q_=>[Y q_])))]) [] 0 ((Qf2 5 1).trans (wk [0] (tO rfl (tl eqA) .nil) (s1 (s1 (sv (QL1 0 rfl) (s1 .nil)))))) ⟨_,Nat.lt_succ_self _,foll hR rfl,by exact exA⟩ ?_;clear hR;rintro out i ⟨m,hm,hR,hx⟩;(try dsimp only at hR hm hx);obtain ⟨m,rfl⟩:=sucA m;refine ai (fun h1=>?_) (fun h2=>?_)
 ·have qh1:=of_decide_eq_true h1;refine ai gkA ?_;refine ai gkA ?_;refine ai (fun h3=>?_) (fun h4=>?_)
  ·refine ai gkA ?_;refine Or.inl ?_;(first|refine ⟨Qp2 1 rfl lnA apA,?_⟩|refine ⟨Qk1 1 rfl apA,?_⟩);exact Qa0 (out++([(wu8 (((s.data.toList.getD i 0).toNat:Int)+32))]:List Int)) (i+1) (wk [0] (tO rfl (tl eqA) .nil) (s1 (s1 (sv (to 0 lnA) (sv (Qd0 (I_eq (wr omA)) lx) .nil))))) omA ⟨m,by exact omA,foll hR (congrArg (fun p:(List Int) × Nat=>Qj3 p.1 p.2) (ct h1 (ct h3 rfl))),by exact exA⟩
  ·refine ai gkA ?_;refine Or.inl ?_;(first|refine ⟨Qp2 1 rfl lnA apA,?_⟩|refine ⟨Qk1 1 rfl apA,?_⟩);exact Qa0 (out++([((s.data.toList.getD i 0).toNat:Int)]:List Int)) (i+1) (wk [0] (tO rfl (tl eqA) .nil) (s1 (s1 (sv (to 0 lnA) (sv (Qd0 (I_eq (wr omA)) lx) .nil))))) omA ⟨m,by exact omA,foll hR (congrArg (fun p:(List Int) × Nat=>Qj3 p.1 p.2) (ct h1 (cf h4 rfl))),by exact exA⟩
 ·have qh2:=of_decide_eq_false h2;replace hR:Qj3 out i=R:=fo2 (fun p:(List Int) × Nat=>Qj3 p.1 p.2) (out,i) hR (cf h2 rfl);(first|refine ⟨out,by exact cvA,?_⟩|refine ⟨_,fun _=>⟨out,by exact cvA,rfl,rfl⟩,?_⟩|refine ⟨_,rfl,⟨out,by exact cvA,Sub.refl _,rfl⟩,?_⟩);obtain rfl:=foll hR rfl;exact Q00 lx sr
def QK6 :List Int->Nat->Bool
 | [],_=>false
 | x_ :: r,i=>bif (decide (x_ >= 97)) then true else QK6 r (i+1)
def QL8 (l:List Int):Bool:=QK6 l 0
theorem ref05_plain_c (l:List Int) (hs0:l.length<=4294967296):∀ objs,AGives Tryz.prog 191 [runes l] objs (Bo (QL8 l)):=by
 generalize hR:QL8 l=R;refine ga (.cons lw .nil) lx (kp 4 [7,14]) Tryz.func191 ?_;have hk0:=hs0;obtain z5:l.length<=4294967296:=hs0;refine Qh0 (fun (i:Nat)=>QK6 (List.drop i l) i=R∧i<=l.length) (fun i=>l.length - i) (fun i=>[(0,runes l),(2,Bo false),(3,I (i:Int))]) (fun i=>[]) 0 (wk [] .nil (sl lw (s1 (s1 .nil)))) ⟨foll hR rfl,by exact omA⟩ ?_;clear hR;rintro i ⟨hR,hj⟩;(try dsimp only at hR hj);refine ai (fun h1=>?_) (fun h2=>?_)
 ·have hlt:=ltA h1;rw [Qf0 0 hlt] at hR;refine ai gkA ?_;refine ai (fun h3=>?_) (fun h4=>?_)
  ·have qh3:=of_decide_eq_true h3;obtain rfl:=foll hR (ct h3 rfl);exact Q00 lx sr
  ·have qh4:=of_decide_eq_false h4;exact Ql0 (i+1) (wk [] .nil (sl lw (s1 (sv (Qd0 (I_eq (wr omA)) lx) .nil)))) omA ⟨foll hR (cf h4 rfl),by exact omA⟩
 ·rw [Qg0 (l:=l) (j:=i) (geA h2)] at hR;obtain rfl:=foll hR rfl;exact Q00 lx sr
def Qq6 :List Int->Int->Nat->Int
 | [],n,_=>n
 | x_ :: r,n,i=>bif ((decide (x_<48))||(decide (x_ > 57))) then (-1) else Qq6 r (w64 ((w64 (10*n))+(w64 (w32 (x_ - 48))))) (i+1)
def Qz6 (l:List Int):Int:=bif ((((l.length:Int)==0)||(decide ((l.length:Int) > 9)))||((decide ((l.length:Int) > 1))&&((l.getD 0 0)==48))) then (-1) else Qq6 l 0 0
theorem ref05_Number_c (l:List Int) (hs0:l.length<=4294967296):∀ objs,AGives Tryz.prog 192 [runes l] objs (I (Qz6 l)):=by
 generalize hR:Qz6 l=R;refine ga (.cons lw .nil) lx (kp 5 [23,27,41]) Tryz.func192 ?_;have hk0:=hs0;obtain z7:l.length<=4294967296:=hs0;refine ai gkA ?_;refine ai (fun h1=>?_) (fun h2=>?_)
 ·obtain rfl:=foll hR (ct h1 rfl);exact Q00 lx sr
 ·refine Qj0 (fun (n:Int) (i:Nat)=>Qq6 (List.drop i l) n i=R∧i<=l.length) (fun n i=>l.length - i) (fun n i=>[(0,runes l),(2,I 0),(3,I n),(4,I (i:Int))]) (fun n i=>[]) 0 0 (wk [] .nil (sl lw (s1 (s1 (s1 .nil))))) ⟨foll hR (cf h2 rfl),by exact omA⟩ ?_;clear hR;rintro n i ⟨hR,hj⟩;(try dsimp only at hR hj);refine ai (fun h3=>?_) (fun h4=>?_)
  ·have hlt:=ltA h3;rw [Qf0 0 hlt] at hR;refine ai gkA ?_;refine ai gkA ?_;refine ai (fun h5=>?_) (fun h6=>?_)
   ·obtain rfl:=foll hR (ct h5 rfl);exact Q00 lx sr
   ·refine ai gkA ?_;exact Qa0 (w64 ((w64 (10*n))+(w64 (w32 ((l.getD i 0) - 48))))) (i+1) (wk [] .nil (sl lw (s1 (s1 (sv (Qd0 (I_eq (wr omA)) lx) .nil))))) omA ⟨foll hR (cf h6 rfl),by exact omA⟩
  ·rw [Qg0 (l:=l) (j:=i) (geA h4)] at hR;obtain rfl:=foll hR rfl;exact Q00 lx sr
def QS0 (n:Int) (from_:Int) (to_:Int):Bool:=((decide (n >= from_))&&(decide (n<=to_)))
theorem Q53 (n:Int) (from_:Int) (to_:Int):∀ objs,AGives Tryz.prog 135 [I n,I from_,I to_] objs (Bo (QS0 n from_ to_)):=by
 generalize hR:QS0 n from_ to_=R;refine ga (l1 (l1 (l1 .nil))) lx (kp 7 []) Tryz.func135 ?_;obtain rfl:=foll hR rfl;exact Q00 lx sr
def QW0 (n:Int):Bool:=((decide (n >= 1))&&(decide (n<=48)))
theorem QY7 (n:Int):∀ objs,AGives Tryz.prog 165 [I n] objs (Bo (QW0 n)):=by
 generalize hR:QW0 n=R;refine ga (l1 .nil) lx (kp 3 []) Tryz.func165 ?_;obtain rfl:=foll hR rfl;exact Q00 lx sr
def Qs1 (n:Int):Bool:=((decide (n >= 1))&&(decide (n<=100000)))
theorem QAa (n:Int):∀ objs,AGives Tryz.prog 166 [I n] objs (Bo (Qs1 n)):=by
 generalize hR:Qs1 n=R;refine ga (l1 .nil) lx (kp 3 []) Tryz.func166 ?_;obtain rfl:=foll hR rfl;exact Q00 lx sr
def QG1 :Nat->Int->List Int->Nat->Int × (List Int) × Nat
 | 0,_,_,_=>(0,[],0)
 | m+1,s2,out,n=>bif (decide (s2 > 0)) then bif ((Int.tmod s2 2)==1) then QG1 m (wu64 (Int.tdiv s2 2)) (out++([(n:Int)]:List Int)) (n+1) else QG1 m (wu64 (Int.tdiv s2 2)) out (n+1) else (s2,out,n)
def QI3 (s2:Int) (out:List Int) (n:Nat):(List Int):=out
def Q86 (s:Int):(List Int):=QI3 ((QG1 ((Int.toNat s)+1) s [] 0).1) ((QG1 ((Int.toNat s)+1) s [] 0).2.1) ((QG1 ((Int.toNat s)+1) s [] 0).2.2)
theorem ref09_List_c (s:Int):∀ objs,AGives Tryz.prog 136 [U s] objs (ints (Q86 s)):=by
 generalize hR:Q86 s=R;refine ga (l1 .nil) lw (kp 5 [6,11]) Tryz.func136 ?_;refine Qr7 (fun (s2:Int) (out:List Int) (n:Nat)=>∃ m,(Int.toNat s2)<m∧QI3 (QG1 m s2 out n).1 (QG1 m s2 out n).2.1 (QG1 m s2 out n).2.2=R∧(n:Int)<=65∧((n:Int)=0∨(0<=s2∧s2<2 ^ (65 - (Int.toNat (n:Int)))))∧out.length<=n) (fun s2 out n=>(Int.toNat s2)) (fun s2 out n=>[(0,U s2),(2,AVal.lit (.slice none 0 0)),(3,AVal.own 0 0 1 0 out.length),(4,I (n:Int))]) (fun s2 out n=>[(0,AObj.row 3 1 (out.map (fun q_=>[I q_])))]) s [] 0 ((Qf2 3 1).trans (wk [0] (tO rfl (tl eqA) .nil) (s1 (s1 (sv (QL1 0 rfl) (s1 .nil)))))) ⟨_,Nat.lt_succ_self _,foll hR rfl,by exact exA⟩ ?_;clear hR;rintro s2 out n ⟨m,hm,hR,hx⟩;(try dsimp only at hR hm hx);obtain ⟨m,rfl⟩:=sucA m;refine ai (fun h1=>?_) (fun h2=>?_)
 ·have qh1:=of_decide_eq_true h1;obtain ⟨hf1,hf2,hf3,hf4⟩:=ref09_half hx.2.1 hx.1 qh1;refine ai gkA ?_;refine ai (fun h3=>?_) (fun h4=>?_)
  ·refine Or.inl ?_;(first|refine ⟨Qp2 8 rfl lnA apA,?_⟩|refine ⟨Qk1 8 rfl apA,?_⟩);refine ai gkA ?_;exact Qn4 (wu64 (Int.tdiv s2 2)) (out++([(n:Int)]:List Int)) (n+1) (wk [0] (tO rfl (tl eqA) .nil) (s1 (s1 (sv (to 0 lnA) (sv (Qd0 (I_eq (wr omA)) lx) .nil))))) omA ⟨m,by exact omA,foll hR (congrArg (fun p:Int × (List Int) × Nat=>QI3 p.1 p.2.1 p.2.2) (ct h1 (ct h3 rfl))),by exact exA⟩
  ·refine ai gkA ?_;exact Qn4 (wu64 (Int.tdiv s2 2)) out (n+1) (wk [0] (tO rfl (tl eqA) .nil) (s1 (s1 (sv (to 0 lnA) (sv (Qd0 (I_eq (wr omA)) lx) .nil))))) omA ⟨m,by exact omA,foll hR (congrArg (fun p:Int × (List Int) × Nat=>QI3 p.1 p.2.1 p.2.2) (ct h1 (cf h4 rfl))),by exact exA⟩
 ·have qh2:=of_decide_eq_false h2;replace hR:QI3 s2 out n=R:=fo2 (fun p:Int × (List Int) × Nat=>QI3 p.1 p.2.1 p.2.2) (s2,out,n) hR (cf h2 rfl);obtain rfl:=foll hR rfl;exact Q00 lw (Qo2 0 _ rfl eqA lnA)
def Q08 (set_:Int):Bool:=(decide (set_<281474976710656))
theorem ref14_Few_c (set_:Int):∀ objs,AGives Tryz.prog 138 [U set_] objs (Bo (Q08 set_)):=by
 generalize hR:Q08 set_=R;refine ga (l1 .nil) lx (kp 3 []) Tryz.func138 ?_;obtain rfl:=foll hR rfl;exact Q00 lx sr
def Qx7 (state:Int):Bool:=((decide (state >= 3))&&(decide (state<=7)))
theorem ref14_Ended_c (state:Int):∀ objs,AGives Tryz.prog 140 [I state] objs (Bo (Qx7 state)):=by
 generalize hR:Qx7 state=R;refine ga (l1 .nil) lx (kp 3 []) Tryz.func140 ?_;obtain rfl:=foll hR rfl;exact Q00 lx sr
def Qn3 :List Book->Int->Nat->Int
 | [],_,_=>0
 | x_ :: r,last,i=>bif (((((((((i:Int)==8)||(decide (x_.id<=last)))||(decide (x_.id > 99999)))||(decide (x_.from_<0)))||(decide (x_.to<=x_.from_)))||(decide (x_.to > 1000000)))||(decide (x_.nodes<1)))||(decide (x_.nodes > 48))) then 190 else Qn3 r x_.id (i+1)
def QN4 (l:List Book):Int:=Qn3 l 0 0
theorem ref19_Check_c (l:List Book) (hs0:l.length<=4294967296):∀ objs,AGives Tryz.prog 36 [bookL l] objs (I (QN4 l)):=by
 generalize hR:QN4 l=R;refine ga (.cons lw .nil) lx (kp 6 [9,55]) Tryz.func36 ?_;have hk0:=hs0;obtain z5:l.length<=4294967296:=hs0;refine Qj0 (fun (last:Int) (i:Nat)=>Qn3 (List.drop i l) last i=R∧i<=l.length) (fun last i=>l.length - i) (fun last i=>[(0,bookL l),(2,I 0),(3,I last),(4,I (i:Int))]) (fun last i=>[]) 0 0 (wk [] .nil (sl lw (s1 (s1 (s1 .nil))))) ⟨foll hR rfl,by exact omA⟩ ?_;clear hR;rintro last i ⟨hR,hj⟩;(try dsimp only at hR hj);refine ai (fun h1=>?_) (fun h2=>?_)
 ·have hlt:=ltA h1;rw [Qf0 Book.zero hlt] at hR;refine ai gkA ?_;refine ai (fun h3=>?_) (fun h4=>?_)
  ·obtain rfl:=foll hR (ct h3 rfl);exact Q00 lx sr
  ·exact Qa0 ((l.getD i Book.zero).id) (i+1) (wk [] .nil (sl lw (s1 (s1 (sv (Qd0 (I_eq (wr omA)) lx) .nil))))) omA ⟨foll hR (cf h4 rfl),by exact omA⟩
 ·rw [Qg0 (l:=l) (j:=i) (geA h2)] at hR;obtain rfl:=foll hR rfl;exact Q00 lx sr
def QV2 (id_:Int):List Job->Nat->Int
 | [],_=>(-1)
 | x_ :: r,i=>bif (x_.id==id_) then (i:Int) else QV2 id_ r (i+1)
def Qg5 (l:List Job) (id_:Int):Int:=QV2 id_ l 0
theorem ref15_At_c (l:List Job) (id_:Int) (hs0:l.length<=4294967296∧(∀ y ∈ l,y.sz)):∀ objs,AGives Tryz.prog 102 [jobL l,I id_] objs (I (Qg5 l id_)):=by
 generalize hR:Qg5 l id_=R;refine ga (.cons lw (l1 .nil)) lx (kp 6 [9,18]) Tryz.func102 ?_;have hk0:=hs0;obtain ⟨z10,z11⟩:l.length<=4294967296∧(∀ y ∈ l,y.sz):=hs0;refine Qh0 (fun (i:Nat)=>QV2 id_ (List.drop i l) i=R∧i<=l.length) (fun i=>l.length - i) (fun i=>[(0,jobL l),(1,I id_),(4,I 0),(5,I (i:Int))]) (fun i=>[]) 0 (wk [] .nil (sl lw (s1 (s1 (s1 .nil))))) ⟨foll hR rfl,by exact omA⟩ ?_;clear hR;rintro i ⟨hR,hj⟩;(try dsimp only at hR hj);refine ai (fun h1=>?_) (fun h2=>?_)
 ·have hlt:=ltA h1;rw [Qf0 Job.zero hlt] at hR;have hxz:(l.getD i Job.zero).sz:=Qk6 (by first|assumption|grind) (Job.szz _);have hkz:=hxz;obtain ⟨z3,z4,z5,z6,z7⟩:((l.getD i Job.zero).name).size<=4294967296∧((l.getD i Job.zero).user).size<=4294967296∧((l.getD i Job.zero).account).size<=4294967296∧((((l.getD i Job.zero).shape).alts).length<=4294967296)∧((l.getD i Job.zero).after).length<=4294967296:=hxz;refine ai gkA ?_;refine ai (fun h8=>?_) (fun h9=>?_)
  ·obtain rfl:=foll hR (ct h8 rfl);exact Q00 lx sr
  ·exact Ql0 (i+1) (wk [] .nil (sl lw (s1 (s1 (sv (Qd0 (I_eq (wr omA)) lx) .nil))))) omA ⟨foll hR (cf h9 rfl),by exact omA⟩
 ·rw [Qg0 (l:=l) (j:=i) (geA h2)] at hR;obtain rfl:=foll hR rfl;exact Q00 lx sr
theorem ref15_At_g1_lt (id_:Int) (r:List Job):∀ (i:Nat),QV2 id_ r i = -1∨((i:Int)<=QV2 id_ r i∧QV2 id_ r i<(i:Int)+(r.length:Int)):=by
 induction r with
 | nil=>intro i;left;rfl
 | cons x r ih =>
  intro i
  rw [QV2]
  cases (x.id==id_) with
  | true=>right;simp;omega
  | false =>
   rcases ih (i+1) with h|h
   ·left;exact h
   ·right;simp only [cond_false,List.length_cons];omega
theorem ref15_At_lt (L:List Job) (id_:Int):Qg5 L id_<0∨(0<=Qg5 L id_∧Qg5 L id_<(L.length:Int)):=by
 rcases ref15_At_g1_lt id_ L 0 with h|h
 ·left;rw [Qg5,h];decide
 ·right;rw [Qg5];omega
def Qf5 (q:List Step):List Step->Nat->Bool
 | [],_=>true
 | x_ :: r,i=>bif ((x_.at_ != (q.getD i Step.zero).at_)||(x_.free != (q.getD i Step.zero).free)) then false else Qf5 q r (i+1)
def Q96 (p_:List Step) (q:List Step):Bool:=bif ((p_.length:Int)!=(q.length:Int)) then false else Qf5 q p_ 0
theorem QB6 (p_:List Step) (q:List Step) (hs0:p_.length<=4294967296) (hs1:q.length<=4294967296):∀ objs,AGives Tryz.prog 13 [stepL p_,stepL q] objs (Bo (Q96 p_ q)):=by
 generalize hR:Q96 p_ q=R;refine ga (.cons lw (.cons lw .nil)) lx (kp 6 [10,14,40]) Tryz.func13 ?_;have hk0:=hs0;obtain z7:p_.length<=4294967296:=hs0;have hk1:=hs1;obtain z8:q.length<=4294967296:=hs1;refine ai (fun h1=>?_) (fun h2=>?_)
 ·obtain rfl:=foll hR (ct h1 rfl);exact Q00 lx sr
 ·refine Qh0 (fun (i:Nat)=>Qf5 q (List.drop i p_) i=R∧i<=p_.length) (fun i=>p_.length - i) (fun i=>[(0,stepL p_),(1,stepL q),(4,Bo false),(5,I (i:Int))]) (fun i=>[]) 0 (wk [] .nil (sl lw (sl lw (s1 (s1 .nil))))) ⟨foll hR (cf h2 rfl),by exact omA⟩ ?_;clear hR;rintro i ⟨hR,hj⟩;(try dsimp only at hR hj);refine ai (fun h3=>?_) (fun h4=>?_)
  ·have hlt:=ltA h3;rw [Qf0 Step.zero hlt] at hR;refine dchk (by kernel_rfl) ?_;refine ai gkA ?_;refine ai gkA ?_;refine ai gkA ?_;refine ai gkA ?_;(repeat ((first|refine ai rfl ?_|refine ai (fun _=>rfl) ?_)));refine ai (fun h5=>?_) (fun h6=>?_)
   ·obtain rfl:=foll hR (ct h5 rfl);exact Q00 lx sr
   ·exact Ql0 (i+1) (wk [] .nil (sl lw (sl lw (s1 (sv (Qd0 (I_eq (wr omA)) lx) .nil))))) omA ⟨foll hR (cf h6 rfl),by exact omA⟩
  ·rw [Qg0 (l:=p_) (j:=i) (geA h4)] at hR;obtain rfl:=foll hR rfl;exact Q00 lx sr
def Qd5 (n1:Int):(List Step):=bif (decide (n1 > 1000000)) then ([(⟨0,1000000⟩:Step)]:List Step) else ([(⟨0,n1⟩:Step)]:List Step)
def QY3 (n:Int):(List Step):=bif (decide (n<(-1000000))) then Qd5 (-1000000) else Qd5 n
theorem ref10_Flat_c (n:Int):∀ objs,AGives Tryz.prog 72 [I n] objs (stepL (QY3 n)):=by
 generalize hR:QY3 n=R;refine ga (l1 .nil) lw (kj [1000003] 3 [4,6]) Tryz.func72 ?_;refine Qn1 (fun (n1:Int)=>Qd5 n1=R) (fun n1=>[(0,I n1),(2,AVal.lit (.slice none 0 0))]) (fun n1=>[]) ?_ ?_
 ·clear hR;rintro n1 hR;(try dsimp only at hR);refine ai (fun h1=>?_) (fun h2=>?_)
  ·have qh1:=of_decide_eq_true h1;refine Or.inl ?_;obtain rfl:=foll hR (ct h1 rfl);exact Q00 lw (Qcc (Q75 (c:=Step.cells) (d:=Step.zero) ([(⟨0,1000000⟩:Step)]:List Step) rfl))
  ·have qh2:=of_decide_eq_false h2;refine Or.inl ?_;obtain rfl:=foll hR (cf h2 rfl);exact Q00 lw (Qcc (Q75 (c:=Step.cells) (d:=Step.zero) ([(⟨0,n1⟩:Step)]:List Step) rfl))
 ·refine ai (fun h3=>?_) (fun h4=>?_)
  ·have qh3:=of_decide_eq_true h3;exact Q70 (-1000000) (wk [] .nil (s1 (s1 .nil))) (foll hR (ct h3 rfl))
  ·have qh4:=of_decide_eq_false h4;exact Q70 n (wk [] .nil (s1 (s1 .nil))) (foll hR (cf h4 rfl))
def QI2 (p_:List Step):List Step->Nat->Int
 | [],_=>0
 | x_ :: r,i=>bif (((decide (x_.free<(-1000000)))||(decide (x_.free > 1000000)))||(decide (x_.at_ > 1000000))) then 100 else bif ((decide ((i:Int) > 0))&&((decide (x_.at_<=(p_.getD (Int.toNat (w64 ((i:Int) - 1))) Step.zero).at_))||(x_.free==(p_.getD (Int.toNat (w64 ((i:Int) - 1))) Step.zero).free))) then 100 else QI2 p_ r (i+1)
def Q11 (p_:List Step):Int:=bif (((decide ((p_.length:Int)<1))||(decide ((p_.length:Int) > 1000)))||((p_.getD 0 Step.zero).at_ != 0)) then 100 else QI2 p_ p_ 0
theorem Qy9 (p_:List Step) (hs0:p_.length<=4294967296):∀ objs,AGives Tryz.prog 148 [stepL p_] objs (I (Q11 p_)):=by
 generalize hR:Q11 p_=R;refine ga (.cons lw .nil) lx (kp 4 [18,22,46,76]) Tryz.func148 ?_;have hk0:=hs0;obtain z9:p_.length<=4294967296:=hs0;refine ai gkA ?_;refine ai (fun h1=>?_) (fun h2=>?_)
 ·obtain rfl:=foll hR (ct h1 rfl);exact Q00 lx sr
 ·refine Qh0 (fun (i:Nat)=>QI2 p_ (List.drop i p_) i=R∧i<=p_.length) (fun i=>p_.length - i) (fun i=>[(0,stepL p_),(2,I 0),(3,I (i:Int))]) (fun i=>[]) 0 (wk [] .nil (sl lw (s1 (s1 .nil)))) ⟨foll hR (cf h2 rfl),by exact omA⟩ ?_;clear hR;rintro i ⟨hR,hj⟩;(try dsimp only at hR hj);refine ai (fun h3=>?_) (fun h4=>?_)
  ·have hlt:=ltA h3;rw [Qf0 Step.zero hlt] at hR;refine ai gkA ?_;refine ai gkA ?_;refine ai gkA ?_;refine ai (fun h5=>?_) (fun h6=>?_)
   ·obtain rfl:=foll hR (ct h5 rfl);exact Q00 lx sr
   ·refine dchk (by kernel_rfl) ?_;refine ai gkA ?_;refine ai gkA ?_;refine ai gkA ?_;refine ai gkA ?_;(repeat ((first|refine ai rfl ?_|refine ai (fun _=>rfl) ?_)));refine ai (fun h7=>?_) (fun h8=>?_)
    ·obtain rfl:=foll hR (cf h6 (ct h7 rfl));exact Q00 lx sr
    ·exact Ql0 (i+1) (wk [] .nil (sl lw (s1 (sv (Qd0 (I_eq (wr omA)) lx) .nil)))) omA ⟨foll hR (cf h6 (cf h8 rfl)),by exact omA⟩
  ·rw [Qg0 (l:=p_) (j:=i) (geA h4)] at hR;obtain rfl:=foll hR rfl;exact Q00 lx sr
theorem Ql2 {p:List Step} (h:(Q11 p != 0)=false):p.length<=1000:=by
 simp only [Q11] at h
 revert h
 cases h2:(((decide ((p.length:Int)<1))||(decide ((p.length:Int) > 1000)))||((p.getD 0 Step.zero).at_ != 0)) with
 | true=>simp
 | false=>intro _;simp at h2;omega
def Qm2 (l:List Int) (n:Int):Nat->Nat->Nat
 | 0,_=>0
 | m+1,i=>bif ((decide ((i:Int)<(l.length:Int)))&&(decide ((l.getD i 0)<n))) then Qm2 l n m (i+1) else i
def Qe4 (l:List Int) (n:Int) (i:Nat):(List Int):=bif ((decide ((i:Int)<(l.length:Int)))&&((l.getD i 0)==n)) then l else (((List.take i l)++([n]:List Int))++(List.drop i l))
def QU2 (l:List Int) (n:Int):(List Int):=Qe4 l n (Qm2 l n ((Int.toNat ((l.length:Int) - (0:Int)))+1) 0)
theorem QYb (l:List Int) (n:Int) (hs0:l.length<=4294967296):∀ objs,AGives Tryz.prog 168 [ints l,I n] objs (ints (QU2 l n)):=by
 generalize hR:QU2 l n=R;refine ga (.cons lw (l1 .nil)) lw (kp 6 [17,31]) Tryz.func168 ?_;have hk0:=hs0;obtain z5:l.length<=4294967296:=hs0;refine Qh0 (fun (i:Nat)=>∃ m,(Int.toNat ((l.length:Int) - (i:Int)))<m∧Qe4 l n (Qm2 l n m i)=R∧(i:Int)<=(l.length:Int)) (fun i=>(Int.toNat ((l.length:Int) - (i:Int)))) (fun i=>[(0,ints l),(1,I n),(4,AVal.lit (.slice none 0 0)),(5,I (i:Int))]) (fun i=>[]) 0 (wk [] .nil (sl lw (s1 (s1 (s1 .nil))))) ⟨_,Nat.lt_succ_self _,foll hR rfl,by exact exA⟩ ?_;clear hR;rintro i ⟨m,hm,hR,hx⟩;(try dsimp only at hR hm hx);obtain ⟨m,rfl⟩:=sucA m;refine ai gkA ?_;refine ai (fun h1=>?_) (fun h2=>?_)
 ·exact Ql0 (i+1) (wk [] .nil (sl lw (s1 (s1 (sv (Qd0 (I_eq (wr omA)) lx) .nil))))) omA ⟨m,by exact omA,foll hR (congrArg (fun p:Nat=>Qe4 l n p) (ct h1 rfl)),by exact exA⟩
 ·replace hR:Qe4 l n i=R:=fo2 (fun p:Nat=>Qe4 l n p) (i) hR (cf h2 rfl);refine ai gkA ?_;refine ai (fun h3=>?_) (fun h4=>?_)
  ·obtain rfl:=foll hR (ct h3 rfl);exact Q00 lw sr
  ·refine dchk (by kernel_rfl) ?_;refine ai gkA ?_;(first|refine ⟨Qp2 8 rfl lnA apA,?_⟩|refine ⟨Qk1 8 rfl apA,?_⟩);(first|refine ⟨Qp2 8 rfl lnA apA,?_⟩|refine ⟨Qk1 8 rfl apA,?_⟩);refine ai gkA ?_;(first|refine ⟨Qp2 8 rfl lnA apA,?_⟩|refine ⟨Qk1 8 rfl apA,?_⟩);(repeat ((first|refine ai rfl ?_|refine ai (fun _=>rfl) ?_)));obtain rfl:=foll hR (cf h4 rfl);exact Q00 lw (Qo2 0 _ rfl eqA lnA)
theorem Q93 (l:List Int) (n:Int):(QU2 l n).length<=l.length+1:=by
 unfold QU2 Qe4
 generalize Qm2 l n _ 0=i
 cases ((decide ((i:Int)<(l.length:Int)))&&((l.getD i 0)==n)) with
 | true=>simp
 | false =>
  simp only [cond_false,List.length_append,List.length_take,List.length_drop,List.length_cons,List.length_nil]
  omega
def Qv3 (t:Int):List Step->Int->Nat->Int × Nat
 | [],out,i=>(out,i)
 | x_ :: r,out,i=>bif (decide (x_.at_<=t)) then Qv3 t r x_.free (i+1) else Qv3 t r out (i+1)
def Q35 (out:Int) (i:Nat):Int:=out
def Qe5 (p_:List Step) (t:Int):Int:=Q35 ((Qv3 t p_ 0 0).1) ((Qv3 t p_ 0 0).2)
theorem ref10_Now_c (p_:List Step) (t:Int) (hs0:p_.length<=4294967296):∀ objs,AGives Tryz.prog 150 [stepL p_,I t] objs (I (Qe5 p_ t)):=by
 generalize hR:Qe5 p_ t=R;refine ga (.cons lw (l1 .nil)) lx (kp 7 [10,19]) Tryz.func150 ?_;have hk0:=hs0;obtain z5:p_.length<=4294967296:=hs0;refine Qj0 (fun (out:Int) (i:Nat)=>Q35 (Qv3 t (List.drop i p_) out i).1 (Qv3 t (List.drop i p_) out i).2=R∧i<=p_.length) (fun out i=>p_.length - i) (fun out i=>[(0,stepL p_),(1,I t),(4,I 0),(5,I out),(6,I (i:Int))]) (fun out i=>[]) 0 0 (wk [] .nil (sl lw (s1 (s1 (s1 (s1 .nil)))))) ⟨foll hR rfl,by exact omA⟩ ?_;clear hR;rintro out i ⟨hR,hj⟩;(try dsimp only at hR hj);refine ai (fun h1=>?_) (fun h2=>?_)
 ·have hlt:=ltA h1;rw [Qf0 Step.zero hlt] at hR;refine ai gkA ?_;refine ai (fun h3=>?_) (fun h4=>?_)
  ·have qh3:=of_decide_eq_true h3;refine ai gkA ?_;exact Qa0 ((p_.getD i Step.zero).free) (i+1) (wk [] .nil (sl lw (s1 (s1 (s1 (sv (Qd0 (I_eq (wr omA)) lx) .nil)))))) omA ⟨foll hR (congrArg (fun p:Int × Nat=>Q35 p.1 p.2) (ct h3 rfl)),by exact omA⟩
  ·have qh4:=of_decide_eq_false h4;exact Qa0 out (i+1) (wk [] .nil (sl lw (s1 (s1 (s1 (sv (Qd0 (I_eq (wr omA)) lx) .nil)))))) omA ⟨foll hR (congrArg (fun p:Int × Nat=>Q35 p.1 p.2) (cf h4 rfl)),by exact omA⟩
 ·rw [Qg0 (l:=p_) (j:=i) (geA h2)] at hR;replace hR:Q35 out i=R:=fo2 (fun p:Int × Nat=>Q35 p.1 p.2) (out,i) hR rfl;obtain rfl:=foll hR rfl;exact Q00 lx sr
def QT4 (id_:Int):Bool:=((decide (id_ >= 1))&&(decide (id_<=99999)))
theorem table_known_c (id_:Int):∀ objs,AGives Tryz.prog 59 [I id_] objs (Bo (QT4 id_)):=by
 generalize hR:QT4 id_=R;refine ga (l1 .nil) lx (kp 3 []) Tryz.func59 ?_;obtain rfl:=foll hR rfl;exact Q00 lx sr
def Qe0 (x_:List Job) (target:Int) (cmp:Job->Int->Int):Nat->Int->Int->Int × Int
 | 0,_,_=>(0,0)
 | m+1,i,j=>bif (decide (i<j)) then bif (decide ((cmp (x_.getD (Int.toNat (w64 (Int.fdiv (wu64 (w64 (i+j))) (2 ^ (min (Int.toNat 1) 64))))) Job.zero) target)<0)) then Qe0 x_ target cmp m (w64 ((w64 (Int.fdiv (wu64 (w64 (i+j))) (2 ^ (min (Int.toNat 1) 64))))+1)) j else Qe0 x_ target cmp m i (w64 (Int.fdiv (wu64 (w64 (i+j))) (2 ^ (min (Int.toNat 1) 64)))) else (i,j)
def QG0 (x_:List Job) (target:Int) (cmp:Job->Int->Int) (i:Int) (j:Int):Int × Bool:=(i,((decide (i<(x_.length:Int)))&&((cmp (x_.getD (Int.toNat i) Job.zero) target)==0)))
def Qy0 (x_:List Job) (target:Int) (cmp:Job->Int->Int):Int × Bool:=QG0 x_ target cmp ((Qe0 x_ target cmp ((Int.toNat ((x_.length:Int) - 0))+1) 0 (x_.length:Int)).1) ((Qe0 x_ target cmp ((Int.toNat ((x_.length:Int) - 0))+1) 0 (x_.length:Int)).2)
def Q2b (l:List Job):(List Job):=l
theorem QP9 (l:List Job) (hs0:l.length<=4294967296∧(∀ y ∈ l,y.sz)):AMoves Tryz.prog 97 [jobL l] [] 0 (AVal.own 0 0 20 0 l.length) [(0,AObj.row 46 20 (l.map Job.cells))]:=by
 generalize hR:Q2b l=R;refine mo (kp 3 []) Tryz.func97 ?_;have hk0:=hs0;obtain ⟨z1,z2⟩:l.length<=4294967296∧(∀ y ∈ l,y.sz):=hs0;refine ai gkA ?_;(first|refine ⟨Qp2 216 rfl lnA apA,?_⟩|refine ⟨Qk1 216 rfl apA,?_⟩);obtain rfl:=foll hR rfl;exact rq (tt [0] (tO rfl (tl eqA) .nil) (to 0 lnA))
def Q0b (l:List Alt):(List Alt):=l
theorem QN9 (l:List Alt) (hs0:l.length<=4294967296):∀ objs,AGives Tryz.prog 98 [altL l] objs (altL l):=by
 generalize hR:Q0b l=R;refine ga (.cons lw .nil) lw (kp 3 []) Tryz.func98 ?_;have hk0:=hs0;obtain z1:l.length<=4294967296:=hs0;refine ai gkA ?_;(first|refine ⟨Qp2 16 rfl lnA apA,?_⟩|refine ⟨Qk1 16 rfl apA,?_⟩);obtain rfl:=foll hR rfl;exact Q00 lw (Qo2 Alt.zero _ rfl eqA lnA)
def Q1b (l:List Dep):(List Dep):=l
theorem QO9 (l:List Dep) (hs0:l.length<=4294967296):∀ objs,AGives Tryz.prog 99 [depL l] objs (depL l):=by
 generalize hR:Q1b l=R;refine ga (.cons lw .nil) lw (kp 3 []) Tryz.func99 ?_;have hk0:=hs0;obtain z1:l.length<=4294967296:=hs0;refine ai gkA ?_;(first|refine ⟨Qp2 16 rfl lnA apA,?_⟩|refine ⟨Qk1 16 rfl apA,?_⟩);obtain rfl:=foll hR rfl;exact Q00 lw (Qo2 Dep.zero _ rfl eqA lnA)
end Go.Proofs.YtiiaifgeekdpaaaGreatDoor
