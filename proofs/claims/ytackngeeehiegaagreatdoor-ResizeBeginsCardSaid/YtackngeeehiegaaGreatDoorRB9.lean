/-
  What the last text of this claim leans on: an evaluator over the code, contracts of functions, plain laws. Conditions stand in each statement.
-/
import Derived.Test.YtackngeeehiegaaGreatDoorRB7
import Derived.Test.YtackngeeehiegaaGreatDoorProg
import Derived.Test.YtackngeeehiegaaGreatDoorRB8
namespace Go.Proofs.YtackngeeehiegaaGreatDoor
set_option linter.unusedSimpArgs false
set_option linter.unusedVariables false
open Go.Fw
set_option maxRecDepth 20000
set_option maxHeartbeats 4000000
attribute [local irreducible] ACalls AMoves
def QY4 (x_:Node):Bool:=bif ((((((decide (x_.epoch<0))||(decide (x_.epoch > 999999999)))||(decide (x_.since<0)))||(decide (x_.since > 1000000)))||(decide (x_.asked<0)))||(decide (x_.asked > 1000000))) then false else bif ((x_.state==0)||(x_.state==4)) then ((x_.job==0)&&((x_.want==0)||((x_.state==4)&&(x_.want==6)))) else bif ((decide (x_.job<1))||(decide (x_.job > 99999))) then false else bif (x_.state==1) then ((((x_.want==0)||(x_.want==1))||(x_.want==3))||(x_.want==4)) else bif (x_.state==2) then ((x_.want==0)||(x_.want==2)) else bif (x_.state==3) then (x_.want==5) else false
theorem ref12_fine_c (x_:Node):GV 164 [Node.a x_] (Bo (QY4 x_)):=by
 generalize hR:QY4 x_=R;refine gA (kp 3 [30,38,64,66,67,87,97]) Tryz.func164 ?_;apply ai<;>intro h1
 ·exact lfA
 ·apply ai<;>intro h3
  ·exact lfA
  ·apply ai<;>intro h5
   ·exact lfA
   ·apply ai<;>intro h7
    ·exact lfA
    ·apply ai<;>intro h9
     ·exact lfA
     ·apply ai<;>intro h11
      ·exact lfA
      ·exact lfA
def Qz1 (n:Int):Bool:=((decide (n >= 0))&&(decide (n<=1000000)))
theorem Q65 (n:Int):GV 166 [I n] (Bo (Qz1 n)):=by
 generalize hR:Qz1 n=R;refine gA (kp 3 []) Tryz.func166 ?_;exact lfA
def Qt1 (n:Int):Bool:=((decide (n >= 1))&&(decide (n<=48)))
theorem Qlb (n:Int):GV 290 [I n] (Bo (Qt1 n)):=by
 generalize hR:Qt1 n=R;refine gA (kp 3 []) Tryz.func290 ?_;exact lfA
def Q52 (n:Int):Bool:=((decide (n >= 1))&&(decide (n<=100000)))
theorem QTe (n:Int):GV 291 [I n] (Bo (Q52 n)):=by
 generalize hR:Q52 n=R;refine gA (kp 3 []) Tryz.func291 ?_;exact lfA
def QX4 (b:List Alt):List Alt->Nat->Bool
 | [],_=>true
 | x_ :: r,i=>bif ((x_.nodes != (b.getD i zA).nodes)||(x_.wall != (b.getD i zA).wall)) then false else QX4 b r (i+1)
def Qa8 (a:List Alt) (b:List Alt):Bool:=bif ((a.length:Int)!=(b.length:Int)) then false else QX4 b a 0
theorem Qof (a:List Alt) (b:List Alt) (hs0:a.length<=4294967296) (hs1:b.length<=4294967296):GV 223 [altL a,altL b] (Bo (Qa8 a b)):=by
 generalize hR:Qa8 a b=R;refine gA (kp 6 [10,14,40]) Tryz.func223 ?_;have hk0:=hs0;obtain z7:a.length<=4294967296:=hs0;have hk1:=hs1;obtain z8:b.length<=4294967296:=hs1;apply ai<;>intro h1
 ·exact lfA
 ·refine Qg0 (fun (i:Nat)=>QX4 b (List.drop i a) i=R∧i<=a.length) (fun i=>a.length - i) (fun i=>[(0,altL a),(1,altL b),(4,Bo false),(5,I (i:Int))]) (fun i=>[]) 0 (wkA []) ⟨folA,by exact omA⟩ ?_;clear hR;rintro i ⟨hR,hj⟩;(try dsimp only at hR hj);apply ai<;>intro h3
  ·have hlt:=ltA h3;rw [Qa0 zA hlt] at hR;refine dchk (by kernel_rfl) ?_;refine ai gkA ?_;refine ai gkA ?_;refine ai gkA ?_;refine ai gkA ?_;(repeat ((first|refine ai rfl ?_|refine ai (fun _=>rfl) ?_)));apply ai<;>intro h5
   ·exact lfA
   ·exact Qn0 (i+1) (wkA []) omA ⟨folA,by exact omA⟩
  ·rw [Qd0 (l:=a) (j:=i) (geA h3)] at hR;exact lfA
def Qj0 (r_:Int):Int:=bif ((r_==9)||(r_==32)) then 1 else bif (((decide (r_<32))||(r_==65533))||(decide (r_ > 1114111))) then 0 else bif (((decide (r_ > 126))&&(decide (r_<161)))||((decide (r_ > 55295))&&(decide (r_<57344)))) then 0 else bif ((decide (r_ > 47))&&(decide (r_<58))) then 3 else bif (((decide (r_ > 160))||((decide (r_ > 64))&&(decide (r_<91))))||((decide (r_ > 96))&&(decide (r_<123)))) then 2 else 4
theorem Qe5 (r_:Int):GV 303 [J r_] (I (Qj0 r_)):=by
 generalize hR:Qj0 r_=R;refine gA (kp 3 [8,18,32,38,56]) Tryz.func303 ?_;apply ai<;>intro h1
 ·exact lfA
 ·apply ai<;>intro h3
  ·exact lfA
  ·apply ai<;>intro h5
   ·exact lfA
   ·apply ai<;>intro h7
    ·exact lfA
    ·apply ai<;>intro h9
     ·exact lfA
     ·exact lfA
def QG3 :List (Nat × Int)->List Int->(List Int)
 | [],out=>out
 | x_ :: r,out=>QG3 r (out++([x_.2]:List Int))
def Qt4 (out:List Int):(List Int):=out
def QN0 (s:ByteArray):(List Int):=Qt4 (QG3 (Qf8 s) [])
theorem ref05_Runes_c (s:ByteArray) (hs0:s.size<=4294967296):GV 311 [Sg s] (runes (QN0 s)):=by
 generalize hR:QN0 s=R;refine gA (kp 6 [7,8,9]) Tryz.func311 ?_;have hk0:=hs0;obtain z3:s.size<=4294967296:=hs0;refine Qb0 (fun (out:List Int) (pos:Nat)=>∃ m,ByteArray.size s - pos<=m∧Qt4 (QG3 (QL4 s m pos) out)=R∧out.length<=pos) (fun out pos=>ByteArray.size s - pos) (fun out pos=>[(2,AVal.lit (.slice none 0 0)),(3,AVal.own 1 0 1 0 out.length),(7,AVal.ptr 0 0 1 0 0)]) (fun out pos=>[(0,AObj.other (.strIter s pos)),(0,AObj.row 21 1 (out.map (fun q_=>[J q_])))]) [] 0 ((QC1 21 1).trans (wkA [0,1])) ⟨ByteArray.size s,by exact omA,foll hR rfl,by exact exA⟩ ?_;clear hR;rintro out pos ⟨m,hm,hR,hx⟩;(try dsimp only at hR hm hx);apply ai<;>intro h1
 ·have hlt:=yda h1;have hw:=Q09 s pos;have hwe:=QZ8 s pos hlt;obtain ⟨m,rfl⟩:=sucA m;rw [Qy3 h1] at hR;refine ai (fun _=>?_) (fun h=>nomatch h);refine Or.inl ?_;(first|refine ⟨Qn1 4 rfl lnA apA,?_⟩|refine ⟨QD0 4 rfl apA,?_⟩);exact Q60 (out++([(pos,((Utf8.decode s pos).1:Int)).2]:List Int)) (pos+(Utf8.decode s pos).2) (wkA [0,1]) omA ⟨m,by exact omA,foll hR (congrArg (fun p:(List Int)=>Qt4 p) rfl),by exact exA⟩
 ·rw [Qd6 h1] at hR;refine ai (fun h=>nomatch h) (fun _=>?_);replace hR:Qt4 out=R:=fo2 (fun p:(List Int)=>Qt4 p) (out) hR rfl;obtain rfl:=foll hR rfl;exact Qc0 lw (Qe0 0 _ rfl eqA lnA)
theorem Qy9:∀ (l:List (Nat × Int)) (out:List Int),(QG3 l out).length=out.length+l.length
 | [],out=>rfl
 | x :: r,out=>by
  rw [QG3,Qy9 r];simp;omega
theorem Qbf (s:ByteArray):∀ m pos,(QL4 s m pos).length<=m
 | 0,_=>by simp [QL4]
 | m+1,pos=>by
  cases h:decide (pos<s.size) with
  | false=>rw [Qd6 h];simp
  | true=>rw [Qy3 h];have:=Qbf s m (pos+(Utf8.decode s pos).2);simp;omega
theorem Qkb (s:ByteArray):(QN0 s).length<=s.size:=by
 unfold QN0 Qt4;rw [Qy9];have:=Qbf s s.size 0;simp only [Qf8,yJa];omega
def QAa (r_:Int):Bool:=(((decide (r_ >= 48))&&(decide (r_<=57)))||((decide (r_ >= 97))&&(decide (r_<=122))))
theorem ref05_small_c (r_:Int):GV 341 [J r_] (Bo (QAa r_)):=by
 generalize hR:QAa r_=R;refine gA (kp 3 []) Tryz.func341 ?_;exact lfA
def QF3 (s:ByteArray):Nat->List Int->Nat->(List Int) × Nat
 | 0,_,_=>([],0)
 | m+1,out,i=>bif (decide ((i:Int)<(ByteArray.size s:Int))) then bif ((decide (((s.data.toList.getD i 0).toNat:Int) > 64))&&(decide (((s.data.toList.getD i 0).toNat:Int)<91))) then QF3 s m (out++([(wu8 (((s.data.toList.getD i 0).toNat:Int)+32))]:List Int)) (i+1) else QF3 s m (out++([((s.data.toList.getD i 0).toNat:Int)]:List Int)) (i+1) else (out,i)
def Qs4 (out:List Int) (i:Nat):ByteArray:=(QQ2 out)
def QX2 (s:ByteArray):ByteArray:=Qs4 ((QF3 s ((((ByteArray.size s:Int) - (0:Int)).toNat)+1) [] 0).1) ((QF3 s ((((ByteArray.size s:Int) - (0:Int)).toNat)+1) [] 0).2)
theorem ref04_Lower_c (s:ByteArray) (hs0:s.size<=4294967296):GV 326 [Sg s] (Sg (QX2 s)):=by
 generalize hR:QX2 s=R;refine gA (kp 5 [8,20]) Tryz.func326 ?_;have hk0:=hs0;obtain z5:s.size<=4294967296:=hs0;refine Qb0 (fun (out:List Int) (i:Nat)=>∃ m,(((ByteArray.size s:Int) - (i:Int)).toNat)<m∧Qs4 (QF3 s m out i).1 (QF3 s m out i).2=R∧out.length<=i∧(i:Int)<=(ByteArray.size s:Int)) (fun out i=>(((ByteArray.size s:Int) - (i:Int)).toNat)) (fun out i=>[(0,Sg s),(2,Sg ⟨#[]⟩),(3,AVal.own 0 0 1 0 out.length),(4,I (i:Int))]) (fun out i=>[(0,AObj.row 5 1 (out.map (fun q_=>[Y q_])))]) [] 0 ((QC1 5 1).trans (wkA [0])) ⟨_,yCa _,foll hR rfl,by exact exA⟩ ?_;clear hR;rintro out i ⟨m,hm,hR,hx⟩;(try dsimp only at hR hm hx);obtain ⟨m,rfl⟩:=sucA m;apply ai<;>intro h1
 ·have qh1:=yda h1;refine ai gkA ?_;refine ai gkA ?_;apply ai<;>intro h3
  ·refine ai gkA ?_;refine Or.inl ?_;(first|refine ⟨Qn1 1 rfl lnA apA,?_⟩|refine ⟨QD0 1 rfl apA,?_⟩);exact Q60 (out++([(wu8 (((s.data.toList.getD i 0).toNat:Int)+32))]:List Int)) (i+1) (wkA [0]) omA ⟨m,by exact omA,foll hR (congrArg (fun p:(List Int) × Nat=>Qs4 p.1 p.2) (ct h1 (ct h3 rfl))),by exact exA⟩
  ·refine ai gkA ?_;refine Or.inl ?_;(first|refine ⟨Qn1 1 rfl lnA apA,?_⟩|refine ⟨QD0 1 rfl apA,?_⟩);exact Q60 (out++([((s.data.toList.getD i 0).toNat:Int)]:List Int)) (i+1) (wkA [0]) omA ⟨m,by exact omA,foll hR (congrArg (fun p:(List Int) × Nat=>Qs4 p.1 p.2) (ct h1 (cf h3 rfl))),by exact exA⟩
 ·have qh1:=yca h1;replace hR:Qs4 out i=R:=fo2 (fun p:(List Int) × Nat=>Qs4 p.1 p.2) (out,i) hR (cf h1 rfl);(first|refine ⟨out,by exact cvA,?_⟩|refine ⟨_,fun _=>⟨out,by exact cvA,rfl,rfl⟩,?_⟩|refine ⟨_,rfl,⟨out,by exact cvA,Sub.refl _,rfl⟩,?_⟩);exact lfA
def QK9 :List Int->Nat->Bool
 | [],_=>false
 | x_ :: r,i=>bif (decide (x_ >= 97)) then true else QK9 r (i+1)
def Quc (l:List Int):Bool:=QK9 l 0
theorem ref05_plain_c (l:List Int) (hs0:l.length<=4294967296):GV 327 [runes l] (Bo (Quc l)):=by
 generalize hR:Quc l=R;refine gA (kp 4 [7,14]) Tryz.func327 ?_;have hk0:=hs0;obtain z5:l.length<=4294967296:=hs0;refine Qg0 (fun (i:Nat)=>QK9 (List.drop i l) i=R∧i<=l.length) (fun i=>l.length - i) (fun i=>[(0,runes l),(2,Bo false),(3,I (i:Int))]) (fun i=>[]) 0 (wkA []) ⟨foll hR rfl,by exact omA⟩ ?_;clear hR;rintro i ⟨hR,hj⟩;(try dsimp only at hR hj);apply ai<;>intro h1
 ·have hlt:=ltA h1;rw [Qa0 0 hlt] at hR;refine ai gkA ?_;apply ai<;>intro h3
  ·have qh3:=yda h3;exact lfA
  ·have qh3:=yca h3;exact Qn0 (i+1) (wkA []) omA ⟨folA,by exact omA⟩
 ·rw [Qd0 (l:=l) (j:=i) (geA h1)] at hR;exact lfA
def Qk9 :List Int->Int->Nat->Int
 | [],n,_=>n
 | x_ :: r,n,i=>bif ((decide (x_<48))||(decide (x_ > 57))) then (-1) else Qk9 r (w64 ((w64 (10*n))+(w64 (w32 (x_ - 48))))) (i+1)
def Qx9 (l:List Int):Int:=bif ((((l.length:Int)==0)||(decide ((l.length:Int) > 9)))||((decide ((l.length:Int) > 1))&&((l.getD 0 0)==48))) then (-1) else Qk9 l 0 0
theorem ref05_Number_c (l:List Int) (hs0:l.length<=4294967296):GV 328 [runes l] (I (Qx9 l)):=by
 generalize hR:Qx9 l=R;refine gA (kp 5 [23,27,41]) Tryz.func328 ?_;have hk0:=hs0;obtain z7:l.length<=4294967296:=hs0;refine ai gkA ?_;apply ai<;>intro h1
 ·obtain rfl:=foll hR (ct h1 rfl);exact Qc0 lx sr
 ·refine Qb0 (fun (n:Int) (i:Nat)=>Qk9 (List.drop i l) n i=R∧i<=l.length) (fun n i=>l.length - i) (fun n i=>[(0,runes l),(2,I 0),(3,I n),(4,I (i:Int))]) (fun n i=>[]) 0 0 (wkA []) ⟨foll hR (cf h1 rfl),by exact omA⟩ ?_;clear hR;rintro n i ⟨hR,hj⟩;(try dsimp only at hR hj);apply ai<;>intro h3
  ·have hlt:=ltA h3;rw [Qa0 0 hlt] at hR;refine ai gkA ?_;refine ai gkA ?_;apply ai<;>intro h5
   ·exact lfA
   ·refine ai gkA ?_;exact Q60 (w64 ((w64 (10*n))+(w64 (w32 ((l.getD i 0) - 48))))) (i+1) (wkA []) omA ⟨folA,by exact omA⟩
  ·rw [Qd0 (l:=l) (j:=i) (geA h3)] at hR;exact lfA
def Ql1 (n:Int) (from_:Int) (to_:Int):Bool:=((decide (n >= from_))&&(decide (n<=to_)))
theorem Qd4 (n:Int) (from_:Int) (to_:Int):GV 284 [I n,I from_,I to_] (Bo (Ql1 n from_ to_)):=by
 generalize hR:Ql1 n from_ to_=R;refine gA (kp 7 []) Tryz.func284 ?_;exact lfA
def Q41 :Nat->Int->List Int->Nat->Int × (List Int) × Nat
 | 0,_,_,_=>(0,[],0)
 | m+1,s2,out,n=>bif (decide (s2 > 0)) then bif ((Int.tmod s2 2)==1) then Q41 m (wu64 (Int.tdiv s2 2)) (out++([(n:Int)]:List Int)) (n+1) else Q41 m (wu64 (Int.tdiv s2 2)) out (n+1) else (s2,out,n)
def Qt3 (s2:Int) (out:List Int) (n:Nat):(List Int):=out
def Q40 (s:Int):(List Int):=Qt3 ((Q41 ((s.toNat)+1) s [] 0).1) ((Q41 ((s.toNat)+1) s [] 0).2.1) ((Q41 ((s.toNat)+1) s [] 0).2.2)
theorem Q56 (s:Int):GV 44 [U s] (ints (Q40 s)):=by
 generalize hR:Q40 s=R;refine gA (kp 5 [6,11]) Tryz.func44 ?_;refine Qh9 (fun (s2:Int) (out:List Int) (n:Nat)=>∃ m,(s2.toNat)<m∧Qt3 (Q41 m s2 out n).1 (Q41 m s2 out n).2.1 (Q41 m s2 out n).2.2=R∧(n:Int)<=65∧((n:Int)=0∨(0<=s2∧s2<2 ^ (65 - ((n:Int).toNat))))∧out.length<=n) (fun s2 out n=>(s2.toNat)) (fun s2 out n=>[(0,U s2),(2,AVal.lit (.slice none 0 0)),(3,AVal.own 0 0 1 0 out.length),(4,I (n:Int))]) (fun s2 out n=>[(0,AObj.row 3 1 (out.map (fun q_=>[I q_])))]) s [] 0 ((QC1 3 1).trans (wkA [0])) ⟨_,yCa _,foll hR rfl,by exact exA⟩ ?_;clear hR;rintro s2 out n ⟨m,hm,hR,hx⟩;(try dsimp only at hR hm hx);obtain ⟨m,rfl⟩:=sucA m;apply ai<;>intro h1
 ·have qh1:=yda h1;obtain ⟨hf1,hf2,hf3,hf4⟩:=ref09_half hx.2.1 hx.1 qh1;refine ai gkA ?_;apply ai<;>intro h3
  ·refine Or.inl ?_;(first|refine ⟨Qn1 8 rfl lnA apA,?_⟩|refine ⟨QD0 8 rfl apA,?_⟩);refine ai gkA ?_;exact QU4 (wu64 (Int.tdiv s2 2)) (out++([(n:Int)]:List Int)) (n+1) (wkA [0]) omA ⟨m,by exact omA,foll hR (congrArg (fun p:Int × (List Int) × Nat=>Qt3 p.1 p.2.1 p.2.2) (ct h1 (ct h3 rfl))),by exact exA⟩
  ·refine ai gkA ?_;exact QU4 (wu64 (Int.tdiv s2 2)) out (n+1) (wkA [0]) omA ⟨m,by exact omA,foll hR (congrArg (fun p:Int × (List Int) × Nat=>Qt3 p.1 p.2.1 p.2.2) (ct h1 (cf h3 rfl))),by exact exA⟩
 ·have qh1:=yca h1;replace hR:Qt3 s2 out n=R:=fo2 (fun p:Int × (List Int) × Nat=>Qt3 p.1 p.2.1 p.2.2) (s2,out,n) hR (cf h1 rfl);obtain rfl:=foll hR rfl;exact Qc0 lw (Qe0 0 _ rfl eqA lnA)
theorem QO6:∀ (m K:Nat) (s:Int) (out:List Int) (n:Nat),s<2 ^ K->(∀ y ∈ out,0<=y∧y<(n:Int)) ->
  (Q41 m s out n).2.1.length<=out.length+K ∧ ∀ y ∈ (Q41 m s out n).2.1,0<=y∧y<((n+K:Nat):Int)
 | 0,_,_,_,_,_,_=>⟨yva _,fun _ h=>absurd h ybb⟩
 | m+1,K,s,out,n,hs,ho=>by
  rw [Q41];cases h:decide (s > 0) with
  | false=>exact ⟨ymc _ _,fun y hy=>by have:=ho y hy;constructor <;> omega⟩
  | true =>
   have h0:=yda h;cases K with
   | zero=>simp at hs;omega
   | succ K =>
    have hl:wu64 (Int.tdiv s 2)<2 ^ K:=by
     have e : wu64 (Int.tdiv s 2) = Int.tdiv s 2 % 18446744073709551616 := by simp [IntKind.wrap, IntKind.bits, IntKind.signed]
     rw [Int.pow_succ] at hs;rw [e,Int.tdiv_eq_ediv_of_nonneg oA];generalize (2:Int) ^ K=P at hs ⊢;omega
    have ho2:∀ y ∈ out++([(n:Int)]:List Int),0<=y∧y<((n+1:Nat):Int):=fun y hy=>by
     rcases List.mem_append.1 hy with hy|hy
     ·have:=ho y hy;omega
     ·rw [List.mem_singleton.1 hy];omega
    simp only [cond_true];cases hm:(Int.tmod s 2==1) with
    | true =>
     obtain ⟨a,b⟩:=QO6 m K _ _ (n+1) hl ho2;simp only [cond_true];exact ⟨by simp at a;omega,fun y hy=>by have:=b y hy;omega⟩
    | false =>
     obtain ⟨a,b⟩:=QO6 m K _ out (n+1) hl (fun y hy=>by have:=ho y hy;omega);simp only [cond_false];exact ⟨by omega,fun y hy=>by have:=b y hy;omega⟩
theorem Qt7 (s:Int):(Q40 s).length<=66 ∧ ∀ y ∈ Q40 s,0<=y∧y<66:=by
 unfold Q40 Qt3;rw [Q41];have hl:wu64 (Int.tdiv s 2)<2 ^ 64:=by
  have e : wu64 (Int.tdiv s 2) = Int.tdiv s 2 % 18446744073709551616 := by simp [IntKind.wrap, IntKind.bits, IntKind.signed]
  rw [e,show (2:Int) ^ 64=18446744073709551616 by decide];omega
 cases h:decide (s > 0) with
 | false=>exact ⟨yva _,fun _ h=>absurd h ybb⟩
 | true =>
  simp only [cond_true];cases hm:(Int.tmod s 2==1) with
  | true =>
   obtain ⟨a,b⟩:=QO6 (s.toNat) 64 _ ([]++([((0:Nat):Int)]:List Int)) (0+1) hl (by simp);simp only [cond_true];exact ⟨yHa a (by simp),fun y hy=>by have:=b y hy;omega⟩
  | false =>
   obtain ⟨a,b⟩:=QO6 (s.toNat) 64 _ [] (0+1) hl (by simp);simp only [cond_false];exact ⟨yHa a (by simp),fun y hy=>by have:=b y hy;omega⟩
def Qqb (set_:Int):Bool:=(decide (set_<281474976710656))
theorem ref14_Few_c (set_:Int):GV 286 [U set_] (Bo (Qqb set_)):=by
 generalize hR:Qqb set_=R;refine gA (kp 3 []) Tryz.func286 ?_;exact lfA
def QBa (state:Int):Bool:=((decide (state >= 3))&&(decide (state<=7)))
theorem ref14_Ended_c (state:Int):GV 288 [I state] (Bo (QBa state)):=by
 generalize hR:QBa state=R;refine gA (kp 3 []) Tryz.func288 ?_;exact lfA
def Qx4 :List Book->Int->Nat->Int
 | [],_,_=>0
 | x_ :: r,last,i=>bif (((((((((i:Int)==8)||(decide (x_.id<=last)))||(decide (x_.id > 99999)))||(decide (x_.from_<0)))||(decide (x_.to<=x_.from_)))||(decide (x_.to > 1000000)))||(decide (x_.nodes<1)))||(decide (x_.nodes > 48))) then 190 else Qx4 r x_.id (i+1)
def Q08 (l:List Book):Int:=Qx4 l 0 0
theorem ref19_Check_c (l:List Book) (hs0:l.length<=4294967296):GV 168 [bookL l] (I (Q08 l)):=by
 generalize hR:Q08 l=R;refine gA (kp 6 [9,55]) Tryz.func168 ?_;have hk0:=hs0;obtain z5:l.length<=4294967296:=hs0;refine Qb0 (fun (last:Int) (i:Nat)=>Qx4 (List.drop i l) last i=R∧i<=l.length) (fun last i=>l.length - i) (fun last i=>[(0,bookL l),(2,I 0),(3,I last),(4,I (i:Int))]) (fun last i=>[]) 0 0 (wkA []) ⟨foll hR rfl,by exact omA⟩ ?_;clear hR;rintro last i ⟨hR,hj⟩;(try dsimp only at hR hj);apply ai<;>intro h1
 ·have hlt:=ltA h1;rw [Qa0 zI hlt] at hR;refine ai gkA ?_;apply ai<;>intro h3
  ·exact lfA
  ·exact Q60 ((l.getD i zI).id) (i+1) (wkA []) omA ⟨folA,by exact omA⟩
 ·rw [Qd0 (l:=l) (j:=i) (geA h1)] at hR;exact lfA
def QU3 (s:ByteArray):Bool:=((decide ((ByteArray.size s:Int) > 0))&&(decide ((ByteArray.size s:Int)<65)))
theorem Q1f (s:ByteArray):GV 216 [Sg s] (Bo (QU3 s)):=by
 generalize hR:QU3 s=R;refine gA (kp 3 []) Tryz.func216 ?_;exact lfA
def QZ7 (a:Usage) (b:Usage):Bool:=((Op.bytesLess (ByteArray.toList a.user) (ByteArray.toList b.user))||((ByteArray.toList a.user==ByteArray.toList b.user)&&(Op.bytesLess (ByteArray.toList a.account) (ByteArray.toList b.account))))
theorem Qzd (a:Usage) (b:Usage):GV 217 [Usage.a a,Usage.a b] (Bo (QZ7 a b)):=by
 generalize hR:QZ7 a b=R;refine gA (kp 5 []) Tryz.func217 ?_;exact lfA
def QL5 (n:Int) (last:Int):Bool:=(((decide (n > 0))&&(decide (n<100001)))&&(decide (n > last)))
theorem Q3f (n:Int) (last:Int):GV 103 [I n,I last] (Bo (QL5 n last)):=by
 generalize hR:QL5 n last=R;refine gA (kp 5 []) Tryz.func103 ?_;exact lfA
def Q92 (id_:Int):List Job->Nat->Int
 | [],_=>(-1)
 | x_ :: r,i=>bif (x_.id==id_) then (i:Int) else Q92 id_ r (i+1)
def QA0 (l:List Job) (id_:Int):Int:=Q92 id_ l 0
theorem Qme (l:List Job) (id_:Int) (hs0:l.length<=4294967296∧(∀ y ∈ l,y.sz)):GV 42 [jobL l,I id_] (I (QA0 l id_)):=by
 generalize hR:QA0 l id_=R;refine gA (kp 6 [9,18]) Tryz.func42 ?_;obtain ⟨z10,z11⟩:=id hs0;refine Qg0 (fun (i:Nat)=>Q92 id_ (List.drop i l) i=R∧i<=l.length) (fun i=>l.length - i) (fun i=>[(0,jobL l),(1,I id_),(4,I 0),(5,I (i:Int))]) (fun i=>[]) 0 (wkA []) ⟨foll hR rfl,by exact omA⟩ ?_;clear hR;rintro i ⟨hR,hj⟩;(try dsimp only at hR hj);apply ai<;>intro h1
 ·have hlt:=ltA h1;rw [Qa0 zG hlt] at hR;have hxz:(l.getD i zG).sz:=Qp4 (by first|assumption|grind) (Job.szz _);have hkz:=hxz;obtain ⟨z3,z4,z5,z6,z7⟩:=Job.zz hxz;refine ai gkA ?_;apply ai<;>intro h8
  ·exact lfA
  ·exact Qn0 (i+1) (wkA []) omA ⟨folA,by exact omA⟩
 ·rw [Qd0 (l:=l) (j:=i) (geA h1)] at hR;exact lfA
theorem ref15_At_g1_lt (id_:Int) (r:List Job):∀ (i:Nat),Q92 id_ r i = -1∨((i:Int)<=Q92 id_ r i∧Q92 id_ r i<(i:Int)+(r.length:Int)):=by
 induction r with
 | nil=>intro i;left;rfl
 | cons x r ih =>
  intro i;rw [Q92];cases (x.id==id_) with
  | true=>right;simp;omega
  | false =>
   rcases ih (i+1) with h|h
   ·left;exact h
   ·right;simp only [cond_false,yja];omega
theorem QCa (L:List Job) (id_:Int):QA0 L id_<0∨(0<=QA0 L id_∧QA0 L id_<(L.length:Int)):=by
 rcases ref15_At_g1_lt id_ L 0 with h|h
 ·left;rw [QA0,h];decide
 ·right;rw [QA0];omega
def Q66 (n:Int):Nat->Int->Nat->Int × Nat
 | 0,_,_=>(0,0)
 | m+1,out,i=>bif (decide ((i:Int)<n)) then Q66 n m (wu64 (out*2)) (i+1) else (out,i)
def Qc7 (out:Int) (i:Nat):Int:=out
def Qu7 (n:Int):Int:=Qc7 ((Q66 n (((n - (0:Int)).toNat)+1) 1 0).1) ((Q66 n (((n - (0:Int)).toNat)+1) 1 0).2)
theorem Q8h (n:Int) (hp0:n<=100):GV 120 [I n] (U (Qu7 n)):=by
 generalize hR:Qu7 n=R;refine gA (kp 5 [7]) Tryz.func120 ?_;refine Qb0 (fun (out:Int) (i:Nat)=>∃ m,((n - (i:Int)).toNat)<m∧Qc7 (Q66 n m out i).1 (Q66 n m out i).2=R) (fun out i=>((n - (i:Int)).toNat)) (fun out i=>[(0,I n),(2,U 0),(3,U out),(4,I (i:Int))]) (fun out i=>[]) 1 0 (wkA []) ⟨_,yCa _,foll hR rfl⟩ ?_;clear hR;rintro out i ⟨m,hm,hR⟩;(try dsimp only at hR hm);obtain ⟨m,rfl⟩:=sucA m;apply ai<;>intro h1
 ·have qh1:=yda h1;exact Q60 (wu64 (out*2)) (i+1) (wkA []) omA ⟨m,by exact omA,foll hR (congrArg (fun p:Int × Nat=>Qc7 p.1 p.2) (ct h1 rfl))⟩
 ·have qh1:=yca h1;replace hR:Qc7 out i=R:=fo2 (fun p:Int × Nat=>Qc7 p.1 p.2) (out,i) hR (cf h1 rfl);exact lfA
theorem ref09_bit_all:∀ k:Fin 64,Qu7 (k.1:Int) ≠ 0:=by decide +kernel
theorem ref09_bit_pos (n:Int):0<=n->n<=63->Qu7 n ≠ 0:=by
 intro h0 h;have:=ref09_bit_all ⟨n.toNat,by omega⟩
 rwa [show ((⟨n.toNat,by omega⟩:Fin 64).1:Int)=n by simp;omega] at this
def Q24 (id_:Int):List Resize->Nat->Resize
 | [],_=>zH
 | x_ :: r,i=>bif (x_.job==id_) then x_ else Q24 id_ r (i+1)
def QU5 (s:State) (id_:Int):Resize:=Q24 id_ s.resizes 0
theorem ref25_of_c (s:State) (id_:Int) (hs0:s.sz):GV 107 [State.a s,I id_] (Resize.a (QU5 s id_)):=by
 generalize hR:QU5 s id_=R;refine gA (kp 6 [10,20]) Tryz.func107 ?_;have hk0:=hs0;obtain ⟨z5,z6,z7,z8,z9,z10,z11⟩:=hs0;refine Qg0 (fun (i:Nat)=>Q24 id_ (List.drop i s.resizes) i=R∧i<=s.resizes.length) (fun i=>s.resizes.length - i) (fun i=>[(1,I id_),(2,AVal.ptr 0 0 8 0 0),(4,AVal.ptr 1 0 5 0 0),(5,I (i:Int))]) (fun i=>[(0,AObj.row 28 8 [[I s.now,nodeL s.nodes,jobL s.jobs,QA1 s.resizes,bookL s.books,QI2 s.ledger,I s.nextJob,I s.nextBook]]),(0,AObj.row 49 5 [[I 0,Bo false,U 0,U 0,I 0]])]) 0 (wkA [0,1]) ⟨foll hR rfl,by exact omA⟩ ?_;clear hR;rintro i ⟨hR,hj⟩;(try dsimp only at hR hj);apply ai<;>intro h1
 ·have hlt:=ltA h1;rw [Qa0 zH hlt] at hR;refine ai gkA ?_;apply ai<;>intro h3
  ·refine ai gkA ?_;exact lfA
  ·exact Qn0 (i+1) (wkA [0,1]) omA ⟨folA,by exact omA⟩
 ·rw [Qd0 (l:=s.resizes) (j:=i) (geA h1)] at hR;exact lfA
def Q96 (n:Int):Nat->Int->Nat->Int × Nat
 | 0,_,_=>(0,0)
 | m+1,out,i=>bif (decide ((i:Int)<n)) then Q96 n m (wu64 (2*out)) (i+1) else (out,i)
def Qf7 (out:Int) (i:Nat):Int:=out
def Q4a (n:Int):Int:=Qf7 ((Q96 n (((n - (0:Int)).toNat)+1) 1 0).1) ((Q96 n (((n - (0:Int)).toNat)+1) 1 0).2)
theorem ref12_bit_c (n:Int) (hp0:n<=100):GV 163 [I n] (U (Q4a n)):=by
 generalize hR:Q4a n=R;refine gA (kp 5 [7]) Tryz.func163 ?_;refine Qb0 (fun (out:Int) (i:Nat)=>∃ m,((n - (i:Int)).toNat)<m∧Qf7 (Q96 n m out i).1 (Q96 n m out i).2=R) (fun out i=>((n - (i:Int)).toNat)) (fun out i=>[(0,I n),(2,U 0),(3,U out),(4,I (i:Int))]) (fun out i=>[]) 1 0 (wkA []) ⟨_,yCa _,foll hR rfl⟩ ?_;clear hR;rintro out i ⟨m,hm,hR⟩;(try dsimp only at hR hm);obtain ⟨m,rfl⟩:=sucA m;apply ai<;>intro h1
 ·have qh1:=yda h1;exact Q60 (wu64 (2*out)) (i+1) (wkA []) omA ⟨m,by exact omA,foll hR (congrArg (fun p:Int × Nat=>Qf7 p.1 p.2) (ct h1 rfl))⟩
 ·have qh1:=yca h1;replace hR:Qf7 out i=R:=fo2 (fun p:Int × Nat=>Qf7 p.1 p.2) (out,i) hR (cf h1 rfl);exact lfA
def QK3 (p_:List Step):List Step->Nat->Int
 | [],_=>0
 | x_ :: r,i=>bif (((decide (x_.free<(-1000000)))||(decide (x_.free > 1000000)))||(decide (x_.at_ > 1000000))) then 100 else bif ((decide ((i:Int) > 0))&&((decide (x_.at_<=(p_.getD ((w64 ((i:Int) - 1)).toNat) zE).at_))||(x_.free==(p_.getD ((w64 ((i:Int) - 1)).toNat) zE).free))) then 100 else QK3 p_ r (i+1)
def QW0 (p_:List Step):Int:=bif (((decide ((p_.length:Int)<1))||(decide ((p_.length:Int) > 1000)))||((p_.getD 0 zE).at_ != 0)) then 100 else QK3 p_ p_ 0
theorem QT8 (p_:List Step) (hs0:p_.length<=4294967296):GV 109 [stepL p_] (I (QW0 p_)):=by
 generalize hR:QW0 p_=R;refine gA (kp 4 [18,22,46,76]) Tryz.func109 ?_;have hk0:=hs0;obtain z9:p_.length<=4294967296:=hs0;refine ai gkA ?_;apply ai<;>intro h1
 ·obtain rfl:=foll hR (ct h1 rfl);exact Qc0 lx sr
 ·refine Qg0 (fun (i:Nat)=>QK3 p_ (List.drop i p_) i=R∧i<=p_.length) (fun i=>p_.length - i) (fun i=>[(0,stepL p_),(2,I 0),(3,I (i:Int))]) (fun i=>[]) 0 (wkA []) ⟨foll hR (cf h1 rfl),by exact omA⟩ ?_;clear hR;rintro i ⟨hR,hj⟩;(try dsimp only at hR hj);apply ai<;>intro h3
  ·have hlt:=ltA h3;rw [Qa0 zE hlt] at hR;refine ai gkA ?_;refine ai gkA ?_;refine ai gkA ?_;apply ai<;>intro h5
   ·exact lfA
   ·refine dchk (by kernel_rfl) ?_;refine ai gkA ?_;refine ai gkA ?_;refine ai gkA ?_;refine ai gkA ?_;(repeat ((first|refine ai rfl ?_|refine ai (fun _=>rfl) ?_)));apply ai<;>intro h7
    ·exact lfA
    ·exact Qn0 (i+1) (wkA []) omA ⟨folA,by exact omA⟩
  ·rw [Qd0 (l:=p_) (j:=i) (geA h3)] at hR;exact lfA
theorem Qv7 {p:List Step} (h:(QW0 p != 0)=false):p.length<=1000:=by
 simp only [QW0] at h;revert h;cases h2:(((decide ((p.length:Int)<1))||(decide ((p.length:Int) > 1000)))||((p.getD 0 zE).at_ != 0)) with
 | true=>simp
 | false=>intro _;simp at h2;omega
def Q55 (t:Int):List Step->Int->Nat->Int × Nat
 | [],out,i=>(out,i)
 | x_ :: r,out,i=>bif (decide (x_.at_<=t)) then Q55 t r x_.free (i+1) else Q55 t r out (i+1)
def Qe7 (out:Int) (i:Nat):Int:=out
def Qt5 (p_:List Step) (t:Int):Int:=Qe7 ((Q55 t p_ 0 0).1) ((Q55 t p_ 0 0).2)
theorem Q9h (p_:List Step) (t:Int) (hs0:p_.length<=4294967296):GV 165 [stepL p_,I t] (I (Qt5 p_ t)):=by
 generalize hR:Qt5 p_ t=R;refine gA (kp 7 [10,19]) Tryz.func165 ?_;have hk0:=hs0;obtain z5:p_.length<=4294967296:=hs0;refine Qb0 (fun (out:Int) (i:Nat)=>Qe7 (Q55 t (List.drop i p_) out i).1 (Q55 t (List.drop i p_) out i).2=R∧i<=p_.length) (fun out i=>p_.length - i) (fun out i=>[(0,stepL p_),(1,I t),(4,I 0),(5,I out),(6,I (i:Int))]) (fun out i=>[]) 0 0 (wkA []) ⟨foll hR rfl,by exact omA⟩ ?_;clear hR;rintro out i ⟨hR,hj⟩;(try dsimp only at hR hj);apply ai<;>intro h1
 ·have hlt:=ltA h1;rw [Qa0 zE hlt] at hR;refine ai gkA ?_;apply ai<;>intro h3
  ·have qh3:=yda h3;refine ai gkA ?_;exact Q60 ((p_.getD i zE).free) (i+1) (wkA []) omA ⟨foll hR (congrArg (fun p:Int × Nat=>Qe7 p.1 p.2) (ct h3 rfl)),by exact omA⟩
  ·have qh3:=yca h3;exact Q60 out (i+1) (wkA []) omA ⟨foll hR (congrArg (fun p:Int × Nat=>Qe7 p.1 p.2) (cf h3 rfl)),by exact omA⟩
 ·rw [Qd0 (l:=p_) (j:=i) (geA h1)] at hR;replace hR:Qe7 out i=R:=fo2 (fun p:Int × Nat=>Qe7 p.1 p.2) (out,i) hR rfl;exact lfA
def Qf3 (l:List Int) (n:Int):Nat->Nat->Nat
 | 0,_=>0
 | m+1,i=>bif ((decide ((i:Int)<(l.length:Int)))&&(decide ((l.getD i 0)<n))) then Qf3 l n m (i+1) else i
def Q76 (l:List Int) (n:Int) (i:Nat):(List Int):=bif ((decide ((i:Int)<(l.length:Int)))&&((l.getD i 0)==n)) then l else (((List.take i l)++([n]:List Int))++(List.drop i l))
def Q14 (l:List Int) (n:Int):(List Int):=Q76 l n (Qf3 l n ((((l.length:Int) - (0:Int)).toNat)+1) 0)
theorem Qah (l:List Int) (n:Int) (hs0:l.length<=4294967296):GV 289 [ints l,I n] (ints (Q14 l n)):=by
 generalize hR:Q14 l n=R;refine gA (kp 6 [17,31]) Tryz.func289 ?_;have hk0:=hs0;obtain z5:l.length<=4294967296:=hs0;refine Qg0 (fun (i:Nat)=>∃ m,(((l.length:Int) - (i:Int)).toNat)<m∧Q76 l n (Qf3 l n m i)=R∧(i:Int)<=(l.length:Int)) (fun i=>(((l.length:Int) - (i:Int)).toNat)) (fun i=>[(0,ints l),(1,I n),(4,AVal.lit (.slice none 0 0)),(5,I (i:Int))]) (fun i=>[]) 0 (wkA []) ⟨_,yCa _,foll hR rfl,by exact exA⟩ ?_;clear hR;rintro i ⟨m,hm,hR,hx⟩;(try dsimp only at hR hm hx);obtain ⟨m,rfl⟩:=sucA m;refine ai gkA ?_;apply ai<;>intro h1
 ·exact Qn0 (i+1) (wkA []) omA ⟨m,by exact omA,foll hR (congrArg (fun p:Nat=>Q76 l n p) (ct h1 rfl)),by exact exA⟩
 ·replace hR:Q76 l n i=R:=fo2 (fun p:Nat=>Q76 l n p) (i) hR (cf h1 rfl);refine ai gkA ?_;apply ai<;>intro h3
  ·exact lfA
  ·refine dchk (by kernel_rfl) ?_;refine ai gkA ?_;(first|refine ⟨Qn1 8 rfl lnA apA,?_⟩|refine ⟨QD0 8 rfl apA,?_⟩);(first|refine ⟨Qn1 8 rfl lnA apA,?_⟩|refine ⟨QD0 8 rfl apA,?_⟩);refine ai gkA ?_;(first|refine ⟨Qn1 8 rfl lnA apA,?_⟩|refine ⟨QD0 8 rfl apA,?_⟩);(repeat ((first|refine ai rfl ?_|refine ai (fun _=>rfl) ?_)));obtain rfl:=foll hR (cf h3 rfl);exact Qc0 lw (Qe0 0 _ rfl eqA lnA)
theorem QU8 (l:List Int) (n:Int):(Q14 l n).length<=l.length+1:=by
 unfold Q14 Q76;generalize Qf3 l n _ 0=i;cases ((decide ((i:Int)<(l.length:Int)))&&((l.getD i 0)==n)) with
 | true=>simp
 | false =>
  simp only [cond_false,ypa,yta,ywa,yja,yJa];omega
def Qw7 (n1:Int):(List Step):=bif (decide (n1 > 1000000)) then ([(⟨0,1000000⟩:Step)]:List Step) else ([(⟨0,n1⟩:Step)]:List Step)
def QB5 (n:Int):(List Step):=bif (decide (n<(-1000000))) then Qw7 (-1000000) else Qw7 n
theorem ref10_Flat_c (n:Int):GV 219 [I n] (stepL (QB5 n)):=by
 generalize hR:QB5 n=R;refine gA (kj [1000003] 3 [4,6]) Tryz.func219 ?_;refine Q81 (fun (n1:Int)=>Qw7 n1=R) (fun n1=>[(0,I n1),(2,AVal.lit (.slice none 0 0))]) (fun n1=>[]) ?_ ?_
 ·clear hR;rintro n1 hR;(try dsimp only at hR);apply ai<;>intro h1
  ·have qh1:=yda h1;refine Or.inl ?_;obtain rfl:=foll hR (ct h1 rfl);exact Qc0 lw (QBh (QX5 (c:=Step.cells) (d:=zE) ([(⟨0,1000000⟩:Step)]:List Step) rfl))
  ·have qh1:=yca h1;refine Or.inl ?_;obtain rfl:=foll hR (cf h1 rfl);exact Qc0 lw (QBh (QX5 (c:=Step.cells) (d:=zE) ([(⟨0,n1⟩:Step)]:List Step) rfl))
 ·apply ai<;>intro h3
  ·have qh3:=yda h3;exact Q90 (-1000000) (wkA []) (foll hR (ct h3 rfl))
  ·have qh3:=yca h3;exact Q90 n (wkA []) (foll hR (cf h3 rfl))
def Qc2 (act:Int) (now:Int) (ok:Bool) (want:Int) (c:Node):Node × Bool:=bif (((decide (want > 0))&&(act != 12))&&(act != 13)) then ({ c with want:=want,since:=now,asked:=now },ok) else ({ c with want:=want },ok)
def Qpb (x_:Node) (act:Int) (now:Int) (i1:Bool):Node × Bool:=bif i1 then Qc2 act now (x_.state != 4) x_.want { x_ with drain:=(act==12) } else Qc2 act now false 0 x_
def Qob (x_:Node) (act:Int) (job:Int) (now:Int) (i:Bool):Node × Bool:=bif i then bif (act==2) then Qc2 act now (((((x_.state==0)&&(!x_.drain))&&(decide (x_.epoch<999999999)))&&(decide (job >= 1)))&&(decide (job<=99999))) 2 { x_ with state:=2,job:=job,epoch:=(w64 (x_.epoch+1)) } else Qc2 act now (((((x_.state==0)&&(!x_.drain))&&(decide (x_.epoch<999999999)))&&(decide (job >= 1)))&&(decide (job<=99999))) 1 { x_ with state:=1,job:=job,epoch:=(w64 (x_.epoch+1)) } else bif (act==3) then Qc2 act now (x_.state==2) 3 { x_ with state:=1 } else bif (act==4) then Qc2 act now ((x_.state==1)||(x_.state==2)) 0 x_ else bif (act==5) then Qc2 act now ((x_.state==1)&&(x_.want==0)) 4 x_ else bif (act==6) then Qc2 act now ((x_.state==1)&&(x_.want==4)) 0 x_ else bif (act==7) then Qc2 act now ((x_.state==1)||(x_.state==2)) 5 { x_ with state:=3 } else bif (act==8) then Qc2 act now (x_.state==3) 0 { x_ with state:=0,job:=0 } else bif (act==9) then Qc2 act now ((x_.state != 4)&&(decide (x_.epoch<999999999))) 0 { x_ with state:=4,job:=0,epoch:=(w64 (x_.epoch+1)) } else bif (act==10) then Qc2 act now (x_.state==4) 6 x_ else bif (act==11) then Qc2 act now ((x_.state==4)&&(x_.want==6)) 0 { x_ with state:=0,drain:=false } else bif (act==12) then Qpb x_ act now (act==12) else Qpb x_ act now (act==13)
def Qi4 (x_:Node) (act:Int) (job:Int) (now:Int):Node × Bool:=bif (act==1) then Qob x_ act job now (act==1) else Qob x_ act job now (act==2)
theorem ref12_One_c (x_:Node) (act:Int) (job:Int) (now:Int):GV 172 [Node.a x_,I act,I job,I now] (AVal.tup [Node.a ((Qi4 x_ act job now).1),Bo ((Qi4 x_ act job now).2)]):=by
 generalize hR:Qi4 x_ act job now=R;refine gA (kj [1000009,1000043,1000046] 14 [23,24,50,58,64,67,77,87,91,98,114,119,131,153]) Tryz.func172 ?_;refine QEg (fun (ok:Bool) (want:Int) (c:Node)=>Qc2 act now ok want c=R) (fun ok want c=>[(1,I act),(3,I now),(8,AVal.ptr 0 0 7 0 0),(9,Bo false),(10,AVal.ptr 1 0 7 0 0),(12,Bo ok),(13,I want)]) (fun ok want c=>[(0,AObj.row 55 7 [[I 0,I 0,I 0,Bo false,I 0,I 0,I 0]]),(0,AObj.row 55 7 [[I c.state,I c.job,I c.epoch,Bo c.drain,I c.want,I c.since,I c.asked]])]) ?_ ?_
 ·clear hR;rintro ok want c hR;(try dsimp only at hR);apply ai<;>intro h1
  ·exact lfA
  ·exact lfA
 ·refine Q81 (fun (i:Bool)=>Qob x_ act job now i=R) (fun i=>[(1,I act),(2,I job),(3,I now),(4,AVal.ptr 0 0 7 0 0),(8,AVal.ptr 1 0 7 0 0),(9,Bo false),(10,AVal.ptr 2 0 7 0 0),(11,Bo ((x_.state==1)||(x_.state==2))),(12,Bo false),(13,I 0),(23,I act),(24,Bo i)]) (fun i=>[(0,AObj.row 55 7 [[I x_.state,I x_.job,I x_.epoch,Bo x_.drain,I x_.want,I x_.since,I x_.asked]]),(0,AObj.row 55 7 [[I 0,I 0,I 0,Bo false,I 0,I 0,I 0]]),(0,AObj.row 55 7 [[I x_.state,I x_.job,I x_.epoch,Bo x_.drain,I x_.want,I x_.since,I x_.asked]])]) ?_ ?_
  ·clear hR;rintro i hR;(try dsimp only at hR);apply ai<;>intro h3
   ·apply ai<;>intro h5
    ·exact QK2 (((((x_.state==0)&&(!x_.drain))&&(decide (x_.epoch<999999999)))&&(decide (job >= 1)))&&(decide (job<=99999))) 2 { x_ with state:=2,job:=job,epoch:=(w64 (x_.epoch+1)) } (wkA [1,2]) (foll hR (ct h3 (ct h5 rfl)))
    ·exact QK2 (((((x_.state==0)&&(!x_.drain))&&(decide (x_.epoch<999999999)))&&(decide (job >= 1)))&&(decide (job<=99999))) 1 { x_ with state:=1,job:=job,epoch:=(w64 (x_.epoch+1)) } (wkA [1,2]) (foll hR (ct h3 (cf h5 rfl)))
   ·apply ai<;>intro h7
    ·exact QK2 (x_.state==2) 3 { x_ with state:=1 } (wkA [1,2]) (foll hR (cf h3 (ct h7 rfl)))
    ·apply ai<;>intro h9
     ·exact QK2 ((x_.state==1)||(x_.state==2)) 0 x_ (wkA [1,2]) (foll hR (cf h3 (cf h7 (ct h9 rfl))))
     ·apply ai<;>intro h11
      ·exact QK2 ((x_.state==1)&&(x_.want==0)) 4 x_ (wkA [1,2]) (foll hR (cf h3 (cf h7 (cf h9 (ct h11 rfl)))))
      ·apply ai<;>intro h13
       ·exact QK2 ((x_.state==1)&&(x_.want==4)) 0 x_ (wkA [1,2]) (foll hR (cf h3 (cf h7 (cf h9 (cf h11 (ct h13 rfl))))))
       ·apply ai<;>intro h15
        ·exact QK2 ((x_.state==1)||(x_.state==2)) 5 { x_ with state:=3 } (wkA [1,2]) (foll hR (cf h3 (cf h7 (cf h9 (cf h11 (cf h13 (ct h15 rfl)))))))
        ·apply ai<;>intro h17
         ·exact QK2 (x_.state==3) 0 { x_ with state:=0,job:=0 } (wkA [1,2]) (foll hR (cf h3 (cf h7 (cf h9 (cf h11 (cf h13 (cf h15 (ct h17 rfl))))))))
         ·apply ai<;>intro h19
          ·exact QK2 ((x_.state != 4)&&(decide (x_.epoch<999999999))) 0 { x_ with state:=4,job:=0,epoch:=(w64 (x_.epoch+1)) } (wkA [1,2]) (foll hR (cf h3 (cf h7 (cf h9 (cf h11 (cf h13 (cf h15 (cf h17 (ct h19 rfl)))))))))
          ·apply ai<;>intro h21
           ·exact QK2 (x_.state==4) 6 x_ (wkA [1,2]) (foll hR (cf h3 (cf h7 (cf h9 (cf h11 (cf h13 (cf h15 (cf h17 (cf h19 (ct h21 rfl))))))))))
           ·apply ai<;>intro h23
            ·exact QK2 ((x_.state==4)&&(x_.want==6)) 0 { x_ with state:=0,drain:=false } (wkA [1,2]) (foll hR (cf h3 (cf h7 (cf h9 (cf h11 (cf h13 (cf h15 (cf h17 (cf h19 (cf h21 (ct h23 rfl)))))))))))
            ·refine Q81 (fun (i1:Bool)=>Qpb x_ act now i1=R) (fun i1=>[(1,I act),(3,I now),(4,AVal.ptr 0 0 7 0 0),(8,AVal.ptr 1 0 7 0 0),(9,Bo false),(10,AVal.ptr 2 0 7 0 0),(12,Bo false),(13,I 0),(131,Bo i1)]) (fun i1=>[(0,AObj.row 55 7 [[I x_.state,I x_.job,I x_.epoch,Bo x_.drain,I x_.want,I x_.since,I x_.asked]]),(0,AObj.row 55 7 [[I 0,I 0,I 0,Bo false,I 0,I 0,I 0]]),(0,AObj.row 55 7 [[I x_.state,I x_.job,I x_.epoch,Bo x_.drain,I x_.want,I x_.since,I x_.asked]])]) ?_ ?_
             ·clear hR;rintro i1 hR;(try dsimp only at hR);apply ai<;>intro h25
              ·exact QK2 (x_.state != 4) x_.want { x_ with drain:=(act==12) } (wkA [1,2]) (foll hR (ct h25 rfl))
              ·exact QK2 false 0 x_ (wkA [1,2]) (foll hR (cf h25 rfl))
             ·apply ai<;>intro h27
              ·exact Q90 (act==12) (wkA [0,1,2]) (foll hR (cf h3 (cf h7 (cf h9 (cf h11 (cf h13 (cf h15 (cf h17 (cf h19 (cf h21 (cf h23 (ct h27 rfl))))))))))))
              ·exact Q90 (act==13) (wkA [0,1,2]) (foll hR (cf h3 (cf h7 (cf h9 (cf h11 (cf h13 (cf h15 (cf h17 (cf h19 (cf h21 (cf h23 (cf h27 rfl))))))))))))
  ·apply ai<;>intro h29
   ·exact Q90 (act==1) (wkA [0,1,2]) (foll hR (ct h29 rfl))
   ·exact Q90 (act==2) (wkA [0,1,2]) (foll hR (cf h29 rfl))
def QB0 (r_:Resize):List Resize->List Resize->Bool->Nat->(List Resize) × Bool × Nat
 | [],out,put,i=>(out,put,i)
 | x_ :: r,out,put,i=>bif ((!put)&&(decide (x_.job > r_.job))) then QB0 r_ r ((out++([r_]:List Resize))++([x_]:List Resize)) true (i+1) else QB0 r_ r (out++([x_]:List Resize)) put (i+1)
def Qa3 (r_:Resize) (out:List Resize) (put:Bool) (i:Nat):(List Resize):=bif (!put) then (out++([r_]:List Resize)) else out
def QM5 (l:List Resize) (r_:Resize):(List Resize):=Qa3 r_ ((QB0 r_ l [] false 0).1) ((QB0 r_ l [] false 0).2.1) ((QB0 r_ l [] false 0).2.2)
theorem Q4f (l:List Resize) (r_:Resize) (hs0:l.length<=4294967296):GV 51 [QA1 l,Resize.a r_] (QA1 (QM5 l r_)):=by
 generalize hR:QM5 l r_=R;refine gA (kp 8 [11,25,38]) Tryz.func51 ?_;have hk0:=hs0;obtain z7:l.length<=4294967296:=hs0;refine Qh9 (fun (out:List Resize) (put:Bool) (i:Nat)=>Qa3 r_ (QB0 r_ (List.drop i l) out put i).1 (QB0 r_ (List.drop i l) out put i).2.1 (QB0 r_ (List.drop i l) out put i).2.2=R∧i<=l.length∧out.length<=2*i) (fun out put i=>l.length - i) (fun out put i=>[(0,QA1 l),(3,AVal.ptr 0 0 5 0 0),(4,AVal.lit (.slice none 0 0)),(5,AVal.own 1 0 5 0 out.length),(6,Bo put),(7,I (i:Int))]) (fun out put i=>[(0,AObj.row 49 5 [[I r_.job,Bo r_.grow,U r_.nodes,U r_.said,I r_.since]]),(0,AObj.row 49 5 (out.map Resize.cells))]) [] false 0 ((QC1 49 5).trans (wkA [0,1])) ⟨foll hR rfl,by exact omA,by exact exA⟩ ?_;clear hR;rintro out put i ⟨hR,hj,hx⟩;(try dsimp only at hR hj hx);apply ai<;>intro h1
 ·have hlt:=ltA h1;rw [Qa0 zH hlt] at hR;refine dchk (by kernel_rfl) ?_;refine ai gkA ?_;(repeat ((first|refine ai rfl ?_|refine ai (fun _=>rfl) ?_)));apply ai<;>intro h3
  ·refine Or.inl ?_;(first|refine ⟨Qn1 40 rfl lnA apA,?_⟩|refine ⟨QD0 40 rfl apA,?_⟩);refine ai gkA ?_;refine Or.inl ?_;(first|refine ⟨Qn1 40 rfl lnA apA,?_⟩|refine ⟨QD0 40 rfl apA,?_⟩);exact QU4 ((out++([r_]:List Resize))++([(l.getD i zH)]:List Resize)) true (i+1) (wkA [0,1]) omA ⟨foll hR (congrArg (fun p:(List Resize) × Bool × Nat=>Qa3 r_ p.1 p.2.1 p.2.2) (ct h3 rfl)),by exact omA,by exact exA⟩
  ·refine ai gkA ?_;refine Or.inl ?_;(first|refine ⟨Qn1 40 rfl lnA apA,?_⟩|refine ⟨QD0 40 rfl apA,?_⟩);exact QU4 (out++([(l.getD i zH)]:List Resize)) put (i+1) (wkA [0,1]) omA ⟨foll hR (congrArg (fun p:(List Resize) × Bool × Nat=>Qa3 r_ p.1 p.2.1 p.2.2) (cf h3 rfl)),by exact omA,by exact exA⟩
 ·rw [Qd0 (l:=l) (j:=i) (geA h1)] at hR;replace hR:Qa3 r_ out put i=R:=fo2 (fun p:(List Resize) × Bool × Nat=>Qa3 r_ p.1 p.2.1 p.2.2) (out,put,i) hR rfl;apply ai<;>intro h5
  ·refine Or.inl ?_;(first|refine ⟨Qn1 40 rfl lnA apA,?_⟩|refine ⟨QD0 40 rfl apA,?_⟩);obtain rfl:=foll hR (ct h5 rfl);exact Qc0 lw (Qe0 zH _ rfl eqA lnA)
  ·obtain rfl:=foll hR (cf h5 rfl);exact Qc0 lw (Qe0 zH _ rfl eqA lnA)
def QV8 (b:List Node):List Node->Nat->Bool
 | [],_=>true
 | x_ :: r,i=>bif (!((x_.state==(b.getD i zF).state)&&((x_.job==(b.getD i zF).job)&&((x_.epoch==(b.getD i zF).epoch)&&((x_.drain==(b.getD i zF).drain)&&((x_.want==(b.getD i zF).want)&&((x_.since==(b.getD i zF).since)&&(x_.asked==(b.getD i zF).asked)))))))) then false else QV8 b r (i+1)
def QNb (a:List Node) (b:List Node):Bool:=bif ((a.length:Int)!=(b.length:Int)) then false else QV8 b a 0
theorem ref12_Same_c (a:List Node) (b:List Node) (hs0:a.length<=4294967296) (hs1:b.length<=4294967296):GV 52 [nodeL a,nodeL b] (Bo (QNb a b)):=by
 generalize hR:QNb a b=R;refine gA (kp 6 [10,14,25]) Tryz.func52 ?_;have hk0:=hs0;obtain z7:a.length<=4294967296:=hs0;have hk1:=hs1;obtain z8:b.length<=4294967296:=hs1;apply ai<;>intro h1
 ·exact lfA
 ·refine Qg0 (fun (i:Nat)=>QV8 b (List.drop i a) i=R∧i<=a.length) (fun i=>a.length - i) (fun i=>[(0,nodeL a),(1,nodeL b),(4,Bo false),(5,I (i:Int))]) (fun i=>[]) 0 (wkA []) ⟨folA,by exact omA⟩ ?_;clear hR;rintro i ⟨hR,hj⟩;(try dsimp only at hR hj);apply ai<;>intro h3
  ·have hlt:=ltA h3;rw [Qa0 zF hlt] at hR;refine dchk (by kernel_rfl) ?_;refine ai gkA ?_;refine ai gkA ?_;refine ai (fun _=>(by kernel_rfl:eqOK _ _=true)) ?_;(repeat ((first|refine ai rfl ?_|refine ai (fun _=>rfl) ?_)));apply ai<;>intro h5
   ·exact lfA
   ·exact Qn0 (i+1) (wkA []) omA ⟨folA,by exact omA⟩
  ·rw [Qd0 (l:=a) (j:=i) (geA h3)] at hR;exact lfA
def QK4 (b:List Resize):List Resize->Nat->Bool
 | [],_=>true
 | x_ :: r,i=>bif (!((x_.job==(b.getD i zH).job)&&((x_.grow==(b.getD i zH).grow)&&((x_.nodes==(b.getD i zH).nodes)&&((x_.said==(b.getD i zH).said)&&(x_.since==(b.getD i zH).since)))))) then false else QK4 b r (i+1)
def Qv6 (a:List Resize) (b:List Resize):Bool:=bif ((a.length:Int)!=(b.length:Int)) then false else QK4 b a 0
theorem Qwc (a:List Resize) (b:List Resize) (hs0:a.length<=4294967296) (hs1:b.length<=4294967296):GV 54 [QA1 a,QA1 b] (Bo (Qv6 a b)):=by
 generalize hR:Qv6 a b=R;refine gA (kp 6 [10,14,25]) Tryz.func54 ?_;have hk0:=hs0;obtain z7:a.length<=4294967296:=hs0;have hk1:=hs1;obtain z8:b.length<=4294967296:=hs1;apply ai<;>intro h1
 ·exact lfA
 ·refine Qg0 (fun (i:Nat)=>QK4 b (List.drop i a) i=R∧i<=a.length) (fun i=>a.length - i) (fun i=>[(0,QA1 a),(1,QA1 b),(4,Bo false),(5,I (i:Int))]) (fun i=>[]) 0 (wkA []) ⟨folA,by exact omA⟩ ?_;clear hR;rintro i ⟨hR,hj⟩;(try dsimp only at hR hj);apply ai<;>intro h3
  ·have hlt:=ltA h3;rw [Qa0 zH hlt] at hR;refine dchk (by kernel_rfl) ?_;refine ai gkA ?_;refine ai gkA ?_;refine ai (fun _=>(by kernel_rfl:eqOK _ _=true)) ?_;(repeat ((first|refine ai rfl ?_|refine ai (fun _=>rfl) ?_)));apply ai<;>intro h5
   ·exact lfA
   ·exact Qn0 (i+1) (wkA []) omA ⟨folA,by exact omA⟩
  ·rw [Qd0 (l:=a) (j:=i) (geA h3)] at hR;exact lfA
def QX8 (b:List Book):List Book->Nat->Bool
 | [],_=>true
 | x_ :: r,i=>bif (!((x_.id==(b.getD i zI).id)&&((x_.from_==(b.getD i zI).from_)&&((x_.to==(b.getD i zI).to)&&(x_.nodes==(b.getD i zI).nodes))))) then false else QX8 b r (i+1)
def QQb (a:List Book) (b:List Book):Bool:=bif ((a.length:Int)!=(b.length:Int)) then false else QX8 b a 0
theorem ref19_Same_c (a:List Book) (b:List Book) (hs0:a.length<=4294967296) (hs1:b.length<=4294967296):GV 55 [bookL a,bookL b] (Bo (QQb a b)):=by
 generalize hR:QQb a b=R;refine gA (kp 6 [10,14,25]) Tryz.func55 ?_;have hk0:=hs0;obtain z7:a.length<=4294967296:=hs0;have hk1:=hs1;obtain z8:b.length<=4294967296:=hs1;apply ai<;>intro h1
 ·exact lfA
 ·refine Qg0 (fun (i:Nat)=>QX8 b (List.drop i a) i=R∧i<=a.length) (fun i=>a.length - i) (fun i=>[(0,bookL a),(1,bookL b),(4,Bo false),(5,I (i:Int))]) (fun i=>[]) 0 (wkA []) ⟨folA,by exact omA⟩ ?_;clear hR;rintro i ⟨hR,hj⟩;(try dsimp only at hR hj);apply ai<;>intro h3
  ·have hlt:=ltA h3;rw [Qa0 zI hlt] at hR;refine dchk (by kernel_rfl) ?_;refine ai gkA ?_;refine ai gkA ?_;refine ai (fun _=>(by kernel_rfl:eqOK _ _=true)) ?_;(repeat ((first|refine ai rfl ?_|refine ai (fun _=>rfl) ?_)));apply ai<;>intro h5
   ·exact lfA
   ·exact Qn0 (i+1) (wkA []) omA ⟨folA,by exact omA⟩
  ·rw [Qd0 (l:=a) (j:=i) (geA h3)] at hR;exact lfA
def Qz7 (b:List Usage):List Usage->Nat->Bool
 | [],_=>true
 | x_ :: r,i=>bif ((((!(ByteArray.toList x_.user==ByteArray.toList (b.getD i zJ).user))||(!(ByteArray.toList x_.account==ByteArray.toList (b.getD i zJ).account)))||(x_.used != (b.getD i zJ).used))||(x_.share != (b.getD i zJ).share)) then false else Qz7 b r (i+1)
def QPb (a:List Usage) (b:List Usage):Bool:=bif ((a.length:Int)!=(b.length:Int)) then false else Qz7 b a 0
theorem ref17_Same_c (a:List Usage) (b:List Usage) (hs0:a.length<=4294967296∧(∀ y ∈ a,y.sz)) (hs1:b.length<=4294967296∧(∀ y ∈ b,y.sz)):GV 56 [QI2 a,QI2 b] (Bo (QPb a b)):=by
 generalize hR:QPb a b=R;refine gA (kp 6 [10,14,66]) Tryz.func56 ?_;obtain ⟨z9,z10⟩:=id hs0;obtain ⟨z11,z12⟩:=id hs1;apply ai<;>intro h1
 ·exact lfA
 ·refine Qg0 (fun (i:Nat)=>Qz7 b (List.drop i a) i=R∧i<=a.length) (fun i=>a.length - i) (fun i=>[(0,QI2 a),(1,QI2 b),(4,Bo false),(5,I (i:Int))]) (fun i=>[]) 0 (wkA []) ⟨folA,by exact omA⟩ ?_;clear hR;rintro i ⟨hR,hj⟩;(try dsimp only at hR hj);apply ai<;>intro h3
  ·have hlt:=ltA h3;rw [Qa0 zJ hlt] at hR;have hxz:(a.getD i zJ).sz:=Qp4 (by first|assumption|grind) (Usage.szz _);have hkz:=hxz;obtain ⟨z5,z6⟩:=Usage.zz hxz;refine dchk (by kernel_rfl) ?_;refine ai gkA ?_;refine ai gkA ?_;refine ai gkA ?_;refine ai gkA ?_;refine ai gkA ?_;refine ai gkA ?_;refine ai gkA ?_;refine ai gkA ?_;(repeat ((first|refine ai rfl ?_|refine ai (fun _=>rfl) ?_)));apply ai<;>intro h7
   ·exact lfA
   ·exact Qn0 (i+1) (wkA []) omA ⟨folA,by exact omA⟩
  ·rw [Qd0 (l:=a) (j:=i) (geA h3)] at hR;exact lfA
def QT5 (b:List Note):List Note->Nat->Bool
 | [],_=>true
 | x_ :: r,i=>bif (!((x_.kind==(b.getD i zL).kind)&&((x_.node==(b.getD i zL).node)&&((x_.job==(b.getD i zL).job)&&(x_.epoch==(b.getD i zL).epoch))))) then false else QT5 b r (i+1)
def Qy7 (a:List Note) (b:List Note):Bool:=bif ((a.length:Int)!=(b.length:Int)) then false else QT5 b a 0
theorem Qle (a:List Note) (b:List Note) (hs0:a.length<=4294967296) (hs1:b.length<=4294967296):GV 13 [noteL a,noteL b] (Bo (Qy7 a b)):=by
 generalize hR:Qy7 a b=R;refine gA (kp 6 [10,14,25]) Tryz.func13 ?_;have hk0:=hs0;obtain z7:a.length<=4294967296:=hs0;have hk1:=hs1;obtain z8:b.length<=4294967296:=hs1;apply ai<;>intro h1
 ·exact lfA
 ·refine Qg0 (fun (i:Nat)=>QT5 b (List.drop i a) i=R∧i<=a.length) (fun i=>a.length - i) (fun i=>[(0,noteL a),(1,noteL b),(4,Bo false),(5,I (i:Int))]) (fun i=>[]) 0 (wkA []) ⟨folA,by exact omA⟩ ?_;clear hR;rintro i ⟨hR,hj⟩;(try dsimp only at hR hj);apply ai<;>intro h3
  ·have hlt:=ltA h3;rw [Qa0 zL hlt] at hR;refine dchk (by kernel_rfl) ?_;refine ai gkA ?_;refine ai gkA ?_;refine ai (fun _=>(by kernel_rfl:eqOK _ _=true)) ?_;(repeat ((first|refine ai rfl ?_|refine ai (fun _=>rfl) ?_)));apply ai<;>intro h5
   ·exact lfA
   ·exact Qn0 (i+1) (wkA []) omA ⟨folA,by exact omA⟩
  ·rw [Qd0 (l:=a) (j:=i) (geA h3)] at hR;exact lfA
def Q1a (j:Job):Bool:=(((((Qfd j.shape)&&(decide ((j.after.length:Int)<=100)))&&(decide ((ByteArray.size j.name:Int)<=1000)))&&(decide ((ByteArray.size j.user:Int)<=1000)))&&(decide ((ByteArray.size j.account:Int)<=1000)))
theorem law14_Few_c (j:Job):GV 84 [Job.a j] (Bo (Q1a j)):=by
 generalize hR:Q1a j=R;refine gA (kp 3 []) Tryz.func84 ?_;refine us (law07_Few_c j.shape _) ?_;exact lfA
def Q10 (s:Int):Int:=(QL6 s)
theorem Qh1 (s:Int):GV 23 [U s] (I (Q10 s)):=by
 generalize hR:Q10 s=R;refine gA (kp 3 []) Tryz.func23 ?_;refine us (QOc s _) ?_;exact lfA
theorem Qlf (s:Int):0<=Q10 s∧Q10 s<=127:=by
 have h:∀ a:BitVec 64,0<=w64 ((a &&& BitVec.ofInt 64 127).toNat:Int)∧w64 ((a &&& BitVec.ofInt 64 127).toNat:Int)<=127:=by
  intro a;have:(a &&& BitVec.ofInt 64 127).toNat<=127:=by rw [BitVec.toNat_and];exact yBb
  have e:w64 ((a &&& BitVec.ofInt 64 127).toNat:Int)=((a &&& BitVec.ofInt 64 127).toNat:Int):=wr oA;rw [e];omega
 exact h _
def QI0 (s:List Node) (f:Node->Bool):Bool:=(decide ((Qv2 s f) >= 0))
def QJ1 (s:List Int) (v:Int):Bool:=(decide ((QD8 s v) >= 0))
theorem Qu2 (s:List Int) (v:Int) (hs0:s.length<=4294967296):GV 93 [ints s,I v] (Bo (QJ1 s v)):=by
 generalize hR:QJ1 s v=R;refine gA (kp 5 []) Tryz.func93 ?_;have hk0:=hs0;obtain z1:s.length<=4294967296:=hs0;refine us (QSd s v szA _) ?_;exact lfA
def Q25 (n:Int):Int:=(QG6 n 0 1000000000000)
theorem QDa (n:Int):GV 180 [I n] (I (Q25 n)):=by
 generalize hR:Q25 n=R;refine gA (kp 3 []) Tryz.func180 ?_;refine us (QOf n 0 1000000000000 _) ?_;exact lfA
def QY0 (s:List Alt) (f:Alt->Bool):Bool:=(decide ((Qb1 s f) >= 0))
def Q6e (n:Int):Bool:=(QU2 n 1 100000)
theorem cmd_length_c (n:Int):GV 265 [I n] (Bo (Q6e n)):=by
 generalize hR:Q6e n=R;refine gA (kp 3 []) Tryz.func265 ?_;refine us (QC3 n 1 100000 _) ?_;exact lfA
def QF6 :List (Nat × Int)->Nat->Int × Int
 | [],n=>((n:Int),0)
 | x_ :: r,n=>bif ((Qk1 x_.2)==0) then ((n:Int),40) else QF6 r (n+1)
def Ql5 (s:ByteArray):Int × Int:=QF6 (Qf8 s) 0
theorem QJd (s:ByteArray) (hs0:s.size<=4294967296):GV 293 [Sg s] (AVal.tup [I ((Ql5 s).1),I ((Ql5 s).2)]):=by
 generalize hR:Ql5 s=R;refine gA (kp 7 [8,9,10,14]) Tryz.func293 ?_;have hk0:=hs0;obtain z5:s.size<=4294967296:=hs0;refine Qb0 (fun (n:Nat) (pos:Nat)=>∃ m,ByteArray.size s - pos<=m∧QF6 (QL4 s m pos) n=R∧n<=pos) (fun n pos=>ByteArray.size s - pos) (fun n pos=>[(2,I 0),(3,I 0),(4,I (n:Int)),(8,AVal.ptr 0 0 1 0 0)]) (fun n pos=>[(0,AObj.other (.strIter s pos))]) 0 0 (wkA [0]) ⟨ByteArray.size s,by exact omA,foll hR rfl,by exact exA⟩ ?_;clear hR;rintro n pos ⟨m,hm,hR,hx⟩;(try dsimp only at hR hm hx);apply ai<;>intro h1
 ·have hlt:=yda h1;have hw:=Q09 s pos;have hwe:=QZ8 s pos hlt;obtain ⟨m,rfl⟩:=sucA m;rw [Qy3 h1] at hR;refine ai (fun _=>?_) (fun h=>nomatch h);refine us (Qm5 ((pos,((Utf8.decode s pos).1:Int)).2) _) ?_;apply ai<;>intro h3
  ·exact lfA
  ·exact Q60 (n+1) (pos+(Utf8.decode s pos).2) (wkA [0]) omA ⟨m,by exact omA,foll hR (cf h3 rfl),by exact exA⟩
 ·rw [Qd6 h1] at hR;refine ai (fun h=>nomatch h) (fun _=>?_);exact lfA
def Ql0 (y:Int):List Int->Nat->Bool
 | [],_=>((false||(y==45))||(y==95))
 | x_ :: r,i=>bif ((Qk1 y)==x_) then true else Ql0 y r (i+1)
def Qf2 (r_:LexReader):Token × LexReader:=((⟨1,(Q38 ((Q20 r_ (fun (y:Int)=>Ql0 y ([2,3]:List Int) 0)).1)),0,0⟩:Token),(Q20 r_ (fun (y:Int)=>Ql0 y ([2,3]:List Int) 0)).2)
theorem Qfe (r_:LexReader) (hs0:r_.sz) (hp0:0<=r_.at_∧r_.at_<=(r_.line.length:Int)∧r_.line.length<=400):AMoves Tryz.prog 316 [AVal.ptr 0 0 4 0 0] [(0,AObj.row 321 4 [[runes r_.line,I r_.at_,I r_.bad,I r_.error]])] 1 (Token.a ((Qf2 r_).1)) [(0,AObj.row 321 4 [[runes ((Qf2 r_).2.line),I ((Qf2 r_).2.at_),I ((Qf2 r_).2.bad),I ((Qf2 r_).2.error)]])]:=by
 generalize hR:Qf2 r_=R;refine mo (kp 5 []) Tryz.func316 ?_;have hk0:=hs0;obtain z7:r_.line.length<=4294967296:=hs0;refine Or.inl ?_;refine ACalls.of_cwp (fun _=>true) Tryz.func306 rfl rfl ?_;refine ⟨_,_,Told.refl,?_⟩;have cl1:∀ (y1:Int),AMoves Tryz.prog 330 [J y1,AVal.ptr 1 0 1 0 0] [(0,AObj.row 52 1 [[ints ([2,3]:List Int)]]),(0,AObj.row 322 1 [[AVal.fn (.func 315) [] [AVal.ptr 0 0 1 0 0]]])] 2 (Bo ((fun (y:Int)=>Ql0 y ([2,3]:List Int) 0) y1)) [(0,AObj.row 52 1 [[ints ([2,3]:List Int)]]),(0,AObj.row 322 1 [[AVal.fn (.func 315) [] [AVal.ptr 0 0 1 0 0]]])]:=by
  intro y1;have hR:(fun (y:Int)=>Ql0 y ([2,3]:List Int) 0) y1=(fun (y:Int)=>Ql0 y ([2,3]:List Int) 0) y1:=rfl;refine mo (kp 4 []) Tryz.func330 ?_;refine ACalls.of_cwp (fun _=>true) Tryz.func315 rfl rfl ?_;refine Qg0 (fun (i:Nat)=>Ql0 y1 (List.drop i ([2,3]:List Int)) i=(fun (y:Int)=>Ql0 y ([2,3]:List Int) 0) y1∧i<=([2,3]:List Int).length) (fun i=>([2,3]:List Int).length - i) (fun i=>[(0,J y1),(3,Bo false),(6,ints ([2,3]:List Int)),(7,I (([2,3]:List Int).length:Int)),(8,I (i:Int))]) (fun i=>[(0,AObj.row 52 1 [[ints ([2,3]:List Int)]]),(0,AObj.row 322 1 [[AVal.fn (.func 315) [] [AVal.ptr 0 0 1 0 0]]])]) 0 (wkA [0,1]) ⟨foll hR rfl,by exact omA⟩ ?_;clear hR;rintro i ⟨hR,hj⟩;(try dsimp only at hR hj);apply ai<;>intro h1
  ·(have hlt:i<([2,3]:List Int).length:=by have:=yda h1;omega);rw [Qa0 0 hlt] at hR;refine ai gkA ?_;refine us (Qm5 y1 _) ?_;apply ai<;>intro h3
   ·refine ⟨_,_,Told.refl,?_⟩;refine Qu0 (fun r:Bool=>Bo r) (fun _=>[(0,AObj.row 52 1 [[ints ([2,3]:List Int)]]),(0,AObj.row 322 1 [[AVal.fn (.func 315) [] [AVal.ptr 0 0 1 0 0]]])]) (leaf:=true) (foll hR (ct h3 rfl)) ?_;exact tt [0,1] (tO rfl (ts (lv lw LowL.nil)) (tO rfl (Qi3 (cv (QF8 .nil (cv (Qm1 0 rfl rfl) .nil)) .nil)) .nil)) t1
   ·exact Qn0 (i+1) (wkA [0,1]) omA ⟨folA,by exact omA⟩
  ·rw [Qd0 (l:=([2,3]:List Int)) (j:=i) (geA h1)] at hR;refine ⟨_,_,Told.refl,?_⟩;refine Qu0 (fun r:Bool=>Bo r) (fun _=>[(0,AObj.row 52 1 [[ints ([2,3]:List Int)]]),(0,AObj.row 322 1 [[AVal.fn (.func 315) [] [AVal.ptr 0 0 1 0 0]]])]) (leaf:=((false||(y1==45))||(y1==95))) (foll hR rfl) ?_;exact tt [0,1] (tO rfl (ts (lv lw LowL.nil)) (tO rfl (Qi3 (cv (QF8 .nil (cv (Qm1 0 rfl rfl) .nil)) .nil)) .nil)) t1
 have hof1:AMoves Tryz.prog 307 [AVal.ptr 0 0 4 0 0,AVal.fn (.func 330) [] [AVal.ptr 2 0 1 0 0]] [(0,AObj.row 321 4 [[runes r_.line,I r_.at_,I r_.bad,I r_.error]]),(0,AObj.row 52 1 [[ints ([2,3]:List Int)]]),(0,AObj.row 322 1 [[AVal.fn (.func 315) [] [AVal.ptr 1 0 1 0 0]]])] 3 (Sg ((Q20 r_ (fun (y:Int)=>Ql0 y ([2,3]:List Int) 0)).1)) [(0,AObj.row 321 4 [[runes (((Q20 r_ (fun (y:Int)=>Ql0 y ([2,3]:List Int) 0)).2).line),I (((Q20 r_ (fun (y:Int)=>Ql0 y ([2,3]:List Int) 0)).2).at_),I (((Q20 r_ (fun (y:Int)=>Ql0 y ([2,3]:List Int) 0)).2).bad),I (((Q20 r_ (fun (y:Int)=>Ql0 y ([2,3]:List Int) 0)).2).error)]]),(0,AObj.row 52 1 [[ints ([2,3]:List Int)]]),(0,AObj.row 322 1 [[AVal.fn (.func 315) [] [AVal.ptr 1 0 1 0 0]]])]:=by
  have hR:Q20 r_ (fun (y:Int)=>Ql0 y ([2,3]:List Int) 0)=Q20 r_ (fun (y:Int)=>Ql0 y ([2,3]:List Int) 0):=rfl;refine mo (kp 6 [33]) Tryz.func307 ?_;refine Qg0 (fun (c:LexReader)=>∃ m,(((c.line.length:Int) - c.at_).toNat)<m∧QH0 r_ (QG0 (fun (y:Int)=>Ql0 y ([2,3]:List Int) 0) m c)=Q20 r_ (fun (y:Int)=>Ql0 y ([2,3]:List Int) 0)∧0<=c.at_∧c.at_<=(c.line.length:Int)∧c.line.length<=400∧r_.at_<=c.at_∧0<=r_.at_) (fun c=>(((c.line.length:Int) - c.at_).toNat)) (fun c=>[(0,AVal.ptr 0 0 4 0 0),(1,AVal.fn (.func 330) [] [AVal.ptr 2 0 1 0 0]),(4,Sg ⟨#[]⟩),(5,I r_.at_)]) (fun c=>[(0,AObj.row 321 4 [[runes c.line,I c.at_,I c.bad,I c.error]]),(0,AObj.row 52 1 [[ints ([2,3]:List Int)]]),(0,AObj.row 322 1 [[AVal.fn (.func 315) [] [AVal.ptr 1 0 1 0 0]]])]) r_ (wkA [0,1,2]) ⟨_,yCa _,foll hR rfl,by exact exA⟩ ?_;clear hR;rintro c ⟨m,hm,hR,hx⟩;(try dsimp only at hR hm hx);obtain ⟨m,rfl⟩:=sucA m;refine dchk (by kernel_rfl) ?_;refine ai gkA ?_;(first|apply u2|apply u3|apply u4|apply us);exact mv [1,2] (cl1 (c.line.getD (c.at_.toNat) 0)) (dO (ds (lv lw LowL.nil)) (dO (dc (dv (dn_fn .nil (dp .nil)) .nil)) .nil)) (d1 (dp .nil)) (rO (re (lv lw LowL.nil)) (rO (rc (rv (ren_fn .nil (.cons _ _ _ _ (rp 1 0 rfl) .nil)) .nil)) .nil)) rx;(repeat ((first|refine ai rfl ?_|refine ai (fun _=>rfl) ?_)));apply ai<;>intro h5
  ·have hq1:=yda ((yea _ _).mp h5).1;have hwr:w64 (c.at_+1)=c.at_+1:=wr oA;exact Qn0 { c with at_:=(w64 (c.at_+1)) } (wk [0,1,2] (tO rfl (ts LexReader.lo) (tO rfl (ts (lv lw LowL.nil)) (tO rfl (Qi3 (cv (QF8 .nil (cv (Qm1 1 rfl rfl) .nil)) .nil)) .nil))) (sv (Qm1 0 rfl rfl) (sv (QF8 .nil (cv (Qm1 2 rfl rfl) .nil)) (s1 (s1 .nil))))) omA ⟨m,by exact omA,foll hR (congrArg (fun p:LexReader=>QH0 r_ p) (ct h5 rfl)),by exact exA⟩
  ·replace hR:QH0 r_ c=Q20 r_ (fun (y:Int)=>Ql0 y ([2,3]:List Int) 0):=fo2 (fun p:LexReader=>QH0 r_ p) (c) hR (cf h5 rfl);refine dchk (by kernel_rfl) ?_;refine ai gkA ?_;(first|refine ⟨(List.drop (r_.at_.toNat) (List.take (c.at_.toNat) c.line)),by exact cvA,?_⟩|refine ⟨_,fun _=>⟨(List.drop (r_.at_.toNat) (List.take (c.at_.toNat) c.line)),by exact cvA,rfl,rfl⟩,?_⟩|refine ⟨_,rfl,⟨(List.drop (r_.at_.toNat) (List.take (c.at_.toNat) c.line)),by exact cvA,Sub.refl _,rfl⟩,?_⟩);(repeat ((first|refine ai rfl ?_|refine ai (fun _=>rfl) ?_)));refine Qu0 (fun r:ByteArray × LexReader=>Sg r.1) (fun r:ByteArray × LexReader=>[(0,AObj.row 321 4 [[runes r.2.line,I r.2.at_,I r.2.bad,I r.2.error]]),(0,AObj.row 52 1 [[ints ([2,3]:List Int)]]),(0,AObj.row 322 1 [[AVal.fn (.func 315) [] [AVal.ptr 1 0 1 0 0]]])]) (leaf:=((runesBytes (List.drop (r_.at_.toNat) (List.take (c.at_.toNat) c.line))),c)) (foll hR rfl) ?_;exact tt [0,1,2] (tO rfl (ts LexReader.lo) (tO rfl (ts (lv lw LowL.nil)) (tO rfl (Qi3 (cv (QF8 .nil (cv (Qm1 1 rfl rfl) .nil)) .nil)) .nil))) t1
 refine us (mv [0,2,3] (hof1) (dO (ds LexReader.lo) (dO (dc (dv (dn_as (QX5 (c:=(fun q_=>[I q_])) (d:=0) ([2,3]:List Int) rfl) lw) .nil)) (dO (dc (dv (dn_fn .nil (dp .nil)) .nil)) .nil))) (dp (dv (dn_fn .nil (dp .nil)) .nil)) (rO (re LexReader.lo) (rO (re (lv lw LowL.nil)) (rO (rc (rv (ren_fn .nil (.cons _ _ _ _ (rp 2 0 rfl) .nil)) .nil)) .nil))) rx) ?_;refine us (runes_Lower_c ((Q20 r_ (fun (y:Int)=>Ql0 y ([2,3]:List Int) 0)).1) (by first|(exact Qcb _ _ hp0.2.2)|exact szA) _) ?_;obtain rfl:=foll hR rfl;exact rq (ttA [0])
def Qzb (s:ByteArray):Int × Unit:=((Qua s).1,())
theorem strconv_Atoi_c (s:ByteArray) (hs0:s.size<=4294967296) (hp0:atoiOK s):GV 343 [Sg s] (AVal.tup [I ((Qzb s).1),AVal.lit .nilIface]):=by
 generalize hR:Qzb s=R;refine gA (kp 6 [12]) Tryz.func343 ?_;have hk0:=hs0;obtain z1:s.size<=4294967296:=hs0;refine us (QBg s szA ckA _) ?_;refine ai (fun h=>nomatch h) (fun _=>?_);exact lfA
def Qu1 (x_:Int) (held:Bool):Bool × Bool:=bif (((Qk1 x_)==0)||((x_==34)&&(!held))) then (false,held) else (true,((x_==92)&&(!held)))
theorem QXb (x_:Int) (held:Bool):AMoves Tryz.prog 335 [J x_,AVal.ptr 0 0 1 0 0] [(0,AObj.row 4 1 [[Bo held]])] 1 (Bo ((Qu1 x_ held).1)) [(0,AObj.row 4 1 [[Bo ((Qu1 x_ held).2)]])]:=by
 generalize hR:Qu1 x_ held=R;refine mo (kp 4 [14]) Tryz.func335 ?_;refine us (Qm5 x_ _) ?_;apply ai<;>intro h1
 ·obtain rfl:=foll hR (ct h1 rfl);exact rq (ttA [0])
 ·obtain rfl:=foll hR (cf h1 rfl);exact rq (ttA [0])
def QQ0 (p_:List Int) (r_:Int):(List Int):=bif (decide ((wu32 r_)<=127)) then (p_++([(wu8 r_)]:List Int)) else (QJ2 p_ r_)
theorem Qxe (p_:List Int) (r_:Int) (hs0:p_.length<=4294967296):AMoves Tryz.prog 340 [AVal.own 0 0 1 0 p_.length,J r_] [(0,AObj.row 5 1 (p_.map (fun q_=>[Y q_])))] 0 (AVal.own 0 0 1 0 (QQ0 p_ r_).length) [(0,AObj.row 5 1 ((QQ0 p_ r_).map (fun q_=>[Y q_])))]:=by
 generalize hR:QQ0 p_ r_=R;refine mo (kp 5 [7]) Tryz.func340 ?_;have hk0:=hs0;obtain z3:p_.length<=4294967296:=hs0;apply ai<;>intro h1
 ·have qh1:=yda h1;refine Or.inl ?_;(first|refine ⟨Qn1 1 rfl lnA apA,?_⟩|refine ⟨QD0 1 rfl apA,?_⟩);obtain rfl:=foll hR (ct h1 rfl);exact rq (ttA [0])
 ·have qh1:=yca h1;refine us (mv [0] (QS9 p_ r_ szA) (dO (dr eqA) .nil) (dv (QS6 rfl lnA) (d1 .nil)) (rO rr .nil) (rw_ 1 0 rfl)) ?_;obtain rfl:=foll hR (cf h1 rfl);exact rq (ttA [1])
theorem Q37 (l:List Int) (r_:Int):∃ k,QQ0 l r_=l++k∧1<=k.length∧k.length<=4∧Qj8 k:=by
 have h1:∀ a:Int,Qj8 [wu8 a]:=fun a=>QR6 (wu8_in a) QDb
 have h2:∀ a b:Int,Qj8 [wu8 a,wu8 b]:=fun a b=>QR6 (wu8_in a) (h1 b)
 have h3:∀ a b c:Int,Qj8 [wu8 a,wu8 b,wu8 c]:=fun a b c=>QR6 (wu8_in a) (h2 b c)
 have h4:∀ a b c d:Int,Qj8 [wu8 a,wu8 b,wu8 c,wu8 d]:=fun a b c d=>QR6 (wu8_in a) (h3 b c d)
 have hc:Qj8 [239,191,189]:=QR6 (by decide) (QR6 (by decide) (QR6 (by decide) QDb));unfold QQ0;cases (decide ((wu32 r_)<=127)) with
 | true=>exact ⟨_,rfl,by simp,by simp,h1 _⟩
 | false =>
  simp only [cond_false];unfold QJ2
  repeat' first
   | exact ⟨_,rfl,by simp,by simp,h2 _ _⟩
   | exact ⟨_,rfl,by simp,by simp,h3 _ _ _⟩
   | exact ⟨_,rfl,by simp,by simp,h4 _ _ _ _⟩
   | exact ⟨_,rfl,by simp,by simp,hc⟩
   | unfold QR2
   | (rw [yAa];split)
theorem QF9 (l:List Int) (r_:Int):(QQ0 l r_).length ≠ 0:=by
 obtain ⟨k,e,h,_⟩:=Q37 l r_;rw [e,ypa];omega
theorem QKc (l:List Int) (r_:Int):(QQ0 l r_).length<=l.length+4:=by
 obtain ⟨k,e,_,h,_⟩:=Q37 l r_;rw [e,ypa];omega
theorem byteIn_rune (l:List Int) (r_:Int) (h:Qj8 l):Qj8 (QQ0 l r_):=by
 obtain ⟨k,e,_,_,g⟩:=Q37 l r_;rw [e];exact byteIn_app h g
def Qt0 (s:List Dep) (f:Dep->Bool):Bool:=(decide ((Qc1 s f) >= 0))
def QAe (n:Int):Bool:=(QU2 n 1 99999)
theorem QYf (n:Int):GV 269 [I n] (Bo (QAe n)):=by
 generalize hR:QAe n=R;refine gA (kp 3 []) Tryz.func269 ?_;refine us (QC3 n 1 99999 _) ?_;exact lfA
def Qaa (a:Shape) (b:Shape):Bool:=(((((a.kind==b.kind)&&(a.min==b.min))&&(a.max==b.max))&&(a.wall==b.wall))&&(QP6 a.alts b.alts))
theorem shape_Same_c (a:Shape) (b:Shape) (hs0:a.sz) (hs1:b.sz):GV 270 [Shape.a a,Shape.a b] (Bo (Qaa a b)):=by
 generalize hR:Qaa a b=R;refine gA (kp 5 []) Tryz.func270 ?_;have hk0:=hs0;obtain z1:a.alts.length<=4294967296:=hs0;have hk1:=hs1;obtain z2:b.alts.length<=4294967296:=hs1;(first|apply u2|apply u3|apply u4|apply us);exact QQd a.alts b.alts szA szA _;exact lfA
def Qc5 (v:Job):Bool:=(((((((v.nodes==0)&&(Qw2 v.start))&&(Qw2 v.limit))&&(decide (v.promise >= (-1))))&&(decide (v.promise<=1000000)))&&(decide (v.choice >= 0)))&&(decide (v.choice<=48)))
theorem QCg (v:Job):GV 195 [Job.a v] (Bo (Qc5 v)):=by
 generalize hR:Qc5 v=R;refine gA (kp 3 []) Tryz.func195 ?_;(first|apply u2|apply u3|apply u4|apply us);exact Q87 v.start _;(first|apply u2|apply u3|apply u4|apply us);exact Q87 v.limit _;exact lfA
def QZ3 (n:Int):Int:=bif (decide (n<=0)) then 0 else bif (decide (n >= 64)) then 18446744073709551615 else (wu64 ((Q02 n) - 1))
theorem nodeset_All_c (n:Int):GV 261 [I n] (U (QZ3 n)):=by
 generalize hR:QZ3 n=R;refine gA (kp 3 [3,6]) Tryz.func261 ?_;apply ai<;>intro h1
 ·have qh1:=yda h1;exact lfA
 ·have qh1:=yca h1;apply ai<;>intro h3
  ·have qh3:=yda h3;exact lfA
  ·have qh3:=yca h3;refine us (Qp7 n _) ?_;exact lfA
def QK8 (l:List Book):List Book->Nat->Int
 | [],_=>0
 | x_ :: r,i=>bif ((!(QT9 x_))||((decide ((i:Int) > 0))&&(decide ((l.getD ((w64 ((i:Int) - 1)).toNat) zI).id >= x_.id)))) then 190 else QK8 l r (i+1)
def Qh6 (l:List Book):Int:=bif (decide ((l.length:Int) > 8)) then 190 else QK8 l l 0
theorem book_Check_c (l:List Book) (hs0:l.length<=4294967296):GV 178 [bookL l] (I (Qh6 l)):=by
 generalize hR:Qh6 l=R;refine gA (kp 5 [7,8,9,10,11,32]) Tryz.func178 ?_;have hk0:=hs0;obtain z7:l.length<=4294967296:=hs0;apply ai<;>intro h1
 ·have qh1:=yda h1;exact lfA
 ·have qh1:=yca h1;refine Qg0 (fun (i:Nat)=>QK8 l (List.drop i l) i=R∧i<=l.length) (fun i=>l.length - i) (fun i=>[(0,bookL l),(2,I 0),(8,bookL l),(9,I (l.length:Int)),(10,I (i:Int))]) (fun i=>[]) 0 (wkA []) ⟨folA,by exact omA⟩ ?_;clear hR;rintro i ⟨hR,hj⟩;(try dsimp only at hR hj);apply ai<;>intro h3
  ·have hlt:=ltA h3;rw [Qa0 zI hlt] at hR;refine ai gkA ?_;refine dchk (by kernel_rfl) ?_;(first|apply u2|apply u3|apply u4|apply us);exact Qcg (l.getD i zI) _;refine ai gkA ?_;(repeat ((first|refine ai rfl ?_|refine ai (fun _=>rfl) ?_|refine ai (fun _=>Qcg (l.getD i zI) _) ?_)));apply ai<;>intro h5
   ·exact lfA
   ·exact Qn0 (i+1) (wkA []) omA ⟨folA,by exact omA⟩
  ·rw [Qd0 (l:=l) (j:=i) (geA h3)] at hR;exact lfA
def Q31 (x_:ByteArray) (y:ByteArray):Int:=bif (Q64 x_) then bif (Q64 y) then 0 else (-1) else bif (Q64 y) then 1 else bif (Op.bytesLess (ByteArray.toList x_) (ByteArray.toList y)) then (-1) else bif (!((Op.bytesLess (ByteArray.toList x_) (ByteArray.toList y))||(ByteArray.toList x_==ByteArray.toList y))) then 1 else 0
theorem QI4 (x_:ByteArray) (y:ByteArray):GV 233 [Sg x_,Sg y] (I (Q31 x_ y)):=by
 generalize hR:Q31 x_ y=R;refine gA (kp 7 [11,12,13,16,19]) Tryz.func233 ?_;refine us (Qu9 x_ _) ?_;refine us (Qu9 y _) ?_;apply ai<;>intro h1
 ·apply ai<;>intro h3
  ·exact lfA
  ·exact lfA
 ·apply ai<;>intro h5
  ·exact lfA
  ·apply ai<;>intro h7
   ·exact lfA
   ·apply ai<;>intro h9
    ·exact lfA
    ·exact lfA
def QM1 (s:Int):Nat->List Int->Nat->(List Int)
 | 0,_,_=>[]
 | m+1,out,i=>bif (decide ((i:Int)<64)) then bif ((wu64 (BitVec.ofInt 64 s &&& BitVec.ofInt 64 (Q02 (i:Int))).toNat)!=0) then QM1 s m (out++([(i:Int)]:List Int)) (i+1) else QM1 s m out (i+1) else out
def Qc3 (out:List Int):(List Int):=out
def Qo0 (s:Int):(List Int):=Qc3 (QM1 s (((64 - (0:Int)).toNat)+1) [] 0)
theorem Q8c (s:Int):GV 19 [U s] (ints (Qo0 s)):=by
 generalize hR:Qo0 s=R;refine gA (kp 5 [5,6,12]) Tryz.func19 ?_;refine Qb0 (fun (out:List Int) (i:Nat)=>∃ m,((64 - (i:Int)).toNat)<m∧Qc3 (QM1 s m out i)=R∧out.length<=i) (fun out i=>((64 - (i:Int)).toNat)) (fun out i=>[(0,U s),(2,AVal.lit (.slice none 0 0)),(3,AVal.own 0 0 1 0 out.length),(5,I (i:Int))]) (fun out i=>[(0,AObj.row 3 1 (out.map (fun q_=>[I q_])))]) [] 0 ((QC1 3 1).trans (wkA [0])) ⟨_,yCa _,foll hR rfl,by exact exA⟩ ?_;clear hR;rintro out i ⟨m,hm,hR,hx⟩;(try dsimp only at hR hm hx);obtain ⟨m,rfl⟩:=sucA m;apply ai<;>intro h1
 ·have qh1:=yda h1;refine us (Qp7 (i:Int) _) ?_;apply ai<;>intro h3
  ·refine Or.inl ?_;(first|refine ⟨Qn1 8 rfl lnA apA,?_⟩|refine ⟨QD0 8 rfl apA,?_⟩);exact Q60 (out++([(i:Int)]:List Int)) (i+1) (wkA [0]) omA ⟨m,by exact omA,foll hR (congrArg (fun p:(List Int)=>Qc3 p) (ct h1 (ct h3 rfl))),by exact exA⟩
  ·exact Q60 out (i+1) (wkA [0]) omA ⟨m,by exact omA,foll hR (congrArg (fun p:(List Int)=>Qc3 p) (ct h1 (cf h3 rfl))),by exact exA⟩
 ·have qh1:=yca h1;replace hR:Qc3 out=R:=fo2 (fun p:(List Int)=>Qc3 p) (out) hR (cf h1 rfl);obtain rfl:=foll hR rfl;exact Qc0 lw (Qe0 0 _ rfl eqA lnA)
theorem QS7 (s:Int):∀ (m:Nat) (out:List Int) (i:Nat),(∀ x ∈ out,0<=x∧x<64) -> ∀ x ∈ QM1 s m out i,0<=x∧x<64
 | 0,_,_,_,x,hx=>by simp [QM1] at hx
 | m+1,out,i,h,x,hx=>by
  rw [QM1] at hx;cases hd:decide ((i:Int)<64) with
  | false=>rw [hd] at hx;exact h x hx
  | true =>
   rw [hd] at hx;have hi:=yda hd;simp only [cond_true] at hx;cases hb:((wu64 (BitVec.ofInt 64 s &&& BitVec.ofInt 64 (Q02 (i:Int))).toNat)!=0) with
   | false=>rw [hb] at hx;exact QS7 s m out (i+1) h x hx
   | true =>
    rw [hb] at hx;refine QS7 s m _ (i+1) (fun y hy=>?_) x hx;rcases List.mem_append.1 hy with hy|hy
    ·exact h y hy
    ·rw [List.mem_singleton.1 hy];omega
theorem Qnf (s:Int):∀ x ∈ Qo0 s,0<=x∧x<64:=QS7 s _ _ _ (fun x hx=>nomatch hx)
theorem Qmf (s:Int) {i:Nat} (h:i<(Qo0 s).length):0<=(Qo0 s).getD i 0∧(Qo0 s).getD i 0<64:=by
 have e:(Qo0 s).getD i 0=(Qo0 s)[i]:=by simp [List.getD,yaa h]
 rw [e];exact Qnf s _ (yZa h)
theorem QR7 (s:Int):∀ (m:Nat) (out:List Int) (i:Nat),out.length<=i->i<=64->(QM1 s m out i).length<=64
 | 0,_,_,_,_=>by simp [QM1]
 | m+1,out,i,h,h64=>by
  rw [QM1];cases hd:decide ((i:Int)<64) with
  | false=>simp only [cond_false];omega
  | true =>
   have hi:=yda hd;simp only [cond_true];cases ((wu64 (BitVec.ofInt 64 s &&& BitVec.ofInt 64 (Q02 (i:Int))).toNat)!=0) with
   | false=>exact QR7 s m out (i+1) oA oA
   | true=>exact QR7 s m _ (i+1) (by simp;omega) oA
theorem QA8 (s:Int):(Qo0 s).length<=64:=QR7 s _ _ _ (by simp) oA
def Qg4 :List Int->Int->Nat->Int × Int
 | [],s,_=>(s,0)
 | x_ :: r,s,i=>bif (((decide (x_<0))||(decide (x_ >= 64)))||((wu64 (BitVec.ofInt 64 s &&& BitVec.ofInt 64 (Q02 x_)).toNat)!=0)) then (0,90) else Qg4 r (wu64 (BitVec.ofInt 64 s ||| BitVec.ofInt 64 (Q02 x_)).toNat) (i+1)
def QS0 (l:List Int):Int × Int:=Qg4 l 0 0
theorem Qr8 (l:List Int) (hs0:l.length<=4294967296):GV 60 [ints l] (AVal.tup [U ((QS0 l).1),I ((QS0 l).2)]):=by
 generalize hR:QS0 l=R;refine gA (kp 7 [7,8,9,10,25]) Tryz.func60 ?_;have hk0:=hs0;obtain z5:l.length<=4294967296:=hs0;refine Qb0 (fun (s:Int) (i:Nat)=>Qg4 (List.drop i l) s i=R∧i<=l.length) (fun s i=>l.length - i) (fun s i=>[(2,U 0),(3,I 0),(4,U s),(7,ints l),(8,I (l.length:Int)),(9,I (i:Int))]) (fun s i=>[]) 0 0 (wkA []) ⟨foll hR rfl,by exact omA⟩ ?_;clear hR;rintro s i ⟨hR,hj⟩;(try dsimp only at hR hj);apply ai<;>intro h1
 ·have hlt:=ltA h1;rw [Qa0 0 hlt] at hR;refine ai gkA ?_;(first|apply u2|apply u3|apply u4|apply us);exact Qp7 (l.getD i 0) _;apply ai<;>intro h3
  ·obtain rfl:=foll hR (ct h3 rfl);exact Qc0 (Low.tup' (l1 (l1 .nil))) (Seen.tup (e1 (e1 .nil)))
  ·refine us (Qp7 (l.getD i 0) _) ?_;exact Q60 (wu64 (BitVec.ofInt 64 s ||| BitVec.ofInt 64 (Q02 (l.getD i 0))).toNat) (i+1) (wkA []) omA ⟨foll hR (cf h3 rfl),by exact omA⟩
 ·rw [Qd0 (l:=l) (j:=i) (geA h1)] at hR;exact lfA
def QV0 (s:Int) (n:Int):Bool:=(((decide (n >= 0))&&(decide (n<64)))&&((wu64 (BitVec.ofInt 64 s &&& BitVec.ofInt 64 (Q02 n)).toNat)!=0))
theorem QR8 (s:Int) (n:Int):GV 58 [U s,I n] (Bo (QV0 s n)):=by
 generalize hR:QV0 s n=R;refine gA (kp 5 []) Tryz.func58 ?_;(first|apply u2|apply u3|apply u4|apply us);exact Qp7 n _;exact lfA
def state_Copy (s:State):State:=s
theorem state_Copy_c (s:State) (hs0:s.sz):GV 85 [State.a s] (State.a s):=by
 generalize hR:state_Copy s=R;refine gA (kp 4 [26,27,28]) Tryz.func85 ?_;have hk0:=hs0;obtain ⟨z8,z9,z10,z11,z12,z13,z14⟩:=hs0;refine dchk (by kernel_rfl) ?_;(first|apply u2|apply u3|apply u4|apply us);exact mv [] (Qs9 s.nodes szA) .nil (dl lw .nil) (rO rr .nil) (rw_ 2 0 rfl);(first|apply u2|apply u3|apply u4|apply us);exact mv [] (QD9 s.jobs szA) .nil (dl lw .nil) (rO rr .nil) (rw_ 3 0 rfl);(first|apply u2|apply u3|apply u4|apply us);exact mv [] (Qw8 s.resizes szA) .nil (dl lw .nil) (rO rr .nil) (rw_ 4 0 rfl);(first|apply u2|apply u3|apply u4|apply us);exact mv [] (Qr9 s.books szA) .nil (dl lw .nil) (rO rr .nil) (rw_ 5 0 rfl);(first|apply u2|apply u3|apply u4|apply us);exact mv [] (QI8 s.ledger szA) .nil (dl lw .nil) (rO rr .nil) (rw_ 6 0 rfl);(repeat ((first|refine ai rfl ?_|refine ai (fun _=>rfl) ?_)));refine Qg0 (fun (i:Nat)=>True∧i<=s.jobs.length) (fun i=>s.jobs.length - i) (fun i=>[(1,AVal.ptr 0 0 8 0 0),(2,AVal.ptr 1 0 8 0 0),(26,I (s.jobs.length:Int)),(27,I (i:Int))]) (fun i=>[(0,AObj.row 28 8 [[I s.now,AVal.own 2 0 7 0 s.nodes.length,AVal.own 3 0 20 0 s.jobs.length,AVal.own 4 0 5 0 s.resizes.length,AVal.own 5 0 4 0 s.books.length,AVal.own 6 0 4 0 s.ledger.length,I s.nextJob,I s.nextBook]]),(0,AObj.row 28 8 [[I 0,AVal.lit (.slice none 0 0),AVal.lit (.slice none 0 0),AVal.lit (.slice none 0 0),AVal.lit (.slice none 0 0),AVal.lit (.slice none 0 0),I 0,I 0]]),(0,AObj.row 55 7 (s.nodes.map Node.cells)),(0,AObj.row 72 20 (s.jobs.map Job.cells)),(0,AObj.row 49 5 (s.resizes.map Resize.cells)),(0,AObj.row 122 4 (s.books.map Book.cells)),(0,AObj.row 138 4 (s.ledger.map Usage.cells))]) 0 (wkA [0,1,2,3,4,5,6]) ⟨trivial,by exact omA⟩ ?_;have hR0:=hR;rintro i ⟨hR,hj⟩;(try dsimp only at hR hj);apply ai<;>intro h1
 ·have hlt:=ltA h1;have hxz:(s.jobs.getD i zG).sz:=Qp4 (by first|assumption|grind) (Job.szz _);have hkz:=hxz;obtain ⟨z3,z4,z5,z6,z7⟩:=Job.zz hxz;refine dchk (by kernel_rfl) ?_;refine ai gkA ?_;refine ⟨_,QL0 rfl rfl rfl (Qa1 zG i (by first|rfl|exact yma _|omega) ckA) rfl,?_⟩;(first|apply u2|apply u3|apply u4|apply us);exact QV5 ((s.jobs.getD i zG).shape.alts) szA _;refine ai gkA ?_;refine ⟨_,QL0 rfl rfl rfl (Qa1 zG i (by first|rfl|exact yma _|omega) ckA) rfl,?_⟩;(first|apply u2|apply u3|apply u4|apply us);exact QW5 ((s.jobs.getD i zG).after) szA _;refine ai gkA ?_;refine ⟨_,Qb3 rfl rfl rfl rfl (Qa1 zG i (by first|rfl|exact yma _|omega) ckA) rfl rfl (Qh7 zG i (by first|rfl|exact yma _|omega) ckA rfl),?_⟩;refine ai gkA ?_;refine ⟨_,Qb3 rfl rfl rfl rfl (Qa1 zG i (by first|rfl|exact yma _|omega) ckA) rfl rfl (Qh7 zG i (by first|rfl|exact yma _|omega) ckA rfl),?_⟩;(repeat ((first|refine ai rfl ?_|refine ai (fun _=>rfl) ?_|refine And.intro (QL0 rfl rfl rfl (Qa1 zG i (by first|rfl|exact yma _|omega) ckA) rfl) ?_|refine ai (fun _=>QV5 ((s.jobs.getD i zG).shape.alts) szA _) ?_|refine And.intro (QL0 rfl rfl rfl (Qa1 zG i (by first|rfl|exact yma _|omega) ckA) rfl) ?_|refine ai (fun _=>QW5 ((s.jobs.getD i zG).after) szA _) ?_)));exact Qn0 (i+1) (wkA [0,1,2,3,4,5,6]) omA ⟨hR,by exact omA⟩
 ·skip;have hR:=hR0;obtain rfl:=foll hR rfl;exact Qc0 (State.low _ _) (Seen.agg (e1 (ev (Qe0 zF _ rfl eqA lnA) (ev (Qe0 zG _ rfl eqA lnA) (ev (Qe0 zH _ rfl eqA lnA) (ev (Qe0 zI _ rfl eqA lnA) (ev (Qe0 zJ _ rfl eqA lnA) (e1 (e1 .nil)))))))))
theorem Qxb (s:State) (hs0:s.sz):AMoves Tryz.prog 85 [State.a s] [] 0 (AVal.agg [I s.now,nodeL s.nodes,jobL s.jobs,AVal.own 0 0 5 0 s.resizes.length,bookL s.books,QI2 s.ledger,I s.nextJob,I s.nextBook]) [(0,AObj.row 49 5 (s.resizes.map Resize.cells))]:=by
 generalize hR:state_Copy s=R;refine mo (kp 4 [26,27,28]) Tryz.func85 ?_;have hk0:=hs0;obtain ⟨z8,z9,z10,z11,z12,z13,z14⟩:=hs0;refine dchk (by kernel_rfl) ?_;(first|apply u2|apply u3|apply u4|apply us);exact mv [] (Qs9 s.nodes szA) .nil (dl lw .nil) (rO rr .nil) (rw_ 2 0 rfl);(first|apply u2|apply u3|apply u4|apply us);exact mv [] (QD9 s.jobs szA) .nil (dl lw .nil) (rO rr .nil) (rw_ 3 0 rfl);(first|apply u2|apply u3|apply u4|apply us);exact mv [] (Qw8 s.resizes szA) .nil (dl lw .nil) (rO rr .nil) (rw_ 4 0 rfl);(first|apply u2|apply u3|apply u4|apply us);exact mv [] (Qr9 s.books szA) .nil (dl lw .nil) (rO rr .nil) (rw_ 5 0 rfl);(first|apply u2|apply u3|apply u4|apply us);exact mv [] (QI8 s.ledger szA) .nil (dl lw .nil) (rO rr .nil) (rw_ 6 0 rfl);(repeat ((first|refine ai rfl ?_|refine ai (fun _=>rfl) ?_)));refine Qg0 (fun (i:Nat)=>True∧i<=s.jobs.length) (fun i=>s.jobs.length - i) (fun i=>[(1,AVal.ptr 0 0 8 0 0),(2,AVal.ptr 1 0 8 0 0),(26,I (s.jobs.length:Int)),(27,I (i:Int))]) (fun i=>[(0,AObj.row 28 8 [[I s.now,AVal.own 2 0 7 0 s.nodes.length,AVal.own 3 0 20 0 s.jobs.length,AVal.own 4 0 5 0 s.resizes.length,AVal.own 5 0 4 0 s.books.length,AVal.own 6 0 4 0 s.ledger.length,I s.nextJob,I s.nextBook]]),(0,AObj.row 28 8 [[I 0,AVal.lit (.slice none 0 0),AVal.lit (.slice none 0 0),AVal.lit (.slice none 0 0),AVal.lit (.slice none 0 0),AVal.lit (.slice none 0 0),I 0,I 0]]),(0,AObj.row 55 7 (s.nodes.map Node.cells)),(0,AObj.row 72 20 (s.jobs.map Job.cells)),(0,AObj.row 49 5 (s.resizes.map Resize.cells)),(0,AObj.row 122 4 (s.books.map Book.cells)),(0,AObj.row 138 4 (s.ledger.map Usage.cells))]) 0 (wkA [0,1,2,3,4,5,6]) ⟨trivial,by exact omA⟩ ?_;have hR0:=hR;rintro i ⟨hR,hj⟩;(try dsimp only at hR hj);apply ai<;>intro h1
 ·have hlt:=ltA h1;have hxz:(s.jobs.getD i zG).sz:=Qp4 (by first|assumption|grind) (Job.szz _);have hkz:=hxz;obtain ⟨z3,z4,z5,z6,z7⟩:=Job.zz hxz;refine dchk (by kernel_rfl) ?_;refine ai gkA ?_;refine ⟨_,QL0 rfl rfl rfl (Qa1 zG i (by first|rfl|exact yma _|omega) ckA) rfl,?_⟩;(first|apply u2|apply u3|apply u4|apply us);exact QV5 ((s.jobs.getD i zG).shape.alts) szA _;refine ai gkA ?_;refine ⟨_,QL0 rfl rfl rfl (Qa1 zG i (by first|rfl|exact yma _|omega) ckA) rfl,?_⟩;(first|apply u2|apply u3|apply u4|apply us);exact QW5 ((s.jobs.getD i zG).after) szA _;refine ai gkA ?_;refine ⟨_,Qb3 rfl rfl rfl rfl (Qa1 zG i (by first|rfl|exact yma _|omega) ckA) rfl rfl (Qh7 zG i (by first|rfl|exact yma _|omega) ckA rfl),?_⟩;refine ai gkA ?_;refine ⟨_,Qb3 rfl rfl rfl rfl (Qa1 zG i (by first|rfl|exact yma _|omega) ckA) rfl rfl (Qh7 zG i (by first|rfl|exact yma _|omega) ckA rfl),?_⟩;(repeat ((first|refine ai rfl ?_|refine ai (fun _=>rfl) ?_|refine And.intro (QL0 rfl rfl rfl (Qa1 zG i (by first|rfl|exact yma _|omega) ckA) rfl) ?_|refine ai (fun _=>QV5 ((s.jobs.getD i zG).shape.alts) szA _) ?_|refine And.intro (QL0 rfl rfl rfl (Qa1 zG i (by first|rfl|exact yma _|omega) ckA) rfl) ?_|refine ai (fun _=>QW5 ((s.jobs.getD i zG).after) szA _) ?_)));exact Qn0 (i+1) (wkA [0,1,2,3,4,5,6]) omA ⟨hR,by exact omA⟩
 ·skip;have hR:=hR0;obtain rfl:=foll hR rfl;exact rq (tt [4] (tO rfl (tl eqA) .nil) (turn_agg (c1 (cv (Qi7 _ _ rfl (yva _) (by decide) eqA (fun _=>Node.lowc _ _) lnA) (cv (Qi7 _ _ rfl (yva _) (by decide) eqA (fun _=>Job.lowc _ _) lnA) (cv (to 0 lnA) (cv (Qi7 _ _ rfl (yva _) (by decide) eqA (fun _=>Book.lowc _ _) lnA) (cv (Qi7 _ _ rfl (yva _) (by decide) eqA (fun _=>Usage.lowc _ _) lnA) (c1 (c1 .nil))))))))))
def Qk0 (l:List Job) (id_:Int):Int × Bool:=((QP0 l id_ (fun (y:Job) (y1:Int)=>(w64 (y.id - y1)))).1,(QP0 l id_ (fun (y:Job) (y1:Int)=>(w64 (y.id - y1)))).2)
theorem b1a0 {P:Prop} (h:P:=by first|(dsimp only;rw [hh3];omega)|first|(dsimp only;rw [hh];omega)|exact exA):P:=h
theorem QXd (l:List Job) (id_:Int) (hs0:l.length<=4294967296∧(∀ y ∈ l,y.sz)):GV 127 [jobL l,I id_] (AVal.tup [I ((Qk0 l id_).1),Bo ((Qk0 l id_).2)]):=by
 generalize hR:Qk0 l id_=R;refine gA (kp 6 []) Tryz.func127 ?_;obtain ⟨z10,z11⟩:=id hs0;have cl1:∀ (y1:Job) (y2:Int) (hzy1:y1.sz),AMoves Tryz.prog 186 [Job.a y1,I y2] [] 0 (I ((fun (y:Job) (y1:Int)=>(w64 (y.id - y1))) y1 y2)) []:=by
  intro y1 y2 hzy1;have hky1:=hzy1;obtain ⟨z1,z2,z3,z4,z5⟩:=Job.zz hzy1;have hR:(fun (y:Job) (y1:Int)=>(w64 (y.id - y1))) y1 y2=(fun (y:Job) (y1:Int)=>(w64 (y.id - y1))) y1 y2:=rfl;refine mo (kp 5 []) Tryz.func186 ?_;refine Qu0 (fun r:Int=>I r) (fun _=>[]) (leaf:=(w64 (y1.id - y2))) (foll hR rfl) ?_;exact tt [] .nil t1
 have hof1:AMoves Tryz.prog 185 [jobL l,I id_,AVal.fn (.func 186) [] []] [] 0 (AVal.tup [I ((QP0 l id_ (fun (y:Job) (y1:Int)=>(w64 (y.id - y1)))).1),Bo ((QP0 l id_ (fun (y:Job) (y1:Int)=>(w64 (y.id - y1)))).2)]) []:=by
  have hR:QP0 l id_ (fun (y:Job) (y1:Int)=>(w64 (y.id - y1)))=QP0 l id_ (fun (y:Job) (y1:Int)=>(w64 (y.id - y1))):=rfl;refine mo (kp 12 [17,31]) Tryz.func185 ?_;refine Qb0 (fun (i:Int) (j:Int)=>∃ m,((j - i).toNat)<m∧Q11 l id_ (fun (y:Job) (y1:Int)=>(w64 (y.id - y1))) (Qs0 l id_ (fun (y:Job) (y1:Int)=>(w64 (y.id - y1))) m i j).1 (Qs0 l id_ (fun (y:Job) (y1:Int)=>(w64 (y.id - y1))) m i j).2=QP0 l id_ (fun (y:Job) (y1:Int)=>(w64 (y.id - y1)))∧0<=i∧i<=j∧j<=(l.length:Int)) (fun i j=>((j - i).toNat)) (fun i j=>[(0,jobL l),(1,I id_),(2,AVal.fn (.func 186) [] []),(6,I 0),(7,Bo false),(8,I (l.length:Int)),(9,I i),(10,I j)]) (fun i j=>[]) 0 (l.length:Int) (wkA []) ⟨_,yCa _,foll hR rfl,b1a0⟩ ?_;clear hR;rintro i j ⟨m,hm,hR,hx⟩;(try dsimp only at hR hm hx);obtain ⟨m,rfl⟩:=sucA m;refine ai (fun h6=>?_) (fun h7=>?_)
  ·have qh6:=yda h6;(have hq0:i<j:=qh6;have hh:w64 (Int.fdiv (wu64 (w64 (i+j))) (2 ^ (min (Int.toNat 1) 64)))=(i+j) / 2:=Q9b hx.1 hq0 hx.2.2 oA;have hh3:w64 (w64 (Int.fdiv (wu64 (w64 (i+j))) (2 ^ (min (Int.toNat 1) 64)))+1)=(i+j) / 2+1:=by rw [hh];exact wr oA);refine And.intro (by first|exact fun hg=>yga (by first|(show 0<=w64 (Int.fdiv (wu64 (w64 (i+j))) (2 ^ (min (Int.toNat 1) 64)))∧w64 (Int.fdiv (wu64 (w64 (i+j))) (2 ^ (min (Int.toNat 1) 64)))<(l.length:Int);rw [hh];omega)|exact ckA)|exact gkA) ?_;refine And.intro (by first|exact fun hg=>yga (by first|(show 0<=w64 (Int.fdiv (wu64 (w64 (i+j))) (2 ^ (min (Int.toNat 1) 64)))∧w64 (Int.fdiv (wu64 (w64 (i+j))) (2 ^ (min (Int.toNat 1) 64)))<(l.length:Int);rw [hh];omega)|exact ckA)|exact gkA) ?_;refine us (mv [] (cl1 (l.getD ((w64 (Int.fdiv (wu64 (w64 (i+j))) (2 ^ (min (Int.toNat 1) 64)))).toNat) zG) id_ szA) .nil (dl (Job.low _ _) (d1 .nil)) .nil rx) ?_;apply ai<;>intro h8
   ·have qh8:=yda h8;exact Q60 (w64 ((w64 (Int.fdiv (wu64 (w64 (i+j))) (2 ^ (min (Int.toNat 1) 64))))+1)) j (wkA []) (by first|(dsimp only;rw [hh3];omega)|first|(dsimp only;rw [hh];omega)|exact omA) ⟨m,by first|(dsimp only;rw [hh3];omega)|first|(dsimp only;rw [hh];omega)|exact omA,foll hR (congrArg (fun p:Int × Int=>Q11 l id_ (fun (y:Job) (y1:Int)=>(w64 (y.id - y1))) p.1 p.2) (ct h6 (ct h8 rfl))),b1a0⟩
   ·have qh8:=yca h8;exact Q60 i (w64 (Int.fdiv (wu64 (w64 (i+j))) (2 ^ (min (Int.toNat 1) 64)))) (wkA []) (by first|(dsimp only;rw [hh3];omega)|first|(dsimp only;rw [hh];omega)|exact omA) ⟨m,by first|(dsimp only;rw [hh3];omega)|first|(dsimp only;rw [hh];omega)|exact omA,foll hR (congrArg (fun p:Int × Int=>Q11 l id_ (fun (y:Job) (y1:Int)=>(w64 (y.id - y1))) p.1 p.2) (ct h6 (cf h8 rfl))),b1a0⟩
  ·have qh7:=yca h7;replace hR:Q11 l id_ (fun (y:Job) (y1:Int)=>(w64 (y.id - y1))) i j=QP0 l id_ (fun (y:Job) (y1:Int)=>(w64 (y.id - y1))):=fo2 (fun p:Int × Int=>Q11 l id_ (fun (y:Job) (y1:Int)=>(w64 (y.id - y1))) p.1 p.2) (i,j) hR (cf h7 rfl);refine And.intro (by first|exact fun hg=>yga (by first|(show 0<=w64 (Int.fdiv (wu64 (w64 (i+j))) (2 ^ (min (Int.toNat 1) 64)))∧w64 (Int.fdiv (wu64 (w64 (i+j))) (2 ^ (min (Int.toNat 1) 64)))<(l.length:Int);rw [hh];omega)|exact ckA)|exact gkA) ?_;(first|apply u2|apply u3|apply u4|apply us);exact mv [] (cl1 (l.getD (i.toNat) zG) id_ szA) .nil (dl (Job.low _ _) (d1 .nil)) .nil rx;refine Qu0 (fun r:Int × Bool=>AVal.tup [I r.1,Bo r.2]) (fun r:Int × Bool=>[]) (leaf:=(i,((decide (i<(l.length:Int)))&&(((fun (y:Job) (y1:Int)=>(w64 (y.id - y1))) (l.getD (i.toNat) zG) id_)==0)))) (foll hR rfl) ?_;exact tt [] .nil (turn_tup (c1 (c1 .nil)))
 refine us (mv [] (hof1) .nil (dl lw (d1 (dv (QI7 (Low.fn _ _ _ LowL.nil LowL.nil)) .nil))) .nil (Ren.low _ (Low.tup' (l1 (l1 .nil))))) ?_;exact lfA
theorem bs_ge (x_:List Job) (target:Int) (cmp:Job->Int->Int) (hn:x_.length<=4294967296):∀ (m:Nat) (i j:Int),0<=i->i<=j->j<=(x_.length:Int)->0<=(Qs0 x_ target cmp m i j).1
 | 0,_,_,_,_,_=>by simp [Qs0]
 | m+1,i,j,h0,h1,h2=>by
  rw [Qs0];cases hd:decide (i<j) with
  | false=>exact h0
  | true =>
   have hlt:=yda hd;rw [Q9b h0 hlt h2 oA];simp only [cond_true];cases decide (cmp (x_.getD (((i+j) / 2).toNat) zG) target<0) with
   | true =>
    have hw:w64 ((i+j) / 2+1)=(i+j) / 2+1:=wr oA;simp only [cond_true];rw [hw];exact bs_ge x_ target cmp hn m _ _ oA oA h2
   | false=>exact bs_ge x_ target cmp hn m _ _ h0 oA oA
theorem QH4 (l:List Job) (id_:Int) (hn:l.length<=4294967296) (h:(!(Qk0 l id_).2)=false):0<=(Qk0 l id_).1∧(Qk0 l id_).1<(l.length:Int):=by
 simp only [Qk0,QP0,Q11,yyb,yea,yfa] at h;exact ⟨bs_ge _ _ _ hn _ _ _ oA oA oA,h.1⟩
end Go.Proofs.YtackngeeehiegaaGreatDoor
