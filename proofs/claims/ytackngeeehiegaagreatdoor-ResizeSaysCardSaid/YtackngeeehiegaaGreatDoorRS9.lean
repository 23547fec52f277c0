/-
  What the last text of this claim leans on: an evaluator over the code, contracts of functions, plain laws. Conditions stand in each statement.
-/
import Derived.Test.YtackngeeehiegaaGreatDoorRS7
import Derived.Test.YtackngeeehiegaaGreatDoorProg
import Derived.Test.YtackngeeehiegaaGreatDoorRS8
namespace Go.Proofs.YtackngeeehiegaaGreatDoor
set_option linter.unusedSimpArgs false
set_option linter.unusedVariables false
open Go.Fw
set_option maxRecDepth 20000
set_option maxHeartbeats 4000000
attribute [local irreducible] ACalls AMoves
def Qf4 (x_:Node):Bool:=bif ((((((decide (x_.epoch<0))||(decide (x_.epoch > 999999999)))||(decide (x_.since<0)))||(decide (x_.since > 1000000)))||(decide (x_.asked<0)))||(decide (x_.asked > 1000000))) then false else bif ((x_.state==0)||(x_.state==4)) then ((x_.job==0)&&((x_.want==0)||((x_.state==4)&&(x_.want==6)))) else bif ((decide (x_.job<1))||(decide (x_.job > 99999))) then false else bif (x_.state==1) then ((((x_.want==0)||(x_.want==1))||(x_.want==3))||(x_.want==4)) else bif (x_.state==2) then ((x_.want==0)||(x_.want==2)) else bif (x_.state==3) then (x_.want==5) else false
theorem ref12_fine_c (x_:Node):GV 164 [Node.a x_] (Bo (Qf4 x_)):=by
 generalize hR:Qf4 x_=R;refine gA (kp 3 [30,38,64,66,67,87,97]) Tryz.func164 ?_;refine ai (fun h1=>?_) (fun h2=>?_)
 ·exact lfA
 ·refine ai (fun h3=>?_) (fun h4=>?_)
  ·exact lfA
  ·refine ai (fun h5=>?_) (fun h6=>?_)
   ·exact lfA
   ·refine ai (fun h7=>?_) (fun h8=>?_)
    ·exact lfA
    ·refine ai (fun h9=>?_) (fun h10=>?_)
     ·exact lfA
     ·refine ai (fun h11=>?_) (fun h12=>?_)
      ·exact lfA
      ·exact lfA
def QD1 (n:Int):Bool:=((decide (n >= 0))&&(decide (n<=1000000)))
theorem Qm4 (n:Int):GV 166 [I n] (Bo (QD1 n)):=by
 generalize hR:QD1 n=R;refine gA (kp 3 []) Tryz.func166 ?_;exact lfA
def QC1 (n:Int):Bool:=((decide (n >= 1))&&(decide (n<=48)))
theorem Qra (n:Int):GV 290 [I n] (Bo (QC1 n)):=by
 generalize hR:QC1 n=R;refine gA (kp 3 []) Tryz.func290 ?_;exact lfA
def Qz2 (n:Int):Bool:=((decide (n >= 1))&&(decide (n<=100000)))
theorem QLd (n:Int):GV 291 [I n] (Bo (Qz2 n)):=by
 generalize hR:Qz2 n=R;refine gA (kp 3 []) Tryz.func291 ?_;exact lfA
def Qe4 (b:List Alt):List Alt->Nat->Bool
 | [],_=>true
 | x_ :: r,i=>bif ((x_.nodes != (b.getD i Alt.zero).nodes)||(x_.wall != (b.getD i Alt.zero).wall)) then false else Qe4 b r (i+1)
def Qg7 (a:List Alt) (b:List Alt):Bool:=bif ((a.length:Int)!=(b.length:Int)) then false else Qe4 b a 0
theorem Qfe (a:List Alt) (b:List Alt) (hs0:a.length<=4294967296) (hs1:b.length<=4294967296):GV 223 [altL a,altL b] (Bo (Qg7 a b)):=by
 generalize hR:Qg7 a b=R;refine gA (kp 6 [10,14,40]) Tryz.func223 ?_;have hk0:=hs0;obtain z7:a.length<=4294967296:=hs0;have hk1:=hs1;obtain z8:b.length<=4294967296:=hs1;refine ai (fun h1=>?_) (fun h2=>?_)
 ·exact lfA
 ·refine Qg0 (fun (i:Nat)=>Qe4 b (List.drop i a) i=R∧i<=a.length) (fun i=>a.length - i) (fun i=>[(0,altL a),(1,altL b),(4,Bo false),(5,I (i:Int))]) (fun i=>[]) 0 (wkA []) ⟨folA,by exact omA⟩ ?_;clear hR;rintro i ⟨hR,hj⟩;(try dsimp only at hR hj);refine ai (fun h3=>?_) (fun h4=>?_)
  ·have hlt:=ltA h3;rw [Qc0 Alt.zero hlt] at hR;refine dchk (by kernel_rfl) ?_;refine ai gkA ?_;refine ai gkA ?_;refine ai gkA ?_;refine ai gkA ?_;(repeat ((first|refine ai rfl ?_|refine ai (fun _=>rfl) ?_)));refine ai (fun h5=>?_) (fun h6=>?_)
   ·exact lfA
   ·exact Ql0 (i+1) (wkA []) omA ⟨folA,by exact omA⟩
  ·rw [Qd0 (l:=a) (j:=i) (geA h4)] at hR;exact lfA
def Qi0 (r_:Int):Int:=bif ((r_==9)||(r_==32)) then 1 else bif (((decide (r_<32))||(r_==65533))||(decide (r_ > 1114111))) then 0 else bif (((decide (r_ > 126))&&(decide (r_<161)))||((decide (r_ > 55295))&&(decide (r_<57344)))) then 0 else bif ((decide (r_ > 47))&&(decide (r_<58))) then 3 else bif (((decide (r_ > 160))||((decide (r_ > 64))&&(decide (r_<91))))||((decide (r_ > 96))&&(decide (r_<123)))) then 2 else 4
theorem Qq4 (r_:Int):GV 303 [J r_] (I (Qi0 r_)):=by
 generalize hR:Qi0 r_=R;refine gA (kp 3 [8,18,32,38,56]) Tryz.func303 ?_;refine ai (fun h1=>?_) (fun h2=>?_)
 ·exact lfA
 ·refine ai (fun h3=>?_) (fun h4=>?_)
  ·exact lfA
  ·refine ai (fun h5=>?_) (fun h6=>?_)
   ·exact lfA
   ·refine ai (fun h7=>?_) (fun h8=>?_)
    ·exact lfA
    ·refine ai (fun h9=>?_) (fun h10=>?_)
     ·exact lfA
     ·exact lfA
def Qc3 :List (Nat × Int)->List Int->(List Int)
 | [],out=>out
 | x_ :: r,out=>Qc3 r (out++([x_.2]:List Int))
def QO3 (out:List Int):(List Int):=out
def QL0 (s:ByteArray):(List Int):=QO3 (Qc3 (Qm7 s) [])
theorem ref05_Runes_c (s:ByteArray) (hs0:s.size<=4294967296):GV 311 [Sg s] (runes (QL0 s)):=by
 generalize hR:QL0 s=R;refine gA (kp 6 [7,8,9]) Tryz.func311 ?_;have hk0:=hs0;obtain z3:s.size<=4294967296:=hs0;refine Qe0 (fun (out:List Int) (pos:Nat)=>∃ m,ByteArray.size s - pos<=m∧QO3 (Qc3 (Q34 s m pos) out)=R∧out.length<=pos) (fun out pos=>ByteArray.size s - pos) (fun out pos=>[(2,AVal.lit (.slice none 0 0)),(3,AVal.own 1 0 1 0 out.length),(7,AVal.ptr 0 0 1 0 0)]) (fun out pos=>[(0,AObj.other (.strIter s pos)),(0,AObj.row 21 1 (out.map (fun q_=>[J q_])))]) [] 0 ((Qx1 21 1).trans (wkA [0,1])) ⟨ByteArray.size s,by exact omA,foll hR rfl,by exact exA⟩ ?_;clear hR;rintro out pos ⟨m,hm,hR,hx⟩;(try dsimp only at hR hm hx);refine ai (fun h1=>?_) (fun h2=>?_)
 ·have hlt:=of_decide_eq_true h1;have hw:=Q28 s pos;have hwe:=Q18 s pos hlt;obtain ⟨m,rfl⟩:=sucA m;rw [Q53 h1] at hR;refine ai (fun _=>?_) (fun h=>nomatch h);refine Or.inl ?_;(first|refine ⟨Qo1 4 rfl lnA apA,?_⟩|refine ⟨QI0 4 rfl apA,?_⟩);exact Q60 (out++([(pos,((Utf8.decode s pos).1:Int)).2]:List Int)) (pos+(Utf8.decode s pos).2) (wkA [0,1]) omA ⟨m,by exact omA,foll hR (congrArg (fun p:(List Int)=>QO3 p) rfl),by exact exA⟩
 ·rw [Qn5 h2] at hR;refine ai (fun h=>nomatch h) (fun _=>?_);replace hR:QO3 out=R:=fo2 (fun p:(List Int)=>QO3 p) (out) hR rfl;obtain rfl:=foll hR rfl;exact Q80 lw (Q90 0 _ rfl eqA lnA)
theorem QF8:∀ (l:List (Nat × Int)) (out:List Int),(Qc3 l out).length=out.length+l.length
 | [],out=>rfl
 | x :: r,out=>by
  rw [Qc3,QF8 r]
  simp
  omega
theorem Q2e (s:ByteArray):∀ m pos,(Q34 s m pos).length<=m
 | 0,_=>by simp [Q34]
 | m+1,pos=>by
  cases h:decide (pos<s.size) with
  | false=>rw [Qn5 h];simp
  | true=>rw [Q53 h];have:=Q2e s m (pos+(Utf8.decode s pos).2);simp;omega
theorem Qpa (s:ByteArray):(QL0 s).length<=s.size:=by
 unfold QL0 QO3
 rw [QF8]
 have:=Q2e s s.size 0
 simp only [Qm7,List.length_nil]
 omega
def QF9 (r_:Int):Bool:=(((decide (r_ >= 48))&&(decide (r_<=57)))||((decide (r_ >= 97))&&(decide (r_<=122))))
theorem ref05_small_c (r_:Int):GV 341 [J r_] (Bo (QF9 r_)):=by
 generalize hR:QF9 r_=R;refine gA (kp 3 []) Tryz.func341 ?_;exact lfA
def Qb3 (s:ByteArray):Nat->List Int->Nat->(List Int) × Nat
 | 0,_,_=>([],0)
 | m+1,out,i=>bif (decide ((i:Int)<(ByteArray.size s:Int))) then bif ((decide (((s.data.toList.getD i 0).toNat:Int) > 64))&&(decide (((s.data.toList.getD i 0).toNat:Int)<91))) then Qb3 s m (out++([(wu8 (((s.data.toList.getD i 0).toNat:Int)+32))]:List Int)) (i+1) else Qb3 s m (out++([((s.data.toList.getD i 0).toNat:Int)]:List Int)) (i+1) else (out,i)
def QN3 (out:List Int) (i:Nat):ByteArray:=(Qv2 out)
def Qy2 (s:ByteArray):ByteArray:=QN3 ((Qb3 s ((Int.toNat ((ByteArray.size s:Int) - (0:Int)))+1) [] 0).1) ((Qb3 s ((Int.toNat ((ByteArray.size s:Int) - (0:Int)))+1) [] 0).2)
theorem ref04_Lower_c (s:ByteArray) (hs0:s.size<=4294967296):GV 326 [Sg s] (Sg (Qy2 s)):=by
 generalize hR:Qy2 s=R;refine gA (kp 5 [8,20]) Tryz.func326 ?_;have hk0:=hs0;obtain z5:s.size<=4294967296:=hs0;refine Qe0 (fun (out:List Int) (i:Nat)=>∃ m,(Int.toNat ((ByteArray.size s:Int) - (i:Int)))<m∧QN3 (Qb3 s m out i).1 (Qb3 s m out i).2=R∧out.length<=i∧(i:Int)<=(ByteArray.size s:Int)) (fun out i=>(Int.toNat ((ByteArray.size s:Int) - (i:Int)))) (fun out i=>[(0,Sg s),(2,Sg ⟨#[]⟩),(3,AVal.own 0 0 1 0 out.length),(4,I (i:Int))]) (fun out i=>[(0,AObj.row 5 1 (out.map (fun q_=>[Y q_])))]) [] 0 ((Qx1 5 1).trans (wkA [0])) ⟨_,Nat.lt_succ_self _,foll hR rfl,by exact exA⟩ ?_;clear hR;rintro out i ⟨m,hm,hR,hx⟩;(try dsimp only at hR hm hx);obtain ⟨m,rfl⟩:=sucA m;refine ai (fun h1=>?_) (fun h2=>?_)
 ·have qh1:=of_decide_eq_true h1;refine ai gkA ?_;refine ai gkA ?_;refine ai (fun h3=>?_) (fun h4=>?_)
  ·refine ai gkA ?_;refine Or.inl ?_;(first|refine ⟨Qo1 1 rfl lnA apA,?_⟩|refine ⟨QI0 1 rfl apA,?_⟩);exact Q60 (out++([(wu8 (((s.data.toList.getD i 0).toNat:Int)+32))]:List Int)) (i+1) (wkA [0]) omA ⟨m,by exact omA,foll hR (congrArg (fun p:(List Int) × Nat=>QN3 p.1 p.2) (ct h1 (ct h3 rfl))),by exact exA⟩
  ·refine ai gkA ?_;refine Or.inl ?_;(first|refine ⟨Qo1 1 rfl lnA apA,?_⟩|refine ⟨QI0 1 rfl apA,?_⟩);exact Q60 (out++([((s.data.toList.getD i 0).toNat:Int)]:List Int)) (i+1) (wkA [0]) omA ⟨m,by exact omA,foll hR (congrArg (fun p:(List Int) × Nat=>QN3 p.1 p.2) (ct h1 (cf h4 rfl))),by exact exA⟩
 ·have qh2:=of_decide_eq_false h2;replace hR:QN3 out i=R:=fo2 (fun p:(List Int) × Nat=>QN3 p.1 p.2) (out,i) hR (cf h2 rfl);(first|refine ⟨out,by exact cvA,?_⟩|refine ⟨_,fun _=>⟨out,by exact cvA,rfl,rfl⟩,?_⟩|refine ⟨_,rfl,⟨out,by exact cvA,Sub.refl _,rfl⟩,?_⟩);exact lfA
def QP8 :List Int->Nat->Bool
 | [],_=>false
 | x_ :: r,i=>bif (decide (x_ >= 97)) then true else QP8 r (i+1)
def Qzb (l:List Int):Bool:=QP8 l 0
theorem ref05_plain_c (l:List Int) (hs0:l.length<=4294967296):GV 327 [runes l] (Bo (Qzb l)):=by
 generalize hR:Qzb l=R;refine gA (kp 4 [7,14]) Tryz.func327 ?_;have hk0:=hs0;obtain z5:l.length<=4294967296:=hs0;refine Qg0 (fun (i:Nat)=>QP8 (List.drop i l) i=R∧i<=l.length) (fun i=>l.length - i) (fun i=>[(0,runes l),(2,Bo false),(3,I (i:Int))]) (fun i=>[]) 0 (wkA []) ⟨foll hR rfl,by exact omA⟩ ?_;clear hR;rintro i ⟨hR,hj⟩;(try dsimp only at hR hj);refine ai (fun h1=>?_) (fun h2=>?_)
 ·have hlt:=ltA h1;rw [Qc0 0 hlt] at hR;refine ai gkA ?_;refine ai (fun h3=>?_) (fun h4=>?_)
  ·have qh3:=of_decide_eq_true h3;exact lfA
  ·have qh4:=of_decide_eq_false h4;exact Ql0 (i+1) (wkA []) omA ⟨folA,by exact omA⟩
 ·rw [Qd0 (l:=l) (j:=i) (geA h2)] at hR;exact lfA
def Qm8 :List Int->Int->Nat->Int
 | [],n,_=>n
 | x_ :: r,n,i=>bif ((decide (x_<48))||(decide (x_ > 57))) then (-1) else Qm8 r (w64 ((w64 (10*n))+(w64 (w32 (x_ - 48))))) (i+1)
def QE8 (l:List Int):Int:=bif ((((l.length:Int)==0)||(decide ((l.length:Int) > 9)))||((decide ((l.length:Int) > 1))&&((l.getD 0 0)==48))) then (-1) else Qm8 l 0 0
theorem ref05_Number_c (l:List Int) (hs0:l.length<=4294967296):GV 328 [runes l] (I (QE8 l)):=by
 generalize hR:QE8 l=R;refine gA (kp 5 [23,27,41]) Tryz.func328 ?_;have hk0:=hs0;obtain z7:l.length<=4294967296:=hs0;refine ai gkA ?_;refine ai (fun h1=>?_) (fun h2=>?_)
 ·obtain rfl:=foll hR (ct h1 rfl);exact Q80 lx sr
 ·refine Qe0 (fun (n:Int) (i:Nat)=>Qm8 (List.drop i l) n i=R∧i<=l.length) (fun n i=>l.length - i) (fun n i=>[(0,runes l),(2,I 0),(3,I n),(4,I (i:Int))]) (fun n i=>[]) 0 0 (wkA []) ⟨foll hR (cf h2 rfl),by exact omA⟩ ?_;clear hR;rintro n i ⟨hR,hj⟩;(try dsimp only at hR hj);refine ai (fun h3=>?_) (fun h4=>?_)
  ·have hlt:=ltA h3;rw [Qc0 0 hlt] at hR;refine ai gkA ?_;refine ai gkA ?_;refine ai (fun h5=>?_) (fun h6=>?_)
   ·exact lfA
   ·refine ai gkA ?_;exact Q60 (w64 ((w64 (10*n))+(w64 (w32 ((l.getD i 0) - 48))))) (i+1) (wkA []) omA ⟨folA,by exact omA⟩
  ·rw [Qd0 (l:=l) (j:=i) (geA h4)] at hR;exact lfA
def Qf1 (n:Int) (from_:Int) (to_:Int):Bool:=((decide (n >= from_))&&(decide (n<=to_)))
theorem QB3 (n:Int) (from_:Int) (to_:Int):GV 284 [I n,I from_,I to_] (Bo (Qf1 n from_ to_)):=by
 generalize hR:Qf1 n from_ to_=R;refine gA (kp 7 []) Tryz.func284 ?_;exact lfA
def QZ0 :Nat->Int->List Int->Nat->Int × (List Int) × Nat
 | 0,_,_,_=>(0,[],0)
 | m+1,s2,out,n=>bif (decide (s2 > 0)) then bif ((Int.tmod s2 2)==1) then QZ0 m (wu64 (Int.tdiv s2 2)) (out++([(n:Int)]:List Int)) (n+1) else QZ0 m (wu64 (Int.tdiv s2 2)) out (n+1) else (s2,out,n)
def Q03 (s2:Int) (out:List Int) (n:Nat):(List Int):=out
def Qb0 (s:Int):(List Int):=Q03 ((QZ0 ((Int.toNat s)+1) s [] 0).1) ((QZ0 ((Int.toNat s)+1) s [] 0).2.1) ((QZ0 ((Int.toNat s)+1) s [] 0).2.2)
theorem QG8 (s:Int):GV 44 [U s] (ints (Qb0 s)):=by
 generalize hR:Qb0 s=R;refine gA (kp 5 [6,11]) Tryz.func44 ?_;refine Qj8 (fun (s2:Int) (out:List Int) (n:Nat)=>∃ m,(Int.toNat s2)<m∧Q03 (QZ0 m s2 out n).1 (QZ0 m s2 out n).2.1 (QZ0 m s2 out n).2.2=R∧(n:Int)<=65∧((n:Int)=0∨(0<=s2∧s2<2 ^ (65 - (Int.toNat (n:Int)))))∧out.length<=n) (fun s2 out n=>(Int.toNat s2)) (fun s2 out n=>[(0,U s2),(2,AVal.lit (.slice none 0 0)),(3,AVal.own 0 0 1 0 out.length),(4,I (n:Int))]) (fun s2 out n=>[(0,AObj.row 3 1 (out.map (fun q_=>[I q_])))]) s [] 0 ((Qx1 3 1).trans (wkA [0])) ⟨_,Nat.lt_succ_self _,foll hR rfl,by exact exA⟩ ?_;clear hR;rintro s2 out n ⟨m,hm,hR,hx⟩;(try dsimp only at hR hm hx);obtain ⟨m,rfl⟩:=sucA m;refine ai (fun h1=>?_) (fun h2=>?_)
 ·have qh1:=of_decide_eq_true h1;obtain ⟨hf1,hf2,hf3,hf4⟩:=ref09_half hx.2.1 hx.1 qh1;refine ai gkA ?_;refine ai (fun h3=>?_) (fun h4=>?_)
  ·refine Or.inl ?_;(first|refine ⟨Qo1 8 rfl lnA apA,?_⟩|refine ⟨QI0 8 rfl apA,?_⟩);refine ai gkA ?_;exact Qb4 (wu64 (Int.tdiv s2 2)) (out++([(n:Int)]:List Int)) (n+1) (wkA [0]) omA ⟨m,by exact omA,foll hR (congrArg (fun p:Int × (List Int) × Nat=>Q03 p.1 p.2.1 p.2.2) (ct h1 (ct h3 rfl))),by exact exA⟩
  ·refine ai gkA ?_;exact Qb4 (wu64 (Int.tdiv s2 2)) out (n+1) (wkA [0]) omA ⟨m,by exact omA,foll hR (congrArg (fun p:Int × (List Int) × Nat=>Q03 p.1 p.2.1 p.2.2) (ct h1 (cf h4 rfl))),by exact exA⟩
 ·have qh2:=of_decide_eq_false h2;replace hR:Q03 s2 out n=R:=fo2 (fun p:Int × (List Int) × Nat=>Q03 p.1 p.2.1 p.2.2) (s2,out,n) hR (cf h2 rfl);obtain rfl:=foll hR rfl;exact Q80 lw (Q90 0 _ rfl eqA lnA)
theorem QY5:∀ (m K:Nat) (s:Int) (out:List Int) (n:Nat),s<2 ^ K->(∀ y ∈ out,0<=y∧y<(n:Int)) ->
  (QZ0 m s out n).2.1.length<=out.length+K ∧ ∀ y ∈ (QZ0 m s out n).2.1,0<=y∧y<((n+K:Nat):Int)
 | 0,_,_,_,_,_,_=>⟨Nat.zero_le _,fun _ h=>absurd h List.not_mem_nil⟩
 | m+1,K,s,out,n,hs,ho=>by
  rw [QZ0]
  cases h:decide (s > 0) with
  | false=>exact ⟨Nat.le_add_right _ _,fun y hy=>by have:=ho y hy;constructor <;> omega⟩
  | true =>
   have h0:=of_decide_eq_true h
   cases K with
   | zero=>simp at hs;omega
   | succ K =>
    have hl:wu64 (Int.tdiv s 2)<2 ^ K:=by
     have e : wu64 (Int.tdiv s 2) = Int.tdiv s 2 % 18446744073709551616 := by simp [IntKind.wrap, IntKind.bits, IntKind.signed]
     rw [Int.pow_succ] at hs
     rw [e,Int.tdiv_eq_ediv_of_nonneg (by omega)]
     generalize (2:Int) ^ K=P at hs ⊢
     omega
    have ho2:∀ y ∈ out++([(n:Int)]:List Int),0<=y∧y<((n+1:Nat):Int):=fun y hy=>by
     rcases List.mem_append.1 hy with hy|hy
     ·have:=ho y hy;omega
     ·rw [List.mem_singleton.1 hy];omega
    simp only [cond_true]
    cases hm:(Int.tmod s 2==1) with
    | true =>
     obtain ⟨a,b⟩:=QY5 m K _ _ (n+1) hl ho2
     simp only [cond_true]
     exact ⟨by simp at a;omega,fun y hy=>by have:=b y hy;omega⟩
    | false =>
     obtain ⟨a,b⟩:=QY5 m K _ out (n+1) hl (fun y hy=>by have:=ho y hy;omega)
     simp only [cond_false]
     exact ⟨by omega,fun y hy=>by have:=b y hy;omega⟩
theorem Quc (s:Int):(Qb0 s).length<=66 ∧ ∀ y ∈ Qb0 s,0<=y∧y<66:=by
 unfold Qb0 Q03
 rw [QZ0]
 have hl:wu64 (Int.tdiv s 2)<2 ^ 64:=by
  have e : wu64 (Int.tdiv s 2) = Int.tdiv s 2 % 18446744073709551616 := by simp [IntKind.wrap, IntKind.bits, IntKind.signed]
  rw [e,show (2:Int) ^ 64=18446744073709551616 by decide]
  omega
 cases h:decide (s > 0) with
 | false=>exact ⟨Nat.zero_le _,fun _ h=>absurd h List.not_mem_nil⟩
 | true =>
  simp only [cond_true]
  cases hm:(Int.tmod s 2==1) with
  | true =>
   obtain ⟨a,b⟩:=QY5 (Int.toNat s) 64 _ ([]++([((0:Nat):Int)]:List Int)) (0+1) hl (by simp)
   simp only [cond_true]
   exact ⟨Nat.le_trans a (by simp),fun y hy=>by have:=b y hy;omega⟩
  | false =>
   obtain ⟨a,b⟩:=QY5 (Int.toNat s) 64 _ [] (0+1) hl (by simp)
   simp only [cond_false]
   exact ⟨Nat.le_trans a (by simp),fun y hy=>by have:=b y hy;omega⟩
def Qwa (set_:Int):Bool:=(decide (set_<281474976710656))
theorem ref14_Few_c (set_:Int):GV 286 [U set_] (Bo (Qwa set_)):=by
 generalize hR:Qwa set_=R;refine gA (kp 3 []) Tryz.func286 ?_;exact lfA
def QG9 (state:Int):Bool:=((decide (state >= 3))&&(decide (state<=7)))
theorem ref14_Ended_c (state:Int):GV 288 [I state] (Bo (QG9 state)):=by
 generalize hR:QG9 state=R;refine gA (kp 3 []) Tryz.func288 ?_;exact lfA
def QL5 :List Book->Int->Nat->Int
 | [],_,_=>0
 | x_ :: r,last,i=>bif (((((((((i:Int)==8)||(decide (x_.id<=last)))||(decide (x_.id > 99999)))||(decide (x_.from_<0)))||(decide (x_.to<=x_.from_)))||(decide (x_.to > 1000000)))||(decide (x_.nodes<1)))||(decide (x_.nodes > 48))) then 190 else QL5 r x_.id (i+1)
def Qs8 (l:List Book):Int:=QL5 l 0 0
theorem ref19_Check_c (l:List Book) (hs0:l.length<=4294967296):GV 168 [bookL l] (I (Qs8 l)):=by
 generalize hR:Qs8 l=R;refine gA (kp 6 [9,55]) Tryz.func168 ?_;have hk0:=hs0;obtain z5:l.length<=4294967296:=hs0;refine Qe0 (fun (last:Int) (i:Nat)=>QL5 (List.drop i l) last i=R∧i<=l.length) (fun last i=>l.length - i) (fun last i=>[(0,bookL l),(2,I 0),(3,I last),(4,I (i:Int))]) (fun last i=>[]) 0 0 (wkA []) ⟨foll hR rfl,by exact omA⟩ ?_;clear hR;rintro last i ⟨hR,hj⟩;(try dsimp only at hR hj);refine ai (fun h1=>?_) (fun h2=>?_)
 ·have hlt:=ltA h1;rw [Qc0 Book.zero hlt] at hR;refine ai gkA ?_;refine ai (fun h3=>?_) (fun h4=>?_)
  ·exact lfA
  ·exact Q60 ((l.getD i Book.zero).id) (i+1) (wkA []) omA ⟨folA,by exact omA⟩
 ·rw [Qd0 (l:=l) (j:=i) (geA h2)] at hR;exact lfA
def Qk3 (s:ByteArray):Bool:=((decide ((ByteArray.size s:Int) > 0))&&(decide ((ByteArray.size s:Int)<65)))
theorem QQd (s:ByteArray):GV 216 [Sg s] (Bo (Qk3 s)):=by
 generalize hR:Qk3 s=R;refine gA (kp 3 []) Tryz.func216 ?_;exact lfA
def Q37 (a:Usage) (b:Usage):Bool:=((Op.bytesLess (ByteArray.toList a.user) (ByteArray.toList b.user))||((ByteArray.toList a.user==ByteArray.toList b.user)&&(Op.bytesLess (ByteArray.toList a.account) (ByteArray.toList b.account))))
theorem Qwc (a:Usage) (b:Usage):GV 217 [Usage.a a,Usage.a b] (Bo (Q37 a b)):=by
 generalize hR:Q37 a b=R;refine gA (kp 5 []) Tryz.func217 ?_;exact lfA
def QS4 (n:Int) (last:Int):Bool:=(((decide (n > 0))&&(decide (n<100001)))&&(decide (n > last)))
theorem QSd (n:Int) (last:Int):GV 103 [I n,I last] (Bo (QS4 n last)):=by
 generalize hR:QS4 n last=R;refine gA (kp 5 []) Tryz.func103 ?_;exact lfA
def QT2 (id_:Int):List Job->Nat->Int
 | [],_=>(-1)
 | x_ :: r,i=>bif (x_.id==id_) then (i:Int) else QT2 id_ r (i+1)
def QZ5 (l:List Job) (id_:Int):Int:=QT2 id_ l 0
theorem ref15_At_c (l:List Job) (id_:Int) (hs0:l.length<=4294967296∧(∀ y ∈ l,y.sz)):GV 42 [jobL l,I id_] (I (QZ5 l id_)):=by
 generalize hR:QZ5 l id_=R;refine gA (kp 6 [9,18]) Tryz.func42 ?_;obtain ⟨z10,z11⟩:=id hs0;refine Qg0 (fun (i:Nat)=>QT2 id_ (List.drop i l) i=R∧i<=l.length) (fun i=>l.length - i) (fun i=>[(0,jobL l),(1,I id_),(4,I 0),(5,I (i:Int))]) (fun i=>[]) 0 (wkA []) ⟨foll hR rfl,by exact omA⟩ ?_;clear hR;rintro i ⟨hR,hj⟩;(try dsimp only at hR hj);refine ai (fun h1=>?_) (fun h2=>?_)
 ·have hlt:=ltA h1;rw [Qc0 Job.zero hlt] at hR;have hxz:(l.getD i Job.zero).sz:=Q94 (by first|assumption|grind) (Job.szz _);have hkz:=hxz;obtain ⟨z3,z4,z5,z6,z7⟩:=Job.zz hxz;refine ai gkA ?_;refine ai (fun h8=>?_) (fun h9=>?_)
  ·exact lfA
  ·exact Ql0 (i+1) (wkA []) omA ⟨folA,by exact omA⟩
 ·rw [Qd0 (l:=l) (j:=i) (geA h2)] at hR;exact lfA
theorem ref15_At_g1_lt (id_:Int) (r:List Job):∀ (i:Nat),QT2 id_ r i = -1∨((i:Int)<=QT2 id_ r i∧QT2 id_ r i<(i:Int)+(r.length:Int)):=by
 induction r with
 | nil=>intro i;left;rfl
 | cons x r ih =>
  intro i
  rw [QT2]
  cases (x.id==id_) with
  | true=>right;simp;omega
  | false =>
   rcases ih (i+1) with h|h
   ·left;exact h
   ·right;simp only [cond_false,List.length_cons];omega
theorem ref15_At_lt (L:List Job) (id_:Int):QZ5 L id_<0∨(0<=QZ5 L id_∧QZ5 L id_<(L.length:Int)):=by
 rcases ref15_At_g1_lt id_ L 0 with h|h
 ·left;rw [QZ5,h];decide
 ·right;rw [QZ5];omega
def Qe5 (n:Int):Nat->Int->Nat->Int × Nat
 | 0,_,_=>(0,0)
 | m+1,out,i=>bif (decide ((i:Int)<n)) then Qe5 n m (wu64 (out*2)) (i+1) else (out,i)
def Qo6 (out:Int) (i:Nat):Int:=out
def QH5 (n:Int):Int:=Qo6 ((Qe5 n ((Int.toNat (n - (0:Int)))+1) 1 0).1) ((Qe5 n ((Int.toNat (n - (0:Int)))+1) 1 0).2)
theorem Qyf (n:Int) (hp0:n<=100):GV 120 [I n] (U (QH5 n)):=by
 generalize hR:QH5 n=R;refine gA (kp 5 [7]) Tryz.func120 ?_;refine Qe0 (fun (out:Int) (i:Nat)=>∃ m,(Int.toNat (n - (i:Int)))<m∧Qo6 (Qe5 n m out i).1 (Qe5 n m out i).2=R) (fun out i=>(Int.toNat (n - (i:Int)))) (fun out i=>[(0,I n),(2,U 0),(3,U out),(4,I (i:Int))]) (fun out i=>[]) 1 0 (wkA []) ⟨_,Nat.lt_succ_self _,foll hR rfl⟩ ?_;clear hR;rintro out i ⟨m,hm,hR⟩;(try dsimp only at hR hm);obtain ⟨m,rfl⟩:=sucA m;refine ai (fun h1=>?_) (fun h2=>?_)
 ·have qh1:=of_decide_eq_true h1;exact Q60 (wu64 (out*2)) (i+1) (wkA []) omA ⟨m,by exact omA,foll hR (congrArg (fun p:Int × Nat=>Qo6 p.1 p.2) (ct h1 rfl))⟩
 ·have qh2:=of_decide_eq_false h2;replace hR:Qo6 out i=R:=fo2 (fun p:Int × Nat=>Qo6 p.1 p.2) (out,i) hR (cf h2 rfl);exact lfA
theorem ref09_bit_all:∀ k:Fin 64,QH5 (k.1:Int) ≠ 0:=by decide +kernel
theorem ref09_bit_pos (n:Int):0<=n->n<=63->QH5 n ≠ 0:=by
 intro h0 h
 have:=ref09_bit_all ⟨n.toNat,by omega⟩
 rwa [show ((⟨n.toNat,by omega⟩:Fin 64).1:Int)=n by simp;omega] at this
def Qs3 (id_:Int):List Resize->Nat->Resize
 | [],_=>Resize.zero
 | x_ :: r,i=>bif (x_.job==id_) then x_ else Qs3 id_ r (i+1)
def Q05 (s:State) (id_:Int):Resize:=Qs3 id_ s.resizes 0
theorem ref25_of_c (s:State) (id_:Int) (hs0:s.sz):GV 107 [State.a s,I id_] (Resize.a (Q05 s id_)):=by
 generalize hR:Q05 s id_=R;refine gA (kp 6 [10,20]) Tryz.func107 ?_;have hk0:=hs0;obtain ⟨z5,z6,z7,z8,z9,z10,z11⟩:=hs0;refine Qg0 (fun (i:Nat)=>Qs3 id_ (List.drop i s.resizes) i=R∧i<=s.resizes.length) (fun i=>s.resizes.length - i) (fun i=>[(1,I id_),(2,AVal.ptr 0 0 8 0 0),(4,AVal.ptr 1 0 5 0 0),(5,I (i:Int))]) (fun i=>[(0,AObj.row 28 8 [[I s.now,nodeL s.nodes,jobL s.jobs,Qp1 s.resizes,bookL s.books,QD2 s.ledger,I s.nextJob,I s.nextBook]]),(0,AObj.row 49 5 [[I 0,Bo false,U 0,U 0,I 0]])]) 0 (wkA [0,1]) ⟨foll hR rfl,by exact omA⟩ ?_;clear hR;rintro i ⟨hR,hj⟩;(try dsimp only at hR hj);refine ai (fun h1=>?_) (fun h2=>?_)
 ·have hlt:=ltA h1;rw [Qc0 Resize.zero hlt] at hR;refine ai gkA ?_;refine ai (fun h3=>?_) (fun h4=>?_)
  ·refine ai gkA ?_;exact lfA
  ·exact Ql0 (i+1) (wkA [0,1]) omA ⟨folA,by exact omA⟩
 ·rw [Qd0 (l:=s.resizes) (j:=i) (geA h2)] at hR;exact lfA
def Qg5 (n:Int):Nat->Int->Nat->Int × Nat
 | 0,_,_=>(0,0)
 | m+1,out,i=>bif (decide ((i:Int)<n)) then Qg5 n m (wu64 (2*out)) (i+1) else (out,i)
def Qp6 (out:Int) (i:Nat):Int:=out
def Qb9 (n:Int):Int:=Qp6 ((Qg5 n ((Int.toNat (n - (0:Int)))+1) 1 0).1) ((Qg5 n ((Int.toNat (n - (0:Int)))+1) 1 0).2)
theorem ref12_bit_c (n:Int) (hp0:n<=100):GV 163 [I n] (U (Qb9 n)):=by
 generalize hR:Qb9 n=R;refine gA (kp 5 [7]) Tryz.func163 ?_;refine Qe0 (fun (out:Int) (i:Nat)=>∃ m,(Int.toNat (n - (i:Int)))<m∧Qp6 (Qg5 n m out i).1 (Qg5 n m out i).2=R) (fun out i=>(Int.toNat (n - (i:Int)))) (fun out i=>[(0,I n),(2,U 0),(3,U out),(4,I (i:Int))]) (fun out i=>[]) 1 0 (wkA []) ⟨_,Nat.lt_succ_self _,foll hR rfl⟩ ?_;clear hR;rintro out i ⟨m,hm,hR⟩;(try dsimp only at hR hm);obtain ⟨m,rfl⟩:=sucA m;refine ai (fun h1=>?_) (fun h2=>?_)
 ·have qh1:=of_decide_eq_true h1;exact Q60 (wu64 (2*out)) (i+1) (wkA []) omA ⟨m,by exact omA,foll hR (congrArg (fun p:Int × Nat=>Qp6 p.1 p.2) (ct h1 rfl))⟩
 ·have qh2:=of_decide_eq_false h2;replace hR:Qp6 out i=R:=fo2 (fun p:Int × Nat=>Qp6 p.1 p.2) (out,i) hR (cf h2 rfl);exact lfA
def QY1 (act:Int) (now:Int) (ok:Bool) (want:Int) (c:Node):Node × Bool:=bif (((decide (want > 0))&&(act != 12))&&(act != 13)) then ({ c with want:=want,since:=now,asked:=now },ok) else ({ c with want:=want },ok)
def Qua (x_:Node) (act:Int) (now:Int) (i1:Bool):Node × Bool:=bif i1 then QY1 act now (x_.state != 4) x_.want { x_ with drain:=(act==12) } else QY1 act now false 0 x_
def Qta (x_:Node) (act:Int) (job:Int) (now:Int) (i:Bool):Node × Bool:=bif i then bif (act==2) then QY1 act now (((((x_.state==0)&&(!x_.drain))&&(decide (x_.epoch<999999999)))&&(decide (job >= 1)))&&(decide (job<=99999))) 2 { x_ with state:=2,job:=job,epoch:=(w64 (x_.epoch+1)) } else QY1 act now (((((x_.state==0)&&(!x_.drain))&&(decide (x_.epoch<999999999)))&&(decide (job >= 1)))&&(decide (job<=99999))) 1 { x_ with state:=1,job:=job,epoch:=(w64 (x_.epoch+1)) } else bif (act==3) then QY1 act now (x_.state==2) 3 { x_ with state:=1 } else bif (act==4) then QY1 act now ((x_.state==1)||(x_.state==2)) 0 x_ else bif (act==5) then QY1 act now ((x_.state==1)&&(x_.want==0)) 4 x_ else bif (act==6) then QY1 act now ((x_.state==1)&&(x_.want==4)) 0 x_ else bif (act==7) then QY1 act now ((x_.state==1)||(x_.state==2)) 5 { x_ with state:=3 } else bif (act==8) then QY1 act now (x_.state==3) 0 { x_ with state:=0,job:=0 } else bif (act==9) then QY1 act now ((x_.state != 4)&&(decide (x_.epoch<999999999))) 0 { x_ with state:=4,job:=0,epoch:=(w64 (x_.epoch+1)) } else bif (act==10) then QY1 act now (x_.state==4) 6 x_ else bif (act==11) then QY1 act now ((x_.state==4)&&(x_.want==6)) 0 { x_ with state:=0,drain:=false } else bif (act==12) then Qua x_ act now (act==12) else Qua x_ act now (act==13)
def QG3 (x_:Node) (act:Int) (job:Int) (now:Int):Node × Bool:=bif (act==1) then Qta x_ act job now (act==1) else Qta x_ act job now (act==2)
theorem ref12_One_c (x_:Node) (act:Int) (job:Int) (now:Int):GV 172 [Node.a x_,I act,I job,I now] (AVal.tup [Node.a ((QG3 x_ act job now).1),Bo ((QG3 x_ act job now).2)]):=by
 generalize hR:QG3 x_ act job now=R;refine gA (kj [1000009,1000043,1000046] 14 [23,24,50,58,64,67,77,87,91,98,114,119,131,153]) Tryz.func172 ?_;refine Qbf (fun (ok:Bool) (want:Int) (c:Node)=>QY1 act now ok want c=R) (fun ok want c=>[(1,I act),(3,I now),(8,AVal.ptr 0 0 7 0 0),(9,Bo false),(10,AVal.ptr 1 0 7 0 0),(12,Bo ok),(13,I want)]) (fun ok want c=>[(0,AObj.row 55 7 [[I 0,I 0,I 0,Bo false,I 0,I 0,I 0]]),(0,AObj.row 55 7 [[I c.state,I c.job,I c.epoch,Bo c.drain,I c.want,I c.since,I c.asked]])]) ?_ ?_
 ·clear hR;rintro ok want c hR;(try dsimp only at hR);refine ai (fun h1=>?_) (fun h2=>?_)
  ·exact lfA
  ·exact lfA
 ·refine Qb1 (fun (i:Bool)=>Qta x_ act job now i=R) (fun i=>[(1,I act),(2,I job),(3,I now),(4,AVal.ptr 0 0 7 0 0),(8,AVal.ptr 1 0 7 0 0),(9,Bo false),(10,AVal.ptr 2 0 7 0 0),(11,Bo ((x_.state==1)||(x_.state==2))),(12,Bo false),(13,I 0),(23,I act),(24,Bo i)]) (fun i=>[(0,AObj.row 55 7 [[I x_.state,I x_.job,I x_.epoch,Bo x_.drain,I x_.want,I x_.since,I x_.asked]]),(0,AObj.row 55 7 [[I 0,I 0,I 0,Bo false,I 0,I 0,I 0]]),(0,AObj.row 55 7 [[I x_.state,I x_.job,I x_.epoch,Bo x_.drain,I x_.want,I x_.since,I x_.asked]])]) ?_ ?_
  ·clear hR;rintro i hR;(try dsimp only at hR);refine ai (fun h3=>?_) (fun h4=>?_)
   ·refine ai (fun h5=>?_) (fun h6=>?_)
    ·exact Qq2 (((((x_.state==0)&&(!x_.drain))&&(decide (x_.epoch<999999999)))&&(decide (job >= 1)))&&(decide (job<=99999))) 2 { x_ with state:=2,job:=job,epoch:=(w64 (x_.epoch+1)) } (wkA [1,2]) (foll hR (ct h3 (ct h5 rfl)))
    ·exact Qq2 (((((x_.state==0)&&(!x_.drain))&&(decide (x_.epoch<999999999)))&&(decide (job >= 1)))&&(decide (job<=99999))) 1 { x_ with state:=1,job:=job,epoch:=(w64 (x_.epoch+1)) } (wkA [1,2]) (foll hR (ct h3 (cf h6 rfl)))
   ·refine ai (fun h7=>?_) (fun h8=>?_)
    ·exact Qq2 (x_.state==2) 3 { x_ with state:=1 } (wkA [1,2]) (foll hR (cf h4 (ct h7 rfl)))
    ·refine ai (fun h9=>?_) (fun h10=>?_)
     ·exact Qq2 ((x_.state==1)||(x_.state==2)) 0 x_ (wkA [1,2]) (foll hR (cf h4 (cf h8 (ct h9 rfl))))
     ·refine ai (fun h11=>?_) (fun h12=>?_)
      ·exact Qq2 ((x_.state==1)&&(x_.want==0)) 4 x_ (wkA [1,2]) (foll hR (cf h4 (cf h8 (cf h10 (ct h11 rfl)))))
      ·refine ai (fun h13=>?_) (fun h14=>?_)
       ·exact Qq2 ((x_.state==1)&&(x_.want==4)) 0 x_ (wkA [1,2]) (foll hR (cf h4 (cf h8 (cf h10 (cf h12 (ct h13 rfl))))))
       ·refine ai (fun h15=>?_) (fun h16=>?_)
        ·exact Qq2 ((x_.state==1)||(x_.state==2)) 5 { x_ with state:=3 } (wkA [1,2]) (foll hR (cf h4 (cf h8 (cf h10 (cf h12 (cf h14 (ct h15 rfl)))))))
        ·refine ai (fun h17=>?_) (fun h18=>?_)
         ·exact Qq2 (x_.state==3) 0 { x_ with state:=0,job:=0 } (wkA [1,2]) (foll hR (cf h4 (cf h8 (cf h10 (cf h12 (cf h14 (cf h16 (ct h17 rfl))))))))
         ·refine ai (fun h19=>?_) (fun h20=>?_)
          ·exact Qq2 ((x_.state != 4)&&(decide (x_.epoch<999999999))) 0 { x_ with state:=4,job:=0,epoch:=(w64 (x_.epoch+1)) } (wkA [1,2]) (foll hR (cf h4 (cf h8 (cf h10 (cf h12 (cf h14 (cf h16 (cf h18 (ct h19 rfl)))))))))
          ·refine ai (fun h21=>?_) (fun h22=>?_)
           ·exact Qq2 (x_.state==4) 6 x_ (wkA [1,2]) (foll hR (cf h4 (cf h8 (cf h10 (cf h12 (cf h14 (cf h16 (cf h18 (cf h20 (ct h21 rfl))))))))))
           ·refine ai (fun h23=>?_) (fun h24=>?_)
            ·exact Qq2 ((x_.state==4)&&(x_.want==6)) 0 { x_ with state:=0,drain:=false } (wkA [1,2]) (foll hR (cf h4 (cf h8 (cf h10 (cf h12 (cf h14 (cf h16 (cf h18 (cf h20 (cf h22 (ct h23 rfl)))))))))))
            ·refine Qb1 (fun (i1:Bool)=>Qua x_ act now i1=R) (fun i1=>[(1,I act),(3,I now),(4,AVal.ptr 0 0 7 0 0),(8,AVal.ptr 1 0 7 0 0),(9,Bo false),(10,AVal.ptr 2 0 7 0 0),(12,Bo false),(13,I 0),(131,Bo i1)]) (fun i1=>[(0,AObj.row 55 7 [[I x_.state,I x_.job,I x_.epoch,Bo x_.drain,I x_.want,I x_.since,I x_.asked]]),(0,AObj.row 55 7 [[I 0,I 0,I 0,Bo false,I 0,I 0,I 0]]),(0,AObj.row 55 7 [[I x_.state,I x_.job,I x_.epoch,Bo x_.drain,I x_.want,I x_.since,I x_.asked]])]) ?_ ?_
             ·clear hR;rintro i1 hR;(try dsimp only at hR);refine ai (fun h25=>?_) (fun h26=>?_)
              ·exact Qq2 (x_.state != 4) x_.want { x_ with drain:=(act==12) } (wkA [1,2]) (foll hR (ct h25 rfl))
              ·exact Qq2 false 0 x_ (wkA [1,2]) (foll hR (cf h26 rfl))
             ·refine ai (fun h27=>?_) (fun h28=>?_)
              ·exact Q70 (act==12) (wkA [0,1,2]) (foll hR (cf h4 (cf h8 (cf h10 (cf h12 (cf h14 (cf h16 (cf h18 (cf h20 (cf h22 (cf h24 (ct h27 rfl))))))))))))
              ·exact Q70 (act==13) (wkA [0,1,2]) (foll hR (cf h4 (cf h8 (cf h10 (cf h12 (cf h14 (cf h16 (cf h18 (cf h20 (cf h22 (cf h24 (cf h28 rfl))))))))))))
  ·refine ai (fun h29=>?_) (fun h30=>?_)
   ·exact Q70 (act==1) (wkA [0,1,2]) (foll hR (ct h29 rfl))
   ·exact Q70 (act==2) (wkA [0,1,2]) (foll hR (cf h30 rfl))
def QA0 (r_:Resize):List Resize->List Resize->Bool->Nat->(List Resize) × Bool × Nat
 | [],out,put,i=>(out,put,i)
 | x_ :: r,out,put,i=>bif ((!put)&&(decide (x_.job > r_.job))) then QA0 r_ r ((out++([r_]:List Resize))++([x_]:List Resize)) true (i+1) else QA0 r_ r (out++([x_]:List Resize)) put (i+1)
def QJ2 (r_:Resize) (out:List Resize) (put:Bool) (i:Nat):(List Resize):=bif (!put) then (out++([r_]:List Resize)) else out
def Qr6 (l:List Resize) (r_:Resize):(List Resize):=QJ2 r_ ((QA0 r_ l [] false 0).1) ((QA0 r_ l [] false 0).2.1) ((QA0 r_ l [] false 0).2.2)
theorem ref26_with_c (l:List Resize) (r_:Resize) (hs0:l.length<=4294967296):GV 51 [Qp1 l,Resize.a r_] (Qp1 (Qr6 l r_)):=by
 generalize hR:Qr6 l r_=R;refine gA (kp 8 [11,25,38]) Tryz.func51 ?_;have hk0:=hs0;obtain z7:l.length<=4294967296:=hs0;refine Qj8 (fun (out:List Resize) (put:Bool) (i:Nat)=>QJ2 r_ (QA0 r_ (List.drop i l) out put i).1 (QA0 r_ (List.drop i l) out put i).2.1 (QA0 r_ (List.drop i l) out put i).2.2=R∧i<=l.length∧out.length<=2*i) (fun out put i=>l.length - i) (fun out put i=>[(0,Qp1 l),(3,AVal.ptr 0 0 5 0 0),(4,AVal.lit (.slice none 0 0)),(5,AVal.own 1 0 5 0 out.length),(6,Bo put),(7,I (i:Int))]) (fun out put i=>[(0,AObj.row 49 5 [[I r_.job,Bo r_.grow,U r_.nodes,U r_.said,I r_.since]]),(0,AObj.row 49 5 (out.map Resize.cells))]) [] false 0 ((Qx1 49 5).trans (wkA [0,1])) ⟨foll hR rfl,by exact omA,by exact exA⟩ ?_;clear hR;rintro out put i ⟨hR,hj,hx⟩;(try dsimp only at hR hj hx);refine ai (fun h1=>?_) (fun h2=>?_)
 ·have hlt:=ltA h1;rw [Qc0 Resize.zero hlt] at hR;refine dchk (by kernel_rfl) ?_;refine ai gkA ?_;(repeat ((first|refine ai rfl ?_|refine ai (fun _=>rfl) ?_)));refine ai (fun h3=>?_) (fun h4=>?_)
  ·refine Or.inl ?_;(first|refine ⟨Qo1 40 rfl lnA apA,?_⟩|refine ⟨QI0 40 rfl apA,?_⟩);refine ai gkA ?_;refine Or.inl ?_;(first|refine ⟨Qo1 40 rfl lnA apA,?_⟩|refine ⟨QI0 40 rfl apA,?_⟩);exact Qb4 ((out++([r_]:List Resize))++([(l.getD i Resize.zero)]:List Resize)) true (i+1) (wkA [0,1]) omA ⟨foll hR (congrArg (fun p:(List Resize) × Bool × Nat=>QJ2 r_ p.1 p.2.1 p.2.2) (ct h3 rfl)),by exact omA,by exact exA⟩
  ·refine ai gkA ?_;refine Or.inl ?_;(first|refine ⟨Qo1 40 rfl lnA apA,?_⟩|refine ⟨QI0 40 rfl apA,?_⟩);exact Qb4 (out++([(l.getD i Resize.zero)]:List Resize)) put (i+1) (wkA [0,1]) omA ⟨foll hR (congrArg (fun p:(List Resize) × Bool × Nat=>QJ2 r_ p.1 p.2.1 p.2.2) (cf h4 rfl)),by exact omA,by exact exA⟩
 ·rw [Qd0 (l:=l) (j:=i) (geA h2)] at hR;replace hR:QJ2 r_ out put i=R:=fo2 (fun p:(List Resize) × Bool × Nat=>QJ2 r_ p.1 p.2.1 p.2.2) (out,put,i) hR rfl;refine ai (fun h5=>?_) (fun h6=>?_)
  ·refine Or.inl ?_;(first|refine ⟨Qo1 40 rfl lnA apA,?_⟩|refine ⟨QI0 40 rfl apA,?_⟩);obtain rfl:=foll hR (ct h5 rfl);exact Q80 lw (Q90 Resize.zero _ rfl eqA lnA)
  ·obtain rfl:=foll hR (cf h6 rfl);exact Q80 lw (Q90 Resize.zero _ rfl eqA lnA)
def QX7 (b:List Node):List Node->Nat->Bool
 | [],_=>true
 | x_ :: r,i=>bif (!((x_.state==(b.getD i Node.zero).state)&&((x_.job==(b.getD i Node.zero).job)&&((x_.epoch==(b.getD i Node.zero).epoch)&&((x_.drain==(b.getD i Node.zero).drain)&&((x_.want==(b.getD i Node.zero).want)&&((x_.since==(b.getD i Node.zero).since)&&(x_.asked==(b.getD i Node.zero).asked)))))))) then false else QX7 b r (i+1)
def QUa (a:List Node) (b:List Node):Bool:=bif ((a.length:Int)!=(b.length:Int)) then false else QX7 b a 0
theorem ref12_Same_c (a:List Node) (b:List Node) (hs0:a.length<=4294967296) (hs1:b.length<=4294967296):GV 52 [nodeL a,nodeL b] (Bo (QUa a b)):=by
 generalize hR:QUa a b=R;refine gA (kp 6 [10,14,25]) Tryz.func52 ?_;have hk0:=hs0;obtain z7:a.length<=4294967296:=hs0;have hk1:=hs1;obtain z8:b.length<=4294967296:=hs1;refine ai (fun h1=>?_) (fun h2=>?_)
 ·exact lfA
 ·refine Qg0 (fun (i:Nat)=>QX7 b (List.drop i a) i=R∧i<=a.length) (fun i=>a.length - i) (fun i=>[(0,nodeL a),(1,nodeL b),(4,Bo false),(5,I (i:Int))]) (fun i=>[]) 0 (wkA []) ⟨folA,by exact omA⟩ ?_;clear hR;rintro i ⟨hR,hj⟩;(try dsimp only at hR hj);refine ai (fun h3=>?_) (fun h4=>?_)
  ·have hlt:=ltA h3;rw [Qc0 Node.zero hlt] at hR;refine dchk (by kernel_rfl) ?_;refine ai gkA ?_;refine ai gkA ?_;refine ai (fun _=>(by kernel_rfl:eqOK _ _=true)) ?_;(repeat ((first|refine ai rfl ?_|refine ai (fun _=>rfl) ?_)));refine ai (fun h5=>?_) (fun h6=>?_)
   ·exact lfA
   ·exact Ql0 (i+1) (wkA []) omA ⟨folA,by exact omA⟩
  ·rw [Qd0 (l:=a) (j:=i) (geA h4)] at hR;exact lfA
def Q24 (b:List Resize):List Resize->Nat->Bool
 | [],_=>true
 | x_ :: r,i=>bif (!((x_.job==(b.getD i Resize.zero).job)&&((x_.grow==(b.getD i Resize.zero).grow)&&((x_.nodes==(b.getD i Resize.zero).nodes)&&((x_.said==(b.getD i Resize.zero).said)&&(x_.since==(b.getD i Resize.zero).since)))))) then false else Q24 b r (i+1)
def Qx5 (a:List Resize) (b:List Resize):Bool:=bif ((a.length:Int)!=(b.length:Int)) then false else Q24 b a 0
theorem QBb (a:List Resize) (b:List Resize) (hs0:a.length<=4294967296) (hs1:b.length<=4294967296):GV 54 [Qp1 a,Qp1 b] (Bo (Qx5 a b)):=by
 generalize hR:Qx5 a b=R;refine gA (kp 6 [10,14,25]) Tryz.func54 ?_;have hk0:=hs0;obtain z7:a.length<=4294967296:=hs0;have hk1:=hs1;obtain z8:b.length<=4294967296:=hs1;refine ai (fun h1=>?_) (fun h2=>?_)
 ·exact lfA
 ·refine Qg0 (fun (i:Nat)=>Q24 b (List.drop i a) i=R∧i<=a.length) (fun i=>a.length - i) (fun i=>[(0,Qp1 a),(1,Qp1 b),(4,Bo false),(5,I (i:Int))]) (fun i=>[]) 0 (wkA []) ⟨folA,by exact omA⟩ ?_;clear hR;rintro i ⟨hR,hj⟩;(try dsimp only at hR hj);refine ai (fun h3=>?_) (fun h4=>?_)
  ·have hlt:=ltA h3;rw [Qc0 Resize.zero hlt] at hR;refine dchk (by kernel_rfl) ?_;refine ai gkA ?_;refine ai gkA ?_;refine ai (fun _=>(by kernel_rfl:eqOK _ _=true)) ?_;(repeat ((first|refine ai rfl ?_|refine ai (fun _=>rfl) ?_)));refine ai (fun h5=>?_) (fun h6=>?_)
   ·exact lfA
   ·exact Ql0 (i+1) (wkA []) omA ⟨folA,by exact omA⟩
  ·rw [Qd0 (l:=a) (j:=i) (geA h4)] at hR;exact lfA
def QZ7 (b:List Book):List Book->Nat->Bool
 | [],_=>true
 | x_ :: r,i=>bif (!((x_.id==(b.getD i Book.zero).id)&&((x_.from_==(b.getD i Book.zero).from_)&&((x_.to==(b.getD i Book.zero).to)&&(x_.nodes==(b.getD i Book.zero).nodes))))) then false else QZ7 b r (i+1)
def QXa (a:List Book) (b:List Book):Bool:=bif ((a.length:Int)!=(b.length:Int)) then false else QZ7 b a 0
theorem ref19_Same_c (a:List Book) (b:List Book) (hs0:a.length<=4294967296) (hs1:b.length<=4294967296):GV 55 [bookL a,bookL b] (Bo (QXa a b)):=by
 generalize hR:QXa a b=R;refine gA (kp 6 [10,14,25]) Tryz.func55 ?_;have hk0:=hs0;obtain z7:a.length<=4294967296:=hs0;have hk1:=hs1;obtain z8:b.length<=4294967296:=hs1;refine ai (fun h1=>?_) (fun h2=>?_)
 ·exact lfA
 ·refine Qg0 (fun (i:Nat)=>QZ7 b (List.drop i a) i=R∧i<=a.length) (fun i=>a.length - i) (fun i=>[(0,bookL a),(1,bookL b),(4,Bo false),(5,I (i:Int))]) (fun i=>[]) 0 (wkA []) ⟨folA,by exact omA⟩ ?_;clear hR;rintro i ⟨hR,hj⟩;(try dsimp only at hR hj);refine ai (fun h3=>?_) (fun h4=>?_)
  ·have hlt:=ltA h3;rw [Qc0 Book.zero hlt] at hR;refine dchk (by kernel_rfl) ?_;refine ai gkA ?_;refine ai gkA ?_;refine ai (fun _=>(by kernel_rfl:eqOK _ _=true)) ?_;(repeat ((first|refine ai rfl ?_|refine ai (fun _=>rfl) ?_)));refine ai (fun h5=>?_) (fun h6=>?_)
   ·exact lfA
   ·exact Ql0 (i+1) (wkA []) omA ⟨folA,by exact omA⟩
  ·rw [Qd0 (l:=a) (j:=i) (geA h4)] at hR;exact lfA
def QF6 (b:List Usage):List Usage->Nat->Bool
 | [],_=>true
 | x_ :: r,i=>bif ((((!(ByteArray.toList x_.user==ByteArray.toList (b.getD i Usage.zero).user))||(!(ByteArray.toList x_.account==ByteArray.toList (b.getD i Usage.zero).account)))||(x_.used != (b.getD i Usage.zero).used))||(x_.share != (b.getD i Usage.zero).share)) then false else QF6 b r (i+1)
def QWa (a:List Usage) (b:List Usage):Bool:=bif ((a.length:Int)!=(b.length:Int)) then false else QF6 b a 0
theorem ref17_Same_c (a:List Usage) (b:List Usage) (hs0:a.length<=4294967296∧(∀ y ∈ a,y.sz)) (hs1:b.length<=4294967296∧(∀ y ∈ b,y.sz)):GV 56 [QD2 a,QD2 b] (Bo (QWa a b)):=by
 generalize hR:QWa a b=R;refine gA (kp 6 [10,14,66]) Tryz.func56 ?_;obtain ⟨z9,z10⟩:=id hs0;obtain ⟨z11,z12⟩:=id hs1;refine ai (fun h1=>?_) (fun h2=>?_)
 ·exact lfA
 ·refine Qg0 (fun (i:Nat)=>QF6 b (List.drop i a) i=R∧i<=a.length) (fun i=>a.length - i) (fun i=>[(0,QD2 a),(1,QD2 b),(4,Bo false),(5,I (i:Int))]) (fun i=>[]) 0 (wkA []) ⟨folA,by exact omA⟩ ?_;clear hR;rintro i ⟨hR,hj⟩;(try dsimp only at hR hj);refine ai (fun h3=>?_) (fun h4=>?_)
  ·have hlt:=ltA h3;rw [Qc0 Usage.zero hlt] at hR;have hxz:(a.getD i Usage.zero).sz:=Q94 (by first|assumption|grind) (Usage.szz _);have hkz:=hxz;obtain ⟨z5,z6⟩:=Usage.zz hxz;refine dchk (by kernel_rfl) ?_;refine ai gkA ?_;refine ai gkA ?_;refine ai gkA ?_;refine ai gkA ?_;refine ai gkA ?_;refine ai gkA ?_;refine ai gkA ?_;refine ai gkA ?_;(repeat ((first|refine ai rfl ?_|refine ai (fun _=>rfl) ?_)));refine ai (fun h7=>?_) (fun h8=>?_)
   ·exact lfA
   ·exact Ql0 (i+1) (wkA []) omA ⟨folA,by exact omA⟩
  ·rw [Qd0 (l:=a) (j:=i) (geA h4)] at hR;exact lfA
def QZ4 (b:List Note):List Note->Nat->Bool
 | [],_=>true
 | x_ :: r,i=>bif (!((x_.kind==(b.getD i Note.zero).kind)&&((x_.node==(b.getD i Note.zero).node)&&((x_.job==(b.getD i Note.zero).job)&&(x_.epoch==(b.getD i Note.zero).epoch))))) then false else QZ4 b r (i+1)
def Qh5 (a:List Note) (b:List Note):Bool:=bif ((a.length:Int)!=(b.length:Int)) then false else QZ4 b a 0
theorem Qc9 (a:List Note) (b:List Note) (hs0:a.length<=4294967296) (hs1:b.length<=4294967296):GV 13 [noteL a,noteL b] (Bo (Qh5 a b)):=by
 generalize hR:Qh5 a b=R;refine gA (kp 6 [10,14,25]) Tryz.func13 ?_;have hk0:=hs0;obtain z7:a.length<=4294967296:=hs0;have hk1:=hs1;obtain z8:b.length<=4294967296:=hs1;refine ai (fun h1=>?_) (fun h2=>?_)
 ·exact lfA
 ·refine Qg0 (fun (i:Nat)=>QZ4 b (List.drop i a) i=R∧i<=a.length) (fun i=>a.length - i) (fun i=>[(0,noteL a),(1,noteL b),(4,Bo false),(5,I (i:Int))]) (fun i=>[]) 0 (wkA []) ⟨folA,by exact omA⟩ ?_;clear hR;rintro i ⟨hR,hj⟩;(try dsimp only at hR hj);refine ai (fun h3=>?_) (fun h4=>?_)
  ·have hlt:=ltA h3;rw [Qc0 Note.zero hlt] at hR;refine dchk (by kernel_rfl) ?_;refine ai gkA ?_;refine ai gkA ?_;refine ai (fun _=>(by kernel_rfl:eqOK _ _=true)) ?_;(repeat ((first|refine ai rfl ?_|refine ai (fun _=>rfl) ?_)));refine ai (fun h5=>?_) (fun h6=>?_)
   ·exact lfA
   ·exact Ql0 (i+1) (wkA []) omA ⟨folA,by exact omA⟩
  ·rw [Qd0 (l:=a) (j:=i) (geA h4)] at hR;exact lfA
def Q82 (id_:Int):List Resize->List Resize->Nat->(List Resize) × Nat
 | [],out,i=>(out,i)
 | x_ :: r,out,i=>bif (x_.job != id_) then Q82 id_ r (out++([x_]:List Resize)) (i+1) else Q82 id_ r out (i+1)
def QU2 (out:List Resize) (i:Nat):(List Resize):=out
def Qs1 (l:List Resize) (id_:Int):(List Resize):=QU2 ((Q82 id_ l [] 0).1) ((Q82 id_ l [] 0).2)
theorem Qxa (l:List Resize) (id_:Int) (hs0:l.length<=4294967296):GV 65 [Qp1 l,I id_] (Qp1 (Qs1 l id_)):=by
 generalize hR:Qs1 l id_=R;refine gA (kp 7 [10,19]) Tryz.func65 ?_;have hk0:=hs0;obtain z5:l.length<=4294967296:=hs0;refine Qe0 (fun (out:List Resize) (i:Nat)=>QU2 (Q82 id_ (List.drop i l) out i).1 (Q82 id_ (List.drop i l) out i).2=R∧i<=l.length∧out.length<=i) (fun out i=>l.length - i) (fun out i=>[(0,Qp1 l),(1,I id_),(4,AVal.lit (.slice none 0 0)),(5,AVal.own 0 0 5 0 out.length),(6,I (i:Int))]) (fun out i=>[(0,AObj.row 49 5 (out.map Resize.cells))]) [] 0 ((Qx1 49 5).trans (wkA [0])) ⟨foll hR rfl,by exact omA,by exact exA⟩ ?_;clear hR;rintro out i ⟨hR,hj,hx⟩;(try dsimp only at hR hj hx);refine ai (fun h1=>?_) (fun h2=>?_)
 ·have hlt:=ltA h1;rw [Qc0 Resize.zero hlt] at hR;refine ai gkA ?_;refine ai (fun h3=>?_) (fun h4=>?_)
  ·refine ai gkA ?_;refine Or.inl ?_;(first|refine ⟨Qo1 40 rfl lnA apA,?_⟩|refine ⟨QI0 40 rfl apA,?_⟩);exact Q60 (out++([(l.getD i Resize.zero)]:List Resize)) (i+1) (wkA [0]) omA ⟨foll hR (congrArg (fun p:(List Resize) × Nat=>QU2 p.1 p.2) (ct h3 rfl)),by exact omA,by exact exA⟩
  ·exact Q60 out (i+1) (wkA [0]) omA ⟨foll hR (congrArg (fun p:(List Resize) × Nat=>QU2 p.1 p.2) (cf h4 rfl)),by exact omA,by exact exA⟩
 ·rw [Qd0 (l:=l) (j:=i) (geA h2)] at hR;replace hR:QU2 out i=R:=fo2 (fun p:(List Resize) × Nat=>QU2 p.1 p.2) (out,i) hR rfl;obtain rfl:=foll hR rfl;exact Q80 lw (Q90 Resize.zero _ rfl eqA lnA)
def Qi5 (a:Int) (b:Int):Int:=(wu64 (a - (wu64 (BitVec.ofInt 64 a &&& BitVec.ofInt 64 b).toNat)))
theorem Qxc (a:Int) (b:Int):GV 67 [U a,U b] (U (Qi5 a b)):=by
 generalize hR:Qi5 a b=R;refine gA (kp 5 []) Tryz.func67 ?_;exact lfA
def Q52 (id_:Int) (set_:Int):Nat->Nat->List Job->Nat × (List Job)
 | 0,_,_=>(0,[])
 | m+1,i,c=>bif (decide ((i:Int)<(c.length:Int))) then bif ((c.getD i Job.zero).id==id_) then Q52 id_ set_ m (i+1) (c.set i { (c.getD i Job.zero) with nodes:=set_ }) else Q52 id_ set_ m (i+1) c else (i,c)
def QV3 (i:Nat) (c:List Job):(List Job):=c
def Qb6 (l:List Job) (id_:Int) (set_:Int):(List Job):=QV3 ((Q52 id_ set_ ((Int.toNat ((l.length:Int) - (0:Int)))+1) 0 l).1) ((Q52 id_ set_ ((Int.toNat ((l.length:Int) - (0:Int)))+1) 0 l).2)
theorem ref26_Nodes_c (l:List Job) (id_:Int) (set_:Int) (hs0:l.length<=4294967296∧(∀ y ∈ l,y.sz)):GV 68 [jobL l,I id_,U set_] (jobL (Qb6 l id_ set_)):=by
 generalize hR:Qb6 l id_ set_=R;refine gA (kp 9 [15,24]) Tryz.func68 ?_;obtain ⟨z5,z6⟩:=id hs0;(first|refine ⟨Qo1 216 rfl lnA apA,?_⟩|refine ⟨QI0 216 rfl apA,?_⟩);refine Qe0 (fun (i:Nat) (c:List Job)=>∃ m,(Int.toNat ((c.length:Int) - (i:Int)))<m∧QV3 (Q52 id_ set_ m i c).1 (Q52 id_ set_ m i c).2=R∧c.length=l.length) (fun i c=>(Int.toNat ((c.length:Int) - (i:Int)))) (fun i c=>[(1,I id_),(2,U set_),(6,AVal.lit (.slice none 0 0)),(7,AVal.own 0 0 20 0 c.length),(8,I (i:Int))]) (fun i c=>[(0,AObj.row 72 20 (c.map Job.cells))]) 0 l (wkA [0]) ⟨_,Nat.lt_succ_self _,foll hR rfl,by exact exA⟩ ?_;clear hR;rintro i c ⟨m,hm,hR,hx⟩;(try dsimp only at hR hm hx);obtain ⟨m,rfl⟩:=sucA m;refine ai (fun h1=>?_) (fun h2=>?_)
 ·have qh1:=of_decide_eq_true h1;refine ai gkA ?_;refine ⟨_,QQ0 rfl rfl rfl (Q21 Job.zero i (by first|rfl|exact Nat.zero_add _|omega) ckA) rfl,?_⟩;refine ai (fun h3=>?_) (fun h4=>?_)
  ·refine ai gkA ?_;refine ⟨_,Qu2 rfl rfl rfl rfl (Q21 Job.zero i (by first|rfl|exact Nat.zero_add _|omega) ckA) rfl rfl (Qld i { (c.getD i Job.zero) with nodes:=set_ } (by first|rfl|exact Nat.zero_add _|omega) rfl),?_⟩;exact Q60 (i+1) (c.set i { (c.getD i Job.zero) with nodes:=set_ }) (wkA [0]) omA ⟨m,by exact omA,foll hR (congrArg (fun p:Nat × (List Job)=>QV3 p.1 p.2) (ct h1 (ct h3 rfl))),by exact exA⟩
  ·exact Q60 (i+1) c (wkA [0]) omA ⟨m,by exact omA,foll hR (congrArg (fun p:Nat × (List Job)=>QV3 p.1 p.2) (ct h1 (cf h4 rfl))),by exact exA⟩
 ·have qh2:=of_decide_eq_false h2;replace hR:QV3 i c=R:=fo2 (fun p:Nat × (List Job)=>QV3 p.1 p.2) (i,c) hR (cf h2 rfl);obtain rfl:=foll hR rfl;exact Q80 lw (Q90 Job.zero _ rfl eqA lnA)
def Q79 (j:Job):Bool:=(((((Qdc j.shape)&&(decide ((j.after.length:Int)<=100)))&&(decide ((ByteArray.size j.name:Int)<=1000)))&&(decide ((ByteArray.size j.user:Int)<=1000)))&&(decide ((ByteArray.size j.account:Int)<=1000)))
theorem law14_Few_c (j:Job):GV 84 [Job.a j] (Bo (Q79 j)):=by
 generalize hR:Q79 j=R;refine gA (kp 3 []) Tryz.func84 ?_;refine us (law07_Few_c j.shape _) ?_;exact lfA
def Q40 (s:Int):Int:=(QU5 s)
theorem Qc1 (s:Int):GV 23 [U s] (I (Q40 s)):=by
 generalize hR:Q40 s=R;refine gA (kp 3 []) Tryz.func23 ?_;refine us (QRb s _) ?_;exact lfA
theorem Qce (s:Int):0<=Q40 s∧Q40 s<=127:=by
 have h:∀ a:BitVec 64,0<=w64 ((a &&& BitVec.ofInt 64 127).toNat:Int)∧w64 ((a &&& BitVec.ofInt 64 127).toNat:Int)<=127:=by
  intro a
  have:(a &&& BitVec.ofInt 64 127).toNat<=127:=by rw [BitVec.toNat_and];exact Nat.and_le_right
  have e:w64 ((a &&& BitVec.ofInt 64 127).toNat:Int)=((a &&& BitVec.ofInt 64 127).toNat:Int):=wr (by omega)
  rw [e]
  omega
 exact h _
def QF0 (s:List Node) (f:Node->Bool):Bool:=(decide ((Qg2 s f) >= 0))
def Qw1 (s:List Int) (v:Int):Bool:=(decide ((QK7 s v) >= 0))
theorem Qf2 (s:List Int) (v:Int) (hs0:s.length<=4294967296):GV 93 [ints s,I v] (Bo (Qw1 s v)):=by
 generalize hR:Qw1 s v=R;refine gA (kp 5 []) Tryz.func93 ?_;have hk0:=hs0;obtain z1:s.length<=4294967296:=hs0;refine us (QMc s v szA _) ?_;exact lfA
def Qh4 (n:Int):Int:=(QN5 n 0 1000000000000)
theorem QJ9 (n:Int):GV 180 [I n] (I (Qh4 n)):=by
 generalize hR:Qh4 n=R;refine gA (kp 3 []) Tryz.func180 ?_;refine us (Qje n 0 1000000000000 _) ?_;exact lfA
def QU0 (s:List Alt) (f:Alt->Bool):Bool:=(decide ((Q31 s f) >= 0))
def QYc (n:Int):Bool:=(Qx2 n 1 100000)
theorem cmd_length_c (n:Int):GV 265 [I n] (Bo (QYc n)):=by
 generalize hR:QYc n=R;refine gA (kp 3 []) Tryz.func265 ?_;refine us (Q93 n 1 100000 _) ?_;exact lfA
def QM5 :List (Nat × Int)->Nat->Int × Int
 | [],n=>((n:Int),0)
 | x_ :: r,n=>bif ((Qe1 x_.2)==0) then ((n:Int),40) else QM5 r (n+1)
def Qs4 (s:ByteArray):Int × Int:=QM5 (Qm7 s) 0
theorem QDc (s:ByteArray) (hs0:s.size<=4294967296):GV 293 [Sg s] (AVal.tup [I ((Qs4 s).1),I ((Qs4 s).2)]):=by
 generalize hR:Qs4 s=R;refine gA (kp 7 [8,9,10,14]) Tryz.func293 ?_;have hk0:=hs0;obtain z5:s.size<=4294967296:=hs0;refine Qe0 (fun (n:Nat) (pos:Nat)=>∃ m,ByteArray.size s - pos<=m∧QM5 (Q34 s m pos) n=R∧n<=pos) (fun n pos=>ByteArray.size s - pos) (fun n pos=>[(2,I 0),(3,I 0),(4,I (n:Int)),(8,AVal.ptr 0 0 1 0 0)]) (fun n pos=>[(0,AObj.other (.strIter s pos))]) 0 0 (wkA [0]) ⟨ByteArray.size s,by exact omA,foll hR rfl,by exact exA⟩ ?_;clear hR;rintro n pos ⟨m,hm,hR,hx⟩;(try dsimp only at hR hm hx);refine ai (fun h1=>?_) (fun h2=>?_)
 ·have hlt:=of_decide_eq_true h1;have hw:=Q28 s pos;have hwe:=Q18 s pos hlt;obtain ⟨m,rfl⟩:=sucA m;rw [Q53 h1] at hR;refine ai (fun _=>?_) (fun h=>nomatch h);refine us (Qt4 ((pos,((Utf8.decode s pos).1:Int)).2) _) ?_;refine ai (fun h3=>?_) (fun h4=>?_)
  ·exact lfA
  ·exact Q60 (n+1) (pos+(Utf8.decode s pos).2) (wkA [0]) omA ⟨m,by exact omA,foll hR (cf h4 rfl),by exact exA⟩
 ·rw [Qn5 h2] at hR;refine ai (fun h=>nomatch h) (fun _=>?_);exact lfA
def Qj0 (y:Int):List Int->Nat->Bool
 | [],_=>((false||(y==45))||(y==95))
 | x_ :: r,i=>bif ((Qe1 y)==x_) then true else Qj0 y r (i+1)
def Q22 (r_:LexReader):Token × LexReader:=((⟨1,(Q67 ((Q10 r_ (fun (y:Int)=>Qj0 y ([2,3]:List Int) 0)).1)),0,0⟩:Token),(Q10 r_ (fun (y:Int)=>Qj0 y ([2,3]:List Int) 0)).2)
theorem Q7d (r_:LexReader) (hs0:r_.sz) (hp0:0<=r_.at_∧r_.at_<=(r_.line.length:Int)∧r_.line.length<=400):AMoves Tryz.prog 316 [AVal.ptr 0 0 4 0 0] [(0,AObj.row 321 4 [[runes r_.line,I r_.at_,I r_.bad,I r_.error]])] 1 (Token.a ((Q22 r_).1)) [(0,AObj.row 321 4 [[runes ((Q22 r_).2.line),I ((Q22 r_).2.at_),I ((Q22 r_).2.bad),I ((Q22 r_).2.error)]])]:=by
 generalize hR:Q22 r_=R;refine mo (kp 5 []) Tryz.func316 ?_;have hk0:=hs0;obtain z7:r_.line.length<=4294967296:=hs0;refine Or.inl ?_;refine ACalls.of_cwp (fun _=>true) Tryz.func306 rfl rfl ?_;refine ⟨_,_,Told.refl,?_⟩;have cl1:∀ (y1:Int),AMoves Tryz.prog 330 [J y1,AVal.ptr 1 0 1 0 0] [(0,AObj.row 52 1 [[ints ([2,3]:List Int)]]),(0,AObj.row 322 1 [[AVal.fn (.func 315) [] [AVal.ptr 0 0 1 0 0]]])] 2 (Bo ((fun (y:Int)=>Qj0 y ([2,3]:List Int) 0) y1)) [(0,AObj.row 52 1 [[ints ([2,3]:List Int)]]),(0,AObj.row 322 1 [[AVal.fn (.func 315) [] [AVal.ptr 0 0 1 0 0]]])]:=by
  intro y1;have hR:(fun (y:Int)=>Qj0 y ([2,3]:List Int) 0) y1=(fun (y:Int)=>Qj0 y ([2,3]:List Int) 0) y1:=rfl;refine mo (kp 4 []) Tryz.func330 ?_;refine ACalls.of_cwp (fun _=>true) Tryz.func315 rfl rfl ?_;refine Qg0 (fun (i:Nat)=>Qj0 y1 (List.drop i ([2,3]:List Int)) i=(fun (y:Int)=>Qj0 y ([2,3]:List Int) 0) y1∧i<=([2,3]:List Int).length) (fun i=>([2,3]:List Int).length - i) (fun i=>[(0,J y1),(3,Bo false),(6,ints ([2,3]:List Int)),(7,I (([2,3]:List Int).length:Int)),(8,I (i:Int))]) (fun i=>[(0,AObj.row 52 1 [[ints ([2,3]:List Int)]]),(0,AObj.row 322 1 [[AVal.fn (.func 315) [] [AVal.ptr 0 0 1 0 0]]])]) 0 (wkA [0,1]) ⟨foll hR rfl,by exact omA⟩ ?_;clear hR;rintro i ⟨hR,hj⟩;(try dsimp only at hR hj);refine ai (fun h1=>?_) (fun h2=>?_)
  ·(have hlt:i<([2,3]:List Int).length:=by have:=of_decide_eq_true h1;omega);rw [Qc0 0 hlt] at hR;refine ai gkA ?_;refine us (Qt4 y1 _) ?_;refine ai (fun h3=>?_) (fun h4=>?_)
   ·refine ⟨_,_,Told.refl,?_⟩;refine Qt0 (fun r:Bool=>Bo r) (fun _=>[(0,AObj.row 52 1 [[ints ([2,3]:List Int)]]),(0,AObj.row 322 1 [[AVal.fn (.func 315) [] [AVal.ptr 0 0 1 0 0]]])]) (leaf:=true) (foll hR (ct h3 rfl)) ?_;exact tt [0,1] (tO rfl (ts (lv lw LowL.nil)) (tO rfl (QN2 (cv (QM7 .nil (cv (Qg1 0 rfl rfl) .nil)) .nil)) .nil)) t1
   ·exact Ql0 (i+1) (wkA [0,1]) omA ⟨folA,by exact omA⟩
  ·rw [Qd0 (l:=([2,3]:List Int)) (j:=i) (geA h2)] at hR;refine ⟨_,_,Told.refl,?_⟩;refine Qt0 (fun r:Bool=>Bo r) (fun _=>[(0,AObj.row 52 1 [[ints ([2,3]:List Int)]]),(0,AObj.row 322 1 [[AVal.fn (.func 315) [] [AVal.ptr 0 0 1 0 0]]])]) (leaf:=((false||(y1==45))||(y1==95))) (foll hR rfl) ?_;exact tt [0,1] (tO rfl (ts (lv lw LowL.nil)) (tO rfl (QN2 (cv (QM7 .nil (cv (Qg1 0 rfl rfl) .nil)) .nil)) .nil)) t1
 have hof1:AMoves Tryz.prog 307 [AVal.ptr 0 0 4 0 0,AVal.fn (.func 330) [] [AVal.ptr 2 0 1 0 0]] [(0,AObj.row 321 4 [[runes r_.line,I r_.at_,I r_.bad,I r_.error]]),(0,AObj.row 52 1 [[ints ([2,3]:List Int)]]),(0,AObj.row 322 1 [[AVal.fn (.func 315) [] [AVal.ptr 1 0 1 0 0]]])] 3 (Sg ((Q10 r_ (fun (y:Int)=>Qj0 y ([2,3]:List Int) 0)).1)) [(0,AObj.row 321 4 [[runes (((Q10 r_ (fun (y:Int)=>Qj0 y ([2,3]:List Int) 0)).2).line),I (((Q10 r_ (fun (y:Int)=>Qj0 y ([2,3]:List Int) 0)).2).at_),I (((Q10 r_ (fun (y:Int)=>Qj0 y ([2,3]:List Int) 0)).2).bad),I (((Q10 r_ (fun (y:Int)=>Qj0 y ([2,3]:List Int) 0)).2).error)]]),(0,AObj.row 52 1 [[ints ([2,3]:List Int)]]),(0,AObj.row 322 1 [[AVal.fn (.func 315) [] [AVal.ptr 1 0 1 0 0]]])]:=by
  have hR:Q10 r_ (fun (y:Int)=>Qj0 y ([2,3]:List Int) 0)=Q10 r_ (fun (y:Int)=>Qj0 y ([2,3]:List Int) 0):=rfl;refine mo (kp 6 [33]) Tryz.func307 ?_;refine Qg0 (fun (c:LexReader)=>∃ m,(Int.toNat ((c.line.length:Int) - c.at_))<m∧QE0 r_ (QD0 (fun (y:Int)=>Qj0 y ([2,3]:List Int) 0) m c)=Q10 r_ (fun (y:Int)=>Qj0 y ([2,3]:List Int) 0)∧0<=c.at_∧c.at_<=(c.line.length:Int)∧c.line.length<=400∧r_.at_<=c.at_∧0<=r_.at_) (fun c=>(Int.toNat ((c.line.length:Int) - c.at_))) (fun c=>[(0,AVal.ptr 0 0 4 0 0),(1,AVal.fn (.func 330) [] [AVal.ptr 2 0 1 0 0]),(4,Sg ⟨#[]⟩),(5,I r_.at_)]) (fun c=>[(0,AObj.row 321 4 [[runes c.line,I c.at_,I c.bad,I c.error]]),(0,AObj.row 52 1 [[ints ([2,3]:List Int)]]),(0,AObj.row 322 1 [[AVal.fn (.func 315) [] [AVal.ptr 1 0 1 0 0]]])]) r_ (wkA [0,1,2]) ⟨_,Nat.lt_succ_self _,foll hR rfl,by exact exA⟩ ?_;clear hR;rintro c ⟨m,hm,hR,hx⟩;(try dsimp only at hR hm hx);obtain ⟨m,rfl⟩:=sucA m;refine dchk (by kernel_rfl) ?_;refine ai gkA ?_;(first|apply u2|apply u3|apply u4|apply us);exact mv [1,2] (cl1 (c.line.getD (Int.toNat c.at_) 0)) (dO (ds (lv lw LowL.nil)) (dO (dc (dv (dn_fn .nil (dp .nil)) .nil)) .nil)) (d1 (dp .nil)) (rO (re (lv lw LowL.nil)) (rO (rc (rv (ren_fn .nil (.cons _ _ _ _ (rp 1 0 rfl) .nil)) .nil)) .nil)) rx;(repeat ((first|refine ai rfl ?_|refine ai (fun _=>rfl) ?_)));refine ai (fun h5=>?_) (fun h6=>?_)
  ·have hq1:=of_decide_eq_true ((Bool.and_eq_true _ _).mp h5).1;have hwr:w64 (c.at_+1)=c.at_+1:=wr (by omega);exact Ql0 { c with at_:=(w64 (c.at_+1)) } (wk [0,1,2] (tO rfl (ts LexReader.lo) (tO rfl (ts (lv lw LowL.nil)) (tO rfl (QN2 (cv (QM7 .nil (cv (Qg1 1 rfl rfl) .nil)) .nil)) .nil))) (sv (Qg1 0 rfl rfl) (sv (QM7 .nil (cv (Qg1 2 rfl rfl) .nil)) (s1 (s1 .nil))))) omA ⟨m,by exact omA,foll hR (congrArg (fun p:LexReader=>QE0 r_ p) (ct h5 rfl)),by exact exA⟩
  ·replace hR:QE0 r_ c=Q10 r_ (fun (y:Int)=>Qj0 y ([2,3]:List Int) 0):=fo2 (fun p:LexReader=>QE0 r_ p) (c) hR (cf h6 rfl);refine dchk (by kernel_rfl) ?_;refine ai gkA ?_;(first|refine ⟨(List.drop (Int.toNat r_.at_) (List.take (Int.toNat c.at_) c.line)),by exact cvA,?_⟩|refine ⟨_,fun _=>⟨(List.drop (Int.toNat r_.at_) (List.take (Int.toNat c.at_) c.line)),by exact cvA,rfl,rfl⟩,?_⟩|refine ⟨_,rfl,⟨(List.drop (Int.toNat r_.at_) (List.take (Int.toNat c.at_) c.line)),by exact cvA,Sub.refl _,rfl⟩,?_⟩);(repeat ((first|refine ai rfl ?_|refine ai (fun _=>rfl) ?_)));refine Qt0 (fun r:ByteArray × LexReader=>Sg r.1) (fun r:ByteArray × LexReader=>[(0,AObj.row 321 4 [[runes r.2.line,I r.2.at_,I r.2.bad,I r.2.error]]),(0,AObj.row 52 1 [[ints ([2,3]:List Int)]]),(0,AObj.row 322 1 [[AVal.fn (.func 315) [] [AVal.ptr 1 0 1 0 0]]])]) (leaf:=((runesBytes (List.drop (Int.toNat r_.at_) (List.take (Int.toNat c.at_) c.line))),c)) (foll hR rfl) ?_;exact tt [0,1,2] (tO rfl (ts LexReader.lo) (tO rfl (ts (lv lw LowL.nil)) (tO rfl (QN2 (cv (QM7 .nil (cv (Qg1 1 rfl rfl) .nil)) .nil)) .nil))) t1
 refine us (mv [0,2,3] (hof1) (dO (ds LexReader.lo) (dO (dc (dv (dn_as (QA5 (c:=(fun q_=>[I q_])) (d:=0) ([2,3]:List Int) rfl) lw) .nil)) (dO (dc (dv (dn_fn .nil (dp .nil)) .nil)) .nil))) (dp (dv (dn_fn .nil (dp .nil)) .nil)) (rO (re LexReader.lo) (rO (re (lv lw LowL.nil)) (rO (rc (rv (ren_fn .nil (.cons _ _ _ _ (rp 2 0 rfl) .nil)) .nil)) .nil))) rx) ?_;refine us (runes_Lower_c ((Q10 r_ (fun (y:Int)=>Qj0 y ([2,3]:List Int) 0)).1) (by first|(exact Qia _ _ hp0.2.2)|exact szA) _) ?_;obtain rfl:=foll hR rfl;exact rq (ttA [0])
def QFa (s:ByteArray):Int × Unit:=((Qz9 s).1,())
theorem strconv_Atoi_c (s:ByteArray) (hs0:s.size<=4294967296) (hp0:atoiOK s):GV 343 [Sg s] (AVal.tup [I ((QFa s).1),AVal.lit .nilIface]):=by
 generalize hR:QFa s=R;refine gA (kp 6 [12]) Tryz.func343 ?_;have hk0:=hs0;obtain z1:s.size<=4294967296:=hs0;refine us (Q7f s szA ckA _) ?_;refine ai (fun h=>nomatch h) (fun _=>?_);exact lfA
def Ql1 (x_:Int) (held:Bool):Bool × Bool:=bif (((Qe1 x_)==0)||((x_==34)&&(!held))) then (false,held) else (true,((x_==92)&&(!held)))
theorem Q3b (x_:Int) (held:Bool):AMoves Tryz.prog 335 [J x_,AVal.ptr 0 0 1 0 0] [(0,AObj.row 4 1 [[Bo held]])] 1 (Bo ((Ql1 x_ held).1)) [(0,AObj.row 4 1 [[Bo ((Ql1 x_ held).2)]])]:=by
 generalize hR:Ql1 x_ held=R;refine mo (kp 4 [14]) Tryz.func335 ?_;refine us (Qt4 x_ _) ?_;refine ai (fun h1=>?_) (fun h2=>?_)
 ·obtain rfl:=foll hR (ct h1 rfl);exact rq (ttA [0])
 ·obtain rfl:=foll hR (cf h2 rfl);exact rq (ttA [0])
def QO0 (p_:List Int) (r_:Int):(List Int):=bif (decide ((wu32 r_)<=127)) then (p_++([(wu8 r_)]:List Int)) else (Qp2 p_ r_)
theorem Qpd (p_:List Int) (r_:Int) (hs0:p_.length<=4294967296):AMoves Tryz.prog 340 [AVal.own 0 0 1 0 p_.length,J r_] [(0,AObj.row 5 1 (p_.map (fun q_=>[Y q_])))] 0 (AVal.own 0 0 1 0 (QO0 p_ r_).length) [(0,AObj.row 5 1 ((QO0 p_ r_).map (fun q_=>[Y q_])))]:=by
 generalize hR:QO0 p_ r_=R;refine mo (kp 5 [7]) Tryz.func340 ?_;have hk0:=hs0;obtain z3:p_.length<=4294967296:=hs0;refine ai (fun h1=>?_) (fun h2=>?_)
 ·have qh1:=of_decide_eq_true h1;refine Or.inl ?_;(first|refine ⟨Qo1 1 rfl lnA apA,?_⟩|refine ⟨QI0 1 rfl apA,?_⟩);obtain rfl:=foll hR (ct h1 rfl);exact rq (ttA [0])
 ·have qh2:=of_decide_eq_false h2;refine us (mv [0] (QW8 p_ r_ szA) (dO (dr eqA) .nil) (dv (Q56 rfl lnA) (d1 .nil)) (rO rr .nil) (rw_ 1 0 rfl)) ?_;obtain rfl:=foll hR (cf h2 rfl);exact rq (ttA [1])
theorem Qh6 (l:List Int) (r_:Int):∃ k,QO0 l r_=l++k∧1<=k.length∧k.length<=4∧Qr7 k:=by
 have h1:∀ a:Int,Qr7 [wu8 a]:=fun a=>Q46 (wu8_in a) QJa
 have h2:∀ a b:Int,Qr7 [wu8 a,wu8 b]:=fun a b=>Q46 (wu8_in a) (h1 b)
 have h3:∀ a b c:Int,Qr7 [wu8 a,wu8 b,wu8 c]:=fun a b c=>Q46 (wu8_in a) (h2 b c)
 have h4:∀ a b c d:Int,Qr7 [wu8 a,wu8 b,wu8 c,wu8 d]:=fun a b c d=>Q46 (wu8_in a) (h3 b c d)
 have hc:Qr7 [239,191,189]:=Q46 (by decide) (Q46 (by decide) (Q46 (by decide) QJa))
 unfold QO0
 cases (decide ((wu32 r_)<=127)) with
 | true=>exact ⟨_,rfl,by simp,by simp,h1 _⟩
 | false =>
  simp only [cond_false]
  unfold Qp2
  repeat' first
   | exact ⟨_,rfl,by simp,by simp,h2 _ _⟩
   | exact ⟨_,rfl,by simp,by simp,h3 _ _ _⟩
   | exact ⟨_,rfl,by simp,by simp,h4 _ _ _ _⟩
   | exact ⟨_,rfl,by simp,by simp,hc⟩
   | unfold Qw2
   | (rw [Bool.cond_eq_ite];split)
theorem QJ8 (l:List Int) (r_:Int):(QO0 l r_).length ≠ 0:=by
 obtain ⟨k,e,h,_⟩:=Qh6 l r_
 rw [e,List.length_append]
 omega
theorem QNb (l:List Int) (r_:Int):(QO0 l r_).length<=l.length+4:=by
 obtain ⟨k,e,_,h,_⟩:=Qh6 l r_
 rw [e,List.length_append]
 omega
theorem byteIn_rune (l:List Int) (r_:Int) (h:Qr7 l):Qr7 (QO0 l r_):=by
 obtain ⟨k,e,_,_,g⟩:=Qh6 l r_
 rw [e]
 exact byteIn_app h g
def Qs0 (s:List Dep) (f:Dep->Bool):Bool:=(decide ((Q41 s f) >= 0))
def Qtd (n:Int):Bool:=(Qx2 n 1 99999)
theorem Que (n:Int):GV 269 [I n] (Bo (Qtd n)):=by
 generalize hR:Qtd n=R;refine gA (kp 3 []) Tryz.func269 ?_;refine us (Q93 n 1 99999 _) ?_;exact lfA
def Qh9 (a:Shape) (b:Shape):Bool:=(((((a.kind==b.kind)&&(a.min==b.min))&&(a.max==b.max))&&(a.wall==b.wall))&&(Q06 a.alts b.alts))
theorem shape_Same_c (a:Shape) (b:Shape) (hs0:a.sz) (hs1:b.sz):GV 270 [Shape.a a,Shape.a b] (Bo (Qh9 a b)):=by
 generalize hR:Qh9 a b=R;refine gA (kp 5 []) Tryz.func270 ?_;have hk0:=hs0;obtain z1:a.alts.length<=4294967296:=hs0;have hk1:=hs1;obtain z2:b.alts.length<=4294967296:=hs1;(first|apply u2|apply u3|apply u4|apply us);exact QKc a.alts b.alts szA szA _;exact lfA
def Qo4 (v:Job):Bool:=(((((((v.nodes==0)&&(Qh2 v.start))&&(Qh2 v.limit))&&(decide (v.promise >= (-1))))&&(decide (v.promise<=1000000)))&&(decide (v.choice >= 0)))&&(decide (v.choice<=48)))
theorem Q8f (v:Job):GV 195 [Job.a v] (Bo (Qo4 v)):=by
 generalize hR:Qo4 v=R;refine gA (kp 3 []) Tryz.func195 ?_;(first|apply u2|apply u3|apply u4|apply us);exact Ql6 v.start _;(first|apply u2|apply u3|apply u4|apply us);exact Ql6 v.limit _;exact lfA
def Qp3 (n:Int):Int:=bif (decide (n<=0)) then 0 else bif (decide (n >= 64)) then 18446744073709551615 else (wu64 ((QM1 n) - 1))
theorem nodeset_All_c (n:Int):GV 261 [I n] (U (Qp3 n)):=by
 generalize hR:Qp3 n=R;refine gA (kp 3 [3,6]) Tryz.func261 ?_;refine ai (fun h1=>?_) (fun h2=>?_)
 ·have qh1:=of_decide_eq_true h1;exact lfA
 ·have qh2:=of_decide_eq_false h2;refine ai (fun h3=>?_) (fun h4=>?_)
  ·have qh3:=of_decide_eq_true h3;exact lfA
  ·have qh4:=of_decide_eq_false h4;refine us (QB6 n _) ?_;exact lfA
def QQ7 (l:List Book):List Book->Nat->Int
 | [],_=>0
 | x_ :: r,i=>bif ((!(QX8 x_))||((decide ((i:Int) > 0))&&(decide ((l.getD (Int.toNat (w64 ((i:Int) - 1))) Book.zero).id >= x_.id)))) then 190 else QQ7 l r (i+1)
def QM6 (l:List Book):Int:=bif (decide ((l.length:Int) > 8)) then 190 else QQ7 l l 0
theorem book_Check_c (l:List Book) (hs0:l.length<=4294967296):GV 178 [bookL l] (I (QM6 l)):=by
 generalize hR:QM6 l=R;refine gA (kp 5 [7,8,9,10,11,32]) Tryz.func178 ?_;have hk0:=hs0;obtain z7:l.length<=4294967296:=hs0;refine ai (fun h1=>?_) (fun h2=>?_)
 ·have qh1:=of_decide_eq_true h1;exact lfA
 ·have qh2:=of_decide_eq_false h2;refine Qg0 (fun (i:Nat)=>QQ7 l (List.drop i l) i=R∧i<=l.length) (fun i=>l.length - i) (fun i=>[(0,bookL l),(2,I 0),(8,bookL l),(9,I (l.length:Int)),(10,I (i:Int))]) (fun i=>[]) 0 (wkA []) ⟨folA,by exact omA⟩ ?_;clear hR;rintro i ⟨hR,hj⟩;(try dsimp only at hR hj);refine ai (fun h3=>?_) (fun h4=>?_)
  ·have hlt:=ltA h3;rw [Qc0 Book.zero hlt] at hR;refine ai gkA ?_;refine dchk (by kernel_rfl) ?_;(first|apply u2|apply u3|apply u4|apply us);exact QIe (l.getD i Book.zero) _;refine ai gkA ?_;(repeat ((first|refine ai rfl ?_|refine ai (fun _=>rfl) ?_|refine ai (fun _=>QIe (l.getD i Book.zero) _) ?_)));refine ai (fun h5=>?_) (fun h6=>?_)
   ·exact lfA
   ·exact Ql0 (i+1) (wkA []) omA ⟨folA,by exact omA⟩
  ·rw [Qd0 (l:=l) (j:=i) (geA h4)] at hR;exact lfA
def QY0 (x_:ByteArray) (y:ByteArray):Int:=bif (Qw3 x_) then bif (Qw3 y) then 0 else (-1) else bif (Qw3 y) then 1 else bif (Op.bytesLess (ByteArray.toList x_) (ByteArray.toList y)) then (-1) else bif (!((Op.bytesLess (ByteArray.toList x_) (ByteArray.toList y))||(ByteArray.toList x_==ByteArray.toList y))) then 1 else 0
theorem Q04 (x_:ByteArray) (y:ByteArray):GV 233 [Sg x_,Sg y] (I (QY0 x_ y)):=by
 generalize hR:QY0 x_ y=R;refine gA (kp 7 [11,12,13,16,19]) Tryz.func233 ?_;refine us (QB8 x_ _) ?_;refine us (QB8 y _) ?_;refine ai (fun h1=>?_) (fun h2=>?_)
 ·refine ai (fun h3=>?_) (fun h4=>?_)
  ·exact lfA
  ·exact lfA
 ·refine ai (fun h5=>?_) (fun h6=>?_)
  ·exact lfA
  ·refine ai (fun h7=>?_) (fun h8=>?_)
   ·exact lfA
   ·refine ai (fun h9=>?_) (fun h10=>?_)
    ·exact lfA
    ·exact lfA
def QA1 (s:Int):Nat->List Int->Nat->(List Int)
 | 0,_,_=>[]
 | m+1,out,i=>bif (decide ((i:Int)<64)) then bif ((wu64 (BitVec.ofInt 64 s &&& BitVec.ofInt 64 (QM1 (i:Int))).toNat)!=0) then QA1 s m (out++([(i:Int)]:List Int)) (i+1) else QA1 s m out (i+1) else out
def QK2 (out:List Int):(List Int):=out
def Qm0 (s:Int):(List Int):=QK2 (QA1 s ((Int.toNat (64 - (0:Int)))+1) [] 0)
theorem Qeb (s:Int):GV 19 [U s] (ints (Qm0 s)):=by
 generalize hR:Qm0 s=R;refine gA (kp 5 [5,6,12]) Tryz.func19 ?_;refine Qe0 (fun (out:List Int) (i:Nat)=>∃ m,(Int.toNat (64 - (i:Int)))<m∧QK2 (QA1 s m out i)=R∧out.length<=i) (fun out i=>(Int.toNat (64 - (i:Int)))) (fun out i=>[(0,U s),(2,AVal.lit (.slice none 0 0)),(3,AVal.own 0 0 1 0 out.length),(5,I (i:Int))]) (fun out i=>[(0,AObj.row 3 1 (out.map (fun q_=>[I q_])))]) [] 0 ((Qx1 3 1).trans (wkA [0])) ⟨_,Nat.lt_succ_self _,foll hR rfl,by exact exA⟩ ?_;clear hR;rintro out i ⟨m,hm,hR,hx⟩;(try dsimp only at hR hm hx);obtain ⟨m,rfl⟩:=sucA m;refine ai (fun h1=>?_) (fun h2=>?_)
 ·have qh1:=of_decide_eq_true h1;refine us (QB6 (i:Int) _) ?_;refine ai (fun h3=>?_) (fun h4=>?_)
  ·refine Or.inl ?_;(first|refine ⟨Qo1 8 rfl lnA apA,?_⟩|refine ⟨QI0 8 rfl apA,?_⟩);exact Q60 (out++([(i:Int)]:List Int)) (i+1) (wkA [0]) omA ⟨m,by exact omA,foll hR (congrArg (fun p:(List Int)=>QK2 p) (ct h1 (ct h3 rfl))),by exact exA⟩
  ·exact Q60 out (i+1) (wkA [0]) omA ⟨m,by exact omA,foll hR (congrArg (fun p:(List Int)=>QK2 p) (ct h1 (cf h4 rfl))),by exact exA⟩
 ·have qh2:=of_decide_eq_false h2;replace hR:QK2 out=R:=fo2 (fun p:(List Int)=>QK2 p) (out) hR (cf h2 rfl);obtain rfl:=foll hR rfl;exact Q80 lw (Q90 0 _ rfl eqA lnA)
theorem QV6 (s:Int):∀ (m:Nat) (out:List Int) (i:Nat),(∀ x ∈ out,0<=x∧x<64) -> ∀ x ∈ QA1 s m out i,0<=x∧x<64
 | 0,_,_,_,x,hx=>by simp [QA1] at hx
 | m+1,out,i,h,x,hx=>by
  rw [QA1] at hx
  cases hd:decide ((i:Int)<64) with
  | false=>rw [hd] at hx;exact h x hx
  | true =>
   rw [hd] at hx
   have hi:=of_decide_eq_true hd
   simp only [cond_true] at hx
   cases hb:((wu64 (BitVec.ofInt 64 s &&& BitVec.ofInt 64 (QM1 (i:Int))).toNat)!=0) with
   | false=>rw [hb] at hx;exact QV6 s m out (i+1) h x hx
   | true =>
    rw [hb] at hx
    refine QV6 s m _ (i+1) (fun y hy=>?_) x hx
    rcases List.mem_append.1 hy with hy|hy
    ·exact h y hy
    ·rw [List.mem_singleton.1 hy];omega
theorem Qee (s:Int):∀ x ∈ Qm0 s,0<=x∧x<64:=QV6 s _ _ _ (fun x hx=>nomatch hx)
theorem Qde (s:Int) {i:Nat} (h:i<(Qm0 s).length):0<=(Qm0 s).getD i 0∧(Qm0 s).getD i 0<64:=by
 have e:(Qm0 s).getD i 0=(Qm0 s)[i]:=by simp [List.getD,List.getElem?_eq_getElem h]
 rw [e]
 exact Qee s _ (List.getElem_mem h)
theorem QU6 (s:Int):∀ (m:Nat) (out:List Int) (i:Nat),out.length<=i->i<=64->(QA1 s m out i).length<=64
 | 0,_,_,_,_=>by simp [QA1]
 | m+1,out,i,h,h64=>by
  rw [QA1]
  cases hd:decide ((i:Int)<64) with
  | false=>simp only [cond_false];omega
  | true =>
   have hi:=of_decide_eq_true hd
   simp only [cond_true]
   cases ((wu64 (BitVec.ofInt 64 s &&& BitVec.ofInt 64 (QM1 (i:Int))).toNat)!=0) with
   | false=>exact QU6 s m out (i+1) (by omega) (by omega)
   | true=>exact QU6 s m _ (i+1) (by simp;omega) (by omega)
theorem QI7 (s:Int):(Qm0 s).length<=64:=QU6 s _ _ _ (by simp) (by omega)
def QE3 :List Int->Int->Nat->Int × Int
 | [],s,_=>(s,0)
 | x_ :: r,s,i=>bif (((decide (x_<0))||(decide (x_ >= 64)))||((wu64 (BitVec.ofInt 64 s &&& BitVec.ofInt 64 (QM1 x_)).toNat)!=0)) then (0,90) else QE3 r (wu64 (BitVec.ofInt 64 s ||| BitVec.ofInt 64 (QM1 x_)).toNat) (i+1)
def QH0 (l:List Int):Int × Int:=QE3 l 0 0
theorem Qy7 (l:List Int) (hs0:l.length<=4294967296):GV 60 [ints l] (AVal.tup [U ((QH0 l).1),I ((QH0 l).2)]):=by
 generalize hR:QH0 l=R;refine gA (kp 7 [7,8,9,10,25]) Tryz.func60 ?_;have hk0:=hs0;obtain z5:l.length<=4294967296:=hs0;refine Qe0 (fun (s:Int) (i:Nat)=>QE3 (List.drop i l) s i=R∧i<=l.length) (fun s i=>l.length - i) (fun s i=>[(2,U 0),(3,I 0),(4,U s),(7,ints l),(8,I (l.length:Int)),(9,I (i:Int))]) (fun s i=>[]) 0 0 (wkA []) ⟨foll hR rfl,by exact omA⟩ ?_;clear hR;rintro s i ⟨hR,hj⟩;(try dsimp only at hR hj);refine ai (fun h1=>?_) (fun h2=>?_)
 ·have hlt:=ltA h1;rw [Qc0 0 hlt] at hR;refine ai gkA ?_;(first|apply u2|apply u3|apply u4|apply us);exact QB6 (l.getD i 0) _;refine ai (fun h3=>?_) (fun h4=>?_)
  ·obtain rfl:=foll hR (ct h3 rfl);exact Q80 (Low.tup' (l1 (l1 .nil))) (Seen.tup (e1 (e1 .nil)))
  ·refine us (QB6 (l.getD i 0) _) ?_;exact Q60 (wu64 (BitVec.ofInt 64 s ||| BitVec.ofInt 64 (QM1 (l.getD i 0))).toNat) (i+1) (wkA []) omA ⟨foll hR (cf h4 rfl),by exact omA⟩
 ·rw [Qd0 (l:=l) (j:=i) (geA h2)] at hR;exact lfA
def Qu0 (s:Int) (n:Int):Bool:=(((decide (n >= 0))&&(decide (n<64)))&&((wu64 (BitVec.ofInt 64 s &&& BitVec.ofInt 64 (QM1 n)).toNat)!=0))
theorem QV7 (s:Int) (n:Int):GV 58 [U s,I n] (Bo (Qu0 s n)):=by
 generalize hR:Qu0 s n=R;refine gA (kp 5 []) Tryz.func58 ?_;(first|apply u2|apply u3|apply u4|apply us);exact QB6 n _;exact lfA
def state_Copy (s:State):State:=s
theorem state_Copy_c (s:State) (hs0:s.sz):GV 85 [State.a s] (State.a s):=by
 generalize hR:state_Copy s=R;refine gA (kp 4 [26,27,28]) Tryz.func85 ?_;have hk0:=hs0;obtain ⟨z8,z9,z10,z11,z12,z13,z14⟩:=hs0;refine dchk (by kernel_rfl) ?_;(first|apply u2|apply u3|apply u4|apply us);exact mv [] (Qy8 s.nodes szA) .nil (dl lw .nil) (rO rr .nil) (rw_ 2 0 rfl);(first|apply u2|apply u3|apply u4|apply us);exact mv [] (QH8 s.jobs szA) .nil (dl lw .nil) (rO rr .nil) (rw_ 3 0 rfl);(first|apply u2|apply u3|apply u4|apply us);exact mv [] (QE7 s.resizes szA) .nil (dl lw .nil) (rO rr .nil) (rw_ 4 0 rfl);(first|apply u2|apply u3|apply u4|apply us);exact mv [] (Qx8 s.books szA) .nil (dl lw .nil) (rO rr .nil) (rw_ 5 0 rfl);(first|apply u2|apply u3|apply u4|apply us);exact mv [] (QP7 s.ledger szA) .nil (dl lw .nil) (rO rr .nil) (rw_ 6 0 rfl);(repeat ((first|refine ai rfl ?_|refine ai (fun _=>rfl) ?_)));refine Qg0 (fun (i:Nat)=>True∧i<=s.jobs.length) (fun i=>s.jobs.length - i) (fun i=>[(1,AVal.ptr 0 0 8 0 0),(2,AVal.ptr 1 0 8 0 0),(26,I (s.jobs.length:Int)),(27,I (i:Int))]) (fun i=>[(0,AObj.row 28 8 [[I s.now,AVal.own 2 0 7 0 s.nodes.length,AVal.own 3 0 20 0 s.jobs.length,AVal.own 4 0 5 0 s.resizes.length,AVal.own 5 0 4 0 s.books.length,AVal.own 6 0 4 0 s.ledger.length,I s.nextJob,I s.nextBook]]),(0,AObj.row 28 8 [[I 0,AVal.lit (.slice none 0 0),AVal.lit (.slice none 0 0),AVal.lit (.slice none 0 0),AVal.lit (.slice none 0 0),AVal.lit (.slice none 0 0),I 0,I 0]]),(0,AObj.row 55 7 (s.nodes.map Node.cells)),(0,AObj.row 72 20 (s.jobs.map Job.cells)),(0,AObj.row 49 5 (s.resizes.map Resize.cells)),(0,AObj.row 122 4 (s.books.map Book.cells)),(0,AObj.row 138 4 (s.ledger.map Usage.cells))]) 0 (wkA [0,1,2,3,4,5,6]) ⟨trivial,by exact omA⟩ ?_;have hR0:=hR;rintro i ⟨hR,hj⟩;(try dsimp only at hR hj);refine ai (fun h1=>?_) (fun h2=>?_)
 ·have hlt:=ltA h1;have hxz:(s.jobs.getD i Job.zero).sz:=Q94 (by first|assumption|grind) (Job.szz _);have hkz:=hxz;obtain ⟨z3,z4,z5,z6,z7⟩:=Job.zz hxz;refine dchk (by kernel_rfl) ?_;refine ai gkA ?_;refine ⟨_,QQ0 rfl rfl rfl (Q21 Job.zero i (by first|rfl|exact Nat.zero_add _|omega) ckA) rfl,?_⟩;(first|apply u2|apply u3|apply u4|apply us);exact Q15 ((s.jobs.getD i Job.zero).shape.alts) szA _;refine ai gkA ?_;refine ⟨_,QQ0 rfl rfl rfl (Q21 Job.zero i (by first|rfl|exact Nat.zero_add _|omega) ckA) rfl,?_⟩;(first|apply u2|apply u3|apply u4|apply us);exact Q25 ((s.jobs.getD i Job.zero).after) szA _;refine ai gkA ?_;refine ⟨_,Qu2 rfl rfl rfl rfl (Q21 Job.zero i (by first|rfl|exact Nat.zero_add _|omega) ckA) rfl rfl (Qv6 Job.zero i (by first|rfl|exact Nat.zero_add _|omega) ckA rfl),?_⟩;refine ai gkA ?_;refine ⟨_,Qu2 rfl rfl rfl rfl (Q21 Job.zero i (by first|rfl|exact Nat.zero_add _|omega) ckA) rfl rfl (Qv6 Job.zero i (by first|rfl|exact Nat.zero_add _|omega) ckA rfl),?_⟩;(repeat ((first|refine ai rfl ?_|refine ai (fun _=>rfl) ?_|refine And.intro (QQ0 rfl rfl rfl (Q21 Job.zero i (by first|rfl|exact Nat.zero_add _|omega) ckA) rfl) ?_|refine ai (fun _=>Q15 ((s.jobs.getD i Job.zero).shape.alts) szA _) ?_|refine And.intro (QQ0 rfl rfl rfl (Q21 Job.zero i (by first|rfl|exact Nat.zero_add _|omega) ckA) rfl) ?_|refine ai (fun _=>Q25 ((s.jobs.getD i Job.zero).after) szA _) ?_)));exact Ql0 (i+1) (wkA [0,1,2,3,4,5,6]) omA ⟨hR,by exact omA⟩
 ·skip;have hR:=hR0;obtain rfl:=foll hR rfl;exact Q80 (State.low _ _) (Seen.agg (e1 (ev (Q90 Node.zero _ rfl eqA lnA) (ev (Q90 Job.zero _ rfl eqA lnA) (ev (Q90 Resize.zero _ rfl eqA lnA) (ev (Q90 Book.zero _ rfl eqA lnA) (ev (Q90 Usage.zero _ rfl eqA lnA) (e1 (e1 .nil)))))))))
theorem QDa (s:State) (hs0:s.sz):AMoves Tryz.prog 85 [State.a s] [] 0 (AVal.agg [I s.now,nodeL s.nodes,jobL s.jobs,AVal.own 0 0 5 0 s.resizes.length,bookL s.books,QD2 s.ledger,I s.nextJob,I s.nextBook]) [(0,AObj.row 49 5 (s.resizes.map Resize.cells))]:=by
 generalize hR:state_Copy s=R;refine mo (kp 4 [26,27,28]) Tryz.func85 ?_;have hk0:=hs0;obtain ⟨z8,z9,z10,z11,z12,z13,z14⟩:=hs0;refine dchk (by kernel_rfl) ?_;(first|apply u2|apply u3|apply u4|apply us);exact mv [] (Qy8 s.nodes szA) .nil (dl lw .nil) (rO rr .nil) (rw_ 2 0 rfl);(first|apply u2|apply u3|apply u4|apply us);exact mv [] (QH8 s.jobs szA) .nil (dl lw .nil) (rO rr .nil) (rw_ 3 0 rfl);(first|apply u2|apply u3|apply u4|apply us);exact mv [] (QE7 s.resizes szA) .nil (dl lw .nil) (rO rr .nil) (rw_ 4 0 rfl);(first|apply u2|apply u3|apply u4|apply us);exact mv [] (Qx8 s.books szA) .nil (dl lw .nil) (rO rr .nil) (rw_ 5 0 rfl);(first|apply u2|apply u3|apply u4|apply us);exact mv [] (QP7 s.ledger szA) .nil (dl lw .nil) (rO rr .nil) (rw_ 6 0 rfl);(repeat ((first|refine ai rfl ?_|refine ai (fun _=>rfl) ?_)));refine Qg0 (fun (i:Nat)=>True∧i<=s.jobs.length) (fun i=>s.jobs.length - i) (fun i=>[(1,AVal.ptr 0 0 8 0 0),(2,AVal.ptr 1 0 8 0 0),(26,I (s.jobs.length:Int)),(27,I (i:Int))]) (fun i=>[(0,AObj.row 28 8 [[I s.now,AVal.own 2 0 7 0 s.nodes.length,AVal.own 3 0 20 0 s.jobs.length,AVal.own 4 0 5 0 s.resizes.length,AVal.own 5 0 4 0 s.books.length,AVal.own 6 0 4 0 s.ledger.length,I s.nextJob,I s.nextBook]]),(0,AObj.row 28 8 [[I 0,AVal.lit (.slice none 0 0),AVal.lit (.slice none 0 0),AVal.lit (.slice none 0 0),AVal.lit (.slice none 0 0),AVal.lit (.slice none 0 0),I 0,I 0]]),(0,AObj.row 55 7 (s.nodes.map Node.cells)),(0,AObj.row 72 20 (s.jobs.map Job.cells)),(0,AObj.row 49 5 (s.resizes.map Resize.cells)),(0,AObj.row 122 4 (s.books.map Book.cells)),(0,AObj.row 138 4 (s.ledger.map Usage.cells))]) 0 (wkA [0,1,2,3,4,5,6]) ⟨trivial,by exact omA⟩ ?_;have hR0:=hR;rintro i ⟨hR,hj⟩;(try dsimp only at hR hj);refine ai (fun h1=>?_) (fun h2=>?_)
 ·have hlt:=ltA h1;have hxz:(s.jobs.getD i Job.zero).sz:=Q94 (by first|assumption|grind) (Job.szz _);have hkz:=hxz;obtain ⟨z3,z4,z5,z6,z7⟩:=Job.zz hxz;refine dchk (by kernel_rfl) ?_;refine ai gkA ?_;refine ⟨_,QQ0 rfl rfl rfl (Q21 Job.zero i (by first|rfl|exact Nat.zero_add _|omega) ckA) rfl,?_⟩;(first|apply u2|apply u3|apply u4|apply us);exact Q15 ((s.jobs.getD i Job.zero).shape.alts) szA _;refine ai gkA ?_;refine ⟨_,QQ0 rfl rfl rfl (Q21 Job.zero i (by first|rfl|exact Nat.zero_add _|omega) ckA) rfl,?_⟩;(first|apply u2|apply u3|apply u4|apply us);exact Q25 ((s.jobs.getD i Job.zero).after) szA _;refine ai gkA ?_;refine ⟨_,Qu2 rfl rfl rfl rfl (Q21 Job.zero i (by first|rfl|exact Nat.zero_add _|omega) ckA) rfl rfl (Qv6 Job.zero i (by first|rfl|exact Nat.zero_add _|omega) ckA rfl),?_⟩;refine ai gkA ?_;refine ⟨_,Qu2 rfl rfl rfl rfl (Q21 Job.zero i (by first|rfl|exact Nat.zero_add _|omega) ckA) rfl rfl (Qv6 Job.zero i (by first|rfl|exact Nat.zero_add _|omega) ckA rfl),?_⟩;(repeat ((first|refine ai rfl ?_|refine ai (fun _=>rfl) ?_|refine And.intro (QQ0 rfl rfl rfl (Q21 Job.zero i (by first|rfl|exact Nat.zero_add _|omega) ckA) rfl) ?_|refine ai (fun _=>Q15 ((s.jobs.getD i Job.zero).shape.alts) szA _) ?_|refine And.intro (QQ0 rfl rfl rfl (Q21 Job.zero i (by first|rfl|exact Nat.zero_add _|omega) ckA) rfl) ?_|refine ai (fun _=>Q25 ((s.jobs.getD i Job.zero).after) szA _) ?_)));exact Ql0 (i+1) (wkA [0,1,2,3,4,5,6]) omA ⟨hR,by exact omA⟩
 ·skip;have hR:=hR0;obtain rfl:=foll hR rfl;exact rq (tt [4] (tO rfl (tl eqA) .nil) (turn_agg (c1 (cv (Q98 _ _ rfl (Nat.zero_le _) (by decide) eqA (fun _=>Node.lowc _ _) lnA) (cv (Q98 _ _ rfl (Nat.zero_le _) (by decide) eqA (fun _=>Job.lowc _ _) lnA) (cv (to 0 lnA) (cv (Q98 _ _ rfl (Nat.zero_le _) (by decide) eqA (fun _=>Book.lowc _ _) lnA) (cv (Q98 _ _ rfl (Nat.zero_le _) (by decide) eqA (fun _=>Usage.lowc _ _) lnA) (c1 (c1 .nil))))))))))
def Qq0 (l:List Job) (id_:Int):Int × Bool:=((QN0 l id_ (fun (y:Job) (y1:Int)=>(w64 (y.id - y1)))).1,(QN0 l id_ (fun (y:Job) (y1:Int)=>(w64 (y.id - y1)))).2)
theorem b1a0 {P:Prop} (h:P:=by first|(dsimp only;rw [hh3];omega)|first|(dsimp only;rw [hh];omega)|exact exA):P:=h
theorem QQc (l:List Job) (id_:Int) (hs0:l.length<=4294967296∧(∀ y ∈ l,y.sz)):GV 127 [jobL l,I id_] (AVal.tup [I ((Qq0 l id_).1),Bo ((Qq0 l id_).2)]):=by
 generalize hR:Qq0 l id_=R;refine gA (kp 6 []) Tryz.func127 ?_;obtain ⟨z10,z11⟩:=id hs0;have cl1:∀ (y1:Job) (y2:Int) (hzy1:y1.sz),AMoves Tryz.prog 186 [Job.a y1,I y2] [] 0 (I ((fun (y:Job) (y1:Int)=>(w64 (y.id - y1))) y1 y2)) []:=by
  intro y1 y2 hzy1;have hky1:=hzy1;obtain ⟨z1,z2,z3,z4,z5⟩:=Job.zz hzy1;have hR:(fun (y:Job) (y1:Int)=>(w64 (y.id - y1))) y1 y2=(fun (y:Job) (y1:Int)=>(w64 (y.id - y1))) y1 y2:=rfl;refine mo (kp 5 []) Tryz.func186 ?_;refine Qt0 (fun r:Int=>I r) (fun _=>[]) (leaf:=(w64 (y1.id - y2))) (foll hR rfl) ?_;exact tt [] .nil t1
 have hof1:AMoves Tryz.prog 185 [jobL l,I id_,AVal.fn (.func 186) [] []] [] 0 (AVal.tup [I ((QN0 l id_ (fun (y:Job) (y1:Int)=>(w64 (y.id - y1)))).1),Bo ((QN0 l id_ (fun (y:Job) (y1:Int)=>(w64 (y.id - y1)))).2)]) []:=by
  have hR:QN0 l id_ (fun (y:Job) (y1:Int)=>(w64 (y.id - y1)))=QN0 l id_ (fun (y:Job) (y1:Int)=>(w64 (y.id - y1))):=rfl;refine mo (kp 12 [17,31]) Tryz.func185 ?_;refine Qe0 (fun (i:Int) (j:Int)=>∃ m,(Int.toNat (j - i))<m∧QX0 l id_ (fun (y:Job) (y1:Int)=>(w64 (y.id - y1))) (Qr0 l id_ (fun (y:Job) (y1:Int)=>(w64 (y.id - y1))) m i j).1 (Qr0 l id_ (fun (y:Job) (y1:Int)=>(w64 (y.id - y1))) m i j).2=QN0 l id_ (fun (y:Job) (y1:Int)=>(w64 (y.id - y1)))∧0<=i∧i<=j∧j<=(l.length:Int)) (fun i j=>(Int.toNat (j - i))) (fun i j=>[(0,jobL l),(1,I id_),(2,AVal.fn (.func 186) [] []),(6,I 0),(7,Bo false),(8,I (l.length:Int)),(9,I i),(10,I j)]) (fun i j=>[]) 0 (l.length:Int) (wkA []) ⟨_,Nat.lt_succ_self _,foll hR rfl,b1a0⟩ ?_;clear hR;rintro i j ⟨m,hm,hR,hx⟩;(try dsimp only at hR hm hx);obtain ⟨m,rfl⟩:=sucA m;refine ai (fun h6=>?_) (fun h7=>?_)
  ·have qh6:=of_decide_eq_true h6;(have hq0:i<j:=qh6;have hh:w64 (Int.fdiv (wu64 (w64 (i+j))) (2 ^ (min (Int.toNat 1) 64)))=(i+j) / 2:=Qfa hx.1 hq0 hx.2.2 (by omega);have hh3:w64 (w64 (Int.fdiv (wu64 (w64 (i+j))) (2 ^ (min (Int.toNat 1) 64)))+1)=(i+j) / 2+1:=by rw [hh];exact wr (by omega));refine And.intro (by first|exact fun hg=>decide_eq_true (by first|(show 0<=w64 (Int.fdiv (wu64 (w64 (i+j))) (2 ^ (min (Int.toNat 1) 64)))∧w64 (Int.fdiv (wu64 (w64 (i+j))) (2 ^ (min (Int.toNat 1) 64)))<(l.length:Int);rw [hh];omega)|exact ckA)|exact gkA) ?_;refine And.intro (by first|exact fun hg=>decide_eq_true (by first|(show 0<=w64 (Int.fdiv (wu64 (w64 (i+j))) (2 ^ (min (Int.toNat 1) 64)))∧w64 (Int.fdiv (wu64 (w64 (i+j))) (2 ^ (min (Int.toNat 1) 64)))<(l.length:Int);rw [hh];omega)|exact ckA)|exact gkA) ?_;refine us (mv [] (cl1 (l.getD (Int.toNat (w64 (Int.fdiv (wu64 (w64 (i+j))) (2 ^ (min (Int.toNat 1) 64))))) Job.zero) id_ szA) .nil (dl (Job.low _ _) (d1 .nil)) .nil rx) ?_;refine ai (fun h8=>?_) (fun h9=>?_)
   ·have qh8:=of_decide_eq_true h8;exact Q60 (w64 ((w64 (Int.fdiv (wu64 (w64 (i+j))) (2 ^ (min (Int.toNat 1) 64))))+1)) j (wkA []) (by first|(dsimp only;rw [hh3];omega)|first|(dsimp only;rw [hh];omega)|exact omA) ⟨m,by first|(dsimp only;rw [hh3];omega)|first|(dsimp only;rw [hh];omega)|exact omA,foll hR (congrArg (fun p:Int × Int=>QX0 l id_ (fun (y:Job) (y1:Int)=>(w64 (y.id - y1))) p.1 p.2) (ct h6 (ct h8 rfl))),b1a0⟩
   ·have qh9:=of_decide_eq_false h9;exact Q60 i (w64 (Int.fdiv (wu64 (w64 (i+j))) (2 ^ (min (Int.toNat 1) 64)))) (wkA []) (by first|(dsimp only;rw [hh3];omega)|first|(dsimp only;rw [hh];omega)|exact omA) ⟨m,by first|(dsimp only;rw [hh3];omega)|first|(dsimp only;rw [hh];omega)|exact omA,foll hR (congrArg (fun p:Int × Int=>QX0 l id_ (fun (y:Job) (y1:Int)=>(w64 (y.id - y1))) p.1 p.2) (ct h6 (cf h9 rfl))),b1a0⟩
  ·have qh7:=of_decide_eq_false h7;replace hR:QX0 l id_ (fun (y:Job) (y1:Int)=>(w64 (y.id - y1))) i j=QN0 l id_ (fun (y:Job) (y1:Int)=>(w64 (y.id - y1))):=fo2 (fun p:Int × Int=>QX0 l id_ (fun (y:Job) (y1:Int)=>(w64 (y.id - y1))) p.1 p.2) (i,j) hR (cf h7 rfl);refine And.intro (by first|exact fun hg=>decide_eq_true (by first|(show 0<=w64 (Int.fdiv (wu64 (w64 (i+j))) (2 ^ (min (Int.toNat 1) 64)))∧w64 (Int.fdiv (wu64 (w64 (i+j))) (2 ^ (min (Int.toNat 1) 64)))<(l.length:Int);rw [hh];omega)|exact ckA)|exact gkA) ?_;(first|apply u2|apply u3|apply u4|apply us);exact mv [] (cl1 (l.getD (Int.toNat i) Job.zero) id_ szA) .nil (dl (Job.low _ _) (d1 .nil)) .nil rx;refine Qt0 (fun r:Int × Bool=>AVal.tup [I r.1,Bo r.2]) (fun r:Int × Bool=>[]) (leaf:=(i,((decide (i<(l.length:Int)))&&(((fun (y:Job) (y1:Int)=>(w64 (y.id - y1))) (l.getD (Int.toNat i) Job.zero) id_)==0)))) (foll hR rfl) ?_;exact tt [] .nil (turn_tup (c1 (c1 .nil)))
 refine us (mv [] (hof1) .nil (dl lw (d1 (dv (QK6 (Low.fn _ _ _ LowL.nil LowL.nil)) .nil))) .nil (Ren.low _ (Low.tup' (l1 (l1 .nil))))) ?_;exact lfA
theorem bs_ge (x_:List Job) (target:Int) (cmp:Job->Int->Int) (hn:x_.length<=4294967296):∀ (m:Nat) (i j:Int),0<=i->i<=j->j<=(x_.length:Int)->0<=(Qr0 x_ target cmp m i j).1
 | 0,_,_,_,_,_=>by simp [Qr0]
 | m+1,i,j,h0,h1,h2=>by
  rw [Qr0]
  cases hd:decide (i<j) with
  | false=>exact h0
  | true =>
   have hlt:=of_decide_eq_true hd
   rw [Qfa h0 hlt h2 (by omega)]
   simp only [cond_true]
   cases decide (cmp (x_.getD (Int.toNat ((i+j) / 2)) Job.zero) target<0) with
   | true =>
    have hw:w64 ((i+j) / 2+1)=(i+j) / 2+1:=wr (by omega)
    simp only [cond_true]
    rw [hw]
    exact bs_ge x_ target cmp hn m _ _ (by omega) (by omega) h2
   | false=>exact bs_ge x_ target cmp hn m _ _ h0 (by omega) (by omega)
theorem QX4 (l:List Job) (id_:Int) (hn:l.length<=4294967296) (h:(!(Qq0 l id_).2)=false):0<=(Qq0 l id_).1∧(Qq0 l id_).1<(l.length:Int):=by
 simp only [Qq0,QN0,QX0,Bool.not_eq_false',Bool.and_eq_true,decide_eq_true_eq] at h
 exact ⟨bs_ge _ _ _ hn _ _ _ (by omega) (by omega) (by omega),h.1⟩
end Go.Proofs.YtackngeeehiegaaGreatDoor
