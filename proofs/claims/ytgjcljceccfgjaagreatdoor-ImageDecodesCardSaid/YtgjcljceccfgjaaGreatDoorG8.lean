/-
  Contracts of functions, printed by a program of this repo (wip/dec). No condition beyond those that stand in each.
-/
import Derived.Test.YtgjcljceccfgjaaGreatDoorG7
import Derived.Test.YtgjcljceccfgjaaGreatDoorProg
namespace Go.Proofs.YtgjcljceccfgjaaGreatDoor
set_option linter.unusedSimpArgs false
set_option linter.unusedVariables false
open Go.Fw
set_option maxRecDepth 20000
set_option maxHeartbeats 4000000
attribute [local irreducible] ACalls AMoves
def Qq4 (x_:ByteArray):Bool:=(!(ByteArray.toList x_==ByteArray.toList x_))
theorem Qo9 (x_:ByteArray):∀ objs,AGives Tryz.prog 161 [Sg x_] objs (Bo (Qq4 x_)):=by
 generalize hR:Qq4 x_=R;refine ga (l1 .nil) lx (kp 3 []) Tryz.func161 ?_;obtain rfl:=foll hR rfl;exact Q30 lx sr
def QF1 (n:Int) (last:Int):Bool:=(((decide (n >= 1))&&(decide (n<=100000)))&&(decide (n > last)))
theorem QXe (n:Int) (last:Int):∀ objs,AGives Tryz.prog 59 [I n,I last] objs (Bo (QF1 n last)):=by
 generalize hR:QF1 n last=R;refine ga (l1 (l1 .nil)) lx (kp 5 []) Tryz.func59 ?_;obtain rfl:=foll hR rfl;exact Q30 lx sr
def Qh2 (n:Int) (width:Int):Bool:=bif (width==1) then bif (width==1) then ((decide (n >= 0))&&(decide (n<(w64 (1*2 ^ (min (Int.toNat (w64 (8*width))) 64)))))) else bif (width==8) then (decide (n >= 0)) else false else bif (width==2) then bif (width==2) then ((decide (n >= 0))&&(decide (n<(w64 (1*2 ^ (min (Int.toNat (w64 (8*width))) 64)))))) else bif (width==8) then (decide (n >= 0)) else false else bif (width==4) then ((decide (n >= 0))&&(decide (n<(w64 (1*2 ^ (min (Int.toNat (w64 (8*width))) 64)))))) else bif (width==8) then (decide (n >= 0)) else false
theorem Q9g (n:Int) (width:Int):∀ objs,AGives Tryz.prog 91 [I n,I width] objs (Bo (Qh2 n width)):=by
 generalize hR:Qh2 n width=R;refine ga (l1 (l1 .nil)) lx (kp 5 [5,6,19]) Tryz.func91 ?_;refine ai (fun h1=>?_) (fun h2=>?_)
 ·refine ai (fun h3=>?_) (fun h4=>?_)
  ·refine ai gkA ?_;obtain rfl:=foll hR (ct h1 (ct h3 rfl));exact Q30 lx sr
  ·refine ai (fun h5=>?_) (fun h6=>?_)
   ·obtain rfl:=foll hR (ct h1 (cf h4 (ct h5 rfl)));exact Q30 lx sr
   ·obtain rfl:=foll hR (ct h1 (cf h4 (cf h6 rfl)));exact Q30 lx sr
 ·refine ai (fun h7=>?_) (fun h8=>?_)
  ·refine ai (fun h9=>?_) (fun h10=>?_)
   ·refine ai gkA ?_;obtain rfl:=foll hR (cf h2 (ct h7 (ct h9 rfl)));exact Q30 lx sr
   ·refine ai (fun h11=>?_) (fun h12=>?_)
    ·obtain rfl:=foll hR (cf h2 (ct h7 (cf h10 (ct h11 rfl))));exact Q30 lx sr
    ·obtain rfl:=foll hR (cf h2 (ct h7 (cf h10 (cf h12 rfl))));exact Q30 lx sr
  ·refine ai (fun h13=>?_) (fun h14=>?_)
   ·refine ai gkA ?_;obtain rfl:=foll hR (cf h2 (cf h8 (ct h13 rfl)));exact Q30 lx sr
   ·refine ai (fun h15=>?_) (fun h16=>?_)
    ·obtain rfl:=foll hR (cf h2 (cf h8 (cf h14 (ct h15 rfl))));exact Q30 lx sr
    ·obtain rfl:=foll hR (cf h2 (cf h8 (cf h14 (cf h16 rfl))));exact Q30 lx sr
theorem Qya {n w:Int} (h:Qh2 n w=true):w=1∨w=2∨w=4∨w=8:=by
 unfold Qh2 at h
 grind
def Qi3 :Nat->Int->Int->List Int->Int × Int × (List Int)
 | 0,_,_,_=>(0,0,[])
 | m+1,n1,i,c=>bif (decide (i >= 0)) then Qi3 m (Int.fdiv n1 (2 ^ (min (Int.toNat 8) 64))) (w64 (i - 1)) (c.set (Int.toNat i) (wu8 n1)) else (n1,i,c)
def Q96 (n1:Int) (i:Int) (c:List Int):ByteArray:=(QH1 c)
def Q95 (n:Int) (width:Int):ByteArray:=Q96 ((Qi3 ((Int.toNat ((w64 (width - 1))+1))+1) n (w64 (width - 1)) (List.replicate (Int.toNat width) 0)).1) ((Qi3 ((Int.toNat ((w64 (width - 1))+1))+1) n (w64 (width - 1)) (List.replicate (Int.toNat width) 0)).2.1) ((Qi3 ((Int.toNat ((w64 (width - 1))+1))+1) n (w64 (width - 1)) (List.replicate (Int.toNat width) 0)).2.2)
theorem Qag (n:Int) (width:Int) (hp0:0<=width∧width<=8):∀ objs,AGives Tryz.prog 92 [I n,I width] objs (Sg (Q95 n width)):=by
 generalize hR:Q95 n width=R;refine ga (l1 (l1 .nil)) lx (kp 7 [12]) Tryz.func92 ?_;have hw0:w64 (width - 1)=width - 1:=wr (by omega);refine And.intro (mk_ok 1 rfl (by refine ⟨?_,?_,?_,?_⟩ <;> exact ckA)) ?_;refine Qf2 (fun (n1:Int) (i:Int) (c:List Int)=>∃ m,(Int.toNat (i+1))<m∧Q96 (Qi3 m n1 i c).1 (Qi3 m n1 i c).2.1 (Qi3 m n1 i c).2.2=R ∧ -1<=i∧i<width∧c.length=(List.replicate (Int.toNat width) 0).length) (fun n1 i c=>(Int.toNat (i+1))) (fun n1 i c=>[(0,I n1),(4,Sg ⟨#[]⟩),(5,AVal.own 0 0 1 0 c.length),(6,I i)]) (fun n1 i c=>[(0,AObj.row 5 1 (c.map (fun q_=>[Y q_])))]) n (w64 (width - 1)) (List.replicate (Int.toNat width) 0) (wk [0] (tO rfl (tl eqA) .nil) (s1 (s1 (sv (to 0 lnA) (s1 .nil))))) ⟨_,Nat.lt_succ_self _,foll hR rfl,by exact exA⟩ ?_;clear hR;rintro n1 i c ⟨m,hm,hR,hx⟩;(try dsimp only at hR hm hx);obtain ⟨m,rfl⟩:=sucA m;refine ai (fun h1=>?_) (fun h2=>?_)
 ·have qh1:=of_decide_eq_true h1;(have hw1:w64 (i - 1)=i - 1:=wr (by omega);have hl1:c.length=Int.toNat width:=by have:=hx.2.2;simpa using this);refine ai gkA ?_;refine ⟨_,QAe rfl rfl rfl rfl (Qjf 0 (Int.toNat i) roA ckA) rfl rfl (set_map (Int.toNat i) (wu8 n1) roA rfl),?_⟩;refine ai gkA ?_;exact Q12 (Int.fdiv n1 (2 ^ (min (Int.toNat 8) 64))) (w64 (i - 1)) (c.set (Int.toNat i) (wu8 n1)) (wk [0] (tO rfl (tl eqA) .nil) (s1 (s1 (sv (to 0 lnA) (s1 .nil))))) omA ⟨m,by exact omA,foll hR (congrArg (fun p:Int × Int × (List Int)=>Q96 p.1 p.2.1 p.2.2) (ct h1 rfl)),by exact exA⟩
 ·have qh2:=of_decide_eq_false h2;replace hR:Q96 n1 i c=R:=fo2 (fun p:Int × Int × (List Int)=>Q96 p.1 p.2.1 p.2.2) (n1,i,c) hR (cf h2 rfl);(first|refine ⟨c,by exact cvA,?_⟩|refine ⟨_,fun _=>⟨c,by exact cvA,rfl,rfl⟩,?_⟩|refine ⟨_,rfl,⟨c,by exact cvA,Sub.refl _,rfl⟩,?_⟩);obtain rfl:=foll hR rfl;exact Q30 lx sr
theorem QMa:∀ (m:Nat) (n i:Int) (c:List Int),(Qi3 m n i c).2.2.length<=c.length
 | 0,n,i,c=>Nat.zero_le _
 | m+1,n,i,c=>by
  unfold Qi3
  cases decide (i >= 0) with
  | true=>simpa using QMa m (Int.fdiv n (2 ^ (min (Int.toNat 8) 64))) (w64 (i - 1)) (c.set (Int.toNat i) (wu8 n))
  | false=>simp
theorem bytesStr_size (l:List Int):(QH1 l).size=l.length:=by rw [Qq6];show (List.toArray _).size=_;simp
theorem Qb8 (n w:Int):(Q95 n w).size<=w.toNat:=by
 unfold Q95 Q96
 rw [bytesStr_size]
 exact Nat.le_trans (QMa _ _ _ _) (by simp)
def Qh4 (s:ByteArray) (at_:Int):Bool:=((decide (at_ >= 0))&&(decide (at_<=(ByteArray.size s:Int))))
theorem pack_within_c (s:ByteArray) (at_:Int):∀ objs,AGives Tryz.prog 107 [Sg s,I at_] objs (Bo (Qh4 s at_)):=by
 generalize hR:Qh4 s at_=R;refine ga (l1 (l1 .nil)) lx (kp 5 []) Tryz.func107 ?_;obtain rfl:=foll hR rfl;exact Q30 lx sr
def QK8 (b:List Node):List Node->Nat->Bool
 | [],_=>true
 | x_ :: r,i=>bif (!((x_.state==(b.getD i Node.zero).state)&&((x_.job==(b.getD i Node.zero).job)&&((x_.epoch==(b.getD i Node.zero).epoch)&&((x_.drain==(b.getD i Node.zero).drain)&&((x_.want==(b.getD i Node.zero).want)&&((x_.since==(b.getD i Node.zero).since)&&(x_.asked==(b.getD i Node.zero).asked)))))))) then false else QK8 b r (i+1)
def QLb (a:List Node) (b:List Node):Bool:=bif ((a.length:Int)!=(b.length:Int)) then false else QK8 b a 0
theorem ref12_Same_c (a:List Node) (b:List Node) (hs0:a.length<=4294967296) (hs1:b.length<=4294967296):∀ objs,AGives Tryz.prog 50 [nodeL a,nodeL b] objs (Bo (QLb a b)):=by
 generalize hR:QLb a b=R;refine ga (.cons lw (.cons lw .nil)) lx (kp 6 [10,14,25]) Tryz.func50 ?_;have hk0:=hs0;obtain z7:a.length<=4294967296:=hs0;have hk1:=hs1;obtain z8:b.length<=4294967296:=hs1;refine ai (fun h1=>?_) (fun h2=>?_)
 ·obtain rfl:=foll hR (ct h1 rfl);exact Q30 lx sr
 ·refine Qw0 (fun (i:Nat)=>QK8 b (List.drop i a) i=R∧i<=a.length) (fun i=>a.length - i) (fun i=>[(0,nodeL a),(1,nodeL b),(4,Bo false),(5,I (i:Int))]) (fun i=>[]) 0 (wk [] .nil (sl lw (sl lw (s1 (s1 .nil))))) ⟨foll hR (cf h2 rfl),by exact omA⟩ ?_;clear hR;rintro i ⟨hR,hj⟩;(try dsimp only at hR hj);refine ai (fun h3=>?_) (fun h4=>?_)
  ·have hlt:=ltA h3;rw [Qo0 Node.zero hlt] at hR;refine dchk (by kernel_rfl) ?_;refine ai gkA ?_;refine ai gkA ?_;refine ai (fun _=>(by kernel_rfl:eqOK _ _=true)) ?_;(repeat ((first|refine ai rfl ?_|refine ai (fun _=>rfl) ?_)));refine ai (fun h5=>?_) (fun h6=>?_)
   ·obtain rfl:=foll hR (ct h5 rfl);exact Q30 lx sr
   ·exact QA0 (i+1) (wk [] .nil (sl lw (sl lw (s1 (sv (Qt0 (I_eq (wr omA)) lx) .nil))))) omA ⟨foll hR (cf h6 rfl),by exact omA⟩
  ·rw [Qp0 (l:=a) (j:=i) (geA h4)] at hR;obtain rfl:=foll hR rfl;exact Q30 lx sr
def Qa5 (b:List Alt):List Alt->Nat->Bool
 | [],_=>true
 | x_ :: r,i=>bif ((x_.nodes != (b.getD i Alt.zero).nodes)||(x_.wall != (b.getD i Alt.zero).wall)) then false else Qa5 b r (i+1)
def Qc8 (a:List Alt) (b:List Alt):Bool:=bif ((a.length:Int)!=(b.length:Int)) then false else Qa5 b a 0
theorem Qdf (a:List Alt) (b:List Alt) (hs0:a.length<=4294967296) (hs1:b.length<=4294967296):∀ objs,AGives Tryz.prog 135 [altL a,altL b] objs (Bo (Qc8 a b)):=by
 generalize hR:Qc8 a b=R;refine ga (.cons lw (.cons lw .nil)) lx (kp 6 [10,14,40]) Tryz.func135 ?_;have hk0:=hs0;obtain z7:a.length<=4294967296:=hs0;have hk1:=hs1;obtain z8:b.length<=4294967296:=hs1;refine ai (fun h1=>?_) (fun h2=>?_)
 ·obtain rfl:=foll hR (ct h1 rfl);exact Q30 lx sr
 ·refine Qw0 (fun (i:Nat)=>Qa5 b (List.drop i a) i=R∧i<=a.length) (fun i=>a.length - i) (fun i=>[(0,altL a),(1,altL b),(4,Bo false),(5,I (i:Int))]) (fun i=>[]) 0 (wk [] .nil (sl lw (sl lw (s1 (s1 .nil))))) ⟨foll hR (cf h2 rfl),by exact omA⟩ ?_;clear hR;rintro i ⟨hR,hj⟩;(try dsimp only at hR hj);refine ai (fun h3=>?_) (fun h4=>?_)
  ·have hlt:=ltA h3;rw [Qo0 Alt.zero hlt] at hR;refine dchk (by kernel_rfl) ?_;refine ai gkA ?_;refine ai gkA ?_;refine ai gkA ?_;refine ai gkA ?_;(repeat ((first|refine ai rfl ?_|refine ai (fun _=>rfl) ?_)));refine ai (fun h5=>?_) (fun h6=>?_)
   ·obtain rfl:=foll hR (ct h5 rfl);exact Q30 lx sr
   ·exact QA0 (i+1) (wk [] .nil (sl lw (sl lw (s1 (sv (Qt0 (I_eq (wr omA)) lx) .nil))))) omA ⟨foll hR (cf h6 rfl),by exact omA⟩
  ·rw [Qp0 (l:=a) (j:=i) (geA h4)] at hR;obtain rfl:=foll hR rfl;exact Q30 lx sr
def QW4 (b:List Resize):List Resize->Nat->Bool
 | [],_=>true
 | x_ :: r,i=>bif (!((x_.job==(b.getD i Resize.zero).job)&&((x_.grow==(b.getD i Resize.zero).grow)&&((x_.nodes==(b.getD i Resize.zero).nodes)&&((x_.said==(b.getD i Resize.zero).said)&&(x_.since==(b.getD i Resize.zero).since)))))) then false else QW4 b r (i+1)
def Qw6 (a:List Resize) (b:List Resize):Bool:=bif ((a.length:Int)!=(b.length:Int)) then false else QW4 b a 0
theorem QPc (a:List Resize) (b:List Resize) (hs0:a.length<=4294967296) (hs1:b.length<=4294967296):∀ objs,AGives Tryz.prog 52 [Qi2 a,Qi2 b] objs (Bo (Qw6 a b)):=by
 generalize hR:Qw6 a b=R;refine ga (.cons lw (.cons lw .nil)) lx (kp 6 [10,14,25]) Tryz.func52 ?_;have hk0:=hs0;obtain z7:a.length<=4294967296:=hs0;have hk1:=hs1;obtain z8:b.length<=4294967296:=hs1;refine ai (fun h1=>?_) (fun h2=>?_)
 ·obtain rfl:=foll hR (ct h1 rfl);exact Q30 lx sr
 ·refine Qw0 (fun (i:Nat)=>QW4 b (List.drop i a) i=R∧i<=a.length) (fun i=>a.length - i) (fun i=>[(0,Qi2 a),(1,Qi2 b),(4,Bo false),(5,I (i:Int))]) (fun i=>[]) 0 (wk [] .nil (sl lw (sl lw (s1 (s1 .nil))))) ⟨foll hR (cf h2 rfl),by exact omA⟩ ?_;clear hR;rintro i ⟨hR,hj⟩;(try dsimp only at hR hj);refine ai (fun h3=>?_) (fun h4=>?_)
  ·have hlt:=ltA h3;rw [Qo0 Resize.zero hlt] at hR;refine dchk (by kernel_rfl) ?_;refine ai gkA ?_;refine ai gkA ?_;refine ai (fun _=>(by kernel_rfl:eqOK _ _=true)) ?_;(repeat ((first|refine ai rfl ?_|refine ai (fun _=>rfl) ?_)));refine ai (fun h5=>?_) (fun h6=>?_)
   ·obtain rfl:=foll hR (ct h5 rfl);exact Q30 lx sr
   ·exact QA0 (i+1) (wk [] .nil (sl lw (sl lw (s1 (sv (Qt0 (I_eq (wr omA)) lx) .nil))))) omA ⟨foll hR (cf h6 rfl),by exact omA⟩
  ·rw [Qp0 (l:=a) (j:=i) (geA h4)] at hR;obtain rfl:=foll hR rfl;exact Q30 lx sr
def QM8 (b:List Book):List Book->Nat->Bool
 | [],_=>true
 | x_ :: r,i=>bif (!((x_.id==(b.getD i Book.zero).id)&&((x_.from_==(b.getD i Book.zero).from_)&&((x_.to==(b.getD i Book.zero).to)&&(x_.nodes==(b.getD i Book.zero).nodes))))) then false else QM8 b r (i+1)
def QOb (a:List Book) (b:List Book):Bool:=bif ((a.length:Int)!=(b.length:Int)) then false else QM8 b a 0
theorem ref19_Same_c (a:List Book) (b:List Book) (hs0:a.length<=4294967296) (hs1:b.length<=4294967296):∀ objs,AGives Tryz.prog 53 [bookL a,bookL b] objs (Bo (QOb a b)):=by
 generalize hR:QOb a b=R;refine ga (.cons lw (.cons lw .nil)) lx (kp 6 [10,14,25]) Tryz.func53 ?_;have hk0:=hs0;obtain z7:a.length<=4294967296:=hs0;have hk1:=hs1;obtain z8:b.length<=4294967296:=hs1;refine ai (fun h1=>?_) (fun h2=>?_)
 ·obtain rfl:=foll hR (ct h1 rfl);exact Q30 lx sr
 ·refine Qw0 (fun (i:Nat)=>QM8 b (List.drop i a) i=R∧i<=a.length) (fun i=>a.length - i) (fun i=>[(0,bookL a),(1,bookL b),(4,Bo false),(5,I (i:Int))]) (fun i=>[]) 0 (wk [] .nil (sl lw (sl lw (s1 (s1 .nil))))) ⟨foll hR (cf h2 rfl),by exact omA⟩ ?_;clear hR;rintro i ⟨hR,hj⟩;(try dsimp only at hR hj);refine ai (fun h3=>?_) (fun h4=>?_)
  ·have hlt:=ltA h3;rw [Qo0 Book.zero hlt] at hR;refine dchk (by kernel_rfl) ?_;refine ai gkA ?_;refine ai gkA ?_;refine ai (fun _=>(by kernel_rfl:eqOK _ _=true)) ?_;(repeat ((first|refine ai rfl ?_|refine ai (fun _=>rfl) ?_)));refine ai (fun h5=>?_) (fun h6=>?_)
   ·obtain rfl:=foll hR (ct h5 rfl);exact Q30 lx sr
   ·exact QA0 (i+1) (wk [] .nil (sl lw (sl lw (s1 (sv (Qt0 (I_eq (wr omA)) lx) .nil))))) omA ⟨foll hR (cf h6 rfl),by exact omA⟩
  ·rw [Qp0 (l:=a) (j:=i) (geA h4)] at hR;obtain rfl:=foll hR rfl;exact Q30 lx sr
def QH7 (b:List Usage):List Usage->Nat->Bool
 | [],_=>true
 | x_ :: r,i=>bif ((((!(ByteArray.toList x_.user==ByteArray.toList (b.getD i Usage.zero).user))||(!(ByteArray.toList x_.account==ByteArray.toList (b.getD i Usage.zero).account)))||(x_.used != (b.getD i Usage.zero).used))||(x_.share != (b.getD i Usage.zero).share)) then false else QH7 b r (i+1)
def QNb (a:List Usage) (b:List Usage):Bool:=bif ((a.length:Int)!=(b.length:Int)) then false else QH7 b a 0
theorem ref17_Same_c (a:List Usage) (b:List Usage) (hs0:a.length<=4294967296∧(∀ y ∈ a,y.sz)) (hs1:b.length<=4294967296∧(∀ y ∈ b,y.sz)):∀ objs,AGives Tryz.prog 54 [QO2 a,QO2 b] objs (Bo (QNb a b)):=by
 generalize hR:QNb a b=R;refine ga (.cons lw (.cons lw .nil)) lx (kp 6 [10,14,66]) Tryz.func54 ?_;have hk0:=hs0;obtain ⟨z9,z10⟩:a.length<=4294967296∧(∀ y ∈ a,y.sz):=hs0;have hk1:=hs1;obtain ⟨z11,z12⟩:b.length<=4294967296∧(∀ y ∈ b,y.sz):=hs1;refine ai (fun h1=>?_) (fun h2=>?_)
 ·obtain rfl:=foll hR (ct h1 rfl);exact Q30 lx sr
 ·refine Qw0 (fun (i:Nat)=>QH7 b (List.drop i a) i=R∧i<=a.length) (fun i=>a.length - i) (fun i=>[(0,QO2 a),(1,QO2 b),(4,Bo false),(5,I (i:Int))]) (fun i=>[]) 0 (wk [] .nil (sl lw (sl lw (s1 (s1 .nil))))) ⟨foll hR (cf h2 rfl),by exact omA⟩ ?_;clear hR;rintro i ⟨hR,hj⟩;(try dsimp only at hR hj);refine ai (fun h3=>?_) (fun h4=>?_)
  ·have hlt:=ltA h3;rw [Qo0 Usage.zero hlt] at hR;have hxz:(a.getD i Usage.zero).sz:=QD4 (by first|assumption|grind) (Usage.szz _);have hkz:=hxz;obtain ⟨z5,z6⟩:((a.getD i Usage.zero).user).size<=4294967296∧((a.getD i Usage.zero).account).size<=4294967296:=hxz;refine dchk (by kernel_rfl) ?_;refine ai gkA ?_;refine ai gkA ?_;refine ai gkA ?_;refine ai gkA ?_;refine ai gkA ?_;refine ai gkA ?_;refine ai gkA ?_;refine ai gkA ?_;(repeat ((first|refine ai rfl ?_|refine ai (fun _=>rfl) ?_)));refine ai (fun h7=>?_) (fun h8=>?_)
   ·obtain rfl:=foll hR (ct h7 rfl);exact Q30 lx sr
   ·exact QA0 (i+1) (wk [] .nil (sl lw (sl lw (s1 (sv (Qt0 (I_eq (wr omA)) lx) .nil))))) omA ⟨foll hR (cf h8 rfl),by exact omA⟩
  ·rw [Qp0 (l:=a) (j:=i) (geA h4)] at hR;obtain rfl:=foll hR rfl;exact Q30 lx sr
def Q94 (x_:Node):Bool:=bif ((((((decide (x_.epoch<0))||(decide (x_.epoch > 999999999)))||(decide (x_.since<0)))||(decide (x_.since > 1000000)))||(decide (x_.asked<0)))||(decide (x_.asked > 1000000))) then false else bif ((x_.state==0)||(x_.state==4)) then ((x_.job==0)&&((x_.want==0)||((x_.state==4)&&(x_.want==6)))) else bif ((decide (x_.job<1))||(decide (x_.job > 99999))) then false else bif (x_.state==1) then ((((x_.want==0)||(x_.want==1))||(x_.want==3))||(x_.want==4)) else bif (x_.state==2) then ((x_.want==0)||(x_.want==2)) else bif (x_.state==3) then (x_.want==5) else false
theorem ref12_fine_c (x_:Node):∀ objs,AGives Tryz.prog 134 [Node.a x_] objs (Bo (Q94 x_)):=by
 generalize hR:Q94 x_=R;refine ga (.cons (Node.low _ _) .nil) lx (kp 3 [30,38,64,66,67,87,97]) Tryz.func134 ?_;refine ai (fun h1=>?_) (fun h2=>?_)
 ·obtain rfl:=foll hR (ct h1 rfl);exact Q30 lx sr
 ·refine ai (fun h3=>?_) (fun h4=>?_)
  ·obtain rfl:=foll hR (cf h2 (ct h3 rfl));exact Q30 lx sr
  ·refine ai (fun h5=>?_) (fun h6=>?_)
   ·obtain rfl:=foll hR (cf h2 (cf h4 (ct h5 rfl)));exact Q30 lx sr
   ·refine ai (fun h7=>?_) (fun h8=>?_)
    ·obtain rfl:=foll hR (cf h2 (cf h4 (cf h6 (ct h7 rfl))));exact Q30 lx sr
    ·refine ai (fun h9=>?_) (fun h10=>?_)
     ·obtain rfl:=foll hR (cf h2 (cf h4 (cf h6 (cf h8 (ct h9 rfl)))));exact Q30 lx sr
     ·refine ai (fun h11=>?_) (fun h12=>?_)
      ·obtain rfl:=foll hR (cf h2 (cf h4 (cf h6 (cf h8 (cf h10 (ct h11 rfl))))));exact Q30 lx sr
      ·obtain rfl:=foll hR (cf h2 (cf h4 (cf h6 (cf h8 (cf h10 (cf h12 rfl))))));exact Q30 lx sr
def Qc2 (n:Int):Bool:=((decide (n >= 0))&&(decide (n<=1000000)))
theorem Qp5 (n:Int):∀ objs,AGives Tryz.prog 127 [I n] objs (Bo (Qc2 n)):=by
 generalize hR:Qc2 n=R;refine ga (l1 .nil) lx (kp 3 []) Tryz.func127 ?_;obtain rfl:=foll hR rfl;exact Q30 lx sr
def Qs0 (r_:Int):Int:=bif ((r_==9)||(r_==32)) then 1 else bif (((decide (r_<32))||(r_==65533))||(decide (r_ > 1114111))) then 0 else bif (((decide (r_ > 126))&&(decide (r_<161)))||((decide (r_ > 55295))&&(decide (r_<57344)))) then 0 else bif ((decide (r_ > 47))&&(decide (r_<58))) then 3 else bif (((decide (r_ > 160))||((decide (r_ > 64))&&(decide (r_<91))))||((decide (r_ > 96))&&(decide (r_<123)))) then 2 else 4
theorem Qu5 (r_:Int):∀ objs,AGives Tryz.prog 208 [J r_] objs (I (Qs0 r_)):=by
 generalize hR:Qs0 r_=R;refine ga (l1 .nil) lx (kp 3 [8,18,32,38,56]) Tryz.func208 ?_;refine ai (fun h1=>?_) (fun h2=>?_)
 ·obtain rfl:=foll hR (ct h1 rfl);exact Q30 lx sr
 ·refine ai (fun h3=>?_) (fun h4=>?_)
  ·obtain rfl:=foll hR (cf h2 (ct h3 rfl));exact Q30 lx sr
  ·refine ai (fun h5=>?_) (fun h6=>?_)
   ·obtain rfl:=foll hR (cf h2 (cf h4 (ct h5 rfl)));exact Q30 lx sr
   ·refine ai (fun h7=>?_) (fun h8=>?_)
    ·obtain rfl:=foll hR (cf h2 (cf h4 (cf h6 (ct h7 rfl))));exact Q30 lx sr
    ·refine ai (fun h9=>?_) (fun h10=>?_)
     ·obtain rfl:=foll hR (cf h2 (cf h4 (cf h6 (cf h8 (ct h9 rfl)))));exact Q30 lx sr
     ·obtain rfl:=foll hR (cf h2 (cf h4 (cf h6 (cf h8 (cf h10 rfl)))));exact Q30 lx sr
def Q14 :List (Nat × Int)->List Int->(List Int)
 | [],out=>out
 | x_ :: r,out=>Q14 r (out++([x_.2]:List Int))
def QH4 (out:List Int):(List Int):=out
def QY0 (s:ByteArray):(List Int):=QH4 (Q14 (Qj8 s) [])
theorem ref05_Runes_c (s:ByteArray) (hs0:s.size<=4294967296):∀ objs,AGives Tryz.prog 217 [Sg s] objs (runes (QY0 s)):=by
 generalize hR:QY0 s=R;refine ga (l1 .nil) lw (kp 6 [7,8,9]) Tryz.func217 ?_;have hk0:=hs0;obtain z3:s.size<=4294967296:=hs0;refine Qq0 (fun (out:List Int) (pos:Nat)=>∃ m,ByteArray.size s - pos<=m∧QH4 (Q14 (QX4 s m pos) out)=R∧out.length<=pos) (fun out pos=>ByteArray.size s - pos) (fun out pos=>[(2,AVal.lit (.slice none 0 0)),(3,AVal.own 1 0 1 0 out.length),(7,AVal.ptr 0 0 1 0 0)]) (fun out pos=>[(0,AObj.other (.strIter s pos)),(0,AObj.row 21 1 (out.map (fun q_=>[J q_])))]) [] 0 ((Qf1 21 1).trans (wk [0,1] (tO rfl (.strIter _ _) (tO rfl (tl eqA) .nil)) (s1 (sv (Q91 1 rfl) (sv (Q50 0 rfl rfl) .nil))))) ⟨ByteArray.size s,by exact omA,foll hR rfl,by exact exA⟩ ?_;clear hR;rintro out pos ⟨m,hm,hR,hx⟩;(try dsimp only at hR hm hx);refine ai (fun h1=>?_) (fun h2=>?_)
 ·have hlt:=of_decide_eq_true h1;have hw:=QO8 s pos;have hwe:=QN8 s pos hlt;obtain ⟨m,rfl⟩:=sucA m;rw [QU3 h1] at hR;refine ai (fun _=>?_) (fun h=>nomatch h);refine Or.inl ?_;(first|refine ⟨Qg3 4 rfl lnA apA,?_⟩|refine ⟨Q52 4 rfl apA,?_⟩);exact Qm0 (out++([(pos,((Utf8.decode s pos).1:Int)).2]:List Int)) (pos+(Utf8.decode s pos).2) (wk [0,1] (tO rfl (.strIter _ _) (tO rfl (tl eqA) .nil)) (s1 (sv (to 1 lnA) (sv (Q50 0 rfl rfl) .nil)))) omA ⟨m,by exact omA,foll hR (congrArg (fun p:(List Int)=>QH4 p) rfl),by exact exA⟩
 ·rw [Qo6 h2] at hR;refine ai (fun h=>nomatch h) (fun _=>?_);replace hR:QH4 out=R:=fo2 (fun p:(List Int)=>QH4 p) (out) hR rfl;obtain rfl:=foll hR rfl;exact Q30 lw (QG1 0 _ rfl eqA lnA)
theorem Qy9:∀ (l:List (Nat × Int)) (out:List Int),(Q14 l out).length=out.length+l.length
 | [],out=>rfl
 | x :: r,out=>by
  rw [Q14,Qy9 r]
  simp
  omega
theorem QZe (s:ByteArray):∀ m pos,(QX4 s m pos).length<=m
 | 0,_=>by simp [QX4]
 | m+1,pos=>by
  cases h:decide (pos<s.size) with
  | false=>rw [Qo6 h];simp
  | true=>rw [QU3 h];have:=QZe s m (pos+(Utf8.decode s pos).2);simp;omega
theorem Qgb (s:ByteArray):(QY0 s).length<=s.size:=by
 unfold QY0 QH4
 rw [Qy9]
 have:=QZe s s.size 0
 simp only [Qj8,List.length_nil]
 omega
def QBa (r_:Int):Bool:=(((decide (r_ >= 48))&&(decide (r_<=57)))||((decide (r_ >= 97))&&(decide (r_<=122))))
theorem ref05_small_c (r_:Int):∀ objs,AGives Tryz.prog 240 [J r_] objs (Bo (QBa r_)):=by
 generalize hR:QBa r_=R;refine ga (l1 .nil) lx (kp 3 []) Tryz.func240 ?_;obtain rfl:=foll hR rfl;exact Q30 lx sr
def Q04 (s:ByteArray):Nat->List Int->Nat->(List Int) × Nat
 | 0,_,_=>([],0)
 | m+1,out,i=>bif (decide ((i:Int)<(ByteArray.size s:Int))) then bif ((decide (((s.data.toList.getD i 0).toNat:Int) > 64))&&(decide (((s.data.toList.getD i 0).toNat:Int)<91))) then Q04 s m (out++([(wu8 (((s.data.toList.getD i 0).toNat:Int)+32))]:List Int)) (i+1) else Q04 s m (out++([((s.data.toList.getD i 0).toNat:Int)]:List Int)) (i+1) else (out,i)
def QG4 (out:List Int) (i:Nat):ByteArray:=(QH1 out)
def Qs3 (s:ByteArray):ByteArray:=QG4 ((Q04 s ((Int.toNat ((ByteArray.size s:Int) - (0:Int)))+1) [] 0).1) ((Q04 s ((Int.toNat ((ByteArray.size s:Int) - (0:Int)))+1) [] 0).2)
theorem ref04_Lower_c (s:ByteArray) (hs0:s.size<=4294967296):∀ objs,AGives Tryz.prog 227 [Sg s] objs (Sg (Qs3 s)):=by
 generalize hR:Qs3 s=R;refine ga (l1 .nil) lx (kp 5 [8,20]) Tryz.func227 ?_;have hk0:=hs0;obtain z5:s.size<=4294967296:=hs0;refine Qq0 (fun (out:List Int) (i:Nat)=>∃ m,(Int.toNat ((ByteArray.size s:Int) - (i:Int)))<m∧QG4 (Q04 s m out i).1 (Q04 s m out i).2=R∧out.length<=i∧(i:Int)<=(ByteArray.size s:Int)) (fun out i=>(Int.toNat ((ByteArray.size s:Int) - (i:Int)))) (fun out i=>[(0,Sg s),(2,Sg ⟨#[]⟩),(3,AVal.own 0 0 1 0 out.length),(4,I (i:Int))]) (fun out i=>[(0,AObj.row 5 1 (out.map (fun q_=>[Y q_])))]) [] 0 ((Qf1 5 1).trans (wk [0] (tO rfl (tl eqA) .nil) (s1 (s1 (sv (Q91 0 rfl) (s1 .nil)))))) ⟨_,Nat.lt_succ_self _,foll hR rfl,by exact exA⟩ ?_;clear hR;rintro out i ⟨m,hm,hR,hx⟩;(try dsimp only at hR hm hx);obtain ⟨m,rfl⟩:=sucA m;refine ai (fun h1=>?_) (fun h2=>?_)
 ·have qh1:=of_decide_eq_true h1;refine ai gkA ?_;refine ai gkA ?_;refine ai (fun h3=>?_) (fun h4=>?_)
  ·refine ai gkA ?_;refine Or.inl ?_;(first|refine ⟨Qg3 1 rfl lnA apA,?_⟩|refine ⟨Q52 1 rfl apA,?_⟩);exact Qm0 (out++([(wu8 (((s.data.toList.getD i 0).toNat:Int)+32))]:List Int)) (i+1) (wk [0] (tO rfl (tl eqA) .nil) (s1 (s1 (sv (to 0 lnA) (sv (Qt0 (I_eq (wr omA)) lx) .nil))))) omA ⟨m,by exact omA,foll hR (congrArg (fun p:(List Int) × Nat=>QG4 p.1 p.2) (ct h1 (ct h3 rfl))),by exact exA⟩
  ·refine ai gkA ?_;refine Or.inl ?_;(first|refine ⟨Qg3 1 rfl lnA apA,?_⟩|refine ⟨Q52 1 rfl apA,?_⟩);exact Qm0 (out++([((s.data.toList.getD i 0).toNat:Int)]:List Int)) (i+1) (wk [0] (tO rfl (tl eqA) .nil) (s1 (s1 (sv (to 0 lnA) (sv (Qt0 (I_eq (wr omA)) lx) .nil))))) omA ⟨m,by exact omA,foll hR (congrArg (fun p:(List Int) × Nat=>QG4 p.1 p.2) (ct h1 (cf h4 rfl))),by exact exA⟩
 ·have qh2:=of_decide_eq_false h2;replace hR:QG4 out i=R:=fo2 (fun p:(List Int) × Nat=>QG4 p.1 p.2) (out,i) hR (cf h2 rfl);(first|refine ⟨out,by exact cvA,?_⟩|refine ⟨_,fun _=>⟨out,by exact cvA,rfl,rfl⟩,?_⟩|refine ⟨_,rfl,⟨out,by exact cvA,Sub.refl _,rfl⟩,?_⟩);obtain rfl:=foll hR rfl;exact Q30 lx sr
def QH9 :List Int->Nat->Bool
 | [],_=>false
 | x_ :: r,i=>bif (decide (x_ >= 97)) then true else QH9 r (i+1)
def QOc (l:List Int):Bool:=QH9 l 0
theorem ref05_plain_c (l:List Int) (hs0:l.length<=4294967296):∀ objs,AGives Tryz.prog 228 [runes l] objs (Bo (QOc l)):=by
 generalize hR:QOc l=R;refine ga (.cons lw .nil) lx (kp 4 [7,14]) Tryz.func228 ?_;have hk0:=hs0;obtain z5:l.length<=4294967296:=hs0;refine Qw0 (fun (i:Nat)=>QH9 (List.drop i l) i=R∧i<=l.length) (fun i=>l.length - i) (fun i=>[(0,runes l),(2,Bo false),(3,I (i:Int))]) (fun i=>[]) 0 (wk [] .nil (sl lw (s1 (s1 .nil)))) ⟨foll hR rfl,by exact omA⟩ ?_;clear hR;rintro i ⟨hR,hj⟩;(try dsimp only at hR hj);refine ai (fun h1=>?_) (fun h2=>?_)
 ·have hlt:=ltA h1;rw [Qo0 0 hlt] at hR;refine ai gkA ?_;refine ai (fun h3=>?_) (fun h4=>?_)
  ·have qh3:=of_decide_eq_true h3;obtain rfl:=foll hR (ct h3 rfl);exact Q30 lx sr
  ·have qh4:=of_decide_eq_false h4;exact QA0 (i+1) (wk [] .nil (sl lw (s1 (sv (Qt0 (I_eq (wr omA)) lx) .nil)))) omA ⟨foll hR (cf h4 rfl),by exact omA⟩
 ·rw [Qp0 (l:=l) (j:=i) (geA h2)] at hR;obtain rfl:=foll hR rfl;exact Q30 lx sr
def Qc9 :List Int->Int->Nat->Int
 | [],n,_=>n
 | x_ :: r,n,i=>bif ((decide (x_<48))||(decide (x_ > 57))) then (-1) else Qc9 r (w64 ((w64 (10*n))+(w64 (w32 (x_ - 48))))) (i+1)
def Qx9 (l:List Int):Int:=bif ((((l.length:Int)==0)||(decide ((l.length:Int) > 9)))||((decide ((l.length:Int) > 1))&&((l.getD 0 0)==48))) then (-1) else Qc9 l 0 0
theorem ref05_Number_c (l:List Int) (hs0:l.length<=4294967296):∀ objs,AGives Tryz.prog 229 [runes l] objs (I (Qx9 l)):=by
 generalize hR:Qx9 l=R;refine ga (.cons lw .nil) lx (kp 5 [23,27,41]) Tryz.func229 ?_;have hk0:=hs0;obtain z7:l.length<=4294967296:=hs0;refine ai gkA ?_;refine ai (fun h1=>?_) (fun h2=>?_)
 ·obtain rfl:=foll hR (ct h1 rfl);exact Q30 lx sr
 ·refine Qq0 (fun (n:Int) (i:Nat)=>Qc9 (List.drop i l) n i=R∧i<=l.length) (fun n i=>l.length - i) (fun n i=>[(0,runes l),(2,I 0),(3,I n),(4,I (i:Int))]) (fun n i=>[]) 0 0 (wk [] .nil (sl lw (s1 (s1 (s1 .nil))))) ⟨foll hR (cf h2 rfl),by exact omA⟩ ?_;clear hR;rintro n i ⟨hR,hj⟩;(try dsimp only at hR hj);refine ai (fun h3=>?_) (fun h4=>?_)
  ·have hlt:=ltA h3;rw [Qo0 0 hlt] at hR;refine ai gkA ?_;refine ai gkA ?_;refine ai (fun h5=>?_) (fun h6=>?_)
   ·obtain rfl:=foll hR (ct h5 rfl);exact Q30 lx sr
   ·refine ai gkA ?_;exact Qm0 (w64 ((w64 (10*n))+(w64 (w32 ((l.getD i 0) - 48))))) (i+1) (wk [] .nil (sl lw (s1 (s1 (sv (Qt0 (I_eq (wr omA)) lx) .nil))))) omA ⟨foll hR (cf h6 rfl),by exact omA⟩
  ·rw [Qp0 (l:=l) (j:=i) (geA h4)] at hR;obtain rfl:=foll hR rfl;exact Q30 lx sr
def QC1 (n:Int) (from_:Int) (to_:Int):Bool:=((decide (n >= from_))&&(decide (n<=to_)))
theorem Qu4 (n:Int) (from_:Int) (to_:Int):∀ objs,AGives Tryz.prog 177 [I n,I from_,I to_] objs (Bo (QC1 n from_ to_)):=by
 generalize hR:QC1 n from_ to_=R;refine ga (l1 (l1 (l1 .nil))) lx (kp 7 []) Tryz.func177 ?_;obtain rfl:=foll hR rfl;exact Q30 lx sr
def Qb2 (n:Int):Bool:=((decide (n >= 1))&&(decide (n<=48)))
theorem Qib (n:Int):∀ objs,AGives Tryz.prog 195 [I n] objs (Bo (Qb2 n)):=by
 generalize hR:Qb2 n=R;refine ga (l1 .nil) lx (kp 3 []) Tryz.func195 ?_;obtain rfl:=foll hR rfl;exact Q30 lx sr
def Qt3 (n:Int):Bool:=((decide (n >= 1))&&(decide (n<=100000)))
theorem QPe (n:Int):∀ objs,AGives Tryz.prog 196 [I n] objs (Bo (Qt3 n)):=by
 generalize hR:Qt3 n=R;refine ga (l1 .nil) lx (kp 3 []) Tryz.func196 ?_;obtain rfl:=foll hR rfl;exact Q30 lx sr
def QM2 :Nat->Int->List Int->Nat->Int × (List Int) × Nat
 | 0,_,_,_=>(0,[],0)
 | m+1,s2,out,n=>bif (decide (s2 > 0)) then bif ((Int.tmod s2 2)==1) then QM2 m (wu64 (Int.tdiv s2 2)) (out++([(n:Int)]:List Int)) (n+1) else QM2 m (wu64 (Int.tdiv s2 2)) out (n+1) else (s2,out,n)
def Qv5 (s2:Int) (out:List Int) (n:Nat):(List Int):=out
def QG0 (s:Int):(List Int):=Qv5 ((QM2 ((Int.toNat s)+1) s [] 0).1) ((QM2 ((Int.toNat s)+1) s [] 0).2.1) ((QM2 ((Int.toNat s)+1) s [] 0).2.2)
theorem Qlb (s:Int):∀ objs,AGives Tryz.prog 102 [U s] objs (ints (QG0 s)):=by
 generalize hR:QG0 s=R;refine ga (l1 .nil) lw (kp 5 [6,11]) Tryz.func102 ?_;refine Qf2 (fun (s2:Int) (out:List Int) (n:Nat)=>∃ m,(Int.toNat s2)<m∧Qv5 (QM2 m s2 out n).1 (QM2 m s2 out n).2.1 (QM2 m s2 out n).2.2=R∧(n:Int)<=65∧((n:Int)=0∨(0<=s2∧s2<2 ^ (65 - (Int.toNat (n:Int)))))∧out.length<=n) (fun s2 out n=>(Int.toNat s2)) (fun s2 out n=>[(0,U s2),(2,AVal.lit (.slice none 0 0)),(3,AVal.own 0 0 1 0 out.length),(4,I (n:Int))]) (fun s2 out n=>[(0,AObj.row 3 1 (out.map (fun q_=>[I q_])))]) s [] 0 ((Qf1 3 1).trans (wk [0] (tO rfl (tl eqA) .nil) (s1 (s1 (sv (Q91 0 rfl) (s1 .nil)))))) ⟨_,Nat.lt_succ_self _,foll hR rfl,by exact exA⟩ ?_;clear hR;rintro s2 out n ⟨m,hm,hR,hx⟩;(try dsimp only at hR hm hx);obtain ⟨m,rfl⟩:=sucA m;refine ai (fun h1=>?_) (fun h2=>?_)
 ·have qh1:=of_decide_eq_true h1;obtain ⟨hf1,hf2,hf3,hf4⟩:=ref09_half hx.2.1 hx.1 qh1;refine ai gkA ?_;refine ai (fun h3=>?_) (fun h4=>?_)
  ·refine Or.inl ?_;(first|refine ⟨Qg3 8 rfl lnA apA,?_⟩|refine ⟨Q52 8 rfl apA,?_⟩);refine ai gkA ?_;exact Q12 (wu64 (Int.tdiv s2 2)) (out++([(n:Int)]:List Int)) (n+1) (wk [0] (tO rfl (tl eqA) .nil) (s1 (s1 (sv (to 0 lnA) (sv (Qt0 (I_eq (wr omA)) lx) .nil))))) omA ⟨m,by exact omA,foll hR (congrArg (fun p:Int × (List Int) × Nat=>Qv5 p.1 p.2.1 p.2.2) (ct h1 (ct h3 rfl))),by exact exA⟩
  ·refine ai gkA ?_;exact Q12 (wu64 (Int.tdiv s2 2)) out (n+1) (wk [0] (tO rfl (tl eqA) .nil) (s1 (s1 (sv (to 0 lnA) (sv (Qt0 (I_eq (wr omA)) lx) .nil))))) omA ⟨m,by exact omA,foll hR (congrArg (fun p:Int × (List Int) × Nat=>Qv5 p.1 p.2.1 p.2.2) (ct h1 (cf h4 rfl))),by exact exA⟩
 ·have qh2:=of_decide_eq_false h2;replace hR:Qv5 s2 out n=R:=fo2 (fun p:Int × (List Int) × Nat=>Qv5 p.1 p.2.1 p.2.2) (s2,out,n) hR (cf h2 rfl);obtain rfl:=foll hR rfl;exact Q30 lw (QG1 0 _ rfl eqA lnA)
def Qmb (set_:Int):Bool:=(decide (set_<281474976710656))
theorem ref14_Few_c (set_:Int):∀ objs,AGives Tryz.prog 179 [U set_] objs (Bo (Qmb set_)):=by
 generalize hR:Qmb set_=R;refine ga (l1 .nil) lx (kp 3 []) Tryz.func179 ?_;obtain rfl:=foll hR rfl;exact Q30 lx sr
def QCa (state:Int):Bool:=((decide (state >= 3))&&(decide (state<=7)))
theorem ref14_Ended_c (state:Int):∀ objs,AGives Tryz.prog 181 [I state] objs (Bo (QCa state)):=by
 generalize hR:QCa state=R;refine ga (l1 .nil) lx (kp 3 []) Tryz.func181 ?_;obtain rfl:=foll hR rfl;exact Q30 lx sr
def QL6 :List Book->Int->Nat->Int
 | [],_,_=>0
 | x_ :: r,last,i=>bif (((((((((i:Int)==8)||(decide (x_.id<=last)))||(decide (x_.id > 99999)))||(decide (x_.from_<0)))||(decide (x_.to<=x_.from_)))||(decide (x_.to > 1000000)))||(decide (x_.nodes<1)))||(decide (x_.nodes > 48))) then 190 else QL6 r x_.id (i+1)
def Qi9 (l:List Book):Int:=QL6 l 0 0
theorem ref19_Check_c (l:List Book) (hs0:l.length<=4294967296):∀ objs,AGives Tryz.prog 129 [bookL l] objs (I (Qi9 l)):=by
 generalize hR:Qi9 l=R;refine ga (.cons lw .nil) lx (kp 6 [9,55]) Tryz.func129 ?_;have hk0:=hs0;obtain z5:l.length<=4294967296:=hs0;refine Qq0 (fun (last:Int) (i:Nat)=>QL6 (List.drop i l) last i=R∧i<=l.length) (fun last i=>l.length - i) (fun last i=>[(0,bookL l),(2,I 0),(3,I last),(4,I (i:Int))]) (fun last i=>[]) 0 0 (wk [] .nil (sl lw (s1 (s1 (s1 .nil))))) ⟨foll hR rfl,by exact omA⟩ ?_;clear hR;rintro last i ⟨hR,hj⟩;(try dsimp only at hR hj);refine ai (fun h1=>?_) (fun h2=>?_)
 ·have hlt:=ltA h1;rw [Qo0 Book.zero hlt] at hR;refine ai gkA ?_;refine ai (fun h3=>?_) (fun h4=>?_)
  ·obtain rfl:=foll hR (ct h3 rfl);exact Q30 lx sr
  ·exact Qm0 ((l.getD i Book.zero).id) (i+1) (wk [] .nil (sl lw (s1 (s1 (sv (Qt0 (I_eq (wr omA)) lx) .nil))))) omA ⟨foll hR (cf h4 rfl),by exact omA⟩
 ·rw [Qp0 (l:=l) (j:=i) (geA h2)] at hR;obtain rfl:=foll hR rfl;exact Q30 lx sr
def Qa4 (s:ByteArray):Bool:=((decide ((ByteArray.size s:Int) > 0))&&(decide ((ByteArray.size s:Int)<65)))
theorem QTe (s:ByteArray):∀ objs,AGives Tryz.prog 130 [Sg s] objs (Bo (Qa4 s)):=by
 generalize hR:Qa4 s=R;refine ga (l1 .nil) lx (kp 3 []) Tryz.func130 ?_;obtain rfl:=foll hR rfl;exact Q30 lx sr
def QZ7 (a:Usage) (b:Usage):Bool:=((Op.bytesLess (ByteArray.toList a.user) (ByteArray.toList b.user))||((ByteArray.toList a.user==ByteArray.toList b.user)&&(Op.bytesLess (ByteArray.toList a.account) (ByteArray.toList b.account))))
theorem QKd (a:Usage) (b:Usage):∀ objs,AGives Tryz.prog 131 [Usage.a a,Usage.a b] objs (Bo (QZ7 a b)):=by
 generalize hR:QZ7 a b=R;refine ga (.cons (Usage.low _ _) (.cons (Usage.low _ _) .nil)) lx (kp 5 []) Tryz.func131 ?_;obtain rfl:=foll hR rfl;exact Q30 lx sr
def QO5 (n:Int) (last:Int):Bool:=(((decide (n > 0))&&(decide (n<100001)))&&(decide (n > last)))
theorem QUe (n:Int) (last:Int):∀ objs,AGives Tryz.prog 70 [I n,I last] objs (Bo (QO5 n last)):=by
 generalize hR:QO5 n last=R;refine ga (l1 (l1 .nil)) lx (kp 5 []) Tryz.func70 ?_;obtain rfl:=foll hR rfl;exact Q30 lx sr
def QL3 (id_:Int):List Job->Nat->Int
 | [],_=>(-1)
 | x_ :: r,i=>bif (x_.id==id_) then (i:Int) else QL3 id_ r (i+1)
def QV6 (l:List Job) (id_:Int):Int:=QL3 id_ l 0
theorem ref15_At_c (l:List Job) (id_:Int) (hs0:l.length<=4294967296∧(∀ y ∈ l,y.sz)):∀ objs,AGives Tryz.prog 132 [jobL l,I id_] objs (I (QV6 l id_)):=by
 generalize hR:QV6 l id_=R;refine ga (.cons lw (l1 .nil)) lx (kp 6 [9,18]) Tryz.func132 ?_;have hk0:=hs0;obtain ⟨z10,z11⟩:l.length<=4294967296∧(∀ y ∈ l,y.sz):=hs0;refine Qw0 (fun (i:Nat)=>QL3 id_ (List.drop i l) i=R∧i<=l.length) (fun i=>l.length - i) (fun i=>[(0,jobL l),(1,I id_),(4,I 0),(5,I (i:Int))]) (fun i=>[]) 0 (wk [] .nil (sl lw (s1 (s1 (s1 .nil))))) ⟨foll hR rfl,by exact omA⟩ ?_;clear hR;rintro i ⟨hR,hj⟩;(try dsimp only at hR hj);refine ai (fun h1=>?_) (fun h2=>?_)
 ·have hlt:=ltA h1;rw [Qo0 Job.zero hlt] at hR;have hxz:(l.getD i Job.zero).sz:=QD4 (by first|assumption|grind) (Job.szz _);have hkz:=hxz;obtain ⟨z3,z4,z5,z6,z7⟩:((l.getD i Job.zero).name).size<=4294967296∧((l.getD i Job.zero).user).size<=4294967296∧((l.getD i Job.zero).account).size<=4294967296∧((((l.getD i Job.zero).shape).alts).length<=4294967296)∧((l.getD i Job.zero).after).length<=4294967296:=hxz;refine ai gkA ?_;refine ai (fun h8=>?_) (fun h9=>?_)
  ·obtain rfl:=foll hR (ct h8 rfl);exact Q30 lx sr
  ·exact QA0 (i+1) (wk [] .nil (sl lw (s1 (s1 (sv (Qt0 (I_eq (wr omA)) lx) .nil))))) omA ⟨foll hR (cf h9 rfl),by exact omA⟩
 ·rw [Qp0 (l:=l) (j:=i) (geA h2)] at hR;obtain rfl:=foll hR rfl;exact Q30 lx sr
theorem ref15_At_g1_lt (id_:Int) (r:List Job):∀ (i:Nat),QL3 id_ r i = -1∨((i:Int)<=QL3 id_ r i∧QL3 id_ r i<(i:Int)+(r.length:Int)):=by
 induction r with
 | nil=>intro i;left;rfl
 | cons x r ih =>
  intro i
  rw [QL3]
  cases (x.id==id_) with
  | true=>right;simp;omega
  | false =>
   rcases ih (i+1) with h|h
   ·left;exact h
   ·right;simp only [cond_false,List.length_cons];omega
theorem ref15_At_lt (L:List Job) (id_:Int):QV6 L id_<0∨(0<=QV6 L id_∧QV6 L id_<(L.length:Int)):=by
 rcases ref15_At_g1_lt id_ L 0 with h|h
 ·left;rw [QV6,h];decide
 ·right;rw [QV6];omega
def Qd6 (n:Int):Nat->Int->Nat->Int × Nat
 | 0,_,_=>(0,0)
 | m+1,out,i=>bif (decide ((i:Int)<n)) then Qd6 n m (wu64 (out*2)) (i+1) else (out,i)
def Qk7 (out:Int) (i:Nat):Int:=out
def Qe9 (n:Int):Int:=Qk7 ((Qd6 n ((Int.toNat (n - (0:Int)))+1) 1 0).1) ((Qd6 n ((Int.toNat (n - (0:Int)))+1) 1 0).2)
theorem ref09_bit_c (n:Int) (hp0:n<=64):∀ objs,AGives Tryz.prog 148 [I n] objs (U (Qe9 n)):=by
 generalize hR:Qe9 n=R;refine ga (l1 .nil) lx (kp 5 [7]) Tryz.func148 ?_;refine Qq0 (fun (out:Int) (i:Nat)=>∃ m,(Int.toNat (n - (i:Int)))<m∧Qk7 (Qd6 n m out i).1 (Qd6 n m out i).2=R) (fun out i=>(Int.toNat (n - (i:Int)))) (fun out i=>[(0,I n),(2,U 0),(3,U out),(4,I (i:Int))]) (fun out i=>[]) 1 0 (wk [] .nil (s1 (s1 (s1 (s1 .nil))))) ⟨_,Nat.lt_succ_self _,foll hR rfl⟩ ?_;clear hR;rintro out i ⟨m,hm,hR⟩;(try dsimp only at hR hm);obtain ⟨m,rfl⟩:=sucA m;refine ai (fun h1=>?_) (fun h2=>?_)
 ·have qh1:=of_decide_eq_true h1;exact Qm0 (wu64 (out*2)) (i+1) (wk [] .nil (s1 (s1 (s1 (sv (Qt0 (I_eq (wr omA)) lx) .nil))))) omA ⟨m,by exact omA,foll hR (congrArg (fun p:Int × Nat=>Qk7 p.1 p.2) (ct h1 rfl))⟩
 ·have qh2:=of_decide_eq_false h2;replace hR:Qk7 out i=R:=fo2 (fun p:Int × Nat=>Qk7 p.1 p.2) (out,i) hR (cf h2 rfl);obtain rfl:=foll hR rfl;exact Q30 lx sr
theorem ref09_bit_all:∀ k:Fin 64,Qe9 (k.1:Int) ≠ 0:=by decide +kernel
theorem ref09_bit_pos (n:Int):0<=n->n<=63->Qe9 n ≠ 0:=by
 intro h0 h
 have:=ref09_bit_all ⟨n.toNat,by omega⟩
 rwa [show ((⟨n.toNat,by omega⟩:Fin 64).1:Int)=n by simp;omega] at this
def Q87 (id_:Int):List Resize->Nat->Resize
 | [],_=>Resize.zero
 | x_ :: r,i=>bif (x_.job==id_) then x_ else Q87 id_ r (i+1)
def Qz9 (s:State) (id_:Int):Resize:=Q87 id_ s.resizes 0
theorem ref25_of_c (s:State) (id_:Int) (hs0:s.sz):∀ objs,AGives Tryz.prog 103 [State.a s,I id_] objs (Resize.a (Qz9 s id_)):=by
 generalize hR:Qz9 s id_=R;refine ga (.cons (State.low _ _) (l1 .nil)) (Resize.low _ _) (kp 6 [10,20]) Tryz.func103 ?_;have hk0:=hs0;obtain ⟨z5,z6,z7,z8,z9,z10,z11⟩:=hs0;refine Qw0 (fun (i:Nat)=>Q87 id_ (List.drop i s.resizes) i=R∧i<=s.resizes.length) (fun i=>s.resizes.length - i) (fun i=>[(1,I id_),(2,AVal.ptr 0 0 8 0 0),(4,AVal.ptr 1 0 5 0 0),(5,I (i:Int))]) (fun i=>[(0,AObj.row 28 8 [[I s.now,nodeL s.nodes,jobL s.jobs,Qi2 s.resizes,bookL s.books,QO2 s.ledger,I s.nextJob,I s.nextBook]]),(0,AObj.row 71 5 [[I 0,Bo false,U 0,U 0,I 0]])]) 0 (wk [0,1] (tO rfl (ts State.lo) (tO rfl (ts Resize.lo) .nil)) (s1 (sv (Q50 0 rfl rfl) (sv (Q50 1 rfl rfl) (s1 .nil))))) ⟨foll hR rfl,by exact omA⟩ ?_;clear hR;rintro i ⟨hR,hj⟩;(try dsimp only at hR hj);refine ai (fun h1=>?_) (fun h2=>?_)
 ·have hlt:=ltA h1;rw [Qo0 Resize.zero hlt] at hR;refine ai gkA ?_;refine ai (fun h3=>?_) (fun h4=>?_)
  ·refine ai gkA ?_;obtain rfl:=foll hR (ct h3 rfl);exact Q30 (Resize.low _ _) sr
  ·exact QA0 (i+1) (wk [0,1] (tO rfl (ts State.lo) (tO rfl (ts Resize.lo) .nil)) (s1 (sv (Q50 0 rfl rfl) (sv (Q50 1 rfl rfl) (sv (Qt0 (I_eq (wr omA)) lx) .nil))))) omA ⟨foll hR (cf h4 rfl),by exact omA⟩
 ·rw [Qp0 (l:=s.resizes) (j:=i) (geA h2)] at hR;obtain rfl:=foll hR rfl;exact Q30 (Resize.low _ _) sr
def Qg6 (n:Int):Nat->Int->Nat->Int × Nat
 | 0,_,_=>(0,0)
 | m+1,out,i=>bif (decide ((i:Int)<n)) then Qg6 n m (wu64 (2*out)) (i+1) else (out,i)
def Ql7 (out:Int) (i:Nat):Int:=out
def Q6a (n:Int):Int:=Ql7 ((Qg6 n ((Int.toNat (n - (0:Int)))+1) 1 0).1) ((Qg6 n ((Int.toNat (n - (0:Int)))+1) 1 0).2)
theorem ref12_bit_c (n:Int) (hp0:n<=64):∀ objs,AGives Tryz.prog 105 [I n] objs (U (Q6a n)):=by
 generalize hR:Q6a n=R;refine ga (l1 .nil) lx (kp 5 [7]) Tryz.func105 ?_;refine Qq0 (fun (out:Int) (i:Nat)=>∃ m,(Int.toNat (n - (i:Int)))<m∧Ql7 (Qg6 n m out i).1 (Qg6 n m out i).2=R) (fun out i=>(Int.toNat (n - (i:Int)))) (fun out i=>[(0,I n),(2,U 0),(3,U out),(4,I (i:Int))]) (fun out i=>[]) 1 0 (wk [] .nil (s1 (s1 (s1 (s1 .nil))))) ⟨_,Nat.lt_succ_self _,foll hR rfl⟩ ?_;clear hR;rintro out i ⟨m,hm,hR⟩;(try dsimp only at hR hm);obtain ⟨m,rfl⟩:=sucA m;refine ai (fun h1=>?_) (fun h2=>?_)
 ·have qh1:=of_decide_eq_true h1;exact Qm0 (wu64 (2*out)) (i+1) (wk [] .nil (s1 (s1 (s1 (sv (Qt0 (I_eq (wr omA)) lx) .nil))))) omA ⟨m,by exact omA,foll hR (congrArg (fun p:Int × Nat=>Ql7 p.1 p.2) (ct h1 rfl))⟩
 ·have qh2:=of_decide_eq_false h2;replace hR:Ql7 out i=R:=fo2 (fun p:Int × Nat=>Ql7 p.1 p.2) (out,i) hR (cf h2 rfl);obtain rfl:=foll hR rfl;exact Q30 lx sr
def Qr3 (n:Int):Bool:=((((n==1)||(n==2))||(n==4))||(n==8))
theorem QGd (n:Int):∀ objs,AGives Tryz.prog 106 [I n] objs (Bo (Qr3 n)):=by
 generalize hR:Qr3 n=R;refine ga (l1 .nil) lx (kp 3 []) Tryz.func106 ?_;obtain rfl:=foll hR rfl;exact Q30 lx sr
def QC5 (ok:Bool):ByteArray:=bif ok then ⟨#[1]⟩ else ⟨#[0]⟩
theorem Q28 (ok:Bool):∀ objs,AGives Tryz.prog 33 [Bo ok] objs (Sg (QC5 ok)):=by
 generalize hR:QC5 ok=R;refine ga (l1 .nil) lx (kp 3 [3]) Tryz.func33 ?_;refine ai (fun h1=>?_) (fun h2=>?_)
 ·obtain rfl:=foll hR (ct h1 rfl);exact Q30 lx sr
 ·obtain rfl:=foll hR (cf h2 rfl);exact Q30 lx sr
theorem QVe {x:ByteArray} {ok:Bool} {c m:Nat} (h:x.size+(1+c)<=m):(x++QC5 ok).size+c<=m:=by
 have:(QC5 ok).size=1:=by cases ok <;> rfl
 rw [ByteArray.size_append];omega
end Go.Proofs.YtgjcljceccfgjaaGreatDoor
namespace Go.Proofs.YtgjcljceccfgjaaGreatDoor
set_option linter.unusedSimpArgs false
set_option linter.unusedVariables false
open Go.Fw
set_option maxRecDepth 20000
set_option maxHeartbeats 4000000
attribute [local irreducible] ACalls AMoves
def Q2a (j:Job):Bool:=(((((Qrd j.shape)&&(decide ((j.after.length:Int)<=100)))&&(decide ((ByteArray.size j.name:Int)<=1000)))&&(decide ((ByteArray.size j.user:Int)<=1000)))&&(decide ((ByteArray.size j.account:Int)<=1000)))
theorem law14_Few_c (j:Job):∀ objs,AGives Tryz.prog 55 [Job.a j] objs (Bo (Q2a j)):=by
 generalize hR:Q2a j=R;refine ga (.cons (Job.low _ _) .nil) lx (kp 3 []) Tryz.func55 ?_;refine us (law07_Few_c j.shape _) ?_;obtain rfl:=foll hR rfl;exact Q30 lx sr
def QE1 (s:List Node) (f:Node->Bool):Bool:=(decide ((Q03 s f) >= 0))
def Qp2 (s:List Int) (v:Int):Bool:=(decide ((QE8 s v) >= 0))
theorem QF3 (s:List Int) (v:Int) (hs0:s.length<=4294967296):∀ objs,AGives Tryz.prog 151 [ints s,I v] objs (Bo (Qp2 s v)):=by
 generalize hR:Qp2 s v=R;refine ga (.cons lw (l1 .nil)) lx (kp 5 []) Tryz.func151 ?_;have hk0:=hs0;obtain z1:s.length<=4294967296:=hs0;refine us (QZd s v szA _) ?_;obtain rfl:=foll hR rfl;exact Q30 lx sr
def Qo4 (n:Int):Int:=(QR5 n 0 1000000000000)
theorem QEa (n:Int):∀ objs,AGives Tryz.prog 117 [I n] objs (I (Qo4 n)):=by
 generalize hR:Qo4 n=R;refine ga (l1 .nil) lx (kp 3 []) Tryz.func117 ?_;refine us (Qef n 0 1000000000000 _) ?_;obtain rfl:=foll hR rfl;exact Q30 lx sr
def QQ9 (n:Int):Bool:=(QZ1 n 1 100000)
theorem cmd_length_c (n:Int):∀ objs,AGives Tryz.prog 183 [I n] objs (Bo (QQ9 n)):=by
 generalize hR:QQ9 n=R;refine ga (l1 .nil) lx (kp 3 []) Tryz.func183 ?_;refine us (QV3 n 1 100000 _) ?_;obtain rfl:=foll hR rfl;exact Q30 lx sr
def QO6 :List (Nat × Int)->Nat->Int × Int
 | [],n=>((n:Int),0)
 | x_ :: r,n=>bif ((QB1 x_.2)==0) then ((n:Int),40) else QO6 r (n+1)
def Qw5 (s:ByteArray):Int × Int:=QO6 (Qj8 s) 0
theorem QTd (s:ByteArray) (hs0:s.size<=4294967296):∀ objs,AGives Tryz.prog 198 [Sg s] objs (AVal.tup [I ((Qw5 s).1),I ((Qw5 s).2)]):=by
 generalize hR:Qw5 s=R;refine ga (l1 .nil) (Low.tup' (l1 (l1 .nil))) (kp 7 [8,9,10,14]) Tryz.func198 ?_;have hk0:=hs0;obtain z5:s.size<=4294967296:=hs0;refine Qq0 (fun (n:Nat) (pos:Nat)=>∃ m,ByteArray.size s - pos<=m∧QO6 (QX4 s m pos) n=R∧n<=pos) (fun n pos=>ByteArray.size s - pos) (fun n pos=>[(2,I 0),(3,I 0),(4,I (n:Int)),(8,AVal.ptr 0 0 1 0 0)]) (fun n pos=>[(0,AObj.other (.strIter s pos))]) 0 0 (wk [0] (tO rfl (.strIter _ _) .nil) (s1 (s1 (s1 (sv (Q50 0 rfl rfl) .nil))))) ⟨ByteArray.size s,by exact omA,foll hR rfl,by exact exA⟩ ?_;clear hR;rintro n pos ⟨m,hm,hR,hx⟩;(try dsimp only at hR hm hx);refine ai (fun h1=>?_) (fun h2=>?_)
 ·have hlt:=of_decide_eq_true h1;have hw:=QO8 s pos;have hwe:=QN8 s pos hlt;obtain ⟨m,rfl⟩:=sucA m;rw [QU3 h1] at hR;refine ai (fun _=>?_) (fun h=>nomatch h);refine us (Qx5 ((pos,((Utf8.decode s pos).1:Int)).2) _) ?_;refine ai (fun h3=>?_) (fun h4=>?_)
  ·obtain rfl:=foll hR (ct h3 rfl);exact Q30 (Low.tup' (l1 (l1 .nil))) (Seen.tup (e1 (e1 .nil)))
  ·exact Qm0 (n+1) (pos+(Utf8.decode s pos).2) (wk [0] (tO rfl (.strIter _ _) .nil) (s1 (s1 (sv (Qt0 (I_eq (wr omA)) lx) (sv (Q50 0 rfl rfl) .nil))))) omA ⟨m,by exact omA,foll hR (cf h4 rfl),by exact exA⟩
 ·rw [Qo6 h2] at hR;refine ai (fun h=>nomatch h) (fun _=>?_);obtain rfl:=foll hR rfl;exact Q30 (Low.tup' (l1 (l1 .nil))) (Seen.tup (e1 (e1 .nil)))
def Qu0 (y:Int):List Int->Nat->Bool
 | [],_=>((false||(y==45))||(y==95))
 | x_ :: r,i=>bif ((QB1 y)==x_) then ((true||(y==45))||(y==95)) else Qu0 y r (i+1)
def QJ2 (r_:LexReader):Token × LexReader:=((⟨1,(Q38 ((Q90 r_ (fun (y:Int)=>Qu0 y ([2,3]:List Int) 0)).1)),0,0⟩:Token),(Q90 r_ (fun (y:Int)=>Qu0 y ([2,3]:List Int) 0)).2)
theorem Qje (r_:LexReader) (hs0:r_.sz) (hp0:0<=r_.at_∧r_.at_<=(r_.line.length:Int)∧r_.line.length<=400):AMoves Tryz.prog 232 [AVal.ptr 0 0 4 0 0] [(0,AObj.row 259 4 [[runes r_.line,I r_.at_,I r_.bad,I r_.error]])] 1 (Token.a ((QJ2 r_).1)) [(0,AObj.row 259 4 [[runes ((QJ2 r_).2.line),I ((QJ2 r_).2.at_),I ((QJ2 r_).2.bad),I ((QJ2 r_).2.error)]])]:=by
 generalize hR:QJ2 r_=R;refine mo (kp 5 []) Tryz.func232 ?_;have hk0:=hs0;obtain z7:r_.line.length<=4294967296:=hs0;refine Or.inl ?_;refine ACalls.of_cwp (fun _=>true) Tryz.func221 rfl rfl ?_;refine ⟨_,_,Told.refl,?_⟩;have cl1:∀ (y1:Int),AMoves Tryz.prog 242 [J y1,AVal.ptr 1 0 1 0 0] [(0,AObj.row 160 1 [[ints ([2,3]:List Int)]]),(0,AObj.row 260 1 [[AVal.fn (.func 231) [] [AVal.ptr 0 0 1 0 0]]])] 2 (Bo ((fun (y:Int)=>Qu0 y ([2,3]:List Int) 0) y1)) [(0,AObj.row 160 1 [[ints ([2,3]:List Int)]]),(0,AObj.row 260 1 [[AVal.fn (.func 231) [] [AVal.ptr 0 0 1 0 0]]])]:=by
  intro y1;have hR:(fun (y:Int)=>Qu0 y ([2,3]:List Int) 0) y1=(fun (y:Int)=>Qu0 y ([2,3]:List Int) 0) y1:=rfl;refine mo (kp 4 []) Tryz.func242 ?_;refine ACalls.of_cwp (fun _=>true) Tryz.func231 rfl rfl ?_;refine Qw0 (fun (i:Nat)=>Qu0 y1 (List.drop i ([2,3]:List Int)) i=(fun (y:Int)=>Qu0 y ([2,3]:List Int) 0) y1∧i<=([2,3]:List Int).length) (fun i=>([2,3]:List Int).length - i) (fun i=>[(0,J y1),(3,Bo false),(6,ints ([2,3]:List Int)),(7,I (([2,3]:List Int).length:Int)),(8,I (i:Int))]) (fun i=>[(0,AObj.row 160 1 [[ints ([2,3]:List Int)]]),(0,AObj.row 260 1 [[AVal.fn (.func 231) [] [AVal.ptr 0 0 1 0 0]]])]) 0 (wk [0,1] (tO rfl (ts (lv lw LowL.nil)) (tO rfl (Qk0 (cv (Q51 .nil (cv (Q50 0 rfl rfl) .nil)) .nil)) .nil)) (s1 (s1 (sl lw (s1 (s1 .nil)))))) ⟨foll hR rfl,by exact omA⟩ ?_;clear hR;rintro i ⟨hR,hj⟩;(try dsimp only at hR hj);refine ai (fun h1=>?_) (fun h2=>?_)
  ·(have hlt:i<([2,3]:List Int).length:=by have:=of_decide_eq_true h1;omega);rw [Qo0 0 hlt] at hR;refine ai gkA ?_;refine us (Qx5 y1 _) ?_;refine ai (fun h3=>?_) (fun h4=>?_)
   ·refine ⟨_,_,Told.refl,?_⟩;refine Q41 (fun r:Bool=>Bo r) (fun _=>[(0,AObj.row 160 1 [[ints ([2,3]:List Int)]]),(0,AObj.row 260 1 [[AVal.fn (.func 231) [] [AVal.ptr 0 0 1 0 0]]])]) (leaf:=((true||(y1==45))||(y1==95))) (foll hR (ct h3 rfl)) ?_;exact tt [0,1] (tO rfl (ts (lv lw LowL.nil)) (tO rfl (Qk0 (cv (Q51 .nil (cv (Q50 0 rfl rfl) .nil)) .nil)) .nil)) t1
   ·exact QA0 (i+1) (wk [0,1] (tO rfl (ts (lv lw LowL.nil)) (tO rfl (Qk0 (cv (Q51 .nil (cv (Q50 0 rfl rfl) .nil)) .nil)) .nil)) (s1 (s1 (sl lw (s1 (sv (Qt0 (I_eq (wr omA)) lx) .nil)))))) omA ⟨foll hR (cf h4 rfl),by exact omA⟩
  ·rw [Qp0 (l:=([2,3]:List Int)) (j:=i) (geA h2)] at hR;refine ⟨_,_,Told.refl,?_⟩;refine Q41 (fun r:Bool=>Bo r) (fun _=>[(0,AObj.row 160 1 [[ints ([2,3]:List Int)]]),(0,AObj.row 260 1 [[AVal.fn (.func 231) [] [AVal.ptr 0 0 1 0 0]]])]) (leaf:=((false||(y1==45))||(y1==95))) (foll hR rfl) ?_;exact tt [0,1] (tO rfl (ts (lv lw LowL.nil)) (tO rfl (Qk0 (cv (Q51 .nil (cv (Q50 0 rfl rfl) .nil)) .nil)) .nil)) t1
 have hof1:AMoves Tryz.prog 222 [AVal.ptr 0 0 4 0 0,AVal.fn (.func 242) [] [AVal.ptr 2 0 1 0 0]] [(0,AObj.row 259 4 [[runes r_.line,I r_.at_,I r_.bad,I r_.error]]),(0,AObj.row 160 1 [[ints ([2,3]:List Int)]]),(0,AObj.row 260 1 [[AVal.fn (.func 231) [] [AVal.ptr 1 0 1 0 0]]])] 3 (Sg ((Q90 r_ (fun (y:Int)=>Qu0 y ([2,3]:List Int) 0)).1)) [(0,AObj.row 259 4 [[runes (((Q90 r_ (fun (y:Int)=>Qu0 y ([2,3]:List Int) 0)).2).line),I (((Q90 r_ (fun (y:Int)=>Qu0 y ([2,3]:List Int) 0)).2).at_),I (((Q90 r_ (fun (y:Int)=>Qu0 y ([2,3]:List Int) 0)).2).bad),I (((Q90 r_ (fun (y:Int)=>Qu0 y ([2,3]:List Int) 0)).2).error)]]),(0,AObj.row 160 1 [[ints ([2,3]:List Int)]]),(0,AObj.row 260 1 [[AVal.fn (.func 231) [] [AVal.ptr 1 0 1 0 0]]])]:=by
  have hR:Q90 r_ (fun (y:Int)=>Qu0 y ([2,3]:List Int) 0)=Q90 r_ (fun (y:Int)=>Qu0 y ([2,3]:List Int) 0):=rfl;refine mo (kp 6 [33]) Tryz.func222 ?_;refine Qw0 (fun (c:LexReader)=>∃ m,(Int.toNat ((c.line.length:Int) - c.at_))<m∧QP0 r_ (QO0 (fun (y:Int)=>Qu0 y ([2,3]:List Int) 0) m c)=Q90 r_ (fun (y:Int)=>Qu0 y ([2,3]:List Int) 0)∧0<=c.at_∧c.at_<=(c.line.length:Int)∧c.line.length<=400∧r_.at_<=c.at_∧0<=r_.at_) (fun c=>(Int.toNat ((c.line.length:Int) - c.at_))) (fun c=>[(0,AVal.ptr 0 0 4 0 0),(1,AVal.fn (.func 242) [] [AVal.ptr 2 0 1 0 0]),(4,Sg ⟨#[]⟩),(5,I r_.at_)]) (fun c=>[(0,AObj.row 259 4 [[runes c.line,I c.at_,I c.bad,I c.error]]),(0,AObj.row 160 1 [[ints ([2,3]:List Int)]]),(0,AObj.row 260 1 [[AVal.fn (.func 231) [] [AVal.ptr 1 0 1 0 0]]])]) r_ (wk [0,1,2] (tO rfl (ts LexReader.lo) (tO rfl (ts (lv lw LowL.nil)) (tO rfl (Qk0 (cv (Q51 .nil (cv (Q50 1 rfl rfl) .nil)) .nil)) .nil))) (sv (Q50 0 rfl rfl) (sv (Q51 .nil (cv (Q50 2 rfl rfl) .nil)) (s1 (s1 .nil))))) ⟨_,Nat.lt_succ_self _,foll hR rfl,by exact exA⟩ ?_;clear hR;rintro c ⟨m,hm,hR,hx⟩;(try dsimp only at hR hm hx);obtain ⟨m,rfl⟩:=sucA m;refine dchk (by kernel_rfl) ?_;refine ai gkA ?_;(first|apply u2|apply u3|apply u4|apply us);exact mv [1,2] (cl1 (c.line.getD (Int.toNat c.at_) 0)) (dO (ds (lv lw LowL.nil)) (dO (dc (dv (dn_fn .nil (dp .nil)) .nil)) .nil)) (d1 (dp .nil)) (rO (re (lv lw LowL.nil)) (rO (rc (rv (ren_fn .nil (.cons _ _ _ _ (rp 1 0 rfl) .nil)) .nil)) .nil)) rx;(repeat ((first|refine ai rfl ?_|refine ai (fun _=>rfl) ?_)));refine ai (fun h5=>?_) (fun h6=>?_)
  ·have hq1:=of_decide_eq_true ((Bool.and_eq_true _ _).mp h5).1;have hwr:w64 (c.at_+1)=c.at_+1:=wr (by omega);exact QA0 { c with at_:=(w64 (c.at_+1)) } (wk [0,1,2] (tO rfl (ts LexReader.lo) (tO rfl (ts (lv lw LowL.nil)) (tO rfl (Qk0 (cv (Q51 .nil (cv (Q50 1 rfl rfl) .nil)) .nil)) .nil))) (sv (Q50 0 rfl rfl) (sv (Q51 .nil (cv (Q50 2 rfl rfl) .nil)) (s1 (s1 .nil))))) omA ⟨m,by exact omA,foll hR (congrArg (fun p:LexReader=>QP0 r_ p) (ct h5 rfl)),by exact exA⟩
  ·replace hR:QP0 r_ c=Q90 r_ (fun (y:Int)=>Qu0 y ([2,3]:List Int) 0):=fo2 (fun p:LexReader=>QP0 r_ p) (c) hR (cf h6 rfl);refine dchk (by kernel_rfl) ?_;refine ai gkA ?_;(first|refine ⟨(List.drop (Int.toNat r_.at_) (List.take (Int.toNat c.at_) c.line)),by exact cvA,?_⟩|refine ⟨_,fun _=>⟨(List.drop (Int.toNat r_.at_) (List.take (Int.toNat c.at_) c.line)),by exact cvA,rfl,rfl⟩,?_⟩|refine ⟨_,rfl,⟨(List.drop (Int.toNat r_.at_) (List.take (Int.toNat c.at_) c.line)),by exact cvA,Sub.refl _,rfl⟩,?_⟩);(repeat ((first|refine ai rfl ?_|refine ai (fun _=>rfl) ?_)));refine Q41 (fun r:ByteArray × LexReader=>Sg r.1) (fun r:ByteArray × LexReader=>[(0,AObj.row 259 4 [[runes r.2.line,I r.2.at_,I r.2.bad,I r.2.error]]),(0,AObj.row 160 1 [[ints ([2,3]:List Int)]]),(0,AObj.row 260 1 [[AVal.fn (.func 231) [] [AVal.ptr 1 0 1 0 0]]])]) (leaf:=((runesBytes (List.drop (Int.toNat r_.at_) (List.take (Int.toNat c.at_) c.line))),c)) (foll hR rfl) ?_;exact tt [0,1,2] (tO rfl (ts LexReader.lo) (tO rfl (ts (lv lw LowL.nil)) (tO rfl (Qk0 (cv (Q51 .nil (cv (Q50 1 rfl rfl) .nil)) .nil)) .nil))) t1
 refine us (mv [0,2,3] (hof1) (dO (ds LexReader.lo) (dO (dc (dv (dn_as (QS7 (c:=(fun q_=>[I q_])) (d:=0) ([2,3]:List Int) rfl) lw) .nil)) (dO (dc (dv (dn_fn .nil (dp .nil)) .nil)) .nil))) (dp (dv (dn_fn .nil (dp .nil)) .nil)) (rO (re LexReader.lo) (rO (re (lv lw LowL.nil)) (rO (rc (rv (ren_fn .nil (.cons _ _ _ _ (rp 2 0 rfl) .nil)) .nil)) .nil))) rx) ?_;refine us (runes_Lower_c ((Q90 r_ (fun (y:Int)=>Qu0 y ([2,3]:List Int) 0)).1) (by first|(exact Q9b _ _ hp0.2.2)|exact szA) _) ?_;obtain rfl:=foll hR rfl;exact rq (tt [0] (tO rfl (ts LexReader.lo) .nil) (Qo1 (Low.agg' (Token.lo))))
def Qxb (s:ByteArray):Int × Unit:=((Qta s).1,())
theorem strconv_Atoi_c (s:ByteArray) (hs0:s.size<=4294967296) (hp0:atoiOK s):∀ objs,AGives Tryz.prog 252 [Sg s] objs (AVal.tup [I ((Qxb s).1),AVal.lit .nilIface]):=by
 generalize hR:Qxb s=R;refine ga (l1 .nil) (Low.tup' (l1 (l1 .nil))) (kp 6 [12]) Tryz.func252 ?_;have hk0:=hs0;obtain z1:s.size<=4294967296:=hs0;refine us (QRf s szA ckA _) ?_;refine ai (fun h=>nomatch h) (fun _=>?_);obtain rfl:=foll hR rfl;exact Q30 (Low.tup' (l1 (l1 .nil))) (Seen.tup (e1 (e1 .nil)))
def QM1 (x_:Int) (held:Bool):Bool × Bool:=bif (((QB1 x_)==0)||((x_==34)&&(!held))) then (false,held) else (true,((x_==92)&&(!held)))
theorem Q2c (x_:Int) (held:Bool):AMoves Tryz.prog 247 [J x_,AVal.ptr 0 0 1 0 0] [(0,AObj.row 4 1 [[Bo held]])] 1 (Bo ((QM1 x_ held).1)) [(0,AObj.row 4 1 [[Bo ((QM1 x_ held).2)]])]:=by
 generalize hR:QM1 x_ held=R;refine mo (kp 4 [14]) Tryz.func247 ?_;refine us (Qx5 x_ _) ?_;refine ai (fun h1=>?_) (fun h2=>?_)
 ·obtain rfl:=foll hR (ct h1 rfl);exact rq (tt [0] (tO rfl (ts (l1 LowL.nil)) .nil) t1)
 ·obtain rfl:=foll hR (cf h2 rfl);exact rq (tt [0] (tO rfl (ts (l1 LowL.nil)) .nil) t1)
def Q01 (p_:List Int) (r_:Int):(List Int):=bif (decide ((wu32 r_)<=127)) then (p_++([(wu8 r_)]:List Int)) else (Qb3 p_ r_)
theorem Qve (p_:List Int) (r_:Int) (hs0:p_.length<=4294967296):AMoves Tryz.prog 251 [AVal.own 0 0 1 0 p_.length,J r_] [(0,AObj.row 5 1 (p_.map (fun q_=>[Y q_])))] 0 (AVal.own 0 0 1 0 (Q01 p_ r_).length) [(0,AObj.row 5 1 ((Q01 p_ r_).map (fun q_=>[Y q_])))]:=by
 generalize hR:Q01 p_ r_=R;refine mo (kp 5 [7]) Tryz.func251 ?_;have hk0:=hs0;obtain z3:p_.length<=4294967296:=hs0;refine ai (fun h1=>?_) (fun h2=>?_)
 ·have qh1:=of_decide_eq_true h1;refine Or.inl ?_;(first|refine ⟨Qg3 1 rfl lnA apA,?_⟩|refine ⟨Q52 1 rfl apA,?_⟩);obtain rfl:=foll hR (ct h1 rfl);exact rq (tt [0] (tO rfl (tl eqA) .nil) (to 0 lnA))
 ·have qh2:=of_decide_eq_false h2;refine us (mv [0] (QK9 p_ r_ szA) (dO (dr eqA) .nil) (dv (QT0 rfl lnA) (d1 .nil)) (rO rr .nil) (rw_ 1 0 rfl)) ?_;obtain rfl:=foll hR (cf h2 rfl);exact rq (tt [1] (tO rfl (tl eqA) .nil) (to 0 lnA))
theorem Qc7 (l:List Int) (r_:Int):∃ k,Q01 l r_=l++k∧1<=k.length∧k.length<=4∧Q31 k:=by
 have h1:∀ a:Int,Q31 [wu8 a]:=fun a=>QY5 (wu8_in a) Q54
 have h2:∀ a b:Int,Q31 [wu8 a,wu8 b]:=fun a b=>QY5 (wu8_in a) (h1 b)
 have h3:∀ a b c:Int,Q31 [wu8 a,wu8 b,wu8 c]:=fun a b c=>QY5 (wu8_in a) (h2 b c)
 have h4:∀ a b c d:Int,Q31 [wu8 a,wu8 b,wu8 c,wu8 d]:=fun a b c d=>QY5 (wu8_in a) (h3 b c d)
 have hc:Q31 [239,191,189]:=QY5 (by decide) (QY5 (by decide) (QY5 (by decide) Q54))
 unfold Q01
 cases (decide ((wu32 r_)<=127)) with
 | true=>exact ⟨_,rfl,by simp,by simp,h1 _⟩
 | false =>
  simp only [cond_false]
  unfold Qb3
  repeat' first
   | exact ⟨_,rfl,by simp,by simp,h2 _ _⟩
   | exact ⟨_,rfl,by simp,by simp,h3 _ _ _⟩
   | exact ⟨_,rfl,by simp,by simp,h4 _ _ _ _⟩
   | exact ⟨_,rfl,by simp,by simp,hc⟩
   | unfold Qk3
   | (rw [Bool.cond_eq_ite];split)
theorem QL7 (l:List Int) (r_:Int):(Q01 l r_).length ≠ 0:=by
 obtain ⟨k,e,h,_⟩:=Qc7 l r_
 rw [e,List.length_append]
 omega
theorem Qp4 (l:List Int) (r_:Int):(Q01 l r_).length<=l.length+4:=by
 obtain ⟨k,e,_,h,_⟩:=Qc7 l r_
 rw [e,List.length_append]
 omega
theorem Q09 (l:List Int) (r_:Int) (h:Q31 l):Q31 (Q01 l r_):=by
 obtain ⟨k,e,_,_,g⟩:=Qc7 l r_
 rw [e]
 exact Qz2 h g
def QH0 (s:List Dep) (f:Dep->Bool):Bool:=(decide ((Qr1 s f) >= 0))
def QVa (n:Int):Bool:=(QZ1 n 1 99999)
theorem Qhf (n:Int):∀ objs,AGives Tryz.prog 188 [I n] objs (Bo (QVa n)):=by
 generalize hR:QVa n=R;refine ga (l1 .nil) lx (kp 3 []) Tryz.func188 ?_;refine us (QV3 n 1 99999 _) ?_;obtain rfl:=foll hR rfl;exact Q30 lx sr
def Qb1 (s:List Alt) (f:Alt->Bool):Bool:=(decide ((Qq1 s f) >= 0))
def Qea (a:Shape) (b:Shape):Bool:=(((((a.kind==b.kind)&&(a.min==b.min))&&(a.max==b.max))&&(a.wall==b.wall))&&(QW6 a.alts b.alts))
theorem shape_Same_c (a:Shape) (b:Shape) (hs0:a.sz) (hs1:b.sz):∀ objs,AGives Tryz.prog 189 [Shape.a a,Shape.a b] objs (Bo (Qea a b)):=by
 generalize hR:Qea a b=R;refine ga (.cons (Shape.low _ _) (.cons (Shape.low _ _) .nil)) lx (kp 5 []) Tryz.func189 ?_;have hk0:=hs0;obtain z1:a.alts.length<=4294967296:=hs0;have hk1:=hs1;obtain z2:b.alts.length<=4294967296:=hs1;(first|apply u2|apply u3|apply u4|apply us);exact QXd a.alts b.alts szA szA _;obtain rfl:=foll hR rfl;exact Q30 lx sr
def QP3 (v:Job):Bool:=(((((((v.nodes==0)&&(QL2 v.start))&&(QL2 v.limit))&&(decide (v.promise >= (-1))))&&(decide (v.promise<=1000000)))&&(decide (v.choice >= 0)))&&(decide (v.choice<=48)))
theorem QUf (v:Job):∀ objs,AGives Tryz.prog 157 [Job.a v] objs (Bo (QP3 v)):=by
 generalize hR:QP3 v=R;refine ga (.cons (Job.low _ _) .nil) lx (kp 3 []) Tryz.func157 ?_;(first|apply u2|apply u3|apply u4|apply us);exact Qg7 v.start _;(first|apply u2|apply u3|apply u4|apply us);exact Qg7 v.limit _;obtain rfl:=foll hR rfl;exact Q30 lx sr
def QS1 (s:Int):Int:=(QT6 s)
theorem Q75 (s:Int):∀ objs,AGives Tryz.prog 122 [U s] objs (I (QS1 s)):=by
 generalize hR:QS1 s=R;refine ga (l1 .nil) lx (kp 3 []) Tryz.func122 ?_;refine us (Q2d s _) ?_;obtain rfl:=foll hR rfl;exact Q30 lx sr
def QF4 (n:Int):Int:=bif (decide (n<=0)) then 0 else bif (decide (n >= 64)) then 18446744073709551615 else (wu64 ((Qw2 n) - 1))
theorem nodeset_All_c (n:Int):∀ objs,AGives Tryz.prog 192 [I n] objs (U (QF4 n)):=by
 generalize hR:QF4 n=R;refine ga (l1 .nil) lx (kp 3 [3,6]) Tryz.func192 ?_;refine ai (fun h1=>?_) (fun h2=>?_)
 ·have qh1:=of_decide_eq_true h1;obtain rfl:=foll hR (ct h1 rfl);exact Q30 lx sr
 ·have qh2:=of_decide_eq_false h2;refine ai (fun h3=>?_) (fun h4=>?_)
  ·have qh3:=of_decide_eq_true h3;obtain rfl:=foll hR (cf h2 (ct h3 rfl));exact Q30 lx sr
  ·have qh4:=of_decide_eq_false h4;refine us (QF7 n _) ?_;obtain rfl:=foll hR (cf h2 (cf h4 rfl));exact Q30 lx sr
def Qp6 (l:List Book):List Book->Nat->Int
 | [],_=>0
 | x_ :: r,i=>bif ((!(Qm7 x_))||((decide ((i:Int) > 0))&&(decide ((l.getD (Int.toNat (w64 ((i:Int) - 1))) Book.zero).id >= x_.id)))) then 190 else Qp6 l r (i+1)
def QD5 (l:List Book):Int:=bif (decide ((l.length:Int) > 8)) then 190 else Qp6 l l 0
theorem book_Check_c (l:List Book) (hs0:l.length<=4294967296):∀ objs,AGives Tryz.prog 115 [bookL l] objs (I (QD5 l)):=by
 generalize hR:QD5 l=R;refine ga (.cons lw .nil) lx (kp 5 [7,8,9,10,11,32]) Tryz.func115 ?_;have hk0:=hs0;obtain z7:l.length<=4294967296:=hs0;refine ai (fun h1=>?_) (fun h2=>?_)
 ·have qh1:=of_decide_eq_true h1;obtain rfl:=foll hR (ct h1 rfl);exact Q30 lx sr
 ·have qh2:=of_decide_eq_false h2;refine Qw0 (fun (i:Nat)=>Qp6 l (List.drop i l) i=R∧i<=l.length) (fun i=>l.length - i) (fun i=>[(0,bookL l),(2,I 0),(8,bookL l),(9,I (l.length:Int)),(10,I (i:Int))]) (fun i=>[]) 0 (wk [] .nil (sl lw (s1 (sl lw (s1 (s1 .nil)))))) ⟨foll hR (cf h2 rfl),by exact omA⟩ ?_;clear hR;rintro i ⟨hR,hj⟩;(try dsimp only at hR hj);refine ai (fun h3=>?_) (fun h4=>?_)
  ·have hlt:=ltA h3;rw [Qo0 Book.zero hlt] at hR;refine ai gkA ?_;refine dchk (by kernel_rfl) ?_;(first|apply u2|apply u3|apply u4|apply us);exact Qvf (l.getD i Book.zero) _;refine ai gkA ?_;(repeat ((first|refine ai rfl ?_|refine ai (fun _=>rfl) ?_|refine ai (fun _=>Qvf (l.getD i Book.zero) _) ?_)));refine ai (fun h5=>?_) (fun h6=>?_)
   ·obtain rfl:=foll hR (ct h5 rfl);exact Q30 lx sr
   ·exact QA0 (i+1) (wk [] .nil (sl lw (s1 (sl lw (s1 (sv (Qt0 (I_eq (wr omA)) lx) .nil)))))) omA ⟨foll hR (cf h6 rfl),by exact omA⟩
  ·rw [Qp0 (l:=l) (j:=i) (geA h4)] at hR;obtain rfl:=foll hR rfl;exact Q30 lx sr
def Qg1 (x_:ByteArray) (y:ByteArray):Int:=bif (Qq4 x_) then bif (Qq4 y) then 0 else (-1) else bif (Qq4 y) then 1 else bif (Op.bytesLess (ByteArray.toList x_) (ByteArray.toList y)) then (-1) else bif (!((Op.bytesLess (ByteArray.toList x_) (ByteArray.toList y))||(ByteArray.toList x_==ByteArray.toList y))) then 1 else 0
theorem QT4 (x_:ByteArray) (y:ByteArray):∀ objs,AGives Tryz.prog 143 [Sg x_,Sg y] objs (I (Qg1 x_ y)):=by
 generalize hR:Qg1 x_ y=R;refine ga (l1 (l1 .nil)) lx (kp 7 [11,12,13,16,19]) Tryz.func143 ?_;refine us (Qo9 x_ _) ?_;refine us (Qo9 y _) ?_;refine ai (fun h1=>?_) (fun h2=>?_)
 ·refine ai (fun h3=>?_) (fun h4=>?_)
  ·obtain rfl:=foll hR (ct h1 (ct h3 rfl));exact Q30 lx sr
  ·obtain rfl:=foll hR (ct h1 (cf h4 rfl));exact Q30 lx sr
 ·refine ai (fun h5=>?_) (fun h6=>?_)
  ·obtain rfl:=foll hR (cf h2 (ct h5 rfl));exact Q30 lx sr
  ·refine ai (fun h7=>?_) (fun h8=>?_)
   ·obtain rfl:=foll hR (cf h2 (cf h6 (ct h7 rfl)));exact Q30 lx sr
   ·refine ai (fun h9=>?_) (fun h10=>?_)
    ·obtain rfl:=foll hR (cf h2 (cf h6 (cf h8 (ct h9 rfl))));exact Q30 lx sr
    ·obtain rfl:=foll hR (cf h2 (cf h6 (cf h8 (cf h10 rfl))));exact Q30 lx sr
def Qs5 :List Int->Int->Nat->Int × Int
 | [],s,_=>(s,0)
 | x_ :: r,s,i=>bif (((decide (x_<0))||(decide (x_ >= 64)))||((wu64 (BitVec.ofInt 64 s &&& BitVec.ofInt 64 (Qw2 x_)).toNat)!=0)) then (0,90) else Qs5 r (wu64 (BitVec.ofInt 64 s ||| BitVec.ofInt 64 (Qw2 x_)).toNat) (i+1)
def Q85 (l:List Int):Int × Int:=Qs5 l 0 0
theorem QHe (l:List Int) (hs0:l.length<=4294967296):∀ objs,AGives Tryz.prog 144 [ints l] objs (AVal.tup [U ((Q85 l).1),I ((Q85 l).2)]):=by
 generalize hR:Q85 l=R;refine ga (.cons lw .nil) (Low.tup' (l1 (l1 .nil))) (kp 7 [7,8,9,10,25]) Tryz.func144 ?_;have hk0:=hs0;obtain z5:l.length<=4294967296:=hs0;refine Qq0 (fun (s:Int) (i:Nat)=>Qs5 (List.drop i l) s i=R∧i<=l.length) (fun s i=>l.length - i) (fun s i=>[(2,U 0),(3,I 0),(4,U s),(7,ints l),(8,I (l.length:Int)),(9,I (i:Int))]) (fun s i=>[]) 0 0 (wk [] .nil (s1 (s1 (s1 (sl lw (s1 (s1 .nil))))))) ⟨foll hR rfl,by exact omA⟩ ?_;clear hR;rintro s i ⟨hR,hj⟩;(try dsimp only at hR hj);refine ai (fun h1=>?_) (fun h2=>?_)
 ·have hlt:=ltA h1;rw [Qo0 0 hlt] at hR;refine ai gkA ?_;(first|apply u2|apply u3|apply u4|apply us);exact QF7 (l.getD i 0) _;refine ai (fun h3=>?_) (fun h4=>?_)
  ·obtain rfl:=foll hR (ct h3 rfl);exact Q30 (Low.tup' (l1 (l1 .nil))) (Seen.tup (e1 (e1 .nil)))
  ·refine us (QF7 (l.getD i 0) _) ?_;exact Qm0 (wu64 (BitVec.ofInt 64 s ||| BitVec.ofInt 64 (Qw2 (l.getD i 0))).toNat) (i+1) (wk [] .nil (s1 (s1 (s1 (sl lw (s1 (sv (Qt0 (I_eq (wr omA)) lx) .nil))))))) omA ⟨foll hR (cf h4 rfl),by exact omA⟩
 ·rw [Qp0 (l:=l) (j:=i) (geA h2)] at hR;obtain rfl:=foll hR rfl;exact Q30 (Low.tup' (l1 (l1 .nil))) (Seen.tup (e1 (e1 .nil)))
def Q72 (s:Int):Nat->List Int->Nat->(List Int)
 | 0,_,_=>[]
 | m+1,out,i=>bif (decide ((i:Int)<64)) then bif ((wu64 (BitVec.ofInt 64 s &&& BitVec.ofInt 64 (Qw2 (i:Int))).toNat)!=0) then Q72 s m (out++([(i:Int)]:List Int)) (i+1) else Q72 s m out (i+1) else out
def Qg4 (out:List Int):(List Int):=out
def QN1 (s:Int):(List Int):=Qg4 (Q72 s ((Int.toNat (64 - (0:Int)))+1) [] 0)
theorem nodeset_List_c (s:Int):∀ objs,AGives Tryz.prog 145 [U s] objs (ints (QN1 s)):=by
 generalize hR:QN1 s=R;refine ga (l1 .nil) lw (kp 5 [5,6,12]) Tryz.func145 ?_;refine Qq0 (fun (out:List Int) (i:Nat)=>∃ m,(Int.toNat (64 - (i:Int)))<m∧Qg4 (Q72 s m out i)=R∧out.length<=i) (fun out i=>(Int.toNat (64 - (i:Int)))) (fun out i=>[(0,U s),(2,AVal.lit (.slice none 0 0)),(3,AVal.own 0 0 1 0 out.length),(5,I (i:Int))]) (fun out i=>[(0,AObj.row 3 1 (out.map (fun q_=>[I q_])))]) [] 0 ((Qf1 3 1).trans (wk [0] (tO rfl (tl eqA) .nil) (s1 (s1 (sv (Q91 0 rfl) (s1 .nil)))))) ⟨_,Nat.lt_succ_self _,foll hR rfl,by exact exA⟩ ?_;clear hR;rintro out i ⟨m,hm,hR,hx⟩;(try dsimp only at hR hm hx);obtain ⟨m,rfl⟩:=sucA m;refine ai (fun h1=>?_) (fun h2=>?_)
 ·have qh1:=of_decide_eq_true h1;refine us (QF7 (i:Int) _) ?_;refine ai (fun h3=>?_) (fun h4=>?_)
  ·refine Or.inl ?_;(first|refine ⟨Qg3 8 rfl lnA apA,?_⟩|refine ⟨Q52 8 rfl apA,?_⟩);exact Qm0 (out++([(i:Int)]:List Int)) (i+1) (wk [0] (tO rfl (tl eqA) .nil) (s1 (s1 (sv (to 0 lnA) (sv (Qt0 (I_eq (wr omA)) lx) .nil))))) omA ⟨m,by exact omA,foll hR (congrArg (fun p:(List Int)=>Qg4 p) (ct h1 (ct h3 rfl))),by exact exA⟩
  ·exact Qm0 out (i+1) (wk [0] (tO rfl (tl eqA) .nil) (s1 (s1 (sv (to 0 lnA) (sv (Qt0 (I_eq (wr omA)) lx) .nil))))) omA ⟨m,by exact omA,foll hR (congrArg (fun p:(List Int)=>Qg4 p) (ct h1 (cf h4 rfl))),by exact exA⟩
 ·have qh2:=of_decide_eq_false h2;replace hR:Qg4 out=R:=fo2 (fun p:(List Int)=>Qg4 p) (out) hR (cf h2 rfl);obtain rfl:=foll hR rfl;exact Q30 lw (QG1 0 _ rfl eqA lnA)
theorem QW7 (s:Int):∀ (m:Nat) (out:List Int) (i:Nat),(∀ x ∈ out,0<=x∧x<64) -> ∀ x ∈ Q72 s m out i,0<=x∧x<64
 | 0,_,_,_,x,hx=>by simp [Q72] at hx
 | m+1,out,i,h,x,hx=>by
  rw [Q72] at hx
  cases hd:decide ((i:Int)<64) with
  | false=>rw [hd] at hx;exact h x hx
  | true =>
   rw [hd] at hx
   have hi:=of_decide_eq_true hd
   simp only [cond_true] at hx
   cases hb:((wu64 (BitVec.ofInt 64 s &&& BitVec.ofInt 64 (Qw2 (i:Int))).toNat)!=0) with
   | false=>rw [hb] at hx;exact QW7 s m out (i+1) h x hx
   | true =>
    rw [hb] at hx
    refine QW7 s m _ (i+1) (fun y hy=>?_) x hx
    rcases List.mem_append.1 hy with hy|hy
    ·exact h y hy
    ·rw [List.mem_singleton.1 hy];omega
theorem Qcf (s:Int):∀ x ∈ QN1 s,0<=x∧x<64:=QW7 s _ _ _ (fun x hx=>nomatch hx)
theorem Qaf (s:Int) {i:Nat} (h:i<(QN1 s).length):0<=(QN1 s).getD i 0∧(QN1 s).getD i 0<64:=by
 have e:(QN1 s).getD i 0=(QN1 s)[i]:=by simp [List.getD,List.getElem?_eq_getElem h]
 rw [e]
 exact Qcf s _ (List.getElem_mem h)
theorem QV7 (s:Int):∀ (m:Nat) (out:List Int) (i:Nat),out.length<=i->i<=64->(Q72 s m out i).length<=64
 | 0,_,_,_,_=>by simp [Q72]
 | m+1,out,i,h,h64=>by
  rw [Q72]
  cases hd:decide ((i:Int)<64) with
  | false=>simp only [cond_false];omega
  | true =>
   have hi:=of_decide_eq_true hd
   simp only [cond_true]
   cases ((wu64 (BitVec.ofInt 64 s &&& BitVec.ofInt 64 (Qw2 (i:Int))).toNat)!=0) with
   | false=>exact QV7 s m out (i+1) (by omega) (by omega)
   | true=>exact QV7 s m _ (i+1) (by simp;omega) (by omega)
theorem Qbf (s:Int):(QN1 s).length<=64:=QV7 s _ _ _ (by simp) (by omega)
def Qf4 (s:Int) (n:Int):Bool:=(((decide (n >= 0))&&(decide (n<64)))&&((wu64 (BitVec.ofInt 64 s &&& BitVec.ofInt 64 (Qw2 n)).toNat)!=0))
theorem QEd (s:Int) (n:Int):∀ objs,AGives Tryz.prog 89 [U s,I n] objs (Bo (Qf4 s n)):=by
 generalize hR:Qf4 s n=R;refine ga (l1 (l1 .nil)) lx (kp 5 []) Tryz.func89 ?_;(first|apply u2|apply u3|apply u4|apply us);exact QF7 n _;obtain rfl:=foll hR rfl;exact Q30 lx sr
def Ql1 (n:Int) (width:Int):ByteArray × Int:=bif (!(Qh2 n width)) then (⟨#[]⟩,2) else ((Q95 n width),0)
theorem pack_Number_c (n:Int) (width:Int):∀ objs,AGives Tryz.prog 62 [I n,I width] objs (AVal.tup [Sg ((Ql1 n width).1),I ((Ql1 n width).2)]):=by
 generalize hR:Ql1 n width=R;refine ga (l1 (l1 .nil)) (Low.tup' (l1 (l1 .nil))) (kp 6 [9]) Tryz.func62 ?_;refine us (Q9g n width _) ?_;refine ai (fun h1=>?_) (fun h2=>?_)
 ·obtain rfl:=foll hR (ct h1 rfl);exact Q30 (Low.tup' (l1 (l1 .nil))) (Seen.tup (e1 (e1 .nil)))
 ·refine us (Qag n width (by first|((have hw:=Qya (by simpa using h2);omega))|exact ckA) _) ?_;obtain rfl:=foll hR (cf h2 rfl);exact Q30 (Low.tup' (l1 (l1 .nil))) (Seen.tup (e1 (e1 .nil)))
theorem Qxa (n w:Int):(Ql1 n w).1.size<=8:=by
 unfold Ql1
 cases h:Qh2 n w with
 | true =>
  have:=Qb8 n w
  have:=Qya h
  show (Q95 n w).size<=8
  omega
 | false=>exact Nat.zero_le _
theorem QLa (n w:Int):(Ql1 n w).1.size<=4294967296:=Nat.le_trans (Qxa n w) (by decide)
def QW2 (s:ByteArray):ByteArray × Int:=bif (decide ((ByteArray.size s:Int) > 65535)) then (⟨#[]⟩,3) else (((Q95 (ByteArray.size s:Int) 2)++s),0)
theorem pack_Text_c (s:ByteArray):∀ objs,AGives Tryz.prog 94 [Sg s] objs (AVal.tup [Sg ((QW2 s).1),I ((QW2 s).2)]):=by
 generalize hR:QW2 s=R;refine ga (l1 .nil) (Low.tup' (l1 (l1 .nil))) (kp 4 [6]) Tryz.func94 ?_;refine ai (fun h1=>?_) (fun h2=>?_)
 ·have qh1:=of_decide_eq_true h1;obtain rfl:=foll hR (ct h1 rfl);exact Q30 (Low.tup' (l1 (l1 .nil))) (Seen.tup (e1 (e1 .nil)))
 ·have qh2:=of_decide_eq_false h2;refine us (Qag (ByteArray.size s:Int) 2 (by first|((have hl:=Qb8 (ByteArray.size s:Int) 2;have e:Int.toNat 2=2:=rfl;omega))|exact ckA) _) ?_;refine And.intro (by first|exact fun hg=>decide_eq_true (by first|((have hl:=Qb8 (ByteArray.size s:Int) 2;have e:Int.toNat 2=2:=rfl;omega))|exact ckA)|exact gkA) ?_;obtain rfl:=foll hR (cf h2 rfl);exact Q30 (Low.tup' (l1 (l1 .nil))) (Seen.tup (e1 (e1 .nil)))
theorem Qt8 (s:ByteArray):(QW2 s).1.size<=65537:=by
 unfold QW2
 cases h:decide ((ByteArray.size s:Int) > 65535) with
 | true=>exact Nat.zero_le _
 | false =>
  have:=Qb8 (ByteArray.size s:Int) 2
  have:=of_decide_eq_false h
  show (Q95 (ByteArray.size s:Int) 2++s).size<=65537
  rw [ByteArray.size_append]
  have e:Int.toNat 2=2:=rfl
  omega
theorem Qfc (s:ByteArray):(QW2 s).1.size<=4294967296:=Nat.le_trans (Qt8 s) (by decide)
def QX0 (s:ByteArray) (at_:Int) (width:Int):Nat->Int->Nat->Int
 | 0,_,_=>0
 | m+1,n,i=>bif (decide ((i:Int)<width)) then QX0 s at_ width m (wu64 (BitVec.ofInt 64 (wu64 (n*2 ^ (min (Int.toNat 8) 64))) ||| BitVec.ofInt 64 (wu64 ((s.data.toList.getD (Int.toNat (w64 (at_+(i:Int)))) 0).toNat:Int))).toNat) (i+1) else n
def Qy1 (at_:Int) (width:Int) (n:Int):Int × Int × Int:=bif (decide (n > 9223372036854775807)) then (0,0,2) else ((w64 n),(w64 (at_+width)),0)
def Qc0 (s:ByteArray) (at_:Int) (width:Int):Int × Int × Int:=bif ((!(Qh4 s at_))||(!(Qh2 0 width))) then (0,0,2) else bif (decide ((w64 ((ByteArray.size s:Int) - at_))<width)) then (0,0,30) else Qy1 at_ width (QX0 s at_ width ((Int.toNat (width - (0:Int)))+1) 0 0)
theorem QX7 (s:ByteArray) (at_:Int) (width:Int) (hs0:s.size<=4294967296):∀ objs,AGives Tryz.prog 76 [Sg s,I at_,I width] objs (AVal.tup [I ((Qc0 s at_ width).1),I ((Qc0 s at_ width).2.1),I ((Qc0 s at_ width).2.2)]):=by
 generalize hR:Qc0 s at_ width=R;refine ga (l1 (l1 (l1 .nil))) (Low.tup' (l1 (l1 (l1 .nil)))) (kp 11 [11,21,28,29,30,43]) Tryz.func76 ?_;have hk0:=hs0;obtain z9:s.size<=4294967296:=hs0;refine us (pack_within_c s at_ _) ?_;(first|apply u2|apply u3|apply u4|apply us);exact Q9g 0 width _;refine ai (fun h1=>?_) (fun h2=>?_)
 ·obtain rfl:=foll hR (ct h1 rfl);exact Q30 (Low.tup' (l1 (l1 (l1 .nil)))) (Seen.tup (e1 (e1 (e1 .nil))))
 ·refine ai (fun h3=>?_) (fun h4=>?_)
  ·have qh3:=of_decide_eq_true h3;obtain rfl:=foll hR (cf h2 (ct h3 rfl));exact Q30 (Low.tup' (l1 (l1 (l1 .nil)))) (Seen.tup (e1 (e1 (e1 .nil))))
  ·have qh4:=of_decide_eq_false h4;refine Qq0 (fun (n:Int) (i:Nat)=>∃ m,(Int.toNat (width - (i:Int)))<m∧Qy1 at_ width (QX0 s at_ width m n i)=R) (fun n i=>(Int.toNat (width - (i:Int)))) (fun n i=>[(0,Sg s),(1,I at_),(2,I width),(6,I 0),(7,I 0),(8,I 0),(9,U n),(28,I width),(29,I (i:Int))]) (fun n i=>[]) 0 0 (wk [] .nil (s1 (s1 (s1 (s1 (s1 (s1 (s1 (s1 (s1 .nil)))))))))) ⟨_,Nat.lt_succ_self _,foll hR (cf h2 (cf h4 rfl))⟩ ?_;clear hR;rintro n i ⟨m,hm,hR⟩;(try dsimp only at hR hm);obtain ⟨m,rfl⟩:=sucA m;refine ai (fun h5=>?_) (fun h6=>?_)
   ·have qh5:=of_decide_eq_true h5;have h2':=h2;simp at h2';have hw:=Qya h2'.2;have hin:=h2'.1;simp [Qh4] at hin;have e1:w64 ((ByteArray.size s:Int) - at_)=(ByteArray.size s:Int) - at_:=wr (by omega);have q4':¬ w64 ((ByteArray.size s:Int) - at_)<width:=qh4;rw [e1] at q4';have e2:w64 (at_+(i:Int))=at_+(i:Int):=wr (by omega);refine And.intro (by first|exact fun hg=>decide_eq_true (by first|((show 0<=w64 (at_+(i:Int))∧w64 (at_+(i:Int))<(ByteArray.size s:Int);rw [e2];omega))|exact ckA)|exact gkA) ?_;refine And.intro (by first|exact fun hg=>decide_eq_true (by first|((show 0<=w64 (at_+(i:Int))∧w64 (at_+(i:Int))<(ByteArray.size s:Int);rw [e2];omega))|exact ckA)|exact gkA) ?_;exact Qm0 (wu64 (BitVec.ofInt 64 (wu64 (n*2 ^ (min (Int.toNat 8) 64))) ||| BitVec.ofInt 64 (wu64 ((s.data.toList.getD (Int.toNat (w64 (at_+(i:Int)))) 0).toNat:Int))).toNat) (i+1) (wk [] .nil (s1 (s1 (s1 (s1 (s1 (s1 (s1 (s1 (sv (Qt0 (I_eq (wr omA)) lx) .nil)))))))))) omA ⟨m,by exact omA,foll hR (congrArg (fun p:Int=>Qy1 at_ width p) (ct h5 rfl))⟩
   ·have qh6:=of_decide_eq_false h6;replace hR:Qy1 at_ width n=R:=fo2 (fun p:Int=>Qy1 at_ width p) (n) hR (cf h6 rfl);refine ai (fun h7=>?_) (fun h8=>?_)
    ·have qh7:=of_decide_eq_true h7;obtain rfl:=foll hR (ct h7 rfl);exact Q30 (Low.tup' (l1 (l1 (l1 .nil)))) (Seen.tup (e1 (e1 (e1 .nil))))
    ·have qh8:=of_decide_eq_false h8;obtain rfl:=foll hR (cf h8 rfl);exact Q30 (Low.tup' (l1 (l1 (l1 .nil)))) (Seen.tup (e1 (e1 (e1 .nil))))
theorem QO7 (s:ByteArray) (at_ w:Int):∀ (m:Nat) (n:Int) (i:Nat),0<=n->0<=QX0 s at_ w m n i
 | 0,_,_,_=>Int.le_refl 0
 | m+1,n,i,h=>by
  unfold QX0
  cases decide ((i:Int)<w) with
  | true=>exact QO7 s at_ w m _ _ (by simp only [IntKind.wrap,IntKind.bits,IntKind.signed];simp;omega)
  | false=>exact h
theorem QFd {s:ByteArray} {at_ w:Int} (hz:s.size<=4294967296) (h:((Qc0 s at_ w).2.2 != 0)=false):0<=(Qc0 s at_ w).1∧(Qc0 s at_ w).1<=9223372036854775807∧0<=(Qc0 s at_ w).2.1∧(Qc0 s at_ w).2.1<=(ByteArray.size s:Int):=by
 unfold Qc0 at h ⊢
 cases h1:((!(Qh4 s at_))||(!(Qh2 0 w))) with
 | true=>rw [h1] at h;exact nomatch (show true=false from h)
 | false =>
  rw [h1] at h
  simp only [cond_false] at h ⊢
  have hw:=Qya (n:=0) (w:=w) (by simp at h1;exact h1.2)
  have hin:0<=at_∧at_<=(ByteArray.size s:Int):=by simp [Qh4] at h1;omega
  have e1:w64 ((ByteArray.size s:Int) - at_)=(ByteArray.size s:Int) - at_:=wr (by omega)
  cases h2:decide ((w64 ((ByteArray.size s:Int) - at_))<w) with
  | true=>rw [h2] at h;exact nomatch (show true=false from h)
  | false =>
   rw [h2] at h
   have h2':=of_decide_eq_false h2
   rw [e1] at h2'
   simp only [cond_false] at h ⊢
   have hp:=QO7 s at_ w ((Int.toNat (w - (0:Int)))+1) 0 0 (Int.le_refl 0)
   generalize QX0 s at_ w ((Int.toNat (w - (0:Int)))+1) 0 0=n at h hp ⊢
   unfold Qy1 at h ⊢
   cases h3:decide (n > 9223372036854775807) with
   | true=>rw [h3] at h;exact nomatch (show true=false from h)
   | false =>
    have h3':=of_decide_eq_false h3
    have e2:w64 n=n:=wr (by omega)
    have e3:w64 (at_+w)=at_+w:=wr (by omega)
    simp only [cond_false,e2,e3]
    omega
def QY7 (a:Shape) (b:Shape):Bool:=(((((a.kind==b.kind)&&(a.min==b.min))&&(a.max==b.max))&&(a.wall==b.wall))&&(Qc8 a.alts b.alts))
theorem QOe (a:Shape) (b:Shape) (hs0:a.sz) (hs1:b.sz):∀ objs,AGives Tryz.prog 112 [Shape.a a,Shape.a b] objs (Bo (QY7 a b)):=by
 generalize hR:QY7 a b=R;refine ga (.cons (Shape.low _ _) (.cons (Shape.low _ _) .nil)) lx (kp 5 []) Tryz.func112 ?_;have hk0:=hs0;obtain z1:a.alts.length<=4294967296:=hs0;have hk1:=hs1;obtain z2:b.alts.length<=4294967296:=hs1;(first|apply u2|apply u3|apply u4|apply us);exact Qdf a.alts b.alts szA szA _;obtain rfl:=foll hR rfl;exact Q30 lx sr
def Qg8 :List Node->Nat->Int
 | [],_=>0
 | x_ :: r,i=>bif (!(Q94 x_)) then 120 else Qg8 r (i+1)
def Qe6 (l:List Node):Int:=bif (((l.length:Int)==0)||(decide ((l.length:Int) > 48))) then 120 else Qg8 l 0
theorem QId (l:List Node) (hs0:l.length<=4294967296):∀ objs,AGives Tryz.prog 104 [nodeL l] objs (I (Qe6 l)):=by
 generalize hR:Qe6 l=R;refine ga (.cons lw .nil) lx (kp 4 [11,15,23]) Tryz.func104 ?_;have hk0:=hs0;obtain z7:l.length<=4294967296:=hs0;refine ai (fun h1=>?_) (fun h2=>?_)
 ·obtain rfl:=foll hR (ct h1 rfl);exact Q30 lx sr
 ·refine Qw0 (fun (i:Nat)=>Qg8 (List.drop i l) i=R∧i<=l.length) (fun i=>l.length - i) (fun i=>[(0,nodeL l),(2,I 0),(3,I (i:Int))]) (fun i=>[]) 0 (wk [] .nil (sl lw (s1 (s1 .nil)))) ⟨foll hR (cf h2 rfl),by exact omA⟩ ?_;clear hR;rintro i ⟨hR,hj⟩;(try dsimp only at hR hj);refine ai (fun h3=>?_) (fun h4=>?_)
  ·have hlt:=ltA h3;rw [Qo0 Node.zero hlt] at hR;refine ai gkA ?_;refine us (ref12_fine_c (l.getD i Node.zero) _) ?_;refine ai (fun h5=>?_) (fun h6=>?_)
   ·obtain rfl:=foll hR (ct h5 rfl);exact Q30 lx sr
   ·exact QA0 (i+1) (wk [] .nil (sl lw (s1 (sv (Qt0 (I_eq (wr omA)) lx) .nil)))) omA ⟨foll hR (cf h6 rfl),by exact omA⟩
  ·rw [Qp0 (l:=l) (j:=i) (geA h4)] at hR;obtain rfl:=foll hR rfl;exact Q30 lx sr
theorem Qig {l:List Node} (h:(Qe6 l != 0)=false):l.length<=48:=by
 simp only [Qe6] at h
 revert h
 cases h2:(((l.length:Int)==0)||(decide ((l.length:Int) > 48))) with
 | true=>simp
 | false=>intro _;simp at h2;omega
def QG6 :List (Nat × Int)->Nat->Int × Int
 | [],n=>((n:Int),0)
 | x_ :: r,n=>bif ((Qs0 x_.2)==0) then ((n:Int),40) else QG6 r (n+1)
def Qj4 (s:ByteArray):Int × Int:=QG6 (Qj8 s) 0
theorem QAa (s:ByteArray) (hs0:s.size<=4294967296):∀ objs,AGives Tryz.prog 193 [Sg s] objs (AVal.tup [I ((Qj4 s).1),I ((Qj4 s).2)]):=by
 generalize hR:Qj4 s=R;refine ga (l1 .nil) (Low.tup' (l1 (l1 .nil))) (kp 7 [8,9,10,14]) Tryz.func193 ?_;have hk0:=hs0;obtain z5:s.size<=4294967296:=hs0;refine Qq0 (fun (n:Nat) (pos:Nat)=>∃ m,ByteArray.size s - pos<=m∧QG6 (QX4 s m pos) n=R∧n<=pos) (fun n pos=>ByteArray.size s - pos) (fun n pos=>[(2,I 0),(3,I 0),(4,I (n:Int)),(8,AVal.ptr 0 0 1 0 0)]) (fun n pos=>[(0,AObj.other (.strIter s pos))]) 0 0 (wk [0] (tO rfl (.strIter _ _) .nil) (s1 (s1 (s1 (sv (Q50 0 rfl rfl) .nil))))) ⟨ByteArray.size s,by exact omA,foll hR rfl,by exact exA⟩ ?_;clear hR;rintro n pos ⟨m,hm,hR,hx⟩;(try dsimp only at hR hm hx);refine ai (fun h1=>?_) (fun h2=>?_)
 ·have hlt:=of_decide_eq_true h1;have hw:=QO8 s pos;have hwe:=QN8 s pos hlt;obtain ⟨m,rfl⟩:=sucA m;rw [QU3 h1] at hR;refine ai (fun _=>?_) (fun h=>nomatch h);refine us (Qu5 ((pos,((Utf8.decode s pos).1:Int)).2) _) ?_;refine ai (fun h3=>?_) (fun h4=>?_)
  ·obtain rfl:=foll hR (ct h3 rfl);exact Q30 (Low.tup' (l1 (l1 .nil))) (Seen.tup (e1 (e1 .nil)))
  ·exact Qm0 (n+1) (pos+(Utf8.decode s pos).2) (wk [0] (tO rfl (.strIter _ _) .nil) (s1 (s1 (sv (Qt0 (I_eq (wr omA)) lx) (sv (Q50 0 rfl rfl) .nil))))) omA ⟨m,by exact omA,foll hR (cf h4 rfl),by exact exA⟩
 ·rw [Qo6 h2] at hR;refine ai (fun h=>nomatch h) (fun _=>?_);obtain rfl:=foll hR rfl;exact Q30 (Low.tup' (l1 (l1 .nil))) (Seen.tup (e1 (e1 .nil)))
def QC3 (l:List Int) (at_:Int):Nat->Int->Int
 | 0,_=>0
 | m+1,i=>bif (decide (i<(l.length:Int))) then bif ((((((Qs0 (l.getD (Int.toNat at_) 0))==2)&&((Qs0 (l.getD (Int.toNat i) 0))!=2))&&((Qs0 (l.getD (Int.toNat i) 0))!=3))&&((l.getD (Int.toNat i) 0)!=45))&&((l.getD (Int.toNat i) 0)!=95)) then i else bif (((Qs0 (l.getD (Int.toNat at_) 0))==3)&&(!(QBa (l.getD (Int.toNat i) 0)))) then i else QC3 l at_ m (w64 (i+1)) else i
def QY1 (l:List Int) (at_:Int):Int:=QC3 l at_ ((Int.toNat ((l.length:Int) - (w64 (at_+1))))+1) (w64 (at_+1))
theorem Qfg (l:List Int) (at_:Int) (hs0:l.length<=4294967296) (hp0:0<=at_∧at_<(l.length:Int)):∀ objs,AGives Tryz.prog 226 [runes l,I at_] objs (I (QY1 l at_)):=by
 generalize hR:QY1 l at_=R;refine ga (.cons lw (l1 .nil)) lx (kp 8 [18,47,58]) Tryz.func226 ?_;have hk0:=hs0;obtain z7:l.length<=4294967296:=hs0;have hw0:w64 (at_+1)=at_+1:=wr (by omega);refine ai gkA ?_;refine us (Qu5 (l.getD (Int.toNat at_) 0) _) ?_;refine Qw0 (fun (i:Int)=>∃ m,(Int.toNat ((l.length:Int) - i))<m∧QC3 l at_ m i=R∧0<=i∧i<=(l.length:Int)) (fun i=>(Int.toNat ((l.length:Int) - i))) (fun i=>[(0,runes l),(4,I 0),(5,I (Qs0 (l.getD (Int.toNat at_) 0))),(6,I i)]) (fun i=>[]) (w64 (at_+1)) (wk [] .nil (sl lw (s1 (s1 (s1 .nil))))) ⟨_,Nat.lt_succ_self _,foll hR rfl,by exact exA⟩ ?_;clear hR;rintro i ⟨m,hm,hR,hx⟩;(try dsimp only at hR hm hx);obtain ⟨m,rfl⟩:=sucA m;refine ai (fun h1=>?_) (fun h2=>?_)
 ·have qh1:=of_decide_eq_true h1;have hw1:w64 (i+1)=i+1:=wr (by omega);refine ai gkA ?_;refine us (Qu5 (l.getD (Int.toNat i) 0) _) ?_;refine ai gkA ?_;refine ai gkA ?_;refine ai (fun h3=>?_) (fun h4=>?_)
  ·obtain rfl:=foll hR (ct h1 (ct h3 rfl));exact Q30 lx sr
  ·refine ai gkA ?_;(first|apply u2|apply u3|apply u4|apply us);exact ref05_small_c (l.getD (Int.toNat i) 0) _;refine ai (fun h5=>?_) (fun h6=>?_)
   ·obtain rfl:=foll hR (ct h1 (cf h4 (ct h5 rfl)));exact Q30 lx sr
   ·exact QA0 (w64 (i+1)) (wk [] .nil (sl lw (s1 (s1 (s1 .nil))))) omA ⟨m,by exact omA,foll hR (ct h1 (cf h4 (cf h6 rfl))),by exact exA⟩
 ·have qh2:=of_decide_eq_false h2;obtain rfl:=foll hR (cf h2 rfl);exact Q30 lx sr
theorem Qgg (l:List Int) (at_:Int) (h:l.length<=400):∀ (m:Nat) (i:Int),0<=i->i<=l.length->0<=QC3 l at_ m i∧QC3 l at_ m i<=l.length∧(Int.toNat ((l.length:Int) - i)<m->i<=QC3 l at_ m i):=by
 intro m
 induction m with
 | zero=>intro i h0 h1;refine ⟨by simp [QC3],by simp [QC3],fun h=>absurd h (by omega)⟩
 | succ m ih =>
  intro i h0 h1
  rw [QC3]
  cases hd:decide (i<(l.length:Int)) with
  | false=>exact ⟨h0,h1,fun _=>by simp⟩
  | true =>
   have hi:=of_decide_eq_true hd
   have hw:w64 (i+1)=i+1:=wr (by omega)
   simp only [cond_true]
   cases ((((((Qs0 (l.getD (Int.toNat at_) 0))==2)&&((Qs0 (l.getD (Int.toNat i) 0))!=2))&&((Qs0 (l.getD (Int.toNat i) 0))!=3))&&((l.getD (Int.toNat i) 0)!=45))&&((l.getD (Int.toNat i) 0)!=95)) with
   | true=>exact ⟨h0,h1,fun _=>by simp⟩
   | false =>
    simp only [cond_false]
    cases (((Qs0 (l.getD (Int.toNat at_) 0))==3)&&(!(QBa (l.getD (Int.toNat i) 0)))) with
    | true=>exact ⟨h0,h1,fun _=>by simp⟩
    | false =>
     simp only [cond_false]
     rw [hw]
     obtain ⟨a,b,c⟩:=ih (i+1) (by omega) (by omega)
     exact ⟨a,b,fun hm=>by have:=c (by omega);omega⟩
theorem QNe (l:List Int) (at_:Int) (h0:0<=at_) (h1:at_<l.length) (h:l.length<=400):at_<QY1 l at_∧QY1 l at_<=l.length:=by
 have hw:w64 (at_+1)=at_+1:=wr (by omega)
 unfold QY1
 rw [hw]
 obtain ⟨a,b,c⟩:=Qgg l at_ h ((Int.toNat ((l.length:Int) - (at_+1)))+1) (at_+1) (by omega) (by omega)
 have:=c (by omega)
 omega
def QJ4 (l:List Dep) (i:Nat) (x_:Dep):Nat->Nat->Sum (Bool) (Nat)
 | 0,_=>Sum.inr 0
 | m+1,k=>bif (decide ((k:Int)<(i:Int))) then bif ((l.getD k Dep.zero).job==x_.job) then Sum.inl false else QJ4 l i x_ m (k+1) else Sum.inr k
def QK2 (l:List Dep):List Dep->Nat->Bool
 | [],_=>true
 | x_ :: r,i=>bif ((!(QC1 x_.how 1 3))||(!(QC1 x_.job 1 99999))) then false else (Sum.elim id (fun p1:Nat=>QK2 l r (i+1))) (QJ4 l i x_ ((Int.toNat ((i:Int) - (0:Int)))+1) 0)
def Q67 (l:List Dep):Bool:=bif (decide ((l.length:Int) > 4)) then false else QK2 l l 0
theorem ref08_waits_c (l:List Dep) (hs0:l.length<=4294967296):∀ objs,AGives Tryz.prog 175 [depL l] objs (Bo (Q67 l)):=by
 generalize hR:Q67 l=R;refine ga (.cons lw .nil) lx (kp 5 [7,11,29,32,45]) Tryz.func175 ?_;have hk0:=hs0;obtain z11:l.length<=4294967296:=hs0;refine ai (fun h1=>?_) (fun h2=>?_)
 ·have qh1:=of_decide_eq_true h1;obtain rfl:=foll hR (ct h1 rfl);exact Q30 lx sr
 ·have qh2:=of_decide_eq_false h2;refine Qw0 (fun (i:Nat)=>QK2 l (List.drop i l) i=R∧i<=l.length) (fun i=>l.length - i) (fun i=>[(0,depL l),(2,Bo false),(3,I (i:Int))]) (fun i=>[]) 0 (wk [] .nil (sl lw (s1 (s1 .nil)))) ⟨foll hR (cf h2 rfl),by exact omA⟩ ?_;clear hR;rintro i ⟨hR,hj⟩;(try dsimp only at hR hj);refine ai (fun h3=>?_) (fun h4=>?_)
  ·have hlt:=ltA h3;rw [Qo0 Dep.zero hlt] at hR;refine ai gkA ?_;refine us (Qu4 ((l.getD i Dep.zero).how) 1 3 _) ?_;refine ai gkA ?_;(first|apply u2|apply u3|apply u4|apply us);exact Qu4 ((l.getD i Dep.zero).job) 1 99999 _;refine ai (fun h5=>?_) (fun h6=>?_)
   ·obtain rfl:=foll hR (ct h5 rfl);exact Q30 lx sr
   ·refine Qw0 (fun (k:Nat)=>∃ m,(Int.toNat ((i:Int) - (k:Int)))<m∧(Sum.elim id (fun p1:Nat=>QK2 l (List.drop (i+1) l) (i+1))) (QJ4 l i (l.getD i Dep.zero) m k)=R∧(k:Int)<=(i:Int)) (fun k=>(Int.toNat ((i:Int) - (k:Int)))) (fun k=>[(0,depL l),(2,Bo false),(3,I (i:Int)),(4,I (k:Int)),(11,Bo (decide ((i:Int)<(l.length:Int)))),(29,Bo ((!(QC1 (l.getD i Dep.zero).how 1 3))||(!(QC1 (l.getD i Dep.zero).job 1 99999))))]) (fun k=>[]) 0 (wk [] .nil (sl lw (s1 (s1 (s1 (s1 (s1 .nil))))))) ⟨_,Nat.lt_succ_self _,foll hR (cf h6 rfl),by exact exA⟩ ?_;clear hR;rintro k ⟨m,hm,hR,hx⟩;(try dsimp only at hR hm hx);obtain ⟨m,rfl⟩:=sucA m;refine ai (fun h7=>?_) (fun h8=>?_)
    ·have qh7:=of_decide_eq_true h7;refine dchk (by kernel_rfl) ?_;refine ai gkA ?_;refine ai gkA ?_;(repeat ((first|refine ai rfl ?_|refine ai (fun _=>rfl) ?_)));refine ai (fun h9=>?_) (fun h10=>?_)
     ·obtain rfl:=foll hR (congrArg (Sum.elim id (fun p1:Nat=>QK2 l (List.drop (i+1) l) (i+1))) (ct h7 (ct h9 rfl)));exact Q30 lx sr
     ·exact QA0 (k+1) (wk [] .nil (sl lw (s1 (s1 (sv (Qt0 (I_eq (wr omA)) lx) (s1 (s1 .nil))))))) omA ⟨m,by exact omA,foll hR (congrArg (Sum.elim id (fun p1:Nat=>QK2 l (List.drop (i+1) l) (i+1))) (ct h7 (cf h10 rfl))),by exact exA⟩
    ·have qh8:=of_decide_eq_false h8;replace hR:(Sum.elim id (fun p1:Nat=>QK2 l (List.drop (i+1) l) (i+1))) (Sum.inr k)=R:=foll hR (congrArg (Sum.elim id (fun p1:Nat=>QK2 l (List.drop (i+1) l) (i+1))) (cf h8 rfl));exact QA0 (i+1) (wk [] .nil (sl lw (s1 (sv (Qt0 (I_eq (wr omA)) lx) .nil)))) omA ⟨foll hR rfl,by exact omA⟩
  ·rw [Qp0 (l:=l) (j:=i) (geA h4)] at hR;obtain rfl:=foll hR rfl;exact Q30 lx sr
def QI4 (x_:Alt):List Alt->Nat->Sum (Int) (Nat)
 | [],k=>Sum.inr k
 | x_1 :: r,k=>bif (x_.nodes==x_1.nodes) then Sum.inl 70 else QI4 x_ r (k+1)
def Qa1 (s:Shape):List Alt->Nat->Int
 | [],_=>0
 | x_ :: r,i=>bif ((!(Qb2 x_.nodes))||(!(Qt3 x_.wall))) then 70 else (Sum.elim id (fun p1:Nat=>Qa1 s r (i+1))) (QI4 x_ (List.drop (i+1) s.alts) (i+1))
def QJ5 (s:Shape) (most:Int):Int:=bif (((((decide ((s.alts.length:Int)<1))||(decide ((s.alts.length:Int) > most)))||(s.min != 0))||(s.max != 0))||(s.wall != 0)) then 70 else Qa1 s s.alts 0
def Q42 (s:Shape):Int:=bif (s.kind==3) then bif (((((decide ((s.alts.length:Int) > 0))||(!(Qb2 s.min)))||(!(Qb2 s.max)))||(decide (s.max<s.min)))||(!(Qt3 s.wall))) then 70 else 0 else bif (s.kind==2) then QJ5 s 6 else bif (s.kind != 1) then 70 else QJ5 s 1
theorem QHd (s:Shape) (hs0:s.sz):∀ objs,AGives Tryz.prog 176 [Shape.a s] objs (I (Q42 s)):=by
 generalize hR:Q42 s=R;refine ga (.cons (Shape.low _ _) .nil) lx (kj [1000010] 6 [8,37,40,43,69,74,94,101,116]) Tryz.func176 ?_;have hk0:=hs0;obtain z19:s.alts.length<=4294967296:=hs0;refine ai (fun h1=>?_) (fun h2=>?_)
 ·(first|apply u2|apply u3|apply u4|apply us);exact Qib s.min _;(first|apply u2|apply u3|apply u4|apply us);exact Qib s.max _;(first|apply u2|apply u3|apply u4|apply us);exact QPe s.wall _;refine ai (fun h3=>?_) (fun h4=>?_)
  ·obtain rfl:=foll hR (ct h1 (ct h3 rfl));exact Q30 lx sr
  ·obtain rfl:=foll hR (ct h1 (cf h4 rfl));exact Q30 lx sr
 ·refine Q63 (fun (most:Int)=>QJ5 s most=R) (fun most=>[(1,AVal.ptr 0 0 5 0 0),(2,I 0),(3,I most)]) (fun most=>[(0,AObj.row 63 5 [[I s.kind,altL s.alts,I s.min,I s.max,I s.wall]])]) ?_ ?_
  ·clear hR;rintro most hR;(try dsimp only at hR);refine ai (fun h5=>?_) (fun h6=>?_)
   ·obtain rfl:=foll hR (ct h5 rfl);exact Q30 lx sr
   ·refine Qw0 (fun (i:Nat)=>Qa1 s (List.drop i s.alts) i=R∧i<=s.alts.length) (fun i=>s.alts.length - i) (fun i=>[(1,AVal.ptr 0 0 5 0 0),(2,I 0),(4,I (i:Int))]) (fun i=>[(0,AObj.row 63 5 [[I s.kind,altL s.alts,I s.min,I s.max,I s.wall]])]) 0 (wk [0] (tO rfl (ts Shape.lo) .nil) (sv (Q50 0 rfl rfl) (s1 (s1 .nil)))) ⟨foll hR (cf h6 rfl),by exact omA⟩ ?_;clear hR;rintro i ⟨hR,hj⟩;(try dsimp only at hR hj);refine ai (fun h7=>?_) (fun h8=>?_)
    ·have hlt:=ltA h7;rw [Qo0 Alt.zero hlt] at hR;refine ai gkA ?_;refine us (Qib ((s.alts.getD i Alt.zero).nodes) _) ?_;refine ai gkA ?_;(first|apply u2|apply u3|apply u4|apply us);exact QPe ((s.alts.getD i Alt.zero).wall) _;refine ai (fun h9=>?_) (fun h10=>?_)
     ·obtain rfl:=foll hR (ct h9 rfl);exact Q30 lx sr
     ·refine Qw0 (fun (k:Nat)=>(Sum.elim id (fun p1:Nat=>Qa1 s (List.drop (i+1) s.alts) (i+1))) (QI4 (s.alts.getD i Alt.zero) (List.drop k s.alts) k)=R∧k<=s.alts.length) (fun k=>s.alts.length - k) (fun k=>[(1,AVal.ptr 0 0 5 0 0),(2,I 0),(4,I (i:Int)),(5,I (k:Int)),(74,Bo (decide ((i:Int)<(s.alts.length:Int)))),(94,Bo ((!(Qb2 (s.alts.getD i Alt.zero).nodes))||(!(Qt3 (s.alts.getD i Alt.zero).wall))))]) (fun k=>[(0,AObj.row 63 5 [[I s.kind,altL s.alts,I s.min,I s.max,I s.wall]])]) (i+1) (wk [0] (tO rfl (ts Shape.lo) .nil) (sv (Q50 0 rfl rfl) (s1 (s1 (sv (Qt0 (I_eq (wr omA)) lx) (s1 (s1 .nil))))))) ⟨foll hR (cf h10 rfl),by exact omA⟩ ?_;clear hR;rintro k ⟨hR,hj⟩;(try dsimp only at hR hj);refine ai (fun h11=>?_) (fun h12=>?_)
      ·have hlt:=ltA h11;rw [Qo0 Alt.zero hlt] at hR;refine dchk (by kernel_rfl) ?_;refine ai gkA ?_;refine ai gkA ?_;(repeat ((first|refine ai rfl ?_|refine ai (fun _=>rfl) ?_)));refine ai (fun h13=>?_) (fun h14=>?_)
       ·obtain rfl:=foll hR (congrArg (Sum.elim id (fun p1:Nat=>Qa1 s (List.drop (i+1) s.alts) (i+1))) (ct h13 rfl));exact Q30 lx sr
       ·exact QA0 (k+1) (wk [0] (tO rfl (ts Shape.lo) .nil) (sv (Q50 0 rfl rfl) (s1 (s1 (sv (Qt0 (I_eq (wr omA)) lx) (s1 (s1 .nil))))))) omA ⟨foll hR (congrArg (Sum.elim id (fun p1:Nat=>Qa1 s (List.drop (i+1) s.alts) (i+1))) (cf h14 rfl)),by exact omA⟩
      ·rw [Qp0 (l:=s.alts) (j:=k) (geA h12)] at hR;replace hR:(Sum.elim id (fun p1:Nat=>Qa1 s (List.drop (i+1) s.alts) (i+1))) (Sum.inr k)=R:=foll hR (congrArg (Sum.elim id (fun p1:Nat=>Qa1 s (List.drop (i+1) s.alts) (i+1))) rfl);exact QA0 (i+1) (wk [0] (tO rfl (ts Shape.lo) .nil) (sv (Q50 0 rfl rfl) (s1 (sv (Qt0 (I_eq (wr omA)) lx) .nil)))) omA ⟨foll hR rfl,by exact omA⟩
    ·rw [Qp0 (l:=s.alts) (j:=i) (geA h8)] at hR;obtain rfl:=foll hR rfl;exact Q30 lx sr
  ·refine ai (fun h15=>?_) (fun h16=>?_)
   ·exact Qz0 6 (wk [0] (tO rfl (ts Shape.lo) .nil) (sv (Q50 0 rfl rfl) (s1 (s1 .nil)))) (foll hR (cf h2 (ct h15 rfl)))
   ·refine ai (fun h17=>?_) (fun h18=>?_)
    ·obtain rfl:=foll hR (cf h2 (cf h16 (ct h17 rfl)));exact Q30 lx sr
    ·exact Qz0 1 (wk [0] (tO rfl (ts Shape.lo) .nil) (sv (Q50 0 rfl rfl) (s1 (s1 .nil)))) (foll hR (cf h2 (cf h16 (cf h18 rfl))))
theorem Qd9 {s:Shape} (h:(Q42 s != 0)=false) (hk:(s.kind != 3)=false):1<=s.min∧s.min<=s.max∧s.max<=48∧w64 (s.max - s.min)=s.max - s.min:=by
 have hk':s.kind=3:=by simpa using hk
 have h1:Qb2 s.min=true∧Qb2 s.max=true ∧ ¬ s.max<s.min:=by
  simp only [Q42,hk',beq_self_eq_true,cond_true] at h
  revert h
  cases h2:(((((decide ((s.alts.length:Int) > 0))||(!(Qb2 s.min)))||(!(Qb2 s.max)))||(decide (s.max<s.min)))||(!(Qt3 s.wall))) with
  | true=>simp
  | false=>intro _;simp at h2;exact ⟨h2.1.1.1.2,h2.1.1.2,by omega⟩
 obtain ⟨a,b,c⟩:=h1
 simp [Qb2] at a b
 exact ⟨by omega,by omega,by omega,wr (by omega)⟩
end Go.Proofs.YtgjcljceccfgjaaGreatDoor
namespace Go.Proofs.YtgjcljceccfgjaaGreatDoor
set_option linter.unusedSimpArgs false
set_option linter.unusedVariables false
open Go.Fw
set_option maxRecDepth 20000
set_option maxHeartbeats 4000000
attribute [local irreducible] ACalls AMoves
def QK6 (l:List Usage):List Usage->Nat->Int
 | [],_=>0
 | x_ :: r,i=>bif ((((((((i:Int)==200)||(!(Qa4 x_.user)))||(!(Qa4 x_.account)))||(decide (x_.used<0)))||(decide (x_.used > 1000000000000)))||(decide (x_.share<0)))||(decide (x_.share > x_.used))) then 2 else bif ((decide ((i:Int) > 0))&&(!(QZ7 (l.getD (Int.toNat (w64 ((i:Int) - 1))) Usage.zero) x_))) then 2 else QK6 l r (i+1)
def Qh9 (l:List Usage):Int:=QK6 l l 0
theorem ref17_Check_c (l:List Usage) (hs0:l.length<=4294967296∧(∀ y ∈ l,y.sz)):∀ objs,AGives Tryz.prog 98 [QO2 l] objs (I (Qh9 l)):=by
 generalize hR:Qh9 l=R;refine ga (.cons lw .nil) lx (kp 5 [8,50,62]) Tryz.func98 ?_;have hk0:=hs0;obtain ⟨z9,z10⟩:l.length<=4294967296∧(∀ y ∈ l,y.sz):=hs0;refine Qw0 (fun (i:Nat)=>QK6 l (List.drop i l) i=R∧i<=l.length) (fun i=>l.length - i) (fun i=>[(0,QO2 l),(2,I 0),(3,I (i:Int))]) (fun i=>[]) 0 (wk [] .nil (sl lw (s1 (s1 .nil)))) ⟨foll hR rfl,by exact omA⟩ ?_;clear hR;rintro i ⟨hR,hj⟩;(try dsimp only at hR hj);refine ai (fun h1=>?_) (fun h2=>?_)
 ·have hlt:=ltA h1;rw [Qo0 Usage.zero hlt] at hR;have hxz:(l.getD i Usage.zero).sz:=QD4 (by first|assumption|grind) (Usage.szz _);have hkz:=hxz;obtain ⟨z3,z4⟩:((l.getD i Usage.zero).user).size<=4294967296∧((l.getD i Usage.zero).account).size<=4294967296:=hxz;refine ai gkA ?_;(first|apply u2|apply u3|apply u4|apply us);exact QTe ((l.getD i Usage.zero).user) _;(first|apply u2|apply u3|apply u4|apply us);exact QTe ((l.getD i Usage.zero).account) _;refine ai (fun h5=>?_) (fun h6=>?_)
  ·obtain rfl:=foll hR (ct h5 rfl);exact Q30 lx sr
  ·refine dchk (by kernel_rfl) ?_;refine ai gkA ?_;(first|apply u2|apply u3|apply u4|apply us);exact QKd (l.getD (Int.toNat (w64 ((i:Int) - 1))) Usage.zero) (l.getD i Usage.zero) _;(repeat ((first|refine ai rfl ?_|refine ai (fun _=>rfl) ?_|refine ai (fun _=>QKd (l.getD (Int.toNat (w64 ((i:Int) - 1))) Usage.zero) (l.getD i Usage.zero) _) ?_)));refine ai (fun h7=>?_) (fun h8=>?_)
   ·obtain rfl:=foll hR (cf h6 (ct h7 rfl));exact Q30 lx sr
   ·exact QA0 (i+1) (wk [] .nil (sl lw (s1 (sv (Qt0 (I_eq (wr omA)) lx) .nil)))) omA ⟨foll hR (cf h6 (cf h8 rfl)),by exact omA⟩
 ·rw [Qp0 (l:=l) (j:=i) (geA h2)] at hR;obtain rfl:=foll hR rfl;exact Q30 lx sr
def Qf0 (s:State) (id_:Int):Job × Bool:=bif ((decide ((QV6 s.jobs id_)<0))||((s.jobs.getD (Int.toNat (QV6 s.jobs id_)) Job.zero).state != 2)) then (Job.zero,false) else ((s.jobs.getD (Int.toNat (QV6 s.jobs id_)) Job.zero),true)
theorem Qjg (s:State) (id_:Int) (hs0:s.sz):∀ objs,AGives Tryz.prog 99 [State.a s,I id_] objs (AVal.tup [Job.a ((Qf0 s id_).1),Bo ((Qf0 s id_).2)]):=by
 generalize hR:Qf0 s id_=R;refine ga (.cons (State.low _ _) (l1 .nil)) (Low.tup' (.cons (Job.low _ _) (l1 .nil))) (kp 7 [21]) Tryz.func99 ?_;have hk0:=hs0;obtain ⟨z3,z4,z5,z6,z7,z8,z9⟩:=hs0;have hf0:=ref15_At_lt s.jobs id_;refine us (ref15_At_c s.jobs id_ szA _) ?_;refine ai gkA ?_;refine ai (fun h1=>?_) (fun h2=>?_)
 ·obtain rfl:=foll hR (ct h1 rfl);exact Q30 (Low.tup' (.cons (Job.low _ _) (l1 .nil))) (Seen.tup (ev (Seen.agg (e1 (e1 (e1 (e1 (e1 (ev (Qn1) (e1 (e1 (e1 (e1 (ev (Qn1) (e1 (e1 (e1 (e1 (e1 (e1 (e1 (e1 (e1 .nil))))))))))))))))))))) (e1 .nil)))
 ·refine ai gkA ?_;obtain rfl:=foll hR (cf h2 rfl);exact Q30 (Low.tup' (.cons (Job.low _ _) (l1 .nil))) (Seen.tup (e1 (e1 .nil)))
def Qkb (s:Int) (n:Int):Bool:=bif ((decide (n<0))||(decide (n > 63))) then false else ((Int.tmod (wu64 (Int.tdiv s (Qe9 n))) 2)==1)
theorem ref09_Has_c (s:Int) (n:Int):∀ objs,AGives Tryz.prog 133 [U s,I n] objs (Bo (Qkb s n)):=by
 generalize hR:Qkb s n=R;refine ga (l1 (l1 .nil)) lx (kp 5 [10]) Tryz.func133 ?_;have hf0:=ref09_bit_pos n;refine ai (fun h1=>?_) (fun h2=>?_)
 ·obtain rfl:=foll hR (ct h1 rfl);exact Q30 lx sr
 ·refine us (ref09_bit_c n ckA _) ?_;refine ai gkA ?_;refine ai gkA ?_;obtain rfl:=foll hR (cf h2 rfl);exact Q30 lx sr
def QU1 (w:Int):Nat->Int->List Int->Nat->Int × (List Int) × Nat
 | 0,_,_,_=>(0,[],0)
 | m+1,n1,out,i=>bif (decide ((i:Int)<w)) then QU1 w m (w64 (Int.tdiv n1 256)) (([(wu8 (Int.tmod n1 256))]:List Int)++out) (i+1) else (n1,out,i)
def Qi4 (n1:Int) (out:List Int) (i:Nat):ByteArray × Int:=bif (decide (n1 > 0)) then (⟨#[]⟩,2) else ((QH1 out),0)
def QZ3 (n:Int) (w:Int):ByteArray × Int:=bif ((!(Qr3 w))||(decide (n<0))) then (⟨#[]⟩,2) else Qi4 ((QU1 w ((Int.toNat (w - (0:Int)))+1) n [] 0).1) ((QU1 w ((Int.toNat (w - (0:Int)))+1) n [] 0).2.1) ((QU1 w ((Int.toNat (w - (0:Int)))+1) n [] 0).2.2)
theorem Qhc (n:Int) (w:Int):∀ objs,AGives Tryz.prog 74 [I n,I w] objs (AVal.tup [Sg ((QZ3 n w).1),I ((QZ3 n w).2)]):=by
 generalize hR:QZ3 n w=R;refine ga (l1 (l1 .nil)) (Low.tup' (l1 (l1 .nil))) (kp 8 [14,17,29]) Tryz.func74 ?_;refine us (QGd w _) ?_;refine ai (fun h1=>?_) (fun h2=>?_)
 ·obtain rfl:=foll hR (ct h1 rfl);exact Q30 (Low.tup' (l1 (l1 .nil))) (Seen.tup (e1 (e1 .nil)))
 ·refine Qf2 (fun (n1:Int) (out:List Int) (i:Nat)=>∃ m,(Int.toNat (w - (i:Int)))<m∧Qi4 (QU1 w m n1 out i).1 (QU1 w m n1 out i).2.1 (QU1 w m n1 out i).2.2=R∧out.length<=i) (fun n1 out i=>(Int.toNat (w - (i:Int)))) (fun n1 out i=>[(0,I n1),(1,I w),(4,Sg ⟨#[]⟩),(5,I 0),(6,bytes out),(7,I (i:Int))]) (fun n1 out i=>[]) n [] 0 (wk [] .nil (s1 (s1 (s1 (s1 (sv (turn_nil) (s1 .nil))))))) ⟨_,Nat.lt_succ_self _,foll hR (cf h2 rfl),by exact exA⟩ ?_;clear hR;rintro n1 out i ⟨m,hm,hR,hx⟩;(try dsimp only at hR hm hx);obtain ⟨m,rfl⟩:=sucA m;refine ai (fun h3=>?_) (fun h4=>?_)
  ·have qh3:=of_decide_eq_true h3;have h2':=h2;simp [Qr3] at h2';refine ai gkA ?_;refine Or.inr ?_;(first|refine ⟨Qg3 1 rfl lnA apA,?_⟩|refine ⟨Q52 1 rfl apA,?_⟩);refine ai gkA ?_;exact Q12 (w64 (Int.tdiv n1 256)) (([(wu8 (Int.tmod n1 256))]:List Int)++out) (i+1) (wk [] .nil (s1 (s1 (s1 (s1 (sv (QV8 _ _ rfl (Nat.zero_le _) (by decide) eqA (fun _=>lowL1 rfl) lnA) (sv (Qt0 (I_eq (wr omA)) lx) .nil))))))) omA ⟨m,by exact omA,foll hR (congrArg (fun p:Int × (List Int) × Nat=>Qi4 p.1 p.2.1 p.2.2) (ct h3 rfl)),by exact exA⟩
  ·have qh4:=of_decide_eq_false h4;replace hR:Qi4 n1 out i=R:=fo2 (fun p:Int × (List Int) × Nat=>Qi4 p.1 p.2.1 p.2.2) (n1,out,i) hR (cf h4 rfl);refine ai (fun h5=>?_) (fun h6=>?_)
   ·have qh5:=of_decide_eq_true h5;obtain rfl:=foll hR (ct h5 rfl);exact Q30 (Low.tup' (l1 (l1 .nil))) (Seen.tup (e1 (e1 .nil)))
   ·have qh6:=of_decide_eq_false h6;(first|refine ⟨out,by exact cvA,?_⟩|refine ⟨_,fun _=>⟨out,by exact cvA,rfl,rfl⟩,?_⟩|refine ⟨_,rfl,⟨out,by exact cvA,Sub.refl _,rfl⟩,?_⟩);obtain rfl:=foll hR (cf h6 rfl);exact Q30 (Low.tup' (l1 (l1 .nil))) (Seen.tup (e1 (e1 .nil)))
theorem Qa9 (w:Int):∀ (m:Nat) (n:Int) (out:List Int) (i:Nat),(QU1 w m n out i).2.1.length<=out.length+(w.toNat - i)
 | 0,n,out,i=>Nat.zero_le _
 | m+1,n,out,i=>by
  unfold QU1
  cases h:decide ((i:Int)<w) with
  | true =>
   have:=of_decide_eq_true h
   have h1:=Qa9 w m (w64 (Int.tdiv n 256)) (([(wu8 (Int.tmod n 256))]:List Int)++out) (i+1)
   simp only [List.length_append,List.length_cons,List.length_nil] at h1
   simp only [cond_true]
   omega
  | false=>simp
theorem QG9 (n w:Int):(QZ3 n w).1.size<=8:=by
 unfold QZ3
 cases h:((!(Qr3 w))||(decide (n<0))) with
 | true=>exact Nat.zero_le _
 | false =>
  have hw:w=1∨w=2∨w=4∨w=8:=by
   simp [Qr3] at h
   grind
  simp only [cond_false]
  have hl:=Qa9 w ((Int.toNat (w - (0:Int)))+1) n [] 0
  generalize (QU1 w ((Int.toNat (w - (0:Int)))+1) n [] 0)=q at hl
  unfold Qi4
  cases decide (q.1 > 0) with
  | true=>exact Nat.zero_le _
  | false =>
   simp only [cond_false]
   rw [Qq6]
   show (List.toArray _).size<=8
   simp only [List.size_toArray,List.length_map]
   simp only [List.length_nil] at hl
   omega
def QF0 (s:ByteArray) (at_:Int) (w:Int):Nat->Int->Nat->Int × Nat
 | 0,_,_=>(0,0)
 | m+1,n,i=>bif (decide ((i:Int)<w)) then QF0 s at_ w m (w64 ((w64 (n*256))+(w64 ((s.data.toList.getD (Int.toNat (w64 (at_+(i:Int)))) 0).toNat:Int)))) (i+1) else (n,i)
def Qq3 (at_:Int) (w:Int) (n:Int) (i:Nat):Int × Int × Int:=(n,(w64 (at_+w)),0)
def Qd0 (s:ByteArray) (at_:Int) (w:Int):Int × Int × Int:=bif (((decide (at_<0))||(decide (at_ > (ByteArray.size s:Int))))||(!(Qr3 w))) then (0,0,2) else bif (decide (w > (w64 ((ByteArray.size s:Int) - at_)))) then (0,0,30) else bif ((w==8)&&(decide (((s.data.toList.getD (Int.toNat at_) 0).toNat:Int) > 127))) then (0,0,2) else Qq3 at_ w ((QF0 s at_ w ((Int.toNat (w - (0:Int)))+1) 0 0).1) ((QF0 s at_ w ((Int.toNat (w - (0:Int)))+1) 0 0).2)
theorem QG7 (s:ByteArray) (at_:Int) (w:Int) (hs0:s.size<=4294967296):∀ objs,AGives Tryz.prog 82 [Sg s,I at_,I w] objs (AVal.tup [I ((Qd0 s at_ w).1),I ((Qd0 s at_ w).2.1),I ((Qd0 s at_ w).2.2)]):=by
 generalize hR:Qd0 s at_ w=R;refine ga (l1 (l1 (l1 .nil))) (Low.tup' (l1 (l1 (l1 .nil)))) (kp 11 [23,29,37,40]) Tryz.func82 ?_;have hk0:=hs0;obtain z9:s.size<=4294967296:=hs0;(first|apply u2|apply u3|apply u4|apply us);exact QGd w _;refine ai (fun h1=>?_) (fun h2=>?_)
 ·obtain rfl:=foll hR (ct h1 rfl);exact Q30 (Low.tup' (l1 (l1 (l1 .nil)))) (Seen.tup (e1 (e1 (e1 .nil))))
 ·refine ai (fun h3=>?_) (fun h4=>?_)
  ·have qh3:=of_decide_eq_true h3;obtain rfl:=foll hR (cf h2 (ct h3 rfl));exact Q30 (Low.tup' (l1 (l1 (l1 .nil)))) (Seen.tup (e1 (e1 (e1 .nil))))
  ·have qh4:=of_decide_eq_false h4;refine And.intro (by first|exact fun hg=>decide_eq_true (by first|((show 0<=w64 (at_+(i:Int))∧w64 (at_+(i:Int))<(ByteArray.size s:Int);rw [e2];omega))|first|((have h2':=h2;simp [Qr3] at h2';have e1:w64 ((ByteArray.size s:Int) - at_)=(ByteArray.size s:Int) - at_:=wr (by omega);have q4':¬ w > w64 ((ByteArray.size s:Int) - at_):=qh4;rw [e1] at q4';have hw:(w==8)=true:=hg;have hw8:w=8:=(by simpa using hw);omega))|exact ckA)|exact gkA) ?_;refine ai (fun h5=>?_) (fun h6=>?_)
   ·obtain rfl:=foll hR (cf h2 (cf h4 (ct h5 rfl)));exact Q30 (Low.tup' (l1 (l1 (l1 .nil)))) (Seen.tup (e1 (e1 (e1 .nil))))
   ·refine Qq0 (fun (n:Int) (i:Nat)=>∃ m,(Int.toNat (w - (i:Int)))<m∧Qq3 at_ w (QF0 s at_ w m n i).1 (QF0 s at_ w m n i).2=R) (fun n i=>(Int.toNat (w - (i:Int)))) (fun n i=>[(0,Sg s),(1,I at_),(2,I w),(6,I 0),(7,I 0),(8,I 0),(9,I n),(10,I (i:Int))]) (fun n i=>[]) 0 0 (wk [] .nil (s1 (s1 (s1 (s1 (s1 (s1 (s1 (s1 .nil))))))))) ⟨_,Nat.lt_succ_self _,foll hR (cf h2 (cf h4 (cf h6 rfl)))⟩ ?_;clear hR;rintro n i ⟨m,hm,hR⟩;(try dsimp only at hR hm);obtain ⟨m,rfl⟩:=sucA m;refine ai (fun h7=>?_) (fun h8=>?_)
    ·have qh7:=of_decide_eq_true h7;have h2':=h2;simp [Qr3] at h2';have e1:w64 ((ByteArray.size s:Int) - at_)=(ByteArray.size s:Int) - at_:=wr (by omega);have q4':¬ w > w64 ((ByteArray.size s:Int) - at_):=qh4;rw [e1] at q4';have e2:w64 (at_+(i:Int))=at_+(i:Int):=wr (by omega);refine And.intro (by first|exact fun hg=>decide_eq_true (by first|((show 0<=w64 (at_+(i:Int))∧w64 (at_+(i:Int))<(ByteArray.size s:Int);rw [e2];omega))|first|((have h2':=h2;simp [Qr3] at h2';have e1:w64 ((ByteArray.size s:Int) - at_)=(ByteArray.size s:Int) - at_:=wr (by omega);have q4':¬ w > w64 ((ByteArray.size s:Int) - at_):=qh4;rw [e1] at q4';have hw:(w==8)=true:=hg;have hw8:w=8:=(by simpa using hw);omega))|exact ckA)|exact gkA) ?_;exact Qm0 (w64 ((w64 (n*256))+(w64 ((s.data.toList.getD (Int.toNat (w64 (at_+(i:Int)))) 0).toNat:Int)))) (i+1) (wk [] .nil (s1 (s1 (s1 (s1 (s1 (s1 (s1 (sv (Qt0 (I_eq (wr omA)) lx) .nil))))))))) omA ⟨m,by exact omA,foll hR (congrArg (fun p:Int × Nat=>Qq3 at_ w p.1 p.2) (ct h7 rfl))⟩
    ·have qh8:=of_decide_eq_false h8;replace hR:Qq3 at_ w n i=R:=fo2 (fun p:Int × Nat=>Qq3 at_ w p.1 p.2) (n,i) hR (cf h8 rfl);obtain rfl:=foll hR rfl;exact Q30 (Low.tup' (l1 (l1 (l1 .nil)))) (Seen.tup (e1 (e1 (e1 .nil))))
theorem Q57 {s:ByteArray} {at_:Int} (hz:s.size<=4294967296) (h:((Qd0 s at_ 2).2.2 != 0)=false):(0<=(Qd0 s at_ 2).1∧(Qd0 s at_ 2).1<=65535)∧0<=(Qd0 s at_ 2).2.1∧(Qd0 s at_ 2).2.1<=(ByteArray.size s:Int):=by
 unfold Qd0 at h ⊢
 cases h1:(((decide (at_<0))||(decide (at_ > (ByteArray.size s:Int))))||(!(Qr3 2))) with
 | true=>rw [h1] at h;exact nomatch (show true=false from h)
 | false =>
  rw [h1] at h
  simp only [cond_false] at h ⊢
  have hin:0<=at_∧at_<=(ByteArray.size s:Int):=by simp at h1;omega
  have e1:w64 ((ByteArray.size s:Int) - at_)=(ByteArray.size s:Int) - at_:=wr (by omega)
  cases h2:decide (2 > (w64 ((ByteArray.size s:Int) - at_))) with
  | true=>rw [h2] at h;exact nomatch (show true=false from h)
  | false =>
   have h2':=of_decide_eq_false h2
   rw [e1] at h2'
   simp only [cond_false]
   have e3:w64 (at_+2)=at_+2:=wr (by omega)
   have e8:(((2:Int)==8)&&(decide (((s.data.toList.getD (Int.toNat at_) 0).toNat:Int) > 127)))=false:=rfl
   rw [e8]
   simp only [cond_false]
   refine ⟨?_,?_,?_⟩
   ·have hb:∀ b:UInt8,0<=(b.toNat:Int)∧(b.toNat:Int)<=255:=fun b=>by have:=b.toNat_lt;omega
    have e:∀ (b:UInt8) (n:Int),0<=n->n<=255->w64 (w64 (n*256)+w64 (b.toNat:Int))=n*256+(b.toNat:Int):=fun b n h0 h1=>by
     have:=hb b
     have a1:w64 (n*256)=n*256:=wr (by omega);have a2:w64 (b.toNat:Int)=(b.toNat:Int):=wr (by omega);have a3:w64 (n*256+(b.toNat:Int))=n*256+(b.toNat:Int):=wr (by omega);rw [a1,a2,a3]
    show 0<=(QF0 s at_ 2 3 0 0).1∧(QF0 s at_ 2 3 0 0).1<=65535
    have d0:decide (((0:Nat):Int)<2)=true:=by decide
    have d1:decide (((0+1:Nat):Int)<2)=true:=by decide
    have d2:decide (((0+1+1:Nat):Int)<2)=false:=by decide
    rw [QF0,d0,cond_true,QF0,d1,cond_true,QF0,d2,cond_false]
    have q0:=hb (s.data.toList.getD (Int.toNat (w64 (at_+((0:Nat):Int)))) 0)
    rw [e _ 0 (by omega) (by omega)]
    rw [e _ _ (by omega) (by omega)]
    have q1:=hb (s.data.toList.getD (Int.toNat (w64 (at_+((0+1:Nat):Int)))) 0)
    show 0<=_*256+_∧_*256+_<=65535
    omega
   ·show 0<=w64 (at_+2);omega
   ·show w64 (at_+2)<=_;omega
end Go.Proofs.YtgjcljceccfgjaaGreatDoor
