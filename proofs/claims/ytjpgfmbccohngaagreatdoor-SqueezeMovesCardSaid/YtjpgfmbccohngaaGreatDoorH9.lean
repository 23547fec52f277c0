/-
  Contracts of functions, printed by a program of this repo (wip/dec). No condition beyond those that stand in each.
-/
import Derived.Test.YtjpgfmbccohngaaGreatDoorH7
import Derived.Test.YtjpgfmbccohngaaGreatDoorProg
import Derived.Test.YtjpgfmbccohngaaGreatDoorH8
namespace Go.Proofs.YtjpgfmbccohngaaGreatDoor
set_option linter.unusedSimpArgs false
set_option linter.unusedVariables false
open Go.Fw
set_option maxRecDepth 20000
set_option maxHeartbeats 4000000
attribute [local irreducible] ACalls AMoves
def QN3 (x_:ByteArray):Bool:=(!(ByteArray.toList x_==ByteArray.toList x_))
theorem Qm8 (x_:ByteArray):GV 229 [Sg x_] (Bo (QN3 x_)):=by
 generalize hR:QN3 x_=R;refine ga (l1 .nil) lx (kp 3 []) Tryz.func229 ?_;obtain rfl:=foll hR rfl;exact Q00 lx sr
def Q55 (n:Int) (from_:Int) (to_:Int):Bool:=((decide (n >= from_))&&(decide (n<=to_)))
theorem QZ9 (n:Int) (from_:Int) (to_:Int):GV 164 [I n,I from_,I to_] (Bo (Q55 n from_ to_)):=by
 generalize hR:Q55 n from_ to_=R;refine ga (l1 (l1 (l1 .nil))) lx (kp 7 []) Tryz.func164 ?_;obtain rfl:=foll hR rfl;exact Q00 lx sr
def QJ2 (n:Int):Bool:=((decide (n >= (-1000000)))&&(decide (n<=1000000)))
theorem QP8 (n:Int):GV 151 [I n] (Bo (QJ2 n)):=by
 generalize hR:QJ2 n=R;refine ga (l1 .nil) lx (kp 3 []) Tryz.func151 ?_;obtain rfl:=foll hR rfl;exact Q00 lx sr
def QM0 (x_:Node) (limits:List (Int × Int)):Int:=bif (((x_.state==0)||(x_.state==4))||x_.drain) then 0 else bif (x_.state==3) then (w64 (x_.since+12)) else bif (!(getM x_.job limits).isSome) then 1000001 else (w64 (((getM x_.job limits).getD 0)+12))
theorem room_until_c (x_:Node) (limits:List (Int × Int)):AMoves Tryz.prog 94 [Node.a x_,AVal.map 0] [(0,AObj.other (.map (mapEs ik I 0 limits) limits.length))] 1 (I (QM0 x_ limits)) [(0,AObj.other (.map (mapEs ik I 0 limits) limits.length))]:=by
 generalize hR:QM0 x_ limits=R;refine mo (kp 7 [7,20,35]) Tryz.func94 ?_;refine ai (fun h1=>?_) (fun h2=>?_)
 ·obtain rfl:=foll hR (ct h1 rfl);exact rq (tt [0] (tO rfl (Qt0 _ rfl rfl (fun _=>lx)) .nil) t1)
 ·refine ai (fun h3=>?_) (fun h4=>?_)
  ·obtain rfl:=foll hR (cf h2 (ct h3 rfl));exact rq (tt [0] (tO rfl (Qt0 _ rfl rfl (fun _=>lx)) .nil) t1)
  ·(first|refine ⟨_,_,QL1 rfl _ _,Q51 (ek:=ik) x_.job limits 0 (AsA.refl _),?_⟩|refine ⟨_,fun _=>⟨_,_,QL1 rfl _ _,Q51 (ek:=ik) x_.job limits 0 (AsA.refl _),rfl,rfl⟩,?_⟩|refine ⟨_,rfl,⟨_,_,QL1 rfl _ _,Q51 (ek:=ik) x_.job limits 0 (AsA.refl _),Sub.refl _,rfl⟩,?_⟩);refine ai (fun h5=>?_) (fun h6=>?_)
   ·obtain rfl:=foll hR (cf h2 (cf h4 (ct h5 rfl)));exact rq (tt [0] (tO rfl (Qt0 _ rfl rfl (fun _=>lx)) .nil) t1)
   ·obtain rfl:=foll hR (cf h2 (cf h4 (cf h6 rfl)));exact rq (tt [0] (tO rfl (Qt0 _ rfl rfl (fun _=>lx)) .nil) t1)
def Qj2 :List Job->Nat->List (Int × Int)->(List (Int × Int))
 | [],_,c=>c
 | x_ :: r,i,c=>bif (x_.state==2) then Qj2 r (i+1) (setM x_.id x_.limit c) else Qj2 r (i+1) c
def Qg5 (c:List (Int × Int)):(List (Int × Int)):=c
def Qr0 (l:List Job):(List (Int × Int)):=Qg5 (Qj2 l 0 [])
theorem room_limits_o (l:List Job) (hs0:l.length<=4294967296∧(∀ y ∈ l,y.sz)):AMoves Tryz.prog 95 [jobL l] [] 0 (AVal.map 0) [(0,AObj.other (.map (mapEs ik I 0 (Qr0 l)) (Qr0 l).length))]:=by
 generalize hR:Qr0 l=R;refine mo (kp 6 [7,8,9,10,15]) Tryz.func95 ?_;obtain ⟨z10,z11⟩:=id hs0;refine Qg0 (fun (i:Nat) (c:List (Int × Int))=>Qg5 (Qj2 (List.drop i l) i c)=R∧i<=l.length) (fun i c=>l.length - i) (fun i c=>[(2,AVal.lit (.map none)),(3,AVal.map 0),(7,jobL l),(8,I (l.length:Int)),(9,I (i:Int))]) (fun i c=>[(0,AObj.other (.map (mapEs ik I 0 c) c.length))]) 0 [] (wk [0] (tO rfl (Qt0 _ rfl rfl (fun _=>lx)) .nil) (s1 (sv (QD1 0 rfl rfl) (sl lw (s1 (s1 .nil)))))) ⟨foll hR rfl,by exact omA⟩ ?_;clear hR;rintro i c ⟨hR,hj⟩;(try dsimp only at hR hj);refine ai (fun h1=>?_) (fun h2=>?_)
 ·have hlt:=ltA h1;rw [Q90 Job.zero hlt] at hR;have hxz:(l.getD i Job.zero).sz:=Q72 (by first|assumption|grind) (Job.szz _);have hkz:=hxz;obtain ⟨z3,z4,z5,z6,z7⟩:=Job.zz hxz;refine ai gkA ?_;refine ai (fun h8=>?_) (fun h9=>?_)
  ·refine ⟨_,_,QL1 rfl _ _,QDa (ek:=ik) ((l.getD i Job.zero).id) ((l.getD i Job.zero).limit) c rfl rfl,?_⟩;exact Q80 (i+1) (setM (l.getD i Job.zero).id (l.getD i Job.zero).limit c) (wk [0] (tO rfl (Qt0 _ rfl rfl (fun _=>lx)) .nil) (s1 (sv (QD1 0 rfl rfl) (sl lw (s1 (sv (Q70 (I_eq (wr omA)) lx) .nil)))))) omA ⟨foll hR (congrArg (fun p:(List (Int × Int))=>Qg5 p) (ct h8 rfl)),by exact omA⟩
  ·exact Q80 (i+1) c (wk [0] (tO rfl (Qt0 _ rfl rfl (fun _=>lx)) .nil) (s1 (sv (QD1 0 rfl rfl) (sl lw (s1 (sv (Q70 (I_eq (wr omA)) lx) .nil)))))) omA ⟨foll hR (congrArg (fun p:(List (Int × Int))=>Qg5 p) (cf h9 rfl)),by exact omA⟩
 ·rw [Qa0 (l:=l) (j:=i) (geA h2)] at hR;replace hR:Qg5 c=R:=fo2 (fun p:(List (Int × Int))=>Qg5 p) (c) hR rfl;obtain rfl:=foll hR rfl;exact rq (tt [0] (tO rfl (Qt0 _ rfl rfl (fun _=>lx)) .nil) (QD1 0 rfl rfl))
def QR2 (t:Int):Bool:=((decide (t >= 0))&&(decide (t<=1000000)))
theorem QDd (t:Int):GV 120 [I t] (Bo (QR2 t)):=by
 generalize hR:QR2 t=R;refine ga (l1 .nil) lx (kp 3 []) Tryz.func120 ?_;obtain rfl:=foll hR rfl;exact Q00 lx sr
theorem Qbc {t n:Int} {b:Bool} (h:(((!(QR2 t))||(decide (n<t)))||b)=false):0<=t:=by
 simp [QR2] at h
 omega
def Qb1 (f:Int->Bool):Nat->Int->Int->Int × Int
 | 0,_,_=>(0,0)
 | m+1,i,j=>bif (decide (i<j)) then bif (!(f (w64 (Int.fdiv (wu64 (w64 (i+j))) (2 ^ (min (Int.toNat 1) 64)))))) then Qb1 f m (w64 ((w64 (Int.fdiv (wu64 (w64 (i+j))) (2 ^ (min (Int.toNat 1) 64))))+1)) j else Qb1 f m i (w64 (Int.fdiv (wu64 (w64 (i+j))) (2 ^ (min (Int.toNat 1) 64)))) else (i,j)
def Qi5 (i:Int) (j:Int):Int:=i
def QJ1 (n:Int) (f:Int->Bool):Int:=Qi5 ((Qb1 f ((Int.toNat (n - 0))+1) 0 n).1) ((Qb1 f ((Int.toNat (n - 0))+1) 0 n).2)
theorem QU8 (f:Int->Bool) {N:Nat} (hN:N<=4294967296):∀ (m:Nat) (i j:Int),0<=i->i<=j->j<=N->Int.toNat (j - i)<m->i<=(Qb1 f m i j).1∧(Qb1 f m i j).1<=j∧(i<(Qb1 f m i j).1->f ((Qb1 f m i j).1 - 1)=false)∧((Qb1 f m i j).1<j->f (Qb1 f m i j).1=true)
 | 0,_,_,_,_,_,hm=>absurd hm (Nat.not_lt_zero _)
 | m+1,i,j,h0,hij,hj,hm=>by
  unfold Qb1
  cases hc:decide (i<j) with
  | false =>
   have:=of_decide_eq_false hc
   simp only [cond_false]
   exact ⟨Int.le_refl _,by omega,fun h=>absurd h (by omega),fun h=>absurd h (by omega)⟩
  | true =>
   have hlt:=of_decide_eq_true hc
   have hh:w64 (Int.fdiv (wu64 (w64 (i+j))) (2 ^ (min (Int.toNat 1) 64)))=(i+j) / 2:=Qbf h0 hlt hj (by omega)
   have hw:w64 ((i+j) / 2+1)=(i+j) / 2+1:=wr (by omega)
   simp only [cond_true,hh,hw]
   cases hf:f ((i+j) / 2) with
   | false =>
    simp only [Bool.not_false,cond_true]
    obtain ⟨a,b,c,d⟩:=QU8 f hN m ((i+j) / 2+1) j (by omega) (by omega) hj (by omega)
    refine ⟨by omega,b,fun _=>?_,d⟩
    by_cases h:(i+j) / 2+1<(Qb1 f m ((i+j) / 2+1) j).1
    ·exact c h
    ·rw [show (Qb1 f m ((i+j) / 2+1) j).1 - 1=(i+j) / 2 by omega]
     exact hf
   | true =>
    simp only [Bool.not_true,cond_false]
    obtain ⟨a,b,c,d⟩:=QU8 f hN m i ((i+j) / 2) h0 (by omega) (by omega) (by omega)
    refine ⟨a,by omega,c,fun h=>?_⟩
    by_cases h2:(Qb1 f m i ((i+j) / 2)).1<(i+j) / 2
    ·exact d h2
    ·rw [show (Qb1 f m i ((i+j) / 2)).1=(i+j) / 2 by omega]
     exact hf
theorem QT9 (f:Int->Bool) {N:Nat} (hN:N<=4294967296):0<=QJ1 (N:Int) f∧QJ1 (N:Int) f<=N∧(0<QJ1 (N:Int) f->f (QJ1 (N:Int) f - 1)=false)∧(QJ1 (N:Int) f<N->f (QJ1 (N:Int) f)=true) :=
 QU8 f hN _ 0 N (Int.le_refl _) (by omega) (Int.le_refl _) (by omega)
theorem Qpb (l:List Step) (hs0:l.length<=4294967296):AMoves Tryz.prog 152 [stepL l] [] 0 (AVal.own 0 0 2 0 l.length) [(0,AObj.row 147 2 (l.map Step.cells))]:=by
 refine AMoves.of_cwp (fun _=>true) Tryz.func152 rfl rfl rfl ?_
 obtain z6:l.length<=4294967296:=hs0
 intro b hb
 refine ai (fun h1=>?_) (fun h2=>?_)
 ·have hl:l=[]:=by
   rcases l with _|⟨x,r⟩
   ·rfl
   ·exact absurd ((hb (by simp)).symm.trans h1) (by decide)
  subst hl
  refine Qs0 (fun r:List Step=>AVal.own 0 0 2 0 r.length) (fun r:List Step=>[(0,AObj.row 147 2 (r.map Step.cells))]) (leaf:=[]) rfl ?_
  exact Told.pad 147 2 (Qk5 [0] rfl (by decide) (tO rfl (tl eqA) .nil) (QV0 0 rfl))
 ·refine ⟨QR0 16 rfl apA,?_⟩
  refine Qs0 (fun r:List Step=>AVal.own 0 0 2 0 r.length) (fun r:List Step=>[(0,AObj.row 147 2 (r.map Step.cells))]) (leaf:=l) rfl ?_
  exact Qk5 [0] rfl (by decide) (tO rfl (tl eqA) .nil) (to 0 lnA)
def QZ0 (at_:Int) (free:Int) (out:List Step):List Step:=bif (((out.length:Int)==0)||((out.getD (Int.toNat (w64 ((out.length:Int) - 1))) Step.zero).free != free)) then (out++([(⟨at_,free⟩:Step)]:List Step)) else out
theorem QQ3 (at_:Int) (free:Int) (out:List Step) (hs0:out.length<=4294967296):AMoves Tryz.prog 153 [I at_,I free,AVal.ptr 0 0 1 0 0] [(0,AObj.row 72 1 [[AVal.own 1 0 2 0 out.length]]),(0,AObj.row 147 2 (out.map Step.cells))] 1 (AVal.tup []) [(0,AObj.row 72 1 [[AVal.own 1 0 2 0 (QZ0 at_ free out).length]]),(0,AObj.row 147 2 ((QZ0 at_ free out).map Step.cells))]:=by
 generalize hR:QZ0 at_ free out=R;refine mo (kp 6 [19]) Tryz.func153 ?_;have hk0:=hs0;obtain z3:out.length<=4294967296:=hs0;refine ai gkA ?_;refine ⟨_,fun hg=>QT1 rfl rfl rfl (Ql2 Step.zero (Int.toNat (w64 ((out.length:Int) - 1))) (by first|rfl|exact Nat.zero_add _|omega) ckA) rfl,?_⟩;refine ai (fun h1=>?_) (fun h2=>?_)
 ·refine Or.inl ?_;(first|refine ⟨QK1 16 rfl lnA apA,?_⟩|refine ⟨QR0 16 rfl apA,?_⟩);obtain rfl:=foll hR (ct h1 rfl);exact rq (tt [0,1] (tO rfl (QC0 (cv (to 1 lnA) .nil)) (tO rfl (tl eqA) .nil)) t1)
 ·obtain rfl:=foll hR (cf h2 rfl);exact rq (tt [0,1] (tO rfl (QC0 (cv (to 1 lnA) .nil)) (tO rfl (tl eqA) .nil)) t1)
theorem Q14 (a f:Int) (out:List Step):(QZ0 a f out).length<=out.length+1:=by
 unfold QZ0
 cases (((out.length:Int)==0)||((out.getD (Int.toNat (w64 ((out.length:Int) - 1))) Step.zero).free != f)) with
 | true=>simp
 | false=>simp
def QI2 (n:Int):(List Step):=([(⟨0,(min (max n (-1000000)) 1000000)⟩:Step)]:List Step)
theorem profile_Flat_c (n:Int):GV 165 [I n] (stepL (QI2 n)):=by
 generalize hR:QI2 n=R;refine ga (l1 .nil) lw (kp 3 []) Tryz.func165 ?_;refine Or.inl ?_;obtain rfl:=foll hR rfl;exact Q00 lw (seen_as (QZ5 (c:=Step.cells) (d:=Step.zero) ([(⟨0,(min (max n (-1000000)) 1000000)⟩:Step)]:List Step) rfl))
theorem QD8 (l:List Dep) (hs0:l.length<=4294967296):GV 131 [depL l] (depL l):=by
 refine AGives.any' (.cons lw .nil) lw (ACalls.of_cwp (fun _=>true) Tryz.func131 rfl rfl ?_)
 obtain z22:l.length<=4294967296:=hs0
 intro b hb
 refine ai (fun h1=>?_) (fun h2=>?_)
 ·have hl:l=[]:=by
   rcases l with _|⟨x,r⟩
   ·rfl
   ·exact absurd ((hb (by simp)).symm.trans h1) (by decide)
  subst hl
  exact QEe (fun r:List Dep=>depL r) (leaf:=[]) rfl lw Qq0
 ·refine ⟨QR0 16 rfl apA,?_⟩
  exact QEe (fun r:List Dep=>depL r) (leaf:=l) rfl lw (QT0 Dep.zero _ rfl eqA lnA)
theorem Quc (l:List Job) (hs0:l.length<=4294967296∧(∀ y ∈ l,y.sz)):AMoves Tryz.prog 130 [jobL l] [] 0 (AVal.own 0 0 20 0 l.length) [(0,AObj.row 35 20 (l.map Job.cells))]:=by
 refine AMoves.of_cwp (fun _=>true) Tryz.func130 rfl rfl rfl ?_
 obtain ⟨z4,z5⟩:=id hs0
 intro b hb
 refine ai (fun h1=>?_) (fun h2=>?_)
 ·have hl:l=[]:=by
   rcases l with _|⟨x,r⟩
   ·rfl
   ·exact absurd ((hb (by simp)).symm.trans h1) (by decide)
  subst hl
  refine Qs0 (fun r:List Job=>AVal.own 0 0 20 0 r.length) (fun r:List Job=>[(0,AObj.row 35 20 (r.map Job.cells))]) (leaf:=[]) rfl ?_
  exact Told.pad 35 20 (Qk5 [0] rfl (by decide) (tO rfl (tl eqA) .nil) (QV0 0 rfl))
 ·refine ⟨QR0 216 rfl apA,?_⟩
  refine Qs0 (fun r:List Job=>AVal.own 0 0 20 0 r.length) (fun r:List Job=>[(0,AObj.row 35 20 (r.map Job.cells))]) (leaf:=l) rfl ?_
  exact Qk5 [0] rfl (by decide) (tO rfl (tl eqA) .nil) (to 0 lnA)
def Q13 (i:Bool):Int:=bif i then 1 else 2
def Q83 (s:List (Int × Int)) (d:Dep):Int:=bif (!(getM d.job s).isSome) then 2 else bif (decide (((getM d.job s).getD 0)<3)) then 0 else bif (d.how==1) then Q13 (d.how==1) else bif ((d.how==2)&&(((getM d.job s).getD 0)==3)) then Q13 ((d.how==2)&&(((getM d.job s).getD 0)==3)) else Q13 ((d.how==3)&&(((getM d.job s).getD 0)!=3))
theorem QMa (s:List (Int × Int)) (d:Dep):AMoves Tryz.prog 139 [AVal.map 0,Dep.a d] [(0,AObj.other (.map (mapEs ik I 0 s) s.length))] 1 (I (Q83 s d)) [(0,AObj.other (.map (mapEs ik I 0 s) s.length))]:=by
 generalize hR:Q83 s d=R;refine mo (kj [1000009] 7 [14,17,20]) Tryz.func139 ?_;(first|refine ⟨_,_,QL1 rfl _ _,Q51 (ek:=ik) d.job s 0 (AsA.refl _),?_⟩|refine ⟨_,fun _=>⟨_,_,QL1 rfl _ _,Q51 (ek:=ik) d.job s 0 (AsA.refl _),rfl,rfl⟩,?_⟩|refine ⟨_,rfl,⟨_,_,QL1 rfl _ _,Q51 (ek:=ik) d.job s 0 (AsA.refl _),Sub.refl _,rfl⟩,?_⟩);refine ai (fun h1=>?_) (fun h2=>?_)
 ·obtain rfl:=foll hR (ct h1 rfl);exact rq (tt [0] (tO rfl (Qt0 _ rfl rfl (fun _=>lx)) .nil) t1)
 ·refine ai (fun h3=>?_) (fun h4=>?_)
  ·have qh3:=of_decide_eq_true h3;obtain rfl:=foll hR (cf h2 (ct h3 rfl));exact rq (tt [0] (tO rfl (Qt0 _ rfl rfl (fun _=>lx)) .nil) t1)
  ·have qh4:=of_decide_eq_false h4;refine Qr1 (fun (i:Bool)=>Q13 i=R) (fun i=>[(4,I 0),(20,Bo i)]) (fun i=>[(0,AObj.other (.map (mapEs ik I 0 s) s.length))]) ?_ ?_
   ·clear hR;rintro i hR;(try dsimp only at hR);refine ai (fun h5=>?_) (fun h6=>?_)
    ·obtain rfl:=foll hR (ct h5 rfl);exact rq (tt [0] (tO rfl (Qt0 _ rfl rfl (fun _=>lx)) .nil) t1)
    ·obtain rfl:=foll hR (cf h6 rfl);exact rq (tt [0] (tO rfl (Qt0 _ rfl rfl (fun _=>lx)) .nil) t1)
   ·refine ai (fun h7=>?_) (fun h8=>?_)
    ·exact Qb0 (d.how==1) (wk [0] (tO rfl (Qt0 _ rfl rfl (fun _=>lx)) .nil) (s1 (s1 .nil))) (foll hR (cf h2 (cf h4 (ct h7 rfl))))
    ·refine ai (fun h9=>?_) (fun h10=>?_)
     ·exact Qb0 ((d.how==2)&&(((getM d.job s).getD 0)==3)) (wk [0] (tO rfl (Qt0 _ rfl rfl (fun _=>lx)) .nil) (s1 (s1 .nil))) (foll hR (cf h2 (cf h4 (cf h8 (ct h9 rfl)))))
     ·exact Qb0 ((d.how==3)&&(((getM d.job s).getD 0)!=3)) (wk [0] (tO rfl (Qt0 _ rfl rfl (fun _=>lx)) .nil) (s1 (s1 .nil))) (foll hR (cf h2 (cf h4 (cf h8 (cf h10 rfl)))))
def Qj8 (id_:Int):Bool:=((decide (id_ >= 1))&&(decide (id_<=99999)))
theorem table_known_c (id_:Int):GV 96 [I id_] (Bo (Qj8 id_)):=by
 generalize hR:Qj8 id_=R;refine ga (l1 .nil) lx (kp 3 []) Tryz.func96 ?_;obtain rfl:=foll hR rfl;exact Q00 lx sr
def Qo0 (x_:List Job) (target:Int) (cmp:Job->Int->Int):Nat->Int->Int->Int × Int
 | 0,_,_=>(0,0)
 | m+1,i,j=>bif (decide (i<j)) then bif (decide ((cmp (x_.getD (Int.toNat (w64 (Int.fdiv (wu64 (w64 (i+j))) (2 ^ (min (Int.toNat 1) 64))))) Job.zero) target)<0)) then Qo0 x_ target cmp m (w64 ((w64 (Int.fdiv (wu64 (w64 (i+j))) (2 ^ (min (Int.toNat 1) 64))))+1)) j else Qo0 x_ target cmp m i (w64 (Int.fdiv (wu64 (w64 (i+j))) (2 ^ (min (Int.toNat 1) 64)))) else (i,j)
def QU0 (x_:List Job) (target:Int) (cmp:Job->Int->Int) (i:Int) (j:Int):Int × Bool:=(i,((decide (i<(x_.length:Int)))&&((cmp (x_.getD (Int.toNat i) Job.zero) target)==0)))
def QI0 (x_:List Job) (target:Int) (cmp:Job->Int->Int):Int × Bool:=QU0 x_ target cmp ((Qo0 x_ target cmp ((Int.toNat ((x_.length:Int) - 0))+1) 0 (x_.length:Int)).1) ((Qo0 x_ target cmp ((Int.toNat ((x_.length:Int) - 0))+1) 0 (x_.length:Int)).2)
def Qze (l:List Job):(List Job):=l
theorem QDc (l:List Job) (hs0:l.length<=4294967296∧(∀ y ∈ l,y.sz)):AMoves Tryz.prog 160 [jobL l] [] 0 (AVal.own 0 0 20 0 l.length) [(0,AObj.row 35 20 (l.map Job.cells))]:=by
 generalize hR:Qze l=R;refine mo (kp 3 []) Tryz.func160 ?_;obtain ⟨z1,z2⟩:=id hs0;refine ai gkA ?_;(first|refine ⟨QK1 216 rfl lnA apA,?_⟩|refine ⟨QR0 216 rfl apA,?_⟩);obtain rfl:=foll hR rfl;exact rq (tt [0] (tO rfl (tl eqA) .nil) (to 0 lnA))
def Qxe (l:List Alt):(List Alt):=l
theorem QBc (l:List Alt) (hs0:l.length<=4294967296):GV 161 [altL l] (altL l):=by
 generalize hR:Qxe l=R;refine ga (.cons lw .nil) lw (kp 3 []) Tryz.func161 ?_;have hk0:=hs0;obtain z1:l.length<=4294967296:=hs0;refine ai gkA ?_;(first|refine ⟨QK1 16 rfl lnA apA,?_⟩|refine ⟨QR0 16 rfl apA,?_⟩);obtain rfl:=foll hR rfl;exact Q00 lw (QT0 Alt.zero _ rfl eqA lnA)
def Qye (l:List Dep):(List Dep):=l
theorem QCc (l:List Dep) (hs0:l.length<=4294967296):GV 162 [depL l] (depL l):=by
 generalize hR:Qye l=R;refine ga (.cons lw .nil) lw (kp 3 []) Tryz.func162 ?_;have hk0:=hs0;obtain z1:l.length<=4294967296:=hs0;refine ai gkA ?_;(first|refine ⟨QK1 16 rfl lnA apA,?_⟩|refine ⟨QR0 16 rfl apA,?_⟩);obtain rfl:=foll hR rfl;exact Q00 lw (QT0 Dep.zero _ rfl eqA lnA)
def QI9 (f:Int->Bool):List Int->Nat->Int
 | [],_=>(-1)
 | x_ :: r,i=>bif (f x_) then (i:Int) else QI9 f r (i+1)
def law22_two :State:=(⟨5,(List.replicate 4 Node.zero),([(⟨2,⟨#[97]⟩,⟨#[117]⟩,⟨#[120]⟩,(⟨1,([(⟨3,10⟩:Alt)]:List Alt),0,0,0⟩:Shape),0,[],1,false,0,27,0,0,0,0,0⟩:Job)]:List Job),[],[],[],0,0⟩:State)
theorem law22_two_c :GV 81 [] (State.a law22_two):=by
 generalize hR:law22_two=R;refine ga .nil (State.low _ _) (kp 2 []) Tryz.func81 ?_;refine Or.inl ?_;refine dchk (by kernel_rfl) ?_;refine And.intro (mk_ok 56 rfl (by refine ⟨?_,?_,?_,?_⟩ <;> exact ckA)) ?_;(repeat ((first|refine ai rfl ?_|refine ai (fun _=>rfl) ?_)));obtain rfl:=foll hR rfl;exact Q00 (State.low _ _) (Seen.agg (e1 (ev (QT0 Node.zero _ rfl eqA lnA) (ev (seen_as (as_deep (c:=Job.cells) (d:=Job.zero) ([(⟨2,⟨#[97]⟩,⟨#[117]⟩,⟨#[120]⟩,(⟨1,([(⟨3,10⟩:Alt)]:List Alt),0,0,0⟩:Shape),0,[],1,false,0,27,0,0,0,0,0⟩:Job)]:List Job) (.cons _ _ _ _ (a1 (a1 (a1 (a1 (a1 (av (QZ5 (c:=Alt.cells) (d:=Alt.zero) ([(⟨3,10⟩:Alt)]:List Alt) rfl) (a1 (a1 (a1 (a1 (av (as_nil) (a1 (a1 (a1 (a1 (a1 (a1 (a1 (a1 (a1 .nil)))))))))))))))))))) .nil))) (ev (Qq0) (ev (Qq0) (ev (Qq0) (e1 (e1 .nil)))))))))
def Qy4 (b:List Alt):List Alt->Nat->Bool
 | [],_=>true
 | x_ :: r,i=>bif ((x_.nodes != (b.getD i Alt.zero).nodes)||(x_.wall != (b.getD i Alt.zero).wall)) then false else Qy4 b r (i+1)
def Qf7 (a:List Alt) (b:List Alt):Bool:=bif ((a.length:Int)!=(b.length:Int)) then false else Qy4 b a 0
theorem Q5e (a:List Alt) (b:List Alt) (hs0:a.length<=4294967296) (hs1:b.length<=4294967296):GV 140 [altL a,altL b] (Bo (Qf7 a b)):=by
 generalize hR:Qf7 a b=R;refine ga (.cons lw (.cons lw .nil)) lx (kp 6 [10,14,40]) Tryz.func140 ?_;have hk0:=hs0;obtain z7:a.length<=4294967296:=hs0;have hk1:=hs1;obtain z8:b.length<=4294967296:=hs1;refine ai (fun h1=>?_) (fun h2=>?_)
 ·obtain rfl:=foll hR (ct h1 rfl);exact Q00 lx sr
 ·refine Qf0 (fun (i:Nat)=>Qy4 b (List.drop i a) i=R∧i<=a.length) (fun i=>a.length - i) (fun i=>[(0,altL a),(1,altL b),(4,Bo false),(5,I (i:Int))]) (fun i=>[]) 0 (wk [] .nil (sl lw (sl lw (s1 (s1 .nil))))) ⟨foll hR (cf h2 rfl),by exact omA⟩ ?_;clear hR;rintro i ⟨hR,hj⟩;(try dsimp only at hR hj);refine ai (fun h3=>?_) (fun h4=>?_)
  ·have hlt:=ltA h3;rw [Q90 Alt.zero hlt] at hR;refine dchk (by kernel_rfl) ?_;refine ai gkA ?_;refine ai gkA ?_;refine ai gkA ?_;refine ai gkA ?_;(repeat ((first|refine ai rfl ?_|refine ai (fun _=>rfl) ?_)));refine ai (fun h5=>?_) (fun h6=>?_)
   ·obtain rfl:=foll hR (ct h5 rfl);exact Q00 lx sr
   ·exact Qj0 (i+1) (wk [] .nil (sl lw (sl lw (s1 (sv (Q70 (I_eq (wr omA)) lx) .nil))))) omA ⟨foll hR (cf h6 rfl),by exact omA⟩
  ·rw [Qa0 (l:=a) (j:=i) (geA h4)] at hR;obtain rfl:=foll hR rfl;exact Q00 lx sr
def Qh0 (r_:Int):Int:=bif ((r_==9)||(r_==32)) then 1 else bif (((decide (r_<32))||(r_==65533))||(decide (r_ > 1114111))) then 0 else bif (((decide (r_ > 126))&&(decide (r_<161)))||((decide (r_ > 55295))&&(decide (r_<57344)))) then 0 else bif ((decide (r_ > 47))&&(decide (r_<58))) then 3 else bif (((decide (r_ > 160))||((decide (r_ > 64))&&(decide (r_<91))))||((decide (r_ > 96))&&(decide (r_<123)))) then 2 else 4
theorem QQ4 (r_:Int):GV 251 [J r_] (I (Qh0 r_)):=by
 generalize hR:Qh0 r_=R;refine ga (l1 .nil) lx (kp 3 [8,18,32,38,56]) Tryz.func251 ?_;refine ai (fun h1=>?_) (fun h2=>?_)
 ·obtain rfl:=foll hR (ct h1 rfl);exact Q00 lx sr
 ·refine ai (fun h3=>?_) (fun h4=>?_)
  ·obtain rfl:=foll hR (cf h2 (ct h3 rfl));exact Q00 lx sr
  ·refine ai (fun h5=>?_) (fun h6=>?_)
   ·obtain rfl:=foll hR (cf h2 (cf h4 (ct h5 rfl)));exact Q00 lx sr
   ·refine ai (fun h7=>?_) (fun h8=>?_)
    ·obtain rfl:=foll hR (cf h2 (cf h4 (cf h6 (ct h7 rfl))));exact Q00 lx sr
    ·refine ai (fun h9=>?_) (fun h10=>?_)
     ·obtain rfl:=foll hR (cf h2 (cf h4 (cf h6 (cf h8 (ct h9 rfl)))));exact Q00 lx sr
     ·obtain rfl:=foll hR (cf h2 (cf h4 (cf h6 (cf h8 (cf h10 rfl)))));exact Q00 lx sr
def Qs3 :List (Nat × Int)->List Int->(List Int)
 | [],out=>out
 | x_ :: r,out=>Qs3 r (out++([x_.2]:List Int))
def Qe4 (out:List Int):(List Int):=out
def QF0 (s:ByteArray):(List Int):=Qe4 (Qs3 (Qk7 s) [])
theorem ref05_Runes_c (s:ByteArray) (hs0:s.size<=4294967296):GV 269 [Sg s] (runes (QF0 s)):=by
 generalize hR:QF0 s=R;refine ga (l1 .nil) lw (kp 6 [7,8,9]) Tryz.func269 ?_;have hk0:=hs0;obtain z3:s.size<=4294967296:=hs0;refine Qg0 (fun (out:List Int) (pos:Nat)=>∃ m,ByteArray.size s - pos<=m∧Qe4 (Qs3 (Qr4 s m pos) out)=R∧out.length<=pos) (fun out pos=>ByteArray.size s - pos) (fun out pos=>[(2,AVal.lit (.slice none 0 0)),(3,AVal.own 1 0 1 0 out.length),(7,AVal.ptr 0 0 1 0 0)]) (fun out pos=>[(0,AObj.other (.strIter s pos)),(0,AObj.row 21 1 (out.map (fun q_=>[J q_])))]) [] 0 ((Qh1 21 1).trans (wk [0,1] (tO rfl (.strIter _ _) (tO rfl (tl eqA) .nil)) (s1 (sv (QV0 1 rfl) (sv (Q20 0 rfl rfl) .nil))))) ⟨ByteArray.size s,by exact omA,foll hR rfl,by exact exA⟩ ?_;clear hR;rintro out pos ⟨m,hm,hR,hx⟩;(try dsimp only at hR hm hx);refine ai (fun h1=>?_) (fun h2=>?_)
 ·have hlt:=of_decide_eq_true h1;have hw:=QR7 s pos;have hwe:=QQ7 s pos hlt;obtain ⟨m,rfl⟩:=sucA m;rw [Ql3 h1] at hR;refine ai (fun _=>?_) (fun h=>nomatch h);refine Or.inl ?_;(first|refine ⟨QK1 4 rfl lnA apA,?_⟩|refine ⟨QR0 4 rfl apA,?_⟩);exact Q80 (out++([(pos,((Utf8.decode s pos).1:Int)).2]:List Int)) (pos+(Utf8.decode s pos).2) (wk [0,1] (tO rfl (.strIter _ _) (tO rfl (tl eqA) .nil)) (s1 (sv (to 1 lnA) (sv (Q20 0 rfl rfl) .nil)))) omA ⟨m,by exact omA,foll hR (congrArg (fun p:(List Int)=>Qe4 p) rfl),by exact exA⟩
 ·rw [QG5 h2] at hR;refine ai (fun h=>nomatch h) (fun _=>?_);replace hR:Qe4 out=R:=fo2 (fun p:(List Int)=>Qe4 p) (out) hR rfl;obtain rfl:=foll hR rfl;exact Q00 lw (QT0 0 _ rfl eqA lnA)
theorem Qs8:∀ (l:List (Nat × Int)) (out:List Int),(Qs3 l out).length=out.length+l.length
 | [],out=>rfl
 | x :: r,out=>by
  rw [Qs3,Qs8 r]
  simp
  omega
theorem QVd (s:ByteArray):∀ m pos,(Qr4 s m pos).length<=m
 | 0,_=>by simp [Qr4]
 | m+1,pos=>by
  cases h:decide (pos<s.size) with
  | false=>rw [QG5 h];simp
  | true=>rw [Ql3 h];have:=QVd s m (pos+(Utf8.decode s pos).2);simp;omega
theorem Qea (s:ByteArray):(QF0 s).length<=s.size:=by
 unfold QF0 Qe4
 rw [Qs8]
 have:=QVd s s.size 0
 simp only [Qk7,List.length_nil]
 omega
def QB9 (r_:Int):Bool:=(((decide (r_ >= 48))&&(decide (r_<=57)))||((decide (r_ >= 97))&&(decide (r_<=122))))
theorem ref05_small_c (r_:Int):GV 306 [J r_] (Bo (QB9 r_)):=by
 generalize hR:QB9 r_=R;refine ga (l1 .nil) lx (kp 3 []) Tryz.func306 ?_;obtain rfl:=foll hR rfl;exact Q00 lx sr
def Qr3 (s:ByteArray):Nat->List Int->Nat->(List Int) × Nat
 | 0,_,_=>([],0)
 | m+1,out,i=>bif (decide ((i:Int)<(ByteArray.size s:Int))) then bif ((decide (((s.data.toList.getD i 0).toNat:Int) > 64))&&(decide (((s.data.toList.getD i 0).toNat:Int)<91))) then Qr3 s m (out++([(wu8 (((s.data.toList.getD i 0).toNat:Int)+32))]:List Int)) (i+1) else Qr3 s m (out++([((s.data.toList.getD i 0).toNat:Int)]:List Int)) (i+1) else (out,i)
def Qd4 (out:List Int) (i:Nat):ByteArray:=(QN2 out)
def QS2 (s:ByteArray):ByteArray:=Qd4 ((Qr3 s ((Int.toNat ((ByteArray.size s:Int) - (0:Int)))+1) [] 0).1) ((Qr3 s ((Int.toNat ((ByteArray.size s:Int) - (0:Int)))+1) [] 0).2)
theorem ref04_Lower_c (s:ByteArray) (hs0:s.size<=4294967296):GV 289 [Sg s] (Sg (QS2 s)):=by
 generalize hR:QS2 s=R;refine ga (l1 .nil) lx (kp 5 [8,20]) Tryz.func289 ?_;have hk0:=hs0;obtain z5:s.size<=4294967296:=hs0;refine Qg0 (fun (out:List Int) (i:Nat)=>∃ m,(Int.toNat ((ByteArray.size s:Int) - (i:Int)))<m∧Qd4 (Qr3 s m out i).1 (Qr3 s m out i).2=R∧out.length<=i∧(i:Int)<=(ByteArray.size s:Int)) (fun out i=>(Int.toNat ((ByteArray.size s:Int) - (i:Int)))) (fun out i=>[(0,Sg s),(2,Sg ⟨#[]⟩),(3,AVal.own 0 0 1 0 out.length),(4,I (i:Int))]) (fun out i=>[(0,AObj.row 5 1 (out.map (fun q_=>[Y q_])))]) [] 0 ((Qh1 5 1).trans (wk [0] (tO rfl (tl eqA) .nil) (s1 (s1 (sv (QV0 0 rfl) (s1 .nil)))))) ⟨_,Nat.lt_succ_self _,foll hR rfl,by exact exA⟩ ?_;clear hR;rintro out i ⟨m,hm,hR,hx⟩;(try dsimp only at hR hm hx);obtain ⟨m,rfl⟩:=sucA m;refine ai (fun h1=>?_) (fun h2=>?_)
 ·have qh1:=of_decide_eq_true h1;refine ai gkA ?_;refine ai gkA ?_;refine ai (fun h3=>?_) (fun h4=>?_)
  ·refine ai gkA ?_;refine Or.inl ?_;(first|refine ⟨QK1 1 rfl lnA apA,?_⟩|refine ⟨QR0 1 rfl apA,?_⟩);exact Q80 (out++([(wu8 (((s.data.toList.getD i 0).toNat:Int)+32))]:List Int)) (i+1) (wk [0] (tO rfl (tl eqA) .nil) (s1 (s1 (sv (to 0 lnA) (sv (Q70 (I_eq (wr omA)) lx) .nil))))) omA ⟨m,by exact omA,foll hR (congrArg (fun p:(List Int) × Nat=>Qd4 p.1 p.2) (ct h1 (ct h3 rfl))),by exact exA⟩
  ·refine ai gkA ?_;refine Or.inl ?_;(first|refine ⟨QK1 1 rfl lnA apA,?_⟩|refine ⟨QR0 1 rfl apA,?_⟩);exact Q80 (out++([((s.data.toList.getD i 0).toNat:Int)]:List Int)) (i+1) (wk [0] (tO rfl (tl eqA) .nil) (s1 (s1 (sv (to 0 lnA) (sv (Q70 (I_eq (wr omA)) lx) .nil))))) omA ⟨m,by exact omA,foll hR (congrArg (fun p:(List Int) × Nat=>Qd4 p.1 p.2) (ct h1 (cf h4 rfl))),by exact exA⟩
 ·have qh2:=of_decide_eq_false h2;replace hR:Qd4 out i=R:=fo2 (fun p:(List Int) × Nat=>Qd4 p.1 p.2) (out,i) hR (cf h2 rfl);(first|refine ⟨out,by exact cvA,?_⟩|refine ⟨_,fun _=>⟨out,by exact cvA,rfl,rfl⟩,?_⟩|refine ⟨_,rfl,⟨out,by exact cvA,Sub.refl _,rfl⟩,?_⟩);obtain rfl:=foll hR rfl;exact Q00 lx sr
def QQ8 :List Int->Nat->Bool
 | [],_=>false
 | x_ :: r,i=>bif (decide (x_ >= 97)) then true else QQ8 r (i+1)
def Qnb (l:List Int):Bool:=QQ8 l 0
theorem ref05_plain_c (l:List Int) (hs0:l.length<=4294967296):GV 290 [runes l] (Bo (Qnb l)):=by
 generalize hR:Qnb l=R;refine ga (.cons lw .nil) lx (kp 4 [7,14]) Tryz.func290 ?_;have hk0:=hs0;obtain z5:l.length<=4294967296:=hs0;refine Qf0 (fun (i:Nat)=>QQ8 (List.drop i l) i=R∧i<=l.length) (fun i=>l.length - i) (fun i=>[(0,runes l),(2,Bo false),(3,I (i:Int))]) (fun i=>[]) 0 (wk [] .nil (sl lw (s1 (s1 .nil)))) ⟨foll hR rfl,by exact omA⟩ ?_;clear hR;rintro i ⟨hR,hj⟩;(try dsimp only at hR hj);refine ai (fun h1=>?_) (fun h2=>?_)
 ·have hlt:=ltA h1;rw [Q90 0 hlt] at hR;refine ai gkA ?_;refine ai (fun h3=>?_) (fun h4=>?_)
  ·have qh3:=of_decide_eq_true h3;obtain rfl:=foll hR (ct h3 rfl);exact Q00 lx sr
  ·have qh4:=of_decide_eq_false h4;exact Qj0 (i+1) (wk [] .nil (sl lw (s1 (sv (Q70 (I_eq (wr omA)) lx) .nil)))) omA ⟨foll hR (cf h4 rfl),by exact omA⟩
 ·rw [Qa0 (l:=l) (j:=i) (geA h2)] at hR;obtain rfl:=foll hR rfl;exact Q00 lx sr
def Qd8 :List Int->Int->Nat->Int
 | [],n,_=>n
 | x_ :: r,n,i=>bif ((decide (x_<48))||(decide (x_ > 57))) then (-1) else Qd8 r (w64 ((w64 (10*n))+(w64 (w32 (x_ - 48))))) (i+1)
def Qr8 (l:List Int):Int:=bif ((((l.length:Int)==0)||(decide ((l.length:Int) > 9)))||((decide ((l.length:Int) > 1))&&((l.getD 0 0)==48))) then (-1) else Qd8 l 0 0
theorem ref05_Number_c (l:List Int) (hs0:l.length<=4294967296):GV 291 [runes l] (I (Qr8 l)):=by
 generalize hR:Qr8 l=R;refine ga (.cons lw .nil) lx (kp 5 [23,27,41]) Tryz.func291 ?_;have hk0:=hs0;obtain z7:l.length<=4294967296:=hs0;refine ai gkA ?_;refine ai (fun h1=>?_) (fun h2=>?_)
 ·obtain rfl:=foll hR (ct h1 rfl);exact Q00 lx sr
 ·refine Qg0 (fun (n:Int) (i:Nat)=>Qd8 (List.drop i l) n i=R∧i<=l.length) (fun n i=>l.length - i) (fun n i=>[(0,runes l),(2,I 0),(3,I n),(4,I (i:Int))]) (fun n i=>[]) 0 0 (wk [] .nil (sl lw (s1 (s1 (s1 .nil))))) ⟨foll hR (cf h2 rfl),by exact omA⟩ ?_;clear hR;rintro n i ⟨hR,hj⟩;(try dsimp only at hR hj);refine ai (fun h3=>?_) (fun h4=>?_)
  ·have hlt:=ltA h3;rw [Q90 0 hlt] at hR;refine ai gkA ?_;refine ai gkA ?_;refine ai (fun h5=>?_) (fun h6=>?_)
   ·obtain rfl:=foll hR (ct h5 rfl);exact Q00 lx sr
   ·refine ai gkA ?_;exact Q80 (w64 ((w64 (10*n))+(w64 (w32 ((l.getD i 0) - 48))))) (i+1) (wk [] .nil (sl lw (s1 (s1 (sv (Q70 (I_eq (wr omA)) lx) .nil))))) omA ⟨foll hR (cf h6 rfl),by exact omA⟩
  ·rw [Qa0 (l:=l) (j:=i) (geA h4)] at hR;obtain rfl:=foll hR rfl;exact Q00 lx sr
def Qi1 (n:Int) (from_:Int) (to_:Int):Bool:=((decide (n >= from_))&&(decide (n<=to_)))
theorem QV3 (n:Int) (from_:Int) (to_:Int):GV 183 [I n,I from_,I to_] (Bo (Qi1 n from_ to_)):=by
 generalize hR:Qi1 n from_ to_=R;refine ga (l1 (l1 (l1 .nil))) lx (kp 7 []) Tryz.func183 ?_;obtain rfl:=foll hR rfl;exact Q00 lx sr
def Qn1 (n:Int):Bool:=((decide (n >= 1))&&(decide (n<=48)))
theorem Qfa (n:Int):GV 223 [I n] (Bo (Qn1 n)):=by
 generalize hR:Qn1 n=R;refine ga (l1 .nil) lx (kp 3 []) Tryz.func223 ?_;obtain rfl:=foll hR rfl;exact Q00 lx sr
def Q52 (n:Int):Bool:=((decide (n >= 1))&&(decide (n<=100000)))
theorem QJd (n:Int):GV 224 [I n] (Bo (Q52 n)):=by
 generalize hR:Q52 n=R;refine ga (l1 .nil) lx (kp 3 []) Tryz.func224 ?_;obtain rfl:=foll hR rfl;exact Q00 lx sr
def QL0 (n:Int):Bool:=((decide (n >= 0))&&(decide (n<=1000000)))
theorem Q44 (n:Int):GV 115 [I n] (Bo (QL0 n)):=by
 generalize hR:QL0 n=R;refine ga (l1 .nil) lx (kp 3 []) Tryz.func115 ?_;obtain rfl:=foll hR rfl;exact Q00 lx sr
def Qm2 :Nat->Int->List Int->Nat->Int × (List Int) × Nat
 | 0,_,_,_=>(0,[],0)
 | m+1,s2,out,n=>bif (decide (s2 > 0)) then bif ((Int.tmod s2 2)==1) then Qm2 m (wu64 (Int.tdiv s2 2)) (out++([(n:Int)]:List Int)) (n+1) else Qm2 m (wu64 (Int.tdiv s2 2)) out (n+1) else (s2,out,n)
def QR4 (s2:Int) (out:List Int) (n:Nat):(List Int):=out
def QT7 (s:Int):(List Int):=QR4 ((Qm2 ((Int.toNat s)+1) s [] 0).1) ((Qm2 ((Int.toNat s)+1) s [] 0).2.1) ((Qm2 ((Int.toNat s)+1) s [] 0).2.2)
theorem ref09_List_c (s:Int):GV 184 [U s] (ints (QT7 s)):=by
 generalize hR:QT7 s=R;refine ga (l1 .nil) lw (kp 5 [6,11]) Tryz.func184 ?_;refine Qm6 (fun (s2:Int) (out:List Int) (n:Nat)=>∃ m,(Int.toNat s2)<m∧QR4 (Qm2 m s2 out n).1 (Qm2 m s2 out n).2.1 (Qm2 m s2 out n).2.2=R∧(n:Int)<=65∧((n:Int)=0∨(0<=s2∧s2<2 ^ (65 - (Int.toNat (n:Int)))))∧out.length<=n) (fun s2 out n=>(Int.toNat s2)) (fun s2 out n=>[(0,U s2),(2,AVal.lit (.slice none 0 0)),(3,AVal.own 0 0 1 0 out.length),(4,I (n:Int))]) (fun s2 out n=>[(0,AObj.row 3 1 (out.map (fun q_=>[I q_])))]) s [] 0 ((Qh1 3 1).trans (wk [0] (tO rfl (tl eqA) .nil) (s1 (s1 (sv (QV0 0 rfl) (s1 .nil)))))) ⟨_,Nat.lt_succ_self _,foll hR rfl,by exact exA⟩ ?_;clear hR;rintro s2 out n ⟨m,hm,hR,hx⟩;(try dsimp only at hR hm hx);obtain ⟨m,rfl⟩:=sucA m;refine ai (fun h1=>?_) (fun h2=>?_)
 ·have qh1:=of_decide_eq_true h1;obtain ⟨hf1,hf2,hf3,hf4⟩:=ref09_half hx.2.1 hx.1 qh1;refine ai gkA ?_;refine ai (fun h3=>?_) (fun h4=>?_)
  ·refine Or.inl ?_;(first|refine ⟨QK1 8 rfl lnA apA,?_⟩|refine ⟨QR0 8 rfl apA,?_⟩);refine ai gkA ?_;exact Qp2 (wu64 (Int.tdiv s2 2)) (out++([(n:Int)]:List Int)) (n+1) (wk [0] (tO rfl (tl eqA) .nil) (s1 (s1 (sv (to 0 lnA) (sv (Q70 (I_eq (wr omA)) lx) .nil))))) omA ⟨m,by exact omA,foll hR (congrArg (fun p:Int × (List Int) × Nat=>QR4 p.1 p.2.1 p.2.2) (ct h1 (ct h3 rfl))),by exact exA⟩
  ·refine ai gkA ?_;exact Qp2 (wu64 (Int.tdiv s2 2)) out (n+1) (wk [0] (tO rfl (tl eqA) .nil) (s1 (s1 (sv (to 0 lnA) (sv (Q70 (I_eq (wr omA)) lx) .nil))))) omA ⟨m,by exact omA,foll hR (congrArg (fun p:Int × (List Int) × Nat=>QR4 p.1 p.2.1 p.2.2) (ct h1 (cf h4 rfl))),by exact exA⟩
 ·have qh2:=of_decide_eq_false h2;replace hR:QR4 s2 out n=R:=fo2 (fun p:Int × (List Int) × Nat=>QR4 p.1 p.2.1 p.2.2) (s2,out,n) hR (cf h2 rfl);obtain rfl:=foll hR rfl;exact Q00 lw (QT0 0 _ rfl eqA lnA)
def Qha (set_:Int):Bool:=(decide (set_<281474976710656))
theorem ref14_Few_c (set_:Int):GV 185 [U set_] (Bo (Qha set_)):=by
 generalize hR:Qha set_=R;refine ga (l1 .nil) lx (kp 3 []) Tryz.func185 ?_;obtain rfl:=foll hR rfl;exact Q00 lx sr
def Qo6 (state:Int):Bool:=((decide (state >= 3))&&(decide (state<=7)))
theorem Qec (state:Int):GV 187 [I state] (Bo (Qo6 state)):=by
 generalize hR:Qo6 state=R;refine ga (l1 .nil) lx (kp 3 []) Tryz.func187 ?_;obtain rfl:=foll hR rfl;exact Q00 lx sr
def QB6 (x_:Node):Bool:=bif ((((((decide (x_.epoch<0))||(decide (x_.epoch > 999999999)))||(decide (x_.since<0)))||(decide (x_.since > 1000000)))||(decide (x_.asked<0)))||(decide (x_.asked > 1000000))) then false else bif ((x_.state==0)||(x_.state==4)) then ((x_.job==0)&&((x_.want==0)||((x_.state==4)&&(x_.want==6)))) else bif ((decide (x_.job<1))||(decide (x_.job > 99999))) then false else bif (x_.state==1) then ((((x_.want==0)||(x_.want==1))||(x_.want==3))||(x_.want==4)) else bif (x_.state==2) then ((x_.want==0)||(x_.want==2)) else bif (x_.state==3) then (x_.want==5) else false
theorem ref12_fine_c (x_:Node):GV 220 [Node.a x_] (Bo (QB6 x_)):=by
 generalize hR:QB6 x_=R;refine ga (.cons (Node.low _ _) .nil) lx (kp 3 [30,38,64,66,67,87,97]) Tryz.func220 ?_;refine ai (fun h1=>?_) (fun h2=>?_)
 ·obtain rfl:=foll hR (ct h1 rfl);exact Q00 lx sr
 ·refine ai (fun h3=>?_) (fun h4=>?_)
  ·obtain rfl:=foll hR (cf h2 (ct h3 rfl));exact Q00 lx sr
  ·refine ai (fun h5=>?_) (fun h6=>?_)
   ·obtain rfl:=foll hR (cf h2 (cf h4 (ct h5 rfl)));exact Q00 lx sr
   ·refine ai (fun h7=>?_) (fun h8=>?_)
    ·obtain rfl:=foll hR (cf h2 (cf h4 (cf h6 (ct h7 rfl))));exact Q00 lx sr
    ·refine ai (fun h9=>?_) (fun h10=>?_)
     ·obtain rfl:=foll hR (cf h2 (cf h4 (cf h6 (cf h8 (ct h9 rfl)))));exact Q00 lx sr
     ·refine ai (fun h11=>?_) (fun h12=>?_)
      ·obtain rfl:=foll hR (cf h2 (cf h4 (cf h6 (cf h8 (cf h10 (ct h11 rfl))))));exact Q00 lx sr
      ·obtain rfl:=foll hR (cf h2 (cf h4 (cf h6 (cf h8 (cf h10 (cf h12 rfl))))));exact Q00 lx sr
def Ql4 :List Book->Int->Nat->Int
 | [],_,_=>0
 | x_ :: r,last,i=>bif (((((((((i:Int)==8)||(decide (x_.id<=last)))||(decide (x_.id > 99999)))||(decide (x_.from_<0)))||(decide (x_.to<=x_.from_)))||(decide (x_.to > 1000000)))||(decide (x_.nodes<1)))||(decide (x_.nodes > 48))) then 190 else Ql4 r x_.id (i+1)
def Qq6 (l:List Book):Int:=Ql4 l 0 0
theorem ref19_Check_c (l:List Book) (hs0:l.length<=4294967296):GV 175 [bookL l] (I (Qq6 l)):=by
 generalize hR:Qq6 l=R;refine ga (.cons lw .nil) lx (kp 6 [9,55]) Tryz.func175 ?_;have hk0:=hs0;obtain z5:l.length<=4294967296:=hs0;refine Qg0 (fun (last:Int) (i:Nat)=>Ql4 (List.drop i l) last i=R∧i<=l.length) (fun last i=>l.length - i) (fun last i=>[(0,bookL l),(2,I 0),(3,I last),(4,I (i:Int))]) (fun last i=>[]) 0 0 (wk [] .nil (sl lw (s1 (s1 (s1 .nil))))) ⟨foll hR rfl,by exact omA⟩ ?_;clear hR;rintro last i ⟨hR,hj⟩;(try dsimp only at hR hj);refine ai (fun h1=>?_) (fun h2=>?_)
 ·have hlt:=ltA h1;rw [Q90 Book.zero hlt] at hR;refine ai gkA ?_;refine ai (fun h3=>?_) (fun h4=>?_)
  ·obtain rfl:=foll hR (ct h3 rfl);exact Q00 lx sr
  ·exact Q80 ((l.getD i Book.zero).id) (i+1) (wk [] .nil (sl lw (s1 (s1 (sv (Q70 (I_eq (wr omA)) lx) .nil))))) omA ⟨foll hR (cf h4 rfl),by exact omA⟩
 ·rw [Qa0 (l:=l) (j:=i) (geA h2)] at hR;obtain rfl:=foll hR rfl;exact Q00 lx sr
def QF3 (s:ByteArray):Bool:=((decide ((ByteArray.size s:Int) > 0))&&(decide ((ByteArray.size s:Int)<65)))
theorem QQd (s:ByteArray):GV 176 [Sg s] (Bo (QF3 s)):=by
 generalize hR:QF3 s=R;refine ga (l1 .nil) lx (kp 3 []) Tryz.func176 ?_;obtain rfl:=foll hR rfl;exact Q00 lx sr
def Q67 (a:Usage) (b:Usage):Bool:=((Op.bytesLess (ByteArray.toList a.user) (ByteArray.toList b.user))||((ByteArray.toList a.user==ByteArray.toList b.user)&&(Op.bytesLess (ByteArray.toList a.account) (ByteArray.toList b.account))))
theorem Qic (a:Usage) (b:Usage):GV 177 [Usage.a a,Usage.a b] (Bo (Q67 a b)):=by
 generalize hR:Q67 a b=R;refine ga (.cons (Usage.low _ _) (.cons (Usage.low _ _) .nil)) lx (kp 5 []) Tryz.func177 ?_;obtain rfl:=foll hR rfl;exact Q00 lx sr
def Qv3 (p_:List Step):List Step->Nat->Int
 | [],_=>0
 | x_ :: r,i=>bif (((decide (x_.free<(-1000000)))||(decide (x_.free > 1000000)))||(decide (x_.at_ > 1000000))) then 100 else bif ((decide ((i:Int) > 0))&&((decide (x_.at_<=(p_.getD (Int.toNat (w64 ((i:Int) - 1))) Step.zero).at_))||(x_.free==(p_.getD (Int.toNat (w64 ((i:Int) - 1))) Step.zero).free))) then 100 else Qv3 p_ r (i+1)
def QA0 (p_:List Step):Int:=bif (((decide ((p_.length:Int)<1))||(decide ((p_.length:Int) > 1000)))||((p_.getD 0 Step.zero).at_ != 0)) then 100 else Qv3 p_ p_ 0
theorem QL7 (p_:List Step) (hs0:p_.length<=4294967296):GV 124 [stepL p_] (I (QA0 p_)):=by
 generalize hR:QA0 p_=R;refine ga (.cons lw .nil) lx (kp 4 [18,22,46,76]) Tryz.func124 ?_;have hk0:=hs0;obtain z9:p_.length<=4294967296:=hs0;refine ai gkA ?_;refine ai (fun h1=>?_) (fun h2=>?_)
 ·obtain rfl:=foll hR (ct h1 rfl);exact Q00 lx sr
 ·refine Qf0 (fun (i:Nat)=>Qv3 p_ (List.drop i p_) i=R∧i<=p_.length) (fun i=>p_.length - i) (fun i=>[(0,stepL p_),(2,I 0),(3,I (i:Int))]) (fun i=>[]) 0 (wk [] .nil (sl lw (s1 (s1 .nil)))) ⟨foll hR (cf h2 rfl),by exact omA⟩ ?_;clear hR;rintro i ⟨hR,hj⟩;(try dsimp only at hR hj);refine ai (fun h3=>?_) (fun h4=>?_)
  ·have hlt:=ltA h3;rw [Q90 Step.zero hlt] at hR;refine ai gkA ?_;refine ai gkA ?_;refine ai gkA ?_;refine ai (fun h5=>?_) (fun h6=>?_)
   ·obtain rfl:=foll hR (ct h5 rfl);exact Q00 lx sr
   ·refine dchk (by kernel_rfl) ?_;refine ai gkA ?_;refine ai gkA ?_;refine ai gkA ?_;refine ai gkA ?_;(repeat ((first|refine ai rfl ?_|refine ai (fun _=>rfl) ?_)));refine ai (fun h7=>?_) (fun h8=>?_)
    ·obtain rfl:=foll hR (cf h6 (ct h7 rfl));exact Q00 lx sr
    ·exact Qj0 (i+1) (wk [] .nil (sl lw (s1 (sv (Q70 (I_eq (wr omA)) lx) .nil)))) omA ⟨foll hR (cf h6 (cf h8 rfl)),by exact omA⟩
  ·rw [Qa0 (l:=p_) (j:=i) (geA h4)] at hR;obtain rfl:=foll hR rfl;exact Q00 lx sr
theorem QM6 {p:List Step} (h:(QA0 p != 0)=false):p.length<=1000:=by
 simp only [QA0] at h
 revert h
 cases h2:(((decide ((p.length:Int)<1))||(decide ((p.length:Int) > 1000)))||((p.getD 0 Step.zero).at_ != 0)) with
 | true=>simp
 | false=>intro _;simp at h2;omega
def QH4 (t:Int):List Step->Int->Nat->Int × Nat
 | [],out,i=>(out,i)
 | x_ :: r,out,i=>bif (decide (x_.at_<=t)) then QH4 t r x_.free (i+1) else QH4 t r out (i+1)
def QA6 (out:Int) (i:Nat):Int:=out
def Q35 (p_:List Step) (t:Int):Int:=QA6 ((QH4 t p_ 0 0).1) ((QH4 t p_ 0 0).2)
theorem QJf (p_:List Step) (t:Int) (hs0:p_.length<=4294967296):GV 125 [stepL p_,I t] (I (Q35 p_ t)):=by
 generalize hR:Q35 p_ t=R;refine ga (.cons lw (l1 .nil)) lx (kp 7 [10,19]) Tryz.func125 ?_;have hk0:=hs0;obtain z5:p_.length<=4294967296:=hs0;refine Qg0 (fun (out:Int) (i:Nat)=>QA6 (QH4 t (List.drop i p_) out i).1 (QH4 t (List.drop i p_) out i).2=R∧i<=p_.length) (fun out i=>p_.length - i) (fun out i=>[(0,stepL p_),(1,I t),(4,I 0),(5,I out),(6,I (i:Int))]) (fun out i=>[]) 0 0 (wk [] .nil (sl lw (s1 (s1 (s1 (s1 .nil)))))) ⟨foll hR rfl,by exact omA⟩ ?_;clear hR;rintro out i ⟨hR,hj⟩;(try dsimp only at hR hj);refine ai (fun h1=>?_) (fun h2=>?_)
 ·have hlt:=ltA h1;rw [Q90 Step.zero hlt] at hR;refine ai gkA ?_;refine ai (fun h3=>?_) (fun h4=>?_)
  ·have qh3:=of_decide_eq_true h3;refine ai gkA ?_;exact Q80 ((p_.getD i Step.zero).free) (i+1) (wk [] .nil (sl lw (s1 (s1 (s1 (sv (Q70 (I_eq (wr omA)) lx) .nil)))))) omA ⟨foll hR (congrArg (fun p:Int × Nat=>QA6 p.1 p.2) (ct h3 rfl)),by exact omA⟩
  ·have qh4:=of_decide_eq_false h4;exact Q80 out (i+1) (wk [] .nil (sl lw (s1 (s1 (s1 (sv (Q70 (I_eq (wr omA)) lx) .nil)))))) omA ⟨foll hR (congrArg (fun p:Int × Nat=>QA6 p.1 p.2) (cf h4 rfl)),by exact omA⟩
 ·rw [Qa0 (l:=p_) (j:=i) (geA h2)] at hR;replace hR:QA6 out i=R:=fo2 (fun p:Int × Nat=>QA6 p.1 p.2) (out,i) hR rfl;obtain rfl:=foll hR rfl;exact Q00 lx sr
def Q63 (l:List Int) (n:Int):Nat->Nat->Nat
 | 0,_=>0
 | m+1,i=>bif ((decide ((i:Int)<(l.length:Int)))&&(decide ((l.getD i 0)<n))) then Q63 l n m (i+1) else i
def Qx5 (l:List Int) (n:Int) (i:Nat):(List Int):=bif ((decide ((i:Int)<(l.length:Int)))&&((l.getD i 0)==n)) then l else (((List.take i l)++([n]:List Int))++(List.drop i l))
def QL3 (l:List Int) (n:Int):(List Int):=Qx5 l n (Q63 l n ((Int.toNat ((l.length:Int) - (0:Int)))+1) 0)
theorem QKf (l:List Int) (n:Int) (hs0:l.length<=4294967296):GV 254 [ints l,I n] (ints (QL3 l n)):=by
 generalize hR:QL3 l n=R;refine ga (.cons lw (l1 .nil)) lw (kp 6 [17,31]) Tryz.func254 ?_;have hk0:=hs0;obtain z5:l.length<=4294967296:=hs0;refine Qf0 (fun (i:Nat)=>∃ m,(Int.toNat ((l.length:Int) - (i:Int)))<m∧Qx5 l n (Q63 l n m i)=R∧(i:Int)<=(l.length:Int)) (fun i=>(Int.toNat ((l.length:Int) - (i:Int)))) (fun i=>[(0,ints l),(1,I n),(4,AVal.lit (.slice none 0 0)),(5,I (i:Int))]) (fun i=>[]) 0 (wk [] .nil (sl lw (s1 (s1 (s1 .nil))))) ⟨_,Nat.lt_succ_self _,foll hR rfl,by exact exA⟩ ?_;clear hR;rintro i ⟨m,hm,hR,hx⟩;(try dsimp only at hR hm hx);obtain ⟨m,rfl⟩:=sucA m;refine ai gkA ?_;refine ai (fun h1=>?_) (fun h2=>?_)
 ·exact Qj0 (i+1) (wk [] .nil (sl lw (s1 (s1 (sv (Q70 (I_eq (wr omA)) lx) .nil))))) omA ⟨m,by exact omA,foll hR (congrArg (fun p:Nat=>Qx5 l n p) (ct h1 rfl)),by exact exA⟩
 ·replace hR:Qx5 l n i=R:=fo2 (fun p:Nat=>Qx5 l n p) (i) hR (cf h2 rfl);refine ai gkA ?_;refine ai (fun h3=>?_) (fun h4=>?_)
  ·obtain rfl:=foll hR (ct h3 rfl);exact Q00 lw sr
  ·refine dchk (by kernel_rfl) ?_;refine ai gkA ?_;(first|refine ⟨QK1 8 rfl lnA apA,?_⟩|refine ⟨QR0 8 rfl apA,?_⟩);(first|refine ⟨QK1 8 rfl lnA apA,?_⟩|refine ⟨QR0 8 rfl apA,?_⟩);refine ai gkA ?_;(first|refine ⟨QK1 8 rfl lnA apA,?_⟩|refine ⟨QR0 8 rfl apA,?_⟩);(repeat ((first|refine ai rfl ?_|refine ai (fun _=>rfl) ?_)));obtain rfl:=foll hR (cf h4 rfl);exact Q00 lw (QT0 0 _ rfl eqA lnA)
theorem QM7 (l:List Int) (n:Int):(QL3 l n).length<=l.length+1:=by
 unfold QL3 Qx5
 generalize Q63 l n _ 0=i
 cases ((decide ((i:Int)<(l.length:Int)))&&((l.getD i 0)==n)) with
 | true=>simp
 | false =>
  simp only [cond_false,List.length_append,List.length_take,List.length_drop,List.length_cons,List.length_nil]
  omega
end Go.Proofs.YtjpgfmbccohngaaGreatDoor
namespace Go.Proofs.YtjpgfmbccohngaaGreatDoor
set_option linter.unusedSimpArgs false
set_option linter.unusedVariables false
open Go.Fw
set_option maxRecDepth 20000
set_option maxHeartbeats 4000000
attribute [local irreducible] ACalls AMoves
def QN6 (n1:Int):(List Step):=bif (decide (n1 > 1000000)) then ([(⟨0,1000000⟩:Step)]:List Step) else ([(⟨0,n1⟩:Step)]:List Step)
def Qc5 (n:Int):(List Step):=bif (decide (n<(-1000000))) then QN6 (-1000000) else QN6 n
theorem ref10_Flat_c (n:Int):GV 191 [I n] (stepL (Qc5 n)):=by
 generalize hR:Qc5 n=R;refine ga (l1 .nil) lw (kj [1000003] 3 [4,6]) Tryz.func191 ?_;refine Qr1 (fun (n1:Int)=>QN6 n1=R) (fun n1=>[(0,I n1),(2,AVal.lit (.slice none 0 0))]) (fun n1=>[]) ?_ ?_
 ·clear hR;rintro n1 hR;(try dsimp only at hR);refine ai (fun h1=>?_) (fun h2=>?_)
  ·have qh1:=of_decide_eq_true h1;refine Or.inl ?_;obtain rfl:=foll hR (ct h1 rfl);exact Q00 lw (seen_as (QZ5 (c:=Step.cells) (d:=Step.zero) ([(⟨0,1000000⟩:Step)]:List Step) rfl))
  ·have qh2:=of_decide_eq_false h2;refine Or.inl ?_;obtain rfl:=foll hR (cf h2 rfl);exact Q00 lw (seen_as (QZ5 (c:=Step.cells) (d:=Step.zero) ([(⟨0,n1⟩:Step)]:List Step) rfl))
 ·refine ai (fun h3=>?_) (fun h4=>?_)
  ·have qh3:=of_decide_eq_true h3;exact Qb0 (-1000000) (wk [] .nil (s1 (s1 .nil))) (foll hR (ct h3 rfl))
  ·have qh4:=of_decide_eq_false h4;exact Qb0 n (wk [] .nil (s1 (s1 .nil))) (foll hR (cf h4 rfl))
def QD2 (id_:Int):List Job->Nat->Int
 | [],_=>(-1)
 | x_ :: r,i=>bif (x_.id==id_) then (i:Int) else QD2 id_ r (i+1)
def QO1 (l:List Job) (id_:Int):Int:=QD2 id_ l 0
theorem Q1d (l:List Job) (id_:Int) (hs0:l.length<=4294967296∧(∀ y ∈ l,y.sz)):GV 93 [jobL l,I id_] (I (QO1 l id_)):=by
 generalize hR:QO1 l id_=R;refine ga (.cons lw (l1 .nil)) lx (kp 6 [9,18]) Tryz.func93 ?_;obtain ⟨z10,z11⟩:=id hs0;refine Qf0 (fun (i:Nat)=>QD2 id_ (List.drop i l) i=R∧i<=l.length) (fun i=>l.length - i) (fun i=>[(0,jobL l),(1,I id_),(4,I 0),(5,I (i:Int))]) (fun i=>[]) 0 (wk [] .nil (sl lw (s1 (s1 (s1 .nil))))) ⟨foll hR rfl,by exact omA⟩ ?_;clear hR;rintro i ⟨hR,hj⟩;(try dsimp only at hR hj);refine ai (fun h1=>?_) (fun h2=>?_)
 ·have hlt:=ltA h1;rw [Q90 Job.zero hlt] at hR;have hxz:(l.getD i Job.zero).sz:=Q72 (by first|assumption|grind) (Job.szz _);have hkz:=hxz;obtain ⟨z3,z4,z5,z6,z7⟩:=Job.zz hxz;refine ai gkA ?_;refine ai (fun h8=>?_) (fun h9=>?_)
  ·obtain rfl:=foll hR (ct h8 rfl);exact Q00 lx sr
  ·exact Qj0 (i+1) (wk [] .nil (sl lw (s1 (s1 (sv (Q70 (I_eq (wr omA)) lx) .nil))))) omA ⟨foll hR (cf h9 rfl),by exact omA⟩
 ·rw [Qa0 (l:=l) (j:=i) (geA h2)] at hR;obtain rfl:=foll hR rfl;exact Q00 lx sr
theorem ref15_At_g1_lt (id_:Int) (r:List Job):∀ (i:Nat),QD2 id_ r i = -1∨((i:Int)<=QD2 id_ r i∧QD2 id_ r i<(i:Int)+(r.length:Int)):=by
 induction r with
 | nil=>intro i;left;rfl
 | cons x r ih =>
  intro i
  rw [QD2]
  cases (x.id==id_) with
  | true=>right;simp;omega
  | false =>
   rcases ih (i+1) with h|h
   ·left;exact h
   ·right;simp only [cond_false,List.length_cons];omega
theorem Qp6 (L:List Job) (id_:Int):QO1 L id_<0∨(0<=QO1 L id_∧QO1 L id_<(L.length:Int)):=by
 rcases ref15_At_g1_lt id_ L 0 with h|h
 ·left;rw [QO1,h];decide
 ·right;rw [QO1];omega
def QQ5 (n:Int) (end_:Int):Int:=bif (decide (n<0)) then 0 else bif (decide (n > end_)) then end_ else n
theorem QGd (n:Int) (end_:Int):GV 261 [I n,I end_] (I (QQ5 n end_)):=by
 generalize hR:QQ5 n end_=R;refine ga (l1 (l1 .nil)) lx (kp 5 [6,9]) Tryz.func261 ?_;refine ai (fun h1=>?_) (fun h2=>?_)
 ·have qh1:=of_decide_eq_true h1;obtain rfl:=foll hR (ct h1 rfl);exact Q00 lx sr
 ·have qh2:=of_decide_eq_false h2;refine ai (fun h3=>?_) (fun h4=>?_)
  ·have qh3:=of_decide_eq_true h3;obtain rfl:=foll hR (cf h2 (ct h3 rfl));exact Q00 lx sr
  ·have qh4:=of_decide_eq_false h4;obtain rfl:=foll hR (cf h2 (cf h4 rfl));exact Q00 lx sr
def Qz4 (b:List Int):List Int->Nat->Bool
 | [],_=>true
 | x_ :: r,i=>bif (x_ != (b.getD i 0)) then false else Qz4 b r (i+1)
def Qb5 (a:List Int) (b:List Int):Bool:=bif ((a.length:Int)!=(b.length:Int)) then false else Qz4 b a 0
theorem Qe6 (a:List Int) (b:List Int) (hs0:a.length<=4294967296) (hs1:b.length<=4294967296):GV 29 [ints a,ints b] (Bo (Qb5 a b)):=by
 generalize hR:Qb5 a b=R;refine ga (.cons lw (.cons lw .nil)) lx (kp 6 [10,14,25]) Tryz.func29 ?_;have hk0:=hs0;obtain z7:a.length<=4294967296:=hs0;have hk1:=hs1;obtain z8:b.length<=4294967296:=hs1;refine ai (fun h1=>?_) (fun h2=>?_)
 ·obtain rfl:=foll hR (ct h1 rfl);exact Q00 lx sr
 ·refine Qf0 (fun (i:Nat)=>Qz4 b (List.drop i a) i=R∧i<=a.length) (fun i=>a.length - i) (fun i=>[(0,ints a),(1,ints b),(4,Bo false),(5,I (i:Int))]) (fun i=>[]) 0 (wk [] .nil (sl lw (sl lw (s1 (s1 .nil))))) ⟨foll hR (cf h2 rfl),by exact omA⟩ ?_;clear hR;rintro i ⟨hR,hj⟩;(try dsimp only at hR hj);refine ai (fun h3=>?_) (fun h4=>?_)
  ·have hlt:=ltA h3;rw [Q90 0 hlt] at hR;refine dchk (by kernel_rfl) ?_;refine ai gkA ?_;refine ai gkA ?_;(repeat ((first|refine ai rfl ?_|refine ai (fun _=>rfl) ?_)));refine ai (fun h5=>?_) (fun h6=>?_)
   ·obtain rfl:=foll hR (ct h5 rfl);exact Q00 lx sr
   ·exact Qj0 (i+1) (wk [] .nil (sl lw (sl lw (s1 (sv (Q70 (I_eq (wr omA)) lx) .nil))))) omA ⟨foll hR (cf h6 rfl),by exact omA⟩
  ·rw [Qa0 (l:=a) (j:=i) (geA h4)] at hR;obtain rfl:=foll hR rfl;exact Q00 lx sr
end Go.Proofs.YtjpgfmbccohngaaGreatDoor
namespace Go.Proofs.YtjpgfmbccohngaaGreatDoor
set_option linter.unusedSimpArgs false
set_option linter.unusedVariables false
open Go.Fw
set_option maxRecDepth 20000
set_option maxHeartbeats 4000000
attribute [local irreducible] ACalls AMoves
def Q59 (j:Job):Bool:=(((((Q0c j.shape)&&(decide ((j.after.length:Int)<=100)))&&(decide ((ByteArray.size j.name:Int)<=1000)))&&(decide ((ByteArray.size j.user:Int)<=1000)))&&(decide ((ByteArray.size j.account:Int)<=1000)))
theorem law14_Few_c (j:Job):GV 12 [Job.a j] (Bo (Q59 j)):=by
 generalize hR:Q59 j=R;refine ga (.cons (Job.low _ _) .nil) lx (kp 3 []) Tryz.func12 ?_;refine us (law07_Few_c j.shape _) ?_;obtain rfl:=foll hR rfl;exact Q00 lx sr
def Q96 (n:Int):Int:=(Qx3 n 0 1000000000000)
theorem QF9 (n:Int):GV 72 [I n] (I (Q96 n)):=by
 generalize hR:Q96 n=R;refine ga (l1 .nil) lx (kp 3 []) Tryz.func72 ?_;refine us (QS9 n 0 1000000000000 _) ?_;obtain rfl:=foll hR rfl;exact Q00 lx sr
def QQ0 (s:List Alt) (f:Alt->Bool):Bool:=(decide ((Q71 s f) >= 0))
def QJc (n:Int):Bool:=(QP2 n 1 100000)
theorem cmd_length_c (n:Int):GV 204 [I n] (Bo (QJc n)):=by
 generalize hR:QJc n=R;refine ga (l1 .nil) lx (kp 3 []) Tryz.func204 ?_;refine us (Qn3 n 1 100000 _) ?_;obtain rfl:=foll hR rfl;exact Q00 lx sr
def Q86 :List (Nat × Int)->Nat->Int × Int
 | [],n=>((n:Int),0)
 | x_ :: r,n=>bif ((Qg1 x_.2)==0) then ((n:Int),40) else Q86 r (n+1)
def QV4 (s:ByteArray):Int × Int:=Q86 (Qk7 s) 0
theorem Qnc (s:ByteArray) (hs0:s.size<=4294967296):GV 234 [Sg s] (AVal.tup [I ((QV4 s).1),I ((QV4 s).2)]):=by
 generalize hR:QV4 s=R;refine ga (l1 .nil) (Low.tup' (l1 (l1 .nil))) (kp 7 [8,9,10,14]) Tryz.func234 ?_;have hk0:=hs0;obtain z5:s.size<=4294967296:=hs0;refine Qg0 (fun (n:Nat) (pos:Nat)=>∃ m,ByteArray.size s - pos<=m∧Q86 (Qr4 s m pos) n=R∧n<=pos) (fun n pos=>ByteArray.size s - pos) (fun n pos=>[(2,I 0),(3,I 0),(4,I (n:Int)),(8,AVal.ptr 0 0 1 0 0)]) (fun n pos=>[(0,AObj.other (.strIter s pos))]) 0 0 (wk [0] (tO rfl (.strIter _ _) .nil) (s1 (s1 (s1 (sv (Q20 0 rfl rfl) .nil))))) ⟨ByteArray.size s,by exact omA,foll hR rfl,by exact exA⟩ ?_;clear hR;rintro n pos ⟨m,hm,hR,hx⟩;(try dsimp only at hR hm hx);refine ai (fun h1=>?_) (fun h2=>?_)
 ·have hlt:=of_decide_eq_true h1;have hw:=QR7 s pos;have hwe:=QQ7 s pos hlt;obtain ⟨m,rfl⟩:=sucA m;rw [Ql3 h1] at hR;refine ai (fun _=>?_) (fun h=>nomatch h);refine us (QW4 ((pos,((Utf8.decode s pos).1:Int)).2) _) ?_;refine ai (fun h3=>?_) (fun h4=>?_)
  ·obtain rfl:=foll hR (ct h3 rfl);exact Q00 (Low.tup' (l1 (l1 .nil))) (Seen.tup (e1 (e1 .nil)))
  ·exact Q80 (n+1) (pos+(Utf8.decode s pos).2) (wk [0] (tO rfl (.strIter _ _) .nil) (s1 (s1 (sv (Q70 (I_eq (wr omA)) lx) (sv (Q20 0 rfl rfl) .nil))))) omA ⟨m,by exact omA,foll hR (cf h4 rfl),by exact exA⟩
 ·rw [QG5 h2] at hR;refine ai (fun h=>nomatch h) (fun _=>?_);obtain rfl:=foll hR rfl;exact Q00 (Low.tup' (l1 (l1 .nil))) (Seen.tup (e1 (e1 .nil)))
def Qi0 (y:Int):List Int->Nat->Bool
 | [],_=>((false||(y==45))||(y==95))
 | x_ :: r,i=>bif ((Qg1 y)==x_) then true else Qi0 y r (i+1)
def Qd2 (r_:LexReader):Token × LexReader:=((⟨1,(Q97 ((Q30 r_ (fun (y:Int)=>Qi0 y ([2,3]:List Int) 0)).1)),0,0⟩:Token),(Q30 r_ (fun (y:Int)=>Qi0 y ([2,3]:List Int) 0)).2)
theorem QVc (r_:LexReader) (hs0:r_.sz) (hp0:0<=r_.at_∧r_.at_<=(r_.line.length:Int)∧r_.line.length<=400):AMoves Tryz.prog 297 [AVal.ptr 0 0 4 0 0] [(0,AObj.row 273 4 [[runes r_.line,I r_.at_,I r_.bad,I r_.error]])] 1 (Token.a ((Qd2 r_).1)) [(0,AObj.row 273 4 [[runes ((Qd2 r_).2.line),I ((Qd2 r_).2.at_),I ((Qd2 r_).2.bad),I ((Qd2 r_).2.error)]])]:=by
 generalize hR:Qd2 r_=R;refine mo (kp 5 []) Tryz.func297 ?_;have hk0:=hs0;obtain z7:r_.line.length<=4294967296:=hs0;refine Or.inl ?_;refine ACalls.of_cwp (fun _=>true) Tryz.func282 rfl rfl ?_;refine ⟨_,_,Told.refl,?_⟩;have cl1:∀ (y1:Int),AMoves Tryz.prog 309 [J y1,AVal.ptr 1 0 1 0 0] [(0,AObj.row 44 1 [[ints ([2,3]:List Int)]]),(0,AObj.row 274 1 [[AVal.fn (.func 296) [] [AVal.ptr 0 0 1 0 0]]])] 2 (Bo ((fun (y:Int)=>Qi0 y ([2,3]:List Int) 0) y1)) [(0,AObj.row 44 1 [[ints ([2,3]:List Int)]]),(0,AObj.row 274 1 [[AVal.fn (.func 296) [] [AVal.ptr 0 0 1 0 0]]])]:=by
  intro y1;have hR:(fun (y:Int)=>Qi0 y ([2,3]:List Int) 0) y1=(fun (y:Int)=>Qi0 y ([2,3]:List Int) 0) y1:=rfl;refine mo (kp 4 []) Tryz.func309 ?_;refine ACalls.of_cwp (fun _=>true) Tryz.func296 rfl rfl ?_;refine Qf0 (fun (i:Nat)=>Qi0 y1 (List.drop i ([2,3]:List Int)) i=(fun (y:Int)=>Qi0 y ([2,3]:List Int) 0) y1∧i<=([2,3]:List Int).length) (fun i=>([2,3]:List Int).length - i) (fun i=>[(0,J y1),(3,Bo false),(6,ints ([2,3]:List Int)),(7,I (([2,3]:List Int).length:Int)),(8,I (i:Int))]) (fun i=>[(0,AObj.row 44 1 [[ints ([2,3]:List Int)]]),(0,AObj.row 274 1 [[AVal.fn (.func 296) [] [AVal.ptr 0 0 1 0 0]]])]) 0 (wk [0,1] (tO rfl (ts (lv lw LowL.nil)) (tO rfl (QC0 (cv (Q31 .nil (cv (Q20 0 rfl rfl) .nil)) .nil)) .nil)) (s1 (s1 (sl lw (s1 (s1 .nil)))))) ⟨foll hR rfl,by exact omA⟩ ?_;clear hR;rintro i ⟨hR,hj⟩;(try dsimp only at hR hj);refine ai (fun h1=>?_) (fun h2=>?_)
  ·(have hlt:i<([2,3]:List Int).length:=by have:=of_decide_eq_true h1;omega);rw [Q90 0 hlt] at hR;refine ai gkA ?_;refine us (QW4 y1 _) ?_;refine ai (fun h3=>?_) (fun h4=>?_)
   ·refine ⟨_,_,Told.refl,?_⟩;refine Qs0 (fun r:Bool=>Bo r) (fun _=>[(0,AObj.row 44 1 [[ints ([2,3]:List Int)]]),(0,AObj.row 274 1 [[AVal.fn (.func 296) [] [AVal.ptr 0 0 1 0 0]]])]) (leaf:=true) (foll hR (ct h3 rfl)) ?_;exact tt [0,1] (tO rfl (ts (lv lw LowL.nil)) (tO rfl (QC0 (cv (Q31 .nil (cv (Q20 0 rfl rfl) .nil)) .nil)) .nil)) t1
   ·exact Qj0 (i+1) (wk [0,1] (tO rfl (ts (lv lw LowL.nil)) (tO rfl (QC0 (cv (Q31 .nil (cv (Q20 0 rfl rfl) .nil)) .nil)) .nil)) (s1 (s1 (sl lw (s1 (sv (Q70 (I_eq (wr omA)) lx) .nil)))))) omA ⟨foll hR (cf h4 rfl),by exact omA⟩
  ·rw [Qa0 (l:=([2,3]:List Int)) (j:=i) (geA h2)] at hR;refine ⟨_,_,Told.refl,?_⟩;refine Qs0 (fun r:Bool=>Bo r) (fun _=>[(0,AObj.row 44 1 [[ints ([2,3]:List Int)]]),(0,AObj.row 274 1 [[AVal.fn (.func 296) [] [AVal.ptr 0 0 1 0 0]]])]) (leaf:=((false||(y1==45))||(y1==95))) (foll hR rfl) ?_;exact tt [0,1] (tO rfl (ts (lv lw LowL.nil)) (tO rfl (QC0 (cv (Q31 .nil (cv (Q20 0 rfl rfl) .nil)) .nil)) .nil)) t1
 have hof1:AMoves Tryz.prog 283 [AVal.ptr 0 0 4 0 0,AVal.fn (.func 309) [] [AVal.ptr 2 0 1 0 0]] [(0,AObj.row 273 4 [[runes r_.line,I r_.at_,I r_.bad,I r_.error]]),(0,AObj.row 44 1 [[ints ([2,3]:List Int)]]),(0,AObj.row 274 1 [[AVal.fn (.func 296) [] [AVal.ptr 1 0 1 0 0]]])] 3 (Sg ((Q30 r_ (fun (y:Int)=>Qi0 y ([2,3]:List Int) 0)).1)) [(0,AObj.row 273 4 [[runes (((Q30 r_ (fun (y:Int)=>Qi0 y ([2,3]:List Int) 0)).2).line),I (((Q30 r_ (fun (y:Int)=>Qi0 y ([2,3]:List Int) 0)).2).at_),I (((Q30 r_ (fun (y:Int)=>Qi0 y ([2,3]:List Int) 0)).2).bad),I (((Q30 r_ (fun (y:Int)=>Qi0 y ([2,3]:List Int) 0)).2).error)]]),(0,AObj.row 44 1 [[ints ([2,3]:List Int)]]),(0,AObj.row 274 1 [[AVal.fn (.func 296) [] [AVal.ptr 1 0 1 0 0]]])]:=by
  have hR:Q30 r_ (fun (y:Int)=>Qi0 y ([2,3]:List Int) 0)=Q30 r_ (fun (y:Int)=>Qi0 y ([2,3]:List Int) 0):=rfl;refine mo (kp 6 [33]) Tryz.func283 ?_;refine Qf0 (fun (c:LexReader)=>∃ m,(Int.toNat ((c.line.length:Int) - c.at_))<m∧Qz0 r_ (Qy0 (fun (y:Int)=>Qi0 y ([2,3]:List Int) 0) m c)=Q30 r_ (fun (y:Int)=>Qi0 y ([2,3]:List Int) 0)∧0<=c.at_∧c.at_<=(c.line.length:Int)∧c.line.length<=400∧r_.at_<=c.at_∧0<=r_.at_) (fun c=>(Int.toNat ((c.line.length:Int) - c.at_))) (fun c=>[(0,AVal.ptr 0 0 4 0 0),(1,AVal.fn (.func 309) [] [AVal.ptr 2 0 1 0 0]),(4,Sg ⟨#[]⟩),(5,I r_.at_)]) (fun c=>[(0,AObj.row 273 4 [[runes c.line,I c.at_,I c.bad,I c.error]]),(0,AObj.row 44 1 [[ints ([2,3]:List Int)]]),(0,AObj.row 274 1 [[AVal.fn (.func 296) [] [AVal.ptr 1 0 1 0 0]]])]) r_ (wk [0,1,2] (tO rfl (ts LexReader.lo) (tO rfl (ts (lv lw LowL.nil)) (tO rfl (QC0 (cv (Q31 .nil (cv (Q20 1 rfl rfl) .nil)) .nil)) .nil))) (sv (Q20 0 rfl rfl) (sv (Q31 .nil (cv (Q20 2 rfl rfl) .nil)) (s1 (s1 .nil))))) ⟨_,Nat.lt_succ_self _,foll hR rfl,by exact exA⟩ ?_;clear hR;rintro c ⟨m,hm,hR,hx⟩;(try dsimp only at hR hm hx);obtain ⟨m,rfl⟩:=sucA m;refine dchk (by kernel_rfl) ?_;refine ai gkA ?_;(first|apply u2|apply u3|apply u4|apply us);exact mv [1,2] (cl1 (c.line.getD (Int.toNat c.at_) 0)) (dO (ds (lv lw LowL.nil)) (dO (dc (dv (dn_fn .nil (dp .nil)) .nil)) .nil)) (d1 (dp .nil)) (rO (re (lv lw LowL.nil)) (rO (rc (rv (ren_fn .nil (.cons _ _ _ _ (rp 1 0 rfl) .nil)) .nil)) .nil)) rx;(repeat ((first|refine ai rfl ?_|refine ai (fun _=>rfl) ?_)));refine ai (fun h5=>?_) (fun h6=>?_)
  ·have hq1:=of_decide_eq_true ((Bool.and_eq_true _ _).mp h5).1;have hwr:w64 (c.at_+1)=c.at_+1:=wr (by omega);exact Qj0 { c with at_:=(w64 (c.at_+1)) } (wk [0,1,2] (tO rfl (ts LexReader.lo) (tO rfl (ts (lv lw LowL.nil)) (tO rfl (QC0 (cv (Q31 .nil (cv (Q20 1 rfl rfl) .nil)) .nil)) .nil))) (sv (Q20 0 rfl rfl) (sv (Q31 .nil (cv (Q20 2 rfl rfl) .nil)) (s1 (s1 .nil))))) omA ⟨m,by exact omA,foll hR (congrArg (fun p:LexReader=>Qz0 r_ p) (ct h5 rfl)),by exact exA⟩
  ·replace hR:Qz0 r_ c=Q30 r_ (fun (y:Int)=>Qi0 y ([2,3]:List Int) 0):=fo2 (fun p:LexReader=>Qz0 r_ p) (c) hR (cf h6 rfl);refine dchk (by kernel_rfl) ?_;refine ai gkA ?_;(first|refine ⟨(List.drop (Int.toNat r_.at_) (List.take (Int.toNat c.at_) c.line)),by exact cvA,?_⟩|refine ⟨_,fun _=>⟨(List.drop (Int.toNat r_.at_) (List.take (Int.toNat c.at_) c.line)),by exact cvA,rfl,rfl⟩,?_⟩|refine ⟨_,rfl,⟨(List.drop (Int.toNat r_.at_) (List.take (Int.toNat c.at_) c.line)),by exact cvA,Sub.refl _,rfl⟩,?_⟩);(repeat ((first|refine ai rfl ?_|refine ai (fun _=>rfl) ?_)));refine Qs0 (fun r:ByteArray × LexReader=>Sg r.1) (fun r:ByteArray × LexReader=>[(0,AObj.row 273 4 [[runes r.2.line,I r.2.at_,I r.2.bad,I r.2.error]]),(0,AObj.row 44 1 [[ints ([2,3]:List Int)]]),(0,AObj.row 274 1 [[AVal.fn (.func 296) [] [AVal.ptr 1 0 1 0 0]]])]) (leaf:=((runesBytes (List.drop (Int.toNat r_.at_) (List.take (Int.toNat c.at_) c.line))),c)) (foll hR rfl) ?_;exact tt [0,1,2] (tO rfl (ts LexReader.lo) (tO rfl (ts (lv lw LowL.nil)) (tO rfl (QC0 (cv (Q31 .nil (cv (Q20 1 rfl rfl) .nil)) .nil)) .nil))) t1
 refine us (mv [0,2,3] (hof1) (dO (ds LexReader.lo) (dO (dc (dv (dn_as (QZ5 (c:=(fun q_=>[I q_])) (d:=0) ([2,3]:List Int) rfl) lw) .nil)) (dO (dc (dv (dn_fn .nil (dp .nil)) .nil)) .nil))) (dp (dv (dn_fn .nil (dp .nil)) .nil)) (rO (re LexReader.lo) (rO (re (lv lw LowL.nil)) (rO (rc (rv (ren_fn .nil (.cons _ _ _ _ (rp 2 0 rfl) .nil)) .nil)) .nil))) rx) ?_;refine us (runes_Lower_c ((Q30 r_ (fun (y:Int)=>Qi0 y ([2,3]:List Int) 0)).1) (by first|(exact Q6a _ _ hp0.2.2)|exact szA) _) ?_;obtain rfl:=foll hR rfl;exact rq (tt [0] (tO rfl (ts LexReader.lo) .nil) (Qa1 (Low.agg' (Token.lo))))
def Qua (s:ByteArray):Int × Unit:=((Qp9 s).1,())
theorem strconv_Atoi_c (s:ByteArray) (hs0:s.size<=4294967296) (hp0:atoiOK s):GV 320 [Sg s] (AVal.tup [I ((Qua s).1),AVal.lit .nilIface]):=by
 generalize hR:Qua s=R;refine ga (l1 .nil) (Low.tup' (l1 (l1 .nil))) (kp 6 [12]) Tryz.func320 ?_;have hk0:=hs0;obtain z1:s.size<=4294967296:=hs0;refine us (Qhf s szA ckA _) ?_;refine ai (fun h=>nomatch h) (fun _=>?_);obtain rfl:=foll hR rfl;exact Q00 (Low.tup' (l1 (l1 .nil))) (Seen.tup (e1 (e1 .nil)))
def Qo1 (x_:Int) (held:Bool):Bool × Bool:=bif (((Qg1 x_)==0)||((x_==34)&&(!held))) then (false,held) else (true,((x_==92)&&(!held)))
theorem QOa (x_:Int) (held:Bool):AMoves Tryz.prog 314 [J x_,AVal.ptr 0 0 1 0 0] [(0,AObj.row 4 1 [[Bo held]])] 1 (Bo ((Qo1 x_ held).1)) [(0,AObj.row 4 1 [[Bo ((Qo1 x_ held).2)]])]:=by
 generalize hR:Qo1 x_ held=R;refine mo (kp 4 [14]) Tryz.func314 ?_;refine us (QW4 x_ _) ?_;refine ai (fun h1=>?_) (fun h2=>?_)
 ·obtain rfl:=foll hR (ct h1 rfl);exact rq (tt [0] (tO rfl (ts (l1 LowL.nil)) .nil) t1)
 ·obtain rfl:=foll hR (cf h2 rfl);exact rq (tt [0] (tO rfl (ts (l1 LowL.nil)) .nil) t1)
def QJ0 (p_:List Int) (r_:Int):(List Int):=bif (decide ((wu32 r_)<=127)) then (p_++([(wu8 r_)]:List Int)) else (QH2 p_ r_)
theorem Qhd (p_:List Int) (r_:Int) (hs0:p_.length<=4294967296):AMoves Tryz.prog 319 [AVal.own 0 0 1 0 p_.length,J r_] [(0,AObj.row 5 1 (p_.map (fun q_=>[Y q_])))] 0 (AVal.own 0 0 1 0 (QJ0 p_ r_).length) [(0,AObj.row 5 1 ((QJ0 p_ r_).map (fun q_=>[Y q_])))]:=by
 generalize hR:QJ0 p_ r_=R;refine mo (kp 5 [7]) Tryz.func319 ?_;have hk0:=hs0;obtain z3:p_.length<=4294967296:=hs0;refine ai (fun h1=>?_) (fun h2=>?_)
 ·have qh1:=of_decide_eq_true h1;refine Or.inl ?_;(first|refine ⟨QK1 1 rfl lnA apA,?_⟩|refine ⟨QR0 1 rfl apA,?_⟩);obtain rfl:=foll hR (ct h1 rfl);exact rq (tt [0] (tO rfl (tl eqA) .nil) (to 0 lnA))
 ·have qh2:=of_decide_eq_false h2;refine us (mv [0] (QV8 p_ r_ szA) (dO (dr eqA) .nil) (dv (QM8 rfl lnA) (d1 .nil)) (rO rr .nil) (rw_ 1 0 rfl)) ?_;obtain rfl:=foll hR (cf h2 rfl);exact rq (tt [1] (tO rfl (tl eqA) .nil) (to 0 lnA))
theorem Qs6 (l:List Int) (r_:Int):∃ k,QJ0 l r_=l++k∧1<=k.length∧k.length<=4∧Qn7 k:=by
 have h1:∀ a:Int,Qn7 [wu8 a]:=fun a=>Qk6 (wu8_in a) Qva
 have h2:∀ a b:Int,Qn7 [wu8 a,wu8 b]:=fun a b=>Qk6 (wu8_in a) (h1 b)
 have h3:∀ a b c:Int,Qn7 [wu8 a,wu8 b,wu8 c]:=fun a b c=>Qk6 (wu8_in a) (h2 b c)
 have h4:∀ a b c d:Int,Qn7 [wu8 a,wu8 b,wu8 c,wu8 d]:=fun a b c d=>Qk6 (wu8_in a) (h3 b c d)
 have hc:Qn7 [239,191,189]:=Qk6 (by decide) (Qk6 (by decide) (Qk6 (by decide) Qva))
 unfold QJ0
 cases (decide ((wu32 r_)<=127)) with
 | true=>exact ⟨_,rfl,by simp,by simp,h1 _⟩
 | false =>
  simp only [cond_false]
  unfold QH2
  repeat' first
   | exact ⟨_,rfl,by simp,by simp,h2 _ _⟩
   | exact ⟨_,rfl,by simp,by simp,h3 _ _ _⟩
   | exact ⟨_,rfl,by simp,by simp,h4 _ _ _ _⟩
   | exact ⟨_,rfl,by simp,by simp,hc⟩
   | unfold QO2
   | (rw [Bool.cond_eq_ite];split)
theorem QK8 (l:List Int) (r_:Int):(QJ0 l r_).length ≠ 0:=by
 obtain ⟨k,e,h,_⟩:=Qs6 l r_
 rw [e,List.length_append]
 omega
theorem Qyb (l:List Int) (r_:Int):(QJ0 l r_).length<=l.length+4:=by
 obtain ⟨k,e,_,h,_⟩:=Qs6 l r_
 rw [e,List.length_append]
 omega
theorem byteIn_rune (l:List Int) (r_:Int) (h:Qn7 l):Qn7 (QJ0 l r_):=by
 obtain ⟨k,e,_,_,g⟩:=Qs6 l r_
 rw [e]
 exact byteIn_app h g
def Qx0 (s:List Dep) (f:Dep->Bool):Bool:=(decide ((Q81 s f) >= 0))
def Qjd (n:Int):Bool:=(QP2 n 1 99999)
theorem QBe (n:Int):GV 208 [I n] (Bo (Qjd n)):=by
 generalize hR:Qjd n=R;refine ga (l1 .nil) lx (kp 3 []) Tryz.func208 ?_;refine us (Qn3 n 1 99999 _) ?_;obtain rfl:=foll hR rfl;exact Q00 lx sr
def Qd9 (a:Shape) (b:Shape):Bool:=(((((a.kind==b.kind)&&(a.min==b.min))&&(a.max==b.max))&&(a.wall==b.wall))&&(Qh6 a.alts b.alts))
theorem shape_Same_c (a:Shape) (b:Shape) (hs0:a.sz) (hs1:b.sz):GV 209 [Shape.a a,Shape.a b] (Bo (Qd9 a b)):=by
 generalize hR:Qd9 a b=R;refine ga (.cons (Shape.low _ _) (.cons (Shape.low _ _) .nil)) lx (kp 5 []) Tryz.func209 ?_;have hk0:=hs0;obtain z1:a.alts.length<=4294967296:=hs0;have hk1:=hs1;obtain z2:b.alts.length<=4294967296:=hs1;(first|apply u2|apply u3|apply u4|apply us);exact Qvc a.alts b.alts szA szA _;obtain rfl:=foll hR rfl;exact Q00 lx sr
def QL4 (v:Job):Bool:=(((((((v.nodes==0)&&(QZ3 v.start))&&(QZ3 v.limit))&&(decide (v.promise >= (-1))))&&(decide (v.promise<=1000000)))&&(decide (v.choice >= 0)))&&(decide (v.choice<=48)))
theorem Qkf (v:Job):GV 76 [Job.a v] (Bo (QL4 v)):=by
 generalize hR:QL4 v=R;refine ga (.cons (Job.low _ _) .nil) lx (kp 3 []) Tryz.func76 ?_;(first|apply u2|apply u3|apply u4|apply us);exact QK5 v.start _;(first|apply u2|apply u3|apply u4|apply us);exact QK5 v.limit _;obtain rfl:=foll hR rfl;exact Q00 lx sr
def QM1 (s:Int):Int:=(Qc6 s)
theorem Qa8 (s:Int):GV 39 [U s] (I (QM1 s)):=by
 generalize hR:QM1 s=R;refine ga (l1 .nil) lx (kp 3 []) Tryz.func39 ?_;refine us (QCb s _) ?_;obtain rfl:=foll hR rfl;exact Q00 lx sr
def QM4 (n:Int):Int:=bif (decide (n<=0)) then 0 else bif (decide (n >= 64)) then 18446744073709551615 else (wu64 ((Qd3 n) - 1))
theorem nodeset_All_c (n:Int):GV 211 [I n] (U (QM4 n)):=by
 generalize hR:QM4 n=R;refine ga (l1 .nil) lx (kp 3 [3,6]) Tryz.func211 ?_;refine ai (fun h1=>?_) (fun h2=>?_)
 ·have qh1:=of_decide_eq_true h1;obtain rfl:=foll hR (ct h1 rfl);exact Q00 lx sr
 ·have qh2:=of_decide_eq_false h2;refine ai (fun h3=>?_) (fun h4=>?_)
  ·have qh3:=of_decide_eq_true h3;obtain rfl:=foll hR (cf h2 (ct h3 rfl));exact Q00 lx sr
  ·have qh4:=of_decide_eq_false h4;refine us (Qx9 n _) ?_;obtain rfl:=foll hR (cf h2 (cf h4 rfl));exact Q00 lx sr
def Qs2 (s:List Node) (f:Node->Bool):Bool:=(decide ((Qt2 s f) >= 0))
def Q21 (s:List Int) (v:Int):Bool:=(decide ((Qj6 s v) >= 0))
theorem QY1 (s:List Int) (v:Int) (hs0:s.length<=4294967296):GV 108 [ints s,I v] (Bo (Q21 s v)):=by
 generalize hR:Q21 s v=R;refine ga (.cons lw (l1 .nil)) lx (kp 5 []) Tryz.func108 ?_;have hk0:=hs0;obtain z1:s.length<=4294967296:=hs0;refine us (Qxc s v szA _) ?_;obtain rfl:=foll hR rfl;exact Q00 lx sr
def QG7 (l:List Book):List Book->Nat->Int
 | [],_=>0
 | x_ :: r,i=>bif ((!(QX8 x_))||((decide ((i:Int) > 0))&&(decide ((l.getD (Int.toNat (w64 ((i:Int) - 1))) Book.zero).id >= x_.id)))) then 190 else QG7 l r (i+1)
def QW6 (l:List Book):Int:=bif (decide ((l.length:Int) > 8)) then 190 else QG7 l l 0
theorem book_Check_c (l:List Book) (hs0:l.length<=4294967296):GV 127 [bookL l] (I (QW6 l)):=by
 generalize hR:QW6 l=R;refine ga (.cons lw .nil) lx (kp 5 [7,8,9,10,11,32]) Tryz.func127 ?_;have hk0:=hs0;obtain z7:l.length<=4294967296:=hs0;refine ai (fun h1=>?_) (fun h2=>?_)
 ·have qh1:=of_decide_eq_true h1;obtain rfl:=foll hR (ct h1 rfl);exact Q00 lx sr
 ·have qh2:=of_decide_eq_false h2;refine Qf0 (fun (i:Nat)=>QG7 l (List.drop i l) i=R∧i<=l.length) (fun i=>l.length - i) (fun i=>[(0,bookL l),(2,I 0),(8,bookL l),(9,I (l.length:Int)),(10,I (i:Int))]) (fun i=>[]) 0 (wk [] .nil (sl lw (s1 (sl lw (s1 (s1 .nil)))))) ⟨foll hR (cf h2 rfl),by exact omA⟩ ?_;clear hR;rintro i ⟨hR,hj⟩;(try dsimp only at hR hj);refine ai (fun h3=>?_) (fun h4=>?_)
  ·have hlt:=ltA h3;rw [Q90 Book.zero hlt] at hR;refine ai gkA ?_;refine dchk (by kernel_rfl) ?_;(first|apply u2|apply u3|apply u4|apply us);exact QNe (l.getD i Book.zero) _;refine ai gkA ?_;(repeat ((first|refine ai rfl ?_|refine ai (fun _=>rfl) ?_|refine ai (fun _=>QNe (l.getD i Book.zero) _) ?_)));refine ai (fun h5=>?_) (fun h6=>?_)
   ·obtain rfl:=foll hR (ct h5 rfl);exact Q00 lx sr
   ·exact Qj0 (i+1) (wk [] .nil (sl lw (s1 (sl lw (s1 (sv (Q70 (I_eq (wr omA)) lx) .nil)))))) omA ⟨foll hR (cf h6 rfl),by exact omA⟩
  ·rw [Qa0 (l:=l) (j:=i) (geA h4)] at hR;obtain rfl:=foll hR rfl;exact Q00 lx sr
def QW0 (x_:ByteArray) (y:ByteArray):Int:=bif (QN3 x_) then bif (QN3 y) then 0 else (-1) else bif (QN3 y) then 1 else bif (Op.bytesLess (ByteArray.toList x_) (ByteArray.toList y)) then (-1) else bif (!((Op.bytesLess (ByteArray.toList x_) (ByteArray.toList y))||(ByteArray.toList x_==ByteArray.toList y))) then 1 else 0
theorem Qp4 (x_:ByteArray) (y:ByteArray):GV 199 [Sg x_,Sg y] (I (QW0 x_ y)):=by
 generalize hR:QW0 x_ y=R;refine ga (l1 (l1 .nil)) lx (kp 7 [11,12,13,16,19]) Tryz.func199 ?_;refine us (Qm8 x_ _) ?_;refine us (Qm8 y _) ?_;refine ai (fun h1=>?_) (fun h2=>?_)
 ·refine ai (fun h3=>?_) (fun h4=>?_)
  ·obtain rfl:=foll hR (ct h1 (ct h3 rfl));exact Q00 lx sr
  ·obtain rfl:=foll hR (ct h1 (cf h4 rfl));exact Q00 lx sr
 ·refine ai (fun h5=>?_) (fun h6=>?_)
  ·obtain rfl:=foll hR (cf h2 (ct h5 rfl));exact Q00 lx sr
  ·refine ai (fun h7=>?_) (fun h8=>?_)
   ·obtain rfl:=foll hR (cf h2 (cf h6 (ct h7 rfl)));exact Q00 lx sr
   ·refine ai (fun h9=>?_) (fun h10=>?_)
    ·obtain rfl:=foll hR (cf h2 (cf h6 (cf h8 (ct h9 rfl))));exact Q00 lx sr
    ·obtain rfl:=foll hR (cf h2 (cf h6 (cf h8 (cf h10 rfl))));exact Q00 lx sr
def Q93 (long:Int) (nodes:Int):Bool:=((Q55 nodes 1 1000000)&&(Q55 long 1 1000000))
theorem QQc (long:Int) (nodes:Int):GV 103 [I long,I nodes] (Bo (Q93 long nodes)):=by
 generalize hR:Q93 long nodes=R;refine ga (l1 (l1 .nil)) lx (kp 5 []) Tryz.func103 ?_;refine us (QZ9 nodes 1 1000000 _) ?_;(first|apply u2|apply u3|apply u4|apply us);exact QZ9 long 1 1000000 _;obtain rfl:=foll hR rfl;exact Q00 lx sr
def Q25 (p_:List Step):List Step->Nat->Int
 | [],_=>0
 | x_ :: r,i=>bif (((!(QJ2 x_.free))||(decide (x_.at_ > 1000000)))||((decide ((i:Int) > 0))&&((decide (x_.at_<=(p_.getD (Int.toNat (w64 ((i:Int) - 1))) Step.zero).at_))||(x_.free==(p_.getD (Int.toNat (w64 ((i:Int) - 1))) Step.zero).free)))) then 100 else Q25 p_ r (i+1)
def QN1 (p_:List Step):Int:=bif ((((p_.length:Int)==0)||(decide ((p_.length:Int) > 1000)))||((p_.getD 0 Step.zero).at_ != 0)) then 100 else Q25 p_ p_ 0
theorem Qt5 (p_:List Step) (hs0:p_.length<=4294967296):GV 119 [stepL p_] (I (QN1 p_)):=by
 generalize hR:QN1 p_=R;refine ga (.cons lw .nil) lx (kp 5 [19,20,21,22,23,61]) Tryz.func119 ?_;have hk0:=hs0;obtain z7:p_.length<=4294967296:=hs0;refine ai gkA ?_;refine ai (fun h1=>?_) (fun h2=>?_)
 ·obtain rfl:=foll hR (ct h1 rfl);exact Q00 lx sr
 ·refine Qf0 (fun (i:Nat)=>Q25 p_ (List.drop i p_) i=R∧i<=p_.length) (fun i=>p_.length - i) (fun i=>[(0,stepL p_),(2,I 0),(20,stepL p_),(21,I (p_.length:Int)),(22,I (i:Int))]) (fun i=>[]) 0 (wk [] .nil (sl lw (s1 (sl lw (s1 (s1 .nil)))))) ⟨foll hR (cf h2 rfl),by exact omA⟩ ?_;clear hR;rintro i ⟨hR,hj⟩;(try dsimp only at hR hj);refine ai (fun h3=>?_) (fun h4=>?_)
  ·have hlt:=ltA h3;rw [Q90 Step.zero hlt] at hR;refine ai gkA ?_;refine dchk (by kernel_rfl) ?_;(first|apply u2|apply u3|apply u4|apply us);exact QP8 ((p_.getD i Step.zero).free) _;refine ai gkA ?_;refine ai gkA ?_;(repeat ((first|refine ai rfl ?_|refine ai (fun _=>rfl) ?_|refine ai (fun _=>QP8 ((p_.getD i Step.zero).free) _) ?_)));refine ai (fun h5=>?_) (fun h6=>?_)
   ·obtain rfl:=foll hR (ct h5 rfl);exact Q00 lx sr
   ·exact Qj0 (i+1) (wk [] .nil (sl lw (s1 (sl lw (s1 (sv (Q70 (I_eq (wr omA)) lx) .nil)))))) omA ⟨foll hR (cf h6 rfl),by exact omA⟩
  ·rw [Qa0 (l:=p_) (j:=i) (geA h4)] at hR;obtain rfl:=foll hR rfl;exact Q00 lx sr
theorem Q27 {p:List Step} (h:(QN1 p != 0)=false):1<=p.length∧p.length<=1000∧(p.getD 0 Step.zero).at_=0:=by
 simp only [QN1] at h
 revert h
 cases h2:((((p.length:Int)==0)||(decide ((p.length:Int) > 1000)))||((p.getD 0 Step.zero).at_ != 0)) with
 | true=>simp
 | false=>intro _;simp at h2;refine ⟨?_,by omega,h2.2⟩;have:=List.length_pos_iff.2 h2.1.1;omega
def Qc0 (p_:List Step) (t:Int):Int:=(w64 ((QJ1 (p_.length:Int) (fun (y:Int)=>(decide ((p_.getD (Int.toNat y) Step.zero).at_ > t)))) - 1))
theorem Qba (p_:List Step) (t:Int) (hs0:p_.length<=4294967296):GV 121 [stepL p_,I t] (I (Qc0 p_ t)):=by
 generalize hR:Qc0 p_ t=R;refine ga (.cons lw (l1 .nil)) lx (kp 5 []) Tryz.func121 ?_;have hk0:=hs0;obtain z5:p_.length<=4294967296:=hs0;have cl1:∀ (y1:Int) (hcl:0<=y1∧y1<(p_.length:Int)),AMoves Tryz.prog 190 [I y1,AVal.ptr 0 0 1 0 0,AVal.ptr 1 0 1 0 0] [(0,AObj.row 72 1 [[stepL p_]]),(0,AObj.row 3 1 [[I t]])] 2 (Bo ((fun (y:Int)=>(decide ((p_.getD (Int.toNat y) Step.zero).at_ > t))) y1)) [(0,AObj.row 72 1 [[stepL p_]]),(0,AObj.row 3 1 [[I t]])]:=by
  intro y1 hcl;have hR:(fun (y:Int)=>(decide ((p_.getD (Int.toNat y) Step.zero).at_ > t))) y1=(fun (y:Int)=>(decide ((p_.getD (Int.toNat y) Step.zero).at_ > t))) y1:=rfl;refine mo (kp 5 []) Tryz.func190 ?_;refine dchk (by kernel_rfl) ?_;refine ai gkA ?_;(repeat ((first|refine ai rfl ?_|refine ai (fun _=>rfl) ?_)));refine Qs0 (fun r:Bool=>Bo r) (fun _=>[(0,AObj.row 72 1 [[stepL p_]]),(0,AObj.row 3 1 [[I t]])]) (leaf:=(decide ((p_.getD (Int.toNat y1) Step.zero).at_ > t))) (foll hR rfl) ?_;exact tt [0,1] (tO rfl (ts (lv lw LowL.nil)) (tO rfl (ts (l1 LowL.nil)) .nil)) t1
 have hof1:AMoves Tryz.prog 189 [I (p_.length:Int),AVal.fn (.func 190) [] [AVal.ptr 0 0 1 0 0,AVal.ptr 1 0 1 0 0]] [(0,AObj.row 72 1 [[stepL p_]]),(0,AObj.row 3 1 [[I t]])] 2 (I (QJ1 (p_.length:Int) (fun (y:Int)=>(decide ((p_.getD (Int.toNat y) Step.zero).at_ > t))))) [(0,AObj.row 72 1 [[stepL p_]]),(0,AObj.row 3 1 [[I t]])]:=by
  have hR:QJ1 (p_.length:Int) (fun (y:Int)=>(decide ((p_.getD (Int.toNat y) Step.zero).at_ > t)))=QJ1 (p_.length:Int) (fun (y:Int)=>(decide ((p_.getD (Int.toNat y) Step.zero).at_ > t))):=rfl;refine mo (kp 8 [11,21]) Tryz.func189 ?_;refine Qg0 (fun (i:Int) (j:Int)=>∃ m,(Int.toNat (j - i))<m∧Qi5 (Qb1 (fun (y:Int)=>(decide ((p_.getD (Int.toNat y) Step.zero).at_ > t))) m i j).1 (Qb1 (fun (y:Int)=>(decide ((p_.getD (Int.toNat y) Step.zero).at_ > t))) m i j).2=QJ1 (p_.length:Int) (fun (y:Int)=>(decide ((p_.getD (Int.toNat y) Step.zero).at_ > t)))∧0<=i∧i<=j∧j<=(p_.length:Int)) (fun i j=>(Int.toNat (j - i))) (fun i j=>[(1,AVal.fn (.func 190) [] [AVal.ptr 0 0 1 0 0,AVal.ptr 1 0 1 0 0]),(4,I 0),(5,I i),(6,I j)]) (fun i j=>[(0,AObj.row 72 1 [[stepL p_]]),(0,AObj.row 3 1 [[I t]])]) 0 (p_.length:Int) (wk [0,1] (tO rfl (ts (lv lw LowL.nil)) (tO rfl (ts (l1 LowL.nil)) .nil)) (sv (Q31 .nil (cv (Q20 0 rfl rfl) (cv (Q20 1 rfl rfl) .nil))) (s1 (s1 (s1 .nil))))) ⟨_,Nat.lt_succ_self _,foll hR rfl,by exact exA⟩ ?_;clear hR;rintro i j ⟨m,hm,hR,hx⟩;(try dsimp only at hR hm hx);obtain ⟨m,rfl⟩:=sucA m;refine ai (fun h1=>?_) (fun h2=>?_)
  ·have qh1:=of_decide_eq_true h1;(have hq0:i<j:=qh1;have hh:w64 (Int.fdiv (wu64 (w64 (i+j))) (2 ^ (min (Int.toNat 1) 64)))=(i+j) / 2:=Qbf hx.1 hq0 hx.2.2 (by omega);have hh3:w64 (w64 (Int.fdiv (wu64 (w64 (i+j))) (2 ^ (min (Int.toNat 1) 64)))+1)=(i+j) / 2+1:=by rw [hh];exact wr (by omega));refine ai gkA ?_;refine us (mv [0,1] (cl1 (w64 (Int.fdiv (wu64 (w64 (i+j))) (2 ^ (min (Int.toNat 1) 64)))) ckA) (dO (ds (lv lw LowL.nil)) (dO (ds (l1 LowL.nil)) .nil)) (d1 (dp (dp .nil))) (rO (re (lv lw LowL.nil)) (rO (re (l1 LowL.nil)) .nil)) rx) ?_;refine ai (fun h3=>?_) (fun h4=>?_)
   ·exact Q80 (w64 ((w64 (Int.fdiv (wu64 (w64 (i+j))) (2 ^ (min (Int.toNat 1) 64))))+1)) j (wk [0,1] (tO rfl (ts (lv lw LowL.nil)) (tO rfl (ts (l1 LowL.nil)) .nil)) (sv (Q31 .nil (cv (Q20 0 rfl rfl) (cv (Q20 1 rfl rfl) .nil))) (s1 (s1 (s1 .nil))))) (by first|(dsimp only;rw [hh3];omega)|first|(dsimp only;rw [hh];omega)|exact omA) ⟨m,by first|(dsimp only;rw [hh3];omega)|first|(dsimp only;rw [hh];omega)|exact omA,foll hR (congrArg (fun p:Int × Int=>Qi5 p.1 p.2) (ct h1 (ct h3 rfl))),by exact exA⟩
   ·exact Q80 i (w64 (Int.fdiv (wu64 (w64 (i+j))) (2 ^ (min (Int.toNat 1) 64)))) (wk [0,1] (tO rfl (ts (lv lw LowL.nil)) (tO rfl (ts (l1 LowL.nil)) .nil)) (sv (Q31 .nil (cv (Q20 0 rfl rfl) (cv (Q20 1 rfl rfl) .nil))) (s1 (s1 (s1 .nil))))) (by first|(dsimp only;rw [hh3];omega)|first|(dsimp only;rw [hh];omega)|exact omA) ⟨m,by first|(dsimp only;rw [hh3];omega)|first|(dsimp only;rw [hh];omega)|exact omA,foll hR (congrArg (fun p:Int × Int=>Qi5 p.1 p.2) (ct h1 (cf h4 rfl))),by exact exA⟩
  ·have qh2:=of_decide_eq_false h2;replace hR:Qi5 i j=QJ1 (p_.length:Int) (fun (y:Int)=>(decide ((p_.getD (Int.toNat y) Step.zero).at_ > t))):=fo2 (fun p:Int × Int=>Qi5 p.1 p.2) (i,j) hR (cf h2 rfl);refine Qs0 (fun r:Int=>I r) (fun r:Int=>[(0,AObj.row 72 1 [[stepL p_]]),(0,AObj.row 3 1 [[I t]])]) (leaf:=i) (foll hR rfl) ?_;exact tt [0,1] (tO rfl (ts (lv lw LowL.nil)) (tO rfl (ts (l1 LowL.nil)) .nil)) t1
 refine us (mv [0,1] (hof1) (dO (ds (lv lw LowL.nil)) (dO (ds (l1 LowL.nil)) .nil)) (d1 (dv (dn_fn .nil (dp (dp .nil))) .nil)) (rO (re (lv lw LowL.nil)) (rO (re (l1 LowL.nil)) .nil)) rx) ?_;obtain rfl:=foll hR rfl;exact Q00 lx sr
theorem QB7 {p:List Step} {t:Int} (h1:1<=p.length) (h2:p.length<=1000) (h3:(p.getD 0 Step.zero).at_=0) (ht:0<=t):0<=Qc0 p t∧Qc0 p t<p.length:=by
 obtain ⟨a,b,c,d⟩:=QT9 (fun (y:Int)=>(decide ((p.getD (Int.toNat y) Step.zero).at_ > t))) (N:=p.length) (by omega)
 have h4:1<=QJ1 (p.length:Int) (fun (y:Int)=>(decide ((p.getD (Int.toNat y) Step.zero).at_ > t))):=by
  rcases Int.lt_or_le 0 (QJ1 (p.length:Int) (fun (y:Int)=>(decide ((p.getD (Int.toNat y) Step.zero).at_ > t)))) with h|h
  ·omega
  ·have e:QJ1 (p.length:Int) (fun (y:Int)=>(decide ((p.getD (Int.toNat y) Step.zero).at_ > t)))=0:=by omega
   have:=d (by omega)
   rw [e] at this
   have:=of_decide_eq_true this
   simp only [Int.toNat_zero] at this
   omega
 have e:Qc0 p t=QJ1 (p.length:Int) (fun (y:Int)=>(decide ((p.getD (Int.toNat y) Step.zero).at_ > t))) - 1:=wr (by omega)
 rw [e]
 omega
def QN4 :List Int->Int->Nat->Int × Int
 | [],s,_=>(s,0)
 | x_ :: r,s,i=>bif (((decide (x_<0))||(decide (x_ >= 64)))||((wu64 (BitVec.ofInt 64 s &&& BitVec.ofInt 64 (Qd3 x_)).toNat)!=0)) then (0,90) else QN4 r (wu64 (BitVec.ofInt 64 s ||| BitVec.ofInt 64 (Qd3 x_)).toNat) (i+1)
def Qw6 (l:List Int):Int × Int:=QN4 l 0 0
theorem nodeset_Of_c (l:List Int) (hs0:l.length<=4294967296):GV 163 [ints l] (AVal.tup [U ((Qw6 l).1),I ((Qw6 l).2)]):=by
 generalize hR:Qw6 l=R;refine ga (.cons lw .nil) (Low.tup' (l1 (l1 .nil))) (kp 7 [7,8,9,10,25]) Tryz.func163 ?_;have hk0:=hs0;obtain z5:l.length<=4294967296:=hs0;refine Qg0 (fun (s:Int) (i:Nat)=>QN4 (List.drop i l) s i=R∧i<=l.length) (fun s i=>l.length - i) (fun s i=>[(2,U 0),(3,I 0),(4,U s),(7,ints l),(8,I (l.length:Int)),(9,I (i:Int))]) (fun s i=>[]) 0 0 (wk [] .nil (s1 (s1 (s1 (sl lw (s1 (s1 .nil))))))) ⟨foll hR rfl,by exact omA⟩ ?_;clear hR;rintro s i ⟨hR,hj⟩;(try dsimp only at hR hj);refine ai (fun h1=>?_) (fun h2=>?_)
 ·have hlt:=ltA h1;rw [Q90 0 hlt] at hR;refine ai gkA ?_;(first|apply u2|apply u3|apply u4|apply us);exact Qx9 (l.getD i 0) _;refine ai (fun h3=>?_) (fun h4=>?_)
  ·obtain rfl:=foll hR (ct h3 rfl);exact Q00 (Low.tup' (l1 (l1 .nil))) (Seen.tup (e1 (e1 .nil)))
  ·refine us (Qx9 (l.getD i 0) _) ?_;exact Q80 (wu64 (BitVec.ofInt 64 s ||| BitVec.ofInt 64 (Qd3 (l.getD i 0))).toNat) (i+1) (wk [] .nil (s1 (s1 (s1 (sl lw (s1 (sv (Q70 (I_eq (wr omA)) lx) .nil))))))) omA ⟨foll hR (cf h4 rfl),by exact omA⟩
 ·rw [Qa0 (l:=l) (j:=i) (geA h2)] at hR;obtain rfl:=foll hR rfl;exact Q00 (Low.tup' (l1 (l1 .nil))) (Seen.tup (e1 (e1 .nil)))
def job_copied (j:Job):Job:=j
theorem job_copied_c (j:Job) (hs0:j.sz):GV 200 [Job.a j] (Job.a j):=by
 generalize hR:job_copied j=R;refine ga (.cons (Job.low _ _) .nil) (Job.low _ _) (kp 3 []) Tryz.func200 ?_;obtain ⟨z1,z2,z3,z4,z5⟩:=Job.zz hs0;refine us (QC8 j.shape.alts szA _) ?_;refine us (QD8 j.after szA _) ?_;obtain rfl:=foll hR rfl;exact Q00 (Job.low _ _) sr
def squeeze_copied (l:List Job):(List Job):=l
theorem Qwe (l:List Job) (hs0:l.length<=4294967296∧(∀ y ∈ l,y.sz)):AMoves Tryz.prog 82 [jobL l] [] 0 (AVal.own 0 0 20 0 l.length) [(0,AObj.row 35 20 (l.map Job.cells))]:=by
 generalize hR:squeeze_copied l=R;refine mo (kp 5 [8,9,10]) Tryz.func82 ?_;obtain ⟨z8,z9⟩:=id hs0;refine us (mv [] (Quc l szA) .nil (dl lw .nil) (rO rr .nil) (rw_ 0 0 rfl)) ?_;refine Qf0 (fun (i:Nat)=>True∧i<=l.length) (fun i=>l.length - i) (fun i=>[(2,AVal.lit (.slice none 0 0)),(3,AVal.own 0 0 20 0 l.length),(8,I (l.length:Int)),(9,I (i:Int))]) (fun i=>[(0,AObj.row 35 20 (l.map Job.cells))]) 0 (wk [0] (tO rfl (tl eqA) .nil) (s1 (sv (to 0 lnA) (s1 (s1 .nil))))) ⟨trivial,by exact omA⟩ ?_;have hR0:=hR;rintro i ⟨hR,hj⟩;(try dsimp only at hR hj);refine ai (fun h1=>?_) (fun h2=>?_)
 ·have hlt:=ltA h1;have hxz:(l.getD i Job.zero).sz:=Q72 (by first|assumption|grind) (Job.szz _);have hkz:=hxz;obtain ⟨z3,z4,z5,z6,z7⟩:=Job.zz hxz;refine ai gkA ?_;refine ⟨_,QT1 rfl rfl rfl (Ql2 Job.zero i (by first|rfl|exact Nat.zero_add _|omega) ckA) rfl,?_⟩;refine us (QC8 ((l.getD i Job.zero).shape.alts) szA _) ?_;refine ai gkA ?_;refine ⟨_,QF4 rfl rfl rfl rfl (Ql2 Job.zero i (by first|rfl|exact Nat.zero_add _|omega) ckA) rfl rfl (Qz8 Job.zero i (by first|rfl|exact Nat.zero_add _|omega) ckA rfl),?_⟩;refine ai gkA ?_;refine ⟨_,QT1 rfl rfl rfl (Ql2 Job.zero i (by first|rfl|exact Nat.zero_add _|omega) ckA) rfl,?_⟩;refine us (QD8 ((l.getD i Job.zero).after) szA _) ?_;refine ai gkA ?_;refine ⟨_,QF4 rfl rfl rfl rfl (Ql2 Job.zero i (by first|rfl|exact Nat.zero_add _|omega) ckA) rfl rfl (Qz8 Job.zero i (by first|rfl|exact Nat.zero_add _|omega) ckA rfl),?_⟩;exact Qj0 (i+1) (wk [0] (tO rfl (tl eqA) .nil) (s1 (sv (to 0 lnA) (s1 (sv (Q70 (I_eq (wr omA)) lx) .nil))))) omA ⟨hR,by exact omA⟩
 ·skip;have hR:=hR0;obtain rfl:=foll hR rfl;exact rq (tt [0] (tO rfl (tl eqA) .nil) (to 0 lnA))
def QY3 (s:List (Int × Int)):List Dep->Nat->Bool
 | [],_=>true
 | x_ :: r,i=>bif ((Q83 s x_)!=1) then false else QY3 s r (i+1)
def QD6 (s:List (Int × Int)) (j:Job):Bool:=QY3 s j.after 0
theorem QOc (s:List (Int × Int)) (j:Job) (hs0:j.sz):AMoves Tryz.prog 68 [AVal.map 0,Job.a j] [(0,AObj.other (.map (mapEs ik I 0 s) s.length))] 1 (Bo (QD6 s j)) [(0,AObj.other (.map (mapEs ik I 0 s) s.length))]:=by
 generalize hR:QD6 s j=R;refine mo (kp 7 [8,9,10,11,17]) Tryz.func68 ?_;obtain ⟨z5,z6,z7,z8,z9⟩:=Job.zz hs0;refine Qf0 (fun (i:Nat)=>QY3 s (List.drop i j.after) i=R∧i<=j.after.length) (fun i=>j.after.length - i) (fun i=>[(0,AVal.map 0),(4,Bo false),(8,depL j.after),(9,I (j.after.length:Int)),(10,I (i:Int))]) (fun i=>[(0,AObj.other (.map (mapEs ik I 0 s) s.length))]) 0 (wk [0] (tO rfl (Qt0 _ rfl rfl (fun _=>lx)) .nil) (sv (QD1 0 rfl rfl) (s1 (sl lw (s1 (s1 .nil)))))) ⟨foll hR rfl,by exact omA⟩ ?_;clear hR;rintro i ⟨hR,hj⟩;(try dsimp only at hR hj);refine ai (fun h1=>?_) (fun h2=>?_)
 ·have hlt:=ltA h1;rw [Q90 Dep.zero hlt] at hR;refine ai gkA ?_;refine us (mv [0] (QMa s (j.after.getD i Dep.zero)) (dO (.same _ (Q98 fun _=>lx)) .nil) (dv (dn_ren (Ren.map _ _ rfl)) (dv (Qp7 (Low.agg' (Dep.lo))) .nil)) (rO (RenO.same _ (Q98 fun _=>lx)) .nil) rx) ?_;refine ai (fun h3=>?_) (fun h4=>?_)
  ·obtain rfl:=foll hR (ct h3 rfl);exact rq (tt [0] (tO rfl (Qt0 _ rfl rfl (fun _=>lx)) .nil) t1)
  ·exact Qj0 (i+1) (wk [0] (tO rfl (Qt0 _ rfl rfl (fun _=>lx)) .nil) (sv (QD1 0 rfl rfl) (s1 (sl lw (s1 (sv (Q70 (I_eq (wr omA)) lx) .nil)))))) omA ⟨foll hR (cf h4 rfl),by exact omA⟩
 ·rw [Qa0 (l:=j.after) (j:=i) (geA h2)] at hR;obtain rfl:=foll hR rfl;exact rq (tt [0] (tO rfl (Qt0 _ rfl rfl (fun _=>lx)) .nil) t1)
def QN0 (l:List Job) (id_:Int):Int × Bool:=((QI0 l id_ (fun (y:Job) (y1:Int)=>(w64 (y.id - y1)))).1,(QI0 l id_ (fun (y:Job) (y1:Int)=>(w64 (y.id - y1)))).2)
theorem b1a0 {P:Prop} (h:P:=by first|(dsimp only;rw [hh3];omega)|first|(dsimp only;rw [hh];omega)|exact exA):P:=h
theorem table_place_c (l:List Job) (id_:Int) (hs0:l.length<=4294967296∧(∀ y ∈ l,y.sz)):GV 97 [jobL l,I id_] (AVal.tup [I ((QN0 l id_).1),Bo ((QN0 l id_).2)]):=by
 generalize hR:QN0 l id_=R;refine ga (.cons lw (l1 .nil)) (Low.tup' (l1 (l1 .nil))) (kp 6 []) Tryz.func97 ?_;obtain ⟨z10,z11⟩:=id hs0;have cl1:∀ (y1:Job) (y2:Int) (hzy1:y1.sz),AMoves Tryz.prog 159 [Job.a y1,I y2] [] 0 (I ((fun (y:Job) (y1:Int)=>(w64 (y.id - y1))) y1 y2)) []:=by
  intro y1 y2 hzy1;have hky1:=hzy1;obtain ⟨z1,z2,z3,z4,z5⟩:=Job.zz hzy1;have hR:(fun (y:Job) (y1:Int)=>(w64 (y.id - y1))) y1 y2=(fun (y:Job) (y1:Int)=>(w64 (y.id - y1))) y1 y2:=rfl;refine mo (kp 5 []) Tryz.func159 ?_;refine Qs0 (fun r:Int=>I r) (fun _=>[]) (leaf:=(w64 (y1.id - y2))) (foll hR rfl) ?_;exact tt [] .nil t1
 have hof1:AMoves Tryz.prog 158 [jobL l,I id_,AVal.fn (.func 159) [] []] [] 0 (AVal.tup [I ((QI0 l id_ (fun (y:Job) (y1:Int)=>(w64 (y.id - y1)))).1),Bo ((QI0 l id_ (fun (y:Job) (y1:Int)=>(w64 (y.id - y1)))).2)]) []:=by
  have hR:QI0 l id_ (fun (y:Job) (y1:Int)=>(w64 (y.id - y1)))=QI0 l id_ (fun (y:Job) (y1:Int)=>(w64 (y.id - y1))):=rfl;refine mo (kp 12 [17,31]) Tryz.func158 ?_;refine Qg0 (fun (i:Int) (j:Int)=>∃ m,(Int.toNat (j - i))<m∧QU0 l id_ (fun (y:Job) (y1:Int)=>(w64 (y.id - y1))) (Qo0 l id_ (fun (y:Job) (y1:Int)=>(w64 (y.id - y1))) m i j).1 (Qo0 l id_ (fun (y:Job) (y1:Int)=>(w64 (y.id - y1))) m i j).2=QI0 l id_ (fun (y:Job) (y1:Int)=>(w64 (y.id - y1)))∧0<=i∧i<=j∧j<=(l.length:Int)) (fun i j=>(Int.toNat (j - i))) (fun i j=>[(0,jobL l),(1,I id_),(2,AVal.fn (.func 159) [] []),(6,I 0),(7,Bo false),(8,I (l.length:Int)),(9,I i),(10,I j)]) (fun i j=>[]) 0 (l.length:Int) (wk [] .nil (sl lw (s1 (sv (Qa1 (Low.fn _ _ _ LowL.nil LowL.nil)) (s1 (s1 (s1 (s1 (s1 .nil))))))))) ⟨_,Nat.lt_succ_self _,foll hR rfl,b1a0⟩ ?_;clear hR;rintro i j ⟨m,hm,hR,hx⟩;(try dsimp only at hR hm hx);obtain ⟨m,rfl⟩:=sucA m;refine ai (fun h6=>?_) (fun h7=>?_)
  ·have qh6:=of_decide_eq_true h6;(have hq0:i<j:=qh6;have hh:w64 (Int.fdiv (wu64 (w64 (i+j))) (2 ^ (min (Int.toNat 1) 64)))=(i+j) / 2:=Qbf hx.1 hq0 hx.2.2 (by omega);have hh3:w64 (w64 (Int.fdiv (wu64 (w64 (i+j))) (2 ^ (min (Int.toNat 1) 64)))+1)=(i+j) / 2+1:=by rw [hh];exact wr (by omega));refine And.intro (by first|exact fun hg=>decide_eq_true (by first|(show 0<=w64 (Int.fdiv (wu64 (w64 (i+j))) (2 ^ (min (Int.toNat 1) 64)))∧w64 (Int.fdiv (wu64 (w64 (i+j))) (2 ^ (min (Int.toNat 1) 64)))<(l.length:Int);rw [hh];omega)|exact ckA)|exact gkA) ?_;refine And.intro (by first|exact fun hg=>decide_eq_true (by first|(show 0<=w64 (Int.fdiv (wu64 (w64 (i+j))) (2 ^ (min (Int.toNat 1) 64)))∧w64 (Int.fdiv (wu64 (w64 (i+j))) (2 ^ (min (Int.toNat 1) 64)))<(l.length:Int);rw [hh];omega)|exact ckA)|exact gkA) ?_;refine us (mv [] (cl1 (l.getD (Int.toNat (w64 (Int.fdiv (wu64 (w64 (i+j))) (2 ^ (min (Int.toNat 1) 64))))) Job.zero) id_ szA) .nil (dl (Job.low _ _) (d1 .nil)) .nil rx) ?_;refine ai (fun h8=>?_) (fun h9=>?_)
   ·have qh8:=of_decide_eq_true h8;exact Q80 (w64 ((w64 (Int.fdiv (wu64 (w64 (i+j))) (2 ^ (min (Int.toNat 1) 64))))+1)) j (wk [] .nil (sl lw (s1 (sv (Qa1 (Low.fn _ _ _ LowL.nil LowL.nil)) (s1 (s1 (s1 (s1 (s1 .nil))))))))) (by first|(dsimp only;rw [hh3];omega)|first|(dsimp only;rw [hh];omega)|exact omA) ⟨m,by first|(dsimp only;rw [hh3];omega)|first|(dsimp only;rw [hh];omega)|exact omA,foll hR (congrArg (fun p:Int × Int=>QU0 l id_ (fun (y:Job) (y1:Int)=>(w64 (y.id - y1))) p.1 p.2) (ct h6 (ct h8 rfl))),b1a0⟩
   ·have qh9:=of_decide_eq_false h9;exact Q80 i (w64 (Int.fdiv (wu64 (w64 (i+j))) (2 ^ (min (Int.toNat 1) 64)))) (wk [] .nil (sl lw (s1 (sv (Qa1 (Low.fn _ _ _ LowL.nil LowL.nil)) (s1 (s1 (s1 (s1 (s1 .nil))))))))) (by first|(dsimp only;rw [hh3];omega)|first|(dsimp only;rw [hh];omega)|exact omA) ⟨m,by first|(dsimp only;rw [hh3];omega)|first|(dsimp only;rw [hh];omega)|exact omA,foll hR (congrArg (fun p:Int × Int=>QU0 l id_ (fun (y:Job) (y1:Int)=>(w64 (y.id - y1))) p.1 p.2) (ct h6 (cf h9 rfl))),b1a0⟩
  ·have qh7:=of_decide_eq_false h7;replace hR:QU0 l id_ (fun (y:Job) (y1:Int)=>(w64 (y.id - y1))) i j=QI0 l id_ (fun (y:Job) (y1:Int)=>(w64 (y.id - y1))):=fo2 (fun p:Int × Int=>QU0 l id_ (fun (y:Job) (y1:Int)=>(w64 (y.id - y1))) p.1 p.2) (i,j) hR (cf h7 rfl);refine And.intro (by first|exact fun hg=>decide_eq_true (by first|(show 0<=w64 (Int.fdiv (wu64 (w64 (i+j))) (2 ^ (min (Int.toNat 1) 64)))∧w64 (Int.fdiv (wu64 (w64 (i+j))) (2 ^ (min (Int.toNat 1) 64)))<(l.length:Int);rw [hh];omega)|exact ckA)|exact gkA) ?_;(first|apply u2|apply u3|apply u4|apply us);exact mv [] (cl1 (l.getD (Int.toNat i) Job.zero) id_ szA) .nil (dl (Job.low _ _) (d1 .nil)) .nil rx;refine Qs0 (fun r:Int × Bool=>AVal.tup [I r.1,Bo r.2]) (fun r:Int × Bool=>[]) (leaf:=(i,((decide (i<(l.length:Int)))&&(((fun (y:Job) (y1:Int)=>(w64 (y.id - y1))) (l.getD (Int.toNat i) Job.zero) id_)==0)))) (foll hR rfl) ?_;exact tt [] .nil (turn_tup (c1 (c1 .nil)))
 refine us (mv [] (hof1) .nil (dl lw (d1 (dv (Qp7 (Low.fn _ _ _ LowL.nil LowL.nil)) .nil))) .nil (Ren.low _ (Low.tup' (l1 (l1 .nil))))) ?_;obtain rfl:=foll hR rfl;exact Q00 (Low.tup' (l1 (l1 .nil))) (Seen.tup (e1 (e1 .nil)))
theorem bs_ge (x_:List Job) (target:Int) (cmp:Job->Int->Int) (hn:x_.length<=4294967296):∀ (m:Nat) (i j:Int),0<=i->i<=j->j<=(x_.length:Int)->0<=(Qo0 x_ target cmp m i j).1
 | 0,_,_,_,_,_=>by simp [Qo0]
 | m+1,i,j,h0,h1,h2=>by
  rw [Qo0]
  cases hd:decide (i<j) with
  | false=>exact h0
  | true =>
   have hlt:=of_decide_eq_true hd
   rw [Qbf h0 hlt h2 (by omega)]
   simp only [cond_true]
   cases decide (cmp (x_.getD (Int.toNat ((i+j) / 2)) Job.zero) target<0) with
   | true =>
    have hw:w64 ((i+j) / 2+1)=(i+j) / 2+1:=wr (by omega)
    simp only [cond_true]
    rw [hw]
    exact bs_ge x_ target cmp hn m _ _ (by omega) (by omega) h2
   | false=>exact bs_ge x_ target cmp hn m _ _ h0 (by omega) (by omega)
theorem Ql7 (l:List Job) (id_:Int) (hn:l.length<=4294967296) (h:(!(QN0 l id_).2)=false):0<=(QN0 l id_).1∧(QN0 l id_).1<(l.length:Int):=by
 simp only [QN0,QI0,QU0,Bool.not_eq_false',Bool.and_eq_true,decide_eq_true_eq] at h
 exact ⟨bs_ge _ _ _ hn _ _ _ (by omega) (by omega) (by omega),h.1⟩
def table_whole (l:List Job):(List Job):=l
theorem table_whole_o (l:List Job) (hs0:l.length<=4294967296∧(∀ y ∈ l,y.sz)):AMoves Tryz.prog 98 [jobL l] [] 0 (AVal.own 0 0 20 0 l.length) [(0,AObj.row 35 20 (l.map Job.cells))]:=by
 generalize hR:table_whole l=R;refine mo (kp 5 [8,9,10]) Tryz.func98 ?_;obtain ⟨z8,z9⟩:=id hs0;refine us (mv [] (QDc l szA) .nil (dl lw .nil) (rO rr .nil) (rw_ 0 0 rfl)) ?_;refine Qf0 (fun (i:Nat)=>True∧i<=l.length) (fun i=>l.length - i) (fun i=>[(2,AVal.lit (.slice none 0 0)),(3,AVal.own 0 0 20 0 l.length),(8,I (l.length:Int)),(9,I (i:Int))]) (fun i=>[(0,AObj.row 35 20 (l.map Job.cells))]) 0 (wk [0] (tO rfl (tl eqA) .nil) (s1 (sv (to 0 lnA) (s1 (s1 .nil))))) ⟨trivial,by exact omA⟩ ?_;have hR0:=hR;rintro i ⟨hR,hj⟩;(try dsimp only at hR hj);refine ai (fun h1=>?_) (fun h2=>?_)
 ·have hlt:=ltA h1;have hxz:(l.getD i Job.zero).sz:=Q72 (by first|assumption|grind) (Job.szz _);have hkz:=hxz;obtain ⟨z3,z4,z5,z6,z7⟩:=Job.zz hxz;refine ai gkA ?_;refine ⟨_,QT1 rfl rfl rfl (Ql2 Job.zero i (by first|rfl|exact Nat.zero_add _|omega) ckA) rfl,?_⟩;refine us (QBc ((l.getD i Job.zero).shape.alts) szA _) ?_;refine ai gkA ?_;refine ⟨_,QF4 rfl rfl rfl rfl (Ql2 Job.zero i (by first|rfl|exact Nat.zero_add _|omega) ckA) rfl rfl (Qz8 Job.zero i (by first|rfl|exact Nat.zero_add _|omega) ckA rfl),?_⟩;refine ai gkA ?_;refine ⟨_,QT1 rfl rfl rfl (Ql2 Job.zero i (by first|rfl|exact Nat.zero_add _|omega) ckA) rfl,?_⟩;refine us (QCc ((l.getD i Job.zero).after) szA _) ?_;refine ai gkA ?_;refine ⟨_,QF4 rfl rfl rfl rfl (Ql2 Job.zero i (by first|rfl|exact Nat.zero_add _|omega) ckA) rfl rfl (Qz8 Job.zero i (by first|rfl|exact Nat.zero_add _|omega) ckA rfl),?_⟩;exact Qj0 (i+1) (wk [0] (tO rfl (tl eqA) .nil) (s1 (sv (to 0 lnA) (s1 (sv (Q70 (I_eq (wr omA)) lx) .nil))))) omA ⟨hR,by exact omA⟩
 ·skip;have hR:=hR0;obtain rfl:=foll hR rfl;exact rq (tt [0] (tO rfl (tl eqA) .nil) (to 0 lnA))
end Go.Proofs.YtjpgfmbccohngaaGreatDoor
