/-
  Contracts of functions, printed by a program of this repo (wip/dec). No condition beyond those that stand in each.
-/
import Derived.Test.YtcbolcknapeneaaGreatDoorH12
import Derived.Test.YtcbolcknapeneaaGreatDoorProg
namespace Go.Proofs.YtcbolcknapeneaaGreatDoor
set_option linter.unusedSimpArgs false
set_option linter.unusedVariables false
open Go.Fw
set_option maxRecDepth 20000
set_option maxHeartbeats 4000000
attribute [local irreducible] ACalls AMoves
def Qb0 (r_:LexReader):Token × LexReader:=bif ((Q11 (r_.line.getD (Int.toNat r_.at_) 0))==2) then ((QO1 r_).1,(QO1 r_).2) else bif ((Q11 (r_.line.getD (Int.toNat r_.at_) 0))==3) then ((Qo1 r_).1,(Qo1 r_).2) else bif ((r_.line.getD (Int.toNat r_.at_) 0)==34) then ((Qz1 r_).1,(Qz1 r_).2) else bif ((decide ((Qi5 ⟨#[61,58,44,45]⟩ (wu8 (r_.line.getD (Int.toNat r_.at_) 0))) >= 0))&&(decide ((r_.line.getD (Int.toNat r_.at_) 0)<128))) then ((⟨5,(runeStr (r_.line.getD (Int.toNat r_.at_) 0)),0,0⟩:Token),{ r_ with at_:=(w64 (r_.at_+1)) }) else bif ((Q11 (r_.line.getD (Int.toNat r_.at_) 0))==0) then (Token.zero,(QM0 r_ r_.at_ 40)) else (Token.zero,(QM0 r_ r_.at_ 50))
theorem QTb (r_:LexReader) (hs0:r_.sz) (hp0:0<=r_.at_∧r_.at_<(r_.line.length:Int)∧r_.line.length<=400):AMoves Tryz.prog 364 [AVal.ptr 0 0 4 0 0] [(0,AObj.row 364 4 [[runes r_.line,I r_.at_,I r_.bad,I r_.error]])] 1 (Token.a ((Qb0 r_).1)) [(0,AObj.row 364 4 [[runes ((Qb0 r_).2.line),I ((Qb0 r_).2.at_),I ((Qb0 r_).2.bad),I ((Qb0 r_).2.error)]])]:=by
 generalize hR:Qb0 r_=R;refine mo (kp 4 [20,26,32,37,56]) Tryz.func364 ?_;have hk0:=hs0;obtain z11:r_.line.length<=4294967296:=hs0;refine dchk (by kernel_rfl) ?_;refine ai gkA ?_;(repeat ((first|refine ai rfl ?_|refine ai (fun _=>rfl) ?_)));refine us (Qq4 (r_.line.getD (Int.toNat r_.at_) 0) _) ?_;refine ai (fun h1=>?_) (fun h2=>?_)
 ·refine us (mv [0] (QVb r_ szA ckA) (dO (ds LexReader.lo) .nil) (dp .nil) (rO (re LexReader.lo) .nil) (Ren.low _ (Low.agg' (Token.lo)))) ?_;obtain rfl:=foll hR (ct h1 rfl);exact rq (tt [0] (tO rfl (ts LexReader.lo) .nil) (Qq0 (Low.agg' (Token.lo))))
 ·refine us (Qq4 (r_.line.getD (Int.toNat r_.at_) 0) _) ?_;refine ai (fun h3=>?_) (fun h4=>?_)
  ·refine us (mv [0] (Qdb r_ szA ckA) (dO (ds LexReader.lo) .nil) (dp .nil) (rO (re LexReader.lo) .nil) (Ren.low _ (Low.agg' (Token.lo)))) ?_;obtain rfl:=foll hR (cf h2 (ct h3 rfl));exact rq (tt [0] (tO rfl (ts LexReader.lo) .nil) (Qq0 (Low.agg' (Token.lo))))
  ·refine ai (fun h5=>?_) (fun h6=>?_)
   ·refine us (mv [0] (QUb r_ szA ckA) (dO (ds LexReader.lo) .nil) (dp .nil) (rO (re LexReader.lo) .nil) (Ren.low _ (Low.agg' (Token.lo)))) ?_;obtain rfl:=foll hR (cf h2 (cf h4 (ct h5 rfl)));exact rq (tt [0] (tO rfl (ts LexReader.lo) .nil) (Qq0 (Low.agg' (Token.lo))))
   ·refine us (Qza ⟨#[61,58,44,45]⟩ (wu8 (r_.line.getD (Int.toNat r_.at_) 0)) _) ?_;refine ai (fun h7=>?_) (fun h8=>?_)
    ·obtain rfl:=foll hR (cf h2 (cf h4 (cf h6 (ct h7 rfl))));exact rq (tt [0] (tO rfl (ts LexReader.lo) .nil) (Qq0 (Low.agg' (Token.lo))))
    ·refine us (Qq4 (r_.line.getD (Int.toNat r_.at_) 0) _) ?_;refine ai (fun h9=>?_) (fun h10=>?_)
     ·refine us (mv [0] (Q93 r_ r_.at_ 40) (dO (ds LexReader.lo) .nil) (dp (d1 (d1 .nil))) (rO (re LexReader.lo) .nil) rx) ?_;obtain rfl:=foll hR (cf h2 (cf h4 (cf h6 (cf h8 (ct h9 rfl)))));exact rq (tt [0] (tO rfl (ts LexReader.lo) .nil) (Qq0 (Low.agg' (Token.lo))))
     ·refine us (mv [0] (Q93 r_ r_.at_ 50) (dO (ds LexReader.lo) .nil) (dp (d1 (d1 .nil))) (rO (re LexReader.lo) .nil) rx) ?_;obtain rfl:=foll hR (cf h2 (cf h4 (cf h6 (cf h8 (cf h10 rfl)))));exact rq (tt [0] (tO rfl (ts LexReader.lo) .nil) (Qq0 (Low.agg' (Token.lo))))
def Adv (a b:LexReader):Prop:=b.line=a.line∧a.at_<=b.at_∧b.at_<=(a.line.length:Int)∧b.error=a.error∧b.bad=a.bad
theorem QF8 (is:Int->Bool):∀ (m:Nat) (c:LexReader),0<=c.at_->c.at_<=(c.line.length:Int)->c.line.length<=400->(Int.toNat ((c.line.length:Int) - c.at_))<m->Adv c (Qu0 is m c)
 | 0,c,_,_,_,h=>absurd h (by omega)
 | m+1,c,h0,h1,h2,h=>by
  rw [Qu0]
  cases hc:((decide (c.at_<(c.line.length:Int)))&&(is (c.line.getD (Int.toNat c.at_) 0))) with
  | false=>exact ⟨rfl,Int.le_refl _,h1,rfl,rfl⟩
  | true =>
   have hlt:=of_decide_eq_true ((Bool.and_eq_true _ _).mp hc).1
   have hw:w64 (c.at_+1)=c.at_+1:=wr (by omega)
   rw [hw]
   obtain ⟨a,b,d,e,f⟩:=QF8 is m { c with at_:=c.at_+1 } (by dsimp only;omega) (by dsimp only;omega) h2 (by dsimp only;omega)
   dsimp only at a b d e f
   exact ⟨a,by simp only [cond_true];omega,d,e,f⟩
theorem Qm5 (r:LexReader) (is:Int->Bool) (h0:0<=r.at_) (h1:r.at_<=(r.line.length:Int)) (h2:r.line.length<=400):Adv r (Q40 r is).2 :=
 QF8 is _ r h0 h1 h2 (Nat.lt_succ_self _)
theorem Qz7 (r:LexReader) (is:Int->Bool) (h0:0<=r.at_) (h1:r.at_<(r.line.length:Int)) (h2:r.line.length<=400) (h:is (r.line.getD (Int.toNat r.at_) 0)=true):r.at_<(Q40 r is).2.at_:=by
 have hw:w64 (r.at_+1)=r.at_+1:=wr (by omega)
 have e:(Q40 r is).2=Qu0 is (Int.toNat ((r.line.length:Int) - r.at_)) { r with at_:=r.at_+1 }:=by
  show Qu0 is ((Int.toNat ((r.line.length:Int) - r.at_))+1) r=_
  rw [Qu0,show ((decide (r.at_<(r.line.length:Int)))&&(is (r.line.getD (Int.toNat r.at_) 0)))=true by rw [h,Bool.and_true];exact decide_eq_true h1,hw]
  rfl
 rw [e]
 have:=(QF8 is (Int.toNat ((r.line.length:Int) - r.at_)) { r with at_:=r.at_+1 } (by dsimp only;omega) (by dsimp only;omega) h2 (by dsimp only;omega)).2.1
 dsimp only at this
 omega
theorem Qi9 (r:LexReader) (p e:Int) (he:e ≠ 0):(QM0 r p e).line=r.line∧(QM0 r p e).at_=r.at_∧(QM0 r p e).error ≠ 0:=by
 unfold QM0
 cases h:(r.error==0) with
 | true=>exact ⟨rfl,rfl,he⟩
 | false=>exact ⟨rfl,rfl,by simpa using h⟩
def Nxt (a b:LexReader):Prop:=b.line=a.line∧a.at_<=b.at_∧b.at_<=(a.line.length:Int)∧(b.error ≠ 0∨a.at_<b.at_)
theorem lex_word_nxt (r:LexReader) (h0:0<=r.at_) (h1:r.at_<(r.line.length:Int)) (h2:r.line.length<=400) (hc:((Q11 (r.line.getD (Int.toNat r.at_) 0))==2)=true):Nxt r (QO1 r).2:=by
 obtain ⟨a,b,c,_,_⟩:=Qm5 r (fun (y:Int)=>Qg0 y ([2,3]:List Int) 0) h0 (by omega) h2
 exact ⟨a,b,c,Or.inr (Qz7 r _ h0 h1 h2 (by simp only [Qg0,hc];rfl))⟩
theorem class_digit (x:Int) (h:(Q11 x==3)=true):48<=x∧x<=57:=by
 unfold Q11 at h
 revert h
 cases ((x==9)||(x==32)) with
 | true=>simp
 | false =>
  simp only [cond_false]
  cases (((((decide (x<32))||((decide (x >= 127))&&(decide (x<=160))))||((decide (x >= 55296))&&(decide (x<=57343))))||(x==65533))||(decide (x > 1114111))) with
  | true=>simp
  | false =>
   simp only [cond_false]
   cases hd:((decide (x >= 48))&&(decide (x<=57))) with
   | true=>intro _;simp at hd;omega
   | false =>
    simp only [cond_false]
    cases ((((decide (x >= 97))&&(decide (x<=122)))||((decide (x >= 65))&&(decide (x<=90))))||(decide (x > 160))) <;> simp
theorem lex_count_nxt (r:LexReader) (h0:0<=r.at_) (h1:r.at_<(r.line.length:Int)) (h2:r.line.length<=400) (hc:((Q11 (r.line.getD (Int.toNat r.at_) 0))==3)=true):Nxt r (Qo1 r).2:=by
 obtain ⟨a,b,c,_,_⟩:=Qm5 r (fun (y:Int)=>(((decide (y >= 48))&&(decide (y<=57)))||((decide (y >= 97))&&(decide (y<=122))))) h0 (by omega) h2
 have hd:=class_digit _ hc
 have l:=Qz7 r (fun (y:Int)=>(((decide (y >= 48))&&(decide (y<=57)))||((decide (y >= 97))&&(decide (y<=122))))) h0 h1 h2 (by simp only [decide_eq_true hd.1,decide_eq_true hd.2];rfl)
 unfold Qo1
 cases (!(Qj7 ((Q40 r (fun (y:Int)=>(((decide (y >= 48))&&(decide (y<=57)))||((decide (y >= 97))&&(decide (y<=122)))))).1))) with
 | true=>exact ⟨a,b,c,Or.inr l⟩
 | false =>
  simp only [cond_false]
  cases (!(Qr6 ((Q40 r (fun (y:Int)=>(((decide (y >= 48))&&(decide (y<=57)))||((decide (y >= 97))&&(decide (y<=122)))))).1)).2) with
  | false=>exact ⟨a,b,c,Or.inr l⟩
  | true =>
   obtain ⟨f1,f2,f3⟩:=Qi9 (Q40 r (fun (y:Int)=>(((decide (y >= 48))&&(decide (y<=57)))||((decide (y >= 97))&&(decide (y<=122)))))).2 r.at_ 50 (by decide)
   exact ⟨f1.trans a,by simp only [cond_true];rw [f2];exact b,by simp only [cond_true];rw [f2];exact c,Or.inl f3⟩
theorem Qnc:∀ (m:Nat) (c:LexReader) (b:Bool),0<=c.at_->c.at_<=(c.line.length:Int)->c.line.length<=400->(Int.toNat ((c.line.length:Int) - c.at_))<m->Adv c (QM1 m c b).1
 | 0,c,_,_,_,_,h=>absurd h (by omega)
 | m+1,c,b,h0,h1,h2,h=>by
  rw [QM1]
  cases hc:((decide (c.at_<(c.line.length:Int)))&&(Qa1 (c.line.getD (Int.toNat c.at_) 0) b).1) with
  | false=>exact ⟨rfl,Int.le_refl _,h1,rfl,rfl⟩
  | true =>
   have hlt:=of_decide_eq_true ((Bool.and_eq_true _ _).mp hc).1
   have hw:w64 (c.at_+1)=c.at_+1:=wr (by omega)
   rw [hw]
   obtain ⟨a,b,d,e,f⟩:=Qnc m { c with at_:=c.at_+1 } _ (by dsimp only;omega) (by dsimp only;omega) h2 (by dsimp only;omega)
   dsimp only at a b d e f
   exact ⟨a,by simp only [cond_true];omega,d,e,f⟩
theorem lex_text_nxt (r:LexReader) (h0:0<=r.at_) (h1:r.at_<(r.line.length:Int)) (h2:r.line.length<=400):Nxt r (Qz1 r).2:=by
 obtain ⟨a,b,c,_,_⟩:=Qnc _ r true h0 (by omega) h2 (Nat.lt_succ_self _)
 unfold Qz1
 generalize (QM1 ((Int.toNat ((r.line.length:Int) - r.at_))+1) r true).1=q at a b c
 unfold Qd2
 have ff:∀ (x:LexReader) (p e:Int),e ≠ 0->x.line=r.line->r.at_<=x.at_->x.at_<=(r.line.length:Int)->Nxt r (QM0 x p e):=by
  intro x p e he hx hp hq
  obtain ⟨f1,f2,f3⟩:=Qi9 x p e he
  exact ⟨f1.trans hx,by rw [f2];exact hp,by rw [f2];exact hq,Or.inl f3⟩
 cases h3:(q.at_==(q.line.length:Int)) with
 | true=>exact ff q _ _ (by decide) a b c
 | false =>
  simp only [cond_false]
  have h3':q.at_ ≠ (r.line.length:Int):=by rw [a] at h3;simpa using h3
  have hw:w64 (q.at_+1)=q.at_+1:=wr (by omega)
  cases ((q.line.getD (Int.toNat q.at_) 0)!=34) with
  | true=>exact ff q _ _ (by decide) a b c
  | false =>
   simp only [cond_false]
   rw [hw]
   cases h4:((QP2 (runesBytes (List.drop (Int.toNat r.at_) (List.take (Int.toNat (q.at_+1)) q.line)))).2 != 0) with
   | true=>exact ff { q with at_:=q.at_+1 } _ _ (by simpa using h4) a (by show r.at_<=q.at_+1;omega) (by show q.at_+1<=_;omega)
   | false=>exact ⟨a,by show r.at_<=q.at_+1;omega,by show q.at_+1<=_;omega,Or.inr (by show r.at_<q.at_+1;omega)⟩
theorem lex_next_nxt (r:LexReader) (h0:0<=r.at_) (h1:r.at_<(r.line.length:Int)) (h2:r.line.length<=400):Nxt r (Qb0 r).2:=by
 have hw:w64 (r.at_+1)=r.at_+1:=wr (by omega)
 have ff:∀ (e:Int),e ≠ 0->Nxt r (QM0 r r.at_ e):=by
  intro e he
  obtain ⟨f1,f2,f3⟩:=Qi9 r r.at_ e he
  exact ⟨f1,by rw [f2];exact Int.le_refl _,by rw [f2];omega,Or.inl f3⟩
 unfold Qb0
 cases hc:((Q11 (r.line.getD (Int.toNat r.at_) 0))==2) with
 | true=>exact lex_word_nxt r h0 h1 h2 hc
 | false =>
  simp only [cond_false]
  cases hd:((Q11 (r.line.getD (Int.toNat r.at_) 0))==3) with
  | true=>exact lex_count_nxt r h0 h1 h2 hd
  | false =>
   simp only [cond_false]
   cases ((r.line.getD (Int.toNat r.at_) 0)==34) with
   | true=>exact lex_text_nxt r h0 h1 h2
   | false =>
    simp only [cond_false]
    cases ((decide ((Qi5 ⟨#[61,58,44,45]⟩ (wu8 (r.line.getD (Int.toNat r.at_) 0))) >= 0))&&(decide ((r.line.getD (Int.toNat r.at_) 0)<128))) with
    | true=>rw [hw];exact ⟨rfl,by show r.at_<=r.at_+1;omega,by show r.at_+1<=_;omega,Or.inr (by show r.at_<r.at_+1;omega)⟩
    | false =>
     simp only [cond_false]
     cases ((Q11 (r.line.getD (Int.toNat r.at_) 0))==0) with
     | true=>exact ff 40 (by decide)
     | false=>exact ff 50 (by decide)
theorem lex_round (r c:LexReader) (b:Int->Bool) (h0:0<=r.at_) (h1:r.at_<=(r.line.length:Int)) (h2:r.line.length<=400) (he:(r.error==0)=true) (e:c=(Q40 r b).2) (hn:(c.at_==(c.line.length:Int))=false) :
  (0<=c.at_∧c.at_<(c.line.length:Int)∧c.line.length<=400)∧(0<=(Qb0 c).2.at_∧(Qb0 c).2.at_<=((Qb0 c).2.line.length:Int)∧(Qb0 c).2.line.length<=400) ∧
  2*Int.toNat (((Qb0 c).2.line.length:Int) - (Qb0 c).2.at_)+(bif (Qb0 c).2.error==0 then 1 else 0)<2*Int.toNat ((r.line.length:Int) - r.at_)+(bif r.error==0 then 1 else 0) ∧
  (((Qb0 c).2.error==0)=true->r.at_+1<=(Qb0 c).2.at_):=by
 obtain ⟨a1,a2,a3,a4,a5⟩:=Qm5 r b h0 h1 h2
 rw [← e] at a1 a2 a3 a4 a5
 have hn':c.at_ ≠ (r.line.length:Int):=by rw [a1] at hn;simpa using hn
 have hc:0<=c.at_∧c.at_<(c.line.length:Int)∧c.line.length<=400:=by rw [a1];omega
 obtain ⟨n1,n2,n3,n4⟩:=lex_next_nxt c hc.1 hc.2.1 hc.2.2
 rw [he]
 rw [a1] at n1 n3
 refine ⟨hc,by rw [n1];omega,?_⟩
 rw [n1]
 rcases n4 with n4|n4
 ·have:((Qb0 c).2.error==0)=false:=by simpa using n4
  rw [this]
  simp only [cond_true,cond_false]
  exact ⟨by omega,fun h=>nomatch h⟩
 ·refine ⟨?_,fun _=>by omega⟩
  cases ((Qb0 c).2.error==0) <;> simp only [cond_true,cond_false] <;> omega
def QX0 (v:Job) (choice:Int):Alt × Bool:=bif ((decide (choice<0))||(decide (choice >= ((Qk0 v.shape).length:Int)))) then (Alt.zero,false) else (((Qk0 v.shape).getD (Int.toNat choice) Alt.zero),true)
theorem Qo6 (v:Job) (choice:Int) (hs0:v.sz):GV 163 [Job.a v,I choice] (AVal.tup [Alt.a ((QX0 v choice).1),Bo ((QX0 v choice).2)]):=by
 generalize hR:QX0 v choice=R;refine ga (.cons (Job.low _ _) (l1 .nil)) (Low.tup' (.cons (Alt.low _ _) (l1 .nil))) (kp 7 [18]) Tryz.func163 ?_;obtain ⟨z3,z4,z5,z6,z7⟩:=Job.zz hs0;refine us (QG2 v.shape szA _) ?_;refine ai (fun h1=>?_) (fun h2=>?_)
 ·obtain rfl:=foll hR (ct h1 rfl);exact Q00 (Low.tup' (.cons (Alt.low _ _) (l1 .nil))) (Seen.tup (e1 (e1 .nil)))
 ·refine ai gkA ?_;obtain rfl:=foll hR (cf h2 rfl);exact Q00 (Low.tup' (.cons (Alt.low _ _) (l1 .nil))) (Seen.tup (e1 (e1 .nil)))
def QU6 (s:Shape) (choice:Int) (n:Int):Bool:=bif ((decide (choice<0))||(decide (choice >= ((Qk0 s).length:Int)))) then false else bif (s.kind==3) then ((decide (n >= s.min))&&(decide (n<=s.max))) else (((Qk0 s).getD (Int.toNat choice) Alt.zero).nodes==n)
theorem Qea (s:Shape) (choice:Int) (n:Int) (hs0:s.sz):GV 177 [Shape.a s,I choice,I n] (Bo (QU6 s choice n)):=by
 generalize hR:QU6 s choice n=R;refine ga (.cons (Shape.low _ _) (l1 (l1 .nil))) lx (kp 8 [17,20]) Tryz.func177 ?_;have hk0:=hs0;obtain z5:s.alts.length<=4294967296:=hs0;refine us (QG2 s szA _) ?_;refine ai (fun h1=>?_) (fun h2=>?_)
 ·obtain rfl:=foll hR (ct h1 rfl);exact Q00 lx sr
 ·refine ai (fun h3=>?_) (fun h4=>?_)
  ·obtain rfl:=foll hR (cf h2 (ct h3 rfl));exact Q00 lx sr
  ·refine ai gkA ?_;obtain rfl:=foll hR (cf h2 (cf h4 rfl));exact Q00 lx sr
def QS7 (l:List Node):Int:=(Qh3 l (fun (y:Node)=>((y.state != 4)&&(!y.drain))))
theorem fleet_Up_c (l:List Node) (hs0:l.length<=4294967296):GV 210 [nodeL l] (U (QS7 l)):=by
 generalize hR:QS7 l=R;refine ga (.cons lw .nil) lx (kp 3 []) Tryz.func210 ?_;have hk0:=hs0;obtain z7:l.length<=4294967296:=hs0;have cl1:∀ (y1:Node),AMoves Tryz.prog 292 [Node.a y1] [] 0 (Bo ((fun (y:Node)=>((y.state != 4)&&(!y.drain))) y1)) []:=by
  intro y1;have hR:(fun (y:Node)=>((y.state != 4)&&(!y.drain))) y1=(fun (y:Node)=>((y.state != 4)&&(!y.drain))) y1:=rfl;refine mo (kp 3 []) Tryz.func292 ?_;refine Qm0 (fun r:Bool=>Bo r) (fun _=>[]) (leaf:=((y1.state != 4)&&(!y1.drain))) (foll hR rfl) ?_;exact tt [] .nil t1
 have hof1:AMoves Tryz.prog 268 [nodeL l,AVal.fn (.func 292) [] []] [] 0 (U (Qh3 l (fun (y:Node)=>((y.state != 4)&&(!y.drain))))) []:=by
  have hR:Qh3 l (fun (y:Node)=>((y.state != 4)&&(!y.drain)))=Qh3 l (fun (y:Node)=>((y.state != 4)&&(!y.drain))):=rfl;refine mo (kp 10 [12,13,14,15,16,22]) Tryz.func268 ?_;refine us (QWa l szA _) ?_;refine ai (fun h1=>?_) (fun h2=>?_)
  ·refine Qm0 (fun r:Int=>U r) (fun r:Int=>[]) (leaf:=0) (foll hR (ct h1 rfl)) ?_;exact tt [] .nil t1
  ·refine Qh0 (fun (out:List Int) (i:Nat)=>QW2 (QB4 (fun (y:Node)=>((y.state != 4)&&(!y.drain))) (List.drop i l) out i)=Qh3 l (fun (y:Node)=>((y.state != 4)&&(!y.drain)))∧i<=l.length∧out.length<=i) (fun out i=>l.length - i) (fun out i=>[(1,AVal.fn (.func 292) [] []),(4,U 0),(5,AVal.own 0 0 1 0 out.length),(13,nodeL l),(14,I (l.length:Int)),(15,I (i:Int))]) (fun out i=>[(0,AObj.row 3 1 (out.map (fun q_=>[I q_])))]) [] 0 ((QD1 3 1).trans (wk [0] (tO rfl (tl eqA) .nil) (sv (Qq0 (Low.fn _ _ _ LowL.nil LowL.nil)) (s1 (sv (Qj1 0 rfl) (sl lw (s1 (s1 .nil)))))))) ⟨foll hR (cf h2 rfl),by exact omA,by exact exA⟩ ?_;clear hR;rintro out i ⟨hR,hj,hx⟩;(try dsimp only at hR hj hx);refine ai (fun h3=>?_) (fun h4=>?_)
   ·have hlt:=ltA h3;rw [Q90 Node.zero hlt] at hR;refine ai gkA ?_;refine us (mv [] (cl1 (l.getD i Node.zero)) .nil (dl (Node.low _ _) .nil) .nil rx) ?_;refine ai (fun h5=>?_) (fun h6=>?_)
    ·refine Or.inl ?_;(first|refine ⟨Qa2 8 rfl lnA apA,?_⟩|refine ⟨Qd1 8 rfl apA,?_⟩);exact Q60 (out++([(i:Int)]:List Int)) (i+1) (wk [0] (tO rfl (tl eqA) .nil) (sv (Qq0 (Low.fn _ _ _ LowL.nil LowL.nil)) (s1 (sv (to 0 lnA) (sl lw (s1 (sv (Q80 (I_eq (wr omA)) lx) .nil))))))) omA ⟨foll hR (congrArg (fun p:(List Int)=>QW2 p) (ct h5 rfl)),by exact omA,by exact exA⟩
    ·exact Q60 out (i+1) (wk [0] (tO rfl (tl eqA) .nil) (sv (Qq0 (Low.fn _ _ _ LowL.nil LowL.nil)) (s1 (sv (to 0 lnA) (sl lw (s1 (sv (Q80 (I_eq (wr omA)) lx) .nil))))))) omA ⟨foll hR (congrArg (fun p:(List Int)=>QW2 p) (cf h6 rfl)),by exact omA,by exact exA⟩
   ·rw [Qf0 (l:=l) (j:=i) (geA h4)] at hR;replace hR:QW2 out=Qh3 l (fun (y:Node)=>((y.state != 4)&&(!y.drain))):=fo2 (fun p:(List Int)=>QW2 p) (out) hR rfl;refine us (AGives.lent (nodeset_Of_c out szA []) (ev (Ql1 _ _ rfl eqA lnA) .nil) (.cons lw .nil) (Qka rfl)) ?_;refine Qm0 (fun r:Int=>U r) (fun r:Int=>[]) (leaf:=(QO5 out).1) (foll hR rfl) ?_;exact tt [] .nil t1
 refine us (mv [] (hof1) .nil (dl lw (dv (Qs7 (Low.fn _ _ _ LowL.nil LowL.nil)) .nil)) .nil rx) ?_;obtain rfl:=foll hR rfl;exact Q00 lx sr
def QX2 (l:List Usage) (user:ByteArray):Int:=(Q24 l (fun (y:Usage)=>(bif (!(ByteArray.toList y.user==ByteArray.toList user)) then 0 else y.share)))
theorem Qaa (l:List Usage) (user:ByteArray) (hs0:l.length<=4294967296∧(∀ y ∈ l,y.sz)) (hs1:user.size<=4294967296):GV 250 [QU1 l,Sg user] (I (QX2 l user)):=by
 generalize hR:QX2 l user=R;refine ga (.cons lw (l1 .nil)) lx (kp 5 []) Tryz.func250 ?_;obtain ⟨z11,z12⟩:=id hs0;have hk1:=hs1;obtain z13:user.size<=4294967296:=hs1;have cl1:∀ (y1:Usage) (hzy1:y1.sz),AMoves Tryz.prog 307 [Usage.a y1,AVal.ptr 0 0 1 0 0] [(0,AObj.row 9 1 [[Sg user]])] 1 (I ((fun (y:Usage)=>(bif (!(ByteArray.toList y.user==ByteArray.toList user)) then 0 else y.share)) y1)) [(0,AObj.row 9 1 [[Sg user]])]:=by
  intro y1 hzy1;have hky1:=hzy1;obtain ⟨z1,z2⟩:=Usage.zz hzy1;have hR:(fun (y:Usage)=>(bif (!(ByteArray.toList y.user==ByteArray.toList user)) then 0 else y.share)) y1=(fun (y:Usage)=>(bif (!(ByteArray.toList y.user==ByteArray.toList user)) then 0 else y.share)) y1:=rfl;refine mo (kp 4 [7]) Tryz.func307 ?_;refine ai (fun h3=>?_) (fun h4=>?_)
  ·refine Qm0 (fun r:Int=>I r) (fun _=>[(0,AObj.row 9 1 [[Sg user]])]) (leaf:=0) (foll hR (ct h3 rfl)) ?_;exact tt [0] (tO rfl (ts (l1 LowL.nil)) .nil) t1
  ·refine Qm0 (fun r:Int=>I r) (fun _=>[(0,AObj.row 9 1 [[Sg user]])]) (leaf:=y1.share) (foll hR (cf h4 rfl)) ?_;exact tt [0] (tO rfl (ts (l1 LowL.nil)) .nil) t1
 have hof1:AMoves Tryz.prog 306 [QU1 l,AVal.fn (.func 307) [] [AVal.ptr 0 0 1 0 0]] [(0,AObj.row 9 1 [[Sg user]])] 1 (I (Q24 l (fun (y:Usage)=>(bif (!(ByteArray.toList y.user==ByteArray.toList user)) then 0 else y.share)))) [(0,AObj.row 9 1 [[Sg user]])]:=by
  have hR:Q24 l (fun (y:Usage)=>(bif (!(ByteArray.toList y.user==ByteArray.toList user)) then 0 else y.share))=Q24 l (fun (y:Usage)=>(bif (!(ByteArray.toList y.user==ByteArray.toList user)) then 0 else y.share)):=rfl;refine mo (kp 8 [10,11,12,13,14]) Tryz.func306 ?_;refine us (Q9a l szA _) ?_;refine ai (fun h5=>?_) (fun h6=>?_)
  ·refine Qm0 (fun r:Int=>I r) (fun r:Int=>[(0,AObj.row 9 1 [[Sg user]])]) (leaf:=0) (foll hR (ct h5 rfl)) ?_;exact tt [0] (tO rfl (ts (l1 LowL.nil)) .nil) t1
  ·refine Qh0 (fun (n:Int) (i:Nat)=>QC3 (Q36 (fun (y:Usage)=>(bif (!(ByteArray.toList y.user==ByteArray.toList user)) then 0 else y.share)) (List.drop i l) n i)=Q24 l (fun (y:Usage)=>(bif (!(ByteArray.toList y.user==ByteArray.toList user)) then 0 else y.share))∧i<=l.length) (fun n i=>l.length - i) (fun n i=>[(1,AVal.fn (.func 307) [] [AVal.ptr 0 0 1 0 0]),(4,I 0),(5,I n),(11,QU1 l),(12,I (l.length:Int)),(13,I (i:Int))]) (fun n i=>[(0,AObj.row 9 1 [[Sg user]])]) 0 0 (wk [0] (tO rfl (ts (l1 LowL.nil)) .nil) (sv (QH0 .nil (cv (Q10 0 rfl rfl) .nil)) (s1 (s1 (sl lw (s1 (s1 .nil))))))) ⟨foll hR (cf h6 rfl),by exact omA⟩ ?_;clear hR;rintro n i ⟨hR,hj⟩;(try dsimp only at hR hj);refine ai (fun h7=>?_) (fun h8=>?_)
   ·have hlt:=ltA h7;rw [Q90 Usage.zero hlt] at hR;have hxz:(l.getD i Usage.zero).sz:=Qy0 (by first|assumption|grind) (Usage.szz _);have hkz:=hxz;obtain ⟨z9,z10⟩:=Usage.zz hxz;refine ai gkA ?_;refine us (mv [0] (cl1 (l.getD i Usage.zero) szA) (dO (ds (l1 LowL.nil)) .nil) (dl (Usage.low _ _) (dp .nil)) (rO (re (l1 LowL.nil)) .nil) rx) ?_;refine Or.inl ?_;refine us (AGives.as2 (sat_Plus_c ([n,((fun (y:Usage)=>(bif (!(ByteArray.toList y.user==ByteArray.toList user)) then 0 else y.share)) (l.getD i Usage.zero))]:List Int) szA _) (av (Qf4 (c:=(fun q_=>[I q_])) (d:=0) ([n,((fun (y:Usage)=>(bif (!(ByteArray.toList y.user==ByteArray.toList user)) then 0 else y.share)) (l.getD i Usage.zero))]:List Int) rfl) .nil)) ?_;exact Q60 (Q3d ([n,((fun (y:Usage)=>(bif (!(ByteArray.toList y.user==ByteArray.toList user)) then 0 else y.share)) (l.getD i Usage.zero))]:List Int)) (i+1) (wk [0] (tO rfl (ts (l1 LowL.nil)) .nil) (sv (QH0 .nil (cv (Q10 0 rfl rfl) .nil)) (s1 (s1 (sl lw (s1 (sv (Q80 (I_eq (wr omA)) lx) .nil))))))) omA ⟨foll hR (congrArg (fun p:Int=>QC3 p) rfl),by exact omA⟩
   ·rw [Qf0 (l:=l) (j:=i) (geA h8)] at hR;replace hR:QC3 n=Q24 l (fun (y:Usage)=>(bif (!(ByteArray.toList y.user==ByteArray.toList user)) then 0 else y.share)):=fo2 (fun p:Int=>QC3 p) (n) hR rfl;refine Qm0 (fun r:Int=>I r) (fun r:Int=>[(0,AObj.row 9 1 [[Sg user]])]) (leaf:=n) (foll hR rfl) ?_;exact tt [0] (tO rfl (ts (l1 LowL.nil)) .nil) t1
 refine us (mv [0] (hof1) (dO (ds (l1 LowL.nil)) .nil) (dl lw (dv (dn_fn .nil (dp .nil)) .nil)) (rO (re (l1 LowL.nil)) .nil) rx) ?_;obtain rfl:=foll hR rfl;exact Q00 lx sr
def Q23 (l:List Int) (at_:Int) (i:Bool):Token × Int × Int × Int:=bif i then ((⟨5,(runesBytes (List.drop (Int.toNat at_) (List.take (Int.toNat (w64 (at_+1))) l))),0,at_⟩:Token),(w64 (at_+1)),0,0) else (Token.zero,0,at_,50)
def QZ0 (l:List Int) (at_:Int):Token × Int × Int × Int:=bif ((Qe0 (l.getD (Int.toNat at_) 0))==0) then (Token.zero,0,at_,40) else bif ((Qe0 (l.getD (Int.toNat at_) 0))==2) then ((⟨1,(Qw2 (runesBytes (List.drop (Int.toNat at_) (List.take (Int.toNat (Qk1 l at_)) l)))),0,at_⟩:Token),(Qk1 l at_),0,0) else bif ((Qe0 (l.getD (Int.toNat at_) 0))==3) then bif (Qwa (List.drop (Int.toNat at_) (List.take (Int.toNat (Qk1 l at_)) l))) then ((⟨3,(runesBytes (List.drop (Int.toNat at_) (List.take (Int.toNat (Qk1 l at_)) l))),0,at_⟩:Token),(Qk1 l at_),0,0) else bif (decide ((QW7 (List.drop (Int.toNat at_) (List.take (Int.toNat (Qk1 l at_)) l)))<0)) then (Token.zero,0,at_,50) else ((⟨2,⟨#[]⟩,(QW7 (List.drop (Int.toNat at_) (List.take (Int.toNat (Qk1 l at_)) l))),at_⟩:Token),(Qk1 l at_),0,0) else bif ((l.getD (Int.toNat at_) 0)==34) then ((Qb3 l at_).1,(Qb3 l at_).2.1,(Qb3 l at_).2.2.1,(Qb3 l at_).2.2.2) else bif ((l.getD (Int.toNat at_) 0)==61) then Q23 l at_ ((l.getD (Int.toNat at_) 0)==61) else bif ((l.getD (Int.toNat at_) 0)==58) then Q23 l at_ ((l.getD (Int.toNat at_) 0)==58) else bif ((l.getD (Int.toNat at_) 0)==44) then Q23 l at_ ((l.getD (Int.toNat at_) 0)==44) else Q23 l at_ ((l.getD (Int.toNat at_) 0)==45)
theorem ref05_one_c (l:List Int) (at_:Int) (hs0:l.length<=4294967296) (hp0:0<=at_∧at_<(l.length:Int)∧l.length<=400):GV 350 [runes l,I at_] (AVal.tup [Token.a ((QZ0 l at_).1),I ((QZ0 l at_).2.1),I ((QZ0 l at_).2.2.1),I ((QZ0 l at_).2.2.2)]):=by
 generalize hR:QZ0 l at_=R;refine ga (.cons lw (l1 .nil)) (Low.tup' (.cons (Token.low _ _) (l1 (l1 (l1 .nil))))) (kj [1000028] 11 [17,18,22,37,46,65,73,74,83]) Tryz.func350 ?_;have hk0:=hs0;obtain z21:l.length<=4294967296:=hs0;have hw0:w64 (at_+1)=at_+1:=wr (by omega);have hf0:=Qwc l at_ hp0.1 hp0.2.1 hp0.2.2;refine ai gkA ?_;refine us (Qk4 (l.getD (Int.toNat at_) 0) _) ?_;refine ai (fun h1=>?_) (fun h2=>?_)
 ·obtain rfl:=foll hR (ct h1 rfl);exact Q00 (Low.tup' (.cons (Token.low _ _) (l1 (l1 (l1 .nil))))) (Seen.tup (e1 (e1 (e1 (e1 .nil)))))
 ·refine ai (fun h3=>?_) (fun h4=>?_)
  ·refine us (Q9e l at_ szA ckA _) ?_;refine ai gkA ?_;(first|refine ⟨(List.drop (Int.toNat at_) (List.take (Int.toNat (Qk1 l at_)) l)),by exact cvA,?_⟩|refine ⟨_,fun _=>⟨(List.drop (Int.toNat at_) (List.take (Int.toNat (Qk1 l at_)) l)),by exact cvA,rfl,rfl⟩,?_⟩|refine ⟨_,rfl,⟨(List.drop (Int.toNat at_) (List.take (Int.toNat (Qk1 l at_)) l)),by exact cvA,Sub.refl _,rfl⟩,?_⟩);refine us (ref04_Lower_c (runesBytes (List.drop (Int.toNat at_) (List.take (Int.toNat (Qk1 l at_)) l))) szA _) ?_;obtain rfl:=foll hR (cf h2 (ct h3 rfl));exact Q00 (Low.tup' (.cons (Token.low _ _) (l1 (l1 (l1 .nil))))) (Seen.tup (e1 (e1 (e1 (e1 .nil)))))
  ·refine ai (fun h5=>?_) (fun h6=>?_)
   ·refine us (Q9e l at_ szA ckA _) ?_;refine ai gkA ?_;refine us (AGives.as2 (ref05_plain_c (List.drop (Int.toNat at_) (List.take (Int.toNat (Qk1 l at_)) l)) szA _) (av (as_cut l (Int.toNat at_) (Int.toNat (Qk1 l at_)) leA ckA) .nil)) ?_;refine ai (fun h7=>?_) (fun h8=>?_)
    ·refine ai gkA ?_;(first|refine ⟨(List.drop (Int.toNat at_) (List.take (Int.toNat (Qk1 l at_)) l)),by exact cvA,?_⟩|refine ⟨_,fun _=>⟨(List.drop (Int.toNat at_) (List.take (Int.toNat (Qk1 l at_)) l)),by exact cvA,rfl,rfl⟩,?_⟩|refine ⟨_,rfl,⟨(List.drop (Int.toNat at_) (List.take (Int.toNat (Qk1 l at_)) l)),by exact cvA,Sub.refl _,rfl⟩,?_⟩);obtain rfl:=foll hR (cf h2 (cf h4 (ct h5 (ct h7 rfl))));exact Q00 (Low.tup' (.cons (Token.low _ _) (l1 (l1 (l1 .nil))))) (Seen.tup (e1 (e1 (e1 (e1 .nil)))))
    ·refine ai gkA ?_;refine us (AGives.as2 (ref05_Number_c (List.drop (Int.toNat at_) (List.take (Int.toNat (Qk1 l at_)) l)) szA _) (av (as_cut l (Int.toNat at_) (Int.toNat (Qk1 l at_)) leA ckA) .nil)) ?_;refine ai (fun h9=>?_) (fun h10=>?_)
     ·have qh9:=of_decide_eq_true h9;obtain rfl:=foll hR (cf h2 (cf h4 (ct h5 (cf h8 (ct h9 rfl)))));exact Q00 (Low.tup' (.cons (Token.low _ _) (l1 (l1 (l1 .nil))))) (Seen.tup (e1 (e1 (e1 (e1 .nil)))))
     ·have qh10:=of_decide_eq_false h10;obtain rfl:=foll hR (cf h2 (cf h4 (ct h5 (cf h8 (cf h10 rfl)))));exact Q00 (Low.tup' (.cons (Token.low _ _) (l1 (l1 (l1 .nil))))) (Seen.tup (e1 (e1 (e1 (e1 .nil)))))
   ·refine ai gkA ?_;refine ai (fun h11=>?_) (fun h12=>?_)
    ·refine us (ref05_text_c l at_ szA ckA _) ?_;obtain rfl:=foll hR (cf h2 (cf h4 (cf h6 (ct h11 rfl))));exact Q00 (Low.tup' (.cons (Token.low _ _) (l1 (l1 (l1 .nil))))) (Seen.tup (e1 (e1 (e1 (e1 .nil)))))
    ·refine QY0 (fun (i:Bool)=>Q23 l at_ i=R) (fun i=>[(0,runes l),(1,I at_),(4,AVal.ptr 0 0 4 0 0),(5,I 0),(6,I 0),(7,I 0),(8,AVal.ptr 1 0 4 0 0),(83,Bo i)]) (fun i=>[(0,AObj.row 309 4 [[I 0,Sg ⟨#[]⟩,I 0,I 0]]),(0,AObj.row 309 4 [[I 0,Sg ⟨#[]⟩,I 0,I at_]])]) ?_ ?_
     ·clear hR;rintro i hR;(try dsimp only at hR);refine ai (fun h13=>?_) (fun h14=>?_)
      ·refine ai gkA ?_;(first|refine ⟨(List.drop (Int.toNat at_) (List.take (Int.toNat (w64 (at_+1))) l)),by exact cvA,?_⟩|refine ⟨_,fun _=>⟨(List.drop (Int.toNat at_) (List.take (Int.toNat (w64 (at_+1))) l)),by exact cvA,rfl,rfl⟩,?_⟩|refine ⟨_,rfl,⟨(List.drop (Int.toNat at_) (List.take (Int.toNat (w64 (at_+1))) l)),by exact cvA,Sub.refl _,rfl⟩,?_⟩);obtain rfl:=foll hR (ct h13 rfl);exact Q00 (Low.tup' (.cons (Token.low _ _) (l1 (l1 (l1 .nil))))) (Seen.tup (e1 (e1 (e1 (e1 .nil)))))
      ·obtain rfl:=foll hR (cf h14 rfl);exact Q00 (Low.tup' (.cons (Token.low _ _) (l1 (l1 (l1 .nil))))) (Seen.tup (e1 (e1 (e1 (e1 .nil)))))
     ·refine ai (fun h15=>?_) (fun h16=>?_)
      ·exact Q70 ((l.getD (Int.toNat at_) 0)==61) (wk [0,1] (tO rfl (ts Token.lo) (tO rfl (ts Token.lo) .nil)) (sl lw (s1 (sv (Q10 0 rfl rfl) (s1 (s1 (s1 (sv (Q10 1 rfl rfl) (s1 .nil))))))))) (foll hR (cf h2 (cf h4 (cf h6 (cf h12 (ct h15 rfl))))))
      ·refine ai (fun h17=>?_) (fun h18=>?_)
       ·exact Q70 ((l.getD (Int.toNat at_) 0)==58) (wk [0,1] (tO rfl (ts Token.lo) (tO rfl (ts Token.lo) .nil)) (sl lw (s1 (sv (Q10 0 rfl rfl) (s1 (s1 (s1 (sv (Q10 1 rfl rfl) (s1 .nil))))))))) (foll hR (cf h2 (cf h4 (cf h6 (cf h12 (cf h16 (ct h17 rfl)))))))
       ·refine ai (fun h19=>?_) (fun h20=>?_)
        ·exact Q70 ((l.getD (Int.toNat at_) 0)==44) (wk [0,1] (tO rfl (ts Token.lo) (tO rfl (ts Token.lo) .nil)) (sl lw (s1 (sv (Q10 0 rfl rfl) (s1 (s1 (s1 (sv (Q10 1 rfl rfl) (s1 .nil))))))))) (foll hR (cf h2 (cf h4 (cf h6 (cf h12 (cf h16 (cf h18 (ct h19 rfl))))))))
        ·exact Q70 ((l.getD (Int.toNat at_) 0)==45) (wk [0,1] (tO rfl (ts Token.lo) (tO rfl (ts Token.lo) .nil)) (sl lw (s1 (sv (Q10 0 rfl rfl) (s1 (s1 (s1 (sv (Q10 1 rfl rfl) (s1 .nil))))))))) (foll hR (cf h2 (cf h4 (cf h6 (cf h12 (cf h16 (cf h18 (cf h20 rfl))))))))
theorem Qbe (l:List Int) (at_:Int) (b:Bool) (h0:0<=at_) (h1:at_<(l.length:Int)) (h:l.length<=400):((Q23 l at_ b).2.2.2 != 0)=false->at_<(Q23 l at_ b).2.1∧(Q23 l at_ b).2.1<=(l.length:Int):=by
 have hw:w64 (at_+1)=at_+1:=wr (by omega)
 cases b with
 | false=>intro h;cases h
 | true=>intro _;simp only [Q23,cond_true];rw [hw];omega
theorem ref05_one_lt (l:List Int) (at_:Int) (h0:0<=at_) (h1:at_<(l.length:Int)) (h:l.length<=400):((QZ0 l at_).2.2.2 != 0)=false->at_<(QZ0 l at_).2.1∧(QZ0 l at_).2.1<=(l.length:Int):=by
 have he:=Qwc l at_ h0 h1 h
 have hk:=fun b=>Qbe l at_ b h0 h1 h
 have ht:=ref05_text_lt l at_ h0 h1 h
 unfold QZ0
 repeat' first
  | exact hk _
  | exact ht
  | exact fun _=>he
  | (intro h;cases h;done)
  | (rw [Bool.cond_eq_ite];split)
def QX1 :List Book->List Step->Nat->(List Step) × Nat
 | [],p_,i=>(p_,i)
 | x_ :: r,p_,i=>QX1 r (QN1 p_ x_.from_ x_.to x_.nodes) (i+1)
def Qg5 (x_1:Job):List Int->Bool->Nat->Bool × Nat
 | [],out,k=>(out,k)
 | x_2 :: r,out,k=>Qg5 x_1 r (out||(x_2==x_1.id)) (k+1)
def QJ0 (except:List Int):List Job->List Step->Nat->(List Step) × Nat
 | [],p_1,i1=>(p_1,i1)
 | x_1 :: r,p_1,i1=>(fun p1:Bool × Nat=>bif ((Q20 x_1).2.2.2&&(!p1.1)) then QJ0 except r (QN1 p_1 ((Q20 x_1).1) (w64 ((Q20 x_1).1+(Q20 x_1).2.1)) ((Q20 x_1).2.2.1)) (i1+1) else QJ0 except r p_1 (i1+1)) (Qg5 x_1 except false 0)
def Qg2 (p_1:List Step) (i1:Nat):(List Step):=p_1
def Qb6 (s:State) (except:List Int) (p_:List Step) (i:Nat):(List Step):=Qg2 ((QJ0 except s.jobs p_ 0).1) ((QJ0 except s.jobs p_ 0).2)
def Qi1 (s:State) (except:List Int):(List Step):=Qb6 s except ((QX1 s.books (Q74 s) 0).1) ((QX1 s.books (Q74 s) 0).2)
theorem b5a0 {P:Prop} (h:P:=by first|(((try dsimp only);exact Q46 (by assumption)))|first|(((try dsimp only);exact Q46 hx))|first|(exact QB9 _)|first|(exact Qs9 _)|exact szA):P:=h
theorem b5a1 {P:Prop} (h:P:=by first|(((try dsimp only);exact Q46 (by assumption)))|first|(((try dsimp only);exact Q46 hx))|first|(exact QB9 _)|first|(exact Qs9 _)|exact exA):P:=h
theorem Qz9 (s:State) (except:List Int) (hs0:s.sz) (hs1:except.length<=4294967296) (hp0:∀ y ∈ s.jobs,((y.state != 1)||(y.promise==(-1)))=false->0<=y.choice∧y.choice<((Q50 y.shape).length:Int)):GV 56 [State.a s,ints except] (stepL (Qi1 s except)):=by
 generalize hR:Qi1 s except=R;refine ga (.cons (State.low _ _) (.cons lw .nil)) lw (kp 14 [20,47,53,85]) Tryz.func56 ?_;have hk0:=hs0;obtain ⟨z14,z15,z16,z17,z18,z19,z20⟩:=hs0;have hk1:=hs1;obtain z21:except.length<=4294967296:=hs1;refine us (ref20_busy_c s b5a0 _) ?_;refine Qh0 (fun (p_:List Step) (i:Nat)=>Qb6 s except (QX1 (List.drop i s.books) p_ i).1 (QX1 (List.drop i s.books) p_ i).2=R∧i<=s.books.length∧p_.length<=4294967296) (fun p_ i=>s.books.length - i) (fun p_ i=>[(1,ints except),(2,AVal.ptr 0 0 8 0 0),(4,AVal.lit (.slice none 0 0)),(5,stepL p_),(6,I (i:Int))]) (fun p_ i=>[(0,AObj.row 28 8 [[I s.now,nodeL s.nodes,jobL s.jobs,Q02 s.resizes,bookL s.books,QU1 s.ledger,I s.nextJob,I s.nextBook]])]) (Q74 s) 0 (wk [0] (tO rfl (ts State.lo) .nil) (sl lw (sv (Q10 0 rfl rfl) (s1 (sl lw (s1 .nil)))))) ⟨foll hR rfl,by exact omA,b5a1⟩ ?_;clear hR;rintro p_ i ⟨hR,hj,hx⟩;(try dsimp only at hR hj hx);refine ai (fun h1=>?_) (fun h2=>?_)
 ·have hlt:=ltA h1;rw [Q90 Book.zero hlt] at hR;refine dchk (by kernel_rfl) ?_;refine ai gkA ?_;refine ai gkA ?_;refine ai gkA ?_;(first|apply u2|apply u3|apply u4|apply us);exact Q08 p_ ((s.books.getD i Book.zero).from_) ((s.books.getD i Book.zero).to) ((s.books.getD i Book.zero).nodes) b5a0 _;(repeat ((first|refine ai rfl ?_|refine ai (fun _=>rfl) ?_|refine ai (fun _=>Q08 p_ ((s.books.getD i Book.zero).from_) ((s.books.getD i Book.zero).to) ((s.books.getD i Book.zero).nodes) b5a0 _) ?_)));exact Q60 (QN1 p_ (s.books.getD i Book.zero).from_ (s.books.getD i Book.zero).to (s.books.getD i Book.zero).nodes) (i+1) (wk [0] (tO rfl (ts State.lo) .nil) (sl lw (sv (Q10 0 rfl rfl) (s1 (sl lw (sv (Q80 (I_eq (wr omA)) lx) .nil)))))) omA ⟨foll hR (congrArg (fun p:(List Step) × Nat=>Qb6 s except p.1 p.2) rfl),by exact omA,b5a1⟩
 ·rw [Qf0 (l:=s.books) (j:=i) (geA h2)] at hR;replace hR:Qb6 s except p_ i=R:=fo2 (fun p:(List Step) × Nat=>Qb6 s except p.1 p.2) (p_,i) hR rfl;refine Qh0 (fun (p_1:List Step) (i1:Nat)=>Qg2 (QJ0 except (List.drop i1 s.jobs) p_1 i1).1 (QJ0 except (List.drop i1 s.jobs) p_1 i1).2=R∧i1<=s.jobs.length∧p_1.length<=4294967296) (fun p_1 i1=>s.jobs.length - i1) (fun p_1 i1=>[(1,ints except),(2,AVal.ptr 0 0 8 0 0),(4,AVal.lit (.slice none 0 0)),(5,stepL p_1),(7,I (i1:Int))]) (fun p_1 i1=>[(0,AObj.row 28 8 [[I s.now,nodeL s.nodes,jobL s.jobs,Q02 s.resizes,bookL s.books,QU1 s.ledger,I s.nextJob,I s.nextBook]])]) p_ 0 (wk [0] (tO rfl (ts State.lo) .nil) (sl lw (sv (Q10 0 rfl rfl) (s1 (sl lw (s1 .nil)))))) ⟨foll hR rfl,by exact omA,b5a1⟩ ?_;clear hR;rintro p_1 i1 ⟨hR,hj,hx⟩;(try dsimp only at hR hj hx);refine ai (fun h3=>?_) (fun h4=>?_)
  ·have hlt:=ltA h3;rw [Q90 Job.zero hlt] at hR;have hxz:(s.jobs.getD i1 Job.zero).sz:=Qy0 (by first|assumption|grind) (Job.szz _);have hkz:=hxz;obtain ⟨z5,z6,z7,z8,z9⟩:=Job.zz hxz;refine Qh0 (fun (out:Bool) (k:Nat)=>(fun z=>(fun p:(List Step) × Nat=>Qg2 p.1 p.2) ((fun p1:Bool × Nat=>bif ((Q20 (s.jobs.getD i1 Job.zero)).2.2.2&&(!p1.1)) then QJ0 except (List.drop (i1+1) s.jobs) (QN1 p_1 ((Q20 (s.jobs.getD i1 Job.zero)).1) (w64 ((Q20 (s.jobs.getD i1 Job.zero)).1+(Q20 (s.jobs.getD i1 Job.zero)).2.1)) ((Q20 (s.jobs.getD i1 Job.zero)).2.2.1)) (i1+1) else QJ0 except (List.drop (i1+1) s.jobs) p_1 (i1+1)) z)) (Qg5 (s.jobs.getD i1 Job.zero) (List.drop k except) out k)=R∧k<=except.length) (fun out k=>except.length - k) (fun out k=>[(1,ints except),(2,AVal.ptr 0 0 8 0 0),(4,AVal.lit (.slice none 0 0)),(5,stepL p_1),(7,I (i1:Int)),(8,Bo out),(9,I (k:Int)),(47,Bo (decide ((i1:Int)<(s.jobs.length:Int))))]) (fun out k=>[(0,AObj.row 28 8 [[I s.now,nodeL s.nodes,jobL s.jobs,Q02 s.resizes,bookL s.books,QU1 s.ledger,I s.nextJob,I s.nextBook]])]) false 0 (wk [0] (tO rfl (ts State.lo) .nil) (sl lw (sv (Q10 0 rfl rfl) (s1 (sl lw (s1 (s1 (s1 (s1 .nil))))))))) ⟨foll hR (congrArg (fun p:(List Step) × Nat=>Qg2 p.1 p.2) rfl),by exact omA⟩ ?_;clear hR;rintro out k ⟨hR,hj⟩;(try dsimp only at hR hj);refine ai (fun h10=>?_) (fun h11=>?_)
   ·have hlt:=ltA h10;rw [Q90 0 hlt] at hR;refine dchk (by kernel_rfl) ?_;refine ai gkA ?_;refine ai gkA ?_;(repeat ((first|refine ai rfl ?_|refine ai (fun _=>rfl) ?_)));exact Q60 (out||((except.getD k 0)==(s.jobs.getD i1 Job.zero).id)) (k+1) (wk [0] (tO rfl (ts State.lo) .nil) (sl lw (sv (Q10 0 rfl rfl) (s1 (sl lw (s1 (s1 (sv (Q80 (I_eq (wr omA)) lx) (s1 .nil))))))))) omA ⟨foll hR (congrArg (fun z=>(fun p:(List Step) × Nat=>Qg2 p.1 p.2) ((fun p1:Bool × Nat=>bif ((Q20 (s.jobs.getD i1 Job.zero)).2.2.2&&(!p1.1)) then QJ0 except (List.drop (i1+1) s.jobs) (QN1 p_1 ((Q20 (s.jobs.getD i1 Job.zero)).1) (w64 ((Q20 (s.jobs.getD i1 Job.zero)).1+(Q20 (s.jobs.getD i1 Job.zero)).2.1)) ((Q20 (s.jobs.getD i1 Job.zero)).2.2.1)) (i1+1) else QJ0 except (List.drop (i1+1) s.jobs) p_1 (i1+1)) z)) rfl),by exact omA⟩
   ·rw [Qf0 (l:=except) (j:=k) (geA h11)] at hR;replace hR:(fun z=>(fun p:(List Step) × Nat=>Qg2 p.1 p.2) ((fun p1:Bool × Nat=>bif ((Q20 (s.jobs.getD i1 Job.zero)).2.2.2&&(!p1.1)) then QJ0 except (List.drop (i1+1) s.jobs) (QN1 p_1 ((Q20 (s.jobs.getD i1 Job.zero)).1) (w64 ((Q20 (s.jobs.getD i1 Job.zero)).1+(Q20 (s.jobs.getD i1 Job.zero)).2.1)) ((Q20 (s.jobs.getD i1 Job.zero)).2.2.1)) (i1+1) else QJ0 except (List.drop (i1+1) s.jobs) p_1 (i1+1)) z)) (out,k)=R:=foll hR (congrArg (fun z=>(fun p:(List Step) × Nat=>Qg2 p.1 p.2) ((fun p1:Bool × Nat=>bif ((Q20 (s.jobs.getD i1 Job.zero)).2.2.2&&(!p1.1)) then QJ0 except (List.drop (i1+1) s.jobs) (QN1 p_1 ((Q20 (s.jobs.getD i1 Job.zero)).1) (w64 ((Q20 (s.jobs.getD i1 Job.zero)).1+(Q20 (s.jobs.getD i1 Job.zero)).2.1)) ((Q20 (s.jobs.getD i1 Job.zero)).2.2.1)) (i1+1) else QJ0 except (List.drop (i1+1) s.jobs) p_1 (i1+1)) z)) rfl);refine ai gkA ?_;refine us (Qy9 (s.jobs.getD i1 Job.zero) b5a0 (by exact hp0 _ (by rw [List.getD_eq_getElem?_getD,List.getElem?_eq_getElem (by assumption)];exact List.getElem_mem (by assumption))) _) ?_;refine ai (fun h12=>?_) (fun h13=>?_)
    ·refine us (Q08 p_1 ((Q20 (s.jobs.getD i1 Job.zero)).1) (w64 ((Q20 (s.jobs.getD i1 Job.zero)).1+(Q20 (s.jobs.getD i1 Job.zero)).2.1)) ((Q20 (s.jobs.getD i1 Job.zero)).2.2.1) b5a0 _) ?_;exact Q60 (QN1 p_1 ((Q20 (s.jobs.getD i1 Job.zero)).1) (w64 ((Q20 (s.jobs.getD i1 Job.zero)).1+(Q20 (s.jobs.getD i1 Job.zero)).2.1)) ((Q20 (s.jobs.getD i1 Job.zero)).2.2.1)) (i1+1) (wk [0] (tO rfl (ts State.lo) .nil) (sl lw (sv (Q10 0 rfl rfl) (s1 (sl lw (sv (Q80 (I_eq (wr omA)) lx) .nil)))))) omA ⟨foll hR (congrArg (fun p:(List Step) × Nat=>Qg2 p.1 p.2) (ct h12 rfl)),by exact omA,b5a1⟩
    ·exact Q60 p_1 (i1+1) (wk [0] (tO rfl (ts State.lo) .nil) (sl lw (sv (Q10 0 rfl rfl) (s1 (sl lw (sv (Q80 (I_eq (wr omA)) lx) .nil)))))) omA ⟨foll hR (congrArg (fun p:(List Step) × Nat=>Qg2 p.1 p.2) (cf h13 rfl)),by exact omA,b5a1⟩
  ·rw [Qf0 (l:=s.jobs) (j:=i1) (geA h4)] at hR;replace hR:Qg2 p_1 i1=R:=fo2 (fun p:(List Step) × Nat=>Qg2 p.1 p.2) (p_1,i1) hR rfl;obtain rfl:=foll hR rfl;exact Q00 lw sr
theorem Qda (s:State) (ex:List Int):(Qi1 s ex).length<=4294967296:=by
 have g1:∀ (l:List Book) (p:List Step) (i:Nat),p.length<=4294967296->(QX1 l p i).1.length<=4294967296:=by
  intro l
  induction l with
  | nil=>intro p i h;exact h
  | cons x r ih=>intro p i h;rw [QX1];exact ih _ _ (Q46 h)
 have g2:∀ (l:List Job) (p:List Step) (i:Nat),p.length<=4294967296->(QJ0 ex l p i).1.length<=4294967296:=by
  intro l
  induction l with
  | nil=>intro p i h;exact h
  | cons x r ih =>
   intro p i h
   rw [QJ0]
   dsimp only
   repeat' first|exact ih _ _ h|exact ih _ _ (Q46 h)|(rw [Bool.cond_eq_ite];split)
 exact g2 _ _ _ (g1 _ _ _ (Qs9 s))
end Go.Proofs.YtcbolcknapeneaaGreatDoor
namespace Go.Proofs.YtcbolcknapeneaaGreatDoor
set_option linter.unusedSimpArgs false
set_option linter.unusedVariables false
open Go.Fw
set_option maxRecDepth 20000
set_option maxHeartbeats 4000000
attribute [local irreducible] ACalls AMoves
def Qj0 (y:Int):List Int->Nat->Bool
 | [],_=>false
 | x_1 :: r,i=>bif ((Q11 y)==x_1) then true else Qj0 y r (i+1)
def Q95 (line:ByteArray):List (Nat × Int)->LexReader->LexReader
 | [],c=>c
 | x_ :: r,c=>Q95 line r { c with line:=(c.line++([x_.2]:List Int)) }
def QI1 :Nat->List Token->LexReader->(List Token) × Int × Int
 | 0,_,_=>([],0,0)
 | m+1,out,c2=>bif (c2.error==0) then bif ((Q40 c2 (fun (y:Int)=>Qj0 y ([1]:List Int) 0)).2.at_==(((Q40 c2 (fun (y:Int)=>Qj0 y ([1]:List Int) 0)).2.line).length:Int)) then (out,(((Q40 c2 (fun (y:Int)=>Qj0 y ([1]:List Int) 0)).2.line).length:Int),0) else QI1 m (out++([{ (Qb0 ((Q40 c2 (fun (y:Int)=>Qj0 y ([1]:List Int) 0)).2)).1 with at_:=(Q40 c2 (fun (y:Int)=>Qj0 y ([1]:List Int) 0)).2.at_ }]:List Token)) ((Qb0 ((Q40 c2 (fun (y:Int)=>Qj0 y ([1]:List Int) 0)).2)).2) else ([],c2.bad,c2.error)
def Qa5 (c:LexReader):(List Token) × Int × Int:=QI1 ((2*Int.toNat ((c.line.length:Int) - c.at_)+(bif c.error==0 then 1 else 0))+1) [] c
def Q41 (line:ByteArray):(List Token) × Int × Int:=bif (decide ((ByteArray.size line:Int) > 400)) then ([],0,3) else Qa5 (Q95 line (QI6 line) LexReader.zero)
theorem b6a1 {P:Prop} (h:P:=by first|(have hq:=hrd _ (by assumption);exact ⟨hq.2.1.1,hq.2.1.2.1,hq.2.1.2.2,fun hz=>by have hq3:=hq.2.2.2 hz;simp only [List.length_append,List.length_cons,List.length_nil];omega⟩)|first|(refine ⟨by omega,by omega,by omega,fun _=>by simp;omega⟩)|first|(simp [LexReader.zero];done)|first|(simp;omega)|exact exA):P:=h
theorem lex_Tokens_c (line:ByteArray) (hs0:line.size<=4294967296):GV 340 [Sg line] (AVal.tup [tokenL ((Q41 line).1),I ((Q41 line).2.1),I ((Q41 line).2.2)]):=by
 generalize hR:Q41 line=R;refine ga (l1 .nil) (Low.tup' (.cons lw (l1 (l1 .nil)))) (kp 12 [14,18,19,20,38,51]) Tryz.func340 ?_;have hk0:=hs0;obtain z15:line.size<=4294967296:=hs0;refine ai (fun h1=>?_) (fun h2=>?_)
 ·have qh1:=of_decide_eq_true h1;obtain rfl:=foll hR (ct h1 rfl);exact Q00 (Low.tup' (.cons lw (l1 (l1 .nil)))) (Seen.tup (ev (Qs0) (e1 (e1 .nil))))
 ·have qh2:=of_decide_eq_false h2;refine Qh0 (fun (c:LexReader) (pos:Nat)=>∃ m,ByteArray.size line - pos<=m∧Qa5 (Q95 line (QZ3 line m pos) c)=R∧c.line.length<=pos∧pos<=ByteArray.size line∧c.at_=0) (fun c pos=>ByteArray.size line - pos) (fun c pos=>[(2,AVal.lit (.slice none 0 0)),(3,I 0),(4,I 0),(5,AVal.ptr 0 0 4 0 0),(18,AVal.ptr 1 0 1 0 0)]) (fun c pos=>[(0,AObj.row 364 4 [[AVal.own 2 0 1 0 c.line.length,I c.at_,I c.bad,I c.error]]),(0,AObj.other (.strIter line pos)),(0,AObj.row 21 1 (c.line.map (fun q_=>[J q_])))]) LexReader.zero 0 ((QD1 21 1).trans (wk [0,1,2] (tO rfl (Qd0 (cv (Qj1 2 rfl) (c1 (c1 (c1 .nil))))) (tO rfl (.strIter _ _) (tO rfl (tl eqA) .nil))) (s1 (s1 (s1 (sv (Q10 0 rfl rfl) (sv (Q10 1 rfl rfl) .nil))))))) ⟨ByteArray.size line,by first|(have hq:=hrd _ (by assumption);omega)|exact omA,foll hR (cf h2 rfl),b6a1⟩ ?_;clear hR;rintro c pos ⟨m,hm,hR,hx⟩;(try dsimp only at hR hm hx);refine ai (fun h3=>?_) (fun h4=>?_)
  ·have hlt:=of_decide_eq_true h3;have hw:=Qf7 line pos;have hwe:=Qe7 line pos hlt;obtain ⟨m,rfl⟩:=sucA m;rw [QT2 h3] at hR;refine ai (fun _=>?_) (fun h=>nomatch h);refine Or.inl ?_;(first|refine ⟨Qa2 4 rfl lnA apA,?_⟩|refine ⟨Qd1 4 rfl apA,?_⟩);exact Q60 { c with line:=(c.line++([(pos,((Utf8.decode line pos).1:Int)).2]:List Int)) } (pos+(Utf8.decode line pos).2) (wk [0,1,2] (tO rfl (Qd0 (cv (to 2 lnA) (c1 (c1 (c1 .nil))))) (tO rfl (.strIter _ _) (tO rfl (tl eqA) .nil))) (s1 (s1 (s1 (sv (Q10 0 rfl rfl) (sv (Q10 1 rfl rfl) .nil)))))) (by first|(have hq:=hrd _ (by assumption);omega)|exact omA) ⟨m,by first|(have hq:=hrd _ (by assumption);omega)|exact omA,foll hR (congrArg (fun p:LexReader=>Qa5 p) rfl),b6a1⟩
  ·rw [Q35 h4] at hR;refine ai (fun h=>nomatch h) (fun _=>?_);replace hR:Qa5 c=R:=fo2 (fun p:LexReader=>Qa5 p) (c) hR rfl;refine Or.inl ?_;refine ACalls.of_cwp (fun _=>true) Tryz.func362 rfl rfl ?_;refine ⟨_,_,Told.refl,?_⟩;refine Qh0 (fun (out:List Token) (c2:LexReader)=>∃ m,(2*Int.toNat ((c2.line.length:Int) - c2.at_)+(bif c2.error==0 then 1 else 0))<m∧QI1 m out c2=R∧0<=c2.at_∧c2.at_<=(c2.line.length:Int)∧c2.line.length<=400∧((c2.error==0)=true->(out.length:Int)<=c2.at_)) (fun out c2=>(2*Int.toNat ((c2.line.length:Int) - c2.at_)+(bif c2.error==0 then 1 else 0))) (fun out c2=>[(2,AVal.lit (.slice none 0 0)),(3,I 0),(4,I 0),(5,AVal.ptr 0 0 4 0 0),(8,AVal.fn (.func 376) [] [AVal.ptr 1 0 1 0 0]),(9,AVal.own 2 0 4 0 out.length)]) (fun out c2=>[(0,AObj.row 364 4 [[runes c2.line,I c2.at_,I c2.bad,I c2.error]]),(0,AObj.row 44 1 [[ints ([1]:List Int)]]),(0,AObj.row 309 4 (out.map Token.cells))]) [] c ((QD1 309 4).trans (wk [0,3,4] (tO rfl (Qd0 (cv (QX9 _ _ rfl (Nat.zero_le _) (by decide) eqA (fun _=>lowL1 rfl) lnA) (c1 (c1 (c1 .nil))))) (tO rfl (Qd0 (cv (turn_as (Qf4 (c:=(fun q_=>[I q_])) (d:=0) ([1]:List Int) rfl) lw) .nil)) (tO rfl (tl eqA) .nil))) (s1 (s1 (s1 (sv (Q10 0 rfl rfl) (sv (QH0 .nil (cv (Q10 1 rfl rfl) .nil)) (sv (Qj1 2 rfl) .nil)))))))) ⟨_,Nat.lt_succ_self _,foll hR rfl,b6a1⟩ ?_;clear hR;rintro out c2 ⟨m,hm,hR,hx⟩;(try dsimp only at hR hm hx);obtain ⟨m,rfl⟩:=sucA m;refine ai (fun h5=>?_) (fun h6=>?_)
   ·have hol:=hx.2.2.2 h5;have hrd:=fun (b:Int->Bool) (hn:((Q40 c2 b).2.at_==((Q40 c2 b).2.line.length:Int))=false)=>lex_round c2 _ b (by omega) (by omega) (by omega) h5 rfl hn;have cl1:∀ (y1:Int),AMoves Tryz.prog 376 [J y1,AVal.ptr 0 0 1 0 0] [(0,AObj.row 44 1 [[ints ([1]:List Int)]])] 1 (Bo ((fun (y:Int)=>Qj0 y ([1]:List Int) 0) y1)) [(0,AObj.row 44 1 [[ints ([1]:List Int)]])]:=by
     intro y1;have hR:(fun (y:Int)=>Qj0 y ([1]:List Int) 0) y1=(fun (y:Int)=>Qj0 y ([1]:List Int) 0) y1:=rfl;refine mo (kp 6 [6,7,8,9,15]) Tryz.func376 ?_;refine Qc0 (fun (i:Nat)=>Qj0 y1 (List.drop i ([1]:List Int)) i=(fun (y:Int)=>Qj0 y ([1]:List Int) 0) y1∧i<=([1]:List Int).length) (fun i=>([1]:List Int).length - i) (fun i=>[(0,J y1),(3,Bo false),(6,ints ([1]:List Int)),(7,I (([1]:List Int).length:Int)),(8,I (i:Int))]) (fun i=>[(0,AObj.row 44 1 [[ints ([1]:List Int)]])]) 0 (wk [0] (tO rfl (ts (lv lw LowL.nil)) .nil) (s1 (s1 (sl lw (s1 (s1 .nil)))))) ⟨foll hR rfl,by exact omA⟩ ?_;clear hR;rintro i ⟨hR,hj⟩;(try dsimp only at hR hj);refine ai (fun h7=>?_) (fun h8=>?_)
     ·(have hlt:i<([1]:List Int).length:=by have:=of_decide_eq_true h7;omega);rw [Q90 0 hlt] at hR;refine ai gkA ?_;refine us (Qq4 y1 _) ?_;refine ai (fun h9=>?_) (fun h10=>?_)
      ·refine Qm0 (fun r:Bool=>Bo r) (fun _=>[(0,AObj.row 44 1 [[ints ([1]:List Int)]])]) (leaf:=true) (foll hR (ct h9 rfl)) ?_;exact tt [0] (tO rfl (ts (lv lw LowL.nil)) .nil) t1
      ·exact Qi0 (i+1) (wk [0] (tO rfl (ts (lv lw LowL.nil)) .nil) (s1 (s1 (sl lw (s1 (sv (Q80 (I_eq (wr omA)) lx) .nil)))))) omA ⟨foll hR (cf h10 rfl),by exact omA⟩
     ·rw [Qf0 (l:=([1]:List Int)) (j:=i) (geA h8)] at hR;refine Qm0 (fun r:Bool=>Bo r) (fun _=>[(0,AObj.row 44 1 [[ints ([1]:List Int)]])]) (leaf:=false) (foll hR rfl) ?_;exact tt [0] (tO rfl (ts (lv lw LowL.nil)) .nil) t1
    have hof1:AMoves Tryz.prog 363 [AVal.ptr 0 0 4 0 0,AVal.fn (.func 376) [] [AVal.ptr 1 0 1 0 0]] [(0,AObj.row 364 4 [[runes c2.line,I c2.at_,I c2.bad,I c2.error]]),(0,AObj.row 44 1 [[ints ([1]:List Int)]])] 2 (Sg ((Q40 c2 (fun (y:Int)=>Qj0 y ([1]:List Int) 0)).1)) [(0,AObj.row 364 4 [[runes (((Q40 c2 (fun (y:Int)=>Qj0 y ([1]:List Int) 0)).2).line),I (((Q40 c2 (fun (y:Int)=>Qj0 y ([1]:List Int) 0)).2).at_),I (((Q40 c2 (fun (y:Int)=>Qj0 y ([1]:List Int) 0)).2).bad),I (((Q40 c2 (fun (y:Int)=>Qj0 y ([1]:List Int) 0)).2).error)]]),(0,AObj.row 44 1 [[ints ([1]:List Int)]])]:=by
     have hR:Q40 c2 (fun (y:Int)=>Qj0 y ([1]:List Int) 0)=Q40 c2 (fun (y:Int)=>Qj0 y ([1]:List Int) 0):=rfl;refine mo (kp 6 [33]) Tryz.func363 ?_;refine Qc0 (fun (c3:LexReader)=>∃ m,(Int.toNat ((c3.line.length:Int) - c3.at_))<m∧Qv0 c2 (Qu0 (fun (y:Int)=>Qj0 y ([1]:List Int) 0) m c3)=Q40 c2 (fun (y:Int)=>Qj0 y ([1]:List Int) 0)∧0<=c3.at_∧c3.at_<=(c3.line.length:Int)∧c3.line.length<=400∧c2.at_<=c3.at_∧0<=c2.at_) (fun c3=>(Int.toNat ((c3.line.length:Int) - c3.at_))) (fun c3=>[(0,AVal.ptr 0 0 4 0 0),(1,AVal.fn (.func 376) [] [AVal.ptr 1 0 1 0 0]),(4,Sg ⟨#[]⟩),(5,I c2.at_)]) (fun c3=>[(0,AObj.row 364 4 [[runes c3.line,I c3.at_,I c3.bad,I c3.error]]),(0,AObj.row 44 1 [[ints ([1]:List Int)]])]) c2 (wk [0,1] (tO rfl (ts LexReader.lo) (tO rfl (ts (lv lw LowL.nil)) .nil)) (sv (Q10 0 rfl rfl) (sv (QH0 .nil (cv (Q10 1 rfl rfl) .nil)) (s1 (s1 .nil))))) ⟨_,Nat.lt_succ_self _,foll hR rfl,by exact exA⟩ ?_;clear hR;rintro c3 ⟨m,hm,hR,hx⟩;(try dsimp only at hR hm hx);obtain ⟨m,rfl⟩:=sucA m;refine dchk (by kernel_rfl) ?_;refine ai gkA ?_;(first|apply u2|apply u3|apply u4|apply us);exact mv [1] (cl1 (c3.line.getD (Int.toNat c3.at_) 0)) (dO (ds (lv lw LowL.nil)) .nil) (d1 (dp .nil)) (rO (re (lv lw LowL.nil)) .nil) rx;(repeat ((first|refine ai rfl ?_|refine ai (fun _=>rfl) ?_)));refine ai (fun h11=>?_) (fun h12=>?_)
     ·have hq1:=of_decide_eq_true ((Bool.and_eq_true _ _).mp h11).1;have hwr:w64 (c3.at_+1)=c3.at_+1:=wr (by omega);exact Qi0 { c3 with at_:=(w64 (c3.at_+1)) } (wk [0,1] (tO rfl (ts LexReader.lo) (tO rfl (ts (lv lw LowL.nil)) .nil)) (sv (Q10 0 rfl rfl) (sv (QH0 .nil (cv (Q10 1 rfl rfl) .nil)) (s1 (s1 .nil))))) omA ⟨m,by exact omA,foll hR (congrArg (fun p:LexReader=>Qv0 c2 p) (ct h11 rfl)),by exact exA⟩
     ·replace hR:Qv0 c2 c3=Q40 c2 (fun (y:Int)=>Qj0 y ([1]:List Int) 0):=fo2 (fun p:LexReader=>Qv0 c2 p) (c3) hR (cf h12 rfl);refine dchk (by kernel_rfl) ?_;refine ai gkA ?_;(first|refine ⟨(List.drop (Int.toNat c2.at_) (List.take (Int.toNat c3.at_) c3.line)),by exact cvA,?_⟩|refine ⟨_,fun _=>⟨(List.drop (Int.toNat c2.at_) (List.take (Int.toNat c3.at_) c3.line)),by exact cvA,rfl,rfl⟩,?_⟩|refine ⟨_,rfl,⟨(List.drop (Int.toNat c2.at_) (List.take (Int.toNat c3.at_) c3.line)),by exact cvA,Sub.refl _,rfl⟩,?_⟩);(repeat ((first|refine ai rfl ?_|refine ai (fun _=>rfl) ?_)));refine Qm0 (fun r:ByteArray × LexReader=>Sg r.1) (fun r:ByteArray × LexReader=>[(0,AObj.row 364 4 [[runes r.2.line,I r.2.at_,I r.2.bad,I r.2.error]]),(0,AObj.row 44 1 [[ints ([1]:List Int)]])]) (leaf:=((runesBytes (List.drop (Int.toNat c2.at_) (List.take (Int.toNat c3.at_) c3.line))),c3)) (foll hR rfl) ?_;exact tt [0,1] (tO rfl (ts LexReader.lo) (tO rfl (ts (lv lw LowL.nil)) .nil)) t1
    refine us (mv [0,1] (hof1) (dO (ds LexReader.lo) (dO (ds (lv lw LowL.nil)) .nil)) (dp (dv (dn_fn .nil (dp .nil)) .nil)) (rO (re LexReader.lo) (rO (re (lv lw LowL.nil)) .nil)) rx) ?_;refine dchk (by kernel_rfl) ?_;(repeat ((first|refine ai rfl ?_|refine ai (fun _=>rfl) ?_)));refine ai (fun h13=>?_) (fun h14=>?_)
    ·refine dchk (by kernel_rfl) ?_;(repeat ((first|refine ai rfl ?_|refine ai (fun _=>rfl) ?_)));obtain rfl:=foll hR (ct h5 (ct h13 rfl));exact Q00 (Low.tup' (.cons lw (l1 (l1 .nil)))) (Seen.tup (ev (Ql1 Token.zero _ rfl eqA lnA) (e1 (e1 .nil))))
    ·refine us (mv [0] (QTb ((Q40 c2 (fun (y:Int)=>Qj0 y ([1]:List Int) 0)).2) (by first|(exact Nat.le_trans (hrd _ (by assumption)).1.2.2 (by decide))|exact szA) (by exact (hrd _ (by assumption)).1)) (dO (ds LexReader.lo) .nil) (dp .nil) (rO (re LexReader.lo) .nil) (Ren.low _ (Low.agg' (Token.lo)))) ?_;refine Or.inl ?_;(first|refine ⟨Qa2 40 rfl lnA apA,?_⟩|refine ⟨Qd1 40 rfl apA,?_⟩);exact Q60 (out++([{ (Qb0 ((Q40 c2 (fun (y:Int)=>Qj0 y ([1]:List Int) 0)).2)).1 with at_:=(Q40 c2 (fun (y:Int)=>Qj0 y ([1]:List Int) 0)).2.at_ }]:List Token)) ((Qb0 ((Q40 c2 (fun (y:Int)=>Qj0 y ([1]:List Int) 0)).2)).2) (wk [0,1,2] (tO rfl (ts LexReader.lo) (tO rfl (ts (lv lw LowL.nil)) (tO rfl (tl eqA) .nil))) (s1 (s1 (s1 (sv (Q10 0 rfl rfl) (sv (QH0 .nil (cv (Q10 1 rfl rfl) .nil)) (sv (to 2 lnA) .nil))))))) (by first|(have hq:=hrd _ (by assumption);omega)|exact omA) ⟨m,by first|(have hq:=hrd _ (by assumption);omega)|exact omA,foll hR (ct h5 (cf h14 rfl)),b6a1⟩
   ·refine dchk (by kernel_rfl) ?_;(repeat ((first|refine ai rfl ?_|refine ai (fun _=>rfl) ?_)));obtain rfl:=foll hR (cf h6 rfl);exact Q00 (Low.tup' (.cons lw (l1 (l1 .nil)))) (Seen.tup (ev (Qs0) (e1 (e1 .nil))))
def Qb2 (v:Job):Bool:=((((v.start==0)&&(v.limit==0))&&(v.nodes==0))&&(((v.promise==(-1))&&(v.choice==0))||(((QB3 v.promise)&&(QX0 v v.choice).2)&&(!v.held))))
theorem QQb (v:Job) (hs0:v.sz):GV 78 [Job.a v] (Bo (Qb2 v)):=by
 generalize hR:Qb2 v=R;refine ga (.cons (Job.low _ _) .nil) lx (kp 6 []) Tryz.func78 ?_;obtain ⟨z1,z2,z3,z4,z5⟩:=Job.zz hs0;refine us (Qo6 v v.choice szA _) ?_;(first|apply u2|apply u3|apply u4|apply us);exact Q85 v.promise _;obtain rfl:=foll hR rfl;exact Q00 lx sr
def Qo3 (v:Job):Bool:=bif (((((((!(QX0 v v.choice).2)||v.held)||(!(QB3 v.start)))||(!(QB3 v.promise)))||(decide (v.promise<v.start)))||(!(QB3 v.limit)))||((w64 (v.limit - v.start))!=(QX0 v v.choice).1.wall)) then false else ((Qg9 v.nodes)&&(QU6 v.shape v.choice (Qt1 v.nodes)))
theorem Q6b (v:Job) (hs0:v.sz):GV 79 [Job.a v] (Bo (Qo3 v)):=by
 generalize hR:Qo3 v=R;refine ga (.cons (Job.low _ _) .nil) lx (kp 5 [61]) Tryz.func79 ?_;obtain ⟨z3,z4,z5,z6,z7⟩:=Job.zz hs0;refine us (Qo6 v v.choice szA _) ?_;(first|apply u2|apply u3|apply u4|apply us);exact Q85 v.start _;(first|apply u2|apply u3|apply u4|apply us);exact Q85 v.promise _;(first|apply u2|apply u3|apply u4|apply us);exact Q85 v.limit _;refine ai (fun h1=>?_) (fun h2=>?_)
 ·obtain rfl:=foll hR (ct h1 rfl);exact Q00 lx sr
 ·refine dchk (by kernel_rfl) ?_;(first|apply u2|apply u3|apply u4|apply us);exact QKd v.nodes _;(first|apply u2|apply u3|apply u4|apply us);exact QD7 v.nodes _;(first|apply u2|apply u3|apply u4|apply us);exact Qea v.shape v.choice (Qt1 v.nodes) szA _;(repeat ((first|refine ai rfl ?_|refine ai (fun _=>rfl) ?_|refine ai (fun _=>QKd v.nodes _) ?_|refine ai (fun _=>QD7 v.nodes _) ?_|refine ai (fun _=>Qea v.shape v.choice (Qt1 v.nodes) szA _) ?_)));obtain rfl:=foll hR (cf h2 rfl);exact Q00 lx sr
def QB0 (line:ByteArray):Nat->List Token->Int->(List Token) × Int × Int
 | 0,_,_=>([],0,0)
 | m+1,out,i=>bif (decide (i<((QA0 line).length:Int))) then bif ((Qe0 ((QA0 line).getD (Int.toNat i) 0))==1) then QB0 line m out (w64 (i+1)) else bif ((QZ0 (QA0 line) i).2.2.2 != 0) then ([],(QZ0 (QA0 line) i).2.2.1,(QZ0 (QA0 line) i).2.2.2) else QB0 line m (out++([(QZ0 (QA0 line) i).1]:List Token)) ((QZ0 (QA0 line) i).2.1) else (out,((QA0 line).length:Int),0)
def Qw0 (line:ByteArray):(List Token) × Int × Int:=bif (decide ((ByteArray.size line:Int) > 400)) then ([],0,3) else QB0 line ((Int.toNat (((QA0 line).length:Int) - 0))+1) [] 0
theorem b6a2 {P:Prop} (h:P:=by first|(have hp2:=hp1 (by assumption);refine ⟨by omega,by omega,?_⟩;simp only [List.length_append,List.length_cons,List.length_nil];omega)|exact exA):P:=h
theorem ref05_Tokens_c (line:ByteArray) (hs0:line.size<=4294967296):GV 333 [Sg line] (AVal.tup [tokenL ((Qw0 line).1),I ((Qw0 line).2.1),I ((Qw0 line).2.2)]):=by
 generalize hR:Qw0 line=R;refine ga (l1 .nil) (Low.tup' (.cons lw (l1 (l1 .nil)))) (kp 12 [14,20,26,38]) Tryz.func333 ?_;have hk0:=hs0;obtain z9:line.size<=4294967296:=hs0;have hf0:=Qt9 line;refine ai (fun h1=>?_) (fun h2=>?_)
 ·have qh1:=of_decide_eq_true h1;obtain rfl:=foll hR (ct h1 rfl);exact Q00 (Low.tup' (.cons lw (l1 (l1 .nil)))) (Seen.tup (ev (Qs0) (e1 (e1 .nil))))
 ·have qh2:=of_decide_eq_false h2;refine us (ref05_Runes_c line szA _) ?_;refine Qh0 (fun (out:List Token) (i:Int)=>∃ m,(Int.toNat (((QA0 line).length:Int) - i))<m∧QB0 line m out i=R∧0<=i∧i<=((QA0 line).length:Int)∧(out.length:Int)<=i) (fun out i=>(Int.toNat (((QA0 line).length:Int) - i))) (fun out i=>[(2,AVal.lit (.slice none 0 0)),(3,I 0),(4,I 0),(5,runes (QA0 line)),(6,AVal.own 0 0 4 0 out.length),(7,I i)]) (fun out i=>[(0,AObj.row 309 4 (out.map Token.cells))]) [] 0 ((QD1 309 4).trans (wk [0] (tO rfl (tl eqA) .nil) (s1 (s1 (s1 (sl lw (sv (Qj1 0 rfl) (s1 .nil)))))))) ⟨_,Nat.lt_succ_self _,foll hR (cf h2 rfl),b6a2⟩ ?_;clear hR;rintro out i ⟨m,hm,hR,hx⟩;(try dsimp only at hR hm hx);obtain ⟨m,rfl⟩:=sucA m;refine ai (fun h3=>?_) (fun h4=>?_)
  ·have qh3:=of_decide_eq_true h3;have hw1:w64 (i+1)=i+1:=wr (by omega);have hp1:=ref05_one_lt (QA0 line) i (by omega) (by omega) (by omega);refine ai gkA ?_;refine us (Qk4 ((QA0 line).getD (Int.toNat i) 0) _) ?_;refine ai (fun h5=>?_) (fun h6=>?_)
   ·exact Q60 out (w64 (i+1)) (wk [0] (tO rfl (tl eqA) .nil) (s1 (s1 (s1 (sl lw (sv (to 0 lnA) (s1 .nil))))))) (by first|(have hp2:=hp1 (by assumption);omega)|exact omA) ⟨m,by first|(have hp2:=hp1 (by assumption);omega)|exact omA,foll hR (ct h3 (ct h5 rfl)),b6a2⟩
   ·refine us (ref05_one_c (QA0 line) i szA ckA _) ?_;refine ai (fun h7=>?_) (fun h8=>?_)
    ·obtain rfl:=foll hR (ct h3 (cf h6 (ct h7 rfl)));exact Q00 (Low.tup' (.cons lw (l1 (l1 .nil)))) (Seen.tup (ev (Qs0) (e1 (e1 .nil))))
    ·refine Or.inl ?_;(first|refine ⟨Qa2 40 rfl lnA apA,?_⟩|refine ⟨Qd1 40 rfl apA,?_⟩);exact Q60 (out++([(QZ0 (QA0 line) i).1]:List Token)) ((QZ0 (QA0 line) i).2.1) (wk [0] (tO rfl (tl eqA) .nil) (s1 (s1 (s1 (sl lw (sv (to 0 lnA) (s1 .nil))))))) (by first|(have hp2:=hp1 (by assumption);omega)|exact omA) ⟨m,by first|(have hp2:=hp1 (by assumption);omega)|exact omA,foll hR (ct h3 (cf h6 (cf h8 rfl))),b6a2⟩
  ·have qh4:=of_decide_eq_false h4;obtain rfl:=foll hR (cf h4 rfl);exact Q00 (Low.tup' (.cons lw (l1 (l1 .nil)))) (Seen.tup (ev (Ql1 Token.zero _ rfl eqA lnA) (e1 (e1 .nil))))
def QW5 (s:State) (j:Job) (latest:Int):Int × Int × Bool:=((QJ4 (Qi1 s ([j.id]:List Int)) (Q50 j.shape) s.now latest 12).1,(QJ4 (Qi1 s ([j.id]:List Int)) (Q50 j.shape) s.now latest 12).2.1,(QJ4 (Qi1 s ([j.id]:List Int)) (Q50 j.shape) s.now latest 12).2.2)
theorem b6a0 {P:Prop} (h:P:=by first|((with_reducible exact Qda _ _))|first|((with_reducible exact Qd5 _ (by assumption)))|first|((exact Qd5 _ z11))|exact szA):P:=h
theorem ref21_Pick_c (s:State) (j:Job) (latest:Int) (hs0:s.sz) (hs1:j.sz) (hp0:∀ y ∈ s.jobs,((y.state != 1)||(y.promise==(-1)))=false->0<=y.choice∧y.choice<((Q50 y.shape).length:Int)):GV 51 [State.a s,Job.a j,I latest] (AVal.tup [I ((QW5 s j latest).1),I ((QW5 s j latest).2.1),Bo ((QW5 s j latest).2.2)]):=by
 generalize hR:QW5 s j latest=R;refine ga (.cons (State.low _ _) (.cons (Job.low _ _) (l1 .nil))) (Low.tup' (l1 (l1 (l1 .nil)))) (kp 9 []) Tryz.func51 ?_;have hk0:=hs0;obtain ⟨z1,z2,z3,z4,z5,z6,z7⟩:=hs0;obtain ⟨z8,z9,z10,z11,z12⟩:=Job.zz hs1;refine dchk (by kernel_rfl) ?_;(first|apply u2|apply u3|apply u4|apply us);exact AGives.as2 (Qz9 s ([j.id]:List Int) b6a0 b6a0 (by exact hp0) _) (a1 (av (Qf4 (c:=(fun q_=>[I q_])) (d:=0) ([j.id]:List Int) rfl) .nil));(first|apply u2|apply u3|apply u4|apply us);exact Q44 j.shape b6a0 _;(first|apply u2|apply u3|apply u4|apply us);exact Qzc (Qi1 s ([j.id]:List Int)) (Q50 j.shape) s.now latest 12 b6a0 b6a0 _;(repeat ((first|refine ai rfl ?_|refine ai (fun _=>rfl) ?_|refine ai (fun _=>AGives.as2 (Qz9 s ([j.id]:List Int) b6a0 b6a0 (by exact hp0) _) (a1 (av (Qf4 (c:=(fun q_=>[I q_])) (d:=0) ([j.id]:List Int) rfl) .nil))) ?_|refine ai (fun _=>Q44 j.shape b6a0 _) ?_|refine ai (fun _=>Qzc (Qi1 s ([j.id]:List Int)) (Q50 j.shape) s.now latest 12 b6a0 b6a0 _) ?_)));obtain rfl:=foll hR rfl;exact Q00 (Low.tup' (l1 (l1 (l1 .nil)))) (Seen.tup (e1 (e1 (e1 .nil))))
end Go.Proofs.YtcbolcknapeneaaGreatDoor
namespace Go.Proofs.YtcbolcknapeneaaGreatDoor
set_option linter.unusedSimpArgs false
set_option linter.unusedVariables false
open Go.Fw
set_option maxRecDepth 20000
set_option maxHeartbeats 4000000
attribute [local irreducible] ACalls AMoves
def Qw5 (s:ByteArray):Bool:=bif ((((Q41 s).2.2 != 0)||((((Q41 s).1).length:Int)!=1))||(!(((((Q41 s).1).getD 0 Token.zero).kind==1)&&(((((Q41 s).1).getD 0 Token.zero).text==s)&&(((((Q41 s).1).getD 0 Token.zero).num==0)&&((((Q41 s).1).getD 0 Token.zero).at_==0)))))) then false else true
theorem cmd_word_c (s:ByteArray) (hs0:s.size<=4294967296):GV 255 [Sg s] (Bo (Qw5 s)):=by
 generalize hR:Qw5 s=R;refine ga (l1 .nil) lx (kp 3 []) Tryz.func255 ?_;have hk0:=hs0;obtain z3:s.size<=4294967296:=hs0;refine ACalls.of_cwp (fun _=>true) Tryz.func311 rfl rfl ?_;refine ACalls.of_cwp (fun _=>true) Tryz.func341 rfl rfl ?_;refine ai (fun h=>nomatch h) (fun _=>?_);refine ai (fun h=>nomatch h) (fun _=>?_);refine ⟨_,_,Told.refl,?_⟩;refine us (lex_Tokens_c s szA _) ?_;refine dchk (by kernel_rfl) ?_;refine ai gkA ?_;refine ai (fun _=>(by kernel_rfl:eqOK _ _=true)) ?_;(repeat ((first|refine ai rfl ?_|refine ai (fun _=>rfl) ?_)));refine ai (fun h1=>?_) (fun h2=>?_)
 ·refine ⟨_,_,Told.refl,?_⟩;obtain rfl:=foll hR (ct h1 rfl);exact Q00 lx sr
 ·refine ⟨_,_,Told.refl,?_⟩;obtain rfl:=foll hR (cf h2 rfl);exact Q00 lx sr
def Qv3 (s:ByteArray):Bool:=bif (((Qw0 s).2.2 != 0)||((((Qw0 s).1).length:Int)!=1)) then false else bif ((((((Qw0 s).1).getD 0 Token.zero).kind != 1)||(!(ByteArray.toList (((Qw0 s).1).getD 0 Token.zero).text==ByteArray.toList s)))||((((Qw0 s).1).getD 0 Token.zero).num != 0)) then false else true
theorem Qyc (s:ByteArray) (hs0:s.size<=4294967296):GV 226 [Sg s] (Bo (Qv3 s)):=by
 generalize hR:Qv3 s=R;refine ga (l1 .nil) lx (kp 3 []) Tryz.func226 ?_;have hk0:=hs0;obtain z5:s.size<=4294967296:=hs0;refine ACalls.of_cwp (fun _=>true) Tryz.func298 rfl rfl ?_;refine ACalls.of_cwp (fun _=>true) Tryz.func334 rfl rfl ?_;refine ai (fun h=>nomatch h) (fun _=>?_);refine ai (fun h=>nomatch h) (fun _=>?_);refine ⟨_,_,Told.refl,?_⟩;refine us (ref05_Tokens_c s szA _) ?_;refine ai (fun h1=>?_) (fun h2=>?_)
 ·refine ⟨_,_,Told.refl,?_⟩;obtain rfl:=foll hR (ct h1 rfl);exact Q00 lx sr
 ·refine ai gkA ?_;refine ai (fun h3=>?_) (fun h4=>?_)
  ·refine ⟨_,_,Told.refl,?_⟩;obtain rfl:=foll hR (cf h2 (ct h3 rfl));exact Q00 lx sr
  ·refine ⟨_,_,Told.refl,?_⟩;obtain rfl:=foll hR (cf h2 (cf h4 rfl));exact Q00 lx sr
end Go.Proofs.YtcbolcknapeneaaGreatDoor
namespace Go.Proofs.YtcbolcknapeneaaGreatDoor
set_option linter.unusedSimpArgs false
set_option linter.unusedVariables false
open Go.Fw
set_option maxRecDepth 20000
set_option maxHeartbeats 4000000
attribute [local irreducible] ACalls AMoves
def Qz8 (c:Cmd) (i1:Bool):Bool:=bif i1 then (Qt2 c.node 0 47) else bif (c.kind==10) then (((Qt2 c.from_ 0 1000000)&&c.hasTime)&&(Qt2 c.nodes 1 48)) else ((c.kind==12)&&(Qt2 c.job 0 99999))
def Qq7 (c:Cmd) (i:Bool):Bool:=bif i then (Q9c c.job) else bif (c.kind==5) then ((Q9c c.job)&&(c.hasPrio||c.hasTime)) else bif (c.kind==6) then ((Q9c c.job)&&(Qt2 c.nodes 1 48)) else bif (c.kind==7) then Qz8 c (c.kind==7) else bif (c.kind==8) then Qz8 c (c.kind==8) else Qz8 c (c.kind==9)
def QOa (c:Cmd):Bool:=bif ((((c.hasPrio&&(!(Qt2 c.prio 0 100)))||(c.hasTime&&(!(QHb c.time))))||((!c.hasPrio)&&(c.prio != 0)))||((!c.hasTime)&&(c.time != 0))) then false else bif (c.kind==1) then (((((((Q55 c.name)&&(Q55 c.user))&&(Q55 c.account))&&(Qw5 c.user))&&(Qw5 c.account))&&(Q47 c.after))&&((QA1 c.shape)==0)) else bif (c.kind==2) then Qq7 c (c.kind==2) else bif (c.kind==3) then Qq7 c (c.kind==3) else bif (c.kind==4) then Qq7 c (c.kind==4) else Qq7 c (c.kind==11)
theorem cmd_fits_c (c:Cmd) (hs0:c.sz):GV 172 [Cmd.a c] (Bo (QOa c)):=by
 generalize hR:QOa c=R;refine ga (.cons (Cmd.low _ _) .nil) lx (kj [1000010,1000018] 3 [40,42,43,79,87,100,110,117]) Tryz.func172 ?_;have hk0:=hs0;obtain ⟨z25,z26,z27,z28,z29⟩:c.name.size<=4294967296∧c.user.size<=4294967296∧c.account.size<=4294967296∧(c.shape.alts.length<=4294967296)∧c.after.length<=4294967296:=hs0;(first|apply u2|apply u3|apply u4|apply us);exact QV2 c.prio 0 100 _;(first|apply u2|apply u3|apply u4|apply us);exact cmd_length_c c.time _;refine ai (fun h1=>?_) (fun h2=>?_)
 ·obtain rfl:=foll hR (ct h1 rfl);exact Q00 lx sr
 ·refine ai (fun h3=>?_) (fun h4=>?_)
  ·refine us (QIb c.name szA _) ?_;(first|apply u2|apply u3|apply u4|apply us);exact QIb c.user szA _;(first|apply u2|apply u3|apply u4|apply us);exact QIb c.account szA _;(first|apply u2|apply u3|apply u4|apply us);exact cmd_word_c c.user szA _;(first|apply u2|apply u3|apply u4|apply us);exact cmd_word_c c.account szA _;(first|apply u2|apply u3|apply u4|apply us);exact cmd_deps_c c.after szA _;(first|apply u2|apply u3|apply u4|apply us);exact Qtb c.shape szA _;obtain rfl:=foll hR (cf h2 (ct h3 rfl));exact Q00 lx sr
  ·refine QY0 (fun (i:Bool)=>Qq7 c i=R) (fun i=>[(1,AVal.ptr 0 0 18 0 0),(2,Bo false),(42,I c.kind),(79,Bo i)]) (fun i=>[(0,AObj.row 119 18 [[I c.kind,I c.job,Sg c.name,Sg c.user,Sg c.account,I c.shape.kind,altL c.shape.alts,I c.shape.min,I c.shape.max,I c.shape.wall,I c.prio,Bo c.hasPrio,I c.time,Bo c.hasTime,depL c.after,I c.node,I c.nodes,I c.from_]])]) ?_ ?_
   ·clear hR;rintro i hR;(try dsimp only at hR);refine ai (fun h5=>?_) (fun h6=>?_)
    ·refine us (QVc c.job _) ?_;obtain rfl:=foll hR (ct h5 rfl);exact Q00 lx sr
    ·refine ai (fun h7=>?_) (fun h8=>?_)
     ·refine us (QVc c.job _) ?_;obtain rfl:=foll hR (cf h6 (ct h7 rfl));exact Q00 lx sr
     ·refine ai (fun h9=>?_) (fun h10=>?_)
      ·refine us (QVc c.job _) ?_;(first|apply u2|apply u3|apply u4|apply us);exact QV2 c.nodes 1 48 _;obtain rfl:=foll hR (cf h6 (cf h8 (ct h9 rfl)));exact Q00 lx sr
      ·refine QY0 (fun (i1:Bool)=>Qz8 c i1=R) (fun i1=>[(1,AVal.ptr 0 0 18 0 0),(2,Bo false),(42,I c.kind),(110,Bo i1)]) (fun i1=>[(0,AObj.row 119 18 [[I c.kind,I c.job,Sg c.name,Sg c.user,Sg c.account,I c.shape.kind,altL c.shape.alts,I c.shape.min,I c.shape.max,I c.shape.wall,I c.prio,Bo c.hasPrio,I c.time,Bo c.hasTime,depL c.after,I c.node,I c.nodes,I c.from_]])]) ?_ ?_
       ·clear hR;rintro i1 hR;(try dsimp only at hR);refine ai (fun h11=>?_) (fun h12=>?_)
        ·refine us (QV2 c.node 0 47 _) ?_;obtain rfl:=foll hR (ct h11 rfl);exact Q00 lx sr
        ·refine ai (fun h13=>?_) (fun h14=>?_)
         ·refine us (QV2 c.from_ 0 1000000 _) ?_;(first|apply u2|apply u3|apply u4|apply us);exact QV2 c.nodes 1 48 _;obtain rfl:=foll hR (cf h12 (ct h13 rfl));exact Q00 lx sr
         ·(first|apply u2|apply u3|apply u4|apply us);exact QV2 c.job 0 99999 _;obtain rfl:=foll hR (cf h12 (cf h14 rfl));exact Q00 lx sr
       ·refine ai (fun h15=>?_) (fun h16=>?_)
        ·exact Q70 (c.kind==7) (wk [0] (tO rfl (ts Cmd.lo) .nil) (sv (Q10 0 rfl rfl) (s1 (s1 (s1 .nil))))) (foll hR (cf h6 (cf h8 (cf h10 (ct h15 rfl)))))
        ·refine ai (fun h17=>?_) (fun h18=>?_)
         ·exact Q70 (c.kind==8) (wk [0] (tO rfl (ts Cmd.lo) .nil) (sv (Q10 0 rfl rfl) (s1 (s1 (s1 .nil))))) (foll hR (cf h6 (cf h8 (cf h10 (cf h16 (ct h17 rfl))))))
         ·exact Q70 (c.kind==9) (wk [0] (tO rfl (ts Cmd.lo) .nil) (sv (Q10 0 rfl rfl) (s1 (s1 (s1 .nil))))) (foll hR (cf h6 (cf h8 (cf h10 (cf h16 (cf h18 rfl))))))
   ·refine ai (fun h19=>?_) (fun h20=>?_)
    ·exact Q70 (c.kind==2) (wk [0] (tO rfl (ts Cmd.lo) .nil) (sv (Q10 0 rfl rfl) (s1 (s1 (s1 .nil))))) (foll hR (cf h2 (cf h4 (ct h19 rfl))))
    ·refine ai (fun h21=>?_) (fun h22=>?_)
     ·exact Q70 (c.kind==3) (wk [0] (tO rfl (ts Cmd.lo) .nil) (sv (Q10 0 rfl rfl) (s1 (s1 (s1 .nil))))) (foll hR (cf h2 (cf h4 (cf h20 (ct h21 rfl)))))
     ·refine ai (fun h23=>?_) (fun h24=>?_)
      ·exact Q70 (c.kind==4) (wk [0] (tO rfl (ts Cmd.lo) .nil) (sv (Q10 0 rfl rfl) (s1 (s1 (s1 .nil))))) (foll hR (cf h2 (cf h4 (cf h20 (cf h22 (ct h23 rfl))))))
      ·exact Q70 (c.kind==11) (wk [0] (tO rfl (ts Cmd.lo) .nil) (sv (Q10 0 rfl rfl) (s1 (s1 (s1 .nil))))) (foll hR (cf h2 (cf h4 (cf h20 (cf h22 (cf h24 rfl))))))
def QG6 (ok2:Bool):Int:=bif (!ok2) then 80 else 0
def QF6 (c:Cmd) (ok1:Bool):Int:=bif c.hasTime then QG6 (ok1&&(Q31 c.time 1 100000)) else QG6 (ok1&&(c.time==0))
def Q92 (c:Cmd) (ok:Bool):Int:=bif c.hasPrio then QF6 c (ok&&(Q31 c.prio 0 100)) else QF6 c (ok&&(c.prio==0))
def QE6 (c:Cmd) (i1:Bool):Int:=bif i1 then Q92 c ((Q22 c true true true true false true true)&&(Q31 c.node 0 47)) else bif (c.kind==10) then Q92 c ((((Q22 c true true true false true false false)&&(Q31 c.from_ 0 1000000))&&c.hasTime)&&(Q31 c.nodes 1 48)) else Q92 c false
def Qp5 (c:Cmd) (i:Bool):Int:=bif i then Q92 c ((Q22 c false true true true true true true)&&(Q31 c.job 1 99999)) else bif (c.kind==12) then Q92 c ((Q22 c false true true true true true true)&&(Q31 c.job 0 99999)) else bif (c.kind==5) then Q92 c (((Q22 c false true false false true true true)&&(Q31 c.job 1 99999))&&(c.hasPrio||c.hasTime)) else bif (c.kind==6) then Q92 c (((Q22 c false true true true true false true)&&(Q31 c.job 1 99999))&&(Q31 c.nodes 1 48)) else bif (c.kind==7) then QE6 c (c.kind==7) else bif (c.kind==8) then QE6 c (c.kind==8) else QE6 c (c.kind==9)
def Ql4 (c:Cmd):Int:=bif (c.kind==1) then Q92 c ((((((((Q22 c true false false true true true true)&&(Qc3 c.name))&&(Qc3 c.user))&&(Qc3 c.account))&&(Qv3 c.user))&&(Qv3 c.account))&&(QF5 c.after))&&((Q01 c.shape)==0)) else bif (c.kind==2) then Qp5 c (c.kind==2) else bif (c.kind==3) then Qp5 c (c.kind==3) else bif (c.kind==4) then Qp5 c (c.kind==4) else Qp5 c (c.kind==11)
theorem ref08_Check_c (c:Cmd) (hs0:c.sz):GV 143 [Cmd.a c] (I (Ql4 c)):=by
 generalize hR:Ql4 c=R;refine ga (.cons (Cmd.low _ _) .nil) lx (kj [1000010,1000020,1000023,1000026,1000029] 4 [5,6,46,58,67,84,98,109,128,142,156]) Tryz.func143 ?_;have hk0:=hs0;obtain ⟨z31,z32,z33,z34,z35⟩:c.name.size<=4294967296∧c.user.size<=4294967296∧c.account.size<=4294967296∧(c.shape.alts.length<=4294967296)∧c.after.length<=4294967296:=hs0;refine QY0 (fun (ok:Bool)=>Q92 c ok=R) (fun ok=>[(1,AVal.ptr 0 0 18 0 0),(2,I 0),(3,Bo ok)]) (fun ok=>[(0,AObj.row 119 18 [[I c.kind,I c.job,Sg c.name,Sg c.user,Sg c.account,I c.shape.kind,altL c.shape.alts,I c.shape.min,I c.shape.max,I c.shape.wall,I c.prio,Bo c.hasPrio,I c.time,Bo c.hasTime,depL c.after,I c.node,I c.nodes,I c.from_]])]) ?_ ?_
 ·clear hR;rintro ok hR;(try dsimp only at hR);refine QY0 (fun (ok1:Bool)=>QF6 c ok1=R) (fun ok1=>[(1,AVal.ptr 0 0 18 0 0),(2,I 0),(3,Bo ok1)]) (fun ok1=>[(0,AObj.row 119 18 [[I c.kind,I c.job,Sg c.name,Sg c.user,Sg c.account,I c.shape.kind,altL c.shape.alts,I c.shape.min,I c.shape.max,I c.shape.wall,I c.prio,Bo c.hasPrio,I c.time,Bo c.hasTime,depL c.after,I c.node,I c.nodes,I c.from_]])]) ?_ ?_
  ·clear hR;rintro ok1 hR;(try dsimp only at hR);refine QY0 (fun (ok2:Bool)=>QG6 ok2=R) (fun ok2=>[(2,I 0),(3,Bo ok2)]) (fun ok2=>[]) ?_ ?_
   ·clear hR;rintro ok2 hR;(try dsimp only at hR);refine ai (fun h1=>?_) (fun h2=>?_)
    ·obtain rfl:=foll hR (ct h1 rfl);exact Q00 lx sr
    ·obtain rfl:=foll hR (cf h2 rfl);exact Q00 lx sr
   ·refine ai (fun h3=>?_) (fun h4=>?_)
    ·(first|apply u2|apply u3|apply u4|apply us);exact Qw3 c.time 1 100000 _;exact Q70 (ok1&&(Q31 c.time 1 100000)) (wk [] .nil (s1 (s1 .nil))) (foll hR (ct h3 rfl))
    ·exact Q70 (ok1&&(c.time==0)) (wk [] .nil (s1 (s1 .nil))) (foll hR (cf h4 rfl))
  ·refine ai (fun h5=>?_) (fun h6=>?_)
   ·(first|apply u2|apply u3|apply u4|apply us);exact Qw3 c.prio 0 100 _;exact Q70 (ok&&(Q31 c.prio 0 100)) (wk [0] (tO rfl (ts Cmd.lo) .nil) (sv (Q10 0 rfl rfl) (s1 (s1 .nil)))) (foll hR (ct h5 rfl))
   ·exact Q70 (ok&&(c.prio==0)) (wk [0] (tO rfl (ts Cmd.lo) .nil) (sv (Q10 0 rfl rfl) (s1 (s1 .nil)))) (foll hR (cf h6 rfl))
 ·refine ai (fun h7=>?_) (fun h8=>?_)
  ·refine us (QY4 c true false false true true true true szA _) ?_;(first|apply u2|apply u3|apply u4|apply us);exact Qv9 c.name szA _;(first|apply u2|apply u3|apply u4|apply us);exact Qv9 c.user szA _;(first|apply u2|apply u3|apply u4|apply us);exact Qv9 c.account szA _;(first|apply u2|apply u3|apply u4|apply us);exact Qyc c.user szA _;(first|apply u2|apply u3|apply u4|apply us);exact Qyc c.account szA _;(first|apply u2|apply u3|apply u4|apply us);exact ref08_waits_c c.after szA _;(first|apply u2|apply u3|apply u4|apply us);exact Qlb c.shape szA _;exact Q70 ((((((((Q22 c true false false true true true true)&&(Qc3 c.name))&&(Qc3 c.user))&&(Qc3 c.account))&&(Qv3 c.user))&&(Qv3 c.account))&&(QF5 c.after))&&((Q01 c.shape)==0)) (wk [0] (tO rfl (ts Cmd.lo) .nil) (sv (Q10 0 rfl rfl) (s1 (s1 .nil)))) (foll hR (ct h7 rfl))
  ·refine QY0 (fun (i:Bool)=>Qp5 c i=R) (fun i=>[(1,AVal.ptr 0 0 18 0 0),(2,I 0),(3,Bo false),(5,I c.kind),(46,Bo i)]) (fun i=>[(0,AObj.row 119 18 [[I c.kind,I c.job,Sg c.name,Sg c.user,Sg c.account,I c.shape.kind,altL c.shape.alts,I c.shape.min,I c.shape.max,I c.shape.wall,I c.prio,Bo c.hasPrio,I c.time,Bo c.hasTime,depL c.after,I c.node,I c.nodes,I c.from_]])]) ?_ ?_
   ·clear hR;rintro i hR;(try dsimp only at hR);refine ai (fun h9=>?_) (fun h10=>?_)
    ·refine us (QY4 c false true true true true true true szA _) ?_;(first|apply u2|apply u3|apply u4|apply us);exact Qw3 c.job 1 99999 _;exact Q70 ((Q22 c false true true true true true true)&&(Q31 c.job 1 99999)) (wk [0] (tO rfl (ts Cmd.lo) .nil) (sv (Q10 0 rfl rfl) (s1 (s1 .nil)))) (foll hR (ct h9 rfl))
    ·refine ai (fun h11=>?_) (fun h12=>?_)
     ·refine us (QY4 c false true true true true true true szA _) ?_;(first|apply u2|apply u3|apply u4|apply us);exact Qw3 c.job 0 99999 _;exact Q70 ((Q22 c false true true true true true true)&&(Q31 c.job 0 99999)) (wk [0] (tO rfl (ts Cmd.lo) .nil) (sv (Q10 0 rfl rfl) (s1 (s1 .nil)))) (foll hR (cf h10 (ct h11 rfl)))
     ·refine ai (fun h13=>?_) (fun h14=>?_)
      ·refine us (QY4 c false true false false true true true szA _) ?_;(first|apply u2|apply u3|apply u4|apply us);exact Qw3 c.job 1 99999 _;exact Q70 (((Q22 c false true false false true true true)&&(Q31 c.job 1 99999))&&(c.hasPrio||c.hasTime)) (wk [0] (tO rfl (ts Cmd.lo) .nil) (sv (Q10 0 rfl rfl) (s1 (s1 .nil)))) (foll hR (cf h10 (cf h12 (ct h13 rfl))))
      ·refine ai (fun h15=>?_) (fun h16=>?_)
       ·refine us (QY4 c false true true true true false true szA _) ?_;(first|apply u2|apply u3|apply u4|apply us);exact Qw3 c.job 1 99999 _;(first|apply u2|apply u3|apply u4|apply us);exact Qw3 c.nodes 1 48 _;exact Q70 (((Q22 c false true true true true false true)&&(Q31 c.job 1 99999))&&(Q31 c.nodes 1 48)) (wk [0] (tO rfl (ts Cmd.lo) .nil) (sv (Q10 0 rfl rfl) (s1 (s1 .nil)))) (foll hR (cf h10 (cf h12 (cf h14 (ct h15 rfl)))))
       ·refine QY0 (fun (i1:Bool)=>QE6 c i1=R) (fun i1=>[(1,AVal.ptr 0 0 18 0 0),(2,I 0),(3,Bo false),(5,I c.kind),(98,Bo i1)]) (fun i1=>[(0,AObj.row 119 18 [[I c.kind,I c.job,Sg c.name,Sg c.user,Sg c.account,I c.shape.kind,altL c.shape.alts,I c.shape.min,I c.shape.max,I c.shape.wall,I c.prio,Bo c.hasPrio,I c.time,Bo c.hasTime,depL c.after,I c.node,I c.nodes,I c.from_]])]) ?_ ?_
        ·clear hR;rintro i1 hR;(try dsimp only at hR);refine ai (fun h17=>?_) (fun h18=>?_)
         ·refine us (QY4 c true true true true false true true szA _) ?_;(first|apply u2|apply u3|apply u4|apply us);exact Qw3 c.node 0 47 _;exact Q70 ((Q22 c true true true true false true true)&&(Q31 c.node 0 47)) (wk [0] (tO rfl (ts Cmd.lo) .nil) (sv (Q10 0 rfl rfl) (s1 (s1 .nil)))) (foll hR (ct h17 rfl))
         ·refine ai (fun h19=>?_) (fun h20=>?_)
          ·refine us (QY4 c true true true false true false false szA _) ?_;(first|apply u2|apply u3|apply u4|apply us);exact Qw3 c.from_ 0 1000000 _;(first|apply u2|apply u3|apply u4|apply us);exact Qw3 c.nodes 1 48 _;exact Q70 ((((Q22 c true true true false true false false)&&(Q31 c.from_ 0 1000000))&&c.hasTime)&&(Q31 c.nodes 1 48)) (wk [0] (tO rfl (ts Cmd.lo) .nil) (sv (Q10 0 rfl rfl) (s1 (s1 .nil)))) (foll hR (cf h18 (ct h19 rfl)))
          ·exact Q70 false (wk [0] (tO rfl (ts Cmd.lo) .nil) (sv (Q10 0 rfl rfl) (s1 (s1 .nil)))) (foll hR (cf h18 (cf h20 rfl)))
        ·refine ai (fun h21=>?_) (fun h22=>?_)
         ·exact Q70 (c.kind==7) (wk [0] (tO rfl (ts Cmd.lo) .nil) (sv (Q10 0 rfl rfl) (s1 (s1 (s1 (s1 .nil)))))) (foll hR (cf h10 (cf h12 (cf h14 (cf h16 (ct h21 rfl))))))
         ·refine ai (fun h23=>?_) (fun h24=>?_)
          ·exact Q70 (c.kind==8) (wk [0] (tO rfl (ts Cmd.lo) .nil) (sv (Q10 0 rfl rfl) (s1 (s1 (s1 (s1 .nil)))))) (foll hR (cf h10 (cf h12 (cf h14 (cf h16 (cf h22 (ct h23 rfl)))))))
          ·exact Q70 (c.kind==9) (wk [0] (tO rfl (ts Cmd.lo) .nil) (sv (Q10 0 rfl rfl) (s1 (s1 (s1 (s1 .nil)))))) (foll hR (cf h10 (cf h12 (cf h14 (cf h16 (cf h22 (cf h24 rfl)))))))
   ·refine ai (fun h25=>?_) (fun h26=>?_)
    ·exact Q70 (c.kind==2) (wk [0] (tO rfl (ts Cmd.lo) .nil) (sv (Q10 0 rfl rfl) (s1 (s1 (s1 (s1 .nil)))))) (foll hR (cf h8 (ct h25 rfl)))
    ·refine ai (fun h27=>?_) (fun h28=>?_)
     ·exact Q70 (c.kind==3) (wk [0] (tO rfl (ts Cmd.lo) .nil) (sv (Q10 0 rfl rfl) (s1 (s1 (s1 (s1 .nil)))))) (foll hR (cf h8 (cf h26 (ct h27 rfl))))
     ·refine ai (fun h29=>?_) (fun h30=>?_)
      ·exact Q70 (c.kind==4) (wk [0] (tO rfl (ts Cmd.lo) .nil) (sv (Q10 0 rfl rfl) (s1 (s1 (s1 (s1 .nil)))))) (foll hR (cf h8 (cf h26 (cf h28 (ct h29 rfl)))))
      ·exact Q70 (c.kind==11) (wk [0] (tO rfl (ts Cmd.lo) .nil) (sv (Q10 0 rfl rfl) (s1 (s1 (s1 (s1 .nil)))))) (foll hR (cf h8 (cf h26 (cf h28 (cf h30 rfl)))))
end Go.Proofs.YtcbolcknapeneaaGreatDoor
namespace Go.Proofs.YtcbolcknapeneaaGreatDoor
set_option linter.unusedSimpArgs false
set_option linter.unusedVariables false
open Go.Fw
set_option maxRecDepth 20000
set_option maxHeartbeats 4000000
attribute [local irreducible] ACalls AMoves
def QM6 (c:Cmd):Int:=bif ((((decide ((c.shape.alts.length:Int) > 6))||(decide ((c.after.length:Int) > 4)))||(!(QOa c)))||(!(QNa c (QP7 c)))) then 80 else 0
theorem b9a0 {P:Prop} (h:P:=by first|(exact cmd_bare_sz _ (by assumption))|exact szA):P:=h
theorem Qld (c:Cmd) (hs0:c.sz):GV 74 [Cmd.a c] (I (QM6 c)):=by
 generalize hR:QM6 c=R;refine ga (.cons (Cmd.low _ _) .nil) lx (kp 3 [25]) Tryz.func74 ?_;have hk0:=hs0;obtain ⟨z3,z4,z5,z6,z7⟩:c.name.size<=4294967296∧c.user.size<=4294967296∧c.account.size<=4294967296∧(c.shape.alts.length<=4294967296)∧c.after.length<=4294967296:=hs0;refine dchk (by kernel_rfl) ?_;(first|apply u2|apply u3|apply u4|apply us);exact cmd_fits_c c b9a0 _;(first|apply u2|apply u3|apply u4|apply us);exact cmd_bare_c c b9a0 _;(first|apply u2|apply u3|apply u4|apply us);exact cmd_Same_c c (QP7 c) b9a0 b9a0 _;(repeat ((first|refine ai rfl ?_|refine ai (fun _=>rfl) ?_|refine ai (fun _=>cmd_fits_c c b9a0 _) ?_|refine ai (fun _=>cmd_bare_c c b9a0 _) ?_|refine ai (fun _=>cmd_Same_c c (QP7 c) b9a0 b9a0 _) ?_)));refine ai (fun h1=>?_) (fun h2=>?_)
 ·obtain rfl:=foll hR (ct h1 rfl);exact Q00 lx sr
 ·obtain rfl:=foll hR (cf h2 rfl);exact Q00 lx sr
def Q53 (j:Job):List Dep->Nat->Int
 | [],_=>bif (!(Qn1 j)) then 140 else 0
 | x_ :: r,i=>bif (decide (x_.job >= j.id)) then 140 else Q53 j r (i+1)
def Q51 (j:Job):Int:=bif (((((((Ql4 (⟨1,0,j.name,j.user,j.account,j.shape,j.prio,true,0,false,j.after,0,0,0⟩:Cmd))!=0)||(decide (j.id<1)))||(decide (j.id > 99999)))||(!(Qg1 j.born)))||(decide (j.used<0)))||(decide (j.used > 1000000000000))) then 140 else Q53 j j.after 0
theorem Qmb (j:Job) (hs0:j.sz):GV 50 [Job.a j] (I (Q51 j)):=by
 generalize hR:Q51 j=R;refine ga (.cons (Job.low _ _) .nil) lx (kp 5 [46,51,62,65]) Tryz.func50 ?_;obtain ⟨z9,z10,z11,z12,z13⟩:=Job.zz hs0;refine us (ref08_Check_c (⟨1,0,j.name,j.user,j.account,j.shape,j.prio,true,0,false,j.after,0,0,0⟩:Cmd) szA _) ?_;(first|apply u2|apply u3|apply u4|apply us);exact Qb4 j.born _;refine ai (fun h1=>?_) (fun h2=>?_)
 ·obtain rfl:=foll hR (ct h1 rfl);exact Q00 lx sr
 ·refine Qc0 (fun (i:Nat)=>Q53 j (List.drop i j.after) i=R∧i<=j.after.length) (fun i=>j.after.length - i) (fun i=>[(1,AVal.ptr 0 0 20 0 0),(2,I 0),(4,I (i:Int))]) (fun i=>[(0,AObj.row 35 20 [[I j.id,Sg j.name,Sg j.user,Sg j.account,I j.shape.kind,altL j.shape.alts,I j.shape.min,I j.shape.max,I j.shape.wall,I j.prio,depL j.after,I j.state,Bo j.held,I j.born,I j.promise,I j.choice,I j.start,I j.limit,U j.nodes,I j.used]])]) 0 (wk [0] (tO rfl (ts Job.lo) .nil) (sv (Q10 0 rfl rfl) (s1 (s1 .nil)))) ⟨foll hR (cf h2 rfl),by exact omA⟩ ?_;clear hR;rintro i ⟨hR,hj⟩;(try dsimp only at hR hj);refine ai (fun h3=>?_) (fun h4=>?_)
  ·have hlt:=ltA h3;rw [Q90 Dep.zero hlt] at hR;refine dchk (by kernel_rfl) ?_;refine ai gkA ?_;(repeat ((first|refine ai rfl ?_|refine ai (fun _=>rfl) ?_)));refine ai (fun h5=>?_) (fun h6=>?_)
   ·have qh5:=of_decide_eq_true h5;obtain rfl:=foll hR (ct h5 rfl);exact Q00 lx sr
   ·have qh6:=of_decide_eq_false h6;exact Qi0 (i+1) (wk [0] (tO rfl (ts Job.lo) .nil) (sv (Q10 0 rfl rfl) (s1 (sv (Q80 (I_eq (wr omA)) lx) .nil)))) omA ⟨foll hR (cf h6 rfl),by exact omA⟩
  ·rw [Qf0 (l:=j.after) (j:=i) (geA h4)] at hR;refine us (ref14_state_c j szA _) ?_;refine ai (fun h7=>?_) (fun h8=>?_)
   ·obtain rfl:=foll hR (ct h7 rfl);exact Q00 lx sr
   ·obtain rfl:=foll hR (cf h8 rfl);exact Q00 lx sr
theorem Qf5 {j:Job} (h:((Q51 j)!=0)=false):Qn1 j=true:=by
 have g1:∀ (l:List Dep) (i:Nat),Q53 j l i=0->Qn1 j=true:=by
  intro l
  induction l with
  | nil =>
   intro i hi
   rw [Q53] at hi
   cases hs:Qn1 j with
   | true=>rfl
   | false=>rw [hs] at hi;cases hi
  | cons x r ih =>
   intro i hi
   rw [Q53] at hi
   cases hx:decide (x.job >= j.id) with
   | true=>rw [hx] at hi;cases hi
   | false=>rw [hx] at hi;exact ih _ hi
 simp only [Q51] at h
 revert h
 cases (((((((Ql4 (⟨1,0,j.name,j.user,j.account,j.shape,j.prio,true,0,false,j.after,0,0,0⟩:Cmd))!=0)||(decide (j.id<1)))||(decide (j.id > 99999)))||(!(Qg1 j.born)))||(decide (j.used<0)))||(decide (j.used > 1000000000000))) with
 | true=>simp
 | false =>
  intro h
  exact g1 _ _ (by simpa using h)
theorem Qx9 {j:Job} (h:Qn1 j=true):((j.state != 1)||(j.promise==(-1)))=false->0<=j.choice∧j.choice<((Q50 j.shape).length:Int):=by
 intro hq
 rw [Bool.or_eq_false_iff] at hq
 have h1:(j.state==1)=true:=by simpa using hq.1
 rw [Qn1,h1,hq.2] at h
 simp only [cond_true,cond_false] at h
 revert h
 cases (((j.start != 0)||(j.limit != 0))||(j.nodes != 0)) with
 | true=>intro h;cases h
 | false =>
  intro h
  simp only [cond_false,Bool.and_eq_true,decide_eq_true_eq] at h
  have hw:=h.1.2
  unfold Q42 at hw
  cases hc:((decide (j.choice<0))||(decide (j.choice >= ((Q50 j.shape).length:Int)))) with
  | true=>rw [hc] at hw;simp at hw
  | false=>simp at hc;omega
end Go.Proofs.YtcbolcknapeneaaGreatDoor
namespace Go.Proofs.YtcbolcknapeneaaGreatDoor
set_option linter.unusedSimpArgs false
set_option linter.unusedVariables false
open Go.Fw
set_option maxRecDepth 20000
set_option maxHeartbeats 4000000
attribute [local irreducible] ACalls AMoves
def QK1 (j:Job):Int:=bif ((((((decide (j.id<1))||(decide (j.id > 99999)))||(!(QB3 j.born)))||(j.used != (Qs5 j.used)))||((QM6 (Qy1 j))!=0))||(Qt0 j.after (fun (y:Dep)=>(decide (y.job >= j.id))))) then 140 else bif (j.state==1) then bif (!(Qb2 j)) then 140 else 0 else bif (j.state==2) then bif (!(Qo3 j)) then 140 else 0 else bif (!(Qy7 j.state)) then 140 else bif (!(Qg4 j)) then 140 else 0
theorem Qn6 (j:Job) (hs0:j.sz):GV 23 [Job.a j] (I (QK1 j)):=by
 generalize hR:QK1 j=R;refine ga (.cons (Job.low _ _) .nil) lx (kp 6 [42,45,51,57,64]) Tryz.func23 ?_;obtain ⟨z19,z20,z21,z22,z23⟩:=Job.zz hs0;refine dchk (by kernel_rfl) ?_;(first|apply u2|apply u3|apply u4|apply us);exact Q85 j.born _;(first|apply u2|apply u3|apply u4|apply us);exact QU8 j.used _;(first|apply u2|apply u3|apply u4|apply us);exact QO6 j _;(first|apply u2|apply u3|apply u4|apply us);exact Qld (Qy1 j) szA _;have cl1:∀ (y1:Dep),AMoves Tryz.prog 71 [Dep.a y1,AVal.ptr 0 0 20 0 0] [(0,AObj.row 35 20 [[I j.id,Sg j.name,Sg j.user,Sg j.account,I j.shape.kind,altL j.shape.alts,I j.shape.min,I j.shape.max,I j.shape.wall,I j.prio,depL j.after,I j.state,Bo j.held,I j.born,I j.promise,I j.choice,I j.start,I j.limit,U j.nodes,I j.used]])] 1 (Bo ((fun (y:Dep)=>(decide (y.job >= j.id))) y1)) [(0,AObj.row 35 20 [[I j.id,Sg j.name,Sg j.user,Sg j.account,I j.shape.kind,altL j.shape.alts,I j.shape.min,I j.shape.max,I j.shape.wall,I j.prio,depL j.after,I j.state,Bo j.held,I j.born,I j.promise,I j.choice,I j.start,I j.limit,U j.nodes,I j.used]])]:=by
  intro y1;have hR:(fun (y:Dep)=>(decide (y.job >= j.id))) y1=(fun (y:Dep)=>(decide (y.job >= j.id))) y1:=rfl;refine mo (kp 4 []) Tryz.func71 ?_;refine Qm0 (fun r:Bool=>Bo r) (fun _=>[(0,AObj.row 35 20 [[I j.id,Sg j.name,Sg j.user,Sg j.account,I j.shape.kind,altL j.shape.alts,I j.shape.min,I j.shape.max,I j.shape.wall,I j.prio,depL j.after,I j.state,Bo j.held,I j.born,I j.promise,I j.choice,I j.start,I j.limit,U j.nodes,I j.used]])]) (leaf:=(decide (y1.job >= j.id))) (foll hR rfl) ?_;exact tt [0] (tO rfl (ts Job.lo) .nil) t1
 have hof1:AMoves Tryz.prog 76 [depL j.after,AVal.fn (.func 71) [] [AVal.ptr 0 0 20 0 0]] [(0,AObj.row 35 20 [[I j.id,Sg j.name,Sg j.user,Sg j.account,I j.shape.kind,altL j.shape.alts,I j.shape.min,I j.shape.max,I j.shape.wall,I j.prio,depL j.after,I j.state,Bo j.held,I j.born,I j.promise,I j.choice,I j.start,I j.limit,U j.nodes,I j.used]])] 1 (Bo (Qt0 j.after (fun (y:Dep)=>(decide (y.job >= j.id))))) [(0,AObj.row 35 20 [[I j.id,Sg j.name,Sg j.user,Sg j.account,I j.shape.kind,altL j.shape.alts,I j.shape.min,I j.shape.max,I j.shape.wall,I j.prio,depL j.after,I j.state,Bo j.held,I j.born,I j.promise,I j.choice,I j.start,I j.limit,U j.nodes,I j.used]])]:=by
  have hR:Qt0 j.after (fun (y:Dep)=>(decide (y.job >= j.id)))=Qt0 j.after (fun (y:Dep)=>(decide (y.job >= j.id))):=rfl;refine mo (kp 5 []) Tryz.func76 ?_;have hof2:AMoves Tryz.prog 175 [depL j.after,AVal.fn (.func 71) [] [AVal.ptr 0 0 20 0 0]] [(0,AObj.row 35 20 [[I j.id,Sg j.name,Sg j.user,Sg j.account,I j.shape.kind,altL j.shape.alts,I j.shape.min,I j.shape.max,I j.shape.wall,I j.prio,depL j.after,I j.state,Bo j.held,I j.born,I j.promise,I j.choice,I j.start,I j.limit,U j.nodes,I j.used]])] 1 (I (QU0 j.after (fun (y:Dep)=>(decide (y.job >= j.id))))) [(0,AObj.row 35 20 [[I j.id,Sg j.name,Sg j.user,Sg j.account,I j.shape.kind,altL j.shape.alts,I j.shape.min,I j.shape.max,I j.shape.wall,I j.prio,depL j.after,I j.state,Bo j.held,I j.born,I j.promise,I j.choice,I j.start,I j.limit,U j.nodes,I j.used]])]:=by
   have hR:QU0 j.after (fun (y:Dep)=>(decide (y.job >= j.id)))=QU0 j.after (fun (y:Dep)=>(decide (y.job >= j.id))):=rfl;refine mo (kp 6 [7,8,9,16]) Tryz.func175 ?_;refine Qc0 (fun (i:Nat)=>QS2 (fun (y:Dep)=>(decide (y.job >= j.id))) (List.drop i j.after) i=QU0 j.after (fun (y:Dep)=>(decide (y.job >= j.id)))∧i<=j.after.length) (fun i=>j.after.length - i) (fun i=>[(0,depL j.after),(1,AVal.fn (.func 71) [] [AVal.ptr 0 0 20 0 0]),(4,I 0),(7,I (j.after.length:Int)),(8,I (i:Int))]) (fun i=>[(0,AObj.row 35 20 [[I j.id,Sg j.name,Sg j.user,Sg j.account,I j.shape.kind,altL j.shape.alts,I j.shape.min,I j.shape.max,I j.shape.wall,I j.prio,depL j.after,I j.state,Bo j.held,I j.born,I j.promise,I j.choice,I j.start,I j.limit,U j.nodes,I j.used]])]) 0 (wk [0] (tO rfl (ts Job.lo) .nil) (sl lw (sv (QH0 .nil (cv (Q10 0 rfl rfl) .nil)) (s1 (s1 (s1 .nil)))))) ⟨foll hR rfl,by exact omA⟩ ?_;clear hR;rintro i ⟨hR,hj⟩;(try dsimp only at hR hj);refine ai (fun h1=>?_) (fun h2=>?_)
   ·have hlt:=ltA h1;rw [Q90 Dep.zero hlt] at hR;refine ai gkA ?_;refine us (mv [0] (cl1 (j.after.getD i Dep.zero)) (dO (ds Job.lo) .nil) (dl (Dep.low _ _) (dp .nil)) (rO (re Job.lo) .nil) rx) ?_;refine ai (fun h3=>?_) (fun h4=>?_)
    ·refine Qm0 (fun r:Int=>I r) (fun r:Int=>[(0,AObj.row 35 20 [[I j.id,Sg j.name,Sg j.user,Sg j.account,I j.shape.kind,altL j.shape.alts,I j.shape.min,I j.shape.max,I j.shape.wall,I j.prio,depL j.after,I j.state,Bo j.held,I j.born,I j.promise,I j.choice,I j.start,I j.limit,U j.nodes,I j.used]])]) (leaf:=(i:Int)) (foll hR (ct h3 rfl)) ?_;exact tt [0] (tO rfl (ts Job.lo) .nil) t1
    ·exact Qi0 (i+1) (wk [0] (tO rfl (ts Job.lo) .nil) (sl lw (sv (QH0 .nil (cv (Q10 0 rfl rfl) .nil)) (s1 (s1 (sv (Q80 (I_eq (wr omA)) lx) .nil)))))) omA ⟨foll hR (cf h4 rfl),by exact omA⟩
   ·rw [Qf0 (l:=j.after) (j:=i) (geA h2)] at hR;refine Qm0 (fun r:Int=>I r) (fun r:Int=>[(0,AObj.row 35 20 [[I j.id,Sg j.name,Sg j.user,Sg j.account,I j.shape.kind,altL j.shape.alts,I j.shape.min,I j.shape.max,I j.shape.wall,I j.prio,depL j.after,I j.state,Bo j.held,I j.born,I j.promise,I j.choice,I j.start,I j.limit,U j.nodes,I j.used]])]) (leaf:=(-1)) (foll hR rfl) ?_;exact tt [0] (tO rfl (ts Job.lo) .nil) t1
  refine us (mv [0] (hof2) (dO (ds Job.lo) .nil) (dl lw (dv (dn_fn .nil (dp .nil)) .nil)) (rO (re Job.lo) .nil) rx) ?_;refine Qm0 (fun r:Bool=>Bo r) (fun r:Bool=>[(0,AObj.row 35 20 [[I j.id,Sg j.name,Sg j.user,Sg j.account,I j.shape.kind,altL j.shape.alts,I j.shape.min,I j.shape.max,I j.shape.wall,I j.prio,depL j.after,I j.state,Bo j.held,I j.born,I j.promise,I j.choice,I j.start,I j.limit,U j.nodes,I j.used]])]) (leaf:=(decide ((QU0 j.after (fun (y:Dep)=>(decide (y.job >= j.id)))) >= 0))) (foll hR rfl) ?_;exact tt [0] (tO rfl (ts Job.lo) .nil) t1
 (first|apply u2|apply u3|apply u4|apply us);exact mv [0] (hof1) (dO (ds Job.lo) .nil) (dl lw (dv (dn_fn .nil (dp .nil)) .nil)) (rO (re Job.lo) .nil) rx;(repeat ((first|refine ai rfl ?_|refine ai (fun _=>rfl) ?_|refine ai (fun _=>Q85 j.born _) ?_|refine ai (fun _=>QU8 j.used _) ?_|refine ai (fun _=>QO6 j _) ?_|refine ai (fun _=>Qld (Qy1 j) szA _) ?_)));refine ai (fun h5=>?_) (fun h6=>?_)
 ·obtain rfl:=foll hR (ct h5 rfl);exact Q00 lx sr
 ·refine ai (fun h7=>?_) (fun h8=>?_)
  ·refine us (QQb j szA _) ?_;refine ai (fun h9=>?_) (fun h10=>?_)
   ·obtain rfl:=foll hR (cf h6 (ct h7 (ct h9 rfl)));exact Q00 lx sr
   ·obtain rfl:=foll hR (cf h6 (ct h7 (cf h10 rfl)));exact Q00 lx sr
  ·refine ai (fun h11=>?_) (fun h12=>?_)
   ·refine us (Q6b j szA _) ?_;refine ai (fun h13=>?_) (fun h14=>?_)
    ·obtain rfl:=foll hR (cf h6 (cf h8 (ct h11 (ct h13 rfl))));exact Q00 lx sr
    ·obtain rfl:=foll hR (cf h6 (cf h8 (ct h11 (cf h14 rfl))));exact Q00 lx sr
   ·refine us (job_ended_c j.state _) ?_;refine ai (fun h15=>?_) (fun h16=>?_)
    ·obtain rfl:=foll hR (cf h6 (cf h8 (cf h12 (ct h15 rfl))));exact Q00 lx sr
    ·refine us (QLd j _) ?_;refine ai (fun h17=>?_) (fun h18=>?_)
     ·obtain rfl:=foll hR (cf h6 (cf h8 (cf h12 (cf h16 (ct h17 rfl)))));exact Q00 lx sr
     ·obtain rfl:=foll hR (cf h6 (cf h8 (cf h12 (cf h16 (cf h18 rfl)))));exact Q00 lx sr
theorem QMc {j:Job} (h:((((QK1 j)!=0)||(j.state != 1))||(decide (j.promise<0)))=false):0<=j.choice∧j.choice<((Qk0 j.shape).length:Int):=by
 simp only [Bool.or_eq_false_iff,bne_eq_false_iff_eq,decide_eq_false_iff_not] at h
 obtain ⟨⟨h1,h2⟩,h3⟩:=h
 have hq:Qb2 j=true:=by
  unfold QK1 at h1
  revert h1
  rw [show (j.state==1)=true by simpa using h2]
  cases ((((((decide (j.id<1))||(decide (j.id > 99999)))||(!(QB3 j.born)))||(j.used != (Qs5 j.used)))||((QM6 (Qy1 j))!=0))||(Qt0 j.after (fun (y:Dep)=>(decide (y.job >= j.id))))) with
  | true=>simp
  | false =>
   cases Qb2 j with
   | true=>simp
   | false=>simp
 unfold Qb2 at hq
 simp only [Bool.and_eq_true,Bool.or_eq_true] at hq
 rcases hq.2 with hp|hp
 ·have:=hp.1
  simp at this
  omega
 ·have ho:=hp.1.2
  unfold QX0 at ho
  cases hc:((decide (j.choice<0))||(decide (j.choice >= ((Qk0 j.shape).length:Int)))) with
  | true=>rw [hc] at ho;cases ho
  | false=>simp at hc;omega
def QP3 :List Job->Int->Nat->Int
 | [],_,_=>0
 | x_ :: r,last,i=>bif ((((i:Int)==40)||((Q51 x_)!=0))||(decide (x_.id<=last))) then 140 else QP3 r x_.id (i+1)
def QO3 (l:List Job):Int:=QP3 l 0 0
theorem ref15_Check_c (l:List Job) (hs0:l.length<=4294967296∧(∀ y ∈ l,y.sz)):GV 220 [jobL l] (I (QO3 l)):=by
 generalize hR:QO3 l=R;refine ga (.cons lw .nil) lx (kp 5 [8,29]) Tryz.func220 ?_;obtain ⟨z10,z11⟩:=id hs0;refine Qh0 (fun (last:Int) (i:Nat)=>QP3 (List.drop i l) last i=R∧i<=l.length) (fun last i=>l.length - i) (fun last i=>[(0,jobL l),(2,I 0),(3,I last),(4,I (i:Int))]) (fun last i=>[]) 0 0 (wk [] .nil (sl lw (s1 (s1 (s1 .nil))))) ⟨foll hR rfl,by exact omA⟩ ?_;clear hR;rintro last i ⟨hR,hj⟩;(try dsimp only at hR hj);refine ai (fun h1=>?_) (fun h2=>?_)
 ·have hlt:=ltA h1;rw [Q90 Job.zero hlt] at hR;have hxz:(l.getD i Job.zero).sz:=Qy0 (by first|assumption|grind) (Job.szz _);have hkz:=hxz;obtain ⟨z3,z4,z5,z6,z7⟩:=Job.zz hxz;refine ai gkA ?_;(first|apply u2|apply u3|apply u4|apply us);exact Qmb (l.getD i Job.zero) szA _;refine ai gkA ?_;refine ai (fun h8=>?_) (fun h9=>?_)
  ·obtain rfl:=foll hR (ct h8 rfl);exact Q00 lx sr
  ·refine ai gkA ?_;exact Q60 ((l.getD i Job.zero).id) (i+1) (wk [] .nil (sl lw (s1 (s1 (sv (Q80 (I_eq (wr omA)) lx) .nil))))) omA ⟨foll hR (cf h9 rfl),by exact omA⟩
 ·rw [Qf0 (l:=l) (j:=i) (geA h2)] at hR;obtain rfl:=foll hR rfl;exact Q00 lx sr
theorem ref15_each:∀ (l:List Job) (last:Int) (i:Nat),QP3 l last i=0 -> ∀ x ∈ l,((Q51 x)!=0)=false
 | [],_,_,_,x,hx=>absurd hx List.not_mem_nil
 | y :: r,last,i,h,x,hx=>by
  rw [QP3] at h
  cases hc:((((i:Int)==40)||((Q51 y)!=0))||(decide (y.id<=last))) with
  | true=>rw [hc] at h;cases h
  | false =>
   rw [hc] at h
   simp only [Bool.or_eq_false_iff] at hc
   rcases List.mem_cons.1 hx with rfl|hx
   ·exact hc.1.2
   ·exact ref15_each r y.id (i+1) h x hx
theorem QP8 {l:List Job} (h:((QO3 l)!=0)=false):∀ y ∈ l,((y.state != 1)||(y.promise==(-1)))=false->0<=y.choice∧y.choice<((Q50 y.shape).length:Int) :=
 fun y hy=>Qx9 (Qf5 (ref15_each l 0 0 (show QO3 l=0 by simpa using h) y hy))
end Go.Proofs.YtcbolcknapeneaaGreatDoor
namespace Go.Proofs.YtcbolcknapeneaaGreatDoor
set_option linter.unusedSimpArgs false
set_option linter.unusedVariables false
open Go.Fw
set_option maxRecDepth 20000
set_option maxHeartbeats 4000000
attribute [local irreducible] ACalls AMoves
def QO4 (l:List Job):List Job->Nat->Int
 | [],_=>0
 | x_ :: r,i=>bif (((QK1 x_)!=0)||((decide ((i:Int) > 0))&&(decide ((l.getD (Int.toNat (w64 ((i:Int) - 1))) Job.zero).id >= x_.id)))) then 140 else QO4 l r (i+1)
def QC1 (l:List Job):Int:=bif (decide ((l.length:Int) > 40)) then 140 else QO4 l l 0
theorem Qd7 (l:List Job) (hs0:l.length<=4294967296∧(∀ y ∈ l,y.sz)):GV 156 [jobL l] (I (QC1 l)):=by
 generalize hR:QC1 l=R;refine ga (.cons lw .nil) lx (kp 5 [7,8,9,10,11,32]) Tryz.func156 ?_;obtain ⟨z12,z13⟩:=id hs0;refine ai (fun h1=>?_) (fun h2=>?_)
 ·have qh1:=of_decide_eq_true h1;obtain rfl:=foll hR (ct h1 rfl);exact Q00 lx sr
 ·have qh2:=of_decide_eq_false h2;refine Qc0 (fun (i:Nat)=>QO4 l (List.drop i l) i=R∧i<=l.length) (fun i=>l.length - i) (fun i=>[(0,jobL l),(2,I 0),(8,jobL l),(9,I (l.length:Int)),(10,I (i:Int))]) (fun i=>[]) 0 (wk [] .nil (sl lw (s1 (sl lw (s1 (s1 .nil)))))) ⟨foll hR (cf h2 rfl),by exact omA⟩ ?_;clear hR;rintro i ⟨hR,hj⟩;(try dsimp only at hR hj);refine ai (fun h3=>?_) (fun h4=>?_)
  ·have hlt:=ltA h3;rw [Q90 Job.zero hlt] at hR;have hxz:(l.getD i Job.zero).sz:=Qy0 (by first|assumption|grind) (Job.szz _);have hkz:=hxz;obtain ⟨z5,z6,z7,z8,z9⟩:=Job.zz hxz;refine ai gkA ?_;refine dchk (by kernel_rfl) ?_;(first|apply u2|apply u3|apply u4|apply us);exact Qn6 (l.getD i Job.zero) szA _;refine ai gkA ?_;(repeat ((first|refine ai rfl ?_|refine ai (fun _=>rfl) ?_|refine ai (fun _=>Qn6 (l.getD i Job.zero) szA _) ?_)));refine ai (fun h10=>?_) (fun h11=>?_)
   ·obtain rfl:=foll hR (ct h10 rfl);exact Q00 lx sr
   ·exact Qi0 (i+1) (wk [] .nil (sl lw (s1 (sl lw (s1 (sv (Q80 (I_eq (wr omA)) lx) .nil)))))) omA ⟨foll hR (cf h11 rfl),by exact omA⟩
  ·rw [Qf0 (l:=l) (j:=i) (geA h4)] at hR;obtain rfl:=foll hR rfl;exact Q00 lx sr
def Q30 (j:Job):Int × Int × Int × Bool:=bif ((((QK1 j)!=0)||(j.state != 1))||(decide (j.promise<0))) then (0,0,0,false) else (j.promise,(w64 (((Qk0 j.shape).getD (Int.toNat j.choice) Alt.zero).wall+12)),((Qk0 j.shape).getD (Int.toNat j.choice) Alt.zero).nodes,true)
theorem QC9 (j:Job) (hs0:j.sz):GV 54 [Job.a j] (AVal.tup [I ((Q30 j).1),I ((Q30 j).2.1),I ((Q30 j).2.2.1),Bo ((Q30 j).2.2.2)]):=by
 generalize hR:Q30 j=R;refine ga (.cons (Job.low _ _) .nil) (Low.tup' (l1 (l1 (l1 (l1 .nil))))) (kp 7 [19]) Tryz.func54 ?_;obtain ⟨z3,z4,z5,z6,z7⟩:=Job.zz hs0;refine us (Qn6 j szA _) ?_;refine ai (fun h1=>?_) (fun h2=>?_)
 ·obtain rfl:=foll hR (ct h1 rfl);exact Q00 (Low.tup' (l1 (l1 (l1 (l1 .nil))))) (Seen.tup (e1 (e1 (e1 (e1 .nil)))))
 ·refine dchk (by kernel_rfl) ?_;(first|apply u2|apply u3|apply u4|apply us);exact QG2 j.shape szA _;refine And.intro (by first|exact fun hg=>decide_eq_true (by first|((have q:=QMc (by assumption);omega))|exact ckA)|exact gkA) ?_;(repeat ((first|refine ai rfl ?_|refine ai (fun _=>rfl) ?_|refine ai (fun _=>QG2 j.shape szA _) ?_)));(try (refine dchk (by kernel_rfl) ?_));(repeat ((first|refine ai rfl ?_|refine ai (fun _=>rfl) ?_)));obtain rfl:=foll hR (cf h2 rfl);exact Q00 (Low.tup' (l1 (l1 (l1 (l1 .nil))))) (Seen.tup (e1 (e1 (e1 (e1 .nil)))))
def Qx1 (j:Job) (at_:Int) (choice:Int):Job × Int:=bif ((QK1 j)!=0) then (Job.zero,(QK1 j)) else bif ((j.state != 1)||j.held) then (Job.zero,141) else bif ((!(QX0 j choice).2)||(!(QB3 at_))) then (Job.zero,2) else ({ j with promise:=at_,choice:=choice },0)
theorem job_Promise_c (j:Job) (at_:Int) (choice:Int) (hs0:j.sz):GV 63 [Job.a j,I at_,I choice] (AVal.tup [Job.a ((Qx1 j at_ choice).1),I ((Qx1 j at_ choice).2)]):=by
 generalize hR:Qx1 j at_ choice=R;refine ga (.cons (Job.low _ _) (l1 (l1 .nil))) (Low.tup' (.cons (Job.low _ _) (l1 .nil))) (kp 9 []) Tryz.func63 ?_;obtain ⟨z7,z8,z9,z10,z11⟩:=Job.zz hs0;refine ACalls.of_cwp (fun _=>true) Tryz.func164 rfl rfl ?_;refine us (Qn6 j szA _) ?_;refine ai (fun h1=>?_) (fun h2=>?_)
 ·refine ⟨_,_,Told.refl,?_⟩;obtain rfl:=foll hR (ct h1 rfl);exact Q00 (Low.tup' (.cons (Job.low _ _) (l1 .nil))) (Seen.tup (ev (Seen.agg (e1 (e1 (e1 (e1 (e1 (ev (Qs0) (e1 (e1 (e1 (e1 (ev (Qs0) (e1 (e1 (e1 (e1 (e1 (e1 (e1 (e1 (e1 .nil))))))))))))))))))))) (e1 .nil)))
 ·refine ACalls.of_cwp (fun _=>true) Tryz.func162 rfl rfl ?_;refine ai (fun h3=>?_) (fun h4=>?_)
  ·refine ⟨_,_,Told.refl,?_⟩;refine ai (fun _=>?_) (fun h=>nomatch h);refine ⟨_,_,Told.refl,?_⟩;obtain rfl:=foll hR (cf h2 (ct h3 rfl));exact Q00 (Low.tup' (.cons (Job.low _ _) (l1 .nil))) (Seen.tup (ev (Seen.agg (e1 (e1 (e1 (e1 (e1 (ev (Qs0) (e1 (e1 (e1 (e1 (ev (Qs0) (e1 (e1 (e1 (e1 (e1 (e1 (e1 (e1 (e1 .nil))))))))))))))))))))) (e1 .nil)))
  ·refine us (Qo6 j choice szA _) ?_;(first|apply u2|apply u3|apply u4|apply us);exact Q85 at_ _;refine ai (fun h5=>?_) (fun h6=>?_)
   ·refine ⟨_,_,Told.refl,?_⟩;refine ai (fun _=>?_) (fun h=>nomatch h);refine ⟨_,_,Told.refl,?_⟩;obtain rfl:=foll hR (cf h2 (cf h4 (ct h5 rfl)));exact Q00 (Low.tup' (.cons (Job.low _ _) (l1 .nil))) (Seen.tup (ev (Seen.agg (e1 (e1 (e1 (e1 (e1 (ev (Qs0) (e1 (e1 (e1 (e1 (ev (Qs0) (e1 (e1 (e1 (e1 (e1 (e1 (e1 (e1 (e1 .nil))))))))))))))))))))) (e1 .nil)))
   ·refine ⟨_,_,Told.refl,?_⟩;refine ai (fun h=>nomatch h) (fun _=>?_);refine us (Qhc j szA _) ?_;refine ACalls.of_cwp (fun _=>true) Tryz.func165 rfl rfl ?_;refine dchk (by kernel_rfl) ?_;(repeat ((first|refine ai rfl ?_|refine ai (fun _=>rfl) ?_)));refine ⟨_,_,Told.refl,?_⟩;refine ⟨_,_,Told.refl,?_⟩;obtain rfl:=foll hR (cf h2 (cf h4 (cf h6 rfl)));exact Q00 (Low.tup' (.cons (Job.low _ _) (l1 .nil))) (Seen.tup (e1 (e1 .nil)))
theorem Q8a {j:Job} (a c:Int) (h:j.sz):(Qx1 j a c).1.sz:=by
 unfold Qx1
 repeat' first|exact Job.szz _|exact h|(rw [Bool.cond_eq_ite];split)
def Q57 (j:Job):Job × Int:=bif ((QK1 j)!=0) then (Job.zero,(QK1 j)) else bif ((Q0d (j.state==1))!=0) then (Job.zero,(Q0d (j.state==1))) else ({ j with promise:=(-1),choice:=0 },0)
theorem job_Drop_c (j:Job) (hs0:j.sz):GV 81 [Job.a j] (AVal.tup [Job.a ((Q57 j).1),I ((Q57 j).2)]):=by
 generalize hR:Q57 j=R;refine ga (.cons (Job.low _ _) .nil) (Low.tup' (.cons (Job.low _ _) (l1 .nil))) (kp 4 []) Tryz.func81 ?_;obtain ⟨z5,z6,z7,z8,z9⟩:=Job.zz hs0;refine ACalls.of_cwp (fun _=>true) Tryz.func164 rfl rfl ?_;refine us (Qn6 j szA _) ?_;refine ai (fun h1=>?_) (fun h2=>?_)
 ·refine ⟨_,_,Told.refl,?_⟩;obtain rfl:=foll hR (ct h1 rfl);exact Q00 (Low.tup' (.cons (Job.low _ _) (l1 .nil))) (Seen.tup (ev (Seen.agg (e1 (e1 (e1 (e1 (e1 (ev (Qs0) (e1 (e1 (e1 (e1 (ev (Qs0) (e1 (e1 (e1 (e1 (e1 (e1 (e1 (e1 (e1 .nil))))))))))))))))))))) (e1 .nil)))
 ·refine ACalls.of_cwp (fun _=>true) Tryz.func178 rfl rfl ?_;refine us (job_when_c (j.state==1) _) ?_;refine ⟨_,_,Told.refl,?_⟩;refine ai (fun h3=>?_) (fun h4=>?_)
  ·refine ⟨_,_,Told.refl,?_⟩;obtain rfl:=foll hR (cf h2 (ct h3 rfl));exact Q00 (Low.tup' (.cons (Job.low _ _) (l1 .nil))) (Seen.tup (ev (Seen.agg (e1 (e1 (e1 (e1 (e1 (ev (Qs0) (e1 (e1 (e1 (e1 (ev (Qs0) (e1 (e1 (e1 (e1 (e1 (e1 (e1 (e1 (e1 .nil))))))))))))))))))))) (e1 .nil)))
  ·refine us (Qhc j szA _) ?_;refine ACalls.of_cwp (fun _=>true) Tryz.func180 rfl rfl ?_;refine ⟨_,_,Told.refl,?_⟩;refine ⟨_,_,Told.refl,?_⟩;obtain rfl:=foll hR (cf h2 (cf h4 rfl));exact Q00 (Low.tup' (.cons (Job.low _ _) (l1 .nil))) (Seen.tup (e1 (e1 .nil)))
theorem QJd {j:Job} (h:j.sz):(Q57 j).1.sz:=by
 unfold Q57
 repeat' first|exact Job.szz _|exact h|(rw [Bool.cond_eq_ite];split)
def QR3 (s:State):Int:=bif ((((!(Qg1 s.now))||((QJ7 s.nodes)!=0))||((QO3 s.jobs)!=0))||((QG5 s.books)!=0)) then 141 else 0
theorem ref20_Check_c (s:State) (hs0:s.sz):GV 141 [State.a s] (I (QR3 s)):=by
 generalize hR:QR3 s=R;refine ga (.cons (State.low _ _) .nil) lx (kp 3 [24]) Tryz.func141 ?_;have hk0:=hs0;obtain ⟨z3,z4,z5,z6,z7,z8,z9⟩:=hs0;refine us (Qb4 s.now _) ?_;(first|apply u2|apply u3|apply u4|apply us);exact ref12_Check_c s.nodes szA _;(first|apply u2|apply u3|apply u4|apply us);exact ref15_Check_c s.jobs szA _;(first|apply u2|apply u3|apply u4|apply us);exact ref19_Check_c s.books szA _;refine ai (fun h1=>?_) (fun h2=>?_)
 ·obtain rfl:=foll hR (ct h1 rfl);exact Q00 lx sr
 ·obtain rfl:=foll hR (cf h2 rfl);exact Q00 lx sr
theorem Qz5 {s:State} (h:((QR3 s)!=0)=false):((QO3 s.jobs)!=0)=false:=by
 simp only [QR3] at h
 revert h
 cases ((QO3 s.jobs)!=0) with
 | true=>simp
 | false=>intro _;rfl
end Go.Proofs.YtcbolcknapeneaaGreatDoor
