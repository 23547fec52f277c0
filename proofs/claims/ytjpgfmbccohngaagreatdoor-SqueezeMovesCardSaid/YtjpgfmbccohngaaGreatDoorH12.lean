/-
  Contracts of functions, printed by a program of this repo (wip/dec). No condition beyond those that stand in each.
-/
import Derived.Test.YtjpgfmbccohngaaGreatDoorH11
import Derived.Test.YtjpgfmbccohngaaGreatDoorProg
namespace Go.Proofs.YtjpgfmbccohngaaGreatDoor
set_option linter.unusedSimpArgs false
set_option linter.unusedVariables false
open Go.Fw
set_option maxRecDepth 20000
set_option maxHeartbeats 4000000
attribute [local irreducible] ACalls AMoves
def Qe0 (r_:LexReader):Token × LexReader:=bif ((Qg1 (r_.line.getD (Int.toNat r_.at_) 0))==2) then ((Qd2 r_).1,(Qd2 r_).2) else bif ((Qg1 (r_.line.getD (Int.toNat r_.at_) 0))==3) then ((QE1 r_).1,(QE1 r_).2) else bif ((r_.line.getD (Int.toNat r_.at_) 0)==34) then ((QW1 r_).1,(QW1 r_).2) else bif ((decide ((QW5 ⟨#[61,58,44,45]⟩ (wu8 (r_.line.getD (Int.toNat r_.at_) 0))) >= 0))&&(decide ((r_.line.getD (Int.toNat r_.at_) 0)<128))) then ((⟨5,(runeStr (r_.line.getD (Int.toNat r_.at_) 0)),0,0⟩:Token),{ r_ with at_:=(w64 (r_.at_+1)) }) else bif ((Qg1 (r_.line.getD (Int.toNat r_.at_) 0))==0) then (Token.zero,(QS0 r_ r_.at_ 40)) else (Token.zero,(QS0 r_ r_.at_ 50))
theorem QTc (r_:LexReader) (hs0:r_.sz) (hp0:0<=r_.at_∧r_.at_<(r_.line.length:Int)∧r_.line.length<=400):AMoves Tryz.prog 284 [AVal.ptr 0 0 4 0 0] [(0,AObj.row 273 4 [[runes r_.line,I r_.at_,I r_.bad,I r_.error]])] 1 (Token.a ((Qe0 r_).1)) [(0,AObj.row 273 4 [[runes ((Qe0 r_).2.line),I ((Qe0 r_).2.at_),I ((Qe0 r_).2.bad),I ((Qe0 r_).2.error)]])]:=by
 generalize hR:Qe0 r_=R;refine mo (kp 4 [20,26,32,37,56]) Tryz.func284 ?_;have hk0:=hs0;obtain z11:r_.line.length<=4294967296:=hs0;refine dchk (by kernel_rfl) ?_;refine ai gkA ?_;(repeat ((first|refine ai rfl ?_|refine ai (fun _=>rfl) ?_)));refine us (QW4 (r_.line.getD (Int.toNat r_.at_) 0) _) ?_;refine ai (fun h1=>?_) (fun h2=>?_)
 ·refine us (mv [0] (QVc r_ szA ckA) (dO (ds LexReader.lo) .nil) (dp .nil) (rO (re LexReader.lo) .nil) (Ren.low _ (Low.agg' (Token.lo)))) ?_;obtain rfl:=foll hR (ct h1 rfl);exact rq (tt [0] (tO rfl (ts LexReader.lo) .nil) (Qa1 (Low.agg' (Token.lo))))
 ·refine us (QW4 (r_.line.getD (Int.toNat r_.at_) 0) _) ?_;refine ai (fun h3=>?_) (fun h4=>?_)
  ·refine us (mv [0] (Q6c r_ szA ckA) (dO (ds LexReader.lo) .nil) (dp .nil) (rO (re LexReader.lo) .nil) (Ren.low _ (Low.agg' (Token.lo)))) ?_;obtain rfl:=foll hR (cf h2 (ct h3 rfl));exact rq (tt [0] (tO rfl (ts LexReader.lo) .nil) (Qa1 (Low.agg' (Token.lo))))
  ·refine ai (fun h5=>?_) (fun h6=>?_)
   ·refine us (mv [0] (QUc r_ szA ckA) (dO (ds LexReader.lo) .nil) (dp .nil) (rO (re LexReader.lo) .nil) (Ren.low _ (Low.agg' (Token.lo)))) ?_;obtain rfl:=foll hR (cf h2 (cf h4 (ct h5 rfl)));exact rq (tt [0] (tO rfl (ts LexReader.lo) .nil) (Qa1 (Low.agg' (Token.lo))))
   ·refine us (Qub ⟨#[61,58,44,45]⟩ (wu8 (r_.line.getD (Int.toNat r_.at_) 0)) _) ?_;refine ai (fun h7=>?_) (fun h8=>?_)
    ·obtain rfl:=foll hR (cf h2 (cf h4 (cf h6 (ct h7 rfl))));exact rq (tt [0] (tO rfl (ts LexReader.lo) .nil) (Qa1 (Low.agg' (Token.lo))))
    ·refine us (QW4 (r_.line.getD (Int.toNat r_.at_) 0) _) ?_;refine ai (fun h9=>?_) (fun h10=>?_)
     ·refine us (mv [0] (Qy3 r_ r_.at_ 40) (dO (ds LexReader.lo) .nil) (dp (d1 (d1 .nil))) (rO (re LexReader.lo) .nil) rx) ?_;obtain rfl:=foll hR (cf h2 (cf h4 (cf h6 (cf h8 (ct h9 rfl)))));exact rq (tt [0] (tO rfl (ts LexReader.lo) .nil) (Qa1 (Low.agg' (Token.lo))))
     ·refine us (mv [0] (Qy3 r_ r_.at_ 50) (dO (ds LexReader.lo) .nil) (dp (d1 (d1 .nil))) (rO (re LexReader.lo) .nil) rx) ?_;obtain rfl:=foll hR (cf h2 (cf h4 (cf h6 (cf h8 (cf h10 rfl)))));exact rq (tt [0] (tO rfl (ts LexReader.lo) .nil) (Qa1 (Low.agg' (Token.lo))))
def Adv (a b:LexReader):Prop:=b.line=a.line∧a.at_<=b.at_∧b.at_<=(a.line.length:Int)∧b.error=a.error∧b.bad=a.bad
theorem Qs9 (is:Int->Bool):∀ (m:Nat) (c:LexReader),0<=c.at_->c.at_<=(c.line.length:Int)->c.line.length<=400->(Int.toNat ((c.line.length:Int) - c.at_))<m->Adv c (Qy0 is m c)
 | 0,c,_,_,_,h=>absurd h (by omega)
 | m+1,c,h0,h1,h2,h=>by
  rw [Qy0]
  cases hc:((decide (c.at_<(c.line.length:Int)))&&(is (c.line.getD (Int.toNat c.at_) 0))) with
  | false=>exact ⟨rfl,Int.le_refl _,h1,rfl,rfl⟩
  | true =>
   have hlt:=of_decide_eq_true ((Bool.and_eq_true _ _).mp hc).1
   have hw:w64 (c.at_+1)=c.at_+1:=wr (by omega)
   rw [hw]
   obtain ⟨a,b,d,e,f⟩:=Qs9 is m { c with at_:=c.at_+1 } (by dsimp only;omega) (by dsimp only;omega) h2 (by dsimp only;omega)
   dsimp only at a b d e f
   exact ⟨a,by simp only [cond_true];omega,d,e,f⟩
theorem Q26 (r:LexReader) (is:Int->Bool) (h0:0<=r.at_) (h1:r.at_<=(r.line.length:Int)) (h2:r.line.length<=400):Adv r (Q30 r is).2 :=
 Qs9 is _ r h0 h1 h2 (Nat.lt_succ_self _)
theorem Q88 (r:LexReader) (is:Int->Bool) (h0:0<=r.at_) (h1:r.at_<(r.line.length:Int)) (h2:r.line.length<=400) (h:is (r.line.getD (Int.toNat r.at_) 0)=true):r.at_<(Q30 r is).2.at_:=by
 have hw:w64 (r.at_+1)=r.at_+1:=wr (by omega)
 have e:(Q30 r is).2=Qy0 is (Int.toNat ((r.line.length:Int) - r.at_)) { r with at_:=r.at_+1 }:=by
  show Qy0 is ((Int.toNat ((r.line.length:Int) - r.at_))+1) r=_
  rw [Qy0,show ((decide (r.at_<(r.line.length:Int)))&&(is (r.line.getD (Int.toNat r.at_) 0)))=true by rw [h,Bool.and_true];exact decide_eq_true h1,hw]
  rfl
 rw [e]
 have:=(Qs9 is (Int.toNat ((r.line.length:Int) - r.at_)) { r with at_:=r.at_+1 } (by dsimp only;omega) (by dsimp only;omega) h2 (by dsimp only;omega)).2.1
 dsimp only at this
 omega
theorem Q5a (r:LexReader) (p e:Int) (he:e ≠ 0):(QS0 r p e).line=r.line∧(QS0 r p e).at_=r.at_∧(QS0 r p e).error ≠ 0:=by
 unfold QS0
 cases h:(r.error==0) with
 | true=>exact ⟨rfl,rfl,he⟩
 | false=>exact ⟨rfl,rfl,by simpa using h⟩
def Nxt (a b:LexReader):Prop:=b.line=a.line∧a.at_<=b.at_∧b.at_<=(a.line.length:Int)∧(b.error ≠ 0∨a.at_<b.at_)
theorem lex_word_nxt (r:LexReader) (h0:0<=r.at_) (h1:r.at_<(r.line.length:Int)) (h2:r.line.length<=400) (hc:((Qg1 (r.line.getD (Int.toNat r.at_) 0))==2)=true):Nxt r (Qd2 r).2:=by
 obtain ⟨a,b,c,_,_⟩:=Q26 r (fun (y:Int)=>Qi0 y ([2,3]:List Int) 0) h0 (by omega) h2
 exact ⟨a,b,c,Or.inr (Q88 r _ h0 h1 h2 (by simp only [Qi0,hc];rfl))⟩
theorem class_digit (x:Int) (h:(Qg1 x==3)=true):48<=x∧x<=57:=by
 unfold Qg1 at h
 revert h
 cases ((x==9)||(x==32)) with
 | true=>simp
 | false =>
  simp only [cond_false]
  cases (((((decide (x<32))||((decide (x >= 127))&&(decide (x<=160))))||((decide (x >= 55296))&&(decide (x<=57343))))||(x==65533))||(decide (x > 1114111))) with
  | true=>simp
  | false =>
   simp only [cond_false]
   cases hd:((decide (x >= 48))&&(decide (x<=57))) with
   | true=>intro _;simp at hd;omega
   | false =>
    simp only [cond_false]
    cases ((((decide (x >= 97))&&(decide (x<=122)))||((decide (x >= 65))&&(decide (x<=90))))||(decide (x > 160))) <;> simp
theorem lex_count_nxt (r:LexReader) (h0:0<=r.at_) (h1:r.at_<(r.line.length:Int)) (h2:r.line.length<=400) (hc:((Qg1 (r.line.getD (Int.toNat r.at_) 0))==3)=true):Nxt r (QE1 r).2:=by
 obtain ⟨a,b,c,_,_⟩:=Q26 r (fun (y:Int)=>(((decide (y >= 48))&&(decide (y<=57)))||((decide (y >= 97))&&(decide (y<=122))))) h0 (by omega) h2
 have hd:=class_digit _ hc
 have l:=Q88 r (fun (y:Int)=>(((decide (y >= 48))&&(decide (y<=57)))||((decide (y >= 97))&&(decide (y<=122))))) h0 h1 h2 (by simp only [decide_eq_true hd.1,decide_eq_true hd.2];rfl)
 unfold QE1
 cases (!(QS7 ((Q30 r (fun (y:Int)=>(((decide (y >= 48))&&(decide (y<=57)))||((decide (y >= 97))&&(decide (y<=122)))))).1))) with
 | true=>exact ⟨a,b,c,Or.inr l⟩
 | false =>
  simp only [cond_false]
  cases (!(Q17 ((Q30 r (fun (y:Int)=>(((decide (y >= 48))&&(decide (y<=57)))||((decide (y >= 97))&&(decide (y<=122)))))).1)).2) with
  | false=>exact ⟨a,b,c,Or.inr l⟩
  | true =>
   obtain ⟨f1,f2,f3⟩:=Q5a (Q30 r (fun (y:Int)=>(((decide (y >= 48))&&(decide (y<=57)))||((decide (y >= 97))&&(decide (y<=122)))))).2 r.at_ 50 (by decide)
   exact ⟨f1.trans a,by simp only [cond_true];rw [f2];exact b,by simp only [cond_true];rw [f2];exact c,Or.inl f3⟩
theorem Qxd:∀ (m:Nat) (c:LexReader) (b:Bool),0<=c.at_->c.at_<=(c.line.length:Int)->c.line.length<=400->(Int.toNat ((c.line.length:Int) - c.at_))<m->Adv c (Qa2 m c b).1
 | 0,c,_,_,_,_,h=>absurd h (by omega)
 | m+1,c,b,h0,h1,h2,h=>by
  rw [Qa2]
  cases hc:((decide (c.at_<(c.line.length:Int)))&&(Qo1 (c.line.getD (Int.toNat c.at_) 0) b).1) with
  | false=>exact ⟨rfl,Int.le_refl _,h1,rfl,rfl⟩
  | true =>
   have hlt:=of_decide_eq_true ((Bool.and_eq_true _ _).mp hc).1
   have hw:w64 (c.at_+1)=c.at_+1:=wr (by omega)
   rw [hw]
   obtain ⟨a,b,d,e,f⟩:=Qxd m { c with at_:=c.at_+1 } _ (by dsimp only;omega) (by dsimp only;omega) h2 (by dsimp only;omega)
   dsimp only at a b d e f
   exact ⟨a,by simp only [cond_true];omega,d,e,f⟩
theorem lex_text_nxt (r:LexReader) (h0:0<=r.at_) (h1:r.at_<(r.line.length:Int)) (h2:r.line.length<=400):Nxt r (QW1 r).2:=by
 obtain ⟨a,b,c,_,_⟩:=Qxd _ r true h0 (by omega) h2 (Nat.lt_succ_self _)
 unfold QW1
 generalize (Qa2 ((Int.toNat ((r.line.length:Int) - r.at_))+1) r true).1=q at a b c
 unfold QB2
 have ff:∀ (x:LexReader) (p e:Int),e ≠ 0->x.line=r.line->r.at_<=x.at_->x.at_<=(r.line.length:Int)->Nxt r (QS0 x p e):=by
  intro x p e he hx hp hq
  obtain ⟨f1,f2,f3⟩:=Q5a x p e he
  exact ⟨f1.trans hx,by rw [f2];exact hp,by rw [f2];exact hq,Or.inl f3⟩
 cases h3:(q.at_==(q.line.length:Int)) with
 | true=>exact ff q _ _ (by decide) a b c
 | false =>
  simp only [cond_false]
  have h3':q.at_ ≠ (r.line.length:Int):=by rw [a] at h3;simpa using h3
  have hw:w64 (q.at_+1)=q.at_+1:=wr (by omega)
  cases ((q.line.getD (Int.toNat q.at_) 0)!=34) with
  | true=>exact ff q _ _ (by decide) a b c
  | false =>
   simp only [cond_false]
   rw [hw]
   cases h4:((Qh3 (runesBytes (List.drop (Int.toNat r.at_) (List.take (Int.toNat (q.at_+1)) q.line)))).2 != 0) with
   | true=>exact ff { q with at_:=q.at_+1 } _ _ (by simpa using h4) a (by show r.at_<=q.at_+1;omega) (by show q.at_+1<=_;omega)
   | false=>exact ⟨a,by show r.at_<=q.at_+1;omega,by show q.at_+1<=_;omega,Or.inr (by show r.at_<q.at_+1;omega)⟩
theorem lex_next_nxt (r:LexReader) (h0:0<=r.at_) (h1:r.at_<(r.line.length:Int)) (h2:r.line.length<=400):Nxt r (Qe0 r).2:=by
 have hw:w64 (r.at_+1)=r.at_+1:=wr (by omega)
 have ff:∀ (e:Int),e ≠ 0->Nxt r (QS0 r r.at_ e):=by
  intro e he
  obtain ⟨f1,f2,f3⟩:=Q5a r r.at_ e he
  exact ⟨f1,by rw [f2];exact Int.le_refl _,by rw [f2];omega,Or.inl f3⟩
 unfold Qe0
 cases hc:((Qg1 (r.line.getD (Int.toNat r.at_) 0))==2) with
 | true=>exact lex_word_nxt r h0 h1 h2 hc
 | false =>
  simp only [cond_false]
  cases hd:((Qg1 (r.line.getD (Int.toNat r.at_) 0))==3) with
  | true=>exact lex_count_nxt r h0 h1 h2 hd
  | false =>
   simp only [cond_false]
   cases ((r.line.getD (Int.toNat r.at_) 0)==34) with
   | true=>exact lex_text_nxt r h0 h1 h2
   | false =>
    simp only [cond_false]
    cases ((decide ((QW5 ⟨#[61,58,44,45]⟩ (wu8 (r.line.getD (Int.toNat r.at_) 0))) >= 0))&&(decide ((r.line.getD (Int.toNat r.at_) 0)<128))) with
    | true=>rw [hw];exact ⟨rfl,by show r.at_<=r.at_+1;omega,by show r.at_+1<=_;omega,Or.inr (by show r.at_<r.at_+1;omega)⟩
    | false =>
     simp only [cond_false]
     cases ((Qg1 (r.line.getD (Int.toNat r.at_) 0))==0) with
     | true=>exact ff 40 (by decide)
     | false=>exact ff 50 (by decide)
theorem lex_round (r c:LexReader) (b:Int->Bool) (h0:0<=r.at_) (h1:r.at_<=(r.line.length:Int)) (h2:r.line.length<=400) (he:(r.error==0)=true) (e:c=(Q30 r b).2) (hn:(c.at_==(c.line.length:Int))=false) :
  (0<=c.at_∧c.at_<(c.line.length:Int)∧c.line.length<=400)∧(0<=(Qe0 c).2.at_∧(Qe0 c).2.at_<=((Qe0 c).2.line.length:Int)∧(Qe0 c).2.line.length<=400) ∧
  2*Int.toNat (((Qe0 c).2.line.length:Int) - (Qe0 c).2.at_)+(bif (Qe0 c).2.error==0 then 1 else 0)<2*Int.toNat ((r.line.length:Int) - r.at_)+(bif r.error==0 then 1 else 0) ∧
  (((Qe0 c).2.error==0)=true->r.at_+1<=(Qe0 c).2.at_):=by
 obtain ⟨a1,a2,a3,a4,a5⟩:=Q26 r b h0 h1 h2
 rw [← e] at a1 a2 a3 a4 a5
 have hn':c.at_ ≠ (r.line.length:Int):=by rw [a1] at hn;simpa using hn
 have hc:0<=c.at_∧c.at_<(c.line.length:Int)∧c.line.length<=400:=by rw [a1];omega
 obtain ⟨n1,n2,n3,n4⟩:=lex_next_nxt c hc.1 hc.2.1 hc.2.2
 rw [he]
 rw [a1] at n1 n3
 refine ⟨hc,by rw [n1];omega,?_⟩
 rw [n1]
 rcases n4 with n4|n4
 ·have:((Qe0 c).2.error==0)=false:=by simpa using n4
  rw [this]
  simp only [cond_true,cond_false]
  exact ⟨by omega,fun h=>nomatch h⟩
 ·refine ⟨?_,fun _=>by omega⟩
  cases ((Qe0 c).2.error==0) <;> simp only [cond_true,cond_false] <;> omega
def Q41 (v:Job) (choice:Int):Alt × Bool:=bif ((decide (choice<0))||(decide (choice >= ((QH0 v.shape).length:Int)))) then (Alt.zero,false) else (((QH0 v.shape).getD (Int.toNat choice) Alt.zero),true)
theorem QZ6 (v:Job) (choice:Int) (hs0:v.sz):GV 133 [Job.a v,I choice] (AVal.tup [Alt.a ((Q41 v choice).1),Bo ((Q41 v choice).2)]):=by
 generalize hR:Q41 v choice=R;refine ga (.cons (Job.low _ _) (l1 .nil)) (Low.tup' (.cons (Alt.low _ _) (l1 .nil))) (kp 7 [18]) Tryz.func133 ?_;obtain ⟨z3,z4,z5,z6,z7⟩:=Job.zz hs0;refine us (QD4 v.shape szA _) ?_;refine ai (fun h1=>?_) (fun h2=>?_)
 ·obtain rfl:=foll hR (ct h1 rfl);exact Q00 (Low.tup' (.cons (Alt.low _ _) (l1 .nil))) (Seen.tup (e1 (e1 .nil)))
 ·refine ai gkA ?_;obtain rfl:=foll hR (cf h2 rfl);exact Q00 (Low.tup' (.cons (Alt.low _ _) (l1 .nil))) (Seen.tup (e1 (e1 .nil)))
def Qx7 (s:Shape) (choice:Int) (n:Int):Bool:=bif ((decide (choice<0))||(decide (choice >= ((QH0 s).length:Int)))) then false else bif (s.kind==3) then ((decide (n >= s.min))&&(decide (n<=s.max))) else (((QH0 s).getD (Int.toNat choice) Alt.zero).nodes==n)
theorem Q3b (s:Shape) (choice:Int) (n:Int) (hs0:s.sz):GV 147 [Shape.a s,I choice,I n] (Bo (Qx7 s choice n)):=by
 generalize hR:Qx7 s choice n=R;refine ga (.cons (Shape.low _ _) (l1 (l1 .nil))) lx (kp 8 [17,20]) Tryz.func147 ?_;have hk0:=hs0;obtain z5:s.alts.length<=4294967296:=hs0;refine us (QD4 s szA _) ?_;refine ai (fun h1=>?_) (fun h2=>?_)
 ·obtain rfl:=foll hR (ct h1 rfl);exact Q00 lx sr
 ·refine ai (fun h3=>?_) (fun h4=>?_)
  ·obtain rfl:=foll hR (cf h2 (ct h3 rfl));exact Q00 lx sr
  ·refine ai gkA ?_;obtain rfl:=foll hR (cf h2 (cf h4 rfl));exact Q00 lx sr
def Qn8 (l:List Node):Int:=(QI3 l (fun (y:Node)=>((y.state != 4)&&(!y.drain))))
theorem fleet_Up_c (l:List Node) (hs0:l.length<=4294967296):GV 166 [nodeL l] (U (Qn8 l)):=by
 generalize hR:Qn8 l=R;refine ga (.cons lw .nil) lx (kp 3 []) Tryz.func166 ?_;have hk0:=hs0;obtain z7:l.length<=4294967296:=hs0;have cl1:∀ (y1:Node),AMoves Tryz.prog 215 [Node.a y1] [] 0 (Bo ((fun (y:Node)=>((y.state != 4)&&(!y.drain))) y1)) []:=by
  intro y1;have hR:(fun (y:Node)=>((y.state != 4)&&(!y.drain))) y1=(fun (y:Node)=>((y.state != 4)&&(!y.drain))) y1:=rfl;refine mo (kp 3 []) Tryz.func215 ?_;refine Qs0 (fun r:Bool=>Bo r) (fun _=>[]) (leaf:=((y1.state != 4)&&(!y1.drain))) (foll hR rfl) ?_;exact tt [] .nil t1
 have hof1:AMoves Tryz.prog 100 [nodeL l,AVal.fn (.func 215) [] []] [] 0 (U (QI3 l (fun (y:Node)=>((y.state != 4)&&(!y.drain))))) []:=by
  have hR:QI3 l (fun (y:Node)=>((y.state != 4)&&(!y.drain)))=QI3 l (fun (y:Node)=>((y.state != 4)&&(!y.drain))):=rfl;refine mo (kp 10 [12,13,14,15,16,22]) Tryz.func100 ?_;refine us (QPb l szA _) ?_;refine ai (fun h1=>?_) (fun h2=>?_)
  ·refine Qs0 (fun r:Int=>U r) (fun r:Int=>[]) (leaf:=0) (foll hR (ct h1 rfl)) ?_;exact tt [] .nil t1
  ·refine Qg0 (fun (out:List Int) (i:Nat)=>Qo3 (Q65 (fun (y:Node)=>((y.state != 4)&&(!y.drain))) (List.drop i l) out i)=QI3 l (fun (y:Node)=>((y.state != 4)&&(!y.drain)))∧i<=l.length∧out.length<=i) (fun out i=>l.length - i) (fun out i=>[(1,AVal.fn (.func 215) [] []),(4,U 0),(5,AVal.own 0 0 1 0 out.length),(13,nodeL l),(14,I (l.length:Int)),(15,I (i:Int))]) (fun out i=>[(0,AObj.row 3 1 (out.map (fun q_=>[I q_])))]) [] 0 ((Qh1 3 1).trans (wk [0] (tO rfl (tl eqA) .nil) (sv (Qa1 (Low.fn _ _ _ LowL.nil LowL.nil)) (s1 (sv (QV0 0 rfl) (sl lw (s1 (s1 .nil)))))))) ⟨foll hR (cf h2 rfl),by exact omA,by exact exA⟩ ?_;clear hR;rintro out i ⟨hR,hj,hx⟩;(try dsimp only at hR hj hx);refine ai (fun h3=>?_) (fun h4=>?_)
   ·have hlt:=ltA h3;rw [Q90 Node.zero hlt] at hR;refine ai gkA ?_;refine us (mv [] (cl1 (l.getD i Node.zero)) .nil (dl (Node.low _ _) .nil) .nil rx) ?_;refine ai (fun h5=>?_) (fun h6=>?_)
    ·refine Or.inl ?_;(first|refine ⟨QK1 8 rfl lnA apA,?_⟩|refine ⟨QR0 8 rfl apA,?_⟩);exact Q80 (out++([(i:Int)]:List Int)) (i+1) (wk [0] (tO rfl (tl eqA) .nil) (sv (Qa1 (Low.fn _ _ _ LowL.nil LowL.nil)) (s1 (sv (to 0 lnA) (sl lw (s1 (sv (Q70 (I_eq (wr omA)) lx) .nil))))))) omA ⟨foll hR (congrArg (fun p:(List Int)=>Qo3 p) (ct h5 rfl)),by exact omA,by exact exA⟩
    ·exact Q80 out (i+1) (wk [0] (tO rfl (tl eqA) .nil) (sv (Qa1 (Low.fn _ _ _ LowL.nil LowL.nil)) (s1 (sv (to 0 lnA) (sl lw (s1 (sv (Q70 (I_eq (wr omA)) lx) .nil))))))) omA ⟨foll hR (congrArg (fun p:(List Int)=>Qo3 p) (cf h6 rfl)),by exact omA,by exact exA⟩
   ·rw [Qa0 (l:=l) (j:=i) (geA h4)] at hR;replace hR:Qo3 out=QI3 l (fun (y:Node)=>((y.state != 4)&&(!y.drain))):=fo2 (fun p:(List Int)=>Qo3 p) (out) hR rfl;refine us (AGives.lent (nodeset_Of_c out szA []) (ev (QT0 _ _ rfl eqA lnA) .nil) (.cons lw .nil) (Qi9 rfl)) ?_;refine Qs0 (fun r:Int=>U r) (fun r:Int=>[]) (leaf:=(Qw6 out).1) (foll hR rfl) ?_;exact tt [] .nil t1
 refine us (mv [] (hof1) .nil (dl lw (dv (Qp7 (Low.fn _ _ _ LowL.nil LowL.nil)) .nil)) .nil rx) ?_;obtain rfl:=foll hR rfl;exact Q00 lx sr
def Qv1 (l:List Usage) (user:ByteArray):Int:=(QJ3 l (fun (y:Usage)=>(bif (!(ByteArray.toList y.user==ByteArray.toList user)) then 0 else y.share)))
theorem QYa (l:List Usage) (user:ByteArray) (hs0:l.length<=4294967296∧(∀ y ∈ l,y.sz)) (hs1:user.size<=4294967296):GV 201 [QU2 l,Sg user] (I (Qv1 l user)):=by
 generalize hR:Qv1 l user=R;refine ga (.cons lw (l1 .nil)) lx (kp 5 []) Tryz.func201 ?_;obtain ⟨z11,z12⟩:=id hs0;have hk1:=hs1;obtain z13:user.size<=4294967296:=hs1;have cl1:∀ (y1:Usage) (hzy1:y1.sz),AMoves Tryz.prog 231 [Usage.a y1,AVal.ptr 0 0 1 0 0] [(0,AObj.row 9 1 [[Sg user]])] 1 (I ((fun (y:Usage)=>(bif (!(ByteArray.toList y.user==ByteArray.toList user)) then 0 else y.share)) y1)) [(0,AObj.row 9 1 [[Sg user]])]:=by
  intro y1 hzy1;have hky1:=hzy1;obtain ⟨z1,z2⟩:=Usage.zz hzy1;have hR:(fun (y:Usage)=>(bif (!(ByteArray.toList y.user==ByteArray.toList user)) then 0 else y.share)) y1=(fun (y:Usage)=>(bif (!(ByteArray.toList y.user==ByteArray.toList user)) then 0 else y.share)) y1:=rfl;refine mo (kp 4 [7]) Tryz.func231 ?_;refine ai (fun h3=>?_) (fun h4=>?_)
  ·refine Qs0 (fun r:Int=>I r) (fun _=>[(0,AObj.row 9 1 [[Sg user]])]) (leaf:=0) (foll hR (ct h3 rfl)) ?_;exact tt [0] (tO rfl (ts (l1 LowL.nil)) .nil) t1
  ·refine Qs0 (fun r:Int=>I r) (fun _=>[(0,AObj.row 9 1 [[Sg user]])]) (leaf:=y1.share) (foll hR (cf h4 rfl)) ?_;exact tt [0] (tO rfl (ts (l1 LowL.nil)) .nil) t1
 have hof1:AMoves Tryz.prog 230 [QU2 l,AVal.fn (.func 231) [] [AVal.ptr 0 0 1 0 0]] [(0,AObj.row 9 1 [[Sg user]])] 1 (I (QJ3 l (fun (y:Usage)=>(bif (!(ByteArray.toList y.user==ByteArray.toList user)) then 0 else y.share)))) [(0,AObj.row 9 1 [[Sg user]])]:=by
  have hR:QJ3 l (fun (y:Usage)=>(bif (!(ByteArray.toList y.user==ByteArray.toList user)) then 0 else y.share))=QJ3 l (fun (y:Usage)=>(bif (!(ByteArray.toList y.user==ByteArray.toList user)) then 0 else y.share)):=rfl;refine mo (kp 8 [10,11,12,13,14]) Tryz.func230 ?_;refine us (QXa l szA _) ?_;refine ai (fun h5=>?_) (fun h6=>?_)
  ·refine Qs0 (fun r:Int=>I r) (fun r:Int=>[(0,AObj.row 9 1 [[Sg user]])]) (leaf:=0) (foll hR (ct h5 rfl)) ?_;exact tt [0] (tO rfl (ts (l1 LowL.nil)) .nil) t1
  ·refine Qg0 (fun (n:Int) (i:Nat)=>Qa3 (Q04 (fun (y:Usage)=>(bif (!(ByteArray.toList y.user==ByteArray.toList user)) then 0 else y.share)) (List.drop i l) n i)=QJ3 l (fun (y:Usage)=>(bif (!(ByteArray.toList y.user==ByteArray.toList user)) then 0 else y.share))∧i<=l.length) (fun n i=>l.length - i) (fun n i=>[(1,AVal.fn (.func 231) [] [AVal.ptr 0 0 1 0 0]),(4,I 0),(5,I n),(11,QU2 l),(12,I (l.length:Int)),(13,I (i:Int))]) (fun n i=>[(0,AObj.row 9 1 [[Sg user]])]) 0 0 (wk [0] (tO rfl (ts (l1 LowL.nil)) .nil) (sv (Q31 .nil (cv (Q20 0 rfl rfl) .nil)) (s1 (s1 (sl lw (s1 (s1 .nil))))))) ⟨foll hR (cf h6 rfl),by exact omA⟩ ?_;clear hR;rintro n i ⟨hR,hj⟩;(try dsimp only at hR hj);refine ai (fun h7=>?_) (fun h8=>?_)
   ·have hlt:=ltA h7;rw [Q90 Usage.zero hlt] at hR;have hxz:(l.getD i Usage.zero).sz:=Q72 (by first|assumption|grind) (Usage.szz _);have hkz:=hxz;obtain ⟨z9,z10⟩:=Usage.zz hxz;refine ai gkA ?_;refine us (mv [0] (cl1 (l.getD i Usage.zero) szA) (dO (ds (l1 LowL.nil)) .nil) (dl (Usage.low _ _) (dp .nil)) (rO (re (l1 LowL.nil)) .nil) rx) ?_;refine Or.inl ?_;refine us (AGives.as2 (sat_Plus_c ([n,((fun (y:Usage)=>(bif (!(ByteArray.toList y.user==ByteArray.toList user)) then 0 else y.share)) (l.getD i Usage.zero))]:List Int) szA _) (av (QZ5 (c:=(fun q_=>[I q_])) (d:=0) ([n,((fun (y:Usage)=>(bif (!(ByteArray.toList y.user==ByteArray.toList user)) then 0 else y.share)) (l.getD i Usage.zero))]:List Int) rfl) .nil)) ?_;exact Q80 (Qqc ([n,((fun (y:Usage)=>(bif (!(ByteArray.toList y.user==ByteArray.toList user)) then 0 else y.share)) (l.getD i Usage.zero))]:List Int)) (i+1) (wk [0] (tO rfl (ts (l1 LowL.nil)) .nil) (sv (Q31 .nil (cv (Q20 0 rfl rfl) .nil)) (s1 (s1 (sl lw (s1 (sv (Q70 (I_eq (wr omA)) lx) .nil))))))) omA ⟨foll hR (congrArg (fun p:Int=>Qa3 p) rfl),by exact omA⟩
   ·rw [Qa0 (l:=l) (j:=i) (geA h8)] at hR;replace hR:Qa3 n=QJ3 l (fun (y:Usage)=>(bif (!(ByteArray.toList y.user==ByteArray.toList user)) then 0 else y.share)):=fo2 (fun p:Int=>Qa3 p) (n) hR rfl;refine Qs0 (fun r:Int=>I r) (fun r:Int=>[(0,AObj.row 9 1 [[Sg user]])]) (leaf:=n) (foll hR rfl) ?_;exact tt [0] (tO rfl (ts (l1 LowL.nil)) .nil) t1
 refine us (mv [0] (hof1) (dO (ds (l1 LowL.nil)) .nil) (dl lw (dv (dn_fn .nil (dp .nil)) .nil)) (rO (re (l1 LowL.nil)) .nil) rx) ?_;obtain rfl:=foll hR rfl;exact Q00 lx sr
def Qt3 (l:List Int) (at_:Int) (i:Bool):Token × Int × Int × Int:=bif i then ((⟨5,(runesBytes (List.drop (Int.toNat at_) (List.take (Int.toNat (w64 (at_+1))) l))),0,at_⟩:Token),(w64 (at_+1)),0,0) else (Token.zero,0,at_,50)
def Qd1 (l:List Int) (at_:Int):Token × Int × Int × Int:=bif ((Qh0 (l.getD (Int.toNat at_) 0))==0) then (Token.zero,0,at_,40) else bif ((Qh0 (l.getD (Int.toNat at_) 0))==2) then ((⟨1,(QS2 (runesBytes (List.drop (Int.toNat at_) (List.take (Int.toNat (QA1 l at_)) l)))),0,at_⟩:Token),(QA1 l at_),0,0) else bif ((Qh0 (l.getD (Int.toNat at_) 0))==3) then bif (Qnb (List.drop (Int.toNat at_) (List.take (Int.toNat (QA1 l at_)) l))) then ((⟨3,(runesBytes (List.drop (Int.toNat at_) (List.take (Int.toNat (QA1 l at_)) l))),0,at_⟩:Token),(QA1 l at_),0,0) else bif (decide ((Qr8 (List.drop (Int.toNat at_) (List.take (Int.toNat (QA1 l at_)) l)))<0)) then (Token.zero,0,at_,50) else ((⟨2,⟨#[]⟩,(Qr8 (List.drop (Int.toNat at_) (List.take (Int.toNat (QA1 l at_)) l))),at_⟩:Token),(QA1 l at_),0,0) else bif ((l.getD (Int.toNat at_) 0)==34) then ((QA3 l at_).1,(QA3 l at_).2.1,(QA3 l at_).2.2.1,(QA3 l at_).2.2.2) else bif ((l.getD (Int.toNat at_) 0)==61) then Qt3 l at_ ((l.getD (Int.toNat at_) 0)==61) else bif ((l.getD (Int.toNat at_) 0)==58) then Qt3 l at_ ((l.getD (Int.toNat at_) 0)==58) else bif ((l.getD (Int.toNat at_) 0)==44) then Qt3 l at_ ((l.getD (Int.toNat at_) 0)==44) else Qt3 l at_ ((l.getD (Int.toNat at_) 0)==45)
theorem ref05_one_c (l:List Int) (at_:Int) (hs0:l.length<=4294967296) (hp0:0<=at_∧at_<(l.length:Int)∧l.length<=400):GV 270 [runes l,I at_] (AVal.tup [Token.a ((Qd1 l at_).1),I ((Qd1 l at_).2.1),I ((Qd1 l at_).2.2.1),I ((Qd1 l at_).2.2.2)]):=by
 generalize hR:Qd1 l at_=R;refine ga (.cons lw (l1 .nil)) (Low.tup' (.cons (Token.low _ _) (l1 (l1 (l1 .nil))))) (kj [1000028] 11 [17,18,22,37,46,65,73,74,83]) Tryz.func270 ?_;have hk0:=hs0;obtain z21:l.length<=4294967296:=hs0;have hw0:w64 (at_+1)=at_+1:=wr (by omega);have hf0:=QHd l at_ hp0.1 hp0.2.1 hp0.2.2;refine ai gkA ?_;refine us (QQ4 (l.getD (Int.toNat at_) 0) _) ?_;refine ai (fun h1=>?_) (fun h2=>?_)
 ·obtain rfl:=foll hR (ct h1 rfl);exact Q00 (Low.tup' (.cons (Token.low _ _) (l1 (l1 (l1 .nil))))) (Seen.tup (e1 (e1 (e1 (e1 .nil)))))
 ·refine ai (fun h3=>?_) (fun h4=>?_)
  ·refine us (QGf l at_ szA ckA _) ?_;refine ai gkA ?_;(first|refine ⟨(List.drop (Int.toNat at_) (List.take (Int.toNat (QA1 l at_)) l)),by exact cvA,?_⟩|refine ⟨_,fun _=>⟨(List.drop (Int.toNat at_) (List.take (Int.toNat (QA1 l at_)) l)),by exact cvA,rfl,rfl⟩,?_⟩|refine ⟨_,rfl,⟨(List.drop (Int.toNat at_) (List.take (Int.toNat (QA1 l at_)) l)),by exact cvA,Sub.refl _,rfl⟩,?_⟩);refine us (ref04_Lower_c (runesBytes (List.drop (Int.toNat at_) (List.take (Int.toNat (QA1 l at_)) l))) szA _) ?_;obtain rfl:=foll hR (cf h2 (ct h3 rfl));exact Q00 (Low.tup' (.cons (Token.low _ _) (l1 (l1 (l1 .nil))))) (Seen.tup (e1 (e1 (e1 (e1 .nil)))))
  ·refine ai (fun h5=>?_) (fun h6=>?_)
   ·refine us (QGf l at_ szA ckA _) ?_;refine ai gkA ?_;refine us (AGives.as2 (ref05_plain_c (List.drop (Int.toNat at_) (List.take (Int.toNat (QA1 l at_)) l)) szA _) (av (as_cut l (Int.toNat at_) (Int.toNat (QA1 l at_)) leA ckA) .nil)) ?_;refine ai (fun h7=>?_) (fun h8=>?_)
    ·refine ai gkA ?_;(first|refine ⟨(List.drop (Int.toNat at_) (List.take (Int.toNat (QA1 l at_)) l)),by exact cvA,?_⟩|refine ⟨_,fun _=>⟨(List.drop (Int.toNat at_) (List.take (Int.toNat (QA1 l at_)) l)),by exact cvA,rfl,rfl⟩,?_⟩|refine ⟨_,rfl,⟨(List.drop (Int.toNat at_) (List.take (Int.toNat (QA1 l at_)) l)),by exact cvA,Sub.refl _,rfl⟩,?_⟩);obtain rfl:=foll hR (cf h2 (cf h4 (ct h5 (ct h7 rfl))));exact Q00 (Low.tup' (.cons (Token.low _ _) (l1 (l1 (l1 .nil))))) (Seen.tup (e1 (e1 (e1 (e1 .nil)))))
    ·refine ai gkA ?_;refine us (AGives.as2 (ref05_Number_c (List.drop (Int.toNat at_) (List.take (Int.toNat (QA1 l at_)) l)) szA _) (av (as_cut l (Int.toNat at_) (Int.toNat (QA1 l at_)) leA ckA) .nil)) ?_;refine ai (fun h9=>?_) (fun h10=>?_)
     ·have qh9:=of_decide_eq_true h9;obtain rfl:=foll hR (cf h2 (cf h4 (ct h5 (cf h8 (ct h9 rfl)))));exact Q00 (Low.tup' (.cons (Token.low _ _) (l1 (l1 (l1 .nil))))) (Seen.tup (e1 (e1 (e1 (e1 .nil)))))
     ·have qh10:=of_decide_eq_false h10;obtain rfl:=foll hR (cf h2 (cf h4 (ct h5 (cf h8 (cf h10 rfl)))));exact Q00 (Low.tup' (.cons (Token.low _ _) (l1 (l1 (l1 .nil))))) (Seen.tup (e1 (e1 (e1 (e1 .nil)))))
   ·refine ai gkA ?_;refine ai (fun h11=>?_) (fun h12=>?_)
    ·refine us (ref05_text_c l at_ szA ckA _) ?_;obtain rfl:=foll hR (cf h2 (cf h4 (cf h6 (ct h11 rfl))));exact Q00 (Low.tup' (.cons (Token.low _ _) (l1 (l1 (l1 .nil))))) (Seen.tup (e1 (e1 (e1 (e1 .nil)))))
    ·refine Qr1 (fun (i:Bool)=>Qt3 l at_ i=R) (fun i=>[(0,runes l),(1,I at_),(4,AVal.ptr 0 0 4 0 0),(5,I 0),(6,I 0),(7,I 0),(8,AVal.ptr 1 0 4 0 0),(83,Bo i)]) (fun i=>[(0,AObj.row 221 4 [[I 0,Sg ⟨#[]⟩,I 0,I 0]]),(0,AObj.row 221 4 [[I 0,Sg ⟨#[]⟩,I 0,I at_]])]) ?_ ?_
     ·clear hR;rintro i hR;(try dsimp only at hR);refine ai (fun h13=>?_) (fun h14=>?_)
      ·refine ai gkA ?_;(first|refine ⟨(List.drop (Int.toNat at_) (List.take (Int.toNat (w64 (at_+1))) l)),by exact cvA,?_⟩|refine ⟨_,fun _=>⟨(List.drop (Int.toNat at_) (List.take (Int.toNat (w64 (at_+1))) l)),by exact cvA,rfl,rfl⟩,?_⟩|refine ⟨_,rfl,⟨(List.drop (Int.toNat at_) (List.take (Int.toNat (w64 (at_+1))) l)),by exact cvA,Sub.refl _,rfl⟩,?_⟩);obtain rfl:=foll hR (ct h13 rfl);exact Q00 (Low.tup' (.cons (Token.low _ _) (l1 (l1 (l1 .nil))))) (Seen.tup (e1 (e1 (e1 (e1 .nil)))))
      ·obtain rfl:=foll hR (cf h14 rfl);exact Q00 (Low.tup' (.cons (Token.low _ _) (l1 (l1 (l1 .nil))))) (Seen.tup (e1 (e1 (e1 (e1 .nil)))))
     ·refine ai (fun h15=>?_) (fun h16=>?_)
      ·exact Qb0 ((l.getD (Int.toNat at_) 0)==61) (wk [0,1] (tO rfl (ts Token.lo) (tO rfl (ts Token.lo) .nil)) (sl lw (s1 (sv (Q20 0 rfl rfl) (s1 (s1 (s1 (sv (Q20 1 rfl rfl) (s1 .nil))))))))) (foll hR (cf h2 (cf h4 (cf h6 (cf h12 (ct h15 rfl))))))
      ·refine ai (fun h17=>?_) (fun h18=>?_)
       ·exact Qb0 ((l.getD (Int.toNat at_) 0)==58) (wk [0,1] (tO rfl (ts Token.lo) (tO rfl (ts Token.lo) .nil)) (sl lw (s1 (sv (Q20 0 rfl rfl) (s1 (s1 (s1 (sv (Q20 1 rfl rfl) (s1 .nil))))))))) (foll hR (cf h2 (cf h4 (cf h6 (cf h12 (cf h16 (ct h17 rfl)))))))
       ·refine ai (fun h19=>?_) (fun h20=>?_)
        ·exact Qb0 ((l.getD (Int.toNat at_) 0)==44) (wk [0,1] (tO rfl (ts Token.lo) (tO rfl (ts Token.lo) .nil)) (sl lw (s1 (sv (Q20 0 rfl rfl) (s1 (s1 (s1 (sv (Q20 1 rfl rfl) (s1 .nil))))))))) (foll hR (cf h2 (cf h4 (cf h6 (cf h12 (cf h16 (cf h18 (ct h19 rfl))))))))
        ·exact Qb0 ((l.getD (Int.toNat at_) 0)==45) (wk [0,1] (tO rfl (ts Token.lo) (tO rfl (ts Token.lo) .nil)) (sl lw (s1 (sv (Q20 0 rfl rfl) (s1 (s1 (s1 (sv (Q20 1 rfl rfl) (s1 .nil))))))))) (foll hR (cf h2 (cf h4 (cf h6 (cf h12 (cf h16 (cf h18 (cf h20 rfl))))))))
theorem QIf (l:List Int) (at_:Int) (b:Bool) (h0:0<=at_) (h1:at_<(l.length:Int)) (h:l.length<=400):((Qt3 l at_ b).2.2.2 != 0)=false->at_<(Qt3 l at_ b).2.1∧(Qt3 l at_ b).2.1<=(l.length:Int):=by
 have hw:w64 (at_+1)=at_+1:=wr (by omega)
 cases b with
 | false=>intro h;cases h
 | true=>intro _;simp only [Qt3,cond_true];rw [hw];omega
theorem ref05_one_lt (l:List Int) (at_:Int) (h0:0<=at_) (h1:at_<(l.length:Int)) (h:l.length<=400):((Qd1 l at_).2.2.2 != 0)=false->at_<(Qd1 l at_).2.1∧(Qd1 l at_).2.1<=(l.length:Int):=by
 have he:=QHd l at_ h0 h1 h
 have hk:=fun b=>QIf l at_ b h0 h1 h
 have ht:=ref05_text_lt l at_ h0 h1 h
 unfold Qd1
 repeat' first
  | exact hk _
  | exact ht
  | exact fun _=>he
  | (intro h;cases h;done)
  | (rw [Bool.cond_eq_ite];split)
def Qn2 :List Book->List Step->Nat->(List Step) × Nat
 | [],p_,i=>(p_,i)
 | x_ :: r,p_,i=>Qn2 r (Qb2 p_ x_.from_ x_.to x_.nodes) (i+1)
def QT5 (x_1:Job):List Int->Bool->Nat->Bool × Nat
 | [],out,k=>(out,k)
 | x_2 :: r,out,k=>QT5 x_1 r (out||(x_2==x_1.id)) (k+1)
def QP0 (except:List Int):List Job->List Step->Nat->(List Step) × Nat
 | [],p_1,i1=>(p_1,i1)
 | x_1 :: r,p_1,i1=>(fun p1:Bool × Nat=>bif ((Q50 x_1).2.2.2&&(!p1.1)) then QP0 except r (Qb2 p_1 ((Q50 x_1).1) (w64 ((Q50 x_1).1+(Q50 x_1).2.1)) ((Q50 x_1).2.2.1)) (i1+1) else QP0 except r p_1 (i1+1)) (QT5 x_1 except false 0)
def QE2 (p_1:List Step) (i1:Nat):(List Step):=p_1
def QQ6 (s:State) (except:List Int) (p_:List Step) (i:Nat):(List Step):=QE2 ((QP0 except s.jobs p_ 0).1) ((QP0 except s.jobs p_ 0).2)
def QQ1 (s:State) (except:List Int):(List Step):=QQ6 s except ((Qn2 s.books (QC4 s) 0).1) ((Qn2 s.books (QC4 s) 0).2)
theorem b5a0 {P:Prop} (h:P:=by first|(((try dsimp only);exact QI6 (by assumption)))|first|(((try dsimp only);exact QI6 hx))|first|(exact Qma _)|first|(exact Qda _)|exact szA):P:=h
theorem b5a1 {P:Prop} (h:P:=by first|(((try dsimp only);exact QI6 (by assumption)))|first|(((try dsimp only);exact QI6 hx))|first|(exact Qma _)|first|(exact Qda _)|exact exA):P:=h
theorem QRd (s:State) (except:List Int) (hs0:s.sz) (hs1:except.length<=4294967296) (hp0:∀ y ∈ s.jobs,((y.state != 1)||(y.promise==(-1)))=false->0<=y.choice∧y.choice<((Q40 y.shape).length:Int)):GV 55 [State.a s,ints except] (stepL (QQ1 s except)):=by
 generalize hR:QQ1 s except=R;refine ga (.cons (State.low _ _) (.cons lw .nil)) lw (kp 14 [20,47,53,85]) Tryz.func55 ?_;have hk0:=hs0;obtain ⟨z14,z15,z16,z17,z18,z19,z20⟩:=hs0;have hk1:=hs1;obtain z21:except.length<=4294967296:=hs1;refine us (ref20_busy_c s b5a0 _) ?_;refine Qg0 (fun (p_:List Step) (i:Nat)=>QQ6 s except (Qn2 (List.drop i s.books) p_ i).1 (Qn2 (List.drop i s.books) p_ i).2=R∧i<=s.books.length∧p_.length<=4294967296) (fun p_ i=>s.books.length - i) (fun p_ i=>[(1,ints except),(2,AVal.ptr 0 0 8 0 0),(4,AVal.lit (.slice none 0 0)),(5,stepL p_),(6,I (i:Int))]) (fun p_ i=>[(0,AObj.row 28 8 [[I s.now,nodeL s.nodes,jobL s.jobs,QC5 s.resizes,bookL s.books,QU2 s.ledger,I s.nextJob,I s.nextBook]])]) (QC4 s) 0 (wk [0] (tO rfl (ts State.lo) .nil) (sl lw (sv (Q20 0 rfl rfl) (s1 (sl lw (s1 .nil)))))) ⟨foll hR rfl,by exact omA,b5a1⟩ ?_;clear hR;rintro p_ i ⟨hR,hj,hx⟩;(try dsimp only at hR hj hx);refine ai (fun h1=>?_) (fun h2=>?_)
 ·have hlt:=ltA h1;rw [Q90 Book.zero hlt] at hR;refine dchk (by kernel_rfl) ?_;refine ai gkA ?_;refine ai gkA ?_;refine ai gkA ?_;(first|apply u2|apply u3|apply u4|apply us);exact Qy8 p_ ((s.books.getD i Book.zero).from_) ((s.books.getD i Book.zero).to) ((s.books.getD i Book.zero).nodes) b5a0 _;(repeat ((first|refine ai rfl ?_|refine ai (fun _=>rfl) ?_|refine ai (fun _=>Qy8 p_ ((s.books.getD i Book.zero).from_) ((s.books.getD i Book.zero).to) ((s.books.getD i Book.zero).nodes) b5a0 _) ?_)));exact Q80 (Qb2 p_ (s.books.getD i Book.zero).from_ (s.books.getD i Book.zero).to (s.books.getD i Book.zero).nodes) (i+1) (wk [0] (tO rfl (ts State.lo) .nil) (sl lw (sv (Q20 0 rfl rfl) (s1 (sl lw (sv (Q70 (I_eq (wr omA)) lx) .nil)))))) omA ⟨foll hR (congrArg (fun p:(List Step) × Nat=>QQ6 s except p.1 p.2) rfl),by exact omA,b5a1⟩
 ·rw [Qa0 (l:=s.books) (j:=i) (geA h2)] at hR;replace hR:QQ6 s except p_ i=R:=fo2 (fun p:(List Step) × Nat=>QQ6 s except p.1 p.2) (p_,i) hR rfl;refine Qg0 (fun (p_1:List Step) (i1:Nat)=>QE2 (QP0 except (List.drop i1 s.jobs) p_1 i1).1 (QP0 except (List.drop i1 s.jobs) p_1 i1).2=R∧i1<=s.jobs.length∧p_1.length<=4294967296) (fun p_1 i1=>s.jobs.length - i1) (fun p_1 i1=>[(1,ints except),(2,AVal.ptr 0 0 8 0 0),(4,AVal.lit (.slice none 0 0)),(5,stepL p_1),(7,I (i1:Int))]) (fun p_1 i1=>[(0,AObj.row 28 8 [[I s.now,nodeL s.nodes,jobL s.jobs,QC5 s.resizes,bookL s.books,QU2 s.ledger,I s.nextJob,I s.nextBook]])]) p_ 0 (wk [0] (tO rfl (ts State.lo) .nil) (sl lw (sv (Q20 0 rfl rfl) (s1 (sl lw (s1 .nil)))))) ⟨foll hR rfl,by exact omA,b5a1⟩ ?_;clear hR;rintro p_1 i1 ⟨hR,hj,hx⟩;(try dsimp only at hR hj hx);refine ai (fun h3=>?_) (fun h4=>?_)
  ·have hlt:=ltA h3;rw [Q90 Job.zero hlt] at hR;have hxz:(s.jobs.getD i1 Job.zero).sz:=Q72 (by first|assumption|grind) (Job.szz _);have hkz:=hxz;obtain ⟨z5,z6,z7,z8,z9⟩:=Job.zz hxz;refine Qg0 (fun (out:Bool) (k:Nat)=>(fun z=>(fun p:(List Step) × Nat=>QE2 p.1 p.2) ((fun p1:Bool × Nat=>bif ((Q50 (s.jobs.getD i1 Job.zero)).2.2.2&&(!p1.1)) then QP0 except (List.drop (i1+1) s.jobs) (Qb2 p_1 ((Q50 (s.jobs.getD i1 Job.zero)).1) (w64 ((Q50 (s.jobs.getD i1 Job.zero)).1+(Q50 (s.jobs.getD i1 Job.zero)).2.1)) ((Q50 (s.jobs.getD i1 Job.zero)).2.2.1)) (i1+1) else QP0 except (List.drop (i1+1) s.jobs) p_1 (i1+1)) z)) (QT5 (s.jobs.getD i1 Job.zero) (List.drop k except) out k)=R∧k<=except.length) (fun out k=>except.length - k) (fun out k=>[(1,ints except),(2,AVal.ptr 0 0 8 0 0),(4,AVal.lit (.slice none 0 0)),(5,stepL p_1),(7,I (i1:Int)),(8,Bo out),(9,I (k:Int)),(47,Bo (decide ((i1:Int)<(s.jobs.length:Int))))]) (fun out k=>[(0,AObj.row 28 8 [[I s.now,nodeL s.nodes,jobL s.jobs,QC5 s.resizes,bookL s.books,QU2 s.ledger,I s.nextJob,I s.nextBook]])]) false 0 (wk [0] (tO rfl (ts State.lo) .nil) (sl lw (sv (Q20 0 rfl rfl) (s1 (sl lw (s1 (s1 (s1 (s1 .nil))))))))) ⟨foll hR (congrArg (fun p:(List Step) × Nat=>QE2 p.1 p.2) rfl),by exact omA⟩ ?_;clear hR;rintro out k ⟨hR,hj⟩;(try dsimp only at hR hj);refine ai (fun h10=>?_) (fun h11=>?_)
   ·have hlt:=ltA h10;rw [Q90 0 hlt] at hR;refine dchk (by kernel_rfl) ?_;refine ai gkA ?_;refine ai gkA ?_;(repeat ((first|refine ai rfl ?_|refine ai (fun _=>rfl) ?_)));exact Q80 (out||((except.getD k 0)==(s.jobs.getD i1 Job.zero).id)) (k+1) (wk [0] (tO rfl (ts State.lo) .nil) (sl lw (sv (Q20 0 rfl rfl) (s1 (sl lw (s1 (s1 (sv (Q70 (I_eq (wr omA)) lx) (s1 .nil))))))))) omA ⟨foll hR (congrArg (fun z=>(fun p:(List Step) × Nat=>QE2 p.1 p.2) ((fun p1:Bool × Nat=>bif ((Q50 (s.jobs.getD i1 Job.zero)).2.2.2&&(!p1.1)) then QP0 except (List.drop (i1+1) s.jobs) (Qb2 p_1 ((Q50 (s.jobs.getD i1 Job.zero)).1) (w64 ((Q50 (s.jobs.getD i1 Job.zero)).1+(Q50 (s.jobs.getD i1 Job.zero)).2.1)) ((Q50 (s.jobs.getD i1 Job.zero)).2.2.1)) (i1+1) else QP0 except (List.drop (i1+1) s.jobs) p_1 (i1+1)) z)) rfl),by exact omA⟩
   ·rw [Qa0 (l:=except) (j:=k) (geA h11)] at hR;replace hR:(fun z=>(fun p:(List Step) × Nat=>QE2 p.1 p.2) ((fun p1:Bool × Nat=>bif ((Q50 (s.jobs.getD i1 Job.zero)).2.2.2&&(!p1.1)) then QP0 except (List.drop (i1+1) s.jobs) (Qb2 p_1 ((Q50 (s.jobs.getD i1 Job.zero)).1) (w64 ((Q50 (s.jobs.getD i1 Job.zero)).1+(Q50 (s.jobs.getD i1 Job.zero)).2.1)) ((Q50 (s.jobs.getD i1 Job.zero)).2.2.1)) (i1+1) else QP0 except (List.drop (i1+1) s.jobs) p_1 (i1+1)) z)) (out,k)=R:=foll hR (congrArg (fun z=>(fun p:(List Step) × Nat=>QE2 p.1 p.2) ((fun p1:Bool × Nat=>bif ((Q50 (s.jobs.getD i1 Job.zero)).2.2.2&&(!p1.1)) then QP0 except (List.drop (i1+1) s.jobs) (Qb2 p_1 ((Q50 (s.jobs.getD i1 Job.zero)).1) (w64 ((Q50 (s.jobs.getD i1 Job.zero)).1+(Q50 (s.jobs.getD i1 Job.zero)).2.1)) ((Q50 (s.jobs.getD i1 Job.zero)).2.2.1)) (i1+1) else QP0 except (List.drop (i1+1) s.jobs) p_1 (i1+1)) z)) rfl);refine ai gkA ?_;refine us (QMf (s.jobs.getD i1 Job.zero) b5a0 (by exact hp0 _ (by rw [List.getD_eq_getElem?_getD,List.getElem?_eq_getElem (by assumption)];exact List.getElem_mem (by assumption))) _) ?_;refine ai (fun h12=>?_) (fun h13=>?_)
    ·refine us (Qy8 p_1 ((Q50 (s.jobs.getD i1 Job.zero)).1) (w64 ((Q50 (s.jobs.getD i1 Job.zero)).1+(Q50 (s.jobs.getD i1 Job.zero)).2.1)) ((Q50 (s.jobs.getD i1 Job.zero)).2.2.1) b5a0 _) ?_;exact Q80 (Qb2 p_1 ((Q50 (s.jobs.getD i1 Job.zero)).1) (w64 ((Q50 (s.jobs.getD i1 Job.zero)).1+(Q50 (s.jobs.getD i1 Job.zero)).2.1)) ((Q50 (s.jobs.getD i1 Job.zero)).2.2.1)) (i1+1) (wk [0] (tO rfl (ts State.lo) .nil) (sl lw (sv (Q20 0 rfl rfl) (s1 (sl lw (sv (Q70 (I_eq (wr omA)) lx) .nil)))))) omA ⟨foll hR (congrArg (fun p:(List Step) × Nat=>QE2 p.1 p.2) (ct h12 rfl)),by exact omA,b5a1⟩
    ·exact Q80 p_1 (i1+1) (wk [0] (tO rfl (ts State.lo) .nil) (sl lw (sv (Q20 0 rfl rfl) (s1 (sl lw (sv (Q70 (I_eq (wr omA)) lx) .nil)))))) omA ⟨foll hR (congrArg (fun p:(List Step) × Nat=>QE2 p.1 p.2) (cf h13 rfl)),by exact omA,b5a1⟩
  ·rw [Qa0 (l:=s.jobs) (j:=i1) (geA h4)] at hR;replace hR:QE2 p_1 i1=R:=fo2 (fun p:(List Step) × Nat=>QE2 p.1 p.2) (p_1,i1) hR rfl;obtain rfl:=foll hR rfl;exact Q00 lw sr
theorem ref20_Left_len (s:State) (ex:List Int):(QQ1 s ex).length<=4294967296:=by
 have g1:∀ (l:List Book) (p:List Step) (i:Nat),p.length<=4294967296->(Qn2 l p i).1.length<=4294967296:=by
  intro l
  induction l with
  | nil=>intro p i h;exact h
  | cons x r ih=>intro p i h;rw [Qn2];exact ih _ _ (QI6 h)
 have g2:∀ (l:List Job) (p:List Step) (i:Nat),p.length<=4294967296->(QP0 ex l p i).1.length<=4294967296:=by
  intro l
  induction l with
  | nil=>intro p i h;exact h
  | cons x r ih =>
   intro p i h
   rw [QP0]
   dsimp only
   repeat' first|exact ih _ _ h|exact ih _ _ (QI6 h)|(rw [Bool.cond_eq_ite];split)
 exact g2 _ _ _ (g1 _ _ _ (Qda s))
end Go.Proofs.YtjpgfmbccohngaaGreatDoor
namespace Go.Proofs.YtjpgfmbccohngaaGreatDoor
set_option linter.unusedSimpArgs false
set_option linter.unusedVariables false
open Go.Fw
set_option maxRecDepth 20000
set_option maxHeartbeats 4000000
attribute [local irreducible] ACalls AMoves
def Ql0 (y:Int):List Int->Nat->Bool
 | [],_=>false
 | x_1 :: r,i=>bif ((Qg1 y)==x_1) then true else Ql0 y r (i+1)
def QL5 (line:ByteArray):List (Nat × Int)->LexReader->LexReader
 | [],c=>c
 | x_ :: r,c=>QL5 line r { c with line:=(c.line++([x_.2]:List Int)) }
def Q32 :Nat->List Token->LexReader->(List Token) × Int × Int
 | 0,_,_=>([],0,0)
 | m+1,out,c2=>bif (c2.error==0) then bif ((Q30 c2 (fun (y:Int)=>Ql0 y ([1]:List Int) 0)).2.at_==(((Q30 c2 (fun (y:Int)=>Ql0 y ([1]:List Int) 0)).2.line).length:Int)) then (out,(((Q30 c2 (fun (y:Int)=>Ql0 y ([1]:List Int) 0)).2.line).length:Int),0) else Q32 m (out++([{ (Qe0 ((Q30 c2 (fun (y:Int)=>Ql0 y ([1]:List Int) 0)).2)).1 with at_:=(Q30 c2 (fun (y:Int)=>Ql0 y ([1]:List Int) 0)).2.at_ }]:List Token)) ((Qe0 ((Q30 c2 (fun (y:Int)=>Ql0 y ([1]:List Int) 0)).2)).2) else ([],c2.bad,c2.error)
def QM5 (c:LexReader):(List Token) × Int × Int:=Q32 ((2*Int.toNat ((c.line.length:Int) - c.at_)+(bif c.error==0 then 1 else 0))+1) [] c
def Qk1 (line:ByteArray):(List Token) × Int × Int:=bif (decide ((ByteArray.size line:Int) > 400)) then ([],0,3) else QM5 (QL5 line (Qk7 line) LexReader.zero)
theorem b6a1 {P:Prop} (h:P:=by first|(have hq:=hrd _ (by assumption);exact ⟨hq.2.1.1,hq.2.1.2.1,hq.2.1.2.2,fun hz=>by have hq3:=hq.2.2.2 hz;simp only [List.length_append,List.length_cons,List.length_nil];omega⟩)|first|(refine ⟨by omega,by omega,by omega,fun _=>by simp;omega⟩)|first|(simp [LexReader.zero];done)|first|(simp;omega)|exact exA):P:=h
theorem lex_Tokens_c (line:ByteArray) (hs0:line.size<=4294967296):GV 259 [Sg line] (AVal.tup [tokenL ((Qk1 line).1),I ((Qk1 line).2.1),I ((Qk1 line).2.2)]):=by
 generalize hR:Qk1 line=R;refine ga (l1 .nil) (Low.tup' (.cons lw (l1 (l1 .nil)))) (kp 12 [14,18,19,20,38,51]) Tryz.func259 ?_;have hk0:=hs0;obtain z15:line.size<=4294967296:=hs0;refine ai (fun h1=>?_) (fun h2=>?_)
 ·have qh1:=of_decide_eq_true h1;obtain rfl:=foll hR (ct h1 rfl);exact Q00 (Low.tup' (.cons lw (l1 (l1 .nil)))) (Seen.tup (ev (Qq0) (e1 (e1 .nil))))
 ·have qh2:=of_decide_eq_false h2;refine Qg0 (fun (c:LexReader) (pos:Nat)=>∃ m,ByteArray.size line - pos<=m∧QM5 (QL5 line (Qr4 line m pos) c)=R∧c.line.length<=pos∧pos<=ByteArray.size line∧c.at_=0) (fun c pos=>ByteArray.size line - pos) (fun c pos=>[(2,AVal.lit (.slice none 0 0)),(3,I 0),(4,I 0),(5,AVal.ptr 0 0 4 0 0),(18,AVal.ptr 1 0 1 0 0)]) (fun c pos=>[(0,AObj.row 273 4 [[AVal.own 2 0 1 0 c.line.length,I c.at_,I c.bad,I c.error]]),(0,AObj.other (.strIter line pos)),(0,AObj.row 21 1 (c.line.map (fun q_=>[J q_])))]) LexReader.zero 0 ((Qh1 21 1).trans (wk [0,1,2] (tO rfl (QC0 (cv (QV0 2 rfl) (c1 (c1 (c1 .nil))))) (tO rfl (.strIter _ _) (tO rfl (tl eqA) .nil))) (s1 (s1 (s1 (sv (Q20 0 rfl rfl) (sv (Q20 1 rfl rfl) .nil))))))) ⟨ByteArray.size line,by first|(have hq:=hrd _ (by assumption);omega)|exact omA,foll hR (cf h2 rfl),b6a1⟩ ?_;clear hR;rintro c pos ⟨m,hm,hR,hx⟩;(try dsimp only at hR hm hx);refine ai (fun h3=>?_) (fun h4=>?_)
  ·have hlt:=of_decide_eq_true h3;have hw:=QR7 line pos;have hwe:=QQ7 line pos hlt;obtain ⟨m,rfl⟩:=sucA m;rw [Ql3 h3] at hR;refine ai (fun _=>?_) (fun h=>nomatch h);refine Or.inl ?_;(first|refine ⟨QK1 4 rfl lnA apA,?_⟩|refine ⟨QR0 4 rfl apA,?_⟩);exact Q80 { c with line:=(c.line++([(pos,((Utf8.decode line pos).1:Int)).2]:List Int)) } (pos+(Utf8.decode line pos).2) (wk [0,1,2] (tO rfl (QC0 (cv (to 2 lnA) (c1 (c1 (c1 .nil))))) (tO rfl (.strIter _ _) (tO rfl (tl eqA) .nil))) (s1 (s1 (s1 (sv (Q20 0 rfl rfl) (sv (Q20 1 rfl rfl) .nil)))))) (by first|(have hq:=hrd _ (by assumption);omega)|exact omA) ⟨m,by first|(have hq:=hrd _ (by assumption);omega)|exact omA,foll hR (congrArg (fun p:LexReader=>QM5 p) rfl),b6a1⟩
  ·rw [QG5 h4] at hR;refine ai (fun h=>nomatch h) (fun _=>?_);replace hR:QM5 c=R:=fo2 (fun p:LexReader=>QM5 p) (c) hR rfl;refine Or.inl ?_;refine ACalls.of_cwp (fun _=>true) Tryz.func282 rfl rfl ?_;refine ⟨_,_,Told.refl,?_⟩;refine Qg0 (fun (out:List Token) (c2:LexReader)=>∃ m,(2*Int.toNat ((c2.line.length:Int) - c2.at_)+(bif c2.error==0 then 1 else 0))<m∧Q32 m out c2=R∧0<=c2.at_∧c2.at_<=(c2.line.length:Int)∧c2.line.length<=400∧((c2.error==0)=true->(out.length:Int)<=c2.at_)) (fun out c2=>(2*Int.toNat ((c2.line.length:Int) - c2.at_)+(bif c2.error==0 then 1 else 0))) (fun out c2=>[(2,AVal.lit (.slice none 0 0)),(3,I 0),(4,I 0),(5,AVal.ptr 0 0 4 0 0),(8,AVal.fn (.func 296) [] [AVal.ptr 1 0 1 0 0]),(9,AVal.own 2 0 4 0 out.length)]) (fun out c2=>[(0,AObj.row 273 4 [[runes c2.line,I c2.at_,I c2.bad,I c2.error]]),(0,AObj.row 44 1 [[ints ([1]:List Int)]]),(0,AObj.row 221 4 (out.map Token.cells))]) [] c ((Qh1 221 4).trans (wk [0,3,4] (tO rfl (QC0 (cv (QLa _ _ rfl (Nat.zero_le _) (by decide) eqA (fun _=>lowL1 rfl) lnA) (c1 (c1 (c1 .nil))))) (tO rfl (QC0 (cv (turn_as (QZ5 (c:=(fun q_=>[I q_])) (d:=0) ([1]:List Int) rfl) lw) .nil)) (tO rfl (tl eqA) .nil))) (s1 (s1 (s1 (sv (Q20 0 rfl rfl) (sv (Q31 .nil (cv (Q20 1 rfl rfl) .nil)) (sv (QV0 2 rfl) .nil)))))))) ⟨_,Nat.lt_succ_self _,foll hR rfl,b6a1⟩ ?_;clear hR;rintro out c2 ⟨m,hm,hR,hx⟩;(try dsimp only at hR hm hx);obtain ⟨m,rfl⟩:=sucA m;refine ai (fun h5=>?_) (fun h6=>?_)
   ·have hol:=hx.2.2.2 h5;have hrd:=fun (b:Int->Bool) (hn:((Q30 c2 b).2.at_==((Q30 c2 b).2.line.length:Int))=false)=>lex_round c2 _ b (by omega) (by omega) (by omega) h5 rfl hn;have cl1:∀ (y1:Int),AMoves Tryz.prog 296 [J y1,AVal.ptr 0 0 1 0 0] [(0,AObj.row 44 1 [[ints ([1]:List Int)]])] 1 (Bo ((fun (y:Int)=>Ql0 y ([1]:List Int) 0) y1)) [(0,AObj.row 44 1 [[ints ([1]:List Int)]])]:=by
     intro y1;have hR:(fun (y:Int)=>Ql0 y ([1]:List Int) 0) y1=(fun (y:Int)=>Ql0 y ([1]:List Int) 0) y1:=rfl;refine mo (kp 6 [6,7,8,9,15]) Tryz.func296 ?_;refine Qf0 (fun (i:Nat)=>Ql0 y1 (List.drop i ([1]:List Int)) i=(fun (y:Int)=>Ql0 y ([1]:List Int) 0) y1∧i<=([1]:List Int).length) (fun i=>([1]:List Int).length - i) (fun i=>[(0,J y1),(3,Bo false),(6,ints ([1]:List Int)),(7,I (([1]:List Int).length:Int)),(8,I (i:Int))]) (fun i=>[(0,AObj.row 44 1 [[ints ([1]:List Int)]])]) 0 (wk [0] (tO rfl (ts (lv lw LowL.nil)) .nil) (s1 (s1 (sl lw (s1 (s1 .nil)))))) ⟨foll hR rfl,by exact omA⟩ ?_;clear hR;rintro i ⟨hR,hj⟩;(try dsimp only at hR hj);refine ai (fun h7=>?_) (fun h8=>?_)
     ·(have hlt:i<([1]:List Int).length:=by have:=of_decide_eq_true h7;omega);rw [Q90 0 hlt] at hR;refine ai gkA ?_;refine us (QW4 y1 _) ?_;refine ai (fun h9=>?_) (fun h10=>?_)
      ·refine Qs0 (fun r:Bool=>Bo r) (fun _=>[(0,AObj.row 44 1 [[ints ([1]:List Int)]])]) (leaf:=true) (foll hR (ct h9 rfl)) ?_;exact tt [0] (tO rfl (ts (lv lw LowL.nil)) .nil) t1
      ·exact Qj0 (i+1) (wk [0] (tO rfl (ts (lv lw LowL.nil)) .nil) (s1 (s1 (sl lw (s1 (sv (Q70 (I_eq (wr omA)) lx) .nil)))))) omA ⟨foll hR (cf h10 rfl),by exact omA⟩
     ·rw [Qa0 (l:=([1]:List Int)) (j:=i) (geA h8)] at hR;refine Qs0 (fun r:Bool=>Bo r) (fun _=>[(0,AObj.row 44 1 [[ints ([1]:List Int)]])]) (leaf:=false) (foll hR rfl) ?_;exact tt [0] (tO rfl (ts (lv lw LowL.nil)) .nil) t1
    have hof1:AMoves Tryz.prog 283 [AVal.ptr 0 0 4 0 0,AVal.fn (.func 296) [] [AVal.ptr 1 0 1 0 0]] [(0,AObj.row 273 4 [[runes c2.line,I c2.at_,I c2.bad,I c2.error]]),(0,AObj.row 44 1 [[ints ([1]:List Int)]])] 2 (Sg ((Q30 c2 (fun (y:Int)=>Ql0 y ([1]:List Int) 0)).1)) [(0,AObj.row 273 4 [[runes (((Q30 c2 (fun (y:Int)=>Ql0 y ([1]:List Int) 0)).2).line),I (((Q30 c2 (fun (y:Int)=>Ql0 y ([1]:List Int) 0)).2).at_),I (((Q30 c2 (fun (y:Int)=>Ql0 y ([1]:List Int) 0)).2).bad),I (((Q30 c2 (fun (y:Int)=>Ql0 y ([1]:List Int) 0)).2).error)]]),(0,AObj.row 44 1 [[ints ([1]:List Int)]])]:=by
     have hR:Q30 c2 (fun (y:Int)=>Ql0 y ([1]:List Int) 0)=Q30 c2 (fun (y:Int)=>Ql0 y ([1]:List Int) 0):=rfl;refine mo (kp 6 [33]) Tryz.func283 ?_;refine Qf0 (fun (c3:LexReader)=>∃ m,(Int.toNat ((c3.line.length:Int) - c3.at_))<m∧Qz0 c2 (Qy0 (fun (y:Int)=>Ql0 y ([1]:List Int) 0) m c3)=Q30 c2 (fun (y:Int)=>Ql0 y ([1]:List Int) 0)∧0<=c3.at_∧c3.at_<=(c3.line.length:Int)∧c3.line.length<=400∧c2.at_<=c3.at_∧0<=c2.at_) (fun c3=>(Int.toNat ((c3.line.length:Int) - c3.at_))) (fun c3=>[(0,AVal.ptr 0 0 4 0 0),(1,AVal.fn (.func 296) [] [AVal.ptr 1 0 1 0 0]),(4,Sg ⟨#[]⟩),(5,I c2.at_)]) (fun c3=>[(0,AObj.row 273 4 [[runes c3.line,I c3.at_,I c3.bad,I c3.error]]),(0,AObj.row 44 1 [[ints ([1]:List Int)]])]) c2 (wk [0,1] (tO rfl (ts LexReader.lo) (tO rfl (ts (lv lw LowL.nil)) .nil)) (sv (Q20 0 rfl rfl) (sv (Q31 .nil (cv (Q20 1 rfl rfl) .nil)) (s1 (s1 .nil))))) ⟨_,Nat.lt_succ_self _,foll hR rfl,by exact exA⟩ ?_;clear hR;rintro c3 ⟨m,hm,hR,hx⟩;(try dsimp only at hR hm hx);obtain ⟨m,rfl⟩:=sucA m;refine dchk (by kernel_rfl) ?_;refine ai gkA ?_;(first|apply u2|apply u3|apply u4|apply us);exact mv [1] (cl1 (c3.line.getD (Int.toNat c3.at_) 0)) (dO (ds (lv lw LowL.nil)) .nil) (d1 (dp .nil)) (rO (re (lv lw LowL.nil)) .nil) rx;(repeat ((first|refine ai rfl ?_|refine ai (fun _=>rfl) ?_)));refine ai (fun h11=>?_) (fun h12=>?_)
     ·have hq1:=of_decide_eq_true ((Bool.and_eq_true _ _).mp h11).1;have hwr:w64 (c3.at_+1)=c3.at_+1:=wr (by omega);exact Qj0 { c3 with at_:=(w64 (c3.at_+1)) } (wk [0,1] (tO rfl (ts LexReader.lo) (tO rfl (ts (lv lw LowL.nil)) .nil)) (sv (Q20 0 rfl rfl) (sv (Q31 .nil (cv (Q20 1 rfl rfl) .nil)) (s1 (s1 .nil))))) omA ⟨m,by exact omA,foll hR (congrArg (fun p:LexReader=>Qz0 c2 p) (ct h11 rfl)),by exact exA⟩
     ·replace hR:Qz0 c2 c3=Q30 c2 (fun (y:Int)=>Ql0 y ([1]:List Int) 0):=fo2 (fun p:LexReader=>Qz0 c2 p) (c3) hR (cf h12 rfl);refine dchk (by kernel_rfl) ?_;refine ai gkA ?_;(first|refine ⟨(List.drop (Int.toNat c2.at_) (List.take (Int.toNat c3.at_) c3.line)),by exact cvA,?_⟩|refine ⟨_,fun _=>⟨(List.drop (Int.toNat c2.at_) (List.take (Int.toNat c3.at_) c3.line)),by exact cvA,rfl,rfl⟩,?_⟩|refine ⟨_,rfl,⟨(List.drop (Int.toNat c2.at_) (List.take (Int.toNat c3.at_) c3.line)),by exact cvA,Sub.refl _,rfl⟩,?_⟩);(repeat ((first|refine ai rfl ?_|refine ai (fun _=>rfl) ?_)));refine Qs0 (fun r:ByteArray × LexReader=>Sg r.1) (fun r:ByteArray × LexReader=>[(0,AObj.row 273 4 [[runes r.2.line,I r.2.at_,I r.2.bad,I r.2.error]]),(0,AObj.row 44 1 [[ints ([1]:List Int)]])]) (leaf:=((runesBytes (List.drop (Int.toNat c2.at_) (List.take (Int.toNat c3.at_) c3.line))),c3)) (foll hR rfl) ?_;exact tt [0,1] (tO rfl (ts LexReader.lo) (tO rfl (ts (lv lw LowL.nil)) .nil)) t1
    refine us (mv [0,1] (hof1) (dO (ds LexReader.lo) (dO (ds (lv lw LowL.nil)) .nil)) (dp (dv (dn_fn .nil (dp .nil)) .nil)) (rO (re LexReader.lo) (rO (re (lv lw LowL.nil)) .nil)) rx) ?_;refine dchk (by kernel_rfl) ?_;(repeat ((first|refine ai rfl ?_|refine ai (fun _=>rfl) ?_)));refine ai (fun h13=>?_) (fun h14=>?_)
    ·refine dchk (by kernel_rfl) ?_;(repeat ((first|refine ai rfl ?_|refine ai (fun _=>rfl) ?_)));obtain rfl:=foll hR (ct h5 (ct h13 rfl));exact Q00 (Low.tup' (.cons lw (l1 (l1 .nil)))) (Seen.tup (ev (QT0 Token.zero _ rfl eqA lnA) (e1 (e1 .nil))))
    ·refine us (mv [0] (QTc ((Q30 c2 (fun (y:Int)=>Ql0 y ([1]:List Int) 0)).2) (by first|(exact Nat.le_trans (hrd _ (by assumption)).1.2.2 (by decide))|exact szA) (by exact (hrd _ (by assumption)).1)) (dO (ds LexReader.lo) .nil) (dp .nil) (rO (re LexReader.lo) .nil) (Ren.low _ (Low.agg' (Token.lo)))) ?_;refine Or.inl ?_;(first|refine ⟨QK1 40 rfl lnA apA,?_⟩|refine ⟨QR0 40 rfl apA,?_⟩);exact Q80 (out++([{ (Qe0 ((Q30 c2 (fun (y:Int)=>Ql0 y ([1]:List Int) 0)).2)).1 with at_:=(Q30 c2 (fun (y:Int)=>Ql0 y ([1]:List Int) 0)).2.at_ }]:List Token)) ((Qe0 ((Q30 c2 (fun (y:Int)=>Ql0 y ([1]:List Int) 0)).2)).2) (wk [0,1,2] (tO rfl (ts LexReader.lo) (tO rfl (ts (lv lw LowL.nil)) (tO rfl (tl eqA) .nil))) (s1 (s1 (s1 (sv (Q20 0 rfl rfl) (sv (Q31 .nil (cv (Q20 1 rfl rfl) .nil)) (sv (to 2 lnA) .nil))))))) (by first|(have hq:=hrd _ (by assumption);omega)|exact omA) ⟨m,by first|(have hq:=hrd _ (by assumption);omega)|exact omA,foll hR (ct h5 (cf h14 rfl)),b6a1⟩
   ·refine dchk (by kernel_rfl) ?_;(repeat ((first|refine ai rfl ?_|refine ai (fun _=>rfl) ?_)));obtain rfl:=foll hR (cf h6 rfl);exact Q00 (Low.tup' (.cons lw (l1 (l1 .nil)))) (Seen.tup (ev (Qq0) (e1 (e1 .nil))))
def Qz2 (v:Job):Bool:=((((v.start==0)&&(v.limit==0))&&(v.nodes==0))&&(((v.promise==(-1))&&(v.choice==0))||(((QZ3 v.promise)&&(Q41 v v.choice).2)&&(!v.held))))
theorem QRc (v:Job) (hs0:v.sz):GV 77 [Job.a v] (Bo (Qz2 v)):=by
 generalize hR:Qz2 v=R;refine ga (.cons (Job.low _ _) .nil) lx (kp 6 []) Tryz.func77 ?_;obtain ⟨z1,z2,z3,z4,z5⟩:=Job.zz hs0;refine us (QZ6 v v.choice szA _) ?_;(first|apply u2|apply u3|apply u4|apply us);exact QK5 v.promise _;obtain rfl:=foll hR rfl;exact Q00 lx sr
def QP3 (v:Job):Bool:=bif (((((((!(Q41 v v.choice).2)||v.held)||(!(QZ3 v.start)))||(!(QZ3 v.promise)))||(decide (v.promise<v.start)))||(!(QZ3 v.limit)))||((w64 (v.limit - v.start))!=(Q41 v v.choice).1.wall)) then false else ((Q3a v.nodes)&&(Qx7 v.shape v.choice (QM1 v.nodes)))
theorem QYb (v:Job) (hs0:v.sz):GV 78 [Job.a v] (Bo (QP3 v)):=by
 generalize hR:QP3 v=R;refine ga (.cons (Job.low _ _) .nil) lx (kp 5 [61]) Tryz.func78 ?_;obtain ⟨z3,z4,z5,z6,z7⟩:=Job.zz hs0;refine us (QZ6 v v.choice szA _) ?_;(first|apply u2|apply u3|apply u4|apply us);exact QK5 v.start _;(first|apply u2|apply u3|apply u4|apply us);exact QK5 v.promise _;(first|apply u2|apply u3|apply u4|apply us);exact QK5 v.limit _;refine ai (fun h1=>?_) (fun h2=>?_)
 ·obtain rfl:=foll hR (ct h1 rfl);exact Q00 lx sr
 ·refine dchk (by kernel_rfl) ?_;(first|apply u2|apply u3|apply u4|apply us);exact Qjf v.nodes _;(first|apply u2|apply u3|apply u4|apply us);exact Qa8 v.nodes _;(first|apply u2|apply u3|apply u4|apply us);exact Q3b v.shape v.choice (QM1 v.nodes) szA _;(repeat ((first|refine ai rfl ?_|refine ai (fun _=>rfl) ?_|refine ai (fun _=>Qjf v.nodes _) ?_|refine ai (fun _=>Qa8 v.nodes _) ?_|refine ai (fun _=>Q3b v.shape v.choice (QM1 v.nodes) szA _) ?_)));obtain rfl:=foll hR (cf h2 rfl);exact Q00 lx sr
def QG0 (line:ByteArray):Nat->List Token->Int->(List Token) × Int × Int
 | 0,_,_=>([],0,0)
 | m+1,out,i=>bif (decide (i<((QF0 line).length:Int))) then bif ((Qh0 ((QF0 line).getD (Int.toNat i) 0))==1) then QG0 line m out (w64 (i+1)) else bif ((Qd1 (QF0 line) i).2.2.2 != 0) then ([],(Qd1 (QF0 line) i).2.2.1,(Qd1 (QF0 line) i).2.2.2) else QG0 line m (out++([(Qd1 (QF0 line) i).1]:List Token)) ((Qd1 (QF0 line) i).2.1) else (out,((QF0 line).length:Int),0)
def QD0 (line:ByteArray):(List Token) × Int × Int:=bif (decide ((ByteArray.size line:Int) > 400)) then ([],0,3) else QG0 line ((Int.toNat (((QF0 line).length:Int) - 0))+1) [] 0
theorem b6a2 {P:Prop} (h:P:=by first|(have hp2:=hp1 (by assumption);refine ⟨by omega,by omega,?_⟩;simp only [List.length_append,List.length_cons,List.length_nil];omega)|exact exA):P:=h
theorem ref05_Tokens_c (line:ByteArray) (hs0:line.size<=4294967296):GV 252 [Sg line] (AVal.tup [tokenL ((QD0 line).1),I ((QD0 line).2.1),I ((QD0 line).2.2)]):=by
 generalize hR:QD0 line=R;refine ga (l1 .nil) (Low.tup' (.cons lw (l1 (l1 .nil)))) (kp 12 [14,20,26,38]) Tryz.func252 ?_;have hk0:=hs0;obtain z9:line.size<=4294967296:=hs0;have hf0:=Qea line;refine ai (fun h1=>?_) (fun h2=>?_)
 ·have qh1:=of_decide_eq_true h1;obtain rfl:=foll hR (ct h1 rfl);exact Q00 (Low.tup' (.cons lw (l1 (l1 .nil)))) (Seen.tup (ev (Qq0) (e1 (e1 .nil))))
 ·have qh2:=of_decide_eq_false h2;refine us (ref05_Runes_c line szA _) ?_;refine Qg0 (fun (out:List Token) (i:Int)=>∃ m,(Int.toNat (((QF0 line).length:Int) - i))<m∧QG0 line m out i=R∧0<=i∧i<=((QF0 line).length:Int)∧(out.length:Int)<=i) (fun out i=>(Int.toNat (((QF0 line).length:Int) - i))) (fun out i=>[(2,AVal.lit (.slice none 0 0)),(3,I 0),(4,I 0),(5,runes (QF0 line)),(6,AVal.own 0 0 4 0 out.length),(7,I i)]) (fun out i=>[(0,AObj.row 221 4 (out.map Token.cells))]) [] 0 ((Qh1 221 4).trans (wk [0] (tO rfl (tl eqA) .nil) (s1 (s1 (s1 (sl lw (sv (QV0 0 rfl) (s1 .nil)))))))) ⟨_,Nat.lt_succ_self _,foll hR (cf h2 rfl),b6a2⟩ ?_;clear hR;rintro out i ⟨m,hm,hR,hx⟩;(try dsimp only at hR hm hx);obtain ⟨m,rfl⟩:=sucA m;refine ai (fun h3=>?_) (fun h4=>?_)
  ·have qh3:=of_decide_eq_true h3;have hw1:w64 (i+1)=i+1:=wr (by omega);have hp1:=ref05_one_lt (QF0 line) i (by omega) (by omega) (by omega);refine ai gkA ?_;refine us (QQ4 ((QF0 line).getD (Int.toNat i) 0) _) ?_;refine ai (fun h5=>?_) (fun h6=>?_)
   ·exact Q80 out (w64 (i+1)) (wk [0] (tO rfl (tl eqA) .nil) (s1 (s1 (s1 (sl lw (sv (to 0 lnA) (s1 .nil))))))) (by first|(have hp2:=hp1 (by assumption);omega)|exact omA) ⟨m,by first|(have hp2:=hp1 (by assumption);omega)|exact omA,foll hR (ct h3 (ct h5 rfl)),b6a2⟩
   ·refine us (ref05_one_c (QF0 line) i szA ckA _) ?_;refine ai (fun h7=>?_) (fun h8=>?_)
    ·obtain rfl:=foll hR (ct h3 (cf h6 (ct h7 rfl)));exact Q00 (Low.tup' (.cons lw (l1 (l1 .nil)))) (Seen.tup (ev (Qq0) (e1 (e1 .nil))))
    ·refine Or.inl ?_;(first|refine ⟨QK1 40 rfl lnA apA,?_⟩|refine ⟨QR0 40 rfl apA,?_⟩);exact Q80 (out++([(Qd1 (QF0 line) i).1]:List Token)) ((Qd1 (QF0 line) i).2.1) (wk [0] (tO rfl (tl eqA) .nil) (s1 (s1 (s1 (sl lw (sv (to 0 lnA) (s1 .nil))))))) (by first|(have hp2:=hp1 (by assumption);omega)|exact omA) ⟨m,by first|(have hp2:=hp1 (by assumption);omega)|exact omA,foll hR (ct h3 (cf h6 (cf h8 rfl))),b6a2⟩
  ·have qh4:=of_decide_eq_false h4;obtain rfl:=foll hR (cf h4 rfl);exact Q00 (Low.tup' (.cons lw (l1 (l1 .nil)))) (Seen.tup (ev (QT0 Token.zero _ rfl eqA lnA) (e1 (e1 .nil))))
def QV5 (s:State) (j:Job) (latest:Int):Int × Int × Bool:=((Qb3 (QQ1 s ([j.id]:List Int)) (Q40 j.shape) s.now latest 12).1,(Qb3 (QQ1 s ([j.id]:List Int)) (Q40 j.shape) s.now latest 12).2.1,(Qb3 (QQ1 s ([j.id]:List Int)) (Q40 j.shape) s.now latest 12).2.2)
theorem b6a0 {P:Prop} (h:P:=by first|((with_reducible exact ref20_Left_len _ _))|first|((with_reducible exact QS5 _ (by assumption)))|first|((exact QS5 _ z11))|exact szA):P:=h
theorem ref21_Pick_c (s:State) (j:Job) (latest:Int) (hs0:s.sz) (hs1:j.sz) (hp0:∀ y ∈ s.jobs,((y.state != 1)||(y.promise==(-1)))=false->0<=y.choice∧y.choice<((Q40 y.shape).length:Int)):GV 51 [State.a s,Job.a j,I latest] (AVal.tup [I ((QV5 s j latest).1),I ((QV5 s j latest).2.1),Bo ((QV5 s j latest).2.2)]):=by
 generalize hR:QV5 s j latest=R;refine ga (.cons (State.low _ _) (.cons (Job.low _ _) (l1 .nil))) (Low.tup' (l1 (l1 (l1 .nil)))) (kp 9 []) Tryz.func51 ?_;have hk0:=hs0;obtain ⟨z1,z2,z3,z4,z5,z6,z7⟩:=hs0;obtain ⟨z8,z9,z10,z11,z12⟩:=Job.zz hs1;refine dchk (by kernel_rfl) ?_;(first|apply u2|apply u3|apply u4|apply us);exact AGives.as2 (QRd s ([j.id]:List Int) b6a0 b6a0 (by exact hp0) _) (a1 (av (QZ5 (c:=(fun q_=>[I q_])) (d:=0) ([j.id]:List Int) rfl) .nil));(first|apply u2|apply u3|apply u4|apply us);exact Qx4 j.shape b6a0 _;(first|apply u2|apply u3|apply u4|apply us);exact QLd (QQ1 s ([j.id]:List Int)) (Q40 j.shape) s.now latest 12 b6a0 b6a0 _;(repeat ((first|refine ai rfl ?_|refine ai (fun _=>rfl) ?_|refine ai (fun _=>AGives.as2 (QRd s ([j.id]:List Int) b6a0 b6a0 (by exact hp0) _) (a1 (av (QZ5 (c:=(fun q_=>[I q_])) (d:=0) ([j.id]:List Int) rfl) .nil))) ?_|refine ai (fun _=>Qx4 j.shape b6a0 _) ?_|refine ai (fun _=>QLd (QQ1 s ([j.id]:List Int)) (Q40 j.shape) s.now latest 12 b6a0 b6a0 _) ?_)));obtain rfl:=foll hR rfl;exact Q00 (Low.tup' (l1 (l1 (l1 .nil)))) (Seen.tup (e1 (e1 (e1 .nil))))
end Go.Proofs.YtjpgfmbccohngaaGreatDoor
namespace Go.Proofs.YtjpgfmbccohngaaGreatDoor
set_option linter.unusedSimpArgs false
set_option linter.unusedVariables false
open Go.Fw
set_option maxRecDepth 20000
set_option maxHeartbeats 4000000
attribute [local irreducible] ACalls AMoves
def Qd6 (s:ByteArray):Bool:=bif ((((Qk1 s).2.2 != 0)||((((Qk1 s).1).length:Int)!=1))||(!(((((Qk1 s).1).getD 0 Token.zero).kind==1)&&(((((Qk1 s).1).getD 0 Token.zero).text==s)&&(((((Qk1 s).1).getD 0 Token.zero).num==0)&&((((Qk1 s).1).getD 0 Token.zero).at_==0)))))) then false else true
theorem cmd_word_c (s:ByteArray) (hs0:s.size<=4294967296):GV 206 [Sg s] (Bo (Qd6 s)):=by
 generalize hR:Qd6 s=R;refine ga (l1 .nil) lx (kp 3 []) Tryz.func206 ?_;have hk0:=hs0;obtain z3:s.size<=4294967296:=hs0;refine ACalls.of_cwp (fun _=>true) Tryz.func235 rfl rfl ?_;refine ACalls.of_cwp (fun _=>true) Tryz.func260 rfl rfl ?_;refine ai (fun h=>nomatch h) (fun _=>?_);refine ai (fun h=>nomatch h) (fun _=>?_);refine ⟨_,_,Told.refl,?_⟩;refine us (lex_Tokens_c s szA _) ?_;refine dchk (by kernel_rfl) ?_;refine ai gkA ?_;refine ai (fun _=>(by kernel_rfl:eqOK _ _=true)) ?_;(repeat ((first|refine ai rfl ?_|refine ai (fun _=>rfl) ?_)));refine ai (fun h1=>?_) (fun h2=>?_)
 ·refine ⟨_,_,Told.refl,?_⟩;obtain rfl:=foll hR (ct h1 rfl);exact Q00 lx sr
 ·refine ⟨_,_,Told.refl,?_⟩;obtain rfl:=foll hR (cf h2 rfl);exact Q00 lx sr
def QU3 (s:ByteArray):Bool:=bif (((QD0 s).2.2 != 0)||((((QD0 s).1).length:Int)!=1)) then false else bif ((((((QD0 s).1).getD 0 Token.zero).kind != 1)||(!(ByteArray.toList (((QD0 s).1).getD 0 Token.zero).text==ByteArray.toList s)))||((((QD0 s).1).getD 0 Token.zero).num != 0)) then false else true
theorem QKd (s:ByteArray) (hs0:s.size<=4294967296):GV 180 [Sg s] (Bo (QU3 s)):=by
 generalize hR:QU3 s=R;refine ga (l1 .nil) lx (kp 3 []) Tryz.func180 ?_;have hk0:=hs0;obtain z5:s.size<=4294967296:=hs0;refine ACalls.of_cwp (fun _=>true) Tryz.func222 rfl rfl ?_;refine ACalls.of_cwp (fun _=>true) Tryz.func253 rfl rfl ?_;refine ai (fun h=>nomatch h) (fun _=>?_);refine ai (fun h=>nomatch h) (fun _=>?_);refine ⟨_,_,Told.refl,?_⟩;refine us (ref05_Tokens_c s szA _) ?_;refine ai (fun h1=>?_) (fun h2=>?_)
 ·refine ⟨_,_,Told.refl,?_⟩;obtain rfl:=foll hR (ct h1 rfl);exact Q00 lx sr
 ·refine ai gkA ?_;refine ai (fun h3=>?_) (fun h4=>?_)
  ·refine ⟨_,_,Told.refl,?_⟩;obtain rfl:=foll hR (cf h2 (ct h3 rfl));exact Q00 lx sr
  ·refine ⟨_,_,Told.refl,?_⟩;obtain rfl:=foll hR (cf h2 (cf h4 rfl));exact Q00 lx sr
end Go.Proofs.YtjpgfmbccohngaaGreatDoor
namespace Go.Proofs.YtjpgfmbccohngaaGreatDoor
set_option linter.unusedSimpArgs false
set_option linter.unusedVariables false
open Go.Fw
set_option maxRecDepth 20000
set_option maxHeartbeats 4000000
attribute [local irreducible] ACalls AMoves
def Ql9 (c:Cmd) (i1:Bool):Bool:=bif i1 then (QP2 c.node 0 47) else bif (c.kind==10) then (((QP2 c.from_ 0 1000000)&&c.hasTime)&&(QP2 c.nodes 1 48)) else ((c.kind==12)&&(QP2 c.job 0 99999))
def Q08 (c:Cmd) (i:Bool):Bool:=bif i then (Qjd c.job) else bif (c.kind==5) then ((Qjd c.job)&&(c.hasPrio||c.hasTime)) else bif (c.kind==6) then ((Qjd c.job)&&(QP2 c.nodes 1 48)) else bif (c.kind==7) then Ql9 c (c.kind==7) else bif (c.kind==8) then Ql9 c (c.kind==8) else Ql9 c (c.kind==9)
def QIb (c:Cmd):Bool:=bif ((((c.hasPrio&&(!(QP2 c.prio 0 100)))||(c.hasTime&&(!(QJc c.time))))||((!c.hasPrio)&&(c.prio != 0)))||((!c.hasTime)&&(c.time != 0))) then false else bif (c.kind==1) then (((((((QI5 c.name)&&(QI5 c.user))&&(QI5 c.account))&&(Qd6 c.user))&&(Qd6 c.account))&&(QH7 c.after))&&((QX1 c.shape)==0)) else bif (c.kind==2) then Q08 c (c.kind==2) else bif (c.kind==3) then Q08 c (c.kind==3) else bif (c.kind==4) then Q08 c (c.kind==4) else Q08 c (c.kind==11)
theorem cmd_fits_c (c:Cmd) (hs0:c.sz):GV 142 [Cmd.a c] (Bo (QIb c)):=by
 generalize hR:QIb c=R;refine ga (.cons (Cmd.low _ _) .nil) lx (kj [1000010,1000018] 3 [40,42,43,79,87,100,110,117]) Tryz.func142 ?_;have hk0:=hs0;obtain ⟨z25,z26,z27,z28,z29⟩:c.name.size<=4294967296∧c.user.size<=4294967296∧c.account.size<=4294967296∧(c.shape.alts.length<=4294967296)∧c.after.length<=4294967296:=hs0;(first|apply u2|apply u3|apply u4|apply us);exact Qn3 c.prio 0 100 _;(first|apply u2|apply u3|apply u4|apply us);exact cmd_length_c c.time _;refine ai (fun h1=>?_) (fun h2=>?_)
 ·obtain rfl:=foll hR (ct h1 rfl);exact Q00 lx sr
 ·refine ai (fun h3=>?_) (fun h4=>?_)
  ·refine us (QKc c.name szA _) ?_;(first|apply u2|apply u3|apply u4|apply us);exact QKc c.user szA _;(first|apply u2|apply u3|apply u4|apply us);exact QKc c.account szA _;(first|apply u2|apply u3|apply u4|apply us);exact cmd_word_c c.user szA _;(first|apply u2|apply u3|apply u4|apply us);exact cmd_word_c c.account szA _;(first|apply u2|apply u3|apply u4|apply us);exact cmd_deps_c c.after szA _;(first|apply u2|apply u3|apply u4|apply us);exact Qrc c.shape szA _;obtain rfl:=foll hR (cf h2 (ct h3 rfl));exact Q00 lx sr
  ·refine Qr1 (fun (i:Bool)=>Q08 c i=R) (fun i=>[(1,AVal.ptr 0 0 18 0 0),(2,Bo false),(42,I c.kind),(79,Bo i)]) (fun i=>[(0,AObj.row 104 18 [[I c.kind,I c.job,Sg c.name,Sg c.user,Sg c.account,I c.shape.kind,altL c.shape.alts,I c.shape.min,I c.shape.max,I c.shape.wall,I c.prio,Bo c.hasPrio,I c.time,Bo c.hasTime,depL c.after,I c.node,I c.nodes,I c.from_]])]) ?_ ?_
   ·clear hR;rintro i hR;(try dsimp only at hR);refine ai (fun h5=>?_) (fun h6=>?_)
    ·refine us (QBe c.job _) ?_;obtain rfl:=foll hR (ct h5 rfl);exact Q00 lx sr
    ·refine ai (fun h7=>?_) (fun h8=>?_)
     ·refine us (QBe c.job _) ?_;obtain rfl:=foll hR (cf h6 (ct h7 rfl));exact Q00 lx sr
     ·refine ai (fun h9=>?_) (fun h10=>?_)
      ·refine us (QBe c.job _) ?_;(first|apply u2|apply u3|apply u4|apply us);exact Qn3 c.nodes 1 48 _;obtain rfl:=foll hR (cf h6 (cf h8 (ct h9 rfl)));exact Q00 lx sr
      ·refine Qr1 (fun (i1:Bool)=>Ql9 c i1=R) (fun i1=>[(1,AVal.ptr 0 0 18 0 0),(2,Bo false),(42,I c.kind),(110,Bo i1)]) (fun i1=>[(0,AObj.row 104 18 [[I c.kind,I c.job,Sg c.name,Sg c.user,Sg c.account,I c.shape.kind,altL c.shape.alts,I c.shape.min,I c.shape.max,I c.shape.wall,I c.prio,Bo c.hasPrio,I c.time,Bo c.hasTime,depL c.after,I c.node,I c.nodes,I c.from_]])]) ?_ ?_
       ·clear hR;rintro i1 hR;(try dsimp only at hR);refine ai (fun h11=>?_) (fun h12=>?_)
        ·refine us (Qn3 c.node 0 47 _) ?_;obtain rfl:=foll hR (ct h11 rfl);exact Q00 lx sr
        ·refine ai (fun h13=>?_) (fun h14=>?_)
         ·refine us (Qn3 c.from_ 0 1000000 _) ?_;(first|apply u2|apply u3|apply u4|apply us);exact Qn3 c.nodes 1 48 _;obtain rfl:=foll hR (cf h12 (ct h13 rfl));exact Q00 lx sr
         ·(first|apply u2|apply u3|apply u4|apply us);exact Qn3 c.job 0 99999 _;obtain rfl:=foll hR (cf h12 (cf h14 rfl));exact Q00 lx sr
       ·refine ai (fun h15=>?_) (fun h16=>?_)
        ·exact Qb0 (c.kind==7) (wk [0] (tO rfl (ts Cmd.lo) .nil) (sv (Q20 0 rfl rfl) (s1 (s1 (s1 .nil))))) (foll hR (cf h6 (cf h8 (cf h10 (ct h15 rfl)))))
        ·refine ai (fun h17=>?_) (fun h18=>?_)
         ·exact Qb0 (c.kind==8) (wk [0] (tO rfl (ts Cmd.lo) .nil) (sv (Q20 0 rfl rfl) (s1 (s1 (s1 .nil))))) (foll hR (cf h6 (cf h8 (cf h10 (cf h16 (ct h17 rfl))))))
         ·exact Qb0 (c.kind==9) (wk [0] (tO rfl (ts Cmd.lo) .nil) (sv (Q20 0 rfl rfl) (s1 (s1 (s1 .nil))))) (foll hR (cf h6 (cf h8 (cf h10 (cf h16 (cf h18 rfl))))))
   ·refine ai (fun h19=>?_) (fun h20=>?_)
    ·exact Qb0 (c.kind==2) (wk [0] (tO rfl (ts Cmd.lo) .nil) (sv (Q20 0 rfl rfl) (s1 (s1 (s1 .nil))))) (foll hR (cf h2 (cf h4 (ct h19 rfl))))
    ·refine ai (fun h21=>?_) (fun h22=>?_)
     ·exact Qb0 (c.kind==3) (wk [0] (tO rfl (ts Cmd.lo) .nil) (sv (Q20 0 rfl rfl) (s1 (s1 (s1 .nil))))) (foll hR (cf h2 (cf h4 (cf h20 (ct h21 rfl)))))
     ·refine ai (fun h23=>?_) (fun h24=>?_)
      ·exact Qb0 (c.kind==4) (wk [0] (tO rfl (ts Cmd.lo) .nil) (sv (Q20 0 rfl rfl) (s1 (s1 (s1 .nil))))) (foll hR (cf h2 (cf h4 (cf h20 (cf h22 (ct h23 rfl))))))
      ·exact Qb0 (c.kind==11) (wk [0] (tO rfl (ts Cmd.lo) .nil) (sv (Q20 0 rfl rfl) (s1 (s1 (s1 .nil))))) (foll hR (cf h2 (cf h4 (cf h20 (cf h22 (cf h24 rfl))))))
def Qi7 (ok2:Bool):Int:=bif (!ok2) then 80 else 0
def Qh7 (c:Cmd) (ok1:Bool):Int:=bif c.hasTime then Qi7 (ok1&&(Qi1 c.time 1 100000)) else Qi7 (ok1&&(c.time==0))
def Qw2 (c:Cmd) (ok:Bool):Int:=bif c.hasPrio then Qh7 c (ok&&(Qi1 c.prio 0 100)) else Qh7 c (ok&&(c.prio==0))
def Qg7 (c:Cmd) (i1:Bool):Int:=bif i1 then Qw2 c ((Qq2 c true true true true false true true)&&(Qi1 c.node 0 47)) else bif (c.kind==10) then Qw2 c ((((Qq2 c true true true false true false false)&&(Qi1 c.from_ 0 1000000))&&c.hasTime)&&(Qi1 c.nodes 1 48)) else Qw2 c false
def Q66 (c:Cmd) (i:Bool):Int:=bif i then Qw2 c ((Qq2 c false true true true true true true)&&(Qi1 c.job 1 99999)) else bif (c.kind==12) then Qw2 c ((Qq2 c false true true true true true true)&&(Qi1 c.job 0 99999)) else bif (c.kind==5) then Qw2 c (((Qq2 c false true false false true true true)&&(Qi1 c.job 1 99999))&&(c.hasPrio||c.hasTime)) else bif (c.kind==6) then Qw2 c (((Qq2 c false true true true true false true)&&(Qi1 c.job 1 99999))&&(Qi1 c.nodes 1 48)) else bif (c.kind==7) then Qg7 c (c.kind==7) else bif (c.kind==8) then Qg7 c (c.kind==8) else Qg7 c (c.kind==9)
def Qf4 (c:Cmd):Int:=bif (c.kind==1) then Qw2 c ((((((((Qq2 c true false false true true true true)&&(QB3 c.name))&&(QB3 c.user))&&(QB3 c.account))&&(QU3 c.user))&&(QU3 c.account))&&(Qn6 c.after))&&((Qe1 c.shape)==0)) else bif (c.kind==2) then Q66 c (c.kind==2) else bif (c.kind==3) then Q66 c (c.kind==3) else bif (c.kind==4) then Q66 c (c.kind==4) else Q66 c (c.kind==11)
theorem ref08_Check_c (c:Cmd) (hs0:c.sz):GV 114 [Cmd.a c] (I (Qf4 c)):=by
 generalize hR:Qf4 c=R;refine ga (.cons (Cmd.low _ _) .nil) lx (kj [1000010,1000020,1000023,1000026,1000029] 4 [5,6,46,58,67,84,98,109,128,142,156]) Tryz.func114 ?_;have hk0:=hs0;obtain ⟨z31,z32,z33,z34,z35⟩:c.name.size<=4294967296∧c.user.size<=4294967296∧c.account.size<=4294967296∧(c.shape.alts.length<=4294967296)∧c.after.length<=4294967296:=hs0;refine Qr1 (fun (ok:Bool)=>Qw2 c ok=R) (fun ok=>[(1,AVal.ptr 0 0 18 0 0),(2,I 0),(3,Bo ok)]) (fun ok=>[(0,AObj.row 104 18 [[I c.kind,I c.job,Sg c.name,Sg c.user,Sg c.account,I c.shape.kind,altL c.shape.alts,I c.shape.min,I c.shape.max,I c.shape.wall,I c.prio,Bo c.hasPrio,I c.time,Bo c.hasTime,depL c.after,I c.node,I c.nodes,I c.from_]])]) ?_ ?_
 ·clear hR;rintro ok hR;(try dsimp only at hR);refine Qr1 (fun (ok1:Bool)=>Qh7 c ok1=R) (fun ok1=>[(1,AVal.ptr 0 0 18 0 0),(2,I 0),(3,Bo ok1)]) (fun ok1=>[(0,AObj.row 104 18 [[I c.kind,I c.job,Sg c.name,Sg c.user,Sg c.account,I c.shape.kind,altL c.shape.alts,I c.shape.min,I c.shape.max,I c.shape.wall,I c.prio,Bo c.hasPrio,I c.time,Bo c.hasTime,depL c.after,I c.node,I c.nodes,I c.from_]])]) ?_ ?_
  ·clear hR;rintro ok1 hR;(try dsimp only at hR);refine Qr1 (fun (ok2:Bool)=>Qi7 ok2=R) (fun ok2=>[(2,I 0),(3,Bo ok2)]) (fun ok2=>[]) ?_ ?_
   ·clear hR;rintro ok2 hR;(try dsimp only at hR);refine ai (fun h1=>?_) (fun h2=>?_)
    ·obtain rfl:=foll hR (ct h1 rfl);exact Q00 lx sr
    ·obtain rfl:=foll hR (cf h2 rfl);exact Q00 lx sr
   ·refine ai (fun h3=>?_) (fun h4=>?_)
    ·(first|apply u2|apply u3|apply u4|apply us);exact QV3 c.time 1 100000 _;exact Qb0 (ok1&&(Qi1 c.time 1 100000)) (wk [] .nil (s1 (s1 .nil))) (foll hR (ct h3 rfl))
    ·exact Qb0 (ok1&&(c.time==0)) (wk [] .nil (s1 (s1 .nil))) (foll hR (cf h4 rfl))
  ·refine ai (fun h5=>?_) (fun h6=>?_)
   ·(first|apply u2|apply u3|apply u4|apply us);exact QV3 c.prio 0 100 _;exact Qb0 (ok&&(Qi1 c.prio 0 100)) (wk [0] (tO rfl (ts Cmd.lo) .nil) (sv (Q20 0 rfl rfl) (s1 (s1 .nil)))) (foll hR (ct h5 rfl))
   ·exact Qb0 (ok&&(c.prio==0)) (wk [0] (tO rfl (ts Cmd.lo) .nil) (sv (Q20 0 rfl rfl) (s1 (s1 .nil)))) (foll hR (cf h6 rfl))
 ·refine ai (fun h7=>?_) (fun h8=>?_)
  ·refine us (Qw5 c true false false true true true true szA _) ?_;(first|apply u2|apply u3|apply u4|apply us);exact Qga c.name szA _;(first|apply u2|apply u3|apply u4|apply us);exact Qga c.user szA _;(first|apply u2|apply u3|apply u4|apply us);exact Qga c.account szA _;(first|apply u2|apply u3|apply u4|apply us);exact QKd c.user szA _;(first|apply u2|apply u3|apply u4|apply us);exact QKd c.account szA _;(first|apply u2|apply u3|apply u4|apply us);exact ref08_waits_c c.after szA _;(first|apply u2|apply u3|apply u4|apply us);exact Qcc c.shape szA _;exact Qb0 ((((((((Qq2 c true false false true true true true)&&(QB3 c.name))&&(QB3 c.user))&&(QB3 c.account))&&(QU3 c.user))&&(QU3 c.account))&&(Qn6 c.after))&&((Qe1 c.shape)==0)) (wk [0] (tO rfl (ts Cmd.lo) .nil) (sv (Q20 0 rfl rfl) (s1 (s1 .nil)))) (foll hR (ct h7 rfl))
  ·refine Qr1 (fun (i:Bool)=>Q66 c i=R) (fun i=>[(1,AVal.ptr 0 0 18 0 0),(2,I 0),(3,Bo false),(5,I c.kind),(46,Bo i)]) (fun i=>[(0,AObj.row 104 18 [[I c.kind,I c.job,Sg c.name,Sg c.user,Sg c.account,I c.shape.kind,altL c.shape.alts,I c.shape.min,I c.shape.max,I c.shape.wall,I c.prio,Bo c.hasPrio,I c.time,Bo c.hasTime,depL c.after,I c.node,I c.nodes,I c.from_]])]) ?_ ?_
   ·clear hR;rintro i hR;(try dsimp only at hR);refine ai (fun h9=>?_) (fun h10=>?_)
    ·refine us (Qw5 c false true true true true true true szA _) ?_;(first|apply u2|apply u3|apply u4|apply us);exact QV3 c.job 1 99999 _;exact Qb0 ((Qq2 c false true true true true true true)&&(Qi1 c.job 1 99999)) (wk [0] (tO rfl (ts Cmd.lo) .nil) (sv (Q20 0 rfl rfl) (s1 (s1 .nil)))) (foll hR (ct h9 rfl))
    ·refine ai (fun h11=>?_) (fun h12=>?_)
     ·refine us (Qw5 c false true true true true true true szA _) ?_;(first|apply u2|apply u3|apply u4|apply us);exact QV3 c.job 0 99999 _;exact Qb0 ((Qq2 c false true true true true true true)&&(Qi1 c.job 0 99999)) (wk [0] (tO rfl (ts Cmd.lo) .nil) (sv (Q20 0 rfl rfl) (s1 (s1 .nil)))) (foll hR (cf h10 (ct h11 rfl)))
     ·refine ai (fun h13=>?_) (fun h14=>?_)
      ·refine us (Qw5 c false true false false true true true szA _) ?_;(first|apply u2|apply u3|apply u4|apply us);exact QV3 c.job 1 99999 _;exact Qb0 (((Qq2 c false true false false true true true)&&(Qi1 c.job 1 99999))&&(c.hasPrio||c.hasTime)) (wk [0] (tO rfl (ts Cmd.lo) .nil) (sv (Q20 0 rfl rfl) (s1 (s1 .nil)))) (foll hR (cf h10 (cf h12 (ct h13 rfl))))
      ·refine ai (fun h15=>?_) (fun h16=>?_)
       ·refine us (Qw5 c false true true true true false true szA _) ?_;(first|apply u2|apply u3|apply u4|apply us);exact QV3 c.job 1 99999 _;(first|apply u2|apply u3|apply u4|apply us);exact QV3 c.nodes 1 48 _;exact Qb0 (((Qq2 c false true true true true false true)&&(Qi1 c.job 1 99999))&&(Qi1 c.nodes 1 48)) (wk [0] (tO rfl (ts Cmd.lo) .nil) (sv (Q20 0 rfl rfl) (s1 (s1 .nil)))) (foll hR (cf h10 (cf h12 (cf h14 (ct h15 rfl)))))
       ·refine Qr1 (fun (i1:Bool)=>Qg7 c i1=R) (fun i1=>[(1,AVal.ptr 0 0 18 0 0),(2,I 0),(3,Bo false),(5,I c.kind),(98,Bo i1)]) (fun i1=>[(0,AObj.row 104 18 [[I c.kind,I c.job,Sg c.name,Sg c.user,Sg c.account,I c.shape.kind,altL c.shape.alts,I c.shape.min,I c.shape.max,I c.shape.wall,I c.prio,Bo c.hasPrio,I c.time,Bo c.hasTime,depL c.after,I c.node,I c.nodes,I c.from_]])]) ?_ ?_
        ·clear hR;rintro i1 hR;(try dsimp only at hR);refine ai (fun h17=>?_) (fun h18=>?_)
         ·refine us (Qw5 c true true true true false true true szA _) ?_;(first|apply u2|apply u3|apply u4|apply us);exact QV3 c.node 0 47 _;exact Qb0 ((Qq2 c true true true true false true true)&&(Qi1 c.node 0 47)) (wk [0] (tO rfl (ts Cmd.lo) .nil) (sv (Q20 0 rfl rfl) (s1 (s1 .nil)))) (foll hR (ct h17 rfl))
         ·refine ai (fun h19=>?_) (fun h20=>?_)
          ·refine us (Qw5 c true true true false true false false szA _) ?_;(first|apply u2|apply u3|apply u4|apply us);exact QV3 c.from_ 0 1000000 _;(first|apply u2|apply u3|apply u4|apply us);exact QV3 c.nodes 1 48 _;exact Qb0 ((((Qq2 c true true true false true false false)&&(Qi1 c.from_ 0 1000000))&&c.hasTime)&&(Qi1 c.nodes 1 48)) (wk [0] (tO rfl (ts Cmd.lo) .nil) (sv (Q20 0 rfl rfl) (s1 (s1 .nil)))) (foll hR (cf h18 (ct h19 rfl)))
          ·exact Qb0 false (wk [0] (tO rfl (ts Cmd.lo) .nil) (sv (Q20 0 rfl rfl) (s1 (s1 .nil)))) (foll hR (cf h18 (cf h20 rfl)))
        ·refine ai (fun h21=>?_) (fun h22=>?_)
         ·exact Qb0 (c.kind==7) (wk [0] (tO rfl (ts Cmd.lo) .nil) (sv (Q20 0 rfl rfl) (s1 (s1 (s1 (s1 .nil)))))) (foll hR (cf h10 (cf h12 (cf h14 (cf h16 (ct h21 rfl))))))
         ·refine ai (fun h23=>?_) (fun h24=>?_)
          ·exact Qb0 (c.kind==8) (wk [0] (tO rfl (ts Cmd.lo) .nil) (sv (Q20 0 rfl rfl) (s1 (s1 (s1 (s1 .nil)))))) (foll hR (cf h10 (cf h12 (cf h14 (cf h16 (cf h22 (ct h23 rfl)))))))
          ·exact Qb0 (c.kind==9) (wk [0] (tO rfl (ts Cmd.lo) .nil) (sv (Q20 0 rfl rfl) (s1 (s1 (s1 (s1 .nil)))))) (foll hR (cf h10 (cf h12 (cf h14 (cf h16 (cf h22 (cf h24 rfl)))))))
   ·refine ai (fun h25=>?_) (fun h26=>?_)
    ·exact Qb0 (c.kind==2) (wk [0] (tO rfl (ts Cmd.lo) .nil) (sv (Q20 0 rfl rfl) (s1 (s1 (s1 (s1 .nil)))))) (foll hR (cf h8 (ct h25 rfl)))
    ·refine ai (fun h27=>?_) (fun h28=>?_)
     ·exact Qb0 (c.kind==3) (wk [0] (tO rfl (ts Cmd.lo) .nil) (sv (Q20 0 rfl rfl) (s1 (s1 (s1 (s1 .nil)))))) (foll hR (cf h8 (cf h26 (ct h27 rfl))))
     ·refine ai (fun h29=>?_) (fun h30=>?_)
      ·exact Qb0 (c.kind==4) (wk [0] (tO rfl (ts Cmd.lo) .nil) (sv (Q20 0 rfl rfl) (s1 (s1 (s1 (s1 .nil)))))) (foll hR (cf h8 (cf h26 (cf h28 (ct h29 rfl)))))
      ·exact Qb0 (c.kind==11) (wk [0] (tO rfl (ts Cmd.lo) .nil) (sv (Q20 0 rfl rfl) (s1 (s1 (s1 (s1 .nil)))))) (foll hR (cf h8 (cf h26 (cf h28 (cf h30 rfl)))))
end Go.Proofs.YtjpgfmbccohngaaGreatDoor
namespace Go.Proofs.YtjpgfmbccohngaaGreatDoor
set_option linter.unusedSimpArgs false
set_option linter.unusedVariables false
open Go.Fw
set_option maxRecDepth 20000
set_option maxHeartbeats 4000000
attribute [local irreducible] ACalls AMoves
def Qo7 (c:Cmd):Int:=bif ((((decide ((c.shape.alts.length:Int) > 6))||(decide ((c.after.length:Int) > 4)))||(!(QIb c)))||(!(QHb c (Ql8 c)))) then 80 else 0
theorem b9a0 {P:Prop} (h:P:=by first|(exact cmd_bare_sz _ (by assumption))|exact szA):P:=h
theorem QVe (c:Cmd) (hs0:c.sz):GV 73 [Cmd.a c] (I (Qo7 c)):=by
 generalize hR:Qo7 c=R;refine ga (.cons (Cmd.low _ _) .nil) lx (kp 3 [25]) Tryz.func73 ?_;have hk0:=hs0;obtain ⟨z3,z4,z5,z6,z7⟩:c.name.size<=4294967296∧c.user.size<=4294967296∧c.account.size<=4294967296∧(c.shape.alts.length<=4294967296)∧c.after.length<=4294967296:=hs0;refine dchk (by kernel_rfl) ?_;(first|apply u2|apply u3|apply u4|apply us);exact cmd_fits_c c b9a0 _;(first|apply u2|apply u3|apply u4|apply us);exact cmd_bare_c c b9a0 _;(first|apply u2|apply u3|apply u4|apply us);exact cmd_Same_c c (Ql8 c) b9a0 b9a0 _;(repeat ((first|refine ai rfl ?_|refine ai (fun _=>rfl) ?_|refine ai (fun _=>cmd_fits_c c b9a0 _) ?_|refine ai (fun _=>cmd_bare_c c b9a0 _) ?_|refine ai (fun _=>cmd_Same_c c (Ql8 c) b9a0 b9a0 _) ?_)));refine ai (fun h1=>?_) (fun h2=>?_)
 ·obtain rfl:=foll hR (ct h1 rfl);exact Q00 lx sr
 ·obtain rfl:=foll hR (cf h2 rfl);exact Q00 lx sr
def Qw3 (j:Job):List Dep->Nat->Int
 | [],_=>bif (!(Qf1 j)) then 140 else 0
 | x_ :: r,i=>bif (decide (x_.job >= j.id)) then 140 else Qw3 j r (i+1)
def Qp0 (j:Job):Int:=bif (((((((Qf4 (⟨1,0,j.name,j.user,j.account,j.shape,j.prio,true,0,false,j.after,0,0,0⟩:Cmd))!=0)||(decide (j.id<1)))||(decide (j.id > 99999)))||(!(QL0 j.born)))||(decide (j.used<0)))||(decide (j.used > 1000000000000))) then 140 else Qw3 j j.after 0
theorem Qdc (j:Job) (hs0:j.sz):GV 50 [Job.a j] (I (Qp0 j)):=by
 generalize hR:Qp0 j=R;refine ga (.cons (Job.low _ _) .nil) lx (kp 5 [46,51,62,65]) Tryz.func50 ?_;obtain ⟨z9,z10,z11,z12,z13⟩:=Job.zz hs0;refine us (ref08_Check_c (⟨1,0,j.name,j.user,j.account,j.shape,j.prio,true,0,false,j.after,0,0,0⟩:Cmd) szA _) ?_;(first|apply u2|apply u3|apply u4|apply us);exact Q44 j.born _;refine ai (fun h1=>?_) (fun h2=>?_)
 ·obtain rfl:=foll hR (ct h1 rfl);exact Q00 lx sr
 ·refine Qf0 (fun (i:Nat)=>Qw3 j (List.drop i j.after) i=R∧i<=j.after.length) (fun i=>j.after.length - i) (fun i=>[(1,AVal.ptr 0 0 20 0 0),(2,I 0),(4,I (i:Int))]) (fun i=>[(0,AObj.row 35 20 [[I j.id,Sg j.name,Sg j.user,Sg j.account,I j.shape.kind,altL j.shape.alts,I j.shape.min,I j.shape.max,I j.shape.wall,I j.prio,depL j.after,I j.state,Bo j.held,I j.born,I j.promise,I j.choice,I j.start,I j.limit,U j.nodes,I j.used]])]) 0 (wk [0] (tO rfl (ts Job.lo) .nil) (sv (Q20 0 rfl rfl) (s1 (s1 .nil)))) ⟨foll hR (cf h2 rfl),by exact omA⟩ ?_;clear hR;rintro i ⟨hR,hj⟩;(try dsimp only at hR hj);refine ai (fun h3=>?_) (fun h4=>?_)
  ·have hlt:=ltA h3;rw [Q90 Dep.zero hlt] at hR;refine dchk (by kernel_rfl) ?_;refine ai gkA ?_;(repeat ((first|refine ai rfl ?_|refine ai (fun _=>rfl) ?_)));refine ai (fun h5=>?_) (fun h6=>?_)
   ·have qh5:=of_decide_eq_true h5;obtain rfl:=foll hR (ct h5 rfl);exact Q00 lx sr
   ·have qh6:=of_decide_eq_false h6;exact Qj0 (i+1) (wk [0] (tO rfl (ts Job.lo) .nil) (sv (Q20 0 rfl rfl) (s1 (sv (Q70 (I_eq (wr omA)) lx) .nil)))) omA ⟨foll hR (cf h6 rfl),by exact omA⟩
  ·rw [Qa0 (l:=j.after) (j:=i) (geA h4)] at hR;refine us (ref14_state_c j szA _) ?_;refine ai (fun h7=>?_) (fun h8=>?_)
   ·obtain rfl:=foll hR (ct h7 rfl);exact Q00 lx sr
   ·obtain rfl:=foll hR (cf h8 rfl);exact Q00 lx sr
theorem QC3 {j:Job} (h:((Qp0 j)!=0)=false):Qf1 j=true:=by
 have g1:∀ (l:List Dep) (i:Nat),Qw3 j l i=0->Qf1 j=true:=by
  intro l
  induction l with
  | nil =>
   intro i hi
   rw [Qw3] at hi
   cases hs:Qf1 j with
   | true=>rfl
   | false=>rw [hs] at hi;cases hi
  | cons x r ih =>
   intro i hi
   rw [Qw3] at hi
   cases hx:decide (x.job >= j.id) with
   | true=>rw [hx] at hi;cases hi
   | false=>rw [hx] at hi;exact ih _ hi
 simp only [Qp0] at h
 revert h
 cases (((((((Qf4 (⟨1,0,j.name,j.user,j.account,j.shape,j.prio,true,0,false,j.after,0,0,0⟩:Cmd))!=0)||(decide (j.id<1)))||(decide (j.id > 99999)))||(!(QL0 j.born)))||(decide (j.used<0)))||(decide (j.used > 1000000000000))) with
 | true=>simp
 | false =>
  intro h
  exact g1 _ _ (by simpa using h)
theorem Qia {j:Job} (h:Qf1 j=true):((j.state != 1)||(j.promise==(-1)))=false->0<=j.choice∧j.choice<((Q40 j.shape).length:Int):=by
 intro hq
 rw [Bool.or_eq_false_iff] at hq
 have h1:(j.state==1)=true:=by simpa using hq.1
 rw [Qf1,h1,hq.2] at h
 simp only [cond_true,cond_false] at h
 revert h
 cases (((j.start != 0)||(j.limit != 0))||(j.nodes != 0)) with
 | true=>intro h;cases h
 | false =>
  intro h
  simp only [cond_false,Bool.and_eq_true,decide_eq_true_eq] at h
  have hw:=h.1.2
  unfold Qy1 at hw
  cases hc:((decide (j.choice<0))||(decide (j.choice >= ((Q40 j.shape).length:Int)))) with
  | true=>rw [hc] at hw;simp at hw
  | false=>simp at hc;omega
end Go.Proofs.YtjpgfmbccohngaaGreatDoor
namespace Go.Proofs.YtjpgfmbccohngaaGreatDoor
set_option linter.unusedSimpArgs false
set_option linter.unusedVariables false
open Go.Fw
set_option maxRecDepth 20000
set_option maxHeartbeats 4000000
attribute [local irreducible] ACalls AMoves
def Q33 (j:Job):Int:=bif ((((((decide (j.id<1))||(decide (j.id > 99999)))||(!(QZ3 j.born)))||(j.used != (Q96 j.used)))||((Qo7 (QV1 j))!=0))||(Qx0 j.after (fun (y:Dep)=>(decide (y.job >= j.id))))) then 140 else bif (j.state==1) then bif (!(Qz2 j)) then 140 else 0 else bif (j.state==2) then bif (!(QP3 j)) then 140 else 0 else bif (!(Q78 j.state)) then 140 else bif (!(QL4 j)) then 140 else 0
theorem Qq9 (j:Job) (hs0:j.sz):GV 23 [Job.a j] (I (Q33 j)):=by
 generalize hR:Q33 j=R;refine ga (.cons (Job.low _ _) .nil) lx (kp 6 [42,45,51,57,64]) Tryz.func23 ?_;obtain ⟨z19,z20,z21,z22,z23⟩:=Job.zz hs0;refine dchk (by kernel_rfl) ?_;(first|apply u2|apply u3|apply u4|apply us);exact QK5 j.born _;(first|apply u2|apply u3|apply u4|apply us);exact QF9 j.used _;(first|apply u2|apply u3|apply u4|apply us);exact Qr7 j _;(first|apply u2|apply u3|apply u4|apply us);exact QVe (QV1 j) szA _;have cl1:∀ (y1:Dep),AMoves Tryz.prog 70 [Dep.a y1,AVal.ptr 0 0 20 0 0] [(0,AObj.row 35 20 [[I j.id,Sg j.name,Sg j.user,Sg j.account,I j.shape.kind,altL j.shape.alts,I j.shape.min,I j.shape.max,I j.shape.wall,I j.prio,depL j.after,I j.state,Bo j.held,I j.born,I j.promise,I j.choice,I j.start,I j.limit,U j.nodes,I j.used]])] 1 (Bo ((fun (y:Dep)=>(decide (y.job >= j.id))) y1)) [(0,AObj.row 35 20 [[I j.id,Sg j.name,Sg j.user,Sg j.account,I j.shape.kind,altL j.shape.alts,I j.shape.min,I j.shape.max,I j.shape.wall,I j.prio,depL j.after,I j.state,Bo j.held,I j.born,I j.promise,I j.choice,I j.start,I j.limit,U j.nodes,I j.used]])]:=by
  intro y1;have hR:(fun (y:Dep)=>(decide (y.job >= j.id))) y1=(fun (y:Dep)=>(decide (y.job >= j.id))) y1:=rfl;refine mo (kp 4 []) Tryz.func70 ?_;refine Qs0 (fun r:Bool=>Bo r) (fun _=>[(0,AObj.row 35 20 [[I j.id,Sg j.name,Sg j.user,Sg j.account,I j.shape.kind,altL j.shape.alts,I j.shape.min,I j.shape.max,I j.shape.wall,I j.prio,depL j.after,I j.state,Bo j.held,I j.born,I j.promise,I j.choice,I j.start,I j.limit,U j.nodes,I j.used]])]) (leaf:=(decide (y1.job >= j.id))) (foll hR rfl) ?_;exact tt [0] (tO rfl (ts Job.lo) .nil) t1
 have hof1:AMoves Tryz.prog 75 [depL j.after,AVal.fn (.func 70) [] [AVal.ptr 0 0 20 0 0]] [(0,AObj.row 35 20 [[I j.id,Sg j.name,Sg j.user,Sg j.account,I j.shape.kind,altL j.shape.alts,I j.shape.min,I j.shape.max,I j.shape.wall,I j.prio,depL j.after,I j.state,Bo j.held,I j.born,I j.promise,I j.choice,I j.start,I j.limit,U j.nodes,I j.used]])] 1 (Bo (Qx0 j.after (fun (y:Dep)=>(decide (y.job >= j.id))))) [(0,AObj.row 35 20 [[I j.id,Sg j.name,Sg j.user,Sg j.account,I j.shape.kind,altL j.shape.alts,I j.shape.min,I j.shape.max,I j.shape.wall,I j.prio,depL j.after,I j.state,Bo j.held,I j.born,I j.promise,I j.choice,I j.start,I j.limit,U j.nodes,I j.used]])]:=by
  have hR:Qx0 j.after (fun (y:Dep)=>(decide (y.job >= j.id)))=Qx0 j.after (fun (y:Dep)=>(decide (y.job >= j.id))):=rfl;refine mo (kp 5 []) Tryz.func75 ?_;have hof2:AMoves Tryz.prog 145 [depL j.after,AVal.fn (.func 70) [] [AVal.ptr 0 0 20 0 0]] [(0,AObj.row 35 20 [[I j.id,Sg j.name,Sg j.user,Sg j.account,I j.shape.kind,altL j.shape.alts,I j.shape.min,I j.shape.max,I j.shape.wall,I j.prio,depL j.after,I j.state,Bo j.held,I j.born,I j.promise,I j.choice,I j.start,I j.limit,U j.nodes,I j.used]])] 1 (I (Q81 j.after (fun (y:Dep)=>(decide (y.job >= j.id))))) [(0,AObj.row 35 20 [[I j.id,Sg j.name,Sg j.user,Sg j.account,I j.shape.kind,altL j.shape.alts,I j.shape.min,I j.shape.max,I j.shape.wall,I j.prio,depL j.after,I j.state,Bo j.held,I j.born,I j.promise,I j.choice,I j.start,I j.limit,U j.nodes,I j.used]])]:=by
   have hR:Q81 j.after (fun (y:Dep)=>(decide (y.job >= j.id)))=Q81 j.after (fun (y:Dep)=>(decide (y.job >= j.id))):=rfl;refine mo (kp 6 [7,8,9,16]) Tryz.func145 ?_;refine Qf0 (fun (i:Nat)=>Qk3 (fun (y:Dep)=>(decide (y.job >= j.id))) (List.drop i j.after) i=Q81 j.after (fun (y:Dep)=>(decide (y.job >= j.id)))∧i<=j.after.length) (fun i=>j.after.length - i) (fun i=>[(0,depL j.after),(1,AVal.fn (.func 70) [] [AVal.ptr 0 0 20 0 0]),(4,I 0),(7,I (j.after.length:Int)),(8,I (i:Int))]) (fun i=>[(0,AObj.row 35 20 [[I j.id,Sg j.name,Sg j.user,Sg j.account,I j.shape.kind,altL j.shape.alts,I j.shape.min,I j.shape.max,I j.shape.wall,I j.prio,depL j.after,I j.state,Bo j.held,I j.born,I j.promise,I j.choice,I j.start,I j.limit,U j.nodes,I j.used]])]) 0 (wk [0] (tO rfl (ts Job.lo) .nil) (sl lw (sv (Q31 .nil (cv (Q20 0 rfl rfl) .nil)) (s1 (s1 (s1 .nil)))))) ⟨foll hR rfl,by exact omA⟩ ?_;clear hR;rintro i ⟨hR,hj⟩;(try dsimp only at hR hj);refine ai (fun h1=>?_) (fun h2=>?_)
   ·have hlt:=ltA h1;rw [Q90 Dep.zero hlt] at hR;refine ai gkA ?_;refine us (mv [0] (cl1 (j.after.getD i Dep.zero)) (dO (ds Job.lo) .nil) (dl (Dep.low _ _) (dp .nil)) (rO (re Job.lo) .nil) rx) ?_;refine ai (fun h3=>?_) (fun h4=>?_)
    ·refine Qs0 (fun r:Int=>I r) (fun r:Int=>[(0,AObj.row 35 20 [[I j.id,Sg j.name,Sg j.user,Sg j.account,I j.shape.kind,altL j.shape.alts,I j.shape.min,I j.shape.max,I j.shape.wall,I j.prio,depL j.after,I j.state,Bo j.held,I j.born,I j.promise,I j.choice,I j.start,I j.limit,U j.nodes,I j.used]])]) (leaf:=(i:Int)) (foll hR (ct h3 rfl)) ?_;exact tt [0] (tO rfl (ts Job.lo) .nil) t1
    ·exact Qj0 (i+1) (wk [0] (tO rfl (ts Job.lo) .nil) (sl lw (sv (Q31 .nil (cv (Q20 0 rfl rfl) .nil)) (s1 (s1 (sv (Q70 (I_eq (wr omA)) lx) .nil)))))) omA ⟨foll hR (cf h4 rfl),by exact omA⟩
   ·rw [Qa0 (l:=j.after) (j:=i) (geA h2)] at hR;refine Qs0 (fun r:Int=>I r) (fun r:Int=>[(0,AObj.row 35 20 [[I j.id,Sg j.name,Sg j.user,Sg j.account,I j.shape.kind,altL j.shape.alts,I j.shape.min,I j.shape.max,I j.shape.wall,I j.prio,depL j.after,I j.state,Bo j.held,I j.born,I j.promise,I j.choice,I j.start,I j.limit,U j.nodes,I j.used]])]) (leaf:=(-1)) (foll hR rfl) ?_;exact tt [0] (tO rfl (ts Job.lo) .nil) t1
  refine us (mv [0] (hof2) (dO (ds Job.lo) .nil) (dl lw (dv (dn_fn .nil (dp .nil)) .nil)) (rO (re Job.lo) .nil) rx) ?_;refine Qs0 (fun r:Bool=>Bo r) (fun r:Bool=>[(0,AObj.row 35 20 [[I j.id,Sg j.name,Sg j.user,Sg j.account,I j.shape.kind,altL j.shape.alts,I j.shape.min,I j.shape.max,I j.shape.wall,I j.prio,depL j.after,I j.state,Bo j.held,I j.born,I j.promise,I j.choice,I j.start,I j.limit,U j.nodes,I j.used]])]) (leaf:=(decide ((Q81 j.after (fun (y:Dep)=>(decide (y.job >= j.id)))) >= 0))) (foll hR rfl) ?_;exact tt [0] (tO rfl (ts Job.lo) .nil) t1
 (first|apply u2|apply u3|apply u4|apply us);exact mv [0] (hof1) (dO (ds Job.lo) .nil) (dl lw (dv (dn_fn .nil (dp .nil)) .nil)) (rO (re Job.lo) .nil) rx;(repeat ((first|refine ai rfl ?_|refine ai (fun _=>rfl) ?_|refine ai (fun _=>QK5 j.born _) ?_|refine ai (fun _=>QF9 j.used _) ?_|refine ai (fun _=>Qr7 j _) ?_|refine ai (fun _=>QVe (QV1 j) szA _) ?_)));refine ai (fun h5=>?_) (fun h6=>?_)
 ·obtain rfl:=foll hR (ct h5 rfl);exact Q00 lx sr
 ·refine ai (fun h7=>?_) (fun h8=>?_)
  ·refine us (QRc j szA _) ?_;refine ai (fun h9=>?_) (fun h10=>?_)
   ·obtain rfl:=foll hR (cf h6 (ct h7 (ct h9 rfl)));exact Q00 lx sr
   ·obtain rfl:=foll hR (cf h6 (ct h7 (cf h10 rfl)));exact Q00 lx sr
  ·refine ai (fun h11=>?_) (fun h12=>?_)
   ·refine us (QYb j szA _) ?_;refine ai (fun h13=>?_) (fun h14=>?_)
    ·obtain rfl:=foll hR (cf h6 (cf h8 (ct h11 (ct h13 rfl))));exact Q00 lx sr
    ·obtain rfl:=foll hR (cf h6 (cf h8 (ct h11 (cf h14 rfl))));exact Q00 lx sr
   ·refine us (job_ended_c j.state _) ?_;refine ai (fun h15=>?_) (fun h16=>?_)
    ·obtain rfl:=foll hR (cf h6 (cf h8 (cf h12 (ct h15 rfl))));exact Q00 lx sr
    ·refine us (Qkf j _) ?_;refine ai (fun h17=>?_) (fun h18=>?_)
     ·obtain rfl:=foll hR (cf h6 (cf h8 (cf h12 (cf h16 (ct h17 rfl)))));exact Q00 lx sr
     ·obtain rfl:=foll hR (cf h6 (cf h8 (cf h12 (cf h16 (cf h18 rfl)))));exact Q00 lx sr
theorem Q2e {j:Job} (h:((((Q33 j)!=0)||(j.state != 1))||(decide (j.promise<0)))=false):0<=j.choice∧j.choice<((QH0 j.shape).length:Int):=by
 simp only [Bool.or_eq_false_iff,bne_eq_false_iff_eq,decide_eq_false_iff_not] at h
 obtain ⟨⟨h1,h2⟩,h3⟩:=h
 have hq:Qz2 j=true:=by
  unfold Q33 at h1
  revert h1
  rw [show (j.state==1)=true by simpa using h2]
  cases ((((((decide (j.id<1))||(decide (j.id > 99999)))||(!(QZ3 j.born)))||(j.used != (Q96 j.used)))||((Qo7 (QV1 j))!=0))||(Qx0 j.after (fun (y:Dep)=>(decide (y.job >= j.id))))) with
  | true=>simp
  | false =>
   cases Qz2 j with
   | true=>simp
   | false=>simp
 unfold Qz2 at hq
 simp only [Bool.and_eq_true,Bool.or_eq_true] at hq
 rcases hq.2 with hp|hp
 ·have:=hp.1
  simp at this
  omega
 ·have ho:=hp.1.2
  unfold Q41 at ho
  cases hc:((decide (j.choice<0))||(decide (j.choice >= ((QH0 j.shape).length:Int)))) with
  | true=>rw [hc] at ho;cases ho
  | false=>simp at hc;omega
def Qx2 :List Job->Int->Nat->Int
 | [],_,_=>0
 | x_ :: r,last,i=>bif ((((i:Int)==40)||((Qp0 x_)!=0))||(decide (x_.id<=last))) then 140 else Qx2 r x_.id (i+1)
def Qt1 (l:List Job):Int:=Qx2 l 0 0
theorem QC9 (l:List Job) (hs0:l.length<=4294967296∧(∀ y ∈ l,y.sz)):GV 92 [jobL l] (I (Qt1 l)):=by
 generalize hR:Qt1 l=R;refine ga (.cons lw .nil) lx (kp 5 [8,29]) Tryz.func92 ?_;obtain ⟨z10,z11⟩:=id hs0;refine Qg0 (fun (last:Int) (i:Nat)=>Qx2 (List.drop i l) last i=R∧i<=l.length) (fun last i=>l.length - i) (fun last i=>[(0,jobL l),(2,I 0),(3,I last),(4,I (i:Int))]) (fun last i=>[]) 0 0 (wk [] .nil (sl lw (s1 (s1 (s1 .nil))))) ⟨foll hR rfl,by exact omA⟩ ?_;clear hR;rintro last i ⟨hR,hj⟩;(try dsimp only at hR hj);refine ai (fun h1=>?_) (fun h2=>?_)
 ·have hlt:=ltA h1;rw [Q90 Job.zero hlt] at hR;have hxz:(l.getD i Job.zero).sz:=Q72 (by first|assumption|grind) (Job.szz _);have hkz:=hxz;obtain ⟨z3,z4,z5,z6,z7⟩:=Job.zz hxz;refine ai gkA ?_;(first|apply u2|apply u3|apply u4|apply us);exact Qdc (l.getD i Job.zero) szA _;refine ai gkA ?_;refine ai (fun h8=>?_) (fun h9=>?_)
  ·obtain rfl:=foll hR (ct h8 rfl);exact Q00 lx sr
  ·refine ai gkA ?_;exact Q80 ((l.getD i Job.zero).id) (i+1) (wk [] .nil (sl lw (s1 (s1 (sv (Q70 (I_eq (wr omA)) lx) .nil))))) omA ⟨foll hR (cf h9 rfl),by exact omA⟩
 ·rw [Qa0 (l:=l) (j:=i) (geA h2)] at hR;obtain rfl:=foll hR rfl;exact Q00 lx sr
theorem ref15_each:∀ (l:List Job) (last:Int) (i:Nat),Qx2 l last i=0 -> ∀ x ∈ l,((Qp0 x)!=0)=false
 | [],_,_,_,x,hx=>absurd hx List.not_mem_nil
 | y :: r,last,i,h,x,hx=>by
  rw [Qx2] at h
  cases hc:((((i:Int)==40)||((Qp0 y)!=0))||(decide (y.id<=last))) with
  | true=>rw [hc] at h;cases h
  | false =>
   rw [hc] at h
   simp only [Bool.or_eq_false_iff] at hc
   rcases List.mem_cons.1 hx with rfl|hx
   ·exact hc.1.2
   ·exact ref15_each r y.id (i+1) h x hx
theorem ref15_choices {l:List Job} (h:((Qt1 l)!=0)=false):∀ y ∈ l,((y.state != 1)||(y.promise==(-1)))=false->0<=y.choice∧y.choice<((Q40 y.shape).length:Int) :=
 fun y hy=>Qia (QC3 (ref15_each l 0 0 (show Qt1 l=0 by simpa using h) y hy))
def Qw1 (j:Job) (at_:Int) (choice:Int):Job × Int:=bif ((Qp0 j)!=0) then (Job.zero,140) else bif ((j.state != 1)||j.held) then (Job.zero,141) else bif ((!(QL0 at_))||((Qy1 j.shape choice)==0)) then (Job.zero,2) else ({ j with promise:=at_,choice:=choice },0)
theorem QLf (j:Job) (at_:Int) (choice:Int) (hs0:j.sz):GV 88 [Job.a j,I at_,I choice] (AVal.tup [Job.a ((Qw1 j at_ choice).1),I ((Qw1 j at_ choice).2)]):=by
 generalize hR:Qw1 j at_ choice=R;refine ga (.cons (Job.low _ _) (l1 (l1 .nil))) (Low.tup' (.cons (Job.low _ _) (l1 .nil))) (kp 8 [10,18,29]) Tryz.func88 ?_;obtain ⟨z7,z8,z9,z10,z11⟩:=Job.zz hs0;refine us (Qdc j szA _) ?_;refine ai (fun h1=>?_) (fun h2=>?_)
 ·obtain rfl:=foll hR (ct h1 rfl);exact Q00 (Low.tup' (.cons (Job.low _ _) (l1 .nil))) (Seen.tup (ev (Seen.agg (e1 (e1 (e1 (e1 (e1 (ev (Qq0) (e1 (e1 (e1 (e1 (ev (Qq0) (e1 (e1 (e1 (e1 (e1 (e1 (e1 (e1 (e1 .nil))))))))))))))))))))) (e1 .nil)))
 ·refine ai (fun h3=>?_) (fun h4=>?_)
  ·obtain rfl:=foll hR (cf h2 (ct h3 rfl));exact Q00 (Low.tup' (.cons (Job.low _ _) (l1 .nil))) (Seen.tup (ev (Seen.agg (e1 (e1 (e1 (e1 (e1 (ev (Qq0) (e1 (e1 (e1 (e1 (ev (Qq0) (e1 (e1 (e1 (e1 (e1 (e1 (e1 (e1 (e1 .nil))))))))))))))))))))) (e1 .nil)))
  ·refine us (Q44 at_ _) ?_;(first|apply u2|apply u3|apply u4|apply us);exact Qja j.shape choice szA _;refine ai (fun h5=>?_) (fun h6=>?_)
   ·obtain rfl:=foll hR (cf h2 (cf h4 (ct h5 rfl)));exact Q00 (Low.tup' (.cons (Job.low _ _) (l1 .nil))) (Seen.tup (ev (Seen.agg (e1 (e1 (e1 (e1 (e1 (ev (Qq0) (e1 (e1 (e1 (e1 (ev (Qq0) (e1 (e1 (e1 (e1 (e1 (e1 (e1 (e1 (e1 .nil))))))))))))))))))))) (e1 .nil)))
   ·obtain rfl:=foll hR (cf h2 (cf h4 (cf h6 rfl)));exact Q00 (Low.tup' (.cons (Job.low _ _) (l1 .nil))) (Seen.tup (e1 (e1 .nil)))
theorem QP9 {j:Job} (a c:Int) (h:j.sz):(Qw1 j a c).1.sz:=by
 unfold Qw1
 repeat' first|exact Job.szz _|exact h|(rw [Bool.cond_eq_ite];split)
theorem QPa (j:Job) (a c:Int):(((Qw1 j a c).1.state != 1)||((Qw1 j a c).1.promise==(-1)))=false->0<=(Qw1 j a c).1.choice∧(Qw1 j a c).1.choice<((Q40 (Qw1 j a c).1.shape).length:Int):=by
 unfold Qw1
 cases ((Qp0 j)!=0) with
 | true=>intro h;cases h
 | false =>
  simp only [cond_false]
  cases ((j.state != 1)||j.held) with
  | true=>intro h;cases h
  | false =>
   simp only [cond_false]
   cases hc:((!(QL0 a))||((Qy1 j.shape c)==0)) with
   | true=>intro h;cases h
   | false =>
    intro _
    simp only [cond_false]
    have hw:=(Bool.or_eq_false_iff.1 hc).2
    unfold Qy1 at hw
    cases hq:((decide (c<0))||(decide (c >= ((Q40 j.shape).length:Int)))) with
    | true=>rw [hq] at hw;simp at hw
    | false=>simp at hq;omega
end Go.Proofs.YtjpgfmbccohngaaGreatDoor
