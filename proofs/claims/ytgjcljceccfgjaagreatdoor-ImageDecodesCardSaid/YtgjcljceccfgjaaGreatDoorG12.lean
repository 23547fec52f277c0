/-
  Contracts of functions, printed by a program of this repo (wip/dec). No condition beyond those that stand in each.
-/
import Derived.Test.YtgjcljceccfgjaaGreatDoorG11
import Derived.Test.YtgjcljceccfgjaaGreatDoorProg
namespace Go.Proofs.YtgjcljceccfgjaaGreatDoor
set_option linter.unusedSimpArgs false
set_option linter.unusedVariables false
open Go.Fw
set_option maxRecDepth 20000
set_option maxHeartbeats 4000000
attribute [local irreducible] ACalls AMoves
def Qn0 (r_:LexReader):Token × LexReader:=bif ((QB1 (r_.line.getD (Int.toNat r_.at_) 0))==2) then ((QJ2 r_).1,(QJ2 r_).2) else bif ((QB1 (r_.line.getD (Int.toNat r_.at_) 0))==3) then ((Q62 r_).1,(Q62 r_).2) else bif ((r_.line.getD (Int.toNat r_.at_) 0)==34) then ((Qk2 r_).1,(Qk2 r_).2) else bif ((decide ((Qx6 ⟨#[61,58,44,45]⟩ (wu8 (r_.line.getD (Int.toNat r_.at_) 0))) >= 0))&&(decide ((r_.line.getD (Int.toNat r_.at_) 0)<128))) then ((⟨5,(runeStr (r_.line.getD (Int.toNat r_.at_) 0)),0,0⟩:Token),{ r_ with at_:=(w64 (r_.at_+1)) }) else bif ((QB1 (r_.line.getD (Int.toNat r_.at_) 0))==0) then (Token.zero,(Qd1 r_ r_.at_ 40)) else (Token.zero,(Qd1 r_ r_.at_ 50))
theorem Qhe (r_:LexReader) (hs0:r_.sz) (hp0:0<=r_.at_∧r_.at_<(r_.line.length:Int)∧r_.line.length<=400):AMoves Tryz.prog 223 [AVal.ptr 0 0 4 0 0] [(0,AObj.row 259 4 [[runes r_.line,I r_.at_,I r_.bad,I r_.error]])] 1 (Token.a ((Qn0 r_).1)) [(0,AObj.row 259 4 [[runes ((Qn0 r_).2.line),I ((Qn0 r_).2.at_),I ((Qn0 r_).2.bad),I ((Qn0 r_).2.error)]])]:=by
 generalize hR:Qn0 r_=R;refine mo (kp 4 [20,26,32,37,56]) Tryz.func223 ?_;have hk0:=hs0;obtain z11:r_.line.length<=4294967296:=hs0;refine dchk (by kernel_rfl) ?_;refine ai gkA ?_;(repeat ((first|refine ai rfl ?_|refine ai (fun _=>rfl) ?_)));refine us (Qx5 (r_.line.getD (Int.toNat r_.at_) 0) _) ?_;refine ai (fun h1=>?_) (fun h2=>?_)
 ·refine us (mv [0] (Qje r_ szA ckA) (dO (ds LexReader.lo) .nil) (dp .nil) (rO (re LexReader.lo) .nil) (Ren.low _ (Low.agg' (Token.lo)))) ?_;obtain rfl:=foll hR (ct h1 rfl);exact rq (tt [0] (tO rfl (ts LexReader.lo) .nil) (Qo1 (Low.agg' (Token.lo))))
 ·refine us (Qx5 (r_.line.getD (Int.toNat r_.at_) 0) _) ?_;refine ai (fun h3=>?_) (fun h4=>?_)
  ·refine us (mv [0] (Qxd r_ szA ckA) (dO (ds LexReader.lo) .nil) (dp .nil) (rO (re LexReader.lo) .nil) (Ren.low _ (Low.agg' (Token.lo)))) ?_;obtain rfl:=foll hR (cf h2 (ct h3 rfl));exact rq (tt [0] (tO rfl (ts LexReader.lo) .nil) (Qo1 (Low.agg' (Token.lo))))
  ·refine ai (fun h5=>?_) (fun h6=>?_)
   ·refine us (mv [0] (Qie r_ szA ckA) (dO (ds LexReader.lo) .nil) (dp .nil) (rO (re LexReader.lo) .nil) (Ren.low _ (Low.agg' (Token.lo)))) ?_;obtain rfl:=foll hR (cf h2 (cf h4 (ct h5 rfl)));exact rq (tt [0] (tO rfl (ts LexReader.lo) .nil) (Qo1 (Low.agg' (Token.lo))))
   ·refine us (QRc ⟨#[61,58,44,45]⟩ (wu8 (r_.line.getD (Int.toNat r_.at_) 0)) _) ?_;refine ai (fun h7=>?_) (fun h8=>?_)
    ·obtain rfl:=foll hR (cf h2 (cf h4 (cf h6 (ct h7 rfl))));exact rq (tt [0] (tO rfl (ts LexReader.lo) .nil) (Qo1 (Low.agg' (Token.lo))))
    ·refine us (Qx5 (r_.line.getD (Int.toNat r_.at_) 0) _) ?_;refine ai (fun h9=>?_) (fun h10=>?_)
     ·refine us (mv [0] (Q64 r_ r_.at_ 40) (dO (ds LexReader.lo) .nil) (dp (d1 (d1 .nil))) (rO (re LexReader.lo) .nil) rx) ?_;obtain rfl:=foll hR (cf h2 (cf h4 (cf h6 (cf h8 (ct h9 rfl)))));exact rq (tt [0] (tO rfl (ts LexReader.lo) .nil) (Qo1 (Low.agg' (Token.lo))))
     ·refine us (mv [0] (Q64 r_ r_.at_ 50) (dO (ds LexReader.lo) .nil) (dp (d1 (d1 .nil))) (rO (re LexReader.lo) .nil) rx) ?_;obtain rfl:=foll hR (cf h2 (cf h4 (cf h6 (cf h8 (cf h10 rfl)))));exact rq (tt [0] (tO rfl (ts LexReader.lo) .nil) (Qo1 (Low.agg' (Token.lo))))
def Adv (a b:LexReader):Prop:=b.line=a.line∧a.at_<=b.at_∧b.at_<=(a.line.length:Int)∧b.error=a.error∧b.bad=a.bad
theorem Qua (is:Int->Bool):∀ (m:Nat) (c:LexReader),0<=c.at_->c.at_<=(c.line.length:Int)->c.line.length<=400->(Int.toNat ((c.line.length:Int) - c.at_))<m->Adv c (QO0 is m c)
 | 0,c,_,_,_,h=>absurd h (by omega)
 | m+1,c,h0,h1,h2,h=>by
  rw [QO0]
  cases hc:((decide (c.at_<(c.line.length:Int)))&&(is (c.line.getD (Int.toNat c.at_) 0))) with
  | false=>exact ⟨rfl,Int.le_refl _,h1,rfl,rfl⟩
  | true =>
   have hlt:=of_decide_eq_true ((Bool.and_eq_true _ _).mp hc).1
   have hw:w64 (c.at_+1)=c.at_+1:=wr (by omega)
   rw [hw]
   obtain ⟨a,b,d,e,f⟩:=Qua is m { c with at_:=c.at_+1 } (by dsimp only;omega) (by dsimp only;omega) h2 (by dsimp only;omega)
   dsimp only at a b d e f
   exact ⟨a,by simp only [cond_true];omega,d,e,f⟩
theorem QC6 (r:LexReader) (is:Int->Bool) (h0:0<=r.at_) (h1:r.at_<=(r.line.length:Int)) (h2:r.line.length<=400):Adv r (Q90 r is).2 :=
 Qua is _ r h0 h1 h2 (Nat.lt_succ_self _)
theorem Q89 (r:LexReader) (is:Int->Bool) (h0:0<=r.at_) (h1:r.at_<(r.line.length:Int)) (h2:r.line.length<=400) (h:is (r.line.getD (Int.toNat r.at_) 0)=true):r.at_<(Q90 r is).2.at_:=by
 have hw:w64 (r.at_+1)=r.at_+1:=wr (by omega)
 have e:(Q90 r is).2=QO0 is (Int.toNat ((r.line.length:Int) - r.at_)) { r with at_:=r.at_+1 }:=by
  show QO0 is ((Int.toNat ((r.line.length:Int) - r.at_))+1) r=_
  rw [QO0,show ((decide (r.at_<(r.line.length:Int)))&&(is (r.line.getD (Int.toNat r.at_) 0)))=true by rw [h,Bool.and_true];exact decide_eq_true h1,hw]
  rfl
 rw [e]
 have:=(Qua is (Int.toNat ((r.line.length:Int) - r.at_)) { r with at_:=r.at_+1 } (by dsimp only;omega) (by dsimp only;omega) h2 (by dsimp only;omega)).2.1
 dsimp only at this
 omega
theorem Q8b (r:LexReader) (p e:Int) (he:e ≠ 0):(Qd1 r p e).line=r.line∧(Qd1 r p e).at_=r.at_∧(Qd1 r p e).error ≠ 0:=by
 unfold Qd1
 cases h:(r.error==0) with
 | true=>exact ⟨rfl,rfl,he⟩
 | false=>exact ⟨rfl,rfl,by simpa using h⟩
def Nxt (a b:LexReader):Prop:=b.line=a.line∧a.at_<=b.at_∧b.at_<=(a.line.length:Int)∧(b.error ≠ 0∨a.at_<b.at_)
theorem lex_word_nxt (r:LexReader) (h0:0<=r.at_) (h1:r.at_<(r.line.length:Int)) (h2:r.line.length<=400) (hc:((QB1 (r.line.getD (Int.toNat r.at_) 0))==2)=true):Nxt r (QJ2 r).2:=by
 obtain ⟨a,b,c,_,_⟩:=QC6 r (fun (y:Int)=>Qu0 y ([2,3]:List Int) 0) h0 (by omega) h2
 exact ⟨a,b,c,Or.inr (Q89 r _ h0 h1 h2 (by simp only [Qu0,hc];rfl))⟩
theorem class_digit (x:Int) (h:(QB1 x==3)=true):48<=x∧x<=57:=by
 unfold QB1 at h
 revert h
 cases ((x==9)||(x==32)) with
 | true=>simp
 | false =>
  simp only [cond_false]
  cases (((((decide (x<32))||((decide (x >= 127))&&(decide (x<=160))))||((decide (x >= 55296))&&(decide (x<=57343))))||(x==65533))||(decide (x > 1114111))) with
  | true=>simp
  | false =>
   simp only [cond_false]
   cases hd:((decide (x >= 48))&&(decide (x<=57))) with
   | true=>intro _;simp at hd;omega
   | false =>
    simp only [cond_false]
    cases ((((decide (x >= 97))&&(decide (x<=122)))||((decide (x >= 65))&&(decide (x<=90))))||(decide (x > 160))) <;> simp
theorem lex_count_nxt (r:LexReader) (h0:0<=r.at_) (h1:r.at_<(r.line.length:Int)) (h2:r.line.length<=400) (hc:((QB1 (r.line.getD (Int.toNat r.at_) 0))==3)=true):Nxt r (Q62 r).2:=by
 obtain ⟨a,b,c,_,_⟩:=QC6 r (fun (y:Int)=>(((decide (y >= 48))&&(decide (y<=57)))||((decide (y >= 97))&&(decide (y<=122))))) h0 (by omega) h2
 have hd:=class_digit _ hc
 have l:=Q89 r (fun (y:Int)=>(((decide (y >= 48))&&(decide (y<=57)))||((decide (y >= 97))&&(decide (y<=122))))) h0 h1 h2 (by simp only [decide_eq_true hd.1,decide_eq_true hd.2];rfl)
 unfold Q62
 cases (!(QP8 ((Q90 r (fun (y:Int)=>(((decide (y >= 48))&&(decide (y<=57)))||((decide (y >= 97))&&(decide (y<=122)))))).1))) with
 | true=>exact ⟨a,b,c,Or.inr l⟩
 | false =>
  simp only [cond_false]
  cases (!(QU7 ((Q90 r (fun (y:Int)=>(((decide (y >= 48))&&(decide (y<=57)))||((decide (y >= 97))&&(decide (y<=122)))))).1)).2) with
  | false=>exact ⟨a,b,c,Or.inr l⟩
  | true =>
   obtain ⟨f1,f2,f3⟩:=Q8b (Q90 r (fun (y:Int)=>(((decide (y >= 48))&&(decide (y<=57)))||((decide (y >= 97))&&(decide (y<=122)))))).2 r.at_ 50 (by decide)
   exact ⟨f1.trans a,by simp only [cond_true];rw [f2];exact b,by simp only [cond_true];rw [f2];exact c,Or.inl f3⟩
theorem QFe:∀ (m:Nat) (c:LexReader) (b:Bool),0<=c.at_->c.at_<=(c.line.length:Int)->c.line.length<=400->(Int.toNat ((c.line.length:Int) - c.at_))<m->Adv c (Qx2 m c b).1
 | 0,c,_,_,_,_,h=>absurd h (by omega)
 | m+1,c,b,h0,h1,h2,h=>by
  rw [Qx2]
  cases hc:((decide (c.at_<(c.line.length:Int)))&&(QM1 (c.line.getD (Int.toNat c.at_) 0) b).1) with
  | false=>exact ⟨rfl,Int.le_refl _,h1,rfl,rfl⟩
  | true =>
   have hlt:=of_decide_eq_true ((Bool.and_eq_true _ _).mp hc).1
   have hw:w64 (c.at_+1)=c.at_+1:=wr (by omega)
   rw [hw]
   obtain ⟨a,b,d,e,f⟩:=QFe m { c with at_:=c.at_+1 } _ (by dsimp only;omega) (by dsimp only;omega) h2 (by dsimp only;omega)
   dsimp only at a b d e f
   exact ⟨a,by simp only [cond_true];omega,d,e,f⟩
theorem lex_text_nxt (r:LexReader) (h0:0<=r.at_) (h1:r.at_<(r.line.length:Int)) (h2:r.line.length<=400):Nxt r (Qk2 r).2:=by
 obtain ⟨a,b,c,_,_⟩:=QFe _ r true h0 (by omega) h2 (Nat.lt_succ_self _)
 unfold Qk2
 generalize (Qx2 ((Int.toNat ((r.line.length:Int) - r.at_))+1) r true).1=q at a b c
 unfold Q93
 have ff:∀ (x:LexReader) (p e:Int),e ≠ 0->x.line=r.line->r.at_<=x.at_->x.at_<=(r.line.length:Int)->Nxt r (Qd1 x p e):=by
  intro x p e he hx hp hq
  obtain ⟨f1,f2,f3⟩:=Q8b x p e he
  exact ⟨f1.trans hx,by rw [f2];exact hp,by rw [f2];exact hq,Or.inl f3⟩
 cases h3:(q.at_==(q.line.length:Int)) with
 | true=>exact ff q _ _ (by decide) a b c
 | false =>
  simp only [cond_false]
  have h3':q.at_ ≠ (r.line.length:Int):=by rw [a] at h3;simpa using h3
  have hw:w64 (q.at_+1)=q.at_+1:=wr (by omega)
  cases ((q.line.getD (Int.toNat q.at_) 0)!=34) with
  | true=>exact ff q _ _ (by decide) a b c
  | false =>
   simp only [cond_false]
   rw [hw]
   cases h4:((QQ3 (runesBytes (List.drop (Int.toNat r.at_) (List.take (Int.toNat (q.at_+1)) q.line)))).2 != 0) with
   | true=>exact ff { q with at_:=q.at_+1 } _ _ (by simpa using h4) a (by show r.at_<=q.at_+1;omega) (by show q.at_+1<=_;omega)
   | false=>exact ⟨a,by show r.at_<=q.at_+1;omega,by show q.at_+1<=_;omega,Or.inr (by show r.at_<q.at_+1;omega)⟩
theorem lex_next_nxt (r:LexReader) (h0:0<=r.at_) (h1:r.at_<(r.line.length:Int)) (h2:r.line.length<=400):Nxt r (Qn0 r).2:=by
 have hw:w64 (r.at_+1)=r.at_+1:=wr (by omega)
 have ff:∀ (e:Int),e ≠ 0->Nxt r (Qd1 r r.at_ e):=by
  intro e he
  obtain ⟨f1,f2,f3⟩:=Q8b r r.at_ e he
  exact ⟨f1,by rw [f2];exact Int.le_refl _,by rw [f2];omega,Or.inl f3⟩
 unfold Qn0
 cases hc:((QB1 (r.line.getD (Int.toNat r.at_) 0))==2) with
 | true=>exact lex_word_nxt r h0 h1 h2 hc
 | false =>
  simp only [cond_false]
  cases hd:((QB1 (r.line.getD (Int.toNat r.at_) 0))==3) with
  | true=>exact lex_count_nxt r h0 h1 h2 hd
  | false =>
   simp only [cond_false]
   cases ((r.line.getD (Int.toNat r.at_) 0)==34) with
   | true=>exact lex_text_nxt r h0 h1 h2
   | false =>
    simp only [cond_false]
    cases ((decide ((Qx6 ⟨#[61,58,44,45]⟩ (wu8 (r.line.getD (Int.toNat r.at_) 0))) >= 0))&&(decide ((r.line.getD (Int.toNat r.at_) 0)<128))) with
    | true=>rw [hw];exact ⟨rfl,by show r.at_<=r.at_+1;omega,by show r.at_+1<=_;omega,Or.inr (by show r.at_<r.at_+1;omega)⟩
    | false =>
     simp only [cond_false]
     cases ((QB1 (r.line.getD (Int.toNat r.at_) 0))==0) with
     | true=>exact ff 40 (by decide)
     | false=>exact ff 50 (by decide)
theorem lex_round (r c:LexReader) (b:Int->Bool) (h0:0<=r.at_) (h1:r.at_<=(r.line.length:Int)) (h2:r.line.length<=400) (he:(r.error==0)=true) (e:c=(Q90 r b).2) (hn:(c.at_==(c.line.length:Int))=false) :
  (0<=c.at_∧c.at_<(c.line.length:Int)∧c.line.length<=400)∧(0<=(Qn0 c).2.at_∧(Qn0 c).2.at_<=((Qn0 c).2.line.length:Int)∧(Qn0 c).2.line.length<=400) ∧
  2*Int.toNat (((Qn0 c).2.line.length:Int) - (Qn0 c).2.at_)+(bif (Qn0 c).2.error==0 then 1 else 0)<2*Int.toNat ((r.line.length:Int) - r.at_)+(bif r.error==0 then 1 else 0) ∧
  (((Qn0 c).2.error==0)=true->r.at_+1<=(Qn0 c).2.at_):=by
 obtain ⟨a1,a2,a3,a4,a5⟩:=QC6 r b h0 h1 h2
 rw [← e] at a1 a2 a3 a4 a5
 have hn':c.at_ ≠ (r.line.length:Int):=by rw [a1] at hn;simpa using hn
 have hc:0<=c.at_∧c.at_<(c.line.length:Int)∧c.line.length<=400:=by rw [a1];omega
 obtain ⟨n1,n2,n3,n4⟩:=lex_next_nxt c hc.1 hc.2.1 hc.2.2
 rw [he]
 rw [a1] at n1 n3
 refine ⟨hc,by rw [n1];omega,?_⟩
 rw [n1]
 rcases n4 with n4|n4
 ·have:((Qn0 c).2.error==0)=false:=by simpa using n4
  rw [this]
  simp only [cond_true,cond_false]
  exact ⟨by omega,fun h=>nomatch h⟩
 ·refine ⟨?_,fun _=>by omega⟩
  cases ((Qn0 c).2.error==0) <;> simp only [cond_true,cond_false] <;> omega
def Qc1 (v:Job) (choice:Int):Alt × Bool:=bif ((decide (choice<0))||(decide (choice >= ((Q21 v.shape).length:Int)))) then (Alt.zero,false) else (((Q21 v.shape).getD (Int.toNat choice) Alt.zero),true)
theorem Q1a (v:Job) (choice:Int) (hs0:v.sz):∀ objs,AGives Tryz.prog 169 [Job.a v,I choice] objs (AVal.tup [Alt.a ((Qc1 v choice).1),Bo ((Qc1 v choice).2)]):=by
 generalize hR:Qc1 v choice=R;refine ga (.cons (Job.low _ _) (l1 .nil)) (Low.tup' (.cons (Alt.low _ _) (l1 .nil))) (kp 7 [18]) Tryz.func169 ?_;have hk0:=hs0;obtain ⟨z3,z4,z5,z6,z7⟩:v.name.size<=4294967296∧v.user.size<=4294967296∧v.account.size<=4294967296∧(v.shape.alts.length<=4294967296)∧v.after.length<=4294967296:=hs0;refine us (Qtb v.shape szA _) ?_;refine ai (fun h1=>?_) (fun h2=>?_)
 ·obtain rfl:=foll hR (ct h1 rfl);exact Q30 (Low.tup' (.cons (Alt.low _ _) (l1 .nil))) (Seen.tup (e1 (e1 .nil)))
 ·refine ai gkA ?_;obtain rfl:=foll hR (cf h2 rfl);exact Q30 (Low.tup' (.cons (Alt.low _ _) (l1 .nil))) (Seen.tup (e1 (e1 .nil)))
def Qw8 (s:Shape) (choice:Int) (n:Int):Bool:=bif ((decide (choice<0))||(decide (choice >= ((Q21 s).length:Int)))) then false else bif (s.kind==3) then ((decide (n >= s.min))&&(decide (n<=s.max))) else (((Q21 s).getD (Int.toNat choice) Alt.zero).nodes==n)
theorem Qkc (s:Shape) (choice:Int) (n:Int) (hs0:s.sz):∀ objs,AGives Tryz.prog 171 [Shape.a s,I choice,I n] objs (Bo (Qw8 s choice n)):=by
 generalize hR:Qw8 s choice n=R;refine ga (.cons (Shape.low _ _) (l1 (l1 .nil))) lx (kp 8 [17,20]) Tryz.func171 ?_;have hk0:=hs0;obtain z5:s.alts.length<=4294967296:=hs0;refine us (Qtb s szA _) ?_;refine ai (fun h1=>?_) (fun h2=>?_)
 ·obtain rfl:=foll hR (ct h1 rfl);exact Q30 lx sr
 ·refine ai (fun h3=>?_) (fun h4=>?_)
  ·obtain rfl:=foll hR (cf h2 (ct h3 rfl));exact Q30 lx sr
  ·refine ai gkA ?_;obtain rfl:=foll hR (cf h2 (cf h4 rfl));exact Q30 lx sr
def Q88 (l:List Node) (job:Int) (state:Int):Int:=(Qd4 l (fun (y:Node)=>((y.job==job)&&(y.state==state))))
theorem Qce (l:List Node) (job:Int) (state:Int) (hs0:l.length<=4294967296):∀ objs,AGives Tryz.prog 90 [nodeL l,I job,I state] objs (U (Q88 l job state)):=by
 generalize hR:Q88 l job state=R;refine ga (.cons lw (l1 (l1 .nil))) lx (kp 7 []) Tryz.func90 ?_;have hk0:=hs0;obtain z7:l.length<=4294967296:=hs0;have cl1:∀ (y1:Node),AMoves Tryz.prog 125 [Node.a y1,AVal.ptr 0 0 1 0 0,AVal.ptr 1 0 1 0 0] [(0,AObj.row 3 1 [[I job]]),(0,AObj.row 3 1 [[I state]])] 2 (Bo ((fun (y:Node)=>((y.job==job)&&(y.state==state))) y1)) [(0,AObj.row 3 1 [[I job]]),(0,AObj.row 3 1 [[I state]])]:=by
  intro y1;have hR:(fun (y:Node)=>((y.job==job)&&(y.state==state))) y1=(fun (y:Node)=>((y.job==job)&&(y.state==state))) y1:=rfl;refine mo (kp 5 []) Tryz.func125 ?_;refine Q41 (fun r:Bool=>Bo r) (fun _=>[(0,AObj.row 3 1 [[I job]]),(0,AObj.row 3 1 [[I state]])]) (leaf:=((y1.job==job)&&(y1.state==state))) (foll hR rfl) ?_;exact tt [0,1] (tO rfl (ts (l1 LowL.nil)) (tO rfl (ts (l1 LowL.nil)) .nil)) t1
 have hof1:AMoves Tryz.prog 124 [nodeL l,AVal.fn (.func 125) [] [AVal.ptr 0 0 1 0 0,AVal.ptr 1 0 1 0 0]] [(0,AObj.row 3 1 [[I job]]),(0,AObj.row 3 1 [[I state]])] 2 (U (Qd4 l (fun (y:Node)=>((y.job==job)&&(y.state==state))))) [(0,AObj.row 3 1 [[I job]]),(0,AObj.row 3 1 [[I state]])]:=by
  have hR:Qd4 l (fun (y:Node)=>((y.job==job)&&(y.state==state)))=Qd4 l (fun (y:Node)=>((y.job==job)&&(y.state==state))):=rfl;refine mo (kp 10 [12,13,14,15,16,22]) Tryz.func124 ?_;refine us (Qpa l szA _) ?_;refine ai (fun h1=>?_) (fun h2=>?_)
  ·refine Q41 (fun r:Int=>U r) (fun r:Int=>[(0,AObj.row 3 1 [[I job]]),(0,AObj.row 3 1 [[I state]])]) (leaf:=0) (foll hR (ct h1 rfl)) ?_;exact tt [0,1] (tO rfl (ts (l1 LowL.nil)) (tO rfl (ts (l1 LowL.nil)) .nil)) t1
  ·refine Qq0 (fun (out:List Int) (i:Nat)=>QW3 (QF5 (fun (y:Node)=>((y.job==job)&&(y.state==state))) (List.drop i l) out i)=Qd4 l (fun (y:Node)=>((y.job==job)&&(y.state==state)))∧i<=l.length∧out.length<=i) (fun out i=>l.length - i) (fun out i=>[(1,AVal.fn (.func 125) [] [AVal.ptr 0 0 1 0 0,AVal.ptr 1 0 1 0 0]),(4,U 0),(5,AVal.own 2 0 1 0 out.length),(13,nodeL l),(14,I (l.length:Int)),(15,I (i:Int))]) (fun out i=>[(0,AObj.row 3 1 [[I job]]),(0,AObj.row 3 1 [[I state]]),(0,AObj.row 3 1 (out.map (fun q_=>[I q_])))]) [] 0 ((Qf1 3 1).trans (wk [0,1,2] (tO rfl (ts (l1 LowL.nil)) (tO rfl (ts (l1 LowL.nil)) (tO rfl (tl eqA) .nil))) (sv (Q51 .nil (cv (Q50 0 rfl rfl) (cv (Q50 1 rfl rfl) .nil))) (s1 (sv (Q91 2 rfl) (sl lw (s1 (s1 .nil)))))))) ⟨foll hR (cf h2 rfl),by exact omA,by exact exA⟩ ?_;clear hR;rintro out i ⟨hR,hj,hx⟩;(try dsimp only at hR hj hx);refine ai (fun h3=>?_) (fun h4=>?_)
   ·have hlt:=ltA h3;rw [Qo0 Node.zero hlt] at hR;refine ai gkA ?_;refine us (mv [0,1] (cl1 (l.getD i Node.zero)) (dO (ds (l1 LowL.nil)) (dO (ds (l1 LowL.nil)) .nil)) (dl (Node.low _ _) (dp (dp .nil))) (rO (re (l1 LowL.nil)) (rO (re (l1 LowL.nil)) .nil)) rx) ?_;refine ai (fun h5=>?_) (fun h6=>?_)
    ·refine Or.inl ?_;(first|refine ⟨Qg3 8 rfl lnA apA,?_⟩|refine ⟨Q52 8 rfl apA,?_⟩);exact Qm0 (out++([(i:Int)]:List Int)) (i+1) (wk [0,1,2] (tO rfl (ts (l1 LowL.nil)) (tO rfl (ts (l1 LowL.nil)) (tO rfl (tl eqA) .nil))) (sv (Q51 .nil (cv (Q50 0 rfl rfl) (cv (Q50 1 rfl rfl) .nil))) (s1 (sv (to 2 lnA) (sl lw (s1 (sv (Qt0 (I_eq (wr omA)) lx) .nil))))))) omA ⟨foll hR (congrArg (fun p:(List Int)=>QW3 p) (ct h5 rfl)),by exact omA,by exact exA⟩
    ·exact Qm0 out (i+1) (wk [0,1,2] (tO rfl (ts (l1 LowL.nil)) (tO rfl (ts (l1 LowL.nil)) (tO rfl (tl eqA) .nil))) (sv (Q51 .nil (cv (Q50 0 rfl rfl) (cv (Q50 1 rfl rfl) .nil))) (s1 (sv (to 2 lnA) (sl lw (s1 (sv (Qt0 (I_eq (wr omA)) lx) .nil))))))) omA ⟨foll hR (congrArg (fun p:(List Int)=>QW3 p) (cf h6 rfl)),by exact omA,by exact exA⟩
   ·rw [Qp0 (l:=l) (j:=i) (geA h4)] at hR;replace hR:QW3 out=Qd4 l (fun (y:Node)=>((y.job==job)&&(y.state==state))):=fo2 (fun p:(List Int)=>QW3 p) (out) hR rfl;refine us (AGives.lent (QHe out szA []) (ev (QG1 _ _ rfl eqA lnA) .nil) (.cons lw .nil) (Qia rfl)) ?_;refine Q41 (fun r:Int=>U r) (fun r:Int=>[(0,AObj.row 3 1 [[I job]]),(0,AObj.row 3 1 [[I state]])]) (leaf:=(Q85 out).1) (foll hR rfl) ?_;exact tt [0,1] (tO rfl (ts (l1 LowL.nil)) (tO rfl (ts (l1 LowL.nil)) .nil)) t1
 refine us (mv [0,1] (hof1) (dO (ds (l1 LowL.nil)) (dO (ds (l1 LowL.nil)) .nil)) (dl lw (dv (dn_fn .nil (dp (dp .nil))) .nil)) (rO (re (l1 LowL.nil)) (rO (re (l1 LowL.nil)) .nil)) rx) ?_;obtain rfl:=foll hR rfl;exact Q30 lx sr
def Q24 (l:List Int) (at_:Int) (i:Bool):Token × Int × Int × Int:=bif i then ((⟨5,(runesBytes (List.drop (Int.toNat at_) (List.take (Int.toNat (w64 (at_+1))) l))),0,at_⟩:Token),(w64 (at_+1)),0,0) else (Token.zero,0,at_,50)
def QA1 (l:List Int) (at_:Int):Token × Int × Int × Int:=bif ((Qs0 (l.getD (Int.toNat at_) 0))==0) then (Token.zero,0,at_,40) else bif ((Qs0 (l.getD (Int.toNat at_) 0))==2) then ((⟨1,(Qs3 (runesBytes (List.drop (Int.toNat at_) (List.take (Int.toNat (QY1 l at_)) l)))),0,at_⟩:Token),(QY1 l at_),0,0) else bif ((Qs0 (l.getD (Int.toNat at_) 0))==3) then bif (QOc (List.drop (Int.toNat at_) (List.take (Int.toNat (QY1 l at_)) l))) then ((⟨3,(runesBytes (List.drop (Int.toNat at_) (List.take (Int.toNat (QY1 l at_)) l))),0,at_⟩:Token),(QY1 l at_),0,0) else bif (decide ((Qx9 (List.drop (Int.toNat at_) (List.take (Int.toNat (QY1 l at_)) l)))<0)) then (Token.zero,0,at_,50) else ((⟨2,⟨#[]⟩,(Qx9 (List.drop (Int.toNat at_) (List.take (Int.toNat (QY1 l at_)) l))),at_⟩:Token),(QY1 l at_),0,0) else bif ((l.getD (Int.toNat at_) 0)==34) then ((Q74 l at_).1,(Q74 l at_).2.1,(Q74 l at_).2.2.1,(Q74 l at_).2.2.2) else bif ((l.getD (Int.toNat at_) 0)==61) then Q24 l at_ ((l.getD (Int.toNat at_) 0)==61) else bif ((l.getD (Int.toNat at_) 0)==58) then Q24 l at_ ((l.getD (Int.toNat at_) 0)==58) else bif ((l.getD (Int.toNat at_) 0)==44) then Q24 l at_ ((l.getD (Int.toNat at_) 0)==44) else Q24 l at_ ((l.getD (Int.toNat at_) 0)==45)
theorem ref05_one_c (l:List Int) (at_:Int) (hs0:l.length<=4294967296) (hp0:0<=at_∧at_<(l.length:Int)∧l.length<=400):∀ objs,AGives Tryz.prog 218 [runes l,I at_] objs (AVal.tup [Token.a ((QA1 l at_).1),I ((QA1 l at_).2.1),I ((QA1 l at_).2.2.1),I ((QA1 l at_).2.2.2)]):=by
 generalize hR:QA1 l at_=R;refine ga (.cons lw (l1 .nil)) (Low.tup' (.cons (Token.low _ _) (l1 (l1 (l1 .nil))))) (kj [1000028] 11 [17,18,22,37,46,65,73,74,83]) Tryz.func218 ?_;have hk0:=hs0;obtain z21:l.length<=4294967296:=hs0;have hw0:w64 (at_+1)=at_+1:=wr (by omega);have hf0:=QNe l at_ hp0.1 hp0.2.1 hp0.2.2;refine ai gkA ?_;refine us (Qu5 (l.getD (Int.toNat at_) 0) _) ?_;refine ai (fun h1=>?_) (fun h2=>?_)
 ·obtain rfl:=foll hR (ct h1 rfl);exact Q30 (Low.tup' (.cons (Token.low _ _) (l1 (l1 (l1 .nil))))) (Seen.tup (e1 (e1 (e1 (e1 .nil)))))
 ·refine ai (fun h3=>?_) (fun h4=>?_)
  ·refine us (Qfg l at_ szA ckA _) ?_;refine ai gkA ?_;(first|refine ⟨(List.drop (Int.toNat at_) (List.take (Int.toNat (QY1 l at_)) l)),by exact cvA,?_⟩|refine ⟨_,fun _=>⟨(List.drop (Int.toNat at_) (List.take (Int.toNat (QY1 l at_)) l)),by exact cvA,rfl,rfl⟩,?_⟩|refine ⟨_,rfl,⟨(List.drop (Int.toNat at_) (List.take (Int.toNat (QY1 l at_)) l)),by exact cvA,Sub.refl _,rfl⟩,?_⟩);refine us (ref04_Lower_c (runesBytes (List.drop (Int.toNat at_) (List.take (Int.toNat (QY1 l at_)) l))) szA _) ?_;obtain rfl:=foll hR (cf h2 (ct h3 rfl));exact Q30 (Low.tup' (.cons (Token.low _ _) (l1 (l1 (l1 .nil))))) (Seen.tup (e1 (e1 (e1 (e1 .nil)))))
  ·refine ai (fun h5=>?_) (fun h6=>?_)
   ·refine us (Qfg l at_ szA ckA _) ?_;refine ai gkA ?_;refine us (AGives.as2 (ref05_plain_c (List.drop (Int.toNat at_) (List.take (Int.toNat (QY1 l at_)) l)) szA _) (av (as_cut l (Int.toNat at_) (Int.toNat (QY1 l at_)) leA ckA) .nil)) ?_;refine ai (fun h7=>?_) (fun h8=>?_)
    ·refine ai gkA ?_;(first|refine ⟨(List.drop (Int.toNat at_) (List.take (Int.toNat (QY1 l at_)) l)),by exact cvA,?_⟩|refine ⟨_,fun _=>⟨(List.drop (Int.toNat at_) (List.take (Int.toNat (QY1 l at_)) l)),by exact cvA,rfl,rfl⟩,?_⟩|refine ⟨_,rfl,⟨(List.drop (Int.toNat at_) (List.take (Int.toNat (QY1 l at_)) l)),by exact cvA,Sub.refl _,rfl⟩,?_⟩);obtain rfl:=foll hR (cf h2 (cf h4 (ct h5 (ct h7 rfl))));exact Q30 (Low.tup' (.cons (Token.low _ _) (l1 (l1 (l1 .nil))))) (Seen.tup (e1 (e1 (e1 (e1 .nil)))))
    ·refine ai gkA ?_;refine us (AGives.as2 (ref05_Number_c (List.drop (Int.toNat at_) (List.take (Int.toNat (QY1 l at_)) l)) szA _) (av (as_cut l (Int.toNat at_) (Int.toNat (QY1 l at_)) leA ckA) .nil)) ?_;refine ai (fun h9=>?_) (fun h10=>?_)
     ·have qh9:=of_decide_eq_true h9;obtain rfl:=foll hR (cf h2 (cf h4 (ct h5 (cf h8 (ct h9 rfl)))));exact Q30 (Low.tup' (.cons (Token.low _ _) (l1 (l1 (l1 .nil))))) (Seen.tup (e1 (e1 (e1 (e1 .nil)))))
     ·have qh10:=of_decide_eq_false h10;obtain rfl:=foll hR (cf h2 (cf h4 (ct h5 (cf h8 (cf h10 rfl)))));exact Q30 (Low.tup' (.cons (Token.low _ _) (l1 (l1 (l1 .nil))))) (Seen.tup (e1 (e1 (e1 (e1 .nil)))))
   ·refine ai gkA ?_;refine ai (fun h11=>?_) (fun h12=>?_)
    ·refine us (ref05_text_c l at_ szA ckA _) ?_;obtain rfl:=foll hR (cf h2 (cf h4 (cf h6 (ct h11 rfl))));exact Q30 (Low.tup' (.cons (Token.low _ _) (l1 (l1 (l1 .nil))))) (Seen.tup (e1 (e1 (e1 (e1 .nil)))))
    ·refine Q63 (fun (i:Bool)=>Q24 l at_ i=R) (fun i=>[(0,runes l),(1,I at_),(4,AVal.ptr 0 0 4 0 0),(5,I 0),(6,I 0),(7,I 0),(8,AVal.ptr 1 0 4 0 0),(83,Bo i)]) (fun i=>[(0,AObj.row 233 4 [[I 0,Sg ⟨#[]⟩,I 0,I 0]]),(0,AObj.row 233 4 [[I 0,Sg ⟨#[]⟩,I 0,I at_]])]) ?_ ?_
     ·clear hR;rintro i hR;(try dsimp only at hR);refine ai (fun h13=>?_) (fun h14=>?_)
      ·refine ai gkA ?_;(first|refine ⟨(List.drop (Int.toNat at_) (List.take (Int.toNat (w64 (at_+1))) l)),by exact cvA,?_⟩|refine ⟨_,fun _=>⟨(List.drop (Int.toNat at_) (List.take (Int.toNat (w64 (at_+1))) l)),by exact cvA,rfl,rfl⟩,?_⟩|refine ⟨_,rfl,⟨(List.drop (Int.toNat at_) (List.take (Int.toNat (w64 (at_+1))) l)),by exact cvA,Sub.refl _,rfl⟩,?_⟩);obtain rfl:=foll hR (ct h13 rfl);exact Q30 (Low.tup' (.cons (Token.low _ _) (l1 (l1 (l1 .nil))))) (Seen.tup (e1 (e1 (e1 (e1 .nil)))))
      ·obtain rfl:=foll hR (cf h14 rfl);exact Q30 (Low.tup' (.cons (Token.low _ _) (l1 (l1 (l1 .nil))))) (Seen.tup (e1 (e1 (e1 (e1 .nil)))))
     ·refine ai (fun h15=>?_) (fun h16=>?_)
      ·exact Qz0 ((l.getD (Int.toNat at_) 0)==61) (wk [0,1] (tO rfl (ts Token.lo) (tO rfl (ts Token.lo) .nil)) (sl lw (s1 (sv (Q50 0 rfl rfl) (s1 (s1 (s1 (sv (Q50 1 rfl rfl) (s1 .nil))))))))) (foll hR (cf h2 (cf h4 (cf h6 (cf h12 (ct h15 rfl))))))
      ·refine ai (fun h17=>?_) (fun h18=>?_)
       ·exact Qz0 ((l.getD (Int.toNat at_) 0)==58) (wk [0,1] (tO rfl (ts Token.lo) (tO rfl (ts Token.lo) .nil)) (sl lw (s1 (sv (Q50 0 rfl rfl) (s1 (s1 (s1 (sv (Q50 1 rfl rfl) (s1 .nil))))))))) (foll hR (cf h2 (cf h4 (cf h6 (cf h12 (cf h16 (ct h17 rfl)))))))
       ·refine ai (fun h19=>?_) (fun h20=>?_)
        ·exact Qz0 ((l.getD (Int.toNat at_) 0)==44) (wk [0,1] (tO rfl (ts Token.lo) (tO rfl (ts Token.lo) .nil)) (sl lw (s1 (sv (Q50 0 rfl rfl) (s1 (s1 (s1 (sv (Q50 1 rfl rfl) (s1 .nil))))))))) (foll hR (cf h2 (cf h4 (cf h6 (cf h12 (cf h16 (cf h18 (ct h19 rfl))))))))
        ·exact Qz0 ((l.getD (Int.toNat at_) 0)==45) (wk [0,1] (tO rfl (ts Token.lo) (tO rfl (ts Token.lo) .nil)) (sl lw (s1 (sv (Q50 0 rfl rfl) (s1 (s1 (s1 (sv (Q50 1 rfl rfl) (s1 .nil))))))))) (foll hR (cf h2 (cf h4 (cf h6 (cf h12 (cf h16 (cf h18 (cf h20 rfl))))))))
theorem Qhg (l:List Int) (at_:Int) (b:Bool) (h0:0<=at_) (h1:at_<(l.length:Int)) (h:l.length<=400):((Q24 l at_ b).2.2.2 != 0)=false->at_<(Q24 l at_ b).2.1∧(Q24 l at_ b).2.1<=(l.length:Int):=by
 have hw:w64 (at_+1)=at_+1:=wr (by omega)
 cases b with
 | false=>intro h;cases h
 | true=>intro _;simp only [Q24,cond_true];rw [hw];omega
theorem ref05_one_lt (l:List Int) (at_:Int) (h0:0<=at_) (h1:at_<(l.length:Int)) (h:l.length<=400):((QA1 l at_).2.2.2 != 0)=false->at_<(QA1 l at_).2.1∧(QA1 l at_).2.1<=(l.length:Int):=by
 have he:=QNe l at_ h0 h1 h
 have hk:=fun b=>Qhg l at_ b h0 h1 h
 have ht:=ref05_text_lt l at_ h0 h1 h
 unfold QA1
 repeat' first
  | exact hk _
  | exact ht
  | exact fun _=>he
  | (intro h;cases h;done)
  | (rw [Bool.cond_eq_ite];split)
end Go.Proofs.YtgjcljceccfgjaaGreatDoor
namespace Go.Proofs.YtgjcljceccfgjaaGreatDoor
set_option linter.unusedSimpArgs false
set_option linter.unusedVariables false
open Go.Fw
set_option maxRecDepth 20000
set_option maxHeartbeats 4000000
attribute [local irreducible] ACalls AMoves
def Qy0 (y:Int):List Int->Nat->Bool
 | [],_=>false
 | x_1 :: r,i=>bif ((QB1 y)==x_1) then true else Qy0 y r (i+1)
def Qt6 (line:ByteArray):List (Nat × Int)->LexReader->LexReader
 | [],c=>c
 | x_ :: r,c=>Qt6 line r { c with line:=(c.line++([x_.2]:List Int)) }
def Qv2 :Nat->List Token->LexReader->(List Token) × Int × Int
 | 0,_,_=>([],0,0)
 | m+1,out,c2=>bif (c2.error==0) then bif ((Q90 c2 (fun (y:Int)=>Qy0 y ([1]:List Int) 0)).2.at_==(((Q90 c2 (fun (y:Int)=>Qy0 y ([1]:List Int) 0)).2.line).length:Int)) then (out,(((Q90 c2 (fun (y:Int)=>Qy0 y ([1]:List Int) 0)).2.line).length:Int),0) else Qv2 m (out++([{ (Qn0 ((Q90 c2 (fun (y:Int)=>Qy0 y ([1]:List Int) 0)).2)).1 with at_:=(Q90 c2 (fun (y:Int)=>Qy0 y ([1]:List Int) 0)).2.at_ }]:List Token)) ((Qn0 ((Q90 c2 (fun (y:Int)=>Qy0 y ([1]:List Int) 0)).2)).2) else ([],c2.bad,c2.error)
def Qu6 (c:LexReader):(List Token) × Int × Int:=Qv2 ((2*Int.toNat ((c.line.length:Int) - c.at_)+(bif c.error==0 then 1 else 0))+1) [] c
def QD1 (line:ByteArray):(List Token) × Int × Int:=bif (decide ((ByteArray.size line:Int) > 400)) then ([],0,3) else Qu6 (Qt6 line (Qj8 line) LexReader.zero)
theorem lex_Tokens_c (line:ByteArray) (hs0:line.size<=4294967296):∀ objs,AGives Tryz.prog 212 [Sg line] objs (AVal.tup [tokenL ((QD1 line).1),I ((QD1 line).2.1),I ((QD1 line).2.2)]):=by
 generalize hR:QD1 line=R;refine ga (l1 .nil) (Low.tup' (.cons lw (l1 (l1 .nil)))) (kp 12 [14,18,19,20,38,51]) Tryz.func212 ?_;have hk0:=hs0;obtain z15:line.size<=4294967296:=hs0;refine ai (fun h1=>?_) (fun h2=>?_)
 ·have qh1:=of_decide_eq_true h1;obtain rfl:=foll hR (ct h1 rfl);exact Q30 (Low.tup' (.cons lw (l1 (l1 .nil)))) (Seen.tup (ev (Qn1) (e1 (e1 .nil))))
 ·have qh2:=of_decide_eq_false h2;refine Qq0 (fun (c:LexReader) (pos:Nat)=>∃ m,ByteArray.size line - pos<=m∧Qu6 (Qt6 line (QX4 line m pos) c)=R∧c.line.length<=pos∧pos<=ByteArray.size line∧c.at_=0) (fun c pos=>ByteArray.size line - pos) (fun c pos=>[(2,AVal.lit (.slice none 0 0)),(3,I 0),(4,I 0),(5,AVal.ptr 0 0 4 0 0),(18,AVal.ptr 1 0 1 0 0)]) (fun c pos=>[(0,AObj.row 259 4 [[AVal.own 2 0 1 0 c.line.length,I c.at_,I c.bad,I c.error]]),(0,AObj.other (.strIter line pos)),(0,AObj.row 21 1 (c.line.map (fun q_=>[J q_])))]) LexReader.zero 0 ((Qf1 21 1).trans (wk [0,1,2] (tO rfl (Qk0 (cv (Q91 2 rfl) (c1 (c1 (c1 .nil))))) (tO rfl (.strIter _ _) (tO rfl (tl eqA) .nil))) (s1 (s1 (s1 (sv (Q50 0 rfl rfl) (sv (Q50 1 rfl rfl) .nil))))))) ⟨ByteArray.size line,by first|(have hq:=hrd _ (by assumption);omega)|exact omA,foll hR (cf h2 rfl),by first|(have hq:=hrd _ (by assumption);exact ⟨hq.2.1.1,hq.2.1.2.1,hq.2.1.2.2,fun hz=>by have hq3:=hq.2.2.2 hz;simp only [List.length_append,List.length_cons,List.length_nil];omega⟩)|first|(refine ⟨by omega,by omega,by omega,fun _=>by simp;omega⟩)|first|(simp [LexReader.zero];done)|first|(simp;omega)|exact exA⟩ ?_;clear hR;rintro c pos ⟨m,hm,hR,hx⟩;(try dsimp only at hR hm hx);refine ai (fun h3=>?_) (fun h4=>?_)
  ·have hlt:=of_decide_eq_true h3;have hw:=QO8 line pos;have hwe:=QN8 line pos hlt;obtain ⟨m,rfl⟩:=sucA m;rw [QU3 h3] at hR;refine ai (fun _=>?_) (fun h=>nomatch h);refine Or.inl ?_;(first|refine ⟨Qg3 4 rfl lnA apA,?_⟩|refine ⟨Q52 4 rfl apA,?_⟩);exact Qm0 { c with line:=(c.line++([(pos,((Utf8.decode line pos).1:Int)).2]:List Int)) } (pos+(Utf8.decode line pos).2) (wk [0,1,2] (tO rfl (Qk0 (cv (to 2 lnA) (c1 (c1 (c1 .nil))))) (tO rfl (.strIter _ _) (tO rfl (tl eqA) .nil))) (s1 (s1 (s1 (sv (Q50 0 rfl rfl) (sv (Q50 1 rfl rfl) .nil)))))) (by first|(have hq:=hrd _ (by assumption);omega)|exact omA) ⟨m,by first|(have hq:=hrd _ (by assumption);omega)|exact omA,foll hR (congrArg (fun p:LexReader=>Qu6 p) rfl),by first|(have hq:=hrd _ (by assumption);exact ⟨hq.2.1.1,hq.2.1.2.1,hq.2.1.2.2,fun hz=>by have hq3:=hq.2.2.2 hz;simp only [List.length_append,List.length_cons,List.length_nil];omega⟩)|first|(refine ⟨by omega,by omega,by omega,fun _=>by simp;omega⟩)|first|(simp [LexReader.zero];done)|first|(simp;omega)|exact exA⟩
  ·rw [Qo6 h4] at hR;refine ai (fun h=>nomatch h) (fun _=>?_);replace hR:Qu6 c=R:=fo2 (fun p:LexReader=>Qu6 p) (c) hR rfl;refine Or.inl ?_;refine ACalls.of_cwp (fun _=>true) Tryz.func221 rfl rfl ?_;refine ⟨_,_,Told.refl,?_⟩;refine Qq0 (fun (out:List Token) (c2:LexReader)=>∃ m,(2*Int.toNat ((c2.line.length:Int) - c2.at_)+(bif c2.error==0 then 1 else 0))<m∧Qv2 m out c2=R∧0<=c2.at_∧c2.at_<=(c2.line.length:Int)∧c2.line.length<=400∧((c2.error==0)=true->(out.length:Int)<=c2.at_)) (fun out c2=>(2*Int.toNat ((c2.line.length:Int) - c2.at_)+(bif c2.error==0 then 1 else 0))) (fun out c2=>[(2,AVal.lit (.slice none 0 0)),(3,I 0),(4,I 0),(5,AVal.ptr 0 0 4 0 0),(8,AVal.fn (.func 231) [] [AVal.ptr 1 0 1 0 0]),(9,AVal.own 2 0 4 0 out.length)]) (fun out c2=>[(0,AObj.row 259 4 [[runes c2.line,I c2.at_,I c2.bad,I c2.error]]),(0,AObj.row 160 1 [[ints ([1]:List Int)]]),(0,AObj.row 233 4 (out.map Token.cells))]) [] c ((Qf1 233 4).trans (wk [0,3,4] (tO rfl (Qk0 (cv (QV8 _ _ rfl (Nat.zero_le _) (by decide) eqA (fun _=>lowL1 rfl) lnA) (c1 (c1 (c1 .nil))))) (tO rfl (Qk0 (cv (turn_as (QS7 (c:=(fun q_=>[I q_])) (d:=0) ([1]:List Int) rfl) lw) .nil)) (tO rfl (tl eqA) .nil))) (s1 (s1 (s1 (sv (Q50 0 rfl rfl) (sv (Q51 .nil (cv (Q50 1 rfl rfl) .nil)) (sv (Q91 2 rfl) .nil)))))))) ⟨_,Nat.lt_succ_self _,foll hR rfl,by first|(have hq:=hrd _ (by assumption);exact ⟨hq.2.1.1,hq.2.1.2.1,hq.2.1.2.2,fun hz=>by have hq3:=hq.2.2.2 hz;simp only [List.length_append,List.length_cons,List.length_nil];omega⟩)|first|(refine ⟨by omega,by omega,by omega,fun _=>by simp;omega⟩)|first|(simp [LexReader.zero];done)|first|(simp;omega)|exact exA⟩ ?_;clear hR;rintro out c2 ⟨m,hm,hR,hx⟩;(try dsimp only at hR hm hx);obtain ⟨m,rfl⟩:=sucA m;refine ai (fun h5=>?_) (fun h6=>?_)
   ·have hol:=hx.2.2.2 h5;have hrd:=fun (b:Int->Bool) (hn:((Q90 c2 b).2.at_==((Q90 c2 b).2.line.length:Int))=false)=>lex_round c2 _ b (by omega) (by omega) (by omega) h5 rfl hn;have cl1:∀ (y1:Int),AMoves Tryz.prog 231 [J y1,AVal.ptr 0 0 1 0 0] [(0,AObj.row 160 1 [[ints ([1]:List Int)]])] 1 (Bo ((fun (y:Int)=>Qy0 y ([1]:List Int) 0) y1)) [(0,AObj.row 160 1 [[ints ([1]:List Int)]])]:=by
     intro y1;have hR:(fun (y:Int)=>Qy0 y ([1]:List Int) 0) y1=(fun (y:Int)=>Qy0 y ([1]:List Int) 0) y1:=rfl;refine mo (kp 6 [6,7,8,9,15]) Tryz.func231 ?_;refine Qw0 (fun (i:Nat)=>Qy0 y1 (List.drop i ([1]:List Int)) i=(fun (y:Int)=>Qy0 y ([1]:List Int) 0) y1∧i<=([1]:List Int).length) (fun i=>([1]:List Int).length - i) (fun i=>[(0,J y1),(3,Bo false),(6,ints ([1]:List Int)),(7,I (([1]:List Int).length:Int)),(8,I (i:Int))]) (fun i=>[(0,AObj.row 160 1 [[ints ([1]:List Int)]])]) 0 (wk [0] (tO rfl (ts (lv lw LowL.nil)) .nil) (s1 (s1 (sl lw (s1 (s1 .nil)))))) ⟨foll hR rfl,by exact omA⟩ ?_;clear hR;rintro i ⟨hR,hj⟩;(try dsimp only at hR hj);refine ai (fun h7=>?_) (fun h8=>?_)
     ·(have hlt:i<([1]:List Int).length:=by have:=of_decide_eq_true h7;omega);rw [Qo0 0 hlt] at hR;refine ai gkA ?_;refine us (Qx5 y1 _) ?_;refine ai (fun h9=>?_) (fun h10=>?_)
      ·refine Q41 (fun r:Bool=>Bo r) (fun _=>[(0,AObj.row 160 1 [[ints ([1]:List Int)]])]) (leaf:=true) (foll hR (ct h9 rfl)) ?_;exact tt [0] (tO rfl (ts (lv lw LowL.nil)) .nil) t1
      ·exact QA0 (i+1) (wk [0] (tO rfl (ts (lv lw LowL.nil)) .nil) (s1 (s1 (sl lw (s1 (sv (Qt0 (I_eq (wr omA)) lx) .nil)))))) omA ⟨foll hR (cf h10 rfl),by exact omA⟩
     ·rw [Qp0 (l:=([1]:List Int)) (j:=i) (geA h8)] at hR;refine Q41 (fun r:Bool=>Bo r) (fun _=>[(0,AObj.row 160 1 [[ints ([1]:List Int)]])]) (leaf:=false) (foll hR rfl) ?_;exact tt [0] (tO rfl (ts (lv lw LowL.nil)) .nil) t1
    have hof1:AMoves Tryz.prog 222 [AVal.ptr 0 0 4 0 0,AVal.fn (.func 231) [] [AVal.ptr 1 0 1 0 0]] [(0,AObj.row 259 4 [[runes c2.line,I c2.at_,I c2.bad,I c2.error]]),(0,AObj.row 160 1 [[ints ([1]:List Int)]])] 2 (Sg ((Q90 c2 (fun (y:Int)=>Qy0 y ([1]:List Int) 0)).1)) [(0,AObj.row 259 4 [[runes (((Q90 c2 (fun (y:Int)=>Qy0 y ([1]:List Int) 0)).2).line),I (((Q90 c2 (fun (y:Int)=>Qy0 y ([1]:List Int) 0)).2).at_),I (((Q90 c2 (fun (y:Int)=>Qy0 y ([1]:List Int) 0)).2).bad),I (((Q90 c2 (fun (y:Int)=>Qy0 y ([1]:List Int) 0)).2).error)]]),(0,AObj.row 160 1 [[ints ([1]:List Int)]])]:=by
     have hR:Q90 c2 (fun (y:Int)=>Qy0 y ([1]:List Int) 0)=Q90 c2 (fun (y:Int)=>Qy0 y ([1]:List Int) 0):=rfl;refine mo (kp 6 [33]) Tryz.func222 ?_;refine Qw0 (fun (c3:LexReader)=>∃ m,(Int.toNat ((c3.line.length:Int) - c3.at_))<m∧QP0 c2 (QO0 (fun (y:Int)=>Qy0 y ([1]:List Int) 0) m c3)=Q90 c2 (fun (y:Int)=>Qy0 y ([1]:List Int) 0)∧0<=c3.at_∧c3.at_<=(c3.line.length:Int)∧c3.line.length<=400∧c2.at_<=c3.at_∧0<=c2.at_) (fun c3=>(Int.toNat ((c3.line.length:Int) - c3.at_))) (fun c3=>[(0,AVal.ptr 0 0 4 0 0),(1,AVal.fn (.func 231) [] [AVal.ptr 1 0 1 0 0]),(4,Sg ⟨#[]⟩),(5,I c2.at_)]) (fun c3=>[(0,AObj.row 259 4 [[runes c3.line,I c3.at_,I c3.bad,I c3.error]]),(0,AObj.row 160 1 [[ints ([1]:List Int)]])]) c2 (wk [0,1] (tO rfl (ts LexReader.lo) (tO rfl (ts (lv lw LowL.nil)) .nil)) (sv (Q50 0 rfl rfl) (sv (Q51 .nil (cv (Q50 1 rfl rfl) .nil)) (s1 (s1 .nil))))) ⟨_,Nat.lt_succ_self _,foll hR rfl,by exact exA⟩ ?_;clear hR;rintro c3 ⟨m,hm,hR,hx⟩;(try dsimp only at hR hm hx);obtain ⟨m,rfl⟩:=sucA m;refine dchk (by kernel_rfl) ?_;refine ai gkA ?_;(first|apply u2|apply u3|apply u4|apply us);exact mv [1] (cl1 (c3.line.getD (Int.toNat c3.at_) 0)) (dO (ds (lv lw LowL.nil)) .nil) (d1 (dp .nil)) (rO (re (lv lw LowL.nil)) .nil) rx;(repeat ((first|refine ai rfl ?_|refine ai (fun _=>rfl) ?_)));refine ai (fun h11=>?_) (fun h12=>?_)
     ·have hq1:=of_decide_eq_true ((Bool.and_eq_true _ _).mp h11).1;have hwr:w64 (c3.at_+1)=c3.at_+1:=wr (by omega);exact QA0 { c3 with at_:=(w64 (c3.at_+1)) } (wk [0,1] (tO rfl (ts LexReader.lo) (tO rfl (ts (lv lw LowL.nil)) .nil)) (sv (Q50 0 rfl rfl) (sv (Q51 .nil (cv (Q50 1 rfl rfl) .nil)) (s1 (s1 .nil))))) omA ⟨m,by exact omA,foll hR (congrArg (fun p:LexReader=>QP0 c2 p) (ct h11 rfl)),by exact exA⟩
     ·replace hR:QP0 c2 c3=Q90 c2 (fun (y:Int)=>Qy0 y ([1]:List Int) 0):=fo2 (fun p:LexReader=>QP0 c2 p) (c3) hR (cf h12 rfl);refine dchk (by kernel_rfl) ?_;refine ai gkA ?_;(first|refine ⟨(List.drop (Int.toNat c2.at_) (List.take (Int.toNat c3.at_) c3.line)),by exact cvA,?_⟩|refine ⟨_,fun _=>⟨(List.drop (Int.toNat c2.at_) (List.take (Int.toNat c3.at_) c3.line)),by exact cvA,rfl,rfl⟩,?_⟩|refine ⟨_,rfl,⟨(List.drop (Int.toNat c2.at_) (List.take (Int.toNat c3.at_) c3.line)),by exact cvA,Sub.refl _,rfl⟩,?_⟩);(repeat ((first|refine ai rfl ?_|refine ai (fun _=>rfl) ?_)));refine Q41 (fun r:ByteArray × LexReader=>Sg r.1) (fun r:ByteArray × LexReader=>[(0,AObj.row 259 4 [[runes r.2.line,I r.2.at_,I r.2.bad,I r.2.error]]),(0,AObj.row 160 1 [[ints ([1]:List Int)]])]) (leaf:=((runesBytes (List.drop (Int.toNat c2.at_) (List.take (Int.toNat c3.at_) c3.line))),c3)) (foll hR rfl) ?_;exact tt [0,1] (tO rfl (ts LexReader.lo) (tO rfl (ts (lv lw LowL.nil)) .nil)) t1
    refine us (mv [0,1] (hof1) (dO (ds LexReader.lo) (dO (ds (lv lw LowL.nil)) .nil)) (dp (dv (dn_fn .nil (dp .nil)) .nil)) (rO (re LexReader.lo) (rO (re (lv lw LowL.nil)) .nil)) rx) ?_;refine dchk (by kernel_rfl) ?_;(repeat ((first|refine ai rfl ?_|refine ai (fun _=>rfl) ?_)));refine ai (fun h13=>?_) (fun h14=>?_)
    ·refine dchk (by kernel_rfl) ?_;(repeat ((first|refine ai rfl ?_|refine ai (fun _=>rfl) ?_)));obtain rfl:=foll hR (ct h5 (ct h13 rfl));exact Q30 (Low.tup' (.cons lw (l1 (l1 .nil)))) (Seen.tup (ev (QG1 Token.zero _ rfl eqA lnA) (e1 (e1 .nil))))
    ·refine us (mv [0] (Qhe ((Q90 c2 (fun (y:Int)=>Qy0 y ([1]:List Int) 0)).2) (by first|(exact Nat.le_trans (hrd _ (by assumption)).1.2.2 (by decide))|exact szA) (by exact (hrd _ (by assumption)).1)) (dO (ds LexReader.lo) .nil) (dp .nil) (rO (re LexReader.lo) .nil) (Ren.low _ (Low.agg' (Token.lo)))) ?_;refine Or.inl ?_;(first|refine ⟨Qg3 40 rfl lnA apA,?_⟩|refine ⟨Q52 40 rfl apA,?_⟩);exact Qm0 (out++([{ (Qn0 ((Q90 c2 (fun (y:Int)=>Qy0 y ([1]:List Int) 0)).2)).1 with at_:=(Q90 c2 (fun (y:Int)=>Qy0 y ([1]:List Int) 0)).2.at_ }]:List Token)) ((Qn0 ((Q90 c2 (fun (y:Int)=>Qy0 y ([1]:List Int) 0)).2)).2) (wk [0,1,2] (tO rfl (ts LexReader.lo) (tO rfl (ts (lv lw LowL.nil)) (tO rfl (tl eqA) .nil))) (s1 (s1 (s1 (sv (Q50 0 rfl rfl) (sv (Q51 .nil (cv (Q50 1 rfl rfl) .nil)) (sv (to 2 lnA) .nil))))))) (by first|(have hq:=hrd _ (by assumption);omega)|exact omA) ⟨m,by first|(have hq:=hrd _ (by assumption);omega)|exact omA,foll hR (ct h5 (cf h14 rfl)),by first|(have hq:=hrd _ (by assumption);exact ⟨hq.2.1.1,hq.2.1.2.1,hq.2.1.2.2,fun hz=>by have hq3:=hq.2.2.2 hz;simp only [List.length_append,List.length_cons,List.length_nil];omega⟩)|first|(refine ⟨by omega,by omega,by omega,fun _=>by simp;omega⟩)|first|(simp [LexReader.zero];done)|first|(simp;omega)|exact exA⟩
   ·refine dchk (by kernel_rfl) ?_;(repeat ((first|refine ai rfl ?_|refine ai (fun _=>rfl) ?_)));obtain rfl:=foll hR (cf h6 rfl);exact Q30 (Low.tup' (.cons lw (l1 (l1 .nil)))) (Seen.tup (ev (Qn1) (e1 (e1 .nil))))
def QB3 (v:Job):Bool:=((((v.start==0)&&(v.limit==0))&&(v.nodes==0))&&(((v.promise==(-1))&&(v.choice==0))||(((QL2 v.promise)&&(Qc1 v v.choice).2)&&(!v.held))))
theorem Qfe (v:Job) (hs0:v.sz):∀ objs,AGives Tryz.prog 158 [Job.a v] objs (Bo (QB3 v)):=by
 generalize hR:QB3 v=R;refine ga (.cons (Job.low _ _) .nil) lx (kp 6 []) Tryz.func158 ?_;have hk0:=hs0;obtain ⟨z1,z2,z3,z4,z5⟩:v.name.size<=4294967296∧v.user.size<=4294967296∧v.account.size<=4294967296∧(v.shape.alts.length<=4294967296)∧v.after.length<=4294967296:=hs0;refine us (Q1a v v.choice szA _) ?_;(first|apply u2|apply u3|apply u4|apply us);exact Qg7 v.promise _;obtain rfl:=foll hR rfl;exact Q30 lx sr
def Qh3 (v:Job):Bool:=bif (((((((!(Qc1 v v.choice).2)||v.held)||(!(QL2 v.start)))||(!(QL2 v.promise)))||(decide (v.promise<v.start)))||(!(QL2 v.limit)))||((w64 (v.limit - v.start))!=(Qc1 v v.choice).1.wall)) then false else ((Q0a v.nodes)&&(Qw8 v.shape v.choice (QS1 v.nodes)))
theorem Qqd (v:Job) (hs0:v.sz):∀ objs,AGives Tryz.prog 159 [Job.a v] objs (Bo (Qh3 v)):=by
 generalize hR:Qh3 v=R;refine ga (.cons (Job.low _ _) .nil) lx (kp 5 [61]) Tryz.func159 ?_;have hk0:=hs0;obtain ⟨z3,z4,z5,z6,z7⟩:v.name.size<=4294967296∧v.user.size<=4294967296∧v.account.size<=4294967296∧(v.shape.alts.length<=4294967296)∧v.after.length<=4294967296:=hs0;refine us (Q1a v v.choice szA _) ?_;(first|apply u2|apply u3|apply u4|apply us);exact Qg7 v.start _;(first|apply u2|apply u3|apply u4|apply us);exact Qg7 v.promise _;(first|apply u2|apply u3|apply u4|apply us);exact Qg7 v.limit _;refine ai (fun h1=>?_) (fun h2=>?_)
 ·obtain rfl:=foll hR (ct h1 rfl);exact Q30 lx sr
 ·refine dchk (by kernel_rfl) ?_;(first|apply u2|apply u3|apply u4|apply us);exact QTf v.nodes _;(first|apply u2|apply u3|apply u4|apply us);exact Q75 v.nodes _;(first|apply u2|apply u3|apply u4|apply us);exact Qkc v.shape v.choice (QS1 v.nodes) szA _;(repeat ((first|refine ai rfl ?_|refine ai (fun _=>rfl) ?_|refine ai (fun _=>QTf v.nodes _) ?_|refine ai (fun _=>Q75 v.nodes _) ?_|refine ai (fun _=>Qkc v.shape v.choice (QS1 v.nodes) szA _) ?_)));obtain rfl:=foll hR (cf h2 rfl);exact Q30 lx sr
def Qn6 (s:State) (r_:Resize) (j:Job) (c:Int):Bool:=bif (((Qw3 s (fun (y:Int) (y1:Node)=>((y1.job==r_.job)&&(y1.want==c))))!=(wu64 (BitVec.ofInt 64 r_.nodes &&& ~~~(BitVec.ofInt 64 r_.said)).toNat))||(!(QR7 s.nodes r_.said))) then false else bif r_.grow then ((r_.nodes==(Q88 s.nodes r_.job 2))&&(decide ((w64 ((QS1 j.nodes)+(QS1 r_.nodes)))<=j.shape.max))) else (((wu64 (BitVec.ofInt 64 r_.nodes &&& ~~~(BitVec.ofInt 64 j.nodes)).toNat)==0)&&(decide ((w64 ((QS1 j.nodes) - (QS1 r_.nodes))) >= j.shape.min)))
def Q44 (s:State) (r_:Resize) (j:Job):Bool:=bif (((((j.shape.kind != 3)||(r_.nodes==0))||((wu64 (BitVec.ofInt 64 r_.said &&& ~~~(BitVec.ofInt 64 r_.nodes)).toNat)!=0))||(decide (r_.since<0)))||(decide (r_.since > 1000000))) then false else bif r_.grow then Qn6 s r_ j 2 else Qn6 s r_ j 4
theorem Qmc (s:State) (r_:Resize) (j:Job) (hs0:s.sz) (hs1:j.sz):∀ objs,AGives Tryz.prog 88 [State.a s,Resize.a r_,Job.a j] objs (Bo (Q44 s r_ j)):=by
 generalize hR:Q44 s r_ j=R;refine ga (.cons (State.low _ _) (.cons (Resize.low _ _) (.cons (Job.low _ _) .nil))) lx (kj [1000006] 11 [37,39,57,65]) Tryz.func88 ?_;have hk0:=hs0;obtain ⟨z13,z14,z15,z16,z17,z18,z19⟩:=hs0;have hk1:=hs1;obtain ⟨z20,z21,z22,z23,z24⟩:j.name.size<=4294967296∧j.user.size<=4294967296∧j.account.size<=4294967296∧(j.shape.alts.length<=4294967296)∧j.after.length<=4294967296:=hs1;refine ai (fun h1=>?_) (fun h2=>?_)
 ·obtain rfl:=foll hR (ct h1 rfl);exact Q30 lx sr
 ·refine Q63 (fun (c:Int)=>Qn6 s r_ j c=R) (fun c=>[(3,AVal.ptr 0 0 8 0 0),(4,AVal.ptr 1 0 5 0 0),(5,AVal.ptr 2 0 20 0 0),(6,Bo false),(7,AVal.ptr 3 0 1 0 0)]) (fun c=>[(0,AObj.row 28 8 [[I s.now,nodeL s.nodes,jobL s.jobs,Qi2 s.resizes,bookL s.books,QO2 s.ledger,I s.nextJob,I s.nextBook]]),(0,AObj.row 71 5 [[I r_.job,Bo r_.grow,U r_.nodes,U r_.said,I r_.since]]),(0,AObj.row 67 20 [[I j.id,Sg j.name,Sg j.user,Sg j.account,I j.shape.kind,altL j.shape.alts,I j.shape.min,I j.shape.max,I j.shape.wall,I j.prio,depL j.after,I j.state,Bo j.held,I j.born,I j.promise,I j.choice,I j.start,I j.limit,U j.nodes,I j.used]]),(0,AObj.row 3 1 [[I c]])]) ?_ ?_
  ·clear hR;rintro c hR;(try dsimp only at hR);have cl1:∀ (y1:Int) (y2:Node),AMoves Tryz.prog 120 [I y1,Node.a y2,AVal.ptr 0 0 5 0 0,AVal.ptr 1 0 1 0 0] [(0,AObj.row 71 5 [[I r_.job,Bo r_.grow,U r_.nodes,U r_.said,I r_.since]]),(0,AObj.row 3 1 [[I c]])] 2 (Bo ((fun (y:Int) (y1:Node)=>((y1.job==r_.job)&&(y1.want==c))) y1 y2)) [(0,AObj.row 71 5 [[I r_.job,Bo r_.grow,U r_.nodes,U r_.said,I r_.since]]),(0,AObj.row 3 1 [[I c]])]:=by
    intro y1 y2;have hR:(fun (y:Int) (y1:Node)=>((y1.job==r_.job)&&(y1.want==c))) y1 y2=(fun (y:Int) (y1:Node)=>((y1.job==r_.job)&&(y1.want==c))) y1 y2:=rfl;refine mo (kp 7 []) Tryz.func120 ?_;refine Q41 (fun r:Bool=>Bo r) (fun _=>[(0,AObj.row 71 5 [[I r_.job,Bo r_.grow,U r_.nodes,U r_.said,I r_.since]]),(0,AObj.row 3 1 [[I c]])]) (leaf:=((y2.job==r_.job)&&(y2.want==c))) (foll hR rfl) ?_;exact tt [0,1] (tO rfl (ts Resize.lo) (tO rfl (ts (l1 LowL.nil)) .nil)) t1
   have hof1:AMoves Tryz.prog 119 [State.a s,AVal.fn (.func 120) [] [AVal.ptr 0 0 5 0 0,AVal.ptr 1 0 1 0 0]] [(0,AObj.row 71 5 [[I r_.job,Bo r_.grow,U r_.nodes,U r_.said,I r_.since]]),(0,AObj.row 3 1 [[I c]])] 2 (U (Qw3 s (fun (y:Int) (y1:Node)=>((y1.job==r_.job)&&(y1.want==c))))) [(0,AObj.row 71 5 [[I r_.job,Bo r_.grow,U r_.nodes,U r_.said,I r_.since]]),(0,AObj.row 3 1 [[I c]])]:=by
    have hR:Qw3 s (fun (y:Int) (y1:Node)=>((y1.job==r_.job)&&(y1.want==c)))=Qw3 s (fun (y:Int) (y1:Node)=>((y1.job==r_.job)&&(y1.want==c))):=rfl;refine mo (kp 10 [11,12,13,14,21]) Tryz.func119 ?_;refine Qq0 (fun (l:List Int) (i:Nat)=>QQ4 (QS6 (fun (y:Int) (y1:Node)=>((y1.job==r_.job)&&(y1.want==c))) (List.drop i s.nodes) l i)=Qw3 s (fun (y:Int) (y1:Node)=>((y1.job==r_.job)&&(y1.want==c)))∧i<=s.nodes.length∧l.length<=i) (fun l i=>s.nodes.length - i) (fun l i=>[(1,AVal.fn (.func 120) [] [AVal.ptr 0 0 5 0 0,AVal.ptr 1 0 1 0 0]),(4,U 0),(5,AVal.own 2 0 1 0 l.length),(11,nodeL s.nodes),(12,I (s.nodes.length:Int)),(13,I (i:Int))]) (fun l i=>[(0,AObj.row 71 5 [[I r_.job,Bo r_.grow,U r_.nodes,U r_.said,I r_.since]]),(0,AObj.row 3 1 [[I c]]),(0,AObj.row 3 1 (l.map (fun q_=>[I q_])))]) [] 0 ((Qf1 3 1).trans (wk [0,1,3] (tO rfl (ts Resize.lo) (tO rfl (ts (l1 LowL.nil)) (tO rfl (tl eqA) .nil))) (sv (Q51 .nil (cv (Q50 0 rfl rfl) (cv (Q50 1 rfl rfl) .nil))) (s1 (sv (Q91 2 rfl) (sl lw (s1 (s1 .nil)))))))) ⟨foll hR rfl,by exact omA,by exact exA⟩ ?_;clear hR;rintro l i ⟨hR,hj,hx⟩;(try dsimp only at hR hj hx);refine ai (fun h3=>?_) (fun h4=>?_)
    ·have hlt:=ltA h3;rw [Qo0 Node.zero hlt] at hR;refine ai gkA ?_;refine us (mv [0,1] (cl1 (i:Int) (s.nodes.getD i Node.zero)) (dO (ds Resize.lo) (dO (ds (l1 LowL.nil)) .nil)) (d1 (dl (Node.low _ _) (dp (dp .nil)))) (rO (re Resize.lo) (rO (re (l1 LowL.nil)) .nil)) rx) ?_;refine ai (fun h5=>?_) (fun h6=>?_)
     ·refine Or.inl ?_;(first|refine ⟨Qg3 8 rfl lnA apA,?_⟩|refine ⟨Q52 8 rfl apA,?_⟩);exact Qm0 (l++([(i:Int)]:List Int)) (i+1) (wk [0,1,2] (tO rfl (ts Resize.lo) (tO rfl (ts (l1 LowL.nil)) (tO rfl (tl eqA) .nil))) (sv (Q51 .nil (cv (Q50 0 rfl rfl) (cv (Q50 1 rfl rfl) .nil))) (s1 (sv (to 2 lnA) (sl lw (s1 (sv (Qt0 (I_eq (wr omA)) lx) .nil))))))) omA ⟨foll hR (congrArg (fun p:(List Int)=>QQ4 p) (ct h5 rfl)),by exact omA,by exact exA⟩
     ·exact Qm0 l (i+1) (wk [0,1,2] (tO rfl (ts Resize.lo) (tO rfl (ts (l1 LowL.nil)) (tO rfl (tl eqA) .nil))) (sv (Q51 .nil (cv (Q50 0 rfl rfl) (cv (Q50 1 rfl rfl) .nil))) (s1 (sv (to 2 lnA) (sl lw (s1 (sv (Qt0 (I_eq (wr omA)) lx) .nil))))))) omA ⟨foll hR (congrArg (fun p:(List Int)=>QQ4 p) (cf h6 rfl)),by exact omA,by exact exA⟩
    ·rw [Qp0 (l:=s.nodes) (j:=i) (geA h4)] at hR;replace hR:QQ4 l=Qw3 s (fun (y:Int) (y1:Node)=>((y1.job==r_.job)&&(y1.want==c))):=fo2 (fun p:(List Int)=>QQ4 p) (l) hR rfl;refine us (AGives.lent (QHe l szA []) (ev (QG1 _ _ rfl eqA lnA) .nil) (.cons lw .nil) (Qia rfl)) ?_;refine Q41 (fun r:Int=>U r) (fun r:Int=>[(0,AObj.row 71 5 [[I r_.job,Bo r_.grow,U r_.nodes,U r_.said,I r_.since]]),(0,AObj.row 3 1 [[I c]])]) (leaf:=(Q85 l).1) (foll hR rfl) ?_;exact tt [0,1] (tO rfl (ts Resize.lo) (tO rfl (ts (l1 LowL.nil)) .nil)) t1
   refine us (mv [1,3] (hof1) (dO (ds Resize.lo) (dO (ds (l1 LowL.nil)) .nil)) (dv (Qk8 (Low.agg' (State.lo))) (dv (dn_fn .nil (dp (dp .nil))) .nil)) (rO (re Resize.lo) (rO (re (l1 LowL.nil)) .nil)) rx) ?_;(first|apply u2|apply u3|apply u4|apply us);exact alloc_Quiet_c s.nodes r_.said szA _;refine ai (fun h7=>?_) (fun h8=>?_)
   ·obtain rfl:=foll hR (ct h7 rfl);exact Q30 lx sr
   ·refine dchk (by kernel_rfl) ?_;(first|apply u2|apply u3|apply u4|apply us);exact Q75 j.nodes _;(first|apply u2|apply u3|apply u4|apply us);exact Q75 r_.nodes _;(repeat ((first|refine ai rfl ?_|refine ai (fun _=>rfl) ?_|refine ai (fun _=>Q75 j.nodes _) ?_|refine ai (fun _=>Q75 r_.nodes _) ?_)));refine ai (fun h9=>?_) (fun h10=>?_)
    ·refine dchk (by kernel_rfl) ?_;(first|apply u2|apply u3|apply u4|apply us);exact Qce s.nodes r_.job 2 szA _;(repeat ((first|refine ai rfl ?_|refine ai (fun _=>rfl) ?_|refine ai (fun _=>Qce s.nodes r_.job 2 szA _) ?_)));obtain rfl:=foll hR (cf h8 (ct h9 rfl));exact Q30 lx sr
    ·obtain rfl:=foll hR (cf h8 (cf h10 rfl));exact Q30 lx sr
  ·refine ai (fun h11=>?_) (fun h12=>?_)
   ·exact Qz0 2 (wk [0,1,2,3] (tO rfl (ts State.lo) (tO rfl (ts Resize.lo) (tO rfl (ts Job.lo) (tO rfl (ts (l1 LowL.nil)) .nil)))) (sv (Q50 0 rfl rfl) (sv (Q50 1 rfl rfl) (sv (Q50 2 rfl rfl) (s1 (sv (Q50 3 rfl rfl) .nil)))))) (foll hR (cf h2 (ct h11 rfl)))
   ·exact Qz0 4 (wk [0,1,2,3] (tO rfl (ts State.lo) (tO rfl (ts Resize.lo) (tO rfl (ts Job.lo) (tO rfl (ts (l1 LowL.nil)) .nil)))) (sv (Q50 0 rfl rfl) (sv (Q50 1 rfl rfl) (sv (Q50 2 rfl rfl) (s1 (sv (Q50 3 rfl rfl) .nil)))))) (foll hR (cf h2 (cf h12 rfl)))
def QG3 (l:List Node) (job:Int):Int:=bif (decide (job<1)) then 0 else (Q88 l job 1)
theorem Qxe (l:List Node) (job:Int) (hs0:l.length<=4294967296):∀ objs,AGives Tryz.prog 61 [nodeL l,I job] objs (U (QG3 l job)):=by
 generalize hR:QG3 l job=R;refine ga (.cons lw (l1 .nil)) lx (kp 5 [6]) Tryz.func61 ?_;have hk0:=hs0;obtain z3:l.length<=4294967296:=hs0;refine ai (fun h1=>?_) (fun h2=>?_)
 ·have qh1:=of_decide_eq_true h1;obtain rfl:=foll hR (ct h1 rfl);exact Q30 lx sr
 ·have qh2:=of_decide_eq_false h2;refine us (Qce l job 1 szA _) ?_;obtain rfl:=foll hR (cf h2 rfl);exact Q30 lx sr
def QZ0 (line:ByteArray):Nat->List Token->Int->(List Token) × Int × Int
 | 0,_,_=>([],0,0)
 | m+1,out,i=>bif (decide (i<((QY0 line).length:Int))) then bif ((Qs0 ((QY0 line).getD (Int.toNat i) 0))==1) then QZ0 line m out (w64 (i+1)) else bif ((QA1 (QY0 line) i).2.2.2 != 0) then ([],(QA1 (QY0 line) i).2.2.1,(QA1 (QY0 line) i).2.2.2) else QZ0 line m (out++([(QA1 (QY0 line) i).1]:List Token)) ((QA1 (QY0 line) i).2.1) else (out,((QY0 line).length:Int),0)
def QU0 (line:ByteArray):(List Token) × Int × Int:=bif (decide ((ByteArray.size line:Int) > 400)) then ([],0,3) else QZ0 line ((Int.toNat (((QY0 line).length:Int) - 0))+1) [] 0
theorem ref05_Tokens_c (line:ByteArray) (hs0:line.size<=4294967296):∀ objs,AGives Tryz.prog 209 [Sg line] objs (AVal.tup [tokenL ((QU0 line).1),I ((QU0 line).2.1),I ((QU0 line).2.2)]):=by
 generalize hR:QU0 line=R;refine ga (l1 .nil) (Low.tup' (.cons lw (l1 (l1 .nil)))) (kp 12 [14,20,26,38]) Tryz.func209 ?_;have hk0:=hs0;obtain z9:line.size<=4294967296:=hs0;have hf0:=Qgb line;refine ai (fun h1=>?_) (fun h2=>?_)
 ·have qh1:=of_decide_eq_true h1;obtain rfl:=foll hR (ct h1 rfl);exact Q30 (Low.tup' (.cons lw (l1 (l1 .nil)))) (Seen.tup (ev (Qn1) (e1 (e1 .nil))))
 ·have qh2:=of_decide_eq_false h2;refine us (ref05_Runes_c line szA _) ?_;refine Qq0 (fun (out:List Token) (i:Int)=>∃ m,(Int.toNat (((QY0 line).length:Int) - i))<m∧QZ0 line m out i=R∧0<=i∧i<=((QY0 line).length:Int)∧(out.length:Int)<=i) (fun out i=>(Int.toNat (((QY0 line).length:Int) - i))) (fun out i=>[(2,AVal.lit (.slice none 0 0)),(3,I 0),(4,I 0),(5,runes (QY0 line)),(6,AVal.own 0 0 4 0 out.length),(7,I i)]) (fun out i=>[(0,AObj.row 233 4 (out.map Token.cells))]) [] 0 ((Qf1 233 4).trans (wk [0] (tO rfl (tl eqA) .nil) (s1 (s1 (s1 (sl lw (sv (Q91 0 rfl) (s1 .nil)))))))) ⟨_,Nat.lt_succ_self _,foll hR (cf h2 rfl),by first|(have hp2:=hp1 (by assumption);refine ⟨by omega,by omega,?_⟩;simp only [List.length_append,List.length_cons,List.length_nil];omega)|exact exA⟩ ?_;clear hR;rintro out i ⟨m,hm,hR,hx⟩;(try dsimp only at hR hm hx);obtain ⟨m,rfl⟩:=sucA m;refine ai (fun h3=>?_) (fun h4=>?_)
  ·have qh3:=of_decide_eq_true h3;have hw1:w64 (i+1)=i+1:=wr (by omega);have hp1:=ref05_one_lt (QY0 line) i (by omega) (by omega) (by omega);refine ai gkA ?_;refine us (Qu5 ((QY0 line).getD (Int.toNat i) 0) _) ?_;refine ai (fun h5=>?_) (fun h6=>?_)
   ·exact Qm0 out (w64 (i+1)) (wk [0] (tO rfl (tl eqA) .nil) (s1 (s1 (s1 (sl lw (sv (to 0 lnA) (s1 .nil))))))) (by first|(have hp2:=hp1 (by assumption);omega)|exact omA) ⟨m,by first|(have hp2:=hp1 (by assumption);omega)|exact omA,foll hR (ct h3 (ct h5 rfl)),by first|(have hp2:=hp1 (by assumption);refine ⟨by omega,by omega,?_⟩;simp only [List.length_append,List.length_cons,List.length_nil];omega)|exact exA⟩
   ·refine us (ref05_one_c (QY0 line) i szA ckA _) ?_;refine ai (fun h7=>?_) (fun h8=>?_)
    ·obtain rfl:=foll hR (ct h3 (cf h6 (ct h7 rfl)));exact Q30 (Low.tup' (.cons lw (l1 (l1 .nil)))) (Seen.tup (ev (Qn1) (e1 (e1 .nil))))
    ·refine Or.inl ?_;(first|refine ⟨Qg3 40 rfl lnA apA,?_⟩|refine ⟨Q52 40 rfl apA,?_⟩);exact Qm0 (out++([(QA1 (QY0 line) i).1]:List Token)) ((QA1 (QY0 line) i).2.1) (wk [0] (tO rfl (tl eqA) .nil) (s1 (s1 (s1 (sl lw (sv (to 0 lnA) (s1 .nil))))))) (by first|(have hp2:=hp1 (by assumption);omega)|exact omA) ⟨m,by first|(have hp2:=hp1 (by assumption);omega)|exact omA,foll hR (ct h3 (cf h6 (cf h8 rfl))),by first|(have hp2:=hp1 (by assumption);refine ⟨by omega,by omega,?_⟩;simp only [List.length_append,List.length_cons,List.length_nil];omega)|exact exA⟩
  ·have qh4:=of_decide_eq_false h4;obtain rfl:=foll hR (cf h4 rfl);exact Q30 (Low.tup' (.cons lw (l1 (l1 .nil)))) (Seen.tup (ev (QG1 Token.zero _ rfl eqA lnA) (e1 (e1 .nil))))
end Go.Proofs.YtgjcljceccfgjaaGreatDoor
namespace Go.Proofs.YtgjcljceccfgjaaGreatDoor
set_option linter.unusedSimpArgs false
set_option linter.unusedVariables false
open Go.Fw
set_option maxRecDepth 20000
set_option maxHeartbeats 4000000
attribute [local irreducible] ACalls AMoves
def QV5 (s:ByteArray):Bool:=bif ((((QD1 s).2.2 != 0)||((((QD1 s).1).length:Int)!=1))||(!(((((QD1 s).1).getD 0 Token.zero).kind==1)&&(((((QD1 s).1).getD 0 Token.zero).text==s)&&(((((QD1 s).1).getD 0 Token.zero).num==0)&&((((QD1 s).1).getD 0 Token.zero).at_==0)))))) then false else true
theorem cmd_word_c (s:ByteArray) (hs0:s.size<=4294967296):∀ objs,AGives Tryz.prog 185 [Sg s] objs (Bo (QV5 s)):=by
 generalize hR:QV5 s=R;refine ga (l1 .nil) lx (kp 3 []) Tryz.func185 ?_;have hk0:=hs0;obtain z3:s.size<=4294967296:=hs0;refine ACalls.of_cwp (fun _=>true) Tryz.func199 rfl rfl ?_;refine ACalls.of_cwp (fun _=>true) Tryz.func213 rfl rfl ?_;refine ai (fun h=>nomatch h) (fun _=>?_);refine ai (fun h=>nomatch h) (fun _=>?_);refine ⟨_,_,Told.refl,?_⟩;refine us (lex_Tokens_c s szA _) ?_;refine dchk (by kernel_rfl) ?_;refine ai gkA ?_;refine ai (fun _=>(by kernel_rfl:eqOK _ _=true)) ?_;(repeat ((first|refine ai rfl ?_|refine ai (fun _=>rfl) ?_)));refine ai (fun h1=>?_) (fun h2=>?_)
 ·refine ⟨_,_,Told.refl,?_⟩;obtain rfl:=foll hR (ct h1 rfl);exact Q30 lx sr
 ·refine ⟨_,_,Told.refl,?_⟩;obtain rfl:=foll hR (cf h2 rfl);exact Q30 lx sr
def Qt4 (s:ByteArray):Bool:=bif (((QU0 s).2.2 != 0)||((((QU0 s).1).length:Int)!=1)) then false else bif ((((((QU0 s).1).getD 0 Token.zero).kind != 1)||(!(ByteArray.toList (((QU0 s).1).getD 0 Token.zero).text==ByteArray.toList s)))||((((QU0 s).1).getD 0 Token.zero).num != 0)) then false else true
theorem QQe (s:ByteArray) (hs0:s.size<=4294967296):∀ objs,AGives Tryz.prog 174 [Sg s] objs (Bo (Qt4 s)):=by
 generalize hR:Qt4 s=R;refine ga (l1 .nil) lx (kp 3 []) Tryz.func174 ?_;have hk0:=hs0;obtain z5:s.size<=4294967296:=hs0;refine ACalls.of_cwp (fun _=>true) Tryz.func194 rfl rfl ?_;refine ACalls.of_cwp (fun _=>true) Tryz.func210 rfl rfl ?_;refine ai (fun h=>nomatch h) (fun _=>?_);refine ai (fun h=>nomatch h) (fun _=>?_);refine ⟨_,_,Told.refl,?_⟩;refine us (ref05_Tokens_c s szA _) ?_;refine ai (fun h1=>?_) (fun h2=>?_)
 ·refine ⟨_,_,Told.refl,?_⟩;obtain rfl:=foll hR (ct h1 rfl);exact Q30 lx sr
 ·refine ai gkA ?_;refine ai (fun h3=>?_) (fun h4=>?_)
  ·refine ⟨_,_,Told.refl,?_⟩;obtain rfl:=foll hR (cf h2 (ct h3 rfl));exact Q30 lx sr
  ·refine ⟨_,_,Told.refl,?_⟩;obtain rfl:=foll hR (cf h2 (cf h4 rfl));exact Q30 lx sr
end Go.Proofs.YtgjcljceccfgjaaGreatDoor
namespace Go.Proofs.YtgjcljceccfgjaaGreatDoor
set_option linter.unusedSimpArgs false
set_option linter.unusedVariables false
open Go.Fw
set_option maxRecDepth 20000
set_option maxHeartbeats 4000000
attribute [local irreducible] ACalls AMoves
def Qla (c:Cmd) (i1:Bool):Bool:=bif i1 then (QZ1 c.node 0 47) else bif (c.kind==10) then (((QZ1 c.from_ 0 1000000)&&c.hasTime)&&(QZ1 c.nodes 1 48)) else ((c.kind==12)&&(QZ1 c.job 0 99999))
def Q29 (c:Cmd) (i:Bool):Bool:=bif i then (QVa c.job) else bif (c.kind==5) then ((QVa c.job)&&(c.hasPrio||c.hasTime)) else bif (c.kind==6) then ((QVa c.job)&&(QZ1 c.nodes 1 48)) else bif (c.kind==7) then Qla c (c.kind==7) else bif (c.kind==8) then Qla c (c.kind==8) else Qla c (c.kind==9)
def Q78 (c:Cmd):Bool:=bif ((((c.hasPrio&&(!(QZ1 c.prio 0 100)))||(c.hasTime&&(!(QQ9 c.time))))||((!c.hasPrio)&&(c.prio != 0)))||((!c.hasTime)&&(c.time != 0))) then false else bif (c.kind==1) then (((((((QS4 c.name)&&(QS4 c.user))&&(QS4 c.account))&&(QV5 c.user))&&(QV5 c.account))&&(Qo7 c.after))&&((QV1 c.shape)==0)) else bif (c.kind==2) then Q29 c (c.kind==2) else bif (c.kind==3) then Q29 c (c.kind==3) else bif (c.kind==4) then Q29 c (c.kind==4) else Q29 c (c.kind==11)
theorem cmd_fits_c (c:Cmd) (hs0:c.sz):∀ objs,AGives Tryz.prog 165 [Cmd.a c] objs (Bo (Q78 c)):=by
 generalize hR:Q78 c=R;refine ga (.cons (Cmd.low _ _) .nil) lx (kj [1000010,1000018] 3 [40,42,43,79,87,100,110,117]) Tryz.func165 ?_;have hk0:=hs0;obtain ⟨z25,z26,z27,z28,z29⟩:c.name.size<=4294967296∧c.user.size<=4294967296∧c.account.size<=4294967296∧(c.shape.alts.length<=4294967296)∧c.after.length<=4294967296:=hs0;(first|apply u2|apply u3|apply u4|apply us);exact QV3 c.prio 0 100 _;(first|apply u2|apply u3|apply u4|apply us);exact cmd_length_c c.time _;refine ai (fun h1=>?_) (fun h2=>?_)
 ·obtain rfl:=foll hR (ct h1 rfl);exact Q30 lx sr
 ·refine ai (fun h3=>?_) (fun h4=>?_)
  ·refine us (Q7e c.name szA _) ?_;(first|apply u2|apply u3|apply u4|apply us);exact Q7e c.user szA _;(first|apply u2|apply u3|apply u4|apply us);exact Q7e c.account szA _;(first|apply u2|apply u3|apply u4|apply us);exact cmd_word_c c.user szA _;(first|apply u2|apply u3|apply u4|apply us);exact cmd_word_c c.account szA _;(first|apply u2|apply u3|apply u4|apply us);exact cmd_deps_c c.after szA _;(first|apply u2|apply u3|apply u4|apply us);exact QVd c.shape szA _;obtain rfl:=foll hR (cf h2 (ct h3 rfl));exact Q30 lx sr
  ·refine Q63 (fun (i:Bool)=>Q29 c i=R) (fun i=>[(1,AVal.ptr 0 0 18 0 0),(2,Bo false),(42,I c.kind),(79,Bo i)]) (fun i=>[(0,AObj.row 208 18 [[I c.kind,I c.job,Sg c.name,Sg c.user,Sg c.account,I c.shape.kind,altL c.shape.alts,I c.shape.min,I c.shape.max,I c.shape.wall,I c.prio,Bo c.hasPrio,I c.time,Bo c.hasTime,depL c.after,I c.node,I c.nodes,I c.from_]])]) ?_ ?_
   ·clear hR;rintro i hR;(try dsimp only at hR);refine ai (fun h5=>?_) (fun h6=>?_)
    ·refine us (Qhf c.job _) ?_;obtain rfl:=foll hR (ct h5 rfl);exact Q30 lx sr
    ·refine ai (fun h7=>?_) (fun h8=>?_)
     ·refine us (Qhf c.job _) ?_;obtain rfl:=foll hR (cf h6 (ct h7 rfl));exact Q30 lx sr
     ·refine ai (fun h9=>?_) (fun h10=>?_)
      ·refine us (Qhf c.job _) ?_;(first|apply u2|apply u3|apply u4|apply us);exact QV3 c.nodes 1 48 _;obtain rfl:=foll hR (cf h6 (cf h8 (ct h9 rfl)));exact Q30 lx sr
      ·refine Q63 (fun (i1:Bool)=>Qla c i1=R) (fun i1=>[(1,AVal.ptr 0 0 18 0 0),(2,Bo false),(42,I c.kind),(110,Bo i1)]) (fun i1=>[(0,AObj.row 208 18 [[I c.kind,I c.job,Sg c.name,Sg c.user,Sg c.account,I c.shape.kind,altL c.shape.alts,I c.shape.min,I c.shape.max,I c.shape.wall,I c.prio,Bo c.hasPrio,I c.time,Bo c.hasTime,depL c.after,I c.node,I c.nodes,I c.from_]])]) ?_ ?_
       ·clear hR;rintro i1 hR;(try dsimp only at hR);refine ai (fun h11=>?_) (fun h12=>?_)
        ·refine us (QV3 c.node 0 47 _) ?_;obtain rfl:=foll hR (ct h11 rfl);exact Q30 lx sr
        ·refine ai (fun h13=>?_) (fun h14=>?_)
         ·refine us (QV3 c.from_ 0 1000000 _) ?_;(first|apply u2|apply u3|apply u4|apply us);exact QV3 c.nodes 1 48 _;obtain rfl:=foll hR (cf h12 (ct h13 rfl));exact Q30 lx sr
         ·(first|apply u2|apply u3|apply u4|apply us);exact QV3 c.job 0 99999 _;obtain rfl:=foll hR (cf h12 (cf h14 rfl));exact Q30 lx sr
       ·refine ai (fun h15=>?_) (fun h16=>?_)
        ·exact Qz0 (c.kind==7) (wk [0] (tO rfl (ts Cmd.lo) .nil) (sv (Q50 0 rfl rfl) (s1 (s1 (s1 .nil))))) (foll hR (cf h6 (cf h8 (cf h10 (ct h15 rfl)))))
        ·refine ai (fun h17=>?_) (fun h18=>?_)
         ·exact Qz0 (c.kind==8) (wk [0] (tO rfl (ts Cmd.lo) .nil) (sv (Q50 0 rfl rfl) (s1 (s1 (s1 .nil))))) (foll hR (cf h6 (cf h8 (cf h10 (cf h16 (ct h17 rfl))))))
         ·exact Qz0 (c.kind==9) (wk [0] (tO rfl (ts Cmd.lo) .nil) (sv (Q50 0 rfl rfl) (s1 (s1 (s1 .nil))))) (foll hR (cf h6 (cf h8 (cf h10 (cf h16 (cf h18 rfl))))))
   ·refine ai (fun h19=>?_) (fun h20=>?_)
    ·exact Qz0 (c.kind==2) (wk [0] (tO rfl (ts Cmd.lo) .nil) (sv (Q50 0 rfl rfl) (s1 (s1 (s1 .nil))))) (foll hR (cf h2 (cf h4 (ct h19 rfl))))
    ·refine ai (fun h21=>?_) (fun h22=>?_)
     ·exact Qz0 (c.kind==3) (wk [0] (tO rfl (ts Cmd.lo) .nil) (sv (Q50 0 rfl rfl) (s1 (s1 (s1 .nil))))) (foll hR (cf h2 (cf h4 (cf h20 (ct h21 rfl)))))
     ·refine ai (fun h23=>?_) (fun h24=>?_)
      ·exact Qz0 (c.kind==4) (wk [0] (tO rfl (ts Cmd.lo) .nil) (sv (Q50 0 rfl rfl) (s1 (s1 (s1 .nil))))) (foll hR (cf h2 (cf h4 (cf h20 (cf h22 (ct h23 rfl))))))
      ·exact Qz0 (c.kind==11) (wk [0] (tO rfl (ts Cmd.lo) .nil) (sv (Q50 0 rfl rfl) (s1 (s1 (s1 .nil))))) (foll hR (cf h2 (cf h4 (cf h20 (cf h22 (cf h24 rfl))))))
def Qf8 (ok2:Bool):Int:=bif (!ok2) then 80 else 0
def Qe8 (c:Cmd) (ok1:Bool):Int:=bif c.hasTime then Qf8 (ok1&&(QC1 c.time 1 100000)) else Qf8 (ok1&&(c.time==0))
def Q33 (c:Cmd) (ok:Bool):Int:=bif c.hasPrio then Qe8 c (ok&&(QC1 c.prio 0 100)) else Qe8 c (ok&&(c.prio==0))
def Qd8 (c:Cmd) (i1:Bool):Int:=bif i1 then Q33 c ((QX2 c true true true true false true true)&&(QC1 c.node 0 47)) else bif (c.kind==10) then Q33 c ((((QX2 c true true true false true false false)&&(QC1 c.from_ 0 1000000))&&c.hasTime)&&(QC1 c.nodes 1 48)) else Q33 c false
def QH6 (c:Cmd) (i:Bool):Int:=bif i then Q33 c ((QX2 c false true true true true true true)&&(QC1 c.job 1 99999)) else bif (c.kind==12) then Q33 c ((QX2 c false true true true true true true)&&(QC1 c.job 0 99999)) else bif (c.kind==5) then Q33 c (((QX2 c false true false false true true true)&&(QC1 c.job 1 99999))&&(c.hasPrio||c.hasTime)) else bif (c.kind==6) then Q33 c (((QX2 c false true true true true false true)&&(QC1 c.job 1 99999))&&(QC1 c.nodes 1 48)) else bif (c.kind==7) then Qd8 c (c.kind==7) else bif (c.kind==8) then Qd8 c (c.kind==8) else Qd8 c (c.kind==9)
def Qb6 (c:Cmd):Int:=bif (c.kind==1) then Q33 c ((((((((QX2 c true false false true true true true)&&(Q84 c.name))&&(Q84 c.user))&&(Q84 c.account))&&(Qt4 c.user))&&(Qt4 c.account))&&(Q67 c.after))&&((Q42 c.shape)==0)) else bif (c.kind==2) then QH6 c (c.kind==2) else bif (c.kind==3) then QH6 c (c.kind==3) else bif (c.kind==4) then QH6 c (c.kind==4) else QH6 c (c.kind==11)
theorem ref08_Check_c (c:Cmd) (hs0:c.sz):∀ objs,AGives Tryz.prog 162 [Cmd.a c] objs (I (Qb6 c)):=by
 generalize hR:Qb6 c=R;refine ga (.cons (Cmd.low _ _) .nil) lx (kj [1000010,1000020,1000023,1000026,1000029] 4 [5,6,46,58,67,84,98,109,128,142,156]) Tryz.func162 ?_;have hk0:=hs0;obtain ⟨z31,z32,z33,z34,z35⟩:c.name.size<=4294967296∧c.user.size<=4294967296∧c.account.size<=4294967296∧(c.shape.alts.length<=4294967296)∧c.after.length<=4294967296:=hs0;refine Q63 (fun (ok:Bool)=>Q33 c ok=R) (fun ok=>[(1,AVal.ptr 0 0 18 0 0),(2,I 0),(3,Bo ok)]) (fun ok=>[(0,AObj.row 208 18 [[I c.kind,I c.job,Sg c.name,Sg c.user,Sg c.account,I c.shape.kind,altL c.shape.alts,I c.shape.min,I c.shape.max,I c.shape.wall,I c.prio,Bo c.hasPrio,I c.time,Bo c.hasTime,depL c.after,I c.node,I c.nodes,I c.from_]])]) ?_ ?_
 ·clear hR;rintro ok hR;(try dsimp only at hR);refine Q63 (fun (ok1:Bool)=>Qe8 c ok1=R) (fun ok1=>[(1,AVal.ptr 0 0 18 0 0),(2,I 0),(3,Bo ok1)]) (fun ok1=>[(0,AObj.row 208 18 [[I c.kind,I c.job,Sg c.name,Sg c.user,Sg c.account,I c.shape.kind,altL c.shape.alts,I c.shape.min,I c.shape.max,I c.shape.wall,I c.prio,Bo c.hasPrio,I c.time,Bo c.hasTime,depL c.after,I c.node,I c.nodes,I c.from_]])]) ?_ ?_
  ·clear hR;rintro ok1 hR;(try dsimp only at hR);refine Q63 (fun (ok2:Bool)=>Qf8 ok2=R) (fun ok2=>[(2,I 0),(3,Bo ok2)]) (fun ok2=>[]) ?_ ?_
   ·clear hR;rintro ok2 hR;(try dsimp only at hR);refine ai (fun h1=>?_) (fun h2=>?_)
    ·obtain rfl:=foll hR (ct h1 rfl);exact Q30 lx sr
    ·obtain rfl:=foll hR (cf h2 rfl);exact Q30 lx sr
   ·refine ai (fun h3=>?_) (fun h4=>?_)
    ·(first|apply u2|apply u3|apply u4|apply us);exact Qu4 c.time 1 100000 _;exact Qz0 (ok1&&(QC1 c.time 1 100000)) (wk [] .nil (s1 (s1 .nil))) (foll hR (ct h3 rfl))
    ·exact Qz0 (ok1&&(c.time==0)) (wk [] .nil (s1 (s1 .nil))) (foll hR (cf h4 rfl))
  ·refine ai (fun h5=>?_) (fun h6=>?_)
   ·(first|apply u2|apply u3|apply u4|apply us);exact Qu4 c.prio 0 100 _;exact Qz0 (ok&&(QC1 c.prio 0 100)) (wk [0] (tO rfl (ts Cmd.lo) .nil) (sv (Q50 0 rfl rfl) (s1 (s1 .nil)))) (foll hR (ct h5 rfl))
   ·exact Qz0 (ok&&(c.prio==0)) (wk [0] (tO rfl (ts Cmd.lo) .nil) (sv (Q50 0 rfl rfl) (s1 (s1 .nil)))) (foll hR (cf h6 rfl))
 ·refine ai (fun h7=>?_) (fun h8=>?_)
  ·refine us (Qc6 c true false false true true true true szA _) ?_;(first|apply u2|apply u3|apply u4|apply us);exact Qjb c.name szA _;(first|apply u2|apply u3|apply u4|apply us);exact Qjb c.user szA _;(first|apply u2|apply u3|apply u4|apply us);exact Qjb c.account szA _;(first|apply u2|apply u3|apply u4|apply us);exact QQe c.user szA _;(first|apply u2|apply u3|apply u4|apply us);exact QQe c.account szA _;(first|apply u2|apply u3|apply u4|apply us);exact ref08_waits_c c.after szA _;(first|apply u2|apply u3|apply u4|apply us);exact QHd c.shape szA _;exact Qz0 ((((((((QX2 c true false false true true true true)&&(Q84 c.name))&&(Q84 c.user))&&(Q84 c.account))&&(Qt4 c.user))&&(Qt4 c.account))&&(Q67 c.after))&&((Q42 c.shape)==0)) (wk [0] (tO rfl (ts Cmd.lo) .nil) (sv (Q50 0 rfl rfl) (s1 (s1 .nil)))) (foll hR (ct h7 rfl))
  ·refine Q63 (fun (i:Bool)=>QH6 c i=R) (fun i=>[(1,AVal.ptr 0 0 18 0 0),(2,I 0),(3,Bo false),(5,I c.kind),(46,Bo i)]) (fun i=>[(0,AObj.row 208 18 [[I c.kind,I c.job,Sg c.name,Sg c.user,Sg c.account,I c.shape.kind,altL c.shape.alts,I c.shape.min,I c.shape.max,I c.shape.wall,I c.prio,Bo c.hasPrio,I c.time,Bo c.hasTime,depL c.after,I c.node,I c.nodes,I c.from_]])]) ?_ ?_
   ·clear hR;rintro i hR;(try dsimp only at hR);refine ai (fun h9=>?_) (fun h10=>?_)
    ·refine us (Qc6 c false true true true true true true szA _) ?_;(first|apply u2|apply u3|apply u4|apply us);exact Qu4 c.job 1 99999 _;exact Qz0 ((QX2 c false true true true true true true)&&(QC1 c.job 1 99999)) (wk [0] (tO rfl (ts Cmd.lo) .nil) (sv (Q50 0 rfl rfl) (s1 (s1 .nil)))) (foll hR (ct h9 rfl))
    ·refine ai (fun h11=>?_) (fun h12=>?_)
     ·refine us (Qc6 c false true true true true true true szA _) ?_;(first|apply u2|apply u3|apply u4|apply us);exact Qu4 c.job 0 99999 _;exact Qz0 ((QX2 c false true true true true true true)&&(QC1 c.job 0 99999)) (wk [0] (tO rfl (ts Cmd.lo) .nil) (sv (Q50 0 rfl rfl) (s1 (s1 .nil)))) (foll hR (cf h10 (ct h11 rfl)))
     ·refine ai (fun h13=>?_) (fun h14=>?_)
      ·refine us (Qc6 c false true false false true true true szA _) ?_;(first|apply u2|apply u3|apply u4|apply us);exact Qu4 c.job 1 99999 _;exact Qz0 (((QX2 c false true false false true true true)&&(QC1 c.job 1 99999))&&(c.hasPrio||c.hasTime)) (wk [0] (tO rfl (ts Cmd.lo) .nil) (sv (Q50 0 rfl rfl) (s1 (s1 .nil)))) (foll hR (cf h10 (cf h12 (ct h13 rfl))))
      ·refine ai (fun h15=>?_) (fun h16=>?_)
       ·refine us (Qc6 c false true true true true false true szA _) ?_;(first|apply u2|apply u3|apply u4|apply us);exact Qu4 c.job 1 99999 _;(first|apply u2|apply u3|apply u4|apply us);exact Qu4 c.nodes 1 48 _;exact Qz0 (((QX2 c false true true true true false true)&&(QC1 c.job 1 99999))&&(QC1 c.nodes 1 48)) (wk [0] (tO rfl (ts Cmd.lo) .nil) (sv (Q50 0 rfl rfl) (s1 (s1 .nil)))) (foll hR (cf h10 (cf h12 (cf h14 (ct h15 rfl)))))
       ·refine Q63 (fun (i1:Bool)=>Qd8 c i1=R) (fun i1=>[(1,AVal.ptr 0 0 18 0 0),(2,I 0),(3,Bo false),(5,I c.kind),(98,Bo i1)]) (fun i1=>[(0,AObj.row 208 18 [[I c.kind,I c.job,Sg c.name,Sg c.user,Sg c.account,I c.shape.kind,altL c.shape.alts,I c.shape.min,I c.shape.max,I c.shape.wall,I c.prio,Bo c.hasPrio,I c.time,Bo c.hasTime,depL c.after,I c.node,I c.nodes,I c.from_]])]) ?_ ?_
        ·clear hR;rintro i1 hR;(try dsimp only at hR);refine ai (fun h17=>?_) (fun h18=>?_)
         ·refine us (Qc6 c true true true true false true true szA _) ?_;(first|apply u2|apply u3|apply u4|apply us);exact Qu4 c.node 0 47 _;exact Qz0 ((QX2 c true true true true false true true)&&(QC1 c.node 0 47)) (wk [0] (tO rfl (ts Cmd.lo) .nil) (sv (Q50 0 rfl rfl) (s1 (s1 .nil)))) (foll hR (ct h17 rfl))
         ·refine ai (fun h19=>?_) (fun h20=>?_)
          ·refine us (Qc6 c true true true false true false false szA _) ?_;(first|apply u2|apply u3|apply u4|apply us);exact Qu4 c.from_ 0 1000000 _;(first|apply u2|apply u3|apply u4|apply us);exact Qu4 c.nodes 1 48 _;exact Qz0 ((((QX2 c true true true false true false false)&&(QC1 c.from_ 0 1000000))&&c.hasTime)&&(QC1 c.nodes 1 48)) (wk [0] (tO rfl (ts Cmd.lo) .nil) (sv (Q50 0 rfl rfl) (s1 (s1 .nil)))) (foll hR (cf h18 (ct h19 rfl)))
          ·exact Qz0 false (wk [0] (tO rfl (ts Cmd.lo) .nil) (sv (Q50 0 rfl rfl) (s1 (s1 .nil)))) (foll hR (cf h18 (cf h20 rfl)))
        ·refine ai (fun h21=>?_) (fun h22=>?_)
         ·exact Qz0 (c.kind==7) (wk [0] (tO rfl (ts Cmd.lo) .nil) (sv (Q50 0 rfl rfl) (s1 (s1 (s1 (s1 .nil)))))) (foll hR (cf h10 (cf h12 (cf h14 (cf h16 (ct h21 rfl))))))
         ·refine ai (fun h23=>?_) (fun h24=>?_)
          ·exact Qz0 (c.kind==8) (wk [0] (tO rfl (ts Cmd.lo) .nil) (sv (Q50 0 rfl rfl) (s1 (s1 (s1 (s1 .nil)))))) (foll hR (cf h10 (cf h12 (cf h14 (cf h16 (cf h22 (ct h23 rfl)))))))
          ·exact Qz0 (c.kind==9) (wk [0] (tO rfl (ts Cmd.lo) .nil) (sv (Q50 0 rfl rfl) (s1 (s1 (s1 (s1 .nil)))))) (foll hR (cf h10 (cf h12 (cf h14 (cf h16 (cf h22 (cf h24 rfl)))))))
   ·refine ai (fun h25=>?_) (fun h26=>?_)
    ·exact Qz0 (c.kind==2) (wk [0] (tO rfl (ts Cmd.lo) .nil) (sv (Q50 0 rfl rfl) (s1 (s1 (s1 (s1 .nil)))))) (foll hR (cf h8 (ct h25 rfl)))
    ·refine ai (fun h27=>?_) (fun h28=>?_)
     ·exact Qz0 (c.kind==3) (wk [0] (tO rfl (ts Cmd.lo) .nil) (sv (Q50 0 rfl rfl) (s1 (s1 (s1 (s1 .nil)))))) (foll hR (cf h8 (cf h26 (ct h27 rfl))))
     ·refine ai (fun h29=>?_) (fun h30=>?_)
      ·exact Qz0 (c.kind==4) (wk [0] (tO rfl (ts Cmd.lo) .nil) (sv (Q50 0 rfl rfl) (s1 (s1 (s1 (s1 .nil)))))) (foll hR (cf h8 (cf h26 (cf h28 (ct h29 rfl)))))
      ·exact Qz0 (c.kind==11) (wk [0] (tO rfl (ts Cmd.lo) .nil) (sv (Q50 0 rfl rfl) (s1 (s1 (s1 (s1 .nil)))))) (foll hR (cf h8 (cf h26 (cf h28 (cf h30 rfl)))))
end Go.Proofs.YtgjcljceccfgjaaGreatDoor
namespace Go.Proofs.YtgjcljceccfgjaaGreatDoor
set_option linter.unusedSimpArgs false
set_option linter.unusedVariables false
open Go.Fw
set_option maxRecDepth 20000
set_option maxHeartbeats 4000000
attribute [local irreducible] ACalls AMoves
def QY4 (c:Cmd):Int:=bif ((((decide ((c.shape.alts.length:Int) > 6))||(decide ((c.after.length:Int) > 4)))||(!(Q78 c)))||(!(Qka c (Q58 c)))) then 80 else 0
theorem QDf (c:Cmd) (hs0:c.sz):∀ objs,AGives Tryz.prog 154 [Cmd.a c] objs (I (QY4 c)):=by
 generalize hR:QY4 c=R;refine ga (.cons (Cmd.low _ _) .nil) lx (kp 3 [25]) Tryz.func154 ?_;have hk0:=hs0;obtain ⟨z3,z4,z5,z6,z7⟩:c.name.size<=4294967296∧c.user.size<=4294967296∧c.account.size<=4294967296∧(c.shape.alts.length<=4294967296)∧c.after.length<=4294967296:=hs0;refine dchk (by kernel_rfl) ?_;(first|apply u2|apply u3|apply u4|apply us);exact cmd_fits_c c (by first|(exact Q19 _ (by assumption))|exact szA) _;(first|apply u2|apply u3|apply u4|apply us);exact cmd_bare_c c (by first|(exact Q19 _ (by assumption))|exact szA) _;(first|apply u2|apply u3|apply u4|apply us);exact cmd_Same_c c (Q58 c) (by first|(exact Q19 _ (by assumption))|exact szA) (by first|(exact Q19 _ (by assumption))|exact szA) _;(repeat ((first|refine ai rfl ?_|refine ai (fun _=>rfl) ?_|refine ai (fun _=>cmd_fits_c c (by first|(exact Q19 _ (by assumption))|exact szA) _) ?_|refine ai (fun _=>cmd_bare_c c (by first|(exact Q19 _ (by assumption))|exact szA) _) ?_|refine ai (fun _=>cmd_Same_c c (Q58 c) (by first|(exact Q19 _ (by assumption))|exact szA) (by first|(exact Q19 _ (by assumption))|exact szA) _) ?_)));refine ai (fun h1=>?_) (fun h2=>?_)
 ·obtain rfl:=foll hR (ct h1 rfl);exact Q30 lx sr
 ·obtain rfl:=foll hR (cf h2 rfl);exact Q30 lx sr
def QI6 (j:Job):List Dep->Nat->Int
 | [],_=>bif (!(QK3 j)) then 140 else 0
 | x_ :: r,i=>bif (decide (x_.job >= j.id)) then 140 else QI6 j r (i+1)
def Qf9 (j:Job):Int:=bif (((((((Qb6 (⟨1,0,j.name,j.user,j.account,j.shape,j.prio,true,0,false,j.after,0,0,0⟩:Cmd))!=0)||(decide (j.id<1)))||(decide (j.id > 99999)))||(!(Qc2 j.born)))||(decide (j.used<0)))||(decide (j.used > 1000000000000))) then 140 else QI6 j j.after 0
theorem ref14_Check_c (j:Job) (hs0:j.sz):∀ objs,AGives Tryz.prog 147 [Job.a j] objs (I (Qf9 j)):=by
 generalize hR:Qf9 j=R;refine ga (.cons (Job.low _ _) .nil) lx (kp 5 [46,51,62,65]) Tryz.func147 ?_;have hk0:=hs0;obtain ⟨z9,z10,z11,z12,z13⟩:j.name.size<=4294967296∧j.user.size<=4294967296∧j.account.size<=4294967296∧(j.shape.alts.length<=4294967296)∧j.after.length<=4294967296:=hs0;refine us (ref08_Check_c (⟨1,0,j.name,j.user,j.account,j.shape,j.prio,true,0,false,j.after,0,0,0⟩:Cmd) szA _) ?_;(first|apply u2|apply u3|apply u4|apply us);exact Qp5 j.born _;refine ai (fun h1=>?_) (fun h2=>?_)
 ·obtain rfl:=foll hR (ct h1 rfl);exact Q30 lx sr
 ·refine Qw0 (fun (i:Nat)=>QI6 j (List.drop i j.after) i=R∧i<=j.after.length) (fun i=>j.after.length - i) (fun i=>[(1,AVal.ptr 0 0 20 0 0),(2,I 0),(4,I (i:Int))]) (fun i=>[(0,AObj.row 67 20 [[I j.id,Sg j.name,Sg j.user,Sg j.account,I j.shape.kind,altL j.shape.alts,I j.shape.min,I j.shape.max,I j.shape.wall,I j.prio,depL j.after,I j.state,Bo j.held,I j.born,I j.promise,I j.choice,I j.start,I j.limit,U j.nodes,I j.used]])]) 0 (wk [0] (tO rfl (ts Job.lo) .nil) (sv (Q50 0 rfl rfl) (s1 (s1 .nil)))) ⟨foll hR (cf h2 rfl),by exact omA⟩ ?_;clear hR;rintro i ⟨hR,hj⟩;(try dsimp only at hR hj);refine ai (fun h3=>?_) (fun h4=>?_)
  ·have hlt:=ltA h3;rw [Qo0 Dep.zero hlt] at hR;refine dchk (by kernel_rfl) ?_;refine ai gkA ?_;(repeat ((first|refine ai rfl ?_|refine ai (fun _=>rfl) ?_)));refine ai (fun h5=>?_) (fun h6=>?_)
   ·have qh5:=of_decide_eq_true h5;obtain rfl:=foll hR (ct h5 rfl);exact Q30 lx sr
   ·have qh6:=of_decide_eq_false h6;exact QA0 (i+1) (wk [0] (tO rfl (ts Job.lo) .nil) (sv (Q50 0 rfl rfl) (s1 (sv (Qt0 (I_eq (wr omA)) lx) .nil)))) omA ⟨foll hR (cf h6 rfl),by exact omA⟩
  ·rw [Qp0 (l:=j.after) (j:=i) (geA h4)] at hR;refine us (ref14_state_c j szA _) ?_;refine ai (fun h7=>?_) (fun h8=>?_)
   ·obtain rfl:=foll hR (ct h7 rfl);exact Q30 lx sr
   ·obtain rfl:=foll hR (cf h8 rfl);exact Q30 lx sr
end Go.Proofs.YtgjcljceccfgjaaGreatDoor
namespace Go.Proofs.YtgjcljceccfgjaaGreatDoor
set_option linter.unusedSimpArgs false
set_option linter.unusedVariables false
open Go.Fw
set_option maxRecDepth 20000
set_option maxHeartbeats 4000000
attribute [local irreducible] ACalls AMoves
def QA3 (j:Job):Int:=bif ((((((decide (j.id<1))||(decide (j.id > 99999)))||(!(QL2 j.born)))||(j.used != (Qo4 j.used)))||((QY4 (Qr0 j))!=0))||(QH0 j.after (fun (y:Dep)=>(decide (y.job >= j.id))))) then 140 else bif (j.state==1) then bif (!(QB3 j)) then 140 else 0 else bif (j.state==2) then bif (!(Qh3 j)) then 140 else 0 else bif (!(Qz7 j.state)) then 140 else bif (!(QP3 j)) then 140 else 0
theorem QSf (j:Job) (hs0:j.sz):∀ objs,AGives Tryz.prog 139 [Job.a j] objs (I (QA3 j)):=by
 generalize hR:QA3 j=R;refine ga (.cons (Job.low _ _) .nil) lx (kp 6 [42,45,51,57,64]) Tryz.func139 ?_;have hk0:=hs0;obtain ⟨z19,z20,z21,z22,z23⟩:j.name.size<=4294967296∧j.user.size<=4294967296∧j.account.size<=4294967296∧(j.shape.alts.length<=4294967296)∧j.after.length<=4294967296:=hs0;refine dchk (by kernel_rfl) ?_;(first|apply u2|apply u3|apply u4|apply us);exact Qg7 j.born _;(first|apply u2|apply u3|apply u4|apply us);exact QEa j.used _;(first|apply u2|apply u3|apply u4|apply us);exact Qq8 j _;(first|apply u2|apply u3|apply u4|apply us);exact QDf (Qr0 j) szA _;have cl1:∀ (y1:Dep),AMoves Tryz.prog 152 [Dep.a y1,AVal.ptr 0 0 20 0 0] [(0,AObj.row 67 20 [[I j.id,Sg j.name,Sg j.user,Sg j.account,I j.shape.kind,altL j.shape.alts,I j.shape.min,I j.shape.max,I j.shape.wall,I j.prio,depL j.after,I j.state,Bo j.held,I j.born,I j.promise,I j.choice,I j.start,I j.limit,U j.nodes,I j.used]])] 1 (Bo ((fun (y:Dep)=>(decide (y.job >= j.id))) y1)) [(0,AObj.row 67 20 [[I j.id,Sg j.name,Sg j.user,Sg j.account,I j.shape.kind,altL j.shape.alts,I j.shape.min,I j.shape.max,I j.shape.wall,I j.prio,depL j.after,I j.state,Bo j.held,I j.born,I j.promise,I j.choice,I j.start,I j.limit,U j.nodes,I j.used]])]:=by
  intro y1;have hR:(fun (y:Dep)=>(decide (y.job >= j.id))) y1=(fun (y:Dep)=>(decide (y.job >= j.id))) y1:=rfl;refine mo (kp 4 []) Tryz.func152 ?_;refine Q41 (fun r:Bool=>Bo r) (fun _=>[(0,AObj.row 67 20 [[I j.id,Sg j.name,Sg j.user,Sg j.account,I j.shape.kind,altL j.shape.alts,I j.shape.min,I j.shape.max,I j.shape.wall,I j.prio,depL j.after,I j.state,Bo j.held,I j.born,I j.promise,I j.choice,I j.start,I j.limit,U j.nodes,I j.used]])]) (leaf:=(decide (y1.job >= j.id))) (foll hR rfl) ?_;exact tt [0] (tO rfl (ts Job.lo) .nil) t1
 have hof1:AMoves Tryz.prog 156 [depL j.after,AVal.fn (.func 152) [] [AVal.ptr 0 0 20 0 0]] [(0,AObj.row 67 20 [[I j.id,Sg j.name,Sg j.user,Sg j.account,I j.shape.kind,altL j.shape.alts,I j.shape.min,I j.shape.max,I j.shape.wall,I j.prio,depL j.after,I j.state,Bo j.held,I j.born,I j.promise,I j.choice,I j.start,I j.limit,U j.nodes,I j.used]])] 1 (Bo (QH0 j.after (fun (y:Dep)=>(decide (y.job >= j.id))))) [(0,AObj.row 67 20 [[I j.id,Sg j.name,Sg j.user,Sg j.account,I j.shape.kind,altL j.shape.alts,I j.shape.min,I j.shape.max,I j.shape.wall,I j.prio,depL j.after,I j.state,Bo j.held,I j.born,I j.promise,I j.choice,I j.start,I j.limit,U j.nodes,I j.used]])]:=by
  have hR:QH0 j.after (fun (y:Dep)=>(decide (y.job >= j.id)))=QH0 j.after (fun (y:Dep)=>(decide (y.job >= j.id))):=rfl;refine mo (kp 5 []) Tryz.func156 ?_;have hof2:AMoves Tryz.prog 168 [depL j.after,AVal.fn (.func 152) [] [AVal.ptr 0 0 20 0 0]] [(0,AObj.row 67 20 [[I j.id,Sg j.name,Sg j.user,Sg j.account,I j.shape.kind,altL j.shape.alts,I j.shape.min,I j.shape.max,I j.shape.wall,I j.prio,depL j.after,I j.state,Bo j.held,I j.born,I j.promise,I j.choice,I j.start,I j.limit,U j.nodes,I j.used]])] 1 (I (Qr1 j.after (fun (y:Dep)=>(decide (y.job >= j.id))))) [(0,AObj.row 67 20 [[I j.id,Sg j.name,Sg j.user,Sg j.account,I j.shape.kind,altL j.shape.alts,I j.shape.min,I j.shape.max,I j.shape.wall,I j.prio,depL j.after,I j.state,Bo j.held,I j.born,I j.promise,I j.choice,I j.start,I j.limit,U j.nodes,I j.used]])]:=by
   have hR:Qr1 j.after (fun (y:Dep)=>(decide (y.job >= j.id)))=Qr1 j.after (fun (y:Dep)=>(decide (y.job >= j.id))):=rfl;refine mo (kp 6 [7,8,9,16]) Tryz.func168 ?_;refine Qw0 (fun (i:Nat)=>QT3 (fun (y:Dep)=>(decide (y.job >= j.id))) (List.drop i j.after) i=Qr1 j.after (fun (y:Dep)=>(decide (y.job >= j.id)))∧i<=j.after.length) (fun i=>j.after.length - i) (fun i=>[(0,depL j.after),(1,AVal.fn (.func 152) [] [AVal.ptr 0 0 20 0 0]),(4,I 0),(7,I (j.after.length:Int)),(8,I (i:Int))]) (fun i=>[(0,AObj.row 67 20 [[I j.id,Sg j.name,Sg j.user,Sg j.account,I j.shape.kind,altL j.shape.alts,I j.shape.min,I j.shape.max,I j.shape.wall,I j.prio,depL j.after,I j.state,Bo j.held,I j.born,I j.promise,I j.choice,I j.start,I j.limit,U j.nodes,I j.used]])]) 0 (wk [0] (tO rfl (ts Job.lo) .nil) (sl lw (sv (Q51 .nil (cv (Q50 0 rfl rfl) .nil)) (s1 (s1 (s1 .nil)))))) ⟨foll hR rfl,by exact omA⟩ ?_;clear hR;rintro i ⟨hR,hj⟩;(try dsimp only at hR hj);refine ai (fun h1=>?_) (fun h2=>?_)
   ·have hlt:=ltA h1;rw [Qo0 Dep.zero hlt] at hR;refine ai gkA ?_;refine us (mv [0] (cl1 (j.after.getD i Dep.zero)) (dO (ds Job.lo) .nil) (dl (Dep.low _ _) (dp .nil)) (rO (re Job.lo) .nil) rx) ?_;refine ai (fun h3=>?_) (fun h4=>?_)
    ·refine Q41 (fun r:Int=>I r) (fun r:Int=>[(0,AObj.row 67 20 [[I j.id,Sg j.name,Sg j.user,Sg j.account,I j.shape.kind,altL j.shape.alts,I j.shape.min,I j.shape.max,I j.shape.wall,I j.prio,depL j.after,I j.state,Bo j.held,I j.born,I j.promise,I j.choice,I j.start,I j.limit,U j.nodes,I j.used]])]) (leaf:=(i:Int)) (foll hR (ct h3 rfl)) ?_;exact tt [0] (tO rfl (ts Job.lo) .nil) t1
    ·exact QA0 (i+1) (wk [0] (tO rfl (ts Job.lo) .nil) (sl lw (sv (Q51 .nil (cv (Q50 0 rfl rfl) .nil)) (s1 (s1 (sv (Qt0 (I_eq (wr omA)) lx) .nil)))))) omA ⟨foll hR (cf h4 rfl),by exact omA⟩
   ·rw [Qp0 (l:=j.after) (j:=i) (geA h2)] at hR;refine Q41 (fun r:Int=>I r) (fun r:Int=>[(0,AObj.row 67 20 [[I j.id,Sg j.name,Sg j.user,Sg j.account,I j.shape.kind,altL j.shape.alts,I j.shape.min,I j.shape.max,I j.shape.wall,I j.prio,depL j.after,I j.state,Bo j.held,I j.born,I j.promise,I j.choice,I j.start,I j.limit,U j.nodes,I j.used]])]) (leaf:=(-1)) (foll hR rfl) ?_;exact tt [0] (tO rfl (ts Job.lo) .nil) t1
  refine us (mv [0] (hof2) (dO (ds Job.lo) .nil) (dl lw (dv (dn_fn .nil (dp .nil)) .nil)) (rO (re Job.lo) .nil) rx) ?_;refine Q41 (fun r:Bool=>Bo r) (fun r:Bool=>[(0,AObj.row 67 20 [[I j.id,Sg j.name,Sg j.user,Sg j.account,I j.shape.kind,altL j.shape.alts,I j.shape.min,I j.shape.max,I j.shape.wall,I j.prio,depL j.after,I j.state,Bo j.held,I j.born,I j.promise,I j.choice,I j.start,I j.limit,U j.nodes,I j.used]])]) (leaf:=(decide ((Qr1 j.after (fun (y:Dep)=>(decide (y.job >= j.id)))) >= 0))) (foll hR rfl) ?_;exact tt [0] (tO rfl (ts Job.lo) .nil) t1
 (first|apply u2|apply u3|apply u4|apply us);exact mv [0] (hof1) (dO (ds Job.lo) .nil) (dl lw (dv (dn_fn .nil (dp .nil)) .nil)) (rO (re Job.lo) .nil) rx;(repeat ((first|refine ai rfl ?_|refine ai (fun _=>rfl) ?_|refine ai (fun _=>Qg7 j.born _) ?_|refine ai (fun _=>QEa j.used _) ?_|refine ai (fun _=>Qq8 j _) ?_|refine ai (fun _=>QDf (Qr0 j) szA _) ?_)));refine ai (fun h5=>?_) (fun h6=>?_)
 ·obtain rfl:=foll hR (ct h5 rfl);exact Q30 lx sr
 ·refine ai (fun h7=>?_) (fun h8=>?_)
  ·refine us (Qfe j szA _) ?_;refine ai (fun h9=>?_) (fun h10=>?_)
   ·obtain rfl:=foll hR (cf h6 (ct h7 (ct h9 rfl)));exact Q30 lx sr
   ·obtain rfl:=foll hR (cf h6 (ct h7 (cf h10 rfl)));exact Q30 lx sr
  ·refine ai (fun h11=>?_) (fun h12=>?_)
   ·refine us (Qqd j szA _) ?_;refine ai (fun h13=>?_) (fun h14=>?_)
    ·obtain rfl:=foll hR (cf h6 (cf h8 (ct h11 (ct h13 rfl))));exact Q30 lx sr
    ·obtain rfl:=foll hR (cf h6 (cf h8 (ct h11 (cf h14 rfl))));exact Q30 lx sr
   ·refine us (job_ended_c j.state _) ?_;refine ai (fun h15=>?_) (fun h16=>?_)
    ·obtain rfl:=foll hR (cf h6 (cf h8 (cf h12 (ct h15 rfl))));exact Q30 lx sr
    ·refine us (QUf j _) ?_;refine ai (fun h17=>?_) (fun h18=>?_)
     ·obtain rfl:=foll hR (cf h6 (cf h8 (cf h12 (cf h16 (ct h17 rfl)))));exact Q30 lx sr
     ·obtain rfl:=foll hR (cf h6 (cf h8 (cf h12 (cf h16 (cf h18 rfl)))));exact Q30 lx sr
def QJ6 :List Job->Int->Nat->Int
 | [],_,_=>0
 | x_ :: r,last,i=>bif ((((i:Int)==40)||((Qf9 x_)!=0))||(decide (x_.id<=last))) then 140 else QJ6 r x_.id (i+1)
def Qg9 (l:List Job):Int:=QJ6 l 0 0
theorem ref15_Check_c (l:List Job) (hs0:l.length<=4294967296∧(∀ y ∈ l,y.sz)):∀ objs,AGives Tryz.prog 128 [jobL l] objs (I (Qg9 l)):=by
 generalize hR:Qg9 l=R;refine ga (.cons lw .nil) lx (kp 5 [8,29]) Tryz.func128 ?_;have hk0:=hs0;obtain ⟨z10,z11⟩:l.length<=4294967296∧(∀ y ∈ l,y.sz):=hs0;refine Qq0 (fun (last:Int) (i:Nat)=>QJ6 (List.drop i l) last i=R∧i<=l.length) (fun last i=>l.length - i) (fun last i=>[(0,jobL l),(2,I 0),(3,I last),(4,I (i:Int))]) (fun last i=>[]) 0 0 (wk [] .nil (sl lw (s1 (s1 (s1 .nil))))) ⟨foll hR rfl,by exact omA⟩ ?_;clear hR;rintro last i ⟨hR,hj⟩;(try dsimp only at hR hj);refine ai (fun h1=>?_) (fun h2=>?_)
 ·have hlt:=ltA h1;rw [Qo0 Job.zero hlt] at hR;have hxz:(l.getD i Job.zero).sz:=QD4 (by first|assumption|grind) (Job.szz _);have hkz:=hxz;obtain ⟨z3,z4,z5,z6,z7⟩:((l.getD i Job.zero).name).size<=4294967296∧((l.getD i Job.zero).user).size<=4294967296∧((l.getD i Job.zero).account).size<=4294967296∧((((l.getD i Job.zero).shape).alts).length<=4294967296)∧((l.getD i Job.zero).after).length<=4294967296:=hxz;refine ai gkA ?_;(first|apply u2|apply u3|apply u4|apply us);exact ref14_Check_c (l.getD i Job.zero) szA _;refine ai gkA ?_;refine ai (fun h8=>?_) (fun h9=>?_)
  ·obtain rfl:=foll hR (ct h8 rfl);exact Q30 lx sr
  ·refine ai gkA ?_;exact Qm0 ((l.getD i Job.zero).id) (i+1) (wk [] .nil (sl lw (s1 (s1 (sv (Qt0 (I_eq (wr omA)) lx) .nil))))) omA ⟨foll hR (cf h9 rfl),by exact omA⟩
 ·rw [Qp0 (l:=l) (j:=i) (geA h2)] at hR;obtain rfl:=foll hR rfl;exact Q30 lx sr
end Go.Proofs.YtgjcljceccfgjaaGreatDoor
namespace Go.Proofs.YtgjcljceccfgjaaGreatDoor
set_option linter.unusedSimpArgs false
set_option linter.unusedVariables false
open Go.Fw
set_option maxRecDepth 20000
set_option maxHeartbeats 4000000
attribute [local irreducible] ACalls AMoves
def QU5 (l:List Job):List Job->Nat->Int
 | [],_=>0
 | x_ :: r,i=>bif (((QA3 x_)!=0)||((decide ((i:Int) > 0))&&(decide ((l.getD (Int.toNat (w64 ((i:Int) - 1))) Job.zero).id >= x_.id)))) then 140 else QU5 l r (i+1)
def QR4 (l:List Job):Int:=bif (decide ((l.length:Int) > 40)) then 140 else QU5 l l 0
theorem table_Check_c (l:List Job) (hs0:l.length<=4294967296∧(∀ y ∈ l,y.sz)):∀ objs,AGives Tryz.prog 114 [jobL l] objs (I (QR4 l)):=by
 generalize hR:QR4 l=R;refine ga (.cons lw .nil) lx (kp 5 [7,8,9,10,11,32]) Tryz.func114 ?_;have hk0:=hs0;obtain ⟨z12,z13⟩:l.length<=4294967296∧(∀ y ∈ l,y.sz):=hs0;refine ai (fun h1=>?_) (fun h2=>?_)
 ·have qh1:=of_decide_eq_true h1;obtain rfl:=foll hR (ct h1 rfl);exact Q30 lx sr
 ·have qh2:=of_decide_eq_false h2;refine Qw0 (fun (i:Nat)=>QU5 l (List.drop i l) i=R∧i<=l.length) (fun i=>l.length - i) (fun i=>[(0,jobL l),(2,I 0),(8,jobL l),(9,I (l.length:Int)),(10,I (i:Int))]) (fun i=>[]) 0 (wk [] .nil (sl lw (s1 (sl lw (s1 (s1 .nil)))))) ⟨foll hR (cf h2 rfl),by exact omA⟩ ?_;clear hR;rintro i ⟨hR,hj⟩;(try dsimp only at hR hj);refine ai (fun h3=>?_) (fun h4=>?_)
  ·have hlt:=ltA h3;rw [Qo0 Job.zero hlt] at hR;have hxz:(l.getD i Job.zero).sz:=QD4 (by first|assumption|grind) (Job.szz _);have hkz:=hxz;obtain ⟨z5,z6,z7,z8,z9⟩:((l.getD i Job.zero).name).size<=4294967296∧((l.getD i Job.zero).user).size<=4294967296∧((l.getD i Job.zero).account).size<=4294967296∧((((l.getD i Job.zero).shape).alts).length<=4294967296)∧((l.getD i Job.zero).after).length<=4294967296:=hxz;refine ai gkA ?_;refine dchk (by kernel_rfl) ?_;(first|apply u2|apply u3|apply u4|apply us);exact QSf (l.getD i Job.zero) szA _;refine ai gkA ?_;(repeat ((first|refine ai rfl ?_|refine ai (fun _=>rfl) ?_|refine ai (fun _=>QSf (l.getD i Job.zero) szA _) ?_)));refine ai (fun h10=>?_) (fun h11=>?_)
   ·obtain rfl:=foll hR (ct h10 rfl);exact Q30 lx sr
   ·exact QA0 (i+1) (wk [] .nil (sl lw (s1 (sl lw (s1 (sv (Qt0 (I_eq (wr omA)) lx) .nil)))))) omA ⟨foll hR (cf h11 rfl),by exact omA⟩
  ·rw [Qp0 (l:=l) (j:=i) (geA h4)] at hR;obtain rfl:=foll hR rfl;exact Q30 lx sr
def Qj9 (s:State):Int:=bif ((((!(Qc2 s.now))||((Qe6 s.nodes)!=0))||((Qg9 s.jobs)!=0))||((Qi9 s.books)!=0)) then 141 else 0
theorem ref20_Check_c (s:State) (hs0:s.sz):∀ objs,AGives Tryz.prog 97 [State.a s] objs (I (Qj9 s)):=by
 generalize hR:Qj9 s=R;refine ga (.cons (State.low _ _) .nil) lx (kp 3 [24]) Tryz.func97 ?_;have hk0:=hs0;obtain ⟨z3,z4,z5,z6,z7,z8,z9⟩:=hs0;refine us (Qp5 s.now _) ?_;(first|apply u2|apply u3|apply u4|apply us);exact QId s.nodes szA _;(first|apply u2|apply u3|apply u4|apply us);exact ref15_Check_c s.jobs szA _;(first|apply u2|apply u3|apply u4|apply us);exact ref19_Check_c s.books szA _;refine ai (fun h1=>?_) (fun h2=>?_)
 ·obtain rfl:=foll hR (ct h1 rfl);exact Q30 lx sr
 ·obtain rfl:=foll hR (cf h2 rfl);exact Q30 lx sr
end Go.Proofs.YtgjcljceccfgjaaGreatDoor
namespace Go.Proofs.YtgjcljceccfgjaaGreatDoor
set_option linter.unusedSimpArgs false
set_option linter.unusedVariables false
open Go.Fw
set_option maxRecDepth 20000
set_option maxHeartbeats 4000000
attribute [local irreducible] ACalls AMoves
def Qm5 (s:State):Int:=bif (((((decide (s.now<0))||(decide (s.now > 1000000)))||((QI1 s.nodes)!=0))||((QR4 s.jobs)!=0))||((QD5 s.books)!=0)) then 141 else 0
theorem room_Check_c (s:State) (hs0:s.sz):∀ objs,AGives Tryz.prog 86 [State.a s] objs (I (Qm5 s)):=by
 generalize hR:Qm5 s=R;refine ga (.cons (State.low _ _) .nil) lx (kp 3 [28]) Tryz.func86 ?_;have hk0:=hs0;obtain ⟨z3,z4,z5,z6,z7,z8,z9⟩:=hs0;(first|apply u2|apply u3|apply u4|apply us);exact Qpa s.nodes szA _;(first|apply u2|apply u3|apply u4|apply us);exact table_Check_c s.jobs szA _;(first|apply u2|apply u3|apply u4|apply us);exact book_Check_c s.books szA _;refine ai (fun h1=>?_) (fun h2=>?_)
 ·obtain rfl:=foll hR (ct h1 rfl);exact Q30 lx sr
 ·obtain rfl:=foll hR (cf h2 rfl);exact Q30 lx sr
def Qh6 (s:State):Int:=bif (((Qj9 s)!=0)||((Qh9 s.ledger)!=0)) then 141 else 0
theorem ref21_Check_c (s:State) (hs0:s.sz):∀ objs,AGives Tryz.prog 69 [State.a s] objs (I (Qh6 s)):=by
 generalize hR:Qh6 s=R;refine ga (.cons (State.low _ _) .nil) lx (kp 3 [11]) Tryz.func69 ?_;have hk0:=hs0;obtain ⟨z3,z4,z5,z6,z7,z8,z9⟩:=hs0;refine us (ref20_Check_c s szA _) ?_;(first|apply u2|apply u3|apply u4|apply us);exact ref17_Check_c s.ledger szA _;refine ai (fun h1=>?_) (fun h2=>?_)
 ·obtain rfl:=foll hR (ct h1 rfl);exact Q30 lx sr
 ·obtain rfl:=foll hR (cf h2 rfl);exact Q30 lx sr
end Go.Proofs.YtgjcljceccfgjaaGreatDoor
namespace Go.Proofs.YtgjcljceccfgjaaGreatDoor
set_option linter.unusedSimpArgs false
set_option linter.unusedVariables false
open Go.Fw
set_option maxRecDepth 20000
set_option maxHeartbeats 4000000
attribute [local irreducible] ACalls AMoves
def QH3 (s:State):Int:=bif (((Qm5 s)!=0)||((QY3 s.ledger)!=0)) then 141 else 0
theorem plan_Check_c (s:State) (hs0:s.sz):∀ objs,AGives Tryz.prog 56 [State.a s] objs (I (QH3 s)):=by
 generalize hR:QH3 s=R;refine ga (.cons (State.low _ _) .nil) lx (kp 3 [11]) Tryz.func56 ?_;have hk0:=hs0;obtain ⟨z3,z4,z5,z6,z7,z8,z9⟩:=hs0;refine us (room_Check_c s szA _) ?_;(first|apply u2|apply u3|apply u4|apply us);exact ledger_Check_c s.ledger szA _;refine ai (fun h1=>?_) (fun h2=>?_)
 ·obtain rfl:=foll hR (ct h1 rfl);exact Q30 lx sr
 ·obtain rfl:=foll hR (cf h2 rfl);exact Q30 lx sr
theorem u3g {P:Program} {f:FuncId} {args:List AVal} {objs:Objs} {r:AVal} {g:Bool} {K:AVal->Objs->Prop} (h:g=true->ACalls P f args objs fun a b=>a=r∧b=objs) (k:K r objs):∃ r' o',(g=true->ACalls P f args objs (fun a b=>a=r'∧b=o'))∧(g=false->o'=objs)∧K r' o':=⟨r,objs,h,fun _=>rfl,k⟩
theorem setM_sz (k:Int) (v:Job):∀ (l:List (Int × Job)),(∀ y ∈ l,y.2.sz)->v.sz -> ∀ y ∈ setM k v l,y.2.sz
 | [],_,hv,y,hy=>by
  rw [setM,List.mem_singleton] at hy
  subst hy
  exact hv
 | p :: r,h,hv,y,hy=>by
  rw [setM] at hy
  cases hk:(k==p.1) with
  | true =>
   rw [hk] at hy
   rcases List.mem_cons.1 hy with rfl|hy
   ·exact hv
   ·exact h y (List.mem_cons_of_mem _ hy)
  | false =>
   rw [hk] at hy
   rcases List.mem_cons.1 hy with rfl|hy
   ·exact h _ (List.mem_cons_self ..)
   ·exact setM_sz k v r (fun z hz=>h z (List.mem_cons_of_mem _ hz)) hv y hy
theorem QXa (k:Int):∀ (l:List (Int × Job)),(∀ y ∈ l,y.2.sz)->((getM k l).getD Job.zero).sz
 | [],_=>Job.szz _
 | p :: r,h=>by
  rw [getM]
  cases (k==p.1) with
  | true=>exact h p (List.mem_cons_self ..)
  | false=>exact QXa k r fun z hz=>h z (List.mem_cons_of_mem _ hz)
def Qd2 :List Job->Int->Nat->Int × Nat
 | [],last,i=>(last,i)
 | x_ :: r,_,i=>Qd2 r x_.id (i+1)
def QK4 :List Book->Int->Nat->Int × Nat
 | [],final,i1=>(final,i1)
 | x_1 :: r,_,i1=>QK4 r x_1.id (i1+1)
def QL4 (s:State):Nat->Bool->Nat->Bool × Nat
 | 0,_,_=>(false,0)
 | m+1,ok,i2=>bif ((decide ((i2:Int)<(s.resizes.length:Int)))&&ok) then QL4 s m ((QZ2 s (s.resizes.getD i2 Resize.zero))&&(((i2:Int)==0)||(decide ((s.resizes.getD (Int.toNat (w64 ((i2:Int) - 1))) Resize.zero).job<(s.resizes.getD i2 Resize.zero).job)))) (i2+1) else (ok,i2)
def QM4 (s:State):Nat->Bool->Nat->Bool × Nat
 | 0,_,_=>(false,0)
 | m+1,ok1,n=>bif ((decide ((n:Int)<(s.nodes.length:Int)))&&ok1) then QM4 s m (QP5 s (n:Int)) (n+1) else (ok1,n)
def QN4 (s:State):Nat->Bool->Nat->Bool × Nat
 | 0,_,_=>(false,0)
 | m+1,ok2,i3=>bif ((decide ((i3:Int)<(s.jobs.length:Int)))&&ok2) then QN4 s m (((s.jobs.getD i3 Job.zero).state != 2)||((Qh8 s.nodes ((s.jobs.getD i3 Job.zero).id) 1)==(s.jobs.getD i3 Job.zero).nodes)) (i3+1) else (ok2,i3)
def QN5 (ok2:Bool) (i3:Nat):Int:=bif (!ok2) then 141 else 0
def QM5 (s:State) (ok1:Bool) (n:Nat):Int:=QN5 ((QN4 s ((Int.toNat ((s.jobs.length:Int) - (0:Int)))+1) ok1 0).1) ((QN4 s ((Int.toNat ((s.jobs.length:Int) - (0:Int)))+1) ok1 0).2)
def QL5 (s:State) (ok:Bool) (i2:Nat):Int:=QM5 s ((QM4 s ((Int.toNat ((s.nodes.length:Int) - (0:Int)))+1) ok 0).1) ((QM4 s ((Int.toNat ((s.nodes.length:Int) - (0:Int)))+1) ok 0).2)
def QK5 (s:State) (last:Int) (final:Int) (i1:Nat):Int:=QL5 s ((QL4 s ((Int.toNat ((s.resizes.length:Int) - (0:Int)))+1) ((QO5 s.nextJob last)&&(QO5 s.nextBook final)) 0).1) ((QL4 s ((Int.toNat ((s.resizes.length:Int) - (0:Int)))+1) ((QO5 s.nextJob last)&&(QO5 s.nextBook final)) 0).2)
def Qx3 (s:State) (last:Int) (i:Nat):Int:=QK5 s last ((QK4 s.books 0 0).1) ((QK4 s.books 0 0).2)
def Ql2 (s:State):Int:=bif ((Qh6 s)!=0) then 141 else Qx3 s ((Qd2 s.jobs 0 0).1) ((Qd2 s.jobs 0 0).2)
theorem ref25_Check_c (s:State) (hs0:s.sz):∀ objs,AGives Tryz.prog 31 [State.a s] objs (I (Ql2 s)):=by
 generalize hR:Ql2 s=R;refine ga (.cons (State.low _ _) .nil) lx (kp 11 [13,18,31,57,94,107,136]) Tryz.func31 ?_;have hk0:=hs0;obtain ⟨z20,z21,z22,z23,z24,z25,z26⟩:=hs0;refine us (ref21_Check_c s szA _) ?_;refine ai (fun h1=>?_) (fun h2=>?_)
 ·obtain rfl:=foll hR (ct h1 rfl);exact Q30 lx sr
 ·refine Qq0 (fun (last:Int) (i:Nat)=>Qx3 s (Qd2 (List.drop i s.jobs) last i).1 (Qd2 (List.drop i s.jobs) last i).2=R∧i<=s.jobs.length) (fun last i=>s.jobs.length - i) (fun last i=>[(1,AVal.ptr 0 0 8 0 0),(2,I 0),(3,I last),(4,I 0),(5,I (i:Int))]) (fun last i=>[(0,AObj.row 28 8 [[I s.now,nodeL s.nodes,jobL s.jobs,Qi2 s.resizes,bookL s.books,QO2 s.ledger,I s.nextJob,I s.nextBook]])]) 0 0 (wk [0] (tO rfl (ts State.lo) .nil) (sv (Q50 0 rfl rfl) (s1 (s1 (s1 (s1 .nil)))))) ⟨foll hR (cf h2 rfl),by exact omA⟩ ?_;clear hR;rintro last i ⟨hR,hj⟩;(try dsimp only at hR hj);refine ai (fun h3=>?_) (fun h4=>?_)
  ·have hlt:=ltA h3;rw [Qo0 Job.zero hlt] at hR;have hxz:(s.jobs.getD i Job.zero).sz:=QD4 (by first|assumption|grind) (Job.szz _);have hkz:=hxz;obtain ⟨z5,z6,z7,z8,z9⟩:((s.jobs.getD i Job.zero).name).size<=4294967296∧((s.jobs.getD i Job.zero).user).size<=4294967296∧((s.jobs.getD i Job.zero).account).size<=4294967296∧((((s.jobs.getD i Job.zero).shape).alts).length<=4294967296)∧((s.jobs.getD i Job.zero).after).length<=4294967296:=hxz;refine ai gkA ?_;exact Qm0 ((s.jobs.getD i Job.zero).id) (i+1) (wk [0] (tO rfl (ts State.lo) .nil) (sv (Q50 0 rfl rfl) (s1 (s1 (s1 (sv (Qt0 (I_eq (wr omA)) lx) .nil)))))) omA ⟨foll hR (congrArg (fun p:Int × Nat=>Qx3 s p.1 p.2) rfl),by exact omA⟩
  ·rw [Qp0 (l:=s.jobs) (j:=i) (geA h4)] at hR;replace hR:Qx3 s last i=R:=fo2 (fun p:Int × Nat=>Qx3 s p.1 p.2) (last,i) hR rfl;refine Qq0 (fun (final:Int) (i1:Nat)=>QK5 s last (QK4 (List.drop i1 s.books) final i1).1 (QK4 (List.drop i1 s.books) final i1).2=R∧i1<=s.books.length) (fun final i1=>s.books.length - i1) (fun final i1=>[(1,AVal.ptr 0 0 8 0 0),(2,I 0),(3,I last),(4,I final),(6,I (i1:Int))]) (fun final i1=>[(0,AObj.row 28 8 [[I s.now,nodeL s.nodes,jobL s.jobs,Qi2 s.resizes,bookL s.books,QO2 s.ledger,I s.nextJob,I s.nextBook]])]) 0 0 (wk [0] (tO rfl (ts State.lo) .nil) (sv (Q50 0 rfl rfl) (s1 (s1 (s1 (s1 .nil)))))) ⟨foll hR rfl,by exact omA⟩ ?_;clear hR;rintro final i1 ⟨hR,hj⟩;(try dsimp only at hR hj);refine ai (fun h10=>?_) (fun h11=>?_)
   ·have hlt:=ltA h10;rw [Qo0 Book.zero hlt] at hR;refine ai gkA ?_;exact Qm0 ((s.books.getD i1 Book.zero).id) (i1+1) (wk [0] (tO rfl (ts State.lo) .nil) (sv (Q50 0 rfl rfl) (s1 (s1 (s1 (sv (Qt0 (I_eq (wr omA)) lx) .nil)))))) omA ⟨foll hR (congrArg (fun p:Int × Nat=>QK5 s last p.1 p.2) rfl),by exact omA⟩
   ·rw [Qp0 (l:=s.books) (j:=i1) (geA h11)] at hR;replace hR:QK5 s last final i1=R:=fo2 (fun p:Int × Nat=>QK5 s last p.1 p.2) (final,i1) hR rfl;refine us (QUe s.nextJob last _) ?_;(first|apply u2|apply u3|apply u4|apply us);exact QUe s.nextBook final _;refine Qq0 (fun (ok:Bool) (i2:Nat)=>∃ m,(Int.toNat ((s.resizes.length:Int) - (i2:Int)))<m∧QL5 s (QL4 s m ok i2).1 (QL4 s m ok i2).2=R∧(i2:Int)<=(s.resizes.length:Int)) (fun ok i2=>(Int.toNat ((s.resizes.length:Int) - (i2:Int)))) (fun ok i2=>[(1,AVal.ptr 0 0 8 0 0),(2,I 0),(7,Bo ok),(8,I (i2:Int))]) (fun ok i2=>[(0,AObj.row 28 8 [[I s.now,nodeL s.nodes,jobL s.jobs,Qi2 s.resizes,bookL s.books,QO2 s.ledger,I s.nextJob,I s.nextBook]])]) ((QO5 s.nextJob last)&&(QO5 s.nextBook final)) 0 (wk [0] (tO rfl (ts State.lo) .nil) (sv (Q50 0 rfl rfl) (s1 (s1 (s1 .nil))))) ⟨_,Nat.lt_succ_self _,foll hR rfl,by exact exA⟩ ?_;clear hR;rintro ok i2 ⟨m,hm,hR,hx⟩;(try dsimp only at hR hm hx);obtain ⟨m,rfl⟩:=sucA m;refine ai (fun h12=>?_) (fun h13=>?_)
    ·refine dchk (by kernel_rfl) ?_;refine ai gkA ?_;(first|apply u2|apply u3|apply u4|apply us);exact Qic s (s.resizes.getD i2 Resize.zero) szA _;refine ai gkA ?_;refine ai gkA ?_;(repeat ((first|refine ai rfl ?_|refine ai (fun _=>rfl) ?_|refine ai (fun _=>Qic s (s.resizes.getD i2 Resize.zero) szA _) ?_)));exact Qm0 ((QZ2 s (s.resizes.getD i2 Resize.zero))&&(((i2:Int)==0)||(decide ((s.resizes.getD (Int.toNat (w64 ((i2:Int) - 1))) Resize.zero).job<(s.resizes.getD i2 Resize.zero).job)))) (i2+1) (wk [0] (tO rfl (ts State.lo) .nil) (sv (Q50 0 rfl rfl) (s1 (s1 (sv (Qt0 (I_eq (wr omA)) lx) .nil))))) omA ⟨m,by exact omA,foll hR (congrArg (fun p:Bool × Nat=>QL5 s p.1 p.2) (ct h12 rfl)),by exact exA⟩
    ·replace hR:QL5 s ok i2=R:=fo2 (fun p:Bool × Nat=>QL5 s p.1 p.2) (ok,i2) hR (cf h13 rfl);refine Qq0 (fun (ok1:Bool) (n:Nat)=>∃ m,(Int.toNat ((s.nodes.length:Int) - (n:Int)))<m∧QM5 s (QM4 s m ok1 n).1 (QM4 s m ok1 n).2=R∧(n:Int)<=(s.nodes.length:Int)) (fun ok1 n=>(Int.toNat ((s.nodes.length:Int) - (n:Int)))) (fun ok1 n=>[(1,AVal.ptr 0 0 8 0 0),(2,I 0),(7,Bo ok1),(9,I (n:Int))]) (fun ok1 n=>[(0,AObj.row 28 8 [[I s.now,nodeL s.nodes,jobL s.jobs,Qi2 s.resizes,bookL s.books,QO2 s.ledger,I s.nextJob,I s.nextBook]])]) ok 0 (wk [0] (tO rfl (ts State.lo) .nil) (sv (Q50 0 rfl rfl) (s1 (s1 (s1 .nil))))) ⟨_,Nat.lt_succ_self _,foll hR rfl,by exact exA⟩ ?_;clear hR;rintro ok1 n ⟨m,hm,hR,hx⟩;(try dsimp only at hR hm hx);obtain ⟨m,rfl⟩:=sucA m;refine ai (fun h14=>?_) (fun h15=>?_)
     ·refine us (ref25_node_c s (n:Int) szA ckA _) ?_;exact Qm0 (QP5 s (n:Int)) (n+1) (wk [0] (tO rfl (ts State.lo) .nil) (sv (Q50 0 rfl rfl) (s1 (s1 (sv (Qt0 (I_eq (wr omA)) lx) .nil))))) omA ⟨m,by exact omA,foll hR (congrArg (fun p:Bool × Nat=>QM5 s p.1 p.2) (ct h14 rfl)),by exact exA⟩
     ·replace hR:QM5 s ok1 n=R:=fo2 (fun p:Bool × Nat=>QM5 s p.1 p.2) (ok1,n) hR (cf h15 rfl);refine Qq0 (fun (ok2:Bool) (i3:Nat)=>∃ m,(Int.toNat ((s.jobs.length:Int) - (i3:Int)))<m∧QN5 (QN4 s m ok2 i3).1 (QN4 s m ok2 i3).2=R∧(i3:Int)<=(s.jobs.length:Int)) (fun ok2 i3=>(Int.toNat ((s.jobs.length:Int) - (i3:Int)))) (fun ok2 i3=>[(1,AVal.ptr 0 0 8 0 0),(2,I 0),(7,Bo ok2),(10,I (i3:Int))]) (fun ok2 i3=>[(0,AObj.row 28 8 [[I s.now,nodeL s.nodes,jobL s.jobs,Qi2 s.resizes,bookL s.books,QO2 s.ledger,I s.nextJob,I s.nextBook]])]) ok1 0 (wk [0] (tO rfl (ts State.lo) .nil) (sv (Q50 0 rfl rfl) (s1 (s1 (s1 .nil))))) ⟨_,Nat.lt_succ_self _,foll hR rfl,by exact exA⟩ ?_;clear hR;rintro ok2 i3 ⟨m,hm,hR,hx⟩;(try dsimp only at hR hm hx);obtain ⟨m,rfl⟩:=sucA m;refine ai (fun h16=>?_) (fun h17=>?_)
      ·refine dchk (by kernel_rfl) ?_;refine ai gkA ?_;refine ai gkA ?_;(first|apply u2|apply u3|apply u4|apply us);exact ref12_Of_c s.nodes ((s.jobs.getD i3 Job.zero).id) 1 szA _;refine ai gkA ?_;(repeat ((first|refine ai rfl ?_|refine ai (fun _=>rfl) ?_|refine ai (fun _=>ref12_Of_c s.nodes ((s.jobs.getD i3 Job.zero).id) 1 szA _) ?_)));exact Qm0 (((s.jobs.getD i3 Job.zero).state != 2)||((Qh8 s.nodes ((s.jobs.getD i3 Job.zero).id) 1)==(s.jobs.getD i3 Job.zero).nodes)) (i3+1) (wk [0] (tO rfl (ts State.lo) .nil) (sv (Q50 0 rfl rfl) (s1 (s1 (sv (Qt0 (I_eq (wr omA)) lx) .nil))))) omA ⟨m,by exact omA,foll hR (congrArg (fun p:Bool × Nat=>QN5 p.1 p.2) (ct h16 rfl)),by exact exA⟩
      ·replace hR:QN5 ok2 i3=R:=fo2 (fun p:Bool × Nat=>QN5 p.1 p.2) (ok2,i3) hR (cf h17 rfl);refine ai (fun h18=>?_) (fun h19=>?_)
       ·obtain rfl:=foll hR (ct h18 rfl);exact Q30 lx sr
       ·obtain rfl:=foll hR (cf h19 rfl);exact Q30 lx sr
end Go.Proofs.YtgjcljceccfgjaaGreatDoor
