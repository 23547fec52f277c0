/-
  What the last text of this claim leans on: an evaluator over the code, contracts of functions, plain laws. Conditions stand in each statement.
-/
import Derived.Test.YtackngeeehiegaaGreatDoorRB11
import Derived.Test.YtackngeeehiegaaGreatDoorProg
namespace Go.Proofs.YtackngeeehiegaaGreatDoor
set_option linter.unusedSimpArgs false
set_option linter.unusedVariables false
open Go.Fw
set_option maxRecDepth 20000
set_option maxHeartbeats 4000000
attribute [local irreducible] ACalls AMoves
def Qh0 (r_:LexReader):Token × LexReader:=bif ((Qk1 (r_.line.getD (r_.at_.toNat) 0))==2) then ((Qf2 r_).1,(Qf2 r_).2) else bif ((Qk1 (r_.line.getD (r_.at_.toNat) 0))==3) then ((QL1 r_).1,(QL1 r_).2) else bif ((r_.line.getD (r_.at_.toNat) 0)==34) then ((QZ1 r_).1,(QZ1 r_).2) else bif ((decide ((Qx6 ⟨#[61,58,44,45]⟩ (wu8 (r_.line.getD (r_.at_.toNat) 0))) >= 0))&&(decide ((r_.line.getD (r_.at_.toNat) 0)<128))) then ((⟨5,(runeStr (r_.line.getD (r_.at_.toNat) 0)),0,0⟩:Token),{ r_ with at_:=(w64 (r_.at_+1)) }) else bif ((Qk1 (r_.line.getD (r_.at_.toNat) 0))==0) then (zD,(QZ0 r_ r_.at_ 40)) else (zD,(QZ0 r_ r_.at_ 50))
theorem Qde (r_:LexReader) (hs0:r_.sz) (hp0:0<=r_.at_∧r_.at_<(r_.line.length:Int)∧r_.line.length<=400):AMoves Tryz.prog 308 [AVal.ptr 0 0 4 0 0] [(0,AObj.row 321 4 [[runes r_.line,I r_.at_,I r_.bad,I r_.error]])] 1 (Token.a ((Qh0 r_).1)) [(0,AObj.row 321 4 [[runes ((Qh0 r_).2.line),I ((Qh0 r_).2.at_),I ((Qh0 r_).2.bad),I ((Qh0 r_).2.error)]])]:=by
 generalize hR:Qh0 r_=R;refine mo (kp 4 [20,26,32,37,56]) Tryz.func308 ?_;have hk0:=hs0;obtain z11:r_.line.length<=4294967296:=hs0;refine dchk (by kernel_rfl) ?_;refine ai gkA ?_;(repeat ((first|refine ai rfl ?_|refine ai (fun _=>rfl) ?_)));refine us (Qm5 (r_.line.getD (r_.at_.toNat) 0) _) ?_;apply ai<;>intro h1
 ·refine us (mv [0] (Qfe r_ szA ckA) (dO (ds LexReader.lo) .nil) (dp .nil) (rO (re LexReader.lo) .nil) (Ren.low _ (Low.agg' (Token.lo)))) ?_;obtain rfl:=foll hR (ct h1 rfl);exact rq (ttA [0])
 ·refine us (Qm5 (r_.line.getD (r_.at_.toNat) 0) _) ?_;apply ai<;>intro h3
  ·refine us (mv [0] (Qnd r_ szA ckA) (dO (ds LexReader.lo) .nil) (dp .nil) (rO (re LexReader.lo) .nil) (Ren.low _ (Low.agg' (Token.lo)))) ?_;obtain rfl:=foll hR (cf h1 (ct h3 rfl));exact rq (ttA [0])
  ·apply ai<;>intro h5
   ·refine us (mv [0] (Qee r_ szA ckA) (dO (ds LexReader.lo) .nil) (dp .nil) (rO (re LexReader.lo) .nil) (Ren.low _ (Low.agg' (Token.lo)))) ?_;obtain rfl:=foll hR (cf h1 (cf h3 (ct h5 rfl)));exact rq (ttA [0])
   ·refine us (QEc ⟨#[61,58,44,45]⟩ (wu8 (r_.line.getD (r_.at_.toNat) 0)) _) ?_;apply ai<;>intro h7
    ·obtain rfl:=foll hR (cf h1 (cf h3 (cf h5 (ct h7 rfl))));exact rq (tt [0] (tO rfl (ts LexReader.lo) .nil) (Q54 (Low.agg' (Token.lo))))
    ·refine us (Qm5 (r_.line.getD (r_.at_.toNat) 0) _) ?_;apply ai<;>intro h9
     ·refine us (mv [0] (QQ3 r_ r_.at_ 40) (dO (ds LexReader.lo) .nil) (dp (d1 (d1 .nil))) (rO (re LexReader.lo) .nil) rx) ?_;obtain rfl:=foll hR (cf h1 (cf h3 (cf h5 (cf h7 (ct h9 rfl)))));exact rq (ttA [0])
     ·refine us (mv [0] (QQ3 r_ r_.at_ 50) (dO (ds LexReader.lo) .nil) (dp (d1 (d1 .nil))) (rO (re LexReader.lo) .nil) rx) ?_;obtain rfl:=foll hR (cf h1 (cf h3 (cf h5 (cf h7 (cf h9 rfl)))));exact rq (ttA [0])
def Adv (a b:LexReader):Prop:=b.line=a.line∧a.at_<=b.at_∧b.at_<=(a.line.length:Int)∧b.error=a.error∧b.bad=a.bad
theorem Qwa (is:Int->Bool):∀ (m:Nat) (c:LexReader),0<=c.at_->c.at_<=(c.line.length:Int)->c.line.length<=400->(((c.line.length:Int) - c.at_).toNat)<m->Adv c (QG0 is m c)
 | 0,c,_,_,_,h=>absurd h oA
 | m+1,c,h0,h1,h2,h=>by
  rw [QG0];cases hc:((decide (c.at_<(c.line.length:Int)))&&(is (c.line.getD (c.at_.toNat) 0))) with
  | false=>exact ⟨rfl,yUa _,h1,rfl,rfl⟩
  | true =>
   have hlt:=yda ((yea _ _).mp hc).1;have hw:w64 (c.at_+1)=c.at_+1:=wr oA;rw [hw];obtain ⟨a,b,d,e,f⟩:=Qwa is m { c with at_:=c.at_+1 } (by dsimp only;omega) (by dsimp only;omega) h2 (by dsimp only;omega);dsimp only at a b d e f;exact ⟨a,by simp only [cond_true];omega,d,e,f⟩
theorem Qz6 (r:LexReader) (is:Int->Bool) (h0:0<=r.at_) (h1:r.at_<=(r.line.length:Int)) (h2:r.line.length<=400):Adv r (Q20 r is).2 :=
 Qwa is _ r h0 h1 h2 (yCa _)
theorem Qg9 (r:LexReader) (is:Int->Bool) (h0:0<=r.at_) (h1:r.at_<(r.line.length:Int)) (h2:r.line.length<=400) (h:is (r.line.getD (r.at_.toNat) 0)=true):r.at_<(Q20 r is).2.at_:=by
 have hw:w64 (r.at_+1)=r.at_+1:=wr oA;have e:(Q20 r is).2=QG0 is (((r.line.length:Int) - r.at_).toNat) { r with at_:=r.at_+1 }:=by
  show QG0 is ((((r.line.length:Int) - r.at_).toNat)+1) r=_;rw [QG0,show ((decide (r.at_<(r.line.length:Int)))&&(is (r.line.getD (r.at_.toNat) 0)))=true by rw [h,Bool.and_true];exact yga h1,hw]
  rfl
 rw [e];have:=(Qwa is (((r.line.length:Int) - r.at_).toNat) { r with at_:=r.at_+1 } (by dsimp only;omega) (by dsimp only;omega) h2 (by dsimp only;omega)).2.1;dsimp only at this;omega
theorem Qbb (r:LexReader) (p e:Int) (he:e ≠ 0):(QZ0 r p e).line=r.line∧(QZ0 r p e).at_=r.at_∧(QZ0 r p e).error ≠ 0:=by
 unfold QZ0;cases h:(r.error==0) with
 | true=>exact ⟨rfl,rfl,he⟩
 | false=>exact ⟨rfl,rfl,by simpa using h⟩
def Nxt (a b:LexReader):Prop:=b.line=a.line∧a.at_<=b.at_∧b.at_<=(a.line.length:Int)∧(b.error ≠ 0∨a.at_<b.at_)
theorem lex_word_nxt (r:LexReader) (h0:0<=r.at_) (h1:r.at_<(r.line.length:Int)) (h2:r.line.length<=400) (hc:((Qk1 (r.line.getD (r.at_.toNat) 0))==2)=true):Nxt r (Qf2 r).2:=by
 obtain ⟨a,b,c,_,_⟩:=Qz6 r (fun (y:Int)=>Ql0 y ([2,3]:List Int) 0) h0 oA h2;exact ⟨a,b,c,Or.inr (Qg9 r _ h0 h1 h2 (by simp only [Ql0,hc];rfl))⟩
theorem class_digit (x:Int) (h:(Qk1 x==3)=true):48<=x∧x<=57:=by
 unfold Qk1 at h;revert h;cases ((x==9)||(x==32)) with
 | true=>simp
 | false =>
  simp only [cond_false];cases (((((decide (x<32))||((decide (x >= 127))&&(decide (x<=160))))||((decide (x >= 55296))&&(decide (x<=57343))))||(x==65533))||(decide (x > 1114111))) with
  | true=>simp
  | false =>
   simp only [cond_false];cases hd:((decide (x >= 48))&&(decide (x<=57))) with
   | true=>intro _;simp at hd;omega
   | false =>
    simp only [cond_false];cases ((((decide (x >= 97))&&(decide (x<=122)))||((decide (x >= 65))&&(decide (x<=90))))||(decide (x > 160))) <;> simp
theorem lex_count_nxt (r:LexReader) (h0:0<=r.at_) (h1:r.at_<(r.line.length:Int)) (h2:r.line.length<=400) (hc:((Qk1 (r.line.getD (r.at_.toNat) 0))==3)=true):Nxt r (QL1 r).2:=by
 obtain ⟨a,b,c,_,_⟩:=Qz6 r (fun (y:Int)=>(((decide (y >= 48))&&(decide (y<=57)))||((decide (y >= 97))&&(decide (y<=122))))) h0 oA h2;have hd:=class_digit _ hc;have l:=Qg9 r (fun (y:Int)=>(((decide (y >= 48))&&(decide (y<=57)))||((decide (y >= 97))&&(decide (y<=122))))) h0 h1 h2 (by simp only [yga hd.1,yga hd.2];rfl);unfold QL1;cases (!(Q19 ((Q20 r (fun (y:Int)=>(((decide (y >= 48))&&(decide (y<=57)))||((decide (y >= 97))&&(decide (y<=122)))))).1))) with
 | true=>exact ⟨a,b,c,Or.inr l⟩
 | false =>
  simp only [cond_false];cases (!(QQ7 ((Q20 r (fun (y:Int)=>(((decide (y >= 48))&&(decide (y<=57)))||((decide (y >= 97))&&(decide (y<=122)))))).1)).2) with
  | false=>exact ⟨a,b,c,Or.inr l⟩
  | true =>
   obtain ⟨f1,f2,f3⟩:=Qbb (Q20 r (fun (y:Int)=>(((decide (y >= 48))&&(decide (y<=57)))||((decide (y >= 97))&&(decide (y<=122)))))).2 r.at_ 50 (by decide);exact ⟨f1.trans a,by simp only [cond_true];rw [f2];exact b,by simp only [cond_true];rw [f2];exact c,Or.inl f3⟩
theorem QMe:∀ (m:Nat) (c:LexReader) (b:Bool),0<=c.at_->c.at_<=(c.line.length:Int)->c.line.length<=400->(((c.line.length:Int) - c.at_).toNat)<m->Adv c (Qb2 m c b).1
 | 0,c,_,_,_,_,h=>absurd h oA
 | m+1,c,b,h0,h1,h2,h=>by
  rw [Qb2];cases hc:((decide (c.at_<(c.line.length:Int)))&&(Qu1 (c.line.getD (c.at_.toNat) 0) b).1) with
  | false=>exact ⟨rfl,yUa _,h1,rfl,rfl⟩
  | true =>
   have hlt:=yda ((yea _ _).mp hc).1;have hw:w64 (c.at_+1)=c.at_+1:=wr oA;rw [hw];obtain ⟨a,b,d,e,f⟩:=QMe m { c with at_:=c.at_+1 } _ (by dsimp only;omega) (by dsimp only;omega) h2 (by dsimp only;omega);dsimp only at a b d e f;exact ⟨a,by simp only [cond_true];omega,d,e,f⟩
theorem lex_text_nxt (r:LexReader) (h0:0<=r.at_) (h1:r.at_<(r.line.length:Int)) (h2:r.line.length<=400):Nxt r (QZ1 r).2:=by
 obtain ⟨a,b,c,_,_⟩:=QMe _ r true h0 oA h2 (yCa _);unfold QZ1;generalize (Qb2 ((((r.line.length:Int) - r.at_).toNat)+1) r true).1=q at a b c;unfold QD2;have ff:∀ (x:LexReader) (p e:Int),e ≠ 0->x.line=r.line->r.at_<=x.at_->x.at_<=(r.line.length:Int)->Nxt r (QZ0 x p e):=by
  intro x p e he hx hp hq;obtain ⟨f1,f2,f3⟩:=Qbb x p e he;exact ⟨f1.trans hx,by rw [f2];exact hp,by rw [f2];exact hq,Or.inl f3⟩
 cases h3:(q.at_==(q.line.length:Int)) with
 | true=>exact ff q _ _ (by decide) a b c
 | false =>
  simp only [cond_false];have h3':q.at_ ≠ (r.line.length:Int):=by rw [a] at h3;simpa using h3
  have hw:w64 (q.at_+1)=q.at_+1:=wr oA;cases ((q.line.getD (q.at_.toNat) 0)!=34) with
  | true=>exact ff q _ _ (by decide) a b c
  | false =>
   simp only [cond_false];rw [hw];cases h4:((Qu3 (runesBytes (List.drop (r.at_.toNat) (List.take ((q.at_+1).toNat) q.line)))).2 != 0) with
   | true=>exact ff { q with at_:=q.at_+1 } _ _ (by simpa using h4) a (by show r.at_<=q.at_+1;omega) (by show q.at_+1<=_;omega)
   | false=>exact ⟨a,by show r.at_<=q.at_+1;omega,by show q.at_+1<=_;omega,Or.inr (by show r.at_<q.at_+1;omega)⟩
theorem lex_next_nxt (r:LexReader) (h0:0<=r.at_) (h1:r.at_<(r.line.length:Int)) (h2:r.line.length<=400):Nxt r (Qh0 r).2:=by
 have hw:w64 (r.at_+1)=r.at_+1:=wr oA;have ff:∀ (e:Int),e ≠ 0->Nxt r (QZ0 r r.at_ e):=by
  intro e he;obtain ⟨f1,f2,f3⟩:=Qbb r r.at_ e he;exact ⟨f1,by rw [f2];exact yUa _,by rw [f2];omega,Or.inl f3⟩
 unfold Qh0;cases hc:((Qk1 (r.line.getD (r.at_.toNat) 0))==2) with
 | true=>exact lex_word_nxt r h0 h1 h2 hc
 | false =>
  simp only [cond_false];cases hd:((Qk1 (r.line.getD (r.at_.toNat) 0))==3) with
  | true=>exact lex_count_nxt r h0 h1 h2 hd
  | false =>
   simp only [cond_false];cases ((r.line.getD (r.at_.toNat) 0)==34) with
   | true=>exact lex_text_nxt r h0 h1 h2
   | false =>
    simp only [cond_false];cases ((decide ((Qx6 ⟨#[61,58,44,45]⟩ (wu8 (r.line.getD (r.at_.toNat) 0))) >= 0))&&(decide ((r.line.getD (r.at_.toNat) 0)<128))) with
    | true=>rw [hw];exact ⟨rfl,by show r.at_<=r.at_+1;omega,by show r.at_+1<=_;omega,Or.inr (by show r.at_<r.at_+1;omega)⟩
    | false =>
     simp only [cond_false];cases ((Qk1 (r.line.getD (r.at_.toNat) 0))==0) with
     | true=>exact ff 40 (by decide)
     | false=>exact ff 50 (by decide)
theorem lex_round (r c:LexReader) (b:Int->Bool) (h0:0<=r.at_) (h1:r.at_<=(r.line.length:Int)) (h2:r.line.length<=400) (he:(r.error==0)=true) (e:c=(Q20 r b).2) (hn:(c.at_==(c.line.length:Int))=false) :
  (0<=c.at_∧c.at_<(c.line.length:Int)∧c.line.length<=400)∧(0<=(Qh0 c).2.at_∧(Qh0 c).2.at_<=((Qh0 c).2.line.length:Int)∧(Qh0 c).2.line.length<=400) ∧
  2*(((Qh0 c).2.line.length:Int) - (Qh0 c).2.at_).toNat+(bif (Qh0 c).2.error==0 then 1 else 0)<2*((r.line.length:Int) - r.at_).toNat+(bif r.error==0 then 1 else 0) ∧
  (((Qh0 c).2.error==0)=true->r.at_+1<=(Qh0 c).2.at_):=by
 obtain ⟨a1,a2,a3,a4,a5⟩:=Qz6 r b h0 h1 h2;rw [← e] at a1 a2 a3 a4 a5;have hn':c.at_ ≠ (r.line.length:Int):=by rw [a1] at hn;simpa using hn
 have hc:0<=c.at_∧c.at_<(c.line.length:Int)∧c.line.length<=400:=by rw [a1];omega
 obtain ⟨n1,n2,n3,n4⟩:=lex_next_nxt c hc.1 hc.2.1 hc.2.2;rw [he];rw [a1] at n1 n3;refine ⟨hc,by rw [n1];omega,?_⟩;rw [n1];rcases n4 with n4|n4
 ·have:((Qh0 c).2.error==0)=false:=by simpa using n4
  rw [this];simp only [cond_true,cond_false];exact ⟨by omega,fun h=>nomatch h⟩
 ·refine ⟨?_,fun _=>by omega⟩;cases ((Qh0 c).2.error==0) <;> simp only [cond_true,cond_false] <;> omega
def QM0 (v:Job) (choice:Int):Alt × Bool:=bif ((decide (choice<0))||(decide (choice >= ((Qd1 v.shape).length:Int)))) then (zA,false) else (((Qd1 v.shape).getD (choice.toNat) zA),true)
theorem Q0a (v:Job) (choice:Int) (hs0:v.sz):GV 238 [Job.a v,I choice] (AVal.tup [Alt.a ((QM0 v choice).1),Bo ((QM0 v choice).2)]):=by
 generalize hR:QM0 v choice=R;refine gA (kp 7 [18]) Tryz.func238 ?_;obtain ⟨z3,z4,z5,z6,z7⟩:=Job.zz hs0;refine us (QF7 v.shape szA _) ?_;apply ai<;>intro h1
 ·exact lfA
 ·refine ai gkA ?_;exact lfA
def Qh3 (s:Shape) (choice:Int) (n:Int):Bool:=bif ((decide (choice<0))||(decide (choice >= ((Qd1 s).length:Int)))) then false else bif (s.kind==3) then ((decide (n >= s.min))&&(decide (n<=s.max))) else (((Qd1 s).getD (choice.toNat) zA).nodes==n)
theorem Qg8 (s:Shape) (choice:Int) (n:Int) (hs0:s.sz):GV 226 [Shape.a s,I choice,I n] (Bo (Qh3 s choice n)):=by
 generalize hR:Qh3 s choice n=R;refine gA (kp 8 [17,20]) Tryz.func226 ?_;have hk0:=hs0;obtain z5:s.alts.length<=4294967296:=hs0;refine us (QF7 s szA _) ?_;apply ai<;>intro h1
 ·exact lfA
 ·apply ai<;>intro h3
  ·exact lfA
  ·refine ai gkA ?_;exact lfA
def Ql7 (l:List Node) (job:Int) (state:Int):Int:=(Q71 l (fun (y:Node)=>((y.job==job)&&(y.state==state))))
theorem Qbe (l:List Node) (job:Int) (state:Int) (hs0:l.length<=4294967296):GV 124 [nodeL l,I job,I state] (U (Ql7 l job state)):=by
 generalize hR:Ql7 l job state=R;refine gA (kp 7 []) Tryz.func124 ?_;have hk0:=hs0;obtain z7:l.length<=4294967296:=hs0;have cl1:∀ (y1:Node),AMoves Tryz.prog 184 [Node.a y1,AVal.ptr 0 0 1 0 0,AVal.ptr 1 0 1 0 0] [(0,AObj.row 3 1 [[I job]]),(0,AObj.row 3 1 [[I state]])] 2 (Bo ((fun (y:Node)=>((y.job==job)&&(y.state==state))) y1)) [(0,AObj.row 3 1 [[I job]]),(0,AObj.row 3 1 [[I state]])]:=by
  intro y1;have hR:(fun (y:Node)=>((y.job==job)&&(y.state==state))) y1=(fun (y:Node)=>((y.job==job)&&(y.state==state))) y1:=rfl;refine mo (kp 5 []) Tryz.func184 ?_;refine Qu0 (fun r:Bool=>Bo r) (fun _=>[(0,AObj.row 3 1 [[I job]]),(0,AObj.row 3 1 [[I state]])]) (leaf:=((y1.job==job)&&(y1.state==state))) (foll hR rfl) ?_;exact tt [0,1] (tO rfl (ts (l1 LowL.nil)) (tO rfl (ts (l1 LowL.nil)) .nil)) t1
 have hof1:AMoves Tryz.prog 153 [nodeL l,AVal.fn (.func 184) [] [AVal.ptr 0 0 1 0 0,AVal.ptr 1 0 1 0 0]] [(0,AObj.row 3 1 [[I job]]),(0,AObj.row 3 1 [[I state]])] 2 (U (Q71 l (fun (y:Node)=>((y.job==job)&&(y.state==state))))) [(0,AObj.row 3 1 [[I job]]),(0,AObj.row 3 1 [[I state]])]:=by
  have hR:Q71 l (fun (y:Node)=>((y.job==job)&&(y.state==state)))=Q71 l (fun (y:Node)=>((y.job==job)&&(y.state==state))):=rfl;refine mo (kp 10 [12,13,14,15,16,22]) Tryz.func153 ?_;refine us (Qr3 l szA _) ?_;apply ai<;>intro h1
  ·refine Qu0 (fun r:Int=>U r) (fun r:Int=>[(0,AObj.row 3 1 [[I job]]),(0,AObj.row 3 1 [[I state]])]) (leaf:=0) (foll hR (ct h1 rfl)) ?_;exact tt [0,1] (tO rfl (ts (l1 LowL.nil)) (tO rfl (ts (l1 LowL.nil)) .nil)) t1
  ·refine Qb0 (fun (out:List Int) (i:Nat)=>Q51 (QD3 (fun (y:Node)=>((y.job==job)&&(y.state==state))) (List.drop i l) out i)=Q71 l (fun (y:Node)=>((y.job==job)&&(y.state==state)))∧i<=l.length∧out.length<=i) (fun out i=>l.length - i) (fun out i=>[(1,AVal.fn (.func 184) [] [AVal.ptr 0 0 1 0 0,AVal.ptr 1 0 1 0 0]),(4,U 0),(5,AVal.own 2 0 1 0 out.length),(13,nodeL l),(14,I (l.length:Int)),(15,I (i:Int))]) (fun out i=>[(0,AObj.row 3 1 [[I job]]),(0,AObj.row 3 1 [[I state]]),(0,AObj.row 3 1 (out.map (fun q_=>[I q_])))]) [] 0 ((QC1 3 1).trans (wkA [0,1,2])) ⟨folA,by exact omA,by exact exA⟩ ?_;clear hR;rintro out i ⟨hR,hj,hx⟩;(try dsimp only at hR hj hx);apply ai<;>intro h3
   ·have hlt:=ltA h3;rw [Qa0 zF hlt] at hR;refine ai gkA ?_;refine us (mv [0,1] (cl1 (l.getD i zF)) (dO (ds (l1 LowL.nil)) (dO (ds (l1 LowL.nil)) .nil)) (dl (Node.low _ _) (dp (dp .nil))) (rO (re (l1 LowL.nil)) (rO (re (l1 LowL.nil)) .nil)) rx) ?_;apply ai<;>intro h5
    ·refine Or.inl ?_;(first|refine ⟨Qn1 8 rfl lnA apA,?_⟩|refine ⟨QD0 8 rfl apA,?_⟩);exact Q60 (out++([(i:Int)]:List Int)) (i+1) (wkA [0,1,2]) omA ⟨foll hR (congrArg (fun p:(List Int)=>Q51 p) (ct h5 rfl)),by exact omA,by exact exA⟩
    ·exact Q60 out (i+1) (wkA [0,1,2]) omA ⟨foll hR (congrArg (fun p:(List Int)=>Q51 p) (cf h5 rfl)),by exact omA,by exact exA⟩
   ·rw [Qd0 (l:=l) (j:=i) (geA h3)] at hR;replace hR:Q51 out=Q71 l (fun (y:Node)=>((y.job==job)&&(y.state==state))):=fo2 (fun p:(List Int)=>Q51 p) (out) hR rfl;refine us (AGives.lent (Qr8 out szA []) (ev (Qe0 _ _ rfl eqA lnA) .nil) (.cons lw .nil) (QT2 rfl)) ?_;refine Qu0 (fun r:Int=>U r) (fun r:Int=>[(0,AObj.row 3 1 [[I job]]),(0,AObj.row 3 1 [[I state]])]) (leaf:=(QS0 out).1) (foll hR rfl) ?_;exact tt [0,1] (tO rfl (ts (l1 LowL.nil)) (tO rfl (ts (l1 LowL.nil)) .nil)) t1
 refine us (mv [0,1] (hof1) (dO (ds (l1 LowL.nil)) (dO (ds (l1 LowL.nil)) .nil)) (dl lw (dv (dn_fn .nil (dp (dp .nil))) .nil)) (rO (re (l1 LowL.nil)) (rO (re (l1 LowL.nil)) .nil)) rx) ?_;exact lfA
def Qv9 (l:List Node):Int:=(Q71 l (fun (y:Node)=>((y.state != 4)&&(!y.drain))))
theorem fleet_Up_c (l:List Node) (hs0:l.length<=4294967296):GV 144 [nodeL l] (U (Qv9 l)):=by
 generalize hR:Qv9 l=R;refine gA (kp 3 []) Tryz.func144 ?_;have hk0:=hs0;obtain z7:l.length<=4294967296:=hs0;have cl1:∀ (y1:Node),AMoves Tryz.prog 204 [Node.a y1] [] 0 (Bo ((fun (y:Node)=>((y.state != 4)&&(!y.drain))) y1)) []:=by
  intro y1;have hR:(fun (y:Node)=>((y.state != 4)&&(!y.drain))) y1=(fun (y:Node)=>((y.state != 4)&&(!y.drain))) y1:=rfl;refine mo (kp 3 []) Tryz.func204 ?_;refine Qu0 (fun r:Bool=>Bo r) (fun _=>[]) (leaf:=((y1.state != 4)&&(!y1.drain))) (foll hR rfl) ?_;exact tt [] .nil t1
 have hof1:AMoves Tryz.prog 153 [nodeL l,AVal.fn (.func 204) [] []] [] 0 (U (Q71 l (fun (y:Node)=>((y.state != 4)&&(!y.drain))))) []:=by
  have hR:Q71 l (fun (y:Node)=>((y.state != 4)&&(!y.drain)))=Q71 l (fun (y:Node)=>((y.state != 4)&&(!y.drain))):=rfl;refine mo (kp 10 [12,13,14,15,16,22]) Tryz.func153 ?_;refine us (Qr3 l szA _) ?_;apply ai<;>intro h1
  ·refine Qu0 (fun r:Int=>U r) (fun r:Int=>[]) (leaf:=0) (foll hR (ct h1 rfl)) ?_;exact tt [] .nil t1
  ·refine Qb0 (fun (out:List Int) (i:Nat)=>Q51 (QD3 (fun (y:Node)=>((y.state != 4)&&(!y.drain))) (List.drop i l) out i)=Q71 l (fun (y:Node)=>((y.state != 4)&&(!y.drain)))∧i<=l.length∧out.length<=i) (fun out i=>l.length - i) (fun out i=>[(1,AVal.fn (.func 204) [] []),(4,U 0),(5,AVal.own 0 0 1 0 out.length),(13,nodeL l),(14,I (l.length:Int)),(15,I (i:Int))]) (fun out i=>[(0,AObj.row 3 1 (out.map (fun q_=>[I q_])))]) [] 0 ((QC1 3 1).trans (wkA [0])) ⟨folA,by exact omA,by exact exA⟩ ?_;clear hR;rintro out i ⟨hR,hj,hx⟩;(try dsimp only at hR hj hx);apply ai<;>intro h3
   ·have hlt:=ltA h3;rw [Qa0 zF hlt] at hR;refine ai gkA ?_;refine us (mv [] (cl1 (l.getD i zF)) .nil (dl (Node.low _ _) .nil) .nil rx) ?_;apply ai<;>intro h5
    ·refine Or.inl ?_;(first|refine ⟨Qn1 8 rfl lnA apA,?_⟩|refine ⟨QD0 8 rfl apA,?_⟩);exact Q60 (out++([(i:Int)]:List Int)) (i+1) (wkA [0]) omA ⟨foll hR (congrArg (fun p:(List Int)=>Q51 p) (ct h5 rfl)),by exact omA,by exact exA⟩
    ·exact Q60 out (i+1) (wkA [0]) omA ⟨foll hR (congrArg (fun p:(List Int)=>Q51 p) (cf h5 rfl)),by exact omA,by exact exA⟩
   ·rw [Qd0 (l:=l) (j:=i) (geA h3)] at hR;replace hR:Q51 out=Q71 l (fun (y:Node)=>((y.state != 4)&&(!y.drain))):=fo2 (fun p:(List Int)=>Q51 p) (out) hR rfl;refine us (AGives.lent (Qr8 out szA []) (ev (Qe0 _ _ rfl eqA lnA) .nil) (.cons lw .nil) (QT2 rfl)) ?_;refine Qu0 (fun r:Int=>U r) (fun r:Int=>[]) (leaf:=(QS0 out).1) (foll hR rfl) ?_;exact tt [] .nil t1
 refine us (mv [] (hof1) .nil (dl lw (dv (QI7 (Low.fn _ _ _ LowL.nil LowL.nil)) .nil)) .nil rx) ?_;exact lfA
def QN1 (l:List Node):Int:=(Q71 l (fun (y:Node)=>((y.state==0)&&(!y.drain))))
theorem fleet_Free_c (l:List Node) (hs0:l.length<=4294967296):GV 96 [nodeL l] (U (QN1 l)):=by
 generalize hR:QN1 l=R;refine gA (kp 3 []) Tryz.func96 ?_;have hk0:=hs0;obtain z7:l.length<=4294967296:=hs0;have cl1:∀ (y1:Node),AMoves Tryz.prog 154 [Node.a y1] [] 0 (Bo ((fun (y:Node)=>((y.state==0)&&(!y.drain))) y1)) []:=by
  intro y1;have hR:(fun (y:Node)=>((y.state==0)&&(!y.drain))) y1=(fun (y:Node)=>((y.state==0)&&(!y.drain))) y1:=rfl;refine mo (kp 3 []) Tryz.func154 ?_;refine Qu0 (fun r:Bool=>Bo r) (fun _=>[]) (leaf:=((y1.state==0)&&(!y1.drain))) (foll hR rfl) ?_;exact tt [] .nil t1
 have hof1:AMoves Tryz.prog 153 [nodeL l,AVal.fn (.func 154) [] []] [] 0 (U (Q71 l (fun (y:Node)=>((y.state==0)&&(!y.drain))))) []:=by
  have hR:Q71 l (fun (y:Node)=>((y.state==0)&&(!y.drain)))=Q71 l (fun (y:Node)=>((y.state==0)&&(!y.drain))):=rfl;refine mo (kp 10 [12,13,14,15,16,22]) Tryz.func153 ?_;refine us (Qr3 l szA _) ?_;apply ai<;>intro h1
  ·refine Qu0 (fun r:Int=>U r) (fun r:Int=>[]) (leaf:=0) (foll hR (ct h1 rfl)) ?_;exact tt [] .nil t1
  ·refine Qb0 (fun (out:List Int) (i:Nat)=>Q51 (QD3 (fun (y:Node)=>((y.state==0)&&(!y.drain))) (List.drop i l) out i)=Q71 l (fun (y:Node)=>((y.state==0)&&(!y.drain)))∧i<=l.length∧out.length<=i) (fun out i=>l.length - i) (fun out i=>[(1,AVal.fn (.func 154) [] []),(4,U 0),(5,AVal.own 0 0 1 0 out.length),(13,nodeL l),(14,I (l.length:Int)),(15,I (i:Int))]) (fun out i=>[(0,AObj.row 3 1 (out.map (fun q_=>[I q_])))]) [] 0 ((QC1 3 1).trans (wkA [0])) ⟨folA,by exact omA,by exact exA⟩ ?_;clear hR;rintro out i ⟨hR,hj,hx⟩;(try dsimp only at hR hj hx);apply ai<;>intro h3
   ·have hlt:=ltA h3;rw [Qa0 zF hlt] at hR;refine ai gkA ?_;refine us (mv [] (cl1 (l.getD i zF)) .nil (dl (Node.low _ _) .nil) .nil rx) ?_;apply ai<;>intro h5
    ·refine Or.inl ?_;(first|refine ⟨Qn1 8 rfl lnA apA,?_⟩|refine ⟨QD0 8 rfl apA,?_⟩);exact Q60 (out++([(i:Int)]:List Int)) (i+1) (wkA [0]) omA ⟨foll hR (congrArg (fun p:(List Int)=>Q51 p) (ct h5 rfl)),by exact omA,by exact exA⟩
    ·exact Q60 out (i+1) (wkA [0]) omA ⟨foll hR (congrArg (fun p:(List Int)=>Q51 p) (cf h5 rfl)),by exact omA,by exact exA⟩
   ·rw [Qd0 (l:=l) (j:=i) (geA h3)] at hR;replace hR:Q51 out=Q71 l (fun (y:Node)=>((y.state==0)&&(!y.drain))):=fo2 (fun p:(List Int)=>Q51 p) (out) hR rfl;refine us (AGives.lent (Qr8 out szA []) (ev (Qe0 _ _ rfl eqA lnA) .nil) (.cons lw .nil) (QT2 rfl)) ?_;refine Qu0 (fun r:Int=>U r) (fun r:Int=>[]) (leaf:=(QS0 out).1) (foll hR rfl) ?_;exact tt [] .nil t1
 refine us (mv [] (hof1) .nil (dl lw (dv (QI7 (Low.fn _ _ _ LowL.nil LowL.nil)) .nil)) .nil rx) ?_;exact lfA
def Q13 (l:List Node):List Int->List Note->Nat->(List Note)
 | [],out,_=>out
 | x_ :: r,out,i=>bif (QR4 l x_).2 then Q13 l r (out++([(QR4 l x_).1]:List Note)) (i+1) else Q13 l r out (i+1)
def Ql4 (out:List Note):(List Note):=out
def Qb5 (l:List Node) (nodes:List Int):(List Note):=Ql4 (Q13 l nodes [] 0)
theorem alloc_Notes_c (l:List Node) (nodes:List Int) (hs0:l.length<=4294967296) (hs1:nodes.length<=4294967296):GV 158 [nodeL l,ints nodes] (noteL (Qb5 l nodes)):=by
 generalize hR:Qb5 l nodes=R;refine gA (kp 10 [10,11,12,13,22]) Tryz.func158 ?_;have hk0:=hs0;obtain z5:l.length<=4294967296:=hs0;have hk1:=hs1;obtain z6:nodes.length<=4294967296:=hs1;refine Qb0 (fun (out:List Note) (i:Nat)=>Ql4 (Q13 l (List.drop i nodes) out i)=R∧i<=nodes.length∧out.length<=i) (fun out i=>nodes.length - i) (fun out i=>[(0,nodeL l),(4,AVal.lit (.slice none 0 0)),(5,AVal.own 0 0 4 0 out.length),(10,ints nodes),(11,I (nodes.length:Int)),(12,I (i:Int))]) (fun out i=>[(0,AObj.row 41 4 (out.map Note.cells))]) [] 0 ((QC1 41 4).trans (wkA [0])) ⟨foll hR rfl,by exact omA,by exact exA⟩ ?_;clear hR;rintro out i ⟨hR,hj,hx⟩;(try dsimp only at hR hj hx);apply ai<;>intro h1
 ·have hlt:=ltA h1;rw [Qa0 0 hlt] at hR;refine ai gkA ?_;refine us (fleet_Note_c l (nodes.getD i 0) szA _) ?_;apply ai<;>intro h3
  ·refine Or.inl ?_;(first|refine ⟨Qn1 32 rfl lnA apA,?_⟩|refine ⟨QD0 32 rfl apA,?_⟩);exact Q60 (out++([(QR4 l (nodes.getD i 0)).1]:List Note)) (i+1) (wkA [0]) omA ⟨foll hR (congrArg (fun p:(List Note)=>Ql4 p) (ct h3 rfl)),by exact omA,by exact exA⟩
  ·exact Q60 out (i+1) (wkA [0]) omA ⟨foll hR (congrArg (fun p:(List Note)=>Ql4 p) (cf h3 rfl)),by exact omA,by exact exA⟩
 ·rw [Qd0 (l:=nodes) (j:=i) (geA h1)] at hR;replace hR:Ql4 out=R:=fo2 (fun p:(List Note)=>Ql4 p) (out) hR rfl;obtain rfl:=foll hR rfl;exact Qc0 lw (Qe0 zL _ rfl eqA lnA)
def QH3 (l:List Int) (at_:Int) (i:Bool):Token × Int × Int × Int:=bif i then ((⟨5,(runesBytes (List.drop (at_.toNat) (List.take ((w64 (at_+1)).toNat) l))),0,at_⟩:Token),(w64 (at_+1)),0,0) else (zD,0,at_,50)
def Qi1 (l:List Int) (at_:Int):Token × Int × Int × Int:=bif ((Qj0 (l.getD (at_.toNat) 0))==0) then (zD,0,at_,40) else bif ((Qj0 (l.getD (at_.toNat) 0))==2) then ((⟨1,(QX2 (runesBytes (List.drop (at_.toNat) (List.take ((QF1 l at_).toNat) l)))),0,at_⟩:Token),(QF1 l at_),0,0) else bif ((Qj0 (l.getD (at_.toNat) 0))==3) then bif (Quc (List.drop (at_.toNat) (List.take ((QF1 l at_).toNat) l))) then ((⟨3,(runesBytes (List.drop (at_.toNat) (List.take ((QF1 l at_).toNat) l))),0,at_⟩:Token),(QF1 l at_),0,0) else bif (decide ((Qx9 (List.drop (at_.toNat) (List.take ((QF1 l at_).toNat) l)))<0)) then (zD,0,at_,50) else ((⟨2,⟨#[]⟩,(Qx9 (List.drop (at_.toNat) (List.take ((QF1 l at_).toNat) l))),at_⟩:Token),(QF1 l at_),0,0) else bif ((l.getD (at_.toNat) 0)==34) then ((QS3 l at_).1,(QS3 l at_).2.1,(QS3 l at_).2.2.1,(QS3 l at_).2.2.2) else bif ((l.getD (at_.toNat) 0)==61) then QH3 l at_ ((l.getD (at_.toNat) 0)==61) else bif ((l.getD (at_.toNat) 0)==58) then QH3 l at_ ((l.getD (at_.toNat) 0)==58) else bif ((l.getD (at_.toNat) 0)==44) then QH3 l at_ ((l.getD (at_.toNat) 0)==44) else QH3 l at_ ((l.getD (at_.toNat) 0)==45)
theorem ref05_one_c (l:List Int) (at_:Int) (hs0:l.length<=4294967296) (hp0:0<=at_∧at_<(l.length:Int)∧l.length<=400):GV 312 [runes l,I at_] (AVal.tup [Token.a ((Qi1 l at_).1),I ((Qi1 l at_).2.1),I ((Qi1 l at_).2.2.1),I ((Qi1 l at_).2.2.2)]):=by
 generalize hR:Qi1 l at_=R;refine gA (kj [1000028] 11 [17,18,22,37,46,65,73,74,83]) Tryz.func312 ?_;have hk0:=hs0;obtain z21:l.length<=4294967296:=hs0;have hw0:w64 (at_+1)=at_+1:=wr oA;have hf0:=QRe l at_ hp0.1 hp0.2.1 hp0.2.2;refine ai gkA ?_;refine us (Qe5 (l.getD (at_.toNat) 0) _) ?_;apply ai<;>intro h1
 ·exact lfA
 ·apply ai<;>intro h3
  ·refine us (Q2h l at_ szA ckA _) ?_;refine ai gkA ?_;(first|refine ⟨(List.drop (at_.toNat) (List.take ((QF1 l at_).toNat) l)),by exact cvA,?_⟩|refine ⟨_,fun _=>⟨(List.drop (at_.toNat) (List.take ((QF1 l at_).toNat) l)),by exact cvA,rfl,rfl⟩,?_⟩|refine ⟨_,rfl,⟨(List.drop (at_.toNat) (List.take ((QF1 l at_).toNat) l)),by exact cvA,Sub.refl _,rfl⟩,?_⟩);refine us (ref04_Lower_c (runesBytes (List.drop (at_.toNat) (List.take ((QF1 l at_).toNat) l))) szA _) ?_;exact lfA
  ·apply ai<;>intro h5
   ·refine us (Q2h l at_ szA ckA _) ?_;refine ai gkA ?_;refine us (AGives.as2 (ref05_plain_c (List.drop (at_.toNat) (List.take ((QF1 l at_).toNat) l)) szA _) (av (as_cut l (at_.toNat) ((QF1 l at_).toNat) leA ckA) .nil)) ?_;apply ai<;>intro h7
    ·refine ai gkA ?_;(first|refine ⟨(List.drop (at_.toNat) (List.take ((QF1 l at_).toNat) l)),by exact cvA,?_⟩|refine ⟨_,fun _=>⟨(List.drop (at_.toNat) (List.take ((QF1 l at_).toNat) l)),by exact cvA,rfl,rfl⟩,?_⟩|refine ⟨_,rfl,⟨(List.drop (at_.toNat) (List.take ((QF1 l at_).toNat) l)),by exact cvA,Sub.refl _,rfl⟩,?_⟩);exact lfA
    ·refine ai gkA ?_;refine us (AGives.as2 (ref05_Number_c (List.drop (at_.toNat) (List.take ((QF1 l at_).toNat) l)) szA _) (av (as_cut l (at_.toNat) ((QF1 l at_).toNat) leA ckA) .nil)) ?_;apply ai<;>intro h9
     ·have qh9:=yda h9;exact lfA
     ·have qh9:=yca h9;exact lfA
   ·refine ai gkA ?_;apply ai<;>intro h11
    ·refine us (ref05_text_c l at_ szA ckA _) ?_;exact lfA
    ·refine Q81 (fun (i:Bool)=>QH3 l at_ i=R) (fun i=>[(0,runes l),(1,I at_),(4,AVal.ptr 0 0 4 0 0),(5,I 0),(6,I 0),(7,I 0),(8,AVal.ptr 1 0 4 0 0),(83,Bo i)]) (fun i=>[(0,AObj.row 305 4 [[I 0,Sg ⟨#[]⟩,I 0,I 0]]),(0,AObj.row 305 4 [[I 0,Sg ⟨#[]⟩,I 0,I at_]])]) ?_ ?_
     ·clear hR;rintro i hR;(try dsimp only at hR);apply ai<;>intro h13
      ·refine ai gkA ?_;(first|refine ⟨(List.drop (at_.toNat) (List.take ((w64 (at_+1)).toNat) l)),by exact cvA,?_⟩|refine ⟨_,fun _=>⟨(List.drop (at_.toNat) (List.take ((w64 (at_+1)).toNat) l)),by exact cvA,rfl,rfl⟩,?_⟩|refine ⟨_,rfl,⟨(List.drop (at_.toNat) (List.take ((w64 (at_+1)).toNat) l)),by exact cvA,Sub.refl _,rfl⟩,?_⟩);exact lfA
      ·exact lfA
     ·apply ai<;>intro h15
      ·exact Q90 ((l.getD (at_.toNat) 0)==61) (wkA [0,1]) (foll hR (cf h1 (cf h3 (cf h5 (cf h11 (ct h15 rfl))))))
      ·apply ai<;>intro h17
       ·exact Q90 ((l.getD (at_.toNat) 0)==58) (wkA [0,1]) (foll hR (cf h1 (cf h3 (cf h5 (cf h11 (cf h15 (ct h17 rfl)))))))
       ·apply ai<;>intro h19
        ·exact Q90 ((l.getD (at_.toNat) 0)==44) (wkA [0,1]) (foll hR (cf h1 (cf h3 (cf h5 (cf h11 (cf h15 (cf h17 (ct h19 rfl))))))))
        ·exact Q90 ((l.getD (at_.toNat) 0)==45) (wkA [0,1]) (foll hR (cf h1 (cf h3 (cf h5 (cf h11 (cf h15 (cf h17 (cf h19 rfl))))))))
theorem Q4h (l:List Int) (at_:Int) (b:Bool) (h0:0<=at_) (h1:at_<(l.length:Int)) (h:l.length<=400):((QH3 l at_ b).2.2.2 != 0)=false->at_<(QH3 l at_ b).2.1∧(QH3 l at_ b).2.1<=(l.length:Int):=by
 have hw:w64 (at_+1)=at_+1:=wr oA;cases b with
 | false=>intro h;cases h
 | true=>intro _;simp only [QH3,cond_true];rw [hw];omega
theorem ref05_one_lt (l:List Int) (at_:Int) (h0:0<=at_) (h1:at_<(l.length:Int)) (h:l.length<=400):((Qi1 l at_).2.2.2 != 0)=false->at_<(Qi1 l at_).2.1∧(Qi1 l at_).2.1<=(l.length:Int):=by
 have he:=QRe l at_ h0 h1 h;have hk:=fun b=>Q4h l at_ b h0 h1 h
 have ht:=ref05_text_lt l at_ h0 h1 h;unfold Qi1
 repeat' first
  | exact hk _
  | exact ht
  | exact fun _=>he
  | (intro h;cases h;done)
  | (rw [yAa];split)
def Qm2 :List Book->List Step->Nat->(List Step) × Nat
 | [],p_,i=>(p_,i)
 | x_ :: r,p_,i=>Qm2 r (Qd2 p_ x_.from_ x_.to x_.nodes) (i+1)
def Qs6 (x_1:Job):List Int->Bool->Nat->Bool × Nat
 | [],out,k=>(out,k)
 | x_2 :: r,out,k=>Qs6 x_1 r (out||(x_2==x_1.id)) (k+1)
def QX0 (except:List Int):List Job->List Step->Nat->(List Step) × Nat
 | [],p_1,i1=>(p_1,i1)
 | x_1 :: r,p_1,i1=>(fun p1:Bool × Nat=>bif ((Q50 x_1).2.2.2&&(!p1.1)) then QX0 except r (Qd2 p_1 ((Q50 x_1).1) (w64 ((Q50 x_1).1+(Q50 x_1).2.1)) ((Q50 x_1).2.2.1)) (i1+1) else QX0 except r p_1 (i1+1)) (Qs6 x_1 except false 0)
def QF2 (p_1:List Step) (i1:Nat):(List Step):=p_1
def QA7 (s:State) (except:List Int) (p_:List Step) (i:Nat):(List Step):=QF2 ((QX0 except s.jobs p_ 0).1) ((QX0 except s.jobs p_ 0).2)
def Q49 (s:State) (except:List Int):(List Step):=QA7 s except ((Qm2 s.books (Q05 s) 0).1) ((Qm2 s.books (Q05 s) 0).2)
theorem b5a0 {P:Prop} (h:P:=by first|(((try dsimp only);exact Qn7 (by assumption)))|first|(((try dsimp only);exact Qn7 hx))|first|(exact Qsb _)|first|(exact Qjb _)|exact szA):P:=h
theorem b5a1 {P:Prop} (h:P:=by first|(((try dsimp only);exact Qn7 (by assumption)))|first|(((try dsimp only);exact Qn7 hx))|first|(exact Qsb _)|first|(exact Qjb _)|exact exA):P:=h
theorem ref20_Left_c (s:State) (except:List Int) (hs0:s.sz) (hs1:except.length<=4294967296) (hp0:∀ y ∈ s.jobs,((y.state != 1)||(y.promise==(-1)))=false->0<=y.choice∧y.choice<((Qi0 y.shape).length:Int)):GV 112 [State.a s,ints except] (stepL (Q49 s except)):=by
 generalize hR:Q49 s except=R;refine gA (kp 14 [20,47,53,85]) Tryz.func112 ?_;have hk0:=hs0;obtain ⟨z14,z15,z16,z17,z18,z19,z20⟩:=hs0;have hk1:=hs1;obtain z21:except.length<=4294967296:=hs1;refine us (ref20_busy_c s b5a0 _) ?_;refine Qb0 (fun (p_:List Step) (i:Nat)=>QA7 s except (Qm2 (List.drop i s.books) p_ i).1 (Qm2 (List.drop i s.books) p_ i).2=R∧i<=s.books.length∧p_.length<=4294967296) (fun p_ i=>s.books.length - i) (fun p_ i=>[(1,ints except),(2,AVal.ptr 0 0 8 0 0),(4,AVal.lit (.slice none 0 0)),(5,stepL p_),(6,I (i:Int))]) (fun p_ i=>[(0,AObj.row 28 8 [[I s.now,nodeL s.nodes,jobL s.jobs,QA1 s.resizes,bookL s.books,QI2 s.ledger,I s.nextJob,I s.nextBook]])]) (Q05 s) 0 (wkA [0]) ⟨foll hR rfl,by exact omA,b5a1⟩ ?_;clear hR;rintro p_ i ⟨hR,hj,hx⟩;(try dsimp only at hR hj hx);apply ai<;>intro h1
 ·have hlt:=ltA h1;rw [Qa0 zI hlt] at hR;refine dchk (by kernel_rfl) ?_;refine ai gkA ?_;refine ai gkA ?_;refine ai gkA ?_;(first|apply u2|apply u3|apply u4|apply us);exact QB9 p_ ((s.books.getD i zI).from_) ((s.books.getD i zI).to) ((s.books.getD i zI).nodes) b5a0 _;(repeat ((first|refine ai rfl ?_|refine ai (fun _=>rfl) ?_|refine ai (fun _=>QB9 p_ ((s.books.getD i zI).from_) ((s.books.getD i zI).to) ((s.books.getD i zI).nodes) b5a0 _) ?_)));exact Q60 (Qd2 p_ (s.books.getD i zI).from_ (s.books.getD i zI).to (s.books.getD i zI).nodes) (i+1) (wkA [0]) omA ⟨foll hR (congrArg (fun p:(List Step) × Nat=>QA7 s except p.1 p.2) rfl),by exact omA,b5a1⟩
 ·rw [Qd0 (l:=s.books) (j:=i) (geA h1)] at hR;replace hR:QA7 s except p_ i=R:=fo2 (fun p:(List Step) × Nat=>QA7 s except p.1 p.2) (p_,i) hR rfl;refine Qb0 (fun (p_1:List Step) (i1:Nat)=>QF2 (QX0 except (List.drop i1 s.jobs) p_1 i1).1 (QX0 except (List.drop i1 s.jobs) p_1 i1).2=R∧i1<=s.jobs.length∧p_1.length<=4294967296) (fun p_1 i1=>s.jobs.length - i1) (fun p_1 i1=>[(1,ints except),(2,AVal.ptr 0 0 8 0 0),(4,AVal.lit (.slice none 0 0)),(5,stepL p_1),(7,I (i1:Int))]) (fun p_1 i1=>[(0,AObj.row 28 8 [[I s.now,nodeL s.nodes,jobL s.jobs,QA1 s.resizes,bookL s.books,QI2 s.ledger,I s.nextJob,I s.nextBook]])]) p_ 0 (wkA [0]) ⟨foll hR rfl,by exact omA,b5a1⟩ ?_;clear hR;rintro p_1 i1 ⟨hR,hj,hx⟩;(try dsimp only at hR hj hx);apply ai<;>intro h3
  ·have hlt:=ltA h3;rw [Qa0 zG hlt] at hR;have hxz:(s.jobs.getD i1 zG).sz:=Qp4 (by first|assumption|grind) (Job.szz _);have hkz:=hxz;obtain ⟨z5,z6,z7,z8,z9⟩:=Job.zz hxz;refine Qb0 (fun (out:Bool) (k:Nat)=>(fun z=>(fun p:(List Step) × Nat=>QF2 p.1 p.2) ((fun p1:Bool × Nat=>bif ((Q50 (s.jobs.getD i1 zG)).2.2.2&&(!p1.1)) then QX0 except (List.drop (i1+1) s.jobs) (Qd2 p_1 ((Q50 (s.jobs.getD i1 zG)).1) (w64 ((Q50 (s.jobs.getD i1 zG)).1+(Q50 (s.jobs.getD i1 zG)).2.1)) ((Q50 (s.jobs.getD i1 zG)).2.2.1)) (i1+1) else QX0 except (List.drop (i1+1) s.jobs) p_1 (i1+1)) z)) (Qs6 (s.jobs.getD i1 zG) (List.drop k except) out k)=R∧k<=except.length) (fun out k=>except.length - k) (fun out k=>[(1,ints except),(2,AVal.ptr 0 0 8 0 0),(4,AVal.lit (.slice none 0 0)),(5,stepL p_1),(7,I (i1:Int)),(8,Bo out),(9,I (k:Int)),(47,Bo (decide ((i1:Int)<(s.jobs.length:Int))))]) (fun out k=>[(0,AObj.row 28 8 [[I s.now,nodeL s.nodes,jobL s.jobs,QA1 s.resizes,bookL s.books,QI2 s.ledger,I s.nextJob,I s.nextBook]])]) false 0 (wkA [0]) ⟨foll hR (congrArg (fun p:(List Step) × Nat=>QF2 p.1 p.2) rfl),by exact omA⟩ ?_;clear hR;rintro out k ⟨hR,hj⟩;(try dsimp only at hR hj);apply ai<;>intro h10
   ·have hlt:=ltA h10;rw [Qa0 0 hlt] at hR;refine dchk (by kernel_rfl) ?_;refine ai gkA ?_;refine ai gkA ?_;(repeat ((first|refine ai rfl ?_|refine ai (fun _=>rfl) ?_)));exact Q60 (out||((except.getD k 0)==(s.jobs.getD i1 zG).id)) (k+1) (wkA [0]) omA ⟨foll hR (congrArg (fun z=>(fun p:(List Step) × Nat=>QF2 p.1 p.2) ((fun p1:Bool × Nat=>bif ((Q50 (s.jobs.getD i1 zG)).2.2.2&&(!p1.1)) then QX0 except (List.drop (i1+1) s.jobs) (Qd2 p_1 ((Q50 (s.jobs.getD i1 zG)).1) (w64 ((Q50 (s.jobs.getD i1 zG)).1+(Q50 (s.jobs.getD i1 zG)).2.1)) ((Q50 (s.jobs.getD i1 zG)).2.2.1)) (i1+1) else QX0 except (List.drop (i1+1) s.jobs) p_1 (i1+1)) z)) rfl),by exact omA⟩
   ·rw [Qd0 (l:=except) (j:=k) (geA h10)] at hR;replace hR:(fun z=>(fun p:(List Step) × Nat=>QF2 p.1 p.2) ((fun p1:Bool × Nat=>bif ((Q50 (s.jobs.getD i1 zG)).2.2.2&&(!p1.1)) then QX0 except (List.drop (i1+1) s.jobs) (Qd2 p_1 ((Q50 (s.jobs.getD i1 zG)).1) (w64 ((Q50 (s.jobs.getD i1 zG)).1+(Q50 (s.jobs.getD i1 zG)).2.1)) ((Q50 (s.jobs.getD i1 zG)).2.2.1)) (i1+1) else QX0 except (List.drop (i1+1) s.jobs) p_1 (i1+1)) z)) (out,k)=R:=foll hR (congrArg (fun z=>(fun p:(List Step) × Nat=>QF2 p.1 p.2) ((fun p1:Bool × Nat=>bif ((Q50 (s.jobs.getD i1 zG)).2.2.2&&(!p1.1)) then QX0 except (List.drop (i1+1) s.jobs) (Qd2 p_1 ((Q50 (s.jobs.getD i1 zG)).1) (w64 ((Q50 (s.jobs.getD i1 zG)).1+(Q50 (s.jobs.getD i1 zG)).2.1)) ((Q50 (s.jobs.getD i1 zG)).2.2.1)) (i1+1) else QX0 except (List.drop (i1+1) s.jobs) p_1 (i1+1)) z)) rfl);refine ai gkA ?_;refine us (Qbh (s.jobs.getD i1 zG) b5a0 (by exact hp0 _ (by rw [yTa,yaa (by assumption)];exact yZa (by assumption))) _) ?_;apply ai<;>intro h12
    ·refine us (QB9 p_1 ((Q50 (s.jobs.getD i1 zG)).1) (w64 ((Q50 (s.jobs.getD i1 zG)).1+(Q50 (s.jobs.getD i1 zG)).2.1)) ((Q50 (s.jobs.getD i1 zG)).2.2.1) b5a0 _) ?_;exact Q60 (Qd2 p_1 ((Q50 (s.jobs.getD i1 zG)).1) (w64 ((Q50 (s.jobs.getD i1 zG)).1+(Q50 (s.jobs.getD i1 zG)).2.1)) ((Q50 (s.jobs.getD i1 zG)).2.2.1)) (i1+1) (wkA [0]) omA ⟨foll hR (congrArg (fun p:(List Step) × Nat=>QF2 p.1 p.2) (ct h12 rfl)),by exact omA,b5a1⟩
    ·exact Q60 p_1 (i1+1) (wkA [0]) omA ⟨foll hR (congrArg (fun p:(List Step) × Nat=>QF2 p.1 p.2) (cf h12 rfl)),by exact omA,b5a1⟩
  ·rw [Qd0 (l:=s.jobs) (j:=i1) (geA h3)] at hR;replace hR:QF2 p_1 i1=R:=fo2 (fun p:(List Step) × Nat=>QF2 p.1 p.2) (p_1,i1) hR rfl;exact lfA
theorem ref20_Left_len (s:State) (ex:List Int):(Q49 s ex).length<=4294967296:=by
 have g1:∀ (l:List Book) (p:List Step) (i:Nat),p.length<=4294967296->(Qm2 l p i).1.length<=4294967296:=by
  intro l
  induction l with
  | nil=>intro p i h;exact h
  | cons x r ih=>intro p i h;rw [Qm2];exact ih _ _ (Qn7 h)
 have g2:∀ (l:List Job) (p:List Step) (i:Nat),p.length<=4294967296->(QX0 ex l p i).1.length<=4294967296:=by
  intro l
  induction l with
  | nil=>intro p i h;exact h
  | cons x r ih =>
   intro p i h;rw [QX0];dsimp only
   repeat' first|exact ih _ _ h|exact ih _ _ (Qn7 h)|(rw [yAa];split)
 exact g2 _ _ _ (g1 _ _ _ (Qjb s))
def QA2 (nodes:Int):List Node->List Int->Nat->(List Int) × Nat
 | [],set_,i=>(set_,i)
 | x_ :: r,set_,i=>bif (((x_.state==0)&&(!x_.drain))&&(decide ((set_.length:Int)<nodes))) then QA2 nodes r (set_++([(i:Int)]:List Int)) (i+1) else QA2 nodes r set_ (i+1)
def QL3 (l:List Node) (nodes:Int) (act:Int) (job:Int) (now:Int) (set_:List Int) (i:Nat):(List Node) × Int × (List Note) × Int:=bif (decide ((set_.length:Int)<nodes)) then ([],0,[],130) else bif ((QM2 l (Qs5 set_) act job now).2.2 != 0) then ([],0,[],(QM2 l (Qs5 set_) act job now).2.2) else ((QM2 l (Qs5 set_) act job now).1,(Qs5 set_),(QM2 l (Qs5 set_) act job now).2.1,0)
def Q82 (l:List Node) (nodes:Int) (act:Int) (job:Int) (now:Int):(List Node) × Int × (List Note) × Int:=bif (((act != 1)&&(act != 2))||((Q72 l)!=0)) then ([],0,[],120) else bif ((decide (nodes<1))||(decide (nodes > 48))) then ([],0,[],2) else QL3 l nodes act job now ((QA2 nodes l [] 0).1) ((QA2 nodes l [] 0).2)
theorem b5a2 {P:Prop} (h:P:=by first|((exact ⟨fun y hy=>(List.mem_append.1 hy).elim (fun h=>by have:=hx.1 y h;omega) (fun h=>by rw [List.mem_singleton.1 h];omega),by simp;omega⟩))|first|((exact ⟨fun y hy=>by have:=hx.1 y hy;omega,by omega⟩))|first|((exact ⟨fun _ h=>absurd h ybb,by simp⟩))|exact exA):P:=h
theorem ref13_Grant_c (l:List Node) (nodes:Int) (act:Int) (job:Int) (now:Int) (hs0:l.length<=4294967296):GV 48 [nodeL l,I nodes,I act,I job,I now] (AVal.tup [nodeL ((Q82 l nodes act job now).1),U ((Q82 l nodes act job now).2.1),noteL ((Q82 l nodes act job now).2.2.1),I ((Q82 l nodes act job now).2.2.2)]):=by
 generalize hR:Q82 l nodes act job now=R;refine gA (kp 20 [30,36,40,62,70,84]) Tryz.func48 ?_;have hk0:=hs0;obtain z13:l.length<=4294967296:=hs0;have hcl:((Q72 l)!=0)=false->l.length<=48:=fun h=>Qnb h;(first|apply u2|apply u3|apply u4|apply us);exact Qg5 l szA _;apply ai<;>intro h1
 ·exact lfA
 ·apply ai<;>intro h3
  ·exact lfA
  ·refine Qb0 (fun (set_:List Int) (i:Nat)=>QL3 l nodes act job now (QA2 nodes (List.drop i l) set_ i).1 (QA2 nodes (List.drop i l) set_ i).2=R∧i<=l.length∧(∀ y ∈ set_,y<(i:Int))∧set_.length<=i) (fun set_ i=>l.length - i) (fun set_ i=>[(0,nodeL l),(1,I nodes),(2,I act),(3,I job),(4,I now),(10,AVal.lit (.slice none 0 0)),(11,U 0),(12,AVal.lit (.slice none 0 0)),(13,I 0),(14,AVal.own 0 0 1 0 set_.length),(15,I (i:Int))]) (fun set_ i=>[(0,AObj.row 3 1 (set_.map (fun q_=>[I q_])))]) [] 0 ((QC1 3 1).trans (wkA [0])) ⟨folA,by exact omA,b5a2⟩ ?_;clear hR;rintro set_ i ⟨hR,hj,hx⟩;(try dsimp only at hR hj hx);apply ai<;>intro h5
   ·have hlt:=ltA h5;rw [Qa0 zF hlt] at hR;refine ai gkA ?_;refine ai gkA ?_;apply ai<;>intro h7
    ·refine Or.inl ?_;(first|refine ⟨Qn1 8 rfl lnA apA,?_⟩|refine ⟨QD0 8 rfl apA,?_⟩);exact Q60 (set_++([(i:Int)]:List Int)) (i+1) (wkA [0]) omA ⟨foll hR (congrArg (fun p:(List Int) × Nat=>QL3 l nodes act job now p.1 p.2) (ct h7 rfl)),by exact omA,b5a2⟩
    ·exact Q60 set_ (i+1) (wkA [0]) omA ⟨foll hR (congrArg (fun p:(List Int) × Nat=>QL3 l nodes act job now p.1 p.2) (cf h7 rfl)),by exact omA,b5a2⟩
   ·rw [Qd0 (l:=l) (j:=i) (geA h5)] at hR;replace hR:QL3 l nodes act job now set_ i=R:=fo2 (fun p:(List Int) × Nat=>QL3 l nodes act job now p.1 p.2) (set_,i) hR rfl;apply ai<;>intro h9
    ·have qh9:=yda h9;exact lfA
    ·have qh9:=yca h9;refine us (AGives.lent (Q7h set_ szA (by exact fun y hy=>by have:=hx.1 y hy;have:=hcl (Bool.or_eq_false_iff.1 h1).2;omega) []) (ev (Qe0 _ _ rfl eqA lnA) .nil) (.cons lw .nil) (QT2 rfl)) ?_;refine us (QXe l (Qs5 set_) act job now szA _) ?_;apply ai<;>intro h11
     ·exact lfA
     ·exact lfA
def Qr0 (y:Int):List Int->Nat->Bool
 | [],_=>false
 | x_1 :: r,i=>bif ((Qk1 y)==x_1) then true else Qr0 y r (i+1)
def Ql6 (line:ByteArray):List (Nat × Int)->LexReader->LexReader
 | [],c=>c
 | x_ :: r,c=>Ql6 line r { c with line:=(c.line++([x_.2]:List Int)) }
def Q32 :Nat->List Token->LexReader->(List Token) × Int × Int
 | 0,_,_=>([],0,0)
 | m+1,out,c2=>bif (c2.error==0) then bif ((Q20 c2 (fun (y:Int)=>Qr0 y ([1]:List Int) 0)).2.at_==(((Q20 c2 (fun (y:Int)=>Qr0 y ([1]:List Int) 0)).2.line).length:Int)) then (out,(((Q20 c2 (fun (y:Int)=>Qr0 y ([1]:List Int) 0)).2.line).length:Int),0) else Q32 m (out++([{ (Qh0 ((Q20 c2 (fun (y:Int)=>Qr0 y ([1]:List Int) 0)).2)).1 with at_:=(Q20 c2 (fun (y:Int)=>Qr0 y ([1]:List Int) 0)).2.at_ }]:List Token)) ((Qh0 ((Q20 c2 (fun (y:Int)=>Qr0 y ([1]:List Int) 0)).2)).2) else ([],c2.bad,c2.error)
def Qm6 (c:LexReader):(List Token) × Int × Int:=Q32 ((2*((c.line.length:Int) - c.at_).toNat+(bif c.error==0 then 1 else 0))+1) [] c
def Qo1 (line:ByteArray):(List Token) × Int × Int:=bif (decide ((ByteArray.size line:Int) > 400)) then ([],0,3) else Qm6 (Ql6 line (Qf8 line) zM)
theorem b6a0 {P:Prop} (h:P:=by first|(have hq:=hrd _ (by assumption);exact ⟨hq.2.1.1,hq.2.1.2.1,hq.2.1.2.2,fun hz=>by have hq3:=hq.2.2.2 hz;simp only [ypa,yja,yJa];omega⟩)|first|(refine ⟨by omega,by omega,by omega,fun _=>by simp;omega⟩)|first|(simp [zM];done)|first|(simp;omega)|exact exA):P:=h
theorem lex_Tokens_c (line:ByteArray) (hs0:line.size<=4294967296):GV 301 [Sg line] (AVal.tup [tokenL ((Qo1 line).1),I ((Qo1 line).2.1),I ((Qo1 line).2.2)]):=by
 generalize hR:Qo1 line=R;refine gA (kp 12 [14,18,19,20,38,51]) Tryz.func301 ?_;have hk0:=hs0;obtain z15:line.size<=4294967296:=hs0;apply ai<;>intro h1
 ·have qh1:=yda h1;exact lfA
 ·have qh1:=yca h1;refine Qb0 (fun (c:LexReader) (pos:Nat)=>∃ m,ByteArray.size line - pos<=m∧Qm6 (Ql6 line (QL4 line m pos) c)=R∧c.line.length<=pos∧pos<=ByteArray.size line∧c.at_=0) (fun c pos=>ByteArray.size line - pos) (fun c pos=>[(2,AVal.lit (.slice none 0 0)),(3,I 0),(4,I 0),(5,AVal.ptr 0 0 4 0 0),(18,AVal.ptr 1 0 1 0 0)]) (fun c pos=>[(0,AObj.row 321 4 [[AVal.own 2 0 1 0 c.line.length,I c.at_,I c.bad,I c.error]]),(0,AObj.other (.strIter line pos)),(0,AObj.row 21 1 (c.line.map (fun q_=>[J q_])))]) zM 0 ((QC1 21 1).trans (wkA [0,1,2])) ⟨ByteArray.size line,by first|(have hq:=hrd _ (by assumption);omega)|exact omA,foll hR (cf h1 rfl),b6a0⟩ ?_;clear hR;rintro c pos ⟨m,hm,hR,hx⟩;(try dsimp only at hR hm hx);apply ai<;>intro h3
  ·have hlt:=yda h3;have hw:=Q09 line pos;have hwe:=QZ8 line pos hlt;obtain ⟨m,rfl⟩:=sucA m;rw [Qy3 h3] at hR;refine ai (fun _=>?_) (fun h=>nomatch h);refine Or.inl ?_;(first|refine ⟨Qn1 4 rfl lnA apA,?_⟩|refine ⟨QD0 4 rfl apA,?_⟩);exact Q60 { c with line:=(c.line++([(pos,((Utf8.decode line pos).1:Int)).2]:List Int)) } (pos+(Utf8.decode line pos).2) (wkA [0,1,2]) (by first|(have hq:=hrd _ (by assumption);omega)|exact omA) ⟨m,by first|(have hq:=hrd _ (by assumption);omega)|exact omA,foll hR (congrArg (fun p:LexReader=>Qm6 p) rfl),b6a0⟩
  ·rw [Qd6 h3] at hR;refine ai (fun h=>nomatch h) (fun _=>?_);replace hR:Qm6 c=R:=fo2 (fun p:LexReader=>Qm6 p) (c) hR rfl;refine Or.inl ?_;refine ACalls.of_cwp (fun _=>true) Tryz.func306 rfl rfl ?_;refine ⟨_,_,Told.refl,?_⟩;refine Qb0 (fun (out:List Token) (c2:LexReader)=>∃ m,(2*((c2.line.length:Int) - c2.at_).toNat+(bif c2.error==0 then 1 else 0))<m∧Q32 m out c2=R∧0<=c2.at_∧c2.at_<=(c2.line.length:Int)∧c2.line.length<=400∧((c2.error==0)=true->(out.length:Int)<=c2.at_)) (fun out c2=>(2*((c2.line.length:Int) - c2.at_).toNat+(bif c2.error==0 then 1 else 0))) (fun out c2=>[(2,AVal.lit (.slice none 0 0)),(3,I 0),(4,I 0),(5,AVal.ptr 0 0 4 0 0),(8,AVal.fn (.func 315) [] [AVal.ptr 1 0 1 0 0]),(9,AVal.own 2 0 4 0 out.length)]) (fun out c2=>[(0,AObj.row 321 4 [[runes c2.line,I c2.at_,I c2.bad,I c2.error]]),(0,AObj.row 52 1 [[ints ([1]:List Int)]]),(0,AObj.row 305 4 (out.map Token.cells))]) [] c ((QC1 305 4).trans (wk [0,3,4] (tO rfl (Qi3 (cv (Qi7 _ _ rfl (yva _) (by decide) eqA (fun _=>lowL1 rfl) lnA) (c1 (c1 (c1 .nil))))) (tO rfl (Qi3 (cv (turn_as (QX5 (c:=(fun q_=>[I q_])) (d:=0) ([1]:List Int) rfl) lw) .nil)) (tO rfl (tl eqA) .nil))) (s1 (s1 (s1 (sv (Qm1 0 rfl rfl) (sv (QF8 .nil (cv (Qm1 1 rfl rfl) .nil)) (sv (Q48 2 rfl) .nil)))))))) ⟨_,yCa _,foll hR rfl,b6a0⟩ ?_;clear hR;rintro out c2 ⟨m,hm,hR,hx⟩;(try dsimp only at hR hm hx);obtain ⟨m,rfl⟩:=sucA m;apply ai<;>intro h5
   ·have hol:=hx.2.2.2 h5;have hrd:=fun (b:Int->Bool) (hn:((Q20 c2 b).2.at_==((Q20 c2 b).2.line.length:Int))=false)=>lex_round c2 _ b oA oA oA h5 rfl hn;have cl1:∀ (y1:Int),AMoves Tryz.prog 315 [J y1,AVal.ptr 0 0 1 0 0] [(0,AObj.row 52 1 [[ints ([1]:List Int)]])] 1 (Bo ((fun (y:Int)=>Qr0 y ([1]:List Int) 0) y1)) [(0,AObj.row 52 1 [[ints ([1]:List Int)]])]:=by
     intro y1;have hR:(fun (y:Int)=>Qr0 y ([1]:List Int) 0) y1=(fun (y:Int)=>Qr0 y ([1]:List Int) 0) y1:=rfl;refine mo (kp 6 [6,7,8,9,15]) Tryz.func315 ?_;refine Qg0 (fun (i:Nat)=>Qr0 y1 (List.drop i ([1]:List Int)) i=(fun (y:Int)=>Qr0 y ([1]:List Int) 0) y1∧i<=([1]:List Int).length) (fun i=>([1]:List Int).length - i) (fun i=>[(0,J y1),(3,Bo false),(6,ints ([1]:List Int)),(7,I (([1]:List Int).length:Int)),(8,I (i:Int))]) (fun i=>[(0,AObj.row 52 1 [[ints ([1]:List Int)]])]) 0 (wkA [0]) ⟨foll hR rfl,by exact omA⟩ ?_;clear hR;rintro i ⟨hR,hj⟩;(try dsimp only at hR hj);apply ai<;>intro h7
     ·(have hlt:i<([1]:List Int).length:=by have:=yda h7;omega);rw [Qa0 0 hlt] at hR;refine ai gkA ?_;refine us (Qm5 y1 _) ?_;apply ai<;>intro h9
      ·refine Qu0 (fun r:Bool=>Bo r) (fun _=>[(0,AObj.row 52 1 [[ints ([1]:List Int)]])]) (leaf:=true) (foll hR (ct h9 rfl)) ?_;exact tt [0] (tO rfl (ts (lv lw LowL.nil)) .nil) t1
      ·exact Qn0 (i+1) (wkA [0]) omA ⟨folA,by exact omA⟩
     ·rw [Qd0 (l:=([1]:List Int)) (j:=i) (geA h7)] at hR;refine Qu0 (fun r:Bool=>Bo r) (fun _=>[(0,AObj.row 52 1 [[ints ([1]:List Int)]])]) (leaf:=false) (foll hR rfl) ?_;exact tt [0] (tO rfl (ts (lv lw LowL.nil)) .nil) t1
    have hof1:AMoves Tryz.prog 307 [AVal.ptr 0 0 4 0 0,AVal.fn (.func 315) [] [AVal.ptr 1 0 1 0 0]] [(0,AObj.row 321 4 [[runes c2.line,I c2.at_,I c2.bad,I c2.error]]),(0,AObj.row 52 1 [[ints ([1]:List Int)]])] 2 (Sg ((Q20 c2 (fun (y:Int)=>Qr0 y ([1]:List Int) 0)).1)) [(0,AObj.row 321 4 [[runes (((Q20 c2 (fun (y:Int)=>Qr0 y ([1]:List Int) 0)).2).line),I (((Q20 c2 (fun (y:Int)=>Qr0 y ([1]:List Int) 0)).2).at_),I (((Q20 c2 (fun (y:Int)=>Qr0 y ([1]:List Int) 0)).2).bad),I (((Q20 c2 (fun (y:Int)=>Qr0 y ([1]:List Int) 0)).2).error)]]),(0,AObj.row 52 1 [[ints ([1]:List Int)]])]:=by
     have hR:Q20 c2 (fun (y:Int)=>Qr0 y ([1]:List Int) 0)=Q20 c2 (fun (y:Int)=>Qr0 y ([1]:List Int) 0):=rfl;refine mo (kp 6 [33]) Tryz.func307 ?_;refine Qg0 (fun (c3:LexReader)=>∃ m,(((c3.line.length:Int) - c3.at_).toNat)<m∧QH0 c2 (QG0 (fun (y:Int)=>Qr0 y ([1]:List Int) 0) m c3)=Q20 c2 (fun (y:Int)=>Qr0 y ([1]:List Int) 0)∧0<=c3.at_∧c3.at_<=(c3.line.length:Int)∧c3.line.length<=400∧c2.at_<=c3.at_∧0<=c2.at_) (fun c3=>(((c3.line.length:Int) - c3.at_).toNat)) (fun c3=>[(0,AVal.ptr 0 0 4 0 0),(1,AVal.fn (.func 315) [] [AVal.ptr 1 0 1 0 0]),(4,Sg ⟨#[]⟩),(5,I c2.at_)]) (fun c3=>[(0,AObj.row 321 4 [[runes c3.line,I c3.at_,I c3.bad,I c3.error]]),(0,AObj.row 52 1 [[ints ([1]:List Int)]])]) c2 (wkA [0,1]) ⟨_,yCa _,foll hR rfl,by exact exA⟩ ?_;clear hR;rintro c3 ⟨m,hm,hR,hx⟩;(try dsimp only at hR hm hx);obtain ⟨m,rfl⟩:=sucA m;refine dchk (by kernel_rfl) ?_;refine ai gkA ?_;(first|apply u2|apply u3|apply u4|apply us);exact mv [1] (cl1 (c3.line.getD (c3.at_.toNat) 0)) (dO (ds (lv lw LowL.nil)) .nil) (d1 (dp .nil)) (rO (re (lv lw LowL.nil)) .nil) rx;(repeat ((first|refine ai rfl ?_|refine ai (fun _=>rfl) ?_)));apply ai<;>intro h11
     ·have hq1:=yda ((yea _ _).mp h11).1;have hwr:w64 (c3.at_+1)=c3.at_+1:=wr oA;exact Qn0 { c3 with at_:=(w64 (c3.at_+1)) } (wk [0,1] (tO rfl (ts LexReader.lo) (tO rfl (ts (lv lw LowL.nil)) .nil)) (sv (Qm1 0 rfl rfl) (sv (QF8 .nil (cv (Qm1 1 rfl rfl) .nil)) (s1 (s1 .nil))))) omA ⟨m,by exact omA,foll hR (congrArg (fun p:LexReader=>QH0 c2 p) (ct h11 rfl)),by exact exA⟩
     ·replace hR:QH0 c2 c3=Q20 c2 (fun (y:Int)=>Qr0 y ([1]:List Int) 0):=fo2 (fun p:LexReader=>QH0 c2 p) (c3) hR (cf h11 rfl);refine dchk (by kernel_rfl) ?_;refine ai gkA ?_;(first|refine ⟨(List.drop (c2.at_.toNat) (List.take (c3.at_.toNat) c3.line)),by exact cvA,?_⟩|refine ⟨_,fun _=>⟨(List.drop (c2.at_.toNat) (List.take (c3.at_.toNat) c3.line)),by exact cvA,rfl,rfl⟩,?_⟩|refine ⟨_,rfl,⟨(List.drop (c2.at_.toNat) (List.take (c3.at_.toNat) c3.line)),by exact cvA,Sub.refl _,rfl⟩,?_⟩);(repeat ((first|refine ai rfl ?_|refine ai (fun _=>rfl) ?_)));refine Qu0 (fun r:ByteArray × LexReader=>Sg r.1) (fun r:ByteArray × LexReader=>[(0,AObj.row 321 4 [[runes r.2.line,I r.2.at_,I r.2.bad,I r.2.error]]),(0,AObj.row 52 1 [[ints ([1]:List Int)]])]) (leaf:=((runesBytes (List.drop (c2.at_.toNat) (List.take (c3.at_.toNat) c3.line))),c3)) (foll hR rfl) ?_;exact tt [0,1] (tO rfl (ts LexReader.lo) (tO rfl (ts (lv lw LowL.nil)) .nil)) t1
    refine us (mv [0,1] (hof1) (dO (ds LexReader.lo) (dO (ds (lv lw LowL.nil)) .nil)) (dp (dv (dn_fn .nil (dp .nil)) .nil)) (rO (re LexReader.lo) (rO (re (lv lw LowL.nil)) .nil)) rx) ?_;refine dchk (by kernel_rfl) ?_;(repeat ((first|refine ai rfl ?_|refine ai (fun _=>rfl) ?_)));apply ai<;>intro h13
    ·refine dchk (by kernel_rfl) ?_;(repeat ((first|refine ai rfl ?_|refine ai (fun _=>rfl) ?_)));obtain rfl:=foll hR (ct h5 (ct h13 rfl));exact Qc0 (Low.tup' (.cons lw (l1 (l1 .nil)))) (Seen.tup (ev (Qe0 zD _ rfl eqA lnA) (e1 (e1 .nil))))
    ·refine us (mv [0] (Qde ((Q20 c2 (fun (y:Int)=>Qr0 y ([1]:List Int) 0)).2) (by first|(exact yHa (hrd _ (by assumption)).1.2.2 (by decide))|exact szA) (by exact (hrd _ (by assumption)).1)) (dO (ds LexReader.lo) .nil) (dp .nil) (rO (re LexReader.lo) .nil) (Ren.low _ (Low.agg' (Token.lo)))) ?_;refine Or.inl ?_;(first|refine ⟨Qn1 40 rfl lnA apA,?_⟩|refine ⟨QD0 40 rfl apA,?_⟩);exact Q60 (out++([{ (Qh0 ((Q20 c2 (fun (y:Int)=>Qr0 y ([1]:List Int) 0)).2)).1 with at_:=(Q20 c2 (fun (y:Int)=>Qr0 y ([1]:List Int) 0)).2.at_ }]:List Token)) ((Qh0 ((Q20 c2 (fun (y:Int)=>Qr0 y ([1]:List Int) 0)).2)).2) (wkA [0,1,2]) (by first|(have hq:=hrd _ (by assumption);omega)|exact omA) ⟨m,by first|(have hq:=hrd _ (by assumption);omega)|exact omA,foll hR (ct h5 (cf h13 rfl)),b6a0⟩
   ·refine dchk (by kernel_rfl) ?_;(repeat ((first|refine ai rfl ?_|refine ai (fun _=>rfl) ?_)));exact lfA
def QC2 (v:Job):Bool:=((((v.start==0)&&(v.limit==0))&&(v.nodes==0))&&(((v.promise==(-1))&&(v.choice==0))||(((Qw2 v.promise)&&(QM0 v v.choice).2)&&(!v.held))))
theorem Qce (v:Job) (hs0:v.sz):GV 196 [Job.a v] (Bo (QC2 v)):=by
 generalize hR:QC2 v=R;refine gA (kp 6 []) Tryz.func196 ?_;obtain ⟨z1,z2,z3,z4,z5⟩:=Job.zz hs0;refine us (Q0a v v.choice szA _) ?_;(first|apply u2|apply u3|apply u4|apply us);exact Q87 v.promise _;exact lfA
def Qr1 (v:Job):Bool:=bif (((((((!(QM0 v v.choice).2)||v.held)||(!(Qw2 v.start)))||(!(Qw2 v.promise)))||(decide (v.promise<v.start)))||(!(Qw2 v.limit)))||((w64 (v.limit - v.start))!=(QM0 v v.choice).1.wall)) then false else ((Qm7 v.nodes)&&(Qh3 v.shape v.choice (Q10 v.nodes)))
theorem Qdd (v:Job) (hs0:v.sz):GV 197 [Job.a v] (Bo (Qr1 v)):=by
 generalize hR:Qr1 v=R;refine gA (kp 5 [61]) Tryz.func197 ?_;obtain ⟨z3,z4,z5,z6,z7⟩:=Job.zz hs0;refine us (Q0a v v.choice szA _) ?_;(first|apply u2|apply u3|apply u4|apply us);exact Q87 v.start _;(first|apply u2|apply u3|apply u4|apply us);exact Q87 v.promise _;(first|apply u2|apply u3|apply u4|apply us);exact Q87 v.limit _;apply ai<;>intro h1
 ·exact lfA
 ·refine dchk (by kernel_rfl) ?_;(first|apply u2|apply u3|apply u4|apply us);exact Qva v.nodes _;(first|apply u2|apply u3|apply u4|apply us);exact Qh1 v.nodes _;(first|apply u2|apply u3|apply u4|apply us);exact Qg8 v.shape v.choice (Q10 v.nodes) szA _;(repeat ((first|refine ai rfl ?_|refine ai (fun _=>rfl) ?_|refine ai (fun _=>Qva v.nodes _) ?_|refine ai (fun _=>Qh1 v.nodes _) ?_|refine ai (fun _=>Qg8 v.shape v.choice (Q10 v.nodes) szA _) ?_)));exact lfA
def Qc6 (s:State) (r_:Resize) (j:Job) (c:Int):Bool:=bif (((Q03 s (fun (y:Int) (y1:Node)=>((y1.job==r_.job)&&(y1.want==c))))!=(wu64 (BitVec.ofInt 64 r_.nodes &&& ~~~(BitVec.ofInt 64 r_.said)).toNat))||(!(QS2 s.nodes r_.said))) then false else bif r_.grow then ((r_.nodes==(Ql7 s.nodes r_.job 2))&&(decide ((w64 ((Q10 j.nodes)+(Q10 r_.nodes)))<=j.shape.max))) else (((wu64 (BitVec.ofInt 64 r_.nodes &&& ~~~(BitVec.ofInt 64 j.nodes)).toNat)==0)&&(decide ((w64 ((Q10 j.nodes) - (Q10 r_.nodes))) >= j.shape.min)))
def QO3 (s:State) (r_:Resize) (j:Job):Bool:=bif (((((j.shape.kind != 3)||(r_.nodes==0))||((wu64 (BitVec.ofInt 64 r_.said &&& ~~~(BitVec.ofInt 64 r_.nodes)).toNat)!=0))||(decide (r_.since<0)))||(decide (r_.since > 1000000))) then false else bif r_.grow then Qc6 s r_ j 2 else Qc6 s r_ j 4
theorem Qcc (s:State) (r_:Resize) (j:Job) (hs0:s.sz) (hs1:j.sz):GV 123 [State.a s,Resize.a r_,Job.a j] (Bo (QO3 s r_ j)):=by
 generalize hR:QO3 s r_ j=R;refine gA (kj [1000006] 11 [37,39,57,65]) Tryz.func123 ?_;have hk0:=hs0;obtain ⟨z13,z14,z15,z16,z17,z18,z19⟩:=hs0;obtain ⟨z20,z21,z22,z23,z24⟩:=Job.zz hs1;apply ai<;>intro h1
 ·obtain rfl:=foll hR (ct h1 rfl);exact Qc0 lx sr
 ·refine Q81 (fun (c:Int)=>Qc6 s r_ j c=R) (fun c=>[(3,AVal.ptr 0 0 8 0 0),(4,AVal.ptr 1 0 5 0 0),(5,AVal.ptr 2 0 20 0 0),(6,Bo false),(7,AVal.ptr 3 0 1 0 0)]) (fun c=>[(0,AObj.row 28 8 [[I s.now,nodeL s.nodes,jobL s.jobs,QA1 s.resizes,bookL s.books,QI2 s.ledger,I s.nextJob,I s.nextBook]]),(0,AObj.row 49 5 [[I r_.job,Bo r_.grow,U r_.nodes,U r_.said,I r_.since]]),(0,AObj.row 72 20 [[I j.id,Sg j.name,Sg j.user,Sg j.account,I j.shape.kind,altL j.shape.alts,I j.shape.min,I j.shape.max,I j.shape.wall,I j.prio,depL j.after,I j.state,Bo j.held,I j.born,I j.promise,I j.choice,I j.start,I j.limit,U j.nodes,I j.used]]),(0,AObj.row 3 1 [[I c]])]) ?_ ?_
  ·clear hR;rintro c hR;(try dsimp only at hR);have cl1:∀ (y1:Int) (y2:Node),AMoves Tryz.prog 183 [I y1,Node.a y2,AVal.ptr 0 0 5 0 0,AVal.ptr 1 0 1 0 0] [(0,AObj.row 49 5 [[I r_.job,Bo r_.grow,U r_.nodes,U r_.said,I r_.since]]),(0,AObj.row 3 1 [[I c]])] 2 (Bo ((fun (y:Int) (y1:Node)=>((y1.job==r_.job)&&(y1.want==c))) y1 y2)) [(0,AObj.row 49 5 [[I r_.job,Bo r_.grow,U r_.nodes,U r_.said,I r_.since]]),(0,AObj.row 3 1 [[I c]])]:=by
    intro y1 y2;have hR:(fun (y:Int) (y1:Node)=>((y1.job==r_.job)&&(y1.want==c))) y1 y2=(fun (y:Int) (y1:Node)=>((y1.job==r_.job)&&(y1.want==c))) y1 y2:=rfl;refine mo (kp 7 []) Tryz.func183 ?_;refine Qu0 (fun r:Bool=>Bo r) (fun _=>[(0,AObj.row 49 5 [[I r_.job,Bo r_.grow,U r_.nodes,U r_.said,I r_.since]]),(0,AObj.row 3 1 [[I c]])]) (leaf:=((y2.job==r_.job)&&(y2.want==c))) (foll hR rfl) ?_;exact tt [0,1] (tO rfl (ts Resize.lo) (tO rfl (ts (l1 LowL.nil)) .nil)) t1
   have hof1:AMoves Tryz.prog 182 [State.a s,AVal.fn (.func 183) [] [AVal.ptr 0 0 5 0 0,AVal.ptr 1 0 1 0 0]] [(0,AObj.row 49 5 [[I r_.job,Bo r_.grow,U r_.nodes,U r_.said,I r_.since]]),(0,AObj.row 3 1 [[I c]])] 2 (U (Q03 s (fun (y:Int) (y1:Node)=>((y1.job==r_.job)&&(y1.want==c))))) [(0,AObj.row 49 5 [[I r_.job,Bo r_.grow,U r_.nodes,U r_.said,I r_.since]]),(0,AObj.row 3 1 [[I c]])]:=by
    have hR:Q03 s (fun (y:Int) (y1:Node)=>((y1.job==r_.job)&&(y1.want==c)))=Q03 s (fun (y:Int) (y1:Node)=>((y1.job==r_.job)&&(y1.want==c))):=rfl;refine mo (kp 10 [11,12,13,14,21]) Tryz.func182 ?_;refine Qb0 (fun (l:List Int) (i:Nat)=>QF4 (QK6 (fun (y:Int) (y1:Node)=>((y1.job==r_.job)&&(y1.want==c))) (List.drop i s.nodes) l i)=Q03 s (fun (y:Int) (y1:Node)=>((y1.job==r_.job)&&(y1.want==c)))∧i<=s.nodes.length∧l.length<=i) (fun l i=>s.nodes.length - i) (fun l i=>[(1,AVal.fn (.func 183) [] [AVal.ptr 0 0 5 0 0,AVal.ptr 1 0 1 0 0]),(4,U 0),(5,AVal.own 2 0 1 0 l.length),(11,nodeL s.nodes),(12,I (s.nodes.length:Int)),(13,I (i:Int))]) (fun l i=>[(0,AObj.row 49 5 [[I r_.job,Bo r_.grow,U r_.nodes,U r_.said,I r_.since]]),(0,AObj.row 3 1 [[I c]]),(0,AObj.row 3 1 (l.map (fun q_=>[I q_])))]) [] 0 ((QC1 3 1).trans (wkA [0,1,3])) ⟨foll hR rfl,by exact omA,by exact exA⟩ ?_;clear hR;rintro l i ⟨hR,hj,hx⟩;(try dsimp only at hR hj hx);apply ai<;>intro h3
    ·have hlt:=ltA h3;rw [Qa0 zF hlt] at hR;refine ai gkA ?_;refine us (mv [0,1] (cl1 (i:Int) (s.nodes.getD i zF)) (dO (ds Resize.lo) (dO (ds (l1 LowL.nil)) .nil)) (d1 (dl (Node.low _ _) (dp (dp .nil)))) (rO (re Resize.lo) (rO (re (l1 LowL.nil)) .nil)) rx) ?_;apply ai<;>intro h5
     ·refine Or.inl ?_;(first|refine ⟨Qn1 8 rfl lnA apA,?_⟩|refine ⟨QD0 8 rfl apA,?_⟩);exact Q60 (l++([(i:Int)]:List Int)) (i+1) (wkA [0,1,2]) omA ⟨foll hR (congrArg (fun p:(List Int)=>QF4 p) (ct h5 rfl)),by exact omA,by exact exA⟩
     ·exact Q60 l (i+1) (wkA [0,1,2]) omA ⟨foll hR (congrArg (fun p:(List Int)=>QF4 p) (cf h5 rfl)),by exact omA,by exact exA⟩
    ·rw [Qd0 (l:=s.nodes) (j:=i) (geA h3)] at hR;replace hR:QF4 l=Q03 s (fun (y:Int) (y1:Node)=>((y1.job==r_.job)&&(y1.want==c))):=fo2 (fun p:(List Int)=>QF4 p) (l) hR rfl;refine us (AGives.lent (Qr8 l szA []) (ev (Qe0 _ _ rfl eqA lnA) .nil) (.cons lw .nil) (QT2 rfl)) ?_;refine Qu0 (fun r:Int=>U r) (fun r:Int=>[(0,AObj.row 49 5 [[I r_.job,Bo r_.grow,U r_.nodes,U r_.said,I r_.since]]),(0,AObj.row 3 1 [[I c]])]) (leaf:=(QS0 l).1) (foll hR rfl) ?_;exact tt [0,1] (tO rfl (ts Resize.lo) (tO rfl (ts (l1 LowL.nil)) .nil)) t1
   refine us (mv [1,3] (hof1) (dO (ds Resize.lo) (dO (ds (l1 LowL.nil)) .nil)) (dv (QI7 (Low.agg' (State.lo))) (dv (dn_fn .nil (dp (dp .nil))) .nil)) (rO (re Resize.lo) (rO (re (l1 LowL.nil)) .nil)) rx) ?_;(first|apply u2|apply u3|apply u4|apply us);exact Qca s.nodes r_.said szA _;apply ai<;>intro h7
   ·obtain rfl:=foll hR (ct h7 rfl);exact Qc0 lx sr
   ·refine dchk (by kernel_rfl) ?_;(first|apply u2|apply u3|apply u4|apply us);exact Qh1 j.nodes _;(first|apply u2|apply u3|apply u4|apply us);exact Qh1 r_.nodes _;(repeat ((first|refine ai rfl ?_|refine ai (fun _=>rfl) ?_|refine ai (fun _=>Qh1 j.nodes _) ?_|refine ai (fun _=>Qh1 r_.nodes _) ?_)));apply ai<;>intro h9
    ·refine dchk (by kernel_rfl) ?_;(first|apply u2|apply u3|apply u4|apply us);exact Qbe s.nodes r_.job 2 szA _;(repeat ((first|refine ai rfl ?_|refine ai (fun _=>rfl) ?_|refine ai (fun _=>Qbe s.nodes r_.job 2 szA _) ?_)));obtain rfl:=foll hR (cf h7 (ct h9 rfl));exact Qc0 lx sr
    ·obtain rfl:=foll hR (cf h7 (cf h9 rfl));exact Qc0 lx sr
  ·apply ai<;>intro h11
   ·exact Q90 2 (wkA [0,1,2,3]) (foll hR (cf h1 (ct h11 rfl)))
   ·exact Q90 4 (wkA [0,1,2,3]) (foll hR (cf h1 (cf h11 rfl)))
def Qj3 (l:List Node) (job:Int):Int:=bif (decide (job<1)) then 0 else (Ql7 l job 1)
theorem Qye (l:List Node) (job:Int) (hs0:l.length<=4294967296):GV 77 [nodeL l,I job] (U (Qj3 l job)):=by
 generalize hR:Qj3 l job=R;refine gA (kp 5 [6]) Tryz.func77 ?_;have hk0:=hs0;obtain z3:l.length<=4294967296:=hs0;apply ai<;>intro h1
 ·have qh1:=yda h1;exact lfA
 ·have qh1:=yca h1;refine us (Qbe l job 1 szA _) ?_;exact lfA
def Q12 (set_:Int) (act:Int) (job:Int) (now:Int):List Int->Nat->List Node->(List Node) × (List Note) × Int
 | [],_,c=>bif (!(QW3 act)) then (c,[],0) else (c,(Qb5 c (Qo0 set_)),0)
 | x_ :: r,i,c=>bif ((Q44 c x_ act job now).2==0) then bif ((Q44 c x_ act job now).2 != 0) then ([],[],(Q44 c x_ act job now).2) else Q12 set_ act job now r (i+1) ((Q44 c x_ act job now).1) else bif ((Q44 c x_ act job now).2 != 0) then ([],[],(Q44 c x_ act job now).2) else Q12 set_ act job now r (i+1) c
def Qv0 (l:List Node) (set_:Int) (act:Int) (job:Int) (now:Int):(List Node) × (List Note) × Int:=bif ((Q80 l)!=0) then ([],[],(Q80 l)) else Q12 set_ act job now (Qo0 set_) 0 l
theorem b6a1 {P:Prop} (h:P:=by first|((have q:=fleet_Do_len c ((Qo0 set_).getD i 0) act job now;omega))|exact exA):P:=h
theorem QE1 (l:List Node) (set_:Int) (act:Int) (job:Int) (now:Int) (hs0:l.length<=4294967296):GV 97 [nodeL l,U set_,I act,I job,I now] (AVal.tup [nodeL ((Qv0 l set_ act job now).1),noteL ((Qv0 l set_ act job now).2.1),I ((Qv0 l set_ act job now).2.2)]):=by
 generalize hR:Qv0 l set_ act job now=R;refine gA (kp 20 [23,28,29,30,31,38,46]) Tryz.func97 ?_;have hk0:=hs0;obtain z13:l.length<=4294967296:=hs0;have hll:=QA8 set_;refine us (Qr3 l szA _) ?_;apply ai<;>intro h1
 ·exact lfA
 ·refine us (Q8c set_ _) ?_;refine Qb0 (fun (i:Nat) (c:List Node)=>Q12 set_ act job now (List.drop i (Qo0 set_)) i c=R∧i<=(Qo0 set_).length∧c.length<=4294967296) (fun i c=>(Qo0 set_).length - i) (fun i c=>[(5,AVal.ptr 0 0 1 0 0),(7,AVal.ptr 1 0 1 0 0),(10,AVal.lit (.slice none 0 0)),(11,AVal.lit (.slice none 0 0)),(12,I 0),(14,ints (Qo0 set_)),(15,AVal.fn (.func 155) [] [AVal.ptr 0 0 1 0 0,AVal.ptr 1 0 1 0 0,AVal.ptr 2 0 1 0 0,AVal.ptr 3 0 1 0 0]),(28,ints (Qo0 set_)),(29,I ((Qo0 set_).length:Int)),(30,I (i:Int))]) (fun i c=>[(0,AObj.row 22 1 [[nodeL c]]),(0,AObj.row 3 1 [[I act]]),(0,AObj.row 3 1 [[I job]]),(0,AObj.row 3 1 [[I now]])]) 0 l (wkA [0,1,2,3]) ⟨folA,by exact omA,b6a1⟩ ?_;clear hR;rintro i c ⟨hR,hj,hx⟩;(try dsimp only at hR hj hx);apply ai<;>intro h3
  ·have hlt:=ltA h3;rw [Qa0 0 hlt] at hR;refine ai gkA ?_;refine ACalls.of_cwp (fun _=>true) Tryz.func155 rfl rfl ?_;refine us (fleet_Do_c c ((Qo0 set_).getD i 0) act job now szA _) ?_;apply ai<;>intro h5
   ·refine ⟨_,_,Told.refl,?_⟩;apply ai<;>intro h7
    ·exact lfA
    ·exact Q60 (i+1) ((Q44 c ((Qo0 set_).getD i 0) act job now).1) (wkA [0,1,2,3]) omA ⟨folA,by exact omA,b6a1⟩
   ·refine ⟨_,_,Told.refl,?_⟩;apply ai<;>intro h9
    ·exact lfA
    ·exact Q60 (i+1) c (wkA [0,1,2,3]) omA ⟨folA,by exact omA,b6a1⟩
  ·rw [Qd0 (l:=(Qo0 set_)) (j:=i) (geA h3)] at hR;(first|refine ⟨Qn1 56 rfl lnA apA,?_⟩|refine ⟨QD0 56 rfl apA,?_⟩);refine us (alloc_sends_c act _) ?_;apply ai<;>intro h11
   ·obtain rfl:=foll hR (ct h11 rfl);exact Qc0 (Low.tup' (.cons lw (.cons lw (l1 .nil)))) (Seen.tup (ev (Qe0 zF _ rfl eqA lnA) (ev (Q30) (e1 .nil))))
   ·refine us (alloc_Notes_c c (Qo0 set_) szA szA _) ?_;obtain rfl:=foll hR (cf h11 rfl);exact Qc0 (Low.tup' (.cons lw (.cons lw (l1 .nil)))) (Seen.tup (ev (Qe0 zF _ rfl eqA lnA) (e1 (e1 .nil))))
theorem Qy8 (l:List Node):∀ (r:List Int) (out:List Note) (i:Nat),(Q13 l r out i).length<=out.length+r.length
 | [],out,_=>by rw [Q13];simp
 | x :: r,out,i=>by
  rw [Q13];cases (QR4 l x).2 with
  | true =>
   have:=Qy8 l r (out++[(QR4 l x).1]) (i+1);simp only [cond_true,ypa,yja,yJa] at *;omega
  | false =>
   have:=Qy8 l r out (i+1);simp only [cond_false,yja] at *;omega
theorem QUa (set_ act job now:Int):∀ (r:List Int) (i:Nat) (c:List Node),(Q12 set_ act job now r i c).2.1.length<=64
 | [],i,c=>by
  rw [Q12];cases (!(QW3 act)) with
  | true=>simp
  | false =>
   have h:=Qy8 c (Qo0 set_) [] 0;have h2:=QA8 set_;simp only [cond_false,Qb5,Ql4];simp only [yJa] at h;omega
 | x :: r,i,c=>by
  rw [Q12];cases ((Q44 c x act job now).2==0) <;> cases ((Q44 c x act job now).2 != 0) <;> simp only [cond_true,cond_false] <;> first|exact QUa set_ act job now r _ _|exact yva _
theorem Qz3 (l:List Node) (set_ act job now:Int):(Qv0 l set_ act job now).2.1.length<=64:=by
 unfold Qv0;cases (Q80 l != 0) with
 | true=>exact yva _
 | false=>exact QUa _ _ _ _ _ _ _
def QO0 (line:ByteArray):Nat->List Token->Int->(List Token) × Int × Int
 | 0,_,_=>([],0,0)
 | m+1,out,i=>bif (decide (i<((QN0 line).length:Int))) then bif ((Qj0 ((QN0 line).getD (i.toNat) 0))==1) then QO0 line m out (w64 (i+1)) else bif ((Qi1 (QN0 line) i).2.2.2 != 0) then ([],(Qi1 (QN0 line) i).2.2.1,(Qi1 (QN0 line) i).2.2.2) else QO0 line m (out++([(Qi1 (QN0 line) i).1]:List Token)) ((Qi1 (QN0 line) i).2.1) else (out,((QN0 line).length:Int),0)
def QJ0 (line:ByteArray):(List Token) × Int × Int:=bif (decide ((ByteArray.size line:Int) > 400)) then ([],0,3) else QO0 line (((((QN0 line).length:Int) - 0).toNat)+1) [] 0
theorem b6a2 {P:Prop} (h:P:=by first|(have hp2:=hp1 (by assumption);refine ⟨by omega,by omega,?_⟩;simp only [ypa,yja,yJa];omega)|exact exA):P:=h
theorem ref05_Tokens_c (line:ByteArray) (hs0:line.size<=4294967296):GV 304 [Sg line] (AVal.tup [tokenL ((QJ0 line).1),I ((QJ0 line).2.1),I ((QJ0 line).2.2)]):=by
 generalize hR:QJ0 line=R;refine gA (kp 12 [14,20,26,38]) Tryz.func304 ?_;have hk0:=hs0;obtain z9:line.size<=4294967296:=hs0;have hf0:=Qkb line;apply ai<;>intro h1
 ·have qh1:=yda h1;exact lfA
 ·have qh1:=yca h1;refine us (ref05_Runes_c line szA _) ?_;refine Qb0 (fun (out:List Token) (i:Int)=>∃ m,((((QN0 line).length:Int) - i).toNat)<m∧QO0 line m out i=R∧0<=i∧i<=((QN0 line).length:Int)∧(out.length:Int)<=i) (fun out i=>((((QN0 line).length:Int) - i).toNat)) (fun out i=>[(2,AVal.lit (.slice none 0 0)),(3,I 0),(4,I 0),(5,runes (QN0 line)),(6,AVal.own 0 0 4 0 out.length),(7,I i)]) (fun out i=>[(0,AObj.row 305 4 (out.map Token.cells))]) [] 0 ((QC1 305 4).trans (wkA [0])) ⟨_,yCa _,foll hR (cf h1 rfl),b6a2⟩ ?_;clear hR;rintro out i ⟨m,hm,hR,hx⟩;(try dsimp only at hR hm hx);obtain ⟨m,rfl⟩:=sucA m;apply ai<;>intro h3
  ·have qh3:=yda h3;have hw1:w64 (i+1)=i+1:=wr oA;have hp1:=ref05_one_lt (QN0 line) i oA oA oA;refine ai gkA ?_;refine us (Qe5 ((QN0 line).getD (i.toNat) 0) _) ?_;apply ai<;>intro h5
   ·exact Q60 out (w64 (i+1)) (wkA [0]) (by first|(have hp2:=hp1 (by assumption);omega)|exact omA) ⟨m,by first|(have hp2:=hp1 (by assumption);omega)|exact omA,foll hR (ct h3 (ct h5 rfl)),b6a2⟩
   ·refine us (ref05_one_c (QN0 line) i szA ckA _) ?_;apply ai<;>intro h7
    ·exact lfA
    ·refine Or.inl ?_;(first|refine ⟨Qn1 40 rfl lnA apA,?_⟩|refine ⟨QD0 40 rfl apA,?_⟩);exact Q60 (out++([(Qi1 (QN0 line) i).1]:List Token)) ((Qi1 (QN0 line) i).2.1) (wkA [0]) (by first|(have hp2:=hp1 (by assumption);omega)|exact omA) ⟨m,by first|(have hp2:=hp1 (by assumption);omega)|exact omA,foll hR (ct h3 (cf h5 (cf h7 rfl))),b6a2⟩
  ·have qh3:=yca h3;obtain rfl:=foll hR (cf h3 rfl);exact Qc0 (Low.tup' (.cons lw (l1 (l1 .nil)))) (Seen.tup (ev (Qe0 zD _ rfl eqA lnA) (e1 (e1 .nil))))
def QM6 (s:ByteArray):Bool:=bif ((((Qo1 s).2.2 != 0)||((((Qo1 s).1).length:Int)!=1))||(!(((((Qo1 s).1).getD 0 zD).kind==1)&&(((((Qo1 s).1).getD 0 zD).text==s)&&(((((Qo1 s).1).getD 0 zD).num==0)&&((((Qo1 s).1).getD 0 zD).at_==0)))))) then false else true
theorem cmd_word_c (s:ByteArray) (hs0:s.size<=4294967296):GV 267 [Sg s] (Bo (QM6 s)):=by
 generalize hR:QM6 s=R;refine gA (kp 3 []) Tryz.func267 ?_;have hk0:=hs0;obtain z3:s.size<=4294967296:=hs0;refine ACalls.of_cwp (fun _=>true) Tryz.func294 rfl rfl ?_;refine ACalls.of_cwp (fun _=>true) Tryz.func302 rfl rfl ?_;refine ai (fun h=>nomatch h) (fun _=>?_);refine ai (fun h=>nomatch h) (fun _=>?_);refine ⟨_,_,Told.refl,?_⟩;refine us (lex_Tokens_c s szA _) ?_;refine dchk (by kernel_rfl) ?_;refine ai gkA ?_;refine ai (fun _=>(by kernel_rfl:eqOK _ _=true)) ?_;(repeat ((first|refine ai rfl ?_|refine ai (fun _=>rfl) ?_)));apply ai<;>intro h1
 ·refine ⟨_,_,Told.refl,?_⟩;obtain rfl:=foll hR (ct h1 rfl);exact Qc0 lx sr
 ·refine ⟨_,_,Told.refl,?_⟩;obtain rfl:=foll hR (cf h1 rfl);exact Qc0 lx sr
def Qa5 (l:List Node) (nodes:Int) (act:Int) (job:Int) (now:Int):(List Node) × Int × (List Note) × Int:=bif ((act != 1)&&(act != 2)) then ([],0,[],120) else bif ((Q80 l)!=0) then ([],0,[],120) else bif ((decide (nodes<1))||(decide (nodes > 48))) then ([],0,[],2) else bif (!(Qq1 (QN1 l) nodes).2) then ([],0,[],130) else bif ((Qv0 l ((Qq1 (QN1 l) nodes).1) act job now).2.2 != 0) then ([],0,[],(Qv0 l ((Qq1 (QN1 l) nodes).1) act job now).2.2) else ((Qv0 l ((Qq1 (QN1 l) nodes).1) act job now).1,(Qq1 (QN1 l) nodes).1,(Qv0 l ((Qq1 (QN1 l) nodes).1) act job now).2.1,0)
theorem QMc (l:List Node) (nodes:Int) (act:Int) (job:Int) (now:Int) (hs0:l.length<=4294967296):GV 36 [nodeL l,I nodes,I act,I job,I now] (AVal.tup [nodeL ((Qa5 l nodes act job now).1),U ((Qa5 l nodes act job now).2.1),noteL ((Qa5 l nodes act job now).2.2.1),I ((Qa5 l nodes act job now).2.2.2)]):=by
 generalize hR:Qa5 l nodes act job now=R;refine gA (kp 19 [19,26,30,45,57]) Tryz.func36 ?_;have hk0:=hs0;obtain z11:l.length<=4294967296:=hs0;apply ai<;>intro h1
 ·exact lfA
 ·refine us (Qr3 l szA _) ?_;apply ai<;>intro h3
  ·exact lfA
  ·apply ai<;>intro h5
   ·exact lfA
   ·refine us (fleet_Free_c l szA _) ?_;refine us (QPa (QN1 l) nodes _) ?_;apply ai<;>intro h7
    ·exact lfA
    ·refine us (QE1 l ((Qq1 (QN1 l) nodes).1) act job now szA _) ?_;apply ai<;>intro h9
     ·exact lfA
     ·exact lfA
def Qc4 (s:ByteArray):Bool:=bif (((QJ0 s).2.2 != 0)||((((QJ0 s).1).length:Int)!=1)) then false else bif ((((((QJ0 s).1).getD 0 zD).kind != 1)||(!(ByteArray.toList (((QJ0 s).1).getD 0 zD).text==ByteArray.toList s)))||((((QJ0 s).1).getD 0 zD).num != 0)) then false else true
theorem QUe (s:ByteArray) (hs0:s.size<=4294967296):GV 282 [Sg s] (Bo (Qc4 s)):=by
 generalize hR:Qc4 s=R;refine gA (kp 3 []) Tryz.func282 ?_;have hk0:=hs0;obtain z5:s.size<=4294967296:=hs0;refine ACalls.of_cwp (fun _=>true) Tryz.func299 rfl rfl ?_;refine ACalls.of_cwp (fun _=>true) Tryz.func305 rfl rfl ?_;refine ai (fun h=>nomatch h) (fun _=>?_);refine ai (fun h=>nomatch h) (fun _=>?_);refine ⟨_,_,Told.refl,?_⟩;refine us (ref05_Tokens_c s szA _) ?_;apply ai<;>intro h1
 ·refine ⟨_,_,Told.refl,?_⟩;exact lfA
 ·refine ai gkA ?_;apply ai<;>intro h3
  ·refine ⟨_,_,Told.refl,?_⟩;obtain rfl:=foll hR (cf h1 (ct h3 rfl));exact Qc0 lx sr
  ·refine ⟨_,_,Told.refl,?_⟩;obtain rfl:=foll hR (cf h1 (cf h3 rfl));exact Qc0 lx sr
def Qja (c:Cmd) (i1:Bool):Bool:=bif i1 then (QU2 c.node 0 47) else bif (c.kind==10) then (((QU2 c.from_ 0 1000000)&&c.hasTime)&&(QU2 c.nodes 1 48)) else ((c.kind==12)&&(QU2 c.job 0 99999))
def Q99 (c:Cmd) (i:Bool):Bool:=bif i then (QAe c.job) else bif (c.kind==5) then ((QAe c.job)&&(c.hasPrio||c.hasTime)) else bif (c.kind==6) then ((QAe c.job)&&(QU2 c.nodes 1 48)) else bif (c.kind==7) then Qja c (c.kind==7) else bif (c.kind==8) then Qja c (c.kind==8) else Qja c (c.kind==9)
def Qt9 (c:Cmd):Bool:=bif ((((c.hasPrio&&(!(QU2 c.prio 0 100)))||(c.hasTime&&(!(Q6e c.time))))||((!c.hasPrio)&&(c.prio != 0)))||((!c.hasTime)&&(c.time != 0))) then false else bif (c.kind==1) then (((((((Qj6 c.name)&&(Qj6 c.user))&&(Qj6 c.account))&&(QM6 c.user))&&(QM6 c.account))&&(QM8 c.after))&&((Qa2 c.shape)==0)) else bif (c.kind==2) then Q99 c (c.kind==2) else bif (c.kind==3) then Q99 c (c.kind==3) else bif (c.kind==4) then Q99 c (c.kind==4) else Q99 c (c.kind==11)
theorem cmd_fits_c (c:Cmd) (hs0:c.sz):GV 234 [Cmd.a c] (Bo (Qt9 c)):=by
 generalize hR:Qt9 c=R;refine gA (kj [1000010,1000018] 3 [40,42,43,79,87,100,110,117]) Tryz.func234 ?_;have hk0:=hs0;obtain ⟨z25,z26,z27,z28,z29⟩:c.name.size<=4294967296∧c.user.size<=4294967296∧c.account.size<=4294967296∧(c.shape.alts.length<=4294967296)∧c.after.length<=4294967296:=hs0;(first|apply u2|apply u3|apply u4|apply us);exact QC3 c.prio 0 100 _;(first|apply u2|apply u3|apply u4|apply us);exact cmd_length_c c.time _;apply ai<;>intro h1
 ·exact lfA
 ·apply ai<;>intro h3
  ·refine us (Q7e c.name szA _) ?_;(first|apply u2|apply u3|apply u4|apply us);exact Q7e c.user szA _;(first|apply u2|apply u3|apply u4|apply us);exact Q7e c.account szA _;(first|apply u2|apply u3|apply u4|apply us);exact cmd_word_c c.user szA _;(first|apply u2|apply u3|apply u4|apply us);exact cmd_word_c c.account szA _;(first|apply u2|apply u3|apply u4|apply us);exact cmd_deps_c c.after szA _;(first|apply u2|apply u3|apply u4|apply us);exact QMd c.shape szA _;exact lfA
  ·refine Q81 (fun (i:Bool)=>Q99 c i=R) (fun i=>[(1,AVal.ptr 0 0 18 0 0),(2,Bo false),(42,I c.kind),(79,Bo i)]) (fun i=>[(0,AObj.row 234 18 [[I c.kind,I c.job,Sg c.name,Sg c.user,Sg c.account,I c.shape.kind,altL c.shape.alts,I c.shape.min,I c.shape.max,I c.shape.wall,I c.prio,Bo c.hasPrio,I c.time,Bo c.hasTime,depL c.after,I c.node,I c.nodes,I c.from_]])]) ?_ ?_
   ·clear hR;rintro i hR;(try dsimp only at hR);apply ai<;>intro h5
    ·refine us (QYf c.job _) ?_;exact lfA
    ·apply ai<;>intro h7
     ·refine us (QYf c.job _) ?_;exact lfA
     ·apply ai<;>intro h9
      ·refine us (QYf c.job _) ?_;(first|apply u2|apply u3|apply u4|apply us);exact QC3 c.nodes 1 48 _;exact lfA
      ·refine Q81 (fun (i1:Bool)=>Qja c i1=R) (fun i1=>[(1,AVal.ptr 0 0 18 0 0),(2,Bo false),(42,I c.kind),(110,Bo i1)]) (fun i1=>[(0,AObj.row 234 18 [[I c.kind,I c.job,Sg c.name,Sg c.user,Sg c.account,I c.shape.kind,altL c.shape.alts,I c.shape.min,I c.shape.max,I c.shape.wall,I c.prio,Bo c.hasPrio,I c.time,Bo c.hasTime,depL c.after,I c.node,I c.nodes,I c.from_]])]) ?_ ?_
       ·clear hR;rintro i1 hR;(try dsimp only at hR);apply ai<;>intro h11
        ·refine us (QC3 c.node 0 47 _) ?_;exact lfA
        ·apply ai<;>intro h13
         ·refine us (QC3 c.from_ 0 1000000 _) ?_;(first|apply u2|apply u3|apply u4|apply us);exact QC3 c.nodes 1 48 _;exact lfA
         ·(first|apply u2|apply u3|apply u4|apply us);exact QC3 c.job 0 99999 _;exact lfA
       ·apply ai<;>intro h15
        ·exact Q90 (c.kind==7) (wkA [0]) (foll hR (cf h5 (cf h7 (cf h9 (ct h15 rfl)))))
        ·apply ai<;>intro h17
         ·exact Q90 (c.kind==8) (wkA [0]) (foll hR (cf h5 (cf h7 (cf h9 (cf h15 (ct h17 rfl))))))
         ·exact Q90 (c.kind==9) (wkA [0]) (foll hR (cf h5 (cf h7 (cf h9 (cf h15 (cf h17 rfl))))))
   ·apply ai<;>intro h19
    ·exact Q90 (c.kind==2) (wkA [0]) (foll hR (cf h1 (cf h3 (ct h19 rfl))))
    ·apply ai<;>intro h21
     ·exact Q90 (c.kind==3) (wkA [0]) (foll hR (cf h1 (cf h3 (cf h19 (ct h21 rfl)))))
     ·apply ai<;>intro h23
      ·exact Q90 (c.kind==4) (wkA [0]) (foll hR (cf h1 (cf h3 (cf h19 (cf h21 (ct h23 rfl))))))
      ·exact Q90 (c.kind==11) (wkA [0]) (foll hR (cf h1 (cf h3 (cf h19 (cf h21 (cf h23 rfl))))))
def Qd8 (ok2:Bool):Int:=bif (!ok2) then 80 else 0
def Qc8 (c:Cmd) (ok1:Bool):Int:=bif c.hasTime then Qd8 (ok1&&(Ql1 c.time 1 100000)) else Qd8 (ok1&&(c.time==0))
def Qz2 (c:Cmd) (ok:Bool):Int:=bif c.hasPrio then Qc8 c (ok&&(Ql1 c.prio 0 100)) else Qc8 c (ok&&(c.prio==0))
def Qb8 (c:Cmd) (i1:Bool):Int:=bif i1 then Qz2 c ((Qr2 c true true true true false true true)&&(Ql1 c.node 0 47)) else bif (c.kind==10) then Qz2 c ((((Qr2 c true true true false true false false)&&(Ql1 c.from_ 0 1000000))&&c.hasTime)&&(Ql1 c.nodes 1 48)) else Qz2 c false
def QD6 (c:Cmd) (i:Bool):Int:=bif i then Qz2 c ((Qr2 c false true true true true true true)&&(Ql1 c.job 1 99999)) else bif (c.kind==12) then Qz2 c ((Qr2 c false true true true true true true)&&(Ql1 c.job 0 99999)) else bif (c.kind==5) then Qz2 c (((Qr2 c false true false false true true true)&&(Ql1 c.job 1 99999))&&(c.hasPrio||c.hasTime)) else bif (c.kind==6) then Qz2 c (((Qr2 c false true true true true false true)&&(Ql1 c.job 1 99999))&&(Ql1 c.nodes 1 48)) else bif (c.kind==7) then Qb8 c (c.kind==7) else bif (c.kind==8) then Qb8 c (c.kind==8) else Qb8 c (c.kind==9)
def Qf5 (c:Cmd):Int:=bif (c.kind==1) then Qz2 c ((((((((Qr2 c true false false true true true true)&&(QT3 c.name))&&(QT3 c.user))&&(QT3 c.account))&&(Qc4 c.user))&&(Qc4 c.account))&&(QV6 c.after))&&((Qj1 c.shape)==0)) else bif (c.kind==2) then QD6 c (c.kind==2) else bif (c.kind==3) then QD6 c (c.kind==3) else bif (c.kind==4) then QD6 c (c.kind==4) else QD6 c (c.kind==11)
theorem ref08_Check_c (c:Cmd) (hs0:c.sz):GV 256 [Cmd.a c] (I (Qf5 c)):=by
 generalize hR:Qf5 c=R;refine gA (kj [1000010,1000020,1000023,1000026,1000029] 4 [5,6,46,58,67,84,98,109,128,142,156]) Tryz.func256 ?_;have hk0:=hs0;obtain ⟨z31,z32,z33,z34,z35⟩:c.name.size<=4294967296∧c.user.size<=4294967296∧c.account.size<=4294967296∧(c.shape.alts.length<=4294967296)∧c.after.length<=4294967296:=hs0;refine Q81 (fun (ok:Bool)=>Qz2 c ok=R) (fun ok=>[(1,AVal.ptr 0 0 18 0 0),(2,I 0),(3,Bo ok)]) (fun ok=>[(0,AObj.row 234 18 [[I c.kind,I c.job,Sg c.name,Sg c.user,Sg c.account,I c.shape.kind,altL c.shape.alts,I c.shape.min,I c.shape.max,I c.shape.wall,I c.prio,Bo c.hasPrio,I c.time,Bo c.hasTime,depL c.after,I c.node,I c.nodes,I c.from_]])]) ?_ ?_
 ·clear hR;rintro ok hR;(try dsimp only at hR);refine Q81 (fun (ok1:Bool)=>Qc8 c ok1=R) (fun ok1=>[(1,AVal.ptr 0 0 18 0 0),(2,I 0),(3,Bo ok1)]) (fun ok1=>[(0,AObj.row 234 18 [[I c.kind,I c.job,Sg c.name,Sg c.user,Sg c.account,I c.shape.kind,altL c.shape.alts,I c.shape.min,I c.shape.max,I c.shape.wall,I c.prio,Bo c.hasPrio,I c.time,Bo c.hasTime,depL c.after,I c.node,I c.nodes,I c.from_]])]) ?_ ?_
  ·clear hR;rintro ok1 hR;(try dsimp only at hR);refine Q81 (fun (ok2:Bool)=>Qd8 ok2=R) (fun ok2=>[(2,I 0),(3,Bo ok2)]) (fun ok2=>[]) ?_ ?_
   ·clear hR;rintro ok2 hR;(try dsimp only at hR);apply ai<;>intro h1
    ·exact lfA
    ·exact lfA
   ·apply ai<;>intro h3
    ·(first|apply u2|apply u3|apply u4|apply us);exact Qd4 c.time 1 100000 _;exact Q90 (ok1&&(Ql1 c.time 1 100000)) (wkA []) (foll hR (ct h3 rfl))
    ·exact Q90 (ok1&&(c.time==0)) (wkA []) (foll hR (cf h3 rfl))
  ·apply ai<;>intro h5
   ·(first|apply u2|apply u3|apply u4|apply us);exact Qd4 c.prio 0 100 _;exact Q90 (ok&&(Ql1 c.prio 0 100)) (wkA [0]) (foll hR (ct h5 rfl))
   ·exact Q90 (ok&&(c.prio==0)) (wkA [0]) (foll hR (cf h5 rfl))
 ·apply ai<;>intro h7
  ·refine us (Q46 c true false false true true true true szA _) ?_;(first|apply u2|apply u3|apply u4|apply us);exact Qmb c.name szA _;(first|apply u2|apply u3|apply u4|apply us);exact Qmb c.user szA _;(first|apply u2|apply u3|apply u4|apply us);exact Qmb c.account szA _;(first|apply u2|apply u3|apply u4|apply us);exact QUe c.user szA _;(first|apply u2|apply u3|apply u4|apply us);exact QUe c.account szA _;(first|apply u2|apply u3|apply u4|apply us);exact ref08_waits_c c.after szA _;(first|apply u2|apply u3|apply u4|apply us);exact Qxd c.shape szA _;exact Q90 ((((((((Qr2 c true false false true true true true)&&(QT3 c.name))&&(QT3 c.user))&&(QT3 c.account))&&(Qc4 c.user))&&(Qc4 c.account))&&(QV6 c.after))&&((Qj1 c.shape)==0)) (wkA [0]) (foll hR (ct h7 rfl))
  ·refine Q81 (fun (i:Bool)=>QD6 c i=R) (fun i=>[(1,AVal.ptr 0 0 18 0 0),(2,I 0),(3,Bo false),(5,I c.kind),(46,Bo i)]) (fun i=>[(0,AObj.row 234 18 [[I c.kind,I c.job,Sg c.name,Sg c.user,Sg c.account,I c.shape.kind,altL c.shape.alts,I c.shape.min,I c.shape.max,I c.shape.wall,I c.prio,Bo c.hasPrio,I c.time,Bo c.hasTime,depL c.after,I c.node,I c.nodes,I c.from_]])]) ?_ ?_
   ·clear hR;rintro i hR;(try dsimp only at hR);apply ai<;>intro h9
    ·refine us (Q46 c false true true true true true true szA _) ?_;(first|apply u2|apply u3|apply u4|apply us);exact Qd4 c.job 1 99999 _;exact Q90 ((Qr2 c false true true true true true true)&&(Ql1 c.job 1 99999)) (wkA [0]) (foll hR (ct h9 rfl))
    ·apply ai<;>intro h11
     ·refine us (Q46 c false true true true true true true szA _) ?_;(first|apply u2|apply u3|apply u4|apply us);exact Qd4 c.job 0 99999 _;exact Q90 ((Qr2 c false true true true true true true)&&(Ql1 c.job 0 99999)) (wkA [0]) (foll hR (cf h9 (ct h11 rfl)))
     ·apply ai<;>intro h13
      ·refine us (Q46 c false true false false true true true szA _) ?_;(first|apply u2|apply u3|apply u4|apply us);exact Qd4 c.job 1 99999 _;exact Q90 (((Qr2 c false true false false true true true)&&(Ql1 c.job 1 99999))&&(c.hasPrio||c.hasTime)) (wkA [0]) (foll hR (cf h9 (cf h11 (ct h13 rfl))))
      ·apply ai<;>intro h15
       ·refine us (Q46 c false true true true true false true szA _) ?_;(first|apply u2|apply u3|apply u4|apply us);exact Qd4 c.job 1 99999 _;(first|apply u2|apply u3|apply u4|apply us);exact Qd4 c.nodes 1 48 _;exact Q90 (((Qr2 c false true true true true false true)&&(Ql1 c.job 1 99999))&&(Ql1 c.nodes 1 48)) (wkA [0]) (foll hR (cf h9 (cf h11 (cf h13 (ct h15 rfl)))))
       ·refine Q81 (fun (i1:Bool)=>Qb8 c i1=R) (fun i1=>[(1,AVal.ptr 0 0 18 0 0),(2,I 0),(3,Bo false),(5,I c.kind),(98,Bo i1)]) (fun i1=>[(0,AObj.row 234 18 [[I c.kind,I c.job,Sg c.name,Sg c.user,Sg c.account,I c.shape.kind,altL c.shape.alts,I c.shape.min,I c.shape.max,I c.shape.wall,I c.prio,Bo c.hasPrio,I c.time,Bo c.hasTime,depL c.after,I c.node,I c.nodes,I c.from_]])]) ?_ ?_
        ·clear hR;rintro i1 hR;(try dsimp only at hR);apply ai<;>intro h17
         ·refine us (Q46 c true true true true false true true szA _) ?_;(first|apply u2|apply u3|apply u4|apply us);exact Qd4 c.node 0 47 _;exact Q90 ((Qr2 c true true true true false true true)&&(Ql1 c.node 0 47)) (wkA [0]) (foll hR (ct h17 rfl))
         ·apply ai<;>intro h19
          ·refine us (Q46 c true true true false true false false szA _) ?_;(first|apply u2|apply u3|apply u4|apply us);exact Qd4 c.from_ 0 1000000 _;(first|apply u2|apply u3|apply u4|apply us);exact Qd4 c.nodes 1 48 _;exact Q90 ((((Qr2 c true true true false true false false)&&(Ql1 c.from_ 0 1000000))&&c.hasTime)&&(Ql1 c.nodes 1 48)) (wkA [0]) (foll hR (cf h17 (ct h19 rfl)))
          ·exact Q90 false (wkA [0]) (foll hR (cf h17 (cf h19 rfl)))
        ·apply ai<;>intro h21
         ·exact Q90 (c.kind==7) (wkA [0]) (foll hR (cf h9 (cf h11 (cf h13 (cf h15 (ct h21 rfl))))))
         ·apply ai<;>intro h23
          ·exact Q90 (c.kind==8) (wkA [0]) (foll hR (cf h9 (cf h11 (cf h13 (cf h15 (cf h21 (ct h23 rfl)))))))
          ·exact Q90 (c.kind==9) (wkA [0]) (foll hR (cf h9 (cf h11 (cf h13 (cf h15 (cf h21 (cf h23 rfl)))))))
   ·apply ai<;>intro h25
    ·exact Q90 (c.kind==2) (wkA [0]) (foll hR (cf h7 (ct h25 rfl)))
    ·apply ai<;>intro h27
     ·exact Q90 (c.kind==3) (wkA [0]) (foll hR (cf h7 (cf h25 (ct h27 rfl))))
     ·apply ai<;>intro h29
      ·exact Q90 (c.kind==4) (wkA [0]) (foll hR (cf h7 (cf h25 (cf h27 (ct h29 rfl)))))
      ·exact Q90 (c.kind==11) (wkA [0]) (foll hR (cf h7 (cf h25 (cf h27 (cf h29 rfl)))))
def QM4 (c:Cmd):Int:=bif ((((decide ((c.shape.alts.length:Int) > 6))||(decide ((c.after.length:Int) > 4)))||(!(Qt9 c)))||(!(QEb c (QL8 c)))) then 80 else 0
theorem b9a0 {P:Prop} (h:P:=by first|(exact cmd_bare_sz _ (by assumption))|exact szA):P:=h
theorem Qkg (c:Cmd) (hs0:c.sz):GV 192 [Cmd.a c] (I (QM4 c)):=by
 generalize hR:QM4 c=R;refine gA (kp 3 [25]) Tryz.func192 ?_;have hk0:=hs0;obtain ⟨z3,z4,z5,z6,z7⟩:c.name.size<=4294967296∧c.user.size<=4294967296∧c.account.size<=4294967296∧(c.shape.alts.length<=4294967296)∧c.after.length<=4294967296:=hs0;refine dchk (by kernel_rfl) ?_;(first|apply u2|apply u3|apply u4|apply us);exact cmd_fits_c c b9a0 _;(first|apply u2|apply u3|apply u4|apply us);exact cmd_bare_c c b9a0 _;(first|apply u2|apply u3|apply u4|apply us);exact cmd_Same_c c (QL8 c) b9a0 b9a0 _;(repeat ((first|refine ai rfl ?_|refine ai (fun _=>rfl) ?_|refine ai (fun _=>cmd_fits_c c b9a0 _) ?_|refine ai (fun _=>cmd_bare_c c b9a0 _) ?_|refine ai (fun _=>cmd_Same_c c (QL8 c) b9a0 b9a0 _) ?_)));apply ai<;>intro h1
 ·exact lfA
 ·exact lfA
def QM3 (j:Job):List Dep->Nat->Int
 | [],_=>bif (!(QI1 j)) then 140 else 0
 | x_ :: r,i=>bif (decide (x_.job >= j.id)) then 140 else QM3 j r (i+1)
def Qo2 (j:Job):Int:=bif (((((((Qf5 (⟨1,0,j.name,j.user,j.account,j.shape,j.prio,true,0,false,j.after,0,0,0⟩:Cmd))!=0)||(decide (j.id<1)))||(decide (j.id > 99999)))||(!(Qz1 j.born)))||(decide (j.used<0)))||(decide (j.used > 1000000000000))) then 140 else QM3 j j.after 0
theorem ref14_Check_c (j:Job) (hs0:j.sz):GV 218 [Job.a j] (I (Qo2 j)):=by
 generalize hR:Qo2 j=R;refine gA (kp 5 [46,51,62,65]) Tryz.func218 ?_;obtain ⟨z9,z10,z11,z12,z13⟩:=Job.zz hs0;refine us (ref08_Check_c (⟨1,0,j.name,j.user,j.account,j.shape,j.prio,true,0,false,j.after,0,0,0⟩:Cmd) szA _) ?_;(first|apply u2|apply u3|apply u4|apply us);exact Q65 j.born _;apply ai<;>intro h1
 ·exact lfA
 ·refine Qg0 (fun (i:Nat)=>QM3 j (List.drop i j.after) i=R∧i<=j.after.length) (fun i=>j.after.length - i) (fun i=>[(1,AVal.ptr 0 0 20 0 0),(2,I 0),(4,I (i:Int))]) (fun i=>[(0,AObj.row 72 20 [[I j.id,Sg j.name,Sg j.user,Sg j.account,I j.shape.kind,altL j.shape.alts,I j.shape.min,I j.shape.max,I j.shape.wall,I j.prio,depL j.after,I j.state,Bo j.held,I j.born,I j.promise,I j.choice,I j.start,I j.limit,U j.nodes,I j.used]])]) 0 (wkA [0]) ⟨folA,by exact omA⟩ ?_;clear hR;rintro i ⟨hR,hj⟩;(try dsimp only at hR hj);apply ai<;>intro h3
  ·have hlt:=ltA h3;rw [Qa0 zC hlt] at hR;refine dchk (by kernel_rfl) ?_;refine ai gkA ?_;(repeat ((first|refine ai rfl ?_|refine ai (fun _=>rfl) ?_)));apply ai<;>intro h5
   ·have qh5:=yda h5;exact lfA
   ·have qh5:=yca h5;exact Qn0 (i+1) (wkA [0]) omA ⟨folA,by exact omA⟩
  ·rw [Qd0 (l:=j.after) (j:=i) (geA h3)] at hR;refine us (ref14_state_c j szA _) ?_;apply ai<;>intro h7
   ·exact lfA
   ·exact lfA
theorem QY7 {j:Job} (h:((Qo2 j)!=0)=false):QI1 j=true:=by
 have g1:∀ (l:List Dep) (i:Nat),QM3 j l i=0->QI1 j=true:=by
  intro l
  induction l with
  | nil =>
   intro i hi;rw [QM3] at hi;cases hs:QI1 j with
   | true=>rfl
   | false=>rw [hs] at hi;cases hi
  | cons x r ih =>
   intro i hi;rw [QM3] at hi;cases hx:decide (x.job >= j.id) with
   | true=>rw [hx] at hi;cases hi
   | false=>rw [hx] at hi;exact ih _ hi
 simp only [Qo2] at h;revert h;cases (((((((Qf5 (⟨1,0,j.name,j.user,j.account,j.shape,j.prio,true,0,false,j.after,0,0,0⟩:Cmd))!=0)||(decide (j.id<1)))||(decide (j.id > 99999)))||(!(Qz1 j.born)))||(decide (j.used<0)))||(decide (j.used > 1000000000000))) with
 | true=>simp
 | false =>
  intro h;exact g1 _ _ (by simpa using h)
theorem QZe {j:Job} (h:QI1 j=true):((j.state != 1)||(j.promise==(-1)))=false->0<=j.choice∧j.choice<((Qi0 j.shape).length:Int):=by
 intro hq;rw [yXa] at hq;have h1:(j.state==1)=true:=by simpa using hq.1
 rw [QI1,h1,hq.2] at h;simp only [cond_true,cond_false] at h;revert h;cases (((j.start != 0)||(j.limit != 0))||(j.nodes != 0)) with
 | true=>intro h;cases h
 | false =>
  intro h;simp only [cond_false,yea,yfa] at h;have hw:=h.1.2;unfold Qt2 at hw;cases hc:((decide (j.choice<0))||(decide (j.choice >= ((Qi0 j.shape).length:Int)))) with
  | true=>rw [hc] at hw;simp at hw
  | false=>simp at hc;omega
def Qe1 (j:Job):Int:=bif ((((((decide (j.id<1))||(decide (j.id > 99999)))||(!(Qw2 j.born)))||(j.used != (Q25 j.used)))||((QM4 (Qq0 j))!=0))||(Qt0 j.after (fun (y:Dep)=>(decide (y.job >= j.id))))) then 140 else bif (j.state==1) then bif (!(QC2 j)) then 140 else 0 else bif (j.state==2) then bif (!(Qr1 j)) then 140 else 0 else bif (!(Qf9 j.state)) then 140 else bif (!(Qc5 j)) then 140 else 0
theorem Qe9 (j:Job) (hs0:j.sz):GV 130 [Job.a j] (I (Qe1 j)):=by
 generalize hR:Qe1 j=R;refine gA (kp 6 [42,45,51,57,64]) Tryz.func130 ?_;obtain ⟨z19,z20,z21,z22,z23⟩:=Job.zz hs0;refine dchk (by kernel_rfl) ?_;(first|apply u2|apply u3|apply u4|apply us);exact Q87 j.born _;(first|apply u2|apply u3|apply u4|apply us);exact QDa j.used _;(first|apply u2|apply u3|apply u4|apply us);exact Qm8 j _;(first|apply u2|apply u3|apply u4|apply us);exact Qkg (Qq0 j) szA _;have cl1:∀ (y1:Dep),AMoves Tryz.prog 190 [Dep.a y1,AVal.ptr 0 0 20 0 0] [(0,AObj.row 72 20 [[I j.id,Sg j.name,Sg j.user,Sg j.account,I j.shape.kind,altL j.shape.alts,I j.shape.min,I j.shape.max,I j.shape.wall,I j.prio,depL j.after,I j.state,Bo j.held,I j.born,I j.promise,I j.choice,I j.start,I j.limit,U j.nodes,I j.used]])] 1 (Bo ((fun (y:Dep)=>(decide (y.job >= j.id))) y1)) [(0,AObj.row 72 20 [[I j.id,Sg j.name,Sg j.user,Sg j.account,I j.shape.kind,altL j.shape.alts,I j.shape.min,I j.shape.max,I j.shape.wall,I j.prio,depL j.after,I j.state,Bo j.held,I j.born,I j.promise,I j.choice,I j.start,I j.limit,U j.nodes,I j.used]])]:=by
  intro y1;have hR:(fun (y:Dep)=>(decide (y.job >= j.id))) y1=(fun (y:Dep)=>(decide (y.job >= j.id))) y1:=rfl;refine mo (kp 4 []) Tryz.func190 ?_;refine Qu0 (fun r:Bool=>Bo r) (fun _=>[(0,AObj.row 72 20 [[I j.id,Sg j.name,Sg j.user,Sg j.account,I j.shape.kind,altL j.shape.alts,I j.shape.min,I j.shape.max,I j.shape.wall,I j.prio,depL j.after,I j.state,Bo j.held,I j.born,I j.promise,I j.choice,I j.start,I j.limit,U j.nodes,I j.used]])]) (leaf:=(decide (y1.job >= j.id))) (foll hR rfl) ?_;exact tt [0] (tO rfl (ts Job.lo) .nil) t1
 have hof1:AMoves Tryz.prog 194 [depL j.after,AVal.fn (.func 190) [] [AVal.ptr 0 0 20 0 0]] [(0,AObj.row 72 20 [[I j.id,Sg j.name,Sg j.user,Sg j.account,I j.shape.kind,altL j.shape.alts,I j.shape.min,I j.shape.max,I j.shape.wall,I j.prio,depL j.after,I j.state,Bo j.held,I j.born,I j.promise,I j.choice,I j.start,I j.limit,U j.nodes,I j.used]])] 1 (Bo (Qt0 j.after (fun (y:Dep)=>(decide (y.job >= j.id))))) [(0,AObj.row 72 20 [[I j.id,Sg j.name,Sg j.user,Sg j.account,I j.shape.kind,altL j.shape.alts,I j.shape.min,I j.shape.max,I j.shape.wall,I j.prio,depL j.after,I j.state,Bo j.held,I j.born,I j.promise,I j.choice,I j.start,I j.limit,U j.nodes,I j.used]])]:=by
  have hR:Qt0 j.after (fun (y:Dep)=>(decide (y.job >= j.id)))=Qt0 j.after (fun (y:Dep)=>(decide (y.job >= j.id))):=rfl;refine mo (kp 5 []) Tryz.func194 ?_;have hof2:AMoves Tryz.prog 237 [depL j.after,AVal.fn (.func 190) [] [AVal.ptr 0 0 20 0 0]] [(0,AObj.row 72 20 [[I j.id,Sg j.name,Sg j.user,Sg j.account,I j.shape.kind,altL j.shape.alts,I j.shape.min,I j.shape.max,I j.shape.wall,I j.prio,depL j.after,I j.state,Bo j.held,I j.born,I j.promise,I j.choice,I j.start,I j.limit,U j.nodes,I j.used]])] 1 (I (Qc1 j.after (fun (y:Dep)=>(decide (y.job >= j.id))))) [(0,AObj.row 72 20 [[I j.id,Sg j.name,Sg j.user,Sg j.account,I j.shape.kind,altL j.shape.alts,I j.shape.min,I j.shape.max,I j.shape.wall,I j.prio,depL j.after,I j.state,Bo j.held,I j.born,I j.promise,I j.choice,I j.start,I j.limit,U j.nodes,I j.used]])]:=by
   have hR:Qc1 j.after (fun (y:Dep)=>(decide (y.job >= j.id)))=Qc1 j.after (fun (y:Dep)=>(decide (y.job >= j.id))):=rfl;refine mo (kp 6 [7,8,9,16]) Tryz.func237 ?_;refine Qg0 (fun (i:Nat)=>Qx3 (fun (y:Dep)=>(decide (y.job >= j.id))) (List.drop i j.after) i=Qc1 j.after (fun (y:Dep)=>(decide (y.job >= j.id)))∧i<=j.after.length) (fun i=>j.after.length - i) (fun i=>[(0,depL j.after),(1,AVal.fn (.func 190) [] [AVal.ptr 0 0 20 0 0]),(4,I 0),(7,I (j.after.length:Int)),(8,I (i:Int))]) (fun i=>[(0,AObj.row 72 20 [[I j.id,Sg j.name,Sg j.user,Sg j.account,I j.shape.kind,altL j.shape.alts,I j.shape.min,I j.shape.max,I j.shape.wall,I j.prio,depL j.after,I j.state,Bo j.held,I j.born,I j.promise,I j.choice,I j.start,I j.limit,U j.nodes,I j.used]])]) 0 (wkA [0]) ⟨foll hR rfl,by exact omA⟩ ?_;clear hR;rintro i ⟨hR,hj⟩;(try dsimp only at hR hj);apply ai<;>intro h1
   ·have hlt:=ltA h1;rw [Qa0 zC hlt] at hR;refine ai gkA ?_;refine us (mv [0] (cl1 (j.after.getD i zC)) (dO (ds Job.lo) .nil) (dl (Dep.low _ _) (dp .nil)) (rO (re Job.lo) .nil) rx) ?_;apply ai<;>intro h3
    ·refine Qu0 (fun r:Int=>I r) (fun r:Int=>[(0,AObj.row 72 20 [[I j.id,Sg j.name,Sg j.user,Sg j.account,I j.shape.kind,altL j.shape.alts,I j.shape.min,I j.shape.max,I j.shape.wall,I j.prio,depL j.after,I j.state,Bo j.held,I j.born,I j.promise,I j.choice,I j.start,I j.limit,U j.nodes,I j.used]])]) (leaf:=(i:Int)) (foll hR (ct h3 rfl)) ?_;exact tt [0] (tO rfl (ts Job.lo) .nil) t1
    ·exact Qn0 (i+1) (wkA [0]) omA ⟨folA,by exact omA⟩
   ·rw [Qd0 (l:=j.after) (j:=i) (geA h1)] at hR;refine Qu0 (fun r:Int=>I r) (fun r:Int=>[(0,AObj.row 72 20 [[I j.id,Sg j.name,Sg j.user,Sg j.account,I j.shape.kind,altL j.shape.alts,I j.shape.min,I j.shape.max,I j.shape.wall,I j.prio,depL j.after,I j.state,Bo j.held,I j.born,I j.promise,I j.choice,I j.start,I j.limit,U j.nodes,I j.used]])]) (leaf:=(-1)) (foll hR rfl) ?_;exact tt [0] (tO rfl (ts Job.lo) .nil) t1
  refine us (mv [0] (hof2) (dO (ds Job.lo) .nil) (dl lw (dv (dn_fn .nil (dp .nil)) .nil)) (rO (re Job.lo) .nil) rx) ?_;refine Qu0 (fun r:Bool=>Bo r) (fun r:Bool=>[(0,AObj.row 72 20 [[I j.id,Sg j.name,Sg j.user,Sg j.account,I j.shape.kind,altL j.shape.alts,I j.shape.min,I j.shape.max,I j.shape.wall,I j.prio,depL j.after,I j.state,Bo j.held,I j.born,I j.promise,I j.choice,I j.start,I j.limit,U j.nodes,I j.used]])]) (leaf:=(decide ((Qc1 j.after (fun (y:Dep)=>(decide (y.job >= j.id)))) >= 0))) (foll hR rfl) ?_;exact tt [0] (tO rfl (ts Job.lo) .nil) t1
 (first|apply u2|apply u3|apply u4|apply us);exact mv [0] (hof1) (dO (ds Job.lo) .nil) (dl lw (dv (dn_fn .nil (dp .nil)) .nil)) (rO (re Job.lo) .nil) rx;(repeat ((first|refine ai rfl ?_|refine ai (fun _=>rfl) ?_|refine ai (fun _=>Q87 j.born _) ?_|refine ai (fun _=>QDa j.used _) ?_|refine ai (fun _=>Qm8 j _) ?_|refine ai (fun _=>Qkg (Qq0 j) szA _) ?_)));apply ai<;>intro h5
 ·exact lfA
 ·apply ai<;>intro h7
  ·refine us (Qce j szA _) ?_;apply ai<;>intro h9
   ·exact lfA
   ·exact lfA
  ·apply ai<;>intro h11
   ·refine us (Qdd j szA _) ?_;apply ai<;>intro h13
    ·exact lfA
    ·exact lfA
   ·refine us (job_ended_c j.state _) ?_;apply ai<;>intro h15
    ·exact lfA
    ·refine us (QCg j _) ?_;apply ai<;>intro h17
     ·exact lfA
     ·exact lfA
theorem Qjf {j:Job} (h:((((Qe1 j)!=0)||(j.state != 1))||(decide (j.promise<0)))=false):0<=j.choice∧j.choice<((Qd1 j.shape).length:Int):=by
 simp only [yXa,bne_eq_false_iff_eq,yGa] at h;obtain ⟨⟨h1,h2⟩,h3⟩:=h;have hq:QC2 j=true:=by
  unfold Qe1 at h1;revert h1;rw [show (j.state==1)=true by simpa using h2];cases ((((((decide (j.id<1))||(decide (j.id > 99999)))||(!(Qw2 j.born)))||(j.used != (Q25 j.used)))||((QM4 (Qq0 j))!=0))||(Qt0 j.after (fun (y:Dep)=>(decide (y.job >= j.id))))) with
  | true=>simp
  | false =>
   cases QC2 j with
   | true=>simp
   | false=>simp
 unfold QC2 at hq;simp only [yea,y2a] at hq;rcases hq.2 with hp|hp
 ·have:=hp.1;simp at this;omega
 ·have ho:=hp.1.2;unfold QM0 at ho;cases hc:((decide (j.choice<0))||(decide (j.choice >= ((Qd1 j.shape).length:Int)))) with
  | true=>rw [hc] at ho;cases ho
  | false=>simp at hc;omega
def Qw4 :List Job->Int->Nat->Int
 | [],_,_=>0
 | x_ :: r,last,i=>bif ((((i:Int)==40)||((Qo2 x_)!=0))||(decide (x_.id<=last))) then 140 else Qw4 r x_.id (i+1)
def Qh5 (l:List Job):Int:=Qw4 l 0 0
theorem ref15_Check_c (l:List Job) (hs0:l.length<=4294967296∧(∀ y ∈ l,y.sz)):GV 167 [jobL l] (I (Qh5 l)):=by
 generalize hR:Qh5 l=R;refine gA (kp 5 [8,29]) Tryz.func167 ?_;obtain ⟨z10,z11⟩:=id hs0;refine Qb0 (fun (last:Int) (i:Nat)=>Qw4 (List.drop i l) last i=R∧i<=l.length) (fun last i=>l.length - i) (fun last i=>[(0,jobL l),(2,I 0),(3,I last),(4,I (i:Int))]) (fun last i=>[]) 0 0 (wkA []) ⟨foll hR rfl,by exact omA⟩ ?_;clear hR;rintro last i ⟨hR,hj⟩;(try dsimp only at hR hj);apply ai<;>intro h1
 ·have hlt:=ltA h1;rw [Qa0 zG hlt] at hR;have hxz:(l.getD i zG).sz:=Qp4 (by first|assumption|grind) (Job.szz _);have hkz:=hxz;obtain ⟨z3,z4,z5,z6,z7⟩:=Job.zz hxz;refine ai gkA ?_;(first|apply u2|apply u3|apply u4|apply us);exact ref14_Check_c (l.getD i zG) szA _;refine ai gkA ?_;apply ai<;>intro h8
  ·exact lfA
  ·refine ai gkA ?_;exact Q60 ((l.getD i zG).id) (i+1) (wkA []) omA ⟨folA,by exact omA⟩
 ·rw [Qd0 (l:=l) (j:=i) (geA h1)] at hR;exact lfA
theorem ref15_each:∀ (l:List Job) (last:Int) (i:Nat),Qw4 l last i=0 -> ∀ x ∈ l,((Qo2 x)!=0)=false
 | [],_,_,_,x,hx=>absurd hx ybb
 | y :: r,last,i,h,x,hx=>by
  rw [Qw4] at h;cases hc:((((i:Int)==40)||((Qo2 y)!=0))||(decide (y.id<=last))) with
  | true=>rw [hc] at h;cases h
  | false =>
   rw [hc] at h;simp only [yXa] at hc;rcases List.mem_cons.1 hx with rfl|hx
   ·exact hc.1.2
   ·exact ref15_each r y.id (i+1) h x hx
theorem ref15_choices {l:List Job} (h:((Qh5 l)!=0)=false):∀ y ∈ l,((y.state != 1)||(y.promise==(-1)))=false->0<=y.choice∧y.choice<((Qi0 y.shape).length:Int) :=
 fun y hy=>QZe (QY7 (ref15_each l 0 0 (show Qh5 l=0 by simpa using h) y hy))
def QQ5 (l:List Job):List Job->Nat->Int
 | [],_=>0
 | x_ :: r,i=>bif (((Qe1 x_)!=0)||((decide ((i:Int) > 0))&&(decide ((l.getD ((w64 ((i:Int) - 1)).toNat) zG).id >= x_.id)))) then 140 else QQ5 l r (i+1)
def QK1 (l:List Job):Int:=bif (decide ((l.length:Int) > 40)) then 140 else QQ5 l l 0
theorem QIa (l:List Job) (hs0:l.length<=4294967296∧(∀ y ∈ l,y.sz)):GV 125 [jobL l] (I (QK1 l)):=by
 generalize hR:QK1 l=R;refine gA (kp 5 [7,8,9,10,11,32]) Tryz.func125 ?_;obtain ⟨z12,z13⟩:=id hs0;apply ai<;>intro h1
 ·have qh1:=yda h1;exact lfA
 ·have qh1:=yca h1;refine Qg0 (fun (i:Nat)=>QQ5 l (List.drop i l) i=R∧i<=l.length) (fun i=>l.length - i) (fun i=>[(0,jobL l),(2,I 0),(8,jobL l),(9,I (l.length:Int)),(10,I (i:Int))]) (fun i=>[]) 0 (wkA []) ⟨folA,by exact omA⟩ ?_;clear hR;rintro i ⟨hR,hj⟩;(try dsimp only at hR hj);apply ai<;>intro h3
  ·have hlt:=ltA h3;rw [Qa0 zG hlt] at hR;have hxz:(l.getD i zG).sz:=Qp4 (by first|assumption|grind) (Job.szz _);have hkz:=hxz;obtain ⟨z5,z6,z7,z8,z9⟩:=Job.zz hxz;refine ai gkA ?_;refine dchk (by kernel_rfl) ?_;(first|apply u2|apply u3|apply u4|apply us);exact Qe9 (l.getD i zG) szA _;refine ai gkA ?_;(repeat ((first|refine ai rfl ?_|refine ai (fun _=>rfl) ?_|refine ai (fun _=>Qe9 (l.getD i zG) szA _) ?_)));apply ai<;>intro h10
   ·exact lfA
   ·exact Qn0 (i+1) (wkA []) omA ⟨folA,by exact omA⟩
  ·rw [Qd0 (l:=l) (j:=i) (geA h3)] at hR;exact lfA
def QQ1 (j:Job):Int × Int × Int × Bool:=bif ((((Qe1 j)!=0)||(j.state != 1))||(decide (j.promise<0))) then (0,0,0,false) else (j.promise,(w64 (((Qd1 j.shape).getD (j.choice.toNat) zA).wall+12)),((Qd1 j.shape).getD (j.choice.toNat) zA).nodes,true)
theorem room_Claim_c (j:Job) (hs0:j.sz):GV 82 [Job.a j] (AVal.tup [I ((QQ1 j).1),I ((QQ1 j).2.1),I ((QQ1 j).2.2.1),Bo ((QQ1 j).2.2.2)]):=by
 generalize hR:QQ1 j=R;refine gA (kp 7 [19]) Tryz.func82 ?_;obtain ⟨z3,z4,z5,z6,z7⟩:=Job.zz hs0;refine us (Qe9 j szA _) ?_;refine ai (fun h1=>?_) (fun h2=>?_)
 ·exact lfA
 ·refine dchk (by kernel_rfl) ?_;(first|apply u2|apply u3|apply u4|apply us);exact QF7 j.shape szA _;refine And.intro (by first|exact fun hg=>yga (by first|((have q:=Qjf (by assumption);omega))|exact ckA)|exact gkA) ?_;(repeat ((first|refine ai rfl ?_|refine ai (fun _=>rfl) ?_|refine ai (fun _=>QF7 j.shape szA _) ?_)));(try (refine dchk (by kernel_rfl) ?_));(repeat ((first|refine ai rfl ?_|refine ai (fun _=>rfl) ?_)));exact lfA
def Q33 (j:Job) (set_:Int):Job × Int:=bif ((Qe1 j)!=0) then (zG,(Qe1 j)) else bif ((j.state==2)&&((!(Qm7 set_))||(!(Qh3 j.shape j.choice (Q10 set_))))) then (zG,152) else bif ((Qed (j.state==2))!=0) then (zG,(Qed (j.state==2))) else ({ j with nodes:=set_ },0)
theorem QKb (j:Job) (set_:Int) (hs0:j.sz):GV 176 [Job.a j,U set_] (AVal.tup [Job.a ((Q33 j set_).1),I ((Q33 j set_).2)]):=by
 generalize hR:Q33 j set_=R;refine gA (kp 7 []) Tryz.func176 ?_;obtain ⟨z7,z8,z9,z10,z11⟩:=Job.zz hs0;refine ACalls.of_cwp (fun _=>true) Tryz.func228 rfl rfl ?_;refine us (Qe9 j szA _) ?_;apply ai<;>intro h1
 ·refine ⟨_,_,Told.refl,?_⟩;exact lfA
 ·refine ACalls.of_cwp (fun _=>true) Tryz.func224 rfl rfl ?_;refine dchk (by kernel_rfl) ?_;(first|apply u2|apply u3|apply u4|apply us);exact Qva set_ _;(first|apply u2|apply u3|apply u4|apply us);exact Qh1 set_ _;(first|apply u2|apply u3|apply u4|apply us);exact Qg8 j.shape j.choice (Q10 set_) szA _;(repeat ((first|refine ai rfl ?_|refine ai (fun _=>rfl) ?_|refine ai (fun _=>Qva set_ _) ?_|refine ai (fun _=>Qh1 set_ _) ?_|refine ai (fun _=>Qg8 j.shape j.choice (Q10 set_) szA _) ?_)));apply ai<;>intro h3
  ·refine ⟨_,_,Told.refl,?_⟩;refine ai (fun _=>?_) (fun h=>nomatch h);refine ⟨_,_,Told.refl,?_⟩;exact lfA
  ·refine us (job_when_c (j.state==2) _) ?_;refine ⟨_,_,Told.refl,?_⟩;apply ai<;>intro h5
   ·refine ⟨_,_,Told.refl,?_⟩;exact lfA
   ·refine us (job_copied_c j szA _) ?_;refine ACalls.of_cwp (fun _=>true) Tryz.func229 rfl rfl ?_;refine ⟨_,_,Told.refl,?_⟩;refine ⟨_,_,Told.refl,?_⟩;exact lfA
def Qi5 (s:State):Int:=bif ((((!(Qz1 s.now))||((Q72 s.nodes)!=0))||((Qh5 s.jobs)!=0))||((Q08 s.books)!=0)) then 141 else 0
theorem QAd (s:State) (hs0:s.sz):GV 111 [State.a s] (I (Qi5 s)):=by
 generalize hR:Qi5 s=R;refine gA (kp 3 [24]) Tryz.func111 ?_;have hk0:=hs0;obtain ⟨z3,z4,z5,z6,z7,z8,z9⟩:=hs0;refine us (Q65 s.now _) ?_;(first|apply u2|apply u3|apply u4|apply us);exact Qg5 s.nodes szA _;(first|apply u2|apply u3|apply u4|apply us);exact ref15_Check_c s.jobs szA _;(first|apply u2|apply u3|apply u4|apply us);exact ref19_Check_c s.books szA _;apply ai<;>intro h1
 ·exact lfA
 ·exact lfA
theorem Qpf {s:State} (h:((Qi5 s)!=0)=false):((Qh5 s.jobs)!=0)=false:=by
 simp only [Qi5] at h;revert h;cases ((Qh5 s.jobs)!=0) with
 | true=>simp
 | false=>intro _;rfl
end Go.Proofs.YtackngeeehiegaaGreatDoor
