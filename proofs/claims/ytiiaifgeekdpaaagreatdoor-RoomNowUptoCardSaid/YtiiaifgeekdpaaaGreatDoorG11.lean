/-
  Contracts of functions, printed by a program of this repo (wip/dec). No condition beyond those that stand in each.
-/
import Derived.Test.YtiiaifgeekdpaaaGreatDoorG10
import Derived.Test.YtiiaifgeekdpaaaGreatDoorProg
namespace Go.Proofs.YtiiaifgeekdpaaaGreatDoor
set_option linter.unusedSimpArgs false
set_option linter.unusedVariables false
open Go.Fw
set_option maxRecDepth 20000
set_option maxHeartbeats 4000000
attribute [local irreducible] ACalls AMoves
def Qv1 :Nat->LexReader->Bool->LexReader × Bool
 | 0,_,_=>(LexReader.zero,false)
 | m+1,c,c2=>bif ((decide (c.at_<(c.line.length:Int)))&&(QX0 (c.line.getD (Int.toNat c.at_) 0) c2).1) then Qv1 m { c with at_:=(w64 (c.at_+1)) } (bif (decide (c.at_<(c.line.length:Int))) then (QX0 (c.line.getD (Int.toNat c.at_) 0) c2).2 else c2) else (c,(bif (decide (c.at_<(c.line.length:Int))) then (QX0 (c.line.getD (Int.toNat c.at_) 0) c2).2 else c2))
def QX1 (r_:LexReader) (c:LexReader) (c2:Bool):Token × LexReader:=bif (c.at_==(c.line.length:Int)) then (Token.zero,(QE0 c r_.at_ 50)) else bif ((c.line.getD (Int.toNat c.at_) 0)!=34) then (Token.zero,(QE0 c c.at_ 40)) else bif ((Qw2 (runesBytes (List.drop (Int.toNat r_.at_) (List.take (Int.toNat (w64 (c.at_+1))) c.line)))).2 != 0) then ((⟨4,(Qw2 (runesBytes (List.drop (Int.toNat r_.at_) (List.take (Int.toNat (w64 (c.at_+1))) c.line)))).1,0,0⟩:Token),(QE0 { c with at_:=(w64 (c.at_+1)) } r_.at_ ((Qw2 (runesBytes (List.drop (Int.toNat r_.at_) (List.take (Int.toNat (w64 (c.at_+1))) c.line)))).2))) else ((⟨4,(Qw2 (runesBytes (List.drop (Int.toNat r_.at_) (List.take (Int.toNat (w64 (c.at_+1))) c.line)))).1,0,0⟩:Token),{ c with at_:=(w64 (c.at_+1)) })
def Qo1 (r_:LexReader):Token × LexReader:=QX1 r_ ((Qv1 ((Int.toNat ((r_.line.length:Int) - r_.at_))+1) r_ true).1) ((Qv1 ((Int.toNat ((r_.line.length:Int) - r_.at_))+1) r_ true).2)
theorem Q4a (r_:LexReader) (hs0:r_.sz) (hp0:0<=r_.at_∧r_.at_<(r_.line.length:Int)∧r_.line.length<=400):AMoves Tryz.prog 197 [AVal.ptr 0 0 4 0 0] [(0,AObj.row 210 4 [[runes r_.line,I r_.at_,I r_.bad,I r_.error]])] 1 (Token.a ((Qo1 r_).1)) [(0,AObj.row 210 4 [[runes ((Qo1 r_).2.line),I ((Qo1 r_).2.at_),I ((Qo1 r_).2.bad),I ((Qo1 r_).2.error)]])]:=by
 generalize hR:Qo1 r_=R;refine mo (kp 7 [23,38,69]) Tryz.func197 ?_;have hk0:=hs0;obtain z9:r_.line.length<=4294967296:=hs0;refine ACalls.of_cwp (fun _=>true) Tryz.func185 rfl rfl ?_;refine Qj0 (fun (c:LexReader) (c2:Bool)=>∃ m,(Int.toNat ((c.line.length:Int) - c.at_))<m∧QX1 r_ (Qv1 m c c2).1 (Qv1 m c c2).2=R∧0<=c.at_∧c.at_<=(c.line.length:Int)∧c.line.length<=400∧r_.at_<=c.at_∧0<=r_.at_) (fun c c2=>(Int.toNat ((c.line.length:Int) - c.at_))) (fun c c2=>[(0,AVal.ptr 0 0 4 0 0),(1,AVal.fn (.func 211) [] [AVal.ptr 2 0 1 0 0]),(4,Sg ⟨#[]⟩),(5,I r_.at_)]) (fun c c2=>[(0,AObj.row 210 4 [[runes c.line,I c.at_,I c.bad,I c.error]]),(0,AObj.row 186 4 [[I 0,Sg ⟨#[]⟩,I 0,I 0]]),(0,AObj.row 4 1 [[Bo c2]])]) r_ true (wk [0,1,2] (tO rfl (ts LexReader.lo) (tO rfl (ts Token.lo) (tO rfl (ts (l1 LowL.nil)) .nil))) (sv (Q10 0 rfl rfl) (sv (Q51 .nil (cv (Q10 2 rfl rfl) .nil)) (s1 (s1 .nil))))) ⟨_,Nat.lt_succ_self _,foll hR rfl,by exact exA⟩ ?_;clear hR;rintro c c2 ⟨m,hm,hR,hx⟩;(try dsimp only at hR hm hx);obtain ⟨m,rfl⟩:=sucA m;refine dchk (by kernel_rfl) ?_;refine ai gkA ?_;refine ⟨_,[(0,AObj.row 210 4 [[runes c.line,I c.at_,I c.bad,I c.error]]),(0,AObj.row 186 4 [[I 0,Sg ⟨#[]⟩,I 0,I 0]]),(0,AObj.row 4 1 [[Bo (bif (decide (c.at_<(c.line.length:Int))) then (QX0 (c.line.getD (Int.toNat c.at_) 0) c2).2 else c2)]])],fun hg=>(by rw [show (decide (c.at_<(c.line.length:Int)))=true from hg];exact mv [2] (Qi8 (c.line.getD (Int.toNat c.at_) 0) c2) (dO (ds (l1 LowL.nil)) .nil) (d1 (dp .nil)) (rO (re (l1 LowL.nil)) .nil) rx),fun hg=>(by rw [show (decide (c.at_<(c.line.length:Int)))=false from hg];rfl),?_⟩;(repeat ((first|refine ai rfl ?_|refine ai (fun _=>rfl) ?_)));refine ai (fun h1=>?_) (fun h2=>?_)
 ·have hq1:=of_decide_eq_true ((Bool.and_eq_true _ _).mp h1).1;have hwr:w64 (c.at_+1)=c.at_+1:=wr (by omega);exact Qa0 { c with at_:=(w64 (c.at_+1)) } (bif (decide (c.at_<(c.line.length:Int))) then (QX0 (c.line.getD (Int.toNat c.at_) 0) c2).2 else c2) (wk [0,1,2] (tO rfl (ts LexReader.lo) (tO rfl (ts Token.lo) (tO rfl (ts (l1 LowL.nil)) .nil))) (sv (Q10 0 rfl rfl) (sv (Q51 .nil (cv (Q10 2 rfl rfl) .nil)) (s1 (s1 .nil))))) omA ⟨m,by exact omA,foll hR (congrArg (fun p:LexReader × Bool=>QX1 r_ p.1 p.2) (ct h1 rfl)),by exact exA⟩
 ·replace hR:QX1 r_ c (bif (decide (c.at_<(c.line.length:Int))) then (QX0 (c.line.getD (Int.toNat c.at_) 0) c2).2 else c2)=R:=fo2 (fun p:LexReader × Bool=>QX1 r_ p.1 p.2) (c,(bif (decide (c.at_<(c.line.length:Int))) then (QX0 (c.line.getD (Int.toNat c.at_) 0) c2).2 else c2)) hR (cf h2 rfl);refine dchk (by kernel_rfl) ?_;refine ai gkA ?_;(first|refine ⟨(List.drop (Int.toNat r_.at_) (List.take (Int.toNat c.at_) c.line)),by exact cvA,?_⟩|refine ⟨_,fun _=>⟨(List.drop (Int.toNat r_.at_) (List.take (Int.toNat c.at_) c.line)),by exact cvA,rfl,rfl⟩,?_⟩|refine ⟨_,rfl,⟨(List.drop (Int.toNat r_.at_) (List.take (Int.toNat c.at_) c.line)),by exact cvA,Sub.refl _,rfl⟩,?_⟩);(repeat ((first|refine ai rfl ?_|refine ai (fun _=>rfl) ?_)));refine ⟨_,_,Told.refl,?_⟩;refine dchk (by kernel_rfl) ?_;(repeat ((first|refine ai rfl ?_|refine ai (fun _=>rfl) ?_)));refine ai (fun h3=>?_) (fun h4=>?_)
  ·refine us (mv [0] (QK2 c r_.at_ 50) (dO (ds LexReader.lo) .nil) (dp (d1 (d1 .nil))) (rO (re LexReader.lo) .nil) rx) ?_;obtain rfl:=foll hR (ct h3 rfl);exact rq (tt [0] (tO rfl (ts LexReader.lo) .nil) (QH0 (Low.agg' (Token.lo))))
  ·refine dchk (by kernel_rfl) ?_;refine ai gkA ?_;(repeat ((first|refine ai rfl ?_|refine ai (fun _=>rfl) ?_)));refine ai (fun h5=>?_) (fun h6=>?_)
   ·refine us (mv [0] (QK2 c c.at_ 40) (dO (ds LexReader.lo) .nil) (dp (d1 (d1 .nil))) (rO (re LexReader.lo) .nil) rx) ?_;obtain rfl:=foll hR (cf h4 (ct h5 rfl));exact rq (tt [0] (tO rfl (ts LexReader.lo) .nil) (QH0 (Low.agg' (Token.lo))))
   ·refine dchk (by kernel_rfl) ?_;refine ai gkA ?_;(first|refine ⟨(List.drop (Int.toNat r_.at_) (List.take (Int.toNat (w64 (c.at_+1))) c.line)),by exact cvA,?_⟩|refine ⟨_,fun _=>⟨(List.drop (Int.toNat r_.at_) (List.take (Int.toNat (w64 (c.at_+1))) c.line)),by exact cvA,rfl,rfl⟩,?_⟩|refine ⟨_,rfl,⟨(List.drop (Int.toNat r_.at_) (List.take (Int.toNat (w64 (c.at_+1))) c.line)),by exact cvA,Sub.refl _,rfl⟩,?_⟩);(first|apply u2|apply u3|apply u4|apply us);exact Q68 (runesBytes (List.drop (Int.toNat r_.at_) (List.take (Int.toNat (w64 (c.at_+1))) c.line))) szA (by refine Nat.le_trans (Qk5 _) ?_;simp only [List.length_drop,List.length_take];omega) _;(repeat ((first|refine ai rfl ?_|refine ai (fun _=>rfl) ?_|refine ai (fun _=>Q68 (runesBytes (List.drop (Int.toNat r_.at_) (List.take (Int.toNat (w64 (c.at_+1))) c.line))) szA (by refine Nat.le_trans (Qk5 _) ?_;simp only [List.length_drop,List.length_take];omega) _) ?_)));refine ai (fun h7=>?_) (fun h8=>?_)
    ·refine us (mv [0] (QK2 { c with at_:=(w64 (c.at_+1)) } r_.at_ ((Qw2 (runesBytes (List.drop (Int.toNat r_.at_) (List.take (Int.toNat (w64 (c.at_+1))) c.line)))).2)) (dO (ds LexReader.lo) .nil) (dp (d1 (d1 .nil))) (rO (re LexReader.lo) .nil) rx) ?_;obtain rfl:=foll hR (cf h4 (cf h6 (ct h7 rfl)));exact rq (tt [0] (tO rfl (ts LexReader.lo) .nil) (QH0 (Low.agg' (Token.lo))))
    ·obtain rfl:=foll hR (cf h4 (cf h6 (cf h8 rfl)));exact rq (tt [0] (tO rfl (ts LexReader.lo) .nil) (QH0 (Low.agg' (Token.lo))))
def QR4 (min max wall:Int):List Alt:=(List.range (max - min+1).toNat).map fun (i:Nat)=>(⟨max - (i:Int),wall⟩:Alt)
def Q01 (s:Shape):List Alt:=bif QK1 s != 0 then [] else bif s.kind==3 then s.alts++QR4 s.min s.max s.wall else s.alts
theorem Q78 {s:Shape} (h:(QK1 s != 0)=false) (hk:(s.kind==3)=true):1<=s.min∧s.min<=s.max∧s.max<=48:=by
 have hk':s.kind=3:=by simpa using hk
 simp only [QK1,hk'] at h
 revert h
 cases h2:(((((s.alts.length:Int)==0)&&(decide (s.min<=s.max)))&&(QO0 (⟨s.min,s.wall⟩:Alt)))&&(decide (s.max<=48))) with
 | false=>simp [h2,QE1]
 | true =>
  intro _
  simp [QO0] at h2
  omega
theorem Qec (lo hi wall:Int):((Qj4 hi (hi - lo+1).toNat).map fun (n:Int)=>(⟨n,wall⟩:Alt))=QR4 lo hi wall:=by
 simp [Qj4,QR4,List.map_map,Function.comp_def]
theorem Ql5 (s:Shape) (hs0:s.sz):∀ objs,AGives Tryz.prog 47 [Shape.a s] objs (altL (Q01 s)):=by
 generalize hR:Q01 s=R;refine ga (.cons (Shape.low _ _) .nil) lw (kp 4 [7,13,18]) Tryz.func47 ?_;have hk0:=hs0;obtain z7:s.alts.length<=4294967296:=hs0;refine us (QH9 s szA _) ?_;refine ai (fun h1=>?_) (fun h2=>?_)
 ·obtain rfl:=foll hR (ct h1 rfl);exact Q00 lw QT0
 ·refine us (mv [] (QI9 s.alts szA) .nil (dv (Qw6 (Alt.lows _ _)) .nil) (rO rr .nil) (rw_ 1 0 rfl)) ?_;refine ai (fun h3=>?_) (fun h4=>?_)
  ·refine us (r:=.fn (.func 129) [] [.ptr 4 0 1 0 0,.ptr 3 0 1 0 0]) (o:=[(0,.row 42 5 [[I s.kind,altL s.alts,I s.min,I s.max,I s.wall]]),(0,.row 87 2 (s.alts.map Alt.cells)),(0,.row 40 1 [[.own 1 0 2 0 s.alts.length]]),(0,.row 3 1 [[I s.min]]),(0,.row 3 1 [[I s.max]])]) (ACalls.of_cwp (fun _=>true) Tryz.func86 rfl rfl ?_) ?_
   ·exact ⟨_,_,told_same,rfl,rfl⟩
   obtain ⟨q1,q2,q3⟩:=Q78 h2 h3;refine range_next (α:=Int) (fun n=>.int .i64 n) (Qj4 s.max (s.max - s.min+1).toNat) (fun xs=>[(0,.row 42 5 [[I s.kind,altL s.alts,I s.min,I s.max,I s.wall]]),(0,.row 87 2 ((s.alts++xs.map fun (n:Int)=>(⟨n,s.wall⟩:Alt)).map Alt.cells)),(0,.row 40 1 [[.own 1 0 2 0 (s.alts++xs.map fun (n:Int)=>(⟨n,s.wall⟩:Alt)).length]]),(0,.row 3 1 [[I s.min]]),(0,.row 3 1 [[I s.max]])])
    (by simp) (by decide) (by decide) rfl rfl rfl rfl ?_ ?_ (by decide) ?_ ?_
   ·intro xs q hq _;simp only [List.mem_cons,List.not_mem_nil,or_false] at hq;rcases hq with rfl|rfl|rfl|rfl|rfl <;> exact ⟨_,_,_,rfl⟩
   ·intro K a w hs;have hv:=Q0c (hs.slot 18);obtain ⟨c1,c2⟩:=box_cell (o:=4) hs.mem rfl;obtain ⟨c3,c4⟩:=box_cell (o:=3) hs.mem rfl;refine ⟨129,#[.pointer (some ⟨K.ρ 4 0,0,none⟩),.pointer (some ⟨K.ρ 3 0,0,none⟩)],⟨K.ρ 3 0,0,none⟩,.int .i64 s.min,hv,?_,c4,?_,?_⟩
    ·intro args w;simp [go_sem]
    ·intro K1 xs W hs1;have hv1:=Q0c (hs1.slot 18);have e:K1.ρ 3 0=K.ρ 3 0:=by
      have:=hv1.symm.trans hv;exact (by simpa using this:K1.ρ 4 0=K.ρ 4 0∧K1.ρ 3 0=K.ρ 3 0).2
     rw [← e];exact (box_cell (o:=3) hs1.mem rfl).1
    ·rw [Qh6];exact sizes_stops 2 (by decide) _ _ s.min s.max w q1 q2 q3 c2 c4 c1 c3
   ·intro xs x hlen;rw [Qh6] at hlen;refine Or.inl ?_;refine ⟨Qp2 16 rfl lnA (by simp;omega),?_⟩;exact wk [0,1,2,3,4] (tO rfl (ts Shape.lo) (tO rfl (QR9 (by simp only [List.map_append,List.append_assoc];rfl) (Qs7 fun _=>Alt.lowc _ _)) (tO rfl (Qs0 (.cons _ _ _ _ (to 1 (by simp [List.length_append];omega)) .nil)) (tO rfl (ts (l1 .nil)) (tO rfl (ts (l1 .nil)) .nil)))))
     (sv (Q51 .nil (.cons _ _ _ _ (Q10 4 rfl rfl) (.cons _ _ _ _ (Q10 3 rfl rfl) .nil))) (s1 (sv (Q10 2 rfl rfl) (s1 (s1 (sv (Q10 0 rfl rfl) (sl (Shape.low _ _) .nil)))))))
   ·have e:Q01 s=s.alts++(Qj4 s.max (s.max - s.min+1).toNat).map fun (n:Int)=>(⟨n,s.wall⟩:Alt):=by
     rw [Qec];exact cf h2 (ct h3 rfl)
    obtain rfl:=foll hR e;exact Q00 lw (Qo2 Alt.zero _ rfl rfl rfl)
  ·obtain rfl:=foll hR (cf h2 (cf h4 rfl));exact Q00 lw (Qo2 Alt.zero _ rfl eqA lnA)
def Qg3 (is:Node->Bool):List Node->List Int->Nat->(List Int)
 | [],out,_=>out
 | x_ :: r,out,i=>bif (is x_) then Qg3 is r (out++([(i:Int)]:List Int)) (i+1) else Qg3 is r out (i+1)
def Qe1 (out:List Int):Int:=(Qo4 out).1
def Ql1 (l:List Node) (is:Node->Bool):Int:=bif ((Qb2 l)!=0) then 0 else Qe1 (Qg3 is l [] 0)
def QY1 (l:List Int) (at_:Int):Nat->Int->Token × Int × Int × Int
 | 0,_=>(Token.zero,0,0,0)
 | m+1,i=>bif ((decide (i<(l.length:Int)))&&((l.getD (Int.toNat i) 0)!=34)) then bif ((Q80 (l.getD (Int.toNat i) 0))==0) then (Token.zero,0,i,40) else bif ((l.getD (Int.toNat i) 0)==92) then bif ((decide ((w64 (i+1))<(l.length:Int)))&&((Q80 (l.getD (Int.toNat (w64 (i+1))) 0))==0)) then (Token.zero,0,(w64 (i+1)),40) else QY1 l at_ m (w64 ((w64 (i+1))+1)) else QY1 l at_ m (w64 (i+1)) else bif (decide (i >= (l.length:Int))) then (Token.zero,0,at_,50) else bif ((Qp4 (runesBytes (List.drop (Int.toNat at_) (List.take (Int.toNat (w64 (i+1))) l)))).2 != 0) then (Token.zero,0,at_,50) else ((⟨4,(Qp4 (runesBytes (List.drop (Int.toNat at_) (List.take (Int.toNat (w64 (i+1))) l)))).1,0,at_⟩:Token),(w64 (i+1)),0,0)
def QM2 (l:List Int) (at_:Int):Token × Int × Int × Int:=QY1 l at_ ((Int.toNat ((l.length:Int) - (w64 (at_+1))))+1) (w64 (at_+1))
theorem ref05_text_c (l:List Int) (at_:Int) (hs0:l.length<=4294967296) (hp0:0<=at_∧at_<(l.length:Int)∧l.length<=400):∀ objs,AGives Tryz.prog 193 [runes l,I at_] objs (AVal.tup [Token.a ((QM2 l at_).1),I ((QM2 l at_).2.1),I ((QM2 l at_).2.2.1),I ((QM2 l at_).2.2.2)]):=by
 generalize hR:QM2 l at_=R;refine ga (.cons lw (l1 .nil)) (Low.tup' (.cons (Token.low _ _) (l1 (l1 (l1 .nil))))) (kp 11 [23,29,36,50,58,72]) Tryz.func193 ?_;have hk0:=hs0;obtain z13:l.length<=4294967296:=hs0;have hw0:w64 (at_+1)=at_+1:=wr (by omega);refine Qh0 (fun (i:Int)=>∃ m,(Int.toNat ((l.length:Int) - i))<m∧QY1 l at_ m i=R∧at_<i∧i<=(l.length:Int)+1) (fun i=>(Int.toNat ((l.length:Int) - i))) (fun i=>[(0,runes l),(1,I at_),(4,AVal.ptr 0 0 4 0 0),(5,I 0),(6,I 0),(7,I 0),(8,I i)]) (fun i=>[(0,AObj.row 186 4 [[I 0,Sg ⟨#[]⟩,I 0,I 0]])]) (w64 (at_+1)) (wk [0] (tO rfl (ts Token.lo) .nil) (sl lw (s1 (sv (Q10 0 rfl rfl) (s1 (s1 (s1 (s1 .nil)))))))) ⟨_,Nat.lt_succ_self _,foll hR rfl,by exact exA⟩ ?_;clear hR;rintro i ⟨m,hm,hR,hx⟩;(try dsimp only at hR hm hx);obtain ⟨m,rfl⟩:=sucA m;refine ai gkA ?_;refine ai (fun h1=>?_) (fun h2=>?_)
 ·have hq1:=of_decide_eq_true ((Bool.and_eq_true _ _).mp h1).1;have hw1:w64 (i+1)=i+1:=wr (by omega);have hw2:w64 (i+1+1)=i+1+1:=wr (by omega);refine ai gkA ?_;refine us (QG3 (l.getD (Int.toNat i) 0) _) ?_;refine ai (fun h3=>?_) (fun h4=>?_)
  ·obtain rfl:=foll hR (ct h1 (ct h3 rfl));exact Q00 (Low.tup' (.cons (Token.low _ _) (l1 (l1 (l1 .nil))))) (Seen.tup (e1 (e1 (e1 (e1 .nil)))))
  ·refine ai gkA ?_;refine ai (fun h5=>?_) (fun h6=>?_)
   ·refine ai gkA ?_;(first|apply u2|apply u3|apply u4|apply us);exact QG3 (l.getD (Int.toNat (w64 (i+1))) 0) _;refine ai (fun h7=>?_) (fun h8=>?_)
    ·obtain rfl:=foll hR (ct h1 (cf h4 (ct h5 (ct h7 rfl))));exact Q00 (Low.tup' (.cons (Token.low _ _) (l1 (l1 (l1 .nil))))) (Seen.tup (e1 (e1 (e1 (e1 .nil)))))
    ·exact Ql0 (w64 ((w64 (i+1))+1)) (wk [0] (tO rfl (ts Token.lo) .nil) (sl lw (s1 (sv (Q10 0 rfl rfl) (s1 (s1 (s1 (s1 .nil)))))))) omA ⟨m,by exact omA,foll hR (ct h1 (cf h4 (ct h5 (cf h8 rfl)))),by exact exA⟩
   ·exact Ql0 (w64 (i+1)) (wk [0] (tO rfl (ts Token.lo) .nil) (sl lw (s1 (sv (Q10 0 rfl rfl) (s1 (s1 (s1 (s1 .nil)))))))) omA ⟨m,by exact omA,foll hR (ct h1 (cf h4 (cf h6 rfl))),by exact exA⟩
 ·refine ai (fun h9=>?_) (fun h10=>?_)
  ·have qh9:=of_decide_eq_true h9;obtain rfl:=foll hR (cf h2 (ct h9 rfl));exact Q00 (Low.tup' (.cons (Token.low _ _) (l1 (l1 (l1 .nil))))) (Seen.tup (e1 (e1 (e1 (e1 .nil)))))
  ·have qh10:=of_decide_eq_false h10;refine ai gkA ?_;(first|refine ⟨(List.drop (Int.toNat at_) (List.take (Int.toNat (w64 (i+1))) l)),by exact cvA,?_⟩|refine ⟨_,fun _=>⟨(List.drop (Int.toNat at_) (List.take (Int.toNat (w64 (i+1))) l)),by exact cvA,rfl,rfl⟩,?_⟩|refine ⟨_,rfl,⟨(List.drop (Int.toNat at_) (List.take (Int.toNat (w64 (i+1))) l)),by exact cvA,Sub.refl _,rfl⟩,?_⟩);refine us (QUb (runesBytes (List.drop (Int.toNat at_) (List.take (Int.toNat (w64 (i+1))) l))) szA _) ?_;refine ai (fun h11=>?_) (fun h12=>?_)
   ·obtain rfl:=foll hR (cf h2 (cf h10 (ct h11 rfl)));exact Q00 (Low.tup' (.cons (Token.low _ _) (l1 (l1 (l1 .nil))))) (Seen.tup (e1 (e1 (e1 (e1 .nil)))))
   ·obtain rfl:=foll hR (cf h2 (cf h10 (cf h12 rfl)));exact Q00 (Low.tup' (.cons (Token.low _ _) (l1 (l1 (l1 .nil))))) (Seen.tup (e1 (e1 (e1 (e1 .nil)))))
theorem QL6 (l:List Int) (at_:Int) (h:l.length<=400):∀ (m:Nat) (i:Int),at_<i->0<=at_->i<=(l.length:Int)+1->(Int.toNat ((l.length:Int) - i))<m->((QY1 l at_ m i).2.2.2 != 0)=false->at_<(QY1 l at_ m i).2.1∧(QY1 l at_ m i).2.1<=(l.length:Int)
 | 0,i,_,_,_,hm=>absurd hm (by omega)
 | m+1,i,h0,hz,h1,hm=>by
  rw [QY1]
  cases hd:((decide (i<(l.length:Int)))&&((l.getD (Int.toNat i) 0)!=34)) with
  | false =>
   simp only [cond_false]
   cases hi:(decide (i >= (l.length:Int))) with
   | true=>intro h;cases h
   | false =>
    have hlt:=of_decide_eq_false hi
    simp only [cond_false]
    cases ((Qp4 (runesBytes (List.drop (Int.toNat at_) (List.take (Int.toNat (w64 (i+1))) l)))).2 != 0) with
    | true=>intro h;cases h
    | false =>
     intro _
     have hw:w64 (i+1)=i+1:=wr (by omega)
     simp only [cond_false]
     rw [hw]
     omega
  | true =>
   have hlt:=of_decide_eq_true ((Bool.and_eq_true _ _).mp hd).1
   have hw:w64 (i+1)=i+1:=wr (by omega)
   have hw2:w64 (i+1+1)=i+1+1:=wr (by omega)
   simp only [cond_true]
   cases ((Q80 (l.getD (Int.toNat i) 0))==0) with
   | true=>intro h;cases h
   | false =>
    simp only [cond_false]
    rw [hw]
    cases ((l.getD (Int.toNat i) 0)==92) with
    | true =>
     simp only [cond_true]
     cases ((decide ((i+1)<(l.length:Int)))&&((Q80 (l.getD (Int.toNat (i+1)) 0))==0)) with
     | true=>intro h;cases h
     | false =>
      simp only [cond_false]
      rw [hw2]
      exact QL6 l at_ h m _ (by omega) hz (by omega) (by omega)
    | false=>exact QL6 l at_ h m _ (by omega) hz (by omega) (by omega)
theorem ref05_text_lt (l:List Int) (at_:Int) (h0:0<=at_) (h1:at_<(l.length:Int)) (h:l.length<=400) (he:((QM2 l at_).2.2.2 != 0)=false):at_<(QM2 l at_).2.1∧(QM2 l at_).2.1<=(l.length:Int):=by
 have hw:w64 (at_+1)=at_+1:=wr (by omega)
 unfold QM2 at he ⊢
 rw [hw] at he ⊢
 exact QL6 l at_ h _ _ (by omega) h0 (by omega) (Nat.lt_succ_self _) he
def Qb1 (j:Job):Bool:=bif (j.state==1) then bif (((j.start != 0)||(j.limit != 0))||(j.nodes != 0)) then false else bif (j.promise==(-1)) then (j.choice==0) else (((Q31 j.promise)&&(decide ((QO1 j.shape j.choice) > 0)))&&(!j.held)) else bif (j.state==2) then bif ((((((((QO1 j.shape j.choice)==0)||j.held)||(!(Q31 j.start)))||(!(Q31 j.promise)))||(decide (j.start > j.promise)))||(!(Q31 j.limit)))||(j.limit != (w64 (j.start+(QO1 j.shape j.choice))))) then false else ((Q08 j.nodes)&&(QS5 j.shape j.choice ((Q86 j.nodes).length:Int))) else ((((((((Qx7 j.state)&&(j.nodes==0))&&(Q31 j.start))&&(Q31 j.limit))&&(decide (j.promise >= (-1))))&&(decide (j.promise<=1000000)))&&(decide (j.choice >= 0)))&&(decide (j.choice<=48)))
theorem ref14_state_c (j:Job) (hs0:j.sz):∀ objs,AGives Tryz.prog 88 [Job.a j] objs (Bo (Qb1 j)):=by
 generalize hR:Qb1 j=R;refine ga (.cons (Job.low _ _) .nil) lx (kp 5 [10,11,25,28,48,94]) Tryz.func88 ?_;have hk0:=hs0;obtain ⟨z11,z12,z13,z14,z15⟩:j.name.size<=4294967296∧j.user.size<=4294967296∧j.account.size<=4294967296∧(j.shape.alts.length<=4294967296)∧j.after.length<=4294967296:=hs0;refine us (ref09_List_c j.nodes _) ?_;refine ai (fun h1=>?_) (fun h2=>?_)
 ·refine ai (fun h3=>?_) (fun h4=>?_)
  ·obtain rfl:=foll hR (ct h1 (ct h3 rfl));exact Q00 lx sr
  ·refine ai (fun h5=>?_) (fun h6=>?_)
   ·obtain rfl:=foll hR (ct h1 (cf h4 (ct h5 rfl)));exact Q00 lx sr
   ·refine us (Qw3 j.promise _) ?_;(first|apply u2|apply u3|apply u4|apply us);exact QCa j.shape j.choice szA _;obtain rfl:=foll hR (ct h1 (cf h4 (cf h6 rfl)));exact Q00 lx sr
 ·refine ai (fun h7=>?_) (fun h8=>?_)
  ·refine us (QCa j.shape j.choice szA _) ?_;(first|apply u2|apply u3|apply u4|apply us);exact Qw3 j.start _;(first|apply u2|apply u3|apply u4|apply us);exact Qw3 j.promise _;(first|apply u2|apply u3|apply u4|apply us);exact Qw3 j.limit _;refine ai (fun h9=>?_) (fun h10=>?_)
   ·obtain rfl:=foll hR (cf h2 (ct h7 (ct h9 rfl)));exact Q00 lx sr
   ·refine us (ref14_Few_c j.nodes _) ?_;(first|apply u2|apply u3|apply u4|apply us);exact ref07_Allows_c j.shape j.choice ((Q86 j.nodes).length:Int) szA _;obtain rfl:=foll hR (cf h2 (ct h7 (cf h10 rfl)));exact Q00 lx sr
  ·refine us (ref14_Ended_c j.state _) ?_;(first|apply u2|apply u3|apply u4|apply us);exact Qw3 j.start _;(first|apply u2|apply u3|apply u4|apply us);exact Qw3 j.limit _;obtain rfl:=foll hR (cf h2 (cf h8 rfl));exact Q00 lx sr
def Qh2 :List Node->Int->Nat->Int × Nat
 | [],up,i=>(up,i)
 | x_ :: r,up,i=>bif ((x_.state != 4)&&(!x_.drain)) then Qh2 r (w64 (up+1)) (i+1) else Qh2 r up (i+1)
def Q02 (s:State):List Node->List Step->Nat->(List Step) × Nat
 | [],p_,i1=>(p_,i1)
 | _ :: r,p_,i1=>Q02 s r (Qx1 p_ 0 (QO4 s (i1:Int)) 1) (i1+1)
def Qt4 (p_:List Step) (i1:Nat):(List Step):=p_
def QK3 (s:State) (up:Int) (i:Nat):(List Step):=Qt4 ((Q02 s s.nodes (QY3 up) 0).1) ((Q02 s s.nodes (QY3 up) 0).2)
def Q63 (s:State):(List Step):=QK3 s ((Qh2 s.nodes 0 0).1) ((Qh2 s.nodes 0 0).2)
theorem QFa (s:State) (hs0:s.sz):∀ objs,AGives Tryz.prog 44 [State.a s] objs (stepL (Q63 s)):=by
 generalize hR:Q63 s=R;refine ga (.cons (State.low _ _) .nil) lw (kp 7 [11,29,38]) Tryz.func44 ?_;have hk0:=hs0;obtain ⟨z7,z8,z9,z10,z11,z12,z13⟩:=hs0;refine Qj0 (fun (up:Int) (i:Nat)=>QK3 s (Qh2 (List.drop i s.nodes) up i).1 (Qh2 (List.drop i s.nodes) up i).2=R∧i<=s.nodes.length) (fun up i=>s.nodes.length - i) (fun up i=>[(1,AVal.ptr 0 0 8 0 0),(2,AVal.lit (.slice none 0 0)),(3,I up),(4,I (i:Int))]) (fun up i=>[(0,AObj.row 28 8 [[I s.now,nodeL s.nodes,jobL s.jobs,Qt6 s.resizes,bookL s.books,Qa7 s.ledger,I s.nextJob,I s.nextBook]])]) 0 0 (wk [0] (tO rfl (ts State.lo) .nil) (sv (Q10 0 rfl rfl) (s1 (s1 (s1 .nil))))) ⟨foll hR rfl,by exact omA⟩ ?_;clear hR;rintro up i ⟨hR,hj⟩;(try dsimp only at hR hj);refine ai (fun h1=>?_) (fun h2=>?_)
 ·have hlt:=ltA h1;rw [Qf0 Node.zero hlt] at hR;refine ai gkA ?_;refine ai gkA ?_;refine ai (fun h3=>?_) (fun h4=>?_)
  ·exact Qa0 (w64 (up+1)) (i+1) (wk [0] (tO rfl (ts State.lo) .nil) (sv (Q10 0 rfl rfl) (s1 (s1 (sv (Qd0 (I_eq (wr omA)) lx) .nil))))) omA ⟨foll hR (congrArg (fun p:Int × Nat=>QK3 s p.1 p.2) (ct h3 rfl)),by exact omA⟩
  ·exact Qa0 up (i+1) (wk [0] (tO rfl (ts State.lo) .nil) (sv (Q10 0 rfl rfl) (s1 (s1 (sv (Qd0 (I_eq (wr omA)) lx) .nil))))) omA ⟨foll hR (congrArg (fun p:Int × Nat=>QK3 s p.1 p.2) (cf h4 rfl)),by exact omA⟩
 ·rw [Qg0 (l:=s.nodes) (j:=i) (geA h2)] at hR;replace hR:QK3 s up i=R:=fo2 (fun p:Int × Nat=>QK3 s p.1 p.2) (up,i) hR rfl;refine us (ref10_Flat_c up _) ?_;refine Qj0 (fun (p_:List Step) (i1:Nat)=>Qt4 (Q02 s (List.drop i1 s.nodes) p_ i1).1 (Q02 s (List.drop i1 s.nodes) p_ i1).2=R∧i1<=s.nodes.length∧p_.length<=4294967296) (fun p_ i1=>s.nodes.length - i1) (fun p_ i1=>[(1,AVal.ptr 0 0 8 0 0),(2,AVal.lit (.slice none 0 0)),(5,stepL p_),(6,I (i1:Int))]) (fun p_ i1=>[(0,AObj.row 28 8 [[I s.now,nodeL s.nodes,jobL s.jobs,Qt6 s.resizes,bookL s.books,Qa7 s.ledger,I s.nextJob,I s.nextBook]])]) (QY3 up) 0 (wk [0] (tO rfl (ts State.lo) .nil) (sv (Q10 0 rfl rfl) (s1 (sl lw (s1 .nil))))) ⟨foll hR rfl,by exact omA,by first|(((try dsimp only);exact Q91 (by assumption)))|first|(((try dsimp only);exact Q91 hx))|first|(exact QW2 _)|first|(exact Qu2 _)|exact exA⟩ ?_;clear hR;rintro p_ i1 ⟨hR,hj,hx⟩;(try dsimp only at hR hj hx);refine ai (fun h5=>?_) (fun h6=>?_)
  ·have hlt:=ltA h5;rw [Qf0 Node.zero hlt] at hR;refine us (QB9 s (i1:Int) (by first|(((try dsimp only);exact Q91 (by assumption)))|first|(((try dsimp only);exact Q91 hx))|first|(exact QW2 _)|first|(exact Qu2 _)|exact szA) ckA _) ?_;refine us (QE6 p_ 0 (QO4 s (i1:Int)) 1 (by first|(((try dsimp only);exact Q91 (by assumption)))|first|(((try dsimp only);exact Q91 hx))|first|(exact QW2 _)|first|(exact Qu2 _)|exact szA) _) ?_;exact Qa0 (Qx1 p_ 0 (QO4 s (i1:Int)) 1) (i1+1) (wk [0] (tO rfl (ts State.lo) .nil) (sv (Q10 0 rfl rfl) (s1 (sl lw (sv (Qd0 (I_eq (wr omA)) lx) .nil))))) omA ⟨foll hR (congrArg (fun p:(List Step) × Nat=>Qt4 p.1 p.2) rfl),by exact omA,by first|(((try dsimp only);exact Q91 (by assumption)))|first|(((try dsimp only);exact Q91 hx))|first|(exact QW2 _)|first|(exact Qu2 _)|exact exA⟩
  ·rw [Qg0 (l:=s.nodes) (j:=i1) (geA h6)] at hR;replace hR:Qt4 p_ i1=R:=fo2 (fun p:(List Step) × Nat=>Qt4 p.1 p.2) (p_,i1) hR rfl;obtain rfl:=foll hR rfl;exact Q00 lw sr
theorem Qu2 (s:State):(Q63 s).length<=4294967296:=by
 have g2:∀ (l:List Node) (p:List Step) (i:Nat),p.length<=4294967296->(Q02 s l p i).1.length<=4294967296:=by
  intro l
  induction l with
  | nil=>intro p i h;exact h
  | cons x r ih=>intro p i h;rw [Q02];exact ih _ _ (Q91 h)
 unfold Q63 QK3 Qt4
 exact g2 _ _ _ (QW2 _)
end Go.Proofs.YtiiaifgeekdpaaaGreatDoor
namespace Go.Proofs.YtiiaifgeekdpaaaGreatDoor
set_option linter.unusedSimpArgs false
set_option linter.unusedVariables false
open Go.Fw
set_option maxRecDepth 20000
set_option maxHeartbeats 4000000
attribute [local irreducible] ACalls AMoves
def Q50 (r_:LexReader):Token × LexReader:=bif ((QR0 (r_.line.getD (Int.toNat r_.at_) 0))==2) then ((Qz1 r_).1,(Qz1 r_).2) else bif ((QR0 (r_.line.getD (Int.toNat r_.at_) 0))==3) then ((Qd1 r_).1,(Qd1 r_).2) else bif ((r_.line.getD (Int.toNat r_.at_) 0)==34) then ((Qo1 r_).1,(Qo1 r_).2) else bif ((decide ((Qu4 ⟨#[61,58,44,45]⟩ (wu8 (r_.line.getD (Int.toNat r_.at_) 0))) >= 0))&&(decide ((r_.line.getD (Int.toNat r_.at_) 0)<128))) then ((⟨5,(runeStr (r_.line.getD (Int.toNat r_.at_) 0)),0,0⟩:Token),{ r_ with at_:=(w64 (r_.at_+1)) }) else bif ((QR0 (r_.line.getD (Int.toNat r_.at_) 0))==0) then (Token.zero,(QE0 r_ r_.at_ 40)) else (Token.zero,(QE0 r_ r_.at_ 50))
theorem Q3a (r_:LexReader) (hs0:r_.sz) (hp0:0<=r_.at_∧r_.at_<(r_.line.length:Int)∧r_.line.length<=400):AMoves Tryz.prog 186 [AVal.ptr 0 0 4 0 0] [(0,AObj.row 210 4 [[runes r_.line,I r_.at_,I r_.bad,I r_.error]])] 1 (Token.a ((Q50 r_).1)) [(0,AObj.row 210 4 [[runes ((Q50 r_).2.line),I ((Q50 r_).2.at_),I ((Q50 r_).2.bad),I ((Q50 r_).2.error)]])]:=by
 generalize hR:Q50 r_=R;refine mo (kp 4 [20,26,32,37,56]) Tryz.func186 ?_;have hk0:=hs0;obtain z11:r_.line.length<=4294967296:=hs0;refine dchk (by kernel_rfl) ?_;refine ai gkA ?_;(repeat ((first|refine ai rfl ?_|refine ai (fun _=>rfl) ?_)));refine us (QN3 (r_.line.getD (Int.toNat r_.at_) 0) _) ?_;refine ai (fun h1=>?_) (fun h2=>?_)
 ·refine us (mv [0] (Q5a r_ szA ckA) (dO (ds LexReader.lo) .nil) (dp .nil) (rO (re LexReader.lo) .nil) (Ren.low _ (Low.agg' (Token.lo)))) ?_;obtain rfl:=foll hR (ct h1 rfl);exact rq (tt [0] (tO rfl (ts LexReader.lo) .nil) (QH0 (Low.agg' (Token.lo))))
 ·refine us (QN3 (r_.line.getD (Int.toNat r_.at_) 0) _) ?_;refine ai (fun h3=>?_) (fun h4=>?_)
  ·refine us (mv [0] (Qr9 r_ szA ckA) (dO (ds LexReader.lo) .nil) (dp .nil) (rO (re LexReader.lo) .nil) (Ren.low _ (Low.agg' (Token.lo)))) ?_;obtain rfl:=foll hR (cf h2 (ct h3 rfl));exact rq (tt [0] (tO rfl (ts LexReader.lo) .nil) (QH0 (Low.agg' (Token.lo))))
  ·refine ai (fun h5=>?_) (fun h6=>?_)
   ·refine us (mv [0] (Q4a r_ szA ckA) (dO (ds LexReader.lo) .nil) (dp .nil) (rO (re LexReader.lo) .nil) (Ren.low _ (Low.agg' (Token.lo)))) ?_;obtain rfl:=foll hR (cf h2 (cf h4 (ct h5 rfl)));exact rq (tt [0] (tO rfl (ts LexReader.lo) .nil) (QH0 (Low.agg' (Token.lo))))
   ·refine us (QP8 ⟨#[61,58,44,45]⟩ (wu8 (r_.line.getD (Int.toNat r_.at_) 0)) _) ?_;refine ai (fun h7=>?_) (fun h8=>?_)
    ·obtain rfl:=foll hR (cf h2 (cf h4 (cf h6 (ct h7 rfl))));exact rq (tt [0] (tO rfl (ts LexReader.lo) .nil) (QH0 (Low.agg' (Token.lo))))
    ·refine us (QN3 (r_.line.getD (Int.toNat r_.at_) 0) _) ?_;refine ai (fun h9=>?_) (fun h10=>?_)
     ·refine us (mv [0] (QK2 r_ r_.at_ 40) (dO (ds LexReader.lo) .nil) (dp (d1 (d1 .nil))) (rO (re LexReader.lo) .nil) rx) ?_;obtain rfl:=foll hR (cf h2 (cf h4 (cf h6 (cf h8 (ct h9 rfl)))));exact rq (tt [0] (tO rfl (ts LexReader.lo) .nil) (QH0 (Low.agg' (Token.lo))))
     ·refine us (mv [0] (QK2 r_ r_.at_ 50) (dO (ds LexReader.lo) .nil) (dp (d1 (d1 .nil))) (rO (re LexReader.lo) .nil) rx) ?_;obtain rfl:=foll hR (cf h2 (cf h4 (cf h6 (cf h8 (cf h10 rfl)))));exact rq (tt [0] (tO rfl (ts LexReader.lo) .nil) (QH0 (Low.agg' (Token.lo))))
def Adv (a b:LexReader):Prop:=b.line=a.line∧a.at_<=b.at_∧b.at_<=(a.line.length:Int)∧b.error=a.error∧b.bad=a.bad
theorem Qo7 (is:Int->Bool):∀ (m:Nat) (c:LexReader),0<=c.at_->c.at_<=(c.line.length:Int)->c.line.length<=400->(Int.toNat ((c.line.length:Int) - c.at_))<m->Adv c (Qp0 is m c)
 | 0,c,_,_,_,h=>absurd h (by omega)
 | m+1,c,h0,h1,h2,h=>by
  rw [Qp0]
  cases hc:((decide (c.at_<(c.line.length:Int)))&&(is (c.line.getD (Int.toNat c.at_) 0))) with
  | false=>exact ⟨rfl,Int.le_refl _,h1,rfl,rfl⟩
  | true =>
   have hlt:=of_decide_eq_true ((Bool.and_eq_true _ _).mp hc).1
   have hw:w64 (c.at_+1)=c.at_+1:=wr (by omega)
   rw [hw]
   obtain ⟨a,b,d,e,f⟩:=Qo7 is m { c with at_:=c.at_+1 } (by dsimp only;omega) (by dsimp only;omega) h2 (by dsimp only;omega)
   dsimp only at a b d e f
   exact ⟨a,by simp only [cond_true];omega,d,e,f⟩
theorem Qx4 (r:LexReader) (is:Int->Bool) (h0:0<=r.at_) (h1:r.at_<=(r.line.length:Int)) (h2:r.line.length<=400):Adv r (Q20 r is).2 :=
 Qo7 is _ r h0 h1 h2 (Nat.lt_succ_self _)
theorem Qn6 (r:LexReader) (is:Int->Bool) (h0:0<=r.at_) (h1:r.at_<(r.line.length:Int)) (h2:r.line.length<=400) (h:is (r.line.getD (Int.toNat r.at_) 0)=true):r.at_<(Q20 r is).2.at_:=by
 have hw:w64 (r.at_+1)=r.at_+1:=wr (by omega)
 have e:(Q20 r is).2=Qp0 is (Int.toNat ((r.line.length:Int) - r.at_)) { r with at_:=r.at_+1 }:=by
  show Qp0 is ((Int.toNat ((r.line.length:Int) - r.at_))+1) r=_
  rw [Qp0,show ((decide (r.at_<(r.line.length:Int)))&&(is (r.line.getD (Int.toNat r.at_) 0)))=true by rw [h,Bool.and_true];exact decide_eq_true h1,hw]
  rfl
 rw [e]
 have:=(Qo7 is (Int.toNat ((r.line.length:Int) - r.at_)) { r with at_:=r.at_+1 } (by dsimp only;omega) (by dsimp only;omega) h2 (by dsimp only;omega)).2.1
 dsimp only at this
 omega
theorem QQ7 (r:LexReader) (p e:Int) (he:e ≠ 0):(QE0 r p e).line=r.line∧(QE0 r p e).at_=r.at_∧(QE0 r p e).error ≠ 0:=by
 unfold QE0
 cases h:(r.error==0) with
 | true=>exact ⟨rfl,rfl,he⟩
 | false=>exact ⟨rfl,rfl,by simpa using h⟩
def Nxt (a b:LexReader):Prop:=b.line=a.line∧a.at_<=b.at_∧b.at_<=(a.line.length:Int)∧(b.error ≠ 0∨a.at_<b.at_)
theorem lex_word_nxt (r:LexReader) (h0:0<=r.at_) (h1:r.at_<(r.line.length:Int)) (h2:r.line.length<=400) (hc:((QR0 (r.line.getD (Int.toNat r.at_) 0))==2)=true):Nxt r (Qz1 r).2:=by
 obtain ⟨a,b,c,_,_⟩:=Qx4 r (fun (y:Int)=>Q90 y ([2,3]:List Int) 0) h0 (by omega) h2
 exact ⟨a,b,c,Or.inr (Qn6 r _ h0 h1 h2 (by simp only [Q90,hc];rfl))⟩
theorem class_digit (x:Int) (h:(QR0 x==3)=true):48<=x∧x<=57:=by
 unfold QR0 at h
 revert h
 cases ((x==9)||(x==32)) with
 | true=>simp
 | false =>
  simp only [cond_false]
  cases (((((decide (x<32))||((decide (x >= 127))&&(decide (x<=160))))||((decide (x >= 55296))&&(decide (x<=57343))))||(x==65533))||(decide (x > 1114111))) with
  | true=>simp
  | false =>
   simp only [cond_false]
   cases hd:((decide (x >= 48))&&(decide (x<=57))) with
   | true=>intro _;simp at hd;omega
   | false =>
    simp only [cond_false]
    cases ((((decide (x >= 97))&&(decide (x<=122)))||((decide (x >= 65))&&(decide (x<=90))))||(decide (x > 160))) <;> simp
theorem lex_count_nxt (r:LexReader) (h0:0<=r.at_) (h1:r.at_<(r.line.length:Int)) (h2:r.line.length<=400) (hc:((QR0 (r.line.getD (Int.toNat r.at_) 0))==3)=true):Nxt r (Qd1 r).2:=by
 obtain ⟨a,b,c,_,_⟩:=Qx4 r (fun (y:Int)=>(((decide (y >= 48))&&(decide (y<=57)))||((decide (y >= 97))&&(decide (y<=122))))) h0 (by omega) h2
 have hd:=class_digit _ hc
 have l:=Qn6 r (fun (y:Int)=>(((decide (y >= 48))&&(decide (y<=57)))||((decide (y >= 97))&&(decide (y<=122))))) h0 h1 h2 (by simp only [decide_eq_true hd.1,decide_eq_true hd.2];rfl)
 unfold Qd1
 cases (!(Q66 ((Q20 r (fun (y:Int)=>(((decide (y >= 48))&&(decide (y<=57)))||((decide (y >= 97))&&(decide (y<=122)))))).1))) with
 | true=>exact ⟨a,b,c,Or.inr l⟩
 | false =>
  simp only [cond_false]
  cases (!(Qr5 ((Q20 r (fun (y:Int)=>(((decide (y >= 48))&&(decide (y<=57)))||((decide (y >= 97))&&(decide (y<=122)))))).1)).2) with
  | false=>exact ⟨a,b,c,Or.inr l⟩
  | true =>
   obtain ⟨f1,f2,f3⟩:=QQ7 (Q20 r (fun (y:Int)=>(((decide (y >= 48))&&(decide (y<=57)))||((decide (y >= 97))&&(decide (y<=122)))))).2 r.at_ 50 (by decide)
   exact ⟨f1.trans a,by simp only [cond_true];rw [f2];exact b,by simp only [cond_true];rw [f2];exact c,Or.inl f3⟩
theorem Qta:∀ (m:Nat) (c:LexReader) (b:Bool),0<=c.at_->c.at_<=(c.line.length:Int)->c.line.length<=400->(Int.toNat ((c.line.length:Int) - c.at_))<m->Adv c (Qv1 m c b).1
 | 0,c,_,_,_,_,h=>absurd h (by omega)
 | m+1,c,b,h0,h1,h2,h=>by
  rw [Qv1]
  cases hc:((decide (c.at_<(c.line.length:Int)))&&(QX0 (c.line.getD (Int.toNat c.at_) 0) b).1) with
  | false=>exact ⟨rfl,Int.le_refl _,h1,rfl,rfl⟩
  | true =>
   have hlt:=of_decide_eq_true ((Bool.and_eq_true _ _).mp hc).1
   have hw:w64 (c.at_+1)=c.at_+1:=wr (by omega)
   rw [hw]
   obtain ⟨a,b,d,e,f⟩:=Qta m { c with at_:=c.at_+1 } _ (by dsimp only;omega) (by dsimp only;omega) h2 (by dsimp only;omega)
   dsimp only at a b d e f
   exact ⟨a,by simp only [cond_true];omega,d,e,f⟩
theorem lex_text_nxt (r:LexReader) (h0:0<=r.at_) (h1:r.at_<(r.line.length:Int)) (h2:r.line.length<=400):Nxt r (Qo1 r).2:=by
 obtain ⟨a,b,c,_,_⟩:=Qta _ r true h0 (by omega) h2 (Nat.lt_succ_self _)
 unfold Qo1
 generalize (Qv1 ((Int.toNat ((r.line.length:Int) - r.at_))+1) r true).1=q at a b c
 unfold QX1
 have ff:∀ (x:LexReader) (p e:Int),e ≠ 0->x.line=r.line->r.at_<=x.at_->x.at_<=(r.line.length:Int)->Nxt r (QE0 x p e):=by
  intro x p e he hx hp hq
  obtain ⟨f1,f2,f3⟩:=QQ7 x p e he
  exact ⟨f1.trans hx,by rw [f2];exact hp,by rw [f2];exact hq,Or.inl f3⟩
 cases h3:(q.at_==(q.line.length:Int)) with
 | true=>exact ff q _ _ (by decide) a b c
 | false =>
  simp only [cond_false]
  have h3':q.at_ ≠ (r.line.length:Int):=by rw [a] at h3;simpa using h3
  have hw:w64 (q.at_+1)=q.at_+1:=wr (by omega)
  cases ((q.line.getD (Int.toNat q.at_) 0)!=34) with
  | true=>exact ff q _ _ (by decide) a b c
  | false =>
   simp only [cond_false]
   rw [hw]
   cases h4:((Qw2 (runesBytes (List.drop (Int.toNat r.at_) (List.take (Int.toNat (q.at_+1)) q.line)))).2 != 0) with
   | true=>exact ff { q with at_:=q.at_+1 } _ _ (by simpa using h4) a (by show r.at_<=q.at_+1;omega) (by show q.at_+1<=_;omega)
   | false=>exact ⟨a,by show r.at_<=q.at_+1;omega,by show q.at_+1<=_;omega,Or.inr (by show r.at_<q.at_+1;omega)⟩
theorem lex_next_nxt (r:LexReader) (h0:0<=r.at_) (h1:r.at_<(r.line.length:Int)) (h2:r.line.length<=400):Nxt r (Q50 r).2:=by
 have hw:w64 (r.at_+1)=r.at_+1:=wr (by omega)
 have ff:∀ (e:Int),e ≠ 0->Nxt r (QE0 r r.at_ e):=by
  intro e he
  obtain ⟨f1,f2,f3⟩:=QQ7 r r.at_ e he
  exact ⟨f1,by rw [f2];exact Int.le_refl _,by rw [f2];omega,Or.inl f3⟩
 unfold Q50
 cases hc:((QR0 (r.line.getD (Int.toNat r.at_) 0))==2) with
 | true=>exact lex_word_nxt r h0 h1 h2 hc
 | false =>
  simp only [cond_false]
  cases hd:((QR0 (r.line.getD (Int.toNat r.at_) 0))==3) with
  | true=>exact lex_count_nxt r h0 h1 h2 hd
  | false =>
   simp only [cond_false]
   cases ((r.line.getD (Int.toNat r.at_) 0)==34) with
   | true=>exact lex_text_nxt r h0 h1 h2
   | false =>
    simp only [cond_false]
    cases ((decide ((Qu4 ⟨#[61,58,44,45]⟩ (wu8 (r.line.getD (Int.toNat r.at_) 0))) >= 0))&&(decide ((r.line.getD (Int.toNat r.at_) 0)<128))) with
    | true=>rw [hw];exact ⟨rfl,by show r.at_<=r.at_+1;omega,by show r.at_+1<=_;omega,Or.inr (by show r.at_<r.at_+1;omega)⟩
    | false =>
     simp only [cond_false]
     cases ((QR0 (r.line.getD (Int.toNat r.at_) 0))==0) with
     | true=>exact ff 40 (by decide)
     | false=>exact ff 50 (by decide)
theorem lex_round (r c:LexReader) (b:Int->Bool) (h0:0<=r.at_) (h1:r.at_<=(r.line.length:Int)) (h2:r.line.length<=400) (he:(r.error==0)=true) (e:c=(Q20 r b).2) (hn:(c.at_==(c.line.length:Int))=false) :
  (0<=c.at_∧c.at_<(c.line.length:Int)∧c.line.length<=400)∧(0<=(Q50 c).2.at_∧(Q50 c).2.at_<=((Q50 c).2.line.length:Int)∧(Q50 c).2.line.length<=400) ∧
  2*Int.toNat (((Q50 c).2.line.length:Int) - (Q50 c).2.at_)+(bif (Q50 c).2.error==0 then 1 else 0)<2*Int.toNat ((r.line.length:Int) - r.at_)+(bif r.error==0 then 1 else 0) ∧
  (((Q50 c).2.error==0)=true->r.at_+1<=(Q50 c).2.at_):=by
 obtain ⟨a1,a2,a3,a4,a5⟩:=Qx4 r b h0 h1 h2
 rw [← e] at a1 a2 a3 a4 a5
 have hn':c.at_ ≠ (r.line.length:Int):=by rw [a1] at hn;simpa using hn
 have hc:0<=c.at_∧c.at_<(c.line.length:Int)∧c.line.length<=400:=by rw [a1];omega
 obtain ⟨n1,n2,n3,n4⟩:=lex_next_nxt c hc.1 hc.2.1 hc.2.2
 rw [he]
 rw [a1] at n1 n3
 refine ⟨hc,by rw [n1];omega,?_⟩
 rw [n1]
 rcases n4 with n4|n4
 ·have:((Q50 c).2.error==0)=false:=by simpa using n4
  rw [this]
  simp only [cond_true,cond_false]
  exact ⟨by omega,fun h=>nomatch h⟩
 ·refine ⟨?_,fun _=>by omega⟩
  cases ((Q50 c).2.error==0) <;> simp only [cond_true,cond_false] <;> omega
def Q41 (v:Job) (choice:Int):Alt × Bool:=bif ((decide (choice<0))||(decide (choice >= ((Q01 v.shape).length:Int)))) then (Alt.zero,false) else (((Q01 v.shape).getD (Int.toNat choice) Alt.zero),true)
theorem Q07 (v:Job) (choice:Int) (hs0:v.sz):∀ objs,AGives Tryz.prog 122 [Job.a v,I choice] objs (AVal.tup [Alt.a ((Q41 v choice).1),Bo ((Q41 v choice).2)]):=by
 generalize hR:Q41 v choice=R;refine ga (.cons (Job.low _ _) (l1 .nil)) (Low.tup' (.cons (Alt.low _ _) (l1 .nil))) (kp 7 [18]) Tryz.func122 ?_;have hk0:=hs0;obtain ⟨z3,z4,z5,z6,z7⟩:v.name.size<=4294967296∧v.user.size<=4294967296∧v.account.size<=4294967296∧(v.shape.alts.length<=4294967296)∧v.after.length<=4294967296:=hs0;refine us (Ql5 v.shape szA _) ?_;refine ai (fun h1=>?_) (fun h2=>?_)
 ·obtain rfl:=foll hR (ct h1 rfl);exact Q00 (Low.tup' (.cons (Alt.low _ _) (l1 .nil))) (Seen.tup (e1 (e1 .nil)))
 ·refine ai gkA ?_;obtain rfl:=foll hR (cf h2 rfl);exact Q00 (Low.tup' (.cons (Alt.low _ _) (l1 .nil))) (Seen.tup (e1 (e1 .nil)))
def QU5 (s:Shape) (choice:Int) (n:Int):Bool:=bif ((decide (choice<0))||(decide (choice >= ((Q01 s).length:Int)))) then false else bif (s.kind==3) then ((decide (n >= s.min))&&(decide (n<=s.max))) else (((Q01 s).getD (Int.toNat choice) Alt.zero).nodes==n)
theorem Qv8 (s:Shape) (choice:Int) (n:Int) (hs0:s.sz):∀ objs,AGives Tryz.prog 124 [Shape.a s,I choice,I n] objs (Bo (QU5 s choice n)):=by
 generalize hR:QU5 s choice n=R;refine ga (.cons (Shape.low _ _) (l1 (l1 .nil))) lx (kp 8 [17,20]) Tryz.func124 ?_;have hk0:=hs0;obtain z5:s.alts.length<=4294967296:=hs0;refine us (Ql5 s szA _) ?_;refine ai (fun h1=>?_) (fun h2=>?_)
 ·obtain rfl:=foll hR (ct h1 rfl);exact Q00 lx sr
 ·refine ai (fun h3=>?_) (fun h4=>?_)
  ·obtain rfl:=foll hR (cf h2 (ct h3 rfl));exact Q00 lx sr
  ·refine ai gkA ?_;obtain rfl:=foll hR (cf h2 (cf h4 rfl));exact Q00 lx sr
def Qx6 (l:List Node):Int:=(Ql1 l (fun (y:Node)=>((y.state != 4)&&(!y.drain))))
theorem fleet_Up_c (l:List Node) (hs0:l.length<=4294967296):∀ objs,AGives Tryz.prog 41 [nodeL l] objs (U (Qx6 l)):=by
 generalize hR:Qx6 l=R;refine ga (.cons lw .nil) lx (kp 3 []) Tryz.func41 ?_;have hk0:=hs0;obtain z7:l.length<=4294967296:=hs0;have cl1:∀ (y1:Node),AMoves Tryz.prog 68 [Node.a y1] [] 0 (Bo ((fun (y:Node)=>((y.state != 4)&&(!y.drain))) y1)) []:=by
  intro y1;have hR:(fun (y:Node)=>((y.state != 4)&&(!y.drain))) y1=(fun (y:Node)=>((y.state != 4)&&(!y.drain))) y1:=rfl;refine mo (kp 3 []) Tryz.func68 ?_;refine Qn0 (fun r:Bool=>Bo r) (fun _=>[]) (leaf:=((y1.state != 4)&&(!y1.drain))) (foll hR rfl) ?_;exact tt [] .nil t1
 have hof1:AMoves Tryz.prog 57 [nodeL l,AVal.fn (.func 68) [] []] [] 0 (U (Ql1 l (fun (y:Node)=>((y.state != 4)&&(!y.drain))))) []:=by
  have hR:Ql1 l (fun (y:Node)=>((y.state != 4)&&(!y.drain)))=Ql1 l (fun (y:Node)=>((y.state != 4)&&(!y.drain))):=rfl;refine mo (kp 10 [12,13,14,15,16,22]) Tryz.func57 ?_;refine us (Qj7 l szA _) ?_;refine ai (fun h1=>?_) (fun h2=>?_)
  ·refine Qn0 (fun r:Int=>U r) (fun r:Int=>[]) (leaf:=0) (foll hR (ct h1 rfl)) ?_;exact tt [] .nil t1
  ·refine Qj0 (fun (out:List Int) (i:Nat)=>Qe1 (Qg3 (fun (y:Node)=>((y.state != 4)&&(!y.drain))) (List.drop i l) out i)=Ql1 l (fun (y:Node)=>((y.state != 4)&&(!y.drain)))∧i<=l.length∧out.length<=i) (fun out i=>l.length - i) (fun out i=>[(1,AVal.fn (.func 68) [] []),(4,U 0),(5,AVal.own 0 0 1 0 out.length),(13,nodeL l),(14,I (l.length:Int)),(15,I (i:Int))]) (fun out i=>[(0,AObj.row 3 1 (out.map (fun q_=>[I q_])))]) [] 0 ((Qf2 3 1).trans (wk [0] (tO rfl (tl eqA) .nil) (sv (QH0 (Low.fn _ _ _ LowL.nil LowL.nil)) (s1 (sv (QL1 0 rfl) (sl lw (s1 (s1 .nil)))))))) ⟨foll hR (cf h2 rfl),by exact omA,by exact exA⟩ ?_;clear hR;rintro out i ⟨hR,hj,hx⟩;(try dsimp only at hR hj hx);refine ai (fun h3=>?_) (fun h4=>?_)
   ·have hlt:=ltA h3;rw [Qf0 Node.zero hlt] at hR;refine ai gkA ?_;refine us (mv [] (cl1 (l.getD i Node.zero)) .nil (dl (Node.low _ _) .nil) .nil rx) ?_;refine ai (fun h5=>?_) (fun h6=>?_)
    ·refine Or.inl ?_;(first|refine ⟨Qp2 8 rfl lnA apA,?_⟩|refine ⟨Qk1 8 rfl apA,?_⟩);exact Qa0 (out++([(i:Int)]:List Int)) (i+1) (wk [0] (tO rfl (tl eqA) .nil) (sv (QH0 (Low.fn _ _ _ LowL.nil LowL.nil)) (s1 (sv (to 0 lnA) (sl lw (s1 (sv (Qd0 (I_eq (wr omA)) lx) .nil))))))) omA ⟨foll hR (congrArg (fun p:(List Int)=>Qe1 p) (ct h5 rfl)),by exact omA,by exact exA⟩
    ·exact Qa0 out (i+1) (wk [0] (tO rfl (tl eqA) .nil) (sv (QH0 (Low.fn _ _ _ LowL.nil LowL.nil)) (s1 (sv (to 0 lnA) (sl lw (s1 (sv (Qd0 (I_eq (wr omA)) lx) .nil))))))) omA ⟨foll hR (congrArg (fun p:(List Int)=>Qe1 p) (cf h6 rfl)),by exact omA,by exact exA⟩
   ·rw [Qg0 (l:=l) (j:=i) (geA h4)] at hR;replace hR:Qe1 out=Ql1 l (fun (y:Node)=>((y.state != 4)&&(!y.drain))):=fo2 (fun p:(List Int)=>Qe1 p) (out) hR rfl;refine us (AGives.lent (Qva out szA []) (ev (Qo2 _ _ rfl eqA lnA) .nil) (.cons lw .nil) (Qe7 rfl)) ?_;refine Qn0 (fun r:Int=>U r) (fun r:Int=>[]) (leaf:=(Qo4 out).1) (foll hR rfl) ?_;exact tt [] .nil t1
 refine us (mv [] (hof1) .nil (dl lw (dv (Qw6 (Low.fn _ _ _ LowL.nil LowL.nil)) .nil)) .nil rx) ?_;obtain rfl:=foll hR rfl;exact Q00 lx sr
def QG2 (l:List Int) (at_:Int) (i:Bool):Token × Int × Int × Int:=bif i then ((⟨5,(runesBytes (List.drop (Int.toNat at_) (List.take (Int.toNat (w64 (at_+1))) l))),0,at_⟩:Token),(w64 (at_+1)),0,0) else (Token.zero,0,at_,50)
def QP0 (l:List Int) (at_:Int):Token × Int × Int × Int:=bif ((Q80 (l.getD (Int.toNat at_) 0))==0) then (Token.zero,0,at_,40) else bif ((Q80 (l.getD (Int.toNat at_) 0))==2) then ((⟨1,(Qd2 (runesBytes (List.drop (Int.toNat at_) (List.take (Int.toNat (Q61 l at_)) l)))),0,at_⟩:Token),(Q61 l at_),0,0) else bif ((Q80 (l.getD (Int.toNat at_) 0))==3) then bif (QL8 (List.drop (Int.toNat at_) (List.take (Int.toNat (Q61 l at_)) l))) then ((⟨3,(runesBytes (List.drop (Int.toNat at_) (List.take (Int.toNat (Q61 l at_)) l))),0,at_⟩:Token),(Q61 l at_),0,0) else bif (decide ((Qz6 (List.drop (Int.toNat at_) (List.take (Int.toNat (Q61 l at_)) l)))<0)) then (Token.zero,0,at_,50) else ((⟨2,⟨#[]⟩,(Qz6 (List.drop (Int.toNat at_) (List.take (Int.toNat (Q61 l at_)) l))),at_⟩:Token),(Q61 l at_),0,0) else bif ((l.getD (Int.toNat at_) 0)==34) then ((QM2 l at_).1,(QM2 l at_).2.1,(QM2 l at_).2.2.1,(QM2 l at_).2.2.2) else bif ((l.getD (Int.toNat at_) 0)==61) then QG2 l at_ ((l.getD (Int.toNat at_) 0)==61) else bif ((l.getD (Int.toNat at_) 0)==58) then QG2 l at_ ((l.getD (Int.toNat at_) 0)==58) else bif ((l.getD (Int.toNat at_) 0)==44) then QG2 l at_ ((l.getD (Int.toNat at_) 0)==44) else QG2 l at_ ((l.getD (Int.toNat at_) 0)==45)
theorem ref05_one_c (l:List Int) (at_:Int) (hs0:l.length<=4294967296) (hp0:0<=at_∧at_<(l.length:Int)∧l.length<=400):∀ objs,AGives Tryz.prog 181 [runes l,I at_] objs (AVal.tup [Token.a ((QP0 l at_).1),I ((QP0 l at_).2.1),I ((QP0 l at_).2.2.1),I ((QP0 l at_).2.2.2)]):=by
 generalize hR:QP0 l at_=R;refine ga (.cons lw (l1 .nil)) (Low.tup' (.cons (Token.low _ _) (l1 (l1 (l1 .nil))))) (kj [1000028] 11 [17,18,22,37,46,65,73,74,83]) Tryz.func181 ?_;have hk0:=hs0;obtain z21:l.length<=4294967296:=hs0;have hw0:w64 (at_+1)=at_+1:=wr (by omega);have hf0:=Qza l at_ hp0.1 hp0.2.1 hp0.2.2;refine ai gkA ?_;refine us (QG3 (l.getD (Int.toNat at_) 0) _) ?_;refine ai (fun h1=>?_) (fun h2=>?_)
 ·obtain rfl:=foll hR (ct h1 rfl);exact Q00 (Low.tup' (.cons (Token.low _ _) (l1 (l1 (l1 .nil))))) (Seen.tup (e1 (e1 (e1 (e1 .nil)))))
 ·refine ai (fun h3=>?_) (fun h4=>?_)
  ·refine us (QVb l at_ szA ckA _) ?_;refine ai gkA ?_;(first|refine ⟨(List.drop (Int.toNat at_) (List.take (Int.toNat (Q61 l at_)) l)),by exact cvA,?_⟩|refine ⟨_,fun _=>⟨(List.drop (Int.toNat at_) (List.take (Int.toNat (Q61 l at_)) l)),by exact cvA,rfl,rfl⟩,?_⟩|refine ⟨_,rfl,⟨(List.drop (Int.toNat at_) (List.take (Int.toNat (Q61 l at_)) l)),by exact cvA,Sub.refl _,rfl⟩,?_⟩);refine us (ref04_Lower_c (runesBytes (List.drop (Int.toNat at_) (List.take (Int.toNat (Q61 l at_)) l))) szA _) ?_;obtain rfl:=foll hR (cf h2 (ct h3 rfl));exact Q00 (Low.tup' (.cons (Token.low _ _) (l1 (l1 (l1 .nil))))) (Seen.tup (e1 (e1 (e1 (e1 .nil)))))
  ·refine ai (fun h5=>?_) (fun h6=>?_)
   ·refine us (QVb l at_ szA ckA _) ?_;refine ai gkA ?_;refine us (AGives.as2 (ref05_plain_c (List.drop (Int.toNat at_) (List.take (Int.toNat (Q61 l at_)) l)) szA _) (av (as_cut l (Int.toNat at_) (Int.toNat (Q61 l at_)) leA ckA) .nil)) ?_;refine ai (fun h7=>?_) (fun h8=>?_)
    ·refine ai gkA ?_;(first|refine ⟨(List.drop (Int.toNat at_) (List.take (Int.toNat (Q61 l at_)) l)),by exact cvA,?_⟩|refine ⟨_,fun _=>⟨(List.drop (Int.toNat at_) (List.take (Int.toNat (Q61 l at_)) l)),by exact cvA,rfl,rfl⟩,?_⟩|refine ⟨_,rfl,⟨(List.drop (Int.toNat at_) (List.take (Int.toNat (Q61 l at_)) l)),by exact cvA,Sub.refl _,rfl⟩,?_⟩);obtain rfl:=foll hR (cf h2 (cf h4 (ct h5 (ct h7 rfl))));exact Q00 (Low.tup' (.cons (Token.low _ _) (l1 (l1 (l1 .nil))))) (Seen.tup (e1 (e1 (e1 (e1 .nil)))))
    ·refine ai gkA ?_;refine us (AGives.as2 (ref05_Number_c (List.drop (Int.toNat at_) (List.take (Int.toNat (Q61 l at_)) l)) szA _) (av (as_cut l (Int.toNat at_) (Int.toNat (Q61 l at_)) leA ckA) .nil)) ?_;refine ai (fun h9=>?_) (fun h10=>?_)
     ·have qh9:=of_decide_eq_true h9;obtain rfl:=foll hR (cf h2 (cf h4 (ct h5 (cf h8 (ct h9 rfl)))));exact Q00 (Low.tup' (.cons (Token.low _ _) (l1 (l1 (l1 .nil))))) (Seen.tup (e1 (e1 (e1 (e1 .nil)))))
     ·have qh10:=of_decide_eq_false h10;obtain rfl:=foll hR (cf h2 (cf h4 (ct h5 (cf h8 (cf h10 rfl)))));exact Q00 (Low.tup' (.cons (Token.low _ _) (l1 (l1 (l1 .nil))))) (Seen.tup (e1 (e1 (e1 (e1 .nil)))))
   ·refine ai gkA ?_;refine ai (fun h11=>?_) (fun h12=>?_)
    ·refine us (ref05_text_c l at_ szA ckA _) ?_;obtain rfl:=foll hR (cf h2 (cf h4 (cf h6 (ct h11 rfl))));exact Q00 (Low.tup' (.cons (Token.low _ _) (l1 (l1 (l1 .nil))))) (Seen.tup (e1 (e1 (e1 (e1 .nil)))))
    ·refine Qn1 (fun (i:Bool)=>QG2 l at_ i=R) (fun i=>[(0,runes l),(1,I at_),(4,AVal.ptr 0 0 4 0 0),(5,I 0),(6,I 0),(7,I 0),(8,AVal.ptr 1 0 4 0 0),(83,Bo i)]) (fun i=>[(0,AObj.row 186 4 [[I 0,Sg ⟨#[]⟩,I 0,I 0]]),(0,AObj.row 186 4 [[I 0,Sg ⟨#[]⟩,I 0,I at_]])]) ?_ ?_
     ·clear hR;rintro i hR;(try dsimp only at hR);refine ai (fun h13=>?_) (fun h14=>?_)
      ·refine ai gkA ?_;(first|refine ⟨(List.drop (Int.toNat at_) (List.take (Int.toNat (w64 (at_+1))) l)),by exact cvA,?_⟩|refine ⟨_,fun _=>⟨(List.drop (Int.toNat at_) (List.take (Int.toNat (w64 (at_+1))) l)),by exact cvA,rfl,rfl⟩,?_⟩|refine ⟨_,rfl,⟨(List.drop (Int.toNat at_) (List.take (Int.toNat (w64 (at_+1))) l)),by exact cvA,Sub.refl _,rfl⟩,?_⟩);obtain rfl:=foll hR (ct h13 rfl);exact Q00 (Low.tup' (.cons (Token.low _ _) (l1 (l1 (l1 .nil))))) (Seen.tup (e1 (e1 (e1 (e1 .nil)))))
      ·obtain rfl:=foll hR (cf h14 rfl);exact Q00 (Low.tup' (.cons (Token.low _ _) (l1 (l1 (l1 .nil))))) (Seen.tup (e1 (e1 (e1 (e1 .nil)))))
     ·refine ai (fun h15=>?_) (fun h16=>?_)
      ·exact Q70 ((l.getD (Int.toNat at_) 0)==61) (wk [0,1] (tO rfl (ts Token.lo) (tO rfl (ts Token.lo) .nil)) (sl lw (s1 (sv (Q10 0 rfl rfl) (s1 (s1 (s1 (sv (Q10 1 rfl rfl) (s1 .nil))))))))) (foll hR (cf h2 (cf h4 (cf h6 (cf h12 (ct h15 rfl))))))
      ·refine ai (fun h17=>?_) (fun h18=>?_)
       ·exact Q70 ((l.getD (Int.toNat at_) 0)==58) (wk [0,1] (tO rfl (ts Token.lo) (tO rfl (ts Token.lo) .nil)) (sl lw (s1 (sv (Q10 0 rfl rfl) (s1 (s1 (s1 (sv (Q10 1 rfl rfl) (s1 .nil))))))))) (foll hR (cf h2 (cf h4 (cf h6 (cf h12 (cf h16 (ct h17 rfl)))))))
       ·refine ai (fun h19=>?_) (fun h20=>?_)
        ·exact Q70 ((l.getD (Int.toNat at_) 0)==44) (wk [0,1] (tO rfl (ts Token.lo) (tO rfl (ts Token.lo) .nil)) (sl lw (s1 (sv (Q10 0 rfl rfl) (s1 (s1 (s1 (sv (Q10 1 rfl rfl) (s1 .nil))))))))) (foll hR (cf h2 (cf h4 (cf h6 (cf h12 (cf h16 (cf h18 (ct h19 rfl))))))))
        ·exact Q70 ((l.getD (Int.toNat at_) 0)==45) (wk [0,1] (tO rfl (ts Token.lo) (tO rfl (ts Token.lo) .nil)) (sl lw (s1 (sv (Q10 0 rfl rfl) (s1 (s1 (s1 (sv (Q10 1 rfl rfl) (s1 .nil))))))))) (foll hR (cf h2 (cf h4 (cf h6 (cf h12 (cf h16 (cf h18 (cf h20 rfl))))))))
theorem QXb (l:List Int) (at_:Int) (b:Bool) (h0:0<=at_) (h1:at_<(l.length:Int)) (h:l.length<=400):((QG2 l at_ b).2.2.2 != 0)=false->at_<(QG2 l at_ b).2.1∧(QG2 l at_ b).2.1<=(l.length:Int):=by
 have hw:w64 (at_+1)=at_+1:=wr (by omega)
 cases b with
 | false=>intro h;cases h
 | true=>intro _;simp only [QG2,cond_true];rw [hw];omega
theorem ref05_one_lt (l:List Int) (at_:Int) (h0:0<=at_) (h1:at_<(l.length:Int)) (h:l.length<=400):((QP0 l at_).2.2.2 != 0)=false->at_<(QP0 l at_).2.1∧(QP0 l at_).2.1<=(l.length:Int):=by
 have he:=Qza l at_ h0 h1 h
 have hk:=fun b=>QXb l at_ b h0 h1 h
 have ht:=ref05_text_lt l at_ h0 h1 h
 unfold QP0
 repeat' first
  | exact hk _
  | exact ht
  | exact fun _=>he
  | (intro h;cases h;done)
  | (rw [Bool.cond_eq_ite];split)
def QH1 :List Book->List Step->Nat->(List Step) × Nat
 | [],p_,i=>(p_,i)
 | x_ :: r,p_,i=>QH1 r (Qx1 p_ x_.from_ x_.to x_.nodes) (i+1)
def Qr4 (x_1:Job):List Int->Bool->Nat->Bool × Nat
 | [],out,k=>(out,k)
 | x_2 :: r,out,k=>Qr4 x_1 r (out||(x_2==x_1.id)) (k+1)
def QC0 (except:List Int):List Job->List Step->Nat->(List Step) × Nat
 | [],p_1,i1=>(p_1,i1)
 | x_1 :: r,p_1,i1=>(fun p1:Bool × Nat=>bif ((Q40 x_1).2.2.2&&(!p1.1)) then QC0 except r (Qx1 p_1 ((Q40 x_1).1) (w64 ((Q40 x_1).1+(Q40 x_1).2.1)) ((Q40 x_1).2.2.1)) (i1+1) else QC0 except r p_1 (i1+1)) (Qr4 x_1 except false 0)
def QZ1 (p_1:List Step) (i1:Nat):(List Step):=p_1
def Qi5 (s:State) (except:List Int) (p_:List Step) (i:Nat):(List Step):=QZ1 ((QC0 except s.jobs p_ 0).1) ((QC0 except s.jobs p_ 0).2)
def Q57 (s:State) (except:List Int):(List Step):=Qi5 s except ((QH1 s.books (Q63 s) 0).1) ((QH1 s.books (Q63 s) 0).2)
theorem ref20_Left_c (s:State) (except:List Int) (hs0:s.sz) (hs1:except.length<=4294967296) (hp0:∀ y ∈ s.jobs,((y.state != 1)||(y.promise==(-1)))=false->0<=y.choice∧y.choice<((Q60 y.shape).length:Int)):∀ objs,AGives Tryz.prog 52 [State.a s,ints except] objs (stepL (Q57 s except)):=by
 generalize hR:Q57 s except=R;refine ga (.cons (State.low _ _) (.cons lw .nil)) lw (kp 14 [20,47,53,85]) Tryz.func52 ?_;have hk0:=hs0;obtain ⟨z14,z15,z16,z17,z18,z19,z20⟩:=hs0;have hk1:=hs1;obtain z21:except.length<=4294967296:=hs1;refine us (QFa s (by first|(((try dsimp only);exact Q91 (by assumption)))|first|(((try dsimp only);exact Q91 hx))|first|(exact QW2 _)|first|(exact Qu2 _)|exact szA) _) ?_;refine Qj0 (fun (p_:List Step) (i:Nat)=>Qi5 s except (QH1 (List.drop i s.books) p_ i).1 (QH1 (List.drop i s.books) p_ i).2=R∧i<=s.books.length∧p_.length<=4294967296) (fun p_ i=>s.books.length - i) (fun p_ i=>[(1,ints except),(2,AVal.ptr 0 0 8 0 0),(4,AVal.lit (.slice none 0 0)),(5,stepL p_),(6,I (i:Int))]) (fun p_ i=>[(0,AObj.row 28 8 [[I s.now,nodeL s.nodes,jobL s.jobs,Qt6 s.resizes,bookL s.books,Qa7 s.ledger,I s.nextJob,I s.nextBook]])]) (Q63 s) 0 (wk [0] (tO rfl (ts State.lo) .nil) (sl lw (sv (Q10 0 rfl rfl) (s1 (sl lw (s1 .nil)))))) ⟨foll hR rfl,by exact omA,by first|(((try dsimp only);exact Q91 (by assumption)))|first|(((try dsimp only);exact Q91 hx))|first|(exact QW2 _)|first|(exact Qu2 _)|exact exA⟩ ?_;clear hR;rintro p_ i ⟨hR,hj,hx⟩;(try dsimp only at hR hj hx);refine ai (fun h1=>?_) (fun h2=>?_)
 ·have hlt:=ltA h1;rw [Qf0 Book.zero hlt] at hR;refine dchk (by kernel_rfl) ?_;refine ai gkA ?_;refine ai gkA ?_;refine ai gkA ?_;(first|apply u2|apply u3|apply u4|apply us);exact QE6 p_ ((s.books.getD i Book.zero).from_) ((s.books.getD i Book.zero).to) ((s.books.getD i Book.zero).nodes) (by first|(((try dsimp only);exact Q91 (by assumption)))|first|(((try dsimp only);exact Q91 hx))|first|(exact QW2 _)|first|(exact Qu2 _)|exact szA) _;(repeat ((first|refine ai rfl ?_|refine ai (fun _=>rfl) ?_|refine ai (fun _=>QE6 p_ ((s.books.getD i Book.zero).from_) ((s.books.getD i Book.zero).to) ((s.books.getD i Book.zero).nodes) (by first|(((try dsimp only);exact Q91 (by assumption)))|first|(((try dsimp only);exact Q91 hx))|first|(exact QW2 _)|first|(exact Qu2 _)|exact szA) _) ?_)));exact Qa0 (Qx1 p_ (s.books.getD i Book.zero).from_ (s.books.getD i Book.zero).to (s.books.getD i Book.zero).nodes) (i+1) (wk [0] (tO rfl (ts State.lo) .nil) (sl lw (sv (Q10 0 rfl rfl) (s1 (sl lw (sv (Qd0 (I_eq (wr omA)) lx) .nil)))))) omA ⟨foll hR (congrArg (fun p:(List Step) × Nat=>Qi5 s except p.1 p.2) rfl),by exact omA,by first|(((try dsimp only);exact Q91 (by assumption)))|first|(((try dsimp only);exact Q91 hx))|first|(exact QW2 _)|first|(exact Qu2 _)|exact exA⟩
 ·rw [Qg0 (l:=s.books) (j:=i) (geA h2)] at hR;replace hR:Qi5 s except p_ i=R:=fo2 (fun p:(List Step) × Nat=>Qi5 s except p.1 p.2) (p_,i) hR rfl;refine Qj0 (fun (p_1:List Step) (i1:Nat)=>QZ1 (QC0 except (List.drop i1 s.jobs) p_1 i1).1 (QC0 except (List.drop i1 s.jobs) p_1 i1).2=R∧i1<=s.jobs.length∧p_1.length<=4294967296) (fun p_1 i1=>s.jobs.length - i1) (fun p_1 i1=>[(1,ints except),(2,AVal.ptr 0 0 8 0 0),(4,AVal.lit (.slice none 0 0)),(5,stepL p_1),(7,I (i1:Int))]) (fun p_1 i1=>[(0,AObj.row 28 8 [[I s.now,nodeL s.nodes,jobL s.jobs,Qt6 s.resizes,bookL s.books,Qa7 s.ledger,I s.nextJob,I s.nextBook]])]) p_ 0 (wk [0] (tO rfl (ts State.lo) .nil) (sl lw (sv (Q10 0 rfl rfl) (s1 (sl lw (s1 .nil)))))) ⟨foll hR rfl,by exact omA,by first|(((try dsimp only);exact Q91 (by assumption)))|first|(((try dsimp only);exact Q91 hx))|first|(exact QW2 _)|first|(exact Qu2 _)|exact exA⟩ ?_;clear hR;rintro p_1 i1 ⟨hR,hj,hx⟩;(try dsimp only at hR hj hx);refine ai (fun h3=>?_) (fun h4=>?_)
  ·have hlt:=ltA h3;rw [Qf0 Job.zero hlt] at hR;have hxz:(s.jobs.getD i1 Job.zero).sz:=Qk6 (by first|assumption|grind) (Job.szz _);have hkz:=hxz;obtain ⟨z5,z6,z7,z8,z9⟩:((s.jobs.getD i1 Job.zero).name).size<=4294967296∧((s.jobs.getD i1 Job.zero).user).size<=4294967296∧((s.jobs.getD i1 Job.zero).account).size<=4294967296∧((((s.jobs.getD i1 Job.zero).shape).alts).length<=4294967296)∧((s.jobs.getD i1 Job.zero).after).length<=4294967296:=hxz;refine Qj0 (fun (out:Bool) (k:Nat)=>(fun z=>(fun p:(List Step) × Nat=>QZ1 p.1 p.2) ((fun p1:Bool × Nat=>bif ((Q40 (s.jobs.getD i1 Job.zero)).2.2.2&&(!p1.1)) then QC0 except (List.drop (i1+1) s.jobs) (Qx1 p_1 ((Q40 (s.jobs.getD i1 Job.zero)).1) (w64 ((Q40 (s.jobs.getD i1 Job.zero)).1+(Q40 (s.jobs.getD i1 Job.zero)).2.1)) ((Q40 (s.jobs.getD i1 Job.zero)).2.2.1)) (i1+1) else QC0 except (List.drop (i1+1) s.jobs) p_1 (i1+1)) z)) (Qr4 (s.jobs.getD i1 Job.zero) (List.drop k except) out k)=R∧k<=except.length) (fun out k=>except.length - k) (fun out k=>[(1,ints except),(2,AVal.ptr 0 0 8 0 0),(4,AVal.lit (.slice none 0 0)),(5,stepL p_1),(7,I (i1:Int)),(8,Bo out),(9,I (k:Int)),(47,Bo (decide ((i1:Int)<(s.jobs.length:Int))))]) (fun out k=>[(0,AObj.row 28 8 [[I s.now,nodeL s.nodes,jobL s.jobs,Qt6 s.resizes,bookL s.books,Qa7 s.ledger,I s.nextJob,I s.nextBook]])]) false 0 (wk [0] (tO rfl (ts State.lo) .nil) (sl lw (sv (Q10 0 rfl rfl) (s1 (sl lw (s1 (s1 (s1 (s1 .nil))))))))) ⟨foll hR (congrArg (fun p:(List Step) × Nat=>QZ1 p.1 p.2) rfl),by exact omA⟩ ?_;clear hR;rintro out k ⟨hR,hj⟩;(try dsimp only at hR hj);refine ai (fun h10=>?_) (fun h11=>?_)
   ·have hlt:=ltA h10;rw [Qf0 0 hlt] at hR;refine dchk (by kernel_rfl) ?_;refine ai gkA ?_;refine ai gkA ?_;(repeat ((first|refine ai rfl ?_|refine ai (fun _=>rfl) ?_)));exact Qa0 (out||((except.getD k 0)==(s.jobs.getD i1 Job.zero).id)) (k+1) (wk [0] (tO rfl (ts State.lo) .nil) (sl lw (sv (Q10 0 rfl rfl) (s1 (sl lw (s1 (s1 (sv (Qd0 (I_eq (wr omA)) lx) (s1 .nil))))))))) omA ⟨foll hR (congrArg (fun z=>(fun p:(List Step) × Nat=>QZ1 p.1 p.2) ((fun p1:Bool × Nat=>bif ((Q40 (s.jobs.getD i1 Job.zero)).2.2.2&&(!p1.1)) then QC0 except (List.drop (i1+1) s.jobs) (Qx1 p_1 ((Q40 (s.jobs.getD i1 Job.zero)).1) (w64 ((Q40 (s.jobs.getD i1 Job.zero)).1+(Q40 (s.jobs.getD i1 Job.zero)).2.1)) ((Q40 (s.jobs.getD i1 Job.zero)).2.2.1)) (i1+1) else QC0 except (List.drop (i1+1) s.jobs) p_1 (i1+1)) z)) rfl),by exact omA⟩
   ·rw [Qg0 (l:=except) (j:=k) (geA h11)] at hR;replace hR:(fun z=>(fun p:(List Step) × Nat=>QZ1 p.1 p.2) ((fun p1:Bool × Nat=>bif ((Q40 (s.jobs.getD i1 Job.zero)).2.2.2&&(!p1.1)) then QC0 except (List.drop (i1+1) s.jobs) (Qx1 p_1 ((Q40 (s.jobs.getD i1 Job.zero)).1) (w64 ((Q40 (s.jobs.getD i1 Job.zero)).1+(Q40 (s.jobs.getD i1 Job.zero)).2.1)) ((Q40 (s.jobs.getD i1 Job.zero)).2.2.1)) (i1+1) else QC0 except (List.drop (i1+1) s.jobs) p_1 (i1+1)) z)) (out,k)=R:=foll hR (congrArg (fun z=>(fun p:(List Step) × Nat=>QZ1 p.1 p.2) ((fun p1:Bool × Nat=>bif ((Q40 (s.jobs.getD i1 Job.zero)).2.2.2&&(!p1.1)) then QC0 except (List.drop (i1+1) s.jobs) (Qx1 p_1 ((Q40 (s.jobs.getD i1 Job.zero)).1) (w64 ((Q40 (s.jobs.getD i1 Job.zero)).1+(Q40 (s.jobs.getD i1 Job.zero)).2.1)) ((Q40 (s.jobs.getD i1 Job.zero)).2.2.1)) (i1+1) else QC0 except (List.drop (i1+1) s.jobs) p_1 (i1+1)) z)) rfl);refine ai gkA ?_;refine us (Q28 (s.jobs.getD i1 Job.zero) (by first|(((try dsimp only);exact Q91 (by assumption)))|first|(((try dsimp only);exact Q91 hx))|first|(exact QW2 _)|first|(exact Qu2 _)|exact szA) (by exact hp0 _ (by rw [List.getD_eq_getElem?_getD,List.getElem?_eq_getElem (by assumption)];exact List.getElem_mem (by assumption))) _) ?_;refine ai (fun h12=>?_) (fun h13=>?_)
    ·refine us (QE6 p_1 ((Q40 (s.jobs.getD i1 Job.zero)).1) (w64 ((Q40 (s.jobs.getD i1 Job.zero)).1+(Q40 (s.jobs.getD i1 Job.zero)).2.1)) ((Q40 (s.jobs.getD i1 Job.zero)).2.2.1) (by first|(((try dsimp only);exact Q91 (by assumption)))|first|(((try dsimp only);exact Q91 hx))|first|(exact QW2 _)|first|(exact Qu2 _)|exact szA) _) ?_;exact Qa0 (Qx1 p_1 ((Q40 (s.jobs.getD i1 Job.zero)).1) (w64 ((Q40 (s.jobs.getD i1 Job.zero)).1+(Q40 (s.jobs.getD i1 Job.zero)).2.1)) ((Q40 (s.jobs.getD i1 Job.zero)).2.2.1)) (i1+1) (wk [0] (tO rfl (ts State.lo) .nil) (sl lw (sv (Q10 0 rfl rfl) (s1 (sl lw (sv (Qd0 (I_eq (wr omA)) lx) .nil)))))) omA ⟨foll hR (congrArg (fun p:(List Step) × Nat=>QZ1 p.1 p.2) (ct h12 rfl)),by exact omA,by first|(((try dsimp only);exact Q91 (by assumption)))|first|(((try dsimp only);exact Q91 hx))|first|(exact QW2 _)|first|(exact Qu2 _)|exact exA⟩
    ·exact Qa0 p_1 (i1+1) (wk [0] (tO rfl (ts State.lo) .nil) (sl lw (sv (Q10 0 rfl rfl) (s1 (sl lw (sv (Qd0 (I_eq (wr omA)) lx) .nil)))))) omA ⟨foll hR (congrArg (fun p:(List Step) × Nat=>QZ1 p.1 p.2) (cf h13 rfl)),by exact omA,by first|(((try dsimp only);exact Q91 (by assumption)))|first|(((try dsimp only);exact Q91 hx))|first|(exact QW2 _)|first|(exact Qu2 _)|exact exA⟩
  ·rw [Qg0 (l:=s.jobs) (j:=i1) (geA h4)] at hR;replace hR:QZ1 p_1 i1=R:=fo2 (fun p:(List Step) × Nat=>QZ1 p.1 p.2) (p_1,i1) hR rfl;obtain rfl:=foll hR rfl;exact Q00 lw sr
def Qp5 (l:List Node):Int:=(Ql1 l (fun (y:Node)=>((y.state==0)&&(!y.drain))))
theorem Qla (l:List Node) (hs0:l.length<=4294967296):∀ objs,AGives Tryz.prog 23 [nodeL l] objs (U (Qp5 l)):=by
 generalize hR:Qp5 l=R;refine ga (.cons lw .nil) lx (kp 3 []) Tryz.func23 ?_;have hk0:=hs0;obtain z7:l.length<=4294967296:=hs0;have cl1:∀ (y1:Node),AMoves Tryz.prog 58 [Node.a y1] [] 0 (Bo ((fun (y:Node)=>((y.state==0)&&(!y.drain))) y1)) []:=by
  intro y1;have hR:(fun (y:Node)=>((y.state==0)&&(!y.drain))) y1=(fun (y:Node)=>((y.state==0)&&(!y.drain))) y1:=rfl;refine mo (kp 3 []) Tryz.func58 ?_;refine Qn0 (fun r:Bool=>Bo r) (fun _=>[]) (leaf:=((y1.state==0)&&(!y1.drain))) (foll hR rfl) ?_;exact tt [] .nil t1
 have hof1:AMoves Tryz.prog 57 [nodeL l,AVal.fn (.func 58) [] []] [] 0 (U (Ql1 l (fun (y:Node)=>((y.state==0)&&(!y.drain))))) []:=by
  have hR:Ql1 l (fun (y:Node)=>((y.state==0)&&(!y.drain)))=Ql1 l (fun (y:Node)=>((y.state==0)&&(!y.drain))):=rfl;refine mo (kp 10 [12,13,14,15,16,22]) Tryz.func57 ?_;refine us (Qj7 l szA _) ?_;refine ai (fun h1=>?_) (fun h2=>?_)
  ·refine Qn0 (fun r:Int=>U r) (fun r:Int=>[]) (leaf:=0) (foll hR (ct h1 rfl)) ?_;exact tt [] .nil t1
  ·refine Qj0 (fun (out:List Int) (i:Nat)=>Qe1 (Qg3 (fun (y:Node)=>((y.state==0)&&(!y.drain))) (List.drop i l) out i)=Ql1 l (fun (y:Node)=>((y.state==0)&&(!y.drain)))∧i<=l.length∧out.length<=i) (fun out i=>l.length - i) (fun out i=>[(1,AVal.fn (.func 58) [] []),(4,U 0),(5,AVal.own 0 0 1 0 out.length),(13,nodeL l),(14,I (l.length:Int)),(15,I (i:Int))]) (fun out i=>[(0,AObj.row 3 1 (out.map (fun q_=>[I q_])))]) [] 0 ((Qf2 3 1).trans (wk [0] (tO rfl (tl eqA) .nil) (sv (QH0 (Low.fn _ _ _ LowL.nil LowL.nil)) (s1 (sv (QL1 0 rfl) (sl lw (s1 (s1 .nil)))))))) ⟨foll hR (cf h2 rfl),by exact omA,by exact exA⟩ ?_;clear hR;rintro out i ⟨hR,hj,hx⟩;(try dsimp only at hR hj hx);refine ai (fun h3=>?_) (fun h4=>?_)
   ·have hlt:=ltA h3;rw [Qf0 Node.zero hlt] at hR;refine ai gkA ?_;refine us (mv [] (cl1 (l.getD i Node.zero)) .nil (dl (Node.low _ _) .nil) .nil rx) ?_;refine ai (fun h5=>?_) (fun h6=>?_)
    ·refine Or.inl ?_;(first|refine ⟨Qp2 8 rfl lnA apA,?_⟩|refine ⟨Qk1 8 rfl apA,?_⟩);exact Qa0 (out++([(i:Int)]:List Int)) (i+1) (wk [0] (tO rfl (tl eqA) .nil) (sv (QH0 (Low.fn _ _ _ LowL.nil LowL.nil)) (s1 (sv (to 0 lnA) (sl lw (s1 (sv (Qd0 (I_eq (wr omA)) lx) .nil))))))) omA ⟨foll hR (congrArg (fun p:(List Int)=>Qe1 p) (ct h5 rfl)),by exact omA,by exact exA⟩
    ·exact Qa0 out (i+1) (wk [0] (tO rfl (tl eqA) .nil) (sv (QH0 (Low.fn _ _ _ LowL.nil LowL.nil)) (s1 (sv (to 0 lnA) (sl lw (s1 (sv (Qd0 (I_eq (wr omA)) lx) .nil))))))) omA ⟨foll hR (congrArg (fun p:(List Int)=>Qe1 p) (cf h6 rfl)),by exact omA,by exact exA⟩
   ·rw [Qg0 (l:=l) (j:=i) (geA h4)] at hR;replace hR:Qe1 out=Ql1 l (fun (y:Node)=>((y.state==0)&&(!y.drain))):=fo2 (fun p:(List Int)=>Qe1 p) (out) hR rfl;refine us (AGives.lent (Qva out szA []) (ev (Qo2 _ _ rfl eqA lnA) .nil) (.cons lw .nil) (Qe7 rfl)) ?_;refine Qn0 (fun r:Int=>U r) (fun r:Int=>[]) (leaf:=(Qo4 out).1) (foll hR rfl) ?_;exact tt [] .nil t1
 refine us (mv [] (hof1) .nil (dl lw (dv (Qw6 (Low.fn _ _ _ LowL.nil LowL.nil)) .nil)) .nil rx) ?_;obtain rfl:=foll hR rfl;exact Q00 lx sr
end Go.Proofs.YtiiaifgeekdpaaaGreatDoor
namespace Go.Proofs.YtiiaifgeekdpaaaGreatDoor
set_option linter.unusedSimpArgs false
set_option linter.unusedVariables false
open Go.Fw
set_option maxRecDepth 20000
set_option maxHeartbeats 4000000
attribute [local irreducible] ACalls AMoves
def Qb0 (y:Int):List Int->Nat->Bool
 | [],_=>false
 | x_1 :: r,i=>bif ((QR0 y)==x_1) then true else Qb0 y r (i+1)
def Qk4 (line:ByteArray):List (Nat × Int)->LexReader->LexReader
 | [],c=>c
 | x_ :: r,c=>Qk4 line r { c with line:=(c.line++([x_.2]:List Int)) }
def Qr1 :Nat->List Token->LexReader->(List Token) × Int × Int
 | 0,_,_=>([],0,0)
 | m+1,out,c2=>bif (c2.error==0) then bif ((Q20 c2 (fun (y:Int)=>Qb0 y ([1]:List Int) 0)).2.at_==(((Q20 c2 (fun (y:Int)=>Qb0 y ([1]:List Int) 0)).2.line).length:Int)) then (out,(((Q20 c2 (fun (y:Int)=>Qb0 y ([1]:List Int) 0)).2.line).length:Int),0) else Qr1 m (out++([{ (Q50 ((Q20 c2 (fun (y:Int)=>Qb0 y ([1]:List Int) 0)).2)).1 with at_:=(Q20 c2 (fun (y:Int)=>Qb0 y ([1]:List Int) 0)).2.at_ }]:List Token)) ((Q50 ((Q20 c2 (fun (y:Int)=>Qb0 y ([1]:List Int) 0)).2)).2) else ([],c2.bad,c2.error)
def Ql4 (c:LexReader):(List Token) × Int × Int:=Qr1 ((2*Int.toNat ((c.line.length:Int) - c.at_)+(bif c.error==0 then 1 else 0))+1) [] c
def QU0 (line:ByteArray):(List Token) × Int × Int:=bif (decide ((ByteArray.size line:Int) > 400)) then ([],0,3) else Ql4 (Qk4 line (QI5 line) LexReader.zero)
theorem lex_Tokens_c (line:ByteArray) (hs0:line.size<=4294967296):∀ objs,AGives Tryz.prog 178 [Sg line] objs (AVal.tup [tokenL ((QU0 line).1),I ((QU0 line).2.1),I ((QU0 line).2.2)]):=by
 generalize hR:QU0 line=R;refine ga (l1 .nil) (Low.tup' (.cons lw (l1 (l1 .nil)))) (kp 12 [14,18,19,20,38,51]) Tryz.func178 ?_;have hk0:=hs0;obtain z15:line.size<=4294967296:=hs0;refine ai (fun h1=>?_) (fun h2=>?_)
 ·have qh1:=of_decide_eq_true h1;obtain rfl:=foll hR (ct h1 rfl);exact Q00 (Low.tup' (.cons lw (l1 (l1 .nil)))) (Seen.tup (ev (QT0) (e1 (e1 .nil))))
 ·have qh2:=of_decide_eq_false h2;refine Qj0 (fun (c:LexReader) (pos:Nat)=>∃ m,ByteArray.size line - pos<=m∧Ql4 (Qk4 line (Qp3 line m pos) c)=R∧c.line.length<=pos∧pos<=ByteArray.size line∧c.at_=0) (fun c pos=>ByteArray.size line - pos) (fun c pos=>[(2,AVal.lit (.slice none 0 0)),(3,I 0),(4,I 0),(5,AVal.ptr 0 0 4 0 0),(18,AVal.ptr 1 0 1 0 0)]) (fun c pos=>[(0,AObj.row 210 4 [[AVal.own 2 0 1 0 c.line.length,I c.at_,I c.bad,I c.error]]),(0,AObj.other (.strIter line pos)),(0,AObj.row 21 1 (c.line.map (fun q_=>[J q_])))]) LexReader.zero 0 ((Qf2 21 1).trans (wk [0,1,2] (tO rfl (Qs0 (cv (QL1 2 rfl) (c1 (c1 (c1 .nil))))) (tO rfl (.strIter _ _) (tO rfl (tl eqA) .nil))) (s1 (s1 (s1 (sv (Q10 0 rfl rfl) (sv (Q10 1 rfl rfl) .nil))))))) ⟨ByteArray.size line,by first|(have hq:=hrd _ (by assumption);omega)|exact omA,foll hR (cf h2 rfl),by first|(have hq:=hrd _ (by assumption);exact ⟨hq.2.1.1,hq.2.1.2.1,hq.2.1.2.2,fun hz=>by have hq3:=hq.2.2.2 hz;simp only [List.length_append,List.length_cons,List.length_nil];omega⟩)|first|(refine ⟨by omega,by omega,by omega,fun _=>by simp;omega⟩)|first|(simp [LexReader.zero];done)|first|(simp;omega)|exact exA⟩ ?_;clear hR;rintro c pos ⟨m,hm,hR,hx⟩;(try dsimp only at hR hm hx);refine ai (fun h3=>?_) (fun h4=>?_)
  ·have hlt:=of_decide_eq_true h3;have hw:=Q56 line pos;have hwe:=Q46 line pos hlt;obtain ⟨m,rfl⟩:=sucA m;rw [QA2 h3] at hR;refine ai (fun _=>?_) (fun h=>nomatch h);refine Or.inl ?_;(first|refine ⟨Qp2 4 rfl lnA apA,?_⟩|refine ⟨Qk1 4 rfl apA,?_⟩);exact Qa0 { c with line:=(c.line++([(pos,((Utf8.decode line pos).1:Int)).2]:List Int)) } (pos+(Utf8.decode line pos).2) (wk [0,1,2] (tO rfl (Qs0 (cv (to 2 lnA) (c1 (c1 (c1 .nil))))) (tO rfl (.strIter _ _) (tO rfl (tl eqA) .nil))) (s1 (s1 (s1 (sv (Q10 0 rfl rfl) (sv (Q10 1 rfl rfl) .nil)))))) (by first|(have hq:=hrd _ (by assumption);omega)|exact omA) ⟨m,by first|(have hq:=hrd _ (by assumption);omega)|exact omA,foll hR (congrArg (fun p:LexReader=>Ql4 p) rfl),by first|(have hq:=hrd _ (by assumption);exact ⟨hq.2.1.1,hq.2.1.2.1,hq.2.1.2.2,fun hz=>by have hq3:=hq.2.2.2 hz;simp only [List.length_append,List.length_cons,List.length_nil];omega⟩)|first|(refine ⟨by omega,by omega,by omega,fun _=>by simp;omega⟩)|first|(simp [LexReader.zero];done)|first|(simp;omega)|exact exA⟩
  ·rw [Qg4 h4] at hR;refine ai (fun h=>nomatch h) (fun _=>?_);replace hR:Ql4 c=R:=fo2 (fun p:LexReader=>Ql4 p) (c) hR rfl;refine Or.inl ?_;refine ACalls.of_cwp (fun _=>true) Tryz.func184 rfl rfl ?_;refine ⟨_,_,Told.refl,?_⟩;refine Qj0 (fun (out:List Token) (c2:LexReader)=>∃ m,(2*Int.toNat ((c2.line.length:Int) - c2.at_)+(bif c2.error==0 then 1 else 0))<m∧Qr1 m out c2=R∧0<=c2.at_∧c2.at_<=(c2.line.length:Int)∧c2.line.length<=400∧((c2.error==0)=true->(out.length:Int)<=c2.at_)) (fun out c2=>(2*Int.toNat ((c2.line.length:Int) - c2.at_)+(bif c2.error==0 then 1 else 0))) (fun out c2=>[(2,AVal.lit (.slice none 0 0)),(3,I 0),(4,I 0),(5,AVal.ptr 0 0 4 0 0),(8,AVal.fn (.func 194) [] [AVal.ptr 1 0 1 0 0]),(9,AVal.own 2 0 4 0 out.length)]) (fun out c2=>[(0,AObj.row 210 4 [[runes c2.line,I c2.at_,I c2.bad,I c2.error]]),(0,AObj.row 39 1 [[ints ([1]:List Int)]]),(0,AObj.row 186 4 (out.map Token.cells))]) [] c ((Qf2 186 4).trans (wk [0,3,4] (tO rfl (Qs0 (cv (Qfa _ _ rfl (Nat.zero_le _) (by decide) eqA (fun _=>lowL1 rfl) lnA) (c1 (c1 (c1 .nil))))) (tO rfl (Qs0 (cv (turn_as (Q75 (c:=(fun q_=>[I q_])) (d:=0) ([1]:List Int) rfl) lw) .nil)) (tO rfl (tl eqA) .nil))) (s1 (s1 (s1 (sv (Q10 0 rfl rfl) (sv (Q51 .nil (cv (Q10 1 rfl rfl) .nil)) (sv (QL1 2 rfl) .nil)))))))) ⟨_,Nat.lt_succ_self _,foll hR rfl,by first|(have hq:=hrd _ (by assumption);exact ⟨hq.2.1.1,hq.2.1.2.1,hq.2.1.2.2,fun hz=>by have hq3:=hq.2.2.2 hz;simp only [List.length_append,List.length_cons,List.length_nil];omega⟩)|first|(refine ⟨by omega,by omega,by omega,fun _=>by simp;omega⟩)|first|(simp [LexReader.zero];done)|first|(simp;omega)|exact exA⟩ ?_;clear hR;rintro out c2 ⟨m,hm,hR,hx⟩;(try dsimp only at hR hm hx);obtain ⟨m,rfl⟩:=sucA m;refine ai (fun h5=>?_) (fun h6=>?_)
   ·have hol:=hx.2.2.2 h5;have hrd:=fun (b:Int->Bool) (hn:((Q20 c2 b).2.at_==((Q20 c2 b).2.line.length:Int))=false)=>lex_round c2 _ b (by omega) (by omega) (by omega) h5 rfl hn;have cl1:∀ (y1:Int),AMoves Tryz.prog 194 [J y1,AVal.ptr 0 0 1 0 0] [(0,AObj.row 39 1 [[ints ([1]:List Int)]])] 1 (Bo ((fun (y:Int)=>Qb0 y ([1]:List Int) 0) y1)) [(0,AObj.row 39 1 [[ints ([1]:List Int)]])]:=by
     intro y1;have hR:(fun (y:Int)=>Qb0 y ([1]:List Int) 0) y1=(fun (y:Int)=>Qb0 y ([1]:List Int) 0) y1:=rfl;refine mo (kp 6 [6,7,8,9,15]) Tryz.func194 ?_;refine Qh0 (fun (i:Nat)=>Qb0 y1 (List.drop i ([1]:List Int)) i=(fun (y:Int)=>Qb0 y ([1]:List Int) 0) y1∧i<=([1]:List Int).length) (fun i=>([1]:List Int).length - i) (fun i=>[(0,J y1),(3,Bo false),(6,ints ([1]:List Int)),(7,I (([1]:List Int).length:Int)),(8,I (i:Int))]) (fun i=>[(0,AObj.row 39 1 [[ints ([1]:List Int)]])]) 0 (wk [0] (tO rfl (ts (lv lw LowL.nil)) .nil) (s1 (s1 (sl lw (s1 (s1 .nil)))))) ⟨foll hR rfl,by exact omA⟩ ?_;clear hR;rintro i ⟨hR,hj⟩;(try dsimp only at hR hj);refine ai (fun h7=>?_) (fun h8=>?_)
     ·(have hlt:i<([1]:List Int).length:=by have:=of_decide_eq_true h7;omega);rw [Qf0 0 hlt] at hR;refine ai gkA ?_;refine us (QN3 y1 _) ?_;refine ai (fun h9=>?_) (fun h10=>?_)
      ·refine Qn0 (fun r:Bool=>Bo r) (fun _=>[(0,AObj.row 39 1 [[ints ([1]:List Int)]])]) (leaf:=true) (foll hR (ct h9 rfl)) ?_;exact tt [0] (tO rfl (ts (lv lw LowL.nil)) .nil) t1
      ·exact Ql0 (i+1) (wk [0] (tO rfl (ts (lv lw LowL.nil)) .nil) (s1 (s1 (sl lw (s1 (sv (Qd0 (I_eq (wr omA)) lx) .nil)))))) omA ⟨foll hR (cf h10 rfl),by exact omA⟩
     ·rw [Qg0 (l:=([1]:List Int)) (j:=i) (geA h8)] at hR;refine Qn0 (fun r:Bool=>Bo r) (fun _=>[(0,AObj.row 39 1 [[ints ([1]:List Int)]])]) (leaf:=false) (foll hR rfl) ?_;exact tt [0] (tO rfl (ts (lv lw LowL.nil)) .nil) t1
    have hof1:AMoves Tryz.prog 185 [AVal.ptr 0 0 4 0 0,AVal.fn (.func 194) [] [AVal.ptr 1 0 1 0 0]] [(0,AObj.row 210 4 [[runes c2.line,I c2.at_,I c2.bad,I c2.error]]),(0,AObj.row 39 1 [[ints ([1]:List Int)]])] 2 (Sg ((Q20 c2 (fun (y:Int)=>Qb0 y ([1]:List Int) 0)).1)) [(0,AObj.row 210 4 [[runes (((Q20 c2 (fun (y:Int)=>Qb0 y ([1]:List Int) 0)).2).line),I (((Q20 c2 (fun (y:Int)=>Qb0 y ([1]:List Int) 0)).2).at_),I (((Q20 c2 (fun (y:Int)=>Qb0 y ([1]:List Int) 0)).2).bad),I (((Q20 c2 (fun (y:Int)=>Qb0 y ([1]:List Int) 0)).2).error)]]),(0,AObj.row 39 1 [[ints ([1]:List Int)]])]:=by
     have hR:Q20 c2 (fun (y:Int)=>Qb0 y ([1]:List Int) 0)=Q20 c2 (fun (y:Int)=>Qb0 y ([1]:List Int) 0):=rfl;refine mo (kp 6 [33]) Tryz.func185 ?_;refine Qh0 (fun (c3:LexReader)=>∃ m,(Int.toNat ((c3.line.length:Int) - c3.at_))<m∧Qq0 c2 (Qp0 (fun (y:Int)=>Qb0 y ([1]:List Int) 0) m c3)=Q20 c2 (fun (y:Int)=>Qb0 y ([1]:List Int) 0)∧0<=c3.at_∧c3.at_<=(c3.line.length:Int)∧c3.line.length<=400∧c2.at_<=c3.at_∧0<=c2.at_) (fun c3=>(Int.toNat ((c3.line.length:Int) - c3.at_))) (fun c3=>[(0,AVal.ptr 0 0 4 0 0),(1,AVal.fn (.func 194) [] [AVal.ptr 1 0 1 0 0]),(4,Sg ⟨#[]⟩),(5,I c2.at_)]) (fun c3=>[(0,AObj.row 210 4 [[runes c3.line,I c3.at_,I c3.bad,I c3.error]]),(0,AObj.row 39 1 [[ints ([1]:List Int)]])]) c2 (wk [0,1] (tO rfl (ts LexReader.lo) (tO rfl (ts (lv lw LowL.nil)) .nil)) (sv (Q10 0 rfl rfl) (sv (Q51 .nil (cv (Q10 1 rfl rfl) .nil)) (s1 (s1 .nil))))) ⟨_,Nat.lt_succ_self _,foll hR rfl,by exact exA⟩ ?_;clear hR;rintro c3 ⟨m,hm,hR,hx⟩;(try dsimp only at hR hm hx);obtain ⟨m,rfl⟩:=sucA m;refine dchk (by kernel_rfl) ?_;refine ai gkA ?_;(first|apply u2|apply u3|apply u4|apply us);exact mv [1] (cl1 (c3.line.getD (Int.toNat c3.at_) 0)) (dO (ds (lv lw LowL.nil)) .nil) (d1 (dp .nil)) (rO (re (lv lw LowL.nil)) .nil) rx;(repeat ((first|refine ai rfl ?_|refine ai (fun _=>rfl) ?_)));refine ai (fun h11=>?_) (fun h12=>?_)
     ·have hq1:=of_decide_eq_true ((Bool.and_eq_true _ _).mp h11).1;have hwr:w64 (c3.at_+1)=c3.at_+1:=wr (by omega);exact Ql0 { c3 with at_:=(w64 (c3.at_+1)) } (wk [0,1] (tO rfl (ts LexReader.lo) (tO rfl (ts (lv lw LowL.nil)) .nil)) (sv (Q10 0 rfl rfl) (sv (Q51 .nil (cv (Q10 1 rfl rfl) .nil)) (s1 (s1 .nil))))) omA ⟨m,by exact omA,foll hR (congrArg (fun p:LexReader=>Qq0 c2 p) (ct h11 rfl)),by exact exA⟩
     ·replace hR:Qq0 c2 c3=Q20 c2 (fun (y:Int)=>Qb0 y ([1]:List Int) 0):=fo2 (fun p:LexReader=>Qq0 c2 p) (c3) hR (cf h12 rfl);refine dchk (by kernel_rfl) ?_;refine ai gkA ?_;(first|refine ⟨(List.drop (Int.toNat c2.at_) (List.take (Int.toNat c3.at_) c3.line)),by exact cvA,?_⟩|refine ⟨_,fun _=>⟨(List.drop (Int.toNat c2.at_) (List.take (Int.toNat c3.at_) c3.line)),by exact cvA,rfl,rfl⟩,?_⟩|refine ⟨_,rfl,⟨(List.drop (Int.toNat c2.at_) (List.take (Int.toNat c3.at_) c3.line)),by exact cvA,Sub.refl _,rfl⟩,?_⟩);(repeat ((first|refine ai rfl ?_|refine ai (fun _=>rfl) ?_)));refine Qn0 (fun r:ByteArray × LexReader=>Sg r.1) (fun r:ByteArray × LexReader=>[(0,AObj.row 210 4 [[runes r.2.line,I r.2.at_,I r.2.bad,I r.2.error]]),(0,AObj.row 39 1 [[ints ([1]:List Int)]])]) (leaf:=((runesBytes (List.drop (Int.toNat c2.at_) (List.take (Int.toNat c3.at_) c3.line))),c3)) (foll hR rfl) ?_;exact tt [0,1] (tO rfl (ts LexReader.lo) (tO rfl (ts (lv lw LowL.nil)) .nil)) t1
    refine us (mv [0,1] (hof1) (dO (ds LexReader.lo) (dO (ds (lv lw LowL.nil)) .nil)) (dp (dv (dn_fn .nil (dp .nil)) .nil)) (rO (re LexReader.lo) (rO (re (lv lw LowL.nil)) .nil)) rx) ?_;refine dchk (by kernel_rfl) ?_;(repeat ((first|refine ai rfl ?_|refine ai (fun _=>rfl) ?_)));refine ai (fun h13=>?_) (fun h14=>?_)
    ·refine dchk (by kernel_rfl) ?_;(repeat ((first|refine ai rfl ?_|refine ai (fun _=>rfl) ?_)));obtain rfl:=foll hR (ct h5 (ct h13 rfl));exact Q00 (Low.tup' (.cons lw (l1 (l1 .nil)))) (Seen.tup (ev (Qo2 Token.zero _ rfl eqA lnA) (e1 (e1 .nil))))
    ·refine us (mv [0] (Q3a ((Q20 c2 (fun (y:Int)=>Qb0 y ([1]:List Int) 0)).2) (by first|(exact Nat.le_trans (hrd _ (by assumption)).1.2.2 (by decide))|exact szA) (by exact (hrd _ (by assumption)).1)) (dO (ds LexReader.lo) .nil) (dp .nil) (rO (re LexReader.lo) .nil) (Ren.low _ (Low.agg' (Token.lo)))) ?_;refine Or.inl ?_;(first|refine ⟨Qp2 40 rfl lnA apA,?_⟩|refine ⟨Qk1 40 rfl apA,?_⟩);exact Qa0 (out++([{ (Q50 ((Q20 c2 (fun (y:Int)=>Qb0 y ([1]:List Int) 0)).2)).1 with at_:=(Q20 c2 (fun (y:Int)=>Qb0 y ([1]:List Int) 0)).2.at_ }]:List Token)) ((Q50 ((Q20 c2 (fun (y:Int)=>Qb0 y ([1]:List Int) 0)).2)).2) (wk [0,1,2] (tO rfl (ts LexReader.lo) (tO rfl (ts (lv lw LowL.nil)) (tO rfl (tl eqA) .nil))) (s1 (s1 (s1 (sv (Q10 0 rfl rfl) (sv (Q51 .nil (cv (Q10 1 rfl rfl) .nil)) (sv (to 2 lnA) .nil))))))) (by first|(have hq:=hrd _ (by assumption);omega)|exact omA) ⟨m,by first|(have hq:=hrd _ (by assumption);omega)|exact omA,foll hR (ct h5 (cf h14 rfl)),by first|(have hq:=hrd _ (by assumption);exact ⟨hq.2.1.1,hq.2.1.2.1,hq.2.1.2.2,fun hz=>by have hq3:=hq.2.2.2 hz;simp only [List.length_append,List.length_cons,List.length_nil];omega⟩)|first|(refine ⟨by omega,by omega,by omega,fun _=>by simp;omega⟩)|first|(simp [LexReader.zero];done)|first|(simp;omega)|exact exA⟩
   ·refine dchk (by kernel_rfl) ?_;(repeat ((first|refine ai rfl ?_|refine ai (fun _=>rfl) ?_)));obtain rfl:=foll hR (cf h6 rfl);exact Q00 (Low.tup' (.cons lw (l1 (l1 .nil)))) (Seen.tup (ev (QT0) (e1 (e1 .nil))))
def QV1 (v:Job):Bool:=((((v.start==0)&&(v.limit==0))&&(v.nodes==0))&&(((v.promise==(-1))&&(v.choice==0))||(((QB3 v.promise)&&(Q41 v v.choice).2)&&(!v.held))))
theorem Q1a (v:Job) (hs0:v.sz):∀ objs,AGives Tryz.prog 81 [Job.a v] objs (Bo (QV1 v)):=by
 generalize hR:QV1 v=R;refine ga (.cons (Job.low _ _) .nil) lx (kp 6 []) Tryz.func81 ?_;have hk0:=hs0;obtain ⟨z1,z2,z3,z4,z5⟩:v.name.size<=4294967296∧v.user.size<=4294967296∧v.account.size<=4294967296∧(v.shape.alts.length<=4294967296)∧v.after.length<=4294967296:=hs0;refine us (Q07 v v.choice szA _) ?_;(first|apply u2|apply u3|apply u4|apply us);exact Q05 v.promise _;obtain rfl:=foll hR rfl;exact Q00 lx sr
def Q03 (v:Job):Bool:=bif (((((((!(Q41 v v.choice).2)||v.held)||(!(QB3 v.start)))||(!(QB3 v.promise)))||(decide (v.promise<v.start)))||(!(QB3 v.limit)))||((w64 (v.limit - v.start))!=(Q41 v v.choice).1.wall)) then false else ((QN7 v.nodes)&&(QU5 v.shape v.choice (QY0 v.nodes)))
theorem Qk9 (v:Job) (hs0:v.sz):∀ objs,AGives Tryz.prog 82 [Job.a v] objs (Bo (Q03 v)):=by
 generalize hR:Q03 v=R;refine ga (.cons (Job.low _ _) .nil) lx (kp 5 [61]) Tryz.func82 ?_;have hk0:=hs0;obtain ⟨z3,z4,z5,z6,z7⟩:v.name.size<=4294967296∧v.user.size<=4294967296∧v.account.size<=4294967296∧(v.shape.alts.length<=4294967296)∧v.after.length<=4294967296:=hs0;refine us (Q07 v v.choice szA _) ?_;(first|apply u2|apply u3|apply u4|apply us);exact Q05 v.start _;(first|apply u2|apply u3|apply u4|apply us);exact Q05 v.promise _;(first|apply u2|apply u3|apply u4|apply us);exact Q05 v.limit _;refine ai (fun h1=>?_) (fun h2=>?_)
 ·obtain rfl:=foll hR (ct h1 rfl);exact Q00 lx sr
 ·refine dchk (by kernel_rfl) ?_;(first|apply u2|apply u3|apply u4|apply us);exact QCb v.nodes _;(first|apply u2|apply u3|apply u4|apply us);exact Qb4 v.nodes _;(first|apply u2|apply u3|apply u4|apply us);exact Qv8 v.shape v.choice (QY0 v.nodes) szA _;(repeat ((first|refine ai rfl ?_|refine ai (fun _=>rfl) ?_|refine ai (fun _=>QCb v.nodes _) ?_|refine ai (fun _=>Qb4 v.nodes _) ?_|refine ai (fun _=>Qv8 v.shape v.choice (QY0 v.nodes) szA _) ?_)));obtain rfl:=foll hR (cf h2 rfl);exact Q00 lx sr
def Qx0 (line:ByteArray):Nat->List Token->Int->(List Token) × Int × Int
 | 0,_,_=>([],0,0)
 | m+1,out,i=>bif (decide (i<((Qw0 line).length:Int))) then bif ((Q80 ((Qw0 line).getD (Int.toNat i) 0))==1) then Qx0 line m out (w64 (i+1)) else bif ((QP0 (Qw0 line) i).2.2.2 != 0) then ([],(QP0 (Qw0 line) i).2.2.1,(QP0 (Qw0 line) i).2.2.2) else Qx0 line m (out++([(QP0 (Qw0 line) i).1]:List Token)) ((QP0 (Qw0 line) i).2.1) else (out,((Qw0 line).length:Int),0)
def Qu0 (line:ByteArray):(List Token) × Int × Int:=bif (decide ((ByteArray.size line:Int) > 400)) then ([],0,3) else Qx0 line ((Int.toNat (((Qw0 line).length:Int) - 0))+1) [] 0
theorem ref05_Tokens_c (line:ByteArray) (hs0:line.size<=4294967296):∀ objs,AGives Tryz.prog 175 [Sg line] objs (AVal.tup [tokenL ((Qu0 line).1),I ((Qu0 line).2.1),I ((Qu0 line).2.2)]):=by
 generalize hR:Qu0 line=R;refine ga (l1 .nil) (Low.tup' (.cons lw (l1 (l1 .nil)))) (kp 12 [14,20,26,38]) Tryz.func175 ?_;have hk0:=hs0;obtain z9:line.size<=4294967296:=hs0;have hf0:=QX7 line;refine ai (fun h1=>?_) (fun h2=>?_)
 ·have qh1:=of_decide_eq_true h1;obtain rfl:=foll hR (ct h1 rfl);exact Q00 (Low.tup' (.cons lw (l1 (l1 .nil)))) (Seen.tup (ev (QT0) (e1 (e1 .nil))))
 ·have qh2:=of_decide_eq_false h2;refine us (ref05_Runes_c line szA _) ?_;refine Qj0 (fun (out:List Token) (i:Int)=>∃ m,(Int.toNat (((Qw0 line).length:Int) - i))<m∧Qx0 line m out i=R∧0<=i∧i<=((Qw0 line).length:Int)∧(out.length:Int)<=i) (fun out i=>(Int.toNat (((Qw0 line).length:Int) - i))) (fun out i=>[(2,AVal.lit (.slice none 0 0)),(3,I 0),(4,I 0),(5,runes (Qw0 line)),(6,AVal.own 0 0 4 0 out.length),(7,I i)]) (fun out i=>[(0,AObj.row 186 4 (out.map Token.cells))]) [] 0 ((Qf2 186 4).trans (wk [0] (tO rfl (tl eqA) .nil) (s1 (s1 (s1 (sl lw (sv (QL1 0 rfl) (s1 .nil)))))))) ⟨_,Nat.lt_succ_self _,foll hR (cf h2 rfl),by first|(have hp2:=hp1 (by assumption);refine ⟨by omega,by omega,?_⟩;simp only [List.length_append,List.length_cons,List.length_nil];omega)|exact exA⟩ ?_;clear hR;rintro out i ⟨m,hm,hR,hx⟩;(try dsimp only at hR hm hx);obtain ⟨m,rfl⟩:=sucA m;refine ai (fun h3=>?_) (fun h4=>?_)
  ·have qh3:=of_decide_eq_true h3;have hw1:w64 (i+1)=i+1:=wr (by omega);have hp1:=ref05_one_lt (Qw0 line) i (by omega) (by omega) (by omega);refine ai gkA ?_;refine us (QG3 ((Qw0 line).getD (Int.toNat i) 0) _) ?_;refine ai (fun h5=>?_) (fun h6=>?_)
   ·exact Qa0 out (w64 (i+1)) (wk [0] (tO rfl (tl eqA) .nil) (s1 (s1 (s1 (sl lw (sv (to 0 lnA) (s1 .nil))))))) (by first|(have hp2:=hp1 (by assumption);omega)|exact omA) ⟨m,by first|(have hp2:=hp1 (by assumption);omega)|exact omA,foll hR (ct h3 (ct h5 rfl)),by first|(have hp2:=hp1 (by assumption);refine ⟨by omega,by omega,?_⟩;simp only [List.length_append,List.length_cons,List.length_nil];omega)|exact exA⟩
   ·refine us (ref05_one_c (Qw0 line) i szA ckA _) ?_;refine ai (fun h7=>?_) (fun h8=>?_)
    ·obtain rfl:=foll hR (ct h3 (cf h6 (ct h7 rfl)));exact Q00 (Low.tup' (.cons lw (l1 (l1 .nil)))) (Seen.tup (ev (QT0) (e1 (e1 .nil))))
    ·refine Or.inl ?_;(first|refine ⟨Qp2 40 rfl lnA apA,?_⟩|refine ⟨Qk1 40 rfl apA,?_⟩);exact Qa0 (out++([(QP0 (Qw0 line) i).1]:List Token)) ((QP0 (Qw0 line) i).2.1) (wk [0] (tO rfl (tl eqA) .nil) (s1 (s1 (s1 (sl lw (sv (to 0 lnA) (s1 .nil))))))) (by first|(have hp2:=hp1 (by assumption);omega)|exact omA) ⟨m,by first|(have hp2:=hp1 (by assumption);omega)|exact omA,foll hR (ct h3 (cf h6 (cf h8 rfl))),by first|(have hp2:=hp1 (by assumption);refine ⟨by omega,by omega,?_⟩;simp only [List.length_append,List.length_cons,List.length_nil];omega)|exact exA⟩
  ·have qh4:=of_decide_eq_false h4;obtain rfl:=foll hR (cf h4 rfl);exact Q00 (Low.tup' (.cons lw (l1 (l1 .nil)))) (Seen.tup (ev (Qo2 Token.zero _ rfl eqA lnA) (e1 (e1 .nil))))
end Go.Proofs.YtiiaifgeekdpaaaGreatDoor
namespace Go.Proofs.YtiiaifgeekdpaaaGreatDoor
set_option linter.unusedSimpArgs false
set_option linter.unusedVariables false
open Go.Fw
set_option maxRecDepth 20000
set_option maxHeartbeats 4000000
attribute [local irreducible] ACalls AMoves
def QG4 (s:ByteArray):Bool:=bif ((((QU0 s).2.2 != 0)||((((QU0 s).1).length:Int)!=1))||(!(((((QU0 s).1).getD 0 Token.zero).kind==1)&&(((((QU0 s).1).getD 0 Token.zero).text==s)&&(((((QU0 s).1).getD 0 Token.zero).num==0)&&((((QU0 s).1).getD 0 Token.zero).at_==0)))))) then false else true
theorem cmd_word_c (s:ByteArray) (hs0:s.size<=4294967296):∀ objs,AGives Tryz.prog 154 [Sg s] objs (Bo (QG4 s)):=by
 generalize hR:QG4 s=R;refine ga (l1 .nil) lx (kp 3 []) Tryz.func154 ?_;have hk0:=hs0;obtain z3:s.size<=4294967296:=hs0;refine ACalls.of_cwp (fun _=>true) Tryz.func170 rfl rfl ?_;refine ACalls.of_cwp (fun _=>true) Tryz.func179 rfl rfl ?_;refine ai (fun h=>nomatch h) (fun _=>?_);refine ai (fun h=>nomatch h) (fun _=>?_);refine ⟨_,_,Told.refl,?_⟩;refine us (lex_Tokens_c s szA _) ?_;refine dchk (by kernel_rfl) ?_;refine ai gkA ?_;refine ai (fun _=>(by kernel_rfl:eqOK _ _=true)) ?_;(repeat ((first|refine ai rfl ?_|refine ai (fun _=>rfl) ?_)));refine ai (fun h1=>?_) (fun h2=>?_)
 ·refine ⟨_,_,Told.refl,?_⟩;obtain rfl:=foll hR (ct h1 rfl);exact Q00 lx sr
 ·refine ⟨_,_,Told.refl,?_⟩;obtain rfl:=foll hR (cf h2 rfl);exact Q00 lx sr
def Q43 (s:ByteArray):Bool:=bif (((Qu0 s).2.2 != 0)||((((Qu0 s).1).length:Int)!=1)) then false else bif ((((((Qu0 s).1).getD 0 Token.zero).kind != 1)||(!(ByteArray.toList (((Qu0 s).1).getD 0 Token.zero).text==ByteArray.toList s)))||((((Qu0 s).1).getD 0 Token.zero).num != 0)) then false else true
theorem QBa (s:ByteArray) (hs0:s.size<=4294967296):∀ objs,AGives Tryz.prog 132 [Sg s] objs (Bo (Q43 s)):=by
 generalize hR:Q43 s=R;refine ga (l1 .nil) lx (kp 3 []) Tryz.func132 ?_;have hk0:=hs0;obtain z5:s.size<=4294967296:=hs0;refine ACalls.of_cwp (fun _=>true) Tryz.func164 rfl rfl ?_;refine ACalls.of_cwp (fun _=>true) Tryz.func176 rfl rfl ?_;refine ai (fun h=>nomatch h) (fun _=>?_);refine ai (fun h=>nomatch h) (fun _=>?_);refine ⟨_,_,Told.refl,?_⟩;refine us (ref05_Tokens_c s szA _) ?_;refine ai (fun h1=>?_) (fun h2=>?_)
 ·refine ⟨_,_,Told.refl,?_⟩;obtain rfl:=foll hR (ct h1 rfl);exact Q00 lx sr
 ·refine ai gkA ?_;refine ai (fun h3=>?_) (fun h4=>?_)
  ·refine ⟨_,_,Told.refl,?_⟩;obtain rfl:=foll hR (cf h2 (ct h3 rfl));exact Q00 lx sr
  ·refine ⟨_,_,Told.refl,?_⟩;obtain rfl:=foll hR (cf h2 (cf h4 rfl));exact Q00 lx sr
end Go.Proofs.YtiiaifgeekdpaaaGreatDoor
namespace Go.Proofs.YtiiaifgeekdpaaaGreatDoor
set_option linter.unusedSimpArgs false
set_option linter.unusedVariables false
open Go.Fw
set_option maxRecDepth 20000
set_option maxHeartbeats 4000000
attribute [local irreducible] ACalls AMoves
def Qh7 (c:Cmd) (i1:Bool):Bool:=bif i1 then (Qa2 c.node 0 47) else bif (c.kind==10) then (((Qa2 c.from_ 0 1000000)&&c.hasTime)&&(Qa2 c.nodes 1 48)) else ((c.kind==12)&&(Qa2 c.job 0 99999))
def Qg6 (c:Cmd) (i:Bool):Bool:=bif i then (Qha c.job) else bif (c.kind==5) then ((Qha c.job)&&(c.hasPrio||c.hasTime)) else bif (c.kind==6) then ((Qha c.job)&&(Qa2 c.nodes 1 48)) else bif (c.kind==7) then Qh7 c (c.kind==7) else bif (c.kind==8) then Qh7 c (c.kind==8) else Qh7 c (c.kind==9)
def Q19 (c:Cmd):Bool:=bif ((((c.hasPrio&&(!(Qa2 c.prio 0 100)))||(c.hasTime&&(!(QV9 c.time))))||((!c.hasPrio)&&(c.prio != 0)))||((!c.hasTime)&&(c.time != 0))) then false else bif (c.kind==1) then (((((((Qi4 c.name)&&(Qi4 c.user))&&(Qi4 c.account))&&(QG4 c.user))&&(QG4 c.account))&&(Q16 c.after))&&((QK1 c.shape)==0)) else bif (c.kind==2) then Qg6 c (c.kind==2) else bif (c.kind==3) then Qg6 c (c.kind==3) else bif (c.kind==4) then Qg6 c (c.kind==4) else Qg6 c (c.kind==11)
theorem cmd_fits_c (c:Cmd) (hs0:c.sz):∀ objs,AGives Tryz.prog 118 [Cmd.a c] objs (Bo (Q19 c)):=by
 generalize hR:Q19 c=R;refine ga (.cons (Cmd.low _ _) .nil) lx (kj [1000010,1000018] 3 [40,42,43,79,87,100,110,117]) Tryz.func118 ?_;have hk0:=hs0;obtain ⟨z25,z26,z27,z28,z29⟩:c.name.size<=4294967296∧c.user.size<=4294967296∧c.account.size<=4294967296∧(c.shape.alts.length<=4294967296)∧c.after.length<=4294967296:=hs0;(first|apply u2|apply u3|apply u4|apply us);exact QC2 c.prio 0 100 _;(first|apply u2|apply u3|apply u4|apply us);exact cmd_length_c c.time _;refine ai (fun h1=>?_) (fun h2=>?_)
 ·obtain rfl:=foll hR (ct h1 rfl);exact Q00 lx sr
 ·refine ai (fun h3=>?_) (fun h4=>?_)
  ·refine us (QW9 c.name szA _) ?_;(first|apply u2|apply u3|apply u4|apply us);exact QW9 c.user szA _;(first|apply u2|apply u3|apply u4|apply us);exact QW9 c.account szA _;(first|apply u2|apply u3|apply u4|apply us);exact cmd_word_c c.user szA _;(first|apply u2|apply u3|apply u4|apply us);exact cmd_word_c c.account szA _;(first|apply u2|apply u3|apply u4|apply us);exact cmd_deps_c c.after szA _;(first|apply u2|apply u3|apply u4|apply us);exact QH9 c.shape szA _;obtain rfl:=foll hR (cf h2 (ct h3 rfl));exact Q00 lx sr
  ·refine Qn1 (fun (i:Bool)=>Qg6 c i=R) (fun i=>[(1,AVal.ptr 0 0 18 0 0),(2,Bo false),(42,I c.kind),(79,Bo i)]) (fun i=>[(0,AObj.row 119 18 [[I c.kind,I c.job,Sg c.name,Sg c.user,Sg c.account,I c.shape.kind,altL c.shape.alts,I c.shape.min,I c.shape.max,I c.shape.wall,I c.prio,Bo c.hasPrio,I c.time,Bo c.hasTime,depL c.after,I c.node,I c.nodes,I c.from_]])]) ?_ ?_
   ·clear hR;rintro i hR;(try dsimp only at hR);refine ai (fun h5=>?_) (fun h6=>?_)
    ·refine us (Q5b c.job _) ?_;obtain rfl:=foll hR (ct h5 rfl);exact Q00 lx sr
    ·refine ai (fun h7=>?_) (fun h8=>?_)
     ·refine us (Q5b c.job _) ?_;obtain rfl:=foll hR (cf h6 (ct h7 rfl));exact Q00 lx sr
     ·refine ai (fun h9=>?_) (fun h10=>?_)
      ·refine us (Q5b c.job _) ?_;(first|apply u2|apply u3|apply u4|apply us);exact QC2 c.nodes 1 48 _;obtain rfl:=foll hR (cf h6 (cf h8 (ct h9 rfl)));exact Q00 lx sr
      ·refine Qn1 (fun (i1:Bool)=>Qh7 c i1=R) (fun i1=>[(1,AVal.ptr 0 0 18 0 0),(2,Bo false),(42,I c.kind),(110,Bo i1)]) (fun i1=>[(0,AObj.row 119 18 [[I c.kind,I c.job,Sg c.name,Sg c.user,Sg c.account,I c.shape.kind,altL c.shape.alts,I c.shape.min,I c.shape.max,I c.shape.wall,I c.prio,Bo c.hasPrio,I c.time,Bo c.hasTime,depL c.after,I c.node,I c.nodes,I c.from_]])]) ?_ ?_
       ·clear hR;rintro i1 hR;(try dsimp only at hR);refine ai (fun h11=>?_) (fun h12=>?_)
        ·refine us (QC2 c.node 0 47 _) ?_;obtain rfl:=foll hR (ct h11 rfl);exact Q00 lx sr
        ·refine ai (fun h13=>?_) (fun h14=>?_)
         ·refine us (QC2 c.from_ 0 1000000 _) ?_;(first|apply u2|apply u3|apply u4|apply us);exact QC2 c.nodes 1 48 _;obtain rfl:=foll hR (cf h12 (ct h13 rfl));exact Q00 lx sr
         ·(first|apply u2|apply u3|apply u4|apply us);exact QC2 c.job 0 99999 _;obtain rfl:=foll hR (cf h12 (cf h14 rfl));exact Q00 lx sr
       ·refine ai (fun h15=>?_) (fun h16=>?_)
        ·exact Q70 (c.kind==7) (wk [0] (tO rfl (ts Cmd.lo) .nil) (sv (Q10 0 rfl rfl) (s1 (s1 (s1 .nil))))) (foll hR (cf h6 (cf h8 (cf h10 (ct h15 rfl)))))
        ·refine ai (fun h17=>?_) (fun h18=>?_)
         ·exact Q70 (c.kind==8) (wk [0] (tO rfl (ts Cmd.lo) .nil) (sv (Q10 0 rfl rfl) (s1 (s1 (s1 .nil))))) (foll hR (cf h6 (cf h8 (cf h10 (cf h16 (ct h17 rfl))))))
         ·exact Q70 (c.kind==9) (wk [0] (tO rfl (ts Cmd.lo) .nil) (sv (Q10 0 rfl rfl) (s1 (s1 (s1 .nil))))) (foll hR (cf h6 (cf h8 (cf h10 (cf h16 (cf h18 rfl))))))
   ·refine ai (fun h19=>?_) (fun h20=>?_)
    ·exact Q70 (c.kind==2) (wk [0] (tO rfl (ts Cmd.lo) .nil) (sv (Q10 0 rfl rfl) (s1 (s1 (s1 .nil))))) (foll hR (cf h2 (cf h4 (ct h19 rfl))))
    ·refine ai (fun h21=>?_) (fun h22=>?_)
     ·exact Q70 (c.kind==3) (wk [0] (tO rfl (ts Cmd.lo) .nil) (sv (Q10 0 rfl rfl) (s1 (s1 (s1 .nil))))) (foll hR (cf h2 (cf h4 (cf h20 (ct h21 rfl)))))
     ·refine ai (fun h23=>?_) (fun h24=>?_)
      ·exact Q70 (c.kind==4) (wk [0] (tO rfl (ts Cmd.lo) .nil) (sv (Q10 0 rfl rfl) (s1 (s1 (s1 .nil))))) (foll hR (cf h2 (cf h4 (cf h20 (cf h22 (ct h23 rfl))))))
      ·exact Q70 (c.kind==11) (wk [0] (tO rfl (ts Cmd.lo) .nil) (sv (Q10 0 rfl rfl) (s1 (s1 (s1 .nil))))) (foll hR (cf h2 (cf h4 (cf h20 (cf h22 (cf h24 rfl))))))
def QG5 (ok2:Bool):Int:=bif (!ok2) then 80 else 0
def QF5 (c:Cmd) (ok1:Bool):Int:=bif c.hasTime then QG5 (ok1&&(QS0 c.time 1 100000)) else QG5 (ok1&&(c.time==0))
def QU1 (c:Cmd) (ok:Bool):Int:=bif c.hasPrio then QF5 c (ok&&(QS0 c.prio 0 100)) else QF5 c (ok&&(c.prio==0))
def QE5 (c:Cmd) (i1:Bool):Int:=bif i1 then QU1 c ((QM1 c true true true true false true true)&&(QS0 c.node 0 47)) else bif (c.kind==10) then QU1 c ((((QM1 c true true true false true false false)&&(QS0 c.from_ 0 1000000))&&c.hasTime)&&(QS0 c.nodes 1 48)) else QU1 c false
def QA4 (c:Cmd) (i:Bool):Int:=bif i then QU1 c ((QM1 c false true true true true true true)&&(QS0 c.job 1 99999)) else bif (c.kind==12) then QU1 c ((QM1 c false true true true true true true)&&(QS0 c.job 0 99999)) else bif (c.kind==5) then QU1 c (((QM1 c false true false false true true true)&&(QS0 c.job 1 99999))&&(c.hasPrio||c.hasTime)) else bif (c.kind==6) then QU1 c (((QM1 c false true true true true false true)&&(QS0 c.job 1 99999))&&(QS0 c.nodes 1 48)) else bif (c.kind==7) then QE5 c (c.kind==7) else bif (c.kind==8) then QE5 c (c.kind==8) else QE5 c (c.kind==9)
def QH3 (c:Cmd):Int:=bif (c.kind==1) then QU1 c ((((((((QM1 c true false false true true true true)&&(QN2 c.name))&&(QN2 c.user))&&(QN2 c.account))&&(Q43 c.user))&&(Q43 c.account))&&(QM4 c.after))&&((QQ0 c.shape)==0)) else bif (c.kind==2) then QA4 c (c.kind==2) else bif (c.kind==3) then QA4 c (c.kind==3) else bif (c.kind==4) then QA4 c (c.kind==4) else QA4 c (c.kind==11)
theorem ref08_Check_c (c:Cmd) (hs0:c.sz):∀ objs,AGives Tryz.prog 87 [Cmd.a c] objs (I (QH3 c)):=by
 generalize hR:QH3 c=R;refine ga (.cons (Cmd.low _ _) .nil) lx (kj [1000010,1000020,1000023,1000026,1000029] 4 [5,6,46,58,67,84,98,109,128,142,156]) Tryz.func87 ?_;have hk0:=hs0;obtain ⟨z31,z32,z33,z34,z35⟩:c.name.size<=4294967296∧c.user.size<=4294967296∧c.account.size<=4294967296∧(c.shape.alts.length<=4294967296)∧c.after.length<=4294967296:=hs0;refine Qn1 (fun (ok:Bool)=>QU1 c ok=R) (fun ok=>[(1,AVal.ptr 0 0 18 0 0),(2,I 0),(3,Bo ok)]) (fun ok=>[(0,AObj.row 119 18 [[I c.kind,I c.job,Sg c.name,Sg c.user,Sg c.account,I c.shape.kind,altL c.shape.alts,I c.shape.min,I c.shape.max,I c.shape.wall,I c.prio,Bo c.hasPrio,I c.time,Bo c.hasTime,depL c.after,I c.node,I c.nodes,I c.from_]])]) ?_ ?_
 ·clear hR;rintro ok hR;(try dsimp only at hR);refine Qn1 (fun (ok1:Bool)=>QF5 c ok1=R) (fun ok1=>[(1,AVal.ptr 0 0 18 0 0),(2,I 0),(3,Bo ok1)]) (fun ok1=>[(0,AObj.row 119 18 [[I c.kind,I c.job,Sg c.name,Sg c.user,Sg c.account,I c.shape.kind,altL c.shape.alts,I c.shape.min,I c.shape.max,I c.shape.wall,I c.prio,Bo c.hasPrio,I c.time,Bo c.hasTime,depL c.after,I c.node,I c.nodes,I c.from_]])]) ?_ ?_
  ·clear hR;rintro ok1 hR;(try dsimp only at hR);refine Qn1 (fun (ok2:Bool)=>QG5 ok2=R) (fun ok2=>[(2,I 0),(3,Bo ok2)]) (fun ok2=>[]) ?_ ?_
   ·clear hR;rintro ok2 hR;(try dsimp only at hR);refine ai (fun h1=>?_) (fun h2=>?_)
    ·obtain rfl:=foll hR (ct h1 rfl);exact Q00 lx sr
    ·obtain rfl:=foll hR (cf h2 rfl);exact Q00 lx sr
   ·refine ai (fun h3=>?_) (fun h4=>?_)
    ·(first|apply u2|apply u3|apply u4|apply us);exact Q53 c.time 1 100000 _;exact Q70 (ok1&&(QS0 c.time 1 100000)) (wk [] .nil (s1 (s1 .nil))) (foll hR (ct h3 rfl))
    ·exact Q70 (ok1&&(c.time==0)) (wk [] .nil (s1 (s1 .nil))) (foll hR (cf h4 rfl))
  ·refine ai (fun h5=>?_) (fun h6=>?_)
   ·(first|apply u2|apply u3|apply u4|apply us);exact Q53 c.prio 0 100 _;exact Q70 (ok&&(QS0 c.prio 0 100)) (wk [0] (tO rfl (ts Cmd.lo) .nil) (sv (Q10 0 rfl rfl) (s1 (s1 .nil)))) (foll hR (ct h5 rfl))
   ·exact Q70 (ok&&(c.prio==0)) (wk [0] (tO rfl (ts Cmd.lo) .nil) (sv (Q10 0 rfl rfl) (s1 (s1 .nil)))) (foll hR (cf h6 rfl))
 ·refine ai (fun h7=>?_) (fun h8=>?_)
  ·refine us (Qd4 c true false false true true true true szA _) ?_;(first|apply u2|apply u3|apply u4|apply us);exact QZ7 c.name szA _;(first|apply u2|apply u3|apply u4|apply us);exact QZ7 c.user szA _;(first|apply u2|apply u3|apply u4|apply us);exact QZ7 c.account szA _;(first|apply u2|apply u3|apply u4|apply us);exact QBa c.user szA _;(first|apply u2|apply u3|apply u4|apply us);exact QBa c.account szA _;(first|apply u2|apply u3|apply u4|apply us);exact ref08_waits_c c.after szA _;(first|apply u2|apply u3|apply u4|apply us);exact Qx9 c.shape szA _;exact Q70 ((((((((QM1 c true false false true true true true)&&(QN2 c.name))&&(QN2 c.user))&&(QN2 c.account))&&(Q43 c.user))&&(Q43 c.account))&&(QM4 c.after))&&((QQ0 c.shape)==0)) (wk [0] (tO rfl (ts Cmd.lo) .nil) (sv (Q10 0 rfl rfl) (s1 (s1 .nil)))) (foll hR (ct h7 rfl))
  ·refine Qn1 (fun (i:Bool)=>QA4 c i=R) (fun i=>[(1,AVal.ptr 0 0 18 0 0),(2,I 0),(3,Bo false),(5,I c.kind),(46,Bo i)]) (fun i=>[(0,AObj.row 119 18 [[I c.kind,I c.job,Sg c.name,Sg c.user,Sg c.account,I c.shape.kind,altL c.shape.alts,I c.shape.min,I c.shape.max,I c.shape.wall,I c.prio,Bo c.hasPrio,I c.time,Bo c.hasTime,depL c.after,I c.node,I c.nodes,I c.from_]])]) ?_ ?_
   ·clear hR;rintro i hR;(try dsimp only at hR);refine ai (fun h9=>?_) (fun h10=>?_)
    ·refine us (Qd4 c false true true true true true true szA _) ?_;(first|apply u2|apply u3|apply u4|apply us);exact Q53 c.job 1 99999 _;exact Q70 ((QM1 c false true true true true true true)&&(QS0 c.job 1 99999)) (wk [0] (tO rfl (ts Cmd.lo) .nil) (sv (Q10 0 rfl rfl) (s1 (s1 .nil)))) (foll hR (ct h9 rfl))
    ·refine ai (fun h11=>?_) (fun h12=>?_)
     ·refine us (Qd4 c false true true true true true true szA _) ?_;(first|apply u2|apply u3|apply u4|apply us);exact Q53 c.job 0 99999 _;exact Q70 ((QM1 c false true true true true true true)&&(QS0 c.job 0 99999)) (wk [0] (tO rfl (ts Cmd.lo) .nil) (sv (Q10 0 rfl rfl) (s1 (s1 .nil)))) (foll hR (cf h10 (ct h11 rfl)))
     ·refine ai (fun h13=>?_) (fun h14=>?_)
      ·refine us (Qd4 c false true false false true true true szA _) ?_;(first|apply u2|apply u3|apply u4|apply us);exact Q53 c.job 1 99999 _;exact Q70 (((QM1 c false true false false true true true)&&(QS0 c.job 1 99999))&&(c.hasPrio||c.hasTime)) (wk [0] (tO rfl (ts Cmd.lo) .nil) (sv (Q10 0 rfl rfl) (s1 (s1 .nil)))) (foll hR (cf h10 (cf h12 (ct h13 rfl))))
      ·refine ai (fun h15=>?_) (fun h16=>?_)
       ·refine us (Qd4 c false true true true true false true szA _) ?_;(first|apply u2|apply u3|apply u4|apply us);exact Q53 c.job 1 99999 _;(first|apply u2|apply u3|apply u4|apply us);exact Q53 c.nodes 1 48 _;exact Q70 (((QM1 c false true true true true false true)&&(QS0 c.job 1 99999))&&(QS0 c.nodes 1 48)) (wk [0] (tO rfl (ts Cmd.lo) .nil) (sv (Q10 0 rfl rfl) (s1 (s1 .nil)))) (foll hR (cf h10 (cf h12 (cf h14 (ct h15 rfl)))))
       ·refine Qn1 (fun (i1:Bool)=>QE5 c i1=R) (fun i1=>[(1,AVal.ptr 0 0 18 0 0),(2,I 0),(3,Bo false),(5,I c.kind),(98,Bo i1)]) (fun i1=>[(0,AObj.row 119 18 [[I c.kind,I c.job,Sg c.name,Sg c.user,Sg c.account,I c.shape.kind,altL c.shape.alts,I c.shape.min,I c.shape.max,I c.shape.wall,I c.prio,Bo c.hasPrio,I c.time,Bo c.hasTime,depL c.after,I c.node,I c.nodes,I c.from_]])]) ?_ ?_
        ·clear hR;rintro i1 hR;(try dsimp only at hR);refine ai (fun h17=>?_) (fun h18=>?_)
         ·refine us (Qd4 c true true true true false true true szA _) ?_;(first|apply u2|apply u3|apply u4|apply us);exact Q53 c.node 0 47 _;exact Q70 ((QM1 c true true true true false true true)&&(QS0 c.node 0 47)) (wk [0] (tO rfl (ts Cmd.lo) .nil) (sv (Q10 0 rfl rfl) (s1 (s1 .nil)))) (foll hR (ct h17 rfl))
         ·refine ai (fun h19=>?_) (fun h20=>?_)
          ·refine us (Qd4 c true true true false true false false szA _) ?_;(first|apply u2|apply u3|apply u4|apply us);exact Q53 c.from_ 0 1000000 _;(first|apply u2|apply u3|apply u4|apply us);exact Q53 c.nodes 1 48 _;exact Q70 ((((QM1 c true true true false true false false)&&(QS0 c.from_ 0 1000000))&&c.hasTime)&&(QS0 c.nodes 1 48)) (wk [0] (tO rfl (ts Cmd.lo) .nil) (sv (Q10 0 rfl rfl) (s1 (s1 .nil)))) (foll hR (cf h18 (ct h19 rfl)))
          ·exact Q70 false (wk [0] (tO rfl (ts Cmd.lo) .nil) (sv (Q10 0 rfl rfl) (s1 (s1 .nil)))) (foll hR (cf h18 (cf h20 rfl)))
        ·refine ai (fun h21=>?_) (fun h22=>?_)
         ·exact Q70 (c.kind==7) (wk [0] (tO rfl (ts Cmd.lo) .nil) (sv (Q10 0 rfl rfl) (s1 (s1 (s1 (s1 .nil)))))) (foll hR (cf h10 (cf h12 (cf h14 (cf h16 (ct h21 rfl))))))
         ·refine ai (fun h23=>?_) (fun h24=>?_)
          ·exact Q70 (c.kind==8) (wk [0] (tO rfl (ts Cmd.lo) .nil) (sv (Q10 0 rfl rfl) (s1 (s1 (s1 (s1 .nil)))))) (foll hR (cf h10 (cf h12 (cf h14 (cf h16 (cf h22 (ct h23 rfl)))))))
          ·exact Q70 (c.kind==9) (wk [0] (tO rfl (ts Cmd.lo) .nil) (sv (Q10 0 rfl rfl) (s1 (s1 (s1 (s1 .nil)))))) (foll hR (cf h10 (cf h12 (cf h14 (cf h16 (cf h22 (cf h24 rfl)))))))
   ·refine ai (fun h25=>?_) (fun h26=>?_)
    ·exact Q70 (c.kind==2) (wk [0] (tO rfl (ts Cmd.lo) .nil) (sv (Q10 0 rfl rfl) (s1 (s1 (s1 (s1 .nil)))))) (foll hR (cf h8 (ct h25 rfl)))
    ·refine ai (fun h27=>?_) (fun h28=>?_)
     ·exact Q70 (c.kind==3) (wk [0] (tO rfl (ts Cmd.lo) .nil) (sv (Q10 0 rfl rfl) (s1 (s1 (s1 (s1 .nil)))))) (foll hR (cf h8 (cf h26 (ct h27 rfl))))
     ·refine ai (fun h29=>?_) (fun h30=>?_)
      ·exact Q70 (c.kind==4) (wk [0] (tO rfl (ts Cmd.lo) .nil) (sv (Q10 0 rfl rfl) (s1 (s1 (s1 (s1 .nil)))))) (foll hR (cf h8 (cf h26 (cf h28 (ct h29 rfl)))))
      ·exact Q70 (c.kind==11) (wk [0] (tO rfl (ts Cmd.lo) .nil) (sv (Q10 0 rfl rfl) (s1 (s1 (s1 (s1 .nil)))))) (foll hR (cf h8 (cf h26 (cf h28 (cf h30 rfl)))))
end Go.Proofs.YtiiaifgeekdpaaaGreatDoor
namespace Go.Proofs.YtiiaifgeekdpaaaGreatDoor
set_option linter.unusedSimpArgs false
set_option linter.unusedVariables false
open Go.Fw
set_option maxRecDepth 20000
set_option maxHeartbeats 4000000
attribute [local irreducible] ACalls AMoves
def QM5 (c:Cmd):Int:=bif ((((decide ((c.shape.alts.length:Int) > 6))||(decide ((c.after.length:Int) > 4)))||(!(Q19 c)))||(!(Q09 c (Qv6 c)))) then 80 else 0
theorem Qob (c:Cmd) (hs0:c.sz):∀ objs,AGives Tryz.prog 77 [Cmd.a c] objs (I (QM5 c)):=by
 generalize hR:QM5 c=R;refine ga (.cons (Cmd.low _ _) .nil) lx (kp 3 [25]) Tryz.func77 ?_;have hk0:=hs0;obtain ⟨z3,z4,z5,z6,z7⟩:c.name.size<=4294967296∧c.user.size<=4294967296∧c.account.size<=4294967296∧(c.shape.alts.length<=4294967296)∧c.after.length<=4294967296:=hs0;refine dchk (by kernel_rfl) ?_;(first|apply u2|apply u3|apply u4|apply us);exact cmd_fits_c c (by first|(exact Q84 _ (by assumption))|exact szA) _;(first|apply u2|apply u3|apply u4|apply us);exact cmd_bare_c c (by first|(exact Q84 _ (by assumption))|exact szA) _;(first|apply u2|apply u3|apply u4|apply us);exact cmd_Same_c c (Qv6 c) (by first|(exact Q84 _ (by assumption))|exact szA) (by first|(exact Q84 _ (by assumption))|exact szA) _;(repeat ((first|refine ai rfl ?_|refine ai (fun _=>rfl) ?_|refine ai (fun _=>cmd_fits_c c (by first|(exact Q84 _ (by assumption))|exact szA) _) ?_|refine ai (fun _=>cmd_bare_c c (by first|(exact Q84 _ (by assumption))|exact szA) _) ?_|refine ai (fun _=>cmd_Same_c c (Qv6 c) (by first|(exact Q84 _ (by assumption))|exact szA) (by first|(exact Q84 _ (by assumption))|exact szA) _) ?_)));refine ai (fun h1=>?_) (fun h2=>?_)
 ·obtain rfl:=foll hR (ct h1 rfl);exact Q00 lx sr
 ·obtain rfl:=foll hR (cf h2 rfl);exact Q00 lx sr
def QJ2 (j:Job):List Dep->Nat->Int
 | [],_=>bif (!(Qb1 j)) then 140 else 0
 | x_ :: r,i=>bif (decide (x_.job >= j.id)) then 140 else QJ2 j r (i+1)
def Qg1 (j:Job):Int:=bif (((((((QH3 (⟨1,0,j.name,j.user,j.account,j.shape,j.prio,true,0,false,j.after,0,0,0⟩:Cmd))!=0)||(decide (j.id<1)))||(decide (j.id > 99999)))||(!(Q31 j.born)))||(decide (j.used<0)))||(decide (j.used > 1000000000000))) then 140 else QJ2 j j.after 0
theorem Qz9 (j:Job) (hs0:j.sz):∀ objs,AGives Tryz.prog 48 [Job.a j] objs (I (Qg1 j)):=by
 generalize hR:Qg1 j=R;refine ga (.cons (Job.low _ _) .nil) lx (kp 5 [46,51,62,65]) Tryz.func48 ?_;have hk0:=hs0;obtain ⟨z9,z10,z11,z12,z13⟩:j.name.size<=4294967296∧j.user.size<=4294967296∧j.account.size<=4294967296∧(j.shape.alts.length<=4294967296)∧j.after.length<=4294967296:=hs0;refine us (ref08_Check_c (⟨1,0,j.name,j.user,j.account,j.shape,j.prio,true,0,false,j.after,0,0,0⟩:Cmd) szA _) ?_;(first|apply u2|apply u3|apply u4|apply us);exact Qw3 j.born _;refine ai (fun h1=>?_) (fun h2=>?_)
 ·obtain rfl:=foll hR (ct h1 rfl);exact Q00 lx sr
 ·refine Qh0 (fun (i:Nat)=>QJ2 j (List.drop i j.after) i=R∧i<=j.after.length) (fun i=>j.after.length - i) (fun i=>[(1,AVal.ptr 0 0 20 0 0),(2,I 0),(4,I (i:Int))]) (fun i=>[(0,AObj.row 46 20 [[I j.id,Sg j.name,Sg j.user,Sg j.account,I j.shape.kind,altL j.shape.alts,I j.shape.min,I j.shape.max,I j.shape.wall,I j.prio,depL j.after,I j.state,Bo j.held,I j.born,I j.promise,I j.choice,I j.start,I j.limit,U j.nodes,I j.used]])]) 0 (wk [0] (tO rfl (ts Job.lo) .nil) (sv (Q10 0 rfl rfl) (s1 (s1 .nil)))) ⟨foll hR (cf h2 rfl),by exact omA⟩ ?_;clear hR;rintro i ⟨hR,hj⟩;(try dsimp only at hR hj);refine ai (fun h3=>?_) (fun h4=>?_)
  ·have hlt:=ltA h3;rw [Qf0 Dep.zero hlt] at hR;refine dchk (by kernel_rfl) ?_;refine ai gkA ?_;(repeat ((first|refine ai rfl ?_|refine ai (fun _=>rfl) ?_)));refine ai (fun h5=>?_) (fun h6=>?_)
   ·have qh5:=of_decide_eq_true h5;obtain rfl:=foll hR (ct h5 rfl);exact Q00 lx sr
   ·have qh6:=of_decide_eq_false h6;exact Ql0 (i+1) (wk [0] (tO rfl (ts Job.lo) .nil) (sv (Q10 0 rfl rfl) (s1 (sv (Qd0 (I_eq (wr omA)) lx) .nil)))) omA ⟨foll hR (cf h6 rfl),by exact omA⟩
  ·rw [Qg0 (l:=j.after) (j:=i) (geA h4)] at hR;refine us (ref14_state_c j szA _) ?_;refine ai (fun h7=>?_) (fun h8=>?_)
   ·obtain rfl:=foll hR (ct h7 rfl);exact Q00 lx sr
   ·obtain rfl:=foll hR (cf h8 rfl);exact Q00 lx sr
theorem Qq4 {j:Job} (h:((Qg1 j)!=0)=false):Qb1 j=true:=by
 have g1:∀ (l:List Dep) (i:Nat),QJ2 j l i=0->Qb1 j=true:=by
  intro l
  induction l with
  | nil =>
   intro i hi
   rw [QJ2] at hi
   cases hs:Qb1 j with
   | true=>rfl
   | false=>rw [hs] at hi;cases hi
  | cons x r ih =>
   intro i hi
   rw [QJ2] at hi
   cases hx:decide (x.job >= j.id) with
   | true=>rw [hx] at hi;cases hi
   | false=>rw [hx] at hi;exact ih _ hi
 simp only [Qg1] at h
 revert h
 cases (((((((QH3 (⟨1,0,j.name,j.user,j.account,j.shape,j.prio,true,0,false,j.after,0,0,0⟩:Cmd))!=0)||(decide (j.id<1)))||(decide (j.id > 99999)))||(!(Q31 j.born)))||(decide (j.used<0)))||(decide (j.used > 1000000000000))) with
 | true=>simp
 | false =>
  intro h
  exact g1 _ _ (by simpa using h)
theorem Q18 {j:Job} (h:Qb1 j=true):((j.state != 1)||(j.promise==(-1)))=false->0<=j.choice∧j.choice<((Q60 j.shape).length:Int):=by
 intro hq
 rw [Bool.or_eq_false_iff] at hq
 have h1:(j.state==1)=true:=by simpa using hq.1
 rw [Qb1,h1,hq.2] at h
 simp only [cond_true,cond_false] at h
 revert h
 cases (((j.start != 0)||(j.limit != 0))||(j.nodes != 0)) with
 | true=>intro h;cases h
 | false =>
  intro h
  simp only [cond_false,Bool.and_eq_true,decide_eq_true_eq] at h
  have hw:=h.1.2
  unfold QO1 at hw
  cases hc:((decide (j.choice<0))||(decide (j.choice >= ((Q60 j.shape).length:Int)))) with
  | true=>rw [hc] at hw;simp at hw
  | false=>simp at hc;omega
end Go.Proofs.YtiiaifgeekdpaaaGreatDoor
