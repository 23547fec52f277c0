/-
  What the last text of this claim leans on: an evaluator over the code, contracts of functions, plain laws. Conditions stand in each statement.
-/
import Derived.Test.YtackngeeehiegaaGreatDoorRB7
import Derived.Test.YtackngeeehiegaaGreatDoorProg
import Derived.Shelf.Sort.Plain
import Derived.KernelRfl
namespace Go.Proofs.YtackngeeehiegaaGreatDoor
set_option linter.unusedSimpArgs false
set_option linter.unusedVariables false
open Go.Fw Go.RowKit Go.Lib
theorem Qsh:∃ (I0:TypeInfo) (z:Value),Tryz.prog.info? 49 = some I0∧I0.zero=some z∧I0.size=5∧I0.bytes=40∧z.cells.size=5 ∧ ∀ u ∈ z.cells.toList,u.oneCell'=true:=by
 obtain ⟨i,v,h1,h2,h3,h4,h5⟩:=QR5 (P:=Tryz.prog) (t:=49) (z:=zH.cells) (by kernel_rfl);have hb:(Tryz.prog.info? 49).map (·.bytes)=some 40:=by kernel_rfl
 have hs:v.cells.size=5:=by
  have:=congrArg List.length h3;simp [Resize.cells] at this;omega
 rw [h1] at hb;exact ⟨i,v,h1,h2,by omega,by simpa using hb,hs,h4⟩
theorem QLa {z:Value} (h:∀ u ∈ z.cells.toList,u.oneCell'=true) (n:Nat):∀ u ∈ (Builtin.zeroCells z.cells n).toList,u.oneCell'=true:=by
 intro u hu;simp only [Builtin.zeroCells,yvb,yKb,yPb,yab] at hu;obtain ⟨q,hq,rfl⟩:=hu;rcases yNa z.cells.size with h0|h0
 ·rw [h0] at hq;simp at hq
 ·rw [getElem!_pos z.cells _ (ypc _ h0)];exact h _ (by simp)
def QN4 (l:List Resize) (i j:Int):List Resize:=l.take (i.toNat)++l.drop (j.toNat)
theorem Qic (l:List Resize) (i j:Int) (hs0:l.length<=4294967296) (hp0:0<=i∧i<j∧j<=(l.length:Int)):AMoves Tryz.prog 175 [.own 0 0 5 0 l.length,I i,I j] [(0,.row 49 5 (l.map Resize.cells))] 0 (.own 0 0 5 0 (QN4 l i j).length) [(0,.row 49 5 ((QN4 l i j).map Resize.cells))]:=by
 intro K w vs hm hr;obtain ⟨sv,iv,jv,rfl⟩:∃ a b c,vs=[a,b,c]:=by
  have hl:=hr.1
  match vs,hl with
  | [a,b,c],_=>exact ⟨a,b,c,rfl⟩
 obtain ⟨i,rfl⟩:∃ q:Nat,i=(q:Int):=⟨i.toNat,by omega⟩;obtain ⟨j,rfl⟩:∃ q:Nat,j=(q:Int):=⟨j.toNat,by omega⟩;obtain rfl:=Q21 (hr.2 1 _ _ rfl rfl);obtain rfl:=Q21 (hr.2 2 _ _ rfl rfl);have hij:i<j:=by omega
 have hjn:j<=l.length:=by omega
 obtain ⟨ho,hv,hcase⟩:=QY6 (hr.2 0 _ _ rfl rfl);rcases hcase with ⟨_,h0,_⟩|⟨a,c,rfl,hlc,hC,ha⟩
 ·omega
 have hc0:c ≠ 0:=by omega
 obtain rfl:=ha hc0;have hp:([(0,.row 49 5 (l.map Resize.cells))]:Objs)[0]? = some (0,.row 49 5 (l.map Resize.cells)):=rfl;obtain ⟨hel,hesC,_⟩:=hm.obj 0 _ hp;have hesC:(l.map Resize.cells).length<=K.C 0 0:=hesC;have hC0:K.C 0 0 ≠ 0:=by omega
 obtain ⟨cur,hrow,hs,hone,hcell⟩:=hm.rowBlock hp hC0;obtain ⟨fr,hfr,hg⟩:=hrow;obtain ⟨I0,z,hi0,hz,his,hib,hzs,hz1⟩:=Qsh;have hsz:c*5<=cur.size:=by omega
 have hl5:l.length*5<=cur.toList.length:=by simp;omega
 have seg:=rowSeg (c:=cur.toList) hel hone (fun i j e x he hx=>by obtain ⟨u,hu,hr⟩:=hcell i j e x he hx;exact ⟨u,by simpa using hu,hr⟩) (by simpa using hl5);have A:=seg 0 i (by simp;omega);have B:=seg j (l.length - j) (by simp;omega);have AB:=A.append B;refine (delete_w (K.ρ 0 0) l.length c i j w hij hjn hlc cur fr hg hfr hsz hone _ _ I0 z hi0 hz his hzs hz1 rfl rfl).mono ?_;rintro e w' ⟨rfl,rfl⟩;refine ⟨_,K,rfl,Qpg (yva _),?_,?_⟩
 ·rw [setRow_setRow];have eL:(QN4 l (i:Int) (j:Int)).map Resize.cells=((l.map Resize.cells).drop 0).take i++((l.map Resize.cells).drop j).take (l.length - j):=by
   unfold QN4;simp only [yna,yUb,List.map_take,List.map_drop,yqb];rw [yEb (i:=l.length - j) (by simp)]
  rw [← eL] at AB;have hlen:(List.take (i*5) cur.toList++List.take ((l.length - j)*5) (List.drop (j*5) cur.toList)).length=(i+(l.length - j))*5:=by
   simp only [ypa,yta,ywa,yIa];omega
  rw [ydc,yqb] at AB;have hl':((QN4 l (i:Int) (j:Int)).map Resize.cells).length<=K.C 0 0:=by
   rw [eL];simp;omega
  refine hm.drew.put hp hC0 ⟨fr,hfr,hg⟩ hs AB hl' (Eq.trans (b:=_++(Builtin.zeroCells z.cells (j - i)).toList++_) rfl (by rw [List.take_left' hlen,yfb])) ?_ ?_
  ·simp only [ymb,ypa,yta,ywa,yIa,size_zeroCells,hzs,yta];omega
  ·intro u hu;rcases List.mem_append.1 hu with hu|hu
   ·exact QLa hz1 _ u hu
   ·have hu:=yVa hu;simp only [yMb] at hu;rcases hu with (hu|hu)|hu
    ·exact hone u (ycb hu)
    ·exact hone u (Qs3 hu)
    ·exact hone u (yVa hu)
 ·have e1:(QN4 l (i:Int) (j:Int)).length=i+(l.length - j):=by
   unfold QN4;simp;omega
  rw [e1];exact .own 0 0 5 0 _ ho hv _ c oA hC ha
theorem Qgf (w:World) (A B C:Array Value) (t:TypeId):(((w.alloc (.cells A t)).drew.setRow w.heap.size B).drew).setRow w.heap.size C=(w.drew.drew).alloc (.cells C t):=by
 have e:∀ (v:World) (X Y:Array Value),(v.alloc (.cells X t)).setRow v.heap.size Y=v.alloc (.cells Y t):=by
  intro v X Y;unfold World.setRow World.alloc
  congr 1
  apply yZb;intro i;rw [y0b,ync,ync]
  by_cases hi:v.heap.size=i
  ·subst hi;simp
  ·rw [if_neg hi];rw [if_neg (Ne.symm hi),if_neg (Ne.symm hi)]
 show (((w.drew.drew.alloc (.cells A t)).setRow w.drew.drew.heap.size B)).setRow w.drew.drew.heap.size C=_;rw [e,e]
theorem grow_lists (P S Q T:List Value) (a b q:Nat) (hP:P.length=a) (hS:S.length=b) :
  (List.take a (P++T)++S++List.drop (a+b) (P++T)).take (a+b)++Q++(List.take a (P++T)++S++List.drop (a+b) (P++T)).drop (a+b+q)=(P++S++Q)++T.drop (b+q):=by
 have e1:(P++T).drop (a+b)=T.drop b:=by rw [← yub,List.drop_left' hP]
 have h2:(P++S).length=a+b:=by rw [ypa,hP,hS]
 rw [List.take_left' hP,e1,List.take_left' h2,← yub (i:=q) (j:=a+b),List.drop_left' h2,yub]
def Qp3 (l:List Resize) (i:Int) (v:List Resize):List Resize:=l.take (i.toNat)++v++l.drop (i.toNat)
theorem Qta (l:List Resize) (i:Int) (v:List Resize):(Qp3 l i v).length=l.length+v.length:=by
 unfold Qp3;simp only [ypa,yta,ywa];omega
theorem insResize_in (l:List Resize) (i:Nat) (v:List Resize) (hs0:l.length<=4294967296) (hs1:v.length<=4294967296) (hi:i<l.length) (hm1:0<v.length):AMoves Tryz.prog 40 [.own 0 0 5 0 l.length,I (i:Int),QA1 v] [(0,.row 49 5 (l.map Resize.cells))] 0 (.own 0 0 5 0 (Qp3 l (i:Int) v).length) [(0,.row 49 5 ((Qp3 l (i:Int) v).map Resize.cells))]:=by
 intro K w vs hm hr;obtain ⟨sv,iv,vv,rfl⟩:∃ a b c,vs=[a,b,c]:=by
  have hl:=hr.1
  match vs,hl with
  | [a,b,c],_=>exact ⟨a,b,c,rfl⟩
 obtain rfl:=Q21 (hr.2 1 _ _ rfl rfl);obtain ⟨ho,hv,hcase⟩:=QY6 (hr.2 0 _ _ rfl rfl);have hvr:=hr.2 2 _ _ rfl rfl;rcases hcase with ⟨_,h0,_⟩|⟨a,c,rfl,hlc,hC,ha⟩
 ·omega
 have hc0:c ≠ 0:=by omega
 obtain rfl:=ha hc0;have hp:([(0,.row 49 5 (l.map Resize.cells))]:Objs)[0]? = some (0,.row 49 5 (l.map Resize.cells)):=rfl;obtain ⟨hel,hesC,_⟩:=hm.obj 0 _ hp;have hesC:(l.map Resize.cells).length<=K.C 0 0:=hesC;have hC0:K.C 0 0 ≠ 0:=by omega
 obtain ⟨cur,hrow,hs,hone,hcell⟩:=hm.rowBlock hp hC0;obtain ⟨fr,hfr,hg⟩:=hrow;obtain ⟨I0,z,hi0,hz,his,hib,hzs,hz1⟩:=Qsh;unfold QA1 listA at hvr;obtain ⟨A,vc,rfl,_,_,_,hseq⟩:=QM9 hvr;obtain ⟨vb,voff,uf,rfl,hk,hM,_⟩:=hseq oA;obtain ⟨us,hV,hus⟩:=Qse hm hvr;obtain ⟨ad,had,hvs⟩:=hus oA
 injection had with had
 subst had;rw [Qp6] at hV;have huslen:us.length=v.length*5:=by rw [hV.len];simp
 have hvb:vb ≠ K.ρ 0 0:=by
  rintro rfl;have:=hM 0 0 oA oA;rw [(hm.lo 0 _ hp rfl hC0).2.2] at this;cases this
 have hvs':∀ j v,us[j]? = some v->w.cell? ⟨vb,voff+j,none⟩=some v:=fun j v h=>by
  have:=hvs j v h
  rwa [Fw.add_lit] at this
 have hsz:c*5<=cur.size:=by omega
 have hl5:l.length*5<=cur.toList.length:=by simp;omega
 have seg:=rowSeg (c:=cur.toList) hel hone (fun i j e x he hx=>by obtain ⟨u,hu,hr⟩:=hcell i j e x he hx;exact ⟨u,by simpa using hu,hr⟩) (by simpa using hl5);have A:=seg 0 i (by simp;omega);have B:=seg i (l.length - i) (by simp;omega);have AVB:=(A.append hV).append B;have eL:(Qp3 l (i:Int) v).map Resize.cells=((l.map Resize.cells).drop 0).take i++v.map Resize.cells++((l.map Resize.cells).drop i).take (l.length - i):=by
  unfold Qp3;simp only [yna,yUb,List.map_take,List.map_drop,yqb];rw [yEb (i:=l.length - i) (by simp)]
 rw [← eL,ydc,yqb] at AVB;have hAl:(List.take (i*5) cur.toList).length=i*5:=by
  simp only [yta,yIa];omega
 have hBl:(List.take ((l.length - i)*5) (List.drop (i*5) cur.toList)).length=(l.length - i)*5:=by
  simp only [yta,ywa,yIa];omega
 have hel':((Qp3 l (i:Int) v).map Resize.cells).length=l.length+v.length:=by rw [ypb,Qta]
 by_cases hroom:l.length+v.length<=c
 ·refine (insert_shift_w (K.ρ 0 0) l.length c i vb voff v.length vc w hi hm1 hroom oA hvb cur fr hg hfr hsz hone us huslen hvs' hV.one _ _ I0 hi0 his rfl rfl).mono ?_;rintro e w' ⟨rfl,rfl⟩;refine ⟨_,K,rfl,Qpg (yva _),?_,?_⟩
  ·rw [setRow_setRow];have eX:∀ (T:List Value),((List.take ((i+v.length)*5) cur.toList++List.take ((l.length - i)*5) (List.drop (i*5) cur.toList)++T).take (i*5)++us++(List.take ((i+v.length)*5) cur.toList++List.take ((l.length - i)*5) (List.drop (i*5) cur.toList)++T).drop (i*5+us.length))=(List.take (i*5) cur.toList++us++List.take ((l.length - i)*5) (List.drop (i*5) cur.toList))++T:=by
    intro T;have h1:(List.take ((i+v.length)*5) cur.toList).length=(i+v.length)*5:=by
     simp only [yta,yIa];omega
    have h2:i*5+us.length=(i+v.length)*5:=by omega
    rw [h2,yfb (List.take ((i+v.length)*5) cur.toList),List.drop_left' h1,y7b (by rw [h1];omega),List.take_take,ytc oA,yfb,yfb,yfb]
   refine hm.drew.put hp hC0 ⟨fr,hfr,hg⟩ hs AVB (by rw [hel'];omega) (Eq.trans (b:=_++us++_) rfl (eX _)) ?_ ?_
   ·simp only [ymb,ypa,yta,ywa,yIa];omega
   ·exact fun u hu=>hone u (yVa hu)
  ·rw [Qta];exact .own 0 0 5 0 _ ho hv _ c hroom hC ha
 ·have hge:=grownCap_ge w (l.length+v.length) c 49;refine (insert_grow_w (K.ρ 0 0) l.length c i vb voff v.length vc w hi hm1 hlc oA oA cur fr hg hsz hone us huslen hvs' hV.one _ _ _ I0 z hi0 his hib hz hzs rfl rfl rfl).mono ?_;rintro e w' ⟨rfl,rfl⟩;rw [Qgf];have hzl:∀ n,(Builtin.zeroCells z.cells n).toList.length=n*5:=fun n=>by rw [yIa,size_zeroCells,hzs]
  have eX:=fun T=>grow_lists (List.take (i*5) cur.toList) us (List.take ((l.length - i)*5) (List.drop (i*5) cur.toList)) T (i*5) us.length ((l.length - i)*5) hAl rfl
  have e2:i*5+us.length=(i+v.length)*5:=by omega
  rw [e2] at eX;have hZ:∀ u ∈ List.drop (us.length+(l.length - i)*5) ((Builtin.zeroCells z.cells (l.length+v.length - i)).toList++(Builtin.zeroCells z.cells (grownCap w (l.length+v.length) c 49 - (l.length+v.length))).toList),u.oneCell'=true:=by
   intro u hu;rcases List.mem_append.1 (yVa hu) with hu|hu
   ·exact QLa hz1 _ u hu
   ·exact QLa hz1 _ u hu
  have hc0':grownCap w (l.length+v.length) c 49 ≠ 0:=by omega
  have hN:(List.take (i*5) cur.toList++us++List.take ((l.length - i)*5) (List.drop (i*5) cur.toList)).length+(List.drop (us.length+(l.length - i)*5) ((Builtin.zeroCells z.cells (l.length+v.length - i)).toList++(Builtin.zeroCells z.cells (grownCap w (l.length+v.length) c 49 - (l.length+v.length))).toList)).length=grownCap w (l.length+v.length) c 49 * 5:=by
   rw [ypa,ypa,hAl,hBl,ywa,ypa,hzl,hzl];omega
  have fin:∀ X:Array Value,X.toList=(List.take (i*5) cur.toList++us++List.take ((l.length - i)*5) (List.drop (i*5) cur.toList))++List.drop (us.length+(l.length - i)*5) ((Builtin.zeroCells z.cells (l.length+v.length - i)).toList++(Builtin.zeroCells z.cells (grownCap w (l.length+v.length) c 49 - (l.length+v.length))).toList) ->
    ∃ (r:Value) (K':Ctx),Ending.returned (.slice (some ⟨w.heap.size,0,none⟩) (l.length+v.length) (grownCap w (l.length+v.length) c 49)) = .returned r∧(K.cut 0).le K'∧MemSat K' [(0,.row 49 5 ((Qp3 l (i:Int) v).map Resize.cells))] (w.drew.drew.alloc (.cells X 49))∧Rep K' (.own 0 0 5 0 (Qp3 l (i:Int) v).length) r:=by
   intro X hX;obtain ⟨K',h1,h2,h3⟩:=hm.drew.drew.newRow (te:=49) AVB lm hZ hc0' (by rw [hel'];exact hge) hN hX;exact ⟨_,K',rfl,h1,h2,by rw [Qta];exact h3 _ _ hge (yla _)⟩
  refine fin _ (Eq.trans ?_ (eX ((Builtin.zeroCells z.cells (l.length+v.length - i)).toList++(Builtin.zeroCells z.cells (grownCap w (l.length+v.length) c 49 - (l.length+v.length))).toList)));simp only [List.toList_toArray,Array.toList_append,yfb,hBl,e2]
set_option maxRecDepth 20000
attribute [local irreducible] ACalls AMoves
theorem insResize_end (l:List Resize) (v:List Resize) (hs0:l.length<=4294967296) (hs1:v.length<=4294967296) (hm1:0<v.length):AMoves Tryz.prog 40 [.own 0 0 5 0 l.length,I (l.length:Int),QA1 v] [(0,.row 49 5 (l.map Resize.cells))] 0 (.own 0 0 5 0 (l++v).length) [(0,.row 49 5 ((l++v).map Resize.cells))]:=by
 refine mo (kp 10 [16,22,31,68]) Tryz.func40 ?_;refine ai gkA ?_
 conv=>whnf
 refine ai (fun h1=>?_) (fun h2=>?_)
 ·have:=yda h1;omega
 conv=>whnf
 refine ai (fun h3=>?_) (fun h4=>?_)
 ·refine ⟨Qn1 40 rfl (by simp) (by simp;omega),?_⟩
  conv=>whnf
  exact rq (tt [0] (tO rfl (tl (by rw [Qp6,← yUb])) .nil) (to 0 (by simp)))
 ·have:((l.length:Int)==(l.length:Int))=false:=h4;simp at this
theorem Qpc (l:List Resize) (i:Int) (v:List Resize) (hs0:l.length<=4294967296) (hs1:v.length<=4294967296) (hp0:0<=i∧i<=(l.length:Int)∧v.length=1):AMoves Tryz.prog 40 [.own 0 0 5 0 l.length,I i,QA1 v] [(0,.row 49 5 (l.map Resize.cells))] 0 (.own 0 0 5 0 (Qp3 l i v).length) [(0,.row 49 5 ((Qp3 l i v).map Resize.cells))]:=by
 obtain ⟨i,rfl⟩:∃ q:Nat,i=(q:Int):=⟨i.toNat,by omega⟩;rcases yoa i l.length with h|h
 ·exact insResize_in l i v hs0 hs1 h oA
 ·obtain rfl:i=l.length:=by omega
  have e:Qp3 l (l.length:Int) v=l++v:=by
   unfold Qp3;simp
  rw [e];exact insResize_end l v hs0 hs1 oA
end Go.Proofs.YtackngeeehiegaaGreatDoor
namespace Go.Proofs.YtackngeeehiegaaGreatDoor
set_option linter.unusedSimpArgs false
set_option linter.unusedVariables false
open Go.Fw
def pv (f:Int):List Step->Int->Int
 | [],_=>f
 | x :: r,t=>if x.at_<=t then pv x.free r t else pv f r t
def Srt (a:Int):List Step->Prop
 | []=>True
 | x :: r=>a<x.at_∧x.at_<=1000000∧Srt x.at_ r
def Dif (f:Int):List Step->Prop
 | []=>True
 | x :: r=>f ≠ x.free∧Dif x.free r
theorem Qy1 {t:Int}:∀ {p:List Step} {a f:Int},Srt a p->t<=a->pv f p t=f
 | [],_,_,_,_=>rfl
 | x :: r,a,f,h,ht=>by
  have h1:=h.1;unfold pv;rw [if_neg oA];exact Qy1 h.2.2 oA
theorem pv_uniq:∀ {p q:List Step} {a f:Int},Srt a p->Dif f p->Srt a q->Dif f q->(∀ t,a<t->t<=1000000->pv f p t=pv f q t)->p=q
 | [],[],_,_,_,_,_,_,_=>rfl
 | [],y :: s,a,f,_,_,hs,hd,h=>by
  have e:=h y.at_ hs.1 hs.2.1;simp only [pv,yUa,if_true] at e;rw [Qy1 hs.2.2 (yUa _)] at e;exact absurd e hd.1
 | x :: r,[],a,f,hs,hd,_,_,h=>by
  have e:=h x.at_ hs.1 hs.2.1;simp only [pv,yUa,if_true] at e;rw [Qy1 hs.2.2 (yUa _)] at e;exact absurd e.symm hd.1
 | x :: r,y :: s,a,f,hs,hd,hs',hd',h=>by
  rcases Int.lt_trichotomy x.at_ y.at_ with hl|he|hl
  ·have e:=h x.at_ hs.1 hs.2.1;rw [Qy1 (a:=x.at_) (p:=y :: s) ⟨hl,hs'.2⟩ (yUa _)] at e;simp only [pv,yUa,if_true] at e;rw [Qy1 hs.2.2 (yUa _)] at e;exact absurd e.symm hd.1
  ·have e:=h x.at_ hs.1 hs.2.1;have e2:x.free=y.free:=by
    simp only [pv,yUa,if_true] at e;rw [Qy1 hs.2.2 (yUa _),if_pos oA,Qy1 hs'.2.2 oA] at e;exact e
   have exy:x=y:=by cases x;cases y;simp_all
   subst exy
   rw [pv_uniq hs.2.2 hd.2 hs'.2.2 hd'.2 fun t h1 h2=>by
    have e3:=h t (by have:=hs.1;omega) h2;simp only [pv] at e3;rw [if_pos oA,if_pos oA] at e3
    exact e3]
  ·have e:=h y.at_ hs'.1 hs'.2.1;rw [Qy1 (a:=y.at_) (p:=x :: r) ⟨hl,hs.2⟩ (yUa _)] at e;simp only [pv,yUa,if_true] at e;rw [Qy1 hs'.2.2 (yUa _)] at e;exact absurd e hd'.1
def Can:List Step->Prop
 | []=>False
 | x :: r=>x.at_=0∧Srt x.at_ r∧Dif x.free r
def pat (p:List Step) (t:Int):Int:=pv 0 p t
theorem Can.uniq {p q:List Step} (hp:Can p) (hq:Can q) (h:∀ t,0<=t->t<=1000000->pat p t=pat q t):p=q:=by
 cases p with
 | nil=>exact hp.elim
 | cons x r =>
  cases q with
  | nil=>exact hq.elim
  | cons y s =>
   have hx:=hp.1;have hy:=hq.1;have e0:=h 0 oA oA;unfold pat pv at e0;rw [if_pos oA,if_pos oA,Qy1 hp.2.1 oA,Qy1 hq.2.1 oA] at e0;have exy:x=y:=by cases x;cases y;simp_all
   subst exy
   rw [pv_uniq hp.2.1 hp.2.2 hq.2.1 hq.2.2 fun t h1 h2=>by
    have e3:=h t oA h2;unfold pat pv at e3;rw [if_pos oA,if_pos oA] at e3
    exact e3]
def comp (f:Int):List Step->List Step
 | []=>[]
 | x :: r=>if f=x.free then comp f r else x :: comp x.free r
theorem comp_dif:∀ (p:List Step) (f:Int),Dif f (comp f p)
 | [],_=>trivial
 | x :: r,f=>by
  unfold comp
  by_cases h:f=x.free
  ·rw [if_pos h];exact comp_dif r f
  ·rw [if_neg h];exact ⟨h,comp_dif r x.free⟩
theorem Srt.le:∀ {p:List Step} {a b:Int},Srt a p->b<=a->Srt b p
 | [],_,_,_,_=>trivial
 | _ :: _,_,_,h,hb=>⟨by have:=h.1;omega,h.2⟩
theorem QZf:∀ (p:List Step) (a f:Int),Srt a p->Srt a (comp f p)
 | [],_,_,_=>trivial
 | x :: r,a,f,h=>by
  unfold comp
  by_cases e:f=x.free
  ·rw [if_pos e];exact QZf r a f (h.2.2.le (by have:=h.1;omega))
  ·rw [if_neg e];exact ⟨h.1,h.2.1,QZf r x.at_ x.free h.2.2⟩
theorem comp_pv (t:Int):∀ (p:List Step) (a f:Int),Srt a p->pv f (comp f p) t=pv f p t
 | [],_,_,_=>rfl
 | x :: r,a,f,h=>by
  unfold comp
  by_cases e:f=x.free
  ·rw [if_pos e,comp_pv t r x.at_ f h.2.2];show _=(if x.at_<=t then pv x.free r t else pv f r t);rw [← e,ite_self]
  ·rw [if_neg e];show (if x.at_<=t then pv x.free (comp x.free r) t else pv f (comp x.free r) t)=(if x.at_<=t then pv x.free r t else pv f r t)
   by_cases ht:x.at_<=t
   ·rw [if_pos ht,if_pos ht,comp_pv t r x.at_ x.free h.2.2]
   ·rw [if_neg ht,if_neg ht,Qy1 (QZf r x.at_ x.free h.2.2) oA,Qy1 h.2.2 oA]
theorem comp_id:∀ (p:List Step) (f:Int),Dif f p->comp f p=p
 | [],_,_=>rfl
 | x :: r,f,h=>by
  unfold comp;rw [if_neg h.1,comp_id r x.free h.2]
theorem Qhc:∀ (p:List Step) (f:Int),(comp f p).length<=p.length
 | [],_=>yla _
 | x :: r,f=>by
  unfold comp
  by_cases e:f=x.free
  ·rw [if_pos e];have:=Qhc r f;simp only [yja];omega
  ·rw [if_neg e];have:=Qhc r x.free;simp only [yja];omega
def comp0:List Step->List Step
 | []=>[]
 | x :: r=>x :: comp x.free r
def Srt0:List Step->Prop
 | []=>False
 | x :: r=>x.at_=0∧Srt x.at_ r
theorem comp0_can:∀ {p:List Step},Srt0 p->Can (comp0 p)
 | [],h=>h.elim
 | x :: r,h=>⟨h.1,QZf r x.at_ x.free h.2,comp_dif r x.free⟩
theorem comp0_pat {t:Int} (ht:0<=t):∀ {p:List Step},Srt0 p->pat (comp0 p) t=pat p t
 | [],h=>h.elim
 | x :: r,h=>by
  have h1:=h.1;show (if x.at_<=t then pv x.free (comp x.free r) t else pv 0 (comp x.free r) t)=(if x.at_<=t then pv x.free r t else pv 0 r t);rw [if_pos oA,if_pos oA,comp_pv t r x.at_ x.free h.2]
theorem QCe (p:List Step):(comp0 p).length<=p.length:=by
 cases p with
 | nil=>exact yla _
 | cons x r=>have:=Qhc r x.free;simp only [comp0,yja];omega
theorem Can.srt0:∀ {p:List Step},Can p->Srt0 p
 | [],h=>h.elim
 | _ :: _,h=>⟨h.1,h.2.1⟩
theorem QZg:∀ {p:List Step} {a f:Int},Srt a p -> ∀ x ∈ p,a<x.at_∧x.at_<=1000000∧pv f p x.at_=x.free
 | [],_,_,_,_,hx=>by cases hx
 | y :: r,a,f,h,x,hx=>by
  rcases List.mem_cons.1 hx with rfl|hm
  ·refine ⟨h.1,h.2.1,?_⟩;unfold pv;rw [if_pos (yUa _),Qy1 h.2.2 (yUa _)]
  ·obtain ⟨h1,h2,h3⟩:=QZg (f:=y.free) h.2.2 x hm;have:=h.1;refine ⟨by omega,h2,?_⟩;unfold pv;rw [if_pos oA,h3]
theorem Srt0.mem:∀ {p:List Step},Srt0 p -> ∀ x ∈ p,0<=x.at_∧x.at_<=1000000∧pat p x.at_=x.free
 | [],h,_,_=>h.elim
 | y :: r,h,x,hx=>by
  have h0:=h.1;rcases List.mem_cons.1 hx with rfl|hm
  ·refine ⟨by omega,by omega,?_⟩;unfold pat pv;rw [if_pos (yUa _),Qy1 h.2 (yUa _)]
  ·obtain ⟨h1,h2,h3⟩:=QZg (f:=y.free) h.2 x hm;refine ⟨by omega,h2,?_⟩;unfold pat pv;rw [if_pos oA,h3]
def putS (out:List Step) (x:Step):List Step:=match out.getLast? with
 | none=>out++[x]
 | some l=>if l.free=x.free then out else out++[x]
theorem comp_snoc (x:Step):∀ (p:List Step) (f:Int),comp f (p++[x])=if ((comp f p).getLast?.map (·.free)).getD f=x.free then comp f p else comp f p++[x]
 | [],f=>by
  by_cases h:f=x.free <;> simp [comp,h]
 | y :: r,f=>by
  have ih:=comp_snoc x r
  by_cases e:f=y.free
  ·simp only [yQb,comp,if_pos e];exact ih f
  ·have h:((comp f (y :: r)).getLast?.map (·.free)).getD f=((comp y.free r).getLast?.map (·.free)).getD y.free:=by
    simp only [comp,if_neg e,List.getLast?_cons];cases (comp y.free r).getLast? <;> rfl
   rw [h];simp only [yQb,comp,if_neg e,ih y.free]
   by_cases e2:((comp y.free r).getLast?.map (·.free)).getD y.free=x.free
   ·simp only [if_pos e2]
   ·simp only [if_neg e2,yQb]
theorem comp0_snoc (p:List Step) (x:Step):comp0 (p++[x])=putS (comp0 p) x:=by
 cases p with
 | nil=>rfl
 | cons y r =>
  simp only [yQb,comp0,comp_snoc,putS,List.getLast?_cons];have:((comp y.free r).getLast?.map (·.free)).getD y.free=((comp y.free r).getLast?.getD y).free:=by
   cases (comp y.free r).getLast? <;> rfl
  rw [this];split <;> rfl
theorem Qlg (m:List Step):∀ (p:List Step),m.foldl putS (comp0 p)=comp0 (p++m):=by
 induction m with
 | nil=>intro p;simp
 | cons x r ih =>
  intro p;rw [ysb,← comp0_snoc,ih];simp
theorem pv_map (g:Int->Int) (t:Int):∀ (l:List Int) (a f:Int),Srt a (l.map fun u=>⟨u,g u⟩)->a<=t->(∀ u v,a<=u->u<=v->v<=t->(∀ x ∈ l,x<=u∨v<x)->g u=g v)->f=g a->pv f (l.map fun u=>⟨u,g u⟩) t=g t
 | [],a,f,_,ha,hg,hf=>by
  rw [hf];exact hg a t (yUa _) ha (yUa _) (fun x hx=>by cases hx)
 | y :: r,a,f,hs,ha,hg,hf=>by
  simp only [yjb,pv];have h1:a<y:=hs.1
  by_cases h:y<=t
  ·rw [if_pos h];refine pv_map g t r y (g y) hs.2.2 h (fun u v hu huv hv hx=>hg u v oA huv hv fun x hm=>?_) rfl;rcases List.mem_cons.1 hm with rfl|hm
   ·exact .inl hu
   ·exact hx x hm
  ·rw [if_neg h,hf];have hsm:pv (g a) (r.map fun u=>(⟨u,g u⟩:Step)) t=g a:=Qy1 (a:=y) hs.2.2 oA;rw [hsm];refine hg a t (yUa _) ha (yUa _) fun x hm=>?_
   right;rcases List.mem_cons.1 hm with rfl|hm
   ·omega
   ·have:=(QZg (f:=0) hs.2.2 ⟨x,g x⟩ (List.mem_map.2 ⟨x,hm,rfl⟩)).1;simp only at this;omega
theorem pv_later:∀ (p:List Step) (a f u v:Int),Srt a p->u<=v->pv f p v=pv f p u ∨ ∃ x ∈ p,u<x.at_∧x.at_<=v∧pv f p v=x.free
 | [],_,_,_,_,_,_=>.inl rfl
 | x :: r,a,f,u,v,hs,h=>by
  by_cases hv:x.at_<=v
  ·have e1:pv f (x :: r) v=pv x.free r v:=if_pos hv
   by_cases hu:x.at_<=u
   ·have e2:pv f (x :: r) u=pv x.free r u:=if_pos hu;rw [e1,e2];exact (pv_later r x.at_ x.free u v hs.2.2 h).imp id fun ⟨y,hy,e⟩=>⟨y,yha _ hy,e⟩
   ·rw [e1];rcases pv_later r x.at_ x.free u v hs.2.2 h with e|⟨y,hy,e⟩
    ·rw [Qy1 hs.2.2 (by omega:u<=x.at_)] at e;exact .inr ⟨x,yqa ..,by omega,hv,e⟩
    ·exact .inr ⟨y,yha _ hy,e⟩
  ·refine .inl ?_;rw [Qy1 (a:=x.at_ - 1) (p:=x :: r) ⟨by omega,hs.2.1,hs.2.2⟩ oA,Qy1 (a:=x.at_ - 1) (p:=x :: r) ⟨by omega,hs.2.1,hs.2.2⟩ oA]
theorem least_fit {p:List Step} (hp:Can p) (a b n:Int) (ha:0<=a) (hab:a<b):(n<=pat p a ∧ ∀ x ∈ p,a<x.at_->x.at_<b->n<=x.free) ↔ ∀ u,a<=u->u<b->n<=pat p u:=by
 have h0:=hp.srt0;have hs:Srt (-1) p:=by
  cases p with
  | nil=>exact hp.elim
  | cons x r=>exact ⟨by have:=hp.1;omega,by have:=hp.1;omega,hp.2.1⟩
 constructor
 ·rintro ⟨h1,h2⟩ u hu hv;rcases pv_later p (-1) 0 a u hs hu with e|⟨x,hx,g1,g2,e⟩
  ·show n<=pv 0 p u;rw [e];exact h1
  ·show n<=pv 0 p u;rw [e];exact h2 x hx g1 oA
 ·intro h;refine ⟨h a (yUa _) hab,fun x hx g1 g2=>?_⟩;rw [← (h0.mem x hx).2.2];exact h _ oA g2
end Go.Proofs.YtackngeeehiegaaGreatDoor
namespace Go.Proofs.YtackngeeehiegaaGreatDoor
set_option linter.unusedSimpArgs false
set_option linter.unusedVariables false
open Go.Shelf Go.Sort Go.RowKit
def srtRen:Ren :=
 {f:=fun x=>match x with
   | 189=>147
   | 125=>206
   | 257=>205
   | 128=>253
   | 129=>254
   | 294=>244
   | 295=>245
   | 296=>246
   | 297=>247
   | 298=>248
   | 299=>249
   | 216=>250
   | 300=>251
   | 301=>252
   | 328=>274
   | 329=>275
   | 330=>276
   | 331=>277
   | 332=>278
   | 215=>279
   | 343=>297
   | n=>n
  t:=fun x=>match x with
   | 28=>52
   | 3=>3
   | 46=>169
   | 0=>0
   | 51=>283
   | 53=>47
   | 4=>4
   | 183=>277
   | 182=>276
   | 131=>89
   | 5=>5
   | 9=>9
   | 218=>292
   | 222=>296
   | 228=>306
   | 229=>307
   | n=>n
  g:=fun x=>x }
theorem srtLays:Lays.n189 Tryz.prog srtRen where
 mixed:=by kernel_rfl
 f125:=Tryz.func206.trans (by kernel_rfl)
 f128:=Tryz.func253.trans (by kernel_rfl)
 f129:=Tryz.func254.trans (by kernel_rfl)
 f189:=Tryz.func147.trans (by kernel_rfl)
 f215:=Tryz.func279.trans (by kernel_rfl)
 f216:=Tryz.func250.trans (by kernel_rfl)
 f257:=Tryz.func205.trans (by kernel_rfl)
 f294:=Tryz.func244.trans (by kernel_rfl)
 f295:=Tryz.func245.trans (by kernel_rfl)
 f296:=Tryz.func246.trans (by kernel_rfl)
 f297:=Tryz.func247.trans (by kernel_rfl)
 f298:=Tryz.func248.trans (by kernel_rfl)
 f299:=Tryz.func249.trans (by kernel_rfl)
 f300:=Tryz.func251.trans (by kernel_rfl)
 f301:=Tryz.func252.trans (by kernel_rfl)
 f328:=Tryz.func274.trans (by kernel_rfl)
 f329:=Tryz.func275.trans (by kernel_rfl)
 f330:=Tryz.func276.trans (by kernel_rfl)
 f331:=Tryz.func277.trans (by kernel_rfl)
 f332:=Tryz.func278.trans (by kernel_rfl)
 f343:=Tryz.func297.trans (by kernel_rfl)
 t0:=Tryz.underlying0
 a0:=Tryz.isAgg0
 z0:=Tryz.sizeOf0
 v0:=Tryz.zeroValue0
 t3:=Tryz.underlying3
 a3:=Tryz.isAgg3
 z3:=Tryz.sizeOf3
 v3:=Tryz.zeroValue3
 t4:=Tryz.underlying4
 a4:=Tryz.isAgg4
 z4:=Tryz.sizeOf4
 v4:=Tryz.zeroValue4
 t5:=Tryz.underlying5
 a5:=Tryz.isAgg5
 z5:=Tryz.sizeOf5
 v5:=Tryz.zeroValue5
 t9:=Tryz.underlying9
 a9:=Tryz.isAgg9
 z9:=Tryz.sizeOf9
 v9:=Tryz.zeroValue9
 t28:=Tryz.underlying52
 a28:=Tryz.isAgg52
 z28:=Tryz.sizeOf52
 v28:=Tryz.zeroValue52
 t46:=Tryz.underlying169
 a46:=Tryz.isAgg169
 z46:=Tryz.sizeOf169
 v46:=Tryz.zeroValue169
 t51:=Tryz.underlying283
 a51:=Tryz.isAgg283
 z51:=Tryz.sizeOf283
 v51:=Tryz.zeroValue283
 t53:=Tryz.underlying47
 a53:=Tryz.isAgg47
 z53:=Tryz.sizeOf47
 v53:=Tryz.zeroValue47
 t131:=Tryz.underlying89
 a131:=Tryz.isAgg89
 z131:=Tryz.sizeOf89
 v131:=Tryz.zeroValue89
 t182:=Tryz.underlying276
 a182:=Tryz.isAgg276
 z182:=Tryz.sizeOf276
 v182:=Tryz.zeroValue276
 t183:=Tryz.underlying277
 a183:=Tryz.isAgg277
 z183:=Tryz.sizeOf277
 v183:=Tryz.zeroValue277
 t218:=Tryz.underlying292
 a218:=Tryz.isAgg292
 z218:=Tryz.sizeOf292
 v218:=Tryz.zeroValue292
 t222:=Tryz.underlying296
 a222:=Tryz.isAgg296
 z222:=Tryz.sizeOf296
 v222:=Tryz.zeroValue296
 t228:=Tryz.underlying306
 a228:=Tryz.isAgg306
 z228:=Tryz.sizeOf306
 v228:=Tryz.zeroValue306
 t229:=Tryz.underlying307
 a229:=Tryz.isAgg307
 z229:=Tryz.sizeOf307
 v229:=Tryz.zeroValue307
end Go.Proofs.YtackngeeehiegaaGreatDoor
namespace Go.Proofs.YtackngeeehiegaaGreatDoor
set_option linter.unusedSimpArgs false
set_option linter.unusedVariables false
open Go.Fw Go.RowKit
section
variable {K:Ctx} {objs:Objs}
theorem MemSat.grown (os:List Obj):∀ {w:World},MemSat K objs w->MemSat K objs (Go.Sort.grow w os.toArray):=by
 induction os with
 | nil=>intro w h;simpa [Go.Sort.grow] using h
 | cons x r ih =>
  intro w h;have:=ih (h.junk x);rw [Go.Sort.alloc_eq_grow,Go.Sort.grow_grow] at this;simpa using this
end
def insI (x:Int):List Int->List Int
 | []=>[x]
 | y :: r=>bif decide (y<x) then y :: insI x r else x :: y :: r
def sorted (l:List Int):List Int:=l.foldr insI []
theorem Qzg (x:Int):∀ o,(insI x o).Perm (x :: o)
 | []=>.refl _
 | y :: r=>by
  unfold insI;cases decide (y<x) with
  | true=>exact ((Qzg x r).cons y).trans (.swap x y r)
  | false=>exact .refl _
theorem QAg (x:Int):∀ o,o.Pairwise (fun a b=>a<=b)->(insI x o).Pairwise fun a b=>a<=b
 | [],_=>List.pairwise_singleton _ _
 | y :: r,h=>by
  obtain ⟨h1,h2⟩:=List.pairwise_cons.1 h;unfold insI;cases ha:decide (y<x) with
  | true =>
   have ha:=yda ha;refine List.pairwise_cons.2 ⟨fun z hz=>?_,QAg x r h2⟩;rcases List.mem_cons.1 ((Qzg x r).mem_iff.1 hz) with rfl|hz
   ·omega
   ·exact h1 z hz
  | false =>
   have ha:=yca ha;refine List.pairwise_cons.2 ⟨fun z hz=>?_,h⟩;rcases List.mem_cons.1 hz with rfl|hz
   ·omega
   ·have:=h1 z hz;omega
theorem QGa:∀ l:List Int,(sorted l).Perm l
 | []=>.refl _
 | x :: r=>(Qzg x _).trans ((QGa r).cons x)
theorem sorted_pw:∀ l:List Int,(sorted l).Pairwise fun a b=>a<=b
 | []=>.nil
 | x :: r=>QAg x _ (sorted_pw r)
theorem sorted_merge (l:List Int):l.mergeSort (fun x y=>decide (x<=y))=sorted l :=
 List.Perm.eq_of_pairwise (le:=fun x y=>x<=y) (fun a b _ _ h1 h2=>Int.le_antisymm h1 h2)
  ((List.pairwise_mergeSort (fun a b c h1 h2=>by simp at *;omega) (fun a b=>by simp;omega) l).imp fun h=>by simpa using h) (sorted_pw l) ((List.mergeSort_perm l _).trans (QGa l).symm)
@[simp] theorem Qte (l:List Int):(sorted l).length=l.length:=(QGa l).length_eq
theorem putRow_setRow {w:World} {g:Nat} {c:Array Value} {t:TypeId} {fr:Nat × Nat} (hb:w.heap[g]? = some (.cells c t fr)) (d:Array Int):Go.Sort.putRow (Value.int .i64) w g 0 d=w.setRow g (Go.Sort.putCells (Value.int .i64) 0 d c):=by
 unfold Go.Sort.putRow Go.Sort.mapBlock World.setRow
 congr 1
 apply yZb;intro i;simp only [y0b]
 by_cases hi:g=i
 ·subst hi;simp [hb,Go.Sort.onCells]
 ·simp [hi]
theorem slices_Sort_c (l:List Int) (hl:l.length<=4294967296) (h0:l ≠ []):AMoves Tryz.prog 147 [.own 0 0 1 0 l.length] [(0,.row 3 1 (l.map fun q_=>[I q_]))] 1 (.tup []) [(0,.row 3 1 ((sorted l).map fun q_=>[I q_]))]:=by
 intro K w vs hm hr;have hp0:([(0,.row 3 1 (l.map fun q_=>[I q_]))]:Objs)[0]? = some (0,.row 3 1 (l.map fun q_=>[I q_])):=rfl;have hlen:l.length ≠ 0:=by simpa using h0
 obtain ⟨v,rfl⟩:∃ v,vs=[v]:=List.length_eq_one_iff.1 hr.1;obtain ⟨_,_,hcase⟩:=QY6 (hr.2 0 _ _ rfl rfl);rcases hcase with ⟨_,q,_⟩|⟨a,cap,rfl,q1,q2,q3⟩
 ·exact absurd q hlen
 have ha:=q3 oA;simp only [ydc] at ha;subst ha;obtain ⟨g1,g2,g3⟩:=hm.obj 0 _ hp0;have hC:K.C 0 0 ≠ 0:=by simp at g2;omega
 obtain ⟨cur,⟨fr,hfr,hbk⟩,hs,h1,hcr⟩:=g3 hC;have hblk:=(hm.lo 0 _ hp0 rfl hC).2.1;have hsz:l.length<=cur.size:=by
  have e:cur.size=K.C 0 0*1:=hs;simp at g2;omega
 have hcell:∀ (j:Nat) (n:Int),l[j]? = some n->cur[j]? = some (Value.int .i64 n):=by
  intro j n hj;obtain ⟨u,hu,hru⟩:=hcr j 0 [I n] (I n) (by rw [yDa,hj];rfl) rfl;have e:=Q21 hru;subst e;rw [show j*1+0=j by omega] at hu;exact hu
 have hH:Go.Sort.Holds (Value.int .i64) w (K.ρ 0 0) 0 l.toArray:=by
  intro j hj;have hj':j<l.length:=by simpa using hj
  refine ⟨?_,?_⟩
  ·simp only [World.cell?,hbk,yma];have e:l[j]? = some (l[j]'hj'):=yaa hj';have:=hcell j _ e;rw [this]
   congr 2
   rw [getElem!_pos l.toArray j hj];simp
  ·have hj2:=hfr j oA;obtain ⟨lo,hi'⟩:=fr;simp only at hj2;simp only [World.frozen?,hbk,yma,ycc,yfa,yGa];intro h1 h2;exact hj2 ⟨h1,h2⟩
 have hc:=Any.slices_Sort_int srtLays (K.ρ 0 0) 0 cap l w hH hblk oA;rw [sorted_merge] at hc;refine hc.mono ?_;rintro e w' ⟨rfl,n,os,rfl⟩;have hmd:=hm.drawn (w.drawn+n);have hbk':(Go.Sort.ahead w n).heap[K.ρ 0 0]? = some (.cells cur 3 fr):=hbk;have hsl:(sorted l).length=l.length:=Qte l
 have hmr:=hmd.setRow hp0 hC cur (Go.Sort.putCells (Value.int .i64) 0 (sorted l).toArray cur) ⟨fr,hfr,hbk⟩ (by simp [Go.Sort.putCells]) (fun u hu=>by
   simp only [Go.Sort.putCells,Array.mem_toList_iff,Array.mem_mapIdx] at hu;obtain ⟨i,hi,rfl⟩:=hu;split
   ·rfl
   ·exact h1 _ (Array.mem_toList_iff.2 (Array.getElem_mem hi))) ((sorted l).map fun q_=>[I q_]) (by simp at g2 ⊢;omega) (by simp) (fun i j e x he hx=>by
   rw [yDa] at he;obtain ⟨q,hq,rfl⟩:=Option.map_eq_some_iff.1 he;have hi:i<(sorted l).length:=(List.getElem?_eq_some_iff.1 hq).1;cases j with
   | succ j=>simp at hx
   | zero =>
    simp only [ydb,yba] at hx;subst hx;refine ⟨Value.int .i64 q,?_,.lit _⟩;have hic:i<cur.size:=by omega
    have e:(sorted l).toArray[i]! = q:=by
     rw [getElem!_pos _ i (by simpa using hi)];simpa using (List.getElem?_eq_some_iff.1 hq).2
    simp only [Nat.mul_one,y6a,Go.Sort.putCells,Array.getElem?_mapIdx,yza hic,yPa,yva,yec,true_and,yma,ymb]
    rw [if_pos hi,e])
 rw [putRow_setRow hbk'];have hmg:=MemSat.grown os.toList hmr;exact ⟨_,K,rfl,Qpg (by rw [← hm.len];simp),hmg,.tup _ _ rfl (by intro i x v hx;simp at hx)⟩
end Go.Proofs.YtackngeeehiegaaGreatDoor
namespace Go.Proofs.YtackngeeehiegaaGreatDoor
set_option linter.unusedSimpArgs false
set_option linter.unusedVariables false
open Go.Fw
set_option maxRecDepth 20000
set_option maxHeartbeats 4000000
attribute [local irreducible] ACalls AMoves
theorem Job.zz {x:Job} (h:x.sz):x.name.size<=4294967296∧x.user.size<=4294967296∧x.account.size<=4294967296∧x.shape.alts.length<=4294967296∧x.after.length<=4294967296:=h
theorem Usage.zz {x:Usage} (h:x.sz):x.user.size<=4294967296∧x.account.size<=4294967296:=h
abbrev GV (f:FuncId) (a:List AVal) (r:AVal):Prop:=∀ objs,AGives Tryz.prog f a objs r
def Qgd (l:List Node):Bool:=(decide ((l.length:Int)<=100))
theorem law12_Few_c (l:List Node):GV 25 [nodeL l] (Bo (Qgd l)):=by
 generalize hR:Qgd l=R;refine gA (kp 3 []) Tryz.func25 ?_;exact lfA
def Qfd (s:Shape):Bool:=(decide ((s.alts.length:Int)<=100))
theorem law07_Few_c (s:Shape):GV 134 [Shape.a s] (Bo (Qfd s)):=by
 generalize hR:Qfd s=R;refine gA (kp 3 []) Tryz.func134 ?_;exact lfA
def Qjd (l:List Book):Bool:=(decide ((l.length:Int)<=100))
theorem law19_Few_c (l:List Book):GV 27 [bookL l] (Bo (Qjd l)):=by
 generalize hR:Qjd l=R;refine gA (kp 3 []) Tryz.func27 ?_;exact lfA
def Qo8 :List Usage->Nat->Bool
 | [],_=>true
 | x_ :: r,i=>bif ((decide ((ByteArray.size x_.user:Int) > 1000))||(decide ((ByteArray.size x_.account:Int) > 1000))) then false else Qo8 r (i+1)
def Qid (l:List Usage):Bool:=bif (decide ((l.length:Int) > 300)) then false else Qo8 l 0
theorem law17_Few_c (l:List Usage) (hs0:l.length<=9223372036854775807∧(∀ y ∈ l,y.szM)):GV 28 [QI2 l] (Bo (Qid l)):=by
 generalize hR:Qid l=R;refine gA (kp 4 [6,10,28]) Tryz.func28 ?_;obtain ⟨z9,z10⟩:=id hs0;refine ai (fun h1=>?_) (fun h2=>?_)
 ·have qh1:=yda h1;exact lfA
 ·have qh2:=yca h2;refine Qg0 (fun (i:Nat)=>Qo8 (List.drop i l) i=R∧i<=l.length) (fun i=>l.length - i) (fun i=>[(0,QI2 l),(2,Bo false),(3,I (i:Int))]) (fun i=>[]) 0 (wkA []) ⟨folA,by exact omA⟩ ?_;clear hR;rintro i ⟨hR,hj⟩;(try dsimp only at hR hj);refine ai (fun h3=>?_) (fun h4=>?_)
  ·have hlt:=ltA h3;rw [Qa0 zJ hlt] at hR;have hxz:(l.getD i zJ).szM:=Qp4 (by first|assumption|grind) (Usage.szz _);have hkz:=hxz;obtain ⟨z5,z6⟩:((l.getD i zJ).user).size<=9223372036854775807∧((l.getD i zJ).account).size<=9223372036854775807:=hxz;refine ai gkA ?_;refine ai gkA ?_;refine ai (fun h7=>?_) (fun h8=>?_)
   ·exact lfA
   ·exact Qn0 (i+1) (wkA []) omA ⟨folA,by exact omA⟩
  ·rw [Qd0 (l:=l) (j:=i) (geA h4)] at hR;exact lfA
def oc1 (x_:Int):Int:=(wu64 ((wu64 (BitVec.ofInt 64 (Int.fdiv x_ (2 ^ (min (Int.toNat 1) 64))) &&& BitVec.ofInt 64 6148914691236517205).toNat)+(wu64 (BitVec.ofInt 64 x_ &&& BitVec.ofInt 64 6148914691236517205).toNat)))
def oc2 (x_:Int):Int:=(wu64 ((wu64 (BitVec.ofInt 64 (Int.fdiv x_ (2 ^ (min (Int.toNat 2) 64))) &&& BitVec.ofInt 64 3689348814741910323).toNat)+(wu64 (BitVec.ofInt 64 x_ &&& BitVec.ofInt 64 3689348814741910323).toNat)))
def oc3 (x_:Int):Int:=(wu64 (BitVec.ofInt 64 (wu64 ((Int.fdiv x_ (2 ^ (min (Int.toNat 4) 64)))+x_)) &&& BitVec.ofInt 64 1085102592571150095).toNat)
def QL6 (x_:Int):Int:=(w64 (BitVec.ofInt 64 (w64 (wu64 ((wu64 ((wu64 ((oc3 (oc2 (oc1 x_)))+(Int.fdiv (oc3 (oc2 (oc1 x_))) (2 ^ (min (Int.toNat 8) 64)))))+(Int.fdiv (wu64 ((oc3 (oc2 (oc1 x_)))+(Int.fdiv (oc3 (oc2 (oc1 x_))) (2 ^ (min (Int.toNat 8) 64))))) (2 ^ (min (Int.toNat 16) 64)))))+(Int.fdiv (wu64 ((wu64 ((oc3 (oc2 (oc1 x_)))+(Int.fdiv (oc3 (oc2 (oc1 x_))) (2 ^ (min (Int.toNat 8) 64)))))+(Int.fdiv (wu64 ((oc3 (oc2 (oc1 x_)))+(Int.fdiv (oc3 (oc2 (oc1 x_))) (2 ^ (min (Int.toNat 8) 64))))) (2 ^ (min (Int.toNat 16) 64))))) (2 ^ (min (Int.toNat 32) 64)))))) &&& BitVec.ofInt 64 127).toNat)
theorem QOc (x_:Int):GV 79 [U x_] (I (QL6 x_)):=by
 generalize hR:QL6 x_=R;refine gA (kp 3 []) Tryz.func79 ?_;refine ai gkA ?_;refine ai gkA ?_;refine ai gkA ?_;refine ai gkA ?_;refine ai gkA ?_;refine ai gkA ?_;exact lfA
def Q35 (f:Node->Bool):List Node->Nat->Int
 | [],_=>(-1)
 | x_ :: r,i=>bif (f x_) then (i:Int) else Q35 f r (i+1)
def Qv2 (s:List Node) (f:Node->Bool):Int:=Q35 f s 0
def Q27 (v:Int):List Int->Nat->Int
 | [],_=>(-1)
 | x_ :: r,i=>bif (v==x_) then (i:Int) else Q27 v r (i+1)
def QD8 (s:List Int) (v:Int):Int:=Q27 v s 0
theorem QSd (s:List Int) (v:Int) (hs0:s.length<=4294967296):GV 149 [ints s,I v] (I (QD8 s v)):=by
 generalize hR:QD8 s v=R;refine gA (kp 6 [7,8,9,16]) Tryz.func149 ?_;have hk0:=hs0;obtain z5:s.length<=4294967296:=hs0;refine Qg0 (fun (i:Nat)=>Q27 v (List.drop i s) i=R∧i<=s.length) (fun i=>s.length - i) (fun i=>[(0,ints s),(1,I v),(4,I 0),(7,I (s.length:Int)),(8,I (i:Int))]) (fun i=>[]) 0 (wkA []) ⟨foll hR rfl,by exact omA⟩ ?_;clear hR;rintro i ⟨hR,hj⟩;(try dsimp only at hR hj);apply ai<;>intro h1
 ·have hlt:=ltA h1;rw [Qa0 0 hlt] at hR;refine ai gkA ?_;apply ai<;>intro h3
  ·exact lfA
  ·exact Qn0 (i+1) (wkA []) omA ⟨folA,by exact omA⟩
 ·rw [Qd0 (l:=s) (j:=i) (geA h1)] at hR;exact lfA
def QP3 (n:Int):Bool:=((decide (n >= 0))&&(decide (n<=1000000)))
theorem Q4b (n:Int):GV 210 [I n] (Bo (QP3 n)):=by
 generalize hR:QP3 n=R;refine gA (kp 3 []) Tryz.func210 ?_;exact lfA
def QG6 (n:Int) (from_:Int) (to_:Int):Int:=bif (decide (n<from_)) then from_ else bif (decide (n > to_)) then to_ else n
theorem QOf (n:Int) (from_:Int) (to_:Int):GV 231 [I n,I from_,I to_] (I (QG6 n from_ to_)):=by
 generalize hR:QG6 n from_ to_=R;refine gA (kp 7 [7,12]) Tryz.func231 ?_;apply ai<;>intro h1
 ·have qh1:=yda h1;exact lfA
 ·have qh1:=yca h1;apply ai<;>intro h3
  ·have qh3:=yda h3;exact lfA
  ·have qh3:=yca h3;exact lfA
def Qw2 (n:Int):Bool:=((decide (n >= 0))&&(decide (n<=1000000)))
theorem Q87 (n:Int):GV 191 [I n] (Bo (Qw2 n)):=by
 generalize hR:Qw2 n=R;refine gA (kp 3 []) Tryz.func191 ?_;exact lfA
def Qg1 (a:Alt):Bool:=((((decide (a.nodes >= 1))&&(decide (a.nodes<=48)))&&(decide (a.wall >= 1)))&&(decide (a.wall<=100000)))
theorem Qwb (a:Alt):GV 239 [Alt.a a] (Bo (Qg1 a)):=by
 generalize hR:Qg1 a=R;refine gA (kp 3 []) Tryz.func239 ?_;exact lfA
def Qw3 (f:Alt->Bool):List Alt->Nat->Int
 | [],_=>(-1)
 | x_ :: r,i=>bif (f x_) then (i:Int) else Qw3 f r (i+1)
def Qb1 (s:List Alt) (f:Alt->Bool):Int:=Qw3 f s 0
def QU2 (n:Int) (from_:Int) (to_:Int):Bool:=((decide (n >= from_))&&(decide (n<=to_)))
theorem QC3 (n:Int) (from_:Int) (to_:Int):GV 264 [I n,I from_,I to_] (Bo (QU2 n from_ to_)):=by
 generalize hR:QU2 n from_ to_=R;refine gA (kp 7 []) Tryz.func264 ?_;exact lfA
def Qk1 (r_:Int):Int:=bif ((r_==9)||(r_==32)) then 1 else bif (((((decide (r_<32))||((decide (r_ >= 127))&&(decide (r_<=160))))||((decide (r_ >= 55296))&&(decide (r_<=57343))))||(r_==65533))||(decide (r_ > 1114111))) then 0 else bif ((decide (r_ >= 48))&&(decide (r_<=57))) then 3 else bif ((((decide (r_ >= 97))&&(decide (r_<=122)))||((decide (r_ >= 65))&&(decide (r_<=90))))||(decide (r_ > 160))) then 2 else 4
theorem Qm5 (r_:Int):GV 300 [J r_] (I (Qk1 r_)):=by
 generalize hR:Qk1 r_=R;refine gA (kp 3 [3,10,37,44]) Tryz.func300 ?_;apply ai<;>intro h1
 ·exact lfA
 ·apply ai<;>intro h3
  ·exact lfA
  ·apply ai<;>intro h5
   ·exact lfA
   ·apply ai<;>intro h7
    ·exact lfA
    ·exact lfA
def QG0 (is:Int->Bool):Nat->LexReader->LexReader
 | 0,_=>zM
 | m+1,c=>bif ((decide (c.at_<(c.line.length:Int)))&&(is (c.line.getD (c.at_.toNat) 0))) then QG0 is m { c with at_:=(w64 (c.at_+1)) } else c
def QH0 (r_:LexReader) (c:LexReader):ByteArray × LexReader:=((runesBytes (List.drop (r_.at_.toNat) (List.take (c.at_.toNat) c.line))),c)
def Q20 (r_:LexReader) (is:Int->Bool):ByteArray × LexReader:=QH0 r_ (QG0 is ((((r_.line.length:Int) - r_.at_).toNat)+1) r_)
theorem Q6c (is:Int->Bool):∀ (m:Nat) (c:LexReader),(QG0 is m c).line.length<=c.line.length
 | 0,_=>by simp [QG0,zM]
 | m+1,c=>by
  rw [QG0];cases ((decide (c.at_<(c.line.length:Int)))&&(is (c.line.getD (c.at_.toNat) 0))) with
  | true=>exact Q6c is m { c with at_:=(w64 (c.at_+1)) }
  | false=>exact yla _
theorem Qcb (r_:LexReader) (is:Int->Bool) (h:r_.line.length<=400):(Q20 r_ is).1.size<=4294967296:=by
 have h1:=Q6c is ((((r_.line.length:Int) - r_.at_).toNat)+1) r_;unfold Q20 QH0;refine yHa (QC7 _) ?_;simp only [ywa,yta];omega
def QO5 (s:ByteArray):Nat->Nat->List Int->(List Int)
 | 0,_,_=>[]
 | m+1,i,c=>bif (decide ((i:Int)<(ByteArray.size s:Int))) then bif ((decide ((c.getD i 0) >= 65))&&(decide ((c.getD i 0)<=90))) then QO5 s m (i+1) (c.set i (wu8 ((wu8 ((c.getD i 0)+97)) - 65))) else QO5 s m (i+1) c else c
def QC4 (c:List Int):ByteArray:=(QQ2 c)
def Q38 (s:ByteArray):ByteArray:=QC4 (QO5 s ((((ByteArray.size s:Int) - (0:Int)).toNat)+1) 0 (Q22 s))
theorem runes_Lower_c (s:ByteArray) (hs0:s.size<=4294967296):GV 331 [Sg s] (Sg (Q38 s)):=by
 generalize hR:Q38 s=R;refine gA (kp 6 [8,9,10,11,20]) Tryz.func331 ?_;have hk0:=hs0;obtain z5:s.size<=4294967296:=hs0;refine Qb0 (fun (i:Nat) (c:List Int)=>∃ m,(((ByteArray.size s:Int) - (i:Int)).toNat)<m∧QC4 (QO5 s m i c)=R∧c.length=ByteArray.size s∧(i:Int)<=(ByteArray.size s:Int)) (fun i c=>(((ByteArray.size s:Int) - (i:Int)).toNat)) (fun i c=>[(2,Sg ⟨#[]⟩),(3,AVal.own 0 0 1 0 c.length),(8,AVal.own 0 0 1 0 c.length),(9,I (ByteArray.size s:Int)),(10,I (i:Int))]) (fun i c=>[(0,AObj.row 5 1 (c.map (fun q_=>[Y q_])))]) 0 (Q22 s) (wkA [0]) ⟨_,yCa _,foll hR rfl,by exact exA⟩ ?_;clear hR;rintro i c ⟨m,hm,hR,hx⟩;(try dsimp only at hR hm hx);obtain ⟨m,rfl⟩:=sucA m;apply ai<;>intro h1
 ·have qh1:=yda h1;refine ai gkA ?_;refine ⟨_,QL0 rfl rfl rfl (Qa1 0 i (by first|rfl|exact yma _|omega) ckA) rfl,?_⟩;apply ai<;>intro h3
  ·refine ai gkA ?_;refine ⟨_,Qb3 rfl rfl rfl rfl (Qa1 0 i (by first|rfl|exact yma _|omega) ckA) rfl rfl (QDh i (wu8 ((wu8 ((c.getD i 0)+97)) - 65)) (by first|rfl|exact yma _|omega) rfl),?_⟩;exact Q60 (i+1) (c.set i (wu8 ((wu8 ((c.getD i 0)+97)) - 65))) (wkA [0]) omA ⟨m,by exact omA,foll hR (congrArg (fun p:(List Int)=>QC4 p) (ct h1 (ct h3 rfl))),by exact exA⟩
  ·exact Q60 (i+1) c (wkA [0]) omA ⟨m,by exact omA,foll hR (congrArg (fun p:(List Int)=>QC4 p) (ct h1 (cf h3 rfl))),by exact exA⟩
 ·have qh1:=yca h1;replace hR:QC4 c=R:=fo2 (fun p:(List Int)=>QC4 p) (c) hR (cf h1 rfl);(first|refine ⟨c,by exact cvA,?_⟩|refine ⟨_,fun _=>⟨c,by exact cvA,rfl,rfl⟩,?_⟩|refine ⟨_,rfl,⟨c,by exact cvA,Sub.refl _,rfl⟩,?_⟩);exact lfA
def QZ0 (r_:LexReader) (at_:Int) (e_:Int):LexReader:=bif (r_.error==0) then (⟨r_.line,r_.at_,at_,e_⟩:LexReader) else r_
theorem QQ3 (r_:LexReader) (at_:Int) (e_:Int):AMoves Tryz.prog 320 [AVal.ptr 0 0 4 0 0,I at_,I e_] [(0,AObj.row 321 4 [[runes r_.line,I r_.at_,I r_.bad,I r_.error]])] 1 (AVal.tup []) [(0,AObj.row 321 4 [[runes ((QZ0 r_ at_ e_).line),I ((QZ0 r_ at_ e_).at_),I ((QZ0 r_ at_ e_).bad),I ((QZ0 r_ at_ e_).error)]])]:=by
 generalize hR:QZ0 r_ at_ e_=R;refine mo (kp 6 [10]) Tryz.func320 ?_;apply ai<;>intro h1
 ·obtain rfl:=foll hR (ct h1 rfl);exact rq (tt [0] (tO rfl (ts LexReader.lo) .nil) t1)
 ·obtain rfl:=foll hR (cf h1 rfl);exact rq (ttA [0])
def Qo7 (s:ByteArray):List (Nat × Int)->Bool
 | []=>(!(ByteArray.toList s==ByteArray.toList ⟨#[]⟩))
 | x_ :: r=>bif ((decide (x_.2<48))||(decide (x_.2 > 57))) then false else Qo7 s r
def Q19 (s:ByteArray):Bool:=Qo7 s (Qf8 s)
theorem QLe (s:ByteArray) (hs0:s.size<=4294967296):GV 333 [Sg s] (Bo (Q19 s)):=by
 generalize hR:Q19 s=R;refine gA (kp 5 [6,7,8,15]) Tryz.func333 ?_;have hk0:=hs0;obtain z5:s.size<=4294967296:=hs0;refine Qg0 (fun (pos:Nat)=>∃ m,ByteArray.size s - pos<=m∧Qo7 s (QL4 s m pos)=R) (fun pos=>ByteArray.size s - pos) (fun pos=>[(0,Sg s),(2,Bo false),(6,AVal.ptr 0 0 1 0 0)]) (fun pos=>[(0,AObj.other (.strIter s pos))]) 0 (wkA [0]) ⟨ByteArray.size s,by exact omA,foll hR rfl⟩ ?_;clear hR;rintro pos ⟨m,hm,hR⟩;(try dsimp only at hR hm);apply ai<;>intro h1
 ·have hlt:=yda h1;have hw:=Q09 s pos;have hwe:=QZ8 s pos hlt;obtain ⟨m,rfl⟩:=sucA m;rw [Qy3 h1] at hR;refine ai (fun _=>?_) (fun h=>nomatch h);apply ai<;>intro h3
  ·exact lfA
  ·exact Qn0 (pos+(Utf8.decode s pos).2) (wkA [0]) omA ⟨m,by exact omA,foll hR (cf h3 rfl)⟩
 ·rw [Qd6 h1] at hR;refine ai (fun h=>nomatch h) (fun _=>?_);exact lfA
theorem QNa (s:ByteArray):∀ l,Qo7 s l=true->(!(ByteArray.toList s==ByteArray.toList ⟨#[]⟩))=true ∧ ∀ x ∈ l,48<=x.2∧x.2<=57
 | [],h=>⟨h,fun x hx=>nomatch hx⟩
 | x :: r,h=>by
  rw [Qo7] at h;cases hc:((decide (x.2<48))||(decide (x.2 > 57))) with
  | true=>rw [hc] at h;cases h
  | false =>
   rw [hc] at h;obtain ⟨a,b⟩:=QNa s r h;refine ⟨a,fun y hy=>?_⟩;rcases List.mem_cons.1 hy with rfl|hy
   ·simp only [yXa,yGa] at hc;omega
   ·exact b y hy
theorem lex_digits_ok {s:ByteArray} {q:Bool} (h:(((!(Q19 s))||(decide ((ByteArray.size s:Int) > 9)))||q)=false):atoiOK s:=by
 simp only [yXa,yyb,yGa] at h;obtain ⟨⟨h1,h2⟩,_⟩:=h;obtain ⟨a,b⟩:=QNa s _ h1;refine ⟨?_,by omega,fun i hi=>digits_bytes s s.size 0 oA b i oA hi⟩;rcases yNa s.size with h0|h0
 ·have e:s=⟨#[]⟩:=by
   apply ByteArray.ext;exact y3b h0
  rw [e] at a;simp at a
 ·exact h0
def Qz8 (s:ByteArray):Nat->Int->Nat->Int
 | 0,_,_=>0
 | m+1,n,i=>bif (decide ((i:Int)<(ByteArray.size s:Int))) then Qz8 s m (w64 ((w64 (n*10))+(w64 (wu8 (((Q22 s).getD i 0) - 48))))) (i+1) else n
def Qp5 (n:Int):Int × Unit:=(n,())
def Qua (s:ByteArray):Int × Unit:=Qp5 (Qz8 s ((((ByteArray.size s:Int) - (0:Int)).toNat)+1) 0 0)
theorem QBg (s:ByteArray) (hs0:s.size<=4294967296) (hp0:atoiOK s):GV 351 [Sg s] (AVal.tup [I ((Qua s).1),AVal.lit .nilIface]):=by
 generalize hR:Qua s=R;refine gA (kp 11 [30,39,44,47,48,49,50,56,66]) Tryz.func351 ?_;have hk0:=hs0;obtain z11:s.size<=4294967296:=hs0;apply ai<;>intro h1
 ·refine ai gkA ?_;refine ai gkA ?_;apply ai<;>intro h3
  ·exfalso;exact atoi_sign hp0 h3
  ·refine Qb0 (fun (n:Int) (i:Nat)=>∃ m,(((ByteArray.size s:Int) - (i:Int)).toNat)<m∧Qp5 (Qz8 s m n i)=R∧(i:Int)<=(ByteArray.size s:Int)) (fun n i=>(((ByteArray.size s:Int) - (i:Int)).toNat)) (fun n i=>[(0,Sg s),(2,I 0),(3,AVal.lit .nilIface),(5,Sg s),(6,I n),(47,AVal.own 0 0 1 0 (ByteArray.size s)),(48,I (ByteArray.size s:Int)),(49,I (i:Int))]) (fun n i=>[(0,AObj.row 5 1 ((Q22 s).map (fun q_=>[Y q_])))]) 0 0 (wkA [0]) ⟨_,yCa _,foll hR rfl,by exact exA⟩ ?_;clear hR;rintro n i ⟨m,hm,hR,hx⟩;(try dsimp only at hR hm hx);obtain ⟨m,rfl⟩:=sucA m;apply ai<;>intro h5
   ·have qh5:=yda h5;refine ai gkA ?_;refine ⟨_,QL0 rfl rfl rfl (Qa1 0 i (by first|rfl|exact yma _|omega) ckA) rfl,?_⟩;apply ai<;>intro h7
    ·exfalso;exact atoi_digit hp0 oA h7
    ·have qh7:=yca h7;exact Q60 (w64 ((w64 (n*10))+(w64 (wu8 (((Q22 s).getD i 0) - 48))))) (i+1) (wkA [0]) omA ⟨m,by exact omA,foll hR (congrArg (fun p:Int=>Qp5 p) (ct h5 rfl)),by exact exA⟩
   ·have qh5:=yca h5;replace hR:Qp5 n=R:=fo2 (fun p:Int=>Qp5 p) (n) hR (cf h5 rfl);refine ai gkA ?_;apply ai<;>intro h9
    ·exfalso;exact atoi_minus hp0 h9
    ·exact lfA
 ·exfalso;have ha1:=hp0.1;have ha2:=hp0.2.1;simp at h1;omega
def QR2 (p_:List Int) (r_:Int) (i:Bool):(List Int):=bif i then (p_++([(wu8 (BitVec.ofInt 8 224 ||| BitVec.ofInt 8 (wu8 (Int.fdiv r_ (2 ^ (min (Int.toNat 12) 32))))).toNat),(wu8 (BitVec.ofInt 8 128 ||| BitVec.ofInt 8 (wu8 (BitVec.ofInt 8 (wu8 (Int.fdiv r_ (2 ^ (min (Int.toNat 6) 32)))) &&& BitVec.ofInt 8 63).toNat)).toNat),(wu8 (BitVec.ofInt 8 128 ||| BitVec.ofInt 8 (wu8 (BitVec.ofInt 8 (wu8 r_) &&& BitVec.ofInt 8 63).toNat)).toNat)]:List Int)) else bif ((decide ((wu32 r_) > 65535))&&(decide ((wu32 r_)<=1114111))) then (p_++([(wu8 (BitVec.ofInt 8 240 ||| BitVec.ofInt 8 (wu8 (Int.fdiv r_ (2 ^ (min (Int.toNat 18) 32))))).toNat),(wu8 (BitVec.ofInt 8 128 ||| BitVec.ofInt 8 (wu8 (BitVec.ofInt 8 (wu8 (Int.fdiv r_ (2 ^ (min (Int.toNat 12) 32)))) &&& BitVec.ofInt 8 63).toNat)).toNat),(wu8 (BitVec.ofInt 8 128 ||| BitVec.ofInt 8 (wu8 (BitVec.ofInt 8 (wu8 (Int.fdiv r_ (2 ^ (min (Int.toNat 6) 32)))) &&& BitVec.ofInt 8 63).toNat)).toNat),(wu8 (BitVec.ofInt 8 128 ||| BitVec.ofInt 8 (wu8 (BitVec.ofInt 8 (wu8 r_) &&& BitVec.ofInt 8 63).toNat)).toNat)]:List Int)) else (p_++([239,191,189]:List Int))
def QJ2 (p_:List Int) (r_:Int):(List Int):=bif (decide ((wu32 r_)<=2047)) then (p_++([(wu8 (BitVec.ofInt 8 192 ||| BitVec.ofInt 8 (wu8 (Int.fdiv r_ (2 ^ (min (Int.toNat 6) 32))))).toNat),(wu8 (BitVec.ofInt 8 128 ||| BitVec.ofInt 8 (wu8 (BitVec.ofInt 8 (wu8 r_) &&& BitVec.ofInt 8 63).toNat)).toNat)]:List Int)) else bif (decide ((wu32 r_)<55296)) then QR2 p_ r_ (decide ((wu32 r_)<55296)) else QR2 p_ r_ ((decide (57343<(wu32 r_)))&&(decide ((wu32 r_)<=65535)))
theorem QS9 (p_:List Int) (r_:Int) (hs0:p_.length<=4294967296):AMoves Tryz.prog 350 [AVal.own 0 0 1 0 p_.length,J r_] [(0,AObj.row 5 1 (p_.map (fun q_=>[Y q_])))] 0 (AVal.own 0 0 1 0 (QJ2 p_ r_).length) [(0,AObj.row 5 1 ((QJ2 p_ r_).map (fun q_=>[Y q_])))]:=by
 generalize hR:QJ2 p_ r_=R;refine mo (kj [1000007] 6 [11,25,50]) Tryz.func350 ?_;have hk0:=hs0;obtain z9:p_.length<=4294967296:=hs0;apply ai<;>intro h1
 ·have qh1:=yda h1;refine ai gkA ?_;refine Or.inl ?_;(first|refine ⟨Qn1 1 rfl lnA apA,?_⟩|refine ⟨QD0 1 rfl apA,?_⟩);obtain rfl:=foll hR (ct h1 rfl);exact rq (ttA [0])
 ·have qh1:=yca h1;refine Q81 (fun (i:Bool)=>QR2 p_ r_ i=R) (fun i=>[(0,AVal.own 0 0 1 0 p_.length),(1,J r_),(4,AVal.lit (.slice none 0 0)),(5,V (wu32 r_)),(25,Bo i)]) (fun i=>[(0,AObj.row 5 1 (p_.map (fun q_=>[Y q_])))]) ?_ ?_
  ·clear hR;rintro i hR;(try dsimp only at hR);apply ai<;>intro h3
   ·refine ai gkA ?_;refine ai gkA ?_;refine Or.inl ?_;(first|refine ⟨Qn1 1 rfl lnA apA,?_⟩|refine ⟨QD0 1 rfl apA,?_⟩);obtain rfl:=foll hR (ct h3 rfl);exact rq (ttA [0])
   ·apply ai<;>intro h5
    ·refine ai gkA ?_;refine ai gkA ?_;refine ai gkA ?_;refine Or.inl ?_;(first|refine ⟨Qn1 1 rfl lnA apA,?_⟩|refine ⟨QD0 1 rfl apA,?_⟩);obtain rfl:=foll hR (cf h3 (ct h5 rfl));exact rq (ttA [0])
    ·refine Or.inl ?_;(first|refine ⟨Qn1 1 rfl lnA apA,?_⟩|refine ⟨QD0 1 rfl apA,?_⟩);obtain rfl:=foll hR (cf h3 (cf h5 rfl));exact rq (ttA [0])
  ·apply ai<;>intro h7
   ·have qh7:=yda h7;exact Q90 (decide ((wu32 r_)<55296)) (wkA [0]) (foll hR (cf h1 (ct h7 rfl)))
   ·have qh7:=yca h7;exact Q90 ((decide (57343<(wu32 r_)))&&(decide ((wu32 r_)<=65535))) (wkA [0]) (foll hR (cf h1 (cf h7 rfl)))
def Qx3 (f:Dep->Bool):List Dep->Nat->Int
 | [],_=>(-1)
 | x_ :: r,i=>bif (f x_) then (i:Int) else Qx3 f r (i+1)
def Qc1 (s:List Dep) (f:Dep->Bool):Int:=Qx3 f s 0
def Qn5 (s2:List Alt):List Alt->Nat->Bool
 | [],_=>true
 | x_ :: r,i=>bif (!((x_.nodes==(s2.getD i zA).nodes)&&(x_.wall==(s2.getD i zA).wall))) then false else Qn5 s2 r (i+1)
def QP6 (s1_:List Alt) (s2:List Alt):Bool:=bif ((s1_.length:Int)!=(s2.length:Int)) then false else Qn5 s2 s1_ 0
theorem QQd (s1_:List Alt) (s2:List Alt) (hs0:s1_.length<=4294967296) (hs1:s2.length<=4294967296):GV 296 [altL s1_,altL s2] (Bo (QP6 s1_ s2)):=by
 generalize hR:QP6 s1_ s2=R;refine gA (kp 6 [10,12,13,14,24]) Tryz.func296 ?_;have hk0:=hs0;obtain z7:s1_.length<=4294967296:=hs0;have hk1:=hs1;obtain z8:s2.length<=4294967296:=hs1;apply ai<;>intro h1
 ·exact lfA
 ·refine Qg0 (fun (i:Nat)=>Qn5 s2 (List.drop i s1_) i=R∧i<=s1_.length) (fun i=>s1_.length - i) (fun i=>[(0,altL s1_),(1,altL s2),(4,Bo false),(12,I (s1_.length:Int)),(13,I (i:Int))]) (fun i=>[]) 0 (wkA []) ⟨folA,by exact omA⟩ ?_;clear hR;rintro i ⟨hR,hj⟩;(try dsimp only at hR hj);apply ai<;>intro h3
  ·have hlt:=ltA h3;rw [Qa0 zA hlt] at hR;refine dchk (by kernel_rfl) ?_;refine ai gkA ?_;refine ai gkA ?_;refine ai (fun _=>(by kernel_rfl:eqOK _ _=true)) ?_;(repeat ((first|refine ai rfl ?_|refine ai (fun _=>rfl) ?_)));apply ai<;>intro h5
   ·exact lfA
   ·exact Qn0 (i+1) (wkA []) omA ⟨folA,by exact omA⟩
  ·rw [Qd0 (l:=s1_) (j:=i) (geA h3)] at hR;exact lfA
def Qo5 (s2:List Dep):List Dep->Nat->Bool
 | [],_=>true
 | x_ :: r,i=>bif (!((x_.how==(s2.getD i zC).how)&&(x_.job==(s2.getD i zC).job))) then false else Qo5 s2 r (i+1)
def QQ6 (s1_:List Dep) (s2:List Dep):Bool:=bif ((s1_.length:Int)!=(s2.length:Int)) then false else Qo5 s2 s1_ 0
theorem QRd (s1_:List Dep) (s2:List Dep) (hs0:s1_.length<=4294967296) (hs1:s2.length<=4294967296):GV 271 [depL s1_,depL s2] (Bo (QQ6 s1_ s2)):=by
 generalize hR:QQ6 s1_ s2=R;refine gA (kp 6 [10,12,13,14,24]) Tryz.func271 ?_;have hk0:=hs0;obtain z7:s1_.length<=4294967296:=hs0;have hk1:=hs1;obtain z8:s2.length<=4294967296:=hs1;apply ai<;>intro h1
 ·exact lfA
 ·refine Qg0 (fun (i:Nat)=>Qo5 s2 (List.drop i s1_) i=R∧i<=s1_.length) (fun i=>s1_.length - i) (fun i=>[(0,depL s1_),(1,depL s2),(4,Bo false),(12,I (s1_.length:Int)),(13,I (i:Int))]) (fun i=>[]) 0 (wkA []) ⟨folA,by exact omA⟩ ?_;clear hR;rintro i ⟨hR,hj⟩;(try dsimp only at hR hj);apply ai<;>intro h3
  ·have hlt:=ltA h3;rw [Qa0 zC hlt] at hR;refine dchk (by kernel_rfl) ?_;refine ai gkA ?_;refine ai gkA ?_;refine ai (fun _=>(by kernel_rfl:eqOK _ _=true)) ?_;(repeat ((first|refine ai rfl ?_|refine ai (fun _=>rfl) ?_)));apply ai<;>intro h5
   ·exact lfA
   ·exact Qn0 (i+1) (wkA []) omA ⟨folA,by exact omA⟩
  ·rw [Qd0 (l:=s1_) (j:=i) (geA h3)] at hR;exact lfA
def QK7 (c:Cmd) (i1:Bool):Cmd:=bif i1 then (⟨c.kind,0,⟨#[]⟩,⟨#[]⟩,⟨#[]⟩,zB,0,false,0,false,[],c.node,0,0⟩:Cmd) else bif (c.kind==10) then (⟨c.kind,0,⟨#[]⟩,⟨#[]⟩,⟨#[]⟩,zB,0,false,c.time,c.hasTime,[],0,c.nodes,c.from_⟩:Cmd) else (⟨c.kind,0,⟨#[]⟩,⟨#[]⟩,⟨#[]⟩,zB,0,false,0,false,[],0,0,0⟩:Cmd)
def QY5 (c:Cmd) (i:Bool):Cmd:=bif i then (⟨c.kind,c.job,⟨#[]⟩,⟨#[]⟩,⟨#[]⟩,zB,0,false,0,false,[],0,0,0⟩:Cmd) else bif (c.kind==5) then (⟨c.kind,c.job,⟨#[]⟩,⟨#[]⟩,⟨#[]⟩,zB,c.prio,c.hasPrio,c.time,c.hasTime,[],0,0,0⟩:Cmd) else bif (c.kind==6) then (⟨c.kind,c.job,⟨#[]⟩,⟨#[]⟩,⟨#[]⟩,zB,0,false,0,false,[],0,c.nodes,0⟩:Cmd) else bif (c.kind==7) then QK7 c (c.kind==7) else bif (c.kind==8) then QK7 c (c.kind==8) else QK7 c (c.kind==9)
def QL8 (c:Cmd):Cmd:=bif (c.kind==1) then { c with job:=0,time:=0,hasTime:=false,node:=0,nodes:=0,from_:=0 } else bif (c.kind==2) then QY5 c (c.kind==2) else bif (c.kind==3) then QY5 c (c.kind==3) else bif (c.kind==4) then QY5 c (c.kind==4) else bif (c.kind==11) then QY5 c (c.kind==11) else QY5 c (c.kind==12)
theorem cmd_bare_c (c:Cmd) (hs0:c.sz):GV 236 [Cmd.a c] (Cmd.a (QL8 c)):=by
 generalize hR:QL8 c=R;refine gA (kj [1000011,1000019] 4 [8,9,32,41,58,66,73]) Tryz.func236 ?_;have hk0:=hs0;obtain ⟨z25,z26,z27,z28,z29⟩:c.name.size<=4294967296∧c.user.size<=4294967296∧c.account.size<=4294967296∧(c.shape.alts.length<=4294967296)∧c.after.length<=4294967296:=hs0;apply ai<;>intro h1
 ·refine dchk (by kernel_rfl) ?_;(repeat ((first|refine ai rfl ?_|refine ai (fun _=>rfl) ?_)));(try (refine dchk (by kernel_rfl) ?_));(repeat ((first|refine ai rfl ?_|refine ai (fun _=>rfl) ?_)));exact lfA
 ·refine Q81 (fun (i:Bool)=>QY5 c i=R) (fun i=>[(1,AVal.ptr 0 0 18 0 0),(2,AVal.ptr 1 0 18 0 0),(3,AVal.ptr 2 0 18 0 0),(8,I c.kind),(32,Bo i)]) (fun i=>[(0,AObj.row 234 18 [[I c.kind,I c.job,Sg c.name,Sg c.user,Sg c.account,I c.shape.kind,altL c.shape.alts,I c.shape.min,I c.shape.max,I c.shape.wall,I c.prio,Bo c.hasPrio,I c.time,Bo c.hasTime,depL c.after,I c.node,I c.nodes,I c.from_]]),(0,AObj.row 234 18 [[I 0,I 0,Sg ⟨#[]⟩,Sg ⟨#[]⟩,Sg ⟨#[]⟩,I 0,AVal.lit (.slice none 0 0),I 0,I 0,I 0,I 0,Bo false,I 0,Bo false,AVal.lit (.slice none 0 0),I 0,I 0,I 0]]),(0,AObj.row 234 18 [[I c.kind,I 0,Sg ⟨#[]⟩,Sg ⟨#[]⟩,Sg ⟨#[]⟩,I 0,AVal.lit (.slice none 0 0),I 0,I 0,I 0,I 0,Bo false,I 0,Bo false,AVal.lit (.slice none 0 0),I 0,I 0,I 0]])]) ?_ ?_
  ·clear hR;rintro i hR;(try dsimp only at hR);apply ai<;>intro h3
   ·exact lfA
   ·apply ai<;>intro h5
    ·refine dchk (by kernel_rfl) ?_;(repeat ((first|refine ai rfl ?_|refine ai (fun _=>rfl) ?_)));exact lfA
    ·apply ai<;>intro h7
     ·refine dchk (by kernel_rfl) ?_;(repeat ((first|refine ai rfl ?_|refine ai (fun _=>rfl) ?_)));exact lfA
     ·refine Q81 (fun (i1:Bool)=>QK7 c i1=R) (fun i1=>[(1,AVal.ptr 0 0 18 0 0),(2,AVal.ptr 1 0 18 0 0),(3,AVal.ptr 2 0 18 0 0),(8,I c.kind),(66,Bo i1)]) (fun i1=>[(0,AObj.row 234 18 [[I c.kind,I c.job,Sg c.name,Sg c.user,Sg c.account,I c.shape.kind,altL c.shape.alts,I c.shape.min,I c.shape.max,I c.shape.wall,I c.prio,Bo c.hasPrio,I c.time,Bo c.hasTime,depL c.after,I c.node,I c.nodes,I c.from_]]),(0,AObj.row 234 18 [[I 0,I 0,Sg ⟨#[]⟩,Sg ⟨#[]⟩,Sg ⟨#[]⟩,I 0,AVal.lit (.slice none 0 0),I 0,I 0,I 0,I 0,Bo false,I 0,Bo false,AVal.lit (.slice none 0 0),I 0,I 0,I 0]]),(0,AObj.row 234 18 [[I c.kind,I 0,Sg ⟨#[]⟩,Sg ⟨#[]⟩,Sg ⟨#[]⟩,I 0,AVal.lit (.slice none 0 0),I 0,I 0,I 0,I 0,Bo false,I 0,Bo false,AVal.lit (.slice none 0 0),I 0,I 0,I 0]])]) ?_ ?_
      ·clear hR;rintro i1 hR;(try dsimp only at hR);apply ai<;>intro h9
       ·exact lfA
       ·apply ai<;>intro h11
        ·refine dchk (by kernel_rfl) ?_;(repeat ((first|refine ai rfl ?_|refine ai (fun _=>rfl) ?_)));exact lfA
        ·exact lfA
      ·apply ai<;>intro h13
       ·exact Q90 (c.kind==7) (wkA [0,1,2]) (foll hR (cf h3 (cf h5 (cf h7 (ct h13 rfl)))))
       ·apply ai<;>intro h15
        ·exact Q90 (c.kind==8) (wkA [0,1,2]) (foll hR (cf h3 (cf h5 (cf h7 (cf h13 (ct h15 rfl))))))
        ·exact Q90 (c.kind==9) (wkA [0,1,2]) (foll hR (cf h3 (cf h5 (cf h7 (cf h13 (cf h15 rfl))))))
  ·apply ai<;>intro h17
   ·exact Q90 (c.kind==2) (wkA [0,1,2]) (foll hR (cf h1 (ct h17 rfl)))
   ·apply ai<;>intro h19
    ·exact Q90 (c.kind==3) (wkA [0,1,2]) (foll hR (cf h1 (cf h17 (ct h19 rfl))))
    ·apply ai<;>intro h21
     ·exact Q90 (c.kind==4) (wkA [0,1,2]) (foll hR (cf h1 (cf h17 (cf h19 (ct h21 rfl)))))
     ·apply ai<;>intro h23
      ·exact Q90 (c.kind==11) (wkA [0,1,2]) (foll hR (cf h1 (cf h17 (cf h19 (cf h21 (ct h23 rfl))))))
      ·exact Q90 (c.kind==12) (wkA [0,1,2]) (foll hR (cf h1 (cf h17 (cf h19 (cf h21 (cf h23 rfl))))))
theorem Q1c (c:Cmd) (b:Bool):(QK7 c b).sz:=by
 cases b <;> simp only [QK7,cond_true,cond_false]
 ·cases (c.kind==10) <;> simp [Cmd.sz,Cmd.szN,Shape.szN,zB,ByteArray.size]
 ·simp [Cmd.sz,Cmd.szN,Shape.szN,zB,ByteArray.size]
theorem Q68 (c:Cmd) (b:Bool):(QY5 c b).sz:=by
 cases b <;> simp only [QY5,cond_true,cond_false]
 ·cases (c.kind==5) <;> simp only [cond_true,cond_false]
  ·cases (c.kind==6) <;> simp only [cond_true,cond_false]
   ·cases (c.kind==7) <;> simp only [cond_true,cond_false]
    ·cases (c.kind==8) <;> simp only [cond_true,cond_false] <;> exact Q1c _ _
    ·exact Q1c _ _
   ·simp [Cmd.sz,Cmd.szN,Shape.szN,zB,ByteArray.size]
  ·simp [Cmd.sz,Cmd.szN,Shape.szN,zB,ByteArray.size]
 ·simp [Cmd.sz,Cmd.szN,Shape.szN,zB,ByteArray.size]
theorem cmd_bare_sz (c:Cmd) (h:c.sz):(QL8 c).sz:=by
 unfold QL8;cases (c.kind==1) <;> simp only [cond_true,cond_false]
 ·cases (c.kind==2) <;> simp only [cond_true,cond_false]
  ·cases (c.kind==3) <;> simp only [cond_true,cond_false]
   ·cases (c.kind==4) <;> simp only [cond_true,cond_false]
    ·cases (c.kind==11) <;> simp only [cond_true,cond_false] <;> exact Q68 _ _
    ·exact Q68 _ _
   ·exact Q68 _ _
  ·exact Q68 _ _
 ·exact h
def Qq0 (v:Job):Cmd:=(⟨1,0,v.name,v.user,v.account,v.shape,v.prio,true,0,false,v.after,0,0,0⟩:Cmd)
theorem Qm8 (v:Job):GV 193 [Job.a v] (Cmd.a (Qq0 v)):=by
 generalize hR:Qq0 v=R;refine gA (kp 3 []) Tryz.func193 ?_;exact lfA
theorem QNd (l:List Alt) (hs0:l.length<=4294967296):GV 200 [altL l] (altL l):=by
 refine AGives.any' (.cons lw .nil) lw (ACalls.of_cwp (fun _=>true) Tryz.func200 rfl rfl ?_);obtain z1:l.length<=4294967296:=hs0;intro b hb;refine ai (fun h1=>?_) (fun h2=>?_)
 ·have hl:l=[]:=by
   rcases l with _|⟨x,r⟩
   ·rfl
   ·exact absurd ((hb (by simp)).symm.trans h1) (by decide)
  subst hl;exact Q3g (fun r:List Alt=>altL r) (leaf:=[]) rfl lw Q30
 ·refine ⟨QD0 16 rfl apA,?_⟩;exact Q3g (fun r:List Alt=>altL r) (leaf:=l) rfl lw (Qe0 zA _ rfl eqA lnA)
theorem QOd (l:List Alt) (hs0:l.length<=4294967296):AMoves Tryz.prog 200 [altL l] [] 0 (AVal.own 0 0 2 0 l.length) [(0,AObj.row 178 2 (l.map Alt.cells))]:=by
 refine AMoves.of_cwp (fun _=>true) Tryz.func200 rfl rfl rfl ?_;obtain z1:l.length<=4294967296:=hs0;intro b hb;refine ai (fun h1=>?_) (fun h2=>?_)
 ·have hl:l=[]:=by
   rcases l with _|⟨x,r⟩
   ·rfl
   ·exact absurd ((hb (by simp)).symm.trans h1) (by decide)
  subst hl;refine Qu0 (fun r:List Alt=>AVal.own 0 0 2 0 r.length) (fun r:List Alt=>[(0,AObj.row 178 2 (r.map Alt.cells))]) (leaf:=[]) rfl ?_;exact Told.pad 178 2 (Q45 [0] rfl (by decide) (tO rfl (tl eqA) .nil) (Q48 0 rfl))
 ·refine ⟨QD0 16 rfl apA,?_⟩;refine Qu0 (fun r:List Alt=>AVal.own 0 0 2 0 r.length) (fun r:List Alt=>[(0,AObj.row 178 2 (r.map Alt.cells))]) (leaf:=l) rfl ?_;exact Q45 [0] rfl (by decide) (tO rfl (tl eqA) .nil) (to 0 lnA)
def Q02 (n:Int):Int:=(wu64 (1*2 ^ (min ((wu64 n).toNat) 64)))
theorem Qp7 (n:Int):GV 71 [I n] (U (Q02 n)):=by
 generalize hR:Q02 n=R;refine gA (kp 3 []) Tryz.func71 ?_;refine ai gkA ?_;exact lfA
def Qf9 (state:Int):Bool:=((decide (state >= 3))&&(decide (state<=7)))
theorem job_ended_c (state:Int):GV 198 [I state] (Bo (Qf9 state)):=by
 generalize hR:Qf9 state=R;refine gA (kp 3 []) Tryz.func198 ?_;exact lfA
def QT9 (b:Book):Bool:=(((((((decide (b.id >= 1))&&(decide (b.id<=99999)))&&(decide (b.from_ >= 0)))&&(decide (b.to > b.from_)))&&(decide (b.to<=1000000)))&&(decide (b.nodes >= 1)))&&(decide (b.nodes<=48)))
theorem Qcg (b:Book):GV 230 [Book.a b] (Bo (QT9 b)):=by
 generalize hR:QT9 b=R;refine gA (kp 3 []) Tryz.func230 ?_;exact lfA
def QT6 (s:ByteArray):Bool:=((decide ((ByteArray.size s:Int) >= 1))&&(decide ((ByteArray.size s:Int)<=64)))
theorem QQ8 (s:ByteArray):GV 179 [Sg s] (Bo (QT6 s)):=by
 generalize hR:QT6 s=R;refine gA (kp 3 []) Tryz.func179 ?_;exact lfA
def Qka :List Int->Nat->Int
 | [],_=>0
 | x_ :: r,i=>bif (x_ != 0) then x_ else Qka r (i+1)
def QFb (vals:List Int):Int:=Qka vals 0
theorem QBe (vals:List Int) (hs0:vals.length<=4294967296):GV 232 [ints vals] (I (QFb vals)):=by
 generalize hR:QFb vals=R;refine gA (kp 6 [6,7,8,9,14]) Tryz.func232 ?_;have hk0:=hs0;obtain z5:vals.length<=4294967296:=hs0;refine Qg0 (fun (i:Nat)=>Qka (List.drop i vals) i=R∧i<=vals.length) (fun i=>vals.length - i) (fun i=>[(2,I 0),(3,I 0),(6,ints vals),(7,I (vals.length:Int)),(8,I (i:Int))]) (fun i=>[]) 0 (wkA []) ⟨foll hR rfl,by exact omA⟩ ?_;clear hR;rintro i ⟨hR,hj⟩;(try dsimp only at hR hj);apply ai<;>intro h1
 ·have hlt:=ltA h1;rw [Qa0 0 hlt] at hR;refine ai gkA ?_;apply ai<;>intro h3
  ·exact lfA
  ·exact Qn0 (i+1) (wkA []) omA ⟨folA,by exact omA⟩
 ·rw [Qd0 (l:=vals) (j:=i) (geA h1)] at hR;exact lfA
def Q64 (x_:ByteArray):Bool:=(!(ByteArray.toList x_==ByteArray.toList x_))
theorem Qu9 (x_:ByteArray):GV 263 [Sg x_] (Bo (Q64 x_)):=by
 generalize hR:Q64 x_=R;refine gA (kp 3 []) Tryz.func263 ?_;exact lfA
def Qp1 (n:Int) (last:Int):Bool:=(((decide (n >= 1))&&(decide (n<=100000)))&&(decide (n > last)))
theorem Q9f (n:Int) (last:Int):GV 75 [I n,I last] (Bo (Qp1 n last)):=by
 generalize hR:Qp1 n last=R;refine gA (kp 5 []) Tryz.func75 ?_;exact lfA
def Qve (l:List Node):(List Node):=l
theorem Qs9 (l:List Node) (hs0:l.length<=4294967296):AMoves Tryz.prog 135 [nodeL l] [] 0 (AVal.own 0 0 7 0 l.length) [(0,AObj.row 55 7 (l.map Node.cells))]:=by
 generalize hR:Qve l=R;refine mo (kp 3 []) Tryz.func135 ?_;have hk0:=hs0;obtain z1:l.length<=4294967296:=hs0;(first|refine ⟨Qn1 56 rfl lnA apA,?_⟩|refine ⟨QD0 56 rfl apA,?_⟩);obtain rfl:=foll hR rfl;exact rq (ttA [0])
def QRf (l:List Job):(List Job):=l
theorem QD9 (l:List Job) (hs0:l.length<=4294967296∧(∀ y ∈ l,y.sz)):AMoves Tryz.prog 136 [jobL l] [] 0 (AVal.own 0 0 20 0 l.length) [(0,AObj.row 72 20 (l.map Job.cells))]:=by
 generalize hR:QRf l=R;refine mo (kp 3 []) Tryz.func136 ?_;obtain ⟨z1,z2⟩:=id hs0;(first|refine ⟨Qn1 216 rfl lnA apA,?_⟩|refine ⟨QD0 216 rfl apA,?_⟩);obtain rfl:=foll hR rfl;exact rq (ttA [0])
def QDc (l:List Resize):(List Resize):=l
theorem Qw8 (l:List Resize) (hs0:l.length<=4294967296):AMoves Tryz.prog 137 [QA1 l] [] 0 (AVal.own 0 0 5 0 l.length) [(0,AObj.row 49 5 (l.map Resize.cells))]:=by
 generalize hR:QDc l=R;refine mo (kp 3 []) Tryz.func137 ?_;have hk0:=hs0;obtain z1:l.length<=4294967296:=hs0;(first|refine ⟨Qn1 40 rfl lnA apA,?_⟩|refine ⟨QD0 40 rfl apA,?_⟩);obtain rfl:=foll hR rfl;exact rq (ttA [0])
def Que (l:List Book):(List Book):=l
theorem Qr9 (l:List Book) (hs0:l.length<=4294967296):AMoves Tryz.prog 138 [bookL l] [] 0 (AVal.own 0 0 4 0 l.length) [(0,AObj.row 122 4 (l.map Book.cells))]:=by
 generalize hR:Que l=R;refine mo (kp 3 []) Tryz.func138 ?_;have hk0:=hs0;obtain z1:l.length<=4294967296:=hs0;(first|refine ⟨Qn1 32 rfl lnA apA,?_⟩|refine ⟨QD0 32 rfl apA,?_⟩);obtain rfl:=foll hR rfl;exact rq (ttA [0])
def QTd (l:List Usage):(List Usage):=l
theorem QI8 (l:List Usage) (hs0:l.length<=4294967296∧(∀ y ∈ l,y.sz)):AMoves Tryz.prog 139 [QI2 l] [] 0 (AVal.own 0 0 4 0 l.length) [(0,AObj.row 138 4 (l.map Usage.cells))]:=by
 generalize hR:QTd l=R;refine mo (kp 3 []) Tryz.func139 ?_;obtain ⟨z1,z2⟩:=id hs0;(first|refine ⟨Qn1 48 rfl lnA apA,?_⟩|refine ⟨QD0 48 rfl apA,?_⟩);obtain rfl:=foll hR rfl;exact rq (ttA [0])
def QPf (l:List Alt):(List Alt):=l
theorem QV5 (l:List Alt) (hs0:l.length<=4294967296):GV 140 [altL l] (altL l):=by
 generalize hR:QPf l=R;refine gA (kp 3 []) Tryz.func140 ?_;have hk0:=hs0;obtain z1:l.length<=4294967296:=hs0;(first|refine ⟨Qn1 16 rfl lnA apA,?_⟩|refine ⟨QD0 16 rfl apA,?_⟩);obtain rfl:=foll hR rfl;exact Qc0 lw (Qe0 zA _ rfl eqA lnA)
def QQf (l:List Dep):(List Dep):=l
theorem QW5 (l:List Dep) (hs0:l.length<=4294967296):GV 141 [depL l] (depL l):=by
 generalize hR:QQf l=R;refine gA (kp 3 []) Tryz.func141 ?_;have hk0:=hs0;obtain z1:l.length<=4294967296:=hs0;(first|refine ⟨Qn1 16 rfl lnA apA,?_⟩|refine ⟨QD0 16 rfl apA,?_⟩);obtain rfl:=foll hR rfl;exact Qc0 lw (Qe0 zC _ rfl eqA lnA)
def Qm0 (x_:List Resize) (target:Int) (cmp:Resize->Int->Int):Nat->Int->Int->Int × Int
 | 0,_,_=>(0,0)
 | m+1,i,j=>bif (decide (i<j)) then bif (decide ((cmp (x_.getD ((w64 (Int.fdiv (wu64 (w64 (i+j))) (2 ^ (min (Int.toNat 1) 64)))).toNat) zH) target)<0)) then Qm0 x_ target cmp m (w64 ((w64 (Int.fdiv (wu64 (w64 (i+j))) (2 ^ (min (Int.toNat 1) 64))))+1)) j else Qm0 x_ target cmp m i (w64 (Int.fdiv (wu64 (w64 (i+j))) (2 ^ (min (Int.toNat 1) 64)))) else (i,j)
def QC0 (x_:List Resize) (target:Int) (cmp:Resize->Int->Int) (i:Int) (j:Int):Int × Bool:=(i,((decide (i<(x_.length:Int)))&&((cmp (x_.getD (i.toNat) zH) target)==0)))
def Q00 (x_:List Resize) (target:Int) (cmp:Resize->Int->Int):Int × Bool:=QC0 x_ target cmp ((Qm0 x_ target cmp ((((x_.length:Int) - 0).toNat)+1) 0 (x_.length:Int)).1) ((Qm0 x_ target cmp ((((x_.length:Int) - 0).toNat)+1) 0 (x_.length:Int)).2)
theorem bsr_in (x_:List Resize) (target:Int) (cmp:Resize->Int->Int) (hn:x_.length<=4294967296):∀ (m:Nat) (i j:Int),0<=i->i<=j->j<=(x_.length:Int)->0<=(Qm0 x_ target cmp m i j).1∧(Qm0 x_ target cmp m i j).1<=(x_.length:Int)
 | 0,_,_,_,_,_=>by simp [Qm0]
 | m+1,i,j,h0,h1,h2=>by
  rw [Qm0];cases hd:decide (i<j) with
  | false=>exact ⟨h0,Int.le_trans h1 h2⟩
  | true =>
   have hlt:=yda hd;rw [Q9b h0 hlt h2 oA];simp only [cond_true];cases decide (cmp (x_.getD (((i+j) / 2).toNat) zH) target<0) with
   | true =>
    have hw:w64 ((i+j) / 2+1)=(i+j) / 2+1:=wr oA;simp only [cond_true];rw [hw];exact bsr_in x_ target cmp hn m _ _ oA oA h2
   | false=>exact bsr_in x_ target cmp hn m _ _ h0 oA oA
theorem bsr_le (l:List Resize) (t:Int) (cmp:Resize->Int->Int) (hn:l.length<=4294967296):0<=(Q00 l t cmp).1∧(Q00 l t cmp).1<=(l.length:Int) :=
 bsr_in l t cmp hn _ _ _ oA oA oA
theorem bsr_lt {l:List Resize} {t:Int} {cmp:Resize->Int->Int} (h:(!(Q00 l t cmp).2)=false):(Q00 l t cmp).1<(l.length:Int):=by
 simp only [Q00,QC0,yyb,yea,yfa] at h;exact h.1
theorem bsr_at {l:List Resize} {t:Int} {cmp:Resize->Int->Int} (h:(!(Q00 l t cmp).2)=false) (hn:l.length<=4294967296):0<=(Q00 l t cmp).1∧(Q00 l t cmp).1<(l.length:Int)∧w64 ((Q00 l t cmp).1+1)=(Q00 l t cmp).1+1:=by
 have h1:=bsr_lt h;have h2:=bsr_le l t cmp hn;exact ⟨h2.1,h1,wr oA⟩
def bsrF (y:Resize) (y1:Int):Int:=w64 (y.job - y1)
theorem bsr_cl:∀ (y1:Resize) (y2:Int),AMoves Tryz.prog 99 [Resize.a y1,I y2] [] 0 (I (bsrF y1 y2)) []:=by
 intro y1 y2;have hR:bsrF y1 y2=bsrF y1 y2:=rfl;refine mo (kp 5 []) Tryz.func99 ?_;refine Qu0 (fun r:Int=>I r) (fun _=>[]) (leaf:=(w64 (y1.job - y2))) (foll hR rfl) ?_;exact tt [] .nil t1
theorem b0b0 {P:Prop} (h:P:=by first|(dsimp only;rw [hh3];omega)|first|(dsimp only;rw [hh];omega)|exact exA):P:=h
theorem bsr_m (l:List Resize) (id_:Int) (z1:l.length<=4294967296):AMoves Tryz.prog 98 [QA1 l,I id_,AVal.fn (.func 99) [] []] [] 0 (AVal.tup [I ((Q00 l id_ bsrF).1),Bo ((Q00 l id_ bsrF).2)]) []:=by
 have hR:Q00 l id_ bsrF=Q00 l id_ bsrF:=rfl;refine mo (kp 12 [17,31]) Tryz.func98 ?_;refine Qb0 (fun (i:Int) (j:Int)=>∃ m,((j - i).toNat)<m∧QC0 l id_ bsrF (Qm0 l id_ bsrF m i j).1 (Qm0 l id_ bsrF m i j).2=Q00 l id_ bsrF∧0<=i∧i<=j∧j<=(l.length:Int)) (fun i j=>((j - i).toNat)) (fun i j=>[(0,QA1 l),(1,I id_),(2,AVal.fn (.func 99) [] []),(6,I 0),(7,Bo false),(8,I (l.length:Int)),(9,I i),(10,I j)]) (fun i j=>[]) 0 (l.length:Int) (wkA []) ⟨_,yCa _,foll hR rfl,b0b0⟩ ?_;clear hR;rintro i j ⟨m,hm,hR,hx⟩;try dsimp only at hR hm hx
 obtain ⟨m,rfl⟩:=sucA m;refine ai (fun h9=>?_) (fun h10=>?_)
 ·have qh9:=yda h9;have hq0:i<j:=qh9;have hh:w64 (Int.fdiv (wu64 (w64 (i+j))) (2 ^ (min (Int.toNat 1) 64)))=(i+j) / 2:=Q9b hx.1 hq0 hx.2.2 oA;have hh3:w64 (w64 (Int.fdiv (wu64 (w64 (i+j))) (2 ^ (min (Int.toNat 1) 64)))+1)=(i+j) / 2+1:=by rw [hh];exact wr oA
  refine And.intro (by first|exact fun hg=>yga (by first|(show 0<=w64 (Int.fdiv (wu64 (w64 (i+j))) (2 ^ (min (Int.toNat 1) 64)))∧w64 (Int.fdiv (wu64 (w64 (i+j))) (2 ^ (min (Int.toNat 1) 64)))<(l.length:Int);rw [hh];omega)|exact ckA)|exact gkA) ?_;refine And.intro (by first|exact fun hg=>yga (by first|(show 0<=w64 (Int.fdiv (wu64 (w64 (i+j))) (2 ^ (min (Int.toNat 1) 64)))∧w64 (Int.fdiv (wu64 (w64 (i+j))) (2 ^ (min (Int.toNat 1) 64)))<(l.length:Int);rw [hh];omega)|exact ckA)|exact gkA) ?_;refine us (mv [] (bsr_cl (l.getD ((w64 (Int.fdiv (wu64 (w64 (i+j))) (2 ^ (min (Int.toNat 1) 64)))).toNat) zH) id_) .nil (dl (Resize.low _ _) (d1 .nil)) .nil rx) ?_;refine ai (fun h11=>?_) (fun h12=>?_)
  ·have qh11:=yda h11;exact Q60 (w64 ((w64 (Int.fdiv (wu64 (w64 (i+j))) (2 ^ (min (Int.toNat 1) 64))))+1)) j (wkA []) (by first|(dsimp only;rw [hh3];omega)|first|(dsimp only;rw [hh];omega)|exact omA) ⟨m,by first|(dsimp only;rw [hh3];omega)|first|(dsimp only;rw [hh];omega)|exact omA,foll hR (congrArg (fun p:Int × Int=>QC0 l id_ bsrF p.1 p.2) (ct h9 (ct h11 rfl))),b0b0⟩
  ·have qh12:=yca h12;exact Q60 i (w64 (Int.fdiv (wu64 (w64 (i+j))) (2 ^ (min (Int.toNat 1) 64)))) (wkA []) (by first|(dsimp only;rw [hh3];omega)|first|(dsimp only;rw [hh];omega)|exact omA) ⟨m,by first|(dsimp only;rw [hh3];omega)|first|(dsimp only;rw [hh];omega)|exact omA,foll hR (congrArg (fun p:Int × Int=>QC0 l id_ bsrF p.1 p.2) (ct h9 (cf h12 rfl))),b0b0⟩
 ·have qh10:=yca h10
  replace hR:QC0 l id_ bsrF i j=Q00 l id_ bsrF:=fo2 (fun p:Int × Int=>QC0 l id_ bsrF p.1 p.2) (i,j) hR (cf h10 rfl)
  refine And.intro (by first|exact fun hg=>yga (by first|(show 0<=w64 (Int.fdiv (wu64 (w64 (i+j))) (2 ^ (min (Int.toNat 1) 64)))∧w64 (Int.fdiv (wu64 (w64 (i+j))) (2 ^ (min (Int.toNat 1) 64)))<(l.length:Int);rw [hh];omega)|exact ckA)|exact gkA) ?_
  (first|apply u2|apply u3|apply u4|apply us);exact mv [] (bsr_cl (l.getD (i.toNat) zH) id_) .nil (dl (Resize.low _ _) (d1 .nil)) .nil rx
  refine Qu0 (fun r:Int × Bool=>AVal.tup [I r.1,Bo r.2]) (fun r:Int × Bool=>[]) (leaf:=(i,((decide (i<(l.length:Int)))&&((bsrF (l.getD (i.toNat) zH) id_)==0)))) (foll hR rfl) ?_;exact tt [] .nil (turn_tup (c1 (c1 .nil)))
theorem bsr_c (l:List Resize) (id_:Int) (z1:l.length<=4294967296) (objs:Objs):AGives Tryz.prog 98 [QA1 l,I id_,AVal.fn (.func 99) [] []] objs (AVal.tup [I ((Q00 l id_ bsrF).1),Bo ((Q00 l id_ bsrF).2)]):=by
 refine AGives.any' (.cons lw (l1 (.cons (Low.fn _ _ _ LowL.nil LowL.nil) .nil))) (Low.tup' (l1 (l1 .nil))) ?_ objs;have h:=bsr_m l id_ z1;unfold AGives ACalls;unfold AMoves at h;intro K w vs hm hr;refine (h K w vs hm hr).mono ?_;rintro e w' ⟨v,K',he,hle,hm',hv⟩;have hn:K.n=0:=hm.len.symm;refine ⟨v,_,_,K',he,⟨hle.M,fun o v h=>absurd h oA,fun o v h=>absurd h oA,by omega,fun o h=>absurd h oA,hle.w0,hle.B,hle.M0⟩,hm',hv,rfl,rfl⟩
def Qf6 (id_:Int):Bool:=((decide (id_ >= 1))&&(decide (id_<=99999)))
theorem table_known_c (id_:Int):GV 126 [I id_] (Bo (Qf6 id_)):=by
 generalize hR:Qf6 id_=R;refine gA (kp 3 []) Tryz.func126 ?_;exact lfA
def Qs0 (x_:List Job) (target:Int) (cmp:Job->Int->Int):Nat->Int->Int->Int × Int
 | 0,_,_=>(0,0)
 | m+1,i,j=>bif (decide (i<j)) then bif (decide ((cmp (x_.getD ((w64 (Int.fdiv (wu64 (w64 (i+j))) (2 ^ (min (Int.toNat 1) 64)))).toNat) zG) target)<0)) then Qs0 x_ target cmp m (w64 ((w64 (Int.fdiv (wu64 (w64 (i+j))) (2 ^ (min (Int.toNat 1) 64))))+1)) j else Qs0 x_ target cmp m i (w64 (Int.fdiv (wu64 (w64 (i+j))) (2 ^ (min (Int.toNat 1) 64)))) else (i,j)
def Q11 (x_:List Job) (target:Int) (cmp:Job->Int->Int) (i:Int) (j:Int):Int × Bool:=(i,((decide (i<(x_.length:Int)))&&((cmp (x_.getD (i.toNat) zG) target)==0)))
def QP0 (x_:List Job) (target:Int) (cmp:Job->Int->Int):Int × Bool:=Q11 x_ target cmp ((Qs0 x_ target cmp ((((x_.length:Int) - 0).toNat)+1) 0 (x_.length:Int)).1) ((Qs0 x_ target cmp ((((x_.length:Int) - 0).toNat)+1) 0 (x_.length:Int)).2)
def QVf (l:List Job):(List Job):=l
theorem QE9 (l:List Job) (hs0:l.length<=4294967296∧(∀ y ∈ l,y.sz)):AMoves Tryz.prog 187 [jobL l] [] 0 (AVal.own 0 0 20 0 l.length) [(0,AObj.row 72 20 (l.map Job.cells))]:=by
 generalize hR:QVf l=R;refine mo (kp 3 []) Tryz.func187 ?_;obtain ⟨z1,z2⟩:=id hs0;refine ai gkA ?_;(first|refine ⟨Qn1 216 rfl lnA apA,?_⟩|refine ⟨QD0 216 rfl apA,?_⟩);obtain rfl:=foll hR rfl;exact rq (ttA [0])
def QTf (l:List Alt):(List Alt):=l
theorem QVd (l:List Alt) (hs0:l.length<=4294967296):GV 188 [altL l] (altL l):=by
 generalize hR:QTf l=R;refine gA (kp 3 []) Tryz.func188 ?_;have hk0:=hs0;obtain z1:l.length<=4294967296:=hs0;refine ai gkA ?_;(first|refine ⟨Qn1 16 rfl lnA apA,?_⟩|refine ⟨QD0 16 rfl apA,?_⟩);obtain rfl:=foll hR rfl;exact Qc0 lw (Qe0 zA _ rfl eqA lnA)
def QUf (l:List Dep):(List Dep):=l
theorem QWd (l:List Dep) (hs0:l.length<=4294967296):GV 189 [depL l] (depL l):=by
 generalize hR:QUf l=R;refine gA (kp 3 []) Tryz.func189 ?_;have hk0:=hs0;obtain z1:l.length<=4294967296:=hs0;refine ai gkA ?_;(first|refine ⟨Qn1 16 rfl lnA apA,?_⟩|refine ⟨QD0 16 rfl apA,?_⟩);obtain rfl:=foll hR rfl;exact Qc0 lw (Qe0 zC _ rfl eqA lnA)
def QO2 (n:Int):Bool:=((decide (n >= (-1000000)))&&(decide (n<=1000000)))
theorem QJ9 (n:Int):GV 142 [I n] (Bo (QO2 n)):=by
 generalize hR:QO2 n=R;refine gA (kp 3 []) Tryz.func142 ?_;exact lfA
def QW2 (t:Int):Bool:=((decide (t >= 0))&&(decide (t<=1000000)))
theorem QQe (t:Int):GV 132 [I t] (Bo (QW2 t)):=by
 generalize hR:QW2 t=R;refine gA (kp 3 []) Tryz.func132 ?_;exact lfA
theorem Qvd {t n:Int} {b:Bool} (h:(((!(QW2 t))||(decide (n<t)))||b)=false):0<=t:=by
 simp [QW2] at h;omega
def Qf1 (f:Int->Bool):Nat->Int->Int->Int × Int
 | 0,_,_=>(0,0)
 | m+1,i,j=>bif (decide (i<j)) then bif (!(f (w64 (Int.fdiv (wu64 (w64 (i+j))) (2 ^ (min (Int.toNat 1) 64)))))) then Qf1 f m (w64 ((w64 (Int.fdiv (wu64 (w64 (i+j))) (2 ^ (min (Int.toNat 1) 64))))+1)) j else Qf1 f m i (w64 (Int.fdiv (wu64 (w64 (i+j))) (2 ^ (min (Int.toNat 1) 64)))) else (i,j)
def QP5 (i:Int) (j:Int):Int:=i
def QW1 (n:Int) (f:Int->Bool):Int:=QP5 ((Qf1 f (((n - 0).toNat)+1) 0 n).1) ((Qf1 f (((n - 0).toNat)+1) 0 n).2)
theorem QQ9 (f:Int->Bool) {N:Nat} (hN:N<=4294967296):∀ (m:Nat) (i j:Int),0<=i->i<=j->j<=N->(j - i).toNat<m->i<=(Qf1 f m i j).1∧(Qf1 f m i j).1<=j∧(i<(Qf1 f m i j).1->f ((Qf1 f m i j).1 - 1)=false)∧((Qf1 f m i j).1<j->f (Qf1 f m i j).1=true)
 | 0,_,_,_,_,_,hm=>absurd hm (ygc _)
 | m+1,i,j,h0,hij,hj,hm=>by
  unfold Qf1;cases hc:decide (i<j) with
  | false =>
   have:=yca hc;simp only [cond_false];exact ⟨yUa _,by omega,fun h=>absurd h oA,fun h=>absurd h oA⟩
  | true =>
   have hlt:=yda hc;have hh:w64 (Int.fdiv (wu64 (w64 (i+j))) (2 ^ (min (Int.toNat 1) 64)))=(i+j) / 2:=Q9b h0 hlt hj oA;have hw:w64 ((i+j) / 2+1)=(i+j) / 2+1:=wr oA;simp only [cond_true,hh,hw];cases hf:f ((i+j) / 2) with
   | false =>
    simp only [yJb,cond_true];obtain ⟨a,b,c,d⟩:=QQ9 f hN m ((i+j) / 2+1) j oA oA hj oA;refine ⟨by omega,b,fun _=>?_,d⟩
    by_cases h:(i+j) / 2+1<(Qf1 f m ((i+j) / 2+1) j).1
    ·exact c h
    ·rw [show (Qf1 f m ((i+j) / 2+1) j).1 - 1=(i+j) / 2 by omega];exact hf
   | true =>
    simp only [yib,cond_false];obtain ⟨a,b,c,d⟩:=QQ9 f hN m i ((i+j) / 2) h0 oA oA oA;refine ⟨a,by omega,c,fun h=>?_⟩
    by_cases h2:(Qf1 f m i ((i+j) / 2)).1<(i+j) / 2
    ·exact d h2
    ·rw [show (Qf1 f m i ((i+j) / 2)).1=(i+j) / 2 by omega];exact hf
theorem QRa (f:Int->Bool) {N:Nat} (hN:N<=4294967296):0<=QW1 (N:Int) f∧QW1 (N:Int) f<=N∧(0<QW1 (N:Int) f->f (QW1 (N:Int) f - 1)=false)∧(QW1 (N:Int) f<N->f (QW1 (N:Int) f)=true) :=
 QQ9 f hN _ 0 N (yUa _) oA (yUa _) oA
def Qw5 (n:Int) (from_:Int) (to_:Int):Bool:=((decide (n >= from_))&&(decide (n<=to_)))
theorem Q0b (n:Int) (from_:Int) (to_:Int):GV 89 [I n,I from_,I to_] (Bo (Qw5 n from_ to_)):=by
 generalize hR:Qw5 n from_ to_=R;refine gA (kp 7 []) Tryz.func89 ?_;exact lfA
theorem QCc (l:List Step) (hs0:l.length<=4294967296):AMoves Tryz.prog 207 [stepL l] [] 0 (AVal.own 0 0 2 0 l.length) [(0,AObj.row 182 2 (l.map Step.cells))]:=by
 refine AMoves.of_cwp (fun _=>true) Tryz.func207 rfl rfl rfl ?_;obtain z4:l.length<=4294967296:=hs0;intro b hb;refine ai (fun h1=>?_) (fun h2=>?_)
 ·have hl:l=[]:=by
   rcases l with _|⟨x,r⟩
   ·rfl
   ·exact absurd ((hb (by simp)).symm.trans h1) (by decide)
  subst hl;refine Qu0 (fun r:List Step=>AVal.own 0 0 2 0 r.length) (fun r:List Step=>[(0,AObj.row 182 2 (r.map Step.cells))]) (leaf:=[]) rfl ?_;exact Told.pad 182 2 (Q45 [0] rfl (by decide) (tO rfl (tl eqA) .nil) (Q48 0 rfl))
 ·refine ⟨QD0 16 rfl apA,?_⟩;refine Qu0 (fun r:List Step=>AVal.own 0 0 2 0 r.length) (fun r:List Step=>[(0,AObj.row 182 2 (r.map Step.cells))]) (leaf:=l) rfl ?_;exact Q45 [0] rfl (by decide) (tO rfl (tl eqA) .nil) (to 0 lnA)
def Q61 (at_:Int) (free:Int) (out:List Step):List Step:=bif (((out.length:Int)==0)||((out.getD ((w64 ((out.length:Int) - 1)).toNat) zE).free != free)) then (out++([(⟨at_,free⟩:Step)]:List Step)) else out
theorem Q84 (at_:Int) (free:Int) (out:List Step) (hs0:out.length<=4294967296):AMoves Tryz.prog 208 [I at_,I free,AVal.ptr 0 0 1 0 0] [(0,AObj.row 82 1 [[AVal.own 1 0 2 0 out.length]]),(0,AObj.row 182 2 (out.map Step.cells))] 1 (AVal.tup []) [(0,AObj.row 82 1 [[AVal.own 1 0 2 0 (Q61 at_ free out).length]]),(0,AObj.row 182 2 ((Q61 at_ free out).map Step.cells))]:=by
 generalize hR:Q61 at_ free out=R;refine mo (kp 6 [19]) Tryz.func208 ?_;have hk0:=hs0;obtain z3:out.length<=4294967296:=hs0;refine ai gkA ?_;refine ⟨_,fun hg=>QL0 rfl rfl rfl (Qa1 zE ((w64 ((out.length:Int) - 1)).toNat) (by first|rfl|exact yma _|omega) ckA) rfl,?_⟩;apply ai<;>intro h1
 ·refine Or.inl ?_;(first|refine ⟨Qn1 16 rfl lnA apA,?_⟩|refine ⟨QD0 16 rfl apA,?_⟩);obtain rfl:=foll hR (ct h1 rfl);exact rq (ttA [0,1])
 ·obtain rfl:=foll hR (cf h1 rfl);exact rq (ttA [0,1])
theorem Qh4 (a f:Int) (out:List Step):(Q61 a f out).length<=out.length+1:=by
 unfold Q61;cases (((out.length:Int)==0)||((out.getD ((w64 ((out.length:Int) - 1)).toNat) zE).free != f)) with
 | true=>simp
 | false=>simp
def QN2 (n:Int):(List Step):=([(⟨0,(min (max n (-1000000)) 1000000)⟩:Step)]:List Step)
theorem profile_Flat_c (n:Int):GV 143 [I n] (stepL (QN2 n)):=by
 generalize hR:QN2 n=R;refine gA (kp 3 []) Tryz.func143 ?_;refine Or.inl ?_;obtain rfl:=foll hR rfl;exact Qc0 lw (QBh (QX5 (c:=Step.cells) (d:=zE) ([(⟨0,(min (max n (-1000000)) 1000000)⟩:Step)]:List Step) rfl))
def Qj2 :List Job->Nat->List (Int × Int)->(List (Int × Int))
 | [],_,c=>c
 | x_ :: r,i,c=>bif (x_.state==2) then Qj2 r (i+1) (setM x_.id x_.limit c) else Qj2 r (i+1) c
def QN5 (c:List (Int × Int)):(List (Int × Int)):=c
def Qw0 (l:List Job):(List (Int × Int)):=QN5 (Qj2 l 0 [])
theorem room_limits_o (l:List Job) (hs0:l.length<=4294967296∧(∀ y ∈ l,y.sz)):AMoves Tryz.prog 145 [jobL l] [] 0 (AVal.map 0) [(0,AObj.other (.map (mapEs ik I 0 (Qw0 l)) (Qw0 l).length))]:=by
 generalize hR:Qw0 l=R;refine mo (kp 6 [7,8,9,10,15]) Tryz.func145 ?_;obtain ⟨z10,z11⟩:=id hs0;refine Qb0 (fun (i:Nat) (c:List (Int × Int))=>QN5 (Qj2 (List.drop i l) i c)=R∧i<=l.length) (fun i c=>l.length - i) (fun i c=>[(2,AVal.lit (.map none)),(3,AVal.map 0),(7,jobL l),(8,I (l.length:Int)),(9,I (i:Int))]) (fun i c=>[(0,AObj.other (.map (mapEs ik I 0 c) c.length))]) 0 [] (wkA [0]) ⟨foll hR rfl,by exact omA⟩ ?_;clear hR;rintro i c ⟨hR,hj⟩;(try dsimp only at hR hj);apply ai<;>intro h1
 ·have hlt:=ltA h1;rw [Qa0 zG hlt] at hR;have hxz:(l.getD i zG).sz:=Qp4 (by first|assumption|grind) (Job.szz _);have hkz:=hxz;obtain ⟨z3,z4,z5,z6,z7⟩:=Job.zz hxz;refine ai gkA ?_;apply ai<;>intro h8
  ·refine ⟨_,_,QX1 rfl _ _,Qwd (ek:=ik) ((l.getD i zG).id) ((l.getD i zG).limit) c rfl rfl,?_⟩;exact Q60 (i+1) (setM (l.getD i zG).id (l.getD i zG).limit c) (wkA [0]) omA ⟨foll hR (congrArg (fun p:(List (Int × Int))=>QN5 p) (ct h8 rfl)),by exact omA⟩
  ·exact Q60 (i+1) c (wkA [0]) omA ⟨foll hR (congrArg (fun p:(List (Int × Int))=>QN5 p) (cf h8 rfl)),by exact omA⟩
 ·rw [Qd0 (l:=l) (j:=i) (geA h1)] at hR;replace hR:QN5 c=R:=fo2 (fun p:(List (Int × Int))=>QN5 p) (c) hR rfl;obtain rfl:=foll hR rfl;exact rq (ttA [0])
def QT0 (x_:Node) (limits:List (Int × Int)):Int:=bif (((x_.state==0)||(x_.state==4))||x_.drain) then 0 else bif (x_.state==3) then (w64 (x_.since+12)) else bif (!(getM x_.job limits).isSome) then 1000001 else (w64 (((getM x_.job limits).getD 0)+12))
theorem room_until_c (x_:Node) (limits:List (Int × Int)):AMoves Tryz.prog 146 [Node.a x_,AVal.map 0] [(0,AObj.other (.map (mapEs ik I 0 limits) limits.length))] 1 (I (QT0 x_ limits)) [(0,AObj.other (.map (mapEs ik I 0 limits) limits.length))]:=by
 generalize hR:QT0 x_ limits=R;refine mo (kp 7 [7,20,35]) Tryz.func146 ?_;apply ai<;>intro h1
 ·obtain rfl:=foll hR (ct h1 rfl);exact rq (ttA [0])
 ·apply ai<;>intro h3
  ·obtain rfl:=foll hR (cf h1 (ct h3 rfl));exact rq (ttA [0])
  ·(first|refine ⟨_,_,QX1 rfl _ _,QY1 (ek:=ik) x_.job limits 0 (AsA.refl _),?_⟩|refine ⟨_,fun _=>⟨_,_,QX1 rfl _ _,QY1 (ek:=ik) x_.job limits 0 (AsA.refl _),rfl,rfl⟩,?_⟩|refine ⟨_,rfl,⟨_,_,QX1 rfl _ _,QY1 (ek:=ik) x_.job limits 0 (AsA.refl _),Sub.refl _,rfl⟩,?_⟩);apply ai<;>intro h5
   ·obtain rfl:=foll hR (cf h1 (cf h3 (ct h5 rfl)));exact rq (ttA [0])
   ·obtain rfl:=foll hR (cf h1 (cf h3 (cf h5 rfl)));exact rq (ttA [0])
def Q3b (x_:Node) (i2:Bool):Bool:=bif i2 then (x_.state != 4) else false
def Q2b (x_:Node) (act:Int) (i1:Bool):Bool:=bif i1 then ((x_.state==1)||(x_.state==2)) else bif (act==5) then ((x_.state==1)&&(x_.want==0)) else bif (act==6) then ((x_.state==1)&&(x_.want==4)) else bif (act==8) then (x_.state==3) else bif (act==9) then ((x_.state != 4)&&(decide (x_.epoch<999999999))) else bif (act==10) then (x_.state==4) else bif (act==11) then ((x_.state==4)&&(x_.want==6)) else bif (act==12) then Q3b x_ (act==12) else Q3b x_ (act==13)
def Q1b (x_:Node) (act:Int) (job:Int) (i:Bool):Bool:=bif i then (((((x_.state==0)&&(!x_.drain))&&(decide (x_.epoch<999999999)))&&(decide (job >= 1)))&&(decide (job<=99999))) else bif (act==3) then (x_.state==2) else bif (act==4) then Q2b x_ act (act==4) else Q2b x_ act (act==7)
def QS4 (x_:Node) (act:Int) (job:Int):Bool:=bif (act==1) then Q1b x_ act job (act==1) else Q1b x_ act job (act==2)
theorem fleet_may_c (x_:Node) (act:Int) (job:Int):GV 211 [Node.a x_,I act,I job] (Bo (QS4 x_ act job)):=by
 generalize hR:QS4 x_ act job=R;refine gA (kj [1000005,1000010,1000025] 8 [16,17,41,46,50,60,70,75,85,90,100]) Tryz.func211 ?_;refine Q81 (fun (i:Bool)=>Q1b x_ act job i=R) (fun i=>[(2,I job),(3,AVal.ptr 0 0 7 0 0),(6,Bo false),(7,Bo ((x_.state==1)||(x_.state==2))),(16,I act),(17,Bo i)]) (fun i=>[(0,AObj.row 55 7 [[I x_.state,I x_.job,I x_.epoch,Bo x_.drain,I x_.want,I x_.since,I x_.asked]])]) ?_ ?_
 ·clear hR;rintro i hR;(try dsimp only at hR);apply ai<;>intro h1
  ·exact lfA
  ·apply ai<;>intro h3
   ·exact lfA
   ·refine Q81 (fun (i1:Bool)=>Q2b x_ act i1=R) (fun i1=>[(3,AVal.ptr 0 0 7 0 0),(6,Bo false),(7,Bo ((x_.state==1)||(x_.state==2))),(16,I act),(46,Bo i1)]) (fun i1=>[(0,AObj.row 55 7 [[I x_.state,I x_.job,I x_.epoch,Bo x_.drain,I x_.want,I x_.since,I x_.asked]])]) ?_ ?_
    ·clear hR;rintro i1 hR;(try dsimp only at hR);apply ai<;>intro h5
     ·exact lfA
     ·apply ai<;>intro h7
      ·exact lfA
      ·apply ai<;>intro h9
       ·exact lfA
       ·apply ai<;>intro h11
        ·exact lfA
        ·apply ai<;>intro h13
         ·exact lfA
         ·apply ai<;>intro h15
          ·exact lfA
          ·apply ai<;>intro h17
           ·exact lfA
           ·refine Q81 (fun (i2:Bool)=>Q3b x_ i2=R) (fun i2=>[(3,AVal.ptr 0 0 7 0 0),(6,Bo false),(100,Bo i2)]) (fun i2=>[(0,AObj.row 55 7 [[I x_.state,I x_.job,I x_.epoch,Bo x_.drain,I x_.want,I x_.since,I x_.asked]])]) ?_ ?_
            ·clear hR;rintro i2 hR;(try dsimp only at hR);apply ai<;>intro h19
             ·exact lfA
             ·exact lfA
            ·apply ai<;>intro h21
             ·exact Q90 (act==12) (wkA [0]) (foll hR (cf h5 (cf h7 (cf h9 (cf h11 (cf h13 (cf h15 (cf h17 (ct h21 rfl)))))))))
             ·exact Q90 (act==13) (wkA [0]) (foll hR (cf h5 (cf h7 (cf h9 (cf h11 (cf h13 (cf h15 (cf h17 (cf h21 rfl)))))))))
    ·apply ai<;>intro h23
     ·exact Q90 (act==4) (wkA [0]) (foll hR (cf h1 (cf h3 (ct h23 rfl))))
     ·exact Q90 (act==7) (wkA [0]) (foll hR (cf h1 (cf h3 (cf h23 rfl))))
 ·apply ai<;>intro h25
  ·exact Q90 (act==1) (wkA [0]) (foll hR (ct h25 rfl))
  ·exact Q90 (act==2) (wkA [0]) (foll hR (cf h25 rfl))
theorem QBc (l:List Node) (hs0:l.length<=4294967296):AMoves Tryz.prog 212 [nodeL l] [] 0 (AVal.own 0 0 7 0 l.length) [(0,AObj.row 55 7 (l.map Node.cells))]:=by
 refine AMoves.of_cwp (fun _=>true) Tryz.func212 rfl rfl rfl ?_;obtain z27:l.length<=4294967296:=hs0;intro b hb;refine ai (fun h1=>?_) (fun h2=>?_)
 ·have hl:l=[]:=by
   rcases l with _|⟨x,r⟩
   ·rfl
   ·exact absurd ((hb (by simp)).symm.trans h1) (by decide)
  subst hl;refine Qu0 (fun r:List Node=>AVal.own 0 0 7 0 r.length) (fun r:List Node=>[(0,AObj.row 55 7 (r.map Node.cells))]) (leaf:=[]) rfl ?_;exact Told.pad 55 7 (Q45 [0] rfl (by decide) (tO rfl (tl eqA) .nil) (Q48 0 rfl))
 ·refine ⟨QD0 56 rfl apA,?_⟩;refine Qu0 (fun r:List Node=>AVal.own 0 0 7 0 r.length) (fun r:List Node=>[(0,AObj.row 55 7 (r.map Node.cells))]) (leaf:=l) rfl ?_;exact Q45 [0] rfl (by decide) (tO rfl (tl eqA) .nil) (to 0 lnA)
def Qqa (x_:Node) (act:Int):Node:=bif (act==12) then bif (act==12) then { x_ with drain:=(act==12) } else x_ else bif (act==13) then { x_ with drain:=(act==12) } else x_
def QF0 (x_:Node) (act:Int) (job:Int) (now:Int):Node:=bif (act==1) then (⟨1,job,(w64 (x_.epoch+1)),x_.drain,1,now,now⟩:Node) else bif (act==2) then (⟨2,job,(w64 (x_.epoch+1)),x_.drain,2,now,now⟩:Node) else bif (act==3) then (⟨1,x_.job,x_.epoch,x_.drain,3,now,now⟩:Node) else bif (act==5) then { x_ with want:=4,since:=now,asked:=now } else bif (act==7) then (⟨3,x_.job,x_.epoch,x_.drain,5,now,now⟩:Node) else bif (act==9) then (⟨4,0,(w64 (x_.epoch+1)),x_.drain,0,x_.since,x_.asked⟩:Node) else bif (act==10) then { x_ with want:=6,since:=now,asked:=now } else bif (act==11) then (⟨0,0,x_.epoch,false,0,x_.since,x_.asked⟩:Node) else bif (act==8) then { x_ with state:=0,job:=0,want:=0 } else bif (act==4) then bif (act==4) then { x_ with want:=0 } else Qqa x_ act else bif (act==6) then { x_ with want:=0 } else Qqa x_ act
theorem fleet_done_c (x_:Node) (act:Int) (job:Int) (now:Int):GV 213 [Node.a x_,I act,I job,I now] (Node.a (QF0 x_ act job now)):=by
 generalize hR:QF0 x_ act job now=R;refine AGives.any' (.cons (Node.low _ _) (l1 (l1 (l1 .nil)))) (Node.low _ _) (ACalls.of_cwp (kj [1000014] 10 [11,12,14,16,18,20,22,24,26,28,30,33]) Tryz.func213 rfl rfl ?_);(conv=>whnf);refine And.intro (fun h1=>?_) (fun h2=>?_)
 ·(conv=>whnf);refine ACalls.of_cwp (fun _=>true) Tryz.func255 rfl rfl ?_;(conv=>whnf);refine dchk (by kernel_rfl) ?_;(conv=>whnf);(repeat ((first|refine And.intro rfl ?_|refine And.intro (fun _=>rfl) ?_);conv=>whnf));refine ⟨_,_,Told.refl,?_⟩;(conv=>whnf);exact lfA
 ·(conv=>whnf);refine And.intro (fun h3=>?_) (fun h4=>?_)
  ·(conv=>whnf);refine ACalls.of_cwp (fun _=>true) Tryz.func255 rfl rfl ?_;(conv=>whnf);refine dchk (by kernel_rfl) ?_;(conv=>whnf);(repeat ((first|refine And.intro rfl ?_|refine And.intro (fun _=>rfl) ?_);conv=>whnf));refine ⟨_,_,Told.refl,?_⟩;(conv=>whnf);exact lfA
  ·(conv=>whnf);refine And.intro (fun h5=>?_) (fun h6=>?_)
   ·(conv=>whnf);refine ACalls.of_cwp (fun _=>true) Tryz.func255 rfl rfl ?_;(conv=>whnf);refine dchk (by kernel_rfl) ?_;(conv=>whnf);(repeat ((first|refine And.intro rfl ?_|refine And.intro (fun _=>rfl) ?_);conv=>whnf));refine ⟨_,_,Told.refl,?_⟩;(conv=>whnf);exact lfA
   ·(conv=>whnf);refine And.intro (fun h7=>?_) (fun h8=>?_)
    ·(conv=>whnf);refine ACalls.of_cwp (fun _=>true) Tryz.func255 rfl rfl ?_;(conv=>whnf);refine dchk (by kernel_rfl) ?_;(conv=>whnf);(repeat ((first|refine And.intro rfl ?_|refine And.intro (fun _=>rfl) ?_);conv=>whnf));refine ⟨_,_,Told.refl,?_⟩;(conv=>whnf);exact lfA
    ·(conv=>whnf);refine And.intro (fun h9=>?_) (fun h10=>?_)
     ·(conv=>whnf);refine ACalls.of_cwp (fun _=>true) Tryz.func255 rfl rfl ?_;(conv=>whnf);refine dchk (by kernel_rfl) ?_;(conv=>whnf);(repeat ((first|refine And.intro rfl ?_|refine And.intro (fun _=>rfl) ?_);conv=>whnf));refine ⟨_,_,Told.refl,?_⟩;(conv=>whnf);exact lfA
     ·(conv=>whnf);refine And.intro (fun h11=>?_) (fun h12=>?_)
      ·(conv=>whnf);exact lfA
      ·(conv=>whnf);refine And.intro (fun h13=>?_) (fun h14=>?_)
       ·(conv=>whnf);refine ACalls.of_cwp (fun _=>true) Tryz.func255 rfl rfl ?_;(conv=>whnf);refine dchk (by kernel_rfl) ?_;(conv=>whnf);(repeat ((first|refine And.intro rfl ?_|refine And.intro (fun _=>rfl) ?_);conv=>whnf));refine ⟨_,_,Told.refl,?_⟩;(conv=>whnf);exact lfA
       ·(conv=>whnf);refine And.intro (fun h15=>?_) (fun h16=>?_)
        ·(conv=>whnf);exact lfA
        ·(conv=>whnf);refine And.intro (fun h17=>?_) (fun h18=>?_)
         ·(conv=>whnf);exact lfA
         ·(conv=>whnf);refine join_start (X:=Unit) (fun _=>Qqa x_ act  = R) (fun _=>[(1,I act),(2,I job),(4,AVal.ptr 0 0 7 0 0),(8,AVal.ptr 2 0 7 0 0),(9,AVal.fn (.func 255) [] [AVal.ptr 1 0 1 0 0,AVal.ptr 0 0 7 0 0]),(11,I act)]) (fun _=>[(0,AObj.row 55 7 [[I x_.state,I x_.job,I x_.epoch,Bo x_.drain,I x_.want,I x_.since,I x_.asked]]),(0,AObj.row 3 1 [[I now]]),(0,AObj.row 55 7 [[I 0,I 0,I 0,Bo false,I 0,I 0,I 0]])]) ?_ ?_
          ·clear hR;rintro _ hR;(try dsimp only at hR);(conv=>whnf);refine And.intro (fun h19=>?_) (fun h20=>?_)
           ·(conv=>whnf);refine And.intro (fun h21=>?_) (fun h22=>?_)
            ·(conv=>whnf);exact lfA
            ·(conv=>whnf);obtain rfl:=foll hR (ct h19 (cf h22 rfl));exact Qc0 (Node.low _ _) sr
           ·(conv=>whnf);refine And.intro (fun h23=>?_) (fun h24=>?_)
            ·(conv=>whnf);exact lfA
            ·(conv=>whnf);exact lfA
          ·(conv=>whnf);refine And.intro (fun h25=>?_) (fun h26=>?_)
           ·(conv=>whnf);refine And.intro (fun h27=>?_) (fun h28=>?_)
            ·(conv=>whnf);exact lfA
            ·(conv=>whnf);exact QDg () (wkA [0,1,2]) (foll hR (cf h2 (cf h4 (cf h6 (cf h8 (cf h10 (cf h12 (cf h14 (cf h16 (cf h18 (ct h25 (cf h28 rfl))))))))))))
           ·(conv=>whnf);refine And.intro (fun h29=>?_) (fun h30=>?_)
            ·(conv=>whnf);exact lfA
            ·(conv=>whnf);exact QDg () (wkA [0,1,2]) (foll hR (cf h2 (cf h4 (cf h6 (cf h8 (cf h10 (cf h12 (cf h14 (cf h16 (cf h18 (cf h26 (cf h30 rfl))))))))))))
def QA3 (i:Bool):Bool:=bif i then true else false
def QW3 (act:Int):Bool:=bif (act==1) then QA3 (act==1) else bif (act==2) then QA3 (act==2) else bif (act==3) then QA3 (act==3) else bif (act==5) then QA3 (act==5) else bif (act==7) then QA3 (act==7) else QA3 (act==10)
theorem alloc_sends_c (act:Int):GV 157 [I act] (Bo (QW3 act)):=by
 generalize hR:QW3 act=R;refine gA (kj [1000008] 3 [3,4]) Tryz.func157 ?_;refine Q81 (fun (i:Bool)=>QA3 i=R) (fun i=>[(2,Bo false),(4,Bo i)]) (fun i=>[]) ?_ ?_
 ·clear hR;rintro i hR;(try dsimp only at hR);apply ai<;>intro h1
  ·exact lfA
  ·exact lfA
 ·apply ai<;>intro h3
  ·exact Q90 (act==1) (wkA []) (foll hR (ct h3 rfl))
  ·apply ai<;>intro h5
   ·exact Q90 (act==2) (wkA []) (foll hR (cf h3 (ct h5 rfl)))
   ·apply ai<;>intro h7
    ·exact Q90 (act==3) (wkA []) (foll hR (cf h3 (cf h5 (ct h7 rfl))))
    ·apply ai<;>intro h9
     ·exact Q90 (act==5) (wkA []) (foll hR (cf h3 (cf h5 (cf h7 (ct h9 rfl)))))
     ·apply ai<;>intro h11
      ·exact Q90 (act==7) (wkA []) (foll hR (cf h3 (cf h5 (cf h7 (cf h9 (ct h11 rfl))))))
      ·exact Q90 (act==10) (wkA []) (foll hR (cf h3 (cf h5 (cf h7 (cf h9 (cf h11 rfl))))))
def QG1 (id_:Int):Bool:=((decide (id_ >= 1))&&(decide (id_<=99999)))
theorem QO9 (id_:Int):GV 57 [I id_] (Bo (QG1 id_)):=by
 generalize hR:QG1 id_=R;refine gA (kp 3 []) Tryz.func57 ?_;exact lfA
def Qed (ok:Bool):Int:=bif (!ok) then 141 else 0
theorem job_when_c (ok:Bool):GV 227 [Bo ok] (I (Qed ok)):=by
 generalize hR:Qed ok=R;refine gA (kp 3 [4]) Tryz.func227 ?_;apply ai<;>intro h1
 ·exact lfA
 ·exact lfA
theorem QPd (l:List Dep) (hs0:l.length<=4294967296):GV 292 [depL l] (depL l):=by
 refine AGives.any' (.cons lw .nil) lw (ACalls.of_cwp (fun _=>true) Tryz.func292 rfl rfl ?_);obtain z3:l.length<=4294967296:=hs0;intro b hb;refine ai (fun h1=>?_) (fun h2=>?_)
 ·have hl:l=[]:=by
   rcases l with _|⟨x,r⟩
   ·rfl
   ·exact absurd ((hb (by simp)).symm.trans h1) (by decide)
  subst hl;exact Q3g (fun r:List Dep=>depL r) (leaf:=[]) rfl lw Q30
 ·refine ⟨QD0 16 rfl apA,?_⟩;exact Q3g (fun r:List Dep=>depL r) (leaf:=l) rfl lw (Qe0 zC _ rfl eqA lnA)
def law26_small :State:=(⟨4,([(⟨1,5,1,false,0,0,0⟩:Node),(⟨1,5,1,false,0,0,0⟩:Node),zF,zF]:List Node),([(⟨5,⟨#[97]⟩,⟨#[117]⟩,⟨#[120]⟩,(⟨3,[],1,3,60⟩:Shape),0,[],2,false,0,4,1,4,64,3,0⟩:Job)]:List Job),[],[],[],6,1⟩:State)
theorem Qld :GV 29 [] (State.a law26_small):=by
 generalize hR:law26_small=R;refine gA (kp 3 []) Tryz.func29 ?_;refine Or.inl ?_;refine Or.inl ?_;obtain rfl:=foll hR rfl;exact Qc0 (State.low _ _) (Seen.agg (e1 (ev (QBh (QX5 (c:=Node.cells) (d:=zF) ([(⟨1,5,1,false,0,0,0⟩:Node),(⟨1,5,1,false,0,0,0⟩:Node),zF,zF]:List Node) rfl)) (ev (QBh (as_deep (c:=Job.cells) (d:=zG) ([(⟨5,⟨#[97]⟩,⟨#[117]⟩,⟨#[120]⟩,(⟨3,[],1,3,60⟩:Shape),0,[],2,false,0,4,1,4,64,3,0⟩:Job)]:List Job) (.cons _ _ _ _ (a1 (a1 (a1 (a1 (a1 (av (Qj7) (a1 (a1 (a1 (a1 (av (Qj7) (a1 (a1 (a1 (a1 (a1 (a1 (a1 (a1 (a1 .nil)))))))))))))))))))) .nil))) (ev (Q30) (ev (Q30) (ev (Q30) (e1 (e1 .nil)))))))))
end Go.Proofs.YtackngeeehiegaaGreatDoor
