/-
  What the last text of this claim leans on: an evaluator over the code, contracts of functions, plain laws. Conditions stand in each statement.
-/
import Derived.Test.YtackngeeehiegaaGreatDoorRD7
import Derived.Test.YtackngeeehiegaaGreatDoorProg
import Derived.Shelf.Sort.Plain
import Derived.KernelRfl
namespace Go.Proofs.YtackngeeehiegaaGreatDoor
set_option linter.unusedSimpArgs false
set_option linter.unusedVariables false
open Go.Fw Go.RowKit Go.Lib
theorem QAg:∃ (I0:TypeInfo) (z:Value),Tryz.prog.info? 49 = some I0∧I0.zero=some z∧I0.size=5∧I0.bytes=40∧z.cells.size=5 ∧ ∀ u ∈ z.cells.toList,u.oneCell'=true:=by
 obtain ⟨i,v,h1,h2,h3,h4,h5⟩:=QW4 (P:=Tryz.prog) (t:=49) (z:=zH.cells) (by kernel_rfl);have hb:(Tryz.prog.info? 49).map (·.bytes)=some 40:=by kernel_rfl
 have hs:v.cells.size=5:=by
  have:=congrArg List.length h3;simp [Resize.cells] at this;omega
 rw [h1] at hb;exact ⟨i,v,h1,h2,by omega,by simpa using hb,hs,h4⟩
theorem QT9 {z:Value} (h:∀ u ∈ z.cells.toList,u.oneCell'=true) (n:Nat):∀ u ∈ (Builtin.zeroCells z.cells n).toList,u.oneCell'=true:=by
 intro u hu;simp only [Builtin.zeroCells,yAb,yDb,yQb,ybb] at hu;obtain ⟨q,hq,rfl⟩:=hu;rcases yMa z.cells.size with h0|h0
 ·rw [h0] at hq;simp at hq
 ·rw [getElem!_pos z.cells _ (yxc _ h0)];exact h _ (by simp)
def Qd4 (l:List Resize) (i j:Int):List Resize:=l.take (Int.toNat i)++l.drop (Int.toNat j)
theorem Qyb (l:List Resize) (i j:Int) (hs0:l.length<=4294967296) (hp0:0<=i∧i<j∧j<=(l.length:Int)):AMoves Tryz.prog 175 [.own 0 0 5 0 l.length,I i,I j] [(0,.row 49 5 (l.map Resize.cells))] 0 (.own 0 0 5 0 (Qd4 l i j).length) [(0,.row 49 5 ((Qd4 l i j).map Resize.cells))]:=by
 intro K w vs hm hr;obtain ⟨sv,iv,jv,rfl⟩:∃ a b c,vs=[a,b,c]:=by
  have hl:=hr.1
  match vs,hl with
  | [a,b,c],_=>exact ⟨a,b,c,rfl⟩
 obtain ⟨i,rfl⟩:∃ q:Nat,i=(q:Int):=⟨i.toNat,by omega⟩;obtain ⟨j,rfl⟩:∃ q:Nat,j=(q:Int):=⟨j.toNat,by omega⟩;obtain rfl:=Q41 (hr.2 1 _ _ rfl rfl);obtain rfl:=Q41 (hr.2 2 _ _ rfl rfl);have hij:i<j:=by omega
 have hjn:j<=l.length:=by omega
 obtain ⟨ho,hv,hcase⟩:=Q46 (hr.2 0 _ _ rfl rfl);rcases hcase with ⟨_,h0,_⟩|⟨a,c,rfl,hlc,hC,ha⟩
 ·omega
 have hc0:c ≠ 0:=by omega
 obtain rfl:=ha hc0;have hp:([(0,.row 49 5 (l.map Resize.cells))]:Objs)[0]? = some (0,.row 49 5 (l.map Resize.cells)):=rfl;obtain ⟨hel,hesC,_⟩:=hm.obj 0 _ hp;have hesC:(l.map Resize.cells).length<=K.C 0 0:=hesC;have hC0:K.C 0 0 ≠ 0:=by omega
 obtain ⟨cur,hrow,hs,hone,hcell⟩:=hm.rowBlock hp hC0;obtain ⟨fr,hfr,hg⟩:=hrow;obtain ⟨I0,z,hi0,hz,his,hib,hzs,hz1⟩:=QAg;have hsz:c*5<=cur.size:=by omega
 have hl5:l.length*5<=cur.toList.length:=by simp;omega
 have seg:=rowSeg (c:=cur.toList) hel hone (fun i j e x he hx=>by obtain ⟨u,hu,hr⟩:=hcell i j e x he hx;exact ⟨u,by simpa using hu,hr⟩) (by simpa using hl5);have A:=seg 0 i (by simp;omega);have B:=seg j (l.length - j) (by simp;omega);have AB:=A.append B;refine (delete_w (K.ρ 0 0) l.length c i j w hij hjn hlc cur fr hg hfr hsz hone _ _ I0 z hi0 hz his hzs hz1 rfl rfl).mono ?_;rintro e w' ⟨rfl,rfl⟩;refine ⟨_,K,rfl,Qmf (yBa _),?_,?_⟩
 ·rw [setRow_setRow];have eL:(Qd4 l (i:Int) (j:Int)).map Resize.cells=((l.map Resize.cells).drop 0).take i++((l.map Resize.cells).drop j).take (l.length - j):=by
   unfold Qd4;simp only [yoa,yWb,List.map_take,List.map_drop,yqb];rw [yLb (i:=l.length - j) (by simp)]
  rw [← eL] at AB;have hlen:(List.take (i*5) cur.toList++List.take ((l.length - j)*5) (List.drop (j*5) cur.toList)).length=(i+(l.length - j))*5:=by
   simp only [yta,yra,yva,yGa];omega
  rw [yic,yqb] at AB;have hl':((Qd4 l (i:Int) (j:Int)).map Resize.cells).length<=K.C 0 0:=by
   rw [eL];simp;omega
  refine hm.drew.put hp hC0 ⟨fr,hfr,hg⟩ hs AB hl' (Eq.trans (b:=_++(Builtin.zeroCells z.cells (j - i)).toList++_) rfl (by rw [List.take_left' hlen,yhb])) ?_ ?_
  ·simp only [ylb,yta,yra,yva,yGa,size_zeroCells,hzs,yra];omega
  ·intro u hu;rcases List.mem_append.1 hu with hu|hu
   ·exact QT9 hz1 _ u hu
   ·have hu:=yPa hu;simp only [yyb] at hu;rcases hu with (hu|hu)|hu
    ·exact hone u (y4a hu)
    ·exact hone u (Qc3 hu)
    ·exact hone u (yPa hu)
 ·have e1:(Qd4 l (i:Int) (j:Int)).length=i+(l.length - j):=by
   unfold Qd4;simp;omega
  rw [e1];exact .own 0 0 5 0 _ ho hv _ c (by omega) hC ha
theorem Qqe (w:World) (A B C:Array Value) (t:TypeId):(((w.alloc (.cells A t)).drew.setRow w.heap.size B).drew).setRow w.heap.size C=(w.drew.drew).alloc (.cells C t):=by
 have e:∀ (v:World) (X Y:Array Value),(v.alloc (.cells X t)).setRow v.heap.size Y=v.alloc (.cells Y t):=by
  intro v X Y;unfold World.setRow World.alloc
  congr 1
  apply y0b;intro i;rw [y1b,yvc,yvc]
  by_cases hi:v.heap.size=i
  ·subst hi;simp
  ·rw [if_neg hi];rw [if_neg (Ne.symm hi),if_neg (Ne.symm hi)]
 show (((w.drew.drew.alloc (.cells A t)).setRow w.drew.drew.heap.size B)).setRow w.drew.drew.heap.size C=_;rw [e,e]
theorem grow_lists (P S Q T:List Value) (a b q:Nat) (hP:P.length=a) (hS:S.length=b) :
  (List.take a (P++T)++S++List.drop (a+b) (P++T)).take (a+b)++Q++(List.take a (P++T)++S++List.drop (a+b) (P++T)).drop (a+b+q)=(P++S++Q)++T.drop (b+q):=by
 have e1:(P++T).drop (a+b)=T.drop b:=by rw [← yxb,List.drop_left' hP]
 have h2:(P++S).length=a+b:=by rw [yta,hP,hS]
 rw [List.take_left' hP,e1,List.take_left' h2,← yxb (i:=q) (j:=a+b),List.drop_left' h2,yxb]
def QE2 (l:List Resize) (i:Int) (v:List Resize):List Resize:=l.take (Int.toNat i)++v++l.drop (Int.toNat i)
theorem Qv9 (l:List Resize) (i:Int) (v:List Resize):(QE2 l i v).length=l.length+v.length:=by
 unfold QE2;simp only [yta,yra,yva];omega
theorem insResize_in (l:List Resize) (i:Nat) (v:List Resize) (hs0:l.length<=4294967296) (hs1:v.length<=4294967296) (hi:i<l.length) (hm1:0<v.length):AMoves Tryz.prog 40 [.own 0 0 5 0 l.length,I (i:Int),QN1 v] [(0,.row 49 5 (l.map Resize.cells))] 0 (.own 0 0 5 0 (QE2 l (i:Int) v).length) [(0,.row 49 5 ((QE2 l (i:Int) v).map Resize.cells))]:=by
 intro K w vs hm hr;obtain ⟨sv,iv,vv,rfl⟩:∃ a b c,vs=[a,b,c]:=by
  have hl:=hr.1
  match vs,hl with
  | [a,b,c],_=>exact ⟨a,b,c,rfl⟩
 obtain rfl:=Q41 (hr.2 1 _ _ rfl rfl);obtain ⟨ho,hv,hcase⟩:=Q46 (hr.2 0 _ _ rfl rfl);have hvr:=hr.2 2 _ _ rfl rfl;rcases hcase with ⟨_,h0,_⟩|⟨a,c,rfl,hlc,hC,ha⟩
 ·omega
 have hc0:c ≠ 0:=by omega
 obtain rfl:=ha hc0;have hp:([(0,.row 49 5 (l.map Resize.cells))]:Objs)[0]? = some (0,.row 49 5 (l.map Resize.cells)):=rfl;obtain ⟨hel,hesC,_⟩:=hm.obj 0 _ hp;have hesC:(l.map Resize.cells).length<=K.C 0 0:=hesC;have hC0:K.C 0 0 ≠ 0:=by omega
 obtain ⟨cur,hrow,hs,hone,hcell⟩:=hm.rowBlock hp hC0;obtain ⟨fr,hfr,hg⟩:=hrow;obtain ⟨I0,z,hi0,hz,his,hib,hzs,hz1⟩:=QAg;unfold QN1 listA at hvr;obtain ⟨A,vc,rfl,_,_,_,hseq⟩:=QL8 hvr;obtain ⟨vb,voff,uf,rfl,hk,hM,_⟩:=hseq (by omega);obtain ⟨us,hV,hus⟩:=QGd hm hvr;obtain ⟨ad,had,hvs⟩:=hus (by omega)
 injection had with had
 subst had;rw [Qg6] at hV;have huslen:us.length=v.length*5:=by rw [hV.len];simp
 have hvb:vb ≠ K.ρ 0 0:=by
  rintro rfl;have:=hM 0 0 (by omega) (by omega);rw [(hm.lo 0 _ hp rfl hC0).2.2] at this;cases this
 have hvs':∀ j v,us[j]? = some v->w.cell? ⟨vb,voff+j,none⟩=some v:=fun j v h=>by
  have:=hvs j v h
  rwa [Fw.add_lit] at this
 have hsz:c*5<=cur.size:=by omega
 have hl5:l.length*5<=cur.toList.length:=by simp;omega
 have seg:=rowSeg (c:=cur.toList) hel hone (fun i j e x he hx=>by obtain ⟨u,hu,hr⟩:=hcell i j e x he hx;exact ⟨u,by simpa using hu,hr⟩) (by simpa using hl5);have A:=seg 0 i (by simp;omega);have B:=seg i (l.length - i) (by simp;omega);have AVB:=(A.append hV).append B;have eL:(QE2 l (i:Int) v).map Resize.cells=((l.map Resize.cells).drop 0).take i++v.map Resize.cells++((l.map Resize.cells).drop i).take (l.length - i):=by
  unfold QE2;simp only [yoa,yWb,List.map_take,List.map_drop,yqb];rw [yLb (i:=l.length - i) (by simp)]
 rw [← eL,yic,yqb] at AVB;have hAl:(List.take (i*5) cur.toList).length=i*5:=by
  simp only [yra,yGa];omega
 have hBl:(List.take ((l.length - i)*5) (List.drop (i*5) cur.toList)).length=(l.length - i)*5:=by
  simp only [yra,yva,yGa];omega
 have hel':((QE2 l (i:Int) v).map Resize.cells).length=l.length+v.length:=by rw [ypb,Qv9]
 by_cases hroom:l.length+v.length<=c
 ·refine (insert_shift_w (K.ρ 0 0) l.length c i vb voff v.length vc w hi hm1 hroom (by omega) hvb cur fr hg hfr hsz hone us huslen hvs' hV.one _ _ I0 hi0 his rfl rfl).mono ?_;rintro e w' ⟨rfl,rfl⟩;refine ⟨_,K,rfl,Qmf (yBa _),?_,?_⟩
  ·rw [setRow_setRow];have eX:∀ (T:List Value),((List.take ((i+v.length)*5) cur.toList++List.take ((l.length - i)*5) (List.drop (i*5) cur.toList)++T).take (i*5)++us++(List.take ((i+v.length)*5) cur.toList++List.take ((l.length - i)*5) (List.drop (i*5) cur.toList)++T).drop (i*5+us.length))=(List.take (i*5) cur.toList++us++List.take ((l.length - i)*5) (List.drop (i*5) cur.toList))++T:=by
    intro T;have h1:(List.take ((i+v.length)*5) cur.toList).length=(i+v.length)*5:=by
     simp only [yra,yGa];omega
    have h2:i*5+us.length=(i+v.length)*5:=by omega
    rw [h2,yhb (List.take ((i+v.length)*5) cur.toList),List.drop_left' h1,y9b (by rw [h1];omega),List.take_take,yAc (by omega),yhb,yhb,yhb]
   refine hm.drew.put hp hC0 ⟨fr,hfr,hg⟩ hs AVB (by rw [hel'];omega) (Eq.trans (b:=_++us++_) rfl (eX _)) ?_ ?_
   ·simp only [ylb,yta,yra,yva,yGa];omega
   ·exact fun u hu=>hone u (yPa hu)
  ·rw [Qv9];exact .own 0 0 5 0 _ ho hv _ c hroom hC ha
 ·have hge:=grownCap_ge w (l.length+v.length) c 49;refine (insert_grow_w (K.ρ 0 0) l.length c i vb voff v.length vc w hi hm1 hlc (by omega) (by omega) cur fr hg hsz hone us huslen hvs' hV.one _ _ _ I0 z hi0 his hib hz hzs rfl rfl rfl).mono ?_;rintro e w' ⟨rfl,rfl⟩;rw [Qqe];have hzl:∀ n,(Builtin.zeroCells z.cells n).toList.length=n*5:=fun n=>by rw [yGa,size_zeroCells,hzs]
  have eX:=fun T=>grow_lists (List.take (i*5) cur.toList) us (List.take ((l.length - i)*5) (List.drop (i*5) cur.toList)) T (i*5) us.length ((l.length - i)*5) hAl rfl
  have e2:i*5+us.length=(i+v.length)*5:=by omega
  rw [e2] at eX;have hZ:∀ u ∈ List.drop (us.length+(l.length - i)*5) ((Builtin.zeroCells z.cells (l.length+v.length - i)).toList++(Builtin.zeroCells z.cells (grownCap w (l.length+v.length) c 49 - (l.length+v.length))).toList),u.oneCell'=true:=by
   intro u hu;rcases List.mem_append.1 (yPa hu) with hu|hu
   ·exact QT9 hz1 _ u hu
   ·exact QT9 hz1 _ u hu
  have hc0':grownCap w (l.length+v.length) c 49 ≠ 0:=by omega
  have hN:(List.take (i*5) cur.toList++us++List.take ((l.length - i)*5) (List.drop (i*5) cur.toList)).length+(List.drop (us.length+(l.length - i)*5) ((Builtin.zeroCells z.cells (l.length+v.length - i)).toList++(Builtin.zeroCells z.cells (grownCap w (l.length+v.length) c 49 - (l.length+v.length))).toList)).length=grownCap w (l.length+v.length) c 49 * 5:=by
   rw [yta,yta,hAl,hBl,yva,yta,hzl,hzl];omega
  have fin:∀ X:Array Value,X.toList=(List.take (i*5) cur.toList++us++List.take ((l.length - i)*5) (List.drop (i*5) cur.toList))++List.drop (us.length+(l.length - i)*5) ((Builtin.zeroCells z.cells (l.length+v.length - i)).toList++(Builtin.zeroCells z.cells (grownCap w (l.length+v.length) c 49 - (l.length+v.length))).toList) ->
    ∃ (r:Value) (K':Ctx),Ending.returned (.slice (some ⟨w.heap.size,0,none⟩) (l.length+v.length) (grownCap w (l.length+v.length) c 49)) = .returned r∧(K.cut 0).le K'∧MemSat K' [(0,.row 49 5 ((QE2 l (i:Int) v).map Resize.cells))] (w.drew.drew.alloc (.cells X 49))∧Rep K' (.own 0 0 5 0 (QE2 l (i:Int) v).length) r:=by
   intro X hX;obtain ⟨K',h1,h2,h3⟩:=hm.drew.drew.newRow (te:=49) AVB lm hZ hc0' (by rw [hel'];exact hge) hN hX;exact ⟨_,K',rfl,h1,h2,by rw [Qv9];exact h3 _ _ hge (yla _)⟩
  refine fin _ (Eq.trans ?_ (eX ((Builtin.zeroCells z.cells (l.length+v.length - i)).toList++(Builtin.zeroCells z.cells (grownCap w (l.length+v.length) c 49 - (l.length+v.length))).toList)));simp only [List.toList_toArray,Array.toList_append,yhb,hBl,e2]
set_option maxRecDepth 20000
attribute [local irreducible] ACalls AMoves
theorem insResize_end (l:List Resize) (v:List Resize) (hs0:l.length<=4294967296) (hs1:v.length<=4294967296) (hm1:0<v.length):AMoves Tryz.prog 40 [.own 0 0 5 0 l.length,I (l.length:Int),QN1 v] [(0,.row 49 5 (l.map Resize.cells))] 0 (.own 0 0 5 0 (l++v).length) [(0,.row 49 5 ((l++v).map Resize.cells))]:=by
 refine mo (kp 10 [16,22,31,68]) Tryz.func40 ?_;refine ai gkA ?_
 conv=>whnf
 refine ai (fun h1=>?_) (fun h2=>?_)
 ·have:=yfa h1;omega
 conv=>whnf
 refine ai (fun h3=>?_) (fun h4=>?_)
 ·refine ⟨QD2 40 rfl (by simp) (by simp;omega),?_⟩
  conv=>whnf
  exact rq (tt [0] (tO rfl (tl (by rw [Qg6,← yWb])) .nil) (to 0 (by simp)))
 ·have:((l.length:Int)==(l.length:Int))=false:=h4;simp at this
theorem QFb (l:List Resize) (i:Int) (v:List Resize) (hs0:l.length<=4294967296) (hs1:v.length<=4294967296) (hp0:0<=i∧i<=(l.length:Int)∧v.length=1):AMoves Tryz.prog 40 [.own 0 0 5 0 l.length,I i,QN1 v] [(0,.row 49 5 (l.map Resize.cells))] 0 (.own 0 0 5 0 (QE2 l i v).length) [(0,.row 49 5 ((QE2 l i v).map Resize.cells))]:=by
 obtain ⟨i,rfl⟩:∃ q:Nat,i=(q:Int):=⟨i.toNat,by omega⟩;rcases ypa i l.length with h|h
 ·exact insResize_in l i v hs0 hs1 h (by omega)
 ·obtain rfl:i=l.length:=by omega
  have e:QE2 l (l.length:Int) v=l++v:=by
   unfold QE2;simp
  rw [e];exact insResize_end l v hs0 hs1 (by omega)
end Go.Proofs.YtackngeeehiegaaGreatDoor
namespace Go.Proofs.YtackngeeehiegaaGreatDoor
set_option linter.unusedSimpArgs false
set_option linter.unusedVariables false
open Go.Fw
def pv (f:Int):List Step->Int->Int
 | [],_=>f
 | x :: r,t=>if x.at_<=t then pv x.free r t else pv f r t
def Srt (a:Int):List Step->Prop
 | []=>True
 | x :: r=>a<x.at_∧x.at_<=1000000∧Srt x.at_ r
def Dif (f:Int):List Step->Prop
 | []=>True
 | x :: r=>f ≠ x.free∧Dif x.free r
theorem Qs1 {t:Int}:∀ {p:List Step} {a f:Int},Srt a p->t<=a->pv f p t=f
 | [],_,_,_,_=>rfl
 | x :: r,a,f,h,ht=>by
  have h1:=h.1;unfold pv;rw [if_neg (by omega)];exact Qs1 h.2.2 (by omega)
theorem pv_uniq:∀ {p q:List Step} {a f:Int},Srt a p->Dif f p->Srt a q->Dif f q->(∀ t,a<t->t<=1000000->pv f p t=pv f q t)->p=q
 | [],[],_,_,_,_,_,_,_=>rfl
 | [],y :: s,a,f,_,_,hs,hd,h=>by
  have e:=h y.at_ hs.1 hs.2.1;simp only [pv,ySa,if_true] at e;rw [Qs1 hs.2.2 (ySa _)] at e;exact absurd e hd.1
 | x :: r,[],a,f,hs,hd,_,_,h=>by
  have e:=h x.at_ hs.1 hs.2.1;simp only [pv,ySa,if_true] at e;rw [Qs1 hs.2.2 (ySa _)] at e;exact absurd e.symm hd.1
 | x :: r,y :: s,a,f,hs,hd,hs',hd',h=>by
  rcases Int.lt_trichotomy x.at_ y.at_ with hl|he|hl
  ·have e:=h x.at_ hs.1 hs.2.1;rw [Qs1 (a:=x.at_) (p:=y :: s) ⟨hl,hs'.2⟩ (ySa _)] at e;simp only [pv,ySa,if_true] at e;rw [Qs1 hs.2.2 (ySa _)] at e;exact absurd e.symm hd.1
  ·have e:=h x.at_ hs.1 hs.2.1;have e2:x.free=y.free:=by
    simp only [pv,ySa,if_true] at e;rw [Qs1 hs.2.2 (ySa _),if_pos (by omega),Qs1 hs'.2.2 (by omega)] at e;exact e
   have exy:x=y:=by cases x;cases y;simp_all
   subst exy
   rw [pv_uniq hs.2.2 hd.2 hs'.2.2 hd'.2 fun t h1 h2=>by
    have e3:=h t (by have:=hs.1;omega) h2;simp only [pv] at e3;rw [if_pos (by omega),if_pos (by omega)] at e3
    exact e3]
  ·have e:=h y.at_ hs'.1 hs'.2.1;rw [Qs1 (a:=y.at_) (p:=x :: r) ⟨hl,hs.2⟩ (ySa _)] at e;simp only [pv,ySa,if_true] at e;rw [Qs1 hs'.2.2 (ySa _)] at e;exact absurd e hd'.1
def Can:List Step->Prop
 | []=>False
 | x :: r=>x.at_=0∧Srt x.at_ r∧Dif x.free r
def pat (p:List Step) (t:Int):Int:=pv 0 p t
theorem Can.uniq {p q:List Step} (hp:Can p) (hq:Can q) (h:∀ t,0<=t->t<=1000000->pat p t=pat q t):p=q:=by
 cases p with
 | nil=>exact hp.elim
 | cons x r =>
  cases q with
  | nil=>exact hq.elim
  | cons y s =>
   have hx:=hp.1;have hy:=hq.1;have e0:=h 0 (by omega) (by omega);unfold pat pv at e0;rw [if_pos (by omega),if_pos (by omega),Qs1 hp.2.1 (by omega),Qs1 hq.2.1 (by omega)] at e0;have exy:x=y:=by cases x;cases y;simp_all
   subst exy
   rw [pv_uniq hp.2.1 hp.2.2 hq.2.1 hq.2.2 fun t h1 h2=>by
    have e3:=h t (by omega) h2;unfold pat pv at e3;rw [if_pos (by omega),if_pos (by omega)] at e3
    exact e3]
def comp (f:Int):List Step->List Step
 | []=>[]
 | x :: r=>if f=x.free then comp f r else x :: comp x.free r
theorem comp_dif:∀ (p:List Step) (f:Int),Dif f (comp f p)
 | [],_=>trivial
 | x :: r,f=>by
  unfold comp
  by_cases h:f=x.free
  ·rw [if_pos h];exact comp_dif r f
  ·rw [if_neg h];exact ⟨h,comp_dif r x.free⟩
theorem Srt.le:∀ {p:List Step} {a b:Int},Srt a p->b<=a->Srt b p
 | [],_,_,_,_=>trivial
 | _ :: _,_,_,h,hb=>⟨by have:=h.1;omega,h.2⟩
theorem QRe:∀ (p:List Step) (a f:Int),Srt a p->Srt a (comp f p)
 | [],_,_,_=>trivial
 | x :: r,a,f,h=>by
  unfold comp
  by_cases e:f=x.free
  ·rw [if_pos e];exact QRe r a f (h.2.2.le (by have:=h.1;omega))
  ·rw [if_neg e];exact ⟨h.1,h.2.1,QRe r x.at_ x.free h.2.2⟩
theorem comp_pv (t:Int):∀ (p:List Step) (a f:Int),Srt a p->pv f (comp f p) t=pv f p t
 | [],_,_,_=>rfl
 | x :: r,a,f,h=>by
  unfold comp
  by_cases e:f=x.free
  ·rw [if_pos e,comp_pv t r x.at_ f h.2.2];show _=(if x.at_<=t then pv x.free r t else pv f r t);rw [← e,ite_self]
  ·rw [if_neg e];show (if x.at_<=t then pv x.free (comp x.free r) t else pv f (comp x.free r) t)=(if x.at_<=t then pv x.free r t else pv f r t)
   by_cases ht:x.at_<=t
   ·rw [if_pos ht,if_pos ht,comp_pv t r x.at_ x.free h.2.2]
   ·rw [if_neg ht,if_neg ht,Qs1 (QRe r x.at_ x.free h.2.2) (by omega),Qs1 h.2.2 (by omega)]
theorem comp_id:∀ (p:List Step) (f:Int),Dif f p->comp f p=p
 | [],_,_=>rfl
 | x :: r,f,h=>by
  unfold comp;rw [if_neg h.1,comp_id r x.free h.2]
theorem Qxb:∀ (p:List Step) (f:Int),(comp f p).length<=p.length
 | [],_=>yla _
 | x :: r,f=>by
  unfold comp
  by_cases e:f=x.free
  ·rw [if_pos e];have:=Qxb r f;simp only [yka];omega
  ·rw [if_neg e];have:=Qxb r x.free;simp only [yka];omega
def comp0:List Step->List Step
 | []=>[]
 | x :: r=>x :: comp x.free r
def Srt0:List Step->Prop
 | []=>False
 | x :: r=>x.at_=0∧Srt x.at_ r
theorem comp0_can:∀ {p:List Step},Srt0 p->Can (comp0 p)
 | [],h=>h.elim
 | x :: r,h=>⟨h.1,QRe r x.at_ x.free h.2,comp_dif r x.free⟩
theorem comp0_pat {t:Int} (ht:0<=t):∀ {p:List Step},Srt0 p->pat (comp0 p) t=pat p t
 | [],h=>h.elim
 | x :: r,h=>by
  have h1:=h.1;show (if x.at_<=t then pv x.free (comp x.free r) t else pv 0 (comp x.free r) t)=(if x.at_<=t then pv x.free r t else pv 0 r t);rw [if_pos (by omega),if_pos (by omega),comp_pv t r x.at_ x.free h.2]
theorem QRd (p:List Step):(comp0 p).length<=p.length:=by
 cases p with
 | nil=>exact yla _
 | cons x r=>have:=Qxb r x.free;simp only [comp0,yka];omega
theorem Can.srt0:∀ {p:List Step},Can p->Srt0 p
 | [],h=>h.elim
 | _ :: _,h=>⟨h.1,h.2.1⟩
theorem QVf:∀ {p:List Step} {a f:Int},Srt a p -> ∀ x ∈ p,a<x.at_∧x.at_<=1000000∧pv f p x.at_=x.free
 | [],_,_,_,_,hx=>by cases hx
 | y :: r,a,f,h,x,hx=>by
  rcases List.mem_cons.1 hx with rfl|hm
  ·refine ⟨h.1,h.2.1,?_⟩;unfold pv;rw [if_pos (ySa _),Qs1 h.2.2 (ySa _)]
  ·obtain ⟨h1,h2,h3⟩:=QVf (f:=y.free) h.2.2 x hm;have:=h.1;refine ⟨by omega,h2,?_⟩;unfold pv;rw [if_pos (by omega),h3]
theorem Srt0.mem:∀ {p:List Step},Srt0 p -> ∀ x ∈ p,0<=x.at_∧x.at_<=1000000∧pat p x.at_=x.free
 | [],h,_,_=>h.elim
 | y :: r,h,x,hx=>by
  have h0:=h.1;rcases List.mem_cons.1 hx with rfl|hm
  ·refine ⟨by omega,by omega,?_⟩;unfold pat pv;rw [if_pos (ySa _),Qs1 h.2 (ySa _)]
  ·obtain ⟨h1,h2,h3⟩:=QVf (f:=y.free) h.2 x hm;refine ⟨by omega,h2,?_⟩;unfold pat pv;rw [if_pos (by omega),h3]
def putS (out:List Step) (x:Step):List Step:=match out.getLast? with
 | none=>out++[x]
 | some l=>if l.free=x.free then out else out++[x]
theorem comp_snoc (x:Step):∀ (p:List Step) (f:Int),comp f (p++[x])=if ((comp f p).getLast?.map (·.free)).getD f=x.free then comp f p else comp f p++[x]
 | [],f=>by
  by_cases h:f=x.free <;> simp [comp,h]
 | y :: r,f=>by
  have ih:=comp_snoc x r
  by_cases e:f=y.free
  ·simp only [ySb,comp,if_pos e];exact ih f
  ·have h:((comp f (y :: r)).getLast?.map (·.free)).getD f=((comp y.free r).getLast?.map (·.free)).getD y.free:=by
    simp only [comp,if_neg e,List.getLast?_cons];cases (comp y.free r).getLast? <;> rfl
   rw [h];simp only [ySb,comp,if_neg e,ih y.free]
   by_cases e2:((comp y.free r).getLast?.map (·.free)).getD y.free=x.free
   ·simp only [if_pos e2]
   ·simp only [if_neg e2,ySb]
theorem comp0_snoc (p:List Step) (x:Step):comp0 (p++[x])=putS (comp0 p) x:=by
 cases p with
 | nil=>rfl
 | cons y r =>
  simp only [ySb,comp0,comp_snoc,putS,List.getLast?_cons];have:((comp y.free r).getLast?.map (·.free)).getD y.free=((comp y.free r).getLast?.getD y).free:=by
   cases (comp y.free r).getLast? <;> rfl
  rw [this];split <;> rfl
theorem Qif (m:List Step):∀ (p:List Step),m.foldl putS (comp0 p)=comp0 (p++m):=by
 induction m with
 | nil=>intro p;simp
 | cons x r ih =>
  intro p;rw [yzb,← comp0_snoc,ih];simp
theorem pv_map (g:Int->Int) (t:Int):∀ (l:List Int) (a f:Int),Srt a (l.map fun u=>⟨u,g u⟩)->a<=t->(∀ u v,a<=u->u<=v->v<=t->(∀ x ∈ l,x<=u∨v<x)->g u=g v)->f=g a->pv f (l.map fun u=>⟨u,g u⟩) t=g t
 | [],a,f,_,ha,hg,hf=>by
  rw [hf];exact hg a t (ySa _) ha (ySa _) (fun x hx=>by cases hx)
 | y :: r,a,f,hs,ha,hg,hf=>by
  simp only [y8a,pv];have h1:a<y:=hs.1
  by_cases h:y<=t
  ·rw [if_pos h];refine pv_map g t r y (g y) hs.2.2 h (fun u v hu huv hv hx=>hg u v (by omega) huv hv fun x hm=>?_) rfl;rcases List.mem_cons.1 hm with rfl|hm
   ·exact .inl hu
   ·exact hx x hm
  ·rw [if_neg h,hf];have hsm:pv (g a) (r.map fun u=>(⟨u,g u⟩:Step)) t=g a:=Qs1 (a:=y) hs.2.2 (by omega);rw [hsm];refine hg a t (ySa _) ha (ySa _) fun x hm=>?_
   right;rcases List.mem_cons.1 hm with rfl|hm
   ·omega
   ·have:=(QVf (f:=0) hs.2.2 ⟨x,g x⟩ (List.mem_map.2 ⟨x,hm,rfl⟩)).1;simp only at this;omega
def Fit (f:Int->Int) (long n t:Int):Prop:=∀ u,t<=u->u<t+long->n<=f u
theorem pv_later:∀ (p:List Step) (a f u v:Int),Srt a p->u<=v->pv f p v=pv f p u ∨ ∃ x ∈ p,u<x.at_∧x.at_<=v∧pv f p v=x.free
 | [],_,_,_,_,_,_=>.inl rfl
 | x :: r,a,f,u,v,hs,h=>by
  by_cases hv:x.at_<=v
  ·have e1:pv f (x :: r) v=pv x.free r v:=if_pos hv
   by_cases hu:x.at_<=u
   ·have e2:pv f (x :: r) u=pv x.free r u:=if_pos hu;rw [e1,e2];exact (pv_later r x.at_ x.free u v hs.2.2 h).imp id fun ⟨y,hy,e⟩=>⟨y,yga _ hy,e⟩
   ·rw [e1];rcases pv_later r x.at_ x.free u v hs.2.2 h with e|⟨y,hy,e⟩
    ·rw [Qs1 hs.2.2 (by omega:u<=x.at_)] at e;exact .inr ⟨x,yma ..,by omega,hv,e⟩
    ·exact .inr ⟨y,yga _ hy,e⟩
  ·refine .inl ?_;rw [Qs1 (a:=x.at_ - 1) (p:=x :: r) ⟨by omega,hs.2.1,hs.2.2⟩ (by omega),Qs1 (a:=x.at_ - 1) (p:=x :: r) ⟨by omega,hs.2.1,hs.2.2⟩ (by omega)]
theorem least_fit {p:List Step} (hp:Can p) (a b n:Int) (ha:0<=a) (hab:a<b):(n<=pat p a ∧ ∀ x ∈ p,a<x.at_->x.at_<b->n<=x.free) ↔ ∀ u,a<=u->u<b->n<=pat p u:=by
 have h0:=hp.srt0;have hs:Srt (-1) p:=by
  cases p with
  | nil=>exact hp.elim
  | cons x r=>exact ⟨by have:=hp.1;omega,by have:=hp.1;omega,hp.2.1⟩
 constructor
 ·rintro ⟨h1,h2⟩ u hu hv;rcases pv_later p (-1) 0 a u hs hu with e|⟨x,hx,g1,g2,e⟩
  ·show n<=pv 0 p u;rw [e];exact h1
  ·show n<=pv 0 p u;rw [e];exact h2 x hx g1 (by omega)
 ·intro h;refine ⟨h a (ySa _) hab,fun x hx g1 g2=>?_⟩;rw [← (h0.mem x hx).2.2];exact h _ (by omega) g2
end Go.Proofs.YtackngeeehiegaaGreatDoor
namespace Go.Proofs.YtackngeeehiegaaGreatDoor
set_option linter.unusedSimpArgs false
set_option linter.unusedVariables false
open Go.Shelf Go.Sort Go.RowKit
def srtRen:Ren :=
 {f:=fun x=>match x with
   | 189=>147
   | 125=>206
   | 257=>205
   | 128=>253
   | 129=>254
   | 294=>244
   | 295=>245
   | 296=>246
   | 297=>247
   | 298=>248
   | 299=>249
   | 216=>250
   | 300=>251
   | 301=>252
   | 328=>274
   | 329=>275
   | 330=>276
   | 331=>277
   | 332=>278
   | 215=>279
   | 343=>297
   | n=>n
  t:=fun x=>match x with
   | 28=>52
   | 3=>3
   | 46=>169
   | 0=>0
   | 51=>283
   | 53=>47
   | 4=>4
   | 183=>277
   | 182=>276
   | 131=>89
   | 5=>5
   | 9=>9
   | 218=>292
   | 222=>296
   | 228=>306
   | 229=>307
   | n=>n
  g:=fun x=>x }
theorem srtLays:Lays.n189 Tryz.prog srtRen where
 mixed:=by kernel_rfl
 f125:=Tryz.func206.trans (by kernel_rfl)
 f128:=Tryz.func253.trans (by kernel_rfl)
 f129:=Tryz.func254.trans (by kernel_rfl)
 f189:=Tryz.func147.trans (by kernel_rfl)
 f215:=Tryz.func279.trans (by kernel_rfl)
 f216:=Tryz.func250.trans (by kernel_rfl)
 f257:=Tryz.func205.trans (by kernel_rfl)
 f294:=Tryz.func244.trans (by kernel_rfl)
 f295:=Tryz.func245.trans (by kernel_rfl)
 f296:=Tryz.func246.trans (by kernel_rfl)
 f297:=Tryz.func247.trans (by kernel_rfl)
 f298:=Tryz.func248.trans (by kernel_rfl)
 f299:=Tryz.func249.trans (by kernel_rfl)
 f300:=Tryz.func251.trans (by kernel_rfl)
 f301:=Tryz.func252.trans (by kernel_rfl)
 f328:=Tryz.func274.trans (by kernel_rfl)
 f329:=Tryz.func275.trans (by kernel_rfl)
 f330:=Tryz.func276.trans (by kernel_rfl)
 f331:=Tryz.func277.trans (by kernel_rfl)
 f332:=Tryz.func278.trans (by kernel_rfl)
 f343:=Tryz.func297.trans (by kernel_rfl)
 t0:=Tryz.underlying0
 a0:=Tryz.isAgg0
 z0:=Tryz.sizeOf0
 v0:=Tryz.zeroValue0
 t3:=Tryz.underlying3
 a3:=Tryz.isAgg3
 z3:=Tryz.sizeOf3
 v3:=Tryz.zeroValue3
 t4:=Tryz.underlying4
 a4:=Tryz.isAgg4
 z4:=Tryz.sizeOf4
 v4:=Tryz.zeroValue4
 t5:=Tryz.underlying5
 a5:=Tryz.isAgg5
 z5:=Tryz.sizeOf5
 v5:=Tryz.zeroValue5
 t9:=Tryz.underlying9
 a9:=Tryz.isAgg9
 z9:=Tryz.sizeOf9
 v9:=Tryz.zeroValue9
 t28:=Tryz.underlying52
 a28:=Tryz.isAgg52
 z28:=Tryz.sizeOf52
 v28:=Tryz.zeroValue52
 t46:=Tryz.underlying169
 a46:=Tryz.isAgg169
 z46:=Tryz.sizeOf169
 v46:=Tryz.zeroValue169
 t51:=Tryz.underlying283
 a51:=Tryz.isAgg283
 z51:=Tryz.sizeOf283
 v51:=Tryz.zeroValue283
 t53:=Tryz.underlying47
 a53:=Tryz.isAgg47
 z53:=Tryz.sizeOf47
 v53:=Tryz.zeroValue47
 t131:=Tryz.underlying89
 a131:=Tryz.isAgg89
 z131:=Tryz.sizeOf89
 v131:=Tryz.zeroValue89
 t182:=Tryz.underlying276
 a182:=Tryz.isAgg276
 z182:=Tryz.sizeOf276
 v182:=Tryz.zeroValue276
 t183:=Tryz.underlying277
 a183:=Tryz.isAgg277
 z183:=Tryz.sizeOf277
 v183:=Tryz.zeroValue277
 t218:=Tryz.underlying292
 a218:=Tryz.isAgg292
 z218:=Tryz.sizeOf292
 v218:=Tryz.zeroValue292
 t222:=Tryz.underlying296
 a222:=Tryz.isAgg296
 z222:=Tryz.sizeOf296
 v222:=Tryz.zeroValue296
 t228:=Tryz.underlying306
 a228:=Tryz.isAgg306
 z228:=Tryz.sizeOf306
 v228:=Tryz.zeroValue306
 t229:=Tryz.underlying307
 a229:=Tryz.isAgg307
 z229:=Tryz.sizeOf307
 v229:=Tryz.zeroValue307
end Go.Proofs.YtackngeeehiegaaGreatDoor
namespace Go.Proofs.YtackngeeehiegaaGreatDoor
set_option linter.unusedSimpArgs false
set_option linter.unusedVariables false
open Go.Fw Go.RowKit
section
variable {K:Ctx} {objs:Objs}
theorem MemSat.grown (os:List Obj):∀ {w:World},MemSat K objs w->MemSat K objs (Go.Sort.grow w os.toArray):=by
 induction os with
 | nil=>intro w h;simpa [Go.Sort.grow] using h
 | cons x r ih =>
  intro w h;have:=ih (h.junk x);rw [Go.Sort.alloc_eq_grow,Go.Sort.grow_grow] at this;simpa using this
end
def insI (x:Int):List Int->List Int
 | []=>[x]
 | y :: r=>bif decide (y<x) then y :: insI x r else x :: y :: r
def sorted (l:List Int):List Int:=l.foldr insI []
theorem Qwf (x:Int):∀ o,(insI x o).Perm (x :: o)
 | []=>.refl _
 | y :: r=>by
  unfold insI;cases decide (y<x) with
  | true=>exact ((Qwf x r).cons y).trans (.swap x y r)
  | false=>exact .refl _
theorem Qxf (x:Int):∀ o,o.Pairwise (fun a b=>a<=b)->(insI x o).Pairwise fun a b=>a<=b
 | [],_=>List.pairwise_singleton _ _
 | y :: r,h=>by
  obtain ⟨h1,h2⟩:=List.pairwise_cons.1 h;unfold insI;cases ha:decide (y<x) with
  | true =>
   have ha:=yfa ha;refine List.pairwise_cons.2 ⟨fun z hz=>?_,Qxf x r h2⟩;rcases List.mem_cons.1 ((Qwf x r).mem_iff.1 hz) with rfl|hz
   ·omega
   ·exact h1 z hz
  | false =>
   have ha:=yea ha;refine List.pairwise_cons.2 ⟨fun z hz=>?_,h⟩;rcases List.mem_cons.1 hz with rfl|hz
   ·omega
   ·have:=h1 z hz;omega
theorem QN9:∀ l:List Int,(sorted l).Perm l
 | []=>.refl _
 | x :: r=>(Qwf x _).trans ((QN9 r).cons x)
theorem sorted_pw:∀ l:List Int,(sorted l).Pairwise fun a b=>a<=b
 | []=>.nil
 | x :: r=>Qxf x _ (sorted_pw r)
theorem sorted_merge (l:List Int):l.mergeSort (fun x y=>decide (x<=y))=sorted l :=
 List.Perm.eq_of_pairwise (le:=fun x y=>x<=y) (fun a b _ _ h1 h2=>Int.le_antisymm h1 h2)
  ((List.pairwise_mergeSort (fun a b c h1 h2=>by simp at *;omega) (fun a b=>by simp;omega) l).imp fun h=>by simpa using h) (sorted_pw l) ((List.mergeSort_perm l _).trans (QN9 l).symm)
@[simp] theorem QHd (l:List Int):(sorted l).length=l.length:=(QN9 l).length_eq
theorem putRow_setRow {w:World} {g:Nat} {c:Array Value} {t:TypeId} {fr:Nat × Nat} (hb:w.heap[g]? = some (.cells c t fr)) (d:Array Int):Go.Sort.putRow (Value.int .i64) w g 0 d=w.setRow g (Go.Sort.putCells (Value.int .i64) 0 d c):=by
 unfold Go.Sort.putRow Go.Sort.mapBlock World.setRow
 congr 1
 apply y0b;intro i;simp only [y1b]
 by_cases hi:g=i
 ·subst hi;simp [hb,Go.Sort.onCells]
 ·simp [hi]
theorem slices_Sort_c (l:List Int) (hl:l.length<=4294967296) (h0:l ≠ []):AMoves Tryz.prog 147 [.own 0 0 1 0 l.length] [(0,.row 3 1 (l.map fun q_=>[I q_]))] 1 (.tup []) [(0,.row 3 1 ((sorted l).map fun q_=>[I q_]))]:=by
 intro K w vs hm hr;have hp0:([(0,.row 3 1 (l.map fun q_=>[I q_]))]:Objs)[0]? = some (0,.row 3 1 (l.map fun q_=>[I q_])):=rfl;have hlen:l.length ≠ 0:=by simpa using h0
 obtain ⟨v,rfl⟩:∃ v,vs=[v]:=List.length_eq_one_iff.1 hr.1;obtain ⟨_,_,hcase⟩:=Q46 (hr.2 0 _ _ rfl rfl);rcases hcase with ⟨_,q,_⟩|⟨a,cap,rfl,q1,q2,q3⟩
 ·exact absurd q hlen
 have ha:=q3 (by omega);simp only [yic] at ha;subst ha;obtain ⟨g1,g2,g3⟩:=hm.obj 0 _ hp0;have hC:K.C 0 0 ≠ 0:=by simp at g2;omega
 obtain ⟨cur,⟨fr,hfr,hbk⟩,hs,h1,hcr⟩:=g3 hC;have hblk:=(hm.lo 0 _ hp0 rfl hC).2.1;have hsz:l.length<=cur.size:=by
  have e:cur.size=K.C 0 0*1:=hs;simp at g2;omega
 have hcell:∀ (j:Nat) (n:Int),l[j]? = some n->cur[j]? = some (Value.int .i64 n):=by
  intro j n hj;obtain ⟨u,hu,hru⟩:=hcr j 0 [I n] (I n) (by rw [yza,hj];rfl) rfl;have e:=Q41 hru;subst e;rw [show j*1+0=j by omega] at hu;exact hu
 have hH:Go.Sort.Holds (Value.int .i64) w (K.ρ 0 0) 0 l.toArray:=by
  intro j hj;have hj':j<l.length:=by simpa using hj
  refine ⟨?_,?_⟩
  ·simp only [World.cell?,hbk,yna];have e:l[j]? = some (l[j]'hj'):=yaa hj';have:=hcell j _ e;rw [this]
   congr 2
   rw [getElem!_pos l.toArray j hj];simp
  ·have hj2:=hfr j (by omega);obtain ⟨lo,hi'⟩:=fr;simp only at hj2;simp only [World.frozen?,hbk,yna,yhc,yda,yCa];intro h1 h2;exact hj2 ⟨h1,h2⟩
 have hc:=Any.slices_Sort_int srtLays (K.ρ 0 0) 0 cap l w hH hblk (by omega);rw [sorted_merge] at hc;refine hc.mono ?_;rintro e w' ⟨rfl,n,os,rfl⟩;have hmd:=hm.drawn (w.drawn+n);have hbk':(Go.Sort.ahead w n).heap[K.ρ 0 0]? = some (.cells cur 3 fr):=hbk;have hsl:(sorted l).length=l.length:=QHd l
 have hmr:=hmd.setRow hp0 hC cur (Go.Sort.putCells (Value.int .i64) 0 (sorted l).toArray cur) ⟨fr,hfr,hbk⟩ (by simp [Go.Sort.putCells]) (fun u hu=>by
   simp only [Go.Sort.putCells,Array.mem_toList_iff,Array.mem_mapIdx] at hu;obtain ⟨i,hi,rfl⟩:=hu;split
   ·rfl
   ·exact h1 _ (Array.mem_toList_iff.2 (Array.getElem_mem hi))) ((sorted l).map fun q_=>[I q_]) (by simp at g2 ⊢;omega) (by simp) (fun i j e x he hx=>by
   rw [yza] at he;obtain ⟨q,hq,rfl⟩:=Option.map_eq_some_iff.1 he;have hi:i<(sorted l).length:=(List.getElem?_eq_some_iff.1 hq).1;cases j with
   | succ j=>simp at hx
   | zero =>
    simp only [yfb,yba] at hx;subst hx;refine ⟨Value.int .i64 q,?_,.lit _⟩;have hic:i<cur.size:=by omega
    have e:(sorted l).toArray[i]! = q:=by
     rw [getElem!_pos _ i (by simpa using hi)];simpa using (List.getElem?_eq_some_iff.1 hq).2
    simp only [Nat.mul_one,y1a,Go.Sort.putCells,Array.getElem?_mapIdx,ywa hic,yEa,yBa,yjc,true_and,yna,ylb]
    rw [if_pos hi,e])
 rw [putRow_setRow hbk'];have hmg:=MemSat.grown os.toList hmr;exact ⟨_,K,rfl,Qmf (by rw [← hm.len];simp),hmg,.tup _ _ rfl (by intro i x v hx;simp at hx)⟩
end Go.Proofs.YtackngeeehiegaaGreatDoor
namespace Go.Proofs.YtackngeeehiegaaGreatDoor
set_option linter.unusedSimpArgs false
set_option linter.unusedVariables false
open Go.Fw
set_option maxRecDepth 20000
set_option maxHeartbeats 4000000
attribute [local irreducible] ACalls AMoves
theorem Job.zz {x:Job} (h:x.sz):x.name.size<=4294967296∧x.user.size<=4294967296∧x.account.size<=4294967296∧x.shape.alts.length<=4294967296∧x.after.length<=4294967296:=h
theorem Usage.zz {x:Usage} (h:x.sz):x.user.size<=4294967296∧x.account.size<=4294967296:=h
abbrev GV (f:FuncId) (a:List AVal) (r:AVal):Prop:=∀ objs,AGives Tryz.prog f a objs r
def Qsc (l:List Node):Bool:=(decide ((l.length:Int)<=100))
theorem law12_Few_c (l:List Node):GV 25 [nodeL l] (Bo (Qsc l)):=by
 generalize hR:Qsc l=R;refine gA (kp 3 []) Tryz.func25 ?_;exact lfA
def Qrc (s:Shape):Bool:=(decide ((s.alts.length:Int)<=100))
theorem law07_Few_c (s:Shape):GV 134 [Shape.a s] (Bo (Qrc s)):=by
 generalize hR:Qrc s=R;refine gA (kp 3 []) Tryz.func134 ?_;exact lfA
def Qvc (l:List Book):Bool:=(decide ((l.length:Int)<=100))
theorem law19_Few_c (l:List Book):GV 27 [bookL l] (Bo (Qvc l)):=by
 generalize hR:Qvc l=R;refine gA (kp 3 []) Tryz.func27 ?_;exact lfA
def Qk7 :List Usage->Nat->Bool
 | [],_=>true
 | x_ :: r,i=>bif ((decide ((ByteArray.size x_.user:Int) > 1000))||(decide ((ByteArray.size x_.account:Int) > 1000))) then false else Qk7 r (i+1)
def Quc (l:List Usage):Bool:=bif (decide ((l.length:Int) > 300)) then false else Qk7 l 0
theorem law17_Few_c (l:List Usage) (hs0:l.length<=9223372036854775807∧(∀ y ∈ l,y.szM)):GV 28 [Q93 l] (Bo (Quc l)):=by
 generalize hR:Quc l=R;refine gA (kp 4 [6,10,28]) Tryz.func28 ?_;obtain ⟨z9,z10⟩:=id hs0;refine ai (fun h1=>?_) (fun h2=>?_)
 ·have qh1:=yfa h1;exact lfA
 ·have qh2:=yea h2;refine Qx0 (fun (i:Nat)=>Qk7 (List.drop i l) i=R∧i<=l.length) (fun i=>l.length - i) (fun i=>[(0,Q93 l),(2,Bo false),(3,I (i:Int))]) (fun i=>[]) 0 (wkA []) ⟨folA,by exact omA⟩ ?_;clear hR;rintro i ⟨hR,hj⟩;(try dsimp only at hR hj);refine ai (fun h3=>?_) (fun h4=>?_)
  ·have hlt:=ltA h3;rw [Qq0 zJ hlt] at hR;have hxz:(l.getD i zJ).szM:=Qu4 (by first|assumption|grind) (Usage.szz _);have hkz:=hxz;obtain ⟨z5,z6⟩:((l.getD i zJ).user).size<=9223372036854775807∧((l.getD i zJ).account).size<=9223372036854775807:=hxz;refine ai gkA ?_;refine ai gkA ?_;refine ai (fun h7=>?_) (fun h8=>?_)
   ·exact lfA
   ·exact QD0 (i+1) (wkA []) omA ⟨folA,by exact omA⟩
  ·rw [Qv0 (l:=l) (j:=i) (geA h4)] at hR;exact lfA
def oc1 (x_:Int):Int:=(wu64 ((wu64 (BitVec.ofInt 64 (Int.fdiv x_ (2 ^ (min (Int.toNat 1) 64))) &&& BitVec.ofInt 64 6148914691236517205).toNat)+(wu64 (BitVec.ofInt 64 x_ &&& BitVec.ofInt 64 6148914691236517205).toNat)))
def oc2 (x_:Int):Int:=(wu64 ((wu64 (BitVec.ofInt 64 (Int.fdiv x_ (2 ^ (min (Int.toNat 2) 64))) &&& BitVec.ofInt 64 3689348814741910323).toNat)+(wu64 (BitVec.ofInt 64 x_ &&& BitVec.ofInt 64 3689348814741910323).toNat)))
def oc3 (x_:Int):Int:=(wu64 (BitVec.ofInt 64 (wu64 ((Int.fdiv x_ (2 ^ (min (Int.toNat 4) 64)))+x_)) &&& BitVec.ofInt 64 1085102592571150095).toNat)
def QQ5 (x_:Int):Int:=(w64 (BitVec.ofInt 64 (w64 (wu64 ((wu64 ((wu64 ((oc3 (oc2 (oc1 x_)))+(Int.fdiv (oc3 (oc2 (oc1 x_))) (2 ^ (min (Int.toNat 8) 64)))))+(Int.fdiv (wu64 ((oc3 (oc2 (oc1 x_)))+(Int.fdiv (oc3 (oc2 (oc1 x_))) (2 ^ (min (Int.toNat 8) 64))))) (2 ^ (min (Int.toNat 16) 64)))))+(Int.fdiv (wu64 ((wu64 ((oc3 (oc2 (oc1 x_)))+(Int.fdiv (oc3 (oc2 (oc1 x_))) (2 ^ (min (Int.toNat 8) 64)))))+(Int.fdiv (wu64 ((oc3 (oc2 (oc1 x_)))+(Int.fdiv (oc3 (oc2 (oc1 x_))) (2 ^ (min (Int.toNat 8) 64))))) (2 ^ (min (Int.toNat 16) 64))))) (2 ^ (min (Int.toNat 32) 64)))))) &&& BitVec.ofInt 64 127).toNat)
theorem Q5c (x_:Int):GV 79 [U x_] (I (QQ5 x_)):=by
 generalize hR:QQ5 x_=R;refine gA (kp 3 []) Tryz.func79 ?_;refine ai gkA ?_;refine ai gkA ?_;refine ai gkA ?_;refine ai gkA ?_;refine ai gkA ?_;refine ai gkA ?_;exact lfA
def Qm4 (f:Node->Bool):List Node->Nat->Int
 | [],_=>(-1)
 | x_ :: r,i=>bif (f x_) then (i:Int) else Qm4 f r (i+1)
def Qi2 (s:List Node) (f:Node->Bool):Int:=Qm4 f s 0
def Q86 (v:Int):List Int->Nat->Int
 | [],_=>(-1)
 | x_ :: r,i=>bif (v==x_) then (i:Int) else Q86 v r (i+1)
def Qz7 (s:List Int) (v:Int):Int:=Q86 v s 0
theorem Q1d (s:List Int) (v:Int) (hs0:s.length<=4294967296):GV 149 [ints s,I v] (I (Qz7 s v)):=by
 generalize hR:Qz7 s v=R;refine gA (kp 6 [7,8,9,16]) Tryz.func149 ?_;have hk0:=hs0;obtain z5:s.length<=4294967296:=hs0;refine Qx0 (fun (i:Nat)=>Q86 v (List.drop i s) i=R∧i<=s.length) (fun i=>s.length - i) (fun i=>[(0,ints s),(1,I v),(4,I 0),(7,I (s.length:Int)),(8,I (i:Int))]) (fun i=>[]) 0 (wkA []) ⟨foll hR rfl,by exact omA⟩ ?_;clear hR;rintro i ⟨hR,hj⟩;(try dsimp only at hR hj);refine ai (fun h1=>?_) (fun h2=>?_)
 ·have hlt:=ltA h1;rw [Qq0 0 hlt] at hR;refine ai gkA ?_;refine ai (fun h3=>?_) (fun h4=>?_)
  ·exact lfA
  ·exact QD0 (i+1) (wkA []) omA ⟨folA,by exact omA⟩
 ·rw [Qv0 (l:=s) (j:=i) (geA h2)] at hR;exact lfA
def QH2 (n:Int):Bool:=((decide (n >= 0))&&(decide (n<=1000000)))
theorem Qea (n:Int):GV 210 [I n] (Bo (QH2 n)):=by
 generalize hR:QH2 n=R;refine gA (kp 3 []) Tryz.func210 ?_;exact lfA
def QL5 (n:Int) (from_:Int) (to_:Int):Int:=bif (decide (n<from_)) then from_ else bif (decide (n > to_)) then to_ else n
theorem QEe (n:Int) (from_:Int) (to_:Int):GV 231 [I n,I from_,I to_] (I (QL5 n from_ to_)):=by
 generalize hR:QL5 n from_ to_=R;refine gA (kp 7 [7,12]) Tryz.func231 ?_;refine ai (fun h1=>?_) (fun h2=>?_)
 ·have qh1:=yfa h1;exact lfA
 ·have qh2:=yea h2;refine ai (fun h3=>?_) (fun h4=>?_)
  ·have qh3:=yfa h3;exact lfA
  ·have qh4:=yea h4;exact lfA
def Qj2 (n:Int):Bool:=((decide (n >= 0))&&(decide (n<=1000000)))
theorem Qd6 (n:Int):GV 191 [I n] (Bo (Qj2 n)):=by
 generalize hR:Qj2 n=R;refine gA (kp 3 []) Tryz.func191 ?_;exact lfA
def Qe1 (a:Alt):Bool:=((((decide (a.nodes >= 1))&&(decide (a.nodes<=48)))&&(decide (a.wall >= 1)))&&(decide (a.wall<=100000)))
theorem QBa (a:Alt):GV 239 [Alt.a a] (Bo (Qe1 a)):=by
 generalize hR:Qe1 a=R;refine gA (kp 3 []) Tryz.func239 ?_;exact lfA
def Qg3 (f:Alt->Bool):List Alt->Nat->Int
 | [],_=>(-1)
 | x_ :: r,i=>bif (f x_) then (i:Int) else Qg3 f r (i+1)
def Q81 (s:List Alt) (f:Alt->Bool):Int:=Qg3 f s 0
def QG2 (n:Int) (from_:Int) (to_:Int):Bool:=((decide (n >= from_))&&(decide (n<=to_)))
theorem Ql3 (n:Int) (from_:Int) (to_:Int):GV 264 [I n,I from_,I to_] (Bo (QG2 n from_ to_)):=by
 generalize hR:QG2 n from_ to_=R;refine gA (kp 7 []) Tryz.func264 ?_;exact lfA
def Qg1 (r_:Int):Int:=bif ((r_==9)||(r_==32)) then 1 else bif (((((decide (r_<32))||((decide (r_ >= 127))&&(decide (r_<=160))))||((decide (r_ >= 55296))&&(decide (r_<=57343))))||(r_==65533))||(decide (r_ > 1114111))) then 0 else bif ((decide (r_ >= 48))&&(decide (r_<=57))) then 3 else bif ((((decide (r_ >= 97))&&(decide (r_<=122)))||((decide (r_ >= 65))&&(decide (r_<=90))))||(decide (r_ > 160))) then 2 else 4
theorem QA4 (r_:Int):GV 300 [J r_] (I (Qg1 r_)):=by
 generalize hR:Qg1 r_=R;refine gA (kp 3 [3,10,37,44]) Tryz.func300 ?_;refine ai (fun h1=>?_) (fun h2=>?_)
 ·exact lfA
 ·refine ai (fun h3=>?_) (fun h4=>?_)
  ·exact lfA
  ·refine ai (fun h5=>?_) (fun h6=>?_)
   ·exact lfA
   ·refine ai (fun h7=>?_) (fun h8=>?_)
    ·exact lfA
    ·exact lfA
def QE0 (is:Int->Bool):Nat->LexReader->LexReader
 | 0,_=>zM
 | m+1,c=>bif ((decide (c.at_<(c.line.length:Int)))&&(is (c.line.getD (Int.toNat c.at_) 0))) then QE0 is m { c with at_:=(w64 (c.at_+1)) } else c
def QF0 (r_:LexReader) (c:LexReader):ByteArray × LexReader:=((runesBytes (List.drop (Int.toNat r_.at_) (List.take (Int.toNat c.at_) c.line))),c)
def Q30 (r_:LexReader) (is:Int->Bool):ByteArray × LexReader:=QF0 r_ (QE0 is ((Int.toNat ((r_.line.length:Int) - r_.at_))+1) r_)
theorem Qcb (is:Int->Bool):∀ (m:Nat) (c:LexReader),(QE0 is m c).line.length<=c.line.length
 | 0,_=>by simp [QE0,zM]
 | m+1,c=>by
  rw [QE0];cases ((decide (c.at_<(c.line.length:Int)))&&(is (c.line.getD (Int.toNat c.at_) 0))) with
  | true=>exact Qcb is m { c with at_:=(w64 (c.at_+1)) }
  | false=>exact yla _
theorem Qma (r_:LexReader) (is:Int->Bool) (h:r_.line.length<=400):(Q30 r_ is).1.size<=4294967296:=by
 have h1:=Qcb is ((Int.toNat ((r_.line.length:Int) - r_.at_))+1) r_;unfold Q30 QF0;refine yJa (QC6 _) ?_;simp only [yva,yra];omega
def QT4 (s:ByteArray):Nat->Nat->List Int->(List Int)
 | 0,_,_=>[]
 | m+1,i,c=>bif (decide ((i:Int)<(ByteArray.size s:Int))) then bif ((decide ((c.getD i 0) >= 65))&&(decide ((c.getD i 0)<=90))) then QT4 s m (i+1) (c.set i (wu8 ((wu8 ((c.getD i 0)+97)) - 65))) else QT4 s m (i+1) c else c
def Q54 (c:List Int):ByteArray:=(Qa3 c)
def QX6 (s:ByteArray):ByteArray:=Q54 (QT4 s ((Int.toNat ((ByteArray.size s:Int) - (0:Int)))+1) 0 (QV1 s))
theorem runes_Lower_c (s:ByteArray) (hs0:s.size<=4294967296):GV 331 [Sg s] (Sg (QX6 s)):=by
 generalize hR:QX6 s=R;refine gA (kp 6 [8,9,10,11,20]) Tryz.func331 ?_;have hk0:=hs0;obtain z5:s.size<=4294967296:=hs0;refine QP0 (fun (i:Nat) (c:List Int)=>∃ m,(Int.toNat ((ByteArray.size s:Int) - (i:Int)))<m∧Q54 (QT4 s m i c)=R∧c.length=ByteArray.size s∧(i:Int)<=(ByteArray.size s:Int)) (fun i c=>(Int.toNat ((ByteArray.size s:Int) - (i:Int)))) (fun i c=>[(2,Sg ⟨#[]⟩),(3,AVal.own 0 0 1 0 c.length),(8,AVal.own 0 0 1 0 c.length),(9,I (ByteArray.size s:Int)),(10,I (i:Int))]) (fun i c=>[(0,AObj.row 5 1 (c.map (fun q_=>[Y q_])))]) 0 (QV1 s) (wkA [0]) ⟨_,yeb _,foll hR rfl,by exact exA⟩ ?_;clear hR;rintro i c ⟨m,hm,hR,hx⟩;(try dsimp only at hR hm hx);obtain ⟨m,rfl⟩:=sucA m;refine ai (fun h1=>?_) (fun h2=>?_)
 ·have qh1:=yfa h1;refine ai gkA ?_;refine ⟨_,QT0 rfl rfl rfl (Qh1 0 i (by first|rfl|exact yna _|omega) ckA) rfl,?_⟩;refine ai (fun h3=>?_) (fun h4=>?_)
  ·refine ai gkA ?_;refine ⟨_,Qm3 rfl rfl rfl rfl (Qh1 0 i (by first|rfl|exact yna _|omega) ckA) rfl rfl (set_map i (wu8 ((wu8 ((c.getD i 0)+97)) - 65)) (by first|rfl|exact yna _|omega) rfl),?_⟩;exact Qr0 (i+1) (c.set i (wu8 ((wu8 ((c.getD i 0)+97)) - 65))) (wkA [0]) omA ⟨m,by exact omA,foll hR (congrArg (fun p:(List Int)=>Q54 p) (ct h1 (ct h3 rfl))),by exact exA⟩
  ·exact Qr0 (i+1) c (wkA [0]) omA ⟨m,by exact omA,foll hR (congrArg (fun p:(List Int)=>Q54 p) (ct h1 (cf h4 rfl))),by exact exA⟩
 ·have qh2:=yea h2;replace hR:Q54 c=R:=fo2 (fun p:(List Int)=>Q54 p) (c) hR (cf h2 rfl);(first|refine ⟨c,by exact cvA,?_⟩|refine ⟨_,fun _=>⟨c,by exact cvA,rfl,rfl⟩,?_⟩|refine ⟨_,rfl,⟨c,by exact cvA,Sub.refl _,rfl⟩,?_⟩);exact lfA
def QW0 (r_:LexReader) (at_:Int) (e_:Int):LexReader:=bif (r_.error==0) then (⟨r_.line,r_.at_,at_,e_⟩:LexReader) else r_
theorem Qw3 (r_:LexReader) (at_:Int) (e_:Int):AMoves Tryz.prog 320 [AVal.ptr 0 0 4 0 0,I at_,I e_] [(0,AObj.row 321 4 [[runes r_.line,I r_.at_,I r_.bad,I r_.error]])] 1 (AVal.tup []) [(0,AObj.row 321 4 [[runes ((QW0 r_ at_ e_).line),I ((QW0 r_ at_ e_).at_),I ((QW0 r_ at_ e_).bad),I ((QW0 r_ at_ e_).error)]])]:=by
 generalize hR:QW0 r_ at_ e_=R;refine mo (kp 6 [10]) Tryz.func320 ?_;refine ai (fun h1=>?_) (fun h2=>?_)
 ·obtain rfl:=foll hR (ct h1 rfl);exact rq (tt [0] (tO rfl (ts LexReader.lo) .nil) t1)
 ·obtain rfl:=foll hR (cf h2 rfl);exact rq (ttA [0])
def Qt6 (s:ByteArray):List (Nat × Int)->Bool
 | []=>(!(ByteArray.toList s==ByteArray.toList ⟨#[]⟩))
 | x_ :: r=>bif ((decide (x_.2<48))||(decide (x_.2 > 57))) then false else Qt6 s r
def QU7 (s:ByteArray):Bool:=Qt6 s (Qb7 s)
theorem QYd (s:ByteArray) (hs0:s.size<=4294967296):GV 333 [Sg s] (Bo (QU7 s)):=by
 generalize hR:QU7 s=R;refine gA (kp 5 [6,7,8,15]) Tryz.func333 ?_;have hk0:=hs0;obtain z5:s.size<=4294967296:=hs0;refine Qx0 (fun (pos:Nat)=>∃ m,ByteArray.size s - pos<=m∧Qt6 s (Q05 s m pos)=R) (fun pos=>ByteArray.size s - pos) (fun pos=>[(0,Sg s),(2,Bo false),(6,AVal.ptr 0 0 1 0 0)]) (fun pos=>[(0,AObj.other (.strIter s pos))]) 0 (wkA [0]) ⟨ByteArray.size s,by exact omA,foll hR rfl⟩ ?_;clear hR;rintro pos ⟨m,hm,hR⟩;(try dsimp only at hR hm);refine ai (fun h1=>?_) (fun h2=>?_)
 ·have hlt:=yfa h1;have hw:=QNa s pos;have hwe:=QMa s pos hlt;obtain ⟨m,rfl⟩:=sucA m;rw [QE4 h1] at hR;refine ai (fun _=>?_) (fun h=>nomatch h);refine ai (fun h3=>?_) (fun h4=>?_)
  ·exact lfA
  ·exact QD0 (pos+(Utf8.decode s pos).2) (wkA [0]) omA ⟨m,by exact omA,foll hR (cf h4 rfl)⟩
 ·rw [Qt7 h2] at hR;refine ai (fun h=>nomatch h) (fun _=>?_);exact lfA
theorem QV9 (s:ByteArray):∀ l,Qt6 s l=true->(!(ByteArray.toList s==ByteArray.toList ⟨#[]⟩))=true ∧ ∀ x ∈ l,48<=x.2∧x.2<=57
 | [],h=>⟨h,fun x hx=>nomatch hx⟩
 | x :: r,h=>by
  rw [Qt6] at h;cases hc:((decide (x.2<48))||(decide (x.2 > 57))) with
  | true=>rw [hc] at h;cases h
  | false =>
   rw [hc] at h;obtain ⟨a,b⟩:=QV9 s r h;refine ⟨a,fun y hy=>?_⟩;rcases List.mem_cons.1 hy with rfl|hy
   ·simp only [yZa,yCa] at hc;omega
   ·exact b y hy
theorem lex_digits_ok {s:ByteArray} {q:Bool} (h:(((!(QU7 s))||(decide ((ByteArray.size s:Int) > 9)))||q)=false):atoiOK s:=by
 simp only [yZa,yRb,yCa] at h;obtain ⟨⟨h1,h2⟩,_⟩:=h;obtain ⟨a,b⟩:=QV9 s _ h1;refine ⟨?_,by omega,fun i hi=>digits_bytes s s.size 0 (by omega) b i (by omega) hi⟩;rcases yMa s.size with h0|h0
 ·have e:s=⟨#[]⟩:=by
   apply ByteArray.ext;exact y5b h0
  rw [e] at a;simp at a
 ·exact h0
def Qw7 (s:ByteArray):Nat->Int->Nat->Int
 | 0,_,_=>0
 | m+1,n,i=>bif (decide ((i:Int)<(ByteArray.size s:Int))) then Qw7 s m (w64 ((w64 (n*10))+(w64 (wu8 (((QV1 s).getD i 0) - 48))))) (i+1) else n
def QF4 (n:Int):Int × Unit:=(n,())
def Qw9 (s:ByteArray):Int × Unit:=QF4 (Qw7 s ((Int.toNat ((ByteArray.size s:Int) - (0:Int)))+1) 0 0)
theorem Qyf (s:ByteArray) (hs0:s.size<=4294967296) (hp0:atoiOK s):GV 351 [Sg s] (AVal.tup [I ((Qw9 s).1),AVal.lit .nilIface]):=by
 generalize hR:Qw9 s=R;refine gA (kp 11 [30,39,44,47,48,49,50,56,66]) Tryz.func351 ?_;have hk0:=hs0;obtain z11:s.size<=4294967296:=hs0;refine ai (fun h1=>?_) (fun h2=>?_)
 ·refine ai gkA ?_;refine ai gkA ?_;refine ai (fun h3=>?_) (fun h4=>?_)
  ·exfalso;exact atoi_sign hp0 h3
  ·refine QP0 (fun (n:Int) (i:Nat)=>∃ m,(Int.toNat ((ByteArray.size s:Int) - (i:Int)))<m∧QF4 (Qw7 s m n i)=R∧(i:Int)<=(ByteArray.size s:Int)) (fun n i=>(Int.toNat ((ByteArray.size s:Int) - (i:Int)))) (fun n i=>[(0,Sg s),(2,I 0),(3,AVal.lit .nilIface),(5,Sg s),(6,I n),(47,AVal.own 0 0 1 0 (ByteArray.size s)),(48,I (ByteArray.size s:Int)),(49,I (i:Int))]) (fun n i=>[(0,AObj.row 5 1 ((QV1 s).map (fun q_=>[Y q_])))]) 0 0 (wkA [0]) ⟨_,yeb _,foll hR rfl,by exact exA⟩ ?_;clear hR;rintro n i ⟨m,hm,hR,hx⟩;(try dsimp only at hR hm hx);obtain ⟨m,rfl⟩:=sucA m;refine ai (fun h5=>?_) (fun h6=>?_)
   ·have qh5:=yfa h5;refine ai gkA ?_;refine ⟨_,QT0 rfl rfl rfl (Qh1 0 i (by first|rfl|exact yna _|omega) ckA) rfl,?_⟩;refine ai (fun h7=>?_) (fun h8=>?_)
    ·exfalso;exact atoi_digit hp0 (by omega) h7
    ·have qh8:=yea h8;exact Qr0 (w64 ((w64 (n*10))+(w64 (wu8 (((QV1 s).getD i 0) - 48))))) (i+1) (wkA [0]) omA ⟨m,by exact omA,foll hR (congrArg (fun p:Int=>QF4 p) (ct h5 rfl)),by exact exA⟩
   ·have qh6:=yea h6;replace hR:QF4 n=R:=fo2 (fun p:Int=>QF4 p) (n) hR (cf h6 rfl);refine ai gkA ?_;refine ai (fun h9=>?_) (fun h10=>?_)
    ·exfalso;exact atoi_minus hp0 h9
    ·exact lfA
 ·exfalso;have ha1:=hp0.1;have ha2:=hp0.2.1;simp at h2;omega
def QC2 (p_:List Int) (r_:Int) (i:Bool):(List Int):=bif i then (p_++([(wu8 (BitVec.ofInt 8 224 ||| BitVec.ofInt 8 (wu8 (Int.fdiv r_ (2 ^ (min (Int.toNat 12) 32))))).toNat),(wu8 (BitVec.ofInt 8 128 ||| BitVec.ofInt 8 (wu8 (BitVec.ofInt 8 (wu8 (Int.fdiv r_ (2 ^ (min (Int.toNat 6) 32)))) &&& BitVec.ofInt 8 63).toNat)).toNat),(wu8 (BitVec.ofInt 8 128 ||| BitVec.ofInt 8 (wu8 (BitVec.ofInt 8 (wu8 r_) &&& BitVec.ofInt 8 63).toNat)).toNat)]:List Int)) else bif ((decide ((wu32 r_) > 65535))&&(decide ((wu32 r_)<=1114111))) then (p_++([(wu8 (BitVec.ofInt 8 240 ||| BitVec.ofInt 8 (wu8 (Int.fdiv r_ (2 ^ (min (Int.toNat 18) 32))))).toNat),(wu8 (BitVec.ofInt 8 128 ||| BitVec.ofInt 8 (wu8 (BitVec.ofInt 8 (wu8 (Int.fdiv r_ (2 ^ (min (Int.toNat 12) 32)))) &&& BitVec.ofInt 8 63).toNat)).toNat),(wu8 (BitVec.ofInt 8 128 ||| BitVec.ofInt 8 (wu8 (BitVec.ofInt 8 (wu8 (Int.fdiv r_ (2 ^ (min (Int.toNat 6) 32)))) &&& BitVec.ofInt 8 63).toNat)).toNat),(wu8 (BitVec.ofInt 8 128 ||| BitVec.ofInt 8 (wu8 (BitVec.ofInt 8 (wu8 r_) &&& BitVec.ofInt 8 63).toNat)).toNat)]:List Int)) else (p_++([239,191,189]:List Int))
def Qv2 (p_:List Int) (r_:Int):(List Int):=bif (decide ((wu32 r_)<=2047)) then (p_++([(wu8 (BitVec.ofInt 8 192 ||| BitVec.ofInt 8 (wu8 (Int.fdiv r_ (2 ^ (min (Int.toNat 6) 32))))).toNat),(wu8 (BitVec.ofInt 8 128 ||| BitVec.ofInt 8 (wu8 (BitVec.ofInt 8 (wu8 r_) &&& BitVec.ofInt 8 63).toNat)).toNat)]:List Int)) else bif (decide ((wu32 r_)<55296)) then QC2 p_ r_ (decide ((wu32 r_)<55296)) else QC2 p_ r_ ((decide (57343<(wu32 r_)))&&(decide ((wu32 r_)<=65535)))
theorem QQ8 (p_:List Int) (r_:Int) (hs0:p_.length<=4294967296):AMoves Tryz.prog 350 [AVal.own 0 0 1 0 p_.length,J r_] [(0,AObj.row 5 1 (p_.map (fun q_=>[Y q_])))] 0 (AVal.own 0 0 1 0 (Qv2 p_ r_).length) [(0,AObj.row 5 1 ((Qv2 p_ r_).map (fun q_=>[Y q_])))]:=by
 generalize hR:Qv2 p_ r_=R;refine mo (kj [1000007] 6 [11,25,50]) Tryz.func350 ?_;have hk0:=hs0;obtain z9:p_.length<=4294967296:=hs0;refine ai (fun h1=>?_) (fun h2=>?_)
 ·have qh1:=yfa h1;refine ai gkA ?_;refine Or.inl ?_;(first|refine ⟨QD2 1 rfl lnA apA,?_⟩|refine ⟨Qw1 1 rfl apA,?_⟩);obtain rfl:=foll hR (ct h1 rfl);exact rq (ttA [0])
 ·have qh2:=yea h2;refine Qp2 (fun (i:Bool)=>QC2 p_ r_ i=R) (fun i=>[(0,AVal.own 0 0 1 0 p_.length),(1,J r_),(4,AVal.lit (.slice none 0 0)),(5,V (wu32 r_)),(25,Bo i)]) (fun i=>[(0,AObj.row 5 1 (p_.map (fun q_=>[Y q_])))]) ?_ ?_
  ·clear hR;rintro i hR;(try dsimp only at hR);refine ai (fun h3=>?_) (fun h4=>?_)
   ·refine ai gkA ?_;refine ai gkA ?_;refine Or.inl ?_;(first|refine ⟨QD2 1 rfl lnA apA,?_⟩|refine ⟨Qw1 1 rfl apA,?_⟩);obtain rfl:=foll hR (ct h3 rfl);exact rq (ttA [0])
   ·refine ai (fun h5=>?_) (fun h6=>?_)
    ·refine ai gkA ?_;refine ai gkA ?_;refine ai gkA ?_;refine Or.inl ?_;(first|refine ⟨QD2 1 rfl lnA apA,?_⟩|refine ⟨Qw1 1 rfl apA,?_⟩);obtain rfl:=foll hR (cf h4 (ct h5 rfl));exact rq (ttA [0])
    ·refine Or.inl ?_;(first|refine ⟨QD2 1 rfl lnA apA,?_⟩|refine ⟨Qw1 1 rfl apA,?_⟩);obtain rfl:=foll hR (cf h4 (cf h6 rfl));exact rq (ttA [0])
  ·refine ai (fun h7=>?_) (fun h8=>?_)
   ·have qh7:=yfa h7;exact Qt0 (decide ((wu32 r_)<55296)) (wkA [0]) (foll hR (cf h2 (ct h7 rfl)))
   ·have qh8:=yea h8;exact Qt0 ((decide (57343<(wu32 r_)))&&(decide ((wu32 r_)<=65535))) (wkA [0]) (foll hR (cf h2 (cf h8 rfl)))
def Qh3 (f:Dep->Bool):List Dep->Nat->Int
 | [],_=>(-1)
 | x_ :: r,i=>bif (f x_) then (i:Int) else Qh3 f r (i+1)
def Q91 (s:List Dep) (f:Dep->Bool):Int:=Qh3 f s 0
def QB4 (s2:List Alt):List Alt->Nat->Bool
 | [],_=>true
 | x_ :: r,i=>bif (!((x_.nodes==(s2.getD i zA).nodes)&&(x_.wall==(s2.getD i zA).wall))) then false else QB4 s2 r (i+1)
def QV5 (s1_:List Alt) (s2:List Alt):Bool:=bif ((s1_.length:Int)!=(s2.length:Int)) then false else QB4 s2 s1_ 0
theorem QZc (s1_:List Alt) (s2:List Alt) (hs0:s1_.length<=4294967296) (hs1:s2.length<=4294967296):GV 296 [altL s1_,altL s2] (Bo (QV5 s1_ s2)):=by
 generalize hR:QV5 s1_ s2=R;refine gA (kp 6 [10,12,13,14,24]) Tryz.func296 ?_;have hk0:=hs0;obtain z7:s1_.length<=4294967296:=hs0;have hk1:=hs1;obtain z8:s2.length<=4294967296:=hs1;refine ai (fun h1=>?_) (fun h2=>?_)
 ·exact lfA
 ·refine Qx0 (fun (i:Nat)=>QB4 s2 (List.drop i s1_) i=R∧i<=s1_.length) (fun i=>s1_.length - i) (fun i=>[(0,altL s1_),(1,altL s2),(4,Bo false),(12,I (s1_.length:Int)),(13,I (i:Int))]) (fun i=>[]) 0 (wkA []) ⟨folA,by exact omA⟩ ?_;clear hR;rintro i ⟨hR,hj⟩;(try dsimp only at hR hj);refine ai (fun h3=>?_) (fun h4=>?_)
  ·have hlt:=ltA h3;rw [Qq0 zA hlt] at hR;refine dchk (by kernel_rfl) ?_;refine ai gkA ?_;refine ai gkA ?_;refine ai (fun _=>(by kernel_rfl:eqOK _ _=true)) ?_;(repeat ((first|refine ai rfl ?_|refine ai (fun _=>rfl) ?_)));refine ai (fun h5=>?_) (fun h6=>?_)
   ·exact lfA
   ·exact QD0 (i+1) (wkA []) omA ⟨folA,by exact omA⟩
  ·rw [Qv0 (l:=s1_) (j:=i) (geA h4)] at hR;exact lfA
def QC4 (s2:List Dep):List Dep->Nat->Bool
 | [],_=>true
 | x_ :: r,i=>bif (!((x_.how==(s2.getD i zC).how)&&(x_.job==(s2.getD i zC).job))) then false else QC4 s2 r (i+1)
def QW5 (s1_:List Dep) (s2:List Dep):Bool:=bif ((s1_.length:Int)!=(s2.length:Int)) then false else QC4 s2 s1_ 0
theorem Q0d (s1_:List Dep) (s2:List Dep) (hs0:s1_.length<=4294967296) (hs1:s2.length<=4294967296):GV 271 [depL s1_,depL s2] (Bo (QW5 s1_ s2)):=by
 generalize hR:QW5 s1_ s2=R;refine gA (kp 6 [10,12,13,14,24]) Tryz.func271 ?_;have hk0:=hs0;obtain z7:s1_.length<=4294967296:=hs0;have hk1:=hs1;obtain z8:s2.length<=4294967296:=hs1;refine ai (fun h1=>?_) (fun h2=>?_)
 ·exact lfA
 ·refine Qx0 (fun (i:Nat)=>QC4 s2 (List.drop i s1_) i=R∧i<=s1_.length) (fun i=>s1_.length - i) (fun i=>[(0,depL s1_),(1,depL s2),(4,Bo false),(12,I (s1_.length:Int)),(13,I (i:Int))]) (fun i=>[]) 0 (wkA []) ⟨folA,by exact omA⟩ ?_;clear hR;rintro i ⟨hR,hj⟩;(try dsimp only at hR hj);refine ai (fun h3=>?_) (fun h4=>?_)
  ·have hlt:=ltA h3;rw [Qq0 zC hlt] at hR;refine dchk (by kernel_rfl) ?_;refine ai gkA ?_;refine ai gkA ?_;refine ai (fun _=>(by kernel_rfl:eqOK _ _=true)) ?_;(repeat ((first|refine ai rfl ?_|refine ai (fun _=>rfl) ?_)));refine ai (fun h5=>?_) (fun h6=>?_)
   ·exact lfA
   ·exact QD0 (i+1) (wkA []) omA ⟨folA,by exact omA⟩
  ·rw [Qv0 (l:=s1_) (j:=i) (geA h4)] at hR;exact lfA
def QI6 (c:Cmd) (i1:Bool):Cmd:=bif i1 then (⟨c.kind,0,⟨#[]⟩,⟨#[]⟩,⟨#[]⟩,zB,0,false,0,false,[],c.node,0,0⟩:Cmd) else bif (c.kind==10) then (⟨c.kind,0,⟨#[]⟩,⟨#[]⟩,⟨#[]⟩,zB,0,false,c.time,c.hasTime,[],0,c.nodes,c.from_⟩:Cmd) else (⟨c.kind,0,⟨#[]⟩,⟨#[]⟩,⟨#[]⟩,zB,0,false,0,false,[],0,0,0⟩:Cmd)
def Q15 (c:Cmd) (i:Bool):Cmd:=bif i then (⟨c.kind,c.job,⟨#[]⟩,⟨#[]⟩,⟨#[]⟩,zB,0,false,0,false,[],0,0,0⟩:Cmd) else bif (c.kind==5) then (⟨c.kind,c.job,⟨#[]⟩,⟨#[]⟩,⟨#[]⟩,zB,c.prio,c.hasPrio,c.time,c.hasTime,[],0,0,0⟩:Cmd) else bif (c.kind==6) then (⟨c.kind,c.job,⟨#[]⟩,⟨#[]⟩,⟨#[]⟩,zB,0,false,0,false,[],0,c.nodes,0⟩:Cmd) else bif (c.kind==7) then QI6 c (c.kind==7) else bif (c.kind==8) then QI6 c (c.kind==8) else QI6 c (c.kind==9)
def QG7 (c:Cmd):Cmd:=bif (c.kind==1) then { c with job:=0,time:=0,hasTime:=false,node:=0,nodes:=0,from_:=0 } else bif (c.kind==2) then Q15 c (c.kind==2) else bif (c.kind==3) then Q15 c (c.kind==3) else bif (c.kind==4) then Q15 c (c.kind==4) else bif (c.kind==11) then Q15 c (c.kind==11) else Q15 c (c.kind==12)
theorem cmd_bare_c (c:Cmd) (hs0:c.sz):GV 236 [Cmd.a c] (Cmd.a (QG7 c)):=by
 generalize hR:QG7 c=R;refine gA (kj [1000011,1000019] 4 [8,9,32,41,58,66,73]) Tryz.func236 ?_;have hk0:=hs0;obtain ⟨z25,z26,z27,z28,z29⟩:c.name.size<=4294967296∧c.user.size<=4294967296∧c.account.size<=4294967296∧(c.shape.alts.length<=4294967296)∧c.after.length<=4294967296:=hs0;refine ai (fun h1=>?_) (fun h2=>?_)
 ·refine dchk (by kernel_rfl) ?_;(repeat ((first|refine ai rfl ?_|refine ai (fun _=>rfl) ?_)));(try (refine dchk (by kernel_rfl) ?_));(repeat ((first|refine ai rfl ?_|refine ai (fun _=>rfl) ?_)));exact lfA
 ·refine Qp2 (fun (i:Bool)=>Q15 c i=R) (fun i=>[(1,AVal.ptr 0 0 18 0 0),(2,AVal.ptr 1 0 18 0 0),(3,AVal.ptr 2 0 18 0 0),(8,I c.kind),(32,Bo i)]) (fun i=>[(0,AObj.row 234 18 [[I c.kind,I c.job,Sg c.name,Sg c.user,Sg c.account,I c.shape.kind,altL c.shape.alts,I c.shape.min,I c.shape.max,I c.shape.wall,I c.prio,Bo c.hasPrio,I c.time,Bo c.hasTime,depL c.after,I c.node,I c.nodes,I c.from_]]),(0,AObj.row 234 18 [[I 0,I 0,Sg ⟨#[]⟩,Sg ⟨#[]⟩,Sg ⟨#[]⟩,I 0,AVal.lit (.slice none 0 0),I 0,I 0,I 0,I 0,Bo false,I 0,Bo false,AVal.lit (.slice none 0 0),I 0,I 0,I 0]]),(0,AObj.row 234 18 [[I c.kind,I 0,Sg ⟨#[]⟩,Sg ⟨#[]⟩,Sg ⟨#[]⟩,I 0,AVal.lit (.slice none 0 0),I 0,I 0,I 0,I 0,Bo false,I 0,Bo false,AVal.lit (.slice none 0 0),I 0,I 0,I 0]])]) ?_ ?_
  ·clear hR;rintro i hR;(try dsimp only at hR);refine ai (fun h3=>?_) (fun h4=>?_)
   ·exact lfA
   ·refine ai (fun h5=>?_) (fun h6=>?_)
    ·refine dchk (by kernel_rfl) ?_;(repeat ((first|refine ai rfl ?_|refine ai (fun _=>rfl) ?_)));exact lfA
    ·refine ai (fun h7=>?_) (fun h8=>?_)
     ·refine dchk (by kernel_rfl) ?_;(repeat ((first|refine ai rfl ?_|refine ai (fun _=>rfl) ?_)));exact lfA
     ·refine Qp2 (fun (i1:Bool)=>QI6 c i1=R) (fun i1=>[(1,AVal.ptr 0 0 18 0 0),(2,AVal.ptr 1 0 18 0 0),(3,AVal.ptr 2 0 18 0 0),(8,I c.kind),(66,Bo i1)]) (fun i1=>[(0,AObj.row 234 18 [[I c.kind,I c.job,Sg c.name,Sg c.user,Sg c.account,I c.shape.kind,altL c.shape.alts,I c.shape.min,I c.shape.max,I c.shape.wall,I c.prio,Bo c.hasPrio,I c.time,Bo c.hasTime,depL c.after,I c.node,I c.nodes,I c.from_]]),(0,AObj.row 234 18 [[I 0,I 0,Sg ⟨#[]⟩,Sg ⟨#[]⟩,Sg ⟨#[]⟩,I 0,AVal.lit (.slice none 0 0),I 0,I 0,I 0,I 0,Bo false,I 0,Bo false,AVal.lit (.slice none 0 0),I 0,I 0,I 0]]),(0,AObj.row 234 18 [[I c.kind,I 0,Sg ⟨#[]⟩,Sg ⟨#[]⟩,Sg ⟨#[]⟩,I 0,AVal.lit (.slice none 0 0),I 0,I 0,I 0,I 0,Bo false,I 0,Bo false,AVal.lit (.slice none 0 0),I 0,I 0,I 0]])]) ?_ ?_
      ·clear hR;rintro i1 hR;(try dsimp only at hR);refine ai (fun h9=>?_) (fun h10=>?_)
       ·exact lfA
       ·refine ai (fun h11=>?_) (fun h12=>?_)
        ·refine dchk (by kernel_rfl) ?_;(repeat ((first|refine ai rfl ?_|refine ai (fun _=>rfl) ?_)));exact lfA
        ·exact lfA
      ·refine ai (fun h13=>?_) (fun h14=>?_)
       ·exact Qt0 (c.kind==7) (wkA [0,1,2]) (foll hR (cf h4 (cf h6 (cf h8 (ct h13 rfl)))))
       ·refine ai (fun h15=>?_) (fun h16=>?_)
        ·exact Qt0 (c.kind==8) (wkA [0,1,2]) (foll hR (cf h4 (cf h6 (cf h8 (cf h14 (ct h15 rfl))))))
        ·exact Qt0 (c.kind==9) (wkA [0,1,2]) (foll hR (cf h4 (cf h6 (cf h8 (cf h14 (cf h16 rfl))))))
  ·refine ai (fun h17=>?_) (fun h18=>?_)
   ·exact Qt0 (c.kind==2) (wkA [0,1,2]) (foll hR (cf h2 (ct h17 rfl)))
   ·refine ai (fun h19=>?_) (fun h20=>?_)
    ·exact Qt0 (c.kind==3) (wkA [0,1,2]) (foll hR (cf h2 (cf h18 (ct h19 rfl))))
    ·refine ai (fun h21=>?_) (fun h22=>?_)
     ·exact Qt0 (c.kind==4) (wkA [0,1,2]) (foll hR (cf h2 (cf h18 (cf h20 (ct h21 rfl)))))
     ·refine ai (fun h23=>?_) (fun h24=>?_)
      ·exact Qt0 (c.kind==11) (wkA [0,1,2]) (foll hR (cf h2 (cf h18 (cf h20 (cf h22 (ct h23 rfl))))))
      ·exact Qt0 (c.kind==12) (wkA [0,1,2]) (foll hR (cf h2 (cf h18 (cf h20 (cf h22 (cf h24 rfl))))))
theorem Q7b (c:Cmd) (b:Bool):(QI6 c b).sz:=by
 cases b <;> simp only [QI6,cond_true,cond_false]
 ·cases (c.kind==10) <;> simp [Cmd.sz,Cmd.szN,Shape.szN,zB,ByteArray.size]
 ·simp [Cmd.sz,Cmd.szN,Shape.szN,zB,ByteArray.size]
theorem Q07 (c:Cmd) (b:Bool):(Q15 c b).sz:=by
 cases b <;> simp only [Q15,cond_true,cond_false]
 ·cases (c.kind==5) <;> simp only [cond_true,cond_false]
  ·cases (c.kind==6) <;> simp only [cond_true,cond_false]
   ·cases (c.kind==7) <;> simp only [cond_true,cond_false]
    ·cases (c.kind==8) <;> simp only [cond_true,cond_false] <;> exact Q7b _ _
    ·exact Q7b _ _
   ·simp [Cmd.sz,Cmd.szN,Shape.szN,zB,ByteArray.size]
  ·simp [Cmd.sz,Cmd.szN,Shape.szN,zB,ByteArray.size]
 ·simp [Cmd.sz,Cmd.szN,Shape.szN,zB,ByteArray.size]
theorem cmd_bare_sz (c:Cmd) (h:c.sz):(QG7 c).sz:=by
 unfold QG7;cases (c.kind==1) <;> simp only [cond_true,cond_false]
 ·cases (c.kind==2) <;> simp only [cond_true,cond_false]
  ·cases (c.kind==3) <;> simp only [cond_true,cond_false]
   ·cases (c.kind==4) <;> simp only [cond_true,cond_false]
    ·cases (c.kind==11) <;> simp only [cond_true,cond_false] <;> exact Q07 _ _
    ·exact Q07 _ _
   ·exact Q07 _ _
  ·exact Q07 _ _
 ·exact h
def Qk0 (v:Job):Cmd:=(⟨1,0,v.name,v.user,v.account,v.shape,v.prio,true,0,false,v.after,0,0,0⟩:Cmd)
theorem Qi7 (v:Job):GV 193 [Job.a v] (Cmd.a (Qk0 v)):=by
 generalize hR:Qk0 v=R;refine gA (kp 3 []) Tryz.func193 ?_;exact lfA
theorem QWc (l:List Alt) (hs0:l.length<=4294967296):GV 200 [altL l] (altL l):=by
 refine AGives.any' (.cons lw .nil) lw (ACalls.of_cwp (fun _=>true) Tryz.func200 rfl rfl ?_);obtain z1:l.length<=4294967296:=hs0;intro b hb;refine ai (fun h1=>?_) (fun h2=>?_)
 ·have hl:l=[]:=by
   rcases l with _|⟨x,r⟩
   ·rfl
   ·exact absurd ((hb (by simp)).symm.trans h1) (by decide)
  subst hl;exact QXe (fun r:List Alt=>altL r) (leaf:=[]) rfl lw Q40
 ·refine ⟨Qw1 16 rfl apA,?_⟩;exact QXe (fun r:List Alt=>altL r) (leaf:=l) rfl lw (Qa0 zA _ rfl eqA lnA)
theorem QXc (l:List Alt) (hs0:l.length<=4294967296):AMoves Tryz.prog 200 [altL l] [] 0 (AVal.own 0 0 2 0 l.length) [(0,AObj.row 178 2 (l.map Alt.cells))]:=by
 refine AMoves.of_cwp (fun _=>true) Tryz.func200 rfl rfl rfl ?_;obtain z1:l.length<=4294967296:=hs0;intro b hb;refine ai (fun h1=>?_) (fun h2=>?_)
 ·have hl:l=[]:=by
   rcases l with _|⟨x,r⟩
   ·rfl
   ·exact absurd ((hb (by simp)).symm.trans h1) (by decide)
  subst hl;refine Qi0 (fun r:List Alt=>AVal.own 0 0 2 0 r.length) (fun r:List Alt=>[(0,AObj.row 178 2 (r.map Alt.cells))]) (leaf:=[]) rfl ?_;exact Told.pad 178 2 (Qn4 [0] rfl (by decide) (tO rfl (tl eqA) .nil) (QY6 0 rfl))
 ·refine ⟨Qw1 16 rfl apA,?_⟩;refine Qi0 (fun r:List Alt=>AVal.own 0 0 2 0 r.length) (fun r:List Alt=>[(0,AObj.row 178 2 (r.map Alt.cells))]) (leaf:=l) rfl ?_;exact Qn4 [0] rfl (by decide) (tO rfl (tl eqA) .nil) (to 0 lnA)
def QS1 (n:Int):Int:=(wu64 (1*2 ^ (min (Int.toNat (wu64 n)) 64)))
theorem Qu6 (n:Int):GV 71 [I n] (U (QS1 n)):=by
 generalize hR:QS1 n=R;refine gA (kp 3 []) Tryz.func71 ?_;refine ai gkA ?_;exact lfA
def Qc8 (state:Int):Bool:=((decide (state >= 3))&&(decide (state<=7)))
theorem job_ended_c (state:Int):GV 198 [I state] (Bo (Qc8 state)):=by
 generalize hR:Qc8 state=R;refine gA (kp 3 []) Tryz.func198 ?_;exact lfA
def QR8 (b:Book):Bool:=(((((((decide (b.id >= 1))&&(decide (b.id<=99999)))&&(decide (b.from_ >= 0)))&&(decide (b.to > b.from_)))&&(decide (b.to<=1000000)))&&(decide (b.nodes >= 1)))&&(decide (b.nodes<=48)))
theorem Q8f (b:Book):GV 230 [Book.a b] (Bo (QR8 b)):=by
 generalize hR:QR8 b=R;refine gA (kp 3 []) Tryz.func230 ?_;exact lfA
def Q06 (s:ByteArray):Bool:=((decide ((ByteArray.size s:Int) >= 1))&&(decide ((ByteArray.size s:Int)<=64)))
theorem QN7 (s:ByteArray):GV 179 [Sg s] (Bo (Q06 s)):=by
 generalize hR:Q06 s=R;refine gA (kp 3 []) Tryz.func179 ?_;exact lfA
def Qo9 :List Int->Nat->Int
 | [],_=>0
 | x_ :: r,i=>bif (x_ != 0) then x_ else Qo9 r (i+1)
def QKa (vals:List Int):Int:=Qo9 vals 0
theorem QQd (vals:List Int) (hs0:vals.length<=4294967296):GV 232 [ints vals] (I (QKa vals)):=by
 generalize hR:QKa vals=R;refine gA (kp 6 [6,7,8,9,14]) Tryz.func232 ?_;have hk0:=hs0;obtain z5:vals.length<=4294967296:=hs0;refine Qx0 (fun (i:Nat)=>Qo9 (List.drop i vals) i=R∧i<=vals.length) (fun i=>vals.length - i) (fun i=>[(2,I 0),(3,I 0),(6,ints vals),(7,I (vals.length:Int)),(8,I (i:Int))]) (fun i=>[]) 0 (wkA []) ⟨foll hR rfl,by exact omA⟩ ?_;clear hR;rintro i ⟨hR,hj⟩;(try dsimp only at hR hj);refine ai (fun h1=>?_) (fun h2=>?_)
 ·have hlt:=ltA h1;rw [Qq0 0 hlt] at hR;refine ai gkA ?_;refine ai (fun h3=>?_) (fun h4=>?_)
  ·exact lfA
  ·exact QD0 (i+1) (wkA []) omA ⟨folA,by exact omA⟩
 ·rw [Qv0 (l:=vals) (j:=i) (geA h2)] at hR;exact lfA
def QI3 (x_:ByteArray):Bool:=(!(ByteArray.toList x_==ByteArray.toList x_))
theorem Qo8 (x_:ByteArray):GV 263 [Sg x_] (Bo (QI3 x_)):=by
 generalize hR:QI3 x_=R;refine gA (kp 3 []) Tryz.func263 ?_;exact lfA
def Qf1 (n:Int) (last:Int):Bool:=(((decide (n >= 1))&&(decide (n<=100000)))&&(decide (n > last)))
theorem Qje (n:Int) (last:Int):GV 75 [I n,I last] (Bo (Qf1 n last)):=by
 generalize hR:Qf1 n last=R;refine gA (kp 5 []) Tryz.func75 ?_;exact lfA
def QJd (l:List Node):(List Node):=l
theorem Ql8 (l:List Node) (hs0:l.length<=4294967296):AMoves Tryz.prog 135 [nodeL l] [] 0 (AVal.own 0 0 7 0 l.length) [(0,AObj.row 55 7 (l.map Node.cells))]:=by
 generalize hR:QJd l=R;refine mo (kp 3 []) Tryz.func135 ?_;have hk0:=hs0;obtain z1:l.length<=4294967296:=hs0;(first|refine ⟨QD2 56 rfl lnA apA,?_⟩|refine ⟨Qw1 56 rfl apA,?_⟩);obtain rfl:=foll hR rfl;exact rq (ttA [0])
def QIe (l:List Job):(List Job):=l
theorem Qz8 (l:List Job) (hs0:l.length<=4294967296∧(∀ y ∈ l,y.sz)):AMoves Tryz.prog 136 [jobL l] [] 0 (AVal.own 0 0 20 0 l.length) [(0,AObj.row 72 20 (l.map Job.cells))]:=by
 generalize hR:QIe l=R;refine mo (kp 3 []) Tryz.func136 ?_;obtain ⟨z1,z2⟩:=id hs0;(first|refine ⟨QD2 216 rfl lnA apA,?_⟩|refine ⟨Qw1 216 rfl apA,?_⟩);obtain rfl:=foll hR rfl;exact rq (ttA [0])
def QTb (l:List Resize):(List Resize):=l
theorem Qs7 (l:List Resize) (hs0:l.length<=4294967296):AMoves Tryz.prog 137 [QN1 l] [] 0 (AVal.own 0 0 5 0 l.length) [(0,AObj.row 49 5 (l.map Resize.cells))]:=by
 generalize hR:QTb l=R;refine mo (kp 3 []) Tryz.func137 ?_;have hk0:=hs0;obtain z1:l.length<=4294967296:=hs0;(first|refine ⟨QD2 40 rfl lnA apA,?_⟩|refine ⟨Qw1 40 rfl apA,?_⟩);obtain rfl:=foll hR rfl;exact rq (ttA [0])
def QId (l:List Book):(List Book):=l
theorem Qk8 (l:List Book) (hs0:l.length<=4294967296):AMoves Tryz.prog 138 [bookL l] [] 0 (AVal.own 0 0 4 0 l.length) [(0,AObj.row 122 4 (l.map Book.cells))]:=by
 generalize hR:QId l=R;refine mo (kp 3 []) Tryz.func138 ?_;have hk0:=hs0;obtain z1:l.length<=4294967296:=hs0;(first|refine ⟨QD2 32 rfl lnA apA,?_⟩|refine ⟨Qw1 32 rfl apA,?_⟩);obtain rfl:=foll hR rfl;exact rq (ttA [0])
def Q2d (l:List Usage):(List Usage):=l
theorem QD7 (l:List Usage) (hs0:l.length<=4294967296∧(∀ y ∈ l,y.sz)):AMoves Tryz.prog 139 [Q93 l] [] 0 (AVal.own 0 0 4 0 l.length) [(0,AObj.row 138 4 (l.map Usage.cells))]:=by
 generalize hR:Q2d l=R;refine mo (kp 3 []) Tryz.func139 ?_;obtain ⟨z1,z2⟩:=id hs0;(first|refine ⟨QD2 48 rfl lnA apA,?_⟩|refine ⟨Qw1 48 rfl apA,?_⟩);obtain rfl:=foll hR rfl;exact rq (ttA [0])
def QGe (l:List Alt):(List Alt):=l
theorem QY4 (l:List Alt) (hs0:l.length<=4294967296):GV 140 [altL l] (altL l):=by
 generalize hR:QGe l=R;refine gA (kp 3 []) Tryz.func140 ?_;have hk0:=hs0;obtain z1:l.length<=4294967296:=hs0;(first|refine ⟨QD2 16 rfl lnA apA,?_⟩|refine ⟨Qw1 16 rfl apA,?_⟩);obtain rfl:=foll hR rfl;exact Qb0 lw (Qa0 zA _ rfl eqA lnA)
def QHe (l:List Dep):(List Dep):=l
theorem QZ4 (l:List Dep) (hs0:l.length<=4294967296):GV 141 [depL l] (depL l):=by
 generalize hR:QHe l=R;refine gA (kp 3 []) Tryz.func141 ?_;have hk0:=hs0;obtain z1:l.length<=4294967296:=hs0;(first|refine ⟨QD2 16 rfl lnA apA,?_⟩|refine ⟨Qw1 16 rfl apA,?_⟩);obtain rfl:=foll hR rfl;exact Qb0 lw (Qa0 zC _ rfl eqA lnA)
def Qg0 (x_:List Resize) (target:Int) (cmp:Resize->Int->Int):Nat->Int->Int->Int × Int
 | 0,_,_=>(0,0)
 | m+1,i,j=>bif (decide (i<j)) then bif (decide ((cmp (x_.getD (Int.toNat (w64 (Int.fdiv (wu64 (w64 (i+j))) (2 ^ (min (Int.toNat 1) 64))))) zH) target)<0)) then Qg0 x_ target cmp m (w64 ((w64 (Int.fdiv (wu64 (w64 (i+j))) (2 ^ (min (Int.toNat 1) 64))))+1)) j else Qg0 x_ target cmp m i (w64 (Int.fdiv (wu64 (w64 (i+j))) (2 ^ (min (Int.toNat 1) 64)))) else (i,j)
def QC0 (x_:List Resize) (target:Int) (cmp:Resize->Int->Int) (i:Int) (j:Int):Int × Bool:=(i,((decide (i<(x_.length:Int)))&&((cmp (x_.getD (Int.toNat i) zH) target)==0)))
def Q00 (x_:List Resize) (target:Int) (cmp:Resize->Int->Int):Int × Bool:=QC0 x_ target cmp ((Qg0 x_ target cmp ((Int.toNat ((x_.length:Int) - 0))+1) 0 (x_.length:Int)).1) ((Qg0 x_ target cmp ((Int.toNat ((x_.length:Int) - 0))+1) 0 (x_.length:Int)).2)
theorem bsr_in (x_:List Resize) (target:Int) (cmp:Resize->Int->Int) (hn:x_.length<=4294967296):∀ (m:Nat) (i j:Int),0<=i->i<=j->j<=(x_.length:Int)->0<=(Qg0 x_ target cmp m i j).1∧(Qg0 x_ target cmp m i j).1<=(x_.length:Int)
 | 0,_,_,_,_,_=>by simp [Qg0]
 | m+1,i,j,h0,h1,h2=>by
  rw [Qg0];cases hd:decide (i<j) with
  | false=>exact ⟨h0,Int.le_trans h1 h2⟩
  | true =>
   have hlt:=yfa hd;rw [Qia h0 hlt h2 (by omega)];simp only [cond_true];cases decide (cmp (x_.getD (Int.toNat ((i+j) / 2)) zH) target<0) with
   | true =>
    have hw:w64 ((i+j) / 2+1)=(i+j) / 2+1:=wr (by omega);simp only [cond_true];rw [hw];exact bsr_in x_ target cmp hn m _ _ (by omega) (by omega) h2
   | false=>exact bsr_in x_ target cmp hn m _ _ h0 (by omega) (by omega)
theorem bsr_le (l:List Resize) (t:Int) (cmp:Resize->Int->Int) (hn:l.length<=4294967296):0<=(Q00 l t cmp).1∧(Q00 l t cmp).1<=(l.length:Int) :=
 bsr_in l t cmp hn _ _ _ (by omega) (by omega) (by omega)
theorem bsr_lt {l:List Resize} {t:Int} {cmp:Resize->Int->Int} (h:(!(Q00 l t cmp).2)=false):(Q00 l t cmp).1<(l.length:Int):=by
 simp only [Q00,QC0,yRb,yca,yda] at h;exact h.1
theorem bsr_at {l:List Resize} {t:Int} {cmp:Resize->Int->Int} (h:(!(Q00 l t cmp).2)=false) (hn:l.length<=4294967296):0<=(Q00 l t cmp).1∧(Q00 l t cmp).1<(l.length:Int)∧w64 ((Q00 l t cmp).1+1)=(Q00 l t cmp).1+1:=by
 have h1:=bsr_lt h;have h2:=bsr_le l t cmp hn;exact ⟨h2.1,h1,wr (by omega)⟩
def bsrF (y:Resize) (y1:Int):Int:=w64 (y.job - y1)
theorem bsr_cl:∀ (y1:Resize) (y2:Int),AMoves Tryz.prog 99 [Resize.a y1,I y2] [] 0 (I (bsrF y1 y2)) []:=by
 intro y1 y2;have hR:bsrF y1 y2=bsrF y1 y2:=rfl;refine mo (kp 5 []) Tryz.func99 ?_;refine Qi0 (fun r:Int=>I r) (fun _=>[]) (leaf:=(w64 (y1.job - y2))) (foll hR rfl) ?_;exact tt [] .nil t1
theorem b0b0 {P:Prop} (h:P:=by first|(dsimp only;rw [hh3];omega)|first|(dsimp only;rw [hh];omega)|exact exA):P:=h
theorem bsr_m (l:List Resize) (id_:Int) (z1:l.length<=4294967296):AMoves Tryz.prog 98 [QN1 l,I id_,AVal.fn (.func 99) [] []] [] 0 (AVal.tup [I ((Q00 l id_ bsrF).1),Bo ((Q00 l id_ bsrF).2)]) []:=by
 have hR:Q00 l id_ bsrF=Q00 l id_ bsrF:=rfl;refine mo (kp 12 [17,31]) Tryz.func98 ?_;refine QP0 (fun (i:Int) (j:Int)=>∃ m,(Int.toNat (j - i))<m∧QC0 l id_ bsrF (Qg0 l id_ bsrF m i j).1 (Qg0 l id_ bsrF m i j).2=Q00 l id_ bsrF∧0<=i∧i<=j∧j<=(l.length:Int)) (fun i j=>(Int.toNat (j - i))) (fun i j=>[(0,QN1 l),(1,I id_),(2,AVal.fn (.func 99) [] []),(6,I 0),(7,Bo false),(8,I (l.length:Int)),(9,I i),(10,I j)]) (fun i j=>[]) 0 (l.length:Int) (wkA []) ⟨_,yeb _,foll hR rfl,b0b0⟩ ?_;clear hR;rintro i j ⟨m,hm,hR,hx⟩;try dsimp only at hR hm hx
 obtain ⟨m,rfl⟩:=sucA m;refine ai (fun h9=>?_) (fun h10=>?_)
 ·have qh9:=yfa h9;have hq0:i<j:=qh9;have hh:w64 (Int.fdiv (wu64 (w64 (i+j))) (2 ^ (min (Int.toNat 1) 64)))=(i+j) / 2:=Qia hx.1 hq0 hx.2.2 (by omega);have hh3:w64 (w64 (Int.fdiv (wu64 (w64 (i+j))) (2 ^ (min (Int.toNat 1) 64)))+1)=(i+j) / 2+1:=by rw [hh];exact wr (by omega)
  refine And.intro (by first|exact fun hg=>yha (by first|(show 0<=w64 (Int.fdiv (wu64 (w64 (i+j))) (2 ^ (min (Int.toNat 1) 64)))∧w64 (Int.fdiv (wu64 (w64 (i+j))) (2 ^ (min (Int.toNat 1) 64)))<(l.length:Int);rw [hh];omega)|exact ckA)|exact gkA) ?_;refine And.intro (by first|exact fun hg=>yha (by first|(show 0<=w64 (Int.fdiv (wu64 (w64 (i+j))) (2 ^ (min (Int.toNat 1) 64)))∧w64 (Int.fdiv (wu64 (w64 (i+j))) (2 ^ (min (Int.toNat 1) 64)))<(l.length:Int);rw [hh];omega)|exact ckA)|exact gkA) ?_;refine us (mv [] (bsr_cl (l.getD (Int.toNat (w64 (Int.fdiv (wu64 (w64 (i+j))) (2 ^ (min (Int.toNat 1) 64))))) zH) id_) .nil (dl (Resize.low _ _) (d1 .nil)) .nil rx) ?_;refine ai (fun h11=>?_) (fun h12=>?_)
  ·have qh11:=yfa h11;exact Qr0 (w64 ((w64 (Int.fdiv (wu64 (w64 (i+j))) (2 ^ (min (Int.toNat 1) 64))))+1)) j (wkA []) (by first|(dsimp only;rw [hh3];omega)|first|(dsimp only;rw [hh];omega)|exact omA) ⟨m,by first|(dsimp only;rw [hh3];omega)|first|(dsimp only;rw [hh];omega)|exact omA,foll hR (congrArg (fun p:Int × Int=>QC0 l id_ bsrF p.1 p.2) (ct h9 (ct h11 rfl))),b0b0⟩
  ·have qh12:=yea h12;exact Qr0 i (w64 (Int.fdiv (wu64 (w64 (i+j))) (2 ^ (min (Int.toNat 1) 64)))) (wkA []) (by first|(dsimp only;rw [hh3];omega)|first|(dsimp only;rw [hh];omega)|exact omA) ⟨m,by first|(dsimp only;rw [hh3];omega)|first|(dsimp only;rw [hh];omega)|exact omA,foll hR (congrArg (fun p:Int × Int=>QC0 l id_ bsrF p.1 p.2) (ct h9 (cf h12 rfl))),b0b0⟩
 ·have qh10:=yea h10
  replace hR:QC0 l id_ bsrF i j=Q00 l id_ bsrF:=fo2 (fun p:Int × Int=>QC0 l id_ bsrF p.1 p.2) (i,j) hR (cf h10 rfl)
  refine And.intro (by first|exact fun hg=>yha (by first|(show 0<=w64 (Int.fdiv (wu64 (w64 (i+j))) (2 ^ (min (Int.toNat 1) 64)))∧w64 (Int.fdiv (wu64 (w64 (i+j))) (2 ^ (min (Int.toNat 1) 64)))<(l.length:Int);rw [hh];omega)|exact ckA)|exact gkA) ?_
  (first|apply u2|apply u3|apply u4|apply us);exact mv [] (bsr_cl (l.getD (Int.toNat i) zH) id_) .nil (dl (Resize.low _ _) (d1 .nil)) .nil rx
  refine Qi0 (fun r:Int × Bool=>AVal.tup [I r.1,Bo r.2]) (fun r:Int × Bool=>[]) (leaf:=(i,((decide (i<(l.length:Int)))&&((bsrF (l.getD (Int.toNat i) zH) id_)==0)))) (foll hR rfl) ?_;exact tt [] .nil (turn_tup (c1 (c1 .nil)))
theorem bsr_c (l:List Resize) (id_:Int) (z1:l.length<=4294967296) (objs:Objs):AGives Tryz.prog 98 [QN1 l,I id_,AVal.fn (.func 99) [] []] objs (AVal.tup [I ((Q00 l id_ bsrF).1),Bo ((Q00 l id_ bsrF).2)]):=by
 refine AGives.any' (.cons lw (l1 (.cons (Low.fn _ _ _ LowL.nil LowL.nil) .nil))) (Low.tup' (l1 (l1 .nil))) ?_ objs;have h:=bsr_m l id_ z1;unfold AGives ACalls;unfold AMoves at h;intro K w vs hm hr;refine (h K w vs hm hr).mono ?_;rintro e w' ⟨v,K',he,hle,hm',hv⟩;have hn:K.n=0:=hm.len.symm;refine ⟨v,_,_,K',he,⟨hle.M,fun o v h=>absurd h (by omega),fun o v h=>absurd h (by omega),by omega,fun o h=>absurd h (by omega),hle.w0,hle.B,hle.M0⟩,hm',hv,rfl,rfl⟩
def Qh5 (id_:Int):Bool:=((decide (id_ >= 1))&&(decide (id_<=99999)))
theorem table_known_c (id_:Int):GV 126 [I id_] (Bo (Qh5 id_)):=by
 generalize hR:Qh5 id_=R;refine gA (kp 3 []) Tryz.func126 ?_;exact lfA
def Qn0 (x_:List Job) (target:Int) (cmp:Job->Int->Int):Nat->Int->Int->Int × Int
 | 0,_,_=>(0,0)
 | m+1,i,j=>bif (decide (i<j)) then bif (decide ((cmp (x_.getD (Int.toNat (w64 (Int.fdiv (wu64 (w64 (i+j))) (2 ^ (min (Int.toNat 1) 64))))) zG) target)<0)) then Qn0 x_ target cmp m (w64 ((w64 (Int.fdiv (wu64 (w64 (i+j))) (2 ^ (min (Int.toNat 1) 64))))+1)) j else Qn0 x_ target cmp m i (w64 (Int.fdiv (wu64 (w64 (i+j))) (2 ^ (min (Int.toNat 1) 64)))) else (i,j)
def QX0 (x_:List Job) (target:Int) (cmp:Job->Int->Int) (i:Int) (j:Int):Int × Bool:=(i,((decide (i<(x_.length:Int)))&&((cmp (x_.getD (Int.toNat i) zG) target)==0)))
def QL0 (x_:List Job) (target:Int) (cmp:Job->Int->Int):Int × Bool:=QX0 x_ target cmp ((Qn0 x_ target cmp ((Int.toNat ((x_.length:Int) - 0))+1) 0 (x_.length:Int)).1) ((Qn0 x_ target cmp ((Int.toNat ((x_.length:Int) - 0))+1) 0 (x_.length:Int)).2)
def QMe (l:List Job):(List Job):=l
theorem QA8 (l:List Job) (hs0:l.length<=4294967296∧(∀ y ∈ l,y.sz)):AMoves Tryz.prog 187 [jobL l] [] 0 (AVal.own 0 0 20 0 l.length) [(0,AObj.row 72 20 (l.map Job.cells))]:=by
 generalize hR:QMe l=R;refine mo (kp 3 []) Tryz.func187 ?_;obtain ⟨z1,z2⟩:=id hs0;refine ai gkA ?_;(first|refine ⟨QD2 216 rfl lnA apA,?_⟩|refine ⟨Qw1 216 rfl apA,?_⟩);obtain rfl:=foll hR rfl;exact rq (ttA [0])
def QKe (l:List Alt):(List Alt):=l
theorem Q3d (l:List Alt) (hs0:l.length<=4294967296):GV 188 [altL l] (altL l):=by
 generalize hR:QKe l=R;refine gA (kp 3 []) Tryz.func188 ?_;have hk0:=hs0;obtain z1:l.length<=4294967296:=hs0;refine ai gkA ?_;(first|refine ⟨QD2 16 rfl lnA apA,?_⟩|refine ⟨Qw1 16 rfl apA,?_⟩);obtain rfl:=foll hR rfl;exact Qb0 lw (Qa0 zA _ rfl eqA lnA)
def QLe (l:List Dep):(List Dep):=l
theorem Q4d (l:List Dep) (hs0:l.length<=4294967296):GV 189 [depL l] (depL l):=by
 generalize hR:QLe l=R;refine gA (kp 3 []) Tryz.func189 ?_;have hk0:=hs0;obtain z1:l.length<=4294967296:=hs0;refine ai gkA ?_;(first|refine ⟨QD2 16 rfl lnA apA,?_⟩|refine ⟨Qw1 16 rfl apA,?_⟩);obtain rfl:=foll hR rfl;exact Qb0 lw (Qa0 zC _ rfl eqA lnA)
def Qz2 (n:Int):Bool:=((decide (n >= (-1000000)))&&(decide (n<=1000000)))
theorem QF8 (n:Int):GV 142 [I n] (Bo (Qz2 n)):=by
 generalize hR:Qz2 n=R;refine gA (kp 3 []) Tryz.func142 ?_;exact lfA
def QJ2 (t:Int):Bool:=((decide (t >= 0))&&(decide (t<=1000000)))
theorem Q5e (t:Int):GV 132 [I t] (Bo (QJ2 t)):=by
 generalize hR:QJ2 t=R;refine gA (kp 3 []) Tryz.func132 ?_;exact lfA
theorem QEc {t n:Int} {b:Bool} (h:(((!(QJ2 t))||(decide (n<t)))||b)=false):0<=t:=by
 simp [QJ2] at h;omega
def Qd1 (f:Int->Bool):Nat->Int->Int->Int × Int
 | 0,_,_=>(0,0)
 | m+1,i,j=>bif (decide (i<j)) then bif (!(f (w64 (Int.fdiv (wu64 (w64 (i+j))) (2 ^ (min (Int.toNat 1) 64)))))) then Qd1 f m (w64 ((w64 (Int.fdiv (wu64 (w64 (i+j))) (2 ^ (min (Int.toNat 1) 64))))+1)) j else Qd1 f m i (w64 (Int.fdiv (wu64 (w64 (i+j))) (2 ^ (min (Int.toNat 1) 64)))) else (i,j)
def QU4 (i:Int) (j:Int):Int:=i
def QO1 (n:Int) (f:Int->Bool):Int:=QU4 ((Qd1 f ((Int.toNat (n - 0))+1) 0 n).1) ((Qd1 f ((Int.toNat (n - 0))+1) 0 n).2)
theorem QP8 (f:Int->Bool) {N:Nat} (hN:N<=4294967296):∀ (m:Nat) (i j:Int),0<=i->i<=j->j<=N->Int.toNat (j - i)<m->i<=(Qd1 f m i j).1∧(Qd1 f m i j).1<=j∧(i<(Qd1 f m i j).1->f ((Qd1 f m i j).1 - 1)=false)∧((Qd1 f m i j).1<j->f (Qd1 f m i j).1=true)
 | 0,_,_,_,_,_,hm=>absurd hm (ylc _)
 | m+1,i,j,h0,hij,hj,hm=>by
  unfold Qd1;cases hc:decide (i<j) with
  | false =>
   have:=yea hc;simp only [cond_false];exact ⟨ySa _,by omega,fun h=>absurd h (by omega),fun h=>absurd h (by omega)⟩
  | true =>
   have hlt:=yfa hc;have hh:w64 (Int.fdiv (wu64 (w64 (i+j))) (2 ^ (min (Int.toNat 1) 64)))=(i+j) / 2:=Qia h0 hlt hj (by omega);have hw:w64 ((i+j) / 2+1)=(i+j) / 2+1:=wr (by omega);simp only [cond_true,hh,hw];cases hf:f ((i+j) / 2) with
   | false =>
    simp only [yTb,cond_true];obtain ⟨a,b,c,d⟩:=QP8 f hN m ((i+j) / 2+1) j (by omega) (by omega) hj (by omega);refine ⟨by omega,b,fun _=>?_,d⟩
    by_cases h:(i+j) / 2+1<(Qd1 f m ((i+j) / 2+1) j).1
    ·exact c h
    ·rw [show (Qd1 f m ((i+j) / 2+1) j).1 - 1=(i+j) / 2 by omega];exact hf
   | true =>
    simp only [ygb,cond_false];obtain ⟨a,b,c,d⟩:=QP8 f hN m i ((i+j) / 2) h0 (by omega) (by omega) (by omega);refine ⟨a,by omega,c,fun h=>?_⟩
    by_cases h2:(Qd1 f m i ((i+j) / 2)).1<(i+j) / 2
    ·exact d h2
    ·rw [show (Qd1 f m i ((i+j) / 2)).1=(i+j) / 2 by omega];exact hf
theorem Q0a (f:Int->Bool) {N:Nat} (hN:N<=4294967296):0<=QO1 (N:Int) f∧QO1 (N:Int) f<=N∧(0<QO1 (N:Int) f->f (QO1 (N:Int) f - 1)=false)∧(QO1 (N:Int) f<N->f (QO1 (N:Int) f)=true) :=
 QP8 f hN _ 0 N (ySa _) (by omega) (ySa _) (by omega)
def QK4 (n:Int) (from_:Int) (to_:Int):Bool:=((decide (n >= from_))&&(decide (n<=to_)))
theorem Qaa (n:Int) (from_:Int) (to_:Int):GV 89 [I n,I from_,I to_] (Bo (QK4 n from_ to_)):=by
 generalize hR:QK4 n from_ to_=R;refine gA (kp 7 []) Tryz.func89 ?_;exact lfA
theorem QSb (l:List Step) (hs0:l.length<=4294967296):AMoves Tryz.prog 207 [stepL l] [] 0 (AVal.own 0 0 2 0 l.length) [(0,AObj.row 182 2 (l.map Step.cells))]:=by
 refine AMoves.of_cwp (fun _=>true) Tryz.func207 rfl rfl rfl ?_;obtain z4:l.length<=4294967296:=hs0;intro b hb;refine ai (fun h1=>?_) (fun h2=>?_)
 ·have hl:l=[]:=by
   rcases l with _|⟨x,r⟩
   ·rfl
   ·exact absurd ((hb (by simp)).symm.trans h1) (by decide)
  subst hl;refine Qi0 (fun r:List Step=>AVal.own 0 0 2 0 r.length) (fun r:List Step=>[(0,AObj.row 182 2 (r.map Step.cells))]) (leaf:=[]) rfl ?_;exact Told.pad 182 2 (Qn4 [0] rfl (by decide) (tO rfl (tl eqA) .nil) (QY6 0 rfl))
 ·refine ⟨Qw1 16 rfl apA,?_⟩;refine Qi0 (fun r:List Step=>AVal.own 0 0 2 0 r.length) (fun r:List Step=>[(0,AObj.row 182 2 (r.map Step.cells))]) (leaf:=l) rfl ?_;exact Qn4 [0] rfl (by decide) (tO rfl (tl eqA) .nil) (to 0 lnA)
def Q21 (at_:Int) (free:Int) (out:List Step):List Step:=bif (((out.length:Int)==0)||((out.getD (Int.toNat (w64 ((out.length:Int) - 1))) zE).free != free)) then (out++([(⟨at_,free⟩:Step)]:List Step)) else out
theorem QJ3 (at_:Int) (free:Int) (out:List Step) (hs0:out.length<=4294967296):AMoves Tryz.prog 208 [I at_,I free,AVal.ptr 0 0 1 0 0] [(0,AObj.row 82 1 [[AVal.own 1 0 2 0 out.length]]),(0,AObj.row 182 2 (out.map Step.cells))] 1 (AVal.tup []) [(0,AObj.row 82 1 [[AVal.own 1 0 2 0 (Q21 at_ free out).length]]),(0,AObj.row 182 2 ((Q21 at_ free out).map Step.cells))]:=by
 generalize hR:Q21 at_ free out=R;refine mo (kp 6 [19]) Tryz.func208 ?_;have hk0:=hs0;obtain z3:out.length<=4294967296:=hs0;refine ai gkA ?_;refine ⟨_,fun hg=>QT0 rfl rfl rfl (Qh1 zE (Int.toNat (w64 ((out.length:Int) - 1))) (by first|rfl|exact yna _|omega) ckA) rfl,?_⟩;refine ai (fun h1=>?_) (fun h2=>?_)
 ·refine Or.inl ?_;(first|refine ⟨QD2 16 rfl lnA apA,?_⟩|refine ⟨Qw1 16 rfl apA,?_⟩);obtain rfl:=foll hR (ct h1 rfl);exact rq (ttA [0,1])
 ·obtain rfl:=foll hR (cf h2 rfl);exact rq (ttA [0,1])
theorem QN3 (a f:Int) (out:List Step):(Q21 a f out).length<=out.length+1:=by
 unfold Q21;cases (((out.length:Int)==0)||((out.getD (Int.toNat (w64 ((out.length:Int) - 1))) zE).free != f)) with
 | true=>simp
 | false=>simp
def Qy2 (n:Int):(List Step):=([(⟨0,(min (max n (-1000000)) 1000000)⟩:Step)]:List Step)
theorem profile_Flat_c (n:Int):GV 143 [I n] (stepL (Qy2 n)):=by
 generalize hR:Qy2 n=R;refine gA (kp 3 []) Tryz.func143 ?_;refine Or.inl ?_;obtain rfl:=foll hR rfl;exact Qb0 lw (seen_as (Qz3 (c:=Step.cells) (d:=zE) ([(⟨0,(min (max n (-1000000)) 1000000)⟩:Step)]:List Step) rfl))
def Q82 :List Job->Nat->List (Int × Int)->(List (Int × Int))
 | [],_,c=>c
 | x_ :: r,i,c=>bif (x_.state==2) then Q82 r (i+1) (setM x_.id x_.limit c) else Q82 r (i+1) c
def QS4 (c:List (Int × Int)):(List (Int × Int)):=c
def Qu0 (l:List Job):(List (Int × Int)):=QS4 (Q82 l 0 [])
theorem room_limits_o (l:List Job) (hs0:l.length<=4294967296∧(∀ y ∈ l,y.sz)):AMoves Tryz.prog 145 [jobL l] [] 0 (AVal.map 0) [(0,AObj.other (.map (mapEs ik I 0 (Qu0 l)) (Qu0 l).length))]:=by
 generalize hR:Qu0 l=R;refine mo (kp 6 [7,8,9,10,15]) Tryz.func145 ?_;obtain ⟨z10,z11⟩:=id hs0;refine QP0 (fun (i:Nat) (c:List (Int × Int))=>QS4 (Q82 (List.drop i l) i c)=R∧i<=l.length) (fun i c=>l.length - i) (fun i c=>[(2,AVal.lit (.map none)),(3,AVal.map 0),(7,jobL l),(8,I (l.length:Int)),(9,I (i:Int))]) (fun i c=>[(0,AObj.other (.map (mapEs ik I 0 c) c.length))]) 0 [] (wkA [0]) ⟨foll hR rfl,by exact omA⟩ ?_;clear hR;rintro i c ⟨hR,hj⟩;(try dsimp only at hR hj);refine ai (fun h1=>?_) (fun h2=>?_)
 ·have hlt:=ltA h1;rw [Qq0 zG hlt] at hR;have hxz:(l.getD i zG).sz:=Qu4 (by first|assumption|grind) (Job.szz _);have hkz:=hxz;obtain ⟨z3,z4,z5,z6,z7⟩:=Job.zz hxz;refine ai gkA ?_;refine ai (fun h8=>?_) (fun h9=>?_)
  ·refine ⟨_,_,QP1 rfl _ _,QFc (ek:=ik) ((l.getD i zG).id) ((l.getD i zG).limit) c rfl rfl,?_⟩;exact Qr0 (i+1) (setM (l.getD i zG).id (l.getD i zG).limit c) (wkA [0]) omA ⟨foll hR (congrArg (fun p:(List (Int × Int))=>QS4 p) (ct h8 rfl)),by exact omA⟩
  ·exact Qr0 (i+1) c (wkA [0]) omA ⟨foll hR (congrArg (fun p:(List (Int × Int))=>QS4 p) (cf h9 rfl)),by exact omA⟩
 ·rw [Qv0 (l:=l) (j:=i) (geA h2)] at hR;replace hR:QS4 c=R:=fo2 (fun p:(List (Int × Int))=>QS4 p) (c) hR rfl;obtain rfl:=foll hR rfl;exact rq (ttA [0])
def QQ0 (x_:Node) (limits:List (Int × Int)):Int:=bif (((x_.state==0)||(x_.state==4))||x_.drain) then 0 else bif (x_.state==3) then (w64 (x_.since+12)) else bif (!(getM x_.job limits).isSome) then 1000001 else (w64 (((getM x_.job limits).getD 0)+12))
theorem room_until_c (x_:Node) (limits:List (Int × Int)):AMoves Tryz.prog 146 [Node.a x_,AVal.map 0] [(0,AObj.other (.map (mapEs ik I 0 limits) limits.length))] 1 (I (QQ0 x_ limits)) [(0,AObj.other (.map (mapEs ik I 0 limits) limits.length))]:=by
 generalize hR:QQ0 x_ limits=R;refine mo (kp 7 [7,20,35]) Tryz.func146 ?_;refine ai (fun h1=>?_) (fun h2=>?_)
 ·obtain rfl:=foll hR (ct h1 rfl);exact rq (ttA [0])
 ·refine ai (fun h3=>?_) (fun h4=>?_)
  ·obtain rfl:=foll hR (cf h2 (ct h3 rfl));exact rq (ttA [0])
  ·(first|refine ⟨_,_,QP1 rfl _ _,QQ1 (ek:=ik) x_.job limits 0 (AsA.refl _),?_⟩|refine ⟨_,fun _=>⟨_,_,QP1 rfl _ _,QQ1 (ek:=ik) x_.job limits 0 (AsA.refl _),rfl,rfl⟩,?_⟩|refine ⟨_,rfl,⟨_,_,QP1 rfl _ _,QQ1 (ek:=ik) x_.job limits 0 (AsA.refl _),Sub.refl _,rfl⟩,?_⟩);refine ai (fun h5=>?_) (fun h6=>?_)
   ·obtain rfl:=foll hR (cf h2 (cf h4 (ct h5 rfl)));exact rq (ttA [0])
   ·obtain rfl:=foll hR (cf h2 (cf h4 (cf h6 rfl)));exact rq (ttA [0])
def Qda (x_:Node) (i2:Bool):Bool:=bif i2 then (x_.state != 4) else false
def Qca (x_:Node) (act:Int) (i1:Bool):Bool:=bif i1 then ((x_.state==1)||(x_.state==2)) else bif (act==5) then ((x_.state==1)&&(x_.want==0)) else bif (act==6) then ((x_.state==1)&&(x_.want==4)) else bif (act==8) then (x_.state==3) else bif (act==9) then ((x_.state != 4)&&(decide (x_.epoch<999999999))) else bif (act==10) then (x_.state==4) else bif (act==11) then ((x_.state==4)&&(x_.want==6)) else bif (act==12) then Qda x_ (act==12) else Qda x_ (act==13)
def Qba (x_:Node) (act:Int) (job:Int) (i:Bool):Bool:=bif i then (((((x_.state==0)&&(!x_.drain))&&(decide (x_.epoch<999999999)))&&(decide (job >= 1)))&&(decide (job<=99999))) else bif (act==3) then (x_.state==2) else bif (act==4) then Qca x_ act (act==4) else Qca x_ act (act==7)
def Qc2 (x_:Node) (act:Int) (job:Int):Bool:=bif (act==1) then Qba x_ act job (act==1) else Qba x_ act job (act==2)
theorem fleet_may_c (x_:Node) (act:Int) (job:Int):GV 211 [Node.a x_,I act,I job] (Bo (Qc2 x_ act job)):=by
 generalize hR:Qc2 x_ act job=R;refine gA (kj [1000005,1000010,1000025] 8 [16,17,41,46,50,60,70,75,85,90,100]) Tryz.func211 ?_;refine Qp2 (fun (i:Bool)=>Qba x_ act job i=R) (fun i=>[(2,I job),(3,AVal.ptr 0 0 7 0 0),(6,Bo false),(7,Bo ((x_.state==1)||(x_.state==2))),(16,I act),(17,Bo i)]) (fun i=>[(0,AObj.row 55 7 [[I x_.state,I x_.job,I x_.epoch,Bo x_.drain,I x_.want,I x_.since,I x_.asked]])]) ?_ ?_
 ·clear hR;rintro i hR;(try dsimp only at hR);refine ai (fun h1=>?_) (fun h2=>?_)
  ·exact lfA
  ·refine ai (fun h3=>?_) (fun h4=>?_)
   ·exact lfA
   ·refine Qp2 (fun (i1:Bool)=>Qca x_ act i1=R) (fun i1=>[(3,AVal.ptr 0 0 7 0 0),(6,Bo false),(7,Bo ((x_.state==1)||(x_.state==2))),(16,I act),(46,Bo i1)]) (fun i1=>[(0,AObj.row 55 7 [[I x_.state,I x_.job,I x_.epoch,Bo x_.drain,I x_.want,I x_.since,I x_.asked]])]) ?_ ?_
    ·clear hR;rintro i1 hR;(try dsimp only at hR);refine ai (fun h5=>?_) (fun h6=>?_)
     ·exact lfA
     ·refine ai (fun h7=>?_) (fun h8=>?_)
      ·exact lfA
      ·refine ai (fun h9=>?_) (fun h10=>?_)
       ·exact lfA
       ·refine ai (fun h11=>?_) (fun h12=>?_)
        ·exact lfA
        ·refine ai (fun h13=>?_) (fun h14=>?_)
         ·exact lfA
         ·refine ai (fun h15=>?_) (fun h16=>?_)
          ·exact lfA
          ·refine ai (fun h17=>?_) (fun h18=>?_)
           ·exact lfA
           ·refine Qp2 (fun (i2:Bool)=>Qda x_ i2=R) (fun i2=>[(3,AVal.ptr 0 0 7 0 0),(6,Bo false),(100,Bo i2)]) (fun i2=>[(0,AObj.row 55 7 [[I x_.state,I x_.job,I x_.epoch,Bo x_.drain,I x_.want,I x_.since,I x_.asked]])]) ?_ ?_
            ·clear hR;rintro i2 hR;(try dsimp only at hR);refine ai (fun h19=>?_) (fun h20=>?_)
             ·exact lfA
             ·exact lfA
            ·refine ai (fun h21=>?_) (fun h22=>?_)
             ·exact Qt0 (act==12) (wkA [0]) (foll hR (cf h6 (cf h8 (cf h10 (cf h12 (cf h14 (cf h16 (cf h18 (ct h21 rfl)))))))))
             ·exact Qt0 (act==13) (wkA [0]) (foll hR (cf h6 (cf h8 (cf h10 (cf h12 (cf h14 (cf h16 (cf h18 (cf h22 rfl)))))))))
    ·refine ai (fun h23=>?_) (fun h24=>?_)
     ·exact Qt0 (act==4) (wkA [0]) (foll hR (cf h2 (cf h4 (ct h23 rfl))))
     ·exact Qt0 (act==7) (wkA [0]) (foll hR (cf h2 (cf h4 (cf h24 rfl))))
 ·refine ai (fun h25=>?_) (fun h26=>?_)
  ·exact Qt0 (act==1) (wkA [0]) (foll hR (ct h25 rfl))
  ·exact Qt0 (act==2) (wkA [0]) (foll hR (cf h26 rfl))
theorem QRb (l:List Node) (hs0:l.length<=4294967296):AMoves Tryz.prog 212 [nodeL l] [] 0 (AVal.own 0 0 7 0 l.length) [(0,AObj.row 55 7 (l.map Node.cells))]:=by
 refine AMoves.of_cwp (fun _=>true) Tryz.func212 rfl rfl rfl ?_;obtain z27:l.length<=4294967296:=hs0;intro b hb;refine ai (fun h1=>?_) (fun h2=>?_)
 ·have hl:l=[]:=by
   rcases l with _|⟨x,r⟩
   ·rfl
   ·exact absurd ((hb (by simp)).symm.trans h1) (by decide)
  subst hl;refine Qi0 (fun r:List Node=>AVal.own 0 0 7 0 r.length) (fun r:List Node=>[(0,AObj.row 55 7 (r.map Node.cells))]) (leaf:=[]) rfl ?_;exact Told.pad 55 7 (Qn4 [0] rfl (by decide) (tO rfl (tl eqA) .nil) (QY6 0 rfl))
 ·refine ⟨Qw1 56 rfl apA,?_⟩;refine Qi0 (fun r:List Node=>AVal.own 0 0 7 0 r.length) (fun r:List Node=>[(0,AObj.row 55 7 (r.map Node.cells))]) (leaf:=l) rfl ?_;exact Qn4 [0] rfl (by decide) (tO rfl (tl eqA) .nil) (to 0 lnA)
def Qr9 (x_:Node) (act:Int):Node:=bif (act==12) then bif (act==12) then { x_ with drain:=(act==12) } else x_ else bif (act==13) then { x_ with drain:=(act==12) } else x_
def Q60 (x_:Node) (act:Int) (job:Int) (now:Int):Node:=bif (act==1) then (⟨1,job,(w64 (x_.epoch+1)),x_.drain,1,now,now⟩:Node) else bif (act==2) then (⟨2,job,(w64 (x_.epoch+1)),x_.drain,2,now,now⟩:Node) else bif (act==3) then (⟨1,x_.job,x_.epoch,x_.drain,3,now,now⟩:Node) else bif (act==5) then { x_ with want:=4,since:=now,asked:=now } else bif (act==7) then (⟨3,x_.job,x_.epoch,x_.drain,5,now,now⟩:Node) else bif (act==9) then (⟨4,0,(w64 (x_.epoch+1)),x_.drain,0,x_.since,x_.asked⟩:Node) else bif (act==10) then { x_ with want:=6,since:=now,asked:=now } else bif (act==11) then (⟨0,0,x_.epoch,false,0,x_.since,x_.asked⟩:Node) else bif (act==8) then { x_ with state:=0,job:=0,want:=0 } else bif (act==4) then bif (act==4) then { x_ with want:=0 } else Qr9 x_ act else bif (act==6) then { x_ with want:=0 } else Qr9 x_ act
theorem fleet_done_c (x_:Node) (act:Int) (job:Int) (now:Int):GV 213 [Node.a x_,I act,I job,I now] (Node.a (Q60 x_ act job now)):=by
 generalize hR:Q60 x_ act job now=R;refine AGives.any' (.cons (Node.low _ _) (l1 (l1 (l1 .nil)))) (Node.low _ _) (ACalls.of_cwp (kj [1000014] 10 [11,12,14,16,18,20,22,24,26,28,30,33]) Tryz.func213 rfl rfl ?_);(conv=>whnf);refine And.intro (fun h1=>?_) (fun h2=>?_)
 ·(conv=>whnf);refine ACalls.of_cwp (fun _=>true) Tryz.func255 rfl rfl ?_;(conv=>whnf);refine dchk (by kernel_rfl) ?_;(conv=>whnf);(repeat ((first|refine And.intro rfl ?_|refine And.intro (fun _=>rfl) ?_);conv=>whnf));refine ⟨_,_,Told.refl,?_⟩;(conv=>whnf);exact lfA
 ·(conv=>whnf);refine And.intro (fun h3=>?_) (fun h4=>?_)
  ·(conv=>whnf);refine ACalls.of_cwp (fun _=>true) Tryz.func255 rfl rfl ?_;(conv=>whnf);refine dchk (by kernel_rfl) ?_;(conv=>whnf);(repeat ((first|refine And.intro rfl ?_|refine And.intro (fun _=>rfl) ?_);conv=>whnf));refine ⟨_,_,Told.refl,?_⟩;(conv=>whnf);exact lfA
  ·(conv=>whnf);refine And.intro (fun h5=>?_) (fun h6=>?_)
   ·(conv=>whnf);refine ACalls.of_cwp (fun _=>true) Tryz.func255 rfl rfl ?_;(conv=>whnf);refine dchk (by kernel_rfl) ?_;(conv=>whnf);(repeat ((first|refine And.intro rfl ?_|refine And.intro (fun _=>rfl) ?_);conv=>whnf));refine ⟨_,_,Told.refl,?_⟩;(conv=>whnf);exact lfA
   ·(conv=>whnf);refine And.intro (fun h7=>?_) (fun h8=>?_)
    ·(conv=>whnf);refine ACalls.of_cwp (fun _=>true) Tryz.func255 rfl rfl ?_;(conv=>whnf);refine dchk (by kernel_rfl) ?_;(conv=>whnf);(repeat ((first|refine And.intro rfl ?_|refine And.intro (fun _=>rfl) ?_);conv=>whnf));refine ⟨_,_,Told.refl,?_⟩;(conv=>whnf);exact lfA
    ·(conv=>whnf);refine And.intro (fun h9=>?_) (fun h10=>?_)
     ·(conv=>whnf);refine ACalls.of_cwp (fun _=>true) Tryz.func255 rfl rfl ?_;(conv=>whnf);refine dchk (by kernel_rfl) ?_;(conv=>whnf);(repeat ((first|refine And.intro rfl ?_|refine And.intro (fun _=>rfl) ?_);conv=>whnf));refine ⟨_,_,Told.refl,?_⟩;(conv=>whnf);exact lfA
     ·(conv=>whnf);refine And.intro (fun h11=>?_) (fun h12=>?_)
      ·(conv=>whnf);exact lfA
      ·(conv=>whnf);refine And.intro (fun h13=>?_) (fun h14=>?_)
       ·(conv=>whnf);refine ACalls.of_cwp (fun _=>true) Tryz.func255 rfl rfl ?_;(conv=>whnf);refine dchk (by kernel_rfl) ?_;(conv=>whnf);(repeat ((first|refine And.intro rfl ?_|refine And.intro (fun _=>rfl) ?_);conv=>whnf));refine ⟨_,_,Told.refl,?_⟩;(conv=>whnf);exact lfA
       ·(conv=>whnf);refine And.intro (fun h15=>?_) (fun h16=>?_)
        ·(conv=>whnf);exact lfA
        ·(conv=>whnf);refine And.intro (fun h17=>?_) (fun h18=>?_)
         ·(conv=>whnf);exact lfA
         ·(conv=>whnf);refine join_start (X:=Unit) (fun _=>Qr9 x_ act  = R) (fun _=>[(1,I act),(2,I job),(4,AVal.ptr 0 0 7 0 0),(8,AVal.ptr 2 0 7 0 0),(9,AVal.fn (.func 255) [] [AVal.ptr 1 0 1 0 0,AVal.ptr 0 0 7 0 0]),(11,I act)]) (fun _=>[(0,AObj.row 55 7 [[I x_.state,I x_.job,I x_.epoch,Bo x_.drain,I x_.want,I x_.since,I x_.asked]]),(0,AObj.row 3 1 [[I now]]),(0,AObj.row 55 7 [[I 0,I 0,I 0,Bo false,I 0,I 0,I 0]])]) ?_ ?_
          ·clear hR;rintro _ hR;(try dsimp only at hR);(conv=>whnf);refine And.intro (fun h19=>?_) (fun h20=>?_)
           ·(conv=>whnf);refine And.intro (fun h21=>?_) (fun h22=>?_)
            ·(conv=>whnf);exact lfA
            ·(conv=>whnf);obtain rfl:=foll hR (ct h19 (cf h22 rfl));exact Qb0 (Node.low _ _) sr
           ·(conv=>whnf);refine And.intro (fun h23=>?_) (fun h24=>?_)
            ·(conv=>whnf);exact lfA
            ·(conv=>whnf);exact lfA
          ·(conv=>whnf);refine And.intro (fun h25=>?_) (fun h26=>?_)
           ·(conv=>whnf);refine And.intro (fun h27=>?_) (fun h28=>?_)
            ·(conv=>whnf);exact lfA
            ·(conv=>whnf);exact join_here () (wkA [0,1,2]) (foll hR (cf h2 (cf h4 (cf h6 (cf h8 (cf h10 (cf h12 (cf h14 (cf h16 (cf h18 (ct h25 (cf h28 rfl))))))))))))
           ·(conv=>whnf);refine And.intro (fun h29=>?_) (fun h30=>?_)
            ·(conv=>whnf);exact lfA
            ·(conv=>whnf);exact join_here () (wkA [0,1,2]) (foll hR (cf h2 (cf h4 (cf h6 (cf h8 (cf h10 (cf h12 (cf h14 (cf h16 (cf h18 (cf h26 (cf h30 rfl))))))))))))
def Qj3 (i:Bool):Bool:=bif i then true else false
def Q13 (act:Int):Bool:=bif (act==1) then Qj3 (act==1) else bif (act==2) then Qj3 (act==2) else bif (act==3) then Qj3 (act==3) else bif (act==5) then Qj3 (act==5) else bif (act==7) then Qj3 (act==7) else Qj3 (act==10)
theorem alloc_sends_c (act:Int):GV 157 [I act] (Bo (Q13 act)):=by
 generalize hR:Q13 act=R;refine gA (kj [1000008] 3 [3,4]) Tryz.func157 ?_;refine Qp2 (fun (i:Bool)=>Qj3 i=R) (fun i=>[(2,Bo false),(4,Bo i)]) (fun i=>[]) ?_ ?_
 ·clear hR;rintro i hR;(try dsimp only at hR);refine ai (fun h1=>?_) (fun h2=>?_)
  ·exact lfA
  ·exact lfA
 ·refine ai (fun h3=>?_) (fun h4=>?_)
  ·exact Qt0 (act==1) (wkA []) (foll hR (ct h3 rfl))
  ·refine ai (fun h5=>?_) (fun h6=>?_)
   ·exact Qt0 (act==2) (wkA []) (foll hR (cf h4 (ct h5 rfl)))
   ·refine ai (fun h7=>?_) (fun h8=>?_)
    ·exact Qt0 (act==3) (wkA []) (foll hR (cf h4 (cf h6 (ct h7 rfl))))
    ·refine ai (fun h9=>?_) (fun h10=>?_)
     ·exact Qt0 (act==5) (wkA []) (foll hR (cf h4 (cf h6 (cf h8 (ct h9 rfl)))))
     ·refine ai (fun h11=>?_) (fun h12=>?_)
      ·exact Qt0 (act==7) (wkA []) (foll hR (cf h4 (cf h6 (cf h8 (cf h10 (ct h11 rfl))))))
      ·exact Qt0 (act==10) (wkA []) (foll hR (cf h4 (cf h6 (cf h8 (cf h10 (cf h12 rfl))))))
def Qn1 (id_:Int):Bool:=((decide (id_ >= 1))&&(decide (id_<=99999)))
theorem QN8 (id_:Int):GV 57 [I id_] (Bo (Qn1 id_)):=by
 generalize hR:Qn1 id_=R;refine gA (kp 3 []) Tryz.func57 ?_;exact lfA
def Qqc (ok:Bool):Int:=bif (!ok) then 141 else 0
theorem job_when_c (ok:Bool):GV 227 [Bo ok] (I (Qqc ok)):=by
 generalize hR:Qqc ok=R;refine gA (kp 3 [4]) Tryz.func227 ?_;refine ai (fun h1=>?_) (fun h2=>?_)
 ·exact lfA
 ·exact lfA
theorem QYc (l:List Dep) (hs0:l.length<=4294967296):GV 292 [depL l] (depL l):=by
 refine AGives.any' (.cons lw .nil) lw (ACalls.of_cwp (fun _=>true) Tryz.func292 rfl rfl ?_);obtain z3:l.length<=4294967296:=hs0;intro b hb;refine ai (fun h1=>?_) (fun h2=>?_)
 ·have hl:l=[]:=by
   rcases l with _|⟨x,r⟩
   ·rfl
   ·exact absurd ((hb (by simp)).symm.trans h1) (by decide)
  subst hl;exact QXe (fun r:List Dep=>depL r) (leaf:=[]) rfl lw Q40
 ·refine ⟨Qw1 16 rfl apA,?_⟩;exact QXe (fun r:List Dep=>depL r) (leaf:=l) rfl lw (Qa0 zC _ rfl eqA lnA)
def law26_small :State:=(⟨4,([(⟨1,5,1,false,0,0,0⟩:Node),(⟨1,5,1,false,0,0,0⟩:Node),zF,zF]:List Node),([(⟨5,⟨#[97]⟩,⟨#[117]⟩,⟨#[120]⟩,(⟨3,[],1,3,60⟩:Shape),0,[],2,false,0,4,1,4,64,3,0⟩:Job)]:List Job),[],[],[],6,1⟩:State)
theorem Qwc :GV 29 [] (State.a law26_small):=by
 generalize hR:law26_small=R;refine gA (kp 3 []) Tryz.func29 ?_;refine Or.inl ?_;refine Or.inl ?_;obtain rfl:=foll hR rfl;exact Qb0 (State.low _ _) (Seen.agg (e1 (ev (seen_as (Qz3 (c:=Node.cells) (d:=zF) ([(⟨1,5,1,false,0,0,0⟩:Node),(⟨1,5,1,false,0,0,0⟩:Node),zF,zF]:List Node) rfl)) (ev (seen_as (as_deep (c:=Job.cells) (d:=zG) ([(⟨5,⟨#[97]⟩,⟨#[117]⟩,⟨#[120]⟩,(⟨3,[],1,3,60⟩:Shape),0,[],2,false,0,4,1,4,64,3,0⟩:Job)]:List Job) (.cons _ _ _ _ (a1 (a1 (a1 (a1 (a1 (av (Qe7) (a1 (a1 (a1 (a1 (av (Qe7) (a1 (a1 (a1 (a1 (a1 (a1 (a1 (a1 (a1 .nil)))))))))))))))))))) .nil))) (ev (Q40) (ev (Q40) (ev (Q40) (e1 (e1 .nil)))))))))
end Go.Proofs.YtackngeeehiegaaGreatDoor
