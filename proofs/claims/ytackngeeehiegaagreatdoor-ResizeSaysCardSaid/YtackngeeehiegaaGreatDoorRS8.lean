/-
  What the last text of this claim leans on: an evaluator over the code, contracts of functions, plain laws. Conditions stand in each statement.
-/
import Derived.Test.YtackngeeehiegaaGreatDoorRS7
import Derived.Test.YtackngeeehiegaaGreatDoorProg
import Derived.Shelf.Sort.Plain
import Derived.KernelRfl
namespace Go.Proofs.YtackngeeehiegaaGreatDoor
set_option linter.unusedSimpArgs false
set_option linter.unusedVariables false
open Go.Fw Go.RowKit Go.Lib
theorem QGf:∃ (I0:TypeInfo) (z:Value),Tryz.prog.info? 49 = some I0∧I0.zero=some z∧I0.size=5∧I0.bytes=40∧z.cells.size=5 ∧ ∀ u ∈ z.cells.toList,u.oneCell'=true:=by
 obtain ⟨i,v,h1,h2,h3,h4,h5⟩:=QY4 (P:=Tryz.prog) (t:=49) (z:=Resize.zero.cells) (by kernel_rfl)
 have hb:(Tryz.prog.info? 49).map (·.bytes)=some 40:=by kernel_rfl
 have hs:v.cells.size=5:=by
  have:=congrArg List.length h3
  simp [Resize.cells] at this
  omega
 rw [h1] at hb
 exact ⟨i,v,h1,h2,by omega,by simpa using hb,hs,h4⟩
theorem QR9 {z:Value} (h:∀ u ∈ z.cells.toList,u.oneCell'=true) (n:Nat):∀ u ∈ (Builtin.zeroCells z.cells n).toList,u.oneCell'=true:=by
 intro u hu
 simp only [Builtin.zeroCells,Array.toList_map,List.mem_map,Array.toList_range,List.mem_range] at hu
 obtain ⟨q,hq,rfl⟩:=hu
 rcases Nat.eq_zero_or_pos z.cells.size with h0|h0
 ·rw [h0] at hq;simp at hq
 ·rw [getElem!_pos z.cells _ (Nat.mod_lt _ h0)]
  exact h _ (by simp)
def Qc2 (l:List Resize) (i j:Int):List Resize:=l.take (Int.toNat i)++l.drop (Int.toNat j)
theorem Qpb (l:List Resize) (i j:Int) (hs0:l.length<=4294967296) (hp0:0<=i∧i<j∧j<=(l.length:Int)):AMoves Tryz.prog 175 [.own 0 0 5 0 l.length,I i,I j] [(0,.row 49 5 (l.map Resize.cells))] 0 (.own 0 0 5 0 (Qc2 l i j).length) [(0,.row 49 5 ((Qc2 l i j).map Resize.cells))]:=by
 intro K w vs hm hr
 obtain ⟨sv,iv,jv,rfl⟩:∃ a b c,vs=[a,b,c]:=by
  have hl:=hr.1
  match vs,hl with
  | [a,b,c],_=>exact ⟨a,b,c,rfl⟩
 obtain ⟨i,rfl⟩:∃ q:Nat,i=(q:Int):=⟨i.toNat,by omega⟩
 obtain ⟨j,rfl⟩:∃ q:Nat,j=(q:Int):=⟨j.toNat,by omega⟩
 obtain rfl:=Q11 (hr.2 1 _ _ rfl rfl)
 obtain rfl:=Q11 (hr.2 2 _ _ rfl rfl)
 have hij:i<j:=by omega
 have hjn:j<=l.length:=by omega
 obtain ⟨ho,hv,hcase⟩:=Qc6 (hr.2 0 _ _ rfl rfl)
 rcases hcase with ⟨_,h0,_⟩|⟨a,c,rfl,hlc,hC,ha⟩
 ·omega
 have hc0:c ≠ 0:=by omega
 obtain rfl:=ha hc0
 have hp:([(0,.row 49 5 (l.map Resize.cells))]:Objs)[0]? = some (0,.row 49 5 (l.map Resize.cells)):=rfl
 obtain ⟨hel,hesC,_⟩:=hm.obj 0 _ hp
 have hesC:(l.map Resize.cells).length<=K.C 0 0:=hesC
 have hC0:K.C 0 0 ≠ 0:=by omega
 obtain ⟨cur,hrow,hs,hone,hcell⟩:=hm.rowBlock hp hC0
 obtain ⟨fr,hfr,hg⟩:=hrow
 obtain ⟨I0,z,hi0,hz,his,hib,hzs,hz1⟩:=QGf
 have hsz:c*5<=cur.size:=by omega
 have hl5:l.length*5<=cur.toList.length:=by simp;omega
 have seg:=rowSeg (c:=cur.toList) hel hone (fun i j e x he hx=>by obtain ⟨u,hu,hr⟩:=hcell i j e x he hx;exact ⟨u,by simpa using hu,hr⟩) (by simpa using hl5)
 have A:=seg 0 i (by simp;omega)
 have B:=seg j (l.length - j) (by simp;omega)
 have AB:=A.append B
 refine (delete_w (K.ρ 0 0) l.length c i j w hij hjn hlc cur fr hg hfr hsz hone _ _ I0 z hi0 hz his hzs hz1 rfl rfl).mono ?_
 rintro e w' ⟨rfl,rfl⟩
 refine ⟨_,K,rfl,QUe (Nat.zero_le _),?_,?_⟩
 ·rw [setRow_setRow]
  have eL:(Qc2 l (i:Int) (j:Int)).map Resize.cells=((l.map Resize.cells).drop 0).take i++((l.map Resize.cells).drop j).take (l.length - j):=by
   unfold Qc2
   simp only [Int.toNat_natCast,List.map_append,List.map_take,List.map_drop,List.drop_zero]
   rw [List.take_of_length_le (i:=l.length - j) (by simp)]
  rw [← eL] at AB
  have hlen:(List.take (i*5) cur.toList++List.take ((l.length - j)*5) (List.drop (j*5) cur.toList)).length=(i+(l.length - j))*5:=by
   simp only [List.length_append,List.length_take,List.length_drop,Array.length_toList]
   omega
  rw [Nat.zero_mul,List.drop_zero] at AB
  have hl':((Qc2 l (i:Int) (j:Int)).map Resize.cells).length<=K.C 0 0:=by
   rw [eL]
   simp
   omega
  refine hm.drew.put hp hC0 ⟨fr,hfr,hg⟩ hs AB hl' (Eq.trans (b:=_++(Builtin.zeroCells z.cells (j - i)).toList++_) rfl (by rw [List.take_left' hlen,List.append_assoc])) ?_ ?_
  ·simp only [List.size_toArray,List.length_append,List.length_take,List.length_drop,Array.length_toList,size_zeroCells,hzs,List.length_take]
   omega
  ·intro u hu
   rcases List.mem_append.1 hu with hu|hu
   ·exact QR9 hz1 _ u hu
   ·have hu:=List.mem_of_mem_drop hu
    simp only [List.mem_append] at hu
    rcases hu with (hu|hu)|hu
    ·exact hone u (List.mem_of_mem_take hu)
    ·exact hone u (QY2 hu)
    ·exact hone u (List.mem_of_mem_drop hu)
 ·have e1:(Qc2 l (i:Int) (j:Int)).length=i+(l.length - j):=by
   unfold Qc2
   simp
   omega
  rw [e1]
  exact .own 0 0 5 0 _ ho hv _ c (by omega) hC ha
theorem Q7e (w:World) (A B C:Array Value) (t:TypeId):(((w.alloc (.cells A t)).drew.setRow w.heap.size B).drew).setRow w.heap.size C=(w.drew.drew).alloc (.cells C t):=by
 have e:∀ (v:World) (X Y:Array Value),(v.alloc (.cells X t)).setRow v.heap.size Y=v.alloc (.cells Y t):=by
  intro v X Y
  unfold World.setRow World.alloc
  congr 1
  apply Array.ext_getElem?
  intro i
  rw [Array.getElem?_modify,Array.getElem?_push,Array.getElem?_push]
  by_cases hi:v.heap.size=i
  ·subst hi
   simp
  ·rw [if_neg hi]
   rw [if_neg (Ne.symm hi),if_neg (Ne.symm hi)]
 show (((w.drew.drew.alloc (.cells A t)).setRow w.drew.drew.heap.size B)).setRow w.drew.drew.heap.size C=_
 rw [e,e]
theorem grow_lists (P S Q T:List Value) (a b q:Nat) (hP:P.length=a) (hS:S.length=b) :
  (List.take a (P++T)++S++List.drop (a+b) (P++T)).take (a+b)++Q++(List.take a (P++T)++S++List.drop (a+b) (P++T)).drop (a+b+q)=(P++S++Q)++T.drop (b+q):=by
 have e1:(P++T).drop (a+b)=T.drop b:=by rw [← List.drop_drop,List.drop_left' hP]
 have h2:(P++S).length=a+b:=by rw [List.length_append,hP,hS]
 rw [List.take_left' hP,e1,List.take_left' h2,← List.drop_drop (i:=q) (j:=a+b),List.drop_left' h2,List.drop_drop]
def Qo3 (l:List Resize) (i:Int) (v:List Resize):List Resize:=l.take (Int.toNat i)++v++l.drop (Int.toNat i)
theorem Qy9 (l:List Resize) (i:Int) (v:List Resize):(Qo3 l i v).length=l.length+v.length:=by
 unfold Qo3
 simp only [List.length_append,List.length_take,List.length_drop]
 omega
theorem insResize_in (l:List Resize) (i:Nat) (v:List Resize) (hs0:l.length<=4294967296) (hs1:v.length<=4294967296) (hi:i<l.length) (hm1:0<v.length):AMoves Tryz.prog 40 [.own 0 0 5 0 l.length,I (i:Int),Qp1 v] [(0,.row 49 5 (l.map Resize.cells))] 0 (.own 0 0 5 0 (Qo3 l (i:Int) v).length) [(0,.row 49 5 ((Qo3 l (i:Int) v).map Resize.cells))]:=by
 intro K w vs hm hr
 obtain ⟨sv,iv,vv,rfl⟩:∃ a b c,vs=[a,b,c]:=by
  have hl:=hr.1
  match vs,hl with
  | [a,b,c],_=>exact ⟨a,b,c,rfl⟩
 obtain rfl:=Q11 (hr.2 1 _ _ rfl rfl)
 obtain ⟨ho,hv,hcase⟩:=Qc6 (hr.2 0 _ _ rfl rfl)
 have hvr:=hr.2 2 _ _ rfl rfl
 rcases hcase with ⟨_,h0,_⟩|⟨a,c,rfl,hlc,hC,ha⟩
 ·omega
 have hc0:c ≠ 0:=by omega
 obtain rfl:=ha hc0
 have hp:([(0,.row 49 5 (l.map Resize.cells))]:Objs)[0]? = some (0,.row 49 5 (l.map Resize.cells)):=rfl
 obtain ⟨hel,hesC,_⟩:=hm.obj 0 _ hp
 have hesC:(l.map Resize.cells).length<=K.C 0 0:=hesC
 have hC0:K.C 0 0 ≠ 0:=by omega
 obtain ⟨cur,hrow,hs,hone,hcell⟩:=hm.rowBlock hp hC0
 obtain ⟨fr,hfr,hg⟩:=hrow
 obtain ⟨I0,z,hi0,hz,his,hib,hzs,hz1⟩:=QGf
 unfold Qp1 listA at hvr
 obtain ⟨A,vc,rfl,_,_,_,hseq⟩:=QR8 hvr
 obtain ⟨vb,voff,uf,rfl,hk,hM,_⟩:=hseq (by omega)
 obtain ⟨us,hV,hus⟩:=Qkd hm hvr
 obtain ⟨ad,had,hvs⟩:=hus (by omega)
 injection had with had
 subst had
 rw [Qn6] at hV
 have huslen:us.length=v.length*5:=by rw [hV.len];simp
 have hvb:vb ≠ K.ρ 0 0:=by
  rintro rfl
  have:=hM 0 0 (by omega) (by omega)
  rw [(hm.lo 0 _ hp rfl hC0).2.2] at this
  cases this
 have hvs':∀ j v,us[j]? = some v->w.cell? ⟨vb,voff+j,none⟩=some v:=fun j v h=>by
  have:=hvs j v h
  rwa [Fw.add_lit] at this
 have hsz:c*5<=cur.size:=by omega
 have hl5:l.length*5<=cur.toList.length:=by simp;omega
 have seg:=rowSeg (c:=cur.toList) hel hone (fun i j e x he hx=>by obtain ⟨u,hu,hr⟩:=hcell i j e x he hx;exact ⟨u,by simpa using hu,hr⟩) (by simpa using hl5)
 have A:=seg 0 i (by simp;omega)
 have B:=seg i (l.length - i) (by simp;omega)
 have AVB:=(A.append hV).append B
 have eL:(Qo3 l (i:Int) v).map Resize.cells=((l.map Resize.cells).drop 0).take i++v.map Resize.cells++((l.map Resize.cells).drop i).take (l.length - i):=by
  unfold Qo3
  simp only [Int.toNat_natCast,List.map_append,List.map_take,List.map_drop,List.drop_zero]
  rw [List.take_of_length_le (i:=l.length - i) (by simp)]
 rw [← eL,Nat.zero_mul,List.drop_zero] at AVB
 have hAl:(List.take (i*5) cur.toList).length=i*5:=by
  simp only [List.length_take,Array.length_toList]
  omega
 have hBl:(List.take ((l.length - i)*5) (List.drop (i*5) cur.toList)).length=(l.length - i)*5:=by
  simp only [List.length_take,List.length_drop,Array.length_toList]
  omega
 have hel':((Qo3 l (i:Int) v).map Resize.cells).length=l.length+v.length:=by rw [List.length_map,Qy9]
 by_cases hroom:l.length+v.length<=c
 ·refine (insert_shift_w (K.ρ 0 0) l.length c i vb voff v.length vc w hi hm1 hroom (by omega) hvb cur fr hg hfr hsz hone us huslen hvs' hV.one _ _ I0 hi0 his rfl rfl).mono ?_
  rintro e w' ⟨rfl,rfl⟩
  refine ⟨_,K,rfl,QUe (Nat.zero_le _),?_,?_⟩
  ·rw [setRow_setRow]
   have eX:∀ (T:List Value),((List.take ((i+v.length)*5) cur.toList++List.take ((l.length - i)*5) (List.drop (i*5) cur.toList)++T).take (i*5)++us++(List.take ((i+v.length)*5) cur.toList++List.take ((l.length - i)*5) (List.drop (i*5) cur.toList)++T).drop (i*5+us.length))=(List.take (i*5) cur.toList++us++List.take ((l.length - i)*5) (List.drop (i*5) cur.toList))++T:=by
    intro T
    have h1:(List.take ((i+v.length)*5) cur.toList).length=(i+v.length)*5:=by
     simp only [List.length_take,Array.length_toList]
     omega
    have h2:i*5+us.length=(i+v.length)*5:=by omega
    rw [h2,List.append_assoc (List.take ((i+v.length)*5) cur.toList),List.drop_left' h1,List.take_append_of_le_length (by rw [h1];omega),List.take_take,Nat.min_eq_left (by omega),List.append_assoc,List.append_assoc,List.append_assoc]
   refine hm.drew.put hp hC0 ⟨fr,hfr,hg⟩ hs AVB (by rw [hel'];omega) (Eq.trans (b:=_++us++_) rfl (eX _)) ?_ ?_
   ·simp only [List.size_toArray,List.length_append,List.length_take,List.length_drop,Array.length_toList]
    omega
   ·exact fun u hu=>hone u (List.mem_of_mem_drop hu)
  ·rw [Qy9]
   exact .own 0 0 5 0 _ ho hv _ c hroom hC ha
 ·have hge:=grownCap_ge w (l.length+v.length) c 49
  refine (insert_grow_w (K.ρ 0 0) l.length c i vb voff v.length vc w hi hm1 hlc (by omega) (by omega) cur fr hg hsz hone us huslen hvs' hV.one _ _ _ I0 z hi0 his hib hz hzs rfl rfl rfl).mono ?_
  rintro e w' ⟨rfl,rfl⟩
  rw [Q7e]
  have hzl:∀ n,(Builtin.zeroCells z.cells n).toList.length=n*5:=fun n=>by rw [Array.length_toList,size_zeroCells,hzs]
  have eX:=fun T=>grow_lists (List.take (i*5) cur.toList) us (List.take ((l.length - i)*5) (List.drop (i*5) cur.toList)) T (i*5) us.length ((l.length - i)*5) hAl rfl
  have e2:i*5+us.length=(i+v.length)*5:=by omega
  rw [e2] at eX
  have hZ:∀ u ∈ List.drop (us.length+(l.length - i)*5) ((Builtin.zeroCells z.cells (l.length+v.length - i)).toList++(Builtin.zeroCells z.cells (grownCap w (l.length+v.length) c 49 - (l.length+v.length))).toList),u.oneCell'=true:=by
   intro u hu
   rcases List.mem_append.1 (List.mem_of_mem_drop hu) with hu|hu
   ·exact QR9 hz1 _ u hu
   ·exact QR9 hz1 _ u hu
  have hc0':grownCap w (l.length+v.length) c 49 ≠ 0:=by omega
  have hN:(List.take (i*5) cur.toList++us++List.take ((l.length - i)*5) (List.drop (i*5) cur.toList)).length+(List.drop (us.length+(l.length - i)*5) ((Builtin.zeroCells z.cells (l.length+v.length - i)).toList++(Builtin.zeroCells z.cells (grownCap w (l.length+v.length) c 49 - (l.length+v.length))).toList)).length=grownCap w (l.length+v.length) c 49 * 5:=by
   rw [List.length_append,List.length_append,hAl,hBl,List.length_drop,List.length_append,hzl,hzl]
   omega
  have fin:∀ X:Array Value,X.toList=(List.take (i*5) cur.toList++us++List.take ((l.length - i)*5) (List.drop (i*5) cur.toList))++List.drop (us.length+(l.length - i)*5) ((Builtin.zeroCells z.cells (l.length+v.length - i)).toList++(Builtin.zeroCells z.cells (grownCap w (l.length+v.length) c 49 - (l.length+v.length))).toList) ->
    ∃ (r:Value) (K':Ctx),Ending.returned (.slice (some ⟨w.heap.size,0,none⟩) (l.length+v.length) (grownCap w (l.length+v.length) c 49)) = .returned r∧(K.cut 0).le K'∧MemSat K' [(0,.row 49 5 ((Qo3 l (i:Int) v).map Resize.cells))] (w.drew.drew.alloc (.cells X 49))∧Rep K' (.own 0 0 5 0 (Qo3 l (i:Int) v).length) r:=by
   intro X hX
   obtain ⟨K',h1,h2,h3⟩:=hm.drew.drew.newRow (te:=49) AVB lm hZ hc0' (by rw [hel'];exact hge) hN hX
   exact ⟨_,K',rfl,h1,h2,by rw [Qy9];exact h3 _ _ hge (Nat.le_refl _)⟩
  refine fin _ (Eq.trans ?_ (eX ((Builtin.zeroCells z.cells (l.length+v.length - i)).toList++(Builtin.zeroCells z.cells (grownCap w (l.length+v.length) c 49 - (l.length+v.length))).toList)))
  simp only [List.toList_toArray,Array.toList_append,List.append_assoc,hBl,e2]
set_option maxRecDepth 20000
attribute [local irreducible] ACalls AMoves
theorem insResize_end (l:List Resize) (v:List Resize) (hs0:l.length<=4294967296) (hs1:v.length<=4294967296) (hm1:0<v.length):AMoves Tryz.prog 40 [.own 0 0 5 0 l.length,I (l.length:Int),Qp1 v] [(0,.row 49 5 (l.map Resize.cells))] 0 (.own 0 0 5 0 (l++v).length) [(0,.row 49 5 ((l++v).map Resize.cells))]:=by
 refine mo (kp 10 [16,22,31,68]) Tryz.func40 ?_
 refine ai gkA ?_
 conv=>whnf
 refine ai (fun h1=>?_) (fun h2=>?_)
 ·have:=of_decide_eq_true h1
  omega
 conv=>whnf
 refine ai (fun h3=>?_) (fun h4=>?_)
 ·refine ⟨Qo1 40 rfl (by simp) (by simp;omega),?_⟩
  conv=>whnf
  exact rq (tt [0] (tO rfl (tl (by rw [Qn6,← List.map_append])) .nil) (to 0 (by simp)))
 ·have:((l.length:Int)==(l.length:Int))=false:=h4
  simp at this
theorem Qwb (l:List Resize) (i:Int) (v:List Resize) (hs0:l.length<=4294967296) (hs1:v.length<=4294967296) (hp0:0<=i∧i<=(l.length:Int)∧v.length=1):AMoves Tryz.prog 40 [.own 0 0 5 0 l.length,I i,Qp1 v] [(0,.row 49 5 (l.map Resize.cells))] 0 (.own 0 0 5 0 (Qo3 l i v).length) [(0,.row 49 5 ((Qo3 l i v).map Resize.cells))]:=by
 obtain ⟨i,rfl⟩:∃ q:Nat,i=(q:Int):=⟨i.toNat,by omega⟩
 rcases Nat.lt_or_ge i l.length with h|h
 ·exact insResize_in l i v hs0 hs1 h (by omega)
 ·obtain rfl:i=l.length:=by omega
  have e:Qo3 l (l.length:Int) v=l++v:=by
   unfold Qo3
   simp
  rw [e]
  exact insResize_end l v hs0 hs1 (by omega)
end Go.Proofs.YtackngeeehiegaaGreatDoor
namespace Go.Proofs.YtackngeeehiegaaGreatDoor
set_option linter.unusedSimpArgs false
set_option linter.unusedVariables false
open Go.Fw
end Go.Proofs.YtackngeeehiegaaGreatDoor
namespace Go.Proofs.YtackngeeehiegaaGreatDoor
set_option linter.unusedSimpArgs false
set_option linter.unusedVariables false
open Go.Shelf Go.Sort Go.RowKit
def srtRen:Ren :=
 {f:=fun x=>match x with
   | 189=>147
   | 125=>206
   | 257=>205
   | 128=>253
   | 129=>254
   | 294=>244
   | 295=>245
   | 296=>246
   | 297=>247
   | 298=>248
   | 299=>249
   | 216=>250
   | 300=>251
   | 301=>252
   | 328=>274
   | 329=>275
   | 330=>276
   | 331=>277
   | 332=>278
   | 215=>279
   | 343=>297
   | n=>n
  t:=fun x=>match x with
   | 28=>52
   | 3=>3
   | 46=>169
   | 0=>0
   | 51=>283
   | 53=>47
   | 4=>4
   | 183=>277
   | 182=>276
   | 131=>89
   | 5=>5
   | 9=>9
   | 218=>292
   | 222=>296
   | 228=>306
   | 229=>307
   | n=>n
  g:=fun x=>x }
theorem srtLays:Lays.n189 Tryz.prog srtRen where
 mixed:=by kernel_rfl
 f125:=Tryz.func206.trans (by kernel_rfl)
 f128:=Tryz.func253.trans (by kernel_rfl)
 f129:=Tryz.func254.trans (by kernel_rfl)
 f189:=Tryz.func147.trans (by kernel_rfl)
 f215:=Tryz.func279.trans (by kernel_rfl)
 f216:=Tryz.func250.trans (by kernel_rfl)
 f257:=Tryz.func205.trans (by kernel_rfl)
 f294:=Tryz.func244.trans (by kernel_rfl)
 f295:=Tryz.func245.trans (by kernel_rfl)
 f296:=Tryz.func246.trans (by kernel_rfl)
 f297:=Tryz.func247.trans (by kernel_rfl)
 f298:=Tryz.func248.trans (by kernel_rfl)
 f299:=Tryz.func249.trans (by kernel_rfl)
 f300:=Tryz.func251.trans (by kernel_rfl)
 f301:=Tryz.func252.trans (by kernel_rfl)
 f328:=Tryz.func274.trans (by kernel_rfl)
 f329:=Tryz.func275.trans (by kernel_rfl)
 f330:=Tryz.func276.trans (by kernel_rfl)
 f331:=Tryz.func277.trans (by kernel_rfl)
 f332:=Tryz.func278.trans (by kernel_rfl)
 f343:=Tryz.func297.trans (by kernel_rfl)
 t0:=Tryz.underlying0
 a0:=Tryz.isAgg0
 z0:=Tryz.sizeOf0
 v0:=Tryz.zeroValue0
 t3:=Tryz.underlying3
 a3:=Tryz.isAgg3
 z3:=Tryz.sizeOf3
 v3:=Tryz.zeroValue3
 t4:=Tryz.underlying4
 a4:=Tryz.isAgg4
 z4:=Tryz.sizeOf4
 v4:=Tryz.zeroValue4
 t5:=Tryz.underlying5
 a5:=Tryz.isAgg5
 z5:=Tryz.sizeOf5
 v5:=Tryz.zeroValue5
 t9:=Tryz.underlying9
 a9:=Tryz.isAgg9
 z9:=Tryz.sizeOf9
 v9:=Tryz.zeroValue9
 t28:=Tryz.underlying52
 a28:=Tryz.isAgg52
 z28:=Tryz.sizeOf52
 v28:=Tryz.zeroValue52
 t46:=Tryz.underlying169
 a46:=Tryz.isAgg169
 z46:=Tryz.sizeOf169
 v46:=Tryz.zeroValue169
 t51:=Tryz.underlying283
 a51:=Tryz.isAgg283
 z51:=Tryz.sizeOf283
 v51:=Tryz.zeroValue283
 t53:=Tryz.underlying47
 a53:=Tryz.isAgg47
 z53:=Tryz.sizeOf47
 v53:=Tryz.zeroValue47
 t131:=Tryz.underlying89
 a131:=Tryz.isAgg89
 z131:=Tryz.sizeOf89
 v131:=Tryz.zeroValue89
 t182:=Tryz.underlying276
 a182:=Tryz.isAgg276
 z182:=Tryz.sizeOf276
 v182:=Tryz.zeroValue276
 t183:=Tryz.underlying277
 a183:=Tryz.isAgg277
 z183:=Tryz.sizeOf277
 v183:=Tryz.zeroValue277
 t218:=Tryz.underlying292
 a218:=Tryz.isAgg292
 z218:=Tryz.sizeOf292
 v218:=Tryz.zeroValue292
 t222:=Tryz.underlying296
 a222:=Tryz.isAgg296
 z222:=Tryz.sizeOf296
 v222:=Tryz.zeroValue296
 t228:=Tryz.underlying306
 a228:=Tryz.isAgg306
 z228:=Tryz.sizeOf306
 v228:=Tryz.zeroValue306
 t229:=Tryz.underlying307
 a229:=Tryz.isAgg307
 z229:=Tryz.sizeOf307
 v229:=Tryz.zeroValue307
end Go.Proofs.YtackngeeehiegaaGreatDoor
namespace Go.Proofs.YtackngeeehiegaaGreatDoor
set_option linter.unusedSimpArgs false
set_option linter.unusedVariables false
open Go.Fw Go.RowKit
section
variable {K:Ctx} {objs:Objs}
theorem MemSat.grown (os:List Obj):∀ {w:World},MemSat K objs w->MemSat K objs (Go.Sort.grow w os.toArray):=by
 induction os with
 | nil=>intro w h;simpa [Go.Sort.grow] using h
 | cons x r ih =>
  intro w h
  have:=ih (h.junk x)
  rw [Go.Sort.alloc_eq_grow,Go.Sort.grow_grow] at this
  simpa using this
end
def insI (x:Int):List Int->List Int
 | []=>[x]
 | y :: r=>bif decide (y<x) then y :: insI x r else x :: y :: r
def sorted (l:List Int):List Int:=l.foldr insI []
theorem Q5f (x:Int):∀ o,(insI x o).Perm (x :: o)
 | []=>.refl _
 | y :: r=>by
  unfold insI
  cases decide (y<x) with
  | true=>exact ((Q5f x r).cons y).trans (.swap x y r)
  | false=>exact .refl _
theorem Q6f (x:Int):∀ o,o.Pairwise (fun a b=>a<=b)->(insI x o).Pairwise fun a b=>a<=b
 | [],_=>List.pairwise_singleton _ _
 | y :: r,h=>by
  obtain ⟨h1,h2⟩:=List.pairwise_cons.1 h
  unfold insI
  cases ha:decide (y<x) with
  | true =>
   have ha:=of_decide_eq_true ha
   refine List.pairwise_cons.2 ⟨fun z hz=>?_,Q6f x r h2⟩
   rcases List.mem_cons.1 ((Q5f x r).mem_iff.1 hz) with rfl|hz
   ·omega
   ·exact h1 z hz
  | false =>
   have ha:=of_decide_eq_false ha
   refine List.pairwise_cons.2 ⟨fun z hz=>?_,h⟩
   rcases List.mem_cons.1 hz with rfl|hz
   ·omega
   ·have:=h1 z hz;omega
theorem QGb:∀ l:List Int,(sorted l).Perm l
 | []=>.refl _
 | x :: r=>(Q5f x _).trans ((QGb r).cons x)
theorem sorted_pw:∀ l:List Int,(sorted l).Pairwise fun a b=>a<=b
 | []=>.nil
 | x :: r=>Q6f x _ (sorted_pw r)
theorem sorted_merge (l:List Int):l.mergeSort (fun x y=>decide (x<=y))=sorted l :=
 List.Perm.eq_of_pairwise (le:=fun x y=>x<=y) (fun a b _ _ h1 h2=>Int.le_antisymm h1 h2)
  ((List.pairwise_mergeSort (fun a b c h1 h2=>by simp at *;omega) (fun a b=>by simp;omega) l).imp fun h=>by simpa using h) (sorted_pw l) ((List.mergeSort_perm l _).trans (QGb l).symm)
@[simp] theorem sorted_len (l:List Int):(sorted l).length=l.length:=(QGb l).length_eq
theorem putRow_setRow {w:World} {g:Nat} {c:Array Value} {t:TypeId} {fr:Nat × Nat} (hb:w.heap[g]? = some (.cells c t fr)) (d:Array Int):Go.Sort.putRow (Value.int .i64) w g 0 d=w.setRow g (Go.Sort.putCells (Value.int .i64) 0 d c):=by
 unfold Go.Sort.putRow Go.Sort.mapBlock World.setRow
 congr 1
 apply Array.ext_getElem?
 intro i
 simp only [Array.getElem?_modify]
 by_cases hi:g=i
 ·subst hi
  simp [hb,Go.Sort.onCells]
 ·simp [hi]
theorem slices_Sort_c (l:List Int) (hl:l.length<=4294967296) (h0:l ≠ []):AMoves Tryz.prog 147 [.own 0 0 1 0 l.length] [(0,.row 3 1 (l.map fun q_=>[I q_]))] 1 (.tup []) [(0,.row 3 1 ((sorted l).map fun q_=>[I q_]))]:=by
 intro K w vs hm hr
 have hp0:([(0,.row 3 1 (l.map fun q_=>[I q_]))]:Objs)[0]? = some (0,.row 3 1 (l.map fun q_=>[I q_])):=rfl
 have hlen:l.length ≠ 0:=by simpa using h0
 obtain ⟨v,rfl⟩:∃ v,vs=[v]:=List.length_eq_one_iff.1 hr.1
 obtain ⟨_,_,hcase⟩:=Qc6 (hr.2 0 _ _ rfl rfl)
 rcases hcase with ⟨_,q,_⟩|⟨a,cap,rfl,q1,q2,q3⟩
 ·exact absurd q hlen
 have ha:=q3 (by omega)
 simp only [Nat.zero_mul] at ha
 subst ha
 obtain ⟨g1,g2,g3⟩:=hm.obj 0 _ hp0
 have hC:K.C 0 0 ≠ 0:=by simp at g2;omega
 obtain ⟨cur,⟨fr,hfr,hbk⟩,hs,h1,hcr⟩:=g3 hC
 have hblk:=(hm.lo 0 _ hp0 rfl hC).2.1
 have hsz:l.length<=cur.size:=by
  have e:cur.size=K.C 0 0*1:=hs
  simp at g2
  omega
 have hcell:∀ (j:Nat) (n:Int),l[j]? = some n->cur[j]? = some (Value.int .i64 n):=by
  intro j n hj
  obtain ⟨u,hu,hru⟩:=hcr j 0 [I n] (I n) (by rw [List.getElem?_map,hj];rfl) rfl
  have e:=Q11 hru
  subst e
  rw [show j*1+0=j by omega] at hu
  exact hu
 have hH:Go.Sort.Holds (Value.int .i64) w (K.ρ 0 0) 0 l.toArray:=by
  intro j hj
  have hj':j<l.length:=by simpa using hj
  refine ⟨?_,?_⟩
  ·simp only [World.cell?,hbk,Nat.zero_add]
   have e:l[j]? = some (l[j]'hj'):=List.getElem?_eq_getElem hj'
   have:=hcell j _ e
   rw [this]
   congr 2
   rw [getElem!_pos l.toArray j hj]
   simp
  ·have hj2:=hfr j (by omega)
   obtain ⟨lo,hi'⟩:=fr
   simp only at hj2
   simp only [World.frozen?,hbk,Nat.zero_add,Bool.and_eq_false_imp,decide_eq_true_eq,decide_eq_false_iff_not]
   intro h1 h2
   exact hj2 ⟨h1,h2⟩
 have hc:=Any.slices_Sort_int srtLays (K.ρ 0 0) 0 cap l w hH hblk (by omega)
 rw [sorted_merge] at hc
 refine hc.mono ?_
 rintro e w' ⟨rfl,n,os,rfl⟩
 have hmd:=hm.drawn (w.drawn+n)
 have hbk':(Go.Sort.ahead w n).heap[K.ρ 0 0]? = some (.cells cur 3 fr):=hbk
 have hsl:(sorted l).length=l.length:=sorted_len l
 have hmr:=hmd.setRow hp0 hC cur (Go.Sort.putCells (Value.int .i64) 0 (sorted l).toArray cur) ⟨fr,hfr,hbk⟩ (by simp [Go.Sort.putCells]) (fun u hu=>by
   simp only [Go.Sort.putCells,Array.mem_toList_iff,Array.mem_mapIdx] at hu
   obtain ⟨i,hi,rfl⟩:=hu
   split
   ·rfl
   ·exact h1 _ (Array.mem_toList_iff.2 (Array.getElem_mem hi))) ((sorted l).map fun q_=>[I q_]) (by simp at g2 ⊢;omega) (by simp) (fun i j e x he hx=>by
   rw [List.getElem?_map] at he
   obtain ⟨q,hq,rfl⟩:=Option.map_eq_some_iff.1 he
   have hi:i<(sorted l).length:=(List.getElem?_eq_some_iff.1 hq).1
   cases j with
   | succ j=>simp at hx
   | zero =>
    simp only [List.getElem?_cons_zero,Option.some.injEq] at hx
    subst hx
    refine ⟨Value.int .i64 q,?_,.lit _⟩
    have hic:i<cur.size:=by omega
    have e:(sorted l).toArray[i]! = q:=by
     rw [getElem!_pos _ i (by simpa using hi)]
     simpa using (List.getElem?_eq_some_iff.1 hq).2
    simp only [Nat.mul_one,Nat.add_zero,Go.Sort.putCells,Array.getElem?_mapIdx,Array.getElem?_eq_getElem hic,Option.map_some,Nat.zero_le,Nat.sub_zero,true_and,Nat.zero_add,List.size_toArray]
    rw [if_pos hi,e])
 rw [putRow_setRow hbk']
 have hmg:=MemSat.grown os.toList hmr
 exact ⟨_,K,rfl,QUe (by rw [← hm.len];simp),hmg,.tup _ _ rfl (by intro i x v hx;simp at hx)⟩
end Go.Proofs.YtackngeeehiegaaGreatDoor
namespace Go.Proofs.YtackngeeehiegaaGreatDoor
set_option linter.unusedSimpArgs false
set_option linter.unusedVariables false
open Go.Fw
set_option maxRecDepth 20000
set_option maxHeartbeats 4000000
attribute [local irreducible] ACalls AMoves
theorem Job.zz {x:Job} (h:x.sz):x.name.size<=4294967296∧x.user.size<=4294967296∧x.account.size<=4294967296∧x.shape.alts.length<=4294967296∧x.after.length<=4294967296:=h
theorem Usage.zz {x:Usage} (h:x.sz):x.user.size<=4294967296∧x.account.size<=4294967296:=h
abbrev GV (f:FuncId) (a:List AVal) (r:AVal):Prop:=∀ objs,AGives Tryz.prog f a objs r
def Qec (l:List Node):Bool:=(decide ((l.length:Int)<=100))
theorem law12_Few_c (l:List Node):GV 25 [nodeL l] (Bo (Qec l)):=by
 generalize hR:Qec l=R;refine gA (kp 3 []) Tryz.func25 ?_;exact lfA
def Qdc (s:Shape):Bool:=(decide ((s.alts.length:Int)<=100))
theorem law07_Few_c (s:Shape):GV 134 [Shape.a s] (Bo (Qdc s)):=by
 generalize hR:Qdc s=R;refine gA (kp 3 []) Tryz.func134 ?_;exact lfA
def Qhc (l:List Book):Bool:=(decide ((l.length:Int)<=100))
theorem law19_Few_c (l:List Book):GV 27 [bookL l] (Bo (Qhc l)):=by
 generalize hR:Qhc l=R;refine gA (kp 3 []) Tryz.func27 ?_;exact lfA
def Qv7 :List Usage->Nat->Bool
 | [],_=>true
 | x_ :: r,i=>bif ((decide ((ByteArray.size x_.user:Int) > 1000))||(decide ((ByteArray.size x_.account:Int) > 1000))) then false else Qv7 r (i+1)
def Qgc (l:List Usage):Bool:=bif (decide ((l.length:Int) > 300)) then false else Qv7 l 0
theorem law17_Few_c (l:List Usage) (hs0:l.length<=9223372036854775807∧(∀ y ∈ l,y.szM)):GV 28 [QD2 l] (Bo (Qgc l)):=by
 generalize hR:Qgc l=R;refine gA (kp 4 [6,10,28]) Tryz.func28 ?_;obtain ⟨z9,z10⟩:=id hs0;refine ai (fun h1=>?_) (fun h2=>?_)
 ·have qh1:=of_decide_eq_true h1;exact lfA
 ·have qh2:=of_decide_eq_false h2;refine Qg0 (fun (i:Nat)=>Qv7 (List.drop i l) i=R∧i<=l.length) (fun i=>l.length - i) (fun i=>[(0,QD2 l),(2,Bo false),(3,I (i:Int))]) (fun i=>[]) 0 (wkA []) ⟨folA,by exact omA⟩ ?_;clear hR;rintro i ⟨hR,hj⟩;(try dsimp only at hR hj);refine ai (fun h3=>?_) (fun h4=>?_)
  ·have hlt:=ltA h3;rw [Qc0 Usage.zero hlt] at hR;have hxz:(l.getD i Usage.zero).szM:=Q94 (by first|assumption|grind) (Usage.szz _);have hkz:=hxz;obtain ⟨z5,z6⟩:((l.getD i Usage.zero).user).size<=9223372036854775807∧((l.getD i Usage.zero).account).size<=9223372036854775807:=hxz;refine ai gkA ?_;refine ai gkA ?_;refine ai (fun h7=>?_) (fun h8=>?_)
   ·exact lfA
   ·exact Ql0 (i+1) (wkA []) omA ⟨folA,by exact omA⟩
  ·rw [Qd0 (l:=l) (j:=i) (geA h4)] at hR;exact lfA
def oc1 (x_:Int):Int:=(wu64 ((wu64 (BitVec.ofInt 64 (Int.fdiv x_ (2 ^ (min (Int.toNat 1) 64))) &&& BitVec.ofInt 64 6148914691236517205).toNat)+(wu64 (BitVec.ofInt 64 x_ &&& BitVec.ofInt 64 6148914691236517205).toNat)))
def oc2 (x_:Int):Int:=(wu64 ((wu64 (BitVec.ofInt 64 (Int.fdiv x_ (2 ^ (min (Int.toNat 2) 64))) &&& BitVec.ofInt 64 3689348814741910323).toNat)+(wu64 (BitVec.ofInt 64 x_ &&& BitVec.ofInt 64 3689348814741910323).toNat)))
def oc3 (x_:Int):Int:=(wu64 (BitVec.ofInt 64 (wu64 ((Int.fdiv x_ (2 ^ (min (Int.toNat 4) 64)))+x_)) &&& BitVec.ofInt 64 1085102592571150095).toNat)
def QU5 (x_:Int):Int:=(w64 (BitVec.ofInt 64 (w64 (wu64 ((wu64 ((wu64 ((oc3 (oc2 (oc1 x_)))+(Int.fdiv (oc3 (oc2 (oc1 x_))) (2 ^ (min (Int.toNat 8) 64)))))+(Int.fdiv (wu64 ((oc3 (oc2 (oc1 x_)))+(Int.fdiv (oc3 (oc2 (oc1 x_))) (2 ^ (min (Int.toNat 8) 64))))) (2 ^ (min (Int.toNat 16) 64)))))+(Int.fdiv (wu64 ((wu64 ((oc3 (oc2 (oc1 x_)))+(Int.fdiv (oc3 (oc2 (oc1 x_))) (2 ^ (min (Int.toNat 8) 64)))))+(Int.fdiv (wu64 ((oc3 (oc2 (oc1 x_)))+(Int.fdiv (oc3 (oc2 (oc1 x_))) (2 ^ (min (Int.toNat 8) 64))))) (2 ^ (min (Int.toNat 16) 64))))) (2 ^ (min (Int.toNat 32) 64)))))) &&& BitVec.ofInt 64 127).toNat)
theorem QRb (x_:Int):GV 79 [U x_] (I (QU5 x_)):=by
 generalize hR:QU5 x_=R;refine gA (kp 3 []) Tryz.func79 ?_;refine ai gkA ?_;refine ai gkA ?_;refine ai gkA ?_;refine ai gkA ?_;refine ai gkA ?_;refine ai gkA ?_;exact lfA
def Qi4 (f:Node->Bool):List Node->Nat->Int
 | [],_=>(-1)
 | x_ :: r,i=>bif (f x_) then (i:Int) else Qi4 f r (i+1)
def Qg2 (s:List Node) (f:Node->Bool):Int:=Qi4 f s 0
def Qg6 (v:Int):List Int->Nat->Int
 | [],_=>(-1)
 | x_ :: r,i=>bif (v==x_) then (i:Int) else Qg6 v r (i+1)
def QK7 (s:List Int) (v:Int):Int:=Qg6 v s 0
theorem QMc (s:List Int) (v:Int) (hs0:s.length<=4294967296):GV 149 [ints s,I v] (I (QK7 s v)):=by
 generalize hR:QK7 s v=R;refine gA (kp 6 [7,8,9,16]) Tryz.func149 ?_;have hk0:=hs0;obtain z5:s.length<=4294967296:=hs0;refine Qg0 (fun (i:Nat)=>Qg6 v (List.drop i s) i=R∧i<=s.length) (fun i=>s.length - i) (fun i=>[(0,ints s),(1,I v),(4,I 0),(7,I (s.length:Int)),(8,I (i:Int))]) (fun i=>[]) 0 (wkA []) ⟨foll hR rfl,by exact omA⟩ ?_;clear hR;rintro i ⟨hR,hj⟩;(try dsimp only at hR hj);refine ai (fun h1=>?_) (fun h2=>?_)
 ·have hlt:=ltA h1;rw [Qc0 0 hlt] at hR;refine ai gkA ?_;refine ai (fun h3=>?_) (fun h4=>?_)
  ·exact lfA
  ·exact Ql0 (i+1) (wkA []) omA ⟨folA,by exact omA⟩
 ·rw [Qd0 (l:=s) (j:=i) (geA h2)] at hR;exact lfA
def Qg3 (n:Int):Bool:=((decide (n >= 0))&&(decide (n<=1000000)))
theorem Qba (n:Int):GV 210 [I n] (Bo (Qg3 n)):=by
 generalize hR:Qg3 n=R;refine gA (kp 3 []) Tryz.func210 ?_;exact lfA
def QN5 (n:Int) (from_:Int) (to_:Int):Int:=bif (decide (n<from_)) then from_ else bif (decide (n > to_)) then to_ else n
theorem Qje (n:Int) (from_:Int) (to_:Int):GV 231 [I n,I from_,I to_] (I (QN5 n from_ to_)):=by
 generalize hR:QN5 n from_ to_=R;refine gA (kp 7 [7,12]) Tryz.func231 ?_;refine ai (fun h1=>?_) (fun h2=>?_)
 ·have qh1:=of_decide_eq_true h1;exact lfA
 ·have qh2:=of_decide_eq_false h2;refine ai (fun h3=>?_) (fun h4=>?_)
  ·have qh3:=of_decide_eq_true h3;exact lfA
  ·have qh4:=of_decide_eq_false h4;exact lfA
def Qh2 (n:Int):Bool:=((decide (n >= 0))&&(decide (n<=1000000)))
theorem Ql6 (n:Int):GV 191 [I n] (Bo (Qh2 n)):=by
 generalize hR:Qh2 n=R;refine gA (kp 3 []) Tryz.func191 ?_;exact lfA
def Q91 (a:Alt):Bool:=((((decide (a.nodes >= 1))&&(decide (a.nodes<=48)))&&(decide (a.wall >= 1)))&&(decide (a.wall<=100000)))
theorem QCa (a:Alt):GV 239 [Alt.a a] (Bo (Q91 a)):=by
 generalize hR:Q91 a=R;refine gA (kp 3 []) Tryz.func239 ?_;exact lfA
def Q33 (f:Alt->Bool):List Alt->Nat->Int
 | [],_=>(-1)
 | x_ :: r,i=>bif (f x_) then (i:Int) else Q33 f r (i+1)
def Q31 (s:List Alt) (f:Alt->Bool):Int:=Q33 f s 0
def Qx2 (n:Int) (from_:Int) (to_:Int):Bool:=((decide (n >= from_))&&(decide (n<=to_)))
theorem Q93 (n:Int) (from_:Int) (to_:Int):GV 264 [I n,I from_,I to_] (Bo (Qx2 n from_ to_)):=by
 generalize hR:Qx2 n from_ to_=R;refine gA (kp 7 []) Tryz.func264 ?_;exact lfA
def Qe1 (r_:Int):Int:=bif ((r_==9)||(r_==32)) then 1 else bif (((((decide (r_<32))||((decide (r_ >= 127))&&(decide (r_<=160))))||((decide (r_ >= 55296))&&(decide (r_<=57343))))||(r_==65533))||(decide (r_ > 1114111))) then 0 else bif ((decide (r_ >= 48))&&(decide (r_<=57))) then 3 else bif ((((decide (r_ >= 97))&&(decide (r_<=122)))||((decide (r_ >= 65))&&(decide (r_<=90))))||(decide (r_ > 160))) then 2 else 4
theorem Qt4 (r_:Int):GV 300 [J r_] (I (Qe1 r_)):=by
 generalize hR:Qe1 r_=R;refine gA (kp 3 [3,10,37,44]) Tryz.func300 ?_;refine ai (fun h1=>?_) (fun h2=>?_)
 ·exact lfA
 ·refine ai (fun h3=>?_) (fun h4=>?_)
  ·exact lfA
  ·refine ai (fun h5=>?_) (fun h6=>?_)
   ·exact lfA
   ·refine ai (fun h7=>?_) (fun h8=>?_)
    ·exact lfA
    ·exact lfA
def QD0 (is:Int->Bool):Nat->LexReader->LexReader
 | 0,_=>LexReader.zero
 | m+1,c=>bif ((decide (c.at_<(c.line.length:Int)))&&(is (c.line.getD (Int.toNat c.at_) 0))) then QD0 is m { c with at_:=(w64 (c.at_+1)) } else c
def QE0 (r_:LexReader) (c:LexReader):ByteArray × LexReader:=((runesBytes (List.drop (Int.toNat r_.at_) (List.take (Int.toNat c.at_) c.line))),c)
def Q10 (r_:LexReader) (is:Int->Bool):ByteArray × LexReader:=QE0 r_ (QD0 is ((Int.toNat ((r_.line.length:Int) - r_.at_))+1) r_)
theorem Qcb (is:Int->Bool):∀ (m:Nat) (c:LexReader),(QD0 is m c).line.length<=c.line.length
 | 0,_=>by simp [QD0,LexReader.zero]
 | m+1,c=>by
  rw [QD0]
  cases ((decide (c.at_<(c.line.length:Int)))&&(is (c.line.getD (Int.toNat c.at_) 0))) with
  | true=>exact Qcb is m { c with at_:=(w64 (c.at_+1)) }
  | false=>exact Nat.le_refl _
theorem Qia (r_:LexReader) (is:Int->Bool) (h:r_.line.length<=400):(Q10 r_ is).1.size<=4294967296:=by
 have h1:=Qcb is ((Int.toNat ((r_.line.length:Int) - r_.at_))+1) r_
 unfold Q10 QE0
 refine Nat.le_trans (QH6 _) ?_
 simp only [List.length_drop,List.length_take]
 omega
def QU4 (s:ByteArray):Nat->Nat->List Int->(List Int)
 | 0,_,_=>[]
 | m+1,i,c=>bif (decide ((i:Int)<(ByteArray.size s:Int))) then bif ((decide ((c.getD i 0) >= 65))&&(decide ((c.getD i 0)<=90))) then QU4 s m (i+1) (c.set i (wu8 ((wu8 ((c.getD i 0)+97)) - 65))) else QU4 s m (i+1) c else c
def QW3 (c:List Int):ByteArray:=(Qv2 c)
def Q67 (s:ByteArray):ByteArray:=QW3 (QU4 s ((Int.toNat ((ByteArray.size s:Int) - (0:Int)))+1) 0 (QR1 s))
theorem runes_Lower_c (s:ByteArray) (hs0:s.size<=4294967296):GV 331 [Sg s] (Sg (Q67 s)):=by
 generalize hR:Q67 s=R;refine gA (kp 6 [8,9,10,11,20]) Tryz.func331 ?_;have hk0:=hs0;obtain z5:s.size<=4294967296:=hs0;refine Qe0 (fun (i:Nat) (c:List Int)=>∃ m,(Int.toNat ((ByteArray.size s:Int) - (i:Int)))<m∧QW3 (QU4 s m i c)=R∧c.length=ByteArray.size s∧(i:Int)<=(ByteArray.size s:Int)) (fun i c=>(Int.toNat ((ByteArray.size s:Int) - (i:Int)))) (fun i c=>[(2,Sg ⟨#[]⟩),(3,AVal.own 0 0 1 0 c.length),(8,AVal.own 0 0 1 0 c.length),(9,I (ByteArray.size s:Int)),(10,I (i:Int))]) (fun i c=>[(0,AObj.row 5 1 (c.map (fun q_=>[Y q_])))]) 0 (QR1 s) (wkA [0]) ⟨_,Nat.lt_succ_self _,foll hR rfl,by exact exA⟩ ?_;clear hR;rintro i c ⟨m,hm,hR,hx⟩;(try dsimp only at hR hm hx);obtain ⟨m,rfl⟩:=sucA m;refine ai (fun h1=>?_) (fun h2=>?_)
 ·have qh1:=of_decide_eq_true h1;refine ai gkA ?_;refine ⟨_,QQ0 rfl rfl rfl (Q21 0 i (by first|rfl|exact Nat.zero_add _|omega) ckA) rfl,?_⟩;refine ai (fun h3=>?_) (fun h4=>?_)
  ·refine ai gkA ?_;refine ⟨_,Qu2 rfl rfl rfl rfl (Q21 0 i (by first|rfl|exact Nat.zero_add _|omega) ckA) rfl rfl (Qld i (wu8 ((wu8 ((c.getD i 0)+97)) - 65)) (by first|rfl|exact Nat.zero_add _|omega) rfl),?_⟩;exact Q60 (i+1) (c.set i (wu8 ((wu8 ((c.getD i 0)+97)) - 65))) (wkA [0]) omA ⟨m,by exact omA,foll hR (congrArg (fun p:(List Int)=>QW3 p) (ct h1 (ct h3 rfl))),by exact exA⟩
  ·exact Q60 (i+1) c (wkA [0]) omA ⟨m,by exact omA,foll hR (congrArg (fun p:(List Int)=>QW3 p) (ct h1 (cf h4 rfl))),by exact exA⟩
 ·have qh2:=of_decide_eq_false h2;replace hR:QW3 c=R:=fo2 (fun p:(List Int)=>QW3 p) (c) hR (cf h2 rfl);(first|refine ⟨c,by exact cvA,?_⟩|refine ⟨_,fun _=>⟨c,by exact cvA,rfl,rfl⟩,?_⟩|refine ⟨_,rfl,⟨c,by exact cvA,Sub.refl _,rfl⟩,?_⟩);exact lfA
def QW0 (r_:LexReader) (at_:Int) (e_:Int):LexReader:=bif (r_.error==0) then (⟨r_.line,r_.at_,at_,e_⟩:LexReader) else r_
theorem Qh3 (r_:LexReader) (at_:Int) (e_:Int):AMoves Tryz.prog 320 [AVal.ptr 0 0 4 0 0,I at_,I e_] [(0,AObj.row 321 4 [[runes r_.line,I r_.at_,I r_.bad,I r_.error]])] 1 (AVal.tup []) [(0,AObj.row 321 4 [[runes ((QW0 r_ at_ e_).line),I ((QW0 r_ at_ e_).at_),I ((QW0 r_ at_ e_).bad),I ((QW0 r_ at_ e_).error)]])]:=by
 generalize hR:QW0 r_ at_ e_=R;refine mo (kp 6 [10]) Tryz.func320 ?_;refine ai (fun h1=>?_) (fun h2=>?_)
 ·obtain rfl:=foll hR (ct h1 rfl);exact rq (tt [0] (tO rfl (ts LexReader.lo) .nil) t1)
 ·obtain rfl:=foll hR (cf h2 rfl);exact rq (ttA [0])
def QA6 (s:ByteArray):List (Nat × Int)->Bool
 | []=>(!(ByteArray.toList s==ByteArray.toList ⟨#[]⟩))
 | x_ :: r=>bif ((decide (x_.2<48))||(decide (x_.2 > 57))) then false else QA6 s r
def Q48 (s:ByteArray):Bool:=QA6 s (Qm7 s)
theorem QDd (s:ByteArray) (hs0:s.size<=4294967296):GV 333 [Sg s] (Bo (Q48 s)):=by
 generalize hR:Q48 s=R;refine gA (kp 5 [6,7,8,15]) Tryz.func333 ?_;have hk0:=hs0;obtain z5:s.size<=4294967296:=hs0;refine Qg0 (fun (pos:Nat)=>∃ m,ByteArray.size s - pos<=m∧QA6 s (Q34 s m pos)=R) (fun pos=>ByteArray.size s - pos) (fun pos=>[(0,Sg s),(2,Bo false),(6,AVal.ptr 0 0 1 0 0)]) (fun pos=>[(0,AObj.other (.strIter s pos))]) 0 (wkA [0]) ⟨ByteArray.size s,by exact omA,foll hR rfl⟩ ?_;clear hR;rintro pos ⟨m,hm,hR⟩;(try dsimp only at hR hm);refine ai (fun h1=>?_) (fun h2=>?_)
 ·have hlt:=of_decide_eq_true h1;have hw:=Q28 s pos;have hwe:=Q18 s pos hlt;obtain ⟨m,rfl⟩:=sucA m;rw [Q53 h1] at hR;refine ai (fun _=>?_) (fun h=>nomatch h);refine ai (fun h3=>?_) (fun h4=>?_)
  ·exact lfA
  ·exact Ql0 (pos+(Utf8.decode s pos).2) (wkA [0]) omA ⟨m,by exact omA,foll hR (cf h4 rfl)⟩
 ·rw [Qn5 h2] at hR;refine ai (fun h=>nomatch h) (fun _=>?_);exact lfA
theorem QT9 (s:ByteArray):∀ l,QA6 s l=true->(!(ByteArray.toList s==ByteArray.toList ⟨#[]⟩))=true ∧ ∀ x ∈ l,48<=x.2∧x.2<=57
 | [],h=>⟨h,fun x hx=>nomatch hx⟩
 | x :: r,h=>by
  rw [QA6] at h
  cases hc:((decide (x.2<48))||(decide (x.2 > 57))) with
  | true=>rw [hc] at h;cases h
  | false =>
   rw [hc] at h
   obtain ⟨a,b⟩:=QT9 s r h
   refine ⟨a,fun y hy=>?_⟩
   rcases List.mem_cons.1 hy with rfl|hy
   ·simp only [Bool.or_eq_false_iff,decide_eq_false_iff_not] at hc
    omega
   ·exact b y hy
theorem lex_digits_ok {s:ByteArray} {q:Bool} (h:(((!(Q48 s))||(decide ((ByteArray.size s:Int) > 9)))||q)=false):atoiOK s:=by
 simp only [Bool.or_eq_false_iff,Bool.not_eq_false',decide_eq_false_iff_not] at h
 obtain ⟨⟨h1,h2⟩,_⟩:=h
 obtain ⟨a,b⟩:=QT9 s _ h1
 refine ⟨?_,by omega,fun i hi=>digits_bytes s s.size 0 (by omega) b i (by omega) hi⟩
 rcases Nat.eq_zero_or_pos s.size with h0|h0
 ·have e:s=⟨#[]⟩:=by
   apply ByteArray.ext
   exact Array.eq_empty_of_size_eq_zero h0
  rw [e] at a
  simp at a
 ·exact h0
def QH7 (s:ByteArray):Nat->Int->Nat->Int
 | 0,_,_=>0
 | m+1,n,i=>bif (decide ((i:Int)<(ByteArray.size s:Int))) then QH7 s m (w64 ((w64 (n*10))+(w64 (wu8 (((QR1 s).getD i 0) - 48))))) (i+1) else n
def Qy4 (n:Int):Int × Unit:=(n,())
def Qz9 (s:ByteArray):Int × Unit:=Qy4 (QH7 s ((Int.toNat ((ByteArray.size s:Int) - (0:Int)))+1) 0 0)
theorem Q7f (s:ByteArray) (hs0:s.size<=4294967296) (hp0:atoiOK s):GV 351 [Sg s] (AVal.tup [I ((Qz9 s).1),AVal.lit .nilIface]):=by
 generalize hR:Qz9 s=R;refine gA (kp 11 [30,39,44,47,48,49,50,56,66]) Tryz.func351 ?_;have hk0:=hs0;obtain z11:s.size<=4294967296:=hs0;refine ai (fun h1=>?_) (fun h2=>?_)
 ·refine ai gkA ?_;refine ai gkA ?_;refine ai (fun h3=>?_) (fun h4=>?_)
  ·exfalso;exact atoi_sign hp0 h3
  ·refine Qe0 (fun (n:Int) (i:Nat)=>∃ m,(Int.toNat ((ByteArray.size s:Int) - (i:Int)))<m∧Qy4 (QH7 s m n i)=R∧(i:Int)<=(ByteArray.size s:Int)) (fun n i=>(Int.toNat ((ByteArray.size s:Int) - (i:Int)))) (fun n i=>[(0,Sg s),(2,I 0),(3,AVal.lit .nilIface),(5,Sg s),(6,I n),(47,AVal.own 0 0 1 0 (ByteArray.size s)),(48,I (ByteArray.size s:Int)),(49,I (i:Int))]) (fun n i=>[(0,AObj.row 5 1 ((QR1 s).map (fun q_=>[Y q_])))]) 0 0 (wkA [0]) ⟨_,Nat.lt_succ_self _,foll hR rfl,by exact exA⟩ ?_;clear hR;rintro n i ⟨m,hm,hR,hx⟩;(try dsimp only at hR hm hx);obtain ⟨m,rfl⟩:=sucA m;refine ai (fun h5=>?_) (fun h6=>?_)
   ·have qh5:=of_decide_eq_true h5;refine ai gkA ?_;refine ⟨_,QQ0 rfl rfl rfl (Q21 0 i (by first|rfl|exact Nat.zero_add _|omega) ckA) rfl,?_⟩;refine ai (fun h7=>?_) (fun h8=>?_)
    ·exfalso;exact atoi_digit hp0 (by omega) h7
    ·have qh8:=of_decide_eq_false h8;exact Q60 (w64 ((w64 (n*10))+(w64 (wu8 (((QR1 s).getD i 0) - 48))))) (i+1) (wkA [0]) omA ⟨m,by exact omA,foll hR (congrArg (fun p:Int=>Qy4 p) (ct h5 rfl)),by exact exA⟩
   ·have qh6:=of_decide_eq_false h6;replace hR:Qy4 n=R:=fo2 (fun p:Int=>Qy4 p) (n) hR (cf h6 rfl);refine ai gkA ?_;refine ai (fun h9=>?_) (fun h10=>?_)
    ·exfalso;exact atoi_minus hp0 h9
    ·exact lfA
 ·exfalso;have ha1:=hp0.1;have ha2:=hp0.2.1;simp at h2;omega
def Qw2 (p_:List Int) (r_:Int) (i:Bool):(List Int):=bif i then (p_++([(wu8 (BitVec.ofInt 8 224 ||| BitVec.ofInt 8 (wu8 (Int.fdiv r_ (2 ^ (min (Int.toNat 12) 32))))).toNat),(wu8 (BitVec.ofInt 8 128 ||| BitVec.ofInt 8 (wu8 (BitVec.ofInt 8 (wu8 (Int.fdiv r_ (2 ^ (min (Int.toNat 6) 32)))) &&& BitVec.ofInt 8 63).toNat)).toNat),(wu8 (BitVec.ofInt 8 128 ||| BitVec.ofInt 8 (wu8 (BitVec.ofInt 8 (wu8 r_) &&& BitVec.ofInt 8 63).toNat)).toNat)]:List Int)) else bif ((decide ((wu32 r_) > 65535))&&(decide ((wu32 r_)<=1114111))) then (p_++([(wu8 (BitVec.ofInt 8 240 ||| BitVec.ofInt 8 (wu8 (Int.fdiv r_ (2 ^ (min (Int.toNat 18) 32))))).toNat),(wu8 (BitVec.ofInt 8 128 ||| BitVec.ofInt 8 (wu8 (BitVec.ofInt 8 (wu8 (Int.fdiv r_ (2 ^ (min (Int.toNat 12) 32)))) &&& BitVec.ofInt 8 63).toNat)).toNat),(wu8 (BitVec.ofInt 8 128 ||| BitVec.ofInt 8 (wu8 (BitVec.ofInt 8 (wu8 (Int.fdiv r_ (2 ^ (min (Int.toNat 6) 32)))) &&& BitVec.ofInt 8 63).toNat)).toNat),(wu8 (BitVec.ofInt 8 128 ||| BitVec.ofInt 8 (wu8 (BitVec.ofInt 8 (wu8 r_) &&& BitVec.ofInt 8 63).toNat)).toNat)]:List Int)) else (p_++([239,191,189]:List Int))
def Qp2 (p_:List Int) (r_:Int):(List Int):=bif (decide ((wu32 r_)<=2047)) then (p_++([(wu8 (BitVec.ofInt 8 192 ||| BitVec.ofInt 8 (wu8 (Int.fdiv r_ (2 ^ (min (Int.toNat 6) 32))))).toNat),(wu8 (BitVec.ofInt 8 128 ||| BitVec.ofInt 8 (wu8 (BitVec.ofInt 8 (wu8 r_) &&& BitVec.ofInt 8 63).toNat)).toNat)]:List Int)) else bif (decide ((wu32 r_)<55296)) then Qw2 p_ r_ (decide ((wu32 r_)<55296)) else Qw2 p_ r_ ((decide (57343<(wu32 r_)))&&(decide ((wu32 r_)<=65535)))
theorem QW8 (p_:List Int) (r_:Int) (hs0:p_.length<=4294967296):AMoves Tryz.prog 350 [AVal.own 0 0 1 0 p_.length,J r_] [(0,AObj.row 5 1 (p_.map (fun q_=>[Y q_])))] 0 (AVal.own 0 0 1 0 (Qp2 p_ r_).length) [(0,AObj.row 5 1 ((Qp2 p_ r_).map (fun q_=>[Y q_])))]:=by
 generalize hR:Qp2 p_ r_=R;refine mo (kj [1000007] 6 [11,25,50]) Tryz.func350 ?_;have hk0:=hs0;obtain z9:p_.length<=4294967296:=hs0;refine ai (fun h1=>?_) (fun h2=>?_)
 ·have qh1:=of_decide_eq_true h1;refine ai gkA ?_;refine Or.inl ?_;(first|refine ⟨Qo1 1 rfl lnA apA,?_⟩|refine ⟨QI0 1 rfl apA,?_⟩);obtain rfl:=foll hR (ct h1 rfl);exact rq (ttA [0])
 ·have qh2:=of_decide_eq_false h2;refine Qb1 (fun (i:Bool)=>Qw2 p_ r_ i=R) (fun i=>[(0,AVal.own 0 0 1 0 p_.length),(1,J r_),(4,AVal.lit (.slice none 0 0)),(5,V (wu32 r_)),(25,Bo i)]) (fun i=>[(0,AObj.row 5 1 (p_.map (fun q_=>[Y q_])))]) ?_ ?_
  ·clear hR;rintro i hR;(try dsimp only at hR);refine ai (fun h3=>?_) (fun h4=>?_)
   ·refine ai gkA ?_;refine ai gkA ?_;refine Or.inl ?_;(first|refine ⟨Qo1 1 rfl lnA apA,?_⟩|refine ⟨QI0 1 rfl apA,?_⟩);obtain rfl:=foll hR (ct h3 rfl);exact rq (ttA [0])
   ·refine ai (fun h5=>?_) (fun h6=>?_)
    ·refine ai gkA ?_;refine ai gkA ?_;refine ai gkA ?_;refine Or.inl ?_;(first|refine ⟨Qo1 1 rfl lnA apA,?_⟩|refine ⟨QI0 1 rfl apA,?_⟩);obtain rfl:=foll hR (cf h4 (ct h5 rfl));exact rq (ttA [0])
    ·refine Or.inl ?_;(first|refine ⟨Qo1 1 rfl lnA apA,?_⟩|refine ⟨QI0 1 rfl apA,?_⟩);obtain rfl:=foll hR (cf h4 (cf h6 rfl));exact rq (ttA [0])
  ·refine ai (fun h7=>?_) (fun h8=>?_)
   ·have qh7:=of_decide_eq_true h7;exact Q70 (decide ((wu32 r_)<55296)) (wkA [0]) (foll hR (cf h2 (ct h7 rfl)))
   ·have qh8:=of_decide_eq_false h8;exact Q70 ((decide (57343<(wu32 r_)))&&(decide ((wu32 r_)<=65535))) (wkA [0]) (foll hR (cf h2 (cf h8 rfl)))
def Q43 (f:Dep->Bool):List Dep->Nat->Int
 | [],_=>(-1)
 | x_ :: r,i=>bif (f x_) then (i:Int) else Q43 f r (i+1)
def Q41 (s:List Dep) (f:Dep->Bool):Int:=Q43 f s 0
def Qu4 (s2:List Alt):List Alt->Nat->Bool
 | [],_=>true
 | x_ :: r,i=>bif (!((x_.nodes==(s2.getD i Alt.zero).nodes)&&(x_.wall==(s2.getD i Alt.zero).wall))) then false else Qu4 s2 r (i+1)
def Q06 (s1_:List Alt) (s2:List Alt):Bool:=bif ((s1_.length:Int)!=(s2.length:Int)) then false else Qu4 s2 s1_ 0
theorem QKc (s1_:List Alt) (s2:List Alt) (hs0:s1_.length<=4294967296) (hs1:s2.length<=4294967296):GV 296 [altL s1_,altL s2] (Bo (Q06 s1_ s2)):=by
 generalize hR:Q06 s1_ s2=R;refine gA (kp 6 [10,12,13,14,24]) Tryz.func296 ?_;have hk0:=hs0;obtain z7:s1_.length<=4294967296:=hs0;have hk1:=hs1;obtain z8:s2.length<=4294967296:=hs1;refine ai (fun h1=>?_) (fun h2=>?_)
 ·exact lfA
 ·refine Qg0 (fun (i:Nat)=>Qu4 s2 (List.drop i s1_) i=R∧i<=s1_.length) (fun i=>s1_.length - i) (fun i=>[(0,altL s1_),(1,altL s2),(4,Bo false),(12,I (s1_.length:Int)),(13,I (i:Int))]) (fun i=>[]) 0 (wkA []) ⟨folA,by exact omA⟩ ?_;clear hR;rintro i ⟨hR,hj⟩;(try dsimp only at hR hj);refine ai (fun h3=>?_) (fun h4=>?_)
  ·have hlt:=ltA h3;rw [Qc0 Alt.zero hlt] at hR;refine dchk (by kernel_rfl) ?_;refine ai gkA ?_;refine ai gkA ?_;refine ai (fun _=>(by kernel_rfl:eqOK _ _=true)) ?_;(repeat ((first|refine ai rfl ?_|refine ai (fun _=>rfl) ?_)));refine ai (fun h5=>?_) (fun h6=>?_)
   ·exact lfA
   ·exact Ql0 (i+1) (wkA []) omA ⟨folA,by exact omA⟩
  ·rw [Qd0 (l:=s1_) (j:=i) (geA h4)] at hR;exact lfA
def Qv4 (s2:List Dep):List Dep->Nat->Bool
 | [],_=>true
 | x_ :: r,i=>bif (!((x_.how==(s2.getD i Dep.zero).how)&&(x_.job==(s2.getD i Dep.zero).job))) then false else Qv4 s2 r (i+1)
def Q16 (s1_:List Dep) (s2:List Dep):Bool:=bif ((s1_.length:Int)!=(s2.length:Int)) then false else Qv4 s2 s1_ 0
theorem QLc (s1_:List Dep) (s2:List Dep) (hs0:s1_.length<=4294967296) (hs1:s2.length<=4294967296):GV 271 [depL s1_,depL s2] (Bo (Q16 s1_ s2)):=by
 generalize hR:Q16 s1_ s2=R;refine gA (kp 6 [10,12,13,14,24]) Tryz.func271 ?_;have hk0:=hs0;obtain z7:s1_.length<=4294967296:=hs0;have hk1:=hs1;obtain z8:s2.length<=4294967296:=hs1;refine ai (fun h1=>?_) (fun h2=>?_)
 ·exact lfA
 ·refine Qg0 (fun (i:Nat)=>Qv4 s2 (List.drop i s1_) i=R∧i<=s1_.length) (fun i=>s1_.length - i) (fun i=>[(0,depL s1_),(1,depL s2),(4,Bo false),(12,I (s1_.length:Int)),(13,I (i:Int))]) (fun i=>[]) 0 (wkA []) ⟨folA,by exact omA⟩ ?_;clear hR;rintro i ⟨hR,hj⟩;(try dsimp only at hR hj);refine ai (fun h3=>?_) (fun h4=>?_)
  ·have hlt:=ltA h3;rw [Qc0 Dep.zero hlt] at hR;refine dchk (by kernel_rfl) ?_;refine ai gkA ?_;refine ai gkA ?_;refine ai (fun _=>(by kernel_rfl:eqOK _ _=true)) ?_;(repeat ((first|refine ai rfl ?_|refine ai (fun _=>rfl) ?_)));refine ai (fun h5=>?_) (fun h6=>?_)
   ·exact lfA
   ·exact Ql0 (i+1) (wkA []) omA ⟨folA,by exact omA⟩
  ·rw [Qd0 (l:=s1_) (j:=i) (geA h4)] at hR;exact lfA
def QN6 (c:Cmd) (i1:Bool):Cmd:=bif i1 then (⟨c.kind,0,⟨#[]⟩,⟨#[]⟩,⟨#[]⟩,Shape.zero,0,false,0,false,[],c.node,0,0⟩:Cmd) else bif (c.kind==10) then (⟨c.kind,0,⟨#[]⟩,⟨#[]⟩,⟨#[]⟩,Shape.zero,0,false,c.time,c.hasTime,[],0,c.nodes,c.from_⟩:Cmd) else (⟨c.kind,0,⟨#[]⟩,⟨#[]⟩,⟨#[]⟩,Shape.zero,0,false,0,false,[],0,0,0⟩:Cmd)
def Q45 (c:Cmd) (i:Bool):Cmd:=bif i then (⟨c.kind,c.job,⟨#[]⟩,⟨#[]⟩,⟨#[]⟩,Shape.zero,0,false,0,false,[],0,0,0⟩:Cmd) else bif (c.kind==5) then (⟨c.kind,c.job,⟨#[]⟩,⟨#[]⟩,⟨#[]⟩,Shape.zero,c.prio,c.hasPrio,c.time,c.hasTime,[],0,0,0⟩:Cmd) else bif (c.kind==6) then (⟨c.kind,c.job,⟨#[]⟩,⟨#[]⟩,⟨#[]⟩,Shape.zero,0,false,0,false,[],0,c.nodes,0⟩:Cmd) else bif (c.kind==7) then QN6 c (c.kind==7) else bif (c.kind==8) then QN6 c (c.kind==8) else QN6 c (c.kind==9)
def QR7 (c:Cmd):Cmd:=bif (c.kind==1) then { c with job:=0,time:=0,hasTime:=false,node:=0,nodes:=0,from_:=0 } else bif (c.kind==2) then Q45 c (c.kind==2) else bif (c.kind==3) then Q45 c (c.kind==3) else bif (c.kind==4) then Q45 c (c.kind==4) else bif (c.kind==11) then Q45 c (c.kind==11) else Q45 c (c.kind==12)
theorem cmd_bare_c (c:Cmd) (hs0:c.sz):GV 236 [Cmd.a c] (Cmd.a (QR7 c)):=by
 generalize hR:QR7 c=R;refine gA (kj [1000011,1000019] 4 [8,9,32,41,58,66,73]) Tryz.func236 ?_;have hk0:=hs0;obtain ⟨z25,z26,z27,z28,z29⟩:c.name.size<=4294967296∧c.user.size<=4294967296∧c.account.size<=4294967296∧(c.shape.alts.length<=4294967296)∧c.after.length<=4294967296:=hs0;refine ai (fun h1=>?_) (fun h2=>?_)
 ·refine dchk (by kernel_rfl) ?_;(repeat ((first|refine ai rfl ?_|refine ai (fun _=>rfl) ?_)));(try (refine dchk (by kernel_rfl) ?_));(repeat ((first|refine ai rfl ?_|refine ai (fun _=>rfl) ?_)));exact lfA
 ·refine Qb1 (fun (i:Bool)=>Q45 c i=R) (fun i=>[(1,AVal.ptr 0 0 18 0 0),(2,AVal.ptr 1 0 18 0 0),(3,AVal.ptr 2 0 18 0 0),(8,I c.kind),(32,Bo i)]) (fun i=>[(0,AObj.row 234 18 [[I c.kind,I c.job,Sg c.name,Sg c.user,Sg c.account,I c.shape.kind,altL c.shape.alts,I c.shape.min,I c.shape.max,I c.shape.wall,I c.prio,Bo c.hasPrio,I c.time,Bo c.hasTime,depL c.after,I c.node,I c.nodes,I c.from_]]),(0,AObj.row 234 18 [[I 0,I 0,Sg ⟨#[]⟩,Sg ⟨#[]⟩,Sg ⟨#[]⟩,I 0,AVal.lit (.slice none 0 0),I 0,I 0,I 0,I 0,Bo false,I 0,Bo false,AVal.lit (.slice none 0 0),I 0,I 0,I 0]]),(0,AObj.row 234 18 [[I c.kind,I 0,Sg ⟨#[]⟩,Sg ⟨#[]⟩,Sg ⟨#[]⟩,I 0,AVal.lit (.slice none 0 0),I 0,I 0,I 0,I 0,Bo false,I 0,Bo false,AVal.lit (.slice none 0 0),I 0,I 0,I 0]])]) ?_ ?_
  ·clear hR;rintro i hR;(try dsimp only at hR);refine ai (fun h3=>?_) (fun h4=>?_)
   ·exact lfA
   ·refine ai (fun h5=>?_) (fun h6=>?_)
    ·refine dchk (by kernel_rfl) ?_;(repeat ((first|refine ai rfl ?_|refine ai (fun _=>rfl) ?_)));exact lfA
    ·refine ai (fun h7=>?_) (fun h8=>?_)
     ·refine dchk (by kernel_rfl) ?_;(repeat ((first|refine ai rfl ?_|refine ai (fun _=>rfl) ?_)));exact lfA
     ·refine Qb1 (fun (i1:Bool)=>QN6 c i1=R) (fun i1=>[(1,AVal.ptr 0 0 18 0 0),(2,AVal.ptr 1 0 18 0 0),(3,AVal.ptr 2 0 18 0 0),(8,I c.kind),(66,Bo i1)]) (fun i1=>[(0,AObj.row 234 18 [[I c.kind,I c.job,Sg c.name,Sg c.user,Sg c.account,I c.shape.kind,altL c.shape.alts,I c.shape.min,I c.shape.max,I c.shape.wall,I c.prio,Bo c.hasPrio,I c.time,Bo c.hasTime,depL c.after,I c.node,I c.nodes,I c.from_]]),(0,AObj.row 234 18 [[I 0,I 0,Sg ⟨#[]⟩,Sg ⟨#[]⟩,Sg ⟨#[]⟩,I 0,AVal.lit (.slice none 0 0),I 0,I 0,I 0,I 0,Bo false,I 0,Bo false,AVal.lit (.slice none 0 0),I 0,I 0,I 0]]),(0,AObj.row 234 18 [[I c.kind,I 0,Sg ⟨#[]⟩,Sg ⟨#[]⟩,Sg ⟨#[]⟩,I 0,AVal.lit (.slice none 0 0),I 0,I 0,I 0,I 0,Bo false,I 0,Bo false,AVal.lit (.slice none 0 0),I 0,I 0,I 0]])]) ?_ ?_
      ·clear hR;rintro i1 hR;(try dsimp only at hR);refine ai (fun h9=>?_) (fun h10=>?_)
       ·exact lfA
       ·refine ai (fun h11=>?_) (fun h12=>?_)
        ·refine dchk (by kernel_rfl) ?_;(repeat ((first|refine ai rfl ?_|refine ai (fun _=>rfl) ?_)));exact lfA
        ·exact lfA
      ·refine ai (fun h13=>?_) (fun h14=>?_)
       ·exact Q70 (c.kind==7) (wkA [0,1,2]) (foll hR (cf h4 (cf h6 (cf h8 (ct h13 rfl)))))
       ·refine ai (fun h15=>?_) (fun h16=>?_)
        ·exact Q70 (c.kind==8) (wkA [0,1,2]) (foll hR (cf h4 (cf h6 (cf h8 (cf h14 (ct h15 rfl))))))
        ·exact Q70 (c.kind==9) (wkA [0,1,2]) (foll hR (cf h4 (cf h6 (cf h8 (cf h14 (cf h16 rfl))))))
  ·refine ai (fun h17=>?_) (fun h18=>?_)
   ·exact Q70 (c.kind==2) (wkA [0,1,2]) (foll hR (cf h2 (ct h17 rfl)))
   ·refine ai (fun h19=>?_) (fun h20=>?_)
    ·exact Q70 (c.kind==3) (wkA [0,1,2]) (foll hR (cf h2 (cf h18 (ct h19 rfl))))
    ·refine ai (fun h21=>?_) (fun h22=>?_)
     ·exact Q70 (c.kind==4) (wkA [0,1,2]) (foll hR (cf h2 (cf h18 (cf h20 (ct h21 rfl)))))
     ·refine ai (fun h23=>?_) (fun h24=>?_)
      ·exact Q70 (c.kind==11) (wkA [0,1,2]) (foll hR (cf h2 (cf h18 (cf h20 (cf h22 (ct h23 rfl))))))
      ·exact Q70 (c.kind==12) (wkA [0,1,2]) (foll hR (cf h2 (cf h18 (cf h20 (cf h22 (cf h24 rfl))))))
theorem Q7b (c:Cmd) (b:Bool):(QN6 c b).sz:=by
 cases b <;> simp only [QN6,cond_true,cond_false]
 ·cases (c.kind==10) <;> simp [Cmd.sz,Cmd.szN,Shape.szN,Shape.zero,ByteArray.size]
 ·simp [Cmd.sz,Cmd.szN,Shape.szN,Shape.zero,ByteArray.size]
theorem Qb7 (c:Cmd) (b:Bool):(Q45 c b).sz:=by
 cases b <;> simp only [Q45,cond_true,cond_false]
 ·cases (c.kind==5) <;> simp only [cond_true,cond_false]
  ·cases (c.kind==6) <;> simp only [cond_true,cond_false]
   ·cases (c.kind==7) <;> simp only [cond_true,cond_false]
    ·cases (c.kind==8) <;> simp only [cond_true,cond_false] <;> exact Q7b _ _
    ·exact Q7b _ _
   ·simp [Cmd.sz,Cmd.szN,Shape.szN,Shape.zero,ByteArray.size]
  ·simp [Cmd.sz,Cmd.szN,Shape.szN,Shape.zero,ByteArray.size]
 ·simp [Cmd.sz,Cmd.szN,Shape.szN,Shape.zero,ByteArray.size]
theorem cmd_bare_sz (c:Cmd) (h:c.sz):(QR7 c).sz:=by
 unfold QR7
 cases (c.kind==1) <;> simp only [cond_true,cond_false]
 ·cases (c.kind==2) <;> simp only [cond_true,cond_false]
  ·cases (c.kind==3) <;> simp only [cond_true,cond_false]
   ·cases (c.kind==4) <;> simp only [cond_true,cond_false]
    ·cases (c.kind==11) <;> simp only [cond_true,cond_false] <;> exact Qb7 _ _
    ·exact Qb7 _ _
   ·exact Qb7 _ _
  ·exact Qb7 _ _
 ·exact h
def Qn0 (v:Job):Cmd:=(⟨1,0,v.name,v.user,v.account,v.shape,v.prio,true,0,false,v.after,0,0,0⟩:Cmd)
theorem Qt7 (v:Job):GV 193 [Job.a v] (Cmd.a (Qn0 v)):=by
 generalize hR:Qn0 v=R;refine gA (kp 3 []) Tryz.func193 ?_;exact lfA
theorem QHc (l:List Alt) (hs0:l.length<=4294967296):GV 200 [altL l] (altL l):=by
 refine AGives.any' (.cons lw .nil) lw (ACalls.of_cwp (fun _=>true) Tryz.func200 rfl rfl ?_)
 obtain z1:l.length<=4294967296:=hs0
 intro b hb
 refine ai (fun h1=>?_) (fun h2=>?_)
 ·have hl:l=[]:=by
   rcases l with _|⟨x,r⟩
   ·rfl
   ·exact absurd ((hb (by simp)).symm.trans h1) (by decide)
  subst hl
  exact Qze (fun r:List Alt=>altL r) (leaf:=[]) rfl lw Q30
 ·refine ⟨QI0 16 rfl apA,?_⟩
  exact Qze (fun r:List Alt=>altL r) (leaf:=l) rfl lw (Q90 Alt.zero _ rfl eqA lnA)
theorem QIc (l:List Alt) (hs0:l.length<=4294967296):AMoves Tryz.prog 200 [altL l] [] 0 (AVal.own 0 0 2 0 l.length) [(0,AObj.row 178 2 (l.map Alt.cells))]:=by
 refine AMoves.of_cwp (fun _=>true) Tryz.func200 rfl rfl rfl ?_
 obtain z1:l.length<=4294967296:=hs0
 intro b hb
 refine ai (fun h1=>?_) (fun h2=>?_)
 ·have hl:l=[]:=by
   rcases l with _|⟨x,r⟩
   ·rfl
   ·exact absurd ((hb (by simp)).symm.trans h1) (by decide)
  subst hl
  refine Qt0 (fun r:List Alt=>AVal.own 0 0 2 0 r.length) (fun r:List Alt=>[(0,AObj.row 178 2 (r.map Alt.cells))]) (leaf:=[]) rfl ?_
  exact Told.pad 178 2 (Qj4 [0] rfl (by decide) (tO rfl (tl eqA) .nil) (Q87 0 rfl))
 ·refine ⟨QI0 16 rfl apA,?_⟩
  refine Qt0 (fun r:List Alt=>AVal.own 0 0 2 0 r.length) (fun r:List Alt=>[(0,AObj.row 178 2 (r.map Alt.cells))]) (leaf:=l) rfl ?_
  exact Qj4 [0] rfl (by decide) (tO rfl (tl eqA) .nil) (to 0 lnA)
def QM1 (n:Int):Int:=(wu64 (1*2 ^ (min (Int.toNat (wu64 n)) 64)))
theorem QB6 (n:Int):GV 71 [I n] (U (QM1 n)):=by
 generalize hR:QM1 n=R;refine gA (kp 3 []) Tryz.func71 ?_;refine ai gkA ?_;exact lfA
def Qh8 (state:Int):Bool:=((decide (state >= 3))&&(decide (state<=7)))
theorem job_ended_c (state:Int):GV 198 [I state] (Bo (Qh8 state)):=by
 generalize hR:Qh8 state=R;refine gA (kp 3 []) Tryz.func198 ?_;exact lfA
def QX8 (b:Book):Bool:=(((((((decide (b.id >= 1))&&(decide (b.id<=99999)))&&(decide (b.from_ >= 0)))&&(decide (b.to > b.from_)))&&(decide (b.to<=1000000)))&&(decide (b.nodes >= 1)))&&(decide (b.nodes<=48)))
theorem QIe (b:Book):GV 230 [Book.a b] (Bo (QX8 b)):=by
 generalize hR:QX8 b=R;refine gA (kp 3 []) Tryz.func230 ?_;exact lfA
def Q66 (s:ByteArray):Bool:=((decide ((ByteArray.size s:Int) >= 1))&&(decide ((ByteArray.size s:Int)<=64)))
theorem QU7 (s:ByteArray):GV 179 [Sg s] (Bo (Q66 s)):=by
 generalize hR:Q66 s=R;refine gA (kp 3 []) Tryz.func179 ?_;exact lfA
def Qr9 :List Int->Nat->Int
 | [],_=>0
 | x_ :: r,i=>bif (x_ != 0) then x_ else Qr9 r (i+1)
def QLa (vals:List Int):Int:=Qr9 vals 0
theorem Qud (vals:List Int) (hs0:vals.length<=4294967296):GV 232 [ints vals] (I (QLa vals)):=by
 generalize hR:QLa vals=R;refine gA (kp 6 [6,7,8,9,14]) Tryz.func232 ?_;have hk0:=hs0;obtain z5:vals.length<=4294967296:=hs0;refine Qg0 (fun (i:Nat)=>Qr9 (List.drop i vals) i=R∧i<=vals.length) (fun i=>vals.length - i) (fun i=>[(2,I 0),(3,I 0),(6,ints vals),(7,I (vals.length:Int)),(8,I (i:Int))]) (fun i=>[]) 0 (wkA []) ⟨foll hR rfl,by exact omA⟩ ?_;clear hR;rintro i ⟨hR,hj⟩;(try dsimp only at hR hj);refine ai (fun h1=>?_) (fun h2=>?_)
 ·have hlt:=ltA h1;rw [Qc0 0 hlt] at hR;refine ai gkA ?_;refine ai (fun h3=>?_) (fun h4=>?_)
  ·exact lfA
  ·exact Ql0 (i+1) (wkA []) omA ⟨folA,by exact omA⟩
 ·rw [Qd0 (l:=vals) (j:=i) (geA h2)] at hR;exact lfA
def Qw3 (x_:ByteArray):Bool:=(!(ByteArray.toList x_==ByteArray.toList x_))
theorem QB8 (x_:ByteArray):GV 263 [Sg x_] (Bo (Qw3 x_)):=by
 generalize hR:Qw3 x_=R;refine gA (kp 3 []) Tryz.func263 ?_;exact lfA
def Qj1 (n:Int) (last:Int):Bool:=(((decide (n >= 1))&&(decide (n<=100000)))&&(decide (n > last)))
theorem Q0e (n:Int) (last:Int):GV 75 [I n,I last] (Bo (Qj1 n last)):=by
 generalize hR:Qj1 n last=R;refine gA (kp 5 []) Tryz.func75 ?_;exact lfA
def Qnd (l:List Node):(List Node):=l
theorem Qy8 (l:List Node) (hs0:l.length<=4294967296):AMoves Tryz.prog 135 [nodeL l] [] 0 (AVal.own 0 0 7 0 l.length) [(0,AObj.row 55 7 (l.map Node.cells))]:=by
 generalize hR:Qnd l=R;refine mo (kp 3 []) Tryz.func135 ?_;have hk0:=hs0;obtain z1:l.length<=4294967296:=hs0;(first|refine ⟨Qo1 56 rfl lnA apA,?_⟩|refine ⟨QI0 56 rfl apA,?_⟩);obtain rfl:=foll hR rfl;exact rq (ttA [0])
def Qne (l:List Job):(List Job):=l
theorem QH8 (l:List Job) (hs0:l.length<=4294967296∧(∀ y ∈ l,y.sz)):AMoves Tryz.prog 136 [jobL l] [] 0 (AVal.own 0 0 20 0 l.length) [(0,AObj.row 72 20 (l.map Job.cells))]:=by
 generalize hR:Qne l=R;refine mo (kp 3 []) Tryz.func136 ?_;obtain ⟨z1,z2⟩:=id hs0;(first|refine ⟨Qo1 216 rfl lnA apA,?_⟩|refine ⟨QI0 216 rfl apA,?_⟩);obtain rfl:=foll hR rfl;exact rq (ttA [0])
def QHb (l:List Resize):(List Resize):=l
theorem QE7 (l:List Resize) (hs0:l.length<=4294967296):AMoves Tryz.prog 137 [Qp1 l] [] 0 (AVal.own 0 0 5 0 l.length) [(0,AObj.row 49 5 (l.map Resize.cells))]:=by
 generalize hR:QHb l=R;refine mo (kp 3 []) Tryz.func137 ?_;have hk0:=hs0;obtain z1:l.length<=4294967296:=hs0;(first|refine ⟨Qo1 40 rfl lnA apA,?_⟩|refine ⟨QI0 40 rfl apA,?_⟩);obtain rfl:=foll hR rfl;exact rq (ttA [0])
def Qmd (l:List Book):(List Book):=l
theorem Qx8 (l:List Book) (hs0:l.length<=4294967296):AMoves Tryz.prog 138 [bookL l] [] 0 (AVal.own 0 0 4 0 l.length) [(0,AObj.row 122 4 (l.map Book.cells))]:=by
 generalize hR:Qmd l=R;refine mo (kp 3 []) Tryz.func138 ?_;have hk0:=hs0;obtain z1:l.length<=4294967296:=hs0;(first|refine ⟨Qo1 32 rfl lnA apA,?_⟩|refine ⟨QI0 32 rfl apA,?_⟩);obtain rfl:=foll hR rfl;exact rq (ttA [0])
def QNc (l:List Usage):(List Usage):=l
theorem QP7 (l:List Usage) (hs0:l.length<=4294967296∧(∀ y ∈ l,y.sz)):AMoves Tryz.prog 139 [QD2 l] [] 0 (AVal.own 0 0 4 0 l.length) [(0,AObj.row 138 4 (l.map Usage.cells))]:=by
 generalize hR:QNc l=R;refine mo (kp 3 []) Tryz.func139 ?_;obtain ⟨z1,z2⟩:=id hs0;(first|refine ⟨Qo1 48 rfl lnA apA,?_⟩|refine ⟨QI0 48 rfl apA,?_⟩);obtain rfl:=foll hR rfl;exact rq (ttA [0])
def Qle (l:List Alt):(List Alt):=l
theorem Q15 (l:List Alt) (hs0:l.length<=4294967296):GV 140 [altL l] (altL l):=by
 generalize hR:Qle l=R;refine gA (kp 3 []) Tryz.func140 ?_;have hk0:=hs0;obtain z1:l.length<=4294967296:=hs0;(first|refine ⟨Qo1 16 rfl lnA apA,?_⟩|refine ⟨QI0 16 rfl apA,?_⟩);obtain rfl:=foll hR rfl;exact Q80 lw (Q90 Alt.zero _ rfl eqA lnA)
def Qme (l:List Dep):(List Dep):=l
theorem Q25 (l:List Dep) (hs0:l.length<=4294967296):GV 141 [depL l] (depL l):=by
 generalize hR:Qme l=R;refine gA (kp 3 []) Tryz.func141 ?_;have hk0:=hs0;obtain z1:l.length<=4294967296:=hs0;(first|refine ⟨Qo1 16 rfl lnA apA,?_⟩|refine ⟨QI0 16 rfl apA,?_⟩);obtain rfl:=foll hR rfl;exact Q80 lw (Q90 Dep.zero _ rfl eqA lnA)
def Qk0 (x_:List Resize) (target:Int) (cmp:Resize->Int->Int):Nat->Int->Int->Int × Int
 | 0,_,_=>(0,0)
 | m+1,i,j=>bif (decide (i<j)) then bif (decide ((cmp (x_.getD (Int.toNat (w64 (Int.fdiv (wu64 (w64 (i+j))) (2 ^ (min (Int.toNat 1) 64))))) Resize.zero) target)<0)) then Qk0 x_ target cmp m (w64 ((w64 (Int.fdiv (wu64 (w64 (i+j))) (2 ^ (min (Int.toNat 1) 64))))+1)) j else Qk0 x_ target cmp m i (w64 (Int.fdiv (wu64 (w64 (i+j))) (2 ^ (min (Int.toNat 1) 64)))) else (i,j)
def QB0 (x_:List Resize) (target:Int) (cmp:Resize->Int->Int) (i:Int) (j:Int):Int × Bool:=(i,((decide (i<(x_.length:Int)))&&((cmp (x_.getD (Int.toNat i) Resize.zero) target)==0)))
def Q00 (x_:List Resize) (target:Int) (cmp:Resize->Int->Int):Int × Bool:=QB0 x_ target cmp ((Qk0 x_ target cmp ((Int.toNat ((x_.length:Int) - 0))+1) 0 (x_.length:Int)).1) ((Qk0 x_ target cmp ((Int.toNat ((x_.length:Int) - 0))+1) 0 (x_.length:Int)).2)
theorem bsr_in (x_:List Resize) (target:Int) (cmp:Resize->Int->Int) (hn:x_.length<=4294967296):∀ (m:Nat) (i j:Int),0<=i->i<=j->j<=(x_.length:Int)->0<=(Qk0 x_ target cmp m i j).1∧(Qk0 x_ target cmp m i j).1<=(x_.length:Int)
 | 0,_,_,_,_,_=>by simp [Qk0]
 | m+1,i,j,h0,h1,h2=>by
  rw [Qk0]
  cases hd:decide (i<j) with
  | false=>exact ⟨h0,Int.le_trans h1 h2⟩
  | true =>
   have hlt:=of_decide_eq_true hd
   rw [Qfa h0 hlt h2 (by omega)]
   simp only [cond_true]
   cases decide (cmp (x_.getD (Int.toNat ((i+j) / 2)) Resize.zero) target<0) with
   | true =>
    have hw:w64 ((i+j) / 2+1)=(i+j) / 2+1:=wr (by omega)
    simp only [cond_true]
    rw [hw]
    exact bsr_in x_ target cmp hn m _ _ (by omega) (by omega) h2
   | false=>exact bsr_in x_ target cmp hn m _ _ h0 (by omega) (by omega)
theorem bsr_le (l:List Resize) (t:Int) (cmp:Resize->Int->Int) (hn:l.length<=4294967296):0<=(Q00 l t cmp).1∧(Q00 l t cmp).1<=(l.length:Int) :=
 bsr_in l t cmp hn _ _ _ (by omega) (by omega) (by omega)
theorem bsr_lt {l:List Resize} {t:Int} {cmp:Resize->Int->Int} (h:(!(Q00 l t cmp).2)=false):(Q00 l t cmp).1<(l.length:Int):=by
 simp only [Q00,QB0,Bool.not_eq_false',Bool.and_eq_true,decide_eq_true_eq] at h
 exact h.1
theorem bsr_at {l:List Resize} {t:Int} {cmp:Resize->Int->Int} (h:(!(Q00 l t cmp).2)=false) (hn:l.length<=4294967296):0<=(Q00 l t cmp).1∧(Q00 l t cmp).1<(l.length:Int)∧w64 ((Q00 l t cmp).1+1)=(Q00 l t cmp).1+1:=by
 have h1:=bsr_lt h
 have h2:=bsr_le l t cmp hn
 exact ⟨h2.1,h1,wr (by omega)⟩
def bsrF (y:Resize) (y1:Int):Int:=w64 (y.job - y1)
theorem bsr_cl:∀ (y1:Resize) (y2:Int),AMoves Tryz.prog 99 [Resize.a y1,I y2] [] 0 (I (bsrF y1 y2)) []:=by
 intro y1 y2
 have hR:bsrF y1 y2=bsrF y1 y2:=rfl
 refine mo (kp 5 []) Tryz.func99 ?_
 refine Qt0 (fun r:Int=>I r) (fun _=>[]) (leaf:=(w64 (y1.job - y2))) (foll hR rfl) ?_
 exact tt [] .nil t1
theorem b0b0 {P:Prop} (h:P:=by first|(dsimp only;rw [hh3];omega)|first|(dsimp only;rw [hh];omega)|exact exA):P:=h
theorem bsr_m (l:List Resize) (id_:Int) (z1:l.length<=4294967296):AMoves Tryz.prog 98 [Qp1 l,I id_,AVal.fn (.func 99) [] []] [] 0 (AVal.tup [I ((Q00 l id_ bsrF).1),Bo ((Q00 l id_ bsrF).2)]) []:=by
 have hR:Q00 l id_ bsrF=Q00 l id_ bsrF:=rfl
 refine mo (kp 12 [17,31]) Tryz.func98 ?_
 refine Qe0 (fun (i:Int) (j:Int)=>∃ m,(Int.toNat (j - i))<m∧QB0 l id_ bsrF (Qk0 l id_ bsrF m i j).1 (Qk0 l id_ bsrF m i j).2=Q00 l id_ bsrF∧0<=i∧i<=j∧j<=(l.length:Int)) (fun i j=>(Int.toNat (j - i))) (fun i j=>[(0,Qp1 l),(1,I id_),(2,AVal.fn (.func 99) [] []),(6,I 0),(7,Bo false),(8,I (l.length:Int)),(9,I i),(10,I j)]) (fun i j=>[]) 0 (l.length:Int) (wkA []) ⟨_,Nat.lt_succ_self _,foll hR rfl,b0b0⟩ ?_
 clear hR
 rintro i j ⟨m,hm,hR,hx⟩
 try dsimp only at hR hm hx
 obtain ⟨m,rfl⟩:=sucA m
 refine ai (fun h9=>?_) (fun h10=>?_)
 ·have qh9:=of_decide_eq_true h9
  have hq0:i<j:=qh9;have hh:w64 (Int.fdiv (wu64 (w64 (i+j))) (2 ^ (min (Int.toNat 1) 64)))=(i+j) / 2:=Qfa hx.1 hq0 hx.2.2 (by omega);have hh3:w64 (w64 (Int.fdiv (wu64 (w64 (i+j))) (2 ^ (min (Int.toNat 1) 64)))+1)=(i+j) / 2+1:=by rw [hh];exact wr (by omega)
  refine And.intro (by first|exact fun hg=>decide_eq_true (by first|(show 0<=w64 (Int.fdiv (wu64 (w64 (i+j))) (2 ^ (min (Int.toNat 1) 64)))∧w64 (Int.fdiv (wu64 (w64 (i+j))) (2 ^ (min (Int.toNat 1) 64)))<(l.length:Int);rw [hh];omega)|exact ckA)|exact gkA) ?_
  refine And.intro (by first|exact fun hg=>decide_eq_true (by first|(show 0<=w64 (Int.fdiv (wu64 (w64 (i+j))) (2 ^ (min (Int.toNat 1) 64)))∧w64 (Int.fdiv (wu64 (w64 (i+j))) (2 ^ (min (Int.toNat 1) 64)))<(l.length:Int);rw [hh];omega)|exact ckA)|exact gkA) ?_
  refine us (mv [] (bsr_cl (l.getD (Int.toNat (w64 (Int.fdiv (wu64 (w64 (i+j))) (2 ^ (min (Int.toNat 1) 64))))) Resize.zero) id_) .nil (dl (Resize.low _ _) (d1 .nil)) .nil rx) ?_
  refine ai (fun h11=>?_) (fun h12=>?_)
  ·have qh11:=of_decide_eq_true h11
   exact Q60 (w64 ((w64 (Int.fdiv (wu64 (w64 (i+j))) (2 ^ (min (Int.toNat 1) 64))))+1)) j (wkA []) (by first|(dsimp only;rw [hh3];omega)|first|(dsimp only;rw [hh];omega)|exact omA) ⟨m,by first|(dsimp only;rw [hh3];omega)|first|(dsimp only;rw [hh];omega)|exact omA,foll hR (congrArg (fun p:Int × Int=>QB0 l id_ bsrF p.1 p.2) (ct h9 (ct h11 rfl))),b0b0⟩
  ·have qh12:=of_decide_eq_false h12
   exact Q60 i (w64 (Int.fdiv (wu64 (w64 (i+j))) (2 ^ (min (Int.toNat 1) 64)))) (wkA []) (by first|(dsimp only;rw [hh3];omega)|first|(dsimp only;rw [hh];omega)|exact omA) ⟨m,by first|(dsimp only;rw [hh3];omega)|first|(dsimp only;rw [hh];omega)|exact omA,foll hR (congrArg (fun p:Int × Int=>QB0 l id_ bsrF p.1 p.2) (ct h9 (cf h12 rfl))),b0b0⟩
 ·have qh10:=of_decide_eq_false h10
  replace hR:QB0 l id_ bsrF i j=Q00 l id_ bsrF:=fo2 (fun p:Int × Int=>QB0 l id_ bsrF p.1 p.2) (i,j) hR (cf h10 rfl)
  refine And.intro (by first|exact fun hg=>decide_eq_true (by first|(show 0<=w64 (Int.fdiv (wu64 (w64 (i+j))) (2 ^ (min (Int.toNat 1) 64)))∧w64 (Int.fdiv (wu64 (w64 (i+j))) (2 ^ (min (Int.toNat 1) 64)))<(l.length:Int);rw [hh];omega)|exact ckA)|exact gkA) ?_
  (first|apply u2|apply u3|apply u4|apply us);exact mv [] (bsr_cl (l.getD (Int.toNat i) Resize.zero) id_) .nil (dl (Resize.low _ _) (d1 .nil)) .nil rx
  refine Qt0 (fun r:Int × Bool=>AVal.tup [I r.1,Bo r.2]) (fun r:Int × Bool=>[]) (leaf:=(i,((decide (i<(l.length:Int)))&&((bsrF (l.getD (Int.toNat i) Resize.zero) id_)==0)))) (foll hR rfl) ?_
  exact tt [] .nil (turn_tup (c1 (c1 .nil)))
theorem bsr_c (l:List Resize) (id_:Int) (z1:l.length<=4294967296) (objs:Objs):AGives Tryz.prog 98 [Qp1 l,I id_,AVal.fn (.func 99) [] []] objs (AVal.tup [I ((Q00 l id_ bsrF).1),Bo ((Q00 l id_ bsrF).2)]):=by
 refine AGives.any' (.cons lw (l1 (.cons (Low.fn _ _ _ LowL.nil LowL.nil) .nil))) (Low.tup' (l1 (l1 .nil))) ?_ objs
 have h:=bsr_m l id_ z1
 unfold AGives ACalls;unfold AMoves at h
 intro K w vs hm hr
 refine (h K w vs hm hr).mono ?_
 rintro e w' ⟨v,K',he,hle,hm',hv⟩
 have hn:K.n=0:=hm.len.symm
 refine ⟨v,_,_,K',he,⟨hle.M,fun o v h=>absurd h (by omega),fun o v h=>absurd h (by omega),by omega,fun o h=>absurd h (by omega),hle.w0,hle.B,hle.M0⟩,hm',hv,rfl,rfl⟩
def Q77 (id_:Int):Bool:=((decide (id_ >= 1))&&(decide (id_<=99999)))
theorem table_known_c (id_:Int):GV 126 [I id_] (Bo (Q77 id_)):=by
 generalize hR:Q77 id_=R;refine gA (kp 3 []) Tryz.func126 ?_;exact lfA
def Qr0 (x_:List Job) (target:Int) (cmp:Job->Int->Int):Nat->Int->Int->Int × Int
 | 0,_,_=>(0,0)
 | m+1,i,j=>bif (decide (i<j)) then bif (decide ((cmp (x_.getD (Int.toNat (w64 (Int.fdiv (wu64 (w64 (i+j))) (2 ^ (min (Int.toNat 1) 64))))) Job.zero) target)<0)) then Qr0 x_ target cmp m (w64 ((w64 (Int.fdiv (wu64 (w64 (i+j))) (2 ^ (min (Int.toNat 1) 64))))+1)) j else Qr0 x_ target cmp m i (w64 (Int.fdiv (wu64 (w64 (i+j))) (2 ^ (min (Int.toNat 1) 64)))) else (i,j)
def QX0 (x_:List Job) (target:Int) (cmp:Job->Int->Int) (i:Int) (j:Int):Int × Bool:=(i,((decide (i<(x_.length:Int)))&&((cmp (x_.getD (Int.toNat i) Job.zero) target)==0)))
def QN0 (x_:List Job) (target:Int) (cmp:Job->Int->Int):Int × Bool:=QX0 x_ target cmp ((Qr0 x_ target cmp ((Int.toNat ((x_.length:Int) - 0))+1) 0 (x_.length:Int)).1) ((Qr0 x_ target cmp ((Int.toNat ((x_.length:Int) - 0))+1) 0 (x_.length:Int)).2)
def Qre (l:List Job):(List Job):=l
theorem QI8 (l:List Job) (hs0:l.length<=4294967296∧(∀ y ∈ l,y.sz)):AMoves Tryz.prog 187 [jobL l] [] 0 (AVal.own 0 0 20 0 l.length) [(0,AObj.row 72 20 (l.map Job.cells))]:=by
 generalize hR:Qre l=R;refine mo (kp 3 []) Tryz.func187 ?_;obtain ⟨z1,z2⟩:=id hs0;refine ai gkA ?_;(first|refine ⟨Qo1 216 rfl lnA apA,?_⟩|refine ⟨QI0 216 rfl apA,?_⟩);obtain rfl:=foll hR rfl;exact rq (ttA [0])
def Qpe (l:List Alt):(List Alt):=l
theorem QOc (l:List Alt) (hs0:l.length<=4294967296):GV 188 [altL l] (altL l):=by
 generalize hR:Qpe l=R;refine gA (kp 3 []) Tryz.func188 ?_;have hk0:=hs0;obtain z1:l.length<=4294967296:=hs0;refine ai gkA ?_;(first|refine ⟨Qo1 16 rfl lnA apA,?_⟩|refine ⟨QI0 16 rfl apA,?_⟩);obtain rfl:=foll hR rfl;exact Q80 lw (Q90 Alt.zero _ rfl eqA lnA)
def Qqe (l:List Dep):(List Dep):=l
theorem QPc (l:List Dep) (hs0:l.length<=4294967296):GV 189 [depL l] (depL l):=by
 generalize hR:Qqe l=R;refine gA (kp 3 []) Tryz.func189 ?_;have hk0:=hs0;obtain z1:l.length<=4294967296:=hs0;refine ai gkA ?_;(first|refine ⟨Qo1 16 rfl lnA apA,?_⟩|refine ⟨QI0 16 rfl apA,?_⟩);obtain rfl:=foll hR rfl;exact Q80 lw (Q90 Dep.zero _ rfl eqA lnA)
def QD8 (n:Int):Bool:=((decide (n >= (-1000000)))&&(decide (n<=1000000)))
theorem QO8 (n:Int):GV 142 [I n] (Bo (QD8 n)):=by
 generalize hR:QD8 n=R;refine gA (kp 3 []) Tryz.func142 ?_;exact lfA
def QZ6 (t:Int):Bool:=((decide (t >= 0))&&(decide (t<=1000000)))
theorem QId (t:Int):GV 132 [I t] (Bo (QZ6 t)):=by
 generalize hR:QZ6 t=R;refine gA (kp 3 []) Tryz.func132 ?_;exact lfA
theorem Qrc {t n:Int} {b:Bool} (h:(((!(QZ6 t))||(decide (n<t)))||b)=false):0<=t:=by
 simp [QZ6] at h
 omega
def Q81 (f:Int->Bool):Nat->Int->Int->Int × Int
 | 0,_,_=>(0,0)
 | m+1,i,j=>bif (decide (i<j)) then bif (!(f (w64 (Int.fdiv (wu64 (w64 (i+j))) (2 ^ (min (Int.toNat 1) 64)))))) then Q81 f m (w64 ((w64 (Int.fdiv (wu64 (w64 (i+j))) (2 ^ (min (Int.toNat 1) 64))))+1)) j else Q81 f m i (w64 (Int.fdiv (wu64 (w64 (i+j))) (2 ^ (min (Int.toNat 1) 64)))) else (i,j)
def QV4 (i:Int) (j:Int):Int:=i
def QV1 (n:Int) (f:Int->Bool):Int:=QV4 ((Q81 f ((Int.toNat (n - 0))+1) 0 n).1) ((Q81 f ((Int.toNat (n - 0))+1) 0 n).2)
theorem QU8 (f:Int->Bool) {N:Nat} (hN:N<=4294967296):∀ (m:Nat) (i j:Int),0<=i->i<=j->j<=N->Int.toNat (j - i)<m->i<=(Q81 f m i j).1∧(Q81 f m i j).1<=j∧(i<(Q81 f m i j).1->f ((Q81 f m i j).1 - 1)=false)∧((Q81 f m i j).1<j->f (Q81 f m i j).1=true)
 | 0,_,_,_,_,_,hm=>absurd hm (Nat.not_lt_zero _)
 | m+1,i,j,h0,hij,hj,hm=>by
  unfold Q81
  cases hc:decide (i<j) with
  | false =>
   have:=of_decide_eq_false hc
   simp only [cond_false]
   exact ⟨Int.le_refl _,by omega,fun h=>absurd h (by omega),fun h=>absurd h (by omega)⟩
  | true =>
   have hlt:=of_decide_eq_true hc
   have hh:w64 (Int.fdiv (wu64 (w64 (i+j))) (2 ^ (min (Int.toNat 1) 64)))=(i+j) / 2:=Qfa h0 hlt hj (by omega)
   have hw:w64 ((i+j) / 2+1)=(i+j) / 2+1:=wr (by omega)
   simp only [cond_true,hh,hw]
   cases hf:f ((i+j) / 2) with
   | false =>
    simp only [Bool.not_false,cond_true]
    obtain ⟨a,b,c,d⟩:=QU8 f hN m ((i+j) / 2+1) j (by omega) (by omega) hj (by omega)
    refine ⟨by omega,b,fun _=>?_,d⟩
    by_cases h:(i+j) / 2+1<(Q81 f m ((i+j) / 2+1) j).1
    ·exact c h
    ·rw [show (Q81 f m ((i+j) / 2+1) j).1 - 1=(i+j) / 2 by omega]
     exact hf
   | true =>
    simp only [Bool.not_true,cond_false]
    obtain ⟨a,b,c,d⟩:=QU8 f hN m i ((i+j) / 2) h0 (by omega) (by omega) (by omega)
    refine ⟨a,by omega,c,fun h=>?_⟩
    by_cases h2:(Q81 f m i ((i+j) / 2)).1<(i+j) / 2
    ·exact d h2
    ·rw [show (Q81 f m i ((i+j) / 2)).1=(i+j) / 2 by omega]
     exact hf
theorem Qke (f:Int->Bool) {N:Nat} (hN:N<=4294967296):0<=QV1 (N:Int) f∧QV1 (N:Int) f<=N∧(0<QV1 (N:Int) f->f (QV1 (N:Int) f - 1)=false)∧(QV1 (N:Int) f<N->f (QV1 (N:Int) f)=true) :=
 QU8 f hN _ 0 N (Int.le_refl _) (by omega) (Int.le_refl _) (by omega)
def QZ8 (n:Int) (from_:Int) (to_:Int):Bool:=((decide (n >= from_))&&(decide (n<=to_)))
theorem Q7a (n:Int) (from_:Int) (to_:Int):GV 89 [I n,I from_,I to_] (Bo (QZ8 n from_ to_)):=by
 generalize hR:QZ8 n from_ to_=R;refine gA (kp 7 []) Tryz.func89 ?_;exact lfA
theorem QFb (l:List Step) (hs0:l.length<=4294967296):AMoves Tryz.prog 207 [stepL l] [] 0 (AVal.own 0 0 2 0 l.length) [(0,AObj.row 182 2 (l.map Step.cells))]:=by
 refine AMoves.of_cwp (fun _=>true) Tryz.func207 rfl rfl rfl ?_
 obtain z4:l.length<=4294967296:=hs0
 intro b hb
 refine ai (fun h1=>?_) (fun h2=>?_)
 ·have hl:l=[]:=by
   rcases l with _|⟨x,r⟩
   ·rfl
   ·exact absurd ((hb (by simp)).symm.trans h1) (by decide)
  subst hl
  refine Qt0 (fun r:List Step=>AVal.own 0 0 2 0 r.length) (fun r:List Step=>[(0,AObj.row 182 2 (r.map Step.cells))]) (leaf:=[]) rfl ?_
  exact Told.pad 182 2 (Qj4 [0] rfl (by decide) (tO rfl (tl eqA) .nil) (Q87 0 rfl))
 ·refine ⟨QI0 16 rfl apA,?_⟩
  refine Qt0 (fun r:List Step=>AVal.own 0 0 2 0 r.length) (fun r:List Step=>[(0,AObj.row 182 2 (r.map Step.cells))]) (leaf:=l) rfl ?_
  exact Qj4 [0] rfl (by decide) (tO rfl (tl eqA) .nil) (to 0 lnA)
def Q71 (at_:Int) (free:Int) (out:List Step):List Step:=bif (((out.length:Int)==0)||((out.getD (Int.toNat (w64 ((out.length:Int) - 1))) Step.zero).free != free)) then (out++([(⟨at_,free⟩:Step)]:List Step)) else out
theorem Qx3 (at_:Int) (free:Int) (out:List Step) (hs0:out.length<=4294967296):AMoves Tryz.prog 208 [I at_,I free,AVal.ptr 0 0 1 0 0] [(0,AObj.row 82 1 [[AVal.own 1 0 2 0 out.length]]),(0,AObj.row 182 2 (out.map Step.cells))] 1 (AVal.tup []) [(0,AObj.row 82 1 [[AVal.own 1 0 2 0 (Q71 at_ free out).length]]),(0,AObj.row 182 2 ((Q71 at_ free out).map Step.cells))]:=by
 generalize hR:Q71 at_ free out=R;refine mo (kp 6 [19]) Tryz.func208 ?_;have hk0:=hs0;obtain z3:out.length<=4294967296:=hs0;refine ai gkA ?_;refine ⟨_,fun hg=>QQ0 rfl rfl rfl (Q21 Step.zero (Int.toNat (w64 ((out.length:Int) - 1))) (by first|rfl|exact Nat.zero_add _|omega) ckA) rfl,?_⟩;refine ai (fun h1=>?_) (fun h2=>?_)
 ·refine Or.inl ?_;(first|refine ⟨Qo1 16 rfl lnA apA,?_⟩|refine ⟨QI0 16 rfl apA,?_⟩);obtain rfl:=foll hR (ct h1 rfl);exact rq (ttA [0,1])
 ·obtain rfl:=foll hR (cf h2 rfl);exact rq (ttA [0,1])
theorem QF3 (a f:Int) (out:List Step):(Q71 a f out).length<=out.length+1:=by
 unfold Q71
 cases (((out.length:Int)==0)||((out.getD (Int.toNat (w64 ((out.length:Int) - 1))) Step.zero).free != f)) with
 | true=>simp
 | false=>simp
def Q95 (n:Int):(List Step):=([(⟨0,(min (max n (-1000000)) 1000000)⟩:Step)]:List Step)
theorem profile_Flat_c (n:Int):GV 143 [I n] (stepL (Q95 n)):=by
 generalize hR:Q95 n=R;refine gA (kp 3 []) Tryz.func143 ?_;refine Or.inl ?_;obtain rfl:=foll hR rfl;exact Q80 lw (seen_as (QA5 (c:=Step.cells) (d:=Step.zero) ([(⟨0,(min (max n (-1000000)) 1000000)⟩:Step)]:List Step) rfl))
def Ql7 :List Job->Nat->List (Int × Int)->(List (Int × Int))
 | [],_,c=>c
 | x_ :: r,i,c=>bif (x_.state==2) then Ql7 r (i+1) (setM x_.id x_.limit c) else Ql7 r (i+1) c
def QT4 (c:List (Int × Int)):(List (Int × Int)):=c
def QG0 (l:List Job):(List (Int × Int)):=QT4 (Ql7 l 0 [])
theorem room_limits_o (l:List Job) (hs0:l.length<=4294967296∧(∀ y ∈ l,y.sz)):AMoves Tryz.prog 145 [jobL l] [] 0 (AVal.map 0) [(0,AObj.other (.map (mapEs ik I 0 (QG0 l)) (QG0 l).length))]:=by
 generalize hR:QG0 l=R;refine mo (kp 6 [7,8,9,10,15]) Tryz.func145 ?_;obtain ⟨z10,z11⟩:=id hs0;refine Qe0 (fun (i:Nat) (c:List (Int × Int))=>QT4 (Ql7 (List.drop i l) i c)=R∧i<=l.length) (fun i c=>l.length - i) (fun i c=>[(2,AVal.lit (.map none)),(3,AVal.map 0),(7,jobL l),(8,I (l.length:Int)),(9,I (i:Int))]) (fun i c=>[(0,AObj.other (.map (mapEs ik I 0 c) c.length))]) 0 [] (wkA [0]) ⟨foll hR rfl,by exact omA⟩ ?_;clear hR;rintro i c ⟨hR,hj⟩;(try dsimp only at hR hj);refine ai (fun h1=>?_) (fun h2=>?_)
 ·have hlt:=ltA h1;rw [Qc0 Job.zero hlt] at hR;have hxz:(l.getD i Job.zero).sz:=Q94 (by first|assumption|grind) (Job.szz _);have hkz:=hxz;obtain ⟨z3,z4,z5,z6,z7⟩:=Job.zz hxz;refine ai gkA ?_;refine ai (fun h8=>?_) (fun h9=>?_)
  ·refine ⟨_,_,QJ1 rfl _ _,Qsc (ek:=ik) ((l.getD i Job.zero).id) ((l.getD i Job.zero).limit) c rfl rfl,?_⟩;exact Q60 (i+1) (setM (l.getD i Job.zero).id (l.getD i Job.zero).limit c) (wkA [0]) omA ⟨foll hR (congrArg (fun p:(List (Int × Int))=>QT4 p) (ct h8 rfl)),by exact omA⟩
  ·exact Q60 (i+1) c (wkA [0]) omA ⟨foll hR (congrArg (fun p:(List (Int × Int))=>QT4 p) (cf h9 rfl)),by exact omA⟩
 ·rw [Qd0 (l:=l) (j:=i) (geA h2)] at hR;replace hR:QT4 c=R:=fo2 (fun p:(List (Int × Int))=>QT4 p) (c) hR rfl;obtain rfl:=foll hR rfl;exact rq (ttA [0])
def Qi1 (x_:Node) (limits:List (Int × Int)):Int:=bif (((x_.state==0)||(x_.state==4))||x_.drain) then 0 else bif (x_.state==3) then (w64 (x_.since+12)) else bif (!(getM x_.job limits).isSome) then 1000001 else (w64 (((getM x_.job limits).getD 0)+12))
theorem room_until_c (x_:Node) (limits:List (Int × Int)):AMoves Tryz.prog 146 [Node.a x_,AVal.map 0] [(0,AObj.other (.map (mapEs ik I 0 limits) limits.length))] 1 (I (Qi1 x_ limits)) [(0,AObj.other (.map (mapEs ik I 0 limits) limits.length))]:=by
 generalize hR:Qi1 x_ limits=R;refine mo (kp 7 [7,20,35]) Tryz.func146 ?_;refine ai (fun h1=>?_) (fun h2=>?_)
 ·obtain rfl:=foll hR (ct h1 rfl);exact rq (ttA [0])
 ·refine ai (fun h3=>?_) (fun h4=>?_)
  ·obtain rfl:=foll hR (cf h2 (ct h3 rfl));exact rq (ttA [0])
  ·(first|refine ⟨_,_,QJ1 rfl _ _,QK1 (ek:=ik) x_.job limits 0 (AsA.refl _),?_⟩|refine ⟨_,fun _=>⟨_,_,QJ1 rfl _ _,QK1 (ek:=ik) x_.job limits 0 (AsA.refl _),rfl,rfl⟩,?_⟩|refine ⟨_,rfl,⟨_,_,QJ1 rfl _ _,QK1 (ek:=ik) x_.job limits 0 (AsA.refl _),Sub.refl _,rfl⟩,?_⟩);refine ai (fun h5=>?_) (fun h6=>?_)
   ·obtain rfl:=foll hR (cf h2 (cf h4 (ct h5 rfl)));exact rq (ttA [0])
   ·obtain rfl:=foll hR (cf h2 (cf h4 (cf h6 rfl)));exact rq (ttA [0])
def Qaa (x_:Node) (i2:Bool):Bool:=bif i2 then (x_.state != 4) else false
def Q9a (x_:Node) (act:Int) (i1:Bool):Bool:=bif i1 then ((x_.state==1)||(x_.state==2)) else bif (act==5) then ((x_.state==1)&&(x_.want==0)) else bif (act==6) then ((x_.state==1)&&(x_.want==4)) else bif (act==8) then (x_.state==3) else bif (act==9) then ((x_.state != 4)&&(decide (x_.epoch<999999999))) else bif (act==10) then (x_.state==4) else bif (act==11) then ((x_.state==4)&&(x_.want==6)) else bif (act==12) then Qaa x_ (act==12) else Qaa x_ (act==13)
def Q8a (x_:Node) (act:Int) (job:Int) (i:Bool):Bool:=bif i then (((((x_.state==0)&&(!x_.drain))&&(decide (x_.epoch<999999999)))&&(decide (job >= 1)))&&(decide (job<=99999))) else bif (act==3) then (x_.state==2) else bif (act==4) then Q9a x_ act (act==4) else Q9a x_ act (act==7)
def Qx4 (x_:Node) (act:Int) (job:Int):Bool:=bif (act==1) then Q8a x_ act job (act==1) else Q8a x_ act job (act==2)
theorem fleet_may_c (x_:Node) (act:Int) (job:Int):GV 211 [Node.a x_,I act,I job] (Bo (Qx4 x_ act job)):=by
 generalize hR:Qx4 x_ act job=R;refine gA (kj [1000005,1000010,1000025] 8 [16,17,41,46,50,60,70,75,85,90,100]) Tryz.func211 ?_;refine Qb1 (fun (i:Bool)=>Q8a x_ act job i=R) (fun i=>[(2,I job),(3,AVal.ptr 0 0 7 0 0),(6,Bo false),(7,Bo ((x_.state==1)||(x_.state==2))),(16,I act),(17,Bo i)]) (fun i=>[(0,AObj.row 55 7 [[I x_.state,I x_.job,I x_.epoch,Bo x_.drain,I x_.want,I x_.since,I x_.asked]])]) ?_ ?_
 ·clear hR;rintro i hR;(try dsimp only at hR);refine ai (fun h1=>?_) (fun h2=>?_)
  ·exact lfA
  ·refine ai (fun h3=>?_) (fun h4=>?_)
   ·exact lfA
   ·refine Qb1 (fun (i1:Bool)=>Q9a x_ act i1=R) (fun i1=>[(3,AVal.ptr 0 0 7 0 0),(6,Bo false),(7,Bo ((x_.state==1)||(x_.state==2))),(16,I act),(46,Bo i1)]) (fun i1=>[(0,AObj.row 55 7 [[I x_.state,I x_.job,I x_.epoch,Bo x_.drain,I x_.want,I x_.since,I x_.asked]])]) ?_ ?_
    ·clear hR;rintro i1 hR;(try dsimp only at hR);refine ai (fun h5=>?_) (fun h6=>?_)
     ·exact lfA
     ·refine ai (fun h7=>?_) (fun h8=>?_)
      ·exact lfA
      ·refine ai (fun h9=>?_) (fun h10=>?_)
       ·exact lfA
       ·refine ai (fun h11=>?_) (fun h12=>?_)
        ·exact lfA
        ·refine ai (fun h13=>?_) (fun h14=>?_)
         ·exact lfA
         ·refine ai (fun h15=>?_) (fun h16=>?_)
          ·exact lfA
          ·refine ai (fun h17=>?_) (fun h18=>?_)
           ·exact lfA
           ·refine Qb1 (fun (i2:Bool)=>Qaa x_ i2=R) (fun i2=>[(3,AVal.ptr 0 0 7 0 0),(6,Bo false),(100,Bo i2)]) (fun i2=>[(0,AObj.row 55 7 [[I x_.state,I x_.job,I x_.epoch,Bo x_.drain,I x_.want,I x_.since,I x_.asked]])]) ?_ ?_
            ·clear hR;rintro i2 hR;(try dsimp only at hR);refine ai (fun h19=>?_) (fun h20=>?_)
             ·exact lfA
             ·exact lfA
            ·refine ai (fun h21=>?_) (fun h22=>?_)
             ·exact Q70 (act==12) (wkA [0]) (foll hR (cf h6 (cf h8 (cf h10 (cf h12 (cf h14 (cf h16 (cf h18 (ct h21 rfl)))))))))
             ·exact Q70 (act==13) (wkA [0]) (foll hR (cf h6 (cf h8 (cf h10 (cf h12 (cf h14 (cf h16 (cf h18 (cf h22 rfl)))))))))
    ·refine ai (fun h23=>?_) (fun h24=>?_)
     ·exact Q70 (act==4) (wkA [0]) (foll hR (cf h2 (cf h4 (ct h23 rfl))))
     ·exact Q70 (act==7) (wkA [0]) (foll hR (cf h2 (cf h4 (cf h24 rfl))))
 ·refine ai (fun h25=>?_) (fun h26=>?_)
  ·exact Q70 (act==1) (wkA [0]) (foll hR (ct h25 rfl))
  ·exact Q70 (act==2) (wkA [0]) (foll hR (cf h26 rfl))
theorem QEb (l:List Node) (hs0:l.length<=4294967296):AMoves Tryz.prog 212 [nodeL l] [] 0 (AVal.own 0 0 7 0 l.length) [(0,AObj.row 55 7 (l.map Node.cells))]:=by
 refine AMoves.of_cwp (fun _=>true) Tryz.func212 rfl rfl rfl ?_
 obtain z27:l.length<=4294967296:=hs0
 intro b hb
 refine ai (fun h1=>?_) (fun h2=>?_)
 ·have hl:l=[]:=by
   rcases l with _|⟨x,r⟩
   ·rfl
   ·exact absurd ((hb (by simp)).symm.trans h1) (by decide)
  subst hl
  refine Qt0 (fun r:List Node=>AVal.own 0 0 7 0 r.length) (fun r:List Node=>[(0,AObj.row 55 7 (r.map Node.cells))]) (leaf:=[]) rfl ?_
  exact Told.pad 55 7 (Qj4 [0] rfl (by decide) (tO rfl (tl eqA) .nil) (Q87 0 rfl))
 ·refine ⟨QI0 56 rfl apA,?_⟩
  refine Qt0 (fun r:List Node=>AVal.own 0 0 7 0 r.length) (fun r:List Node=>[(0,AObj.row 55 7 (r.map Node.cells))]) (leaf:=l) rfl ?_
  exact Qj4 [0] rfl (by decide) (tO rfl (tl eqA) .nil) (to 0 lnA)
def Qv9 (x_:Node) (act:Int):Node:=bif (act==12) then bif (act==12) then { x_ with drain:=(act==12) } else x_ else bif (act==13) then { x_ with drain:=(act==12) } else x_
def QR0 (x_:Node) (act:Int) (job:Int) (now:Int):Node:=bif (act==1) then (⟨1,job,(w64 (x_.epoch+1)),x_.drain,1,now,now⟩:Node) else bif (act==2) then (⟨2,job,(w64 (x_.epoch+1)),x_.drain,2,now,now⟩:Node) else bif (act==3) then (⟨1,x_.job,x_.epoch,x_.drain,3,now,now⟩:Node) else bif (act==5) then { x_ with want:=4,since:=now,asked:=now } else bif (act==7) then (⟨3,x_.job,x_.epoch,x_.drain,5,now,now⟩:Node) else bif (act==9) then (⟨4,0,(w64 (x_.epoch+1)),x_.drain,0,x_.since,x_.asked⟩:Node) else bif (act==10) then { x_ with want:=6,since:=now,asked:=now } else bif (act==11) then (⟨0,0,x_.epoch,false,0,x_.since,x_.asked⟩:Node) else bif (act==8) then { x_ with state:=0,job:=0,want:=0 } else bif (act==4) then bif (act==4) then { x_ with want:=0 } else Qv9 x_ act else bif (act==6) then { x_ with want:=0 } else Qv9 x_ act
theorem fleet_done_c (x_:Node) (act:Int) (job:Int) (now:Int):GV 213 [Node.a x_,I act,I job,I now] (Node.a (QR0 x_ act job now)):=by
 generalize hR:QR0 x_ act job now=R;refine AGives.any' (.cons (Node.low _ _) (l1 (l1 (l1 .nil)))) (Node.low _ _) (ACalls.of_cwp (kj [1000014] 10 [11,12,14,16,18,20,22,24,26,28,30,33]) Tryz.func213 rfl rfl ?_);(conv=>whnf);refine And.intro (fun h1=>?_) (fun h2=>?_)
 ·(conv=>whnf);refine ACalls.of_cwp (fun _=>true) Tryz.func255 rfl rfl ?_;(conv=>whnf);refine dchk (by kernel_rfl) ?_;(conv=>whnf);(repeat ((first|refine And.intro rfl ?_|refine And.intro (fun _=>rfl) ?_);conv=>whnf));refine ⟨_,_,Told.refl,?_⟩;(conv=>whnf);exact lfA
 ·(conv=>whnf);refine And.intro (fun h3=>?_) (fun h4=>?_)
  ·(conv=>whnf);refine ACalls.of_cwp (fun _=>true) Tryz.func255 rfl rfl ?_;(conv=>whnf);refine dchk (by kernel_rfl) ?_;(conv=>whnf);(repeat ((first|refine And.intro rfl ?_|refine And.intro (fun _=>rfl) ?_);conv=>whnf));refine ⟨_,_,Told.refl,?_⟩;(conv=>whnf);exact lfA
  ·(conv=>whnf);refine And.intro (fun h5=>?_) (fun h6=>?_)
   ·(conv=>whnf);refine ACalls.of_cwp (fun _=>true) Tryz.func255 rfl rfl ?_;(conv=>whnf);refine dchk (by kernel_rfl) ?_;(conv=>whnf);(repeat ((first|refine And.intro rfl ?_|refine And.intro (fun _=>rfl) ?_);conv=>whnf));refine ⟨_,_,Told.refl,?_⟩;(conv=>whnf);exact lfA
   ·(conv=>whnf);refine And.intro (fun h7=>?_) (fun h8=>?_)
    ·(conv=>whnf);refine ACalls.of_cwp (fun _=>true) Tryz.func255 rfl rfl ?_;(conv=>whnf);refine dchk (by kernel_rfl) ?_;(conv=>whnf);(repeat ((first|refine And.intro rfl ?_|refine And.intro (fun _=>rfl) ?_);conv=>whnf));refine ⟨_,_,Told.refl,?_⟩;(conv=>whnf);exact lfA
    ·(conv=>whnf);refine And.intro (fun h9=>?_) (fun h10=>?_)
     ·(conv=>whnf);refine ACalls.of_cwp (fun _=>true) Tryz.func255 rfl rfl ?_;(conv=>whnf);refine dchk (by kernel_rfl) ?_;(conv=>whnf);(repeat ((first|refine And.intro rfl ?_|refine And.intro (fun _=>rfl) ?_);conv=>whnf));refine ⟨_,_,Told.refl,?_⟩;(conv=>whnf);exact lfA
     ·(conv=>whnf);refine And.intro (fun h11=>?_) (fun h12=>?_)
      ·(conv=>whnf);exact lfA
      ·(conv=>whnf);refine And.intro (fun h13=>?_) (fun h14=>?_)
       ·(conv=>whnf);refine ACalls.of_cwp (fun _=>true) Tryz.func255 rfl rfl ?_;(conv=>whnf);refine dchk (by kernel_rfl) ?_;(conv=>whnf);(repeat ((first|refine And.intro rfl ?_|refine And.intro (fun _=>rfl) ?_);conv=>whnf));refine ⟨_,_,Told.refl,?_⟩;(conv=>whnf);exact lfA
       ·(conv=>whnf);refine And.intro (fun h15=>?_) (fun h16=>?_)
        ·(conv=>whnf);exact lfA
        ·(conv=>whnf);refine And.intro (fun h17=>?_) (fun h18=>?_)
         ·(conv=>whnf);exact lfA
         ·(conv=>whnf);refine join_start (X:=Unit) (fun _=>Qv9 x_ act  = R) (fun _=>[(1,I act),(2,I job),(4,AVal.ptr 0 0 7 0 0),(8,AVal.ptr 2 0 7 0 0),(9,AVal.fn (.func 255) [] [AVal.ptr 1 0 1 0 0,AVal.ptr 0 0 7 0 0]),(11,I act)]) (fun _=>[(0,AObj.row 55 7 [[I x_.state,I x_.job,I x_.epoch,Bo x_.drain,I x_.want,I x_.since,I x_.asked]]),(0,AObj.row 3 1 [[I now]]),(0,AObj.row 55 7 [[I 0,I 0,I 0,Bo false,I 0,I 0,I 0]])]) ?_ ?_
          ·clear hR;rintro _ hR;(try dsimp only at hR);(conv=>whnf);refine And.intro (fun h19=>?_) (fun h20=>?_)
           ·(conv=>whnf);refine And.intro (fun h21=>?_) (fun h22=>?_)
            ·(conv=>whnf);exact lfA
            ·(conv=>whnf);obtain rfl:=foll hR (ct h19 (cf h22 rfl));exact Q80 (Node.low _ _) sr
           ·(conv=>whnf);refine And.intro (fun h23=>?_) (fun h24=>?_)
            ·(conv=>whnf);exact lfA
            ·(conv=>whnf);exact lfA
          ·(conv=>whnf);refine And.intro (fun h25=>?_) (fun h26=>?_)
           ·(conv=>whnf);refine And.intro (fun h27=>?_) (fun h28=>?_)
            ·(conv=>whnf);exact lfA
            ·(conv=>whnf);exact Q9f () (wkA [0,1,2]) (foll hR (cf h2 (cf h4 (cf h6 (cf h8 (cf h10 (cf h12 (cf h14 (cf h16 (cf h18 (ct h25 (cf h28 rfl))))))))))))
           ·(conv=>whnf);refine And.intro (fun h29=>?_) (fun h30=>?_)
            ·(conv=>whnf);exact lfA
            ·(conv=>whnf);exact Q9f () (wkA [0,1,2]) (foll hR (cf h2 (cf h4 (cf h6 (cf h8 (cf h10 (cf h12 (cf h14 (cf h16 (cf h18 (cf h26 (cf h30 rfl))))))))))))
def Q73 (i:Bool):Bool:=bif i then true else false
def QK3 (act:Int):Bool:=bif (act==1) then Q73 (act==1) else bif (act==2) then Q73 (act==2) else bif (act==3) then Q73 (act==3) else bif (act==5) then Q73 (act==5) else bif (act==7) then Q73 (act==7) else Q73 (act==10)
theorem alloc_sends_c (act:Int):GV 157 [I act] (Bo (QK3 act)):=by
 generalize hR:QK3 act=R;refine gA (kj [1000008] 3 [3,4]) Tryz.func157 ?_;refine Qb1 (fun (i:Bool)=>Q73 i=R) (fun i=>[(2,Bo false),(4,Bo i)]) (fun i=>[]) ?_ ?_
 ·clear hR;rintro i hR;(try dsimp only at hR);refine ai (fun h1=>?_) (fun h2=>?_)
  ·exact lfA
  ·exact lfA
 ·refine ai (fun h3=>?_) (fun h4=>?_)
  ·exact Q70 (act==1) (wkA []) (foll hR (ct h3 rfl))
  ·refine ai (fun h5=>?_) (fun h6=>?_)
   ·exact Q70 (act==2) (wkA []) (foll hR (cf h4 (ct h5 rfl)))
   ·refine ai (fun h7=>?_) (fun h8=>?_)
    ·exact Q70 (act==3) (wkA []) (foll hR (cf h4 (cf h6 (ct h7 rfl))))
    ·refine ai (fun h9=>?_) (fun h10=>?_)
     ·exact Q70 (act==5) (wkA []) (foll hR (cf h4 (cf h6 (cf h8 (ct h9 rfl)))))
     ·refine ai (fun h11=>?_) (fun h12=>?_)
      ·exact Q70 (act==7) (wkA []) (foll hR (cf h4 (cf h6 (cf h8 (cf h10 (ct h11 rfl))))))
      ·exact Q70 (act==10) (wkA []) (foll hR (cf h4 (cf h6 (cf h8 (cf h10 (cf h12 rfl))))))
def Qn1 (id_:Int):Bool:=((decide (id_ >= 1))&&(decide (id_<=99999)))
theorem QS8 (id_:Int):GV 57 [I id_] (Bo (Qn1 id_)):=by
 generalize hR:Qn1 id_=R;refine gA (kp 3 []) Tryz.func57 ?_;exact lfA
def Qcc (ok:Bool):Int:=bif (!ok) then 141 else 0
theorem job_when_c (ok:Bool):GV 227 [Bo ok] (I (Qcc ok)):=by
 generalize hR:Qcc ok=R;refine gA (kp 3 [4]) Tryz.func227 ?_;refine ai (fun h1=>?_) (fun h2=>?_)
 ·exact lfA
 ·exact lfA
theorem QJc (l:List Dep) (hs0:l.length<=4294967296):GV 292 [depL l] (depL l):=by
 refine AGives.any' (.cons lw .nil) lw (ACalls.of_cwp (fun _=>true) Tryz.func292 rfl rfl ?_)
 obtain z3:l.length<=4294967296:=hs0
 intro b hb
 refine ai (fun h1=>?_) (fun h2=>?_)
 ·have hl:l=[]:=by
   rcases l with _|⟨x,r⟩
   ·rfl
   ·exact absurd ((hb (by simp)).symm.trans h1) (by decide)
  subst hl
  exact Qze (fun r:List Dep=>depL r) (leaf:=[]) rfl lw Q30
 ·refine ⟨QI0 16 rfl apA,?_⟩
  exact Qze (fun r:List Dep=>depL r) (leaf:=l) rfl lw (Q90 Dep.zero _ rfl eqA lnA)
def law26_small :State:=(⟨4,([(⟨1,5,1,false,0,0,0⟩:Node),(⟨1,5,1,false,0,0,0⟩:Node),Node.zero,Node.zero]:List Node),([(⟨5,⟨#[97]⟩,⟨#[117]⟩,⟨#[120]⟩,(⟨3,[],1,3,60⟩:Shape),0,[],2,false,0,4,1,4,64,3,0⟩:Job)]:List Job),[],[],[],6,1⟩:State)
theorem Qkc :GV 29 [] (State.a law26_small):=by
 generalize hR:law26_small=R;refine gA (kp 3 []) Tryz.func29 ?_;refine Or.inl ?_;refine Or.inl ?_;obtain rfl:=foll hR rfl;exact Q80 (State.low _ _) (Seen.agg (e1 (ev (seen_as (QA5 (c:=Node.cells) (d:=Node.zero) ([(⟨1,5,1,false,0,0,0⟩:Node),(⟨1,5,1,false,0,0,0⟩:Node),Node.zero,Node.zero]:List Node) rfl)) (ev (seen_as (as_deep (c:=Job.cells) (d:=Job.zero) ([(⟨5,⟨#[97]⟩,⟨#[117]⟩,⟨#[120]⟩,(⟨3,[],1,3,60⟩:Shape),0,[],2,false,0,4,1,4,64,3,0⟩:Job)]:List Job) (.cons _ _ _ _ (a1 (a1 (a1 (a1 (a1 (av (Qp7) (a1 (a1 (a1 (a1 (av (Qp7) (a1 (a1 (a1 (a1 (a1 (a1 (a1 (a1 (a1 .nil)))))))))))))))))))) .nil))) (ev (Q30) (ev (Q30) (ev (Q30) (e1 (e1 .nil)))))))))
end Go.Proofs.YtackngeeehiegaaGreatDoor
