/-
  Contracts of functions, printed by a program of this repo (wip/dec). No condition beyond those that stand in each.
-/
import Derived.Test.YtjpgfmbccohngaaGreatDoorG9
import Derived.Test.YtjpgfmbccohngaaGreatDoorG7
import Derived.Test.YtjpgfmbccohngaaGreatDoorG6
import Derived.Test.YtjpgfmbccohngaaGreatDoorProg
namespace Go.Proofs.YtjpgfmbccohngaaGreatDoor
set_option linter.unusedSimpArgs false
set_option linter.unusedVariables false
open Go.Fw
set_option maxRecDepth 20000
set_option maxHeartbeats 4000000
attribute [local irreducible] ACalls AMoves
def Qq7 :List Job->Nat->Bool
 | [],_=>true
 | x_ :: r,i=>bif (!(Q59 x_)) then false else Qq7 r (i+1)
def Q16 (l:List Job):Bool:=bif (decide ((l.length:Int) > 60)) then false else Qq7 l 0
theorem Qqb (l:List Job) (hs0:l.length<=9223372036854775807∧(∀ y ∈ l,y.szM)):∀ objs,AGives Tryz.prog 32 [jobL l] objs (Bo (Q16 l)):=by
 generalize hR:Q16 l=R;refine ga (.cons lw .nil) lx (kp 4 [6,10,18]) Tryz.func32 ?_;have hk0:=hs0;obtain ⟨z12,z13⟩:l.length<=9223372036854775807∧(∀ y ∈ l,y.szM):=hs0;refine ai (fun h1=>?_) (fun h2=>?_)
 ·have qh1:=of_decide_eq_true h1;obtain rfl:=foll hR (ct h1 rfl);exact Q00 lx sr
 ·have qh2:=of_decide_eq_false h2;refine Qj0 (fun (i:Nat)=>Qq7 (List.drop i l) i=R∧i<=l.length) (fun i=>l.length - i) (fun i=>[(0,jobL l),(2,Bo false),(3,I (i:Int))]) (fun i=>[]) 0 (wk [] .nil (sl lw (s1 (s1 .nil)))) ⟨foll hR (cf h2 rfl),by exact omA⟩ ?_;clear hR;rintro i ⟨hR,hj⟩;(try dsimp only at hR hj);refine ai (fun h3=>?_) (fun h4=>?_)
  ·have hlt:=ltA h3;rw [Qc0 Job.zero hlt] at hR;have hxz:(l.getD i Job.zero).szM:=Q90 (by first|assumption|grind) (Job.szz _);have hkz:=hxz;obtain ⟨z5,z6,z7,z8,z9⟩:((l.getD i Job.zero).name).size<=9223372036854775807∧((l.getD i Job.zero).user).size<=9223372036854775807∧((l.getD i Job.zero).account).size<=9223372036854775807∧((((l.getD i Job.zero).shape).alts).length<=9223372036854775807)∧((l.getD i Job.zero).after).length<=9223372036854775807:=hxz;refine ai gkA ?_;refine us (law14_Few_c (l.getD i Job.zero) _) ?_;refine ai (fun h10=>?_) (fun h11=>?_)
   ·obtain rfl:=foll hR (ct h10 rfl);exact Q00 lx sr
   ·exact Qn0 (i+1) (wk [] .nil (sl lw (s1 (sv (Qb0 (I_eq (wr omA)) lx) .nil)))) omA ⟨foll hR (cf h11 rfl),by exact omA⟩
  ·rw [Qk0 (l:=l) (j:=i) (geA h4)] at hR;obtain rfl:=foll hR rfl;exact Q00 lx sr
def Qb6 (l:List Alt):List Alt->Nat->Bool
 | [],_=>true
 | x_ :: r,i=>bif (QW0 (List.take i l) (fun (y:Alt)=>(x_.nodes==y.nodes))) then false else Qb6 l r (i+1)
def QG5 (l:List Alt):Bool:=Qb6 l l 0
theorem shape_apart_c (l:List Alt) (hs0:l.length<=4294967296):∀ objs,AGives Tryz.prog 170 [altL l] objs (Bo (QG5 l)):=by
 generalize hR:QG5 l=R;refine ga (.cons lw .nil) lx (kp 5 [5,6,7,8,16]) Tryz.func170 ?_;have hk0:=hs0;obtain z9:l.length<=4294967296:=hs0;refine Qj0 (fun (i:Nat)=>Qb6 l (List.drop i l) i=R∧i<=l.length) (fun i=>l.length - i) (fun i=>[(0,altL l),(2,Bo false),(5,altL l),(6,I (l.length:Int)),(7,I (i:Int))]) (fun i=>[]) 0 (wk [] .nil (sl lw (s1 (sl lw (s1 (s1 .nil)))))) ⟨foll hR rfl,by exact omA⟩ ?_;clear hR;rintro i ⟨hR,hj⟩;(try dsimp only at hR hj);refine ai (fun h1=>?_) (fun h2=>?_)
 ·have hlt:=ltA h1;rw [Qc0 Alt.zero hlt] at hR;refine ai gkA ?_;refine ai gkA ?_;have cl1:∀ (y1:Alt),AMoves Tryz.prog 218 [Alt.a y1,AVal.ptr 0 0 2 0 0] [(0,AObj.row 121 2 [[I (l.getD i Alt.zero).nodes,I (l.getD i Alt.zero).wall]])] 1 (Bo ((fun (y:Alt)=>((l.getD i Alt.zero).nodes==y.nodes)) y1)) [(0,AObj.row 121 2 [[I (l.getD i Alt.zero).nodes,I (l.getD i Alt.zero).wall]])]:=by
   intro y1;have hR:(fun (y:Alt)=>((l.getD i Alt.zero).nodes==y.nodes)) y1=(fun (y:Alt)=>((l.getD i Alt.zero).nodes==y.nodes)) y1:=rfl;refine mo (kp 4 []) Tryz.func218 ?_;refine Qq0 (fun r:Bool=>Bo r) (fun _=>[(0,AObj.row 121 2 [[I (l.getD i Alt.zero).nodes,I (l.getD i Alt.zero).wall]])]) (leaf:=((l.getD i Alt.zero).nodes==y1.nodes)) (foll hR rfl) ?_;exact tt [0] (tO rfl (ts Alt.lo) .nil) t1
  have hof1:AMoves Tryz.prog 171 [altL (List.take i l),AVal.fn (.func 218) [] [AVal.ptr 0 0 2 0 0]] [(0,AObj.row 121 2 [[I (l.getD i Alt.zero).nodes,I (l.getD i Alt.zero).wall]])] 1 (Bo (QW0 (List.take i l) (fun (y:Alt)=>((l.getD i Alt.zero).nodes==y.nodes)))) [(0,AObj.row 121 2 [[I (l.getD i Alt.zero).nodes,I (l.getD i Alt.zero).wall]])]:=by
   have hR:QW0 (List.take i l) (fun (y:Alt)=>((l.getD i Alt.zero).nodes==y.nodes))=QW0 (List.take i l) (fun (y:Alt)=>((l.getD i Alt.zero).nodes==y.nodes)):=rfl;refine mo (kp 5 []) Tryz.func171 ?_;have hof2:AMoves Tryz.prog 219 [altL (List.take i l),AVal.fn (.func 218) [] [AVal.ptr 0 0 2 0 0]] [(0,AObj.row 121 2 [[I (l.getD i Alt.zero).nodes,I (l.getD i Alt.zero).wall]])] 1 (I (Q91 (List.take i l) (fun (y:Alt)=>((l.getD i Alt.zero).nodes==y.nodes)))) [(0,AObj.row 121 2 [[I (l.getD i Alt.zero).nodes,I (l.getD i Alt.zero).wall]])]:=by
    have hR:Q91 (List.take i l) (fun (y:Alt)=>((l.getD i Alt.zero).nodes==y.nodes))=Q91 (List.take i l) (fun (y:Alt)=>((l.getD i Alt.zero).nodes==y.nodes)):=rfl;refine mo (kp 6 [7,8,9,16]) Tryz.func219 ?_;refine Qj0 (fun (i1:Nat)=>Qu3 (fun (y:Alt)=>((l.getD i Alt.zero).nodes==y.nodes)) (List.drop i1 (List.take i l)) i1=Q91 (List.take i l) (fun (y:Alt)=>((l.getD i Alt.zero).nodes==y.nodes))∧i1<=(List.take i l).length) (fun i1=>(List.take i l).length - i1) (fun i1=>[(0,altL (List.take i l)),(1,AVal.fn (.func 218) [] [AVal.ptr 0 0 2 0 0]),(4,I 0),(7,I ((List.take i l).length:Int)),(8,I (i1:Int))]) (fun i1=>[(0,AObj.row 121 2 [[I (l.getD i Alt.zero).nodes,I (l.getD i Alt.zero).wall]])]) 0 (wk [0] (tO rfl (ts Alt.lo) .nil) (sl lw (sv (QZ0 .nil (cv (Q30 0 rfl rfl) .nil)) (s1 (s1 (s1 .nil)))))) ⟨foll hR rfl,by exact omA⟩ ?_;clear hR;rintro i1 ⟨hR,hj⟩;(try dsimp only at hR hj);refine ai (fun h3=>?_) (fun h4=>?_)
    ·have hlt:=ltA h3;rw [Qc0 Alt.zero hlt] at hR;refine ai gkA ?_;refine us (mv [0] (cl1 ((List.take i l).getD i1 Alt.zero)) (dO (ds Alt.lo) .nil) (dl (Alt.low _ _) (dp .nil)) (rO (re Alt.lo) .nil) rx) ?_;refine ai (fun h5=>?_) (fun h6=>?_)
     ·refine Qq0 (fun r:Int=>I r) (fun r:Int=>[(0,AObj.row 121 2 [[I (l.getD i Alt.zero).nodes,I (l.getD i Alt.zero).wall]])]) (leaf:=(i1:Int)) (foll hR (ct h5 rfl)) ?_;exact tt [0] (tO rfl (ts Alt.lo) .nil) t1
     ·exact Qn0 (i1+1) (wk [0] (tO rfl (ts Alt.lo) .nil) (sl lw (sv (QZ0 .nil (cv (Q30 0 rfl rfl) .nil)) (s1 (s1 (sv (Qb0 (I_eq (wr omA)) lx) .nil)))))) omA ⟨foll hR (cf h6 rfl),by exact omA⟩
    ·rw [Qk0 (l:=(List.take i l)) (j:=i1) (geA h4)] at hR;refine Qq0 (fun r:Int=>I r) (fun r:Int=>[(0,AObj.row 121 2 [[I (l.getD i Alt.zero).nodes,I (l.getD i Alt.zero).wall]])]) (leaf:=(-1)) (foll hR rfl) ?_;exact tt [0] (tO rfl (ts Alt.lo) .nil) t1
   refine us (mv [0] (hof2) (dO (ds Alt.lo) .nil) (dl lw (dv (dn_fn .nil (dp .nil)) .nil)) (rO (re Alt.lo) .nil) rx) ?_;refine Qq0 (fun r:Bool=>Bo r) (fun r:Bool=>[(0,AObj.row 121 2 [[I (l.getD i Alt.zero).nodes,I (l.getD i Alt.zero).wall]])]) (leaf:=(decide ((Q91 (List.take i l) (fun (y:Alt)=>((l.getD i Alt.zero).nodes==y.nodes))) >= 0))) (foll hR rfl) ?_;exact tt [0] (tO rfl (ts Alt.lo) .nil) t1
  refine us (mv [0] (hof1) (dO (ds Alt.lo) .nil) (dv (dn_as (as_take l i ckA) lw) (dv (dn_fn .nil (dp .nil)) .nil)) (rO (re Alt.lo) .nil) rx) ?_;refine ai (fun h7=>?_) (fun h8=>?_)
  ·obtain rfl:=foll hR (ct h7 rfl);exact Q00 lx sr
  ·exact Qn0 (i+1) (wk [] .nil (sl lw (s1 (sl lw (s1 (sv (Qb0 (I_eq (wr omA)) lx) .nil)))))) omA ⟨foll hR (cf h8 rfl),by exact omA⟩
 ·rw [Qk0 (l:=l) (j:=i) (geA h2)] at hR;obtain rfl:=foll hR rfl;exact Q00 lx sr
def QK5 (s:ByteArray):Bool:=(((QS4 s).2==0)&&(QX2 ((QS4 s).1) 1 16))
theorem QZc (s:ByteArray) (hs0:s.size<=4294967296):∀ objs,AGives Tryz.prog 205 [Sg s] objs (Bo (QK5 s)):=by
 generalize hR:QK5 s=R;refine ga (l1 .nil) lx (kp 5 []) Tryz.func205 ?_;have hk0:=hs0;obtain z1:s.size<=4294967296:=hs0;refine us (QBc s szA _) ?_;(first|apply u2|apply u3|apply u4|apply us);exact Qy3 ((QS4 s).1) 1 16 _;obtain rfl:=foll hR rfl;exact Q00 lx sr
def Q07 (s:ByteArray):Int × Bool:=bif (((!(QR7 s))||(decide ((ByteArray.size s:Int) > 9)))||((decide ((ByteArray.size s:Int) > 1))&&(((s.data.toList.getD 0 0).toNat:Int)==48))) then (0,false) else ((Qxa s).1,true)
theorem lex_number_c (s:ByteArray) (hs0:s.size<=4294967296):∀ objs,AGives Tryz.prog 313 [Sg s] objs (AVal.tup [I ((Q07 s).1),Bo ((Q07 s).2)]):=by
 generalize hR:Q07 s=R;refine ga (l1 .nil) (Low.tup' (l1 (l1 .nil))) (kp 6 [23]) Tryz.func313 ?_;have hk0:=hs0;obtain z3:s.size<=4294967296:=hs0;refine us (QPd s szA _) ?_;refine ai gkA ?_;refine ai (fun h1=>?_) (fun h2=>?_)
 ·obtain rfl:=foll hR (ct h1 rfl);exact Q00 (Low.tup' (l1 (l1 .nil))) (Seen.tup (e1 (e1 .nil)))
 ·refine us (strconv_Atoi_c s szA (by exact lex_digits_ok (by assumption)) _) ?_;refine dchk (by kernel_rfl) ?_;(repeat ((first|refine ai rfl ?_|refine ai (fun _=>rfl) ?_)));obtain rfl:=foll hR (cf h2 rfl);exact Q00 (Low.tup' (l1 (l1 .nil))) (Seen.tup (e1 (e1 .nil)))
theorem QJf (l:List Int) (r_:Int) (hl:l.length<=4294967296):AMoves Tryz.prog 304 [.ptr 0 0 2 0 0,J r_] [(0,.row 293 2 [[.sel 0 0 2 0 0,.own 1 0 1 0 l.length]]),(0,QJ5 l)] 1 (.tup [I (w64 (((QP0 l r_).length:Int) - (l.length:Int))),.lit .nilIface]) [(0,.row 293 2 [[.ptr 0 0 2 0 0,.own 1 0 1 0 (QP0 l r_).length]]),(0,QJ5 (QP0 l r_))]:=by
 refine AMoves.of_cwp (fun t=>Nat.ble 1000000 t||Nat.blt t 7) Tryz.func304 rfl rfl rfl ?_
 refine us (AMoves.on [0,1] (copyCheck_m bldT0 (x:=.own 1 0 1 0 l.length) (rest:=[(0,QJ5 l)]) (n0:=2) (by simp)) (by decide) rfl rfl rfl (.cons _ _ _ _ (.row1 _ _ _ _ (.cons _ _ _ _ (dn_sel rfl) (.cons _ _ _ _ (dn_own rfl) .nil))) (.cons _ _ _ _ (.same _ (Qt9 fun _=>lowL1 rfl)) .nil)) rfl (.cons _ _ _ _ (dn_ptr rfl) .nil) (.cons _ _ _ _ (RenO.row1 _ _ _ _ (.cons _ _ _ _ (Ren.ptr _ _ _ _ _ _ rfl) (.cons _ _ _ _ (Ren.own _ _ _ _ _ _ rfl) .nil))) (.cons _ _ _ _ (RenO.same _ (Qt9 fun _=>lowL1 rfl)) .nil)) (Ren.low _ (.tup _ (fun x h=>nomatch h)))) ?_
 refine us (AMoves.on [1] (QCd l r_ hl) (by decide) rfl rfl rfl (.cons _ _ _ _ (dn_row rfl (Qt9 fun _=>lowL1 rfl)) .nil) rfl (.cons _ _ _ _ (QK8 rfl rfl) (.cons _ _ _ _ (QE6 (QK3 rfl)) .nil)) (.cons _ _ _ _ (RenO.same _ (Qt9 fun _=>lowL1 rfl)) .nil) (Ren.own _ _ _ _ _ _ rfl)) ?_
 refine Qq0 (fun _:Unit=>.tup [I (w64 (((QP0 l r_).length:Int) - (l.length:Int))),.lit .nilIface]) (fun _:Unit=>[(0,.row 293 2 [[.ptr 0 0 2 0 0,.own 1 0 1 0 (QP0 l r_).length]]),(0,QJ5 (QP0 l r_))]) (leaf:=()) rfl ?_
 exact Qj5 [0,2] rfl (by decide) (.cons 0 _ _ _ _ rfl (QH0 (.cons _ _ _ _ (Q30 0 rfl rfl) (.cons _ _ _ _ (QHf 1 rfl rfl rfl) .nil))) (.cons 2 _ _ _ _ rfl (QVc rfl (Qt9 fun _=>lowL1 rfl)) .nil)) (turn_tup (.cons _ _ _ _ (Q01 (QK3 rfl)) (.cons _ _ _ _ (Q01 (QK3 rfl)) .nil)))
def Qq5 (l:List Dep):List Dep->Nat->Bool
 | [],_=>(decide ((l.length:Int)<=4))
 | x_ :: r,i=>bif (((!(QX2 x_.how 1 3))||(!(QEd x_.job)))||(QC0 (List.take i l) (fun (y:Dep)=>(y.job==x_.job)))) then false else Qq5 l r (i+1)
def QH7 (l:List Dep):Bool:=Qq5 l l 0
theorem cmd_deps_c (l:List Dep) (hs0:l.length<=4294967296):∀ objs,AGives Tryz.prog 207 [depL l] objs (Bo (QH7 l)):=by
 generalize hR:QH7 l=R;refine ga (.cons lw .nil) lx (kp 6 [6,7,8,9,30]) Tryz.func207 ?_;have hk0:=hs0;obtain z9:l.length<=4294967296:=hs0;refine Qj0 (fun (i:Nat)=>Qq5 l (List.drop i l) i=R∧i<=l.length) (fun i=>l.length - i) (fun i=>[(0,depL l),(2,Bo false),(6,depL l),(7,I (l.length:Int)),(8,I (i:Int))]) (fun i=>[]) 0 (wk [] .nil (sl lw (s1 (sl lw (s1 (s1 .nil)))))) ⟨foll hR rfl,by exact omA⟩ ?_;clear hR;rintro i ⟨hR,hj⟩;(try dsimp only at hR hj);refine ai (fun h1=>?_) (fun h2=>?_)
 ·have hlt:=ltA h1;rw [Qc0 Dep.zero hlt] at hR;refine ai gkA ?_;refine ai gkA ?_;have cl1:∀ (y1:Dep),AMoves Tryz.prog 236 [Dep.a y1,AVal.ptr 0 0 2 0 0] [(0,AObj.row 96 2 [[I (l.getD i Dep.zero).how,I (l.getD i Dep.zero).job]])] 1 (Bo ((fun (y:Dep)=>(y.job==(l.getD i Dep.zero).job)) y1)) [(0,AObj.row 96 2 [[I (l.getD i Dep.zero).how,I (l.getD i Dep.zero).job]])]:=by
   intro y1;have hR:(fun (y:Dep)=>(y.job==(l.getD i Dep.zero).job)) y1=(fun (y:Dep)=>(y.job==(l.getD i Dep.zero).job)) y1:=rfl;refine mo (kp 4 []) Tryz.func236 ?_;refine Qq0 (fun r:Bool=>Bo r) (fun _=>[(0,AObj.row 96 2 [[I (l.getD i Dep.zero).how,I (l.getD i Dep.zero).job]])]) (leaf:=(y1.job==(l.getD i Dep.zero).job)) (foll hR rfl) ?_;exact tt [0] (tO rfl (ts Dep.lo) .nil) t1
  have hof1:AMoves Tryz.prog 75 [depL (List.take i l),AVal.fn (.func 236) [] [AVal.ptr 0 0 2 0 0]] [(0,AObj.row 96 2 [[I (l.getD i Dep.zero).how,I (l.getD i Dep.zero).job]])] 1 (Bo (QC0 (List.take i l) (fun (y:Dep)=>(y.job==(l.getD i Dep.zero).job)))) [(0,AObj.row 96 2 [[I (l.getD i Dep.zero).how,I (l.getD i Dep.zero).job]])]:=by
   have hR:QC0 (List.take i l) (fun (y:Dep)=>(y.job==(l.getD i Dep.zero).job))=QC0 (List.take i l) (fun (y:Dep)=>(y.job==(l.getD i Dep.zero).job)):=rfl;refine mo (kp 5 []) Tryz.func75 ?_;have hof2:AMoves Tryz.prog 145 [depL (List.take i l),AVal.fn (.func 236) [] [AVal.ptr 0 0 2 0 0]] [(0,AObj.row 96 2 [[I (l.getD i Dep.zero).how,I (l.getD i Dep.zero).job]])] 1 (I (Qa1 (List.take i l) (fun (y:Dep)=>(y.job==(l.getD i Dep.zero).job)))) [(0,AObj.row 96 2 [[I (l.getD i Dep.zero).how,I (l.getD i Dep.zero).job]])]:=by
    have hR:Qa1 (List.take i l) (fun (y:Dep)=>(y.job==(l.getD i Dep.zero).job))=Qa1 (List.take i l) (fun (y:Dep)=>(y.job==(l.getD i Dep.zero).job)):=rfl;refine mo (kp 6 [7,8,9,16]) Tryz.func145 ?_;refine Qj0 (fun (i1:Nat)=>Qv3 (fun (y:Dep)=>(y.job==(l.getD i Dep.zero).job)) (List.drop i1 (List.take i l)) i1=Qa1 (List.take i l) (fun (y:Dep)=>(y.job==(l.getD i Dep.zero).job))∧i1<=(List.take i l).length) (fun i1=>(List.take i l).length - i1) (fun i1=>[(0,depL (List.take i l)),(1,AVal.fn (.func 236) [] [AVal.ptr 0 0 2 0 0]),(4,I 0),(7,I ((List.take i l).length:Int)),(8,I (i1:Int))]) (fun i1=>[(0,AObj.row 96 2 [[I (l.getD i Dep.zero).how,I (l.getD i Dep.zero).job]])]) 0 (wk [0] (tO rfl (ts Dep.lo) .nil) (sl lw (sv (QZ0 .nil (cv (Q30 0 rfl rfl) .nil)) (s1 (s1 (s1 .nil)))))) ⟨foll hR rfl,by exact omA⟩ ?_;clear hR;rintro i1 ⟨hR,hj⟩;(try dsimp only at hR hj);refine ai (fun h3=>?_) (fun h4=>?_)
    ·have hlt:=ltA h3;rw [Qc0 Dep.zero hlt] at hR;refine ai gkA ?_;refine us (mv [0] (cl1 ((List.take i l).getD i1 Dep.zero)) (dO (ds Dep.lo) .nil) (dl (Dep.low _ _) (dp .nil)) (rO (re Dep.lo) .nil) rx) ?_;refine ai (fun h5=>?_) (fun h6=>?_)
     ·refine Qq0 (fun r:Int=>I r) (fun r:Int=>[(0,AObj.row 96 2 [[I (l.getD i Dep.zero).how,I (l.getD i Dep.zero).job]])]) (leaf:=(i1:Int)) (foll hR (ct h5 rfl)) ?_;exact tt [0] (tO rfl (ts Dep.lo) .nil) t1
     ·exact Qn0 (i1+1) (wk [0] (tO rfl (ts Dep.lo) .nil) (sl lw (sv (QZ0 .nil (cv (Q30 0 rfl rfl) .nil)) (s1 (s1 (sv (Qb0 (I_eq (wr omA)) lx) .nil)))))) omA ⟨foll hR (cf h6 rfl),by exact omA⟩
    ·rw [Qk0 (l:=(List.take i l)) (j:=i1) (geA h4)] at hR;refine Qq0 (fun r:Int=>I r) (fun r:Int=>[(0,AObj.row 96 2 [[I (l.getD i Dep.zero).how,I (l.getD i Dep.zero).job]])]) (leaf:=(-1)) (foll hR rfl) ?_;exact tt [0] (tO rfl (ts Dep.lo) .nil) t1
   refine us (mv [0] (hof2) (dO (ds Dep.lo) .nil) (dl lw (dv (dn_fn .nil (dp .nil)) .nil)) (rO (re Dep.lo) .nil) rx) ?_;refine Qq0 (fun r:Bool=>Bo r) (fun r:Bool=>[(0,AObj.row 96 2 [[I (l.getD i Dep.zero).how,I (l.getD i Dep.zero).job]])]) (leaf:=(decide ((Qa1 (List.take i l) (fun (y:Dep)=>(y.job==(l.getD i Dep.zero).job))) >= 0))) (foll hR rfl) ?_;exact tt [0] (tO rfl (ts Dep.lo) .nil) t1
  refine us (mv [0] (hof1) (dO (ds Dep.lo) .nil) (dv (dn_as (as_take l i ckA) lw) (dv (dn_fn .nil (dp .nil)) .nil)) (rO (re Dep.lo) .nil) rx) ?_;refine us (Qy3 ((l.getD i Dep.zero).how) 1 3 _) ?_;(first|apply u2|apply u3|apply u4|apply us);exact QBf ((l.getD i Dep.zero).job) _;refine ai (fun h7=>?_) (fun h8=>?_)
  ·obtain rfl:=foll hR (ct h7 rfl);exact Q00 lx sr
  ·exact Qn0 (i+1) (wk [] .nil (sl lw (s1 (sl lw (s1 (sv (Qb0 (I_eq (wr omA)) lx) .nil)))))) omA ⟨foll hR (cf h8 rfl),by exact omA⟩
 ·rw [Qk0 (l:=l) (j:=i) (geA h2)] at hR;obtain rfl:=foll hR rfl;exact Q00 lx sr
def QWb (a:Cmd) (b:Cmd):Bool:=bif ((!(Qc9 a.shape b.shape))||(!(Qi6 a.after b.after))) then false else ((((((((((((a.kind==b.kind)&&(a.job==b.job))&&(ByteArray.toList a.name==ByteArray.toList b.name))&&(ByteArray.toList a.user==ByteArray.toList b.user))&&(ByteArray.toList a.account==ByteArray.toList b.account))&&(a.prio==b.prio))&&(a.hasPrio==b.hasPrio))&&(a.time==b.time))&&(a.hasTime==b.hasTime))&&(a.node==b.node))&&(a.nodes==b.nodes))&&(a.from_==b.from_))
theorem cmd_Same_c (a:Cmd) (b:Cmd) (hs0:a.sz) (hs1:b.sz):∀ objs,AGives Tryz.prog 143 [Cmd.a a,Cmd.a b] objs (Bo (QWb a b)):=by
 generalize hR:QWb a b=R;refine ga (.cons (Cmd.low _ _) (.cons (Cmd.low _ _) .nil)) lx (kp 5 [18]) Tryz.func143 ?_;have hk0:=hs0;obtain ⟨z3,z4,z5,z6,z7⟩:a.name.size<=4294967296∧a.user.size<=4294967296∧a.account.size<=4294967296∧(a.shape.alts.length<=4294967296)∧a.after.length<=4294967296:=hs0;have hk1:=hs1;obtain ⟨z8,z9,z10,z11,z12⟩:b.name.size<=4294967296∧b.user.size<=4294967296∧b.account.size<=4294967296∧(b.shape.alts.length<=4294967296)∧b.after.length<=4294967296:=hs1;refine us (shape_Same_c a.shape b.shape szA szA _) ?_;(first|apply u2|apply u3|apply u4|apply us);exact QIc a.after b.after szA szA _;refine ai (fun h1=>?_) (fun h2=>?_)
 ·obtain rfl:=foll hR (ct h1 rfl);exact Q00 lx sr
 ·obtain rfl:=foll hR (cf h2 rfl);exact Q00 lx sr
def Q4a (set_:Int):Bool:=((wu64 (BitVec.ofInt 64 set_ &&& ~~~(BitVec.ofInt 64 (QM4 48))).toNat)==0)
theorem Qog (set_:Int):∀ objs,AGives Tryz.prog 146 [U set_] objs (Bo (Q4a set_)):=by
 generalize hR:Q4a set_=R;refine ga (l1 .nil) lx (kp 3 []) Tryz.func146 ?_;refine us (nodeset_All_c 48 _) ?_;obtain rfl:=foll hR rfl;exact Q00 lx sr
def Q82 (x_:Node):Bool:=bif ((((decide (x_.epoch<0))||(decide (x_.epoch > 999999999)))||(!(Q09 x_.since)))||(!(Q09 x_.asked))) then false else bif (x_.state==0) then ((x_.job==0)&&(Q51 ([0]:List Int) x_.want)) else bif (x_.state==1) then (((decide (x_.job >= 1))&&(decide (x_.job<=99999)))&&(Q51 ([0,1,3,4]:List Int) x_.want)) else bif (x_.state==2) then (((decide (x_.job >= 1))&&(decide (x_.job<=99999)))&&(Q51 ([0,2]:List Int) x_.want)) else bif (x_.state==3) then (((decide (x_.job >= 1))&&(decide (x_.job<=99999)))&&(Q51 ([5]:List Int) x_.want)) else bif (x_.state==4) then ((x_.job==0)&&(Q51 ([0,6]:List Int) x_.want)) else false
theorem fleet_fine_c (x_:Node):∀ objs,AGives Tryz.prog 196 [Node.a x_] objs (Bo (Q82 x_)):=by
 generalize hR:Q82 x_=R;refine ga (.cons (Node.low _ _) .nil) lx (kp 5 [24,35,36,41,44,47,50]) Tryz.func196 ?_;(first|apply u2|apply u3|apply u4|apply us);exact QJd x_.since _;(first|apply u2|apply u3|apply u4|apply us);exact QJd x_.asked _;refine ai (fun h1=>?_) (fun h2=>?_)
 ·obtain rfl:=foll hR (ct h1 rfl);exact Q00 lx sr
 ·refine Or.inl ?_;refine ai (fun h3=>?_) (fun h4=>?_)
  ·(first|apply u2|apply u3|apply u4|apply us);exact AGives.as2 (Q32 ([0]:List Int) x_.want szA _) (av (QA7 (c:=(fun q_=>[I q_])) (d:=0) ([0]:List Int) rfl) (a1 .nil));obtain rfl:=foll hR (cf h2 (ct h3 rfl));exact Q00 lx sr
  ·refine ai (fun h5=>?_) (fun h6=>?_)
   ·refine Or.inl ?_;(first|apply u2|apply u3|apply u4|apply us);exact AGives.as2 (Q32 ([0,1,3,4]:List Int) x_.want szA _) (av (QA7 (c:=(fun q_=>[I q_])) (d:=0) ([0,1,3,4]:List Int) rfl) (a1 .nil));obtain rfl:=foll hR (cf h2 (cf h4 (ct h5 rfl)));exact Q00 lx sr
   ·refine ai (fun h7=>?_) (fun h8=>?_)
    ·refine Or.inl ?_;(first|apply u2|apply u3|apply u4|apply us);exact AGives.as2 (Q32 ([0,2]:List Int) x_.want szA _) (av (QA7 (c:=(fun q_=>[I q_])) (d:=0) ([0,2]:List Int) rfl) (a1 .nil));obtain rfl:=foll hR (cf h2 (cf h4 (cf h6 (ct h7 rfl))));exact Q00 lx sr
    ·refine ai (fun h9=>?_) (fun h10=>?_)
     ·refine Or.inl ?_;(first|apply u2|apply u3|apply u4|apply us);exact AGives.as2 (Q32 ([5]:List Int) x_.want szA _) (av (QA7 (c:=(fun q_=>[I q_])) (d:=0) ([5]:List Int) rfl) (a1 .nil));obtain rfl:=foll hR (cf h2 (cf h4 (cf h6 (cf h8 (ct h9 rfl)))));exact Q00 lx sr
     ·refine ai (fun h11=>?_) (fun h12=>?_)
      ·refine Or.inl ?_;(first|apply u2|apply u3|apply u4|apply us);exact AGives.as2 (Q32 ([0,6]:List Int) x_.want szA _) (av (QA7 (c:=(fun q_=>[I q_])) (d:=0) ([0,6]:List Int) rfl) (a1 .nil));obtain rfl:=foll hR (cf h2 (cf h4 (cf h6 (cf h8 (cf h10 (ct h11 rfl))))));exact Q00 lx sr
      ·obtain rfl:=foll hR (cf h2 (cf h4 (cf h6 (cf h8 (cf h10 (cf h12 rfl))))));exact Q00 lx sr
def Qs7 (a:Usage) (b:Usage):Int:=(Qya ([(Q11 a.user b.user),(Q11 a.account b.account)]:List Int))
theorem Q1b (a:Usage) (b:Usage) (hs0:a.sz) (hs1:b.sz):∀ objs,AGives Tryz.prog 129 [Usage.a a,Usage.a b] objs (I (Qs7 a b)):=by
 generalize hR:Qs7 a b=R;refine ga (.cons (Usage.low _ _) (.cons (Usage.low _ _) .nil)) lx (kp 5 []) Tryz.func129 ?_;have hk0:=hs0;obtain ⟨z1,z2⟩:a.user.size<=4294967296∧a.account.size<=4294967296:=hs0;have hk1:=hs1;obtain ⟨z3,z4⟩:b.user.size<=4294967296∧b.account.size<=4294967296:=hs1;refine dchk (by kernel_rfl) ?_;(first|apply u2|apply u3|apply u4|apply us);exact Qu4 a.user b.user _;(first|apply u2|apply u3|apply u4|apply us);exact Qu4 a.account b.account _;(first|apply u2|apply u3|apply u4|apply us);exact AGives.as2 (QFd ([(Q11 a.user b.user),(Q11 a.account b.account)]:List Int) szA _) (av (QA7 (c:=(fun q_=>[I q_])) (d:=0) ([(Q11 a.user b.user),(Q11 a.account b.account)]:List Int) rfl) .nil);(repeat ((first|refine ai rfl ?_|refine ai (fun _=>rfl) ?_|refine ai (fun _=>Qu4 a.user b.user _) ?_|refine ai (fun _=>Qu4 a.account b.account _) ?_|refine ai (fun _=>AGives.as2 (QFd ([(Q11 a.user b.user),(Q11 a.account b.account)]:List Int) szA _) (av (QA7 (c:=(fun q_=>[I q_])) (d:=0) ([(Q11 a.user b.user),(Q11 a.account b.account)]:List Int) rfl) .nil)) ?_)));obtain rfl:=foll hR rfl;exact Q00 lx sr
def Qt5 (p_:List Step) (long nodes at_:Int) (i:Nat):Int × Bool:=bif (decide (at_ > (w64 (1000000 - long)))) then (0,false) else ear long nodes (List.drop i p_) at_
def Q93 (p_:List Step) (from_ long nodes:Int):Int × Bool:=bif (((QT1 p_)!=0)||(!(Qg3 long nodes))) then (0,false) else Qt5 p_ long nodes (max from_ 0) 0
theorem ear_step (long n a:Int) (p:List Step) (i:Nat) (hi:i<p.length) (hp:p.length<=4294967296) (h:(p.getD i Step.zero).at_<w64 (a+long)) :
  (((decide ((p.getD i Step.zero).free >= n))||((!((w64 ((i:Int)+1))==(p.length:Int)))&&(decide ((p.getD (Int.toNat (w64 ((i:Int)+1))) Step.zero).at_<=a))))=true->ear long n (List.drop i p) a=ear long n (List.drop (i+1) p) a) ∧
  (((decide ((p.getD i Step.zero).free >= n))||((!((w64 ((i:Int)+1))==(p.length:Int)))&&(decide ((p.getD (Int.toNat (w64 ((i:Int)+1))) Step.zero).at_<=a))))=false ->
   (((w64 ((i:Int)+1))==(p.length:Int))=true->ear long n (List.drop i p) a=(0,false))∧(((w64 ((i:Int)+1))==(p.length:Int))=false->i+1<p.length∧ear long n (List.drop i p) a=Qt5 p long n (p.getD (i+1) Step.zero).at_ (i+1))):=by
 have hw:w64 ((i:Int)+1)=((i+1:Nat):Int):=wr (by omega)
 rw [hw,Qc0 Step.zero hi]
 simp only [Int.toNat_natCast]
 have e:∀ r,ear long n (p.getD i Step.zero :: r) a=bif decide ((p.getD i Step.zero).free >= n) then ear long n r a else match r with | []=>(0,false)|y :: _=>bif decide (y.at_<=a) then ear long n r a else bif decide (y.at_ > w64 (1000000 - long)) then (0,false) else ear long n r y.at_:=by
  intro r
  rw [ear_cons,decide_eq_true h]
  rfl
 rw [e]
 cases decide ((p.getD i Step.zero).free >= n) with
 | true=>exact ⟨fun _=>rfl,fun h=>nomatch h⟩
 | false =>
  rcases Nat.lt_or_ge (i+1) p.length with hl|hl
  ·have hb:(((i+1:Nat):Int)==(p.length:Int))=false:=by simp;omega
   rw [hb,Qc0 Step.zero hl]
   cases hc:decide ((p.getD (i+1) Step.zero).at_<=a) with
   | true=>exact ⟨fun _=>by simp only [cond_false,hc,cond_true],fun h=>nomatch h⟩
   | false =>
    refine ⟨fun h=>(nomatch h),fun _=>⟨fun h=>(nomatch h),fun _=>⟨hl,?_⟩⟩⟩
    unfold Qt5
    rw [Qc0 Step.zero hl]
    simp only [cond_false,hc]
  ·have hb:(((i+1:Nat):Int)==(p.length:Int))=true:=by simp;omega
   rw [hb,List.drop_eq_nil_of_le hl]
   exact ⟨fun h=>(by cases h),fun _=>⟨fun _=>rfl,fun h=>nomatch h⟩⟩
theorem ear_end {long n a:Int} {p:List Step} {i:Nat} (hi:i<=p.length) (h:((decide ((i:Int)<(p.length:Int)))&&(decide ((p.getD i Step.zero).at_<w64 (a+long))))=false):ear long n (List.drop i p) a=(a,true):=by
 rcases Nat.lt_or_ge i p.length with hl|hl
 ·rw [Qc0 Step.zero hl,ear_cons]
  rw [show decide ((i:Int)<(p.length:Int))=true from decide_eq_true (by omega),Bool.true_and] at h
  rw [h]
  rfl
 ·rw [List.drop_eq_nil_of_le hl]
  rfl
theorem fit_Earliest_c (p_:List Step) (from_ long nodes:Int) (hs0:p_.length<=4294967296):∀ objs,AGives Tryz.prog 104 [stepL p_,I from_,I long,I nodes] objs (AVal.tup [I (Q93 p_ from_ long nodes).1,Bo (Q93 p_ from_ long nodes).2]):=by
 generalize hR:Q93 p_ from_ long nodes=R;refine ga (.cons lw (l1 (l1 (l1 .nil)))) (Low.tup' (l1 (l1 .nil))) (kj [3000001] 13 [21,27,42,70,71]) Tryz.func104 ?_;have hk0:=hs0;refine scope_start2 (keep:=kj [3000001] 13 [21,27,42,70,71]) 0 (p_.length+1) (fun (at_:Int) (i:Nat)=>Qt5 p_ long nodes at_ i=R∧i<=p_.length) (fun at_ i=>p_.length - i) (fun at_ i=>[(0,stepL p_),(2,I long),(3,I nodes),(8,I 0),(9,Bo false),(10,I at_),(11,I (i:Int))]) (fun _ _=>[]) rfl ?_ ?_
 ·clear hR;rintro at_ i0 ⟨hR,hi0⟩;refine ai (fun h1=>?_) (fun h2=>?_)
  ·obtain rfl:=foll hR (ct h1 rfl);exact Q00 (Low.tup' (l1 (l1 .nil))) sr
  ·refine Qj0 (fun (i:Nat)=>ear long nodes (List.drop i p_) at_=R∧i<=p_.length∧i0<=i) (fun i=>p_.length - i) (fun i=>[(0,stepL p_),(2,I long),(3,I nodes),(8,I 0),(9,Bo false),(10,I at_),(11,I (i:Int))]) (fun _=>[]) i0 (wk [] .nil (sl lw (s1 (s1 (s1 (s1 (s1 (s1 .nil)))))))) ⟨foll hR (cf h2 rfl),hi0,Nat.le_refl _⟩ ?_;clear hR;rintro i ⟨hR,hj,hq⟩;(try dsimp only at hR hj hq);refine ai gkA ?_;refine ai (fun h3=>?_) (fun h4=>?_)
   ·have h3':=Bool.and_eq_true_iff.1 h3;(have hlt:i<p_.length:=by have:=of_decide_eq_true h3'.1;omega);have hs:=ear_step long nodes at_ p_ i hlt hs0 (of_decide_eq_true h3'.2);have hw1:w64 ((i:Int)+1)=(i:Int)+1:=wr (by omega);refine ai gkA ?_;refine ai gkA ?_;refine ai (fun h5=>?_) (fun h6=>?_)
    ·exact Qn0 (i+1) (wk [] .nil (sl lw (s1 (s1 (s1 (s1 (s1 (sv (Qb0 (I_eq (wr omA)) lx) .nil)))))))) omA ⟨(hs.1 h5).symm.trans hR,hlt,by omega⟩
    ·refine ai (fun h7=>?_) (fun h8=>?_)
     ·obtain rfl:=((hs.2 h6).1 h7).symm.trans hR;exact Q00 (Low.tup' (l1 (l1 .nil))) sr
     ·have h8':=(hs.2 h6).2 h8;refine ai gkA ?_;exact ⟨rfl,Qe0 ((p_.getD (i+1) Step.zero).at_) (i+1) (wk [] .nil (sl lw (s1 (s1 (s1 (s1 (sv (Qb0 (I_eq (by show (p_.getD (Int.toNat (w64 ((i:Int)+1))) Step.zero).at_=_;rw [hw1];rfl)) lx) (sv (Qb0 (I_eq (wr omA)) lx) .nil)))))))) omA ⟨h8'.2.symm.trans hR,hlt⟩⟩
   ·obtain rfl:=(ear_end hj h4).symm.trans hR;exact Q00 (Low.tup' (l1 (l1 .nil))) sr
 ·refine us (Qw5 p_ szA _) ?_;(first|apply u2|apply u3|apply u4|apply us);exact Q4d long nodes _;refine ai (fun h1=>?_) (fun h2=>?_)
  ·obtain rfl:=foll hR (ct h1 rfl);exact Q00 (Low.tup' (l1 (l1 .nil))) sr
  ·refine ai (fun h3=>?_) (fun h4=>?_)
   ·obtain rfl:=foll hR ((cf h2 rfl).trans (ct h3 rfl));exact Q00 (Low.tup' (l1 (l1 .nil))) sr
   ·refine Qj0 (fun (i:Nat)=>ear long nodes (List.drop i p_) (max from_ 0)=R∧i<=p_.length) (fun i=>p_.length - i) (fun i=>[(0,stepL p_),(2,I long),(3,I nodes),(8,I 0),(9,Bo false),(10,I (max from_ 0)),(11,I (i:Int))]) (fun _=>[]) 0 (wk [] .nil (sl lw (s1 (s1 (s1 (s1 (s1 (s1 .nil)))))))) ⟨foll hR ((cf h2 rfl).trans (cf h4 rfl)),Nat.zero_le _⟩ ?_;clear hR;rintro i ⟨hR,hj⟩;(try dsimp only at hR hj);refine ai gkA ?_;refine ai (fun h3=>?_) (fun h4=>?_)
    ·have h3':=Bool.and_eq_true_iff.1 h3;(have hlt:i<p_.length:=by have:=of_decide_eq_true h3'.1;omega);have hs:=ear_step long nodes (max from_ 0) p_ i hlt hs0 (of_decide_eq_true h3'.2);have hw1:w64 ((i:Int)+1)=(i:Int)+1:=wr (by omega);refine ai gkA ?_;refine ai gkA ?_;refine ai (fun h5=>?_) (fun h6=>?_)
     ·exact Qn0 (i+1) (wk [] .nil (sl lw (s1 (s1 (s1 (s1 (s1 (sv (Qb0 (I_eq (wr omA)) lx) .nil)))))))) omA ⟨(hs.1 h5).symm.trans hR,hlt⟩
     ·refine ai (fun h7=>?_) (fun h8=>?_)
      ·obtain rfl:=((hs.2 h6).1 h7).symm.trans hR;exact Q00 (Low.tup' (l1 (l1 .nil))) sr
      ·have h8':=(hs.2 h6).2 h8;refine ai gkA ?_;exact ⟨rfl,Qe0 ((p_.getD (i+1) Step.zero).at_) (i+1) (wk [] .nil (sl lw (s1 (s1 (s1 (s1 (sv (Qb0 (I_eq (by show (p_.getD (Int.toNat (w64 ((i:Int)+1))) Step.zero).at_=_;rw [hw1];rfl)) lx) (sv (Qb0 (I_eq (wr omA)) lx) .nil)))))))) omA ⟨h8'.2.symm.trans hR,hlt⟩⟩
    ·obtain rfl:=(ear_end hj h4).symm.trans hR;exact Q00 (Low.tup' (l1 (l1 .nil))) sr
def QD2 (c4:List Step):(List Step) × Int:=bif ((QT1 c4)!=0) then ([],3) else (c4,0)
def Q46 :List Step->Nat->List Step->(List Step)
 | [],_,c5=>c5
 | x_ :: r,i2,c5=>Q46 r (i2+1) (Q31 x_.at_ x_.free c5)
def Qh4 (c5:List Step):(List Step) × Int:=QD2 c5
def Q53 (p_:List Step) (to_:Int) (i:Int) (last:Int) (c2:List Step):(List Step) × Int:=bif (i==(p_.length:Int)) then bif (decide (to_<=1000000)) then QD2 (Q31 to_ last c2) else QD2 c2 else Qh4 (Q46 (List.drop (Int.toNat i) p_) 0 c2)
def Qz3 (p_:List Step) (to_:Int) (n:Int):Nat->Int->Int->List Step->(List Step) × Int
 | 0,_,_,_=>([],0)
 | m+1,i1,last1,c3=>bif (decide (i1<(p_.length:Int))) then bif (decide ((p_.getD (Int.toNat i1) Step.zero).at_<to_)) then Qz3 p_ to_ n m (w64 (i1+1)) ((p_.getD (Int.toNat i1) Step.zero).free) (Q31 ((p_.getD (Int.toNat i1) Step.zero).at_) (w64 ((p_.getD (Int.toNat i1) Step.zero).free+n)) c3) else bif (decide ((p_.getD (Int.toNat i1) Step.zero).at_ > to_)) then Q53 p_ to_ i1 ((p_.getD (Int.toNat i1) Step.zero).free) (Q31 to_ ((p_.getD (Int.toNat (w64 (i1 - 1))) Step.zero).free) c3) else Q53 p_ to_ i1 ((p_.getD (Int.toNat i1) Step.zero).free) c3 else Q53 p_ to_ i1 last1 c3
def Q65 (p_:List Step) (from_:Int) (to_:Int) (n:Int) (c:List Step):(List Step) × Int:=Qz3 p_ to_ n ((Int.toNat ((p_.length:Int) - (w64 ((Qa0 p_ from_)+1))))+1) (w64 ((Qa0 p_ from_)+1)) ((p_.getD (Int.toNat (Qa0 p_ from_)) Step.zero).free) (Q31 from_ (w64 ((p_.getD (Int.toNat (Qa0 p_ from_)) Step.zero).free+n)) c)
def Qx1 (p_:List Step) (from_:Int) (to_:Int) (n:Int):(List Step) × Int:=bif ((QT1 p_)!=0) then ([],100) else bif (((!(QZ2 from_))||(decide (to_<from_)))||(!(QQ2 n))) then ([],2) else bif (to_==from_) then (p_,0) else bif (decide ((p_.getD (Int.toNat (Qa0 p_ from_)) Step.zero).at_<from_)) then Q65 p_ from_ to_ n (Q31 ((p_.getD (Int.toNat (Qa0 p_ from_)) Step.zero).at_) ((p_.getD (Int.toNat (Qa0 p_ from_)) Step.zero).free) (List.take (Int.toNat (Qa0 p_ from_)) p_)) else Q65 p_ from_ to_ n (List.take (Int.toNat (Qa0 p_ from_)) p_)
theorem Qw9 (p_:List Step) (from_:Int) (to_:Int) (n:Int) (hs0:p_.length<=4294967296):∀ objs,AGives Tryz.prog 84 [stepL p_,I from_,I to_,I n] objs (AVal.tup [stepL ((Qx1 p_ from_ to_ n).1),I ((Qx1 p_ from_ to_ n).2)]):=by
 generalize hR:Qx1 p_ from_ to_ n=R;refine ga (.cons lw (l1 (l1 (l1 .nil)))) (Low.tup' (.cons lw (l1 .nil))) (kj [1000014,1000024,1000032] 17 [17,21,35,58,91,99,117,137,139,146,147,148,149,161]) Tryz.func84 ?_;have hk0:=hs0;obtain z23:p_.length<=4294967296:=hs0;refine us (Qw5 p_ (by first|((refine Nat.le_trans (Q50 _ _ _) ?_;omega))|first|((simp;omega))|exact szA) _) ?_;refine ai (fun h1=>?_) (fun h2=>?_)
 ·obtain rfl:=foll hR (ct h1 rfl);exact Q00 (Low.tup' (.cons lw (l1 .nil))) (Seen.tup (ev (QS0) (e1 .nil)))
 ·refine us (QVd from_ _) ?_;(first|apply u2|apply u3|apply u4|apply us);exact QN8 n _;refine ai (fun h3=>?_) (fun h4=>?_)
  ·obtain rfl:=foll hR (cf h2 (ct h3 rfl));exact Q00 (Low.tup' (.cons lw (l1 .nil))) (Seen.tup (ev (QS0) (e1 .nil)))
  ·refine ai (fun h5=>?_) (fun h6=>?_)
   ·refine us (mv [] (Qzb p_ (by first|((refine Nat.le_trans (Q50 _ _ _) ?_;omega))|first|((simp;omega))|exact szA)) .nil (dl lw .nil) (rO rr .nil) (rw_ 0 0 rfl)) ?_;obtain rfl:=foll hR (cf h2 (cf h4 (ct h5 rfl)));exact Q00 (Low.tup' (.cons lw (l1 .nil))) (Seen.tup (ev (Qy1 Step.zero _ rfl eqA lnA) (e1 .nil)))
   ·refine us (Qfa p_ from_ (by first|((refine Nat.le_trans (Q50 _ _ _) ?_;omega))|first|((simp;omega))|exact szA) _) ?_;have hc:=Q27 (p:=p_) (by assumption);have hp:=QC7 hc.1 hc.2.1 hc.2.2 (Qoc (by assumption));have hw:w64 (Qa0 p_ from_+1)=Qa0 p_ from_+1:=wr (by omega);refine ai gkA ?_;(first|refine ⟨Q33 16 rfl lnA apA,?_⟩|refine ⟨QA1 16 rfl apA,?_⟩);refine QZ1 (fun (c:List Step)=>Q65 p_ from_ to_ n c=R∧c.length<=Int.toNat (Qa0 p_ from_)+1) (fun c=>[(0,stepL p_),(1,I from_),(2,I to_),(3,I n),(8,AVal.lit (.slice none 0 0)),(9,I 0),(10,AVal.ptr 0 0 1 0 0),(11,AVal.fn (.func 153) [] [AVal.ptr 0 0 1 0 0]),(12,I (Qa0 p_ from_))]) (fun c=>[(0,AObj.row 72 1 [[AVal.own 1 0 2 0 c.length]]),(0,AObj.row 147 2 (c.map Step.cells))]) ?_ ?_
    ·clear hR;rintro c ⟨hR,hx⟩;(try dsimp only at hR hx);refine ai gkA ?_;refine us (mv [0,1] (QW3 from_ (w64 ((p_.getD (Int.toNat (Qa0 p_ from_)) Step.zero).free+n)) c (by first|((refine Nat.le_trans (Q50 _ _ _) ?_;omega))|first|((simp;omega))|exact szA)) (dO (dc (dv (QK8 rfl lnA) .nil)) (dO (dr eqA) .nil)) (d1 (d1 (dp .nil))) (rO (rc (.cons _ _ _ _ (rw_ 2 0 rfl) .nil)) (rO rr .nil)) rx) ?_;refine ai gkA ?_;refine join_start3 (fun (i:Int) (last:Int) (c2:List Step)=>Q53 p_ to_ i last c2=R∧1<=i∧i<=(p_.length:Int)∧c2.length<=1003) (fun i last c2=>[(0,stepL p_),(2,I to_),(8,AVal.lit (.slice none 0 0)),(9,I 0),(10,AVal.ptr 0 0 1 0 0),(11,AVal.fn (.func 153) [] [AVal.ptr 0 0 1 0 0]),(12,I i),(14,I last)]) (fun i last c2=>[(0,AObj.row 72 1 [[AVal.own 1 0 2 0 c2.length]]),(0,AObj.row 147 2 (c2.map Step.cells))]) ?_ ?_
     ·clear hR;rintro i last c2 ⟨hR,hx⟩;(try dsimp only at hR hx);refine QZ1 (fun (c4:List Step)=>QD2 c4=R∧c4.length<=4000) (fun c4=>[(8,AVal.lit (.slice none 0 0)),(9,I 0),(10,AVal.ptr 0 0 1 0 0)]) (fun c4=>[(0,AObj.row 72 1 [[AVal.own 1 0 2 0 c4.length]]),(0,AObj.row 147 2 (c4.map Step.cells))]) ?_ ?_
      ·clear hR;rintro c4 ⟨hR,hx⟩;(try dsimp only at hR hx);refine us (AGives.lent (Qw5 c4 (by first|((refine Nat.le_trans (Q50 _ _ _) ?_;omega))|first|((simp;omega))|exact szA) []) (ev (Qy1 _ _ rfl eqA lnA) .nil) (.cons lw .nil) (Qeb rfl)) ?_;refine ai (fun h7=>?_) (fun h8=>?_)
       ·obtain rfl:=foll hR (ct h7 rfl);exact Q00 (Low.tup' (.cons lw (l1 .nil))) (Seen.tup (ev (QS0) (e1 .nil)))
       ·obtain rfl:=foll hR (cf h8 rfl);exact Q00 (Low.tup' (.cons lw (l1 .nil))) (Seen.tup (ev (Qy1 Step.zero _ rfl eqA lnA) (e1 .nil)))
      ·refine ai (fun h9=>?_) (fun h10=>?_)
       ·refine ai (fun h11=>?_) (fun h12=>?_)
        ·have qh11:=of_decide_eq_true h11;refine us (mv [0,1] (QW3 to_ last c2 (by first|((refine Nat.le_trans (Q50 _ _ _) ?_;omega))|first|((simp;omega))|exact szA)) (dO (dc (dv (QK8 rfl lnA) .nil)) (dO (dr eqA) .nil)) (d1 (d1 (dp .nil))) (rO (rc (.cons _ _ _ _ (rw_ 2 0 rfl) .nil)) (rO rr .nil)) rx) ?_;exact Qf0 (Q31 to_ last c2) (wk [0,2] (tO rfl (QH0 (cv (to 1 lnA) .nil)) (tO rfl (tl eqA) .nil)) (s1 (s1 (sv (Q30 0 rfl rfl) .nil)))) (⟨foll hR (ct h9 (ct h11 rfl)),by first|((exact ⟨by omega,by omega,Nat.le_trans (Q50 _ _ _) (by omega)⟩))|first|((exact ⟨by omega,by omega,by omega⟩))|first|((rw [hw1];exact ⟨by omega,by omega,Int.le_trans (Int.ofNat_le.2 (Q50 _ _ _)) (by omega)⟩))|first|((rw [hw];exact ⟨by omega,by omega,Int.le_trans (Int.ofNat_le.2 (Q50 _ _ _)) (by omega)⟩))|first|(((try dsimp only);refine Nat.le_trans (Q50 _ _ _) ?_;first|omega|(simp;omega)))|first|(((try dsimp only);rw [List.length_drop] at *;omega))|first|((simp;omega))|exact exA⟩)
        ·have qh12:=of_decide_eq_false h12;exact Qf0 c2 (wk [0,1] (tO rfl (QH0 (cv (to 1 lnA) .nil)) (tO rfl (tl eqA) .nil)) (s1 (s1 (sv (Q30 0 rfl rfl) .nil)))) (⟨foll hR (ct h9 (cf h12 rfl)),by first|((exact ⟨by omega,by omega,Nat.le_trans (Q50 _ _ _) (by omega)⟩))|first|((exact ⟨by omega,by omega,by omega⟩))|first|((rw [hw1];exact ⟨by omega,by omega,Int.le_trans (Int.ofNat_le.2 (Q50 _ _ _)) (by omega)⟩))|first|((rw [hw];exact ⟨by omega,by omega,Int.le_trans (Int.ofNat_le.2 (Q50 _ _ _)) (by omega)⟩))|first|(((try dsimp only);refine Nat.le_trans (Q50 _ _ _) ?_;first|omega|(simp;omega)))|first|(((try dsimp only);rw [List.length_drop] at *;omega))|first|((simp;omega))|exact exA⟩)
       ·refine ai gkA ?_;refine Qs0 (fun (i2:Nat) (c5:List Step)=>Qh4 (Q46 (List.drop i2 (List.drop (Int.toNat i) p_)) i2 c5)=R∧i2<=(List.drop (Int.toNat i) p_).length∧c5.length<=2000+i2) (fun i2 c5=>(List.drop (Int.toNat i) p_).length - i2) (fun i2 c5=>[(8,AVal.lit (.slice none 0 0)),(9,I 0),(10,AVal.ptr 0 0 1 0 0),(11,AVal.fn (.func 153) [] [AVal.ptr 0 0 1 0 0]),(146,stepL (List.drop (Int.toNat i) p_)),(147,I ((List.drop (Int.toNat i) p_).length:Int)),(148,I (i2:Int))]) (fun i2 c5=>[(0,AObj.row 72 1 [[AVal.own 1 0 2 0 c5.length]]),(0,AObj.row 147 2 (c5.map Step.cells))]) 0 c2 (wk [0,1] (tO rfl (QH0 (cv (to 1 lnA) .nil)) (tO rfl (tl eqA) .nil)) (s1 (s1 (sv (Q30 0 rfl rfl) (sv (QZ0 .nil (cv (Q30 0 rfl rfl) .nil)) (sv (turn_as (as_drop p_ (Int.toNat i) _ leA) lw) (sv (Qb0 (I_eq (by simp)) lx) (s1 .nil)))))))) ⟨foll hR (cf h10 rfl),by exact omA,by first|((exact ⟨by omega,by omega,Nat.le_trans (Q50 _ _ _) (by omega)⟩))|first|((exact ⟨by omega,by omega,by omega⟩))|first|((rw [hw1];exact ⟨by omega,by omega,Int.le_trans (Int.ofNat_le.2 (Q50 _ _ _)) (by omega)⟩))|first|((rw [hw];exact ⟨by omega,by omega,Int.le_trans (Int.ofNat_le.2 (Q50 _ _ _)) (by omega)⟩))|first|(((try dsimp only);refine Nat.le_trans (Q50 _ _ _) ?_;first|omega|(simp;omega)))|first|(((try dsimp only);rw [List.length_drop] at *;omega))|first|((simp;omega))|exact exA⟩ ?_;clear hR;rintro i2 c5 ⟨hR,hj,hx⟩;(try dsimp only at hR hj hx);refine ai (fun h13=>?_) (fun h14=>?_)
        ·have hlt:=ltA h13;rw [Qc0 Step.zero hlt] at hR;have hdl:(List.drop (Int.toNat i) p_).length<=1000:=(by rw [List.length_drop];omega);refine ai gkA ?_;refine us (mv [0,1] (QW3 (((List.drop (Int.toNat i) p_).getD i2 Step.zero).at_) (((List.drop (Int.toNat i) p_).getD i2 Step.zero).free) c5 (by first|((refine Nat.le_trans (Q50 _ _ _) ?_;omega))|first|((simp;omega))|exact szA)) (dO (dc (dv (QK8 rfl lnA) .nil)) (dO (dr eqA) .nil)) (d1 (d1 (dp .nil))) (rO (rc (.cons _ _ _ _ (rw_ 3 0 rfl) .nil)) (rO rr .nil)) rx) ?_;exact Qe0 (i2+1) (Q31 ((List.drop (Int.toNat i) p_).getD i2 Step.zero).at_ ((List.drop (Int.toNat i) p_).getD i2 Step.zero).free c5) (wk [0,3] (tO rfl (QH0 (cv (to 1 lnA) .nil)) (tO rfl (tl eqA) .nil)) (s1 (s1 (sv (Q30 0 rfl rfl) (sv (QZ0 .nil (cv (Q30 0 rfl rfl) .nil)) (sl lw (sv (Qb0 (I_eq (by simp)) lx) (sv (Qb0 (I_eq (wr omA)) lx) .nil)))))))) omA ⟨foll hR (congrArg (fun p:(List Step)=>Qh4 p) rfl),by exact omA,by first|((exact ⟨by omega,by omega,Nat.le_trans (Q50 _ _ _) (by omega)⟩))|first|((exact ⟨by omega,by omega,by omega⟩))|first|((rw [hw1];exact ⟨by omega,by omega,Int.le_trans (Int.ofNat_le.2 (Q50 _ _ _)) (by omega)⟩))|first|((rw [hw];exact ⟨by omega,by omega,Int.le_trans (Int.ofNat_le.2 (Q50 _ _ _)) (by omega)⟩))|first|(((try dsimp only);refine Nat.le_trans (Q50 _ _ _) ?_;first|omega|(simp;omega)))|first|(((try dsimp only);rw [List.length_drop] at *;omega))|first|((simp;omega))|exact exA⟩
        ·rw [Qk0 (l:=(List.drop (Int.toNat i) p_)) (j:=i2) (geA h14)] at hR;replace hR:Qh4 c5=R:=fo2 (fun p:(List Step)=>Qh4 p) (c5) hR rfl;exact Qf0 c5 (wk [0,1] (tO rfl (QH0 (cv (to 1 lnA) .nil)) (tO rfl (tl eqA) .nil)) (s1 (s1 (sv (Q30 0 rfl rfl) .nil)))) (⟨foll hR rfl,by first|((exact ⟨by omega,by omega,Nat.le_trans (Q50 _ _ _) (by omega)⟩))|first|((exact ⟨by omega,by omega,by omega⟩))|first|((rw [hw1];exact ⟨by omega,by omega,Int.le_trans (Int.ofNat_le.2 (Q50 _ _ _)) (by omega)⟩))|first|((rw [hw];exact ⟨by omega,by omega,Int.le_trans (Int.ofNat_le.2 (Q50 _ _ _)) (by omega)⟩))|first|(((try dsimp only);refine Nat.le_trans (Q50 _ _ _) ?_;first|omega|(simp;omega)))|first|(((try dsimp only);rw [List.length_drop] at *;omega))|first|((simp;omega))|exact exA⟩)
     ·refine Q17 (fun (i1:Int) (last1:Int) (c3:List Step)=>∃ m,(Int.toNat ((p_.length:Int) - i1))<m∧Qz3 p_ to_ n m i1 last1 c3=R∧1<=i1∧i1<=(p_.length:Int)∧(c3.length:Int)<=i1+1) (fun i1 last1 c3=>(Int.toNat ((p_.length:Int) - i1))) (fun i1 last1 c3=>[(0,stepL p_),(2,I to_),(3,I n),(8,AVal.lit (.slice none 0 0)),(9,I 0),(10,AVal.ptr 0 0 1 0 0),(11,AVal.fn (.func 153) [] [AVal.ptr 0 0 1 0 0]),(12,I i1),(14,I last1)]) (fun i1 last1 c3=>[(0,AObj.row 72 1 [[AVal.own 1 0 2 0 c3.length]]),(0,AObj.row 147 2 (c3.map Step.cells))]) (w64 ((Qa0 p_ from_)+1)) ((p_.getD (Int.toNat (Qa0 p_ from_)) Step.zero).free) (Q31 from_ (w64 ((p_.getD (Int.toNat (Qa0 p_ from_)) Step.zero).free+n)) c) (wk [0,2] (tO rfl (QH0 (cv (to 1 lnA) .nil)) (tO rfl (tl eqA) .nil)) (sl lw (s1 (s1 (s1 (s1 (sv (Q30 0 rfl rfl) (sv (QZ0 .nil (cv (Q30 0 rfl rfl) .nil)) (s1 (s1 .nil)))))))))) ⟨_,Nat.lt_succ_self _,foll hR rfl,by first|((exact ⟨by omega,by omega,Nat.le_trans (Q50 _ _ _) (by omega)⟩))|first|((exact ⟨by omega,by omega,by omega⟩))|first|((rw [hw1];exact ⟨by omega,by omega,Int.le_trans (Int.ofNat_le.2 (Q50 _ _ _)) (by omega)⟩))|first|((rw [hw];exact ⟨by omega,by omega,Int.le_trans (Int.ofNat_le.2 (Q50 _ _ _)) (by omega)⟩))|first|(((try dsimp only);refine Nat.le_trans (Q50 _ _ _) ?_;first|omega|(simp;omega)))|first|(((try dsimp only);rw [List.length_drop] at *;omega))|first|((simp;omega))|exact exA⟩ ?_;clear hR;rintro i1 last1 c3 ⟨m,hm,hR,hx⟩;(try dsimp only at hR hm hx);obtain ⟨m,rfl⟩:=sucA m;refine ai (fun h15=>?_) (fun h16=>?_)
      ·have qh15:=of_decide_eq_true h15;have hw1:w64 (i1+1)=i1+1:=wr (by omega);refine ai gkA ?_;refine ai gkA ?_;refine ai (fun h17=>?_) (fun h18=>?_)
       ·have qh17:=of_decide_eq_true h17;refine ai gkA ?_;refine us (mv [0,1] (QW3 ((p_.getD (Int.toNat i1) Step.zero).at_) (w64 ((p_.getD (Int.toNat i1) Step.zero).free+n)) c3 (by first|((refine Nat.le_trans (Q50 _ _ _) ?_;omega))|first|((simp;omega))|exact szA)) (dO (dc (dv (QK8 rfl lnA) .nil)) (dO (dr eqA) .nil)) (d1 (d1 (dp .nil))) (rO (rc (.cons _ _ _ _ (rw_ 2 0 rfl) .nil)) (rO rr .nil)) rx) ?_;exact Qi3 (w64 (i1+1)) ((p_.getD (Int.toNat i1) Step.zero).free) (Q31 ((p_.getD (Int.toNat i1) Step.zero).at_) (w64 ((p_.getD (Int.toNat i1) Step.zero).free+n)) c3) (wk [0,2] (tO rfl (QH0 (cv (to 1 lnA) .nil)) (tO rfl (tl eqA) .nil)) (sl lw (s1 (s1 (s1 (s1 (sv (Q30 0 rfl rfl) (sv (QZ0 .nil (cv (Q30 0 rfl rfl) .nil)) (s1 (s1 .nil)))))))))) omA ⟨m,by exact omA,foll hR (ct h15 (ct h17 rfl)),by first|((exact ⟨by omega,by omega,Nat.le_trans (Q50 _ _ _) (by omega)⟩))|first|((exact ⟨by omega,by omega,by omega⟩))|first|((rw [hw1];exact ⟨by omega,by omega,Int.le_trans (Int.ofNat_le.2 (Q50 _ _ _)) (by omega)⟩))|first|((rw [hw];exact ⟨by omega,by omega,Int.le_trans (Int.ofNat_le.2 (Q50 _ _ _)) (by omega)⟩))|first|(((try dsimp only);refine Nat.le_trans (Q50 _ _ _) ?_;first|omega|(simp;omega)))|first|(((try dsimp only);rw [List.length_drop] at *;omega))|first|((simp;omega))|exact exA⟩
       ·have qh18:=of_decide_eq_false h18;refine ai gkA ?_;refine ai (fun h19=>?_) (fun h20=>?_)
        ·have qh19:=of_decide_eq_true h19;refine ai gkA ?_;refine us (mv [0,1] (QW3 to_ ((p_.getD (Int.toNat (w64 (i1 - 1))) Step.zero).free) c3 (by first|((refine Nat.le_trans (Q50 _ _ _) ?_;omega))|first|((simp;omega))|exact szA)) (dO (dc (dv (QK8 rfl lnA) .nil)) (dO (dr eqA) .nil)) (d1 (d1 (dp .nil))) (rO (rc (.cons _ _ _ _ (rw_ 2 0 rfl) .nil)) (rO rr .nil)) rx) ?_;exact Q7d i1 ((p_.getD (Int.toNat i1) Step.zero).free) (Q31 to_ ((p_.getD (Int.toNat (w64 (i1 - 1))) Step.zero).free) c3) (wk [0,2] (tO rfl (QH0 (cv (to 1 lnA) .nil)) (tO rfl (tl eqA) .nil)) (sl lw (s1 (s1 (s1 (sv (Q30 0 rfl rfl) (sv (QZ0 .nil (cv (Q30 0 rfl rfl) .nil)) (s1 (s1 .nil))))))))) (⟨foll hR (ct h15 (cf h18 (ct h19 rfl))),by first|((exact ⟨by omega,by omega,Nat.le_trans (Q50 _ _ _) (by omega)⟩))|first|((exact ⟨by omega,by omega,by omega⟩))|first|((rw [hw1];exact ⟨by omega,by omega,Int.le_trans (Int.ofNat_le.2 (Q50 _ _ _)) (by omega)⟩))|first|((rw [hw];exact ⟨by omega,by omega,Int.le_trans (Int.ofNat_le.2 (Q50 _ _ _)) (by omega)⟩))|first|(((try dsimp only);refine Nat.le_trans (Q50 _ _ _) ?_;first|omega|(simp;omega)))|first|(((try dsimp only);rw [List.length_drop] at *;omega))|first|((simp;omega))|exact exA⟩)
        ·have qh20:=of_decide_eq_false h20;exact Q7d i1 ((p_.getD (Int.toNat i1) Step.zero).free) c3 (wk [0,1] (tO rfl (QH0 (cv (to 1 lnA) .nil)) (tO rfl (tl eqA) .nil)) (sl lw (s1 (s1 (s1 (sv (Q30 0 rfl rfl) (sv (QZ0 .nil (cv (Q30 0 rfl rfl) .nil)) (s1 (s1 .nil))))))))) (⟨foll hR (ct h15 (cf h18 (cf h20 rfl))),by first|((exact ⟨by omega,by omega,Nat.le_trans (Q50 _ _ _) (by omega)⟩))|first|((exact ⟨by omega,by omega,by omega⟩))|first|((rw [hw1];exact ⟨by omega,by omega,Int.le_trans (Int.ofNat_le.2 (Q50 _ _ _)) (by omega)⟩))|first|((rw [hw];exact ⟨by omega,by omega,Int.le_trans (Int.ofNat_le.2 (Q50 _ _ _)) (by omega)⟩))|first|(((try dsimp only);refine Nat.le_trans (Q50 _ _ _) ?_;first|omega|(simp;omega)))|first|(((try dsimp only);rw [List.length_drop] at *;omega))|first|((simp;omega))|exact exA⟩)
      ·have qh16:=of_decide_eq_false h16;exact Q7d i1 last1 c3 (wk [0,1] (tO rfl (QH0 (cv (to 1 lnA) .nil)) (tO rfl (tl eqA) .nil)) (sl lw (s1 (s1 (s1 (sv (Q30 0 rfl rfl) (sv (QZ0 .nil (cv (Q30 0 rfl rfl) .nil)) (s1 (s1 .nil))))))))) (⟨foll hR (cf h16 rfl),by first|((exact ⟨by omega,by omega,Nat.le_trans (Q50 _ _ _) (by omega)⟩))|first|((exact ⟨by omega,by omega,by omega⟩))|first|((rw [hw1];exact ⟨by omega,by omega,Int.le_trans (Int.ofNat_le.2 (Q50 _ _ _)) (by omega)⟩))|first|((rw [hw];exact ⟨by omega,by omega,Int.le_trans (Int.ofNat_le.2 (Q50 _ _ _)) (by omega)⟩))|first|(((try dsimp only);refine Nat.le_trans (Q50 _ _ _) ?_;first|omega|(simp;omega)))|first|(((try dsimp only);rw [List.length_drop] at *;omega))|first|((simp;omega))|exact exA⟩)
    ·refine ai gkA ?_;refine ai (fun h21=>?_) (fun h22=>?_)
     ·have qh21:=of_decide_eq_true h21;refine dchk (by kernel_rfl) ?_;refine ai gkA ?_;refine ai gkA ?_;(first|apply u2|apply u3|apply u4|apply us);exact mv [0,1] (QW3 ((p_.getD (Int.toNat (Qa0 p_ from_)) Step.zero).at_) ((p_.getD (Int.toNat (Qa0 p_ from_)) Step.zero).free) (List.take (Int.toNat (Qa0 p_ from_)) p_) (by first|((refine Nat.le_trans (Q50 _ _ _) ?_;omega))|first|((simp;omega))|exact szA)) (dO (dc (dv (QK8 rfl lnA) .nil)) (dO (dr eqA) .nil)) (d1 (d1 (dp .nil))) (rO (rc (.cons _ _ _ _ (rw_ 2 0 rfl) .nil)) (rO rr .nil)) rx;(repeat ((first|refine ai rfl ?_|refine ai (fun _=>rfl) ?_)));exact Qf0 (Q31 ((p_.getD (Int.toNat (Qa0 p_ from_)) Step.zero).at_) ((p_.getD (Int.toNat (Qa0 p_ from_)) Step.zero).free) (List.take (Int.toNat (Qa0 p_ from_)) p_)) (wk [0,2] (tO rfl (QH0 (cv (to 1 lnA) .nil)) (tO rfl (tl eqA) .nil)) (sl lw (s1 (s1 (s1 (s1 (s1 (sv (Q30 0 rfl rfl) (sv (QZ0 .nil (cv (Q30 0 rfl rfl) .nil)) (s1 .nil)))))))))) (⟨foll hR (cf h2 (cf h4 (cf h6 (ct h21 rfl)))),by first|((exact ⟨by omega,by omega,Nat.le_trans (Q50 _ _ _) (by omega)⟩))|first|((exact ⟨by omega,by omega,by omega⟩))|first|((rw [hw1];exact ⟨by omega,by omega,Int.le_trans (Int.ofNat_le.2 (Q50 _ _ _)) (by omega)⟩))|first|((rw [hw];exact ⟨by omega,by omega,Int.le_trans (Int.ofNat_le.2 (Q50 _ _ _)) (by omega)⟩))|first|(((try dsimp only);refine Nat.le_trans (Q50 _ _ _) ?_;first|omega|(simp;omega)))|first|(((try dsimp only);rw [List.length_drop] at *;omega))|first|((simp;omega))|exact exA⟩)
     ·have qh22:=of_decide_eq_false h22;exact Qf0 (List.take (Int.toNat (Qa0 p_ from_)) p_) (wk [0,1] (tO rfl (QH0 (cv (to 1 lnA) .nil)) (tO rfl (tl eqA) .nil)) (sl lw (s1 (s1 (s1 (s1 (s1 (sv (Q30 0 rfl rfl) (sv (QZ0 .nil (cv (Q30 0 rfl rfl) .nil)) (s1 .nil)))))))))) (⟨foll hR (cf h2 (cf h4 (cf h6 (cf h22 rfl)))),by first|((exact ⟨by omega,by omega,Nat.le_trans (Q50 _ _ _) (by omega)⟩))|first|((exact ⟨by omega,by omega,by omega⟩))|first|((rw [hw1];exact ⟨by omega,by omega,Int.le_trans (Int.ofNat_le.2 (Q50 _ _ _)) (by omega)⟩))|first|((rw [hw];exact ⟨by omega,by omega,Int.le_trans (Int.ofNat_le.2 (Q50 _ _ _)) (by omega)⟩))|first|(((try dsimp only);refine Nat.le_trans (Q50 _ _ _) ?_;first|omega|(simp;omega)))|first|(((try dsimp only);rw [List.length_drop] at *;omega))|first|((simp;omega))|exact exA⟩)
theorem Qd8 (p:List Step) (f t n:Int) (hp:p.length<=4294967296):(Qx1 p f t n).1.length<=4294967296:=by
 have k4:∀ c,(QD2 c).1.length<=4294967296:=by
  intro c
  unfold QD2
  cases h:((QT1 c)!=0) with
  | true=>simp
  | false=>have:=Q27 h;simp only [cond_false];omega
 have k2:∀ i last c,(Q53 p t i last c).1.length<=4294967296:=by
  intro i last c
  unfold Q53 Qh4
  cases (i==(p.length:Int)) <;> simp only [cond_true,cond_false]
  ·exact k4 _
  ·cases (decide (t<=1000000)) <;> simp only [cond_true,cond_false] <;> exact k4 _
 have g3:∀ m i last c,(Qz3 p t n m i last c).1.length<=4294967296:=by
  intro m
  induction m with
  | zero=>intro i last c;simp [Qz3]
  | succ m ih =>
   intro i last c
   rw [Qz3]
   repeat' first|exact ih _ _ _|exact k2 _ _ _|(rw [Bool.cond_eq_ite];split)
 unfold Qx1 Q65
 repeat' first|exact g3 _ _ _ _|exact hp|(simp;done)|(rw [Bool.cond_eq_ite];split)
end Go.Proofs.YtjpgfmbccohngaaGreatDoor
namespace Go.Proofs.YtjpgfmbccohngaaGreatDoor
set_option linter.unusedSimpArgs false
set_option linter.unusedVariables false
open Go.Fw
set_option maxRecDepth 20000
set_option maxHeartbeats 4000000
attribute [local irreducible] ACalls AMoves
def Ql3 (p_:List Step) (to_:Int):Nat->Int->Int->Int × Int
 | 0,_,_=>(0,0)
 | m+1,i,n=>bif ((decide (i<(p_.length:Int)))&&(decide ((p_.getD (Int.toNat i) Step.zero).at_<to_))) then Ql3 p_ to_ m (w64 (i+1)) (min n (p_.getD (Int.toNat i) Step.zero).free) else (i,n)
def QX3 (i:Int) (n:Int):Int:=n
def QF0 (p_:List Step) (from_:Int) (to_:Int):Int:=bif ((((QT1 p_)!=0)||(!(QZ2 from_)))||(decide (to_<=from_))) then 0 else QX3 ((Ql3 p_ to_ ((Int.toNat ((p_.length:Int) - (w64 ((Qa0 p_ from_)+1))))+1) (w64 ((Qa0 p_ from_)+1)) ((p_.getD (Int.toNat (Qa0 p_ from_)) Step.zero).free)).1) ((Ql3 p_ to_ ((Int.toNat ((p_.length:Int) - (w64 ((Qa0 p_ from_)+1))))+1) (w64 ((Qa0 p_ from_)+1)) ((p_.getD (Int.toNat (Qa0 p_ from_)) Step.zero).free)).2)
theorem Qea (p_:List Step) (from_:Int) (to_:Int) (hs0:p_.length<=4294967296):∀ objs,AGives Tryz.prog 54 [stepL p_,I from_,I to_] objs (I (QF0 p_ from_ to_)):=by
 generalize hR:QF0 p_ from_ to_=R;refine ga (.cons lw (l1 (l1 .nil))) lx (kp 9 [21,44]) Tryz.func54 ?_;have hk0:=hs0;obtain z5:p_.length<=4294967296:=hs0;refine us (Qw5 p_ szA _) ?_;(first|apply u2|apply u3|apply u4|apply us);exact QVd from_ _;refine ai (fun h1=>?_) (fun h2=>?_)
 ·obtain rfl:=foll hR (ct h1 rfl);exact Q00 lx sr
 ·refine us (Qfa p_ from_ szA _) ?_;have hb:=Bool.or_eq_false_iff.1 (Bool.or_eq_false_iff.1 h2).1;have hc:=Q27 hb.1;have hq:=hb.2;simp [QZ2] at hq;have hp:=QC7 hc.1 hc.2.1 hc.2.2 (t:=from_) (by omega);have hw:w64 (Qa0 p_ from_+1)=Qa0 p_ from_+1:=wr (by omega);refine ai gkA ?_;refine Qs0 (fun (i:Int) (n:Int)=>∃ m,(Int.toNat ((p_.length:Int) - i))<m∧QX3 (Ql3 p_ to_ m i n).1 (Ql3 p_ to_ m i n).2=R∧0<=i∧i<=(p_.length:Int)) (fun i n=>(Int.toNat ((p_.length:Int) - i))) (fun i n=>[(0,stepL p_),(2,I to_),(6,I 0),(7,I i),(8,I n)]) (fun i n=>[]) (w64 ((Qa0 p_ from_)+1)) ((p_.getD (Int.toNat (Qa0 p_ from_)) Step.zero).free) (wk [] .nil (sl lw (s1 (s1 (s1 (s1 .nil)))))) ⟨_,Nat.lt_succ_self _,foll hR (cf h2 rfl),by first|((rw [hw];omega))|first|((rw [hw1];omega))|exact exA⟩ ?_;clear hR;rintro i n ⟨m,hm,hR,hx⟩;(try dsimp only at hR hm hx);obtain ⟨m,rfl⟩:=sucA m;refine ai gkA ?_;refine ai (fun h3=>?_) (fun h4=>?_)
  ·have hw1:w64 (i+1)=i+1:=wr (by omega);refine ai gkA ?_;exact Qe0 (w64 (i+1)) (min n (p_.getD (Int.toNat i) Step.zero).free) (wk [] .nil (sl lw (s1 (s1 (s1 (s1 .nil)))))) (by first|((dsimp only;rw [hw1];omega))|exact omA) ⟨m,by first|((dsimp only;rw [hw1];omega))|exact omA,foll hR (congrArg (fun p:Int × Int=>QX3 p.1 p.2) (ct h3 rfl)),by first|((rw [hw];omega))|first|((rw [hw1];omega))|exact exA⟩
  ·replace hR:QX3 i n=R:=fo2 (fun p:Int × Int=>QX3 p.1 p.2) (i,n) hR (cf h4 rfl);obtain rfl:=foll hR rfl;exact Q00 lx sr
def QCc (l:List Int):Int:=(sat_sum 1000000000000 l).1
theorem sat_Plus_c (l:List Int) (hs0:l.length<=4294967296):∀ objs,AGives Tryz.prog 255 [ints l] objs (I (QCc l)):=by
 generalize hR:QCc l=R;refine ga (.cons lw .nil) lx (kp 5 []) Tryz.func255 ?_;have hk0:=hs0;obtain z1:l.length<=4294967296:=hs0;refine us (sat_sum_c 1000000000000 l szA _) ?_;obtain rfl:=foll hR rfl;exact Q00 lx sr
def Qx2 (c:Cmd) (job:Bool) (submit:Bool) (prio:Bool) (time:Bool) (node:Bool) (nodes:Bool) (from_:Bool):Bool:=bif ((((((job&&(c.job != 0))||(prio&&c.hasPrio))||(time&&c.hasTime))||(node&&(c.node != 0)))||(nodes&&(c.nodes != 0)))||(from_&&(c.from_ != 0))) then false else bif (!submit) then true else (((((ByteArray.toList c.name==ByteArray.toList ⟨#[]⟩)&&(ByteArray.toList c.user==ByteArray.toList ⟨#[]⟩))&&(ByteArray.toList c.account==ByteArray.toList ⟨#[]⟩))&&((c.after.length:Int)==0))&&(Q37 c.shape Shape.zero))
theorem Qz5 (c:Cmd) (job:Bool) (submit:Bool) (prio:Bool) (time:Bool) (node:Bool) (nodes:Bool) (from_:Bool) (hs0:c.sz):∀ objs,AGives Tryz.prog 178 [Cmd.a c,Bo job,Bo submit,Bo prio,Bo time,Bo node,Bo nodes,Bo from_] objs (Bo (Qx2 c job submit prio time node nodes from_)):=by
 generalize hR:Qx2 c job submit prio time node nodes from_=R;refine ga (.cons (Cmd.low _ _) (l1 (l1 (l1 (l1 (l1 (l1 (l1 .nil)))))))) lx (kp 17 [60,62]) Tryz.func178 ?_;have hk0:=hs0;obtain ⟨z5,z6,z7,z8,z9⟩:c.name.size<=4294967296∧c.user.size<=4294967296∧c.account.size<=4294967296∧(c.shape.alts.length<=4294967296)∧c.after.length<=4294967296:=hs0;refine ai (fun h1=>?_) (fun h2=>?_)
 ·obtain rfl:=foll hR (ct h1 rfl);exact Q00 lx sr
 ·refine ai (fun h3=>?_) (fun h4=>?_)
  ·obtain rfl:=foll hR (cf h2 (ct h3 rfl));exact Q00 lx sr
  ·(first|apply u2|apply u3|apply u4|apply us);exact AGives.as2 (QZd c.shape Shape.zero szA szA _) (a1 (av (as_agg (a1 (av (as_nil) (a1 (a1 (a1 .nil)))))) .nil));obtain rfl:=foll hR (cf h2 (cf h4 rfl));exact Q00 lx sr
def QM3 (s:ByteArray):Bool:=((((QR3 s).2==0)&&(decide ((QR3 s).1 >= 1)))&&(decide ((QR3 s).1<=16)))
theorem Qka (s:ByteArray) (hs0:s.size<=4294967296):∀ objs,AGives Tryz.prog 179 [Sg s] objs (Bo (QM3 s)):=by
 generalize hR:QM3 s=R;refine ga (l1 .nil) lx (kp 5 []) Tryz.func179 ?_;have hk0:=hs0;obtain z1:s.size<=4294967296:=hs0;refine us (Qz9 s szA _) ?_;obtain rfl:=foll hR rfl;exact Q00 lx sr
def Q75 (s:ByteArray):Nat->Nat->List Int->Nat × (List Int)
 | 0,_,_=>(0,[])
 | m+1,i,c=>bif (decide ((i:Int)<(ByteArray.size s:Int))) then bif ((((s.data.toList.getD i 0).toNat:Int)==34)||(((s.data.toList.getD i 0).toNat:Int)==92)) then Q75 s m (i+1) ((c++([92]:List Int))++([((s.data.toList.getD i 0).toNat:Int)]:List Int)) else Q75 s m (i+1) (c++([((s.data.toList.getD i 0).toNat:Int)]:List Int)) else (i,c)
def Q85 (i:Nat) (c:List Int):ByteArray × Int:=((QT2 (c++([34]:List Int))),0)
def Qe8 (s:ByteArray):ByteArray × Int:=bif ((QR3 s).2 != 0) then (⟨#[]⟩,(QR3 s).2) else Q85 ((Q75 s ((Int.toNat ((ByteArray.size s:Int) - (0:Int)))+1) 0 ([34]:List Int)).1) ((Q75 s ((Int.toNat ((ByteArray.size s:Int) - (0:Int)))+1) 0 ([34]:List Int)).2)
theorem ref04_Quote_c (s:ByteArray) (hs0:s.size<=4294967296):∀ objs,AGives Tryz.prog 272 [Sg s] objs (AVal.tup [Sg ((Qe8 s).1),I ((Qe8 s).2)]):=by
 generalize hR:Qe8 s=R;refine ga (l1 .nil) (Low.tup' (l1 (l1 .nil))) (kp 8 [14,20,32]) Tryz.func272 ?_;have hk0:=hs0;obtain z7:s.size<=4294967296:=hs0;refine us (Qz9 s szA _) ?_;refine ai (fun h1=>?_) (fun h2=>?_)
 ·obtain rfl:=foll hR (ct h1 rfl);exact Q00 (Low.tup' (l1 (l1 .nil))) (Seen.tup (e1 (e1 .nil)))
 ·refine Or.inr ?_;refine Qs0 (fun (i:Nat) (c:List Int)=>∃ m,(Int.toNat ((ByteArray.size s:Int) - (i:Int)))<m∧Q85 (Q75 s m i c).1 (Q75 s m i c).2=R∧c.length<=([34]:List Int).length+2*i∧(i:Int)<=(ByteArray.size s:Int)) (fun i c=>(Int.toNat ((ByteArray.size s:Int) - (i:Int)))) (fun i c=>[(0,Sg s),(2,Sg ⟨#[]⟩),(3,I 0),(6,AVal.own 0 0 1 0 c.length),(7,I (i:Int))]) (fun i c=>[(0,AObj.row 5 1 (c.map (fun q_=>[Y q_])))]) 0 ([34]:List Int) (wk [0] (tO rfl (tl eqA) .nil) (s1 (s1 (s1 (sv (to 0 lnA) (s1 .nil)))))) ⟨_,Nat.lt_succ_self _,foll hR (cf h2 rfl),by exact exA⟩ ?_;clear hR;rintro i c ⟨m,hm,hR,hx⟩;(try dsimp only at hR hm hx);obtain ⟨m,rfl⟩:=sucA m;refine ai (fun h3=>?_) (fun h4=>?_)
  ·have qh3:=of_decide_eq_true h3;refine ai gkA ?_;refine ai gkA ?_;refine ai (fun h5=>?_) (fun h6=>?_)
   ·refine Or.inl ?_;(first|refine ⟨Q33 1 rfl lnA apA,?_⟩|refine ⟨QA1 1 rfl apA,?_⟩);refine ai gkA ?_;refine Or.inl ?_;(first|refine ⟨Q33 1 rfl lnA apA,?_⟩|refine ⟨QA1 1 rfl apA,?_⟩);exact Qe0 (i+1) ((c++([92]:List Int))++([((s.data.toList.getD i 0).toNat:Int)]:List Int)) (wk [0] (tO rfl (tl eqA) .nil) (s1 (s1 (s1 (sv (to 0 lnA) (sv (Qb0 (I_eq (wr omA)) lx) .nil)))))) omA ⟨m,by exact omA,foll hR (congrArg (fun p:Nat × (List Int)=>Q85 p.1 p.2) (ct h3 (ct h5 rfl))),by exact exA⟩
   ·refine ai gkA ?_;refine Or.inl ?_;(first|refine ⟨Q33 1 rfl lnA apA,?_⟩|refine ⟨QA1 1 rfl apA,?_⟩);exact Qe0 (i+1) (c++([((s.data.toList.getD i 0).toNat:Int)]:List Int)) (wk [0] (tO rfl (tl eqA) .nil) (s1 (s1 (s1 (sv (to 0 lnA) (sv (Qb0 (I_eq (wr omA)) lx) .nil)))))) omA ⟨m,by exact omA,foll hR (congrArg (fun p:Nat × (List Int)=>Q85 p.1 p.2) (ct h3 (cf h6 rfl))),by exact exA⟩
  ·have qh4:=of_decide_eq_false h4;replace hR:Q85 i c=R:=fo2 (fun p:Nat × (List Int)=>Q85 p.1 p.2) (i,c) hR (cf h4 rfl);refine Or.inl ?_;(first|refine ⟨Q33 1 rfl lnA apA,?_⟩|refine ⟨QA1 1 rfl apA,?_⟩);(first|refine ⟨(c++([34]:List Int)),by exact cvA,?_⟩|refine ⟨_,fun _=>⟨(c++([34]:List Int)),by exact cvA,rfl,rfl⟩,?_⟩|refine ⟨_,rfl,⟨(c++([34]:List Int)),by exact cvA,Sub.refl _,rfl⟩,?_⟩);obtain rfl:=foll hR rfl;exact Q00 (Low.tup' (l1 (l1 .nil))) (Seen.tup (e1 (e1 .nil)))
def Qp1 (s:Shape):Nat->List Alt->Nat->(List Alt) × Nat
 | 0,_,_=>([],0)
 | m+1,out,i=>bif (decide ((i:Int)<=(w64 (s.max - s.min)))) then Qp1 s m (out++([(⟨(w64 (s.max - (i:Int))),s.wall⟩:Alt)]:List Alt)) (i+1) else (out,i)
def Qm3 (out:List Alt) (i:Nat):(List Alt):=out
def Q60 (s:Shape):(List Alt):=bif ((Qi1 s)!=0) then [] else bif (s.kind != 3) then s.alts else Qm3 ((Qp1 s ((Int.toNat ((w64 (s.max - s.min)) - (0:Int)+1))+1) [] 0).1) ((Qp1 s ((Int.toNat ((w64 (s.max - s.min)) - (0:Int)+1))+1) [] 0).2)
theorem Qia (s:Shape) (hs0:s.sz):∀ objs,AGives Tryz.prog 118 [Shape.a s] objs (altL (Q60 s)):=by
 generalize hR:Q60 s=R;refine ga (.cons (Shape.low _ _) .nil) lw (kp 5 [7,10,19]) Tryz.func118 ?_;have hk0:=hs0;obtain z7:s.alts.length<=4294967296:=hs0;have hf0:=QO6 (s:=s);refine us (Qqc s szA _) ?_;refine ai (fun h1=>?_) (fun h2=>?_)
 ·obtain rfl:=foll hR (ct h1 rfl);exact Q00 lw (QS0)
 ·refine ai (fun h3=>?_) (fun h4=>?_)
  ·obtain rfl:=foll hR (cf h2 (ct h3 rfl));exact Q00 lw sr
  ·refine Qs0 (fun (out:List Alt) (i:Nat)=>∃ m,(Int.toNat ((w64 (s.max - s.min)) - (i:Int)+1))<m∧Qm3 (Qp1 s m out i).1 (Qp1 s m out i).2=R∧out.length<=i) (fun out i=>(Int.toNat ((w64 (s.max - s.min)) - (i:Int)+1))) (fun out i=>[(1,AVal.ptr 0 0 5 0 0),(2,AVal.lit (.slice none 0 0)),(3,AVal.own 1 0 2 0 out.length),(4,I (i:Int))]) (fun out i=>[(0,AObj.row 31 5 [[I s.kind,altL s.alts,I s.min,I s.max,I s.wall]]),(0,AObj.row 121 2 (out.map Alt.cells))]) [] 0 ((QG1 121 2).trans (wk [0,1] (tO rfl (ts Shape.lo) (tO rfl (tl eqA) .nil)) (sv (Q30 0 rfl rfl) (s1 (sv (Qo1 1 rfl) (s1 .nil)))))) ⟨_,Nat.lt_succ_self _,foll hR (cf h2 (cf h4 rfl)),by exact exA⟩ ?_;clear hR;rintro out i ⟨m,hm,hR,hx⟩;(try dsimp only at hR hm hx);obtain ⟨m,rfl⟩:=sucA m;refine ai (fun h5=>?_) (fun h6=>?_)
   ·have qh5:=of_decide_eq_true h5;refine Or.inl ?_;(first|refine ⟨Q33 16 rfl lnA apA,?_⟩|refine ⟨QA1 16 rfl apA,?_⟩);exact Qe0 (out++([(⟨(w64 (s.max - (i:Int))),s.wall⟩:Alt)]:List Alt)) (i+1) (wk [0,1] (tO rfl (ts Shape.lo) (tO rfl (tl eqA) .nil)) (sv (Q30 0 rfl rfl) (s1 (sv (to 1 lnA) (sv (Qb0 (I_eq (wr omA)) lx) .nil))))) omA ⟨m,by exact omA,foll hR (congrArg (fun p:(List Alt) × Nat=>Qm3 p.1 p.2) (ct h5 rfl)),by exact exA⟩
   ·have qh6:=of_decide_eq_false h6;replace hR:Qm3 out i=R:=fo2 (fun p:(List Alt) × Nat=>Qm3 p.1 p.2) (out,i) hR (cf h6 rfl);obtain rfl:=foll hR rfl;exact Q00 lw (Qy1 Alt.zero _ rfl eqA lnA)
theorem QD7 (s:Shape):∀ (m:Nat) (out:List Alt) (i:Nat),(Qp1 s m out i).1.length<=out.length+m
 | 0,out,i=>by simp [Qp1]
 | m+1,out,i=>by
  rw [Qp1]
  cases (decide ((i:Int)<=(w64 (s.max - s.min)))) with
  | false=>simp
  | true =>
   have:=QD7 s m (out++([(⟨(w64 (s.max - (i:Int))),s.wall⟩:Alt)]:List Alt)) (i+1)
   simp only [List.length_append,List.length_cons,List.length_nil] at this
   simp only [cond_true]
   omega
theorem Q79 (s:Shape) (h:s.sz):(Q60 s).length<=4294967296:=by
 unfold Q60
 cases h1:(Qi1 s != 0) with
 | true=>simp
 | false =>
  cases h2:(s.kind != 3) with
  | true=>exact h
  | false =>
   obtain ⟨a,b,c,d⟩:=QO6 h1 h2
   have hl:=QD7 s ((Int.toNat ((w64 (s.max - s.min)) - (0:Int)+1))+1) [] 0
   simp only [cond_false,Qm3]
   rw [d] at hl ⊢
   simp only [List.length_nil] at hl
   omega
def Qb3 (p_:List Step) (from_:Int) (to_:Int) (n:Int):List Int->List Step->Nat->(List Step) × Nat
 | [],out,i=>(out,i)
 | x_ :: r,out,i=>bif ((decide (x_ >= from_))&&(decide (x_<to_))) then bif (((out.length:Int)==0)||((out.getD (Int.toNat (w64 ((out.length:Int) - 1))) Step.zero).free != (w64 ((Qg8 p_ x_)+n)))) then Qb3 p_ from_ to_ n r (out++([(⟨x_,(w64 ((Qg8 p_ x_)+n))⟩:Step)]:List Step)) (i+1) else Qb3 p_ from_ to_ n r out (i+1) else bif (((out.length:Int)==0)||((out.getD (Int.toNat (w64 ((out.length:Int) - 1))) Step.zero).free != (Qg8 p_ x_))) then Qb3 p_ from_ to_ n r (out++([(⟨x_,(Qg8 p_ x_)⟩:Step)]:List Step)) (i+1) else Qb3 p_ from_ to_ n r out (i+1)
def Q2e (out:List Step) (i:Nat):(List Step) × Int:=bif ((Q41 out)!=0) then ([],3) else (out,0)
def Qq8 (p_:List Step) (from_:Int) (to_:Int) (n:Int) (more:List Int):(List Step) × Int:=Q2e ((Qb3 p_ from_ to_ n (Qn3 p_ more) [] 0).1) ((Qb3 p_ from_ to_ n (Qn3 p_ more) [] 0).2)
def Qp3 (p_:List Step) (from_:Int) (to_:Int) (n:Int):(List Step) × Int:=bif ((Q41 p_)!=0) then ([],100) else bif (((((decide (from_<0))||(decide (from_ > 1000000)))||(decide (to_<from_)))||(decide (n<(-1000000))))||(decide (n > 1000000))) then ([],2) else bif (decide (to_<=1000000)) then Qq8 p_ from_ to_ n (([from_]:List Int)++([to_]:List Int)) else Qq8 p_ from_ to_ n ([from_]:List Int)
def QRg (s:State) (n:Int):Int:=bif (((s.nodes.getD (Int.toNat n) Node.zero).drain||((s.nodes.getD (Int.toNat n) Node.zero).state==0))||((s.nodes.getD (Int.toNat n) Node.zero).state==4)) then 0 else bif ((s.nodes.getD (Int.toNat n) Node.zero).state==3) then (w64 ((s.nodes.getD (Int.toNat n) Node.zero).since+12)) else bif ((Q81 s.jobs ((s.nodes.getD (Int.toNat n) Node.zero).job)).state != 2) then 1000001 else (w64 ((Q81 s.jobs ((s.nodes.getD (Int.toNat n) Node.zero).job)).limit+12))
def Qy2 (p_:List Step) (at_:Int) (long:Int) (nodes:Int):Bool:=bif ((((((((Q41 p_)!=0)||(decide (nodes<1)))||(decide (nodes > 1000000)))||(decide (long<1)))||(decide (long > 1000000)))||(decide (at_<0)))||(decide (at_ > (w64 (1000000 - long))))) then false else (decide ((QC9 p_ at_ (w64 (at_+long))) >= nodes))
def QN6 :List Int->Int->Nat->Int × Nat
 | [],out,i=>(out,i)
 | x_ :: r,out,i=>QN6 r (QU7 (w64 (out+(Qc1 x_))) 1000000000000) (i+1)
def Qpc (out:Int) (i:Nat):Int:=out
def ref01_Plus (l:List Int):Int:=Qpc ((QN6 l 0 0).1) ((QN6 l 0 0).2)
def Qxc (l:List Job) (d:Dep):Bool:=bif ((decide ((QU1 l d.job)<0))||(!(ref15_Over (l.getD (Int.toNat (QU1 l d.job)) Job.zero)))) then false else (((d.how==1)||((d.how==2)&&((l.getD (Int.toNat (QU1 l d.job)) Job.zero).state==3)))||((d.how==3)&&(!((l.getD (Int.toNat (QU1 l d.job)) Job.zero).state==3))))
def ref14_Same_g1 (a:Job) (b:Job):List Dep->Nat->Bool
 | [],_=>((((((((((((((a.id==b.id)&&(ByteArray.toList a.name==ByteArray.toList b.name))&&(ByteArray.toList a.user==ByteArray.toList b.user))&&(ByteArray.toList a.account==ByteArray.toList b.account))&&(a.prio==b.prio))&&(a.state==b.state))&&(a.held==b.held))&&(a.born==b.born))&&(a.promise==b.promise))&&(a.choice==b.choice))&&(a.start==b.start))&&(a.limit==b.limit))&&(a.nodes==b.nodes))&&(a.used==b.used))
 | x_ :: r,i=>bif (!((x_.how==(b.after.getD i Dep.zero).how)&&(x_.job==(b.after.getD i Dep.zero).job))) then false else ref14_Same_g1 a b r (i+1)
def QU5 (a:Job) (b:Job):Bool:=bif (((a.after.length:Int)!=(b.after.length:Int))||(!(Q37 a.shape b.shape))) then false else ref14_Same_g1 a b a.after 0
theorem Q3e (a:Job) (b:Job) (hs0:a.sz) (hs1:b.sz):∀ objs,AGives Tryz.prog 22 [Job.a a,Job.a b] objs (Bo (QU5 a b)):=by
 generalize hR:QU5 a b=R;refine ga (.cons (Job.low _ _) (.cons (Job.low _ _) .nil)) lx (kp 7 [21,26,39]) Tryz.func22 ?_;have hk0:=hs0;obtain ⟨z7,z8,z9,z10,z11⟩:a.name.size<=4294967296∧a.user.size<=4294967296∧a.account.size<=4294967296∧(a.shape.alts.length<=4294967296)∧a.after.length<=4294967296:=hs0;have hk1:=hs1;obtain ⟨z12,z13,z14,z15,z16⟩:b.name.size<=4294967296∧b.user.size<=4294967296∧b.account.size<=4294967296∧(b.shape.alts.length<=4294967296)∧b.after.length<=4294967296:=hs1;(first|apply u2|apply u3|apply u4|apply us);exact QZd a.shape b.shape szA szA _;refine ai (fun h1=>?_) (fun h2=>?_)
 ·obtain rfl:=foll hR (ct h1 rfl);exact Q00 lx sr
 ·refine Qj0 (fun (i:Nat)=>ref14_Same_g1 a b (List.drop i a.after) i=R∧i<=a.after.length) (fun i=>a.after.length - i) (fun i=>[(2,AVal.ptr 0 0 20 0 0),(3,AVal.ptr 1 0 20 0 0),(4,Bo false),(5,I (i:Int))]) (fun i=>[(0,AObj.row 35 20 [[I a.id,Sg a.name,Sg a.user,Sg a.account,I a.shape.kind,altL a.shape.alts,I a.shape.min,I a.shape.max,I a.shape.wall,I a.prio,depL a.after,I a.state,Bo a.held,I a.born,I a.promise,I a.choice,I a.start,I a.limit,U a.nodes,I a.used]]),(0,AObj.row 35 20 [[I b.id,Sg b.name,Sg b.user,Sg b.account,I b.shape.kind,altL b.shape.alts,I b.shape.min,I b.shape.max,I b.shape.wall,I b.prio,depL b.after,I b.state,Bo b.held,I b.born,I b.promise,I b.choice,I b.start,I b.limit,U b.nodes,I b.used]])]) 0 (wk [0,1] (tO rfl (ts Job.lo) (tO rfl (ts Job.lo) .nil)) (sv (Q30 0 rfl rfl) (sv (Q30 1 rfl rfl) (s1 (s1 .nil))))) ⟨foll hR (cf h2 rfl),by exact omA⟩ ?_;clear hR;rintro i ⟨hR,hj⟩;(try dsimp only at hR hj);refine ai (fun h3=>?_) (fun h4=>?_)
  ·have hlt:=ltA h3;rw [Qc0 Dep.zero hlt] at hR;refine dchk (by kernel_rfl) ?_;refine ai gkA ?_;refine ai gkA ?_;refine ai (fun _=>(by kernel_rfl:eqOK _ _=true)) ?_;(repeat ((first|refine ai rfl ?_|refine ai (fun _=>rfl) ?_)));refine ai (fun h5=>?_) (fun h6=>?_)
   ·obtain rfl:=foll hR (ct h5 rfl);exact Q00 lx sr
   ·exact Qn0 (i+1) (wk [0,1] (tO rfl (ts Job.lo) (tO rfl (ts Job.lo) .nil)) (sv (Q30 0 rfl rfl) (sv (Q30 1 rfl rfl) (s1 (sv (Qb0 (I_eq (wr omA)) lx) .nil))))) omA ⟨foll hR (cf h6 rfl),by exact omA⟩
  ·rw [Qk0 (l:=a.after) (j:=i) (geA h4)] at hR;obtain rfl:=foll hR rfl;exact Q00 lx sr
end Go.Proofs.YtjpgfmbccohngaaGreatDoor
