/-
  Contracts of functions, printed by a program of this repo (wip/dec). No condition beyond those that stand in each.
-/
import Derived.Test.YtcbolcknapeneaaGreatDoorH10
import Derived.Test.YtcbolcknapeneaaGreatDoorH7
import Derived.Test.YtcbolcknapeneaaGreatDoorH6
import Derived.Test.YtcbolcknapeneaaGreatDoorProg
namespace Go.Proofs.YtcbolcknapeneaaGreatDoor
set_option linter.unusedSimpArgs false
set_option linter.unusedVariables false
open Go.Fw
set_option maxRecDepth 20000
set_option maxHeartbeats 4000000
attribute [local irreducible] ACalls AMoves
def QQ6 :List Job->Nat->Bool
 | [],_=>true
 | x_ :: r,i=>bif (!(QP6 x_)) then false else QQ6 r (i+1)
def Q9b (l:List Job):Bool:=bif (decide ((l.length:Int) > 60)) then false else QQ6 l 0
theorem law15_Few_c (l:List Job) (hs0:l.length<=9223372036854775807∧(∀ y ∈ l,y.szM)):GV 41 [jobL l] (Bo (Q9b l)):=by
 generalize hR:Q9b l=R;refine ga (.cons lw .nil) lx (kp 4 [6,10,18]) Tryz.func41 ?_;obtain ⟨z12,z13⟩:=id hs0;refine ai (fun h1=>?_) (fun h2=>?_)
 ·have qh1:=of_decide_eq_true h1;obtain rfl:=foll hR (ct h1 rfl);exact Q00 lx sr
 ·have qh2:=of_decide_eq_false h2;refine Qc0 (fun (i:Nat)=>QQ6 (List.drop i l) i=R∧i<=l.length) (fun i=>l.length - i) (fun i=>[(0,jobL l),(2,Bo false),(3,I (i:Int))]) (fun i=>[]) 0 (wk [] .nil (sl lw (s1 (s1 .nil)))) ⟨foll hR (cf h2 rfl),by exact omA⟩ ?_;clear hR;rintro i ⟨hR,hj⟩;(try dsimp only at hR hj);refine ai (fun h3=>?_) (fun h4=>?_)
  ·have hlt:=ltA h3;rw [Q90 Job.zero hlt] at hR;have hxz:(l.getD i Job.zero).szM:=Qy0 (by first|assumption|grind) (Job.szz _);have hkz:=hxz;obtain ⟨z5,z6,z7,z8,z9⟩:((l.getD i Job.zero).name).size<=9223372036854775807∧((l.getD i Job.zero).user).size<=9223372036854775807∧((l.getD i Job.zero).account).size<=9223372036854775807∧((((l.getD i Job.zero).shape).alts).length<=9223372036854775807)∧((l.getD i Job.zero).after).length<=9223372036854775807:=hxz;refine ai gkA ?_;refine us (QOd (l.getD i Job.zero) _) ?_;refine ai (fun h10=>?_) (fun h11=>?_)
   ·obtain rfl:=foll hR (ct h10 rfl);exact Q00 lx sr
   ·exact Qi0 (i+1) (wk [] .nil (sl lw (s1 (sv (Q80 (I_eq (wr omA)) lx) .nil)))) omA ⟨foll hR (cf h11 rfl),by exact omA⟩
  ·rw [Qf0 (l:=l) (j:=i) (geA h4)] at hR;obtain rfl:=foll hR rfl;exact Q00 lx sr
def QH1 (x_:Node):Bool:=bif ((((decide (x_.epoch<0))||(decide (x_.epoch > 999999999)))||(!(Ql8 x_.since)))||(!(Ql8 x_.asked))) then false else bif (x_.state==0) then ((x_.job==0)&&(Q21 ([0]:List Int) x_.want)) else bif (x_.state==1) then (((decide (x_.job >= 1))&&(decide (x_.job<=99999)))&&(Q21 ([0,1,3,4]:List Int) x_.want)) else bif (x_.state==2) then (((decide (x_.job >= 1))&&(decide (x_.job<=99999)))&&(Q21 ([0,2]:List Int) x_.want)) else bif (x_.state==3) then (((decide (x_.job >= 1))&&(decide (x_.job<=99999)))&&(Q21 ([5]:List Int) x_.want)) else bif (x_.state==4) then ((x_.job==0)&&(Q21 ([0,6]:List Int) x_.want)) else false
theorem fleet_fine_c (x_:Node):GV 243 [Node.a x_] (Bo (QH1 x_)):=by
 generalize hR:QH1 x_=R;refine ga (.cons (Node.low _ _) .nil) lx (kp 5 [24,35,36,41,44,47,50]) Tryz.func243 ?_;(first|apply u2|apply u3|apply u4|apply us);exact Qec x_.since _;(first|apply u2|apply u3|apply u4|apply us);exact Qec x_.asked _;refine ai (fun h1=>?_) (fun h2=>?_)
 ·obtain rfl:=foll hR (ct h1 rfl);exact Q00 lx sr
 ·refine Or.inl ?_;refine ai (fun h3=>?_) (fun h4=>?_)
  ·(first|apply u2|apply u3|apply u4|apply us);exact AGives.as2 (QB1 ([0]:List Int) x_.want szA _) (av (Qf4 (c:=(fun q_=>[I q_])) (d:=0) ([0]:List Int) rfl) (a1 .nil));obtain rfl:=foll hR (cf h2 (ct h3 rfl));exact Q00 lx sr
  ·refine ai (fun h5=>?_) (fun h6=>?_)
   ·refine Or.inl ?_;(first|apply u2|apply u3|apply u4|apply us);exact AGives.as2 (QB1 ([0,1,3,4]:List Int) x_.want szA _) (av (Qf4 (c:=(fun q_=>[I q_])) (d:=0) ([0,1,3,4]:List Int) rfl) (a1 .nil));obtain rfl:=foll hR (cf h2 (cf h4 (ct h5 rfl)));exact Q00 lx sr
   ·refine ai (fun h7=>?_) (fun h8=>?_)
    ·refine Or.inl ?_;(first|apply u2|apply u3|apply u4|apply us);exact AGives.as2 (QB1 ([0,2]:List Int) x_.want szA _) (av (Qf4 (c:=(fun q_=>[I q_])) (d:=0) ([0,2]:List Int) rfl) (a1 .nil));obtain rfl:=foll hR (cf h2 (cf h4 (cf h6 (ct h7 rfl))));exact Q00 lx sr
    ·refine ai (fun h9=>?_) (fun h10=>?_)
     ·refine Or.inl ?_;(first|apply u2|apply u3|apply u4|apply us);exact AGives.as2 (QB1 ([5]:List Int) x_.want szA _) (av (Qf4 (c:=(fun q_=>[I q_])) (d:=0) ([5]:List Int) rfl) (a1 .nil));obtain rfl:=foll hR (cf h2 (cf h4 (cf h6 (cf h8 (ct h9 rfl)))));exact Q00 lx sr
     ·refine ai (fun h11=>?_) (fun h12=>?_)
      ·refine Or.inl ?_;(first|apply u2|apply u3|apply u4|apply us);exact AGives.as2 (QB1 ([0,6]:List Int) x_.want szA _) (av (Qf4 (c:=(fun q_=>[I q_])) (d:=0) ([0,6]:List Int) rfl) (a1 .nil));obtain rfl:=foll hR (cf h2 (cf h4 (cf h6 (cf h8 (cf h10 (ct h11 rfl))))));exact Q00 lx sr
      ·obtain rfl:=foll hR (cf h2 (cf h4 (cf h6 (cf h8 (cf h10 (cf h12 rfl))))));exact Q00 lx sr
def Qt5 (l:List Alt):List Alt->Nat->Bool
 | [],_=>true
 | x_ :: r,i=>bif (QK0 (List.take i l) (fun (y:Alt)=>(x_.nodes==y.nodes))) then false else Qt5 l r (i+1)
def Q15 (l:List Alt):Bool:=Qt5 l l 0
theorem shape_apart_c (l:List Alt) (hs0:l.length<=4294967296):GV 216 [altL l] (Bo (Q15 l)):=by
 generalize hR:Q15 l=R;refine ga (.cons lw .nil) lx (kp 5 [5,6,7,8,16]) Tryz.func216 ?_;have hk0:=hs0;obtain z9:l.length<=4294967296:=hs0;refine Qc0 (fun (i:Nat)=>Qt5 l (List.drop i l) i=R∧i<=l.length) (fun i=>l.length - i) (fun i=>[(0,altL l),(2,Bo false),(5,altL l),(6,I (l.length:Int)),(7,I (i:Int))]) (fun i=>[]) 0 (wk [] .nil (sl lw (s1 (sl lw (s1 (s1 .nil)))))) ⟨foll hR rfl,by exact omA⟩ ?_;clear hR;rintro i ⟨hR,hj⟩;(try dsimp only at hR hj);refine ai (fun h1=>?_) (fun h2=>?_)
 ·have hlt:=ltA h1;rw [Q90 Alt.zero hlt] at hR;refine ai gkA ?_;refine ai gkA ?_;have cl1:∀ (y1:Alt),AMoves Tryz.prog 295 [Alt.a y1,AVal.ptr 0 0 2 0 0] [(0,AObj.row 179 2 [[I (l.getD i Alt.zero).nodes,I (l.getD i Alt.zero).wall]])] 1 (Bo ((fun (y:Alt)=>((l.getD i Alt.zero).nodes==y.nodes)) y1)) [(0,AObj.row 179 2 [[I (l.getD i Alt.zero).nodes,I (l.getD i Alt.zero).wall]])]:=by
   intro y1;have hR:(fun (y:Alt)=>((l.getD i Alt.zero).nodes==y.nodes)) y1=(fun (y:Alt)=>((l.getD i Alt.zero).nodes==y.nodes)) y1:=rfl;refine mo (kp 4 []) Tryz.func295 ?_;refine Qm0 (fun r:Bool=>Bo r) (fun _=>[(0,AObj.row 179 2 [[I (l.getD i Alt.zero).nodes,I (l.getD i Alt.zero).wall]])]) (leaf:=((l.getD i Alt.zero).nodes==y1.nodes)) (foll hR rfl) ?_;exact tt [0] (tO rfl (ts Alt.lo) .nil) t1
  have hof1:AMoves Tryz.prog 217 [altL (List.take i l),AVal.fn (.func 295) [] [AVal.ptr 0 0 2 0 0]] [(0,AObj.row 179 2 [[I (l.getD i Alt.zero).nodes,I (l.getD i Alt.zero).wall]])] 1 (Bo (QK0 (List.take i l) (fun (y:Alt)=>((l.getD i Alt.zero).nodes==y.nodes)))) [(0,AObj.row 179 2 [[I (l.getD i Alt.zero).nodes,I (l.getD i Alt.zero).wall]])]:=by
   have hR:QK0 (List.take i l) (fun (y:Alt)=>((l.getD i Alt.zero).nodes==y.nodes))=QK0 (List.take i l) (fun (y:Alt)=>((l.getD i Alt.zero).nodes==y.nodes)):=rfl;refine mo (kp 5 []) Tryz.func217 ?_;have hof2:AMoves Tryz.prog 296 [altL (List.take i l),AVal.fn (.func 295) [] [AVal.ptr 0 0 2 0 0]] [(0,AObj.row 179 2 [[I (l.getD i Alt.zero).nodes,I (l.getD i Alt.zero).wall]])] 1 (I (QT0 (List.take i l) (fun (y:Alt)=>((l.getD i Alt.zero).nodes==y.nodes)))) [(0,AObj.row 179 2 [[I (l.getD i Alt.zero).nodes,I (l.getD i Alt.zero).wall]])]:=by
    have hR:QT0 (List.take i l) (fun (y:Alt)=>((l.getD i Alt.zero).nodes==y.nodes))=QT0 (List.take i l) (fun (y:Alt)=>((l.getD i Alt.zero).nodes==y.nodes)):=rfl;refine mo (kp 6 [7,8,9,16]) Tryz.func296 ?_;refine Qc0 (fun (i1:Nat)=>QR2 (fun (y:Alt)=>((l.getD i Alt.zero).nodes==y.nodes)) (List.drop i1 (List.take i l)) i1=QT0 (List.take i l) (fun (y:Alt)=>((l.getD i Alt.zero).nodes==y.nodes))∧i1<=(List.take i l).length) (fun i1=>(List.take i l).length - i1) (fun i1=>[(0,altL (List.take i l)),(1,AVal.fn (.func 295) [] [AVal.ptr 0 0 2 0 0]),(4,I 0),(7,I ((List.take i l).length:Int)),(8,I (i1:Int))]) (fun i1=>[(0,AObj.row 179 2 [[I (l.getD i Alt.zero).nodes,I (l.getD i Alt.zero).wall]])]) 0 (wk [0] (tO rfl (ts Alt.lo) .nil) (sl lw (sv (QH0 .nil (cv (Q10 0 rfl rfl) .nil)) (s1 (s1 (s1 .nil)))))) ⟨foll hR rfl,by exact omA⟩ ?_;clear hR;rintro i1 ⟨hR,hj⟩;(try dsimp only at hR hj);refine ai (fun h3=>?_) (fun h4=>?_)
    ·have hlt:=ltA h3;rw [Q90 Alt.zero hlt] at hR;refine ai gkA ?_;refine us (mv [0] (cl1 ((List.take i l).getD i1 Alt.zero)) (dO (ds Alt.lo) .nil) (dl (Alt.low _ _) (dp .nil)) (rO (re Alt.lo) .nil) rx) ?_;refine ai (fun h5=>?_) (fun h6=>?_)
     ·refine Qm0 (fun r:Int=>I r) (fun r:Int=>[(0,AObj.row 179 2 [[I (l.getD i Alt.zero).nodes,I (l.getD i Alt.zero).wall]])]) (leaf:=(i1:Int)) (foll hR (ct h5 rfl)) ?_;exact tt [0] (tO rfl (ts Alt.lo) .nil) t1
     ·exact Qi0 (i1+1) (wk [0] (tO rfl (ts Alt.lo) .nil) (sl lw (sv (QH0 .nil (cv (Q10 0 rfl rfl) .nil)) (s1 (s1 (sv (Q80 (I_eq (wr omA)) lx) .nil)))))) omA ⟨foll hR (cf h6 rfl),by exact omA⟩
    ·rw [Qf0 (l:=(List.take i l)) (j:=i1) (geA h4)] at hR;refine Qm0 (fun r:Int=>I r) (fun r:Int=>[(0,AObj.row 179 2 [[I (l.getD i Alt.zero).nodes,I (l.getD i Alt.zero).wall]])]) (leaf:=(-1)) (foll hR rfl) ?_;exact tt [0] (tO rfl (ts Alt.lo) .nil) t1
   refine us (mv [0] (hof2) (dO (ds Alt.lo) .nil) (dl lw (dv (dn_fn .nil (dp .nil)) .nil)) (rO (re Alt.lo) .nil) rx) ?_;refine Qm0 (fun r:Bool=>Bo r) (fun r:Bool=>[(0,AObj.row 179 2 [[I (l.getD i Alt.zero).nodes,I (l.getD i Alt.zero).wall]])]) (leaf:=(decide ((QT0 (List.take i l) (fun (y:Alt)=>((l.getD i Alt.zero).nodes==y.nodes))) >= 0))) (foll hR rfl) ?_;exact tt [0] (tO rfl (ts Alt.lo) .nil) t1
  refine us (mv [0] (hof1) (dO (ds Alt.lo) .nil) (dv (dn_as (as_take l i ckA) lw) (dv (dn_fn .nil (dp .nil)) .nil)) (rO (re Alt.lo) .nil) rx) ?_;refine ai (fun h7=>?_) (fun h8=>?_)
  ·obtain rfl:=foll hR (ct h7 rfl);exact Q00 lx sr
  ·exact Qi0 (i+1) (wk [] .nil (sl lw (s1 (sl lw (s1 (sv (Q80 (I_eq (wr omA)) lx) .nil)))))) omA ⟨foll hR (cf h8 rfl),by exact omA⟩
 ·rw [Qf0 (l:=l) (j:=i) (geA h2)] at hR;obtain rfl:=foll hR rfl;exact Q00 lx sr
def Q55 (s:ByteArray):Bool:=(((Qp4 s).2==0)&&(Qt2 ((Qp4 s).1) 1 16))
theorem QIb (s:ByteArray) (hs0:s.size<=4294967296):GV 254 [Sg s] (Bo (Q55 s)):=by
 generalize hR:Q55 s=R;refine ga (l1 .nil) lx (kp 5 []) Tryz.func254 ?_;have hk0:=hs0;obtain z1:s.size<=4294967296:=hs0;refine us (Qsb s szA _) ?_;(first|apply u2|apply u3|apply u4|apply us);exact QV2 ((Qp4 s).1) 1 16 _;obtain rfl:=foll hR rfl;exact Q00 lx sr
def Qr6 (s:ByteArray):Int × Bool:=bif (((!(Qj7 s))||(decide ((ByteArray.size s:Int) > 9)))||((decide ((ByteArray.size s:Int) > 1))&&(((s.data.toList.getD 0 0).toNat:Int)==48))) then (0,false) else ((QI9 s).1,true)
theorem lex_number_c (s:ByteArray) (hs0:s.size<=4294967296):GV 393 [Sg s] (AVal.tup [I ((Qr6 s).1),Bo ((Qr6 s).2)]):=by
 generalize hR:Qr6 s=R;refine ga (l1 .nil) (Low.tup' (l1 (l1 .nil))) (kp 6 [23]) Tryz.func393 ?_;have hk0:=hs0;obtain z3:s.size<=4294967296:=hs0;refine us (Qmc s szA _) ?_;refine ai gkA ?_;refine ai (fun h1=>?_) (fun h2=>?_)
 ·obtain rfl:=foll hR (ct h1 rfl);exact Q00 (Low.tup' (l1 (l1 .nil))) (Seen.tup (e1 (e1 .nil)))
 ·refine us (strconv_Atoi_c s szA (by exact lex_digits_ok (by assumption)) _) ?_;refine dchk (by kernel_rfl) ?_;(repeat ((first|refine ai rfl ?_|refine ai (fun _=>rfl) ?_)));obtain rfl:=foll hR (cf h2 rfl);exact Q00 (Low.tup' (l1 (l1 .nil))) (Seen.tup (e1 (e1 .nil)))
theorem Q7d (l:List Int) (r_:Int) (hl:l.length<=4294967296):AMoves Tryz.prog 384 [.ptr 0 0 2 0 0,J r_] [(0,.row 384 2 [[.sel 0 0 2 0 0,.own 1 0 1 0 l.length]]),(0,Q45 l)] 1 (.tup [I (w64 (((QD0 l r_).length:Int) - (l.length:Int))),.lit .nilIface]) [(0,.row 384 2 [[.ptr 0 0 2 0 0,.own 1 0 1 0 (QD0 l r_).length]]),(0,Q45 (QD0 l r_))]:=by
 refine AMoves.of_cwp (fun t=>Nat.ble 1000000 t||Nat.blt t 7) Tryz.func384 rfl rfl rfl ?_
 refine us (AMoves.on [0,1] (copyCheck_m bldT0 (x:=.own 1 0 1 0 l.length) (rest:=[(0,Q45 l)]) (n0:=2) (by simp)) (by decide) rfl rfl rfl (.cons _ _ _ _ (.row1 _ _ _ _ (.cons _ _ _ _ (dn_sel rfl) (.cons _ _ _ _ (dn_own rfl) .nil))) (.cons _ _ _ _ (.same _ (QB7 fun _=>lowL1 rfl)) .nil)) rfl (.cons _ _ _ _ (dn_ptr rfl) .nil) (.cons _ _ _ _ (RenO.row1 _ _ _ _ (.cons _ _ _ _ (Ren.ptr _ _ _ _ _ _ rfl) (.cons _ _ _ _ (Ren.own _ _ _ _ _ _ rfl) .nil))) (.cons _ _ _ _ (RenO.same _ (QB7 fun _=>lowL1 rfl)) .nil)) (Ren.low _ (.tup _ (fun x h=>nomatch h)))) ?_
 refine us (AMoves.on [1] (Q8c l r_ hl) (by decide) rfl rfl rfl (.cons _ _ _ _ (dn_row rfl (QB7 fun _=>lowL1 rfl)) .nil) rfl (.cons _ _ _ _ (QW6 rfl rfl) (.cons _ _ _ _ (Qs7 (Qa3 rfl)) .nil)) (.cons _ _ _ _ (RenO.same _ (QB7 fun _=>lowL1 rfl)) .nil) (Ren.own _ _ _ _ _ _ rfl)) ?_
 refine Qm0 (fun _:Unit=>.tup [I (w64 (((QD0 l r_).length:Int) - (l.length:Int))),.lit .nilIface]) (fun _:Unit=>[(0,.row 384 2 [[.ptr 0 0 2 0 0,.own 1 0 1 0 (QD0 l r_).length]]),(0,Q45 (QD0 l r_))]) (leaf:=()) rfl ?_
 exact QP4 [0,2] rfl (by decide) (.cons 0 _ _ _ _ rfl (Qd0 (.cons _ _ _ _ (Q10 0 rfl rfl) (.cons _ _ _ _ (Q4d 1 rfl rfl rfl) .nil))) (.cons 2 _ _ _ _ rfl (QDb rfl (QB7 fun _=>lowL1 rfl)) .nil)) (turn_tup (.cons _ _ _ _ (Qq0 (Qa3 rfl)) (.cons _ _ _ _ (Qq0 (Qa3 rfl)) .nil)))
def QS4 (l:List Dep):List Dep->Nat->Bool
 | [],_=>(decide ((l.length:Int)<=4))
 | x_ :: r,i=>bif (((!(Qt2 x_.how 1 3))||(!(Q9c x_.job)))||(Qt0 (List.take i l) (fun (y:Dep)=>(y.job==x_.job)))) then false else QS4 l r (i+1)
def Q47 (l:List Dep):Bool:=QS4 l l 0
theorem cmd_deps_c (l:List Dep) (hs0:l.length<=4294967296):GV 256 [depL l] (Bo (Q47 l)):=by
 generalize hR:Q47 l=R;refine ga (.cons lw .nil) lx (kp 6 [6,7,8,9,30]) Tryz.func256 ?_;have hk0:=hs0;obtain z9:l.length<=4294967296:=hs0;refine Qc0 (fun (i:Nat)=>QS4 l (List.drop i l) i=R∧i<=l.length) (fun i=>l.length - i) (fun i=>[(0,depL l),(2,Bo false),(6,depL l),(7,I (l.length:Int)),(8,I (i:Int))]) (fun i=>[]) 0 (wk [] .nil (sl lw (s1 (sl lw (s1 (s1 .nil)))))) ⟨foll hR rfl,by exact omA⟩ ?_;clear hR;rintro i ⟨hR,hj⟩;(try dsimp only at hR hj);refine ai (fun h1=>?_) (fun h2=>?_)
 ·have hlt:=ltA h1;rw [Q90 Dep.zero hlt] at hR;refine ai gkA ?_;refine ai gkA ?_;have cl1:∀ (y1:Dep),AMoves Tryz.prog 312 [Dep.a y1,AVal.ptr 0 0 2 0 0] [(0,AObj.row 111 2 [[I (l.getD i Dep.zero).how,I (l.getD i Dep.zero).job]])] 1 (Bo ((fun (y:Dep)=>(y.job==(l.getD i Dep.zero).job)) y1)) [(0,AObj.row 111 2 [[I (l.getD i Dep.zero).how,I (l.getD i Dep.zero).job]])]:=by
   intro y1;have hR:(fun (y:Dep)=>(y.job==(l.getD i Dep.zero).job)) y1=(fun (y:Dep)=>(y.job==(l.getD i Dep.zero).job)) y1:=rfl;refine mo (kp 4 []) Tryz.func312 ?_;refine Qm0 (fun r:Bool=>Bo r) (fun _=>[(0,AObj.row 111 2 [[I (l.getD i Dep.zero).how,I (l.getD i Dep.zero).job]])]) (leaf:=(y1.job==(l.getD i Dep.zero).job)) (foll hR rfl) ?_;exact tt [0] (tO rfl (ts Dep.lo) .nil) t1
  have hof1:AMoves Tryz.prog 76 [depL (List.take i l),AVal.fn (.func 312) [] [AVal.ptr 0 0 2 0 0]] [(0,AObj.row 111 2 [[I (l.getD i Dep.zero).how,I (l.getD i Dep.zero).job]])] 1 (Bo (Qt0 (List.take i l) (fun (y:Dep)=>(y.job==(l.getD i Dep.zero).job)))) [(0,AObj.row 111 2 [[I (l.getD i Dep.zero).how,I (l.getD i Dep.zero).job]])]:=by
   have hR:Qt0 (List.take i l) (fun (y:Dep)=>(y.job==(l.getD i Dep.zero).job))=Qt0 (List.take i l) (fun (y:Dep)=>(y.job==(l.getD i Dep.zero).job)):=rfl;refine mo (kp 5 []) Tryz.func76 ?_;have hof2:AMoves Tryz.prog 175 [depL (List.take i l),AVal.fn (.func 312) [] [AVal.ptr 0 0 2 0 0]] [(0,AObj.row 111 2 [[I (l.getD i Dep.zero).how,I (l.getD i Dep.zero).job]])] 1 (I (QU0 (List.take i l) (fun (y:Dep)=>(y.job==(l.getD i Dep.zero).job)))) [(0,AObj.row 111 2 [[I (l.getD i Dep.zero).how,I (l.getD i Dep.zero).job]])]:=by
    have hR:QU0 (List.take i l) (fun (y:Dep)=>(y.job==(l.getD i Dep.zero).job))=QU0 (List.take i l) (fun (y:Dep)=>(y.job==(l.getD i Dep.zero).job)):=rfl;refine mo (kp 6 [7,8,9,16]) Tryz.func175 ?_;refine Qc0 (fun (i1:Nat)=>QS2 (fun (y:Dep)=>(y.job==(l.getD i Dep.zero).job)) (List.drop i1 (List.take i l)) i1=QU0 (List.take i l) (fun (y:Dep)=>(y.job==(l.getD i Dep.zero).job))∧i1<=(List.take i l).length) (fun i1=>(List.take i l).length - i1) (fun i1=>[(0,depL (List.take i l)),(1,AVal.fn (.func 312) [] [AVal.ptr 0 0 2 0 0]),(4,I 0),(7,I ((List.take i l).length:Int)),(8,I (i1:Int))]) (fun i1=>[(0,AObj.row 111 2 [[I (l.getD i Dep.zero).how,I (l.getD i Dep.zero).job]])]) 0 (wk [0] (tO rfl (ts Dep.lo) .nil) (sl lw (sv (QH0 .nil (cv (Q10 0 rfl rfl) .nil)) (s1 (s1 (s1 .nil)))))) ⟨foll hR rfl,by exact omA⟩ ?_;clear hR;rintro i1 ⟨hR,hj⟩;(try dsimp only at hR hj);refine ai (fun h3=>?_) (fun h4=>?_)
    ·have hlt:=ltA h3;rw [Q90 Dep.zero hlt] at hR;refine ai gkA ?_;refine us (mv [0] (cl1 ((List.take i l).getD i1 Dep.zero)) (dO (ds Dep.lo) .nil) (dl (Dep.low _ _) (dp .nil)) (rO (re Dep.lo) .nil) rx) ?_;refine ai (fun h5=>?_) (fun h6=>?_)
     ·refine Qm0 (fun r:Int=>I r) (fun r:Int=>[(0,AObj.row 111 2 [[I (l.getD i Dep.zero).how,I (l.getD i Dep.zero).job]])]) (leaf:=(i1:Int)) (foll hR (ct h5 rfl)) ?_;exact tt [0] (tO rfl (ts Dep.lo) .nil) t1
     ·exact Qi0 (i1+1) (wk [0] (tO rfl (ts Dep.lo) .nil) (sl lw (sv (QH0 .nil (cv (Q10 0 rfl rfl) .nil)) (s1 (s1 (sv (Q80 (I_eq (wr omA)) lx) .nil)))))) omA ⟨foll hR (cf h6 rfl),by exact omA⟩
    ·rw [Qf0 (l:=(List.take i l)) (j:=i1) (geA h4)] at hR;refine Qm0 (fun r:Int=>I r) (fun r:Int=>[(0,AObj.row 111 2 [[I (l.getD i Dep.zero).how,I (l.getD i Dep.zero).job]])]) (leaf:=(-1)) (foll hR rfl) ?_;exact tt [0] (tO rfl (ts Dep.lo) .nil) t1
   refine us (mv [0] (hof2) (dO (ds Dep.lo) .nil) (dl lw (dv (dn_fn .nil (dp .nil)) .nil)) (rO (re Dep.lo) .nil) rx) ?_;refine Qm0 (fun r:Bool=>Bo r) (fun r:Bool=>[(0,AObj.row 111 2 [[I (l.getD i Dep.zero).how,I (l.getD i Dep.zero).job]])]) (leaf:=(decide ((QU0 (List.take i l) (fun (y:Dep)=>(y.job==(l.getD i Dep.zero).job))) >= 0))) (foll hR rfl) ?_;exact tt [0] (tO rfl (ts Dep.lo) .nil) t1
  refine us (mv [0] (hof1) (dO (ds Dep.lo) .nil) (dv (dn_as (as_take l i ckA) lw) (dv (dn_fn .nil (dp .nil)) .nil)) (rO (re Dep.lo) .nil) rx) ?_;refine us (QV2 ((l.getD i Dep.zero).how) 1 3 _) ?_;(first|apply u2|apply u3|apply u4|apply us);exact QVc ((l.getD i Dep.zero).job) _;refine ai (fun h7=>?_) (fun h8=>?_)
  ·obtain rfl:=foll hR (ct h7 rfl);exact Q00 lx sr
  ·exact Qi0 (i+1) (wk [] .nil (sl lw (s1 (sl lw (s1 (sv (Q80 (I_eq (wr omA)) lx) .nil)))))) omA ⟨foll hR (cf h8 rfl),by exact omA⟩
 ·rw [Qf0 (l:=l) (j:=i) (geA h2)] at hR;obtain rfl:=foll hR rfl;exact Q00 lx sr
def QNa (a:Cmd) (b:Cmd):Bool:=bif ((!(Qu8 a.shape b.shape))||(!(QC5 a.after b.after))) then false else ((((((((((((a.kind==b.kind)&&(a.job==b.job))&&(ByteArray.toList a.name==ByteArray.toList b.name))&&(ByteArray.toList a.user==ByteArray.toList b.user))&&(ByteArray.toList a.account==ByteArray.toList b.account))&&(a.prio==b.prio))&&(a.hasPrio==b.hasPrio))&&(a.time==b.time))&&(a.hasTime==b.hasTime))&&(a.node==b.node))&&(a.nodes==b.nodes))&&(a.from_==b.from_))
theorem cmd_Same_c (a:Cmd) (b:Cmd) (hs0:a.sz) (hs1:b.sz):GV 173 [Cmd.a a,Cmd.a b] (Bo (QNa a b)):=by
 generalize hR:QNa a b=R;refine ga (.cons (Cmd.low _ _) (.cons (Cmd.low _ _) .nil)) lx (kp 5 [18]) Tryz.func173 ?_;have hk0:=hs0;obtain ⟨z3,z4,z5,z6,z7⟩:a.name.size<=4294967296∧a.user.size<=4294967296∧a.account.size<=4294967296∧(a.shape.alts.length<=4294967296)∧a.after.length<=4294967296:=hs0;have hk1:=hs1;obtain ⟨z8,z9,z10,z11,z12⟩:b.name.size<=4294967296∧b.user.size<=4294967296∧b.account.size<=4294967296∧(b.shape.alts.length<=4294967296)∧b.after.length<=4294967296:=hs1;refine us (shape_Same_c a.shape b.shape szA szA _) ?_;(first|apply u2|apply u3|apply u4|apply us);exact Qxb a.after b.after szA szA _;refine ai (fun h1=>?_) (fun h2=>?_)
 ·obtain rfl:=foll hR (ct h1 rfl);exact Q00 lx sr
 ·obtain rfl:=foll hR (cf h2 rfl);exact Q00 lx sr
def Qg9 (set_:Int):Bool:=((wu64 (BitVec.ofInt 64 set_ &&& ~~~(BitVec.ofInt 64 (Qh4 48))).toNat)==0)
theorem QKd (set_:Int):GV 176 [U set_] (Bo (Qg9 set_)):=by
 generalize hR:Qg9 set_=R;refine ga (l1 .nil) lx (kp 3 []) Tryz.func176 ?_;refine us (nodeset_All_c 48 _) ?_;obtain rfl:=foll hR rfl;exact Q00 lx sr
def QS6 (a:Usage) (b:Usage):Int:=(QL9 ([(QQ0 a.user b.user),(QQ0 a.account b.account)]:List Int))
theorem Qba (a:Usage) (b:Usage) (hs0:a.sz) (hs1:b.sz):GV 159 [Usage.a a,Usage.a b] (I (QS6 a b)):=by
 generalize hR:QS6 a b=R;refine ga (.cons (Usage.low _ _) (.cons (Usage.low _ _) .nil)) lx (kp 5 []) Tryz.func159 ?_;obtain ⟨z1,z2⟩:=Usage.zz hs0;obtain ⟨z3,z4⟩:=Usage.zz hs1;refine dchk (by kernel_rfl) ?_;(first|apply u2|apply u3|apply u4|apply us);exact QV3 a.user b.user _;(first|apply u2|apply u3|apply u4|apply us);exact QV3 a.account b.account _;(first|apply u2|apply u3|apply u4|apply us);exact AGives.as2 (Qac ([(QQ0 a.user b.user),(QQ0 a.account b.account)]:List Int) szA _) (av (Qf4 (c:=(fun q_=>[I q_])) (d:=0) ([(QQ0 a.user b.user),(QQ0 a.account b.account)]:List Int) rfl) .nil);(repeat ((first|refine ai rfl ?_|refine ai (fun _=>rfl) ?_|refine ai (fun _=>QV3 a.user b.user _) ?_|refine ai (fun _=>QV3 a.account b.account _) ?_|refine ai (fun _=>AGives.as2 (Qac ([(QQ0 a.user b.user),(QQ0 a.account b.account)]:List Int) szA _) (av (Qf4 (c:=(fun q_=>[I q_])) (d:=0) ([(QQ0 a.user b.user),(QQ0 a.account b.account)]:List Int) rfl) .nil)) ?_)));obtain rfl:=foll hR rfl;exact Q00 lx sr
def QU4 (p_:List Step) (long nodes at_:Int) (i:Nat):Int × Bool:=bif (decide (at_ > (w64 (1000000 - long)))) then (0,false) else ear long nodes (List.drop i p_) at_
def QB2 (p_:List Step) (from_ long nodes:Int):Int × Bool:=bif (((Qu1 p_)!=0)||(!(QW3 long nodes))) then (0,false) else QU4 p_ long nodes (max from_ 0) 0
theorem ear_step (long n a:Int) (p:List Step) (i:Nat) (hi:i<p.length) (hp:p.length<=4294967296) (h:(p.getD i Step.zero).at_<w64 (a+long)) :
  (((decide ((p.getD i Step.zero).free >= n))||((!((w64 ((i:Int)+1))==(p.length:Int)))&&(decide ((p.getD (Int.toNat (w64 ((i:Int)+1))) Step.zero).at_<=a))))=true->ear long n (List.drop i p) a=ear long n (List.drop (i+1) p) a) ∧
  (((decide ((p.getD i Step.zero).free >= n))||((!((w64 ((i:Int)+1))==(p.length:Int)))&&(decide ((p.getD (Int.toNat (w64 ((i:Int)+1))) Step.zero).at_<=a))))=false ->
   (((w64 ((i:Int)+1))==(p.length:Int))=true->ear long n (List.drop i p) a=(0,false))∧(((w64 ((i:Int)+1))==(p.length:Int))=false->i+1<p.length∧ear long n (List.drop i p) a=QU4 p long n (p.getD (i+1) Step.zero).at_ (i+1))):=by
 have hw:w64 ((i:Int)+1)=((i+1:Nat):Int):=wr (by omega)
 rw [hw,Q90 Step.zero hi]
 simp only [Int.toNat_natCast]
 have e:∀ r,ear long n (p.getD i Step.zero :: r) a=bif decide ((p.getD i Step.zero).free >= n) then ear long n r a else match r with | []=>(0,false)|y :: _=>bif decide (y.at_<=a) then ear long n r a else bif decide (y.at_ > w64 (1000000 - long)) then (0,false) else ear long n r y.at_:=by
  intro r
  rw [ear_cons,decide_eq_true h]
  rfl
 rw [e]
 cases decide ((p.getD i Step.zero).free >= n) with
 | true=>exact ⟨fun _=>rfl,fun h=>nomatch h⟩
 | false =>
  rcases Nat.lt_or_ge (i+1) p.length with hl|hl
  ·have hb:(((i+1:Nat):Int)==(p.length:Int))=false:=by simp;omega
   rw [hb,Q90 Step.zero hl]
   cases hc:decide ((p.getD (i+1) Step.zero).at_<=a) with
   | true=>exact ⟨fun _=>by simp only [cond_false,hc,cond_true],fun h=>nomatch h⟩
   | false =>
    refine ⟨fun h=>(nomatch h),fun _=>⟨fun h=>(nomatch h),fun _=>⟨hl,?_⟩⟩⟩
    unfold QU4
    rw [Q90 Step.zero hl]
    simp only [cond_false,hc]
  ·have hb:(((i+1:Nat):Int)==(p.length:Int))=true:=by simp;omega
   rw [hb,List.drop_eq_nil_of_le hl]
   exact ⟨fun h=>(by cases h),fun _=>⟨fun _=>rfl,fun h=>nomatch h⟩⟩
theorem ear_end {long n a:Int} {p:List Step} {i:Nat} (hi:i<=p.length) (h:((decide ((i:Int)<(p.length:Int)))&&(decide ((p.getD i Step.zero).at_<w64 (a+long))))=false):ear long n (List.drop i p) a=(a,true):=by
 rcases Nat.lt_or_ge i p.length with hl|hl
 ·rw [Q90 Step.zero hl,ear_cons]
  rw [show decide ((i:Int)<(p.length:Int))=true from decide_eq_true (by omega),Bool.true_and] at h
  rw [h]
  rfl
 ·rw [List.drop_eq_nil_of_le hl]
  rfl
theorem fit_Earliest_c (p_:List Step) (from_ long nodes:Int) (hs0:p_.length<=4294967296):GV 133 [stepL p_,I from_,I long,I nodes] (AVal.tup [I (QB2 p_ from_ long nodes).1,Bo (QB2 p_ from_ long nodes).2]):=by
 generalize hR:QB2 p_ from_ long nodes=R;refine ga (.cons lw (l1 (l1 (l1 .nil)))) (Low.tup' (l1 (l1 .nil))) (kj [3000001] 13 [21,27,42,70,71]) Tryz.func133 ?_;have hk0:=hs0;refine scope_start2 (keep:=kj [3000001] 13 [21,27,42,70,71]) 0 (p_.length+1) (fun (at_:Int) (i:Nat)=>QU4 p_ long nodes at_ i=R∧i<=p_.length) (fun at_ i=>p_.length - i) (fun at_ i=>[(0,stepL p_),(2,I long),(3,I nodes),(8,I 0),(9,Bo false),(10,I at_),(11,I (i:Int))]) (fun _ _=>[]) rfl ?_ ?_
 ·clear hR;rintro at_ i0 ⟨hR,hi0⟩;refine ai (fun h1=>?_) (fun h2=>?_)
  ·obtain rfl:=foll hR (ct h1 rfl);exact Q00 (Low.tup' (l1 (l1 .nil))) sr
  ·refine Qc0 (fun (i:Nat)=>ear long nodes (List.drop i p_) at_=R∧i<=p_.length∧i0<=i) (fun i=>p_.length - i) (fun i=>[(0,stepL p_),(2,I long),(3,I nodes),(8,I 0),(9,Bo false),(10,I at_),(11,I (i:Int))]) (fun _=>[]) i0 (wk [] .nil (sl lw (s1 (s1 (s1 (s1 (s1 (s1 .nil)))))))) ⟨foll hR (cf h2 rfl),hi0,Nat.le_refl _⟩ ?_;clear hR;rintro i ⟨hR,hj,hq⟩;(try dsimp only at hR hj hq);refine ai gkA ?_;refine ai (fun h3=>?_) (fun h4=>?_)
   ·have h3':=Bool.and_eq_true_iff.1 h3;(have hlt:i<p_.length:=by have:=of_decide_eq_true h3'.1;omega);have hs:=ear_step long nodes at_ p_ i hlt hs0 (of_decide_eq_true h3'.2);have hw1:w64 ((i:Int)+1)=(i:Int)+1:=wr (by omega);refine ai gkA ?_;refine ai gkA ?_;refine ai (fun h5=>?_) (fun h6=>?_)
    ·exact Qi0 (i+1) (wk [] .nil (sl lw (s1 (s1 (s1 (s1 (s1 (sv (Q80 (I_eq (wr omA)) lx) .nil)))))))) omA ⟨(hs.1 h5).symm.trans hR,hlt,by omega⟩
    ·refine ai (fun h7=>?_) (fun h8=>?_)
     ·obtain rfl:=((hs.2 h6).1 h7).symm.trans hR;exact Q00 (Low.tup' (l1 (l1 .nil))) sr
     ·have h8':=(hs.2 h6).2 h8;refine ai gkA ?_;exact ⟨rfl,Q60 ((p_.getD (i+1) Step.zero).at_) (i+1) (wk [] .nil (sl lw (s1 (s1 (s1 (s1 (sv (Q80 (I_eq (by show (p_.getD (Int.toNat (w64 ((i:Int)+1))) Step.zero).at_=_;rw [hw1];rfl)) lx) (sv (Q80 (I_eq (wr omA)) lx) .nil)))))))) omA ⟨h8'.2.symm.trans hR,hlt⟩⟩
   ·obtain rfl:=(ear_end hj h4).symm.trans hR;exact Q00 (Low.tup' (l1 (l1 .nil))) sr
 ·refine us (QW4 p_ szA _) ?_;(first|apply u2|apply u3|apply u4|apply us);exact QPb long nodes _;refine ai (fun h1=>?_) (fun h2=>?_)
  ·obtain rfl:=foll hR (ct h1 rfl);exact Q00 (Low.tup' (l1 (l1 .nil))) sr
  ·refine ai (fun h3=>?_) (fun h4=>?_)
   ·obtain rfl:=foll hR ((cf h2 rfl).trans (ct h3 rfl));exact Q00 (Low.tup' (l1 (l1 .nil))) sr
   ·refine Qc0 (fun (i:Nat)=>ear long nodes (List.drop i p_) (max from_ 0)=R∧i<=p_.length) (fun i=>p_.length - i) (fun i=>[(0,stepL p_),(2,I long),(3,I nodes),(8,I 0),(9,Bo false),(10,I (max from_ 0)),(11,I (i:Int))]) (fun _=>[]) 0 (wk [] .nil (sl lw (s1 (s1 (s1 (s1 (s1 (s1 .nil)))))))) ⟨foll hR ((cf h2 rfl).trans (cf h4 rfl)),Nat.zero_le _⟩ ?_;clear hR;rintro i ⟨hR,hj⟩;(try dsimp only at hR hj);refine ai gkA ?_;refine ai (fun h3=>?_) (fun h4=>?_)
    ·have h3':=Bool.and_eq_true_iff.1 h3;(have hlt:i<p_.length:=by have:=of_decide_eq_true h3'.1;omega);have hs:=ear_step long nodes (max from_ 0) p_ i hlt hs0 (of_decide_eq_true h3'.2);have hw1:w64 ((i:Int)+1)=(i:Int)+1:=wr (by omega);refine ai gkA ?_;refine ai gkA ?_;refine ai (fun h5=>?_) (fun h6=>?_)
     ·exact Qi0 (i+1) (wk [] .nil (sl lw (s1 (s1 (s1 (s1 (s1 (sv (Q80 (I_eq (wr omA)) lx) .nil)))))))) omA ⟨(hs.1 h5).symm.trans hR,hlt⟩
     ·refine ai (fun h7=>?_) (fun h8=>?_)
      ·obtain rfl:=((hs.2 h6).1 h7).symm.trans hR;exact Q00 (Low.tup' (l1 (l1 .nil))) sr
      ·have h8':=(hs.2 h6).2 h8;refine ai gkA ?_;exact ⟨rfl,Q60 ((p_.getD (i+1) Step.zero).at_) (i+1) (wk [] .nil (sl lw (s1 (s1 (s1 (s1 (sv (Q80 (I_eq (by show (p_.getD (Int.toNat (w64 ((i:Int)+1))) Step.zero).at_=_;rw [hw1];rfl)) lx) (sv (Q80 (I_eq (wr omA)) lx) .nil)))))))) omA ⟨h8'.2.symm.trans hR,hlt⟩⟩
    ·obtain rfl:=(ear_end hj h4).symm.trans hR;exact Q00 (Low.tup' (l1 (l1 .nil))) sr
def Q82 (c4:List Step):(List Step) × Int:=bif ((Qu1 c4)!=0) then ([],3) else (c4,0)
def Qn5 :List Step->Nat->List Step->(List Step)
 | [],_,c5=>c5
 | x_ :: r,i2,c5=>Qn5 r (i2+1) (QR0 x_.at_ x_.free c5)
def QJ3 (c5:List Step):(List Step) × Int:=Q82 c5
def Qx2 (p_:List Step) (to_:Int) (i:Int) (last:Int) (c2:List Step):(List Step) × Int:=bif (i==(p_.length:Int)) then bif (decide (to_<=1000000)) then Q82 (QR0 to_ last c2) else Q82 c2 else QJ3 (Qn5 (List.drop (Int.toNat i) p_) 0 c2)
def QZ2 (p_:List Step) (to_:Int) (n:Int):Nat->Int->Int->List Step->(List Step) × Int
 | 0,_,_,_=>([],0)
 | m+1,i1,last1,c3=>bif (decide (i1<(p_.length:Int))) then bif (decide ((p_.getD (Int.toNat i1) Step.zero).at_<to_)) then QZ2 p_ to_ n m (w64 (i1+1)) ((p_.getD (Int.toNat i1) Step.zero).free) (QR0 ((p_.getD (Int.toNat i1) Step.zero).at_) (w64 ((p_.getD (Int.toNat i1) Step.zero).free+n)) c3) else bif (decide ((p_.getD (Int.toNat i1) Step.zero).at_ > to_)) then Qx2 p_ to_ i1 ((p_.getD (Int.toNat i1) Step.zero).free) (QR0 to_ ((p_.getD (Int.toNat (w64 (i1 - 1))) Step.zero).free) c3) else Qx2 p_ to_ i1 ((p_.getD (Int.toNat i1) Step.zero).free) c3 else Qx2 p_ to_ i1 last1 c3
def QD4 (p_:List Step) (from_:Int) (to_:Int) (n:Int) (c:List Step):(List Step) × Int:=QZ2 p_ to_ n ((Int.toNat ((p_.length:Int) - (w64 ((Qa0 p_ from_)+1))))+1) (w64 ((Qa0 p_ from_)+1)) ((p_.getD (Int.toNat (Qa0 p_ from_)) Step.zero).free) (QR0 from_ (w64 ((p_.getD (Int.toNat (Qa0 p_ from_)) Step.zero).free+n)) c)
def QZ1 (p_:List Step) (from_:Int) (to_:Int) (n:Int):(List Step) × Int:=bif ((Qu1 p_)!=0) then ([],100) else bif (((!(Qv2 from_))||(decide (to_<from_)))||(!(Qo2 n))) then ([],2) else bif (to_==from_) then (p_,0) else bif (decide ((p_.getD (Int.toNat (Qa0 p_ from_)) Step.zero).at_<from_)) then QD4 p_ from_ to_ n (QR0 ((p_.getD (Int.toNat (Qa0 p_ from_)) Step.zero).at_) ((p_.getD (Int.toNat (Qa0 p_ from_)) Step.zero).free) (List.take (Int.toNat (Qa0 p_ from_)) p_)) else QD4 p_ from_ to_ n (List.take (Int.toNat (Qa0 p_ from_)) p_)
theorem b2a0 {P:Prop} (h:P:=by first|((exact ⟨by omega,by omega,Nat.le_trans (QD3 _ _ _) (by omega)⟩))|first|((exact ⟨by omega,by omega,by omega⟩))|first|((rw [hw1];exact ⟨by omega,by omega,Int.le_trans (Int.ofNat_le.2 (QD3 _ _ _)) (by omega)⟩))|first|((rw [hw];exact ⟨by omega,by omega,Int.le_trans (Int.ofNat_le.2 (QD3 _ _ _)) (by omega)⟩))|first|(((try dsimp only);refine Nat.le_trans (QD3 _ _ _) ?_;first|omega|(simp;omega)))|first|(((try dsimp only);rw [List.length_drop] at *;omega))|first|((simp;omega))|exact exA):P:=h
theorem b2a1 {P:Prop} (h:P:=by first|((refine Nat.le_trans (QD3 _ _ _) ?_;omega))|first|((simp;omega))|exact szA):P:=h
theorem Qib (p_:List Step) (from_:Int) (to_:Int) (n:Int) (hs0:p_.length<=4294967296):GV 166 [stepL p_,I from_,I to_,I n] (AVal.tup [stepL ((QZ1 p_ from_ to_ n).1),I ((QZ1 p_ from_ to_ n).2)]):=by
 generalize hR:QZ1 p_ from_ to_ n=R;refine ga (.cons lw (l1 (l1 (l1 .nil)))) (Low.tup' (.cons lw (l1 .nil))) (kj [1000014,1000024,1000032] 17 [17,21,35,58,91,99,117,137,139,146,147,148,149,161]) Tryz.func166 ?_;have hk0:=hs0;obtain z23:p_.length<=4294967296:=hs0;refine us (QW4 p_ b2a1 _) ?_;refine ai (fun h1=>?_) (fun h2=>?_)
 ·obtain rfl:=foll hR (ct h1 rfl);exact Q00 (Low.tup' (.cons lw (l1 .nil))) (Seen.tup (ev (Qs0) (e1 .nil)))
 ·refine us (Qtc from_ _) ?_;(first|apply u2|apply u3|apply u4|apply us);exact Q98 n _;refine ai (fun h3=>?_) (fun h4=>?_)
  ·obtain rfl:=foll hR (cf h2 (ct h3 rfl));exact Q00 (Low.tup' (.cons lw (l1 .nil))) (Seen.tup (ev (Qs0) (e1 .nil)))
  ·refine ai (fun h5=>?_) (fun h6=>?_)
   ·refine us (mv [] (Qya p_ b2a1) .nil (dl lw .nil) (rO rr .nil) (rw_ 0 0 rfl)) ?_;obtain rfl:=foll hR (cf h2 (cf h4 (ct h5 rfl)));exact Q00 (Low.tup' (.cons lw (l1 .nil))) (Seen.tup (ev (Ql1 Step.zero _ rfl eqA lnA) (e1 .nil)))
   ·refine us (Qq9 p_ from_ b2a1 _) ?_;have hc:=Qt6 (p:=p_) (by assumption);have hp:=QY6 hc.1 hc.2.1 hc.2.2 (Qjb (by assumption));have hw:w64 (Qa0 p_ from_+1)=Qa0 p_ from_+1:=wr (by omega);refine ai gkA ?_;(first|refine ⟨Qa2 16 rfl lnA apA,?_⟩|refine ⟨Qd1 16 rfl apA,?_⟩);refine QY0 (fun (c:List Step)=>QD4 p_ from_ to_ n c=R∧c.length<=Int.toNat (Qa0 p_ from_)+1) (fun c=>[(0,stepL p_),(1,I from_),(2,I to_),(3,I n),(8,AVal.lit (.slice none 0 0)),(9,I 0),(10,AVal.ptr 0 0 1 0 0),(11,AVal.fn (.func 249) [] [AVal.ptr 0 0 1 0 0]),(12,I (Qa0 p_ from_))]) (fun c=>[(0,AObj.row 85 1 [[AVal.own 1 0 2 0 c.length]]),(0,AObj.row 198 2 (c.map Step.cells))]) ?_ ?_
    ·clear hR;rintro c ⟨hR,hx⟩;(try dsimp only at hR hx);refine ai gkA ?_;refine us (mv [0,1] (Qr3 from_ (w64 ((p_.getD (Int.toNat (Qa0 p_ from_)) Step.zero).free+n)) c b2a1) (dO (dc (dv (QW6 rfl lnA) .nil)) (dO (dr eqA) .nil)) (d1 (d1 (dp .nil))) (rO (rc (.cons _ _ _ _ (rw_ 2 0 rfl) .nil)) (rO rr .nil)) rx) ?_;refine ai gkA ?_;refine join_start3 (fun (i:Int) (last:Int) (c2:List Step)=>Qx2 p_ to_ i last c2=R∧1<=i∧i<=(p_.length:Int)∧c2.length<=1003) (fun i last c2=>[(0,stepL p_),(2,I to_),(8,AVal.lit (.slice none 0 0)),(9,I 0),(10,AVal.ptr 0 0 1 0 0),(11,AVal.fn (.func 249) [] [AVal.ptr 0 0 1 0 0]),(12,I i),(14,I last)]) (fun i last c2=>[(0,AObj.row 85 1 [[AVal.own 1 0 2 0 c2.length]]),(0,AObj.row 198 2 (c2.map Step.cells))]) ?_ ?_
     ·clear hR;rintro i last c2 ⟨hR,hx⟩;(try dsimp only at hR hx);refine QY0 (fun (c4:List Step)=>Q82 c4=R∧c4.length<=4000) (fun c4=>[(8,AVal.lit (.slice none 0 0)),(9,I 0),(10,AVal.ptr 0 0 1 0 0)]) (fun c4=>[(0,AObj.row 85 1 [[AVal.own 1 0 2 0 c4.length]]),(0,AObj.row 198 2 (c4.map Step.cells))]) ?_ ?_
      ·clear hR;rintro c4 ⟨hR,hx⟩;(try dsimp only at hR hx);refine us (AGives.lent (QW4 c4 b2a1 []) (ev (Ql1 _ _ rfl eqA lnA) .nil) (.cons lw .nil) (Qka rfl)) ?_;refine ai (fun h7=>?_) (fun h8=>?_)
       ·obtain rfl:=foll hR (ct h7 rfl);exact Q00 (Low.tup' (.cons lw (l1 .nil))) (Seen.tup (ev (Qs0) (e1 .nil)))
       ·obtain rfl:=foll hR (cf h8 rfl);exact Q00 (Low.tup' (.cons lw (l1 .nil))) (Seen.tup (ev (Ql1 Step.zero _ rfl eqA lnA) (e1 .nil)))
      ·refine ai (fun h9=>?_) (fun h10=>?_)
       ·refine ai (fun h11=>?_) (fun h12=>?_)
        ·have qh11:=of_decide_eq_true h11;refine us (mv [0,1] (Qr3 to_ last c2 b2a1) (dO (dc (dv (QW6 rfl lnA) .nil)) (dO (dr eqA) .nil)) (d1 (d1 (dp .nil))) (rO (rc (.cons _ _ _ _ (rw_ 2 0 rfl) .nil)) (rO rr .nil)) rx) ?_;exact Q70 (QR0 to_ last c2) (wk [0,2] (tO rfl (Qd0 (cv (to 1 lnA) .nil)) (tO rfl (tl eqA) .nil)) (s1 (s1 (sv (Q10 0 rfl rfl) .nil)))) (⟨foll hR (ct h9 (ct h11 rfl)),b2a0⟩)
        ·have qh12:=of_decide_eq_false h12;exact Q70 c2 (wk [0,1] (tO rfl (Qd0 (cv (to 1 lnA) .nil)) (tO rfl (tl eqA) .nil)) (s1 (s1 (sv (Q10 0 rfl rfl) .nil)))) (⟨foll hR (ct h9 (cf h12 rfl)),b2a0⟩)
       ·refine ai gkA ?_;refine Qh0 (fun (i2:Nat) (c5:List Step)=>QJ3 (Qn5 (List.drop i2 (List.drop (Int.toNat i) p_)) i2 c5)=R∧i2<=(List.drop (Int.toNat i) p_).length∧c5.length<=2000+i2) (fun i2 c5=>(List.drop (Int.toNat i) p_).length - i2) (fun i2 c5=>[(8,AVal.lit (.slice none 0 0)),(9,I 0),(10,AVal.ptr 0 0 1 0 0),(11,AVal.fn (.func 249) [] [AVal.ptr 0 0 1 0 0]),(146,stepL (List.drop (Int.toNat i) p_)),(147,I ((List.drop (Int.toNat i) p_).length:Int)),(148,I (i2:Int))]) (fun i2 c5=>[(0,AObj.row 85 1 [[AVal.own 1 0 2 0 c5.length]]),(0,AObj.row 198 2 (c5.map Step.cells))]) 0 c2 (wk [0,1] (tO rfl (Qd0 (cv (to 1 lnA) .nil)) (tO rfl (tl eqA) .nil)) (s1 (s1 (sv (Q10 0 rfl rfl) (sv (QH0 .nil (cv (Q10 0 rfl rfl) .nil)) (sv (turn_as (as_drop p_ (Int.toNat i) _ leA) lw) (sv (Q80 (I_eq (by simp)) lx) (s1 .nil)))))))) ⟨foll hR (cf h10 rfl),by exact omA,b2a0⟩ ?_;clear hR;rintro i2 c5 ⟨hR,hj,hx⟩;(try dsimp only at hR hj hx);refine ai (fun h13=>?_) (fun h14=>?_)
        ·have hlt:=ltA h13;rw [Q90 Step.zero hlt] at hR;have hdl:(List.drop (Int.toNat i) p_).length<=1000:=(by rw [List.length_drop];omega);refine ai gkA ?_;refine us (mv [0,1] (Qr3 (((List.drop (Int.toNat i) p_).getD i2 Step.zero).at_) (((List.drop (Int.toNat i) p_).getD i2 Step.zero).free) c5 b2a1) (dO (dc (dv (QW6 rfl lnA) .nil)) (dO (dr eqA) .nil)) (d1 (d1 (dp .nil))) (rO (rc (.cons _ _ _ _ (rw_ 3 0 rfl) .nil)) (rO rr .nil)) rx) ?_;exact Q60 (i2+1) (QR0 ((List.drop (Int.toNat i) p_).getD i2 Step.zero).at_ ((List.drop (Int.toNat i) p_).getD i2 Step.zero).free c5) (wk [0,3] (tO rfl (Qd0 (cv (to 1 lnA) .nil)) (tO rfl (tl eqA) .nil)) (s1 (s1 (sv (Q10 0 rfl rfl) (sv (QH0 .nil (cv (Q10 0 rfl rfl) .nil)) (sl lw (sv (Q80 (I_eq (by simp)) lx) (sv (Q80 (I_eq (wr omA)) lx) .nil)))))))) omA ⟨foll hR (congrArg (fun p:(List Step)=>QJ3 p) rfl),by exact omA,b2a0⟩
        ·rw [Qf0 (l:=(List.drop (Int.toNat i) p_)) (j:=i2) (geA h14)] at hR;replace hR:QJ3 c5=R:=fo2 (fun p:(List Step)=>QJ3 p) (c5) hR rfl;exact Q70 c5 (wk [0,1] (tO rfl (Qd0 (cv (to 1 lnA) .nil)) (tO rfl (tl eqA) .nil)) (s1 (s1 (sv (Q10 0 rfl rfl) .nil)))) (⟨foll hR rfl,b2a0⟩)
     ·refine QA7 (fun (i1:Int) (last1:Int) (c3:List Step)=>∃ m,(Int.toNat ((p_.length:Int) - i1))<m∧QZ2 p_ to_ n m i1 last1 c3=R∧1<=i1∧i1<=(p_.length:Int)∧(c3.length:Int)<=i1+1) (fun i1 last1 c3=>(Int.toNat ((p_.length:Int) - i1))) (fun i1 last1 c3=>[(0,stepL p_),(2,I to_),(3,I n),(8,AVal.lit (.slice none 0 0)),(9,I 0),(10,AVal.ptr 0 0 1 0 0),(11,AVal.fn (.func 249) [] [AVal.ptr 0 0 1 0 0]),(12,I i1),(14,I last1)]) (fun i1 last1 c3=>[(0,AObj.row 85 1 [[AVal.own 1 0 2 0 c3.length]]),(0,AObj.row 198 2 (c3.map Step.cells))]) (w64 ((Qa0 p_ from_)+1)) ((p_.getD (Int.toNat (Qa0 p_ from_)) Step.zero).free) (QR0 from_ (w64 ((p_.getD (Int.toNat (Qa0 p_ from_)) Step.zero).free+n)) c) (wk [0,2] (tO rfl (Qd0 (cv (to 1 lnA) .nil)) (tO rfl (tl eqA) .nil)) (sl lw (s1 (s1 (s1 (s1 (sv (Q10 0 rfl rfl) (sv (QH0 .nil (cv (Q10 0 rfl rfl) .nil)) (s1 (s1 .nil)))))))))) ⟨_,Nat.lt_succ_self _,foll hR rfl,b2a0⟩ ?_;clear hR;rintro i1 last1 c3 ⟨m,hm,hR,hx⟩;(try dsimp only at hR hm hx);obtain ⟨m,rfl⟩:=sucA m;refine ai (fun h15=>?_) (fun h16=>?_)
      ·have qh15:=of_decide_eq_true h15;have hw1:w64 (i1+1)=i1+1:=wr (by omega);refine ai gkA ?_;refine ai gkA ?_;refine ai (fun h17=>?_) (fun h18=>?_)
       ·have qh17:=of_decide_eq_true h17;refine ai gkA ?_;refine us (mv [0,1] (Qr3 ((p_.getD (Int.toNat i1) Step.zero).at_) (w64 ((p_.getD (Int.toNat i1) Step.zero).free+n)) c3 b2a1) (dO (dc (dv (QW6 rfl lnA) .nil)) (dO (dr eqA) .nil)) (d1 (d1 (dp .nil))) (rO (rc (.cons _ _ _ _ (rw_ 2 0 rfl) .nil)) (rO rr .nil)) rx) ?_;exact Qp3 (w64 (i1+1)) ((p_.getD (Int.toNat i1) Step.zero).free) (QR0 ((p_.getD (Int.toNat i1) Step.zero).at_) (w64 ((p_.getD (Int.toNat i1) Step.zero).free+n)) c3) (wk [0,2] (tO rfl (Qd0 (cv (to 1 lnA) .nil)) (tO rfl (tl eqA) .nil)) (sl lw (s1 (s1 (s1 (s1 (sv (Q10 0 rfl rfl) (sv (QH0 .nil (cv (Q10 0 rfl rfl) .nil)) (s1 (s1 .nil)))))))))) omA ⟨m,by exact omA,foll hR (ct h15 (ct h17 rfl)),b2a0⟩
       ·have qh18:=of_decide_eq_false h18;refine ai gkA ?_;refine ai (fun h19=>?_) (fun h20=>?_)
        ·have qh19:=of_decide_eq_true h19;refine ai gkA ?_;refine us (mv [0,1] (Qr3 to_ ((p_.getD (Int.toNat (w64 (i1 - 1))) Step.zero).free) c3 b2a1) (dO (dc (dv (QW6 rfl lnA) .nil)) (dO (dr eqA) .nil)) (d1 (d1 (dp .nil))) (rO (rc (.cons _ _ _ _ (rw_ 2 0 rfl) .nil)) (rO rr .nil)) rx) ?_;exact QRb i1 ((p_.getD (Int.toNat i1) Step.zero).free) (QR0 to_ ((p_.getD (Int.toNat (w64 (i1 - 1))) Step.zero).free) c3) (wk [0,2] (tO rfl (Qd0 (cv (to 1 lnA) .nil)) (tO rfl (tl eqA) .nil)) (sl lw (s1 (s1 (s1 (sv (Q10 0 rfl rfl) (sv (QH0 .nil (cv (Q10 0 rfl rfl) .nil)) (s1 (s1 .nil))))))))) (⟨foll hR (ct h15 (cf h18 (ct h19 rfl))),b2a0⟩)
        ·have qh20:=of_decide_eq_false h20;exact QRb i1 ((p_.getD (Int.toNat i1) Step.zero).free) c3 (wk [0,1] (tO rfl (Qd0 (cv (to 1 lnA) .nil)) (tO rfl (tl eqA) .nil)) (sl lw (s1 (s1 (s1 (sv (Q10 0 rfl rfl) (sv (QH0 .nil (cv (Q10 0 rfl rfl) .nil)) (s1 (s1 .nil))))))))) (⟨foll hR (ct h15 (cf h18 (cf h20 rfl))),b2a0⟩)
      ·have qh16:=of_decide_eq_false h16;exact QRb i1 last1 c3 (wk [0,1] (tO rfl (Qd0 (cv (to 1 lnA) .nil)) (tO rfl (tl eqA) .nil)) (sl lw (s1 (s1 (s1 (sv (Q10 0 rfl rfl) (sv (QH0 .nil (cv (Q10 0 rfl rfl) .nil)) (s1 (s1 .nil))))))))) (⟨foll hR (cf h16 rfl),b2a0⟩)
    ·refine ai gkA ?_;refine ai (fun h21=>?_) (fun h22=>?_)
     ·have qh21:=of_decide_eq_true h21;refine dchk (by kernel_rfl) ?_;refine ai gkA ?_;refine ai gkA ?_;(first|apply u2|apply u3|apply u4|apply us);exact mv [0,1] (Qr3 ((p_.getD (Int.toNat (Qa0 p_ from_)) Step.zero).at_) ((p_.getD (Int.toNat (Qa0 p_ from_)) Step.zero).free) (List.take (Int.toNat (Qa0 p_ from_)) p_) b2a1) (dO (dc (dv (QW6 rfl lnA) .nil)) (dO (dr eqA) .nil)) (d1 (d1 (dp .nil))) (rO (rc (.cons _ _ _ _ (rw_ 2 0 rfl) .nil)) (rO rr .nil)) rx;(repeat ((first|refine ai rfl ?_|refine ai (fun _=>rfl) ?_)));exact Q70 (QR0 ((p_.getD (Int.toNat (Qa0 p_ from_)) Step.zero).at_) ((p_.getD (Int.toNat (Qa0 p_ from_)) Step.zero).free) (List.take (Int.toNat (Qa0 p_ from_)) p_)) (wk [0,2] (tO rfl (Qd0 (cv (to 1 lnA) .nil)) (tO rfl (tl eqA) .nil)) (sl lw (s1 (s1 (s1 (s1 (s1 (sv (Q10 0 rfl rfl) (sv (QH0 .nil (cv (Q10 0 rfl rfl) .nil)) (s1 .nil)))))))))) (⟨foll hR (cf h2 (cf h4 (cf h6 (ct h21 rfl)))),b2a0⟩)
     ·have qh22:=of_decide_eq_false h22;exact Q70 (List.take (Int.toNat (Qa0 p_ from_)) p_) (wk [0,1] (tO rfl (Qd0 (cv (to 1 lnA) .nil)) (tO rfl (tl eqA) .nil)) (sl lw (s1 (s1 (s1 (s1 (s1 (sv (Q10 0 rfl rfl) (sv (QH0 .nil (cv (Q10 0 rfl rfl) .nil)) (s1 .nil)))))))))) (⟨foll hR (cf h2 (cf h4 (cf h6 (cf h22 rfl)))),b2a0⟩)
theorem Qo9 (p:List Step) (f t n:Int) (hp:p.length<=4294967296):(QZ1 p f t n).1.length<=4294967296:=by
 have k4:∀ c,(Q82 c).1.length<=4294967296:=by
  intro c
  unfold Q82
  cases h:((Qu1 c)!=0) with
  | true=>simp
  | false=>have:=Qt6 h;simp only [cond_false];omega
 have k2:∀ i last c,(Qx2 p t i last c).1.length<=4294967296:=by
  intro i last c
  unfold Qx2 QJ3
  cases (i==(p.length:Int)) <;> simp only [cond_true,cond_false]
  ·exact k4 _
  ·cases (decide (t<=1000000)) <;> simp only [cond_true,cond_false] <;> exact k4 _
 have g3:∀ m i last c,(QZ2 p t n m i last c).1.length<=4294967296:=by
  intro m
  induction m with
  | zero=>intro i last c;simp [QZ2]
  | succ m ih =>
   intro i last c
   rw [QZ2]
   repeat' first|exact ih _ _ _|exact k2 _ _ _|(rw [Bool.cond_eq_ite];split)
 unfold QZ1 QD4
 repeat' first|exact g3 _ _ _ _|exact hp|(simp;done)|(rw [Bool.cond_eq_ite];split)
end Go.Proofs.YtcbolcknapeneaaGreatDoor
namespace Go.Proofs.YtcbolcknapeneaaGreatDoor
set_option linter.unusedSimpArgs false
set_option linter.unusedVariables false
open Go.Fw
set_option maxRecDepth 20000
set_option maxHeartbeats 4000000
attribute [local irreducible] ACalls AMoves
def QM2 (p_:List Step) (to_:Int):Nat->Int->Int->Int × Int
 | 0,_,_=>(0,0)
 | m+1,i,n=>bif ((decide (i<(p_.length:Int)))&&(decide ((p_.getD (Int.toNat i) Step.zero).at_<to_))) then QM2 p_ to_ m (w64 (i+1)) (min n (p_.getD (Int.toNat i) Step.zero).free) else (i,n)
def Qs3 (i:Int) (n:Int):Int:=n
def Qz0 (p_:List Step) (from_:Int) (to_:Int):Int:=bif ((((Qu1 p_)!=0)||(!(Qv2 from_)))||(decide (to_<=from_))) then 0 else Qs3 ((QM2 p_ to_ ((Int.toNat ((p_.length:Int) - (w64 ((Qa0 p_ from_)+1))))+1) (w64 ((Qa0 p_ from_)+1)) ((p_.getD (Int.toNat (Qa0 p_ from_)) Step.zero).free)).1) ((QM2 p_ to_ ((Int.toNat ((p_.length:Int) - (w64 ((Qa0 p_ from_)+1))))+1) (w64 ((Qa0 p_ from_)+1)) ((p_.getD (Int.toNat (Qa0 p_ from_)) Step.zero).free)).2)
theorem Qp9 (p_:List Step) (from_:Int) (to_:Int) (hs0:p_.length<=4294967296):GV 55 [stepL p_,I from_,I to_] (I (Qz0 p_ from_ to_)):=by
 generalize hR:Qz0 p_ from_ to_=R;refine ga (.cons lw (l1 (l1 .nil))) lx (kp 9 [21,44]) Tryz.func55 ?_;have hk0:=hs0;obtain z5:p_.length<=4294967296:=hs0;refine us (QW4 p_ szA _) ?_;(first|apply u2|apply u3|apply u4|apply us);exact Qtc from_ _;refine ai (fun h1=>?_) (fun h2=>?_)
 ·obtain rfl:=foll hR (ct h1 rfl);exact Q00 lx sr
 ·refine us (Qq9 p_ from_ szA _) ?_;have hb:=Bool.or_eq_false_iff.1 (Bool.or_eq_false_iff.1 h2).1;have hc:=Qt6 hb.1;have hq:=hb.2;simp [Qv2] at hq;have hp:=QY6 hc.1 hc.2.1 hc.2.2 (t:=from_) (by omega);have hw:w64 (Qa0 p_ from_+1)=Qa0 p_ from_+1:=wr (by omega);refine ai gkA ?_;refine Qh0 (fun (i:Int) (n:Int)=>∃ m,(Int.toNat ((p_.length:Int) - i))<m∧Qs3 (QM2 p_ to_ m i n).1 (QM2 p_ to_ m i n).2=R∧0<=i∧i<=(p_.length:Int)) (fun i n=>(Int.toNat ((p_.length:Int) - i))) (fun i n=>[(0,stepL p_),(2,I to_),(6,I 0),(7,I i),(8,I n)]) (fun i n=>[]) (w64 ((Qa0 p_ from_)+1)) ((p_.getD (Int.toNat (Qa0 p_ from_)) Step.zero).free) (wk [] .nil (sl lw (s1 (s1 (s1 (s1 .nil)))))) ⟨_,Nat.lt_succ_self _,foll hR (cf h2 rfl),by first|((rw [hw];omega))|first|((rw [hw1];omega))|exact exA⟩ ?_;clear hR;rintro i n ⟨m,hm,hR,hx⟩;(try dsimp only at hR hm hx);obtain ⟨m,rfl⟩:=sucA m;refine ai gkA ?_;refine ai (fun h3=>?_) (fun h4=>?_)
  ·have hw1:w64 (i+1)=i+1:=wr (by omega);refine ai gkA ?_;exact Q60 (w64 (i+1)) (min n (p_.getD (Int.toNat i) Step.zero).free) (wk [] .nil (sl lw (s1 (s1 (s1 (s1 .nil)))))) (by first|((dsimp only;rw [hw1];omega))|exact omA) ⟨m,by first|((dsimp only;rw [hw1];omega))|exact omA,foll hR (congrArg (fun p:Int × Int=>Qs3 p.1 p.2) (ct h3 rfl)),by first|((rw [hw];omega))|first|((rw [hw1];omega))|exact exA⟩
  ·replace hR:Qs3 i n=R:=fo2 (fun p:Int × Int=>Qs3 p.1 p.2) (i,n) hR (cf h4 rfl);obtain rfl:=foll hR rfl;exact Q00 lx sr
def Q3d (l:List Int):Int:=(sat_sum 1000000000000 l).1
theorem sat_Plus_c (l:List Int) (hs0:l.length<=4294967296):GV 336 [ints l] (I (Q3d l)):=by
 generalize hR:Q3d l=R;refine ga (.cons lw .nil) lx (kp 5 []) Tryz.func336 ?_;have hk0:=hs0;obtain z1:l.length<=4294967296:=hs0;refine us (sat_sum_c 1000000000000 l szA _) ?_;obtain rfl:=foll hR rfl;exact Q00 lx sr
def Q22 (c:Cmd) (job:Bool) (submit:Bool) (prio:Bool) (time:Bool) (node:Bool) (nodes:Bool) (from_:Bool):Bool:=bif ((((((job&&(c.job != 0))||(prio&&c.hasPrio))||(time&&c.hasTime))||(node&&(c.node != 0)))||(nodes&&(c.nodes != 0)))||(from_&&(c.from_ != 0))) then false else bif (!submit) then true else (((((ByteArray.toList c.name==ByteArray.toList ⟨#[]⟩)&&(ByteArray.toList c.user==ByteArray.toList ⟨#[]⟩))&&(ByteArray.toList c.account==ByteArray.toList ⟨#[]⟩))&&((c.after.length:Int)==0))&&(Q0c c.shape Shape.zero))
theorem QY4 (c:Cmd) (job:Bool) (submit:Bool) (prio:Bool) (time:Bool) (node:Bool) (nodes:Bool) (from_:Bool) (hs0:c.sz):GV 224 [Cmd.a c,Bo job,Bo submit,Bo prio,Bo time,Bo node,Bo nodes,Bo from_] (Bo (Q22 c job submit prio time node nodes from_)):=by
 generalize hR:Q22 c job submit prio time node nodes from_=R;refine ga (.cons (Cmd.low _ _) (l1 (l1 (l1 (l1 (l1 (l1 (l1 .nil)))))))) lx (kp 17 [60,62]) Tryz.func224 ?_;have hk0:=hs0;obtain ⟨z5,z6,z7,z8,z9⟩:c.name.size<=4294967296∧c.user.size<=4294967296∧c.account.size<=4294967296∧(c.shape.alts.length<=4294967296)∧c.after.length<=4294967296:=hs0;refine ai (fun h1=>?_) (fun h2=>?_)
 ·obtain rfl:=foll hR (ct h1 rfl);exact Q00 lx sr
 ·refine ai (fun h3=>?_) (fun h4=>?_)
  ·obtain rfl:=foll hR (cf h2 (ct h3 rfl));exact Q00 lx sr
  ·(first|apply u2|apply u3|apply u4|apply us);exact AGives.as2 (ref07_Same_c c.shape Shape.zero szA szA _) (a1 (av (as_agg (a1 (av (Q79) (a1 (a1 (a1 .nil)))))) .nil));obtain rfl:=foll hR (cf h2 (cf h4 rfl));exact Q00 lx sr
def Qc3 (s:ByteArray):Bool:=((((Qi3 s).2==0)&&(decide ((Qi3 s).1 >= 1)))&&(decide ((Qi3 s).1<=16)))
theorem Qv9 (s:ByteArray) (hs0:s.size<=4294967296):GV 225 [Sg s] (Bo (Qc3 s)):=by
 generalize hR:Qc3 s=R;refine ga (l1 .nil) lx (kp 5 []) Tryz.func225 ?_;have hk0:=hs0;obtain z1:s.size<=4294967296:=hs0;refine us (QL8 s szA _) ?_;obtain rfl:=foll hR rfl;exact Q00 lx sr
def QE4 (s:ByteArray):Nat->Nat->List Int->Nat × (List Int)
 | 0,_,_=>(0,[])
 | m+1,i,c=>bif (decide ((i:Int)<(ByteArray.size s:Int))) then bif ((((s.data.toList.getD i 0).toNat:Int)==34)||(((s.data.toList.getD i 0).toNat:Int)==92)) then QE4 s m (i+1) ((c++([92]:List Int))++([((s.data.toList.getD i 0).toNat:Int)]:List Int)) else QE4 s m (i+1) (c++([((s.data.toList.getD i 0).toNat:Int)]:List Int)) else (i,c)
def QF4 (i:Nat) (c:List Int):ByteArray × Int:=((Qq2 (c++([34]:List Int))),0)
def QG7 (s:ByteArray):ByteArray × Int:=bif ((Qi3 s).2 != 0) then (⟨#[]⟩,(Qi3 s).2) else QF4 ((QE4 s ((Int.toNat ((ByteArray.size s:Int) - (0:Int)))+1) 0 ([34]:List Int)).1) ((QE4 s ((Int.toNat ((ByteArray.size s:Int) - (0:Int)))+1) 0 ([34]:List Int)).2)
theorem ref04_Quote_c (s:ByteArray) (hs0:s.size<=4294967296):GV 352 [Sg s] (AVal.tup [Sg ((QG7 s).1),I ((QG7 s).2)]):=by
 generalize hR:QG7 s=R;refine ga (l1 .nil) (Low.tup' (l1 (l1 .nil))) (kp 8 [14,20,32]) Tryz.func352 ?_;have hk0:=hs0;obtain z7:s.size<=4294967296:=hs0;refine us (QL8 s szA _) ?_;refine ai (fun h1=>?_) (fun h2=>?_)
 ·obtain rfl:=foll hR (ct h1 rfl);exact Q00 (Low.tup' (l1 (l1 .nil))) (Seen.tup (e1 (e1 .nil)))
 ·refine Or.inr ?_;refine Qh0 (fun (i:Nat) (c:List Int)=>∃ m,(Int.toNat ((ByteArray.size s:Int) - (i:Int)))<m∧QF4 (QE4 s m i c).1 (QE4 s m i c).2=R∧c.length<=([34]:List Int).length+2*i∧(i:Int)<=(ByteArray.size s:Int)) (fun i c=>(Int.toNat ((ByteArray.size s:Int) - (i:Int)))) (fun i c=>[(0,Sg s),(2,Sg ⟨#[]⟩),(3,I 0),(6,AVal.own 0 0 1 0 c.length),(7,I (i:Int))]) (fun i c=>[(0,AObj.row 5 1 (c.map (fun q_=>[Y q_])))]) 0 ([34]:List Int) (wk [0] (tO rfl (tl eqA) .nil) (s1 (s1 (s1 (sv (to 0 lnA) (s1 .nil)))))) ⟨_,Nat.lt_succ_self _,foll hR (cf h2 rfl),by exact exA⟩ ?_;clear hR;rintro i c ⟨m,hm,hR,hx⟩;(try dsimp only at hR hm hx);obtain ⟨m,rfl⟩:=sucA m;refine ai (fun h3=>?_) (fun h4=>?_)
  ·have qh3:=of_decide_eq_true h3;refine ai gkA ?_;refine ai gkA ?_;refine ai (fun h5=>?_) (fun h6=>?_)
   ·refine Or.inl ?_;(first|refine ⟨Qa2 1 rfl lnA apA,?_⟩|refine ⟨Qd1 1 rfl apA,?_⟩);refine ai gkA ?_;refine Or.inl ?_;(first|refine ⟨Qa2 1 rfl lnA apA,?_⟩|refine ⟨Qd1 1 rfl apA,?_⟩);exact Q60 (i+1) ((c++([92]:List Int))++([((s.data.toList.getD i 0).toNat:Int)]:List Int)) (wk [0] (tO rfl (tl eqA) .nil) (s1 (s1 (s1 (sv (to 0 lnA) (sv (Q80 (I_eq (wr omA)) lx) .nil)))))) omA ⟨m,by exact omA,foll hR (congrArg (fun p:Nat × (List Int)=>QF4 p.1 p.2) (ct h3 (ct h5 rfl))),by exact exA⟩
   ·refine ai gkA ?_;refine Or.inl ?_;(first|refine ⟨Qa2 1 rfl lnA apA,?_⟩|refine ⟨Qd1 1 rfl apA,?_⟩);exact Q60 (i+1) (c++([((s.data.toList.getD i 0).toNat:Int)]:List Int)) (wk [0] (tO rfl (tl eqA) .nil) (s1 (s1 (s1 (sv (to 0 lnA) (sv (Q80 (I_eq (wr omA)) lx) .nil)))))) omA ⟨m,by exact omA,foll hR (congrArg (fun p:Nat × (List Int)=>QF4 p.1 p.2) (ct h3 (cf h6 rfl))),by exact exA⟩
  ·have qh4:=of_decide_eq_false h4;replace hR:QF4 i c=R:=fo2 (fun p:Nat × (List Int)=>QF4 p.1 p.2) (i,c) hR (cf h4 rfl);refine Or.inl ?_;(first|refine ⟨Qa2 1 rfl lnA apA,?_⟩|refine ⟨Qd1 1 rfl apA,?_⟩);(first|refine ⟨(c++([34]:List Int)),by exact cvA,?_⟩|refine ⟨_,fun _=>⟨(c++([34]:List Int)),by exact cvA,rfl,rfl⟩,?_⟩|refine ⟨_,rfl,⟨(c++([34]:List Int)),by exact cvA,Sub.refl _,rfl⟩,?_⟩);obtain rfl:=foll hR rfl;exact Q00 (Low.tup' (l1 (l1 .nil))) (Seen.tup (e1 (e1 .nil)))
def Q61 (s:Shape):Nat->List Alt->Nat->(List Alt) × Nat
 | 0,_,_=>([],0)
 | m+1,out,i=>bif (decide ((i:Int)<=(w64 (s.max - s.min)))) then Q61 s m (out++([(⟨(w64 (s.max - (i:Int))),s.wall⟩:Alt)]:List Alt)) (i+1) else (out,i)
def QN2 (out:List Alt) (i:Nat):(List Alt):=out
def Q50 (s:Shape):(List Alt):=bif ((Q01 s)!=0) then [] else bif (s.kind != 3) then s.alts else QN2 ((Q61 s ((Int.toNat ((w64 (s.max - s.min)) - (0:Int)+1))+1) [] 0).1) ((Q61 s ((Int.toNat ((w64 (s.max - s.min)) - (0:Int)+1))+1) [] 0).2)
theorem Q44 (s:Shape) (hs0:s.sz):GV 147 [Shape.a s] (altL (Q50 s)):=by
 generalize hR:Q50 s=R;refine ga (.cons (Shape.low _ _) .nil) lw (kp 5 [7,10,19]) Tryz.func147 ?_;have hk0:=hs0;obtain z7:s.alts.length<=4294967296:=hs0;have hf0:=Q76 (s:=s);refine us (Qlb s szA _) ?_;refine ai (fun h1=>?_) (fun h2=>?_)
 ·obtain rfl:=foll hR (ct h1 rfl);exact Q00 lw (Qs0)
 ·refine ai (fun h3=>?_) (fun h4=>?_)
  ·obtain rfl:=foll hR (cf h2 (ct h3 rfl));exact Q00 lw sr
  ·refine Qh0 (fun (out:List Alt) (i:Nat)=>∃ m,(Int.toNat ((w64 (s.max - s.min)) - (i:Int)+1))<m∧QN2 (Q61 s m out i).1 (Q61 s m out i).2=R∧out.length<=i) (fun out i=>(Int.toNat ((w64 (s.max - s.min)) - (i:Int)+1))) (fun out i=>[(1,AVal.ptr 0 0 5 0 0),(2,AVal.lit (.slice none 0 0)),(3,AVal.own 1 0 2 0 out.length),(4,I (i:Int))]) (fun out i=>[(0,AObj.row 31 5 [[I s.kind,altL s.alts,I s.min,I s.max,I s.wall]]),(0,AObj.row 179 2 (out.map Alt.cells))]) [] 0 ((QD1 179 2).trans (wk [0,1] (tO rfl (ts Shape.lo) (tO rfl (tl eqA) .nil)) (sv (Q10 0 rfl rfl) (s1 (sv (Qj1 1 rfl) (s1 .nil)))))) ⟨_,Nat.lt_succ_self _,foll hR (cf h2 (cf h4 rfl)),by exact exA⟩ ?_;clear hR;rintro out i ⟨m,hm,hR,hx⟩;(try dsimp only at hR hm hx);obtain ⟨m,rfl⟩:=sucA m;refine ai (fun h5=>?_) (fun h6=>?_)
   ·have qh5:=of_decide_eq_true h5;refine Or.inl ?_;(first|refine ⟨Qa2 16 rfl lnA apA,?_⟩|refine ⟨Qd1 16 rfl apA,?_⟩);exact Q60 (out++([(⟨(w64 (s.max - (i:Int))),s.wall⟩:Alt)]:List Alt)) (i+1) (wk [0,1] (tO rfl (ts Shape.lo) (tO rfl (tl eqA) .nil)) (sv (Q10 0 rfl rfl) (s1 (sv (to 1 lnA) (sv (Q80 (I_eq (wr omA)) lx) .nil))))) omA ⟨m,by exact omA,foll hR (congrArg (fun p:(List Alt) × Nat=>QN2 p.1 p.2) (ct h5 rfl)),by exact exA⟩
   ·have qh6:=of_decide_eq_false h6;replace hR:QN2 out i=R:=fo2 (fun p:(List Alt) × Nat=>QN2 p.1 p.2) (out,i) hR (cf h6 rfl);obtain rfl:=foll hR rfl;exact Q00 lw (Ql1 Alt.zero _ rfl eqA lnA)
theorem Q17 (s:Shape):∀ (m:Nat) (out:List Alt) (i:Nat),(Q61 s m out i).1.length<=out.length+m
 | 0,out,i=>by simp [Q61]
 | m+1,out,i=>by
  rw [Q61]
  cases (decide ((i:Int)<=(w64 (s.max - s.min)))) with
  | false=>simp
  | true =>
   have:=Q17 s m (out++([(⟨(w64 (s.max - (i:Int))),s.wall⟩:Alt)]:List Alt)) (i+1)
   simp only [List.length_append,List.length_cons,List.length_nil] at this
   simp only [cond_true]
   omega
theorem Qd5 (s:Shape) (h:s.sz):(Q50 s).length<=4294967296:=by
 unfold Q50
 cases h1:(Q01 s != 0) with
 | true=>simp
 | false =>
  cases h2:(s.kind != 3) with
  | true=>exact h
  | false =>
   obtain ⟨a,b,c,d⟩:=Q76 h1 h2
   have hl:=Q17 s ((Int.toNat ((w64 (s.max - s.min)) - (0:Int)+1))+1) [] 0
   simp only [cond_false,QN2]
   rw [d] at hl ⊢
   simp only [List.length_nil] at hl
   omega
def Q32 (p_:List Step) (from_:Int) (to_:Int) (n:Int):List Int->List Step->Nat->(List Step) × Nat
 | [],out,i=>(out,i)
 | x_ :: r,out,i=>bif ((decide (x_ >= from_))&&(decide (x_<to_))) then bif (((out.length:Int)==0)||((out.getD (Int.toNat (w64 ((out.length:Int) - 1))) Step.zero).free != (w64 ((Qz4 p_ x_)+n)))) then Q32 p_ from_ to_ n r (out++([(⟨x_,(w64 ((Qz4 p_ x_)+n))⟩:Step)]:List Step)) (i+1) else Q32 p_ from_ to_ n r out (i+1) else bif (((out.length:Int)==0)||((out.getD (Int.toNat (w64 ((out.length:Int) - 1))) Step.zero).free != (Qz4 p_ x_))) then Q32 p_ from_ to_ n r (out++([(⟨x_,(Qz4 p_ x_)⟩:Step)]:List Step)) (i+1) else Q32 p_ from_ to_ n r out (i+1)
def QD2 (out:List Step) (i:Nat):(List Step) × Int:=bif ((QF0 out)!=0) then ([],3) else (out,0)
def QT5 (p_:List Step) (from_:Int) (to_:Int) (n:Int) (more:List Int):(List Step) × Int:=QD2 ((Q32 p_ from_ to_ n (QS0 p_ more) [] 0).1) ((Q32 p_ from_ to_ n (QS0 p_ more) [] 0).2)
def QS1 (p_:List Step) (from_:Int) (to_:Int) (n:Int):(List Step) × Int:=bif ((QF0 p_)!=0) then ([],100) else bif (((((decide (from_<0))||(decide (from_ > 1000000)))||(decide (to_<from_)))||(decide (n<(-1000000))))||(decide (n > 1000000))) then ([],2) else bif (decide (to_<=1000000)) then QT5 p_ from_ to_ n (([from_]:List Int)++([to_]:List Int)) else QT5 p_ from_ to_ n ([from_]:List Int)
theorem b2b0 {P:Prop} (h:P:=by first|((have hT:=QI7 p_ more;have hP:=Q86 (p:=p_) (by assumption);omega))|exact szA):P:=h
theorem ref10_Add_c (p_:List Step) (from_:Int) (to_:Int) (n:Int) (hs0:p_.length<=4294967296):GV 240 [stepL p_,I from_,I to_,I n] (AVal.tup [stepL ((QS1 p_ from_ to_ n).1),I ((QS1 p_ from_ to_ n).2)]):=by
 generalize hR:QS1 p_ from_ to_ n=R;refine ga (.cons lw (l1 (l1 (l1 .nil)))) (Low.tup' (.cons lw (l1 .nil))) (kj [1000008] 15 [17,36,40,51,73,90,102]) Tryz.func240 ?_;have hk0:=hs0;obtain z17:p_.length<=4294967296:=hs0;refine us (Qa7 p_ b2b0 _) ?_;refine ai (fun h1=>?_) (fun h2=>?_)
 ·obtain rfl:=foll hR (ct h1 rfl);exact Q00 (Low.tup' (.cons lw (l1 .nil))) (Seen.tup (ev (Qs0) (e1 .nil)))
 ·refine ai (fun h3=>?_) (fun h4=>?_)
  ·obtain rfl:=foll hR (cf h2 (ct h3 rfl));exact Q00 (Low.tup' (.cons lw (l1 .nil))) (Seen.tup (ev (Qs0) (e1 .nil)))
  ·refine Or.inr ?_;refine QY0 (fun (more:List Int)=>QT5 p_ from_ to_ n more=R∧more.length<=2) (fun more=>[(0,stepL p_),(1,I from_),(2,I to_),(3,I n),(8,AVal.lit (.slice none 0 0)),(9,I 0),(10,ints more)]) (fun more=>[]) ?_ ?_
   ·clear hR;rintro more ⟨hR,hx⟩;(try dsimp only at hR hx);refine us (ref10_Ticks_c p_ more b2b0 b2b0 (by exact ⟨Q86 (by assumption),by assumption⟩) _) ?_;refine Qh0 (fun (out:List Step) (i:Nat)=>QD2 (Q32 p_ from_ to_ n (List.drop i (QS0 p_ more)) out i).1 (Q32 p_ from_ to_ n (List.drop i (QS0 p_ more)) out i).2=R∧i<=(QS0 p_ more).length∧out.length<=i) (fun out i=>(QS0 p_ more).length - i) (fun out i=>[(0,stepL p_),(1,I from_),(2,I to_),(3,I n),(8,AVal.lit (.slice none 0 0)),(9,I 0),(11,ints (QS0 p_ more)),(12,AVal.own 0 0 2 0 out.length),(13,I (i:Int))]) (fun out i=>[(0,AObj.row 198 2 (out.map Step.cells))]) [] 0 ((QD1 198 2).trans (wk [0] (tO rfl (tl eqA) .nil) (sl lw (s1 (s1 (s1 (s1 (s1 (sl lw (sv (Qj1 0 rfl) (s1 .nil))))))))))) ⟨foll hR rfl,by exact omA,by exact exA⟩ ?_;clear hR;rintro out i ⟨hR,hj,hx⟩;(try dsimp only at hR hj hx);refine ai (fun h5=>?_) (fun h6=>?_)
    ·have hlt:=ltA h5;rw [Q90 0 hlt] at hR;have hT:=QI7 p_ more;have hP:=Q86 (p:=p_) (by assumption);refine ai gkA ?_;refine us (Qce p_ ((QS0 p_ more).getD i 0) b2b0 _) ?_;refine ai gkA ?_;refine ai gkA ?_;refine ai (fun h7=>?_) (fun h8=>?_)
     ·refine ai gkA ?_;refine ⟨_,fun hg=>QL1 rfl rfl rfl (QV1 Step.zero (Int.toNat (w64 ((out.length:Int) - 1))) (by first|rfl|exact Nat.zero_add _|omega) ckA) rfl,?_⟩;refine ai (fun h9=>?_) (fun h10=>?_)
      ·refine ai gkA ?_;refine Or.inl ?_;(first|refine ⟨Qa2 16 rfl lnA apA,?_⟩|refine ⟨Qd1 16 rfl apA,?_⟩);exact Q60 (out++([(⟨((QS0 p_ more).getD i 0),(w64 ((Qz4 p_ ((QS0 p_ more).getD i 0))+n))⟩:Step)]:List Step)) (i+1) (wk [0] (tO rfl (tl eqA) .nil) (sl lw (s1 (s1 (s1 (s1 (s1 (sl lw (sv (to 0 lnA) (sv (Q80 (I_eq (wr omA)) lx) .nil)))))))))) omA ⟨foll hR (congrArg (fun p:(List Step) × Nat=>QD2 p.1 p.2) (ct h7 (ct h9 rfl))),by exact omA,by exact exA⟩
      ·exact Q60 out (i+1) (wk [0] (tO rfl (tl eqA) .nil) (sl lw (s1 (s1 (s1 (s1 (s1 (sl lw (sv (to 0 lnA) (sv (Q80 (I_eq (wr omA)) lx) .nil)))))))))) omA ⟨foll hR (congrArg (fun p:(List Step) × Nat=>QD2 p.1 p.2) (ct h7 (cf h10 rfl))),by exact omA,by exact exA⟩
     ·refine ai gkA ?_;refine ⟨_,fun hg=>QL1 rfl rfl rfl (QV1 Step.zero (Int.toNat (w64 ((out.length:Int) - 1))) (by first|rfl|exact Nat.zero_add _|omega) ckA) rfl,?_⟩;refine ai (fun h11=>?_) (fun h12=>?_)
      ·refine ai gkA ?_;refine Or.inl ?_;(first|refine ⟨Qa2 16 rfl lnA apA,?_⟩|refine ⟨Qd1 16 rfl apA,?_⟩);exact Q60 (out++([(⟨((QS0 p_ more).getD i 0),(Qz4 p_ ((QS0 p_ more).getD i 0))⟩:Step)]:List Step)) (i+1) (wk [0] (tO rfl (tl eqA) .nil) (sl lw (s1 (s1 (s1 (s1 (s1 (sl lw (sv (to 0 lnA) (sv (Q80 (I_eq (wr omA)) lx) .nil)))))))))) omA ⟨foll hR (congrArg (fun p:(List Step) × Nat=>QD2 p.1 p.2) (cf h8 (ct h11 rfl))),by exact omA,by exact exA⟩
      ·exact Q60 out (i+1) (wk [0] (tO rfl (tl eqA) .nil) (sl lw (s1 (s1 (s1 (s1 (s1 (sl lw (sv (to 0 lnA) (sv (Q80 (I_eq (wr omA)) lx) .nil)))))))))) omA ⟨foll hR (congrArg (fun p:(List Step) × Nat=>QD2 p.1 p.2) (cf h8 (cf h12 rfl))),by exact omA,by exact exA⟩
    ·rw [Qf0 (l:=(QS0 p_ more)) (j:=i) (geA h6)] at hR;replace hR:QD2 out i=R:=fo2 (fun p:(List Step) × Nat=>QD2 p.1 p.2) (out,i) hR rfl;refine us (AGives.lent (Qa7 out b2b0 []) (ev (Ql1 _ _ rfl eqA lnA) .nil) (.cons lw .nil) (Qka rfl)) ?_;refine ai (fun h13=>?_) (fun h14=>?_)
     ·obtain rfl:=foll hR (ct h13 rfl);exact Q00 (Low.tup' (.cons lw (l1 .nil))) (Seen.tup (ev (Qs0) (e1 .nil)))
     ·obtain rfl:=foll hR (cf h14 rfl);exact Q00 (Low.tup' (.cons lw (l1 .nil))) (Seen.tup (ev (Ql1 Step.zero _ rfl eqA lnA) (e1 .nil)))
   ·refine ai (fun h15=>?_) (fun h16=>?_)
    ·have qh15:=of_decide_eq_true h15;refine Or.inl ?_;(first|refine ⟨Qa2 8 rfl lnA apA,?_⟩|refine ⟨Qd1 8 rfl apA,?_⟩);exact Q70 (([from_]:List Int)++([to_]:List Int)) (wk [] .nil (sl lw (s1 (s1 (s1 (s1 (s1 (sv (QX9 _ _ rfl (Nat.zero_le _) (by decide) eqA (fun _=>lowL1 rfl) lnA) .nil)))))))) (⟨foll hR (cf h2 (cf h4 (ct h15 rfl))),by exact exA⟩)
    ·have qh16:=of_decide_eq_false h16;exact Q70 ([from_]:List Int) (wk [] .nil (sl lw (s1 (s1 (s1 (s1 (s1 (sv (QX9 _ _ rfl (Nat.zero_le _) (by decide) eqA (fun _=>lowL1 rfl) lnA) .nil)))))))) (⟨foll hR (cf h2 (cf h4 (cf h16 rfl))),by exact exA⟩)
def Qx6 (s:State) (n:Int):Int:=bif (((s.nodes.getD (Int.toNat n) Node.zero).drain||((s.nodes.getD (Int.toNat n) Node.zero).state==0))||((s.nodes.getD (Int.toNat n) Node.zero).state==4)) then 0 else bif ((s.nodes.getD (Int.toNat n) Node.zero).state==3) then (w64 ((s.nodes.getD (Int.toNat n) Node.zero).since+12)) else bif ((Q64 s.jobs ((s.nodes.getD (Int.toNat n) Node.zero).job)).state != 2) then 1000001 else (w64 ((Q64 s.jobs ((s.nodes.getD (Int.toNat n) Node.zero).job)).limit+12))
theorem ref20_until_c (s:State) (n:Int) (hs0:s.sz) (hp0:0<=n∧n<(s.nodes.length:Int)):GV 239 [State.a s,I n] (I (Qx6 s n)):=by
 generalize hR:Qx6 s n=R;refine ga (.cons (State.low _ _) (l1 .nil)) lx (kp 7 [23,26,37]) Tryz.func239 ?_;have hk0:=hs0;obtain ⟨z7,z8,z9,z10,z11,z12,z13⟩:=hs0;refine ai gkA ?_;refine ai (fun h1=>?_) (fun h2=>?_)
 ·obtain rfl:=foll hR (ct h1 rfl);exact Q00 lx sr
 ·refine ai (fun h3=>?_) (fun h4=>?_)
  ·obtain rfl:=foll hR (cf h2 (ct h3 rfl));exact Q00 lx sr
  ·refine us (ref15_Get_c s.jobs ((s.nodes.getD (Int.toNat n) Node.zero).job) szA _) ?_;refine ai (fun h5=>?_) (fun h6=>?_)
   ·obtain rfl:=foll hR (cf h2 (cf h4 (ct h5 rfl)));exact Q00 lx sr
   ·obtain rfl:=foll hR (cf h2 (cf h4 (cf h6 rfl)));exact Q00 lx sr
def QI2 (p_:List Step) (at_:Int) (long:Int) (nodes:Int):Bool:=bif ((((((((QF0 p_)!=0)||(decide (nodes<1)))||(decide (nodes > 1000000)))||(decide (long<1)))||(decide (long > 1000000)))||(decide (at_<0)))||(decide (at_ > (w64 (1000000 - long))))) then false else (decide ((Qf2 p_ at_ (w64 (at_+long))) >= nodes))
theorem QAc (p_:List Step) (at_:Int) (long:Int) (nodes:Int) (hs0:p_.length<=4294967296):GV 98 [stepL p_,I at_,I long,I nodes] (Bo (QI2 p_ at_ long nodes)):=by
 generalize hR:QI2 p_ at_ long nodes=R;refine ga (.cons lw (l1 (l1 (l1 .nil)))) lx (kp 9 [37]) Tryz.func98 ?_;have hk0:=hs0;obtain z3:p_.length<=4294967296:=hs0;refine us (Qa7 p_ szA _) ?_;refine ai (fun h1=>?_) (fun h2=>?_)
 ·obtain rfl:=foll hR (ct h1 rfl);exact Q00 lx sr
 ·refine us (QN8 p_ at_ (w64 (at_+long)) szA _) ?_;obtain rfl:=foll hR (cf h2 rfl);exact Q00 lx sr
end Go.Proofs.YtcbolcknapeneaaGreatDoor
