/-
  Contracts of functions, printed by a program of this repo (wip/dec). No condition beyond those that stand in each.
-/
import Derived.Test.YtgjcljceccfgjaaGreatDoorG8
import Derived.Test.YtgjcljceccfgjaaGreatDoorProg
namespace Go.Proofs.YtgjcljceccfgjaaGreatDoor
set_option linter.unusedSimpArgs false
set_option linter.unusedVariables false
open Go.Fw
set_option maxRecDepth 20000
set_option maxHeartbeats 4000000
attribute [local irreducible] ACalls AMoves
def Qr8 :List Job->Nat->Bool
 | [],_=>true
 | x_ :: r,i=>bif (!(Q2a x_)) then false else Qr8 r (i+1)
def Qtd (l:List Job):Bool:=bif (decide ((l.length:Int) > 60)) then false else Qr8 l 0
theorem law15_Few_c (l:List Job) (hs0:l.length<=9223372036854775807∧(∀ y ∈ l,y.szM)):∀ objs,AGives Tryz.prog 15 [jobL l] objs (Bo (Qtd l)):=by
 generalize hR:Qtd l=R;refine ga (.cons lw .nil) lx (kp 4 [6,10,18]) Tryz.func15 ?_;have hk0:=hs0;obtain ⟨z12,z13⟩:l.length<=9223372036854775807∧(∀ y ∈ l,y.szM):=hs0;refine ai (fun h1=>?_) (fun h2=>?_)
 ·have qh1:=of_decide_eq_true h1;obtain rfl:=foll hR (ct h1 rfl);exact Q30 lx sr
 ·have qh2:=of_decide_eq_false h2;refine Qw0 (fun (i:Nat)=>Qr8 (List.drop i l) i=R∧i<=l.length) (fun i=>l.length - i) (fun i=>[(0,jobL l),(2,Bo false),(3,I (i:Int))]) (fun i=>[]) 0 (wk [] .nil (sl lw (s1 (s1 .nil)))) ⟨foll hR (cf h2 rfl),by exact omA⟩ ?_;clear hR;rintro i ⟨hR,hj⟩;(try dsimp only at hR hj);refine ai (fun h3=>?_) (fun h4=>?_)
  ·have hlt:=ltA h3;rw [Qo0 Job.zero hlt] at hR;have hxz:(l.getD i Job.zero).szM:=QD4 (by first|assumption|grind) (Job.szz _);have hkz:=hxz;obtain ⟨z5,z6,z7,z8,z9⟩:((l.getD i Job.zero).name).size<=9223372036854775807∧((l.getD i Job.zero).user).size<=9223372036854775807∧((l.getD i Job.zero).account).size<=9223372036854775807∧((((l.getD i Job.zero).shape).alts).length<=9223372036854775807)∧((l.getD i Job.zero).after).length<=9223372036854775807:=hxz;refine ai gkA ?_;refine us (law14_Few_c (l.getD i Job.zero) _) ?_;refine ai (fun h10=>?_) (fun h11=>?_)
   ·obtain rfl:=foll hR (ct h10 rfl);exact Q30 lx sr
   ·exact QA0 (i+1) (wk [] .nil (sl lw (s1 (sv (Qt0 (I_eq (wr omA)) lx) .nil)))) omA ⟨foll hR (cf h11 rfl),by exact omA⟩
  ·rw [Qp0 (l:=l) (j:=i) (geA h4)] at hR;obtain rfl:=foll hR rfl;exact Q30 lx sr
def Q02 (x_:Node):Bool:=bif ((((decide (x_.epoch<0))||(decide (x_.epoch > 999999999)))||(!(QT9 x_.since)))||(!(QT9 x_.asked))) then false else bif (x_.state==0) then ((x_.job==0)&&(Qp2 ([0]:List Int) x_.want)) else bif (x_.state==1) then (((decide (x_.job >= 1))&&(decide (x_.job<=99999)))&&(Qp2 ([0,1,3,4]:List Int) x_.want)) else bif (x_.state==2) then (((decide (x_.job >= 1))&&(decide (x_.job<=99999)))&&(Qp2 ([0,2]:List Int) x_.want)) else bif (x_.state==3) then (((decide (x_.job >= 1))&&(decide (x_.job<=99999)))&&(Qp2 ([5]:List Int) x_.want)) else bif (x_.state==4) then ((x_.job==0)&&(Qp2 ([0,6]:List Int) x_.want)) else false
theorem fleet_fine_c (x_:Node):∀ objs,AGives Tryz.prog 138 [Node.a x_] objs (Bo (Q02 x_)):=by
 generalize hR:Q02 x_=R;refine ga (.cons (Node.low _ _) .nil) lx (kp 5 [24,35,36,41,44,47,50]) Tryz.func138 ?_;(first|apply u2|apply u3|apply u4|apply us);exact QBe x_.since _;(first|apply u2|apply u3|apply u4|apply us);exact QBe x_.asked _;refine ai (fun h1=>?_) (fun h2=>?_)
 ·obtain rfl:=foll hR (ct h1 rfl);exact Q30 lx sr
 ·refine Or.inl ?_;refine ai (fun h3=>?_) (fun h4=>?_)
  ·(first|apply u2|apply u3|apply u4|apply us);exact AGives.as2 (QF3 ([0]:List Int) x_.want szA _) (av (QS7 (c:=(fun q_=>[I q_])) (d:=0) ([0]:List Int) rfl) (a1 .nil));obtain rfl:=foll hR (cf h2 (ct h3 rfl));exact Q30 lx sr
  ·refine ai (fun h5=>?_) (fun h6=>?_)
   ·refine Or.inl ?_;(first|apply u2|apply u3|apply u4|apply us);exact AGives.as2 (QF3 ([0,1,3,4]:List Int) x_.want szA _) (av (QS7 (c:=(fun q_=>[I q_])) (d:=0) ([0,1,3,4]:List Int) rfl) (a1 .nil));obtain rfl:=foll hR (cf h2 (cf h4 (ct h5 rfl)));exact Q30 lx sr
   ·refine ai (fun h7=>?_) (fun h8=>?_)
    ·refine Or.inl ?_;(first|apply u2|apply u3|apply u4|apply us);exact AGives.as2 (QF3 ([0,2]:List Int) x_.want szA _) (av (QS7 (c:=(fun q_=>[I q_])) (d:=0) ([0,2]:List Int) rfl) (a1 .nil));obtain rfl:=foll hR (cf h2 (cf h4 (cf h6 (ct h7 rfl))));exact Q30 lx sr
    ·refine ai (fun h9=>?_) (fun h10=>?_)
     ·refine Or.inl ?_;(first|apply u2|apply u3|apply u4|apply us);exact AGives.as2 (QF3 ([5]:List Int) x_.want szA _) (av (QS7 (c:=(fun q_=>[I q_])) (d:=0) ([5]:List Int) rfl) (a1 .nil));obtain rfl:=foll hR (cf h2 (cf h4 (cf h6 (cf h8 (ct h9 rfl)))));exact Q30 lx sr
     ·refine ai (fun h11=>?_) (fun h12=>?_)
      ·refine Or.inl ?_;(first|apply u2|apply u3|apply u4|apply us);exact AGives.as2 (QF3 ([0,6]:List Int) x_.want szA _) (av (QS7 (c:=(fun q_=>[I q_])) (d:=0) ([0,6]:List Int) rfl) (a1 .nil));obtain rfl:=foll hR (cf h2 (cf h4 (cf h6 (cf h8 (cf h10 (ct h11 rfl))))));exact Q30 lx sr
      ·obtain rfl:=foll hR (cf h2 (cf h4 (cf h6 (cf h8 (cf h10 (cf h12 rfl))))));exact Q30 lx sr
def QS4 (s:ByteArray):Bool:=(((Qw5 s).2==0)&&(QZ1 ((Qw5 s).1) 1 16))
theorem Q7e (s:ByteArray) (hs0:s.size<=4294967296):∀ objs,AGives Tryz.prog 184 [Sg s] objs (Bo (QS4 s)):=by
 generalize hR:QS4 s=R;refine ga (l1 .nil) lx (kp 5 []) Tryz.func184 ?_;have hk0:=hs0;obtain z1:s.size<=4294967296:=hs0;refine us (QTd s szA _) ?_;(first|apply u2|apply u3|apply u4|apply us);exact QV3 ((Qw5 s).1) 1 16 _;obtain rfl:=foll hR rfl;exact Q30 lx sr
def QU7 (s:ByteArray):Int × Bool:=bif (((!(QP8 s))||(decide ((ByteArray.size s:Int) > 9)))||((decide ((ByteArray.size s:Int) > 1))&&(((s.data.toList.getD 0 0).toNat:Int)==48))) then (0,false) else ((Qxb s).1,true)
theorem lex_number_c (s:ByteArray) (hs0:s.size<=4294967296):∀ objs,AGives Tryz.prog 246 [Sg s] objs (AVal.tup [I ((QU7 s).1),Bo ((QU7 s).2)]):=by
 generalize hR:QU7 s=R;refine ga (l1 .nil) (Low.tup' (l1 (l1 .nil))) (kp 6 [23]) Tryz.func246 ?_;have hk0:=hs0;obtain z3:s.size<=4294967296:=hs0;refine us (QEe s szA _) ?_;refine ai gkA ?_;refine ai (fun h1=>?_) (fun h2=>?_)
 ·obtain rfl:=foll hR (ct h1 rfl);exact Q30 (Low.tup' (l1 (l1 .nil))) (Seen.tup (e1 (e1 .nil)))
 ·refine us (strconv_Atoi_c s szA (by exact lex_digits_ok (by assumption)) _) ?_;refine dchk (by kernel_rfl) ?_;(repeat ((first|refine ai rfl ?_|refine ai (fun _=>rfl) ?_)));obtain rfl:=foll hR (cf h2 rfl);exact Q30 (Low.tup' (l1 (l1 .nil))) (Seen.tup (e1 (e1 .nil)))
theorem Qqf (l:List Int) (r_:Int) (hl:l.length<=4294967296):AMoves Tryz.prog 239 [.ptr 0 0 2 0 0,J r_] [(0,.row 54 2 [[.sel 0 0 2 0 0,.own 1 0 1 0 l.length]]),(0,Qw4 l)] 1 (.tup [I (w64 (((Q01 l r_).length:Int) - (l.length:Int))),.lit .nilIface]) [(0,.row 54 2 [[.ptr 0 0 2 0 0,.own 1 0 1 0 (Q01 l r_).length]]),(0,Qw4 (Q01 l r_))]:=by
 refine AMoves.of_cwp (fun t=>Nat.ble 1000000 t||Nat.blt t 7) Tryz.func239 rfl rfl rfl ?_
 refine us (AMoves.on [0,1] (QFf bldT0 (x:=.own 1 0 1 0 l.length) (rest:=[(0,Qw4 l)]) (n0:=2) (by simp)) (by decide) rfl rfl rfl (.cons _ _ _ _ (.row1 _ _ _ _ (.cons _ _ _ _ (Qz1 rfl) (.cons _ _ _ _ (dn_own rfl) .nil))) (.cons _ _ _ _ (.same _ (QB8 fun _=>lowL1 rfl)) .nil)) rfl (.cons _ _ _ _ (dn_ptr rfl) .nil) (.cons _ _ _ _ (RenO.row1 _ _ _ _ (.cons _ _ _ _ (Ren.ptr _ _ _ _ _ _ rfl) (.cons _ _ _ _ (Ren.own _ _ _ _ _ _ rfl) .nil))) (.cons _ _ _ _ (RenO.same _ (QB8 fun _=>lowL1 rfl)) .nil)) (Ren.low _ (.tup _ (fun x h=>nomatch h)))) ?_
 refine us (AMoves.on [1] (Qve l r_ hl) (by decide) rfl rfl rfl (.cons _ _ _ _ (dn_row rfl (QB8 fun _=>lowL1 rfl)) .nil) rfl (.cons _ _ _ _ (QT0 rfl rfl) (.cons _ _ _ _ (Qk8 (Qp3 rfl)) .nil)) (.cons _ _ _ _ (RenO.same _ (QB8 fun _=>lowL1 rfl)) .nil) (Ren.own _ _ _ _ _ _ rfl)) ?_
 refine Q41 (fun _:Unit=>.tup [I (w64 (((Q01 l r_).length:Int) - (l.length:Int))),.lit .nilIface]) (fun _:Unit=>[(0,.row 54 2 [[.ptr 0 0 2 0 0,.own 1 0 1 0 (Q01 l r_).length]]),(0,Qw4 (Q01 l r_))]) (leaf:=()) rfl ?_
 exact Q48 [0,2] rfl (by decide) (.cons 0 _ _ _ _ rfl (Qk0 (.cons _ _ _ _ (Q50 0 rfl rfl) (.cons _ _ _ _ (Q3e 1 rfl rfl rfl) .nil))) (.cons 2 _ _ _ _ rfl (Qzb rfl (QB8 fun _=>lowL1 rfl)) .nil)) (turn_tup (.cons _ _ _ _ (Qo1 (Qp3 rfl)) (.cons _ _ _ _ (Qo1 (Qp3 rfl)) .nil)))
def QC4 (l:List Dep):List Dep->Nat->Bool
 | [],_=>(decide ((l.length:Int)<=4))
 | x_ :: r,i=>bif (((!(QZ1 x_.how 1 3))||(!(QVa x_.job)))||(QH0 (List.take i l) (fun (y:Dep)=>(y.job==x_.job)))) then false else QC4 l r (i+1)
def Qo7 (l:List Dep):Bool:=QC4 l l 0
theorem cmd_deps_c (l:List Dep) (hs0:l.length<=4294967296):∀ objs,AGives Tryz.prog 186 [depL l] objs (Bo (Qo7 l)):=by
 generalize hR:Qo7 l=R;refine ga (.cons lw .nil) lx (kp 6 [6,7,8,9,30]) Tryz.func186 ?_;have hk0:=hs0;obtain z9:l.length<=4294967296:=hs0;refine Qw0 (fun (i:Nat)=>QC4 l (List.drop i l) i=R∧i<=l.length) (fun i=>l.length - i) (fun i=>[(0,depL l),(2,Bo false),(6,depL l),(7,I (l.length:Int)),(8,I (i:Int))]) (fun i=>[]) 0 (wk [] .nil (sl lw (s1 (sl lw (s1 (s1 .nil)))))) ⟨foll hR rfl,by exact omA⟩ ?_;clear hR;rintro i ⟨hR,hj⟩;(try dsimp only at hR hj);refine ai (fun h1=>?_) (fun h2=>?_)
 ·have hlt:=ltA h1;rw [Qo0 Dep.zero hlt] at hR;refine ai gkA ?_;refine ai gkA ?_;have cl1:∀ (y1:Dep),AMoves Tryz.prog 200 [Dep.a y1,AVal.ptr 0 0 2 0 0] [(0,AObj.row 129 2 [[I (l.getD i Dep.zero).how,I (l.getD i Dep.zero).job]])] 1 (Bo ((fun (y:Dep)=>(y.job==(l.getD i Dep.zero).job)) y1)) [(0,AObj.row 129 2 [[I (l.getD i Dep.zero).how,I (l.getD i Dep.zero).job]])]:=by
   intro y1;have hR:(fun (y:Dep)=>(y.job==(l.getD i Dep.zero).job)) y1=(fun (y:Dep)=>(y.job==(l.getD i Dep.zero).job)) y1:=rfl;refine mo (kp 4 []) Tryz.func200 ?_;refine Q41 (fun r:Bool=>Bo r) (fun _=>[(0,AObj.row 129 2 [[I (l.getD i Dep.zero).how,I (l.getD i Dep.zero).job]])]) (leaf:=(y1.job==(l.getD i Dep.zero).job)) (foll hR rfl) ?_;exact tt [0] (tO rfl (ts Dep.lo) .nil) t1
  have hof1:AMoves Tryz.prog 156 [depL (List.take i l),AVal.fn (.func 200) [] [AVal.ptr 0 0 2 0 0]] [(0,AObj.row 129 2 [[I (l.getD i Dep.zero).how,I (l.getD i Dep.zero).job]])] 1 (Bo (QH0 (List.take i l) (fun (y:Dep)=>(y.job==(l.getD i Dep.zero).job)))) [(0,AObj.row 129 2 [[I (l.getD i Dep.zero).how,I (l.getD i Dep.zero).job]])]:=by
   have hR:QH0 (List.take i l) (fun (y:Dep)=>(y.job==(l.getD i Dep.zero).job))=QH0 (List.take i l) (fun (y:Dep)=>(y.job==(l.getD i Dep.zero).job)):=rfl;refine mo (kp 5 []) Tryz.func156 ?_;have hof2:AMoves Tryz.prog 168 [depL (List.take i l),AVal.fn (.func 200) [] [AVal.ptr 0 0 2 0 0]] [(0,AObj.row 129 2 [[I (l.getD i Dep.zero).how,I (l.getD i Dep.zero).job]])] 1 (I (Qr1 (List.take i l) (fun (y:Dep)=>(y.job==(l.getD i Dep.zero).job)))) [(0,AObj.row 129 2 [[I (l.getD i Dep.zero).how,I (l.getD i Dep.zero).job]])]:=by
    have hR:Qr1 (List.take i l) (fun (y:Dep)=>(y.job==(l.getD i Dep.zero).job))=Qr1 (List.take i l) (fun (y:Dep)=>(y.job==(l.getD i Dep.zero).job)):=rfl;refine mo (kp 6 [7,8,9,16]) Tryz.func168 ?_;refine Qw0 (fun (i1:Nat)=>QT3 (fun (y:Dep)=>(y.job==(l.getD i Dep.zero).job)) (List.drop i1 (List.take i l)) i1=Qr1 (List.take i l) (fun (y:Dep)=>(y.job==(l.getD i Dep.zero).job))∧i1<=(List.take i l).length) (fun i1=>(List.take i l).length - i1) (fun i1=>[(0,depL (List.take i l)),(1,AVal.fn (.func 200) [] [AVal.ptr 0 0 2 0 0]),(4,I 0),(7,I ((List.take i l).length:Int)),(8,I (i1:Int))]) (fun i1=>[(0,AObj.row 129 2 [[I (l.getD i Dep.zero).how,I (l.getD i Dep.zero).job]])]) 0 (wk [0] (tO rfl (ts Dep.lo) .nil) (sl lw (sv (Q51 .nil (cv (Q50 0 rfl rfl) .nil)) (s1 (s1 (s1 .nil)))))) ⟨foll hR rfl,by exact omA⟩ ?_;clear hR;rintro i1 ⟨hR,hj⟩;(try dsimp only at hR hj);refine ai (fun h3=>?_) (fun h4=>?_)
    ·have hlt:=ltA h3;rw [Qo0 Dep.zero hlt] at hR;refine ai gkA ?_;refine us (mv [0] (cl1 ((List.take i l).getD i1 Dep.zero)) (dO (ds Dep.lo) .nil) (dl (Dep.low _ _) (dp .nil)) (rO (re Dep.lo) .nil) rx) ?_;refine ai (fun h5=>?_) (fun h6=>?_)
     ·refine Q41 (fun r:Int=>I r) (fun r:Int=>[(0,AObj.row 129 2 [[I (l.getD i Dep.zero).how,I (l.getD i Dep.zero).job]])]) (leaf:=(i1:Int)) (foll hR (ct h5 rfl)) ?_;exact tt [0] (tO rfl (ts Dep.lo) .nil) t1
     ·exact QA0 (i1+1) (wk [0] (tO rfl (ts Dep.lo) .nil) (sl lw (sv (Q51 .nil (cv (Q50 0 rfl rfl) .nil)) (s1 (s1 (sv (Qt0 (I_eq (wr omA)) lx) .nil)))))) omA ⟨foll hR (cf h6 rfl),by exact omA⟩
    ·rw [Qp0 (l:=(List.take i l)) (j:=i1) (geA h4)] at hR;refine Q41 (fun r:Int=>I r) (fun r:Int=>[(0,AObj.row 129 2 [[I (l.getD i Dep.zero).how,I (l.getD i Dep.zero).job]])]) (leaf:=(-1)) (foll hR rfl) ?_;exact tt [0] (tO rfl (ts Dep.lo) .nil) t1
   refine us (mv [0] (hof2) (dO (ds Dep.lo) .nil) (dl lw (dv (dn_fn .nil (dp .nil)) .nil)) (rO (re Dep.lo) .nil) rx) ?_;refine Q41 (fun r:Bool=>Bo r) (fun r:Bool=>[(0,AObj.row 129 2 [[I (l.getD i Dep.zero).how,I (l.getD i Dep.zero).job]])]) (leaf:=(decide ((Qr1 (List.take i l) (fun (y:Dep)=>(y.job==(l.getD i Dep.zero).job))) >= 0))) (foll hR rfl) ?_;exact tt [0] (tO rfl (ts Dep.lo) .nil) t1
  refine us (mv [0] (hof1) (dO (ds Dep.lo) .nil) (dv (dn_as (as_take l i ckA) lw) (dv (dn_fn .nil (dp .nil)) .nil)) (rO (re Dep.lo) .nil) rx) ?_;refine us (QV3 ((l.getD i Dep.zero).how) 1 3 _) ?_;(first|apply u2|apply u3|apply u4|apply us);exact Qhf ((l.getD i Dep.zero).job) _;refine ai (fun h7=>?_) (fun h8=>?_)
  ·obtain rfl:=foll hR (ct h7 rfl);exact Q30 lx sr
  ·exact QA0 (i+1) (wk [] .nil (sl lw (s1 (sl lw (s1 (sv (Qt0 (I_eq (wr omA)) lx) .nil)))))) omA ⟨foll hR (cf h8 rfl),by exact omA⟩
 ·rw [Qp0 (l:=l) (j:=i) (geA h2)] at hR;obtain rfl:=foll hR rfl;exact Q30 lx sr
def QP6 (l:List Alt):List Alt->Nat->Bool
 | [],_=>true
 | x_ :: r,i=>bif (Qb1 (List.take i l) (fun (y:Alt)=>(x_.nodes==y.nodes))) then false else QP6 l r (i+1)
def Ql6 (l:List Alt):Bool:=QP6 l l 0
theorem shape_apart_c (l:List Alt) (hs0:l.length<=4294967296):∀ objs,AGives Tryz.prog 202 [altL l] objs (Bo (Ql6 l)):=by
 generalize hR:Ql6 l=R;refine ga (.cons lw .nil) lx (kp 5 [5,6,7,8,16]) Tryz.func202 ?_;have hk0:=hs0;obtain z9:l.length<=4294967296:=hs0;refine Qw0 (fun (i:Nat)=>QP6 l (List.drop i l) i=R∧i<=l.length) (fun i=>l.length - i) (fun i=>[(0,altL l),(2,Bo false),(5,altL l),(6,I (l.length:Int)),(7,I (i:Int))]) (fun i=>[]) 0 (wk [] .nil (sl lw (s1 (sl lw (s1 (s1 .nil)))))) ⟨foll hR rfl,by exact omA⟩ ?_;clear hR;rintro i ⟨hR,hj⟩;(try dsimp only at hR hj);refine ai (fun h1=>?_) (fun h2=>?_)
 ·have hlt:=ltA h1;rw [Qo0 Alt.zero hlt] at hR;refine ai gkA ?_;refine ai gkA ?_;have cl1:∀ (y1:Alt),AMoves Tryz.prog 214 [Alt.a y1,AVal.ptr 0 0 2 0 0] [(0,AObj.row 137 2 [[I (l.getD i Alt.zero).nodes,I (l.getD i Alt.zero).wall]])] 1 (Bo ((fun (y:Alt)=>((l.getD i Alt.zero).nodes==y.nodes)) y1)) [(0,AObj.row 137 2 [[I (l.getD i Alt.zero).nodes,I (l.getD i Alt.zero).wall]])]:=by
   intro y1;have hR:(fun (y:Alt)=>((l.getD i Alt.zero).nodes==y.nodes)) y1=(fun (y:Alt)=>((l.getD i Alt.zero).nodes==y.nodes)) y1:=rfl;refine mo (kp 4 []) Tryz.func214 ?_;refine Q41 (fun r:Bool=>Bo r) (fun _=>[(0,AObj.row 137 2 [[I (l.getD i Alt.zero).nodes,I (l.getD i Alt.zero).wall]])]) (leaf:=((l.getD i Alt.zero).nodes==y1.nodes)) (foll hR rfl) ?_;exact tt [0] (tO rfl (ts Alt.lo) .nil) t1
  have hof1:AMoves Tryz.prog 203 [altL (List.take i l),AVal.fn (.func 214) [] [AVal.ptr 0 0 2 0 0]] [(0,AObj.row 137 2 [[I (l.getD i Alt.zero).nodes,I (l.getD i Alt.zero).wall]])] 1 (Bo (Qb1 (List.take i l) (fun (y:Alt)=>((l.getD i Alt.zero).nodes==y.nodes)))) [(0,AObj.row 137 2 [[I (l.getD i Alt.zero).nodes,I (l.getD i Alt.zero).wall]])]:=by
   have hR:Qb1 (List.take i l) (fun (y:Alt)=>((l.getD i Alt.zero).nodes==y.nodes))=Qb1 (List.take i l) (fun (y:Alt)=>((l.getD i Alt.zero).nodes==y.nodes)):=rfl;refine mo (kp 5 []) Tryz.func203 ?_;have hof2:AMoves Tryz.prog 215 [altL (List.take i l),AVal.fn (.func 214) [] [AVal.ptr 0 0 2 0 0]] [(0,AObj.row 137 2 [[I (l.getD i Alt.zero).nodes,I (l.getD i Alt.zero).wall]])] 1 (I (Qq1 (List.take i l) (fun (y:Alt)=>((l.getD i Alt.zero).nodes==y.nodes)))) [(0,AObj.row 137 2 [[I (l.getD i Alt.zero).nodes,I (l.getD i Alt.zero).wall]])]:=by
    have hR:Qq1 (List.take i l) (fun (y:Alt)=>((l.getD i Alt.zero).nodes==y.nodes))=Qq1 (List.take i l) (fun (y:Alt)=>((l.getD i Alt.zero).nodes==y.nodes)):=rfl;refine mo (kp 6 [7,8,9,16]) Tryz.func215 ?_;refine Qw0 (fun (i1:Nat)=>QS3 (fun (y:Alt)=>((l.getD i Alt.zero).nodes==y.nodes)) (List.drop i1 (List.take i l)) i1=Qq1 (List.take i l) (fun (y:Alt)=>((l.getD i Alt.zero).nodes==y.nodes))∧i1<=(List.take i l).length) (fun i1=>(List.take i l).length - i1) (fun i1=>[(0,altL (List.take i l)),(1,AVal.fn (.func 214) [] [AVal.ptr 0 0 2 0 0]),(4,I 0),(7,I ((List.take i l).length:Int)),(8,I (i1:Int))]) (fun i1=>[(0,AObj.row 137 2 [[I (l.getD i Alt.zero).nodes,I (l.getD i Alt.zero).wall]])]) 0 (wk [0] (tO rfl (ts Alt.lo) .nil) (sl lw (sv (Q51 .nil (cv (Q50 0 rfl rfl) .nil)) (s1 (s1 (s1 .nil)))))) ⟨foll hR rfl,by exact omA⟩ ?_;clear hR;rintro i1 ⟨hR,hj⟩;(try dsimp only at hR hj);refine ai (fun h3=>?_) (fun h4=>?_)
    ·have hlt:=ltA h3;rw [Qo0 Alt.zero hlt] at hR;refine ai gkA ?_;refine us (mv [0] (cl1 ((List.take i l).getD i1 Alt.zero)) (dO (ds Alt.lo) .nil) (dl (Alt.low _ _) (dp .nil)) (rO (re Alt.lo) .nil) rx) ?_;refine ai (fun h5=>?_) (fun h6=>?_)
     ·refine Q41 (fun r:Int=>I r) (fun r:Int=>[(0,AObj.row 137 2 [[I (l.getD i Alt.zero).nodes,I (l.getD i Alt.zero).wall]])]) (leaf:=(i1:Int)) (foll hR (ct h5 rfl)) ?_;exact tt [0] (tO rfl (ts Alt.lo) .nil) t1
     ·exact QA0 (i1+1) (wk [0] (tO rfl (ts Alt.lo) .nil) (sl lw (sv (Q51 .nil (cv (Q50 0 rfl rfl) .nil)) (s1 (s1 (sv (Qt0 (I_eq (wr omA)) lx) .nil)))))) omA ⟨foll hR (cf h6 rfl),by exact omA⟩
    ·rw [Qp0 (l:=(List.take i l)) (j:=i1) (geA h4)] at hR;refine Q41 (fun r:Int=>I r) (fun r:Int=>[(0,AObj.row 137 2 [[I (l.getD i Alt.zero).nodes,I (l.getD i Alt.zero).wall]])]) (leaf:=(-1)) (foll hR rfl) ?_;exact tt [0] (tO rfl (ts Alt.lo) .nil) t1
   refine us (mv [0] (hof2) (dO (ds Alt.lo) .nil) (dl lw (dv (dn_fn .nil (dp .nil)) .nil)) (rO (re Alt.lo) .nil) rx) ?_;refine Q41 (fun r:Bool=>Bo r) (fun r:Bool=>[(0,AObj.row 137 2 [[I (l.getD i Alt.zero).nodes,I (l.getD i Alt.zero).wall]])]) (leaf:=(decide ((Qq1 (List.take i l) (fun (y:Alt)=>((l.getD i Alt.zero).nodes==y.nodes))) >= 0))) (foll hR rfl) ?_;exact tt [0] (tO rfl (ts Alt.lo) .nil) t1
  refine us (mv [0] (hof1) (dO (ds Alt.lo) .nil) (dv (dn_as (as_take l i ckA) lw) (dv (dn_fn .nil (dp .nil)) .nil)) (rO (re Alt.lo) .nil) rx) ?_;refine ai (fun h7=>?_) (fun h8=>?_)
  ·obtain rfl:=foll hR (ct h7 rfl);exact Q30 lx sr
  ·exact QA0 (i+1) (wk [] .nil (sl lw (s1 (sl lw (s1 (sv (Qt0 (I_eq (wr omA)) lx) .nil)))))) omA ⟨foll hR (cf h8 rfl),by exact omA⟩
 ·rw [Qp0 (l:=l) (j:=i) (geA h2)] at hR;obtain rfl:=foll hR rfl;exact Q30 lx sr
def Qka (a:Cmd) (b:Cmd):Bool:=bif ((!(Qea a.shape b.shape))||(!(QX6 a.after b.after))) then false else ((((((((((((a.kind==b.kind)&&(a.job==b.job))&&(ByteArray.toList a.name==ByteArray.toList b.name))&&(ByteArray.toList a.user==ByteArray.toList b.user))&&(ByteArray.toList a.account==ByteArray.toList b.account))&&(a.prio==b.prio))&&(a.hasPrio==b.hasPrio))&&(a.time==b.time))&&(a.hasTime==b.hasTime))&&(a.node==b.node))&&(a.nodes==b.nodes))&&(a.from_==b.from_))
theorem cmd_Same_c (a:Cmd) (b:Cmd) (hs0:a.sz) (hs1:b.sz):∀ objs,AGives Tryz.prog 166 [Cmd.a a,Cmd.a b] objs (Bo (Qka a b)):=by
 generalize hR:Qka a b=R;refine ga (.cons (Cmd.low _ _) (.cons (Cmd.low _ _) .nil)) lx (kp 5 [18]) Tryz.func166 ?_;have hk0:=hs0;obtain ⟨z3,z4,z5,z6,z7⟩:a.name.size<=4294967296∧a.user.size<=4294967296∧a.account.size<=4294967296∧(a.shape.alts.length<=4294967296)∧a.after.length<=4294967296:=hs0;have hk1:=hs1;obtain ⟨z8,z9,z10,z11,z12⟩:b.name.size<=4294967296∧b.user.size<=4294967296∧b.account.size<=4294967296∧(b.shape.alts.length<=4294967296)∧b.after.length<=4294967296:=hs1;refine us (shape_Same_c a.shape b.shape szA szA _) ?_;(first|apply u2|apply u3|apply u4|apply us);exact QYd a.after b.after szA szA _;refine ai (fun h1=>?_) (fun h2=>?_)
 ·obtain rfl:=foll hR (ct h1 rfl);exact Q30 lx sr
 ·obtain rfl:=foll hR (cf h2 rfl);exact Q30 lx sr
def Q0a (set_:Int):Bool:=((wu64 (BitVec.ofInt 64 set_ &&& ~~~(BitVec.ofInt 64 (QF4 48))).toNat)==0)
theorem QTf (set_:Int):∀ objs,AGives Tryz.prog 170 [U set_] objs (Bo (Q0a set_)):=by
 generalize hR:Q0a set_=R;refine ga (l1 .nil) lx (kp 3 []) Tryz.func170 ?_;refine us (nodeset_All_c 48 _) ?_;obtain rfl:=foll hR rfl;exact Q30 lx sr
def Qh7 (a:Usage) (b:Usage):Int:=(QBb ([(Qg1 a.user b.user),(Qg1 a.account b.account)]:List Int))
theorem Qbc (a:Usage) (b:Usage) (hs0:a.sz) (hs1:b.sz):∀ objs,AGives Tryz.prog 118 [Usage.a a,Usage.a b] objs (I (Qh7 a b)):=by
 generalize hR:Qh7 a b=R;refine ga (.cons (Usage.low _ _) (.cons (Usage.low _ _) .nil)) lx (kp 5 []) Tryz.func118 ?_;have hk0:=hs0;obtain ⟨z1,z2⟩:a.user.size<=4294967296∧a.account.size<=4294967296:=hs0;have hk1:=hs1;obtain ⟨z3,z4⟩:b.user.size<=4294967296∧b.account.size<=4294967296:=hs1;refine dchk (by kernel_rfl) ?_;(first|apply u2|apply u3|apply u4|apply us);exact QT4 a.user b.user _;(first|apply u2|apply u3|apply u4|apply us);exact QT4 a.account b.account _;(first|apply u2|apply u3|apply u4|apply us);exact AGives.as2 (Qye ([(Qg1 a.user b.user),(Qg1 a.account b.account)]:List Int) szA _) (av (QS7 (c:=(fun q_=>[I q_])) (d:=0) ([(Qg1 a.user b.user),(Qg1 a.account b.account)]:List Int) rfl) .nil);(repeat ((first|refine ai rfl ?_|refine ai (fun _=>rfl) ?_|refine ai (fun _=>QT4 a.user b.user _) ?_|refine ai (fun _=>QT4 a.account b.account _) ?_|refine ai (fun _=>AGives.as2 (Qye ([(Qg1 a.user b.user),(Qg1 a.account b.account)]:List Int) szA _) (av (QS7 (c:=(fun q_=>[I q_])) (d:=0) ([(Qg1 a.user b.user),(Qg1 a.account b.account)]:List Int) rfl) .nil)) ?_)));obtain rfl:=foll hR rfl;exact Q30 lx sr
def QS6 (is:Int->Node->Bool):List Node->List Int->Nat->(List Int)
 | [],l,_=>l
 | x_ :: r,l,i=>bif (is (i:Int) x_) then QS6 is r (l++([(i:Int)]:List Int)) (i+1) else QS6 is r l (i+1)
def QQ4 (l:List Int):Int:=(Q85 l).1
def Qw3 (s:State) (is:Int->Node->Bool):Int:=QQ4 (QS6 is s.nodes [] 0)
def QR6 (s:State) (jobs:List (Int × Job)) (all_:List (Int × Resize)):List Node->Nat->Bool
 | [],_=>true
 | x_ :: r,i=>bif ((x_.state==1)&&((!(getM x_.job jobs).isSome)||(!(Qf4 (((getM x_.job jobs).getD Job.zero).nodes) (i:Int))))) then false else bif ((x_.state==2)&&(!(getM x_.job jobs).isSome)) then false else bif (((x_.state==2)||(x_.want==4))&&(!(Qf4 (((getM x_.job all_).getD Resize.zero).nodes) (i:Int)))) then false else bif ((x_.state==3)&&(decide (x_.job >= s.nextJob))) then false else QR6 s jobs all_ r (i+1)
def QN3 (s:State) (jobs:List (Int × Job)) (all_:List (Int × Resize)):Bool:=QR6 s jobs all_ s.nodes 0
theorem state_nodes_c (s:State) (jobs:List (Int × Job)) (all_:List (Int × Resize)) (hs0:s.sz):AMoves Tryz.prog 60 [State.a s,AVal.map 0,AVal.map 1] [(0,AObj.other (.map (mapEs ik Job.a 0 jobs) jobs.length)),(0,AObj.other (.map (mapEs ik Resize.a 0 all_) all_.length))] 2 (Bo (QN3 s jobs all_)) [(0,AObj.other (.map (mapEs ik Job.a 0 jobs) jobs.length)),(0,AObj.other (.map (mapEs ik Resize.a 0 all_) all_.length))]:=by
 generalize hR:QN3 s jobs all_=R;refine mo (kp 12 [13,14,15,16,35,50,58,70]) Tryz.func60 ?_;have hk0:=hs0;obtain ⟨z11,z12,z13,z14,z15,z16,z17⟩:=hs0;refine Qw0 (fun (i:Nat)=>QR6 s jobs all_ (List.drop i s.nodes) i=R∧i<=s.nodes.length) (fun i=>s.nodes.length - i) (fun i=>[(1,AVal.map 0),(2,AVal.map 1),(3,AVal.ptr 2 0 8 0 0),(6,Bo false),(13,nodeL s.nodes),(14,I (s.nodes.length:Int)),(15,I (i:Int))]) (fun i=>[(0,AObj.other (.map (mapEs ik Job.a 0 jobs) jobs.length)),(0,AObj.other (.map (mapEs ik Resize.a 0 all_) all_.length)),(0,AObj.row 28 8 [[I s.now,nodeL s.nodes,jobL s.jobs,Qi2 s.resizes,bookL s.books,QO2 s.ledger,I s.nextJob,I s.nextBook]])]) 0 (wk [0,1,2] (tO rfl (Qq2 _ rfl rfl (fun _=>Job.low _ _)) (tO rfl (Qq2 _ rfl rfl (fun _=>Resize.low _ _)) (tO rfl (ts State.lo) .nil))) (sv (QK7 0 rfl rfl) (sv (QK7 1 rfl rfl) (sv (Q50 2 rfl rfl) (s1 (sl lw (s1 (s1 .nil)))))))) ⟨foll hR rfl,by exact omA⟩ ?_;clear hR;rintro i ⟨hR,hj⟩;(try dsimp only at hR hj);refine ai (fun h1=>?_) (fun h2=>?_)
 ·have hlt:=ltA h1;rw [Qo0 Node.zero hlt] at hR;refine ai gkA ?_;(first|refine ⟨_,_,QA7 rfl _ _,QE7 (ek:=ik) ((s.nodes.getD i Node.zero).job) jobs Job.zero (Q4c (a1 (a1 (a1 (a1 (a1 (av (Qo5) (a1 (a1 (a1 (a1 (av (Qo5) (a1 (a1 (a1 (a1 (a1 (a1 (a1 (a1 (a1 .nil))))))))))))))))))))),?_⟩|refine ⟨_,fun _=>⟨_,_,QA7 rfl _ _,QE7 (ek:=ik) ((s.nodes.getD i Node.zero).job) jobs Job.zero (Q4c (a1 (a1 (a1 (a1 (a1 (av (Qo5) (a1 (a1 (a1 (a1 (av (Qo5) (a1 (a1 (a1 (a1 (a1 (a1 (a1 (a1 (a1 .nil))))))))))))))))))))),rfl,rfl⟩,?_⟩|refine ⟨_,rfl,⟨_,_,QA7 rfl _ _,QE7 (ek:=ik) ((s.nodes.getD i Node.zero).job) jobs Job.zero (Q4c (a1 (a1 (a1 (a1 (a1 (av (Qo5) (a1 (a1 (a1 (a1 (av (Qo5) (a1 (a1 (a1 (a1 (a1 (a1 (a1 (a1 (a1 .nil))))))))))))))))))))),Sub.refl _,rfl⟩,?_⟩);(first|apply u2|apply u3|apply u4|apply us);exact QEd (((getM (s.nodes.getD i Node.zero).job jobs).getD Job.zero).nodes) (i:Int) _;refine ai (fun h3=>?_) (fun h4=>?_)
  ·obtain rfl:=foll hR (ct h3 rfl);exact rq (tt [0,1] (tO rfl (Qq2 _ rfl rfl (fun _=>Job.low _ _)) (tO rfl (Qq2 _ rfl rfl (fun _=>Resize.low _ _)) .nil)) t1)
  ·refine ai (fun h5=>?_) (fun h6=>?_)
   ·obtain rfl:=foll hR (cf h4 (ct h5 rfl));exact rq (tt [0,1] (tO rfl (Qq2 _ rfl rfl (fun _=>Job.low _ _)) (tO rfl (Qq2 _ rfl rfl (fun _=>Resize.low _ _)) .nil)) t1)
   ·(first|refine ⟨_,_,QA7 rfl _ _,QE7 (ek:=ik) ((s.nodes.getD i Node.zero).job) all_ Resize.zero (AsA.refl _),?_⟩|refine ⟨_,fun _=>⟨_,_,QA7 rfl _ _,QE7 (ek:=ik) ((s.nodes.getD i Node.zero).job) all_ Resize.zero (AsA.refl _),rfl,rfl⟩,?_⟩|refine ⟨_,rfl,⟨_,_,QA7 rfl _ _,QE7 (ek:=ik) ((s.nodes.getD i Node.zero).job) all_ Resize.zero (AsA.refl _),Sub.refl _,rfl⟩,?_⟩);(first|apply u2|apply u3|apply u4|apply us);exact QEd (((getM (s.nodes.getD i Node.zero).job all_).getD Resize.zero).nodes) (i:Int) _;refine ai (fun h7=>?_) (fun h8=>?_)
    ·obtain rfl:=foll hR (cf h4 (cf h6 (ct h7 rfl)));exact rq (tt [0,1] (tO rfl (Qq2 _ rfl rfl (fun _=>Job.low _ _)) (tO rfl (Qq2 _ rfl rfl (fun _=>Resize.low _ _)) .nil)) t1)
    ·refine ai (fun h9=>?_) (fun h10=>?_)
     ·obtain rfl:=foll hR (cf h4 (cf h6 (cf h8 (ct h9 rfl))));exact rq (tt [0,1] (tO rfl (Qq2 _ rfl rfl (fun _=>Job.low _ _)) (tO rfl (Qq2 _ rfl rfl (fun _=>Resize.low _ _)) .nil)) t1)
     ·exact QA0 (i+1) (wk [0,1,2] (tO rfl (Qq2 _ rfl rfl (fun _=>Job.low _ _)) (tO rfl (Qq2 _ rfl rfl (fun _=>Resize.low _ _)) (tO rfl (ts State.lo) .nil))) (sv (QK7 0 rfl rfl) (sv (QK7 1 rfl rfl) (sv (Q50 2 rfl rfl) (s1 (sl lw (s1 (sv (Qt0 (I_eq (wr omA)) lx) .nil)))))))) omA ⟨foll hR (cf h4 (cf h6 (cf h8 (cf h10 rfl)))),by exact omA⟩
 ·rw [Qp0 (l:=s.nodes) (j:=i) (geA h2)] at hR;obtain rfl:=foll hR rfl;exact rq (tt [0,1] (tO rfl (Qq2 _ rfl rfl (fun _=>Job.low _ _)) (tO rfl (Qq2 _ rfl rfl (fun _=>Resize.low _ _)) .nil)) t1)
def Q20 (w:List Int) (n:Int) (width:Int):List Int:=(w++(Qi0 ((Ql1 n width).1)))
theorem Qa0 (w:List Int) (n:Int) (width:Int) (hs0:w.length<=35184372088832):AMoves Tryz.prog 19 [AVal.ptr 0 0 2 0 0,I n,I width] [(0,AObj.row 56 2 [[AVal.sel 0 0 2 0 0,AVal.own 1 0 1 0 w.length]]),(0,AObj.row 5 1 (w.map (fun q_=>[Y q_])))] 1 (AVal.tup []) [(0,AObj.row 56 2 [[AVal.sel 0 0 2 0 0,AVal.own 1 0 1 0 (Q20 w n width).length]]),(0,AObj.row 5 1 ((Q20 w n width).map (fun q_=>[Y q_])))]:=by
 generalize hR:Q20 w n width=R;refine mo (kp 8 []) Tryz.func19 ?_;have hk0:=hs0;obtain z1:w.length<=35184372088832:=hs0;refine us (pack_Number_c n width _) ?_;refine us (mv [0,1] (Q0d bldT1 w ((Ql1 n width).1) (by first|(exact QLa _ _)|exact szA) (by first|(exact QLa _ _)|exact szA)) (dO (dc (dv (Qz1 rfl) (dv (QT0 rfl lnA) .nil))) (dO (dr eqA) .nil)) (dp (d1 .nil)) (rO (rc (rv (rp 0 0 rfl) (rv (rw_ 2 0 rfl) .nil))) (rO rr .nil)) (Ren.low _ (Low.tup' (l1 (l1 .nil))))) ?_;obtain rfl:=foll hR rfl;exact rq (tt [0,2] (tO rfl (Qk0 (cv (Qn9 0 rfl rfl) (cv (to 1 lnA) .nil))) (tO rfl (tl eqA) .nil)) t1)
theorem QL1 (w:List Int) (n k:Int):(Q20 w n k).length<=w.length+8:=by
 have:=Qxa n k
 unfold Q20
 rw [List.length_append]
 have e:(Qi0 (Ql1 n k).1).length=(Ql1 n k).1.size:=by simp [Qi0]
 omega
theorem QD0 {w:List Int} (n k:Int) (h:Q31 w):Q31 (Q20 w n k):=Qz2 h (Qm3 _)
theorem QY9 {a n:Nat} (h:a+0<=n):a<=n:=h
theorem QA2 {w:List Int} {n k:Int} {c m:Nat} (h:w.length+(8+c)<=m):(Q20 w n k).length+c<=m:=by have:=QL1 w n k;omega
theorem imwA {P:Prop} (h:P:=by first|(refine QY9 ?_;(repeat (first|with_reducible apply image_writer_job_le|with_reducible apply image_writer_usage_le|with_reducible apply image_writer_book_le|with_reducible apply image_writer_resize_le|with_reducible apply image_writer_node_le|with_reducible apply image_writer_shape_le|with_reducible apply QU2|with_reducible apply image_writer_flag_le|with_reducible apply QA2));(try simp only [List.length_cons,List.length_nil]);omega)|exact szA):P:=h
theorem impA {P:Prop} (h:P:=by (repeat' apply And.intro) <;> (first|(refine QY9 ?_;(repeat (first|with_reducible apply image_writer_job_le|with_reducible apply image_writer_usage_le|with_reducible apply image_writer_book_le|with_reducible apply image_writer_resize_le|with_reducible apply image_writer_node_le|with_reducible apply image_writer_shape_le|with_reducible apply QU2|with_reducible apply image_writer_flag_le|with_reducible apply QA2));(try simp only [List.length_cons,List.length_nil]);omega)|((repeat (first|exact image_sign_ge|with_reducible apply image_writer_job_ge|with_reducible apply image_writer_usage_ge|with_reducible apply image_writer_book_ge|with_reducible apply image_writer_resize_ge|with_reducible apply image_writer_node_ge|with_reducible apply image_writer_shape_ge|with_reducible apply Q76|with_reducible apply image_writer_flag_ge|with_reducible apply QC0));(first|done|exact hx.1.1))|(repeat (first|exact hx.2|exact hp0.1|exact Q54|with_reducible apply image_writer_job_in|with_reducible apply image_writer_usage_in|with_reducible apply image_writer_book_in|with_reducible apply image_writer_resize_in|with_reducible apply image_writer_node_in|with_reducible apply image_writer_shape_in|with_reducible apply Q86|with_reducible apply image_writer_flag_in|with_reducible apply QD0)))):P:=h
theorem QC0 {w:List Int} {n k:Int} (h:1<=w.length):1<=(Q20 w n k).length:=by unfold Q20;rw [List.length_append];omega
theorem image_sign_ge:1<=(Q20 [] 73 1).length:=by decide
def Qu1 :List ByteArray->Nat->List Int->(List Int)
 | [],_,buf=>buf
 | x_ :: r,i,buf=>Qu1 r (i+1) (buf++(Qi0 ((QW2 x_).1)))
def Qz3 (buf:List Int):List Int:=buf
def QL0 (w:List Int) (l:List ByteArray):List Int:=Qz3 (Qu1 l 0 w)
theorem QF8 (w:List Int) (l:List ByteArray) (hs0:w.length<=35184372088832) (hs1:l.length<=4294967296∧(∀ y ∈ l,y.size<=4294967296)) (hp0:Q31 w∧w.length<=17592186044416∧l.length<=65536):AMoves Tryz.prog 65 [AVal.ptr 0 0 2 0 0,texts l] [(0,AObj.row 56 2 [[AVal.sel 0 0 2 0 0,AVal.own 1 0 1 0 w.length]]),(0,AObj.row 5 1 (w.map (fun q_=>[Y q_])))] 1 (AVal.tup []) [(0,AObj.row 56 2 [[AVal.sel 0 0 2 0 0,AVal.own 1 0 1 0 (QL0 w l).length]]),(0,AObj.row 5 1 ((QL0 w l).map (fun q_=>[Y q_])))]:=by
 generalize hR:QL0 w l=R;refine mo (kp 8 [8,9,10,11]) Tryz.func65 ?_;have hk0:=hs0;obtain z3:w.length<=35184372088832:=hs0;have hk1:=hs1;obtain ⟨z4,z5⟩:l.length<=4294967296∧(∀ y ∈ l,y.size<=4294967296):=hs1;refine Qq0 (fun (i:Nat) (buf:List Int)=>Qz3 (Qu1 (List.drop i l) i buf)=R∧i<=l.length∧buf.length<=w.length+65537*i∧Q31 buf) (fun i buf=>l.length - i) (fun i buf=>[(0,AVal.ptr 0 0 2 0 0),(8,texts l),(9,I (l.length:Int)),(10,I (i:Int))]) (fun i buf=>[(0,AObj.row 56 2 [[AVal.sel 0 0 2 0 0,AVal.own 1 0 1 0 buf.length]]),(0,AObj.row 5 1 (buf.map (fun q_=>[Y q_])))]) 0 w (wk [0,1] (tO rfl (Qk0 (cv (Qy2 0 rfl rfl) (cv (to 1 lnA) .nil))) (tO rfl (tl eqA) .nil)) (sv (Q50 0 rfl rfl) (sl lw (s1 (s1 .nil))))) ⟨foll hR rfl,by exact omA,by first|((refine ⟨?_,Qz2 hx.2 (Qm3 _)⟩;have h6:=Qt8 (l.getD i ⟨#[]⟩);have h7:=hx.1;simp only [List.length_append,QJ0];omega))|first|((exact ⟨by omega,hp0.1⟩))|exact exA⟩ ?_;clear hR;rintro i buf ⟨hR,hj,hx⟩;(try dsimp only at hR hj hx);refine ai (fun h1=>?_) (fun h2=>?_)
 ·have hlt:=ltA h1;rw [Qo0 ⟨#[]⟩ hlt] at hR;refine ai gkA ?_;refine us (pack_Text_c (l.getD i ⟨#[]⟩) _) ?_;refine us (mv [0,1] (Q0d bldT1 buf ((QW2 (l.getD i ⟨#[]⟩)).1) (by first|(exact Qfc _)|exact szA) (by first|(exact Qfc _)|exact szA)) (dO (dc (dv (Qz1 rfl) (dv (QT0 rfl lnA) .nil))) (dO (dr eqA) .nil)) (dp (d1 .nil)) (rO (rc (rv (rp 0 0 rfl) (rv (rw_ 2 0 rfl) .nil))) (rO rr .nil)) (Ren.low _ (Low.tup' (l1 (l1 .nil))))) ?_;exact Qm0 (i+1) (buf++(Qi0 ((QW2 (l.getD i ⟨#[]⟩)).1))) (wk [0,2] (tO rfl (Qk0 (cv (Qn9 0 rfl rfl) (cv (to 1 lnA) .nil))) (tO rfl (tl eqA) .nil)) (sv (Q50 0 rfl rfl) (sl lw (s1 (sv (Qt0 (I_eq (wr omA)) lx) .nil))))) omA ⟨foll hR (congrArg (fun p:(List Int)=>Qz3 p) rfl),by exact omA,by first|((refine ⟨?_,Qz2 hx.2 (Qm3 _)⟩;have h6:=Qt8 (l.getD i ⟨#[]⟩);have h7:=hx.1;simp only [List.length_append,QJ0];omega))|first|((exact ⟨by omega,hp0.1⟩))|exact exA⟩
 ·rw [Qp0 (l:=l) (j:=i) (geA h2)] at hR;replace hR:Qz3 buf=R:=fo2 (fun p:(List Int)=>Qz3 p) (buf) hR rfl;obtain rfl:=foll hR rfl;exact rq (tt [0,1] (tO rfl (Qk0 (cv (Qy2 0 rfl rfl) (cv (to 1 lnA) .nil))) (tO rfl (tl eqA) .nil)) t1)
theorem QN7 (w:List Int) (l:List ByteArray):(QL0 w l).length<=w.length+65537*l.length:=by
 have h:∀ (r:List ByteArray) (i:Nat) (b:List Int),(Qu1 r i b).length<=b.length+65537*r.length:=by
  intro r
  induction r with
  | nil=>intro i b;exact Nat.le_refl _
  | cons x r ih =>
   intro i b
   have h1:=ih (i+1) (b++Qi0 (QW2 x).1)
   have h2:=Qt8 x
   have e:(Qi0 (QW2 x).1).length=(QW2 x).1.size:=by simp [Qi0]
   rw [List.length_append,e] at h1
   show (Qu1 r (i+1) (b++Qi0 (QW2 x).1)).length<=_
   simp only [List.length_cons]
   omega
 exact h l 0 w
theorem QU2 {w:List Int} {l:List ByteArray} {c m:Nat} (h:w.length+(65537*l.length+c)<=m):(QL0 w l).length+c<=m:=by have:=QN7 w l;omega
theorem Q86 {w:List Int} (l:List ByteArray) (h:Q31 w):Q31 (QL0 w l):=by
 have hg:∀ (r:List ByteArray) (i:Nat) (b:List Int),Q31 b->Q31 (Qu1 r i b):=by
  intro r
  induction r with
  | nil=>intro i b hb;exact hb
  | cons x r ih=>intro i b hb;exact ih (i+1) _ (Qz2 hb (Qm3 _))
 exact hg l 0 w h
theorem Q76 {w:List Int} {l:List ByteArray} (h:1<=w.length):1<=(QL0 w l).length:=by
 have hg:∀ (r:List ByteArray) (i:Nat) (b:List Int),1<=b.length->1<=(Qu1 r i b).length:=by
  intro r
  induction r with
  | nil=>intro i b hb;exact hb
  | cons x r ih=>intro i b hb;exact ih (i+1) _ (by rw [List.length_append];omega)
 exact hg l 0 w h
def Q00 (r_:ImageReader) (width:Int):Int × ImageReader:=bif (r_.bad||((Qc0 r_.s r_.at_ width).2.2 != 0)) then (0,{ r_ with bad:=true }) else ((Qc0 r_.s r_.at_ width).1,{ r_ with at_:=(Qc0 r_.s r_.at_ width).2.1 })
theorem Q80 (r_:ImageReader) (width:Int) (hs0:r_.sz):AMoves Tryz.prog 36 [AVal.ptr 0 0 3 0 0,I width] [(0,AObj.row 89 3 [[Sg r_.s,I r_.at_,Bo r_.bad]])] 1 (I ((Q00 r_ width).1)) [(0,AObj.row 89 3 [[Sg ((Q00 r_ width).2.s),I ((Q00 r_ width).2.at_),Bo ((Q00 r_ width).2.bad)]])]:=by
 generalize hR:Q00 r_ width=R;refine mo (kp 8 [29]) Tryz.func36 ?_;have hk0:=hs0;obtain z3:r_.s.size<=4294967296:=hs0;refine dchk (by kernel_rfl) ?_;(first|apply u2|apply u3|apply u4|apply us);exact QX7 r_.s r_.at_ width szA _;(repeat ((first|refine ai rfl ?_|refine ai (fun _=>rfl) ?_|refine ai (fun _=>QX7 r_.s r_.at_ width szA _) ?_)));refine ai (fun h1=>?_) (fun h2=>?_)
 ·obtain rfl:=foll hR (ct h1 rfl);exact rq (tt [0] (tO rfl (ts ImageReader.lo) .nil) t1)
 ·obtain rfl:=foll hR (cf h2 rfl);exact rq (tt [0] (tO rfl (ts ImageReader.lo) .nil) t1)
theorem QQ2 (r:ImageReader) (w:Int):(Q00 r w).2.s=r.s:=by
 unfold Q00
 cases (r.bad||((Qc0 r.s r.at_ w).2.2 != 0)) <;> rfl
theorem QE0 {r:ImageReader} {w:Int} (h:r.sz):(Q00 r w).2.sz:=by
 show (Q00 r w).2.s.size<=_
 rw [QQ2]
 exact h
theorem image_or0 {b:Int} (h2:0<=b) (h3:b<=255):wu64 (BitVec.ofInt 64 (wu64 (0*2 ^ (min (Int.toNat 8) 64))) ||| BitVec.ofInt 64 (wu64 b)).toNat=b:=by
 obtain ⟨q,rfl⟩:=Int.eq_ofNat_of_zero_le h2
 have e1:wu64 (0*2 ^ (min (Int.toNat 8) 64))=0:=by decide
 have e2:wu64 (q:Int)=(q:Int):=by simp only [IntKind.wrap,IntKind.bits,IntKind.signed];simp;omega
 rw [e1,e2,BitVec.ofInt_natCast,BitVec.toNat_or,BitVec.toNat_ofNat,Nat.mod_eq_of_lt (by omega)]
 show wu64 (((0 ||| q:Nat)):Int)=_
 rw [Nat.zero_or,e2]
theorem Qb0 {α:Type} {r:ImageReader} (hz:r.sz):0<=(Q00 r 1).1∧((([]:List α).length:Nat):Int)+(Q00 r 1).1<=255:=by
 unfold Q00
 cases h:(r.bad||((Qc0 r.s r.at_ 1).2.2 != 0)) with
 | true=>show (0:Int)<=0∧((([]:List α).length:Nat):Int)+0<=255;simp
 | false =>
  simp only [cond_false,List.length_nil]
  unfold Qc0
  cases ((!(Qh4 r.s r.at_))||(!(Qh2 0 1))) with
  | true=>show (0:Int)<=0∧((0:Nat):Int)+0<=255;omega
  | false =>
   simp only [cond_false]
   cases decide ((w64 ((ByteArray.size r.s:Int) - r.at_))<1) with
   | true=>show (0:Int)<=0∧((0:Nat):Int)+0<=255;omega
   | false =>
    simp only [cond_false]
    show 0<=(Qy1 r.at_ 1 (QX0 r.s r.at_ 1 2 0 0)).1∧((0:Nat):Int)+(Qy1 r.at_ 1 (QX0 r.s r.at_ 1 2 0 0)).1<=255
    have d0:decide (((0:Nat):Int)<1)=true:=by decide
    have d1:decide (((0+1:Nat):Int)<1)=false:=by decide
    rw [QX0,d0,cond_true,QX0,d1,cond_false]
    have q:=(r.s.data.toList.getD (Int.toNat (w64 (r.at_+((0:Nat):Int)))) 0).toNat_lt
    generalize (r.s.data.toList.getD (Int.toNat (w64 (r.at_+((0:Nat):Int)))) 0).toNat=b at q
    rw [image_or0 (by omega) (by omega)]
    unfold Qy1
    rw [decide_eq_false (by omega)]
    have e:w64 (b:Int)=(b:Int):=wr (by omega)
    show 0<=w64 (b:Int)∧((0:Nat):Int)+w64 (b:Int)<=255
    rw [e]
    omega
theorem imzA {P:Prop} (h:P:=by first|((repeat (first|assumption|exact hx.1|with_reducible apply image_reader_job_z|with_reducible apply image_reader_shape_z|with_reducible apply image_reader_node_z|with_reducible apply image_reader_resize_z|with_reducible apply image_reader_book_z|with_reducible apply image_reader_usage_z|with_reducible apply image_reader_text_z|with_reducible apply image_reader_flag_z|with_reducible apply QE0|with_reducible apply ref28_from_j_z|with_reducible apply ref28_from_t_z|with_reducible apply ref28_from_n_z));done)|exact szA):P:=h
def Qg2 (s:ByteArray) (at_:Int):ByteArray × Int × Int:=bif ((Qc0 s at_ 2).2.2 != 0) then (⟨#[]⟩,0,(Qc0 s at_ 2).2.2) else bif (decide ((w64 ((ByteArray.size s:Int) - (Qc0 s at_ 2).2.1))<(Qc0 s at_ 2).1)) then (⟨#[]⟩,0,30) else ((s.extract (Int.toNat ((Qc0 s at_ 2).2.1)) (Int.toNat (w64 ((Qc0 s at_ 2).2.1+(Qc0 s at_ 2).1)))),(w64 ((Qc0 s at_ 2).2.1+(Qc0 s at_ 2).1)),0)
theorem Qdb (s:ByteArray) (at_:Int) (hs0:s.size<=4294967296):∀ objs,AGives Tryz.prog 108 [Sg s,I at_] objs (AVal.tup [Sg ((Qg2 s at_).1),I ((Qg2 s at_).2.1),I ((Qg2 s at_).2.2)]):=by
 generalize hR:Qg2 s at_=R;refine ga (l1 (l1 .nil)) (Low.tup' (l1 (l1 (l1 .nil)))) (kp 10 [17,21]) Tryz.func108 ?_;have hk0:=hs0;obtain z5:s.size<=4294967296:=hs0;refine us (QX7 s at_ 2 szA _) ?_;refine ai (fun h1=>?_) (fun h2=>?_)
 ·obtain rfl:=foll hR (ct h1 rfl);exact Q30 (Low.tup' (l1 (l1 (l1 .nil)))) (Seen.tup (e1 (e1 (e1 .nil))))
 ·refine ai (fun h3=>?_) (fun h4=>?_)
  ·have qh3:=of_decide_eq_true h3;obtain rfl:=foll hR (cf h2 (ct h3 rfl));exact Q30 (Low.tup' (l1 (l1 (l1 .nil)))) (Seen.tup (e1 (e1 (e1 .nil))))
  ·have qh4:=of_decide_eq_false h4;refine And.intro (by first|exact fun hg=>decide_eq_true (by first|((have hq:=QFd hk0 h2;have e1:w64 ((ByteArray.size s:Int) - (Qc0 s at_ 2).2.1)=(ByteArray.size s:Int) - (Qc0 s at_ 2).2.1:=wr (by omega);have q5:¬ w64 ((ByteArray.size s:Int) - (Qc0 s at_ 2).2.1)<(Qc0 s at_ 2).1:=qh4;rw [e1] at q5;have a3:w64 ((Qc0 s at_ 2).2.1+(Qc0 s at_ 2).1)=(Qc0 s at_ 2).2.1+(Qc0 s at_ 2).1:=wr (by omega);show 0<=(Qc0 s at_ 2).2.1∧(Qc0 s at_ 2).2.1<=w64 ((Qc0 s at_ 2).2.1+(Qc0 s at_ 2).1)∧w64 ((Qc0 s at_ 2).2.1+(Qc0 s at_ 2).1)<=(ByteArray.size s:Int);rw [a3];omega))|exact ckA)|exact gkA) ?_;obtain rfl:=foll hR (cf h2 (cf h4 rfl));exact Q30 (Low.tup' (l1 (l1 (l1 .nil)))) (Seen.tup (e1 (e1 (e1 .nil))))
def ref14_Same_g1 (a:Job) (b:Job):List Dep->Nat->Bool
 | [],_=>((((((((((((((a.id==b.id)&&(ByteArray.toList a.name==ByteArray.toList b.name))&&(ByteArray.toList a.user==ByteArray.toList b.user))&&(ByteArray.toList a.account==ByteArray.toList b.account))&&(a.prio==b.prio))&&(a.state==b.state))&&(a.held==b.held))&&(a.born==b.born))&&(a.promise==b.promise))&&(a.choice==b.choice))&&(a.start==b.start))&&(a.limit==b.limit))&&(a.nodes==b.nodes))&&(a.used==b.used))
 | x_ :: r,i=>bif (!((x_.how==(b.after.getD i Dep.zero).how)&&(x_.job==(b.after.getD i Dep.zero).job))) then false else ref14_Same_g1 a b r (i+1)
def QS8 (a:Job) (b:Job):Bool:=bif (((a.after.length:Int)!=(b.after.length:Int))||(!(QY7 a.shape b.shape))) then false else ref14_Same_g1 a b a.after 0
theorem QRe (a:Job) (b:Job) (hs0:a.sz) (hs1:b.sz):∀ objs,AGives Tryz.prog 84 [Job.a a,Job.a b] objs (Bo (QS8 a b)):=by
 generalize hR:QS8 a b=R;refine ga (.cons (Job.low _ _) (.cons (Job.low _ _) .nil)) lx (kp 7 [21,26,39]) Tryz.func84 ?_;have hk0:=hs0;obtain ⟨z7,z8,z9,z10,z11⟩:a.name.size<=4294967296∧a.user.size<=4294967296∧a.account.size<=4294967296∧(a.shape.alts.length<=4294967296)∧a.after.length<=4294967296:=hs0;have hk1:=hs1;obtain ⟨z12,z13,z14,z15,z16⟩:b.name.size<=4294967296∧b.user.size<=4294967296∧b.account.size<=4294967296∧(b.shape.alts.length<=4294967296)∧b.after.length<=4294967296:=hs1;(first|apply u2|apply u3|apply u4|apply us);exact QOe a.shape b.shape szA szA _;refine ai (fun h1=>?_) (fun h2=>?_)
 ·obtain rfl:=foll hR (ct h1 rfl);exact Q30 lx sr
 ·refine Qw0 (fun (i:Nat)=>ref14_Same_g1 a b (List.drop i a.after) i=R∧i<=a.after.length) (fun i=>a.after.length - i) (fun i=>[(2,AVal.ptr 0 0 20 0 0),(3,AVal.ptr 1 0 20 0 0),(4,Bo false),(5,I (i:Int))]) (fun i=>[(0,AObj.row 67 20 [[I a.id,Sg a.name,Sg a.user,Sg a.account,I a.shape.kind,altL a.shape.alts,I a.shape.min,I a.shape.max,I a.shape.wall,I a.prio,depL a.after,I a.state,Bo a.held,I a.born,I a.promise,I a.choice,I a.start,I a.limit,U a.nodes,I a.used]]),(0,AObj.row 67 20 [[I b.id,Sg b.name,Sg b.user,Sg b.account,I b.shape.kind,altL b.shape.alts,I b.shape.min,I b.shape.max,I b.shape.wall,I b.prio,depL b.after,I b.state,Bo b.held,I b.born,I b.promise,I b.choice,I b.start,I b.limit,U b.nodes,I b.used]])]) 0 (wk [0,1] (tO rfl (ts Job.lo) (tO rfl (ts Job.lo) .nil)) (sv (Q50 0 rfl rfl) (sv (Q50 1 rfl rfl) (s1 (s1 .nil))))) ⟨foll hR (cf h2 rfl),by exact omA⟩ ?_;clear hR;rintro i ⟨hR,hj⟩;(try dsimp only at hR hj);refine ai (fun h3=>?_) (fun h4=>?_)
  ·have hlt:=ltA h3;rw [Qo0 Dep.zero hlt] at hR;refine dchk (by kernel_rfl) ?_;refine ai gkA ?_;refine ai gkA ?_;refine ai (fun _=>(by kernel_rfl:eqOK _ _=true)) ?_;(repeat ((first|refine ai rfl ?_|refine ai (fun _=>rfl) ?_)));refine ai (fun h5=>?_) (fun h6=>?_)
   ·obtain rfl:=foll hR (ct h5 rfl);exact Q30 lx sr
   ·exact QA0 (i+1) (wk [0,1] (tO rfl (ts Job.lo) (tO rfl (ts Job.lo) .nil)) (sv (Q50 0 rfl rfl) (sv (Q50 1 rfl rfl) (s1 (sv (Qt0 (I_eq (wr omA)) lx) .nil))))) omA ⟨foll hR (cf h6 rfl),by exact omA⟩
  ·rw [Qp0 (l:=a.after) (j:=i) (geA h4)] at hR;obtain rfl:=foll hR rfl;exact Q30 lx sr
def QX2 (c:Cmd) (job:Bool) (submit:Bool) (prio:Bool) (time:Bool) (node:Bool) (nodes:Bool) (from_:Bool):Bool:=bif ((((((job&&(c.job != 0))||(prio&&c.hasPrio))||(time&&c.hasTime))||(node&&(c.node != 0)))||(nodes&&(c.nodes != 0)))||(from_&&(c.from_ != 0))) then false else bif (!submit) then true else (((((ByteArray.toList c.name==ByteArray.toList ⟨#[]⟩)&&(ByteArray.toList c.user==ByteArray.toList ⟨#[]⟩))&&(ByteArray.toList c.account==ByteArray.toList ⟨#[]⟩))&&((c.after.length:Int)==0))&&(QY7 c.shape Shape.zero))
theorem Qc6 (c:Cmd) (job:Bool) (submit:Bool) (prio:Bool) (time:Bool) (node:Bool) (nodes:Bool) (from_:Bool) (hs0:c.sz):∀ objs,AGives Tryz.prog 172 [Cmd.a c,Bo job,Bo submit,Bo prio,Bo time,Bo node,Bo nodes,Bo from_] objs (Bo (QX2 c job submit prio time node nodes from_)):=by
 generalize hR:QX2 c job submit prio time node nodes from_=R;refine ga (.cons (Cmd.low _ _) (l1 (l1 (l1 (l1 (l1 (l1 (l1 .nil)))))))) lx (kp 17 [60,62]) Tryz.func172 ?_;have hk0:=hs0;obtain ⟨z5,z6,z7,z8,z9⟩:c.name.size<=4294967296∧c.user.size<=4294967296∧c.account.size<=4294967296∧(c.shape.alts.length<=4294967296)∧c.after.length<=4294967296:=hs0;refine ai (fun h1=>?_) (fun h2=>?_)
 ·obtain rfl:=foll hR (ct h1 rfl);exact Q30 lx sr
 ·refine ai (fun h3=>?_) (fun h4=>?_)
  ·obtain rfl:=foll hR (cf h2 (ct h3 rfl));exact Q30 lx sr
  ·(first|apply u2|apply u3|apply u4|apply us);exact AGives.as2 (QOe c.shape Shape.zero szA szA _) (a1 (av (Q4c (a1 (av (Qo5) (a1 (a1 (a1 .nil)))))) .nil));obtain rfl:=foll hR (cf h2 (cf h4 rfl));exact Q30 lx sr
def Q84 (s:ByteArray):Bool:=((((Qj4 s).2==0)&&(decide ((Qj4 s).1 >= 1)))&&(decide ((Qj4 s).1<=16)))
theorem Qjb (s:ByteArray) (hs0:s.size<=4294967296):∀ objs,AGives Tryz.prog 173 [Sg s] objs (Bo (Q84 s)):=by
 generalize hR:Q84 s=R;refine ga (l1 .nil) lx (kp 5 []) Tryz.func173 ?_;have hk0:=hs0;obtain z1:s.size<=4294967296:=hs0;refine us (QAa s szA _) ?_;obtain rfl:=foll hR rfl;exact Q30 lx sr
def QH5 (s:ByteArray):Nat->Nat->List Int->Nat × (List Int)
 | 0,_,_=>(0,[])
 | m+1,i,c=>bif (decide ((i:Int)<(ByteArray.size s:Int))) then bif ((((s.data.toList.getD i 0).toNat:Int)==34)||(((s.data.toList.getD i 0).toNat:Int)==92)) then QH5 s m (i+1) ((c++([92]:List Int))++([((s.data.toList.getD i 0).toNat:Int)]:List Int)) else QH5 s m (i+1) (c++([((s.data.toList.getD i 0).toNat:Int)]:List Int)) else (i,c)
def QI5 (i:Nat) (c:List Int):ByteArray × Int:=((QH1 (c++([34]:List Int))),0)
def Qb9 (s:ByteArray):ByteArray × Int:=bif ((Qj4 s).2 != 0) then (⟨#[]⟩,(Qj4 s).2) else QI5 ((QH5 s ((Int.toNat ((ByteArray.size s:Int) - (0:Int)))+1) 0 ([34]:List Int)).1) ((QH5 s ((Int.toNat ((ByteArray.size s:Int) - (0:Int)))+1) 0 ([34]:List Int)).2)
theorem ref04_Quote_c (s:ByteArray) (hs0:s.size<=4294967296):∀ objs,AGives Tryz.prog 220 [Sg s] objs (AVal.tup [Sg ((Qb9 s).1),I ((Qb9 s).2)]):=by
 generalize hR:Qb9 s=R;refine ga (l1 .nil) (Low.tup' (l1 (l1 .nil))) (kp 8 [14,20,32]) Tryz.func220 ?_;have hk0:=hs0;obtain z7:s.size<=4294967296:=hs0;refine us (QAa s szA _) ?_;refine ai (fun h1=>?_) (fun h2=>?_)
 ·obtain rfl:=foll hR (ct h1 rfl);exact Q30 (Low.tup' (l1 (l1 .nil))) (Seen.tup (e1 (e1 .nil)))
 ·refine Or.inr ?_;refine Qq0 (fun (i:Nat) (c:List Int)=>∃ m,(Int.toNat ((ByteArray.size s:Int) - (i:Int)))<m∧QI5 (QH5 s m i c).1 (QH5 s m i c).2=R∧c.length<=([34]:List Int).length+2*i∧(i:Int)<=(ByteArray.size s:Int)) (fun i c=>(Int.toNat ((ByteArray.size s:Int) - (i:Int)))) (fun i c=>[(0,Sg s),(2,Sg ⟨#[]⟩),(3,I 0),(6,AVal.own 0 0 1 0 c.length),(7,I (i:Int))]) (fun i c=>[(0,AObj.row 5 1 (c.map (fun q_=>[Y q_])))]) 0 ([34]:List Int) (wk [0] (tO rfl (tl eqA) .nil) (s1 (s1 (s1 (sv (to 0 lnA) (s1 .nil)))))) ⟨_,Nat.lt_succ_self _,foll hR (cf h2 rfl),by exact exA⟩ ?_;clear hR;rintro i c ⟨m,hm,hR,hx⟩;(try dsimp only at hR hm hx);obtain ⟨m,rfl⟩:=sucA m;refine ai (fun h3=>?_) (fun h4=>?_)
  ·have qh3:=of_decide_eq_true h3;refine ai gkA ?_;refine ai gkA ?_;refine ai (fun h5=>?_) (fun h6=>?_)
   ·refine Or.inl ?_;(first|refine ⟨Qg3 1 rfl lnA apA,?_⟩|refine ⟨Q52 1 rfl apA,?_⟩);refine ai gkA ?_;refine Or.inl ?_;(first|refine ⟨Qg3 1 rfl lnA apA,?_⟩|refine ⟨Q52 1 rfl apA,?_⟩);exact Qm0 (i+1) ((c++([92]:List Int))++([((s.data.toList.getD i 0).toNat:Int)]:List Int)) (wk [0] (tO rfl (tl eqA) .nil) (s1 (s1 (s1 (sv (to 0 lnA) (sv (Qt0 (I_eq (wr omA)) lx) .nil)))))) omA ⟨m,by exact omA,foll hR (congrArg (fun p:Nat × (List Int)=>QI5 p.1 p.2) (ct h3 (ct h5 rfl))),by exact exA⟩
   ·refine ai gkA ?_;refine Or.inl ?_;(first|refine ⟨Qg3 1 rfl lnA apA,?_⟩|refine ⟨Q52 1 rfl apA,?_⟩);exact Qm0 (i+1) (c++([((s.data.toList.getD i 0).toNat:Int)]:List Int)) (wk [0] (tO rfl (tl eqA) .nil) (s1 (s1 (s1 (sv (to 0 lnA) (sv (Qt0 (I_eq (wr omA)) lx) .nil)))))) omA ⟨m,by exact omA,foll hR (congrArg (fun p:Nat × (List Int)=>QI5 p.1 p.2) (ct h3 (cf h6 rfl))),by exact exA⟩
  ·have qh4:=of_decide_eq_false h4;replace hR:QI5 i c=R:=fo2 (fun p:Nat × (List Int)=>QI5 p.1 p.2) (i,c) hR (cf h4 rfl);refine Or.inl ?_;(first|refine ⟨Qg3 1 rfl lnA apA,?_⟩|refine ⟨Q52 1 rfl apA,?_⟩);(first|refine ⟨(c++([34]:List Int)),by exact cvA,?_⟩|refine ⟨_,fun _=>⟨(c++([34]:List Int)),by exact cvA,rfl,rfl⟩,?_⟩|refine ⟨_,rfl,⟨(c++([34]:List Int)),by exact cvA,Sub.refl _,rfl⟩,?_⟩);obtain rfl:=foll hR rfl;exact Q30 (Low.tup' (l1 (l1 .nil))) (Seen.tup (e1 (e1 .nil)))
end Go.Proofs.YtgjcljceccfgjaaGreatDoor
namespace Go.Proofs.YtgjcljceccfgjaaGreatDoor
set_option linter.unusedSimpArgs false
set_option linter.unusedVariables false
open Go.Fw
set_option maxRecDepth 20000
set_option maxHeartbeats 4000000
attribute [local irreducible] ACalls AMoves
def Qr2 (s:Shape):Nat->List Alt->Nat->(List Alt) × Nat
 | 0,_,_=>([],0)
 | m+1,out,i=>bif (decide ((i:Int)<=(w64 (s.max - s.min)))) then Qr2 s m (out++([(⟨(w64 (s.max - (i:Int))),s.wall⟩:Alt)]:List Alt)) (i+1) else (out,i)
def QJ3 (out:List Alt) (i:Nat):(List Alt):=out
def QM0 (s:Shape):(List Alt):=bif ((Q42 s)!=0) then [] else bif (s.kind != 3) then s.alts else QJ3 ((Qr2 s ((Int.toNat ((w64 (s.max - s.min)) - (0:Int)+1))+1) [] 0).1) ((Qr2 s ((Int.toNat ((w64 (s.max - s.min)) - (0:Int)+1))+1) [] 0).2)
theorem Qhb (s:Shape) (hs0:s.sz):∀ objs,AGives Tryz.prog 197 [Shape.a s] objs (altL (QM0 s)):=by
 generalize hR:QM0 s=R;refine ga (.cons (Shape.low _ _) .nil) lw (kp 5 [7,10,19]) Tryz.func197 ?_;have hk0:=hs0;obtain z7:s.alts.length<=4294967296:=hs0;have hf0:=Qd9 (s:=s);refine us (QHd s szA _) ?_;refine ai (fun h1=>?_) (fun h2=>?_)
 ·obtain rfl:=foll hR (ct h1 rfl);exact Q30 lw (Qn1)
 ·refine ai (fun h3=>?_) (fun h4=>?_)
  ·obtain rfl:=foll hR (cf h2 (ct h3 rfl));exact Q30 lw sr
  ·refine Qq0 (fun (out:List Alt) (i:Nat)=>∃ m,(Int.toNat ((w64 (s.max - s.min)) - (i:Int)+1))<m∧QJ3 (Qr2 s m out i).1 (Qr2 s m out i).2=R∧out.length<=i) (fun out i=>(Int.toNat ((w64 (s.max - s.min)) - (i:Int)+1))) (fun out i=>[(1,AVal.ptr 0 0 5 0 0),(2,AVal.lit (.slice none 0 0)),(3,AVal.own 1 0 2 0 out.length),(4,I (i:Int))]) (fun out i=>[(0,AObj.row 63 5 [[I s.kind,altL s.alts,I s.min,I s.max,I s.wall]]),(0,AObj.row 137 2 (out.map Alt.cells))]) [] 0 ((Qf1 137 2).trans (wk [0,1] (tO rfl (ts Shape.lo) (tO rfl (tl eqA) .nil)) (sv (Q50 0 rfl rfl) (s1 (sv (Q91 1 rfl) (s1 .nil)))))) ⟨_,Nat.lt_succ_self _,foll hR (cf h2 (cf h4 rfl)),by exact exA⟩ ?_;clear hR;rintro out i ⟨m,hm,hR,hx⟩;(try dsimp only at hR hm hx);obtain ⟨m,rfl⟩:=sucA m;refine ai (fun h5=>?_) (fun h6=>?_)
   ·have qh5:=of_decide_eq_true h5;refine Or.inl ?_;(first|refine ⟨Qg3 16 rfl lnA apA,?_⟩|refine ⟨Q52 16 rfl apA,?_⟩);exact Qm0 (out++([(⟨(w64 (s.max - (i:Int))),s.wall⟩:Alt)]:List Alt)) (i+1) (wk [0,1] (tO rfl (ts Shape.lo) (tO rfl (tl eqA) .nil)) (sv (Q50 0 rfl rfl) (s1 (sv (to 1 lnA) (sv (Qt0 (I_eq (wr omA)) lx) .nil))))) omA ⟨m,by exact omA,foll hR (congrArg (fun p:(List Alt) × Nat=>QJ3 p.1 p.2) (ct h5 rfl)),by exact exA⟩
   ·have qh6:=of_decide_eq_false h6;replace hR:QJ3 out i=R:=fo2 (fun p:(List Alt) × Nat=>QJ3 p.1 p.2) (out,i) hR (cf h6 rfl);obtain rfl:=foll hR rfl;exact Q30 lw (QG1 Alt.zero _ rfl eqA lnA)
theorem QG8 (s:Shape):∀ (m:Nat) (out:List Alt) (i:Nat),(Qr2 s m out i).1.length<=out.length+m
 | 0,out,i=>by simp [Qr2]
 | m+1,out,i=>by
  rw [Qr2]
  cases (decide ((i:Int)<=(w64 (s.max - s.min)))) with
  | false=>simp
  | true =>
   have:=QG8 s m (out++([(⟨(w64 (s.max - (i:Int))),s.wall⟩:Alt)]:List Alt)) (i+1)
   simp only [List.length_append,List.length_cons,List.length_nil] at this
   simp only [cond_true]
   omega
theorem Q5a (s:Shape) (h:s.sz):(QM0 s).length<=4294967296:=by
 unfold QM0
 cases h1:(Q42 s != 0) with
 | true=>simp
 | false =>
  cases h2:(s.kind != 3) with
  | true=>exact h
  | false =>
   obtain ⟨a,b,c,d⟩:=Qd9 h1 h2
   have hl:=QG8 s ((Int.toNat ((w64 (s.max - s.min)) - (0:Int)+1))+1) [] 0
   simp only [cond_false,QJ3]
   rw [d] at hl ⊢
   simp only [List.length_nil] at hl
   omega
def QY2 (set_:Int) (n:Int):Bool:=(Qkb set_ n)
theorem QM3 (set_:Int) (n:Int):∀ objs,AGives Tryz.prog 100 [U set_,I n] objs (Bo (QY2 set_ n)):=by
 generalize hR:QY2 set_ n=R;refine ga (l1 (l1 .nil)) lx (kp 5 []) Tryz.func100 ?_;refine us (ref09_Has_c set_ n _) ?_;obtain rfl:=foll hR rfl;exact Q30 lx sr
def Qf6 (job:Int) (state:Int):List Node->Int->Nat->Int × Nat
 | [],out,i=>(out,i)
 | x_ :: r,out,i=>bif ((x_.job==job)&&(x_.state==state)) then Qf6 job state r (wu64 (out+(Q6a (i:Int)))) (i+1) else Qf6 job state r out (i+1)
def Q77 (out:Int) (i:Nat):Int:=out
def Qh8 (l:List Node) (job:Int) (state:Int):Int:=bif ((Qe6 l)!=0) then 0 else Q77 ((Qf6 job state l 0 0).1) ((Qf6 job state l 0 0).2)
theorem ref12_Of_c (l:List Node) (job:Int) (state:Int) (hs0:l.length<=4294967296):∀ objs,AGives Tryz.prog 73 [nodeL l,I job,I state] objs (U (Qh8 l job state)):=by
 generalize hR:Qh8 l job state=R;refine ga (.cons lw (l1 (l1 .nil))) lx (kp 9 [11,16,34]) Tryz.func73 ?_;have hk0:=hs0;obtain z7:l.length<=4294967296:=hs0;have hf0:=Qig (l:=l);refine us (QId l szA _) ?_;refine ai (fun h1=>?_) (fun h2=>?_)
 ·obtain rfl:=foll hR (ct h1 rfl);exact Q30 lx sr
 ·refine Qq0 (fun (out:Int) (i:Nat)=>Q77 (Qf6 job state (List.drop i l) out i).1 (Qf6 job state (List.drop i l) out i).2=R∧i<=l.length) (fun out i=>l.length - i) (fun out i=>[(0,nodeL l),(1,I job),(2,I state),(6,U 0),(7,U out),(8,I (i:Int))]) (fun out i=>[]) 0 0 (wk [] .nil (sl lw (s1 (s1 (s1 (s1 (s1 .nil))))))) ⟨foll hR (cf h2 rfl),by exact omA⟩ ?_;clear hR;rintro out i ⟨hR,hj⟩;(try dsimp only at hR hj);refine ai (fun h3=>?_) (fun h4=>?_)
  ·have hlt:=ltA h3;rw [Qo0 Node.zero hlt] at hR;refine ai gkA ?_;refine ai gkA ?_;refine ai (fun h5=>?_) (fun h6=>?_)
   ·refine us (ref12_bit_c (i:Int) ckA _) ?_;exact Qm0 (wu64 (out+(Q6a (i:Int)))) (i+1) (wk [] .nil (sl lw (s1 (s1 (s1 (s1 (sv (Qt0 (I_eq (wr omA)) lx) .nil))))))) omA ⟨foll hR (congrArg (fun p:Int × Nat=>Q77 p.1 p.2) (ct h5 rfl)),by exact omA⟩
   ·exact Qm0 out (i+1) (wk [] .nil (sl lw (s1 (s1 (s1 (s1 (sv (Qt0 (I_eq (wr omA)) lx) .nil))))))) omA ⟨foll hR (congrArg (fun p:Int × Nat=>Q77 p.1 p.2) (cf h6 rfl)),by exact omA⟩
  ·rw [Qp0 (l:=l) (j:=i) (geA h4)] at hR;replace hR:Q77 out i=R:=fo2 (fun p:Int × Nat=>Q77 p.1 p.2) (out,i) hR rfl;obtain rfl:=foll hR rfl;exact Q30 lx sr
def Q70 (n:Int) (width:Int):ByteArray:=(QZ3 n width).1
theorem Ql0 (n:Int) (width:Int):∀ objs,AGives Tryz.prog 32 [I n,I width] objs (Sg (Q70 n width)):=by
 generalize hR:Q70 n width=R;refine ga (l1 (l1 .nil)) lx (kp 7 []) Tryz.func32 ?_;refine us (Qhc n width _) ?_;obtain rfl:=foll hR rfl;exact Q30 lx sr
theorem ref28_chk {a b:ByteArray} {m:Nat} (h:(a++b).size+0<=m):a.size+b.size<=m:=by rw [ByteArray.size_append] at h;exact h
theorem QMd {a:ByteArray} {m:Nat} (h:a.size+0<=m):a.size<=m:=h
theorem Q18 (n w:Int):(Q70 n w).size<=8:=QG9 n w
theorem QC9 {x:ByteArray} {n w:Int} {c m:Nat} (h:x.size+(8+c)<=m):(x++Q70 n w).size+c<=m:=by have:=Q18 n w;rw [ByteArray.size_append];omega
theorem Qkg {n w:Int} {c m:Nat} (h:8+c<=m):(Q70 n w).size+c<=m:=by have:=Q18 n w;omega
theorem ref28_lit_b {c m:Nat} (h:1+c<=m):(⟨#[73]⟩:ByteArray).size+c<=m:=h
theorem rfcA {P:Prop} (h:P:=by (first|with_reducible refine ref28_chk ?_|refine QMd ?_);(repeat (first|with_reducible apply ref28_job_le|with_reducible apply ref28_text_le|with_reducible apply QVe|with_reducible apply QC9|with_reducible apply Qkg|with_reducible apply ref28_lit_b));omega):P:=h
theorem ref28_sz {s:State} (h:s.szN 65536):s.sz :=
 ⟨by have:=h.1;omega,by have:=h.2.1;omega,fun y hy=>⟨by have:=(h.2.2.1 y hy).1;omega,by have:=(h.2.2.1 y hy).2.1;omega,by have:=(h.2.2.1 y hy).2.2.1;omega,Nat.le_trans (h.2.2.1 y hy).2.2.2.1 (by decide),by have:=(h.2.2.1 y hy).2.2.2.2;omega⟩,by have:=h.2.2.2.1;omega,by have:=h.2.2.2.2.1;omega,by have:=h.2.2.2.2.2.1;omega,fun y hy=>⟨by have:=(h.2.2.2.2.2.2 y hy).1;omega,by have:=(h.2.2.2.2.2.2 y hy).2;omega⟩⟩
theorem rfzA {P:Prop} (h:P:=by first|((repeat (first|assumption|exact hx.1|with_reducible apply image_reader_job_z|with_reducible apply image_reader_shape_z|with_reducible apply image_reader_node_z|with_reducible apply image_reader_resize_z|with_reducible apply image_reader_book_z|with_reducible apply image_reader_usage_z|with_reducible apply image_reader_text_z|with_reducible apply image_reader_flag_z|with_reducible apply QE0|with_reducible apply ref28_from_j_z|with_reducible apply ref28_from_t_z|with_reducible apply ref28_from_n_z));done)|exact ref28_sz ⟨by omega,by omega,hx.2.2.2.2.1,by omega,by omega,by omega,hx.2.2.2.2.2.2.2.2⟩|exact szA):P:=h
def QR8 (s:ByteArray):ByteArray × Int:=bif (decide ((ByteArray.size s:Int) > 65535)) then (⟨#[]⟩,3) else (((QZ3 (ByteArray.size s:Int) 2).1++s),0)
theorem ref03_Text_c (s:ByteArray):∀ objs,AGives Tryz.prog 75 [Sg s] objs (AVal.tup [Sg ((QR8 s).1),I ((QR8 s).2)]):=by
 generalize hR:QR8 s=R;refine ga (l1 .nil) (Low.tup' (l1 (l1 .nil))) (kp 6 [8]) Tryz.func75 ?_;refine ai (fun h1=>?_) (fun h2=>?_)
 ·have qh1:=of_decide_eq_true h1;obtain rfl:=foll hR (ct h1 rfl);exact Q30 (Low.tup' (l1 (l1 .nil))) (Seen.tup (e1 (e1 .nil)))
 ·have qh2:=of_decide_eq_false h2;refine us (Qhc (ByteArray.size s:Int) 2 _) ?_;refine And.intro (by first|exact fun hg=>decide_eq_true (by first|((have hl:=QG9 (ByteArray.size s:Int) 2;omega))|exact ckA)|exact gkA) ?_;obtain rfl:=foll hR (cf h2 rfl);exact Q30 (Low.tup' (l1 (l1 .nil))) (Seen.tup (e1 (e1 .nil)))
def Q10 (f:Ref28From) (width:Int):Int × Ref28From:=bif ((Qd0 f.s f.at_ width).2.2 != 0) then (0,(⟨f.s,(ByteArray.size f.s:Int)⟩:Ref28From)) else ((Qd0 f.s f.at_ width).1,(⟨f.s,(Qd0 f.s f.at_ width).2.1⟩:Ref28From))
theorem Qh0 (f:Ref28From) (width:Int) (hs0:f.sz):AMoves Tryz.prog 47 [AVal.ptr 0 0 2 0 0,I width] [(0,AObj.row 102 2 [[Sg f.s,I f.at_]])] 1 (I ((Q10 f width).1)) [(0,AObj.row 102 2 [[Sg ((Q10 f width).2.s),I ((Q10 f width).2.at_)]])]:=by
 generalize hR:Q10 f width=R;refine mo (kp 8 [23]) Tryz.func47 ?_;have hk0:=hs0;obtain z3:f.s.size<=4294967296:=hs0;refine dchk (by kernel_rfl) ?_;(first|apply u2|apply u3|apply u4|apply us);exact QG7 f.s f.at_ width szA _;(repeat ((first|refine ai rfl ?_|refine ai (fun _=>rfl) ?_|refine ai (fun _=>QG7 f.s f.at_ width szA _) ?_)));refine ai (fun h1=>?_) (fun h2=>?_)
 ·obtain rfl:=foll hR (ct h1 rfl);exact rq (tt [0] (tO rfl (ts Ref28From.lo) .nil) t1)
 ·obtain rfl:=foll hR (cf h2 rfl);exact rq (tt [0] (tO rfl (ts Ref28From.lo) .nil) t1)
theorem ref28_from_n_s (f:Ref28From) (w:Int):(Q10 f w).2.s=f.s:=by
 unfold Q10
 cases ((Qd0 f.s f.at_ w).2.2 != 0) <;> rfl
theorem ref28_from_n_z {f:Ref28From} {w:Int} (h:f.sz):(Q10 f w).2.sz:=by
 show (Q10 f w).2.s.size<=_
 rw [ref28_from_n_s]
 exact h
theorem QN2 {α:Type} (f:Ref28From):0<=(Q10 f 1).1∧((([]:List α).length:Nat):Int)+(Q10 f 1).1<=255:=by
 unfold Q10
 cases ((Qd0 f.s f.at_ 1).2.2 != 0) with
 | true=>show (0:Int)<=0∧((([]:List α).length:Nat):Int)+0<=255;simp
 | false =>
  simp only [cond_false,List.length_nil]
  unfold Qd0
  cases (((decide (f.at_<0))||(decide (f.at_ > (ByteArray.size f.s:Int))))||(!(Qr3 1))) with
  | true=>show (0:Int)<=0∧((0:Nat):Int)+0<=255;omega
  | false =>
   simp only [cond_false]
   cases decide (1 > (w64 ((ByteArray.size f.s:Int) - f.at_))) with
   | true=>show (0:Int)<=0∧((0:Nat):Int)+0<=255;omega
   | false =>
    simp only [cond_false]
    have e8:(((1:Int)==8)&&(decide (((f.s.data.toList.getD (Int.toNat f.at_) 0).toNat:Int) > 127)))=false:=rfl
    rw [e8]
    show 0<=(QF0 f.s f.at_ 1 2 0 0).1∧((0:Nat):Int)+(QF0 f.s f.at_ 1 2 0 0).1<=255
    have d0:decide (((0:Nat):Int)<1)=true:=by decide
    have d1:decide (((0+1:Nat):Int)<1)=false:=by decide
    rw [QF0,d0,cond_true,QF0,d1,cond_false]
    have q:=(f.s.data.toList.getD (Int.toNat (w64 (f.at_+((0:Nat):Int)))) 0).toNat_lt
    generalize (f.s.data.toList.getD (Int.toNat (w64 (f.at_+((0:Nat):Int)))) 0).toNat=b at q
    have a1:w64 (0*256)=0:=by decide
    have a2:w64 (b:Int)=(b:Int):=wr (by omega)
    have a3:w64 (0+(b:Int))=(b:Int):=by rw [Int.zero_add];exact a2
    rw [a1,a2,a3]
    show 0<=(b:Int)∧((0:Nat):Int)+(b:Int)<=255
    omega
def QW1 (s:ByteArray) (at_:Int):ByteArray × Int × Int:=bif ((Qd0 s at_ 2).2.2 != 0) then (⟨#[]⟩,0,(Qd0 s at_ 2).2.2) else bif (decide ((Qd0 s at_ 2).1 > (w64 ((ByteArray.size s:Int) - (Qd0 s at_ 2).2.1)))) then (⟨#[]⟩,0,30) else ((s.extract (Int.toNat ((Qd0 s at_ 2).2.1)) (Int.toNat (w64 ((Qd0 s at_ 2).2.1+(Qd0 s at_ 2).1)))),(w64 ((Qd0 s at_ 2).2.1+(Qd0 s at_ 2).1)),0)
theorem QNa (s:ByteArray) (at_:Int) (hs0:s.size<=4294967296):∀ objs,AGives Tryz.prog 111 [Sg s,I at_] objs (AVal.tup [Sg ((QW1 s at_).1),I ((QW1 s at_).2.1),I ((QW1 s at_).2.2)]):=by
 generalize hR:QW1 s at_=R;refine ga (l1 (l1 .nil)) (Low.tup' (l1 (l1 (l1 .nil)))) (kp 10 [18,25]) Tryz.func111 ?_;have hk0:=hs0;obtain z5:s.size<=4294967296:=hs0;refine us (QG7 s at_ 2 szA _) ?_;refine ai (fun h1=>?_) (fun h2=>?_)
 ·obtain rfl:=foll hR (ct h1 rfl);exact Q30 (Low.tup' (l1 (l1 (l1 .nil)))) (Seen.tup (e1 (e1 (e1 .nil))))
 ·refine ai (fun h3=>?_) (fun h4=>?_)
  ·have qh3:=of_decide_eq_true h3;obtain rfl:=foll hR (cf h2 (ct h3 rfl));exact Q30 (Low.tup' (l1 (l1 (l1 .nil)))) (Seen.tup (e1 (e1 (e1 .nil))))
  ·have qh4:=of_decide_eq_false h4;refine And.intro (by first|exact fun hg=>decide_eq_true (by first|((have hq:=Q57 hk0 h2;have e1:w64 ((ByteArray.size s:Int) - (Qd0 s at_ 2).2.1)=(ByteArray.size s:Int) - (Qd0 s at_ 2).2.1:=wr (by omega);have q5:¬ (Qd0 s at_ 2).1 > w64 ((ByteArray.size s:Int) - (Qd0 s at_ 2).2.1):=qh4;rw [e1] at q5;have a3:w64 ((Qd0 s at_ 2).2.1+(Qd0 s at_ 2).1)=(Qd0 s at_ 2).2.1+(Qd0 s at_ 2).1:=wr (by omega);show 0<=(Qd0 s at_ 2).2.1∧(Qd0 s at_ 2).2.1<=w64 ((Qd0 s at_ 2).2.1+(Qd0 s at_ 2).1)∧w64 ((Qd0 s at_ 2).2.1+(Qd0 s at_ 2).1)<=(ByteArray.size s:Int);rw [a3];omega))|exact ckA)|exact gkA) ?_;obtain rfl:=foll hR (cf h2 (cf h4 rfl));exact Q30 (Low.tup' (l1 (l1 (l1 .nil)))) (Seen.tup (e1 (e1 (e1 .nil))))
end Go.Proofs.YtgjcljceccfgjaaGreatDoor
