/-
  Contracts of functions, printed by a program of this repo (wip/dec). No condition beyond those that stand in each.
-/
import Derived.Test.YtiiaifgeekdpaaaGreatDoorG9
import Derived.Test.YtiiaifgeekdpaaaGreatDoorProg
namespace Go.Proofs.YtiiaifgeekdpaaaGreatDoor
set_option linter.unusedSimpArgs false
set_option linter.unusedVariables false
open Go.Fw
set_option maxRecDepth 20000
set_option maxHeartbeats 4000000
attribute [local irreducible] ACalls AMoves
def QQ5 :List Job->Nat->Bool
 | [],_=>true
 | x_ :: r,i=>bif (!(QP5 x_)) then false else QQ5 r (i+1)
def Qn9 (l:List Job):Bool:=bif (decide ((l.length:Int) > 60)) then false else QQ5 l 0
theorem law15_Few_c (l:List Job) (hs0:l.length<=9223372036854775807∧(∀ y ∈ l,y.szM)):∀ objs,AGives Tryz.prog 26 [jobL l] objs (Bo (Qn9 l)):=by
 generalize hR:Qn9 l=R;refine ga (.cons lw .nil) lx (kp 4 [6,10,18]) Tryz.func26 ?_;have hk0:=hs0;obtain ⟨z12,z13⟩:l.length<=9223372036854775807∧(∀ y ∈ l,y.szM):=hs0;refine ai (fun h1=>?_) (fun h2=>?_)
 ·have qh1:=of_decide_eq_true h1;obtain rfl:=foll hR (ct h1 rfl);exact Q00 lx sr
 ·have qh2:=of_decide_eq_false h2;refine Qh0 (fun (i:Nat)=>QQ5 (List.drop i l) i=R∧i<=l.length) (fun i=>l.length - i) (fun i=>[(0,jobL l),(2,Bo false),(3,I (i:Int))]) (fun i=>[]) 0 (wk [] .nil (sl lw (s1 (s1 .nil)))) ⟨foll hR (cf h2 rfl),by exact omA⟩ ?_;clear hR;rintro i ⟨hR,hj⟩;(try dsimp only at hR hj);refine ai (fun h3=>?_) (fun h4=>?_)
  ·have hlt:=ltA h3;rw [Qf0 Job.zero hlt] at hR;have hxz:(l.getD i Job.zero).szM:=Qk6 (by first|assumption|grind) (Job.szz _);have hkz:=hxz;obtain ⟨z5,z6,z7,z8,z9⟩:((l.getD i Job.zero).name).size<=9223372036854775807∧((l.getD i Job.zero).user).size<=9223372036854775807∧((l.getD i Job.zero).account).size<=9223372036854775807∧((((l.getD i Job.zero).shape).alts).length<=9223372036854775807)∧((l.getD i Job.zero).after).length<=9223372036854775807:=hxz;refine ai gkA ?_;refine us (QGb (l.getD i Job.zero) _) ?_;refine ai (fun h10=>?_) (fun h11=>?_)
   ·obtain rfl:=foll hR (ct h10 rfl);exact Q00 lx sr
   ·exact Ql0 (i+1) (wk [] .nil (sl lw (s1 (sv (Qd0 (I_eq (wr omA)) lx) .nil)))) omA ⟨foll hR (cf h11 rfl),by exact omA⟩
  ·rw [Qg0 (l:=l) (j:=i) (geA h4)] at hR;obtain rfl:=foll hR rfl;exact Q00 lx sr
def Qq1 (x_:Node):Bool:=bif ((((decide (x_.epoch<0))||(decide (x_.epoch > 999999999)))||(!(QV6 x_.since)))||(!(QV6 x_.asked))) then false else bif (x_.state==0) then ((x_.job==0)&&(Qc1 ([0]:List Int) x_.want)) else bif (x_.state==1) then (((decide (x_.job >= 1))&&(decide (x_.job<=99999)))&&(Qc1 ([0,1,3,4]:List Int) x_.want)) else bif (x_.state==2) then (((decide (x_.job >= 1))&&(decide (x_.job<=99999)))&&(Qc1 ([0,2]:List Int) x_.want)) else bif (x_.state==3) then (((decide (x_.job >= 1))&&(decide (x_.job<=99999)))&&(Qc1 ([5]:List Int) x_.want)) else bif (x_.state==4) then ((x_.job==0)&&(Qc1 ([0,6]:List Int) x_.want)) else false
theorem fleet_fine_c (x_:Node):∀ objs,AGives Tryz.prog 64 [Node.a x_] objs (Bo (Qq1 x_)):=by
 generalize hR:Qq1 x_=R;refine ga (.cons (Node.low _ _) .nil) lx (kp 5 [24,35,36,41,44,47,50]) Tryz.func64 ?_;(first|apply u2|apply u3|apply u4|apply us);exact Qma x_.since _;(first|apply u2|apply u3|apply u4|apply us);exact Qma x_.asked _;refine ai (fun h1=>?_) (fun h2=>?_)
 ·obtain rfl:=foll hR (ct h1 rfl);exact Q00 lx sr
 ·refine Or.inl ?_;refine ai (fun h3=>?_) (fun h4=>?_)
  ·(first|apply u2|apply u3|apply u4|apply us);exact AGives.as2 (QQ1 ([0]:List Int) x_.want szA _) (av (Q75 (c:=(fun q_=>[I q_])) (d:=0) ([0]:List Int) rfl) (a1 .nil));obtain rfl:=foll hR (cf h2 (ct h3 rfl));exact Q00 lx sr
  ·refine ai (fun h5=>?_) (fun h6=>?_)
   ·refine Or.inl ?_;(first|apply u2|apply u3|apply u4|apply us);exact AGives.as2 (QQ1 ([0,1,3,4]:List Int) x_.want szA _) (av (Q75 (c:=(fun q_=>[I q_])) (d:=0) ([0,1,3,4]:List Int) rfl) (a1 .nil));obtain rfl:=foll hR (cf h2 (cf h4 (ct h5 rfl)));exact Q00 lx sr
   ·refine ai (fun h7=>?_) (fun h8=>?_)
    ·refine Or.inl ?_;(first|apply u2|apply u3|apply u4|apply us);exact AGives.as2 (QQ1 ([0,2]:List Int) x_.want szA _) (av (Q75 (c:=(fun q_=>[I q_])) (d:=0) ([0,2]:List Int) rfl) (a1 .nil));obtain rfl:=foll hR (cf h2 (cf h4 (cf h6 (ct h7 rfl))));exact Q00 lx sr
    ·refine ai (fun h9=>?_) (fun h10=>?_)
     ·refine Or.inl ?_;(first|apply u2|apply u3|apply u4|apply us);exact AGives.as2 (QQ1 ([5]:List Int) x_.want szA _) (av (Q75 (c:=(fun q_=>[I q_])) (d:=0) ([5]:List Int) rfl) (a1 .nil));obtain rfl:=foll hR (cf h2 (cf h4 (cf h6 (cf h8 (ct h9 rfl)))));exact Q00 lx sr
     ·refine ai (fun h11=>?_) (fun h12=>?_)
      ·refine Or.inl ?_;(first|apply u2|apply u3|apply u4|apply us);exact AGives.as2 (QQ1 ([0,6]:List Int) x_.want szA _) (av (Q75 (c:=(fun q_=>[I q_])) (d:=0) ([0,6]:List Int) rfl) (a1 .nil));obtain rfl:=foll hR (cf h2 (cf h4 (cf h6 (cf h8 (cf h10 (ct h11 rfl))))));exact Q00 lx sr
      ·obtain rfl:=foll hR (cf h2 (cf h4 (cf h6 (cf h8 (cf h10 (cf h12 rfl))))));exact Q00 lx sr
def QC4 (l:List Alt):List Alt->Nat->Bool
 | [],_=>true
 | x_ :: r,i=>bif (QD0 (List.take i l) (fun (y:Alt)=>(x_.nodes==y.nodes))) then false else QC4 l r (i+1)
def Qf4 (l:List Alt):Bool:=QC4 l l 0
theorem shape_apart_c (l:List Alt) (hs0:l.length<=4294967296):∀ objs,AGives Tryz.prog 126 [altL l] objs (Bo (Qf4 l)):=by
 generalize hR:Qf4 l=R;refine ga (.cons lw .nil) lx (kp 5 [5,6,7,8,16]) Tryz.func126 ?_;have hk0:=hs0;obtain z9:l.length<=4294967296:=hs0;refine Qh0 (fun (i:Nat)=>QC4 l (List.drop i l) i=R∧i<=l.length) (fun i=>l.length - i) (fun i=>[(0,altL l),(2,Bo false),(5,altL l),(6,I (l.length:Int)),(7,I (i:Int))]) (fun i=>[]) 0 (wk [] .nil (sl lw (s1 (sl lw (s1 (s1 .nil)))))) ⟨foll hR rfl,by exact omA⟩ ?_;clear hR;rintro i ⟨hR,hj⟩;(try dsimp only at hR hj);refine ai (fun h1=>?_) (fun h2=>?_)
 ·have hlt:=ltA h1;rw [Qf0 Alt.zero hlt] at hR;refine ai gkA ?_;refine ai gkA ?_;have cl1:∀ (y1:Alt),AMoves Tryz.prog 160 [Alt.a y1,AVal.ptr 0 0 2 0 0] [(0,AObj.row 87 2 [[I (l.getD i Alt.zero).nodes,I (l.getD i Alt.zero).wall]])] 1 (Bo ((fun (y:Alt)=>((l.getD i Alt.zero).nodes==y.nodes)) y1)) [(0,AObj.row 87 2 [[I (l.getD i Alt.zero).nodes,I (l.getD i Alt.zero).wall]])]:=by
   intro y1;have hR:(fun (y:Alt)=>((l.getD i Alt.zero).nodes==y.nodes)) y1=(fun (y:Alt)=>((l.getD i Alt.zero).nodes==y.nodes)) y1:=rfl;refine mo (kp 4 []) Tryz.func160 ?_;refine Qn0 (fun r:Bool=>Bo r) (fun _=>[(0,AObj.row 87 2 [[I (l.getD i Alt.zero).nodes,I (l.getD i Alt.zero).wall]])]) (leaf:=((l.getD i Alt.zero).nodes==y1.nodes)) (foll hR rfl) ?_;exact tt [0] (tO rfl (ts Alt.lo) .nil) t1
  have hof1:AMoves Tryz.prog 127 [altL (List.take i l),AVal.fn (.func 160) [] [AVal.ptr 0 0 2 0 0]] [(0,AObj.row 87 2 [[I (l.getD i Alt.zero).nodes,I (l.getD i Alt.zero).wall]])] 1 (Bo (QD0 (List.take i l) (fun (y:Alt)=>((l.getD i Alt.zero).nodes==y.nodes)))) [(0,AObj.row 87 2 [[I (l.getD i Alt.zero).nodes,I (l.getD i Alt.zero).wall]])]:=by
   have hR:QD0 (List.take i l) (fun (y:Alt)=>((l.getD i Alt.zero).nodes==y.nodes))=QD0 (List.take i l) (fun (y:Alt)=>((l.getD i Alt.zero).nodes==y.nodes)):=rfl;refine mo (kp 5 []) Tryz.func127 ?_;have hof2:AMoves Tryz.prog 161 [altL (List.take i l),AVal.fn (.func 160) [] [AVal.ptr 0 0 2 0 0]] [(0,AObj.row 87 2 [[I (l.getD i Alt.zero).nodes,I (l.getD i Alt.zero).wall]])] 1 (I (QK0 (List.take i l) (fun (y:Alt)=>((l.getD i Alt.zero).nodes==y.nodes)))) [(0,AObj.row 87 2 [[I (l.getD i Alt.zero).nodes,I (l.getD i Alt.zero).wall]])]:=by
    have hR:QK0 (List.take i l) (fun (y:Alt)=>((l.getD i Alt.zero).nodes==y.nodes))=QK0 (List.take i l) (fun (y:Alt)=>((l.getD i Alt.zero).nodes==y.nodes)):=rfl;refine mo (kp 6 [7,8,9,16]) Tryz.func161 ?_;refine Qh0 (fun (i1:Nat)=>Qy2 (fun (y:Alt)=>((l.getD i Alt.zero).nodes==y.nodes)) (List.drop i1 (List.take i l)) i1=QK0 (List.take i l) (fun (y:Alt)=>((l.getD i Alt.zero).nodes==y.nodes))∧i1<=(List.take i l).length) (fun i1=>(List.take i l).length - i1) (fun i1=>[(0,altL (List.take i l)),(1,AVal.fn (.func 160) [] [AVal.ptr 0 0 2 0 0]),(4,I 0),(7,I ((List.take i l).length:Int)),(8,I (i1:Int))]) (fun i1=>[(0,AObj.row 87 2 [[I (l.getD i Alt.zero).nodes,I (l.getD i Alt.zero).wall]])]) 0 (wk [0] (tO rfl (ts Alt.lo) .nil) (sl lw (sv (Q51 .nil (cv (Q10 0 rfl rfl) .nil)) (s1 (s1 (s1 .nil)))))) ⟨foll hR rfl,by exact omA⟩ ?_;clear hR;rintro i1 ⟨hR,hj⟩;(try dsimp only at hR hj);refine ai (fun h3=>?_) (fun h4=>?_)
    ·have hlt:=ltA h3;rw [Qf0 Alt.zero hlt] at hR;refine ai gkA ?_;refine us (mv [0] (cl1 ((List.take i l).getD i1 Alt.zero)) (dO (ds Alt.lo) .nil) (dl (Alt.low _ _) (dp .nil)) (rO (re Alt.lo) .nil) rx) ?_;refine ai (fun h5=>?_) (fun h6=>?_)
     ·refine Qn0 (fun r:Int=>I r) (fun r:Int=>[(0,AObj.row 87 2 [[I (l.getD i Alt.zero).nodes,I (l.getD i Alt.zero).wall]])]) (leaf:=(i1:Int)) (foll hR (ct h5 rfl)) ?_;exact tt [0] (tO rfl (ts Alt.lo) .nil) t1
     ·exact Ql0 (i1+1) (wk [0] (tO rfl (ts Alt.lo) .nil) (sl lw (sv (Q51 .nil (cv (Q10 0 rfl rfl) .nil)) (s1 (s1 (sv (Qd0 (I_eq (wr omA)) lx) .nil)))))) omA ⟨foll hR (cf h6 rfl),by exact omA⟩
    ·rw [Qg0 (l:=(List.take i l)) (j:=i1) (geA h4)] at hR;refine Qn0 (fun r:Int=>I r) (fun r:Int=>[(0,AObj.row 87 2 [[I (l.getD i Alt.zero).nodes,I (l.getD i Alt.zero).wall]])]) (leaf:=(-1)) (foll hR rfl) ?_;exact tt [0] (tO rfl (ts Alt.lo) .nil) t1
   refine us (mv [0] (hof2) (dO (ds Alt.lo) .nil) (dl lw (dv (dn_fn .nil (dp .nil)) .nil)) (rO (re Alt.lo) .nil) rx) ?_;refine Qn0 (fun r:Bool=>Bo r) (fun r:Bool=>[(0,AObj.row 87 2 [[I (l.getD i Alt.zero).nodes,I (l.getD i Alt.zero).wall]])]) (leaf:=(decide ((QK0 (List.take i l) (fun (y:Alt)=>((l.getD i Alt.zero).nodes==y.nodes))) >= 0))) (foll hR rfl) ?_;exact tt [0] (tO rfl (ts Alt.lo) .nil) t1
  refine us (mv [0] (hof1) (dO (ds Alt.lo) .nil) (dv (dn_as (as_take l i ckA) lw) (dv (dn_fn .nil (dp .nil)) .nil)) (rO (re Alt.lo) .nil) rx) ?_;refine ai (fun h7=>?_) (fun h8=>?_)
  ·obtain rfl:=foll hR (ct h7 rfl);exact Q00 lx sr
  ·exact Ql0 (i+1) (wk [] .nil (sl lw (s1 (sl lw (s1 (sv (Qd0 (I_eq (wr omA)) lx) .nil)))))) omA ⟨foll hR (cf h8 rfl),by exact omA⟩
 ·rw [Qg0 (l:=l) (j:=i) (geA h2)] at hR;obtain rfl:=foll hR rfl;exact Q00 lx sr
def Qi4 (s:ByteArray):Bool:=(((QM3 s).2==0)&&(Qa2 ((QM3 s).1) 1 16))
theorem QW9 (s:ByteArray) (hs0:s.size<=4294967296):∀ objs,AGives Tryz.prog 153 [Sg s] objs (Bo (Qi4 s)):=by
 generalize hR:Qi4 s=R;refine ga (l1 .nil) lx (kp 5 []) Tryz.func153 ?_;have hk0:=hs0;obtain z1:s.size<=4294967296:=hs0;refine us (QG9 s szA _) ?_;(first|apply u2|apply u3|apply u4|apply us);exact QC2 ((QM3 s).1) 1 16 _;obtain rfl:=foll hR rfl;exact Q00 lx sr
def Qr5 (s:ByteArray):Int × Bool:=bif (((!(Q66 s))||(decide ((ByteArray.size s:Int) > 9)))||((decide ((ByteArray.size s:Int) > 1))&&(((s.data.toList.getD 0 0).toNat:Int)==48))) then (0,false) else ((Qa8 s).1,true)
theorem lex_number_c (s:ByteArray) (hs0:s.size<=4294967296):∀ objs,AGives Tryz.prog 210 [Sg s] objs (AVal.tup [I ((Qr5 s).1),Bo ((Qr5 s).2)]):=by
 generalize hR:Qr5 s=R;refine ga (l1 .nil) (Low.tup' (l1 (l1 .nil))) (kp 6 [23]) Tryz.func210 ?_;have hk0:=hs0;obtain z3:s.size<=4294967296:=hs0;refine us (Qsa s szA _) ?_;refine ai gkA ?_;refine ai (fun h1=>?_) (fun h2=>?_)
 ·obtain rfl:=foll hR (ct h1 rfl);exact Q00 (Low.tup' (l1 (l1 .nil))) (Seen.tup (e1 (e1 .nil)))
 ·refine us (strconv_Atoi_c s szA (by exact lex_digits_ok (by assumption)) _) ?_;refine dchk (by kernel_rfl) ?_;(repeat ((first|refine ai rfl ?_|refine ai (fun _=>rfl) ?_)));obtain rfl:=foll hR (cf h2 rfl);exact Q00 (Low.tup' (l1 (l1 .nil))) (Seen.tup (e1 (e1 .nil)))
theorem Qab (l:List Int) (r_:Int) (hl:l.length<=4294967296):AMoves Tryz.prog 202 [.ptr 0 0 2 0 0,J r_] [(0,.row 226 2 [[.sel 0 0 2 0 0,.own 1 0 1 0 l.length]]),(0,Qh4 l)] 1 (.tup [I (w64 (((Qz0 l r_).length:Int) - (l.length:Int))),.lit .nilIface]) [(0,.row 226 2 [[.ptr 0 0 2 0 0,.own 1 0 1 0 (Qz0 l r_).length]]),(0,Qh4 (Qz0 l r_))]:=by
 refine AMoves.of_cwp (fun t=>Nat.ble 1000000 t||Nat.blt t 7) Tryz.func202 rfl rfl rfl ?_
 refine us (AMoves.on [0,1] (copyCheck_m bldT0 (x:=.own 1 0 1 0 l.length) (rest:=[(0,Qh4 l)]) (n0:=2) (by simp)) (by decide) rfl rfl rfl (.cons _ _ _ _ (.row1 _ _ _ _ (.cons _ _ _ _ (dn_sel rfl) (.cons _ _ _ _ (dn_own rfl) .nil))) (.cons _ _ _ _ (.same _ (Qs7 fun _=>lowL1 rfl)) .nil)) rfl (.cons _ _ _ _ (dn_ptr rfl) .nil) (.cons _ _ _ _ (RenO.row1 _ _ _ _ (.cons _ _ _ _ (Ren.ptr _ _ _ _ _ _ rfl) (.cons _ _ _ _ (Ren.own _ _ _ _ _ _ rfl) .nil))) (.cons _ _ _ _ (RenO.same _ (Qs7 fun _=>lowL1 rfl)) .nil)) (Ren.low _ (.tup _ (fun x h=>nomatch h)))) ?_
 refine us (AMoves.on [1] (Qga l r_ hl) (by decide) rfl rfl rfl (.cons _ _ _ _ (dn_row rfl (Qs7 fun _=>lowL1 rfl)) .nil) rfl (.cons _ _ _ _ (Qi7 rfl rfl) (.cons _ _ _ _ (Qw6 (QL2 rfl)) .nil)) (.cons _ _ _ _ (RenO.same _ (Qs7 fun _=>lowL1 rfl)) .nil) (Ren.own _ _ _ _ _ _ rfl)) ?_
 refine Qn0 (fun _:Unit=>.tup [I (w64 (((Qz0 l r_).length:Int) - (l.length:Int))),.lit .nilIface]) (fun _:Unit=>[(0,.row 226 2 [[.ptr 0 0 2 0 0,.own 1 0 1 0 (Qz0 l r_).length]]),(0,Qh4 (Qz0 l r_))]) (leaf:=()) rfl ?_
 exact Q65 [0,2] rfl (by decide) (.cons 0 _ _ _ _ rfl (Qs0 (.cons _ _ _ _ (Q10 0 rfl rfl) (.cons _ _ _ _ (Q8b 1 rfl rfl rfl) .nil))) (.cons 2 _ _ _ _ rfl (QR9 rfl (Qs7 fun _=>lowL1 rfl)) .nil)) (turn_tup (.cons _ _ _ _ (QH0 (QL2 rfl)) (.cons _ _ _ _ (QH0 (QL2 rfl)) .nil)))
def Q94 (l:List Dep):List Dep->Nat->Bool
 | [],_=>(decide ((l.length:Int)<=4))
 | x_ :: r,i=>bif (((!(Qa2 x_.how 1 3))||(!(Qha x_.job)))||(Qo0 (List.take i l) (fun (y:Dep)=>(y.job==x_.job)))) then false else Q94 l r (i+1)
def Q16 (l:List Dep):Bool:=Q94 l l 0
theorem cmd_deps_c (l:List Dep) (hs0:l.length<=4294967296):∀ objs,AGives Tryz.prog 155 [depL l] objs (Bo (Q16 l)):=by
 generalize hR:Q16 l=R;refine ga (.cons lw .nil) lx (kp 6 [6,7,8,9,30]) Tryz.func155 ?_;have hk0:=hs0;obtain z9:l.length<=4294967296:=hs0;refine Qh0 (fun (i:Nat)=>Q94 l (List.drop i l) i=R∧i<=l.length) (fun i=>l.length - i) (fun i=>[(0,depL l),(2,Bo false),(6,depL l),(7,I (l.length:Int)),(8,I (i:Int))]) (fun i=>[]) 0 (wk [] .nil (sl lw (s1 (sl lw (s1 (s1 .nil)))))) ⟨foll hR rfl,by exact omA⟩ ?_;clear hR;rintro i ⟨hR,hj⟩;(try dsimp only at hR hj);refine ai (fun h1=>?_) (fun h2=>?_)
 ·have hlt:=ltA h1;rw [Qf0 Dep.zero hlt] at hR;refine ai gkA ?_;refine ai gkA ?_;have cl1:∀ (y1:Dep),AMoves Tryz.prog 171 [Dep.a y1,AVal.ptr 0 0 2 0 0] [(0,AObj.row 114 2 [[I (l.getD i Dep.zero).how,I (l.getD i Dep.zero).job]])] 1 (Bo ((fun (y:Dep)=>(y.job==(l.getD i Dep.zero).job)) y1)) [(0,AObj.row 114 2 [[I (l.getD i Dep.zero).how,I (l.getD i Dep.zero).job]])]:=by
   intro y1;have hR:(fun (y:Dep)=>(y.job==(l.getD i Dep.zero).job)) y1=(fun (y:Dep)=>(y.job==(l.getD i Dep.zero).job)) y1:=rfl;refine mo (kp 4 []) Tryz.func171 ?_;refine Qn0 (fun r:Bool=>Bo r) (fun _=>[(0,AObj.row 114 2 [[I (l.getD i Dep.zero).how,I (l.getD i Dep.zero).job]])]) (leaf:=(y1.job==(l.getD i Dep.zero).job)) (foll hR rfl) ?_;exact tt [0] (tO rfl (ts Dep.lo) .nil) t1
  have hof1:AMoves Tryz.prog 79 [depL (List.take i l),AVal.fn (.func 171) [] [AVal.ptr 0 0 2 0 0]] [(0,AObj.row 114 2 [[I (l.getD i Dep.zero).how,I (l.getD i Dep.zero).job]])] 1 (Bo (Qo0 (List.take i l) (fun (y:Dep)=>(y.job==(l.getD i Dep.zero).job)))) [(0,AObj.row 114 2 [[I (l.getD i Dep.zero).how,I (l.getD i Dep.zero).job]])]:=by
   have hR:Qo0 (List.take i l) (fun (y:Dep)=>(y.job==(l.getD i Dep.zero).job))=Qo0 (List.take i l) (fun (y:Dep)=>(y.job==(l.getD i Dep.zero).job)):=rfl;refine mo (kp 5 []) Tryz.func79 ?_;have hof2:AMoves Tryz.prog 121 [depL (List.take i l),AVal.fn (.func 171) [] [AVal.ptr 0 0 2 0 0]] [(0,AObj.row 114 2 [[I (l.getD i Dep.zero).how,I (l.getD i Dep.zero).job]])] 1 (I (QL0 (List.take i l) (fun (y:Dep)=>(y.job==(l.getD i Dep.zero).job)))) [(0,AObj.row 114 2 [[I (l.getD i Dep.zero).how,I (l.getD i Dep.zero).job]])]:=by
    have hR:QL0 (List.take i l) (fun (y:Dep)=>(y.job==(l.getD i Dep.zero).job))=QL0 (List.take i l) (fun (y:Dep)=>(y.job==(l.getD i Dep.zero).job)):=rfl;refine mo (kp 6 [7,8,9,16]) Tryz.func121 ?_;refine Qh0 (fun (i1:Nat)=>Qz2 (fun (y:Dep)=>(y.job==(l.getD i Dep.zero).job)) (List.drop i1 (List.take i l)) i1=QL0 (List.take i l) (fun (y:Dep)=>(y.job==(l.getD i Dep.zero).job))∧i1<=(List.take i l).length) (fun i1=>(List.take i l).length - i1) (fun i1=>[(0,depL (List.take i l)),(1,AVal.fn (.func 171) [] [AVal.ptr 0 0 2 0 0]),(4,I 0),(7,I ((List.take i l).length:Int)),(8,I (i1:Int))]) (fun i1=>[(0,AObj.row 114 2 [[I (l.getD i Dep.zero).how,I (l.getD i Dep.zero).job]])]) 0 (wk [0] (tO rfl (ts Dep.lo) .nil) (sl lw (sv (Q51 .nil (cv (Q10 0 rfl rfl) .nil)) (s1 (s1 (s1 .nil)))))) ⟨foll hR rfl,by exact omA⟩ ?_;clear hR;rintro i1 ⟨hR,hj⟩;(try dsimp only at hR hj);refine ai (fun h3=>?_) (fun h4=>?_)
    ·have hlt:=ltA h3;rw [Qf0 Dep.zero hlt] at hR;refine ai gkA ?_;refine us (mv [0] (cl1 ((List.take i l).getD i1 Dep.zero)) (dO (ds Dep.lo) .nil) (dl (Dep.low _ _) (dp .nil)) (rO (re Dep.lo) .nil) rx) ?_;refine ai (fun h5=>?_) (fun h6=>?_)
     ·refine Qn0 (fun r:Int=>I r) (fun r:Int=>[(0,AObj.row 114 2 [[I (l.getD i Dep.zero).how,I (l.getD i Dep.zero).job]])]) (leaf:=(i1:Int)) (foll hR (ct h5 rfl)) ?_;exact tt [0] (tO rfl (ts Dep.lo) .nil) t1
     ·exact Ql0 (i1+1) (wk [0] (tO rfl (ts Dep.lo) .nil) (sl lw (sv (Q51 .nil (cv (Q10 0 rfl rfl) .nil)) (s1 (s1 (sv (Qd0 (I_eq (wr omA)) lx) .nil)))))) omA ⟨foll hR (cf h6 rfl),by exact omA⟩
    ·rw [Qg0 (l:=(List.take i l)) (j:=i1) (geA h4)] at hR;refine Qn0 (fun r:Int=>I r) (fun r:Int=>[(0,AObj.row 114 2 [[I (l.getD i Dep.zero).how,I (l.getD i Dep.zero).job]])]) (leaf:=(-1)) (foll hR rfl) ?_;exact tt [0] (tO rfl (ts Dep.lo) .nil) t1
   refine us (mv [0] (hof2) (dO (ds Dep.lo) .nil) (dl lw (dv (dn_fn .nil (dp .nil)) .nil)) (rO (re Dep.lo) .nil) rx) ?_;refine Qn0 (fun r:Bool=>Bo r) (fun r:Bool=>[(0,AObj.row 114 2 [[I (l.getD i Dep.zero).how,I (l.getD i Dep.zero).job]])]) (leaf:=(decide ((QL0 (List.take i l) (fun (y:Dep)=>(y.job==(l.getD i Dep.zero).job))) >= 0))) (foll hR rfl) ?_;exact tt [0] (tO rfl (ts Dep.lo) .nil) t1
  refine us (mv [0] (hof1) (dO (ds Dep.lo) .nil) (dv (dn_as (as_take l i ckA) lw) (dv (dn_fn .nil (dp .nil)) .nil)) (rO (re Dep.lo) .nil) rx) ?_;refine us (QC2 ((l.getD i Dep.zero).how) 1 3 _) ?_;(first|apply u2|apply u3|apply u4|apply us);exact Q5b ((l.getD i Dep.zero).job) _;refine ai (fun h7=>?_) (fun h8=>?_)
  ·obtain rfl:=foll hR (ct h7 rfl);exact Q00 lx sr
  ·exact Ql0 (i+1) (wk [] .nil (sl lw (s1 (sl lw (s1 (sv (Qd0 (I_eq (wr omA)) lx) .nil)))))) omA ⟨foll hR (cf h8 rfl),by exact omA⟩
 ·rw [Qg0 (l:=l) (j:=i) (geA h2)] at hR;obtain rfl:=foll hR rfl;exact Q00 lx sr
def Q09 (a:Cmd) (b:Cmd):Bool:=bif ((!(Q97 a.shape b.shape))||(!(QJ4 a.after b.after))) then false else ((((((((((((a.kind==b.kind)&&(a.job==b.job))&&(ByteArray.toList a.name==ByteArray.toList b.name))&&(ByteArray.toList a.user==ByteArray.toList b.user))&&(ByteArray.toList a.account==ByteArray.toList b.account))&&(a.prio==b.prio))&&(a.hasPrio==b.hasPrio))&&(a.time==b.time))&&(a.hasTime==b.hasTime))&&(a.node==b.node))&&(a.nodes==b.nodes))&&(a.from_==b.from_))
theorem cmd_Same_c (a:Cmd) (b:Cmd) (hs0:a.sz) (hs1:b.sz):∀ objs,AGives Tryz.prog 119 [Cmd.a a,Cmd.a b] objs (Bo (Q09 a b)):=by
 generalize hR:Q09 a b=R;refine ga (.cons (Cmd.low _ _) (.cons (Cmd.low _ _) .nil)) lx (kp 5 [18]) Tryz.func119 ?_;have hk0:=hs0;obtain ⟨z3,z4,z5,z6,z7⟩:a.name.size<=4294967296∧a.user.size<=4294967296∧a.account.size<=4294967296∧(a.shape.alts.length<=4294967296)∧a.after.length<=4294967296:=hs0;have hk1:=hs1;obtain ⟨z8,z9,z10,z11,z12⟩:b.name.size<=4294967296∧b.user.size<=4294967296∧b.account.size<=4294967296∧(b.shape.alts.length<=4294967296)∧b.after.length<=4294967296:=hs1;refine us (shape_Same_c a.shape b.shape szA szA _) ?_;(first|apply u2|apply u3|apply u4|apply us);exact QK9 a.after b.after szA szA _;refine ai (fun h1=>?_) (fun h2=>?_)
 ·obtain rfl:=foll hR (ct h1 rfl);exact Q00 lx sr
 ·obtain rfl:=foll hR (cf h2 rfl);exact Q00 lx sr
def QN7 (set_:Int):Bool:=((wu64 (BitVec.ofInt 64 set_ &&& ~~~(BitVec.ofInt 64 (QD3 48))).toNat)==0)
theorem QCb (set_:Int):∀ objs,AGives Tryz.prog 123 [U set_] objs (Bo (QN7 set_)):=by
 generalize hR:QN7 set_=R;refine ga (l1 .nil) lx (kp 3 []) Tryz.func123 ?_;refine us (nodeset_All_c 48 _) ?_;obtain rfl:=foll hR rfl;exact Q00 lx sr
def QT1 (c4:List Step):(List Step) × Int:=bif ((QF1 c4)!=0) then ([],3) else (c4,0)
def Qy4 :List Step->Nat->List Step->(List Step)
 | [],_,c5=>c5
 | x_ :: r,i2,c5=>Qy4 r (i2+1) (QI0 x_.at_ x_.free c5)
def Qi3 (c5:List Step):(List Step) × Int:=QT1 c5
def Qg2 (p_:List Step) (to_:Int) (i:Int) (last:Int) (c2:List Step):(List Step) × Int:=bif (i==(p_.length:Int)) then bif (decide (to_<=1000000)) then QT1 (QI0 to_ last c2) else QT1 c2 else Qi3 (Qy4 (List.drop (Int.toNat i) p_) 0 c2)
def QD2 (p_:List Step) (to_:Int) (n:Int):Nat->Int->Int->List Step->(List Step) × Int
 | 0,_,_,_=>([],0)
 | m+1,i1,last1,c3=>bif (decide (i1<(p_.length:Int))) then bif (decide ((p_.getD (Int.toNat i1) Step.zero).at_<to_)) then QD2 p_ to_ n m (w64 (i1+1)) ((p_.getD (Int.toNat i1) Step.zero).free) (QI0 ((p_.getD (Int.toNat i1) Step.zero).at_) (w64 ((p_.getD (Int.toNat i1) Step.zero).free+n)) c3) else bif (decide ((p_.getD (Int.toNat i1) Step.zero).at_ > to_)) then Qg2 p_ to_ i1 ((p_.getD (Int.toNat i1) Step.zero).free) (QI0 to_ ((p_.getD (Int.toNat (w64 (i1 - 1))) Step.zero).free) c3) else Qg2 p_ to_ i1 ((p_.getD (Int.toNat i1) Step.zero).free) c3 else Qg2 p_ to_ i1 last1 c3
def QV3 (p_:List Step) (from_:Int) (to_:Int) (n:Int) (c:List Step):(List Step) × Int:=QD2 p_ to_ n ((Int.toNat ((p_.length:Int) - (w64 ((Qc0 p_ from_)+1))))+1) (w64 ((Qc0 p_ from_)+1)) ((p_.getD (Int.toNat (Qc0 p_ from_)) Step.zero).free) (QI0 from_ (w64 ((p_.getD (Int.toNat (Qc0 p_ from_)) Step.zero).free+n)) c)
def Qc2 (p_:List Step) (from_:Int) (to_:Int) (n:Int):(List Step) × Int:=bif ((QF1 p_)!=0) then ([],100) else bif (((!(Q22 from_))||(decide (to_<from_)))||(!(Q62 n))) then ([],2) else bif (to_==from_) then (p_,0) else bif (decide ((p_.getD (Int.toNat (Qc0 p_ from_)) Step.zero).at_<from_)) then QV3 p_ from_ to_ n (QI0 ((p_.getD (Int.toNat (Qc0 p_ from_)) Step.zero).at_) ((p_.getD (Int.toNat (Qc0 p_ from_)) Step.zero).free) (List.take (Int.toNat (Qc0 p_ from_)) p_)) else QV3 p_ from_ to_ n (List.take (Int.toNat (Qc0 p_ from_)) p_)
theorem profile_Add_c (p_:List Step) (from_:Int) (to_:Int) (n:Int) (hs0:p_.length<=4294967296):∀ objs,AGives Tryz.prog 71 [stepL p_,I from_,I to_,I n] objs (AVal.tup [stepL ((Qc2 p_ from_ to_ n).1),I ((Qc2 p_ from_ to_ n).2)]):=by
 generalize hR:Qc2 p_ from_ to_ n=R;refine ga (.cons lw (l1 (l1 (l1 .nil)))) (Low.tup' (.cons lw (l1 .nil))) (kj [1000014,1000024,1000032] 17 [17,21,35,58,91,99,117,137,139,146,147,148,149,161]) Tryz.func71 ?_;have hk0:=hs0;obtain z23:p_.length<=4294967296:=hs0;refine us (Qo6 p_ (by first|((refine Nat.le_trans (Q30 _ _ _) ?_;omega))|first|((simp;omega))|exact szA) _) ?_;refine ai (fun h1=>?_) (fun h2=>?_)
 ·obtain rfl:=foll hR (ct h1 rfl);exact Q00 (Low.tup' (.cons lw (l1 .nil))) (Seen.tup (ev (QT0) (e1 .nil)))
 ·refine us (Qya from_ _) ?_;(first|apply u2|apply u3|apply u4|apply us);exact QJ6 n _;refine ai (fun h3=>?_) (fun h4=>?_)
  ·obtain rfl:=foll hR (cf h2 (ct h3 rfl));exact Q00 (Low.tup' (.cons lw (l1 .nil))) (Seen.tup (ev (QT0) (e1 .nil)))
  ·refine ai (fun h5=>?_) (fun h6=>?_)
   ·refine us (mv [] (QO8 p_ (by first|((refine Nat.le_trans (Q30 _ _ _) ?_;omega))|first|((simp;omega))|exact szA)) .nil (dl lw .nil) (rO rr .nil) (rw_ 0 0 rfl)) ?_;obtain rfl:=foll hR (cf h2 (cf h4 (ct h5 rfl)));exact Q00 (Low.tup' (.cons lw (l1 .nil))) (Seen.tup (ev (Qo2 Step.zero _ rfl eqA lnA) (e1 .nil)))
   ·refine us (QV7 p_ from_ (by first|((refine Nat.le_trans (Q30 _ _ _) ?_;omega))|first|((simp;omega))|exact szA) _) ?_;have hc:=Qs5 (p:=p_) (by assumption);have hp:=QX5 hc.1 hc.2.1 hc.2.2 (Qw9 (by assumption));have hw:w64 (Qc0 p_ from_+1)=Qc0 p_ from_+1:=wr (by omega);refine ai gkA ?_;(first|refine ⟨Qp2 16 rfl lnA apA,?_⟩|refine ⟨Qk1 16 rfl apA,?_⟩);refine Qn1 (fun (c:List Step)=>QV3 p_ from_ to_ n c=R∧c.length<=Int.toNat (Qc0 p_ from_)+1) (fun c=>[(0,stepL p_),(1,I from_),(2,I to_),(3,I n),(8,AVal.lit (.slice none 0 0)),(9,I 0),(10,AVal.ptr 0 0 1 0 0),(11,AVal.fn (.func 115) [] [AVal.ptr 0 0 1 0 0]),(12,I (Qc0 p_ from_))]) (fun c=>[(0,AObj.row 36 1 [[AVal.own 1 0 2 0 c.length]]),(0,AObj.row 67 2 (c.map Step.cells))]) ?_ ?_
    ·clear hR;rintro c ⟨hR,hx⟩;(try dsimp only at hR hx);refine ai gkA ?_;refine us (mv [0,1] (Q13 from_ (w64 ((p_.getD (Int.toNat (Qc0 p_ from_)) Step.zero).free+n)) c (by first|((refine Nat.le_trans (Q30 _ _ _) ?_;omega))|first|((simp;omega))|exact szA)) (dO (dc (dv (Qi7 rfl lnA) .nil)) (dO (dr eqA) .nil)) (d1 (d1 (dp .nil))) (rO (rc (.cons _ _ _ _ (rw_ 2 0 rfl) .nil)) (rO rr .nil)) rx) ?_;refine ai gkA ?_;refine join_start3 (fun (i:Int) (last:Int) (c2:List Step)=>Qg2 p_ to_ i last c2=R∧1<=i∧i<=(p_.length:Int)∧c2.length<=1003) (fun i last c2=>[(0,stepL p_),(2,I to_),(8,AVal.lit (.slice none 0 0)),(9,I 0),(10,AVal.ptr 0 0 1 0 0),(11,AVal.fn (.func 115) [] [AVal.ptr 0 0 1 0 0]),(12,I i),(14,I last)]) (fun i last c2=>[(0,AObj.row 36 1 [[AVal.own 1 0 2 0 c2.length]]),(0,AObj.row 67 2 (c2.map Step.cells))]) ?_ ?_
     ·clear hR;rintro i last c2 ⟨hR,hx⟩;(try dsimp only at hR hx);refine Qn1 (fun (c4:List Step)=>QT1 c4=R∧c4.length<=4000) (fun c4=>[(8,AVal.lit (.slice none 0 0)),(9,I 0),(10,AVal.ptr 0 0 1 0 0)]) (fun c4=>[(0,AObj.row 36 1 [[AVal.own 1 0 2 0 c4.length]]),(0,AObj.row 67 2 (c4.map Step.cells))]) ?_ ?_
      ·clear hR;rintro c4 ⟨hR,hx⟩;(try dsimp only at hR hx);refine us (AGives.lent (Qo6 c4 (by first|((refine Nat.le_trans (Q30 _ _ _) ?_;omega))|first|((simp;omega))|exact szA) []) (ev (Qo2 _ _ rfl eqA lnA) .nil) (.cons lw .nil) (Qe7 rfl)) ?_;refine ai (fun h7=>?_) (fun h8=>?_)
       ·obtain rfl:=foll hR (ct h7 rfl);exact Q00 (Low.tup' (.cons lw (l1 .nil))) (Seen.tup (ev (QT0) (e1 .nil)))
       ·obtain rfl:=foll hR (cf h8 rfl);exact Q00 (Low.tup' (.cons lw (l1 .nil))) (Seen.tup (ev (Qo2 Step.zero _ rfl eqA lnA) (e1 .nil)))
      ·refine ai (fun h9=>?_) (fun h10=>?_)
       ·refine ai (fun h11=>?_) (fun h12=>?_)
        ·have qh11:=of_decide_eq_true h11;refine us (mv [0,1] (Q13 to_ last c2 (by first|((refine Nat.le_trans (Q30 _ _ _) ?_;omega))|first|((simp;omega))|exact szA)) (dO (dc (dv (Qi7 rfl lnA) .nil)) (dO (dr eqA) .nil)) (d1 (d1 (dp .nil))) (rO (rc (.cons _ _ _ _ (rw_ 2 0 rfl) .nil)) (rO rr .nil)) rx) ?_;exact Q70 (QI0 to_ last c2) (wk [0,2] (tO rfl (Qs0 (cv (to 1 lnA) .nil)) (tO rfl (tl eqA) .nil)) (s1 (s1 (sv (Q10 0 rfl rfl) .nil)))) (⟨foll hR (ct h9 (ct h11 rfl)),by first|((exact ⟨by omega,by omega,Nat.le_trans (Q30 _ _ _) (by omega)⟩))|first|((exact ⟨by omega,by omega,by omega⟩))|first|((rw [hw1];exact ⟨by omega,by omega,Int.le_trans (Int.ofNat_le.2 (Q30 _ _ _)) (by omega)⟩))|first|((rw [hw];exact ⟨by omega,by omega,Int.le_trans (Int.ofNat_le.2 (Q30 _ _ _)) (by omega)⟩))|first|(((try dsimp only);refine Nat.le_trans (Q30 _ _ _) ?_;first|omega|(simp;omega)))|first|(((try dsimp only);rw [List.length_drop] at *;omega))|first|((simp;omega))|exact exA⟩)
        ·have qh12:=of_decide_eq_false h12;exact Q70 c2 (wk [0,1] (tO rfl (Qs0 (cv (to 1 lnA) .nil)) (tO rfl (tl eqA) .nil)) (s1 (s1 (sv (Q10 0 rfl rfl) .nil)))) (⟨foll hR (ct h9 (cf h12 rfl)),by first|((exact ⟨by omega,by omega,Nat.le_trans (Q30 _ _ _) (by omega)⟩))|first|((exact ⟨by omega,by omega,by omega⟩))|first|((rw [hw1];exact ⟨by omega,by omega,Int.le_trans (Int.ofNat_le.2 (Q30 _ _ _)) (by omega)⟩))|first|((rw [hw];exact ⟨by omega,by omega,Int.le_trans (Int.ofNat_le.2 (Q30 _ _ _)) (by omega)⟩))|first|(((try dsimp only);refine Nat.le_trans (Q30 _ _ _) ?_;first|omega|(simp;omega)))|first|(((try dsimp only);rw [List.length_drop] at *;omega))|first|((simp;omega))|exact exA⟩)
       ·refine ai gkA ?_;refine Qj0 (fun (i2:Nat) (c5:List Step)=>Qi3 (Qy4 (List.drop i2 (List.drop (Int.toNat i) p_)) i2 c5)=R∧i2<=(List.drop (Int.toNat i) p_).length∧c5.length<=2000+i2) (fun i2 c5=>(List.drop (Int.toNat i) p_).length - i2) (fun i2 c5=>[(8,AVal.lit (.slice none 0 0)),(9,I 0),(10,AVal.ptr 0 0 1 0 0),(11,AVal.fn (.func 115) [] [AVal.ptr 0 0 1 0 0]),(146,stepL (List.drop (Int.toNat i) p_)),(147,I ((List.drop (Int.toNat i) p_).length:Int)),(148,I (i2:Int))]) (fun i2 c5=>[(0,AObj.row 36 1 [[AVal.own 1 0 2 0 c5.length]]),(0,AObj.row 67 2 (c5.map Step.cells))]) 0 c2 (wk [0,1] (tO rfl (Qs0 (cv (to 1 lnA) .nil)) (tO rfl (tl eqA) .nil)) (s1 (s1 (sv (Q10 0 rfl rfl) (sv (Q51 .nil (cv (Q10 0 rfl rfl) .nil)) (sv (turn_as (as_drop p_ (Int.toNat i) _ leA) lw) (sv (Qd0 (I_eq (by simp)) lx) (s1 .nil)))))))) ⟨foll hR (cf h10 rfl),by exact omA,by first|((exact ⟨by omega,by omega,Nat.le_trans (Q30 _ _ _) (by omega)⟩))|first|((exact ⟨by omega,by omega,by omega⟩))|first|((rw [hw1];exact ⟨by omega,by omega,Int.le_trans (Int.ofNat_le.2 (Q30 _ _ _)) (by omega)⟩))|first|((rw [hw];exact ⟨by omega,by omega,Int.le_trans (Int.ofNat_le.2 (Q30 _ _ _)) (by omega)⟩))|first|(((try dsimp only);refine Nat.le_trans (Q30 _ _ _) ?_;first|omega|(simp;omega)))|first|(((try dsimp only);rw [List.length_drop] at *;omega))|first|((simp;omega))|exact exA⟩ ?_;clear hR;rintro i2 c5 ⟨hR,hj,hx⟩;(try dsimp only at hR hj hx);refine ai (fun h13=>?_) (fun h14=>?_)
        ·have hlt:=ltA h13;rw [Qf0 Step.zero hlt] at hR;have hdl:(List.drop (Int.toNat i) p_).length<=1000:=(by rw [List.length_drop];omega);refine ai gkA ?_;refine us (mv [0,1] (Q13 (((List.drop (Int.toNat i) p_).getD i2 Step.zero).at_) (((List.drop (Int.toNat i) p_).getD i2 Step.zero).free) c5 (by first|((refine Nat.le_trans (Q30 _ _ _) ?_;omega))|first|((simp;omega))|exact szA)) (dO (dc (dv (Qi7 rfl lnA) .nil)) (dO (dr eqA) .nil)) (d1 (d1 (dp .nil))) (rO (rc (.cons _ _ _ _ (rw_ 3 0 rfl) .nil)) (rO rr .nil)) rx) ?_;exact Qa0 (i2+1) (QI0 ((List.drop (Int.toNat i) p_).getD i2 Step.zero).at_ ((List.drop (Int.toNat i) p_).getD i2 Step.zero).free c5) (wk [0,3] (tO rfl (Qs0 (cv (to 1 lnA) .nil)) (tO rfl (tl eqA) .nil)) (s1 (s1 (sv (Q10 0 rfl rfl) (sv (Q51 .nil (cv (Q10 0 rfl rfl) .nil)) (sl lw (sv (Qd0 (I_eq (by simp)) lx) (sv (Qd0 (I_eq (wr omA)) lx) .nil)))))))) omA ⟨foll hR (congrArg (fun p:(List Step)=>Qi3 p) rfl),by exact omA,by first|((exact ⟨by omega,by omega,Nat.le_trans (Q30 _ _ _) (by omega)⟩))|first|((exact ⟨by omega,by omega,by omega⟩))|first|((rw [hw1];exact ⟨by omega,by omega,Int.le_trans (Int.ofNat_le.2 (Q30 _ _ _)) (by omega)⟩))|first|((rw [hw];exact ⟨by omega,by omega,Int.le_trans (Int.ofNat_le.2 (Q30 _ _ _)) (by omega)⟩))|first|(((try dsimp only);refine Nat.le_trans (Q30 _ _ _) ?_;first|omega|(simp;omega)))|first|(((try dsimp only);rw [List.length_drop] at *;omega))|first|((simp;omega))|exact exA⟩
        ·rw [Qg0 (l:=(List.drop (Int.toNat i) p_)) (j:=i2) (geA h14)] at hR;replace hR:Qi3 c5=R:=fo2 (fun p:(List Step)=>Qi3 p) (c5) hR rfl;exact Q70 c5 (wk [0,1] (tO rfl (Qs0 (cv (to 1 lnA) .nil)) (tO rfl (tl eqA) .nil)) (s1 (s1 (sv (Q10 0 rfl rfl) .nil)))) (⟨foll hR rfl,by first|((exact ⟨by omega,by omega,Nat.le_trans (Q30 _ _ _) (by omega)⟩))|first|((exact ⟨by omega,by omega,by omega⟩))|first|((rw [hw1];exact ⟨by omega,by omega,Int.le_trans (Int.ofNat_le.2 (Q30 _ _ _)) (by omega)⟩))|first|((rw [hw];exact ⟨by omega,by omega,Int.le_trans (Int.ofNat_le.2 (Q30 _ _ _)) (by omega)⟩))|first|(((try dsimp only);refine Nat.le_trans (Q30 _ _ _) ?_;first|omega|(simp;omega)))|first|(((try dsimp only);rw [List.length_drop] at *;omega))|first|((simp;omega))|exact exA⟩)
     ·refine Qr7 (fun (i1:Int) (last1:Int) (c3:List Step)=>∃ m,(Int.toNat ((p_.length:Int) - i1))<m∧QD2 p_ to_ n m i1 last1 c3=R∧1<=i1∧i1<=(p_.length:Int)∧(c3.length:Int)<=i1+1) (fun i1 last1 c3=>(Int.toNat ((p_.length:Int) - i1))) (fun i1 last1 c3=>[(0,stepL p_),(2,I to_),(3,I n),(8,AVal.lit (.slice none 0 0)),(9,I 0),(10,AVal.ptr 0 0 1 0 0),(11,AVal.fn (.func 115) [] [AVal.ptr 0 0 1 0 0]),(12,I i1),(14,I last1)]) (fun i1 last1 c3=>[(0,AObj.row 36 1 [[AVal.own 1 0 2 0 c3.length]]),(0,AObj.row 67 2 (c3.map Step.cells))]) (w64 ((Qc0 p_ from_)+1)) ((p_.getD (Int.toNat (Qc0 p_ from_)) Step.zero).free) (QI0 from_ (w64 ((p_.getD (Int.toNat (Qc0 p_ from_)) Step.zero).free+n)) c) (wk [0,2] (tO rfl (Qs0 (cv (to 1 lnA) .nil)) (tO rfl (tl eqA) .nil)) (sl lw (s1 (s1 (s1 (s1 (sv (Q10 0 rfl rfl) (sv (Q51 .nil (cv (Q10 0 rfl rfl) .nil)) (s1 (s1 .nil)))))))))) ⟨_,Nat.lt_succ_self _,foll hR rfl,by first|((exact ⟨by omega,by omega,Nat.le_trans (Q30 _ _ _) (by omega)⟩))|first|((exact ⟨by omega,by omega,by omega⟩))|first|((rw [hw1];exact ⟨by omega,by omega,Int.le_trans (Int.ofNat_le.2 (Q30 _ _ _)) (by omega)⟩))|first|((rw [hw];exact ⟨by omega,by omega,Int.le_trans (Int.ofNat_le.2 (Q30 _ _ _)) (by omega)⟩))|first|(((try dsimp only);refine Nat.le_trans (Q30 _ _ _) ?_;first|omega|(simp;omega)))|first|(((try dsimp only);rw [List.length_drop] at *;omega))|first|((simp;omega))|exact exA⟩ ?_;clear hR;rintro i1 last1 c3 ⟨m,hm,hR,hx⟩;(try dsimp only at hR hm hx);obtain ⟨m,rfl⟩:=sucA m;refine ai (fun h15=>?_) (fun h16=>?_)
      ·have qh15:=of_decide_eq_true h15;have hw1:w64 (i1+1)=i1+1:=wr (by omega);refine ai gkA ?_;refine ai gkA ?_;refine ai (fun h17=>?_) (fun h18=>?_)
       ·have qh17:=of_decide_eq_true h17;refine ai gkA ?_;refine us (mv [0,1] (Q13 ((p_.getD (Int.toNat i1) Step.zero).at_) (w64 ((p_.getD (Int.toNat i1) Step.zero).free+n)) c3 (by first|((refine Nat.le_trans (Q30 _ _ _) ?_;omega))|first|((simp;omega))|exact szA)) (dO (dc (dv (Qi7 rfl lnA) .nil)) (dO (dr eqA) .nil)) (d1 (d1 (dp .nil))) (rO (rc (.cons _ _ _ _ (rw_ 2 0 rfl) .nil)) (rO rr .nil)) rx) ?_;exact Qn4 (w64 (i1+1)) ((p_.getD (Int.toNat i1) Step.zero).free) (QI0 ((p_.getD (Int.toNat i1) Step.zero).at_) (w64 ((p_.getD (Int.toNat i1) Step.zero).free+n)) c3) (wk [0,2] (tO rfl (Qs0 (cv (to 1 lnA) .nil)) (tO rfl (tl eqA) .nil)) (sl lw (s1 (s1 (s1 (s1 (sv (Q10 0 rfl rfl) (sv (Q51 .nil (cv (Q10 0 rfl rfl) .nil)) (s1 (s1 .nil)))))))))) omA ⟨m,by exact omA,foll hR (ct h15 (ct h17 rfl)),by first|((exact ⟨by omega,by omega,Nat.le_trans (Q30 _ _ _) (by omega)⟩))|first|((exact ⟨by omega,by omega,by omega⟩))|first|((rw [hw1];exact ⟨by omega,by omega,Int.le_trans (Int.ofNat_le.2 (Q30 _ _ _)) (by omega)⟩))|first|((rw [hw];exact ⟨by omega,by omega,Int.le_trans (Int.ofNat_le.2 (Q30 _ _ _)) (by omega)⟩))|first|(((try dsimp only);refine Nat.le_trans (Q30 _ _ _) ?_;first|omega|(simp;omega)))|first|(((try dsimp only);rw [List.length_drop] at *;omega))|first|((simp;omega))|exact exA⟩
       ·have qh18:=of_decide_eq_false h18;refine ai gkA ?_;refine ai (fun h19=>?_) (fun h20=>?_)
        ·have qh19:=of_decide_eq_true h19;refine ai gkA ?_;refine us (mv [0,1] (Q13 to_ ((p_.getD (Int.toNat (w64 (i1 - 1))) Step.zero).free) c3 (by first|((refine Nat.le_trans (Q30 _ _ _) ?_;omega))|first|((simp;omega))|exact szA)) (dO (dc (dv (Qi7 rfl lnA) .nil)) (dO (dr eqA) .nil)) (d1 (d1 (dp .nil))) (rO (rc (.cons _ _ _ _ (rw_ 2 0 rfl) .nil)) (rO rr .nil)) rx) ?_;exact Q2a i1 ((p_.getD (Int.toNat i1) Step.zero).free) (QI0 to_ ((p_.getD (Int.toNat (w64 (i1 - 1))) Step.zero).free) c3) (wk [0,2] (tO rfl (Qs0 (cv (to 1 lnA) .nil)) (tO rfl (tl eqA) .nil)) (sl lw (s1 (s1 (s1 (sv (Q10 0 rfl rfl) (sv (Q51 .nil (cv (Q10 0 rfl rfl) .nil)) (s1 (s1 .nil))))))))) (⟨foll hR (ct h15 (cf h18 (ct h19 rfl))),by first|((exact ⟨by omega,by omega,Nat.le_trans (Q30 _ _ _) (by omega)⟩))|first|((exact ⟨by omega,by omega,by omega⟩))|first|((rw [hw1];exact ⟨by omega,by omega,Int.le_trans (Int.ofNat_le.2 (Q30 _ _ _)) (by omega)⟩))|first|((rw [hw];exact ⟨by omega,by omega,Int.le_trans (Int.ofNat_le.2 (Q30 _ _ _)) (by omega)⟩))|first|(((try dsimp only);refine Nat.le_trans (Q30 _ _ _) ?_;first|omega|(simp;omega)))|first|(((try dsimp only);rw [List.length_drop] at *;omega))|first|((simp;omega))|exact exA⟩)
        ·have qh20:=of_decide_eq_false h20;exact Q2a i1 ((p_.getD (Int.toNat i1) Step.zero).free) c3 (wk [0,1] (tO rfl (Qs0 (cv (to 1 lnA) .nil)) (tO rfl (tl eqA) .nil)) (sl lw (s1 (s1 (s1 (sv (Q10 0 rfl rfl) (sv (Q51 .nil (cv (Q10 0 rfl rfl) .nil)) (s1 (s1 .nil))))))))) (⟨foll hR (ct h15 (cf h18 (cf h20 rfl))),by first|((exact ⟨by omega,by omega,Nat.le_trans (Q30 _ _ _) (by omega)⟩))|first|((exact ⟨by omega,by omega,by omega⟩))|first|((rw [hw1];exact ⟨by omega,by omega,Int.le_trans (Int.ofNat_le.2 (Q30 _ _ _)) (by omega)⟩))|first|((rw [hw];exact ⟨by omega,by omega,Int.le_trans (Int.ofNat_le.2 (Q30 _ _ _)) (by omega)⟩))|first|(((try dsimp only);refine Nat.le_trans (Q30 _ _ _) ?_;first|omega|(simp;omega)))|first|(((try dsimp only);rw [List.length_drop] at *;omega))|first|((simp;omega))|exact exA⟩)
      ·have qh16:=of_decide_eq_false h16;exact Q2a i1 last1 c3 (wk [0,1] (tO rfl (Qs0 (cv (to 1 lnA) .nil)) (tO rfl (tl eqA) .nil)) (sl lw (s1 (s1 (s1 (sv (Q10 0 rfl rfl) (sv (Q51 .nil (cv (Q10 0 rfl rfl) .nil)) (s1 (s1 .nil))))))))) (⟨foll hR (cf h16 rfl),by first|((exact ⟨by omega,by omega,Nat.le_trans (Q30 _ _ _) (by omega)⟩))|first|((exact ⟨by omega,by omega,by omega⟩))|first|((rw [hw1];exact ⟨by omega,by omega,Int.le_trans (Int.ofNat_le.2 (Q30 _ _ _)) (by omega)⟩))|first|((rw [hw];exact ⟨by omega,by omega,Int.le_trans (Int.ofNat_le.2 (Q30 _ _ _)) (by omega)⟩))|first|(((try dsimp only);refine Nat.le_trans (Q30 _ _ _) ?_;first|omega|(simp;omega)))|first|(((try dsimp only);rw [List.length_drop] at *;omega))|first|((simp;omega))|exact exA⟩)
    ·refine ai gkA ?_;refine ai (fun h21=>?_) (fun h22=>?_)
     ·have qh21:=of_decide_eq_true h21;refine dchk (by kernel_rfl) ?_;refine ai gkA ?_;refine ai gkA ?_;(first|apply u2|apply u3|apply u4|apply us);exact mv [0,1] (Q13 ((p_.getD (Int.toNat (Qc0 p_ from_)) Step.zero).at_) ((p_.getD (Int.toNat (Qc0 p_ from_)) Step.zero).free) (List.take (Int.toNat (Qc0 p_ from_)) p_) (by first|((refine Nat.le_trans (Q30 _ _ _) ?_;omega))|first|((simp;omega))|exact szA)) (dO (dc (dv (Qi7 rfl lnA) .nil)) (dO (dr eqA) .nil)) (d1 (d1 (dp .nil))) (rO (rc (.cons _ _ _ _ (rw_ 2 0 rfl) .nil)) (rO rr .nil)) rx;(repeat ((first|refine ai rfl ?_|refine ai (fun _=>rfl) ?_)));exact Q70 (QI0 ((p_.getD (Int.toNat (Qc0 p_ from_)) Step.zero).at_) ((p_.getD (Int.toNat (Qc0 p_ from_)) Step.zero).free) (List.take (Int.toNat (Qc0 p_ from_)) p_)) (wk [0,2] (tO rfl (Qs0 (cv (to 1 lnA) .nil)) (tO rfl (tl eqA) .nil)) (sl lw (s1 (s1 (s1 (s1 (s1 (sv (Q10 0 rfl rfl) (sv (Q51 .nil (cv (Q10 0 rfl rfl) .nil)) (s1 .nil)))))))))) (⟨foll hR (cf h2 (cf h4 (cf h6 (ct h21 rfl)))),by first|((exact ⟨by omega,by omega,Nat.le_trans (Q30 _ _ _) (by omega)⟩))|first|((exact ⟨by omega,by omega,by omega⟩))|first|((rw [hw1];exact ⟨by omega,by omega,Int.le_trans (Int.ofNat_le.2 (Q30 _ _ _)) (by omega)⟩))|first|((rw [hw];exact ⟨by omega,by omega,Int.le_trans (Int.ofNat_le.2 (Q30 _ _ _)) (by omega)⟩))|first|(((try dsimp only);refine Nat.le_trans (Q30 _ _ _) ?_;first|omega|(simp;omega)))|first|(((try dsimp only);rw [List.length_drop] at *;omega))|first|((simp;omega))|exact exA⟩)
     ·have qh22:=of_decide_eq_false h22;exact Q70 (List.take (Int.toNat (Qc0 p_ from_)) p_) (wk [0,1] (tO rfl (Qs0 (cv (to 1 lnA) .nil)) (tO rfl (tl eqA) .nil)) (sl lw (s1 (s1 (s1 (s1 (s1 (sv (Q10 0 rfl rfl) (sv (Q51 .nil (cv (Q10 0 rfl rfl) .nil)) (s1 .nil)))))))))) (⟨foll hR (cf h2 (cf h4 (cf h6 (cf h22 rfl)))),by first|((exact ⟨by omega,by omega,Nat.le_trans (Q30 _ _ _) (by omega)⟩))|first|((exact ⟨by omega,by omega,by omega⟩))|first|((rw [hw1];exact ⟨by omega,by omega,Int.le_trans (Int.ofNat_le.2 (Q30 _ _ _)) (by omega)⟩))|first|((rw [hw];exact ⟨by omega,by omega,Int.le_trans (Int.ofNat_le.2 (Q30 _ _ _)) (by omega)⟩))|first|(((try dsimp only);refine Nat.le_trans (Q30 _ _ _) ?_;first|omega|(simp;omega)))|first|(((try dsimp only);rw [List.length_drop] at *;omega))|first|((simp;omega))|exact exA⟩)
theorem QQb (p:List Step) (f t n:Int) (hp:p.length<=4294967296):(Qc2 p f t n).1.length<=4294967296:=by
 have k4:∀ c,(QT1 c).1.length<=4294967296:=by
  intro c
  unfold QT1
  cases h:((QF1 c)!=0) with
  | true=>simp
  | false=>have:=Qs5 h;simp only [cond_false];omega
 have k2:∀ i last c,(Qg2 p t i last c).1.length<=4294967296:=by
  intro i last c
  unfold Qg2 Qi3
  cases (i==(p.length:Int)) <;> simp only [cond_true,cond_false]
  ·exact k4 _
  ·cases (decide (t<=1000000)) <;> simp only [cond_true,cond_false] <;> exact k4 _
 have g3:∀ m i last c,(QD2 p t n m i last c).1.length<=4294967296:=by
  intro m
  induction m with
  | zero=>intro i last c;simp [QD2]
  | succ m ih =>
   intro i last c
   rw [QD2]
   repeat' first|exact ih _ _ _|exact k2 _ _ _|(rw [Bool.cond_eq_ite];split)
 unfold Qc2 QV3
 repeat' first|exact g3 _ _ _ _|exact hp|(simp;done)|(rw [Bool.cond_eq_ite];split)
def QM1 (c:Cmd) (job:Bool) (submit:Bool) (prio:Bool) (time:Bool) (node:Bool) (nodes:Bool) (from_:Bool):Bool:=bif ((((((job&&(c.job != 0))||(prio&&c.hasPrio))||(time&&c.hasTime))||(node&&(c.node != 0)))||(nodes&&(c.nodes != 0)))||(from_&&(c.from_ != 0))) then false else bif (!submit) then true else (((((ByteArray.toList c.name==ByteArray.toList ⟨#[]⟩)&&(ByteArray.toList c.user==ByteArray.toList ⟨#[]⟩))&&(ByteArray.toList c.account==ByteArray.toList ⟨#[]⟩))&&((c.after.length:Int)==0))&&(Qaa c.shape Shape.zero))
theorem Qd4 (c:Cmd) (job:Bool) (submit:Bool) (prio:Bool) (time:Bool) (node:Bool) (nodes:Bool) (from_:Bool) (hs0:c.sz):∀ objs,AGives Tryz.prog 130 [Cmd.a c,Bo job,Bo submit,Bo prio,Bo time,Bo node,Bo nodes,Bo from_] objs (Bo (QM1 c job submit prio time node nodes from_)):=by
 generalize hR:QM1 c job submit prio time node nodes from_=R;refine ga (.cons (Cmd.low _ _) (l1 (l1 (l1 (l1 (l1 (l1 (l1 .nil)))))))) lx (kp 17 [60,62]) Tryz.func130 ?_;have hk0:=hs0;obtain ⟨z5,z6,z7,z8,z9⟩:c.name.size<=4294967296∧c.user.size<=4294967296∧c.account.size<=4294967296∧(c.shape.alts.length<=4294967296)∧c.after.length<=4294967296:=hs0;refine ai (fun h1=>?_) (fun h2=>?_)
 ·obtain rfl:=foll hR (ct h1 rfl);exact Q00 lx sr
 ·refine ai (fun h3=>?_) (fun h4=>?_)
  ·obtain rfl:=foll hR (cf h2 (ct h3 rfl));exact Q00 lx sr
  ·(first|apply u2|apply u3|apply u4|apply us);exact AGives.as2 (ref07_Same_c c.shape Shape.zero szA szA _) (a1 (av (as_agg (a1 (av (Qj8) (a1 (a1 (a1 .nil)))))) .nil));obtain rfl:=foll hR (cf h2 (cf h4 rfl));exact Q00 lx sr
def QN2 (s:ByteArray):Bool:=((((QS2 s).2==0)&&(decide ((QS2 s).1 >= 1)))&&(decide ((QS2 s).1<=16)))
theorem QZ7 (s:ByteArray) (hs0:s.size<=4294967296):∀ objs,AGives Tryz.prog 131 [Sg s] objs (Bo (QN2 s)):=by
 generalize hR:QN2 s=R;refine ga (l1 .nil) lx (kp 5 []) Tryz.func131 ?_;have hk0:=hs0;obtain z1:s.size<=4294967296:=hs0;refine us (Qv7 s szA _) ?_;obtain rfl:=foll hR rfl;exact Q00 lx sr
def QW3 (s:ByteArray):Nat->Nat->List Int->Nat × (List Int)
 | 0,_,_=>(0,[])
 | m+1,i,c=>bif (decide ((i:Int)<(ByteArray.size s:Int))) then bif ((((s.data.toList.getD i 0).toNat:Int)==34)||(((s.data.toList.getD i 0).toNat:Int)==92)) then QW3 s m (i+1) ((c++([92]:List Int))++([((s.data.toList.getD i 0).toNat:Int)]:List Int)) else QW3 s m (i+1) (c++([((s.data.toList.getD i 0).toNat:Int)]:List Int)) else (i,c)
def QX3 (i:Nat) (c:List Int):ByteArray × Int:=((Q82 (c++([34]:List Int))),0)
def Qp6 (s:ByteArray):ByteArray × Int:=bif ((QS2 s).2 != 0) then (⟨#[]⟩,(QS2 s).2) else QX3 ((QW3 s ((Int.toNat ((ByteArray.size s:Int) - (0:Int)))+1) 0 ([34]:List Int)).1) ((QW3 s ((Int.toNat ((ByteArray.size s:Int) - (0:Int)))+1) 0 ([34]:List Int)).2)
theorem ref04_Quote_c (s:ByteArray) (hs0:s.size<=4294967296):∀ objs,AGives Tryz.prog 183 [Sg s] objs (AVal.tup [Sg ((Qp6 s).1),I ((Qp6 s).2)]):=by
 generalize hR:Qp6 s=R;refine ga (l1 .nil) (Low.tup' (l1 (l1 .nil))) (kp 8 [14,20,32]) Tryz.func183 ?_;have hk0:=hs0;obtain z7:s.size<=4294967296:=hs0;refine us (Qv7 s szA _) ?_;refine ai (fun h1=>?_) (fun h2=>?_)
 ·obtain rfl:=foll hR (ct h1 rfl);exact Q00 (Low.tup' (l1 (l1 .nil))) (Seen.tup (e1 (e1 .nil)))
 ·refine Or.inr ?_;refine Qj0 (fun (i:Nat) (c:List Int)=>∃ m,(Int.toNat ((ByteArray.size s:Int) - (i:Int)))<m∧QX3 (QW3 s m i c).1 (QW3 s m i c).2=R∧c.length<=([34]:List Int).length+2*i∧(i:Int)<=(ByteArray.size s:Int)) (fun i c=>(Int.toNat ((ByteArray.size s:Int) - (i:Int)))) (fun i c=>[(0,Sg s),(2,Sg ⟨#[]⟩),(3,I 0),(6,AVal.own 0 0 1 0 c.length),(7,I (i:Int))]) (fun i c=>[(0,AObj.row 5 1 (c.map (fun q_=>[Y q_])))]) 0 ([34]:List Int) (wk [0] (tO rfl (tl eqA) .nil) (s1 (s1 (s1 (sv (to 0 lnA) (s1 .nil)))))) ⟨_,Nat.lt_succ_self _,foll hR (cf h2 rfl),by exact exA⟩ ?_;clear hR;rintro i c ⟨m,hm,hR,hx⟩;(try dsimp only at hR hm hx);obtain ⟨m,rfl⟩:=sucA m;refine ai (fun h3=>?_) (fun h4=>?_)
  ·have qh3:=of_decide_eq_true h3;refine ai gkA ?_;refine ai gkA ?_;refine ai (fun h5=>?_) (fun h6=>?_)
   ·refine Or.inl ?_;(first|refine ⟨Qp2 1 rfl lnA apA,?_⟩|refine ⟨Qk1 1 rfl apA,?_⟩);refine ai gkA ?_;refine Or.inl ?_;(first|refine ⟨Qp2 1 rfl lnA apA,?_⟩|refine ⟨Qk1 1 rfl apA,?_⟩);exact Qa0 (i+1) ((c++([92]:List Int))++([((s.data.toList.getD i 0).toNat:Int)]:List Int)) (wk [0] (tO rfl (tl eqA) .nil) (s1 (s1 (s1 (sv (to 0 lnA) (sv (Qd0 (I_eq (wr omA)) lx) .nil)))))) omA ⟨m,by exact omA,foll hR (congrArg (fun p:Nat × (List Int)=>QX3 p.1 p.2) (ct h3 (ct h5 rfl))),by exact exA⟩
   ·refine ai gkA ?_;refine Or.inl ?_;(first|refine ⟨Qp2 1 rfl lnA apA,?_⟩|refine ⟨Qk1 1 rfl apA,?_⟩);exact Qa0 (i+1) (c++([((s.data.toList.getD i 0).toNat:Int)]:List Int)) (wk [0] (tO rfl (tl eqA) .nil) (s1 (s1 (s1 (sv (to 0 lnA) (sv (Qd0 (I_eq (wr omA)) lx) .nil)))))) omA ⟨m,by exact omA,foll hR (congrArg (fun p:Nat × (List Int)=>QX3 p.1 p.2) (ct h3 (cf h6 rfl))),by exact exA⟩
  ·have qh4:=of_decide_eq_false h4;replace hR:QX3 i c=R:=fo2 (fun p:Nat × (List Int)=>QX3 p.1 p.2) (i,c) hR (cf h4 rfl);refine Or.inl ?_;(first|refine ⟨Qp2 1 rfl lnA apA,?_⟩|refine ⟨Qk1 1 rfl apA,?_⟩);(first|refine ⟨(c++([34]:List Int)),by exact cvA,?_⟩|refine ⟨_,fun _=>⟨(c++([34]:List Int)),by exact cvA,rfl,rfl⟩,?_⟩|refine ⟨_,rfl,⟨(c++([34]:List Int)),by exact cvA,Sub.refl _,rfl⟩,?_⟩);obtain rfl:=foll hR rfl;exact Q00 (Low.tup' (l1 (l1 .nil))) (Seen.tup (e1 (e1 .nil)))
def QV0 (s:Shape):Nat->List Alt->Nat->(List Alt) × Nat
 | 0,_,_=>([],0)
 | m+1,out,i=>bif (decide ((i:Int)<=(w64 (s.max - s.min)))) then QV0 s m (out++([(⟨(w64 (s.max - (i:Int))),s.wall⟩:Alt)]:List Alt)) (i+1) else (out,i)
def Qr2 (out:List Alt) (i:Nat):(List Alt):=out
def Q60 (s:Shape):(List Alt):=bif ((QQ0 s)!=0) then [] else bif (s.kind != 3) then s.alts else Qr2 ((QV0 s ((Int.toNat ((w64 (s.max - s.min)) - (0:Int)+1))+1) [] 0).1) ((QV0 s ((Int.toNat ((w64 (s.max - s.min)) - (0:Int)+1))+1) [] 0).2)
theorem Qc5 (s:Shape) (hs0:s.sz):∀ objs,AGives Tryz.prog 89 [Shape.a s] objs (altL (Q60 s)):=by
 generalize hR:Q60 s=R;refine ga (.cons (Shape.low _ _) .nil) lw (kp 5 [7,10,19]) Tryz.func89 ?_;have hk0:=hs0;obtain z7:s.alts.length<=4294967296:=hs0;have hf0:=Qb5 (s:=s);refine us (Qx9 s szA _) ?_;refine ai (fun h1=>?_) (fun h2=>?_)
 ·obtain rfl:=foll hR (ct h1 rfl);exact Q00 lw (QT0)
 ·refine ai (fun h3=>?_) (fun h4=>?_)
  ·obtain rfl:=foll hR (cf h2 (ct h3 rfl));exact Q00 lw sr
  ·refine Qj0 (fun (out:List Alt) (i:Nat)=>∃ m,(Int.toNat ((w64 (s.max - s.min)) - (i:Int)+1))<m∧Qr2 (QV0 s m out i).1 (QV0 s m out i).2=R∧out.length<=i) (fun out i=>(Int.toNat ((w64 (s.max - s.min)) - (i:Int)+1))) (fun out i=>[(1,AVal.ptr 0 0 5 0 0),(2,AVal.lit (.slice none 0 0)),(3,AVal.own 1 0 2 0 out.length),(4,I (i:Int))]) (fun out i=>[(0,AObj.row 42 5 [[I s.kind,altL s.alts,I s.min,I s.max,I s.wall]]),(0,AObj.row 87 2 (out.map Alt.cells))]) [] 0 ((Qf2 87 2).trans (wk [0,1] (tO rfl (ts Shape.lo) (tO rfl (tl eqA) .nil)) (sv (Q10 0 rfl rfl) (s1 (sv (QL1 1 rfl) (s1 .nil)))))) ⟨_,Nat.lt_succ_self _,foll hR (cf h2 (cf h4 rfl)),by exact exA⟩ ?_;clear hR;rintro out i ⟨m,hm,hR,hx⟩;(try dsimp only at hR hm hx);obtain ⟨m,rfl⟩:=sucA m;refine ai (fun h5=>?_) (fun h6=>?_)
   ·have qh5:=of_decide_eq_true h5;refine Or.inl ?_;(first|refine ⟨Qp2 16 rfl lnA apA,?_⟩|refine ⟨Qk1 16 rfl apA,?_⟩);exact Qa0 (out++([(⟨(w64 (s.max - (i:Int))),s.wall⟩:Alt)]:List Alt)) (i+1) (wk [0,1] (tO rfl (ts Shape.lo) (tO rfl (tl eqA) .nil)) (sv (Q10 0 rfl rfl) (s1 (sv (to 1 lnA) (sv (Qd0 (I_eq (wr omA)) lx) .nil))))) omA ⟨m,by exact omA,foll hR (congrArg (fun p:(List Alt) × Nat=>Qr2 p.1 p.2) (ct h5 rfl)),by exact exA⟩
   ·have qh6:=of_decide_eq_false h6;replace hR:Qr2 out i=R:=fo2 (fun p:(List Alt) × Nat=>Qr2 p.1 p.2) (out,i) hR (cf h6 rfl);obtain rfl:=foll hR rfl;exact Q00 lw (Qo2 Alt.zero _ rfl eqA lnA)
theorem QZ5 (s:Shape):∀ (m:Nat) (out:List Alt) (i:Nat),(QV0 s m out i).1.length<=out.length+m
 | 0,out,i=>by simp [QV0]
 | m+1,out,i=>by
  rw [QV0]
  cases (decide ((i:Int)<=(w64 (s.max - s.min)))) with
  | false=>simp
  | true =>
   have:=QZ5 s m (out++([(⟨(w64 (s.max - (i:Int))),s.wall⟩:Alt)]:List Alt)) (i+1)
   simp only [List.length_append,List.length_cons,List.length_nil] at this
   simp only [cond_true]
   omega
theorem Q47 (s:Shape) (h:s.sz):(Q60 s).length<=4294967296:=by
 unfold Q60
 cases h1:(QQ0 s != 0) with
 | true=>simp
 | false =>
  cases h2:(s.kind != 3) with
  | true=>exact h
  | false =>
   obtain ⟨a,b,c,d⟩:=Qb5 h1 h2
   have hl:=QZ5 s ((Int.toNat ((w64 (s.max - s.min)) - (0:Int)+1))+1) [] 0
   simp only [cond_false,Qr2]
   rw [d] at hl ⊢
   simp only [List.length_nil] at hl
   omega
end Go.Proofs.YtiiaifgeekdpaaaGreatDoor
namespace Go.Proofs.YtiiaifgeekdpaaaGreatDoor
set_option linter.unusedSimpArgs false
set_option linter.unusedVariables false
open Go.Fw
set_option maxRecDepth 20000
set_option maxHeartbeats 4000000
attribute [local irreducible] ACalls AMoves
def QO4 (s:State) (n:Int):Int:=bif (((s.nodes.getD (Int.toNat n) Node.zero).drain||((s.nodes.getD (Int.toNat n) Node.zero).state==0))||((s.nodes.getD (Int.toNat n) Node.zero).state==4)) then 0 else bif ((s.nodes.getD (Int.toNat n) Node.zero).state==3) then (w64 ((s.nodes.getD (Int.toNat n) Node.zero).since+12)) else bif ((Qt3 s.jobs ((s.nodes.getD (Int.toNat n) Node.zero).job)).state != 2) then 1000001 else (w64 ((Qt3 s.jobs ((s.nodes.getD (Int.toNat n) Node.zero).job)).limit+12))
theorem QB9 (s:State) (n:Int) (hs0:s.sz) (hp0:0<=n∧n<(s.nodes.length:Int)):∀ objs,AGives Tryz.prog 39 [State.a s,I n] objs (I (QO4 s n)):=by
 generalize hR:QO4 s n=R;refine ga (.cons (State.low _ _) (l1 .nil)) lx (kp 7 [23,26,37]) Tryz.func39 ?_;have hk0:=hs0;obtain ⟨z7,z8,z9,z10,z11,z12,z13⟩:=hs0;refine ai gkA ?_;refine ai (fun h1=>?_) (fun h2=>?_)
 ·obtain rfl:=foll hR (ct h1 rfl);exact Q00 lx sr
 ·refine ai (fun h3=>?_) (fun h4=>?_)
  ·obtain rfl:=foll hR (cf h2 (ct h3 rfl));exact Q00 lx sr
  ·refine us (ref15_Get_c s.jobs ((s.nodes.getD (Int.toNat n) Node.zero).job) szA _) ?_;refine ai (fun h5=>?_) (fun h6=>?_)
   ·obtain rfl:=foll hR (cf h2 (cf h4 (ct h5 rfl)));exact Q00 lx sr
   ·obtain rfl:=foll hR (cf h2 (cf h4 (cf h6 rfl)));exact Q00 lx sr
def QN1 (p_:List Step) (from_:Int) (to_:Int) (n:Int):List Int->List Step->Nat->(List Step) × Nat
 | [],out,i=>(out,i)
 | x_ :: r,out,i=>bif ((decide (x_ >= from_))&&(decide (x_<to_))) then bif (((out.length:Int)==0)||((out.getD (Int.toNat (w64 ((out.length:Int) - 1))) Step.zero).free != (w64 ((Qe5 p_ x_)+n)))) then QN1 p_ from_ to_ n r (out++([(⟨x_,(w64 ((Qe5 p_ x_)+n))⟩:Step)]:List Step)) (i+1) else QN1 p_ from_ to_ n r out (i+1) else bif (((out.length:Int)==0)||((out.getD (Int.toNat (w64 ((out.length:Int) - 1))) Step.zero).free != (Qe5 p_ x_))) then QN1 p_ from_ to_ n r (out++([(⟨x_,(Qe5 p_ x_)⟩:Step)]:List Step)) (i+1) else QN1 p_ from_ to_ n r out (i+1)
def Qk2 (out:List Step) (i:Nat):(List Step) × Int:=bif ((Q11 out)!=0) then ([],3) else (out,0)
def Q25 (p_:List Step) (from_:Int) (to_:Int) (n:Int) (more:List Int):(List Step) × Int:=Qk2 ((QN1 p_ from_ to_ n (QJ0 p_ more) [] 0).1) ((QN1 p_ from_ to_ n (QJ0 p_ more) [] 0).2)
def QC1 (p_:List Step) (from_:Int) (to_:Int) (n:Int):(List Step) × Int:=bif ((Q11 p_)!=0) then ([],100) else bif (((((decide (from_<0))||(decide (from_ > 1000000)))||(decide (to_<from_)))||(decide (n<(-1000000))))||(decide (n > 1000000))) then ([],2) else bif (decide (to_<=1000000)) then Q25 p_ from_ to_ n (([from_]:List Int)++([to_]:List Int)) else Q25 p_ from_ to_ n ([from_]:List Int)
theorem ref10_Add_c (p_:List Step) (from_:Int) (to_:Int) (n:Int) (hs0:p_.length<=4294967296):∀ objs,AGives Tryz.prog 116 [stepL p_,I from_,I to_,I n] objs (AVal.tup [stepL ((QC1 p_ from_ to_ n).1),I ((QC1 p_ from_ to_ n).2)]):=by
 generalize hR:QC1 p_ from_ to_ n=R;refine ga (.cons lw (l1 (l1 (l1 .nil)))) (Low.tup' (.cons lw (l1 .nil))) (kj [1000008] 15 [17,36,40,51,73,90,102]) Tryz.func116 ?_;have hk0:=hs0;obtain z17:p_.length<=4294967296:=hs0;refine us (Qy9 p_ (by first|((have hT:=QT2 p_ more;have hP:=Ql2 (p:=p_) (by assumption);omega))|exact szA) _) ?_;refine ai (fun h1=>?_) (fun h2=>?_)
 ·obtain rfl:=foll hR (ct h1 rfl);exact Q00 (Low.tup' (.cons lw (l1 .nil))) (Seen.tup (ev (QT0) (e1 .nil)))
 ·refine ai (fun h3=>?_) (fun h4=>?_)
  ·obtain rfl:=foll hR (cf h2 (ct h3 rfl));exact Q00 (Low.tup' (.cons lw (l1 .nil))) (Seen.tup (ev (QT0) (e1 .nil)))
  ·refine Or.inr ?_;refine Qn1 (fun (more:List Int)=>Q25 p_ from_ to_ n more=R∧more.length<=2) (fun more=>[(0,stepL p_),(1,I from_),(2,I to_),(3,I n),(8,AVal.lit (.slice none 0 0)),(9,I 0),(10,ints more)]) (fun more=>[]) ?_ ?_
   ·clear hR;rintro more ⟨hR,hx⟩;(try dsimp only at hR hx);refine us (ref10_Ticks_c p_ more (by first|((have hT:=QT2 p_ more;have hP:=Ql2 (p:=p_) (by assumption);omega))|exact szA) (by first|((have hT:=QT2 p_ more;have hP:=Ql2 (p:=p_) (by assumption);omega))|exact szA) (by exact ⟨Ql2 (by assumption),by assumption⟩) _) ?_;refine Qj0 (fun (out:List Step) (i:Nat)=>Qk2 (QN1 p_ from_ to_ n (List.drop i (QJ0 p_ more)) out i).1 (QN1 p_ from_ to_ n (List.drop i (QJ0 p_ more)) out i).2=R∧i<=(QJ0 p_ more).length∧out.length<=i) (fun out i=>(QJ0 p_ more).length - i) (fun out i=>[(0,stepL p_),(1,I from_),(2,I to_),(3,I n),(8,AVal.lit (.slice none 0 0)),(9,I 0),(11,ints (QJ0 p_ more)),(12,AVal.own 0 0 2 0 out.length),(13,I (i:Int))]) (fun out i=>[(0,AObj.row 67 2 (out.map Step.cells))]) [] 0 ((Qf2 67 2).trans (wk [0] (tO rfl (tl eqA) .nil) (sl lw (s1 (s1 (s1 (s1 (s1 (sl lw (sv (QL1 0 rfl) (s1 .nil))))))))))) ⟨foll hR rfl,by exact omA,by exact exA⟩ ?_;clear hR;rintro out i ⟨hR,hj,hx⟩;(try dsimp only at hR hj hx);refine ai (fun h5=>?_) (fun h6=>?_)
    ·have hlt:=ltA h5;rw [Qf0 0 hlt] at hR;have hT:=QT2 p_ more;have hP:=Ql2 (p:=p_) (by assumption);refine ai gkA ?_;refine us (ref10_Now_c p_ ((QJ0 p_ more).getD i 0) (by first|((have hT:=QT2 p_ more;have hP:=Ql2 (p:=p_) (by assumption);omega))|exact szA) _) ?_;refine ai gkA ?_;refine ai gkA ?_;refine ai (fun h7=>?_) (fun h8=>?_)
     ·refine ai gkA ?_;refine ⟨_,fun hg=>QA3 rfl rfl rfl (QH4 Step.zero (Int.toNat (w64 ((out.length:Int) - 1))) (by first|rfl|exact Nat.zero_add _|omega) ckA) rfl,?_⟩;refine ai (fun h9=>?_) (fun h10=>?_)
      ·refine ai gkA ?_;refine Or.inl ?_;(first|refine ⟨Qp2 16 rfl lnA apA,?_⟩|refine ⟨Qk1 16 rfl apA,?_⟩);exact Qa0 (out++([(⟨((QJ0 p_ more).getD i 0),(w64 ((Qe5 p_ ((QJ0 p_ more).getD i 0))+n))⟩:Step)]:List Step)) (i+1) (wk [0] (tO rfl (tl eqA) .nil) (sl lw (s1 (s1 (s1 (s1 (s1 (sl lw (sv (to 0 lnA) (sv (Qd0 (I_eq (wr omA)) lx) .nil)))))))))) omA ⟨foll hR (congrArg (fun p:(List Step) × Nat=>Qk2 p.1 p.2) (ct h7 (ct h9 rfl))),by exact omA,by exact exA⟩
      ·exact Qa0 out (i+1) (wk [0] (tO rfl (tl eqA) .nil) (sl lw (s1 (s1 (s1 (s1 (s1 (sl lw (sv (to 0 lnA) (sv (Qd0 (I_eq (wr omA)) lx) .nil)))))))))) omA ⟨foll hR (congrArg (fun p:(List Step) × Nat=>Qk2 p.1 p.2) (ct h7 (cf h10 rfl))),by exact omA,by exact exA⟩
     ·refine ai gkA ?_;refine ⟨_,fun hg=>QA3 rfl rfl rfl (QH4 Step.zero (Int.toNat (w64 ((out.length:Int) - 1))) (by first|rfl|exact Nat.zero_add _|omega) ckA) rfl,?_⟩;refine ai (fun h11=>?_) (fun h12=>?_)
      ·refine ai gkA ?_;refine Or.inl ?_;(first|refine ⟨Qp2 16 rfl lnA apA,?_⟩|refine ⟨Qk1 16 rfl apA,?_⟩);exact Qa0 (out++([(⟨((QJ0 p_ more).getD i 0),(Qe5 p_ ((QJ0 p_ more).getD i 0))⟩:Step)]:List Step)) (i+1) (wk [0] (tO rfl (tl eqA) .nil) (sl lw (s1 (s1 (s1 (s1 (s1 (sl lw (sv (to 0 lnA) (sv (Qd0 (I_eq (wr omA)) lx) .nil)))))))))) omA ⟨foll hR (congrArg (fun p:(List Step) × Nat=>Qk2 p.1 p.2) (cf h8 (ct h11 rfl))),by exact omA,by exact exA⟩
      ·exact Qa0 out (i+1) (wk [0] (tO rfl (tl eqA) .nil) (sl lw (s1 (s1 (s1 (s1 (s1 (sl lw (sv (to 0 lnA) (sv (Qd0 (I_eq (wr omA)) lx) .nil)))))))))) omA ⟨foll hR (congrArg (fun p:(List Step) × Nat=>Qk2 p.1 p.2) (cf h8 (cf h12 rfl))),by exact omA,by exact exA⟩
    ·rw [Qg0 (l:=(QJ0 p_ more)) (j:=i) (geA h6)] at hR;replace hR:Qk2 out i=R:=fo2 (fun p:(List Step) × Nat=>Qk2 p.1 p.2) (out,i) hR rfl;refine us (AGives.lent (Qy9 out (by first|((have hT:=QT2 p_ more;have hP:=Ql2 (p:=p_) (by assumption);omega))|exact szA) []) (ev (Qo2 _ _ rfl eqA lnA) .nil) (.cons lw .nil) (Qe7 rfl)) ?_;refine ai (fun h13=>?_) (fun h14=>?_)
     ·obtain rfl:=foll hR (ct h13 rfl);exact Q00 (Low.tup' (.cons lw (l1 .nil))) (Seen.tup (ev (QT0) (e1 .nil)))
     ·obtain rfl:=foll hR (cf h14 rfl);exact Q00 (Low.tup' (.cons lw (l1 .nil))) (Seen.tup (ev (Qo2 Step.zero _ rfl eqA lnA) (e1 .nil)))
   ·refine ai (fun h15=>?_) (fun h16=>?_)
    ·have qh15:=of_decide_eq_true h15;refine Or.inl ?_;(first|refine ⟨Qp2 8 rfl lnA apA,?_⟩|refine ⟨Qk1 8 rfl apA,?_⟩);exact Q70 (([from_]:List Int)++([to_]:List Int)) (wk [] .nil (sl lw (s1 (s1 (s1 (s1 (s1 (sv (Qfa _ _ rfl (Nat.zero_le _) (by decide) eqA (fun _=>lowL1 rfl) lnA) .nil)))))))) (⟨foll hR (cf h2 (cf h4 (ct h15 rfl))),by exact exA⟩)
    ·have qh16:=of_decide_eq_false h16;exact Q70 ([from_]:List Int) (wk [] .nil (sl lw (s1 (s1 (s1 (s1 (s1 (sv (Qfa _ _ rfl (Nat.zero_le _) (by decide) eqA (fun _=>lowL1 rfl) lnA) .nil)))))))) (⟨foll hR (cf h2 (cf h4 (cf h16 rfl))),by exact exA⟩)
def Qj1 (p_:List Step) (t:Int):Int:=bif (((QF1 p_)!=0)||(!(Q22 t))) then 0 else (p_.getD (Int.toNat (Qc0 p_ t)) Step.zero).free
theorem Qw1 (p_:List Step) (t:Int) (hs0:p_.length<=4294967296):∀ objs,AGives Tryz.prog 21 [stepL p_,I t] objs (I (Qj1 p_ t)):=by
 generalize hR:Qj1 p_ t=R;refine ga (.cons lw (l1 .nil)) lx (kp 5 [12]) Tryz.func21 ?_;have hk0:=hs0;obtain z3:p_.length<=4294967296:=hs0;refine us (Qo6 p_ szA _) ?_;(first|apply u2|apply u3|apply u4|apply us);exact Qya t _;refine ai (fun h1=>?_) (fun h2=>?_)
 ·obtain rfl:=foll hR (ct h1 rfl);exact Q00 lx sr
 ·refine us (QV7 p_ t szA _) ?_;refine And.intro (by first|exact fun hg=>decide_eq_true (by first|((have hb:=Bool.or_eq_false_iff.1 ‹((QF1 p_ != 0)||(!(Q22 t)))=false›;have hc:=Qs5 hb.1;have hq:=hb.2;simp [Q22] at hq;have hp:=QX5 hc.1 hc.2.1 hc.2.2 (t:=t) (by omega);omega))|exact ckA)|exact gkA) ?_;obtain rfl:=foll hR (cf h2 rfl);exact Q00 lx sr
end Go.Proofs.YtiiaifgeekdpaaaGreatDoor
namespace Go.Proofs.YtiiaifgeekdpaaaGreatDoor
set_option linter.unusedSimpArgs false
set_option linter.unusedVariables false
open Go.Fw
set_option maxRecDepth 20000
set_option maxHeartbeats 4000000
attribute [local irreducible] ACalls AMoves
def Q83 (s:State):Bool:=(((((Qm9 s.nodes)&&(Qn9 s.jobs))&&(Qp9 s.books))&&(Qo9 s.ledger))&&(decide ((s.resizes.length:Int)<=100)))
theorem Qm7 (s:State) (hs0:s.szM):∀ objs,AGives Tryz.prog 7 [State.a s] objs (Bo (Q83 s)):=by
 generalize hR:Q83 s=R;refine ga (.cons (State.low _ _) .nil) lx (kp 3 []) Tryz.func7 ?_;have hk0:=hs0;obtain ⟨z1,z2,z3,z4,z5,z6,z7⟩:=hs0;refine us (law12_Few_c s.nodes _) ?_;(first|apply u2|apply u3|apply u4|apply us);exact law15_Few_c s.jobs szA _;(first|apply u2|apply u3|apply u4|apply us);exact law19_Few_c s.books _;(first|apply u2|apply u3|apply u4|apply us);exact law17_Few_c s.ledger szA _;obtain rfl:=foll hR rfl;exact Q00 lx sr
theorem u3g {P:Program} {f:FuncId} {args:List AVal} {objs:Objs} {r:AVal} {g:Bool} {K:AVal->Objs->Prop} (h:g=true->ACalls P f args objs fun a b=>a=r∧b=objs) (k:K r objs):∃ r' o',(g=true->ACalls P f args objs (fun a b=>a=r'∧b=o'))∧(g=false->o'=objs)∧K r' o':=⟨r,objs,h,fun _=>rfl,k⟩
theorem Qqa:∀ (l:List Usage) (i:Nat),QR5 l i=true -> ∀ y ∈ l,y.sz
 | [],_,_,y,hy=>nomatch hy
 | x :: r,i,h,y,hy=>by
  rw [QR5] at h
  cases hc:((decide ((ByteArray.size x.user:Int) > 1000))||(decide ((ByteArray.size x.account:Int) > 1000))) with
  | true=>rw [hc] at h;cases h
  | false =>
   rw [hc] at h
   rcases List.mem_cons.1 hy with rfl|hy
   ·simp only [Bool.or_eq_false_iff,decide_eq_false_iff_not] at hc
    exact ⟨by omega,by omega⟩
   ·exact Qqa r (i+1) h y hy
theorem Qoa {j:Job} (h:QP5 j=true):j.sz:=by
 simp only [QP5,Ql9,Bool.and_eq_true,decide_eq_true_eq] at h
 exact ⟨by omega,by omega,by omega,by show j.shape.alts.length<=_;omega,by omega⟩
theorem Qpa:∀ (l:List Job) (i:Nat),QQ5 l i=true -> ∀ y ∈ l,y.sz
 | [],_,_,y,hy=>nomatch hy
 | x :: r,i,h,y,hy=>by
  rw [QQ5] at h
  cases hc:QP5 x with
  | false=>rw [hc] at h;cases h
  | true =>
   rw [hc] at h
   rcases List.mem_cons.1 hy with rfl|hy
   ·exact Qoa hc
   ·exact Qpa r (i+1) h y hy
theorem Qi2 {s:State} (h:Q83 s=true):s.sz:=by
 simp only [Q83,Qm9,Qn9,Qp9,Qo9,Bool.and_eq_true,decide_eq_true_eq] at h
 obtain ⟨⟨⟨⟨h1,h2⟩,h3⟩,h4⟩,h5⟩:=h
 cases hj:decide ((s.jobs.length:Int) > 60) with
 | true=>rw [hj] at h2;cases h2
 | false =>
  cases hl:decide ((s.ledger.length:Int) > 300) with
  | true=>rw [hl] at h4;cases h4
  | false =>
   rw [hj] at h2
   rw [hl] at h4
   have qj:=of_decide_eq_false hj
   have ql:=of_decide_eq_false hl
   exact ⟨by omega,by omega,Qpa _ _ h2,by omega,by omega,by omega,Qqa _ _ h4⟩
def Qb2 (l:List Node):Int:=bif (((decide ((l.length:Int)<1))||(decide ((l.length:Int) > 48)))||(QP1 l (fun (y:Node)=>(!(Qq1 y))))) then 120 else 0
theorem Qj7 (l:List Node) (hs0:l.length<=4294967296):∀ objs,AGives Tryz.prog 30 [nodeL l] objs (I (Qb2 l)):=by
 generalize hR:Qb2 l=R;refine ga (.cons lw .nil) lx (kp 3 [14]) Tryz.func30 ?_;have hk0:=hs0;obtain z7:l.length<=4294967296:=hs0;have cl1:∀ (y1:Node),AMoves Tryz.prog 63 [Node.a y1] [] 0 (Bo ((fun (y:Node)=>(!(Qq1 y))) y1)) []:=by
  intro y1;have hR:(fun (y:Node)=>(!(Qq1 y))) y1=(fun (y:Node)=>(!(Qq1 y))) y1:=rfl;refine mo (kp 3 []) Tryz.func63 ?_;refine us (fleet_fine_c y1 _) ?_;refine Qn0 (fun r:Bool=>Bo r) (fun _=>[]) (leaf:=(!(Qq1 y1))) (foll hR rfl) ?_;exact tt [] .nil t1
 have hof1:AMoves Tryz.prog 62 [nodeL l,AVal.fn (.func 63) [] []] [] 0 (Bo (QP1 l (fun (y:Node)=>(!(Qq1 y))))) []:=by
  have hR:QP1 l (fun (y:Node)=>(!(Qq1 y)))=QP1 l (fun (y:Node)=>(!(Qq1 y))):=rfl;refine mo (kp 5 []) Tryz.func62 ?_;have hof2:AMoves Tryz.prog 100 [nodeL l,AVal.fn (.func 63) [] []] [] 0 (I (QR1 l (fun (y:Node)=>(!(Qq1 y))))) []:=by
   have hR:QR1 l (fun (y:Node)=>(!(Qq1 y)))=QR1 l (fun (y:Node)=>(!(Qq1 y))):=rfl;refine mo (kp 6 [7,8,9,16]) Tryz.func100 ?_;refine Qh0 (fun (i:Nat)=>Qu3 (fun (y:Node)=>(!(Qq1 y))) (List.drop i l) i=QR1 l (fun (y:Node)=>(!(Qq1 y)))∧i<=l.length) (fun i=>l.length - i) (fun i=>[(0,nodeL l),(1,AVal.fn (.func 63) [] []),(4,I 0),(7,I (l.length:Int)),(8,I (i:Int))]) (fun i=>[]) 0 (wk [] .nil (sl lw (sv (QH0 (Low.fn _ _ _ LowL.nil LowL.nil)) (s1 (s1 (s1 .nil)))))) ⟨foll hR rfl,by exact omA⟩ ?_;clear hR;rintro i ⟨hR,hj⟩;(try dsimp only at hR hj);refine ai (fun h1=>?_) (fun h2=>?_)
   ·have hlt:=ltA h1;rw [Qf0 Node.zero hlt] at hR;refine ai gkA ?_;refine us (mv [] (cl1 (l.getD i Node.zero)) .nil (dl (Node.low _ _) .nil) .nil rx) ?_;refine ai (fun h3=>?_) (fun h4=>?_)
    ·refine Qn0 (fun r:Int=>I r) (fun r:Int=>[]) (leaf:=(i:Int)) (foll hR (ct h3 rfl)) ?_;exact tt [] .nil t1
    ·exact Ql0 (i+1) (wk [] .nil (sl lw (sv (QH0 (Low.fn _ _ _ LowL.nil LowL.nil)) (s1 (s1 (sv (Qd0 (I_eq (wr omA)) lx) .nil)))))) omA ⟨foll hR (cf h4 rfl),by exact omA⟩
   ·rw [Qg0 (l:=l) (j:=i) (geA h2)] at hR;refine Qn0 (fun r:Int=>I r) (fun r:Int=>[]) (leaf:=(-1)) (foll hR rfl) ?_;exact tt [] .nil t1
  refine us (mv [] (hof2) .nil (dl lw (dv (Qw6 (Low.fn _ _ _ LowL.nil LowL.nil)) .nil)) .nil rx) ?_;refine Qn0 (fun r:Bool=>Bo r) (fun r:Bool=>[]) (leaf:=(decide ((QR1 l (fun (y:Node)=>(!(Qq1 y)))) >= 0))) (foll hR rfl) ?_;exact tt [] .nil t1
 (first|apply u2|apply u3|apply u4|apply us);exact mv [] (hof1) .nil (dl lw (dv (Qw6 (Low.fn _ _ _ LowL.nil LowL.nil)) .nil)) .nil rx;refine ai (fun h5=>?_) (fun h6=>?_)
 ·obtain rfl:=foll hR (ct h5 rfl);exact Q00 lx sr
 ·obtain rfl:=foll hR (cf h6 rfl);exact Q00 lx sr
def QE1 (ok:Bool):Int:=bif (!ok) then 70 else 0
def QK1 (s:Shape):Int:=bif (s.kind==1) then QE1 (((((s.min==0)&&(s.max==0))&&(s.wall==0))&&((s.alts.length:Int)==1))&&(QO0 (s.alts.getD 0 Alt.zero))) else bif (s.kind==2) then QE1 (((((((s.min==0)&&(s.max==0))&&(s.wall==0))&&(decide ((s.alts.length:Int) >= 1)))&&(decide ((s.alts.length:Int)<=6)))&&(Qf4 s.alts))&&(!(QD0 s.alts (fun (y:Alt)=>(!(QO0 y)))))) else bif (s.kind==3) then QE1 (((((s.alts.length:Int)==0)&&(decide (s.min<=s.max)))&&(QO0 (⟨s.min,s.wall⟩:Alt)))&&(decide (s.max<=48))) else QE1 false
theorem QH9 (s:Shape) (hs0:s.sz):∀ objs,AGives Tryz.prog 84 [Shape.a s] objs (I (QK1 s)):=by
 generalize hR:QK1 s=R;refine ga (.cons (Shape.low _ _) .nil) lx (kj [1000011] 6 [23,24,38,60,85]) Tryz.func84 ?_;have hk0:=hs0;obtain z13:s.alts.length<=4294967296:=hs0;refine Qn1 (fun (ok:Bool)=>QE1 ok=R) (fun ok=>[(2,I 0),(5,Bo ok)]) (fun ok=>[]) ?_ ?_
 ·clear hR;rintro ok hR;(try dsimp only at hR);refine ai (fun h1=>?_) (fun h2=>?_)
  ·obtain rfl:=foll hR (ct h1 rfl);exact Q00 lx sr
  ·obtain rfl:=foll hR (cf h2 rfl);exact Q00 lx sr
 ·refine ai (fun h3=>?_) (fun h4=>?_)
  ·refine ai gkA ?_;(first|apply u2|apply u3|apply u4|apply us);exact Q88 (s.alts.getD 0 Alt.zero) _;exact Q70 (((((s.min==0)&&(s.max==0))&&(s.wall==0))&&((s.alts.length:Int)==1))&&(QO0 (s.alts.getD 0 Alt.zero))) (wk [] .nil (s1 (s1 .nil))) (foll hR (ct h3 rfl))
  ·refine ai (fun h5=>?_) (fun h6=>?_)
   ·(first|apply u2|apply u3|apply u4|apply us);exact shape_apart_c s.alts szA _;have cl1:∀ (y1:Alt),AMoves Tryz.prog 128 [Alt.a y1] [] 0 (Bo ((fun (y:Alt)=>(!(QO0 y))) y1)) []:=by
     intro y1;have hR:(fun (y:Alt)=>(!(QO0 y))) y1=(fun (y:Alt)=>(!(QO0 y))) y1:=rfl;refine mo (kp 3 []) Tryz.func128 ?_;refine us (Q88 y1 _) ?_;refine Qn0 (fun r:Bool=>Bo r) (fun _=>[]) (leaf:=(!(QO0 y1))) (foll hR rfl) ?_;exact tt [] .nil t1
    have hof1:AMoves Tryz.prog 127 [altL s.alts,AVal.fn (.func 128) [] []] [] 0 (Bo (QD0 s.alts (fun (y:Alt)=>(!(QO0 y))))) []:=by
     have hR:QD0 s.alts (fun (y:Alt)=>(!(QO0 y)))=QD0 s.alts (fun (y:Alt)=>(!(QO0 y))):=rfl;refine mo (kp 5 []) Tryz.func127 ?_;have hof2:AMoves Tryz.prog 161 [altL s.alts,AVal.fn (.func 128) [] []] [] 0 (I (QK0 s.alts (fun (y:Alt)=>(!(QO0 y))))) []:=by
      have hR:QK0 s.alts (fun (y:Alt)=>(!(QO0 y)))=QK0 s.alts (fun (y:Alt)=>(!(QO0 y))):=rfl;refine mo (kp 6 [7,8,9,16]) Tryz.func161 ?_;refine Qh0 (fun (i:Nat)=>Qy2 (fun (y:Alt)=>(!(QO0 y))) (List.drop i s.alts) i=QK0 s.alts (fun (y:Alt)=>(!(QO0 y)))∧i<=s.alts.length) (fun i=>s.alts.length - i) (fun i=>[(0,altL s.alts),(1,AVal.fn (.func 128) [] []),(4,I 0),(7,I (s.alts.length:Int)),(8,I (i:Int))]) (fun i=>[]) 0 (wk [] .nil (sl lw (sv (QH0 (Low.fn _ _ _ LowL.nil LowL.nil)) (s1 (s1 (s1 .nil)))))) ⟨foll hR rfl,by exact omA⟩ ?_;clear hR;rintro i ⟨hR,hj⟩;(try dsimp only at hR hj);refine ai (fun h7=>?_) (fun h8=>?_)
      ·have hlt:=ltA h7;rw [Qf0 Alt.zero hlt] at hR;refine ai gkA ?_;refine us (mv [] (cl1 (s.alts.getD i Alt.zero)) .nil (dl (Alt.low _ _) .nil) .nil rx) ?_;refine ai (fun h9=>?_) (fun h10=>?_)
       ·refine Qn0 (fun r:Int=>I r) (fun r:Int=>[]) (leaf:=(i:Int)) (foll hR (ct h9 rfl)) ?_;exact tt [] .nil t1
       ·exact Ql0 (i+1) (wk [] .nil (sl lw (sv (QH0 (Low.fn _ _ _ LowL.nil LowL.nil)) (s1 (s1 (sv (Qd0 (I_eq (wr omA)) lx) .nil)))))) omA ⟨foll hR (cf h10 rfl),by exact omA⟩
      ·rw [Qg0 (l:=s.alts) (j:=i) (geA h8)] at hR;refine Qn0 (fun r:Int=>I r) (fun r:Int=>[]) (leaf:=(-1)) (foll hR rfl) ?_;exact tt [] .nil t1
     refine us (mv [] (hof2) .nil (dl lw (dv (Qw6 (Low.fn _ _ _ LowL.nil LowL.nil)) .nil)) .nil rx) ?_;refine Qn0 (fun r:Bool=>Bo r) (fun r:Bool=>[]) (leaf:=(decide ((QK0 s.alts (fun (y:Alt)=>(!(QO0 y)))) >= 0))) (foll hR rfl) ?_;exact tt [] .nil t1
    (first|apply u2|apply u3|apply u4|apply us);exact mv [] (hof1) .nil (dl lw (dv (Qw6 (Low.fn _ _ _ LowL.nil LowL.nil)) .nil)) .nil rx;exact Q70 (((((((s.min==0)&&(s.max==0))&&(s.wall==0))&&(decide ((s.alts.length:Int) >= 1)))&&(decide ((s.alts.length:Int)<=6)))&&(Qf4 s.alts))&&(!(QD0 s.alts (fun (y:Alt)=>(!(QO0 y)))))) (wk [] .nil (s1 (s1 .nil))) (foll hR (cf h4 (ct h5 rfl)))
   ·refine ai (fun h11=>?_) (fun h12=>?_)
    ·(first|apply u2|apply u3|apply u4|apply us);exact Q88 (⟨s.min,s.wall⟩:Alt) _;exact Q70 (((((s.alts.length:Int)==0)&&(decide (s.min<=s.max)))&&(QO0 (⟨s.min,s.wall⟩:Alt)))&&(decide (s.max<=48))) (wk [] .nil (s1 (s1 .nil))) (foll hR (cf h4 (cf h6 (ct h11 rfl))))
    ·exact Q70 false (wk [] .nil (s1 (s1 .nil))) (foll hR (cf h4 (cf h6 (cf h12 rfl))))
def Qd1 (r_:LexReader):Token × LexReader:=bif (!(Q66 ((Q20 r_ (fun (y:Int)=>(((decide (y >= 48))&&(decide (y<=57)))||((decide (y >= 97))&&(decide (y<=122)))))).1))) then ((⟨3,(Q20 r_ (fun (y:Int)=>(((decide (y >= 48))&&(decide (y<=57)))||((decide (y >= 97))&&(decide (y<=122)))))).1,0,0⟩:Token),(Q20 r_ (fun (y:Int)=>(((decide (y >= 48))&&(decide (y<=57)))||((decide (y >= 97))&&(decide (y<=122)))))).2) else bif (!(Qr5 ((Q20 r_ (fun (y:Int)=>(((decide (y >= 48))&&(decide (y<=57)))||((decide (y >= 97))&&(decide (y<=122)))))).1)).2) then ((⟨2,⟨#[]⟩,(Qr5 ((Q20 r_ (fun (y:Int)=>(((decide (y >= 48))&&(decide (y<=57)))||((decide (y >= 97))&&(decide (y<=122)))))).1)).1,0⟩:Token),(QE0 ((Q20 r_ (fun (y:Int)=>(((decide (y >= 48))&&(decide (y<=57)))||((decide (y >= 97))&&(decide (y<=122)))))).2) r_.at_ 50)) else ((⟨2,⟨#[]⟩,(Qr5 ((Q20 r_ (fun (y:Int)=>(((decide (y >= 48))&&(decide (y<=57)))||((decide (y >= 97))&&(decide (y<=122)))))).1)).1,0⟩:Token),(Q20 r_ (fun (y:Int)=>(((decide (y >= 48))&&(decide (y<=57)))||((decide (y >= 97))&&(decide (y<=122)))))).2)
theorem Qr9 (r_:LexReader) (hs0:r_.sz) (hp0:0<=r_.at_∧r_.at_<=(r_.line.length:Int)∧r_.line.length<=400):AMoves Tryz.prog 196 [AVal.ptr 0 0 4 0 0] [(0,AObj.row 210 4 [[runes r_.line,I r_.at_,I r_.bad,I r_.error]])] 1 (Token.a ((Qd1 r_).1)) [(0,AObj.row 210 4 [[runes ((Qd1 r_).2.line),I ((Qd1 r_).2.at_),I ((Qd1 r_).2.bad),I ((Qd1 r_).2.error)]])]:=by
 generalize hR:Qd1 r_=R;refine mo (kp 7 [15,24]) Tryz.func196 ?_;have hk0:=hs0;obtain z7:r_.line.length<=4294967296:=hs0;have cl1:∀ (y1:Int),AMoves Tryz.prog 208 [J y1] [] 0 (Bo ((fun (y:Int)=>(((decide (y >= 48))&&(decide (y<=57)))||((decide (y >= 97))&&(decide (y<=122))))) y1)) []:=by
  intro y1;have hR:(fun (y:Int)=>(((decide (y >= 48))&&(decide (y<=57)))||((decide (y >= 97))&&(decide (y<=122))))) y1=(fun (y:Int)=>(((decide (y >= 48))&&(decide (y<=57)))||((decide (y >= 97))&&(decide (y<=122))))) y1:=rfl;refine mo (kp 3 []) Tryz.func208 ?_;refine Qn0 (fun r:Bool=>Bo r) (fun _=>[]) (leaf:=(((decide (y1 >= 48))&&(decide (y1<=57)))||((decide (y1 >= 97))&&(decide (y1<=122))))) (foll hR rfl) ?_;exact tt [] .nil t1
 have hof1:AMoves Tryz.prog 185 [AVal.ptr 0 0 4 0 0,AVal.fn (.func 208) [] []] [(0,AObj.row 210 4 [[runes r_.line,I r_.at_,I r_.bad,I r_.error]])] 1 (Sg ((Q20 r_ (fun (y:Int)=>(((decide (y >= 48))&&(decide (y<=57)))||((decide (y >= 97))&&(decide (y<=122)))))).1)) [(0,AObj.row 210 4 [[runes (((Q20 r_ (fun (y:Int)=>(((decide (y >= 48))&&(decide (y<=57)))||((decide (y >= 97))&&(decide (y<=122)))))).2).line),I (((Q20 r_ (fun (y:Int)=>(((decide (y >= 48))&&(decide (y<=57)))||((decide (y >= 97))&&(decide (y<=122)))))).2).at_),I (((Q20 r_ (fun (y:Int)=>(((decide (y >= 48))&&(decide (y<=57)))||((decide (y >= 97))&&(decide (y<=122)))))).2).bad),I (((Q20 r_ (fun (y:Int)=>(((decide (y >= 48))&&(decide (y<=57)))||((decide (y >= 97))&&(decide (y<=122)))))).2).error)]])]:=by
  have hR:Q20 r_ (fun (y:Int)=>(((decide (y >= 48))&&(decide (y<=57)))||((decide (y >= 97))&&(decide (y<=122)))))=Q20 r_ (fun (y:Int)=>(((decide (y >= 48))&&(decide (y<=57)))||((decide (y >= 97))&&(decide (y<=122))))):=rfl;refine mo (kp 6 [33]) Tryz.func185 ?_;refine Qh0 (fun (c:LexReader)=>∃ m,(Int.toNat ((c.line.length:Int) - c.at_))<m∧Qq0 r_ (Qp0 (fun (y:Int)=>(((decide (y >= 48))&&(decide (y<=57)))||((decide (y >= 97))&&(decide (y<=122))))) m c)=Q20 r_ (fun (y:Int)=>(((decide (y >= 48))&&(decide (y<=57)))||((decide (y >= 97))&&(decide (y<=122)))))∧0<=c.at_∧c.at_<=(c.line.length:Int)∧c.line.length<=400∧r_.at_<=c.at_∧0<=r_.at_) (fun c=>(Int.toNat ((c.line.length:Int) - c.at_))) (fun c=>[(0,AVal.ptr 0 0 4 0 0),(1,AVal.fn (.func 208) [] []),(4,Sg ⟨#[]⟩),(5,I r_.at_)]) (fun c=>[(0,AObj.row 210 4 [[runes c.line,I c.at_,I c.bad,I c.error]])]) r_ (wk [0] (tO rfl (ts LexReader.lo) .nil) (sv (Q10 0 rfl rfl) (sv (QH0 (Low.fn _ _ _ LowL.nil LowL.nil)) (s1 (s1 .nil))))) ⟨_,Nat.lt_succ_self _,foll hR rfl,by exact exA⟩ ?_;clear hR;rintro c ⟨m,hm,hR,hx⟩;(try dsimp only at hR hm hx);obtain ⟨m,rfl⟩:=sucA m;refine dchk (by kernel_rfl) ?_;refine ai gkA ?_;(first|apply u2|apply u3|apply u4|apply us);exact mv [] (cl1 (c.line.getD (Int.toNat c.at_) 0)) .nil (d1 .nil) .nil rx;(repeat ((first|refine ai rfl ?_|refine ai (fun _=>rfl) ?_)));refine ai (fun h1=>?_) (fun h2=>?_)
  ·have hq1:=of_decide_eq_true ((Bool.and_eq_true _ _).mp h1).1;have hwr:w64 (c.at_+1)=c.at_+1:=wr (by omega);exact Ql0 { c with at_:=(w64 (c.at_+1)) } (wk [0] (tO rfl (ts LexReader.lo) .nil) (sv (Q10 0 rfl rfl) (sv (QH0 (Low.fn _ _ _ LowL.nil LowL.nil)) (s1 (s1 .nil))))) omA ⟨m,by exact omA,foll hR (congrArg (fun p:LexReader=>Qq0 r_ p) (ct h1 rfl)),by exact exA⟩
  ·replace hR:Qq0 r_ c=Q20 r_ (fun (y:Int)=>(((decide (y >= 48))&&(decide (y<=57)))||((decide (y >= 97))&&(decide (y<=122))))):=fo2 (fun p:LexReader=>Qq0 r_ p) (c) hR (cf h2 rfl);refine dchk (by kernel_rfl) ?_;refine ai gkA ?_;(first|refine ⟨(List.drop (Int.toNat r_.at_) (List.take (Int.toNat c.at_) c.line)),by exact cvA,?_⟩|refine ⟨_,fun _=>⟨(List.drop (Int.toNat r_.at_) (List.take (Int.toNat c.at_) c.line)),by exact cvA,rfl,rfl⟩,?_⟩|refine ⟨_,rfl,⟨(List.drop (Int.toNat r_.at_) (List.take (Int.toNat c.at_) c.line)),by exact cvA,Sub.refl _,rfl⟩,?_⟩);(repeat ((first|refine ai rfl ?_|refine ai (fun _=>rfl) ?_)));refine Qn0 (fun r:ByteArray × LexReader=>Sg r.1) (fun r:ByteArray × LexReader=>[(0,AObj.row 210 4 [[runes r.2.line,I r.2.at_,I r.2.bad,I r.2.error]])]) (leaf:=((runesBytes (List.drop (Int.toNat r_.at_) (List.take (Int.toNat c.at_) c.line))),c)) (foll hR rfl) ?_;exact tt [0] (tO rfl (ts LexReader.lo) .nil) t1
 refine us (mv [0] (hof1) (dO (ds LexReader.lo) .nil) (dp (dv (Qw6 (Low.fn _ _ _ LowL.nil LowL.nil)) .nil)) (rO (re LexReader.lo) .nil) rx) ?_;refine us (Qsa ((Q20 r_ (fun (y:Int)=>(((decide (y >= 48))&&(decide (y<=57)))||((decide (y >= 97))&&(decide (y<=122)))))).1) (by first|(exact QR7 _ _ hp0.2.2)|exact szA) _) ?_;refine ai (fun h3=>?_) (fun h4=>?_)
 ·obtain rfl:=foll hR (ct h3 rfl);exact rq (tt [0] (tO rfl (ts LexReader.lo) .nil) (QH0 (Low.agg' (Token.lo))))
 ·refine us (lex_number_c ((Q20 r_ (fun (y:Int)=>(((decide (y >= 48))&&(decide (y<=57)))||((decide (y >= 97))&&(decide (y<=122)))))).1) (by first|(exact QR7 _ _ hp0.2.2)|exact szA) _) ?_;refine ai (fun h5=>?_) (fun h6=>?_)
  ·refine us (mv [0] (QK2 ((Q20 r_ (fun (y:Int)=>(((decide (y >= 48))&&(decide (y<=57)))||((decide (y >= 97))&&(decide (y<=122)))))).2) r_.at_ 50) (dO (ds LexReader.lo) .nil) (dp (d1 (d1 .nil))) (rO (re LexReader.lo) .nil) rx) ?_;obtain rfl:=foll hR (cf h4 (ct h5 rfl));exact rq (tt [0] (tO rfl (ts LexReader.lo) .nil) (QH0 (Low.agg' (Token.lo))))
  ·obtain rfl:=foll hR (cf h4 (cf h6 rfl));exact rq (tt [0] (tO rfl (ts LexReader.lo) .nil) (QH0 (Low.agg' (Token.lo))))
attribute [local irreducible] Qz0
def Q73 :List (Nat × Int)->Bool->List Int->ByteArray × Int
 | [],held,buf=>bif held then (⟨#[]⟩,50) else ((Q82 buf),0)
 | x_ :: r,held,buf=>bif ((held&&(x_.2 != 34))&&(x_.2 != 92)) then bif ((held&&(x_.2 != 34))&&(x_.2 != 92)) then (⟨#[]⟩,50) else bif ((!held)&&(x_.2==92)) then Q73 r true buf else Q73 r false (Qz0 buf x_.2) else bif ((!held)&&(x_.2==34)) then (⟨#[]⟩,50) else bif ((!held)&&(x_.2==92)) then Q73 r true buf else Q73 r false (Qz0 buf x_.2)
def Qw2 (s:ByteArray):ByteArray × Int:=bif ((QM3 s).2 != 0) then (⟨#[]⟩,(QM3 s).2) else bif (((decide ((ByteArray.size s:Int)<2))||(((s.data.toList.getD 0 0).toNat:Int)!=34))||(((s.data.toList.getD (Int.toNat (w64 ((ByteArray.size s:Int) - 1))) 0).toNat:Int)!=34)) then (⟨#[]⟩,50) else Q73 (QI5 (s.extract 1 (Int.toNat (w64 ((ByteArray.size s:Int) - 1))))) false []
theorem Q68 (s:ByteArray) (hs0:s.size<=4294967296) (hp0:ByteArray.size s<=1000000):∀ objs,AGives Tryz.prog 212 [Sg s] objs (AVal.tup [Sg ((Qw2 s).1),I ((Qw2 s).2)]):=by
 generalize hR:Qw2 s=R;refine ga (l1 .nil) (Low.tup' (l1 (l1 .nil))) (kp 10 [16,33,39,40,41,43,59,68]) Tryz.func212 ?_;have hk0:=hs0;obtain z19:s.size<=4294967296:=hs0;have hw0:w64 ((ByteArray.size s:Int) - 1)=(ByteArray.size s:Int) - 1:=wr (by omega);refine us (QG9 s szA _) ?_;refine ai (fun h1=>?_) (fun h2=>?_)
 ·obtain rfl:=foll hR (ct h1 rfl);exact Q00 (Low.tup' (l1 (l1 .nil))) (Seen.tup (e1 (e1 .nil)))
 ·refine ai gkA ?_;refine ai gkA ?_;refine ai (fun h3=>?_) (fun h4=>?_)
  ·obtain rfl:=foll hR (cf h2 (ct h3 rfl));exact Q00 (Low.tup' (l1 (l1 .nil))) (Seen.tup (e1 (e1 .nil)))
  ·refine ai gkA ?_;refine Qr7 (fun (held:Bool) (buf:List Int) (pos:Nat)=>∃ m,ByteArray.size (s.extract 1 (Int.toNat (w64 ((ByteArray.size s:Int) - 1)))) - pos<=m∧Q73 (Qp3 (s.extract 1 (Int.toNat (w64 ((ByteArray.size s:Int) - 1)))) m pos) held buf=R∧buf.length<=4*pos∧pos<=ByteArray.size s∧QL5 buf) (fun held buf pos=>ByteArray.size (s.extract 1 (Int.toNat (w64 ((ByteArray.size s:Int) - 1)))) - pos) (fun held buf pos=>[(2,Sg ⟨#[]⟩),(3,I 0),(6,AVal.ptr 0 0 2 0 0),(7,Bo held),(39,AVal.ptr 1 0 1 0 0)]) (fun held buf pos=>[(0,AObj.row 226 2 [[AVal.sel 0 0 2 0 0,AVal.buf 2 0 1 buf.length]]),(0,AObj.other (.strIter (s.extract 1 (Int.toNat (w64 ((ByteArray.size s:Int) - 1)))) pos)),(0,AObj.row 5 1 (buf.map (fun q_=>[Y q_])))]) false [] 0 ((Qf2 5 1).trans (wk [0,1,2] (tO rfl (Qs0 (cv (turn_selnil) (cv (turn_nilbuf 2 rfl) .nil))) (tO rfl (.strIter _ _) (tO rfl (tl eqA) .nil))) (s1 (s1 (sv (Q10 0 rfl rfl) (s1 (sv (Q10 1 rfl rfl) .nil))))))) ⟨ByteArray.size (s.extract 1 (Int.toNat (w64 ((ByteArray.size s:Int) - 1)))),by exact omA,foll hR (cf h2 (cf h4 rfl)),by first|(have hsz:=extract_size s 1 (Int.toNat (w64 ((ByteArray.size s:Int) - 1)));refine ⟨?_,?_,?_⟩ <;> (try dsimp only) <;> first|omega|with_reducible exact QW4|with_reducible exact hx.2.2|with_reducible exact Qf6 _ _ hx.2.2|exact Nat.le_trans (QX2 _ _) (by omega)|(simp;done))|exact exA⟩ ?_;clear hR;rintro held buf pos ⟨m,hm,hR,hx⟩;(try dsimp only at hR hm hx);refine ai (fun h5=>?_) (fun h6=>?_)
   ·have hlt:=of_decide_eq_true h5;have hw:=Q56 (s.extract 1 (Int.toNat (w64 ((ByteArray.size s:Int) - 1)))) pos;have hwe:=Q46 (s.extract 1 (Int.toNat (w64 ((ByteArray.size s:Int) - 1)))) pos hlt;obtain ⟨m,rfl⟩:=sucA m;rw [QA2 h5] at hR;refine ai (fun _=>?_) (fun h=>nomatch h);refine ai (fun h7=>?_) (fun h8=>?_)
    ·refine ai (fun h9=>?_) (fun h10=>?_)
     ·obtain rfl:=foll hR (ct h7 (ct h9 rfl));exact Q00 (Low.tup' (l1 (l1 .nil))) (Seen.tup (e1 (e1 .nil)))
     ·refine ai (fun h11=>?_) (fun h12=>?_)
      ·exact Qn4 true buf (pos+(Utf8.decode (s.extract 1 (Int.toNat (w64 ((ByteArray.size s:Int) - 1)))) pos).2) (wk [0,1,2] (tO rfl (Qs0 (cv (turn_sel 0 rfl rfl) (cv (turn_buf 2 rfl rfl) .nil))) (tO rfl (.strIter _ _) (tO rfl (tl eqA) .nil))) (s1 (s1 (sv (Q10 0 rfl rfl) (s1 (sv (Q10 1 rfl rfl) .nil)))))) omA ⟨m,by exact omA,foll hR (ct h7 (cf h10 (ct h11 rfl))),by first|(have hsz:=extract_size s 1 (Int.toNat (w64 ((ByteArray.size s:Int) - 1)));refine ⟨?_,?_,?_⟩ <;> (try dsimp only) <;> first|omega|with_reducible exact QW4|with_reducible exact hx.2.2|with_reducible exact Qf6 _ _ hx.2.2|exact Nat.le_trans (QX2 _ _) (by omega)|(simp;done))|exact exA⟩
      ·refine us (mv [0,2] (Qab buf ((pos,((Utf8.decode (s.extract 1 (Int.toNat (w64 ((ByteArray.size s:Int) - 1)))) pos).1:Int)).2) szA) (dO (dc (dv (dn_sel rfl) (dv (dn_buf rfl) .nil))) (dO (dr eqA) .nil)) (dp (d1 .nil)) (rO (rc (rv (rp 0 0 rfl) (rv (rw_ 3 0 rfl) .nil))) (rO rr .nil)) (Ren.low _ (Low.tup' (l1 (l1 .nil))))) ?_;exact Qn4 false (Qz0 buf (pos,((Utf8.decode (s.extract 1 (Int.toNat (w64 ((ByteArray.size s:Int) - 1)))) pos).1:Int)).2) (pos+(Utf8.decode (s.extract 1 (Int.toNat (w64 ((ByteArray.size s:Int) - 1)))) pos).2) (wk [0,1,3] (tO rfl (Qs0 (cv (QS8 0 rfl rfl) (cv (Qic 2 rfl rfl lnA (by first|with_reducible exact QF6 _ _|(simp;done)|grind)) .nil))) (tO rfl (.strIter _ _) (tO rfl (tl eqA) .nil))) (s1 (s1 (sv (Q10 0 rfl rfl) (s1 (sv (Q10 1 rfl rfl) .nil)))))) omA ⟨m,by exact omA,foll hR (ct h7 (cf h10 (cf h12 rfl))),by first|(have hsz:=extract_size s 1 (Int.toNat (w64 ((ByteArray.size s:Int) - 1)));refine ⟨?_,?_,?_⟩ <;> (try dsimp only) <;> first|omega|with_reducible exact QW4|with_reducible exact hx.2.2|with_reducible exact Qf6 _ _ hx.2.2|exact Nat.le_trans (QX2 _ _) (by omega)|(simp;done))|exact exA⟩
    ·refine ai (fun h13=>?_) (fun h14=>?_)
     ·obtain rfl:=foll hR (cf h8 (ct h13 rfl));exact Q00 (Low.tup' (l1 (l1 .nil))) (Seen.tup (e1 (e1 .nil)))
     ·refine ai (fun h15=>?_) (fun h16=>?_)
      ·exact Qn4 true buf (pos+(Utf8.decode (s.extract 1 (Int.toNat (w64 ((ByteArray.size s:Int) - 1)))) pos).2) (wk [0,1,2] (tO rfl (Qs0 (cv (turn_sel 0 rfl rfl) (cv (turn_buf 2 rfl rfl) .nil))) (tO rfl (.strIter _ _) (tO rfl (tl eqA) .nil))) (s1 (s1 (sv (Q10 0 rfl rfl) (s1 (sv (Q10 1 rfl rfl) .nil)))))) omA ⟨m,by exact omA,foll hR (cf h8 (cf h14 (ct h15 rfl))),by first|(have hsz:=extract_size s 1 (Int.toNat (w64 ((ByteArray.size s:Int) - 1)));refine ⟨?_,?_,?_⟩ <;> (try dsimp only) <;> first|omega|with_reducible exact QW4|with_reducible exact hx.2.2|with_reducible exact Qf6 _ _ hx.2.2|exact Nat.le_trans (QX2 _ _) (by omega)|(simp;done))|exact exA⟩
      ·refine us (mv [0,2] (Qab buf ((pos,((Utf8.decode (s.extract 1 (Int.toNat (w64 ((ByteArray.size s:Int) - 1)))) pos).1:Int)).2) szA) (dO (dc (dv (dn_sel rfl) (dv (dn_buf rfl) .nil))) (dO (dr eqA) .nil)) (dp (d1 .nil)) (rO (rc (rv (rp 0 0 rfl) (rv (rw_ 3 0 rfl) .nil))) (rO rr .nil)) (Ren.low _ (Low.tup' (l1 (l1 .nil))))) ?_;exact Qn4 false (Qz0 buf (pos,((Utf8.decode (s.extract 1 (Int.toNat (w64 ((ByteArray.size s:Int) - 1)))) pos).1:Int)).2) (pos+(Utf8.decode (s.extract 1 (Int.toNat (w64 ((ByteArray.size s:Int) - 1)))) pos).2) (wk [0,1,3] (tO rfl (Qs0 (cv (QS8 0 rfl rfl) (cv (Qic 2 rfl rfl lnA (by first|with_reducible exact QF6 _ _|(simp;done)|grind)) .nil))) (tO rfl (.strIter _ _) (tO rfl (tl eqA) .nil))) (s1 (s1 (sv (Q10 0 rfl rfl) (s1 (sv (Q10 1 rfl rfl) .nil)))))) omA ⟨m,by exact omA,foll hR (cf h8 (cf h14 (cf h16 rfl))),by first|(have hsz:=extract_size s 1 (Int.toNat (w64 ((ByteArray.size s:Int) - 1)));refine ⟨?_,?_,?_⟩ <;> (try dsimp only) <;> first|omega|with_reducible exact QW4|with_reducible exact hx.2.2|with_reducible exact Qf6 _ _ hx.2.2|exact Nat.le_trans (QX2 _ _) (by omega)|(simp;done))|exact exA⟩
   ·rw [Qg4 h6] at hR;refine ai (fun h=>nomatch h) (fun _=>?_);refine ai (fun h17=>?_) (fun h18=>?_)
    ·obtain rfl:=foll hR (ct h17 rfl);exact Q00 (Low.tup' (l1 (l1 .nil))) (Seen.tup (e1 (e1 .nil)))
    ·refine us (mv [0,2] (String_c buf (by first|(with_reducible exact hx.2.2)|first|assumption|exact QW4|grind) szA) (dO (dc (dv (dn_any) (dv (dn_bufbuf rfl) .nil))) (dO (dr eqA) .nil)) (dp .nil) (rO (re (.cons Low.any (.cons Low.any .nil))) .nil) rx) ?_;obtain rfl:=foll hR (cf h18 rfl);exact Q00 (Low.tup' (l1 (l1 .nil))) (Seen.tup (e1 (e1 .nil)))
def QZ0 (t:Taken) (from_:Int) (to_:Int) (n:Int):Taken:=bif ((decide (to_<=from_))||(n==0)) then t else bif ((Qc2 t.p from_ to_ (w64 (0 - n))).2==0) then (⟨(Qc2 t.p from_ to_ (w64 (0 - n))).1⟩:Taken) else t
theorem Qw5 (t:Taken) (from_:Int) (to_:Int) (n:Int) (hs0:t.sz):AMoves Tryz.prog 43 [AVal.ptr 0 0 1 0 0,I from_,I to_,I n] [(0,AObj.row 81 1 [[stepL t.p]])] 1 (AVal.tup []) [(0,AObj.row 81 1 [[stepL ((QZ0 t from_ to_ n).p)]])]:=by
 generalize hR:QZ0 t from_ to_ n=R;refine mo (kp 10 [16,30]) Tryz.func43 ?_;have hk0:=hs0;obtain z5:t.p.length<=4294967296:=hs0;refine ai (fun h1=>?_) (fun h2=>?_)
 ·obtain rfl:=foll hR (ct h1 rfl);exact rq (tt [0] (tO rfl (ts Taken.lo) .nil) t1)
 ·refine us (profile_Add_c t.p from_ to_ (w64 (0 - n)) szA _) ?_;refine ai (fun h3=>?_) (fun h4=>?_)
  ·obtain rfl:=foll hR (cf h2 (ct h3 rfl));exact rq (tt [0] (tO rfl (ts Taken.lo) .nil) t1)
  ·obtain rfl:=foll hR (cf h2 (cf h4 rfl));exact rq (tt [0] (tO rfl (ts Taken.lo) .nil) t1)
theorem QI1 {t:Taken} {f g n:Int} (h:t.p.length<=4294967296):(QZ0 t f g n).p.length<=4294967296:=by
 unfold QZ0
 repeat' first|exact h|exact QQb _ _ _ _ h|(rw [Bool.cond_eq_ite];split)
theorem Qb8 (n:Int):(Q52 n).length<=4294967296:=by simp [Q52]
def Q23 (s:ByteArray):Nat->List Int->Int->(List Int) × Int
 | 0,_,_=>([],0)
 | m+1,out,i=>bif (decide (i<(w64 ((ByteArray.size s:Int) - 1)))) then bif ((((s.data.toList.getD (Int.toNat i) 0).toNat:Int)==92)&&(decide ((w64 (i+1))<(w64 ((ByteArray.size s:Int) - 1))))) then Q23 s m (out++([((s.data.toList.getD (Int.toNat (w64 (i+1))) 0).toNat:Int)]:List Int)) (w64 ((w64 (i+1))+1)) else Q23 s m (out++([((s.data.toList.getD (Int.toNat i) 0).toNat:Int)]:List Int)) (w64 (i+1)) else (out,i)
def Q33 (s:ByteArray) (out:List Int) (i:Int):ByteArray × Int:=bif (((Qp6 (Q82 out)).2 != 0)||(!(ByteArray.toList (Qp6 (Q82 out)).1==ByteArray.toList s))) then (⟨#[]⟩,50) else ((Q82 out),0)
def Qp4 (s:ByteArray):ByteArray × Int:=bif ((QS2 s).2 != 0) then (⟨#[]⟩,(QS2 s).2) else Q33 s ((Q23 s ((Int.toNat ((w64 ((ByteArray.size s:Int) - 1)) - 1))+1) [] 1).1) ((Q23 s ((Int.toNat ((w64 ((ByteArray.size s:Int) - 1)) - 1))+1) [] 1).2)
theorem QUb (s:ByteArray) (hs0:s.size<=4294967296):∀ objs,AGives Tryz.prog 205 [Sg s] objs (AVal.tup [Sg ((Qp4 s).1),I ((Qp4 s).2)]):=by
 generalize hR:Qp4 s=R;refine ga (l1 .nil) (Low.tup' (l1 (l1 .nil))) (kp 10 [16,22,36,57]) Tryz.func205 ?_;have hk0:=hs0;obtain z9:s.size<=4294967296:=hs0;refine us (Qv7 s szA _) ?_;refine ai (fun h1=>?_) (fun h2=>?_)
 ·obtain rfl:=foll hR (ct h1 rfl);exact Q00 (Low.tup' (l1 (l1 .nil))) (Seen.tup (e1 (e1 .nil)))
 ·refine Qj0 (fun (out:List Int) (i:Int)=>∃ m,(Int.toNat ((w64 ((ByteArray.size s:Int) - 1)) - i))<m∧Q33 s (Q23 s m out i).1 (Q23 s m out i).2=R∧1<=i∧i<=(ByteArray.size s:Int)+1∧(out.length:Int)+1<=i) (fun out i=>(Int.toNat ((w64 ((ByteArray.size s:Int) - 1)) - i))) (fun out i=>[(0,Sg s),(2,Sg ⟨#[]⟩),(3,I 0),(6,AVal.own 0 0 1 0 out.length),(7,I i)]) (fun out i=>[(0,AObj.row 5 1 (out.map (fun q_=>[Y q_])))]) [] 1 ((Qf2 5 1).trans (wk [0] (tO rfl (tl eqA) .nil) (s1 (s1 (s1 (sv (QL1 0 rfl) (s1 .nil))))))) ⟨_,Nat.lt_succ_self _,foll hR (cf h2 rfl),by exact exA⟩ ?_;clear hR;rintro out i ⟨m,hm,hR,hx⟩;(try dsimp only at hR hm hx);obtain ⟨m,rfl⟩:=sucA m;refine ai (fun h3=>?_) (fun h4=>?_)
  ·have qh3:=of_decide_eq_true h3;have hq1:i<w64 ((ByteArray.size s:Int) - 1):=of_decide_eq_true h3;have hw0:w64 ((ByteArray.size s:Int) - 1)=(ByteArray.size s:Int) - 1:=wr (by omega);rw [hw0] at hq1;have hw1:w64 (i+1)=i+1:=wr (by omega);have hw2:w64 (i+1+1)=i+1+1:=wr (by omega);refine ai gkA ?_;refine ai (fun h5=>?_) (fun h6=>?_)
   ·refine ai gkA ?_;refine Or.inl ?_;(first|refine ⟨Qp2 1 rfl lnA apA,?_⟩|refine ⟨Qk1 1 rfl apA,?_⟩);exact Qa0 (out++([((s.data.toList.getD (Int.toNat (w64 (i+1))) 0).toNat:Int)]:List Int)) (w64 ((w64 (i+1))+1)) (wk [0] (tO rfl (tl eqA) .nil) (s1 (s1 (s1 (sv (to 0 lnA) (s1 .nil)))))) omA ⟨m,by exact omA,foll hR (congrArg (fun p:(List Int) × Int=>Q33 s p.1 p.2) (ct h3 (ct h5 rfl))),by exact exA⟩
   ·refine ai gkA ?_;refine Or.inl ?_;(first|refine ⟨Qp2 1 rfl lnA apA,?_⟩|refine ⟨Qk1 1 rfl apA,?_⟩);exact Qa0 (out++([((s.data.toList.getD (Int.toNat i) 0).toNat:Int)]:List Int)) (w64 (i+1)) (wk [0] (tO rfl (tl eqA) .nil) (s1 (s1 (s1 (sv (to 0 lnA) (s1 .nil)))))) omA ⟨m,by exact omA,foll hR (congrArg (fun p:(List Int) × Int=>Q33 s p.1 p.2) (ct h3 (cf h6 rfl))),by exact exA⟩
  ·have qh4:=of_decide_eq_false h4;replace hR:Q33 s out i=R:=fo2 (fun p:(List Int) × Int=>Q33 s p.1 p.2) (out,i) hR (cf h4 rfl);(first|refine ⟨out,by exact cvA,?_⟩|refine ⟨_,fun _=>⟨out,by exact cvA,rfl,rfl⟩,?_⟩|refine ⟨_,rfl,⟨out,by exact cvA,Sub.refl _,rfl⟩,?_⟩);refine us (ref04_Quote_c (Q82 out) szA _) ?_;refine ai (fun h7=>?_) (fun h8=>?_)
   ·obtain rfl:=foll hR (ct h7 rfl);exact Q00 (Low.tup' (l1 (l1 .nil))) (Seen.tup (e1 (e1 .nil)))
   ·(first|refine ⟨out,by exact cvA,?_⟩|refine ⟨_,fun _=>⟨out,by exact cvA,rfl,rfl⟩,?_⟩|refine ⟨_,rfl,⟨out,by exact cvA,Sub.refl _,rfl⟩,?_⟩);obtain rfl:=foll hR (cf h8 rfl);exact Q00 (Low.tup' (l1 (l1 .nil))) (Seen.tup (e1 (e1 .nil)))
def QO1 (s:Shape) (choice:Int):Int:=bif ((decide (choice<0))||(decide (choice >= ((Q60 s).length:Int)))) then 0 else ((Q60 s).getD (Int.toNat choice) Alt.zero).wall
theorem QCa (s:Shape) (choice:Int) (hs0:s.sz):∀ objs,AGives Tryz.prog 137 [Shape.a s,I choice] objs (I (QO1 s choice)):=by
 generalize hR:QO1 s choice=R;refine ga (.cons (Shape.low _ _) (l1 .nil)) lx (kp 6 [15]) Tryz.func137 ?_;have hk0:=hs0;obtain z3:s.alts.length<=4294967296:=hs0;have hf0:=Q47 s hk0;refine us (Qc5 s szA _) ?_;refine ai (fun h1=>?_) (fun h2=>?_)
 ·obtain rfl:=foll hR (ct h1 rfl);exact Q00 lx sr
 ·refine ai gkA ?_;obtain rfl:=foll hR (cf h2 rfl);exact Q00 lx sr
def Qc4 (s:Shape) (choice:Int) (n:Int):List Alt->Nat->Bool
 | [],_=>false
 | x_ :: r,i=>bif ((x_.nodes==n)&&(((i:Int)==choice)||(s.kind==3))) then true else Qc4 s choice n r (i+1)
def QS5 (s:Shape) (choice:Int) (n:Int):Bool:=bif ((decide (choice<0))||(decide (choice >= ((Q60 s).length:Int)))) then false else Qc4 s choice n (Q60 s) 0
theorem ref07_Allows_c (s:Shape) (choice:Int) (n:Int) (hs0:s.sz):∀ objs,AGives Tryz.prog 139 [Shape.a s,I choice,I n] objs (Bo (QS5 s choice n)):=by
 generalize hR:QS5 s choice n=R;refine ga (.cons (Shape.low _ _) (l1 (l1 .nil))) lx (kp 9 [18,22,41]) Tryz.func139 ?_;have hk0:=hs0;obtain z7:s.alts.length<=4294967296:=hs0;have hf0:=Q47 s hk0;refine us (Qc5 s szA _) ?_;refine ai (fun h1=>?_) (fun h2=>?_)
 ·obtain rfl:=foll hR (ct h1 rfl);exact Q00 lx sr
 ·refine Qh0 (fun (i:Nat)=>Qc4 s choice n (List.drop i (Q60 s)) i=R∧i<=(Q60 s).length) (fun i=>(Q60 s).length - i) (fun i=>[(1,I choice),(2,I n),(3,AVal.ptr 0 0 5 0 0),(6,Bo false),(7,altL (Q60 s)),(8,I (i:Int))]) (fun i=>[(0,AObj.row 42 5 [[I s.kind,altL s.alts,I s.min,I s.max,I s.wall]])]) 0 (wk [0] (tO rfl (ts Shape.lo) .nil) (s1 (s1 (sv (Q10 0 rfl rfl) (s1 (sl lw (s1 .nil))))))) ⟨foll hR (cf h2 rfl),by exact omA⟩ ?_;clear hR;rintro i ⟨hR,hj⟩;(try dsimp only at hR hj);refine ai (fun h3=>?_) (fun h4=>?_)
  ·have hlt:=ltA h3;rw [Qf0 Alt.zero hlt] at hR;refine ai gkA ?_;refine ai (fun h5=>?_) (fun h6=>?_)
   ·obtain rfl:=foll hR (ct h5 rfl);exact Q00 lx sr
   ·exact Ql0 (i+1) (wk [0] (tO rfl (ts Shape.lo) .nil) (s1 (s1 (sv (Q10 0 rfl rfl) (s1 (sl lw (sv (Qd0 (I_eq (wr omA)) lx) .nil))))))) omA ⟨foll hR (cf h6 rfl),by exact omA⟩
  ·rw [Qg0 (l:=(Q60 s)) (j:=i) (geA h4)] at hR;obtain rfl:=foll hR rfl;exact Q00 lx sr
def Qx1 (p_:List Step) (from_:Int) (to_:Int) (n:Int):(List Step):=bif ((QC1 p_ from_ to_ (w64 (0 - n))).2 != 0) then p_ else (QC1 p_ from_ to_ (w64 (0 - n))).1
theorem QE6 (p_:List Step) (from_:Int) (to_:Int) (n:Int) (hs0:p_.length<=4294967296):∀ objs,AGives Tryz.prog 73 [stepL p_,I from_,I to_,I n] objs (stepL (Qx1 p_ from_ to_ n)):=by
 generalize hR:Qx1 p_ from_ to_ n=R;refine ga (.cons lw (l1 (l1 (l1 .nil)))) lw (kp 11 [21]) Tryz.func73 ?_;have hk0:=hs0;obtain z3:p_.length<=4294967296:=hs0;refine us (ref10_Add_c p_ from_ to_ (w64 (0 - n)) szA _) ?_;refine ai (fun h1=>?_) (fun h2=>?_)
 ·obtain rfl:=foll hR (ct h1 rfl);exact Q00 lw sr
 ·obtain rfl:=foll hR (cf h2 rfl);exact Q00 lw sr
theorem ref10_Add_len (p:List Step) (f t n:Int):(QC1 p f t n).1.length<=4294967296:=by
 have k2:∀ c i,(Qk2 c i).1.length<=4294967296:=by
  intro c i
  unfold Qk2
  cases h:((Q11 c)!=0) with
  | true=>simp
  | false=>have:=Ql2 h;simp only [cond_false];omega
 unfold QC1 Q25
 repeat' first|exact k2 _ _|(simp;done)|(rw [Bool.cond_eq_ite];split)
theorem Q91 {p:List Step} {f t n:Int} (h:p.length<=4294967296):(Qx1 p f t n).length<=4294967296:=by
 unfold Qx1
 repeat' first|exact h|exact ref10_Add_len _ _ _ _|(rw [Bool.cond_eq_ite];split)
theorem QW2 (n:Int):(QY3 n).length<=4294967296:=by
 unfold QY3 Qd5
 repeat' first|(simp;done)|(rw [Bool.cond_eq_ite];split)
def Q40 (j:Job):Int × Int × Int × Bool:=bif ((j.state != 1)||(j.promise==(-1))) then (0,0,0,false) else (j.promise,(w64 (((Q60 j.shape).getD (Int.toNat j.choice) Alt.zero).wall+12)),((Q60 j.shape).getD (Int.toNat j.choice) Alt.zero).nodes,true)
theorem Q28 (j:Job) (hs0:j.sz) (hp0:((j.state != 1)||(j.promise==(-1)))=false->0<=j.choice∧j.choice<((Q60 j.shape).length:Int)):∀ objs,AGives Tryz.prog 49 [Job.a j] objs (AVal.tup [I ((Q40 j).1),I ((Q40 j).2.1),I ((Q40 j).2.2.1),Bo ((Q40 j).2.2.2)]):=by
 generalize hR:Q40 j=R;refine ga (.cons (Job.low _ _) .nil) (Low.tup' (l1 (l1 (l1 (l1 .nil))))) (kp 7 [14]) Tryz.func49 ?_;have hk0:=hs0;obtain ⟨z3,z4,z5,z6,z7⟩:j.name.size<=4294967296∧j.user.size<=4294967296∧j.account.size<=4294967296∧(j.shape.alts.length<=4294967296)∧j.after.length<=4294967296:=hs0;refine ai (fun h1=>?_) (fun h2=>?_)
 ·obtain rfl:=foll hR (ct h1 rfl);exact Q00 (Low.tup' (l1 (l1 (l1 (l1 .nil))))) (Seen.tup (e1 (e1 (e1 (e1 .nil)))))
 ·refine dchk (by kernel_rfl) ?_;(first|apply u2|apply u3|apply u4|apply us);exact Qc5 j.shape szA _;refine And.intro (by first|exact fun hg=>decide_eq_true (by first|((have q:=hp0 (by assumption);omega))|exact ckA)|exact gkA) ?_;(repeat ((first|refine ai rfl ?_|refine ai (fun _=>rfl) ?_|refine ai (fun _=>Qc5 j.shape szA _) ?_)));(try (refine dchk (by kernel_rfl) ?_));(repeat ((first|refine ai rfl ?_|refine ai (fun _=>rfl) ?_)));obtain rfl:=foll hR (cf h2 rfl);exact Q00 (Low.tup' (l1 (l1 (l1 (l1 .nil))))) (Seen.tup (e1 (e1 (e1 (e1 .nil)))))
end Go.Proofs.YtiiaifgeekdpaaaGreatDoor
