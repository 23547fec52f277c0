/-
  What the last text of this claim leans on: an evaluator over the code, contracts of functions, plain laws. Conditions stand in each statement.
-/
import Derived.Test.YtgnlcjenoaoffaaGreatDoorRHH1
import Derived.Test.YtgnlcjenoaoffaaGreatDoorRH8
import Derived.Test.YtgnlcjenoaoffaaGreatDoorProg
import Derived.Test.YtgnlcjenoaoffaaGreatDoorRH5
import Derived.Test.YtgnlcjenoaoffaaGreatDoorRH13
import Derived.KernelRfl
import Derived.Test.YtgnlcjenoaoffaaGreatDoorRH6
import Derived.LaidMore
import Derived.Stop.Joined
import Derived.JoinedOf
import Derived.Handed
import Derived.OpenShut
import Derived.Test.YtgnlcjenoaoffaaGreatDoorRH7
namespace Go.Proofs.YtgnlcjenoaoffaaGreatDoor
set_option linter.unusedSimpArgs false
set_option linter.unusedVariables false
open Go.Fw
set_option maxRecDepth 20000
set_option maxHeartbeats 4000000
attribute [local irreducible] ACalls AMoves
theorem agC {P:Program} {f:FuncId} {args:List AVal} {objs:Objs} {r:AVal} (h:ACalls P f args objs fun r' o'=>r'=r∧o'=objs):AGives P f args objs r:=h
theorem Qb9 {j:Job} (h:j.sz) (x:Int):(QC2 j x).1.sz:=by
 unfold QC2;simp only [yka]
 repeat' first
  | exact h
  | exact Job.szz _
  | split
def QD0 (s:State) (n:Note):State × (List Note) × Int:=bif ((Q14 n.job)&&(Q10 s.resizes n.job bsrF).2) then bif ((QM0 s)!=0) then (zK,[],(QM0 s)) else (fun bs:Int × Bool=>bif ((((!true)||(!((n.kind==8)||(n.kind==9))))||(!(Qu5 (wu64 (BitVec.ofInt 64 (s.resizes.getD (bs.1.toNat) zH).nodes &&& ~~~(BitVec.ofInt 64 (s.resizes.getD (bs.1.toNat) zH).said)).toNat) n.node)))||((s.nodes.getD (n.node.toNat) zF).epoch != n.epoch)) then (zK,[],230) else bif (n.kind==9) then bif (s.resizes.getD (bs.1.toNat) zH).grow then (fun ea:(List Node) × (List Note) × Int=>bif (ea.2.2 != 0) then (zK,[],ea.2.2) else ({ s with nodes:=ea.1,resizes:=(Qi2 s.resizes bs.1 (w64 (bs.1+1))) },ea.2.1,0)) (Qp0 s.nodes ((s.resizes.getD (bs.1.toNat) zH).nodes) 7 0 s.now) else (fun ea1:(List Node) × (List Note) × Int=>bif (ea1.2.2 != 0) then (zK,[],ea1.2.2) else ({ s with nodes:=ea1.1,resizes:=(Qi2 s.resizes bs.1 (w64 (bs.1+1))) },ea1.2.1,0)) (Qp0 s.nodes (wu64 (BitVec.ofInt 64 (s.resizes.getD (bs.1.toNat) zH).nodes &&& ~~~(BitVec.ofInt 64 (s.resizes.getD (bs.1.toNat) zH).said)).toNat) 6 0 s.now) else (fun ea2:(List Node) × (List Note) × Int=>bif (ea2.2.2 != 0) then (fun tw:List Resize=>bif ((tw.getD (bs.1.toNat) zH).said==(tw.getD (bs.1.toNat) zH).nodes) then bif (tw.getD (bs.1.toNat) zH).grow then (fun tf:Job × Bool=>(fun js:Job × Int=>bif (js.2 != 0) then (zK,[],ea2.2.2) else (fun tp:(List Job) × Int=>bif (tp.2 != 0) then (zK,[],ea2.2.2) else (zK,[],ea2.2.2)) (Qb1 s.jobs js.1)) (QC2 tf.1 (wu64 (BitVec.ofInt 64 tf.1.nodes ||| BitVec.ofInt 64 (tw.getD (bs.1.toNat) zH).nodes).toNat))) (Q70 s.jobs ((tw.getD (bs.1.toNat) zH).job)) else (fun tf1:Job × Bool=>(fun js1:Job × Int=>bif (js1.2 != 0) then (zK,[],ea2.2.2) else (fun tp1:(List Job) × Int=>bif (tp1.2 != 0) then (zK,[],ea2.2.2) else (zK,[],ea2.2.2)) (Qb1 s.jobs js1.1)) (QC2 tf1.1 (wu64 (BitVec.ofInt 64 tf1.1.nodes &&& ~~~(BitVec.ofInt 64 (tw.getD (bs.1.toNat) zH).nodes)).toNat))) (Q70 s.jobs ((tw.getD (bs.1.toNat) zH).job)) else (zK,[],ea2.2.2)) (s.resizes.set (bs.1.toNat) { (s.resizes.getD (bs.1.toNat) zH) with said:=(wu64 (BitVec.ofInt 64 (s.resizes.getD (bs.1.toNat) zH).said ||| BitVec.ofInt 64 (QJ1 ([n.node]:List Int)).1).toNat) }) else (fun tw1:List Resize=>bif ((tw1.getD (bs.1.toNat) zH).said==(tw1.getD (bs.1.toNat) zH).nodes) then bif (tw1.getD (bs.1.toNat) zH).grow then (fun ea3:(List Node) × (List Note) × Int=>bif (ea3.2.2 != 0) then (fun tf2:Job × Bool=>(fun js2:Job × Int=>bif (js2.2 != 0) then (zK,[],ea3.2.2) else (fun tp2:(List Job) × Int=>bif (tp2.2 != 0) then (zK,[],ea3.2.2) else (zK,[],ea3.2.2)) (Qb1 s.jobs js2.1)) (QC2 tf2.1 (wu64 (BitVec.ofInt 64 tf2.1.nodes ||| BitVec.ofInt 64 (tw1.getD (bs.1.toNat) zH).nodes).toNat))) (Q70 s.jobs ((tw1.getD (bs.1.toNat) zH).job)) else (fun tf3:Job × Bool=>(fun js3:Job × Int=>bif (js3.2 != 0) then (zK,[],js3.2) else (fun tp3:(List Job) × Int=>bif (tp3.2 != 0) then (zK,[],tp3.2) else ({ s with nodes:=ea3.1,jobs:=tp3.1,resizes:=(Qi2 tw1 bs.1 (w64 (bs.1+1))) },(ea2.2.1++ea3.2.1),0)) (Qb1 s.jobs js3.1)) (QC2 tf3.1 (wu64 (BitVec.ofInt 64 tf3.1.nodes ||| BitVec.ofInt 64 (tw1.getD (bs.1.toNat) zH).nodes).toNat))) (Q70 s.jobs ((tw1.getD (bs.1.toNat) zH).job))) (Qp0 ea2.1 ((tw1.getD (bs.1.toNat) zH).nodes) 3 0 s.now) else (fun ea4:(List Node) × (List Note) × Int=>bif (ea4.2.2 != 0) then (fun tf4:Job × Bool=>(fun js4:Job × Int=>bif (js4.2 != 0) then (zK,[],ea4.2.2) else (fun tp4:(List Job) × Int=>bif (tp4.2 != 0) then (zK,[],ea4.2.2) else (zK,[],ea4.2.2)) (Qb1 s.jobs js4.1)) (QC2 tf4.1 (wu64 (BitVec.ofInt 64 tf4.1.nodes &&& ~~~(BitVec.ofInt 64 (tw1.getD (bs.1.toNat) zH).nodes)).toNat))) (Q70 s.jobs ((tw1.getD (bs.1.toNat) zH).job)) else (fun tf5:Job × Bool=>(fun js5:Job × Int=>bif (js5.2 != 0) then (zK,[],js5.2) else (fun tp5:(List Job) × Int=>bif (tp5.2 != 0) then (zK,[],tp5.2) else ({ s with nodes:=ea4.1,jobs:=tp5.1,resizes:=(Qi2 tw1 bs.1 (w64 (bs.1+1))) },(ea2.2.1++ea4.2.1),0)) (Qb1 s.jobs js5.1)) (QC2 tf5.1 (wu64 (BitVec.ofInt 64 tf5.1.nodes &&& ~~~(BitVec.ofInt 64 (tw1.getD (bs.1.toNat) zH).nodes)).toNat))) (Q70 s.jobs ((tw1.getD (bs.1.toNat) zH).job))) (Qp0 ea2.1 ((tw1.getD (bs.1.toNat) zH).nodes) 7 0 s.now) else ({ s with nodes:=ea2.1,resizes:=tw1 },ea2.2.1,0)) (s.resizes.set (bs.1.toNat) { (s.resizes.getD (bs.1.toNat) zH) with said:=(wu64 (BitVec.ofInt 64 (s.resizes.getD (bs.1.toNat) zH).said ||| BitVec.ofInt 64 (QJ1 ([n.node]:List Int)).1).toNat) })) (Qp0 s.nodes ((QJ1 ([n.node]:List Int)).1) 4 0 s.now)) (Q10 s.resizes n.job bsrF) else bif ((QM0 s)!=0) then (zK,[],(QM0 s)) else bif (Q14 n.job) then (fun bs:Int × Bool=>(zK,[],230)) (Q10 s.resizes n.job bsrF) else (zK,[],230)
theorem Qq1 {P:Prop} (h:P:=by first|((with_reducible exact hk0))|first|((exact qtf))|first|((exact qjs))|first|((exact qea.1))|first|((exact ⟨hk0.2.1,hk0.2.2.1⟩))|first|((exact hk0.1))|exact szA):P:=h
theorem resize_Say_c (s:State) (n:Note) (hs0:s.sz) (hp0:(0<=n.node∧n.node<(s.nodes.length:Int))):GV 58 [State.a s,Note.a n] (AVal.tup [State.a ((QD0 s n).1),noteL ((QD0 s n).2.1),I ((QD0 s n).2.2)]):=by
 generalize hR:QD0 s n=R;refine ga (.cons (State.low _ _) (.cons (Note.low _ _) .nil)) (Low.tup' (.cons (State.low _ _) (.cons lw (l1 .nil)))) (kp 13 [19,27,88,98,148]) Tryz.func58 ?_;have hk0:=hs0;obtain ⟨z124,z125,z126,z127,z128,z129,z130⟩:=hs0;cases h1:((Q14 n.job)&&(Q10 s.resizes n.job bsrF).2)
 ·skip;refine ACalls.of_cwp (fun _=>true) Tryz.func97 rfl rfl ?_;refine us (QF2 s Qq1 _) ?_;refine ai (fun h2=>?_) (fun h3=>?_)
  ·refine ⟨_,_,Told.refl,?_⟩;apply ai<;>intro h4
   ·refine ACalls.of_cwp (fun _=>true) Tryz.func98 rfl rfl ?_;apply ai<;>intro h6
    ·refine dchk (by kernel_rfl) ?_;(repeat ((first|refine ai rfl ?_|refine ai (fun _=>rfl) ?_)));refine ⟨_,_,Told.refl,?_⟩;obtain rfl:=foll hR (cf h1 (ct h2 rfl));exact Q60 (Low.tup' (.cons (State.low _ _) (.cons lw (l1 .nil)))) (Seen.tup (ev (Seen.agg (e1 (ev (Q00) (ev (Q00) (ev (Q00) (ev (Q00) (ev (Q00) (e1 (e1 .nil))))))))) (ev (Q00) (e1 .nil))))
    ·exfalso;exact Bool.noConfusion (h2.symm.trans h6)
   ·exfalso;exact Bool.noConfusion (h2.symm.trans h4)
  ·refine us (QJ5 s Qq1 _) ?_;refine ⟨_,_,Told.refl,?_⟩;refine ai (fun h=>nomatch h) (fun _=>?_);refine us (Qf8 n.job _) ?_;refine ai (fun h8=>?_) (fun h9=>?_)
   ·refine ACalls.of_cwp (fun _=>true) Tryz.func100 rfl rfl ?_;refine us (bsr_c s.resizes n.job Qq1 _) ?_;generalize hvbs:Q10 s.resizes n.job bsrF=bs;have qbs:bs.2=true->0<=bs.1∧bs.1<(s.resizes.length:Int)∧w64 (bs.1+1)=bs.1+1:=(by rw [← hvbs];exact fun h=>QId (by rw [h];rfl) (by assumption));have qbbs:bs.2=false:=(by rw [← hvbs];have q:=h1;rw [show Q14 n.job=true by assumption] at q;exact q);rw [qbbs];refine ⟨_,_,Told.refl,?_⟩;refine dchk (by kernel_rfl) ?_;(conv=>whnf);refine ai (fun hg=>nomatch (show false=true from hg)) ?_;(conv=>whnf);refine ai (fun hg=>nomatch (show false=true from hg)) ?_;(first|refine ⟨Bo false,_,fun h=>absurd h (by decide),fun _=>rfl,?_⟩|refine ⟨Bo false,fun h=>absurd h (by decide),?_⟩|refine ⟨Bo false,_,fun h=>absurd h (by simp),fun _=>rfl,?_⟩|refine ⟨Bo false,fun h=>absurd h (by simp),?_⟩);(conv=>whnf);refine ai (fun hg=>nomatch (show false=true from hg)) ?_;(repeat ((first|refine ai rfl ?_|refine ai (fun _=>rfl) ?_)));refine ai (fun _=>?_) (fun h=>nomatch h);refine ACalls.of_cwp (fun _=>true) Tryz.func101 rfl rfl ?_;refine ai (fun _=>?_) (fun h=>nomatch h);refine ⟨_,_,Told.refl,?_⟩;refine ACalls.of_cwp (fun _=>true) Tryz.func98 rfl rfl ?_;refine ai (fun _=>?_) (fun h=>nomatch h);refine dchk (by kernel_rfl) ?_;(repeat ((first|refine ai rfl ?_|refine ai (fun _=>rfl) ?_)));refine ⟨_,_,Told.refl,?_⟩;obtain rfl:=foll hR (cf h1 (cf h3 (ct h8 (by subst hvbs;exact rfl))));first|exact Q60 (Low.tup' (.cons (State.low _ _) (.cons lw (l1 .nil)))) (Seen.tup (ev (Seen.agg (e1 (ev (Q00) (ev (Q00) (ev (Q00) (ev (Q00) (ev (Q00) (e1 (e1 .nil))))))))) (ev (Q00) (e1 .nil))))|(subst hvbs;exact Q60 (Low.tup' (.cons (State.low _ _) (.cons lw (l1 .nil)))) (Seen.tup (ev (Seen.agg (e1 (ev (Q00) (ev (Q00) (ev (Q00) (ev (Q00) (ev (Q00) (e1 (e1 .nil))))))))) (ev (Q00) (e1 .nil)))))
   ·refine dchk (by kernel_rfl) ?_;(conv=>whnf);refine ai (fun hg=>nomatch (show false=true from hg)) ?_;(conv=>whnf);refine ai (fun hg=>nomatch (show false=true from hg)) ?_;(first|refine ⟨Bo false,_,fun h=>absurd h (by decide),fun _=>rfl,?_⟩|refine ⟨Bo false,fun h=>absurd h (by decide),?_⟩|refine ⟨Bo false,_,fun h=>absurd h (by simp),fun _=>rfl,?_⟩|refine ⟨Bo false,fun h=>absurd h (by simp),?_⟩);(conv=>whnf);refine ai (fun hg=>nomatch (show false=true from hg)) ?_;(repeat ((first|refine ai rfl ?_|refine ai (fun _=>rfl) ?_)));refine ai (fun _=>?_) (fun h=>nomatch h);refine ACalls.of_cwp (fun _=>true) Tryz.func101 rfl rfl ?_;refine ai (fun _=>?_) (fun h=>nomatch h);refine ⟨_,_,Told.refl,?_⟩;refine ACalls.of_cwp (fun _=>true) Tryz.func98 rfl rfl ?_;refine ai (fun _=>?_) (fun h=>nomatch h);refine dchk (by kernel_rfl) ?_;(repeat ((first|refine ai rfl ?_|refine ai (fun _=>rfl) ?_)));refine ⟨_,_,Told.refl,?_⟩;obtain rfl:=foll hR (cf h1 (cf h3 (cf h9 rfl)));exact Q60 (Low.tup' (.cons (State.low _ _) (.cons lw (l1 .nil)))) (Seen.tup (ev (Seen.agg (e1 (ev (Q00) (ev (Q00) (ev (Q00) (ev (Q00) (ev (Q00) (e1 (e1 .nil))))))))) (ev (Q00) (e1 .nil))))
 ·skip;refine ACalls.of_cwp (fun _=>true) Tryz.func97 rfl rfl ?_;refine us (QF2 s Qq1 _) ?_;refine ai (fun h10=>?_) (fun h11=>?_)
  ·refine ⟨_,_,Told.refl,?_⟩;apply ai<;>intro h12
   ·refine ACalls.of_cwp (fun _=>true) Tryz.func98 rfl rfl ?_;apply ai<;>intro h14
    ·refine dchk (by kernel_rfl) ?_;(repeat ((first|refine ai rfl ?_|refine ai (fun _=>rfl) ?_)));refine ⟨_,_,Told.refl,?_⟩;obtain rfl:=foll hR (ct h1 (ct h10 rfl));exact Q60 (Low.tup' (.cons (State.low _ _) (.cons lw (l1 .nil)))) (Seen.tup (ev (Seen.agg (e1 (ev (Q00) (ev (Q00) (ev (Q00) (ev (Q00) (ev (Q00) (e1 (e1 .nil))))))))) (ev (Q00) (e1 .nil))))
    ·exfalso;exact Bool.noConfusion (h10.symm.trans h14)
   ·exfalso;exact Bool.noConfusion (h10.symm.trans h12)
  ·refine us (mv [] (Q18 s Qq1) .nil (dv (Qo3 (Low.agg' (State.lo))) .nil) (rO rr .nil) (ren_agg (r1 (rv (Ren.low _ lw) (rv (Ren.low _ lw) (.cons _ _ _ _ (rw_ 4 0 rfl) (rv (Ren.low _ lw) (rv (Ren.low _ lw) (r1 (r1 .nil)))))))))) ?_;refine ⟨_,_,Told.refl,?_⟩;refine ai (fun h=>nomatch h) (fun _=>?_);refine us (Qf8 n.job _) ?_;apply ai<;>intro h16
   ·refine ACalls.of_cwp (fun _=>true) Tryz.func100 rfl rfl ?_;refine us (AGives.lent (bsr_c s.resizes n.job Qq1 []) (ev (Qa0 _ _ rfl eqA lnA) (e1 (e1 .nil))) (.cons lw (l1 (.cons (Low.fn _ _ _ LowL.nil LowL.nil) .nil))) (Qr5 rfl)) ?_;generalize hvbs:Q10 s.resizes n.job bsrF=bs;have qbs:bs.2=true->0<=bs.1∧bs.1<(s.resizes.length:Int)∧w64 (bs.1+1)=bs.1+1:=(by rw [← hvbs];exact fun h=>QId (by rw [h];rfl) (by assumption));have qbbs:bs.2=true:=(by rw [← hvbs];exact ((yha _ _).mp h1).2);rw [qbbs];refine ⟨_,_,Told.refl,?_⟩;refine dchk (by kernel_rfl) ?_;refine And.intro (by first|exact fun hg=>yoa (by first|((have hq:=qbs (by assumption);omega))|first|((exact hp0))|first|((intro y hy;rw [List.mem_singleton.1 hy];omega))|exact ckA)|exact gkA) ?_;refine ⟨_,Qf0 rfl rfl rfl (Qo0 zH (bs.1.toNat) (by first|rfl|exact yda _|omega) (by first|((have hq:=qbs (by assumption);omega))|first|((exact hp0))|first|((intro y hy;rw [List.mem_singleton.1 hy];omega))|exact ckA)) rfl,?_⟩;refine And.intro (by first|exact fun hg=>yoa (by first|((have hq:=qbs (by assumption);omega))|first|((exact hp0))|first|((intro y hy;rw [List.mem_singleton.1 hy];omega))|exact ckA)|exact gkA) ?_;refine ⟨_,Qf0 rfl rfl rfl (Qo0 zH (bs.1.toNat) (by first|rfl|exact yda _|omega) (by first|((have hq:=qbs (by assumption);omega))|first|((exact hp0))|first|((intro y hy;rw [List.mem_singleton.1 hy];omega))|exact ckA)) rfl,?_⟩;(first|apply u2|apply u3|apply u4|apply us);exact Qb7 (wu64 (BitVec.ofInt 64 (s.resizes.getD (bs.1.toNat) zH).nodes &&& ~~~(BitVec.ofInt 64 (s.resizes.getD (bs.1.toNat) zH).said)).toNat) n.node _;refine And.intro (by first|exact fun hg=>yoa (by first|((have hq:=qbs (by assumption);omega))|first|((exact hp0))|first|((intro y hy;rw [List.mem_singleton.1 hy];omega))|exact ckA)|exact gkA) ?_;(repeat ((first|refine ai rfl ?_|refine ai (fun _=>rfl) ?_|refine And.intro (Qf0 rfl rfl rfl (Qo0 zH (bs.1.toNat) (by first|rfl|exact yda _|omega) (by first|((have hq:=qbs (by assumption);omega))|first|((exact hp0))|first|((intro y hy;rw [List.mem_singleton.1 hy];omega))|exact ckA)) rfl) ?_|refine And.intro (Qf0 rfl rfl rfl (Qo0 zH (bs.1.toNat) (by first|rfl|exact yda _|omega) (by first|((have hq:=qbs (by assumption);omega))|first|((exact hp0))|first|((intro y hy;rw [List.mem_singleton.1 hy];omega))|exact ckA)) rfl) ?_|refine ai (fun _=>Qb7 (wu64 (BitVec.ofInt 64 (s.resizes.getD (bs.1.toNat) zH).nodes &&& ~~~(BitVec.ofInt 64 (s.resizes.getD (bs.1.toNat) zH).said)).toNat) n.node _) ?_)));refine ai (fun h18=>?_) (fun h19=>?_)
    ·refine ACalls.of_cwp (fun _=>true) Tryz.func101 rfl rfl ?_;refine ai (fun _=>?_) (fun h=>nomatch h);refine ⟨_,_,Told.refl,?_⟩;refine ACalls.of_cwp (fun _=>true) Tryz.func98 rfl rfl ?_;refine ai (fun _=>?_) (fun h=>nomatch h);refine dchk (by kernel_rfl) ?_;(repeat ((first|refine ai rfl ?_|refine ai (fun _=>rfl) ?_)));refine ⟨_,_,Told.refl,?_⟩;obtain rfl:=foll hR (ct h1 (cf h11 (by subst hvbs;exact ct h18 rfl)));first|exact Q60 (Low.tup' (.cons (State.low _ _) (.cons lw (l1 .nil)))) (Seen.tup (ev (Seen.agg (e1 (ev (Q00) (ev (Q00) (ev (Q00) (ev (Q00) (ev (Q00) (e1 (e1 .nil))))))))) (ev (Q00) (e1 .nil))))|(subst hvbs;exact Q60 (Low.tup' (.cons (State.low _ _) (.cons lw (l1 .nil)))) (Seen.tup (ev (Seen.agg (e1 (ev (Q00) (ev (Q00) (ev (Q00) (ev (Q00) (ev (Q00) (e1 (e1 .nil))))))))) (ev (Q00) (e1 .nil)))))
    ·refine ai (fun h20=>?_) (fun h21=>?_)
     ·refine ACalls.of_cwp (fun _=>true) Tryz.func102 rfl rfl ?_;refine ACalls.of_cwp (fun _=>true) Tryz.func155 rfl rfl ?_;refine And.intro (by first|exact fun hg=>yoa (by first|((have hq:=qbs (by assumption);omega))|first|((exact hp0))|first|((intro y hy;rw [List.mem_singleton.1 hy];omega))|exact ckA)|exact gkA) ?_;refine ⟨_,Qf0 rfl rfl rfl (Qo0 zH (bs.1.toNat) (by first|rfl|exact yda _|omega) (by first|((have hq:=qbs (by assumption);omega))|first|((exact hp0))|first|((intro y hy;rw [List.mem_singleton.1 hy];omega))|exact ckA)) rfl,?_⟩;refine us (mv [4] (QK8 s.resizes bs.1 (w64 (bs.1+1)) Qq1 (by (have hq:=qbs (by assumption);rw [hq.2.2];omega))) (dO (dr eqA) .nil) (dv (QP3 rfl lnA) (d1 (d1 .nil))) (rO rr .nil) (rw_ 8 0 rfl)) ?_;refine ⟨_,_,Told.refl,?_⟩;apply ai<;>intro h22
      ·refine ACalls.of_cwp (fun _=>true) Tryz.func104 rfl rfl ?_;refine ai (fun h=>nomatch h) (fun _=>?_);refine dchk (by kernel_rfl) ?_;(first|apply u2|apply u3|apply u4|apply us);exact Qj1 s.nodes ((s.resizes.getD (bs.1.toNat) zH).nodes) 7 0 s.now Qq1 _;generalize hvea:Qp0 s.nodes ((s.resizes.getD (bs.1.toNat) zH).nodes) 7 0 s.now=ea;(have qea:ea.1.length<=4294967296∧ea.2.1.length<=64:=by rw [← hvea];first|exact ⟨yea (QM1 _ _ _ _ _).1 hk0.1,(QM1 _ _ _ _ _).2⟩|exact ⟨yea (QM1 _ _ _ _ _).1 qea.1,(QM1 _ _ _ _ _).2⟩);(repeat ((first|refine ai rfl ?_|refine ai (fun _=>rfl) ?_|refine ai (fun _=>by subst hvea;exact Qj1 s.nodes ((s.resizes.getD (bs.1.toNat) zH).nodes) 7 0 s.now Qq1 _) ?_)));apply ai<;>intro h24
       ·refine ACalls.of_cwp (fun _=>true) Tryz.func101 rfl rfl ?_;refine ai (fun _=>?_) (fun h=>nomatch h);refine ⟨_,_,Told.refl,?_⟩;refine ⟨_,_,Told.refl,?_⟩;refine ⟨_,_,Told.refl,?_⟩;refine ACalls.of_cwp (fun _=>true) Tryz.func98 rfl rfl ?_;apply ai<;>intro h26
        ·refine dchk (by kernel_rfl) ?_;(repeat ((first|refine ai rfl ?_|refine ai (fun _=>rfl) ?_)));refine ⟨_,_,Told.refl,?_⟩;obtain rfl:=foll hR (ct h1 (cf h11 (by subst hvbs;exact cf h19 (ct h20 (ct h22 (by subst hvea;exact ct h24 rfl))))));first|exact Q60 (Low.tup' (.cons (State.low _ _) (.cons lw (l1 .nil)))) (Seen.tup (ev (Seen.agg (e1 (ev (Q00) (ev (Q00) (ev (Q00) (ev (Q00) (ev (Q00) (e1 (e1 .nil))))))))) (ev (Q00) (e1 .nil))))|(subst hvbs hvea;exact Q60 (Low.tup' (.cons (State.low _ _) (.cons lw (l1 .nil)))) (Seen.tup (ev (Seen.agg (e1 (ev (Q00) (ev (Q00) (ev (Q00) (ev (Q00) (ev (Q00) (e1 (e1 .nil))))))))) (ev (Q00) (e1 .nil)))))
        ·exfalso;exact Bool.noConfusion (h24.symm.trans h26)
       ·(first|refine ⟨Qd1 32 rfl lnA apA,?_⟩|refine ⟨QB0 32 rfl apA,?_⟩);refine ⟨_,_,Told.refl,?_⟩;refine ⟨_,_,Told.refl,?_⟩;refine ACalls.of_cwp (fun _=>true) Tryz.func98 rfl rfl ?_;refine ai (fun h=>nomatch h) (fun _=>?_);refine dchk (by kernel_rfl) ?_;(repeat ((first|refine ai rfl ?_|refine ai (fun _=>rfl) ?_)));refine ⟨_,_,Told.refl,?_⟩;obtain rfl:=foll hR (ct h1 (cf h11 (by subst hvbs;exact cf h19 (ct h20 (ct h22 (by subst hvea;exact cf h24 rfl))))));first|exact Q60 (Low.tup' (.cons (State.low _ _) (.cons lw (l1 .nil)))) (Seen.tup (ev (Seen.agg (e1 (e1 (e1 (ev (Qa0 zH _ rfl eqA lnA) (e1 (e1 (e1 (e1 .nil))))))))) (ev (Qa0 zL _ rfl eqA lnA) (e1 .nil))))|(subst hvbs hvea;exact Q60 (Low.tup' (.cons (State.low _ _) (.cons lw (l1 .nil)))) (Seen.tup (ev (Seen.agg (e1 (e1 (e1 (ev (Qa0 zH _ rfl eqA lnA) (e1 (e1 (e1 (e1 .nil))))))))) (ev (Qa0 zL _ rfl eqA lnA) (e1 .nil)))))
      ·refine ACalls.of_cwp (fun _=>true) Tryz.func104 rfl rfl ?_;refine ai (fun h=>nomatch h) (fun _=>?_);refine dchk (by kernel_rfl) ?_;(first|apply u2|apply u3|apply u4|apply us);exact Qj1 s.nodes (wu64 (BitVec.ofInt 64 (s.resizes.getD (bs.1.toNat) zH).nodes &&& ~~~(BitVec.ofInt 64 (s.resizes.getD (bs.1.toNat) zH).said)).toNat) 6 0 s.now Qq1 _;generalize hvea1:Qp0 s.nodes (wu64 (BitVec.ofInt 64 (s.resizes.getD (bs.1.toNat) zH).nodes &&& ~~~(BitVec.ofInt 64 (s.resizes.getD (bs.1.toNat) zH).said)).toNat) 6 0 s.now=ea1;(have qea:ea1.1.length<=4294967296∧ea1.2.1.length<=64:=by rw [← hvea1];first|exact ⟨yea (QM1 _ _ _ _ _).1 hk0.1,(QM1 _ _ _ _ _).2⟩|exact ⟨yea (QM1 _ _ _ _ _).1 qea.1,(QM1 _ _ _ _ _).2⟩);(repeat ((first|refine ai rfl ?_|refine ai (fun _=>rfl) ?_|refine ai (fun _=>by subst hvea1;exact Qj1 s.nodes (wu64 (BitVec.ofInt 64 (s.resizes.getD (bs.1.toNat) zH).nodes &&& ~~~(BitVec.ofInt 64 (s.resizes.getD (bs.1.toNat) zH).said)).toNat) 6 0 s.now Qq1 _) ?_)));apply ai<;>intro h28
       ·refine ACalls.of_cwp (fun _=>true) Tryz.func101 rfl rfl ?_;refine ai (fun _=>?_) (fun h=>nomatch h);refine ⟨_,_,Told.refl,?_⟩;refine ⟨_,_,Told.refl,?_⟩;refine ⟨_,_,Told.refl,?_⟩;refine ACalls.of_cwp (fun _=>true) Tryz.func98 rfl rfl ?_;apply ai<;>intro h30
        ·refine dchk (by kernel_rfl) ?_;(repeat ((first|refine ai rfl ?_|refine ai (fun _=>rfl) ?_)));refine ⟨_,_,Told.refl,?_⟩;obtain rfl:=foll hR (ct h1 (cf h11 (by subst hvbs;exact cf h19 (ct h20 (cf h22 (by subst hvea1;exact ct h28 rfl))))));first|exact Q60 (Low.tup' (.cons (State.low _ _) (.cons lw (l1 .nil)))) (Seen.tup (ev (Seen.agg (e1 (ev (Q00) (ev (Q00) (ev (Q00) (ev (Q00) (ev (Q00) (e1 (e1 .nil))))))))) (ev (Q00) (e1 .nil))))|(subst hvbs hvea1;exact Q60 (Low.tup' (.cons (State.low _ _) (.cons lw (l1 .nil)))) (Seen.tup (ev (Seen.agg (e1 (ev (Q00) (ev (Q00) (ev (Q00) (ev (Q00) (ev (Q00) (e1 (e1 .nil))))))))) (ev (Q00) (e1 .nil)))))
        ·exfalso;exact Bool.noConfusion (h28.symm.trans h30)
       ·(first|refine ⟨Qd1 32 rfl lnA apA,?_⟩|refine ⟨QB0 32 rfl apA,?_⟩);refine ⟨_,_,Told.refl,?_⟩;refine ⟨_,_,Told.refl,?_⟩;refine ACalls.of_cwp (fun _=>true) Tryz.func98 rfl rfl ?_;refine ai (fun h=>nomatch h) (fun _=>?_);refine dchk (by kernel_rfl) ?_;(repeat ((first|refine ai rfl ?_|refine ai (fun _=>rfl) ?_)));refine ⟨_,_,Told.refl,?_⟩;obtain rfl:=foll hR (ct h1 (cf h11 (by subst hvbs;exact cf h19 (ct h20 (cf h22 (by subst hvea1;exact cf h28 rfl))))));first|exact Q60 (Low.tup' (.cons (State.low _ _) (.cons lw (l1 .nil)))) (Seen.tup (ev (Seen.agg (e1 (e1 (e1 (ev (Qa0 zH _ rfl eqA lnA) (e1 (e1 (e1 (e1 .nil))))))))) (ev (Qa0 zL _ rfl eqA lnA) (e1 .nil))))|(subst hvbs hvea1;exact Q60 (Low.tup' (.cons (State.low _ _) (.cons lw (l1 .nil)))) (Seen.tup (ev (Seen.agg (e1 (e1 (e1 (ev (Qa0 zH _ rfl eqA lnA) (e1 (e1 (e1 (e1 .nil))))))))) (ev (Qa0 zL _ rfl eqA lnA) (e1 .nil)))))
     ·refine Or.inl ?_;refine us (AGives.as2 (QM6 ([n.node]:List Int) Qq1 _) (av (QK5 (c:=(fun q_=>[I q_])) (d:=0) ([n.node]:List Int) rfl) .nil)) ?_;refine ACalls.of_cwp (fun _=>true) Tryz.func104 rfl rfl ?_;refine ai (fun h=>nomatch h) (fun _=>?_);refine dchk (by kernel_rfl) ?_;(first|apply u2|apply u3|apply u4|apply us);exact Qj1 s.nodes ((QJ1 ([n.node]:List Int)).1) 4 0 s.now Qq1 _;generalize hvea2:Qp0 s.nodes ((QJ1 ([n.node]:List Int)).1) 4 0 s.now=ea2;(have qea:ea2.1.length<=4294967296∧ea2.2.1.length<=64:=by rw [← hvea2];first|exact ⟨yea (QM1 _ _ _ _ _).1 hk0.1,(QM1 _ _ _ _ _).2⟩|exact ⟨yea (QM1 _ _ _ _ _).1 qea.1,(QM1 _ _ _ _ _).2⟩);(repeat ((first|refine ai rfl ?_|refine ai (fun _=>rfl) ?_|refine ai (fun _=>by subst hvea2;exact Qj1 s.nodes ((QJ1 ([n.node]:List Int)).1) 4 0 s.now Qq1 _) ?_)));refine ai (fun h32=>?_) (fun h33=>?_)
      ·refine ACalls.of_cwp (fun _=>true) Tryz.func101 rfl rfl ?_;refine ai (fun _=>?_) (fun h=>nomatch h);refine ⟨_,_,Told.refl,?_⟩;refine ⟨_,_,Told.refl,?_⟩;refine And.intro (by first|exact fun hg=>yoa (by first|((have hq:=qbs (by assumption);omega))|first|((exact hp0))|first|((intro y hy;rw [List.mem_singleton.1 hy];omega))|exact ckA)|exact gkA) ?_;refine ⟨_,Qf0 rfl rfl rfl (Qo0 zH (bs.1.toNat) (by first|rfl|exact yda _|omega) (by first|((have hq:=qbs (by assumption);omega))|first|((exact hp0))|first|((intro y hy;rw [List.mem_singleton.1 hy];omega))|exact ckA)) rfl,?_⟩;refine And.intro (by first|exact fun hg=>yoa (by first|((have hq:=qbs (by assumption);omega))|first|((exact hp0))|first|((intro y hy;rw [List.mem_singleton.1 hy];omega))|exact ckA)|exact gkA) ?_;refine ⟨_,QV0 rfl rfl rfl rfl (Qo0 zH (bs.1.toNat) (by first|rfl|exact yda _|omega) (by first|((have hq:=qbs (by assumption);omega))|first|((exact hp0))|first|((intro y hy;rw [List.mem_singleton.1 hy];omega))|exact ckA)) rfl rfl (QD7 (bs.1.toNat) { (s.resizes.getD (bs.1.toNat) zH) with said:=(wu64 (BitVec.ofInt 64 (s.resizes.getD (bs.1.toNat) zH).said ||| BitVec.ofInt 64 (QJ1 ([n.node]:List Int)).1).toNat) } (by first|rfl|exact yda _|omega) rfl),?_⟩;generalize hvtw:s.resizes.set (bs.1.toNat) { (s.resizes.getD (bs.1.toNat) zH) with said:=(wu64 (BitVec.ofInt 64 (s.resizes.getD (bs.1.toNat) zH).said ||| BitVec.ofInt 64 (QJ1 ([n.node]:List Int)).1).toNat) }=tw;(have qtw:tw.length=s.resizes.length:=by rw [← hvtw];exact yWa);refine dchk (by kernel_rfl) ?_;refine And.intro (by first|exact fun hg=>yoa (by first|((have hq:=qbs (by assumption);omega))|first|((exact hp0))|first|((intro y hy;rw [List.mem_singleton.1 hy];omega))|exact ckA)|exact gkA) ?_;refine ⟨_,Qf0 rfl rfl rfl (Qo0 zH (bs.1.toNat) (by first|rfl|exact yda _|omega) (by first|((have hq:=qbs (by assumption);omega))|first|((exact hp0))|first|((intro y hy;rw [List.mem_singleton.1 hy];omega))|exact ckA)) rfl,?_⟩;refine And.intro (by first|exact fun hg=>yoa (by first|((have hq:=qbs (by assumption);omega))|first|((exact hp0))|first|((intro y hy;rw [List.mem_singleton.1 hy];omega))|exact ckA)|exact gkA) ?_;refine ⟨_,Qf0 rfl rfl rfl (Qo0 zH (bs.1.toNat) (by first|rfl|exact yda _|omega) (by first|((have hq:=qbs (by assumption);omega))|first|((exact hp0))|first|((intro y hy;rw [List.mem_singleton.1 hy];omega))|exact ckA)) rfl,?_⟩;(repeat ((first|refine ai rfl ?_|refine ai (fun _=>rfl) ?_|refine And.intro (Qf0 rfl rfl rfl (Qo0 zH (bs.1.toNat) (by first|rfl|exact yda _|omega) (by first|((have hq:=qbs (by assumption);omega))|first|((exact hp0))|first|((intro y hy;rw [List.mem_singleton.1 hy];omega))|exact ckA)) rfl) ?_|refine And.intro (Qf0 rfl rfl rfl (Qo0 zH (bs.1.toNat) (by first|rfl|exact yda _|omega) (by first|((have hq:=qbs (by assumption);omega))|first|((exact hp0))|first|((intro y hy;rw [List.mem_singleton.1 hy];omega))|exact ckA)) rfl) ?_)));apply ai<;>intro h34
       ·refine ACalls.of_cwp (fun _=>true) Tryz.func105 rfl rfl ?_;refine ACalls.of_cwp (fun _=>true) Tryz.func155 rfl rfl ?_;refine And.intro (by first|exact fun hg=>yoa (by first|((have hq:=qbs (by assumption);omega))|first|((exact hp0))|first|((intro y hy;rw [List.mem_singleton.1 hy];omega))|exact ckA)|exact gkA) ?_;refine ⟨_,Qf0 rfl rfl rfl (Qo0 zH (bs.1.toNat) (by first|rfl|exact yda _|omega) (by first|((have hq:=qbs (by assumption);omega))|first|((exact hp0))|first|((intro y hy;rw [List.mem_singleton.1 hy];omega))|exact ckA)) rfl,?_⟩;refine us (mv [4] (QK8 tw bs.1 (w64 (bs.1+1)) Qq1 (by (have hq:=qbs (by assumption);rw [hq.2.2];omega))) (dO (dr eqA) .nil) (dv (QP3 rfl lnA) (d1 (d1 .nil))) (rO rr .nil) (rw_ 8 0 rfl)) ?_;refine ⟨_,_,Told.refl,?_⟩;apply ai<;>intro h36
        ·refine ACalls.of_cwp (fun _=>true) Tryz.func104 rfl rfl ?_;apply ai<;>intro h38
         ·refine ⟨_,_,Told.refl,?_⟩;refine ACalls.of_cwp (fun _=>true) Tryz.func158 rfl rfl ?_;refine us (QW1 s.jobs ((tw.getD (bs.1.toNat) zH).job) Qq1 _) ?_;generalize hvtf:Q70 s.jobs ((tw.getD (bs.1.toNat) zH).job)=tf;(have qtf:tf.1.sz:=by rw [← hvtf];exact QG2 hk0.2.2.1 _);refine dchk (by kernel_rfl) ?_;refine u4 (r:=U (wu64 (BitVec.ofInt 64 tf.1.nodes ||| BitVec.ofInt 64 (tw.getD (bs.1.toNat) zH).nodes).toNat)) (agC (ACalls.of_cwp (fun _=>true) Tryz.func157 rfl rfl ?_)) ?_
          ·exact ⟨_,_,Told.refl,rfl,rfl⟩
          (first|apply u2|apply u3|apply u4|apply us);exact Qj3 tf.1 (wu64 (BitVec.ofInt 64 tf.1.nodes ||| BitVec.ofInt 64 (tw.getD (bs.1.toNat) zH).nodes).toNat) Qq1 _;generalize hvjs:QC2 tf.1 (wu64 (BitVec.ofInt 64 tf.1.nodes ||| BitVec.ofInt 64 (tw.getD (bs.1.toNat) zH).nodes).toNat)=js;(have qjs:js.1.sz:=by rw [← hvjs];exact Qb9 qtf _);(repeat ((first|refine ai rfl ?_|refine ai (fun _=>rfl) ?_|(refine ai (fun _=>agC (ACalls.of_cwp (fun _=>true) Tryz.func157 rfl rfl ?_)) ?_;focus ((conv=>whnf);exact ⟨_,_,Told.refl,rfl,rfl⟩))|refine ai (fun _=>by subst hvjs;exact Qj3 tf.1 (wu64 (BitVec.ofInt 64 tf.1.nodes ||| BitVec.ofInt 64 (tw.getD (bs.1.toNat) zH).nodes).toNat) Qq1 _) ?_)));apply ai<;>intro h40
          ·refine ACalls.of_cwp (fun _=>true) Tryz.func101 rfl rfl ?_;apply ai<;>intro h42
           ·exfalso;have hq:=h32;rw [bne,h42] at hq;exact nomatch hq
           ·refine ⟨_,_,Told.refl,?_⟩;refine ⟨_,_,Told.refl,?_⟩;refine ⟨_,_,Told.refl,?_⟩;refine ACalls.of_cwp (fun _=>true) Tryz.func98 rfl rfl ?_;apply ai<;>intro h44
            ·refine dchk (by kernel_rfl) ?_;(repeat ((first|refine ai rfl ?_|refine ai (fun _=>rfl) ?_)));refine ⟨_,_,Told.refl,?_⟩;obtain rfl:=foll hR (ct h1 (cf h11 (by subst hvbs;exact cf h19 (cf h21 (by subst hvea2;exact ct h32 (by subst hvtw;exact ct h34 (ct h36 (by subst hvtf;exact (by subst hvjs;exact ct h40 rfl)))))))));first|exact Q60 (Low.tup' (.cons (State.low _ _) (.cons lw (l1 .nil)))) (Seen.tup (ev (Seen.agg (e1 (ev (Q00) (ev (Q00) (ev (Q00) (ev (Q00) (ev (Q00) (e1 (e1 .nil))))))))) (ev (Q00) (e1 .nil))))|(subst hvbs hvea2 hvtw hvtf hvjs;exact Q60 (Low.tup' (.cons (State.low _ _) (.cons lw (l1 .nil)))) (Seen.tup (ev (Seen.agg (e1 (ev (Q00) (ev (Q00) (ev (Q00) (ev (Q00) (ev (Q00) (e1 (e1 .nil))))))))) (ev (Q00) (e1 .nil)))))
            ·exfalso;exact Bool.noConfusion (h32.symm.trans h44)
          ·refine dchk (by kernel_rfl) ?_;(first|apply u2|apply u3|apply u4|apply us);exact QX1 s.jobs js.1 Qq1 Qq1 _;generalize hvtp:Qb1 s.jobs js.1=tp;(have qtp:tp.1.length<=4294967296 ∧ ∀ y ∈ tp.1,y.sz:=by rw [← hvtp];exact Q72 ⟨hk0.2.1,hk0.2.2.1⟩ qjs);(repeat ((first|refine ai rfl ?_|refine ai (fun _=>rfl) ?_|refine ai (fun _=>by subst hvtp;exact QX1 s.jobs js.1 Qq1 Qq1 _) ?_)));apply ai<;>intro h46
           ·refine ACalls.of_cwp (fun _=>true) Tryz.func101 rfl rfl ?_;apply ai<;>intro h48
            ·exfalso;have hq:=h32;rw [bne,h48] at hq;exact nomatch hq
            ·refine ⟨_,_,Told.refl,?_⟩;refine ⟨_,_,Told.refl,?_⟩;refine ⟨_,_,Told.refl,?_⟩;refine ACalls.of_cwp (fun _=>true) Tryz.func98 rfl rfl ?_;apply ai<;>intro h50
             ·refine dchk (by kernel_rfl) ?_;(repeat ((first|refine ai rfl ?_|refine ai (fun _=>rfl) ?_)));refine ⟨_,_,Told.refl,?_⟩;obtain rfl:=foll hR (ct h1 (cf h11 (by subst hvbs;exact cf h19 (cf h21 (by subst hvea2;exact ct h32 (by subst hvtw;exact ct h34 (ct h36 (by subst hvtf;exact (by subst hvjs;exact cf h40 (by subst hvtp;exact ct h46 rfl))))))))));first|exact Q60 (Low.tup' (.cons (State.low _ _) (.cons lw (l1 .nil)))) (Seen.tup (ev (Seen.agg (e1 (ev (Q00) (ev (Q00) (ev (Q00) (ev (Q00) (ev (Q00) (e1 (e1 .nil))))))))) (ev (Q00) (e1 .nil))))|(subst hvbs hvea2 hvtw hvtf hvjs hvtp;exact Q60 (Low.tup' (.cons (State.low _ _) (.cons lw (l1 .nil)))) (Seen.tup (ev (Seen.agg (e1 (ev (Q00) (ev (Q00) (ev (Q00) (ev (Q00) (ev (Q00) (e1 (e1 .nil))))))))) (ev (Q00) (e1 .nil)))))
             ·exfalso;exact Bool.noConfusion (h32.symm.trans h50)
           ·refine ⟨_,_,Told.refl,?_⟩;refine ⟨_,_,Told.refl,?_⟩;refine ACalls.of_cwp (fun _=>true) Tryz.func98 rfl rfl ?_;apply ai<;>intro h52
            ·refine dchk (by kernel_rfl) ?_;(repeat ((first|refine ai rfl ?_|refine ai (fun _=>rfl) ?_)));refine ⟨_,_,Told.refl,?_⟩;obtain rfl:=foll hR (ct h1 (cf h11 (by subst hvbs;exact cf h19 (cf h21 (by subst hvea2;exact ct h32 (by subst hvtw;exact ct h34 (ct h36 (by subst hvtf;exact (by subst hvjs;exact cf h40 (by subst hvtp;exact cf h46 rfl))))))))));first|exact Q60 (Low.tup' (.cons (State.low _ _) (.cons lw (l1 .nil)))) (Seen.tup (ev (Seen.agg (e1 (ev (Q00) (ev (Q00) (ev (Q00) (ev (Q00) (ev (Q00) (e1 (e1 .nil))))))))) (ev (Q00) (e1 .nil))))|(subst hvbs hvea2 hvtw hvtf hvjs hvtp;exact Q60 (Low.tup' (.cons (State.low _ _) (.cons lw (l1 .nil)))) (Seen.tup (ev (Seen.agg (e1 (ev (Q00) (ev (Q00) (ev (Q00) (ev (Q00) (ev (Q00) (e1 (e1 .nil))))))))) (ev (Q00) (e1 .nil)))))
            ·exfalso;exact Bool.noConfusion (h32.symm.trans h52)
         ·exfalso;exact Bool.noConfusion (h32.symm.trans h38)
        ·refine ACalls.of_cwp (fun _=>true) Tryz.func104 rfl rfl ?_;apply ai<;>intro h54
         ·refine ⟨_,_,Told.refl,?_⟩;refine ACalls.of_cwp (fun _=>true) Tryz.func158 rfl rfl ?_;refine us (QW1 s.jobs ((tw.getD (bs.1.toNat) zH).job) Qq1 _) ?_;generalize hvtf1:Q70 s.jobs ((tw.getD (bs.1.toNat) zH).job)=tf1;(have qtf:tf1.1.sz:=by rw [← hvtf1];exact QG2 hk0.2.2.1 _);refine dchk (by kernel_rfl) ?_;refine u4 (r:=U (wu64 (BitVec.ofInt 64 tf1.1.nodes &&& ~~~(BitVec.ofInt 64 (tw.getD (bs.1.toNat) zH).nodes)).toNat)) (agC (ACalls.of_cwp (fun _=>true) Tryz.func156 rfl rfl ?_)) ?_
          ·exact ⟨_,_,Told.refl,rfl,rfl⟩
          (first|apply u2|apply u3|apply u4|apply us);exact Qj3 tf1.1 (wu64 (BitVec.ofInt 64 tf1.1.nodes &&& ~~~(BitVec.ofInt 64 (tw.getD (bs.1.toNat) zH).nodes)).toNat) Qq1 _;generalize hvjs1:QC2 tf1.1 (wu64 (BitVec.ofInt 64 tf1.1.nodes &&& ~~~(BitVec.ofInt 64 (tw.getD (bs.1.toNat) zH).nodes)).toNat)=js1;(have qjs:js1.1.sz:=by rw [← hvjs1];exact Qb9 qtf _);(repeat ((first|refine ai rfl ?_|refine ai (fun _=>rfl) ?_|(refine ai (fun _=>agC (ACalls.of_cwp (fun _=>true) Tryz.func156 rfl rfl ?_)) ?_;focus ((conv=>whnf);exact ⟨_,_,Told.refl,rfl,rfl⟩))|refine ai (fun _=>by subst hvjs1;exact Qj3 tf1.1 (wu64 (BitVec.ofInt 64 tf1.1.nodes &&& ~~~(BitVec.ofInt 64 (tw.getD (bs.1.toNat) zH).nodes)).toNat) Qq1 _) ?_)));apply ai<;>intro h56
          ·refine ACalls.of_cwp (fun _=>true) Tryz.func101 rfl rfl ?_;apply ai<;>intro h58
           ·exfalso;have hq:=h32;rw [bne,h58] at hq;exact nomatch hq
           ·refine ⟨_,_,Told.refl,?_⟩;refine ⟨_,_,Told.refl,?_⟩;refine ⟨_,_,Told.refl,?_⟩;refine ACalls.of_cwp (fun _=>true) Tryz.func98 rfl rfl ?_;apply ai<;>intro h60
            ·refine dchk (by kernel_rfl) ?_;(repeat ((first|refine ai rfl ?_|refine ai (fun _=>rfl) ?_)));refine ⟨_,_,Told.refl,?_⟩;obtain rfl:=foll hR (ct h1 (cf h11 (by subst hvbs;exact cf h19 (cf h21 (by subst hvea2;exact ct h32 (by subst hvtw;exact ct h34 (cf h36 (by subst hvtf1;exact (by subst hvjs1;exact ct h56 rfl)))))))));first|exact Q60 (Low.tup' (.cons (State.low _ _) (.cons lw (l1 .nil)))) (Seen.tup (ev (Seen.agg (e1 (ev (Q00) (ev (Q00) (ev (Q00) (ev (Q00) (ev (Q00) (e1 (e1 .nil))))))))) (ev (Q00) (e1 .nil))))|(subst hvbs hvea2 hvtw hvtf1 hvjs1;exact Q60 (Low.tup' (.cons (State.low _ _) (.cons lw (l1 .nil)))) (Seen.tup (ev (Seen.agg (e1 (ev (Q00) (ev (Q00) (ev (Q00) (ev (Q00) (ev (Q00) (e1 (e1 .nil))))))))) (ev (Q00) (e1 .nil)))))
            ·exfalso;exact Bool.noConfusion (h32.symm.trans h60)
          ·refine dchk (by kernel_rfl) ?_;(first|apply u2|apply u3|apply u4|apply us);exact QX1 s.jobs js1.1 Qq1 Qq1 _;generalize hvtp1:Qb1 s.jobs js1.1=tp1;(have qtp:tp1.1.length<=4294967296 ∧ ∀ y ∈ tp1.1,y.sz:=by rw [← hvtp1];exact Q72 ⟨hk0.2.1,hk0.2.2.1⟩ qjs);(repeat ((first|refine ai rfl ?_|refine ai (fun _=>rfl) ?_|refine ai (fun _=>by subst hvtp1;exact QX1 s.jobs js1.1 Qq1 Qq1 _) ?_)));apply ai<;>intro h62
           ·refine ACalls.of_cwp (fun _=>true) Tryz.func101 rfl rfl ?_;apply ai<;>intro h64
            ·exfalso;have hq:=h32;rw [bne,h64] at hq;exact nomatch hq
            ·refine ⟨_,_,Told.refl,?_⟩;refine ⟨_,_,Told.refl,?_⟩;refine ⟨_,_,Told.refl,?_⟩;refine ACalls.of_cwp (fun _=>true) Tryz.func98 rfl rfl ?_;apply ai<;>intro h66
             ·refine dchk (by kernel_rfl) ?_;(repeat ((first|refine ai rfl ?_|refine ai (fun _=>rfl) ?_)));refine ⟨_,_,Told.refl,?_⟩;obtain rfl:=foll hR (ct h1 (cf h11 (by subst hvbs;exact cf h19 (cf h21 (by subst hvea2;exact ct h32 (by subst hvtw;exact ct h34 (cf h36 (by subst hvtf1;exact (by subst hvjs1;exact cf h56 (by subst hvtp1;exact ct h62 rfl))))))))));first|exact Q60 (Low.tup' (.cons (State.low _ _) (.cons lw (l1 .nil)))) (Seen.tup (ev (Seen.agg (e1 (ev (Q00) (ev (Q00) (ev (Q00) (ev (Q00) (ev (Q00) (e1 (e1 .nil))))))))) (ev (Q00) (e1 .nil))))|(subst hvbs hvea2 hvtw hvtf1 hvjs1 hvtp1;exact Q60 (Low.tup' (.cons (State.low _ _) (.cons lw (l1 .nil)))) (Seen.tup (ev (Seen.agg (e1 (ev (Q00) (ev (Q00) (ev (Q00) (ev (Q00) (ev (Q00) (e1 (e1 .nil))))))))) (ev (Q00) (e1 .nil)))))
             ·exfalso;exact Bool.noConfusion (h32.symm.trans h66)
           ·refine ⟨_,_,Told.refl,?_⟩;refine ⟨_,_,Told.refl,?_⟩;refine ACalls.of_cwp (fun _=>true) Tryz.func98 rfl rfl ?_;apply ai<;>intro h68
            ·refine dchk (by kernel_rfl) ?_;(repeat ((first|refine ai rfl ?_|refine ai (fun _=>rfl) ?_)));refine ⟨_,_,Told.refl,?_⟩;obtain rfl:=foll hR (ct h1 (cf h11 (by subst hvbs;exact cf h19 (cf h21 (by subst hvea2;exact ct h32 (by subst hvtw;exact ct h34 (cf h36 (by subst hvtf1;exact (by subst hvjs1;exact cf h56 (by subst hvtp1;exact cf h62 rfl))))))))));first|exact Q60 (Low.tup' (.cons (State.low _ _) (.cons lw (l1 .nil)))) (Seen.tup (ev (Seen.agg (e1 (ev (Q00) (ev (Q00) (ev (Q00) (ev (Q00) (ev (Q00) (e1 (e1 .nil))))))))) (ev (Q00) (e1 .nil))))|(subst hvbs hvea2 hvtw hvtf1 hvjs1 hvtp1;exact Q60 (Low.tup' (.cons (State.low _ _) (.cons lw (l1 .nil)))) (Seen.tup (ev (Seen.agg (e1 (ev (Q00) (ev (Q00) (ev (Q00) (ev (Q00) (ev (Q00) (e1 (e1 .nil))))))))) (ev (Q00) (e1 .nil)))))
            ·exfalso;exact Bool.noConfusion (h32.symm.trans h68)
         ·exfalso;exact Bool.noConfusion (h32.symm.trans h54)
       ·refine ACalls.of_cwp (fun _=>true) Tryz.func98 rfl rfl ?_;apply ai<;>intro h70
        ·refine dchk (by kernel_rfl) ?_;(repeat ((first|refine ai rfl ?_|refine ai (fun _=>rfl) ?_)));refine ⟨_,_,Told.refl,?_⟩;obtain rfl:=foll hR (ct h1 (cf h11 (by subst hvbs;exact cf h19 (cf h21 (by subst hvea2;exact ct h32 (by subst hvtw;exact cf h34 rfl))))));first|exact Q60 (Low.tup' (.cons (State.low _ _) (.cons lw (l1 .nil)))) (Seen.tup (ev (Seen.agg (e1 (ev (Q00) (ev (Q00) (ev (Q00) (ev (Q00) (ev (Q00) (e1 (e1 .nil))))))))) (ev (Q00) (e1 .nil))))|(subst hvbs hvea2 hvtw;exact Q60 (Low.tup' (.cons (State.low _ _) (.cons lw (l1 .nil)))) (Seen.tup (ev (Seen.agg (e1 (ev (Q00) (ev (Q00) (ev (Q00) (ev (Q00) (ev (Q00) (e1 (e1 .nil))))))))) (ev (Q00) (e1 .nil)))))
        ·exfalso;exact Bool.noConfusion (h32.symm.trans h70)
      ·(first|refine ⟨Qd1 32 rfl lnA apA,?_⟩|refine ⟨QB0 32 rfl apA,?_⟩);refine ⟨_,_,Told.refl,?_⟩;refine And.intro (by first|exact fun hg=>yoa (by first|((have hq:=qbs (by assumption);omega))|first|((exact hp0))|first|((intro y hy;rw [List.mem_singleton.1 hy];omega))|exact ckA)|exact gkA) ?_;refine ⟨_,Qf0 rfl rfl rfl (Qo0 zH (bs.1.toNat) (by first|rfl|exact yda _|omega) (by first|((have hq:=qbs (by assumption);omega))|first|((exact hp0))|first|((intro y hy;rw [List.mem_singleton.1 hy];omega))|exact ckA)) rfl,?_⟩;refine And.intro (by first|exact fun hg=>yoa (by first|((have hq:=qbs (by assumption);omega))|first|((exact hp0))|first|((intro y hy;rw [List.mem_singleton.1 hy];omega))|exact ckA)|exact gkA) ?_;refine ⟨_,QV0 rfl rfl rfl rfl (Qo0 zH (bs.1.toNat) (by first|rfl|exact yda _|omega) (by first|((have hq:=qbs (by assumption);omega))|first|((exact hp0))|first|((intro y hy;rw [List.mem_singleton.1 hy];omega))|exact ckA)) rfl rfl (QD7 (bs.1.toNat) { (s.resizes.getD (bs.1.toNat) zH) with said:=(wu64 (BitVec.ofInt 64 (s.resizes.getD (bs.1.toNat) zH).said ||| BitVec.ofInt 64 (QJ1 ([n.node]:List Int)).1).toNat) } (by first|rfl|exact yda _|omega) rfl),?_⟩;generalize hvtw1:s.resizes.set (bs.1.toNat) { (s.resizes.getD (bs.1.toNat) zH) with said:=(wu64 (BitVec.ofInt 64 (s.resizes.getD (bs.1.toNat) zH).said ||| BitVec.ofInt 64 (QJ1 ([n.node]:List Int)).1).toNat) }=tw1;(have qtw:tw1.length=s.resizes.length:=by rw [← hvtw1];exact yWa);refine dchk (by kernel_rfl) ?_;refine And.intro (by first|exact fun hg=>yoa (by first|((have hq:=qbs (by assumption);omega))|first|((exact hp0))|first|((intro y hy;rw [List.mem_singleton.1 hy];omega))|exact ckA)|exact gkA) ?_;refine ⟨_,Qf0 rfl rfl rfl (Qo0 zH (bs.1.toNat) (by first|rfl|exact yda _|omega) (by first|((have hq:=qbs (by assumption);omega))|first|((exact hp0))|first|((intro y hy;rw [List.mem_singleton.1 hy];omega))|exact ckA)) rfl,?_⟩;refine And.intro (by first|exact fun hg=>yoa (by first|((have hq:=qbs (by assumption);omega))|first|((exact hp0))|first|((intro y hy;rw [List.mem_singleton.1 hy];omega))|exact ckA)|exact gkA) ?_;refine ⟨_,Qf0 rfl rfl rfl (Qo0 zH (bs.1.toNat) (by first|rfl|exact yda _|omega) (by first|((have hq:=qbs (by assumption);omega))|first|((exact hp0))|first|((intro y hy;rw [List.mem_singleton.1 hy];omega))|exact ckA)) rfl,?_⟩;(repeat ((first|refine ai rfl ?_|refine ai (fun _=>rfl) ?_|refine And.intro (Qf0 rfl rfl rfl (Qo0 zH (bs.1.toNat) (by first|rfl|exact yda _|omega) (by first|((have hq:=qbs (by assumption);omega))|first|((exact hp0))|first|((intro y hy;rw [List.mem_singleton.1 hy];omega))|exact ckA)) rfl) ?_|refine And.intro (Qf0 rfl rfl rfl (Qo0 zH (bs.1.toNat) (by first|rfl|exact yda _|omega) (by first|((have hq:=qbs (by assumption);omega))|first|((exact hp0))|first|((intro y hy;rw [List.mem_singleton.1 hy];omega))|exact ckA)) rfl) ?_)));apply ai<;>intro h72
       ·refine ACalls.of_cwp (fun _=>true) Tryz.func105 rfl rfl ?_;refine ACalls.of_cwp (fun _=>true) Tryz.func155 rfl rfl ?_;refine And.intro (by first|exact fun hg=>yoa (by first|((have hq:=qbs (by assumption);omega))|first|((exact hp0))|first|((intro y hy;rw [List.mem_singleton.1 hy];omega))|exact ckA)|exact gkA) ?_;refine ⟨_,Qf0 rfl rfl rfl (Qo0 zH (bs.1.toNat) (by first|rfl|exact yda _|omega) (by first|((have hq:=qbs (by assumption);omega))|first|((exact hp0))|first|((intro y hy;rw [List.mem_singleton.1 hy];omega))|exact ckA)) rfl,?_⟩;refine us (mv [4] (QK8 tw1 bs.1 (w64 (bs.1+1)) Qq1 (by (have hq:=qbs (by assumption);rw [hq.2.2];omega))) (dO (dr eqA) .nil) (dv (QP3 rfl lnA) (d1 (d1 .nil))) (rO rr .nil) (rw_ 9 0 rfl)) ?_;refine ⟨_,_,Told.refl,?_⟩;apply ai<;>intro h74
        ·refine ACalls.of_cwp (fun _=>true) Tryz.func104 rfl rfl ?_;refine ai (fun h=>nomatch h) (fun _=>?_);refine dchk (by kernel_rfl) ?_;(first|apply u2|apply u3|apply u4|apply us);exact Qj1 ea2.1 ((tw1.getD (bs.1.toNat) zH).nodes) 3 0 s.now Qq1 _;generalize hvea3:Qp0 ea2.1 ((tw1.getD (bs.1.toNat) zH).nodes) 3 0 s.now=ea3;(have qea:ea3.1.length<=4294967296∧ea3.2.1.length<=64:=by rw [← hvea3];first|exact ⟨yea (QM1 _ _ _ _ _).1 hk0.1,(QM1 _ _ _ _ _).2⟩|exact ⟨yea (QM1 _ _ _ _ _).1 qea.1,(QM1 _ _ _ _ _).2⟩);(repeat ((first|refine ai rfl ?_|refine ai (fun _=>rfl) ?_|refine ai (fun _=>by subst hvea3;exact Qj1 ea2.1 ((tw1.getD (bs.1.toNat) zH).nodes) 3 0 s.now Qq1 _) ?_)));apply ai<;>intro h76
         ·refine ACalls.of_cwp (fun _=>true) Tryz.func101 rfl rfl ?_;refine ai (fun _=>?_) (fun h=>nomatch h);refine ⟨_,_,Told.refl,?_⟩;refine ⟨_,_,Told.refl,?_⟩;refine ACalls.of_cwp (fun _=>true) Tryz.func158 rfl rfl ?_;refine us (QW1 s.jobs ((tw1.getD (bs.1.toNat) zH).job) Qq1 _) ?_;generalize hvtf2:Q70 s.jobs ((tw1.getD (bs.1.toNat) zH).job)=tf2;(have qtf:tf2.1.sz:=by rw [← hvtf2];exact QG2 hk0.2.2.1 _);refine dchk (by kernel_rfl) ?_;refine u4 (r:=U (wu64 (BitVec.ofInt 64 tf2.1.nodes ||| BitVec.ofInt 64 (tw1.getD (bs.1.toNat) zH).nodes).toNat)) (agC (ACalls.of_cwp (fun _=>true) Tryz.func157 rfl rfl ?_)) ?_
          ·exact ⟨_,_,Told.refl,rfl,rfl⟩
          (first|apply u2|apply u3|apply u4|apply us);exact Qj3 tf2.1 (wu64 (BitVec.ofInt 64 tf2.1.nodes ||| BitVec.ofInt 64 (tw1.getD (bs.1.toNat) zH).nodes).toNat) Qq1 _;generalize hvjs2:QC2 tf2.1 (wu64 (BitVec.ofInt 64 tf2.1.nodes ||| BitVec.ofInt 64 (tw1.getD (bs.1.toNat) zH).nodes).toNat)=js2;(have qjs:js2.1.sz:=by rw [← hvjs2];exact Qb9 qtf _);(repeat ((first|refine ai rfl ?_|refine ai (fun _=>rfl) ?_|(refine ai (fun _=>agC (ACalls.of_cwp (fun _=>true) Tryz.func157 rfl rfl ?_)) ?_;focus ((conv=>whnf);exact ⟨_,_,Told.refl,rfl,rfl⟩))|refine ai (fun _=>by subst hvjs2;exact Qj3 tf2.1 (wu64 (BitVec.ofInt 64 tf2.1.nodes ||| BitVec.ofInt 64 (tw1.getD (bs.1.toNat) zH).nodes).toNat) Qq1 _) ?_)));apply ai<;>intro h78
          ·refine ACalls.of_cwp (fun _=>true) Tryz.func101 rfl rfl ?_;apply ai<;>intro h80
           ·exfalso;have hq:=h76;rw [bne,h80] at hq;exact nomatch hq
           ·refine ⟨_,_,Told.refl,?_⟩;refine ⟨_,_,Told.refl,?_⟩;refine ⟨_,_,Told.refl,?_⟩;refine ACalls.of_cwp (fun _=>true) Tryz.func98 rfl rfl ?_;apply ai<;>intro h82
            ·refine dchk (by kernel_rfl) ?_;(repeat ((first|refine ai rfl ?_|refine ai (fun _=>rfl) ?_)));refine ⟨_,_,Told.refl,?_⟩;obtain rfl:=foll hR (ct h1 (cf h11 (by subst hvbs;exact cf h19 (cf h21 (by subst hvea2;exact cf h33 (by subst hvtw1;exact ct h72 (ct h74 (by subst hvea3;exact ct h76 (by subst hvtf2;exact (by subst hvjs2;exact ct h78 rfl))))))))));first|exact Q60 (Low.tup' (.cons (State.low _ _) (.cons lw (l1 .nil)))) (Seen.tup (ev (Seen.agg (e1 (ev (Q00) (ev (Q00) (ev (Q00) (ev (Q00) (ev (Q00) (e1 (e1 .nil))))))))) (ev (Q00) (e1 .nil))))|(subst hvbs hvea2 hvtw1 hvea3 hvtf2 hvjs2;exact Q60 (Low.tup' (.cons (State.low _ _) (.cons lw (l1 .nil)))) (Seen.tup (ev (Seen.agg (e1 (ev (Q00) (ev (Q00) (ev (Q00) (ev (Q00) (ev (Q00) (e1 (e1 .nil))))))))) (ev (Q00) (e1 .nil)))))
            ·exfalso;exact Bool.noConfusion (h76.symm.trans h82)
          ·refine dchk (by kernel_rfl) ?_;(first|apply u2|apply u3|apply u4|apply us);exact QX1 s.jobs js2.1 Qq1 Qq1 _;generalize hvtp2:Qb1 s.jobs js2.1=tp2;(have qtp:tp2.1.length<=4294967296 ∧ ∀ y ∈ tp2.1,y.sz:=by rw [← hvtp2];exact Q72 ⟨hk0.2.1,hk0.2.2.1⟩ qjs);(repeat ((first|refine ai rfl ?_|refine ai (fun _=>rfl) ?_|refine ai (fun _=>by subst hvtp2;exact QX1 s.jobs js2.1 Qq1 Qq1 _) ?_)));apply ai<;>intro h84
           ·refine ACalls.of_cwp (fun _=>true) Tryz.func101 rfl rfl ?_;apply ai<;>intro h86
            ·exfalso;have hq:=h76;rw [bne,h86] at hq;exact nomatch hq
            ·refine ⟨_,_,Told.refl,?_⟩;refine ⟨_,_,Told.refl,?_⟩;refine ⟨_,_,Told.refl,?_⟩;refine ACalls.of_cwp (fun _=>true) Tryz.func98 rfl rfl ?_;apply ai<;>intro h88
             ·refine dchk (by kernel_rfl) ?_;(repeat ((first|refine ai rfl ?_|refine ai (fun _=>rfl) ?_)));refine ⟨_,_,Told.refl,?_⟩;obtain rfl:=foll hR (ct h1 (cf h11 (by subst hvbs;exact cf h19 (cf h21 (by subst hvea2;exact cf h33 (by subst hvtw1;exact ct h72 (ct h74 (by subst hvea3;exact ct h76 (by subst hvtf2;exact (by subst hvjs2;exact cf h78 (by subst hvtp2;exact ct h84 rfl)))))))))));first|exact Q60 (Low.tup' (.cons (State.low _ _) (.cons lw (l1 .nil)))) (Seen.tup (ev (Seen.agg (e1 (ev (Q00) (ev (Q00) (ev (Q00) (ev (Q00) (ev (Q00) (e1 (e1 .nil))))))))) (ev (Q00) (e1 .nil))))|(subst hvbs hvea2 hvtw1 hvea3 hvtf2 hvjs2 hvtp2;exact Q60 (Low.tup' (.cons (State.low _ _) (.cons lw (l1 .nil)))) (Seen.tup (ev (Seen.agg (e1 (ev (Q00) (ev (Q00) (ev (Q00) (ev (Q00) (ev (Q00) (e1 (e1 .nil))))))))) (ev (Q00) (e1 .nil)))))
             ·exfalso;exact Bool.noConfusion (h76.symm.trans h88)
           ·refine ⟨_,_,Told.refl,?_⟩;refine ⟨_,_,Told.refl,?_⟩;refine ACalls.of_cwp (fun _=>true) Tryz.func98 rfl rfl ?_;apply ai<;>intro h90
            ·refine dchk (by kernel_rfl) ?_;(repeat ((first|refine ai rfl ?_|refine ai (fun _=>rfl) ?_)));refine ⟨_,_,Told.refl,?_⟩;obtain rfl:=foll hR (ct h1 (cf h11 (by subst hvbs;exact cf h19 (cf h21 (by subst hvea2;exact cf h33 (by subst hvtw1;exact ct h72 (ct h74 (by subst hvea3;exact ct h76 (by subst hvtf2;exact (by subst hvjs2;exact cf h78 (by subst hvtp2;exact cf h84 rfl)))))))))));first|exact Q60 (Low.tup' (.cons (State.low _ _) (.cons lw (l1 .nil)))) (Seen.tup (ev (Seen.agg (e1 (ev (Q00) (ev (Q00) (ev (Q00) (ev (Q00) (ev (Q00) (e1 (e1 .nil))))))))) (ev (Q00) (e1 .nil))))|(subst hvbs hvea2 hvtw1 hvea3 hvtf2 hvjs2 hvtp2;exact Q60 (Low.tup' (.cons (State.low _ _) (.cons lw (l1 .nil)))) (Seen.tup (ev (Seen.agg (e1 (ev (Q00) (ev (Q00) (ev (Q00) (ev (Q00) (ev (Q00) (e1 (e1 .nil))))))))) (ev (Q00) (e1 .nil)))))
            ·exfalso;exact Bool.noConfusion (h76.symm.trans h90)
         ·(first|refine ⟨Qd1 32 rfl lnA apA,?_⟩|refine ⟨QB0 32 rfl apA,?_⟩);refine ⟨_,_,Told.refl,?_⟩;refine ACalls.of_cwp (fun _=>true) Tryz.func158 rfl rfl ?_;refine us (QW1 s.jobs ((tw1.getD (bs.1.toNat) zH).job) Qq1 _) ?_;generalize hvtf3:Q70 s.jobs ((tw1.getD (bs.1.toNat) zH).job)=tf3;(have qtf:tf3.1.sz:=by rw [← hvtf3];exact QG2 hk0.2.2.1 _);refine dchk (by kernel_rfl) ?_;refine u4 (r:=U (wu64 (BitVec.ofInt 64 tf3.1.nodes ||| BitVec.ofInt 64 (tw1.getD (bs.1.toNat) zH).nodes).toNat)) (agC (ACalls.of_cwp (fun _=>true) Tryz.func157 rfl rfl ?_)) ?_
          ·exact ⟨_,_,Told.refl,rfl,rfl⟩
          (first|apply u2|apply u3|apply u4|apply us);exact Qj3 tf3.1 (wu64 (BitVec.ofInt 64 tf3.1.nodes ||| BitVec.ofInt 64 (tw1.getD (bs.1.toNat) zH).nodes).toNat) Qq1 _;generalize hvjs3:QC2 tf3.1 (wu64 (BitVec.ofInt 64 tf3.1.nodes ||| BitVec.ofInt 64 (tw1.getD (bs.1.toNat) zH).nodes).toNat)=js3;(have qjs:js3.1.sz:=by rw [← hvjs3];exact Qb9 qtf _);(repeat ((first|refine ai rfl ?_|refine ai (fun _=>rfl) ?_|(refine ai (fun _=>agC (ACalls.of_cwp (fun _=>true) Tryz.func157 rfl rfl ?_)) ?_;focus ((conv=>whnf);exact ⟨_,_,Told.refl,rfl,rfl⟩))|refine ai (fun _=>by subst hvjs3;exact Qj3 tf3.1 (wu64 (BitVec.ofInt 64 tf3.1.nodes ||| BitVec.ofInt 64 (tw1.getD (bs.1.toNat) zH).nodes).toNat) Qq1 _) ?_)));apply ai<;>intro h92
          ·refine ACalls.of_cwp (fun _=>true) Tryz.func101 rfl rfl ?_;refine ai (fun _=>?_) (fun h=>nomatch h);refine ⟨_,_,Told.refl,?_⟩;refine ⟨_,_,Told.refl,?_⟩;refine ⟨_,_,Told.refl,?_⟩;refine ACalls.of_cwp (fun _=>true) Tryz.func98 rfl rfl ?_;apply ai<;>intro h94
           ·refine dchk (by kernel_rfl) ?_;(repeat ((first|refine ai rfl ?_|refine ai (fun _=>rfl) ?_)));refine ⟨_,_,Told.refl,?_⟩;obtain rfl:=foll hR (ct h1 (cf h11 (by subst hvbs;exact cf h19 (cf h21 (by subst hvea2;exact cf h33 (by subst hvtw1;exact ct h72 (ct h74 (by subst hvea3;exact cf h76 (by subst hvtf3;exact (by subst hvjs3;exact ct h92 rfl))))))))));first|exact Q60 (Low.tup' (.cons (State.low _ _) (.cons lw (l1 .nil)))) (Seen.tup (ev (Seen.agg (e1 (ev (Q00) (ev (Q00) (ev (Q00) (ev (Q00) (ev (Q00) (e1 (e1 .nil))))))))) (ev (Q00) (e1 .nil))))|(subst hvbs hvea2 hvtw1 hvea3 hvtf3 hvjs3;exact Q60 (Low.tup' (.cons (State.low _ _) (.cons lw (l1 .nil)))) (Seen.tup (ev (Seen.agg (e1 (ev (Q00) (ev (Q00) (ev (Q00) (ev (Q00) (ev (Q00) (e1 (e1 .nil))))))))) (ev (Q00) (e1 .nil)))))
           ·exfalso;exact Bool.noConfusion (h92.symm.trans h94)
          ·refine dchk (by kernel_rfl) ?_;(first|apply u2|apply u3|apply u4|apply us);exact QX1 s.jobs js3.1 Qq1 Qq1 _;generalize hvtp3:Qb1 s.jobs js3.1=tp3;(have qtp:tp3.1.length<=4294967296 ∧ ∀ y ∈ tp3.1,y.sz:=by rw [← hvtp3];exact Q72 ⟨hk0.2.1,hk0.2.2.1⟩ qjs);(repeat ((first|refine ai rfl ?_|refine ai (fun _=>rfl) ?_|refine ai (fun _=>by subst hvtp3;exact QX1 s.jobs js3.1 Qq1 Qq1 _) ?_)));apply ai<;>intro h96
           ·refine ACalls.of_cwp (fun _=>true) Tryz.func101 rfl rfl ?_;refine ai (fun _=>?_) (fun h=>nomatch h);refine ⟨_,_,Told.refl,?_⟩;refine ⟨_,_,Told.refl,?_⟩;refine ⟨_,_,Told.refl,?_⟩;refine ACalls.of_cwp (fun _=>true) Tryz.func98 rfl rfl ?_;apply ai<;>intro h98
            ·refine dchk (by kernel_rfl) ?_;(repeat ((first|refine ai rfl ?_|refine ai (fun _=>rfl) ?_)));refine ⟨_,_,Told.refl,?_⟩;obtain rfl:=foll hR (ct h1 (cf h11 (by subst hvbs;exact cf h19 (cf h21 (by subst hvea2;exact cf h33 (by subst hvtw1;exact ct h72 (ct h74 (by subst hvea3;exact cf h76 (by subst hvtf3;exact (by subst hvjs3;exact cf h92 (by subst hvtp3;exact ct h96 rfl)))))))))));first|exact Q60 (Low.tup' (.cons (State.low _ _) (.cons lw (l1 .nil)))) (Seen.tup (ev (Seen.agg (e1 (ev (Q00) (ev (Q00) (ev (Q00) (ev (Q00) (ev (Q00) (e1 (e1 .nil))))))))) (ev (Q00) (e1 .nil))))|(subst hvbs hvea2 hvtw1 hvea3 hvtf3 hvjs3 hvtp3;exact Q60 (Low.tup' (.cons (State.low _ _) (.cons lw (l1 .nil)))) (Seen.tup (ev (Seen.agg (e1 (ev (Q00) (ev (Q00) (ev (Q00) (ev (Q00) (ev (Q00) (e1 (e1 .nil))))))))) (ev (Q00) (e1 .nil)))))
            ·exfalso;exact Bool.noConfusion (h96.symm.trans h98)
           ·refine ⟨_,_,Told.refl,?_⟩;refine ⟨_,_,Told.refl,?_⟩;refine ACalls.of_cwp (fun _=>true) Tryz.func98 rfl rfl ?_;refine ai (fun h=>nomatch h) (fun _=>?_);refine dchk (by kernel_rfl) ?_;(repeat ((first|refine ai rfl ?_|refine ai (fun _=>rfl) ?_)));refine ⟨_,_,Told.refl,?_⟩;obtain rfl:=foll hR (ct h1 (cf h11 (by subst hvbs;exact cf h19 (cf h21 (by subst hvea2;exact cf h33 (by subst hvtw1;exact ct h72 (ct h74 (by subst hvea3;exact cf h76 (by subst hvtf3;exact (by subst hvjs3;exact cf h92 (by subst hvtp3;exact cf h96 rfl)))))))))));first|exact Q60 (Low.tup' (.cons (State.low _ _) (.cons lw (l1 .nil)))) (Seen.tup (ev (Seen.agg (e1 (e1 (e1 (ev (Qa0 zH _ rfl eqA lnA) (e1 (e1 (e1 (e1 .nil))))))))) (ev (Qa0 zL _ rfl eqA lnA) (e1 .nil))))|(subst hvbs hvea2 hvtw1 hvea3 hvtf3 hvjs3 hvtp3;exact Q60 (Low.tup' (.cons (State.low _ _) (.cons lw (l1 .nil)))) (Seen.tup (ev (Seen.agg (e1 (e1 (e1 (ev (Qa0 zH _ rfl eqA lnA) (e1 (e1 (e1 (e1 .nil))))))))) (ev (Qa0 zL _ rfl eqA lnA) (e1 .nil)))))
        ·refine ACalls.of_cwp (fun _=>true) Tryz.func104 rfl rfl ?_;refine ai (fun h=>nomatch h) (fun _=>?_);refine dchk (by kernel_rfl) ?_;(first|apply u2|apply u3|apply u4|apply us);exact Qj1 ea2.1 ((tw1.getD (bs.1.toNat) zH).nodes) 7 0 s.now Qq1 _;generalize hvea4:Qp0 ea2.1 ((tw1.getD (bs.1.toNat) zH).nodes) 7 0 s.now=ea4;(have qea:ea4.1.length<=4294967296∧ea4.2.1.length<=64:=by rw [← hvea4];first|exact ⟨yea (QM1 _ _ _ _ _).1 hk0.1,(QM1 _ _ _ _ _).2⟩|exact ⟨yea (QM1 _ _ _ _ _).1 qea.1,(QM1 _ _ _ _ _).2⟩);(repeat ((first|refine ai rfl ?_|refine ai (fun _=>rfl) ?_|refine ai (fun _=>by subst hvea4;exact Qj1 ea2.1 ((tw1.getD (bs.1.toNat) zH).nodes) 7 0 s.now Qq1 _) ?_)));apply ai<;>intro h100
         ·refine ACalls.of_cwp (fun _=>true) Tryz.func101 rfl rfl ?_;refine ai (fun _=>?_) (fun h=>nomatch h);refine ⟨_,_,Told.refl,?_⟩;refine ⟨_,_,Told.refl,?_⟩;refine ACalls.of_cwp (fun _=>true) Tryz.func158 rfl rfl ?_;refine us (QW1 s.jobs ((tw1.getD (bs.1.toNat) zH).job) Qq1 _) ?_;generalize hvtf4:Q70 s.jobs ((tw1.getD (bs.1.toNat) zH).job)=tf4;(have qtf:tf4.1.sz:=by rw [← hvtf4];exact QG2 hk0.2.2.1 _);refine dchk (by kernel_rfl) ?_;refine u4 (r:=U (wu64 (BitVec.ofInt 64 tf4.1.nodes &&& ~~~(BitVec.ofInt 64 (tw1.getD (bs.1.toNat) zH).nodes)).toNat)) (agC (ACalls.of_cwp (fun _=>true) Tryz.func156 rfl rfl ?_)) ?_
          ·exact ⟨_,_,Told.refl,rfl,rfl⟩
          (first|apply u2|apply u3|apply u4|apply us);exact Qj3 tf4.1 (wu64 (BitVec.ofInt 64 tf4.1.nodes &&& ~~~(BitVec.ofInt 64 (tw1.getD (bs.1.toNat) zH).nodes)).toNat) Qq1 _;generalize hvjs4:QC2 tf4.1 (wu64 (BitVec.ofInt 64 tf4.1.nodes &&& ~~~(BitVec.ofInt 64 (tw1.getD (bs.1.toNat) zH).nodes)).toNat)=js4;(have qjs:js4.1.sz:=by rw [← hvjs4];exact Qb9 qtf _);(repeat ((first|refine ai rfl ?_|refine ai (fun _=>rfl) ?_|(refine ai (fun _=>agC (ACalls.of_cwp (fun _=>true) Tryz.func156 rfl rfl ?_)) ?_;focus ((conv=>whnf);exact ⟨_,_,Told.refl,rfl,rfl⟩))|refine ai (fun _=>by subst hvjs4;exact Qj3 tf4.1 (wu64 (BitVec.ofInt 64 tf4.1.nodes &&& ~~~(BitVec.ofInt 64 (tw1.getD (bs.1.toNat) zH).nodes)).toNat) Qq1 _) ?_)));apply ai<;>intro h102
          ·refine ACalls.of_cwp (fun _=>true) Tryz.func101 rfl rfl ?_;apply ai<;>intro h104
           ·exfalso;have hq:=h100;rw [bne,h104] at hq;exact nomatch hq
           ·refine ⟨_,_,Told.refl,?_⟩;refine ⟨_,_,Told.refl,?_⟩;refine ⟨_,_,Told.refl,?_⟩;refine ACalls.of_cwp (fun _=>true) Tryz.func98 rfl rfl ?_;apply ai<;>intro h106
            ·refine dchk (by kernel_rfl) ?_;(repeat ((first|refine ai rfl ?_|refine ai (fun _=>rfl) ?_)));refine ⟨_,_,Told.refl,?_⟩;obtain rfl:=foll hR (ct h1 (cf h11 (by subst hvbs;exact cf h19 (cf h21 (by subst hvea2;exact cf h33 (by subst hvtw1;exact ct h72 (cf h74 (by subst hvea4;exact ct h100 (by subst hvtf4;exact (by subst hvjs4;exact ct h102 rfl))))))))));first|exact Q60 (Low.tup' (.cons (State.low _ _) (.cons lw (l1 .nil)))) (Seen.tup (ev (Seen.agg (e1 (ev (Q00) (ev (Q00) (ev (Q00) (ev (Q00) (ev (Q00) (e1 (e1 .nil))))))))) (ev (Q00) (e1 .nil))))|(subst hvbs hvea2 hvtw1 hvea4 hvtf4 hvjs4;exact Q60 (Low.tup' (.cons (State.low _ _) (.cons lw (l1 .nil)))) (Seen.tup (ev (Seen.agg (e1 (ev (Q00) (ev (Q00) (ev (Q00) (ev (Q00) (ev (Q00) (e1 (e1 .nil))))))))) (ev (Q00) (e1 .nil)))))
            ·exfalso;exact Bool.noConfusion (h100.symm.trans h106)
          ·refine dchk (by kernel_rfl) ?_;(first|apply u2|apply u3|apply u4|apply us);exact QX1 s.jobs js4.1 Qq1 Qq1 _;generalize hvtp4:Qb1 s.jobs js4.1=tp4;(have qtp:tp4.1.length<=4294967296 ∧ ∀ y ∈ tp4.1,y.sz:=by rw [← hvtp4];exact Q72 ⟨hk0.2.1,hk0.2.2.1⟩ qjs);(repeat ((first|refine ai rfl ?_|refine ai (fun _=>rfl) ?_|refine ai (fun _=>by subst hvtp4;exact QX1 s.jobs js4.1 Qq1 Qq1 _) ?_)));apply ai<;>intro h108
           ·refine ACalls.of_cwp (fun _=>true) Tryz.func101 rfl rfl ?_;apply ai<;>intro h110
            ·exfalso;have hq:=h100;rw [bne,h110] at hq;exact nomatch hq
            ·refine ⟨_,_,Told.refl,?_⟩;refine ⟨_,_,Told.refl,?_⟩;refine ⟨_,_,Told.refl,?_⟩;refine ACalls.of_cwp (fun _=>true) Tryz.func98 rfl rfl ?_;apply ai<;>intro h112
             ·refine dchk (by kernel_rfl) ?_;(repeat ((first|refine ai rfl ?_|refine ai (fun _=>rfl) ?_)));refine ⟨_,_,Told.refl,?_⟩;obtain rfl:=foll hR (ct h1 (cf h11 (by subst hvbs;exact cf h19 (cf h21 (by subst hvea2;exact cf h33 (by subst hvtw1;exact ct h72 (cf h74 (by subst hvea4;exact ct h100 (by subst hvtf4;exact (by subst hvjs4;exact cf h102 (by subst hvtp4;exact ct h108 rfl)))))))))));first|exact Q60 (Low.tup' (.cons (State.low _ _) (.cons lw (l1 .nil)))) (Seen.tup (ev (Seen.agg (e1 (ev (Q00) (ev (Q00) (ev (Q00) (ev (Q00) (ev (Q00) (e1 (e1 .nil))))))))) (ev (Q00) (e1 .nil))))|(subst hvbs hvea2 hvtw1 hvea4 hvtf4 hvjs4 hvtp4;exact Q60 (Low.tup' (.cons (State.low _ _) (.cons lw (l1 .nil)))) (Seen.tup (ev (Seen.agg (e1 (ev (Q00) (ev (Q00) (ev (Q00) (ev (Q00) (ev (Q00) (e1 (e1 .nil))))))))) (ev (Q00) (e1 .nil)))))
             ·exfalso;exact Bool.noConfusion (h100.symm.trans h112)
           ·refine ⟨_,_,Told.refl,?_⟩;refine ⟨_,_,Told.refl,?_⟩;refine ACalls.of_cwp (fun _=>true) Tryz.func98 rfl rfl ?_;apply ai<;>intro h114
            ·refine dchk (by kernel_rfl) ?_;(repeat ((first|refine ai rfl ?_|refine ai (fun _=>rfl) ?_)));refine ⟨_,_,Told.refl,?_⟩;obtain rfl:=foll hR (ct h1 (cf h11 (by subst hvbs;exact cf h19 (cf h21 (by subst hvea2;exact cf h33 (by subst hvtw1;exact ct h72 (cf h74 (by subst hvea4;exact ct h100 (by subst hvtf4;exact (by subst hvjs4;exact cf h102 (by subst hvtp4;exact cf h108 rfl)))))))))));first|exact Q60 (Low.tup' (.cons (State.low _ _) (.cons lw (l1 .nil)))) (Seen.tup (ev (Seen.agg (e1 (ev (Q00) (ev (Q00) (ev (Q00) (ev (Q00) (ev (Q00) (e1 (e1 .nil))))))))) (ev (Q00) (e1 .nil))))|(subst hvbs hvea2 hvtw1 hvea4 hvtf4 hvjs4 hvtp4;exact Q60 (Low.tup' (.cons (State.low _ _) (.cons lw (l1 .nil)))) (Seen.tup (ev (Seen.agg (e1 (ev (Q00) (ev (Q00) (ev (Q00) (ev (Q00) (ev (Q00) (e1 (e1 .nil))))))))) (ev (Q00) (e1 .nil)))))
            ·exfalso;exact Bool.noConfusion (h100.symm.trans h114)
         ·(first|refine ⟨Qd1 32 rfl lnA apA,?_⟩|refine ⟨QB0 32 rfl apA,?_⟩);refine ⟨_,_,Told.refl,?_⟩;refine ACalls.of_cwp (fun _=>true) Tryz.func158 rfl rfl ?_;refine us (QW1 s.jobs ((tw1.getD (bs.1.toNat) zH).job) Qq1 _) ?_;generalize hvtf5:Q70 s.jobs ((tw1.getD (bs.1.toNat) zH).job)=tf5;(have qtf:tf5.1.sz:=by rw [← hvtf5];exact QG2 hk0.2.2.1 _);refine dchk (by kernel_rfl) ?_;refine u4 (r:=U (wu64 (BitVec.ofInt 64 tf5.1.nodes &&& ~~~(BitVec.ofInt 64 (tw1.getD (bs.1.toNat) zH).nodes)).toNat)) (agC (ACalls.of_cwp (fun _=>true) Tryz.func156 rfl rfl ?_)) ?_
          ·exact ⟨_,_,Told.refl,rfl,rfl⟩
          (first|apply u2|apply u3|apply u4|apply us);exact Qj3 tf5.1 (wu64 (BitVec.ofInt 64 tf5.1.nodes &&& ~~~(BitVec.ofInt 64 (tw1.getD (bs.1.toNat) zH).nodes)).toNat) Qq1 _;generalize hvjs5:QC2 tf5.1 (wu64 (BitVec.ofInt 64 tf5.1.nodes &&& ~~~(BitVec.ofInt 64 (tw1.getD (bs.1.toNat) zH).nodes)).toNat)=js5;(have qjs:js5.1.sz:=by rw [← hvjs5];exact Qb9 qtf _);(repeat ((first|refine ai rfl ?_|refine ai (fun _=>rfl) ?_|(refine ai (fun _=>agC (ACalls.of_cwp (fun _=>true) Tryz.func156 rfl rfl ?_)) ?_;focus ((conv=>whnf);exact ⟨_,_,Told.refl,rfl,rfl⟩))|refine ai (fun _=>by subst hvjs5;exact Qj3 tf5.1 (wu64 (BitVec.ofInt 64 tf5.1.nodes &&& ~~~(BitVec.ofInt 64 (tw1.getD (bs.1.toNat) zH).nodes)).toNat) Qq1 _) ?_)));apply ai<;>intro h116
          ·refine ACalls.of_cwp (fun _=>true) Tryz.func101 rfl rfl ?_;refine ai (fun _=>?_) (fun h=>nomatch h);refine ⟨_,_,Told.refl,?_⟩;refine ⟨_,_,Told.refl,?_⟩;refine ⟨_,_,Told.refl,?_⟩;refine ACalls.of_cwp (fun _=>true) Tryz.func98 rfl rfl ?_;apply ai<;>intro h118
           ·refine dchk (by kernel_rfl) ?_;(repeat ((first|refine ai rfl ?_|refine ai (fun _=>rfl) ?_)));refine ⟨_,_,Told.refl,?_⟩;obtain rfl:=foll hR (ct h1 (cf h11 (by subst hvbs;exact cf h19 (cf h21 (by subst hvea2;exact cf h33 (by subst hvtw1;exact ct h72 (cf h74 (by subst hvea4;exact cf h100 (by subst hvtf5;exact (by subst hvjs5;exact ct h116 rfl))))))))));first|exact Q60 (Low.tup' (.cons (State.low _ _) (.cons lw (l1 .nil)))) (Seen.tup (ev (Seen.agg (e1 (ev (Q00) (ev (Q00) (ev (Q00) (ev (Q00) (ev (Q00) (e1 (e1 .nil))))))))) (ev (Q00) (e1 .nil))))|(subst hvbs hvea2 hvtw1 hvea4 hvtf5 hvjs5;exact Q60 (Low.tup' (.cons (State.low _ _) (.cons lw (l1 .nil)))) (Seen.tup (ev (Seen.agg (e1 (ev (Q00) (ev (Q00) (ev (Q00) (ev (Q00) (ev (Q00) (e1 (e1 .nil))))))))) (ev (Q00) (e1 .nil)))))
           ·exfalso;exact Bool.noConfusion (h116.symm.trans h118)
          ·refine dchk (by kernel_rfl) ?_;(first|apply u2|apply u3|apply u4|apply us);exact QX1 s.jobs js5.1 Qq1 Qq1 _;generalize hvtp5:Qb1 s.jobs js5.1=tp5;(have qtp:tp5.1.length<=4294967296 ∧ ∀ y ∈ tp5.1,y.sz:=by rw [← hvtp5];exact Q72 ⟨hk0.2.1,hk0.2.2.1⟩ qjs);(repeat ((first|refine ai rfl ?_|refine ai (fun _=>rfl) ?_|refine ai (fun _=>by subst hvtp5;exact QX1 s.jobs js5.1 Qq1 Qq1 _) ?_)));apply ai<;>intro h120
           ·refine ACalls.of_cwp (fun _=>true) Tryz.func101 rfl rfl ?_;refine ai (fun _=>?_) (fun h=>nomatch h);refine ⟨_,_,Told.refl,?_⟩;refine ⟨_,_,Told.refl,?_⟩;refine ⟨_,_,Told.refl,?_⟩;refine ACalls.of_cwp (fun _=>true) Tryz.func98 rfl rfl ?_;apply ai<;>intro h122
            ·refine dchk (by kernel_rfl) ?_;(repeat ((first|refine ai rfl ?_|refine ai (fun _=>rfl) ?_)));refine ⟨_,_,Told.refl,?_⟩;obtain rfl:=foll hR (ct h1 (cf h11 (by subst hvbs;exact cf h19 (cf h21 (by subst hvea2;exact cf h33 (by subst hvtw1;exact ct h72 (cf h74 (by subst hvea4;exact cf h100 (by subst hvtf5;exact (by subst hvjs5;exact cf h116 (by subst hvtp5;exact ct h120 rfl)))))))))));first|exact Q60 (Low.tup' (.cons (State.low _ _) (.cons lw (l1 .nil)))) (Seen.tup (ev (Seen.agg (e1 (ev (Q00) (ev (Q00) (ev (Q00) (ev (Q00) (ev (Q00) (e1 (e1 .nil))))))))) (ev (Q00) (e1 .nil))))|(subst hvbs hvea2 hvtw1 hvea4 hvtf5 hvjs5 hvtp5;exact Q60 (Low.tup' (.cons (State.low _ _) (.cons lw (l1 .nil)))) (Seen.tup (ev (Seen.agg (e1 (ev (Q00) (ev (Q00) (ev (Q00) (ev (Q00) (ev (Q00) (e1 (e1 .nil))))))))) (ev (Q00) (e1 .nil)))))
            ·exfalso;exact Bool.noConfusion (h120.symm.trans h122)
           ·refine ⟨_,_,Told.refl,?_⟩;refine ⟨_,_,Told.refl,?_⟩;refine ACalls.of_cwp (fun _=>true) Tryz.func98 rfl rfl ?_;refine ai (fun h=>nomatch h) (fun _=>?_);refine dchk (by kernel_rfl) ?_;(repeat ((first|refine ai rfl ?_|refine ai (fun _=>rfl) ?_)));refine ⟨_,_,Told.refl,?_⟩;obtain rfl:=foll hR (ct h1 (cf h11 (by subst hvbs;exact cf h19 (cf h21 (by subst hvea2;exact cf h33 (by subst hvtw1;exact ct h72 (cf h74 (by subst hvea4;exact cf h100 (by subst hvtf5;exact (by subst hvjs5;exact cf h116 (by subst hvtp5;exact cf h120 rfl)))))))))));first|exact Q60 (Low.tup' (.cons (State.low _ _) (.cons lw (l1 .nil)))) (Seen.tup (ev (Seen.agg (e1 (e1 (e1 (ev (Qa0 zH _ rfl eqA lnA) (e1 (e1 (e1 (e1 .nil))))))))) (ev (Qa0 zL _ rfl eqA lnA) (e1 .nil))))|(subst hvbs hvea2 hvtw1 hvea4 hvtf5 hvjs5 hvtp5;exact Q60 (Low.tup' (.cons (State.low _ _) (.cons lw (l1 .nil)))) (Seen.tup (ev (Seen.agg (e1 (e1 (e1 (ev (Qa0 zH _ rfl eqA lnA) (e1 (e1 (e1 (e1 .nil))))))))) (ev (Qa0 zL _ rfl eqA lnA) (e1 .nil)))))
       ·refine ACalls.of_cwp (fun _=>true) Tryz.func98 rfl rfl ?_;refine ai (fun h=>nomatch h) (fun _=>?_);refine dchk (by kernel_rfl) ?_;(repeat ((first|refine ai rfl ?_|refine ai (fun _=>rfl) ?_)));refine ⟨_,_,Told.refl,?_⟩;obtain rfl:=foll hR (ct h1 (cf h11 (by subst hvbs;exact cf h19 (cf h21 (by subst hvea2;exact cf h33 (by subst hvtw1;exact cf h72 rfl))))));first|exact Q60 (Low.tup' (.cons (State.low _ _) (.cons lw (l1 .nil)))) (Seen.tup (ev (Seen.agg (e1 (e1 (e1 (ev (Qa0 zH _ rfl eqA lnA) (e1 (e1 (e1 (e1 .nil))))))))) (ev (Qa0 zL _ rfl eqA lnA) (e1 .nil))))|(subst hvbs hvea2 hvtw1;exact Q60 (Low.tup' (.cons (State.low _ _) (.cons lw (l1 .nil)))) (Seen.tup (ev (Seen.agg (e1 (e1 (e1 (ev (Qa0 zH _ rfl eqA lnA) (e1 (e1 (e1 (e1 .nil))))))))) (ev (Qa0 zL _ rfl eqA lnA) (e1 .nil)))))
   ·exfalso;rw [h16] at h1;cases h1
theorem QG9 (n:Int):∀ (m:Nat) (i:Int) (j:Nat) (c:List Out),(Q45 n m i j c).2.2.length<=c.length
 | 0,_,_,_=>yna _
 | m+1,i,j,c=>by
  rw [Q45];simp only [yka];split
  ·split
   ·have:=QG9 n m (w64 (i+1)) (j+1) (c.set (i.toNat) (c.getD j zM))
    rwa [yWa] at this
   ·exact QG9 n m i (j+1) c
  ·exact yia _
theorem QOc (n:Int) (c:Work) (o:List Out):∀ (r:List Out) (i:Nat),(QA2 n c o r i).2.1.length<=o.length
 | [],_=>yia _
 | x :: r,i=>by
  rw [QA2];simp only [yka]
  repeat' first
   | exact yia _
   | exact QOc n c o r (i+1)
   | (show (List.take _ _).length<=_;rw [yAa];exact yea (Nat.min_le_right _ _) (QG9 _ _ _ _ _))
   | split
theorem lose_told {s:State} (h:s.sz) (n:Int):(Q90 s n).2.1.length<=70:=by
 have k1:∀ (e:Int) (c:Work) (o:List Out),o.length<=70->(Qp2 n e c o).2.1.length<=70:=fun e c o hc=>by
  unfold Qp2;simp only [yka]
  repeat' first
   | exact yna _
   | exact yea (QOc _ _ _ _ _) hc
   | split
 have hw:(⟨s,[⟨6,⟨#[]⟩,zL,n,4,false⟩]⟩:Work).sz:=⟨h,yfa rfl,fun y hy=>by rw [List.mem_singleton.1 hy];exact Qc5⟩;unfold Q90;dsimp only;simp only [yka]
 repeat' first
  | exact yna _
  | exact k1 _ _ _ (yea (Qq9 hw _ _).2.1 (yfa rfl))
  | exact k1 _ _ _ (by rw [yma,QX0];exact yea (Nat.add_le_add_left (QA8 h _).2 1) (yfa rfl))
  | exact k1 _ _ _ (yfa rfl)
  | split
theorem Q52 {s:State} (h:s.sz) (id why:Int):(Q50 s id why).2.1.length<=70:=by
 have hw:(⟨s,[]⟩:Work).sz:=⟨h,yna _,fun y hy=>nomatch hy⟩;unfold Q50;simp only [yka]
 repeat' first
  | exact yna _
  | exact yea (Qq9 hw _ _).2.1 (yfa rfl)
  | split
theorem QO1 {s:State} {anew:Bool} (h:s.sz) (he:((Q80 s anew).2.2 != 0)=false):(Q80 s anew).2.1.length<=300000000000:=(deeds_later h he).2.2.2
theorem QA4 {a b c d:Nat} (h1:a<=c) (h2:b<=d) (h:Nat.ble ((c+d)*80) 70368744177664=true):(a+b)*80<=70368744177664∧a+b<=70368744177664:=by
 have:=yfa h;omega
theorem app_some {P:Program} {e:TypeId} {n m k:Nat} (b:Nat) (hb:Qg9 P e=b) (hk:k ≠ 0) (h:m*b<=70368744177664∧m<=70368744177664):(true&&(Nat.beq n 0 || !Nat.beq k 0)&&QHb P e m)=true:=by
 rw [small_of b hb h];cases k with
 | zero=>exact absurd rfl hk
 | succ k =>
  show (true&&(Nat.beq n 0||true)&&true)=true;cases Nat.beq n 0 <;> rfl
def QV2 (s:State) (n:Int):State × (List Out) × Int:=bif ((Q90 s n).2.2 != 0) then (zK,[],(Q90 s n).2.2) else bif ((Q80 (⟨((Q90 s n).1).now,((Q90 s n).1).nodes,((Q90 s n).1).jobs,((Q90 s n).1).resizes,((Q90 s n).1).books,((Q90 s n).1).ledger,((Q90 s n).1).nextJob,((Q90 s n).1).nextBook⟩:State) true).2.2 != 0) then (zK,[],(Q80 (⟨((Q90 s n).1).now,((Q90 s n).1).nodes,((Q90 s n).1).jobs,((Q90 s n).1).resizes,((Q90 s n).1).books,((Q90 s n).1).ledger,((Q90 s n).1).nextJob,((Q90 s n).1).nextBook⟩:State) true).2.2) else ((Q80 (⟨((Q90 s n).1).now,((Q90 s n).1).nodes,((Q90 s n).1).jobs,((Q90 s n).1).resizes,((Q90 s n).1).books,((Q90 s n).1).ledger,((Q90 s n).1).nextJob,((Q90 s n).1).nextBook⟩:State) true).1,((Q90 s n).2.1++(Q80 (⟨((Q90 s n).1).now,((Q90 s n).1).nodes,((Q90 s n).1).jobs,((Q90 s n).1).resizes,((Q90 s n).1).books,((Q90 s n).1).ledger,((Q90 s n).1).nextJob,((Q90 s n).1).nextBook⟩:State) true).2.1),0)
theorem bwHdLose0 {P:Prop} (h:P:=by first|((with_reducible exact hk0))|first|((exact lose_sz hk0 _))|first|((exact settle_sz (lose_sz hk0 _) _))|exact szA):P:=h
theorem Q8e (s:State) (n:Int) (hs0:s.sz):GV 26 [State.a s,I n] (AVal.tup [State.a ((QV2 s n).1),outL ((QV2 s n).2.1),I ((QV2 s n).2.2)]):=by
 generalize hR:QV2 s n=R;refine ga (.cons (State.low _ _) (l1 .nil)) (Low.tup' (.cons (State.low _ _) (.cons lw (l1 .nil)))) (kp 12 [20,30]) Tryz.func26 ?_;have hk0:=hs0;obtain ⟨z5,z6,z7,z8,z9,z10,z11⟩:=hs0;refine us (mv [] (deeds_Lose_p s n bwHdLose0) .nil (dv (Qo3 (Low.agg' (State.lo))) (d1 .nil)) (rO rr .nil) (ren_tup (rv (Ren.low _ (Low.agg' (State.lo))) (.cons _ _ _ _ (rw_ 2 0 rfl) (r1 .nil))))) ?_;apply ai<;>intro h1
 ·obtain rfl:=foll hR (ct h1 rfl);exact Q60 (Low.tup' (.cons (State.low _ _) (.cons lw (l1 .nil)))) (Seen.tup (ev (Seen.agg (e1 (ev (Q00) (ev (Q00) (ev (Q00) (ev (Q00) (ev (Q00) (e1 (e1 .nil))))))))) (ev (Q00) (e1 .nil))))
 ·refine us (QB3 (⟨((Q90 s n).1).now,((Q90 s n).1).nodes,((Q90 s n).1).jobs,((Q90 s n).1).resizes,((Q90 s n).1).books,((Q90 s n).1).ledger,((Q90 s n).1).nextJob,((Q90 s n).1).nextBook⟩:State) true bwHdLose0 _) ?_;apply ai<;>intro h3
  ·obtain rfl:=foll hR (cf h1 (ct h3 rfl));exact Q60 (Low.tup' (.cons (State.low _ _) (.cons lw (l1 .nil)))) (Seen.tup (ev (Seen.agg (e1 (ev (Q00) (ev (Q00) (ev (Q00) (ev (Q00) (ev (Q00) (e1 (e1 .nil))))))))) (ev (Q00) (e1 .nil))))
  ·refine dchk (by kernel_rfl) ?_;(first|refine ⟨Qd1 80 rfl lnA (by first|(exact QA4 (lose_told hk0 n) (by rw [yxa,yOa];exact QO1 (lose_sz hk0 n) (by assumption)) rfl)|(simp;omega)|grind),?_⟩|refine ⟨QB0 80 rfl (by first|(exact QA4 (lose_told hk0 n) (by rw [yxa,yOa];exact QO1 (lose_sz hk0 n) (by assumption)) rfl)|(simp;omega)|grind),?_⟩);(repeat ((first|refine ai rfl ?_|refine ai (fun _=>rfl) ?_)));obtain rfl:=foll hR (cf h1 (cf h3 rfl));exact Q60 (Low.tup' (.cons (State.low _ _) (.cons lw (l1 .nil)))) (Seen.tup (e1 (ev (Qa0 zM _ rfl eqA lnA) (e1 .nil))))
end Go.Proofs.YtgnlcjenoaoffaaGreatDoor
namespace Go.Proofs.YtgnlcjenoaoffaaGreatDoor
set_option linter.unusedSimpArgs false
set_option linter.unusedVariables false
open Go.Fw
theorem del_len (l:List Resize) (i j:Int):(Qi2 l i j).length=min (i.toNat) l.length+(l.length - j.toNat):=by
 unfold Qi2;rw [yma,yAa,yEa]
attribute [local irreducible] Qp0 Q10 Qb1 Q70 QC2 Qi2 QM0 QJ1 Qu5
theorem sz_cond {α:Type} {b:Bool} {x y:State × α} (h1:b=true->x.1.sz) (h2:b=false->y.1.sz):(bif b then x else y).1.sz:=by
 cases b with
 | true=>exact h1 rfl
 | false=>exact h2 rfl
set_option maxHeartbeats 4000000 in
theorem QQ6 {s:State} (h:s.sz) (n:Note):(QD0 s n).1.sz:=by
 have hd:∀ t:List Resize,t.length=s.resizes.length->((Q14 n.job)&&(Q10 s.resizes n.job bsrF).2)=true->(Qi2 t ((Q10 s.resizes n.job bsrF).1) (w64 ((Q10 s.resizes n.job bsrF).1+1))).length<=4294967296:=fun t ht hb=>by
  obtain ⟨b1,b2,b3⟩:=QId (by rw [(Bool.and_eq_true_iff.1 hb).2];rfl) h.2.2.2.1;rw [b3];rw [del_len];have:=h.2.2.2.1;omega
 have hn1:∀ S a:Int,(Qp0 s.nodes S a 0 s.now).1.length<=4294967296:=fun S a=>yea (QM1 _ _ _ _ _).1 h.1
 have hn2:∀ S a S' a':Int,(Qp0 (Qp0 s.nodes S a 0 s.now).1 S' a' 0 s.now).1.length<=4294967296:=fun S a S' a'=>yea (QM1 _ _ _ _ _).1 (hn1 S a)
 have hj:∀ id x:Int,(Qb1 s.jobs (QC2 (Q70 s.jobs id).1 x).1).1.length<=4294967296 ∧ ∀ y ∈ (Qb1 s.jobs (QC2 (Q70 s.jobs id).1 x).1).1,y.sz:=fun id x=>Q72 ⟨h.2.1,h.2.2.1⟩ (Qb9 (QG2 h.2.2.1 id) x)
 unfold QD0;dsimp only
 repeat' refine sz_cond (fun q=>?_) (fun q=>?_)
 all_goals first
  | exact State.szz _
  | exact ⟨hn1 _ _,h.2.1,h.2.2.1,hd _ rfl (by assumption),h.2.2.2.2⟩
  | exact ⟨hn2 _ _ _ _,(hj _ _).1,(hj _ _).2,hd _ (yWa ..) (by assumption),h.2.2.2.2⟩
  | exact ⟨hn1 _ _,h.2.1,h.2.2.1,(show (List.set _ _ _).length<=_ by rw [yWa];exact h.2.2.2.1),h.2.2.2.2⟩
theorem told_cond {α γ:Type} {b:Bool} {k:Nat} {x y:α × List Note × γ} (h1:b=true->x.2.1.length<=k) (h2:b=false->y.2.1.length<=k):(bif b then x else y).2.1.length<=k:=by
 cases b with
 | true=>exact h1 rfl
 | false=>exact h2 rfl
set_option maxHeartbeats 4000000 in
theorem Q41 {s:State} (h:s.sz) (n:Note):(QD0 s n).2.1.length<=128:=by
 have hn:∀ (l:List Node) (S a:Int),(Qp0 l S a 0 s.now).2.1.length<=64:=fun l S a=>(QM1 _ _ _ _ _).2
 unfold QD0;dsimp only
 repeat' refine told_cond (fun q=>?_) (fun q=>?_)
 all_goals first
  | exact yna _
  | exact yea (hn _ _ _) (yfa rfl)
  | (dsimp only;rw [yma];exact Nat.add_le_add (hn _ _ _) (hn _ _ _))
end Go.Proofs.YtgnlcjenoaoffaaGreatDoor
namespace Go.Proofs.YtgnlcjenoaoffaaGreatDoor
set_option linter.unusedSimpArgs false
set_option linter.unusedVariables false
open Go.Fw
set_option maxRecDepth 20000
set_option maxHeartbeats 4000000
attribute [local irreducible] ACalls AMoves
theorem QDa {l:List Node} {n act job now:Int} (h:((Ql0 l n act job now).2 != 0)=false):0<=n∧n<((Ql0 l n act job now).1.length:Int):=by
 have q:=QC3 h;have e:(Ql0 l n act job now).1.length=l.length:=by
  revert h;unfold Ql0;simp only [yka]
  repeat' first
   | (intro h;simp at h;done)
   | (intro _;exact yWa ..)
   | split
  all_goals (intro h;simp_all)
 rw [e];exact q
theorem Qfc {s:State} {n:Note} (h1:((QX3 n != 0)||(QK9 n.kind))=false) (h:(!(QR3 s n))=false):0<=n.node∧n.node<(s.nodes.length:Int):=by
 have a:QX3 n=0:=by simp at h1;exact h1.1
 refine ⟨QL9 a,?_⟩;unfold QR3 at h;rw [yka] at h;split at h
 ·exact nomatch h
 ·rename_i q;simp at q;omega
def QH0 (s:State) (n:Note):State × (List Out) × Int:=bif ((QM0 s)!=0) then (zK,[],(QM0 s)) else bif (((QX3 n)!=0)||(QK9 n.kind)) then (zK,[],230) else bif (!(QR3 s n)) then (s,[],0) else bif (n.kind==7) then bif ((Ql0 s.nodes n.node 4 0 s.now).2 != 0) then (zK,[],(Ql0 s.nodes n.node 4 0 s.now).2) else ({ s with nodes:=(Ql0 s.nodes n.node 4 0 s.now).1 },[],0) else bif (n.kind==14) then ((QV2 s n.node).1,(QV2 s n.node).2.1,(QV2 s n.node).2.2) else bif (n.kind==10) then bif ((Ql0 s.nodes n.node 8 0 s.now).2 != 0) then (zK,[],(Ql0 s.nodes n.node 8 0 s.now).2) else bif ((Q80 { s with nodes:=(Ql0 s.nodes n.node 8 0 s.now).1 } false).2.2 != 0) then (zK,[],(Q80 { s with nodes:=(Ql0 s.nodes n.node 8 0 s.now).1 } false).2.2) else ((Q80 { s with nodes:=(Ql0 s.nodes n.node 8 0 s.now).1 } false).1,(([(⟨6,⟨#[]⟩,zL,n.node,(((Ql0 s.nodes n.node 8 0 s.now).1).getD (n.node.toNat) zF).state,false⟩:Out)]:List Out)++(Q80 { s with nodes:=(Ql0 s.nodes n.node 8 0 s.now).1 } false).2.1),0) else bif (n.kind==13) then bif ((Ql0 s.nodes n.node 11 0 s.now).2 != 0) then (zK,[],(Ql0 s.nodes n.node 11 0 s.now).2) else bif ((Q80 { s with nodes:=(Ql0 s.nodes n.node 11 0 s.now).1 } false).2.2 != 0) then (zK,[],(Q80 { s with nodes:=(Ql0 s.nodes n.node 11 0 s.now).1 } false).2.2) else ((Q80 { s with nodes:=(Ql0 s.nodes n.node 11 0 s.now).1 } false).1,(([(⟨6,⟨#[]⟩,zL,n.node,(((Ql0 s.nodes n.node 11 0 s.now).1).getD (n.node.toNat) zF).state,false⟩:Out)]:List Out)++(Q80 { s with nodes:=(Ql0 s.nodes n.node 11 0 s.now).1 } false).2.1),0) else bif (n.kind==11) then bif ((Q50 s n.job 3).2.2==0) then bif ((Q80 (⟨((Q50 s n.job 3).1).now,((Q50 s n.job 3).1).nodes,((Q50 s n.job 3).1).jobs,((Q50 s n.job 3).1).resizes,((Q50 s n.job 3).1).books,((Q50 s n.job 3).1).ledger,((Q50 s n.job 3).1).nextJob,((Q50 s n.job 3).1).nextBook⟩:State) false).2.2 != 0) then (zK,[],(Q80 (⟨((Q50 s n.job 3).1).now,((Q50 s n.job 3).1).nodes,((Q50 s n.job 3).1).jobs,((Q50 s n.job 3).1).resizes,((Q50 s n.job 3).1).books,((Q50 s n.job 3).1).ledger,((Q50 s n.job 3).1).nextJob,((Q50 s n.job 3).1).nextBook⟩:State) false).2.2) else ((Q80 (⟨((Q50 s n.job 3).1).now,((Q50 s n.job 3).1).nodes,((Q50 s n.job 3).1).jobs,((Q50 s n.job 3).1).resizes,((Q50 s n.job 3).1).books,((Q50 s n.job 3).1).ledger,((Q50 s n.job 3).1).nextJob,((Q50 s n.job 3).1).nextBook⟩:State) false).1,((Q50 s n.job 3).2.1++(Q80 (⟨((Q50 s n.job 3).1).now,((Q50 s n.job 3).1).nodes,((Q50 s n.job 3).1).jobs,((Q50 s n.job 3).1).resizes,((Q50 s n.job 3).1).books,((Q50 s n.job 3).1).ledger,((Q50 s n.job 3).1).nextJob,((Q50 s n.job 3).1).nextBook⟩:State) false).2.1),0) else (zK,[],(Q50 s n.job 3).2.2) else bif (n.kind==12) then bif ((Q50 s n.job 4).2.2==0) then bif ((Q80 (⟨((Q50 s n.job 4).1).now,((Q50 s n.job 4).1).nodes,((Q50 s n.job 4).1).jobs,((Q50 s n.job 4).1).resizes,((Q50 s n.job 4).1).books,((Q50 s n.job 4).1).ledger,((Q50 s n.job 4).1).nextJob,((Q50 s n.job 4).1).nextBook⟩:State) false).2.2 != 0) then (zK,[],(Q80 (⟨((Q50 s n.job 4).1).now,((Q50 s n.job 4).1).nodes,((Q50 s n.job 4).1).jobs,((Q50 s n.job 4).1).resizes,((Q50 s n.job 4).1).books,((Q50 s n.job 4).1).ledger,((Q50 s n.job 4).1).nextJob,((Q50 s n.job 4).1).nextBook⟩:State) false).2.2) else ((Q80 (⟨((Q50 s n.job 4).1).now,((Q50 s n.job 4).1).nodes,((Q50 s n.job 4).1).jobs,((Q50 s n.job 4).1).resizes,((Q50 s n.job 4).1).books,((Q50 s n.job 4).1).ledger,((Q50 s n.job 4).1).nextJob,((Q50 s n.job 4).1).nextBook⟩:State) false).1,((Q50 s n.job 4).2.1++(Q80 (⟨((Q50 s n.job 4).1).now,((Q50 s n.job 4).1).nodes,((Q50 s n.job 4).1).jobs,((Q50 s n.job 4).1).resizes,((Q50 s n.job 4).1).books,((Q50 s n.job 4).1).ledger,((Q50 s n.job 4).1).nextJob,((Q50 s n.job 4).1).nextBook⟩:State) false).2.1),0) else (zK,[],(Q50 s n.job 4).2.2) else bif ((QD0 s n).2.2 != 0) then (zK,[],(QD0 s n).2.2) else bif ((Qn2 ((QD0 s n).1) n.job)!=(Qn2 s n.job)) then bif ((Q80 ((QD0 s n).1) false).2.2 != 0) then (zK,[],(Q80 ((QD0 s n).1) false).2.2) else ((Q80 ((QD0 s n).1) false).1,((([(⟨7,⟨#[]⟩,zL,n.job,(QQ0 (Qn2 ((QD0 s n).1) n.job)),false⟩:Out)]:List Out)++(Q11 ((QD0 s n).2.1)))++(Q80 ((QD0 s n).1) false).2.1),0) else bif ((Q80 ((QD0 s n).1) false).2.2 != 0) then (zK,[],(Q80 ((QD0 s n).1) false).2.2) else ((Q80 ((QD0 s n).1) false).1,((Q11 ((QD0 s n).2.1))++(Q80 ((QD0 s n).1) false).2.1),0)
theorem QP2 {P:Prop} (h:P:=by first|((with_reducible exact hk0))|first|((exact State.szz _))|first|((exact ⟨yea (Ql1 _ _ _ _ _) hk0.1,hk0.2⟩))|first|((exact QF6 hk0 _ _))|first|((exact QQ6 hk0 n))|first|((exact yea (Q41 hk0 n) (yfa rfl)))|exact szA):P:=h
theorem Qc6 (s:State) (n:Note) (hs0:s.sz):GV 10 [State.a s,Note.a n] (AVal.tup [State.a ((QH0 s n).1),outL ((QH0 s n).2.1),I ((QH0 s n).2.2)]):=by
 generalize hR:QH0 s n=R;refine ga (.cons (State.low _ _) (.cons (Note.low _ _) .nil)) (Low.tup' (.cons (State.low _ _) (.cons lw (l1 .nil)))) (kj [3000001] 11 [14,24,29,33,34,43,52,62,72,82,100,108]) Tryz.func10 ?_;have hk0:=hs0;obtain ⟨z61,z62,z63,z64,z65,z66,z67⟩:=hs0;refine scope_dup (keep:=(kj [3000001] 11 [14,24,29,33,34,43,52,62,72,82,100,108])) (l:=0) (by rfl) ?_;refine us (QF2 s QP2 _) ?_;refine ai (fun h1=>?_) (fun h2=>?_)
 ·obtain rfl:=foll hR (ct h1 rfl);exact Q60 (Low.tup' (.cons (State.low _ _) (.cons lw (l1 .nil)))) (Seen.tup (ev (Seen.agg (e1 (ev (Q00) (ev (Q00) (ev (Q00) (ev (Q00) (ev (Q00) (e1 (e1 .nil))))))))) (ev (Q00) (e1 .nil))))
 ·refine us (QJ9 n _) ?_;(first|apply u2|apply u3|apply u4|apply us);exact note_Down_c n.kind _;refine ai (fun h3=>?_) (fun h4=>?_)
  ·obtain rfl:=foll hR (cf h2 (ct h3 rfl));exact Q60 (Low.tup' (.cons (State.low _ _) (.cons lw (l1 .nil)))) (Seen.tup (ev (Seen.agg (e1 (ev (Q00) (ev (Q00) (ev (Q00) (ev (Q00) (ev (Q00) (e1 (e1 .nil))))))))) (ev (Q00) (e1 .nil))))
  ·refine us (QH6 s n QP2 _) ?_;refine ai (fun h5=>?_) (fun h6=>?_)
   ·refine us (QJ5 s QP2 _) ?_;obtain rfl:=foll hR (cf h2 (cf h4 (ct h5 rfl)));exact Q60 (Low.tup' (.cons (State.low _ _) (.cons lw (l1 .nil)))) (Seen.tup (e1 (ev (Q00) (e1 .nil))))
   ·refine ai (fun h7=>?_) (fun h8=>?_)
    ·refine ACalls.of_cwp (fun _=>true) Tryz.func29 rfl rfl ?_;refine us (Q86 s.nodes n.node 4 0 s.now QP2 _) ?_;apply ai<;>intro h9
     ·refine ⟨_,_,Told.refl,?_⟩;obtain rfl:=foll hR (cf h2 (cf h4 (cf h6 (ct h7 (ct h9 rfl)))));exact Q60 (Low.tup' (.cons (State.low _ _) (.cons lw (l1 .nil)))) (Seen.tup (ev (Seen.agg (e1 (ev (Q00) (ev (Q00) (ev (Q00) (ev (Q00) (ev (Q00) (e1 (e1 .nil))))))))) (ev (Q00) (e1 .nil))))
     ·refine us (QJ5 s QP2 _) ?_;refine ai (fun _=>?_) (fun h=>nomatch h);refine ⟨_,_,Told.refl,?_⟩;obtain rfl:=foll hR (cf h2 (cf h4 (cf h6 (ct h7 (cf h9 rfl)))));exact Q60 (Low.tup' (.cons (State.low _ _) (.cons lw (l1 .nil)))) (Seen.tup (e1 (ev (Q00) (e1 .nil))))
    ·refine ai (fun h11=>?_) (fun h12=>?_)
     ·refine us (Q8e s n.node QP2 _) ?_;obtain rfl:=foll hR (cf h2 (cf h4 (cf h6 (cf h8 (ct h11 rfl)))));exact Q60 (Low.tup' (.cons (State.low _ _) (.cons lw (l1 .nil)))) (Seen.tup (e1 (e1 (e1 .nil))))
     ·refine ai (fun h13=>?_) (fun h14=>?_)
      ·refine ACalls.of_cwp (fun _=>true) Tryz.func29 rfl rfl ?_;refine us (Q86 s.nodes n.node 8 0 s.now QP2 _) ?_;refine ai (fun h15=>?_) (fun h16=>?_)
       ·refine ⟨_,_,Told.refl,?_⟩;refine ⟨rfl,?_⟩;apply ai<;>intro h17
        ·exfalso;have hq:=h15;rw [bne,h17] at hq;exact nomatch hq
        ·apply ai<;>intro h19
         ·obtain rfl:=foll hR (cf h2 (cf h4 (cf h6 (cf h8 (cf h12 (ct h13 (ct h15 rfl)))))));exact Q60 (Low.tup' (.cons (State.low _ _) (.cons lw (l1 .nil)))) (Seen.tup (ev (Seen.agg (e1 (ev (Q00) (ev (Q00) (ev (Q00) (ev (Q00) (ev (Q00) (e1 (e1 .nil))))))))) (ev (Q00) (e1 .nil))))
         ·exfalso;exact Bool.noConfusion (h15.symm.trans h19)
       ·refine us (QJ5 s QP2 _) ?_;refine ai (fun h=>nomatch h) (fun _=>?_);refine dchk (by kernel_rfl) ?_;refine And.intro (by first|exact fun hg=>yoa (by first|((exact QDa (by assumption)))|first|((exact Qfc (by assumption) (by assumption)))|exact ckA)|exact gkA) ?_;(repeat ((first|refine ai rfl ?_|refine ai (fun _=>rfl) ?_)));refine ⟨_,_,Told.refl,?_⟩;refine ⟨rfl,?_⟩;refine ai (fun _=>?_) (fun h=>nomatch h);refine us (QB3 { s with nodes:=(Ql0 s.nodes n.node 8 0 s.now).1 } false QP2 _) ?_;apply ai<;>intro h21
        ·obtain rfl:=foll hR (cf h2 (cf h4 (cf h6 (cf h8 (cf h12 (ct h13 (cf h16 (ct h21 rfl))))))));exact Q60 (Low.tup' (.cons (State.low _ _) (.cons lw (l1 .nil)))) (Seen.tup (ev (Seen.agg (e1 (ev (Q00) (ev (Q00) (ev (Q00) (ev (Q00) (ev (Q00) (e1 (e1 .nil))))))))) (ev (Q00) (e1 .nil))))
        ·generalize hT:(Q80 { s with nodes:=(Ql0 s.nodes n.node 8 0 s.now).1 } false).2.1=T;cases T with
         | nil =>
          refine dchk (by kernel_rfl) ?_;refine ai rfl ?_;(repeat ((first|refine ai rfl ?_|refine ai (fun _=>rfl) ?_)));obtain rfl:=foll hR (cf h2 (cf h4 (cf h6 (cf h8 (cf h12 (ct h13 (cf h16 (cf h21 rfl))))))));rw [hT];exact Q60 (Low.tup' (.cons (State.low _ _) (.cons lw (l1 .nil)))) (Seen.tup (e1 (ev (seen_one rfl) (e1 .nil))))
         | cons x T =>
          refine dchk (by kernel_rfl) ?_;refine ai (app_some 80 rfl (by simp) (QA4 (c:=1000) (d:=300000000000) (yfa rfl) (by simp only [yxa,yOa];rw [← hT];exact QO1 (by first|exact QF6 hk0 _ _|exact QQ6 hk0 n|exact ⟨yea (Ql1 _ _ _ _ _) hk0.1,hk0.2⟩) (by assumption)) rfl)) ?_;(repeat ((first|refine ai rfl ?_|refine ai (fun _=>rfl) ?_)));obtain rfl:=foll hR (cf h2 (cf h4 (cf h6 (cf h8 (cf h12 (ct h13 (cf h16 (cf h21 rfl))))))));rw [hT];exact Q60 (Low.tup' (.cons (State.low _ _) (.cons lw (l1 .nil)))) (Seen.tup (e1 (ev (Qa0 zM _ rfl eqA lnA) (e1 .nil))))
      ·apply ai<;>intro h23
       ·refine ACalls.of_cwp (fun _=>true) Tryz.func29 rfl rfl ?_;refine us (Q86 s.nodes n.node 11 0 s.now QP2 _) ?_;refine ai (fun h25=>?_) (fun h26=>?_)
        ·refine ⟨_,_,Told.refl,?_⟩;refine ⟨rfl,?_⟩;apply ai<;>intro h27
         ·exfalso;have hq:=h25;rw [bne,h27] at hq;exact nomatch hq
         ·apply ai<;>intro h29
          ·obtain rfl:=foll hR (cf h2 (cf h4 (cf h6 (cf h8 (cf h12 (cf h14 (ct h23 (ct h25 rfl))))))));exact Q60 (Low.tup' (.cons (State.low _ _) (.cons lw (l1 .nil)))) (Seen.tup (ev (Seen.agg (e1 (ev (Q00) (ev (Q00) (ev (Q00) (ev (Q00) (ev (Q00) (e1 (e1 .nil))))))))) (ev (Q00) (e1 .nil))))
          ·exfalso;exact Bool.noConfusion (h25.symm.trans h29)
        ·refine us (QJ5 s QP2 _) ?_;refine ai (fun h=>nomatch h) (fun _=>?_);refine dchk (by kernel_rfl) ?_;refine And.intro (by first|exact fun hg=>yoa (by first|((exact QDa (by assumption)))|first|((exact Qfc (by assumption) (by assumption)))|exact ckA)|exact gkA) ?_;(repeat ((first|refine ai rfl ?_|refine ai (fun _=>rfl) ?_)));refine ⟨_,_,Told.refl,?_⟩;refine ⟨rfl,?_⟩;refine ai (fun _=>?_) (fun h=>nomatch h);refine us (QB3 { s with nodes:=(Ql0 s.nodes n.node 11 0 s.now).1 } false QP2 _) ?_;apply ai<;>intro h31
         ·obtain rfl:=foll hR (cf h2 (cf h4 (cf h6 (cf h8 (cf h12 (cf h14 (ct h23 (cf h26 (ct h31 rfl)))))))));exact Q60 (Low.tup' (.cons (State.low _ _) (.cons lw (l1 .nil)))) (Seen.tup (ev (Seen.agg (e1 (ev (Q00) (ev (Q00) (ev (Q00) (ev (Q00) (ev (Q00) (e1 (e1 .nil))))))))) (ev (Q00) (e1 .nil))))
         ·generalize hT:(Q80 { s with nodes:=(Ql0 s.nodes n.node 11 0 s.now).1 } false).2.1=T;cases T with
          | nil =>
           refine dchk (by kernel_rfl) ?_;refine ai rfl ?_;(repeat ((first|refine ai rfl ?_|refine ai (fun _=>rfl) ?_)));obtain rfl:=foll hR (cf h2 (cf h4 (cf h6 (cf h8 (cf h12 (cf h14 (ct h23 (cf h26 (cf h31 rfl)))))))));rw [hT];exact Q60 (Low.tup' (.cons (State.low _ _) (.cons lw (l1 .nil)))) (Seen.tup (e1 (ev (seen_one rfl) (e1 .nil))))
          | cons x T =>
           refine dchk (by kernel_rfl) ?_;refine ai (app_some 80 rfl (by simp) (QA4 (c:=1000) (d:=300000000000) (yfa rfl) (by simp only [yxa,yOa];rw [← hT];exact QO1 (by first|exact QF6 hk0 _ _|exact QQ6 hk0 n|exact ⟨yea (Ql1 _ _ _ _ _) hk0.1,hk0.2⟩) (by assumption)) rfl)) ?_;(repeat ((first|refine ai rfl ?_|refine ai (fun _=>rfl) ?_)));obtain rfl:=foll hR (cf h2 (cf h4 (cf h6 (cf h8 (cf h12 (cf h14 (ct h23 (cf h26 (cf h31 rfl)))))))));rw [hT];exact Q60 (Low.tup' (.cons (State.low _ _) (.cons lw (l1 .nil)))) (Seen.tup (e1 (ev (Qa0 zM _ rfl eqA lnA) (e1 .nil))))
       ·apply ai<;>intro h33
        ·refine us (mv [] (QVd s n.job 3 QP2) .nil (dv (Qo3 (Low.agg' (State.lo))) (d1 (d1 .nil))) (rO rr .nil) (ren_tup (rv (Ren.low _ (Low.agg' (State.lo))) (.cons _ _ _ _ (rw_ 4 0 rfl) (r1 .nil))))) ?_;refine ⟨rfl,?_⟩;apply ai<;>intro h35
         ·refine us (QB3 (⟨((Q50 s n.job 3).1).now,((Q50 s n.job 3).1).nodes,((Q50 s n.job 3).1).jobs,((Q50 s n.job 3).1).resizes,((Q50 s n.job 3).1).books,((Q50 s n.job 3).1).ledger,((Q50 s n.job 3).1).nextJob,((Q50 s n.job 3).1).nextBook⟩:State) false QP2 _) ?_;apply ai<;>intro h37
          ·obtain rfl:=foll hR (cf h2 (cf h4 (cf h6 (cf h8 (cf h12 (cf h14 (cf h23 (ct h33 (ct h35 (ct h37 rfl))))))))));exact Q60 (Low.tup' (.cons (State.low _ _) (.cons lw (l1 .nil)))) (Seen.tup (ev (Seen.agg (e1 (ev (Q00) (ev (Q00) (ev (Q00) (ev (Q00) (ev (Q00) (e1 (e1 .nil))))))))) (ev (Q00) (e1 .nil))))
          ·refine dchk (by kernel_rfl) ?_;(first|refine ⟨Qd1 80 rfl lnA (by first|(first|(refine QA4 (c:=1000) (d:=300000000000) ?_ ?_ rfl;(first|exact (yfa rfl:1<=1000)|exact yea (Q52 hk0 _ _) (yfa rfl)|(have q5:=Q41 hk0 n;simp [QX0];omega));(first|(simp only [yxa,yOa];exact QO1 (by first|exact QF6 hk0 _ _|exact QQ6 hk0 n|exact ⟨yea (Ql1 _ _ _ _ _) hk0.1,hk0.2⟩) (by assumption))|(have q5:=Q41 hk0 n;simp [QX0];omega)))|(have q5:=Q41 hk0 n;simp [QX0];omega))|(simp;omega)|grind),?_⟩|refine ⟨QB0 80 rfl (by first|(first|(refine QA4 (c:=1000) (d:=300000000000) ?_ ?_ rfl;(first|exact (yfa rfl:1<=1000)|exact yea (Q52 hk0 _ _) (yfa rfl)|(have q5:=Q41 hk0 n;simp [QX0];omega));(first|(simp only [yxa,yOa];exact QO1 (by first|exact QF6 hk0 _ _|exact QQ6 hk0 n|exact ⟨yea (Ql1 _ _ _ _ _) hk0.1,hk0.2⟩) (by assumption))|(have q5:=Q41 hk0 n;simp [QX0];omega)))|(have q5:=Q41 hk0 n;simp [QX0];omega))|(simp;omega)|grind),?_⟩);(repeat ((first|refine ai rfl ?_|refine ai (fun _=>rfl) ?_)));obtain rfl:=foll hR (cf h2 (cf h4 (cf h6 (cf h8 (cf h12 (cf h14 (cf h23 (ct h33 (ct h35 (cf h37 rfl))))))))));exact Q60 (Low.tup' (.cons (State.low _ _) (.cons lw (l1 .nil)))) (Seen.tup (e1 (ev (Qa0 zM _ rfl eqA lnA) (e1 .nil))))
         ·apply ai<;>intro h39
          ·obtain rfl:=foll hR (cf h2 (cf h4 (cf h6 (cf h8 (cf h12 (cf h14 (cf h23 (ct h33 (cf h35 rfl)))))))));exact Q60 (Low.tup' (.cons (State.low _ _) (.cons lw (l1 .nil)))) (Seen.tup (ev (Seen.agg (e1 (ev (Q00) (ev (Q00) (ev (Q00) (ev (Q00) (ev (Q00) (e1 (e1 .nil))))))))) (ev (Q00) (e1 .nil))))
          ·exfalso;rw [bne,h35] at h39;exact nomatch h39
        ·apply ai<;>intro h41
         ·refine us (mv [] (QVd s n.job 4 QP2) .nil (dv (Qo3 (Low.agg' (State.lo))) (d1 (d1 .nil))) (rO rr .nil) (ren_tup (rv (Ren.low _ (Low.agg' (State.lo))) (.cons _ _ _ _ (rw_ 4 0 rfl) (r1 .nil))))) ?_;refine ⟨rfl,?_⟩;apply ai<;>intro h43
          ·refine us (QB3 (⟨((Q50 s n.job 4).1).now,((Q50 s n.job 4).1).nodes,((Q50 s n.job 4).1).jobs,((Q50 s n.job 4).1).resizes,((Q50 s n.job 4).1).books,((Q50 s n.job 4).1).ledger,((Q50 s n.job 4).1).nextJob,((Q50 s n.job 4).1).nextBook⟩:State) false QP2 _) ?_;apply ai<;>intro h45
           ·obtain rfl:=foll hR (cf h2 (cf h4 (cf h6 (cf h8 (cf h12 (cf h14 (cf h23 (cf h33 (ct h41 (ct h43 (ct h45 rfl)))))))))));exact Q60 (Low.tup' (.cons (State.low _ _) (.cons lw (l1 .nil)))) (Seen.tup (ev (Seen.agg (e1 (ev (Q00) (ev (Q00) (ev (Q00) (ev (Q00) (ev (Q00) (e1 (e1 .nil))))))))) (ev (Q00) (e1 .nil))))
           ·refine dchk (by kernel_rfl) ?_;(first|refine ⟨Qd1 80 rfl lnA (by first|(first|(refine QA4 (c:=1000) (d:=300000000000) ?_ ?_ rfl;(first|exact (yfa rfl:1<=1000)|exact yea (Q52 hk0 _ _) (yfa rfl)|(have q5:=Q41 hk0 n;simp [QX0];omega));(first|(simp only [yxa,yOa];exact QO1 (by first|exact QF6 hk0 _ _|exact QQ6 hk0 n|exact ⟨yea (Ql1 _ _ _ _ _) hk0.1,hk0.2⟩) (by assumption))|(have q5:=Q41 hk0 n;simp [QX0];omega)))|(have q5:=Q41 hk0 n;simp [QX0];omega))|(simp;omega)|grind),?_⟩|refine ⟨QB0 80 rfl (by first|(first|(refine QA4 (c:=1000) (d:=300000000000) ?_ ?_ rfl;(first|exact (yfa rfl:1<=1000)|exact yea (Q52 hk0 _ _) (yfa rfl)|(have q5:=Q41 hk0 n;simp [QX0];omega));(first|(simp only [yxa,yOa];exact QO1 (by first|exact QF6 hk0 _ _|exact QQ6 hk0 n|exact ⟨yea (Ql1 _ _ _ _ _) hk0.1,hk0.2⟩) (by assumption))|(have q5:=Q41 hk0 n;simp [QX0];omega)))|(have q5:=Q41 hk0 n;simp [QX0];omega))|(simp;omega)|grind),?_⟩);(repeat ((first|refine ai rfl ?_|refine ai (fun _=>rfl) ?_)));obtain rfl:=foll hR (cf h2 (cf h4 (cf h6 (cf h8 (cf h12 (cf h14 (cf h23 (cf h33 (ct h41 (ct h43 (cf h45 rfl)))))))))));exact Q60 (Low.tup' (.cons (State.low _ _) (.cons lw (l1 .nil)))) (Seen.tup (e1 (ev (Qa0 zM _ rfl eqA lnA) (e1 .nil))))
          ·apply ai<;>intro h47
           ·obtain rfl:=foll hR (cf h2 (cf h4 (cf h6 (cf h8 (cf h12 (cf h14 (cf h23 (cf h33 (ct h41 (cf h43 rfl))))))))));exact Q60 (Low.tup' (.cons (State.low _ _) (.cons lw (l1 .nil)))) (Seen.tup (ev (Seen.agg (e1 (ev (Q00) (ev (Q00) (ev (Q00) (ev (Q00) (ev (Q00) (e1 (e1 .nil))))))))) (ev (Q00) (e1 .nil))))
           ·exfalso;rw [bne,h43] at h47;exact nomatch h47
         ·refine ACalls.of_cwp (fun _=>true) Tryz.func31 rfl rfl ?_;refine us (resize_Say_c s n QP2 (by first|((exact QDa (by assumption)))|first|((exact Qfc (by assumption) (by assumption)))|exact ckA) _) ?_;apply ai<;>intro h49
          ·refine ⟨_,_,Told.refl,?_⟩;apply ai<;>intro h51
           ·exfalso;have hq:=h49;rw [bne,h51] at hq;exact nomatch hq
           ·apply ai<;>intro h53
            ·obtain rfl:=foll hR (cf h2 (cf h4 (cf h6 (cf h8 (cf h12 (cf h14 (cf h23 (cf h33 (cf h41 (ct h49 rfl))))))))));exact Q60 (Low.tup' (.cons (State.low _ _) (.cons lw (l1 .nil)))) (Seen.tup (ev (Seen.agg (e1 (ev (Q00) (ev (Q00) (ev (Q00) (ev (Q00) (ev (Q00) (e1 (e1 .nil))))))))) (ev (Q00) (e1 .nil))))
            ·exfalso;exact Bool.noConfusion (h49.symm.trans h53)
          ·refine us (Qta ((QD0 s n).1) n.job QP2 _) ?_;refine us (Qta s n.job QP2 _) ?_;apply ai<;>intro h55
           ·refine dchk (by kernel_rfl) ?_;(first|apply u2|apply u3|apply u4|apply us);exact Qy1 (Qn2 ((QD0 s n).1) n.job) _;(first|refine ⟨Qd1 80 rfl lnA (by first|(first|(refine QA4 (c:=1000) (d:=300000000000) ?_ ?_ rfl;(first|exact (yfa rfl:1<=1000)|exact yea (Q52 hk0 _ _) (yfa rfl)|(have q5:=Q41 hk0 n;simp [QX0];omega));(first|(simp only [yxa,yOa];exact QO1 (by first|exact QF6 hk0 _ _|exact QQ6 hk0 n|exact ⟨yea (Ql1 _ _ _ _ _) hk0.1,hk0.2⟩) (by assumption))|(have q5:=Q41 hk0 n;simp [QX0];omega)))|(have q5:=Q41 hk0 n;simp [QX0];omega))|(simp;omega)|grind),?_⟩|refine ⟨QB0 80 rfl (by first|(first|(refine QA4 (c:=1000) (d:=300000000000) ?_ ?_ rfl;(first|exact (yfa rfl:1<=1000)|exact yea (Q52 hk0 _ _) (yfa rfl)|(have q5:=Q41 hk0 n;simp [QX0];omega));(first|(simp only [yxa,yOa];exact QO1 (by first|exact QF6 hk0 _ _|exact QQ6 hk0 n|exact ⟨yea (Ql1 _ _ _ _ _) hk0.1,hk0.2⟩) (by assumption))|(have q5:=Q41 hk0 n;simp [QX0];omega)))|(have q5:=Q41 hk0 n;simp [QX0];omega))|(simp;omega)|grind),?_⟩);(repeat ((first|refine ai rfl ?_|refine ai (fun _=>rfl) ?_|refine ai (fun _=>Qy1 (Qn2 ((QD0 s n).1) n.job) _) ?_)));(try (refine dchk (by kernel_rfl) ?_));(first|apply u2|apply u3|apply u4|apply us);exact QK1 ((QD0 s n).2.1) QP2 _;(first|refine ⟨Qd1 80 rfl lnA (by first|(first|(refine QA4 (c:=1000) (d:=300000000000) ?_ ?_ rfl;(first|exact (yfa rfl:1<=1000)|exact yea (Q52 hk0 _ _) (yfa rfl)|(have q5:=Q41 hk0 n;simp [QX0];omega));(first|(simp only [yxa,yOa];exact QO1 (by first|exact QF6 hk0 _ _|exact QQ6 hk0 n|exact ⟨yea (Ql1 _ _ _ _ _) hk0.1,hk0.2⟩) (by assumption))|(have q5:=Q41 hk0 n;simp [QX0];omega)))|(have q5:=Q41 hk0 n;simp [QX0];omega))|(simp;omega)|grind),?_⟩|refine ⟨QB0 80 rfl (by first|(first|(refine QA4 (c:=1000) (d:=300000000000) ?_ ?_ rfl;(first|exact (yfa rfl:1<=1000)|exact yea (Q52 hk0 _ _) (yfa rfl)|(have q5:=Q41 hk0 n;simp [QX0];omega));(first|(simp only [yxa,yOa];exact QO1 (by first|exact QF6 hk0 _ _|exact QQ6 hk0 n|exact ⟨yea (Ql1 _ _ _ _ _) hk0.1,hk0.2⟩) (by assumption))|(have q5:=Q41 hk0 n;simp [QX0];omega)))|(have q5:=Q41 hk0 n;simp [QX0];omega))|(simp;omega)|grind),?_⟩);(repeat ((first|refine ai rfl ?_|refine ai (fun _=>rfl) ?_|refine ai (fun _=>QK1 ((QD0 s n).2.1) QP2 _) ?_)));refine ⟨_,_,Told.refl,?_⟩;refine ai (fun _=>?_) (fun h=>nomatch h);refine us (QB3 ((QD0 s n).1) false QP2 _) ?_;apply ai<;>intro h57
            ·obtain rfl:=foll hR (cf h2 (cf h4 (cf h6 (cf h8 (cf h12 (cf h14 (cf h23 (cf h33 (cf h41 (cf h49 (ct h55 (ct h57 rfl))))))))))));exact Q60 (Low.tup' (.cons (State.low _ _) (.cons lw (l1 .nil)))) (Seen.tup (ev (Seen.agg (e1 (ev (Q00) (ev (Q00) (ev (Q00) (ev (Q00) (ev (Q00) (e1 (e1 .nil))))))))) (ev (Q00) (e1 .nil))))
            ·refine dchk (by kernel_rfl) ?_;(first|refine ⟨Qd1 80 rfl lnA (by first|(first|(refine QA4 (c:=1000) (d:=300000000000) ?_ ?_ rfl;(first|exact (yfa rfl:1<=1000)|exact yea (Q52 hk0 _ _) (yfa rfl)|(have q5:=Q41 hk0 n;simp [QX0];omega));(first|(simp only [yxa,yOa];exact QO1 (by first|exact QF6 hk0 _ _|exact QQ6 hk0 n|exact ⟨yea (Ql1 _ _ _ _ _) hk0.1,hk0.2⟩) (by assumption))|(have q5:=Q41 hk0 n;simp [QX0];omega)))|(have q5:=Q41 hk0 n;simp [QX0];omega))|(simp;omega)|grind),?_⟩|refine ⟨QB0 80 rfl (by first|(first|(refine QA4 (c:=1000) (d:=300000000000) ?_ ?_ rfl;(first|exact (yfa rfl:1<=1000)|exact yea (Q52 hk0 _ _) (yfa rfl)|(have q5:=Q41 hk0 n;simp [QX0];omega));(first|(simp only [yxa,yOa];exact QO1 (by first|exact QF6 hk0 _ _|exact QQ6 hk0 n|exact ⟨yea (Ql1 _ _ _ _ _) hk0.1,hk0.2⟩) (by assumption))|(have q5:=Q41 hk0 n;simp [QX0];omega)))|(have q5:=Q41 hk0 n;simp [QX0];omega))|(simp;omega)|grind),?_⟩);(repeat ((first|refine ai rfl ?_|refine ai (fun _=>rfl) ?_)));obtain rfl:=foll hR (cf h2 (cf h4 (cf h6 (cf h8 (cf h12 (cf h14 (cf h23 (cf h33 (cf h41 (cf h49 (ct h55 (cf h57 rfl))))))))))));exact Q60 (Low.tup' (.cons (State.low _ _) (.cons lw (l1 .nil)))) (Seen.tup (e1 (ev (Qa0 zM _ rfl eqA lnA) (e1 .nil))))
           ·refine dchk (by kernel_rfl) ?_;(first|apply u2|apply u3|apply u4|apply us);exact QK1 ((QD0 s n).2.1) QP2 _;(first|refine ⟨Qd1 80 rfl lnA (by first|(first|(refine QA4 (c:=1000) (d:=300000000000) ?_ ?_ rfl;(first|exact (yfa rfl:1<=1000)|exact yea (Q52 hk0 _ _) (yfa rfl)|(have q5:=Q41 hk0 n;simp [QX0];omega));(first|(simp only [yxa,yOa];exact QO1 (by first|exact QF6 hk0 _ _|exact QQ6 hk0 n|exact ⟨yea (Ql1 _ _ _ _ _) hk0.1,hk0.2⟩) (by assumption))|(have q5:=Q41 hk0 n;simp [QX0];omega)))|(have q5:=Q41 hk0 n;simp [QX0];omega))|(simp;omega)|grind),?_⟩|refine ⟨QB0 80 rfl (by first|(first|(refine QA4 (c:=1000) (d:=300000000000) ?_ ?_ rfl;(first|exact (yfa rfl:1<=1000)|exact yea (Q52 hk0 _ _) (yfa rfl)|(have q5:=Q41 hk0 n;simp [QX0];omega));(first|(simp only [yxa,yOa];exact QO1 (by first|exact QF6 hk0 _ _|exact QQ6 hk0 n|exact ⟨yea (Ql1 _ _ _ _ _) hk0.1,hk0.2⟩) (by assumption))|(have q5:=Q41 hk0 n;simp [QX0];omega)))|(have q5:=Q41 hk0 n;simp [QX0];omega))|(simp;omega)|grind),?_⟩);(repeat ((first|refine ai rfl ?_|refine ai (fun _=>rfl) ?_|refine ai (fun _=>QK1 ((QD0 s n).2.1) QP2 _) ?_)));refine ⟨_,_,Told.refl,?_⟩;refine ai (fun _=>?_) (fun h=>nomatch h);refine us (QB3 ((QD0 s n).1) false QP2 _) ?_;apply ai<;>intro h59
            ·obtain rfl:=foll hR (cf h2 (cf h4 (cf h6 (cf h8 (cf h12 (cf h14 (cf h23 (cf h33 (cf h41 (cf h49 (cf h55 (ct h59 rfl))))))))))));exact Q60 (Low.tup' (.cons (State.low _ _) (.cons lw (l1 .nil)))) (Seen.tup (ev (Seen.agg (e1 (ev (Q00) (ev (Q00) (ev (Q00) (ev (Q00) (ev (Q00) (e1 (e1 .nil))))))))) (ev (Q00) (e1 .nil))))
            ·refine dchk (by kernel_rfl) ?_;(first|refine ⟨Qd1 80 rfl lnA (by first|(first|(refine QA4 (c:=1000) (d:=300000000000) ?_ ?_ rfl;(first|exact (yfa rfl:1<=1000)|exact yea (Q52 hk0 _ _) (yfa rfl)|(have q5:=Q41 hk0 n;simp [QX0];omega));(first|(simp only [yxa,yOa];exact QO1 (by first|exact QF6 hk0 _ _|exact QQ6 hk0 n|exact ⟨yea (Ql1 _ _ _ _ _) hk0.1,hk0.2⟩) (by assumption))|(have q5:=Q41 hk0 n;simp [QX0];omega)))|(have q5:=Q41 hk0 n;simp [QX0];omega))|(simp;omega)|grind),?_⟩|refine ⟨QB0 80 rfl (by first|(first|(refine QA4 (c:=1000) (d:=300000000000) ?_ ?_ rfl;(first|exact (yfa rfl:1<=1000)|exact yea (Q52 hk0 _ _) (yfa rfl)|(have q5:=Q41 hk0 n;simp [QX0];omega));(first|(simp only [yxa,yOa];exact QO1 (by first|exact QF6 hk0 _ _|exact QQ6 hk0 n|exact ⟨yea (Ql1 _ _ _ _ _) hk0.1,hk0.2⟩) (by assumption))|(have q5:=Q41 hk0 n;simp [QX0];omega)))|(have q5:=Q41 hk0 n;simp [QX0];omega))|(simp;omega)|grind),?_⟩);(repeat ((first|refine ai rfl ?_|refine ai (fun _=>rfl) ?_)));obtain rfl:=foll hR (cf h2 (cf h4 (cf h6 (cf h8 (cf h12 (cf h14 (cf h23 (cf h33 (cf h41 (cf h49 (cf h55 (cf h59 rfl))))))))))));exact Q60 (Low.tup' (.cons (State.low _ _) (.cons lw (l1 .nil)))) (Seen.tup (e1 (ev (Qa0 zM _ rfl eqA lnA) (e1 .nil))))
end Go.Proofs.YtgnlcjenoaoffaaGreatDoor
namespace Go.Proofs.YtgnlcjenoaoffaaGreatDoor
set_option linter.unusedSimpArgs false
set_option linter.unusedVariables false
open Go.Fw
attribute [local irreducible] Q80 Q90 Q50 QD0 Ql0 QM0 QR3 QX3 Qn2 QQ0 Q11
attribute [local irreducible] QV2
end Go.Proofs.YtgnlcjenoaoffaaGreatDoor
namespace Go.Proofs.YtgnlcjenoaoffaaGreatDoor
set_option linter.unusedSimpArgs false
set_option linter.unusedVariables false
open Go.Fw
set_option maxRecDepth 20000
set_option maxHeartbeats 4000000
attribute [local irreducible] ACalls AMoves
theorem going_sz:law31_going.sz:=⟨by decide,by decide,(fun y hy=>nomatch hy),by decide,by decide,by decide,(fun y hy=>nomatch hy)⟩
def QS4 :Bool:=bif ((((((((QH0 law31_going (⟨10,0,5,2⟩:Note)).2.2 != 0)||((QH0 law31_going (⟨10,0,5,1⟩:Note)).2.2 != 0))||((QV2 law31_going 1).2.2 != 0))||((((QH0 law31_going (⟨10,0,5,2⟩:Note)).1.nodes).length:Int)!=2))||((((QV2 law31_going 1).1.nodes).length:Int)!=2))||((((QH0 law31_going (⟨10,0,5,2⟩:Note)).2.1).length:Int)!=1))||((((QV2 law31_going 1).2.1).length:Int)!=1)) then false else (((((((((((QH0 law31_going (⟨10,0,5,2⟩:Note)).1.nodes).getD 0 zF).state==0)&&(((((QH0 law31_going (⟨10,0,5,2⟩:Note)).2.1).getD 0 zM).kind==6)&&(((((QH0 law31_going (⟨10,0,5,2⟩:Note)).2.1).getD 0 zM).text==⟨#[]⟩)&&((((((QH0 law31_going (⟨10,0,5,2⟩:Note)).2.1).getD 0 zM).note.kind==0)&&(((((QH0 law31_going (⟨10,0,5,2⟩:Note)).2.1).getD 0 zM).note.node==0)&&(((((QH0 law31_going (⟨10,0,5,2⟩:Note)).2.1).getD 0 zM).note.job==0)&&((((QH0 law31_going (⟨10,0,5,2⟩:Note)).2.1).getD 0 zM).note.epoch==0))))&&(((((QH0 law31_going (⟨10,0,5,2⟩:Note)).2.1).getD 0 zM).job==0)&&(((((QH0 law31_going (⟨10,0,5,2⟩:Note)).2.1).getD 0 zM).at_==0)&&((((QH0 law31_going (⟨10,0,5,2⟩:Note)).2.1).getD 0 zM).raised==false)))))))&&((((QH0 law31_going (⟨10,0,5,1⟩:Note)).2.1).length:Int)==0))&&(Qoc ((QH0 law31_going (⟨10,0,5,1⟩:Note)).1) law31_going))&&((QH0 law31_going (⟨1,0,5,0⟩:Note)).2.2==230))&&(QR3 law31_going (⟨10,0,5,2⟩:Note)))&&(!(QR3 law31_going (⟨10,0,5,1⟩:Note))))&&((((QV2 law31_going 1).1.nodes).getD 1 zF).state==4))
theorem QJ2 {P:Prop} (h:P:=by first|((exact going_sz))|first|((exact heed_sz going_sz _))|first|((exact hlose_sz going_sz _))|exact szA):P:=h
theorem QR8 :GV 9 [] (Bo QS4):=by
 generalize hR:QS4=R;refine ga .nil lx (kp 15 [75]) Tryz.func9 ?_;refine dchk (by kernel_rfl) ?_;(first|apply u2|apply u3|apply u4|apply us);exact Qd2 _;(first|apply u2|apply u3|apply u4|apply us);exact Qc6 law31_going (⟨10,0,5,2⟩:Note) QJ2 _;(repeat ((first|refine ai rfl ?_|refine ai (fun _=>rfl) ?_|refine ai (fun _=>Qd2 _) ?_|refine ai (fun _=>Qc6 law31_going (⟨10,0,5,2⟩:Note) QJ2 _) ?_)));(try (refine dchk (by kernel_rfl) ?_));(first|apply u2|apply u3|apply u4|apply us);exact Qd2 _;(first|apply u2|apply u3|apply u4|apply us);exact Qc6 law31_going (⟨10,0,5,1⟩:Note) QJ2 _;(repeat ((first|refine ai rfl ?_|refine ai (fun _=>rfl) ?_|refine ai (fun _=>Qd2 _) ?_|refine ai (fun _=>Qc6 law31_going (⟨10,0,5,1⟩:Note) QJ2 _) ?_)));refine us (Qd2 _) ?_;refine us (Qc6 law31_going (⟨1,0,5,0⟩:Note) QJ2 _) ?_;refine us (Qd2 _) ?_;refine us (Q8e law31_going 1 QJ2 _) ?_;refine ai (fun h1=>?_) (fun h2=>?_)
 ·obtain rfl:=foll hR (ct h1 rfl);exact Q60 lx sr
 ·refine dchk (by kernel_rfl) ?_;refine ai gkA ?_;refine ai gkA ?_;refine ai (fun _=>(by kernel_rfl:eqOK _ _=true)) ?_;(first|apply u2|apply u3|apply u4|apply us);exact Qd2 _;(first|apply u2|apply u3|apply u4|apply us);exact QZc ((QH0 law31_going (⟨10,0,5,1⟩:Note)).1) law31_going QJ2 QJ2 _;(first|apply u2|apply u3|apply u4|apply us);exact Qd2 _;(first|apply u2|apply u3|apply u4|apply us);exact QH6 law31_going (⟨10,0,5,2⟩:Note) QJ2 _;(first|apply u2|apply u3|apply u4|apply us);exact Qd2 _;(first|apply u2|apply u3|apply u4|apply us);exact QH6 law31_going (⟨10,0,5,1⟩:Note) QJ2 _;refine ai gkA ?_;(repeat ((first|refine ai rfl ?_|refine ai (fun _=>rfl) ?_|refine ai (fun _=>Qd2 _) ?_|refine ai (fun _=>QZc ((QH0 law31_going (⟨10,0,5,1⟩:Note)).1) law31_going QJ2 QJ2 _) ?_|refine ai (fun _=>Qd2 _) ?_|refine ai (fun _=>QH6 law31_going (⟨10,0,5,2⟩:Note) QJ2 _) ?_|refine ai (fun _=>Qd2 _) ?_|refine ai (fun _=>QH6 law31_going (⟨10,0,5,1⟩:Note) QJ2 _) ?_)));obtain rfl:=foll hR (cf h2 rfl);exact Q60 lx sr
attribute [local irreducible] DrawS
def Qq3 (s:State) (n:Note):List Node->Nat->Bool
 | [],_=>QS4
 | x_ :: r,i=>bif (((x_.state != 0)&&((((QH0 s n).1.nodes).getD i zF).state==0))&&(!((((i:Int)==n.node)&&(x_.epoch==n.epoch))&&(((n.kind==10)&&(x_.state==3))||((n.kind==13)&&(x_.state==4)))))) then false else bif ((((((((QH0 s n).1.nodes).getD i zF).state==1)&&((x_.state != 1)||(x_.job != (((QH0 s n).1.nodes).getD i zF).job)))&&(!((x_.state==2)&&(x_.job==(((QH0 s n).1.nodes).getD i zF).job))))&&(x_.state != 0))&&(!((((i:Int)==n.node)&&(x_.epoch==n.epoch))&&(((n.kind==10)&&(x_.state==3))||((n.kind==13)&&(x_.state==4)))))) then false else bif (decide ((((QH0 s n).1.nodes).getD i zF).epoch<x_.epoch)) then false else Qq3 s n r (i+1)
def QS5 (s:State) (n:Note):Bool:=bif (!(Qu8 s)) then QS4 else bif (((QH0 s n).2.2 != 0)||((((QH0 s n).1.nodes).length:Int)!=(s.nodes.length:Int))) then (((QH0 s n).2.2 != 0)&&QS4) else Qq3 s n s.nodes 0
theorem QAc {P:Prop} (h:P:=by first|((with_reducible exact QKc (by simpa using h2)))|first|((exact heed_sz (QKc (by simpa using h2)) _))|exact szA):P:=h
theorem Q9c (s:State) (n:Note) (hs0:s.szM):GV 5 [State.a s,Note.a n] (Bo (QS5 s n)):=by
 generalize hR:QS5 s n=R;refine ga (.cons (State.low _ _) (.cons (Note.low _ _) .nil)) lx (kj [2000009] 14 [16,35,45,100,139,144]) Tryz.func5 ?_;have hk0:=hs0;obtain ⟨z19,z20,z21,z22,z23,z24,z25⟩:=hs0;refine us (law20_Few_c s QAc _) ?_;refine ai (fun h1=>?_) (fun h2=>?_)
 ·refine us (QR8 _) ?_;obtain rfl:=foll hR (ct h1 rfl);exact Q60 lx sr
 ·refine us (Qc6 s n QAc _) ?_;refine ai (fun h3=>?_) (fun h4=>?_)
  ·(first|apply u3g|apply u4g);exact fun hg=>QR8 _;obtain rfl:=foll hR (cf h2 (ct h3 rfl));exact Q60 lx sr
  ·refine Qk0 (fun (i:Nat)=>Qq3 s n (List.drop i s.nodes) i=R∧i<=s.nodes.length) (fun i=>s.nodes.length - i) (fun i=>[(2,AVal.ptr 0 0 8 0 0),(3,AVal.ptr 1 0 4 0 0),(4,Bo false),(5,AVal.ptr 2 0 8 0 0),(8,I (i:Int))]) (fun i=>[(0,AObj.row 28 8 [[I s.now,nodeL s.nodes,jobL s.jobs,Qh1 s.resizes,bookL s.books,Qt1 s.ledger,I s.nextJob,I s.nextBook]]),(0,AObj.row 30 4 [[I n.kind,I n.node,I n.job,I n.epoch]]),(0,AObj.row 28 8 [[I ((QH0 s n).1.now),nodeL ((QH0 s n).1.nodes),jobL ((QH0 s n).1.jobs),Qh1 ((QH0 s n).1.resizes),bookL ((QH0 s n).1.books),Qt1 ((QH0 s n).1.ledger),I ((QH0 s n).1.nextJob),I ((QH0 s n).1.nextBook)]])]) 0 (wk [0,1,2] (tO rfl (ts State.lo) (tO rfl (ts Note.lo) (tO rfl (ts State.lo) .nil))) (sv (Qy0 0 rfl rfl) (sv (Qy0 1 rfl rfl) (s1 (sv (Qy0 2 rfl rfl) (s1 .nil)))))) ⟨foll hR (cf h2 (cf h4 rfl)),by exact omA⟩ ?_;clear hR;rintro i ⟨hR,hj⟩;(try dsimp only at hR hj);refine ai (fun h5=>?_) (fun h6=>?_)
   ·have hlt:=ltA h5;rw [Qd0 zF hlt] at hR;refine cdraw_two 10 (by kernel_rfl) ?_ ?_
    ·refine dchk (by kernel_rfl) ?_;refine ai gkA ?_;refine ai gkA ?_;(repeat ((first|refine ai rfl ?_|refine ai (fun _=>rfl) ?_)));refine ai (fun h7=>?_) (fun h8=>?_)
     ·obtain rfl:=foll hR (ct h7 rfl);exact Q60 lx sr
     ·refine ai (fun h9=>?_) (fun h10=>?_)
      ·obtain rfl:=foll hR (cf h8 (ct h9 rfl));exact Q60 lx sr
      ·refine ai (fun h11=>?_) (fun h12=>?_)
       ·have qh11:=yca h11;obtain rfl:=foll hR (cf h8 (cf h10 (ct h11 rfl)));exact Q60 lx sr
       ·have qh12:=yja h12;exact Qr0 (i+1) (wk [0,1,2] (tO rfl (ts State.lo) (tO rfl (ts Note.lo) (tO rfl (ts State.lo) .nil))) (sv (Qy0 0 rfl rfl) (sv (Qy0 1 rfl rfl) (s1 (sv (Qy0 2 rfl rfl) (sv (turn_eq (I_eq (wr omA)) lx) .nil)))))) omA ⟨foll hR (cf h8 (cf h10 (cf h12 rfl))),by exact omA⟩
    ·refine dchk (by kernel_rfl) ?_;refine ai gkA ?_;refine ai gkA ?_;(repeat ((first|refine ai rfl ?_|refine ai (fun _=>rfl) ?_)));refine ai (fun h13=>?_) (fun h14=>?_)
     ·obtain rfl:=foll hR (ct h13 rfl);exact Q60 lx sr
     ·refine ai (fun h15=>?_) (fun h16=>?_)
      ·obtain rfl:=foll hR (cf h14 (ct h15 rfl));exact Q60 lx sr
      ·refine ai (fun h17=>?_) (fun h18=>?_)
       ·have qh17:=yca h17;obtain rfl:=foll hR (cf h14 (cf h16 (ct h17 rfl)));exact Q60 lx sr
       ·have qh18:=yja h18;exact Qr0 (i+1) (wk [0,1,2] (tO rfl (ts State.lo) (tO rfl (ts Note.lo) (tO rfl (ts State.lo) .nil))) (sv (Qy0 0 rfl rfl) (sv (Qy0 1 rfl rfl) (s1 (sv (Qy0 2 rfl rfl) (sv (turn_eq (I_eq (wr omA)) lx) .nil)))))) omA ⟨foll hR (cf h14 (cf h16 (cf h18 rfl))),by exact omA⟩
   ·rw [Qh0 (l:=s.nodes) (j:=i) (geA h6)] at hR;refine us (QR8 _) ?_;obtain rfl:=foll hR rfl;exact Q60 lx sr
end Go.Proofs.YtgnlcjenoaoffaaGreatDoor
namespace Go.Proofs.YtgnlcjenoaoffaaGreatDoor
set_option linter.unusedSimpArgs false
set_option linter.unusedVariables false
open Go.Fw
theorem drop_cons_get {α:Type} (d:α) {p:List α} {i:Nat} {x:α} {r:List α} (h:p.drop i=x :: r):p.getD i d=x∧p.drop (i+1)=r:=by
 have h1:p[i]? = some x:=by
  have:(p.drop i)[0]? = some x:=by rw [h];rfl
  simpa using this
 have h2:p.drop (i+1)=r:=by
  have:(p.drop i).drop 1=r:=by rw [h];rfl
  rwa [y2b] at this
 exact ⟨by simp [List.getD,h1],h2⟩
theorem indexF_any {α:Type} (f:α->Bool) (G:List α->Nat->Int) (h0:∀ i,G [] i = -1) (h1:∀ x r i,G (x :: r) i=bif f x then (i:Int) else G r (i+1)):∀ (l:List α) (i:Nat),decide (G l i >= 0)=l.any f
 | [],i=>by rw [h0];rfl
 | x :: r,i=>by
  rw [h1,List.any_cons];cases f x with
  | true=>simp
  | false=>simpa using indexF_any f G h0 h1 r (i+1)
theorem any_Node (l:List Node) (f:Node->Bool):Ql2 l f=l.any f:=indexF_any f _ (fun _=>rfl) (fun _ _ _=>rfl) l 0
theorem do_told {l:List Node} {n act job now:Int} (h:((Ql0 l n act job now).2 != 0)=false):∃ k:Nat,n=(k:Int)∧k<l.length∧Qu7 (l.getD k zF) act job=true∧Ql0 l n act job now=(l.set k (QB5 (l.getD k zF) act job now),0):=by
 unfold Ql0 at h ⊢;cases h1:((Q61 l)!=0) with
 | true=>rw [h1] at h;simp only [cond_true] at h;rw [h1] at h;exact nomatch h
 | false =>
  rw [h1] at h;cases h2:((((decide (n<0))||(decide (n >= (l.length:Int))))||(!(Q65 now)))||(!(Qu7 (l.getD (n.toNat) zF) act job))) with
  | true=>rw [h2] at h;exact nomatch h
  | false =>
   simp only [yRa,y3a,y2a] at h2;exact ⟨n.toNat,by omega,by omega,h2.2,rfl⟩
theorem set_getN {l:List Node} {k:Nat} (hk:k<l.length) (y:Node) (i:Nat):(l.set k y).getD i zF=if i=k then y else l.getD i zF:=by
 rw [yNa,yzb]
 by_cases h:i=k
 ·subst h;rw [if_pos rfl,if_pos rfl,if_pos hk]
  rfl
 ·rw [if_neg (fun e=>h e.symm),if_neg h,← yNa]
theorem do_chk {l:List Node} {n act job now:Int} (h:((Ql0 l n act job now).2 != 0)=false):Q61 l=0:=by
 unfold Ql0 at h;cases h1:((Q61 l)!=0) with
 | true=>rw [h1] at h;simp only [cond_true] at h;rw [h1] at h;exact nomatch h
 | false=>simpa using h1
theorem epoch_in {l:List Node} (h:Q61 l=0) {k:Nat} (hk:k<l.length):0<=(l.getD k zF).epoch∧(l.getD k zF).epoch<=999999999:=by
 unfold Q61 at h;rw [any_Node] at h;cases h1:(((decide ((l.length:Int)<1))||(decide ((l.length:Int) > 48)))||(l.any (fun (y:Node)=>(!(Q02 y))))) with
 | true=>rw [h1] at h;exact absurd h (by decide)
 | false =>
  obtain ⟨_,h2⟩:=or_f h1;have hm:l.getD k zF ∈ l:=by rw [yNa,yba hk];exact ycb hk
  have hf:=List.any_eq_false.1 h2 _ hm;have hf:Q02 (l.getD k zF)=true:=by simpa using hf
  unfold Q02 at hf;revert hf;cases h3:((((decide ((l.getD k zF).epoch<0))||(decide ((l.getD k zF).epoch > 999999999)))||(!(Q65 (l.getD k zF).since)))||(!(Q65 (l.getD k zF).asked))) with
  | true=>intro h;exact nomatch h
  | false =>
   intro _;simp only [yRa,y3a] at h3;omega
def Kp (a b:Node):Prop:=(b.state=0->a.state=0)∧(b.state=1->a.state=0∨((a.state=1∨a.state=2)∧a.job=b.job))∧(b.state=2->a.state=2∧a.job=b.job)∧a.epoch<=b.epoch
theorem Kp.refl (a:Node):Kp a a:=⟨id,fun h=>.inr ⟨.inl h,rfl⟩,fun h=>⟨h,rfl⟩,yxb _⟩
theorem Kp.trans {a b c:Node} (h:Kp a b) (g:Kp b c):Kp a c:=by
 obtain ⟨h1,h2,h3,h4⟩:=h;obtain ⟨g1,g2,g3,g4⟩:=g;refine ⟨fun q=>h1 (g1 q),fun q=>?_,fun q=>?_,by omega⟩
 ·rcases g2 q with r|⟨r|r,e⟩
  ·exact .inl (h1 r)
  ·rw [← e];exact h2 r
  ·rw [← e];exact .inr ⟨.inr (h3 r).1,(h3 r).2⟩
 ·obtain ⟨r,e⟩:=g3 q;rw [← e];exact h3 r
def KpL (l m:List Node):Prop:=m.length=l.length ∧ ∀ k,k<l.length->Kp (l.getD k zF) (m.getD k zF)
theorem KpL.refl (l:List Node):KpL l l:=⟨rfl,fun _ _=>.refl _⟩
theorem KpL.trans {l m n:List Node} (h:KpL l m) (g:KpL m n):KpL l n:=⟨g.1.trans h.1,fun k hk=>(h.2 k hk).trans (g.2 k (by rw [h.1];exact hk))⟩
def Calm6 (act:Int):Prop:=act=1∨act=3∨act=4∨act=6∨act=7∨act=9
theorem kp_done {x:Node} {act job now:Int} (ha:Calm6 act) (he:0<=x.epoch∧x.epoch<=999999999) (hm:Qu7 x act job=true):Kp x (QB5 x act job now):=by
 rcases ha with rfl|rfl|rfl|rfl|rfl|rfl
 ·have hm:(((((x.state==0)&&(!x.drain))&&(decide (x.epoch<999999999)))&&(decide (job >= 1)))&&(decide (job<=99999)))=true:=hm;simp only [yha,beq_iff_eq,yua] at hm;have e:w64 (x.epoch+1)=x.epoch+1:=wr oA;show Kp x (⟨1,job,(w64 (x.epoch+1)),x.drain,1,now,now⟩:Node);refine ⟨fun h=>absurd h (by dsimp only;omega),fun _=>.inl hm.1.1.1.1,fun h=>absurd h (by dsimp only;omega),by dsimp only;omega⟩
 ·have hm:(x.state==2)=true:=hm;simp only [beq_iff_eq] at hm;show Kp x (⟨1,x.job,x.epoch,x.drain,3,now,now⟩:Node);exact ⟨fun h=>absurd h (by dsimp only;omega),fun _=>.inr ⟨.inr hm,rfl⟩,fun h=>absurd h (by dsimp only;omega),yxb _⟩
 ·exact Kp.refl x
 ·exact Kp.refl x
 ·show Kp x (⟨3,x.job,x.epoch,x.drain,5,now,now⟩:Node);exact ⟨fun h=>absurd h (by dsimp only;omega),fun h=>absurd h (by dsimp only;omega),fun h=>absurd h (by dsimp only;omega),yxb _⟩
 ·have hm:((x.state != 4)&&(decide (x.epoch<999999999)))=true:=hm;simp only [yha,yua] at hm;have e:w64 (x.epoch+1)=x.epoch+1:=wr oA;show Kp x (⟨4,0,(w64 (x.epoch+1)),x.drain,0,x.since,x.asked⟩:Node);exact ⟨fun h=>absurd h (by dsimp only;omega),fun h=>absurd h (by dsimp only;omega),fun h=>absurd h (by dsimp only;omega),by dsimp only;omega⟩
theorem kp_do {l:List Node} {n act job now:Int} (ha:Calm6 act) (h:((Ql0 l n act job now).2 != 0)=false):KpL l (Ql0 l n act job now).1:=by
 obtain ⟨k,_,hk,hm,e⟩:=do_told h;have hc:=do_chk h;rw [e];refine ⟨yWa ..,fun i hi=>?_⟩;show Kp _ ((l.set k _).getD i zF);rw [set_getN hk]
 by_cases q:i=k
 ·rw [if_pos q,q];exact kp_done ha (epoch_in hc hk) hm
 ·rw [if_neg q];exact .refl _
theorem each_kp_go {act job now:Int} (ha:Calm6 act) (S:Int):∀ (r:List Int) (i:Nat) (c:List Node),(QP1 S act job now r i c).2.2=0->KpL c (QP1 S act job now r i c).1
 | [],i,c,_=>by
  rw [QP1,yka];split <;> exact .refl _
 | x :: r,i,c,h=>by
  rw [QP1] at h ⊢;cases h1:((Ql0 c x act job now).2==0) with
  | true =>
   have h2:((Ql0 c x act job now).2 != 0)=false:=by rw [bne,h1];rfl
   rw [h1,h2] at h;rw [cond_true,h2,cond_false];exact (kp_do ha h2).trans (each_kp_go ha S r (i+1) _ h)
  | false =>
   have h2:((Ql0 c x act job now).2 != 0)=true:=by rw [bne,h1];rfl
   rw [h1,h2] at h;exact absurd (show (Ql0 c x act job now).2=0 from h) (by simpa using h1)
theorem each_kp {act job now S:Int} {l:List Node} (ha:Calm6 act) (h:(Qp0 l S act job now).2.2=0):KpL l (Qp0 l S act job now).1:=by
 unfold Qp0 at h ⊢;cases h1:((Q61 l)!=0) with
 | true =>
  rw [h1] at h;exact absurd (show Q61 l=0 from h) (by simpa using h1)
 | false =>
  rw [h1] at h;exact each_kp_go ha S _ 0 l h
theorem grant_kp {n id now:Int} {l:List Node} (h:(Q22 l n 1 id now).2.2.2=0):KpL l (Q22 l n 1 id now).1:=by
 unfold Q22 at h ⊢;rw [show (((1:Int)!=1)&&((1:Int)!=2))=false from rfl,cond_false] at h ⊢;cases h1:((Q61 l)!=0) with
 | true=>rw [h1] at h;exact absurd (show (120:Int)=0 from h) (by decide)
 | false =>
  rw [h1,cond_false] at h;cases h2:((decide (n<1))||(decide (n > 48))) with
  | true=>rw [h2] at h;exact absurd (show (2:Int)=0 from h) (by decide)
  | false =>
   rw [h2,cond_false] at h;cases h3:(!(QI1 (Q83 l) n).2) with
   | true=>rw [h3] at h;exact absurd (show (130:Int)=0 from h) (by decide)
   | false =>
    rw [h3,cond_false] at h;cases h4:((Qp0 l ((QI1 (Q83 l) n).1) 1 id now).2.2 != 0) with
    | true =>
     rw [h4] at h;exact absurd (show (Qp0 l ((QI1 (Q83 l) n).1) 1 id now).2.2=0 from h) (by simpa using h4)
    | false=>exact each_kp (.inl rfl) (by simpa using h4)
theorem QT7:∀ (r:List Int) (i:Nat) (c:Work) (o:List Out),KpL c.state.nodes (Q51 r i c o).1.state.nodes
 | [],_,_,_=>.refl _
 | x :: r,i,c,o=>by
  have skip:=QT7 r (i+1) (⟨c.state,o⟩:Work) o;rw [Q51];dsimp only;cases (decide ((Q70 c.state.jobs x).1.choice >= ((Qe0 (Q70 c.state.jobs x).1.shape).length:Int))) with
  | true=>exact skip
  | false =>
   rw [cond_false];generalize (((Qe0 (Q70 c.state.jobs x).1.shape).getD (Int.toNat (Q70 c.state.jobs x).1.choice) zA).nodes)=w;cases hg:((Q22 c.state.nodes w 1 x c.state.now).2.2.2 != 0) with
   | true=>exact skip
   | false =>
    rw [cond_false];have hk:=grant_kp (l:=c.state.nodes) (n:=w) (id:=x) (now:=c.state.now) (by simpa using hg);generalize Q22 c.state.nodes w 1 x c.state.now=gr at hk ⊢;cases ((QU1 (Q70 c.state.jobs x).1 c.state.now gr.2.1).2 != 0) with
    | true=>exact skip
    | false =>
     rw [cond_false,yka];split
     ·exact hk.trans (QT7 r (i+1) _ _)
     ·exact hk.trans (QT7 r (i+1) _ _)
theorem QQ9 {s:State} {anew:Bool} (h:((Q80 s anew).2.2 != 0)=false):KpL s.nodes (Q80 s anew).1.nodes:=by
 unfold Q80 at h ⊢;cases h1:((QM0 s)!=0) with
 | true=>rw [h1,cond_true] at h;rw [h1] at h;exact nomatch h
 | false =>
  rw [cond_false];have e:=Q1d s ((((((QU0 s.jobs).2).length:Int) - (0:Int)).toNat)+1) 0 (⟨{ s with jobs:=(QU0 s.jobs).1 },[]⟩:Work) oA;generalize QS1 s ((((((QU0 s.jobs).2).length:Int) - (0:Int)).toNat)+1) 0 (⟨{ s with jobs:=(QU0 s.jobs).1 },[]⟩:Work)=c at e ⊢;have hp:(Q30 c anew).state.nodes=s.nodes:=by
   have:(Q30 c anew).state.nodes=c.state.nodes:=by
    unfold Q30;cases anew <;> rfl
   rw [this,e]
  have:=QT7 (Qe1 (Q30 c anew).state) 0 (Q30 c anew) (Q30 c anew).told;rw [hp] at this;exact this
theorem QWd (w:Work) (id why:Int) (tp:List Job × Int):∀ (r:List Resize) (i:Nat),KpL w.state.nodes (Q21 w id why tp r i).2.state.nodes
 | [],i=>by
  rw [Q21];dsimp only;simp only [yka];split
  ·rename_i h;exact each_kp (act:=7) (by unfold Calm6;omega) (by simpa using h)
  ·exact .refl _
 | x :: r,i=>by
  have ih:=QWd w id why tp r (i+1);rw [Q21];dsimp only;simp only [yka]
  repeat' first
   | exact ih
   | exact KpL.refl _
   | (rename_i h;exact each_kp (act:=7) (by unfold Calm6;omega) (by simpa using h))
   | split
theorem ended_kp (w:Work) (id why:Int):KpL w.state.nodes (Qb0 w id why).2.state.nodes:=by
 unfold Qb0 Qc3;dsimp only;simp only [yka]
 repeat' first
  | exact KpL.refl _
  | exact QWd _ _ _ _ _ _
  | split
theorem end_kp {s:State} {id why:Int} (h:((Q50 s id why).2.2==0)=true):KpL s.nodes (Q50 s id why).1.nodes:=by
 have k:=ended_kp (⟨s,[]⟩:Work) id why;unfold Q50 at h ⊢;cases h1:((QM0 s)!=0) with
 | true =>
  rw [h1] at h;exact absurd (show QM0 s=0 by simpa using h) (by simpa using h1)
 | false =>
  rw [h1,cond_false] at h;rw [cond_false];cases h2:((Qb0 (⟨s,[]⟩:Work) id why).1 != 0) with
  | true =>
   rw [h2] at h;exact absurd (show (Qb0 (⟨s,[]⟩:Work) id why).1=0 by simpa using h) (by simpa using h2)
  | false=>exact k
def QK (s:State) (R:State × List Note × Int):Prop:=R.2.2=0->KpL s.nodes R.1.nodes
theorem qk_cond {s:State} {b:Bool} {x y:State × List Note × Int} (h1:b=true->QK s x) (h2:b=false->QK s y):QK s (bif b then x else y):=by
 cases b with
 | true=>exact h1 rfl
 | false=>exact h2 rfl
theorem qk_err {s t:State} {l:List Note} {e:Int} (h:(e != 0)=true):QK s (t,l,e):=fun q=>absurd q (by simpa using h)
theorem Q97 {act job now S:Int} {l:List Node} (ha:Calm6 act) (h:((Qp0 l S act job now).2.2 != 0)=false):KpL l (Qp0 l S act job now).1:=each_kp ha (by simpa using h)
theorem abort_qk (s:State) (id:Int):QK s (QV1 s id):=by
 unfold QV1;dsimp only
 repeat' refine qk_cond (fun h=>?_) (fun h=>?_)
 all_goals first
  | exact qk_err (by assumption)
  | exact qk_err rfl
  | exact fun _=>Q97 (act:=7) (by unfold Calm6;omega) (by assumption)
  | exact fun _=>Q97 (act:=6) (by unfold Calm6;omega) (by assumption)
theorem abort_kp {s:State} {id:Int} (h:(QV1 s id).2.2=0):KpL s.nodes (QV1 s id).1.nodes:=abort_qk s id h
theorem Qub (n:Int) (c:Work) (o:List Out):∀ (r:List Out) (i:Nat),(QA2 n c o r i).1.nodes=(Ql0 c.state.nodes n 9 0 c.state.now).1
 | [],_=>rfl
 | x :: r,i=>by
  rw [QA2];simp only [yka]
  repeat' first
   | exact rfl
   | exact Qub n c o r (i+1)
   | split
theorem lose_kp {s:State} {n:Int} (h:((Q90 s n).2.2 != 0)=false):KpL s.nodes (Q90 s n).1.nodes:=by
 have k1:∀ (e:Int) (c:Work) (o:List Out),(e=0->KpL s.nodes c.state.nodes)->((Qp2 n e c o).2.2 != 0)=false->KpL s.nodes (Qp2 n e c o).1.nodes:=by
  intro e c o hk;unfold Qp2;cases h1:(e != 0) with
  | true=>intro h;exact absurd (show e=0 by simpa using h) (by simpa using h1)
  | false =>
   cases h2:((Ql0 c.state.nodes n 9 0 c.state.now).2 != 0) with
   | true=>intro h;exact absurd (show (Ql0 c.state.nodes n 9 0 c.state.now).2=0 by simpa using h) (by simpa using h2)
   | false =>
    intro _;refine (hk (by simpa using h1)).trans ?_;show KpL _ (QA2 n c o o 0).1.nodes;rw [Qub];exact kp_do (by unfold Calm6;omega) h2
 unfold Q90 at h ⊢;cases h1:((QM0 s)!=0) with
 | true=>rw [h1,cond_true] at h;rw [h1] at h;exact nomatch h
 | false =>
  rw [h1,cond_false] at h;rw [cond_false];cases h2:((Ql0 s.nodes n 9 0 s.now).2 != 0) with
  | true=>rw [h2,cond_true] at h;rw [h2] at h;exact nomatch h
  | false =>
   rw [h2,cond_false] at h;rw [cond_false];cases h3:((s.nodes.getD (n.toNat) zF).state==1) with
   | true =>
    rw [h3,cond_true] at h;rw [cond_true];exact k1 _ _ _ (fun _=>ended_kp (⟨s,([(⟨6,⟨#[]⟩,zL,n,4,false⟩:Out)]:List Out)⟩:Work) _ 7) h
   | false =>
    rw [h3,cond_false] at h;rw [cond_false];cases h4:((s.nodes.getD (n.toNat) zF).state==2) with
    | true =>
     rw [h4,cond_true] at h;rw [cond_true];exact k1 _ _ _ (fun e=>abort_kp e) h
    | false =>
     rw [h4,cond_false] at h;rw [cond_false];exact k1 _ _ _ (fun _=>.refl _) h
attribute [local irreducible] Qp0 Q10 Qb1 Q70 QC2 Qi2 QM0 QJ1 Qu5 Q80 Q90 Q50 Ql0 Qn2 QQ0 Q11
theorem say_qk (s:State) (n:Note):QK s (QD0 s n):=by
 unfold QD0;dsimp only
 repeat' refine qk_cond (fun h=>?_) (fun h=>?_)
 all_goals first
  | exact qk_err (by assumption)
  | exact qk_err rfl
  | exact fun _=>Q97 (act:=7) (by unfold Calm6;omega) (by assumption)
  | exact fun _=>Q97 (act:=6) (by unfold Calm6;omega) (by assumption)
  | exact fun _=>Q97 (act:=4) (by unfold Calm6;omega) (by assumption)
  | exact fun _=>KpL.trans (Q97 (act:=4) (by unfold Calm6;omega) (by assumption)) (Q97 (act:=3) (by unfold Calm6;omega) (by assumption))
  | exact fun _=>KpL.trans (Q97 (act:=4) (by unfold Calm6;omega) (by assumption)) (Q97 (act:=7) (by unfold Calm6;omega) (by assumption))
theorem say_kp {s:State} {n:Note} (h:((QD0 s n).2.2 != 0)=false):KpL s.nodes (QD0 s n).1.nodes:=say_qk s n (by simpa using h)
def HdR (n:Note) (i:Nat) (a b:Node):Prop:=a.epoch<=b.epoch∧(Kp a b∨((i:Int)=n.node∧a.epoch=n.epoch∧((n.kind=10∧a.state=3)∨(n.kind=13∧a.state=4))))
def HdL (n:Note) (l m:List Node):Prop:=m.length=l.length ∧ ∀ i,i<l.length->HdR n i (l.getD i zF) (m.getD i zF)
theorem KpL.hd {l m:List Node} (h:KpL l m) (n:Note):HdL n l m:=⟨h.1,fun i hi=>⟨(h.2 i hi).2.2.2,.inl (h.2 i hi)⟩⟩
theorem means_told {s:State} {n:Note} (h:QR3 s n=true):(s.nodes.getD (n.node.toNat) zF).epoch=n.epoch∧QR4 n (s.nodes.getD (n.node.toNat) zF)=true:=by
 unfold QR3 at h;cases h1:(((((QM0 s)!=0)||((QX3 n)!=0))||(decide (n.node >= (s.nodes.length:Int))))||((s.nodes.getD (n.node.toNat) zF).epoch != n.epoch)) with
 | true=>rw [h1] at h;exact nomatch h
 | false =>
  rw [h1,cond_false] at h;obtain ⟨_,h2⟩:=or_f h1;exact ⟨by simpa using h2,h⟩
theorem told_hd {l m:List Node} {n:Note} {act now:Int} (hd:((Ql0 l n.node act 0 now).2 != 0)=false) (hk:KpL (Ql0 l n.node act 0 now).1 m) (he:∀ x:Node,(QB5 x act 0 now).epoch=x.epoch)
  (h1:(l.getD (n.node.toNat) zF).epoch=n.epoch) (h2:(n.kind=10∧(l.getD (n.node.toNat) zF).state=3)∨(n.kind=13∧(l.getD (n.node.toNat) zF).state=4)):HdL n l m:=by
 obtain ⟨k,hn,hlt,_,e⟩:=do_told hd;have hT:n.node.toNat=k:=by omega
 rw [hT] at h1 h2;rw [e] at hk;refine ⟨hk.1.trans (yWa ..),fun i hi=>?_⟩;have hb:=hk.2 i (by show i<(l.set k _).length;rw [yWa];exact hi);have hb:Kp ((l.set k (QB5 (l.getD k zF) act 0 now)).getD i zF) (m.getD i zF):=hb;rw [set_getN hlt] at hb
 by_cases q:i=k
 ·rw [if_pos q] at hb;have:=hb.2.2.2;rw [he] at this;rw [q] at this ⊢;exact ⟨this,.inr ⟨hn.symm,h1,h2⟩⟩
 ·rw [if_neg q] at hb;exact ⟨hb.2.2.2,.inl hb⟩
theorem lose2_kp {s:State} {n:Int} (h:((QV2 s n).2.2 != 0)=false):KpL s.nodes (QV2 s n).1.nodes:=by
 have key:QV2 s n=bif ((Q90 s n).2.2 != 0) then (zK,[],(Q90 s n).2.2) else bif ((Q80 (Q90 s n).1 true).2.2 != 0) then (zK,[],(Q80 (Q90 s n).1 true).2.2) else ((Q80 (Q90 s n).1 true).1,((Q90 s n).2.1++(Q80 (Q90 s n).1 true).2.1),0):=rfl;rw [key] at h ⊢;cases h1:((Q90 s n).2.2 != 0) with
 | true=>rw [h1,cond_true] at h;rw [h1] at h;exact nomatch h
 | false =>
  rw [h1,cond_false] at h;rw [cond_false];cases h2:((Q80 (Q90 s n).1 true).2.2 != 0) with
  | true=>rw [h2,cond_true] at h;rw [h2] at h;exact nomatch h
  | false=>exact (lose_kp h1).trans (QQ9 h2)
attribute [local irreducible] QD0 QV2
theorem heed_hd {s:State} {n:Note} (h:((QH0 s n).2.2 != 0)=false):HdL n s.nodes (QH0 s n).1.nodes:=by
 have ends:∀ why:Int,((Q50 s n.job why).2.2==0)=true->((Q80 (Q50 s n.job why).1 false).2.2 != 0)=false->KpL s.nodes (Q80 (Q50 s n.job why).1 false).1.nodes:=fun why h1 h2=>(end_kp h1).trans (QQ9 h2)
 unfold QH0 at h ⊢;cases h1:((QM0 s)!=0) with
 | true=>rw [h1,cond_true] at h;rw [h1] at h;exact nomatch h
 | false =>
  rw [h1,cond_false] at h;rw [cond_false];cases h2:(((QX3 n)!=0)||(QK9 n.kind)) with
  | true=>rw [h2,cond_true] at h;exact absurd h (by decide)
  | false =>
   rw [h2,cond_false] at h;rw [cond_false];cases h3:QR3 s n with
   | false=>exact (KpL.refl _).hd n
   | true =>
    obtain ⟨m1,m2⟩:=means_told h3;rw [h3,yHb,cond_false] at h;rw [yHb,cond_false];cases k7:(n.kind==7) with
    | true =>
     rw [k7,cond_true] at h;rw [cond_true];cases hd:((Ql0 s.nodes n.node 4 0 s.now).2 != 0) with
     | true=>rw [hd,cond_true] at h;rw [hd] at h;exact nomatch h
     | false=>exact (kp_do (by unfold Calm6;omega) hd).hd n
    | false =>
     rw [k7,cond_false] at h;rw [cond_false];cases k14:(n.kind==14) with
     | true =>
      rw [k14,cond_true] at h;exact (lose2_kp h).hd n
     | false =>
      rw [k14,cond_false] at h;rw [cond_false];cases k10:(n.kind==10) with
      | true =>
       rw [k10,cond_true] at h;rw [cond_true];have hk:n.kind=10:=by simpa using k10
       cases hd:((Ql0 s.nodes n.node 8 0 s.now).2 != 0) with
       | true =>
        rw [hd,cond_true] at h;exact Bool.noConfusion (hd.symm.trans h)
       | false =>
        rw [hd,cond_false] at h;rw [cond_false];cases hs:((Q80 { s with nodes:=(Ql0 s.nodes n.node 8 0 s.now).1 } false).2.2 != 0) with
        | true=>rw [hs,cond_true] at h;rw [hs] at h;exact nomatch h
        | false =>
         refine told_hd hd (QQ9 hs) (fun _=>rfl) m1 (.inl ⟨hk,?_⟩);unfold QR4 at m2;rw [k7] at m2;rw [show (n.kind==8)=false by rw [hk];rfl,show (n.kind==9)=false by rw [hk];rfl] at m2;unfold QD4 at m2;rw [k10] at m2;simp at m2;simpa using m2.1
      | false =>
       rw [k10,cond_false] at h;rw [cond_false];cases k13:(n.kind==13) with
       | true =>
        rw [k13,cond_true] at h;rw [cond_true];have hk:n.kind=13:=by simpa using k13
        cases hd:((Ql0 s.nodes n.node 11 0 s.now).2 != 0) with
        | true =>
         rw [hd,cond_true] at h;exact Bool.noConfusion (hd.symm.trans h)
        | false =>
         rw [hd,cond_false] at h;rw [cond_false];cases hs:((Q80 { s with nodes:=(Ql0 s.nodes n.node 11 0 s.now).1 } false).2.2 != 0) with
         | true=>rw [hs,cond_true] at h;rw [hs] at h;exact nomatch h
         | false =>
          refine told_hd hd (QQ9 hs) (fun _=>rfl) m1 (.inr ⟨hk,?_⟩);obtain ⟨k,hn,hlt,hm,_⟩:=do_told hd;have hm:(((s.nodes.getD k zF).state==4)&&((s.nodes.getD k zF).want==6))=true:=hm;simp only [yha,beq_iff_eq] at hm;rw [show n.node.toNat=k by omega];exact hm.1
       | false =>
        rw [k13,cond_false] at h;rw [cond_false];cases k11:(n.kind==11) with
        | true =>
         rw [k11,cond_true] at h;rw [cond_true];cases he:((Q50 s n.job 3).2.2==0) with
         | false =>
          rw [he,cond_false] at h;have hz:((Q50 s n.job 3).2.2 != 0)=true:=by rw [bne,he];rfl
          exact Bool.noConfusion (hz.symm.trans h)
         | true =>
          rw [he,cond_true] at h;rw [cond_true];cases hs:((Q80 (Q50 s n.job 3).1 false).2.2 != 0) with
          | true=>(have h:((bif ((Q80 (Q50 s n.job 3).1 false).2.2 != 0) then ((zK,[],(Q80 (Q50 s n.job 3).1 false).2.2):State × List Out × Int) else ((Q80 (Q50 s n.job 3).1 false).1,((Q50 s n.job 3).2.1++(Q80 (Q50 s n.job 3).1 false).2.1),0)).2.2 != 0)=false:=h;rw [hs,cond_true] at h;rw [hs] at h;exact nomatch h)
          | false =>
           rw [cond_false];exact (ends 3 he hs).hd n
        | false =>
         rw [k11,cond_false] at h;rw [cond_false];cases k12:(n.kind==12) with
         | true =>
          rw [k12,cond_true] at h;rw [cond_true];cases he:((Q50 s n.job 4).2.2==0) with
          | false =>
           rw [he,cond_false] at h;have hz:((Q50 s n.job 4).2.2 != 0)=true:=by rw [bne,he];rfl
           exact Bool.noConfusion (hz.symm.trans h)
          | true =>
           rw [he,cond_true] at h;rw [cond_true];cases hs:((Q80 (Q50 s n.job 4).1 false).2.2 != 0) with
           | true=>(have h:((bif ((Q80 (Q50 s n.job 4).1 false).2.2 != 0) then ((zK,[],(Q80 (Q50 s n.job 4).1 false).2.2):State × List Out × Int) else ((Q80 (Q50 s n.job 4).1 false).1,((Q50 s n.job 4).2.1++(Q80 (Q50 s n.job 4).1 false).2.1),0)).2.2 != 0)=false:=h;rw [hs,cond_true] at h;rw [hs] at h;exact nomatch h)
           | false =>
            rw [cond_false];exact (ends 4 he hs).hd n
         | false =>
          rw [k12,cond_false] at h;rw [cond_false];cases hy:((QD0 s n).2.2 != 0) with
          | true =>
           rw [hy,cond_true] at h;exact Bool.noConfusion (hy.symm.trans h)
          | false =>
           rw [hy,cond_false] at h;rw [cond_false];cases hs:((Q80 ((QD0 s n).1) false).2.2 != 0) with
           | true =>
            rw [hs] at h;cases hc:((Qn2 ((QD0 s n).1) n.job)!=(Qn2 s n.job)) <;> rw [hc] at h <;> exact absurd h (by simp only [cond_true,cond_false];rw [hs];decide)
           | false =>
            have:=((say_kp hy).trans (QQ9 hs)).hd n;cases ((Qn2 ((QD0 s n).1) n.job)!=(Qn2 s n.job)) <;> exact this
theorem freed_g1 {s:State} {n:Note} (ha:QS4=true) (h:HdL n s.nodes (QH0 s n).1.nodes):∀ (l:List Node) (i:Nat),s.nodes.drop i=l->Qq3 s n l i=true
 | [],_,_=>ha
 | x :: r,i,hd=>by
  obtain ⟨q1,q2⟩:=drop_cons_get zF hd;have hlt:i<s.nodes.length:=by
   have:=congrArg List.length hd;simp only [yEa,yLa] at this;omega
  have hr:=h.2 i hlt;rw [q1] at hr;rw [Qq3];generalize (QH0 s n).1.nodes.getD i zF=y at hr ⊢;obtain ⟨he,hr⟩:=hr;have c1:(((x.state != 0)&&(y.state==0))&&(!((((i:Int)==n.node)&&(x.epoch==n.epoch))&&(((n.kind==10)&&(x.state==3))||((n.kind==13)&&(x.state==4))))))=false:=by
   rcases hr with hr|⟨e1,e2,e3⟩
   ·cases q:((x.state != 0)&&(y.state==0)) with
    | false=>rfl
    | true =>
     simp only [yha,bne_iff_ne,ne_eq,beq_iff_eq] at q;exact absurd (hr.1 q.2) q.1
   ·rw [e1,e2];rcases e3 with ⟨e3,e4⟩|⟨e3,e4⟩ <;> rw [e3,e4] <;> simp
  have c2:(((((y.state==1)&&((x.state != 1)||(x.job != y.job)))&&(!((x.state==2)&&(x.job==y.job))))&&(x.state != 0))&&(!((((i:Int)==n.node)&&(x.epoch==n.epoch))&&(((n.kind==10)&&(x.state==3))||((n.kind==13)&&(x.state==4))))))=false:=by
   rcases hr with hr|⟨e1,e2,e3⟩
   ·cases q:((((y.state==1)&&((x.state != 1)||(x.job != y.job)))&&(!((x.state==2)&&(x.job==y.job))))&&(x.state != 0)) with
    | false=>rfl
    | true =>
     simp only [yha,yQa,bne_iff_ne,ne_eq,beq_iff_eq,ydb,Bool.and_eq_false_iff,beq_eq_false_iff_ne] at q;have:=hr.2.1 q.1.1.1;omega
   ·rw [e1,e2];rcases e3 with ⟨e3,e4⟩|⟨e3,e4⟩ <;> rw [e3,e4] <;> simp
  rw [c1,cond_false,c2,cond_false,y7b (show ¬ y.epoch<x.epoch by omega),cond_false];exact freed_g1 ha h r (i+1) q2
theorem heedFreed_true {s:State} {n:Note} (ha:QS4=true):QS5 s n=true:=by
 unfold QS5;cases hf:(!(Qu8 s)) with
 | true=>exact ha
 | false =>
  rw [cond_false];cases he:((QH0 s n).2.2 != 0) with
  | true=>rw [Bool.true_or,cond_true,ha];rfl
  | false =>
   have h:=heed_hd he;rw [h.1];simp only [bne_self_eq_false,Bool.or_self,cond_false];exact freed_g1 ha h s.nodes 0 rfl
end Go.Proofs.YtgnlcjenoaoffaaGreatDoor
namespace Go.Proofs.YtgnlcjenoaoffaaGreatDoor
set_option linter.unusedSimpArgs false
set_option linter.unusedVariables false
open Go.Fw
set_option maxRecDepth 100000
theorem heed_awake:QS4=true:=by kernel_rfl
end Go.Proofs.YtgnlcjenoaoffaaGreatDoor
namespace Go.Fw
set_option linter.unusedSimpArgs false
set_option linter.unusedVariables false
open Go.RowKit Go.ChangeShapes Go.WideShapes Go.Deep
theorem Qoe {C:Checked} {os:Os} {f:FuncId} {fn:Func} {s:ChangeSpec} {laid0:List (String × DataW Unit)} {conds:List PathCond} {apart fresh handsOn again:Bool} {H:Type} {enc:TypeId × Value->H} {Q:List AVal->Prop} {tb:TypeId}
  (own:ownKnob C.prog.godebug=none) (started:os.Started) (noInit:C.prog.inits.idxOf? f=none) (hfn:C.prog.funcs[f]? = some fn)
  (witness:∃ (w:World) (tape:Tape) (i:Input),w.os=os∧(w.forCall tape i).Shaped C.prog∧i.vars=[]∧Input.okWide C.prog (w.forCall tape i) .any w.heap.size f i ∧
   ((s.pre enc C.prog fn conds apart (w.forCall tape i).memory i.args∧laidMetH C.prog laid0 (w.forCall tape i).memory)∧sizedMet enc C.prog fn (OpenSpec.ofChange s) apart (w.forCall tape i).memory i.args)∧({}:Assume).holds C.prog (lone (Frame.enter C.prog f i.args .normal) [] (w.forCall tape i)))
  (hvars:s.vars=[]) (hres:fn.resultTypes = #[tb]) (hbool:C.prog.underlying tb=some .bool) (laid:laidOutB C.prog=true)
  (hts:fn.params.toList.all (fun t=>C.prog.readableRec t&&decide (t<C.prog.types.size))=true)
  (hspec:∀ ds:List (DataW H),ds.length=fn.params.size->s.fn H ds={ results:=[.lit (.bool true)],args:=ds })
  (hargs:ArgsAs C.prog fn.params.toList Q) (hlaw:∀ l,Q l->AGives C.prog f l [] (.lit (.bool true))) :
  ReturnsInHanded {} C os f .any (fun w args=>(s.pre enc C.prog fn conds apart w args∧laidMetH C.prog laid0 w)∧sizedMet enc C.prog fn (OpenSpec.ofChange s) apart w args) (s.post enc C.prog fn apart fresh handsOn again):=by
 refine returnsInHanded_of_change_and (X:=fun w _=>laidMetH C.prog laid0 w) (fun _ _ _ hh h=>h.of_heap hh) own started noInit hfn witness ?_;intro W base args ds gs before hval hW hcnd _ _ _;have hW':=hW;obtain ⟨p,q,hA,hV,hpq,hfz,hnd⟩:=hW;rw [hvars] at hV;obtain ⟨rfl,rfl⟩:=trodVars_none hV;rw [yub] at hpq;subst hpq;obtain ⟨l,hQ,hreps⟩:=hargs.read (base:=base) (vs:=args.toList) (fun j t v hj hv=>hval j t v (by simpa using hj) (by simpa using hv)) hA;have hc:=law_calls (hlaw l hQ) hreps;rw [show args.toList.toArray=args by simp] at hc;refine hc.mono fun e W' ⟨he,hb⟩=>?_
 subst he;have hlen:ds.length=fn.params.size:=by
  have:∀ {ts:List TypeId} {vs:List Value} {ds:List (DataW H)} {ps:List MemPlace},DataW.TrodAll enc C.prog W 0 (fun _=>true) true ts vs ds ps->ds.length=ts.length:=by
   intro ts
   induction ts with
   | nil=>intro vs ds ps h;obtain ⟨rfl,rfl,rfl⟩:=trodAll_nil h;rfl
   | cons t ts ih=>intro vs ds ps h;obtain ⟨v,vs',d,ds',p,q,rfl,rfl,rfl,hd,hrest⟩:=trodAll_cons h;simp [ih hrest]
  simpa using this hA
 have hfn2:=hspec ds hlen;have hold:∀ p ∈ before,p.block<W.heap.size:=fun p hp=>by simpa using hW'.lt p hp
 have hR:∀ (b:Nat) (sp:Nat->Bool) (hd:Bool),DataW.TrodAll enc C.prog W' b sp hd fn.resultTypes.toList ((Value.bool true).resultList fn.resultTypes.size) (s.fn H (ds++[])).results []:=by
  intro b sp hd;rw [yub,hfn2,hres];exact trodAll_cons_mk (shut_bool hbool _) trodAll_mk0
 have hAr:∀ sp:Nat->Bool,(∀ p ∈ before,sp p.block=true)->DataW.TrodAll enc C.prog W' 0 sp true fn.params.toList args.toList (s.fn H (ds++[])).args before:=by
  intro sp hsp;rw [yub,hfn2];exact QOb laid hb hts hA hold hsp
 have hVr:∀ sp:Nat->Bool,DataW.TrodVars enc C.prog W' sp s.vars (s.fn H (ds++[])).vars []:=by
  intro sp;rw [yub,hfn2,hvars]
  rfl
 refine ⟨_,rfl,ds,[],before,[],before,[],hW',hR _ _ _,hAr _ (fun p hp=>by simpa using hold p hp),hVr _,hb.frame _,fun _=>⟨ok_one hres rfl (okWide_bool_mk hbool _),_,_,([]++before)++[],⟨[]++before,[],trodAll_append (hAr _ (fun _ _=>rfl)) (hR _ _ _),hVr _,rfl,?_,?_⟩,?_⟩⟩
 ·intro b off hp;have hp:MemPlace.cell b off ∈ before:=by simpa using hp
  rw [hb.frozen (p:=⟨b,off,none⟩) (hold _ hp)];exact hfz b off (by simpa using hp)
 ·intro ha;simpa using hnd ha
 ·intro p hp _;simpa using hp
end Go.Fw
namespace Go.Proofs.YtgnlcjenoaoffaaGreatDoor
set_option linter.unusedSimpArgs false
set_option linter.unusedVariables false
open Go.Fw
set_option maxRecDepth 100000
theorem ty3:Tryz.prog.underlying 53 = some (.int .u64):=by kernel_rfl
theorem ty2:Tryz.prog.underlying 9 = some (.string):=by kernel_rfl
theorem ty1:Tryz.prog.underlying 4 = some (.bool):=by kernel_rfl
theorem ty0:Tryz.prog.underlying 3 = some (.int .i64):=by kernel_rfl
def Node.wf (x:Node):Prop:=(Lit.int .i64 x.state).wf=true∧(Lit.int .i64 x.job).wf=true∧(Lit.int .i64 x.epoch).wf=true∧True∧(Lit.int .i64 x.want).wf=true∧(Lit.int .i64 x.since).wf=true∧(Lit.int .i64 x.asked).wf=true∧True
theorem readNode:ReadAs Tryz.prog 40 Node.cells Node.wf:=by
 have h:=ReadAs.struct (P:=Tryz.prog) (t:=40) rfl (by kernel_rfl) (.cons rfl (ReadAs.int ty0) (.cons rfl (ReadAs.int ty0) (.cons rfl (ReadAs.int ty0) (.cons rfl (ReadAs.bool ty1) (.cons rfl (ReadAs.int ty0) (.cons rfl (ReadAs.int ty0) (.cons rfl (ReadAs.int ty0) .nil)))))));exact h.map (fun p=>(⟨p.1,p.2.1,p.2.2.1,p.2.2.2.1,p.2.2.2.2.1,p.2.2.2.2.2.1,p.2.2.2.2.2.2.1⟩:Node)) (fun _=>rfl) (fun _ h=>h)
theorem readNodes:ReadAs Tryz.prog 22 (fun l=>[nodeL l]) fun l=>l.length<=maxLen ∧ ∀ a ∈ l,Node.wf a :=
 ReadAs.slice zF rfl (by kernel_rfl) (by decide) readNode (fun _=>rfl)
def Alt.wf (x:Alt):Prop:=(Lit.int .i64 x.nodes).wf=true∧(Lit.int .i64 x.wall).wf=true∧True
theorem readAlt:ReadAs Tryz.prog 103 Alt.cells Alt.wf:=by
 have h:=ReadAs.struct (P:=Tryz.prog) (t:=103) rfl (by kernel_rfl) (.cons rfl (ReadAs.int ty0) (.cons rfl (ReadAs.int ty0) .nil));exact h.map (fun p=>(⟨p.1,p.2.1⟩:Alt)) (fun _=>rfl) (fun _ h=>h)
theorem readAlts:ReadAs Tryz.prog 49 (fun l=>[altL l]) fun l=>l.length<=maxLen ∧ ∀ a ∈ l,Alt.wf a :=
 ReadAs.slice zA rfl (by kernel_rfl) (by decide) readAlt (fun _=>rfl)
def Shape.wf (x:Shape):Prop:=(Lit.int .i64 x.kind).wf=true∧(x.alts.length<=maxLen ∧ ∀ a ∈ x.alts,Alt.wf a)∧(Lit.int .i64 x.min).wf=true∧(Lit.int .i64 x.max).wf=true∧(Lit.int .i64 x.wall).wf=true∧True
theorem readShape:ReadAs Tryz.prog 51 Shape.cells Shape.wf:=by
 have h:=ReadAs.struct (P:=Tryz.prog) (t:=51) rfl (by kernel_rfl) (.cons rfl (ReadAs.int ty0) (.cons rfl (readAlts) (.cons rfl (ReadAs.int ty0) (.cons rfl (ReadAs.int ty0) (.cons rfl (ReadAs.int ty0) .nil)))));exact h.map (fun p=>(⟨p.1,p.2.1,p.2.2.1,p.2.2.2.1,p.2.2.2.2.1⟩:Shape)) (fun _=>rfl) (fun _ h=>h)
def Dep.wf (x:Dep):Prop:=(Lit.int .i64 x.how).wf=true∧(Lit.int .i64 x.job).wf=true∧True
theorem readDep:ReadAs Tryz.prog 106 Dep.cells Dep.wf:=by
 have h:=ReadAs.struct (P:=Tryz.prog) (t:=106) rfl (by kernel_rfl) (.cons rfl (ReadAs.int ty0) (.cons rfl (ReadAs.int ty0) .nil));exact h.map (fun p=>(⟨p.1,p.2.1⟩:Dep)) (fun _=>rfl) (fun _ h=>h)
theorem readDeps:ReadAs Tryz.prog 52 (fun l=>[depL l]) fun l=>l.length<=maxLen ∧ ∀ a ∈ l,Dep.wf a :=
 ReadAs.slice zC rfl (by kernel_rfl) (by decide) readDep (fun _=>rfl)
def Job.wf (x:Job):Prop:=(Lit.int .i64 x.id).wf=true∧x.name.size<=maxLen∧x.user.size<=maxLen∧x.account.size<=maxLen∧Shape.wf x.shape∧(Lit.int .i64 x.prio).wf=true∧(x.after.length<=maxLen ∧ ∀ a ∈ x.after,Dep.wf a)∧(Lit.int .i64 x.state).wf=true∧True∧(Lit.int .i64 x.born).wf=true∧(Lit.int .i64 x.promise).wf=true∧(Lit.int .i64 x.choice).wf=true∧(Lit.int .i64 x.start).wf=true∧(Lit.int .i64 x.limit).wf=true∧(Lit.int .u64 x.nodes).wf=true∧(Lit.int .i64 x.used).wf=true∧True
theorem readJob:ReadAs Tryz.prog 55 Job.cells Job.wf:=by
 have h:=ReadAs.struct (P:=Tryz.prog) (t:=55) rfl (by kernel_rfl) (.cons rfl (ReadAs.int ty0) (.cons rfl (ReadAs.string ty2) (.cons rfl (ReadAs.string ty2) (.cons rfl (ReadAs.string ty2) (.cons rfl (readShape) (.cons rfl (ReadAs.int ty0) (.cons rfl (readDeps) (.cons rfl (ReadAs.int ty0) (.cons rfl (ReadAs.bool ty1) (.cons rfl (ReadAs.int ty0) (.cons rfl (ReadAs.int ty0) (.cons rfl (ReadAs.int ty0) (.cons rfl (ReadAs.int ty0) (.cons rfl (ReadAs.int ty0) (.cons rfl (ReadAs.int ty3) (.cons rfl (ReadAs.int ty0) .nil))))))))))))))));exact h.map (fun p=>(⟨p.1,p.2.1,p.2.2.1,p.2.2.2.1,p.2.2.2.2.1,p.2.2.2.2.2.1,p.2.2.2.2.2.2.1,p.2.2.2.2.2.2.2.1,p.2.2.2.2.2.2.2.2.1,p.2.2.2.2.2.2.2.2.2.1,p.2.2.2.2.2.2.2.2.2.2.1,p.2.2.2.2.2.2.2.2.2.2.2.1,p.2.2.2.2.2.2.2.2.2.2.2.2.1,p.2.2.2.2.2.2.2.2.2.2.2.2.2.1,p.2.2.2.2.2.2.2.2.2.2.2.2.2.2.1,p.2.2.2.2.2.2.2.2.2.2.2.2.2.2.2.1⟩:Job)) (fun _=>rfl) (fun _ h=>h)
theorem readJobs:ReadAs Tryz.prog 23 (fun l=>[jobL l]) fun l=>l.length<=maxLen ∧ ∀ a ∈ l,Job.wf a :=
 ReadAs.slice zG rfl (by kernel_rfl) (by decide) readJob (fun _=>rfl)
def Resize.wf (x:Resize):Prop:=(Lit.int .i64 x.job).wf=true∧True∧(Lit.int .u64 x.nodes).wf=true∧(Lit.int .u64 x.said).wf=true∧(Lit.int .i64 x.since).wf=true∧True
theorem readResize:ReadAs Tryz.prog 89 Resize.cells Resize.wf:=by
 have h:=ReadAs.struct (P:=Tryz.prog) (t:=89) rfl (by kernel_rfl) (.cons rfl (ReadAs.int ty0) (.cons rfl (ReadAs.bool ty1) (.cons rfl (ReadAs.int ty3) (.cons rfl (ReadAs.int ty3) (.cons rfl (ReadAs.int ty0) .nil)))));exact h.map (fun p=>(⟨p.1,p.2.1,p.2.2.1,p.2.2.2.1,p.2.2.2.2.1⟩:Resize)) (fun _=>rfl) (fun _ h=>h)
theorem readResizes:ReadAs Tryz.prog 24 (fun l=>[Qh1 l]) fun l=>l.length<=maxLen ∧ ∀ a ∈ l,Resize.wf a :=
 ReadAs.slice zH rfl (by kernel_rfl) (by decide) readResize (fun _=>rfl)
def Book.wf (x:Book):Prop:=(Lit.int .i64 x.id).wf=true∧(Lit.int .i64 x.from_).wf=true∧(Lit.int .i64 x.to).wf=true∧(Lit.int .i64 x.nodes).wf=true∧True
theorem readBook:ReadAs Tryz.prog 57 Book.cells Book.wf:=by
 have h:=ReadAs.struct (P:=Tryz.prog) (t:=57) rfl (by kernel_rfl) (.cons rfl (ReadAs.int ty0) (.cons rfl (ReadAs.int ty0) (.cons rfl (ReadAs.int ty0) (.cons rfl (ReadAs.int ty0) .nil))));exact h.map (fun p=>(⟨p.1,p.2.1,p.2.2.1,p.2.2.2.1⟩:Book)) (fun _=>rfl) (fun _ h=>h)
theorem readBooks:ReadAs Tryz.prog 25 (fun l=>[bookL l]) fun l=>l.length<=maxLen ∧ ∀ a ∈ l,Book.wf a :=
 ReadAs.slice zI rfl (by kernel_rfl) (by decide) readBook (fun _=>rfl)
def Usage.wf (x:Usage):Prop:=x.user.size<=maxLen∧x.account.size<=maxLen∧(Lit.int .i64 x.used).wf=true∧(Lit.int .i64 x.share).wf=true∧True
theorem readUsage:ReadAs Tryz.prog 86 Usage.cells Usage.wf:=by
 have h:=ReadAs.struct (P:=Tryz.prog) (t:=86) rfl (by kernel_rfl) (.cons rfl (ReadAs.string ty2) (.cons rfl (ReadAs.string ty2) (.cons rfl (ReadAs.int ty0) (.cons rfl (ReadAs.int ty0) .nil))));exact h.map (fun p=>(⟨p.1,p.2.1,p.2.2.1,p.2.2.2.1⟩:Usage)) (fun _=>rfl) (fun _ h=>h)
theorem readUsages:ReadAs Tryz.prog 26 (fun l=>[Qt1 l]) fun l=>l.length<=maxLen ∧ ∀ a ∈ l,Usage.wf a :=
 ReadAs.slice zJ rfl (by kernel_rfl) (by decide) readUsage (fun _=>rfl)
def State.wf (x:State):Prop:=(Lit.int .i64 x.now).wf=true∧(x.nodes.length<=maxLen ∧ ∀ a ∈ x.nodes,Node.wf a)∧(x.jobs.length<=maxLen ∧ ∀ a ∈ x.jobs,Job.wf a)∧(x.resizes.length<=maxLen ∧ ∀ a ∈ x.resizes,Resize.wf a)∧(x.books.length<=maxLen ∧ ∀ a ∈ x.books,Book.wf a)∧(x.ledger.length<=maxLen ∧ ∀ a ∈ x.ledger,Usage.wf a)∧(Lit.int .i64 x.nextJob).wf=true∧(Lit.int .i64 x.nextBook).wf=true∧True
theorem readState:ReadAs Tryz.prog 28 State.cells State.wf:=by
 have h:=ReadAs.struct (P:=Tryz.prog) (t:=28) rfl (by kernel_rfl) (.cons rfl (ReadAs.int ty0) (.cons rfl (readNodes) (.cons rfl (readJobs) (.cons rfl (readResizes) (.cons rfl (readBooks) (.cons rfl (readUsages) (.cons rfl (ReadAs.int ty0) (.cons rfl (ReadAs.int ty0) .nil))))))));exact h.map (fun p=>(⟨p.1,p.2.1,p.2.2.1,p.2.2.2.1,p.2.2.2.2.1,p.2.2.2.2.2.1,p.2.2.2.2.2.2.1,p.2.2.2.2.2.2.2.1⟩:State)) (fun _=>rfl) (fun _ h=>h)
def Note.wf (x:Note):Prop:=(Lit.int .i64 x.kind).wf=true∧(Lit.int .i64 x.node).wf=true∧(Lit.int .i64 x.job).wf=true∧(Lit.int .i64 x.epoch).wf=true∧True
theorem readNote:ReadAs Tryz.prog 30 Note.cells Note.wf:=by
 have h:=ReadAs.struct (P:=Tryz.prog) (t:=30) rfl (by kernel_rfl) (.cons rfl (ReadAs.int ty0) (.cons rfl (ReadAs.int ty0) (.cons rfl (ReadAs.int ty0) (.cons rfl (ReadAs.int ty0) .nil))));exact h.map (fun p=>(⟨p.1,p.2.1,p.2.2.1,p.2.2.2.1⟩:Note)) (fun _=>rfl) (fun _ h=>h)
end Go.Proofs.YtgnlcjenoaoffaaGreatDoor
namespace Go.Proofs.YtgnlcjenoaoffaaGreatDoor
set_option linter.unusedSimpArgs false
set_option linter.unusedVariables false
open Go.Fw
theorem Shape.wf_szM {x:Shape} (h:x.wf):x.szM:=h.2.1.1
theorem Job.wf_szM {x:Job} (h:x.wf):x.szM:=⟨h.2.1,h.2.2.1,h.2.2.2.1,Shape.wf_szM h.2.2.2.2.1,h.2.2.2.2.2.2.1.1⟩
theorem Usage.wf_szM {x:Usage} (h:x.wf):x.szM:=⟨h.1,h.2.1⟩
theorem State.wf_szM {x:State} (h:x.wf):x.szM :=
 ⟨h.2.1.1,h.2.2.1.1,fun y hy=>Job.wf_szM (h.2.2.1.2 y hy),h.2.2.2.1.1,h.2.2.2.2.1.1,h.2.2.2.2.2.1.1,fun y hy=>Usage.wf_szM (h.2.2.2.2.2.1.2 y hy)⟩
end Go.Proofs.YtgnlcjenoaoffaaGreatDoor
