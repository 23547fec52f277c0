/-
  A round's body in the frame of a range over a function: what the plain walk shows of a region holds there too. Program-independent.
  The data of the program as Lean structures, and their cells. Definitions; no condition.
  Small facts on bytes and runes that contracts lean on. No condition beyond those that stand in each.
  strings.Builder: what copyCheck and String do, in the world. No condition but that the builder lies there.
  strings.Builder: contracts over objects. No condition beyond those that stand in each.
  strings.Builder: String. No condition beyond those that stand in each.
  shape.sizes: the iterator's contract: it yields the sizes from the greatest down. The bounds are those of a shape that may be.
  strings.Builder: a string is written; a builder that is the one field of a struct. No condition beyond those that stand in each.
  Small proofs that stand in many places, each once: theorems whose premise is proved by the tactic in their statement.
  Contracts of functions, printed by a program of this repo (wip/dec). No condition beyond those that stand in each.
-/
import Derived.Test.YtgjcljceccfgjaaGreatDoorG6
import Derived.RangeFuncFrom
import Derived.RangeFuncCalls
import Derived.RangeFuncLeaves
import Derived.TacticsIn
import Derived.Test.YtgjcljceccfgjaaGreatDoorProg
import Derived.Laws.RangeString
import Derived.Laws.RangeAny
import Derived.Lib.Strings
import Derived.Lib.Slices
import Derived.Lib.Walk
import Derived.Lib.Bytealg
import Derived.Shelf.Strings.BuilderX
import Derived.Shelf.RegionOpenPlain
import Derived.Lib.Builder
import Derived.Lib.AppendStr
import Derived.Lib.UnsafeStr
import Derived.Lib.MakeNoZero
import Derived.WalkKit
import Derived.Laws.Externs
import Derived.Laws.IdiomCopy
import Derived.Laws.BitsLemmas
import Derived.KernelRfl
import Derived.RangeFuncBound
import Derived.Shelf.Abstract
import Derived.Shelf.RegionOpen
import Derived.OwnWalkIn
import Derived.TacticsInMore
import Derived.LoopNIn
import Derived.LoopIn
namespace Go.Fw
set_option linter.unusedSimpArgs false
set_option linter.unusedVariables false
open Go.RowKit
theorem Qof {P:Program} {l n:Nat} {ops:Array Oper} {Q:Exit->Act->World->Prop} (hQ:¬ LetsOut Q) (hop:∀ o ∈ ops.toList,∀ c,o.op ≠ .defer c):∀ (is:List Nat) (a:Act) (w:World),
  wpOps P ops Q is a w->wpOpsIn (Fence.wide.inRound l) n P ops Q is a w
 | [],a,w,h=>h
 | i :: rest,a,w,h=>by
  simp only [wpOps] at h
  simp only [wpOpsIn]
  cases ho:ops[i]? with
  | none =>
   simp only [ho] at h ⊢
   exact Qof hQ hop rest a w h
  | some o =>
   simp only [ho] at h ⊢
   by_cases hw:Region.wanted o (yielded ops a.tmps)=true
   ·simp only [hw,if_true] at h ⊢
    rcases h with h|⟨_,h⟩
    ·refine ⟨fun _ _=>trivial,?_⟩
     have hm:o ∈ ops.toList:=List.mem_of_getElem? (by simpa using ho)
     rw [Fence.inRound_round,Oper.semAt_some l _ o (hop o hm)]
     unfold Oper.wp at h
     have ih:=fun a w=>Qof (P:=P) (l:=l) (n:=n) hQ hop rest a w
     revert h
     generalize (execOp a.eval o).run P w=r
     intro h
     cases r with
     | ok nx w' =>
      cases nx with
      | value v=>exact ih _ _ h
      | skip=>exact ih _ _ h
      | defer d=>exact ih _ _ h
      | enter f args =>
       refine ⟨fun hd=>by simp [Fence.inRound,Fence.wide] at hd,?_⟩
       refine CallsIn.inRound l (callsIn_wide.2 ?_)
       refine Calls.mono h ?_
       intro e w'' hr
       cases e with
       | returned v=>exact ih _ _ hr
       | panicked chain=>exact hr
       | outgrown=>exact hr
      | row row args =>
       refine ⟨fun hd=>by simp [Fence.inRound,Fence.wide] at hd,fun c cs _=>?_⟩
       obtain ⟨v,w'',hr,hs⟩:=h c cs
       exact ⟨v,w'',ih _ _ hr,stepsIn_wide.2 hs⟩
      | _=>exact h.elim
     | halt r w' =>
      cases r with
      | panic v=>exact h
      | _=>exact h.elim
    ·exact absurd h hQ
   ·simp only [hw,Bool.false_eq_true,if_false] at h ⊢
    exact ⟨fun _ _=>trivial,Qof hQ hop rest _ w h⟩
theorem MemSat.cells {K:Ctx} {s:Objs} {w:World} (h:MemSat K s w) {o:Nat} {q:Nat × AObj} (hq:s[o]? = some q) (hl:q.2.live=true) (hC:K.C o q.1 ≠ 0) (hr:∃ t k es,q.2 = .row t k es):∃ c t fr,w.heap[K.ρ o q.1]? = some (.cells c t fr):=by
 obtain ⟨ver,x⟩:=q
 obtain ⟨t,k,es,rfl⟩:=hr
 obtain ⟨_,_,h3⟩:=h.obj o _ hq
 obtain ⟨c,⟨fr,_,hc⟩,_⟩:=h3 hC
 exact ⟨c,t,fr,hc⟩
theorem cells_of_cell {w:World} {b i:Nat} {u:Value} (h:w.cell? ⟨b,i,none⟩=some u):∃ c t fr,w.heap[b]? = some (.cells c t fr):=by
 unfold World.cell? at h
 split at h
 ·rename_i c t fr e
  exact ⟨c,t,fr,e⟩
 ·simp at h
theorem MemSat.turned {K:Ctx} {s:Objs} {W W':World} {row:Option Nat} {B0:Nat} (h:MemSat K s W) (hrows:∀ q ∈ s,q.2.live=true -> ∃ t k es,q.2 = .row t k es) (hB:∀ b x,K.B b=some x->b<B0)
  (hg:W.grownBy W' row) (hr:∀ r,row=some r->B0<=r ∧ ∃ o:Obj,W.heap[r]? = some o∧o.isCells=false):MemSat K s W':=by
 have same:∀ (b:Nat) (c:Array Value) (t:TypeId) (fr:Nat × Nat),W.heap[b]? = some (.cells c t fr)->W'.heap[b]? = W.heap[b]?:=by
  intro b c t fr hb
  refine hg.block b (Array.getElem?_eq_some_iff.1 hb).1 fun e=>?_
  obtain ⟨_,o,ho,hn⟩:=hr b e.symm
  rw [hb] at ho
  cases ho
  simp [Obj.isCells] at hn
 have own:∀ (o:Nat) (p:Nat × AObj),s[o]? = some p->p.2.live=true->K.C o p.1 ≠ 0->W'.heap[K.ρ o p.1]? = W.heap[K.ρ o p.1]?:=by
  intro o p hp hl hC
  obtain ⟨c,t,fr,hc⟩:=h.cells hp hl hC (hrows p (List.mem_of_getElem? hp) hl)
  exact same _ _ _ _ hc
 refine ⟨h.len,h.ver,fun o p hp=>ObjSat.mono (Ctx.le.refl K) (h.olt hp) (by rw [h.ver o p hp];exact Nat.le_refl _) (h.obj o p hp) (fun hl hC=>own o p hp hl hC),fun o p hp hl hC=>?_,h.dis,fun b i u hu=>?_,?_⟩
 ·obtain ⟨h1,h2,h3⟩:=h.lo o p hp hl hC
  exact ⟨h1,Nat.lt_of_lt_of_le h2 hg.size,h3⟩
 ·obtain ⟨h1,h2⟩:=h.mem b i u hu
  obtain ⟨c,t,fr,hc⟩:=cells_of_cell h1
  exact ⟨(World.cell?_of_block (a:=⟨b,i,none⟩) (same _ _ _ _ hc)).trans h1,h2⟩
 ·refine h.below.step rfl rfl hg.os hg.tape hg.output hg.size fun b x hx=>hg.block b (h.below.lt hx) fun e=>?_
  have:=(hr b e.symm).1
  have:=hB b x hx
  omega
def QI7 (B:Nat->Option Obj) (W:World) (b:Nat):Option Obj :=
 match B b with
 | some x=>some x
 | none=>match W.heap[b]? with|some (.cells ..)=>none|some x=>some x|none=>none
theorem QSd {B:Nat->Option Obj} {W:World} {b:Nat} {x:Obj} (h:B b=some x):QI7 B W b=some x:=by simp only [QI7,h]
theorem roundB_cells {B:Nat->Option Obj} {W:World} {b:Nat} {c:Array Value} {t:TypeId} {fr:Nat × Nat} (h:B b=none) (hb:W.heap[b]? = some (.cells c t fr)):QI7 B W b=none:=by simp only [QI7,h,hb]
theorem roundB_heap {B:Nat->Option Obj} {W:World} {b:Nat} {x:Obj} (h:QI7 B W b=some x):B b=some x∨(W.heap[b]? = some x∧x.isCells=false):=by
 unfold QI7 at h
 split at h
 ·rename_i y hy
  simp only [Option.some.injEq] at h
  subst h
  exact .inl hy
 ·right
  split at h
  ·cases h
  ·rename_i y hne hy
   simp only [Option.some.injEq] at h
   subst h
   refine ⟨hy,?_⟩
   cases y with
   | cells c t fr=>exact (hne _ _ _ rfl).elim
   | _=>rfl
  ·cases h
theorem roundB_same {B:Nat->Option Obj} {W W':World} (hp:∀ b x,QI7 B W b=some x->W'.heap[b]? = some x) (hB:∀ b x,B b=some x->W.heap[b]? = some x) (hsz:W.heap.size<=W'.heap.size):KeepsOthers W W':=by
 refine ⟨hsz,fun k o hk hn=>hp k o ?_⟩
 unfold QI7
 split
 ·rename_i x hx
  rw [hB k x hx] at hk
  simpa using hk
 ·rw [hk]
  cases o with
  | cells c t fr=>simp [Obj.isCells] at hn
  | _=>rfl
section
variable {P:Program} {nt n0:Nat}
def RoundI (nt:Nat) (K0 K:Ctx) (slots:List (Nat × AVal)) (objs:Objs) (tmps:Array Value) (W:World):Prop :=
 ∃ K1:Ctx,K0.le K1∧K1.B=K.B∧Sat nt K1 ⟨slots,objs⟩ { tmps:=tmps,defers:=[] } W
theorem rangeW_region {α:Type} {g:Operand} {p q aid bid rid:Nat} {oa:Oper} {ops:Array Oper} {s:St} (e:α->Value) (S:List α->Prop) (N:Nat) (so:List α->Objs) (h0:so []=s.objs) (hp:p<nt) (hq:q<nt)
  (hoa:oa.op = .assign (.tmp p)) (hod:oa.dst=some q) (hog:oa.guard=none) (hfree:QC2 s.slots p = .any)
  (hrows:∀ xs q,q ∈ so xs->q.2.live=true -> ∃ t k es,q.2 = .row t k es)
  (hit:∀ K a w,Sat nt K s a w -> ∃ (gf:Nat) (lb:Array Value) (pc:Addr) (u:Value),a.eval g = .func (.func gf) #[] lb∧(∀ args w,(callFunc gf args).run P w = .ok (.enter gf args) w)∧pc.block<w.heap.size ∧
   (∀ K1 xs W,Sat nt K1 ⟨s.slots,so xs⟩ { tmps:=a.tmps,defers:=[] } W->W.cell? pc=some u) ∧
   SeqStopsK Fence.wide 2 P gf lb (fun x=>#[e x]) (fun W W'=>W.cell? pc=some u->W'.cell? pc=some u) S (fun _=>True) N w)
  (hdefer:∀ o ∈ ops.toList,∀ c,o.op ≠ .defer c)
  (hbody:∀ pre x,pre.length<N->QY8 P nt ops ((q,.lit (e x)) :: s.slots) false ops.toList (Qrg ⟨(q,.lit (e x)) :: s.slots,so pre⟩) (fun rs=>Weaker nt n0 ⟨s.slots,rs.objs⟩ ⟨s.slots,so (pre++[x])⟩)) :
  RangeW P nt n0 (.rangeFunc g #[p] (.region aid #[oa] false) (.block bid (.region rid ops false))) (fun e t=>e = .normal ∧ ∃ xs,S xs∧t=⟨s.slots,so xs⟩) s:=by
 intro K0 K a w hn hle hs
 obtain ⟨gf,lb,pc,u,hg,eg,hpc,hkeep,hseq⟩:=hit K a w hs
 have hBlt:∀ b x,K.B b=some x->b<w.heap.size:=fun b x hx=>hs.mem.below.lt hx
 refine (wpIn_wide (n:=3)).1 (wpIn_rangeFunc_ownF (F:=Fence.wide) rfl (by decide) hg trivial eg hseq (fun h k q=>k (h q)) ?_ (Below.refl _ w) (fun _=>rfl)
  (fun xs W=>RoundI nt K0 K s.slots (so xs) a.tmps W) (fun _ _ _=>False) ?_ (fun _ _ _ _ _ h=>h.elim) ?_ (fun x=>{ tmps:=(a.tmps.setIfInBounds p (e x)).setIfInBounds q (e x),defers:=[] }) ?_ ?_ ?_ (fun _ _ _ _ _ _ h=>h.elim))
 ·intro W l o o' hl ho _ _ hc
  have hne:pc.block ≠ l:=by omega
  exact (World.cell?_of_block (World.putObj_heap_other hne)).trans hc
 ·rintro xs W W' row ⟨K1,hle1,hB1,hs1⟩ hg' hr
  exact ⟨K1,hle1,hB1,hs1.mem.turned (hrows xs) (fun b x hx=>hBlt b x (by rw [← hB1];exact hx)) hg' hr,hs1.slot,hs1.size,Marks.nil⟩
 ·exact ⟨K,hle,rfl,by rw [h0];exact hs.mem,hs.slot,hs.size,Marks.nil⟩
 ·intro l x W Kq hK
  refine wpIn_region ?_
  have hz:(#[p].zip #[e x]) = #[(p,e x)]:=by simp
  have hsz:a.tmps.size=nt:=hs.size
  have hv:(a.tmps.setIfInBounds p (e x)).getD p undef=e x:=by
   rw [Array.getD_eq_getD_getElem?,Array.getElem?_setIfInBounds_self_of_lt (by omega)]
   rfl
  simp only [hz]
  show wpOpsIn (Fence.wide.inRound l) _ P #[oa] _ [0] _ _
  simp only [wpOpsIn,List.getElem?_toArray,List.getElem?_cons_zero,Region.wanted,hog,if_true]
  refine ⟨fun f hf=>by simp [Oper.about,hoa] at hf,?_⟩
  rw [Oper.semAt_eq _ _ _ (by simp [hoa])]
  unfold execOp
  rw [hoa]
  show Kq (Act.put _ oa.dst _) W
  rw [hod]
  show Kq { tmps:=(a.tmps.setIfInBounds p (e x)).setIfInBounds q ((a.tmps.setIfInBounds p (e x)).getD p undef),defers:=[] } W
  rw [hv]
  exact hK
 ·rintro l pre x W ⟨K1,hle1,hB1,hs1⟩ hlen
  have hBW:∀ b y,K.B b=some y->W.heap[b]? = some y:=fun b y hy=>hs1.mem.below.block b y (by rw [hB1];exact hy)
  have hm2:MemSat { K1 with B:=QI7 K.B W,w0:=W } (so pre) W:=by
   refine hs1.mem.with _ W (fun o q hq hl hC=>?_) ⟨rfl,rfl,rfl,Nat.le_refl _,fun b y hy=>?_⟩
   ·obtain ⟨c,t,fr,hc⟩:=hs1.mem.cells hq hl hC (hrows pre q (List.mem_of_getElem? hq) hl)
    refine roundB_cells ?_ hc
    rw [← hB1]
    exact (hs1.mem.lo o q hq hl hC).1
   ·rcases roundB_heap hy with h|h
    ·exact hBW b y h
    ·exact h.1
  obtain ⟨Kb,hKb⟩:∃ Kb:Ctx,Kb={ K0 with B:=QI7 K.B W,w0:=W,M:=fun b i=>match QI7 K.B W b with|some _=>K1.M b i|none=>K0.M b i }:=⟨_,rfl⟩
  have hKbM:∀ b i u,K0.M b i=some u->Kb.M b i=some u:=by
   intro b i u hu
   rw [hKb]
   show (match QI7 K.B W b with|some _=>K1.M b i|none=>K0.M b i)=some u
   split
   ·exact hle1.M b i u hu
   ·exact hu
  have hKb0:∀ b i y,QI7 K.B W b=some y->Kb.M b i=K1.M b i:=by
   intro b i y hy
   rw [hKb]
   show (match QI7 K.B W b with|some _=>K1.M b i|none=>K0.M b i)=_
   rw [hy]
  have hleb:Kb.le { K1 with B:=QI7 K.B W,w0:=W }:=by
   refine ⟨fun b i u hu=>?_,by rw [hKb];exact hle1.ρ,by rw [hKb];exact hle1.C,by rw [hKb];exact hle1.n,by rw [hKb];exact hle1.vs,by rw [hKb],by rw [hKb];exact fun _ _ h=>h,fun b i y hy=>?_⟩
   ·rw [hKb] at hu
    show K1.M b i=some u
    change (match QI7 K.B W b with|some _=>K1.M b i|none=>K0.M b i)=some u at hu
    split at hu
    ·exact hu
    ·exact hle1.M b i u hu
   ·rw [hKb] at hy
    exact (hKb0 b i y hy).symm
  have hs2:Sat nt { K1 with B:=QI7 K.B W,w0:=W } ⟨(q,.lit (e x)) :: s.slots,so pre⟩ { tmps:=(a.tmps.setIfInBounds p (e x)).setIfInBounds q (e x),defers:=[] } W:=by
   refine ⟨hm2,fun t=>?_,by have:=hs1.size;simpa using this,Marks.nil⟩
   show Rep _ (QC2 ((q,.lit (e x)) :: s.slots) t) _
   have hsz:a.tmps.size=nt:=hs1.size
   rw [Q06]
   by_cases ht:q=t
   ·subst ht
    rw [if_pos rfl]
    have:((a.tmps.setIfInBounds p (e x)).setIfInBounds q (e x)).getD q undef=e x:=by
     rw [Array.getD_eq_getD_getElem?,Array.getElem?_setIfInBounds_self_of_lt (by simp;omega)]
     rfl
    simp only [this]
    exact .lit _
   ·rw [if_neg ht]
    by_cases hpt:p=t
    ·subst hpt
     rw [hfree]
     exact .any _
    ·have:((a.tmps.setIfInBounds p (e x)).setIfInBounds q (e x)).getD t undef=a.tmps.getD t undef:=by
      rw [Array.getD_eq_getD_getElem?,Array.getD_eq_getD_getElem?,Array.getElem?_setIfInBounds_ne ht,Array.getElem?_setIfInBounds_ne hpt]
     simp only [this]
     exact (hs1.slot t).monoR (Q98 K1 _ W)
  refine wpIn_block (wpIn_region ?_)
  refine Qof ?_ hdefer _ _ _ ?_
  ·rintro ⟨a',w',h⟩
   exact h
  rw [List.range_eq_range']
  refine QTa (K0:={ K1 with B:=QI7 K.B W,w0:=W }) (Kt:=fun rs=>Weaker nt n0 ⟨s.slots,rs.objs⟩ ⟨s.slots,so (pre++[x])⟩) ?_ ops.size 0 (by omega) _ _ _ _ (.refl _) hs2.start (by simpa using hbody pre x hlen)
  intro K2 rs a' w' hle2 hr hk
  have hs3:Sat nt K2 ⟨s.slots,rs.objs⟩ { tmps:=a.tmps,defers:=[] } w':=⟨hr.mem,fun t=>((hs1.slot t).monoR (Q98 K1 _ W)).mono hle2,hs1.size,Marks.nil⟩
  obtain ⟨K3,hle3,hs4⟩:=hk Kb K2 _ w' (by rw [hKb];exact hn) (hleb.trans hle2) hs3
  have hblock:∀ b y,QI7 K.B W b=some y->w'.heap[b]? = some y:=fun b y hy=>hs4.mem.below.block b y (hle3.B b y (by rw [hKb];exact hy))
  have hsz:W.heap.size<=w'.heap.size:=by have:=hs4.mem.below.size;rw [hle3.w0,hKb] at this;exact this
  have hmem:MemSat { K3 with B:=K.B,w0:=K0.w0 } (so (pre++[x])) w':=by
   refine hs4.mem.with K.B K0.w0 (fun o q hq hl hC=>?_) ?_
   ·cases hb:K.B (K3.ρ o q.1) with
    | none=>rfl
    | some y =>
     have:=hle3.B _ y (by rw [hKb];exact QSd hb)
     rw [(hs4.mem.lo o q hq hl hC).1] at this
     cases this
   ·have q:=hs4.mem.below
    have q1:=hs1.mem.below
    have e0:=hle1.w0
    have e3:K3.w0=W:=by rw [hle3.w0,hKb]
    refine ⟨?_,?_,?_,?_,fun b y hy=>hblock b y (QSd hy)⟩
    ·rw [q.os,e3,q1.os,e0]
    ·rw [q.tape,e3,q1.tape,e0]
    ·rw [q.output,e3,q1.output,e0]
    ·have:=q1.size;rw [e0] at this;exact Nat.le_trans this hsz
  have hI:RoundI nt K0 K s.slots (so (pre++[x])) a.tmps w':=by
   refine ⟨{ K3 with B:=K.B,w0:=K0.w0 },⟨fun b i u hu=>hle3.M b i u (hKbM b i u hu),by have:=hle3.ρ;rw [hKb] at this;exact this,by have:=hle3.C;rw [hKb] at this;exact this,by have:=hle3.n;rw [hKb] at this;exact this,by have:=hle3.vs;rw [hKb] at this;exact this,rfl,hle.B,fun b i y hy=>((hle3.M0 b i y (by rw [hKb];exact QSd (hle.B b y hy))).trans (hKb0 b i y (QSd (hle.B b y hy)))).trans (hle1.M0 b i y hy)⟩,rfl,hmem,fun t=>(hs4.slot t).monoR (Q98 K3 _ _),hs1.size,Marks.nil⟩
  refine ⟨roundB_same hblock hBW hsz,fun _=>?_,hI⟩
  obtain ⟨K4,_,_,hs5⟩:=hI
  exact hkeep K4 _ w' hs5
 ·rintro D xs W hD hS ⟨K1,hle1,hB1,hs1⟩ hk
  have hB2:∀ b y,K.B b=some y->(if b=D then some (Obj.deferred (some [])) else K.B b)=some y:=fun b y hy=>by
   have:=hBlt b y hy
   rw [if_neg (by omega)]
   exact hy
  refine ⟨.normal,{ K1 with B:=fun b=>if b=D then some (.deferred (some [])) else K.B b },⟨s.slots,so xs⟩,rfl,⟨hle1.M,hle1.ρ,hle1.C,hle1.n,hle1.vs,hle1.w0,fun b y hy=>hB2 b y (hle.B b y hy),hle1.M0⟩,⟨?_,fun t=>(hs1.slot t).monoR (Q98 K1 _ K1.w0),hs1.size,?_⟩,rfl,xs,hS,rfl⟩
  ·refine hs1.mem.with _ K1.w0 (fun o q hq hl hC=>?_) ?_
   ·obtain ⟨c,t,fr,hc⟩:=hs1.mem.cells hq hl hC (hrows xs q (List.mem_of_getElem? hq) hl)
    have hne:K1.ρ o q.1 ≠ D:=fun e=>by rw [e,hk] at hc;cases hc
    show (if K1.ρ o q.1=D then _ else _)=none
    rw [if_neg hne,← hB1]
    exact (hs1.mem.lo o q hq hl hC).1
   ·have q1:=hs1.mem.below
    refine ⟨q1.os,q1.tape,q1.output,q1.size,fun b y hy=>?_⟩
    by_cases hb:b=D
    ·subst hb
     simp only [if_true] at hy
     rw [hk]
     exact hy
    ·simp only [if_neg hb] at hy
     exact q1.block b y (by rw [hB1];exact hy)
  ·have hw0:K1.w0=K.w0:=hle1.w0.trans hle.w0.symm
   refine ⟨List.nodup_cons.2 ⟨fun hin=>?_,hs.defers.1⟩,fun d hd=>?_⟩
   ·obtain ⟨D',h1,h2,_⟩:=hs.defers.2 _ hin
    simp only [Deferred.mk.injEq,Target.collected.injEq,and_true] at h1
    subst h1
    have:=hBlt _ _ h2
    omega
   ·rcases List.mem_cons.1 hd with rfl|hd
    ·refine ⟨D,rfl,by simp,?_⟩
     show K1.w0.heap.size<=D
     rw [hw0]
     exact Nat.le_trans hs.mem.below.size hD
    ·obtain ⟨D',h1,h2,h3⟩:=hs.defers.2 d hd
     refine ⟨D',h1,hB2 _ _ h2,?_⟩
     show K1.w0.heap.size<=D'
     rw [hw0]
     exact h3
theorem range_next {α:Type} {g:Operand} {p q aid bid rid:Nat} {oa:Oper} {ops:Array Oper} {sl:List (Nat × AVal)} {o:Objs} {Q:CQ} (e:α->Value) (ys:List α) (so:List α->Objs) (h0:so []=o) (hp:p<nt) (hq:q<nt)
  (hoa:oa.op = .assign (.tmp p)) (hod:oa.dst=some q) (hog:oa.guard=none) (hfree:QC2 sl p = .any)
  (hrows:∀ xs q,q ∈ so xs->q.2.live=true -> ∃ t k es,q.2 = .row t k es)
  (hit:∀ K a w,Sat nt K ⟨sl,o⟩ a w -> ∃ (gf:Nat) (lb:Array Value) (pc:Addr) (u:Value),a.eval g = .func (.func gf) #[] lb∧(∀ args w,(callFunc gf args).run P w = .ok (.enter gf args) w)∧pc.block<w.heap.size ∧
   (∀ K1 xs W,Sat nt K1 ⟨sl,so xs⟩ { tmps:=a.tmps,defers:=[] } W->W.cell? pc=some u) ∧
   SeqStopsK Fence.wide 2 P gf lb (fun x=>#[e x]) (fun W W'=>W.cell? pc=some u->W'.cell? pc=some u) (fun zs=>zs=ys) (fun _=>True) ys.length w)
  (hdefer:(ops.toList.all fun o=>match o.op with | .defer _=>false|_=>true)=true)
  (hbody:∀ pre x,pre.length<ys.length->cops P nt ops ((q,.lit (e x)) :: sl) false ops.toList [] [] (so pre) (fun _ _ o=>Weaker nt n0 ⟨sl,o⟩ ⟨sl,so (pre++[x])⟩))
  (hQ:Q .normal sl (so ys)) :
  ∃ R:AExit->List (Nat × AVal)->Objs->Prop,RangeW P nt n0 (.rangeFunc g #[p] (.region aid #[oa] false) (.block bid (.region rid ops false))) (fun e t=>R e t.slots t.objs) ⟨sl,o⟩ ∧ ∀ e s o,R e s o->Q e s o:=by
 refine ⟨fun e s o=>e = .normal∧s=sl∧o=so ys,?_,?_⟩
 ·intro K0 K a w hn hle hs
  refine wp_mono (rangeW_region (P:=P) (nt:=nt) (n0:=n0) (s:=⟨sl,o⟩) e (fun zs=>zs=ys) ys.length so h0 hp hq hoa hod hog hfree hrows hit ?_ ?_ K0 K a w hn hle hs) ?_
  ·intro o ho c hc
   have:=List.all_eq_true.1 hdefer o ho
   rw [hc] at this
   cases this
  ·intro pre x hlen
   exact Qif (hbody pre x hlen)
  ·rintro e' a' w' ⟨e1,K1,s1,he,hle1,hs1,rfl,xs,rfl,rfl⟩
   exact ⟨.normal,K1,_,he,hle1,hs1,rfl,rfl,rfl⟩
 ·rintro e s o ⟨rfl,rfl,rfl⟩
  exact hQ
theorem told_same {n0:Nat} {r:AVal} {o:Objs}:Told n0 r o r o:=fun _ K _ _ _ hle hm hr=>⟨K,hle,hm,hr⟩
theorem box_cell {K:Ctx} {objs:Objs} {w:World} {o:Nat} {t:TypeId} {v:Value} (hm:MemSat K objs w) (ho:objs[o]? = some (0,.row t 1 [[.lit v]])):w.cell? ⟨K.ρ o 0,0,none⟩=some v∧K.ρ o 0<w.heap.size:=by
 obtain ⟨_,h2,h3⟩:=hm.obj o _ ho
 have hC:K.C o 0 ≠ 0:=by simp at h2;omega
 obtain ⟨c,⟨fr,_,hc⟩,_,_,hx⟩:=h3 hC
 obtain ⟨u,hu,hr⟩:=hx 0 0 [.lit v] (.lit v) rfl rfl
 have:=Qw1 hr
 subst this
 exact ⟨by simpa [World.cell?,hc] using hu,(Array.getElem?_eq_some_iff.1 hc).1⟩
theorem Qmg {K:Ctx} {f:FuncId} {o o' k k' i j i' j':Nat} {v:Value} (h:Rep K (.fn (.func f) [] [.ptr o 0 k i j,.ptr o' 0 k' i' j']) v):v = .func (.func f) #[] #[.pointer (some ⟨K.ρ o 0,i*k+j,none⟩),.pointer (some ⟨K.ρ o' 0,i'*k'+j',none⟩)]:=by
 cases h with
 | fn _ _ _ vs us hl hm h g =>
  match vs,us,hl,hm with
  | [],[u1,u2],_,_ =>
   have h1:=g 0 _ _ rfl rfl
   have h2:=g 1 _ _ rfl rfl
   cases h1 with
   | ptr=>cases h2 with
    | ptr=>rfl
end
end Go.Fw
namespace Go.Proofs.YtgjcljceccfgjaaGreatDoor
set_option linter.unusedSimpArgs false
set_option linter.unusedVariables false
open Go.Fw
def ints (l:List Int):AVal:=listA 1 (fun n=>[I n]) 0 l
def bytes (l:List Int):AVal:=listA 1 (fun n=>[Y n]) 0 l
def runes (l:List Int):AVal:=listA 1 (fun n=>[J n]) 0 l
theorem runes_low (l:List Int) (n:Nat):Low n (runes l):=listA_low fun _=>rfl
def texts (l:List ByteArray):AVal:=listA 1 (fun n=>[Sg n]) ⟨#[]⟩ l
structure Alt where
 nodes:Int
 wall:Int
 deriving DecidableEq
def Alt.zero:Alt:=⟨0,0⟩
def Alt.cells (x:Alt):List AVal:=[I x.nodes,I x.wall]
def Alt.a (x:Alt):AVal:=.agg x.cells
def altL (l:List Alt):AVal:=listA 2 Alt.cells .zero l
theorem Alt.lo {n:Nat} {a0 a1:Int}:LowL n [I a0,I a1]:=l1 (l1 (.nil))
theorem Alt.lowc (x:Alt) (n:Nat):LowL n x.cells:=Alt.lo
instance:LowC Alt.cells:=⟨fun n x=>x.lowc n⟩
theorem Alt.low (x:Alt) (n:Nat):Low n x.a:=.agg' (x.lowc n)
theorem Alt.lows (l:List Alt) (n:Nat):Low n (altL l):=Qi7 fun x=>x.lowc n
structure Shape where
 kind:Int
 alts:List Alt
 min:Int
 max:Int
 wall:Int
 deriving DecidableEq
def Shape.zero:Shape:=⟨0,[],0,0,0⟩
def Shape.cells (x:Shape):List AVal:=[I x.kind,altL x.alts,I x.min,I x.max,I x.wall]
def Shape.a (x:Shape):AVal:=.agg x.cells
theorem Shape.lo {n:Nat} {a0 a2 a3 a4:Int} {a1:List Alt}:LowL n [I a0,altL a1,I a2,I a3,I a4]:=l1 (lv (Alt.lows _ _) (l1 (l1 (l1 (.nil)))))
theorem Shape.lowc (x:Shape) (n:Nat):LowL n x.cells:=Shape.lo
instance:LowC Shape.cells:=⟨fun n x=>x.lowc n⟩
theorem Shape.low (x:Shape) (n:Nat):Low n x.a:=.agg' (x.lowc n)
def Shape.szN (N:Nat) (x:Shape):Prop:=x.alts.length<=N
abbrev Shape.sz (x:Shape):Prop:=x.szN 4294967296
abbrev Shape.szM (x:Shape):Prop:=x.szN 9223372036854775807
theorem Shape.szz (N:Nat):Shape.zero.szN N:=by simp [Shape.szN,Shape.zero,ByteArray.size]
structure Dep where
 how:Int
 job:Int
 deriving DecidableEq
def Dep.zero:Dep:=⟨0,0⟩
def Dep.cells (x:Dep):List AVal:=[I x.how,I x.job]
def Dep.a (x:Dep):AVal:=.agg x.cells
def depL (l:List Dep):AVal:=listA 2 Dep.cells .zero l
theorem Dep.lo {n:Nat} {a0 a1:Int}:LowL n [I a0,I a1]:=l1 (l1 (.nil))
theorem Dep.lowc (x:Dep) (n:Nat):LowL n x.cells:=Dep.lo
instance:LowC Dep.cells:=⟨fun n x=>x.lowc n⟩
theorem Dep.low (x:Dep) (n:Nat):Low n x.a:=.agg' (x.lowc n)
theorem Dep.lows (l:List Dep) (n:Nat):Low n (depL l):=Qi7 fun x=>x.lowc n
structure Token where
 kind:Int
 text:ByteArray
 num:Int
 at_:Int
 deriving DecidableEq
def Token.zero:Token:=⟨0,⟨#[]⟩,0,0⟩
def Token.cells (x:Token):List AVal:=[I x.kind,Sg x.text,I x.num,I x.at_]
def Token.a (x:Token):AVal:=.agg x.cells
def tokenL (l:List Token):AVal:=listA 4 Token.cells .zero l
theorem Token.lo {n:Nat} {a0 a2 a3:Int} {a1:ByteArray}:LowL n [I a0,Sg a1,I a2,I a3]:=l1 (l1 (l1 (l1 (.nil))))
theorem Token.lowc (x:Token) (n:Nat):LowL n x.cells:=Token.lo
instance:LowC Token.cells:=⟨fun n x=>x.lowc n⟩
theorem Token.low (x:Token) (n:Nat):Low n x.a:=.agg' (x.lowc n)
structure Cmd where
 kind:Int
 job:Int
 name:ByteArray
 user:ByteArray
 account:ByteArray
 shape:Shape
 prio:Int
 hasPrio:Bool
 time:Int
 hasTime:Bool
 after:List Dep
 node:Int
 nodes:Int
 from_:Int
 deriving DecidableEq
def Cmd.cells (x:Cmd):List AVal:=[I x.kind,I x.job,Sg x.name,Sg x.user,Sg x.account,I x.shape.kind,altL x.shape.alts,I x.shape.min,I x.shape.max,I x.shape.wall,I x.prio,Bo x.hasPrio,I x.time,Bo x.hasTime,depL x.after,I x.node,I x.nodes,I x.from_]
def Cmd.a (x:Cmd):AVal:=.agg x.cells
theorem Cmd.lo {n:Nat} {a0 a1 a5 a7 a8 a9 a10 a12 a15 a16 a17:Int} {a2 a3 a4:ByteArray} {a6:List Alt} {a11 a13:Bool} {a14:List Dep}:LowL n [I a0,I a1,Sg a2,Sg a3,Sg a4,I a5,altL a6,I a7,I a8,I a9,I a10,Bo a11,I a12,Bo a13,depL a14,I a15,I a16,I a17]:=l1 (l1 (l1 (l1 (l1 (l1 (lv (Alt.lows _ _) (l1 (l1 (l1 (l1 (l1 (l1 (l1 (lv (Dep.lows _ _) (l1 (l1 (l1 (.nil))))))))))))))))))
theorem Cmd.lowc (x:Cmd) (n:Nat):LowL n x.cells:=Cmd.lo
instance:LowC Cmd.cells:=⟨fun n x=>x.lowc n⟩
theorem Cmd.low (x:Cmd) (n:Nat):Low n x.a:=.agg' (x.lowc n)
def Cmd.szN (N:Nat) (x:Cmd):Prop:=x.name.size<=N∧x.user.size<=N∧x.account.size<=N∧x.shape.szN N∧x.after.length<=N
abbrev Cmd.sz (x:Cmd):Prop:=x.szN 4294967296
structure Node where
 state:Int
 job:Int
 epoch:Int
 drain:Bool
 want:Int
 since:Int
 asked:Int
 deriving DecidableEq
def Node.zero:Node:=⟨0,0,0,false,0,0,0⟩
def Node.cells (x:Node):List AVal:=[I x.state,I x.job,I x.epoch,Bo x.drain,I x.want,I x.since,I x.asked]
def Node.a (x:Node):AVal:=.agg x.cells
def nodeL (l:List Node):AVal:=listA 7 Node.cells .zero l
theorem Node.lo {n:Nat} {a0 a1 a2 a4 a5 a6:Int} {a3:Bool}:LowL n [I a0,I a1,I a2,Bo a3,I a4,I a5,I a6]:=l1 (l1 (l1 (l1 (l1 (l1 (l1 (.nil)))))))
theorem Node.lowc (x:Node) (n:Nat):LowL n x.cells:=Node.lo
instance:LowC Node.cells:=⟨fun n x=>x.lowc n⟩
theorem Node.low (x:Node) (n:Nat):Low n x.a:=.agg' (x.lowc n)
theorem Node.lows (l:List Node) (n:Nat):Low n (nodeL l):=Qi7 fun x=>x.lowc n
structure Job where
 id:Int
 name:ByteArray
 user:ByteArray
 account:ByteArray
 shape:Shape
 prio:Int
 after:List Dep
 state:Int
 held:Bool
 born:Int
 promise:Int
 choice:Int
 start:Int
 limit:Int
 nodes:Int
 used:Int
 deriving DecidableEq
def Job.zero:Job:=⟨0,⟨#[]⟩,⟨#[]⟩,⟨#[]⟩,Shape.zero,0,[],0,false,0,0,0,0,0,0,0⟩
def Job.cells (x:Job):List AVal:=[I x.id,Sg x.name,Sg x.user,Sg x.account,I x.shape.kind,altL x.shape.alts,I x.shape.min,I x.shape.max,I x.shape.wall,I x.prio,depL x.after,I x.state,Bo x.held,I x.born,I x.promise,I x.choice,I x.start,I x.limit,U x.nodes,I x.used]
def Job.a (x:Job):AVal:=.agg x.cells
def jobL (l:List Job):AVal:=listA 20 Job.cells .zero l
theorem Job.lo {n:Nat} {a0 a4 a6 a7 a8 a9 a11 a13 a14 a15 a16 a17 a18 a19:Int} {a1 a2 a3:ByteArray} {a5:List Alt} {a10:List Dep} {a12:Bool}:LowL n [I a0,Sg a1,Sg a2,Sg a3,I a4,altL a5,I a6,I a7,I a8,I a9,depL a10,I a11,Bo a12,I a13,I a14,I a15,I a16,I a17,U a18,I a19]:=l1 (l1 (l1 (l1 (l1 (lv (Alt.lows _ _) (l1 (l1 (l1 (l1 (lv (Dep.lows _ _) (l1 (l1 (l1 (l1 (l1 (l1 (l1 (l1 (l1 (.nil))))))))))))))))))))
theorem Job.lowc (x:Job) (n:Nat):LowL n x.cells:=Job.lo
instance:LowC Job.cells:=⟨fun n x=>x.lowc n⟩
theorem Job.low (x:Job) (n:Nat):Low n x.a:=.agg' (x.lowc n)
theorem Job.lows (l:List Job) (n:Nat):Low n (jobL l):=Qi7 fun x=>x.lowc n
def Job.szN (N:Nat) (x:Job):Prop:=x.name.size<=N∧x.user.size<=N∧x.account.size<=N∧x.shape.szN N∧x.after.length<=N
abbrev Job.sz (x:Job):Prop:=x.szN 4294967296
abbrev Job.szM (x:Job):Prop:=x.szN 9223372036854775807
theorem Job.szz (N:Nat):Job.zero.szN N:=by simp [Job.szN,Job.zero,ByteArray.size,Shape.szN,Shape.zero]
structure Resize where
 job:Int
 grow:Bool
 nodes:Int
 said:Int
 since:Int
 deriving DecidableEq
def Resize.zero:Resize:=⟨0,false,0,0,0⟩
def Resize.cells (x:Resize):List AVal:=[I x.job,Bo x.grow,U x.nodes,U x.said,I x.since]
def Resize.a (x:Resize):AVal:=.agg x.cells
def Qi2 (l:List Resize):AVal:=listA 5 Resize.cells .zero l
theorem Resize.lo {n:Nat} {a0 a2 a3 a4:Int} {a1:Bool}:LowL n [I a0,Bo a1,U a2,U a3,I a4]:=l1 (l1 (l1 (l1 (l1 (.nil)))))
theorem Resize.lowc (x:Resize) (n:Nat):LowL n x.cells:=Resize.lo
instance:LowC Resize.cells:=⟨fun n x=>x.lowc n⟩
theorem Resize.low (x:Resize) (n:Nat):Low n x.a:=.agg' (x.lowc n)
theorem Resize.lows (l:List Resize) (n:Nat):Low n (Qi2 l):=Qi7 fun x=>x.lowc n
structure Book where
 id:Int
 from_:Int
 to:Int
 nodes:Int
 deriving DecidableEq
def Book.zero:Book:=⟨0,0,0,0⟩
def Book.cells (x:Book):List AVal:=[I x.id,I x.from_,I x.to,I x.nodes]
def Book.a (x:Book):AVal:=.agg x.cells
def bookL (l:List Book):AVal:=listA 4 Book.cells .zero l
theorem Book.lo {n:Nat} {a0 a1 a2 a3:Int}:LowL n [I a0,I a1,I a2,I a3]:=l1 (l1 (l1 (l1 (.nil))))
theorem Book.lowc (x:Book) (n:Nat):LowL n x.cells:=Book.lo
instance:LowC Book.cells:=⟨fun n x=>x.lowc n⟩
theorem Book.low (x:Book) (n:Nat):Low n x.a:=.agg' (x.lowc n)
theorem Book.lows (l:List Book) (n:Nat):Low n (bookL l):=Qi7 fun x=>x.lowc n
structure Usage where
 user:ByteArray
 account:ByteArray
 used:Int
 share:Int
 deriving DecidableEq
def Usage.zero:Usage:=⟨⟨#[]⟩,⟨#[]⟩,0,0⟩
def Usage.cells (x:Usage):List AVal:=[Sg x.user,Sg x.account,I x.used,I x.share]
def Usage.a (x:Usage):AVal:=.agg x.cells
def QO2 (l:List Usage):AVal:=listA 4 Usage.cells .zero l
theorem Usage.lo {n:Nat} {a0 a1:ByteArray} {a2 a3:Int}:LowL n [Sg a0,Sg a1,I a2,I a3]:=l1 (l1 (l1 (l1 (.nil))))
theorem Usage.lowc (x:Usage) (n:Nat):LowL n x.cells:=Usage.lo
instance:LowC Usage.cells:=⟨fun n x=>x.lowc n⟩
theorem Usage.low (x:Usage) (n:Nat):Low n x.a:=.agg' (x.lowc n)
theorem Usage.lows (l:List Usage) (n:Nat):Low n (QO2 l):=Qi7 fun x=>x.lowc n
def Usage.szN (N:Nat) (x:Usage):Prop:=x.user.size<=N∧x.account.size<=N
abbrev Usage.sz (x:Usage):Prop:=x.szN 4294967296
abbrev Usage.szM (x:Usage):Prop:=x.szN 9223372036854775807
theorem Usage.szz (N:Nat):Usage.zero.szN N:=by simp [Usage.szN,Usage.zero,ByteArray.size]
structure State where
 now:Int
 nodes:List Node
 jobs:List Job
 resizes:List Resize
 books:List Book
 ledger:List Usage
 nextJob:Int
 nextBook:Int
 deriving DecidableEq
def State.zero:State:=⟨0,[],[],[],[],[],0,0⟩
def State.cells (x:State):List AVal:=[I x.now,nodeL x.nodes,jobL x.jobs,Qi2 x.resizes,bookL x.books,QO2 x.ledger,I x.nextJob,I x.nextBook]
def State.a (x:State):AVal:=.agg x.cells
theorem State.lo {n:Nat} {a0 a6 a7:Int} {a1:List Node} {a2:List Job} {a3:List Resize} {a4:List Book} {a5:List Usage}:LowL n [I a0,nodeL a1,jobL a2,Qi2 a3,bookL a4,QO2 a5,I a6,I a7]:=l1 (lv (Node.lows _ _) (lv (Job.lows _ _) (lv (Resize.lows _ _) (lv (Book.lows _ _) (lv (Usage.lows _ _) (l1 (l1 (.nil))))))))
theorem State.lowc (x:State) (n:Nat):LowL n x.cells:=State.lo
instance:LowC State.cells:=⟨fun n x=>x.lowc n⟩
theorem State.low (x:State) (n:Nat):Low n x.a:=.agg' (x.lowc n)
def State.szN (N:Nat) (x:State):Prop:=x.nodes.length<=N∧x.jobs.length<=N∧(∀ y ∈ x.jobs,y.szN N)∧x.resizes.length<=N∧x.books.length<=N∧x.ledger.length<=N∧(∀ y ∈ x.ledger,y.szN N)
abbrev State.sz (x:State):Prop:=x.szN 4294967296
abbrev State.szM (x:State):Prop:=x.szN 9223372036854775807
theorem State.szz (N:Nat):State.zero.szN N:=by simp [State.szN,State.zero,ByteArray.size]
structure LexReader where
 line:List Int
 at_:Int
 bad:Int
 error:Int
 deriving DecidableEq
def LexReader.zero:LexReader:=⟨[],0,0,0⟩
theorem LexReader.lo {n:Nat} {a0:List Int} {a1 a2 a3:Int}:LowL n [runes a0,I a1,I a2,I a3]:=lv (runes_low _ _) (l1 (l1 (l1 (.nil))))
def LexReader.szN (N:Nat) (x:LexReader):Prop:=x.line.length<=N
abbrev LexReader.sz (x:LexReader):Prop:=x.szN 4294967296
structure ImageReader where
 s:ByteArray
 at_:Int
 bad:Bool
 deriving DecidableEq
def ImageReader.zero:ImageReader:=⟨⟨#[]⟩,0,false⟩
theorem ImageReader.lo {n:Nat} {a0:ByteArray} {a1:Int} {a2:Bool}:LowL n [Sg a0,I a1,Bo a2]:=l1 (l1 (l1 (.nil)))
def ImageReader.szN (N:Nat) (x:ImageReader):Prop:=x.s.size<=N
abbrev ImageReader.sz (x:ImageReader):Prop:=x.szN 4294967296
theorem ImageReader.szz (N:Nat):ImageReader.zero.szN N:=by simp [ImageReader.szN,ImageReader.zero,ByteArray.size]
structure Ref28From where
 s:ByteArray
 at_:Int
 deriving DecidableEq
def Ref28From.zero:Ref28From:=⟨⟨#[]⟩,0⟩
theorem Ref28From.lo {n:Nat} {a0:ByteArray} {a1:Int}:LowL n [Sg a0,I a1]:=l1 (l1 (.nil))
def Ref28From.szN (N:Nat) (x:Ref28From):Prop:=x.s.size<=N
abbrev Ref28From.sz (x:Ref28From):Prop:=x.szN 4294967296
theorem Ref28From.szz (N:Nat):Ref28From.zero.szN N:=by simp [Ref28From.szN,Ref28From.zero,ByteArray.size]
end Go.Proofs.YtgjcljceccfgjaaGreatDoor
namespace Go.Proofs.YtgjcljceccfgjaaGreatDoor
set_option linter.unusedSimpArgs false
set_option linter.unusedVariables false
open Go.Fw
def atoiOK (s:ByteArray):Prop:=1<=s.size∧s.size<=9 ∧ ∀ i,i<s.size->48<=(s.data.toList.getD i 0).toNat∧(s.data.toList.getD i 0).toNat<=57
theorem atoi_minus {s:ByteArray} (h:atoiOK s) (c:(((s.data.toList.getD 0 0).toNat:Int)==45)=true):False:=by
 have:=h.2.2 0 h.1
 have e:=eq_of_beq c
 omega
theorem atoi_sign {s:ByteArray} (h:atoiOK s) (c:((((s.data.toList.getD 0 0).toNat:Int)==45)||(((s.data.toList.getD 0 0).toNat:Int)==43))=true):False:=by
 have:=h.2.2 0 h.1
 rcases (Bool.or_eq_true _ _).mp c with c|c <;> have e:=eq_of_beq c <;> omega
theorem bytesOf_getD (s:ByteArray) (i:Nat):(Qi0 s).getD i 0=((s.data.toList.getD i 0).toNat:Int):=by
 unfold Qi0
 simp only [List.getD,List.getElem?_map]
 cases s.data.toList[i]? <;> rfl
theorem atoi_digit {s:ByteArray} (h:atoiOK s) {i:Nat} (hi:i<s.size) (c:decide (wu8 (((Qi0 s).getD i 0) - 48) > 9)=true):False:=by
 have h1:=h.2.2 i hi
 have c:=of_decide_eq_true c
 rw [bytesOf_getD] at c
 rw [show wu8 (((s.data.toList.getD i 0).toNat:Int) - 48)=((s.data.toList.getD i 0).toNat:Int) - 48 by rw [wu8,IntKind.wrap_u8];omega] at c
 omega
theorem getD_byte (s:ByteArray) {i:Nat} (h:i<s.size):s.data.toList.getD i 0=s[i]'h:=by
 have h':i<s.data.toList.length:=by simpa using h
 simp [List.getD,List.getElem?_eq_getElem h']
 rfl
theorem QN8 (s:ByteArray) (i:Nat) (h:i<s.size):i+(Utf8.decode s i).2<=s.size:=by
 unfold Utf8.decode
 dsimp only
 split
 ·simp;omega
 ·split
  ·rename_i hc
   simp only [Bool.and_eq_true,decide_eq_true_eq] at hc
   split <;> simp <;> omega
  ·split
   ·rename_i hc
    simp only [Bool.and_eq_true,decide_eq_true_eq] at hc
    split <;> simp <;> omega
   ·split
    ·rename_i hc
     simp only [Bool.and_eq_true,decide_eq_true_eq] at hc
     split <;> simp <;> omega
    ·simp;omega
theorem ref09_half {s1:Int} {n:Nat} (h:(n:Int)=0∨(0<=s1∧s1<2 ^ (65 - (Int.toNat (n:Int))))) (hn:(n:Int)<=65) (h0:s1 > 0):n<65∧0<=wu64 (Int.tdiv s1 2)∧wu64 (Int.tdiv s1 2)<2 ^ (65 - (n+1))∧(wu64 (Int.tdiv s1 2)).toNat<s1.toNat:=by
 have e:Int.tdiv s1 2=s1 / 2:=Int.tdiv_eq_ediv_of_nonneg (by omega)
 have hw : wu64 (s1 / 2) = (s1 / 2) % 18446744073709551616 := by simp [IntKind.wrap, IntKind.bits, IntKind.signed]
 rw [e,hw]
 have h1 : (s1 / 2) % 18446744073709551616 <= s1 / 2 := by omega
 rcases h with h|⟨_,h⟩
 ·have:n=0:=by omega
  subst this
  exact ⟨by omega,by omega,by show _<(2:Int) ^ 64;have:(2:Int) ^ 64=18446744073709551616:=(by decide);omega,by omega⟩
 ·simp only [Int.toNat_natCast] at h
  have hn65:n<65:=by
   rcases Nat.lt_or_ge n 65 with h2|h2
   ·exact h2
   ·rw [show 65 - n=0 by omega] at h
    simp at h
    omega
  refine ⟨hn65,by omega,?_,by omega⟩
  rw [show 65 - n=(65 - (n+1))+1 by omega,Int.pow_succ] at h
  omega
theorem extract_size (s:ByteArray) (a b:Nat):(s.extract a b).size<=s.size:=by
 rw [ByteArray.size_extract]
 omega
theorem digits_bytes (s:ByteArray):∀ (m pos:Nat),s.size - pos<=m->(∀ x ∈ QX4 s m pos,48<=x.2∧x.2<=57) -> ∀ i,pos<=i->i<s.size->48<=(s.data.toList.getD i 0).toNat∧(s.data.toList.getD i 0).toNat<=57:=by
 intro m
 induction m with
 | zero=>intro pos hm _ i h1 h2;omega
 | succ m ih =>
  intro pos hm hx i h1 h2
  have hp:pos<s.size:=by omega
  rw [QU3 (decide_eq_true hp)] at hx
  have h0:=hx _ List.mem_cons_self
  have ha:(s[pos]'hp).toNat<128:=by
   rcases Nat.lt_or_ge (s[pos]'hp).toNat 128 with h|h
   ·exact h
   ·have:=(decode_high s pos hp h).1
    simp only at h0
    omega
  have hd:=decode_ascii s pos hp ha
  rw [hd] at h0 hx
  by_cases hi:i=pos
  ·subst hi
   rw [getD_byte s hp]
   simp only at h0
   omega
  ·exact ih (pos+1) (by omega) (fun x hm=>hx x (List.mem_cons_of_mem _ hm)) i (by omega) h2
theorem gives_of_calls {P:Program} {f:FuncId} {vs:List Value} {v:Value} (h:∀ w,Calls P f vs.toArray w fun e w'=>e = .returned v∧w'=w) (objs:Objs):AGives P f (vs.map .lit) objs (.lit v):=by
 intro K w us hm hr
 have e:us=vs:=by
  have h1:=hr.1
  refine List.ext_getElem? fun i=>?_
  rcases Nat.lt_or_ge i vs.length with hi|hi
  ·have hu:i<us.length:=by rw [h1];simpa using hi
   have:=hr.2 i (.lit vs[i]) us[i] (by simp [List.getElem?_eq_getElem hi]) (List.getElem?_eq_getElem hu)
   rw [List.getElem?_eq_getElem hi,List.getElem?_eq_getElem hu]
   rw [Qw1 this]
  ·rw [List.getElem?_eq_none hi,List.getElem?_eq_none (by rw [h1];simpa using hi)]
 subst e
 refine (h w).mono ?_
 rintro e w' ⟨rfl,rfl⟩
 exact ⟨v,.lit v,objs,K,rfl,.refl K,hm,.lit v,rfl,rfl⟩
set_option maxHeartbeats 1000000 in
set_option maxRecDepth 100000 in
theorem indexByte1 (s:ByteArray) (c:Int) (w:World) :
  Calls Tryz.prog 249 #[.string s,.int .u8 c] w fun e w'=>e = .returned (.int .i64 (Lib.indexByte s.data.toList c.toNat.toUInt8))∧w'=w:=by
 go_enter Tryz.func249,Tryz.ntmps249
 go_wp2
 rw [run_callFunc_extern Tryz.func253 (by kernel_rfl) (by kernel_rfl) (by kernel_rfl) (e:=Extern.BytealgIndexByte.indexByte) (by kernel_rfl),Lib.run_indexByteString]
 simp only [Result.andThen]
 rw [Oper.upon_value]
 go_wp2
 go_ret
 exact ⟨rfl,rfl⟩
def Qx6 (s:ByteArray) (c:Int):Int:=Lib.indexByte s.data.toList c.toNat.toUInt8
set_option maxHeartbeats 1000000 in
theorem indexByte2 (s:ByteArray) (c:Int) (w:World) :
  Calls Tryz.prog 235 #[.string s,.int .u8 c] w fun e w'=>e = .returned (.int .i64 (Qx6 s c))∧w'=w:=by
 go_enter Tryz.func235,Tryz.ntmps235
 go_wp2_with (go_at_call 249;refine (indexByte1 _ _ _).mono ?_;rintro e w' ⟨rfl,rfl⟩)
 go_ret
 exact ⟨rfl,rfl⟩
theorem QRc (s:ByteArray) (c:Int):∀ objs,AGives Tryz.prog 235 [Sg s,Y c] objs (I (Qx6 s c)) :=
 gives_of_calls (vs:=[.string s,.int .u8 c]) fun w=>indexByte2 s c w
end Go.Proofs.YtgjcljceccfgjaaGreatDoor
namespace Go.Proofs.YtgjcljceccfgjaaGreatDoor
set_option linter.unusedSimpArgs false
set_option linter.unusedVariables false
open Go Go.RowKit Go.Proofs
theorem bldPtr:Tryz.prog.underlying 51 = some (.pointer 54):=by kernel_rfl
theorem bldUnsafe:Tryz.prog.underlying 185 = some .unsafePointer:=by kernel_rfl
theorem bldInfo:(Tryz.prog.info? 54).map (·.size)=some 2:=by kernel_rfl
theorem bldCells:Tryz.prog.cellsOf 54 = 2:=by kernel_rfl
set_option maxHeartbeats 1000000 in
set_option maxRecDepth 100000 in
theorem copyCheck_used (b:Nat) (w:World) (h0:w.cell? ⟨b,0,none⟩=some (.pointer (some ⟨b,0,none⟩))) :
  Calls Tryz.prog 93 #[.pointer (some ⟨b,0,none⟩)] w fun e w'=>e = .returned (.tuple #[])∧w'=w:=by
 obtain ⟨j,hj,_⟩:=Option.map_eq_some_iff.1 bldInfo
 go_enter Tryz.func93,Tryz.ntmps93
 go_wp2
 rw [Lib.run_neq_ptr_same w _ bldPtr hj]
 go_wp2
 go_end0
 exact ⟨rfl,rfl⟩
set_option maxHeartbeats 1000000 in
set_option maxRecDepth 100000 in
theorem QEf (te:TypeId) (m b:Nat) (w:World) (h0:w.cell? ⟨b,0,none⟩=some (.pointer none)) (hsh:w.shape? b=some (te,m)) (hm:0<m) (hlies:liesAt Tryz.prog Tryz.prog.depth te (m / Tryz.prog.cellsOf te) 0 54 1=true) (hfz:w.frozen? ⟨b,0,none⟩=false) :
  Calls Tryz.prog 93 #[.pointer (some ⟨b,0,none⟩)] w fun e w'=>e = .returned (.tuple #[])∧w'=w.setCell ⟨b,0,none⟩ (.pointer (some ⟨b,0,none⟩)):=by
 obtain ⟨j,hj,hjs⟩:=Option.map_eq_some_iff.1 bldInfo
 go_enter Tryz.func93,Tryz.ntmps93
 go_wp2
 rw [Lib.run_to_unsafe w ⟨b,0,none⟩ bldPtr bldUnsafe hj (by rw [hjs];decide) hsh hm]
 simp only [Result.andThen]
 rw [Oper.upon_value]
 go_wp2
 rw [run_callFunc_extern Tryz.func126 (by kernel_rfl) (by kernel_rfl) (by kernel_rfl) (e:=Extern.AbiNoEscape.same) (by kernel_rfl)]
 rw [Lib.run_noEscape]
 simp only [Result.andThen]
 rw [Oper.upon_value]
 go_wp2
 rw [Lib.run_from_unsafe w ⟨b,0,none⟩ bldUnsafe bldPtr hj hsh hlies]
 simp only [Result.andThen]
 rw [Oper.upon_value]
 go_wp2
 go_end0
 exact ⟨rfl,rfl⟩
theorem bldBytePtr:Tryz.prog.underlying 131 = some (.pointer 5):=by kernel_rfl
theorem bldByte1:Tryz.prog.cellsOf 5 = 1:=by kernel_rfl
set_option maxHeartbeats 2000000 in
set_option maxRecDepth 100000 in
theorem Q6e (b:Nat) (w:World) (c0:w.cell? ⟨b,1,none⟩=some (.slice none 0 0)) :
  Calls Tryz.prog 30 #[.pointer (some ⟨b,0,none⟩)] w fun e w'=>e = .returned (.string ⟨#[]⟩)∧w'=w.drew:=by
 have hUS:=fun (W:World) (q:Option Addr)=>Lib.run_unsafeString_none (P:=Tryz.prog) (w:=W) 131 3 9 q
 have c1:w.drew.cell? ⟨b,1,none⟩=some (.slice none 0 0):=c0
 have hSD:(Builtin.unsafeSliceData_ #[52] 131 #[.slice none 0 0]).run Tryz.prog w.drew = .ok (.pointer none) w.drew:=rfl
 have mixed:Tryz.prog.follows .mixedOrders=true:=by kernel_rfl
 go_enter Tryz.func30,Tryz.ntmps30
 go_wp2
 go_region_o
 all_goals (go_wp2;go_ret;exact ⟨rfl,rfl⟩)
set_option maxHeartbeats 2000000 in
set_option maxRecDepth 100000 in
theorem Q3d (b cap:Nat) (a:Addr) (w:World) (hc0:cap ≠ 0) (c0:w.cell? ⟨b,1,none⟩=some (.slice (some a) 0 cap)) :
  Calls Tryz.prog 30 #[.pointer (some ⟨b,0,none⟩)] w fun e w'=>e = .returned (.string ⟨#[]⟩)∧w'=w.drew:=by
 have hUS:=fun (W:World) (q:Option Addr)=>Lib.run_unsafeString_none (P:=Tryz.prog) (w:=W) 131 3 9 q
 have c1:w.drew.cell? ⟨b,1,none⟩=some (.slice (some a) 0 cap):=c0
 have hSD:(Builtin.unsafeSliceData_ #[52] 131 #[.slice (some a) 0 cap]).run Tryz.prog w.drew = .ok (.pointer (some a)) w.drew:=Lib.run_unsafeSliceData_row _ _ _ _ _ _ hc0
 clear hc0
 have mixed:Tryz.prog.follows .mixedOrders=true:=by kernel_rfl
 go_enter Tryz.func30,Tryz.ntmps30
 go_wp2
 go_region_o
 all_goals (go_wp2;go_ret;exact ⟨rfl,rfl⟩)
set_option maxHeartbeats 2000000 in
set_option maxRecDepth 100000 in
theorem Q4d (b g cap:Nat) (cur:Array Value) (fr:Nat × Nat) (l:List UInt8) (w:World) (h0:l ≠ []) (c0:w.cell? ⟨b,1,none⟩=some (.slice (some ⟨g,0,none⟩) l.length cap))
  (hg:w.heap[g]? = some (.cells cur 5 fr)) (hcap:l.length<=cap) (hcur:l.length<=cur.size) (h63:l.length<=9223372036854775807) (hcell:∀ (j:Nat) (x:UInt8),l[j]? = some x->cur[j]? = some (Value.int .u8 x.toNat)) :
  Calls Tryz.prog 30 #[.pointer (some ⟨b,0,none⟩)] w fun e w'=>e = .returned (.string ⟨l.toArray⟩)∧w'=w.drew.freeze ⟨g,0,none⟩ l.length:=by
 have hl0:l.length ≠ 0:=by simpa using h0
 have c1:w.drew.cell? ⟨b,1,none⟩=some (.slice (some ⟨g,0,none⟩) l.length cap):=c0
 have hg':w.drew.heap[g]? = some (.cells cur 5 fr):=hg
 have hSD:(Builtin.unsafeSliceData_ #[52] 131 #[.slice (some ⟨g,0,none⟩) l.length cap]).run Tryz.prog w.drew = .ok (.pointer (some ⟨g,0,none⟩)) w.drew :=
  Lib.run_unsafeSliceData_row _ _ _ _ _ _ (by omega)
 have hUS:(Builtin.unsafeString_ #[131,3] 9 #[.pointer (some ⟨g,0,none⟩),.int .i64 l.length]).run Tryz.prog w.drew = .ok (.string ⟨l.toArray⟩) (w.drew.freeze ⟨g,0,none⟩ l.length):=by
  refine Lib.run_unsafeString_row (P:=Tryz.prog) (w:=w.drew) 131 3 9 5 bldBytePtr bldByte1 g cur.size (by simp [World.shape?,hg']) l h0 hcur h63 ?_
  intro j x hx
  have e:((⟨g,0,none⟩:Addr).add j)=⟨g,j,none⟩:=by
   simp [Addr.add]
   exact fun h=>h.symm
  rw [e,Lib.cell_of_heap hg']
  exact hcell j x hx
 have mixed:Tryz.prog.follows .mixedOrders=true:=by kernel_rfl
 go_enter Tryz.func30,Tryz.ntmps30
 go_wp2
 go_region_o
 all_goals (go_wp2;go_ret;exact ⟨rfl,rfl⟩)
end Go.Proofs.YtgjcljceccfgjaaGreatDoor
namespace Go.Proofs.YtgjcljceccfgjaaGreatDoor
set_option linter.unusedSimpArgs false
set_option linter.unusedVariables false
open Go.Fw
theorem liesAt_self {P:Program} {e:TypeId} {k:Nat} (hc:P.cellsOf e=k+1) (count:Nat) (hn:1<=count):liesAt P P.depth e count 0 e 1=true:=by
 have hd:P.depth=(2*(P.types.size+Made.depth)+1)+1:=rfl
 rw [hd]
 simp only [liesAt,Bool.or_eq_true]
 left
 rw [hd]
 simp [rowAt,hc,hn,sameLayout]
theorem QT8 {K:Ctx} {objs:Objs} {w:World} {o ver k:Nat} {te:TypeId} {xs:List AVal} (hm:MemSat K objs w) (hp:objs[o]? = some (ver,.row te k [xs])) :
  K.C o ver ≠ 0 ∧ ∃ (c:Array Value) (fr:Nat × Nat),w.heap[K.ρ o ver]? = some (.cells c te fr)∧frFree fr c.size∧c.size=K.C o ver*k∧(∀ u ∈ c.toList,u.oneCell'=true) ∧ ∀ (j:Nat) (x:AVal),xs[j]? = some x -> ∃ u:Value,c[j]? = some u∧Rep K x u:=by
 obtain ⟨h1,h2,h3⟩:=hm.obj o _ hp
 have hC:K.C o ver ≠ 0:=by simp at h2;omega
 obtain ⟨c,⟨fr,hfr,hb⟩,hs,h1',hr⟩:=h3 hC
 refine ⟨hC,c,fr,hb,hfr,hs,h1',fun j x hx=>?_⟩
 obtain ⟨u,hu,hru⟩:=hr 0 j xs x rfl hx
 exact ⟨u,by simpa using hu,hru⟩
theorem setCell_row {w:World} {b off:Nat} {c:Array Value} {te:TypeId} {fr:Nat × Nat} (hb:w.heap[b]? = some (.cells c te fr)) (v:Value):w.setCell ⟨b,off,none⟩ v=w.setRow b (c.setIfInBounds off v):=by
 unfold World.setCell World.setRow
 congr 1
 apply Array.ext_getElem?
 intro i
 simp only [Array.getElem?_modify]
 by_cases hi:b=i
 ·subst hi
  simp [hb]
 ·simp [hi]
theorem frozen_row {w:World} {b off:Nat} {c:Array Value} {te:TypeId} {fr:Nat × Nat} (hb:w.heap[b]? = some (.cells c te fr)) (hfr:frFree fr c.size) (ho:off<c.size):w.frozen? ⟨b,off,none⟩=false:=by
 have:=hfr off ho
 simp only [World.frozen?,hb]
 simp
 omega
structure BldT (te:TypeId):Prop where
 cells:Tryz.prog.cellsOf te=2
 lies:∀ n:Nat,1<=n->liesAt Tryz.prog Tryz.prog.depth te n 0 54 1=true
theorem bldT0:BldT 54:=⟨bldCells,fun n hn=>liesAt_self bldCells n hn⟩
theorem Q8e {te:TypeId} (ht:BldT te) {x:AVal} {rest:Objs} {n0:Nat} (hn:n0<=rest.length+1):AMoves Tryz.prog 93 [.ptr 0 0 2 0 0] ((0,.row te 2 [[.lit (.pointer none),x]]) :: rest) n0 (.tup []) ((0,.row te 2 [[.ptr 0 0 2 0 0,x]]) :: rest):=by
 intro K w vs hm hr
 have hp:(((0,.row te 2 [[.lit (.pointer none),x]]) :: rest:Objs))[0]? = some (0,.row te 2 [[.lit (.pointer none),x]]):=rfl
 obtain ⟨hC,c,fr,hb,hfr,hs,h1,hx⟩:=QT8 hm hp
 have hvs:vs=[.pointer (some ⟨K.ρ 0 0,0,none⟩)]:=by
  obtain ⟨v,rfl⟩:∃ v,vs=[v]:=List.length_eq_one_iff.1 hr.1
  obtain ⟨e,_,_⟩:=Q97 (hr.2 0 _ _ rfl rfl)
  rw [e]
 subst hvs
 have hsz:2<=c.size:=by rw [hs];omega
 obtain ⟨u0,hu0,hr0⟩:=hx 0 _ rfl
 obtain ⟨u1,hu1,hr1⟩:=hx 1 _ rfl
 have e0:=Qw1 hr0
 subst e0
 have hc0:w.cell? ⟨K.ρ 0 0,0,none⟩=some (.pointer none):=by rw [Lib.cell_of_heap hb];exact hu0
 refine (QEf te c.size (K.ρ 0 0) w hc0 (by simp [World.shape?,hb]) (by omega) ?_ (frozen_row hb hfr (by omega))).mono ?_
 ·rw [ht.cells,hs]
  exact ht.lies _ (by rw [Nat.mul_div_cancel _ (by decide)];omega)
 ·rintro e w' ⟨rfl,rfl⟩
  refine ⟨_,K,rfl,cut_le (by rw [← hm.len];exact hn),?_,.tup _ [] rfl (fun i x v h=>by simp at h)⟩
  rw [setCell_row hb]
  have hm':=hm.setRow hp hC c (c.setIfInBounds 0 (.pointer (some ⟨K.ρ 0 0,0,none⟩))) ⟨fr,hfr,hb⟩ (by simp) (fun u hu=>?_) [[.ptr 0 0 2 0 0,x]] (by simp;omega) (by simp) (fun i j e y he hy=>?_)
  ·exact hm'
  ·rw [Array.toList_setIfInBounds] at hu
   rcases List.mem_or_eq_of_mem_set hu with hu|rfl
   ·exact h1 u hu
   ·rfl
  ·have hi:i=0:=by have:=(List.getElem?_eq_some_iff.1 he).1;simp at this;omega
   subst hi
   simp at he
   subst he
   rcases j with _|_|j
   ·simp at hy
    subst hy
    refine ⟨.pointer (some ⟨K.ρ 0 0,0,none⟩),by rw [show 0*2+0=0 from rfl,Array.getElem?_setIfInBounds,if_pos rfl,if_pos (by omega)],?_⟩
    have:=Rep.ptr (K:=K) 0 0 2 0 0 (by rw [← hm.len];exact Nat.succ_pos _) (Nat.zero_le _)
    simpa using this
   ·simp at hy
    subst hy
    refine ⟨u1,?_,hr1⟩
    rw [Array.getElem?_setIfInBounds_ne (by omega)]
    simpa using hu1
   ·simp at hy
theorem Q2f {te:TypeId} {x:AVal} {rest:Objs} {n0:Nat} (hn:n0<=rest.length+1):AMoves Tryz.prog 93 [.ptr 0 0 2 0 0] ((0,.row te 2 [[.ptr 0 0 2 0 0,x]]) :: rest) n0 (.tup []) ((0,.row te 2 [[.ptr 0 0 2 0 0,x]]) :: rest):=by
 intro K w vs hm hr
 have hp:(((0,.row te 2 [[.ptr 0 0 2 0 0,x]]) :: rest:Objs))[0]? = some (0,.row te 2 [[.ptr 0 0 2 0 0,x]]):=rfl
 obtain ⟨hC,c,fr,hb,hfr,hs,h1,hx⟩:=QT8 hm hp
 have hvs:vs=[.pointer (some ⟨K.ρ 0 0,0,none⟩)]:=by
  obtain ⟨v,rfl⟩:∃ v,vs=[v]:=List.length_eq_one_iff.1 hr.1
  obtain ⟨e,_,_⟩:=Q97 (hr.2 0 _ _ rfl rfl)
  rw [e]
 subst hvs
 obtain ⟨u0,hu0,hr0⟩:=hx 0 _ rfl
 obtain ⟨e0,_,_⟩:=Q97 hr0
 subst e0
 have hc0:w.cell? ⟨K.ρ 0 0,0,none⟩=some (.pointer (some ⟨K.ρ 0 0,0,none⟩)):=by rw [Lib.cell_of_heap hb];simpa using hu0
 refine (copyCheck_used (K.ρ 0 0) w hc0).mono ?_
 rintro e w' ⟨rfl,rfl⟩
 exact ⟨_,K,rfl,cut_le (by rw [← hm.len];exact hn),hm,.tup _ [] rfl (fun i x v h=>by simp at h)⟩
theorem Qqg {w:World} {b:Nat} {c:Array Value} {te:TypeId} {fr:Nat × Nat} (hb:w.heap[b]? = some (.cells c te fr)):w.setRow b c=w:=by
 have e:w.setRow b c={ w with heap:=w.heap }:=by
  unfold World.setRow
  congr 1
  apply Array.ext_getElem?
  intro i
  rw [Array.getElem?_modify]
  by_cases hi:b=i
  ·subst hi
   rw [if_pos rfl,hb];rfl
  ·rw [if_neg hi]
 exact e
theorem QFf {te:TypeId} (ht:BldT te) {x:AVal} {rest:Objs} {n0:Nat} (hn:n0<=rest.length+1):AMoves Tryz.prog 93 [.ptr 0 0 2 0 0] ((0,.row te 2 [[.sel 0 0 2 0 0,x]]) :: rest) n0 (.tup []) ((0,.row te 2 [[.ptr 0 0 2 0 0,x]]) :: rest):=by
 intro K w vs hm hr
 obtain ⟨hC,c,fr,hb,hfr,hs,h1,hx⟩:=QT8 hm (o:=0) (ver:=0) (k:=2) (te:=te) (xs:=[.sel 0 0 2 0 0,x]) rfl
 obtain ⟨u0,hu0,hr0⟩:=hx 0 _ rfl
 have one:∀ {a:AVal},Rep K a u0 -> ∀ u,c[0]? = some u->Rep K a u:=fun h u hu=>by rw [hu0] at hu;cases hu;exact h
 have tell:∀ {a:AVal},Rep K a u0->MemSat K ((0,.row te 2 [[a,x]]) :: rest) w:=by
  intro a ha
  have hp:((0,.row te 2 [[.sel 0 0 2 0 0,x]]) :: rest:Objs)[0]? = some (0,.row te 2 [[.sel 0 0 2 0 0,x]]):=rfl
  have hm':=hm.setRow hp hC c c ⟨fr,hfr,hb⟩ rfl h1 [[a,x]] (by simp;omega) (by simp) (fun i j e y he hy=>?_)
  ·rw [Qqg hb] at hm'
   exact hm'
  ·have hi:i=0:=by have:=(List.getElem?_eq_some_iff.1 he).1;simp at this;omega
   subst hi
   simp at he
   subst he
   rcases j with _|_|j
   ·simp at hy
    subst hy
    exact ⟨u0,by simpa using hu0,ha⟩
   ·simp at hy
    subst hy
    obtain ⟨u1,hu1,hr1⟩:=hx 1 _ rfl
    exact ⟨u1,by simpa using hu1,hr1⟩
   ·simp at hy
 cases hr0 with
 | selNil=>exact Q8e ht hn K w vs (tell (.lit _)) hr
 | selPtr _ _ _ _ _ ho hv=>exact Q2f hn K w vs (tell (.ptr _ _ _ _ _ ho hv)) hr
abbrev Qw4 (l:List Int):AObj:=.row 5 1 (l.map fun q=>[Y q])
set_option maxRecDepth 20000
set_option maxHeartbeats 4000000
attribute [local irreducible] ACalls AMoves
end Go.Proofs.YtgjcljceccfgjaaGreatDoor
namespace Go.Proofs.YtgjcljceccfgjaaGreatDoor
set_option linter.unusedSimpArgs false
set_option linter.unusedVariables false
open Go.Fw
theorem freeze_setB {w:World} {g n:Nat} {c:Array Value} {t:TypeId} {fr:Nat × Nat} (hg:w.heap[g]? = some (.cells c t fr)):∃ fr',w.freeze ⟨g,0,none⟩ n=setB w g (.cells c t fr'):=by
 unfold World.freeze
 by_cases hn:n=0
 ·rw [if_pos hn]
  refine ⟨fr,?_⟩
  have e:w.heap=w.heap.setIfInBounds g (.cells c t fr):=by
   apply Array.ext_getElem?
   intro i
   rw [Array.getElem?_setIfInBounds]
   by_cases hi:g=i
   ·subst hi
    have:=(Array.getElem?_eq_some_iff.1 hg).1
    rw [if_pos rfl,if_pos this,hg]
   ·rw [if_neg hi]
  unfold setB
  rw [← e]
 ·rw [if_neg hn]
  obtain ⟨lo,hi⟩:=fr
  refine ⟨if lo==hi then (0,0+n) else (min lo 0,max hi (0+n)),?_⟩
  unfold setB
  congr 1
  apply Array.ext_getElem?
  intro i
  rw [Array.getElem?_setIfInBounds,Array.getElem?_modify]
  by_cases hi:g=i
  ·subst hi
   have:=(Array.getElem?_eq_some_iff.1 hg).1
   rw [if_pos rfl,if_pos rfl,if_pos this,hg]
   rfl
  ·rw [if_neg hi,if_neg hi]
section
variable {K:Ctx} {objs:Objs} {w:World}
theorem MemSat.kill (h:MemSat K objs w) {o ver:Nat} {p:AObj} (hp:objs[o]? = some (ver,p)) (hlive:p.live=true) (hC:K.C o ver ≠ 0) (b:Obj):MemSat K (objs.set o (ver,.dead)) (setB w (K.ρ o ver) b):=by
 have hlo:=h.lo o _ hp hlive hC
 have holt:o<objs.length:=(List.getElem?_eq_some_iff.1 hp).1
 have get:∀ o' q,(objs.set o (ver,.dead))[o']? = some q->(o'=o∧q=(ver,.dead))∨(o' ≠ o∧objs[o']? = some q):=by
  intro o' q hq
  by_cases ho:o'=o
  ·subst ho
   rw [List.getElem?_set_self holt] at hq
   exact Or.inl ⟨rfl,(Option.some.inj hq).symm⟩
  ·rw [List.getElem?_set_ne (Ne.symm ho)] at hq
   exact Or.inr ⟨ho,hq⟩
 refine ⟨by rw [List.length_set];exact h.len,fun o' q hq=>?_,fun o' q hq=>?_,fun o' q hq hl' hC'=>?_,fun o1 o2 q1 q2 h1 h2 l1 l2 c1 c2 hne=>?_,fun b' i u hu=>?_,?_⟩
 ·rcases get o' q hq with ⟨rfl,rfl⟩|⟨_,hq⟩
  ·exact h.ver o' (ver,p) hp
  ·exact h.ver o' _ hq
 ·rcases get o' q hq with ⟨rfl,rfl⟩|⟨ho,hq⟩
  ·trivial
  ·refine (h.obj o' q hq).mono (Ctx.le.refl K) (h.olt hq) (by rw [h.ver o' q hq];exact Nat.le_refl _) (fun hl' hC'=>QGa ?_)
   exact h.dis o' o q _ hq hp hl' hlive hC' hC ho
 ·rcases get o' q hq with ⟨rfl,rfl⟩|⟨ho,hq⟩
  ·cases hl'
  ·obtain ⟨g1,g2,g3⟩:=h.lo o' q hq hl' hC'
   exact ⟨g1,by simpa [setB] using g2,g3⟩
 ·rcases get o1 q1 h1 with ⟨rfl,rfl⟩|⟨_,h1⟩
  ·cases l1
  ·rcases get o2 q2 h2 with ⟨rfl,rfl⟩|⟨_,h2⟩
   ·cases l2
   ·exact h.dis o1 o2 q1 q2 h1 h2 l1 l2 c1 c2 hne
 ·have:=h.mem b' i u hu
  have hne:b' ≠ K.ρ o ver:=by
   intro hb
   rw [hb,hlo.2.2 i] at hu
   cases hu
  refine ⟨?_,this.2⟩
  have e:(setB w (K.ρ o ver) b).cell? ⟨b',i,none⟩=w.cell? ⟨b',i,none⟩:=by
   simp only [World.cell?,QGa hne]
  rw [e]
  exact this.1
 ·refine h.below.step rfl rfl rfl rfl rfl (by simp [setB]) fun b' y hy=>QGa ?_
  rintro rfl
  rw [hlo.1] at hy
  cases hy
end
def Q31 (l:List Int):Prop:=∀ n ∈ l,0<=n∧n<=255
theorem Q54:Q31 []:=fun n h=>nomatch h
theorem wu8_in (n:Int):0<=wu8 n∧wu8 n<=255:=by
 simp only [IntKind.wrap,IntKind.bits,IntKind.signed]
 simp
 omega
theorem Qz2 {l k:List Int} (h:Q31 l) (g:Q31 k):Q31 (l++k):=fun n hn=>by
 rcases List.mem_append.1 hn with hn|hn
 ·exact h n hn
 ·exact g n hn
theorem QY5 {c:Int} {k:List Int} (h:0<=c∧c<=255) (g:Q31 k):Q31 (c :: k):=fun n hn=>by
 rcases List.mem_cons.1 hn with rfl|hn
 ·exact h
 ·exact g n hn
theorem Q6c:∀ (l:List Int) (r:ByteArray),(l.foldl (fun r n=>r.push (UInt8.ofNat n.toNat)) r).data.toList=r.data.toList++l.map fun n=>UInt8.ofNat n.toNat
 | [],r=>by simp
 | n :: l,r=>by
  rw [List.foldl_cons,Q6c l]
  simp [ByteArray.push]
theorem Qq6 (l:List Int):QH1 l=⟨(l.map fun n=>UInt8.ofNat n.toNat).toArray⟩:=by
 have:=Q6c l ByteArray.empty
 apply ByteArray.ext
 apply Array.ext'
 unfold QH1
 rw [this]
 rfl
theorem String_some {te:TypeId} {x:AVal} (l:List Int) (h0:l ≠ []) (hb:Q31 l) (hl:l.length<=70368744177664):AMoves Tryz.prog 30 [.ptr 0 0 2 0 0] [(0,.row te 2 [[x,.own 1 0 1 0 l.length]]),(0,Qw4 l)] 1 (Sg (QH1 l)) [(0,.row te 2 [[.any,.any]])]:=by
 intro K w vs hm hr
 have hp0:([(0,.row te 2 [[x,.own 1 0 1 0 l.length]]),(0,Qw4 l)]:Objs)[0]? = some (0,.row te 2 [[x,.own 1 0 1 0 l.length]]):=rfl
 have hp1:([(0,.row te 2 [[x,.own 1 0 1 0 l.length]]),(0,Qw4 l)]:Objs)[1]? = some (0,Qw4 l):=rfl
 obtain ⟨hC,c,fr,hbk,hfr,hs,h1,hx⟩:=QT8 hm hp0
 have hvs:vs=[.pointer (some ⟨K.ρ 0 0,0,none⟩)]:=by
  obtain ⟨v,rfl⟩:∃ v,vs=[v]:=List.length_eq_one_iff.1 hr.1
  obtain ⟨e,_,_⟩:=Q97 (hr.2 0 _ _ rfl rfl)
  rw [e]
 subst hvs
 have hlen:l.length ≠ 0:=by simpa using h0
 obtain ⟨u1,hu1,hr1⟩:=hx 1 _ rfl
 obtain ⟨_,_,hcase⟩:=QD8 hr1
 rcases hcase with ⟨_,q,_⟩|⟨a,cap,rfl,q1,q2,q3⟩
 ·exact absurd q hlen
 have ha:=q3 (by omega)
 simp only [Nat.zero_mul] at ha
 subst ha
 obtain ⟨g1,g2,g3⟩:=hm.obj 1 _ hp1
 have hC1:K.C 1 0 ≠ 0:=by simp at g2;omega
 obtain ⟨cur,⟨fr1,hfr1,hbk1⟩,hs1,h11,hcr⟩:=g3 hC1
 have hcell:∀ (j:Nat) (x:UInt8),(l.map fun n=>UInt8.ofNat n.toNat)[j]? = some x->cur[j]? = some (Value.int .u8 x.toNat):=by
  intro j x hx
  rw [List.getElem?_map] at hx
  cases hj:l[j]? with
  | none=>rw [hj] at hx;cases hx
  | some n =>
   rw [hj] at hx
   simp only [Option.map_some,Option.some.injEq] at hx
   subst hx
   obtain ⟨u,hu,hru⟩:=hcr j 0 [Y n] (Y n) (by rw [List.getElem?_map,hj];rfl) rfl
   have e:=Qw1 hru
   subst e
   have hn:=hb n (List.mem_of_getElem? hj)
   rw [show j*1+0=j by omega] at hu
   rw [hu]
   congr 2
   rw [UInt8.toNat_ofNat']
   omega
 have hcurs:l.length<=cur.size:=by
  have e:cur.size=K.C 1 0*1:=hs1
  simp at g2
  omega
 have c0:w.cell? ⟨K.ρ 0 0,1,none⟩=some (.slice (some ⟨K.ρ 1 0,0,none⟩) (l.map fun n=>UInt8.ofNat n.toNat).length cap):=by
  rw [Lib.cell_of_heap hbk,List.length_map];exact hu1
 refine (Q4d (K.ρ 0 0) (K.ρ 1 0) cap cur fr1 (l.map fun n=>UInt8.ofNat n.toNat) w (by simpa using h0) c0 hbk1 (by rw [List.length_map];exact q1) (by rw [List.length_map];exact hcurs) (by rw [List.length_map];omega) hcell).mono ?_
 rintro e w' ⟨rfl,rfl⟩
 obtain ⟨fr2,hfz⟩:=freeze_setB (w:=w.drew) (n:=(l.map fun n=>UInt8.ofNat n.toNat).length) (g:=K.ρ 1 0) hbk1
 have hm2:=MemSat.kill hm.drew hp1 rfl hC1 (.cells cur 5 fr2)
 rw [← hfz] at hm2
 have told:Go.Fw.Told 1 (Sg (QH1 l)) [(0,.row te 2 [[x,.own 1 0 1 0 l.length]]),(0,.dead)] (Sg (QH1 l)) [(0,.row te 2 [[.any,.any]])] :=
  Q48 [0] rfl (by decide) (.cons 0 _ _ _ _ rfl (Qk0 (.cons _ _ _ _ (fun _ _ _ _ _=>.any _) (.cons _ _ _ _ (fun _ _ _ _ _=>.any _) .nil))) .nil) (Qo1 (Qp3 rfl))
 obtain ⟨K',hle,hm3,hr3⟩:=told (K.cut 1) K _ (.string (QH1 l)) rfl (cut_le (by rw [← hm.len];simp)) hm2 (.lit _)
 refine ⟨_,K',?_,hle,hm3,hr3⟩
 rw [Qq6]
theorem String_c {te:TypeId} (l:List Int) (hb:Q31 l) (hl:l.length<=70368744177664):AMoves Tryz.prog 30 [.ptr 0 0 2 0 0] [(0,.row te 2 [[.any,.buf 1 0 1 l.length]]),(0,Qw4 l)] 1 (Sg (QH1 l)) [(0,.row te 2 [[.any,.any]])]:=by
 by_cases h0:l=[]
 ·subst h0
  intro K w vs hm hr
  have hp0:([(0,.row te 2 [[.any,.buf 1 0 1 ([]:List Int).length]]),(0,Qw4 [])]:Objs)[0]? = some (0,.row te 2 [[.any,.buf 1 0 1 ([]:List Int).length]]):=rfl
  obtain ⟨hC,c,fr,hbk,hfr,hs,h1,hx⟩:=QT8 hm hp0
  have hvs:vs=[.pointer (some ⟨K.ρ 0 0,0,none⟩)]:=by
   obtain ⟨v,rfl⟩:∃ v,vs=[v]:=List.length_eq_one_iff.1 hr.1
   obtain ⟨e,_,_⟩:=Q97 (hr.2 0 _ _ rfl rfl)
   rw [e]
  subst hvs
  obtain ⟨u1,hu1,hr1⟩:=hx 1 _ rfl
  have told:Go.Fw.Told 1 (Sg (QH1 [])) [(0,.row te 2 [[.any,.buf 1 0 1 ([]:List Int).length]]),(0,Qw4 [])] (Sg (QH1 [])) [(0,.row te 2 [[.any,.any]])] :=
   Q48 [0] rfl (by decide) (.cons 0 _ _ _ _ rfl (Qk0 (.cons _ _ _ _ (fun _ _ _ _ _=>.any _) (.cons _ _ _ _ (fun _ _ _ _ _=>.any _) .nil))) .nil) (Qo1 (Qp3 rfl))
  obtain ⟨K',hle,hm3,hr3⟩:=told (K.cut 1) K _ (.string (QH1 [])) rfl (cut_le (by rw [← hm.len];simp)) hm.drew (.lit _)
  have c0:w.cell? ⟨K.ρ 0 0,1,none⟩=some u1:=by rw [Lib.cell_of_heap hbk];exact hu1
  have fin:Calls Tryz.prog 30 #[.pointer (some ⟨K.ρ 0 0,0,none⟩)] w fun e w'=>e = .returned (.string ⟨#[]⟩)∧w'=w.drew:=by
   generalize hn:([]:List Int).length=n at hr1
   cases hr1 with
   | bufNil=>exact Q6e _ w c0
   | bufSome _ _ _ _ cap ho hv hl' hc hC' =>
    have hn':n=0:=hn.symm
    subst hn'
    exact Q3d _ cap _ w hc c0
  refine fin.mono ?_
  rintro e w' ⟨rfl,rfl⟩
  exact ⟨_,K',rfl,hle,hm3,hr3⟩
 ·intro K w vs hm hr
  have hm':MemSat K [(0,.row te 2 [[.any,.own 1 0 1 0 l.length]]),(0,Qw4 l)] w:=by
   have hp0:([(0,.row te 2 [[.any,.buf 1 0 1 l.length]]),(0,Qw4 l)]:Objs)[0]? = some (0,.row te 2 [[.any,.buf 1 0 1 l.length]]):=rfl
   obtain ⟨hC,c,fr,hbk,hfr,hs,h1,hx⟩:=QT8 hm hp0
   have hm':=hm.setRow hp0 hC c c ⟨fr,hfr,hbk⟩ rfl h1 [[.any,.own 1 0 1 0 l.length]] (by simp;omega) (by simp) (fun i j e y he hy=>?_)
   ·rw [Qqg hbk] at hm'
    exact hm'
   ·have hi:i=0:=by have:=(List.getElem?_eq_some_iff.1 he).1;simp at this;omega
    subst hi
    simp at he
    subst he
    rcases j with _|_|j
    ·simp at hy
     subst hy
     obtain ⟨u0,hu0,_⟩:=hx 0 _ rfl
     exact ⟨u0,by simpa using hu0,.any _⟩
    ·simp at hy
     subst hy
     obtain ⟨u1,hu1,hr1⟩:=hx 1 _ rfl
     exact ⟨u1,by simpa using hu1,QJb hr1⟩
    ·simp at hy
  exact String_some l h0 hb hl K w vs hm' hr
end Go.Proofs.YtgjcljceccfgjaaGreatDoor
namespace Go.Proofs.YtgjcljceccfgjaaGreatDoor
set_option linter.unusedSimpArgs false
set_option linter.unusedVariables false
open Go.RowKit Go.Shelf
attribute [local go_sem] Oper.semAt_some
def Qr6 (hi:Int) (k:Nat):List Int:=(List.range k).map fun (i:Nat)=>hi - (i:Int)
theorem downFrom_succ (hi:Int) (k:Nat):Qr6 hi (k+1)=Qr6 hi k++[hi - (k:Int)]:=by simp [Qr6,List.range_succ]
theorem Qp7 (hi:Int) (k:Nat):(Qr6 hi k).length=k:=by simp [Qr6]
def leftOf (lo:Int):Value->Nat
 | .int _ n=>(n - lo+1).toNat
 | _=>0
theorem sizes_in (n:Nat) (hn:1<=n) (l Bt Bf:Nat) (lo hi:Int) (h1:1<=lo) (h2:lo<=hi) (h3:hi<=48) (J Jx:List Int->World->Prop)
  (hY:∀ pre x W,J pre W->pre.length<(hi - lo+1).toNat->YieldAt Fence.wide (n - 1) Tryz.prog l #[.int .i64 x] W fun e W' =>
   (e = .returned (.bool true)∧J (pre++[x]) W'∧(W.cell? ⟨Bf,0,none⟩=some (.int .i64 lo)->W'.cell? ⟨Bf,0,none⟩=some (.int .i64 lo)))∨(e = .returned (.bool false)∧Jx (pre++[x]) W'))
  (W:World) (hT:W.cell? ⟨Bt,0,none⟩=some (.int .i64 hi)) (hF:W.cell? ⟨Bf,0,none⟩=some (.int .i64 lo)) (h0:J [] W) :
  CallsIn Fence.wide n Tryz.prog 216 #[.func (.yield l) #[] #[],.pointer (some ⟨Bt,0,none⟩),.pointer (some ⟨Bf,0,none⟩)] W fun e W'=>(∃ v,e = .returned v) ∧
   ((∃ ys,ys=Qr6 hi (hi - lo+1).toNat∧J ys W')∨(∃ pre,True∧Jx pre W')):=by
 refine callsIn_of_wp Tryz.func216 rfl trivial ?_ rfl
 simp only [Tryz.ntmps216,List.size_toArray,List.length_cons,List.length_nil,Nat.reduceAdd,Nat.reduceSub,Array.replicate_succ,Array.replicate_zero,List.push_toArray,List.append_toArray,List.nil_append,List.cons_append]
 gi_wp2
 gi_loopw [4] (fun p wr=>∃ k:Nat,p = .int .i64 (hi - (k:Int))∧k<=(hi - lo+1).toNat∧wr.cell? ⟨Bf,0,none⟩=some (.int .i64 lo)∧J (Qr6 hi k) wr)
  (fun p _=>leftOf lo p)
 case atStart =>
  exact ⟨0,by simp,by omega,hF,h0⟩
 case round =>
  obtain ⟨k,rfl,hk,hc,hJs⟩:=hrel
  by_cases hle:lo<=hi - (k:Int)
  ·obtain ⟨fn,tmps,assign,body,hy,hR⟩:=hY (Qr6 hi k) (hi - (k:Int)) wr hJs (by rw [Qp7];omega)
   have hd:decide (hi - (k:Int) >= lo)=true:=decide_eq_true hle
   gi_wp2
   refine hR.mono ?_
   rintro e W3 (⟨rfl,hJ3,hk3⟩|⟨rfl,hJx3⟩)
   ·gi_wp2
    go_roundw
    case rel =>
     refine ⟨k+1,?_,by omega,hk3 hc,by rw [downFrom_succ];exact hJ3⟩
     simp
     omega
    case measure =>
     simp only [leftOf]
     omega
   ·gi_wp2
    refine bodyPost_ret (results_none rfl _ _ _) rfl ?_
    exact ⟨⟨_,rfl⟩,.inr ⟨_,trivial,hJx3⟩⟩
  ·have hd:decide (hi - (k:Int) >= lo)=false:=decide_eq_false (by omega)
   gi_wp2
   have hk':k=(hi - lo+1).toNat:=by omega
   subst hk'
   go_end0
   exact ⟨⟨_,rfl⟩,.inl hJs⟩
theorem sizes_stops (n:Nat) (hn:1<=n) (Bt Bf:Nat) (lo hi:Int) (w:World) (h1:1<=lo) (h2:lo<=hi) (h3:hi<=48) (hbt:Bt<w.heap.size) (hbf:Bf<w.heap.size)
  (hT:w.cell? ⟨Bt,0,none⟩=some (.int .i64 hi)) (hF:w.cell? ⟨Bf,0,none⟩=some (.int .i64 lo)) :
  SeqStopsK Fence.wide n Tryz.prog 216 #[.pointer (some ⟨Bt,0,none⟩),.pointer (some ⟨Bf,0,none⟩)] (fun x:Int=>#[Value.int .i64 x]) (fun W W'=>W.cell? ⟨Bf,0,none⟩=some (.int .i64 lo)->W'.cell? ⟨Bf,0,none⟩=some (.int .i64 lo)) (fun ys=>ys=Qr6 hi (hi - lo+1).toNat) (fun _=>True) (hi - lo+1).toNat w :=
 fun l J Jx W hW _ _ hY h0=>sizes_in n hn l Bt Bf lo hi h1 h2 h3 J Jx hY W ((hW.cell (p:=⟨Bt,0,none⟩) hbt).trans hT) ((hW.cell (p:=⟨Bf,0,none⟩) hbf).trans hF) h0
end Go.Proofs.YtgjcljceccfgjaaGreatDoor
namespace Go.Proofs.YtgjcljceccfgjaaGreatDoor
set_option linter.unusedSimpArgs false
set_option linter.unusedVariables false
open Go.Fw
theorem Qm3 (s:ByteArray):Q31 (Qi0 s):=fun n hn=>by
 obtain ⟨b,_,rfl⟩:=List.mem_map.1 hn
 have:=b.toNat_lt
 omega
theorem rowAt_first {P:Program} {fits:TypeId->Bool} {d:Nat} {e:TypeId} {n:Nat} (hc:P.cellsOf e ≠ 0) (hn:1<=n) (h:rowAt P fits (d+1) e 1 0 1=true):rowAt P fits (d+1) e n 0 1=true:=by
 unfold rowAt at h ⊢
 simp only [hc,if_false,Nat.zero_div,Nat.zero_mod,Bool.or_eq_true,Bool.and_eq_true,decide_eq_true_eq] at h ⊢
 rcases h with h|h
 ·exact .inl ⟨⟨h.1.1,by omega⟩,h.2⟩
 ·exact .inr ⟨by omega,h.2⟩
theorem wrCells:Tryz.prog.cellsOf 56 = 2:=by kernel_rfl
theorem bldT1:BldT 56:=by
 refine ⟨wrCells,fun n hn=>?_⟩
 have hd:Tryz.prog.depth=(2*(Tryz.prog.types.size+Made.depth)+1)+1:=rfl
 rw [hd]
 simp only [liesAt,Bool.or_eq_true]
 left
 rw [hd]
 exact rowAt_first (by rw [wrCells];decide) hn (by kernel_rfl)
set_option maxRecDepth 20000
set_option maxHeartbeats 4000000
attribute [local irreducible] ACalls AMoves
theorem Q0d {te:TypeId} (ht:BldT te) (l:List Int) (s:ByteArray) (hl:l.length<=35184372088832) (hs:s.size<=4294967296):AMoves Tryz.prog 63 [.ptr 0 0 2 0 0,Sg s] [(0,.row te 2 [[.sel 0 0 2 0 0,.own 1 0 1 0 l.length]]),(0,Qw4 l)] 1 (.tup [I (ByteArray.size s:Int),.lit .nilIface]) [(0,.row te 2 [[.ptr 0 0 2 0 0,.own 1 0 1 0 (l++Qi0 s).length]]),(0,Qw4 (l++Qi0 s))]:=by
 refine AMoves.of_cwp (fun _=>true) Tryz.func63 rfl rfl rfl ?_
 conv=>whnf
 refine ACalls.use (AMoves.on [0,1] (QFf ht (x:=.own 1 0 1 0 l.length) (rest:=[(0,Qw4 l)]) (n0:=2) (by simp)) (by decide) rfl rfl rfl (.cons _ _ _ _ (.row1 _ _ _ _ (.cons _ _ _ _ (Qz1 rfl) (.cons _ _ _ _ (dn_own rfl) .nil))) (.cons _ _ _ _ (.same _ (QB8 fun _=>lowL1 rfl)) .nil)) rfl (.cons _ _ _ _ (dn_ptr rfl) .nil) (.cons _ _ _ _ (RenO.row1 _ _ _ _ (.cons _ _ _ _ (Ren.ptr _ _ _ _ _ _ rfl) (.cons _ _ _ _ (Ren.own _ _ _ _ _ _ rfl) .nil))) (.cons _ _ _ _ (RenO.same _ (QB8 fun _=>lowL1 rfl)) .nil)) (Ren.low _ (.tup _ (fun x h=>nomatch h)))) ?_
 conv=>whnf
 refine And.intro ⟨rfl,by simp,rfl,rfl,rfl,rfl,by omega⟩ ?_
 conv=>whnf
 refine Q41 (fun _:Unit=>.tup [I (ByteArray.size s:Int),.lit .nilIface]) (fun _:Unit=>[(0,.row te 2 [[.ptr 0 0 2 0 0,.own 1 0 1 0 (l++Qi0 s).length]]),(0,Qw4 (l++Qi0 s))]) (leaf:=()) rfl ?_
 have hb:(Qi0 s).length=s.size:=by simp [Qi0]
 exact Q48 [0,1] rfl (by decide) (.cons 0 _ _ _ _ rfl (Qk0 (.cons _ _ _ _ (Q50 0 rfl rfl) (.cons _ _ _ _ (Q3e 1 rfl rfl (by rw [List.length_append,hb])) .nil))) (.cons 1 _ _ _ _ rfl (Qzb (by rw [List.map_append];simp [Qi0]) (QB8 fun _=>lowL1 rfl)) .nil)) (turn_tup (.cons _ _ _ _ (Qo1 (Qp3 rfl)) (.cons _ _ _ _ (Qo1 (Qp3 rfl)) .nil)))
end Go.Proofs.YtgjcljceccfgjaaGreatDoor
namespace Go.Proofs.YtgjcljceccfgjaaGreatDoor
set_option linter.unusedSimpArgs false
set_option linter.unusedVariables false
open Go.Fw
theorem ckA {p:Prop} (h:p:=by first|exact wu64_nonneg _|omega|(simp only [QJ0];omega)|(simp only [Option.getD_some,Option.getD_none,cond_true,cond_false,Bool.and_eq_true,Bool.or_eq_true,Bool.not_eq_true',Bool.not_eq_false',Bool.not_not,decide_eq_true_eq,decide_eq_false_iff_not,beq_iff_eq,bne_iff_ne,beq_eq_false_iff_ne,bne_eq_false_iff_eq,ne_eq] at *;first|omega|(simp (disch:=omega) only [wr];omega))|grind):p:=h
theorem leA {p:Prop} (h:p:=by first|rfl|omega|(simp;omega)|grind):p:=h
theorem exA {p:Prop} (h:p:=by first|omega|(dsimp only;omega)|(simp;done)|(simp;omega)|(simp [QJ0];done)|grind):p:=h
theorem omA {p:Prop} (h:p:=by first|omega|(dsimp only;omega)|grind):p:=h
theorem szA {p:Prop} (h:p:=by first|omega|assumption|(refine ⟨?_,?_⟩ <;> assumption)|(simp;done)|exact QD4 (by assumption) (by first|exact Job.szz _|exact Usage.szz _|exact Shape.szz _|exact Token.szz _)|exact Shape.szz _|exact Job.szz _|exact State.szz _|(rw [bytesStr_size];omega)|(refine Nat.le_trans (QJ7 _) ?_;simp only [List.length_drop,List.length_take];omega)|(dsimp only [Cmd.sz,Job.sz,Shape.sz,State.sz,Usage.sz,Token.sz,LexReader.sz,ImageReader.sz,Ref28From.sz,Cmd.szN,Job.szN,Shape.szN,State.szN,Usage.szN,Token.szN,LexReader.szN,ImageReader.szN,Ref28From.szN];(repeat' apply And.intro) <;> first|assumption|(simp;done))|grind):p:=h
theorem lnA {p:Prop} (h:p:=by first|rfl|exact (QJ0 _).symm|exact QJ0 _|(simp;done)|(simp [QJ0];done)|grind):p:=h
theorem eqA {p:Prop} (h:p:=by first|rfl|(simp only [Nat.zero_add,Int.toNat_natCast,List.map_set];rfl)|(rw [List.map_replicate];rfl)|(rw [List.map_take];rfl)|exact QQ8 _ _ _|(refine Eq.symm ?_;exact QNc _ _ _)|exact (bytesOf_map _)|(rw [List.map_append];rfl)|(rw [List.map_append,← QQ8];rfl)|(simp;done)|((repeat rw [List.map_append]);repeat' (first|rfl|exact QQ8 _ _ _|(refine Eq.symm ?_;exact QNc _ _ _)|exact rangeTake _ _ _ ckA|exact rangeDrop _ _ _ _ leA|exact range_cut _ _ _ _ _ leA ckA|exact List.map_replicate|refine app_eq ?_ ?_))):p:=h
theorem cvA {p:Prop} (h:p:=by first|exact newsP_own rfl lnA|exact newsP_nil|exact newsP_ownE rfl eqA lnA|exact newsP_seq (by first|rfl |  exact QQ8 _ _ _|(refine Eq.symm ?_;exact QNc _ _ _)|exact rangeTake _ _ _ ckA|exact rangeDrop _ _ _ _ leA|exact range_cut _ _ _ _ _ leA ckA|simp)):p:=h
theorem gkA {p:Prop} (h:p:=by first|exact fun hg=>decide_eq_true ckA|exact fun _=>rfl|exact rfl):p:=h
theorem apA {p:Prop} (h:p:=by first|(simp;omega)|grind):p:=h
theorem roA {p:Prop} (h:p:=by first|rfl|omega):p:=h
theorem ltA {i n:Nat} (h:decide ((i:Int)<(n:Int))=true):i<n:=by have:=of_decide_eq_true h;omega
theorem geA {i n:Nat} (h:decide ((i:Int)<(n:Int))=false):n<=i:=by have:=of_decide_eq_false h;omega
theorem sucA (m:Nat) (h:0<m:=by omega):∃ k,m=k+1:=⟨m - 1,by omega⟩
end Go.Proofs.YtgjcljceccfgjaaGreatDoor
namespace Go.Proofs.YtgjcljceccfgjaaGreatDoor
set_option linter.unusedSimpArgs false
set_option linter.unusedVariables false
open Go.Fw
set_option maxRecDepth 20000
set_option maxHeartbeats 4000000
attribute [local irreducible] ACalls AMoves
def Qsd (l:List Node):Bool:=(decide ((l.length:Int)<=100))
theorem law12_Few_c (l:List Node):∀ objs,AGives Tryz.prog 14 [nodeL l] objs (Bo (Qsd l)):=by
 generalize hR:Qsd l=R;refine ga (.cons lw .nil) lx (kp 3 []) Tryz.func14 ?_;obtain rfl:=foll hR rfl;exact Q30 lx sr
def Qrd (s:Shape):Bool:=(decide ((s.alts.length:Int)<=100))
theorem law07_Few_c (s:Shape):∀ objs,AGives Tryz.prog 85 [Shape.a s] objs (Bo (Qrd s)):=by
 generalize hR:Qrd s=R;refine ga (.cons (Shape.low _ _) .nil) lx (kp 3 []) Tryz.func85 ?_;obtain rfl:=foll hR rfl;exact Q30 lx sr
def Qvd (l:List Book):Bool:=(decide ((l.length:Int)<=100))
theorem law19_Few_c (l:List Book):∀ objs,AGives Tryz.prog 16 [bookL l] objs (Bo (Qvd l)):=by
 generalize hR:Qvd l=R;refine ga (.cons lw .nil) lx (kp 3 []) Tryz.func16 ?_;obtain rfl:=foll hR rfl;exact Q30 lx sr
def Qs8 :List Usage->Nat->Bool
 | [],_=>true
 | x_ :: r,i=>bif ((decide ((ByteArray.size x_.user:Int) > 1000))||(decide ((ByteArray.size x_.account:Int) > 1000))) then false else Qs8 r (i+1)
def Qud (l:List Usage):Bool:=bif (decide ((l.length:Int) > 300)) then false else Qs8 l 0
theorem law17_Few_c (l:List Usage) (hs0:l.length<=9223372036854775807∧(∀ y ∈ l,y.szM)):∀ objs,AGives Tryz.prog 17 [QO2 l] objs (Bo (Qud l)):=by
 generalize hR:Qud l=R;refine ga (.cons lw .nil) lx (kp 4 [6,10,28]) Tryz.func17 ?_;have hk0:=hs0;obtain ⟨z9,z10⟩:l.length<=9223372036854775807∧(∀ y ∈ l,y.szM):=hs0;refine ai (fun h1=>?_) (fun h2=>?_)
 ·have qh1:=of_decide_eq_true h1;obtain rfl:=foll hR (ct h1 rfl);exact Q30 lx sr
 ·have qh2:=of_decide_eq_false h2;refine Qw0 (fun (i:Nat)=>Qs8 (List.drop i l) i=R∧i<=l.length) (fun i=>l.length - i) (fun i=>[(0,QO2 l),(2,Bo false),(3,I (i:Int))]) (fun i=>[]) 0 (wk [] .nil (sl lw (s1 (s1 .nil)))) ⟨foll hR (cf h2 rfl),by exact omA⟩ ?_;clear hR;rintro i ⟨hR,hj⟩;(try dsimp only at hR hj);refine ai (fun h3=>?_) (fun h4=>?_)
  ·have hlt:=ltA h3;rw [Qo0 Usage.zero hlt] at hR;have hxz:(l.getD i Usage.zero).szM:=QD4 (by first|assumption|grind) (Usage.szz _);have hkz:=hxz;obtain ⟨z5,z6⟩:((l.getD i Usage.zero).user).size<=9223372036854775807∧((l.getD i Usage.zero).account).size<=9223372036854775807:=hxz;refine ai gkA ?_;refine ai gkA ?_;refine ai (fun h7=>?_) (fun h8=>?_)
   ·obtain rfl:=foll hR (ct h7 rfl);exact Q30 lx sr
   ·exact QA0 (i+1) (wk [] .nil (sl lw (s1 (sv (Qt0 (I_eq (wr omA)) lx) .nil)))) omA ⟨foll hR (cf h8 rfl),by exact omA⟩
  ·rw [Qp0 (l:=l) (j:=i) (geA h4)] at hR;obtain rfl:=foll hR rfl;exact Q30 lx sr
def Qn5 (f:Node->Bool):List Node->Nat->Int
 | [],_=>(-1)
 | x_ :: r,i=>bif (f x_) then (i:Int) else Qn5 f r (i+1)
def Q03 (s:List Node) (f:Node->Bool):Int:=Qn5 f s 0
def QT9 (n:Int):Bool:=((decide (n >= 0))&&(decide (n<=1000000)))
theorem QBe (n:Int):∀ objs,AGives Tryz.prog 150 [I n] objs (Bo (QT9 n)):=by
 generalize hR:QT9 n=R;refine ga (l1 .nil) lx (kp 3 []) Tryz.func150 ?_;obtain rfl:=foll hR rfl;exact Q30 lx sr
def Qb7 (v:Int):List Int->Nat->Int
 | [],_=>(-1)
 | x_ :: r,i=>bif (v==x_) then (i:Int) else Qb7 v r (i+1)
def QE8 (s:List Int) (v:Int):Int:=Qb7 v s 0
theorem QZd (s:List Int) (v:Int) (hs0:s.length<=4294967296):∀ objs,AGives Tryz.prog 164 [ints s,I v] objs (I (QE8 s v)):=by
 generalize hR:QE8 s v=R;refine ga (.cons lw (l1 .nil)) lx (kp 6 [7,8,9,16]) Tryz.func164 ?_;have hk0:=hs0;obtain z5:s.length<=4294967296:=hs0;refine Qw0 (fun (i:Nat)=>Qb7 v (List.drop i s) i=R∧i<=s.length) (fun i=>s.length - i) (fun i=>[(0,ints s),(1,I v),(4,I 0),(7,I (s.length:Int)),(8,I (i:Int))]) (fun i=>[]) 0 (wk [] .nil (sl lw (s1 (s1 (s1 (s1 .nil)))))) ⟨foll hR rfl,by exact omA⟩ ?_;clear hR;rintro i ⟨hR,hj⟩;(try dsimp only at hR hj);refine ai (fun h1=>?_) (fun h2=>?_)
 ·have hlt:=ltA h1;rw [Qo0 0 hlt] at hR;refine ai gkA ?_;refine ai (fun h3=>?_) (fun h4=>?_)
  ·obtain rfl:=foll hR (ct h3 rfl);exact Q30 lx sr
  ·exact QA0 (i+1) (wk [] .nil (sl lw (s1 (s1 (s1 (sv (Qt0 (I_eq (wr omA)) lx) .nil)))))) omA ⟨foll hR (cf h4 rfl),by exact omA⟩
 ·rw [Qp0 (l:=s) (j:=i) (geA h2)] at hR;obtain rfl:=foll hR rfl;exact Q30 lx sr
def QR5 (n:Int) (from_:Int) (to_:Int):Int:=bif (decide (n<from_)) then from_ else bif (decide (n > to_)) then to_ else n
theorem Qef (n:Int) (from_:Int) (to_:Int):∀ objs,AGives Tryz.prog 141 [I n,I from_,I to_] objs (I (QR5 n from_ to_)):=by
 generalize hR:QR5 n from_ to_=R;refine ga (l1 (l1 (l1 .nil))) lx (kp 7 [7,12]) Tryz.func141 ?_;refine ai (fun h1=>?_) (fun h2=>?_)
 ·have qh1:=of_decide_eq_true h1;obtain rfl:=foll hR (ct h1 rfl);exact Q30 lx sr
 ·have qh2:=of_decide_eq_false h2;refine ai (fun h3=>?_) (fun h4=>?_)
  ·have qh3:=of_decide_eq_true h3;obtain rfl:=foll hR (cf h2 (ct h3 rfl));exact Q30 lx sr
  ·have qh4:=of_decide_eq_false h4;obtain rfl:=foll hR (cf h2 (cf h4 rfl));exact Q30 lx sr
def QL2 (n:Int):Bool:=((decide (n >= 0))&&(decide (n<=1000000)))
theorem Qg7 (n:Int):∀ objs,AGives Tryz.prog 153 [I n] objs (Bo (QL2 n)):=by
 generalize hR:QL2 n=R;refine ga (l1 .nil) lx (kp 3 []) Tryz.func153 ?_;obtain rfl:=foll hR rfl;exact Q30 lx sr
def QZ1 (n:Int) (from_:Int) (to_:Int):Bool:=((decide (n >= from_))&&(decide (n<=to_)))
theorem QV3 (n:Int) (from_:Int) (to_:Int):∀ objs,AGives Tryz.prog 182 [I n,I from_,I to_] objs (Bo (QZ1 n from_ to_)):=by
 generalize hR:QZ1 n from_ to_=R;refine ga (l1 (l1 (l1 .nil))) lx (kp 7 []) Tryz.func182 ?_;obtain rfl:=foll hR rfl;exact Q30 lx sr
def QB1 (r_:Int):Int:=bif ((r_==9)||(r_==32)) then 1 else bif (((((decide (r_<32))||((decide (r_ >= 127))&&(decide (r_<=160))))||((decide (r_ >= 55296))&&(decide (r_<=57343))))||(r_==65533))||(decide (r_ > 1114111))) then 0 else bif ((decide (r_ >= 48))&&(decide (r_<=57))) then 3 else bif ((((decide (r_ >= 97))&&(decide (r_<=122)))||((decide (r_ >= 65))&&(decide (r_<=90))))||(decide (r_ > 160))) then 2 else 4
theorem Qx5 (r_:Int):∀ objs,AGives Tryz.prog 211 [J r_] objs (I (QB1 r_)):=by
 generalize hR:QB1 r_=R;refine ga (l1 .nil) lx (kp 3 [3,10,37,44]) Tryz.func211 ?_;refine ai (fun h1=>?_) (fun h2=>?_)
 ·obtain rfl:=foll hR (ct h1 rfl);exact Q30 lx sr
 ·refine ai (fun h3=>?_) (fun h4=>?_)
  ·obtain rfl:=foll hR (cf h2 (ct h3 rfl));exact Q30 lx sr
  ·refine ai (fun h5=>?_) (fun h6=>?_)
   ·obtain rfl:=foll hR (cf h2 (cf h4 (ct h5 rfl)));exact Q30 lx sr
   ·refine ai (fun h7=>?_) (fun h8=>?_)
    ·obtain rfl:=foll hR (cf h2 (cf h4 (cf h6 (ct h7 rfl))));exact Q30 lx sr
    ·obtain rfl:=foll hR (cf h2 (cf h4 (cf h6 (cf h8 rfl))));exact Q30 lx sr
def QO0 (is:Int->Bool):Nat->LexReader->LexReader
 | 0,_=>LexReader.zero
 | m+1,c=>bif ((decide (c.at_<(c.line.length:Int)))&&(is (c.line.getD (Int.toNat c.at_) 0))) then QO0 is m { c with at_:=(w64 (c.at_+1)) } else c
def QP0 (r_:LexReader) (c:LexReader):ByteArray × LexReader:=((runesBytes (List.drop (Int.toNat r_.at_) (List.take (Int.toNat c.at_) c.line))),c)
def Q90 (r_:LexReader) (is:Int->Bool):ByteArray × LexReader:=QP0 r_ (QO0 is ((Int.toNat ((r_.line.length:Int) - r_.at_))+1) r_)
theorem Qcc (is:Int->Bool):∀ (m:Nat) (c:LexReader),(QO0 is m c).line.length<=c.line.length
 | 0,_=>by simp [QO0,LexReader.zero]
 | m+1,c=>by
  rw [QO0]
  cases ((decide (c.at_<(c.line.length:Int)))&&(is (c.line.getD (Int.toNat c.at_) 0))) with
  | true=>exact Qcc is m { c with at_:=(w64 (c.at_+1)) }
  | false=>exact Nat.le_refl _
theorem Q9b (r_:LexReader) (is:Int->Bool) (h:r_.line.length<=400):(Q90 r_ is).1.size<=4294967296:=by
 have h1:=Qcc is ((Int.toNat ((r_.line.length:Int) - r_.at_))+1) r_
 unfold Q90 QP0
 refine Nat.le_trans (QJ7 _) ?_
 simp only [List.length_drop,List.length_take]
 omega
def QQ5 (s:ByteArray):Nat->Nat->List Int->(List Int)
 | 0,_,_=>[]
 | m+1,i,c=>bif (decide ((i:Int)<(ByteArray.size s:Int))) then bif ((decide ((c.getD i 0) >= 65))&&(decide ((c.getD i 0)<=90))) then QQ5 s m (i+1) (c.set i (wu8 ((wu8 ((c.getD i 0)+97)) - 65))) else QQ5 s m (i+1) c else c
def QO4 (c:List Int):ByteArray:=(QH1 c)
def Q38 (s:ByteArray):ByteArray:=QO4 (QQ5 s ((Int.toNat ((ByteArray.size s:Int) - (0:Int)))+1) 0 (Qi0 s))
theorem runes_Lower_c (s:ByteArray) (hs0:s.size<=4294967296):∀ objs,AGives Tryz.prog 243 [Sg s] objs (Sg (Q38 s)):=by
 generalize hR:Q38 s=R;refine ga (l1 .nil) lx (kp 6 [8,9,10,11,20]) Tryz.func243 ?_;have hk0:=hs0;obtain z5:s.size<=4294967296:=hs0;refine Qq0 (fun (i:Nat) (c:List Int)=>∃ m,(Int.toNat ((ByteArray.size s:Int) - (i:Int)))<m∧QO4 (QQ5 s m i c)=R∧c.length=ByteArray.size s∧(i:Int)<=(ByteArray.size s:Int)) (fun i c=>(Int.toNat ((ByteArray.size s:Int) - (i:Int)))) (fun i c=>[(2,Sg ⟨#[]⟩),(3,AVal.own 0 0 1 0 c.length),(8,AVal.own 0 0 1 0 c.length),(9,I (ByteArray.size s:Int)),(10,I (i:Int))]) (fun i c=>[(0,AObj.row 5 1 (c.map (fun q_=>[Y q_])))]) 0 (Qi0 s) (wk [0] (tO rfl (tl eqA) .nil) (s1 (sv (to 0 lnA) (sv (to 0 lnA) (s1 (s1 .nil)))))) ⟨_,Nat.lt_succ_self _,foll hR rfl,by exact exA⟩ ?_;clear hR;rintro i c ⟨m,hm,hR,hx⟩;(try dsimp only at hR hm hx);obtain ⟨m,rfl⟩:=sucA m;refine ai (fun h1=>?_) (fun h2=>?_)
 ·have qh1:=of_decide_eq_true h1;refine ai gkA ?_;refine ⟨_,QJf rfl rfl rfl (Qjf 0 i roA ckA) rfl,?_⟩;refine ai (fun h3=>?_) (fun h4=>?_)
  ·refine ai gkA ?_;refine ⟨_,QAe rfl rfl rfl rfl (Qjf 0 i roA ckA) rfl rfl (set_map i (wu8 ((wu8 ((c.getD i 0)+97)) - 65)) roA rfl),?_⟩;exact Qm0 (i+1) (c.set i (wu8 ((wu8 ((c.getD i 0)+97)) - 65))) (wk [0] (tO rfl (tl eqA) .nil) (s1 (sv (to 0 lnA) (sv (to 0 lnA) (s1 (sv (Qt0 (I_eq (wr omA)) lx) .nil)))))) omA ⟨m,by exact omA,foll hR (congrArg (fun p:(List Int)=>QO4 p) (ct h1 (ct h3 rfl))),by exact exA⟩
  ·exact Qm0 (i+1) c (wk [0] (tO rfl (tl eqA) .nil) (s1 (sv (to 0 lnA) (sv (to 0 lnA) (s1 (sv (Qt0 (I_eq (wr omA)) lx) .nil)))))) omA ⟨m,by exact omA,foll hR (congrArg (fun p:(List Int)=>QO4 p) (ct h1 (cf h4 rfl))),by exact exA⟩
 ·have qh2:=of_decide_eq_false h2;replace hR:QO4 c=R:=fo2 (fun p:(List Int)=>QO4 p) (c) hR (cf h2 rfl);(first|refine ⟨c,by exact cvA,?_⟩|refine ⟨_,fun _=>⟨c,by exact cvA,rfl,rfl⟩,?_⟩|refine ⟨_,rfl,⟨c,by exact cvA,Sub.refl _,rfl⟩,?_⟩);obtain rfl:=foll hR rfl;exact Q30 lx sr
def Qd1 (r_:LexReader) (at_:Int) (e_:Int):LexReader:=bif (r_.error==0) then (⟨r_.line,r_.at_,at_,e_⟩:LexReader) else r_
theorem Q64 (r_:LexReader) (at_:Int) (e_:Int):AMoves Tryz.prog 236 [AVal.ptr 0 0 4 0 0,I at_,I e_] [(0,AObj.row 259 4 [[runes r_.line,I r_.at_,I r_.bad,I r_.error]])] 1 (AVal.tup []) [(0,AObj.row 259 4 [[runes ((Qd1 r_ at_ e_).line),I ((Qd1 r_ at_ e_).at_),I ((Qd1 r_ at_ e_).bad),I ((Qd1 r_ at_ e_).error)]])]:=by
 generalize hR:Qd1 r_ at_ e_=R;refine mo (kp 6 [10]) Tryz.func236 ?_;refine ai (fun h1=>?_) (fun h2=>?_)
 ·obtain rfl:=foll hR (ct h1 rfl);exact rq (tt [0] (tO rfl (ts LexReader.lo) .nil) t1)
 ·obtain rfl:=foll hR (cf h2 rfl);exact rq (tt [0] (tO rfl (ts LexReader.lo) .nil) t1)
def QD7 (s:ByteArray):List (Nat × Int)->Bool
 | []=>(!(ByteArray.toList s==ByteArray.toList ⟨#[]⟩))
 | x_ :: r=>bif ((decide (x_.2<48))||(decide (x_.2 > 57))) then false else QD7 s r
def QP8 (s:ByteArray):Bool:=QD7 s (Qj8 s)
theorem QEe (s:ByteArray) (hs0:s.size<=4294967296):∀ objs,AGives Tryz.prog 245 [Sg s] objs (Bo (QP8 s)):=by
 generalize hR:QP8 s=R;refine ga (l1 .nil) lx (kp 5 [6,7,8,15]) Tryz.func245 ?_;have hk0:=hs0;obtain z5:s.size<=4294967296:=hs0;refine Qw0 (fun (pos:Nat)=>∃ m,ByteArray.size s - pos<=m∧QD7 s (QX4 s m pos)=R) (fun pos=>ByteArray.size s - pos) (fun pos=>[(0,Sg s),(2,Bo false),(6,AVal.ptr 0 0 1 0 0)]) (fun pos=>[(0,AObj.other (.strIter s pos))]) 0 (wk [0] (tO rfl (.strIter _ _) .nil) (s1 (s1 (sv (Q50 0 rfl rfl) .nil)))) ⟨ByteArray.size s,by exact omA,foll hR rfl⟩ ?_;clear hR;rintro pos ⟨m,hm,hR⟩;(try dsimp only at hR hm);refine ai (fun h1=>?_) (fun h2=>?_)
 ·have hlt:=of_decide_eq_true h1;have hw:=QO8 s pos;have hwe:=QN8 s pos hlt;obtain ⟨m,rfl⟩:=sucA m;rw [QU3 h1] at hR;refine ai (fun _=>?_) (fun h=>nomatch h);refine ai (fun h3=>?_) (fun h4=>?_)
  ·obtain rfl:=foll hR (ct h3 rfl);exact Q30 lx sr
  ·exact QA0 (pos+(Utf8.decode s pos).2) (wk [0] (tO rfl (.strIter _ _) .nil) (s1 (s1 (sv (Q50 0 rfl rfl) .nil)))) omA ⟨m,by exact omA,foll hR (cf h4 rfl)⟩
 ·rw [Qo6 h2] at hR;refine ai (fun h=>nomatch h) (fun _=>?_);obtain rfl:=foll hR rfl;exact Q30 lx sr
theorem QKa (s:ByteArray):∀ l,QD7 s l=true->(!(ByteArray.toList s==ByteArray.toList ⟨#[]⟩))=true ∧ ∀ x ∈ l,48<=x.2∧x.2<=57
 | [],h=>⟨h,fun x hx=>nomatch hx⟩
 | x :: r,h=>by
  rw [QD7] at h
  cases hc:((decide (x.2<48))||(decide (x.2 > 57))) with
  | true=>rw [hc] at h;cases h
  | false =>
   rw [hc] at h
   obtain ⟨a,b⟩:=QKa s r h
   refine ⟨a,fun y hy=>?_⟩
   rcases List.mem_cons.1 hy with rfl|hy
   ·simp only [Bool.or_eq_false_iff,decide_eq_false_iff_not] at hc
    omega
   ·exact b y hy
theorem lex_digits_ok {s:ByteArray} {q:Bool} (h:(((!(QP8 s))||(decide ((ByteArray.size s:Int) > 9)))||q)=false):atoiOK s:=by
 simp only [Bool.or_eq_false_iff,Bool.not_eq_false',decide_eq_false_iff_not] at h
 obtain ⟨⟨h1,h2⟩,_⟩:=h
 obtain ⟨a,b⟩:=QKa s _ h1
 refine ⟨?_,by omega,fun i hi=>digits_bytes s s.size 0 (by omega) b i (by omega) hi⟩
 rcases Nat.eq_zero_or_pos s.size with h0|h0
 ·have e:s=⟨#[]⟩:=by
   apply ByteArray.ext
   exact Array.eq_empty_of_size_eq_zero h0
  rw [e] at a
  simp at a
 ·exact h0
def QA8 (s:ByteArray):Nat->Int->Nat->Int
 | 0,_,_=>0
 | m+1,n,i=>bif (decide ((i:Int)<(ByteArray.size s:Int))) then QA8 s m (w64 ((w64 (n*10))+(w64 (wu8 (((Qi0 s).getD i 0) - 48))))) (i+1) else n
def QB5 (n:Int):Int × Unit:=(n,())
def Qta (s:ByteArray):Int × Unit:=QB5 (QA8 s ((Int.toNat ((ByteArray.size s:Int) - (0:Int)))+1) 0 0)
theorem QRf (s:ByteArray) (hs0:s.size<=4294967296) (hp0:atoiOK s):∀ objs,AGives Tryz.prog 259 [Sg s] objs (AVal.tup [I ((Qta s).1),AVal.lit .nilIface]):=by
 generalize hR:Qta s=R;refine ga (l1 .nil) (Low.tup' (l1 (l1 .nil))) (kp 11 [30,39,44,47,48,49,50,56,66]) Tryz.func259 ?_;have hk0:=hs0;obtain z11:s.size<=4294967296:=hs0;refine ai (fun h1=>?_) (fun h2=>?_)
 ·refine ai gkA ?_;refine ai gkA ?_;refine ai (fun h3=>?_) (fun h4=>?_)
  ·exfalso;exact atoi_sign hp0 h3
  ·refine Qq0 (fun (n:Int) (i:Nat)=>∃ m,(Int.toNat ((ByteArray.size s:Int) - (i:Int)))<m∧QB5 (QA8 s m n i)=R∧(i:Int)<=(ByteArray.size s:Int)) (fun n i=>(Int.toNat ((ByteArray.size s:Int) - (i:Int)))) (fun n i=>[(0,Sg s),(2,I 0),(3,AVal.lit .nilIface),(5,Sg s),(6,I n),(47,AVal.own 0 0 1 0 (ByteArray.size s)),(48,I (ByteArray.size s:Int)),(49,I (i:Int))]) (fun n i=>[(0,AObj.row 5 1 ((Qi0 s).map (fun q_=>[Y q_])))]) 0 0 (wk [0] (tO rfl (tl eqA) .nil) (s1 (s1 (s1 (s1 (s1 (sv (to 0 lnA) (s1 (s1 .nil))))))))) ⟨_,Nat.lt_succ_self _,foll hR rfl,by exact exA⟩ ?_;clear hR;rintro n i ⟨m,hm,hR,hx⟩;(try dsimp only at hR hm hx);obtain ⟨m,rfl⟩:=sucA m;refine ai (fun h5=>?_) (fun h6=>?_)
   ·have qh5:=of_decide_eq_true h5;refine ai gkA ?_;refine ⟨_,QJf rfl rfl rfl (Qjf 0 i roA ckA) rfl,?_⟩;refine ai (fun h7=>?_) (fun h8=>?_)
    ·exfalso;exact atoi_digit hp0 (by omega) h7
    ·have qh8:=of_decide_eq_false h8;exact Qm0 (w64 ((w64 (n*10))+(w64 (wu8 (((Qi0 s).getD i 0) - 48))))) (i+1) (wk [0] (tO rfl (tl eqA) .nil) (s1 (s1 (s1 (s1 (s1 (sv (to 0 lnA) (s1 (sv (Qt0 (I_eq (wr omA)) lx) .nil))))))))) omA ⟨m,by exact omA,foll hR (congrArg (fun p:Int=>QB5 p) (ct h5 rfl)),by exact exA⟩
   ·have qh6:=of_decide_eq_false h6;replace hR:QB5 n=R:=fo2 (fun p:Int=>QB5 p) (n) hR (cf h6 rfl);refine ai gkA ?_;refine ai (fun h9=>?_) (fun h10=>?_)
    ·exfalso;exact atoi_minus hp0 h9
    ·obtain rfl:=foll hR rfl;exact Q30 (Low.tup' (l1 (l1 .nil))) (Seen.tup (e1 (e1 .nil)))
 ·exfalso;have ha1:=hp0.1;have ha2:=hp0.2.1;simp at h2;omega
def Qk3 (p_:List Int) (r_:Int) (i:Bool):(List Int):=bif i then (p_++([(wu8 (BitVec.ofInt 8 224 ||| BitVec.ofInt 8 (wu8 (Int.fdiv r_ (2 ^ (min (Int.toNat 12) 32))))).toNat),(wu8 (BitVec.ofInt 8 128 ||| BitVec.ofInt 8 (wu8 (BitVec.ofInt 8 (wu8 (Int.fdiv r_ (2 ^ (min (Int.toNat 6) 32)))) &&& BitVec.ofInt 8 63).toNat)).toNat),(wu8 (BitVec.ofInt 8 128 ||| BitVec.ofInt 8 (wu8 (BitVec.ofInt 8 (wu8 r_) &&& BitVec.ofInt 8 63).toNat)).toNat)]:List Int)) else bif ((decide ((wu32 r_) > 65535))&&(decide ((wu32 r_)<=1114111))) then (p_++([(wu8 (BitVec.ofInt 8 240 ||| BitVec.ofInt 8 (wu8 (Int.fdiv r_ (2 ^ (min (Int.toNat 18) 32))))).toNat),(wu8 (BitVec.ofInt 8 128 ||| BitVec.ofInt 8 (wu8 (BitVec.ofInt 8 (wu8 (Int.fdiv r_ (2 ^ (min (Int.toNat 12) 32)))) &&& BitVec.ofInt 8 63).toNat)).toNat),(wu8 (BitVec.ofInt 8 128 ||| BitVec.ofInt 8 (wu8 (BitVec.ofInt 8 (wu8 (Int.fdiv r_ (2 ^ (min (Int.toNat 6) 32)))) &&& BitVec.ofInt 8 63).toNat)).toNat),(wu8 (BitVec.ofInt 8 128 ||| BitVec.ofInt 8 (wu8 (BitVec.ofInt 8 (wu8 r_) &&& BitVec.ofInt 8 63).toNat)).toNat)]:List Int)) else (p_++([239,191,189]:List Int))
def Qb3 (p_:List Int) (r_:Int):(List Int):=bif (decide ((wu32 r_)<=2047)) then (p_++([(wu8 (BitVec.ofInt 8 192 ||| BitVec.ofInt 8 (wu8 (Int.fdiv r_ (2 ^ (min (Int.toNat 6) 32))))).toNat),(wu8 (BitVec.ofInt 8 128 ||| BitVec.ofInt 8 (wu8 (BitVec.ofInt 8 (wu8 r_) &&& BitVec.ofInt 8 63).toNat)).toNat)]:List Int)) else bif (decide ((wu32 r_)<55296)) then Qk3 p_ r_ (decide ((wu32 r_)<55296)) else Qk3 p_ r_ ((decide (57343<(wu32 r_)))&&(decide ((wu32 r_)<=65535)))
theorem QK9 (p_:List Int) (r_:Int) (hs0:p_.length<=4294967296):AMoves Tryz.prog 258 [AVal.own 0 0 1 0 p_.length,J r_] [(0,AObj.row 5 1 (p_.map (fun q_=>[Y q_])))] 0 (AVal.own 0 0 1 0 (Qb3 p_ r_).length) [(0,AObj.row 5 1 ((Qb3 p_ r_).map (fun q_=>[Y q_])))]:=by
 generalize hR:Qb3 p_ r_=R;refine mo (kj [1000007] 6 [11,25,50]) Tryz.func258 ?_;have hk0:=hs0;obtain z9:p_.length<=4294967296:=hs0;refine ai (fun h1=>?_) (fun h2=>?_)
 ·have qh1:=of_decide_eq_true h1;refine ai gkA ?_;refine Or.inl ?_;(first|refine ⟨Qg3 1 rfl lnA apA,?_⟩|refine ⟨Q52 1 rfl apA,?_⟩);obtain rfl:=foll hR (ct h1 rfl);exact rq (tt [0] (tO rfl (tl eqA) .nil) (to 0 lnA))
 ·have qh2:=of_decide_eq_false h2;refine Q63 (fun (i:Bool)=>Qk3 p_ r_ i=R) (fun i=>[(0,AVal.own 0 0 1 0 p_.length),(1,J r_),(4,AVal.lit (.slice none 0 0)),(5,V (wu32 r_)),(25,Bo i)]) (fun i=>[(0,AObj.row 5 1 (p_.map (fun q_=>[Y q_])))]) ?_ ?_
  ·clear hR;rintro i hR;(try dsimp only at hR);refine ai (fun h3=>?_) (fun h4=>?_)
   ·refine ai gkA ?_;refine ai gkA ?_;refine Or.inl ?_;(first|refine ⟨Qg3 1 rfl lnA apA,?_⟩|refine ⟨Q52 1 rfl apA,?_⟩);obtain rfl:=foll hR (ct h3 rfl);exact rq (tt [0] (tO rfl (tl eqA) .nil) (to 0 lnA))
   ·refine ai (fun h5=>?_) (fun h6=>?_)
    ·refine ai gkA ?_;refine ai gkA ?_;refine ai gkA ?_;refine Or.inl ?_;(first|refine ⟨Qg3 1 rfl lnA apA,?_⟩|refine ⟨Q52 1 rfl apA,?_⟩);obtain rfl:=foll hR (cf h4 (ct h5 rfl));exact rq (tt [0] (tO rfl (tl eqA) .nil) (to 0 lnA))
    ·refine Or.inl ?_;(first|refine ⟨Qg3 1 rfl lnA apA,?_⟩|refine ⟨Q52 1 rfl apA,?_⟩);obtain rfl:=foll hR (cf h4 (cf h6 rfl));exact rq (tt [0] (tO rfl (tl eqA) .nil) (to 0 lnA))
  ·refine ai (fun h7=>?_) (fun h8=>?_)
   ·have qh7:=of_decide_eq_true h7;exact Qz0 (decide ((wu32 r_)<55296)) (wk [0] (tO rfl (tl eqA) .nil) (sv (to 0 lnA) (s1 (s1 (s1 (s1 .nil)))))) (foll hR (cf h2 (ct h7 rfl)))
   ·have qh8:=of_decide_eq_false h8;exact Qz0 ((decide (57343<(wu32 r_)))&&(decide ((wu32 r_)<=65535))) (wk [0] (tO rfl (tl eqA) .nil) (sv (to 0 lnA) (s1 (s1 (s1 (s1 .nil)))))) (foll hR (cf h2 (cf h8 rfl)))
def QT3 (f:Dep->Bool):List Dep->Nat->Int
 | [],_=>(-1)
 | x_ :: r,i=>bif (f x_) then (i:Int) else QT3 f r (i+1)
def Qr1 (s:List Dep) (f:Dep->Bool):Int:=QT3 f s 0
def Q81 (a:Alt):Bool:=((((decide (a.nodes >= 1))&&(decide (a.nodes<=48)))&&(decide (a.wall >= 1)))&&(decide (a.wall<=100000)))
theorem Qub (a:Alt):∀ objs,AGives Tryz.prog 201 [Alt.a a] objs (Bo (Q81 a)):=by
 generalize hR:Q81 a=R;refine ga (.cons (Alt.low _ _) .nil) lx (kp 3 []) Tryz.func201 ?_;obtain rfl:=foll hR rfl;exact Q30 lx sr
def QS3 (f:Alt->Bool):List Alt->Nat->Int
 | [],_=>(-1)
 | x_ :: r,i=>bif (f x_) then (i:Int) else QS3 f r (i+1)
def Qq1 (s:List Alt) (f:Alt->Bool):Int:=QS3 f s 0
def Qy5 (s2:List Alt):List Alt->Nat->Bool
 | [],_=>true
 | x_ :: r,i=>bif (!((x_.nodes==(s2.getD i Alt.zero).nodes)&&(x_.wall==(s2.getD i Alt.zero).wall))) then false else Qy5 s2 r (i+1)
def QW6 (s1_:List Alt) (s2:List Alt):Bool:=bif ((s1_.length:Int)!=(s2.length:Int)) then false else Qy5 s2 s1_ 0
theorem QXd (s1_:List Alt) (s2:List Alt) (hs0:s1_.length<=4294967296) (hs1:s2.length<=4294967296):∀ objs,AGives Tryz.prog 205 [altL s1_,altL s2] objs (Bo (QW6 s1_ s2)):=by
 generalize hR:QW6 s1_ s2=R;refine ga (.cons lw (.cons lw .nil)) lx (kp 6 [10,12,13,14,24]) Tryz.func205 ?_;have hk0:=hs0;obtain z7:s1_.length<=4294967296:=hs0;have hk1:=hs1;obtain z8:s2.length<=4294967296:=hs1;refine ai (fun h1=>?_) (fun h2=>?_)
 ·obtain rfl:=foll hR (ct h1 rfl);exact Q30 lx sr
 ·refine Qw0 (fun (i:Nat)=>Qy5 s2 (List.drop i s1_) i=R∧i<=s1_.length) (fun i=>s1_.length - i) (fun i=>[(0,altL s1_),(1,altL s2),(4,Bo false),(12,I (s1_.length:Int)),(13,I (i:Int))]) (fun i=>[]) 0 (wk [] .nil (sl lw (sl lw (s1 (s1 (s1 .nil)))))) ⟨foll hR (cf h2 rfl),by exact omA⟩ ?_;clear hR;rintro i ⟨hR,hj⟩;(try dsimp only at hR hj);refine ai (fun h3=>?_) (fun h4=>?_)
  ·have hlt:=ltA h3;rw [Qo0 Alt.zero hlt] at hR;refine dchk (by kernel_rfl) ?_;refine ai gkA ?_;refine ai gkA ?_;refine ai (fun _=>(by kernel_rfl:eqOK _ _=true)) ?_;(repeat ((first|refine ai rfl ?_|refine ai (fun _=>rfl) ?_)));refine ai (fun h5=>?_) (fun h6=>?_)
   ·obtain rfl:=foll hR (ct h5 rfl);exact Q30 lx sr
   ·exact QA0 (i+1) (wk [] .nil (sl lw (sl lw (s1 (s1 (sv (Qt0 (I_eq (wr omA)) lx) .nil)))))) omA ⟨foll hR (cf h6 rfl),by exact omA⟩
  ·rw [Qp0 (l:=s1_) (j:=i) (geA h4)] at hR;obtain rfl:=foll hR rfl;exact Q30 lx sr
def Qz5 (s2:List Dep):List Dep->Nat->Bool
 | [],_=>true
 | x_ :: r,i=>bif (!((x_.how==(s2.getD i Dep.zero).how)&&(x_.job==(s2.getD i Dep.zero).job))) then false else Qz5 s2 r (i+1)
def QX6 (s1_:List Dep) (s2:List Dep):Bool:=bif ((s1_.length:Int)!=(s2.length:Int)) then false else Qz5 s2 s1_ 0
theorem QYd (s1_:List Dep) (s2:List Dep) (hs0:s1_.length<=4294967296) (hs1:s2.length<=4294967296):∀ objs,AGives Tryz.prog 190 [depL s1_,depL s2] objs (Bo (QX6 s1_ s2)):=by
 generalize hR:QX6 s1_ s2=R;refine ga (.cons lw (.cons lw .nil)) lx (kp 6 [10,12,13,14,24]) Tryz.func190 ?_;have hk0:=hs0;obtain z7:s1_.length<=4294967296:=hs0;have hk1:=hs1;obtain z8:s2.length<=4294967296:=hs1;refine ai (fun h1=>?_) (fun h2=>?_)
 ·obtain rfl:=foll hR (ct h1 rfl);exact Q30 lx sr
 ·refine Qw0 (fun (i:Nat)=>Qz5 s2 (List.drop i s1_) i=R∧i<=s1_.length) (fun i=>s1_.length - i) (fun i=>[(0,depL s1_),(1,depL s2),(4,Bo false),(12,I (s1_.length:Int)),(13,I (i:Int))]) (fun i=>[]) 0 (wk [] .nil (sl lw (sl lw (s1 (s1 (s1 .nil)))))) ⟨foll hR (cf h2 rfl),by exact omA⟩ ?_;clear hR;rintro i ⟨hR,hj⟩;(try dsimp only at hR hj);refine ai (fun h3=>?_) (fun h4=>?_)
  ·have hlt:=ltA h3;rw [Qo0 Dep.zero hlt] at hR;refine dchk (by kernel_rfl) ?_;refine ai gkA ?_;refine ai gkA ?_;refine ai (fun _=>(by kernel_rfl:eqOK _ _=true)) ?_;(repeat ((first|refine ai rfl ?_|refine ai (fun _=>rfl) ?_)));refine ai (fun h5=>?_) (fun h6=>?_)
   ·obtain rfl:=foll hR (ct h5 rfl);exact Q30 lx sr
   ·exact QA0 (i+1) (wk [] .nil (sl lw (sl lw (s1 (s1 (sv (Qt0 (I_eq (wr omA)) lx) .nil)))))) omA ⟨foll hR (cf h6 rfl),by exact omA⟩
  ·rw [Qp0 (l:=s1_) (j:=i) (geA h4)] at hR;obtain rfl:=foll hR rfl;exact Q30 lx sr
def QT7 (c:Cmd) (i1:Bool):Cmd:=bif i1 then (⟨c.kind,0,⟨#[]⟩,⟨#[]⟩,⟨#[]⟩,Shape.zero,0,false,0,false,[],c.node,0,0⟩:Cmd) else bif (c.kind==10) then (⟨c.kind,0,⟨#[]⟩,⟨#[]⟩,⟨#[]⟩,Shape.zero,0,false,c.time,c.hasTime,[],0,c.nodes,c.from_⟩:Cmd) else (⟨c.kind,0,⟨#[]⟩,⟨#[]⟩,⟨#[]⟩,Shape.zero,0,false,0,false,[],0,0,0⟩:Cmd)
def QZ5 (c:Cmd) (i:Bool):Cmd:=bif i then (⟨c.kind,c.job,⟨#[]⟩,⟨#[]⟩,⟨#[]⟩,Shape.zero,0,false,0,false,[],0,0,0⟩:Cmd) else bif (c.kind==5) then (⟨c.kind,c.job,⟨#[]⟩,⟨#[]⟩,⟨#[]⟩,Shape.zero,c.prio,c.hasPrio,c.time,c.hasTime,[],0,0,0⟩:Cmd) else bif (c.kind==6) then (⟨c.kind,c.job,⟨#[]⟩,⟨#[]⟩,⟨#[]⟩,Shape.zero,0,false,0,false,[],0,c.nodes,0⟩:Cmd) else bif (c.kind==7) then QT7 c (c.kind==7) else bif (c.kind==8) then QT7 c (c.kind==8) else QT7 c (c.kind==9)
def Q58 (c:Cmd):Cmd:=bif (c.kind==1) then { c with job:=0,time:=0,hasTime:=false,node:=0,nodes:=0,from_:=0 } else bif (c.kind==2) then QZ5 c (c.kind==2) else bif (c.kind==3) then QZ5 c (c.kind==3) else bif (c.kind==4) then QZ5 c (c.kind==4) else bif (c.kind==11) then QZ5 c (c.kind==11) else QZ5 c (c.kind==12)
theorem cmd_bare_c (c:Cmd) (hs0:c.sz):∀ objs,AGives Tryz.prog 167 [Cmd.a c] objs (Cmd.a (Q58 c)):=by
 generalize hR:Q58 c=R;refine ga (.cons (Cmd.low _ _) .nil) (Cmd.low _ _) (kj [1000011,1000019] 4 [8,9,32,41,58,66,73]) Tryz.func167 ?_;have hk0:=hs0;obtain ⟨z25,z26,z27,z28,z29⟩:c.name.size<=4294967296∧c.user.size<=4294967296∧c.account.size<=4294967296∧(c.shape.alts.length<=4294967296)∧c.after.length<=4294967296:=hs0;refine ai (fun h1=>?_) (fun h2=>?_)
 ·refine dchk (by kernel_rfl) ?_;(repeat ((first|refine ai rfl ?_|refine ai (fun _=>rfl) ?_)));(try (refine dchk (by kernel_rfl) ?_));(repeat ((first|refine ai rfl ?_|refine ai (fun _=>rfl) ?_)));obtain rfl:=foll hR (ct h1 rfl);exact Q30 (Cmd.low _ _) sr
 ·refine Q63 (fun (i:Bool)=>QZ5 c i=R) (fun i=>[(1,AVal.ptr 0 0 18 0 0),(2,AVal.ptr 1 0 18 0 0),(3,AVal.ptr 2 0 18 0 0),(8,I c.kind),(32,Bo i)]) (fun i=>[(0,AObj.row 208 18 [[I c.kind,I c.job,Sg c.name,Sg c.user,Sg c.account,I c.shape.kind,altL c.shape.alts,I c.shape.min,I c.shape.max,I c.shape.wall,I c.prio,Bo c.hasPrio,I c.time,Bo c.hasTime,depL c.after,I c.node,I c.nodes,I c.from_]]),(0,AObj.row 208 18 [[I 0,I 0,Sg ⟨#[]⟩,Sg ⟨#[]⟩,Sg ⟨#[]⟩,I 0,AVal.lit (.slice none 0 0),I 0,I 0,I 0,I 0,Bo false,I 0,Bo false,AVal.lit (.slice none 0 0),I 0,I 0,I 0]]),(0,AObj.row 208 18 [[I c.kind,I 0,Sg ⟨#[]⟩,Sg ⟨#[]⟩,Sg ⟨#[]⟩,I 0,AVal.lit (.slice none 0 0),I 0,I 0,I 0,I 0,Bo false,I 0,Bo false,AVal.lit (.slice none 0 0),I 0,I 0,I 0]])]) ?_ ?_
  ·clear hR;rintro i hR;(try dsimp only at hR);refine ai (fun h3=>?_) (fun h4=>?_)
   ·obtain rfl:=foll hR (ct h3 rfl);exact Q30 (Cmd.low _ _) (Seen.agg (e1 (e1 (e1 (e1 (e1 (e1 (ev (Qn1) (e1 (e1 (e1 (e1 (e1 (e1 (e1 (ev (Qn1) (e1 (e1 (e1 .nil)))))))))))))))))))
   ·refine ai (fun h5=>?_) (fun h6=>?_)
    ·refine dchk (by kernel_rfl) ?_;(repeat ((first|refine ai rfl ?_|refine ai (fun _=>rfl) ?_)));obtain rfl:=foll hR (cf h4 (ct h5 rfl));exact Q30 (Cmd.low _ _) (Seen.agg (e1 (e1 (e1 (e1 (e1 (e1 (ev (Qn1) (e1 (e1 (e1 (e1 (e1 (e1 (e1 (ev (Qn1) (e1 (e1 (e1 .nil)))))))))))))))))))
    ·refine ai (fun h7=>?_) (fun h8=>?_)
     ·refine dchk (by kernel_rfl) ?_;(repeat ((first|refine ai rfl ?_|refine ai (fun _=>rfl) ?_)));obtain rfl:=foll hR (cf h4 (cf h6 (ct h7 rfl)));exact Q30 (Cmd.low _ _) (Seen.agg (e1 (e1 (e1 (e1 (e1 (e1 (ev (Qn1) (e1 (e1 (e1 (e1 (e1 (e1 (e1 (ev (Qn1) (e1 (e1 (e1 .nil)))))))))))))))))))
     ·refine Q63 (fun (i1:Bool)=>QT7 c i1=R) (fun i1=>[(1,AVal.ptr 0 0 18 0 0),(2,AVal.ptr 1 0 18 0 0),(3,AVal.ptr 2 0 18 0 0),(8,I c.kind),(66,Bo i1)]) (fun i1=>[(0,AObj.row 208 18 [[I c.kind,I c.job,Sg c.name,Sg c.user,Sg c.account,I c.shape.kind,altL c.shape.alts,I c.shape.min,I c.shape.max,I c.shape.wall,I c.prio,Bo c.hasPrio,I c.time,Bo c.hasTime,depL c.after,I c.node,I c.nodes,I c.from_]]),(0,AObj.row 208 18 [[I 0,I 0,Sg ⟨#[]⟩,Sg ⟨#[]⟩,Sg ⟨#[]⟩,I 0,AVal.lit (.slice none 0 0),I 0,I 0,I 0,I 0,Bo false,I 0,Bo false,AVal.lit (.slice none 0 0),I 0,I 0,I 0]]),(0,AObj.row 208 18 [[I c.kind,I 0,Sg ⟨#[]⟩,Sg ⟨#[]⟩,Sg ⟨#[]⟩,I 0,AVal.lit (.slice none 0 0),I 0,I 0,I 0,I 0,Bo false,I 0,Bo false,AVal.lit (.slice none 0 0),I 0,I 0,I 0]])]) ?_ ?_
      ·clear hR;rintro i1 hR;(try dsimp only at hR);refine ai (fun h9=>?_) (fun h10=>?_)
       ·obtain rfl:=foll hR (ct h9 rfl);exact Q30 (Cmd.low _ _) (Seen.agg (e1 (e1 (e1 (e1 (e1 (e1 (ev (Qn1) (e1 (e1 (e1 (e1 (e1 (e1 (e1 (ev (Qn1) (e1 (e1 (e1 .nil)))))))))))))))))))
       ·refine ai (fun h11=>?_) (fun h12=>?_)
        ·refine dchk (by kernel_rfl) ?_;(repeat ((first|refine ai rfl ?_|refine ai (fun _=>rfl) ?_)));obtain rfl:=foll hR (cf h10 (ct h11 rfl));exact Q30 (Cmd.low _ _) (Seen.agg (e1 (e1 (e1 (e1 (e1 (e1 (ev (Qn1) (e1 (e1 (e1 (e1 (e1 (e1 (e1 (ev (Qn1) (e1 (e1 (e1 .nil)))))))))))))))))))
        ·obtain rfl:=foll hR (cf h10 (cf h12 rfl));exact Q30 (Cmd.low _ _) (Seen.agg (e1 (e1 (e1 (e1 (e1 (e1 (ev (Qn1) (e1 (e1 (e1 (e1 (e1 (e1 (e1 (ev (Qn1) (e1 (e1 (e1 .nil)))))))))))))))))))
      ·refine ai (fun h13=>?_) (fun h14=>?_)
       ·exact Qz0 (c.kind==7) (wk [0,1,2] (tO rfl (ts Cmd.lo) (tO rfl (ts (l1 (l1 (l1 (l1 (l1 (l1 (l1 (l1 (l1 (l1 (l1 (l1 (l1 (l1 (l1 (l1 (l1 (l1 LowL.nil))))))))))))))))))) (tO rfl (ts (l1 (l1 (l1 (l1 (l1 (l1 (l1 (l1 (l1 (l1 (l1 (l1 (l1 (l1 (l1 (l1 (l1 (l1 LowL.nil))))))))))))))))))) .nil))) (sv (Q50 0 rfl rfl) (sv (Q50 1 rfl rfl) (sv (Q50 2 rfl rfl) (s1 (s1 .nil)))))) (foll hR (cf h4 (cf h6 (cf h8 (ct h13 rfl)))))
       ·refine ai (fun h15=>?_) (fun h16=>?_)
        ·exact Qz0 (c.kind==8) (wk [0,1,2] (tO rfl (ts Cmd.lo) (tO rfl (ts (l1 (l1 (l1 (l1 (l1 (l1 (l1 (l1 (l1 (l1 (l1 (l1 (l1 (l1 (l1 (l1 (l1 (l1 LowL.nil))))))))))))))))))) (tO rfl (ts (l1 (l1 (l1 (l1 (l1 (l1 (l1 (l1 (l1 (l1 (l1 (l1 (l1 (l1 (l1 (l1 (l1 (l1 LowL.nil))))))))))))))))))) .nil))) (sv (Q50 0 rfl rfl) (sv (Q50 1 rfl rfl) (sv (Q50 2 rfl rfl) (s1 (s1 .nil)))))) (foll hR (cf h4 (cf h6 (cf h8 (cf h14 (ct h15 rfl))))))
        ·exact Qz0 (c.kind==9) (wk [0,1,2] (tO rfl (ts Cmd.lo) (tO rfl (ts (l1 (l1 (l1 (l1 (l1 (l1 (l1 (l1 (l1 (l1 (l1 (l1 (l1 (l1 (l1 (l1 (l1 (l1 LowL.nil))))))))))))))))))) (tO rfl (ts (l1 (l1 (l1 (l1 (l1 (l1 (l1 (l1 (l1 (l1 (l1 (l1 (l1 (l1 (l1 (l1 (l1 (l1 LowL.nil))))))))))))))))))) .nil))) (sv (Q50 0 rfl rfl) (sv (Q50 1 rfl rfl) (sv (Q50 2 rfl rfl) (s1 (s1 .nil)))))) (foll hR (cf h4 (cf h6 (cf h8 (cf h14 (cf h16 rfl))))))
  ·refine ai (fun h17=>?_) (fun h18=>?_)
   ·exact Qz0 (c.kind==2) (wk [0,1,2] (tO rfl (ts Cmd.lo) (tO rfl (ts (l1 (l1 (l1 (l1 (l1 (l1 (l1 (l1 (l1 (l1 (l1 (l1 (l1 (l1 (l1 (l1 (l1 (l1 LowL.nil))))))))))))))))))) (tO rfl (ts (l1 (l1 (l1 (l1 (l1 (l1 (l1 (l1 (l1 (l1 (l1 (l1 (l1 (l1 (l1 (l1 (l1 (l1 LowL.nil))))))))))))))))))) .nil))) (sv (Q50 0 rfl rfl) (sv (Q50 1 rfl rfl) (sv (Q50 2 rfl rfl) (s1 (s1 .nil)))))) (foll hR (cf h2 (ct h17 rfl)))
   ·refine ai (fun h19=>?_) (fun h20=>?_)
    ·exact Qz0 (c.kind==3) (wk [0,1,2] (tO rfl (ts Cmd.lo) (tO rfl (ts (l1 (l1 (l1 (l1 (l1 (l1 (l1 (l1 (l1 (l1 (l1 (l1 (l1 (l1 (l1 (l1 (l1 (l1 LowL.nil))))))))))))))))))) (tO rfl (ts (l1 (l1 (l1 (l1 (l1 (l1 (l1 (l1 (l1 (l1 (l1 (l1 (l1 (l1 (l1 (l1 (l1 (l1 LowL.nil))))))))))))))))))) .nil))) (sv (Q50 0 rfl rfl) (sv (Q50 1 rfl rfl) (sv (Q50 2 rfl rfl) (s1 (s1 .nil)))))) (foll hR (cf h2 (cf h18 (ct h19 rfl))))
    ·refine ai (fun h21=>?_) (fun h22=>?_)
     ·exact Qz0 (c.kind==4) (wk [0,1,2] (tO rfl (ts Cmd.lo) (tO rfl (ts (l1 (l1 (l1 (l1 (l1 (l1 (l1 (l1 (l1 (l1 (l1 (l1 (l1 (l1 (l1 (l1 (l1 (l1 LowL.nil))))))))))))))))))) (tO rfl (ts (l1 (l1 (l1 (l1 (l1 (l1 (l1 (l1 (l1 (l1 (l1 (l1 (l1 (l1 (l1 (l1 (l1 (l1 LowL.nil))))))))))))))))))) .nil))) (sv (Q50 0 rfl rfl) (sv (Q50 1 rfl rfl) (sv (Q50 2 rfl rfl) (s1 (s1 .nil)))))) (foll hR (cf h2 (cf h18 (cf h20 (ct h21 rfl)))))
     ·refine ai (fun h23=>?_) (fun h24=>?_)
      ·exact Qz0 (c.kind==11) (wk [0,1,2] (tO rfl (ts Cmd.lo) (tO rfl (ts (l1 (l1 (l1 (l1 (l1 (l1 (l1 (l1 (l1 (l1 (l1 (l1 (l1 (l1 (l1 (l1 (l1 (l1 LowL.nil))))))))))))))))))) (tO rfl (ts (l1 (l1 (l1 (l1 (l1 (l1 (l1 (l1 (l1 (l1 (l1 (l1 (l1 (l1 (l1 (l1 (l1 (l1 LowL.nil))))))))))))))))))) .nil))) (sv (Q50 0 rfl rfl) (sv (Q50 1 rfl rfl) (sv (Q50 2 rfl rfl) (s1 (s1 .nil)))))) (foll hR (cf h2 (cf h18 (cf h20 (cf h22 (ct h23 rfl))))))
      ·exact Qz0 (c.kind==12) (wk [0,1,2] (tO rfl (ts Cmd.lo) (tO rfl (ts (l1 (l1 (l1 (l1 (l1 (l1 (l1 (l1 (l1 (l1 (l1 (l1 (l1 (l1 (l1 (l1 (l1 (l1 LowL.nil))))))))))))))))))) (tO rfl (ts (l1 (l1 (l1 (l1 (l1 (l1 (l1 (l1 (l1 (l1 (l1 (l1 (l1 (l1 (l1 (l1 (l1 (l1 LowL.nil))))))))))))))))))) .nil))) (sv (Q50 0 rfl rfl) (sv (Q50 1 rfl rfl) (sv (Q50 2 rfl rfl) (s1 (s1 .nil)))))) (foll hR (cf h2 (cf h18 (cf h20 (cf h22 (cf h24 rfl))))))
theorem Q7c (c:Cmd) (b:Bool):(QT7 c b).sz:=by
 cases b <;> simp only [QT7,cond_true,cond_false]
 ·cases (c.kind==10) <;> simp [Cmd.sz,Cmd.szN,Shape.szN,Shape.zero,ByteArray.size]
 ·simp [Cmd.sz,Cmd.szN,Shape.szN,Shape.zero,ByteArray.size]
theorem Q68 (c:Cmd) (b:Bool):(QZ5 c b).sz:=by
 cases b <;> simp only [QZ5,cond_true,cond_false]
 ·cases (c.kind==5) <;> simp only [cond_true,cond_false]
  ·cases (c.kind==6) <;> simp only [cond_true,cond_false]
   ·cases (c.kind==7) <;> simp only [cond_true,cond_false]
    ·cases (c.kind==8) <;> simp only [cond_true,cond_false] <;> exact Q7c _ _
    ·exact Q7c _ _
   ·simp [Cmd.sz,Cmd.szN,Shape.szN,Shape.zero,ByteArray.size]
  ·simp [Cmd.sz,Cmd.szN,Shape.szN,Shape.zero,ByteArray.size]
 ·simp [Cmd.sz,Cmd.szN,Shape.szN,Shape.zero,ByteArray.size]
theorem Q19 (c:Cmd) (h:c.sz):(Q58 c).sz:=by
 unfold Q58
 cases (c.kind==1) <;> simp only [cond_true,cond_false]
 ·cases (c.kind==2) <;> simp only [cond_true,cond_false]
  ·cases (c.kind==3) <;> simp only [cond_true,cond_false]
   ·cases (c.kind==4) <;> simp only [cond_true,cond_false]
    ·cases (c.kind==11) <;> simp only [cond_true,cond_false] <;> exact Q68 _ _
    ·exact Q68 _ _
   ·exact Q68 _ _
  ·exact Q68 _ _
 ·exact h
def Qr0 (v:Job):Cmd:=(⟨1,0,v.name,v.user,v.account,v.shape,v.prio,true,0,false,v.after,0,0,0⟩:Cmd)
theorem Qq8 (v:Job):∀ objs,AGives Tryz.prog 155 [Job.a v] objs (Cmd.a (Qr0 v)):=by
 generalize hR:Qr0 v=R;refine ga (.cons (Job.low _ _) .nil) (Cmd.low _ _) (kp 3 []) Tryz.func155 ?_;obtain rfl:=foll hR rfl;exact Q30 (Cmd.low _ _) sr
theorem QWd (l:List Alt) (hs0:l.length<=4294967296):AMoves Tryz.prog 206 [altL l] [] 0 (AVal.own 0 0 2 0 l.length) [(0,AObj.row 137 2 (l.map Alt.cells))]:=by
 refine AMoves.of_cwp (fun _=>true) Tryz.func206 rfl rfl rfl ?_
 obtain z1:l.length<=4294967296:=hs0
 intro b hb
 refine ai (fun h1=>?_) (fun h2=>?_)
 ·have hl:l=[]:=by
   rcases l with _|⟨x,r⟩
   ·rfl
   ·exact absurd ((hb (by simp)).symm.trans h1) (by decide)
  subst hl
  refine Q41 (fun r:List Alt=>AVal.own 0 0 2 0 r.length) (fun r:List Alt=>[(0,AObj.row 137 2 (r.map Alt.cells))]) (leaf:=[]) rfl ?_
  exact Told.pad 137 2 (Q48 [0] rfl (by decide) (tO rfl (tl eqA) .nil) (Q91 0 rfl))
 ·refine ⟨Q52 16 rfl apA,?_⟩
  refine Q41 (fun r:List Alt=>AVal.own 0 0 2 0 r.length) (fun r:List Alt=>[(0,AObj.row 137 2 (r.map Alt.cells))]) (leaf:=l) rfl ?_
  exact Q48 [0] rfl (by decide) (tO rfl (tl eqA) .nil) (to 0 lnA)
def oc1 (x_:Int):Int:=(wu64 ((wu64 (BitVec.ofInt 64 (Int.fdiv x_ (2 ^ (min (Int.toNat 1) 64))) &&& BitVec.ofInt 64 6148914691236517205).toNat)+(wu64 (BitVec.ofInt 64 x_ &&& BitVec.ofInt 64 6148914691236517205).toNat)))
def oc2 (x_:Int):Int:=(wu64 ((wu64 (BitVec.ofInt 64 (Int.fdiv x_ (2 ^ (min (Int.toNat 2) 64))) &&& BitVec.ofInt 64 3689348814741910323).toNat)+(wu64 (BitVec.ofInt 64 x_ &&& BitVec.ofInt 64 3689348814741910323).toNat)))
def oc3 (x_:Int):Int:=(wu64 (BitVec.ofInt 64 (wu64 ((Int.fdiv x_ (2 ^ (min (Int.toNat 4) 64)))+x_)) &&& BitVec.ofInt 64 1085102592571150095).toNat)
def QT6 (x_:Int):Int:=(w64 (BitVec.ofInt 64 (w64 (wu64 ((wu64 ((wu64 ((oc3 (oc2 (oc1 x_)))+(Int.fdiv (oc3 (oc2 (oc1 x_))) (2 ^ (min (Int.toNat 8) 64)))))+(Int.fdiv (wu64 ((oc3 (oc2 (oc1 x_)))+(Int.fdiv (oc3 (oc2 (oc1 x_))) (2 ^ (min (Int.toNat 8) 64))))) (2 ^ (min (Int.toNat 16) 64)))))+(Int.fdiv (wu64 ((wu64 ((oc3 (oc2 (oc1 x_)))+(Int.fdiv (oc3 (oc2 (oc1 x_))) (2 ^ (min (Int.toNat 8) 64)))))+(Int.fdiv (wu64 ((oc3 (oc2 (oc1 x_)))+(Int.fdiv (oc3 (oc2 (oc1 x_))) (2 ^ (min (Int.toNat 8) 64))))) (2 ^ (min (Int.toNat 16) 64))))) (2 ^ (min (Int.toNat 32) 64)))))) &&& BitVec.ofInt 64 127).toNat)
theorem Q2d (x_:Int):∀ objs,AGives Tryz.prog 146 [U x_] objs (I (QT6 x_)):=by
 generalize hR:QT6 x_=R;refine ga (l1 .nil) lx (kp 3 []) Tryz.func146 ?_;refine ai gkA ?_;refine ai gkA ?_;refine ai gkA ?_;refine ai gkA ?_;refine ai gkA ?_;refine ai gkA ?_;obtain rfl:=foll hR rfl;exact Q30 lx sr
def Qw2 (n:Int):Int:=(wu64 (1*2 ^ (min (Int.toNat (wu64 n)) 64)))
theorem QF7 (n:Int):∀ objs,AGives Tryz.prog 123 [I n] objs (U (Qw2 n)):=by
 generalize hR:Qw2 n=R;refine ga (l1 .nil) lx (kp 3 []) Tryz.func123 ?_;refine ai gkA ?_;obtain rfl:=foll hR rfl;exact Q30 lx sr
def Qz7 (state:Int):Bool:=((decide (state >= 3))&&(decide (state<=7)))
theorem job_ended_c (state:Int):∀ objs,AGives Tryz.prog 160 [I state] objs (Bo (Qz7 state)):=by
 generalize hR:Qz7 state=R;refine ga (l1 .nil) lx (kp 3 []) Tryz.func160 ?_;obtain rfl:=foll hR rfl;exact Q30 lx sr
def Qm7 (b:Book):Bool:=(((((((decide (b.id >= 1))&&(decide (b.id<=99999)))&&(decide (b.from_ >= 0)))&&(decide (b.to > b.from_)))&&(decide (b.to<=1000000)))&&(decide (b.nodes >= 1)))&&(decide (b.nodes<=48)))
theorem Qvf (b:Book):∀ objs,AGives Tryz.prog 140 [Book.a b] objs (Bo (Qm7 b)):=by
 generalize hR:Qm7 b=R;refine ga (.cons (Book.low _ _) .nil) lx (kp 3 []) Tryz.func140 ?_;obtain rfl:=foll hR rfl;exact Q30 lx sr
def QI3 (s:ByteArray):Bool:=((decide ((ByteArray.size s:Int) >= 1))&&(decide ((ByteArray.size s:Int)<=64)))
theorem QI8 (s:ByteArray):∀ objs,AGives Tryz.prog 116 [Sg s] objs (Bo (QI3 s)):=by
 generalize hR:QI3 s=R;refine ga (l1 .nil) lx (kp 3 []) Tryz.func116 ?_;obtain rfl:=foll hR rfl;exact Q30 lx sr
def Qma :List Int->Nat->Int
 | [],_=>0
 | x_ :: r,i=>bif (x_ != 0) then x_ else Qma r (i+1)
def QBb (vals:List Int):Int:=Qma vals 0
theorem Qye (vals:List Int) (hs0:vals.length<=4294967296):∀ objs,AGives Tryz.prog 142 [ints vals] objs (I (QBb vals)):=by
 generalize hR:QBb vals=R;refine ga (.cons lw .nil) lx (kp 6 [6,7,8,9,14]) Tryz.func142 ?_;have hk0:=hs0;obtain z5:vals.length<=4294967296:=hs0;refine Qw0 (fun (i:Nat)=>Qma (List.drop i vals) i=R∧i<=vals.length) (fun i=>vals.length - i) (fun i=>[(2,I 0),(3,I 0),(6,ints vals),(7,I (vals.length:Int)),(8,I (i:Int))]) (fun i=>[]) 0 (wk [] .nil (s1 (s1 (sl lw (s1 (s1 .nil)))))) ⟨foll hR rfl,by exact omA⟩ ?_;clear hR;rintro i ⟨hR,hj⟩;(try dsimp only at hR hj);refine ai (fun h1=>?_) (fun h2=>?_)
 ·have hlt:=ltA h1;rw [Qo0 0 hlt] at hR;refine ai gkA ?_;refine ai (fun h3=>?_) (fun h4=>?_)
  ·obtain rfl:=foll hR (ct h3 rfl);exact Q30 lx sr
  ·exact QA0 (i+1) (wk [] .nil (s1 (s1 (sl lw (s1 (sv (Qt0 (I_eq (wr omA)) lx) .nil)))))) omA ⟨foll hR (cf h4 rfl),by exact omA⟩
 ·rw [Qp0 (l:=vals) (j:=i) (geA h2)] at hR;obtain rfl:=foll hR rfl;exact Q30 lx sr
end Go.Proofs.YtgjcljceccfgjaaGreatDoor
