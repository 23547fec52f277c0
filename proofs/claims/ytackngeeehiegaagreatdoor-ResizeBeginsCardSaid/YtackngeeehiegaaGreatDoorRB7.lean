/-
  What the last text of this claim leans on: an evaluator over the code, contracts of functions, plain laws. Conditions stand in each statement.
-/
import Derived.Test.YtackngeeehiegaaGreatDoorRB6
import Derived.RangeFuncFrom
import Derived.RangeFuncCalls
import Derived.RangeFuncLeaves
import Derived.TacticsIn
import Derived.Test.YtackngeeehiegaaGreatDoorProg
import Derived.Laws.RangeString
import Derived.Laws.RangeAny
import Derived.Lib.Strings
import Derived.Lib.Slices
import Derived.Lib.Walk
import Derived.Lib.Bytealg
import Derived.Shelf.Strings.BuilderX
import Derived.Shelf.RegionOpenPlain
import Derived.Lib.Builder
import Derived.Lib.AppendStr
import Derived.Lib.UnsafeStr
import Derived.Lib.MakeNoZero
import Derived.WalkKit
import Derived.Laws.Externs
import Derived.Laws.IdiomCopy
import Derived.Laws.BitsLemmas
import Derived.KernelRfl
import Derived.RangeFuncBound
import Derived.Shelf.Abstract
import Derived.Shelf.RegionOpen
import Derived.OwnWalkIn
import Derived.TacticsInMore
import Derived.LoopNIn
import Derived.LoopIn
import Derived.Lib.AppendZerosOnto
import Derived.Deep.RegionLaw
namespace Go.Fw
set_option linter.unusedSimpArgs false
set_option linter.unusedVariables false
open Go.RowKit
theorem Q5g {P:Program} {l n:Nat} {ops:Array Oper} {Q:Exit->Act->World->Prop} (hQ:¬ LetsOut Q) (hop:∀ o ∈ ops.toList,∀ c,o.op ≠ .defer c):∀ (is:List Nat) (a:Act) (w:World),
  wpOps P ops Q is a w->wpOpsIn (Fence.wide.inRound l) n P ops Q is a w
 | [],a,w,h=>h
 | i :: rest,a,w,h=>by
  simp only [wpOps] at h;simp only [wpOpsIn];cases ho:ops[i]? with
  | none =>
   simp only [ho] at h ⊢;exact Q5g hQ hop rest a w h
  | some o =>
   simp only [ho] at h ⊢
   by_cases hw:Region.wanted o (yielded ops a.tmps)=true
   ·simp only [hw,if_true] at h ⊢;rcases h with h|⟨_,h⟩
    ·refine ⟨fun _ _=>trivial,?_⟩;have hm:o ∈ ops.toList:=yKa (by simpa using ho);rw [Fence.inRound_round,Oper.semAt_some l _ o (hop o hm)];unfold Oper.wp at h;have ih:=fun a w=>Q5g (P:=P) (l:=l) (n:=n) hQ hop rest a w
     revert h;generalize (execOp a.eval o).run P w=r;intro h;cases r with
     | ok nx w' =>
      cases nx with
      | value v=>exact ih _ _ h
      | skip=>exact ih _ _ h
      | defer d=>exact ih _ _ h
      | enter f args =>
       refine ⟨fun hd=>by simp [Fence.inRound,Fence.wide] at hd,?_⟩;refine CallsIn.inRound l (callsIn_wide.2 ?_);refine Calls.mono h ?_;intro e w'' hr;cases e with
       | returned v=>exact ih _ _ hr
       | panicked chain=>exact hr
       | outgrown=>exact hr
      | row row args =>
       refine ⟨fun hd=>by simp [Fence.inRound,Fence.wide] at hd,fun c cs _=>?_⟩;obtain ⟨v,w'',hr,hs⟩:=h c cs;exact ⟨v,w'',ih _ _ hr,stepsIn_wide.2 hs⟩
      | _=>exact h.elim
     | halt r w' =>
      cases r with
      | panic v=>exact h
      | _=>exact h.elim
    ·exact absurd h hQ
   ·simp only [hw,y1a,if_false] at h ⊢;exact ⟨fun _ _=>trivial,Q5g hQ hop rest _ w h⟩
theorem MemSat.cells {K:Ctx} {s:Objs} {w:World} (h:MemSat K s w) {o:Nat} {q:Nat × AObj} (hq:s[o]? = some q) (hl:q.2.live=true) (hC:K.C o q.1 ≠ 0) (hr:∃ t k es,q.2 = .row t k es):∃ c t fr,w.heap[K.ρ o q.1]? = some (.cells c t fr):=by
 obtain ⟨ver,x⟩:=q;obtain ⟨t,k,es,rfl⟩:=hr;obtain ⟨_,_,h3⟩:=h.obj o _ hq;obtain ⟨c,⟨fr,_,hc⟩,_⟩:=h3 hC;exact ⟨c,t,fr,hc⟩
theorem cells_of_cell {w:World} {b i:Nat} {u:Value} (h:w.cell? ⟨b,i,none⟩=some u):∃ c t fr,w.heap[b]? = some (.cells c t fr):=by
 unfold World.cell? at h;split at h
 ·rename_i c t fr e;exact ⟨c,t,fr,e⟩
 ·simp at h
theorem MemSat.turned {K:Ctx} {s:Objs} {W W':World} {row:Option Nat} {B0:Nat} (h:MemSat K s W) (hrows:∀ q ∈ s,q.2.live=true -> ∃ t k es,q.2 = .row t k es) (hB:∀ b x,K.B b=some x->b<B0)
  (hg:W.grownBy W' row) (hr:∀ r,row=some r->B0<=r ∧ ∃ o:Obj,W.heap[r]? = some o∧o.isCells=false):MemSat K s W':=by
 have same:∀ (b:Nat) (c:Array Value) (t:TypeId) (fr:Nat × Nat),W.heap[b]? = some (.cells c t fr)->W'.heap[b]? = W.heap[b]?:=by
  intro b c t fr hb;refine hg.block b (Array.getElem?_eq_some_iff.1 hb).1 fun e=>?_
  obtain ⟨_,o,ho,hn⟩:=hr b e.symm;rw [hb] at ho;cases ho;simp [Obj.isCells] at hn
 have own:∀ (o:Nat) (p:Nat × AObj),s[o]? = some p->p.2.live=true->K.C o p.1 ≠ 0->W'.heap[K.ρ o p.1]? = W.heap[K.ρ o p.1]?:=by
  intro o p hp hl hC;obtain ⟨c,t,fr,hc⟩:=h.cells hp hl hC (hrows p (yKa hp) hl);exact same _ _ _ _ hc
 refine ⟨h.len,h.ver,fun o p hp=>ObjSat.mono (Ctx.le.refl K) (h.olt hp) (by rw [h.ver o p hp];exact yla _) (h.obj o p hp) (fun hl hC=>own o p hp hl hC),fun o p hp hl hC=>?_,h.dis,fun b i u hu=>?_,?_⟩
 ·obtain ⟨h1,h2,h3⟩:=h.lo o p hp hl hC;exact ⟨h1,y0a h2 hg.size,h3⟩
 ·obtain ⟨h1,h2⟩:=h.mem b i u hu;obtain ⟨c,t,fr,hc⟩:=cells_of_cell h1;exact ⟨(World.cell?_of_block (a:=⟨b,i,none⟩) (same _ _ _ _ hc)).trans h1,h2⟩
 ·refine h.below.step rfl rfl hg.os hg.tape hg.output hg.size fun b x hx=>hg.block b (h.below.lt hx) fun e=>?_
  have:=(hr b e.symm).1;have:=hB b x hx;omega
def QB7 (B:Nat->Option Obj) (W:World) (b:Nat):Option Obj :=
 match B b with
 | some x=>some x
 | none=>match W.heap[b]? with|some (.cells ..)=>none|some x=>some x|none=>none
theorem QId {B:Nat->Option Obj} {W:World} {b:Nat} {x:Obj} (h:B b=some x):QB7 B W b=some x:=by simp only [QB7,h]
theorem roundB_cells {B:Nat->Option Obj} {W:World} {b:Nat} {c:Array Value} {t:TypeId} {fr:Nat × Nat} (h:B b=none) (hb:W.heap[b]? = some (.cells c t fr)):QB7 B W b=none:=by simp only [QB7,h,hb]
theorem roundB_heap {B:Nat->Option Obj} {W:World} {b:Nat} {x:Obj} (h:QB7 B W b=some x):B b=some x∨(W.heap[b]? = some x∧x.isCells=false):=by
 unfold QB7 at h;split at h
 ·rename_i y hy;simp only [yba] at h;subst h;exact .inl hy
 ·right;split at h
  ·cases h
  ·rename_i y hne hy;simp only [yba] at h;subst h;refine ⟨hy,?_⟩;cases y with
   | cells c t fr=>exact (hne _ _ _ rfl).elim
   | _=>rfl
  ·cases h
theorem roundB_same {B:Nat->Option Obj} {W W':World} (hp:∀ b x,QB7 B W b=some x->W'.heap[b]? = some x) (hB:∀ b x,B b=some x->W.heap[b]? = some x) (hsz:W.heap.size<=W'.heap.size):KeepsOthers W W':=by
 refine ⟨hsz,fun k o hk hn=>hp k o ?_⟩;unfold QB7;split
 ·rename_i x hx;rw [hB k x hx] at hk;simpa using hk
 ·rw [hk];cases o with
  | cells c t fr=>simp [Obj.isCells] at hn
  | _=>rfl
section
variable {P:Program} {nt n0:Nat}
def RoundI (nt:Nat) (K0 K:Ctx) (slots:List (Nat × AVal)) (objs:Objs) (tmps:Array Value) (W:World):Prop :=
 ∃ K1:Ctx,K0.le K1∧K1.B=K.B∧Sat nt K1 ⟨slots,objs⟩ { tmps:=tmps,defers:=[] } W
theorem rangeW_region {α:Type} {g:Operand} {p q aid bid rid:Nat} {oa:Oper} {ops:Array Oper} {s:St} (e:α->Value) (S:List α->Prop) (N:Nat) (so:List α->Objs) (h0:so []=s.objs) (hp:p<nt) (hq:q<nt)
  (hoa:oa.op = .assign (.tmp p)) (hod:oa.dst=some q) (hog:oa.guard=none) (hfree:Qe2 s.slots p = .any)
  (hrows:∀ xs q,q ∈ so xs->q.2.live=true -> ∃ t k es,q.2 = .row t k es)
  (hit:∀ K a w,Sat nt K s a w -> ∃ (gf:Nat) (lb:Array Value) (pc:Addr) (u:Value),a.eval g = .func (.func gf) #[] lb∧(∀ args w,(callFunc gf args).run P w = .ok (.enter gf args) w)∧pc.block<w.heap.size ∧
   (∀ K1 xs W,Sat nt K1 ⟨s.slots,so xs⟩ { tmps:=a.tmps,defers:=[] } W->W.cell? pc=some u) ∧
   SeqStopsK Fence.wide 2 P gf lb (fun x=>#[e x]) (fun W W'=>W.cell? pc=some u->W'.cell? pc=some u) S (fun _=>True) N w)
  (hdefer:∀ o ∈ ops.toList,∀ c,o.op ≠ .defer c)
  (hbody:∀ pre x,pre.length<N->Q89 P nt ops ((q,.lit (e x)) :: s.slots) false ops.toList (QFh ⟨(q,.lit (e x)) :: s.slots,so pre⟩) (fun rs=>Weaker nt n0 ⟨s.slots,rs.objs⟩ ⟨s.slots,so (pre++[x])⟩)) :
  RangeW P nt n0 (.rangeFunc g #[p] (.region aid #[oa] false) (.block bid (.region rid ops false))) (fun e t=>e = .normal ∧ ∃ xs,S xs∧t=⟨s.slots,so xs⟩) s:=by
 intro K0 K a w hn hle hs;obtain ⟨gf,lb,pc,u,hg,eg,hpc,hkeep,hseq⟩:=hit K a w hs;have hBlt:∀ b x,K.B b=some x->b<w.heap.size:=fun b x hx=>hs.mem.below.lt hx
 refine (wpIn_wide (n:=3)).1 (wpIn_rangeFunc_ownF (F:=Fence.wide) rfl (by decide) hg trivial eg hseq (fun h k q=>k (h q)) ?_ (Below.refl _ w) (fun _=>rfl)
  (fun xs W=>RoundI nt K0 K s.slots (so xs) a.tmps W) (fun _ _ _=>False) ?_ (fun _ _ _ _ _ h=>h.elim) ?_ (fun x=>{ tmps:=(a.tmps.setIfInBounds p (e x)).setIfInBounds q (e x),defers:=[] }) ?_ ?_ ?_ (fun _ _ _ _ _ _ h=>h.elim))
 ·intro W l o o' hl ho _ _ hc;have hne:pc.block ≠ l:=by omega
  exact (World.cell?_of_block (World.putObj_heap_other hne)).trans hc
 ·rintro xs W W' row ⟨K1,hle1,hB1,hs1⟩ hg' hr;exact ⟨K1,hle1,hB1,hs1.mem.turned (hrows xs) (fun b x hx=>hBlt b x (by rw [← hB1];exact hx)) hg' hr,hs1.slot,hs1.size,Marks.nil⟩
 ·exact ⟨K,hle,rfl,by rw [h0];exact hs.mem,hs.slot,hs.size,Marks.nil⟩
 ·intro l x W Kq hK;refine wpIn_region ?_;have hz:(#[p].zip #[e x]) = #[(p,e x)]:=by simp
  have hsz:a.tmps.size=nt:=hs.size;have hv:(a.tmps.setIfInBounds p (e x)).getD p undef=e x:=by
   rw [yWa,Array.getElem?_setIfInBounds_self_of_lt oA]
   rfl
  simp only [hz];show wpOpsIn (Fence.wide.inRound l) _ P #[oa] _ [0] _ _;simp only [wpOpsIn,yNb,ydb,Region.wanted,hog,if_true];refine ⟨fun f hf=>by simp [Oper.about,hoa] at hf,?_⟩;rw [Oper.semAt_eq _ _ _ (by simp [hoa])];unfold execOp;rw [hoa];show Kq (Act.put _ oa.dst _) W;rw [hod];show Kq { tmps:=(a.tmps.setIfInBounds p (e x)).setIfInBounds q ((a.tmps.setIfInBounds p (e x)).getD p undef),defers:=[] } W;rw [hv];exact hK
 ·rintro l pre x W ⟨K1,hle1,hB1,hs1⟩ hlen;have hBW:∀ b y,K.B b=some y->W.heap[b]? = some y:=fun b y hy=>hs1.mem.below.block b y (by rw [hB1];exact hy)
  have hm2:MemSat { K1 with B:=QB7 K.B W,w0:=W } (so pre) W:=by
   refine hs1.mem.with _ W (fun o q hq hl hC=>?_) ⟨rfl,rfl,rfl,yla _,fun b y hy=>?_⟩
   ·obtain ⟨c,t,fr,hc⟩:=hs1.mem.cells hq hl hC (hrows pre q (yKa hq) hl);refine roundB_cells ?_ hc;rw [← hB1];exact (hs1.mem.lo o q hq hl hC).1
   ·rcases roundB_heap hy with h|h
    ·exact hBW b y h
    ·exact h.1
  obtain ⟨Kb,hKb⟩:∃ Kb:Ctx,Kb={ K0 with B:=QB7 K.B W,w0:=W,M:=fun b i=>match QB7 K.B W b with|some _=>K1.M b i|none=>K0.M b i }:=⟨_,rfl⟩;have hKbM:∀ b i u,K0.M b i=some u->Kb.M b i=some u:=by
   intro b i u hu;rw [hKb];show (match QB7 K.B W b with|some _=>K1.M b i|none=>K0.M b i)=some u;split
   ·exact hle1.M b i u hu
   ·exact hu
  have hKb0:∀ b i y,QB7 K.B W b=some y->Kb.M b i=K1.M b i:=by
   intro b i y hy;rw [hKb];show (match QB7 K.B W b with|some _=>K1.M b i|none=>K0.M b i)=_;rw [hy]
  have hleb:Kb.le { K1 with B:=QB7 K.B W,w0:=W }:=by
   refine ⟨fun b i u hu=>?_,by rw [hKb];exact hle1.ρ,by rw [hKb];exact hle1.C,by rw [hKb];exact hle1.n,by rw [hKb];exact hle1.vs,by rw [hKb],by rw [hKb];exact fun _ _ h=>h,fun b i y hy=>?_⟩
   ·rw [hKb] at hu;show K1.M b i=some u;change (match QB7 K.B W b with|some _=>K1.M b i|none=>K0.M b i)=some u at hu;split at hu
    ·exact hu
    ·exact hle1.M b i u hu
   ·rw [hKb] at hy;exact (hKb0 b i y hy).symm
  have hs2:Sat nt { K1 with B:=QB7 K.B W,w0:=W } ⟨(q,.lit (e x)) :: s.slots,so pre⟩ { tmps:=(a.tmps.setIfInBounds p (e x)).setIfInBounds q (e x),defers:=[] } W:=by
   refine ⟨hm2,fun t=>?_,by have:=hs1.size;simpa using this,Marks.nil⟩;show Rep _ (Qe2 ((q,.lit (e x)) :: s.slots) t) _;have hsz:a.tmps.size=nt:=hs1.size;rw [Q06]
   by_cases ht:q=t
   ·subst ht;rw [if_pos rfl];have:((a.tmps.setIfInBounds p (e x)).setIfInBounds q (e x)).getD q undef=e x:=by
     rw [yWa,Array.getElem?_setIfInBounds_self_of_lt (by simp;omega)]
     rfl
    simp only [this];exact .lit _
   ·rw [if_neg ht]
    by_cases hpt:p=t
    ·subst hpt;rw [hfree];exact .any _
    ·have:((a.tmps.setIfInBounds p (e x)).setIfInBounds q (e x)).getD t undef=a.tmps.getD t undef:=by
      rw [yWa,yWa,y7a ht,y7a hpt]
     simp only [this];exact (hs1.slot t).monoR (Q78 K1 _ W)
  refine wpIn_block (wpIn_region ?_);refine Q5g ?_ hdefer _ _ _ ?_
  ·rintro ⟨a',w',h⟩;exact h
  rw [yRb];refine QVa (K0:={ K1 with B:=QB7 K.B W,w0:=W }) (Kt:=fun rs=>Weaker nt n0 ⟨s.slots,rs.objs⟩ ⟨s.slots,so (pre++[x])⟩) ?_ ops.size 0 oA _ _ _ _ (.refl _) hs2.start (by simpa using hbody pre x hlen);intro K2 rs a' w' hle2 hr hk;have hs3:Sat nt K2 ⟨s.slots,rs.objs⟩ { tmps:=a.tmps,defers:=[] } w':=⟨hr.mem,fun t=>((hs1.slot t).monoR (Q78 K1 _ W)).mono hle2,hs1.size,Marks.nil⟩;obtain ⟨K3,hle3,hs4⟩:=hk Kb K2 _ w' (by rw [hKb];exact hn) (hleb.trans hle2) hs3;have hblock:∀ b y,QB7 K.B W b=some y->w'.heap[b]? = some y:=fun b y hy=>hs4.mem.below.block b y (hle3.B b y (by rw [hKb];exact hy))
  have hsz:W.heap.size<=w'.heap.size:=by have:=hs4.mem.below.size;rw [hle3.w0,hKb] at this;exact this
  have hmem:MemSat { K3 with B:=K.B,w0:=K0.w0 } (so (pre++[x])) w':=by
   refine hs4.mem.with K.B K0.w0 (fun o q hq hl hC=>?_) ?_
   ·cases hb:K.B (K3.ρ o q.1) with
    | none=>rfl
    | some y =>
     have:=hle3.B _ y (by rw [hKb];exact QId hb);rw [(hs4.mem.lo o q hq hl hC).1] at this;cases this
   ·have q:=hs4.mem.below;have q1:=hs1.mem.below;have e0:=hle1.w0;have e3:K3.w0=W:=by rw [hle3.w0,hKb]
    refine ⟨?_,?_,?_,?_,fun b y hy=>hblock b y (QId hy)⟩
    ·rw [q.os,e3,q1.os,e0]
    ·rw [q.tape,e3,q1.tape,e0]
    ·rw [q.output,e3,q1.output,e0]
    ·have:=q1.size;rw [e0] at this;exact yHa this hsz
  have hI:RoundI nt K0 K s.slots (so (pre++[x])) a.tmps w':=by
   refine ⟨{ K3 with B:=K.B,w0:=K0.w0 },⟨fun b i u hu=>hle3.M b i u (hKbM b i u hu),by have:=hle3.ρ;rw [hKb] at this;exact this,by have:=hle3.C;rw [hKb] at this;exact this,by have:=hle3.n;rw [hKb] at this;exact this,by have:=hle3.vs;rw [hKb] at this;exact this,rfl,hle.B,fun b i y hy=>((hle3.M0 b i y (by rw [hKb];exact QId (hle.B b y hy))).trans (hKb0 b i y (QId (hle.B b y hy)))).trans (hle1.M0 b i y hy)⟩,rfl,hmem,fun t=>(hs4.slot t).monoR (Q78 K3 _ _),hs1.size,Marks.nil⟩
  refine ⟨roundB_same hblock hBW hsz,fun _=>?_,hI⟩;obtain ⟨K4,_,_,hs5⟩:=hI;exact hkeep K4 _ w' hs5
 ·rintro D xs W hD hS ⟨K1,hle1,hB1,hs1⟩ hk;have hB2:∀ b y,K.B b=some y->(if b=D then some (Obj.deferred (some [])) else K.B b)=some y:=fun b y hy=>by
   have:=hBlt b y hy;rw [if_neg oA];exact hy
  refine ⟨.normal,{ K1 with B:=fun b=>if b=D then some (.deferred (some [])) else K.B b },⟨s.slots,so xs⟩,rfl,⟨hle1.M,hle1.ρ,hle1.C,hle1.n,hle1.vs,hle1.w0,fun b y hy=>hB2 b y (hle.B b y hy),hle1.M0⟩,⟨?_,fun t=>(hs1.slot t).monoR (Q78 K1 _ K1.w0),hs1.size,?_⟩,rfl,xs,hS,rfl⟩
  ·refine hs1.mem.with _ K1.w0 (fun o q hq hl hC=>?_) ?_
   ·obtain ⟨c,t,fr,hc⟩:=hs1.mem.cells hq hl hC (hrows xs q (yKa hq) hl);have hne:K1.ρ o q.1 ≠ D:=fun e=>by rw [e,hk] at hc;cases hc
    show (if K1.ρ o q.1=D then _ else _)=none;rw [if_neg hne,← hB1];exact (hs1.mem.lo o q hq hl hC).1
   ·have q1:=hs1.mem.below;refine ⟨q1.os,q1.tape,q1.output,q1.size,fun b y hy=>?_⟩
    by_cases hb:b=D
    ·subst hb;simp only [if_true] at hy;rw [hk];exact hy
    ·simp only [if_neg hb] at hy;exact q1.block b y (by rw [hB1];exact hy)
  ·have hw0:K1.w0=K.w0:=hle1.w0.trans hle.w0.symm;refine ⟨List.nodup_cons.2 ⟨fun hin=>?_,hs.defers.1⟩,fun d hd=>?_⟩
   ·obtain ⟨D',h1,h2,_⟩:=hs.defers.2 _ hin;simp only [Deferred.mk.injEq,Target.collected.injEq,and_true] at h1;subst h1;have:=hBlt _ _ h2;omega
   ·rcases List.mem_cons.1 hd with rfl|hd
    ·refine ⟨D,rfl,by simp,?_⟩;show K1.w0.heap.size<=D;rw [hw0];exact yHa hs.mem.below.size hD
    ·obtain ⟨D',h1,h2,h3⟩:=hs.defers.2 d hd;refine ⟨D',h1,hB2 _ _ h2,?_⟩;show K1.w0.heap.size<=D';rw [hw0];exact h3
theorem range_next {α:Type} {g:Operand} {p q aid bid rid:Nat} {oa:Oper} {ops:Array Oper} {sl:List (Nat × AVal)} {o:Objs} {Q:CQ} (e:α->Value) (ys:List α) (so:List α->Objs) (h0:so []=o) (hp:p<nt) (hq:q<nt)
  (hoa:oa.op = .assign (.tmp p)) (hod:oa.dst=some q) (hog:oa.guard=none) (hfree:Qe2 sl p = .any)
  (hrows:∀ xs q,q ∈ so xs->q.2.live=true -> ∃ t k es,q.2 = .row t k es)
  (hit:∀ K a w,Sat nt K ⟨sl,o⟩ a w -> ∃ (gf:Nat) (lb:Array Value) (pc:Addr) (u:Value),a.eval g = .func (.func gf) #[] lb∧(∀ args w,(callFunc gf args).run P w = .ok (.enter gf args) w)∧pc.block<w.heap.size ∧
   (∀ K1 xs W,Sat nt K1 ⟨sl,so xs⟩ { tmps:=a.tmps,defers:=[] } W->W.cell? pc=some u) ∧
   SeqStopsK Fence.wide 2 P gf lb (fun x=>#[e x]) (fun W W'=>W.cell? pc=some u->W'.cell? pc=some u) (fun zs=>zs=ys) (fun _=>True) ys.length w)
  (hdefer:(ops.toList.all fun o=>match o.op with | .defer _=>false|_=>true)=true)
  (hbody:∀ pre x,pre.length<ys.length->cops P nt ops ((q,.lit (e x)) :: sl) false ops.toList [] [] (so pre) (fun _ _ o=>Weaker nt n0 ⟨sl,o⟩ ⟨sl,so (pre++[x])⟩))
  (hQ:Q .normal sl (so ys)) :
  ∃ R:AExit->List (Nat × AVal)->Objs->Prop,RangeW P nt n0 (.rangeFunc g #[p] (.region aid #[oa] false) (.block bid (.region rid ops false))) (fun e t=>R e t.slots t.objs) ⟨sl,o⟩ ∧ ∀ e s o,R e s o->Q e s o:=by
 refine ⟨fun e s o=>e = .normal∧s=sl∧o=so ys,?_,?_⟩
 ·intro K0 K a w hn hle hs;refine wp_mono (rangeW_region (P:=P) (nt:=nt) (n0:=n0) (s:=⟨sl,o⟩) e (fun zs=>zs=ys) ys.length so h0 hp hq hoa hod hog hfree hrows hit ?_ ?_ K0 K a w hn hle hs) ?_
  ·intro o ho c hc;have:=List.all_eq_true.1 hdefer o ho;rw [hc] at this;cases this
  ·intro pre x hlen;exact QVc (hbody pre x hlen)
  ·rintro e' a' w' ⟨e1,K1,s1,he,hle1,hs1,rfl,xs,rfl,rfl⟩;exact ⟨.normal,K1,_,he,hle1,hs1,rfl,rfl,rfl⟩
 ·rintro e s o ⟨rfl,rfl,rfl⟩;exact hQ
theorem told_same {n0:Nat} {r:AVal} {o:Objs}:Told n0 r o r o:=fun _ K _ _ _ hle hm hr=>⟨K,hle,hm,hr⟩
theorem box_cell {K:Ctx} {objs:Objs} {w:World} {o:Nat} {t:TypeId} {v:Value} (hm:MemSat K objs w) (ho:objs[o]? = some (0,.row t 1 [[.lit v]])):w.cell? ⟨K.ρ o 0,0,none⟩=some v∧K.ρ o 0<w.heap.size:=by
 obtain ⟨_,h2,h3⟩:=hm.obj o _ ho;have hC:K.C o 0 ≠ 0:=by simp at h2;omega
 obtain ⟨c,⟨fr,_,hc⟩,_,_,hx⟩:=h3 hC;obtain ⟨u,hu,hr⟩:=hx 0 0 [.lit v] (.lit v) rfl rfl;have:=Q21 hr;subst this;exact ⟨by simpa [World.cell?,hc] using hu,(Array.getElem?_eq_some_iff.1 hc).1⟩
theorem Qfh {K:Ctx} {f:FuncId} {o o' k k' i j i' j':Nat} {v:Value} (h:Rep K (.fn (.func f) [] [.ptr o 0 k i j,.ptr o' 0 k' i' j']) v):v = .func (.func f) #[] #[.pointer (some ⟨K.ρ o 0,i*k+j,none⟩),.pointer (some ⟨K.ρ o' 0,i'*k'+j',none⟩)]:=by
 cases h with
 | fn _ _ _ vs us hl hm h g =>
  match vs,us,hl,hm with
  | [],[u1,u2],_,_ =>
   have h1:=g 0 _ _ rfl rfl;have h2:=g 1 _ _ rfl rfl;cases h1 with
   | ptr=>cases h2 with
    | ptr=>rfl
end
end Go.Fw
namespace Go.Proofs.YtackngeeehiegaaGreatDoor
set_option linter.unusedSimpArgs false
set_option linter.unusedVariables false
open Go.Fw
def ints (l:List Int):AVal:=listA 1 (fun n=>[I n]) 0 l
def runes (l:List Int):AVal:=listA 1 (fun n=>[J n]) 0 l
theorem runes_low (l:List Int) (n:Nat):Low n (runes l):=listA_low fun _=>rfl
structure Alt where
 nodes:Int
 wall:Int
 deriving DecidableEq
def zA:Alt:=⟨0,0⟩
def Alt.cells (x:Alt):List AVal:=[I x.nodes,I x.wall]
def Alt.a (x:Alt):AVal:=.agg x.cells
def altL (l:List Alt):AVal:=listA 2 Alt.cells zA l
theorem Alt.lo {n:Nat} {a0 a1:Int}:LowL n [I a0,I a1]:=l1 (l1 (.nil))
theorem Alt.lowc (x:Alt) (n:Nat):LowL n x.cells:=Alt.lo
instance:LowC Alt.cells:=⟨fun n x=>x.lowc n⟩
theorem Alt.low (x:Alt) (n:Nat):Low n x.a:=.agg' (x.lowc n)
theorem Alt.lows (l:List Alt) (n:Nat):Low n (altL l):=Qn6 fun x=>x.lowc n
structure Shape where
 kind:Int
 alts:List Alt
 min:Int
 max:Int
 wall:Int
 deriving DecidableEq
def zB:Shape:=⟨0,[],0,0,0⟩
def Shape.cells (x:Shape):List AVal:=[I x.kind,altL x.alts,I x.min,I x.max,I x.wall]
def Shape.a (x:Shape):AVal:=.agg x.cells
theorem Shape.lo {n:Nat} {a0 a2 a3 a4:Int} {a1:List Alt}:LowL n [I a0,altL a1,I a2,I a3,I a4]:=l1 (lv (Alt.lows _ _) (l1 (l1 (l1 (.nil)))))
theorem Shape.lowc (x:Shape) (n:Nat):LowL n x.cells:=Shape.lo
instance:LowC Shape.cells:=⟨fun n x=>x.lowc n⟩
theorem Shape.low (x:Shape) (n:Nat):Low n x.a:=.agg' (x.lowc n)
def Shape.szN (N:Nat) (x:Shape):Prop:=x.alts.length<=N
abbrev Shape.sz (x:Shape):Prop:=x.szN 4294967296
abbrev Shape.szM (x:Shape):Prop:=x.szN 9223372036854775807
theorem Shape.szz (N:Nat):zB.szN N:=by simp [Shape.szN,zB,ByteArray.size]
structure Dep where
 how:Int
 job:Int
 deriving DecidableEq
def zC:Dep:=⟨0,0⟩
def Dep.cells (x:Dep):List AVal:=[I x.how,I x.job]
def Dep.a (x:Dep):AVal:=.agg x.cells
def depL (l:List Dep):AVal:=listA 2 Dep.cells zC l
theorem Dep.lo {n:Nat} {a0 a1:Int}:LowL n [I a0,I a1]:=l1 (l1 (.nil))
theorem Dep.lowc (x:Dep) (n:Nat):LowL n x.cells:=Dep.lo
instance:LowC Dep.cells:=⟨fun n x=>x.lowc n⟩
theorem Dep.low (x:Dep) (n:Nat):Low n x.a:=.agg' (x.lowc n)
theorem Dep.lows (l:List Dep) (n:Nat):Low n (depL l):=Qn6 fun x=>x.lowc n
structure Token where
 kind:Int
 text:ByteArray
 num:Int
 at_:Int
 deriving DecidableEq
def zD:Token:=⟨0,⟨#[]⟩,0,0⟩
def Token.cells (x:Token):List AVal:=[I x.kind,Sg x.text,I x.num,I x.at_]
def Token.a (x:Token):AVal:=.agg x.cells
def tokenL (l:List Token):AVal:=listA 4 Token.cells zD l
theorem Token.lo {n:Nat} {a0 a2 a3:Int} {a1:ByteArray}:LowL n [I a0,Sg a1,I a2,I a3]:=l1 (l1 (l1 (l1 (.nil))))
theorem Token.lowc (x:Token) (n:Nat):LowL n x.cells:=Token.lo
instance:LowC Token.cells:=⟨fun n x=>x.lowc n⟩
theorem Token.low (x:Token) (n:Nat):Low n x.a:=.agg' (x.lowc n)
structure Cmd where
 kind:Int
 job:Int
 name:ByteArray
 user:ByteArray
 account:ByteArray
 shape:Shape
 prio:Int
 hasPrio:Bool
 time:Int
 hasTime:Bool
 after:List Dep
 node:Int
 nodes:Int
 from_:Int
 deriving DecidableEq
def Cmd.cells (x:Cmd):List AVal:=[I x.kind,I x.job,Sg x.name,Sg x.user,Sg x.account,I x.shape.kind,altL x.shape.alts,I x.shape.min,I x.shape.max,I x.shape.wall,I x.prio,Bo x.hasPrio,I x.time,Bo x.hasTime,depL x.after,I x.node,I x.nodes,I x.from_]
def Cmd.a (x:Cmd):AVal:=.agg x.cells
theorem Cmd.lo {n:Nat} {a0 a1 a5 a7 a8 a9 a10 a12 a15 a16 a17:Int} {a2 a3 a4:ByteArray} {a6:List Alt} {a11 a13:Bool} {a14:List Dep}:LowL n [I a0,I a1,Sg a2,Sg a3,Sg a4,I a5,altL a6,I a7,I a8,I a9,I a10,Bo a11,I a12,Bo a13,depL a14,I a15,I a16,I a17]:=l1 (l1 (l1 (l1 (l1 (l1 (lv (Alt.lows _ _) (l1 (l1 (l1 (l1 (l1 (l1 (l1 (lv (Dep.lows _ _) (l1 (l1 (l1 (.nil))))))))))))))))))
theorem Cmd.lowc (x:Cmd) (n:Nat):LowL n x.cells:=Cmd.lo
instance:LowC Cmd.cells:=⟨fun n x=>x.lowc n⟩
theorem Cmd.low (x:Cmd) (n:Nat):Low n x.a:=.agg' (x.lowc n)
def Cmd.szN (N:Nat) (x:Cmd):Prop:=x.name.size<=N∧x.user.size<=N∧x.account.size<=N∧x.shape.szN N∧x.after.length<=N
abbrev Cmd.sz (x:Cmd):Prop:=x.szN 4294967296
structure Step where
 at_:Int
 free:Int
 deriving DecidableEq
def zE:Step:=⟨0,0⟩
def Step.cells (x:Step):List AVal:=[I x.at_,I x.free]
def stepL (l:List Step):AVal:=listA 2 Step.cells zE l
theorem Step.lo {n:Nat} {a0 a1:Int}:LowL n [I a0,I a1]:=l1 (l1 (.nil))
theorem Step.lowc (x:Step) (n:Nat):LowL n x.cells:=Step.lo
instance:LowC Step.cells:=⟨fun n x=>x.lowc n⟩
theorem Step.lows (l:List Step) (n:Nat):Low n (stepL l):=Qn6 fun x=>x.lowc n
structure Node where
 state:Int
 job:Int
 epoch:Int
 drain:Bool
 want:Int
 since:Int
 asked:Int
 deriving DecidableEq
def zF:Node:=⟨0,0,0,false,0,0,0⟩
def Node.cells (x:Node):List AVal:=[I x.state,I x.job,I x.epoch,Bo x.drain,I x.want,I x.since,I x.asked]
def Node.a (x:Node):AVal:=.agg x.cells
def nodeL (l:List Node):AVal:=listA 7 Node.cells zF l
theorem Node.lo {n:Nat} {a0 a1 a2 a4 a5 a6:Int} {a3:Bool}:LowL n [I a0,I a1,I a2,Bo a3,I a4,I a5,I a6]:=l1 (l1 (l1 (l1 (l1 (l1 (l1 (.nil)))))))
theorem Node.lowc (x:Node) (n:Nat):LowL n x.cells:=Node.lo
instance:LowC Node.cells:=⟨fun n x=>x.lowc n⟩
theorem Node.low (x:Node) (n:Nat):Low n x.a:=.agg' (x.lowc n)
theorem Node.lows (l:List Node) (n:Nat):Low n (nodeL l):=Qn6 fun x=>x.lowc n
structure Job where
 id:Int
 name:ByteArray
 user:ByteArray
 account:ByteArray
 shape:Shape
 prio:Int
 after:List Dep
 state:Int
 held:Bool
 born:Int
 promise:Int
 choice:Int
 start:Int
 limit:Int
 nodes:Int
 used:Int
 deriving DecidableEq
def zG:Job:=⟨0,⟨#[]⟩,⟨#[]⟩,⟨#[]⟩,zB,0,[],0,false,0,0,0,0,0,0,0⟩
def Job.cells (x:Job):List AVal:=[I x.id,Sg x.name,Sg x.user,Sg x.account,I x.shape.kind,altL x.shape.alts,I x.shape.min,I x.shape.max,I x.shape.wall,I x.prio,depL x.after,I x.state,Bo x.held,I x.born,I x.promise,I x.choice,I x.start,I x.limit,U x.nodes,I x.used]
def Job.a (x:Job):AVal:=.agg x.cells
def jobL (l:List Job):AVal:=listA 20 Job.cells zG l
theorem Job.lo {n:Nat} {a0 a4 a6 a7 a8 a9 a11 a13 a14 a15 a16 a17 a18 a19:Int} {a1 a2 a3:ByteArray} {a5:List Alt} {a10:List Dep} {a12:Bool}:LowL n [I a0,Sg a1,Sg a2,Sg a3,I a4,altL a5,I a6,I a7,I a8,I a9,depL a10,I a11,Bo a12,I a13,I a14,I a15,I a16,I a17,U a18,I a19]:=l1 (l1 (l1 (l1 (l1 (lv (Alt.lows _ _) (l1 (l1 (l1 (l1 (lv (Dep.lows _ _) (l1 (l1 (l1 (l1 (l1 (l1 (l1 (l1 (l1 (.nil))))))))))))))))))))
theorem Job.lowc (x:Job) (n:Nat):LowL n x.cells:=Job.lo
instance:LowC Job.cells:=⟨fun n x=>x.lowc n⟩
theorem Job.low (x:Job) (n:Nat):Low n x.a:=.agg' (x.lowc n)
theorem Job.lows (l:List Job) (n:Nat):Low n (jobL l):=Qn6 fun x=>x.lowc n
def Job.szN (N:Nat) (x:Job):Prop:=x.name.size<=N∧x.user.size<=N∧x.account.size<=N∧x.shape.szN N∧x.after.length<=N
abbrev Job.sz (x:Job):Prop:=x.szN 4294967296
abbrev Job.szM (x:Job):Prop:=x.szN 9223372036854775807
theorem Job.szz (N:Nat):zG.szN N:=by simp [Job.szN,zG,ByteArray.size,Shape.szN,zB]
structure Resize where
 job:Int
 grow:Bool
 nodes:Int
 said:Int
 since:Int
 deriving DecidableEq
def zH:Resize:=⟨0,false,0,0,0⟩
def Resize.cells (x:Resize):List AVal:=[I x.job,Bo x.grow,U x.nodes,U x.said,I x.since]
def Resize.a (x:Resize):AVal:=.agg x.cells
def QA1 (l:List Resize):AVal:=listA 5 Resize.cells zH l
theorem Resize.lo {n:Nat} {a0 a2 a3 a4:Int} {a1:Bool}:LowL n [I a0,Bo a1,U a2,U a3,I a4]:=l1 (l1 (l1 (l1 (l1 (.nil)))))
theorem Resize.lowc (x:Resize) (n:Nat):LowL n x.cells:=Resize.lo
instance:LowC Resize.cells:=⟨fun n x=>x.lowc n⟩
theorem Resize.low (x:Resize) (n:Nat):Low n x.a:=.agg' (x.lowc n)
theorem Resize.lows (l:List Resize) (n:Nat):Low n (QA1 l):=Qn6 fun x=>x.lowc n
structure Book where
 id:Int
 from_:Int
 to:Int
 nodes:Int
 deriving DecidableEq
def zI:Book:=⟨0,0,0,0⟩
def Book.cells (x:Book):List AVal:=[I x.id,I x.from_,I x.to,I x.nodes]
def Book.a (x:Book):AVal:=.agg x.cells
def bookL (l:List Book):AVal:=listA 4 Book.cells zI l
theorem Book.lo {n:Nat} {a0 a1 a2 a3:Int}:LowL n [I a0,I a1,I a2,I a3]:=l1 (l1 (l1 (l1 (.nil))))
theorem Book.lowc (x:Book) (n:Nat):LowL n x.cells:=Book.lo
instance:LowC Book.cells:=⟨fun n x=>x.lowc n⟩
theorem Book.lows (l:List Book) (n:Nat):Low n (bookL l):=Qn6 fun x=>x.lowc n
structure Usage where
 user:ByteArray
 account:ByteArray
 used:Int
 share:Int
 deriving DecidableEq
def zJ:Usage:=⟨⟨#[]⟩,⟨#[]⟩,0,0⟩
def Usage.cells (x:Usage):List AVal:=[Sg x.user,Sg x.account,I x.used,I x.share]
def Usage.a (x:Usage):AVal:=.agg x.cells
def QI2 (l:List Usage):AVal:=listA 4 Usage.cells zJ l
theorem Usage.lo {n:Nat} {a0 a1:ByteArray} {a2 a3:Int}:LowL n [Sg a0,Sg a1,I a2,I a3]:=l1 (l1 (l1 (l1 (.nil))))
theorem Usage.lowc (x:Usage) (n:Nat):LowL n x.cells:=Usage.lo
instance:LowC Usage.cells:=⟨fun n x=>x.lowc n⟩
theorem Usage.low (x:Usage) (n:Nat):Low n x.a:=.agg' (x.lowc n)
theorem Usage.lows (l:List Usage) (n:Nat):Low n (QI2 l):=Qn6 fun x=>x.lowc n
def Usage.szN (N:Nat) (x:Usage):Prop:=x.user.size<=N∧x.account.size<=N
abbrev Usage.sz (x:Usage):Prop:=x.szN 4294967296
abbrev Usage.szM (x:Usage):Prop:=x.szN 9223372036854775807
theorem Usage.szz (N:Nat):zJ.szN N:=by simp [Usage.szN,zJ,ByteArray.size]
structure State where
 now:Int
 nodes:List Node
 jobs:List Job
 resizes:List Resize
 books:List Book
 ledger:List Usage
 nextJob:Int
 nextBook:Int
 deriving DecidableEq
def zK:State:=⟨0,[],[],[],[],[],0,0⟩
def State.cells (x:State):List AVal:=[I x.now,nodeL x.nodes,jobL x.jobs,QA1 x.resizes,bookL x.books,QI2 x.ledger,I x.nextJob,I x.nextBook]
def State.a (x:State):AVal:=.agg x.cells
theorem State.lo {n:Nat} {a0 a6 a7:Int} {a1:List Node} {a2:List Job} {a3:List Resize} {a4:List Book} {a5:List Usage}:LowL n [I a0,nodeL a1,jobL a2,QA1 a3,bookL a4,QI2 a5,I a6,I a7]:=l1 (lv (Node.lows _ _) (lv (Job.lows _ _) (lv (Resize.lows _ _) (lv (Book.lows _ _) (lv (Usage.lows _ _) (l1 (l1 (.nil))))))))
theorem State.lowc (x:State) (n:Nat):LowL n x.cells:=State.lo
instance:LowC State.cells:=⟨fun n x=>x.lowc n⟩
theorem State.low (x:State) (n:Nat):Low n x.a:=.agg' (x.lowc n)
def State.szN (N:Nat) (x:State):Prop:=x.nodes.length<=N∧x.jobs.length<=N∧(∀ y ∈ x.jobs,y.szN N)∧x.resizes.length<=N∧x.books.length<=N∧x.ledger.length<=N∧(∀ y ∈ x.ledger,y.szN N)
abbrev State.sz (x:State):Prop:=x.szN 4294967296
abbrev State.szM (x:State):Prop:=x.szN 9223372036854775807
theorem State.szz (N:Nat):zK.szN N:=by simp [State.szN,zK,ByteArray.size]
structure Note where
 kind:Int
 node:Int
 job:Int
 epoch:Int
 deriving DecidableEq
def zL:Note:=⟨0,0,0,0⟩
def Note.cells (x:Note):List AVal:=[I x.kind,I x.node,I x.job,I x.epoch]
def Note.a (x:Note):AVal:=.agg x.cells
def noteL (l:List Note):AVal:=listA 4 Note.cells zL l
theorem Note.lo {n:Nat} {a0 a1 a2 a3:Int}:LowL n [I a0,I a1,I a2,I a3]:=l1 (l1 (l1 (l1 (.nil))))
theorem Note.lowc (x:Note) (n:Nat):LowL n x.cells:=Note.lo
instance:LowC Note.cells:=⟨fun n x=>x.lowc n⟩
theorem Note.low (x:Note) (n:Nat):Low n x.a:=.agg' (x.lowc n)
structure LexReader where
 line:List Int
 at_:Int
 bad:Int
 error:Int
 deriving DecidableEq
def zM:LexReader:=⟨[],0,0,0⟩
theorem LexReader.lo {n:Nat} {a0:List Int} {a1 a2 a3:Int}:LowL n [runes a0,I a1,I a2,I a3]:=lv (runes_low _ _) (l1 (l1 (l1 (.nil))))
def LexReader.szN (N:Nat) (x:LexReader):Prop:=x.line.length<=N
abbrev LexReader.sz (x:LexReader):Prop:=x.szN 4294967296
structure Taken where
 p:List Step
 deriving DecidableEq
theorem Taken.lo {n:Nat} {a0:List Step}:LowL n [stepL a0]:=lv (Step.lows _ _) (.nil)
def Taken.szN (N:Nat) (x:Taken):Prop:=x.p.length<=N
abbrev Taken.sz (x:Taken):Prop:=x.szN 4294967296
def atoiOK (s:ByteArray):Prop:=1<=s.size∧s.size<=9 ∧ ∀ i,i<s.size->48<=(s.data.toList.getD i 0).toNat∧(s.data.toList.getD i 0).toNat<=57
theorem atoi_minus {s:ByteArray} (h:atoiOK s) (c:(((s.data.toList.getD 0 0).toNat:Int)==45)=true):False:=by
 have:=h.2.2 0 h.1;have e:=eq_of_beq c;omega
theorem atoi_sign {s:ByteArray} (h:atoiOK s) (c:((((s.data.toList.getD 0 0).toNat:Int)==45)||(((s.data.toList.getD 0 0).toNat:Int)==43))=true):False:=by
 have:=h.2.2 0 h.1;rcases (y2a _ _).mp c with c|c <;> have e:=eq_of_beq c <;> omega
theorem bytesOf_getD (s:ByteArray) (i:Nat):(Q22 s).getD i 0=((s.data.toList.getD i 0).toNat:Int):=by
 unfold Q22;simp only [List.getD,yDa];cases s.data.toList[i]? <;> rfl
theorem atoi_digit {s:ByteArray} (h:atoiOK s) {i:Nat} (hi:i<s.size) (c:decide (wu8 (((Q22 s).getD i 0) - 48) > 9)=true):False:=by
 have h1:=h.2.2 i hi;have c:=yda c;rw [bytesOf_getD] at c;rw [show wu8 (((s.data.toList.getD i 0).toNat:Int) - 48)=((s.data.toList.getD i 0).toNat:Int) - 48 by rw [wu8,IntKind.wrap_u8];omega] at c;omega
theorem getD_byte (s:ByteArray) {i:Nat} (h:i<s.size):s.data.toList.getD i 0=s[i]'h:=by
 have h':i<s.data.toList.length:=by simpa using h
 simp [List.getD,yaa h']
 rfl
theorem QZ8 (s:ByteArray) (i:Nat) (h:i<s.size):i+(Utf8.decode s i).2<=s.size:=by
 unfold Utf8.decode;dsimp only;split
 ·simp;omega
 ·split
  ·rename_i hc;simp only [yea,yfa] at hc;split <;> simp <;> omega
  ·split
   ·rename_i hc;simp only [yea,yfa] at hc;split <;> simp <;> omega
   ·split
    ·rename_i hc;simp only [yea,yfa] at hc;split <;> simp <;> omega
    ·simp;omega
theorem ref09_half {s1:Int} {n:Nat} (h:(n:Int)=0∨(0<=s1∧s1<2 ^ (65 - ((n:Int).toNat)))) (hn:(n:Int)<=65) (h0:s1 > 0):n<65∧0<=wu64 (Int.tdiv s1 2)∧wu64 (Int.tdiv s1 2)<2 ^ (65 - (n+1))∧(wu64 (Int.tdiv s1 2)).toNat<s1.toNat:=by
 have e:Int.tdiv s1 2=s1 / 2:=Int.tdiv_eq_ediv_of_nonneg oA;have hw : wu64 (s1 / 2) = (s1 / 2) % 18446744073709551616 := by simp [IntKind.wrap, IntKind.bits, IntKind.signed]
 rw [e,hw];have h1 : (s1 / 2) % 18446744073709551616 <= s1 / 2 := by omega
 rcases h with h|⟨_,h⟩
 ·have:n=0:=by omega
  subst this;exact ⟨by omega,by omega,by show _<(2:Int) ^ 64;have:(2:Int) ^ 64=18446744073709551616:=(by decide);omega,by omega⟩
 ·simp only [yna] at h;have hn65:n<65:=by
   rcases yoa n 65 with h2|h2
   ·exact h2
   ·rw [show 65 - n=0 by omega] at h;simp at h;omega
  refine ⟨hn65,by omega,?_,by omega⟩;rw [show 65 - n=(65 - (n+1))+1 by omega,Int.pow_succ] at h;omega
theorem extract_size (s:ByteArray) (a b:Nat):(s.extract a b).size<=s.size:=by
 rw [ByteArray.size_extract];omega
theorem digits_bytes (s:ByteArray):∀ (m pos:Nat),s.size - pos<=m->(∀ x ∈ QL4 s m pos,48<=x.2∧x.2<=57) -> ∀ i,pos<=i->i<s.size->48<=(s.data.toList.getD i 0).toNat∧(s.data.toList.getD i 0).toNat<=57:=by
 intro m
 induction m with
 | zero=>intro pos hm _ i h1 h2;omega
 | succ m ih =>
  intro pos hm hx i h1 h2;have hp:pos<s.size:=by omega
  rw [Qy3 (yga hp)] at hx;have h0:=hx _ yqa;have ha:(s[pos]'hp).toNat<128:=by
   rcases yoa (s[pos]'hp).toNat 128 with h|h
   ·exact h
   ·have:=(decode_high s pos hp h).1;simp only at h0;omega
  have hd:=decode_ascii s pos hp ha;rw [hd] at h0 hx
  by_cases hi:i=pos
  ·subst hi;rw [getD_byte s hp];simp only at h0;omega
  ·exact ih (pos+1) oA (fun x hm=>hx x (yha _ hm)) i oA h2
theorem gives_of_calls {P:Program} {f:FuncId} {vs:List Value} {v:Value} (h:∀ w,Calls P f vs.toArray w fun e w'=>e = .returned v∧w'=w) (objs:Objs):AGives P f (vs.map .lit) objs (.lit v):=by
 intro K w us hm hr;have e:us=vs:=by
  have h1:=hr.1;refine List.ext_getElem? fun i=>?_
  rcases yoa i vs.length with hi|hi
  ·have hu:i<us.length:=by rw [h1];simpa using hi
   have:=hr.2 i (.lit vs[i]) us[i] (by simp [yaa hi]) (yaa hu);rw [yaa hi,yaa hu];rw [Q21 this]
  ·rw [y8a hi,y8a (by rw [h1];simpa using hi)]
 subst e;refine (h w).mono ?_;rintro e w' ⟨rfl,rfl⟩;exact ⟨v,.lit v,objs,K,rfl,.refl K,hm,.lit v,rfl,rfl⟩
set_option maxHeartbeats 1000000 in
set_option maxRecDepth 100000 in
theorem indexByte1 (s:ByteArray) (c:Int) (w:World) :
  Calls Tryz.prog 337 #[.string s,.int .u8 c] w fun e w'=>e = .returned (.int .i64 (Lib.indexByte s.data.toList c.toNat.toUInt8))∧w'=w:=by
 go_enter Tryz.func337,Tryz.ntmps337
 go_wp2
 rw [run_callFunc_extern Tryz.func344 (by kernel_rfl) (by kernel_rfl) (by kernel_rfl) (e:=Extern.BytealgIndexByte.indexByte) (by kernel_rfl),Lib.run_indexByteString];simp only [Result.andThen];rw [Oper.upon_value]
 go_wp2
 go_ret
 exact ⟨rfl,rfl⟩
def Qx6 (s:ByteArray) (c:Int):Int:=Lib.indexByte s.data.toList c.toNat.toUInt8
set_option maxHeartbeats 1000000 in
theorem indexByte2 (s:ByteArray) (c:Int) (w:World) :
  Calls Tryz.prog 319 #[.string s,.int .u8 c] w fun e w'=>e = .returned (.int .i64 (Qx6 s c))∧w'=w:=by
 go_enter Tryz.func319,Tryz.ntmps319
 go_wp2_with (go_at_call 337;refine (indexByte1 _ _ _).mono ?_;rintro e w' ⟨rfl,rfl⟩)
 go_ret
 exact ⟨rfl,rfl⟩
theorem QEc (s:ByteArray) (c:Int):∀ objs,AGives Tryz.prog 319 [Sg s,Y c] objs (I (Qx6 s c)) :=
 gives_of_calls (vs:=[.string s,.int .u8 c]) fun w=>indexByte2 s c w
end Go.Proofs.YtackngeeehiegaaGreatDoor
namespace Go.Proofs.YtackngeeehiegaaGreatDoor
set_option linter.unusedSimpArgs false
set_option linter.unusedVariables false
open Go Go.RowKit Go.Proofs
theorem bldPtr:Tryz.prog.underlying 336 = some (.pointer 339):=by kernel_rfl
theorem bldUnsafe:Tryz.prog.underlying 359 = some .unsafePointer:=by kernel_rfl
theorem bldInfo:(Tryz.prog.info? 339).map (·.size)=some 2:=by kernel_rfl
theorem bldCells:Tryz.prog.cellsOf 339 = 2:=by kernel_rfl
set_option maxHeartbeats 1000000 in
set_option maxRecDepth 100000 in
theorem copyCheck_used (b:Nat) (w:World) (h0:w.cell? ⟨b,0,none⟩=some (.pointer (some ⟨b,0,none⟩))) :
  Calls Tryz.prog 339 #[.pointer (some ⟨b,0,none⟩)] w fun e w'=>e = .returned (.tuple #[])∧w'=w:=by
 obtain ⟨j,hj,_⟩:=Option.map_eq_some_iff.1 bldInfo
 go_enter Tryz.func339,Tryz.ntmps339
 go_wp2
 rw [Lib.run_neq_ptr_same w _ bldPtr hj]
 go_wp2
 go_end0
 exact ⟨rfl,rfl⟩
set_option maxHeartbeats 1000000 in
set_option maxRecDepth 100000 in
theorem Qmg (te:TypeId) (m b:Nat) (w:World) (h0:w.cell? ⟨b,0,none⟩=some (.pointer none)) (hsh:w.shape? b=some (te,m)) (hm:0<m) (hlies:liesAt Tryz.prog Tryz.prog.depth te (m / Tryz.prog.cellsOf te) 0 339 1=true) (hfz:w.frozen? ⟨b,0,none⟩=false) :
  Calls Tryz.prog 339 #[.pointer (some ⟨b,0,none⟩)] w fun e w'=>e = .returned (.tuple #[])∧w'=w.setCell ⟨b,0,none⟩ (.pointer (some ⟨b,0,none⟩)):=by
 obtain ⟨j,hj,hjs⟩:=Option.map_eq_some_iff.1 bldInfo
 go_enter Tryz.func339,Tryz.ntmps339
 go_wp2
 rw [Lib.run_to_unsafe w ⟨b,0,none⟩ bldPtr bldUnsafe hj (by rw [hjs];decide) hsh hm];simp only [Result.andThen];rw [Oper.upon_value]
 go_wp2
 rw [run_callFunc_extern Tryz.func349 (by kernel_rfl) (by kernel_rfl) (by kernel_rfl) (e:=Extern.AbiNoEscape.same) (by kernel_rfl)];rw [Lib.run_noEscape];simp only [Result.andThen];rw [Oper.upon_value]
 go_wp2
 rw [Lib.run_from_unsafe w ⟨b,0,none⟩ bldUnsafe bldPtr hj hsh hlies];simp only [Result.andThen];rw [Oper.upon_value]
 go_wp2
 go_end0
 exact ⟨rfl,rfl⟩
theorem bldBytePtr:Tryz.prog.underlying 353 = some (.pointer 5):=by kernel_rfl
theorem bldByte1:Tryz.prog.cellsOf 5 = 1:=by kernel_rfl
set_option maxHeartbeats 2000000 in
set_option maxRecDepth 100000 in
theorem Q5e (b:Nat) (w:World) (c0:w.cell? ⟨b,1,none⟩=some (.slice none 0 0)) :
  Calls Tryz.prog 324 #[.pointer (some ⟨b,0,none⟩)] w fun e w'=>e = .returned (.string ⟨#[]⟩)∧w'=w.drew:=by
 have hUS:=fun (W:World) (q:Option Addr)=>Lib.run_unsafeString_none (P:=Tryz.prog) (w:=W) 353 3 9 q
 have c1:w.drew.cell? ⟨b,1,none⟩=some (.slice none 0 0):=c0;have hSD:(Builtin.unsafeSliceData_ #[337] 353 #[.slice none 0 0]).run Tryz.prog w.drew = .ok (.pointer none) w.drew:=rfl;have mixed:Tryz.prog.follows .mixedOrders=true:=by kernel_rfl
 go_enter Tryz.func324,Tryz.ntmps324
 go_wp2
 go_region_o
 all_goals (go_wp2;go_ret;exact ⟨rfl,rfl⟩)
set_option maxHeartbeats 2000000 in
set_option maxRecDepth 100000 in
theorem QQc (b cap:Nat) (a:Addr) (w:World) (hc0:cap ≠ 0) (c0:w.cell? ⟨b,1,none⟩=some (.slice (some a) 0 cap)) :
  Calls Tryz.prog 324 #[.pointer (some ⟨b,0,none⟩)] w fun e w'=>e = .returned (.string ⟨#[]⟩)∧w'=w.drew:=by
 have hUS:=fun (W:World) (q:Option Addr)=>Lib.run_unsafeString_none (P:=Tryz.prog) (w:=W) 353 3 9 q
 have c1:w.drew.cell? ⟨b,1,none⟩=some (.slice (some a) 0 cap):=c0;have hSD:(Builtin.unsafeSliceData_ #[337] 353 #[.slice (some a) 0 cap]).run Tryz.prog w.drew = .ok (.pointer (some a)) w.drew:=Lib.run_unsafeSliceData_row _ _ _ _ _ _ hc0;clear hc0;have mixed:Tryz.prog.follows .mixedOrders=true:=by kernel_rfl
 go_enter Tryz.func324,Tryz.ntmps324
 go_wp2
 go_region_o
 all_goals (go_wp2;go_ret;exact ⟨rfl,rfl⟩)
set_option maxHeartbeats 2000000 in
set_option maxRecDepth 100000 in
theorem QRc (b g cap:Nat) (cur:Array Value) (fr:Nat × Nat) (l:List UInt8) (w:World) (h0:l ≠ []) (c0:w.cell? ⟨b,1,none⟩=some (.slice (some ⟨g,0,none⟩) l.length cap))
  (hg:w.heap[g]? = some (.cells cur 5 fr)) (hcap:l.length<=cap) (hcur:l.length<=cur.size) (h63:l.length<=9223372036854775807) (hcell:∀ (j:Nat) (x:UInt8),l[j]? = some x->cur[j]? = some (Value.int .u8 x.toNat)) :
  Calls Tryz.prog 324 #[.pointer (some ⟨b,0,none⟩)] w fun e w'=>e = .returned (.string ⟨l.toArray⟩)∧w'=w.drew.freeze ⟨g,0,none⟩ l.length:=by
 have hl0:l.length ≠ 0:=by simpa using h0
 have c1:w.drew.cell? ⟨b,1,none⟩=some (.slice (some ⟨g,0,none⟩) l.length cap):=c0;have hg':w.drew.heap[g]? = some (.cells cur 5 fr):=hg
 have hSD:(Builtin.unsafeSliceData_ #[337] 353 #[.slice (some ⟨g,0,none⟩) l.length cap]).run Tryz.prog w.drew = .ok (.pointer (some ⟨g,0,none⟩)) w.drew :=
  Lib.run_unsafeSliceData_row _ _ _ _ _ _ (by omega)
 have hUS:(Builtin.unsafeString_ #[353,3] 9 #[.pointer (some ⟨g,0,none⟩),.int .i64 l.length]).run Tryz.prog w.drew = .ok (.string ⟨l.toArray⟩) (w.drew.freeze ⟨g,0,none⟩ l.length):=by
  refine Lib.run_unsafeString_row (P:=Tryz.prog) (w:=w.drew) 353 3 9 5 bldBytePtr bldByte1 g cur.size (by simp [World.shape?,hg']) l h0 hcur h63 ?_;intro j x hx;have e:((⟨g,0,none⟩:Addr).add j)=⟨g,j,none⟩:=by
   simp [Addr.add];exact fun h=>h.symm
  rw [e,Lib.cell_of_heap hg'];exact hcell j x hx
 have mixed:Tryz.prog.follows .mixedOrders=true:=by kernel_rfl
 go_enter Tryz.func324,Tryz.ntmps324
 go_wp2
 go_region_o
 all_goals (go_wp2;go_ret;exact ⟨rfl,rfl⟩)
end Go.Proofs.YtackngeeehiegaaGreatDoor
namespace Go.Proofs.YtackngeeehiegaaGreatDoor
set_option linter.unusedSimpArgs false
set_option linter.unusedVariables false
open Go.Fw
theorem liesAt_self {P:Program} {e:TypeId} {k:Nat} (hc:P.cellsOf e=k+1) (count:Nat) (hn:1<=count):liesAt P P.depth e count 0 e 1=true:=by
 have hd:P.depth=(2*(P.types.size+Made.depth)+1)+1:=rfl;rw [hd];simp only [liesAt,y2a];left;rw [hd];simp [rowAt,hc,hn,sameLayout]
theorem Q59 {K:Ctx} {objs:Objs} {w:World} {o ver k:Nat} {te:TypeId} {xs:List AVal} (hm:MemSat K objs w) (hp:objs[o]? = some (ver,.row te k [xs])) :
  K.C o ver ≠ 0 ∧ ∃ (c:Array Value) (fr:Nat × Nat),w.heap[K.ρ o ver]? = some (.cells c te fr)∧frFree fr (c.size+rim k)∧c.size=K.C o ver*k∧(∀ u ∈ c.toList,u.oneCell'=true) ∧ ∀ (j:Nat) (x:AVal),xs[j]? = some x -> ∃ u:Value,c[j]? = some u∧Rep K x u:=by
 obtain ⟨h1,h2,h3⟩:=hm.obj o _ hp;have hC:K.C o ver ≠ 0:=by simp at h2;omega
 obtain ⟨c,⟨fr,hfr,hb⟩,hs,h1',hr⟩:=h3 hC;refine ⟨hC,c,fr,hb,hfr,hs,h1',fun j x hx=>?_⟩;obtain ⟨u,hu,hru⟩:=hr 0 j xs x rfl hx;exact ⟨u,by simpa using hu,hru⟩
theorem setCell_row {w:World} {b off:Nat} {c:Array Value} {te:TypeId} {fr:Nat × Nat} (hb:w.heap[b]? = some (.cells c te fr)) (v:Value):w.setCell ⟨b,off,none⟩ v=w.setRow b (c.setIfInBounds off v):=by
 unfold World.setCell World.setRow
 congr 1
 apply yZb;intro i;simp only [y0b]
 by_cases hi:b=i
 ·subst hi;simp [hb]
 ·simp [hi]
theorem frozen_row {w:World} {b off:Nat} {c:Array Value} {te:TypeId} {fr:Nat × Nat} {n:Nat} (hb:w.heap[b]? = some (.cells c te fr)) (hfr:frFree fr n) (ho:off<n):w.frozen? ⟨b,off,none⟩=false:=by
 have:=hfr off ho;simp only [World.frozen?,hb];simp;omega
structure BldT (te:TypeId):Prop where
 cells:Tryz.prog.cellsOf te=2
 lies:∀ n:Nat,1<=n->liesAt Tryz.prog Tryz.prog.depth te n 0 339 1=true
theorem bldT0:BldT 339:=⟨bldCells,fun n hn=>liesAt_self bldCells n hn⟩
theorem Q9e {te:TypeId} (ht:BldT te) {x:AVal} {rest:Objs} {n0:Nat} (hn:n0<=rest.length+1):AMoves Tryz.prog 339 [.ptr 0 0 2 0 0] ((0,.row te 2 [[.lit (.pointer none),x]]) :: rest) n0 (.tup []) ((0,.row te 2 [[.ptr 0 0 2 0 0,x]]) :: rest):=by
 intro K w vs hm hr;have hp:(((0,.row te 2 [[.lit (.pointer none),x]]) :: rest:Objs))[0]? = some (0,.row te 2 [[.lit (.pointer none),x]]):=rfl;obtain ⟨hC,c,fr,hb,hfr,hs,h1,hx⟩:=Q59 hm hp;have hvs:vs=[.pointer (some ⟨K.ρ 0 0,0,none⟩)]:=by
  obtain ⟨v,rfl⟩:∃ v,vs=[v]:=List.length_eq_one_iff.1 hr.1;obtain ⟨e,_,_⟩:=QZ6 (hr.2 0 _ _ rfl rfl);rw [e]
 subst hvs;have hsz:2<=c.size:=by rw [hs];omega
 obtain ⟨u0,hu0,hr0⟩:=hx 0 _ rfl;obtain ⟨u1,hu1,hr1⟩:=hx 1 _ rfl;have e0:=Q21 hr0;subst e0;have hc0:w.cell? ⟨K.ρ 0 0,0,none⟩=some (.pointer none):=by rw [Lib.cell_of_heap hb];exact hu0
 refine (Qmg te c.size (K.ρ 0 0) w hc0 (by simp [World.shape?,hb]) oA ?_ (frozen_row hb hfr oA)).mono ?_
 ·rw [ht.cells,hs];exact ht.lies _ (by rw [Nat.mul_div_cancel _ (by decide)];omega)
 ·rintro e w' ⟨rfl,rfl⟩;refine ⟨_,K,rfl,Qpg (by rw [← hm.len];exact hn),?_,.tup _ [] rfl (fun i x v h=>by simp at h)⟩;rw [setCell_row hb];have hm':=hm.setRow hp hC c (c.setIfInBounds 0 (.pointer (some ⟨K.ρ 0 0,0,none⟩))) ⟨fr,hfr,hb⟩ (by simp) (fun u hu=>?_) [[.ptr 0 0 2 0 0,x]] (by simp;omega) (by simp) (fun i j e y he hy=>?_)
  ·exact hm'
  ·rw [yDb] at hu;rcases y1b hu with hu|rfl
   ·exact h1 u hu
   ·rfl
  ·have hi:i=0:=by have:=(List.getElem?_eq_some_iff.1 he).1;simp at this;omega
   subst hi;simp at he;subst he;rcases j with _|_|j
   ·simp at hy;subst hy;refine ⟨.pointer (some ⟨K.ρ 0 0,0,none⟩),by rw [show 0*2+0=0 from rfl,yac,if_pos rfl,if_pos oA],?_⟩;have:=Rep.ptr (K:=K) 0 0 2 0 0 (by rw [← hm.len];exact Nat.succ_pos _) (yva _);simpa using this
   ·simp at hy;subst hy;refine ⟨u1,?_,hr1⟩;rw [y7a oA];simpa using hu1
   ·simp at hy
theorem Qff {te:TypeId} {x:AVal} {rest:Objs} {n0:Nat} (hn:n0<=rest.length+1):AMoves Tryz.prog 339 [.ptr 0 0 2 0 0] ((0,.row te 2 [[.ptr 0 0 2 0 0,x]]) :: rest) n0 (.tup []) ((0,.row te 2 [[.ptr 0 0 2 0 0,x]]) :: rest):=by
 intro K w vs hm hr;have hp:(((0,.row te 2 [[.ptr 0 0 2 0 0,x]]) :: rest:Objs))[0]? = some (0,.row te 2 [[.ptr 0 0 2 0 0,x]]):=rfl;obtain ⟨hC,c,fr,hb,hfr,hs,h1,hx⟩:=Q59 hm hp;have hvs:vs=[.pointer (some ⟨K.ρ 0 0,0,none⟩)]:=by
  obtain ⟨v,rfl⟩:∃ v,vs=[v]:=List.length_eq_one_iff.1 hr.1;obtain ⟨e,_,_⟩:=QZ6 (hr.2 0 _ _ rfl rfl);rw [e]
 subst hvs;obtain ⟨u0,hu0,hr0⟩:=hx 0 _ rfl;obtain ⟨e0,_,_⟩:=QZ6 hr0;subst e0;have hc0:w.cell? ⟨K.ρ 0 0,0,none⟩=some (.pointer (some ⟨K.ρ 0 0,0,none⟩)):=by rw [Lib.cell_of_heap hb];simpa using hu0
 refine (copyCheck_used (K.ρ 0 0) w hc0).mono ?_;rintro e w' ⟨rfl,rfl⟩;exact ⟨_,K,rfl,Qpg (by rw [← hm.len];exact hn),hm,.tup _ [] rfl (fun i x v h=>by simp at h)⟩
theorem QCh {w:World} {b:Nat} {c:Array Value} {te:TypeId} {fr:Nat × Nat} (hb:w.heap[b]? = some (.cells c te fr)):w.setRow b c=w:=by
 have e:w.setRow b c={ w with heap:=w.heap }:=by
  unfold World.setRow
  congr 1
  apply yZb;intro i;rw [y0b]
  by_cases hi:b=i
  ·subst hi;rw [if_pos rfl,hb];rfl
  ·rw [if_neg hi]
 exact e
theorem copyCheck_m {te:TypeId} (ht:BldT te) {x:AVal} {rest:Objs} {n0:Nat} (hn:n0<=rest.length+1):AMoves Tryz.prog 339 [.ptr 0 0 2 0 0] ((0,.row te 2 [[.sel 0 0 2 0 0,x]]) :: rest) n0 (.tup []) ((0,.row te 2 [[.ptr 0 0 2 0 0,x]]) :: rest):=by
 intro K w vs hm hr;obtain ⟨hC,c,fr,hb,hfr,hs,h1,hx⟩:=Q59 hm (o:=0) (ver:=0) (k:=2) (te:=te) (xs:=[.sel 0 0 2 0 0,x]) rfl;obtain ⟨u0,hu0,hr0⟩:=hx 0 _ rfl;have one:∀ {a:AVal},Rep K a u0 -> ∀ u,c[0]? = some u->Rep K a u:=fun h u hu=>by rw [hu0] at hu;cases hu;exact h
 have tell:∀ {a:AVal},Rep K a u0->MemSat K ((0,.row te 2 [[a,x]]) :: rest) w:=by
  intro a ha;have hp:((0,.row te 2 [[.sel 0 0 2 0 0,x]]) :: rest:Objs)[0]? = some (0,.row te 2 [[.sel 0 0 2 0 0,x]]):=rfl;have hm':=hm.setRow hp hC c c ⟨fr,hfr,hb⟩ rfl h1 [[a,x]] (by simp;omega) (by simp) (fun i j e y he hy=>?_)
  ·rw [QCh hb] at hm';exact hm'
  ·have hi:i=0:=by have:=(List.getElem?_eq_some_iff.1 he).1;simp at this;omega
   subst hi;simp at he;subst he;rcases j with _|_|j
   ·simp at hy;subst hy;exact ⟨u0,by simpa using hu0,ha⟩
   ·simp at hy;subst hy;obtain ⟨u1,hu1,hr1⟩:=hx 1 _ rfl;exact ⟨u1,by simpa using hu1,hr1⟩
   ·simp at hy
 cases hr0 with
 | selNil=>exact Q9e ht hn K w vs (tell (.lit _)) hr
 | selPtr _ _ _ _ _ ho hv=>exact Qff hn K w vs (tell (.ptr _ _ _ _ _ ho hv)) hr
abbrev Qi6 (l:List Int):AObj:=.row 5 1 (l.map fun q=>[Y q])
set_option maxRecDepth 20000
set_option maxHeartbeats 4000000
attribute [local irreducible] ACalls AMoves
end Go.Proofs.YtackngeeehiegaaGreatDoor
namespace Go.Proofs.YtackngeeehiegaaGreatDoor
set_option linter.unusedSimpArgs false
set_option linter.unusedVariables false
open Go.Fw
theorem freeze_setB {w:World} {g n:Nat} {c:Array Value} {t:TypeId} {fr:Nat × Nat} (hg:w.heap[g]? = some (.cells c t fr)):∃ fr',w.freeze ⟨g,0,none⟩ n=setB w g (.cells c t fr'):=by
 unfold World.freeze
 by_cases hn:n=0
 ·rw [if_pos hn];refine ⟨fr,?_⟩;have e:w.heap=w.heap.setIfInBounds g (.cells c t fr):=by
   apply yZb;intro i;rw [yac]
   by_cases hi:g=i
   ·subst hi;have:=(Array.getElem?_eq_some_iff.1 hg).1;rw [if_pos rfl,if_pos this,hg]
   ·rw [if_neg hi]
  unfold setB;rw [← e]
 ·rw [if_neg hn];obtain ⟨lo,hi⟩:=fr;refine ⟨if lo==hi then (0,0+n) else (min lo 0,max hi (0+n)),?_⟩;unfold setB
  congr 1
  apply yZb;intro i;rw [yac,y0b]
  by_cases hi:g=i
  ·subst hi;have:=(Array.getElem?_eq_some_iff.1 hg).1;rw [if_pos rfl,if_pos rfl,if_pos this,hg]
   rfl
  ·rw [if_neg hi,if_neg hi]
section
variable {K:Ctx} {objs:Objs} {w:World}
theorem MemSat.kill (h:MemSat K objs w) {o ver:Nat} {p:AObj} (hp:objs[o]? = some (ver,p)) (hlive:p.live=true) (hC:K.C o ver ≠ 0) (b:Obj):MemSat K (objs.set o (ver,.dead)) (setB w (K.ρ o ver) b):=by
 have hlo:=h.lo o _ hp hlive hC;have holt:o<objs.length:=(List.getElem?_eq_some_iff.1 hp).1;have get:∀ o' q,(objs.set o (ver,.dead))[o']? = some q->(o'=o∧q=(ver,.dead))∨(o' ≠ o∧objs[o']? = some q):=by
  intro o' q hq
  by_cases ho:o'=o
  ·subst ho;rw [yVb holt] at hq;exact Or.inl ⟨rfl,(Option.some.inj hq).symm⟩
  ·rw [yic (Ne.symm ho)] at hq;exact Or.inr ⟨ho,hq⟩
 refine ⟨by rw [List.length_set];exact h.len,fun o' q hq=>?_,fun o' q hq=>?_,fun o' q hq hl' hC'=>?_,fun o1 o2 q1 q2 h1 h2 l1 l2 c1 c2 hne=>?_,fun b' i u hu=>?_,?_⟩
 ·rcases get o' q hq with ⟨rfl,rfl⟩|⟨_,hq⟩
  ·exact h.ver o' (ver,p) hp
  ·exact h.ver o' _ hq
 ·rcases get o' q hq with ⟨rfl,rfl⟩|⟨ho,hq⟩
  ·trivial
  ·refine (h.obj o' q hq).mono (Ctx.le.refl K) (h.olt hq) (by rw [h.ver o' q hq];exact yla _) (fun hl' hC'=>QFa ?_);exact h.dis o' o q _ hq hp hl' hlive hC' hC ho
 ·rcases get o' q hq with ⟨rfl,rfl⟩|⟨ho,hq⟩
  ·cases hl'
  ·obtain ⟨g1,g2,g3⟩:=h.lo o' q hq hl' hC';exact ⟨g1,by simpa [setB] using g2,g3⟩
 ·rcases get o1 q1 h1 with ⟨rfl,rfl⟩|⟨_,h1⟩
  ·cases l1
  ·rcases get o2 q2 h2 with ⟨rfl,rfl⟩|⟨_,h2⟩
   ·cases l2
   ·exact h.dis o1 o2 q1 q2 h1 h2 l1 l2 c1 c2 hne
 ·have:=h.mem b' i u hu;have hne:b' ≠ K.ρ o ver:=by
   intro hb;rw [hb,hlo.2.2 i] at hu;cases hu
  refine ⟨?_,this.2⟩;have e:(setB w (K.ρ o ver) b).cell? ⟨b',i,none⟩=w.cell? ⟨b',i,none⟩:=by
   simp only [World.cell?,QFa hne]
  rw [e];exact this.1
 ·refine h.below.step rfl rfl rfl rfl rfl (by simp [setB]) fun b' y hy=>QFa ?_
  rintro rfl;rw [hlo.1] at hy;cases hy
end
def Qj8 (l:List Int):Prop:=∀ n ∈ l,0<=n∧n<=255
theorem QDb:Qj8 []:=fun n h=>nomatch h
theorem wu8_in (n:Int):0<=wu8 n∧wu8 n<=255:=by
 simp only [IntKind.wrap,IntKind.bits,IntKind.signed];simp;omega
theorem byteIn_app {l k:List Int} (h:Qj8 l) (g:Qj8 k):Qj8 (l++k):=fun n hn=>by
 rcases List.mem_append.1 hn with hn|hn
 ·exact h n hn
 ·exact g n hn
theorem QR6 {c:Int} {k:List Int} (h:0<=c∧c<=255) (g:Qj8 k):Qj8 (c :: k):=fun n hn=>by
 rcases List.mem_cons.1 hn with rfl|hn
 ·exact h
 ·exact g n hn
theorem QZb:∀ (l:List Int) (r:ByteArray),(l.foldl (fun r n=>r.push (UInt8.ofNat n.toNat)) r).data.toList=r.data.toList++l.map fun n=>UInt8.ofNat n.toNat
 | [],r=>by simp
 | n :: l,r=>by
  rw [ysb,QZb l];simp [ByteArray.push]
theorem QSc (l:List Int):QQ2 l=⟨(l.map fun n=>UInt8.ofNat n.toNat).toArray⟩:=by
 have:=QZb l ByteArray.empty;apply ByteArray.ext;apply Array.ext';unfold QQ2;rw [this]
 rfl
theorem String_some {te:TypeId} {x:AVal} (l:List Int) (h0:l ≠ []) (hb:Qj8 l) (hl:l.length<=70368744177664):AMoves Tryz.prog 324 [.ptr 0 0 2 0 0] [(0,.row te 2 [[x,.own 1 0 1 0 l.length]]),(0,Qi6 l)] 1 (Sg (QQ2 l)) [(0,.row te 2 [[.any,.any]])]:=by
 intro K w vs hm hr;have hp0:([(0,.row te 2 [[x,.own 1 0 1 0 l.length]]),(0,Qi6 l)]:Objs)[0]? = some (0,.row te 2 [[x,.own 1 0 1 0 l.length]]):=rfl;have hp1:([(0,.row te 2 [[x,.own 1 0 1 0 l.length]]),(0,Qi6 l)]:Objs)[1]? = some (0,Qi6 l):=rfl;obtain ⟨hC,c,fr,hbk,hfr,hs,h1,hx⟩:=Q59 hm hp0;have hvs:vs=[.pointer (some ⟨K.ρ 0 0,0,none⟩)]:=by
  obtain ⟨v,rfl⟩:∃ v,vs=[v]:=List.length_eq_one_iff.1 hr.1;obtain ⟨e,_,_⟩:=QZ6 (hr.2 0 _ _ rfl rfl);rw [e]
 subst hvs;have hlen:l.length ≠ 0:=by simpa using h0
 obtain ⟨u1,hu1,hr1⟩:=hx 1 _ rfl;obtain ⟨_,_,hcase⟩:=QY6 hr1;rcases hcase with ⟨_,q,_⟩|⟨a,cap,rfl,q1,q2,q3⟩
 ·exact absurd q hlen
 have ha:=q3 oA;simp only [ydc] at ha;subst ha;obtain ⟨g1,g2,g3⟩:=hm.obj 1 _ hp1;have hC1:K.C 1 0 ≠ 0:=by simp at g2;omega
 obtain ⟨cur,⟨fr1,hfr1,hbk1⟩,hs1,h11,hcr⟩:=g3 hC1;have hcell:∀ (j:Nat) (x:UInt8),(l.map fun n=>UInt8.ofNat n.toNat)[j]? = some x->cur[j]? = some (Value.int .u8 x.toNat):=by
  intro j x hx;rw [yDa] at hx;cases hj:l[j]? with
  | none=>rw [hj] at hx;cases hx
  | some n =>
   rw [hj] at hx;simp only [yPa,yba] at hx;subst hx;obtain ⟨u,hu,hru⟩:=hcr j 0 [Y n] (Y n) (by rw [yDa,hj];rfl) rfl;have e:=Q21 hru;subst e;have hn:=hb n (yKa hj);rw [show j*1+0=j by omega] at hu;rw [hu]
   congr 2
   rw [UInt8.toNat_ofNat'];omega
 have hcurs:l.length<=cur.size:=by
  have e:cur.size=K.C 1 0*1:=hs1;simp at g2;omega
 have c0:w.cell? ⟨K.ρ 0 0,1,none⟩=some (.slice (some ⟨K.ρ 1 0,0,none⟩) (l.map fun n=>UInt8.ofNat n.toNat).length cap):=by
  rw [Lib.cell_of_heap hbk,ypb];exact hu1
 refine (QRc (K.ρ 0 0) (K.ρ 1 0) cap cur fr1 (l.map fun n=>UInt8.ofNat n.toNat) w (by simpa using h0) c0 hbk1 (by rw [ypb];exact q1) (by rw [ypb];exact hcurs) (by rw [ypb];omega) hcell).mono ?_;rintro e w' ⟨rfl,rfl⟩;obtain ⟨fr2,hfz⟩:=freeze_setB (w:=w.drew) (n:=(l.map fun n=>UInt8.ofNat n.toNat).length) (g:=K.ρ 1 0) hbk1;have hm2:=MemSat.kill hm.drew hp1 rfl hC1 (.cells cur 5 fr2);rw [← hfz] at hm2
 have told:Go.Fw.Told 1 (Sg (QQ2 l)) [(0,.row te 2 [[x,.own 1 0 1 0 l.length]]),(0,.dead)] (Sg (QQ2 l)) [(0,.row te 2 [[.any,.any]])] :=
  Q45 [0] rfl (by decide) (.cons 0 _ _ _ _ rfl (Qi3 (.cons _ _ _ _ (fun _ _ _ _ _=>.any _) (.cons _ _ _ _ (fun _ _ _ _ _=>.any _) .nil))) .nil) (Q54 (Qk3 rfl))
 obtain ⟨K',hle,hm3,hr3⟩:=told (K.cut 1) K _ (.string (QQ2 l)) rfl (Qpg (by rw [← hm.len];simp)) hm2 (.lit _);refine ⟨_,K',?_,hle,hm3,hr3⟩;rw [QSc]
theorem String_c {te:TypeId} (l:List Int) (hb:Qj8 l) (hl:l.length<=70368744177664):AMoves Tryz.prog 324 [.ptr 0 0 2 0 0] [(0,.row te 2 [[.any,.buf 1 0 1 l.length]]),(0,Qi6 l)] 1 (Sg (QQ2 l)) [(0,.row te 2 [[.any,.any]])]:=by
 by_cases h0:l=[]
 ·subst h0;intro K w vs hm hr;have hp0:([(0,.row te 2 [[.any,.buf 1 0 1 ([]:List Int).length]]),(0,Qi6 [])]:Objs)[0]? = some (0,.row te 2 [[.any,.buf 1 0 1 ([]:List Int).length]]):=rfl;obtain ⟨hC,c,fr,hbk,hfr,hs,h1,hx⟩:=Q59 hm hp0;have hvs:vs=[.pointer (some ⟨K.ρ 0 0,0,none⟩)]:=by
   obtain ⟨v,rfl⟩:∃ v,vs=[v]:=List.length_eq_one_iff.1 hr.1;obtain ⟨e,_,_⟩:=QZ6 (hr.2 0 _ _ rfl rfl);rw [e]
  subst hvs;obtain ⟨u1,hu1,hr1⟩:=hx 1 _ rfl
  have told:Go.Fw.Told 1 (Sg (QQ2 [])) [(0,.row te 2 [[.any,.buf 1 0 1 ([]:List Int).length]]),(0,Qi6 [])] (Sg (QQ2 [])) [(0,.row te 2 [[.any,.any]])] :=
   Q45 [0] rfl (by decide) (.cons 0 _ _ _ _ rfl (Qi3 (.cons _ _ _ _ (fun _ _ _ _ _=>.any _) (.cons _ _ _ _ (fun _ _ _ _ _=>.any _) .nil))) .nil) (Q54 (Qk3 rfl))
  obtain ⟨K',hle,hm3,hr3⟩:=told (K.cut 1) K _ (.string (QQ2 [])) rfl (Qpg (by rw [← hm.len];simp)) hm.drew (.lit _);have c0:w.cell? ⟨K.ρ 0 0,1,none⟩=some u1:=by rw [Lib.cell_of_heap hbk];exact hu1
  have fin:Calls Tryz.prog 324 #[.pointer (some ⟨K.ρ 0 0,0,none⟩)] w fun e w'=>e = .returned (.string ⟨#[]⟩)∧w'=w.drew:=by
   generalize hn:([]:List Int).length=n at hr1;cases hr1 with
   | bufNil=>exact Q5e _ w c0
   | bufSome _ _ _ _ cap ho hv hl' hc hC' =>
    have hn':n=0:=hn.symm;subst hn';exact QQc _ cap _ w hc c0
  refine fin.mono ?_;rintro e w' ⟨rfl,rfl⟩;exact ⟨_,K',rfl,hle,hm3,hr3⟩
 ·intro K w vs hm hr;have hm':MemSat K [(0,.row te 2 [[.any,.own 1 0 1 0 l.length]]),(0,Qi6 l)] w:=by
   have hp0:([(0,.row te 2 [[.any,.buf 1 0 1 l.length]]),(0,Qi6 l)]:Objs)[0]? = some (0,.row te 2 [[.any,.buf 1 0 1 l.length]]):=rfl;obtain ⟨hC,c,fr,hbk,hfr,hs,h1,hx⟩:=Q59 hm hp0;have hm':=hm.setRow hp0 hC c c ⟨fr,hfr,hbk⟩ rfl h1 [[.any,.own 1 0 1 0 l.length]] (by simp;omega) (by simp) (fun i j e y he hy=>?_)
   ·rw [QCh hbk] at hm';exact hm'
   ·have hi:i=0:=by have:=(List.getElem?_eq_some_iff.1 he).1;simp at this;omega
    subst hi;simp at he;subst he;rcases j with _|_|j
    ·simp at hy;subst hy;obtain ⟨u0,hu0,_⟩:=hx 0 _ rfl;exact ⟨u0,by simpa using hu0,.any _⟩
    ·simp at hy;subst hy;obtain ⟨u1,hu1,hr1⟩:=hx 1 _ rfl;exact ⟨u1,by simpa using hu1,QLb hr1⟩
    ·simp at hy
  exact String_some l h0 hb hl K w vs hm' hr
end Go.Proofs.YtackngeeehiegaaGreatDoor
namespace Go.Proofs.YtackngeeehiegaaGreatDoor
set_option linter.unusedSimpArgs false
set_option linter.unusedVariables false
open Go.RowKit Go.Shelf
attribute [local go_sem] Oper.semAt_some
def Qk6 (hi:Int) (k:Nat):List Int:=(List.range k).map fun (i:Nat)=>hi - (i:Int)
theorem downFrom_succ (hi:Int) (k:Nat):Qk6 hi (k+1)=Qk6 hi k++[hi - (k:Int)]:=by simp [Qk6,List.range_succ]
theorem Qa9 (hi:Int) (k:Nat):(Qk6 hi k).length=k:=by simp [Qk6]
def leftOf (lo:Int):Value->Nat
 | .int _ n=>(n - lo+1).toNat
 | _=>0
theorem sizes_in (n:Nat) (hn:1<=n) (l Bt Bf:Nat) (lo hi:Int) (h1:1<=lo) (h2:lo<=hi) (h3:hi<=48) (J Jx:List Int->World->Prop)
  (hY:∀ pre x W,J pre W->pre.length<(hi - lo+1).toNat->YieldAt Fence.wide (n - 1) Tryz.prog l #[.int .i64 x] W fun e W' =>
   (e = .returned (.bool true)∧J (pre++[x]) W'∧(W.cell? ⟨Bf,0,none⟩=some (.int .i64 lo)->W'.cell? ⟨Bf,0,none⟩=some (.int .i64 lo)))∨(e = .returned (.bool false)∧Jx (pre++[x]) W'))
  (W:World) (hT:W.cell? ⟨Bt,0,none⟩=some (.int .i64 hi)) (hF:W.cell? ⟨Bf,0,none⟩=some (.int .i64 lo)) (h0:J [] W) :
  CallsIn Fence.wide n Tryz.prog 243 #[.func (.yield l) #[] #[],.pointer (some ⟨Bt,0,none⟩),.pointer (some ⟨Bf,0,none⟩)] W fun e W'=>(∃ v,e = .returned v) ∧
   ((∃ ys,ys=Qk6 hi (hi - lo+1).toNat∧J ys W')∨(∃ pre,True∧Jx pre W')):=by
 refine callsIn_of_wp Tryz.func243 rfl trivial ?_ rfl;simp only [Tryz.ntmps243,List.size_toArray,List.length_cons,List.length_nil,Nat.reduceAdd,Nat.reduceSub,Array.replicate_succ,Array.replicate_zero,List.push_toArray,List.append_toArray,List.nil_append,List.cons_append]
 gi_wp2
 gi_loopw [4] (fun p wr=>∃ k:Nat,p = .int .i64 (hi - (k:Int))∧k<=(hi - lo+1).toNat∧wr.cell? ⟨Bf,0,none⟩=some (.int .i64 lo)∧J (Qk6 hi k) wr)
  (fun p _=>leftOf lo p)
 case atStart =>
  exact ⟨0,by simp,by omega,hF,h0⟩
 case round =>
  obtain ⟨k,rfl,hk,hc,hJs⟩:=hrel
  by_cases hle:lo<=hi - (k:Int)
  ·obtain ⟨fn,tmps,assign,body,hy,hR⟩:=hY (Qk6 hi k) (hi - (k:Int)) wr hJs (by rw [Qa9];omega);have hd:decide (hi - (k:Int) >= lo)=true:=decide_eq_true hle
   gi_wp2
   refine hR.mono ?_;rintro e W3 (⟨rfl,hJ3,hk3⟩|⟨rfl,hJx3⟩)
   ·gi_wp2
    go_roundw
    case rel =>
     refine ⟨k+1,?_,by omega,hk3 hc,by rw [downFrom_succ];exact hJ3⟩;simp;omega
    case measure =>
     simp only [leftOf];omega
   ·gi_wp2
    refine bodyPost_ret (results_none rfl _ _ _) rfl ?_;exact ⟨⟨_,rfl⟩,.inr ⟨_,trivial,hJx3⟩⟩
  ·have hd:decide (hi - (k:Int) >= lo)=false:=decide_eq_false (by omega)
   gi_wp2
   have hk':k=(hi - lo+1).toNat:=by omega
   subst hk'
   go_end0
   exact ⟨⟨_,rfl⟩,.inl hJs⟩
theorem sizes_stops (n:Nat) (hn:1<=n) (Bt Bf:Nat) (lo hi:Int) (w:World) (h1:1<=lo) (h2:lo<=hi) (h3:hi<=48) (hbt:Bt<w.heap.size) (hbf:Bf<w.heap.size)
  (hT:w.cell? ⟨Bt,0,none⟩=some (.int .i64 hi)) (hF:w.cell? ⟨Bf,0,none⟩=some (.int .i64 lo)) :
  SeqStopsK Fence.wide n Tryz.prog 243 #[.pointer (some ⟨Bt,0,none⟩),.pointer (some ⟨Bf,0,none⟩)] (fun x:Int=>#[Value.int .i64 x]) (fun W W'=>W.cell? ⟨Bf,0,none⟩=some (.int .i64 lo)->W'.cell? ⟨Bf,0,none⟩=some (.int .i64 lo)) (fun ys=>ys=Qk6 hi (hi - lo+1).toNat) (fun _=>True) (hi - lo+1).toNat w :=
 fun l J Jx W hW _ _ hY h0=>sizes_in n hn l Bt Bf lo hi h1 h2 h3 J Jx hY W ((hW.cell (p:=⟨Bt,0,none⟩) hbt).trans hT) ((hW.cell (p:=⟨Bf,0,none⟩) hbf).trans hF) h0
end Go.Proofs.YtackngeeehiegaaGreatDoor
namespace Go.Proofs.YtackngeeehiegaaGreatDoor
set_option linter.unusedSimpArgs false
set_option linter.unusedVariables false
open Go.Fw
theorem ckA {p:Prop} (h:p:=by first|exact wu64_nonneg _|omega|(simp only [QB3];omega)|(simp only [yEa,yXb,cond_true,cond_false,yea,y2a,y4a,yyb,Bool.not_not,yfa,yGa,beq_iff_eq,bne_iff_ne,beq_eq_false_iff_ne,bne_eq_false_iff_eq,ne_eq] at *;first|omega|(simp (disch:=omega) only [wr];omega))|grind):p:=h
theorem leA {p:Prop} (h:p:=by first|rfl|omega|(simp;omega)|grind):p:=h
theorem exA {p:Prop} (h:p:=by first|omega|(dsimp only;omega)|(simp;done)|(simp;omega)|(simp [QB3];done)|grind):p:=h
theorem omA {p:Prop} (h:p:=by first|omega|(dsimp only;omega)|grind):p:=h
theorem szA {p:Prop} (h:p:=by first|omega|assumption|(refine ⟨?_,?_⟩ <;> assumption)|(simp;done)|exact Qp4 (by assumption) (by first|exact Job.szz _|exact Usage.szz _|exact Shape.szz _|exact Token.szz _)|exact Shape.szz _|exact Job.szz _|exact State.szz _|(rw [bytesStr_size];omega)|(refine yHa (QC7 _) ?_;simp only [ywa,yta];omega)|(dsimp only [Cmd.sz,Job.sz,Shape.sz,State.sz,Usage.sz,Token.sz,LexReader.sz,ImageReader.sz,Ref28From.sz,Cmd.szN,Job.szN,Shape.szN,State.szN,Usage.szN,Token.szN,LexReader.szN,ImageReader.szN,Ref28From.szN];(repeat' apply And.intro) <;> first|assumption|(simp;done))|grind):p:=h
theorem lnA {p:Prop} (h:p:=by first|rfl|exact (QB3 _).symm|exact QB3 _|(simp;done)|(simp [QB3];done)|grind):p:=h
theorem eqA {p:Prop} (h:p:=by first|rfl|(simp only [yma,yna,List.map_set];rfl)|(rw [List.map_replicate];rfl)|(rw [List.map_take];rfl)|exact Qp6 _ _ _|(refine Eq.symm ?_;exact range_listS _ _ _)|exact (bytesOf_map _)|(rw [yUb];rfl)|(rw [yUb,← Qp6];rfl)|(simp;done)|((repeat rw [yUb]);repeat' (first|rfl|exact Qp6 _ _ _|(refine Eq.symm ?_;exact range_listS _ _ _)|exact rangeTake _ _ _ ckA|exact rangeDrop _ _ _ _ leA|exact range_cut _ _ _ _ _ leA ckA|exact List.map_replicate|refine app_eq ?_ ?_))):p:=h
theorem cvA {p:Prop} (h:p:=by first|exact newsP_own rfl lnA|exact newsP_nil|exact newsP_ownE rfl eqA lnA|exact newsP_seq (by first|rfl |  exact Qp6 _ _ _|(refine Eq.symm ?_;exact range_listS _ _ _)|exact rangeTake _ _ _ ckA|exact rangeDrop _ _ _ _ leA|exact range_cut _ _ _ _ _ leA ckA|simp)):p:=h
theorem gkA {p:Prop} (h:p:=by first|exact fun hg=>yga ckA|exact fun _=>rfl|exact rfl):p:=h
theorem apA {p:Prop} (h:p:=by first|(simp;omega)|grind):p:=h
theorem roA {p:Prop} (h:p:=by first|rfl|omega):p:=h
theorem ltA {i n:Nat} (h:decide ((i:Int)<(n:Int))=true):i<n:=by have:=yda h;omega
theorem geA {i n:Nat} (h:decide ((i:Int)<(n:Int))=false):n<=i:=by have:=yca h;omega
theorem sucA (m:Nat) (h:0<m:=by omega):∃ k,m=k+1:=⟨m - 1,by omega⟩
theorem tp0 {objs:Objs} {ks:List Nat} {o ver k a b i:Nat} {p:AObj} (hi:ks[i]? = some o:=by exact rfl) (hp:objs[o]? = some (ver,p):=by exact rfl):TurnV objs 0 ks (.ptr o ver k a b) (.ptr i 0 k a b):=by
 have:=Qm1 (n:=0) (k:=k) (i':=a) (j:=b) i hi hp
 rwa [yma] at this
theorem to0 {objs:Objs} {ks:List Nat} {o ver k off len len' i:Nat} {p:AObj} (hl:len=len') (hi:ks[i]? = some o:=by exact rfl) (hp:objs[o]? = some (ver,p):=by exact rfl):TurnV objs 0 ks (.own o ver k off len) (.own i 0 k off len'):=by
 have:=Q1e (n:=0) (k:=k) (off:=off) i hi hp hl
 rwa [yma] at this
theorem tm0 {objs:Objs} {ks:List Nat} {o i:Nat} {p:AObj} (hi:ks[i]? = some o:=by exact rfl) (hp:objs[o]? = some (0,p):=by exact rfl):TurnV objs 0 ks (.map o) (.map i):=by
 have:=turn_map (n:=0) i hi hp
 rwa [yma] at this
theorem tn0 {objs:Objs} {ks:List Nat} {k o i:Nat} (hi:ks[i]? = some o:=by exact rfl):TurnV objs 0 ks (.lit (.slice none 0 0)) (.own i 0 k 0 0):=by
 have:=Q48 (objs:=objs) (n:=0) (k:=k) i hi
 rwa [yma] at this
theorem loA {P:Prop} (h:P:=by ((repeat' first|exact .nil|exact lx|exact lw|refine .cons ?_ ?_|refine Low.tup' ?_|refine Low.agg' ?_|with_reducible exact Alt.low _ _|with_reducible exact Shape.low _ _|with_reducible exact Dep.low _ _|with_reducible exact Token.low _ _|with_reducible exact Cmd.low _ _|with_reducible exact Node.low _ _|with_reducible exact Job.low _ _|with_reducible exact Resize.low _ _|with_reducible exact Usage.low _ _|with_reducible exact State.low _ _|with_reducible exact Note.low _ _);first|done|fail)):P:=h
theorem loL {P:Prop} (h:P:=by ((repeat first|exact LowL.nil|refine l1 ?_|refine lv lw ?_|with_reducible refine lv (Alt.low _ _) ?_|with_reducible refine lv (Shape.low _ _) ?_|with_reducible refine lv (Dep.low _ _) ?_|with_reducible refine lv (Token.low _ _) ?_|with_reducible refine lv (Cmd.low _ _) ?_|with_reducible refine lv (Node.low _ _) ?_|with_reducible refine lv (Job.low _ _) ?_|with_reducible refine lv (Resize.low _ _) ?_|with_reducible refine lv (Usage.low _ _) ?_|with_reducible refine lv (State.low _ _) ?_|with_reducible refine lv (Note.low _ _) ?_);first|done|fail)):P:=h
theorem seA {P:Prop} (h:P:=by first|exact sr|((repeat' first|exact .nil|refine Seen.tup ?_|refine e1 ?_|refine ev ?_ ?_|exact Q30|exact sr|refine Seen.agg ?_);first|done|fail)):P:=h
theorem tvA {P:Prop} (h:P:=by first|exact t1|exact tp0|exact to0 lnA|exact tn0|exact Q54 loA|exact tm0):P:=h
theorem wtA {P:Prop} (h:P:=by ((repeat' first|exact .nil|refine tO rfl ?_ ?_|exact tl eqA|with_reducible exact ts Alt.lo|with_reducible exact ts Shape.lo|with_reducible exact ts Dep.lo|with_reducible exact ts Token.lo|with_reducible exact ts Cmd.lo|with_reducible exact ts Step.lo|with_reducible exact ts Node.lo|with_reducible exact ts Job.lo|with_reducible exact ts Resize.lo|with_reducible exact ts Book.lo|with_reducible exact ts Usage.lo|with_reducible exact ts State.lo|with_reducible exact ts Note.lo|with_reducible exact ts LexReader.lo|with_reducible exact ts Taken.lo|exact ts loL|exact .strIter _ _|refine Qi3 ?_|refine c1 ?_|refine cv (to0 lnA) ?_|refine cv tp0 ?_|refine cv tn0 ?_|refine cv (QF8 .nil ?_) ?_|exact Qba _ rfl rfl (fun _=>lx)|exact Qba _ rfl rfl (fun _=>Job.low _ _)|exact Qba _ rfl rfl (fun _=>Resize.low _ _));first|done|fail)):P:=h
theorem wsA {P:Prop} (h:P:=by ((repeat' first|exact .nil|refine s1 ?_|refine sl lw ?_|refine sv tp0 ?_|refine sv (to0 lnA) ?_|refine sv (turn_eq (I_eq (wr omA)) lx) ?_|refine sv tm0 ?_|refine sv tn0 ?_|refine sv (QF8 .nil ?_) ?_|refine cv tp0 ?_|refine c1 ?_|refine sv (Q54 (Low.fn _ _ _ LowL.nil LowL.nil)) ?_);first|done|fail)):P:=h
theorem wkA {nt n0:Nat} {objs:Objs} {s s':List (Nat × AVal)} {new:Objs} (ks:List Nat) (hT:TurnL objs 0 ks ks new:=by exact wtA) (hs:SubT objs 0 ks s s':=by exact wsA) (hid:idOK n0 ks objs=true:=by exact rfl) (hnd:ks.Nodup:=by decide):Weaker nt n0 ⟨s,objs⟩ ⟨s',new⟩:=Qcf ks hid hnd hT hs
theorem ttA {n0:Nat} {objs:Objs} {r0 r:AVal} {new:Objs} (ks:List Nat) (hT:TurnL objs 0 ks ks new:=by exact wtA) (hr:TurnV objs 0 ks r0 r:=by exact tvA) (hid:idOK n0 ks objs=true:=by exact rfl) (hnd:ks.Nodup:=by decide):Go.Fw.Told n0 r0 objs r new:=Q45 ks hid hnd hT hr
theorem pt {α:Type} {c:Bool} {a b z:α} (h:c=true) (k:(bif c then a else b)=z):a=z:=(cond_t h).symm.trans k
theorem pf {α:Type} {c:Bool} {a b z:α} (h:c=false) (k:(bif c then a else b)=z):b=z:=(cond_f h).symm.trans k
theorem folA {P:Prop} (h:P:=by first|((repeat first|replace hR:=pt (by with_reducible assumption) hR|replace hR:=pf (by with_reducible assumption) hR);exact hR)|(simp only [yna] at *;(repeat first|replace hR:=pt (by with_reducible assumption) hR|replace hR:=pf (by with_reducible assumption) hR);exact hR)):P:=h
theorem lfA {P:Prop} (h:P:=by first|((repeat first|replace hR:=pt (by with_reducible assumption) hR|replace hR:=pf (by with_reducible assumption) hR);subst hR;first|exact Qc0 lx (by with_reducible exact sr)|exact Qc0 loA seA)|(simp only [yna] at *;(repeat first|replace hR:=pt (by with_reducible assumption) hR|replace hR:=pf (by with_reducible assumption) hR);subst hR;first|exact Qc0 lx sr|exact Qc0 loA seA)):P:=h
theorem gA {P:Program} {f:FuncId} {fn:Func} {c:Code} {args:List AVal} {r:AVal} (keep:Nat->Bool) (hf:P.funcs[f]? = some fn)
  (h:cwp P fn.ntmps ([]:Objs).length keep c (CRet P fn ([]:Objs).length fun r' o=>r'=r∧o=[]) (QT4 0 args) []) (ha:LowL 0 args:=by exact loA) (hl:Low 0 r:=by exact loA) (hb:fn.body=some c:=by exact rfl) (hlen:Nat.ble args.length fn.ntmps=true:=by exact rfl):∀ objs,AGives P f args objs r :=
 ga ha hl keep hf h hb hlen
end Go.Proofs.YtackngeeehiegaaGreatDoor
namespace Go.Fw
set_option linter.unusedSimpArgs false
set_option linter.unusedVariables false
open Go.RowKit
theorem rowSeg {K:Ctx} {k:Nat} {es:List (List AVal)} {c:List Value} (h1:∀ e ∈ es,e.length=k) (hone:∀ u ∈ c,u.oneCell'=true)
  (hr:∀ (i j:Nat) (e:List AVal) (x:AVal),es[i]? = some e->e[j]? = some x -> ∃ u,c[i*k+j]? = some u∧Rep K x u) (hs:es.length*k<=c.length) (a m:Nat) (h:a+m<=es.length) :
  Row K k ((es.drop a).take m) ((c.drop (a*k)).take (m*k)):=by
 have hl:((es.drop a).take m).length=m:=by simp;omega
 have hsz:(a+m)*k<=c.length:=yHa (ySa k h) hs;rw [yhb] at hsz;refine ⟨by rw [hl];simp;omega,fun e he=>h1 e (Qs3 he),fun u hu=>hone u (Qs3 hu),fun i j e x he hx=>?_⟩;rw [yQa] at he;split at he
 ·rename_i hi;rw [yFa] at he;obtain ⟨u,hu,hru⟩:=hr (a+i) j e x he hx;have hj:j<k:=by have:=h1 e (yKa he);have:=(List.getElem?_eq_some_iff.1 hx).1;omega
  have hik:(i+1)*k<=m*k:=ySa k hi;rw [yhb,y4b] at hik;refine ⟨u,?_,hru⟩;rw [yQa,if_pos oA,yFa,← yrb,← yhb];exact hu
 ·cases he
theorem MemSat.put {K:Ctx} {objs:Objs} {w:World} (hm:MemSat K objs w) {o ver k:Nat} {te:TypeId} {es:List (List AVal)} (hp:objs[o]? = some (ver,.row te k es)) (hC:K.C o ver ≠ 0)
  {c:Array Value} (hc:RowAt w (K.ρ o ver) c te k) (hs:c.size=K.C o ver*k) {es':List (List AVal)} {us:List Value} (hrow:Row K k es' us) (hl:es'.length<=K.C o ver)
  {c':Array Value} {rest:List Value} (hc':c'.toList=us++rest) (hcs:c'.size=c.size) (hrest:∀ u ∈ rest,u.oneCell'=true):MemSat K (objs.set o (ver,.row te k es')) (w.setRow (K.ρ o ver) c'):=by
 refine hm.setRow hp hC c c' hc hcs ?_ es' hl hrow.elem ?_
 ·intro u hu;rw [hc'] at hu;rcases List.mem_append.1 hu with hu|hu
  ·exact hrow.one u hu
  ·exact hrest u hu
 ·intro i j e x he hx;obtain ⟨u,hu,hru⟩:=hrow.rep i j e x he hx;refine ⟨u,?_,hru⟩;rw [← yeb,hc',yra (List.getElem?_eq_some_iff.1 hu).1];exact hu
theorem MemSat.newRow {K:Ctx} {objs:Objs} {w:World} (hm:MemSat K objs w) {te:TypeId} {k:Nat} {es:List (List AVal)} {us z:List Value} (hrow:Row K k es us) (hlow:∀ e ∈ es,LowL 0 e) (hz:∀ u ∈ z,u.oneCell'=true)
  {C:Nat} (hC:C ≠ 0) (hle:es.length<=C) (hsz:us.length+z.length=C*k) {c:Array Value} (hc:c.toList=us++z) :
  ∃ K',(K.cut 0).le K'∧MemSat K' [(0,.row te k es)] (w.alloc (.cells c te)) ∧ ∀ n cap,n<=cap->cap<=C->Rep K' (.own 0 0 k 0 n) (.slice (some ⟨w.heap.size,0,none⟩) n cap):=by
 refine ⟨K.bare.newObj w.heap.size C,Qq2 K.bare _ _,?_,fun n cap h1 h2=>?_⟩
 ·refine hm.bare.addRow te k es c C hC hle (by rw [← yIa,hc];simpa using hsz) hrow.elem (fun u hu=>?_) (fun i j e x he hx=>?_)
  ·rw [hc] at hu;rcases List.mem_append.1 hu with hu|hu
   ·exact hrow.one u hu
   ·exact hz u hu
  ·obtain ⟨u,hu,hru⟩:=hrow.rep i j e x he hx;refine ⟨u,?_,Rep.low0 (K:=K) (L:=K.bare) (fun _ _ _ h=>h) hru (hlow e (yKa he) x (yKa hx))⟩;rw [← yeb,hc,yra (List.getElem?_eq_some_iff.1 hu).1];exact hu
 ·have e1:(K.bare.newObj w.heap.size C).ρ 0 0=w.heap.size:=by simp [Ctx.newObj,Ctx.bare]
  have e2:(K.bare.newObj w.heap.size C).C 0 0=C:=by simp [Ctx.newObj,Ctx.bare]
  exact .own 0 0 k 0 n (by simp [Ctx.newObj,Ctx.bare]) (by simp [Ctx.newObj,Ctx.bare]) _ cap h1 (by rw [e2];omega) (fun _=>by rw [e1,ydc])
theorem QSb {P:Program} (w:World) (dT sT ty elem:TypeId) (k g o dLen dCap:Nat) (a:Addr) (sLen sCap m:Nat) (cur:Array Value) (t:TypeId) (fr:Nat × Nat) (cs:List Value)
  (hu:P.underlying dT=some (.slice elem)) (hs:(P.info? elem).map (·.size)=some k)
  (hg:w.heap[g]? = some (.cells cur t fr)) (hfr:frFree fr cur.size) (hm:Nat.min sLen dLen=m) (hl:cs.length=m*k)
  (hsrc:∀ j v,cs[j]? = some v->w.cell? (a.add j)=some v) (hfit:o+cs.length<=cur.size) (h1:∀ v ∈ cs,v.oneCell'=true) :
  (Builtin.copy_ #[dT,sT] ty #[.slice (some ⟨g,o,none⟩) dLen dCap,.slice (some a) sLen sCap]).run P w =
   .ok (goInt m) (w.setRow g (cur.toList.take o++cs++cur.toList.drop (o+cs.length)).toArray):=by
 have hl':=run_loadCells_list (P:=P) w a cs hsrc;have hst:=QH2 P g o t fr cs 0 cur w hg hfr (by simpa using hfit) h1;simp only [y6a] at hst;cases hq:P.info? elem with
 | none=>simp [hq] at hs
 | some i =>
  have hi:i.size=k:=by simpa [hq] using hs
  rw [hl] at hl';simp [Builtin.copy_,run_underlying hu,Builtin.lenOf,Builtin.firstCells,sizeOf,typeInfo,hq,hi,hm,hl',hst]
theorem run_clear_k {P:Program} (w:World) (t ty elem:TypeId) (g o n cap:Nat) (cur:Array Value) (tb:TypeId) (fr:Nat × Nat) (i:TypeInfo) (z:Value) (hu:P.underlying t=some (.slice elem)) (hi:P.info? elem=some i) (hz:i.zero=some z)
  (hz1:∀ u ∈ z.cells.toList,u.oneCell'=true) (hn:n ≠ 0)
  (hg:w.heap[g]? = some (.cells cur tb fr)) (hfr:frFree fr cur.size) (hfit:o+n*z.cells.size<=cur.size) :
  (Builtin.clear_ #[t] ty #[.slice (some ⟨g,o,none⟩) n cap]).run P w =
   .ok (.tuple #[]) (w.setRow g (cur.toList.take o++(Builtin.zeroCells z.cells n).toList++cur.toList.drop (o+n*z.cells.size)).toArray):=by
 have hlen:(Builtin.zeroCells z.cells n).toList.length=n*z.cells.size:=by simp [Builtin.zeroCells]
 have h1:∀ u ∈ (Builtin.zeroCells z.cells n).toList,u.oneCell'=true:=by
  intro u hu;simp only [Builtin.zeroCells,yvb,yKb,yPb,yab] at hu;obtain ⟨q,hq,rfl⟩:=hu;rcases yNa z.cells.size with h0|h0
  ·rw [h0] at hq;simp at hq
  ·rw [getElem!_pos z.cells _ (ypc _ h0)];exact hz1 _ (by simp)
 have hst:=QH2 P g o tb fr (Builtin.zeroCells z.cells n).toList 0 cur w hg hfr (by rw [hlen];omega) h1;simp only [y6a,hlen] at hst;obtain ⟨n,rfl⟩:∃ m,n=m+1:=⟨n - 1,by omega⟩;simp [Builtin.clear_,run_underlying hu,zeroValue,typeInfo,hi,hz,hst]
theorem run_overlaps_k {P:Program} (w:World) (tS tR e:TypeId) (ht:P.underlying tS=some (.slice e)) (i:TypeInfo) (hi:P.info? e=some i)
  (a b:Addr) (la ca lb cb:Nat) (hne:a.block ≠ b.block) {j:Nat} {u:Value} (hca:w.cell? ⟨a.block,j,none⟩=some u) {cur:Array Value} {tb:TypeId} {fr:Nat × Nat} (hb:w.heap[b.block]? = some (.cells cur tb fr)) (hfr:frFree fr (cur.size+1)) (h0:cur.size ≠ 0) (hbo:b.off<cur.size) :
  (Extern.SlicesOverlaps.overlaps #[tS,tS] #[tR] #[.slice (some a) la ca,.slice (some b) lb cb]).run P w = .ok (.bool false) w:=by
 have hnb:(a.block != b.block)=true:=by simpa using hne
 have hnb':(a.block==b.block)=false:=by simpa using hne
 obtain ⟨tA,kA,hsa⟩:∃ tA kA,w.shape? a.block=some (tA,kA+1):=by
  unfold World.cell? at hca;unfold World.shape?;dsimp only at hca;cases hq:w.heap[a.block]? with
  | none=>rw [hq] at hca;cases hca
  | some x =>
   cases x with
   | cells c t fr =>
    simp [hq] at hca;exact ⟨t,c.size - 1,by have:=(Array.getElem?_eq_some_iff.1 hca).1;simp;omega⟩
   | _=>simp [hq] at hca
 have hsb:w.shape? b.block=some (tb,cur.size):=by simp [World.shape?,hb]
 have hfz:∀ o,o<cur.size+1 -> ∀ s,w.frozen? ⟨b.block,o,s⟩=false:=by
  intro o ho s;have:=hfr o ho;simp only [World.frozen?,hb];simp;omega
 have hfb:w.frozen? b=false:=hfz b.off oA b.spot;have hfe:w.frozen? { block:=b.block,off:=cur.size }=false:=hfz cur.size oA none
 change Sem.run P (α:=Value) (do
  let some t := (#[tS, tS] : Array TypeId)[0]? | stuck "slices.overlaps: no parameter types"
  let .slice elem ← underlying t | stuck "slices.overlaps: slice type expected"
  let size ← sizeOf elem
  match (some a:Option Addr),(some b:Option Addr) with
  | some a,some b =>
   if la=0∨lb=0∨size=0 then pure (Value.bool false)
   else if a.block != b.block&&(← frozen a)&&(← frozen b) then unsupported .addressObserved
   else do
    if a.block != b.block then do
     noView a;noView b
     if ← mayBeOne a b then return Value.bool ((← choose (.extern "sameAddr.stringBytes" 2)) == 1)
    pure (Value.bool (a.block==b.block&&a.off<b.off+lb*size&&b.off<a.off+la*size))
  | _,_=>pure (Value.bool false)) w=_
 have hz:∀ w,(Go.sizeOf e).run P w = .ok i.size w:=fun w=>by simp [sizeOf,typeInfo,hi]
 by_cases h:la=0∨lb=0∨i.size=0
 ·simp [run_underlying ht,hz,h]
 ·cases hk:cur.size with
  | zero=>exact absurd hk h0
  | succ kB =>
   rw [hk] at hsb hfe
   cases hfa:w.frozen? a <;> cases hfa2:w.frozen? { block:=a.block,off:=kA+1 } <;>
    simp [run_underlying ht,hz,h,hnb,hnb',frozen,noView,viewAt,mayBeOne,stringish,shape,Sem.run,hsa,hsb,hfa,hfa2,hfb,hfe]
theorem Qdf {P:Program} (w:World) {o:Oper} {a:Act} {K:Act->World->Prop} {Q:Exit->Act->World->Prop} (d s:Operand) (t t':TypeId)
  (ho:o.op = .call { callee:=.builtin .copy,args:=#[d,s],argTypes:=#[t,t'] }) (v u:Value) (hd:a.eval d=v) (hs:a.eval s=u) {v':Value} {w':World}
  (hr:(Builtin.copy_ #[t,t'] o.type #[v,u]).run P w = .ok v' w') (h:K (a.put o.dst v') w'):o.wp P a w K Q:=by
 unfold Oper.wp execOp;simp only [ho,resolve,invoke,builtin,yua,yya,yia,List.map_toArray,yjb,yyc,hd,hs,hr];exact h
theorem QTa {P:Program} (w:World) {ops:Array Oper} {rest:List Oper} {o:Oper} {a:Act} {Q:Exit->Act->World->Prop} (hgd:o.guard=none) (d s:Operand) (t t':TypeId)
  (ho:o.op = .call { callee:=.builtin .copy,args:=#[d,s],argTypes:=#[t,t'] }) (v u:Value) (hd:a.eval d=v) (hs:a.eval s=u) {v':Value} {w':World}
  (hr:(Builtin.copy_ #[t,t'] o.type #[v,u]).run P w = .ok v' w') (h:wpList P ops Q rest (a.put o.dst v') w'):wpList P ops Q (o :: rest) a w :=
 wpList_plain hgd fun _ hK=>Qdf w d s t t' ho v u hd hs hr (hK _ _ h)
theorem Qec {P:Program} {ops:Array Oper} {o:Oper} {a:Act} {w:World} {K:Act->World->Prop} {Q:Exit->Act->World->Prop} {E:Prop}
  (hg:o.guard=none) (d x:Operand) (dT sT:TypeId) (hop:o.op=Op.call { callee:=Callee.builtin Builtin.copy,args:=#[d,x],argTypes:=#[dT,sT] })
  (v u:Value) (hd:a.eval d=v) (hx:a.eval x=u) {v':Value} {w':World} (hr:(Builtin.copy_ #[dT,sT] o.type #[v,u]).run P w = .ok v' w') (hK:K (a.put o.dst v') w') :
  if Region.wanted o (yielded ops a.tmps)=true then Oper.wp P o a w K Q else E:=by
 have hw:Region.wanted o (yielded ops a.tmps)=true:=by simp [Region.wanted,hg]
 rw [if_pos hw];exact Qdf w d x dT sT hop v u hd hx hr hK
theorem QE8 {P:Program} {ops:Array Oper} {o:Oper} {a:Act} {w:World} {K:Act->World->Prop} {Q:Exit->Act->World->Prop} {E:Prop}
  (hg:o.guard=none) (d x:Operand) (dT sT:TypeId) (hop:o.op=Op.call { callee:=Callee.builtin Builtin.append,args:=#[d,x],argTypes:=#[dT,sT] })
  (v u:Value) (hd:a.eval d=v) (hx:a.eval x=u) {v':Value} {w':World} (hr:(Builtin.append_ #[dT,sT] o.type #[v,u]).run P w = .ok v' w') (hK:K (a.put o.dst v') w') :
  if Region.wanted o (yielded ops a.tmps)=true then Oper.wp P o a w K Q else E:=by
 have hw:Region.wanted o (yielded ops a.tmps)=true:=by simp [Region.wanted,hg]
 rw [if_pos hw];exact Lib.wp_append_run w d x dT sT hop v u hd hx _ _ hr hK
theorem Q58 {P:Program} (w:World) {ops:Array Oper} {rest:List Oper} {o:Oper} {a:Act} {Q:Exit->Act->World->Prop} (hgd:o.guard=none) (x:Operand) (t:TypeId)
  (ho:o.op = .call { callee:=.builtin .clear,args:=#[x],argTypes:=#[t] }) (v:Value) (hx:a.eval x=v) {v':Value} {w':World}
  (hr:(Builtin.clear_ #[t] o.type #[v]).run P w = .ok v' w') (h:wpList P ops Q rest (a.put o.dst v') w'):wpList P ops Q (o :: rest) a w :=
 wpList_plain hgd fun _ hK=>by
  unfold Oper.wp execOp;simp only [ho,resolve,invoke,builtin,yua,yya,yia,List.map_toArray,yjb,yyc,hx,hr];exact hK _ _ h
end Go.Fw
namespace Go.Proofs.YtackngeeehiegaaGreatDoor
set_option linter.unusedSimpArgs false
set_option linter.unusedVariables false
open Go.Fw Go.RowKit Go.Lib
set_option maxHeartbeats 4000000 in
set_option maxRecDepth 100000 in
theorem delete_w (b n c i j:Nat) (w:World) (hij:i<j) (hjn:j<=n) (hnc:n<=c) (cur:Array Value) (fr:Nat × Nat) (hg:w.heap[b]? = some (.cells cur 49 fr)) (hfr:frFree fr (cur.size+1)) (hsz:c*5<=cur.size) (h1:∀ u ∈ cur.toList,u.oneCell'=true)
  (X1 X2:Array Value) (I0:TypeInfo) (z:Value) (hi0:Tryz.prog.info? 49 = some I0) (hz:I0.zero=some z) (his:I0.size=5) (hzs:z.cells.size=5) (hz1:∀ u ∈ z.cells.toList,u.oneCell'=true)
  (hX1:X1=(cur.toList.take (i*5)++(cur.toList.drop (j*5)).take ((n - j)*5)++cur.toList.drop (i*5+((cur.toList.drop (j*5)).take ((n - j)*5)).length)).toArray)
  (hX2:X2=(X1.toList.take ((i+(n - j))*5)++(Builtin.zeroCells z.cells (j - i)).toList++X1.toList.drop ((i+(n - j))*5+(j - i)*z.cells.size)).toArray) :
  Calls Tryz.prog 175 #[.slice (some ⟨b,0,none⟩) n c,.int .i64 i,.int .i64 j] w fun e w' =>
   e = .returned (.slice (some ⟨b,0,none⟩) (i+(n - j)) c)∧w'=(w.drew.setRow b X1).setRow b X2:=by
 have hS:((cur.toList.drop (j*5)).take ((n - j)*5)).length=(n - j)*5:=by
  simp only [yta,ywa,yIa];omega
 have hX1s:X1.size=cur.size:=by
  rw [hX1];simp only [ymb,ypa,yta,ywa,yIa];omega
 have hgd:w.drew.heap[b]? = some (.cells cur 49 fr):=hg;have hz1':¬ ((i:Int)=(j:Int)):=by omega
 have hn2:n - (i+(n - j))=j - i:=by omega
 have hg1:(w.drew.setRow b X1).heap[b]? = some (.cells X1 49 fr):=setRow_heap w.drew b cur X1 _ fr hgd;have hclr:∀ ty cc,(Builtin.clear_ #[24] ty #[.slice (some ⟨b,(i+(n - j))*5,none⟩) (n - (i+(n - j))) cc]).run Tryz.prog (w.drew.setRow b X1) = .ok (.tuple #[]) ((w.drew.setRow b X1).setRow b X2):=fun ty cc=>by
  have h:=run_clear_k (P:=Tryz.prog) (w.drew.setRow b X1) 24 ty 49 b ((i+(n - j))*5) (n - (i+(n - j))) cc X1 _ fr I0 z (by kernel_rfl) hi0 hz hz1 oA hg1 (by rw [hX1s];exact hfr.le oA) (by rw [hX1s,hzs,hn2];omega);rw [hn2] at h ⊢;rw [h,← hX2]
 have hrow:RowAt w.drew b cur 49 5:=⟨fr,hfr,hgd⟩;rcases yoa j n with hlt|hge
 ·have hcj:¬ (c=j):=by omega
  have hrun:∀ ty,(Builtin.append_ #[24,24] ty #[.slice (some ⟨b,0,none⟩) i c,.slice (some ⟨b,j*5,none⟩) (n - j) (c - j)]).run Tryz.prog w.drew = .ok (.slice (some ⟨b,0,none⟩) (i+(n - j)) c) (w.drew.setRow b X1):=fun ty=>by
   have h:=Qac (P:=Tryz.prog) w.drew 24 ty 49 I0 (by kernel_rfl) hi0 (k:=5) b i c cur hrow ⟨b,j*5,none⟩ (n - j) (c - j) ((cur.toList.drop (j*5)).take ((n - j)*5)) (by rw [hS,his]) (fun q u hu=>by
    rw [Fw.add_lit];simp only [World.cell?,hgd];rw [yQa] at hu;split at hu
    ·rw [yFa] at hu;simpa using hu
    ·cases hu) (fun u hu=>h1 u (Qs3 hu)) oA (by rw [hS,his];omega)
   rw [his] at h;rw [h,← hX1]
  have hic:i<=c:=by omega
  have hin:i+(n - j)<=n:=by omega
  have hci:¬ (c=i+(n - j)):=by omega
  have hci2:(i:Int)+((n - j:Nat):Int)<=(n:Int):=by omega
  clear hX1 hX2 hS
  go_enter Tryz.func175,Tryz.ntmps175
  go_wp2
  go_region_law (refine QE8 rfl _ _ 24 24 rfl _ _ (by simp [Act.eval,Act.put]) (by simp [Act.eval,Act.put]) (hrun _) ?_)
  go_wp2_with (refine Q58 _ rfl _ _ rfl _ rfl (hclr _ _) ?_)
  go_ret
  exact ⟨rfl,rfl⟩
 ·obtain rfl:n=j:=by omega
  have hX1c:X1=cur:=by rw [hX1];simp
  have hW:w.drew.setRow b X1=w.drew:=by rw [hX1c];exact setRow_self w.drew b cur _ fr hgd
  rw [hW] at hclr ⊢;simp only [ybc,y6a] at hclr ⊢;have hrun:∀ ty A cc,(Builtin.append_ #[24,24] ty #[.slice (some ⟨b,0,none⟩) i c,.slice A 0 cc]).run Tryz.prog w.drew = .ok (.slice (some ⟨b,0,none⟩) i c) w.drew:=fun ty A cc=>Qq9 (by kernel_rfl) hi0 _ _ _ _ _ oA
  have hic:i<=c:=by omega
  have hin:i<=n:=by omega
  have hci:¬ (c=i):=by omega
  have hci2:(i:Int)<=(n:Int):=by omega
  clear hX1 hX2 hS hX1c hW
  by_cases hcn:c=n
  ·subst hcn
   go_enter Tryz.func175,Tryz.ntmps175
   go_wp2
   go_region_law (refine QE8 rfl _ _ 24 24 rfl _ _ (by simp [Act.eval,Act.put]) (by simp [Act.eval,Act.put]) (hrun _ _ _) ?_)
   go_wp2_with (refine Q58 _ rfl _ _ rfl _ rfl (hclr _ _) ?_)
   go_ret
   exact ⟨rfl,rfl⟩
  ·go_enter Tryz.func175,Tryz.ntmps175
   go_wp2
   go_region_law (refine QE8 rfl _ _ 24 24 rfl _ _ (by simp [Act.eval,Act.put]) (by simp [Act.eval,Act.put]) (hrun _ _ _) ?_)
   go_wp2_with (refine Q58 _ rfl _ _ rfl _ rfl (hclr _ _) ?_)
   go_ret
   exact ⟨rfl,rfl⟩
set_option maxHeartbeats 4000000 in
set_option maxRecDepth 100000 in
theorem insert_shift_w (b n c i vb voff m vc:Nat) (w:World) (hi:i<n) (hm:0<m) (hroom:n+m<=c) (hn63:n+m<=9223372036854775807) (hvb:vb ≠ b) (cur:Array Value) (fr:Nat × Nat) (hg:w.heap[b]? = some (.cells cur 49 fr)) (hfr:frFree fr (cur.size+1)) (hsz:c*5<=cur.size) (h1:∀ u ∈ cur.toList,u.oneCell'=true)
  (us:List Value) (hus:us.length=m*5) (hvs:∀ j v,us[j]? = some v->w.cell? ⟨vb,voff+j,none⟩=some v) (h1v:∀ v ∈ us,v.oneCell'=true)
  (Y1 Y2:Array Value) (I0:TypeInfo) (hi0:Tryz.prog.info? 49 = some I0) (his:I0.size=5)
  (hY1:Y1=(cur.toList.take ((i+m)*5)++(cur.toList.drop (i*5)).take ((n - i)*5)++cur.toList.drop ((i+m)*5+((cur.toList.drop (i*5)).take ((n - i)*5)).length)).toArray)
  (hY2:Y2=(Y1.toList.take (i*5)++us++Y1.toList.drop (i*5+us.length)).toArray) :
  Calls Tryz.prog 40 #[.slice (some ⟨b,0,none⟩) n c,.int .i64 i,.slice (some ⟨vb,voff,none⟩) m vc] w fun e w' =>
   e = .returned (.slice (some ⟨b,0,none⟩) (n+m) c)∧w'=(w.drew.setRow b Y1).setRow b Y2:=by
 have hS:((cur.toList.drop (i*5)).take ((n - i)*5)).length=(n - i)*5:=by
  simp only [yta,ywa,yIa];omega
 have hY1s:Y1.size=cur.size:=by
  rw [hY1];simp only [ymb,ypa,yta,ywa,yIa];omega
 have hgd:w.drew.heap[b]? = some (.cells cur 49 fr):=hg;have hg1:(w.drew.setRow b Y1).heap[b]? = some (.cells Y1 49 fr):=setRow_heap w.drew b cur Y1 _ fr hgd;have hsz5:(Tryz.prog.info? 49).map (·.size)=some 5:=by rw [hi0];simp [his]
 have hcv0:w.cell? ⟨vb,voff,none⟩=some us[0]:=hvs 0 _ (yaa oA);have hov:∀ lb cb,(callFunc 100 #[.slice (some ⟨vb,voff,none⟩) m vc,.slice (some ⟨b,(i+m)*5,none⟩) lb cb]).run Tryz.prog w = .ok (.value (.bool false)) w:=fun lb cb=>by
  rw [run_callFunc_extern Tryz.func100 (by kernel_rfl) (by kernel_rfl) (by kernel_rfl) (e:=Extern.SlicesOverlaps.overlaps #[24,24] #[4]) (by kernel_rfl),
   run_overlaps_k w 24 4 49 (by kernel_rfl) I0 hi0 ⟨vb,voff,none⟩ ⟨b,(i+m)*5,none⟩ m vc lb cb hvb hcv0 hg hfr oA (by show (i+m)*5<cur.size;omega)]
  rfl
 have hcp1:∀ ty dc sc,(Builtin.copy_ #[24,24] ty #[.slice (some ⟨b,(i+m)*5,none⟩) (n+m - (i+m)) dc,.slice (some ⟨b,i*5,none⟩) (n+m - i) sc]).run Tryz.prog w.drew = .ok (goInt ((n - i:Nat):Int)) (w.drew.setRow b Y1):=fun ty dc sc=>by
  have h:=QSb (P:=Tryz.prog) w.drew 24 24 ty 49 5 b ((i+m)*5) (n+m - (i+m)) dc ⟨b,i*5,none⟩ (n+m - i) sc (n - i) cur _ fr ((cur.toList.drop (i*5)).take ((n - i)*5)) (by kernel_rfl) hsz5 hgd (hfr.le oA) (by simp only [Nat.min_def];split <;> omega) hS (fun q u hu=>by
    rw [Fw.add_lit];simp only [World.cell?,hgd];rw [yQa] at hu;split at hu
    ·rw [yFa] at hu;simpa using hu
    ·cases hu) (by rw [hS];omega) (fun u hu=>h1 u (Qs3 hu))
  rw [h,← hY1]
 have hcp2:∀ ty dc,(Builtin.copy_ #[24,24] ty #[.slice (some ⟨b,i*5,none⟩) (n+m - i) dc,.slice (some ⟨vb,voff,none⟩) m vc]).run Tryz.prog (w.drew.setRow b Y1) = .ok (goInt (m:Int)) ((w.drew.setRow b Y1).setRow b Y2):=fun ty dc=>by
  have h:=QSb (P:=Tryz.prog) (w.drew.setRow b Y1) 24 24 ty 49 5 b (i*5) (n+m - i) dc ⟨vb,voff,none⟩ m vc m Y1 _ fr us (by kernel_rfl) hsz5 hg1 (hfr.le oA) (by simp only [Nat.min_def];split <;> omega) hus (fun q u hu=>by
    rw [Fw.add_lit,cell_setRow_other w.drew _ _ _ hvb]
    exact hvs q u hu) (by rw [hus,hY1s];omega) h1v
  rw [h,← hY2]
 have hz1:¬ ((m:Int)=0):=by omega
 have hz2:¬ ((i:Int)=(n:Int)):=by omega
 have hw1:IntKind.i64.wrap ((i:Int)+(m:Int))=(i:Int)+(m:Int):=by rw [IntKind.wrap_i64];omega
 have hb1:(0:Int)<=(i:Int)+(m:Int):=by omega
 have hin:i<=n:=by omega
 have htn:((i:Int)+(m:Int)).toNat=i+m:=by omega
 have hb2:¬ (c=i+m):=by omega
 have hb3:(i:Int)<=(n:Int)+(m:Int):=by omega
 have hb4:¬ (c=i):=by omega
 clear hY1 hY2 hS
 go_enter Tryz.func40,Tryz.ntmps40
 go_wp2_with (simp only [hov])
 go_region_law (refine Qec rfl _ _ 24 24 rfl _ _ (by simp [Act.eval,Act.put]) (by simp [Act.eval,Act.put]) (hcp1 _ _ _) ?_)
 go_wp2_with (refine QTa _ rfl _ _ 24 24 rfl _ _ rfl rfl (hcp2 _ _) ?_)
 go_ret
 exact ⟨rfl,rfl⟩
set_option maxHeartbeats 4000000 in
set_option maxRecDepth 100000 in
theorem insert_grow_w (b n c i vb voff m vc:Nat) (w:World) (hi:i<n) (hm:0<m) (hnc:n<=c) (hroom:c<n+m) (hbig:(n+m)*40<=70368744177664) (cur:Array Value) (fr:Nat × Nat) (hg:w.heap[b]? = some (.cells cur 49 fr)) (hsz:c*5<=cur.size) (h1:∀ u ∈ cur.toList,u.oneCell'=true)
  (us:List Value) (hus:us.length=m*5) (hvs:∀ j v,us[j]? = some v->w.cell? ⟨vb,voff+j,none⟩=some v) (h1v:∀ v ∈ us,v.oneCell'=true)
  (R0 R1 R2:Array Value) (I0:TypeInfo) (z:Value) (hi0:Tryz.prog.info? 49 = some I0) (his:I0.size=5) (hib:I0.bytes=40) (hz:I0.zero=some z) (hzs:z.cells.size=5)
  (hR0:R0=(cur.toList.take (i*5)).toArray++Builtin.zeroCells z.cells (n+m - i)++Builtin.zeroCells z.cells (grownCap w (n+m) c 49 - (n+m)))
  (hR1:R1=(R0.toList.take (i*5)++us++R0.toList.drop (i*5+us.length)).toArray)
  (hR2:R2=(R1.toList.take ((i+m)*5)++(cur.toList.drop (i*5)).take ((n - i)*5)++R1.toList.drop ((i+m)*5+((cur.toList.drop (i*5)).take ((n - i)*5)).length)).toArray) :
  Calls Tryz.prog 40 #[.slice (some ⟨b,0,none⟩) n c,.int .i64 i,.slice (some ⟨vb,voff,none⟩) m vc] w fun e w' =>
   e = .returned (.slice (some ⟨w.heap.size,0,none⟩) (n+m) (grownCap w (n+m) c 49))∧w'=(((w.alloc (.cells R0 49)).drew.setRow w.heap.size R1).drew).setRow w.heap.size R2:=by
 have hS:((cur.toList.drop (i*5)).take ((n - i)*5)).length=(n - i)*5:=by
  simp only [yta,ywa,yIa];omega
 have hik:i+(n+m - i)=n+m:=by omega
 have hkk:(n:Int)+(m:Int) - (i:Int)=((n+m - i:Nat):Int):=by omega
 have hold:(Builtin.firstCells I0.size i (.slice (some ⟨b,0,none⟩) i c)).run Tryz.prog w.drew = .ok (cur.toList.take (i*5)).toArray w.drew:=by
  rw [his]
  exact run_firstCells_some w.drew 5 i ⟨b,0,none⟩ i c (cur.toList.take (i*5)) (by rw [yta,yIa];omega) (fun q u hu=>by
   rw [Fw.add_lit];have hgd:w.drew.heap[b]? = some (.cells cur 49 fr):=hg;simp only [World.cell?,hgd];rw [yQa] at hu;split at hu
   ·simpa using hu
   ·cases hu)
 have hrz:∀ ty,(Builtin.append_ #[24,3] ty #[.slice (some ⟨b,0,none⟩) i c,.int .i64 ((n:Int)+(m:Int) - (i:Int))]).run Tryz.prog w =
   .ok (.slice (some ⟨w.heap.size,0,none⟩) (n+m) (grownCap w (n+m) c 49)) (w.drew.alloc (.cells R0 49)):=fun ty=>by
  have h:=Lib.run_append_grow_zeros (P:=Tryz.prog) w 24 3 ty 49 I0 z .i64 .i64 (by kernel_rfl) (by kernel_rfl) hi0 hz (some ⟨b,0,none⟩) i c (cur.toList.take (i*5)) hold (n+m - i) oA oA oA oA (by rw [hib];omega) (by rw [hib,hik];exact growslice_fits hroom oA);rw [hik] at h;rw [hkk,h,← hR0]
 obtain ⟨G,hG⟩:∃ G,G=grownCap w (n+m) c 49:=⟨_,rfl⟩;have hGn:n+m<=G:=by rw [hG];exact grownCap_ge w _ _ _
 have hG63:G<=9223372036854775807:=by
  have:=grownCap_le_maxLen w (n+m) c 49 (by unfold maxLen;omega);rw [← hG] at this;unfold maxLen at this;omega
 rw [← hG] at hrz hR0 ⊢;have hR0s:R0.size=G*5:=by
  rw [hR0];simp only [Array.size_append,ymb,yta,yIa,size_zeroCells,hzs];omega
 have hR1s:R1.size=G*5:=by
  rw [hR1];simp only [ymb,ypa,yta,ywa,yIa];omega
 have hbw:b<w.heap.size:=(Array.getElem?_eq_some_iff.1 hg).1;have hvw:vb<w.heap.size:=block_lt_of_cell (hvs 0 _ (yaa oA));have hfz:frFree (0,0) (G*5):=fun _ _=>by simp
 have hcpA:∀ (W:World),W.heap=(w.drew.alloc (.cells R0 49)).heap -> ∀ ty dc,(Builtin.copy_ #[24,24] ty #[.slice (some ⟨w.heap.size,i*5,none⟩) (n+m - i) dc,.slice (some ⟨vb,voff,none⟩) m vc]).run Tryz.prog W = .ok (goInt (m:Int)) (W.setRow w.heap.size R1):=fun W hW ty dc=>by
  have hgW:W.heap[w.heap.size]? = some (.cells R0 49 (0,0)):=by rw [hW];exact heap_alloc_new w.drew _
  have h:=QSb (P:=Tryz.prog) W 24 24 ty 49 5 w.heap.size (i*5) (n+m - i) dc ⟨vb,voff,none⟩ m vc m R0 _ (0,0) us (by kernel_rfl) (by rw [hi0];simp [his]) hgW (hfz.le oA) (by simp only [Nat.min_def];split <;> omega) hus (fun q u hu=>by
    rw [Fw.add_lit];have e1:W.heap[vb]? = w.heap[vb]?:=by rw [hW];exact Below.heap_alloc w.drew _ _ hvw
    rw [← hvs q u hu]
    simp only [World.cell?,e1]) (by rw [hus];omega) h1v
  rw [h,← hR1]
 have hcpB:∀ (W:World),W.heap=((w.drew.alloc (.cells R0 49)).setRow w.heap.size R1).heap -> ∀ ty dc sc,(Builtin.copy_ #[24,24] ty #[.slice (some ⟨w.heap.size,(i+m)*5,none⟩) (n+m - (i+m)) dc,.slice (some ⟨b,i*5,none⟩) (n - i) sc]).run Tryz.prog W = .ok (goInt ((n - i:Nat):Int)) (W.setRow w.heap.size R2):=fun W hW ty dc sc=>by
  have hgW:W.heap[w.heap.size]? = some (.cells R1 49 (0,0)):=by rw [hW];exact setRow_heap _ _ R0 R1 _ (0,0) (heap_alloc_new w.drew _)
  have h:=QSb (P:=Tryz.prog) W 24 24 ty 49 5 w.heap.size ((i+m)*5) (n+m - (i+m)) dc ⟨b,i*5,none⟩ (n - i) sc (n - i) R1 _ (0,0) ((cur.toList.drop (i*5)).take ((n - i)*5)) (by kernel_rfl) (by rw [hi0];simp [his]) hgW (hfz.le oA) (by simp only [Nat.min_def];split <;> omega) hS (fun q u hu=>by
    rw [Fw.add_lit];have e1:W.heap[b]? = w.heap[b]?:=by rw [hW,setRow_other _ _ _ _ oA];exact Below.heap_alloc w.drew _ _ hbw
    simp only [World.cell?,e1,hg];rw [yQa] at hu;split at hu
    ·rw [yFa] at hu;simpa using hu
    ·cases hu) (by rw [hS];omega) (fun u hu=>h1 u (Qs3 hu))
  rw [h,← hR2]
 have hz1:¬ ((m:Int)=0):=by omega
 have hz2:¬ ((i:Int)=(n:Int)):=by omega
 have hz3:(c:Int)<(n:Int)+(m:Int):=by omega
 have hw1:IntKind.i64.wrap ((i:Int)+(m:Int))=(i:Int)+(m:Int):=by rw [IntKind.wrap_i64];omega
 have hb1:(0:Int)<=(i:Int)+(m:Int):=by omega
 have hin:i<=n:=by omega
 have htn:((i:Int)+(m:Int)).toNat=i+m:=by omega
 have hb3:(i:Int)<=(n:Int):=by omega
 have hGi:¬ (G=i):=by omega
 have hGim:¬ (G=i+m):=by omega
 have hci:¬ (c=i):=by omega
 have mixed:Tryz.prog.follows .mixedOrders=true:=by kernel_rfl
 have hF1:((w.alloc (.cells R0 49)).drew).heap=(w.drew.alloc (.cells R0 49)).heap:=rfl;have hF2:(((w.alloc (.cells R0 49)).drew.setRow w.heap.size R1).drew).heap=((w.drew.alloc (.cells R0 49)).setRow w.heap.size R1).heap:=rfl;clear hkk hik hold hR0 hR1 hR2 hG hS hR0s hR1s
 go_enter Tryz.func40,Tryz.ntmps40
 go_wp2_with (first
  | (at_builtin;refine Lib.wpList_append_run _ rfl _ _ _ _ rfl _ _ rfl rfl _ _ (hrz _) ?_)
  | (refine QTa _ rfl _ _ 24 24 rfl _ _ rfl rfl (hcpA _ hF1 _ _) ?_))
 go_region_law (refine Qec rfl _ _ 24 24 rfl (.slice (some ⟨w.heap.size,(i+m)*5,none⟩) (n+m - (i+m)) (G - (i+m))) (.slice (some ⟨b,i*5,none⟩) (n - i) (c - i)) (by simp [Act.eval,Act.put]) (by simp [Act.eval,Act.put]) (hcpB _ hF2 3 (G - (i+m)) (c - i)) ?_)
 go_wp2
 go_ret
 exact ⟨rfl,rfl⟩
end Go.Proofs.YtackngeeehiegaaGreatDoor
