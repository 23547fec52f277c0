/-
  A round's body in the frame of a range over a function: what the plain walk shows of a region holds there too. Program-independent.
  The data of the program as Lean structures, and their cells. Definitions; no condition.
  Small facts on bytes and runes that contracts lean on. No condition beyond those that stand in each.
  strings.Builder: what copyCheck and String do, in the world. No condition but that the builder lies there.
  strings.Builder: contracts over objects. No condition beyond those that stand in each.
  strings.Builder: String. No condition beyond those that stand in each.
  shape.sizes: the iterator's contract: it yields the sizes from the greatest down. The bounds are those of a shape that may be.
  Small proofs that stand in many places, each once: theorems whose premise is proved by the tactic in their statement.
  Profiles as functions of the tick: what a row of steps says, canonical rows, and that two canonical rows that say the same are the same. Plain facts; conditions stand in each.
  The earliest room in a profile, told of a function of the tick: what a walk that moves the tick behind each step that has too little comes to. Plain facts; conditions stand in each.
  The order of ranked things: whoever stands ahead; to be put in that order by a comparison is to be put in one by one. Program-independent.
  A row of structs that a call owns, as the kit's sort sees it, and back. Program-independent.
  Where the library's sort by a function lies in this program: its functions' and types' numbers. No condition.
-/
import Derived.Test.YtcbolcknapeneaaGreatDoorH6
import Derived.RangeFuncFrom
import Derived.RangeFuncCalls
import Derived.RangeFuncLeaves
import Derived.TacticsIn
import Derived.Test.YtcbolcknapeneaaGreatDoorProg
import Derived.Laws.RangeString
import Derived.Laws.RangeAny
import Derived.Lib.Strings
import Derived.Lib.Slices
import Derived.Lib.Walk
import Derived.Lib.Bytealg
import Derived.Shelf.Strings.BuilderX
import Derived.Shelf.RegionOpenPlain
import Derived.Lib.Builder
import Derived.Lib.AppendStr
import Derived.Lib.UnsafeStr
import Derived.Lib.MakeNoZero
import Derived.WalkKit
import Derived.Laws.Externs
import Derived.Laws.IdiomCopy
import Derived.Laws.BitsLemmas
import Derived.KernelRfl
import Derived.RangeFuncBound
import Derived.Shelf.Abstract
import Derived.Shelf.RegionOpen
import Derived.OwnWalkIn
import Derived.TacticsInMore
import Derived.LoopNIn
import Derived.LoopIn
import Derived.Shelf.SlSortCmp.NoneTotal
import Derived.Shelf.GgSortFunc.InsertionK
namespace Go.Fw
set_option linter.unusedSimpArgs false
set_option linter.unusedVariables false
open Go.RowKit
theorem QY9 {P:Program} {l n:Nat} {ops:Array Oper} {Q:Exit->Act->World->Prop} (hQ:¬ LetsOut Q) (hop:∀ o ∈ ops.toList,∀ c,o.op ≠ .defer c):∀ (is:List Nat) (a:Act) (w:World),
  wpOps P ops Q is a w->wpOpsIn (Fence.wide.inRound l) n P ops Q is a w
 | [],a,w,h=>h
 | i :: rest,a,w,h=>by
  simp only [wpOps] at h
  simp only [wpOpsIn]
  cases ho:ops[i]? with
  | none =>
   simp only [ho] at h ⊢
   exact QY9 hQ hop rest a w h
  | some o =>
   simp only [ho] at h ⊢
   by_cases hw:Region.wanted o (yielded ops a.tmps)=true
   ·simp only [hw,if_true] at h ⊢
    rcases h with h|⟨_,h⟩
    ·refine ⟨fun _ _=>trivial,?_⟩
     have hm:o ∈ ops.toList:=List.mem_of_getElem? (by simpa using ho)
     rw [Fence.inRound_round,Oper.semAt_some l _ o (hop o hm)]
     unfold Oper.wp at h
     have ih:=fun a w=>QY9 (P:=P) (l:=l) (n:=n) hQ hop rest a w
     revert h
     generalize (execOp a.eval o).run P w=r
     intro h
     cases r with
     | ok nx w' =>
      cases nx with
      | value v=>exact ih _ _ h
      | skip=>exact ih _ _ h
      | defer d=>exact ih _ _ h
      | enter f args =>
       refine ⟨fun hd=>by simp [Fence.inRound,Fence.wide] at hd,?_⟩
       refine CallsIn.inRound l (callsIn_wide.2 ?_)
       refine Calls.mono h ?_
       intro e w'' hr
       cases e with
       | returned v=>exact ih _ _ hr
       | panicked chain=>exact hr
       | outgrown=>exact hr
      | row row args =>
       refine ⟨fun hd=>by simp [Fence.inRound,Fence.wide] at hd,fun c cs _=>?_⟩
       obtain ⟨v,w'',hr,hs⟩:=h c cs
       exact ⟨v,w'',ih _ _ hr,stepsIn_wide.2 hs⟩
      | _=>exact h.elim
     | halt r w' =>
      cases r with
      | panic v=>exact h
      | _=>exact h.elim
    ·exact absurd h hQ
   ·simp only [hw,Bool.false_eq_true,if_false] at h ⊢
    exact ⟨fun _ _=>trivial,QY9 hQ hop rest _ w h⟩
theorem MemSat.cells {K:Ctx} {s:Objs} {w:World} (h:MemSat K s w) {o:Nat} {q:Nat × AObj} (hq:s[o]? = some q) (hl:q.2.live=true) (hC:K.C o q.1 ≠ 0) (hr:∃ t k es,q.2 = .row t k es):∃ c t fr,w.heap[K.ρ o q.1]? = some (.cells c t fr):=by
 obtain ⟨ver,x⟩:=q
 obtain ⟨t,k,es,rfl⟩:=hr
 obtain ⟨_,_,h3⟩:=h.obj o _ hq
 obtain ⟨c,⟨fr,_,hc⟩,_⟩:=h3 hC
 exact ⟨c,t,fr,hc⟩
theorem QLa {w:World} {b i:Nat} {u:Value} (h:w.cell? ⟨b,i,none⟩=some u):∃ c t fr,w.heap[b]? = some (.cells c t fr):=by
 unfold World.cell? at h
 split at h
 ·rename_i c t fr e
  exact ⟨c,t,fr,e⟩
 ·simp at h
theorem MemSat.turned {K:Ctx} {s:Objs} {W W':World} {row:Option Nat} {B0:Nat} (h:MemSat K s W) (hrows:∀ q ∈ s,q.2.live=true -> ∃ t k es,q.2 = .row t k es) (hB:∀ b x,K.B b=some x->b<B0)
  (hg:W.grownBy W' row) (hr:∀ r,row=some r->B0<=r ∧ ∃ o:Obj,W.heap[r]? = some o∧o.isCells=false):MemSat K s W':=by
 have same:∀ (b:Nat) (c:Array Value) (t:TypeId) (fr:Nat × Nat),W.heap[b]? = some (.cells c t fr)->W'.heap[b]? = W.heap[b]?:=by
  intro b c t fr hb
  refine hg.block b (Array.getElem?_eq_some_iff.1 hb).1 fun e=>?_
  obtain ⟨_,o,ho,hn⟩:=hr b e.symm
  rw [hb] at ho
  cases ho
  simp [Obj.isCells] at hn
 have own:∀ (o:Nat) (p:Nat × AObj),s[o]? = some p->p.2.live=true->K.C o p.1 ≠ 0->W'.heap[K.ρ o p.1]? = W.heap[K.ρ o p.1]?:=by
  intro o p hp hl hC
  obtain ⟨c,t,fr,hc⟩:=h.cells hp hl hC (hrows p (List.mem_of_getElem? hp) hl)
  exact same _ _ _ _ hc
 refine ⟨h.len,h.ver,fun o p hp=>ObjSat.mono (Ctx.le.refl K) (h.olt hp) (by rw [h.ver o p hp];exact Nat.le_refl _) (h.obj o p hp) (fun hl hC=>own o p hp hl hC),fun o p hp hl hC=>?_,h.dis,fun b i u hu=>?_,?_⟩
 ·obtain ⟨h1,h2,h3⟩:=h.lo o p hp hl hC
  exact ⟨h1,Nat.lt_of_lt_of_le h2 hg.size,h3⟩
 ·obtain ⟨h1,h2⟩:=h.mem b i u hu
  obtain ⟨c,t,fr,hc⟩:=QLa h1
  exact ⟨(World.cell?_of_block (a:=⟨b,i,none⟩) (same _ _ _ _ hc)).trans h1,h2⟩
 ·refine h.below.step rfl rfl hg.os hg.tape hg.output hg.size fun b x hx=>hg.block b (h.below.lt hx) fun e=>?_
  have:=(hr b e.symm).1
  have:=hB b x hx
  omega
def Qe6 (B:Nat->Option Obj) (W:World) (b:Nat):Option Obj :=
 match B b with
 | some x=>some x
 | none=>match W.heap[b]? with|some (.cells ..)=>none|some x=>some x|none=>none
theorem Qrb {B:Nat->Option Obj} {W:World} {b:Nat} {x:Obj} (h:B b=some x):Qe6 B W b=some x:=by simp only [Qe6,h]
theorem roundB_cells {B:Nat->Option Obj} {W:World} {b:Nat} {c:Array Value} {t:TypeId} {fr:Nat × Nat} (h:B b=none) (hb:W.heap[b]? = some (.cells c t fr)):Qe6 B W b=none:=by simp only [Qe6,h,hb]
theorem roundB_heap {B:Nat->Option Obj} {W:World} {b:Nat} {x:Obj} (h:Qe6 B W b=some x):B b=some x∨(W.heap[b]? = some x∧x.isCells=false):=by
 unfold Qe6 at h
 split at h
 ·rename_i y hy
  simp only [Option.some.injEq] at h
  subst h
  exact .inl hy
 ·right
  split at h
  ·cases h
  ·rename_i y hne hy
   simp only [Option.some.injEq] at h
   subst h
   refine ⟨hy,?_⟩
   cases y with
   | cells c t fr=>exact (hne _ _ _ rfl).elim
   | _=>rfl
  ·cases h
theorem roundB_same {B:Nat->Option Obj} {W W':World} (hp:∀ b x,Qe6 B W b=some x->W'.heap[b]? = some x) (hB:∀ b x,B b=some x->W.heap[b]? = some x) (hsz:W.heap.size<=W'.heap.size):KeepsOthers W W':=by
 refine ⟨hsz,fun k o hk hn=>hp k o ?_⟩
 unfold Qe6
 split
 ·rename_i x hx
  rw [hB k x hx] at hk
  simpa using hk
 ·rw [hk]
  cases o with
  | cells c t fr=>simp [Obj.isCells] at hn
  | _=>rfl
section
variable {P:Program} {nt n0:Nat}
def RoundI (nt:Nat) (K0 K:Ctx) (slots:List (Nat × AVal)) (objs:Objs) (tmps:Array Value) (W:World):Prop :=
 ∃ K1:Ctx,K0.le K1∧K1.B=K.B∧Sat nt K1 ⟨slots,objs⟩ { tmps:=tmps,defers:=[] } W
theorem rangeW_region {α:Type} {g:Operand} {p q aid bid rid:Nat} {oa:Oper} {ops:Array Oper} {s:St} (e:α->Value) (S:List α->Prop) (N:Nat) (so:List α->Objs) (h0:so []=s.objs) (hp:p<nt) (hq:q<nt)
  (hoa:oa.op = .assign (.tmp p)) (hod:oa.dst=some q) (hog:oa.guard=none) (hfree:QL0 s.slots p = .any)
  (hrows:∀ xs q,q ∈ so xs->q.2.live=true -> ∃ t k es,q.2 = .row t k es)
  (hit:∀ K a w,Sat nt K s a w -> ∃ (gf:Nat) (lb:Array Value) (pc:Addr) (u:Value),a.eval g = .func (.func gf) #[] lb∧(∀ args w,(callFunc gf args).run P w = .ok (.enter gf args) w)∧pc.block<w.heap.size ∧
   (∀ K1 xs W,Sat nt K1 ⟨s.slots,so xs⟩ { tmps:=a.tmps,defers:=[] } W->W.cell? pc=some u) ∧
   SeqStopsK Fence.wide 2 P gf lb (fun x=>#[e x]) (fun W W'=>W.cell? pc=some u->W'.cell? pc=some u) S (fun _=>True) N w)
  (hdefer:∀ o ∈ ops.toList,∀ c,o.op ≠ .defer c)
  (hbody:∀ pre x,pre.length<N->QK6 P nt ops ((q,.lit (e x)) :: s.slots) false ops.toList (Qga ⟨(q,.lit (e x)) :: s.slots,so pre⟩) (fun rs=>Weaker nt n0 ⟨s.slots,rs.objs⟩ ⟨s.slots,so (pre++[x])⟩)) :
  Q1a P nt n0 (.rangeFunc g #[p] (.region aid #[oa] false) (.block bid (.region rid ops false))) (fun e t=>e = .normal ∧ ∃ xs,S xs∧t=⟨s.slots,so xs⟩) s:=by
 intro K0 K a w hn hle hs
 obtain ⟨gf,lb,pc,u,hg,eg,hpc,hkeep,hseq⟩:=hit K a w hs
 have hBlt:∀ b x,K.B b=some x->b<w.heap.size:=fun b x hx=>hs.mem.below.lt hx
 refine (wpIn_wide (n:=3)).1 (wpIn_rangeFunc_ownF (F:=Fence.wide) rfl (by decide) hg trivial eg hseq (fun h k q=>k (h q)) ?_ (Below.refl _ w) (fun _=>rfl)
  (fun xs W=>RoundI nt K0 K s.slots (so xs) a.tmps W) (fun _ _ _=>False) ?_ (fun _ _ _ _ _ h=>h.elim) ?_ (fun x=>{ tmps:=(a.tmps.setIfInBounds p (e x)).setIfInBounds q (e x),defers:=[] }) ?_ ?_ ?_ (fun _ _ _ _ _ _ h=>h.elim))
 ·intro W l o o' hl ho _ _ hc
  have hne:pc.block ≠ l:=by omega
  exact (World.cell?_of_block (World.putObj_heap_other hne)).trans hc
 ·rintro xs W W' row ⟨K1,hle1,hB1,hs1⟩ hg' hr
  exact ⟨K1,hle1,hB1,hs1.mem.turned (hrows xs) (fun b x hx=>hBlt b x (by rw [← hB1];exact hx)) hg' hr,hs1.slot,hs1.size,Marks.nil⟩
 ·exact ⟨K,hle,rfl,by rw [h0];exact hs.mem,hs.slot,hs.size,Marks.nil⟩
 ·intro l x W Kq hK
  refine wpIn_region ?_
  have hz:(#[p].zip #[e x]) = #[(p,e x)]:=by simp
  have hsz:a.tmps.size=nt:=hs.size
  have hv:(a.tmps.setIfInBounds p (e x)).getD p undef=e x:=by
   rw [Array.getD_eq_getD_getElem?,Array.getElem?_setIfInBounds_self_of_lt (by omega)]
   rfl
  simp only [hz]
  show wpOpsIn (Fence.wide.inRound l) _ P #[oa] _ [0] _ _
  simp only [wpOpsIn,List.getElem?_toArray,List.getElem?_cons_zero,Region.wanted,hog,if_true]
  refine ⟨fun f hf=>by simp [Oper.about,hoa] at hf,?_⟩
  rw [Oper.semAt_eq _ _ _ (by simp [hoa])]
  unfold execOp
  rw [hoa]
  show Kq (Act.put _ oa.dst _) W
  rw [hod]
  show Kq { tmps:=(a.tmps.setIfInBounds p (e x)).setIfInBounds q ((a.tmps.setIfInBounds p (e x)).getD p undef),defers:=[] } W
  rw [hv]
  exact hK
 ·rintro l pre x W ⟨K1,hle1,hB1,hs1⟩ hlen
  have hBW:∀ b y,K.B b=some y->W.heap[b]? = some y:=fun b y hy=>hs1.mem.below.block b y (by rw [hB1];exact hy)
  have hm2:MemSat { K1 with B:=Qe6 K.B W,w0:=W } (so pre) W:=by
   refine hs1.mem.with _ W (fun o q hq hl hC=>?_) ⟨rfl,rfl,rfl,Nat.le_refl _,fun b y hy=>?_⟩
   ·obtain ⟨c,t,fr,hc⟩:=hs1.mem.cells hq hl hC (hrows pre q (List.mem_of_getElem? hq) hl)
    refine roundB_cells ?_ hc
    rw [← hB1]
    exact (hs1.mem.lo o q hq hl hC).1
   ·rcases roundB_heap hy with h|h
    ·exact hBW b y h
    ·exact h.1
  obtain ⟨Kb,hKb⟩:∃ Kb:Ctx,Kb={ K0 with B:=Qe6 K.B W,w0:=W,M:=fun b i=>match Qe6 K.B W b with|some _=>K1.M b i|none=>K0.M b i }:=⟨_,rfl⟩
  have hKbM:∀ b i u,K0.M b i=some u->Kb.M b i=some u:=by
   intro b i u hu
   rw [hKb]
   show (match Qe6 K.B W b with|some _=>K1.M b i|none=>K0.M b i)=some u
   split
   ·exact hle1.M b i u hu
   ·exact hu
  have hKb0:∀ b i y,Qe6 K.B W b=some y->Kb.M b i=K1.M b i:=by
   intro b i y hy
   rw [hKb]
   show (match Qe6 K.B W b with|some _=>K1.M b i|none=>K0.M b i)=_
   rw [hy]
  have hleb:Kb.le { K1 with B:=Qe6 K.B W,w0:=W }:=by
   refine ⟨fun b i u hu=>?_,by rw [hKb];exact hle1.ρ,by rw [hKb];exact hle1.C,by rw [hKb];exact hle1.n,by rw [hKb];exact hle1.vs,by rw [hKb],by rw [hKb];exact fun _ _ h=>h,fun b i y hy=>?_⟩
   ·rw [hKb] at hu
    show K1.M b i=some u
    change (match Qe6 K.B W b with|some _=>K1.M b i|none=>K0.M b i)=some u at hu
    split at hu
    ·exact hu
    ·exact hle1.M b i u hu
   ·rw [hKb] at hy
    exact (hKb0 b i y hy).symm
  have hs2:Sat nt { K1 with B:=Qe6 K.B W,w0:=W } ⟨(q,.lit (e x)) :: s.slots,so pre⟩ { tmps:=(a.tmps.setIfInBounds p (e x)).setIfInBounds q (e x),defers:=[] } W:=by
   refine ⟨hm2,fun t=>?_,by have:=hs1.size;simpa using this,Marks.nil⟩
   show Rep _ (QL0 ((q,.lit (e x)) :: s.slots) t) _
   have hsz:a.tmps.size=nt:=hs1.size
   rw [Q12]
   by_cases ht:q=t
   ·subst ht
    rw [if_pos rfl]
    have:((a.tmps.setIfInBounds p (e x)).setIfInBounds q (e x)).getD q undef=e x:=by
     rw [Array.getD_eq_getD_getElem?,Array.getElem?_setIfInBounds_self_of_lt (by simp;omega)]
     rfl
    simp only [this]
    exact .lit _
   ·rw [if_neg ht]
    by_cases hpt:p=t
    ·subst hpt
     rw [hfree]
     exact .any _
    ·have:((a.tmps.setIfInBounds p (e x)).setIfInBounds q (e x)).getD t undef=a.tmps.getD t undef:=by
      rw [Array.getD_eq_getD_getElem?,Array.getD_eq_getD_getElem?,Array.getElem?_setIfInBounds_ne ht,Array.getElem?_setIfInBounds_ne hpt]
     simp only [this]
     exact (hs1.slot t).monoR (QX3 K1 _ W)
  refine wpIn_block (wpIn_region ?_)
  refine QY9 ?_ hdefer _ _ _ ?_
  ·rintro ⟨a',w',h⟩
   exact h
  rw [List.range_eq_range']
  refine QO7 (K0:={ K1 with B:=Qe6 K.B W,w0:=W }) (Kt:=fun rs=>Weaker nt n0 ⟨s.slots,rs.objs⟩ ⟨s.slots,so (pre++[x])⟩) ?_ ops.size 0 (by omega) _ _ _ _ (.refl _) hs2.start (by simpa using hbody pre x hlen)
  intro K2 rs a' w' hle2 hr hk
  have hs3:Sat nt K2 ⟨s.slots,rs.objs⟩ { tmps:=a.tmps,defers:=[] } w':=⟨hr.mem,fun t=>((hs1.slot t).monoR (QX3 K1 _ W)).mono hle2,hs1.size,Marks.nil⟩
  obtain ⟨K3,hle3,hs4⟩:=hk Kb K2 _ w' (by rw [hKb];exact hn) (hleb.trans hle2) hs3
  have hblock:∀ b y,Qe6 K.B W b=some y->w'.heap[b]? = some y:=fun b y hy=>hs4.mem.below.block b y (hle3.B b y (by rw [hKb];exact hy))
  have hsz:W.heap.size<=w'.heap.size:=by have:=hs4.mem.below.size;rw [hle3.w0,hKb] at this;exact this
  have hmem:MemSat { K3 with B:=K.B,w0:=K0.w0 } (so (pre++[x])) w':=by
   refine hs4.mem.with K.B K0.w0 (fun o q hq hl hC=>?_) ?_
   ·cases hb:K.B (K3.ρ o q.1) with
    | none=>rfl
    | some y =>
     have:=hle3.B _ y (by rw [hKb];exact Qrb hb)
     rw [(hs4.mem.lo o q hq hl hC).1] at this
     cases this
   ·have q:=hs4.mem.below
    have q1:=hs1.mem.below
    have e0:=hle1.w0
    have e3:K3.w0=W:=by rw [hle3.w0,hKb]
    refine ⟨?_,?_,?_,?_,fun b y hy=>hblock b y (Qrb hy)⟩
    ·rw [q.os,e3,q1.os,e0]
    ·rw [q.tape,e3,q1.tape,e0]
    ·rw [q.output,e3,q1.output,e0]
    ·have:=q1.size;rw [e0] at this;exact Nat.le_trans this hsz
  have hI:RoundI nt K0 K s.slots (so (pre++[x])) a.tmps w':=by
   refine ⟨{ K3 with B:=K.B,w0:=K0.w0 },⟨fun b i u hu=>hle3.M b i u (hKbM b i u hu),by have:=hle3.ρ;rw [hKb] at this;exact this,by have:=hle3.C;rw [hKb] at this;exact this,by have:=hle3.n;rw [hKb] at this;exact this,by have:=hle3.vs;rw [hKb] at this;exact this,rfl,hle.B,fun b i y hy=>((hle3.M0 b i y (by rw [hKb];exact Qrb (hle.B b y hy))).trans (hKb0 b i y (Qrb (hle.B b y hy)))).trans (hle1.M0 b i y hy)⟩,rfl,hmem,fun t=>(hs4.slot t).monoR (QX3 K3 _ _),hs1.size,Marks.nil⟩
  refine ⟨roundB_same hblock hBW hsz,fun _=>?_,hI⟩
  obtain ⟨K4,_,_,hs5⟩:=hI
  exact hkeep K4 _ w' hs5
 ·rintro D xs W hD hS ⟨K1,hle1,hB1,hs1⟩ hk
  have hB2:∀ b y,K.B b=some y->(if b=D then some (Obj.deferred (some [])) else K.B b)=some y:=fun b y hy=>by
   have:=hBlt b y hy
   rw [if_neg (by omega)]
   exact hy
  refine ⟨.normal,{ K1 with B:=fun b=>if b=D then some (.deferred (some [])) else K.B b },⟨s.slots,so xs⟩,rfl,⟨hle1.M,hle1.ρ,hle1.C,hle1.n,hle1.vs,hle1.w0,fun b y hy=>hB2 b y (hle.B b y hy),hle1.M0⟩,⟨?_,fun t=>(hs1.slot t).monoR (QX3 K1 _ K1.w0),hs1.size,?_⟩,rfl,xs,hS,rfl⟩
  ·refine hs1.mem.with _ K1.w0 (fun o q hq hl hC=>?_) ?_
   ·obtain ⟨c,t,fr,hc⟩:=hs1.mem.cells hq hl hC (hrows xs q (List.mem_of_getElem? hq) hl)
    have hne:K1.ρ o q.1 ≠ D:=fun e=>by rw [e,hk] at hc;cases hc
    show (if K1.ρ o q.1=D then _ else _)=none
    rw [if_neg hne,← hB1]
    exact (hs1.mem.lo o q hq hl hC).1
   ·have q1:=hs1.mem.below
    refine ⟨q1.os,q1.tape,q1.output,q1.size,fun b y hy=>?_⟩
    by_cases hb:b=D
    ·subst hb
     simp only [if_true] at hy
     rw [hk]
     exact hy
    ·simp only [if_neg hb] at hy
     exact q1.block b y (by rw [hB1];exact hy)
  ·have hw0:K1.w0=K.w0:=hle1.w0.trans hle.w0.symm
   refine ⟨List.nodup_cons.2 ⟨fun hin=>?_,hs.defers.1⟩,fun d hd=>?_⟩
   ·obtain ⟨D',h1,h2,_⟩:=hs.defers.2 _ hin
    simp only [Deferred.mk.injEq,Target.collected.injEq,and_true] at h1
    subst h1
    have:=hBlt _ _ h2
    omega
   ·rcases List.mem_cons.1 hd with rfl|hd
    ·refine ⟨D,rfl,by simp,?_⟩
     show K1.w0.heap.size<=D
     rw [hw0]
     exact Nat.le_trans hs.mem.below.size hD
    ·obtain ⟨D',h1,h2,h3⟩:=hs.defers.2 d hd
     refine ⟨D',h1,hB2 _ _ h2,?_⟩
     show K1.w0.heap.size<=D'
     rw [hw0]
     exact h3
theorem range_next {α:Type} {g:Operand} {p q aid bid rid:Nat} {oa:Oper} {ops:Array Oper} {sl:List (Nat × AVal)} {o:Objs} {Q:CQ} (e:α->Value) (ys:List α) (so:List α->Objs) (h0:so []=o) (hp:p<nt) (hq:q<nt)
  (hoa:oa.op = .assign (.tmp p)) (hod:oa.dst=some q) (hog:oa.guard=none) (hfree:QL0 sl p = .any)
  (hrows:∀ xs q,q ∈ so xs->q.2.live=true -> ∃ t k es,q.2 = .row t k es)
  (hit:∀ K a w,Sat nt K ⟨sl,o⟩ a w -> ∃ (gf:Nat) (lb:Array Value) (pc:Addr) (u:Value),a.eval g = .func (.func gf) #[] lb∧(∀ args w,(callFunc gf args).run P w = .ok (.enter gf args) w)∧pc.block<w.heap.size ∧
   (∀ K1 xs W,Sat nt K1 ⟨sl,so xs⟩ { tmps:=a.tmps,defers:=[] } W->W.cell? pc=some u) ∧
   SeqStopsK Fence.wide 2 P gf lb (fun x=>#[e x]) (fun W W'=>W.cell? pc=some u->W'.cell? pc=some u) (fun zs=>zs=ys) (fun _=>True) ys.length w)
  (hdefer:(ops.toList.all fun o=>match o.op with | .defer _=>false|_=>true)=true)
  (hbody:∀ pre x,pre.length<ys.length->cops P nt ops ((q,.lit (e x)) :: sl) false ops.toList [] [] (so pre) (fun _ _ o=>Weaker nt n0 ⟨sl,o⟩ ⟨sl,so (pre++[x])⟩))
  (hQ:Q .normal sl (so ys)) :
  ∃ R:AExit->List (Nat × AVal)->Objs->Prop,Q1a P nt n0 (.rangeFunc g #[p] (.region aid #[oa] false) (.block bid (.region rid ops false))) (fun e t=>R e t.slots t.objs) ⟨sl,o⟩ ∧ ∀ e s o,R e s o->Q e s o:=by
 refine ⟨fun e s o=>e = .normal∧s=sl∧o=so ys,?_,?_⟩
 ·intro K0 K a w hn hle hs
  refine wp_mono (rangeW_region (P:=P) (nt:=nt) (n0:=n0) (s:=⟨sl,o⟩) e (fun zs=>zs=ys) ys.length so h0 hp hq hoa hod hog hfree hrows hit ?_ ?_ K0 K a w hn hle hs) ?_
  ·intro o ho c hc
   have:=List.all_eq_true.1 hdefer o ho
   rw [hc] at this
   cases this
  ·intro pre x hlen
   exact QM9 (hbody pre x hlen)
  ·rintro e' a' w' ⟨e1,K1,s1,he,hle1,hs1,rfl,xs,rfl,rfl⟩
   exact ⟨.normal,K1,_,he,hle1,hs1,rfl,rfl,rfl⟩
 ·rintro e s o ⟨rfl,rfl,rfl⟩
  exact hQ
theorem Qqe {n0:Nat} {r:AVal} {o:Objs}:Told n0 r o r o:=fun _ K _ _ _ hle hm hr=>⟨K,hle,hm,hr⟩
theorem box_cell {K:Ctx} {objs:Objs} {w:World} {o:Nat} {t:TypeId} {v:Value} (hm:MemSat K objs w) (ho:objs[o]? = some (0,.row t 1 [[.lit v]])):w.cell? ⟨K.ρ o 0,0,none⟩=some v∧K.ρ o 0<w.heap.size:=by
 obtain ⟨_,h2,h3⟩:=hm.obj o _ ho
 have hC:K.C o 0 ≠ 0:=by simp at h2;omega
 obtain ⟨c,⟨fr,_,hc⟩,_,_,hx⟩:=h3 hC
 obtain ⟨u,hu,hr⟩:=hx 0 0 [.lit v] (.lit v) rfl rfl
 have:=QN0 hr
 subst this
 exact ⟨by simpa [World.cell?,hc] using hu,(Array.getElem?_eq_some_iff.1 hc).1⟩
theorem Qge {K:Ctx} {f:FuncId} {o o' k k' i j i' j':Nat} {v:Value} (h:Rep K (.fn (.func f) [] [.ptr o 0 k i j,.ptr o' 0 k' i' j']) v):v = .func (.func f) #[] #[.pointer (some ⟨K.ρ o 0,i*k+j,none⟩),.pointer (some ⟨K.ρ o' 0,i'*k'+j',none⟩)]:=by
 cases h with
 | fn _ _ _ vs us hl hm h g =>
  match vs,us,hl,hm with
  | [],[u1,u2],_,_ =>
   have h1:=g 0 _ _ rfl rfl
   have h2:=g 1 _ _ rfl rfl
   cases h1 with
   | ptr=>cases h2 with
    | ptr=>rfl
end
end Go.Fw
namespace Go.Proofs.YtcbolcknapeneaaGreatDoor
set_option linter.unusedSimpArgs false
set_option linter.unusedVariables false
open Go.Fw
def ints (l:List Int):AVal:=listA 1 (fun n=>[I n]) 0 l
def runes (l:List Int):AVal:=listA 1 (fun n=>[J n]) 0 l
theorem runes_low (l:List Int) (n:Nat):Low n (runes l):=listA_low fun _=>rfl
structure Alt where
 nodes:Int
 wall:Int
 deriving DecidableEq
def Alt.zero:Alt:=⟨0,0⟩
def Alt.cells (x:Alt):List AVal:=[I x.nodes,I x.wall]
def Alt.a (x:Alt):AVal:=.agg x.cells
def altL (l:List Alt):AVal:=listA 2 Alt.cells .zero l
theorem Alt.lo {n:Nat} {a0 a1:Int}:LowL n [I a0,I a1]:=l1 (l1 (.nil))
theorem Alt.lowc (x:Alt) (n:Nat):LowL n x.cells:=Alt.lo
instance:LowC Alt.cells:=⟨fun n x=>x.lowc n⟩
theorem Alt.low (x:Alt) (n:Nat):Low n x.a:=.agg' (x.lowc n)
theorem Alt.lows (l:List Alt) (n:Nat):Low n (altL l):=Qb5 fun x=>x.lowc n
structure Shape where
 kind:Int
 alts:List Alt
 min:Int
 max:Int
 wall:Int
 deriving DecidableEq
def Shape.zero:Shape:=⟨0,[],0,0,0⟩
def Shape.cells (x:Shape):List AVal:=[I x.kind,altL x.alts,I x.min,I x.max,I x.wall]
def Shape.a (x:Shape):AVal:=.agg x.cells
theorem Shape.lo {n:Nat} {a0 a2 a3 a4:Int} {a1:List Alt}:LowL n [I a0,altL a1,I a2,I a3,I a4]:=l1 (lv (Alt.lows _ _) (l1 (l1 (l1 (.nil)))))
theorem Shape.lowc (x:Shape) (n:Nat):LowL n x.cells:=Shape.lo
instance:LowC Shape.cells:=⟨fun n x=>x.lowc n⟩
theorem Shape.low (x:Shape) (n:Nat):Low n x.a:=.agg' (x.lowc n)
def Shape.szN (N:Nat) (x:Shape):Prop:=x.alts.length<=N
abbrev Shape.sz (x:Shape):Prop:=x.szN 4294967296
abbrev Shape.szM (x:Shape):Prop:=x.szN 9223372036854775807
theorem Shape.szz (N:Nat):Shape.zero.szN N:=by simp [Shape.szN,Shape.zero,ByteArray.size]
structure Dep where
 how:Int
 job:Int
 deriving DecidableEq
def Dep.zero:Dep:=⟨0,0⟩
def Dep.cells (x:Dep):List AVal:=[I x.how,I x.job]
def Dep.a (x:Dep):AVal:=.agg x.cells
def depL (l:List Dep):AVal:=listA 2 Dep.cells .zero l
theorem Dep.lo {n:Nat} {a0 a1:Int}:LowL n [I a0,I a1]:=l1 (l1 (.nil))
theorem Dep.lowc (x:Dep) (n:Nat):LowL n x.cells:=Dep.lo
instance:LowC Dep.cells:=⟨fun n x=>x.lowc n⟩
theorem Dep.low (x:Dep) (n:Nat):Low n x.a:=.agg' (x.lowc n)
theorem Dep.lows (l:List Dep) (n:Nat):Low n (depL l):=Qb5 fun x=>x.lowc n
structure Token where
 kind:Int
 text:ByteArray
 num:Int
 at_:Int
 deriving DecidableEq
def Token.zero:Token:=⟨0,⟨#[]⟩,0,0⟩
def Token.cells (x:Token):List AVal:=[I x.kind,Sg x.text,I x.num,I x.at_]
def Token.a (x:Token):AVal:=.agg x.cells
def tokenL (l:List Token):AVal:=listA 4 Token.cells .zero l
theorem Token.lo {n:Nat} {a0 a2 a3:Int} {a1:ByteArray}:LowL n [I a0,Sg a1,I a2,I a3]:=l1 (l1 (l1 (l1 (.nil))))
theorem Token.lowc (x:Token) (n:Nat):LowL n x.cells:=Token.lo
instance:LowC Token.cells:=⟨fun n x=>x.lowc n⟩
theorem Token.low (x:Token) (n:Nat):Low n x.a:=.agg' (x.lowc n)
structure Cmd where
 kind:Int
 job:Int
 name:ByteArray
 user:ByteArray
 account:ByteArray
 shape:Shape
 prio:Int
 hasPrio:Bool
 time:Int
 hasTime:Bool
 after:List Dep
 node:Int
 nodes:Int
 from_:Int
 deriving DecidableEq
def Cmd.cells (x:Cmd):List AVal:=[I x.kind,I x.job,Sg x.name,Sg x.user,Sg x.account,I x.shape.kind,altL x.shape.alts,I x.shape.min,I x.shape.max,I x.shape.wall,I x.prio,Bo x.hasPrio,I x.time,Bo x.hasTime,depL x.after,I x.node,I x.nodes,I x.from_]
def Cmd.a (x:Cmd):AVal:=.agg x.cells
theorem Cmd.lo {n:Nat} {a0 a1 a5 a7 a8 a9 a10 a12 a15 a16 a17:Int} {a2 a3 a4:ByteArray} {a6:List Alt} {a11 a13:Bool} {a14:List Dep}:LowL n [I a0,I a1,Sg a2,Sg a3,Sg a4,I a5,altL a6,I a7,I a8,I a9,I a10,Bo a11,I a12,Bo a13,depL a14,I a15,I a16,I a17]:=l1 (l1 (l1 (l1 (l1 (l1 (lv (Alt.lows _ _) (l1 (l1 (l1 (l1 (l1 (l1 (l1 (lv (Dep.lows _ _) (l1 (l1 (l1 (.nil))))))))))))))))))
theorem Cmd.lowc (x:Cmd) (n:Nat):LowL n x.cells:=Cmd.lo
instance:LowC Cmd.cells:=⟨fun n x=>x.lowc n⟩
theorem Cmd.low (x:Cmd) (n:Nat):Low n x.a:=.agg' (x.lowc n)
def Cmd.szN (N:Nat) (x:Cmd):Prop:=x.name.size<=N∧x.user.size<=N∧x.account.size<=N∧x.shape.szN N∧x.after.length<=N
abbrev Cmd.sz (x:Cmd):Prop:=x.szN 4294967296
structure Step where
 at_:Int
 free:Int
 deriving DecidableEq
def Step.zero:Step:=⟨0,0⟩
def Step.cells (x:Step):List AVal:=[I x.at_,I x.free]
def stepL (l:List Step):AVal:=listA 2 Step.cells .zero l
theorem Step.lo {n:Nat} {a0 a1:Int}:LowL n [I a0,I a1]:=l1 (l1 (.nil))
theorem Step.lowc (x:Step) (n:Nat):LowL n x.cells:=Step.lo
instance:LowC Step.cells:=⟨fun n x=>x.lowc n⟩
theorem Step.lows (l:List Step) (n:Nat):Low n (stepL l):=Qb5 fun x=>x.lowc n
structure Node where
 state:Int
 job:Int
 epoch:Int
 drain:Bool
 want:Int
 since:Int
 asked:Int
 deriving DecidableEq
def Node.zero:Node:=⟨0,0,0,false,0,0,0⟩
def Node.cells (x:Node):List AVal:=[I x.state,I x.job,I x.epoch,Bo x.drain,I x.want,I x.since,I x.asked]
def Node.a (x:Node):AVal:=.agg x.cells
def nodeL (l:List Node):AVal:=listA 7 Node.cells .zero l
theorem Node.lo {n:Nat} {a0 a1 a2 a4 a5 a6:Int} {a3:Bool}:LowL n [I a0,I a1,I a2,Bo a3,I a4,I a5,I a6]:=l1 (l1 (l1 (l1 (l1 (l1 (l1 (.nil)))))))
theorem Node.lowc (x:Node) (n:Nat):LowL n x.cells:=Node.lo
instance:LowC Node.cells:=⟨fun n x=>x.lowc n⟩
theorem Node.low (x:Node) (n:Nat):Low n x.a:=.agg' (x.lowc n)
theorem Node.lows (l:List Node) (n:Nat):Low n (nodeL l):=Qb5 fun x=>x.lowc n
structure Job where
 id:Int
 name:ByteArray
 user:ByteArray
 account:ByteArray
 shape:Shape
 prio:Int
 after:List Dep
 state:Int
 held:Bool
 born:Int
 promise:Int
 choice:Int
 start:Int
 limit:Int
 nodes:Int
 used:Int
 deriving DecidableEq
def Job.zero:Job:=⟨0,⟨#[]⟩,⟨#[]⟩,⟨#[]⟩,Shape.zero,0,[],0,false,0,0,0,0,0,0,0⟩
def Job.cells (x:Job):List AVal:=[I x.id,Sg x.name,Sg x.user,Sg x.account,I x.shape.kind,altL x.shape.alts,I x.shape.min,I x.shape.max,I x.shape.wall,I x.prio,depL x.after,I x.state,Bo x.held,I x.born,I x.promise,I x.choice,I x.start,I x.limit,U x.nodes,I x.used]
def Job.a (x:Job):AVal:=.agg x.cells
def jobL (l:List Job):AVal:=listA 20 Job.cells .zero l
theorem Job.lo {n:Nat} {a0 a4 a6 a7 a8 a9 a11 a13 a14 a15 a16 a17 a18 a19:Int} {a1 a2 a3:ByteArray} {a5:List Alt} {a10:List Dep} {a12:Bool}:LowL n [I a0,Sg a1,Sg a2,Sg a3,I a4,altL a5,I a6,I a7,I a8,I a9,depL a10,I a11,Bo a12,I a13,I a14,I a15,I a16,I a17,U a18,I a19]:=l1 (l1 (l1 (l1 (l1 (lv (Alt.lows _ _) (l1 (l1 (l1 (l1 (lv (Dep.lows _ _) (l1 (l1 (l1 (l1 (l1 (l1 (l1 (l1 (l1 (.nil))))))))))))))))))))
theorem Job.lowc (x:Job) (n:Nat):LowL n x.cells:=Job.lo
instance:LowC Job.cells:=⟨fun n x=>x.lowc n⟩
theorem Job.low (x:Job) (n:Nat):Low n x.a:=.agg' (x.lowc n)
theorem Job.lows (l:List Job) (n:Nat):Low n (jobL l):=Qb5 fun x=>x.lowc n
def Job.szN (N:Nat) (x:Job):Prop:=x.name.size<=N∧x.user.size<=N∧x.account.size<=N∧x.shape.szN N∧x.after.length<=N
abbrev Job.sz (x:Job):Prop:=x.szN 4294967296
abbrev Job.szM (x:Job):Prop:=x.szN 9223372036854775807
theorem Job.szz (N:Nat):Job.zero.szN N:=by simp [Job.szN,Job.zero,ByteArray.size,Shape.szN,Shape.zero]
structure Resize where
 job:Int
 grow:Bool
 nodes:Int
 said:Int
 since:Int
 deriving DecidableEq
def Resize.zero:Resize:=⟨0,false,0,0,0⟩
def Resize.cells (x:Resize):List AVal:=[I x.job,Bo x.grow,U x.nodes,U x.said,I x.since]
def Q02 (l:List Resize):AVal:=listA 5 Resize.cells .zero l
theorem Resize.lo {n:Nat} {a0 a2 a3 a4:Int} {a1:Bool}:LowL n [I a0,Bo a1,U a2,U a3,I a4]:=l1 (l1 (l1 (l1 (l1 (.nil)))))
theorem Resize.lowc (x:Resize) (n:Nat):LowL n x.cells:=Resize.lo
instance:LowC Resize.cells:=⟨fun n x=>x.lowc n⟩
theorem Resize.lows (l:List Resize) (n:Nat):Low n (Q02 l):=Qb5 fun x=>x.lowc n
structure Book where
 id:Int
 from_:Int
 to:Int
 nodes:Int
 deriving DecidableEq
def Book.zero:Book:=⟨0,0,0,0⟩
def Book.cells (x:Book):List AVal:=[I x.id,I x.from_,I x.to,I x.nodes]
def Book.a (x:Book):AVal:=.agg x.cells
def bookL (l:List Book):AVal:=listA 4 Book.cells .zero l
theorem Book.lo {n:Nat} {a0 a1 a2 a3:Int}:LowL n [I a0,I a1,I a2,I a3]:=l1 (l1 (l1 (l1 (.nil))))
theorem Book.lowc (x:Book) (n:Nat):LowL n x.cells:=Book.lo
instance:LowC Book.cells:=⟨fun n x=>x.lowc n⟩
theorem Book.low (x:Book) (n:Nat):Low n x.a:=.agg' (x.lowc n)
theorem Book.lows (l:List Book) (n:Nat):Low n (bookL l):=Qb5 fun x=>x.lowc n
structure Usage where
 user:ByteArray
 account:ByteArray
 used:Int
 share:Int
 deriving DecidableEq
def Usage.zero:Usage:=⟨⟨#[]⟩,⟨#[]⟩,0,0⟩
def Usage.cells (x:Usage):List AVal:=[Sg x.user,Sg x.account,I x.used,I x.share]
def Usage.a (x:Usage):AVal:=.agg x.cells
def QU1 (l:List Usage):AVal:=listA 4 Usage.cells .zero l
theorem Usage.lo {n:Nat} {a0 a1:ByteArray} {a2 a3:Int}:LowL n [Sg a0,Sg a1,I a2,I a3]:=l1 (l1 (l1 (l1 (.nil))))
theorem Usage.lowc (x:Usage) (n:Nat):LowL n x.cells:=Usage.lo
instance:LowC Usage.cells:=⟨fun n x=>x.lowc n⟩
theorem Usage.low (x:Usage) (n:Nat):Low n x.a:=.agg' (x.lowc n)
theorem Usage.lows (l:List Usage) (n:Nat):Low n (QU1 l):=Qb5 fun x=>x.lowc n
def Usage.szN (N:Nat) (x:Usage):Prop:=x.user.size<=N∧x.account.size<=N
abbrev Usage.sz (x:Usage):Prop:=x.szN 4294967296
abbrev Usage.szM (x:Usage):Prop:=x.szN 9223372036854775807
theorem Usage.szz (N:Nat):Usage.zero.szN N:=by simp [Usage.szN,Usage.zero,ByteArray.size]
structure State where
 now:Int
 nodes:List Node
 jobs:List Job
 resizes:List Resize
 books:List Book
 ledger:List Usage
 nextJob:Int
 nextBook:Int
 deriving DecidableEq
def State.zero:State:=⟨0,[],[],[],[],[],0,0⟩
def State.cells (x:State):List AVal:=[I x.now,nodeL x.nodes,jobL x.jobs,Q02 x.resizes,bookL x.books,QU1 x.ledger,I x.nextJob,I x.nextBook]
def State.a (x:State):AVal:=.agg x.cells
theorem State.lo {n:Nat} {a0 a6 a7:Int} {a1:List Node} {a2:List Job} {a3:List Resize} {a4:List Book} {a5:List Usage}:LowL n [I a0,nodeL a1,jobL a2,Q02 a3,bookL a4,QU1 a5,I a6,I a7]:=l1 (lv (Node.lows _ _) (lv (Job.lows _ _) (lv (Resize.lows _ _) (lv (Book.lows _ _) (lv (Usage.lows _ _) (l1 (l1 (.nil))))))))
theorem State.lowc (x:State) (n:Nat):LowL n x.cells:=State.lo
instance:LowC State.cells:=⟨fun n x=>x.lowc n⟩
theorem State.low (x:State) (n:Nat):Low n x.a:=.agg' (x.lowc n)
def State.szN (N:Nat) (x:State):Prop:=x.nodes.length<=N∧x.jobs.length<=N∧(∀ y ∈ x.jobs,y.szN N)∧x.resizes.length<=N∧x.books.length<=N∧x.ledger.length<=N∧(∀ y ∈ x.ledger,y.szN N)
abbrev State.sz (x:State):Prop:=x.szN 4294967296
abbrev State.szM (x:State):Prop:=x.szN 9223372036854775807
theorem State.szz (N:Nat):State.zero.szN N:=by simp [State.szN,State.zero,ByteArray.size]
structure LexReader where
 line:List Int
 at_:Int
 bad:Int
 error:Int
 deriving DecidableEq
def LexReader.zero:LexReader:=⟨[],0,0,0⟩
theorem LexReader.lo {n:Nat} {a0:List Int} {a1 a2 a3:Int}:LowL n [runes a0,I a1,I a2,I a3]:=lv (runes_low _ _) (l1 (l1 (l1 (.nil))))
def LexReader.szN (N:Nat) (x:LexReader):Prop:=x.line.length<=N
abbrev LexReader.sz (x:LexReader):Prop:=x.szN 4294967296
structure Taken where
 p:List Step
 deriving DecidableEq
theorem Taken.lo {n:Nat} {a0:List Step}:LowL n [stepL a0]:=lv (Step.lows _ _) (.nil)
def Taken.szN (N:Nat) (x:Taken):Prop:=x.p.length<=N
abbrev Taken.sz (x:Taken):Prop:=x.szN 4294967296
structure Ranked where
 what:Int
 prio:Int
 share:Int
 id:Int
 deriving DecidableEq
def Ranked.zero:Ranked:=⟨0,0,0,0⟩
def Ranked.cells (x:Ranked):List AVal:=[I x.what,I x.prio,I x.share,I x.id]
theorem Ranked.lo {n:Nat} {a0 a1 a2 a3:Int}:LowL n [I a0,I a1,I a2,I a3]:=l1 (l1 (l1 (l1 (.nil))))
theorem Ranked.lowc (x:Ranked) (n:Nat):LowL n x.cells:=Ranked.lo
instance:LowC Ranked.cells:=⟨fun n x=>x.lowc n⟩
end Go.Proofs.YtcbolcknapeneaaGreatDoor
namespace Go.Proofs.YtcbolcknapeneaaGreatDoor
set_option linter.unusedSimpArgs false
set_option linter.unusedVariables false
open Go.Fw
def atoiOK (s:ByteArray):Prop:=1<=s.size∧s.size<=9 ∧ ∀ i,i<s.size->48<=(s.data.toList.getD i 0).toNat∧(s.data.toList.getD i 0).toNat<=57
theorem atoi_minus {s:ByteArray} (h:atoiOK s) (c:(((s.data.toList.getD 0 0).toNat:Int)==45)=true):False:=by
 have:=h.2.2 0 h.1
 have e:=eq_of_beq c
 omega
theorem atoi_sign {s:ByteArray} (h:atoiOK s) (c:((((s.data.toList.getD 0 0).toNat:Int)==45)||(((s.data.toList.getD 0 0).toNat:Int)==43))=true):False:=by
 have:=h.2.2 0 h.1
 rcases (Bool.or_eq_true _ _).mp c with c|c <;> have e:=eq_of_beq c <;> omega
theorem bytesOf_getD (s:ByteArray) (i:Nat):(QG1 s).getD i 0=((s.data.toList.getD i 0).toNat:Int):=by
 unfold QG1
 simp only [List.getD,List.getElem?_map]
 cases s.data.toList[i]? <;> rfl
theorem atoi_digit {s:ByteArray} (h:atoiOK s) {i:Nat} (hi:i<s.size) (c:decide (wu8 (((QG1 s).getD i 0) - 48) > 9)=true):False:=by
 have h1:=h.2.2 i hi
 have c:=of_decide_eq_true c
 rw [bytesOf_getD] at c
 rw [show wu8 (((s.data.toList.getD i 0).toNat:Int) - 48)=((s.data.toList.getD i 0).toNat:Int) - 48 by rw [wu8,IntKind.wrap_u8];omega] at c
 omega
theorem getD_byte (s:ByteArray) {i:Nat} (h:i<s.size):s.data.toList.getD i 0=s[i]'h:=by
 have h':i<s.data.toList.length:=by simpa using h
 simp [List.getD,List.getElem?_eq_getElem h']
 rfl
theorem Qe7 (s:ByteArray) (i:Nat) (h:i<s.size):i+(Utf8.decode s i).2<=s.size:=by
 unfold Utf8.decode
 dsimp only
 split
 ·simp;omega
 ·split
  ·rename_i hc
   simp only [Bool.and_eq_true,decide_eq_true_eq] at hc
   split <;> simp <;> omega
  ·split
   ·rename_i hc
    simp only [Bool.and_eq_true,decide_eq_true_eq] at hc
    split <;> simp <;> omega
   ·split
    ·rename_i hc
     simp only [Bool.and_eq_true,decide_eq_true_eq] at hc
     split <;> simp <;> omega
    ·simp;omega
theorem ref09_half {s1:Int} {n:Nat} (h:(n:Int)=0∨(0<=s1∧s1<2 ^ (65 - (Int.toNat (n:Int))))) (hn:(n:Int)<=65) (h0:s1 > 0):n<65∧0<=wu64 (Int.tdiv s1 2)∧wu64 (Int.tdiv s1 2)<2 ^ (65 - (n+1))∧(wu64 (Int.tdiv s1 2)).toNat<s1.toNat:=by
 have e:Int.tdiv s1 2=s1 / 2:=Int.tdiv_eq_ediv_of_nonneg (by omega)
 have hw : wu64 (s1 / 2) = (s1 / 2) % 18446744073709551616 := by simp [IntKind.wrap, IntKind.bits, IntKind.signed]
 rw [e,hw]
 have h1 : (s1 / 2) % 18446744073709551616 <= s1 / 2 := by omega
 rcases h with h|⟨_,h⟩
 ·have:n=0:=by omega
  subst this
  exact ⟨by omega,by omega,by show _<(2:Int) ^ 64;have:(2:Int) ^ 64=18446744073709551616:=(by decide);omega,by omega⟩
 ·simp only [Int.toNat_natCast] at h
  have hn65:n<65:=by
   rcases Nat.lt_or_ge n 65 with h2|h2
   ·exact h2
   ·rw [show 65 - n=0 by omega] at h
    simp at h
    omega
  refine ⟨hn65,by omega,?_,by omega⟩
  rw [show 65 - n=(65 - (n+1))+1 by omega,Int.pow_succ] at h
  omega
theorem extract_size (s:ByteArray) (a b:Nat):(s.extract a b).size<=s.size:=by
 rw [ByteArray.size_extract]
 omega
theorem digits_bytes (s:ByteArray):∀ (m pos:Nat),s.size - pos<=m->(∀ x ∈ QZ3 s m pos,48<=x.2∧x.2<=57) -> ∀ i,pos<=i->i<s.size->48<=(s.data.toList.getD i 0).toNat∧(s.data.toList.getD i 0).toNat<=57:=by
 intro m
 induction m with
 | zero=>intro pos hm _ i h1 h2;omega
 | succ m ih =>
  intro pos hm hx i h1 h2
  have hp:pos<s.size:=by omega
  rw [QT2 (decide_eq_true hp)] at hx
  have h0:=hx _ List.mem_cons_self
  have ha:(s[pos]'hp).toNat<128:=by
   rcases Nat.lt_or_ge (s[pos]'hp).toNat 128 with h|h
   ·exact h
   ·have:=(decode_high s pos hp h).1
    simp only at h0
    omega
  have hd:=decode_ascii s pos hp ha
  rw [hd] at h0 hx
  by_cases hi:i=pos
  ·subst hi
   rw [getD_byte s hp]
   simp only at h0
   omega
  ·exact ih (pos+1) (by omega) (fun x hm=>hx x (List.mem_cons_of_mem _ hm)) i (by omega) h2
theorem gives_of_calls {P:Program} {f:FuncId} {vs:List Value} {v:Value} (h:∀ w,Calls P f vs.toArray w fun e w'=>e = .returned v∧w'=w) (objs:Objs):AGives P f (vs.map .lit) objs (.lit v):=by
 intro K w us hm hr
 have e:us=vs:=by
  have h1:=hr.1
  refine List.ext_getElem? fun i=>?_
  rcases Nat.lt_or_ge i vs.length with hi|hi
  ·have hu:i<us.length:=by rw [h1];simpa using hi
   have:=hr.2 i (.lit vs[i]) us[i] (by simp [List.getElem?_eq_getElem hi]) (List.getElem?_eq_getElem hu)
   rw [List.getElem?_eq_getElem hi,List.getElem?_eq_getElem hu]
   rw [QN0 this]
  ·rw [List.getElem?_eq_none hi,List.getElem?_eq_none (by rw [h1];simpa using hi)]
 subst e
 refine (h w).mono ?_
 rintro e w' ⟨rfl,rfl⟩
 exact ⟨v,.lit v,objs,K,rfl,.refl K,hm,.lit v,rfl,rfl⟩
set_option maxHeartbeats 1000000 in
set_option maxRecDepth 100000 in
theorem indexByte1 (s:ByteArray) (c:Int) (w:World) :
  Calls Tryz.prog 396 #[.string s,.int .u8 c] w fun e w'=>e = .returned (.int .i64 (Lib.indexByte s.data.toList c.toNat.toUInt8))∧w'=w:=by
 go_enter Tryz.func396,Tryz.ntmps396
 go_wp2
 rw [run_callFunc_extern Tryz.func401 (by kernel_rfl) (by kernel_rfl) (by kernel_rfl) (e:=Extern.BytealgIndexByte.indexByte) (by kernel_rfl),Lib.run_indexByteString]
 simp only [Result.andThen]
 rw [Oper.upon_value]
 go_wp2
 go_ret
 exact ⟨rfl,rfl⟩
def Qi5 (s:ByteArray) (c:Int):Int:=Lib.indexByte s.data.toList c.toNat.toUInt8
set_option maxHeartbeats 1000000 in
theorem indexByte2 (s:ByteArray) (c:Int) (w:World) :
  Calls Tryz.prog 380 #[.string s,.int .u8 c] w fun e w'=>e = .returned (.int .i64 (Qi5 s c))∧w'=w:=by
 go_enter Tryz.func380,Tryz.ntmps380
 go_wp2_with (go_at_call 396;refine (indexByte1 _ _ _).mono ?_;rintro e w' ⟨rfl,rfl⟩)
 go_ret
 exact ⟨rfl,rfl⟩
theorem Qza (s:ByteArray) (c:Int):∀ objs,AGives Tryz.prog 380 [Sg s,Y c] objs (I (Qi5 s c)) :=
 gives_of_calls (vs:=[.string s,.int .u8 c]) fun w=>indexByte2 s c w
end Go.Proofs.YtcbolcknapeneaaGreatDoor
namespace Go.Proofs.YtcbolcknapeneaaGreatDoor
set_option linter.unusedSimpArgs false
set_option linter.unusedVariables false
open Go Go.RowKit Go.Proofs
theorem bldPtr:Tryz.prog.underlying 382 = some (.pointer 384):=by kernel_rfl
theorem bldUnsafe:Tryz.prog.underlying 401 = some .unsafePointer:=by kernel_rfl
theorem bldInfo:(Tryz.prog.info? 384).map (·.size)=some 2:=by kernel_rfl
theorem bldCells:Tryz.prog.cellsOf 384 = 2:=by kernel_rfl
set_option maxHeartbeats 1000000 in
set_option maxRecDepth 100000 in
theorem copyCheck_used (b:Nat) (w:World) (h0:w.cell? ⟨b,0,none⟩=some (.pointer (some ⟨b,0,none⟩))) :
  Calls Tryz.prog 398 #[.pointer (some ⟨b,0,none⟩)] w fun e w'=>e = .returned (.tuple #[])∧w'=w:=by
 obtain ⟨j,hj,_⟩:=Option.map_eq_some_iff.1 bldInfo
 go_enter Tryz.func398,Tryz.ntmps398
 go_wp2
 rw [Lib.run_neq_ptr_same w _ bldPtr hj]
 go_wp2
 go_end0
 exact ⟨rfl,rfl⟩
set_option maxHeartbeats 1000000 in
set_option maxRecDepth 100000 in
theorem Qpd (te:TypeId) (m b:Nat) (w:World) (h0:w.cell? ⟨b,0,none⟩=some (.pointer none)) (hsh:w.shape? b=some (te,m)) (hm:0<m) (hlies:liesAt Tryz.prog Tryz.prog.depth te (m / Tryz.prog.cellsOf te) 0 384 1=true) (hfz:w.frozen? ⟨b,0,none⟩=false) :
  Calls Tryz.prog 398 #[.pointer (some ⟨b,0,none⟩)] w fun e w'=>e = .returned (.tuple #[])∧w'=w.setCell ⟨b,0,none⟩ (.pointer (some ⟨b,0,none⟩)):=by
 obtain ⟨j,hj,hjs⟩:=Option.map_eq_some_iff.1 bldInfo
 go_enter Tryz.func398,Tryz.ntmps398
 go_wp2
 rw [Lib.run_to_unsafe w ⟨b,0,none⟩ bldPtr bldUnsafe hj (by rw [hjs];decide) hsh hm]
 simp only [Result.andThen]
 rw [Oper.upon_value]
 go_wp2
 rw [run_callFunc_extern Tryz.func406 (by kernel_rfl) (by kernel_rfl) (by kernel_rfl) (e:=Extern.AbiNoEscape.same) (by kernel_rfl)]
 rw [Lib.run_noEscape]
 simp only [Result.andThen]
 rw [Oper.upon_value]
 go_wp2
 rw [Lib.run_from_unsafe w ⟨b,0,none⟩ bldUnsafe bldPtr hj hsh hlies]
 simp only [Result.andThen]
 rw [Oper.upon_value]
 go_wp2
 go_end0
 exact ⟨rfl,rfl⟩
theorem bldBytePtr:Tryz.prog.underlying 395 = some (.pointer 5):=by kernel_rfl
theorem bldByte1:Tryz.prog.cellsOf 5 = 1:=by kernel_rfl
set_option maxHeartbeats 2000000 in
set_option maxRecDepth 100000 in
theorem QFb (b:Nat) (w:World) (c0:w.cell? ⟨b,1,none⟩=some (.slice none 0 0)) :
  Calls Tryz.prog 385 #[.pointer (some ⟨b,0,none⟩)] w fun e w'=>e = .returned (.string ⟨#[]⟩)∧w'=w.drew:=by
 have hUS:=fun (W:World) (q:Option Addr)=>Lib.run_unsafeString_none (P:=Tryz.prog) (w:=W) 395 3 9 q
 have c1:w.drew.cell? ⟨b,1,none⟩=some (.slice none 0 0):=c0
 have hSD:(Builtin.unsafeSliceData_ #[377] 395 #[.slice none 0 0]).run Tryz.prog w.drew = .ok (.pointer none) w.drew:=rfl
 have mixed:Tryz.prog.follows .mixedOrders=true:=by kernel_rfl
 go_enter Tryz.func385,Tryz.ntmps385
 go_wp2
 go_region_o
 all_goals (go_wp2;go_ret;exact ⟨rfl,rfl⟩)
set_option maxHeartbeats 2000000 in
set_option maxRecDepth 100000 in
theorem QIa (b cap:Nat) (a:Addr) (w:World) (hc0:cap ≠ 0) (c0:w.cell? ⟨b,1,none⟩=some (.slice (some a) 0 cap)) :
  Calls Tryz.prog 385 #[.pointer (some ⟨b,0,none⟩)] w fun e w'=>e = .returned (.string ⟨#[]⟩)∧w'=w.drew:=by
 have hUS:=fun (W:World) (q:Option Addr)=>Lib.run_unsafeString_none (P:=Tryz.prog) (w:=W) 395 3 9 q
 have c1:w.drew.cell? ⟨b,1,none⟩=some (.slice (some a) 0 cap):=c0
 have hSD:(Builtin.unsafeSliceData_ #[377] 395 #[.slice (some a) 0 cap]).run Tryz.prog w.drew = .ok (.pointer (some a)) w.drew:=Lib.run_unsafeSliceData_row _ _ _ _ _ _ hc0
 clear hc0
 have mixed:Tryz.prog.follows .mixedOrders=true:=by kernel_rfl
 go_enter Tryz.func385,Tryz.ntmps385
 go_wp2
 go_region_o
 all_goals (go_wp2;go_ret;exact ⟨rfl,rfl⟩)
set_option maxHeartbeats 2000000 in
set_option maxRecDepth 100000 in
theorem QJa (b g cap:Nat) (cur:Array Value) (fr:Nat × Nat) (l:List UInt8) (w:World) (h0:l ≠ []) (c0:w.cell? ⟨b,1,none⟩=some (.slice (some ⟨g,0,none⟩) l.length cap))
  (hg:w.heap[g]? = some (.cells cur 5 fr)) (hcap:l.length<=cap) (hcur:l.length<=cur.size) (h63:l.length<=9223372036854775807) (hcell:∀ (j:Nat) (x:UInt8),l[j]? = some x->cur[j]? = some (Value.int .u8 x.toNat)) :
  Calls Tryz.prog 385 #[.pointer (some ⟨b,0,none⟩)] w fun e w'=>e = .returned (.string ⟨l.toArray⟩)∧w'=w.drew.freeze ⟨g,0,none⟩ l.length:=by
 have hl0:l.length ≠ 0:=by simpa using h0
 have c1:w.drew.cell? ⟨b,1,none⟩=some (.slice (some ⟨g,0,none⟩) l.length cap):=c0
 have hg':w.drew.heap[g]? = some (.cells cur 5 fr):=hg
 have hSD:(Builtin.unsafeSliceData_ #[377] 395 #[.slice (some ⟨g,0,none⟩) l.length cap]).run Tryz.prog w.drew = .ok (.pointer (some ⟨g,0,none⟩)) w.drew :=
  Lib.run_unsafeSliceData_row _ _ _ _ _ _ (by omega)
 have hUS:(Builtin.unsafeString_ #[395,3] 9 #[.pointer (some ⟨g,0,none⟩),.int .i64 l.length]).run Tryz.prog w.drew = .ok (.string ⟨l.toArray⟩) (w.drew.freeze ⟨g,0,none⟩ l.length):=by
  refine Lib.run_unsafeString_row (P:=Tryz.prog) (w:=w.drew) 395 3 9 5 bldBytePtr bldByte1 g cur.size (by simp [World.shape?,hg']) l h0 hcur h63 ?_
  intro j x hx
  have e:((⟨g,0,none⟩:Addr).add j)=⟨g,j,none⟩:=by
   simp [Addr.add]
   exact fun h=>h.symm
  rw [e,Lib.cell_of_heap hg']
  exact hcell j x hx
 have mixed:Tryz.prog.follows .mixedOrders=true:=by kernel_rfl
 go_enter Tryz.func385,Tryz.ntmps385
 go_wp2
 go_region_o
 all_goals (go_wp2;go_ret;exact ⟨rfl,rfl⟩)
end Go.Proofs.YtcbolcknapeneaaGreatDoor
namespace Go.Proofs.YtcbolcknapeneaaGreatDoor
set_option linter.unusedSimpArgs false
set_option linter.unusedVariables false
open Go.Fw
theorem liesAt_self {P:Program} {e:TypeId} {k:Nat} (hc:P.cellsOf e=k+1) (count:Nat) (hn:1<=count):liesAt P P.depth e count 0 e 1=true:=by
 have hd:P.depth=(2*(P.types.size+Made.depth)+1)+1:=rfl
 rw [hd]
 simp only [liesAt,Bool.or_eq_true]
 left
 rw [hd]
 simp [rowAt,hc,hn,sameLayout]
theorem Qn7 {K:Ctx} {objs:Objs} {w:World} {o ver k:Nat} {te:TypeId} {xs:List AVal} (hm:MemSat K objs w) (hp:objs[o]? = some (ver,.row te k [xs])) :
  K.C o ver ≠ 0 ∧ ∃ (c:Array Value) (fr:Nat × Nat),w.heap[K.ρ o ver]? = some (.cells c te fr)∧frFree fr c.size∧c.size=K.C o ver*k∧(∀ u ∈ c.toList,u.oneCell'=true) ∧ ∀ (j:Nat) (x:AVal),xs[j]? = some x -> ∃ u:Value,c[j]? = some u∧Rep K x u:=by
 obtain ⟨h1,h2,h3⟩:=hm.obj o _ hp
 have hC:K.C o ver ≠ 0:=by simp at h2;omega
 obtain ⟨c,⟨fr,hfr,hb⟩,hs,h1',hr⟩:=h3 hC
 refine ⟨hC,c,fr,hb,hfr,hs,h1',fun j x hx=>?_⟩
 obtain ⟨u,hu,hru⟩:=hr 0 j xs x rfl hx
 exact ⟨u,by simpa using hu,hru⟩
theorem setCell_row {w:World} {b off:Nat} {c:Array Value} {te:TypeId} {fr:Nat × Nat} (hb:w.heap[b]? = some (.cells c te fr)) (v:Value):w.setCell ⟨b,off,none⟩ v=w.setRow b (c.setIfInBounds off v):=by
 unfold World.setCell World.setRow
 congr 1
 apply Array.ext_getElem?
 intro i
 simp only [Array.getElem?_modify]
 by_cases hi:b=i
 ·subst hi
  simp [hb]
 ·simp [hi]
theorem frozen_row {w:World} {b off:Nat} {c:Array Value} {te:TypeId} {fr:Nat × Nat} (hb:w.heap[b]? = some (.cells c te fr)) (hfr:frFree fr c.size) (ho:off<c.size):w.frozen? ⟨b,off,none⟩=false:=by
 have:=hfr off ho
 simp only [World.frozen?,hb]
 simp
 omega
structure BldT (te:TypeId):Prop where
 cells:Tryz.prog.cellsOf te=2
 lies:∀ n:Nat,1<=n->liesAt Tryz.prog Tryz.prog.depth te n 0 384 1=true
theorem bldT0:BldT 384:=⟨bldCells,fun n hn=>liesAt_self bldCells n hn⟩
theorem QLb {te:TypeId} (ht:BldT te) {x:AVal} {rest:Objs} {n0:Nat} (hn:n0<=rest.length+1):AMoves Tryz.prog 398 [.ptr 0 0 2 0 0] ((0,.row te 2 [[.lit (.pointer none),x]]) :: rest) n0 (.tup []) ((0,.row te 2 [[.ptr 0 0 2 0 0,x]]) :: rest):=by
 intro K w vs hm hr
 have hp:(((0,.row te 2 [[.lit (.pointer none),x]]) :: rest:Objs))[0]? = some (0,.row te 2 [[.lit (.pointer none),x]]):=rfl
 obtain ⟨hC,c,fr,hb,hfr,hs,h1,hx⟩:=Qn7 hm hp
 have hvs:vs=[.pointer (some ⟨K.ρ 0 0,0,none⟩)]:=by
  obtain ⟨v,rfl⟩:∃ v,vs=[v]:=List.length_eq_one_iff.1 hr.1
  obtain ⟨e,_,_⟩:=QH5 (hr.2 0 _ _ rfl rfl)
  rw [e]
 subst hvs
 have hsz:2<=c.size:=by rw [hs];omega
 obtain ⟨u0,hu0,hr0⟩:=hx 0 _ rfl
 obtain ⟨u1,hu1,hr1⟩:=hx 1 _ rfl
 have e0:=QN0 hr0
 subst e0
 have hc0:w.cell? ⟨K.ρ 0 0,0,none⟩=some (.pointer none):=by rw [Lib.cell_of_heap hb];exact hu0
 refine (Qpd te c.size (K.ρ 0 0) w hc0 (by simp [World.shape?,hb]) (by omega) ?_ (frozen_row hb hfr (by omega))).mono ?_
 ·rw [ht.cells,hs]
  exact ht.lies _ (by rw [Nat.mul_div_cancel _ (by decide)];omega)
 ·rintro e w' ⟨rfl,rfl⟩
  refine ⟨_,K,rfl,QPa (by rw [← hm.len];exact hn),?_,.tup _ [] rfl (fun i x v h=>by simp at h)⟩
  rw [setCell_row hb]
  have hm':=hm.setRow hp hC c (c.setIfInBounds 0 (.pointer (some ⟨K.ρ 0 0,0,none⟩))) ⟨fr,hfr,hb⟩ (by simp) (fun u hu=>?_) [[.ptr 0 0 2 0 0,x]] (by simp;omega) (by simp) (fun i j e y he hy=>?_)
  ·exact hm'
  ·rw [Array.toList_setIfInBounds] at hu
   rcases List.mem_or_eq_of_mem_set hu with hu|rfl
   ·exact h1 u hu
   ·rfl
  ·have hi:i=0:=by have:=(List.getElem?_eq_some_iff.1 he).1;simp at this;omega
   subst hi
   simp at he
   subst he
   rcases j with _|_|j
   ·simp at hy
    subst hy
    refine ⟨.pointer (some ⟨K.ρ 0 0,0,none⟩),by rw [show 0*2+0=0 from rfl,Array.getElem?_setIfInBounds,if_pos rfl,if_pos (by omega)],?_⟩
    have:=Rep.ptr (K:=K) 0 0 2 0 0 (by rw [← hm.len];exact Nat.succ_pos _) (Nat.zero_le _)
    simpa using this
   ·simp at hy
    subst hy
    refine ⟨u1,?_,hr1⟩
    rw [Array.getElem?_setIfInBounds_ne (by omega)]
    simpa using hu1
   ·simp at hy
theorem QIc {te:TypeId} {x:AVal} {rest:Objs} {n0:Nat} (hn:n0<=rest.length+1):AMoves Tryz.prog 398 [.ptr 0 0 2 0 0] ((0,.row te 2 [[.ptr 0 0 2 0 0,x]]) :: rest) n0 (.tup []) ((0,.row te 2 [[.ptr 0 0 2 0 0,x]]) :: rest):=by
 intro K w vs hm hr
 have hp:(((0,.row te 2 [[.ptr 0 0 2 0 0,x]]) :: rest:Objs))[0]? = some (0,.row te 2 [[.ptr 0 0 2 0 0,x]]):=rfl
 obtain ⟨hC,c,fr,hb,hfr,hs,h1,hx⟩:=Qn7 hm hp
 have hvs:vs=[.pointer (some ⟨K.ρ 0 0,0,none⟩)]:=by
  obtain ⟨v,rfl⟩:∃ v,vs=[v]:=List.length_eq_one_iff.1 hr.1
  obtain ⟨e,_,_⟩:=QH5 (hr.2 0 _ _ rfl rfl)
  rw [e]
 subst hvs
 obtain ⟨u0,hu0,hr0⟩:=hx 0 _ rfl
 obtain ⟨e0,_,_⟩:=QH5 hr0
 subst e0
 have hc0:w.cell? ⟨K.ρ 0 0,0,none⟩=some (.pointer (some ⟨K.ρ 0 0,0,none⟩)):=by rw [Lib.cell_of_heap hb];simpa using hu0
 refine (copyCheck_used (K.ρ 0 0) w hc0).mono ?_
 rintro e w' ⟨rfl,rfl⟩
 exact ⟨_,K,rfl,QPa (by rw [← hm.len];exact hn),hm,.tup _ [] rfl (fun i x v h=>by simp at h)⟩
theorem Qme {w:World} {b:Nat} {c:Array Value} {te:TypeId} {fr:Nat × Nat} (hb:w.heap[b]? = some (.cells c te fr)):w.setRow b c=w:=by
 have e:w.setRow b c={ w with heap:=w.heap }:=by
  unfold World.setRow
  congr 1
  apply Array.ext_getElem?
  intro i
  rw [Array.getElem?_modify]
  by_cases hi:b=i
  ·subst hi
   rw [if_pos rfl,hb];rfl
  ·rw [if_neg hi]
 exact e
theorem copyCheck_m {te:TypeId} (ht:BldT te) {x:AVal} {rest:Objs} {n0:Nat} (hn:n0<=rest.length+1):AMoves Tryz.prog 398 [.ptr 0 0 2 0 0] ((0,.row te 2 [[.sel 0 0 2 0 0,x]]) :: rest) n0 (.tup []) ((0,.row te 2 [[.ptr 0 0 2 0 0,x]]) :: rest):=by
 intro K w vs hm hr
 obtain ⟨hC,c,fr,hb,hfr,hs,h1,hx⟩:=Qn7 hm (o:=0) (ver:=0) (k:=2) (te:=te) (xs:=[.sel 0 0 2 0 0,x]) rfl
 obtain ⟨u0,hu0,hr0⟩:=hx 0 _ rfl
 have one:∀ {a:AVal},Rep K a u0 -> ∀ u,c[0]? = some u->Rep K a u:=fun h u hu=>by rw [hu0] at hu;cases hu;exact h
 have tell:∀ {a:AVal},Rep K a u0->MemSat K ((0,.row te 2 [[a,x]]) :: rest) w:=by
  intro a ha
  have hp:((0,.row te 2 [[.sel 0 0 2 0 0,x]]) :: rest:Objs)[0]? = some (0,.row te 2 [[.sel 0 0 2 0 0,x]]):=rfl
  have hm':=hm.setRow hp hC c c ⟨fr,hfr,hb⟩ rfl h1 [[a,x]] (by simp;omega) (by simp) (fun i j e y he hy=>?_)
  ·rw [Qme hb] at hm'
   exact hm'
  ·have hi:i=0:=by have:=(List.getElem?_eq_some_iff.1 he).1;simp at this;omega
   subst hi
   simp at he
   subst he
   rcases j with _|_|j
   ·simp at hy
    subst hy
    exact ⟨u0,by simpa using hu0,ha⟩
   ·simp at hy
    subst hy
    obtain ⟨u1,hu1,hr1⟩:=hx 1 _ rfl
    exact ⟨u1,by simpa using hu1,hr1⟩
   ·simp at hy
 cases hr0 with
 | selNil=>exact QLb ht hn K w vs (tell (.lit _)) hr
 | selPtr _ _ _ _ _ ho hv=>exact QIc hn K w vs (tell (.ptr _ _ _ _ _ ho hv)) hr
abbrev Q45 (l:List Int):AObj:=.row 5 1 (l.map fun q=>[Y q])
set_option maxRecDepth 20000
set_option maxHeartbeats 4000000
attribute [local irreducible] ACalls AMoves
end Go.Proofs.YtcbolcknapeneaaGreatDoor
namespace Go.Proofs.YtcbolcknapeneaaGreatDoor
set_option linter.unusedSimpArgs false
set_option linter.unusedVariables false
open Go.Fw
theorem freeze_setB {w:World} {g n:Nat} {c:Array Value} {t:TypeId} {fr:Nat × Nat} (hg:w.heap[g]? = some (.cells c t fr)):∃ fr',w.freeze ⟨g,0,none⟩ n=setB w g (.cells c t fr'):=by
 unfold World.freeze
 by_cases hn:n=0
 ·rw [if_pos hn]
  refine ⟨fr,?_⟩
  have e:w.heap=w.heap.setIfInBounds g (.cells c t fr):=by
   apply Array.ext_getElem?
   intro i
   rw [Array.getElem?_setIfInBounds]
   by_cases hi:g=i
   ·subst hi
    have:=(Array.getElem?_eq_some_iff.1 hg).1
    rw [if_pos rfl,if_pos this,hg]
   ·rw [if_neg hi]
  unfold setB
  rw [← e]
 ·rw [if_neg hn]
  obtain ⟨lo,hi⟩:=fr
  refine ⟨if lo==hi then (0,0+n) else (min lo 0,max hi (0+n)),?_⟩
  unfold setB
  congr 1
  apply Array.ext_getElem?
  intro i
  rw [Array.getElem?_setIfInBounds,Array.getElem?_modify]
  by_cases hi:g=i
  ·subst hi
   have:=(Array.getElem?_eq_some_iff.1 hg).1
   rw [if_pos rfl,if_pos rfl,if_pos this,hg]
   rfl
  ·rw [if_neg hi,if_neg hi]
section
variable {K:Ctx} {objs:Objs} {w:World}
theorem MemSat.kill (h:MemSat K objs w) {o ver:Nat} {p:AObj} (hp:objs[o]? = some (ver,p)) (hlive:p.live=true) (hC:K.C o ver ≠ 0) (b:Obj):MemSat K (objs.set o (ver,.dead)) (setB w (K.ρ o ver) b):=by
 have hlo:=h.lo o _ hp hlive hC
 have holt:o<objs.length:=(List.getElem?_eq_some_iff.1 hp).1
 have get:∀ o' q,(objs.set o (ver,.dead))[o']? = some q->(o'=o∧q=(ver,.dead))∨(o' ≠ o∧objs[o']? = some q):=by
  intro o' q hq
  by_cases ho:o'=o
  ·subst ho
   rw [List.getElem?_set_self holt] at hq
   exact Or.inl ⟨rfl,(Option.some.inj hq).symm⟩
  ·rw [List.getElem?_set_ne (Ne.symm ho)] at hq
   exact Or.inr ⟨ho,hq⟩
 refine ⟨by rw [List.length_set];exact h.len,fun o' q hq=>?_,fun o' q hq=>?_,fun o' q hq hl' hC'=>?_,fun o1 o2 q1 q2 h1 h2 l1 l2 c1 c2 hne=>?_,fun b' i u hu=>?_,?_⟩
 ·rcases get o' q hq with ⟨rfl,rfl⟩|⟨_,hq⟩
  ·exact h.ver o' (ver,p) hp
  ·exact h.ver o' _ hq
 ·rcases get o' q hq with ⟨rfl,rfl⟩|⟨ho,hq⟩
  ·trivial
  ·refine (h.obj o' q hq).mono (Ctx.le.refl K) (h.olt hq) (by rw [h.ver o' q hq];exact Nat.le_refl _) (fun hl' hC'=>QW8 ?_)
   exact h.dis o' o q _ hq hp hl' hlive hC' hC ho
 ·rcases get o' q hq with ⟨rfl,rfl⟩|⟨ho,hq⟩
  ·cases hl'
  ·obtain ⟨g1,g2,g3⟩:=h.lo o' q hq hl' hC'
   exact ⟨g1,by simpa [setB] using g2,g3⟩
 ·rcases get o1 q1 h1 with ⟨rfl,rfl⟩|⟨_,h1⟩
  ·cases l1
  ·rcases get o2 q2 h2 with ⟨rfl,rfl⟩|⟨_,h2⟩
   ·cases l2
   ·exact h.dis o1 o2 q1 q2 h1 h2 l1 l2 c1 c2 hne
 ·have:=h.mem b' i u hu
  have hne:b' ≠ K.ρ o ver:=by
   intro hb
   rw [hb,hlo.2.2 i] at hu
   cases hu
  refine ⟨?_,this.2⟩
  have e:(setB w (K.ρ o ver) b).cell? ⟨b',i,none⟩=w.cell? ⟨b',i,none⟩:=by
   simp only [World.cell?,QW8 hne]
  rw [e]
  exact this.1
 ·refine h.below.step rfl rfl rfl rfl rfl (by simp [setB]) fun b' y hy=>QW8 ?_
  rintro rfl
  rw [hlo.1] at hy
  cases hy
end
def QL6 (l:List Int):Prop:=∀ n ∈ l,0<=n∧n<=255
theorem QK9:QL6 []:=fun n h=>nomatch h
theorem wu8_in (n:Int):0<=wu8 n∧wu8 n<=255:=by
 simp only [IntKind.wrap,IntKind.bits,IntKind.signed]
 simp
 omega
theorem byteIn_app {l k:List Int} (h:QL6 l) (g:QL6 k):QL6 (l++k):=fun n hn=>by
 rcases List.mem_append.1 hn with hn|hn
 ·exact h n hn
 ·exact g n hn
theorem QD5 {c:Int} {k:List Int} (h:0<=c∧c<=255) (g:QL6 k):QL6 (c :: k):=fun n hn=>by
 rcases List.mem_cons.1 hn with rfl|hn
 ·exact h
 ·exact g n hn
theorem Q3a:∀ (l:List Int) (r:ByteArray),(l.foldl (fun r n=>r.push (UInt8.ofNat n.toNat)) r).data.toList=r.data.toList++l.map fun n=>UInt8.ofNat n.toNat
 | [],r=>by simp
 | n :: l,r=>by
  rw [List.foldl_cons,Q3a l]
  simp [ByteArray.push]
theorem QKa (l:List Int):Qq2 l=⟨(l.map fun n=>UInt8.ofNat n.toNat).toArray⟩:=by
 have:=Q3a l ByteArray.empty
 apply ByteArray.ext
 apply Array.ext'
 unfold Qq2
 rw [this]
 rfl
theorem String_some {te:TypeId} {x:AVal} (l:List Int) (h0:l ≠ []) (hb:QL6 l) (hl:l.length<=70368744177664):AMoves Tryz.prog 385 [.ptr 0 0 2 0 0] [(0,.row te 2 [[x,.own 1 0 1 0 l.length]]),(0,Q45 l)] 1 (Sg (Qq2 l)) [(0,.row te 2 [[.any,.any]])]:=by
 intro K w vs hm hr
 have hp0:([(0,.row te 2 [[x,.own 1 0 1 0 l.length]]),(0,Q45 l)]:Objs)[0]? = some (0,.row te 2 [[x,.own 1 0 1 0 l.length]]):=rfl
 have hp1:([(0,.row te 2 [[x,.own 1 0 1 0 l.length]]),(0,Q45 l)]:Objs)[1]? = some (0,Q45 l):=rfl
 obtain ⟨hC,c,fr,hbk,hfr,hs,h1,hx⟩:=Qn7 hm hp0
 have hvs:vs=[.pointer (some ⟨K.ρ 0 0,0,none⟩)]:=by
  obtain ⟨v,rfl⟩:∃ v,vs=[v]:=List.length_eq_one_iff.1 hr.1
  obtain ⟨e,_,_⟩:=QH5 (hr.2 0 _ _ rfl rfl)
  rw [e]
 subst hvs
 have hlen:l.length ≠ 0:=by simpa using h0
 obtain ⟨u1,hu1,hr1⟩:=hx 1 _ rfl
 obtain ⟨_,_,hcase⟩:=Qd6 hr1
 rcases hcase with ⟨_,q,_⟩|⟨a,cap,rfl,q1,q2,q3⟩
 ·exact absurd q hlen
 have ha:=q3 (by omega)
 simp only [Nat.zero_mul] at ha
 subst ha
 obtain ⟨g1,g2,g3⟩:=hm.obj 1 _ hp1
 have hC1:K.C 1 0 ≠ 0:=by simp at g2;omega
 obtain ⟨cur,⟨fr1,hfr1,hbk1⟩,hs1,h11,hcr⟩:=g3 hC1
 have hcell:∀ (j:Nat) (x:UInt8),(l.map fun n=>UInt8.ofNat n.toNat)[j]? = some x->cur[j]? = some (Value.int .u8 x.toNat):=by
  intro j x hx
  rw [List.getElem?_map] at hx
  cases hj:l[j]? with
  | none=>rw [hj] at hx;cases hx
  | some n =>
   rw [hj] at hx
   simp only [Option.map_some,Option.some.injEq] at hx
   subst hx
   obtain ⟨u,hu,hru⟩:=hcr j 0 [Y n] (Y n) (by rw [List.getElem?_map,hj];rfl) rfl
   have e:=QN0 hru
   subst e
   have hn:=hb n (List.mem_of_getElem? hj)
   rw [show j*1+0=j by omega] at hu
   rw [hu]
   congr 2
   rw [UInt8.toNat_ofNat']
   omega
 have hcurs:l.length<=cur.size:=by
  have e:cur.size=K.C 1 0*1:=hs1
  simp at g2
  omega
 have c0:w.cell? ⟨K.ρ 0 0,1,none⟩=some (.slice (some ⟨K.ρ 1 0,0,none⟩) (l.map fun n=>UInt8.ofNat n.toNat).length cap):=by
  rw [Lib.cell_of_heap hbk,List.length_map];exact hu1
 refine (QJa (K.ρ 0 0) (K.ρ 1 0) cap cur fr1 (l.map fun n=>UInt8.ofNat n.toNat) w (by simpa using h0) c0 hbk1 (by rw [List.length_map];exact q1) (by rw [List.length_map];exact hcurs) (by rw [List.length_map];omega) hcell).mono ?_
 rintro e w' ⟨rfl,rfl⟩
 obtain ⟨fr2,hfz⟩:=freeze_setB (w:=w.drew) (n:=(l.map fun n=>UInt8.ofNat n.toNat).length) (g:=K.ρ 1 0) hbk1
 have hm2:=MemSat.kill hm.drew hp1 rfl hC1 (.cells cur 5 fr2)
 rw [← hfz] at hm2
 have told:Go.Fw.Told 1 (Sg (Qq2 l)) [(0,.row te 2 [[x,.own 1 0 1 0 l.length]]),(0,.dead)] (Sg (Qq2 l)) [(0,.row te 2 [[.any,.any]])] :=
  QP4 [0] rfl (by decide) (.cons 0 _ _ _ _ rfl (Qd0 (.cons _ _ _ _ (fun _ _ _ _ _=>.any _) (.cons _ _ _ _ (fun _ _ _ _ _=>.any _) .nil))) .nil) (Qq0 (Qa3 rfl))
 obtain ⟨K',hle,hm3,hr3⟩:=told (K.cut 1) K _ (.string (Qq2 l)) rfl (QPa (by rw [← hm.len];simp)) hm2 (.lit _)
 refine ⟨_,K',?_,hle,hm3,hr3⟩
 rw [QKa]
theorem String_c {te:TypeId} (l:List Int) (hb:QL6 l) (hl:l.length<=70368744177664):AMoves Tryz.prog 385 [.ptr 0 0 2 0 0] [(0,.row te 2 [[.any,.buf 1 0 1 l.length]]),(0,Q45 l)] 1 (Sg (Qq2 l)) [(0,.row te 2 [[.any,.any]])]:=by
 by_cases h0:l=[]
 ·subst h0
  intro K w vs hm hr
  have hp0:([(0,.row te 2 [[.any,.buf 1 0 1 ([]:List Int).length]]),(0,Q45 [])]:Objs)[0]? = some (0,.row te 2 [[.any,.buf 1 0 1 ([]:List Int).length]]):=rfl
  obtain ⟨hC,c,fr,hbk,hfr,hs,h1,hx⟩:=Qn7 hm hp0
  have hvs:vs=[.pointer (some ⟨K.ρ 0 0,0,none⟩)]:=by
   obtain ⟨v,rfl⟩:∃ v,vs=[v]:=List.length_eq_one_iff.1 hr.1
   obtain ⟨e,_,_⟩:=QH5 (hr.2 0 _ _ rfl rfl)
   rw [e]
  subst hvs
  obtain ⟨u1,hu1,hr1⟩:=hx 1 _ rfl
  have told:Go.Fw.Told 1 (Sg (Qq2 [])) [(0,.row te 2 [[.any,.buf 1 0 1 ([]:List Int).length]]),(0,Q45 [])] (Sg (Qq2 [])) [(0,.row te 2 [[.any,.any]])] :=
   QP4 [0] rfl (by decide) (.cons 0 _ _ _ _ rfl (Qd0 (.cons _ _ _ _ (fun _ _ _ _ _=>.any _) (.cons _ _ _ _ (fun _ _ _ _ _=>.any _) .nil))) .nil) (Qq0 (Qa3 rfl))
  obtain ⟨K',hle,hm3,hr3⟩:=told (K.cut 1) K _ (.string (Qq2 [])) rfl (QPa (by rw [← hm.len];simp)) hm.drew (.lit _)
  have c0:w.cell? ⟨K.ρ 0 0,1,none⟩=some u1:=by rw [Lib.cell_of_heap hbk];exact hu1
  have fin:Calls Tryz.prog 385 #[.pointer (some ⟨K.ρ 0 0,0,none⟩)] w fun e w'=>e = .returned (.string ⟨#[]⟩)∧w'=w.drew:=by
   generalize hn:([]:List Int).length=n at hr1
   cases hr1 with
   | bufNil=>exact QFb _ w c0
   | bufSome _ _ _ _ cap ho hv hl' hc hC' =>
    have hn':n=0:=hn.symm
    subst hn'
    exact QIa _ cap _ w hc c0
  refine fin.mono ?_
  rintro e w' ⟨rfl,rfl⟩
  exact ⟨_,K',rfl,hle,hm3,hr3⟩
 ·intro K w vs hm hr
  have hm':MemSat K [(0,.row te 2 [[.any,.own 1 0 1 0 l.length]]),(0,Q45 l)] w:=by
   have hp0:([(0,.row te 2 [[.any,.buf 1 0 1 l.length]]),(0,Q45 l)]:Objs)[0]? = some (0,.row te 2 [[.any,.buf 1 0 1 l.length]]):=rfl
   obtain ⟨hC,c,fr,hbk,hfr,hs,h1,hx⟩:=Qn7 hm hp0
   have hm':=hm.setRow hp0 hC c c ⟨fr,hfr,hbk⟩ rfl h1 [[.any,.own 1 0 1 0 l.length]] (by simp;omega) (by simp) (fun i j e y he hy=>?_)
   ·rw [Qme hbk] at hm'
    exact hm'
   ·have hi:i=0:=by have:=(List.getElem?_eq_some_iff.1 he).1;simp at this;omega
    subst hi
    simp at he
    subst he
    rcases j with _|_|j
    ·simp at hy
     subst hy
     obtain ⟨u0,hu0,_⟩:=hx 0 _ rfl
     exact ⟨u0,by simpa using hu0,.any _⟩
    ·simp at hy
     subst hy
     obtain ⟨u1,hu1,hr1⟩:=hx 1 _ rfl
     exact ⟨u1,by simpa using hu1,QS9 hr1⟩
    ·simp at hy
  exact String_some l h0 hb hl K w vs hm' hr
end Go.Proofs.YtcbolcknapeneaaGreatDoor
namespace Go.Proofs.YtcbolcknapeneaaGreatDoor
set_option linter.unusedSimpArgs false
set_option linter.unusedVariables false
open Go.RowKit Go.Shelf
attribute [local go_sem] Oper.semAt_some
def Q65 (hi:Int) (k:Nat):List Int:=(List.range k).map fun (i:Nat)=>hi - (i:Int)
theorem downFrom_succ (hi:Int) (k:Nat):Q65 hi (k+1)=Q65 hi k++[hi - (k:Int)]:=by simp [Q65,List.range_succ]
theorem Qt7 (hi:Int) (k:Nat):(Q65 hi k).length=k:=by simp [Q65]
def leftOf (lo:Int):Value->Nat
 | .int _ n=>(n - lo+1).toNat
 | _=>0
theorem sizes_in (n:Nat) (hn:1<=n) (l Bt Bf:Nat) (lo hi:Int) (h1:1<=lo) (h2:lo<=hi) (h3:hi<=48) (J Jx:List Int->World->Prop)
  (hY:∀ pre x W,J pre W->pre.length<(hi - lo+1).toNat->YieldAt Fence.wide (n - 1) Tryz.prog l #[.int .i64 x] W fun e W' =>
   (e = .returned (.bool true)∧J (pre++[x]) W'∧(W.cell? ⟨Bf,0,none⟩=some (.int .i64 lo)->W'.cell? ⟨Bf,0,none⟩=some (.int .i64 lo)))∨(e = .returned (.bool false)∧Jx (pre++[x]) W'))
  (W:World) (hT:W.cell? ⟨Bt,0,none⟩=some (.int .i64 hi)) (hF:W.cell? ⟨Bf,0,none⟩=some (.int .i64 lo)) (h0:J [] W) :
  CallsIn Fence.wide n Tryz.prog 219 #[.func (.yield l) #[] #[],.pointer (some ⟨Bt,0,none⟩),.pointer (some ⟨Bf,0,none⟩)] W fun e W'=>(∃ v,e = .returned v) ∧
   ((∃ ys,ys=Q65 hi (hi - lo+1).toNat∧J ys W')∨(∃ pre,True∧Jx pre W')):=by
 refine callsIn_of_wp Tryz.func219 rfl trivial ?_ rfl
 simp only [Tryz.ntmps219,List.size_toArray,List.length_cons,List.length_nil,Nat.reduceAdd,Nat.reduceSub,Array.replicate_succ,Array.replicate_zero,List.push_toArray,List.append_toArray,List.nil_append,List.cons_append]
 gi_wp2
 gi_loopw [4] (fun p wr=>∃ k:Nat,p = .int .i64 (hi - (k:Int))∧k<=(hi - lo+1).toNat∧wr.cell? ⟨Bf,0,none⟩=some (.int .i64 lo)∧J (Q65 hi k) wr)
  (fun p _=>leftOf lo p)
 case atStart =>
  exact ⟨0,by simp,by omega,hF,h0⟩
 case round =>
  obtain ⟨k,rfl,hk,hc,hJs⟩:=hrel
  by_cases hle:lo<=hi - (k:Int)
  ·obtain ⟨fn,tmps,assign,body,hy,hR⟩:=hY (Q65 hi k) (hi - (k:Int)) wr hJs (by rw [Qt7];omega)
   have hd:decide (hi - (k:Int) >= lo)=true:=decide_eq_true hle
   gi_wp2
   refine hR.mono ?_
   rintro e W3 (⟨rfl,hJ3,hk3⟩|⟨rfl,hJx3⟩)
   ·gi_wp2
    go_roundw
    case rel =>
     refine ⟨k+1,?_,by omega,hk3 hc,by rw [downFrom_succ];exact hJ3⟩
     simp
     omega
    case measure =>
     simp only [leftOf]
     omega
   ·gi_wp2
    refine bodyPost_ret (results_none rfl _ _ _) rfl ?_
    exact ⟨⟨_,rfl⟩,.inr ⟨_,trivial,hJx3⟩⟩
  ·have hd:decide (hi - (k:Int) >= lo)=false:=decide_eq_false (by omega)
   gi_wp2
   have hk':k=(hi - lo+1).toNat:=by omega
   subst hk'
   go_end0
   exact ⟨⟨_,rfl⟩,.inl hJs⟩
theorem sizes_stops (n:Nat) (hn:1<=n) (Bt Bf:Nat) (lo hi:Int) (w:World) (h1:1<=lo) (h2:lo<=hi) (h3:hi<=48) (hbt:Bt<w.heap.size) (hbf:Bf<w.heap.size)
  (hT:w.cell? ⟨Bt,0,none⟩=some (.int .i64 hi)) (hF:w.cell? ⟨Bf,0,none⟩=some (.int .i64 lo)) :
  SeqStopsK Fence.wide n Tryz.prog 219 #[.pointer (some ⟨Bt,0,none⟩),.pointer (some ⟨Bf,0,none⟩)] (fun x:Int=>#[Value.int .i64 x]) (fun W W'=>W.cell? ⟨Bf,0,none⟩=some (.int .i64 lo)->W'.cell? ⟨Bf,0,none⟩=some (.int .i64 lo)) (fun ys=>ys=Q65 hi (hi - lo+1).toNat) (fun _=>True) (hi - lo+1).toNat w :=
 fun l J Jx W hW _ _ hY h0=>sizes_in n hn l Bt Bf lo hi h1 h2 h3 J Jx hY W ((hW.cell (p:=⟨Bt,0,none⟩) hbt).trans hT) ((hW.cell (p:=⟨Bf,0,none⟩) hbf).trans hF) h0
end Go.Proofs.YtcbolcknapeneaaGreatDoor
namespace Go.Proofs.YtcbolcknapeneaaGreatDoor
set_option linter.unusedSimpArgs false
set_option linter.unusedVariables false
open Go.Fw
theorem ckA {p:Prop} (h:p:=by first|exact wu64_nonneg _|omega|(simp only [QU2];omega)|(simp only [Option.getD_some,Option.getD_none,cond_true,cond_false,Bool.and_eq_true,Bool.or_eq_true,Bool.not_eq_true',Bool.not_eq_false',Bool.not_not,decide_eq_true_eq,decide_eq_false_iff_not,beq_iff_eq,bne_iff_ne,beq_eq_false_iff_ne,bne_eq_false_iff_eq,ne_eq] at *;first|omega|(simp (disch:=omega) only [wr];omega))|grind):p:=h
theorem leA {p:Prop} (h:p:=by first|rfl|omega|(simp;omega)|grind):p:=h
theorem exA {p:Prop} (h:p:=by first|omega|(dsimp only;omega)|(simp;done)|(simp;omega)|(simp [QU2];done)|grind):p:=h
theorem omA {p:Prop} (h:p:=by first|omega|(dsimp only;omega)|grind):p:=h
theorem szA {p:Prop} (h:p:=by first|omega|assumption|(refine ⟨?_,?_⟩ <;> assumption)|(simp;done)|exact Qy0 (by assumption) (by first|exact Job.szz _|exact Usage.szz _|exact Shape.szz _|exact Token.szz _)|exact Shape.szz _|exact Job.szz _|exact State.szz _|(rw [bytesStr_size];omega)|(refine Nat.le_trans (Qf6 _) ?_;simp only [List.length_drop,List.length_take];omega)|(dsimp only [Cmd.sz,Job.sz,Shape.sz,State.sz,Usage.sz,Token.sz,LexReader.sz,ImageReader.sz,Ref28From.sz,Cmd.szN,Job.szN,Shape.szN,State.szN,Usage.szN,Token.szN,LexReader.szN,ImageReader.szN,Ref28From.szN];(repeat' apply And.intro) <;> first|assumption|(simp;done))|grind):p:=h
theorem lnA {p:Prop} (h:p:=by first|rfl|exact (QU2 _).symm|exact QU2 _|(simp;done)|(simp [QU2];done)|grind):p:=h
theorem eqA {p:Prop} (h:p:=by first|rfl|(simp only [Nat.zero_add,Int.toNat_natCast,List.map_set];rfl)|(rw [List.map_replicate];rfl)|(rw [List.map_take];rfl)|exact Qu6 _ _ _|(refine Eq.symm ?_;exact range_listS _ _ _)|exact (bytesOf_map _)|(rw [List.map_append];rfl)|(rw [List.map_append,← Qu6];rfl)|(simp;done)|((repeat rw [List.map_append]);repeat' (first|rfl|exact Qu6 _ _ _|(refine Eq.symm ?_;exact range_listS _ _ _)|exact rangeTake _ _ _ ckA|exact rangeDrop _ _ _ _ leA|exact range_cut _ _ _ _ _ leA ckA|exact List.map_replicate|refine app_eq ?_ ?_))):p:=h
theorem cvA {p:Prop} (h:p:=by first|exact newsP_own rfl lnA|exact newsP_nil|exact newsP_ownE rfl eqA lnA|exact newsP_seq (by first|rfl |  exact Qu6 _ _ _|(refine Eq.symm ?_;exact range_listS _ _ _)|exact rangeTake _ _ _ ckA|exact rangeDrop _ _ _ _ leA|exact range_cut _ _ _ _ _ leA ckA|simp)):p:=h
theorem gkA {p:Prop} (h:p:=by first|exact fun hg=>decide_eq_true ckA|exact fun _=>rfl|exact rfl):p:=h
theorem apA {p:Prop} (h:p:=by first|(simp;omega)|grind):p:=h
theorem roA {p:Prop} (h:p:=by first|rfl|omega):p:=h
theorem ltA {i n:Nat} (h:decide ((i:Int)<(n:Int))=true):i<n:=by have:=of_decide_eq_true h;omega
theorem geA {i n:Nat} (h:decide ((i:Int)<(n:Int))=false):n<=i:=by have:=of_decide_eq_false h;omega
theorem sucA (m:Nat) (h:0<m:=by omega):∃ k,m=k+1:=⟨m - 1,by omega⟩
end Go.Proofs.YtcbolcknapeneaaGreatDoor
namespace Go.Proofs.YtcbolcknapeneaaGreatDoor
set_option linter.unusedSimpArgs false
set_option linter.unusedVariables false
open Go.Fw
def pv (f:Int):List Step->Int->Int
 | [],_=>f
 | x :: r,t=>if x.at_<=t then pv x.free r t else pv f r t
def Srt (a:Int):List Step->Prop
 | []=>True
 | x :: r=>a<x.at_∧x.at_<=1000000∧Srt x.at_ r
def Dif (f:Int):List Step->Prop
 | []=>True
 | x :: r=>f ≠ x.free∧Dif x.free r
theorem Qb1 {t:Int}:∀ {p:List Step} {a f:Int},Srt a p->t<=a->pv f p t=f
 | [],_,_,_,_=>rfl
 | x :: r,a,f,h,ht=>by
  have h1:=h.1
  unfold pv
  rw [if_neg (by omega)]
  exact Qb1 h.2.2 (by omega)
theorem pv_uniq:∀ {p q:List Step} {a f:Int},Srt a p->Dif f p->Srt a q->Dif f q->(∀ t,a<t->t<=1000000->pv f p t=pv f q t)->p=q
 | [],[],_,_,_,_,_,_,_=>rfl
 | [],y :: s,a,f,_,_,hs,hd,h=>by
  have e:=h y.at_ hs.1 hs.2.1
  simp only [pv,Int.le_refl,if_true] at e
  rw [Qb1 hs.2.2 (Int.le_refl _)] at e
  exact absurd e hd.1
 | x :: r,[],a,f,hs,hd,_,_,h=>by
  have e:=h x.at_ hs.1 hs.2.1
  simp only [pv,Int.le_refl,if_true] at e
  rw [Qb1 hs.2.2 (Int.le_refl _)] at e
  exact absurd e.symm hd.1
 | x :: r,y :: s,a,f,hs,hd,hs',hd',h=>by
  rcases Int.lt_trichotomy x.at_ y.at_ with hl|he|hl
  ·have e:=h x.at_ hs.1 hs.2.1
   rw [Qb1 (a:=x.at_) (p:=y :: s) ⟨hl,hs'.2⟩ (Int.le_refl _)] at e
   simp only [pv,Int.le_refl,if_true] at e
   rw [Qb1 hs.2.2 (Int.le_refl _)] at e
   exact absurd e.symm hd.1
  ·have e:=h x.at_ hs.1 hs.2.1
   have e2:x.free=y.free:=by
    simp only [pv,Int.le_refl,if_true] at e
    rw [Qb1 hs.2.2 (Int.le_refl _),if_pos (by omega),Qb1 hs'.2.2 (by omega)] at e
    exact e
   have exy:x=y:=by cases x;cases y;simp_all
   subst exy
   rw [pv_uniq hs.2.2 hd.2 hs'.2.2 hd'.2 fun t h1 h2=>by
    have e3:=h t (by have:=hs.1;omega) h2
    simp only [pv] at e3
    rw [if_pos (by omega),if_pos (by omega)] at e3
    exact e3]
  ·have e:=h y.at_ hs'.1 hs'.2.1
   rw [Qb1 (a:=y.at_) (p:=x :: r) ⟨hl,hs.2⟩ (Int.le_refl _)] at e
   simp only [pv,Int.le_refl,if_true] at e
   rw [Qb1 hs'.2.2 (Int.le_refl _)] at e
   exact absurd e hd'.1
def Can:List Step->Prop
 | []=>False
 | x :: r=>x.at_=0∧Srt x.at_ r∧Dif x.free r
def pat (p:List Step) (t:Int):Int:=pv 0 p t
theorem Can.uniq {p q:List Step} (hp:Can p) (hq:Can q) (h:∀ t,0<=t->t<=1000000->pat p t=pat q t):p=q:=by
 cases p with
 | nil=>exact hp.elim
 | cons x r =>
  cases q with
  | nil=>exact hq.elim
  | cons y s =>
   have hx:=hp.1
   have hy:=hq.1
   have e0:=h 0 (by omega) (by omega)
   unfold pat pv at e0
   rw [if_pos (by omega),if_pos (by omega),Qb1 hp.2.1 (by omega),Qb1 hq.2.1 (by omega)] at e0
   have exy:x=y:=by cases x;cases y;simp_all
   subst exy
   rw [pv_uniq hp.2.1 hp.2.2 hq.2.1 hq.2.2 fun t h1 h2=>by
    have e3:=h t (by omega) h2
    unfold pat pv at e3
    rw [if_pos (by omega),if_pos (by omega)] at e3
    exact e3]
def comp (f:Int):List Step->List Step
 | []=>[]
 | x :: r=>if f=x.free then comp f r else x :: comp x.free r
theorem comp_dif:∀ (p:List Step) (f:Int),Dif f (comp f p)
 | [],_=>trivial
 | x :: r,f=>by
  unfold comp
  by_cases h:f=x.free
  ·rw [if_pos h];exact comp_dif r f
  ·rw [if_neg h];exact ⟨h,comp_dif r x.free⟩
theorem Srt.le:∀ {p:List Step} {a b:Int},Srt a p->b<=a->Srt b p
 | [],_,_,_,_=>trivial
 | _ :: _,_,_,h,hb=>⟨by have:=h.1;omega,h.2⟩
theorem QWc:∀ (p:List Step) (a f:Int),Srt a p->Srt a (comp f p)
 | [],_,_,_=>trivial
 | x :: r,a,f,h=>by
  unfold comp
  by_cases e:f=x.free
  ·rw [if_pos e];exact QWc r a f (h.2.2.le (by have:=h.1;omega))
  ·rw [if_neg e];exact ⟨h.1,h.2.1,QWc r x.at_ x.free h.2.2⟩
theorem comp_pv (t:Int):∀ (p:List Step) (a f:Int),Srt a p->pv f (comp f p) t=pv f p t
 | [],_,_,_=>rfl
 | x :: r,a,f,h=>by
  unfold comp
  by_cases e:f=x.free
  ·rw [if_pos e,comp_pv t r x.at_ f h.2.2]
   show _=(if x.at_<=t then pv x.free r t else pv f r t)
   rw [← e,ite_self]
  ·rw [if_neg e]
   show (if x.at_<=t then pv x.free (comp x.free r) t else pv f (comp x.free r) t)=(if x.at_<=t then pv x.free r t else pv f r t)
   by_cases ht:x.at_<=t
   ·rw [if_pos ht,if_pos ht,comp_pv t r x.at_ x.free h.2.2]
   ·rw [if_neg ht,if_neg ht,Qb1 (QWc r x.at_ x.free h.2.2) (by omega),Qb1 h.2.2 (by omega)]
theorem comp_id:∀ (p:List Step) (f:Int),Dif f p->comp f p=p
 | [],_,_=>rfl
 | x :: r,f,h=>by
  unfold comp
  rw [if_neg h.1,comp_id r x.free h.2]
theorem Qma:∀ (p:List Step) (f:Int),(comp f p).length<=p.length
 | [],_=>Nat.le_refl _
 | x :: r,f=>by
  unfold comp
  by_cases e:f=x.free
  ·rw [if_pos e];have:=Qma r f;simp only [List.length_cons];omega
  ·rw [if_neg e];have:=Qma r x.free;simp only [List.length_cons];omega
def comp0:List Step->List Step
 | []=>[]
 | x :: r=>x :: comp x.free r
def Srt0:List Step->Prop
 | []=>False
 | x :: r=>x.at_=0∧Srt x.at_ r
theorem comp0_can:∀ {p:List Step},Srt0 p->Can (comp0 p)
 | [],h=>h.elim
 | x :: r,h=>⟨h.1,QWc r x.at_ x.free h.2,comp_dif r x.free⟩
theorem comp0_pat {t:Int} (ht:0<=t):∀ {p:List Step},Srt0 p->pat (comp0 p) t=pat p t
 | [],h=>h.elim
 | x :: r,h=>by
  have h1:=h.1
  show (if x.at_<=t then pv x.free (comp x.free r) t else pv 0 (comp x.free r) t)=(if x.at_<=t then pv x.free r t else pv 0 r t)
  rw [if_pos (by omega),if_pos (by omega),comp_pv t r x.at_ x.free h.2]
theorem Qbc (p:List Step):(comp0 p).length<=p.length:=by
 cases p with
 | nil=>exact Nat.le_refl _
 | cons x r=>have:=Qma r x.free;simp only [comp0,List.length_cons];omega
theorem Can.srt0:∀ {p:List Step},Can p->Srt0 p
 | [],h=>h.elim
 | _ :: _,h=>⟨h.1,h.2.1⟩
theorem Quc:∀ {p:List Step} {a f:Int},Srt a p -> ∀ x ∈ p,a<x.at_∧x.at_<=1000000∧pv f p x.at_=x.free
 | [],_,_,_,_,hx=>by cases hx
 | y :: r,a,f,h,x,hx=>by
  rcases List.mem_cons.1 hx with rfl|hm
  ·refine ⟨h.1,h.2.1,?_⟩
   unfold pv
   rw [if_pos (Int.le_refl _),Qb1 h.2.2 (Int.le_refl _)]
  ·obtain ⟨h1,h2,h3⟩:=Quc (f:=y.free) h.2.2 x hm
   have:=h.1
   refine ⟨by omega,h2,?_⟩
   unfold pv
   rw [if_pos (by omega),h3]
theorem Srt0.mem:∀ {p:List Step},Srt0 p -> ∀ x ∈ p,0<=x.at_∧x.at_<=1000000∧pat p x.at_=x.free
 | [],h,_,_=>h.elim
 | y :: r,h,x,hx=>by
  have h0:=h.1
  rcases List.mem_cons.1 hx with rfl|hm
  ·refine ⟨by omega,by omega,?_⟩
   unfold pat pv
   rw [if_pos (Int.le_refl _),Qb1 h.2 (Int.le_refl _)]
  ·obtain ⟨h1,h2,h3⟩:=Quc (f:=y.free) h.2 x hm
   refine ⟨by omega,h2,?_⟩
   unfold pat pv
   rw [if_pos (by omega),h3]
def putS (out:List Step) (x:Step):List Step:=match out.getLast? with
 | none=>out++[x]
 | some l=>if l.free=x.free then out else out++[x]
theorem comp_snoc (x:Step):∀ (p:List Step) (f:Int),comp f (p++[x])=if ((comp f p).getLast?.map (·.free)).getD f=x.free then comp f p else comp f p++[x]
 | [],f=>by
  by_cases h:f=x.free <;> simp [comp,h]
 | y :: r,f=>by
  have ih:=comp_snoc x r
  by_cases e:f=y.free
  ·simp only [List.cons_append,comp,if_pos e]
   exact ih f
  ·have h:((comp f (y :: r)).getLast?.map (·.free)).getD f=((comp y.free r).getLast?.map (·.free)).getD y.free:=by
    simp only [comp,if_neg e,List.getLast?_cons]
    cases (comp y.free r).getLast? <;> rfl
   rw [h]
   simp only [List.cons_append,comp,if_neg e,ih y.free]
   by_cases e2:((comp y.free r).getLast?.map (·.free)).getD y.free=x.free
   ·simp only [if_pos e2]
   ·simp only [if_neg e2,List.cons_append]
theorem comp0_snoc (p:List Step) (x:Step):comp0 (p++[x])=putS (comp0 p) x:=by
 cases p with
 | nil=>rfl
 | cons y r =>
  simp only [List.cons_append,comp0,comp_snoc,putS,List.getLast?_cons]
  have:((comp y.free r).getLast?.map (·.free)).getD y.free=((comp y.free r).getLast?.getD y).free:=by
   cases (comp y.free r).getLast? <;> rfl
  rw [this]
  split <;> rfl
theorem Qnd (m:List Step):∀ (p:List Step),m.foldl putS (comp0 p)=comp0 (p++m):=by
 induction m with
 | nil=>intro p;simp
 | cons x r ih =>
  intro p
  rw [List.foldl_cons,← comp0_snoc,ih]
  simp
theorem pv_map (g:Int->Int) (t:Int):∀ (l:List Int) (a f:Int),Srt a (l.map fun u=>⟨u,g u⟩)->a<=t->(∀ u v,a<=u->u<=v->v<=t->(∀ x ∈ l,x<=u∨v<x)->g u=g v)->f=g a->pv f (l.map fun u=>⟨u,g u⟩) t=g t
 | [],a,f,_,ha,hg,hf=>by
  rw [hf]
  exact hg a t (Int.le_refl _) ha (Int.le_refl _) (fun x hx=>by cases hx)
 | y :: r,a,f,hs,ha,hg,hf=>by
  simp only [List.map_cons,pv]
  have h1:a<y:=hs.1
  by_cases h:y<=t
  ·rw [if_pos h]
   refine pv_map g t r y (g y) hs.2.2 h (fun u v hu huv hv hx=>hg u v (by omega) huv hv fun x hm=>?_) rfl
   rcases List.mem_cons.1 hm with rfl|hm
   ·exact .inl hu
   ·exact hx x hm
  ·rw [if_neg h,hf]
   have hsm:pv (g a) (r.map fun u=>(⟨u,g u⟩:Step)) t=g a:=Qb1 (a:=y) hs.2.2 (by omega)
   rw [hsm]
   refine hg a t (Int.le_refl _) ha (Int.le_refl _) fun x hm=>?_
   right
   rcases List.mem_cons.1 hm with rfl|hm
   ·omega
   ·have:=(Quc (f:=0) hs.2.2 ⟨x,g x⟩ (List.mem_map.2 ⟨x,hm,rfl⟩)).1
    simp only at this
    omega
end Go.Proofs.YtcbolcknapeneaaGreatDoor
namespace Go.Proofs.YtcbolcknapeneaaGreatDoor
set_option linter.unusedSimpArgs false
set_option linter.unusedVariables false
open Go.Fw
def Fit (f:Int->Int) (long n t:Int):Prop:=∀ u,t<=u->u<t+long->n<=f u
def Early (f:Int->Int) (long n a:Int) (r:Int × Bool):Prop :=
 (r.2=true∧a<=r.1∧r.1+long<=1000000∧Fit f long n r.1 ∧ ∀ v,a<=v->v<r.1 -> ¬ Fit f long n v)∨(r=(0,false) ∧ ∀ v,a<=v->v+long<=1000000 -> ¬ Fit f long n v)
def ear (long n:Int):List Step->Int->Int × Bool
 | [],a=>(a,true)
 | x :: r,a =>
  bif decide (x.at_<w64 (a+long)) then
   bif decide (x.free >= n) then ear long n r a
   else match r with
    | []=>(0,false)
    | y :: _=>bif decide (y.at_<=a) then ear long n r a else bif decide (y.at_ > w64 (1000000 - long)) then (0,false) else ear long n r y.at_
  else (a,true)
theorem ear_cons (long n:Int) (x:Step) (r:List Step) (a:Int):ear long n (x :: r) a =
  (bif decide (x.at_<w64 (a+long)) then
   bif decide (x.free >= n) then ear long n r a
   else match r with
    | []=>(0,false)
    | y :: _=>bif decide (y.at_<=a) then ear long n r a else bif decide (y.at_ > w64 (1000000 - long)) then (0,false) else ear long n r y.at_
  else (a,true)):=by rw [ear.eq_def]
theorem QRa {f:Int->Int} {long n:Int} (hl:1<=long):∀ (l:List Step) (a:Int),0<=a->(∀ x r,l=x :: r->Srt x.at_ r ∧ ∀ u,x.at_<=u->f u=pv x.free r u)->(∀ u,a<=u->u<a+long->(∀ x r,l=x :: r->u<x.at_)->n<=f u)->a+long<=1000000->Early f long n a (ear long n l a)
 | [],a,_,_,h3,h4=>.inl ⟨rfl,Int.le_refl _,h4,fun u hu hv=>h3 u hu hv (fun _ _ h=>nomatch h),fun v h1 h2=>absurd h2 (by show ¬ v<a;omega)⟩
 | x :: r,a,h0,h1,h3,h4=>by
  obtain ⟨hs,hf⟩:=h1 x r rfl
  have hw:w64 (a+long)=a+long:=wr (by omega)
  have hw2:w64 (1000000 - long)=1000000 - long:=wr (by omega)
  have next:∀ y s,r=y :: s->Srt y.at_ s ∧ ∀ u,y.at_<=u->f u=pv y.free s u:=by
   intro y s e
   subst e
   refine ⟨hs.2.2,fun u hu=>?_⟩
   rw [hf u (by have:=hs.1;omega)]
   show (if y.at_<=u then pv y.free s u else pv x.free s u)=_
   rw [if_pos hu]
  have small:∀ u,x.at_<=u->(∀ y s,r=y :: s->u<y.at_)->f u=x.free:=by
   intro u hu hv
   rw [hf u hu]
   cases r with
   | nil=>rfl
   | cons y s =>
    have:=hv y s rfl
    show (if y.at_<=u then pv y.free s u else pv x.free s u)=_
    rw [if_neg (by omega)]
    exact Qb1 hs.2.2 (by omega)
  unfold ear
  rw [hw,hw2]
  cases ha:decide (x.at_<a+long) with
  | false =>
   have ha:=of_decide_eq_false ha
   simp only [cond_false]
   exact .inl ⟨rfl,Int.le_refl _,h4,fun u hu hv=>h3 u hu hv (fun y s e=>by cases e;omega),fun v h1 h2=>absurd h2 (by show ¬ v<a;omega)⟩
  | true =>
   have ha:=of_decide_eq_true ha
   simp only [cond_true]
   cases hb:decide (x.free >= n) with
   | true =>
    have hb:=of_decide_eq_true hb
    refine QRa hl r a h0 next (fun u hu hv hw=>?_) h4
    by_cases hx:u<x.at_
    ·exact h3 u hu hv (fun y s e=>by cases e;exact hx)
    ·rw [small u (by omega) hw];exact hb
   | false =>
    have hb:=of_decide_eq_false hb
    simp only [cond_false]
    have bad:∀ v,a<=v->(∀ y s,r=y :: s->v<y.at_) -> ¬ Fit f long n v:=by
     intro v hv hy hfit
     by_cases hx:v<x.at_
     ·have:=hfit x.at_ (by omega) (by omega)
      rw [small x.at_ (Int.le_refl _) (fun y s e=>by subst e;exact hs.1)] at this
      exact hb this
     ·have:=hfit v (Int.le_refl _) (by omega)
      rw [small v (by omega) hy] at this
      exact hb this
    cases r with
    | nil=>exact .inr ⟨rfl,fun v hv _=>bad v hv (fun _ _ h=>nomatch h)⟩
    | cons y s =>
     simp only
     cases hc:decide (y.at_<=a) with
     | true =>
      have hc:=of_decide_eq_true hc
      exact QRa hl (y :: s) a h0 next (fun u hu hv hw=>absurd (hw y s rfl) (by omega)) h4
     | false =>
      have hc:=of_decide_eq_false hc
      simp only [cond_false]
      cases hd:decide (y.at_ > 1000000 - long) with
      | true =>
       have hd:=of_decide_eq_true hd
       exact .inr ⟨rfl,fun v hv hw=>bad v hv (fun y' s' e=>by cases e;omega)⟩
      | false =>
       have hd:=of_decide_eq_false hd
       simp only [cond_false]
       have low:∀ v,a<=v->v<y.at_ -> ¬ Fit f long n v:=fun v hv hw=>bad v hv (fun y' s' e=>by cases e;exact hw)
       rcases QRa hl (y :: s) y.at_ (by omega) next (fun u hu hv hw=>absurd (hw y s rfl) (by omega)) (by omega) with ⟨g1,g2,g3,g4,g5⟩|⟨g1,g2⟩
       ·refine .inl ⟨g1,by omega,g3,g4,fun v hv hw=>?_⟩
        by_cases hy:v<y.at_
        ·exact low v hv hy
        ·exact g5 v (by omega) hw
       ·refine .inr ⟨g1,fun v hv hw=>?_⟩
        by_cases hy:v<y.at_
        ·exact low v hv hy
        ·exact g2 v (by omega) hw
theorem QXc (long n:Int):∀ (l:List Step) (a:Int),(ear long n l a).2=true->(ear long n l a).1=a ∨ ∃ y ∈ l,y.at_=(ear long n l a).1
 | [],a,_=>.inl rfl
 | x :: r,a,h=>by
  have up:∀ q:Int × Bool,(q.1=a ∨ ∃ y ∈ r,y.at_=q.1)->(q.1=a ∨ ∃ y ∈ x :: r,y.at_=q.1):=fun q hq=>hq.imp id fun ⟨y,hy,e⟩=>⟨y,List.mem_cons_of_mem _ hy,e⟩
  revert h
  unfold ear
  cases decide (x.at_<w64 (a+long)) with
  | false=>exact fun _=>.inl rfl
  | true =>
   simp only [cond_true]
   cases decide (x.free >= n) with
   | true=>exact fun h=>up _ (QXc long n r a h)
   | false =>
    simp only [cond_false]
    cases r with
    | nil=>exact fun h=>nomatch h
    | cons y s =>
     simp only
     cases decide (y.at_<=a) with
     | true=>exact fun h=>up _ (QXc long n (y :: s) a h)
     | false =>
      simp only [cond_false]
      cases decide (y.at_ > w64 (1000000 - long)) with
      | true=>exact fun h=>nomatch h
      | false =>
       simp only [cond_false]
       intro h
       refine .inr ?_
       rcases QXc long n (y :: s) y.at_ h with e|⟨z,hz,e⟩
       ·exact ⟨y,List.mem_cons_of_mem _ (List.mem_cons_self ..),e.symm⟩
       ·exact ⟨z,List.mem_cons_of_mem _ hz,e⟩
def QVa (fit:Int->Bool) (a:Int):List Step->Int × Bool
 | []=>(0,false)
 | x :: r=>bif decide (x.at_ > a)&&fit x.at_ then (x.at_,true) else QVa fit a r
theorem Qwd {fit:Int->Bool} {a t:Int} (hat:a<t) (hfit:fit t=true) (hmin:∀ v,a<v->v<t->fit v=false):∀ (l:List Step) (b:Int),Srt b l->(∃ y ∈ l,y.at_=t)->QVa fit a l=(t,true)
 | [],_,_,h=>by obtain ⟨y,hy,_⟩:=h;cases hy
 | x :: r,b,hs,h=>by
  unfold QVa
  obtain ⟨y,hy,e⟩:=h
  rcases List.mem_cons.1 hy with rfl|hm
  ·rw [e,hfit,show decide (t > a)=true from decide_eq_true hat];rfl
  ·have hxt:x.at_<t:=by rw [← e];exact (Quc (f:=0) hs.2.2 y hm).1
   have:(decide (x.at_ > a)&&fit x.at_)=false:=by
    by_cases hx:a<x.at_
    ·rw [hmin _ hx hxt,Bool.and_false]
    ·rw [show decide (x.at_ > a)=false from decide_eq_false hx,Bool.false_and]
   rw [this]
   exact Qwd hat hfit hmin r x.at_ hs.2.2 ⟨y,hm,e⟩
theorem Qv7 {fit:Int->Bool} {a:Int}:∀ (l:List Step),(∀ y ∈ l,a<y.at_->fit y.at_=false)->QVa fit a l=(0,false)
 | [],_=>rfl
 | x :: r,h=>by
  unfold QVa
  have:(decide (x.at_ > a)&&fit x.at_)=false:=by
   by_cases hx:a<x.at_
   ·rw [h x (List.mem_cons_self ..) hx,Bool.and_false]
   ·rw [show decide (x.at_ > a)=false from decide_eq_false hx,Bool.false_and]
  rw [this]
  exact Qv7 r fun y hy=>h y (List.mem_cons_of_mem _ hy)
theorem ear_first {p:List Step} {long n a:Int} {fit:Int->Bool} (hp:Can p) (hl:1<=long) (ha:0<=a) (hm:a+long<=1000000) (hfit:∀ t,0<=t->(fit t=true ↔ t+long<=1000000∧Fit (pat p) long n t)) :
  ear long n p a=(bif fit a then (a,true) else QVa fit a p):=by
 cases p with
 | nil=>exact hp.elim
 | cons x r =>
  obtain ⟨h0,hs,hd⟩:=hp
  have hE:Early (pat (x :: r)) long n a (ear long n (x :: r) a):=QRa hl (x :: r) a ha (fun y s e=>by
    cases e
    refine ⟨hs,fun u hu=>?_⟩
    show (if x.at_<=u then pv x.free r u else pv 0 r u)=_
    rw [if_pos hu]) (fun u hu hv hw=>absurd (hw x r rfl) (by omega)) hm
  have hC:=QXc long n (x :: r) a
  rcases hE with ⟨g1,g2,g3,g4,g5⟩|⟨g1,g2⟩
  ·have ht:0<=(ear long n (x :: r) a).1:=by omega
   have hft:=(hfit _ ht).2 ⟨g3,g4⟩
   have hmin:∀ v,a<=v->v<(ear long n (x :: r) a).1->fit v=false:=by
    intro v hv hw
    cases hq:fit v with
    | false=>rfl
    | true=>exact absurd ((hfit v (by omega)).1 hq).2 (g5 v hv hw)
   by_cases he:(ear long n (x :: r) a).1=a
   ·rw [he] at hft
    rw [hft]
    exact Prod.ext he g1
   ·rw [hmin a (Int.le_refl _) (by omega)]
    refine Eq.trans (Prod.ext rfl g1:ear long n (x :: r) a=((ear long n (x :: r) a).1,true)) ?_
    refine Eq.symm (Qwd (by omega) hft (fun v h1 h2=>hmin v (by omega) h2) (x :: r) (-1) ⟨by omega,by omega,hs⟩ ?_)
    exact (hC g1).resolve_left he
  ·have hno:∀ v,a<=v->fit v=false:=by
    intro v hv
    cases hq:fit v with
    | false=>rfl
    | true=>exact absurd ((hfit v (by omega)).1 hq).2 (g2 v hv ((hfit v (by omega)).1 hq).1)
   rw [hno a (Int.le_refl _),g1]
   exact (Qv7 (x :: r) fun y _ hy=>hno _ (by omega)).symm
theorem pv_later:∀ (p:List Step) (a f u v:Int),Srt a p->u<=v->pv f p v=pv f p u ∨ ∃ x ∈ p,u<x.at_∧x.at_<=v∧pv f p v=x.free
 | [],_,_,_,_,_,_=>.inl rfl
 | x :: r,a,f,u,v,hs,h=>by
  by_cases hv:x.at_<=v
  ·have e1:pv f (x :: r) v=pv x.free r v:=if_pos hv
   by_cases hu:x.at_<=u
   ·have e2:pv f (x :: r) u=pv x.free r u:=if_pos hu
    rw [e1,e2]
    exact (pv_later r x.at_ x.free u v hs.2.2 h).imp id fun ⟨y,hy,e⟩=>⟨y,List.mem_cons_of_mem _ hy,e⟩
   ·rw [e1]
    rcases pv_later r x.at_ x.free u v hs.2.2 h with e|⟨y,hy,e⟩
    ·rw [Qb1 hs.2.2 (by omega:u<=x.at_)] at e
     exact .inr ⟨x,List.mem_cons_self ..,by omega,hv,e⟩
    ·exact .inr ⟨y,List.mem_cons_of_mem _ hy,e⟩
  ·refine .inl ?_
   rw [Qb1 (a:=x.at_ - 1) (p:=x :: r) ⟨by omega,hs.2.1,hs.2.2⟩ (by omega),Qb1 (a:=x.at_ - 1) (p:=x :: r) ⟨by omega,hs.2.1,hs.2.2⟩ (by omega)]
theorem least_fit {p:List Step} (hp:Can p) (a b n:Int) (ha:0<=a) (hab:a<b):(n<=pat p a ∧ ∀ x ∈ p,a<x.at_->x.at_<b->n<=x.free) ↔ ∀ u,a<=u->u<b->n<=pat p u:=by
 have h0:=hp.srt0
 have hs:Srt (-1) p:=by
  cases p with
  | nil=>exact hp.elim
  | cons x r=>exact ⟨by have:=hp.1;omega,by have:=hp.1;omega,hp.2.1⟩
 constructor
 ·rintro ⟨h1,h2⟩ u hu hv
  rcases pv_later p (-1) 0 a u hs hu with e|⟨x,hx,g1,g2,e⟩
  ·show n<=pv 0 p u
   rw [e];exact h1
  ·show n<=pv 0 p u
   rw [e];exact h2 x hx g1 (by omega)
 ·intro h
  refine ⟨h a (Int.le_refl _) hab,fun x hx g1 g2=>?_⟩
  rw [← (h0.mem x hx).2.2]
  exact h _ (by omega) g2
end Go.Proofs.YtcbolcknapeneaaGreatDoor
namespace Go.Fw
set_option linter.unusedSimpArgs false
set_option linter.unusedVariables false
open Go.Proofs Go.Sort
def ah3 (x y:Int × Int × Int):Bool:=decide (y.1<x.1)||(decide (x.1=y.1)&&(decide (x.2.1<y.2.1)||(decide (x.2.1=y.2.1)&&decide (x.2.2<y.2.2))))
def or3 (a b c:Int):Int:=bif a != 0 then a else bif b != 0 then b else c
def cf3 (x y:Int × Int × Int):Int:=or3 (Lib.compareInt y.1 x.1) (Lib.compareInt x.2.1 y.2.1) (Lib.compareInt x.2.2 y.2.2)
theorem lt3 (x y:Int × Int × Int):ltOf cf3 x y=ah3 x y:=by
 unfold ltOf cf3 or3 ah3 Lib.compareInt
 rcases Int.lt_trichotomy x.1 y.1 with h|h|h
 ·simp [h,show ¬ y.1<x.1 by omega,show ¬ x.1=y.1 by omega]
 ·rcases Int.lt_trichotomy x.2.1 y.2.1 with g|g|g
  ·simp [h,g]
  ·rcases Int.lt_trichotomy x.2.2 y.2.2 with k|k|k
   ·simp [h,g,k]
   ·simp [h,g,k]
   ·simp [h,g,k,show ¬ x.2.2<y.2.2 by omega]
  ·simp [h,g,show ¬ x.2.1<y.2.1 by omega,show ¬ x.2.1=y.2.1 by omega]
 ·simp [h]
theorem ah3_iff (x y:Int × Int × Int):ah3 x y=true ↔ (y.1<x.1∨x.1=y.1∧(x.2.1<y.2.1∨x.2.1=y.2.1∧x.2.2<y.2.2)):=by simp [ah3]
theorem Qia (x y:Int × Int × Int):ah3 x y=false ↔ ¬ (y.1<x.1∨x.1=y.1∧(x.2.1<y.2.1∨x.2.1=y.2.1∧x.2.2<y.2.2)):=by rw [← ah3_iff];simp
theorem swo3:SWO (ltOf cf3) where
 irrefl x:=by rw [lt3,Qia];omega
 trans x y z h1 h2:=by rw [lt3,ah3_iff] at *;omega
 ntrans x y z h1 h2:=by rw [lt3,Qia] at *;omega
theorem tot3 (x y:Int × Int × Int) (h1:ltOf cf3 x y=false) (h2:ltOf cf3 y x=false):x=y:=by
 rw [lt3,Qia] at *
 exact Prod.ext (by omega) (Prod.ext (by omega) (by omega))
def ins3 (x:Int × Int × Int):List (Int × Int × Int)->List (Int × Int × Int)
 | []=>[x]
 | y :: r=>bif ah3 y x then y :: ins3 x r else x :: y :: r
def sort3 (l:List (Int × Int × Int)):List (Int × Int × Int):=l.foldl (fun o x=>ins3 x o) []
theorem QEd (x:Int × Int × Int):∀ o,(ins3 x o).Perm (x :: o)
 | []=>.refl _
 | y :: r=>by
  unfold ins3
  cases ah3 y x with
  | true=>exact ((QEd x r).cons y).trans (.swap x y r)
  | false=>exact .refl _
theorem QFd (x:Int × Int × Int):∀ o,o.Pairwise (fun a b=>ah3 b a=false)->(ins3 x o).Pairwise fun a b=>ah3 b a=false
 | [],_=>List.pairwise_singleton _ _
 | y :: r,h=>by
  obtain ⟨h1,h2⟩:=List.pairwise_cons.1 h
  unfold ins3
  cases ha:ah3 y x with
  | true =>
   refine List.pairwise_cons.2 ⟨fun z hz=>?_,QFd x r h2⟩
   rcases List.mem_cons.1 ((QEd x r).mem_iff.1 hz) with rfl|hz
   ·rw [ah3_iff] at ha
    rw [Qia]
    omega
   ·exact h1 z hz
  | false =>
   refine List.pairwise_cons.2 ⟨fun z hz=>?_,h⟩
   rcases List.mem_cons.1 hz with rfl|hz
   ·exact ha
   ·have:=h1 z hz
    rw [Qia] at *
    omega
theorem sort3_go:∀ (l o:List (Int × Int × Int)),o.Pairwise (fun a b=>ah3 b a=false)->(l.foldl (fun o x=>ins3 x o) o).Perm (o++l)∧(l.foldl (fun o x=>ins3 x o) o).Pairwise fun a b=>ah3 b a=false
 | [],o,h=>⟨by simp,h⟩
 | x :: r,o,h=>by
  obtain ⟨h1,h2⟩:=sort3_go r (ins3 x o) (QFd x o h)
  refine ⟨h1.trans ?_,h2⟩
  refine ((QEd x o).append_right r).trans ?_
  exact List.perm_middle.symm
theorem merge3 (l:List (Int × Int × Int)):l.mergeSort (fun x y=>!(ltOf cf3) y x)=sort3 l:=by
 obtain ⟨h1,h2⟩:=sort3_go l [] .nil
 refine List.Perm.eq_of_pairwise (le:=fun x y=>(!(ltOf cf3) y x)=true) (fun a b _ _ g1 g2=>?_) (List.pairwise_mergeSort (fun a b c g1 g2=>?_) (fun a b=>?_) l) (h2.imp fun {a b} h=>by rw [lt3,h];rfl) ((List.mergeSort_perm l _).trans (show l.Perm (sort3 l) from h1.symm))
 ·simp only [Bool.not_eq_true'] at g1 g2
  exact tot3 a b g2 g1
 ·simp only [Bool.not_eq_true',lt3,Qia] at *
  omega
 ·rw [lt3,lt3]
  cases hq:ah3 b a with
  | false=>rfl
  | true =>
   rw [ah3_iff] at hq
   have:ah3 a b=false:=by rw [Qia];omega
   rw [this];rfl
theorem sort3_len (l:List (Int × Int × Int)):(sort3 l).length=l.length:=by
 have h:=(sort3_go l [] .nil).1.length_eq
 rw [List.nil_append] at h
 exact h
end Go.Fw
namespace Go.Fw
set_option linter.unusedSimpArgs false
set_option linter.unusedVariables false
open Go.RowKit Go.Sort Go.Proofs
theorem MemSat.grownK {K:Ctx} {objs:Objs} (os:List Obj):∀ {w:World},MemSat K objs w->MemSat K objs (Go.Sort.grow w os.toArray):=by
 induction os with
 | nil=>intro w h;simpa [Go.Sort.grow] using h
 | cons x r ih =>
  intro w h
  have:=ih (h.junk x)
  rw [Go.Sort.alloc_eq_grow,Go.Sort.grow_grow] at this
  simpa using this
theorem putRow_setRowK {w:World} {g:Nat} {c:Array Value} {t:TypeId} {fr:Nat × Nat} (hb:w.heap[g]? = some (.cells c t fr)) (d:Array Value):Go.Sort.putRow id w g 0 d=w.setRow g (Go.Sort.putCells id 0 d c):=by
 unfold Go.Sort.putRow Go.Sort.mapBlock World.setRow
 congr 1
 apply Array.ext_getElem?
 intro i
 simp only [Array.getElem?_modify]
 by_cases hi:g=i
 ·subst hi
  simp [hb,Go.Sort.onCells]
 ·simp [hi]
def litsA (vs:List Value):List AVal:=vs.map AVal.lit
section
variable {α:Type} [Inhabited α] {K:Ctx} {w:World}
theorem rowK_holds {t:TypeId} {k:Nat} {enc:α->List Value} (hk0:0<k) (hk:∀ x,(enc x).length=k) {l:List α} (h0:l ≠ []) (hm:MemSat K [(0,.row t k (l.map fun x=>litsA (enc x)))] w) :
  HoldsK enc k w (K.ρ 0 0) 0 l.toArray∧K.ρ 0 0<w.heap.size:=by
 have hp0:([(0,.row t k (l.map fun x=>litsA (enc x)))]:Objs)[0]? = some (0,.row t k (l.map fun x=>litsA (enc x))):=rfl
 have hlen:l.length ≠ 0:=by simpa using h0
 obtain ⟨g1,g2,g3⟩:=hm.obj 0 _ hp0
 have hC:K.C 0 0 ≠ 0:=by simp at g2;omega
 obtain ⟨cur,⟨fr,hfr,hbk⟩,hs,h1,hcr⟩:=g3 hC
 have hblk:=(hm.lo 0 _ hp0 rfl hC).2.1
 refine ⟨?_,hblk⟩
 have hsz:l.length*k<=cur.size:=by
  rw [hs]
  simp at g2
  exact Nat.mul_le_mul_right k g2
 intro j hj
 have hj':j<l.length*k:=by simpa using hj
 have hq:j / k<l.length:=Nat.div_lt_of_lt_mul (by rw [Nat.mul_comm];exact hj')
 have hr : j % k < k := Nat.mod_lt _ hk0
 have e1:l[j / k]? = some (l[j / k]'hq):=List.getElem?_eq_getElem hq
 have hlr : j % k < (enc (l[j / k]'hq)).length := by rw [hk]; exact hr
 obtain ⟨u, hu, hru⟩ := hcr (j / k) (j % k) (litsA (enc (l[j / k]'hq))) (.lit ((enc (l[j / k]'hq))[j % k]'hlr)) (by rw [List.getElem?_map, e1]; rfl) (by rw [litsA, List.getElem?_map, List.getElem?_eq_getElem hlr]; rfl)
 have e:=QN0 hru
 subst e
 rw [show j / k * k + j % k = j by rw [Nat.mul_comm]; exact Nat.div_add_mod j k] at hu
 have hval : (flatK enc k l.toArray)[j]! = (enc (l[j / k]'hq))[j % k]'hlr := by
  rw [get_flatK _ _ _ _ (by simpa using hj')]
  rw [getElem!_pos l.toArray (j / k) (by simpa using hq)]
  simp only [List.getElem_toArray]
  rw [getElem!_pos (enc (l[j / k]'hq)) (j % k) hlr]
 refine ⟨?_,?_⟩
 ·simp only [World.cell?,hbk,Nat.zero_add,id]
  rw [hval]
  simpa using hu
 ·have hj2:=hfr j (by omega)
  obtain ⟨lo,hi'⟩:=fr
  simp only at hj2
  simp only [World.frozen?,hbk,Nat.zero_add,Bool.and_eq_false_imp,decide_eq_true_eq,decide_eq_false_iff_not]
  intro h1 h2
  exact hj2 ⟨h1,h2⟩
theorem rowK_sorted {t:TypeId} {k:Nat} {enc:α->List Value} (hk0:0<k) (hk:∀ x,(enc x).length=k) (h1c:∀ x,∀ v ∈ enc x,v.oneCell'=true) {l l':List α} (h0:l ≠ []) (hl:l'.length=l.length) (hm:MemSat K [(0,.row t k (l.map fun x=>litsA (enc x)))] w) (n:Nat) (os:Array Obj) :
  MemSat K [(0,.row t k (l'.map fun x=>litsA (enc x)))] (sortWorldK enc k w (K.ρ 0 0) 0 n l'.toArray os):=by
 have hp0:([(0,.row t k (l.map fun x=>litsA (enc x)))]:Objs)[0]? = some (0,.row t k (l.map fun x=>litsA (enc x))):=rfl
 have hlen:l.length ≠ 0:=by simpa using h0
 obtain ⟨g1,g2,g3⟩:=hm.obj 0 _ hp0
 have hC:K.C 0 0 ≠ 0:=by simp at g2;omega
 obtain ⟨cur,⟨fr,hfr,hbk⟩,hs,h1,hcr⟩:=g3 hC
 have hs':cur.size=K.C 0 0*k:=hs
 have g2':l.length*k<=K.C 0 0*k:=Nat.mul_le_mul_right k (by simpa using g2)
 have hmd:=hm.drawn (w.drawn+n)
 have hbk':(Go.Sort.ahead w n).heap[K.ρ 0 0]? = some (.cells cur t fr):=hbk
 have hflat:(flatK enc k l'.toArray).size=l'.length*k:=by simp
 have hcell:∀ (i j:Nat) (x:α),l'[i]? = some x->j<k->(Go.Sort.putCells id 0 (flatK enc k l'.toArray) cur)[i*k+j]? = (enc x)[j]?:=by
  intro i j x hx hj
  have hi:i<l'.length:=(List.getElem?_eq_some_iff.1 hx).1
  have hb:i*k+j<l'.length*k:=by
   have:=Nat.mul_le_mul_right k (show i+1<=l'.length from hi)
   rw [Nat.add_mul,Nat.one_mul] at this
   omega
  have hc:i*k+j<cur.size:=by
   rw [hl] at hb
   omega
  have hd:(i*k+j) / k=i:=by rw [Nat.mul_comm,Nat.mul_add_div hk0,Nat.div_eq_of_lt hj,Nat.add_zero]
  have hmm : (i * k + j) % k = j := by rw [Nat.mul_comm, Nat.mul_add_mod, Nat.mod_eq_of_lt hj]
  simp only [Go.Sort.putCells,Array.getElem?_mapIdx,Array.getElem?_eq_getElem hc,Option.map_some,Nat.zero_le,Nat.sub_zero,true_and,Nat.zero_add,hflat,id]
  rw [if_pos hb,get_flatK _ _ _ _ (by simpa using hb),hd,hmm,getElem!_pos l'.toArray i (by simpa using hi)]
  have ex:l'.toArray[i]'(by simpa using hi)=x:=by simpa using (List.getElem?_eq_some_iff.1 hx).2
  have hjl:j<(enc x).length:=by rw [hk];exact hj
  rw [ex,getElem!_pos (enc x) j hjl,List.getElem?_eq_getElem hjl]
 have hmr:=hmd.setRow hp0 hC cur (Go.Sort.putCells id 0 (flatK enc k l'.toArray) cur) ⟨fr,hfr,hbk⟩ (by simp [Go.Sort.putCells]) (fun u hu=>by
   simp only [Go.Sort.putCells,Array.mem_toList_iff,Array.mem_mapIdx] at hu
   obtain ⟨i,hi,rfl⟩:=hu
   split
   ·rename_i hb
    have hb':i<l'.length*k:=by simpa [hflat] using hb.2
    have hq:i / k<l'.length:=Nat.div_lt_of_lt_mul (by rw [Nat.mul_comm];exact hb')
    have hr : i % k < k := Nat.mod_lt _ hk0
    simp only [Nat.sub_zero,id]
    rw [get_flatK _ _ _ _ (by simpa using hb')]
    have hlr : i % k < (enc (l'.toArray[i / k]!)).length := by rw [hk]; exact hr
    rw [getElem!_pos (enc (l'.toArray[i / k]!)) (i % k) hlr]
    exact h1c _ _ (List.getElem_mem hlr)
   ·exact h1 _ (Array.mem_toList_iff.2 (Array.getElem_mem hi))) (l'.map fun x=>litsA (enc x)) (by simp at g2 ⊢;omega) (by simp [litsA,hk]) (fun i j e x he hx=>by
   rw [List.getElem?_map] at he
   obtain ⟨q,hq,rfl⟩:=Option.map_eq_some_iff.1 he
   rw [litsA,List.getElem?_map] at hx
   obtain ⟨u,hu,rfl⟩:=Option.map_eq_some_iff.1 hx
   have hj:j<k:=by have:=(List.getElem?_eq_some_iff.1 hu).1;rw [hk] at this;exact this
   exact ⟨u,(hcell i j q hq hj).trans hu,.lit _⟩)
 have:=MemSat.grownK os.toList hmr
 unfold sortWorldK putRowK
 rw [putRow_setRowK hbk']
 have e:os.toList.toArray=os:=by simp
 rw [e] at this
 exact this
end
theorem sortFunc_moves {α:Type} [Inhabited α] {P:Program} {f g:Nat} {t:TypeId} {k:Nat} {enc:α->List Value} (hk0:0<k) (hk:∀ x,(enc x).length=k) (h1c:∀ x,∀ v ∈ enc x,v.oneCell'=true) {l l':List α} (hl:l'.length=l.length)
  (hN:∀ (p:Option Addr) (cap:Nat) (w:World),Calls P f #[.slice p 0 cap,.func (.func g) #[] #[]] w fun e w'=>e = .returned (.tuple #[])∧w'=w)
  (hS:∀ (blk cap:Nat) (w:World),HoldsK enc k w blk 0 l.toArray->blk<w.heap.size->Calls P f #[.slice (some ⟨blk,0,none⟩) l.length cap,.func (.func g) #[] #[]] w fun e w'=>e = .returned (.tuple #[]) ∧ ∃ n os,w'=sortWorldK enc k w blk 0 n l'.toArray os) :
  AMoves P f [.own 0 0 k 0 l.length,.fn (.func g) [] []] [(0,.row t k (l.map fun x=>litsA (enc x)))] 1 (.tup []) [(0,.row t k (l'.map fun x=>litsA (enc x)))]:=by
 intro K w vs hm hr
 obtain ⟨v,u,rfl⟩:∃ v u,vs=[v,u]:=by
  have hl:=hr.1
  match vs,hl with
  | [v,u],_=>exact ⟨v,u,rfl⟩
 obtain ⟨_,_,hcase⟩:=Qd6 (hr.2 0 _ _ rfl rfl)
 have hu:u = .func (.func g) #[] #[]:=by
  have hf:=hr.2 1 _ _ rfl rfl
  generalize u=u at hf
  cases hf with
  | fn _ _ _ us ws hl hm h1 h2 =>
   have e1:us=[]:=by cases us with|nil=>rfl|cons _ _=>simp at hl
   have e2:ws=[]:=by cases ws with|nil=>rfl|cons _ _=>simp at hm
   subst e1 e2
   rfl
 subst hu
 by_cases h0:l=[]
 ·subst h0
  have e:l'=[]:=List.eq_nil_of_length_eq_zero (by simpa using hl)
  subst e
  obtain ⟨p,cap,rfl⟩:∃ p cap,v = .slice p 0 cap:=by
   rcases hcase with ⟨_,_,rfl⟩|⟨a,cap,rfl,_⟩
   ·exact ⟨none,0,rfl⟩
   ·exact ⟨some a,cap,rfl⟩
  refine (hN p cap w).mono ?_
  rintro e w' ⟨rfl,rfl⟩
  exact ⟨_,K,rfl,QPa (by rw [← hm.len];simp),hm,.tup _ _ rfl (by intro i x v hx;simp at hx)⟩
 have hlen:l.length ≠ 0:=by simpa using h0
 rcases hcase with ⟨_,q,_⟩|⟨a,cap,rfl,q1,q2,q3⟩
 ·exact absurd q hlen
 have ha:=q3 (by omega)
 simp only [Nat.zero_mul] at ha
 subst ha
 obtain ⟨hH,hblk⟩:=rowK_holds hk0 hk h0 hm
 refine (hS _ cap w hH hblk).mono ?_
 rintro e w' ⟨rfl,n,os,rfl⟩
 exact ⟨_,K,rfl,QPa (by rw [← hm.len];simp),rowK_sorted hk0 hk h1c h0 hl hm n os,.tup _ _ rfl (by intro i x v hx;simp at hx)⟩
end Go.Fw
namespace Go.Proofs.YtcbolcknapeneaaGreatDoor
set_option linter.unusedSimpArgs false
set_option linter.unusedVariables false
open Go.Shelf Go.Sort Go.RowKit
def sflRen:Ren :=
 {f:=fun x=>match x with
   | 14=>337
   | 20=>354
   | 21=>355
   | 22=>356
   | 23=>357
   | 24=>358
   | 25=>359
   | 26=>360
   | 27=>361
   | 46=>373
   | 47=>344
   | 48=>345
   | 49=>374
   | 50=>375
   | 15=>294
   | 57=>388
   | 28=>330
   | 29=>331
   | n=>n
  t:=fun x=>match x with
   | 24=>277
   | 22=>272
   | 3=>3
   | 25=>316
   | 4=>4
   | 0=>0
   | 46=>326
   | 45=>325
   | 50=>136
   | 66=>343
   | 39=>242
   | 55=>33
   | 70=>347
   | 76=>371
   | 77=>305
   | 53=>332
   | 5=>5
   | 9=>9
   | n=>n
  g:=fun x=>x }
theorem sflLays:SlLaysF0.n14 Tryz.prog sflRen where
 mixed:=by kernel_rfl
 f14 := ⟨ "slices.pdqsortCmpFunc[muster/share.ranked[int]]", of_decide_eq_true rfl, Tryz.func337.trans (by kernel_rfl)⟩
 f15:=Tryz.func294.trans (by kernel_rfl)
 f20 := ⟨ "slices.insertionSortCmpFunc[muster/share.ranked[int]]", of_decide_eq_true rfl, Tryz.func354.trans (by kernel_rfl)⟩
 f21 := ⟨ "slices.heapSortCmpFunc[muster/share.ranked[int]]", of_decide_eq_true rfl, Tryz.func355.trans (by kernel_rfl)⟩
 f22 := ⟨ "slices.breakPatternsCmpFunc[muster/share.ranked[int]]", of_decide_eq_true rfl, Tryz.func356.trans (by kernel_rfl)⟩
 f23 := ⟨ "slices.choosePivotCmpFunc[muster/share.ranked[int]]", of_decide_eq_true rfl, Tryz.func357.trans (by kernel_rfl)⟩
 f24 := ⟨ "slices.reverseRangeCmpFunc[muster/share.ranked[int]]", of_decide_eq_true rfl, Tryz.func358.trans (by kernel_rfl)⟩
 f25 := ⟨ "slices.partialInsertionSortCmpFunc[muster/share.ranked[int]]", of_decide_eq_true rfl, Tryz.func359.trans (by kernel_rfl)⟩
 f26 := ⟨ "slices.partitionEqualCmpFunc[muster/share.ranked[int]]", of_decide_eq_true rfl, Tryz.func360.trans (by kernel_rfl)⟩
 f27 := ⟨ "slices.partitionCmpFunc[muster/share.ranked[int]]", of_decide_eq_true rfl, Tryz.func361.trans (by kernel_rfl)⟩
 f28:=Tryz.func330.trans (by kernel_rfl)
 f29:=Tryz.func331.trans (by kernel_rfl)
 f46 := ⟨ "slices.siftDownCmpFunc[muster/share.ranked[int]]", of_decide_eq_true rfl, Tryz.func373.trans (by kernel_rfl)⟩
 f47:=Tryz.func344.trans (by kernel_rfl)
 f48:=Tryz.func345.trans (by kernel_rfl)
 f49 := ⟨ "slices.medianAdjacentCmpFunc[muster/share.ranked[int]]", of_decide_eq_true rfl, Tryz.func374.trans (by kernel_rfl)⟩
 f50 := ⟨ "slices.medianCmpFunc[muster/share.ranked[int]]", of_decide_eq_true rfl, Tryz.func375.trans (by kernel_rfl)⟩
 f57 := ⟨ "slices.order2CmpFunc[muster/share.ranked[int]]", of_decide_eq_true rfl, Tryz.func388.trans (by kernel_rfl)⟩
 t0:=Tryz.underlying0
 a0:=Tryz.isAgg0
 z0:=Tryz.sizeOf0
 v0:=Tryz.zeroValue0
 t3:=Tryz.underlying3
 a3:=Tryz.isAgg3
 z3:=Tryz.sizeOf3
 v3:=Tryz.zeroValue3
 t4:=Tryz.underlying4
 a4:=Tryz.isAgg4
 z4:=Tryz.sizeOf4
 v4:=Tryz.zeroValue4
 t5:=Tryz.underlying5
 a5:=Tryz.isAgg5
 z5:=Tryz.sizeOf5
 v5:=Tryz.zeroValue5
 t9:=Tryz.underlying9
 a9:=Tryz.isAgg9
 z9:=Tryz.sizeOf9
 v9:=Tryz.zeroValue9
 t22:=Tryz.underlying272
 a22:=Tryz.isAgg272
 z22:=Tryz.sizeOf272
 v22:=Tryz.zeroValue272
 t25:=Tryz.underlying316
 a25:=Tryz.isAgg316
 z25:=Tryz.sizeOf316
 v25:=Tryz.zeroValue316
 t39:=Tryz.underlying242
 a39:=Tryz.isAgg242
 z39:=Tryz.sizeOf242
 v39:=Tryz.zeroValue242
 t45:=Tryz.underlying325
 a45:=Tryz.isAgg325
 z45:=Tryz.sizeOf325
 v45:=Tryz.zeroValue325
 t46:=Tryz.underlying326
 a46:=Tryz.isAgg326
 z46:=Tryz.sizeOf326
 v46:=Tryz.zeroValue326
 t50:=Tryz.underlying136
 a50:=Tryz.isAgg136
 z50:=Tryz.sizeOf136
 v50:=Tryz.zeroValue136
 t53:=Tryz.underlying332
 a53:=Tryz.isAgg332
 z53:=Tryz.sizeOf332
 v53:=Tryz.zeroValue332
 t55:=Tryz.underlying33
 a55:=Tryz.isAgg33
 z55:=Tryz.sizeOf33
 v55:=Tryz.zeroValue33
 t66:=Tryz.underlying343
 a66:=Tryz.isAgg343
 z66:=Tryz.sizeOf343
 v66:=Tryz.zeroValue343
 t70:=Tryz.underlying347
 a70:=Tryz.isAgg347
 z70:=Tryz.sizeOf347
 v70:=Tryz.zeroValue347
 t76:=Tryz.underlying371
 a76:=Tryz.isAgg371
 z76:=Tryz.sizeOf371
 v76:=Tryz.zeroValue371
 t77:=Tryz.underlying305
 a77:=Tryz.isAgg305
 z77:=Tryz.sizeOf305
 v77:=Tryz.zeroValue305
end Go.Proofs.YtcbolcknapeneaaGreatDoor
