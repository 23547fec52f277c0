/-
  What the last text of this claim leans on: an evaluator over the code, contracts of functions, plain laws. Conditions stand in each statement.
-/
import Derived.Test.YtgnlcjenoaoffaaGreatDoorRH6
import Derived.ScopeJumps
import Derived.RangeFuncFrom
import Derived.RangeFuncCalls
import Derived.RangeFuncLeaves
import Derived.TacticsIn
import Derived.Test.YtgnlcjenoaoffaaGreatDoorProg
import Derived.Laws.RangeString
import Derived.Laws.RangeAny
import Derived.Lib.Strings
import Derived.Lib.Slices
import Derived.Lib.Walk
import Derived.Lib.Bytealg
import Derived.Shelf.Strings.BuilderX
import Derived.Shelf.RegionOpenPlain
import Derived.Lib.Builder
import Derived.Lib.AppendStr
import Derived.Lib.UnsafeStr
import Derived.Lib.MakeNoZero
import Derived.WalkKit
import Derived.Laws.Externs
import Derived.Laws.IdiomCopy
import Derived.Laws.BitsLemmas
import Derived.KernelRfl
import Derived.RangeFuncBound
import Derived.Shelf.Abstract
import Derived.Shelf.RegionOpen
import Derived.OwnWalkIn
import Derived.TacticsInMore
import Derived.LoopNIn
import Derived.LoopIn
import Derived.Sort.LoopGhostIn
namespace Go.Fw
set_option linter.unusedSimpArgs false
set_option linter.unusedVariables false
open Go.RowKit
section
variable {P:Program} {nt n0:Nat} {keep:Nat->Bool}
def JumpQ (nt n0 l m:Nat) (I:Nat->List (Nat × AVal)->Objs->Prop) (Q:CQ):CQ:=fun e s o =>
 match e with
 | .goto l'=>l'=l ∧ ∃ m' s' o',m'<m∧Weaker nt n0 ⟨s,o⟩ ⟨s',o'⟩∧I m' s' o'
 | e=>Q e s o
theorem scope_jumps {b rest:Code} {Q:CQ} {sl:List (Nat × AVal)} {o:Objs} (l m0:Nat) (I:Nat->List (Nat × AVal)->Objs->Prop) (hf:findLabel b l=some rest)
  (pass:∀ m s o,I m s o->cwp P nt n0 keep rest (JumpQ nt n0 l m I Q) s o) (first:cwp P nt n0 keep b (JumpQ nt n0 l m0 I Q) sl o) :
  Qn9 P nt n0 (.scope b) (fun e t=>Q e t.slots t.objs) ⟨sl,o⟩:=by
 intro K0 K a w hn hle hs c k cs;have hg:gotoIn l (.inScope b :: k)=some (.code rest :: .inScope b :: k):=by simp [gotoIn,hf]
 have key:∀ n s K a w,K0.le K->Sat nt K s a w->I n s.slots s.objs -> ∃ e a' w',Post nt K0 (fun e t=>Q e t.slots t.objs) e a' w'∧Arrives P (lone (c.at a (.code rest :: .inScope b :: k)) cs w) c k cs e a' w':=by
  intro n
  induction n using Nat.strongRecOn with
  | _ n ih =>
   intro s K a w hle hs hI;obtain ⟨e,a₁,w₁,⟨e',K',s',rfl,hle',hs',hq⟩,harr⟩:=Qp7 rest _ s K0 K a w hn hle hs (QJ8 rest _ _ _ (pass n _ _ hI)) c (.inScope b :: k) cs;cases e' with
   | normal=>exact ⟨_,a₁,w₁,⟨.normal,K',s',rfl,hle',hs',hq⟩,Steps.trans harr (.one step_inScope)⟩
   | exit id=>exact ⟨_,a₁,w₁,⟨.exit id,K',s',rfl,hle',hs',hq⟩,fun k' hk=>harr k' (by simp [exitTo,hk])⟩
   | goto l' =>
    obtain ⟨rfl,m',s2,o2,hlt,hw,hI'⟩:=hq;obtain ⟨K'',hle'',hs''⟩:=hw K0 K' a₁ w₁ hn hle' hs';obtain ⟨e₂,a₂,w₂,hq₂,harr₂⟩:=ih m' hlt ⟨s2,o2⟩ K'' a₁ w₁ hle'' hs'' hI';exact ⟨e₂,a₂,w₂,hq₂,.of_steps (harr _ hg) harr₂⟩
   | ret=>exact ⟨_,a₁,w₁,⟨.ret,K',s',rfl,hle',hs',hq⟩,harr⟩
 obtain ⟨e,a₁,w₁,⟨e',K',s',rfl,hle',hs',hq⟩,harr⟩:=Qp7 b _ ⟨sl,o⟩ K0 K a w hn hle hs (QJ8 b _ _ _ first) c (.inScope b :: k) cs;cases e' with
 | normal=>exact ⟨_,a₁,w₁,⟨.normal,K',s',rfl,hle',hs',hq⟩,.head step_scope (Steps.trans harr (.one step_inScope))⟩
 | exit id=>exact ⟨_,a₁,w₁,⟨.exit id,K',s',rfl,hle',hs',hq⟩,fun k' hk=>.head step_scope (harr k' (by simp [exitTo,hk]))⟩
 | goto l' =>
  obtain ⟨rfl,m',s2,o2,_,hw,hI'⟩:=hq;obtain ⟨K'',hle'',hs''⟩:=hw K0 K' a₁ w₁ hn hle' hs';obtain ⟨e₂,a₂,w₂,hq₂,harr₂⟩:=key m' ⟨s2,o2⟩ K'' a₁ w₁ hle'' hs'' hI';exact ⟨e₂,a₂,w₂,hq₂,.of_steps (.head step_scope (harr _ hg)) harr₂⟩
 | ret=>exact ⟨_,a₁,w₁,⟨.ret,K',s',rfl,hle',hs',hq⟩,.of_steps (.one step_scope) harr⟩
theorem scope_start2 {A0 A1:Type} {b rest:Code} {Q:CQ} {sl:List (Nat × AVal)} {o:Objs} (l m0:Nat) (inv:A0->A1->Prop) (ms:A0->A1->Nat) (s1:A0->A1->List (Nat × AVal)) (o1:A0->A1->Objs) (hf:findLabel b l=some rest)
  (pass:∀ x0 x1,inv x0 x1->cwp P nt n0 keep rest (JumpQ nt n0 l (ms x0 x1) (LoopI2 inv ms s1 o1) Q) (s1 x0 x1) (o1 x0 x1)) (first:cwp P nt n0 keep b (JumpQ nt n0 l m0 (LoopI2 inv ms s1 o1) Q) sl o) :
  ∃ R:AExit->List (Nat × AVal)->Objs->Prop,Qn9 P nt n0 (.scope b) (fun e t=>R e t.slots t.objs) ⟨sl,o⟩ ∧ ∀ e s o,R e s o->Q e s o :=
 ⟨Q,scope_jumps l m0 _ hf (by rintro _ _ _ ⟨x0,x1,hy,rfl,rfl,rfl⟩;exact pass x0 x1 hy) first,fun _ _ _ h=>h⟩
end
theorem Qaa {P:Program} {l n:Nat} {ops:Array Oper} {Q:Exit->Act->World->Prop} (hQ:¬ LetsOut Q) (hop:∀ o ∈ ops.toList,∀ c,o.op ≠ .defer c):∀ (is:List Nat) (a:Act) (w:World),
  wpOps P ops Q is a w->wpOpsIn (Fence.wide.inRound l) n P ops Q is a w
 | [],a,w,h=>h
 | i :: rest,a,w,h=>by
  simp only [wpOps] at h;simp only [wpOpsIn];cases ho:ops[i]? with
  | none =>
   simp only [ho] at h ⊢;exact Qaa hQ hop rest a w h
  | some o =>
   simp only [ho] at h ⊢
   by_cases hw:Region.wanted o (yielded ops a.tmps)=true
   ·simp only [hw,if_true] at h ⊢;rcases h with h|⟨_,h⟩
    ·refine ⟨fun _ _=>trivial,?_⟩;have hm:o ∈ ops.toList:=yza (by simpa using ho);rw [Fence.inRound_round,Oper.semAt_some l _ o (hop o hm)];unfold Oper.wp at h;have ih:=fun a w=>Qaa (P:=P) (l:=l) (n:=n) hQ hop rest a w
     revert h;generalize (execOp a.eval o).run P w=r;intro h;cases r with
     | ok nx w' =>
      cases nx with
      | value v=>exact ih _ _ h
      | skip=>exact ih _ _ h
      | defer d=>exact ih _ _ h
      | enter f args =>
       refine ⟨fun hd=>by simp [Fence.inRound,Fence.wide] at hd,?_⟩;refine CallsIn.inRound l (callsIn_wide.2 ?_);refine Calls.mono h ?_;intro e w'' hr;cases e with
       | returned v=>exact ih _ _ hr
       | panicked chain=>exact hr
       | outgrown=>exact hr
      | row row args =>
       refine ⟨fun hd=>by simp [Fence.inRound,Fence.wide] at hd,fun c cs _=>?_⟩;obtain ⟨v,w'',hr,hs⟩:=h c cs;exact ⟨v,w'',ih _ _ hr,stepsIn_wide.2 hs⟩
      | _=>exact h.elim
     | halt r w' =>
      cases r with
      | panic v=>exact h
      | _=>exact h.elim
    ·exact absurd h hQ
   ·simp only [hw,y1a,if_false] at h ⊢;exact ⟨fun _ _=>trivial,Qaa hQ hop rest _ w h⟩
theorem MemSat.cells {K:Ctx} {s:Objs} {w:World} (h:MemSat K s w) {o:Nat} {q:Nat × AObj} (hq:s[o]? = some q) (hl:q.2.live=true) (hC:K.C o q.1 ≠ 0) (hr:∃ t k es,q.2 = .row t k es):∃ c t fr,w.heap[K.ρ o q.1]? = some (.cells c t fr):=by
 obtain ⟨ver,x⟩:=q;obtain ⟨t,k,es,rfl⟩:=hr;obtain ⟨_,_,h3⟩:=h.obj o _ hq;obtain ⟨c,⟨fr,_,hc⟩,_⟩:=h3 hC;exact ⟨c,t,fr,hc⟩
theorem Q3b {w:World} {b i:Nat} {u:Value} (h:w.cell? ⟨b,i,none⟩=some u):∃ c t fr,w.heap[b]? = some (.cells c t fr):=by
 unfold World.cell? at h;split at h
 ·rename_i c t fr e;exact ⟨c,t,fr,e⟩
 ·simp at h
theorem MemSat.turned {K:Ctx} {s:Objs} {W W':World} {row:Option Nat} {B0:Nat} (h:MemSat K s W) (hrows:∀ q ∈ s,q.2.live=true -> ∃ t k es,q.2 = .row t k es) (hB:∀ b x,K.B b=some x->b<B0)
  (hg:W.grownBy W' row) (hr:∀ r,row=some r->B0<=r ∧ ∃ o:Obj,W.heap[r]? = some o∧o.isCells=false):MemSat K s W':=by
 have same:∀ (b:Nat) (c:Array Value) (t:TypeId) (fr:Nat × Nat),W.heap[b]? = some (.cells c t fr)->W'.heap[b]? = W.heap[b]?:=by
  intro b c t fr hb;refine hg.block b (Array.getElem?_eq_some_iff.1 hb).1 fun e=>?_
  obtain ⟨_,o,ho,hn⟩:=hr b e.symm;rw [hb] at ho;cases ho;simp [Obj.isCells] at hn
 have own:∀ (o:Nat) (p:Nat × AObj),s[o]? = some p->p.2.live=true->K.C o p.1 ≠ 0->W'.heap[K.ρ o p.1]? = W.heap[K.ρ o p.1]?:=by
  intro o p hp hl hC;obtain ⟨c,t,fr,hc⟩:=h.cells hp hl hC (hrows p (yza hp) hl);exact same _ _ _ _ hc
 refine ⟨h.len,h.ver,fun o p hp=>ObjSat.mono (Ctx.le.refl K) (h.olt hp) (by rw [h.ver o p hp];exact yia _) (h.obj o p hp) (fun hl hC=>own o p hp hl hC),fun o p hp hl hC=>?_,h.dis,fun b i u hu=>?_,?_⟩
 ·obtain ⟨h1,h2,h3⟩:=h.lo o p hp hl hC;exact ⟨h1,yUa h2 hg.size,h3⟩
 ·obtain ⟨h1,h2⟩:=h.mem b i u hu;obtain ⟨c,t,fr,hc⟩:=Q3b h1;exact ⟨(World.cell?_of_block (a:=⟨b,i,none⟩) (same _ _ _ _ hc)).trans h1,h2⟩
 ·refine h.below.step rfl rfl hg.os hg.tape hg.output hg.size fun b x hx=>hg.block b (h.below.lt hx) fun e=>?_
  have:=(hr b e.symm).1;have:=hB b x hx;omega
def QY5 (B:Nat->Option Obj) (W:World) (b:Nat):Option Obj :=
 match B b with
 | some x=>some x
 | none=>match W.heap[b]? with|some (.cells ..)=>none|some x=>some x|none=>none
theorem Qzb {B:Nat->Option Obj} {W:World} {b:Nat} {x:Obj} (h:B b=some x):QY5 B W b=some x:=by simp only [QY5,h]
theorem roundB_cells {B:Nat->Option Obj} {W:World} {b:Nat} {c:Array Value} {t:TypeId} {fr:Nat × Nat} (h:B b=none) (hb:W.heap[b]? = some (.cells c t fr)):QY5 B W b=none:=by simp only [QY5,h,hb]
theorem roundB_heap {B:Nat->Option Obj} {W:World} {b:Nat} {x:Obj} (h:QY5 B W b=some x):B b=some x∨(W.heap[b]? = some x∧x.isCells=false):=by
 unfold QY5 at h;split at h
 ·rename_i y hy;simp only [yaa] at h;subst h;exact .inl hy
 ·right;split at h
  ·cases h
  ·rename_i y hne hy;simp only [yaa] at h;subst h;refine ⟨hy,?_⟩;cases y with
   | cells c t fr=>exact (hne _ _ _ rfl).elim
   | _=>rfl
  ·cases h
theorem roundB_same {B:Nat->Option Obj} {W W':World} (hp:∀ b x,QY5 B W b=some x->W'.heap[b]? = some x) (hB:∀ b x,B b=some x->W.heap[b]? = some x) (hsz:W.heap.size<=W'.heap.size):KeepsOthers W W':=by
 refine ⟨hsz,fun k o hk hn=>hp k o ?_⟩;unfold QY5;split
 ·rename_i x hx;rw [hB k x hx] at hk;simpa using hk
 ·rw [hk];cases o with
  | cells c t fr=>simp [Obj.isCells] at hn
  | _=>rfl
section
variable {P:Program} {nt n0:Nat}
def RoundI (nt:Nat) (K0 K:Ctx) (slots:List (Nat × AVal)) (objs:Objs) (tmps:Array Value) (W:World):Prop :=
 ∃ K1:Ctx,K0.le K1∧K1.B=K.B∧Sat nt K1 ⟨slots,objs⟩ { tmps:=tmps,defers:=[] } W
theorem rangeW_region {α:Type} {g:Operand} {p q aid bid rid:Nat} {oa:Oper} {ops:Array Oper} {s:St} (e:α->Value) (S:List α->Prop) (N:Nat) (so:List α->Objs) (h0:so []=s.objs) (hp:p<nt) (hq:q<nt)
  (hoa:oa.op = .assign (.tmp p)) (hod:oa.dst=some q) (hog:oa.guard=none) (hfree:Q71 s.slots p = .any)
  (hrows:∀ xs q,q ∈ so xs->q.2.live=true -> ∃ t k es,q.2 = .row t k es)
  (hit:∀ K a w,Sat nt K s a w -> ∃ (gf:Nat) (lb:Array Value) (pc:Addr) (u:Value),a.eval g = .func (.func gf) #[] lb∧(∀ args w,(callFunc gf args).run P w = .ok (.enter gf args) w)∧pc.block<w.heap.size ∧
   (∀ K1 xs W,Sat nt K1 ⟨s.slots,so xs⟩ { tmps:=a.tmps,defers:=[] } W->W.cell? pc=some u) ∧
   SeqStopsK Fence.wide 2 P gf lb (fun x=>#[e x]) (fun W W'=>W.cell? pc=some u->W'.cell? pc=some u) S (fun _=>True) N w)
  (hdefer:∀ o ∈ ops.toList,∀ c,o.op ≠ .defer c)
  (hbody:∀ pre x,pre.length<N->QC6 P nt ops ((q,.lit (e x)) :: s.slots) false ops.toList (Qsa ⟨(q,.lit (e x)) :: s.slots,so pre⟩) (fun rs=>Weaker nt n0 ⟨s.slots,rs.objs⟩ ⟨s.slots,so (pre++[x])⟩)) :
  Qn9 P nt n0 (.rangeFunc g #[p] (.region aid #[oa] false) (.block bid (.region rid ops false))) (fun e t=>e = .normal ∧ ∃ xs,S xs∧t=⟨s.slots,so xs⟩) s:=by
 intro K0 K a w hn hle hs;obtain ⟨gf,lb,pc,u,hg,eg,hpc,hkeep,hseq⟩:=hit K a w hs;have hBlt:∀ b x,K.B b=some x->b<w.heap.size:=fun b x hx=>hs.mem.below.lt hx
 refine (wpIn_wide (n:=3)).1 (wpIn_rangeFunc_ownF (F:=Fence.wide) rfl (by decide) hg trivial eg hseq (fun h k q=>k (h q)) ?_ (Below.refl _ w) (fun _=>rfl)
  (fun xs W=>RoundI nt K0 K s.slots (so xs) a.tmps W) (fun _ _ _=>False) ?_ (fun _ _ _ _ _ h=>h.elim) ?_ (fun x=>{ tmps:=(a.tmps.setIfInBounds p (e x)).setIfInBounds q (e x),defers:=[] }) ?_ ?_ ?_ (fun _ _ _ _ _ _ h=>h.elim))
 ·intro W l o o' hl ho _ _ hc;have hne:pc.block ≠ l:=by omega
  exact (World.cell?_of_block (World.putObj_heap_other hne)).trans hc
 ·rintro xs W W' row ⟨K1,hle1,hB1,hs1⟩ hg' hr;exact ⟨K1,hle1,hB1,hs1.mem.turned (hrows xs) (fun b x hx=>hBlt b x (by rw [← hB1];exact hx)) hg' hr,hs1.slot,hs1.size,Marks.nil⟩
 ·exact ⟨K,hle,rfl,by rw [h0];exact hs.mem,hs.slot,hs.size,Marks.nil⟩
 ·intro l x W Kq hK;refine wpIn_region ?_;have hz:(#[p].zip #[e x]) = #[(p,e x)]:=by simp
  have hsz:a.tmps.size=nt:=hs.size;have hv:(a.tmps.setIfInBounds p (e x)).getD p undef=e x:=by
   rw [yya,yvb oA]
   rfl
  simp only [hz];show wpOpsIn (Fence.wide.inRound l) _ P #[oa] _ [0] _ _;simp only [wpOpsIn,y9a,yab,Region.wanted,hog,if_true];refine ⟨fun f hf=>by simp [Oper.about,hoa] at hf,?_⟩;rw [Oper.semAt_eq _ _ _ (by simp [hoa])];unfold execOp;rw [hoa];show Kq (Act.put _ oa.dst _) W;rw [hod];show Kq { tmps:=(a.tmps.setIfInBounds p (e x)).setIfInBounds q ((a.tmps.setIfInBounds p (e x)).getD p undef),defers:=[] } W;rw [hv];exact hK
 ·rintro l pre x W ⟨K1,hle1,hB1,hs1⟩ hlen;have hBW:∀ b y,K.B b=some y->W.heap[b]? = some y:=fun b y hy=>hs1.mem.below.block b y (by rw [hB1];exact hy)
  have hm2:MemSat { K1 with B:=QY5 K.B W,w0:=W } (so pre) W:=by
   refine hs1.mem.with _ W (fun o q hq hl hC=>?_) ⟨rfl,rfl,rfl,yia _,fun b y hy=>?_⟩
   ·obtain ⟨c,t,fr,hc⟩:=hs1.mem.cells hq hl hC (hrows pre q (yza hq) hl);refine roundB_cells ?_ hc;rw [← hB1];exact (hs1.mem.lo o q hq hl hC).1
   ·rcases roundB_heap hy with h|h
    ·exact hBW b y h
    ·exact h.1
  obtain ⟨Kb,hKb⟩:∃ Kb:Ctx,Kb={ K0 with B:=QY5 K.B W,w0:=W,M:=fun b i=>match QY5 K.B W b with|some _=>K1.M b i|none=>K0.M b i }:=⟨_,rfl⟩;have hKbM:∀ b i u,K0.M b i=some u->Kb.M b i=some u:=by
   intro b i u hu;rw [hKb];show (match QY5 K.B W b with|some _=>K1.M b i|none=>K0.M b i)=some u;split
   ·exact hle1.M b i u hu
   ·exact hu
  have hKb0:∀ b i y,QY5 K.B W b=some y->Kb.M b i=K1.M b i:=by
   intro b i y hy;rw [hKb];show (match QY5 K.B W b with|some _=>K1.M b i|none=>K0.M b i)=_;rw [hy]
  have hleb:Kb.le { K1 with B:=QY5 K.B W,w0:=W }:=by
   refine ⟨fun b i u hu=>?_,by rw [hKb];exact hle1.ρ,by rw [hKb];exact hle1.C,by rw [hKb];exact hle1.n,by rw [hKb];exact hle1.vs,by rw [hKb],by rw [hKb];exact fun _ _ h=>h,fun b i y hy=>?_⟩
   ·rw [hKb] at hu;show K1.M b i=some u;change (match QY5 K.B W b with|some _=>K1.M b i|none=>K0.M b i)=some u at hu;split at hu
    ·exact hu
    ·exact hle1.M b i u hu
   ·rw [hKb] at hy;exact (hKb0 b i y hy).symm
  have hs2:Sat nt { K1 with B:=QY5 K.B W,w0:=W } ⟨(q,.lit (e x)) :: s.slots,so pre⟩ { tmps:=(a.tmps.setIfInBounds p (e x)).setIfInBounds q (e x),defers:=[] } W:=by
   refine ⟨hm2,fun t=>?_,by have:=hs1.size;simpa using this,Marks.nil⟩;show Rep _ (Q71 ((q,.lit (e x)) :: s.slots) t) _;have hsz:a.tmps.size=nt:=hs1.size;rw [Qj2]
   by_cases ht:q=t
   ·subst ht;rw [if_pos rfl];have:((a.tmps.setIfInBounds p (e x)).setIfInBounds q (e x)).getD q undef=e x:=by
     rw [yya,yvb (by simp;omega)]
     rfl
    simp only [this];exact .lit _
   ·rw [if_neg ht]
    by_cases hpt:p=t
    ·subst hpt;rw [hfree];exact .any _
    ·have:((a.tmps.setIfInBounds p (e x)).setIfInBounds q (e x)).getD t undef=a.tmps.getD t undef:=by
      rw [yya,yya,yPa ht,yPa hpt]
     simp only [this];exact (hs1.slot t).monoR (QK3 K1 _ W)
  refine wpIn_block (wpIn_region ?_);refine Qaa ?_ hdefer _ _ _ ?_
  ·rintro ⟨a',w',h⟩;exact h
  rw [yZb];refine QJ7 (K0:={ K1 with B:=QY5 K.B W,w0:=W }) (Kt:=fun rs=>Weaker nt n0 ⟨s.slots,rs.objs⟩ ⟨s.slots,so (pre++[x])⟩) ?_ ops.size 0 oA _ _ _ _ (.refl _) hs2.start (by simpa using hbody pre x hlen);intro K2 rs a' w' hle2 hr hk;have hs3:Sat nt K2 ⟨s.slots,rs.objs⟩ { tmps:=a.tmps,defers:=[] } w':=⟨hr.mem,fun t=>((hs1.slot t).monoR (QK3 K1 _ W)).mono hle2,hs1.size,Marks.nil⟩;obtain ⟨K3,hle3,hs4⟩:=hk Kb K2 _ w' (by rw [hKb];exact hn) (hleb.trans hle2) hs3;have hblock:∀ b y,QY5 K.B W b=some y->w'.heap[b]? = some y:=fun b y hy=>hs4.mem.below.block b y (hle3.B b y (by rw [hKb];exact hy))
  have hsz:W.heap.size<=w'.heap.size:=by have:=hs4.mem.below.size;rw [hle3.w0,hKb] at this;exact this
  have hmem:MemSat { K3 with B:=K.B,w0:=K0.w0 } (so (pre++[x])) w':=by
   refine hs4.mem.with K.B K0.w0 (fun o q hq hl hC=>?_) ?_
   ·cases hb:K.B (K3.ρ o q.1) with
    | none=>rfl
    | some y =>
     have:=hle3.B _ y (by rw [hKb];exact Qzb hb);rw [(hs4.mem.lo o q hq hl hC).1] at this;cases this
   ·have q:=hs4.mem.below;have q1:=hs1.mem.below;have e0:=hle1.w0;have e3:K3.w0=W:=by rw [hle3.w0,hKb]
    refine ⟨?_,?_,?_,?_,fun b y hy=>hblock b y (Qzb hy)⟩
    ·rw [q.os,e3,q1.os,e0]
    ·rw [q.tape,e3,q1.tape,e0]
    ·rw [q.output,e3,q1.output,e0]
    ·have:=q1.size;rw [e0] at this;exact yea this hsz
  have hI:RoundI nt K0 K s.slots (so (pre++[x])) a.tmps w':=by
   refine ⟨{ K3 with B:=K.B,w0:=K0.w0 },⟨fun b i u hu=>hle3.M b i u (hKbM b i u hu),by have:=hle3.ρ;rw [hKb] at this;exact this,by have:=hle3.C;rw [hKb] at this;exact this,by have:=hle3.n;rw [hKb] at this;exact this,by have:=hle3.vs;rw [hKb] at this;exact this,rfl,hle.B,fun b i y hy=>((hle3.M0 b i y (by rw [hKb];exact Qzb (hle.B b y hy))).trans (hKb0 b i y (Qzb (hle.B b y hy)))).trans (hle1.M0 b i y hy)⟩,rfl,hmem,fun t=>(hs4.slot t).monoR (QK3 K3 _ _),hs1.size,Marks.nil⟩
  refine ⟨roundB_same hblock hBW hsz,fun _=>?_,hI⟩;obtain ⟨K4,_,_,hs5⟩:=hI;exact hkeep K4 _ w' hs5
 ·rintro D xs W hD hS ⟨K1,hle1,hB1,hs1⟩ hk;have hB2:∀ b y,K.B b=some y->(if b=D then some (Obj.deferred (some [])) else K.B b)=some y:=fun b y hy=>by
   have:=hBlt b y hy;rw [if_neg oA];exact hy
  refine ⟨.normal,{ K1 with B:=fun b=>if b=D then some (.deferred (some [])) else K.B b },⟨s.slots,so xs⟩,rfl,⟨hle1.M,hle1.ρ,hle1.C,hle1.n,hle1.vs,hle1.w0,fun b y hy=>hB2 b y (hle.B b y hy),hle1.M0⟩,⟨?_,fun t=>(hs1.slot t).monoR (QK3 K1 _ K1.w0),hs1.size,?_⟩,rfl,xs,hS,rfl⟩
  ·refine hs1.mem.with _ K1.w0 (fun o q hq hl hC=>?_) ?_
   ·obtain ⟨c,t,fr,hc⟩:=hs1.mem.cells hq hl hC (hrows xs q (yza hq) hl);have hne:K1.ρ o q.1 ≠ D:=fun e=>by rw [e,hk] at hc;cases hc
    show (if K1.ρ o q.1=D then _ else _)=none;rw [if_neg hne,← hB1];exact (hs1.mem.lo o q hq hl hC).1
   ·have q1:=hs1.mem.below;refine ⟨q1.os,q1.tape,q1.output,q1.size,fun b y hy=>?_⟩
    by_cases hb:b=D
    ·subst hb;simp only [if_true] at hy;rw [hk];exact hy
    ·simp only [if_neg hb] at hy;exact q1.block b y (by rw [hB1];exact hy)
  ·have hw0:K1.w0=K.w0:=hle1.w0.trans hle.w0.symm;refine ⟨List.nodup_cons.2 ⟨fun hin=>?_,hs.defers.1⟩,fun d hd=>?_⟩
   ·obtain ⟨D',h1,h2,_⟩:=hs.defers.2 _ hin;simp only [Deferred.mk.injEq,Target.collected.injEq,and_true] at h1;subst h1;have:=hBlt _ _ h2;omega
   ·rcases List.mem_cons.1 hd with rfl|hd
    ·refine ⟨D,rfl,by simp,?_⟩;show K1.w0.heap.size<=D;rw [hw0];exact yea hs.mem.below.size hD
    ·obtain ⟨D',h1,h2,h3⟩:=hs.defers.2 d hd;refine ⟨D',h1,hB2 _ _ h2,?_⟩;show K1.w0.heap.size<=D';rw [hw0];exact h3
theorem range_next {α:Type} {g:Operand} {p q aid bid rid:Nat} {oa:Oper} {ops:Array Oper} {sl:List (Nat × AVal)} {o:Objs} {Q:CQ} (e:α->Value) (ys:List α) (so:List α->Objs) (h0:so []=o) (hp:p<nt) (hq:q<nt)
  (hoa:oa.op = .assign (.tmp p)) (hod:oa.dst=some q) (hog:oa.guard=none) (hfree:Q71 sl p = .any)
  (hrows:∀ xs q,q ∈ so xs->q.2.live=true -> ∃ t k es,q.2 = .row t k es)
  (hit:∀ K a w,Sat nt K ⟨sl,o⟩ a w -> ∃ (gf:Nat) (lb:Array Value) (pc:Addr) (u:Value),a.eval g = .func (.func gf) #[] lb∧(∀ args w,(callFunc gf args).run P w = .ok (.enter gf args) w)∧pc.block<w.heap.size ∧
   (∀ K1 xs W,Sat nt K1 ⟨sl,so xs⟩ { tmps:=a.tmps,defers:=[] } W->W.cell? pc=some u) ∧
   SeqStopsK Fence.wide 2 P gf lb (fun x=>#[e x]) (fun W W'=>W.cell? pc=some u->W'.cell? pc=some u) (fun zs=>zs=ys) (fun _=>True) ys.length w)
  (hdefer:(ops.toList.all fun o=>match o.op with | .defer _=>false|_=>true)=true)
  (hbody:∀ pre x,pre.length<ys.length->cops P nt ops ((q,.lit (e x)) :: sl) false ops.toList [] [] (so pre) (fun _ _ o=>Weaker nt n0 ⟨sl,o⟩ ⟨sl,so (pre++[x])⟩))
  (hQ:Q .normal sl (so ys)) :
  ∃ R:AExit->List (Nat × AVal)->Objs->Prop,Qn9 P nt n0 (.rangeFunc g #[p] (.region aid #[oa] false) (.block bid (.region rid ops false))) (fun e t=>R e t.slots t.objs) ⟨sl,o⟩ ∧ ∀ e s o,R e s o->Q e s o:=by
 refine ⟨fun e s o=>e = .normal∧s=sl∧o=so ys,?_,?_⟩
 ·intro K0 K a w hn hle hs;refine wp_mono (rangeW_region (P:=P) (nt:=nt) (n0:=n0) (s:=⟨sl,o⟩) e (fun zs=>zs=ys) ys.length so h0 hp hq hoa hod hog hfree hrows hit ?_ ?_ K0 K a w hn hle hs) ?_
  ·intro o ho c hc;have:=List.all_eq_true.1 hdefer o ho;rw [hc] at this;cases this
  ·intro pre x hlen;exact QZ9 (hbody pre x hlen)
  ·rintro e' a' w' ⟨e1,K1,s1,he,hle1,hs1,rfl,xs,rfl,rfl⟩;exact ⟨.normal,K1,_,he,hle1,hs1,rfl,rfl,rfl⟩
 ·rintro e s o ⟨rfl,rfl,rfl⟩;exact hQ
theorem QNe {n0:Nat} {r:AVal} {o:Objs}:Told n0 r o r o:=fun _ K _ _ _ hle hm hr=>⟨K,hle,hm,hr⟩
theorem box_cell {K:Ctx} {objs:Objs} {w:World} {o:Nat} {t:TypeId} {v:Value} (hm:MemSat K objs w) (ho:objs[o]? = some (0,.row t 1 [[.lit v]])):w.cell? ⟨K.ρ o 0,0,none⟩=some v∧K.ρ o 0<w.heap.size:=by
 obtain ⟨_,h2,h3⟩:=hm.obj o _ ho;have hC:K.C o 0 ≠ 0:=by simp at h2;omega
 obtain ⟨c,⟨fr,_,hc⟩,_,_,hx⟩:=h3 hC;obtain ⟨u,hu,hr⟩:=hx 0 0 [.lit v] (.lit v) rfl rfl;have:=QZ0 hr;subst this;exact ⟨by simpa [World.cell?,hc] using hu,(Array.getElem?_eq_some_iff.1 hc).1⟩
theorem QDe {K:Ctx} {f:FuncId} {o o' k k' i j i' j':Nat} {v:Value} (h:Rep K (.fn (.func f) [] [.ptr o 0 k i j,.ptr o' 0 k' i' j']) v):v = .func (.func f) #[] #[.pointer (some ⟨K.ρ o 0,i*k+j,none⟩),.pointer (some ⟨K.ρ o' 0,i'*k'+j',none⟩)]:=by
 cases h with
 | fn _ _ _ vs us hl hm h g =>
  match vs,us,hl,hm with
  | [],[u1,u2],_,_ =>
   have h1:=g 0 _ _ rfl rfl;have h2:=g 1 _ _ rfl rfl;cases h1 with
   | ptr=>cases h2 with
    | ptr=>rfl
end
end Go.Fw
namespace Go.Proofs.YtgnlcjenoaoffaaGreatDoor
set_option linter.unusedSimpArgs false
set_option linter.unusedVariables false
open Go.Fw
def ints (l:List Int):AVal:=listA 1 (fun n=>[I n]) 0 l
def runes (l:List Int):AVal:=listA 1 (fun n=>[J n]) 0 l
theorem runes_low (l:List Int) (n:Nat):Low n (runes l):=listA_low fun _=>rfl
structure Alt where
 nodes:Int
 wall:Int
 deriving DecidableEq
def zA:Alt:=⟨0,0⟩
def Alt.cells (x:Alt):List AVal:=[I x.nodes,I x.wall]
def Alt.a (x:Alt):AVal:=.agg x.cells
def altL (l:List Alt):AVal:=listA 2 Alt.cells zA l
theorem Alt.lo {n:Nat} {a0 a1:Int}:LowL n [I a0,I a1]:=l1 (l1 (.nil))
theorem Alt.lowc (x:Alt) (n:Nat):LowL n x.cells:=Alt.lo
instance:LowC Alt.cells:=⟨fun n x=>x.lowc n⟩
theorem Alt.low (x:Alt) (n:Nat):Low n x.a:=.agg' (x.lowc n)
theorem Alt.lows (l:List Alt) (n:Nat):Low n (altL l):=Q95 fun x=>x.lowc n
structure Shape where
 kind:Int
 alts:List Alt
 min:Int
 max:Int
 wall:Int
 deriving DecidableEq
def zB:Shape:=⟨0,[],0,0,0⟩
def Shape.cells (x:Shape):List AVal:=[I x.kind,altL x.alts,I x.min,I x.max,I x.wall]
def Shape.a (x:Shape):AVal:=.agg x.cells
theorem Shape.lo {n:Nat} {a0 a2 a3 a4:Int} {a1:List Alt}:LowL n [I a0,altL a1,I a2,I a3,I a4]:=l1 (lv (Alt.lows _ _) (l1 (l1 (l1 (.nil)))))
theorem Shape.lowc (x:Shape) (n:Nat):LowL n x.cells:=Shape.lo
instance:LowC Shape.cells:=⟨fun n x=>x.lowc n⟩
theorem Shape.low (x:Shape) (n:Nat):Low n x.a:=.agg' (x.lowc n)
def Shape.szN (N:Nat) (x:Shape):Prop:=x.alts.length<=N
abbrev Shape.sz (x:Shape):Prop:=x.szN 4294967296
abbrev Shape.szM (x:Shape):Prop:=x.szN 9223372036854775807
structure Dep where
 how:Int
 job:Int
 deriving DecidableEq
def zC:Dep:=⟨0,0⟩
def Dep.cells (x:Dep):List AVal:=[I x.how,I x.job]
def Dep.a (x:Dep):AVal:=.agg x.cells
def depL (l:List Dep):AVal:=listA 2 Dep.cells zC l
theorem Dep.lo {n:Nat} {a0 a1:Int}:LowL n [I a0,I a1]:=l1 (l1 (.nil))
theorem Dep.lowc (x:Dep) (n:Nat):LowL n x.cells:=Dep.lo
instance:LowC Dep.cells:=⟨fun n x=>x.lowc n⟩
theorem Dep.low (x:Dep) (n:Nat):Low n x.a:=.agg' (x.lowc n)
theorem Dep.lows (l:List Dep) (n:Nat):Low n (depL l):=Q95 fun x=>x.lowc n
structure Token where
 kind:Int
 text:ByteArray
 num:Int
 at_:Int
 deriving DecidableEq
def zD:Token:=⟨0,⟨#[]⟩,0,0⟩
def Token.cells (x:Token):List AVal:=[I x.kind,Sg x.text,I x.num,I x.at_]
def Token.a (x:Token):AVal:=.agg x.cells
def tokenL (l:List Token):AVal:=listA 4 Token.cells zD l
theorem Token.lo {n:Nat} {a0 a2 a3:Int} {a1:ByteArray}:LowL n [I a0,Sg a1,I a2,I a3]:=l1 (l1 (l1 (l1 (.nil))))
theorem Token.lowc (x:Token) (n:Nat):LowL n x.cells:=Token.lo
instance:LowC Token.cells:=⟨fun n x=>x.lowc n⟩
structure Cmd where
 kind:Int
 job:Int
 name:ByteArray
 user:ByteArray
 account:ByteArray
 shape:Shape
 prio:Int
 hasPrio:Bool
 time:Int
 hasTime:Bool
 after:List Dep
 node:Int
 nodes:Int
 from_:Int
 deriving DecidableEq
def Cmd.cells (x:Cmd):List AVal:=[I x.kind,I x.job,Sg x.name,Sg x.user,Sg x.account,I x.shape.kind,altL x.shape.alts,I x.shape.min,I x.shape.max,I x.shape.wall,I x.prio,Bo x.hasPrio,I x.time,Bo x.hasTime,depL x.after,I x.node,I x.nodes,I x.from_]
def Cmd.a (x:Cmd):AVal:=.agg x.cells
theorem Cmd.lo {n:Nat} {a0 a1 a5 a7 a8 a9 a10 a12 a15 a16 a17:Int} {a2 a3 a4:ByteArray} {a6:List Alt} {a11 a13:Bool} {a14:List Dep}:LowL n [I a0,I a1,Sg a2,Sg a3,Sg a4,I a5,altL a6,I a7,I a8,I a9,I a10,Bo a11,I a12,Bo a13,depL a14,I a15,I a16,I a17]:=l1 (l1 (l1 (l1 (l1 (l1 (lv (Alt.lows _ _) (l1 (l1 (l1 (l1 (l1 (l1 (l1 (lv (Dep.lows _ _) (l1 (l1 (l1 (.nil))))))))))))))))))
theorem Cmd.lowc (x:Cmd) (n:Nat):LowL n x.cells:=Cmd.lo
instance:LowC Cmd.cells:=⟨fun n x=>x.lowc n⟩
theorem Cmd.low (x:Cmd) (n:Nat):Low n x.a:=.agg' (x.lowc n)
def Cmd.szN (N:Nat) (x:Cmd):Prop:=x.name.size<=N∧x.user.size<=N∧x.account.size<=N∧x.shape.szN N∧x.after.length<=N
abbrev Cmd.sz (x:Cmd):Prop:=x.szN 4294967296
structure Step where
 at_:Int
 free:Int
 deriving DecidableEq
def zE:Step:=⟨0,0⟩
def Step.cells (x:Step):List AVal:=[I x.at_,I x.free]
def stepL (l:List Step):AVal:=listA 2 Step.cells zE l
theorem Step.lo {n:Nat} {a0 a1:Int}:LowL n [I a0,I a1]:=l1 (l1 (.nil))
theorem Step.lowc (x:Step) (n:Nat):LowL n x.cells:=Step.lo
instance:LowC Step.cells:=⟨fun n x=>x.lowc n⟩
theorem Step.lows (l:List Step) (n:Nat):Low n (stepL l):=Q95 fun x=>x.lowc n
structure Node where
 state:Int
 job:Int
 epoch:Int
 drain:Bool
 want:Int
 since:Int
 asked:Int
 deriving DecidableEq
def zF:Node:=⟨0,0,0,false,0,0,0⟩
def Node.cells (x:Node):List AVal:=[I x.state,I x.job,I x.epoch,Bo x.drain,I x.want,I x.since,I x.asked]
def Node.a (x:Node):AVal:=.agg x.cells
def nodeL (l:List Node):AVal:=listA 7 Node.cells zF l
theorem Node.lo {n:Nat} {a0 a1 a2 a4 a5 a6:Int} {a3:Bool}:LowL n [I a0,I a1,I a2,Bo a3,I a4,I a5,I a6]:=l1 (l1 (l1 (l1 (l1 (l1 (l1 (.nil)))))))
theorem Node.lowc (x:Node) (n:Nat):LowL n x.cells:=Node.lo
instance:LowC Node.cells:=⟨fun n x=>x.lowc n⟩
theorem Node.low (x:Node) (n:Nat):Low n x.a:=.agg' (x.lowc n)
theorem Node.lows (l:List Node) (n:Nat):Low n (nodeL l):=Q95 fun x=>x.lowc n
structure Job where
 id:Int
 name:ByteArray
 user:ByteArray
 account:ByteArray
 shape:Shape
 prio:Int
 after:List Dep
 state:Int
 held:Bool
 born:Int
 promise:Int
 choice:Int
 start:Int
 limit:Int
 nodes:Int
 used:Int
 deriving DecidableEq
def zG:Job:=⟨0,⟨#[]⟩,⟨#[]⟩,⟨#[]⟩,zB,0,[],0,false,0,0,0,0,0,0,0⟩
def Job.cells (x:Job):List AVal:=[I x.id,Sg x.name,Sg x.user,Sg x.account,I x.shape.kind,altL x.shape.alts,I x.shape.min,I x.shape.max,I x.shape.wall,I x.prio,depL x.after,I x.state,Bo x.held,I x.born,I x.promise,I x.choice,I x.start,I x.limit,U x.nodes,I x.used]
def Job.a (x:Job):AVal:=.agg x.cells
def jobL (l:List Job):AVal:=listA 20 Job.cells zG l
theorem Job.lo {n:Nat} {a0 a4 a6 a7 a8 a9 a11 a13 a14 a15 a16 a17 a18 a19:Int} {a1 a2 a3:ByteArray} {a5:List Alt} {a10:List Dep} {a12:Bool}:LowL n [I a0,Sg a1,Sg a2,Sg a3,I a4,altL a5,I a6,I a7,I a8,I a9,depL a10,I a11,Bo a12,I a13,I a14,I a15,I a16,I a17,U a18,I a19]:=l1 (l1 (l1 (l1 (l1 (lv (Alt.lows _ _) (l1 (l1 (l1 (l1 (lv (Dep.lows _ _) (l1 (l1 (l1 (l1 (l1 (l1 (l1 (l1 (l1 (.nil))))))))))))))))))))
theorem Job.lowc (x:Job) (n:Nat):LowL n x.cells:=Job.lo
instance:LowC Job.cells:=⟨fun n x=>x.lowc n⟩
theorem Job.low (x:Job) (n:Nat):Low n x.a:=.agg' (x.lowc n)
theorem Job.lows (l:List Job) (n:Nat):Low n (jobL l):=Q95 fun x=>x.lowc n
def Job.szN (N:Nat) (x:Job):Prop:=x.name.size<=N∧x.user.size<=N∧x.account.size<=N∧x.shape.szN N∧x.after.length<=N
abbrev Job.sz (x:Job):Prop:=x.szN 4294967296
abbrev Job.szM (x:Job):Prop:=x.szN 9223372036854775807
theorem Job.szz (N:Nat):zG.szN N:=by simp [Job.szN,zG,ByteArray.size,Shape.szN,zB]
structure Resize where
 job:Int
 grow:Bool
 nodes:Int
 said:Int
 since:Int
 deriving DecidableEq
def zH:Resize:=⟨0,false,0,0,0⟩
def Resize.cells (x:Resize):List AVal:=[I x.job,Bo x.grow,U x.nodes,U x.said,I x.since]
def Resize.a (x:Resize):AVal:=.agg x.cells
def Qh1 (l:List Resize):AVal:=listA 5 Resize.cells zH l
theorem Resize.lo {n:Nat} {a0 a2 a3 a4:Int} {a1:Bool}:LowL n [I a0,Bo a1,U a2,U a3,I a4]:=l1 (l1 (l1 (l1 (l1 (.nil)))))
theorem Resize.lowc (x:Resize) (n:Nat):LowL n x.cells:=Resize.lo
instance:LowC Resize.cells:=⟨fun n x=>x.lowc n⟩
theorem Resize.low (x:Resize) (n:Nat):Low n x.a:=.agg' (x.lowc n)
theorem Resize.lows (l:List Resize) (n:Nat):Low n (Qh1 l):=Q95 fun x=>x.lowc n
structure Book where
 id:Int
 from_:Int
 to:Int
 nodes:Int
 deriving DecidableEq
def zI:Book:=⟨0,0,0,0⟩
def Book.cells (x:Book):List AVal:=[I x.id,I x.from_,I x.to,I x.nodes]
def Book.a (x:Book):AVal:=.agg x.cells
def bookL (l:List Book):AVal:=listA 4 Book.cells zI l
theorem Book.lo {n:Nat} {a0 a1 a2 a3:Int}:LowL n [I a0,I a1,I a2,I a3]:=l1 (l1 (l1 (l1 (.nil))))
theorem Book.lowc (x:Book) (n:Nat):LowL n x.cells:=Book.lo
instance:LowC Book.cells:=⟨fun n x=>x.lowc n⟩
theorem Book.low (x:Book) (n:Nat):Low n x.a:=.agg' (x.lowc n)
theorem Book.lows (l:List Book) (n:Nat):Low n (bookL l):=Q95 fun x=>x.lowc n
structure Usage where
 user:ByteArray
 account:ByteArray
 used:Int
 share:Int
 deriving DecidableEq
def zJ:Usage:=⟨⟨#[]⟩,⟨#[]⟩,0,0⟩
def Usage.cells (x:Usage):List AVal:=[Sg x.user,Sg x.account,I x.used,I x.share]
def Usage.a (x:Usage):AVal:=.agg x.cells
def Qt1 (l:List Usage):AVal:=listA 4 Usage.cells zJ l
theorem Usage.lo {n:Nat} {a0 a1:ByteArray} {a2 a3:Int}:LowL n [Sg a0,Sg a1,I a2,I a3]:=l1 (l1 (l1 (l1 (.nil))))
theorem Usage.lowc (x:Usage) (n:Nat):LowL n x.cells:=Usage.lo
instance:LowC Usage.cells:=⟨fun n x=>x.lowc n⟩
theorem Usage.low (x:Usage) (n:Nat):Low n x.a:=.agg' (x.lowc n)
theorem Usage.lows (l:List Usage) (n:Nat):Low n (Qt1 l):=Q95 fun x=>x.lowc n
def Usage.szN (N:Nat) (x:Usage):Prop:=x.user.size<=N∧x.account.size<=N
abbrev Usage.sz (x:Usage):Prop:=x.szN 4294967296
abbrev Usage.szM (x:Usage):Prop:=x.szN 9223372036854775807
theorem Usage.szz (N:Nat):zJ.szN N:=by simp [Usage.szN,zJ,ByteArray.size]
structure State where
 now:Int
 nodes:List Node
 jobs:List Job
 resizes:List Resize
 books:List Book
 ledger:List Usage
 nextJob:Int
 nextBook:Int
 deriving DecidableEq
def zK:State:=⟨0,[],[],[],[],[],0,0⟩
def State.cells (x:State):List AVal:=[I x.now,nodeL x.nodes,jobL x.jobs,Qh1 x.resizes,bookL x.books,Qt1 x.ledger,I x.nextJob,I x.nextBook]
def State.a (x:State):AVal:=.agg x.cells
theorem State.lo {n:Nat} {a0 a6 a7:Int} {a1:List Node} {a2:List Job} {a3:List Resize} {a4:List Book} {a5:List Usage}:LowL n [I a0,nodeL a1,jobL a2,Qh1 a3,bookL a4,Qt1 a5,I a6,I a7]:=l1 (lv (Node.lows _ _) (lv (Job.lows _ _) (lv (Resize.lows _ _) (lv (Book.lows _ _) (lv (Usage.lows _ _) (l1 (l1 (.nil))))))))
theorem State.lowc (x:State) (n:Nat):LowL n x.cells:=State.lo
instance:LowC State.cells:=⟨fun n x=>x.lowc n⟩
theorem State.low (x:State) (n:Nat):Low n x.a:=.agg' (x.lowc n)
def State.szN (N:Nat) (x:State):Prop:=x.nodes.length<=N∧x.jobs.length<=N∧(∀ y ∈ x.jobs,y.szN N)∧x.resizes.length<=N∧x.books.length<=N∧x.ledger.length<=N∧(∀ y ∈ x.ledger,y.szN N)
abbrev State.sz (x:State):Prop:=x.szN 4294967296
abbrev State.szM (x:State):Prop:=x.szN 9223372036854775807
theorem State.szz (N:Nat):zK.szN N:=by simp [State.szN,zK,ByteArray.size]
structure Note where
 kind:Int
 node:Int
 job:Int
 epoch:Int
 deriving DecidableEq
def zL:Note:=⟨0,0,0,0⟩
def Note.cells (x:Note):List AVal:=[I x.kind,I x.node,I x.job,I x.epoch]
def Note.a (x:Note):AVal:=.agg x.cells
def noteL (l:List Note):AVal:=listA 4 Note.cells zL l
theorem Note.lo {n:Nat} {a0 a1 a2 a3:Int}:LowL n [I a0,I a1,I a2,I a3]:=l1 (l1 (l1 (l1 (.nil))))
theorem Note.lowc (x:Note) (n:Nat):LowL n x.cells:=Note.lo
instance:LowC Note.cells:=⟨fun n x=>x.lowc n⟩
theorem Note.low (x:Note) (n:Nat):Low n x.a:=.agg' (x.lowc n)
structure Out where
 kind:Int
 text:ByteArray
 note:Note
 job:Int
 at_:Int
 raised:Bool
 deriving DecidableEq
def zM:Out:=⟨0,⟨#[]⟩,zL,0,0,false⟩
def Out.cells (x:Out):List AVal:=[I x.kind,Sg x.text,I x.note.kind,I x.note.node,I x.note.job,I x.note.epoch,I x.job,I x.at_,Bo x.raised]
def outL (l:List Out):AVal:=listA 9 Out.cells zM l
theorem Out.lo {n:Nat} {a0 a2 a3 a4 a5 a6 a7:Int} {a1:ByteArray} {a8:Bool}:LowL n [I a0,Sg a1,I a2,I a3,I a4,I a5,I a6,I a7,Bo a8]:=l1 (l1 (l1 (l1 (l1 (l1 (l1 (l1 (l1 (.nil)))))))))
theorem Out.lowc (x:Out) (n:Nat):LowL n x.cells:=Out.lo
instance:LowC Out.cells:=⟨fun n x=>x.lowc n⟩
def Out.szN (N:Nat) (x:Out):Prop:=x.text.size<=N
abbrev Out.sz (x:Out):Prop:=x.szN 4294967296
theorem Out.szz (N:Nat):zM.szN N:=by simp [Out.szN,zM,ByteArray.size]
structure LexReader where
 line:List Int
 at_:Int
 bad:Int
 error:Int
 deriving DecidableEq
def zN:LexReader:=⟨[],0,0,0⟩
theorem LexReader.lo {n:Nat} {a0:List Int} {a1 a2 a3:Int}:LowL n [runes a0,I a1,I a2,I a3]:=lv (runes_low _ _) (l1 (l1 (l1 (.nil))))
def LexReader.szN (N:Nat) (x:LexReader):Prop:=x.line.length<=N
abbrev LexReader.sz (x:LexReader):Prop:=x.szN 4294967296
structure Taken where
 p:List Step
 deriving DecidableEq
theorem Taken.lo {n:Nat} {a0:List Step}:LowL n [stepL a0]:=lv (Step.lows _ _) (.nil)
def Taken.szN (N:Nat) (x:Taken):Prop:=x.p.length<=N
abbrev Taken.sz (x:Taken):Prop:=x.szN 4294967296
structure Ranked where
 what:Int
 prio:Int
 share:Int
 id:Int
 deriving DecidableEq
def zO:Ranked:=⟨0,0,0,0⟩
def Ranked.cells (x:Ranked):List AVal:=[I x.what,I x.prio,I x.share,I x.id]
theorem Ranked.lo {n:Nat} {a0 a1 a2 a3:Int}:LowL n [I a0,I a1,I a2,I a3]:=l1 (l1 (l1 (l1 (.nil))))
theorem Ranked.lowc (x:Ranked) (n:Nat):LowL n x.cells:=Ranked.lo
instance:LowC Ranked.cells:=⟨fun n x=>x.lowc n⟩
structure Work where
 state:State
 told:List Out
 deriving DecidableEq
def zP:Work:=⟨zK,[]⟩
def Work.szN (N:Nat) (x:Work):Prop:=x.state.szN N∧x.told.length<=N∧(∀ y ∈ x.told,y.szN N)
abbrev Work.sz (x:Work):Prop:=x.szN 4294967296
def atoiOK (s:ByteArray):Prop:=1<=s.size∧s.size<=9 ∧ ∀ i,i<s.size->48<=(s.data.toList.getD i 0).toNat∧(s.data.toList.getD i 0).toNat<=57
theorem atoi_minus {s:ByteArray} (h:atoiOK s) (c:(((s.data.toList.getD 0 0).toNat:Int)==45)=true):False:=by
 have:=h.2.2 0 h.1;have e:=eq_of_beq c;omega
theorem atoi_sign {s:ByteArray} (h:atoiOK s) (c:((((s.data.toList.getD 0 0).toNat:Int)==45)||(((s.data.toList.getD 0 0).toNat:Int)==43))=true):False:=by
 have:=h.2.2 0 h.1;rcases (yQa _ _).mp c with c|c <;> have e:=eq_of_beq c <;> omega
theorem bytesOf_getD (s:ByteArray) (i:Nat):(QV6 s).getD i 0=((s.data.toList.getD i 0).toNat:Int):=by
 unfold QV6;simp only [List.getD,yra];cases s.data.toList[i]? <;> rfl
theorem atoi_digit {s:ByteArray} (h:atoiOK s) {i:Nat} (hi:i<s.size) (c:decide (wu8 (((QV6 s).getD i 0) - 48) > 9)=true):False:=by
 have h1:=h.2.2 i hi;have c:=yca c;rw [bytesOf_getD] at c;rw [show wu8 (((s.data.toList.getD i 0).toNat:Int) - 48)=((s.data.toList.getD i 0).toNat:Int) - 48 by rw [wu8,IntKind.wrap_u8];omega] at c;omega
theorem getD_byte (s:ByteArray) {i:Nat} (h:i<s.size):s.data.toList.getD i 0=s[i]'h:=by
 have h':i<s.data.toList.length:=by simpa using h
 simp [List.getD,yba h']
 rfl
theorem Q1a (s:ByteArray) (i:Nat) (h:i<s.size):i+(Utf8.decode s i).2<=s.size:=by
 unfold Utf8.decode;dsimp only;split
 ·simp;omega
 ·split
  ·rename_i hc;simp only [yha,yua] at hc;split <;> simp <;> omega
  ·split
   ·rename_i hc;simp only [yha,yua] at hc;split <;> simp <;> omega
   ·split
    ·rename_i hc;simp only [yha,yua] at hc;split <;> simp <;> omega
    ·simp;omega
theorem extract_size (s:ByteArray) (a b:Nat):(s.extract a b).size<=s.size:=by
 rw [ByteArray.size_extract];omega
theorem digits_bytes (s:ByteArray):∀ (m pos:Nat),s.size - pos<=m->(∀ x ∈ Qq5 s m pos,48<=x.2∧x.2<=57) -> ∀ i,pos<=i->i<s.size->48<=(s.data.toList.getD i 0).toNat∧(s.data.toList.getD i 0).toNat<=57:=by
 intro m
 induction m with
 | zero=>intro pos hm _ i h1 h2;omega
 | succ m ih =>
  intro pos hm hx i h1 h2;have hp:pos<s.size:=by omega
  rw [Q56 (yoa hp)] at hx;have h0:=hx _ yIa;have ha:(s[pos]'hp).toNat<128:=by
   rcases yGa (s[pos]'hp).toNat 128 with h|h
   ·exact h
   ·have:=(decode_high s pos hp h).1;simp only at h0;omega
  have hd:=decode_ascii s pos hp ha;rw [hd] at h0 hx
  by_cases hi:i=pos
  ·subst hi;rw [getD_byte s hp];simp only at h0;omega
  ·exact ih (pos+1) oA (fun x hm=>hx x (ywa _ hm)) i oA h2
theorem gives_of_calls {P:Program} {f:FuncId} {vs:List Value} {v:Value} (h:∀ w,Calls P f vs.toArray w fun e w'=>e = .returned v∧w'=w) (objs:Objs):AGives P f (vs.map .lit) objs (.lit v):=by
 intro K w us hm hr;have e:us=vs:=by
  have h1:=hr.1;refine yAb fun i=>?_
  rcases yGa i vs.length with hi|hi
  ·have hu:i<us.length:=by rw [h1];simpa using hi
   have:=hr.2 i (.lit vs[i]) us[i] (by simp [yba hi]) (yba hu);rw [yba hi,yba hu];rw [QZ0 this]
  ·rw [yYa hi,yYa (by rw [h1];simpa using hi)]
 subst e;refine (h w).mono ?_;rintro e w' ⟨rfl,rfl⟩;exact ⟨v,.lit v,objs,K,rfl,.refl K,hm,.lit v,rfl,rfl⟩
set_option maxHeartbeats 1000000 in
set_option maxRecDepth 100000 in
theorem indexByte1 (s:ByteArray) (c:Int) (w:World) :
  Calls Tryz.prog 320 #[.string s,.int .u8 c] w fun e w'=>e = .returned (.int .i64 (Lib.indexByte s.data.toList c.toNat.toUInt8))∧w'=w:=by
 go_enter Tryz.func320,Tryz.ntmps320
 go_wp2
 rw [run_callFunc_extern Tryz.func325 (by kernel_rfl) (by kernel_rfl) (by kernel_rfl) (e:=Extern.BytealgIndexByte.indexByte) (by kernel_rfl),Lib.run_indexByteString];simp only [Result.andThen];rw [Oper.upon_value]
 go_wp2
 go_ret
 exact ⟨rfl,rfl⟩
def Qa5 (s:ByteArray) (c:Int):Int:=Lib.indexByte s.data.toList c.toNat.toUInt8
set_option maxHeartbeats 1000000 in
theorem indexByte2 (s:ByteArray) (c:Int) (w:World) :
  Calls Tryz.prog 305 #[.string s,.int .u8 c] w fun e w'=>e = .returned (.int .i64 (Qa5 s c))∧w'=w:=by
 go_enter Tryz.func305,Tryz.ntmps305
 go_wp2_with (go_at_call 320;refine (indexByte1 _ _ _).mono ?_;rintro e w' ⟨rfl,rfl⟩)
 go_ret
 exact ⟨rfl,rfl⟩
theorem QTa (s:ByteArray) (c:Int):∀ objs,AGives Tryz.prog 305 [Sg s,Y c] objs (I (Qa5 s c)) :=
 gives_of_calls (vs:=[.string s,.int .u8 c]) fun w=>indexByte2 s c w
end Go.Proofs.YtgnlcjenoaoffaaGreatDoor
namespace Go.Proofs.YtgnlcjenoaoffaaGreatDoor
set_option linter.unusedSimpArgs false
set_option linter.unusedVariables false
open Go Go.RowKit Go.Proofs
theorem bldPtr:Tryz.prog.underlying 336 = some (.pointer 339):=by kernel_rfl
theorem bldUnsafe:Tryz.prog.underlying 360 = some .unsafePointer:=by kernel_rfl
theorem bldInfo:(Tryz.prog.info? 339).map (·.size)=some 2:=by kernel_rfl
theorem bldCells:Tryz.prog.cellsOf 339 = 2:=by kernel_rfl
set_option maxHeartbeats 1000000 in
set_option maxRecDepth 100000 in
theorem copyCheck_used (b:Nat) (w:World) (h0:w.cell? ⟨b,0,none⟩=some (.pointer (some ⟨b,0,none⟩))) :
  Calls Tryz.prog 322 #[.pointer (some ⟨b,0,none⟩)] w fun e w'=>e = .returned (.tuple #[])∧w'=w:=by
 obtain ⟨j,hj,_⟩:=Option.map_eq_some_iff.1 bldInfo
 go_enter Tryz.func322,Tryz.ntmps322
 go_wp2
 rw [Lib.run_neq_ptr_same w _ bldPtr hj]
 go_wp2
 go_end0
 exact ⟨rfl,rfl⟩
set_option maxHeartbeats 1000000 in
set_option maxRecDepth 100000 in
theorem QTd (te:TypeId) (m b:Nat) (w:World) (h0:w.cell? ⟨b,0,none⟩=some (.pointer none)) (hsh:w.shape? b=some (te,m)) (hm:0<m) (hlies:liesAt Tryz.prog Tryz.prog.depth te (m / Tryz.prog.cellsOf te) 0 339 1=true) (hfz:w.frozen? ⟨b,0,none⟩=false) :
  Calls Tryz.prog 322 #[.pointer (some ⟨b,0,none⟩)] w fun e w'=>e = .returned (.tuple #[])∧w'=w.setCell ⟨b,0,none⟩ (.pointer (some ⟨b,0,none⟩)):=by
 obtain ⟨j,hj,hjs⟩:=Option.map_eq_some_iff.1 bldInfo
 go_enter Tryz.func322,Tryz.ntmps322
 go_wp2
 rw [Lib.run_to_unsafe w ⟨b,0,none⟩ bldPtr bldUnsafe hj (by rw [hjs];decide) hsh hm];simp only [Result.andThen];rw [Oper.upon_value]
 go_wp2
 rw [run_callFunc_extern Tryz.func330 (by kernel_rfl) (by kernel_rfl) (by kernel_rfl) (e:=Extern.AbiNoEscape.same) (by kernel_rfl)];rw [Lib.run_noEscape];simp only [Result.andThen];rw [Oper.upon_value]
 go_wp2
 rw [Lib.run_from_unsafe w ⟨b,0,none⟩ bldUnsafe bldPtr hj hsh hlies];simp only [Result.andThen];rw [Oper.upon_value]
 go_wp2
 go_end0
 exact ⟨rfl,rfl⟩
theorem bldBytePtr:Tryz.prog.underlying 354 = some (.pointer 5):=by kernel_rfl
theorem bldByte1:Tryz.prog.cellsOf 5 = 1:=by kernel_rfl
set_option maxHeartbeats 2000000 in
set_option maxRecDepth 100000 in
theorem QUb (b:Nat) (w:World) (c0:w.cell? ⟨b,1,none⟩=some (.slice none 0 0)) :
  Calls Tryz.prog 310 #[.pointer (some ⟨b,0,none⟩)] w fun e w'=>e = .returned (.string ⟨#[]⟩)∧w'=w.drew:=by
 have hUS:=fun (W:World) (q:Option Addr)=>Lib.run_unsafeString_none (P:=Tryz.prog) (w:=W) 354 3 9 q
 have c1:w.drew.cell? ⟨b,1,none⟩=some (.slice none 0 0):=c0;have hSD:(Builtin.unsafeSliceData_ #[337] 354 #[.slice none 0 0]).run Tryz.prog w.drew = .ok (.pointer none) w.drew:=rfl;have mixed:Tryz.prog.follows .mixedOrders=true:=by kernel_rfl
 go_enter Tryz.func310,Tryz.ntmps310
 go_wp2
 go_region_o
 all_goals (go_wp2;go_ret;exact ⟨rfl,rfl⟩)
set_option maxHeartbeats 2000000 in
set_option maxRecDepth 100000 in
theorem Q1b (b cap:Nat) (a:Addr) (w:World) (hc0:cap ≠ 0) (c0:w.cell? ⟨b,1,none⟩=some (.slice (some a) 0 cap)) :
  Calls Tryz.prog 310 #[.pointer (some ⟨b,0,none⟩)] w fun e w'=>e = .returned (.string ⟨#[]⟩)∧w'=w.drew:=by
 have hUS:=fun (W:World) (q:Option Addr)=>Lib.run_unsafeString_none (P:=Tryz.prog) (w:=W) 354 3 9 q
 have c1:w.drew.cell? ⟨b,1,none⟩=some (.slice (some a) 0 cap):=c0;have hSD:(Builtin.unsafeSliceData_ #[337] 354 #[.slice (some a) 0 cap]).run Tryz.prog w.drew = .ok (.pointer (some a)) w.drew:=Lib.run_unsafeSliceData_row _ _ _ _ _ _ hc0;clear hc0;have mixed:Tryz.prog.follows .mixedOrders=true:=by kernel_rfl
 go_enter Tryz.func310,Tryz.ntmps310
 go_wp2
 go_region_o
 all_goals (go_wp2;go_ret;exact ⟨rfl,rfl⟩)
set_option maxHeartbeats 2000000 in
set_option maxRecDepth 100000 in
theorem Q2b (b g cap:Nat) (cur:Array Value) (fr:Nat × Nat) (l:List UInt8) (w:World) (h0:l ≠ []) (c0:w.cell? ⟨b,1,none⟩=some (.slice (some ⟨g,0,none⟩) l.length cap))
  (hg:w.heap[g]? = some (.cells cur 5 fr)) (hcap:l.length<=cap) (hcur:l.length<=cur.size) (h63:l.length<=9223372036854775807) (hcell:∀ (j:Nat) (x:UInt8),l[j]? = some x->cur[j]? = some (Value.int .u8 x.toNat)) :
  Calls Tryz.prog 310 #[.pointer (some ⟨b,0,none⟩)] w fun e w'=>e = .returned (.string ⟨l.toArray⟩)∧w'=w.drew.freeze ⟨g,0,none⟩ l.length:=by
 have hl0:l.length ≠ 0:=by simpa using h0
 have c1:w.drew.cell? ⟨b,1,none⟩=some (.slice (some ⟨g,0,none⟩) l.length cap):=c0;have hg':w.drew.heap[g]? = some (.cells cur 5 fr):=hg
 have hSD:(Builtin.unsafeSliceData_ #[337] 354 #[.slice (some ⟨g,0,none⟩) l.length cap]).run Tryz.prog w.drew = .ok (.pointer (some ⟨g,0,none⟩)) w.drew :=
  Lib.run_unsafeSliceData_row _ _ _ _ _ _ (by omega)
 have hUS:(Builtin.unsafeString_ #[354,3] 9 #[.pointer (some ⟨g,0,none⟩),.int .i64 l.length]).run Tryz.prog w.drew = .ok (.string ⟨l.toArray⟩) (w.drew.freeze ⟨g,0,none⟩ l.length):=by
  refine Lib.run_unsafeString_row (P:=Tryz.prog) (w:=w.drew) 354 3 9 5 bldBytePtr bldByte1 g cur.size (by simp [World.shape?,hg']) l h0 hcur h63 ?_;intro j x hx;have e:((⟨g,0,none⟩:Addr).add j)=⟨g,j,none⟩:=by
   simp [Addr.add];exact fun h=>h.symm
  rw [e,Lib.cell_of_heap hg'];exact hcell j x hx
 have mixed:Tryz.prog.follows .mixedOrders=true:=by kernel_rfl
 go_enter Tryz.func310,Tryz.ntmps310
 go_wp2
 go_region_o
 all_goals (go_wp2;go_ret;exact ⟨rfl,rfl⟩)
end Go.Proofs.YtgnlcjenoaoffaaGreatDoor
namespace Go.Proofs.YtgnlcjenoaoffaaGreatDoor
set_option linter.unusedSimpArgs false
set_option linter.unusedVariables false
open Go.Fw
theorem liesAt_self {P:Program} {e:TypeId} {k:Nat} (hc:P.cellsOf e=k+1) (count:Nat) (hn:1<=count):liesAt P P.depth e count 0 e 1=true:=by
 have hd:P.depth=(2*(P.types.size+Made.depth)+1)+1:=rfl;rw [hd];simp only [liesAt,yQa];left;rw [hd];simp [rowAt,hc,hn,sameLayout]
theorem Qk7 {K:Ctx} {objs:Objs} {w:World} {o ver k:Nat} {te:TypeId} {xs:List AVal} (hm:MemSat K objs w) (hp:objs[o]? = some (ver,.row te k [xs])) :
  K.C o ver ≠ 0 ∧ ∃ (c:Array Value) (fr:Nat × Nat),w.heap[K.ρ o ver]? = some (.cells c te fr)∧frFree fr (c.size+rim k)∧c.size=K.C o ver*k∧(∀ u ∈ c.toList,u.oneCell'=true) ∧ ∀ (j:Nat) (x:AVal),xs[j]? = some x -> ∃ u:Value,c[j]? = some u∧Rep K x u:=by
 obtain ⟨h1,h2,h3⟩:=hm.obj o _ hp;have hC:K.C o ver ≠ 0:=by simp at h2;omega
 obtain ⟨c,⟨fr,hfr,hb⟩,hs,h1',hr⟩:=h3 hC;refine ⟨hC,c,fr,hb,hfr,hs,h1',fun j x hx=>?_⟩;obtain ⟨u,hu,hru⟩:=hr 0 j xs x rfl hx;exact ⟨u,by simpa using hu,hru⟩
theorem setCell_row {w:World} {b off:Nat} {c:Array Value} {te:TypeId} {fr:Nat × Nat} (hb:w.heap[b]? = some (.cells c te fr)) (v:Value):w.setCell ⟨b,off,none⟩ v=w.setRow b (c.setIfInBounds off v):=by
 unfold World.setCell World.setRow
 congr 1
 apply yJb;intro i;simp only [yKb]
 by_cases hi:b=i
 ·subst hi;simp [hb]
 ·simp [hi]
theorem frozen_row {w:World} {b off:Nat} {c:Array Value} {te:TypeId} {fr:Nat × Nat} {n:Nat} (hb:w.heap[b]? = some (.cells c te fr)) (hfr:frFree fr n) (ho:off<n):w.frozen? ⟨b,off,none⟩=false:=by
 have:=hfr off ho;simp only [World.frozen?,hb];simp;omega
structure BldT (te:TypeId):Prop where
 cells:Tryz.prog.cellsOf te=2
 lies:∀ n:Nat,1<=n->liesAt Tryz.prog Tryz.prog.depth te n 0 339 1=true
theorem bldT0:BldT 339:=⟨bldCells,fun n hn=>liesAt_self bldCells n hn⟩
theorem Q0c {te:TypeId} (ht:BldT te) {x:AVal} {rest:Objs} {n0:Nat} (hn:n0<=rest.length+1):AMoves Tryz.prog 322 [.ptr 0 0 2 0 0] ((0,.row te 2 [[.lit (.pointer none),x]]) :: rest) n0 (.tup []) ((0,.row te 2 [[.ptr 0 0 2 0 0,x]]) :: rest):=by
 intro K w vs hm hr;have hp:(((0,.row te 2 [[.lit (.pointer none),x]]) :: rest:Objs))[0]? = some (0,.row te 2 [[.lit (.pointer none),x]]):=rfl;obtain ⟨hC,c,fr,hb,hfr,hs,h1,hx⟩:=Qk7 hm hp;have hvs:vs=[.pointer (some ⟨K.ρ 0 0,0,none⟩)]:=by
  obtain ⟨v,rfl⟩:∃ v,vs=[v]:=List.length_eq_one_iff.1 hr.1;obtain ⟨e,_,_⟩:=Qh5 (hr.2 0 _ _ rfl rfl);rw [e]
 subst hvs;have hsz:2<=c.size:=by rw [hs];omega
 obtain ⟨u0,hu0,hr0⟩:=hx 0 _ rfl;obtain ⟨u1,hu1,hr1⟩:=hx 1 _ rfl;have e0:=QZ0 hr0;subst e0;have hc0:w.cell? ⟨K.ρ 0 0,0,none⟩=some (.pointer none):=by rw [Lib.cell_of_heap hb];exact hu0
 refine (QTd te c.size (K.ρ 0 0) w hc0 (by simp [World.shape?,hb]) oA ?_ (frozen_row hb hfr oA)).mono ?_
 ·rw [ht.cells,hs];exact ht.lies _ (by rw [Nat.mul_div_cancel _ (by decide)];omega)
 ·rintro e w' ⟨rfl,rfl⟩;refine ⟨_,K,rfl,Qga (by rw [← hm.len];exact hn),?_,.tup _ [] rfl (fun i x v h=>by simp at h)⟩;rw [setCell_row hb];have hm':=hm.setRow hp hC c (c.setIfInBounds 0 (.pointer (some ⟨K.ρ 0 0,0,none⟩))) ⟨fr,hfr,hb⟩ (by simp) (fun u hu=>?_) [[.ptr 0 0 2 0 0,x]] (by simp;omega) (by simp) (fun i j e y he hy=>?_)
  ·exact hm'
  ·rw [yrb] at hu;rcases y6a hu with hu|rfl
   ·exact h1 u hu
   ·rfl
  ·have hi:i=0:=by have:=(List.getElem?_eq_some_iff.1 he).1;simp at this;omega
   subst hi;simp at he;subst he;rcases j with _|_|j
   ·simp at hy;subst hy;refine ⟨.pointer (some ⟨K.ρ 0 0,0,none⟩),by rw [show 0*2+0=0 from rfl,yUb,if_pos rfl,if_pos oA],?_⟩;have:=Rep.ptr (K:=K) 0 0 2 0 0 (by rw [← hm.len];exact Nat.succ_pos _) (yna _);simpa using this
   ·simp at hy;subst hy;refine ⟨u1,?_,hr1⟩;rw [yPa oA];simpa using hu1
   ·simp at hy
theorem Q5d {te:TypeId} {x:AVal} {rest:Objs} {n0:Nat} (hn:n0<=rest.length+1):AMoves Tryz.prog 322 [.ptr 0 0 2 0 0] ((0,.row te 2 [[.ptr 0 0 2 0 0,x]]) :: rest) n0 (.tup []) ((0,.row te 2 [[.ptr 0 0 2 0 0,x]]) :: rest):=by
 intro K w vs hm hr;have hp:(((0,.row te 2 [[.ptr 0 0 2 0 0,x]]) :: rest:Objs))[0]? = some (0,.row te 2 [[.ptr 0 0 2 0 0,x]]):=rfl;obtain ⟨hC,c,fr,hb,hfr,hs,h1,hx⟩:=Qk7 hm hp;have hvs:vs=[.pointer (some ⟨K.ρ 0 0,0,none⟩)]:=by
  obtain ⟨v,rfl⟩:∃ v,vs=[v]:=List.length_eq_one_iff.1 hr.1;obtain ⟨e,_,_⟩:=Qh5 (hr.2 0 _ _ rfl rfl);rw [e]
 subst hvs;obtain ⟨u0,hu0,hr0⟩:=hx 0 _ rfl;obtain ⟨e0,_,_⟩:=Qh5 hr0;subst e0;have hc0:w.cell? ⟨K.ρ 0 0,0,none⟩=some (.pointer (some ⟨K.ρ 0 0,0,none⟩)):=by rw [Lib.cell_of_heap hb];simpa using hu0
 refine (copyCheck_used (K.ρ 0 0) w hc0).mono ?_;rintro e w' ⟨rfl,rfl⟩;exact ⟨_,K,rfl,Qga (by rw [← hm.len];exact hn),hm,.tup _ [] rfl (fun i x v h=>by simp at h)⟩
theorem QIe {w:World} {b:Nat} {c:Array Value} {te:TypeId} {fr:Nat × Nat} (hb:w.heap[b]? = some (.cells c te fr)):w.setRow b c=w:=by
 have e:w.setRow b c={ w with heap:=w.heap }:=by
  unfold World.setRow
  congr 1
  apply yJb;intro i;rw [yKb]
  by_cases hi:b=i
  ·subst hi;rw [if_pos rfl,hb];rfl
  ·rw [if_neg hi]
 exact e
theorem copyCheck_m {te:TypeId} (ht:BldT te) {x:AVal} {rest:Objs} {n0:Nat} (hn:n0<=rest.length+1):AMoves Tryz.prog 322 [.ptr 0 0 2 0 0] ((0,.row te 2 [[.sel 0 0 2 0 0,x]]) :: rest) n0 (.tup []) ((0,.row te 2 [[.ptr 0 0 2 0 0,x]]) :: rest):=by
 intro K w vs hm hr;obtain ⟨hC,c,fr,hb,hfr,hs,h1,hx⟩:=Qk7 hm (o:=0) (ver:=0) (k:=2) (te:=te) (xs:=[.sel 0 0 2 0 0,x]) rfl;obtain ⟨u0,hu0,hr0⟩:=hx 0 _ rfl;have one:∀ {a:AVal},Rep K a u0 -> ∀ u,c[0]? = some u->Rep K a u:=fun h u hu=>by rw [hu0] at hu;cases hu;exact h
 have tell:∀ {a:AVal},Rep K a u0->MemSat K ((0,.row te 2 [[a,x]]) :: rest) w:=by
  intro a ha;have hp:((0,.row te 2 [[.sel 0 0 2 0 0,x]]) :: rest:Objs)[0]? = some (0,.row te 2 [[.sel 0 0 2 0 0,x]]):=rfl;have hm':=hm.setRow hp hC c c ⟨fr,hfr,hb⟩ rfl h1 [[a,x]] (by simp;omega) (by simp) (fun i j e y he hy=>?_)
  ·rw [QIe hb] at hm';exact hm'
  ·have hi:i=0:=by have:=(List.getElem?_eq_some_iff.1 he).1;simp at this;omega
   subst hi;simp at he;subst he;rcases j with _|_|j
   ·simp at hy;subst hy;exact ⟨u0,by simpa using hu0,ha⟩
   ·simp at hy;subst hy;obtain ⟨u1,hu1,hr1⟩:=hx 1 _ rfl;exact ⟨u1,by simpa using hu1,hr1⟩
   ·simp at hy
 cases hr0 with
 | selNil=>exact Q0c ht hn K w vs (tell (.lit _)) hr
 | selPtr _ _ _ _ _ ho hv=>exact Q5d hn K w vs (tell (.ptr _ _ _ _ _ ho hv)) hr
abbrev Q35 (l:List Int):AObj:=.row 5 1 (l.map fun q=>[Y q])
set_option maxRecDepth 20000
set_option maxHeartbeats 4000000
attribute [local irreducible] ACalls AMoves
end Go.Proofs.YtgnlcjenoaoffaaGreatDoor
namespace Go.Proofs.YtgnlcjenoaoffaaGreatDoor
set_option linter.unusedSimpArgs false
set_option linter.unusedVariables false
open Go.Fw
theorem freeze_setB {w:World} {g n:Nat} {c:Array Value} {t:TypeId} {fr:Nat × Nat} (hg:w.heap[g]? = some (.cells c t fr)):∃ fr',w.freeze ⟨g,0,none⟩ n=setB w g (.cells c t fr'):=by
 unfold World.freeze
 by_cases hn:n=0
 ·rw [if_pos hn];refine ⟨fr,?_⟩;have e:w.heap=w.heap.setIfInBounds g (.cells c t fr):=by
   apply yJb;intro i;rw [yUb]
   by_cases hi:g=i
   ·subst hi;have:=(Array.getElem?_eq_some_iff.1 hg).1;rw [if_pos rfl,if_pos this,hg]
   ·rw [if_neg hi]
  unfold setB;rw [← e]
 ·rw [if_neg hn];obtain ⟨lo,hi⟩:=fr;refine ⟨if lo==hi then (0,0+n) else (min lo 0,max hi (0+n)),?_⟩;unfold setB
  congr 1
  apply yJb;intro i;rw [yUb,yKb]
  by_cases hi:g=i
  ·subst hi;have:=(Array.getElem?_eq_some_iff.1 hg).1;rw [if_pos rfl,if_pos rfl,if_pos this,hg]
   rfl
  ·rw [if_neg hi,if_neg hi]
section
variable {K:Ctx} {objs:Objs} {w:World}
theorem MemSat.kill (h:MemSat K objs w) {o ver:Nat} {p:AObj} (hp:objs[o]? = some (ver,p)) (hlive:p.live=true) (hC:K.C o ver ≠ 0) (b:Obj):MemSat K (objs.set o (ver,.dead)) (setB w (K.ρ o ver) b):=by
 have hlo:=h.lo o _ hp hlive hC;have holt:o<objs.length:=(List.getElem?_eq_some_iff.1 hp).1;have get:∀ o' q,(objs.set o (ver,.dead))[o']? = some q->(o'=o∧q=(ver,.dead))∨(o' ≠ o∧objs[o']? = some q):=by
  intro o' q hq
  by_cases ho:o'=o
  ·subst ho;rw [List.getElem?_set_self holt] at hq;exact Or.inl ⟨rfl,(Option.some.inj hq).symm⟩
  ·rw [yYb (Ne.symm ho)] at hq;exact Or.inr ⟨ho,hq⟩
 refine ⟨by rw [yWa];exact h.len,fun o' q hq=>?_,fun o' q hq=>?_,fun o' q hq hl' hC'=>?_,fun o1 o2 q1 q2 h1 h2 l1 l2 c1 c2 hne=>?_,fun b' i u hu=>?_,?_⟩
 ·rcases get o' q hq with ⟨rfl,rfl⟩|⟨_,hq⟩
  ·exact h.ver o' (ver,p) hp
  ·exact h.ver o' _ hq
 ·rcases get o' q hq with ⟨rfl,rfl⟩|⟨ho,hq⟩
  ·trivial
  ·refine (h.obj o' q hq).mono (Ctx.le.refl K) (h.olt hq) (by rw [h.ver o' q hq];exact yia _) (fun hl' hC'=>Q99 ?_);exact h.dis o' o q _ hq hp hl' hlive hC' hC ho
 ·rcases get o' q hq with ⟨rfl,rfl⟩|⟨ho,hq⟩
  ·cases hl'
  ·obtain ⟨g1,g2,g3⟩:=h.lo o' q hq hl' hC';exact ⟨g1,by simpa [setB] using g2,g3⟩
 ·rcases get o1 q1 h1 with ⟨rfl,rfl⟩|⟨_,h1⟩
  ·cases l1
  ·rcases get o2 q2 h2 with ⟨rfl,rfl⟩|⟨_,h2⟩
   ·cases l2
   ·exact h.dis o1 o2 q1 q2 h1 h2 l1 l2 c1 c2 hne
 ·have:=h.mem b' i u hu;have hne:b' ≠ K.ρ o ver:=by
   intro hb;rw [hb,hlo.2.2 i] at hu;cases hu
  refine ⟨?_,this.2⟩;have e:(setB w (K.ρ o ver) b).cell? ⟨b',i,none⟩=w.cell? ⟨b',i,none⟩:=by
   simp only [World.cell?,Q99 hne]
  rw [e];exact this.1
 ·refine h.below.step rfl rfl rfl rfl rfl (by simp [setB]) fun b' y hy=>Q99 ?_
  rintro rfl;rw [hlo.1] at hy;cases hy
end
def QE6 (l:List Int):Prop:=∀ n ∈ l,0<=n∧n<=255
theorem QY9:QE6 []:=fun n h=>nomatch h
theorem wu8_in (n:Int):0<=wu8 n∧wu8 n<=255:=by
 simp only [IntKind.wrap,IntKind.bits,IntKind.signed];simp;omega
theorem byteIn_app {l k:List Int} (h:QE6 l) (g:QE6 k):QE6 (l++k):=fun n hn=>by
 rcases List.mem_append.1 hn with hn|hn
 ·exact h n hn
 ·exact g n hn
theorem Qs5 {c:Int} {k:List Int} (h:0<=c∧c<=255) (g:QE6 k):QE6 (c :: k):=fun n hn=>by
 rcases List.mem_cons.1 hn with rfl|hn
 ·exact h
 ·exact g n hn
theorem Qea:∀ (l:List Int) (r:ByteArray),(l.foldl (fun r n=>r.push (UInt8.ofNat n.toNat)) r).data.toList=r.data.toList++l.map fun n=>UInt8.ofNat n.toNat
 | [],r=>by simp
 | n :: l,r=>by
  rw [yBb,Qea l];simp [ByteArray.push]
theorem bytesStr_data (l:List Int):Qn5 l=⟨(l.map fun n=>UInt8.ofNat n.toNat).toArray⟩:=by
 have:=Qea l ByteArray.empty;apply ByteArray.ext;apply Array.ext';unfold Qn5;rw [this]
 rfl
theorem String_some {te:TypeId} {x:AVal} (l:List Int) (h0:l ≠ []) (hb:QE6 l) (hl:l.length<=70368744177664):AMoves Tryz.prog 310 [.ptr 0 0 2 0 0] [(0,.row te 2 [[x,.own 1 0 1 0 l.length]]),(0,Q35 l)] 1 (Sg (Qn5 l)) [(0,.row te 2 [[.any,.any]])]:=by
 intro K w vs hm hr;have hp0:([(0,.row te 2 [[x,.own 1 0 1 0 l.length]]),(0,Q35 l)]:Objs)[0]? = some (0,.row te 2 [[x,.own 1 0 1 0 l.length]]):=rfl;have hp1:([(0,.row te 2 [[x,.own 1 0 1 0 l.length]]),(0,Q35 l)]:Objs)[1]? = some (0,Q35 l):=rfl;obtain ⟨hC,c,fr,hbk,hfr,hs,h1,hx⟩:=Qk7 hm hp0;have hvs:vs=[.pointer (some ⟨K.ρ 0 0,0,none⟩)]:=by
  obtain ⟨v,rfl⟩:∃ v,vs=[v]:=List.length_eq_one_iff.1 hr.1;obtain ⟨e,_,_⟩:=Qh5 (hr.2 0 _ _ rfl rfl);rw [e]
 subst hvs;have hlen:l.length ≠ 0:=by simpa using h0
 obtain ⟨u1,hu1,hr1⟩:=hx 1 _ rfl;obtain ⟨_,_,hcase⟩:=Qv5 hr1;rcases hcase with ⟨_,q,_⟩|⟨a,cap,rfl,q1,q2,q3⟩
 ·exact absurd q hlen
 have ha:=q3 oA;simp only [yWb] at ha;subst ha;obtain ⟨g1,g2,g3⟩:=hm.obj 1 _ hp1;have hC1:K.C 1 0 ≠ 0:=by simp at g2;omega
 obtain ⟨cur,⟨fr1,hfr1,hbk1⟩,hs1,h11,hcr⟩:=g3 hC1;have hcell:∀ (j:Nat) (x:UInt8),(l.map fun n=>UInt8.ofNat n.toNat)[j]? = some x->cur[j]? = some (Value.int .u8 x.toNat):=by
  intro j x hx;rw [yra] at hx;cases hj:l[j]? with
  | none=>rw [hj] at hx;cases hx
  | some n =>
   rw [hj] at hx;simp only [yBa,yaa] at hx;subst hx;obtain ⟨u,hu,hru⟩:=hcr j 0 [Y n] (Y n) (by rw [yra,hj];rfl) rfl;have e:=QZ0 hru;subst e;have hn:=hb n (yza hj);rw [show j*1+0=j by omega] at hu;rw [hu]
   congr 2
   rw [UInt8.toNat_ofNat'];omega
 have hcurs:l.length<=cur.size:=by
  have e:cur.size=K.C 1 0*1:=hs1;simp at g2;omega
 have c0:w.cell? ⟨K.ρ 0 0,1,none⟩=some (.slice (some ⟨K.ρ 1 0,0,none⟩) (l.map fun n=>UInt8.ofNat n.toNat).length cap):=by
  rw [Lib.cell_of_heap hbk,yxa];exact hu1
 refine (Q2b (K.ρ 0 0) (K.ρ 1 0) cap cur fr1 (l.map fun n=>UInt8.ofNat n.toNat) w (by simpa using h0) c0 hbk1 (by rw [yxa];exact q1) (by rw [yxa];exact hcurs) (by rw [yxa];omega) hcell).mono ?_;rintro e w' ⟨rfl,rfl⟩;obtain ⟨fr2,hfz⟩:=freeze_setB (w:=w.drew) (n:=(l.map fun n=>UInt8.ofNat n.toNat).length) (g:=K.ρ 1 0) hbk1;have hm2:=MemSat.kill hm.drew hp1 rfl hC1 (.cells cur 5 fr2);rw [← hfz] at hm2
 have told:Go.Fw.Told 1 (Sg (Qn5 l)) [(0,.row te 2 [[x,.own 1 0 1 0 l.length]]),(0,.dead)] (Sg (Qn5 l)) [(0,.row te 2 [[.any,.any]])] :=
  Qb3 [0] rfl (by decide) (.cons 0 _ _ _ _ rfl (QE1 (.cons _ _ _ _ (fun _ _ _ _ _=>.any _) (.cons _ _ _ _ (fun _ _ _ _ _=>.any _) .nil))) .nil) (Qg3 (QM2 rfl))
 obtain ⟨K',hle,hm3,hr3⟩:=told (K.cut 1) K _ (.string (Qn5 l)) rfl (Qga (by rw [← hm.len];simp)) hm2 (.lit _);refine ⟨_,K',?_,hle,hm3,hr3⟩;rw [bytesStr_data]
theorem String_c {te:TypeId} (l:List Int) (hb:QE6 l) (hl:l.length<=70368744177664):AMoves Tryz.prog 310 [.ptr 0 0 2 0 0] [(0,.row te 2 [[.any,.buf 1 0 1 l.length]]),(0,Q35 l)] 1 (Sg (Qn5 l)) [(0,.row te 2 [[.any,.any]])]:=by
 by_cases h0:l=[]
 ·subst h0;intro K w vs hm hr;have hp0:([(0,.row te 2 [[.any,.buf 1 0 1 ([]:List Int).length]]),(0,Q35 [])]:Objs)[0]? = some (0,.row te 2 [[.any,.buf 1 0 1 ([]:List Int).length]]):=rfl;obtain ⟨hC,c,fr,hbk,hfr,hs,h1,hx⟩:=Qk7 hm hp0;have hvs:vs=[.pointer (some ⟨K.ρ 0 0,0,none⟩)]:=by
   obtain ⟨v,rfl⟩:∃ v,vs=[v]:=List.length_eq_one_iff.1 hr.1;obtain ⟨e,_,_⟩:=Qh5 (hr.2 0 _ _ rfl rfl);rw [e]
  subst hvs;obtain ⟨u1,hu1,hr1⟩:=hx 1 _ rfl
  have told:Go.Fw.Told 1 (Sg (Qn5 [])) [(0,.row te 2 [[.any,.buf 1 0 1 ([]:List Int).length]]),(0,Q35 [])] (Sg (Qn5 [])) [(0,.row te 2 [[.any,.any]])] :=
   Qb3 [0] rfl (by decide) (.cons 0 _ _ _ _ rfl (QE1 (.cons _ _ _ _ (fun _ _ _ _ _=>.any _) (.cons _ _ _ _ (fun _ _ _ _ _=>.any _) .nil))) .nil) (Qg3 (QM2 rfl))
  obtain ⟨K',hle,hm3,hr3⟩:=told (K.cut 1) K _ (.string (Qn5 [])) rfl (Qga (by rw [← hm.len];simp)) hm.drew (.lit _);have c0:w.cell? ⟨K.ρ 0 0,1,none⟩=some u1:=by rw [Lib.cell_of_heap hbk];exact hu1
  have fin:Calls Tryz.prog 310 #[.pointer (some ⟨K.ρ 0 0,0,none⟩)] w fun e w'=>e = .returned (.string ⟨#[]⟩)∧w'=w.drew:=by
   generalize hn:([]:List Int).length=n at hr1;cases hr1 with
   | bufNil=>exact QUb _ w c0
   | bufSome _ _ _ _ cap ho hv hl' hc hC' =>
    have hn':n=0:=hn.symm;subst hn';exact Q1b _ cap _ w hc c0
  refine fin.mono ?_;rintro e w' ⟨rfl,rfl⟩;exact ⟨_,K',rfl,hle,hm3,hr3⟩
 ·intro K w vs hm hr;have hm':MemSat K [(0,.row te 2 [[.any,.own 1 0 1 0 l.length]]),(0,Q35 l)] w:=by
   have hp0:([(0,.row te 2 [[.any,.buf 1 0 1 l.length]]),(0,Q35 l)]:Objs)[0]? = some (0,.row te 2 [[.any,.buf 1 0 1 l.length]]):=rfl;obtain ⟨hC,c,fr,hbk,hfr,hs,h1,hx⟩:=Qk7 hm hp0;have hm':=hm.setRow hp0 hC c c ⟨fr,hfr,hbk⟩ rfl h1 [[.any,.own 1 0 1 0 l.length]] (by simp;omega) (by simp) (fun i j e y he hy=>?_)
   ·rw [QIe hbk] at hm';exact hm'
   ·have hi:i=0:=by have:=(List.getElem?_eq_some_iff.1 he).1;simp at this;omega
    subst hi;simp at he;subst he;rcases j with _|_|j
    ·simp at hy;subst hy;obtain ⟨u0,hu0,_⟩:=hx 0 _ rfl;exact ⟨u0,by simpa using hu0,.any _⟩
    ·simp at hy;subst hy;obtain ⟨u1,hu1,hr1⟩:=hx 1 _ rfl;exact ⟨u1,by simpa using hu1,Q7a hr1⟩
    ·simp at hy
  exact String_some l h0 hb hl K w vs hm' hr
end Go.Proofs.YtgnlcjenoaoffaaGreatDoor
namespace Go.Proofs.YtgnlcjenoaoffaaGreatDoor
set_option linter.unusedSimpArgs false
set_option linter.unusedVariables false
open Go.RowKit Go.Shelf
attribute [local go_sem] Oper.semAt_some
def Q55 (hi:Int) (k:Nat):List Int:=(List.range k).map fun (i:Nat)=>hi - (i:Int)
theorem downFrom_succ (hi:Int) (k:Nat):Q55 hi (k+1)=Q55 hi k++[hi - (k:Int)]:=by simp [Q55,List.range_succ]
theorem Qs7 (hi:Int) (k:Nat):(Q55 hi k).length=k:=by simp [Q55]
def leftOf (lo:Int):Value->Nat
 | .int _ n=>(n - lo+1).toNat
 | _=>0
theorem sizes_in (n:Nat) (hn:1<=n) (l Bt Bf:Nat) (lo hi:Int) (h1:1<=lo) (h2:lo<=hi) (h3:hi<=48) (J Jx:List Int->World->Prop)
  (hY:∀ pre x W,J pre W->pre.length<(hi - lo+1).toNat->YieldAt Fence.wide (n - 1) Tryz.prog l #[.int .i64 x] W fun e W' =>
   (e = .returned (.bool true)∧J (pre++[x]) W'∧(W.cell? ⟨Bf,0,none⟩=some (.int .i64 lo)->W'.cell? ⟨Bf,0,none⟩=some (.int .i64 lo)))∨(e = .returned (.bool false)∧Jx (pre++[x]) W'))
  (W:World) (hT:W.cell? ⟨Bt,0,none⟩=some (.int .i64 hi)) (hF:W.cell? ⟨Bf,0,none⟩=some (.int .i64 lo)) (h0:J [] W) :
  CallsIn Fence.wide n Tryz.prog 226 #[.func (.yield l) #[] #[],.pointer (some ⟨Bt,0,none⟩),.pointer (some ⟨Bf,0,none⟩)] W fun e W'=>(∃ v,e = .returned v) ∧
   ((∃ ys,ys=Q55 hi (hi - lo+1).toNat∧J ys W')∨(∃ pre,True∧Jx pre W')):=by
 refine callsIn_of_wp Tryz.func226 rfl trivial ?_ rfl;simp only [Tryz.ntmps226,List.size_toArray,List.length_cons,List.length_nil,Nat.reduceAdd,Nat.reduceSub,Array.replicate_succ,Array.replicate_zero,List.push_toArray,List.append_toArray,List.nil_append,List.cons_append]
 gi_wp2
 gi_loopw [4] (fun p wr=>∃ k:Nat,p = .int .i64 (hi - (k:Int))∧k<=(hi - lo+1).toNat∧wr.cell? ⟨Bf,0,none⟩=some (.int .i64 lo)∧J (Q55 hi k) wr)
  (fun p _=>leftOf lo p)
 case atStart =>
  exact ⟨0,by simp,by omega,hF,h0⟩
 case round =>
  obtain ⟨k,rfl,hk,hc,hJs⟩:=hrel
  by_cases hle:lo<=hi - (k:Int)
  ·obtain ⟨fn,tmps,assign,body,hy,hR⟩:=hY (Q55 hi k) (hi - (k:Int)) wr hJs (by rw [Qs7];omega);have hd:decide (hi - (k:Int) >= lo)=true:=decide_eq_true hle
   gi_wp2
   refine hR.mono ?_;rintro e W3 (⟨rfl,hJ3,hk3⟩|⟨rfl,hJx3⟩)
   ·gi_wp2
    go_roundw
    case rel =>
     refine ⟨k+1,?_,by omega,hk3 hc,by rw [downFrom_succ];exact hJ3⟩;simp;omega
    case measure =>
     simp only [leftOf];omega
   ·gi_wp2
    refine bodyPost_ret (results_none rfl _ _ _) rfl ?_;exact ⟨⟨_,rfl⟩,.inr ⟨_,trivial,hJx3⟩⟩
  ·have hd:decide (hi - (k:Int) >= lo)=false:=decide_eq_false (by omega)
   gi_wp2
   have hk':k=(hi - lo+1).toNat:=by omega
   subst hk'
   go_end0
   exact ⟨⟨_,rfl⟩,.inl hJs⟩
theorem sizes_stops (n:Nat) (hn:1<=n) (Bt Bf:Nat) (lo hi:Int) (w:World) (h1:1<=lo) (h2:lo<=hi) (h3:hi<=48) (hbt:Bt<w.heap.size) (hbf:Bf<w.heap.size)
  (hT:w.cell? ⟨Bt,0,none⟩=some (.int .i64 hi)) (hF:w.cell? ⟨Bf,0,none⟩=some (.int .i64 lo)) :
  SeqStopsK Fence.wide n Tryz.prog 226 #[.pointer (some ⟨Bt,0,none⟩),.pointer (some ⟨Bf,0,none⟩)] (fun x:Int=>#[Value.int .i64 x]) (fun W W'=>W.cell? ⟨Bf,0,none⟩=some (.int .i64 lo)->W'.cell? ⟨Bf,0,none⟩=some (.int .i64 lo)) (fun ys=>ys=Q55 hi (hi - lo+1).toNat) (fun _=>True) (hi - lo+1).toNat w :=
 fun l J Jx W hW _ _ hY h0=>sizes_in n hn l Bt Bf lo hi h1 h2 h3 J Jx hY W ((hW.cell (p:=⟨Bt,0,none⟩) hbt).trans hT) ((hW.cell (p:=⟨Bf,0,none⟩) hbf).trans hF) h0
end Go.Proofs.YtgnlcjenoaoffaaGreatDoor
namespace Go.Proofs.YtgnlcjenoaoffaaGreatDoor
set_option linter.unusedSimpArgs false
set_option linter.unusedVariables false
open Go.Fw
theorem ckA {p:Prop} (h:p:=by first|exact wu64_nonneg _|omega|(simp only [Qi5];omega)|(simp only [yFa,yqb,cond_true,cond_false,yha,yQa,ydb,y2a,Bool.not_not,yua,y3a,beq_iff_eq,bne_iff_ne,beq_eq_false_iff_ne,bne_eq_false_iff_eq,ne_eq] at *;first|omega|(simp (disch:=omega) only [wr];omega))|grind):p:=h
theorem leA {p:Prop} (h:p:=by first|rfl|omega|(simp;omega)|grind):p:=h
theorem exA {p:Prop} (h:p:=by first|omega|(dsimp only;omega)|(simp;done)|(simp;omega)|(simp [Qi5];done)|grind):p:=h
theorem omA {p:Prop} (h:p:=by first|omega|(dsimp only;omega)|grind):p:=h
theorem szA {p:Prop} (h:p:=by first|omega|assumption|(refine ⟨?_,?_⟩ <;> assumption)|(simp;done)|exact QB1 (by assumption) (by first|exact Job.szz _|exact Usage.szz _|exact Shape.szz _|exact Token.szz _)|exact Shape.szz _|exact Job.szz _|exact State.szz _|(rw [bytesStr_size];omega)|(refine yea (Q06 _) ?_;simp only [yEa,yAa];omega)|(dsimp only [Cmd.sz,Job.sz,Shape.sz,State.sz,Usage.sz,Token.sz,LexReader.sz,ImageReader.sz,Ref28From.sz,Cmd.szN,Job.szN,Shape.szN,State.szN,Usage.szN,Token.szN,LexReader.szN,ImageReader.szN,Ref28From.szN];(repeat' apply And.intro) <;> first|assumption|(simp;done))|grind):p:=h
theorem lnA {p:Prop} (h:p:=by first|rfl|exact (Qi5 _).symm|exact Qi5 _|(simp;done)|(simp [Qi5];done)|grind):p:=h
theorem eqA {p:Prop} (h:p:=by first|rfl|(simp only [yda,yXa,List.map_set];rfl)|(rw [List.map_replicate];rfl)|(rw [List.map_take];rfl)|exact Qi7 _ _ _|(refine Eq.symm ?_;exact range_listS _ _ _)|exact (bytesOf_map _)|(rw [yDb];rfl)|(rw [yDb,← Qi7];rfl)|(simp;done)|((repeat rw [yDb]);repeat' (first|rfl|exact Qi7 _ _ _|(refine Eq.symm ?_;exact range_listS _ _ _)|exact rangeTake _ _ _ ckA|exact rangeDrop _ _ _ _ leA|exact range_cut _ _ _ _ _ leA ckA|exact List.map_replicate|refine app_eq ?_ ?_))):p:=h
theorem cvA {p:Prop} (h:p:=by first|exact newsP_own rfl lnA|exact newsP_nil|exact newsP_ownE rfl eqA lnA|exact newsP_seq (by first|rfl |  exact Qi7 _ _ _|(refine Eq.symm ?_;exact range_listS _ _ _)|exact rangeTake _ _ _ ckA|exact rangeDrop _ _ _ _ leA|exact range_cut _ _ _ _ _ leA ckA|simp)):p:=h
theorem gkA {p:Prop} (h:p:=by first|exact fun hg=>yoa ckA|exact fun _=>rfl|exact rfl):p:=h
theorem apA {p:Prop} (h:p:=by first|(simp;omega)|grind):p:=h
theorem roA {p:Prop} (h:p:=by first|rfl|omega):p:=h
theorem ltA {i n:Nat} (h:decide ((i:Int)<(n:Int))=true):i<n:=by have:=yca h;omega
theorem geA {i n:Nat} (h:decide ((i:Int)<(n:Int))=false):n<=i:=by have:=yja h;omega
theorem sucA (m:Nat) (h:0<m:=by omega):∃ k,m=k+1:=⟨m - 1,by omega⟩
theorem tp0 {objs:Objs} {ks:List Nat} {o ver k a b i:Nat} {p:AObj} (hi:ks[i]? = some o:=by exact rfl) (hp:objs[o]? = some (ver,p):=by exact rfl):TurnV objs 0 ks (.ptr o ver k a b) (.ptr i 0 k a b):=by
 have:=Qy0 (n:=0) (k:=k) (i':=a) (j:=b) i hi hp
 rwa [yda] at this
theorem to0 {objs:Objs} {ks:List Nat} {o ver k off len len' i:Nat} {p:AObj} (hl:len=len') (hi:ks[i]? = some o:=by exact rfl) (hp:objs[o]? = some (ver,p):=by exact rfl):TurnV objs 0 ks (.own o ver k off len) (.own i 0 k off len'):=by
 have:=QPb (n:=0) (k:=k) (off:=off) i hi hp hl
 rwa [yda] at this
theorem tm0 {objs:Objs} {ks:List Nat} {o i:Nat} {p:AObj} (hi:ks[i]? = some o:=by exact rfl) (hp:objs[o]? = some (0,p):=by exact rfl):TurnV objs 0 ks (.map o) (.map i):=by
 have:=turn_map (n:=0) i hi hp
 rwa [yda] at this
theorem tn0 {objs:Objs} {ks:List Nat} {k o i:Nat} (hi:ks[i]? = some o:=by exact rfl):TurnV objs 0 ks (.lit (.slice none 0 0)) (.own i 0 k 0 0):=by
 have:=Q25 (objs:=objs) (n:=0) (k:=k) i hi
 rwa [yda] at this
theorem loA {P:Prop} (h:P:=by ((repeat' first|exact .nil|exact lx|exact lw|refine .cons ?_ ?_|refine Low.tup' ?_|refine Low.agg' ?_|with_reducible exact Alt.low _ _|with_reducible exact Shape.low _ _|with_reducible exact Dep.low _ _|with_reducible exact Cmd.low _ _|with_reducible exact Node.low _ _|with_reducible exact Job.low _ _|with_reducible exact Resize.low _ _|with_reducible exact Book.low _ _|with_reducible exact Usage.low _ _|with_reducible exact State.low _ _|with_reducible exact Note.low _ _);first|done|fail)):P:=h
theorem loL {P:Prop} (h:P:=by ((repeat first|exact LowL.nil|refine l1 ?_|refine lv lw ?_|with_reducible refine lv (Alt.low _ _) ?_|with_reducible refine lv (Shape.low _ _) ?_|with_reducible refine lv (Dep.low _ _) ?_|with_reducible refine lv (Cmd.low _ _) ?_|with_reducible refine lv (Node.low _ _) ?_|with_reducible refine lv (Job.low _ _) ?_|with_reducible refine lv (Resize.low _ _) ?_|with_reducible refine lv (Book.low _ _) ?_|with_reducible refine lv (Usage.low _ _) ?_|with_reducible refine lv (State.low _ _) ?_|with_reducible refine lv (Note.low _ _) ?_);first|done|fail)):P:=h
theorem seA {P:Prop} (h:P:=by first|exact sr|((repeat' first|exact .nil|refine Seen.tup ?_|refine e1 ?_|refine ev ?_ ?_|exact Q00|exact sr|refine Seen.agg ?_);first|done|fail)):P:=h
theorem tvA {P:Prop} (h:P:=by first|exact t1|exact tp0|exact to0 lnA|exact tn0|exact Qg3 loA|exact tm0):P:=h
theorem wtA {P:Prop} (h:P:=by ((repeat' first|exact .nil|refine tO rfl ?_ ?_|exact tl eqA|with_reducible exact ts Alt.lo|with_reducible exact ts Shape.lo|with_reducible exact ts Dep.lo|with_reducible exact ts Token.lo|with_reducible exact ts Cmd.lo|with_reducible exact ts Step.lo|with_reducible exact ts Node.lo|with_reducible exact ts Job.lo|with_reducible exact ts Resize.lo|with_reducible exact ts Book.lo|with_reducible exact ts Usage.lo|with_reducible exact ts State.lo|with_reducible exact ts Note.lo|with_reducible exact ts Out.lo|with_reducible exact ts LexReader.lo|with_reducible exact ts Taken.lo|with_reducible exact ts Ranked.lo|exact ts loL|exact .strIter _ _|refine QE1 ?_|refine c1 ?_|refine cv (to0 lnA) ?_|refine cv tp0 ?_|refine cv tn0 ?_|refine cv (QB4 .nil ?_) ?_|exact Qz8 _ rfl rfl (fun _=>lx)|exact Qz8 _ rfl rfl (fun _=>Job.low _ _)|exact Qz8 _ rfl rfl (fun _=>Resize.low _ _));first|done|fail)):P:=h
theorem wsA {P:Prop} (h:P:=by ((repeat' first|exact .nil|refine s1 ?_|refine sl lw ?_|refine sv tp0 ?_|refine sv (to0 lnA) ?_|refine sv (turn_eq (I_eq (wr omA)) lx) ?_|refine sv tm0 ?_|refine sv tn0 ?_|refine sv (QB4 .nil ?_) ?_|refine cv tp0 ?_|refine c1 ?_|refine sv (Qg3 (Low.fn _ _ _ LowL.nil LowL.nil)) ?_);first|done|fail)):P:=h
theorem wkA {nt n0:Nat} {objs:Objs} {s s':List (Nat × AVal)} {new:Objs} (ks:List Nat) (hT:TurnL objs 0 ks ks new:=by exact wtA) (hs:SubT objs 0 ks s s':=by exact wsA) (hid:idOK n0 ks objs=true:=by exact rfl) (hnd:ks.Nodup:=by decide):Weaker nt n0 ⟨s,objs⟩ ⟨s',new⟩:=Q3d ks hid hnd hT hs
theorem ttA {n0:Nat} {objs:Objs} {r0 r:AVal} {new:Objs} (ks:List Nat) (hT:TurnL objs 0 ks ks new:=by exact wtA) (hr:TurnV objs 0 ks r0 r:=by exact tvA) (hid:idOK n0 ks objs=true:=by exact rfl) (hnd:ks.Nodup:=by decide):Go.Fw.Told n0 r0 objs r new:=Qb3 ks hid hnd hT hr
theorem pt {α:Type} {c:Bool} {a b z:α} (h:c=true) (k:(bif c then a else b)=z):a=z:=(cond_t h).symm.trans k
theorem pf {α:Type} {c:Bool} {a b z:α} (h:c=false) (k:(bif c then a else b)=z):b=z:=(cond_f h).symm.trans k
theorem folA {P:Prop} (h:P:=by first|((repeat first|replace hR:=pt (by with_reducible assumption) hR|replace hR:=pf (by with_reducible assumption) hR);exact hR)|(simp only [yXa] at *;(repeat first|replace hR:=pt (by with_reducible assumption) hR|replace hR:=pf (by with_reducible assumption) hR);exact hR)):P:=h
theorem lfA {P:Prop} (h:P:=by first|((repeat first|replace hR:=pt (by with_reducible assumption) hR|replace hR:=pf (by with_reducible assumption) hR);subst hR;first|exact Q60 lx (by with_reducible exact sr)|exact Q60 loA seA)|(simp only [yXa] at *;(repeat first|replace hR:=pt (by with_reducible assumption) hR|replace hR:=pf (by with_reducible assumption) hR);subst hR;first|exact Q60 lx sr|exact Q60 loA seA)):P:=h
theorem gA {P:Program} {f:FuncId} {fn:Func} {c:Code} {args:List AVal} {r:AVal} (keep:Nat->Bool) (hf:P.funcs[f]? = some fn)
  (h:cwp P fn.ntmps ([]:Objs).length keep c (CRet P fn ([]:Objs).length fun r' o=>r'=r∧o=[]) (Qp3 0 args) []) (ha:LowL 0 args:=by exact loA) (hl:Low 0 r:=by exact loA) (hb:fn.body=some c:=by exact rfl) (hlen:Nat.ble args.length fn.ntmps=true:=by exact rfl):∀ objs,AGives P f args objs r :=
 ga ha hl keep hf h hb hlen
end Go.Proofs.YtgnlcjenoaoffaaGreatDoor
namespace Go.Fw
set_option linter.unusedSimpArgs false
set_option linter.unusedVariables false
open Go.RowKit
def Qo6:Code->Bool
 | .skip=>true
 | .label _=>true
 | .exit _=>true
 | .goto _=>true
 | .ret=>true
 | .region _ ops _=>ops.toList.all fun o=>match o.op with | .defer _=>false|_=>true
 | .seq a b=>Qo6 a&&Qo6 b
 | .cond _ x y=>Qo6 x&&Qo6 y
 | .block _ b=>Qo6 b
 | .loop b=>Qo6 b
 | _=>false
section
variable {P:Program} {nt n0:Nat} {keep:Nat->Bool}
theorem noDefer_of {ops:Array Oper} (h:(ops.toList.all fun o=>match o.op with | .defer _=>false|_=>true)=true):∀ o ∈ ops.toList,∀ c,o.op ≠ .defer c:=by
 intro o ho c hc;have:=List.all_eq_true.1 h o ho;rw [hc] at this;cases this
theorem wp_draw_ops {tr:Nat->RSt} {K0 K:Ctx} {s:St} {ops:Array Oper} {a:Act} {w:World} {Q:Exit->Act->World->Prop} (hmix:P.follows .mixedOrders=true) (ht:Trace P nt ops s.slots tr) (hck:QU2 ops (masks ops)=true) (ho:(tr 0).objs=s.objs) (hK:K0.le K) (hs:Sat nt K s a w)
  (hQ:∀ K a w,K0.le K->RSat nt ops s.slots K (tr ops.size) a w->Q .normal a w) (t:Nat):wpOps P ops Q (Region.schedule (P.follows .mixedOrders) ops t) a { w with drawn:=w.drawn+1 }:=by
 simp only [Region.schedule,hmix,Bool.true_or,if_true];refine wpAny_sound ops.size t _ a _ (Qf9 (K0:=K0) ht hck hQ ops.size _ a _ (by simp) ?_ ?_)
 ·exact yea (yIb _ _) (by simp)
 ·have hf:∀ k,(Array.replicate ops.size false).getD k false=false:=fun k=>by
   simp only [yya,Array.getElem?_replicate];split <;> rfl
  exact ⟨(fun i o e hi=>by simp only [hf] at hi;cases hi),hs.size,K,0,hK,hs.defers,yna _,(by rw [ho];exact hs.mem.drawn _),(fun j _=>by simp only [hf];simp),(fun j o d tg v _ _ hS=>by simp only [hf] at hS;cases hS),fun t _=>hs.slot t⟩
theorem Post.noLets {K0:Ctx} {Q:AExit->St->Prop}:¬ LetsOut (Post nt K0 Q):=by
 rintro ⟨a,w,e',K,s,he,_⟩;cases e' <;> cases he
theorem awp_round (l n:Nat) (hdr:∀ id,keep (2000000+id)=true) (c:Code):Qo6 c=true -> ∀ (Q:AExit->St->Prop) (s:St) (K0 K:Ctx) (a:Act) (w:World),K0.n=n0->K0.le K->Sat nt K s a w->awp P nt n0 keep c Q s->c.wpIn (Fence.wide.inRound l) n P (Post nt K0 Q) a w:=by
 induction c with
 | skip=>exact fun _ Q s K0 K a w hn hle hs h=>wpIn_skip ⟨.normal,K,s,rfl,hle,hs,h⟩
 | label l=>exact fun _ Q s K0 K a w hn hle hs h=>wpIn_label ⟨.normal,K,s,rfl,hle,hs,h⟩
 | exit id=>exact fun _ Q s K0 K a w hn hle hs h=>wpIn_exit ⟨.exit id,K,s,rfl,hle,hs,h⟩
 | goto l=>exact fun _ Q s K0 K a w hn hle hs h=>wpIn_goto ⟨.goto l,K,s,rfl,hle,hs,h⟩
 | ret=>exact fun _ Q s K0 K a w hn hle hs h=>wpIn_ret ⟨.ret,K,s,rfl,hle,hs,h⟩
 | region id ops draw =>
  intro hok Q s K0 K a w hn hle hs h;have hd:=noDefer_of (show (ops.toList.all _)=true from hok);cases draw with
  | false =>
   simp only [awp] at h;refine wpIn_region (Qaa Post.noLets hd _ _ _ ?_);rw [yZb];refine QJ7 (K0:=K0) (Kt:=fun rs=>Q .normal { slots:=QH9 keep s.slots rs.loc,objs:=rs.objs }) ?_ ops.size 0 oA K (Qsa s) a w hle hs.start (by simpa using h);intro K' rs a' w' hle' hr hk;exact ⟨.normal,K',_,rfl,hle',QD5 keep hr,hk⟩
  | true =>
   simp only [awp,hdr] at h;obtain ⟨hmix,hck,tr,ht,ho,hq⟩:=h;refine wpIn_region_draw fun t=>Qaa Post.noLets hd _ _ _ ?_
   refine wp_draw_ops (K0:=K0) hmix ht hck ho hle hs ?_ t;intro K' a' w' hle' hr;exact ⟨.normal,K',_,rfl,hle',QD5 keep hr,hq⟩
 | seq x y ihx ihy =>
  intro hok Q s K0 K a w hn hle hs h;simp only [Qo6,yha] at hok;simp only [awp] at h;split at h
  ·refine wpIn_seq (wpIn_mono (ihx hok.1 _ s K0 K a w hn hle hs h) ?_);rintro e a' w' ⟨e',K',s',rfl,hle',hs',hq⟩;cases e' with
   | normal=>exact ihy hok.2 Q s' K0 K' a' w' hn hle' hs' hq
   | exit id=>exact ⟨.exit id,K',s',rfl,hle',hs',hq⟩
   | goto l=>exact ⟨.goto l,K',s',rfl,hle',hs',hq⟩
   | ret=>exact ⟨.ret,K',s',rfl,hle',hs',hq⟩
  ·obtain ⟨J,hJ,h⟩:=h;refine wpIn_seq (wpIn_mono (ihx hok.1 _ s K0 K a w hn hle hs h) ?_);rintro e a' w' ⟨e',K',s',rfl,hle',hs',hq⟩;cases e' with
   | normal =>
    obtain ⟨s'',hweak,hj⟩:=hq;obtain ⟨K'',hle'',hs''⟩:=hweak K0 K' a' w' hn hle' hs';exact ihy hok.2 Q s'' K0 K'' a' w' hn hle'' hs'' (hJ s'' hj)
   | exit id=>exact ⟨.exit id,K',s',rfl,hle',hs',hq⟩
   | goto l=>exact ⟨.goto l,K',s',rfl,hle',hs',hq⟩
   | ret=>exact ⟨.ret,K',s',rfl,hle',hs',hq⟩
 | cond c x y ihx ihy =>
  intro hok Q s K0 K a w hn hle hs h;simp only [Qo6,yha] at hok;simp only [awp] at h;split at h
  ·rename_i b hb;have hv:a.eval c = .bool b:=by
    cases c with
    | tmp t =>
     simp only [lookO] at hb;have hr:=hs.slot t;rw [hb] at hr;exact QZ0 hr
    | const v=>simp only [lookO,AVal.lit.injEq] at hb;exact hb
    | global g=>simp [lookO] at hb
    | func f=>simp [lookO] at hb
   exact wpIn_cond_split hv (fun ht=>ihx hok.1 Q s K0 K a w hn hle hs (h.1 ht)) (fun hf=>ihy hok.2 Q s K0 K a w hn hle hs (h.2 hf))
  ·exact h.elim
 | block id body ih =>
  intro hok Q s K0 K a w hn hle hs h;refine wpIn_block (wpIn_mono (ih hok _ s K0 K a w hn hle hs h) ?_);rintro e a' w' ⟨e',K',s',rfl,hle',hs',hq⟩;cases e' with
  | normal=>exact ⟨.normal,K',s',rfl,hle',hs',hq⟩
  | exit i =>
   simp only at hq;simp only [AExit.real,Exit.inBlock];cases hb:Nat.beq i id with
   | true =>
    rw [hb] at hq;have:=yla hb;rw [if_pos this];exact ⟨.normal,K',s',rfl,hle',hs',hq⟩
   | false =>
    rw [hb] at hq;have:i ≠ id:=fun e=>by subst e;simp at hb
    rw [if_neg this];exact ⟨.exit i,K',s',rfl,hle',hs',hq⟩
  | goto l=>exact ⟨.goto l,K',s',rfl,hle',hs',hq⟩
  | ret=>exact ⟨.ret,K',s',rfl,hle',hs',hq⟩
 | loop body ih =>
  intro hok Q s K0 K a w hn hle hs h;obtain ⟨I,m0,s1,hweak0,hI,hround⟩:=h;obtain ⟨K1,hle1,hs1⟩:=hweak0 K0 K a w hn hle hs;refine wpIn_loop_ghost (fun m a w=>∃ s K,K0.le K∧Sat nt K s a w∧I m s) m0 ⟨s1,K1,hle1,hs1,hI⟩ ?_;rintro m a w ⟨s,K,hle,hs,hI⟩;refine wpIn_mono (ih hok _ s K0 K a w hn hle hs (hround m s hI)) ?_;rintro e a' w' ⟨e',K',s',rfl,hle',hs',hq⟩;cases e' with
  | normal =>
   obtain ⟨m',s'',hlt,hweak,hI'⟩:=hq;obtain ⟨K'',hle'',hs''⟩:=hweak K0 K' a' w' hn hle' hs';exact ⟨m',hlt,s'',K'',hle'',hs'',hI'⟩
  | exit id=>exact ⟨.exit id,K',s',rfl,hle',hs',hq⟩
  | goto l=>exact ⟨.goto l,K',s',rfl,hle',hs',hq⟩
  | ret=>exact ⟨.ret,K',s',rfl,hle',hs',hq⟩
 | _=>intro hok;cases hok
end
theorem MemSat.putAt {K:Ctx} {s:Objs} {w:World} {l:Nat} {o:Obj} (h:MemSat K s w) (hB:K.B l=some o) (ho:o.isCells=false) (o':Obj) :
  MemSat { K with B:=fun b=>if b=l then some o' else K.B b } s (w.putObj l o'):=by
 have hl:w.heap[l]? = some o:=h.below.block l o hB;have hlt:l<w.heap.size:=(Array.getElem?_eq_some_iff.1 hl).1;have hne:∀ (i:Nat) (p:Nat × AObj),s[i]? = some p->p.2.live=true->K.C i p.1 ≠ 0->K.ρ i p.1 ≠ l:=by
  intro i p hp hv hC e;have:=(h.lo i p hp hv hC).1;rw [e,hB] at this;cases this
 refine ⟨h.len,h.ver,fun i p hp=>?_,fun i p hp hv hC=>?_,h.dis,fun b i u hu=>?_,?_⟩
 ·refine ObjSat.monoR (QK3 K _ K.w0) (h.olt hp) (by rw [h.ver i p hp];exact yia _) (h.obj i p hp) (fun hv hC=>?_);exact World.putObj_heap_other (hne i p hp hv hC)
 ·obtain ⟨h1,h2,h3⟩:=h.lo i p hp hv hC;refine ⟨?_,by simpa using h2,h3⟩;show (if K.ρ i p.1=l then _ else _)=none;rw [if_neg (hne i p hp hv hC)];exact h1
 ·obtain ⟨h1,h2⟩:=h.mem b i u hu;obtain ⟨c,t,fr,hc⟩:=Q3b h1;have hb:b ≠ l:=by
   rintro rfl;rw [hl] at hc;cases hc;simp [Obj.isCells] at ho
  exact ⟨(World.cell?_of_block (a:=⟨b,i,none⟩) (World.putObj_heap_other hb)).trans h1,h2⟩
 ·refine ⟨h.below.os,h.below.tape,h.below.output,by simpa using h.below.size,fun b x hx=>?_⟩
  by_cases hb:b=l
  ·subst hb;simp only [if_true,yaa] at hx;subst hx;exact World.putObj_heap_same hlt
  ·simp only [if_neg hb] at hx;exact (World.putObj_heap_other hb).trans (h.below.block b x hx)
structure RoundCtx (n1:Nat) (K L:Ctx):Prop where
 r:(K.cut n1).leR L
 B:∀ b x,K.B b=some x->L.B b=some x
def IterC (P:Program) (gf:Nat) (lb:List AVal) (n1:Nat) (items:List AVal) (so:Nat->Objs):Prop :=
 ∀ (l:Nat) (K:Ctx) (w:World) (vs:List Value),MemSat K (so 0) w->Reps K lb vs ->
  (∀ (k:Nat) (x:AVal) (L:Ctx) (W:World) (v:Value),items[k]? = some x->RoundCtx n1 K L->MemSat L (so k) W->Rep L x v ->
   YieldAt Fence.wide 0 P l #[v] W fun e W'=>e = .returned (.bool true) ∧ ∃ L':Ctx,(L.cut n1).le L'∧MemSat L' (so (k+1)) W') ->
  CallsIn Fence.wide 0 P gf (#[.func (.yield l) #[] #[]]++vs.toArray) w fun e w'=>(∃ v,e = .returned v) ∧ ∃ K':Ctx,(K.cut n1).le K'∧MemSat K' (so items.length) w'
section
variable {P:Program} {nt n0:Nat} {keep:Nat->Bool}
theorem rangeC {g:Operand} {p gf:Nat} {asg body:Code} {s:St} {lb:List AVal} {items:List AVal} {so:Nat->Objs} (n1:Nat) (h0:so 0=s.objs) (hn01:n0<=n1) (hlen:∀ k,k<=items.length->n1<=(so k).length) (hp:p<nt)
  (hfree:Q71 s.slots p = .any) (hlow:∀ t,Low n1 (Q71 s.slots t)) (hg:lookO s g = .fn (.func gf) [] lb)
  (eg:∀ args w,(callFunc gf args).run P w = .ok (.enter gf args) w) (hit:IterC P gf lb n1 items so)
  (hdr:∀ id,keep (2000000+id)=true) (hoka:Qo6 asg=true) (hok:Qo6 body=true)
  (hbody:∀ k x,items[k]? = some x->awp P nt n1 keep asg (fun e t=>match e with | .normal=>awp P nt n1 keep body (fun e t=>match e with | .normal=>Weaker nt n1 t ⟨s.slots,so (k+1)⟩|_=>False) t|_=>False) ⟨(p,x) :: s.slots,so k⟩) :
  Qn9 P nt n0 (.rangeFunc g #[p] asg body) (fun e t=>e = .normal∧t=⟨s.slots,so items.length⟩) s:=by
 intro K0 K a w hn hle hs;have hBlt:∀ b x,K.B b=some x->b<w.heap.size:=fun b x hx=>hs.mem.below.lt hx
 have hgv:∃ vs:List Value,a.eval g = .func (.func gf) #[] vs.toArray∧Reps K lb vs:=by
  have hr:Rep K (lookO s g) (a.eval g):=by
   cases g with
   | tmp t=>exact hs.slot t
   | const v=>exact .lit v
   | global g=>simp [lookO] at hg
   | func f=>simp [lookO] at hg
  rw [hg] at hr;generalize a.eval g=u at hr;cases hr with
  | fn _ _ _ us vs hl hm h1 h2 =>
   have:us=[]:=by cases us with|nil=>rfl|cons _ _=>simp at hl
   subst this;exact ⟨vs,rfl,hm,h2⟩
 obtain ⟨vs,hgv,hreps⟩:=hgv;refine (wpIn_wide (n:=3)).1 (wpIn_rangeFunc fun fn _=>?_);obtain ⟨rec,hrec⟩:∃ rec:LoopState->Option Code->Loop,rec=fun st pe=>{ state:=st,pending:=pe,fn,tmps:=a.tmps,params:=#[p],assign:=asg,body,defers:=w.heap.size }:=⟨_,rfl⟩
 obtain ⟨D,hD⟩:∃ D,D=w.heap.size:=⟨_,rfl⟩;obtain ⟨W1,hW1⟩:∃ W1,(w.alloc (.deferred (some []))).alloc (.loop (rec .ready none))=W1:=⟨_,rfl⟩;have hl1:W1.heap[D+1]? = some (.loop (rec .ready none)):=by
  rw [← hW1,hD];have:=World.alloc_heap_new (w.alloc (.deferred (some []))) (.loop (rec .ready none));rwa [World.size_alloc] at this
 have hd1:W1.heap[D]? = some (.deferred (some [])):=by
  rw [← hW1,hD];exact (Below.heap_alloc _ _ _ (by simp)).trans (World.alloc_heap_new w _)
 have hm1:MemSat K s.objs W1:=by rw [← hW1];exact (hs.mem.junk _).junk _
 obtain ⟨Kc,hKc⟩:∃ Kc:Ctx,Kc={ K with B:=fun b=>if b=D then some (.deferred (some [])) else if b=D+1 then some (.loop (rec .ready none)) else K.B b,w0:=K.w0 }:=⟨_,rfl⟩;have hBc:∀ b x,K.B b=some x->Kc.B b=some x:=fun b x hx=>by
  have:=hBlt b x hx;rw [hKc];show (if b=D then _ else if b=D+1 then _ else K.B b)=some x;rw [if_neg oA,if_neg oA];exact hx
 have hBD:Kc.B D=some (.deferred (some [])):=by rw [hKc];show (if D=D then _ else _)=_;rw [if_pos rfl]
 have hBl:Kc.B (D+1)=some (.loop (rec .ready none)):=by rw [hKc];show (if D+1=D then _ else if D+1=D+1 then _ else _)=_;rw [if_neg oA,if_pos rfl]
 have hmc:MemSat Kc (so 0) W1:=by
  rw [h0,hKc];refine hm1.with _ _ (fun o q hq hv hC=>?_) ?_
  ·have:=(hs.mem.lo o q hq hv hC).2.1;have h1:=(hs.mem.lo o q hq hv hC).1;show (if K.ρ o q.1=D then _ else if K.ρ o q.1=D+1 then _ else K.B _)=none;rw [if_neg oA,if_neg oA];exact h1
  ·have q1:=hm1.below;refine ⟨q1.os,q1.tape,q1.output,q1.size,fun b y hy=>?_⟩;change (if b=D then some (Obj.deferred (some [])) else if b=D+1 then some (Obj.loop (rec .ready none)) else K.B b)=some y at hy;split at hy
   ·rename_i e;subst e;simp only [yaa] at hy;subst hy;exact hd1
   ·split at hy
    ·rename_i e;subst e;simp only [yaa] at hy;subst hy;exact hl1
    ·exact q1.block b y hy
 have hrc:Reps Kc lb vs:=by rw [hKc];exact Reps.monoR (QK3 K _ K.w0) hreps
 refine ⟨D+1,[{ target:=.collected D,args:=#[] }],W1,{ target:=.fn (.func gf) vs.toArray,args:=#[.func (.yield (D+1)) #[] #[]] },W1,gf,
  #[.func (.yield (D+1)) #[] #[]]++vs.toArray,W1,?_,?_,?_,?_,fun h=>absurd h (by simp [Fence.wide]),?_⟩
 ·rw [← hW1,hrec,hD];exact run_enterLoop_outer _ _ _ _ _
 ·simp only [resolve,hgv];simp [go_sem]
 ·intro f' _;trivial
 ·simp [invoke,go_sem,eg]
 refine CallsIn.more (n:=0) ((hit (D+1) Kc W1 vs hmc hrc ?_).mono ?_) oA
 ·
  intro k x L W v hx hR hmL hv;have hkl:k<items.length:=(List.getElem?_eq_some_iff.1 hx).1;have hlL:=hR.B _ _ hBl;have hlW:W.heap[D+1]? = some (.loop (rec .ready none)):=hmL.below.block _ _ hlL;have hy:=run_yield (P:=P) (args:=#[v]) hlW (by rw [hrec];rfl);rw [hrec] at hy;refine ⟨fn,_,asg,body,hy,roundIn_of_wpIn (n:=0) trivial ?_⟩;have hsz:a.tmps.size=nt:=hs.size;have hz:(#[p].zip #[v]) = #[(p,v)]:=by simp
  simp only [hz];show asg.wpIn _ _ P _ { tmps:=a.tmps.setIfInBounds p v,defers:=[] } W;have hn1:n1<=L.n:=by rw [← hmL.len];exact hlen k oA
  obtain ⟨L1,hL1⟩:∃ L1:Ctx,L1={ L with w0:=W }:=⟨_,rfl⟩;have hm1:MemSat L1 (so k) W:=by
   have t:=hmL.with L.B W (fun o q hq hv hC=>(hmL.lo o q hq hv hC).1) ⟨rfl,rfl,rfl,yia _,hmL.below.block⟩
   rw [hL1];exact t
  have hrL:L.leR L1:=by rw [hL1];exact QK3 L L.B W
  have hs1:Sat nt L1 ⟨(p,x) :: s.slots,so k⟩ { tmps:=a.tmps.setIfInBounds p v,defers:=[] } W:=by
   refine ⟨hm1,fun t=>?_,by simpa using hsz,Marks.nil⟩;show Rep _ (Q71 ((p,x) :: s.slots) t) _;rw [Qj2]
   by_cases ht:p=t
   ·subst ht;rw [if_pos rfl];have:(a.tmps.setIfInBounds p v).getD p undef=v:=by
     rw [yya,yvb oA]
     rfl
    simp only [this];exact hv.monoR hrL
   ·rw [if_neg ht];have:(a.tmps.setIfInBounds p v).getD t undef=a.tmps.getD t undef:=by
     rw [yya,yya,yPa ht]
    simp only [this];have hcut:Rep (Kc.cut n1) (Q71 s.slots t) (a.tmps.getD t undef):=by
     refine Rep.low (K:=K) (L:=Kc.cut n1) (n:=n1) (fun b i u hu=>?_) (yia _) (fun _ _ _=>?_) (fun _ _ _=>?_) (fun _ _=>?_) (hs.slot t) (hlow t)
     ·rw [hKc];exact hu
     ·rw [hKc];rfl
     ·rw [hKc];rfl
     ·rw [hKc];rfl
    exact (hcut.monoR hR.r).monoR hrL
  obtain ⟨Kb1,hKb1⟩:∃ Kb1:Ctx,Kb1=L1.cut n1:=⟨_,rfl⟩;have hleb1:Kb1.le L1:=by rw [hKb1];exact Qga (by rw [hL1];exact hn1)
  refine wpIn_mono (awp_round (D+1) 0 hdr asg hoka _ _ Kb1 L1 _ W (by rw [hKb1];rfl) hleb1 hs1 (hbody k x hx)) ?_;rintro e a1 w1 ⟨e1,K1,s1,rfl,hle1,hs1',hq1⟩;cases e1 with
  | exit id=>exact hq1.elim
  | goto t=>exact hq1.elim
  | ret=>exact hq1.elim
  | normal =>
   have hb1l:K1.B (D+1)=some (.loop (rec .ready none)):=hle1.B _ _ (by rw [hKb1,hL1];exact hlL);have hlw1:w1.heap[D+1]? = some (.loop (rec .ready none)):=hs1'.mem.below.block _ _ hb1l;have hbr:=run_beginRound (P:=P) hlw1 (by rw [hrec]);refine ⟨_,hbr,?_⟩;obtain ⟨W2,hW2⟩:∃ W2,W2=w1.putObj (D+1) (.loop { rec .ready none with state:=.busy }):=⟨_,rfl⟩;rw [← hW2];obtain ⟨L2,hL2⟩:∃ L2:Ctx,L2={ K1 with B:=fun b=>if b=D+1 then some (.loop { rec .ready none with state:=.busy }) else K1.B b }:=⟨_,rfl⟩;have hm2:MemSat L2 s1.objs W2:=by
    rw [hL2,hW2];exact hs1'.mem.putAt hb1l rfl (.loop { rec .ready none with state:=.busy })
   have hrL2:K1.leR L2:=by rw [hL2];exact QK3 K1 _ K1.w0
   have hs2:Sat nt L2 s1 a1 W2:=⟨hm2,fun t=>(hs1'.slot t).monoR hrL2,hs1'.size,hs1'.defers.1,fun d hd=>by
    obtain ⟨D',q1,q2,q3⟩:=hs1'.defers.2 d hd;refine ⟨D',q1,?_,by rw [hL2];exact q3⟩;rw [hL2];show (if D'=D+1 then _ else K1.B D')=_;rw [if_neg (by rintro rfl;rw [hb1l] at q2;cases q2)]
    exact q2⟩
   obtain ⟨Kb,hKb⟩:∃ Kb:Ctx,Kb=L2.cut n1:=⟨_,rfl⟩;have hn1':n1<=K1.n:=by have:=hle1.n;rw [hKb1] at this;exact this
   have hleb:Kb.le L2:=by rw [hKb];exact Qga (by rw [hL2];exact hn1')
   refine wpIn_mono (awp_round (D+1) 0 hdr body hok _ _ Kb L2 a1 W2 (by rw [hKb];rfl) hleb hs2 hq1) ?_;rintro e a' w' ⟨e',K3,s3,rfl,hle3,hs3,hq3⟩;cases e' with
   | exit id=>exact hq3.elim
   | goto t=>exact hq3.elim
   | ret=>exact hq3.elim
   | normal =>
    obtain ⟨K4,hle4,hs4⟩:=hq3 Kb K3 a' w' (by rw [hKb];rfl) hle3 hs3;have hbl:Kb.B (D+1)=some (.loop { rec .ready none with state:=.busy }):=by
     rw [hKb,hL2];show (if D+1=D+1 then _ else _)=_;rw [if_pos rfl]
    have hb1:∀ b y,L.B b=some y->K1.B b=some y:=fun b y hy=>hle1.B b y (by rw [hKb1,hL1];exact hy)
    have hbo:∀ b y,b ≠ D+1->L.B b=some y->Kb.B b=some y:=fun b y hb hy=>by
     rw [hKb,hL2];show (if b=D+1 then _ else _)=_;rw [if_neg hb];exact hb1 b y hy
    have h4l:K4.B (D+1)=some (.loop { rec .ready none with state:=.busy }):=hle4.B _ _ hbl;have hlw:w'.heap[D+1]? = some (.loop { rec .ready none with state:=.busy }):=hs4.mem.below.block _ _ h4l;have her:=run_endRound (P:=P) none hlw;refine ⟨_,_,her,rfl,?_⟩;have e1:({ ({ rec .ready none with state:=.busy }:Loop) with state:=if (none:Option Code).isNone then .ready else .done,pending:=none }:Loop)=rec .ready none:=by rw [hrec];rfl
    rw [e1];have hm5:=hs4.mem.putAt h4l rfl (.loop (rec .ready none));have hw4:K4.w0=W:=by rw [hle4.w0,hKb,hL2];show K1.w0=W;rw [hle1.w0,hKb1,hL1];rfl
    have hML1:∀ b i,Kb1.M b i=L.M b i:=fun b i=>by rw [hKb1,hL1];rfl
    have hML:∀ b i,Kb.M b i=K1.M b i:=fun b i=>by rw [hKb,hL2];rfl
    have hM0:∀ b i y,L.B b=some y->K1.M b i=L.M b i:=fun b i y hy=>(hle1.M0 b i y (by rw [hKb1,hL1];exact hy)).trans (hML1 b i)
    have hv1:∀ o,o<n1->L.vs o<=K1.vs o:=fun o ho=>by have:=hle1.vs o (by rw [hKb1];exact ho);rw [hKb1,hL1] at this;exact this
    refine ⟨{ K4 with B:=fun b=>if b=D+1 then some (.loop (rec .ready none)) else K4.B b,w0:=L.w0 },⟨fun b i u hu=>hle4.M b i u (by rw [hML];exact hle1.M b i u (by rw [hML1];exact hu)),fun o v ho hv=>?_,fun o v ho hv=>?_,?_,fun o ho=>?_,rfl,fun b y hy=>?_,fun b i y hy=>?_⟩,?_⟩
    ·have h1:=hle4.ρ o v (by rw [hKb];exact ho) (by rw [hKb,hL2];exact yea hv (hv1 o ho));have h2:=hle1.ρ o v (by rw [hKb1];exact ho) (by rw [hKb1,hL1];exact hv);rw [hKb,hL2] at h1;rw [hKb1,hL1] at h2;exact h1.trans h2
    ·have h1:=hle4.C o v (by rw [hKb];exact ho) (by rw [hKb,hL2];exact yea hv (hv1 o ho));have h2:=hle1.C o v (by rw [hKb1];exact ho) (by rw [hKb1,hL1];exact hv);rw [hKb,hL2] at h1;rw [hKb1,hL1] at h2;exact h1.trans h2
    ·have:=hle4.n;rw [hKb] at this;exact this
    ·have:=hle4.vs o (by rw [hKb];exact ho);rw [hKb,hL2] at this;exact yea (hv1 o ho) this
    ·show (if b=D+1 then _ else K4.B b)=some y
     by_cases hb:b=D+1
     ·subst hb;rw [if_pos rfl];exact hlL.symm.trans hy
     ·rw [if_neg hb];exact hle4.B b y (hbo b y hb hy)
    ·show K4.M b i=L.M b i
     by_cases hb:b=D+1
     ·subst hb;exact ((hle4.M0 _ i _ hbl).trans (hML _ _)).trans (hM0 _ i y hy)
     ·exact ((hle4.M0 b i y (hbo b y hb hy)).trans (hML _ _)).trans (hM0 b i y hy)
    ·have q1:=hm5.below;have q2:=hmL.below;have ew:∀ {α:Type} (f:World->α),f K4.w0=f W:=fun f=>by rw [hw4]
     refine hm5.with _ L.w0 (fun o q hq hv hC=>(hm5.lo o q hq hv hC).1) ⟨?_,?_,?_,?_,q1.block⟩
     ·exact (q1.os.trans (ew World.os)).trans q2.os
     ·exact (q1.tape.trans (ew World.tape)).trans q2.tape
     ·exact (q1.output.trans (ew World.output)).trans q2.output
     ·have h1:=q1.size;have h2:K4.w0.heap.size=W.heap.size:=by rw [hw4]
      have h3:=q2.size;show L.w0.heap.size<=_;change K4.w0.heap.size<=_ at h1;omega
 ·
  rintro e w' ⟨⟨v,rfl⟩,K',hle',hm'⟩;have hlK:K'.B (D+1)=some (.loop (rec .ready none)):=hle'.B _ _ hBl;have hlw:w'.heap[D+1]? = some (.loop (rec .ready none)):=hm'.below.block _ _ hlK;have hel:=run_endLoop (P:=P) hlw (by rw [hrec];simp);have hpe:(rec .ready none).pending=none:=by rw [hrec]
  rw [hpe] at hel;obtain ⟨ex,hex⟩:∃ ex:Loop,ex={ rec .ready none with state:=.exhausted }:=⟨_,rfl⟩;have hm6:=hm'.putAt hlK rfl (.loop ex);refine ⟨none,w'.putObj (D+1) (.loop ex),by rw [hel,hex];simp only [hrec],?_⟩;have hMc:∀ b i,Kc.M b i=K.M b i:=fun b i=>by rw [hKc]
  have hB':∀ b y,K.B b=some y->(if b=D+1 then some (Obj.loop ex) else K'.B b)=some y:=fun b y hy=>by
   have:=hBlt b y hy;rw [if_neg oA];exact hle'.B b y (hBc b y hy)
  have hw0:K'.w0=K.w0:=by rw [hle'.w0,hKc];rfl
  refine ⟨.normal,{ K' with B:=fun b=>if b=D+1 then some (.loop ex) else K'.B b },⟨s.slots,so items.length⟩,rfl,⟨fun b i u hu=>?_,fun o u ho hu=>?_,fun o u ho hu=>?_,?_,fun o ho=>?_,?_,fun b y hy=>hB' b y (hle.B b y hy),fun b i y hy=>?_⟩,⟨hm6,fun t=>?_,hs.size,?_⟩,rfl,rfl⟩
  ·exact hle'.M b i u ((hMc b i).trans (hle.M b i u hu))
  ·rw [← hle.ρ o u ho hu];have:=hle'.ρ o u (show o<n1 by omega) (show u<=Kc.vs o by rw [hKc];exact yea hu (hle.vs o ho));rw [hKc] at this;exact this
  ·rw [← hle.C o u ho hu];have:=hle'.C o u (show o<n1 by omega) (show u<=Kc.vs o by rw [hKc];exact yea hu (hle.vs o ho));rw [hKc] at this;exact this
  ·have h1:n1<=K'.n:=hle'.n;show K0.n<=K'.n;omega
  ·have h1:=hle'.vs o (show o<n1 by omega);rw [hKc] at h1;exact yea (hle.vs o ho) h1
  ·show K'.w0=K0.w0;rw [hw0,hle.w0]
  ·show K'.M b i=K0.M b i;have h1:=hle.B b y hy;rw [hle'.M0 b i y (hBc b y h1)];exact (hMc b i).trans (hle.M0 b i y hy)
  ·have hcut:Rep (Kc.cut n1) (Q71 s.slots t) (a.tmps.getD t undef):=by
    refine Rep.low (K:=K) (L:=Kc.cut n1) (n:=n1) (fun b i u hu=>?_) (yia _) (fun _ _ _=>?_) (fun _ _ _=>?_) (fun _ _=>?_) (hs.slot t) (hlow t)
    ·rw [hKc];exact hu
    ·rw [hKc];rfl
    ·rw [hKc];rfl
    ·rw [hKc];rfl
   exact (hcut.monoR hle'.r).monoR (QK3 K' _ K'.w0)
  ·refine ⟨List.nodup_cons.2 ⟨fun hin=>?_,hs.defers.1⟩,fun d hd=>?_⟩
   ·obtain ⟨D',h1,h2,_⟩:=hs.defers.2 _ hin;simp only [Deferred.mk.injEq,Target.collected.injEq,and_true] at h1;subst h1;have:=hBlt _ _ h2;omega
   ·rcases List.mem_cons.1 hd with rfl|hd
    ·refine ⟨D,rfl,?_,?_⟩
     ·show (if D=D+1 then _ else K'.B D)=_;rw [if_neg oA];exact hle'.B _ _ hBD
     ·show K'.w0.heap.size<=D;rw [hw0,hD];exact hs.mem.below.size
    ·obtain ⟨D',h1,h2,h3⟩:=hs.defers.2 d hd;refine ⟨D',h1,hB' _ _ h2,?_⟩;show K'.w0.heap.size<=D';rw [hw0];exact h3
end
end Go.Fw
