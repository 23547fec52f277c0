/-
  What the last text of this claim leans on: an evaluator over the code, contracts of functions, plain laws. Conditions stand in each statement.
-/
import Derived.Test.YtgnlcjenoaoffaaGreatDoorRH7
import Derived.Shelf.SlSortCmp.NoneTotal
import Derived.Shelf.GgSortFunc.InsertionK
import Derived.Test.YtgnlcjenoaoffaaGreatDoorProg
import Derived.KernelRfl
import Derived.WalkKit
import Derived.StillTailTactics
import Derived.Test.YtgnlcjenoaoffaaGreatDoorRH6
import Derived.Lib.AppendZerosOnto
import Derived.Laws.Externs
import Derived.Lib.Walk
import Derived.Deep.RegionLaw
import Derived.Shelf.Sort.Plain
import Derived.Test.YtgnlcjenoaoffaaGreatDoorRH5
import Derived.ScopeJumps
namespace Go.Fw
set_option linter.unusedSimpArgs false
set_option linter.unusedVariables false
open Go.RowKit
def Yields (P:Program) (l n1:Nat) (K0:Ctx) (Yd:AVal->Objs->Objs->Prop):Prop :=
 ∀ (x:AVal) (o o':Objs) (L:Ctx) (W:World) (v:Value),Yd x o o'->K0.le L->MemSat L o W->Rep L x v ->
  YieldAt Fence.wide 0 P l #[v] W fun e W'=>e = .returned (.bool true) ∧ ∃ L':Ctx,(L.cut n1).le L'∧MemSat L' o' W'
structure LowR (n1:Nat) (slots:List (Nat × AVal)) (rs:RSt):Prop where
 slots:∀ t,Low n1 (Q71 slots t)
 loc:∀ t g v,findL rs.loc t=some (g,v)->Low n1 v
section
variable {P:Program} {nt n1:Nat} {ops:Array Oper} {slots:List (Nat × AVal)}
theorem le_cut_trans {K0 K L:Ctx} (h:K0.le K) (g:(K.cut n1).le L) (hn:K0.n<=n1):K0.le L :=
 ⟨fun b i u hu=>g.M b i u (h.M b i u hu),fun o v ho hv=>(g.ρ o v (show o<n1 by omega) (yea hv (h.vs o ho))).trans (h.ρ o v ho hv),fun o v ho hv=>(g.C o v (show o<n1 by omega) (yea hv (h.vs o ho))).trans (h.C o v ho hv),
  yea hn g.n,fun o ho=>yea (h.vs o ho) (g.vs o (show o<n1 by omega)),g.w0.trans h.w0,fun b x hx=>g.B b x (h.B b x hx),fun b i x hx=>(g.M0 b i x (h.B b x hx)).trans (h.M0 b i x hx)⟩
theorem Low.cutRep {K:Ctx} {x:AVal} {v:Value} (h:Rep K x v) (hl:Low n1 x):Rep (K.cut n1) x v :=
 Rep.low (K:=K) (L:=K.cut n1) (n:=n1) (fun _ _ _ h=>h) (yia _) (fun _ _ _=>rfl) (fun _ _ _=>rfl) (fun _ _=>rfl) h hl
def giveS (f:Nat->Bool) (s:List (Nat × AVal)):List (Nat × AVal):=s.map fun p=>(p.1,bif f p.1 then p.2 else .any)
def giveL (f:Nat->Bool) (l:List (Nat × Option Tag × AVal)):List (Nat × Option Tag × AVal):=l.map fun p=>(p.1,p.2.1,bif f p.1 then p.2.2 else .any)
theorem QFc (f:Nat->Bool) (t:Nat):∀ s,Q71 (giveS f s) t=bif f t then Q71 s t else .any
 | []=>by simp only [giveS,y4b];cases f t <;> rfl
 | (i,v) :: r=>by
  have ih:=QFc f t r;simp only [giveS,yob] at ih ⊢;rw [Qj2,Qj2,ih]
  by_cases h:i=t
  ·subst h;simp
  ·simp [h]
theorem Qf7 (f:Nat->Bool) (t:Nat):∀ l,findL (giveL f l) t=(findL l t).map fun p=>(p.1,bif f t then p.2 else .any)
 | []=>rfl
 | (i,g,v) :: r=>by
  have ih:=Qf7 f t r;simp only [giveL,yob] at ih ⊢;rw [QK2,QK2,ih]
  by_cases h:i=t
  ·subst h;simp
  ·simp [h]
theorem uniq_give (f:Nat->Bool):∀ l,UniqL l->UniqL (giveL f l)
 | [],_=>trivial
 | (i,g,v) :: r,h=>⟨by have:=Qf7 f i r;simp only [giveL] at this;rw [this,h.1];rfl,uniq_give f r h.2⟩
theorem RSat.give {K:Ctx} {rs:RSt} {a:Act} {w:World} (f:Nat->Bool) (h:RSat nt ops slots K rs a w):RSat nt ops (giveS f slots) K { rs with loc:=giveL f rs.loc } a w:=by
 refine ⟨h.mem,fun t ht=>?_,fun t v hv=>?_,fun t g v hv=>?_,fun g b hb=>?_,h.size,h.defers,?_⟩
 ·rw [Qf7,Option.map_eq_none_iff] at ht;rw [QFc];cases f t with
  | true=>exact h.outer t ht
  | false=>exact .any _
 ·rw [Qf7] at hv;obtain ⟨⟨g,u⟩,hu,e⟩:=Option.map_eq_some_iff.1 hv;simp only [yDa] at e;obtain ⟨rfl,rfl⟩:=e;cases f t with
  | true=>exact h.plain t _ hu
  | false=>exact .any _
 ·rw [Qf7] at hv;obtain ⟨⟨g',u⟩,hu,e⟩:=Option.map_eq_some_iff.1 hv;simp only [yDa] at e;obtain ⟨rfl,rfl⟩:=e;obtain ⟨b,h1,h2,h3⟩:=h.tagged t g u hu;refine ⟨b,h1,fun hb=>?_,h3⟩;cases f t with
  | true=>exact h2 hb
  | false=>exact .any _
 ·obtain ⟨h1,⟨o,d,h2,h3,h4⟩,h5⟩:=h.guards g b hb;exact ⟨h1,⟨o,d,h2,h3,by rw [Qf7,Option.isSome_map];exact h4⟩,h5⟩
 ·exact uniq_give f _ h.uniq
theorem RSat.moved {K L:Ctx} {rs:RSt} {a:Act} {w w':World} {objs':Objs} (hKL:(K.cut n1).le L) (hlow:LowR n1 slots rs) (hm:MemSat L objs' w') (h:RSat nt ops slots K rs a w):RSat nt ops slots L { rs with objs:=objs' } a w' :=
 ⟨hm,fun t ht=>(Low.cutRep (h.outer t ht) (hlow.slots t)).mono hKL,fun t v hv=>(Low.cutRep (h.plain t v hv) (hlow.loc t _ v hv)).mono hKL,
  fun t g v hv=>by obtain ⟨b,h1,h2,h3⟩:=h.tagged t g v hv;exact ⟨b,h1,fun hb=>(Low.cutRep (h2 hb) (hlow.loc t _ v hv)).mono hKL,h3⟩,h.guards,h.size,
  Marks.mono hKL (show Marks (K.cut n1) a.defers from h.defers),h.uniq⟩
theorem run_yieldOp {a:Act} {w:World} {o:Oper} {c:Call} {f x:Operand} {l:Nat} {v:Value} {r:Result Next} (ho:o.op = .call c) (hc:c.callee = .value f) (ha:c.args = #[x]) (hf:a.eval f = .func (.yield l) #[] #[]) (hx:a.eval x=v)
  (hy:(Instr.yield l #[v]).run P w=r):(execOp a.eval o).run P w=r:=by
 revert hf hx;generalize a.eval=ρ;intro hf hx;simp [execOp,ho,hc,ha,hf,hx,resolve,invoke,go_sem,hy]
theorem op_sound {K:Ctx} {rs:RSt} {a:Act} {w:World} {o:Oper} {draw:Bool} {Kt:RSt->Prop} {Q:Exit->Act->World->Prop} (h:RSat nt ops slots K rs a w) (ha:QC6 P nt ops slots draw [o] rs Kt) :
  if Region.wanted o (yielded ops a.tmps) then o.wp P a w (Next' nt ops slots K Kt) Q∨(o.asks P a w∧LetsOut Q) else Next' nt ops slots K Kt (a.put o.dst undef) w:=by
 simp only [QC6] at ha;split at ha
 ·rename_i hg;exact Q48 h rfl (by simp [Region.wanted,hg]) ha
 ·rename_i g hg;split at ha
  ·rename_i gb rs1 hgo;obtain ⟨h1,h2,_,_,hy⟩:=Q3e h hgo;rcases ha with ⟨hgb,v,hp⟩|ha
   ·subst hgb;have hw:Region.wanted o (yielded ops a.tmps)=false:=by simp only [Region.wanted,hg];exact hy
    rw [hw];simp only [y1a,if_false];obtain ⟨rs',hr,hk⟩:=QK4 hp;exact ⟨K,rs',.refl K,h1.put hr ⟨false,h2,(fun h=>by cases h),fun _=>rfl⟩,hk⟩
   ·exact Q48 h1 h2 (by simp only [Region.wanted,hg];exact hy) ha
  ·exact ha.elim
theorem wp_wide {o:Oper} {a:Act} {w:World} {next:Act->World->Prop} {Q:Exit->Act->World->Prop} (h:o.wp P a w next Q):o.wpIn Fence.wide 0 P a w next Q:=by
 refine ⟨fun _ _=>trivial,?_⟩;show o.uponIn Fence.wide 0 P a next Q ((execOp a.eval o).run P w);unfold Oper.wp at h;revert h;generalize (execOp a.eval o).run P w=r;intro h;cases r with
 | ok nx w' =>
  cases nx with
  | value v=>exact h
  | skip=>exact h
  | defer d=>exact h
  | enter f args =>
   refine ⟨fun hd=>by simp [Fence.wide] at hd,callsIn_wide.2 (Calls.mono h ?_)⟩;intro e w'' hr;cases e with
   | returned v=>exact hr
   | panicked chain=>exact hr
   | outgrown=>exact hr
  | row row args =>
   refine ⟨fun hd=>by simp [Fence.wide] at hd,fun c cs _=>?_⟩;obtain ⟨v,w'',hr,hs⟩:=h c cs;exact ⟨v,w'',hr,stepsIn_wide.2 hs⟩
  | _=>exact h.elim
 | halt r w' =>
  cases r with
  | panic v=>exact h
  | _=>exact h.elim
def yieldX (look:Operand->AVal) (o:Oper):Option (Nat × AVal) :=
 match o.op with
 | .call c=>(match c.callee with | .value f=>(match look f,c.args.toList with | .lit (.func (.yield l) p q),[x]=>bif p.toList.isEmpty&&q.toList.isEmpty then some (l,look x) else none|_,_=>none)|_=>none)
 | _=>none
theorem yieldX_some {look:Operand->AVal} {o:Oper} {l:Nat} {x:AVal} (h:yieldX look o=some (l,x)):∃ (c:Call) (f y:Operand),o.op = .call c∧c.callee = .value f∧c.args = #[y]∧look f = .lit (.func (.yield l) #[] #[])∧look y=x:=by
 unfold yieldX at h;split at h
 ·rename_i c ho;split at h
  ·rename_i f hc;split at h
   ·rename_i l' p q y hl ha;cases hb:p.toList.isEmpty&&q.toList.isEmpty with
    | false=>rw [hb] at h;cases h
    | true =>
     rw [hb] at h;simp only [cond_true,yaa,yDa] at h;obtain ⟨rfl,rfl⟩:=h;simp only [yha,List.isEmpty_iff,Array.toList_eq_nil_iff] at hb;obtain ⟨rfl,rfl⟩:=hb;exact ⟨c,f,y,ho,hc,Array.toList_inj.1 (by rw [ha]),hl,rfl⟩
   ·cases h
  ·cases h
 ·cases h
def NextK (nt:Nat) (ops:Array Oper) (slots:List (Nat × AVal)) (K0:Ctx) (Kt:RSt->Prop) (a:Act) (w:World):Prop:=∃ K' rs',Ctx.le K0 K'∧RSat nt ops slots K' rs' a w∧Kt rs'
theorem yield_call {l:Nat} {Yd:AVal->Objs->Objs->Prop} {K0 K:Ctx} {rs:RSt} {a:Act} {w:World} {o:Oper} {cur:Option Tag} {Kt:RSt->Prop} {Q:Exit->Act->World->Prop} {x:AVal} {objs':Objs} (f:Nat->Bool) (hY:Yields P l n1 K0 Yd) (hn:K0.n<=n1) (hle:K0.le K) (h:RSat nt ops slots K rs a w) (hc:∀ c,cur=some c->findG rs.G c=some true)
  (hx:yieldX (lookR ops slots rs.loc cur) o=some (l,x)) (hd:Yd x rs.objs objs') (hlow:LowR n1 (giveS f slots) { rs with loc:=giveL f rs.loc }) (hp:PutK nt ⟨giveL f rs.loc,rs.G,objs'⟩ cur o.dst (.lit (.bool true)) Kt):o.wpIn Fence.wide 0 P a w (NextK nt ops (giveS f slots) K0 Kt) Q:=by
 obtain ⟨c,g,y,ho,hcc,ha,hf,rfl⟩:=yieldX_some hx;have hfv:a.eval g = .func (.yield l) #[] #[]:=QZ0 (hf ▸ QT2 h cur hc g);have hyr:=QT2 h cur hc y;obtain ⟨fn,tmps,assign,body,hrun,hround⟩:=hY _ _ _ K w (a.eval y) hd hle h.mem hyr;refine ⟨fun _ _=>trivial,?_⟩;show o.uponIn Fence.wide 0 P a _ Q ((execOp a.eval o).run P w);rw [run_yieldOp ho hcc ha hfv rfl hrun];refine ⟨fun hd=>by simp [Fence.wide] at hd,hround.mono ?_⟩;rintro e w' ⟨rfl,L',hle',hm'⟩;obtain ⟨rs',hpr,hk⟩:=QK4 hp;refine ⟨L',rs',le_cut_trans hle hle' hn,((h.give f).moved hle' hlow hm').put hpr ?_,hk⟩;cases cur with
 | none=>exact .lit _
 | some c=>exact ⟨true,hc c rfl,fun _=>.lit _,fun h=>by cases h⟩
def copsY (P:Program) (nt n1 l:Nat) (ops:Array Oper) (Yd:AVal->Objs->Objs->Prop):List Oper->List (Nat × AVal)->Loc->Gs->Objs->(List (Nat × AVal)->Loc->Gs->Objs->Prop)->Prop
 | [],slots,loc,G,objs,K=>K slots loc G objs
 | o :: rest,slots,loc,G,objs,K =>
  match yieldX (lookR ops slots loc o.guard) o with
  | none=>cops P nt ops slots false [o] loc G objs fun loc G objs=>copsY P nt n1 l ops Yd rest slots loc G objs K
  | some (l',x) =>
   (match o.guard with
    | none=>l'=l ∧ ∃ f objs',Yd x objs objs'∧LowR n1 (giveS f slots) ⟨giveL f loc,G,objs⟩∧cput nt (giveL f loc) G objs' none o.dst (.lit (.bool true)) fun loc G objs=>copsY P nt n1 l ops Yd rest (giveS f slots) loc G objs K
    | some g =>
     (match cgOf ops loc G g with
     | some (gb,G)=>l'=l ∧ ∃ f objs',(gb=true->Yd x objs objs')∧(gb=false->objs'=objs)∧LowR n1 (giveS f slots) ⟨giveL f loc,G,objs⟩∧cput nt (giveL f loc) G objs' (some g) o.dst (.lit (.bool true)) fun loc G objs=>copsY P nt n1 l ops Yd rest (giveS f slots) loc G objs K
     | none=>False))
theorem QSd {l:Nat} {Yd:AVal->Objs->Objs->Prop} {K0:Ctx} {Kt:List (Nat × AVal)->Loc->Gs->Objs->Prop} {Q:Exit->Act->World->Prop} (hY:Yields P l n1 K0 Yd) (hn1:K0.n<=n1) (hL:¬ LetsOut Q) (hQ:∀ slots K rs a w,K0.le K->RSat nt ops slots K rs a w->Kt slots rs.loc rs.G rs.objs->Q .normal a w) :
  ∀ (n i:Nat),i+n=ops.size -> ∀ (slots:List (Nat × AVal)) (K:Ctx) (rs:RSt) (a:Act) (w:World),K0.le K->RSat nt ops slots K rs a w->copsY P nt n1 l ops Yd (ops.toList.drop i) slots rs.loc rs.G rs.objs Kt ->
   wpOpsIn Fence.wide 0 P ops Q (List.range' i n) a w
 | 0,i,hn,slots,K,rs,a,w,hK,h,ha=>by
  have:ops.toList.drop i=[]:=ysb (by simp;omega);rw [this] at ha;exact hQ slots K rs a w hK h ha
 | n+1,i,hn,slots,K,rs,a,w,hK,h,ha=>by
  have hlt:i<ops.toList.length:=by simp;omega
  rw [yMb hlt] at ha;have hi:ops[i]? = some (ops.toList[i]):=by simp
  generalize ops.toList[i]=o at ha hi;simp only [List.range'_succ];unfold wpOpsIn;simp only [hi];have ih:∀ slots a w,NextK nt ops slots K0 (fun rs'=>copsY P nt n1 l ops Yd (ops.toList.drop (i+1)) slots rs'.loc rs'.G rs'.objs Kt) a w->wpOpsIn Fence.wide 0 P ops Q (List.range' (i+1) n) a w:=by
   rintro slots a w ⟨K',rs',hle,hr,hk⟩;exact QSd hY hn1 hL hQ n (i+1) oA slots K' rs' a w hle hr hk
  have up:∀ {r:Result Next} {nx nx':Act->World->Prop},(∀ a w,nx a w->nx' a w)->o.uponIn Fence.wide 0 P a nx Q r->o.uponIn Fence.wide 0 P a nx' Q r:=by
   intro r nx nx' hx hr;cases r with
   | ok q w' =>
    cases q with
    | value v=>exact hx _ _ hr
    | skip=>exact hx _ _ hr
    | defer d=>exact hx _ _ hr
    | enter f args=>exact ⟨hr.1,CallsIn.mono hr.2 fun e w'' he=>by cases e with|returned v=>exact hx _ _ he|panicked c=>exact he|outgrown=>exact he⟩
    | row row args=>exact ⟨hr.1,fun c cs hroom=>by obtain ⟨v,w'',h1,h2⟩:=hr.2 c cs hroom;exact ⟨v,w'',hx _ _ h1,h2⟩⟩
    | round l f tmps assign body=>exact ⟨hr.1,RoundIn.mono hr.2 fun e w'' he=>by cases e with|returned v=>exact hx _ _ he|panicked c=>exact he|outgrown=>exact he⟩
    | _=>exact hr.elim
   | halt q w' =>
    cases q with
    | panic v=>exact hr
    | _=>exact hr.elim
  simp only [copsY] at ha;split at ha
  ·have hs:=op_sound (Q:=Q) h (QZ9 ha);split
   ·rename_i hw;rw [if_pos hw] at hs;rcases hs with hs|hs
    ·have:=wp_wide hs;exact ⟨this.1,up (fun a w hx=>by obtain ⟨K',rs',h1,h2,h3⟩:=hx;exact ih _ a w ⟨K',rs',hK.trans h1,h2,h3⟩) this.2⟩
    ·exact absurd hs.2 hL
   ·rename_i hw;rw [if_neg hw] at hs;obtain ⟨K',rs',h1,h2,h3⟩:=hs;exact ⟨fun _ _=>trivial,ih _ _ _ ⟨K',rs',hK.trans h1,h2,h3⟩⟩
  ·rename_i l' x hyx;split at ha
   ·rename_i hg;obtain ⟨rfl,f,objs',h2,h3,h4⟩:=ha;rw [hg] at hyx;have hw:Region.wanted o (yielded ops a.tmps)=true:=by simp [Region.wanted,hg]
    rw [if_pos hw];have:=yield_call (Q:=Q) f hY hn1 hK h (fun c hc=>by cases hc) hyx h2 h3 (cput_iff.1 h4);exact ⟨this.1,up (ih _) this.2⟩
   ·rename_i g hg;split at ha
    ·rename_i gb G' hgo;obtain ⟨rfl,f,objs',h1,h2,h3,h4⟩:=ha;rw [hg] at hyx;obtain ⟨q1,q2,_,_,hy⟩:=Q3e h (QOd hgo);have hw:Region.wanted o (yielded ops a.tmps)=gb:=by simp only [Region.wanted,hg];exact hy
     cases gb with
     | false =>
      rw [if_neg (by rw [hw];simp)];obtain ⟨rs',hr,hk⟩:=QK4 (cput_iff.1 h4);rw [h2 rfl] at hr;exact ⟨fun _ _=>trivial,ih _ _ _ ⟨K,rs',hK,(q1.give f).put hr ⟨false,q2,(fun h=>by cases h),fun _=>rfl⟩,hk⟩⟩
     | true =>
      rw [if_pos hw];have:=yield_call (Q:=Q) f hY hn1 hK q1 (fun c hc=>by cases hc;exact q2) hyx (h1 rfl) h3 (cput_iff.1 h4);exact ⟨this.1,up (ih _) this.2⟩
    ·exact ha.elim
end
def cwpY (P:Program) (nt n0 n1 l:Nat) (keep yid:Nat->Bool) (Yd:AVal->Objs->Objs->Prop):Code->CQ->List (Nat × AVal)->Objs->Prop
 | .region id ops draw,Q,s,o =>
  (match yid id with
   | true=>draw=false∧copsY P nt n1 l ops Yd ops.toList s [] [] o fun s loc _ o=>cmerge keep s loc fun s=>Q .normal s o
   | false=>cwp P nt n0 keep (.region id ops draw) Q s o)
 | .seq a b,Q,s,o=>cwpY P nt n0 n1 l keep yid Yd a (fun e s o=>match e with | .normal=>cwpY P nt n0 n1 l keep yid Yd b Q s o|e=>Q e s o) s o
 | .cond c x y,Q,s,o =>
  (match lookO ⟨s,o⟩ c with
   | .lit (.bool b)=>(b=true->cwpY P nt n0 n1 l keep yid Yd x Q s o)∧(b=false->cwpY P nt n0 n1 l keep yid Yd y Q s o)
   | _=>False)
 | .block id body,Q,s,o=>cwpY P nt n0 n1 l keep yid Yd body (fun e s o=>match e with | .exit i=>(match Nat.beq i id with|true=>Q .normal s o|false=>Q (.exit i) s o)|e=>Q e s o) s o
 | .loop body,Q,s,o=>∃ (I:Nat->List (Nat × AVal)->Objs->Prop) (n:Nat) (s1:List (Nat × AVal)) (o1:Objs),Weaker nt n0 ⟨s,o⟩ ⟨s1,o1⟩∧I n s1 o1 ∧ ∀ m s o,I m s o->cwpY P nt n0 n1 l keep yid Yd body (fun e s o=>match e with | .normal=>∃ m' s' o',m'<m∧Weaker nt n0 ⟨s,o⟩ ⟨s',o'⟩∧I m' s' o'|e=>Q e s o) s o
 | c,Q,s,o=>cwp P nt n0 keep c Q s o
section
variable {P:Program} {nt n0 n1 l:Nat} {keep yid:Nat->Bool} {Yd:AVal->Objs->Objs->Prop}
theorem cwpY_sound {K0:Ctx} (hn:K0.n=n0) (hn1:n0<=n1) (hY:Yields P l n1 K0 Yd) (c:Code):∀ (Q:CQ) (s:List (Nat × AVal)) (o:Objs) (K:Ctx) (a:Act) (w:World),K0.le K->Sat nt K ⟨s,o⟩ a w->cwpY P nt n0 n1 l keep yid Yd c Q s o->c.wpIn Fence.wide 0 P (Post nt K0 fun e t=>Q e t.slots t.objs) a w:=by
 have plain:∀ (c:Code) (Q:CQ) (s:List (Nat × AVal)) (o:Objs) (K:Ctx) (a:Act) (w:World),K0.le K->Sat nt K ⟨s,o⟩ a w->cwp P nt n0 keep c Q s o->c.wpIn Fence.wide 0 P (Post nt K0 fun e t=>Q e t.slots t.objs) a w:=fun c Q s o K a w hle hs h=>wpIn_wide.2 (Qp7 c _ _ K0 K a w hn hle hs (QJ8 c Q s o h))
 induction c with
 | region id ops draw =>
  intro Q s o K a w hle hs h;simp only [cwpY] at h;split at h
  ·obtain ⟨hd,h⟩:=h;subst hd;refine wpIn_region ?_;rw [yZb];simp only [QYb] at h;refine QSd hY oA Post.noLets (Kt:=fun s loc _ o=>Q .normal (QH9 keep s loc) o) ?_ ops.size 0 oA s K (Qsa ⟨s,o⟩) a w hle hs.start (by simpa [Qsa] using h);intro s K' rs a' w' hle' hr hk;exact ⟨.normal,K',_,rfl,hle',QD5 keep hr,hk⟩
  ·exact plain _ Q s o K a w hle hs h
 | seq x y ihx ihy =>
  intro Q s o K a w hle hs h;refine wpIn_seq (wpIn_mono (ihx _ s o K a w hle hs h) ?_);rintro e a' w' ⟨e',K',⟨s',o'⟩,rfl,hle',hs',hq⟩;cases e' with
  | normal=>exact ihy Q s' o' K' a' w' hle' hs' hq
  | exit id=>exact ⟨.exit id,K',_,rfl,hle',hs',hq⟩
  | goto l=>exact ⟨.goto l,K',_,rfl,hle',hs',hq⟩
  | ret=>exact ⟨.ret,K',_,rfl,hle',hs',hq⟩
 | cond c x y ihx ihy =>
  intro Q s o K a w hle hs h;simp only [cwpY] at h;split at h
  ·rename_i b hb;have hv:a.eval c = .bool b:=by
    cases c with
    | tmp t =>
     simp only [lookO] at hb;have hr:=hs.slot t;rw [hb] at hr;exact QZ0 hr
    | const v=>simp only [lookO,AVal.lit.injEq] at hb;exact hb
    | global g=>simp [lookO] at hb
    | func f=>simp [lookO] at hb
   exact wpIn_cond_split hv (fun ht=>ihx Q s o K a w hle hs (h.1 ht)) (fun hf=>ihy Q s o K a w hle hs (h.2 hf))
  ·exact h.elim
 | block id body ih =>
  intro Q s o K a w hle hs h;refine wpIn_block (wpIn_mono (ih _ s o K a w hle hs h) ?_);rintro e a' w' ⟨e',K',s',rfl,hle',hs',hq⟩;cases e' with
  | normal=>exact ⟨.normal,K',s',rfl,hle',hs',hq⟩
  | exit i =>
   simp only at hq;simp only [AExit.real,Exit.inBlock];cases hb:Nat.beq i id with
   | true =>
    rw [hb] at hq;have:=yla hb;rw [if_pos this];exact ⟨.normal,K',s',rfl,hle',hs',hq⟩
   | false =>
    rw [hb] at hq;have:i ≠ id:=fun e=>by subst e;simp at hb
    rw [if_neg this];exact ⟨.exit i,K',s',rfl,hle',hs',hq⟩
  | goto l=>exact ⟨.goto l,K',s',rfl,hle',hs',hq⟩
  | ret=>exact ⟨.ret,K',s',rfl,hle',hs',hq⟩
 | loop body ih =>
  intro Q s o K a w hle hs h;obtain ⟨I,m0,s1,o1,hweak0,hI,hround⟩:=h;obtain ⟨K1,hle1,hs1⟩:=hweak0 K0 K a w hn hle hs;refine wpIn_loop_ghost (fun m a w=>∃ s o K,K0.le K∧Sat nt K ⟨s,o⟩ a w∧I m s o) m0 ⟨s1,o1,K1,hle1,hs1,hI⟩ ?_;rintro m a w ⟨s,o,K,hle,hs,hI⟩;refine wpIn_mono (ih _ s o K a w hle hs (hround m s o hI)) ?_;rintro e a' w' ⟨e',K',⟨s',o'⟩,rfl,hle',hs',hq⟩;cases e' with
  | normal =>
   obtain ⟨m',s'',o'',hlt,hweak,hI'⟩:=hq;obtain ⟨K'',hle'',hs''⟩:=hweak K0 K' a' w' hn hle' hs';exact ⟨m',hlt,s'',o'',K'',hle'',hs'',hI'⟩
  | exit id=>exact ⟨.exit id,K',_,rfl,hle',hs',hq⟩
  | goto l=>exact ⟨.goto l,K',_,rfl,hle',hs',hq⟩
  | ret=>exact ⟨.ret,K',_,rfl,hle',hs',hq⟩
 | skip=>exact fun Q s o K a w hle hs h=>plain _ Q s o K a w hle hs h
 | label l=>exact fun Q s o K a w hle hs h=>plain _ Q s o K a w hle hs h
 | exit id=>exact fun Q s o K a w hle hs h=>plain _ Q s o K a w hle hs h
 | goto l=>exact fun Q s o K a w hle hs h=>plain _ Q s o K a w hle hs h
 | ret=>exact fun Q s o K a w hle hs h=>plain _ Q s o K a w hle hs h
 | refuse y=>exact fun Q s o K a w hle hs h=>plain _ Q s o K a w hle hs h
 | scope b _=>exact fun Q s o K a w hle hs h=>plain _ Q s o K a w hle hs h
 | rangeFunc f ps x y _ _=>exact fun Q s o K a w hle hs h=>plain _ Q s o K a w hle hs h
def StepsY (items:List AVal) (so:Nat->Objs) (x:AVal) (o o':Objs):Prop:=∃ k ex,items[k]? = some x∧o=so k++ex∧o'=so (k+1)
theorem IterC.of_cwpY {gf:Nat} {fn:Func} {c:Code} {lb:List AVal} {items:List AVal} {so:Nat->Objs} (keep yid:Nat->Bool) (hf:P.funcs[gf]? = some fn) (hb:fn.body=some c) (hlen:Nat.ble (lb.length+1) fn.ntmps=true) (hn:∀ k,n1<=(so k).length) (hlo:∀ k,∀ p ∈ so k,QXa (so k).length p.2) (hlx:∀ k,∀ x ∈ items,Low (so k).length x)
  (h:∀ l,cwpY P fn.ntmps n1 n1 l keep yid (StepsY items so) c (CRet P fn n1 fun _ o=>o=so items.length) (Qp3 0 (.lit (.func (.yield l) #[] #[]) :: lb)) (so 0)):IterC P gf lb n1 items so:=by
 intro l K w vs hm hreps hround;have harr:(#[.func (.yield l) #[] #[]]++vs.toArray:Array Value)=(Value.func (.yield l) #[] #[] :: vs).toArray:=by simp
 rw [harr];have hreps2:Reps { K with w0:=w } (.lit (.func (.yield l) #[] #[]) :: lb) (Value.func (.yield l) #[] #[] :: vs):=by
  refine ⟨by simp [hreps.1],fun i x v hx hv=>?_⟩;cases i with
  | zero=>simp at hx hv;subst hx hv;exact .lit _
  | succ i=>exact (hreps.2 i x v (by simpa using hx) (by simpa using hv)).monoR (QK3 K K.B w)
 refine callsIn_of_wp_marks (n:=0) hf hb trivial ?_;have hsat:=Sat.enter (nt:=fn.ntmps) hm.begin hreps2 (by simpa using yfa hlen);have hcut:Ctx.le { K.cut n1 with w0:=w } { K with w0:=w }:=⟨fun _ _ _ h=>h,fun _ _ _ _=>rfl,fun _ _ _ _=>rfl,by have:=hm.len;have:=hn 0;show n1<=K.n;omega,fun _ _=>yia _,rfl,fun _ _ h=>h,fun _ _ _ _=>rfl⟩;have hY:Yields P l n1 { K.cut n1 with w0:=w } (StepsY items so):=by
  rintro x o o' L W v ⟨k,ex,hk,rfl,rfl⟩ hL hmL hv;have hmc:=hmL.cut (n:=(so k).length) (by simp) (fun o p hp ho=>hlo k p (by rw [ypa ho] at hp;exact yza hp));rw [List.take_left] at hmc;exact hround k x (L.cut (so k).length) W v hk ⟨⟨hL.M,hL.ρ,hL.C,hn k,hL.vs⟩,hL.B⟩ hmc (Low.cutRep hv (hlx k x (yza hk)))
 refine wpIn_mono (cwpY_sound (K0:={ K.cut n1 with w0:=w }) rfl (yia _) hY c _ _ _ { K with w0:=w } _ w hcut hsat (h l)) ?_;rintro e a' w' ⟨e',K',s',rfl,hle,hs',hq⟩;have leave:QAd P fn n1 (fun _ o=>o=so items.length) s'->LeavesInM Fence.wide 0 P fn a'.tmps (fun e w'=>(∃ v,e = .returned v) ∧ ∃ K':Ctx,(K.cut n1).le K'∧MemSat K' (so items.length) w') a'.defers .returning w':=fun hl =>
  Qac (K0:=K.cut n1) hm.below hcut rfl rfl rfl hle hs' hl fun v r objs' K' w' h1 h2 h3 h4=>by
   subst h4;exact ⟨⟨v,rfl⟩,K',h1,h2⟩
 cases e' with
 | normal=>simp only [CRet,Q96] at hq;exact leave hq
 | ret=>simp only [CRet,Q96] at hq;exact leave hq
 | exit id=>exact hq.elim
 | goto l=>exact hq.elim
end
theorem lowR_of {n1:Nat} {slots:List (Nat × AVal)} {rs:RSt} (hs:∀ p ∈ slots,Low n1 p.2) (hl:∀ p ∈ rs.loc,Low n1 p.2.2):LowR n1 slots rs:=by
 refine ⟨?_,?_⟩
 ·intro t;clear hl
  induction slots with
  | nil=>exact .any
  | cons p r ih =>
   obtain ⟨i,v⟩:=p;rw [Qj2]
   by_cases h:i=t
   ·rw [if_pos h];exact hs _ (yIa ..)
   ·rw [if_neg h];exact ih fun p hp=>hs p (ywa _ hp)
 ·intro t g v;obtain ⟨loc,G,objs⟩:=rs;simp only at hl ⊢
  induction loc with
  | nil=>intro h;simp [findL] at h
  | cons p r ih =>
   obtain ⟨i,g',v'⟩:=p;rw [QK2]
   by_cases h:i=t
   ·rw [if_pos h];intro e;simp only [yaa,yDa] at e;rw [← e.2];exact hl _ (yIa ..)
   ·rw [if_neg h];exact ih fun p hp=>hl p (ywa _ hp)
theorem range_nextC {P:Program} {nt n0:Nat} {g:Operand} {p gf:Nat} {asg body:Code} {sl0:List (Nat × AVal)} {o0:Objs} {Q:CQ} (keep:Nat->Bool) (lb items:List AVal) (so:Nat->Objs) (n1:Nat) (sl:List (Nat × AVal)) (hw:Weaker nt n0 ⟨sl0,o0⟩ ⟨sl,so 0⟩) (hn01:Nat.ble n0 n1=true) (hlen:∀ k,k<=items.length->n1<=(so k).length) (hp:p<nt)
  (hfree:Q71 sl p = .any) (hlow:∀ t,Low n1 (Q71 sl t)) (hg:lookO ⟨sl,so 0⟩ g = .fn (.func gf) [] lb)
  (eg:∀ args w,(callFunc gf args).run P w = .ok (.enter gf args) w) (hit:IterC P gf lb n1 items so)
  (hdr:∀ id,keep (2000000+id)=true) (hoka:Qo6 asg=true) (hok:Qo6 body=true)
  (hbody:∀ k x,items[k]? = some x->cwp P nt n1 keep asg (fun e sl' o'=>match e with | .normal=>cwp P nt n1 keep body (fun e sl' o'=>match e with | .normal=>Weaker nt n1 ⟨sl',o'⟩ ⟨sl,so (k+1)⟩|_=>False) sl' o'|_=>False) ((p,x) :: sl) (so k))
  (hQ:Q .normal sl (so items.length)) :
  ∃ R:AExit->List (Nat × AVal)->Objs->Prop,Qn9 P nt n0 (.rangeFunc g #[p] asg body) (fun e t=>R e t.slots t.objs) ⟨sl0,o0⟩ ∧ ∀ e s o,R e s o->Q e s o:=by
 refine ⟨fun e s o=>e = .normal∧s=sl∧o=so items.length,?_,?_⟩
 ·intro K0 K a w hn hle hs;obtain ⟨K9,hle9,hs9⟩:=hw K0 K a w hn hle hs;refine wp_mono (rangeC (P:=P) (nt:=nt) (n0:=n0) (keep:=keep) (s:=⟨sl,so 0⟩) n1 rfl (yfa hn01) hlen hp hfree hlow hg eg hit hdr hoka hok ?_ K0 K9 a w hn hle9 hs9) ?_
  ·intro k x hx;refine Q87 asg _ _ _ ?_ (QJ8 asg _ _ _ (hbody k x hx));rintro e ⟨s1,o1⟩ h;cases e with
   | normal =>
    refine Q87 body _ _ _ ?_ (QJ8 body _ _ _ h);rintro e ⟨s1,o1⟩ h;cases e with
    | normal=>exact h
    | exit id=>exact h
    | goto t=>exact h
    | ret=>exact h
   | exit id=>exact h
   | goto t=>exact h
   | ret=>exact h
  ·rintro e' a' w' ⟨e1,K1,s1,he,hle1,hs1,rfl,rfl⟩;exact ⟨.normal,K1,_,he,hle1,hs1,rfl,rfl,rfl⟩
 ·rintro e s o ⟨rfl,rfl,rfl⟩;exact hQ
end Go.Fw
namespace Go.Fw
set_option linter.unusedSimpArgs false
set_option linter.unusedVariables false
open Go.Proofs Go.Sort
def ah3 (x y:Int × Int × Int):Bool:=decide (y.1<x.1)||(decide (x.1=y.1)&&(decide (x.2.1<y.2.1)||(decide (x.2.1=y.2.1)&&decide (x.2.2<y.2.2))))
def or3 (a b c:Int):Int:=bif a != 0 then a else bif b != 0 then b else c
def cf3 (x y:Int × Int × Int):Int:=or3 (Lib.compareInt y.1 x.1) (Lib.compareInt x.2.1 y.2.1) (Lib.compareInt x.2.2 y.2.2)
theorem lt3 (x y:Int × Int × Int):ltOf cf3 x y=ah3 x y:=by
 unfold ltOf cf3 or3 ah3 Lib.compareInt;rcases Int.lt_trichotomy x.1 y.1 with h|h|h
 ·simp [h,show ¬ y.1<x.1 by omega,show ¬ x.1=y.1 by omega]
 ·rcases Int.lt_trichotomy x.2.1 y.2.1 with g|g|g
  ·simp [h,g]
  ·rcases Int.lt_trichotomy x.2.2 y.2.2 with k|k|k
   ·simp [h,g,k]
   ·simp [h,g,k]
   ·simp [h,g,k,show ¬ x.2.2<y.2.2 by omega]
  ·simp [h,g,show ¬ x.2.1<y.2.1 by omega,show ¬ x.2.1=y.2.1 by omega]
 ·simp [h]
theorem ah3_iff (x y:Int × Int × Int):ah3 x y=true ↔ (y.1<x.1∨x.1=y.1∧(x.2.1<y.2.1∨x.2.1=y.2.1∧x.2.2<y.2.2)):=by simp [ah3]
theorem Qwa (x y:Int × Int × Int):ah3 x y=false ↔ ¬ (y.1<x.1∨x.1=y.1∧(x.2.1<y.2.1∨x.2.1=y.2.1∧x.2.2<y.2.2)):=by rw [← ah3_iff];simp
theorem swo3:SWO (ltOf cf3) where
 irrefl x:=by rw [lt3,Qwa];omega
 trans x y z h1 h2:=by rw [lt3,ah3_iff] at *;omega
 ntrans x y z h1 h2:=by rw [lt3,Qwa] at *;omega
theorem tot3 (x y:Int × Int × Int) (h1:ltOf cf3 x y=false) (h2:ltOf cf3 y x=false):x=y:=by
 rw [lt3,Qwa] at *;exact Prod.ext oA (Prod.ext oA oA)
def ins3 (x:Int × Int × Int):List (Int × Int × Int)->List (Int × Int × Int)
 | []=>[x]
 | y :: r=>bif ah3 y x then y :: ins3 x r else x :: y :: r
def sort3 (l:List (Int × Int × Int)):List (Int × Int × Int):=l.foldl (fun o x=>ins3 x o) []
theorem Qae (x:Int × Int × Int):∀ o,(ins3 x o).Perm (x :: o)
 | []=>.refl _
 | y :: r=>by
  unfold ins3;cases ah3 y x with
  | true=>exact ((Qae x r).cons y).trans (.swap x y r)
  | false=>exact .refl _
theorem Qbe (x:Int × Int × Int):∀ o,o.Pairwise (fun a b=>ah3 b a=false)->(ins3 x o).Pairwise fun a b=>ah3 b a=false
 | [],_=>List.pairwise_singleton _ _
 | y :: r,h=>by
  obtain ⟨h1,h2⟩:=List.pairwise_cons.1 h;unfold ins3;cases ha:ah3 y x with
  | true =>
   refine List.pairwise_cons.2 ⟨fun z hz=>?_,Qbe x r h2⟩;rcases List.mem_cons.1 ((Qae x r).mem_iff.1 hz) with rfl|hz
   ·rw [ah3_iff] at ha;rw [Qwa];omega
   ·exact h1 z hz
  | false =>
   refine List.pairwise_cons.2 ⟨fun z hz=>?_,h⟩;rcases List.mem_cons.1 hz with rfl|hz
   ·exact ha
   ·have:=h1 z hz;rw [Qwa] at *;omega
theorem sort3_go:∀ (l o:List (Int × Int × Int)),o.Pairwise (fun a b=>ah3 b a=false)->(l.foldl (fun o x=>ins3 x o) o).Perm (o++l)∧(l.foldl (fun o x=>ins3 x o) o).Pairwise fun a b=>ah3 b a=false
 | [],o,h=>⟨by simp,h⟩
 | x :: r,o,h=>by
  obtain ⟨h1,h2⟩:=sort3_go r (ins3 x o) (Qbe x o h);refine ⟨h1.trans ?_,h2⟩;refine ((Qae x o).append_right r).trans ?_;exact List.perm_middle.symm
theorem merge3 (l:List (Int × Int × Int)):l.mergeSort (fun x y=>!(ltOf cf3) y x)=sort3 l:=by
 obtain ⟨h1,h2⟩:=sort3_go l [] .nil;refine List.Perm.eq_of_pairwise (le:=fun x y=>(!(ltOf cf3) y x)=true) (fun a b _ _ g1 g2=>?_) (List.pairwise_mergeSort (fun a b c g1 g2=>?_) (fun a b=>?_) l) (h2.imp fun {a b} h=>by rw [lt3,h];rfl) ((List.mergeSort_perm l _).trans (show l.Perm (sort3 l) from h1.symm))
 ·simp only [ydb] at g1 g2;exact tot3 a b g2 g1
 ·simp only [ydb,lt3,Qwa] at *;omega
 ·rw [lt3,lt3];cases hq:ah3 b a with
  | false=>rfl
  | true =>
   rw [ah3_iff] at hq;have:ah3 a b=false:=by rw [Qwa];omega
   rw [this];rfl
theorem sort3_len (l:List (Int × Int × Int)):(sort3 l).length=l.length:=by
 have h:=(sort3_go l [] .nil).1.length_eq;rw [List.nil_append] at h;exact h
end Go.Fw
namespace Go.Fw
set_option linter.unusedSimpArgs false
set_option linter.unusedVariables false
open Go.RowKit Go.Sort Go.Proofs
theorem MemSat.grownK {K:Ctx} {objs:Objs} (os:List Obj):∀ {w:World},MemSat K objs w->MemSat K objs (Go.Sort.grow w os.toArray):=by
 induction os with
 | nil=>intro w h;simpa [Go.Sort.grow] using h
 | cons x r ih =>
  intro w h;have:=ih (h.junk x);rw [Go.Sort.alloc_eq_grow,Go.Sort.grow_grow] at this;simpa using this
theorem putRow_setRowK {w:World} {g:Nat} {c:Array Value} {t:TypeId} {fr:Nat × Nat} (hb:w.heap[g]? = some (.cells c t fr)) (d:Array Value):Go.Sort.putRow id w g 0 d=w.setRow g (Go.Sort.putCells id 0 d c):=by
 unfold Go.Sort.putRow Go.Sort.mapBlock World.setRow
 congr 1
 apply yJb;intro i;simp only [yKb]
 by_cases hi:g=i
 ·subst hi;simp [hb,Go.Sort.onCells]
 ·simp [hi]
def litsA (vs:List Value):List AVal:=vs.map AVal.lit
section
variable {α:Type} [Inhabited α] {K:Ctx} {w:World}
theorem rowK_holds {t:TypeId} {k:Nat} {enc:α->List Value} (hk0:0<k) (hk:∀ x,(enc x).length=k) {l:List α} (h0:l ≠ []) (hm:MemSat K [(0,.row t k (l.map fun x=>litsA (enc x)))] w) :
  HoldsK enc k w (K.ρ 0 0) 0 l.toArray∧K.ρ 0 0<w.heap.size:=by
 have hp0:([(0,.row t k (l.map fun x=>litsA (enc x)))]:Objs)[0]? = some (0,.row t k (l.map fun x=>litsA (enc x))):=rfl;have hlen:l.length ≠ 0:=by simpa using h0
 obtain ⟨g1,g2,g3⟩:=hm.obj 0 _ hp0;have hC:K.C 0 0 ≠ 0:=by simp at g2;omega
 obtain ⟨cur,⟨fr,hfr,hbk⟩,hs,h1,hcr⟩:=g3 hC;have hblk:=(hm.lo 0 _ hp0 rfl hC).2.1;refine ⟨?_,hblk⟩;have hsz:l.length*k<=cur.size:=by
  rw [hs];simp at g2;exact yHa k g2
 intro j hj;have hj':j<l.length*k:=by simpa using hj
 have hq:j / k<l.length:=Nat.div_lt_of_lt_mul (by rw [yQb];exact hj');have hr : j % k < k := yTb _ hk0;have e1:l[j / k]? = some (l[j / k]'hq):=yba hq;have hlr : j % k < (enc (l[j / k]'hq)).length := by rw [hk]; exact hr
 obtain ⟨u, hu, hru⟩ := hcr (j / k) (j % k) (litsA (enc (l[j / k]'hq))) (.lit ((enc (l[j / k]'hq))[j % k]'hlr)) (by rw [yra, e1]; rfl) (by rw [litsA, yra, yba hlr]; rfl);have e:=QZ0 hru;subst e;rw [show j / k * k + j % k = j by rw [yQb]; exact Nat.div_add_mod j k] at hu;have hval : (flatK enc k l.toArray)[j]! = (enc (l[j / k]'hq))[j % k]'hlr := by
  rw [get_flatK _ _ _ _ (by simpa using hj')];rw [getElem!_pos l.toArray (j / k) (by simpa using hq)];simp only [List.getElem_toArray];rw [getElem!_pos (enc (l[j / k]'hq)) (j % k) hlr]
 refine ⟨?_,?_⟩
 ·simp only [World.cell?,hbk,yda,id];rw [hval];simpa using hu
 ·have hj2:=hfr j oA;obtain ⟨lo,hi'⟩:=fr;simp only at hj2;simp only [World.frozen?,hbk,yda,yFb,yua,y3a];intro h1 h2;exact hj2 ⟨h1,h2⟩
theorem rowK_sorted {t:TypeId} {k:Nat} {enc:α->List Value} (hk0:0<k) (hk:∀ x,(enc x).length=k) (h1c:∀ x,∀ v ∈ enc x,v.oneCell'=true) {l l':List α} (h0:l ≠ []) (hl:l'.length=l.length) (hm:MemSat K [(0,.row t k (l.map fun x=>litsA (enc x)))] w) (n:Nat) (os:Array Obj) :
  MemSat K [(0,.row t k (l'.map fun x=>litsA (enc x)))] (sortWorldK enc k w (K.ρ 0 0) 0 n l'.toArray os):=by
 have hp0:([(0,.row t k (l.map fun x=>litsA (enc x)))]:Objs)[0]? = some (0,.row t k (l.map fun x=>litsA (enc x))):=rfl;have hlen:l.length ≠ 0:=by simpa using h0
 obtain ⟨g1,g2,g3⟩:=hm.obj 0 _ hp0;have hC:K.C 0 0 ≠ 0:=by simp at g2;omega
 obtain ⟨cur,⟨fr,hfr,hbk⟩,hs,h1,hcr⟩:=g3 hC;have hs':cur.size=K.C 0 0*k:=hs;have g2':l.length*k<=K.C 0 0*k:=yHa k (by simpa using g2);have hmd:=hm.drawn (w.drawn+n);have hbk':(Go.Sort.ahead w n).heap[K.ρ 0 0]? = some (.cells cur t fr):=hbk;have hflat:(flatK enc k l'.toArray).size=l'.length*k:=by simp
 have hcell:∀ (i j:Nat) (x:α),l'[i]? = some x->j<k->(Go.Sort.putCells id 0 (flatK enc k l'.toArray) cur)[i*k+j]? = (enc x)[j]?:=by
  intro i j x hx hj;have hi:i<l'.length:=(List.getElem?_eq_some_iff.1 hx).1;have hb:i*k+j<l'.length*k:=by
   have:=yHa k (show i+1<=l'.length from hi);rw [y4a,yLb] at this;omega
  have hc:i*k+j<cur.size:=by
   rw [hl] at hb;omega
  have hd:(i*k+j) / k=i:=by rw [yQb,Nat.mul_add_div hk0,Nat.div_eq_of_lt hj,yhb]
  have hmm : (i * k + j) % k = j := by rw [yQb, Nat.mul_add_mod, Nat.mod_eq_of_lt hj]
  simp only [Go.Sort.putCells,Array.getElem?_mapIdx,ysa hc,yBa,yna,yGb,true_and,yda,hflat,id];rw [if_pos hb,get_flatK _ _ _ _ (by simpa using hb),hd,hmm,getElem!_pos l'.toArray i (by simpa using hi)];have ex:l'.toArray[i]'(by simpa using hi)=x:=by simpa using (List.getElem?_eq_some_iff.1 hx).2
  have hjl:j<(enc x).length:=by rw [hk];exact hj
  rw [ex,getElem!_pos (enc x) j hjl,yba hjl]
 have hmr:=hmd.setRow hp0 hC cur (Go.Sort.putCells id 0 (flatK enc k l'.toArray) cur) ⟨fr,hfr,hbk⟩ (by simp [Go.Sort.putCells]) (fun u hu=>by
   simp only [Go.Sort.putCells,Array.mem_toList_iff,Array.mem_mapIdx] at hu;obtain ⟨i,hi,rfl⟩:=hu;split
   ·rename_i hb;have hb':i<l'.length*k:=by simpa [hflat] using hb.2
    have hq:i / k<l'.length:=Nat.div_lt_of_lt_mul (by rw [yQb];exact hb');have hr : i % k < k := yTb _ hk0;simp only [yGb,id];rw [get_flatK _ _ _ _ (by simpa using hb')];have hlr : i % k < (enc (l'.toArray[i / k]!)).length := by rw [hk]; exact hr
    rw [getElem!_pos (enc (l'.toArray[i / k]!)) (i % k) hlr];exact h1c _ _ (ycb hlr)
   ·exact h1 _ (Array.mem_toList_iff.2 (Array.getElem_mem hi))) (l'.map fun x=>litsA (enc x)) (by simp at g2 ⊢;omega) (by simp [litsA,hk]) (fun i j e x he hx=>by
   rw [yra] at he;obtain ⟨q,hq,rfl⟩:=Option.map_eq_some_iff.1 he;rw [litsA,yra] at hx;obtain ⟨u,hu,rfl⟩:=Option.map_eq_some_iff.1 hx;have hj:j<k:=by have:=(List.getElem?_eq_some_iff.1 hu).1;rw [hk] at this;exact this
   exact ⟨u,(hcell i j q hq hj).trans hu,.lit _⟩)
 have:=MemSat.grownK os.toList hmr;unfold sortWorldK putRowK;rw [putRow_setRowK hbk'];have e:os.toList.toArray=os:=by simp
 rw [e] at this;exact this
end
theorem sortFunc_moves {α:Type} [Inhabited α] {P:Program} {f g:Nat} {t:TypeId} {k:Nat} {enc:α->List Value} (hk0:0<k) (hk:∀ x,(enc x).length=k) (h1c:∀ x,∀ v ∈ enc x,v.oneCell'=true) {l l':List α} (hl:l'.length=l.length)
  (hN:∀ (p:Option Addr) (cap:Nat) (w:World),Calls P f #[.slice p 0 cap,.func (.func g) #[] #[]] w fun e w'=>e = .returned (.tuple #[])∧w'=w)
  (hS:∀ (blk cap:Nat) (w:World),HoldsK enc k w blk 0 l.toArray->blk<w.heap.size->Calls P f #[.slice (some ⟨blk,0,none⟩) l.length cap,.func (.func g) #[] #[]] w fun e w'=>e = .returned (.tuple #[]) ∧ ∃ n os,w'=sortWorldK enc k w blk 0 n l'.toArray os) :
  AMoves P f [.own 0 0 k 0 l.length,.fn (.func g) [] []] [(0,.row t k (l.map fun x=>litsA (enc x)))] 1 (.tup []) [(0,.row t k (l'.map fun x=>litsA (enc x)))]:=by
 intro K w vs hm hr;obtain ⟨v,u,rfl⟩:∃ v u,vs=[v,u]:=by
  have hl:=hr.1
  match vs,hl with
  | [v,u],_=>exact ⟨v,u,rfl⟩
 obtain ⟨_,_,hcase⟩:=Qv5 (hr.2 0 _ _ rfl rfl);have hu:u = .func (.func g) #[] #[]:=by
  have hf:=hr.2 1 _ _ rfl rfl;generalize u=u at hf;cases hf with
  | fn _ _ _ us ws hl hm h1 h2 =>
   have e1:us=[]:=by cases us with|nil=>rfl|cons _ _=>simp at hl
   have e2:ws=[]:=by cases ws with|nil=>rfl|cons _ _=>simp at hm
   subst e1 e2
   rfl
 subst hu
 by_cases h0:l=[]
 ·subst h0;have e:l'=[]:=yCa (by simpa using hl);subst e;obtain ⟨p,cap,rfl⟩:∃ p cap,v = .slice p 0 cap:=by
   rcases hcase with ⟨_,_,rfl⟩|⟨a,cap,rfl,_⟩
   ·exact ⟨none,0,rfl⟩
   ·exact ⟨some a,cap,rfl⟩
  refine (hN p cap w).mono ?_;rintro e w' ⟨rfl,rfl⟩;exact ⟨_,K,rfl,Qga (by rw [← hm.len];simp),hm,.tup _ _ rfl (by intro i x v hx;simp at hx)⟩
 have hlen:l.length ≠ 0:=by simpa using h0
 rcases hcase with ⟨_,q,_⟩|⟨a,cap,rfl,q1,q2,q3⟩
 ·exact absurd q hlen
 have ha:=q3 oA;simp only [yWb] at ha;subst ha;obtain ⟨hH,hblk⟩:=rowK_holds hk0 hk h0 hm;refine (hS _ cap w hH hblk).mono ?_;rintro e w' ⟨rfl,n,os,rfl⟩;exact ⟨_,K,rfl,Qga (by rw [← hm.len];simp),rowK_sorted hk0 hk h1c h0 hl hm n os,.tup _ _ rfl (by intro i x v hx;simp at hx)⟩
end Go.Fw
namespace Go.Proofs.YtgnlcjenoaoffaaGreatDoor
set_option linter.unusedSimpArgs false
set_option linter.unusedVariables false
open Go.Shelf Go.Sort Go.RowKit
def sflRen:Ren :=
 {f:=fun x=>match x with
   | 14=>263
   | 20=>279
   | 21=>280
   | 22=>281
   | 23=>282
   | 24=>283
   | 25=>284
   | 26=>285
   | 27=>286
   | 46=>298
   | 47=>294
   | 48=>295
   | 49=>299
   | 50=>300
   | 15=>261
   | 57=>312
   | 28=>277
   | 29=>278
   | n=>n
  t:=fun x=>match x with
   | 24=>266
   | 22=>261
   | 3=>3
   | 25=>284
   | 4=>4
   | 0=>0
   | 46=>303
   | 45=>302
   | 50=>127
   | 66=>326
   | 39=>191
   | 55=>53
   | 70=>330
   | 76=>346
   | 77=>347
   | 53=>309
   | 5=>5
   | 9=>9
   | n=>n
  g:=fun x=>x }
theorem sflLays:SlLaysF0.n14 Tryz.prog sflRen where
 mixed:=by kernel_rfl
 f14 := ⟨ "slices.pdqsortCmpFunc[muster/share.ranked[int]]", of_decide_eq_true rfl, Tryz.func263.trans (by kernel_rfl)⟩
 f15:=Tryz.func261.trans (by kernel_rfl)
 f20 := ⟨ "slices.insertionSortCmpFunc[muster/share.ranked[int]]", of_decide_eq_true rfl, Tryz.func279.trans (by kernel_rfl)⟩
 f21 := ⟨ "slices.heapSortCmpFunc[muster/share.ranked[int]]", of_decide_eq_true rfl, Tryz.func280.trans (by kernel_rfl)⟩
 f22 := ⟨ "slices.breakPatternsCmpFunc[muster/share.ranked[int]]", of_decide_eq_true rfl, Tryz.func281.trans (by kernel_rfl)⟩
 f23 := ⟨ "slices.choosePivotCmpFunc[muster/share.ranked[int]]", of_decide_eq_true rfl, Tryz.func282.trans (by kernel_rfl)⟩
 f24 := ⟨ "slices.reverseRangeCmpFunc[muster/share.ranked[int]]", of_decide_eq_true rfl, Tryz.func283.trans (by kernel_rfl)⟩
 f25 := ⟨ "slices.partialInsertionSortCmpFunc[muster/share.ranked[int]]", of_decide_eq_true rfl, Tryz.func284.trans (by kernel_rfl)⟩
 f26 := ⟨ "slices.partitionEqualCmpFunc[muster/share.ranked[int]]", of_decide_eq_true rfl, Tryz.func285.trans (by kernel_rfl)⟩
 f27 := ⟨ "slices.partitionCmpFunc[muster/share.ranked[int]]", of_decide_eq_true rfl, Tryz.func286.trans (by kernel_rfl)⟩
 f28:=Tryz.func277.trans (by kernel_rfl)
 f29:=Tryz.func278.trans (by kernel_rfl)
 f46 := ⟨ "slices.siftDownCmpFunc[muster/share.ranked[int]]", of_decide_eq_true rfl, Tryz.func298.trans (by kernel_rfl)⟩
 f47:=Tryz.func294.trans (by kernel_rfl)
 f48:=Tryz.func295.trans (by kernel_rfl)
 f49 := ⟨ "slices.medianAdjacentCmpFunc[muster/share.ranked[int]]", of_decide_eq_true rfl, Tryz.func299.trans (by kernel_rfl)⟩
 f50 := ⟨ "slices.medianCmpFunc[muster/share.ranked[int]]", of_decide_eq_true rfl, Tryz.func300.trans (by kernel_rfl)⟩
 f57 := ⟨ "slices.order2CmpFunc[muster/share.ranked[int]]", of_decide_eq_true rfl, Tryz.func312.trans (by kernel_rfl)⟩
 t0:=Tryz.underlying0
 a0:=Tryz.isAgg0
 z0:=Tryz.sizeOf0
 v0:=Tryz.zeroValue0
 t3:=Tryz.underlying3
 a3:=Tryz.isAgg3
 z3:=Tryz.sizeOf3
 v3:=Tryz.zeroValue3
 t4:=Tryz.underlying4
 a4:=Tryz.isAgg4
 z4:=Tryz.sizeOf4
 v4:=Tryz.zeroValue4
 t5:=Tryz.underlying5
 a5:=Tryz.isAgg5
 z5:=Tryz.sizeOf5
 v5:=Tryz.zeroValue5
 t9:=Tryz.underlying9
 a9:=Tryz.isAgg9
 z9:=Tryz.sizeOf9
 v9:=Tryz.zeroValue9
 t22:=Tryz.underlying261
 a22:=Tryz.isAgg261
 z22:=Tryz.sizeOf261
 v22:=Tryz.zeroValue261
 t25:=Tryz.underlying284
 a25:=Tryz.isAgg284
 z25:=Tryz.sizeOf284
 v25:=Tryz.zeroValue284
 t39:=Tryz.underlying191
 a39:=Tryz.isAgg191
 z39:=Tryz.sizeOf191
 v39:=Tryz.zeroValue191
 t45:=Tryz.underlying302
 a45:=Tryz.isAgg302
 z45:=Tryz.sizeOf302
 v45:=Tryz.zeroValue302
 t46:=Tryz.underlying303
 a46:=Tryz.isAgg303
 z46:=Tryz.sizeOf303
 v46:=Tryz.zeroValue303
 t50:=Tryz.underlying127
 a50:=Tryz.isAgg127
 z50:=Tryz.sizeOf127
 v50:=Tryz.zeroValue127
 t53:=Tryz.underlying309
 a53:=Tryz.isAgg309
 z53:=Tryz.sizeOf309
 v53:=Tryz.zeroValue309
 t55:=Tryz.underlying53
 a55:=Tryz.isAgg53
 z55:=Tryz.sizeOf53
 v55:=Tryz.zeroValue53
 t66:=Tryz.underlying326
 a66:=Tryz.isAgg326
 z66:=Tryz.sizeOf326
 v66:=Tryz.zeroValue326
 t70:=Tryz.underlying330
 a70:=Tryz.isAgg330
 z70:=Tryz.sizeOf330
 v70:=Tryz.zeroValue330
 t76:=Tryz.underlying346
 a76:=Tryz.isAgg346
 z76:=Tryz.sizeOf346
 v76:=Tryz.zeroValue346
 t77:=Tryz.underlying347
 a77:=Tryz.isAgg347
 z77:=Tryz.sizeOf347
 v77:=Tryz.zeroValue347
end Go.Proofs.YtgnlcjenoaoffaaGreatDoor
namespace Go.Proofs.YtgnlcjenoaoffaaGreatDoor
set_option linter.unusedSimpArgs false
set_option linter.unusedVariables false
open Go.Fw Go.RowKit Go.Proofs Go.Sort Go.Shelf Go.Lib
def Ranked.key (x:Ranked):Int × Int × Int:=(x.prio,x.share,x.id)
def unkey (k:Int × Int × Int):Ranked:=⟨k.2.2,k.1,k.2.1,k.2.2⟩
def aheadR (x y:Ranked):Bool:=ah3 x.key y.key
def insR (x:Ranked):List Ranked->List Ranked
 | []=>[x]
 | y :: r=>bif aheadR y x then y :: insR x r else x :: y :: r
def QL3 (l:List Ranked):List Ranked:=l.foldl (fun o x=>insR x o) []
theorem insR_map (x:Int × Int × Int):∀ o,(ins3 x o).map unkey=insR (unkey x) (o.map unkey)
 | []=>rfl
 | y :: r=>by
  simp only [ins3,yob,insR,show aheadR (unkey y) (unkey x)=ah3 y x from rfl];cases ah3 y x with
  | true=>simp only [cond_true,yob,insR_map x r]
  | false=>rfl
theorem rank_go:∀ (l o:List (Int × Int × Int)),(l.foldl (fun o x=>ins3 x o) o).map unkey=(l.map unkey).foldl (fun o x=>insR x o) (o.map unkey)
 | [],_=>rfl
 | x :: r,o=>by
  simp only [yBb,yob];rw [rank_go r,insR_map]
theorem rank_map {l:List Ranked} (h:∀ x ∈ l,x.what=x.id):(l.map Ranked.key).map unkey=l:=by
 rw [List.map_map];refine (ySb fun x hx=>?_).trans (List.map_id l);have:=h x hx;cases x;simp only at this;subst this
 rfl
theorem rank_sort {l:List Ranked} (h:∀ x ∈ l,x.what=x.id):(sort3 (l.map Ranked.key)).map unkey=QL3 l:=by
 have:=rank_go (l.map Ranked.key) [];rw [rank_map h] at this;exact this
theorem insR_len (x:Ranked):∀ o,(insR x o).length=o.length+1
 | []=>rfl
 | y :: r=>by
  unfold insR;cases aheadR y x with
  | true=>simp only [cond_true,yLa,insR_len x r]
  | false=>rfl
theorem QXc (l:List Ranked):(QL3 l).length=l.length:=by
 have go:∀ (l o:List Ranked),(l.foldl (fun o x=>insR x o) o).length=o.length+l.length:=by
  intro l
  induction l with
  | nil=>intro o;rfl
  | cons x r ih=>intro o;rw [yBb,ih,insR_len,yLa];omega
 have h:=go l [];rw [y0a,yda] at h;exact h
def enc3 (k:Int × Int × Int):List Value:=[.int .i64 k.2.2,.int .i64 k.1,.int .i64 k.2.1,.int .i64 k.2.2]
set_option maxHeartbeats 1000000 in
theorem or_calls (a b c:Int) (blk:Nat) (W:World) (h0:W.cell? ⟨blk,0,none⟩=some (.int .i64 a)) (h1:W.cell? ⟨blk,1,none⟩=some (.int .i64 b)) (h2:W.cell? ⟨blk,2,none⟩=some (.int .i64 c)) :
  Calls Tryz.prog 140 #[.slice (some ⟨blk,0,none⟩) 3 3] W fun e w'=>e = .returned (.int .i64 (or3 a b c))∧w'=W:=by
 go_enter Tryz.func140,Tryz.ntmps140
 go_wp2
 refine wp_loop_rounds 4 ?_;rw [rounds_succ]
 go_wp2
 ·go_ret
  refine ⟨?_,rfl⟩;unfold or3;cases ha:a != 0 <;> cases hb:b != 0 <;> simp_all
 rw [rounds_succ]
 go_wp2
 ·go_ret
  refine ⟨?_,rfl⟩;unfold or3;cases ha:a != 0 <;> cases hb:b != 0 <;> simp_all
 rw [rounds_succ]
 go_wp2
 ·go_ret
  refine ⟨?_,rfl⟩;unfold or3;cases ha:a != 0 <;> cases hb:b != 0 <;> simp_all
 rw [rounds_succ]
 go_wp2
 go_ret
 refine ⟨?_,rfl⟩;unfold or3;cases ha:a != 0 <;> cases hb:b != 0 <;> simp_all
theorem cell2a (W:World) (A B:Array Value) (t:TypeId) (j:Nat) (v:Value) (h:A[j]? = some v):(((W.alloc (.cells A t)).alloc (.cells B t)).drewN 1).cell? ⟨W.heap.size,j,none⟩=some v:=by
 have e:(((W.alloc (.cells A t)).alloc (.cells B t)).drewN 1).heap=(W.heap.push (.cells A t)).push (.cells B t):=rfl;simp only [World.cell?,e];simp [Array.getElem?_push,h]
theorem cell2b (W:World) (A B:Array Value) (t:TypeId) (j:Nat) (v:Value) (h:B[j]? = some v):(((W.alloc (.cells A t)).alloc (.cells B t)).drewN 1).cell? ⟨W.heap.size+1,j,none⟩=some v:=by
 have e:(((W.alloc (.cells A t)).alloc (.cells B t)).drewN 1).heap[W.heap.size+1]? = some (.cells B t):=by
  have q:=Array.getElem?_push_size (xs:=W.heap.push (.cells A t)) (x:=Obj.cells B t);rw [Array.size_push] at q;exact q
 simp only [World.cell?,e];simp [h]
theorem cell1 (W:World) (A:Array Value) (t:TypeId) (j:Nat) (v:Value) (h:A[j]? = some v):(W.alloc (.cells A t)).cell? ⟨W.heap.size,j,none⟩=some v:=by
 have e:(W.alloc (.cells A t)).heap=W.heap.push (.cells A t):=rfl;simp only [World.cell?,e];simp [h]
set_option maxHeartbeats 1000000 in
theorem QRd (x y:Int) (W:World):Calls Tryz.prog 264 #[.int .i64 x,.int .i64 y] W fun e w'=>e = .returned (.int .i64 (Lib.compareInt x y))∧w'=W:=by
 have hn:∀ z W',Calls Tryz.prog 287 #[.int .i64 z] W' fun e w'=>e = .returned (.bool false)∧w'=W':=by
  intro z W'
  go_enter Tryz.func287,Tryz.ntmps287
  go_wp2
  go_ret
  exact ⟨by simp,rfl⟩
 go_enter Tryz.func264,Tryz.ntmps264
 go_wp2_with (go_at_call 287;refine (hn _ _).mono ?_;rintro e w' ⟨rfl,rfl⟩)
 all_goals (go_ret;refine ⟨?_,rfl⟩;unfold Lib.compareInt;(repeat' split) <;> first|rfl|(exfalso;omega))
set_option maxRecDepth 100000 in
set_option maxHeartbeats 2000000 in
theorem against_run (a1 a2 a3 a4 b1 b2 b3 b4:Int) (W:World):Calls Tryz.prog 252 #[.agg #[.int .i64 a1,.int .i64 a2,.int .i64 a3,.int .i64 a4],.agg #[.int .i64 b1,.int .i64 b2,.int .i64 b3,.int .i64 b4]] W fun e w'=>e = .returned (.int .i64 (or3 (Lib.compareInt b2 a2) (Lib.compareInt a3 b3) (Lib.compareInt a4 b4))) ∧ ∃ q os',w'=Go.Sort.grow (W.drewN q) os':=by
 have c1:=QRd b2 a2;have c2:=QRd a3 b3;have c3:=QRd a4 b4;generalize Lib.compareInt b2 a2=r1 at c1 ⊢;generalize Lib.compareInt a3 b3=r2 at c2 ⊢;generalize Lib.compareInt a4 b4=r3 at c3 ⊢
 go_enter Tryz.func252,Tryz.ntmps252
 go_wp2
 refine wp_region_still_tail 15 (by kernel_rfl) (by kernel_rfl) ?_;have hW:∃ q os',((W.alloc (Obj.cells #[Value.int IntKind.i64 a1,Value.int IntKind.i64 a2,Value.int IntKind.i64 a3,Value.int IntKind.i64 a4] 266)).alloc (Obj.cells #[Value.int IntKind.i64 b1,Value.int IntKind.i64 b2,Value.int IntKind.i64 b3,Value.int IntKind.i64 b4] 266)).drewN 1=Go.Sort.grow (W.drewN q) os':=⟨1,_,by rw [Go.Sort.alloc_eq_grow,Go.Sort.alloc_eq_grow,Go.Sort.grow_grow];rfl⟩;have e11:=cell2a W #[Value.int IntKind.i64 a1,Value.int IntKind.i64 a2,Value.int IntKind.i64 a3,Value.int IntKind.i64 a4] #[Value.int IntKind.i64 b1,Value.int IntKind.i64 b2,Value.int IntKind.i64 b3,Value.int IntKind.i64 b4] 266 1 (.int .i64 a2) rfl;have e12:=cell2a W #[Value.int IntKind.i64 a1,Value.int IntKind.i64 a2,Value.int IntKind.i64 a3,Value.int IntKind.i64 a4] #[Value.int IntKind.i64 b1,Value.int IntKind.i64 b2,Value.int IntKind.i64 b3,Value.int IntKind.i64 b4] 266 2 (.int .i64 a3) rfl;have e13:=cell2a W #[Value.int IntKind.i64 a1,Value.int IntKind.i64 a2,Value.int IntKind.i64 a3,Value.int IntKind.i64 a4] #[Value.int IntKind.i64 b1,Value.int IntKind.i64 b2,Value.int IntKind.i64 b3,Value.int IntKind.i64 b4] 266 3 (.int .i64 a4) rfl;have e21:=cell2b W #[Value.int IntKind.i64 a1,Value.int IntKind.i64 a2,Value.int IntKind.i64 a3,Value.int IntKind.i64 a4] #[Value.int IntKind.i64 b1,Value.int IntKind.i64 b2,Value.int IntKind.i64 b3,Value.int IntKind.i64 b4] 266 1 (.int .i64 b2) rfl;have e22:=cell2b W #[Value.int IntKind.i64 a1,Value.int IntKind.i64 a2,Value.int IntKind.i64 a3,Value.int IntKind.i64 a4] #[Value.int IntKind.i64 b1,Value.int IntKind.i64 b2,Value.int IntKind.i64 b3,Value.int IntKind.i64 b4] 266 2 (.int .i64 b3) rfl;have e23:=cell2b W #[Value.int IntKind.i64 a1,Value.int IntKind.i64 a2,Value.int IntKind.i64 a3,Value.int IntKind.i64 a4] #[Value.int IntKind.i64 b1,Value.int IntKind.i64 b2,Value.int IntKind.i64 b3,Value.int IntKind.i64 b4] 266 3 (.int .i64 b4) rfl;change wpStill _ _ (((W.alloc (Obj.cells #[Value.int IntKind.i64 a1,Value.int IntKind.i64 a2,Value.int IntKind.i64 a3,Value.int IntKind.i64 a4] 266)).alloc (Obj.cells #[Value.int IntKind.i64 b1,Value.int IntKind.i64 b2,Value.int IntKind.i64 b3,Value.int IntKind.i64 b4] 266)).drewN 1) (fun a'=>wpList _ _ _ _ a' (((W.alloc (Obj.cells #[Value.int IntKind.i64 a1,Value.int IntKind.i64 a2,Value.int IntKind.i64 a3,Value.int IntKind.i64 a4] 266)).alloc (Obj.cells #[Value.int IntKind.i64 b1,Value.int IntKind.i64 b2,Value.int IntKind.i64 b3,Value.int IntKind.i64 b4] 266)).drewN 1)) _ _;generalize ((W.alloc (Obj.cells #[Value.int IntKind.i64 a1,Value.int IntKind.i64 a2,Value.int IntKind.i64 a3,Value.int IntKind.i64 a4] 266)).alloc (Obj.cells #[Value.int IntKind.i64 b1,Value.int IntKind.i64 b2,Value.int IntKind.i64 b3,Value.int IntKind.i64 b4] 266)).drewN 1=W2 at *;generalize W.heap.size=p1 at *;simp only [List.take_succ_cons,List.take_zero,List.drop_succ_cons,List.drop_zero]
 still_step;still_step;still_step;still_step
 still_call (c1 _)
 still_step;still_step;still_step;still_step
 still_call (c2 _)
 still_step;still_step;still_step;still_step
 still_call (c3 _)
 refine wpStill_nil ?_;clear e11 e12 e13 e21 e22 e23
 go_wp2_with (go_at_call 140;refine (or_calls r1 r2 r3 W2.heap.size _ (cell1 _ _ _ _ _ rfl) (cell1 _ _ _ _ _ rfl) (cell1 _ _ _ _ _ rfl)).mono ?_;rintro e w' ⟨rfl,rfl⟩)
 obtain ⟨q,os,rfl⟩:=hW
 go_ret
 exact ⟨rfl,q,_,by rw [Go.Sort.alloc_eq_grow,Go.Sort.grow_grow]⟩
theorem against_calls (x y:Int × Int × Int) (W:World):Calls Tryz.prog 252 #[.agg (enc3 x).toArray,.agg (enc3 y).toArray] W fun e w'=>e = .returned (.int .i64 (cf3 x y)) ∧ ∃ q os',w'=Go.Sort.grow (W.drewN q) os' :=
 against_run _ _ _ _ _ _ _ _ W
set_option maxRecDepth 100000 in
set_option maxHeartbeats 2000000 in
theorem sortFunc_run (l:List (Int × Int × Int)) (hl:l.length<4611686018427387904) (blk cap:Nat) (w:World) (hH:HoldsK enc3 4 w blk 0 l.toArray) (hblk:blk<w.heap.size) :
  Calls Tryz.prog 251 #[.slice (some ⟨blk,0,none⟩) l.length cap,.func (.func 252) #[] #[]] w fun e w'=>e = .returned (.tuple #[]) ∧ ∃ n os,w'=sortWorldK enc3 4 w blk 0 n (sort3 l).toArray os:=by
 have eg:∀ args w,(callFunc 252 args).run Tryz.prog w = .ok (.enter 252 args) w:=enters_of Tryz.func252 (by kernel_rfl) rfl;have h1:∀ x,∀ v ∈ enc3 x,v.oneCell'=true:=fun x v hv=>by simp [enc3] at hv;rcases hv with rfl|rfl|rfl|rfl <;> rfl
 have hsz:l.toArray.size=l.length:=by simp
 have hlim:Lib.bitLen l.toArray.size<4611686018427387904:=Nat.lt_of_le_of_lt (Lib.bitLen_le l.toArray.size 62 oA oA) oA;have hp:=AnyQ.pdqsortCmpFunc_all sflLays 4 Tryz.isAgg266 Tryz.sizeOf266 enc3 cf3 252 #[] swo3 blk 0 cap l.toArray w eg (fun _ _ _ _ x y=>against_calls x y _) ⟨fun _=>rfl,h1,hH,hblk⟩ (l.toArray.size+1) 0 l.toArray.size (Lib.bitLen l.toArray.size) l.toArray w oA rfl (SWK.start hH) (yna _) (yia _) oA hlim (Or.inl rfl);have hq:=pdq_sorts (ltOf cf3) swo3 l.toArray 0 l.toArray.size (Lib.bitLen l.toArray.size) true true (yna _) (yia _) (Or.inl rfl);have he:pdq (ltOf cf3) l.toArray 0 l.toArray.size (Lib.bitLen l.toArray.size) true true=(sort3 l).toArray:=by
  have q:=sorted_unique_holds swo3 tot3 _ _ hq.1 hq.2;rw [show l.toArray.toList=l from rfl,merge3] at q;rw [← q]
 rw [he] at hp;have hb:Calls Tryz.prog 261 #[.int .u64 (l.toArray.size:Int)] w fun e w'=>e = .returned (.int .i64 (Lib.bitLen l.toArray.size:Nat))∧w'=w:=by
  have h:=Any.bits_Len (SlLaysF0.n15.bits (P:=Tryz.prog) (ρ:=sflRen) { sflLays with }) (l.toArray.size:Int) w oA oA
  rwa [yXa] at h
 rw [hsz] at hp hb;have wr:IntKind.u64.wrap (l.length:Int)=l.length:=by simp [IntKind.wrap,IntKind.bits,IntKind.signed];omega
 change Calls Tryz.prog 263 _ _ _ at hp;clear hH h1 hq hlim hsz he;generalize (sort3 l).toArray=l' at hp ⊢
 go_enter Tryz.func251,Tryz.ntmps251
 go_wp2_with (first|(go_at_call 261;refine hb.mono ?_;rintro e w' ⟨rfl,rfl⟩)|(go_at_call 263;refine hp.mono ?_;rintro e w' ⟨rfl,n,os,rfl⟩))
 go_end0
 exact ⟨rfl,n,os,rfl⟩
set_option maxRecDepth 100000 in
set_option maxHeartbeats 2000000 in
theorem sortFunc_none (p:Option Addr) (cap:Nat) (w:World):Calls Tryz.prog 251 #[.slice p 0 cap,.func (.func 252) #[] #[]] w fun e w'=>e = .returned (.tuple #[])∧w'=w:=by
 have hp:=fun lim W=>AnyF.pdqsortCmpFunc_none (P:=Tryz.prog) (ρ:=sflRen) sflLays p cap lim (.func (.func 252) #[] #[]) W
 have hb:∀ W,Calls Tryz.prog 261 #[.int .u64 0] W fun e w'=>e = .returned (.int .i64 (Lib.bitLen 0:Nat))∧w'=W:=fun W=>Any.bits_Len (SlLaysF0.n15.bits (P:=Tryz.prog) (ρ:=sflRen) { sflLays with }) 0 W oA oA
 change ∀ lim W,Calls Tryz.prog 263 _ _ _ at hp
 go_enter Tryz.func251,Tryz.ntmps251
 go_wp2_with (first|(go_at_call 261;refine (hb _).mono ?_;rintro e w' ⟨rfl,rfl⟩)|(go_at_call 263;refine (hp _ _).mono ?_;rintro e w' ⟨rfl,rfl⟩))
 go_end0
 exact ⟨rfl,rfl⟩
theorem Qsc (l:List Ranked) (hl:l.length<=4294967296) (hp:∀ x ∈ l,x.what=x.id) :
  AMoves Tryz.prog 251 [.own 0 0 4 0 l.length,.fn (.func 252) [] []] [(0,.row 266 4 (l.map Ranked.cells))] 1 (.tup []) [(0,.row 266 4 ((QL3 l).map Ranked.cells))]:=by
 have hll:(l.map Ranked.key).length=l.length:=yxa _
 have h:=sortFunc_moves (P:=Tryz.prog) (f:=251) (g:=252) (t:=266) (k:=4) (enc:=enc3) (by decide) (fun _=>rfl) (fun x v hv=>by simp [enc3] at hv;rcases hv with rfl|rfl|rfl|rfl <;> rfl) (l:=l.map Ranked.key) (l':=sort3 (l.map Ranked.key)) (sort3_len _)
  sortFunc_none (fun blk cap w hH hblk=>sortFunc_run (l.map Ranked.key) oA blk cap w hH hblk)
 have e1:((l.map Ranked.key).map fun x=>litsA (enc3 x))=l.map Ranked.cells:=by
  show (l.map Ranked.key).map (Ranked.cells ∘ unkey)=_;rw [← List.map_map,rank_map hp]
 have e2:((sort3 (l.map Ranked.key)).map fun x=>litsA (enc3 x))=(QL3 l).map Ranked.cells:=by
  show (sort3 (l.map Ranked.key)).map (Ranked.cells ∘ unkey)=_;rw [← List.map_map,rank_sort hp]
 rw [e1,e2,hll] at h;exact h
end Go.Proofs.YtgnlcjenoaoffaaGreatDoor
namespace Go.Fw
set_option linter.unusedSimpArgs false
set_option linter.unusedVariables false
theorem elemI_set {α:Type} {c:α->List AVal} {l:List α} {i:Nat} {x:List AVal} (j:Nat) (e:i=j) (h:j<l.length):elemI ((l.map c).set i x) i=some x:=by
 subst e;have:∀ (es:List (List AVal)) (i:Nat),i<es.length->elemI (es.set i x) i=some x:=by
  intro es
  induction es with
  | nil=>intro i hi;exact absurd hi (yPb _)
  | cons a r ih =>
   intro i hi;cases i with
   | zero=>rfl
   | succ i=>exact ih i (Nat.lt_of_succ_lt_succ hi)
 exact this _ _ (by rw [yxa];exact h)
theorem turn_rowset {α:Type} {objs:Objs} {n:Nat} {ks:List Nat} {t:TypeId} {k i:Nat} {c:α->List AVal} {l l':List α} {xs:List AVal} (j:Nat) (y:α) (e:i=j) (hl:l'=l.set j y) (hc:∀ x,LowL n (c x))
  (h:TurnCs objs n ks xs (c y)):TurnO objs n ks (.row t k ((l.map c).set i xs)) (.row t k (l'.map c)):=by
 subst e hl;refine .row _ _ _ _ ?_
 induction l generalizing i with
 | nil=>exact .nil
 | cons a r ih =>
  cases i with
  | zero=>exact .cons _ _ _ _ h (.low fun e he=>by obtain ⟨q,_,rfl⟩:=List.mem_map.1 he;exact hc q)
  | succ i=>exact .cons _ _ _ _ (.low (hc a)) (ih (i:=i))
theorem set_self {α:Type} (d:α) (l:List α) (j:Nat):l=l.set j (l.getD j d):=by
 induction l generalizing j with
 | nil=>rfl
 | cons a r ih =>
  cases j with
  | zero=>rfl
  | succ j=>exact congrArg (a :: ·) (ih j)
open Go.RowKit
theorem rowSeg {K:Ctx} {k:Nat} {es:List (List AVal)} {c:List Value} (h1:∀ e ∈ es,e.length=k) (hone:∀ u ∈ c,u.oneCell'=true)
  (hr:∀ (i j:Nat) (e:List AVal) (x:AVal),es[i]? = some e->e[j]? = some x -> ∃ u,c[i*k+j]? = some u∧Rep K x u) (hs:es.length*k<=c.length) (a m:Nat) (h:a+m<=es.length) :
  Row K k ((es.drop a).take m) ((c.drop (a*k)).take (m*k)):=by
 have hl:((es.drop a).take m).length=m:=by simp;omega
 have hsz:(a+m)*k<=c.length:=yea (yHa k h) hs;rw [y4a] at hsz;refine ⟨by rw [hl];simp;omega,fun e he=>h1 e (Q54 he),fun u hu=>hone u (Q54 hu),fun i j e x he hx=>?_⟩;rw [yKa] at he;split at he
 ·rename_i hi;rw [yMa] at he;obtain ⟨u,hu,hru⟩:=hr (a+i) j e x he hx;have hj:j<k:=by have:=h1 e (yza he);have:=(List.getElem?_eq_some_iff.1 hx).1;omega
  have hik:(i+1)*k<=m*k:=yHa k hi;rw [y4a,yLb] at hik;refine ⟨u,?_,hru⟩;rw [yKa,if_pos oA,yMa,← yfb,← y4a];exact hu
 ·cases he
theorem MemSat.put {K:Ctx} {objs:Objs} {w:World} (hm:MemSat K objs w) {o ver k:Nat} {te:TypeId} {es:List (List AVal)} (hp:objs[o]? = some (ver,.row te k es)) (hC:K.C o ver ≠ 0)
  {c:Array Value} (hc:RowAt w (K.ρ o ver) c te k) (hs:c.size=K.C o ver*k) {es':List (List AVal)} {us:List Value} (hrow:Row K k es' us) (hl:es'.length<=K.C o ver)
  {c':Array Value} {rest:List Value} (hc':c'.toList=us++rest) (hcs:c'.size=c.size) (hrest:∀ u ∈ rest,u.oneCell'=true):MemSat K (objs.set o (ver,.row te k es')) (w.setRow (K.ρ o ver) c'):=by
 refine hm.setRow hp hC c c' hc hcs ?_ es' hl hrow.elem ?_
 ·intro u hu;rw [hc'] at hu;rcases List.mem_append.1 hu with hu|hu
  ·exact hrow.one u hu
  ·exact hrest u hu
 ·intro i j e x he hx;obtain ⟨u,hu,hru⟩:=hrow.rep i j e x he hx;refine ⟨u,?_,hru⟩;rw [← yVa,hc',ypa (List.getElem?_eq_some_iff.1 hu).1];exact hu
theorem run_clear_k {P:Program} (w:World) (t ty elem:TypeId) (g o n cap:Nat) (cur:Array Value) (tb:TypeId) (fr:Nat × Nat) (i:TypeInfo) (z:Value) (hu:P.underlying t=some (.slice elem)) (hi:P.info? elem=some i) (hz:i.zero=some z)
  (hz1:∀ u ∈ z.cells.toList,u.oneCell'=true) (hn:n ≠ 0)
  (hg:w.heap[g]? = some (.cells cur tb fr)) (hfr:frFree fr cur.size) (hfit:o+n*z.cells.size<=cur.size) :
  (Builtin.clear_ #[t] ty #[.slice (some ⟨g,o,none⟩) n cap]).run P w =
   .ok (.tuple #[]) (w.setRow g (cur.toList.take o++(Builtin.zeroCells z.cells n).toList++cur.toList.drop (o+n*z.cells.size)).toArray):=by
 have hlen:(Builtin.zeroCells z.cells n).toList.length=n*z.cells.size:=by simp [Builtin.zeroCells]
 have h1:∀ u ∈ (Builtin.zeroCells z.cells n).toList,u.oneCell'=true:=by
  intro u hu;simp only [Builtin.zeroCells,ykb,ypb,ywb,y5a] at hu;obtain ⟨q,hq,rfl⟩:=hu;rcases ySa z.cells.size with h0|h0
  ·rw [h0] at hq;simp at hq
  ·rw [getElem!_pos z.cells _ (yTb _ h0)];exact hz1 _ (by simp)
 have hst:=QN2 P g o tb fr (Builtin.zeroCells z.cells n).toList 0 cur w hg hfr (by rw [hlen];omega) h1;simp only [yhb,hlen] at hst;obtain ⟨n,rfl⟩:∃ m,n=m+1:=⟨n - 1,by omega⟩;simp [Builtin.clear_,run_underlying hu,zeroValue,typeInfo,hi,hz,hst]
theorem Q37 {P:Program} {ops:Array Oper} {o:Oper} {a:Act} {w:World} {K:Act->World->Prop} {Q:Exit->Act->World->Prop} {E:Prop}
  (hg:o.guard=none) (d x:Operand) (dT sT:TypeId) (hop:o.op=Op.call { callee:=Callee.builtin Builtin.append,args:=#[d,x],argTypes:=#[dT,sT] })
  (v u:Value) (hd:a.eval d=v) (hx:a.eval x=u) {v':Value} {w':World} (hr:(Builtin.append_ #[dT,sT] o.type #[v,u]).run P w = .ok v' w') (hK:K (a.put o.dst v') w') :
  if Region.wanted o (yielded ops a.tmps)=true then Oper.wp P o a w K Q else E:=by
 have hw:Region.wanted o (yielded ops a.tmps)=true:=by simp [Region.wanted,hg]
 rw [if_pos hw];exact Lib.wp_append_run w d x dT sT hop v u hd hx _ _ hr hK
theorem Qr6 {P:Program} (w:World) {ops:Array Oper} {rest:List Oper} {o:Oper} {a:Act} {Q:Exit->Act->World->Prop} (hgd:o.guard=none) (x:Operand) (t:TypeId)
  (ho:o.op = .call { callee:=.builtin .clear,args:=#[x],argTypes:=#[t] }) (v:Value) (hx:a.eval x=v) {v':Value} {w':World}
  (hr:(Builtin.clear_ #[t] o.type #[v]).run P w = .ok v' w') (h:wpList P ops Q rest (a.put o.dst v') w'):wpList P ops Q (o :: rest) a w :=
 wpList_plain hgd fun _ hK=>by
  unfold Oper.wp execOp;simp only [ho,resolve,invoke,builtin,yqa,yta,yga,List.map_toArray,yob,y4b,hx,hr];exact hK _ _ h
end Go.Fw
namespace Go.Proofs.YtgnlcjenoaoffaaGreatDoor
set_option linter.unusedSimpArgs false
set_option linter.unusedVariables false
open Go.Fw Go.RowKit Go.Lib
set_option maxHeartbeats 4000000 in
set_option maxRecDepth 100000 in
theorem delete_w (b n c i j:Nat) (w:World) (hij:i<j) (hjn:j<=n) (hnc:n<=c) (cur:Array Value) (fr:Nat × Nat) (hg:w.heap[b]? = some (.cells cur 89 fr)) (hfr:frFree fr (cur.size+1)) (hsz:c*5<=cur.size) (h1:∀ u ∈ cur.toList,u.oneCell'=true)
  (X1 X2:Array Value) (I0:TypeInfo) (z:Value) (hi0:Tryz.prog.info? 89 = some I0) (hz:I0.zero=some z) (his:I0.size=5) (hzs:z.cells.size=5) (hz1:∀ u ∈ z.cells.toList,u.oneCell'=true)
  (hX1:X1=(cur.toList.take (i*5)++(cur.toList.drop (j*5)).take ((n - j)*5)++cur.toList.drop (i*5+((cur.toList.drop (j*5)).take ((n - j)*5)).length)).toArray)
  (hX2:X2=(X1.toList.take ((i+(n - j))*5)++(Builtin.zeroCells z.cells (j - i)).toList++X1.toList.drop ((i+(n - j))*5+(j - i)*z.cells.size)).toArray) :
  Calls Tryz.prog 197 #[.slice (some ⟨b,0,none⟩) n c,.int .i64 i,.int .i64 j] w fun e w' =>
   e = .returned (.slice (some ⟨b,0,none⟩) (i+(n - j)) c)∧w'=(w.drew.setRow b X1).setRow b X2:=by
 have hS:((cur.toList.drop (j*5)).take ((n - j)*5)).length=(n - j)*5:=by
  simp only [yAa,yEa,ybb];omega
 have hX1s:X1.size=cur.size:=by
  rw [hX1];simp only [ymb,yma,yAa,yEa,ybb];omega
 have hgd:w.drew.heap[b]? = some (.cells cur 89 fr):=hg;have hz1':¬ ((i:Int)=(j:Int)):=by omega
 have hn2:n - (i+(n - j))=j - i:=by omega
 have hg1:(w.drew.setRow b X1).heap[b]? = some (.cells X1 89 fr):=setRow_heap w.drew b cur X1 _ fr hgd;have hclr:∀ ty cc,(Builtin.clear_ #[24] ty #[.slice (some ⟨b,(i+(n - j))*5,none⟩) (n - (i+(n - j))) cc]).run Tryz.prog (w.drew.setRow b X1) = .ok (.tuple #[]) ((w.drew.setRow b X1).setRow b X2):=fun ty cc=>by
  have h:=run_clear_k (P:=Tryz.prog) (w.drew.setRow b X1) 24 ty 89 b ((i+(n - j))*5) (n - (i+(n - j))) cc X1 _ fr I0 z (by kernel_rfl) hi0 hz hz1 oA hg1 (by rw [hX1s];exact hfr.le oA) (by rw [hX1s,hzs,hn2];omega);rw [hn2] at h ⊢;rw [h,← hX2]
 have hrow:RowAt w.drew b cur 89 5:=⟨fr,hfr,hgd⟩;rcases yGa j n with hlt|hge
 ·have hcj:¬ (c=j):=by omega
  have hrun:∀ ty,(Builtin.append_ #[24,24] ty #[.slice (some ⟨b,0,none⟩) i c,.slice (some ⟨b,j*5,none⟩) (n - j) (c - j)]).run Tryz.prog w.drew = .ok (.slice (some ⟨b,0,none⟩) (i+(n - j)) c) (w.drew.setRow b X1):=fun ty=>by
   have h:=Qqa (P:=Tryz.prog) w.drew 24 ty 89 I0 (by kernel_rfl) hi0 (k:=5) b i c cur hrow ⟨b,j*5,none⟩ (n - j) (c - j) ((cur.toList.drop (j*5)).take ((n - j)*5)) (by rw [hS,his]) (fun q u hu=>by
    rw [Fw.add_lit];simp only [World.cell?,hgd];rw [yKa] at hu;split at hu
    ·rw [yMa] at hu;simpa using hu
    ·cases hu) (fun u hu=>h1 u (Q54 hu)) oA (by rw [hS,his];omega)
   rw [his] at h;rw [h,← hX1]
  have hic:i<=c:=by omega
  have hin:i+(n - j)<=n:=by omega
  have hci:¬ (c=i+(n - j)):=by omega
  have hci2:(i:Int)+((n - j:Nat):Int)<=(n:Int):=by omega
  clear hX1 hX2 hS
  go_enter Tryz.func197,Tryz.ntmps197
  go_wp2
  go_region_law (refine Q37 rfl _ _ 24 24 rfl _ _ (by simp [Act.eval,Act.put]) (by simp [Act.eval,Act.put]) (hrun _) ?_)
  go_wp2_with (refine Qr6 _ rfl _ _ rfl _ rfl (hclr _ _) ?_)
  go_ret
  exact ⟨rfl,rfl⟩
 ·obtain rfl:n=j:=by omega
  have hX1c:X1=cur:=by rw [hX1];simp
  have hW:w.drew.setRow b X1=w.drew:=by rw [hX1c];exact setRow_self w.drew b cur _ fr hgd
  rw [hW] at hclr ⊢;simp only [y8b,yhb] at hclr ⊢;have hrun:∀ ty A cc,(Builtin.append_ #[24,24] ty #[.slice (some ⟨b,0,none⟩) i c,.slice A 0 cc]).run Tryz.prog w.drew = .ok (.slice (some ⟨b,0,none⟩) i c) w.drew:=fun ty A cc=>QZ5 (by kernel_rfl) hi0 _ _ _ _ _ oA
  have hic:i<=c:=by omega
  have hin:i<=n:=by omega
  have hci:¬ (c=i):=by omega
  have hci2:(i:Int)<=(n:Int):=by omega
  clear hX1 hX2 hS hX1c hW
  by_cases hcn:c=n
  ·subst hcn
   go_enter Tryz.func197,Tryz.ntmps197
   go_wp2
   go_region_law (refine Q37 rfl _ _ 24 24 rfl _ _ (by simp [Act.eval,Act.put]) (by simp [Act.eval,Act.put]) (hrun _ _ _) ?_)
   go_wp2_with (refine Qr6 _ rfl _ _ rfl _ rfl (hclr _ _) ?_)
   go_ret
   exact ⟨rfl,rfl⟩
  ·go_enter Tryz.func197,Tryz.ntmps197
   go_wp2
   go_region_law (refine Q37 rfl _ _ 24 24 rfl _ _ (by simp [Act.eval,Act.put]) (by simp [Act.eval,Act.put]) (hrun _ _ _) ?_)
   go_wp2_with (refine Qr6 _ rfl _ _ rfl _ rfl (hclr _ _) ?_)
   go_ret
   exact ⟨rfl,rfl⟩
theorem resize_info:∃ (I0:TypeInfo) (z:Value),Tryz.prog.info? 89 = some I0∧I0.zero=some z∧I0.size=5∧I0.bytes=40∧z.cells.size=5 ∧ ∀ u ∈ z.cells.toList,u.oneCell'=true:=by
 obtain ⟨i,v,h1,h2,h3,h4,h5⟩:=Qz4 (P:=Tryz.prog) (t:=89) (z:=zH.cells) (by kernel_rfl);have hb:(Tryz.prog.info? 89).map (·.bytes)=some 40:=by kernel_rfl
 have hs:v.cells.size=5:=by
  have:=congrArg List.length h3;simp [Resize.cells] at this;omega
 rw [h1] at hb;exact ⟨i,v,h1,h2,by omega,by simpa using hb,hs,h4⟩
theorem zeroCells_one {z:Value} (h:∀ u ∈ z.cells.toList,u.oneCell'=true) (n:Nat):∀ u ∈ (Builtin.zeroCells z.cells n).toList,u.oneCell'=true:=by
 intro u hu;simp only [Builtin.zeroCells,ykb,ypb,ywb,y5a] at hu;obtain ⟨q,hq,rfl⟩:=hu;rcases ySa z.cells.size with h0|h0
 ·rw [h0] at hq;simp at hq
 ·rw [getElem!_pos z.cells _ (yTb _ h0)];exact h _ (by simp)
def Qi2 (l:List Resize) (i j:Int):List Resize:=l.take (i.toNat)++l.drop (j.toNat)
theorem QK8 (l:List Resize) (i j:Int) (hs0:l.length<=4294967296) (hp0:0<=i∧i<j∧j<=(l.length:Int)):AMoves Tryz.prog 197 [.own 0 0 5 0 l.length,I i,I j] [(0,.row 89 5 (l.map Resize.cells))] 0 (.own 0 0 5 0 (Qi2 l i j).length) [(0,.row 89 5 ((Qi2 l i j).map Resize.cells))]:=by
 intro K w vs hm hr;obtain ⟨sv,iv,jv,rfl⟩:∃ a b c,vs=[a,b,c]:=by
  have hl:=hr.1
  match vs,hl with
  | [a,b,c],_=>exact ⟨a,b,c,rfl⟩
 obtain ⟨i,rfl⟩:∃ q:Nat,i=(q:Int):=⟨i.toNat,by omega⟩;obtain ⟨j,rfl⟩:∃ q:Nat,j=(q:Int):=⟨j.toNat,by omega⟩;obtain rfl:=QZ0 (hr.2 1 _ _ rfl rfl);obtain rfl:=QZ0 (hr.2 2 _ _ rfl rfl);have hij:i<j:=by omega
 have hjn:j<=l.length:=by omega
 obtain ⟨ho,hv,hcase⟩:=Qv5 (hr.2 0 _ _ rfl rfl);rcases hcase with ⟨_,h0,_⟩|⟨a,c,rfl,hlc,hC,ha⟩
 ·omega
 have hc0:c ≠ 0:=by omega
 obtain rfl:=ha hc0;have hp:([(0,.row 89 5 (l.map Resize.cells))]:Objs)[0]? = some (0,.row 89 5 (l.map Resize.cells)):=rfl;obtain ⟨hel,hesC,_⟩:=hm.obj 0 _ hp;have hesC:(l.map Resize.cells).length<=K.C 0 0:=hesC;have hC0:K.C 0 0 ≠ 0:=by omega
 obtain ⟨cur,hrow,hs,hone,hcell⟩:=hm.rowBlock hp hC0;obtain ⟨fr,hfr,hg⟩:=hrow;obtain ⟨I0,z,hi0,hz,his,hib,hzs,hz1⟩:=resize_info;have hsz:c*5<=cur.size:=by omega
 have hl5:l.length*5<=cur.toList.length:=by simp;omega
 have seg:=rowSeg (c:=cur.toList) hel hone (fun i j e x he hx=>by obtain ⟨u,hu,hr⟩:=hcell i j e x he hx;exact ⟨u,by simpa using hu,hr⟩) (by simpa using hl5);have A:=seg 0 i (by simp;omega);have B:=seg j (l.length - j) (by simp;omega);have AB:=A.append B;refine (delete_w (K.ρ 0 0) l.length c i j w hij hjn hlc cur fr hg hfr hsz hone _ _ I0 z hi0 hz his hzs hz1 rfl rfl).mono ?_;rintro e w' ⟨rfl,rfl⟩;refine ⟨_,K,rfl,Qga (yna _),?_,?_⟩
 ·rw [setRow_setRow];have eL:(Qi2 l (i:Int) (j:Int)).map Resize.cells=((l.map Resize.cells).drop 0).take i++((l.map Resize.cells).drop j).take (l.length - j):=by
   unfold Qi2;simp only [yXa,yDb,List.map_take,List.map_drop,List.drop_zero];rw [List.take_of_length_le (i:=l.length - j) (by simp)]
  rw [← eL] at AB;have hlen:(List.take (i*5) cur.toList++List.take ((l.length - j)*5) (List.drop (j*5) cur.toList)).length=(i+(l.length - j))*5:=by
   simp only [yma,yAa,yEa,ybb];omega
  rw [yWb,List.drop_zero] at AB;have hl':((Qi2 l (i:Int) (j:Int)).map Resize.cells).length<=K.C 0 0:=by
   rw [eL];simp;omega
  refine hm.drew.put hp hC0 ⟨fr,hfr,hg⟩ hs AB hl' (Eq.trans (b:=_++(Builtin.zeroCells z.cells (j - i)).toList++_) rfl (by rw [List.take_left' hlen,ytb])) ?_ ?_
  ·simp only [ymb,yma,yAa,yEa,ybb,size_zeroCells,hzs,yAa];omega
  ·intro u hu;rcases List.mem_append.1 hu with hu|hu
   ·exact zeroCells_one hz1 _ u hu
   ·have hu:=yib hu;simp only [yOb] at hu;rcases hu with (hu|hu)|hu
    ·exact hone u (yjb hu)
    ·exact hone u (Q54 hu)
    ·exact hone u (yib hu)
 ·have e1:(Qi2 l (i:Int) (j:Int)).length=i+(l.length - j):=by
   unfold Qi2;simp;omega
  rw [e1];exact .own 0 0 5 0 _ ho hv _ c oA hC ha
end Go.Proofs.YtgnlcjenoaoffaaGreatDoor
namespace Go.Proofs.YtgnlcjenoaoffaaGreatDoor
set_option linter.unusedSimpArgs false
set_option linter.unusedVariables false
open Go.Fw
def ear (long n:Int):List Step->Int->Int × Bool
 | [],a=>(a,true)
 | x :: r,a =>
  bif decide (x.at_<w64 (a+long)) then
   bif decide (x.free >= n) then ear long n r a
   else match r with
    | []=>(0,false)
    | y :: _=>bif decide (y.at_<=a) then ear long n r a else bif decide (y.at_ > w64 (1000000 - long)) then (0,false) else ear long n r y.at_
  else (a,true)
theorem ear_cons (long n:Int) (x:Step) (r:List Step) (a:Int):ear long n (x :: r) a =
  (bif decide (x.at_<w64 (a+long)) then
   bif decide (x.free >= n) then ear long n r a
   else match r with
    | []=>(0,false)
    | y :: _=>bif decide (y.at_<=a) then ear long n r a else bif decide (y.at_ > w64 (1000000 - long)) then (0,false) else ear long n r y.at_
  else (a,true)):=by rw [ear.eq_def]
end Go.Proofs.YtgnlcjenoaoffaaGreatDoor
namespace Go.Proofs.YtgnlcjenoaoffaaGreatDoor
set_option linter.unusedSimpArgs false
set_option linter.unusedVariables false
open Go.Shelf Go.Sort Go.RowKit
def srtRen:Ren :=
 {f:=fun x=>match x with
   | 189=>244
   | 125=>261
   | 257=>260
   | 128=>277
   | 129=>278
   | 294=>268
   | 295=>269
   | 296=>270
   | 297=>271
   | 298=>272
   | 299=>273
   | 216=>274
   | 300=>275
   | 301=>276
   | 328=>293
   | 329=>294
   | 330=>295
   | 331=>296
   | 332=>297
   | 215=>287
   | 343=>311
   | n=>n
  t:=fun x=>match x with
   | 28=>43
   | 3=>3
   | 46=>191
   | 0=>0
   | 51=>309
   | 53=>53
   | 4=>4
   | 183=>303
   | 182=>302
   | 131=>127
   | 5=>5
   | 9=>9
   | 218=>326
   | 222=>330
   | 228=>346
   | 229=>347
   | n=>n
  g:=fun x=>x }
theorem srtLays:Lays.n189 Tryz.prog srtRen where
 mixed:=by kernel_rfl
 f125:=Tryz.func261.trans (by kernel_rfl)
 f128:=Tryz.func277.trans (by kernel_rfl)
 f129:=Tryz.func278.trans (by kernel_rfl)
 f189:=Tryz.func244.trans (by kernel_rfl)
 f215:=Tryz.func287.trans (by kernel_rfl)
 f216:=Tryz.func274.trans (by kernel_rfl)
 f257:=Tryz.func260.trans (by kernel_rfl)
 f294:=Tryz.func268.trans (by kernel_rfl)
 f295:=Tryz.func269.trans (by kernel_rfl)
 f296:=Tryz.func270.trans (by kernel_rfl)
 f297:=Tryz.func271.trans (by kernel_rfl)
 f298:=Tryz.func272.trans (by kernel_rfl)
 f299:=Tryz.func273.trans (by kernel_rfl)
 f300:=Tryz.func275.trans (by kernel_rfl)
 f301:=Tryz.func276.trans (by kernel_rfl)
 f328:=Tryz.func293.trans (by kernel_rfl)
 f329:=Tryz.func294.trans (by kernel_rfl)
 f330:=Tryz.func295.trans (by kernel_rfl)
 f331:=Tryz.func296.trans (by kernel_rfl)
 f332:=Tryz.func297.trans (by kernel_rfl)
 f343:=Tryz.func311.trans (by kernel_rfl)
 t0:=Tryz.underlying0
 a0:=Tryz.isAgg0
 z0:=Tryz.sizeOf0
 v0:=Tryz.zeroValue0
 t3:=Tryz.underlying3
 a3:=Tryz.isAgg3
 z3:=Tryz.sizeOf3
 v3:=Tryz.zeroValue3
 t4:=Tryz.underlying4
 a4:=Tryz.isAgg4
 z4:=Tryz.sizeOf4
 v4:=Tryz.zeroValue4
 t5:=Tryz.underlying5
 a5:=Tryz.isAgg5
 z5:=Tryz.sizeOf5
 v5:=Tryz.zeroValue5
 t9:=Tryz.underlying9
 a9:=Tryz.isAgg9
 z9:=Tryz.sizeOf9
 v9:=Tryz.zeroValue9
 t28:=Tryz.underlying43
 a28:=Tryz.isAgg43
 z28:=Tryz.sizeOf43
 v28:=Tryz.zeroValue43
 t46:=Tryz.underlying191
 a46:=Tryz.isAgg191
 z46:=Tryz.sizeOf191
 v46:=Tryz.zeroValue191
 t51:=Tryz.underlying309
 a51:=Tryz.isAgg309
 z51:=Tryz.sizeOf309
 v51:=Tryz.zeroValue309
 t53:=Tryz.underlying53
 a53:=Tryz.isAgg53
 z53:=Tryz.sizeOf53
 v53:=Tryz.zeroValue53
 t131:=Tryz.underlying127
 a131:=Tryz.isAgg127
 z131:=Tryz.sizeOf127
 v131:=Tryz.zeroValue127
 t182:=Tryz.underlying302
 a182:=Tryz.isAgg302
 z182:=Tryz.sizeOf302
 v182:=Tryz.zeroValue302
 t183:=Tryz.underlying303
 a183:=Tryz.isAgg303
 z183:=Tryz.sizeOf303
 v183:=Tryz.zeroValue303
 t218:=Tryz.underlying326
 a218:=Tryz.isAgg326
 z218:=Tryz.sizeOf326
 v218:=Tryz.zeroValue326
 t222:=Tryz.underlying330
 a222:=Tryz.isAgg330
 z222:=Tryz.sizeOf330
 v222:=Tryz.zeroValue330
 t228:=Tryz.underlying346
 a228:=Tryz.isAgg346
 z228:=Tryz.sizeOf346
 v228:=Tryz.zeroValue346
 t229:=Tryz.underlying347
 a229:=Tryz.isAgg347
 z229:=Tryz.sizeOf347
 v229:=Tryz.zeroValue347
end Go.Proofs.YtgnlcjenoaoffaaGreatDoor
namespace Go.Proofs.YtgnlcjenoaoffaaGreatDoor
set_option linter.unusedSimpArgs false
set_option linter.unusedVariables false
open Go.Fw Go.RowKit
section
variable {K:Ctx} {objs:Objs}
theorem MemSat.grown (os:List Obj):∀ {w:World},MemSat K objs w->MemSat K objs (Go.Sort.grow w os.toArray):=by
 induction os with
 | nil=>intro w h;simpa [Go.Sort.grow] using h
 | cons x r ih =>
  intro w h;have:=ih (h.junk x);rw [Go.Sort.alloc_eq_grow,Go.Sort.grow_grow] at this;simpa using this
end
def insI (x:Int):List Int->List Int
 | []=>[x]
 | y :: r=>bif decide (y<x) then y :: insI x r else x :: y :: r
def sorted (l:List Int):List Int:=l.foldr insI []
theorem Qce (x:Int):∀ o,(insI x o).Perm (x :: o)
 | []=>.refl _
 | y :: r=>by
  unfold insI;cases decide (y<x) with
  | true=>exact ((Qce x r).cons y).trans (.swap x y r)
  | false=>exact .refl _
theorem Qde (x:Int):∀ o,o.Pairwise (fun a b=>a<=b)->(insI x o).Pairwise fun a b=>a<=b
 | [],_=>List.pairwise_singleton _ _
 | y :: r,h=>by
  obtain ⟨h1,h2⟩:=List.pairwise_cons.1 h;unfold insI;cases ha:decide (y<x) with
  | true =>
   have ha:=yca ha;refine List.pairwise_cons.2 ⟨fun z hz=>?_,Qde x r h2⟩;rcases List.mem_cons.1 ((Qce x r).mem_iff.1 hz) with rfl|hz
   ·omega
   ·exact h1 z hz
  | false =>
   have ha:=yja ha;refine List.pairwise_cons.2 ⟨fun z hz=>?_,h⟩;rcases List.mem_cons.1 hz with rfl|hz
   ·omega
   ·have:=h1 z hz;omega
theorem QRa:∀ l:List Int,(sorted l).Perm l
 | []=>.refl _
 | x :: r=>(Qce x _).trans ((QRa r).cons x)
theorem sorted_pw:∀ l:List Int,(sorted l).Pairwise fun a b=>a<=b
 | []=>.nil
 | x :: r=>Qde x _ (sorted_pw r)
theorem sorted_merge (l:List Int):l.mergeSort (fun x y=>decide (x<=y))=sorted l :=
 List.Perm.eq_of_pairwise (le:=fun x y=>x<=y) (fun a b _ _ h1 h2=>Int.le_antisymm h1 h2)
  ((List.pairwise_mergeSort (fun a b c h1 h2=>by simp at *;omega) (fun a b=>by simp;omega) l).imp fun h=>by simpa using h) (sorted_pw l) ((List.mergeSort_perm l _).trans (QRa l).symm)
@[simp] theorem sorted_len (l:List Int):(sorted l).length=l.length:=(QRa l).length_eq
theorem putRow_setRow {w:World} {g:Nat} {c:Array Value} {t:TypeId} {fr:Nat × Nat} (hb:w.heap[g]? = some (.cells c t fr)) (d:Array Int):Go.Sort.putRow (Value.int .i64) w g 0 d=w.setRow g (Go.Sort.putCells (Value.int .i64) 0 d c):=by
 unfold Go.Sort.putRow Go.Sort.mapBlock World.setRow
 congr 1
 apply yJb;intro i;simp only [yKb]
 by_cases hi:g=i
 ·subst hi;simp [hb,Go.Sort.onCells]
 ·simp [hi]
theorem slices_Sort_c (l:List Int) (hl:l.length<=4294967296) (h0:l ≠ []):AMoves Tryz.prog 244 [.own 0 0 1 0 l.length] [(0,.row 3 1 (l.map fun q_=>[I q_]))] 1 (.tup []) [(0,.row 3 1 ((sorted l).map fun q_=>[I q_]))]:=by
 intro K w vs hm hr;have hp0:([(0,.row 3 1 (l.map fun q_=>[I q_]))]:Objs)[0]? = some (0,.row 3 1 (l.map fun q_=>[I q_])):=rfl;have hlen:l.length ≠ 0:=by simpa using h0
 obtain ⟨v,rfl⟩:∃ v,vs=[v]:=List.length_eq_one_iff.1 hr.1;obtain ⟨_,_,hcase⟩:=Qv5 (hr.2 0 _ _ rfl rfl);rcases hcase with ⟨_,q,_⟩|⟨a,cap,rfl,q1,q2,q3⟩
 ·exact absurd q hlen
 have ha:=q3 oA;simp only [yWb] at ha;subst ha;obtain ⟨g1,g2,g3⟩:=hm.obj 0 _ hp0;have hC:K.C 0 0 ≠ 0:=by simp at g2;omega
 obtain ⟨cur,⟨fr,hfr,hbk⟩,hs,h1,hcr⟩:=g3 hC;have hblk:=(hm.lo 0 _ hp0 rfl hC).2.1;have hsz:l.length<=cur.size:=by
  have e:cur.size=K.C 0 0*1:=hs;simp at g2;omega
 have hcell:∀ (j:Nat) (n:Int),l[j]? = some n->cur[j]? = some (Value.int .i64 n):=by
  intro j n hj;obtain ⟨u,hu,hru⟩:=hcr j 0 [I n] (I n) (by rw [yra,hj];rfl) rfl;have e:=QZ0 hru;subst e;rw [show j*1+0=j by omega] at hu;exact hu
 have hH:Go.Sort.Holds (Value.int .i64) w (K.ρ 0 0) 0 l.toArray:=by
  intro j hj;have hj':j<l.length:=by simpa using hj
  refine ⟨?_,?_⟩
  ·simp only [World.cell?,hbk,yda];have e:l[j]? = some (l[j]'hj'):=yba hj';have:=hcell j _ e;rw [this]
   congr 2
   rw [getElem!_pos l.toArray j hj];simp
  ·have hj2:=hfr j oA;obtain ⟨lo,hi'⟩:=fr;simp only at hj2;simp only [World.frozen?,hbk,yda,yFb,yua,y3a];intro h1 h2;exact hj2 ⟨h1,h2⟩
 have hc:=Any.slices_Sort_int srtLays (K.ρ 0 0) 0 cap l w hH hblk oA;rw [sorted_merge] at hc;refine hc.mono ?_;rintro e w' ⟨rfl,n,os,rfl⟩;have hmd:=hm.drawn (w.drawn+n);have hbk':(Go.Sort.ahead w n).heap[K.ρ 0 0]? = some (.cells cur 3 fr):=hbk;have hsl:(sorted l).length=l.length:=sorted_len l
 have hmr:=hmd.setRow hp0 hC cur (Go.Sort.putCells (Value.int .i64) 0 (sorted l).toArray cur) ⟨fr,hfr,hbk⟩ (by simp [Go.Sort.putCells]) (fun u hu=>by
   simp only [Go.Sort.putCells,Array.mem_toList_iff,Array.mem_mapIdx] at hu;obtain ⟨i,hi,rfl⟩:=hu;split
   ·rfl
   ·exact h1 _ (Array.mem_toList_iff.2 (Array.getElem_mem hi))) ((sorted l).map fun q_=>[I q_]) (by simp at g2 ⊢;omega) (by simp) (fun i j e x he hx=>by
   rw [yra] at he;obtain ⟨q,hq,rfl⟩:=Option.map_eq_some_iff.1 he;have hi:i<(sorted l).length:=(List.getElem?_eq_some_iff.1 hq).1;cases j with
   | succ j=>simp at hx
   | zero =>
    simp only [yab,yaa] at hx;subst hx;refine ⟨Value.int .i64 q,?_,.lit _⟩;have hic:i<cur.size:=by omega
    have e:(sorted l).toArray[i]! = q:=by
     rw [getElem!_pos _ i (by simpa using hi)];simpa using (List.getElem?_eq_some_iff.1 hq).2
    simp only [Nat.mul_one,yhb,Go.Sort.putCells,Array.getElem?_mapIdx,ysa hic,yBa,yna,yGb,true_and,yda,ymb]
    rw [if_pos hi,e])
 rw [putRow_setRow hbk'];have hmg:=MemSat.grown os.toList hmr;exact ⟨_,K,rfl,Qga (by rw [← hm.len];simp),hmg,.tup _ _ rfl (by intro i x v hx;simp at hx)⟩
end Go.Proofs.YtgnlcjenoaoffaaGreatDoor
namespace Go.Fw
set_option linter.unusedSimpArgs false
set_option linter.unusedVariables false
theorem scope_dup {P:Program} {nt n0:Nat} {keep:Nat->Bool} {c rest:Code} {l:Nat} {s0:List (Nat × AVal)} {o0:Objs} {R:CQ} (hf:findLabel c l=some rest)
  (h:cwp P nt n0 keep c (fun e s o=>match e with | .goto l'=>l'=l∧cwp P nt n0 keep rest (fun e s o=>match e with | .goto _=>False|e=>R e s o) s o|e=>R e s o) s0 o0) :
  ∃ R':CQ,Qn9 P nt n0 (.scope c) (fun e t=>R' e t.slots t.objs) ⟨s0,o0⟩ ∧ ∀ e s o,R' e s o->R e s o:=by
 refine ⟨R,?_,fun _ _ _ h=>h⟩;intro K0 K a w hn hle hs;refine wp_scope_jumps l (fun a w=>∃ K s o,K0.le K∧Sat nt K ⟨s,o⟩ a w∧cwp P nt n0 keep rest (fun e s o=>match e with | .goto _=>False|e=>R e s o) s o) (fun _ _=>0) hf ?_ ?_
 ·refine wp_mono (Qp7 c _ ⟨s0,o0⟩ K0 K a w hn hle hs (QJ8 c _ s0 o0 h)) ?_;rintro e a' w' ⟨e',K',s',rfl,hle',hs',hq⟩;cases e' with
  | normal=>exact ⟨.normal,K',s',rfl,hle',hs',hq⟩
  | exit i=>exact ⟨.exit i,K',s',rfl,hle',hs',hq⟩
  | ret=>exact ⟨.ret,K',s',rfl,hle',hs',hq⟩
  | goto l' =>
   obtain ⟨rfl,hj⟩:=hq;exact ⟨rfl,K',s'.slots,s'.objs,hle',hs',hj⟩
 ·rintro a w ⟨K1,s1,o1,hle1,hs1,hj⟩;refine wp_mono (Qp7 rest _ ⟨s1,o1⟩ K0 K1 a w hn hle1 hs1 (QJ8 rest _ s1 o1 hj)) ?_;rintro e a' w' ⟨e',K',s',rfl,hle',hs',hq⟩;cases e' with
  | normal=>exact ⟨.normal,K',s',rfl,hle',hs',hq⟩
  | exit i=>exact ⟨.exit i,K',s',rfl,hle',hs',hq⟩
  | ret=>exact ⟨.ret,K',s',rfl,hle',hs',hq⟩
  | goto l'=>exact hq.elim
end Go.Fw
