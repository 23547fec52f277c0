/-
  Regions that draw their order, second part: whatever the order, the end is the trace's end.
  A function's text: 'awp', its soundness; how a function is entered and left; the frame: a contract over no objects serves over all.
-/
import Derived.Test.YtgnlcjenoaoffaaGreatDoorRH3
import Derived.Tactics
import Derived.Scope
import Derived.RangeFuncLeaves
import Derived.RangeFuncRecord
namespace Go.Fw
set_option linter.unusedSimpArgs false
set_option linter.unusedVariables false
open Go.RowKit
section
variable {P:Program} {nt:Nat} {ops:Array Oper} {slots:List (Nat × AVal)} {tr:Nat->RSt}
theorem getO {i:Nat} (h:i<ops.size):∃ o,ops[i]? = some o:=⟨_,ysa h⟩
theorem Trace.inv (ht:Trace P nt ops slots tr):∀ i,i<=ops.size->TInv ops tr i
 | 0,_=>by
  refine ⟨fun t e h=>?_,fun j o d h=>absurd h oA,fun g b h=>?_,fun t g v h=>?_,fun j k o o' d h=>absurd h oA,by rw [ht.loc0];trivial⟩
  ·rw [ht.loc0] at h;simp [findL] at h
  ·rw [ht.G0] at h;simp [findG] at h
  ·rw [ht.loc0] at h;simp [findL] at h
 | i+1,hi=>by
  have ih:=Trace.inv ht i oA;obtain ⟨o,ho⟩:=getO (ops:=ops) (i:=i) oA;obtain ⟨gb,rs1,v,hg,hp,_,_⟩:=ht.step i o ho;obtain ⟨h1,h2,h3,h4,h5,h6⟩:=QA9 ih hg;obtain ⟨_,hG,hcase⟩:=QN9 hp;simp only at hG;have tagUp:∀ t g v,findL (tr i).loc t=some (some g,v)->(findG (tr (i+1)).G g).isSome=true:=by
   intro t g v hf;obtain ⟨b,hb⟩:=Option.isSome_iff_exists.1 (ih.tag t g v hf);rw [hG,h5 g b hb];rfl
  have relUp:∀ g b,findG (tr (i+1)).G g=some b->(∀ t e,findL rs1.loc t=some e->findL (tr (i+1)).loc t=some e)->GRel ops (tr (i+1)) g b:=by
   intro g b hgb hup;rw [hG] at hgb;obtain ⟨o',d,bb,q1,q2,q3,q4,q5⟩:=h6 g b hgb;exact ⟨o',d,bb,q1,q2,hup _ _ q3,q4,fun h hh=>by obtain ⟨hb,q6,q7⟩:=q5 h hh;exact ⟨hb,by rw [hG];exact q6,q7⟩⟩
  rcases hcase with ⟨hd,hloc⟩|⟨d,hd,hlt,hnone,hloc⟩
  ·simp only at hloc;rw [h1] at hloc;refine ⟨fun t e h=>?_,fun j o' d hj ho' hd'=>?_,fun g b h=>relUp g b h (fun t e he=>by rw [hloc,← h1];exact he),fun t g v h=>tagUp t g v (by rw [hloc] at h;exact h),fun j k o1 o2 d hj hk ho1 ho2 hd1 hd2=>?_,by rw [hloc];exact ih.uniq⟩
   ·rw [hloc] at h;obtain ⟨j,o',hj,r⟩:=ih.who t e h;exact ⟨j,o',by omega,r⟩
   ·rw [hloc];rcases yGa j i with h'|h'
    ·exact ih.has j o' d h' ho' hd'
    ·have:j=i:=by omega
     subst this;rw [ho] at ho';simp only [yaa] at ho';subst ho';rw [hd] at hd';cases hd'
   ·have key:∀ j o1,j<i+1->ops[j]? = some o1->o1.dst=some d->j<i:=by
     intro j o1 hj ho1 hd1;rcases yGa j i with h'|h'
     ·exact h'
     ·have:j=i:=by omega
      subst this;rw [ho] at ho1;simp only [yaa] at ho1;subst ho1;rw [hd] at hd1;cases hd1
    exact ih.one j k o1 o2 d (key j o1 hj ho1 hd1) (key k o2 hk ho2 hd2) ho1 ho2 hd1 hd2
  ·simp only at hloc hnone;rw [h1] at hloc hnone;have fresh:∀ j o',j<i->ops[j]? = some o'->o'.dst=some d->False:=by
    intro j o' hj ho' hd';have:=ih.has j o' d hj ho' hd';rw [hnone] at this;cases this
   refine ⟨fun t e h=>?_,fun j o' d' hj ho' hd'=>?_,fun g b h=>relUp g b h (fun t e he=>?_),fun t g v' h=>?_,fun j k o1 o2 d' hj hk ho1 ho2 hd1 hd2=>?_,by rw [hloc];exact ⟨hnone,ih.uniq⟩⟩
   ·rw [hloc,QK2] at h;split at h
    ·rename_i he;subst he;simp only [yaa] at h;subst h;exact ⟨i,o,by omega,ho,hd,rfl⟩
    ·obtain ⟨j,o',hj,r⟩:=ih.who t e h;exact ⟨j,o',by omega,r⟩
   ·rw [hloc,QK2];split
    ·rfl
    ·rename_i hne;rcases yGa j i with h'|h'
     ·exact ih.has j o' d' h' ho' hd'
     ·have:j=i:=by omega
      subst this;rw [ho] at ho';simp only [yaa] at ho';subst ho';rw [hd] at hd';simp only [yaa] at hd';exact absurd hd' hne
   ·rw [hloc,QK2];rw [h1] at he;split
    ·rename_i heq;subst heq;rw [hnone] at he;cases he
    ·exact he
   ·rw [hloc,QK2] at h;split at h
    ·simp only [yaa,yDa] at h;rw [hG,h3 g h.1];rfl
    ·exact tagUp t g v' h
   ·have key:∀ j o1,j<i+1->ops[j]? = some o1->o1.dst=some d'->j<i∨(j=i∧d'=d):=by
     intro j o1 hj ho1 hd1;rcases yGa j i with h'|h'
     ·exact .inl h'
     ·have:j=i:=by omega
      subst this;rw [ho] at ho1;simp only [yaa] at ho1;subst ho1;rw [hd] at hd1;simp only [yaa] at hd1;exact .inr ⟨rfl,hd1.symm⟩
    rcases key j o1 hj ho1 hd1 with hj'|⟨hj',hdd⟩ <;> rcases key k o2 hk ho2 hd2 with hk'|⟨hk',hdd'⟩
    ·exact ih.one j k o1 o2 d' hj' hk' ho1 ho2 hd1 hd2
    ·exact (fresh j o1 hj' ho1 (by rw [← hdd'];exact hd1)).elim
    ·exact (fresh k o2 hk' ho2 (by rw [← hdd];exact hd2)).elim
    ·omega
theorem Trace.keepOne (ht:Trace P nt ops slots tr) {i:Nat} (hi:i<ops.size):(∀ t e,findL (tr i).loc t=some e->findL (tr (i+1)).loc t=some e)∧(∀ g b,findG (tr i).G g=some b->findG (tr (i+1)).G g=some b):=by
 obtain ⟨o,ho⟩:=getO hi;obtain ⟨gb,rs1,v,hg,hp,_,_⟩:=ht.step i o ho;obtain ⟨h1,h2,h3,h4,h5,h6⟩:=QA9 (ht.inv i oA) hg;obtain ⟨_,hG,hcase⟩:=QN9 hp;simp only at hG;refine ⟨fun t e he=>?_,fun g b hgb=>by rw [hG];exact h5 g b hgb⟩;rcases hcase with ⟨_,hloc⟩|⟨d,_,_,hnone,hloc⟩
 ·simp only at hloc;rw [hloc,h1];exact he
 ·simp only at hloc hnone;rw [hloc,QK2];rw [h1] at hnone ⊢;split
  ·rename_i heq;subst heq;rw [hnone] at he;cases he
  ·exact he
theorem Trace.keep (ht:Trace P nt ops slots tr) {i:Nat}:∀ j,i<=j->j<=ops.size->(∀ t e,findL (tr i).loc t=some e->findL (tr j).loc t=some e)∧(∀ g b,findG (tr i).G g=some b->findG (tr j).G g=some b):=by
 intro j
 induction j with
 | zero =>
  intro h _;have:i=0:=by omega
  subst this;exact ⟨fun _ _ h=>h,fun _ _ h=>h⟩
 | succ j ih =>
  intro h hj;rcases yGa j i with h'|h'
  ·have:i=j+1:=by omega
   subst this;exact ⟨fun _ _ h=>h,fun _ _ h=>h⟩
  ·obtain ⟨a,b⟩:=ih h' oA;obtain ⟨c,d⟩:=ht.keepOne (i:=j) oA;exact ⟨fun t e he=>c t e (a t e he),fun g x hx=>d g x (b g x hx)⟩
theorem Trace.objs (ht:Trace P nt ops slots tr) {i:Nat}:∀ j,i<=j->j<=ops.size->(∀ k,i<=k->k<j->effAt ops (masks ops) k=false)->(tr j).objs=(tr i).objs:=by
 intro j
 induction j with
 | zero =>
  intro h _ _;have:i=0:=by omega
  subst this
  rfl
 | succ j ih =>
  intro h hj hk;rcases yGa j i with h'|h'
  ·have:i=j+1:=by omega
   subst this
   rfl
  ·obtain ⟨o,ho⟩:=getO (ops:=ops) (i:=j) oA;obtain ⟨gb,rs1,v,hg,hp,_,hn⟩:=ht.step j o ho;rw [(hn (hk j h' oA)).1];exact ih h' oA (fun k h1 h2=>hk k h1 oA)
structure DInv (nt:Nat) (ops:Array Oper) (slots:List (Nat × AVal)) (tr:Nat->RSt) (K0:Ctx) (S:Nat->Bool) (a:Act) (w:World):Prop where
 closed:Closed ops S
 size:a.tmps.size=nt
 mem:∃ (K:Ctx) (p:Nat),K0.le K∧Marks K a.defers∧p<=ops.size∧MemSat K (tr p).objs w∧(∀ j,effAt ops (masks ops) j=true->(S j=true ↔ j<p)) ∧
  (∀ j o d tg v,ops[j]? = some o->o.dst=some d->S j=true->findL (tr ops.size).loc d=some (tg,v) ->
   match tg with|none=>Rep K v (a.tmps.getD d undef)|some g=>∃ b,findG (tr ops.size).G g=some b∧(b=true->Rep K v (a.tmps.getD d undef))∧(b=false->a.tmps.getD d undef=undef)) ∧
  (∀ t,(∀ j o,ops[j]? = some o->o.dst=some t->S j=false)->Rep K (Q71 slots t) (a.tmps.getD t undef))
theorem Q6b (h:QU2 ops (masks ops)=true) {i j:Nat} (hij:i<j) (hj:j<ops.size) (ei:effAt ops (masks ops) i=true) (ej:effAt ops (masks ops) j=true):bit (masks ops) j i=true:=by
 simp only [QU2,yha,y7a,y5a] at h;have:=h.1.2 i oA j hj;simp only [yQa,ydb,yFb] at this;rcases this with h|h
 ·have hb:Nat.blt i j=true:=by simpa using hij
  simp [hb,ei,ej] at h
 ·exact h
theorem Qja (h:QU2 ops (masks ops)=true) {i j:Nat} {o o':Oper} {t:Tmp} (ho:ops[i]? = some o) (ho':ops[j]? = some o') (ht:t ∈ o.looksAt ops) (hd:o'.dst=some t) (hne:i ≠ j) :
  (j<i->bit (masks ops) i j=true)∧(i<j->bit (masks ops) j i=true):=by
 simp only [QU2,yha,y7a,y5a] at h;have h2:=h.2 i (Array.getElem?_eq_some_iff.1 ho).1;simp only [ho,looks,y7a,y5a] at h2;have h3:=h2 t ht j (Array.getElem?_eq_some_iff.1 ho').1;simp only [ho',hd,Nat.beq_refl,yHb,Bool.false_or] at h3;have hb:Nat.beq i j=false:=by
  cases hb:Nat.beq i j with
  | false=>rfl
  | true=>exact absurd (yla hb) hne
 rw [hb] at h3;simp only [Bool.false_or] at h3;constructor
 ·intro hlt;have:Nat.blt j i=true:=by simpa using hlt
  rw [this] at h3;exact h3
 ·intro hlt;have:Nat.blt j i=false:=by
   cases hb:Nat.blt j i with
   | false=>rfl
   | true=>simp at hb;omega
  rw [this] at h3;exact h3
theorem QP8 {rs:RSt} (hG:∀ g b,findG rs.G g=some b->GRel ops rs g b):∀ (n:Nat) (c g:Tag),Qe5 ops n (some c) g=true->findG rs.G c=some true->findG rs.G g=some true
 | 0,c,g,hi,_=>by simp [Qe5] at hi
 | n+1,c,g,hi,hc=>by
  simp only [Qe5,yQa] at hi;rcases hi with hi|hi
  ·rw [tagEq_iff] at hi;subst hi;exact hc
  ·obtain ⟨o,d,bb,ho,hd,_,_,hg⟩:=hG c true hc;simp only [ho] at hi;cases hog:o.guard with
   | none=>rw [hog] at hi;cases n <;> simp [Qe5] at hi
   | some c' =>
    rw [hog] at hi;obtain ⟨hb,h1,h2⟩:=hg c' hog;refine QP8 hG n c' g hi ?_;have:hb=true:=by cases hb with|true=>rfl|false=>simp at h2
    rw [h1,this]
structure AtOp (slots:List (Nat × AVal)) (loc:Loc) (G:Gs) (K:Ctx) (a:Act) (t:Tmp):Prop where
 plain:∀ v,findL loc t=some (none,v)->Rep K v (a.tmps.getD t undef)
 tagged:∀ g v,findL loc t=some (some g,v) -> ∃ b,findG G g=some b∧(b=true->Rep K v (a.tmps.getD t undef))∧(b=false->a.tmps.getD t undef=undef)
 outer:findL loc t=none->Rep K (Q71 slots t) (a.tmps.getD t undef)
theorem QX8 {rs:RSt} {K:Ctx} {a:Act} (hG:∀ g b,findG rs.G g=some b->GRel ops rs g b) (cur:Option Tag) (hc:∀ c,cur=some c->findG rs.G c=some true) (x:Operand) (hx:∀ t,x = .tmp t->AtOp slots rs.loc rs.G K a t) :
  Rep K (lookR ops slots rs.loc cur x) (a.eval x):=by
 cases x with
 | const v=>exact .lit v
 | global g=>exact .any _
 | func f=>exact .fn (.func f) [] [] [] [] rfl rfl (fun i x v h=>by simp at h) (fun i x v h=>by simp at h)
 | tmp t =>
  have h:=hx t rfl;simp only [lookR,Act.eval];split
  ·rename_i v hf;exact h.plain v hf
  ·rename_i g v hf;cases hi:Qe5 ops 16 cur g with
   | false=>exact .any _
   | true =>
    simp only [cond_true];cases cur with
    | none=>simp [Qe5] at hi
    | some c =>
     have:=QP8 hG 16 c g hi (hc c rfl);obtain ⟨b,hb,h1,_⟩:=h.tagged g v hf;rw [this] at hb;simp only [yaa] at hb;exact h1 hb.symm
  ·rename_i hf;exact h.outer hf
theorem pick_at {rs:RSt} {K:Ctx} {a:Act} {w:World} {objs:Objs} (hG:∀ g b,findG rs.G g=some b->GRel ops rs g b) (cur:Option Tag) (hc:∀ c,cur=some c->findG rs.G c=some true) {c x y:Operand} {v:AVal}
  (hc':∀ t,c = .tmp t->AtOp slots rs.loc rs.G K a t) (hx:∀ t,x = .tmp t->AtOp slots rs.loc rs.G K a t) (hy:∀ t,y = .tmp t->AtOp slots rs.loc rs.G K a t)
  (hp:pickA ops slots ⟨rs.loc,rs.G,objs⟩ cur c x y=some v) {o:Oper} (ho:o.op = .pick c x y):∃ u,(execOp a.eval o).run P w = .ok (.value u) w∧Rep K v u:=by
 unfold pickA at hp;split at hp
 ·rename_i tc;split at hp
  ·rename_i b q hb hq;have hcb:=QZ0 (hb ▸ QX8 hG cur hc (.tmp tc) hc');have guard:∀ (want:Bool),b=want -> ∀ j b',defOf ops tc=some j->findG rs.G (j,want)=some b'->b'=true:=by
    intro want hw j b' hj hGj;obtain ⟨o',ho',hd'⟩:=defOf_some hj;obtain ⟨o2,d2,bb,r1,r2,r3,r4,r5⟩:=hG _ _ hGj;simp only at r1;rw [ho'] at r1;simp only [yaa] at r1;subst r1;rw [hd'] at r2;simp only [yaa] at r2;subst r2;simp only [lookR,r3] at hb;cases hog:o'.guard with
    | none =>
     rw [hog] at hb;simp only [AVal.lit.injEq,Value.bool.injEq] at hb;rw [r4 hog,hb,hw];cases want <;> rfl
    | some h =>
     rw [hog] at hb;simp only at hb;obtain ⟨hb',r6,r7⟩:=r5 h hog;cases hi:Qe5 ops 16 cur h with
     | false=>rw [hi] at hb;cases hb
     | true =>
      rw [hi] at hb;simp only [cond_true,AVal.lit.injEq,Value.bool.injEq] at hb;cases cur with
      | none=>simp [Qe5] at hi
      | some c0 =>
       have:=QP8 hG 16 c0 h hi (hc c0 rfl);rw [r6] at this;simp only [yaa] at this;rw [r7,this,hb,hw];cases want <;> rfl
   have arm:∀ (want:Bool) (z:Operand),b=want->(∀ t,z = .tmp t->AtOp slots rs.loc rs.G K a t)->Rep K (armA ops slots rs.loc cur (defOf ops tc) want z) (a.eval z):=by
    intro want z hw hz;cases z with
    | tmp t =>
     simp only [armA];split
     ·rename_i g v' j hf hj;cases ht:tagEq g (j,want) with
      | false=>exact QX8 hG cur hc (.tmp t) hz
      | true =>
       have:=tagEq_iff.1 ht;subst this;simp only [cond_true];obtain ⟨b',hb',h1,_⟩:=(hz t rfl).tagged _ v' hf;exact h1 (guard want hw j b' hj hb')
     ·exact QX8 hG cur hc (.tmp t) hz
    | const v=>exact QX8 hG cur hc (.const v) hz
    | global g=>exact QX8 hG cur hc (.global g) hz
    | func f=>exact QX8 hG cur hc (.func f) hz
   have run:∀ u,(if b=true then a.eval x else a.eval y)=u->(execOp a.eval o).run P w = .ok (.value u) w:=by
    intro u hu;subst hu;simp only [execOp,ho,hcb,asBool,yqa,yta,yga]
   split at hp
   ·split at hp
    ·rename_i v' hv';simp only [yaa] at hp;subst hp;refine ⟨_,run _ rfl,?_⟩;cases b with
     | true=>simp only [if_true,Bool.true_or];exact .lit _
     | false =>
      simp only [y1a,if_false,Bool.false_or];rw [← hv'];exact arm false _ rfl hy
    ·cases hp
   ·split at hp
    ·rename_i u' hu';simp only [yaa] at hp;subst hp;refine ⟨_,run _ rfl,?_⟩;cases b with
     | true =>
      simp only [if_true,y5b];rw [← hu'];exact arm true _ rfl hx
     | false=>simp only [y1a,if_false,y1b];exact .lit _
    ·cases hp
   ·cases hp
  ·cases hp
 ·cases hp
theorem DInv.step {K0:Ctx} {S:Nat->Bool} {a:Act} {w:World} {i:Nat} {o:Oper} {Q:Exit->Act->World->Prop} (ht:Trace P nt ops slots tr) (hck:QU2 ops (masks ops)=true) (h:DInv nt ops slots tr K0 S a w)
  (ho:ops[i]? = some o) (hSi:S i=false) (hready:∀ e ∈ o.after,Region.binds .any e=true->S e.on=true) :
  if Region.wanted o (yielded ops a.tmps) then o.wp P a w (DInv nt ops slots tr K0 (fun k=>S k||Nat.beq k i)) Q∨(o.asks P a w∧LetsOut Q) else DInv nt ops slots tr K0 (fun k=>S k||Nat.beq k i) (a.put o.dst undef) w:=by
 have hi:i<ops.size:=(Array.getElem?_eq_some_iff.1 ho).1;obtain ⟨K,p,hK,hmk,hp,hm,heff,hin,hout⟩:=h.mem;have ti:=ht.inv i oA;have tn:=ht.inv ops.size (yia _);obtain ⟨gb,rs1,v,hg,hput,hE,hN⟩:=ht.step i o ho;obtain ⟨h1,h2,h3,h4,h5,h6⟩:=QA9 ti hg;obtain ⟨hobj,hG1,hcase⟩:=QN9 hput;simp only at hG1;have Gup:∀ g b,findG rs1.G g=some b->findG (tr ops.size).G g=some b:=fun g b hb=>(ht.keep (i:=i+1) ops.size oA (yia _)).2 g b (by rw [hG1];exact hb)
 have Lup:∀ t e,findL (tr i).loc t=some e->findL (tr ops.size).loc t=some e:=(ht.keep (i:=i) ops.size oA (yia _)).1;have before:∀ j,bit (masks ops) i j=true->j ≠ i->S j=true:=fun j hj hne=>(bit_ready h.closed ho hready (fun _=>trivial) hj).resolve_right hne
 have after':∀ j,bit (masks ops) j i=true->S j=false:=by
  intro j hj;cases hS:S j with
  | false=>rfl
  | true=>have:=bit_closed h.closed hS hj;rw [hSi] at this;cases this
 have look:∀ t,t ∈ o.looksAt ops->AtOp slots rs1.loc rs1.G K a t:=by
  intro t htl;have wr:∀ e,findL rs1.loc t=some e -> ∃ j o',j<i∧ops[j]? = some o'∧o'.dst=some t∧S j=true:=by
   intro e he;rw [h1] at he;obtain ⟨j,o',hj,ho',hd',_⟩:=ti.who t e he;exact ⟨j,o',hj,ho',hd',before j ((Qja hck ho ho' htl hd' oA).1 hj) oA⟩
  refine ⟨fun v hf=>?_,fun g v hf=>?_,fun hf=>?_⟩
  ·obtain ⟨j,o',hj,ho',hd',hSj⟩:=wr _ hf;exact hin j o' t none v ho' hd' hSj (Lup _ _ (h1 ▸ hf))
  ·obtain ⟨j,o',hj,ho',hd',hSj⟩:=wr _ hf;obtain ⟨b,hb,r1,r2⟩:=hin j o' t (some g) v ho' hd' hSj (Lup _ _ (h1 ▸ hf));obtain ⟨b',hb'⟩:=Option.isSome_iff_exists.1 (ti.tag t g v (h1 ▸ hf));have e1:=Gup g b' (h5 g b' hb');rw [hb] at e1;simp only [yaa] at e1;subst e1;exact ⟨b,h5 g b hb',r1,r2⟩
  ·refine hout t (fun j o' ho' hd'=>?_);rcases yyb j i with hlt|heq|hgt
   ·have:=ti.has j o' t hlt ho' hd';rw [← h1,hf] at this;cases this
   ·rw [heq];exact hSi
   ·exact after' j ((Qja hck ho ho' htl hd' oA).2 hgt)
 have opnd:∀ x ∈ o.op.operands,∀ t,x = .tmp t->AtOp slots rs1.loc rs1.G K a t:=by
  rintro x hx t rfl;exact look t (List.mem_append_left _ (List.mem_filterMap.2 ⟨.tmp t,by simpa using hx,rfl⟩))
 have hwant:Region.wanted o (yielded ops a.tmps)=gb:=by
  unfold Region.wanted;cases hog:o.guard with
  | none=>simp only;rw [h4 hog]
  | some g =>
   obtain ⟨j,want⟩:=g;simp only;obtain ⟨o',d,bb,r1,r2,r3,r4,r5⟩:=h6 _ _ (h3 _ hog);simp only at r1;have hat:=look d (by simp [Oper.looksAt,hog,r1,r2]);have val:a.tmps.getD d undef = .bool bb->a.tmps[d]? = some (.bool bb):=by
    intro hv;rcases yGa d a.tmps.size with h'|h'
    ·rw [ysa h'];simpa [h'] using hv
    ·simp [yZa h',undef] at hv
   cases hog':o'.guard with
   | none =>
    rw [hog'] at r3;have hv:=val (QZ0 (hat.plain _ r3));simp only [yielded,r1,r2,ylb,hv];rw [r4 hog'];cases want <;> cases bb <;> rfl
   | some h' =>
    rw [hog'] at r3;obtain ⟨hb,r6,r7⟩:=r5 h' hog';obtain ⟨b,hb2,q1,q2⟩:=hat.tagged _ _ r3;rw [r6] at hb2;simp only [yaa] at hb2;subst hb2;rw [r7];cases hb with
    | true =>
     have hv:=val (QZ0 (q1 rfl));simp only [yielded,r1,r2,ylb,hv];cases want <;> cases bb <;> rfl
    | false =>
     have hv:=q2 rfl;simp only [yielded,r1,r2,ylb,y1b];cases hd':a.tmps[d]? with
     | none=>rfl
     | some x =>
      simp only [yya,hd',yFa] at hv;subst hv
      rfl
 have closed':Closed ops (fun k=>S k||Nat.beq k i):=by
  intro k o' e hk ho' he hb;simp only [yQa] at hk ⊢;rcases hk with hk|hk
  ·exact .inl (h.closed k o' e hk ho' he hb)
  ·have:=yla hk;subst this;rw [ho] at ho';simp only [yaa] at ho';subst ho';exact .inl (hready e he hb)
 have Sor:∀ k,(S k||Nat.beq k i)=true ↔ S k=true∨k=i:=by
  intro k;simp only [yQa];exact or_congr_right ⟨yla,fun e=>by subst e;exact Nat.beq_refl k⟩
 have next:∀ (L:Ctx) (w':World) (p':Nat) (u:Value),K.le L->p'<=ops.size->MemSat L (tr p').objs w'->(∀ j,effAt ops (masks ops) j=true->((S j||Nat.beq j i)=true ↔ j<p'))->(gb=true->Rep L v u)->(gb=false->u=undef) ->
   DInv nt ops slots tr K0 (fun k=>S k||Nat.beq k i) (a.put o.dst u) w':=by
  intro L w' p' u hKL hp' hm' heff' hv hv';have slotOld:∀ t,o.dst ≠ some t->(a.put o.dst u).tmps.getD t undef=a.tmps.getD t undef:=by
   intro t hne;cases hd:o.dst with
   | none=>rfl
   | some d=>simp [Act.put,yPa (show d ≠ t from fun e=>hne (by rw [hd,e]))]
  refine ⟨closed',by cases hd:o.dst <;> simp [Act.put,h.size],L,p',hK.trans hKL,by cases hd:o.dst <;> exact hmk.mono hKL,hp',hm',heff',fun j o' d tg v' ho' hd' hS hf=>?_,fun t hno=>?_⟩
  ·by_cases hji:j=i
   ·subst hji;rw [ho] at ho';simp only [yaa] at ho';subst ho';rcases hcase with ⟨hn,_⟩|⟨d0,hd0,hlt,hnone,hloc⟩
    ·rw [hn] at hd';cases hd'
    ·rw [hd0] at hd';simp only [yaa] at hd';subst hd';have hfl:findL (tr (j+1)).loc d0=some (o.guard,v):=by simp only at hloc;rw [hloc,QK2,if_pos rfl]
     have:=(ht.keep (i:=j+1) ops.size oA (yia _)).1 _ _ hfl;rw [hf] at this;simp only [yaa,yDa] at this;obtain ⟨rfl,rfl⟩:=this;have hsame:(a.put o.dst u).tmps.getD d0 undef=u:=by
      have:d0<a.tmps.size:=by rw [h.size];exact hlt
      simp [Act.put,hd0,this]
     rw [hsame];cases hog:o.guard with
     | none=>exact hv (h4 hog)
     | some g=>exact ⟨gb,Gup g gb (h3 g hog),hv,hv'⟩
   ·have hSj:S j=true:=((Sor j).1 hS).resolve_right hji;have hne:o.dst ≠ some d:=fun e=>hji (tn.one j i o' o d (Array.getElem?_eq_some_iff.1 ho').1 hi ho' ho hd' e)
    rw [slotOld d hne];have:=hin j o' d tg v' ho' hd' hSj hf;cases tg with
    | none=>exact Rep.mono hKL this
    | some g=>obtain ⟨b,q1,q2,q3⟩:=this;exact ⟨b,q1,fun hb=>(q2 hb).mono hKL,q3⟩
  ·have hne:o.dst ≠ some t:=fun e=>by have:=hno i o ho e;simp at this
   rw [slotOld t hne];refine (hout t (fun j o' ho' hd'=>?_)).mono hKL;have:=hno j o' ho' hd';simp only [yRa] at this;exact this.1
 have hc:∀ c,o.guard=some c->gb=true->findG rs1.G c=some true:=fun c hcc hgb=>by rw [← hgb];exact h3 c hcc
 have sound:∀ (objs objs':Objs) (p':Nat),gb=true->objs=(tr p).objs->objs'=(tr p').objs->p'<=ops.size->(∀ j,effAt ops (masks ops) j=true->((S j||Nat.beq j i)=true ↔ j<p'))->Q66 P ops slots o o.guard gb rs1.loc rs1.G objs v objs' ->
   o.wp P a w (DInv nt ops slots tr K0 (fun k=>S k||Nat.beq k i)) Q:=by
  intro objs objs' p' hgb e1 e2 hp' heff' hop;subst e1 e2;have does:Does P (execOp a.eval o) w K (tr p').objs v->o.wp P a w (DInv nt ops slots tr K0 (fun k=>S k||Nat.beq k i)) Q:=by
   rintro ⟨u,w',K',hrun,hle,hm',hr⟩;unfold Oper.wp;rcases hrun with hrun|⟨hrun,rfl⟩
   ·rw [hrun];exact next K' w' p' u hle hp' hm' heff' (fun _=>hr) (fun hb=>by rw [hgb] at hb;cases hb)
   ·rw [hrun];exact next K' w' p' undef hle hp' hm' heff' (fun _=>hr) (fun _=>rfl)
  rcases hop with ⟨hgf,_⟩|hop
  ·rw [hgb] at hgf;cases hgf
  unfold QYa at hop;split at hop
  ·rename_i c x y hop';have hopnd:∀ z,z=c∨z=x∨z=y -> ∀ t,z = .tmp t->AtOp slots rs1.loc rs1.G K a t:=fun z hz=>opnd z (by rw [hop'];simp only [Op.operands];rcases hz with rfl|rfl|rfl <;> simp)
   obtain ⟨u,hu,hr⟩:=pick_at (P:=P) (w:=w) h6 o.guard (fun c' hcc=>hc c' hcc hgb) (hopnd c (.inl rfl)) (hopnd x (.inr (.inl rfl))) (hopnd y (.inr (.inr rfl))) hop.1 hop';exact does ⟨u,w,K,.inl hu,.refl K,by rw [hop.2];exact hm,hr⟩
  ·
   have hcongr:∃ look':Operand->AVal,Qf2 P (lookR ops slots rs1.loc o.guard) (tr p).objs o=Qf2 P look' (tr p).objs o∧(∀ Kp:AVal->Objs->Prop,evalX P (lookR ops slots rs1.loc o.guard) (tr p).objs o Kp=evalX P look' (tr p).objs o Kp) ∧ ∀ x,Rep K (look' x) (a.eval x):=by
    classical
    refine ⟨fun x=>if x ∈ o.op.operands then lookR ops slots rs1.loc o.guard x else .any,evalOp_congr o (fun x hx=>by simp only [hx,if_true]),fun Kp=>evalX_congr o (fun x hx=>by simp only [hx,if_true]),fun x=>?_⟩
    by_cases hx:x ∈ o.op.operands
    ·simp only [hx,if_true];exact QX8 h6 o.guard (fun c' hcc=>hc c' hcc hgb) x (opnd x hx)
    ·simp only [hx,if_false];exact .any _
   obtain ⟨look',hl1,hl3,hl2⟩:=hcongr;rw [hl1,hl3] at hop;have hsound:=QCc (P:=P) hm hl2 o;split at hop
   ·obtain ⟨r,o2,⟨x,w',K',q1,q2,q3,q4⟩,hsub,he2⟩:=QCa hm hl2 hop.2;exact does ⟨x,w',K',q1,q2,by rw [← he2];exact q3,hsub _ _ q4⟩
   ·rename_i u he;obtain ⟨hsub,e⟩:=hop;rw [he] at hsound;obtain ⟨x,w',K',q1,q2,q3,q4⟩:=hsound;exact does ⟨x,w',K',q1,q2,by rw [e];exact q3,hsub _ _ q4⟩
   ·rename_i b u he;obtain ⟨hb,rfl,e⟩:=hop;rw [he] at hsound;exact does (by rw [e];exact hsound (hb hgb))
   ·rename_i b u o2 he;obtain ⟨_,hb,rfl,e⟩:=hop;rw [he] at hsound;exact does (by rw [e];exact hsound hb)
   ·rename_i u o2 he;obtain ⟨_,rfl,e⟩:=hop;rw [he] at hsound;exact does (by rw [e];exact hsound)
   ·rename_i f args he;rw [he] at hsound;obtain ⟨vs,hrun,hreps⟩:=hsound;unfold Oper.wp;rw [hrun];have hcall:=hop.1 hgb;unfold ACalls at hcall;refine (hcall K w vs hm hreps).mono ?_;rintro e w' ⟨u,r,objs',K',rfl,hle,hm',hr,rfl,rfl⟩;exact next K' w' p' u hle hp' hm' heff' (fun _=>hr) (fun hb=>by rw [hgb] at hb;cases hb)
 rw [hwant];cases hei:effAt ops (masks ops) i with
 | true =>
  have lower:∀ k,effAt ops (masks ops) k=true->k<ops.size->k<i->S k=true:=fun k ek _ hk=>before k (Q6b hck hk hi ek hei) oA
  have upper:∀ k,effAt ops (masks ops) k=true->k<ops.size->i<k->S k=false:=fun k ek hk' hk=>after' k (Q6b hck hk hk' hei ek)
  have effLt:∀ k,effAt ops (masks ops) k=true->k<ops.size:=by
   intro k ek;unfold effAt at ek;cases hk:ops[k]? with
   | none=>rw [hk] at ek;cases ek
   | some _=>exact (Array.getElem?_eq_some_iff.1 hk).1
  have hpi:(tr p).objs=(tr i).objs:=by
   rcases Nat.le_total p i with hle|hle
   ·refine (ht.objs i hle oA (fun k hk1 hk2=>?_)).symm;cases ek:effAt ops (masks ops) k with
    | false=>rfl
    | true =>
     have:=(heff k ek).1 (lower k ek oA hk2);omega
   ·refine ht.objs p hle hp (fun k hk1 hk2=>?_);cases ek:effAt ops (masks ops) k with
    | false=>rfl
    | true =>
     have hS:=(heff k ek).2 hk2;rcases yGa i k with h'|h'
     ·rw [upper k ek oA h'] at hS;cases hS
     ·have:k=i:=by omega
      subst this;rw [hSi] at hS;cases hS
  have heff':∀ j,effAt ops (masks ops) j=true->((S j||Nat.beq j i)=true ↔ j<i+1):=by
   intro j ej;rw [Sor];constructor
   ·rintro (hS|rfl)
    ·rcases yGa i j with h'|h'
     ·rw [upper j ej (effLt j ej) h'] at hS;cases hS
     ·omega
    ·omega
   ·intro hlt;rcases yGa j i with h'|h'
    ·exact .inl (lower j ej (effLt j ej) h')
    ·exact .inr oA
  have hop:=hE hei;cases hgb:gb with
  | true=>exact .inl (sound (tr i).objs (tr (i+1)).objs (i+1) hgb hpi.symm rfl oA heff' hop)
  | false =>
   simp only [y1a,if_false];have hgu:o.guard ≠ none:=fun e=>by rw [h4 e] at hgb;cases hgb
   have hsame:(tr (i+1)).objs=(tr i).objs:=by
    rcases hop with ⟨_,hs⟩|hop
    ·exact hs
    unfold QYa at hop;split at hop
    ·exact hop.2
    ·split at hop
     ·exact hop.1.resolve_left hgu
     ·exact hop.2
     ·exact hop.2.2
     ·exact absurd hop.1 hgu
     ·exact absurd hop.1 hgu
     ·exact hop.2 hgb
   exact next K w (i+1) undef (.refl K) oA (by rw [hsame,← hpi];exact hm) heff' (fun h=>by rw [hgb] at h;cases h) (fun _=>rfl)
 | false =>
  have hok:okPos ops (masks ops) i p=true:=by
   simp only [okPos,y7a,y5a,yQa,ydb,yha];intro j hj;cases ej:effAt ops (masks ops) j with
   | false=>exact .inl rfl
   | true =>
    have hne:j ≠ i:=fun e=>by subst e;rw [hei] at ej;cases ej
    refine .inr ⟨?_,?_⟩
    ·cases hb:bit (masks ops) i j with
     | false=>exact .inl rfl
     | true=>exact .inr (by have:=(heff j ej).1 (before j hb hne);simpa using this)
    ·cases hb:bit (masks ops) j i with
     | false=>exact .inl rfl
     | true =>
      refine .inr ?_;have hS:=after' j hb;have:¬ j<p:=fun hlt=>by rw [(heff j ej).2 hlt] at hS;cases hS
      exact Nat.ble_eq_true_of_le oA
  have heff':∀ j,effAt ops (masks ops) j=true->((S j||Nat.beq j i)=true ↔ j<p):=by
   intro j ej;have hne:j ≠ i:=fun e=>by subst e;rw [hei] at ej;cases ej
   rw [Sor,← heff j ej];exact ⟨fun h=>h.resolve_right hne,.inl⟩
  have hop:=(hN hei).2 p hp hok;cases hgb:gb with
  | true=>exact .inl (sound _ _ p hgb rfl rfl hp heff' hop)
  | false =>
   simp only [y1a,if_false];exact next K w p undef (.refl K) hp hm heff' (fun h=>by rw [hgb] at h;cases h) (fun _=>rfl)
theorem Qia (h:QU2 ops (masks ops)=true) {i:Nat} {o:Oper} {e:Edge} (ho:ops[i]? = some o) (he:e ∈ o.after) (hb:Region.binds .any e=true):e.on<i:=by
 simp only [QU2,yha,y7a,y5a] at h;have h1:=h.1.1 i (Array.getElem?_eq_some_iff.1 ho).1;simp only [ho,y7a] at h1;have:=h1 e (Array.mem_toList_iff.2 he);simp only [hb,yHb,Bool.false_or] at this;simpa using this
theorem DInv.done {K0:Ctx} {S:Nat->Bool} {a:Act} {w:World} (ht:Trace P nt ops slots tr) (h:DInv nt ops slots tr K0 S a w) (hall:∀ i,i<ops.size->S i=true):∃ K,K0.le K∧RSat nt ops slots K (tr ops.size) a w:=by
 obtain ⟨K,p,hK,hmk,hp,hm,heff,hin,hout⟩:=h.mem;have tn:=ht.inv ops.size (yia _);have hobj:(tr ops.size).objs=(tr p).objs:=by
  refine ht.objs ops.size hp (yia _) (fun k hk1 hk2=>?_);cases ek:effAt ops (masks ops) k with
  | false=>rfl
  | true=>have:=(heff k ek).1 (hall k hk2);omega
 have slot:∀ t tg v,findL (tr ops.size).loc t=some (tg,v)->match tg with|none=>Rep K v (a.tmps.getD t undef)|some g=>∃ b,findG (tr ops.size).G g=some b∧(b=true->Rep K v (a.tmps.getD t undef))∧(b=false->a.tmps.getD t undef=undef):=by
  intro t tg v hf;obtain ⟨j,o,hj,ho,hd,_⟩:=tn.who t (tg,v) hf;exact hin j o t tg v ho hd (hall j hj) hf
 refine ⟨K,hK,by rw [hobj];exact hm,fun t hf=>?_,fun t v hf=>slot t none v hf,fun t g v hf=>slot t (some g) v hf,fun g b hg=>?_,h.size,hmk,tn.uniq⟩
 ·refine hout t (fun j o ho hd=>?_);have:=tn.has j o t (Array.getElem?_eq_some_iff.1 ho).1 ho hd;rw [hf] at this;cases this
 ·obtain ⟨o',d,bb,r1,r2,r3,r4,r5⟩:=tn.rel g b hg;have val:a.tmps.getD d undef = .bool bb->a.tmps[d]? = some (.bool bb):=by
   intro hv;rcases yGa d a.tmps.size with h'|h'
   ·rw [ysa h'];simpa [h'] using hv
   ·simp [yZa h',undef] at hv
  refine ⟨?_,⟨o',d,r1,r2,by rw [r3];rfl⟩,fun o'' h' ho'' hg'' hb=>?_⟩
  ·have hs:=slot d _ _ r3;cases hog':o'.guard with
   | none =>
    rw [hog'] at hs;have hv:=val (QZ0 hs);simp only [yielded,r1,r2,ylb,hv];rw [r4 hog'];cases g.2 <;> cases bb <;> rfl
   | some h' =>
    rw [hog'] at hs;obtain ⟨hb,r6,r7⟩:=r5 h' hog';obtain ⟨b2,hb2,q1,q2⟩:=hs;rw [r6] at hb2;simp only [yaa] at hb2;subst hb2;rw [r7];cases hb with
    | true =>
     have hv:=val (QZ0 (q1 rfl));simp only [yielded,r1,r2,ylb,hv];cases g.2 <;> cases bb <;> rfl
    | false =>
     have hv:=q2 rfl;simp only [yielded,r1,r2,ylb,y1b];cases hd':a.tmps[d]? with
     | none=>rfl
     | some x =>
      simp only [yya,hd',yFa] at hv;subst hv
      rfl
  ·rw [r1] at ho'';simp only [yaa] at ho'';subst ho'';obtain ⟨hb',r6,r7⟩:=r5 h' hg'';have:hb'=true:=by cases hb' with|true=>rfl|false=>rw [hb] at r7;simp at r7
   rw [r6,this]
theorem Qf9 {K0:Ctx} {Q:Exit->Act->World->Prop} (ht:Trace P nt ops slots tr) (hck:QU2 ops (masks ops)=true)
  (hQ:∀ K a w,K0.le K->RSat nt ops slots K (tr ops.size) a w->Q .normal a w) :
  ∀ (fuel:Nat) (listed:Array Bool) (a:Act) (w:World),listed.size=ops.size->((List.range ops.size).filter fun i=>!listed.getD i false).length<=fuel->DInv nt ops slots tr K0 (fun k=>listed.getD k false) a w->wpAny P .any ops Q fuel listed a w:=by
 have noneReady:∀ (listed:Array Bool),listed.size=ops.size->Region.ready .any ops listed=[] -> ∀ i,i<ops.size->listed.getD i false=true:=by
  intro listed hsz hr i
  induction i using Nat.strongRecOn with
  | _ i ih =>
   intro hi;cases hl:listed.getD i false with
   | true=>rfl
   | false =>
    obtain ⟨o,ho⟩:=getO hi;have:i ∈ Region.ready .any ops listed:=by
     rw [mem_ready];refine ⟨?_,o,ho,fun e he hb=>ih e.on (Qia hck ho he hb) (by have:=Qia hck ho he hb;omega)⟩;simp only [yya] at hl ⊢;rw [ysa oA] at hl ⊢;exact hl
    rw [hr] at this;cases this
 have fin:∀ (listed:Array Bool) (a:Act) (w:World),DInv nt ops slots tr K0 (fun k=>listed.getD k false) a w->(∀ i,i<ops.size->listed.getD i false=true)->Q .normal a w:=by
  intro listed a w h hall;obtain ⟨K,hK,hs⟩:=h.done ht hall;exact hQ K a w hK hs
 intro fuel
 induction fuel with
 | zero =>
  intro listed a w hsz hc h;have hall:∀ i,i<ops.size->listed.getD i false=true:=by
   intro i hi;cases hl:listed.getD i false with
   | true=>rfl
   | false =>
    have hmem:i ∈ (List.range ops.size).filter fun i=>!listed.getD i false:=List.mem_filter.2 ⟨List.mem_range.2 hi,by rw [hl];rfl⟩
    have:=List.length_pos_of_mem hmem;omega
  refine ⟨?_,fin listed a w h hall⟩;cases hr:Region.ready .any ops listed with
  | nil=>rfl
  | cons i l =>
   have hm:i ∈ Region.ready .any ops listed:=by rw [hr];simp
   obtain ⟨h0,o,ho,_⟩:=mem_ready.1 hm;have hi:=(Array.getElem?_eq_some_iff.1 ho).1;have:=hall i hi;simp only [yya] at this h0;rw [ysa oA] at this h0;simp only [yFa] at this h0;rw [this] at h0;cases h0
 | succ fuel ih =>
  intro listed a w hsz hc h;refine ⟨fun hr=>fin listed a w h (noneReady listed hsz hr),fun i hi=>?_⟩;obtain ⟨h0,o,ho,hall⟩:=mem_ready.1 hi;have hlt:=(Array.getElem?_eq_some_iff.1 ho).1;have hSi:listed.getD i false=false:=by
   simp only [yya] at h0 ⊢;rw [ysa oA] at h0 ⊢;exact h0
  have hset:(fun k=>(listed.setIfInBounds i true).getD k false)=fun k=>listed.getD k false||Nat.beq k i:=by
   funext k
   by_cases hk:k=i
   ·subst hk;simp [hsz,hlt]
   ·have hb:Nat.beq k i=false:=by
     cases hb:Nat.beq k i with
     | false=>rfl
     | true=>exact absurd (yla hb) hk
    rw [hb,Bool.or_false];simp [yPa (Ne.symm hk)]
  have hcount:((List.range ops.size).filter fun k=>!(listed.setIfInBounds i true).getD k false).length<=fuel:=by
   have hsub:((List.range ops.size).filter fun k=>!(listed.setIfInBounds i true).getD k false)=((List.range ops.size).filter fun k=>!listed.getD k false).filter fun k=>!Nat.beq k i:=by
    rw [List.filter_filter]
    congr 1
    funext k
    have:=congrFun hset k;rw [this,Bool.not_or,Bool.and_comm]
   rw [hsub];have hmem:i ∈ (List.range ops.size).filter fun k=>!listed.getD k false:=List.mem_filter.2 ⟨List.mem_range.2 hlt,by rw [hSi];rfl⟩
   have hlen:(((List.range ops.size).filter fun k=>!listed.getD k false).filter fun k=>!Nat.beq k i).length<((List.range ops.size).filter fun k=>!listed.getD k false).length:=by
    refine List.length_filter_lt_length_iff_exists.2 ⟨i,hmem,by simp⟩
   omega
  have hstep:=h.step (Q:=Q) ht hck ho hSi hall;have nextStep:∀ a' w',DInv nt ops slots tr K0 (fun k=>listed.getD k false||Nat.beq k i) a' w'->wpAny P .any ops Q fuel (listed.setIfInBounds i true) a' w':=by
   intro a' w' hd;exact ih (listed.setIfInBounds i true) a' w' (by simp [hsz]) hcount (by rw [hset];exact hd)
  unfold wpOp;simp only [ho];split
  ·rename_i hw;rw [if_pos hw] at hstep;exact hstep.imp (Oper.wp_mono nextStep) id
  ·rename_i hw;rw [if_neg hw] at hstep;exact nextStep _ _ hstep
theorem wp_draw {K0 K:Ctx} {s:St} {id:Nat} {a:Act} {w:World} {Q:Exit->Act->World->Prop} (hmix:P.follows .mixedOrders=true) (ht:Trace P nt ops s.slots tr) (hck:QU2 ops (masks ops)=true) (ho:(tr 0).objs=s.objs) (hK:K0.le K) (hs:Sat nt K s a w)
  (hQ:∀ K a w,K0.le K->RSat nt ops s.slots K (tr ops.size) a w->Q .normal a w):(Code.region id ops true).wp P Q a w:=by
 refine wp_region_any hmix (Qf9 (K0:=K0) ht hck hQ ops.size _ a _ (by simp) ?_ ?_)
 ·exact yea (yIb _ _) (by simp)
 ·have hf:∀ k,(Array.replicate ops.size false).getD k false=false:=fun k=>by
   simp only [yya,Array.getElem?_replicate];split <;> rfl
  exact ⟨(fun i o e hi=>by simp only [hf] at hi;cases hi),hs.size,K,0,hK,hs.defers,yna _,(by rw [ho];exact hs.mem.drawn _),(fun j _=>by simp only [hf];simp),(fun j o d tg v _ _ hS=>by simp only [hf] at hS;cases hS),fun t _=>hs.slot t⟩
end
inductive AExit where
 | normal
 | exit (id:Nat)
 | goto (l:Nat)
 | ret
def AExit.real:AExit->Exit
 | .normal=>.normal
 | .exit id=>.exit id
 | .goto l=>.goto l
 | .ret=>.ret
def Weaker (nt n0:Nat) (s s':St):Prop:=∀ (K0 K:Ctx) (a:Act) (w:World),K0.n=n0->K0.le K->Sat nt K s a w -> ∃ K',K0.le K'∧Sat nt K' s' a w
def Qsa (s:St):RSt:={ loc:=[],G:=[],objs:=s.objs }
def DrawW (P:Program) (nt:Nat) (ops:Array Oper) (slots:List (Nat × AVal)) (objs:Objs) (K:Loc->Objs->Prop):Prop :=
 P.follows .mixedOrders=true∧QU2 ops (masks ops)=true ∧ ∃ tr:Nat->RSt,Trace P nt ops slots tr∧(tr 0).objs=objs∧K (tr ops.size).loc (tr ops.size).objs
def DrawS (P:Program) (nt:Nat) (ops:Array Oper) (s:St) (K:Loc->Objs->Prop):Prop:=∀ (id:Nat) (K0 Kc:Ctx) (a:Act) (w:World) (Q:Exit->Act->World->Prop),K0.le Kc->Sat nt Kc s a w ->
 (∀ (ops':Array Oper) (K':Ctx) (rs:RSt) (a':Act) (w':World),K0.le K'->RSat nt ops' s.slots K' rs a' w'->K rs.loc rs.objs->Q .normal a' w')->(Code.region id ops true).wp P Q a w
def lookO (s:St):Operand->AVal
 | .tmp t=>Q71 s.slots t
 | .const v=>.lit v
 | _=>.any
def QL8:Code->Nat
 | .region id _ _=>id
 | .seq a _=>QL8 a
 | .cond _ x _=>QL8 x
 | .block _ b=>QL8 b
 | .loop b=>QL8 b
 | .scope b=>QL8 b
 | _=>0
def Post (nt:Nat) (K0:Ctx) (Q:AExit->St->Prop) (e:Exit) (a:Act) (w:World):Prop:=∃ (e':AExit) (K:Ctx) (s:St),e=e'.real∧K0.le K∧Sat nt K s a w∧Q e' s
def Qn9 (P:Program) (nt n0:Nat) (c:Code) (R:AExit->St->Prop) (s:St):Prop:=∀ (K0 K:Ctx) (a:Act) (w:World),K0.n=n0->K0.le K->Sat nt K s a w->c.wp P (Post nt K0 R) a w
def awp (P:Program) (nt n0:Nat) (keep:Nat->Bool):Code->(AExit->St->Prop)->St->Prop
 | .skip,Q,s=>Q .normal s
 | .region id ops draw,Q,s =>
  (match draw with
   | false=>QC6 P nt ops s.slots false ops.toList (Qsa s) fun rs=>Q .normal { slots:=QH9 keep s.slots rs.loc,objs:=rs.objs }
   | true =>
    (match keep (2000000+id) with
    | true=>DrawW P nt ops s.slots s.objs fun loc objs=>Q .normal { slots:=QH9 keep s.slots loc,objs:=objs }
    | false=>DrawS P nt ops s fun loc objs=>Q .normal { slots:=QH9 keep s.slots loc,objs:=objs }))
 | .seq a b,Q,s =>
  (match keep (1000000+QL8 b) with
   | true=>awp P nt n0 keep a (fun e s'=>match e with | .normal=>awp P nt n0 keep b Q s'|e=>Q e s') s
   | false=>∃ J:St->Prop,(∀ s,J s->awp P nt n0 keep b Q s)∧awp P nt n0 keep a (fun e s'=>match e with | .normal=>∃ s'',Weaker nt n0 s' s''∧J s''|e=>Q e s') s)
 | .cond c x y,Q,s =>
  (match lookO s c with
   | .lit (.bool b)=>(b=true->awp P nt n0 keep x Q s)∧(b=false->awp P nt n0 keep y Q s)
   | _=>False)
 | .block id body,Q,s=>awp P nt n0 keep body (fun e s'=>match e with | .exit i=>(match Nat.beq i id with|true=>Q .normal s'|false=>Q (.exit i) s')|e=>Q e s') s
 | .loop body,Q,s=>∃ (I:Nat->St->Prop) (n:Nat) (s1:St),Weaker nt n0 s s1∧I n s1 ∧ ∀ m s,I m s->awp P nt n0 keep body (fun e s'=>match e with | .normal=>∃ m' s'',m'<m∧Weaker nt n0 s' s''∧I m' s''|e=>Q e s') s
 | .exit id,Q,s=>Q (.exit id) s
 | .label _,Q,s=>Q .normal s
 | .goto l,Q,s=>Q (.goto l) s
 | .ret,Q,s=>Q .ret s
 | .scope b,Q,s =>
  (match keep (3000000+QL8 b) with
   | true=>awp P nt n0 keep b (fun e s'=>match e with | .goto _=>False|e=>Q e s') s
   | false=>∃ R:AExit->St->Prop,Qn9 P nt n0 (.scope b) R s ∧ ∀ e t,R e t->Q e t)
 | .rangeFunc f ps x y,Q,s=>∃ R:AExit->St->Prop,Qn9 P nt n0 (.rangeFunc f ps x y) R s ∧ ∀ e t,R e t->Q e t
 | _,_,_=>False
section
variable {P:Program} {nt n0:Nat} {keep:Nat->Bool}
theorem Sat.start {K:Ctx} {s:St} {a:Act} {w:World} {ops:Array Oper} (h:Sat nt K s a w):RSat nt ops s.slots K (Qsa s) a w :=
 ⟨h.mem,fun t _=>h.slot t,fun t v h=>by simp [Qsa,findL] at h,fun t g v h=>by simp [Qsa,findL] at h,fun g b h=>by simp [Qsa,findG] at h,h.size,h.defers,trivial⟩
theorem Qp7 (c:Code):∀ (Q:AExit->St->Prop) (s:St) (K0 K:Ctx) (a:Act) (w:World),K0.n=n0->K0.le K->Sat nt K s a w->awp P nt n0 keep c Q s->c.wp P (Post nt K0 Q) a w:=by
 induction c with
 | skip=>exact fun Q s K0 K a w hn hle hs h=>wp_skip ⟨.normal,K,s,rfl,hle,hs,h⟩
 | label l=>exact fun Q s K0 K a w hn hle hs h=>wp_label ⟨.normal,K,s,rfl,hle,hs,h⟩
 | exit id=>exact fun Q s K0 K a w hn hle hs h=>wp_exit ⟨.exit id,K,s,rfl,hle,hs,h⟩
 | goto l=>exact fun Q s K0 K a w hn hle hs h=>wp_goto ⟨.goto l,K,s,rfl,hle,hs,h⟩
 | ret=>exact fun Q s K0 K a w hn hle hs h=>wp_ret ⟨.ret,K,s,rfl,hle,hs,h⟩
 | refuse why=>exact fun Q s K0 K a w hn hle hs h=>h.elim
 | scope b ih =>
  intro Q s K0 K a w hn hle hs h;simp only [awp] at h;split at h
  ·refine wp_scope_straight (wp_mono (ih _ s K0 K a w hn hle hs h) ?_);rintro e a' w' ⟨e',K',s',rfl,hle',hs',hq⟩;cases e' with
   | normal=>exact ⟨.normal,K',s',rfl,hle',hs',hq⟩
   | exit i=>exact ⟨.exit i,K',s',rfl,hle',hs',hq⟩
   | goto l=>exact hq.elim
   | ret=>exact ⟨.ret,K',s',rfl,hle',hs',hq⟩
  ·obtain ⟨R,hR,hq⟩:=h;refine wp_mono (hR K0 K a w hn hle hs) ?_;rintro e a' w' ⟨e',K',s',rfl,hle',hs',h⟩;exact ⟨e',K',s',rfl,hle',hs',hq e' s' h⟩
 | rangeFunc f ps x y _ _ =>
  intro Q s K0 K a w hn hle hs h;obtain ⟨R,hR,hq⟩:=h;refine wp_mono (hR K0 K a w hn hle hs) ?_;rintro e a' w' ⟨e',K',s',rfl,hle',hs',h⟩;exact ⟨e',K',s',rfl,hle',hs',hq e' s' h⟩
 | region id ops draw =>
  intro Q s K0 K a w hn hle hs h;cases draw with
  | false =>
   simp only [awp] at h;refine wp_region ?_;rw [yZb];refine QJ7 (K0:=K0) (Kt:=fun rs=>Q .normal { slots:=QH9 keep s.slots rs.loc,objs:=rs.objs }) ?_ ops.size 0 oA K (Qsa s) a w hle hs.start (by simpa using h);intro K' rs a' w' hle' hr hk;exact ⟨.normal,K',_,rfl,hle',QD5 keep hr,hk⟩
  | true =>
   simp only [awp] at h;split at h
   ·obtain ⟨hmix,hck,tr,ht,ho,hq⟩:=h;refine wp_draw (K0:=K0) hmix ht hck ho hle hs ?_;intro K' a' w' hle' hr;exact ⟨.normal,K',_,rfl,hle',QD5 keep hr,hq⟩
   ·exact h id K0 K a w _ hle hs fun ops' K' rs a' w' hle' hr hq=>⟨.normal,K',_,rfl,hle',QD5 keep hr,hq⟩
 | seq x y ihx ihy =>
  intro Q s K0 K a w hn hle hs h;simp only [awp] at h;split at h
  ·refine wp_seq (wp_mono (ihx _ s K0 K a w hn hle hs h) ?_);rintro e a' w' ⟨e',K',s',rfl,hle',hs',hq⟩;cases e' with
   | normal=>exact ihy Q s' K0 K' a' w' hn hle' hs' hq
   | exit id=>exact ⟨.exit id,K',s',rfl,hle',hs',hq⟩
   | goto l=>exact ⟨.goto l,K',s',rfl,hle',hs',hq⟩
   | ret=>exact ⟨.ret,K',s',rfl,hle',hs',hq⟩
  ·obtain ⟨J,hJ,h⟩:=h;refine wp_seq (wp_mono (ihx _ s K0 K a w hn hle hs h) ?_);rintro e a' w' ⟨e',K',s',rfl,hle',hs',hq⟩;cases e' with
   | normal =>
    obtain ⟨s'',hweak,hj⟩:=hq;obtain ⟨K'',hle'',hs''⟩:=hweak K0 K' a' w' hn hle' hs';exact ihy Q s'' K0 K'' a' w' hn hle'' hs'' (hJ s'' hj)
   | exit id=>exact ⟨.exit id,K',s',rfl,hle',hs',hq⟩
   | goto l=>exact ⟨.goto l,K',s',rfl,hle',hs',hq⟩
   | ret=>exact ⟨.ret,K',s',rfl,hle',hs',hq⟩
 | cond c x y ihx ihy =>
  intro Q s K0 K a w hn hle hs h;simp only [awp] at h;split at h
  ·rename_i b hb;have hv:a.eval c = .bool b:=by
    cases c with
    | tmp t =>
     simp only [lookO] at hb;have hr:=hs.slot t;rw [hb] at hr;exact QZ0 hr
    | const v=>simp only [lookO,AVal.lit.injEq] at hb;exact hb
    | global g=>simp [lookO] at hb
    | func f=>simp [lookO] at hb
   exact wp_cond_split hv (fun ht=>ihx Q s K0 K a w hn hle hs (h.1 ht)) (fun hf=>ihy Q s K0 K a w hn hle hs (h.2 hf))
  ·exact h.elim
 | block id body ih =>
  intro Q s K0 K a w hn hle hs h;refine wp_block (wp_mono (ih _ s K0 K a w hn hle hs h) ?_);rintro e a' w' ⟨e',K',s',rfl,hle',hs',hq⟩;cases e' with
  | normal=>exact ⟨.normal,K',s',rfl,hle',hs',hq⟩
  | exit i =>
   simp only at hq;simp only [AExit.real,Exit.inBlock];cases hb:Nat.beq i id with
   | true =>
    rw [hb] at hq;have:=yla hb;rw [if_pos this];exact ⟨.normal,K',s',rfl,hle',hs',hq⟩
   | false =>
    rw [hb] at hq;have:i ≠ id:=fun e=>by subst e;simp at hb
    rw [if_neg this];exact ⟨.exit i,K',s',rfl,hle',hs',hq⟩
  | goto l=>exact ⟨.goto l,K',s',rfl,hle',hs',hq⟩
  | ret=>exact ⟨.ret,K',s',rfl,hle',hs',hq⟩
 | loop body ih =>
  intro Q s K0 K a w hn hle hs h;obtain ⟨I,n,s1,hweak0,hI,hround⟩:=h;intro b k cs
  have key:∀ n s K a w,K0.le K->Sat nt K s a w->I n s ->
    ∃ e a' w',Post nt K0 Q e a' w'∧Arrives P (lone (b.at a (.code body :: .inLoop body :: k)) cs w) b k cs e a' w':=by
   intro n
   induction n using Nat.strongRecOn with
   | _ n ihn =>
    intro s K a w hle hs hI;obtain ⟨e,a₁,w₁,hq,harr⟩:=ih _ s K0 K a w hn hle hs (hround n s hI) b (.inLoop body :: k) cs;obtain ⟨e',K',s',rfl,hle',hs',hq⟩:=hq;cases e' with
    | normal =>
     obtain ⟨m',s'',hlt,hweak,hI'⟩:=hq;obtain ⟨K'',hle'',hs''⟩:=hweak K0 K' a₁ w₁ hn hle' hs';obtain ⟨e₂,a₂,w₂,hq₂,harr₂⟩:=ihn m' hlt s'' K'' a₁ w₁ hle'' hs'' hI';exact ⟨e₂,a₂,w₂,hq₂,.of_steps (Steps.trans harr (.one step_inLoop)) harr₂⟩
    | exit id=>exact ⟨_,a₁,w₁,⟨.exit id,K',s',rfl,hle',hs',hq⟩,.pass (x:=.inLoop body) rfl (fun _ _=>.inl (by simp [AExit.real])) harr⟩
    | goto l=>exact ⟨_,a₁,w₁,⟨.goto l,K',s',rfl,hle',hs',hq⟩,.pass (x:=.inLoop body) rfl (fun _ _=>.inl (by simp [AExit.real])) harr⟩
    | ret=>exact ⟨_,a₁,w₁,⟨.ret,K',s',rfl,hle',hs',hq⟩,.pass (x:=.inLoop body) rfl (fun _ _=>.inl (by simp [AExit.real])) harr⟩
  obtain ⟨K1,hle1,hs1⟩:=hweak0 K0 K a w hn hle hs;obtain ⟨e,a',w',hq,harr⟩:=key n s1 K1 a w hle1 hs1 hI;exact ⟨e,a',w',hq,.of_steps (.one step_loop) harr⟩
def resA (P:Program) (s:St):List ResultVar->Option (List AVal)
 | []=>some []
 | .tmp t :: r=>(match resA P s r with|some l=>some (Q71 s.slots t :: l)|none=>none)
 | .cell a t :: r=>(match loadA P t (Q71 s.slots a) s.objs,resA P s r with | .val v,some l=>some (v :: l)|_,_=>none)
def retA (P:Program) (fn:Func) (s:St):Option AVal :=
 match resA P s fn.results.toList with
 | some [v]=>some v
 | some l=>some (.tup l)
 | none=>none
def Told (n0:Nat) (r0:AVal) (objs1:Objs) (r:AVal) (objs':Objs):Prop :=
 ∀ (K0 K:Ctx) (w:World) (v:Value),K0.n=n0->K0.le K->MemSat K objs1 w->Rep K r0 v -> ∃ K',K0.le K'∧MemSat K' objs' w∧Rep K' r v
def QAd (P:Program) (fn:Func) (n0:Nat) (R:AVal->Objs->Prop) (s:St):Prop :=
 match retA P fn s with
 | some r0=>∃ r objs',Told n0 r0 s.objs r objs'∧R r objs'
 | none=>False
def RetQ (P:Program) (fn:Func) (n0:Nat) (R:AVal->Objs->Prop):AExit->St->Prop
 | .normal,s=>QAd P fn n0 R s
 | .ret,s=>QAd P fn n0 R s
 | _,_=>False
def Qp3:Nat->List AVal->List (Nat × AVal)
 | _,[]=>[]
 | i,a :: r=>(i,a) :: Qp3 (i+1) r
theorem QGc:∀ (args:List AVal) (i t:Nat),Q71 (Qp3 i args) t=if t<i then .any else (args[t - i]?).getD .any
 | [],i,t=>by simp [Qp3,Q71]
 | a :: r,i,t=>by
  rw [Qp3,Qj2,QGc r (i+1) t];rcases yyb t i with h|h|h
  ·rw [if_neg oA,if_pos oA,if_pos h]
  ·subst h;simp
  ·rw [if_neg oA,if_neg oA,if_neg oA];have e:t - i=(t - (i+1))+1:=by omega
   rw [e,List.getElem?_cons_succ]
def resOne (tmps:Array Value):ResultVar->Sem Value
 | .tmp t=>pure (tmps.getD t undef)
 | .cell a t=>do loadVar t (← asAddr (tmps.getD a undef))
theorem results_eq (fn:Func) (tmps:Array Value):results fn tmps=(do
  let vs ← fn.results.mapM (resOne tmps)
  pure (if h:vs.size=1 then vs[0] else .tuple vs)):=by
 unfold results
 congr 1
theorem Q8a {s:St} {a:Act} {w:World} {K:Ctx} (hs:Sat nt K s a w):∀ (rs:List ResultVar) (l:List AVal),resA P s rs=some l ->
  ∃ vs:List Value,(rs.mapM (resOne a.tmps)).run P w = .ok vs w∧Reps K l vs
 | [],l,h=>by simp only [resA,yaa] at h;subst h;exact ⟨[],by simp,Reps.nil K⟩
 | .tmp t :: r,l,h=>by
  simp only [resA] at h;split at h
  ·rename_i l' hl';simp only [yaa] at h;subst h;obtain ⟨vs,hvs,hr⟩:=Q8a hs r l' hl';refine ⟨a.tmps.getD t undef :: vs,?_,Reps.cons (hs.slot t) hr⟩;simp only [List.mapM_cons,resOne,yqa,yta,yga,hvs]
  ·cases h
 | .cell c t :: r,l,h=>by
  simp only [resA] at h;split at h
  ·rename_i v l' hv hl';simp only [yaa] at h;subst h;obtain ⟨vs,hvs,hr⟩:=Q8a hs r l' hl';obtain ⟨u,hu,hru⟩:=Qqe hs.mem (hs.slot c) hv;refine ⟨u :: vs,?_,Reps.cons hru hr⟩;have hu':(do loadVar t (← asAddr (a.tmps.getD c undef)):Sem Value).run P w = .ok u w:=by
    simp only [Instr.loadAt,yqa] at hu ⊢;generalize a.tmps.getD c undef=q at hu;cases q with
    | pointer p=>cases p with
     | none=>simp [Instr.sureAddr] at hu
     | some x=>simpa [Instr.sureAddr,asAddr] using hu
    | _=>simp [Instr.sureAddr] at hu
   simp only [yqa] at hu';simp only [List.mapM_cons,resOne,yqa,hu',yga,hvs,yta]
  ·cases h
theorem retA_sound {fn:Func} {s:St} {a:Act} {w:World} {K:Ctx} {r:AVal} (hs:Sat nt K s a w) (h:retA P fn s=some r):∃ v,(results fn a.tmps).run P w = .ok v w∧Rep K r v:=by
 unfold retA at h
 have fin:∀ (l:List AVal) (vs:List Value),Reps K l vs->(fn.results.toList.mapM (resOne a.tmps)).run P w = .ok vs w ->
   (results fn a.tmps).run P w = .ok (match vs with | [v]=>v|vs=>.tuple vs.toArray) w:=by
  intro l vs hr hvs;rw [results_eq,Array.mapM_eq_mapM_toList];simp only [yqa,map_eq_pure_bind,hvs,yga,yta]
  match vs with
  | []=>rfl
  | [v]=>rfl
  | v :: u :: t=>simp
 split at h
 ·rename_i v hl;simp only [yaa] at h;subst h;obtain ⟨vs,hvs,hr⟩:=Q8a (P:=P) hs _ _ hl
  match vs,hr with
  | [u],hr=>exact ⟨u,fin _ _ hr hvs,hr.2 0 _ _ rfl rfl⟩
  | [],hr=>exact absurd hr.1 (by simp)
  | _ :: _ :: _,hr=>exact absurd hr.1 (by simp)
 ·rename_i l hne hl;simp only [yaa] at h;subst h;obtain ⟨vs,hvs,hr⟩:=Q8a (P:=P) hs _ _ hl;refine ⟨.tuple vs.toArray,?_,.tup l vs hr.1 hr.2⟩;have:=fin _ _ hr hvs
  match vs,hr with
  | [u],hr =>
   match l,hne,hr with
   | [x],hne,_=>exact absurd rfl (hne x)
   | [],_,hr=>exact absurd hr.1 (by simp)
   | _ :: _ :: _,_,hr=>exact absurd hr.1 (by simp)
  | [],hr=>exact this
  | _ :: _ :: _,hr=>exact this
 ·cases h
theorem MemSat.with {K:Ctx} {s:Objs} {w:World} (B:Nat->Option Obj) (u:World) (h:MemSat K s w) (hB:∀ (o:Nat) (p:Nat × AObj),s[o]? = some p->p.2.live=true->K.C o p.1 ≠ 0->B (K.ρ o p.1)=none) (hp:Prot { K with B:=B,w0:=u } w):MemSat { K with B:=B,w0:=u } s w :=
 ⟨h.len,h.ver,fun o p hp=>ObjSat.monoR (QK3 K B u) (h.olt hp) (by rw [h.ver o p hp];exact yia _) (h.obj o p hp) (fun _ _=>rfl),fun o p hq hl hC=>⟨hB o p hq hl hC,(h.lo o p hq hl hC).2⟩,h.dis,h.mem,hp⟩
structure Shut (ds:List Deferred) (w w':World):Prop where
 os:w'.os=w.os
 tape:w'.tape=w.tape
 output:w'.output=w.output
 size:w'.heap.size=w.heap.size
 block:∀ b,(∀ d ∈ ds,d ≠ { target:=.collected b,args:=#[] })->w'.heap[b]? = w.heap[b]?
theorem QLc {F:Fence} {n:Nat} {fn:Func} {tmps:Array Value} {R:Ending->World->Prop} {u:FrameMode} (hu:u ≠ .run):∀ (ds:List Deferred) (w:World),
  (∀ d ∈ ds,∃ D,d={ target:=.collected D,args:=#[] }∧w.heap[D]? = some (.deferred (some [])))->ds.Nodup->(∀ w',Shut ds w w'->LeavesIn F n P fn tmps R [] u w')->LeavesInM F n P fn tmps R ds u w
 | [],w,_,_,h=>h w ⟨rfl,rfl,rfl,rfl,fun _ _=>rfl⟩
 | d :: ds,w,hm,hnd,h=>by
  obtain ⟨D,hd,hw⟩:=hm d (yIa ..);obtain ⟨hnot,hnd'⟩:=List.nodup_cons.1 hnd;refine ⟨hu,.inl ⟨D,w.putObj D (.deferred none),by rw [hd],run_takeDeferred hw,QLc hu ds _ ?_ hnd' ?_⟩⟩
  ·intro d' hd';obtain ⟨D',h1,h2⟩:=hm d' (ywa _ hd');refine ⟨D',h1,?_⟩;have hne:D' ≠ D:=fun e=>hnot (by rw [hd,← e,← h1];exact hd')
   rw [World.putObj_heap_other hne];exact h2
  ·intro w' hs;refine h w' ⟨hs.os,hs.tape,hs.output,by rw [hs.size];simp,fun b hb=>?_⟩;rw [hs.block b (fun d' hd'=>hb d' (ywa _ hd'))];have hne:b ≠ D:=fun e=>hb d (yIa ..) (by rw [hd,e])
   exact World.putObj_heap_other hne
theorem MemSat.shut {K:Ctx} {s:Objs} {w w':World} {ds:List Deferred} (B:Nat->Option Obj) (h:MemSat K s w) (hs:Shut ds w w') (hm:Marks K ds)
  (hB:∀ b x,B b=some x->K.B b=some x∧b<K.w0.heap.size):MemSat { K with B:=B } s w':=by
 have mark:∀ b d,d ∈ ds->d={ target:=.collected b,args:=#[] }->K.B b=some (.deferred (some []))∧K.w0.heap.size<=b:=by
  intro b d hd e;obtain ⟨D,h1,h2,h3⟩:=hm.2 d hd;rw [h1] at e;simp only [Deferred.mk.injEq,Target.collected.injEq,and_true] at e;subst e;exact ⟨h2,h3⟩
 have own:∀ (o:Nat) (p:Nat × AObj),s[o]? = some p->p.2.live=true->K.C o p.1 ≠ 0->w'.heap[K.ρ o p.1]? = w.heap[K.ρ o p.1]?:=by
  intro o p hp hl hC;refine hs.block _ fun d hd e=>?_
  have:=(mark _ d hd e).1;rw [(h.lo o p hp hl hC).1] at this;cases this
 refine ⟨h.len,h.ver,fun o p hp=>ObjSat.monoR (QK3 K B K.w0) (h.olt hp) (by rw [h.ver o p hp];exact yia _) (h.obj o p hp) (fun hl hC=>own o p hp hl hC),fun o p hp hl hC=>⟨?_,?_⟩,h.dis,fun b i u hu=>?_,?_⟩
 ·cases hb:B (K.ρ o p.1) with
  | none=>exact hb
  | some x =>
   have:=(hB _ x hb).1;rw [(h.lo o p hp hl hC).1] at this;cases this
 ·have:=(h.lo o p hp hl hC).2;exact ⟨by rw [hs.size];exact this.1,this.2⟩
 ·refine ⟨?_,(h.mem b i u hu).2⟩;have hc:=(h.mem b i u hu).1;refine (World.cell?_of_block (a:=⟨b,i,none⟩) (hs.block b fun d hd e=>?_)).trans hc;have:=h.below.block b _ (mark b d hd e).1;simp [World.cell?,this] at hc
 ·refine ⟨hs.os.trans h.below.os,hs.tape.trans h.below.tape,hs.output.trans h.below.output,by rw [hs.size];exact h.below.size,fun b x hx=>?_⟩;obtain ⟨h1,h2⟩:=hB b x hx;refine (hs.block b fun d hd e=>?_).trans (h.below.block b x h1);have:=(mark b d hd e).2;omega
theorem MemSat.begin {K:Ctx} {s:Objs} {w:World} (h:MemSat K s w):MemSat { K with w0:=w } s w :=
 h.with K.B w (fun o p hp hl hC=>(h.lo o p hp hl hC).1) ⟨rfl,rfl,rfl,yia _,h.below.block⟩
theorem back_le {K K':Ctx} {w:World} {objs:Objs} {w':World} (h:Prot K w) (hle:Ctx.le { K with w0:=w } K') (hm:MemSat K' objs w'):K.le { K' with B:=K.B,w0:=K.w0 }∧MemSat { K' with B:=K.B,w0:=K.w0 } objs w':=by
 refine ⟨⟨hle.M,hle.ρ,hle.C,hle.n,hle.vs,rfl,fun _ _ h=>h,fun b i x hx=>hle.M0 b i x hx⟩,hm.with K.B K.w0 (fun o p hp hl hC=>?_) ?_⟩
 ·cases hb:K.B (K'.ρ o p.1) with
  | none=>rfl
  | some x =>
   have:=hle.B _ x hb;rw [(hm.lo o p hp hl hC).1] at this;cases this
 ·have e:=hle.w0;have q:=hm.below;refine ⟨?_,?_,?_,?_,fun b x hx=>q.block b x (hle.B b x hx)⟩
  ·rw [q.os,e];exact h.os
  ·rw [q.tape,e];exact h.tape
  ·rw [q.output,e];exact h.output
  ·have:=q.size;rw [e] at this;exact yea h.size this
theorem Sat.enter {K:Ctx} {objs:Objs} {w:World} {nt:Nat} {args:List AVal} {vs:List Value} (hm:MemSat K objs w) (hreps:Reps K args vs) (hlen:args.length<=nt) :
  Sat nt K { slots:=Qp3 0 args,objs:=objs } { tmps:=vs.toArray++Array.replicate (nt - vs.toArray.size) undef,defers:=[] } w:=by
 refine ⟨hm,fun t=>?_,?_,Marks.nil⟩
 ·show Rep K (Q71 (Qp3 0 args) t) _;rw [QGc,if_neg oA,yGb];cases ha:args[t]? with
  | none=>exact .any _
  | some x =>
   obtain ⟨v,hv,hr⟩:=hreps.get ha;have hlt:t<vs.length:=(List.getElem?_eq_some_iff.1 hv).1;have:(vs.toArray++Array.replicate (nt - vs.toArray.size) undef).getD t undef=v:=by
    rw [yya,yXb (by simpa using hlt)];simp [hv]
   simp only [this];exact hr
 ·have:=hreps.1;simp;omega
theorem Qac {fn:Func} {n0:Nat} {R:AVal->Objs->Prop} {K K0 K':Ctx} {s:St} {a:Act} {w w':World} {RR:Ending->World->Prop} (hp:Prot K w) (hK0:Ctx.le { K0 with w0:=w } { K with w0:=w })
  (hB0:K0.B=K.B) (hw0:K0.w0=K.w0) (hn:K0.n=n0) (hle:Ctx.le { K0 with w0:=w } K') (hs:Sat fn.ntmps K' s a w') (hl:QAd P fn n0 R s)
  (hRR:∀ (v:Value) (r:AVal) (objs':Objs) (K':Ctx) (w':World),K0.le K'->MemSat K' objs' w'->Rep K' r v->R r objs'->RR (.returned v) w'):LeavesInM Fence.wide 0 P fn a.tmps RR a.defers .returning w':=by
 unfold QAd at hl;split at hl
 ·rename_i r0 hr0;obtain ⟨r,objs',htold,hR⟩:=hl;refine QLc (by simp) a.defers w' (fun d hd=>?_) hs.defers.1 fun w2 hsh=>?_
  ·obtain ⟨D,h1,h2,_⟩:=hs.defers.2 d hd;exact ⟨D,h1,hs.mem.below.block D _ h2⟩
  ·have hm2:MemSat { K' with B:=K0.B } s.objs w2:=by
    refine hs.mem.shut K0.B hsh hs.defers fun b x hx=>⟨hle.B b x hx,?_⟩
    rw [hle.w0];exact hp.lt (by rw [← hB0];exact hx)
   have hle2:Ctx.le { K0 with w0:=w } { K' with B:=K0.B }:=⟨hle.M,hle.ρ,hle.C,hle.n,hle.vs,hle.w0,fun _ _ h=>h,hle.M0⟩;have hs2:Sat fn.ntmps { K' with B:=K0.B } s { a with defers:=[] } w2:=⟨hm2,fun t=>(hs.slot t).monoR (QK3 K' K0.B K'.w0),hs.size,Marks.nil⟩;obtain ⟨v,hv,hrep⟩:=retA_sound hs2 hr0;obtain ⟨K3,hle3,hm3,hrep3⟩:=htold { K0 with w0:=w } _ w2 v hn hle2 hm2 hrep;have hp0:Prot K0 w:=⟨by rw [hw0];exact hp.os,by rw [hw0];exact hp.tape,by rw [hw0];exact hp.output,by rw [hw0];exact hp.size,fun b x hx=>hp.block b x (by rw [← hB0];exact hx)⟩;obtain ⟨hle4,hm4⟩:=back_le hp0 hle3 hm3;exact ⟨v,hv,hRR v r objs' _ w2 hle4 hm4 (hrep3.monoR (QK3 K3 K0.B K0.w0)) hR⟩
 ·exact hl.elim
theorem ACalls.of_awp {f:FuncId} {fn:Func} {c:Code} {args:List AVal} {objs:Objs} {R:AVal->Objs->Prop} (keep:Nat->Bool) (hf:P.funcs[f]? = some fn) (hb:fn.body=some c) (hlen:args.length<=fn.ntmps)
  (h:awp P fn.ntmps objs.length keep c (RetQ P fn objs.length R) { slots:=Qp3 0 args,objs:=objs }):ACalls P f args objs R:=by
 intro K w vs hm hreps;refine callsIn_wide.1 (callsIn_of_wp_marks (n:=0) hf hb trivial (wpIn_wide.2 ?_));have hsat:=Sat.enter (nt:=fn.ntmps) hm.begin (Reps.monoR (QK3 K K.B w) hreps) hlen;refine wp_mono (Qp7 c _ _ { K with w0:=w } { K with w0:=w } _ w hm.len.symm (.refl _) hsat h) ?_;rintro e a' w' ⟨e',K',s',rfl,hle,hs',hq⟩;have leave:QAd P fn objs.length R s'->LeavesInM Fence.wide 0 P fn a'.tmps (fun e w'=>∃ (v:Value) (r:AVal) (objs':Objs) (K':Ctx),e = .returned v∧K.le K'∧MemSat K' objs' w'∧Rep K' r v∧R r objs') a'.defers .returning w':=fun hl =>
  Qac hm.below (.refl _) rfl rfl hm.len.symm hle hs' hl fun v r objs' K' w' h1 h2 h3 h4=>⟨v,r,objs',K',rfl,h1,h2,h3,h4⟩
 cases e' with
 | normal=>exact leave hq
 | ret=>exact leave hq
 | exit id=>exact hq.elim
 | goto l=>exact hq.elim
end
end Go.Fw
