/-
  What the last text of this claim leans on: an evaluator over the code, contracts of functions, plain laws. Conditions stand in each statement.
-/
import Derived.Test.YtldebhdmhpopaaaGreatDoorRL6
import Derived.ScopeJumps
import Derived.RangeFuncFrom
import Derived.RangeFuncCalls
import Derived.RangeFuncLeaves
import Derived.TacticsIn
import Derived.Test.YtldebhdmhpopaaaGreatDoorProg
import Derived.Laws.RangeString
import Derived.Laws.RangeAny
import Derived.Lib.Strings
import Derived.Lib.Slices
import Derived.Lib.Walk
import Derived.Lib.Bytealg
import Derived.Shelf.Strings.BuilderX
import Derived.Shelf.RegionOpenPlain
import Derived.Lib.Builder
import Derived.Lib.AppendStr
import Derived.Lib.UnsafeStr
import Derived.Lib.MakeNoZero
import Derived.WalkKit
import Derived.Laws.Externs
import Derived.Laws.IdiomCopy
import Derived.Laws.BitsLemmas
import Derived.KernelRfl
import Derived.RangeFuncBound
import Derived.Shelf.Abstract
import Derived.Shelf.RegionOpen
import Derived.OwnWalkIn
import Derived.TacticsInMore
import Derived.LoopNIn
import Derived.LoopIn
import Derived.Shelf.SlSortCmp.NoneTotal
import Derived.Shelf.GgSortFunc.InsertionK
namespace Go.Fw
set_option linter.unusedSimpArgs false
set_option linter.unusedVariables false
open Go.RowKit
def LoopI1 {A0:Type} (inv:A0->Prop) (ms:A0->Nat) (sl:A0->List (Nat × AVal)) (ob:A0->Objs):Nat->List (Nat × AVal)->Objs->Prop:=fun m s o=>∃ x0,inv x0∧m=ms x0∧s=sl x0∧o=ob x0
theorem Qz0 {A0:Type} {inv:A0->Prop} {ms:A0->Nat} {sl:A0->List (Nat × AVal)} {ob:A0->Objs} {nt n0 m:Nat} {s:St} (x0:A0) (hw:Weaker nt n0 s ⟨sl x0,ob x0⟩) (hlt:ms x0<m) (hi:inv x0):∃ m' s'' o'',m'<m∧Weaker nt n0 s ⟨s'',o''⟩∧LoopI1 inv ms sl ob m' s'' o'':=⟨_,_,_,hlt,hw,x0,hi,rfl,rfl,rfl⟩
theorem Qs0 {A0:Type} (inv:A0->Prop) (ms:A0->Nat) (sl:A0->List (Nat × AVal)) (ob:A0->Objs) (x0:A0) {nt n0:Nat} {s:St} {B:(Nat->List (Nat × AVal)->Objs->Prop)->Nat->List (Nat × AVal)->Objs->Prop} (hw:Weaker nt n0 s ⟨sl x0,ob x0⟩) (hi:inv x0) (hb:∀ x0,inv x0->B (LoopI1 inv ms sl ob) (ms x0) (sl x0) (ob x0)):∃ I n s1 o1,Weaker nt n0 s ⟨s1,o1⟩∧I n s1 o1 ∧ ∀ m s o,I m s o->B I m s o :=
 ⟨LoopI1 inv ms sl ob,_,_,_,hw,⟨x0,hi,rfl,rfl,rfl⟩,by rintro _ _ _ ⟨x0,hy,rfl,rfl,rfl⟩;exact hb x0 hy⟩
def JoinI1 {A0:Type} (inv:A0->Prop) (sl:A0->List (Nat × AVal)) (ob:A0->Objs):List (Nat × AVal)->Objs->Prop:=fun s o=>∃ x0,inv x0∧s=sl x0∧o=ob x0
theorem Qo0 {A0:Type} {inv:A0->Prop} {sl:A0->List (Nat × AVal)} {ob:A0->Objs} {nt n0:Nat} {s:St} (x0:A0) (hw:Weaker nt n0 s ⟨sl x0,ob x0⟩) (hi:inv x0):∃ s'' o'',Weaker nt n0 s ⟨s'',o''⟩∧JoinI1 inv sl ob s'' o'':=⟨_,_,hw,x0,hi,rfl,rfl⟩
theorem Qx1 {A0:Type} (inv:A0->Prop) (sl:A0->List (Nat × AVal)) (ob:A0->Objs) {B:List (Nat × AVal)->Objs->Prop} {A:(List (Nat × AVal)->Objs->Prop)->Prop} (hb:∀ x0,inv x0->B (sl x0) (ob x0)) (ha:A (JoinI1 inv sl ob)):∃ J,(∀ s o,J s o->B s o)∧A J:=⟨JoinI1 inv sl ob,by rintro _ _ ⟨x0,hy,rfl,rfl⟩;exact hb x0 hy,ha⟩
def LoopI2 {A0 A1:Type} (inv:A0->A1->Prop) (ms:A0->A1->Nat) (sl:A0->A1->List (Nat × AVal)) (ob:A0->A1->Objs):Nat->List (Nat × AVal)->Objs->Prop:=fun m s o=>∃ x0 x1,inv x0 x1∧m=ms x0 x1∧s=sl x0 x1∧o=ob x0 x1
theorem Qd0 {A0 A1:Type} {inv:A0->A1->Prop} {ms:A0->A1->Nat} {sl:A0->A1->List (Nat × AVal)} {ob:A0->A1->Objs} {nt n0 m:Nat} {s:St} (x0:A0) (x1:A1) (hw:Weaker nt n0 s ⟨sl x0 x1,ob x0 x1⟩) (hlt:ms x0 x1<m) (hi:inv x0 x1):∃ m' s'' o'',m'<m∧Weaker nt n0 s ⟨s'',o''⟩∧LoopI2 inv ms sl ob m' s'' o'':=⟨_,_,_,hlt,hw,x0,x1,hi,rfl,rfl,rfl⟩
theorem Qq0 {A0 A1:Type} (inv:A0->A1->Prop) (ms:A0->A1->Nat) (sl:A0->A1->List (Nat × AVal)) (ob:A0->A1->Objs) (x0:A0) (x1:A1) {nt n0:Nat} {s:St} {B:(Nat->List (Nat × AVal)->Objs->Prop)->Nat->List (Nat × AVal)->Objs->Prop} (hw:Weaker nt n0 s ⟨sl x0 x1,ob x0 x1⟩) (hi:inv x0 x1) (hb:∀ x0 x1,inv x0 x1->B (LoopI2 inv ms sl ob) (ms x0 x1) (sl x0 x1) (ob x0 x1)):∃ I n s1 o1,Weaker nt n0 s ⟨s1,o1⟩∧I n s1 o1 ∧ ∀ m s o,I m s o->B I m s o :=
 ⟨LoopI2 inv ms sl ob,_,_,_,hw,⟨x0,x1,hi,rfl,rfl,rfl⟩,by rintro _ _ _ ⟨x0,x1,hy,rfl,rfl,rfl⟩;exact hb x0 x1 hy⟩
def LoopI3 {A0 A1 A2:Type} (inv:A0->A1->A2->Prop) (ms:A0->A1->A2->Nat) (sl:A0->A1->A2->List (Nat × AVal)) (ob:A0->A1->A2->Objs):Nat->List (Nat × AVal)->Objs->Prop:=fun m s o=>∃ x0 x1 x2,inv x0 x1 x2∧m=ms x0 x1 x2∧s=sl x0 x1 x2∧o=ob x0 x1 x2
theorem Qz1 {A0 A1 A2:Type} {inv:A0->A1->A2->Prop} {ms:A0->A1->A2->Nat} {sl:A0->A1->A2->List (Nat × AVal)} {ob:A0->A1->A2->Objs} {nt n0 m:Nat} {s:St} (x0:A0) (x1:A1) (x2:A2) (hw:Weaker nt n0 s ⟨sl x0 x1 x2,ob x0 x1 x2⟩) (hlt:ms x0 x1 x2<m) (hi:inv x0 x1 x2):∃ m' s'' o'',m'<m∧Weaker nt n0 s ⟨s'',o''⟩∧LoopI3 inv ms sl ob m' s'' o'':=⟨_,_,_,hlt,hw,x0,x1,x2,hi,rfl,rfl,rfl⟩
theorem Qr4 {A0 A1 A2:Type} (inv:A0->A1->A2->Prop) (ms:A0->A1->A2->Nat) (sl:A0->A1->A2->List (Nat × AVal)) (ob:A0->A1->A2->Objs) (x0:A0) (x1:A1) (x2:A2) {nt n0:Nat} {s:St} {B:(Nat->List (Nat × AVal)->Objs->Prop)->Nat->List (Nat × AVal)->Objs->Prop} (hw:Weaker nt n0 s ⟨sl x0 x1 x2,ob x0 x1 x2⟩) (hi:inv x0 x1 x2) (hb:∀ x0 x1 x2,inv x0 x1 x2->B (LoopI3 inv ms sl ob) (ms x0 x1 x2) (sl x0 x1 x2) (ob x0 x1 x2)):∃ I n s1 o1,Weaker nt n0 s ⟨s1,o1⟩∧I n s1 o1 ∧ ∀ m s o,I m s o->B I m s o :=
 ⟨LoopI3 inv ms sl ob,_,_,_,hw,⟨x0,x1,x2,hi,rfl,rfl,rfl⟩,by rintro _ _ _ ⟨x0,x1,x2,hy,rfl,rfl,rfl⟩;exact hb x0 x1 x2 hy⟩
def JoinI3 {A0 A1 A2:Type} (inv:A0->A1->A2->Prop) (sl:A0->A1->A2->List (Nat × AVal)) (ob:A0->A1->A2->Objs):List (Nat × AVal)->Objs->Prop:=fun s o=>∃ x0 x1 x2,inv x0 x1 x2∧s=sl x0 x1 x2∧o=ob x0 x1 x2
theorem QD6 {A0 A1 A2:Type} {inv:A0->A1->A2->Prop} {sl:A0->A1->A2->List (Nat × AVal)} {ob:A0->A1->A2->Objs} {nt n0:Nat} {s:St} (x0:A0) (x1:A1) (x2:A2) (hw:Weaker nt n0 s ⟨sl x0 x1 x2,ob x0 x1 x2⟩) (hi:inv x0 x1 x2):∃ s'' o'',Weaker nt n0 s ⟨s'',o''⟩∧JoinI3 inv sl ob s'' o'':=⟨_,_,hw,x0,x1,x2,hi,rfl,rfl⟩
theorem Qgd {A0 A1 A2:Type} (inv:A0->A1->A2->Prop) (sl:A0->A1->A2->List (Nat × AVal)) (ob:A0->A1->A2->Objs) {B:List (Nat × AVal)->Objs->Prop} {A:(List (Nat × AVal)->Objs->Prop)->Prop} (hb:∀ x0 x1 x2,inv x0 x1 x2->B (sl x0 x1 x2) (ob x0 x1 x2)) (ha:A (JoinI3 inv sl ob)):∃ J,(∀ s o,J s o->B s o)∧A J:=⟨JoinI3 inv sl ob,by rintro _ _ ⟨x0,x1,x2,hy,rfl,rfl⟩;exact hb x0 x1 x2 hy,ha⟩
def LoopI4 {A0 A1 A2 A3:Type} (inv:A0->A1->A2->A3->Prop) (ms:A0->A1->A2->A3->Nat) (sl:A0->A1->A2->A3->List (Nat × AVal)) (ob:A0->A1->A2->A3->Objs):Nat->List (Nat × AVal)->Objs->Prop:=fun m s o=>∃ x0 x1 x2 x3,inv x0 x1 x2 x3∧m=ms x0 x1 x2 x3∧s=sl x0 x1 x2 x3∧o=ob x0 x1 x2 x3
theorem Qr3 {A0 A1 A2 A3:Type} {inv:A0->A1->A2->A3->Prop} {ms:A0->A1->A2->A3->Nat} {sl:A0->A1->A2->A3->List (Nat × AVal)} {ob:A0->A1->A2->A3->Objs} {nt n0 m:Nat} {s:St} (x0:A0) (x1:A1) (x2:A2) (x3:A3) (hw:Weaker nt n0 s ⟨sl x0 x1 x2 x3,ob x0 x1 x2 x3⟩) (hlt:ms x0 x1 x2 x3<m) (hi:inv x0 x1 x2 x3):∃ m' s'' o'',m'<m∧Weaker nt n0 s ⟨s'',o''⟩∧LoopI4 inv ms sl ob m' s'' o'':=⟨_,_,_,hlt,hw,x0,x1,x2,x3,hi,rfl,rfl,rfl⟩
theorem QZ9 {A0 A1 A2 A3:Type} (inv:A0->A1->A2->A3->Prop) (ms:A0->A1->A2->A3->Nat) (sl:A0->A1->A2->A3->List (Nat × AVal)) (ob:A0->A1->A2->A3->Objs) (x0:A0) (x1:A1) (x2:A2) (x3:A3) {nt n0:Nat} {s:St} {B:(Nat->List (Nat × AVal)->Objs->Prop)->Nat->List (Nat × AVal)->Objs->Prop} (hw:Weaker nt n0 s ⟨sl x0 x1 x2 x3,ob x0 x1 x2 x3⟩) (hi:inv x0 x1 x2 x3) (hb:∀ x0 x1 x2 x3,inv x0 x1 x2 x3->B (LoopI4 inv ms sl ob) (ms x0 x1 x2 x3) (sl x0 x1 x2 x3) (ob x0 x1 x2 x3)):∃ I n s1 o1,Weaker nt n0 s ⟨s1,o1⟩∧I n s1 o1 ∧ ∀ m s o,I m s o->B I m s o :=
 ⟨LoopI4 inv ms sl ob,_,_,_,hw,⟨x0,x1,x2,x3,hi,rfl,rfl,rfl⟩,by rintro _ _ _ ⟨x0,x1,x2,x3,hy,rfl,rfl,rfl⟩;exact hb x0 x1 x2 x3 hy⟩
section
variable {P:Program} {nt n0:Nat} {keep:Nat->Bool}
def JumpQ (nt n0 l m:Nat) (I:Nat->List (Nat × AVal)->Objs->Prop) (Q:CQ):CQ:=fun e s o =>
 match e with
 | .goto l'=>l'=l ∧ ∃ m' s' o',m'<m∧Weaker nt n0 ⟨s,o⟩ ⟨s',o'⟩∧I m' s' o'
 | e=>Q e s o
theorem scope_jumps {b rest:Code} {Q:CQ} {sl:List (Nat × AVal)} {o:Objs} (l m0:Nat) (I:Nat->List (Nat × AVal)->Objs->Prop) (hf:findLabel b l=some rest)
  (pass:∀ m s o,I m s o->cwp P nt n0 keep rest (JumpQ nt n0 l m I Q) s o) (first:cwp P nt n0 keep b (JumpQ nt n0 l m0 I Q) sl o) :
  Qr9 P nt n0 (.scope b) (fun e t=>Q e t.slots t.objs) ⟨sl,o⟩:=by
 intro K0 K a w hn hle hs c k cs
 have hg:gotoIn l (.inScope b :: k)=some (.code rest :: .inScope b :: k):=by simp [gotoIn,hf]
 have key:∀ n s K a w,K0.le K->Sat nt K s a w->I n s.slots s.objs -> ∃ e a' w',Post nt K0 (fun e t=>Q e t.slots t.objs) e a' w'∧Arrives P (lone (c.at a (.code rest :: .inScope b :: k)) cs w) c k cs e a' w':=by
  intro n
  induction n using Nat.strongRecOn with
  | _ n ih =>
   intro s K a w hle hs hI
   obtain ⟨e,a₁,w₁,⟨e',K',s',rfl,hle',hs',hq⟩,harr⟩:=QD8 rest _ s K0 K a w hn hle hs (QR9 rest _ _ _ (pass n _ _ hI)) c (.inScope b :: k) cs
   cases e' with
   | normal=>exact ⟨_,a₁,w₁,⟨.normal,K',s',rfl,hle',hs',hq⟩,Steps.trans harr (.one step_inScope)⟩
   | exit id=>exact ⟨_,a₁,w₁,⟨.exit id,K',s',rfl,hle',hs',hq⟩,fun k' hk=>harr k' (by simp [exitTo,hk])⟩
   | goto l' =>
    obtain ⟨rfl,m',s2,o2,hlt,hw,hI'⟩:=hq
    obtain ⟨K'',hle'',hs''⟩:=hw K0 K' a₁ w₁ hn hle' hs'
    obtain ⟨e₂,a₂,w₂,hq₂,harr₂⟩:=ih m' hlt ⟨s2,o2⟩ K'' a₁ w₁ hle'' hs'' hI'
    exact ⟨e₂,a₂,w₂,hq₂,.of_steps (harr _ hg) harr₂⟩
   | ret=>exact ⟨_,a₁,w₁,⟨.ret,K',s',rfl,hle',hs',hq⟩,harr⟩
 obtain ⟨e,a₁,w₁,⟨e',K',s',rfl,hle',hs',hq⟩,harr⟩:=QD8 b _ ⟨sl,o⟩ K0 K a w hn hle hs (QR9 b _ _ _ first) c (.inScope b :: k) cs
 cases e' with
 | normal=>exact ⟨_,a₁,w₁,⟨.normal,K',s',rfl,hle',hs',hq⟩,.head step_scope (Steps.trans harr (.one step_inScope))⟩
 | exit id=>exact ⟨_,a₁,w₁,⟨.exit id,K',s',rfl,hle',hs',hq⟩,fun k' hk=>.head step_scope (harr k' (by simp [exitTo,hk]))⟩
 | goto l' =>
  obtain ⟨rfl,m',s2,o2,_,hw,hI'⟩:=hq
  obtain ⟨K'',hle'',hs''⟩:=hw K0 K' a₁ w₁ hn hle' hs'
  obtain ⟨e₂,a₂,w₂,hq₂,harr₂⟩:=key m' ⟨s2,o2⟩ K'' a₁ w₁ hle'' hs'' hI'
  exact ⟨e₂,a₂,w₂,hq₂,.of_steps (.head step_scope (harr _ hg)) harr₂⟩
 | ret=>exact ⟨_,a₁,w₁,⟨.ret,K',s',rfl,hle',hs',hq⟩,.of_steps (.one step_scope) harr⟩
theorem scope_start2 {A0 A1:Type} {b rest:Code} {Q:CQ} {sl:List (Nat × AVal)} {o:Objs} (l m0:Nat) (inv:A0->A1->Prop) (ms:A0->A1->Nat) (s1:A0->A1->List (Nat × AVal)) (o1:A0->A1->Objs) (hf:findLabel b l=some rest)
  (pass:∀ x0 x1,inv x0 x1->cwp P nt n0 keep rest (JumpQ nt n0 l (ms x0 x1) (LoopI2 inv ms s1 o1) Q) (s1 x0 x1) (o1 x0 x1)) (first:cwp P nt n0 keep b (JumpQ nt n0 l m0 (LoopI2 inv ms s1 o1) Q) sl o) :
  ∃ R:AExit->List (Nat × AVal)->Objs->Prop,Qr9 P nt n0 (.scope b) (fun e t=>R e t.slots t.objs) ⟨sl,o⟩ ∧ ∀ e s o,R e s o->Q e s o :=
 ⟨Q,scope_jumps l m0 _ hf (by rintro _ _ _ ⟨x0,x1,hy,rfl,rfl,rfl⟩;exact pass x0 x1 hy) first,fun _ _ _ h=>h⟩
end
theorem Qo9 {P:Program} {l n:Nat} {ops:Array Oper} {Q:Exit->Act->World->Prop} (hQ:¬ LetsOut Q) (hop:∀ o ∈ ops.toList,∀ c,o.op ≠ .defer c):∀ (is:List Nat) (a:Act) (w:World),
  wpOps P ops Q is a w->wpOpsIn (Fence.wide.inRound l) n P ops Q is a w
 | [],a,w,h=>h
 | i :: rest,a,w,h=>by
  simp only [wpOps] at h
  simp only [wpOpsIn]
  cases ho:ops[i]? with
  | none =>
   simp only [ho] at h ⊢
   exact Qo9 hQ hop rest a w h
  | some o =>
   simp only [ho] at h ⊢
   by_cases hw:Region.wanted o (yielded ops a.tmps)=true
   ·simp only [hw,if_true] at h ⊢
    rcases h with h|⟨_,h⟩
    ·refine ⟨fun _ _=>trivial,?_⟩
     have hm:o ∈ ops.toList:=List.mem_of_getElem? (by simpa using ho)
     rw [Fence.inRound_round,Oper.semAt_some l _ o (hop o hm)]
     unfold Oper.wp at h
     have ih:=fun a w=>Qo9 (P:=P) (l:=l) (n:=n) hQ hop rest a w
     revert h
     generalize (execOp a.eval o).run P w=r
     intro h
     cases r with
     | ok nx w' =>
      cases nx with
      | value v=>exact ih _ _ h
      | skip=>exact ih _ _ h
      | defer d=>exact ih _ _ h
      | enter f args =>
       refine ⟨fun hd=>by simp [Fence.inRound,Fence.wide] at hd,?_⟩
       refine CallsIn.inRound l (callsIn_wide.2 ?_)
       refine Calls.mono h ?_
       intro e w'' hr
       cases e with
       | returned v=>exact ih _ _ hr
       | panicked chain=>exact hr
       | outgrown=>exact hr
      | row row args =>
       refine ⟨fun hd=>by simp [Fence.inRound,Fence.wide] at hd,fun c cs _=>?_⟩
       obtain ⟨v,w'',hr,hs⟩:=h c cs
       exact ⟨v,w'',ih _ _ hr,stepsIn_wide.2 hs⟩
      | _=>exact h.elim
     | halt r w' =>
      cases r with
      | panic v=>exact h
      | _=>exact h.elim
    ·exact absurd h hQ
   ·simp only [hw,Bool.false_eq_true,if_false] at h ⊢
    exact ⟨fun _ _=>trivial,Qo9 hQ hop rest _ w h⟩
theorem MemSat.cells {K:Ctx} {s:Objs} {w:World} (h:MemSat K s w) {o:Nat} {q:Nat × AObj} (hq:s[o]? = some q) (hl:q.2.live=true) (hC:K.C o q.1 ≠ 0) (hr:∃ t k es,q.2 = .row t k es):∃ c t fr,w.heap[K.ρ o q.1]? = some (.cells c t fr):=by
 obtain ⟨ver,x⟩:=q
 obtain ⟨t,k,es,rfl⟩:=hr
 obtain ⟨_,_,h3⟩:=h.obj o _ hq
 obtain ⟨c,⟨fr,_,hc⟩,_⟩:=h3 hC
 exact ⟨c,t,fr,hc⟩
theorem Qia {w:World} {b i:Nat} {u:Value} (h:w.cell? ⟨b,i,none⟩=some u):∃ c t fr,w.heap[b]? = some (.cells c t fr):=by
 unfold World.cell? at h
 split at h
 ·rename_i c t fr e
  exact ⟨c,t,fr,e⟩
 ·simp at h
theorem MemSat.turned {K:Ctx} {s:Objs} {W W':World} {row:Option Nat} {B0:Nat} (h:MemSat K s W) (hrows:∀ q ∈ s,q.2.live=true -> ∃ t k es,q.2 = .row t k es) (hB:∀ b x,K.B b=some x->b<B0)
  (hg:W.grownBy W' row) (hr:∀ r,row=some r->B0<=r ∧ ∃ o:Obj,W.heap[r]? = some o∧o.isCells=false):MemSat K s W':=by
 have same:∀ (b:Nat) (c:Array Value) (t:TypeId) (fr:Nat × Nat),W.heap[b]? = some (.cells c t fr)->W'.heap[b]? = W.heap[b]?:=by
  intro b c t fr hb
  refine hg.block b (Array.getElem?_eq_some_iff.1 hb).1 fun e=>?_
  obtain ⟨_,o,ho,hn⟩:=hr b e.symm
  rw [hb] at ho
  cases ho
  simp [Obj.isCells] at hn
 have own:∀ (o:Nat) (p:Nat × AObj),s[o]? = some p->p.2.live=true->K.C o p.1 ≠ 0->W'.heap[K.ρ o p.1]? = W.heap[K.ρ o p.1]?:=by
  intro o p hp hl hC
  obtain ⟨c,t,fr,hc⟩:=h.cells hp hl hC (hrows p (List.mem_of_getElem? hp) hl)
  exact same _ _ _ _ hc
 refine ⟨h.len,h.ver,fun o p hp=>ObjSat.mono (Ctx.le.refl K) (h.olt hp) (by rw [h.ver o p hp];exact Nat.le_refl _) (h.obj o p hp) (fun hl hC=>own o p hp hl hC),fun o p hp hl hC=>?_,h.dis,fun b i u hu=>?_,?_⟩
 ·obtain ⟨h1,h2,h3⟩:=h.lo o p hp hl hC
  exact ⟨h1,Nat.lt_of_lt_of_le h2 hg.size,h3⟩
 ·obtain ⟨h1,h2⟩:=h.mem b i u hu
  obtain ⟨c,t,fr,hc⟩:=Qia h1
  exact ⟨(World.cell?_of_block (a:=⟨b,i,none⟩) (same _ _ _ _ hc)).trans h1,h2⟩
 ·refine h.below.step rfl rfl hg.os hg.tape hg.output hg.size fun b x hx=>hg.block b (h.below.lt hx) fun e=>?_
  have:=(hr b e.symm).1
  have:=hB b x hx
  omega
def Qs5 (B:Nat->Option Obj) (W:World) (b:Nat):Option Obj :=
 match B b with
 | some x=>some x
 | none=>match W.heap[b]? with|some (.cells ..)=>none|some x=>some x|none=>none
theorem QRa {B:Nat->Option Obj} {W:World} {b:Nat} {x:Obj} (h:B b=some x):Qs5 B W b=some x:=by simp only [Qs5,h]
theorem roundB_cells {B:Nat->Option Obj} {W:World} {b:Nat} {c:Array Value} {t:TypeId} {fr:Nat × Nat} (h:B b=none) (hb:W.heap[b]? = some (.cells c t fr)):Qs5 B W b=none:=by simp only [Qs5,h,hb]
theorem roundB_heap {B:Nat->Option Obj} {W:World} {b:Nat} {x:Obj} (h:Qs5 B W b=some x):B b=some x∨(W.heap[b]? = some x∧x.isCells=false):=by
 unfold Qs5 at h
 split at h
 ·rename_i y hy
  simp only [Option.some.injEq] at h
  subst h
  exact .inl hy
 ·right
  split at h
  ·cases h
  ·rename_i y hne hy
   simp only [Option.some.injEq] at h
   subst h
   refine ⟨hy,?_⟩
   cases y with
   | cells c t fr=>exact (hne _ _ _ rfl).elim
   | _=>rfl
  ·cases h
theorem roundB_same {B:Nat->Option Obj} {W W':World} (hp:∀ b x,Qs5 B W b=some x->W'.heap[b]? = some x) (hB:∀ b x,B b=some x->W.heap[b]? = some x) (hsz:W.heap.size<=W'.heap.size):KeepsOthers W W':=by
 refine ⟨hsz,fun k o hk hn=>hp k o ?_⟩
 unfold Qs5
 split
 ·rename_i x hx
  rw [hB k x hx] at hk
  simpa using hk
 ·rw [hk]
  cases o with
  | cells c t fr=>simp [Obj.isCells] at hn
  | _=>rfl
section
variable {P:Program} {nt n0:Nat}
def RoundI (nt:Nat) (K0 K:Ctx) (slots:List (Nat × AVal)) (objs:Objs) (tmps:Array Value) (W:World):Prop :=
 ∃ K1:Ctx,K0.le K1∧K1.B=K.B∧Sat nt K1 ⟨slots,objs⟩ { tmps:=tmps,defers:=[] } W
theorem rangeW_region {α:Type} {g:Operand} {p q aid bid rid:Nat} {oa:Oper} {ops:Array Oper} {s:St} (e:α->Value) (S:List α->Prop) (N:Nat) (so:List α->Objs) (h0:so []=s.objs) (hp:p<nt) (hq:q<nt)
  (hoa:oa.op = .assign (.tmp p)) (hod:oa.dst=some q) (hog:oa.guard=none) (hfree:Q11 s.slots p = .any)
  (hrows:∀ xs q,q ∈ so xs->q.2.live=true -> ∃ t k es,q.2 = .row t k es)
  (hit:∀ K a w,Sat nt K s a w -> ∃ (gf:Nat) (lb:Array Value) (pc:Addr) (u:Value),a.eval g = .func (.func gf) #[] lb∧(∀ args w,(callFunc gf args).run P w = .ok (.enter gf args) w)∧pc.block<w.heap.size ∧
   (∀ K1 xs W,Sat nt K1 ⟨s.slots,so xs⟩ { tmps:=a.tmps,defers:=[] } W->W.cell? pc=some u) ∧
   SeqStopsK Fence.wide 2 P gf lb (fun x=>#[e x]) (fun W W'=>W.cell? pc=some u->W'.cell? pc=some u) S (fun _=>True) N w)
  (hdefer:∀ o ∈ ops.toList,∀ c,o.op ≠ .defer c)
  (hbody:∀ pre x,pre.length<N->QZ5 P nt ops ((q,.lit (e x)) :: s.slots) false ops.toList (QJ9 ⟨(q,.lit (e x)) :: s.slots,so pre⟩) (fun rs=>Weaker nt n0 ⟨s.slots,rs.objs⟩ ⟨s.slots,so (pre++[x])⟩)) :
  Qr9 P nt n0 (.rangeFunc g #[p] (.region aid #[oa] false) (.block bid (.region rid ops false))) (fun e t=>e = .normal ∧ ∃ xs,S xs∧t=⟨s.slots,so xs⟩) s:=by
 intro K0 K a w hn hle hs
 obtain ⟨gf,lb,pc,u,hg,eg,hpc,hkeep,hseq⟩:=hit K a w hs
 have hBlt:∀ b x,K.B b=some x->b<w.heap.size:=fun b x hx=>hs.mem.below.lt hx
 refine (wpIn_wide (n:=3)).1 (wpIn_rangeFunc_ownF (F:=Fence.wide) rfl (by decide) hg trivial eg hseq (fun h k q=>k (h q)) ?_ (Below.refl _ w) (fun _=>rfl)
  (fun xs W=>RoundI nt K0 K s.slots (so xs) a.tmps W) (fun _ _ _=>False) ?_ (fun _ _ _ _ _ h=>h.elim) ?_ (fun x=>{ tmps:=(a.tmps.setIfInBounds p (e x)).setIfInBounds q (e x),defers:=[] }) ?_ ?_ ?_ (fun _ _ _ _ _ _ h=>h.elim))
 ·intro W l o o' hl ho _ _ hc
  have hne:pc.block ≠ l:=by omega
  exact (World.cell?_of_block (World.putObj_heap_other hne)).trans hc
 ·rintro xs W W' row ⟨K1,hle1,hB1,hs1⟩ hg' hr
  exact ⟨K1,hle1,hB1,hs1.mem.turned (hrows xs) (fun b x hx=>hBlt b x (by rw [← hB1];exact hx)) hg' hr,hs1.slot,hs1.size,Marks.nil⟩
 ·exact ⟨K,hle,rfl,by rw [h0];exact hs.mem,hs.slot,hs.size,Marks.nil⟩
 ·intro l x W Kq hK
  refine wpIn_region ?_
  have hz:(#[p].zip #[e x]) = #[(p,e x)]:=by simp
  have hsz:a.tmps.size=nt:=hs.size
  have hv:(a.tmps.setIfInBounds p (e x)).getD p undef=e x:=by
   rw [Array.getD_eq_getD_getElem?,Array.getElem?_setIfInBounds_self_of_lt (by omega)]
   rfl
  simp only [hz]
  show wpOpsIn (Fence.wide.inRound l) _ P #[oa] _ [0] _ _
  simp only [wpOpsIn,List.getElem?_toArray,List.getElem?_cons_zero,Region.wanted,hog,if_true]
  refine ⟨fun f hf=>by simp [Oper.about,hoa] at hf,?_⟩
  rw [Oper.semAt_eq _ _ _ (by simp [hoa])]
  unfold execOp
  rw [hoa]
  show Kq (Act.put _ oa.dst _) W
  rw [hod]
  show Kq { tmps:=(a.tmps.setIfInBounds p (e x)).setIfInBounds q ((a.tmps.setIfInBounds p (e x)).getD p undef),defers:=[] } W
  rw [hv]
  exact hK
 ·rintro l pre x W ⟨K1,hle1,hB1,hs1⟩ hlen
  have hBW:∀ b y,K.B b=some y->W.heap[b]? = some y:=fun b y hy=>hs1.mem.below.block b y (by rw [hB1];exact hy)
  have hm2:MemSat { K1 with B:=Qs5 K.B W,w0:=W } (so pre) W:=by
   refine hs1.mem.with _ W (fun o q hq hl hC=>?_) ⟨rfl,rfl,rfl,Nat.le_refl _,fun b y hy=>?_⟩
   ·obtain ⟨c,t,fr,hc⟩:=hs1.mem.cells hq hl hC (hrows pre q (List.mem_of_getElem? hq) hl)
    refine roundB_cells ?_ hc
    rw [← hB1]
    exact (hs1.mem.lo o q hq hl hC).1
   ·rcases roundB_heap hy with h|h
    ·exact hBW b y h
    ·exact h.1
  obtain ⟨Kb,hKb⟩:∃ Kb:Ctx,Kb={ K0 with B:=Qs5 K.B W,w0:=W,M:=fun b i=>match Qs5 K.B W b with|some _=>K1.M b i|none=>K0.M b i }:=⟨_,rfl⟩
  have hKbM:∀ b i u,K0.M b i=some u->Kb.M b i=some u:=by
   intro b i u hu
   rw [hKb]
   show (match Qs5 K.B W b with|some _=>K1.M b i|none=>K0.M b i)=some u
   split
   ·exact hle1.M b i u hu
   ·exact hu
  have hKb0:∀ b i y,Qs5 K.B W b=some y->Kb.M b i=K1.M b i:=by
   intro b i y hy
   rw [hKb]
   show (match Qs5 K.B W b with|some _=>K1.M b i|none=>K0.M b i)=_
   rw [hy]
  have hleb:Kb.le { K1 with B:=Qs5 K.B W,w0:=W }:=by
   refine ⟨fun b i u hu=>?_,by rw [hKb];exact hle1.ρ,by rw [hKb];exact hle1.C,by rw [hKb];exact hle1.n,by rw [hKb];exact hle1.vs,by rw [hKb],by rw [hKb];exact fun _ _ h=>h,fun b i y hy=>?_⟩
   ·rw [hKb] at hu
    show K1.M b i=some u
    change (match Qs5 K.B W b with|some _=>K1.M b i|none=>K0.M b i)=some u at hu
    split at hu
    ·exact hu
    ·exact hle1.M b i u hu
   ·rw [hKb] at hy
    exact (hKb0 b i y hy).symm
  have hs2:Sat nt { K1 with B:=Qs5 K.B W,w0:=W } ⟨(q,.lit (e x)) :: s.slots,so pre⟩ { tmps:=(a.tmps.setIfInBounds p (e x)).setIfInBounds q (e x),defers:=[] } W:=by
   refine ⟨hm2,fun t=>?_,by have:=hs1.size;simpa using this,Marks.nil⟩
   show Rep _ (Q11 ((q,.lit (e x)) :: s.slots) t) _
   have hsz:a.tmps.size=nt:=hs1.size
   rw [Q12]
   by_cases ht:q=t
   ·subst ht
    rw [if_pos rfl]
    have:((a.tmps.setIfInBounds p (e x)).setIfInBounds q (e x)).getD q undef=e x:=by
     rw [Array.getD_eq_getD_getElem?,Array.getElem?_setIfInBounds_self_of_lt (by simp;omega)]
     rfl
    simp only [this]
    exact .lit _
   ·rw [if_neg ht]
    by_cases hpt:p=t
    ·subst hpt
     rw [hfree]
     exact .any _
    ·have:((a.tmps.setIfInBounds p (e x)).setIfInBounds q (e x)).getD t undef=a.tmps.getD t undef:=by
      rw [Array.getD_eq_getD_getElem?,Array.getD_eq_getD_getElem?,Array.getElem?_setIfInBounds_ne ht,Array.getElem?_setIfInBounds_ne hpt]
     simp only [this]
     exact (hs1.slot t).monoR (Qk3 K1 _ W)
  refine wpIn_block (wpIn_region ?_)
  refine Qo9 ?_ hdefer _ _ _ ?_
  ·rintro ⟨a',w',h⟩
   exact h
  rw [List.range_eq_range']
  refine Q07 (K0:={ K1 with B:=Qs5 K.B W,w0:=W }) (Kt:=fun rs=>Weaker nt n0 ⟨s.slots,rs.objs⟩ ⟨s.slots,so (pre++[x])⟩) ?_ ops.size 0 (by omega) _ _ _ _ (.refl _) hs2.start (by simpa using hbody pre x hlen)
  intro K2 rs a' w' hle2 hr hk
  have hs3:Sat nt K2 ⟨s.slots,rs.objs⟩ { tmps:=a.tmps,defers:=[] } w':=⟨hr.mem,fun t=>((hs1.slot t).monoR (Qk3 K1 _ W)).mono hle2,hs1.size,Marks.nil⟩
  obtain ⟨K3,hle3,hs4⟩:=hk Kb K2 _ w' (by rw [hKb];exact hn) (hleb.trans hle2) hs3
  have hblock:∀ b y,Qs5 K.B W b=some y->w'.heap[b]? = some y:=fun b y hy=>hs4.mem.below.block b y (hle3.B b y (by rw [hKb];exact hy))
  have hsz:W.heap.size<=w'.heap.size:=by have:=hs4.mem.below.size;rw [hle3.w0,hKb] at this;exact this
  have hmem:MemSat { K3 with B:=K.B,w0:=K0.w0 } (so (pre++[x])) w':=by
   refine hs4.mem.with K.B K0.w0 (fun o q hq hl hC=>?_) ?_
   ·cases hb:K.B (K3.ρ o q.1) with
    | none=>rfl
    | some y =>
     have:=hle3.B _ y (by rw [hKb];exact QRa hb)
     rw [(hs4.mem.lo o q hq hl hC).1] at this
     cases this
   ·have q:=hs4.mem.below
    have q1:=hs1.mem.below
    have e0:=hle1.w0
    have e3:K3.w0=W:=by rw [hle3.w0,hKb]
    refine ⟨?_,?_,?_,?_,fun b y hy=>hblock b y (QRa hy)⟩
    ·rw [q.os,e3,q1.os,e0]
    ·rw [q.tape,e3,q1.tape,e0]
    ·rw [q.output,e3,q1.output,e0]
    ·have:=q1.size;rw [e0] at this;exact Nat.le_trans this hsz
  have hI:RoundI nt K0 K s.slots (so (pre++[x])) a.tmps w':=by
   refine ⟨{ K3 with B:=K.B,w0:=K0.w0 },⟨fun b i u hu=>hle3.M b i u (hKbM b i u hu),by have:=hle3.ρ;rw [hKb] at this;exact this,by have:=hle3.C;rw [hKb] at this;exact this,by have:=hle3.n;rw [hKb] at this;exact this,by have:=hle3.vs;rw [hKb] at this;exact this,rfl,hle.B,fun b i y hy=>((hle3.M0 b i y (by rw [hKb];exact QRa (hle.B b y hy))).trans (hKb0 b i y (QRa (hle.B b y hy)))).trans (hle1.M0 b i y hy)⟩,rfl,hmem,fun t=>(hs4.slot t).monoR (Qk3 K3 _ _),hs1.size,Marks.nil⟩
  refine ⟨roundB_same hblock hBW hsz,fun _=>?_,hI⟩
  obtain ⟨K4,_,_,hs5⟩:=hI
  exact hkeep K4 _ w' hs5
 ·rintro D xs W hD hS ⟨K1,hle1,hB1,hs1⟩ hk
  have hB2:∀ b y,K.B b=some y->(if b=D then some (Obj.deferred (some [])) else K.B b)=some y:=fun b y hy=>by
   have:=hBlt b y hy
   rw [if_neg (by omega)]
   exact hy
  refine ⟨.normal,{ K1 with B:=fun b=>if b=D then some (.deferred (some [])) else K.B b },⟨s.slots,so xs⟩,rfl,⟨hle1.M,hle1.ρ,hle1.C,hle1.n,hle1.vs,hle1.w0,fun b y hy=>hB2 b y (hle.B b y hy),hle1.M0⟩,⟨?_,fun t=>(hs1.slot t).monoR (Qk3 K1 _ K1.w0),hs1.size,?_⟩,rfl,xs,hS,rfl⟩
  ·refine hs1.mem.with _ K1.w0 (fun o q hq hl hC=>?_) ?_
   ·obtain ⟨c,t,fr,hc⟩:=hs1.mem.cells hq hl hC (hrows xs q (List.mem_of_getElem? hq) hl)
    have hne:K1.ρ o q.1 ≠ D:=fun e=>by rw [e,hk] at hc;cases hc
    show (if K1.ρ o q.1=D then _ else _)=none
    rw [if_neg hne,← hB1]
    exact (hs1.mem.lo o q hq hl hC).1
   ·have q1:=hs1.mem.below
    refine ⟨q1.os,q1.tape,q1.output,q1.size,fun b y hy=>?_⟩
    by_cases hb:b=D
    ·subst hb
     simp only [if_true] at hy
     rw [hk]
     exact hy
    ·simp only [if_neg hb] at hy
     exact q1.block b y (by rw [hB1];exact hy)
  ·have hw0:K1.w0=K.w0:=hle1.w0.trans hle.w0.symm
   refine ⟨List.nodup_cons.2 ⟨fun hin=>?_,hs.defers.1⟩,fun d hd=>?_⟩
   ·obtain ⟨D',h1,h2,_⟩:=hs.defers.2 _ hin
    simp only [Deferred.mk.injEq,Target.collected.injEq,and_true] at h1
    subst h1
    have:=hBlt _ _ h2
    omega
   ·rcases List.mem_cons.1 hd with rfl|hd
    ·refine ⟨D,rfl,by simp,?_⟩
     show K1.w0.heap.size<=D
     rw [hw0]
     exact Nat.le_trans hs.mem.below.size hD
    ·obtain ⟨D',h1,h2,h3⟩:=hs.defers.2 d hd
     refine ⟨D',h1,hB2 _ _ h2,?_⟩
     show K1.w0.heap.size<=D'
     rw [hw0]
     exact h3
theorem range_next {α:Type} {g:Operand} {p q aid bid rid:Nat} {oa:Oper} {ops:Array Oper} {sl:List (Nat × AVal)} {o:Objs} {Q:CQ} (e:α->Value) (ys:List α) (so:List α->Objs) (h0:so []=o) (hp:p<nt) (hq:q<nt)
  (hoa:oa.op = .assign (.tmp p)) (hod:oa.dst=some q) (hog:oa.guard=none) (hfree:Q11 sl p = .any)
  (hrows:∀ xs q,q ∈ so xs->q.2.live=true -> ∃ t k es,q.2 = .row t k es)
  (hit:∀ K a w,Sat nt K ⟨sl,o⟩ a w -> ∃ (gf:Nat) (lb:Array Value) (pc:Addr) (u:Value),a.eval g = .func (.func gf) #[] lb∧(∀ args w,(callFunc gf args).run P w = .ok (.enter gf args) w)∧pc.block<w.heap.size ∧
   (∀ K1 xs W,Sat nt K1 ⟨sl,so xs⟩ { tmps:=a.tmps,defers:=[] } W->W.cell? pc=some u) ∧
   SeqStopsK Fence.wide 2 P gf lb (fun x=>#[e x]) (fun W W'=>W.cell? pc=some u->W'.cell? pc=some u) (fun zs=>zs=ys) (fun _=>True) ys.length w)
  (hdefer:(ops.toList.all fun o=>match o.op with | .defer _=>false|_=>true)=true)
  (hbody:∀ pre x,pre.length<ys.length->cops P nt ops ((q,.lit (e x)) :: sl) false ops.toList [] [] (so pre) (fun _ _ o=>Weaker nt n0 ⟨sl,o⟩ ⟨sl,so (pre++[x])⟩))
  (hQ:Q .normal sl (so ys)) :
  ∃ R:AExit->List (Nat × AVal)->Objs->Prop,Qr9 P nt n0 (.rangeFunc g #[p] (.region aid #[oa] false) (.block bid (.region rid ops false))) (fun e t=>R e t.slots t.objs) ⟨sl,o⟩ ∧ ∀ e s o,R e s o->Q e s o:=by
 refine ⟨fun e s o=>e = .normal∧s=sl∧o=so ys,?_,?_⟩
 ·intro K0 K a w hn hle hs
  refine wp_mono (rangeW_region (P:=P) (nt:=nt) (n0:=n0) (s:=⟨sl,o⟩) e (fun zs=>zs=ys) ys.length so h0 hp hq hoa hod hog hfree hrows hit ?_ ?_ K0 K a w hn hle hs) ?_
  ·intro o ho c hc
   have:=List.all_eq_true.1 hdefer o ho
   rw [hc] at this
   cases this
  ·intro pre x hlen
   exact Qb9 (hbody pre x hlen)
  ·rintro e' a' w' ⟨e1,K1,s1,he,hle1,hs1,rfl,xs,rfl,rfl⟩
   exact ⟨.normal,K1,_,he,hle1,hs1,rfl,rfl,rfl⟩
 ·rintro e s o ⟨rfl,rfl,rfl⟩
  exact hQ
theorem QHd {n0:Nat} {r:AVal} {o:Objs}:Told n0 r o r o:=fun _ K _ _ _ hle hm hr=>⟨K,hle,hm,hr⟩
theorem box_cell {K:Ctx} {objs:Objs} {w:World} {o:Nat} {t:TypeId} {v:Value} (hm:MemSat K objs w) (ho:objs[o]? = some (0,.row t 1 [[.lit v]])):w.cell? ⟨K.ρ o 0,0,none⟩=some v∧K.ρ o 0<w.heap.size:=by
 obtain ⟨_,h2,h3⟩:=hm.obj o _ ho
 have hC:K.C o 0 ≠ 0:=by simp at h2;omega
 obtain ⟨c,⟨fr,_,hc⟩,_,_,hx⟩:=h3 hC
 obtain ⟨u,hu,hr⟩:=hx 0 0 [.lit v] (.lit v) rfl rfl
 have:=QX0 hr
 subst this
 exact ⟨by simpa [World.cell?,hc] using hu,(Array.getElem?_eq_some_iff.1 hc).1⟩
theorem Qzd {K:Ctx} {f:FuncId} {o o' k k' i j i' j':Nat} {v:Value} (h:Rep K (.fn (.func f) [] [.ptr o 0 k i j,.ptr o' 0 k' i' j']) v):v = .func (.func f) #[] #[.pointer (some ⟨K.ρ o 0,i*k+j,none⟩),.pointer (some ⟨K.ρ o' 0,i'*k'+j',none⟩)]:=by
 cases h with
 | fn _ _ _ vs us hl hm h g =>
  match vs,us,hl,hm with
  | [],[u1,u2],_,_ =>
   have h1:=g 0 _ _ rfl rfl
   have h2:=g 1 _ _ rfl rfl
   cases h1 with
   | ptr=>cases h2 with
    | ptr=>rfl
end
end Go.Fw
namespace Go.Proofs.YtldebhdmhpopaaaGreatDoor
set_option linter.unusedSimpArgs false
set_option linter.unusedVariables false
open Go.Fw
def ints (l:List Int):AVal:=listA 1 (fun n=>[I n]) 0 l
def runes (l:List Int):AVal:=listA 1 (fun n=>[J n]) 0 l
theorem runes_low (l:List Int) (n:Nat):Low n (runes l):=listA_low fun _=>rfl
structure Alt where
 nodes:Int
 wall:Int
 deriving DecidableEq
def Alt.zero:Alt:=⟨0,0⟩
def Alt.cells (x:Alt):List AVal:=[I x.nodes,I x.wall]
def Alt.a (x:Alt):AVal:=.agg x.cells
def altL (l:List Alt):AVal:=listA 2 Alt.cells .zero l
theorem Alt.lo {n:Nat} {a0 a1:Int}:LowL n [I a0,I a1]:=l1 (l1 (.nil))
theorem Alt.lowc (x:Alt) (n:Nat):LowL n x.cells:=Alt.lo
instance:LowC Alt.cells:=⟨fun n x=>x.lowc n⟩
theorem Alt.low (x:Alt) (n:Nat):Low n x.a:=.agg' (x.lowc n)
theorem Alt.lows (l:List Alt) (n:Nat):Low n (altL l):=QE4 fun x=>x.lowc n
structure Shape where
 kind:Int
 alts:List Alt
 min:Int
 max:Int
 wall:Int
 deriving DecidableEq
def Shape.zero:Shape:=⟨0,[],0,0,0⟩
def Shape.cells (x:Shape):List AVal:=[I x.kind,altL x.alts,I x.min,I x.max,I x.wall]
def Shape.a (x:Shape):AVal:=.agg x.cells
theorem Shape.lo {n:Nat} {a0 a2 a3 a4:Int} {a1:List Alt}:LowL n [I a0,altL a1,I a2,I a3,I a4]:=l1 (lv (Alt.lows _ _) (l1 (l1 (l1 (.nil)))))
theorem Shape.lowc (x:Shape) (n:Nat):LowL n x.cells:=Shape.lo
instance:LowC Shape.cells:=⟨fun n x=>x.lowc n⟩
theorem Shape.low (x:Shape) (n:Nat):Low n x.a:=.agg' (x.lowc n)
def Shape.szN (N:Nat) (x:Shape):Prop:=x.alts.length<=N
abbrev Shape.sz (x:Shape):Prop:=x.szN 4294967296
abbrev Shape.szM (x:Shape):Prop:=x.szN 9223372036854775807
structure Dep where
 how:Int
 job:Int
 deriving DecidableEq
def Dep.zero:Dep:=⟨0,0⟩
def Dep.cells (x:Dep):List AVal:=[I x.how,I x.job]
def Dep.a (x:Dep):AVal:=.agg x.cells
def depL (l:List Dep):AVal:=listA 2 Dep.cells .zero l
theorem Dep.lo {n:Nat} {a0 a1:Int}:LowL n [I a0,I a1]:=l1 (l1 (.nil))
theorem Dep.lowc (x:Dep) (n:Nat):LowL n x.cells:=Dep.lo
instance:LowC Dep.cells:=⟨fun n x=>x.lowc n⟩
theorem Dep.low (x:Dep) (n:Nat):Low n x.a:=.agg' (x.lowc n)
theorem Dep.lows (l:List Dep) (n:Nat):Low n (depL l):=QE4 fun x=>x.lowc n
structure Token where
 kind:Int
 text:ByteArray
 num:Int
 at_:Int
 deriving DecidableEq
def Token.zero:Token:=⟨0,⟨#[]⟩,0,0⟩
def Token.cells (x:Token):List AVal:=[I x.kind,Sg x.text,I x.num,I x.at_]
def Token.a (x:Token):AVal:=.agg x.cells
def tokenL (l:List Token):AVal:=listA 4 Token.cells .zero l
theorem Token.lo {n:Nat} {a0 a2 a3:Int} {a1:ByteArray}:LowL n [I a0,Sg a1,I a2,I a3]:=l1 (l1 (l1 (l1 (.nil))))
theorem Token.lowc (x:Token) (n:Nat):LowL n x.cells:=Token.lo
instance:LowC Token.cells:=⟨fun n x=>x.lowc n⟩
structure Cmd where
 kind:Int
 job:Int
 name:ByteArray
 user:ByteArray
 account:ByteArray
 shape:Shape
 prio:Int
 hasPrio:Bool
 time:Int
 hasTime:Bool
 after:List Dep
 node:Int
 nodes:Int
 from_:Int
 deriving DecidableEq
def Cmd.cells (x:Cmd):List AVal:=[I x.kind,I x.job,Sg x.name,Sg x.user,Sg x.account,I x.shape.kind,altL x.shape.alts,I x.shape.min,I x.shape.max,I x.shape.wall,I x.prio,Bo x.hasPrio,I x.time,Bo x.hasTime,depL x.after,I x.node,I x.nodes,I x.from_]
def Cmd.a (x:Cmd):AVal:=.agg x.cells
theorem Cmd.lo {n:Nat} {a0 a1 a5 a7 a8 a9 a10 a12 a15 a16 a17:Int} {a2 a3 a4:ByteArray} {a6:List Alt} {a11 a13:Bool} {a14:List Dep}:LowL n [I a0,I a1,Sg a2,Sg a3,Sg a4,I a5,altL a6,I a7,I a8,I a9,I a10,Bo a11,I a12,Bo a13,depL a14,I a15,I a16,I a17]:=l1 (l1 (l1 (l1 (l1 (l1 (lv (Alt.lows _ _) (l1 (l1 (l1 (l1 (l1 (l1 (l1 (lv (Dep.lows _ _) (l1 (l1 (l1 (.nil))))))))))))))))))
theorem Cmd.lowc (x:Cmd) (n:Nat):LowL n x.cells:=Cmd.lo
instance:LowC Cmd.cells:=⟨fun n x=>x.lowc n⟩
theorem Cmd.low (x:Cmd) (n:Nat):Low n x.a:=.agg' (x.lowc n)
def Cmd.szN (N:Nat) (x:Cmd):Prop:=x.name.size<=N∧x.user.size<=N∧x.account.size<=N∧x.shape.szN N∧x.after.length<=N
abbrev Cmd.sz (x:Cmd):Prop:=x.szN 4294967296
structure Step where
 at_:Int
 free:Int
 deriving DecidableEq
def Step.zero:Step:=⟨0,0⟩
def Step.cells (x:Step):List AVal:=[I x.at_,I x.free]
def stepL (l:List Step):AVal:=listA 2 Step.cells .zero l
theorem Step.lo {n:Nat} {a0 a1:Int}:LowL n [I a0,I a1]:=l1 (l1 (.nil))
theorem Step.lowc (x:Step) (n:Nat):LowL n x.cells:=Step.lo
instance:LowC Step.cells:=⟨fun n x=>x.lowc n⟩
theorem Step.lows (l:List Step) (n:Nat):Low n (stepL l):=QE4 fun x=>x.lowc n
structure Node where
 state:Int
 job:Int
 epoch:Int
 drain:Bool
 want:Int
 since:Int
 asked:Int
 deriving DecidableEq
def Node.zero:Node:=⟨0,0,0,false,0,0,0⟩
def Node.cells (x:Node):List AVal:=[I x.state,I x.job,I x.epoch,Bo x.drain,I x.want,I x.since,I x.asked]
def Node.a (x:Node):AVal:=.agg x.cells
def nodeL (l:List Node):AVal:=listA 7 Node.cells .zero l
theorem Node.lo {n:Nat} {a0 a1 a2 a4 a5 a6:Int} {a3:Bool}:LowL n [I a0,I a1,I a2,Bo a3,I a4,I a5,I a6]:=l1 (l1 (l1 (l1 (l1 (l1 (l1 (.nil)))))))
theorem Node.lowc (x:Node) (n:Nat):LowL n x.cells:=Node.lo
instance:LowC Node.cells:=⟨fun n x=>x.lowc n⟩
theorem Node.low (x:Node) (n:Nat):Low n x.a:=.agg' (x.lowc n)
theorem Node.lows (l:List Node) (n:Nat):Low n (nodeL l):=QE4 fun x=>x.lowc n
structure Job where
 id:Int
 name:ByteArray
 user:ByteArray
 account:ByteArray
 shape:Shape
 prio:Int
 after:List Dep
 state:Int
 held:Bool
 born:Int
 promise:Int
 choice:Int
 start:Int
 limit:Int
 nodes:Int
 used:Int
 deriving DecidableEq
def Job.zero:Job:=⟨0,⟨#[]⟩,⟨#[]⟩,⟨#[]⟩,Shape.zero,0,[],0,false,0,0,0,0,0,0,0⟩
def Job.cells (x:Job):List AVal:=[I x.id,Sg x.name,Sg x.user,Sg x.account,I x.shape.kind,altL x.shape.alts,I x.shape.min,I x.shape.max,I x.shape.wall,I x.prio,depL x.after,I x.state,Bo x.held,I x.born,I x.promise,I x.choice,I x.start,I x.limit,U x.nodes,I x.used]
def Job.a (x:Job):AVal:=.agg x.cells
def jobL (l:List Job):AVal:=listA 20 Job.cells .zero l
theorem Job.lo {n:Nat} {a0 a4 a6 a7 a8 a9 a11 a13 a14 a15 a16 a17 a18 a19:Int} {a1 a2 a3:ByteArray} {a5:List Alt} {a10:List Dep} {a12:Bool}:LowL n [I a0,Sg a1,Sg a2,Sg a3,I a4,altL a5,I a6,I a7,I a8,I a9,depL a10,I a11,Bo a12,I a13,I a14,I a15,I a16,I a17,U a18,I a19]:=l1 (l1 (l1 (l1 (l1 (lv (Alt.lows _ _) (l1 (l1 (l1 (l1 (lv (Dep.lows _ _) (l1 (l1 (l1 (l1 (l1 (l1 (l1 (l1 (l1 (.nil))))))))))))))))))))
theorem Job.lowc (x:Job) (n:Nat):LowL n x.cells:=Job.lo
instance:LowC Job.cells:=⟨fun n x=>x.lowc n⟩
theorem Job.low (x:Job) (n:Nat):Low n x.a:=.agg' (x.lowc n)
theorem Job.lows (l:List Job) (n:Nat):Low n (jobL l):=QE4 fun x=>x.lowc n
def Job.szN (N:Nat) (x:Job):Prop:=x.name.size<=N∧x.user.size<=N∧x.account.size<=N∧x.shape.szN N∧x.after.length<=N
abbrev Job.sz (x:Job):Prop:=x.szN 4294967296
abbrev Job.szM (x:Job):Prop:=x.szN 9223372036854775807
theorem Job.szz (N:Nat):Job.zero.szN N:=by simp [Job.szN,Job.zero,ByteArray.size,Shape.szN,Shape.zero]
structure Resize where
 job:Int
 grow:Bool
 nodes:Int
 said:Int
 since:Int
 deriving DecidableEq
def Resize.zero:Resize:=⟨0,false,0,0,0⟩
def Resize.cells (x:Resize):List AVal:=[I x.job,Bo x.grow,U x.nodes,U x.said,I x.since]
def Resize.a (x:Resize):AVal:=.agg x.cells
def Qq1 (l:List Resize):AVal:=listA 5 Resize.cells .zero l
theorem Resize.lo {n:Nat} {a0 a2 a3 a4:Int} {a1:Bool}:LowL n [I a0,Bo a1,U a2,U a3,I a4]:=l1 (l1 (l1 (l1 (l1 (.nil)))))
theorem Resize.lowc (x:Resize) (n:Nat):LowL n x.cells:=Resize.lo
instance:LowC Resize.cells:=⟨fun n x=>x.lowc n⟩
theorem Resize.low (x:Resize) (n:Nat):Low n x.a:=.agg' (x.lowc n)
theorem Resize.lows (l:List Resize) (n:Nat):Low n (Qq1 l):=QE4 fun x=>x.lowc n
structure Book where
 id:Int
 from_:Int
 to:Int
 nodes:Int
 deriving DecidableEq
def Book.zero:Book:=⟨0,0,0,0⟩
def Book.cells (x:Book):List AVal:=[I x.id,I x.from_,I x.to,I x.nodes]
def Book.a (x:Book):AVal:=.agg x.cells
def bookL (l:List Book):AVal:=listA 4 Book.cells .zero l
theorem Book.lo {n:Nat} {a0 a1 a2 a3:Int}:LowL n [I a0,I a1,I a2,I a3]:=l1 (l1 (l1 (l1 (.nil))))
theorem Book.lowc (x:Book) (n:Nat):LowL n x.cells:=Book.lo
instance:LowC Book.cells:=⟨fun n x=>x.lowc n⟩
theorem Book.low (x:Book) (n:Nat):Low n x.a:=.agg' (x.lowc n)
theorem Book.lows (l:List Book) (n:Nat):Low n (bookL l):=QE4 fun x=>x.lowc n
structure Usage where
 user:ByteArray
 account:ByteArray
 used:Int
 share:Int
 deriving DecidableEq
def Usage.zero:Usage:=⟨⟨#[]⟩,⟨#[]⟩,0,0⟩
def Usage.cells (x:Usage):List AVal:=[Sg x.user,Sg x.account,I x.used,I x.share]
def Usage.a (x:Usage):AVal:=.agg x.cells
def Qt1 (l:List Usage):AVal:=listA 4 Usage.cells .zero l
theorem Usage.lo {n:Nat} {a0 a1:ByteArray} {a2 a3:Int}:LowL n [Sg a0,Sg a1,I a2,I a3]:=l1 (l1 (l1 (l1 (.nil))))
theorem Usage.lowc (x:Usage) (n:Nat):LowL n x.cells:=Usage.lo
instance:LowC Usage.cells:=⟨fun n x=>x.lowc n⟩
theorem Usage.low (x:Usage) (n:Nat):Low n x.a:=.agg' (x.lowc n)
theorem Usage.lows (l:List Usage) (n:Nat):Low n (Qt1 l):=QE4 fun x=>x.lowc n
def Usage.szN (N:Nat) (x:Usage):Prop:=x.user.size<=N∧x.account.size<=N
abbrev Usage.sz (x:Usage):Prop:=x.szN 4294967296
abbrev Usage.szM (x:Usage):Prop:=x.szN 9223372036854775807
theorem Usage.szz (N:Nat):Usage.zero.szN N:=by simp [Usage.szN,Usage.zero,ByteArray.size]
structure State where
 now:Int
 nodes:List Node
 jobs:List Job
 resizes:List Resize
 books:List Book
 ledger:List Usage
 nextJob:Int
 nextBook:Int
 deriving DecidableEq
def State.zero:State:=⟨0,[],[],[],[],[],0,0⟩
def State.cells (x:State):List AVal:=[I x.now,nodeL x.nodes,jobL x.jobs,Qq1 x.resizes,bookL x.books,Qt1 x.ledger,I x.nextJob,I x.nextBook]
def State.a (x:State):AVal:=.agg x.cells
theorem State.lo {n:Nat} {a0 a6 a7:Int} {a1:List Node} {a2:List Job} {a3:List Resize} {a4:List Book} {a5:List Usage}:LowL n [I a0,nodeL a1,jobL a2,Qq1 a3,bookL a4,Qt1 a5,I a6,I a7]:=l1 (lv (Node.lows _ _) (lv (Job.lows _ _) (lv (Resize.lows _ _) (lv (Book.lows _ _) (lv (Usage.lows _ _) (l1 (l1 (.nil))))))))
theorem State.lowc (x:State) (n:Nat):LowL n x.cells:=State.lo
instance:LowC State.cells:=⟨fun n x=>x.lowc n⟩
theorem State.low (x:State) (n:Nat):Low n x.a:=.agg' (x.lowc n)
def State.szN (N:Nat) (x:State):Prop:=x.nodes.length<=N∧x.jobs.length<=N∧(∀ y ∈ x.jobs,y.szN N)∧x.resizes.length<=N∧x.books.length<=N∧x.ledger.length<=N∧(∀ y ∈ x.ledger,y.szN N)
abbrev State.sz (x:State):Prop:=x.szN 4294967296
abbrev State.szM (x:State):Prop:=x.szN 9223372036854775807
theorem State.szz (N:Nat):State.zero.szN N:=by simp [State.szN,State.zero,ByteArray.size]
structure Note where
 kind:Int
 node:Int
 job:Int
 epoch:Int
 deriving DecidableEq
def Note.zero:Note:=⟨0,0,0,0⟩
def Note.cells (x:Note):List AVal:=[I x.kind,I x.node,I x.job,I x.epoch]
def Note.a (x:Note):AVal:=.agg x.cells
def noteL (l:List Note):AVal:=listA 4 Note.cells .zero l
theorem Note.lo {n:Nat} {a0 a1 a2 a3:Int}:LowL n [I a0,I a1,I a2,I a3]:=l1 (l1 (l1 (l1 (.nil))))
theorem Note.lowc (x:Note) (n:Nat):LowL n x.cells:=Note.lo
instance:LowC Note.cells:=⟨fun n x=>x.lowc n⟩
theorem Note.low (x:Note) (n:Nat):Low n x.a:=.agg' (x.lowc n)
structure Out where
 kind:Int
 text:ByteArray
 note:Note
 job:Int
 at_:Int
 raised:Bool
 deriving DecidableEq
def Out.zero:Out:=⟨0,⟨#[]⟩,Note.zero,0,0,false⟩
def Out.cells (x:Out):List AVal:=[I x.kind,Sg x.text,I x.note.kind,I x.note.node,I x.note.job,I x.note.epoch,I x.job,I x.at_,Bo x.raised]
def outL (l:List Out):AVal:=listA 9 Out.cells .zero l
theorem Out.lo {n:Nat} {a0 a2 a3 a4 a5 a6 a7:Int} {a1:ByteArray} {a8:Bool}:LowL n [I a0,Sg a1,I a2,I a3,I a4,I a5,I a6,I a7,Bo a8]:=l1 (l1 (l1 (l1 (l1 (l1 (l1 (l1 (l1 (.nil)))))))))
theorem Out.lowc (x:Out) (n:Nat):LowL n x.cells:=Out.lo
instance:LowC Out.cells:=⟨fun n x=>x.lowc n⟩
def Out.szN (N:Nat) (x:Out):Prop:=x.text.size<=N
abbrev Out.sz (x:Out):Prop:=x.szN 4294967296
theorem Out.szz (N:Nat):Out.zero.szN N:=by simp [Out.szN,Out.zero,ByteArray.size]
structure LexReader where
 line:List Int
 at_:Int
 bad:Int
 error:Int
 deriving DecidableEq
def LexReader.zero:LexReader:=⟨[],0,0,0⟩
theorem LexReader.lo {n:Nat} {a0:List Int} {a1 a2 a3:Int}:LowL n [runes a0,I a1,I a2,I a3]:=lv (runes_low _ _) (l1 (l1 (l1 (.nil))))
def LexReader.szN (N:Nat) (x:LexReader):Prop:=x.line.length<=N
abbrev LexReader.sz (x:LexReader):Prop:=x.szN 4294967296
structure Taken where
 p:List Step
 deriving DecidableEq
theorem Taken.lo {n:Nat} {a0:List Step}:LowL n [stepL a0]:=lv (Step.lows _ _) (.nil)
def Taken.szN (N:Nat) (x:Taken):Prop:=x.p.length<=N
abbrev Taken.sz (x:Taken):Prop:=x.szN 4294967296
structure Ranked where
 what:Int
 prio:Int
 share:Int
 id:Int
 deriving DecidableEq
def Ranked.zero:Ranked:=⟨0,0,0,0⟩
def Ranked.cells (x:Ranked):List AVal:=[I x.what,I x.prio,I x.share,I x.id]
theorem Ranked.lo {n:Nat} {a0 a1 a2 a3:Int}:LowL n [I a0,I a1,I a2,I a3]:=l1 (l1 (l1 (l1 (.nil))))
theorem Ranked.lowc (x:Ranked) (n:Nat):LowL n x.cells:=Ranked.lo
instance:LowC Ranked.cells:=⟨fun n x=>x.lowc n⟩
structure Work where
 state:State
 told:List Out
 deriving DecidableEq
def Work.zero:Work:=⟨State.zero,[]⟩
def Work.szN (N:Nat) (x:Work):Prop:=x.state.szN N∧x.told.length<=N∧(∀ y ∈ x.told,y.szN N)
abbrev Work.sz (x:Work):Prop:=x.szN 4294967296
def atoiOK (s:ByteArray):Prop:=1<=s.size∧s.size<=9 ∧ ∀ i,i<s.size->48<=(s.data.toList.getD i 0).toNat∧(s.data.toList.getD i 0).toNat<=57
theorem atoi_minus {s:ByteArray} (h:atoiOK s) (c:(((s.data.toList.getD 0 0).toNat:Int)==45)=true):False:=by
 have:=h.2.2 0 h.1
 have e:=eq_of_beq c
 omega
theorem atoi_sign {s:ByteArray} (h:atoiOK s) (c:((((s.data.toList.getD 0 0).toNat:Int)==45)||(((s.data.toList.getD 0 0).toNat:Int)==43))=true):False:=by
 have:=h.2.2 0 h.1
 rcases (Bool.or_eq_true _ _).mp c with c|c <;> have e:=eq_of_beq c <;> omega
theorem bytesOf_getD (s:ByteArray) (i:Nat):(Qd6 s).getD i 0=((s.data.toList.getD i 0).toNat:Int):=by
 unfold Qd6
 simp only [List.getD,List.getElem?_map]
 cases s.data.toList[i]? <;> rfl
theorem atoi_digit {s:ByteArray} (h:atoiOK s) {i:Nat} (hi:i<s.size) (c:decide (wu8 (((Qd6 s).getD i 0) - 48) > 9)=true):False:=by
 have h1:=h.2.2 i hi
 have c:=of_decide_eq_true c
 rw [bytesOf_getD] at c
 rw [show wu8 (((s.data.toList.getD i 0).toNat:Int) - 48)=((s.data.toList.getD i 0).toNat:Int) - 48 by rw [wu8,IntKind.wrap_u8];omega] at c
 omega
theorem getD_byte (s:ByteArray) {i:Nat} (h:i<s.size):s.data.toList.getD i 0=s[i]'h:=by
 have h':i<s.data.toList.length:=by simpa using h
 simp [List.getD,List.getElem?_eq_getElem h']
 rfl
theorem Qd9 (s:ByteArray) (i:Nat) (h:i<s.size):i+(Utf8.decode s i).2<=s.size:=by
 unfold Utf8.decode
 dsimp only
 split
 ·simp;omega
 ·split
  ·rename_i hc
   simp only [Bool.and_eq_true,decide_eq_true_eq] at hc
   split <;> simp <;> omega
  ·split
   ·rename_i hc
    simp only [Bool.and_eq_true,decide_eq_true_eq] at hc
    split <;> simp <;> omega
   ·split
    ·rename_i hc
     simp only [Bool.and_eq_true,decide_eq_true_eq] at hc
     split <;> simp <;> omega
    ·simp;omega
theorem extract_size (s:ByteArray) (a b:Nat):(s.extract a b).size<=s.size:=by
 rw [ByteArray.size_extract]
 omega
theorem digits_bytes (s:ByteArray):∀ (m pos:Nat),s.size - pos<=m->(∀ x ∈ QV4 s m pos,48<=x.2∧x.2<=57) -> ∀ i,pos<=i->i<s.size->48<=(s.data.toList.getD i 0).toNat∧(s.data.toList.getD i 0).toNat<=57:=by
 intro m
 induction m with
 | zero=>intro pos hm _ i h1 h2;omega
 | succ m ih =>
  intro pos hm hx i h1 h2
  have hp:pos<s.size:=by omega
  rw [Qy5 (decide_eq_true hp)] at hx
  have h0:=hx _ List.mem_cons_self
  have ha:(s[pos]'hp).toNat<128:=by
   rcases Nat.lt_or_ge (s[pos]'hp).toNat 128 with h|h
   ·exact h
   ·have:=(decode_high s pos hp h).1
    simp only at h0
    omega
  have hd:=decode_ascii s pos hp ha
  rw [hd] at h0 hx
  by_cases hi:i=pos
  ·subst hi
   rw [getD_byte s hp]
   simp only at h0
   omega
  ·exact ih (pos+1) (by omega) (fun x hm=>hx x (List.mem_cons_of_mem _ hm)) i (by omega) h2
theorem gives_of_calls {P:Program} {f:FuncId} {vs:List Value} {v:Value} (h:∀ w,Calls P f vs.toArray w fun e w'=>e = .returned v∧w'=w) (objs:Objs):AGives P f (vs.map .lit) objs (.lit v):=by
 intro K w us hm hr
 have e:us=vs:=by
  have h1:=hr.1
  refine List.ext_getElem? fun i=>?_
  rcases Nat.lt_or_ge i vs.length with hi|hi
  ·have hu:i<us.length:=by rw [h1];simpa using hi
   have:=hr.2 i (.lit vs[i]) us[i] (by simp [List.getElem?_eq_getElem hi]) (List.getElem?_eq_getElem hu)
   rw [List.getElem?_eq_getElem hi,List.getElem?_eq_getElem hu]
   rw [QX0 this]
  ·rw [List.getElem?_eq_none hi,List.getElem?_eq_none (by rw [h1];simpa using hi)]
 subst e
 refine (h w).mono ?_
 rintro e w' ⟨rfl,rfl⟩
 exact ⟨v,.lit v,objs,K,rfl,.refl K,hm,.lit v,rfl,rfl⟩
set_option maxHeartbeats 1000000 in
set_option maxRecDepth 100000 in
theorem indexByte1 (s:ByteArray) (c:Int) (w:World) :
  Calls Tryz.prog 298 #[.string s,.int .u8 c] w fun e w'=>e = .returned (.int .i64 (Lib.indexByte s.data.toList c.toNat.toUInt8))∧w'=w:=by
 go_enter Tryz.func298,Tryz.ntmps298
 go_wp2
 rw [run_callFunc_extern Tryz.func303 (by kernel_rfl) (by kernel_rfl) (by kernel_rfl) (e:=Extern.BytealgIndexByte.indexByte) (by kernel_rfl),Lib.run_indexByteString]
 simp only [Result.andThen]
 rw [Oper.upon_value]
 go_wp2
 go_ret
 exact ⟨rfl,rfl⟩
def QG4 (s:ByteArray) (c:Int):Int:=Lib.indexByte s.data.toList c.toNat.toUInt8
set_option maxHeartbeats 1000000 in
theorem indexByte2 (s:ByteArray) (c:Int) (w:World) :
  Calls Tryz.prog 285 #[.string s,.int .u8 c] w fun e w'=>e = .returned (.int .i64 (QG4 s c))∧w'=w:=by
 go_enter Tryz.func285,Tryz.ntmps285
 go_wp2_with (go_at_call 298;refine (indexByte1 _ _ _).mono ?_;rintro e w' ⟨rfl,rfl⟩)
 go_ret
 exact ⟨rfl,rfl⟩
theorem Q8a (s:ByteArray) (c:Int):∀ objs,AGives Tryz.prog 285 [Sg s,Y c] objs (I (QG4 s c)) :=
 gives_of_calls (vs:=[.string s,.int .u8 c]) fun w=>indexByte2 s c w
end Go.Proofs.YtldebhdmhpopaaaGreatDoor
namespace Go.Proofs.YtldebhdmhpopaaaGreatDoor
set_option linter.unusedSimpArgs false
set_option linter.unusedVariables false
open Go Go.RowKit Go.Proofs
theorem bldPtr:Tryz.prog.underlying 328 = some (.pointer 331):=by kernel_rfl
theorem bldUnsafe:Tryz.prog.underlying 348 = some .unsafePointer:=by kernel_rfl
theorem bldInfo:(Tryz.prog.info? 331).map (·.size)=some 2:=by kernel_rfl
theorem bldCells:Tryz.prog.cellsOf 331 = 2:=by kernel_rfl
set_option maxHeartbeats 1000000 in
set_option maxRecDepth 100000 in
theorem copyCheck_used (b:Nat) (w:World) (h0:w.cell? ⟨b,0,none⟩=some (.pointer (some ⟨b,0,none⟩))) :
  Calls Tryz.prog 300 #[.pointer (some ⟨b,0,none⟩)] w fun e w'=>e = .returned (.tuple #[])∧w'=w:=by
 obtain ⟨j,hj,_⟩:=Option.map_eq_some_iff.1 bldInfo
 go_enter Tryz.func300,Tryz.ntmps300
 go_wp2
 rw [Lib.run_neq_ptr_same w _ bldPtr hj]
 go_wp2
 go_end0
 exact ⟨rfl,rfl⟩
set_option maxHeartbeats 1000000 in
set_option maxRecDepth 100000 in
theorem QRc (te:TypeId) (m b:Nat) (w:World) (h0:w.cell? ⟨b,0,none⟩=some (.pointer none)) (hsh:w.shape? b=some (te,m)) (hm:0<m) (hlies:liesAt Tryz.prog Tryz.prog.depth te (m / Tryz.prog.cellsOf te) 0 331 1=true) (hfz:w.frozen? ⟨b,0,none⟩=false) :
  Calls Tryz.prog 300 #[.pointer (some ⟨b,0,none⟩)] w fun e w'=>e = .returned (.tuple #[])∧w'=w.setCell ⟨b,0,none⟩ (.pointer (some ⟨b,0,none⟩)):=by
 obtain ⟨j,hj,hjs⟩:=Option.map_eq_some_iff.1 bldInfo
 go_enter Tryz.func300,Tryz.ntmps300
 go_wp2
 rw [Lib.run_to_unsafe w ⟨b,0,none⟩ bldPtr bldUnsafe hj (by rw [hjs];decide) hsh hm]
 simp only [Result.andThen]
 rw [Oper.upon_value]
 go_wp2
 rw [run_callFunc_extern Tryz.func308 (by kernel_rfl) (by kernel_rfl) (by kernel_rfl) (e:=Extern.AbiNoEscape.same) (by kernel_rfl)]
 rw [Lib.run_noEscape]
 simp only [Result.andThen]
 rw [Oper.upon_value]
 go_wp2
 rw [Lib.run_from_unsafe w ⟨b,0,none⟩ bldUnsafe bldPtr hj hsh hlies]
 simp only [Result.andThen]
 rw [Oper.upon_value]
 go_wp2
 go_end0
 exact ⟨rfl,rfl⟩
theorem bldBytePtr:Tryz.prog.underlying 342 = some (.pointer 5):=by kernel_rfl
theorem bldByte1:Tryz.prog.cellsOf 5 = 1:=by kernel_rfl
set_option maxHeartbeats 2000000 in
set_option maxRecDepth 100000 in
theorem Q9b (b:Nat) (w:World) (c0:w.cell? ⟨b,1,none⟩=some (.slice none 0 0)) :
  Calls Tryz.prog 290 #[.pointer (some ⟨b,0,none⟩)] w fun e w'=>e = .returned (.string ⟨#[]⟩)∧w'=w.drew:=by
 have hUS:=fun (W:World) (q:Option Addr)=>Lib.run_unsafeString_none (P:=Tryz.prog) (w:=W) 342 3 9 q
 have c1:w.drew.cell? ⟨b,1,none⟩=some (.slice none 0 0):=c0
 have hSD:(Builtin.unsafeSliceData_ #[329] 342 #[.slice none 0 0]).run Tryz.prog w.drew = .ok (.pointer none) w.drew:=rfl
 have mixed:Tryz.prog.follows .mixedOrders=true:=by kernel_rfl
 go_enter Tryz.func290,Tryz.ntmps290
 go_wp2
 go_region_o
 all_goals (go_wp2;go_ret;exact ⟨rfl,rfl⟩)
set_option maxHeartbeats 2000000 in
set_option maxRecDepth 100000 in
theorem Qga (b cap:Nat) (a:Addr) (w:World) (hc0:cap ≠ 0) (c0:w.cell? ⟨b,1,none⟩=some (.slice (some a) 0 cap)) :
  Calls Tryz.prog 290 #[.pointer (some ⟨b,0,none⟩)] w fun e w'=>e = .returned (.string ⟨#[]⟩)∧w'=w.drew:=by
 have hUS:=fun (W:World) (q:Option Addr)=>Lib.run_unsafeString_none (P:=Tryz.prog) (w:=W) 342 3 9 q
 have c1:w.drew.cell? ⟨b,1,none⟩=some (.slice (some a) 0 cap):=c0
 have hSD:(Builtin.unsafeSliceData_ #[329] 342 #[.slice (some a) 0 cap]).run Tryz.prog w.drew = .ok (.pointer (some a)) w.drew:=Lib.run_unsafeSliceData_row _ _ _ _ _ _ hc0
 clear hc0
 have mixed:Tryz.prog.follows .mixedOrders=true:=by kernel_rfl
 go_enter Tryz.func290,Tryz.ntmps290
 go_wp2
 go_region_o
 all_goals (go_wp2;go_ret;exact ⟨rfl,rfl⟩)
set_option maxHeartbeats 2000000 in
set_option maxRecDepth 100000 in
theorem Qha (b g cap:Nat) (cur:Array Value) (fr:Nat × Nat) (l:List UInt8) (w:World) (h0:l ≠ []) (c0:w.cell? ⟨b,1,none⟩=some (.slice (some ⟨g,0,none⟩) l.length cap))
  (hg:w.heap[g]? = some (.cells cur 5 fr)) (hcap:l.length<=cap) (hcur:l.length<=cur.size) (h63:l.length<=9223372036854775807) (hcell:∀ (j:Nat) (x:UInt8),l[j]? = some x->cur[j]? = some (Value.int .u8 x.toNat)) :
  Calls Tryz.prog 290 #[.pointer (some ⟨b,0,none⟩)] w fun e w'=>e = .returned (.string ⟨l.toArray⟩)∧w'=w.drew.freeze ⟨g,0,none⟩ l.length:=by
 have hl0:l.length ≠ 0:=by simpa using h0
 have c1:w.drew.cell? ⟨b,1,none⟩=some (.slice (some ⟨g,0,none⟩) l.length cap):=c0
 have hg':w.drew.heap[g]? = some (.cells cur 5 fr):=hg
 have hSD:(Builtin.unsafeSliceData_ #[329] 342 #[.slice (some ⟨g,0,none⟩) l.length cap]).run Tryz.prog w.drew = .ok (.pointer (some ⟨g,0,none⟩)) w.drew :=
  Lib.run_unsafeSliceData_row _ _ _ _ _ _ (by omega)
 have hUS:(Builtin.unsafeString_ #[342,3] 9 #[.pointer (some ⟨g,0,none⟩),.int .i64 l.length]).run Tryz.prog w.drew = .ok (.string ⟨l.toArray⟩) (w.drew.freeze ⟨g,0,none⟩ l.length):=by
  refine Lib.run_unsafeString_row (P:=Tryz.prog) (w:=w.drew) 342 3 9 5 bldBytePtr bldByte1 g cur.size (by simp [World.shape?,hg']) l h0 hcur h63 ?_
  intro j x hx
  have e:((⟨g,0,none⟩:Addr).add j)=⟨g,j,none⟩:=by
   simp [Addr.add]
   exact fun h=>h.symm
  rw [e,Lib.cell_of_heap hg']
  exact hcell j x hx
 have mixed:Tryz.prog.follows .mixedOrders=true:=by kernel_rfl
 go_enter Tryz.func290,Tryz.ntmps290
 go_wp2
 go_region_o
 all_goals (go_wp2;go_ret;exact ⟨rfl,rfl⟩)
end Go.Proofs.YtldebhdmhpopaaaGreatDoor
namespace Go.Proofs.YtldebhdmhpopaaaGreatDoor
set_option linter.unusedSimpArgs false
set_option linter.unusedVariables false
open Go.Fw
theorem liesAt_self {P:Program} {e:TypeId} {k:Nat} (hc:P.cellsOf e=k+1) (count:Nat) (hn:1<=count):liesAt P P.depth e count 0 e 1=true:=by
 have hd:P.depth=(2*(P.types.size+Made.depth)+1)+1:=rfl
 rw [hd]
 simp only [liesAt,Bool.or_eq_true]
 left
 rw [hd]
 simp [rowAt,hc,hn,sameLayout]
theorem QG6 {K:Ctx} {objs:Objs} {w:World} {o ver k:Nat} {te:TypeId} {xs:List AVal} (hm:MemSat K objs w) (hp:objs[o]? = some (ver,.row te k [xs])) :
  K.C o ver ≠ 0 ∧ ∃ (c:Array Value) (fr:Nat × Nat),w.heap[K.ρ o ver]? = some (.cells c te fr)∧frFree fr (c.size+rim k)∧c.size=K.C o ver*k∧(∀ u ∈ c.toList,u.oneCell'=true) ∧ ∀ (j:Nat) (x:AVal),xs[j]? = some x -> ∃ u:Value,c[j]? = some u∧Rep K x u:=by
 obtain ⟨h1,h2,h3⟩:=hm.obj o _ hp
 have hC:K.C o ver ≠ 0:=by simp at h2;omega
 obtain ⟨c,⟨fr,hfr,hb⟩,hs,h1',hr⟩:=h3 hC
 refine ⟨hC,c,fr,hb,hfr,hs,h1',fun j x hx=>?_⟩
 obtain ⟨u,hu,hru⟩:=hr 0 j xs x rfl hx
 exact ⟨u,by simpa using hu,hru⟩
theorem setCell_row {w:World} {b off:Nat} {c:Array Value} {te:TypeId} {fr:Nat × Nat} (hb:w.heap[b]? = some (.cells c te fr)) (v:Value):w.setCell ⟨b,off,none⟩ v=w.setRow b (c.setIfInBounds off v):=by
 unfold World.setCell World.setRow
 congr 1
 apply Array.ext_getElem?
 intro i
 simp only [Array.getElem?_modify]
 by_cases hi:b=i
 ·subst hi
  simp [hb]
 ·simp [hi]
theorem frozen_row {w:World} {b off:Nat} {c:Array Value} {te:TypeId} {fr:Nat × Nat} {n:Nat} (hb:w.heap[b]? = some (.cells c te fr)) (hfr:frFree fr n) (ho:off<n):w.frozen? ⟨b,off,none⟩=false:=by
 have:=hfr off ho
 simp only [World.frozen?,hb]
 simp
 omega
structure BldT (te:TypeId):Prop where
 cells:Tryz.prog.cellsOf te=2
 lies:∀ n:Nat,1<=n->liesAt Tryz.prog Tryz.prog.depth te n 0 331 1=true
theorem bldT0:BldT 331:=⟨bldCells,fun n hn=>liesAt_self bldCells n hn⟩
theorem Qeb {te:TypeId} (ht:BldT te) {x:AVal} {rest:Objs} {n0:Nat} (hn:n0<=rest.length+1):AMoves Tryz.prog 300 [.ptr 0 0 2 0 0] ((0,.row te 2 [[.lit (.pointer none),x]]) :: rest) n0 (.tup []) ((0,.row te 2 [[.ptr 0 0 2 0 0,x]]) :: rest):=by
 intro K w vs hm hr
 have hp:(((0,.row te 2 [[.lit (.pointer none),x]]) :: rest:Objs))[0]? = some (0,.row te 2 [[.lit (.pointer none),x]]):=rfl
 obtain ⟨hC,c,fr,hb,hfr,hs,h1,hx⟩:=QG6 hm hp
 have hvs:vs=[.pointer (some ⟨K.ρ 0 0,0,none⟩)]:=by
  obtain ⟨v,rfl⟩:∃ v,vs=[v]:=List.length_eq_one_iff.1 hr.1
  obtain ⟨e,_,_⟩:=QL4 (hr.2 0 _ _ rfl rfl)
  rw [e]
 subst hvs
 have hsz:2<=c.size:=by rw [hs];omega
 obtain ⟨u0,hu0,hr0⟩:=hx 0 _ rfl
 obtain ⟨u1,hu1,hr1⟩:=hx 1 _ rfl
 have e0:=QX0 hr0
 subst e0
 have hc0:w.cell? ⟨K.ρ 0 0,0,none⟩=some (.pointer none):=by rw [Lib.cell_of_heap hb];exact hu0
 refine (QRc te c.size (K.ρ 0 0) w hc0 (by simp [World.shape?,hb]) (by omega) ?_ (frozen_row hb hfr (by omega))).mono ?_
 ·rw [ht.cells,hs]
  exact ht.lies _ (by rw [Nat.mul_div_cancel _ (by decide)];omega)
 ·rintro e w' ⟨rfl,rfl⟩
  refine ⟨_,K,rfl,Qv9 (by rw [← hm.len];exact hn),?_,.tup _ [] rfl (fun i x v h=>by simp at h)⟩
  rw [setCell_row hb]
  have hm':=hm.setRow hp hC c (c.setIfInBounds 0 (.pointer (some ⟨K.ρ 0 0,0,none⟩))) ⟨fr,hfr,hb⟩ (by simp) (fun u hu=>?_) [[.ptr 0 0 2 0 0,x]] (by simp;omega) (by simp) (fun i j e y he hy=>?_)
  ·exact hm'
  ·rw [Array.toList_setIfInBounds] at hu
   rcases List.mem_or_eq_of_mem_set hu with hu|rfl
   ·exact h1 u hu
   ·rfl
  ·have hi:i=0:=by have:=(List.getElem?_eq_some_iff.1 he).1;simp at this;omega
   subst hi
   simp at he
   subst he
   rcases j with _|_|j
   ·simp at hy
    subst hy
    refine ⟨.pointer (some ⟨K.ρ 0 0,0,none⟩),by rw [show 0*2+0=0 from rfl,Array.getElem?_setIfInBounds,if_pos rfl,if_pos (by omega)],?_⟩
    have:=Rep.ptr (K:=K) 0 0 2 0 0 (by rw [← hm.len];exact Nat.succ_pos _) (Nat.zero_le _)
    simpa using this
   ·simp at hy
    subst hy
    refine ⟨u1,?_,hr1⟩
    rw [Array.getElem?_setIfInBounds_ne (by omega)]
    simpa using hu1
   ·simp at hy
theorem Q6c {te:TypeId} {x:AVal} {rest:Objs} {n0:Nat} (hn:n0<=rest.length+1):AMoves Tryz.prog 300 [.ptr 0 0 2 0 0] ((0,.row te 2 [[.ptr 0 0 2 0 0,x]]) :: rest) n0 (.tup []) ((0,.row te 2 [[.ptr 0 0 2 0 0,x]]) :: rest):=by
 intro K w vs hm hr
 have hp:(((0,.row te 2 [[.ptr 0 0 2 0 0,x]]) :: rest:Objs))[0]? = some (0,.row te 2 [[.ptr 0 0 2 0 0,x]]):=rfl
 obtain ⟨hC,c,fr,hb,hfr,hs,h1,hx⟩:=QG6 hm hp
 have hvs:vs=[.pointer (some ⟨K.ρ 0 0,0,none⟩)]:=by
  obtain ⟨v,rfl⟩:∃ v,vs=[v]:=List.length_eq_one_iff.1 hr.1
  obtain ⟨e,_,_⟩:=QL4 (hr.2 0 _ _ rfl rfl)
  rw [e]
 subst hvs
 obtain ⟨u0,hu0,hr0⟩:=hx 0 _ rfl
 obtain ⟨e0,_,_⟩:=QL4 hr0
 subst e0
 have hc0:w.cell? ⟨K.ρ 0 0,0,none⟩=some (.pointer (some ⟨K.ρ 0 0,0,none⟩)):=by rw [Lib.cell_of_heap hb];simpa using hu0
 refine (copyCheck_used (K.ρ 0 0) w hc0).mono ?_
 rintro e w' ⟨rfl,rfl⟩
 exact ⟨_,K,rfl,Qv9 (by rw [← hm.len];exact hn),hm,.tup _ [] rfl (fun i x v h=>by simp at h)⟩
theorem QEd {w:World} {b:Nat} {c:Array Value} {te:TypeId} {fr:Nat × Nat} (hb:w.heap[b]? = some (.cells c te fr)):w.setRow b c=w:=by
 have e:w.setRow b c={ w with heap:=w.heap }:=by
  unfold World.setRow
  congr 1
  apply Array.ext_getElem?
  intro i
  rw [Array.getElem?_modify]
  by_cases hi:b=i
  ·subst hi
   rw [if_pos rfl,hb];rfl
  ·rw [if_neg hi]
 exact e
theorem copyCheck_m {te:TypeId} (ht:BldT te) {x:AVal} {rest:Objs} {n0:Nat} (hn:n0<=rest.length+1):AMoves Tryz.prog 300 [.ptr 0 0 2 0 0] ((0,.row te 2 [[.sel 0 0 2 0 0,x]]) :: rest) n0 (.tup []) ((0,.row te 2 [[.ptr 0 0 2 0 0,x]]) :: rest):=by
 intro K w vs hm hr
 obtain ⟨hC,c,fr,hb,hfr,hs,h1,hx⟩:=QG6 hm (o:=0) (ver:=0) (k:=2) (te:=te) (xs:=[.sel 0 0 2 0 0,x]) rfl
 obtain ⟨u0,hu0,hr0⟩:=hx 0 _ rfl
 have one:∀ {a:AVal},Rep K a u0 -> ∀ u,c[0]? = some u->Rep K a u:=fun h u hu=>by rw [hu0] at hu;cases hu;exact h
 have tell:∀ {a:AVal},Rep K a u0->MemSat K ((0,.row te 2 [[a,x]]) :: rest) w:=by
  intro a ha
  have hp:((0,.row te 2 [[.sel 0 0 2 0 0,x]]) :: rest:Objs)[0]? = some (0,.row te 2 [[.sel 0 0 2 0 0,x]]):=rfl
  have hm':=hm.setRow hp hC c c ⟨fr,hfr,hb⟩ rfl h1 [[a,x]] (by simp;omega) (by simp) (fun i j e y he hy=>?_)
  ·rw [QEd hb] at hm'
   exact hm'
  ·have hi:i=0:=by have:=(List.getElem?_eq_some_iff.1 he).1;simp at this;omega
   subst hi
   simp at he
   subst he
   rcases j with _|_|j
   ·simp at hy
    subst hy
    exact ⟨u0,by simpa using hu0,ha⟩
   ·simp at hy
    subst hy
    obtain ⟨u1,hu1,hr1⟩:=hx 1 _ rfl
    exact ⟨u1,by simpa using hu1,hr1⟩
   ·simp at hy
 cases hr0 with
 | selNil=>exact Qeb ht hn K w vs (tell (.lit _)) hr
 | selPtr _ _ _ _ _ ho hv=>exact Q6c hn K w vs (tell (.ptr _ _ _ _ _ ho hv)) hr
abbrev QB4 (l:List Int):AObj:=.row 5 1 (l.map fun q=>[Y q])
set_option maxRecDepth 20000
set_option maxHeartbeats 4000000
attribute [local irreducible] ACalls AMoves
end Go.Proofs.YtldebhdmhpopaaaGreatDoor
namespace Go.Proofs.YtldebhdmhpopaaaGreatDoor
set_option linter.unusedSimpArgs false
set_option linter.unusedVariables false
open Go.Fw
theorem freeze_setB {w:World} {g n:Nat} {c:Array Value} {t:TypeId} {fr:Nat × Nat} (hg:w.heap[g]? = some (.cells c t fr)):∃ fr',w.freeze ⟨g,0,none⟩ n=setB w g (.cells c t fr'):=by
 unfold World.freeze
 by_cases hn:n=0
 ·rw [if_pos hn]
  refine ⟨fr,?_⟩
  have e:w.heap=w.heap.setIfInBounds g (.cells c t fr):=by
   apply Array.ext_getElem?
   intro i
   rw [Array.getElem?_setIfInBounds]
   by_cases hi:g=i
   ·subst hi
    have:=(Array.getElem?_eq_some_iff.1 hg).1
    rw [if_pos rfl,if_pos this,hg]
   ·rw [if_neg hi]
  unfold setB
  rw [← e]
 ·rw [if_neg hn]
  obtain ⟨lo,hi⟩:=fr
  refine ⟨if lo==hi then (0,0+n) else (min lo 0,max hi (0+n)),?_⟩
  unfold setB
  congr 1
  apply Array.ext_getElem?
  intro i
  rw [Array.getElem?_setIfInBounds,Array.getElem?_modify]
  by_cases hi:g=i
  ·subst hi
   have:=(Array.getElem?_eq_some_iff.1 hg).1
   rw [if_pos rfl,if_pos rfl,if_pos this,hg]
   rfl
  ·rw [if_neg hi,if_neg hi]
section
variable {K:Ctx} {objs:Objs} {w:World}
theorem MemSat.kill (h:MemSat K objs w) {o ver:Nat} {p:AObj} (hp:objs[o]? = some (ver,p)) (hlive:p.live=true) (hC:K.C o ver ≠ 0) (b:Obj):MemSat K (objs.set o (ver,.dead)) (setB w (K.ρ o ver) b):=by
 have hlo:=h.lo o _ hp hlive hC
 have holt:o<objs.length:=(List.getElem?_eq_some_iff.1 hp).1
 have get:∀ o' q,(objs.set o (ver,.dead))[o']? = some q->(o'=o∧q=(ver,.dead))∨(o' ≠ o∧objs[o']? = some q):=by
  intro o' q hq
  by_cases ho:o'=o
  ·subst ho
   rw [List.getElem?_set_self holt] at hq
   exact Or.inl ⟨rfl,(Option.some.inj hq).symm⟩
  ·rw [List.getElem?_set_ne (Ne.symm ho)] at hq
   exact Or.inr ⟨ho,hq⟩
 refine ⟨by rw [List.length_set];exact h.len,fun o' q hq=>?_,fun o' q hq=>?_,fun o' q hq hl' hC'=>?_,fun o1 o2 q1 q2 h1 h2 l1 l2 c1 c2 hne=>?_,fun b' i u hu=>?_,?_⟩
 ·rcases get o' q hq with ⟨rfl,rfl⟩|⟨_,hq⟩
  ·exact h.ver o' (ver,p) hp
  ·exact h.ver o' _ hq
 ·rcases get o' q hq with ⟨rfl,rfl⟩|⟨ho,hq⟩
  ·trivial
  ·refine (h.obj o' q hq).mono (Ctx.le.refl K) (h.olt hq) (by rw [h.ver o' q hq];exact Nat.le_refl _) (fun hl' hC'=>Qo8 ?_)
   exact h.dis o' o q _ hq hp hl' hlive hC' hC ho
 ·rcases get o' q hq with ⟨rfl,rfl⟩|⟨ho,hq⟩
  ·cases hl'
  ·obtain ⟨g1,g2,g3⟩:=h.lo o' q hq hl' hC'
   exact ⟨g1,by simpa [setB] using g2,g3⟩
 ·rcases get o1 q1 h1 with ⟨rfl,rfl⟩|⟨_,h1⟩
  ·cases l1
  ·rcases get o2 q2 h2 with ⟨rfl,rfl⟩|⟨_,h2⟩
   ·cases l2
   ·exact h.dis o1 o2 q1 q2 h1 h2 l1 l2 c1 c2 hne
 ·have:=h.mem b' i u hu
  have hne:b' ≠ K.ρ o ver:=by
   intro hb
   rw [hb,hlo.2.2 i] at hu
   cases hu
  refine ⟨?_,this.2⟩
  have e:(setB w (K.ρ o ver) b).cell? ⟨b',i,none⟩=w.cell? ⟨b',i,none⟩:=by
   simp only [World.cell?,Qo8 hne]
  rw [e]
  exact this.1
 ·refine h.below.step rfl rfl rfl rfl rfl (by simp [setB]) fun b' y hy=>Qo8 ?_
  rintro rfl
  rw [hlo.1] at hy
  cases hy
end
def Q16 (l:List Int):Prop:=∀ n ∈ l,0<=n∧n<=255
theorem Qa9:Q16 []:=fun n h=>nomatch h
theorem wu8_in (n:Int):0<=wu8 n∧wu8 n<=255:=by
 simp only [IntKind.wrap,IntKind.bits,IntKind.signed]
 simp
 omega
theorem byteIn_app {l k:List Int} (h:Q16 l) (g:Q16 k):Q16 (l++k):=fun n hn=>by
 rcases List.mem_append.1 hn with hn|hn
 ·exact h n hn
 ·exact g n hn
theorem QY4 {c:Int} {k:List Int} (h:0<=c∧c<=255) (g:Q16 k):Q16 (c :: k):=fun n hn=>by
 rcases List.mem_cons.1 hn with rfl|hn
 ·exact h
 ·exact g n hn
theorem Qt9:∀ (l:List Int) (r:ByteArray),(l.foldl (fun r n=>r.push (UInt8.ofNat n.toNat)) r).data.toList=r.data.toList++l.map fun n=>UInt8.ofNat n.toNat
 | [],r=>by simp
 | n :: l,r=>by
  rw [List.foldl_cons,Qt9 l]
  simp [ByteArray.push]
theorem bytesStr_data (l:List Int):QR4 l=⟨(l.map fun n=>UInt8.ofNat n.toNat).toArray⟩:=by
 have:=Qt9 l ByteArray.empty
 apply ByteArray.ext
 apply Array.ext'
 unfold QR4
 rw [this]
 rfl
theorem String_some {te:TypeId} {x:AVal} (l:List Int) (h0:l ≠ []) (hb:Q16 l) (hl:l.length<=70368744177664):AMoves Tryz.prog 290 [.ptr 0 0 2 0 0] [(0,.row te 2 [[x,.own 1 0 1 0 l.length]]),(0,QB4 l)] 1 (Sg (QR4 l)) [(0,.row te 2 [[.any,.any]])]:=by
 intro K w vs hm hr
 have hp0:([(0,.row te 2 [[x,.own 1 0 1 0 l.length]]),(0,QB4 l)]:Objs)[0]? = some (0,.row te 2 [[x,.own 1 0 1 0 l.length]]):=rfl
 have hp1:([(0,.row te 2 [[x,.own 1 0 1 0 l.length]]),(0,QB4 l)]:Objs)[1]? = some (0,QB4 l):=rfl
 obtain ⟨hC,c,fr,hbk,hfr,hs,h1,hx⟩:=QG6 hm hp0
 have hvs:vs=[.pointer (some ⟨K.ρ 0 0,0,none⟩)]:=by
  obtain ⟨v,rfl⟩:∃ v,vs=[v]:=List.length_eq_one_iff.1 hr.1
  obtain ⟨e,_,_⟩:=QL4 (hr.2 0 _ _ rfl rfl)
  rw [e]
 subst hvs
 have hlen:l.length ≠ 0:=by simpa using h0
 obtain ⟨u1,hu1,hr1⟩:=hx 1 _ rfl
 obtain ⟨_,_,hcase⟩:=Q15 hr1
 rcases hcase with ⟨_,q,_⟩|⟨a,cap,rfl,q1,q2,q3⟩
 ·exact absurd q hlen
 have ha:=q3 (by omega)
 simp only [Nat.zero_mul] at ha
 subst ha
 obtain ⟨g1,g2,g3⟩:=hm.obj 1 _ hp1
 have hC1:K.C 1 0 ≠ 0:=by simp at g2;omega
 obtain ⟨cur,⟨fr1,hfr1,hbk1⟩,hs1,h11,hcr⟩:=g3 hC1
 have hcell:∀ (j:Nat) (x:UInt8),(l.map fun n=>UInt8.ofNat n.toNat)[j]? = some x->cur[j]? = some (Value.int .u8 x.toNat):=by
  intro j x hx
  rw [List.getElem?_map] at hx
  cases hj:l[j]? with
  | none=>rw [hj] at hx;cases hx
  | some n =>
   rw [hj] at hx
   simp only [Option.map_some,Option.some.injEq] at hx
   subst hx
   obtain ⟨u,hu,hru⟩:=hcr j 0 [Y n] (Y n) (by rw [List.getElem?_map,hj];rfl) rfl
   have e:=QX0 hru
   subst e
   have hn:=hb n (List.mem_of_getElem? hj)
   rw [show j*1+0=j by omega] at hu
   rw [hu]
   congr 2
   rw [UInt8.toNat_ofNat']
   omega
 have hcurs:l.length<=cur.size:=by
  have e:cur.size=K.C 1 0*1:=hs1
  simp at g2
  omega
 have c0:w.cell? ⟨K.ρ 0 0,1,none⟩=some (.slice (some ⟨K.ρ 1 0,0,none⟩) (l.map fun n=>UInt8.ofNat n.toNat).length cap):=by
  rw [Lib.cell_of_heap hbk,List.length_map];exact hu1
 refine (Qha (K.ρ 0 0) (K.ρ 1 0) cap cur fr1 (l.map fun n=>UInt8.ofNat n.toNat) w (by simpa using h0) c0 hbk1 (by rw [List.length_map];exact q1) (by rw [List.length_map];exact hcurs) (by rw [List.length_map];omega) hcell).mono ?_
 rintro e w' ⟨rfl,rfl⟩
 obtain ⟨fr2,hfz⟩:=freeze_setB (w:=w.drew) (n:=(l.map fun n=>UInt8.ofNat n.toNat).length) (g:=K.ρ 1 0) hbk1
 have hm2:=MemSat.kill hm.drew hp1 rfl hC1 (.cells cur 5 fr2)
 rw [← hfz] at hm2
 have told:Go.Fw.Told 1 (Sg (QR4 l)) [(0,.row te 2 [[x,.own 1 0 1 0 l.length]]),(0,.dead)] (Sg (QR4 l)) [(0,.row te 2 [[.any,.any]])] :=
  QQ2 [0] rfl (by decide) (.cons 0 _ _ _ _ rfl (Q90 (.cons _ _ _ _ (fun _ _ _ _ _=>.any _) (.cons _ _ _ _ (fun _ _ _ _ _=>.any _) .nil))) .nil) (Q20 (Qt2 rfl))
 obtain ⟨K',hle,hm3,hr3⟩:=told (K.cut 1) K _ (.string (QR4 l)) rfl (Qv9 (by rw [← hm.len];simp)) hm2 (.lit _)
 refine ⟨_,K',?_,hle,hm3,hr3⟩
 rw [bytesStr_data]
theorem String_c {te:TypeId} (l:List Int) (hb:Q16 l) (hl:l.length<=70368744177664):AMoves Tryz.prog 290 [.ptr 0 0 2 0 0] [(0,.row te 2 [[.any,.buf 1 0 1 l.length]]),(0,QB4 l)] 1 (Sg (QR4 l)) [(0,.row te 2 [[.any,.any]])]:=by
 by_cases h0:l=[]
 ·subst h0
  intro K w vs hm hr
  have hp0:([(0,.row te 2 [[.any,.buf 1 0 1 ([]:List Int).length]]),(0,QB4 [])]:Objs)[0]? = some (0,.row te 2 [[.any,.buf 1 0 1 ([]:List Int).length]]):=rfl
  obtain ⟨hC,c,fr,hbk,hfr,hs,h1,hx⟩:=QG6 hm hp0
  have hvs:vs=[.pointer (some ⟨K.ρ 0 0,0,none⟩)]:=by
   obtain ⟨v,rfl⟩:∃ v,vs=[v]:=List.length_eq_one_iff.1 hr.1
   obtain ⟨e,_,_⟩:=QL4 (hr.2 0 _ _ rfl rfl)
   rw [e]
  subst hvs
  obtain ⟨u1,hu1,hr1⟩:=hx 1 _ rfl
  have told:Go.Fw.Told 1 (Sg (QR4 [])) [(0,.row te 2 [[.any,.buf 1 0 1 ([]:List Int).length]]),(0,QB4 [])] (Sg (QR4 [])) [(0,.row te 2 [[.any,.any]])] :=
   QQ2 [0] rfl (by decide) (.cons 0 _ _ _ _ rfl (Q90 (.cons _ _ _ _ (fun _ _ _ _ _=>.any _) (.cons _ _ _ _ (fun _ _ _ _ _=>.any _) .nil))) .nil) (Q20 (Qt2 rfl))
  obtain ⟨K',hle,hm3,hr3⟩:=told (K.cut 1) K _ (.string (QR4 [])) rfl (Qv9 (by rw [← hm.len];simp)) hm.drew (.lit _)
  have c0:w.cell? ⟨K.ρ 0 0,1,none⟩=some u1:=by rw [Lib.cell_of_heap hbk];exact hu1
  have fin:Calls Tryz.prog 290 #[.pointer (some ⟨K.ρ 0 0,0,none⟩)] w fun e w'=>e = .returned (.string ⟨#[]⟩)∧w'=w.drew:=by
   generalize hn:([]:List Int).length=n at hr1
   cases hr1 with
   | bufNil=>exact Q9b _ w c0
   | bufSome _ _ _ _ cap ho hv hl' hc hC' =>
    have hn':n=0:=hn.symm
    subst hn'
    exact Qga _ cap _ w hc c0
  refine fin.mono ?_
  rintro e w' ⟨rfl,rfl⟩
  exact ⟨_,K',rfl,hle,hm3,hr3⟩
 ·intro K w vs hm hr
  have hm':MemSat K [(0,.row te 2 [[.any,.own 1 0 1 0 l.length]]),(0,QB4 l)] w:=by
   have hp0:([(0,.row te 2 [[.any,.buf 1 0 1 l.length]]),(0,QB4 l)]:Objs)[0]? = some (0,.row te 2 [[.any,.buf 1 0 1 l.length]]):=rfl
   obtain ⟨hC,c,fr,hbk,hfr,hs,h1,hx⟩:=QG6 hm hp0
   have hm':=hm.setRow hp0 hC c c ⟨fr,hfr,hbk⟩ rfl h1 [[.any,.own 1 0 1 0 l.length]] (by simp;omega) (by simp) (fun i j e y he hy=>?_)
   ·rw [QEd hbk] at hm'
    exact hm'
   ·have hi:i=0:=by have:=(List.getElem?_eq_some_iff.1 he).1;simp at this;omega
    subst hi
    simp at he
    subst he
    rcases j with _|_|j
    ·simp at hy
     subst hy
     obtain ⟨u0,hu0,_⟩:=hx 0 _ rfl
     exact ⟨u0,by simpa using hu0,.any _⟩
    ·simp at hy
     subst hy
     obtain ⟨u1,hu1,hr1⟩:=hx 1 _ rfl
     exact ⟨u1,by simpa using hu1,Ql9 hr1⟩
    ·simp at hy
  exact String_some l h0 hb hl K w vs hm' hr
end Go.Proofs.YtldebhdmhpopaaaGreatDoor
namespace Go.Proofs.YtldebhdmhpopaaaGreatDoor
set_option linter.unusedSimpArgs false
set_option linter.unusedVariables false
open Go.RowKit Go.Shelf
attribute [local go_sem] Oper.semAt_some
def QC4 (hi:Int) (k:Nat):List Int:=(List.range k).map fun (i:Nat)=>hi - (i:Int)
theorem downFrom_succ (hi:Int) (k:Nat):QC4 hi (k+1)=QC4 hi k++[hi - (k:Int)]:=by simp [QC4,List.range_succ]
theorem QM6 (hi:Int) (k:Nat):(QC4 hi k).length=k:=by simp [QC4]
def leftOf (lo:Int):Value->Nat
 | .int _ n=>(n - lo+1).toNat
 | _=>0
theorem sizes_in (n:Nat) (hn:1<=n) (l Bt Bf:Nat) (lo hi:Int) (h1:1<=lo) (h2:lo<=hi) (h3:hi<=48) (J Jx:List Int->World->Prop)
  (hY:∀ pre x W,J pre W->pre.length<(hi - lo+1).toNat->YieldAt Fence.wide (n - 1) Tryz.prog l #[.int .i64 x] W fun e W' =>
   (e = .returned (.bool true)∧J (pre++[x]) W'∧(W.cell? ⟨Bf,0,none⟩=some (.int .i64 lo)->W'.cell? ⟨Bf,0,none⟩=some (.int .i64 lo)))∨(e = .returned (.bool false)∧Jx (pre++[x]) W'))
  (W:World) (hT:W.cell? ⟨Bt,0,none⟩=some (.int .i64 hi)) (hF:W.cell? ⟨Bf,0,none⟩=some (.int .i64 lo)) (h0:J [] W) :
  CallsIn Fence.wide n Tryz.prog 203 #[.func (.yield l) #[] #[],.pointer (some ⟨Bt,0,none⟩),.pointer (some ⟨Bf,0,none⟩)] W fun e W'=>(∃ v,e = .returned v) ∧
   ((∃ ys,ys=QC4 hi (hi - lo+1).toNat∧J ys W')∨(∃ pre,True∧Jx pre W')):=by
 refine callsIn_of_wp Tryz.func203 rfl trivial ?_ rfl
 simp only [Tryz.ntmps203,List.size_toArray,List.length_cons,List.length_nil,Nat.reduceAdd,Nat.reduceSub,Array.replicate_succ,Array.replicate_zero,List.push_toArray,List.append_toArray,List.nil_append,List.cons_append]
 gi_wp2
 gi_loopw [4] (fun p wr=>∃ k:Nat,p = .int .i64 (hi - (k:Int))∧k<=(hi - lo+1).toNat∧wr.cell? ⟨Bf,0,none⟩=some (.int .i64 lo)∧J (QC4 hi k) wr)
  (fun p _=>leftOf lo p)
 case atStart =>
  exact ⟨0,by simp,by omega,hF,h0⟩
 case round =>
  obtain ⟨k,rfl,hk,hc,hJs⟩:=hrel
  by_cases hle:lo<=hi - (k:Int)
  ·obtain ⟨fn,tmps,assign,body,hy,hR⟩:=hY (QC4 hi k) (hi - (k:Int)) wr hJs (by rw [QM6];omega)
   have hd:decide (hi - (k:Int) >= lo)=true:=decide_eq_true hle
   gi_wp2
   refine hR.mono ?_
   rintro e W3 (⟨rfl,hJ3,hk3⟩|⟨rfl,hJx3⟩)
   ·gi_wp2
    go_roundw
    case rel =>
     refine ⟨k+1,?_,by omega,hk3 hc,by rw [downFrom_succ];exact hJ3⟩
     simp
     omega
    case measure =>
     simp only [leftOf]
     omega
   ·gi_wp2
    refine bodyPost_ret (results_none rfl _ _ _) rfl ?_
    exact ⟨⟨_,rfl⟩,.inr ⟨_,trivial,hJx3⟩⟩
  ·have hd:decide (hi - (k:Int) >= lo)=false:=decide_eq_false (by omega)
   gi_wp2
   have hk':k=(hi - lo+1).toNat:=by omega
   subst hk'
   go_end0
   exact ⟨⟨_,rfl⟩,.inl hJs⟩
theorem sizes_stops (n:Nat) (hn:1<=n) (Bt Bf:Nat) (lo hi:Int) (w:World) (h1:1<=lo) (h2:lo<=hi) (h3:hi<=48) (hbt:Bt<w.heap.size) (hbf:Bf<w.heap.size)
  (hT:w.cell? ⟨Bt,0,none⟩=some (.int .i64 hi)) (hF:w.cell? ⟨Bf,0,none⟩=some (.int .i64 lo)) :
  SeqStopsK Fence.wide n Tryz.prog 203 #[.pointer (some ⟨Bt,0,none⟩),.pointer (some ⟨Bf,0,none⟩)] (fun x:Int=>#[Value.int .i64 x]) (fun W W'=>W.cell? ⟨Bf,0,none⟩=some (.int .i64 lo)->W'.cell? ⟨Bf,0,none⟩=some (.int .i64 lo)) (fun ys=>ys=QC4 hi (hi - lo+1).toNat) (fun _=>True) (hi - lo+1).toNat w :=
 fun l J Jx W hW _ _ hY h0=>sizes_in n hn l Bt Bf lo hi h1 h2 h3 J Jx hY W ((hW.cell (p:=⟨Bt,0,none⟩) hbt).trans hT) ((hW.cell (p:=⟨Bf,0,none⟩) hbf).trans hF) h0
end Go.Proofs.YtldebhdmhpopaaaGreatDoor
namespace Go.Proofs.YtldebhdmhpopaaaGreatDoor
set_option linter.unusedSimpArgs false
set_option linter.unusedVariables false
open Go.Fw
theorem ckA {p:Prop} (h:p:=by first|exact wu64_nonneg _|omega|(simp only [QM4];omega)|(simp only [Option.getD_some,Option.getD_none,cond_true,cond_false,Bool.and_eq_true,Bool.or_eq_true,Bool.not_eq_true',Bool.not_eq_false',Bool.not_not,decide_eq_true_eq,decide_eq_false_iff_not,beq_iff_eq,bne_iff_ne,beq_eq_false_iff_ne,bne_eq_false_iff_eq,ne_eq] at *;first|omega|(simp (disch:=omega) only [wr];omega))|grind):p:=h
theorem leA {p:Prop} (h:p:=by first|rfl|omega|(simp;omega)|grind):p:=h
theorem exA {p:Prop} (h:p:=by first|omega|(dsimp only;omega)|(simp;done)|(simp;omega)|(simp [QM4];done)|grind):p:=h
theorem omA {p:Prop} (h:p:=by first|omega|(dsimp only;omega)|grind):p:=h
theorem szA {p:Prop} (h:p:=by first|omega|assumption|(refine ⟨?_,?_⟩ <;> assumption)|(simp;done)|exact Qw1 (by assumption) (by first|exact Job.szz _|exact Usage.szz _|exact Shape.szz _|exact Token.szz _)|exact Shape.szz _|exact Job.szz _|exact State.szz _|(rw [bytesStr_size];omega)|(refine Nat.le_trans (Qt5 _) ?_;simp only [List.length_drop,List.length_take];omega)|(dsimp only [Cmd.sz,Job.sz,Shape.sz,State.sz,Usage.sz,Token.sz,LexReader.sz,ImageReader.sz,Ref28From.sz,Cmd.szN,Job.szN,Shape.szN,State.szN,Usage.szN,Token.szN,LexReader.szN,ImageReader.szN,Ref28From.szN];(repeat' apply And.intro) <;> first|assumption|(simp;done))|grind):p:=h
theorem lnA {p:Prop} (h:p:=by first|rfl|exact (QM4 _).symm|exact QM4 _|(simp;done)|(simp [QM4];done)|grind):p:=h
theorem eqA {p:Prop} (h:p:=by first|rfl|(simp only [Nat.zero_add,Int.toNat_natCast,List.map_set];rfl)|(rw [List.map_replicate];rfl)|(rw [List.map_take];rfl)|exact QF6 _ _ _|(refine Eq.symm ?_;exact range_listS _ _ _)|exact (bytesOf_map _)|(rw [List.map_append];rfl)|(rw [List.map_append,← QF6];rfl)|(simp;done)|((repeat rw [List.map_append]);repeat' (first|rfl|exact QF6 _ _ _|(refine Eq.symm ?_;exact range_listS _ _ _)|exact rangeTake _ _ _ ckA|exact rangeDrop _ _ _ _ leA|exact range_cut _ _ _ _ _ leA ckA|exact List.map_replicate|refine app_eq ?_ ?_))):p:=h
theorem cvA {p:Prop} (h:p:=by first|exact newsP_own rfl lnA|exact newsP_nil|exact newsP_ownE rfl eqA lnA|exact newsP_seq (by first|rfl |  exact QF6 _ _ _|(refine Eq.symm ?_;exact range_listS _ _ _)|exact rangeTake _ _ _ ckA|exact rangeDrop _ _ _ _ leA|exact range_cut _ _ _ _ _ leA ckA|simp)):p:=h
theorem gkA {p:Prop} (h:p:=by first|exact fun hg=>decide_eq_true ckA|exact fun _=>rfl|exact rfl):p:=h
theorem apA {p:Prop} (h:p:=by first|(simp;omega)|grind):p:=h
theorem roA {p:Prop} (h:p:=by first|rfl|omega):p:=h
theorem ltA {i n:Nat} (h:decide ((i:Int)<(n:Int))=true):i<n:=by have:=of_decide_eq_true h;omega
theorem geA {i n:Nat} (h:decide ((i:Int)<(n:Int))=false):n<=i:=by have:=of_decide_eq_false h;omega
theorem sucA (m:Nat) (h:0<m:=by omega):∃ k,m=k+1:=⟨m - 1,by omega⟩
theorem tp0 {objs:Objs} {ks:List Nat} {o ver k a b i:Nat} {p:AObj} (hi:ks[i]? = some o:=by exact rfl) (hp:objs[o]? = some (ver,p):=by exact rfl):TurnV objs 0 ks (.ptr o ver k a b) (.ptr i 0 k a b):=by
 have:=Q00 (n:=0) (k:=k) (i':=a) (j:=b) i hi hp
 rwa [Nat.zero_add] at this
theorem to0 {objs:Objs} {ks:List Nat} {o ver k off len len' i:Nat} {p:AObj} (hl:len=len') (hi:ks[i]? = some o:=by exact rfl) (hp:objs[o]? = some (ver,p):=by exact rfl):TurnV objs 0 ks (.own o ver k off len) (.own i 0 k off len'):=by
 have:=Q6b (n:=0) (k:=k) (off:=off) i hi hp hl
 rwa [Nat.zero_add] at this
theorem tm0 {objs:Objs} {ks:List Nat} {o i:Nat} {p:AObj} (hi:ks[i]? = some o:=by exact rfl) (hp:objs[o]? = some (0,p):=by exact rfl):TurnV objs 0 ks (.map o) (.map i):=by
 have:=QK0 (n:=0) i hi hp
 rwa [Nat.zero_add] at this
theorem tn0 {objs:Objs} {ks:List Nat} {k o i:Nat} (hi:ks[i]? = some o:=by exact rfl):TurnV objs 0 ks (.lit (.slice none 0 0)) (.own i 0 k 0 0):=by
 have:=Q51 (objs:=objs) (n:=0) (k:=k) i hi
 rwa [Nat.zero_add] at this
theorem loA {P:Prop} (h:P:=by ((repeat' first|exact .nil|exact lx|exact lw|refine .cons ?_ ?_|refine Low.tup' ?_|refine Low.agg' ?_|with_reducible exact Alt.low _ _|with_reducible exact Shape.low _ _|with_reducible exact Dep.low _ _|with_reducible exact Cmd.low _ _|with_reducible exact Node.low _ _|with_reducible exact Job.low _ _|with_reducible exact Resize.low _ _|with_reducible exact Book.low _ _|with_reducible exact Usage.low _ _|with_reducible exact State.low _ _|with_reducible exact Note.low _ _);first|done|fail)):P:=h
theorem loL {P:Prop} (h:P:=by ((repeat first|exact LowL.nil|refine l1 ?_|refine lv lw ?_|with_reducible refine lv (Alt.low _ _) ?_|with_reducible refine lv (Shape.low _ _) ?_|with_reducible refine lv (Dep.low _ _) ?_|with_reducible refine lv (Cmd.low _ _) ?_|with_reducible refine lv (Node.low _ _) ?_|with_reducible refine lv (Job.low _ _) ?_|with_reducible refine lv (Resize.low _ _) ?_|with_reducible refine lv (Book.low _ _) ?_|with_reducible refine lv (Usage.low _ _) ?_|with_reducible refine lv (State.low _ _) ?_|with_reducible refine lv (Note.low _ _) ?_);first|done|fail)):P:=h
theorem seA {P:Prop} (h:P:=by first|exact sr|((repeat' first|exact .nil|refine Seen.tup ?_|refine e1 ?_|refine ev ?_ ?_|exact Q50|exact sr|refine Seen.agg ?_);first|done|fail)):P:=h
theorem tvA {P:Prop} (h:P:=by first|exact t1|exact tp0|exact to0 lnA|exact tn0|exact Q20 loA|exact tm0):P:=h
theorem wtA {P:Prop} (h:P:=by ((repeat' first|exact .nil|refine tO rfl ?_ ?_|exact tl eqA|with_reducible exact ts Alt.lo|with_reducible exact ts Shape.lo|with_reducible exact ts Dep.lo|with_reducible exact ts Token.lo|with_reducible exact ts Cmd.lo|with_reducible exact ts Step.lo|with_reducible exact ts Node.lo|with_reducible exact ts Job.lo|with_reducible exact ts Resize.lo|with_reducible exact ts Book.lo|with_reducible exact ts Usage.lo|with_reducible exact ts State.lo|with_reducible exact ts Note.lo|with_reducible exact ts Out.lo|with_reducible exact ts LexReader.lo|with_reducible exact ts Taken.lo|with_reducible exact ts Ranked.lo|exact ts loL|exact .strIter _ _|refine Q90 ?_|refine c1 ?_|refine cv (to0 lnA) ?_|refine cv tp0 ?_|refine cv tn0 ?_|refine cv (Qu0 .nil ?_) ?_|exact Qb0 _ rfl rfl (fun _=>lx)|exact Qb0 _ rfl rfl (fun _=>Job.low _ _)|exact Qb0 _ rfl rfl (fun _=>Resize.low _ _));first|done|fail)):P:=h
theorem wsA {P:Prop} (h:P:=by ((repeat' first|exact .nil|refine s1 ?_|refine sl lw ?_|refine sv tp0 ?_|refine sv (to0 lnA) ?_|refine sv (Qa0 (I_eq (wr omA)) lx) ?_|refine sv tm0 ?_|refine sv tn0 ?_|refine sv (Qu0 .nil ?_) ?_|refine cv tp0 ?_|refine c1 ?_|refine sv (Q20 (Low.fn _ _ _ LowL.nil LowL.nil)) ?_);first|done|fail)):P:=h
theorem wkA {nt n0:Nat} {objs:Objs} {s s':List (Nat × AVal)} {new:Objs} (ks:List Nat) (hT:TurnL objs 0 ks ks new:=by exact wtA) (hs:SubT objs 0 ks s s':=by exact wsA) (hid:idOK n0 ks objs=true:=by exact rfl) (hnd:ks.Nodup:=by decide):Weaker nt n0 ⟨s,objs⟩ ⟨s',new⟩:=Q4c ks hid hnd hT hs
theorem ttA {n0:Nat} {objs:Objs} {r0 r:AVal} {new:Objs} (ks:List Nat) (hT:TurnL objs 0 ks ks new:=by exact wtA) (hr:TurnV objs 0 ks r0 r:=by exact tvA) (hid:idOK n0 ks objs=true:=by exact rfl) (hnd:ks.Nodup:=by decide):Go.Fw.Told n0 r0 objs r new:=QQ2 ks hid hnd hT hr
theorem pt {α:Type} {c:Bool} {a b z:α} (h:c=true) (k:(bif c then a else b)=z):a=z:=(cond_t h).symm.trans k
theorem pf {α:Type} {c:Bool} {a b z:α} (h:c=false) (k:(bif c then a else b)=z):b=z:=(cond_f h).symm.trans k
theorem folA {P:Prop} (h:P:=by first|((repeat first|replace hR:=pt (by with_reducible assumption) hR|replace hR:=pf (by with_reducible assumption) hR);exact hR)|(simp only [Int.toNat_natCast] at *;(repeat first|replace hR:=pt (by with_reducible assumption) hR|replace hR:=pf (by with_reducible assumption) hR);exact hR)):P:=h
theorem lfA {P:Prop} (h:P:=by first|((repeat first|replace hR:=pt (by with_reducible assumption) hR|replace hR:=pf (by with_reducible assumption) hR);subst hR;first|exact Q10 lx (by with_reducible exact sr)|exact Q10 loA seA)|(simp only [Int.toNat_natCast] at *;(repeat first|replace hR:=pt (by with_reducible assumption) hR|replace hR:=pf (by with_reducible assumption) hR);subst hR;first|exact Q10 lx sr|exact Q10 loA seA)):P:=h
theorem gA {P:Program} {f:FuncId} {fn:Func} {c:Code} {args:List AVal} {r:AVal} (keep:Nat->Bool) (hf:P.funcs[f]? = some fn)
  (h:cwp P fn.ntmps ([]:Objs).length keep c (CRet P fn ([]:Objs).length fun r' o=>r'=r∧o=[]) (Q13 0 args) []) (ha:LowL 0 args:=by exact loA) (hl:Low 0 r:=by exact loA) (hb:fn.body=some c:=by exact rfl) (hlen:Nat.ble args.length fn.ntmps=true:=by exact rfl):∀ objs,AGives P f args objs r :=
 ga ha hl keep hf h hb hlen
end Go.Proofs.YtldebhdmhpopaaaGreatDoor
namespace Go.Fw
set_option linter.unusedSimpArgs false
set_option linter.unusedVariables false
open Go.Proofs Go.Sort
def ah3 (x y:Int × Int × Int):Bool:=decide (y.1<x.1)||(decide (x.1=y.1)&&(decide (x.2.1<y.2.1)||(decide (x.2.1=y.2.1)&&decide (x.2.2<y.2.2))))
def or3 (a b c:Int):Int:=bif a != 0 then a else bif b != 0 then b else c
def cf3 (x y:Int × Int × Int):Int:=or3 (Lib.compareInt y.1 x.1) (Lib.compareInt x.2.1 y.2.1) (Lib.compareInt x.2.2 y.2.2)
theorem lt3 (x y:Int × Int × Int):ltOf cf3 x y=ah3 x y:=by
 unfold ltOf cf3 or3 ah3 Lib.compareInt
 rcases Int.lt_trichotomy x.1 y.1 with h|h|h
 ·simp [h,show ¬ y.1<x.1 by omega,show ¬ x.1=y.1 by omega]
 ·rcases Int.lt_trichotomy x.2.1 y.2.1 with g|g|g
  ·simp [h,g]
  ·rcases Int.lt_trichotomy x.2.2 y.2.2 with k|k|k
   ·simp [h,g,k]
   ·simp [h,g,k]
   ·simp [h,g,k,show ¬ x.2.2<y.2.2 by omega]
  ·simp [h,g,show ¬ x.2.1<y.2.1 by omega,show ¬ x.2.1=y.2.1 by omega]
 ·simp [h]
theorem ah3_iff (x y:Int × Int × Int):ah3 x y=true ↔ (y.1<x.1∨x.1=y.1∧(x.2.1<y.2.1∨x.2.1=y.2.1∧x.2.2<y.2.2)):=by simp [ah3]
theorem QM9 (x y:Int × Int × Int):ah3 x y=false ↔ ¬ (y.1<x.1∨x.1=y.1∧(x.2.1<y.2.1∨x.2.1=y.2.1∧x.2.2<y.2.2)):=by rw [← ah3_iff];simp
theorem swo3:SWO (ltOf cf3) where
 irrefl x:=by rw [lt3,QM9];omega
 trans x y z h1 h2:=by rw [lt3,ah3_iff] at *;omega
 ntrans x y z h1 h2:=by rw [lt3,QM9] at *;omega
theorem tot3 (x y:Int × Int × Int) (h1:ltOf cf3 x y=false) (h2:ltOf cf3 y x=false):x=y:=by
 rw [lt3,QM9] at *
 exact Prod.ext (by omega) (Prod.ext (by omega) (by omega))
def ins3 (x:Int × Int × Int):List (Int × Int × Int)->List (Int × Int × Int)
 | []=>[x]
 | y :: r=>bif ah3 y x then y :: ins3 x r else x :: y :: r
def sort3 (l:List (Int × Int × Int)):List (Int × Int × Int):=l.foldl (fun o x=>ins3 x o) []
theorem Q6d (x:Int × Int × Int):∀ o,(ins3 x o).Perm (x :: o)
 | []=>.refl _
 | y :: r=>by
  unfold ins3
  cases ah3 y x with
  | true=>exact ((Q6d x r).cons y).trans (.swap x y r)
  | false=>exact .refl _
theorem Q7d (x:Int × Int × Int):∀ o,o.Pairwise (fun a b=>ah3 b a=false)->(ins3 x o).Pairwise fun a b=>ah3 b a=false
 | [],_=>List.pairwise_singleton _ _
 | y :: r,h=>by
  obtain ⟨h1,h2⟩:=List.pairwise_cons.1 h
  unfold ins3
  cases ha:ah3 y x with
  | true =>
   refine List.pairwise_cons.2 ⟨fun z hz=>?_,Q7d x r h2⟩
   rcases List.mem_cons.1 ((Q6d x r).mem_iff.1 hz) with rfl|hz
   ·rw [ah3_iff] at ha
    rw [QM9]
    omega
   ·exact h1 z hz
  | false =>
   refine List.pairwise_cons.2 ⟨fun z hz=>?_,h⟩
   rcases List.mem_cons.1 hz with rfl|hz
   ·exact ha
   ·have:=h1 z hz
    rw [QM9] at *
    omega
theorem sort3_go:∀ (l o:List (Int × Int × Int)),o.Pairwise (fun a b=>ah3 b a=false)->(l.foldl (fun o x=>ins3 x o) o).Perm (o++l)∧(l.foldl (fun o x=>ins3 x o) o).Pairwise fun a b=>ah3 b a=false
 | [],o,h=>⟨by simp,h⟩
 | x :: r,o,h=>by
  obtain ⟨h1,h2⟩:=sort3_go r (ins3 x o) (Q7d x o h)
  refine ⟨h1.trans ?_,h2⟩
  refine ((Q6d x o).append_right r).trans ?_
  exact List.perm_middle.symm
theorem merge3 (l:List (Int × Int × Int)):l.mergeSort (fun x y=>!(ltOf cf3) y x)=sort3 l:=by
 obtain ⟨h1,h2⟩:=sort3_go l [] .nil
 refine List.Perm.eq_of_pairwise (le:=fun x y=>(!(ltOf cf3) y x)=true) (fun a b _ _ g1 g2=>?_) (List.pairwise_mergeSort (fun a b c g1 g2=>?_) (fun a b=>?_) l) (h2.imp fun {a b} h=>by rw [lt3,h];rfl) ((List.mergeSort_perm l _).trans (show l.Perm (sort3 l) from h1.symm))
 ·simp only [Bool.not_eq_true'] at g1 g2
  exact tot3 a b g2 g1
 ·simp only [Bool.not_eq_true',lt3,QM9] at *
  omega
 ·rw [lt3,lt3]
  cases hq:ah3 b a with
  | false=>rfl
  | true =>
   rw [ah3_iff] at hq
   have:ah3 a b=false:=by rw [QM9];omega
   rw [this];rfl
theorem sort3_len (l:List (Int × Int × Int)):(sort3 l).length=l.length:=by
 have h:=(sort3_go l [] .nil).1.length_eq
 rw [List.nil_append] at h
 exact h
end Go.Fw
namespace Go.Fw
set_option linter.unusedSimpArgs false
set_option linter.unusedVariables false
open Go.RowKit Go.Sort Go.Proofs
theorem MemSat.grownK {K:Ctx} {objs:Objs} (os:List Obj):∀ {w:World},MemSat K objs w->MemSat K objs (Go.Sort.grow w os.toArray):=by
 induction os with
 | nil=>intro w h;simpa [Go.Sort.grow] using h
 | cons x r ih =>
  intro w h
  have:=ih (h.junk x)
  rw [Go.Sort.alloc_eq_grow,Go.Sort.grow_grow] at this
  simpa using this
theorem putRow_setRowK {w:World} {g:Nat} {c:Array Value} {t:TypeId} {fr:Nat × Nat} (hb:w.heap[g]? = some (.cells c t fr)) (d:Array Value):Go.Sort.putRow id w g 0 d=w.setRow g (Go.Sort.putCells id 0 d c):=by
 unfold Go.Sort.putRow Go.Sort.mapBlock World.setRow
 congr 1
 apply Array.ext_getElem?
 intro i
 simp only [Array.getElem?_modify]
 by_cases hi:g=i
 ·subst hi
  simp [hb,Go.Sort.onCells]
 ·simp [hi]
def litsA (vs:List Value):List AVal:=vs.map AVal.lit
section
variable {α:Type} [Inhabited α] {K:Ctx} {w:World}
theorem rowK_holds {t:TypeId} {k:Nat} {enc:α->List Value} (hk0:0<k) (hk:∀ x,(enc x).length=k) {l:List α} (h0:l ≠ []) (hm:MemSat K [(0,.row t k (l.map fun x=>litsA (enc x)))] w) :
  HoldsK enc k w (K.ρ 0 0) 0 l.toArray∧K.ρ 0 0<w.heap.size:=by
 have hp0:([(0,.row t k (l.map fun x=>litsA (enc x)))]:Objs)[0]? = some (0,.row t k (l.map fun x=>litsA (enc x))):=rfl
 have hlen:l.length ≠ 0:=by simpa using h0
 obtain ⟨g1,g2,g3⟩:=hm.obj 0 _ hp0
 have hC:K.C 0 0 ≠ 0:=by simp at g2;omega
 obtain ⟨cur,⟨fr,hfr,hbk⟩,hs,h1,hcr⟩:=g3 hC
 have hblk:=(hm.lo 0 _ hp0 rfl hC).2.1
 refine ⟨?_,hblk⟩
 have hsz:l.length*k<=cur.size:=by
  rw [hs]
  simp at g2
  exact Nat.mul_le_mul_right k g2
 intro j hj
 have hj':j<l.length*k:=by simpa using hj
 have hq:j / k<l.length:=Nat.div_lt_of_lt_mul (by rw [Nat.mul_comm];exact hj')
 have hr : j % k < k := Nat.mod_lt _ hk0
 have e1:l[j / k]? = some (l[j / k]'hq):=List.getElem?_eq_getElem hq
 have hlr : j % k < (enc (l[j / k]'hq)).length := by rw [hk]; exact hr
 obtain ⟨u, hu, hru⟩ := hcr (j / k) (j % k) (litsA (enc (l[j / k]'hq))) (.lit ((enc (l[j / k]'hq))[j % k]'hlr)) (by rw [List.getElem?_map, e1]; rfl) (by rw [litsA, List.getElem?_map, List.getElem?_eq_getElem hlr]; rfl)
 have e:=QX0 hru
 subst e
 rw [show j / k * k + j % k = j by rw [Nat.mul_comm]; exact Nat.div_add_mod j k] at hu
 have hval : (flatK enc k l.toArray)[j]! = (enc (l[j / k]'hq))[j % k]'hlr := by
  rw [get_flatK _ _ _ _ (by simpa using hj')]
  rw [getElem!_pos l.toArray (j / k) (by simpa using hq)]
  simp only [List.getElem_toArray]
  rw [getElem!_pos (enc (l[j / k]'hq)) (j % k) hlr]
 refine ⟨?_,?_⟩
 ·simp only [World.cell?,hbk,Nat.zero_add,id]
  rw [hval]
  simpa using hu
 ·have hj2:=hfr j (by omega)
  obtain ⟨lo,hi'⟩:=fr
  simp only at hj2
  simp only [World.frozen?,hbk,Nat.zero_add,Bool.and_eq_false_imp,decide_eq_true_eq,decide_eq_false_iff_not]
  intro h1 h2
  exact hj2 ⟨h1,h2⟩
theorem rowK_sorted {t:TypeId} {k:Nat} {enc:α->List Value} (hk0:0<k) (hk:∀ x,(enc x).length=k) (h1c:∀ x,∀ v ∈ enc x,v.oneCell'=true) {l l':List α} (h0:l ≠ []) (hl:l'.length=l.length) (hm:MemSat K [(0,.row t k (l.map fun x=>litsA (enc x)))] w) (n:Nat) (os:Array Obj) :
  MemSat K [(0,.row t k (l'.map fun x=>litsA (enc x)))] (sortWorldK enc k w (K.ρ 0 0) 0 n l'.toArray os):=by
 have hp0:([(0,.row t k (l.map fun x=>litsA (enc x)))]:Objs)[0]? = some (0,.row t k (l.map fun x=>litsA (enc x))):=rfl
 have hlen:l.length ≠ 0:=by simpa using h0
 obtain ⟨g1,g2,g3⟩:=hm.obj 0 _ hp0
 have hC:K.C 0 0 ≠ 0:=by simp at g2;omega
 obtain ⟨cur,⟨fr,hfr,hbk⟩,hs,h1,hcr⟩:=g3 hC
 have hs':cur.size=K.C 0 0*k:=hs
 have g2':l.length*k<=K.C 0 0*k:=Nat.mul_le_mul_right k (by simpa using g2)
 have hmd:=hm.drawn (w.drawn+n)
 have hbk':(Go.Sort.ahead w n).heap[K.ρ 0 0]? = some (.cells cur t fr):=hbk
 have hflat:(flatK enc k l'.toArray).size=l'.length*k:=by simp
 have hcell:∀ (i j:Nat) (x:α),l'[i]? = some x->j<k->(Go.Sort.putCells id 0 (flatK enc k l'.toArray) cur)[i*k+j]? = (enc x)[j]?:=by
  intro i j x hx hj
  have hi:i<l'.length:=(List.getElem?_eq_some_iff.1 hx).1
  have hb:i*k+j<l'.length*k:=by
   have:=Nat.mul_le_mul_right k (show i+1<=l'.length from hi)
   rw [Nat.add_mul,Nat.one_mul] at this
   omega
  have hc:i*k+j<cur.size:=by
   rw [hl] at hb
   omega
  have hd:(i*k+j) / k=i:=by rw [Nat.mul_comm,Nat.mul_add_div hk0,Nat.div_eq_of_lt hj,Nat.add_zero]
  have hmm : (i * k + j) % k = j := by rw [Nat.mul_comm, Nat.mul_add_mod, Nat.mod_eq_of_lt hj]
  simp only [Go.Sort.putCells,Array.getElem?_mapIdx,Array.getElem?_eq_getElem hc,Option.map_some,Nat.zero_le,Nat.sub_zero,true_and,Nat.zero_add,hflat,id]
  rw [if_pos hb,get_flatK _ _ _ _ (by simpa using hb),hd,hmm,getElem!_pos l'.toArray i (by simpa using hi)]
  have ex:l'.toArray[i]'(by simpa using hi)=x:=by simpa using (List.getElem?_eq_some_iff.1 hx).2
  have hjl:j<(enc x).length:=by rw [hk];exact hj
  rw [ex,getElem!_pos (enc x) j hjl,List.getElem?_eq_getElem hjl]
 have hmr:=hmd.setRow hp0 hC cur (Go.Sort.putCells id 0 (flatK enc k l'.toArray) cur) ⟨fr,hfr,hbk⟩ (by simp [Go.Sort.putCells]) (fun u hu=>by
   simp only [Go.Sort.putCells,Array.mem_toList_iff,Array.mem_mapIdx] at hu
   obtain ⟨i,hi,rfl⟩:=hu
   split
   ·rename_i hb
    have hb':i<l'.length*k:=by simpa [hflat] using hb.2
    have hq:i / k<l'.length:=Nat.div_lt_of_lt_mul (by rw [Nat.mul_comm];exact hb')
    have hr : i % k < k := Nat.mod_lt _ hk0
    simp only [Nat.sub_zero,id]
    rw [get_flatK _ _ _ _ (by simpa using hb')]
    have hlr : i % k < (enc (l'.toArray[i / k]!)).length := by rw [hk]; exact hr
    rw [getElem!_pos (enc (l'.toArray[i / k]!)) (i % k) hlr]
    exact h1c _ _ (List.getElem_mem hlr)
   ·exact h1 _ (Array.mem_toList_iff.2 (Array.getElem_mem hi))) (l'.map fun x=>litsA (enc x)) (by simp at g2 ⊢;omega) (by simp [litsA,hk]) (fun i j e x he hx=>by
   rw [List.getElem?_map] at he
   obtain ⟨q,hq,rfl⟩:=Option.map_eq_some_iff.1 he
   rw [litsA,List.getElem?_map] at hx
   obtain ⟨u,hu,rfl⟩:=Option.map_eq_some_iff.1 hx
   have hj:j<k:=by have:=(List.getElem?_eq_some_iff.1 hu).1;rw [hk] at this;exact this
   exact ⟨u,(hcell i j q hq hj).trans hu,.lit _⟩)
 have:=MemSat.grownK os.toList hmr
 unfold sortWorldK putRowK
 rw [putRow_setRowK hbk']
 have e:os.toList.toArray=os:=by simp
 rw [e] at this
 exact this
end
theorem sortFunc_moves {α:Type} [Inhabited α] {P:Program} {f g:Nat} {t:TypeId} {k:Nat} {enc:α->List Value} (hk0:0<k) (hk:∀ x,(enc x).length=k) (h1c:∀ x,∀ v ∈ enc x,v.oneCell'=true) {l l':List α} (hl:l'.length=l.length)
  (hN:∀ (p:Option Addr) (cap:Nat) (w:World),Calls P f #[.slice p 0 cap,.func (.func g) #[] #[]] w fun e w'=>e = .returned (.tuple #[])∧w'=w)
  (hS:∀ (blk cap:Nat) (w:World),HoldsK enc k w blk 0 l.toArray->blk<w.heap.size->Calls P f #[.slice (some ⟨blk,0,none⟩) l.length cap,.func (.func g) #[] #[]] w fun e w'=>e = .returned (.tuple #[]) ∧ ∃ n os,w'=sortWorldK enc k w blk 0 n l'.toArray os) :
  AMoves P f [.own 0 0 k 0 l.length,.fn (.func g) [] []] [(0,.row t k (l.map fun x=>litsA (enc x)))] 1 (.tup []) [(0,.row t k (l'.map fun x=>litsA (enc x)))]:=by
 intro K w vs hm hr
 obtain ⟨v,u,rfl⟩:∃ v u,vs=[v,u]:=by
  have hl:=hr.1
  match vs,hl with
  | [v,u],_=>exact ⟨v,u,rfl⟩
 obtain ⟨_,_,hcase⟩:=Q15 (hr.2 0 _ _ rfl rfl)
 have hu:u = .func (.func g) #[] #[]:=by
  have hf:=hr.2 1 _ _ rfl rfl
  generalize u=u at hf
  cases hf with
  | fn _ _ _ us ws hl hm h1 h2 =>
   have e1:us=[]:=by cases us with|nil=>rfl|cons _ _=>simp at hl
   have e2:ws=[]:=by cases ws with|nil=>rfl|cons _ _=>simp at hm
   subst e1 e2
   rfl
 subst hu
 by_cases h0:l=[]
 ·subst h0
  have e:l'=[]:=List.eq_nil_of_length_eq_zero (by simpa using hl)
  subst e
  obtain ⟨p,cap,rfl⟩:∃ p cap,v = .slice p 0 cap:=by
   rcases hcase with ⟨_,_,rfl⟩|⟨a,cap,rfl,_⟩
   ·exact ⟨none,0,rfl⟩
   ·exact ⟨some a,cap,rfl⟩
  refine (hN p cap w).mono ?_
  rintro e w' ⟨rfl,rfl⟩
  exact ⟨_,K,rfl,Qv9 (by rw [← hm.len];simp),hm,.tup _ _ rfl (by intro i x v hx;simp at hx)⟩
 have hlen:l.length ≠ 0:=by simpa using h0
 rcases hcase with ⟨_,q,_⟩|⟨a,cap,rfl,q1,q2,q3⟩
 ·exact absurd q hlen
 have ha:=q3 (by omega)
 simp only [Nat.zero_mul] at ha
 subst ha
 obtain ⟨hH,hblk⟩:=rowK_holds hk0 hk h0 hm
 refine (hS _ cap w hH hblk).mono ?_
 rintro e w' ⟨rfl,n,os,rfl⟩
 exact ⟨_,K,rfl,Qv9 (by rw [← hm.len];simp),rowK_sorted hk0 hk h1c h0 hl hm n os,.tup _ _ rfl (by intro i x v hx;simp at hx)⟩
end Go.Fw
namespace Go.Proofs.YtldebhdmhpopaaaGreatDoor
set_option linter.unusedSimpArgs false
set_option linter.unusedVariables false
open Go.Shelf Go.Sort Go.RowKit
def sflRen:Ren :=
 {f:=fun x=>match x with
   | 14=>248
   | 20=>260
   | 21=>261
   | 22=>262
   | 23=>263
   | 24=>264
   | 25=>265
   | 26=>266
   | 27=>267
   | 46=>272
   | 47=>255
   | 48=>256
   | 49=>273
   | 50=>274
   | 15=>216
   | 57=>280
   | 28=>245
   | 29=>246
   | n=>n
  t:=fun x=>match x with
   | 24=>232
   | 22=>227
   | 3=>3
   | 25=>266
   | 4=>4
   | 0=>0
   | 46=>278
   | 45=>277
   | 50=>115
   | 66=>293
   | 39=>180
   | 55=>50
   | 70=>297
   | 76=>309
   | 77=>310
   | 53=>284
   | 5=>5
   | 9=>9
   | n=>n
  g:=fun x=>x }
theorem sflLays:SlLaysF0.n14 Tryz.prog sflRen where
 mixed:=by kernel_rfl
 f14 := ⟨ "slices.pdqsortCmpFunc[muster/share.ranked[int]]", of_decide_eq_true rfl, Tryz.func248.trans (by kernel_rfl)⟩
 f15:=Tryz.func216.trans (by kernel_rfl)
 f20 := ⟨ "slices.insertionSortCmpFunc[muster/share.ranked[int]]", of_decide_eq_true rfl, Tryz.func260.trans (by kernel_rfl)⟩
 f21 := ⟨ "slices.heapSortCmpFunc[muster/share.ranked[int]]", of_decide_eq_true rfl, Tryz.func261.trans (by kernel_rfl)⟩
 f22 := ⟨ "slices.breakPatternsCmpFunc[muster/share.ranked[int]]", of_decide_eq_true rfl, Tryz.func262.trans (by kernel_rfl)⟩
 f23 := ⟨ "slices.choosePivotCmpFunc[muster/share.ranked[int]]", of_decide_eq_true rfl, Tryz.func263.trans (by kernel_rfl)⟩
 f24 := ⟨ "slices.reverseRangeCmpFunc[muster/share.ranked[int]]", of_decide_eq_true rfl, Tryz.func264.trans (by kernel_rfl)⟩
 f25 := ⟨ "slices.partialInsertionSortCmpFunc[muster/share.ranked[int]]", of_decide_eq_true rfl, Tryz.func265.trans (by kernel_rfl)⟩
 f26 := ⟨ "slices.partitionEqualCmpFunc[muster/share.ranked[int]]", of_decide_eq_true rfl, Tryz.func266.trans (by kernel_rfl)⟩
 f27 := ⟨ "slices.partitionCmpFunc[muster/share.ranked[int]]", of_decide_eq_true rfl, Tryz.func267.trans (by kernel_rfl)⟩
 f28:=Tryz.func245.trans (by kernel_rfl)
 f29:=Tryz.func246.trans (by kernel_rfl)
 f46 := ⟨ "slices.siftDownCmpFunc[muster/share.ranked[int]]", of_decide_eq_true rfl, Tryz.func272.trans (by kernel_rfl)⟩
 f47:=Tryz.func255.trans (by kernel_rfl)
 f48:=Tryz.func256.trans (by kernel_rfl)
 f49 := ⟨ "slices.medianAdjacentCmpFunc[muster/share.ranked[int]]", of_decide_eq_true rfl, Tryz.func273.trans (by kernel_rfl)⟩
 f50 := ⟨ "slices.medianCmpFunc[muster/share.ranked[int]]", of_decide_eq_true rfl, Tryz.func274.trans (by kernel_rfl)⟩
 f57 := ⟨ "slices.order2CmpFunc[muster/share.ranked[int]]", of_decide_eq_true rfl, Tryz.func280.trans (by kernel_rfl)⟩
 t0:=Tryz.underlying0
 a0:=Tryz.isAgg0
 z0:=Tryz.sizeOf0
 v0:=Tryz.zeroValue0
 t3:=Tryz.underlying3
 a3:=Tryz.isAgg3
 z3:=Tryz.sizeOf3
 v3:=Tryz.zeroValue3
 t4:=Tryz.underlying4
 a4:=Tryz.isAgg4
 z4:=Tryz.sizeOf4
 v4:=Tryz.zeroValue4
 t5:=Tryz.underlying5
 a5:=Tryz.isAgg5
 z5:=Tryz.sizeOf5
 v5:=Tryz.zeroValue5
 t9:=Tryz.underlying9
 a9:=Tryz.isAgg9
 z9:=Tryz.sizeOf9
 v9:=Tryz.zeroValue9
 t22:=Tryz.underlying227
 a22:=Tryz.isAgg227
 z22:=Tryz.sizeOf227
 v22:=Tryz.zeroValue227
 t25:=Tryz.underlying266
 a25:=Tryz.isAgg266
 z25:=Tryz.sizeOf266
 v25:=Tryz.zeroValue266
 t39:=Tryz.underlying180
 a39:=Tryz.isAgg180
 z39:=Tryz.sizeOf180
 v39:=Tryz.zeroValue180
 t45:=Tryz.underlying277
 a45:=Tryz.isAgg277
 z45:=Tryz.sizeOf277
 v45:=Tryz.zeroValue277
 t46:=Tryz.underlying278
 a46:=Tryz.isAgg278
 z46:=Tryz.sizeOf278
 v46:=Tryz.zeroValue278
 t50:=Tryz.underlying115
 a50:=Tryz.isAgg115
 z50:=Tryz.sizeOf115
 v50:=Tryz.zeroValue115
 t53:=Tryz.underlying284
 a53:=Tryz.isAgg284
 z53:=Tryz.sizeOf284
 v53:=Tryz.zeroValue284
 t55:=Tryz.underlying50
 a55:=Tryz.isAgg50
 z55:=Tryz.sizeOf50
 v55:=Tryz.zeroValue50
 t66:=Tryz.underlying293
 a66:=Tryz.isAgg293
 z66:=Tryz.sizeOf293
 v66:=Tryz.zeroValue293
 t70:=Tryz.underlying297
 a70:=Tryz.isAgg297
 z70:=Tryz.sizeOf297
 v70:=Tryz.zeroValue297
 t76:=Tryz.underlying309
 a76:=Tryz.isAgg309
 z76:=Tryz.sizeOf309
 v76:=Tryz.zeroValue309
 t77:=Tryz.underlying310
 a77:=Tryz.isAgg310
 z77:=Tryz.sizeOf310
 v77:=Tryz.zeroValue310
end Go.Proofs.YtldebhdmhpopaaaGreatDoor
