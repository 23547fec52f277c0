/-
  What the last text of this claim leans on: an evaluator over the code, contracts of functions, plain laws. Conditions stand in each statement.
-/
import Derived.Test.YtgnlcjenoaoffaaGreatDoorRH2
import Derived.MapKept
import Derived.Laws.BytesString
import Derived.Laws.Cover4
import Derived.Orders
namespace Go.Fw
set_option linter.unusedSimpArgs false
set_option linter.unusedVariables false
open Go.RowKit Go.MapKept
def setB (w:World) (r:Nat) (o:Obj):World:={ w with heap:=w.heap.setIfInBounds r o }
theorem setB_same {w:World} {r:Nat} {o:Obj} (h:r<w.heap.size):(setB w r o).heap[r]? = some o:=by
 simp [setB,h]
theorem Q99 {w:World} {r b:Nat} {o:Obj} (h:b ≠ r):(setB w r o).heap[b]? = w.heap[b]?:=by
 simp only [setB];rw [yPa (Ne.symm h)]
def noCells:Obj->Bool
 | .cells ..=>false
 | _=>true
theorem Qa3 {P:Program} {w:World} {r:Nat} {o:Obj} (h:w.heap[r]? = some o) (hn:noCells o=true):(getObj r).run P w = .ok o w:=by
 cases o <;> first|(simp [noCells] at hn;done)|simp [getObj,Sem.run,h]
theorem Q9a {P:Program} {w:World} {r:Nat} {o:Obj} (o':Obj) (h:w.heap[r]? = some o) (hn:noCells o=true):(setObj r o').run P w = .ok () (setB w r o'):=by
 cases o <;> first|(simp [noCells] at hn;done)|simp [setObj,Sem.run,h,setB]
theorem Qpc {K:Ctx} {o:Nat} {v:Value} (h:Rep K (.map o) v):v = .map (some (K.ρ o 0))∧o<K.n:=by
 cases h with
 | map _ ho=>exact ⟨rfl,ho⟩
section
variable {K:Ctx} {objs:Objs} {w:World}
theorem MemSat.addOther (h:MemSat K objs w) (x:AOther) (b:Obj) (hx:OtherSat K b x):MemSat (K.newObj w.heap.size 1) (objs++[(0,.other x)]) (w.alloc b):=by
 have hle:=Q92 K w.heap.size 1;have cases_o:∀ (o:Nat) (p:Nat × AObj),(objs++[(0,AObj.other x)])[o]? = some p->(objs[o]? = some p∧o<K.n)∨(o=K.n∧p=(0,.other x)):=by
  intro o p hp;rcases yyb o K.n with hlt|heq|hgt
  ·left;rw [ypa (by rw [h.len];exact hlt)] at hp;exact ⟨hp,hlt⟩
  ·right;subst heq;rw [yva (by rw [h.len];exact yia _),h.len,y8b] at hp;exact ⟨rfl,by simpa using hp.symm⟩
  ·rw [yYa (by simp [h.len];omega)] at hp;cases hp
 have e3:∀ v,(K.newObj w.heap.size 1).ρ K.n v=w.heap.size:=fun v=>by simp [Ctx.newObj]
 have e4:∀ v,(K.newObj w.heap.size 1).C K.n v=1:=fun v=>by simp [Ctx.newObj]
 have e2:∀ o v,o<K.n->(K.newObj w.heap.size 1).ρ o v=K.ρ o v:=fun o v ho=>by simp only [Ctx.newObj];rw [if_neg oA]
 have e1:∀ o v,o<K.n->(K.newObj w.heap.size 1).C o v=K.C o v:=fun o v ho=>by simp only [Ctx.newObj];rw [if_neg oA]
 refine ⟨by simp [Ctx.newObj,h.len],fun o p hp=>?_,fun o p hp=>?_,fun o p hp hl hC=>?_,fun o o' p p' hp hp' hl hl' hC hC' hne=>?_,fun b i u hu=>?_,h.below.alloc (L:=K.newObj w.heap.size 1) rfl rfl _⟩
 ·rcases cases_o o p hp with ⟨hp,hlt⟩|⟨rfl,rfl⟩
  ·simp only [Ctx.newObj];rw [if_neg oA];exact h.ver o p hp
  ·simp [Ctx.newObj]
 ·rcases cases_o o p hp with ⟨hp,hlt⟩|⟨rfl,rfl⟩
  ·refine (h.obj o p hp).mono hle hlt (by rw [h.ver o p hp];exact yia _) (fun hl hC=>?_);exact Below.heap_alloc _ _ _ (h.lo o p hp hl hC).2.1
  ·refine ⟨by show (K.newObj w.heap.size 1).C K.n 0 ≠ 0;rw [e4];omega,b,?_,hx.mono hle⟩;show (w.heap.push _)[(K.newObj w.heap.size 1).ρ K.n 0]? = _;rw [e3,Array.getElem?_push,if_pos rfl]
 ·rcases cases_o o p hp with ⟨hp,hlt⟩|⟨rfl,rfl⟩
  ·rw [e1 _ _ hlt] at hC;obtain ⟨g1,g2,g3⟩:=h.lo o p hp hl hC;rw [e2 _ _ hlt];exact ⟨g1,by simp;omega,g3⟩
  ·show _∧_ ∧ ∀ i,(K.newObj w.heap.size 1).M ((K.newObj w.heap.size 1).ρ K.n 0) i=none;show (K.newObj w.heap.size 1).B ((K.newObj w.heap.size 1).ρ K.n 0)=none∧_;rw [e3];refine ⟨h.below.fresh (yia _),by simp,fun i=>?_⟩;cases hM:K.M w.heap.size i with
   | none=>exact hM
   | some u=>exact absurd (h.M_lt hM) oA
 ·rcases cases_o o p hp with ⟨hp,hlt⟩|⟨rfl,rfl⟩ <;> rcases cases_o o' p' hp' with ⟨hp',hlt'⟩|⟨rfl,rfl⟩
  ·rw [e2 _ _ hlt,e2 _ _ hlt'];rw [e1 _ _ hlt] at hC;rw [e1 _ _ hlt'] at hC';exact h.dis o o' p p' hp hp' hl hl' hC hC' hne
  ·rw [e2 _ _ hlt,e3];rw [e1 _ _ hlt] at hC;have:=(h.lo o p hp hl hC).2.1;omega
  ·rw [e2 _ _ hlt',e3];rw [e1 _ _ hlt'] at hC';have:=(h.lo o' p' hp' hl' hC').2.1;omega
  ·exact absurd rfl hne
 ·have hu':K.M b i=some u:=hu;have:=h.mem b i u hu';exact ⟨(World.cell?_alloc_lt w _ ⟨b,i,none⟩ (h.M_lt hu')).trans this.1,this.2⟩
theorem MemSat.setOther (h:MemSat K objs w) {o:Nat} {x x':AOther} (hp:objs[o]? = some (0,.other x)) (b:Obj) (hx:OtherSat K b x'):MemSat K (objs.set o (0,.other x')) (setB w (K.ρ o 0) b):=by
 have hs:=h.obj o _ hp;have hC:K.C o 0 ≠ 0:=hs.1;have hlo:=h.lo o _ hp rfl hC;have key:∀ (o':Nat) (p:Nat × AObj),(objs.set o (0,.other x'))[o']? = some p->(o'=o∧p=(0,.other x'))∨(o' ≠ o∧objs[o']? = some p):=by
  intro o' p hp'
  by_cases ho:o'=o
  ·subst ho;rw [Q5a hp] at hp';exact .inl ⟨rfl,by simpa using hp'.symm⟩
  ·rw [Q6a (Ne.symm ho)] at hp';exact .inr ⟨ho,hp'⟩
 have live:∀ (o':Nat) (p:Nat × AObj),(objs.set o (0,.other x'))[o']? = some p -> ∃ q:Nat × AObj,objs[o']? = some q∧q.1=p.1∧(p.2.live=true->q.2.live=true):=by
  intro o' p hp';rcases key o' p hp' with ⟨rfl,rfl⟩|⟨_,hq⟩
  ·exact ⟨_,hp,rfl,fun _=>rfl⟩
  ·exact ⟨p,hq,rfl,id⟩
 refine ⟨by simp [h.len],fun o' p hp'=>?_,fun o' p hp'=>?_,fun o' p hp' hl' hC'=>?_,fun o1 o2 p1 p2 hp1 hp2 hl1 hl2 hC1 hC2 hne=>?_,fun b' i u hu=>?_,?_⟩
 ·obtain ⟨q,hq,hq1,_⟩:=live o' p hp';rw [← hq1];exact h.ver o' q hq
 ·rcases key o' p hp' with ⟨rfl,rfl⟩|⟨ho,hq⟩
  ·exact ⟨hC,b,setB_same hlo.2.1,hx⟩
  ·refine (h.obj o' p hq).mono (Ctx.le.refl K) (h.olt hq) (by rw [h.ver o' p hq];exact yia _) (fun hl' hC'=>Q99 ?_);exact h.dis o' o p _ hq hp hl' rfl hC' hC ho
 ·obtain ⟨q,hq,hq1,hq2⟩:=live o' p hp';rw [← hq1] at hC' ⊢;obtain ⟨g1,g2,g3⟩:=h.lo o' q hq (hq2 hl') hC';exact ⟨g1,by simpa [setB] using g2,g3⟩
 ·obtain ⟨q1,hq1,e1,f1⟩:=live o1 p1 hp1;obtain ⟨q2,hq2,e2,f2⟩:=live o2 p2 hp2;rw [← e1] at hC1 ⊢;rw [← e2] at hC2 ⊢;exact h.dis o1 o2 q1 q2 hq1 hq2 (f1 hl1) (f2 hl2) hC1 hC2 hne
 ·have:=h.mem b' i u hu;have hne:b' ≠ K.ρ o 0:=by
   intro hb;rw [hb,hlo.2.2 i] at hu;cases hu
  refine ⟨?_,this.2⟩;have e:(setB w (K.ρ o 0) b).cell? ⟨b',i,none⟩=w.cell? ⟨b',i,none⟩:=by
   simp only [World.cell?,Q99 hne]
  rw [e];exact this.1
 ·refine h.below.step rfl rfl rfl rfl rfl (by simp [setB]) fun b' y hy=>Q99 ?_
  rintro rfl;rw [hlo.1] at hy;cases hy
theorem MemSat.junk (h:MemSat K objs w) (b:Obj):MemSat K objs (w.alloc b):=by
 refine ⟨h.len,h.ver,fun o p hp=>?_,fun o p hp hl hC=>?_,h.dis,fun b i u hu=>?_,h.below.alloc rfl rfl _⟩
 ·refine (h.obj o p hp).mono (.refl K) (h.olt hp) (by rw [h.ver o p hp];exact yia _) (fun hl hC=>?_);exact Below.heap_alloc _ _ _ (h.lo o p hp hl hC).2.1
 ·obtain ⟨h1,h2,h3⟩:=h.lo o p hp hl hC;exact ⟨h1,by simp;omega,h3⟩
 ·have:=h.mem b i u hu;exact ⟨(World.cell?_alloc_lt w _ ⟨b,i,none⟩ (h.M_lt hu)).trans this.1,this.2⟩
theorem MemSat.rerow (h:MemSat K objs w) {o ver k:Nat} {t:TypeId} {es:List (List AVal)} (hp:objs[o]? = some (ver,.row t k es)) (hC:K.C o ver ≠ 0) (c:Array Value) (hc:RowAt w (K.ρ o ver) c t k) (fr:Nat × Nat) (hfr:frFree fr (c.size+rim k)) :
  MemSat K objs (setB w (K.ρ o ver) (.cells c t fr)):=by
 have hlo:=h.lo o _ hp rfl hC;refine ⟨h.len,h.ver,fun o' p hp'=>?_,fun o' p hp' hl' hC'=>?_,h.dis,fun b' i u hu=>?_,?_⟩
 ·by_cases ho:o'=o
  ·subst ho;rw [hp] at hp';simp only [yaa] at hp';subst hp';obtain ⟨h1,h2,h3⟩:=h.obj o' _ hp;refine ⟨h1,h2,fun hC=>?_⟩;obtain ⟨c2,hc2,q2,q3,q4⟩:=h3 hC;have hcc:c2=c:=by
    obtain ⟨_,_,e1⟩:=hc2;obtain ⟨_,_,e2⟩:=hc;rw [e1] at e2
    injection e2 with e2
    injection e2
   subst hcc;exact ⟨c2,⟨fr,hfr,setB_same hlo.2.1⟩,q2,q3,q4⟩
  ·refine (h.obj o' p hp').mono (Ctx.le.refl K) (h.olt hp') (by rw [h.ver o' p hp'];exact yia _) (fun hl' hC'=>Q99 ?_);exact h.dis o' o p _ hp' hp hl' rfl hC' hC ho
 ·obtain ⟨g1,g2,g3⟩:=h.lo o' p hp' hl' hC';exact ⟨g1,by simpa [setB] using g2,g3⟩
 ·have:=h.mem b' i u hu;have hne:b' ≠ K.ρ o ver:=by
   intro hb;rw [hb,hlo.2.2 i] at hu;cases hu
  refine ⟨?_,this.2⟩;have e:(setB w (K.ρ o ver) (.cells c t fr)).cell? ⟨b',i,none⟩=w.cell? ⟨b',i,none⟩:=by
   simp only [World.cell?,Q99 hne]
  rw [e];exact this.1
 ·refine h.below.step rfl rfl rfl rfl rfl (by simp [setB]) fun b' y hy=>Q99 ?_
  rintro rfl;rw [hlo.1] at hy;cases hy
theorem freeze_new (w:World) (c:Array Value) (t:TypeId):(w.alloc (.cells c t)).freeze ⟨w.heap.size,c.size,none⟩ 1=setB (w.alloc (.cells c t)) w.heap.size (.cells c t (c.size,c.size+1)):=by
 have e:((w.alloc (.cells c t)).heap)[w.heap.size]? = some (.cells c t):=by
  show (w.heap.push _)[w.heap.size]? = _;simp
 simp only [World.freeze,setB];rw [if_neg oA]
 congr 1
 apply Array.ext';apply yAb;intro i;have:(w.alloc (.cells c t)).heap=w.heap.push (.cells c t):=rfl;rw [this];simp only [Array.toList_modify,yrb,List.getElem?_modify,yzb,Array.toList_push]
 by_cases hi:w.heap.size=i
 ·subst hi;simp
 ·simp [hi]
theorem setB_alloc (w:World) (o o':Obj):setB (w.alloc o) w.heap.size o'=w.alloc o':=by
 show ({ w with heap:=(w.heap.push o).setIfInBounds w.heap.size o' }:World)={ w with heap:=w.heap.push o' }
 congr 1
 apply Array.ext';simp [yrb]
theorem strBytes_sound (hm:MemSat K objs w) (P:Program) (e:TypeId) (s:ByteArray):∃ u w' K',(Conv.stringToBytes e s).run P w = .ok u w'∧K.le K'∧MemSat K' (objs++[(0,.row e 1 (s.data.toList.map fun b=>[.lit (.int .u8 b.toNat)]))]) w'∧Rep K' (.own objs.length 0 1 0 s.size) u:=by
 obtain ⟨cap,hcap,hch⟩:∃ cap,s.size<=cap∧(choose (.appendCap s.size 0 e)).run P w = .ok cap { w with drawn:=w.drawn+1 }:=by
  rw [run_choose];refine ⟨s.size + (w.tape w.drawn (.appendCap s.size 0 e)) % (2 ^ 63 - s.size), by omega, ?_⟩;simp [Question.forced,Question.cut]
 let w1:World:={ w with drawn:=w.drawn+1 }
 let c:Array Value:=s.data.map (fun b=>.int .u8 b.toNat)++Array.replicate (cap - s.size) (.int .u8 0)
 have hcs:c.size=cap:=by
  show (s.data.map _++Array.replicate _ _).size=cap;simp only [Array.size_append,Array.size_map,Array.size_replicate];have:s.data.size=s.size:=rfl;omega
 have hm1:MemSat K objs w1:=hm.drawn _;have hrun:(Conv.stringToBytes e s).run P w = .ok (.slice (some ⟨w.heap.size,0,none⟩) s.size cap) (setB (w1.alloc (.cells c e)) w1.heap.size (.cells c e (c.size,c.size+1))):=by
  rw [← freeze_new];have hsh:(w1.alloc (.cells c e)).shape? w1.heap.size=some (e,c.size):=by
   have hb:(w1.alloc (.cells c e)).heap[w1.heap.size]? = some (.cells c e):=by
    show (w1.heap.push _)[w1.heap.size]? = _;simp
   simp only [World.shape?,hb]
  have hnew:(newObj (.cells c e)).run P w1 = .ok w1.heap.size (w1.alloc (.cells c e)):=rfl;have hsr:(shape w1.heap.size).run P (w1.alloc (.cells c e)) = .ok (some (e,c.size)) (w1.alloc (.cells c e)):=by
   show Result.ok ((w1.alloc (.cells c e)).shape? w1.heap.size) _=_;rw [hsh]
  simp only [Conv.stringToBytes,yqa,hch,yga,newRow,markStringish,yta];show ((((newObj (.cells c e)).run P w1).andThen _).andThen _)=_;simp only [hnew,yga,hsr]
  rfl
 have h1:∀ u ∈ c.toList,u.oneCell'=true:=by
  intro u hu;simp only [c,Array.toList_append,ykb,Array.toList_replicate,yOb,ypb,List.mem_replicate] at hu;rcases hu with ⟨b,_,rfl⟩|⟨_,rfl⟩ <;> rfl
 by_cases h0:cap=0
 ·have hs0:s.size=0:=by omega
  have hnil:s.data.toList=[]:=yCa (by simpa using hs0);refine ⟨_,_,K.newObj 0 0,hrun,Q92 K 0 0,?_,?_⟩
  ·rw [setB_alloc,hnil];exact (hm1.junk _).addNone e 1
  ·rw [hs0,h0];refine .own _ _ _ _ _ ?_ (yna _) _ 0 (yia _) ?_ (fun h=>absurd rfl h)
   ·simp [Ctx.newObj,hm.len]
   ·simp [Ctx.newObj,hm.len]
 ·have hrow:=hm1.addRow e 1 (s.data.toList.map fun b=>[AVal.lit (.int .u8 b.toNat)]) c cap h0 (by simpa using hcap) (by rw [hcs];omega) (fun x hx=>by obtain ⟨b,_,rfl⟩:=List.mem_map.1 hx;rfl) h1 (fun i j x y hx hy=>by
   rw [yra] at hx;cases hb:s.data.toList[i]? with
   | none=>rw [hb] at hx;cases hx
   | some b =>
    rw [hb] at hx;simp only [yBa,yaa] at hx;subst hx;cases j with
    | succ j=>simp at hy
    | zero =>
     simp only [yab,yaa] at hy;subst hy;refine ⟨_,?_,.lit _⟩;have hi:i<s.data.size:=by have:=(List.getElem?_eq_some_iff.1 hb).1;simpa using this
     rw [Nat.mul_one,yhb];show (s.data.map _++Array.replicate _ _)[i]? = _;rw [yXb (by simpa using hi),Array.getElem?_map];simp only [yVa] at hb;rw [hb]
     rfl)
  have hget:(objs++[(0,AObj.row e 1 (s.data.toList.map fun b=>[AVal.lit (.int .u8 b.toNat)]))])[objs.length]? = some (0,AObj.row e 1 (s.data.toList.map fun b=>[AVal.lit (.int .u8 b.toNat)])):=by simp
  have eρ:(K.newObj w1.heap.size cap).ρ objs.length 0=w1.heap.size:=by simp [Ctx.newObj,hm.len]
  have eC:(K.newObj w1.heap.size cap).C objs.length 0=cap:=by simp [Ctx.newObj,hm.len]
  have hat:RowAt (w1.alloc (.cells c e)) ((K.newObj w1.heap.size cap).ρ objs.length 0) c e 1:=by
   rw [eρ];refine RowAt.plain ?_;show (w1.heap.push _)[w1.heap.size]? = _;simp
  have hfin:=hrow.rerow hget (by rw [eC];exact h0) c hat (c.size,c.size+1) (fun i hi=>by simp only [rim] at hi ⊢;omega);rw [eρ] at hfin;refine ⟨_,_,K.newObj w1.heap.size cap,hrun,Q92 K _ _,hfin,?_⟩;refine .own _ _ _ _ _ (by simp [Ctx.newObj,hm.len]) (yna _) _ cap hcap (by rw [eC];omega) (fun _=>?_);rw [eρ]
end
def Qoa (objs:Objs) (o:Nat):Option (List (Value × AVal × Nat) × Nat) :=
 match objs[o]? with
 | some (0,.other (.map es clock))=>some (es,clock)
 | _=>none
theorem QJa {objs:Objs} {o:Nat} {es:List (Value × AVal × Nat)} {clock:Nat} (h:Qoa objs o=some (es,clock)):objs[o]? = some (0,.other (.map es clock)):=by
 unfold Qoa at h;split at h
 ·rename_i es' c' he;simp only [yaa,yDa] at h;obtain ⟨rfl,rfl⟩:=h;exact he
 ·cases h
def keyOK (d:Option TypeDesc):Value->Bool
 | .int k _=>(match d with|some (.int k')=>decide (k=k')|_=>false)
 | .string _=>(match d with|some .string=>true|_=>false)
 | _=>false
def sameK:Value->Value->Bool
 | .int _ a,.int _ b=>a==b
 | .string a,.string b=>a==b
 | _,_=>false
def findM (k:Value):List (Value × AVal × Nat)->Nat->Option (Nat × AVal × Nat)
 | [],_=>none
 | (k',x,st) :: r,i=>bif sameK k k' then some (i,x,st) else findM k r (i+1)
theorem Q9b {k:Value}:∀ {es:List (Value × AVal × Nat)} {i j:Nat} {x:AVal} {st:Nat},findM k es i=some (j,x,st)->i<=j ∧ ∃ k',es[j - i]? = some (k',x,st)∧sameK k k'=true
 | [],i,j,x,st,h=>by simp [findM] at h
 | (k',y,s) :: r,i,j,x,st,h=>by
  unfold findM at h;cases hs:sameK k k' with
  | true =>
   rw [hs] at h;simp only [cond_true,yaa,yDa] at h;obtain ⟨rfl,rfl,rfl⟩:=h;exact ⟨yia _,k',by simp,hs⟩
  | false =>
   rw [hs] at h;simp only [cond_false] at h;obtain ⟨h1,k2,h2,h3⟩:=Q9b h;refine ⟨by omega,k2,?_,h3⟩;rw [show j - i=(j - (i+1))+1 by omega];simpa using h2
theorem sameNow_ok {d:TypeDesc} {k k':Value} (h:keyOK (some d) k=true) (h':keyOK (some d) k'=true):Instr.sameNow d k k'=some (sameK k k'):=by
 cases k with
 | int a n =>
  cases d <;> simp [keyOK] at h
  cases k' with
  | int b m=>simp [keyOK] at h';subst h h';simp [Instr.sameNow,sameK]
  | string s=>simp [keyOK] at h'
  | _=>simp [keyOK] at h'
 | string s =>
  cases d <;> simp [keyOK] at h
  cases k' with
  | int b m=>simp [keyOK] at h'
  | string s'=>simp [Instr.sameNow,sameK]
  | _=>simp [keyOK] at h'
 | _=>simp [keyOK] at h
def EntsRep (K:Ctx) (es:List (Value × AVal × Nat)) (arr:List MapEntry):Prop:=arr.length=es.length ∧ ∀ (i:Nat) (k:Value) (x:AVal) (st:Nat) (e:MapEntry),es[i]? = some (k,x,st)->arr[i]? = some e->e.key=k∧e.born=st∧Rep K x e.val
theorem EntsRep.tail {K:Ctx} {q:Value × AVal × Nat} {es:List (Value × AVal × Nat)} {e:MapEntry} {arr:List MapEntry} (h:EntsRep K (q :: es) (e :: arr)):EntsRep K es arr :=
 ⟨by have:=h.1;simpa using this,fun i k x st e' he ha=>h.2 (i+1) k x st e' (by simpa using he) (by simpa using ha)⟩
theorem Q3c {K:Ctx} {d:TypeDesc} {k:Value} (hk:keyOK (some d) k=true):∀ {es:List (Value × AVal × Nat)} {arr:List MapEntry} (i:Nat),EntsRep K es arr->(∀ e ∈ es,keyOK (some d) e.1=true) ->
  (findM k es i=none->Instr.findNow d k arr i=some none)∧(∀ j x st,findM k es i=some (j,x,st) -> ∃ e,arr[j - i]? = some e∧Instr.findNow d k arr i=some (some (j,e.val)))
 | [],arr,i,hr,_=>by
  have:arr=[]:=by cases arr with|nil=>rfl|cons _ _=>exact absurd hr.1 (by simp)
  subst this;exact ⟨fun _=>rfl,fun j x st h=>by simp [findM] at h⟩
 | (k',y,s) :: r,arr,i,hr,hall=>by
  match arr,hr with
  | [],hr=>exact absurd hr.1 (by simp)
  | e :: arr,hr =>
   obtain ⟨h1,h2,h3⟩:=hr.2 0 k' y s e rfl rfl;have hn:Instr.sameNow d k e.key=some (sameK k k'):=by rw [h1];exact sameNow_ok hk (hall _ (yIa ..))
   obtain ⟨i1,i2⟩:=Q3c hk (i+1) hr.tail (fun q hq=>hall q (ywa _ hq));unfold findM Instr.findNow;rw [hn];cases hs:sameK k k' with
   | true =>
    simp only [cond_true];refine ⟨fun h=>(by cases h),fun j x st h=>?_⟩;simp only [yaa,yDa] at h;obtain ⟨rfl,rfl,rfl⟩:=h;exact ⟨e,by simp,rfl⟩
   | false =>
    simp only [cond_false];refine ⟨i1,fun j x st h=>?_⟩;obtain ⟨e',q1,q2⟩:=i2 j x st h;have:=(Q9b h).1;exact ⟨e',by rw [show j - i=(j - (i+1))+1 by omega];simpa using q1,q2⟩
def zeroVal (P:Program) (t:TypeId):Option AVal :=
 match P.info? t with
 | some i =>
  (match i.zero with
   | some (.agg cs)=>bif cs.toList.all (·.oneCell') then some (.agg (cs.toList.map .lit)) else none
   | some v=>some (.lit v)
   | none=>none)
 | none=>none
def Bov (b:Bool):AVal:=.lit (.bool b)
def findB (st:Nat):List (Value × AVal × Nat)->Option (Value × AVal)
 | []=>none
 | (k,x,b) :: r=>(match Nat.beq b st with|true=>some (k,x)|false=>findB st r)
def entryA (x:AVal) (objs:Objs):Option AVal :=
 match x with
 | .ptr i 0 1 0 0 =>
  (match objs[i]? with
   | some (0,.other (.mapIter ob _ seen last)) =>
    (match Qoa objs ob,seen.back? with
    | some (es,clock),some st=>(match Nat.beq clock last,findB st es with|true,some (k,x)=>some (.tup [.lit k,x])|_,_=>none)
    | _,_=>none)
   | _=>none)
 | _=>none
def nilCmp (P:Program) (op:BinOp) (t:TypeId) (x y:AVal):Option (Nat × Bool) :=
 match x,y with
 | .seq _ n _ _,.lit (.slice none 0 0)=>(match op,P.underlying t with | .eql,some (.slice _)=>some (n,false) | .neq,some (.slice _)=>some (n,true)|_,_=>none)
 | _,_=>none
def NewsP (k:Nat) (x:AVal) (objs:Objs) (l:List (List AVal)):Prop:=newsA k x objs=some l
theorem newsP_seq {k n:Nat} {t:Bool} {f:Nat->List AVal} {objs:Objs} {l:List (List AVal)} (h:(List.range n).map f=l):NewsP k (.seq k n t f) objs l:=by
 subst h;simp [NewsP,newsA,seqOf]
theorem newsP_own {o ver k len:Nat} {objs:Objs} {te:TypeId} {es:List (List AVal)} (hr:rowOf objs o ver k=some (te,es)) (hl:len=es.length):NewsP k (.own o ver k 0 len) objs es:=by
 subst hl;have:es.length.ble es.length=true:=Nat.ble_eq_true_of_le (yia _);simp [NewsP,newsA,hr,this]
def putM (kv:Value) (x:AVal) (es:List (Value × AVal × Nat)) (clock:Nat):List (Value × AVal × Nat) × Nat :=
 match findM kv es 0 with
 | some (i,_,st)=>(es.set i (kv,x,st),clock)
 | none=>(es++[(kv,x,clock)],clock+1)
def LookP (kv:Value) (es:List (Value × AVal × Nat)) (z v:AVal) (b:Bool):Prop :=
 match findM kv es 0 with
 | some (_,y,_)=>(∀ (K:Ctx) (u:Value),Rep K y u->Rep K v u)∧b=true
 | none=>(∀ (K:Ctx) (u:Value),Rep K z u->Rep K v u)∧b=false
def QHc (P:Program) (kt:TypeId) (kv:Value) (es:List (Value × AVal × Nat)):Prop:=(keyOK (P.underlying kt) kv&&es.all fun e=>keyOK (P.underlying kt) e.1)=true
def evalX (P:Program) (look:Operand->AVal) (objs:Objs) (o:Oper) (Kp:AVal->Objs->Prop):Prop :=
 match o.op with
 | .convert src dst x =>
  (match P.underlying src,P.underlying dst with
   | some .string,some (.slice e) =>
    (match P.underlying e,look x with
    | some (.int .u8),.lit (.string t)=>Kp (.own objs.length 0 1 0 t.size) (objs++[(0,.row e 1 (t.data.toList.map fun b=>[.lit (.int .u8 b.toNat)]))])
    | _,_=>False)
   | some (.slice e),some .string =>
    (match P.underlying e with
    | some (.int .u8)=>∃ ns:List Int,NewsP 1 (look x) objs (ns.map fun n=>[.lit (.int .u8 n)])∧Kp (.lit (.string (ns.foldl (fun r n=>r.push (UInt8.ofNat n.toNat)) ByteArray.empty))) objs
    | some (.int .i32)=>∃ ns:List Int,NewsP 1 (look x) objs (ns.map fun n=>[.lit (.int .i32 n)])∧Kp (.lit (.string (runesBytes ns))) objs
    | _=>False)
   | _,_=>False)
 | .makeMap _ none=>Kp (.map objs.length) (objs++[(0,.other (.map [] 0))])
 | .mapUpdate t m k x =>
  (match P.underlying t,look m,look k with
   | some (.map kt _),.map ob,.lit kv =>
    (match Qoa objs ob with
    | some (es,clock) =>
     ∃ (es':List (Value × AVal × Nat)) (c':Nat),QHc P kt kv es∧putM kv (look x) es clock=(es',c')∧Kp (.lit undef) (objs.set ob (0,.other (.map es' c')))
    | none=>False)
   | _,_,_=>False)
 | .lookup t m k ok =>
  (match P.underlying t,look m,look k with
   | some (.map kt et),.map ob,.lit kv =>
    (match Qoa objs ob,zeroVal P et with
    | some (es,_),some z =>
     ∃ (v:AVal) (b:Bool),QHc P kt kv es∧LookP kv es z v b∧Kp (bif ok then .tup [v,Bov b] else v) objs
    | _,_=>False)
   | _,_,_=>False)
 | .range t x =>
  (match P.underlying t,look x with
   | some .string,.lit (.string s)=>Kp (.ptr objs.length 0 1 0 0) (objs++[(0,.other (.strIter s 0))])
   | some (.map _ _),.map ob =>
    (match Qoa objs ob with
    | some (_,clock)=>Kp (.ptr objs.length 0 1 0 0) (objs++[(0,.other (.mapIter ob clock #[] clock))])
    | none=>False)
   | _,_=>False)
 | .next it isString =>
  (match look it with
   | .ptr i 0 1 0 0 =>
    (match objs[i]?,isString with
    | some (0,.other (.strIter s pos)),true =>
     (decide (pos<s.size)=true->Kp (.tup [Bov true,.lit (.int .i64 pos),.lit (.int .i32 (Utf8.decode s pos).1)]) (objs.set i (0,.other (.strIter s (pos+(Utf8.decode s pos).2))))) ∧
     (decide (pos<s.size)=false->Kp (.tup [Bov false]) objs)
    | some (0,.other (.mapIter ob since seen last)),false =>
     (match Qoa objs ob with
      | some (es,clock) =>
       (es.all (fun e=>decide (e.2.2<since))&&(seen.isEmpty||es.isEmpty || !(es.all fun e=>decide (e.2.2 >= last))))=true ∧
       (∀ k x st,(k,x,st) ∈ es.filter (fun e=>!seen.contains e.2.2)->Kp (.tup [Bov true,.lit k,x]) (objs.set i (0,.other (.mapIter ob since (seen.push st) clock)))) ∧
       (es.filter (fun e=>!seen.contains e.2.2)=[]->Kp (.tup [Bov false]) objs)
      | none=>False)
    | _,_=>False)
   | _=>False)
 | .entry it=>∃ v,entryA (look it) objs=some v∧Kp v objs
 | .binOp op t x y _ =>
  (match nilCmp P op t (look x) (look y) with
   | some (n,r)=>∀ b:Bool,(n ≠ 0->b=r)->Kp (.lit (.bool b)) objs
   | none=>False)
 | .call c =>
  (match c.callee,c.args.toList,c.argTypes.toList with
   | .builtin .clear,[x],[t] =>
    (match P.underlying t,look x with
    | some (.slice e),.own ob ver k off len =>
     (match rowOf objs ob ver k,zeroA P e with
      | some (te,es),some z=>(off+len=es.length∧k=z.length)∧Kp (.tup []) (objs.set ob (ver,.row te k (es.take off)))
      | _,_=>False)
    | _,_=>False)
   | .builtin .append,[x,y],[t,u] =>
    (match elemA P t,P.underlying u,look x,look y with
    | some e,some .string,.own ob ver k off len,.lit (.string s) =>
     (match rowOf objs ob ver k,zeroA P e with
      | some (te,es),some z=>(off=0∧len=es.length∧k=1∧te=e∧z.length=1∧Qg9 P e=1∧len+s.size<=70368744177664) ∧
       Kp (.own ob (ver+1) 1 0 (len+s.size)) (objs.set ob (ver+1,.row e 1 (es++s.data.toList.map fun b=>[.lit (.int .u8 b.toNat)])))
      | _,_=>False)
    | _,_,_,_=>False)
   | _,_,_=>False)
 | _=>False
def ownSl (P:Program) (look:Operand->AVal) (objs:Objs) (o:Oper) (Kp:AVal->Objs->Prop):Prop :=
 match o.op with
 | .buildSlice t n ps=>(match QJd P t n (ps.toList.map fun p=>(p.1,look p.2)) objs with|some (v,objs')=>Kp v objs'|none=>False)
 | _=>False
theorem ownSl_mono {P:Program} {look:Operand->AVal} {objs:Objs} {o:Oper} {Kp Kp':AVal->Objs->Prop} (hk:∀ r o',Kp r o'->Kp' r o'):ownSl P look objs o Kp->ownSl P look objs o Kp':=by
 unfold ownSl;split
 ·split
  ·exact hk _ _
  ·exact id
 ·exact id
theorem ownSl_sound {P:Program} {K:Ctx} {objs:Objs} {w:World} (hm:MemSat K objs w) {look:Operand->AVal} {ρ:Operand->Value} (hl:∀ x,Rep K (look x) (ρ x)) {o:Oper} {Kp:AVal->Objs->Prop} (h:ownSl P look objs o Kp) :
  ∃ r objs',Does P (execOp ρ o) w K objs' r∧Kp r objs':=by
 obtain ⟨dst,op,type,pos,after,guard⟩:=o;unfold ownSl at h;simp only at h;split at h
 ·rename_i t n ps;split at h
  ·rename_i v objs' hb
   obtain ⟨u,w',K',h1,h2,h3,h4⟩:=QKd (P:=P) (qs:=ps.toList.map fun p=>(p.1,ρ p.2)) hm (by simp) (by
    intro i p q hp hq;rw [yra] at hp hq;cases hx:ps.toList[i]? with
    | none=>rw [hx] at hp;cases hp
    | some y =>
     rw [hx] at hp hq;simp only [yBa,yaa] at hp hq;subst hp hq
     exact ⟨rfl,hl _⟩) hb
   refine ⟨_,_,⟨u,w',K',.inl ?_,h2,h3,h4⟩,h⟩;have e:(ps.toList.map fun p=>(p.1,ρ p.2)).toArray=ps.map fun p=>(p.1,ρ p.2):=by apply Array.ext';simp
   rw [e] at h1;simp only [execOp,yqa,h1,yga,yta]
  ·exact h.elim
 ·exact h.elim
theorem evalX_mono {P:Program} {look:Operand->AVal} {objs:Objs} {o:Oper} {Kp Kp':AVal->Objs->Prop} (hk:∀ r o',Kp r o'->Kp' r o'):evalX P look objs o Kp->evalX P look objs o Kp':=by
 unfold evalX;split
 ·split
  ·split
   ·exact hk _ _
   ·exact id
  ·split
   ·rintro ⟨ns,h1,h2⟩;exact ⟨ns,h1,hk _ _ h2⟩
   ·rintro ⟨ns,h1,h2⟩;exact ⟨ns,h1,hk _ _ h2⟩
   ·exact id
  ·exact id
 ·exact hk _ _
 ·split
  ·split
   ·rintro ⟨es',c',h1,h2,h3⟩;exact ⟨es',c',h1,h2,hk _ _ h3⟩
   ·exact id
  ·exact id
 ·split
  ·split
   ·rintro ⟨v,b,h1,h2,h3⟩;exact ⟨v,b,h1,h2,hk _ _ h3⟩
   ·exact id
  ·exact id
 ·split
  ·exact hk _ _
  ·split
   ·exact hk _ _
   ·exact id
  ·exact id
 ·split
  ·split
   ·rintro ⟨h1,h2⟩;exact ⟨fun hf=>hk _ _ (h1 hf),fun hf=>hk _ _ (h2 hf)⟩
   ·split
    ·rintro ⟨h1,h2,h3⟩;exact ⟨h1,fun k x st hf=>hk _ _ (h2 k x st hf),fun hf=>hk _ _ (h3 hf)⟩
    ·exact id
   ·exact id
  ·exact id
 ·rintro ⟨v,h1,h2⟩;exact ⟨v,h1,hk _ _ h2⟩
 ·split
  ·exact fun h b hb=>hk _ _ (h b hb)
  ·exact id
 ·split
  ·split
   ·split
    ·exact fun h=>⟨h.1,hk _ _ h.2⟩
    ·exact id
   ·exact id
  ·split
   ·split
    ·exact fun h=>⟨h.1,hk _ _ h.2⟩
    ·exact id
   ·exact id
  ·exact id
 ·exact id
section
variable {P:Program} {K:Ctx} {objs:Objs} {w:World}
theorem appRuns_str {t u ty e:TypeId} {i:TypeInfo} {z:Value} (ht:P.underlying t=some (.slice e)) (hu:P.underlying u=some .string) (hi:P.info? e=some i) (hz:i.zero=some z) (h1:i.size=1) (s:ByteArray) :
  AppRuns P w t u ty e i z (.string s) s.size (s.data.toList.map fun b=>Value.int .u8 b.toNat):=by
 have hx:(Array.map (fun b:UInt8=>Value.int IntKind.u8 (b.toNat:Int)) s.data).extract 0 s.size=Array.map (fun b:UInt8=>Value.int IntKind.u8 (b.toNat:Int)) s.data:=by
  have hs:s.size=(Array.map (fun b:UInt8=>Value.int IntKind.u8 (b.toNat:Int)) s.data).size:=by rw [Array.size_map];rfl
  rw [hs,Array.extract_size]
 have hl:(s.data.toList.map fun b:UInt8=>Value.int IntKind.u8 (b.toNat:Int)).toArray=Array.map (fun b:UInt8=>Value.int IntKind.u8 (b.toNat:Int)) s.data:=by apply Array.ext';simp
 have hone:∀ v ∈ s.data.toList.map fun b:UInt8=>Value.int IntKind.u8 (b.toNat:Int),v.oneCell'=true:=by
  intro v hv;obtain ⟨b,_,rfl⟩:=List.mem_map.1 hv
  rfl
 refine ⟨fun hn B m c' hle=>?_,fun hn h2 h3=>?_,fun hn k g sLen sCap cur hg hroom hfit=>?_,fun hn b sLen sCap olds hlo hco hgt h63 hfit=>?_⟩
 ·have hd:s.data = #[]:=yRb hn;cases B <;> simp [Builtin.append_,run_underlying ht,run_underlying hu,sizeOf,typeInfo,hi,Builtin.lenOf,Builtin.firstCells,hn,hle,hd,storeCells]
 ·rw [hl];exact run_append_nil_string (P:=P) w t u ty e i z ht hu hi hz s oA oA h3
 ·obtain ⟨fr,hfr,hcb⟩:=hg;have hst:=QN2 P g (sLen*i.size) e fr _ 0 cur w hcb (hfr.le (Nat.le_add_right _ _)) (by simpa using hfit) hone;simp only [yhb] at hst;simp [Builtin.append_,run_underlying ht,run_underlying hu,sizeOf,typeInfo,hi,Builtin.lenOf,hroom,Builtin.firstCells,hx,Addr.add_lit,hst]
 ·have hn':¬ (sLen+s.size<=sCap):=by omega
  have h63':¬ (9223372036854775807<((sLen:Int)+(s.size:Int))):=by omega
  have h48':¬ (281474976710656<Builtin.nextslicecap (sLen+s.size) sCap*i.bytes):=by omega
  have hfo:=run_firstCells_some (P:=P) w.drew i.size sLen b sLen sCap olds hlo (by simpa using hco);simp only [Builtin.firstCells] at hfo;rw [hl];simp [Builtin.append_,run_underlying ht,run_underlying hu,sizeOf,typeInfo,zeroValue,hi,hz,Builtin.lenOf,hn',h63',h48',Question.forced,hfo,Builtin.firstCells,hx,newRow,grownCap]
theorem row_str (K:Ctx) (s:ByteArray):Row K 1 (s.data.toList.map fun b=>[.lit (.int .u8 b.toNat)]) (s.data.toList.map fun b=>Value.int .u8 b.toNat):=by
 refine ⟨by simp,fun e he=>?_,fun u hu=>?_,fun i j e x he hx=>?_⟩
 ·obtain ⟨b,_,rfl⟩:=List.mem_map.1 he;rfl
 ·obtain ⟨b,_,rfl⟩:=List.mem_map.1 hu;rfl
 ·rw [yra] at he;cases hb:s.data.toList[i]? with
  | none=>rw [hb] at he;cases he
  | some b =>
   rw [hb] at he;simp only [yBa,yaa] at he;subst he;cases j with
   | zero =>
    simp only [yab,yaa] at hx;subst hx;exact ⟨.int .u8 b.toNat,by rw [yra];simp [hb],.lit _⟩
   | succ j=>simp at hx
theorem clear_sound (hm:MemSat K objs w) {t e te:TypeId} {v:Value} {ob ver k off len:Nat} {es:List (List AVal)} {z:List AVal} (ht:P.underlying t=some (.slice e)) (hx:Rep K (.own ob ver k off len) v)
  (hro:rowOf objs ob ver k=some (te,es)) (hz:zeroA P e=some z) (hl:off+len=es.length) (hk:k=z.length) (ty:TypeId) :
  ∃ w',(Builtin.clear_ #[t] ty #[v]).run P w = .ok (.tuple #[]) w'∧MemSat K (objs.set ob (ver,.row te k (es.take off))) w':=by
 have hobj:=Ql7 hro;obtain ⟨hel,hesC,_⟩:=hm.obj ob _ hobj;have hesC:es.length<=K.C ob ver:=hesC;obtain ⟨i,zv,hi,hz0,rfl,hz1,hzs⟩:=Qz4 hz;have hk:k=zv.cells.size:=by simpa using hk
 obtain ⟨ho,hv,hcase⟩:=Qv5 hx;have same:len=0->MemSat K (objs.set ob (ver,.row te k (es.take off))) w:=by
  intro h0;have e:objs.set ob (ver,.row te k (es.take off))=objs:=by
   rw [List.take_of_length_le oA];apply yAb;intro o'
   by_cases h:ob=o'
   ·subst h;rw [Q5a hobj,hobj]
   ·rw [Q6a h]
  rw [e];exact hm
 rcases hcase with ⟨h0,hl0,rfl⟩|⟨a,c,rfl,hlc,hC,ha⟩
 ·exact ⟨w,by simp [Builtin.clear_,run_underlying ht],same hl0⟩
 ·cases len with
  | zero=>exact ⟨w,by simp [Builtin.clear_,run_underlying ht],same rfl⟩
  | succ n =>
   obtain rfl:=ha oA;have hC0:K.C ob ver ≠ 0:=by omega
   obtain ⟨cells,⟨fr,hfr,hcb⟩,hs,h1,hr⟩:=hm.rowBlock hobj hC0;have hzl:(Builtin.zeroCells zv.cells (n+1)).toList.length=(n+1)*k:=by simp [size_zeroCells,hk]
   have hsz:off*k+0+(Builtin.zeroCells zv.cells (n+1)).toList.length<=cells.size:=by
    rw [hzl,hs,yhb,← y4a];exact yHa _ oA
   have hz2:∀ u ∈ (Builtin.zeroCells zv.cells (n+1)).toList,u.oneCell'=true:=by
    intro u hu;simp only [Builtin.zeroCells,ykb,ypb,ywb,y5a] at hu;obtain ⟨q,hq,rfl⟩:=hu;rcases ySa zv.cells.size with h0|h0
    ·rw [h0] at hq;simp at hq
    ·rw [getElem!_pos zv.cells _ (yTb _ h0)];exact hz1 _ (by simp)
   have hrun:=QN2 P (K.ρ ob ver) (off*k) te fr _ 0 cells w hcb (hfr.le (Nat.le_add_right _ _)) hsz hz2;refine ⟨_,?_,hm.setRow hobj hC0 cells (cells.toList.take (off*k+0)++(Builtin.zeroCells zv.cells (n+1)).toList++cells.toList.drop (off*k+0+(Builtin.zeroCells zv.cells (n+1)).toList.length)).toArray ⟨fr,hfr,hcb⟩ ?_ ?_ (es.take off) (by simp;omega) (fun e he=>hel e (yjb he)) ?_⟩
   ·simp [Builtin.clear_,run_underlying ht,zeroValue,typeInfo,hi,hz0,hrun]
   ·rw [hzl] at hsz;simp only [ymb,yma,yAa,yEa,ybb];rw [show (Builtin.zeroCells zv.cells (n+1)).size=(n+1)*k by simpa using hzl];omega
   ·intro u hu;simp only [yOb] at hu;rcases hu with (hu|hu)|hu
    ·exact h1 u (yjb hu)
    ·exact hz2 u hu
    ·exact h1 u (yib hu)
   ·intro i' j e' x he hx;have hi':i'<off:=by
     have:=(List.getElem?_eq_some_iff.1 he).1;simp at this;omega
    have he':es[i']? = some e':=by rw [yKa] at he;simpa [hi'] using he
    have hj:j<k:=by
     have:=(List.getElem?_eq_some_iff.1 hx).1;rw [hel e' (yza he')] at this;exact this
    obtain ⟨u,hu,hru⟩:=hr i' j e' x he' hx;refine ⟨u,?_,hru⟩;have hlt:i'*k+j<off*k:=by
     have:=yHa k (show i'+1<=off by omega);rw [y4a] at this;omega
    have hlt2:=(Array.getElem?_eq_some_iff.1 hu).1;rw [y9a,ytb,ypa (by simp;omega),yKa];simpa [hlt] using hu
theorem Qle {d:TypeDesc} {k:Value} (h:keyOK (some d) k=true):IsKey d k:=by
 cases k with
 | int a n =>
  cases d <;> simp [keyOK] at h
  subst h;simp [IsKey]
 | string s =>
  cases d <;> simp [keyOK] at h
  simp [IsKey]
 | _=>simp [keyOK] at h
theorem sameK_eq {d:TypeDesc} {k k':Value} (h:keyOK (some d) k=true) (h':keyOK (some d) k'=true) (hs:sameK k k'=true):k=k':=by
 cases k with
 | int a n =>
  cases d <;> simp [keyOK] at h
  cases k' with
  | int b m=>simp [keyOK] at h';subst h h';simp [sameK] at hs;rw [hs]
  | _=>simp [keyOK] at h'
 | string s =>
  cases k' with
  | string s'=>simp only [sameK] at hs;rw [(bytes_beq _ _).1 hs]
  | _=>simp [sameK] at hs
 | _=>simp [keyOK] at h
theorem zeroVal_sound {t:TypeId} {z:AVal} (h:zeroVal P t=some z):∃ v,(zeroValue t).run P w = .ok v w∧Rep K z v:=by
 unfold zeroVal at h;split at h
 ·rename_i i hi;split at h
  ·rename_i cs hz;cases hb:cs.toList.all (·.oneCell') with
   | false=>rw [hb] at h;cases h
   | true =>
    rw [hb] at h;simp only [cond_true,yaa] at h;subst h;refine ⟨.agg cs,by simp [zeroValue,typeInfo,hi,hz],?_⟩
    have:=Rep.agg (K:=K) (cs.toList.map .lit) cs.toList (by simp) (fun v hv=>List.all_eq_true.1 hb v hv) (fun i x v hx hv=>by
     rw [yra] at hx;rw [hv] at hx;simp only [yBa,yaa] at hx;subst hx
     exact .lit v)
    simpa using this
  ·rename_i v hnagg hz;simp only [yaa] at h;subst h;exact ⟨v,by simp [zeroValue,typeInfo,hi,hz],.lit v⟩
  ·cases h
 ·cases h
theorem ents_push {es:List (Value × AVal × Nat)} {arr:Array MapEntry} (h:EntsRep K es arr.toList) {k:Value} {x:AVal} {v:Value} {st:Nat} (hx:Rep K x v):EntsRep K (es++[(k,x,st)]) (arr.push ⟨k,v,st⟩).toList:=by
 have hl:=h.1;refine ⟨by simp at hl ⊢;omega,fun i k' x' st' e he ha=>?_⟩;rcases yGa i es.length with hlt|hge
 ·rw [ypa hlt] at he;rw [Array.toList_push,ypa oA] at ha;exact h.2 i k' x' st' e he ha
 ·have:i=es.length:=by
   have:=(List.getElem?_eq_some_iff.1 he).1;simp at this;omega
  subst this;rw [yva (yia _)] at he;rw [Array.toList_push,yva oA] at ha;simp only [y8b,yab,yaa,yDa] at he;rw [show es.length - arr.toList.length=0 by omega] at ha;simp only [yab,yaa] at ha;obtain ⟨rfl,rfl,rfl⟩:=he;subst ha;exact ⟨rfl,rfl,hx⟩
theorem ents_set {es:List (Value × AVal × Nat)} {arr:Array MapEntry} (h:EntsRep K es arr.toList) {j:Nat} {k k0:Value} {x x0:AVal} {v:Value} {st:Nat} (hj:es[j]? = some (k0,x0,st)) (hx:Rep K x v) (e':MapEntry->MapEntry) (he':∀ e,(e' e).key=k∧(e' e).val=v∧(e' e).born=e.born) :
  EntsRep K (es.set j (k,x,st)) (arr.modify j e').toList:=by
 have hl:=h.1;refine ⟨by simp at hl ⊢;omega,fun i k' x' st' e he ha=>?_⟩;have hget:(arr.modify j e').toList[i]? = if j=i then (arr.toList[i]?).map e' else arr.toList[i]?:=by
  rw [Array.toList_modify,List.getElem?_modify];split
  ·rfl
  ·cases arr.toList[i]? <;> rfl
 rw [hget] at ha
 by_cases hij:j=i
 ·subst hij;rw [if_pos rfl] at ha;rw [List.getElem?_set_self (List.getElem?_eq_some_iff.1 hj).1] at he;simp only [yaa,yDa] at he;obtain ⟨rfl,rfl,rfl⟩:=he;cases ha0:arr.toList[j]? with
  | none=>rw [ha0] at ha;cases ha
  | some e0 =>
   rw [ha0] at ha;simp only [yBa,yaa] at ha;subst ha;obtain ⟨q1,q2,q3⟩:=he' e0;exact ⟨q1,q3.trans (h.2 j _ _ _ e0 hj ha0).2.1,by rw [q2];exact hx⟩
 ·rw [if_neg hij] at ha;rw [yYb hij] at he;exact h.2 i k' x' st' e he ha
theorem EntsRep.sat {es:List (Value × AVal × Nat)} {arr:Array MapEntry} (h:EntsRep K es arr.toList) (clock:Nat):OtherSat K (.map arr clock) (.map es clock) :=
 ⟨arr,rfl,by simpa using h.1,fun i k x st e he ha=>h.2 i k x st e he (by simpa using ha)⟩
theorem mapBlock (hm:MemSat K objs w) {ob:Nat} {es:List (Value × AVal × Nat)} {clock:Nat} (hmo:Qoa objs ob=some (es,clock)):∃ arr:Array MapEntry,w.heap[K.ρ ob 0]? = some (.map arr clock)∧EntsRep K es arr.toList:=by
 obtain ⟨_,b,hb,arr,rfl,hsz,hent⟩:=hm.obj ob _ (QJa hmo);exact ⟨arr,hb,by simpa using hsz,fun i k x st e he ha=>hent i k x st e he (by simpa using ha)⟩
theorem kd_some {kt:TypeId} {kv:Value} (h:keyOK (P.underlying kt) kv=true):∃ d,P.underlying kt=some d:=by
 cases hkd:P.underlying kt with
 | none=>rw [hkd] at h;cases kv <;> simp [keyOK] at h
 | some d=>exact ⟨d,rfl⟩
theorem QYd (p:Nat->Bool):∀ {es:List (Value × AVal × Nat)} {arr:List MapEntry},EntsRep K es arr->EntsRep K (es.filter fun e=>p e.2.2) (arr.filter fun e=>p e.born)
 | [],arr,h=>by
  have:arr=[]:=by cases arr with|nil=>rfl|cons _ _=>exact absurd h.1 (by simp)
  subst this;exact h
 | (k,x,st) :: es,[],h=>absurd h.1 (by simp)
 | (k,x,st) :: es,e :: arr,h=>by
  obtain ⟨h1,h2,h3⟩:=h.2 0 k x st e rfl rfl;have ih:=QYd p h.tail;rw [yEb,yEb];simp only [h2];cases hp:p st with
  | false=>simpa using ih
  | true =>
   simp only [if_true];refine ⟨by simp [ih.1],fun i k' x' st' e' he ha=>?_⟩;cases i with
   | zero =>
    simp only [yab,yaa,yDa] at he ha;obtain ⟨rfl,rfl,rfl⟩:=he;subst ha;exact ⟨h1,h2,h3⟩
   | succ i=>exact ih.2 i k' x' st' e' (by simpa using he) (by simpa using ha)
theorem EntsRep.all {es:List (Value × AVal × Nat)} {arr:List MapEntry} (h:EntsRep K es arr) (p:Nat->Bool):arr.all (fun e=>p e.born)=es.all fun e=>p e.2.2:=by
 induction es generalizing arr with
 | nil =>
  have:arr=[]:=by cases arr with|nil=>rfl|cons _ _=>exact absurd h.1 (by simp)
  subst this
  rfl
 | cons q es ih =>
  obtain ⟨k,x,st⟩:=q;cases arr with
  | nil=>exact absurd h.1 (by simp)
  | cons e arr =>
   obtain ⟨h1,h2,h3⟩:=h.2 0 k x st e rfl rfl;simp only [List.all_cons,h2,ih h.tail]
theorem run_pick {n:Nat} (hn:0<n):∃ i d,i<n∧(choose (.mapNext n)).run P w = .ok i { w with drawn:=d }:=by
 rw [run_choose];cases hf:(Question.mapNext n).forced with
 | true=>exact ⟨0,w.drawn,hn,rfl⟩
 | false=>exact ⟨_,w.drawn+1,yTb _ hn,rfl⟩
theorem next_map (hm:MemSat K objs w) {i ob since last:Nat} {seen:Array Nat} {es:List (Value × AVal × Nat)} {clock:Nat} (hob:objs[i]? = some (0,.other (.mapIter ob since seen last))) (hmo:Qoa objs ob=some (es,clock))
  (hok:(es.all (fun e=>decide (e.2.2<since))&&(seen.isEmpty||es.isEmpty || !(es.all fun e=>decide (e.2.2 >= last))))=true) (ty:TypeId) :
  (∃ k x st v w',(k,x,st) ∈ es.filter (fun e=>!seen.contains e.2.2)∧(Instr.next (.pointer (some ⟨K.ρ i 0,0,none⟩)) false ty).run P w = .ok (.tuple #[.bool true,k,v]) w'∧Rep K x v∧MemSat K (objs.set i (0,.other (.mapIter ob since (seen.push st) clock))) w') ∨
  (es.filter (fun e=>!seen.contains e.2.2)=[] ∧ ∃ w',(Instr.next (.pointer (some ⟨K.ρ i 0,0,none⟩)) false ty).run P w = .ok (.tuple #[.bool false]) w'∧MemSat K objs w'):=by
 obtain ⟨_,b,hb,hobn,rfl⟩:=hm.obj i _ hob;obtain ⟨arr,hbm,hER⟩:=mapBlock hm hmo;simp only [yha] at hok;have hold:arr.toList.all (fun e=>decide (e.born<since))=true:=by rw [hER.all fun b=>decide (b<since)];exact hok.1
 have hflag:(!seen.isEmpty && !arr.isEmpty&&arr.all fun e=>decide (e.born >= last))=false:=by
  have h1:arr.isEmpty=es.isEmpty:=by
   have:=hER.1;cases es with
   | nil=>simp at this ⊢;exact this
   | cons q es=>simp at this ⊢;intro h;rw [h] at this;simp at this
  have h2:(arr.all fun e=>decide (e.born >= last))=es.all fun e=>decide (e.2.2 >= last):=by
   rw [← Array.all_toList];exact hER.all fun b=>decide (b >= last)
  rw [h1,h2];have:=hok.2;revert this;cases seen.isEmpty <;> cases es.isEmpty <;> cases es.all (fun e=>decide (e.2.2 >= last)) <;> simp
 have hleft:=QYd (K:=K) (fun b=>!seen.contains b) hER;have hsub:∀ e ∈ (arr.filter fun e=>!seen.contains e.born).toList,decide (e.born<since)=true:=fun e he=>by
  rw [y3b] at he;exact List.all_eq_true.1 hold e (List.mem_filter.1 he).1
 have hold2:((arr.filter fun e=>!seen.contains e.born).filter fun e=>decide (e.born<since))=arr.filter fun e=>!seen.contains e.born:=by
  apply Array.ext';rw [y3b];exact List.filter_eq_self.2 hsub
 have hnew2:((arr.filter fun e=>!seen.contains e.born).filter fun e=>decide (e.born >= since)) = #[]:=by
  apply Array.ext';rw [y3b];refine List.filter_eq_nil_iff.2 fun e he=>?_
  have:=hsub e he;simp at this ⊢;omega
 have hb':w.heap[K.ρ i 0]? = some (Obj.mapIter (some (K.ρ ob 0)) since seen last):=hb;generalize hL:(arr.filter fun e=>!seen.contains e.born)=L at *;have hLl:L.toList=arr.toList.filter fun e=>!seen.contains e.born:=by rw [← hL,y3b]
 rw [← hLl] at hleft;rcases ySa L.size with h0|hpos
 ·right;have hLe:L = #[]:=yRb h0;have hnil:es.filter (fun e=>!seen.contains e.2.2)=[]:=by
   have:=hleft.1;rw [hLe] at this;simpa using this.symm
  refine ⟨hnil,?_⟩;obtain ⟨i',d,hi',hrun⟩:=run_pick (P:=P) (w:=w) (n:=1) oA;refine ⟨{ w with drawn:=d },?_,hm.drawn d⟩;have hi0:i'=0:=by omega
  subst hi0;simp only [Instr.next,yqa,Qa3 hb' rfl,Qa3 hbm rfl,yga,hflag,y1a,if_false,hL,hold2,hnew2,hLe];simp [hrun]
 ·left;obtain ⟨i',d,hi',hrun⟩:=run_pick (P:=P) (w:=w) (n:=L.size) hpos;have hne:L.isEmpty=false:=by cases h:L.isEmpty with|false=>rfl|true=>rw [Array.isEmpty_iff] at h;rw [h] at hpos;simp at hpos
  obtain ⟨q,hq⟩:∃ q,(es.filter fun e=>!seen.contains e.2.2)[i']? = some q:=⟨_,yba (by rw [← hleft.1];simpa using hi')⟩;obtain ⟨k,x,st⟩:=q;have he:L.toList[i']? = some L[i']:=by simp [hi']
  obtain ⟨q1,q2,q3⟩:=hleft.2 i' k x st L[i'] hq he;have hb'':({ w with drawn:=d }:World).heap[K.ρ i 0]? = some (Obj.mapIter (some (K.ρ ob 0)) since seen last):=hb';refine ⟨k,x,st,L[i'].val,setB { w with drawn:=d } (K.ρ i 0) (.mapIter (some (K.ρ ob 0)) since (seen.push st) clock),yza hq,?_,q3,(hm.drawn d).setOther (x':=.mapIter ob since (seen.push st) clock) hob _ ⟨hobn,rfl⟩⟩;simp only [Instr.next,yqa,Qa3 hb' rfl,Qa3 hbm rfl,yga,hflag,y1a,if_false,hL,hold2,hnew2,hne];simp [hrun,hi',q1,q2,Q9a _ hb'' rfl]
theorem findB_ok {st:Nat} {k:Value} {x:AVal}:∀ {es:List (Value × AVal × Nat)} {arr:List MapEntry},EntsRep K es arr->findB st es=some (k,x) -> ∃ e,arr.find? (fun e=>e.born==st)=some e∧e.key=k∧Rep K x e.val
 | [],_,_,h=>by simp [findB] at h
 | (k',x',b) :: es,[],hE,_=>by have:=hE.1;simp at this
 | (k',x',b) :: es,e :: arr,hE,h=>by
  obtain ⟨q1,q2,q3⟩:=hE.2 0 k' x' b e rfl rfl;unfold findB at h;split at h
  ·rename_i hb;simp only [yaa,yDa] at h;obtain ⟨rfl,rfl⟩:=h;have hb:=yla hb;exact ⟨e,by simp [List.find?_cons,q2,hb],q1,q3⟩
  ·rename_i hb;obtain ⟨e',h1,h2,h3⟩:=findB_ok hE.tail h;have hb:=Nat.ne_of_beq_eq_false hb;refine ⟨e',?_,h2,h3⟩;rw [List.find?_cons];have:(e.born==st)=false:=by rw [q2];simpa using hb
   rw [this];exact h1
theorem entryA_sound (hm:MemSat K objs w) {x r:AVal} {v:Value} (hx:Rep K x v) (h:entryA x objs=some r):∃ u,(Instr.entry v).run P w = .ok u w∧Rep K r u:=by
 unfold entryA at h;split at h
 ·rename_i i;obtain ⟨ep,hi,_⟩:=Qh5 hx;simp only [yWb,yhb] at ep;subst ep;split at h
  ·rename_i ob since seen last hob;split at h
   ·rename_i es clock st hmo hst;split at h
    ·rename_i k x hcl hf;simp only [yaa] at h;subst h;obtain ⟨_,b,hb,hobn,rfl⟩:=hm.obj i _ hob;obtain ⟨arr,hbm,hER⟩:=mapBlock hm hmo;obtain ⟨e,h1,h2,h3⟩:=findB_ok hER hf;have hcl:=yla hcl;subst hcl;have hb':w.heap[K.ρ i 0]? = some (Obj.mapIter (some (K.ρ ob 0)) since seen clock):=hb;have h1':arr.find? (fun e=>e.born==st)=some e:=by rw [← Array.find?_toList];exact h1
     refine ⟨.tuple #[e.key,e.val],?_,.tup _ [_,_] rfl (Reps.cons (by rw [h2];exact .lit _) (Reps.cons h3 (Reps.nil K))).2⟩;simp only [Instr.entry,yqa,Qa3 hb' rfl,yga,hst,Qa3 hbm rfl];simp [h1']
    ·cases h
   ·cases h
  ·cases h
 ·cases h
theorem row_ints {k:IntKind} {ns:List Int} {us:List Value} (h:Row K 1 (ns.map fun n=>[AVal.lit (.int k n)]) us):us=ns.map (Value.int k):=by
 have hl:=h.len;simp only [yxa,Nat.mul_one] at hl;apply yAb;intro i;rcases yGa i ns.length with hi|hi
 ·obtain ⟨u,hu,hr⟩:=h.rep i 0 [AVal.lit (.int k ns[i])] (AVal.lit (.int k ns[i])) (by simp [yba hi]) rfl;rw [Nat.mul_one,yhb] at hu;rw [hu,QZ0 hr];simp [yba hi]
 ·rw [yYa oA,yYa (by simpa using hi)]
theorem Qh9 (hm:MemSat K objs w) {x:AVal} {v:Value} {k:IntKind} {ns:List Int} (hx:Rep K x v) (hn:newsA 1 x objs=some (ns.map fun n=>[AVal.lit (.int k n)])) :
  (ns=[] ∧ ∃ A c,v = .slice A 0 c) ∨ ∃ a c,v = .slice (some a) ns.length c∧(loadCells a ns.length).run P w = .ok (ns.map (Value.int k)).toArray w:=by
 obtain ⟨A,c,us,rfl,hrow,hcell⟩:=Qte hm hx hn;have hus:=row_ints hrow;subst hus;simp only [yxa] at *;rcases ySa ns.length with h0|h0
 ·left;exact ⟨yCa h0,A,c,by rw [h0]⟩
 ·right;obtain ⟨ad,rfl,hc⟩:=hcell oA;refine ⟨ad,c,rfl,?_⟩;have:=run_loadCells_list (P:=P) w ad (ns.map (Value.int k)) hc;simpa using this
theorem QCa (hm:MemSat K objs w) {look:Operand->AVal} {ρ:Operand->Value} (hl:∀ x,Rep K (look x) (ρ x)) {o:Oper} {Kp:AVal->Objs->Prop} (h:evalX P look objs o Kp) :
  ∃ r objs',Does P (execOp ρ o) w K objs' r∧Kp r objs':=by
 obtain ⟨dst,op,type,pos,after,guard⟩:=o;unfold evalX at h;simp only at h;split at h
 ·
  rename_i src dst' x;split at h
  ·rename_i e hs hd;split at h
   ·rename_i t he hx;have ex:ρ x = .string t:=by have:=hl x;rw [hx] at this;exact QZ0 this
    obtain ⟨u,w',K',hrun,hle,hm',hr⟩:=strBytes_sound hm P e t;refine ⟨_,_,⟨u,w',K',.inl ?_,hle,hm',hr⟩,h⟩;simp only [execOp,convert,ex,yqa,run_underlying hs,run_underlying hd,run_underlying he,yga,hrun,yta]
   ·exact h.elim
  ·rename_i e hs hd;split at h
   ·rename_i he;obtain ⟨ns,hn,hk⟩:=h;refine ⟨_,_,Does.same hm (u:=.string (ns.foldl (fun r n=>r.push (UInt8.ofNat n.toNat)) ByteArray.empty)) ?_ (.lit _),hk⟩;rcases Qh9 (P:=P) hm (hl x) hn with ⟨rfl,A,c,hv⟩|⟨a,c,hv,hload⟩
    ·cases A with
     | none=>simp [execOp,convert,hv,run_underlying hs,run_underlying hd,run_underlying he,Conv.bytesToString]
     | some a =>
      have:=run_bytesToString (P:=P) w a 0 c [] (by simp [loadCells,loadCellsFrom]);simp only [execOp,hv,yqa,run_convert_bytes_string w src dst' e _ _ _ hs he hd,this,yga,yta]
    ·have:=run_bytesToString (P:=P) w a ns.length c ns hload;simp only [execOp,hv,yqa,run_convert_bytes_string w src dst' e _ _ _ hs he hd,this,yga,yta]
   ·rename_i he;obtain ⟨ns,hn,hk⟩:=h;refine ⟨_,_,Does.same hm (u:=.string (runesBytes ns)) ?_ (.lit _),hk⟩;have hconv:∀ a l c,(convert src dst' (.slice a l c)).run P w=(Conv.runesToString (.slice a l c)).run P w:=by
     intro a l c;simp [convert,run_underlying hs,run_underlying hd,run_underlying he]
    rcases Qh9 (P:=P) hm (hl x) hn with ⟨rfl,A,c,hv⟩|⟨a,c,hv,hload⟩
    ·cases A with
     | none=>simp [execOp,hv,hconv,Conv.runesToString,runesBytes]
     | some a =>
      have:=run_runesToString (P:=P) w a 0 c [] (by simp [loadCells,loadCellsFrom]);simp only [execOp,hv,yqa,hconv,this,yga,yta]
    ·have:=run_runesToString (P:=P) w a ns.length c ns hload;simp only [execOp,hv,yqa,hconv,this,yga,yta]
   ·exact h.elim
  ·exact h.elim
 ·
  rename_i t;refine ⟨_,_,⟨.map (some w.heap.size),w.alloc (.map #[] 0),K.newObj w.heap.size 1,.inl rfl,Q92 K _ _,hm.addOther (.map [] 0) (.map #[] 0) ⟨#[],rfl,rfl,fun i k x st e he=>by simp at he⟩,?_⟩,h⟩;have:=Rep.map (K:=K.newObj w.heap.size 1) objs.length (by simp [Ctx.newObj,hm.len]);rw [show (K.newObj w.heap.size 1).ρ objs.length 0=w.heap.size by simp [Ctx.newObj,hm.len]] at this;exact this
 ·
  rename_i t m k x;split at h
  ·rename_i kt et ob kv hu hmv hkv;split at h
   ·rename_i es clock hmo;obtain ⟨arr,hb,hER⟩:=mapBlock hm hmo;obtain ⟨es',c',hok,hput,hgo⟩:=h;simp only [QHc,yha,y7a] at hok;have em:ρ m = .map (some (K.ρ ob 0)):=by have:=hl m;rw [hmv] at this;exact (Qpc this).1
    have ek:ρ k=kv:=by have:=hl k;rw [hkv] at this;exact QZ0 this
    obtain ⟨d,hkd⟩:=kd_some hok.1;rw [hkd] at hok;obtain ⟨f1,f2⟩:=Q3c (K:=K) hok.1 0 hER hok.2;have hkey:=Qle hok.1;cases hf:findM kv es 0 with
    | none =>
     simp only [putM,hf,yDa] at hput;obtain ⟨rfl,rfl⟩:=hput;refine ⟨_,_,⟨undef,setB w (K.ρ ob 0) (.map (arr.push ⟨kv,ρ x,clock⟩) (clock+1)),K,.inr ⟨?_,rfl⟩,.refl K,hm.setOther (QJa hmo) _ ((ents_push hER (hl x)).sat _),.lit _⟩,hgo⟩;simp only [execOp,Instr.mapUpdate,em,ek,yqa,run_underlying hu,yga,Qa3 hb rfl,run_checkKey hkd hkey,run_findKey hkd (f1 hf),Q9a _ hb rfl,yta]
    | some q =>
     obtain ⟨i,y,st⟩:=q;simp only [putM,hf,yDa] at hput;obtain ⟨rfl,rfl⟩:=hput;obtain ⟨e,he,hnow⟩:=f2 i y st hf;obtain ⟨_,k',hes,hsame⟩:=Q9b hf;simp only [yGb] at he hes;have hek:e.key=kv:=by
      rw [(hER.2 i k' y st e hes he).1];exact (sameK_eq hok.1 (hok.2 _ (yza hes)) hsame).symm
     have hold:((arr[i]?).map (·.key)).getD kv=kv:=by
      rw [show arr[i]? = some e by simpa using he];simpa using hek
     refine ⟨_,_,⟨undef,setB w (K.ρ ob 0) (.map (arr.modify i fun e=>{ e with key:=kv,val:=ρ x }) clock),K,.inr ⟨?_,rfl⟩,.refl K,hm.setOther (QJa hmo) _ ((ents_set (k:=kv) (v:=ρ x) hER hes (hl x) (fun e=>{ e with key:=kv,val:=ρ x }) (fun e=>⟨rfl,rfl,rfl⟩)).sat _),.lit _⟩,hgo⟩;simp only [execOp,Instr.mapUpdate,em,ek,yqa,run_underlying hu,yga,Qa3 hb rfl,run_checkKey hkd hkey,run_findKey hkd hnow,hold,run_keyThatStays hkey,Q9a _ hb rfl,yta]
   ·exact h.elim
  ·exact h.elim
 ·
  rename_i t m k ok;split at h
  ·rename_i kt et ob kv hu hmv hkv;split at h
   ·rename_i es clock z hmo hz;obtain ⟨arr,hb,hER⟩:=mapBlock hm hmo;obtain ⟨v0,b0,hok,hlook,hgo⟩:=h;simp only [QHc,yha,y7a] at hok;have em:ρ m = .map (some (K.ρ ob 0)):=by have:=hl m;rw [hmv] at this;exact (Qpc this).1
    have ek:ρ k=kv:=by have:=hl k;rw [hkv] at this;exact QZ0 this
    obtain ⟨d,hkd⟩:=kd_some hok.1;rw [hkd] at hok;obtain ⟨f1,f2⟩:=Q3c (K:=K) hok.1 0 hER hok.2;have hkey:=Qle hok.1;have tup2:∀ {y:AVal} {v:Value} {b:Bool},Rep K y v->Rep K (bif ok then .tup [y,Bov b] else y) (if ok=true then .tuple #[v,.bool b] else v):=by
     intro y v b hy;cases ok with
     | true=>exact .tup [y,Bov b] [v,.bool b] rfl (Reps.cons hy (Reps.cons (.lit _) (Reps.nil K))).2
     | false=>exact hy
    cases hf:findM kv es 0 with
    | none =>
     obtain ⟨zv,hzr,hzrep⟩:=zeroVal_sound (P:=P) (K:=K) (w:=w) hz;simp only [LookP,hf] at hlook;obtain ⟨hlook,rfl⟩:=hlook;refine ⟨_,_,⟨_,w,K,.inl ?_,.refl K,hm,tup2 (b:=false) (hlook K _ hzrep)⟩,hgo⟩;simp only [execOp,Instr.lookup,em,ek,yqa,run_underlying hu,yga,Qa3 hb rfl,run_checkKey hkd hkey,run_findKey hkd (f1 hf),hzr,yta]
    | some q =>
     obtain ⟨i,y,st⟩:=q;obtain ⟨e,he,hnow⟩:=f2 i y st hf;obtain ⟨_,k',hes,hsame⟩:=Q9b hf;simp only [yGb] at he hes;simp only [LookP,hf] at hlook;obtain ⟨hlook,rfl⟩:=hlook;refine ⟨_,_,⟨_,w,K,.inl ?_,.refl K,hm,tup2 (b:=true) (hlook K _ (hER.2 i k' y st e hes he).2.2)⟩,hgo⟩;simp only [execOp,Instr.lookup,em,ek,yqa,run_underlying hu,yga,Qa3 hb rfl,run_checkKey hkd hkey,run_findKey hkd hnow,yta]
   ·exact h.elim
  ·exact h.elim
 ·
  rename_i t x;have ptr:Rep (K.newObj w.heap.size 1) (.ptr objs.length 0 1 0 0) (.pointer (some ⟨w.heap.size,0,none⟩)):=by
   have:=Rep.ptr (K:=K.newObj w.heap.size 1) objs.length 0 1 0 0 (by simp [Ctx.newObj,hm.len]) (yna _);rw [show (K.newObj w.heap.size 1).ρ objs.length 0=w.heap.size by simp [Ctx.newObj,hm.len]] at this;exact this
  split at h
  ·rename_i s hu hx;have ex:ρ x = .string s:=by have:=hl x;rw [hx] at this;exact QZ0 this
   refine ⟨_,_,⟨_,w.alloc (.stringIter s 0),K.newObj w.heap.size 1,.inl ?_,Q92 K _ _,hm.addOther (.strIter s 0) (.stringIter s 0) rfl,ptr⟩,h⟩;simp only [execOp,Instr.range,ex,yqa,run_underlying hu,yga,yta]
   rfl
  ·rename_i kt et ob hu hx;split at h
   ·rename_i es clock hmo;obtain ⟨arr,hb,hER⟩:=mapBlock hm hmo;have hx':=hl x;rw [hx] at hx';obtain ⟨ex,hob⟩:=Qpc hx';refine ⟨_,_,⟨_,w.alloc (.mapIter (some (K.ρ ob 0)) clock #[] clock),K.newObj w.heap.size 1,.inl ?_,Q92 K _ _,hm.addOther (.mapIter ob clock #[] clock) _ ⟨hob,rfl⟩,ptr⟩,h⟩;simp only [execOp,Instr.range,ex,yqa,run_underlying hu,yga,Qa3 hb rfl,yta]
    rfl
   ·exact h.elim
  ·exact h.elim
 ·
  rename_i it isString;split at h
  ·rename_i i hit;have hp:=hl it;rw [hit] at hp;obtain ⟨ep,hi,_⟩:=Qh5 hp;simp only [yWb,yhb] at ep;split at h
   ·rename_i s pos hob;obtain ⟨_,b,hb,rfl⟩:=hm.obj i _ hob;cases hd:decide (pos<s.size) with
    | true =>
     have hlt:=yca hd;refine ⟨_,_,⟨.tuple #[.bool true,.int .i64 pos,.int .i32 (Utf8.decode s pos).1],setB w (K.ρ i 0) (.stringIter s (pos+(Utf8.decode s pos).2)),K,.inl ?_,.refl K,hm.setOther (x':=.strIter s (pos+(Utf8.decode s pos).2)) hob _ rfl,.tup _ [_,_,_] rfl (Reps.cons (.lit _) (Reps.cons (.lit _) (Reps.cons (.lit _) (Reps.nil K)))).2⟩,h.1 hd⟩;simp only [execOp,Instr.next,ep,yqa,Qa3 hb rfl,yga,if_pos hlt,Q9a _ hb rfl,yta]
     rfl
    | false =>
     have hlt:=yja hd;refine ⟨_,_,⟨.tuple #[.bool false],w,K,.inl ?_,.refl K,hm,.tup _ [_] rfl (Reps.cons (.lit _) (Reps.nil K)).2⟩,h.2 hd⟩;simp only [execOp,Instr.next,ep,yqa,Qa3 hb rfl,yga,if_neg hlt,yta]
   ·rename_i ob since seen last hob;split at h
    ·rename_i es clock hmo;obtain ⟨hok,hsome,hnone⟩:=h;rcases next_map (P:=P) hm hob hmo hok type with ⟨k,x,st,v,w',hin,hrun,hr,hm'⟩|⟨hnil,w',hrun,hm'⟩
     ·refine ⟨_,_,⟨.tuple #[.bool true,k,v],w',K,.inl ?_,.refl K,hm',.tup _ [_,_,_] rfl (Reps.cons (.lit _) (Reps.cons (.lit _) (Reps.cons hr (Reps.nil K)))).2⟩,hsome k x st hin⟩;simp only [execOp,ep,yqa,hrun,yga,yta]
     ·refine ⟨_,_,⟨.tuple #[.bool false],w',K,.inl ?_,.refl K,hm',.tup _ [_] rfl (Reps.cons (.lit _) (Reps.nil K)).2⟩,hnone hnil⟩;simp only [execOp,ep,yqa,hrun,yga,yta]
    ·exact h.elim
   ·exact h.elim
  ·exact h.elim
 ·
  rename_i it;obtain ⟨v,hv,h⟩:=h;obtain ⟨u,hrun,hr⟩:=entryA_sound (P:=P) hm (hl it) hv;refine ⟨_,_,⟨u,w,K,.inl ?_,.refl K,hm,hr⟩,h⟩;simp only [execOp,yqa,hrun,yga,yta]
 ·
  rename_i op t x y yt;split at h
  ·rename_i n r hn;unfold nilCmp at hn;split at hn
   ·rename_i k m tt f hx hy;have hrx:=hl x;rw [hx] at hrx;have hry:=hl y;rw [hy] at hry;have ey:=QZ0 hry;obtain ⟨A,c,ex,hc,_,hA,_⟩:=QB7 hrx;have key:∀ e,P.underlying t=some (.slice e)->(op = .eql∨op = .neq) -> ∃ b:Bool,(m ≠ 0->b=decide (op = .neq))∧Sem.run P (execOp ρ ⟨dst,.binOp op t x y yt,type,pos,after,guard⟩) w = .ok (.value (.bool b)) w:=by
     intro e hu hop;cases A with
     | none =>
      rcases hop with rfl|rfl
      ·exact ⟨true,fun hne=>absurd (hA rfl).1 hne,by simp [execOp,ex,ey,eqGuard,binOp,run_equal_slice_nil _ t e none m c hu]⟩
      ·exact ⟨false,fun hne=>absurd (hA rfl).1 hne,by simp [execOp,ex,ey,eqGuard,binOp,run_equal_slice_nil _ t e none m c hu]⟩
     | some a =>
      rcases hop with rfl|rfl
      ·exact ⟨false,fun _=>rfl,by simp [execOp,ex,ey,eqGuard,binOp,run_equal_slice_nil _ t e (some a) m c hu]⟩
      ·exact ⟨true,fun _=>rfl,by simp [execOp,ex,ey,eqGuard,binOp,run_equal_slice_nil _ t e (some a) m c hu]⟩
    split at hn
    ·rename_i e hu;simp only [yaa,yDa] at hn;obtain ⟨rfl,rfl⟩:=hn;obtain ⟨b,hb,hrun⟩:=key e hu (.inl rfl);exact ⟨_,_,Does.same hm hrun (.lit _),h b hb⟩
    ·rename_i e hu;simp only [yaa,yDa] at hn;obtain ⟨rfl,rfl⟩:=hn;obtain ⟨b,hb,hrun⟩:=key e hu (.inr rfl);exact ⟨_,_,Does.same hm hrun (.lit _),h b hb⟩
    ·cases hn
   ·cases hn
  ·exact h.elim
 ·
  rename_i c;obtain ⟨callee,args,argTypes⟩:=c;split at h
  ·rename_i x t hc ha ht;simp only at hc ha ht;have ea:args = #[x]:=by rw [← yJa (xs:=args),ha]
   have et:argTypes = #[t]:=by rw [← yJa (xs:=argTypes),ht]
   subst ea et hc;split at h
   ·rename_i e ob ver k off len hu hx;split at h
    ·rename_i te es z hro hz;obtain ⟨⟨h1,h2⟩,h3⟩:=h;have hrx:=hl x;rw [hx] at hrx;obtain ⟨w',hrun,hm'⟩:=clear_sound (P:=P) hm hu hrx hro hz h1 h2 type;exact ⟨_,_,⟨.tuple #[],w',K,.inl (by simp [execOp,resolve,invoke,builtin,hrun]),.refl K,hm',.tup _ [] rfl (Reps.nil K).2⟩,h3⟩
    ·exact h.elim
   ·exact h.elim
  ·
   rename_i x y t u hc ha ht;simp only at hc ha ht;have ea:args = #[x,y]:=by rw [← yJa (xs:=args),ha]
   have et:argTypes = #[t,u]:=by rw [← yJa (xs:=argTypes),ht]
   subst ea et hc;split at h
   ·rename_i e ob ver k off len s he hu hx hy;split at h
    ·rename_i te es z hro hz;obtain ⟨⟨rfl,hlen,rfl,rfl,hz1,hby,hsm⟩,h3⟩:=h;have hrx:=hl x;rw [hx] at hrx;have hry:=hl y;rw [hy] at hry;have ey:=QZ0 hry;obtain ⟨i,zv,hi,hz0,hzc,hzo,hzs⟩:=Qz4 hz;have hs1:i.size=1:=by rw [← hzs];rw [hzc] at hz1;simpa using hz1
     have hb1:i.bytes=1:=by rw [← hby];simp [Qg9,hi]
     have hn:(s.data.toList.map fun b=>([.lit (.int .u8 b.toNat)]:List AVal)).length=s.size:=by simp
     have key:=append_own (P:=P) (w:=w) (K:=K) (objs:=objs) (t:=t) (ut:=u) (ty:=type) (xv:=.string s) hm hzo hzs (by rw [hs1];exact row_str K s) (by rw [hn];exact appRuns_str (Qp8 he) hu hi hz0 hs1 s) (by rw [hs1];exact Ql7 hro) (by rw [hs1];exact hrx) hlen (by rw [hn,hb1];omega) (by rw [hn];exact hsm);rw [hs1,hn] at key;obtain ⟨v,w',K',hrun,hle,hm',hr'⟩:=key;exact ⟨_,_,⟨v,w',K',.inl (by simp [execOp,resolve,invoke,builtin,ey,hrun]),hle,hm',hr'⟩,h3⟩
    ·exact h.elim
   ·exact h.elim
  ·exact h.elim
 ·exact h.elim
end
end Go.Fw
namespace Go.Fw
set_option linter.unusedSimpArgs false
set_option linter.unusedVariables false
open Go.RowKit
def ACalls (P:Program) (f:FuncId) (args:List AVal) (objs:Objs) (R:AVal->Objs->Prop):Prop :=
 ∀ (K:Ctx) (w:World) (vs:List Value),MemSat K objs w->Reps K args vs ->
  Calls P f vs.toArray w fun e w'=>∃ (v:Value) (r:AVal) (objs':Objs) (K':Ctx),e = .returned v∧K.le K'∧MemSat K' objs' w'∧Rep K' r v∧R r objs'
theorem ACalls.mono {P:Program} {f:FuncId} {args:List AVal} {objs:Objs} {R R':AVal->Objs->Prop} (h:ACalls P f args objs R) (hr:∀ r o,R r o->R' r o):ACalls P f args objs R' :=
 fun K w vs hm ha=>(h K w vs hm ha).mono fun _ _ ⟨v,r,o,K',he,hle,hm',hrep,hR⟩=>⟨v,r,o,K',he,hle,hm',hrep,hr r o hR⟩
def AGives (P:Program) (f:FuncId) (args:List AVal) (objs:Objs) (r:AVal):Prop:=ACalls P f args objs fun r' o=>r'=r∧o=objs
structure RSt where
 loc:List (Nat × Option Tag × AVal)
 G:List (Tag × Bool)
 objs:Objs
def findL:List (Nat × Option Tag × AVal)->Nat->Option (Option Tag × AVal)
 | [],_=>none
 | (i,g,v) :: r,t=>bif Nat.beq i t then some (g,v) else findL r t
def tagEq (a b:Tag):Bool:=Nat.beq a.1 b.1&&(a.2==b.2)
def findG:List (Tag × Bool)->Tag->Option Bool
 | [],_=>none
 | (h,b) :: r,g=>bif tagEq h g then some b else findG r g
def Qe5 (ops:Array Oper):Nat->Option Tag->Tag->Bool
 | 0,_,_=>false
 | _,none,_=>false
 | n+1,some c,g=>tagEq c g||Qe5 ops n (match ops[c.1]? with|some o=>o.guard|none=>none) g
def lookR (ops:Array Oper) (slots:List (Nat × AVal)) (loc:List (Nat × Option Tag × AVal)) (cur:Option Tag):Operand->AVal
 | .tmp t=>match findL loc t with
  | some (none,v)=>v
  | some (some g,v)=>bif Qe5 ops 16 cur g then v else .any
  | none=>Q71 slots t
 | .const v=>.lit v
 | .func f=>.fn (.func f) [] []
 | .global _=>.any
def gOf (ops:Array Oper) (rs:RSt) (g:Tag):Option (Bool × RSt) :=
 match findG rs.G g with
 | some b=>some (b,rs)
 | none =>
  match ops[g.1]? with
  | some o =>
   (match o.dst with
    | some d =>
     (match findL rs.loc d with
     | some (none,.lit (.bool b)) =>
      bif o.guard.isNone then (let gb:=bif g.2 then b else !b;some (gb,{ rs with G:=(g,gb) :: rs.G })) else none
     | some (some h,.lit (.bool b)) =>
      (match o.guard,findG rs.G h with
       | some h',some hb=>bif tagEq h' h then (let gb:=hb&&(bif g.2 then b else !b);some (gb,{ rs with G:=(g,gb) :: rs.G })) else none
       | _,_=>none)
     | _=>none)
    | none=>none)
  | none=>none
def putR (nt:Nat) (rs:RSt) (cur:Option Tag) (dst:Option Tmp) (v:AVal):Option RSt :=
 match dst with
 | none=>some rs
 | some d=>bif Nat.blt d nt&&(findL rs.loc d).isNone then some { rs with loc:=(d,cur,v) :: rs.loc } else none
def PutK (nt:Nat) (rs:RSt) (cur:Option Tag) (dst:Option Tmp) (v:AVal) (K:RSt->Prop):Prop :=
 match putR nt rs cur dst v with
 | some rs'=>K rs'
 | none=>False
def defOf (ops:Array Oper) (t:Tmp):Option Nat:=ops.toList.findIdx? fun o=>match o.dst with|some d=>Nat.beq d t|none=>false
def armA (ops:Array Oper) (slots:List (Nat × AVal)) (loc:List (Nat × Option Tag × AVal)) (cur:Option Tag) (jc:Option Nat) (want:Bool):Operand->AVal
 | .tmp t=>match findL loc t,jc with
  | some (some g,v),some j=>bif tagEq g (j,want) then v else lookR ops slots loc cur (.tmp t)
  | _,_=>lookR ops slots loc cur (.tmp t)
 | x=>lookR ops slots loc cur x
def pickA (ops:Array Oper) (slots:List (Nat × AVal)) (rs:RSt) (cur:Option Tag) (c x y:Operand):Option AVal :=
 match c with
 | .tmp tc =>
  (match lookR ops slots rs.loc cur (.tmp tc),findL rs.loc tc with
   | .lit (.bool b),some _ =>
    (match x,y with
    | .const (.bool true),y=>(match armA ops slots rs.loc cur (defOf ops tc) false y with | .lit (.bool v)=>some (.lit (.bool (b||v)))|_=>none)
    | x,.const (.bool false)=>(match armA ops slots rs.loc cur (defOf ops tc) true x with | .lit (.bool u)=>some (.lit (.bool (b&&u)))|_=>none)
    | _,_=>none)
   | _,_=>none)
 | _=>none
def Qva (P:Program) (nt:Nat) (ops:Array Oper) (slots:List (Nat × AVal)) (draw:Bool) (o:Oper) (cur:Option Tag) (gb:Bool) (rs:RSt) (K:RSt->Prop):Prop :=
 match o.op with
 | .pick c x y=>(match pickA ops slots rs cur c x y with|some v=>PutK nt rs cur o.dst v K|none=>False)
 | _ =>
  match Qf2 P (lookR ops slots rs.loc cur) rs.objs o with
  | .bad=>(match cur,draw with|none,false=>evalX P (lookR ops slots rs.loc none) rs.objs o fun r objs'=>PutK nt { rs with objs:=objs' } none o.dst r K|some c,false=>∃ v,(gb=true->evalX P (lookR ops slots rs.loc (some c)) rs.objs o fun u o2=>u=v∧o2=rs.objs)∧PutK nt rs (some c) o.dst v K|_,_=>False)
  | .val v=>PutK nt rs cur o.dst v K∨(match cur,draw with|none,false=>ownSl P (lookR ops slots rs.loc none) rs.objs o fun r objs'=>PutK nt { rs with objs:=objs' } none o.dst r K|_,_=>False)
  | .ifb b v=>(gb=true->b=true)∧PutK nt rs cur o.dst v K
  | .eff b v objs'=>(match cur with|none=>b=true∧PutK nt { rs with objs:=objs' } cur o.dst v K|some _=>False)
  | .upd v objs'=>(match cur with|none=>PutK nt { rs with objs:=objs' } cur o.dst v K|some _=>False)
  | .call f args =>
   (match cur,draw with
    | none,false=>ACalls P f args rs.objs fun r objs'=>PutK nt { rs with objs:=objs' } none o.dst r K
    | _,_=>∃ r objs',(gb=true->ACalls P f args rs.objs fun r' o'=>r'=r∧o'=objs')∧(gb=false->objs'=rs.objs)∧PutK nt { rs with objs:=objs' } cur o.dst r K)
def QC6 (P:Program) (nt:Nat) (ops:Array Oper) (slots:List (Nat × AVal)) (draw:Bool):List Oper->RSt->(RSt->Prop)->Prop
 | [],rs,K=>K rs
 | o :: rest,rs,K =>
  match o.guard with
  | none=>Qva P nt ops slots draw o none true rs fun rs'=>QC6 P nt ops slots draw rest rs' K
  | some g =>
   (match gOf ops rs g with
    | some (gb,rs1)=>(gb=false ∧ ∃ v,PutK nt rs1 (some g) o.dst v fun rs'=>QC6 P nt ops slots draw rest rs' K)∨Qva P nt ops slots draw o (some g) gb rs1 fun rs'=>QC6 P nt ops slots draw rest rs' K
    | none=>False)
def keepL (keep:Nat->Bool):List (Nat × Option Tag × AVal)->List (Nat × AVal)->List (Nat × AVal)
 | [],s=>s
 | (t,g,v) :: r,s=>bif g.isNone&&keep t then (t,v) :: keepL keep r s else keepL keep r s
def filtL (loc:List (Nat × Option Tag × AVal)):List (Nat × AVal)->List (Nat × AVal)
 | []=>[]
 | (t,v) :: r=>match findL loc t with|some _=>filtL loc r|none=>(t,v) :: filtL loc r
def QH9 (keep:Nat->Bool) (slots:List (Nat × AVal)) (loc:List (Nat × Option Tag × AVal)):List (Nat × AVal):=keepL keep loc (filtL loc slots)
def UniqL:List (Nat × Option Tag × AVal)->Prop
 | []=>True
 | (t,_,_) :: r=>findL r t=none∧UniqL r
section
variable {P:Program}
def Marks (K:Ctx) (ds:List Deferred):Prop:=ds.Nodup ∧ ∀ d ∈ ds,∃ D,d={ target:=.collected D,args:=#[] }∧K.B D=some (.deferred (some []))∧K.w0.heap.size<=D
theorem Marks.nil {K:Ctx}:Marks K []:=⟨List.nodup_nil,fun d h=>nomatch h⟩
theorem Marks.mono {K L:Ctx} {ds:List Deferred} (hKL:K.le L) (h:Marks K ds):Marks L ds:=⟨h.1,fun d hd=>by
 obtain ⟨D,h1,h2,h3⟩:=h.2 d hd
 exact ⟨D,h1,hKL.B D _ h2,by rw [hKL.w0];exact h3⟩⟩
structure Sat (nt:Nat) (K:Ctx) (s:St) (a:Act) (w:World):Prop where
 mem:MemSat K s.objs w
 slot:∀ t,Rep K (Q71 s.slots t) (a.tmps.getD t undef)
 size:a.tmps.size=nt
 defers:Marks K a.defers
structure RSat (nt:Nat) (ops:Array Oper) (slots:List (Nat × AVal)) (K:Ctx) (rs:RSt) (a:Act) (w:World):Prop where
 mem:MemSat K rs.objs w
 outer:∀ t,findL rs.loc t=none->Rep K (Q71 slots t) (a.tmps.getD t undef)
 plain:∀ t v,findL rs.loc t=some (none,v)->Rep K v (a.tmps.getD t undef)
 tagged:∀ t g v,findL rs.loc t=some (some g,v) -> ∃ b,findG rs.G g=some b∧(b=true->Rep K v (a.tmps.getD t undef))∧(b=false->a.tmps.getD t undef=undef)
 guards:∀ g b,findG rs.G g=some b->(yielded ops a.tmps g.1==some g.2)=b∧(∃ o d,ops[g.1]? = some o∧o.dst=some d∧(findL rs.loc d).isSome=true) ∧
  ∀ o h,ops[g.1]? = some o->o.guard=some h->b=true->findG rs.G h=some true
 size:a.tmps.size=nt
 defers:Marks K a.defers
 uniq:UniqL rs.loc
theorem tagEq_iff {a b:Tag}:tagEq a b=true ↔ a=b:=by
 obtain ⟨i,x⟩:=a;obtain ⟨j,y⟩:=b;simp only [tagEq,yha,beq_iff_eq,yDa];constructor
 ·rintro ⟨h1,h2⟩;exact ⟨yla h1,h2⟩
 ·rintro ⟨h1,h2⟩;subst h1 h2;exact ⟨Nat.beq_refl i,rfl⟩
theorem Qfb {nt:Nat} {ops:Array Oper} {slots:List (Nat × AVal)} {K:Ctx} {rs:RSt} {a:Act} {w:World} (h:RSat nt ops slots K rs a w) :
  ∀ (n:Nat) (c g:Tag),Qe5 ops n (some c) g=true->findG rs.G c=some true->findG rs.G g=some true
 | 0,c,g,hi,_=>by simp [Qe5] at hi
 | n+1,c,g,hi,hc=>by
  simp only [Qe5,yQa] at hi;rcases hi with hi|hi
  ·rw [tagEq_iff] at hi;subst hi;exact hc
  ·obtain ⟨_,⟨o,d,ho,hd,_⟩,hg⟩:=h.guards c true hc;simp only [ho] at hi;cases hog:o.guard with
   | none=>rw [hog] at hi;cases n <;> simp [Qe5] at hi
   | some c' =>
    rw [hog] at hi;exact Qfb h n c' g hi (hg o c' ho hog rfl)
theorem QT2 {nt:Nat} {ops:Array Oper} {slots:List (Nat × AVal)} {K:Ctx} {rs:RSt} {a:Act} {w:World} (h:RSat nt ops slots K rs a w) (cur:Option Tag) (hc:∀ c,cur=some c->findG rs.G c=some true) (x:Operand) :
  Rep K (lookR ops slots rs.loc cur x) (a.eval x):=by
 cases x with
 | const v=>exact .lit v
 | global g=>exact .any _
 | func f=>exact .fn (.func f) [] [] [] [] rfl rfl (fun i x v h=>by simp at h) (fun i x v h=>by simp at h)
 | tmp t =>
  simp only [lookR,Act.eval];split
  ·rename_i v hf;exact h.plain t v hf
  ·rename_i g v hf;cases hi:Qe5 ops 16 cur g with
   | false=>exact .any _
   | true =>
    simp only [cond_true];cases cur with
    | none=>simp [Qe5] at hi
    | some c =>
     have:=Qfb h 16 c g hi (hc c rfl);obtain ⟨b,hb,h1,_⟩:=h.tagged t g v hf;rw [this] at hb;simp only [yaa] at hb;exact h1 hb.symm
  ·rename_i hf;exact h.outer t hf
theorem RSat.mono {nt:Nat} {ops:Array Oper} {slots:List (Nat × AVal)} {K L:Ctx} {rs:RSt} {a:Act} {w w':World} {objs':Objs} (hKL:K.le L) (hm:MemSat L objs' w') (h:RSat nt ops slots K rs a w):RSat nt ops slots L { rs with objs:=objs' } a w' :=
 ⟨hm,fun t ht=>(h.outer t ht).mono hKL,fun t v hv=>(h.plain t v hv).mono hKL,fun t g v hv=>by obtain ⟨b,h1,h2,h3⟩:=h.tagged t g v hv;exact ⟨b,h1,fun hb=>(h2 hb).mono hKL,h3⟩,h.guards,h.size,h.defers.mono hKL,h.uniq⟩
theorem QK2 {i t:Nat} {g:Option Tag} {v:AVal} {r:List (Nat × Option Tag × AVal)}:findL ((i,g,v) :: r) t=if i=t then some (g,v) else findL r t:=by
 simp only [findL]
 by_cases h:i=t
 ·subst h;simp
 ·have:Nat.beq i t=false:=by
   cases hb:Nat.beq i t with
   | false=>rfl
   | true=>exact absurd (yla hb) h
  rw [this,if_neg h];rfl
theorem RSat.put {nt:Nat} {ops:Array Oper} {slots:List (Nat × AVal)} {K:Ctx} {rs rs':RSt} {a:Act} {w:World} {cur:Option Tag} {dst:Option Tmp} {v:AVal} {u:Value} (h:RSat nt ops slots K rs a w)
  (hp:putR nt rs cur dst v=some rs') (hu:match cur with|none=>Rep K v u|some c=>∃ b,findG rs.G c=some b∧(b=true->Rep K v u)∧(b=false->u=undef)) :
  RSat nt ops slots K rs' (a.put dst u) w:=by
 unfold putR at hp;cases dst with
 | none=>simp only [yaa] at hp;subst hp;exact h
 | some d =>
  simp only at hp;cases hb:Nat.blt d nt&&(findL rs.loc d).isNone with
  | false=>rw [hb] at hp;cases hp
  | true =>
   rw [hb] at hp;simp only [cond_true,yaa] at hp;subst hp;simp only [yha,y0b] at hb;obtain ⟨hlt,hnone⟩:=hb;have hlt:d<a.tmps.size:=by rw [h.size];simpa using hlt
   have same:(a.put (some d) u).tmps.getD d undef=u:=by simp [Act.put,hlt]
   have other:∀ t,d ≠ t->(a.put (some d) u).tmps.getD t undef=a.tmps.getD t undef:=fun t ht=>by simp [Act.put,yPa ht]
   have yield:∀ (g:Tag) (o:Oper) (d':Tmp),ops[g.1]? = some o->o.dst=some d'->(findL rs.loc d').isSome=true->yielded ops (a.put (some d) u).tmps g.1=yielded ops a.tmps g.1:=by
    intro g o d' ho hd' hs;have hne:d ≠ d':=by rintro rfl;rw [hnone] at hs;cases hs
    simp [yielded,ho,hd',Act.put,yPa hne]
   refine ⟨h.mem,fun t ht=>?_,fun t x hx=>?_,fun t g x hx=>?_,fun g b hg=>?_,by simpa [Act.put] using h.size,h.defers,hnone,h.uniq⟩
   ·rw [QK2] at ht;split at ht
    ·cases ht
    ·rename_i hne;rw [other t hne];exact h.outer t ht
   ·rw [QK2] at hx;split at hx
    ·rename_i he;subst he;simp only [yaa,yDa] at hx;obtain ⟨rfl,rfl⟩:=hx;rw [same];exact hu
    ·rename_i hne;rw [other t hne];exact h.plain t x hx
   ·rw [QK2] at hx;split at hx
    ·rename_i he;subst he;simp only [yaa,yDa] at hx;obtain ⟨rfl,rfl⟩:=hx;rw [same];exact hu
    ·rename_i hne;rw [other t hne];exact h.tagged t g x hx
   ·obtain ⟨h1,⟨o,d',ho,hd',hs⟩,h3⟩:=h.guards g b hg;refine ⟨by rw [yield g o d' ho hd' hs];exact h1,⟨o,d',ho,hd',?_⟩,h3⟩;rw [QK2];split
    ·rfl
    ·exact hs
theorem Qz5 {h g:Tag} {b:Bool} {r:List (Tag × Bool)}:findG ((h,b) :: r) g=if h=g then some b else findG r g:=by
 simp only [findG]
 by_cases e:h=g
 ·subst e;rw [tagEq_iff.2 rfl,if_pos rfl];rfl
 ·have:tagEq h g=false:=by
   cases ht:tagEq h g with
   | false=>rfl
   | true=>exact absurd (tagEq_iff.1 ht) e
  rw [this,if_neg e];rfl
theorem Q3e {nt:Nat} {ops:Array Oper} {slots:List (Nat × AVal)} {K:Ctx} {rs rs1:RSt} {a:Act} {w:World} {g:Tag} {gb:Bool} (h:RSat nt ops slots K rs a w) (hg:gOf ops rs g=some (gb,rs1)) :
  RSat nt ops slots K rs1 a w∧findG rs1.G g=some gb∧rs1.loc=rs.loc∧rs1.objs=rs.objs∧(yielded ops a.tmps g.1==some g.2)=gb:=by
 unfold gOf at hg;split at hg
 ·rename_i b hb;simp only [yaa,yDa] at hg;obtain ⟨rfl,rfl⟩:=hg;exact ⟨h,hb,rfl,rfl,(h.guards g b hb).1⟩
 ·rename_i hnone
  have add:∀ (o:Oper) (d:Tmp) (gb:Bool),ops[g.1]? = some o->o.dst=some d->(findL rs.loc d).isSome=true->(yielded ops a.tmps g.1==some g.2)=gb->(∀ h',o.guard=some h'->gb=true->findG rs.G h'=some true) ->
    RSat nt ops slots K { rs with G:=(g,gb) :: rs.G } a w:=by
   intro o d gb ho hd hs hy hgu;have keep:∀ c b,findG rs.G c=some b->findG ((g,gb) :: rs.G) c=some b:=by
    intro c b hc;rw [Qz5];split
    ·rename_i e;subst e;rw [hnone] at hc;cases hc
    ·exact hc
   refine ⟨h.mem,h.outer,h.plain,fun t c v hv=>?_,fun c b hc=>?_,h.size,h.defers,h.uniq⟩
   ·obtain ⟨b,h1,h2,h3⟩:=h.tagged t c v hv;exact ⟨b,keep c b h1,h2,h3⟩
   ·rw [Qz5] at hc;split at hc
    ·rename_i e;subst e;simp only [yaa] at hc;subst hc;refine ⟨hy,⟨o,d,ho,hd,hs⟩,fun o' h' ho' hgo hb=>?_⟩;rw [ho] at ho';simp only [yaa] at ho';subst ho';exact keep _ _ (hgu h' hgo hb)
    ·obtain ⟨h1,h2,h3⟩:=h.guards c b hc;exact ⟨h1,h2,fun o' h' ho' hgo hb=>keep _ _ (h3 o' h' ho' hgo hb)⟩
  split at hg
  ·rename_i o ho;split at hg
   ·rename_i d hd;split at hg
    ·rename_i b hf;cases hgn:o.guard.isNone with
     | false=>rw [hgn] at hg;cases hg
     | true =>
      rw [hgn] at hg;simp only [cond_true,yaa,yDa] at hg;obtain ⟨rfl,rfl⟩:=hg;have hv:=QZ0 (h.plain d _ hf);have hlt:d<a.tmps.size:=by
       rcases yGa d a.tmps.size with h'|h'
       ·exact h'
       ·simp [yZa h',undef] at hv
      have hy:(yielded ops a.tmps g.1==some g.2)=(bif g.2 then b else !b):=by
       have hd':a.tmps[d]? = some (.bool b):=by
        rw [ysa hlt];simpa [hlt] using hv
       simp only [yielded,ho,hd,ylb,hd'];cases g.2 <;> cases b <;> rfl
      exact ⟨add o d _ ho hd (by rw [hf];rfl) hy (fun h' hh _=>by rw [hh] at hgn;cases hgn),by rw [Qz5,if_pos rfl],rfl,rfl,hy⟩
    ·rename_i c b hf;split at hg
     ·rename_i c' hb hoc hfc;cases ht:tagEq c' c with
      | false=>rw [ht] at hg;cases hg
      | true =>
       rw [ht] at hg;simp only [cond_true,yaa,yDa] at hg;obtain ⟨rfl,rfl⟩:=hg;have hcc:=tagEq_iff.1 ht;subst hcc;obtain ⟨b',hb',h1,h2⟩:=h.tagged d c' _ hf;rw [hfc] at hb';simp only [yaa] at hb';subst hb';have hy:(yielded ops a.tmps g.1==some g.2)=(hb&&(bif g.2 then b else !b)):=by
        cases hb with
        | true =>
         have hv:=QZ0 (h1 rfl);have hlt:d<a.tmps.size:=by
          rcases yGa d a.tmps.size with h'|h'
          ·exact h'
          ·simp [yZa h',undef] at hv
         have hd':a.tmps[d]? = some (.bool b):=by
          rw [ysa hlt];simpa [hlt] using hv
         simp only [yielded,ho,hd,ylb,hd'];cases g.2 <;> cases b <;> rfl
        | false =>
         have hv:=h2 rfl;simp only [yielded,ho,hd,ylb,y1b];cases hd':a.tmps[d]? with
         | none=>rfl
         | some x =>
          simp only [yya,hd',yFa] at hv;subst hv
          rfl
       exact ⟨add o d _ ho hd (by rw [hf];rfl) hy (fun h' hh hb'=>by
        rw [hoc] at hh;simp only [yaa] at hh;subst hh;simp only [yha] at hb'
        rw [hfc,hb'.1]),by rw [Qz5,if_pos rfl],rfl,rfl,hy⟩
     ·cases hg
    ·cases hg
   ·cases hg
  ·cases hg
end
section
variable {P:Program} {nt:Nat} {ops:Array Oper} {slots:List (Nat × AVal)}
theorem QK4 {rs:RSt} {cur:Option Tag} {dst:Option Tmp} {v:AVal} {Kt:RSt->Prop} (h:PutK nt rs cur dst v Kt):∃ rs',putR nt rs cur dst v=some rs'∧Kt rs':=by
 unfold PutK at h;split at h
 ·rename_i rs' hr;exact ⟨rs',hr,h⟩
 ·exact h.elim
theorem armA_sound {K:Ctx} {rs:RSt} {a:Act} {w:World} (h:RSat nt ops slots K rs a w) (cur:Option Tag) (hc:∀ c,cur=some c->findG rs.G c=some true) (jc:Option Nat) (want:Bool)
  (hj:∀ j b,jc=some j->findG rs.G (j,want)=some b->b=true) (x:Operand):Rep K (armA ops slots rs.loc cur jc want x) (a.eval x):=by
 cases x with
 | tmp t =>
  simp only [armA];split
  ·rename_i g v j hf;cases ht:tagEq g (j,want) with
   | false=>exact QT2 h cur hc (.tmp t)
   | true =>
    have:=tagEq_iff.1 ht;subst this;obtain ⟨b,hb,h1,_⟩:=h.tagged t _ v hf;exact h1 (hj j b rfl hb)
  ·exact QT2 h cur hc (.tmp t)
 | const v=>exact QT2 h cur hc (.const v)
 | global g=>exact QT2 h cur hc (.global g)
 | func f=>exact QT2 h cur hc (.func f)
theorem defOf_some {t:Tmp} {j:Nat} (h:defOf ops t=some j):∃ o,ops[j]? = some o∧o.dst=some t:=by
 unfold defOf at h;rw [List.findIdx?_eq_some_iff_getElem] at h;obtain ⟨hlt,hp,_⟩:=h;simp only [ybb] at hlt;refine ⟨ops[j],by simp [hlt],?_⟩;simp only [Array.getElem_toList] at hp;split at hp
 ·rename_i d hd;rw [hd,yla hp]
 ·cases hp
theorem pickA_sound {K:Ctx} {rs:RSt} {a:Act} {w:World} (h:RSat nt ops slots K rs a w) (cur:Option Tag) (hc:∀ c,cur=some c->findG rs.G c=some true) {c x y:Operand} {v:AVal}
  (hp:pickA ops slots rs cur c x y=some v) {o:Oper} (ho:o.op = .pick c x y):∃ u,(execOp a.eval o).run P w = .ok (.value u) w∧Rep K v u:=by
 unfold pickA at hp;split at hp
 ·rename_i tc;split at hp
  ·rename_i b q hb hq;have hcb:=QZ0 (hb ▸ QT2 h cur hc (.tmp tc));have guard:∀ (want:Bool),b=want -> ∀ j b',defOf ops tc=some j->findG rs.G (j,want)=some b'->b'=true:=by
    intro want hw j b' hj hG;obtain ⟨o',ho',hd'⟩:=defOf_some hj;have:=(h.guards _ _ hG).1;rw [← this];have hv:a.tmps[tc]? = some (.bool b):=by
     simp only [Act.eval] at hcb;rcases yGa tc a.tmps.size with h'|h'
     ·rw [ysa h'];simpa [h'] using hcb
     ·simp [yZa h',undef] at hcb
    simp only [yielded,ho',hd',ylb,hv,hw];cases want <;> rfl
   have run:∀ u,(if b=true then a.eval x else a.eval y)=u->(execOp a.eval o).run P w = .ok (.value u) w:=by
    intro u hu;subst hu;simp only [execOp,ho,hcb,asBool,yqa,yta,yga]
   split at hp
   ·split at hp
    ·rename_i v' hv';simp only [yaa] at hp;subst hp;refine ⟨_,run _ rfl,?_⟩;cases b with
     | true=>simp only [if_true,Bool.true_or];exact .lit _
     | false =>
      simp only [y1a,if_false,Bool.false_or];rw [← hv'];exact armA_sound h cur hc _ false (guard false rfl) _
    ·cases hp
   ·split at hp
    ·rename_i u' hu';simp only [yaa] at hp;subst hp;refine ⟨_,run _ rfl,?_⟩;cases b with
     | true =>
      simp only [if_true,y5b];rw [← hu'];exact armA_sound h cur hc _ true (guard true rfl) _
     | false=>simp only [y1a,if_false,y1b];exact .lit _
    ·cases hp
   ·cases hp
  ·cases hp
 ·cases hp
def Next' (nt:Nat) (ops:Array Oper) (slots:List (Nat × AVal)) (K:Ctx) (Kt:RSt->Prop) (a:Act) (w:World):Prop:=∃ K' rs',Ctx.le K K'∧RSat nt ops slots K' rs' a w∧Kt rs'
theorem Q48 {K:Ctx} {rs:RSt} {a:Act} {w:World} {o:Oper} {cur:Option Tag} {gb draw:Bool} {Kt:RSt->Prop} {Q:Exit->Act->World->Prop} (h:RSat nt ops slots K rs a w)
  (hcur:match cur with|none=>gb=true|some c=>findG rs.G c=some gb) (hw:Region.wanted o (yielded ops a.tmps)=gb) (hs:Qva P nt ops slots draw o cur gb rs Kt) :
  if Region.wanted o (yielded ops a.tmps) then o.wp P a w (Next' nt ops slots K Kt) Q∨(o.asks P a w∧LetsOut Q) else Next' nt ops slots K Kt (a.put o.dst undef) w:=by
 rw [hw];cases gb with
 | false =>
  simp only [y1a,if_false];obtain ⟨c,rfl⟩:∃ c,cur=some c:=by cases cur with|none=>cases hcur|some c=>exact ⟨c,rfl⟩
  simp only at hcur;have fin:∀ v,PutK nt rs (some c) o.dst v Kt->Next' nt ops slots K Kt (a.put o.dst undef) w:=by
   intro v hp;obtain ⟨rs',hr,hk⟩:=QK4 hp;exact ⟨K,rs',.refl K,h.put hr ⟨false,hcur,(fun h=>by cases h),fun _=>rfl⟩,hk⟩
  unfold Qva at hs;split at hs
  ·split at hs
   ·exact fin _ hs
   ·exact hs.elim
  ·split at hs
   ·split at hs
    ·rename_i heq;cases heq
    ·rename_i c' heq;cases heq;exact fin _ hs.choose_spec.2
    ·exact hs.elim
   ·rcases hs with hs|hs
    ·exact fin _ hs
    ·exact hs.elim
   ·exact fin _ hs.2
   ·exact hs.elim
   ·exact hs.elim
   ·split at hs
    ·rename_i heq;cases heq
    ·obtain ⟨r,objs',_,ho,hp⟩:=hs;rw [ho rfl] at hp;exact fin _ hp
 | true =>
  simp only [if_true];left;have hc:∀ c,cur=some c->findG rs.G c=some true:=by rintro c rfl;exact hcur
  have put:∀ {L:Ctx} {w':World} {objs':Objs} {v:AVal} {u:Value},K.le L->MemSat L objs' w'->Rep L v u->PutK nt { rs with objs:=objs' } cur o.dst v Kt->Next' nt ops slots K Kt (a.put o.dst u) w':=by
   intro L w' objs' v u hKL hm hr hp;obtain ⟨rs',hpr,hk⟩:=QK4 hp;refine ⟨L,rs',hKL,(h.mono hKL hm).put hpr ?_,hk⟩;cases cur with
   | none=>exact hr
   | some c=>exact ⟨true,hc c rfl,fun _=>hr,fun h=>by cases h⟩
  have does:∀ {v:AVal} {objs':Objs},Does P (execOp a.eval o) w K objs' v->PutK nt { rs with objs:=objs' } cur o.dst v Kt->o.wp P a w (Next' nt ops slots K Kt) Q:=by
   rintro v objs' ⟨u,w',K',hrun,hle,hm,hr⟩ hp;unfold Oper.wp;rcases hrun with hrun|⟨hrun,rfl⟩
   ·rw [hrun];exact put hle hm hr hp
   ·rw [hrun];exact put hle hm hr hp
  have same:rs={ rs with objs:=rs.objs }:=rfl;unfold Qva at hs;split at hs
  ·rename_i c x y hop;split at hs
   ·rename_i v hv;obtain ⟨u,hu,hr⟩:=pickA_sound (P:=P) h cur hc hv hop;exact does ⟨u,w,K,.inl hu,.refl K,h.mem,hr⟩ hs
   ·exact hs.elim
  ·have hsound:=QCc (P:=P) h.mem (QT2 h cur hc) o;split at hs
   ·split at hs
    ·obtain ⟨r,objs',hd,hp⟩:=QCa (P:=P) h.mem (QT2 h none (fun c hc=>by cases hc)) hs;exact does hd hp
    ·rename_i c' he;obtain ⟨v,hx,hp⟩:=hs;obtain ⟨r,objs',hd,rfl,rfl⟩:=QCa (P:=P) h.mem (QT2 h (some c') hc) (hx rfl);exact does hd hp
    ·exact hs.elim
   ·rename_i v he;rw [he] at hsound;rcases hs with hs|hs
    ·exact does hsound hs
    ·split at hs
     ·obtain ⟨r,objs',hd,hp⟩:=ownSl_sound (P:=P) h.mem (QT2 h none (fun c hc=>by cases hc)) hs;exact does hd hp
     ·exact hs.elim
   ·rename_i b v he;rw [he] at hsound;exact does (hsound (hs.1 rfl)) hs.2
   ·rename_i b v objs' he;rw [he] at hsound;split at hs
    ·exact does (hsound hs.1) hs.2
    ·exact hs.elim
   ·rename_i v objs' he;rw [he] at hsound;split at hs
    ·exact does hsound hs
    ·exact hs.elim
   ·rename_i f args he;rw [he] at hsound;obtain ⟨vs,hrun,hreps⟩:=hsound;have callOf:∀ {R:AVal->Objs->Prop},ACalls P f args rs.objs R->(∀ r objs',R r objs'->PutK nt { rs with objs:=objs' } cur o.dst r Kt)->o.wp P a w (Next' nt ops slots K Kt) Q:=by
     intro R hcall hR;unfold Oper.wp;rw [hrun];refine (hcall K w vs h.mem hreps).mono ?_;rintro e w' ⟨v,r,objs',K',rfl,hle,hm,hr,hRr⟩;exact put hle hm hr (hR r objs' hRr)
    split at hs
    ·exact callOf hs fun r objs' hr=>hr
    ·obtain ⟨r,objs1,hg,_,hp⟩:=hs;exact callOf (hg rfl) fun r' objs' ⟨e1,e2⟩=>by subst e1 e2;exact hp
theorem Qd9 {rs:RSt} {o:Oper} {cur:Option Tag} {gb draw:Bool} {Kt Kt':RSt->Prop} (hk:∀ r,Kt r->Kt' r) (hs:Qva P nt ops slots draw o cur gb rs Kt):Qva P nt ops slots draw o cur gb rs Kt':=by
 have put:∀ {rs:RSt} {c:Option Tag} {v:AVal},PutK nt rs c o.dst v Kt->PutK nt rs c o.dst v Kt':=by
  intro rs c v hp;obtain ⟨rs',hr,h⟩:=QK4 hp;unfold PutK;rw [hr];exact hk _ h
 unfold Qva at *;split
 ·rename_i c x y hop;simp only [hop] at hs;split
  ·rename_i v hv;simp only [hv] at hs;exact put hs
  ·rename_i hv;simp only [hv] at hs
 ·rename_i hne;split at hs
  ·rename_i c x y hop;exact absurd hop (hne c x y)
  ·split
   ·rename_i he;simp only [he] at hs;cases cur with
    | none=>cases draw with|false=>exact evalX_mono (fun r o' hr=>put hr) hs|true=>exact hs
    | some c=>cases draw with|false=>exact ⟨hs.choose,hs.choose_spec.1,put hs.choose_spec.2⟩|true=>exact hs
   ·rename_i v he;simp only [he] at hs;rcases hs with hs|hs
    ·exact .inl (put hs)
    ·right;cases cur with
     | none=>cases draw with|false=>exact ownSl_mono (fun r o' hr=>put hr) hs|true=>exact hs
     | some c=>cases draw with|false=>exact hs|true=>exact hs
   ·rename_i b v he;simp only [he] at hs;exact ⟨hs.1,put hs.2⟩
   ·rename_i b v o' he;simp only [he] at hs;split
    ·exact ⟨hs.1,put hs.2⟩
    ·exact hs
   ·rename_i v o' he;simp only [he] at hs;split
    ·exact put hs
    ·exact hs
   ·rename_i f args he;simp only [he] at hs;split
    ·exact hs.mono fun r o' hr=>put hr
    ·rename_i hne2;split at hs
     ·rename_i h1 h2;exact (hne2 rfl rfl).elim
     ·obtain ⟨r,objs',h1,h2,h3⟩:=hs;exact ⟨r,objs',h1,h2,put h3⟩
theorem QJ7 {Q:Exit->Act->World->Prop} {draw:Bool} {K0:Ctx} {Kt:RSt->Prop} (hQ:∀ K rs a w,K0.le K->RSat nt ops slots K rs a w->Kt rs->Q .normal a w) :
  ∀ (n i:Nat),i+n=ops.size -> ∀ (K:Ctx) (rs:RSt) (a:Act) (w:World),K0.le K->RSat nt ops slots K rs a w->QC6 P nt ops slots draw (ops.toList.drop i) rs Kt ->
   wpOps P ops Q (List.range' i n) a w
 | 0,i,hn,K,rs,a,w,hK,h,ha=>by
  have:ops.toList.drop i=[]:=ysb (by simp;omega);rw [this] at ha;exact hQ K rs a w hK h ha
 | n+1,i,hn,K,rs,a,w,hK,h,ha=>by
  have hlt:i<ops.toList.length:=by simp;omega
  rw [yMb hlt] at ha;have hi:ops[i]? = some (ops.toList[i]):=by simp
  generalize ops.toList[i]=o at ha hi;simp only [List.range'_succ];rw [wpOps_cons];unfold wpOp;simp only [hi];have ih:∀ a w,Next' nt ops slots K (fun rs'=>QC6 P nt ops slots draw (ops.toList.drop (i+1)) rs' Kt) a w->wpOps P ops Q (List.range' (i+1) n) a w:=by
   rintro a w ⟨K',rs',hle,hr,hk⟩;exact QJ7 hQ n (i+1) oA K' rs' a w (hK.trans hle) hr hk
  have fin:∀ {X:Prop} [Decidable X],(if X then o.wp P a w (Next' nt ops slots K (fun rs'=>QC6 P nt ops slots draw (ops.toList.drop (i+1)) rs' Kt)) Q∨(o.asks P a w∧LetsOut Q) else Next' nt ops slots K (fun rs'=>QC6 P nt ops slots draw (ops.toList.drop (i+1)) rs' Kt) (a.put o.dst undef) w) ->
    (if X then o.wp P a w (wpOps P ops Q (List.range' (i+1) n)) Q∨(o.asks P a w∧LetsOut Q) else wpOps P ops Q (List.range' (i+1) n) (a.put o.dst undef) w):=by
   intro X _ hX;split
   ·rename_i hx;rw [if_pos hx] at hX;exact hX.imp (Oper.wp_mono ih) id
   ·rename_i hx;rw [if_neg hx] at hX;exact ih _ _ hX
  apply fin;simp only [QC6] at ha;split at ha
  ·rename_i hg;exact Q48 h rfl (by simp [Region.wanted,hg]) ha
  ·rename_i g hg;split at ha
   ·rename_i gb rs1 hgo;obtain ⟨h1,h2,_,_,hy⟩:=Q3e h hgo;rcases ha with ⟨hgb,v,hp⟩|ha
    ·subst hgb;have hw:Region.wanted o (yielded ops a.tmps)=false:=by simp only [Region.wanted,hg];exact hy
     rw [hw];simp only [y1a,if_false];obtain ⟨rs',hr,hk⟩:=QK4 hp;exact ⟨K,rs',.refl K,h1.put hr ⟨false,h2,(fun h=>by cases h),fun _=>rfl⟩,hk⟩
    ·exact Q48 h1 h2 (by simp only [Region.wanted,hg];exact hy) ha
   ·exact ha.elim
theorem Qj2 {i t:Nat} {v:AVal} {r:List (Nat × AVal)}:Q71 ((i,v) :: r) t=if i=t then v else Q71 r t:=by
 simp only [Q71]
 by_cases h:i=t
 ·subst h;simp
 ·have:Nat.beq i t=false:=by
   cases hb:Nat.beq i t with
   | false=>rfl
   | true=>exact absurd (yla hb) h
  rw [this,if_neg h];rfl
theorem Qdb (loc:List (Nat × Option Tag × AVal)):∀ (l:List (Nat × AVal)) (t:Nat),Q71 (filtL loc l) t=(match findL loc t with|some _=>.any|none=>Q71 l t)
 | [],t=>by simp only [filtL,Q71];split <;> rfl
 | (i,v) :: r,t=>by
  have ih:=Qdb loc r t;simp only [filtL];split
  ·rename_i e he;rw [ih,Qj2]
   by_cases hit:i=t
   ·subst hit;simp [he]
   ·rw [if_neg hit]
  ·rename_i he;rw [Qj2,Qj2,ih]
   by_cases hit:i=t
   ·subst hit;simp [he]
   ·rw [if_neg hit,if_neg hit]
theorem Qeb (keep:Nat->Bool) (s:List (Nat × AVal)):∀ (loc:List (Nat × Option Tag × AVal)),UniqL loc -> ∀ t,Q71 (keepL keep loc s) t=(match findL loc t with|some (none,v)=>if keep t then v else Q71 s t|some (some _,_)=>Q71 s t|none=>Q71 s t)
 | [],_,t=>rfl
 | (i,g,v) :: r,hu,t=>by
  have ih:=Qeb keep s r hu.2 t;simp only [keepL,QK2];cases hgk:g.isNone&&keep i with
  | true =>
   simp only [yha,y0b] at hgk;obtain ⟨rfl,hk⟩:=hgk;simp only [cond_true,Qj2]
   by_cases hit:i=t
   ·subst hit;simp [hk]
   ·rw [if_neg hit,if_neg hit];exact ih
  | false =>
   simp only [cond_false]
   by_cases hit:i=t
   ·subst hit;rw [ih,hu.1];simp only [if_true];cases g with
    | some _=>rfl
    | none=>simp only [Option.isNone_none,y5b] at hgk;simp [hgk]
   ·rw [if_neg hit];exact ih
theorem QD5 {K:Ctx} {rs:RSt} {a:Act} {w:World} (keep:Nat->Bool) (h:RSat nt ops slots K rs a w) :
  Sat nt K { slots:=QH9 keep slots rs.loc,objs:=rs.objs } a w:=by
 refine ⟨h.mem,fun t=>?_,h.size,h.defers⟩;show Rep K (Q71 (QH9 keep slots rs.loc) t) _;unfold QH9;rw [Qeb keep _ rs.loc h.uniq t,Qdb];split
 ·rename_i v hf;simp only [hf];split
  ·exact h.plain t v hf
  ·exact .any _
 ·rename_i hf;simp only [hf];exact .any _
 ·rename_i hf;simp only [hf];exact h.outer t hf
end
abbrev Loc:=List (Nat × Option Tag × AVal)
abbrev Gs:=List (Tag × Bool)
def Sub (u v:AVal):Prop:=∀ (K:Ctx) (x:Value),Rep K u x->Rep K v x
theorem Sub.refl (u:AVal):Sub u u:=fun _ _ h=>h
theorem evalX_congr {P:Program} {look look':Operand->AVal} {objs:Objs} (o:Oper) (h:∀ x ∈ o.op.operands,look x=look' x) {Kp:AVal->Objs->Prop}:evalX P look objs o Kp=evalX P look' objs o Kp:=by
 obtain ⟨dst,op,type,pos,after,guard⟩:=o;cases op <;> simp only [Op.operands] at h
 case convert s d x=>unfold evalX;simp only [h x (by simp)]
 case mapUpdate t m k x=>unfold evalX;simp only [h m (by simp),h k (by simp),h x (by simp)]
 case lookup t m k ok=>unfold evalX;simp only [h m (by simp),h k (by simp)]
 case range t x=>unfold evalX;simp only [h x (by simp)]
 case next it s=>unfold evalX;simp only [h it (by simp)]
 case entry it=>unfold evalX;simp only [h it (by simp)]
 case binOp op t x y yt=>unfold evalX;simp only [h x (by simp),h y (by simp)]
 case makeMap t x=>cases x <;> rfl
 case call c =>
  obtain ⟨f,as,ts⟩:=c;have hl:∀ x,x ∈ as.toList->look x=look' x:=fun x hx=>h x (by cases f <;> simp [Call.operands,Array.mem_toList_iff.1 hx])
  unfold evalX;dsimp only;generalize hA:as.toList=A at hl;generalize ts.toList=T;rcases A with _|⟨x,_|⟨y,_|⟨z,r⟩⟩⟩
  ·cases f <;> (try rfl)
   rename_i b;cases b <;> rfl
  ·have e:=hl x (by simp);cases f <;> (try rfl)
   rename_i b;cases b <;> (try rfl) <;> rcases T with _|⟨t,_|⟨u,r⟩⟩ <;> first|rfl|(dsimp only;rw [e])
  ·have e:=hl x (by simp);have e':=hl y (by simp);cases f <;> (try rfl)
   rename_i b;cases b <;> (try rfl) <;> rcases T with _|⟨t,_|⟨u,_|⟨v,r⟩⟩⟩ <;> first|rfl|(dsimp only;rw [e,e'])
  ·cases f <;> (try rfl)
   rename_i b;cases b <;> rfl
 all_goals rfl
theorem evalOp_congr {P:Program} {look look':Operand->AVal} {objs:Objs} (o:Oper) (h:∀ x ∈ o.op.operands,look x=look' x):Qf2 P look objs o=Qf2 P look' objs o:=by
 obtain ⟨dst,op,type,pos,after,guard⟩:=o;have pairs:∀ ps:Array (Nat × Operand),(∀ x ∈ (ps.toList.map (·.2)).toArray,look x=look' x)->(ps.toList.map fun p=>(p.1,look p.2))=(ps.toList.map fun p=>(p.1,look' p.2)):=fun ps hp =>
  ySb fun p hm=>by rw [hp p.2 (by simpa using ⟨p.1,Array.mem_toList_iff.1 hm⟩)]
 have maps:∀ xs:Array Operand,(∀ x ∈ xs,look x=look' x)->xs.toList.map look=xs.toList.map look':=fun xs hx=>ySb fun x hm=>hx x (Array.mem_toList_iff.1 hm)
 cases op <;> simp only [Qf2] <;> simp only [Op.operands] at h <;> (try rfl)
 case move x=>rw [h x (by simp)]
 case assign x=>rw [h x (by simp)]
 case box t x=>rw [h x (by simp)]
 case build t ps=>rw [pairs ps h]
 case buildSlice t n ps=>rw [pairs ps h]
 case load t a=>rw [h a (by simp)]
 case store t a x=>rw [h a (by simp),h x (by simp)]
 case nilCheck x=>rw [h x (by simp)]
 case binOp op t x y yt=>rw [h x (by simp),h y (by simp)]
 case unOp op t x=>rw [h x (by simp)]
 case convert s d x=>rw [h x (by simp)]
 case makeFunc f a b=>rw [maps a (fun x hx=>h x (by simp [hx])),maps b (fun x hx=>h x (by simp [hx]))]
 case makeSlice t l c=>rw [h l (by simp),h c (by simp)]
 case slice t x lo hi mx =>
  have hx:=h x (by simp);have hlo:lo.map look=lo.map look':=by cases lo with|none=>rfl|some y=>simp only [yBa];rw [h y (by simp)]
  have hhi:hi.map look=hi.map look':=by cases hi with|none=>rfl|some y=>simp only [yBa];rw [h y (by simp)]
  have hmx:mx.map look=mx.map look':=by cases mx with|none=>rfl|some y=>simp only [yBa];rw [h y (by simp)]
  rw [hx,hlo,hhi,hmx]
 case fieldAddr t x f=>rw [h x (by simp)]
 case field t x f=>rw [h x (by simp)]
 case indexAddr t x i=>rw [h x (by simp),h i (by simp)]
 case index t x i=>rw [h x (by simp),h i (by simp)]
 case extract x i=>rw [h x (by simp)]
 case call c =>
  obtain ⟨callee,args,argTypes⟩:=c;have hargs:=maps args (fun x hx=>h x (by simp [Call.operands,hx]));have harg:∀ x,x ∈ args.toList->look x=look' x:=fun x hx=>h x (by simp [Call.operands,Array.mem_toList_iff.1 hx])
  simp only;split
  ·split
   ·rename_i x t ha ht;rw [harg x (by simp [ha])]
   ·rfl
  ·split
   ·rename_i x y t u ha ht;rw [harg x (by simp [ha]),harg y (by simp [ha])]
   ·rfl
  ·rw [hargs]
  ·rw [hargs]
  ·rename_i f;rw [hargs,h f (by simp [Call.operands])]
  ·rfl
def QP5:Op->Bool
 | .alloc _=>true
 | .box _ _=>true
 | .store ..=>true
 | .makeSlice ..=>true
 | .mapUpdate ..=>true
 | .call c=>match c.callee with | .builtin .append=>true|_=>false
 | _=>false
def QF8:Op->Bool
 | .call c=>match c.callee with | .builtin _=>false|_=>true
 | _=>false
def Qsb:Op->Bool
 | .load ..=>true
 | _=>false
theorem QBa {P:Program} {look:Operand->AVal} (o:Oper) (h1:QP5 o.op=false) (h2:Qsb o.op=false) (a b:Objs):Qf2 P look a o=Qf2 P look b o:=by
 obtain ⟨dst,op,type,pos,after,guard⟩:=o;cases op <;> simp only [Qf2] <;> (try (simp [QP5] at h1;done)) <;> (try (simp [Qsb] at h2;done))
 case call c =>
  obtain ⟨callee,args,argTypes⟩:=c;cases callee with
  | value f=>rfl
  | invoke r m=>rfl
  | builtin b=>cases b <;> first|rfl|(simp [QP5] at h1)
def maskOf (o:Oper) (acc:List Nat):Nat:=o.after.toList.foldl (fun s e=>bif Region.binds .any e then s ||| (1 <<< e.on) ||| acc.getD e.on 0 else s) 0
def masksGo:List Oper->List Nat->List Nat
 | [],acc=>acc
 | o :: r,acc=>masksGo r (acc++[maskOf o acc])
def masks (ops:Array Oper):List Nat:=masksGo ops.toList []
def bit (ms:List Nat) (i j:Nat):Bool:=(ms.getD i 0).testBit j
def Closed (ops:Array Oper) (S:Nat->Bool):Prop:=∀ (i:Nat) (o:Oper) (e:Edge),S i=true->ops[i]? = some o->e ∈ o.after->Region.binds .any e=true->S e.on=true
theorem foldl_bit {S:Nat->Bool} {acc:List Nat} (hacc:∀ i j,S i=true->(acc.getD i 0).testBit j=true->S j=true):∀ (l:List Edge) (s:Nat),(∀ e ∈ l,Region.binds .any e=true->S e.on=true)->(∀ j,s.testBit j=true->S j=true) ->
  ∀ j,(l.foldl (fun s e=>bif Region.binds .any e then s ||| (1 <<< e.on) ||| acc.getD e.on 0 else s) s).testBit j=true->S j=true
 | [],s,_,hs,j,h=>hs j h
 | e :: l,s,hl,hs,j,h=>by
  simp only [yBb] at h;refine foldl_bit hacc l _ (fun e' he'=>hl e' (by simp [he'])) ?_ j h;intro j hj;cases hb:Region.binds .any e with
  | false=>rw [hb] at hj;exact hs j hj
  | true =>
   rw [hb] at hj;simp only [cond_true,Nat.testBit_or,yQa,Nat.one_shiftLeft,Nat.testBit_two_pow] at hj;have hS:=hl e (by simp) hb;rcases hj with (hj|hj)|hj
   ·exact hs j hj
   ·simp only [yua] at hj;rw [← hj];exact hS
   ·exact hacc _ j hS hj
theorem QPc {ops:Array Oper} {S:Nat->Bool} (hS:Closed ops S):∀ (l:List Oper) (acc:List Nat),ops.toList=ops.toList.take acc.length++l->acc.length+l.length=ops.size ->
  (∀ i j,S i=true->(acc.getD i 0).testBit j=true->S j=true) -> ∀ i j,S i=true->((masksGo l acc).getD i 0).testBit j=true->S j=true
 | [],acc,_,_,hacc,i,j,hi,h=>hacc i j hi h
 | o :: r,acc,hl,hn,hacc,i,j,hi,h=>by
  simp only [masksGo] at h;have ho:ops[acc.length]? = some o:=by
   have hmin:min acc.length ops.size=acc.length:=by simp at hn;omega
   rw [← yVa,hl,yva (by simp [hmin])];simp [hmin]
  refine QPc hS r (acc++[maskOf o acc]) ?_ (by simp at hn ⊢;omega) ?_ i j hi h
  ·have e:ops.toList.take (acc.length+1)=ops.toList.take acc.length++[o]:=by
    rw [List.take_add_one];rw [yVa,ho]
    rfl
   rw [yma,ynb,e,ytb];simpa using hl
  ·intro i j hi hb;rcases yyb i acc.length with h'|h'|h'
   ·rw [yNa,ypa h',← yNa] at hb;exact hacc i j hi hb
   ·subst h';rw [yNa,yva (yia _)] at hb;simp only [y8b,yab,yFa] at hb;refine foldl_bit hacc o.after.toList 0 (fun e he hbd=>hS _ o e hi ho (Array.mem_toList_iff.1 he) hbd) (fun j hj=>by simp at hj) j hb
   ·rw [yNa,yYa (by simp;omega)] at hb;simp at hb
theorem bit_closed {ops:Array Oper} {S:Nat->Bool} (hS:Closed ops S) {i j:Nat} (hi:S i=true) (h:bit (masks ops) i j=true):S j=true :=
 QPc hS ops.toList [] (by simp) (by simp) (fun i j _ h=>by simp at h) i j hi h
theorem bit_ready {ops:Array Oper} {S:Nat->Bool} (hS:Closed ops S) {i j:Nat} {o:Oper} (ho:ops[i]? = some o) (hi:∀ e ∈ o.after,Region.binds .any e=true->S e.on=true) (hne:S i=false->True) (h:bit (masks ops) i j=true):S j=true∨j=i:=by
 have hS':Closed ops (fun k=>S k||Nat.beq k i):=by
  intro k o' e hk ho' he hb;simp only [yQa] at hk ⊢;rcases hk with hk|hk
  ·exact .inl (hS k o' e hk ho' he hb)
  ·have:=yla hk;subst this;rw [ho] at ho';simp only [yaa] at ho';subst ho';exact .inl (hi e he hb)
 have:=bit_closed hS' (i:=i) (j:=j) (by simp) h;simp only [yQa] at this;exact this.imp id yla
def ordered (ms:List Nat) (i j:Nat):Bool:=bit ms i j||bit ms j i
def effAt (ops:Array Oper) (ms:List Nat) (i:Nat):Bool :=
 match ops[i]? with
 | some o=>QP5 o.op||(QF8 o.op&&(List.range ops.size).all fun j=>Nat.beq j i||(match ops[j]? with|some o'=>!(QP5 o'.op||QF8 o'.op)||ordered ms i j|none=>true))
 | none=>false
def okPos (ops:Array Oper) (ms:List Nat) (i p:Nat):Bool :=
 (List.range ops.size).all fun j=>!effAt ops ms j||((!bit ms i j||Nat.blt j p)&&(!bit ms j i||Nat.ble p j))
def looks (ops:Array Oper) (o:Oper):List Tmp:=o.looksAt ops
def QU2 (ops:Array Oper) (ms:List Nat):Bool :=
 ((List.range ops.size).all fun i=>match ops[i]? with|some o=>o.after.toList.all fun e=>!Region.binds .any e||Nat.blt e.on i|none=>true) &&
 ((List.range ops.size).all fun i=>(List.range ops.size).all fun j=>!(Nat.blt i j&&effAt ops ms i&&effAt ops ms j)||bit ms j i) &&
 ((List.range ops.size).all fun i=>match ops[i]? with
  | some o=>(looks ops o).all fun t=>(List.range ops.size).all fun j=>match ops[j]? with
   | some o'=>(match o'.dst with|some d=>!Nat.beq d t||Nat.beq i j||(bif Nat.blt j i then bit ms i j else bit ms j i)|none=>true)
   | none=>true
  | none=>true)
def QYa (P:Program) (ops:Array Oper) (slots:List (Nat × AVal)) (o:Oper) (cur:Option Tag) (gb:Bool) (loc:Loc) (G:Gs) (objs:Objs) (v:AVal) (objs':Objs):Prop :=
 match o.op with
 | .pick c x y=>pickA ops slots ⟨loc,G,objs⟩ cur c x y=some v∧objs'=objs
 | _ =>
  match Qf2 P (lookR ops slots loc cur) objs o with
  | .bad=>(cur=none∨objs'=objs)∧evalX P (lookR ops slots loc cur) objs o fun u o2=>Sub u v∧o2=objs'
  | .val u=>Sub u v∧objs'=objs
  | .ifb b u=>(gb=true->b=true)∧u=v∧objs'=objs
  | .eff b u o2=>cur=none∧b=true∧u=v∧objs'=o2
  | .upd u o2=>cur=none∧u=v∧objs'=o2
  | .call f args=>(gb=true->ACalls P f args objs fun r o2=>r=v∧o2=objs')∧(gb=false->objs'=objs)
def Q66 (P:Program) (ops:Array Oper) (slots:List (Nat × AVal)) (o:Oper) (cur:Option Tag) (gb:Bool) (loc:Loc) (G:Gs) (objs:Objs) (v:AVal) (objs':Objs):Prop :=
 (gb=false∧objs'=objs)∨QYa P ops slots o cur gb loc G objs v objs'
def Q98 (ops:Array Oper) (rs:RSt) (o:Oper) (gb:Bool) (rs1:RSt):Prop :=
 match o.guard with
 | none=>gb=true∧rs1=rs
 | some g=>gOf ops rs g=some (gb,rs1)
structure Trace (P:Program) (nt:Nat) (ops:Array Oper) (slots:List (Nat × AVal)) (tr:Nat->RSt):Prop where
 loc0:(tr 0).loc=[]
 G0:(tr 0).G=[]
 step:∀ (i:Nat) (o:Oper),ops[i]? = some o -> ∃ (gb:Bool) (rs1:RSt) (v:AVal),Q98 ops (tr i) o gb rs1∧putR nt { rs1 with objs:=(tr (i+1)).objs } o.guard o.dst v=some (tr (i+1)) ∧
  (effAt ops (masks ops) i=true->Q66 P ops slots o o.guard gb rs1.loc rs1.G (tr i).objs v (tr (i+1)).objs) ∧
  (effAt ops (masks ops) i=false->(tr (i+1)).objs=(tr i).objs ∧ ∀ p,p<=ops.size->okPos ops (masks ops) i p=true->Q66 P ops slots o o.guard gb rs1.loc rs1.G (tr p).objs v (tr p).objs)
def GRel (ops:Array Oper) (rs:RSt) (g:Tag) (b:Bool):Prop :=
 ∃ o d bb,ops[g.1]? = some o∧o.dst=some d∧findL rs.loc d=some (o.guard,.lit (.bool bb)) ∧
  (o.guard=none->b=(bif g.2 then bb else !bb))∧(∀ h,o.guard=some h -> ∃ hb,findG rs.G h=some hb∧b=(hb&&(bif g.2 then bb else !bb)))
section
variable {P:Program} {nt:Nat} {ops:Array Oper} {slots:List (Nat × AVal)} {tr:Nat->RSt}
theorem gOf_step {rs rs1:RSt} {g:Tag} {gb:Bool} (hG:∀ g b,findG rs.G g=some b->GRel ops rs g b) (h:gOf ops rs g=some (gb,rs1)) :
  rs1.loc=rs.loc∧rs1.objs=rs.objs∧findG rs1.G g=some gb∧(∀ c b,findG rs.G c=some b->findG rs1.G c=some b)∧(∀ c b,findG rs1.G c=some b->GRel ops rs1 c b):=by
 unfold gOf at h;split at h
 ·rename_i b hb;simp only [yaa,yDa] at h;obtain ⟨rfl,rfl⟩:=h;exact ⟨rfl,rfl,hb,fun _ _ h=>h,hG⟩
 ·rename_i hnone
  have add:∀ gb:Bool,GRel ops { rs with G:=(g,gb) :: rs.G } g gb->rs1={ rs with G:=(g,gb) :: rs.G } ->
    rs1.loc=rs.loc∧rs1.objs=rs.objs∧findG rs1.G g=some gb∧(∀ c b,findG rs.G c=some b->findG rs1.G c=some b)∧(∀ c b,findG rs1.G c=some b->GRel ops rs1 c b):=by
   rintro gb hrel rfl;have keep:∀ c b,findG rs.G c=some b->findG ((g,gb) :: rs.G) c=some b:=by
    intro c b hc;rw [Qz5];split
    ·rename_i e;subst e;rw [hnone] at hc;cases hc
    ·exact hc
   refine ⟨rfl,rfl,by rw [Qz5,if_pos rfl],keep,fun c b hc=>?_⟩;simp only [Qz5] at hc;split at hc
   ·rename_i e;subst e;simp only [yaa] at hc;subst hc;exact hrel
   ·obtain ⟨o,d,bb,h1,h2,h3,h4,h5⟩:=hG c b hc;exact ⟨o,d,bb,h1,h2,h3,h4,fun h hh=>by obtain ⟨hb,h6,h7⟩:=h5 h hh;exact ⟨hb,keep h hb h6,h7⟩⟩
  split at h
  ·rename_i o ho;split at h
   ·rename_i d hd;split at h
    ·rename_i b hf;cases hgn:o.guard.isNone with
     | false=>rw [hgn] at h;cases h
     | true =>
      rw [hgn] at h;simp only [cond_true,yaa,yDa] at h;obtain ⟨rfl,rfl⟩:=h;have hgn':o.guard=none:=by simpa using hgn
      exact add _ ⟨o,d,b,ho,hd,by rw [hgn'];exact hf,fun _=>rfl,fun h hh=>by rw [hgn'] at hh;cases hh⟩ rfl
    ·rename_i c b hf;split at h
     ·rename_i c' hb hoc hfc;cases ht:tagEq c' c with
      | false=>rw [ht] at h;cases h
      | true =>
       rw [ht] at h;simp only [cond_true,yaa,yDa] at h;obtain ⟨rfl,rfl⟩:=h;have hcc:=tagEq_iff.1 ht;subst hcc;refine add _ ⟨o,d,b,ho,hd,by rw [hoc];exact hf,(fun hh=>by rw [hoc] at hh;cases hh),fun h' hh=>?_⟩ rfl;rw [hoc] at hh;simp only [yaa] at hh;subst hh;refine ⟨hb,?_,rfl⟩;rw [Qz5];split
       ·rename_i e;subst e;rw [hnone] at hfc;cases hfc
       ·exact hfc
     ·cases h
    ·cases h
   ·cases h
  ·cases h
structure TInv (ops:Array Oper) (tr:Nat->RSt) (i:Nat):Prop where
 who:∀ t e,findL (tr i).loc t=some e -> ∃ j o,j<i∧ops[j]? = some o∧o.dst=some t∧e.1=o.guard
 has:∀ j o d,j<i->ops[j]? = some o->o.dst=some d->(findL (tr i).loc d).isSome=true
 rel:∀ g b,findG (tr i).G g=some b->GRel ops (tr i) g b
 tag:∀ t g v,findL (tr i).loc t=some (some g,v)->(findG (tr i).G g).isSome=true
 one:∀ j k o o' d,j<i->k<i->ops[j]? = some o->ops[k]? = some o'->o.dst=some d->o'.dst=some d->j=k
 uniq:UniqL (tr i).loc
theorem QN9 {rs rs':RSt} {cur:Option Tag} {dst:Option Tmp} {v:AVal} (h:putR nt rs cur dst v=some rs') :
  rs'.objs=rs.objs∧rs'.G=rs.G∧((dst=none∧rs'.loc=rs.loc) ∨ ∃ d,dst=some d∧d<nt∧findL rs.loc d=none∧rs'.loc=(d,cur,v) :: rs.loc):=by
 unfold putR at h;cases dst with
 | none=>simp only [yaa] at h;subst h;exact ⟨rfl,rfl,.inl ⟨rfl,rfl⟩⟩
 | some d =>
  simp only at h;cases hb:Nat.blt d nt&&(findL rs.loc d).isNone with
  | false=>rw [hb] at h;cases h
  | true =>
   rw [hb] at h;simp only [cond_true,yaa] at h;subst h;simp only [yha,y0b] at hb;exact ⟨rfl,rfl,.inr ⟨d,rfl,by simpa using hb.1,hb.2,rfl⟩⟩
theorem QA9 {i:Nat} {o:Oper} {gb:Bool} {rs1:RSt} (hi:TInv ops tr i) (h:Q98 ops (tr i) o gb rs1) :
  rs1.loc=(tr i).loc∧rs1.objs=(tr i).objs∧(∀ g,o.guard=some g->findG rs1.G g=some gb)∧(o.guard=none->gb=true)∧(∀ c b,findG (tr i).G c=some b->findG rs1.G c=some b)∧(∀ c b,findG rs1.G c=some b->GRel ops rs1 c b):=by
 unfold Q98 at h;split at h
 ·rename_i hg;obtain ⟨rfl,rfl⟩:=h;exact ⟨rfl,rfl,(fun g hh=>by rw [hg] at hh;cases hh),fun _=>rfl,fun _ _ h=>h,hi.rel⟩
 ·rename_i g hg;obtain ⟨h1,h2,h3,h4,h5⟩:=gOf_step hi.rel h;exact ⟨h1,h2,(fun g' hh=>by rw [hg] at hh;simp only [yaa] at hh;subst hh;exact h3),(fun hh=>by rw [hg] at hh;cases hh),h4,h5⟩
end
end Go.Fw
