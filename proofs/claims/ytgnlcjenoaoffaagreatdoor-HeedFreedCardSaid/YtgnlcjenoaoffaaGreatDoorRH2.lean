/-
  Soundness, sixth part: slice literals, append, make.
  Soundness, seventh part: literals of slices, make, comparisons; then every operation.
-/
import Derived.Test.YtgnlcjenoaoffaaGreatDoorRH1
import Derived.Laws.Small
import Derived.Laws.Cover3
namespace Go.Fw
set_option linter.unusedSimpArgs false
set_option linter.unusedVariables false
open Go.RowKit
section
variable {K:Ctx} {P:Program} {w:World} {objs:Objs}
structure Row (K:Ctx) (k:Nat) (es:List (List AVal)) (us:List Value):Prop where
 len:us.length=es.length*k
 elem:∀ e ∈ es,e.length=k
 one:∀ u ∈ us,u.oneCell'=true
 rep:∀ (i j:Nat) (e:List AVal) (x:AVal),es[i]? = some e->e[j]? = some x -> ∃ u,us[i*k+j]? = some u∧Rep K x u
theorem Row.nil (K:Ctx) (k:Nat):Row K k [] []:=⟨by simp,by simp,by simp,fun i j e x he=>by simp at he⟩
theorem Row.append {k:Nat} {es fs:List (List AVal)} {us vs:List Value} (h:Row K k es us) (g:Row K k fs vs):Row K k (es++fs) (us++vs):=by
 refine ⟨by simp [h.len,g.len,y4a],fun e he=>?_,fun u hu=>?_,fun i j e x he hx=>?_⟩
 ·rcases List.mem_append.1 he with he|he
  ·exact h.elem e he
  ·exact g.elem e he
 ·rcases List.mem_append.1 hu with hu|hu
  ·exact h.one u hu
  ·exact g.one u hu
 ·rcases yGa i es.length with hlt|hge
  ·rw [ypa hlt] at he;obtain ⟨u,hu,hr⟩:=h.rep i j e x he hx;exact ⟨u,by rw [ypa (List.getElem?_eq_some_iff.1 hu).1];exact hu,hr⟩
  ·rw [yva hge] at he;obtain ⟨u,hu,hr⟩:=g.rep _ j e x he hx;have e1:(i - es.length)*k=i*k - es.length*k:=Nat.sub_mul _ _ _;have e2:es.length*k<=i*k:=yHa k hge;refine ⟨u,?_,hr⟩;rw [yva (by rw [h.len];omega),h.len,← hu]
   congr 1
   omega
theorem row_of_obj (hm:MemSat K objs w) {o ver k off len:Nat} {te:TypeId} {es:List (List AVal)} (hp:objs[o]? = some (ver,.row te k es)) (hle:off+len<=es.length) (hC:K.C o ver ≠ 0) :
  ∃ us:List Value,Row K k ((es.drop off).take len) us ∧ ∀ (j:Nat) (u:Value),us[j]? = some u->w.cell? ⟨K.ρ o ver,off*k+j,none⟩=some u:=by
 obtain ⟨h1,h2,_⟩:=hm.obj o _ hp;have h2:es.length<=K.C o ver:=h2;obtain ⟨c,hc,hs,hone,hr⟩:=hm.rowBlock hp hC;have hsz:(off+len)*k<=c.size:=by rw [hs];exact yHa k oA
 rw [y4a] at hsz;have hl:((es.drop off).take len).length=len:=by simp;omega
 refine ⟨(c.toList.drop (off*k)).take (len*k),⟨by rw [hl];simp;omega,fun e he=>h1 e (Q54 he),fun u hu=>hone u (Q54 hu),fun i j e x he hx=>?_⟩,fun j u hu=>?_⟩
 ·rw [yKa] at he;split at he
  ·rename_i hi;rw [yMa] at he;obtain ⟨u,hu,hru⟩:=hr (off+i) j e x he hx;have hj:j<k:=by have:=h1 e (yza he);have:=(List.getElem?_eq_some_iff.1 hx).1;omega
   have hik:(i+1)*k<=len*k:=yHa k hi;rw [y4a,yLb] at hik;refine ⟨u,?_,hru⟩;rw [yKa,if_pos oA,yMa,← yfb,← y4a];simpa using hu
  ·cases he
 ·rw [yKa] at hu;split at hu
  ·rw [yMa] at hu;obtain ⟨fr,_,hcb⟩:=hc;simp only [World.cell?,hcb];simpa using hu
  ·cases hu
theorem Qqa (w:World) (t ty e:TypeId) (i:TypeInfo) (ht:P.underlying t=some (.slice e)) (hi:P.info? e=some i)
  {k:Nat} (g sLen sCap:Nat) (cur:Array Value) (hg:RowAt w g cur e k)
  (a:Addr) (m c:Nat) (news:List Value) (hl:news.length=m*i.size) (hnews:∀ j u,news[j]? = some u->w.cell? (a.add j)=some u) (h1:∀ u ∈ news,u.oneCell'=true)
  (hroom:sLen+m<=sCap) (hfit:sLen*i.size+news.length<=cur.size) :
  (Builtin.append_ #[t,t] ty #[.slice (some ⟨g,0,none⟩) sLen sCap,.slice (some a) m c]).run P w =
   .ok (.slice (some ⟨g,0,none⟩) (sLen+m) sCap) (w.setRow g (cur.toList.take (sLen*i.size)++news++cur.toList.drop (sLen*i.size+news.length)).toArray):=by
 obtain ⟨fr,hfr,hcb⟩:=hg;have hf:=run_firstCells_some (P:=P) w i.size m a m c news hl hnews;have hst:=QN2 P g (sLen*i.size) e fr news 0 cur w hcb (hfr.le (Nat.le_add_right _ _)) (by simpa using hfit) h1;simp only [yhb] at hst;simp [Builtin.append_,run_underlying ht,sizeOf,typeInfo,hi,Builtin.lenOf,hroom,hf,Addr.add_lit,hst]
theorem row_of_seq (hm:MemSat K objs w) {k n:Nat} {t:Bool} {f:Nat->List AVal} {A:Option Addr} {c:Nat} (h:Rep K (.seq k n t f) (.slice A n c)) :
  ∃ us:List Value,Row K k ((List.range n).map f) us∧(n ≠ 0 -> ∃ ad,A=some ad ∧ ∀ (j:Nat) (u:Value),us[j]? = some u->w.cell? (ad.add j)=some u):=by
 obtain ⟨A',c',hv,_,_,_,h'⟩:=QB7 h;simp only [Value.slice.injEq] at hv;obtain ⟨rfl,_,rfl⟩:=hv;rcases ySa n with h0|h0
 ·subst h0;exact ⟨[],Row.nil K k,fun h=>absurd rfl h⟩
 ·obtain ⟨b,off,u,rfl,hk,hM,hr⟩:=h' h0;have divmod : ∀ q, q < n * k -> 0 < k ∧ q / k < n ∧ q % k < k ∧ q / k * k + q % k = q := by
   intro q hq;have hk0:0<k:=by
    rcases ySa k with h|h
    ·subst h;simp at hq
    ·exact h
   exact ⟨hk0,(Nat.div_lt_iff_lt_mul hk0).2 hq,yTb _ hk0,by rw [yQb];exact Nat.div_add_mod q k⟩
  refine ⟨(List.range (n * k)).map fun q => u (q / k) (q % k), ⟨by simp, fun e he => ?_, fun v hv => ?_, fun i j e x he hx => ?_⟩, fun _ => ⟨⟨b, off, none⟩, rfl, fun j v hv => ?_⟩⟩
  ·simp only [ypb,y5a] at he;obtain ⟨i,hi,rfl⟩:=he;exact hk i hi
  ·simp only [ypb,y5a] at hv;obtain ⟨q,hq,rfl⟩:=hv;obtain ⟨_,h1,h2,_⟩:=divmod q hq;exact (hm.mem _ _ _ (hM _ _ h1 h2)).2
  ·rw [yra] at he;rcases yGa i n with hi|hi
   ·rw [ygb hi] at he;simp only [yBa,yaa] at he;subst he;have hj:j<k:=by have:=hk i hi;have:=(List.getElem?_eq_some_iff.1 hx).1;omega
    have hik:(i+1)*k<=n*k:=yHa k hi;rw [y4a,yLb] at hik;refine ⟨u i j,?_,hr i j x hi hx⟩;rw [yra,ygb oA];simp only [yBa,yaa];have e1:(i*k+j) / k=i:=by rw [yQb,Nat.mul_add_div oA,Nat.div_eq_of_lt hj];rfl
    have e2 : (i * k + j) % k = j := by rw [yQb, Nat.mul_add_mod, Nat.mod_eq_of_lt hj]
    rw [e1,e2]
   ·rw [yYa (by simpa using hi)] at he;cases he
  ·rw [yra] at hv;rcases yGa j (n*k) with hj|hj
   ·rw [ygb hj] at hv;simp only [yBa,yaa] at hv;subst hv;obtain ⟨_,h1,h2,h3⟩:=divmod j hj;have:=(hm.mem _ _ _ (hM _ _ h1 h2)).1;rw [h3] at this;rw [add_lit];exact this
   ·rw [yYa (by simpa using hj)] at hv;cases hv
theorem Qte (hm:MemSat K objs w) {k:Nat} {x:AVal} {v:Value} {es:List (List AVal)} (hx:Rep K x v) (h:newsA k x objs=some es) :
  ∃ (A:Option Addr) (c:Nat) (us:List Value),v = .slice A es.length c∧Row K k es us∧(es.length ≠ 0 -> ∃ ad,A=some ad ∧ ∀ (j:Nat) (u:Value),us[j]? = some u->w.cell? (ad.add j)=some u):=by
 unfold newsA at h;split at h
 ·rename_i o ver k' off len;cases hk:Nat.beq k k' with
  | false=>rw [hk] at h;cases h
  | true =>
   rw [hk] at h;have hk':=yla hk;subst hk';simp only [cond_true] at h;cases hro:rowOf objs o ver k with
   | none=>simp [hro] at h
   | some q =>
    obtain ⟨te,fs⟩:=q;simp only [hro] at h;cases hb:Nat.ble (off+len) fs.length with
    | false=>rw [hb] at h;cases h
    | true =>
     rw [hb] at h;simp only [cond_true,yaa] at h;have hle:=yfa hb;subst h;have hl:((fs.drop off).take len).length=len:=by simp;omega
     rw [hl];obtain ⟨ho,hv,hcase⟩:=Qv5 hx;rcases hcase with ⟨rfl,rfl,rfl⟩|⟨a,c,rfl,hlc,hC,ha⟩
     ·exact ⟨none,0,[],rfl,by simpa using Row.nil K k,fun h=>absurd rfl h⟩
     ·rcases ySa len with h0|h0
      ·subst h0;exact ⟨some a,c,[],rfl,by simpa using Row.nil K k,fun h=>absurd rfl h⟩
      ·obtain ⟨us,hus,hcell⟩:=row_of_obj hm (Ql7 hro) hle oA;have:=ha oA;subst this;exact ⟨_,c,us,rfl,hus,fun _=>⟨_,rfl,fun j u hu=>by rw [add_lit];exact hcell j u hu⟩⟩
 ·split at h
  ·rename_i n t f hs;simp only [yaa] at h;subst h;have hseq:=QC7 hx hs;obtain ⟨A,c,rfl,_⟩:=QB7 hseq;obtain ⟨us,hus,hcell⟩:=row_of_seq hm hseq;exact ⟨A,c,us,by simp,hus,by simpa using hcell⟩
  ·cases h
theorem QZ5 {t ty e:TypeId} {i:TypeInfo} (ht:P.underlying t=some (.slice e)) (hi:P.info? e=some i) (B A:Option Addr) (n c c':Nat) (h:n<=c') :
  (Builtin.append_ #[t,t] ty #[.slice B n c',.slice A 0 c]).run P w = .ok (.slice B n c') w:=by
 cases A <;> cases B <;> simp [Builtin.append_,run_underlying ht,sizeOf,typeInfo,hi,Builtin.lenOf,Builtin.firstCells,h,storeCells,loadCells,loadCellsFrom]
theorem Q5e {k need cap:Nat} {es:List (List AVal)} {us:List Value} {z:Value} (hrow:Row K k es us) (hes:es.length=need) (hcap:need<=cap) (hz:z.cells.size=k) (h1:∀ u ∈ z.cells.toList,u.oneCell'=true)
  (C:Array Value) (hC:C=us.toArray++Builtin.zeroCells z.cells (cap - need)) :
  C.size=cap*k∧(∀ u ∈ C.toList,u.oneCell'=true) ∧ ∀ (i j:Nat) (e:List AVal) (x:AVal),es[i]? = some e->e[j]? = some x -> ∃ u,C[i*k+j]? = some u∧Rep K x u:=by
 subst hC;refine ⟨?_,fun u hu=>?_,fun i j e x he hx=>?_⟩
 ·simp only [Array.size_append,ymb,size_zeroCells,hz,hrow.len,hes];rw [← y4a]
  congr 1
  omega
 ·simp only [Array.toList_append,yOb] at hu;rcases hu with hu|hu
  ·exact hrow.one u hu
  ·simp only [Builtin.zeroCells,ykb,ypb,ywb,y5a] at hu;obtain ⟨q,hq,rfl⟩:=hu;rcases ySa z.cells.size with h0|h0
   ·rw [h0] at hq;simp at hq
   ·rw [getElem!_pos z.cells _ (yTb _ h0)];exact h1 _ (by simp)
 ·obtain ⟨u,hu,hr⟩:=hrow.rep i j e x he hx;refine ⟨u,?_,hr⟩;rw [yXb (by simpa using (List.getElem?_eq_some_iff.1 hu).1)];simpa using hu
structure AppRuns (P:Program) (w:World) (t ut ty e:TypeId) (i:TypeInfo) (z:Value) (xv:Value) (n:Nat) (us:List Value):Prop where
 zero:n=0 -> ∀ (B:Option Addr) (m c':Nat),m<=c'->(Builtin.append_ #[t,ut] ty #[.slice B m c',xv]).run P w = .ok (.slice B m c') w
 nil:n ≠ 0->n<=70368744177664->n*i.bytes<=281474976710656->(Builtin.append_ #[t,ut] ty #[.slice none 0 0,xv]).run P w =
  .ok (.slice (some ⟨w.heap.size,0,none⟩) n (grownCap w n 0 e)) (w.drew.alloc (.cells (us.toArray++Builtin.zeroCells z.cells (grownCap w n 0 e - n)) e))
 row:n ≠ 0 -> ∀ {k:Nat} (g sLen sCap:Nat) (cur:Array Value),RowAt w g cur e k->sLen+n<=sCap->sLen*i.size+us.length<=cur.size ->
  (Builtin.append_ #[t,ut] ty #[.slice (some ⟨g,0,none⟩) sLen sCap,xv]).run P w = .ok (.slice (some ⟨g,0,none⟩) (sLen+n) sCap) (w.setRow g (cur.toList.take (sLen*i.size)++us++cur.toList.drop (sLen*i.size+us.length)).toArray)
 grow:n ≠ 0 -> ∀ (b:Addr) (sLen sCap:Nat) (olds:List Value),olds.length=sLen*i.size->(∀ j v,olds[j]? = some v->w.cell? (b.add j)=some v)->sCap<sLen+n->((sLen+n:Nat):Int)<=9223372036854775807 ->
  Builtin.nextslicecap (sLen+n) sCap*i.bytes<=281474976710656 ->
  (Builtin.append_ #[t,ut] ty #[.slice (some b) sLen sCap,xv]).run P w = .ok (.slice (some ⟨w.heap.size,0,none⟩) (sLen+n) (grownCap w (sLen+n) sCap e))
   (w.drew.alloc (.cells (olds.toArray++us.toArray++Builtin.zeroCells z.cells (grownCap w (sLen+n) sCap e - (sLen+n))) e))
theorem appRuns_slice {t ty e:TypeId} {i:TypeInfo} {z:Value} (ht:P.underlying t=some (.slice e)) (hi:P.info? e=some i) (hz:i.zero=some z) {A:Option Addr} {c n:Nat} {us:List Value} (hl:us.length=n*i.size) (h1:∀ u ∈ us,u.oneCell'=true)
  (hcell:n ≠ 0 -> ∃ ad,A=some ad ∧ ∀ (j:Nat) (u:Value),us[j]? = some u->w.cell? (ad.add j)=some u):AppRuns P w t t ty e i z (.slice A n c) n us:=by
 refine ⟨fun hn B m c' hle=>?_,fun hn h2 h3=>?_,fun hn k g sLen sCap cur hg hroom hfit=>?_,fun hn b sLen sCap olds hlo hco hgt h63 hfit=>?_⟩
 ·subst hn;exact QZ5 ht hi B A m c c' hle
 ·obtain ⟨ad,rfl,hcl⟩:=hcell hn;exact run_append_nil (P:=P) w t ty e i z ht hi hz ad n c us hl hcl oA oA h3
 ·obtain ⟨ad,rfl,hcl⟩:=hcell hn;exact Qqa (P:=P) w t ty e i ht hi g sLen sCap cur hg ad n c us hl hcl h1 hroom hfit
 ·obtain ⟨ad,rfl,hcl⟩:=hcell hn;exact run_append_grow (P:=P) w t ty e i z ht hi hz b sLen sCap olds hlo hco ad n c us hl hcl hgt h63 hfit
theorem append_own (hm:MemSat K objs w) {t ut ty te:TypeId} {i:TypeInfo} {zv sv xv:Value} (hz1:∀ u ∈ zv.cells.toList,u.oneCell'=true) (hzs:zv.cells.size=i.size) {news:List (List AVal)} {us:List Value} (hrow:Row K i.size news us)
  (H:AppRuns P w t ut ty te i zv xv news.length us) {o ver len:Nat} {es:List (List AVal)} (hobj:objs[o]? = some (ver,.row te i.size es)) (hs:Rep K (.own o ver i.size 0 len) sv) (hlen:len=es.length)
  (hsm:(len+news.length)*i.bytes<=70368744177664) (hsm2:len+news.length<=70368744177664) :
  ∃ u w' K',(Builtin.append_ #[t,ut] ty #[sv,xv]).run P w = .ok u w'∧K.le K'∧MemSat K' (objs.set o (ver+1,.row te i.size (es++news))) w'∧Rep K' (.own o (ver+1) i.size 0 (len+news.length)) u:=by
 have grow:∀ (es:List (List AVal)) (olds:List Value) (cap:Nat),Row K i.size es olds->es.length+news.length<=cap ->
   ∀ (C:Array Value),C=olds.toArray++us.toArray++Builtin.zeroCells zv.cells (cap - (es.length+news.length)) ->
   C.size=cap*i.size∧(∀ u ∈ C.toList,u.oneCell'=true) ∧ ∀ (i' j:Nat) (e:List AVal) (x:AVal),(es++news)[i']? = some e->e[j]? = some x -> ∃ u,C[i'*i.size+j]? = some u∧Rep K x u:=by
  intro es olds cap hro hcap C hC;exact Q5e (need:=es.length+news.length) (hro.append hrow) (by simp) hcap hzs hz1 C (by rw [hC];simp)
 obtain ⟨hel,hesC,_⟩:=hm.obj o _ hobj;have hesC:es.length<=K.C o ver:=hesC;have hvs:ver=K.vs o:=hm.ver o _ hobj;obtain ⟨ho,hv,hcase⟩:=Qv5 hs;have elnew:∀ e ∈ es++news,e.length=i.size:=by
  intro y hy;rcases List.mem_append.1 hy with hy|hy
  ·exact hel y hy
  ·exact hrow.elem y hy
 have newBlock:∀ (olds:List Value) (cap:Nat),Row K i.size es olds->es.length+news.length<=cap->cap ≠ 0 ->
   ∃ K',K.le K'∧MemSat K' (objs.set o (ver+1,.row te i.size (es++news))) (w.drew.alloc (.cells (olds.toArray++us.toArray++Builtin.zeroCells zv.cells (cap - (es.length+news.length))) te)) ∧
    Rep K' (.own o (ver+1) i.size 0 (len+news.length)) (.slice (some ⟨w.heap.size,0,none⟩) (es.length+news.length) cap):=by
  intro olds cap hro' hcap hc0;obtain ⟨g1,g2,g3⟩:=grow es olds cap hro' hcap _ rfl
  refine ⟨K.turn o w.heap.size cap,Qpe K o _ _,hm.turn hobj te i.size (es++news) w.heap.size cap _ (fun _=>.inr (yia _)) (fun _=>by simp) (fun q hq _=>Below.heap_alloc w.drew _ q hq)
   (hm.below.drew.alloc rfl rfl _) (by simpa using hcap) elnew (fun _=>⟨_,?_,g1,g2,g3⟩),?_⟩
  ·exact RowAt.plain (heap_alloc_new w.drew _)
  ·rw [hlen];refine .own o (ver+1) i.size 0 _ (by simpa [Ctx.turn] using ho) (by simp [Ctx.turn,hvs]) _ cap hcap ?_ (fun _=>?_)
   ·simp [Ctx.turn,hvs]
   ·simp [Ctx.turn,hvs]
 rcases hcase with ⟨_,hl0,rfl⟩|⟨a,c',rfl,hlc,hC,ha⟩
 ·have hes0:es=[]:=yCa oA;subst hl0
  by_cases hn:news.length=0
  ·have hn0:news=[]:=yCa hn;subst hn0 hes0;refine ⟨.slice none 0 0,w,K.turn o 0 0,H.zero hn none 0 0 (yia _),Qpe K o 0 0,hm.turn hobj te i.size _ 0 0 w (fun h=>absurd rfl h) (fun h=>absurd rfl h) (fun _ _ _=>rfl) hm.below (by simp) (by simp) (fun h=>absurd rfl h),?_⟩;exact .ownNil o (ver+1) i.size (by simpa [Ctx.turn] using ho) (by simp [Ctx.turn,hvs])
  ·have hr:=H.nil hn (by simp only [yda] at hsm2;omega) (by simp only [yda] at hsm;omega);have hge:=grownCap_ge w news.length 0 te;obtain ⟨K',hle,hm',hrep⟩:=newBlock [] (grownCap w news.length 0 te) (by rw [hes0];exact Row.nil K _) (by rw [hes0];simpa using hge) oA;refine ⟨_,_,K',hr,hle,?_,?_⟩
   ·simpa [hes0] using hm'
   ·simpa [hes0] using hrep
 ·by_cases hroom:len+news.length<=c'
  ·by_cases hc0:c'=0
   ·have hn:news.length=0:=by omega
    have hn0:news=[]:=yCa hn;have hes0:es=[]:=yCa oA;have hl0:len=0:=by omega
    subst hn0 hes0 hl0 hc0;refine ⟨_,w,K.turn o 0 0,H.zero hn (some a) 0 0 (yia _),Qpe K o 0 0,hm.turn hobj te i.size _ 0 0 w (fun h=>absurd rfl h) (fun h=>absurd rfl h) (fun _ _ _=>rfl) hm.below (by simp) (by simp) (fun h=>absurd rfl h),?_⟩;exact .own o (ver+1) i.size 0 _ (by simpa [Ctx.turn] using ho) (by simp [Ctx.turn,hvs]) a 0 (by simp) (by simp [Ctx.turn,hvs]) (fun h=>absurd rfl h)
   ·have:=ha hc0;subst this;have hC0:K.C o ver ≠ 0:=by omega
    obtain ⟨cur,hcur,hcs,hc1,hcr⟩:=hm.rowBlock hobj hC0;have hfit:len*i.size+us.length<=cur.size:=by
     rw [hrow.len,hcs,← y4a];exact yHa _ oA
    have key:∃ w',(Builtin.append_ #[t,ut] ty #[.slice (some ⟨K.ρ o ver,0*i.size,none⟩) len c',xv]).run P w = .ok (.slice (some ⟨K.ρ o ver,0,none⟩) (len+news.length) c') w'∧w'=w.setRow (K.ρ o ver) (cur.toList.take (len*i.size)++us++cur.toList.drop (len*i.size+us.length)).toArray:=by
     rw [yWb]
     by_cases hn:news.length=0
     ·have hn0:news=[]:=yCa hn;have hu0:us=[]:=yCa (by rw [hrow.len,hn];simp);subst hn0 hu0;refine ⟨w,by simpa using H.zero hn _ len c' hlc,?_⟩;simp only [yub,y0a,yhb,List.take_append_drop,yJa];obtain ⟨fr,_,hcb⟩:=hcur;rw [setRow_self w _ cur te fr hcb]
     ·exact ⟨_,H.row hn (K.ρ o ver) len c' cur hcur hroom hfit,rfl⟩
    obtain ⟨w',hrun,rfl⟩:=key;have hlo:=hm.lo o _ hobj rfl hC0
    refine ⟨_,_,K.turn o (K.ρ o ver) (K.C o ver),hrun,Qpe K o _ _,hm.turn hobj te i.size (es++news) (K.ρ o ver) (K.C o ver) _ (fun _=>.inl ⟨rfl,hC0,rfl⟩) (fun _=>by simpa using hlo.2.1)
     (fun q _ hq=>setRow_other w _ _ _ (hq hC0)) (hm.below.step rfl rfl rfl rfl rfl (by simp) fun b x hx=>setRow_other w _ _ _ (by rintro rfl;rw [hlo.1] at hx;cases hx)) (by simp;omega) elnew (fun _=>⟨_,(by obtain ⟨fr,hfr,hcb⟩:=hcur;exact ⟨fr,by simp only [ymb,yma,yAa,yEa,ybb];rw [show min (len*i.size) cur.size+us.length+(cur.size - (len*i.size+us.length))=cur.size by omega];exact hfr,setRow_heap w _ cur _ te _ hcb⟩),?_,?_,?_⟩),?_⟩
    ·simp only [ymb,yma,yAa,yEa,ybb];omega
    ·intro y hy;simp only [yOb] at hy;rcases hy with (hy|hy)|hy
     ·exact hc1 y (yjb hy)
     ·exact hrow.one y hy
     ·exact hc1 y (yib hy)
    ·intro i' j e' x' he' hx';have hj:j<i.size:=by have:=elnew e' (yza he');have:=(List.getElem?_eq_some_iff.1 hx').1;omega
     have e1:(List.take (len*i.size) cur.toList).length=len*i.size:=by simp;omega
     rcases yGa i' es.length with hlt|hge
     ·rw [ypa hlt] at he';obtain ⟨u,hu,hru⟩:=hcr i' j e' x' he' hx';refine ⟨u,?_,hru⟩;have hik:(i'+1)*i.size<=len*i.size:=yHa _ oA;rw [y4a,yLb] at hik;rw [y9a,ypa (by simp only [yma,e1];omega),ypa (by rw [e1];omega),yKa,if_pos oA];simpa using hu
     ·rw [yva hge] at he';obtain ⟨u,hu,hru⟩:=hrow.rep _ j e' x' he' hx';refine ⟨u,?_,hru⟩;have h3:(i' - es.length)*i.size=i'*i.size - es.length*i.size:=Nat.sub_mul _ _ _;have h4:es.length*i.size<=i'*i.size:=yHa _ hge;have h5:=(List.getElem?_eq_some_iff.1 hu).1;rw [hlen] at e1 ⊢;rw [y9a,ypa (by simp only [yma,e1];omega),yva (by rw [e1];omega),e1,← hu]
      congr 1
      omega
    ·refine .own o (ver+1) i.size 0 _ (by simpa [Ctx.turn] using ho) (by simp [Ctx.turn,hvs]) _ c' hroom ?_ (fun _=>?_)
     ·simp [Ctx.turn,hvs];rw [hvs] at hC;omega
     ·simp [Ctx.turn,hvs]
  ·have hn:news.length ≠ 0:=by omega
   have olds:∃ olds:List Value,Row K i.size es olds ∧ ∀ (j:Nat) (u:Value),olds[j]? = some u->w.cell? (a.add j)=some u:=by
    rcases ySa len with h0|h0
    ·have hes0:es=[]:=yCa oA;subst hes0;exact ⟨[],Row.nil K _,fun j u h=>by simp at h⟩
    ·have hc0:c' ≠ 0:=by omega
     have:=ha hc0;subst this;obtain ⟨us',h1,h2⟩:=row_of_obj (off:=0) (len:=es.length) hm hobj oA oA;refine ⟨us',by simpa using h1,fun j u hu=>?_⟩;rw [add_lit];exact h2 j u hu
   obtain ⟨olds,hro',hco⟩:=olds;have hr:=H.grow hn a len c' olds (by rw [hro'.len,hlen]) hco oA oA (growslice_fits oA oA);have hge:=grownCap_ge w (len+news.length) c' te;obtain ⟨K',hle,hm',hrep⟩:=newBlock olds (grownCap w (len+news.length) c' te) hro' oA oA;refine ⟨_,_,K',hr,hle,?_,?_⟩
   ·rw [hlen] at hm' ⊢;exact hm'
   ·rw [hlen] at hrep ⊢;exact hrep
theorem emptyA_none {k:Nat} {x:AVal} {objs:Objs} {es:List (List AVal)} (h:emptyA x=true) (hn:newsA k x objs=some es):es=[]:=by
 cases x with
 | seq k' n t f =>
  have h0:n=0:=yla h;subst h0;unfold newsA at hn;simp only at hn;split at hn
  ·rename_i n' t' f' hq;unfold seqOf at hq;simp only [cond_eq_ite] at hq;split at hq
   ·simp only [yaa,yDa] at hq;obtain ⟨rfl,-⟩:=hq;simp only [yaa] at hn;exact hn.symm
   ·cases hq
  ·cases hn
 | _=>cases h
theorem appendA_sound (hm:MemSat K objs w) {t ty:TypeId} {s x r:AVal} {sv xv:Value} {b:Bool} {objs':Objs} (hs:Rep K s sv) (hx:Rep K x xv) (h:Qo7 P t s x objs = .eff b r objs') (hb:b=true) :
  ∃ u w' K',(Builtin.append_ #[t,t] ty #[sv,xv]).run P w = .ok u w'∧K.le K'∧MemSat K' objs' w'∧Rep K' r u:=by
 subst hb;unfold Qo7 at h;split at h
 ·rename_i e he;have ht:=Qp8 he;split at h
  ·rename_i z news hz hnews;obtain ⟨i,zv,hi,hz0,-,hz1,hzs⟩:=Qz4 hz;have hsize:sizeA P e=i.size:=by simp [sizeA,hi]
   have hbytes:Qg9 P e=i.bytes:=by simp [Qg9,hi]
   rw [hsize] at h hnews;obtain ⟨A,c,us,rfl,hrow,hcell⟩:=Qte hm hx hnews
   have grow:∀ (es:List (List AVal)) (olds:List Value) (cap:Nat),Row K i.size es olds->es.length+news.length<=cap ->
     ∀ (C:Array Value),C=olds.toArray++us.toArray++Builtin.zeroCells zv.cells (cap - (es.length+news.length)) ->
     C.size=cap*i.size∧(∀ u ∈ C.toList,u.oneCell'=true) ∧ ∀ (i' j:Nat) (e:List AVal) (x:AVal),(es++news)[i']? = some e->e[j]? = some x -> ∃ u,C[i'*i.size+j]? = some u∧Rep K x u:=by
    intro es olds cap hro hcap C hC;exact Q5e (need:=es.length+news.length) (hro.append hrow) (by simp) hcap hzs hz1 C (by rw [hC];simp)
   split at h
   ·rename_i o ver k off len;cases hro:rowOf objs o ver i.size with
    | none=>simp [hro] at h
    | some q =>
     obtain ⟨te,es⟩:=q;simp only [hro] at h;cases hbb:Nat.beq k i.size&&Nat.beq off 0&&Nat.beq te e with
     | false=>rw [hbb] at h;cases h
     | true =>
      rw [hbb] at h;simp only [cond_true,ORes.eff.injEq] at h;obtain ⟨hob,rfl,rfl⟩:=h;simp only [yha] at hbb hob;obtain ⟨⟨hk,hoff⟩,hte⟩:=hbb;have hk:=yla hk;have hoff:=yla hoff;have hte:=yla hte;subst hk hoff hte;obtain ⟨hlen,hsm⟩:=hob;have hlen:=yla hlen;simp only [QHb,hbytes,yua] at hsm;obtain ⟨hsm,hsm2⟩:=hsm;exact append_own (P:=P) (w:=w) (K:=K) (objs:=objs) hm hz1 hzs hrow (appRuns_slice ht hi hz0 hrow.len hrow.one hcell) (Ql7 hro) hs hlen hsm hsm2
   ·split at h
    ·rename_i n tight f hsq;cases hem:(!Nat.beq n 0&&emptyA x) with
     | true =>
      rw [hem] at h;simp only [cond_true,ORes.eff.injEq,true_and] at h;obtain ⟨rfl,rfl⟩:=h;have hn0:=emptyA_none (Bool.and_eq_true_iff.1 hem).2 hnews;subst hn0;obtain ⟨B,c',rfl,hnc,-,-,-⟩:=QB7 (QC7 hs hsq);exact ⟨_,w,K,QZ5 ht hi B A n c c' hnc,Ctx.le.refl K,hm,hs⟩
     | false =>
     rw [hem] at h;simp only [cond_false,ORes.eff.injEq] at h;obtain ⟨hob,rfl,rfl⟩:=h;simp only [yha] at hob;obtain ⟨⟨htt,hnz⟩,hsm⟩:=hob;subst htt;simp only [QHb,hbytes,yua] at hsm;obtain ⟨hsm,hsm2⟩:=hsm;have hseq:=QC7 hs hsq;obtain ⟨B,c',rfl,hnc,htc,hB,_⟩:=QB7 hseq;have hcn:=htc rfl;subst hcn;obtain ⟨olds,hro',hco⟩:=row_of_seq hm hseq;have hln:((List.range c').map f).length=c':=by simp
     have elnew:∀ e ∈ (List.range c').map f++news,e.length=i.size:=by
      intro y hy;rcases List.mem_append.1 hy with hy|hy
      ·exact hro'.elem y hy
      ·exact hrow.elem y hy
     have newBlock:∀ (cap:Nat),c'+news.length<=cap->cap ≠ 0 ->
       ∃ K',K.le K'∧MemSat K' (objs++[(0,.row e i.size ((List.range c').map f++news))]) (w.drew.alloc (.cells (olds.toArray++us.toArray++Builtin.zeroCells zv.cells (cap - (c'+news.length))) e)) ∧
        Rep K' (.own objs.length 0 i.size 0 (c'+news.length)) (.slice (some ⟨w.heap.size,0,none⟩) (c'+news.length) cap):=by
      intro cap hcap hc0;obtain ⟨g1,g2,g3⟩:=grow ((List.range c').map f) olds cap hro' (by simpa using hcap) _ rfl;simp only [hln] at g1 g2 g3;refine ⟨K.newObj w.drew.heap.size cap,Q92 K _ _,hm.drew.addRow e i.size _ _ cap hc0 (by simpa using hcap) g1 elnew g2 g3,?_⟩;refine .own objs.length 0 i.size 0 _ (by simp [Ctx.newObj,hm.len]) (yna _) _ cap hcap ?_ (fun _=>?_)
      ·simp [Ctx.newObj,hm.len]
      ·simp [Ctx.newObj,hm.len]
     by_cases hn:news.length=0
     ·have hn0:news=[]:=yCa hn;subst hn0;have hc0:c'=0:=by
       simp only [y0a] at hnz;cases hz:Nat.beq c' 0 with
       | true=>exact yla hz
       | false=>rw [hz] at hnz;simp at hnz
      subst hc0;refine ⟨_,w,K.newObj 0 0,QZ5 ht hi B A 0 c 0 (yia _),Q92 K 0 0,by simpa using hm.addNone e i.size,?_⟩;cases B with
      | none=>exact .ownNil _ _ _ (by simp [Ctx.newObj,hm.len]) (yna _)
      | some a=>exact .own _ _ _ _ _ (by simp [Ctx.newObj,hm.len]) (yna _) a 0 (by simp) (by simp [Ctx.newObj,hm.len]) (fun h=>absurd rfl h)
     ·obtain ⟨ad,rfl,hcl⟩:=hcell hn;cases B with
      | none =>
       have hc0:c'=0:=(hB rfl).1;subst hc0;have ho0:olds=[]:=yCa (by rw [hro'.len];simp);subst ho0;have hr:=run_append_nil (P:=P) w t ty e i zv ht hi hz0 ad news.length c us hrow.len hcl oA oA (by simp only [yda] at hsm;omega);have hge:=grownCap_ge w news.length 0 e;obtain ⟨K',hle,hm',hrep⟩:=newBlock (grownCap w news.length 0 e) oA oA;exact ⟨_,_,K',hr,hle,by simpa using hm',by simpa using hrep⟩
      | some b =>
       have hco':∀ (j:Nat) (v:Value),olds[j]? = some v->w.cell? (b.add j)=some v:=by
        intro j v hv;rcases ySa c' with h0|h0
        ·have ho0:olds=[]:=yCa (by rw [hro'.len,hln,h0];simp);subst ho0;simp at hv
        ·obtain ⟨b',hb',hcc⟩:=hco oA;simp only [yaa] at hb';subst hb';exact hcc j v hv
       have hr:=run_append_grow (P:=P) w t ty e i zv ht hi hz0 b c' c' olds (by rw [hro'.len,hln]) hco' ad news.length c us hrow.len hcl oA oA (growslice_fits oA oA);have hge:=grownCap_ge w (c'+news.length) c' e;obtain ⟨K',hle,hm',hrep⟩:=newBlock (grownCap w (c'+news.length) c' e) hge oA;exact ⟨_,_,K',hr,hle,hm',hrep⟩
    ·cases h
  ·cases h
 ·cases h
end
section
variable {K:Ctx} {P:Program} {w:World} {objs:Objs}
theorem zeros_reps {v : Value} (n : Nat) (h0 : n ≠ 0 -> v.cells.size ≠ 0) : Reps K (Q4d (v.cells.toList.map .lit) n) ((Array.range n).map (v.cells[· % v.cells.size]!)).toList ∧
  ((∀ u ∈ v.cells.toList, u.oneCell' = true) -> ∀ u ∈ ((Array.range n).map (v.cells[· % v.cells.size]!)).toList, u.oneCell' = true) := by
 have nz:∀ q,q<n->v.cells.size ≠ 0:=fun q hq=>h0 oA
 refine ⟨⟨by simp [Q4d],fun i x u hx hu=>?_⟩,fun h1 u hu=>?_⟩
 ·have hi:i<n:=by have:=(List.getElem?_eq_some_iff.1 hx).1;simpa [Q4d] using this
  have hz:=nz i hi;have hlt : i % v.cells.size < v.cells.size := yTb _ oA;simp only [Q4d,yra,ygb hi,yBa,yaa,yxa,ybb] at hx;simp only [ykb,ywb,yra,ygb hi,yBa,yaa] at hu;rw [getElem!_pos v.cells _ hlt] at hu;subst hu hx;rw [yNa,yra,yVa,ysa hlt];exact .lit _
 ·simp only [ykb,ywb,ypb,y5a] at hu;obtain ⟨q,hq,rfl⟩:=hu;have hz:=nz q hq;rw [getElem!_pos v.cells _ (yTb _ oA)];exact h1 _ (by simp)
theorem QTb (hm:MemSat K objs w) {t:TypeId} {len:Nat} {ps:List (Nat × AVal)} {qs:List (Nat × Value)} {a:AVal} (hl:qs.length=ps.length)
  (hpq:∀ (i:Nat) (p:Nat × AVal) (q:Nat × Value),ps[i]? = some p->qs[i]? = some q->q.1=p.1∧Rep K p.2 q.2) (h:QA3 P t len ps = .val a) :
  ∃ u w' K',(Instr.buildSlice t len qs.toArray).run P w = .ok u w'∧K.le K'∧MemSat K' objs w'∧Rep K' a u:=by
 unfold QA3 at h;split at h
 ·rename_i e he;have ht:=Qp8 he;split at h
  ·rename_i z hz;obtain ⟨i,v,hi,hz0,rfl,h1,hs⟩:=Qz4 hz;have hsize:sizeA P e=i.size:=by simp [sizeA,hi]
   simp only [hsize] at h;split at h
   ·rename_i cs hf;cases hb:Nat.ble (len*i.size) 16777216 with
    | false=>rw [hb] at h;cases h
    | true =>
     rw [hb] at h;simp only [cond_true,ORes.val.injEq] at h;subst h;have hle:=yfa hb;have hnz:len*i.size ≠ 0->v.cells.size ≠ 0:=by
      intro h0 h2;rw [hs] at h2;rw [h2] at h0;simp at h0
     obtain ⟨hzr,hz1⟩:=zeros_reps (K:=K) (v:=v) (len*i.size) hnz;obtain ⟨us,hus,hrus,h1us⟩:=Qt7 (K:=K) _ ps qs _ _ cs hl hpq hzr (hz1 h1) hf;have hlen:us.length=len*i.size:=by
      rw [hrus.1];have:∀ (place:Nat->Option (Nat × Nat)) (l:List (Nat × AVal)) (c c':List AVal),fillA place c l=some c'->c'.length=c.length:=by
       intro place l
       induction l with
       | nil=>intro c c' hh;simp only [fillA,yaa] at hh;rw [hh]
       | cons p l ih =>
        intro c c' hh;obtain ⟨i0,x0⟩:=p;simp only [fillA] at hh;split at hh
        ·rename_i off size cx _ _;cases hbb:Nat.beq cx.length size&&Nat.ble (off+cx.length) c.length with
         | false=>rw [hbb] at hh;cases hh
         | true =>
          rw [hbb] at hh;simp only [cond_true] at hh;simp only [yha] at hbb;have:=yfa hbb.2;rw [ih _ _ hh];simp only [splice,yma,yAa,yEa];omega
        ·cases hh
      rw [this _ _ _ _ hf];simp [Q4d]
     refine ⟨.slice (some ⟨w.heap.size,0,none⟩) len len,w.alloc (.cells us.toArray e),K.frozenBlock w.heap.size us,?_,Qv6 hm us,hm.newBlock us e,?_⟩
     ·simp only [yJa] at hus;have n2:¬ (16777216<len*i.size):=by omega
      by_cases hn:len*i.size=0
      ·have e1 : (Array.range (len * i.size)).map (v.cells[· % v.cells.size]!) = (Array.range (len * i.size)).map ((#[] : Array Value)[· % (#[] : Array Value).size]!) := by
        rw [hn];apply Array.ext';simp
       rw [e1] at hus;simp [Instr.buildSlice,run_underlying ht,sizeOf,typeInfo,hi,n2,hn,newRow];rw [hn] at hus;have e3 : (Array.range 0).map ((#[] : Array Value)[· % (#[] : Array Value).size]!) = #[] := by apply Array.ext'; simp
       rw [e3] at hus;have e4:(Array.range 0).map (fun _=>(default:Value)) = #[]:=by apply Array.ext';simp
       rw [e4,hus];simp
      ·simp [Instr.buildSlice,run_underlying ht,sizeOf,typeInfo,hi,n2,hn,zeroValue,hz0,hus,newRow]
     ·refine Qj7 (yia _) (fun _=>rfl) (fun h=>by cases h) (fun hpos=>⟨w.heap.size,0,fun i' j=>(us[i'*i.size+j]?).getD undef,rfl,fun i' hi'=>?_,fun i' j hi' hj=>?_,fun i' j x hi' hx=>?_⟩)
      ·have hik:(i'+1)*i.size<=len*i.size:=yHa _ hi';rw [y4a,yLb] at hik;have:=hrus.1;simp only [yAa,yEa];omega
      ·have hik:(i'+1)*i.size<=len*i.size:=yHa _ hi';rw [y4a,yLb] at hik;simp only [Ctx.frozenBlock,if_true,yda];have hlt:i'*i.size+j<us.length:=by omega
       rw [yba hlt];simp [h1us _ (ycb hlt)]
      ·rw [yKa] at hx;split at hx
       ·rw [yMa] at hx;obtain ⟨u,hu,hru⟩:=hrus.get hx;simp only [hu,yFa];exact hru.mono (Qv6 hm us)
       ·cases hx
   ·cases h
  ·cases h
 ·cases h
def QJd (P:Program) (t:TypeId) (len:Nat) (parts:List (Nat × AVal)) (objs:Objs):Option (AVal × Objs) :=
 match elemA P t with
 | some e=>(match zeroA P e with
  | some z =>
   (match fillA (fun i=>some (i*sizeA P e,sizeA P e)) (Q4d z (len*sizeA P e)) parts with
    | some cs=>(match Nat.ble (len*sizeA P e) 16777216&&Nat.blt 0 (len*sizeA P e) with
     | true=>some (.own objs.length 0 (sizeA P e) 0 len,objs++[(0,.row e (sizeA P e) ((List.range len).map fun i=>(cs.drop (i*sizeA P e)).take (sizeA P e)))])
     | false=>none)
    | none=>none)
  | none=>none)
 | none=>none
theorem fillA_len:∀ (place:Nat->Option (Nat × Nat)) (l:List (Nat × AVal)) (c c':List AVal),fillA place c l=some c'->c'.length=c.length:=by
 intro place l
 induction l with
 | nil=>intro c c' hh;simp only [fillA,yaa] at hh;rw [hh]
 | cons p l ih =>
  intro c c' hh;obtain ⟨i0,x0⟩:=p;simp only [fillA] at hh;split at hh
  ·rename_i off size cx _ _;cases hbb:Nat.beq cx.length size&&Nat.ble (off+cx.length) c.length with
   | false=>rw [hbb] at hh;cases hh
   | true =>
    rw [hbb] at hh;simp only [cond_true] at hh;simp only [yha] at hbb;have:=yfa hbb.2;rw [ih _ _ hh];simp only [splice,yma,yAa,yEa];omega
  ·cases hh
theorem QKd (hm:MemSat K objs w) {t:TypeId} {len:Nat} {ps:List (Nat × AVal)} {qs:List (Nat × Value)} {a:AVal} {objs':Objs} (hl:qs.length=ps.length)
  (hpq:∀ (i:Nat) (p:Nat × AVal) (q:Nat × Value),ps[i]? = some p->qs[i]? = some q->q.1=p.1∧Rep K p.2 q.2) (h:QJd P t len ps objs=some (a,objs')) :
  ∃ u w' K',(Instr.buildSlice t len qs.toArray).run P w = .ok u w'∧K.le K'∧MemSat K' objs' w'∧Rep K' a u:=by
 unfold QJd at h;split at h
 ·rename_i e he;have ht:=Qp8 he;split at h
  ·rename_i z hz;obtain ⟨i,v,hi,hz0,rfl,h1,hs⟩:=Qz4 hz;have hsize:sizeA P e=i.size:=by simp [sizeA,hi]
   simp only [hsize] at h;split at h
   ·rename_i cs hf;split at h
    ·rename_i hb;simp only [yaa,yDa] at h;obtain ⟨rfl,rfl⟩:=h;simp only [yha] at hb;have hle:=yfa hb.1;have hpos:0<len*i.size:=by simpa using hb.2
     have hnz:len*i.size ≠ 0->v.cells.size ≠ 0:=by
      intro h0 h2;rw [hs] at h2;rw [h2] at h0;simp at h0
     obtain ⟨hzr,hz1⟩:=zeros_reps (K:=K) (v:=v) (len*i.size) hnz;obtain ⟨us,hus,hrus,h1us⟩:=Qt7 (K:=K) _ ps qs _ _ cs hl hpq hzr (hz1 h1) hf;have hcs:cs.length=len*i.size:=by rw [fillA_len _ _ _ _ hf];simp [Q4d]
     have hlen:us.length=len*i.size:=by rw [hrus.1,hcs]
     have hl0:len ≠ 0:=by intro h;rw [h] at hpos;simp at hpos
     have bnd:∀ i',i'<len->i'*i.size+i.size<=len*i.size:=by
      intro i' hi';have:=yHa i.size (Nat.succ_le_of_lt hi');rw [Nat.succ_mul] at this;exact this
     refine ⟨.slice (some ⟨w.heap.size,0,none⟩) len len,w.alloc (.cells us.toArray e),K.newObj w.heap.size len,?_,Q92 K _ _,hm.addRow e i.size _ _ len hl0 (by simp) (by simpa using hlen) (fun y hy=>?_) (fun u hu=>h1us u (by simpa using hu)) (fun i' j e' x he' hx=>?_),?_⟩
     ·simp only [yJa] at hus;have n2:¬ (16777216<len*i.size):=by omega
      have hn:¬ len*i.size=0:=by omega
      simp [Instr.buildSlice,run_underlying ht,sizeOf,typeInfo,hi,n2,hn,zeroValue,hz0,hus,newRow]
     ·simp only [ypb,y5a] at hy;obtain ⟨i',hi',rfl⟩:=hy;have:=bnd i' hi';simp only [yAa,yEa];omega
     ·have hi':i'<len:=by have:=(List.getElem?_eq_some_iff.1 he').1;simpa using this
      rw [yra,ygb hi',yBa,yaa] at he';subst he';have hj:j<i.size:=by have:=(List.getElem?_eq_some_iff.1 hx).1;simp only [yAa] at this;omega
      rw [List.getElem?_take_of_lt hj,yMa] at hx;have hlt:i'*i.size+j<us.length:=by have:=bnd i' hi';omega
      refine ⟨us[i'*i.size+j],by simp [hlt],hrus.2 _ x _ hx (yba hlt)⟩
     ·refine .own _ _ _ _ _ (by simp [Ctx.newObj,hm.len]) (yna _) _ len (yia _) ?_ (fun _=>?_)
      ·simp [Ctx.newObj,hm.len]
      ·simp [Ctx.newObj,hm.len]
    ·cases h
   ·cases h
  ·cases h
 ·cases h
theorem Qcd (hm:MemSat K objs w) {t:TypeId} {l c r:AVal} {lv cv:Value} {b:Bool} {objs':Objs} (hl:Rep K l lv) (hc:Rep K c cv) (h:QU3 P t l c objs = .eff b r objs') (hb:b=true) :
  ∃ u w' K',(Instr.makeSlice t lv cv).run P w = .ok u w'∧K.le K'∧MemSat K' objs' w'∧Rep K' r u:=by
 subst hb;unfold QU3 at h;split at h
 ·rename_i e n m he hn hm';have ht:=Qp8 he;obtain ⟨kl,rfl⟩:=QC5 hl hn;obtain ⟨kc,rfl⟩:=QC5 hc hm';split at h
  ·rename_i z hz;obtain ⟨i,v,hi,hz0,rfl,h1,hs⟩:=Qz4 hz;have hsize:sizeA P e=i.size:=by simp [sizeA,hi]
   have hbytes:Qg9 P e=i.bytes:=by simp [Qg9,hi]
   simp only [hsize,hbytes,ORes.eff.injEq,yua] at h;obtain ⟨⟨h0,hnm,hby,hbig⟩,rfl,rfl⟩:=h;have hrun:=run_make (P:=P) w t e i v ht hi hz0 kl kc n m h0 hnm (by rw [Int.mul_comm];omega) oA
   by_cases hm0:m.toNat=0
   ·have hn0:n.toNat=0:=by omega
    rw [hm0,hn0] at hrun;have hmade:madeCells v.cells (0*i.size)=([]:List Value).toArray:=by simp [madeCells,Array.range_zero']
    rw [hmade] at hrun;have hm1:=hm.newBlock [] e;refine ⟨_,_,(K.frozenBlock w.heap.size []).newObj 0 0,hrun,(Qv6 hm []).trans (Q92 _ 0 0),?_,?_⟩
    ·rw [hn0];exact hm1.addNone e i.size
    ·rw [hn0];refine .own _ _ _ _ _ ?_ (yna _) _ 0 (yia _) ?_ (fun h=>absurd rfl h)
     ·simp [Ctx.newObj,Ctx.frozenBlock,hm.len]
     ·simp [Ctx.newObj,Ctx.frozenBlock,hm.len]
   ·refine ⟨_,_,K.newObj w.heap.size m.toNat,hrun,Q92 K _ _,hm.addRow e i.size _ _ m.toNat hm0 (by simp;omega) (by simp [size_madeCells]) (fun y hy=>?_) (fun u hu=>?_) (fun i' j e' x he' hx=>?_),?_⟩
    ·rw [(List.mem_replicate.1 hy).2];simp [hs]
    ·simp only [madeCells,ykb,ywb,ypb,y5a] at hu;obtain ⟨q,hq,rfl⟩:=hu;rcases ySa v.cells.size with hz|hz
     ·rw [← hs,hz] at hq;simp at hq
     ·rw [getElem!_pos v.cells _ (yTb _ hz)];exact h1 _ (by simp)
    ·have hi':i'<n.toNat:=by have:=(List.getElem?_eq_some_iff.1 he').1;simpa using this
     rw [List.getElem?_replicate,if_pos hi',yaa] at he';subst he';have hj:j<i.size:=by have:=(List.getElem?_eq_some_iff.1 hx).1;simp at this;omega
     have hik:(i'+1)*i.size<=m.toNat*i.size:=yHa _ oA;rw [y4a,yLb] at hik;rw [yra] at hx;cases hv:v.cells.toList[j]? with
     | none=>simp [hv] at hx
     | some y =>
      simp only [hv,yBa,yaa] at hx;subst hx;refine ⟨y,?_,.lit y⟩;simp only [madeCells,Array.getElem?_map];rw [Array.getElem?_range];rw [if_pos oA];simp only [yBa,yaa];have e2 : (i' * i.size + j) % v.cells.size = j := by rw [hs, yQb, Nat.mul_add_mod, Nat.mod_eq_of_lt hj]
      rw [e2,getElem!_pos v.cells j oA];rw [yVa,ysa oA,yaa] at hv;exact hv
    ·refine .own _ _ _ _ _ (by simp [Ctx.newObj,hm.len]) (yna _) _ m.toNat oA ?_ (fun _=>?_)
     ·simp [Ctx.newObj,hm.len]
     ·simp [Ctx.newObj,hm.len]
  ·cases h
 ·cases h
theorem Q8b:∀ (d:Nat) (t:TypeId) (x y:AVal) (u v:Value) (b:Bool),eqT P d t x y=some b->QU9 P d t=true->Rep K x u->Rep K y v -> ∀ D,d<=D->(Op.equalIn D t u v).run P w = .ok b w
 | 0,t,x,y,u,v,b,h,_,_,_,_,_=>by simp [eqT] at h
 | d+1,t,x,y,u,v,b,h,hfree,hu,hv,D,hD=>by
  obtain ⟨D,rfl⟩:∃ D',D=D'+1:=⟨D - 1,by omega⟩;unfold eqT at h;split at h
  ·rename_i hun;simp only [yaa] at h;have e1:=QZ0 hu;have e2:=QZ0 hv;subst e1 e2 h;exact run_equalIn_bool' w D t _ _ hun
  ·rename_i k' k a k2 b' hun;cases hk:decide (k=k2) with
   | false=>rw [hk] at h;cases h
   | true =>
    rw [hk] at h;simp only [cond_true,yaa] at h;have hk:=yca hk;have e1:=QZ0 hu;have e2:=QZ0 hv;subst e1 e2 h hk;exact run_equalIn_int w D t _ _ _ _ hun
  ·rename_i hun;simp only [yaa] at h;have e1:=QZ0 hu;have e2:=QZ0 hv;subst e1 e2 h;simp [Op.equalIn,run_underlying hun]
  ·rename_i fs xs ys hun;unfold QU9 at hfree;rw [hun] at hfree;simp only [yha,ydb,y7a] at hfree;obtain ⟨hst,hall⟩:=hfree
   ·skip
    obtain ⟨us,rfl,hru,h1u⟩:=QA7 hu;obtain ⟨vs,rfl,hrv,h1v⟩:=QA7 hv;have hfo:P.fieldsOf t=fs:=by simp [Program.fieldsOf,hun]
    rw [run_equalIn_struct w D t us.toArray vs.toArray (by rw [hfo];exact hun) hst,hfo];have key:∀ (l:List Field) (b:Bool),(∀ f ∈ l,QU9 P d f.type=true)->eqFs P (eqT P d) xs ys l=some b->(Op.eqFields D us.toArray vs.toArray l).run P w = .ok b w:=by
     intro l
     induction l with
     | nil=>intro b _ hb;simp only [eqFs,yaa] at hb;subst hb;simp [Op.eqFields]
     | cons f l ih =>
      intro b hal hb;have hf:=hal f (yIa ..);rw [eqFs] at hb;cases hnm : f.name == "_" with
      | true=>rw [hnm] at hb;cases hb
      | false =>
       rw [hnm] at hb;simp only [cond_false] at hb;have hne : f.name ≠ "_" := by simpa using hnm
       split at hb
       ·rename_i a b1 ha hb1;obtain ⟨ua,hua,hra⟩:=QLa (w:=w) ha hru h1u;obtain ⟨va,hva,hrb⟩:=QLa (w:=w) hb1 hrv h1v;split at hb
        ·rename_i p hp;simp only [yaa] at hb;subst hb;have:=Q8b d f.type a b1 ua va p hp hf hra hrb D oA;simp only [Op.eqFields,hne,ne_eq,not_false_eq_true,if_true,yqa,hua,yga,hva,this];cases p <;> simp
        ·rename_i p g gs hp;have:=Q8b d f.type a b1 ua va p hp hf hra hrb D oA;cases hq:eqFs P (eqT P d) xs ys (g :: gs) with
         | none=>rw [hq] at hb;cases hb
         | some q =>
          rw [hq] at hb;simp only [yaa] at hb;subst hb;have h2:=ih q (fun g hg=>hal g (ywa _ hg)) hq
          rw [show Op.eqFields D us.toArray vs.toArray (f :: g :: gs) = (if f.name ≠ "_" then do
            let a ← part f.type us.toArray f.offset
            let b ← part f.type vs.toArray f.offset
            let r ← Op.equalIn D f.type a b
            if (!r)=true then pure false else Op.eqFields D us.toArray vs.toArray (g :: gs)
           else Op.eqFields D us.toArray vs.toArray (g :: gs)) from rfl]
          simp only [hne,ne_eq,not_false_eq_true,if_true,yqa,hua,yga,hva,this];cases p
          ·simp
          ·simpa using h2
        ·cases hb
       ·cases hb
    exact key fs.toList b hall h
  ·cases h
def DoesV (P:Program) (s:Sem Value) (w:World) (K:Ctx) (objs:Objs) (v:AVal):Prop :=
 ∃ u w' K',s.run P w = .ok u w'∧Ctx.le K K'∧MemSat K' objs w'∧Rep K' v u
def OSoundV (P:Program) (s:Sem Value) (w:World) (K:Ctx) (objs:Objs):ORes->Prop
 | .bad=>True
 | .val v=>DoesV P s w K objs v
 | .ifb b v=>b=true->DoesV P s w K objs v
 | .eff b v objs'=>b=true->DoesV P s w K objs' v
 | .upd v objs'=>DoesV P s w K objs' v
 | .call _ _=>False
theorem DoesV.same {s:Sem Value} {v:AVal} (hm:MemSat K objs w) (h:∃ u,s.run P w = .ok u w∧Rep K v u):DoesV P s w K objs v:=by
 obtain ⟨u,h,hr⟩:=h;exact ⟨u,w,K,h,.refl K,hm,hr⟩
theorem binA_sound (hm:MemSat K objs w) {op:BinOp} {t:TypeId} {ox oy:Operand} {x y:AVal} {u v:Value} (hx:Rep K x u) (hy:Rep K y v) :
  OSoundV P (do eqGuard op t ox oy u v;binOp op t u v) w K objs (binA P op t ox oy x y):=by
 unfold binA;split
 ·rename_i a b;have e1:=QZ0 hx;have e2:=QZ0 hy;subst e1 e2;split
  ·unfold hardA;split
   ·rename_i k x k' y;intro hy;have hy:=yca hy;exact .same hm ⟨_,by simp only [eqGuard,binOp,Op.shift,if_neg (Int.not_lt.2 hy)];rfl,.lit _⟩
   ·rename_i k x k' y;intro hy;have hy:=yca hy;exact .same hm ⟨_,by simp only [eqGuard,binOp,Op.shift,if_neg (Int.not_lt.2 hy)];rfl,.lit _⟩
   ·rename_i k x k' y;intro hyy;obtain ⟨rfl,hq⟩:=yca hyy;exact .same hm ⟨_,by simp only [eqGuard,binOp,Op.intDiv,if_neg hq,ne_eq,not_true_eq_false,if_false];rfl,.lit _⟩
   ·rename_i k x k' y;intro hyy;obtain ⟨rfl,hq⟩:=yca hyy;exact .same hm ⟨_,by simp only [eqGuard,binOp,Op.intDiv,if_neg hq,ne_eq,not_true_eq_false,if_false];rfl,.lit _⟩
   ·rename_i x y _;intro hy;have hy:=yca hy;have hm':¬ (((x.size+y.size:Nat):Int) > IntKind.i64.max):=by
     have:IntKind.i64.max=9223372036854775807:=by decide
     omega
    exact .same hm ⟨_,by simp only [eqGuard,binOp,Op.stringOp,if_neg hm'];rfl,.lit _⟩
   ·trivial
  ·split
   ·rename_i z hz;exact .same hm ⟨_,Qd7 _ _ hz w,.lit _⟩
   ·trivial
 ·rename_i xs ys
  ·have hx':=hx;have hy':=hy;obtain ⟨us,rfl,hru,h1u⟩:=QA7 hx;obtain ⟨vs,rfl,hrv,h1v⟩:=QA7 hy;have hguard:=fun op hg=>run_eqGuard_agg (P:=P) w op t ox oy us.toArray vs.toArray hg
   split
   ·rename_i b hb;intro hok;simp only [eqOK,yha,ydb] at hok;have hguard:=fun op=>hguard op hok.1
    have:=Q8b (w:=w) 8 t _ _ _ _ b hb hok.2 hx' hy' 10000 oA;exact .same hm ⟨.bool b,by simp only [yqa,hguard,yga,run_eql_struct,this],.lit _⟩
   ·rename_i b hb;intro hok;simp only [eqOK,yha,ydb] at hok;have hguard:=fun op=>hguard op hok.1
    have:=Q8b (w:=w) 8 t _ _ _ _ b hb hok.2 hx' hy' 10000 oA;exact .same hm ⟨.bool !b,by simp only [yqa,hguard,yga,run_neq_struct,this],.lit _⟩
   ·trivial
 ·have e2:=QZ0 hy;subst e2;cases hx with
  | map o ho =>
   split
   ·rename_i k e hu;exact .same hm ⟨.bool false,by simp [eqGuard,binOp,run_equal_map_nil _ t k e (some _) hu],.lit _⟩
   ·rename_i k e hu;exact .same hm ⟨.bool true,by simp [eqGuard,binOp,run_equal_map_nil _ t k e (some _) hu],.lit _⟩
   ·trivial
 ·trivial
theorem Qxb {look:Operand->AVal} {ρ:Operand->Value} (hl:∀ x,Rep K (look x) (ρ x)) (xs:List Operand):Reps K (xs.map look) (xs.map ρ):=by
 refine ⟨by simp,fun i x v hx hv=>?_⟩;rw [yra] at hx hv;cases h:xs[i]? with
 | none=>simp [h] at hx
 | some y =>
  simp only [h,yBa,yaa] at hx hv;subst hx hv;exact hl y
theorem repO_map {look:Operand->AVal} {ρ:Operand->Value} (hl:∀ x,Rep K (look x) (ρ x)) (o:Option Operand):RepO K (o.map look) (o.map ρ):=by
 cases o with
 | none=>trivial
 | some x=>exact hl x
def OSound (P:Program) (s:Sem Next) (w:World) (K:Ctx) (objs:Objs):ORes->Prop
 | .bad=>True
 | .val v=>Does P s w K objs v
 | .ifb b v=>b=true->Does P s w K objs v
 | .eff b v objs'=>b=true->Does P s w K objs' v
 | .upd v objs'=>Does P s w K objs' v
 | .call f args=>∃ vs:List Value,s.run P w = .ok (.enter f vs.toArray) w∧Reps K args vs
theorem OSound.ofV {s:Sem Value} {r:ORes} (h:OSoundV P s w K objs r):OSound P (do pure (.value (← s))) w K objs r:=by
 have key:∀ (objs':Objs) (v:AVal),DoesV P s w K objs' v->Does P (do pure (.value (← s))) w K objs' v:=by
  rintro objs' v ⟨u,w',K',hrun,hle,hm,hr⟩;exact ⟨u,w',K',.inl (by simp [hrun]),hle,hm,hr⟩
 cases r with
 | bad=>trivial
 | val v=>exact key _ _ h
 | ifb b v=>exact fun hb=>key _ _ (h hb)
 | eff b v objs'=>exact fun hb=>key _ _ (h hb)
 | upd v objs'=>exact key _ _ h
 | call f args=>exact h.elim
theorem Does.pure (hm:MemSat K objs w) {v:AVal} {u:Value} (hr:Rep K v u):Does P (Pure.pure (.value u)) w K objs v:=.same hm (by simp) hr
theorem QCe (hm:MemSat K objs w) (s:Sem Value):OSoundV P s w K objs (pureA P s):=by
 unfold pureA;split
 ·rename_i v hv;exact .same hm ⟨v,Qd7 s v hv w,.lit v⟩
 ·trivial
theorem QCc (hm:MemSat K objs w) {look:Operand->AVal} {ρ:Operand->Value} (hl:∀ x,Rep K (look x) (ρ x)) (o:Oper) :
  OSound P (execOp ρ o) w K objs (Qf2 P look objs o):=by
 obtain ⟨dst,op,type,pos,after,guard⟩:=o
 have pairs:∀ ps:Array (Nat × Operand),(ps.map fun (i,x)=>(i,ρ x)).toList.length=(ps.toList.map fun p=>(p.1,look p.2)).length ∧
   ∀ (i:Nat) (p:Nat × AVal) (q:Nat × Value),(ps.toList.map fun p=>(p.1,look p.2))[i]? = some p->(ps.map fun (i,x)=>(i,ρ x)).toList[i]? = some q->q.1=p.1∧Rep K p.2 q.2:=by
  intro ps;refine ⟨by simp,fun i p q hp hq=>?_⟩;simp only [ykb,yra,yVa] at hp hq;cases h:ps[i]? with
  | none=>simp [h] at hp
  | some y =>
   simp only [h,yBa,yaa] at hp hq;subst hp hq;exact ⟨rfl,hl y.2⟩
 cases op <;> simp only [Qf2] <;> (try trivial)
 case move x=>exact .pure hm (hl x)
 case assign x=>exact .pure hm (hl x)
 case alloc t =>
  split
  ·rename_i z hz;obtain ⟨u,w',K',h1,h2,h3,h4⟩:=alloc_sound (P:=P) hm hz;exact ⟨u,w',K',.inl (by simp [execOp,h1]),h2,h3,h4⟩
  ·trivial
 case box t x =>
  split
  ·rename_i cs hc;obtain ⟨u,w',K',h1,h2,h3,h4⟩:=box_sound (P:=P) (t:=t) hm (hl x) hc;exact ⟨u,w',K',.inl (by simp [execOp,h1]),h2,h3,h4⟩
  ·trivial
 case build t ps =>
  cases hk:Qi9 P t with
  | false=>trivial
  | true =>
   simp only [yHb,cond_false];cases hb:Qda P t (ps.toList.map fun p=>(p.1,look p.2)) with
   | val a =>
    obtain ⟨u,hu,hr⟩:=buildA_sound (w:=w) (K:=K) (pairs ps).1 (pairs ps).2 hb
     (fun fs hf=>by simp only [Qi9,hf,y7a] at hk;exact hk) (fun n e he=>by simp only [Qi9,he] at hk;exact hk)
    simp only [yJa] at hu;exact .same hm (by simp only [execOp,yqa,hu,yga,yta]) hr
   | bad=>trivial
   | ifb b v=>unfold Qda at hb;split at hb <;> (try split at hb) <;> cases hb
   | eff b v o=>unfold Qda at hb;split at hb <;> (try split at hb) <;> cases hb
   | call f a=>unfold Qda at hb;split at hb <;> (try split at hb) <;> cases hb
   | upd v o=>unfold Qda at hb;split at hb <;> (try split at hb) <;> cases hb
 case buildSlice t n ps =>
  cases hb:QA3 P t n (ps.toList.map fun p=>(p.1,look p.2)) with
  | val a =>
   obtain ⟨u,w',K',h1,h2,h3,h4⟩:=QTb (P:=P) hm (pairs ps).1 (pairs ps).2 hb;simp only [yJa] at h1;exact ⟨u,w',K',.inl (by simp only [execOp,yqa,h1,yga,yta]),h2,h3,h4⟩
  | bad=>trivial
  | ifb b v=>exact absurd hb (by intro hh;unfold QA3 at hh;(try simp only [cond_eq_ite] at hh);(repeat' split at hh) <;> cases hh)
  | eff b v o=>exact absurd hb (by intro hh;unfold QA3 at hh;(try simp only [cond_eq_ite] at hh);(repeat' split at hh) <;> cases hh)
  | call f a=>exact absurd hb (by intro hh;unfold QA3 at hh;(try simp only [cond_eq_ite] at hh);(repeat' split at hh) <;> cases hh)
  | upd v o=>exact absurd hb (by intro hh;unfold QA3 at hh;(try simp only [cond_eq_ite] at hh);(repeat' split at hh) <;> cases hh)
 case load t a =>
  cases h:loadA P t (look a) objs with
  | val v =>
   obtain ⟨u,hu,hr⟩:=Qqe hm (hl a) h;exact .same hm (by simp only [execOp,yqa,hu,yga,yta]) hr
  | bad=>trivial
  | ifb b v=>exact absurd h (by intro hh;unfold loadA at hh;(try simp only [cond_eq_ite] at hh);(repeat' split at hh) <;> cases hh)
  | eff b v o=>exact absurd h (by intro hh;unfold loadA at hh;(try simp only [cond_eq_ite] at hh);(repeat' split at hh) <;> cases hh)
  | call f b=>exact absurd h (by intro hh;unfold loadA at hh;(try simp only [cond_eq_ite] at hh);(repeat' split at hh) <;> cases hh)
  | upd v o=>exact absurd h (by intro hh;unfold loadA at hh;(try simp only [cond_eq_ite] at hh);(repeat' split at hh) <;> cases hh)
 case store t a x =>
  cases hk:(P.info? t).isSome with
  | false=>trivial
  | true =>
   simp only [yHb,cond_false];cases h:Qm9 P t (look a) (look x) objs with
   | upd v o =>
    obtain ⟨w',hw,hm',rfl⟩:=storeA_sound hm (hl a) (hl x) hk h;exact ⟨undef,w',K,.inr ⟨by simp only [execOp,yqa,hw,yga,yta],rfl⟩,.refl K,hm',.lit _⟩
   | bad=>trivial
   | val v=>exact absurd h (by intro hh;unfold Qm9 at hh;(try simp only [cond_eq_ite] at hh);(repeat' split at hh) <;> cases hh)
   | ifb b v=>exact absurd h (by intro hh;unfold Qm9 at hh;(try simp only [cond_eq_ite] at hh);(repeat' split at hh) <;> cases hh)
   | call f b=>exact absurd h (by intro hh;unfold Qm9 at hh;(try simp only [cond_eq_ite] at hh);(repeat' split at hh) <;> cases hh)
   | eff b v o=>exact absurd h (by intro hh;unfold Qm9 at hh;(try simp only [cond_eq_ite] at hh);(repeat' split at hh) <;> cases hh)
 case nilCheck x =>
  split
  ·rename_i o v k i j hx;have hr:=hl x;rw [hx] at hr;obtain ⟨e,_,_⟩:=Qh5 hr;exact .same hm (u:=ρ x) (by simp [execOp,e]) hr
  ·rename_i cs hx;have hr:=hl x;rw [hx] at hr;obtain ⟨b,off,u,e,_,_⟩:=rep_ref hr;exact .same hm (u:=ρ x) (by simp [execOp,e]) hr
  ·rename_i f a b hx;split
   ·rename_i g;have hr:=hl x;rw [hx] at hr;obtain ⟨vs,us,e,_,_⟩:=rep_fn hr;exact .same hm (u:=ρ x) (by simp [execOp,e]) hr
   ·trivial
  ·trivial
 case binOp op t x y yt=>exact OSound.ofV (binA_sound hm (hl x) (hl y))
 case unOp op t x =>
  split
  ·rename_i v hv;have e:=QZ0 (hv ▸ hl x);show OSound P (do pure (.value (← Op.unary op (ρ x)))) w K objs _;rw [e];exact OSound.ofV (QCe hm _)
  ·trivial
 case convert src dst x =>
  split
  ·rename_i v hv;have e:=QZ0 (hv ▸ hl x);show OSound P (do pure (.value (← convert src dst (ρ x)))) w K objs _;rw [e];exact OSound.ofV (QCe hm _)
  ·trivial
 case makeFunc f a b =>
  refine .same hm (u:=.func f (a.toList.map ρ).toArray (b.toList.map ρ).toArray) ?_ (.fn f _ _ _ _ (Qxb hl _).1 (Qxb hl _).1 (Qxb hl _).2 (Qxb hl _).2);simp only [execOp,Instr.makeFunc,yqa,yta,yga,← ykb,yJa]
 case makeSlice t l c =>
  cases h:QU3 P t (look l) (look c) objs with
  | eff b v o =>
   intro hb;obtain ⟨u,w',K',h1,h2,h3,h4⟩:=Qcd (P:=P) hm (hl l) (hl c) h hb;exact ⟨u,w',K',.inl (by simp only [execOp,yqa,h1,yga,yta]),h2,h3,h4⟩
  | bad=>trivial
  | val v=>exact absurd h (by intro hh;unfold QU3 at hh;(try simp only [cond_eq_ite] at hh);(repeat' split at hh) <;> cases hh)
  | ifb b v=>exact absurd h (by intro hh;unfold QU3 at hh;(try simp only [cond_eq_ite] at hh);(repeat' split at hh) <;> cases hh)
  | call f b=>exact absurd h (by intro hh;unfold QU3 at hh;(try simp only [cond_eq_ite] at hh);(repeat' split at hh) <;> cases hh)
  | upd v o=>exact absurd h (by intro hh;unfold QU3 at hh;(try simp only [cond_eq_ite] at hh);(repeat' split at hh) <;> cases hh)
 case slice t x lo hi mx =>
  cases hk:(!Qi9 P t||(mx.isSome && !hi.isSome)) with
  | true=>trivial
  | false =>
   simp only [cond_false];simp only [yRa,y2a,yFb] at hk;cases h:Qra P t (look x) (lo.map look) (hi.map look) (mx.map look) with
   | ifb b v =>
    intro hb;obtain ⟨u,hu,hr⟩:=sliceA_sound (w:=w) (hl x) (repO_map hl lo) (repO_map hl hi) (repO_map hl mx) h hb (fun hs=>by simpa using hk.2 (by simpa using hs)) (fun e he=>by simp only [Qi9,he] at hk;exact hk.1) (fun n e he=>by simp only [Qi9,he] at hk;exact hk.1);exact .same hm (by simp only [execOp,yqa,hu,yga,yta]) hr
   | bad=>trivial
   | val v=>exact absurd h (by intro hh;unfold Qra at hh;(try simp only [cond_eq_ite] at hh);(repeat' split at hh) <;> cases hh)
   | eff b v o=>exact absurd h (by intro hh;unfold Qra at hh;(try simp only [cond_eq_ite] at hh);(repeat' split at hh) <;> cases hh)
   | call f b=>exact absurd h (by intro hh;unfold Qra at hh;(try simp only [cond_eq_ite] at hh);(repeat' split at hh) <;> cases hh)
   | upd v o=>exact absurd h (by intro hh;unfold Qra at hh;(try simp only [cond_eq_ite] at hh);(repeat' split at hh) <;> cases hh)
 case fieldAddr t x f =>
  cases h:Qg4 P t (look x) f with
  | val v =>
   obtain ⟨u,hu,hr⟩:=Q6d (w:=w) (hl x) h;exact .same hm (by simp only [execOp,yqa,hu,yga,yta]) hr
  | bad=>trivial
  | ifb b v=>exact absurd h (by intro hh;unfold Qg4 at hh;(try simp only [cond_eq_ite] at hh);(repeat' split at hh) <;> cases hh)
  | eff b v o=>exact absurd h (by intro hh;unfold Qg4 at hh;(try simp only [cond_eq_ite] at hh);(repeat' split at hh) <;> cases hh)
  | call f b=>exact absurd h (by intro hh;unfold Qg4 at hh;(try simp only [cond_eq_ite] at hh);(repeat' split at hh) <;> cases hh)
  | upd v o=>exact absurd h (by intro hh;unfold Qg4 at hh;(try simp only [cond_eq_ite] at hh);(repeat' split at hh) <;> cases hh)
 case field t x f =>
  split
  ·rename_i fd cs hf hx;split
   ·rename_i v hv;have hr:=hl x;rw [hx] at hr;obtain ⟨u,hu,hru⟩:=field_sound (w:=w) hr hf hv;exact .same hm (by simp only [execOp,yqa,hu,yga,yta]) hru
   ·trivial
  ·trivial
 case indexAddr t x i =>
  cases hk:Qi9 P t with
  | false=>trivial
  | true =>
   simp only [yHb,cond_false];cases h:Qi4 P t (look x) (look i) with
   | ifb b v =>
    intro hb;obtain ⟨u,hu,hr⟩:=Qad (w:=w) (hl x) (hl i) h hb (fun e he=>by simp only [Qi9,he] at hk;exact hk) (fun n e he=>by simp only [Qi9,he] at hk;exact hk);exact .same hm (by simp only [execOp,yqa,hu,yga,yta]) hr
   | bad=>trivial
   | val v=>exact absurd h (by intro hh;unfold Qi4 at hh;(try simp only [cond_eq_ite] at hh);(repeat' split at hh) <;> cases hh)
   | eff b v o=>exact absurd h (by intro hh;unfold Qi4 at hh;(try simp only [cond_eq_ite] at hh);(repeat' split at hh) <;> cases hh)
   | call f b=>exact absurd h (by intro hh;unfold Qi4 at hh;(try simp only [cond_eq_ite] at hh);(repeat' split at hh) <;> cases hh)
   | upd v o=>exact absurd h (by intro hh;unfold Qi4 at hh;(try simp only [cond_eq_ite] at hh);(repeat' split at hh) <;> cases hh)
 case index t x i =>
  unfold indexA;split
  ·rename_i s n hu hx hi;intro hb;have hb:=yca hb;have hr:=hl x;rw [hx] at hr;have ex:=QZ0 hr;obtain ⟨k,ei⟩:=QC5 (hl i) hi;have hlt:n.toNat<s.size:=by omega
   have hget:s[n.toNat]? = some (s.data.toList.getD n.toNat 0):=by
    have h1:n.toNat<s.data.size:=hlt;have h2:n.toNat<s.data.toList.length:=by simpa using h1
    rw [getElem?_pos s n.toNat hlt];simp only [List.getD,yba h2,yFa]
    rfl
   exact .same hm (u:=.int .u8 ((s.data.toList.getD n.toNat 0).toNat:Int)) (by simp [execOp,Instr.index,ex,ei,asIntOf,run_underlying hu,hb.1,hget]) (.lit _)
  ·trivial
 case extract x i =>
  split
  ·rename_i cs hx;split
   ·rename_i v hv;have hr:=hl x;rw [hx] at hr;obtain ⟨vs,e,hr⟩:=QEe hr;obtain ⟨u,hu,hru⟩:=hr.get hv;exact .same hm (u:=u) (by simp [execOp,Instr.extract,e,hu]) hru
   ·trivial
  ·trivial
 case call c =>
  obtain ⟨callee,args,argTypes⟩:=c;simp only;split
  ·split
   ·rename_i x t ha ht;have ea:args = #[x]:=by rw [← yJa (xs:=args),ha]
    have et:argTypes = #[t]:=by rw [← yJa (xs:=argTypes),ht]
    subst ea et;cases h:lenA P t (look x) with
    | val v =>
     obtain ⟨u,hu,hr⟩:=lenA_sound (P:=P) (w:=w) (ty:=type) (hl x) h;exact .same hm (by simp [execOp,resolve,invoke,builtin,hu]) hr
    | bad=>trivial
    | ifb b v=>exact absurd h (by intro hh;unfold lenA at hh;(try simp only [cond_eq_ite] at hh);(repeat' split at hh) <;> cases hh)
    | eff b v o=>exact absurd h (by intro hh;unfold lenA at hh;(try simp only [cond_eq_ite] at hh);(repeat' split at hh) <;> cases hh)
    | call f b=>exact absurd h (by intro hh;unfold lenA at hh;(try simp only [cond_eq_ite] at hh);(repeat' split at hh) <;> cases hh)
    | upd v o=>exact absurd h (by intro hh;unfold lenA at hh;(try simp only [cond_eq_ite] at hh);(repeat' split at hh) <;> cases hh)
   ·trivial
  ·split
   ·rename_i x y t u ha ht;have ea:args = #[x,y]:=by rw [← yJa (xs:=args),ha]
    have et:argTypes = #[t,u]:=by rw [← yJa (xs:=argTypes),ht]
    subst ea et;cases htu:Nat.beq t u with
    | false=>trivial
    | true =>
     have htu:=yla htu;subst htu;simp only [cond_true];cases h:Qo7 P t (look x) (look y) objs with
     | eff b v o =>
      intro hb;obtain ⟨u,w',K',h1,h2,h3,h4⟩:=appendA_sound (P:=P) (ty:=type) hm (hl x) (hl y) h hb;exact ⟨u,w',K',.inl (by simp [execOp,resolve,invoke,builtin,h1]),h2,h3,h4⟩
     | bad=>trivial
     | val v=>exact absurd h (by intro hh;unfold Qo7 at hh;(try simp only [cond_eq_ite] at hh);(repeat' split at hh) <;> cases hh)
     | ifb b v=>exact absurd h (by intro hh;unfold Qo7 at hh;(try simp only [cond_eq_ite] at hh);(repeat' split at hh) <;> cases hh)
     | call f b=>exact absurd h (by intro hh;unfold Qo7 at hh;(try simp only [cond_eq_ite] at hh);(repeat' split at hh) <;> cases hh)
     | upd v o=>exact absurd h (by intro hh;unfold Qo7 at hh;(try simp only [cond_eq_ite] at hh);(repeat' split at hh) <;> cases hh)
   ·trivial
  ·unfold QI9;split
   ·rename_i k a k' b hab;cases ha:args.toList with
    | nil=>simp [ha] at hab
    | cons x l =>
     cases l with
     | nil=>simp [ha] at hab
     | cons y l =>
      cases l with
      | cons z l=>simp [ha] at hab
      | nil =>
       have ea:args = #[x,y]:=by rw [← yJa (xs:=args),ha]
       subst ea;simp only [yob,y4b,List.cons.injEq,and_true] at hab;have e1:=QZ0 (hab.1 ▸ hl x);have e2:=QZ0 (hab.2 ▸ hl y);have e3:(if b<a then b else a)=min a b:=by omega
       exact .same hm (u:=.int k (min a b)) (by simp [execOp,resolve,invoke,builtin,e1,e2,run_min_int2,e3]) (.lit _)
   ·trivial
  ·unfold QI9;split
   ·rename_i k a k' b hab;cases ha:args.toList with
    | nil=>simp [ha] at hab
    | cons x l =>
     cases l with
     | nil=>simp [ha] at hab
     | cons y l =>
      cases l with
      | cons z l=>simp [ha] at hab
      | nil =>
       have ea:args = #[x,y]:=by rw [← yJa (xs:=args),ha]
       subst ea;simp only [yob,y4b,List.cons.injEq,and_true] at hab;have e1:=QZ0 (hab.1 ▸ hl x);have e2:=QZ0 (hab.2 ▸ hl y);have e3:(if a<b then b else a)=max a b:=by omega
       exact .same hm (u:=.int k (max a b)) (by simp [execOp,resolve,invoke,builtin,e1,e2,run_max_int2,e3]) (.lit _)
   ·trivial
  ·rename_i f;unfold callA;split
   ·rename_i g first captured hf;split
    ·rename_i fn hfn;cases hb : (fn.body.isSome && !(fn.name == "runtime.NumGoroutine")) with
     | false=>trivial
     | true =>
      simp only [yha,ydb] at hb;obtain ⟨hbody,hname⟩:=hb;have hr:=hl f;rw [hf] at hr;obtain ⟨vs,us,e,h1,h2⟩:=rep_fn hr;refine ⟨vs++args.toList.map ρ++us,?_,(h1.append (Qxb hl _)).append h2⟩;have hnone:fn.body.isNone=false:=by cases hbb:fn.body <;> simp [hbb] at hbody ⊢
      simp only [execOp,resolve,yqa,e,Deferred.ofValue,yta,yga,invoke,callFunc,run_program,hfn,hname,y1a,if_false,hnone]
      congr 2
      apply Array.ext';simp
    ·trivial
   ·trivial
  ·trivial
end
end Go.Fw
