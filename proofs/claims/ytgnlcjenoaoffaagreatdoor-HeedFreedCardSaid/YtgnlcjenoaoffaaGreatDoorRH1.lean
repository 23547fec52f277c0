/-
  What the last text of this claim leans on: an evaluator over the code, contracts of functions, plain laws. Conditions stand in each statement.
-/
import Derived.Calls
import Derived.Below
import Derived.Laws.World
import Derived.Laws.Sem
import Derived.Laws.Cells
import Derived.Laws.Entries
import Derived.Laws.NewBlocks
import Derived.Laws.CopyRow
import Derived.Laws.CopyOwn
import Derived.Laws.MakeOwn
import Derived.Laws.AppendOwn
import Derived.Laws.StructEq
import Derived.Laws.Tables
import Derived.Laws.Slices
namespace Go.Fw
set_option linter.unusedSimpArgs false
set_option linter.unusedVariables false
theorem oA {p:Prop} (h:p:=by omega):p:=h
abbrev yaa:=@Option.some.injEq
abbrev yba:=@List.getElem?_eq_getElem
abbrev yca:=@of_decide_eq_true
abbrev yda:=@Nat.zero_add
abbrev yea:=@Nat.le_trans
abbrev yfa:=@Nat.le_of_ble_eq_true
abbrev yga:=@Result.andThen_ok
abbrev yha:=@Bool.and_eq_true
abbrev yia:=@Nat.le_refl
abbrev yja:=@of_decide_eq_false
abbrev yka:=@Bool.cond_eq_ite
abbrev yla:=@Nat.eq_of_beq_eq_true
abbrev yma:=@List.length_append
abbrev yna:=@Nat.zero_le
abbrev yoa:=@decide_eq_true
abbrev ypa:=@List.getElem?_append_left
abbrev yqa:=@Sem.run_bind
abbrev yra:=@List.getElem?_map
abbrev ysa:=@Array.getElem?_eq_getElem
abbrev yta:=@Sem.run_pure
abbrev yua:=@decide_eq_true_eq
abbrev yva:=@List.getElem?_append_right
abbrev ywa:=@List.mem_cons_of_mem
abbrev yxa:=@List.length_map
abbrev yya:=@Array.getD_eq_getD_getElem?
abbrev yza:=@List.mem_of_getElem?
abbrev yAa:=@List.length_take
abbrev yBa:=@Option.map_some
abbrev yCa:=@List.eq_nil_of_length_eq_zero
abbrev yDa:=@Prod.mk.injEq
abbrev yEa:=@List.length_drop
abbrev yFa:=@Option.getD_some
abbrev yGa:=@Nat.lt_or_ge
abbrev yHa:=@Nat.mul_le_mul_right
abbrev yIa:=@List.mem_cons_self
abbrev yJa:=@Array.toArray_toList
abbrev yKa:=@List.getElem?_take
abbrev yLa:=@List.length_cons
abbrev yMa:=@List.getElem?_drop
abbrev yNa:=@List.getD_eq_getElem?_getD
abbrev yOa:=@List.length_range
abbrev yPa:=@Array.getElem?_setIfInBounds_ne
abbrev yQa:=@Bool.or_eq_true
abbrev yRa:=@Bool.or_eq_false_iff
abbrev ySa:=@Nat.eq_zero_or_pos
abbrev yTa:=@Nat.lt_succ_self
abbrev yUa:=@Nat.lt_of_lt_of_le
abbrev yVa:=@Array.getElem?_toList
abbrev yWa:=@List.length_set
abbrev yXa:=@Int.toNat_natCast
abbrev yYa:=@List.getElem?_eq_none
abbrev yZa:=@Array.getElem?_eq_none
abbrev y0a:=@List.length_nil
abbrev y1a:=@Bool.false_eq_true
abbrev y2a:=@Bool.not_eq_false'
abbrev y3a:=@decide_eq_false_iff_not
abbrev y4a:=@Nat.add_mul
abbrev y5a:=@List.mem_range
abbrev y6a:=@List.mem_or_eq_of_mem_set
abbrev y7a:=@List.all_eq_true
abbrev y8a:=@List.not_mem_nil
abbrev y9a:=@List.getElem?_toArray
abbrev yab:=@List.getElem?_cons_zero
abbrev ybb:=@Array.length_toList
abbrev ycb:=@List.getElem_mem
abbrev ydb:=@Bool.not_eq_true'
abbrev yeb:=@List.eq_nil_iff_forall_not_mem
abbrev yfb:=@Nat.add_assoc
abbrev ygb:=@List.getElem?_range
abbrev yhb:=@Nat.add_zero
abbrev yib:=@List.mem_of_mem_drop
abbrev yjb:=@List.mem_of_mem_take
abbrev ykb:=@Array.toList_map
abbrev ylb:=@Option.bind_some
abbrev ymb:=@List.size_toArray
abbrev ynb:=@List.length_singleton
abbrev yob:=@List.map_cons
abbrev ypb:=@List.mem_map
abbrev yqb:=@Option.getD_none
abbrev yrb:=@Array.toList_setIfInBounds
abbrev ysb:=@List.drop_eq_nil_of_le
abbrev ytb:=@List.append_assoc
abbrev yub:=@List.append_nil
abbrev yvb:=@Array.getElem?_setIfInBounds_self_of_lt
abbrev ywb:=@Array.toList_range
abbrev yxb:=@Int.le_refl
abbrev yyb:=@Nat.lt_trichotomy
abbrev yzb:=@List.getElem?_set
abbrev yAb:=@List.ext_getElem?
abbrev yBb:=@List.foldl_cons
abbrev yCb:=@List.getElem_of_mem
abbrev yDb:=@List.map_append
abbrev yEb:=@List.filter_cons
abbrev yFb:=@Bool.and_eq_false_imp
abbrev yGb:=@Nat.sub_zero
abbrev yHb:=@Bool.not_true
abbrev yIb:=@List.length_filter_le
abbrev yJb:=@Array.ext_getElem?
abbrev yKb:=@Array.getElem?_modify
abbrev yLb:=@Nat.one_mul
abbrev yMb:=@List.drop_eq_getElem_cons
abbrev yNb:=@List.getElem?_of_mem
abbrev yOb:=@List.mem_append
abbrev yPb:=@Nat.not_lt_zero
abbrev yQb:=@Nat.mul_comm
abbrev yRb:=@Array.eq_empty_of_size_eq_zero
abbrev ySb:=@List.map_congr_left
abbrev yTb:=@Nat.mod_lt
abbrev yUb:=@Array.getElem?_setIfInBounds
abbrev yVb:=@Array.mem_of_getElem?
abbrev yWb:=@Nat.zero_mul
abbrev yXb:=@Array.getElem?_append_left
abbrev yYb:=@List.getElem?_set_ne
abbrev yZb:=@List.range_eq_range'
abbrev y0b:=@Option.isNone_iff_eq_none
abbrev y1b:=@Bool.false_and
abbrev y2b:=@List.drop_drop
abbrev y3b:=@Array.toList_filter
abbrev y4b:=@List.map_nil
abbrev y5b:=@Bool.true_and
abbrev y6b:=@List.mem_cons
abbrev y7b:=@decide_eq_false
abbrev y8b:=@Nat.sub_self
open Go.RowKit
inductive AVal where
 | any
 | lit (v:Value)
 | agg (cs:List AVal)
 | tup (cs:List AVal)
 | seq (k n:Nat) (tight:Bool) (f:Nat->List AVal)
 | ref (cs:List AVal)
 | ptr (o ver k i j:Nat)
 | sel (o ver k i j:Nat)
 | buf (o ver k len:Nat)
 | own (o ver k off len:Nat)
 | fn (f:Fn) (first captured:List AVal)
 | ifc (t:TypeId) (a:AVal)
 | map (o:Nat)
 | yld (o:Nat)
 | sub (o ver k i j n m:Nat)
 deriving Inhabited
structure Ctx where
 M:Nat->Nat->Option Value
 ρ:Nat->Nat->Nat
 C:Nat->Nat->Nat
 n:Nat
 vs:Nat->Nat
 B:Nat->Option Obj
 w0:World
inductive Rep (K:Ctx):AVal->Value->Prop where
 | any (v:Value):Rep K .any v
 | lit (v:Value):Rep K (.lit v) v
 | agg (cs:List AVal) (vs:List Value) (hl:vs.length=cs.length) (h1:∀ v ∈ vs,v.oneCell'=true) (h:∀ (i:Nat) (x:AVal) (v:Value),cs[i]? = some x->vs[i]? = some v->Rep K x v):Rep K (.agg cs) (.agg vs.toArray)
 | tup (cs:List AVal) (vs:List Value) (hl:vs.length=cs.length) (h:∀ (i:Nat) (x:AVal) (v:Value),cs[i]? = some x->vs[i]? = some v->Rep K x v):Rep K (.tup cs) (.tuple vs.toArray)
 | nil (k:Nat) (tight:Bool) (f:Nat->List AVal):Rep K (.seq k 0 tight f) (.slice none 0 0)
 | empty (k:Nat) (tight:Bool) (f:Nat->List AVal) (a:Addr) (c:Nat) (ht:tight=true->c=0):Rep K (.seq k 0 tight f) (.slice (some a) 0 c)
 | seq (k n:Nat) (tight:Bool) (f:Nat->List AVal) (b off c:Nat) (u:Nat->Nat->Value) (hc:n<=c) (ht:tight=true->c=n)
   (hk:∀ i,i<n->(f i).length=k) (hM:∀ i j,i<n->j<k->K.M b (off+(i*k+j))=some (u i j))
   (h:∀ (i j:Nat) (x:AVal),i<n->(f i)[j]? = some x->Rep K x (u i j)):Rep K (.seq k n tight f) (.slice (some ⟨b,off,none⟩) n c)
 | ref (cs:List AVal) (b off:Nat) (u:Nat->Value) (hM:∀ j,j<cs.length->K.M b (off+j)=some (u j))
   (h:∀ (j:Nat) (x:AVal),cs[j]? = some x->Rep K x (u j)):Rep K (.ref cs) (.pointer (some ⟨b,off,none⟩))
 | ptr (o ver k i j:Nat) (ho:o<K.n) (hv:ver<=K.vs o):Rep K (.ptr o ver k i j) (.pointer (some ⟨K.ρ o ver,i*k+j,none⟩))
 | own (o ver k off len:Nat) (ho:o<K.n) (hv:ver<=K.vs o) (a:Addr) (c:Nat) (hl:len<=c) (hC:off+c<=K.C o ver) (ha:c ≠ 0->a=⟨K.ρ o ver,off*k,none⟩) :
   Rep K (.own o ver k off len) (.slice (some a) len c)
 | fn (f:Fn) (xs ys:List AVal) (vs us:List Value) (hl:vs.length=xs.length) (hm:us.length=ys.length)
   (h:∀ (i:Nat) (x:AVal) (v:Value),xs[i]? = some x->vs[i]? = some v->Rep K x v) (g:∀ (i:Nat) (x:AVal) (v:Value),ys[i]? = some x->us[i]? = some v->Rep K x v):Rep K (.fn f xs ys) (.func f vs.toArray us.toArray)
 | ifc (t:TypeId) (a:AVal) (v:Value) (h:Rep K a v):Rep K (.ifc t a) (.iface t v)
 | map (o:Nat) (ho:o<K.n):Rep K (.map o) (.map (some (K.ρ o 0)))
 | yld (o:Nat) (ho:o<K.n):Rep K (.yld o) (.func (.yield (K.ρ o 0)) #[] #[])
 | sub (o ver k i j n m c:Nat) (ho:o<K.n) (hv:ver<=K.vs o) (hc:n<=c):Rep K (.sub o ver k i j n m) (.slice (some ⟨K.ρ o ver,i*k+j,none⟩) n c)
 | selNil (o ver k i j:Nat):Rep K (.sel o ver k i j) (.pointer none)
 | selPtr (o ver k i j:Nat) (ho:o<K.n) (hv:ver<=K.vs o):Rep K (.sel o ver k i j) (.pointer (some ⟨K.ρ o ver,i*k+j,none⟩))
 | bufNil (o ver k:Nat) (ho:o<K.n) (hv:ver<=K.vs o):Rep K (.buf o ver k 0) (.slice none 0 0)
 | bufSome (o ver k len c:Nat) (ho:o<K.n) (hv:ver<=K.vs o) (hl:len<=c) (hc:c ≠ 0) (hC:c<=K.C o ver):Rep K (.buf o ver k len) (.slice (some ⟨K.ρ o ver,0,none⟩) len c)
 | ownNil (o ver k:Nat) (ho:o<K.n) (hv:ver<=K.vs o):Rep K (.own o ver k 0 0) (.slice none 0 0)
def Reps (K:Ctx) (xs:List AVal) (vs:List Value):Prop:=vs.length=xs.length ∧ ∀ (i:Nat) (x:AVal) (v:Value),xs[i]? = some x->vs[i]? = some v->Rep K x v
structure Ctx.le (K L:Ctx):Prop where
 M:∀ b i u,K.M b i=some u->L.M b i=some u
 ρ:∀ o v,o<K.n->v<=K.vs o->L.ρ o v=K.ρ o v
 C:∀ o v,o<K.n->v<=K.vs o->L.C o v=K.C o v
 n:K.n<=L.n
 vs:∀ o,o<K.n->K.vs o<=L.vs o
 w0:L.w0=K.w0
 B:∀ b x,K.B b=some x->L.B b=some x
 M0:∀ b i x,K.B b=some x->L.M b i=K.M b i
theorem Ctx.le.refl (K:Ctx):K.le K:=⟨fun _ _ _ h=>h,fun _ _ _ _=>rfl,fun _ _ _ _=>rfl,yia _,fun _ _=>yia _,rfl,fun _ _ h=>h,fun _ _ _ _=>rfl⟩
theorem Ctx.le.trans {K L N:Ctx} (h:K.le L) (g:L.le N):K.le N :=
 ⟨fun b i u hu=>g.M b i u (h.M b i u hu),
  fun o v ho hv=>(g.ρ o v (yUa ho h.n) (yea hv (h.vs o ho))).trans (h.ρ o v ho hv),
  fun o v ho hv=>(g.C o v (yUa ho h.n) (yea hv (h.vs o ho))).trans (h.C o v ho hv),
  yea h.n g.n,fun o ho=>yea (h.vs o ho) (g.vs o (yUa ho h.n)),g.w0.trans h.w0,fun b x hx=>g.B b x (h.B b x hx),fun b i x hx=>(g.M0 b i x (h.B b x hx)).trans (h.M0 b i x hx)⟩
structure Ctx.leR (K L:Ctx):Prop where
 M:∀ b i u,K.M b i=some u->L.M b i=some u
 ρ:∀ o v,o<K.n->v<=K.vs o->L.ρ o v=K.ρ o v
 C:∀ o v,o<K.n->v<=K.vs o->L.C o v=K.C o v
 n:K.n<=L.n
 vs:∀ o,o<K.n->K.vs o<=L.vs o
theorem Ctx.le.r {K L:Ctx} (h:K.le L):K.leR L:=⟨h.M,h.ρ,h.C,h.n,h.vs⟩
theorem Rep.monoR {K L:Ctx} (hKL:K.leR L) {x:AVal} {v:Value} (h:Rep K x v):Rep L x v:=by
 induction h with
 | any v=>exact .any v
 | lit v=>exact .lit v
 | agg cs vs hl h1 _ ih=>exact .agg cs vs hl h1 ih
 | tup cs vs hl _ ih=>exact .tup cs vs hl ih
 | nil k t f=>exact .nil k t f
 | empty k t f a c ht=>exact .empty k t f a c ht
 | seq k n t f b off c u hc ht hk hM _ ih=>exact .seq k n t f b off c u hc ht hk (fun i j hi hj=>hKL.M _ _ _ (hM i j hi hj)) ih
 | ref cs b off u hM _ ih=>exact .ref cs b off u (fun j hj=>hKL.M _ _ _ (hM j hj)) ih
 | ptr o ver k i j ho hv =>
  rw [← hKL.ρ o ver ho hv];exact .ptr o ver k i j (yUa ho hKL.n) (yea hv (hKL.vs o ho))
 | own o ver k off len ho hv a c hl hC ha =>
  exact .own o ver k off len (yUa ho hKL.n) (yea hv (hKL.vs o ho)) a c hl (by rw [hKL.C o ver ho hv];exact hC) (by rw [hKL.ρ o ver ho hv];exact ha)
 | fn f xs ys vs us hl hm _ _ ih1 ih2=>exact .fn f xs ys vs us hl hm ih1 ih2
 | ifc t a v _ ih=>exact .ifc t a v ih
 | map o ho =>
  rw [← hKL.ρ o 0 ho (yna _)];exact .map o (yUa ho hKL.n)
 | yld o ho =>
  rw [← hKL.ρ o 0 ho (yna _)];exact .yld o (yUa ho hKL.n)
 | sub o ver k i j n m c ho hv hc =>
  rw [← hKL.ρ o ver ho hv];exact .sub o ver k i j n m c (yUa ho hKL.n) (yea hv (hKL.vs o ho)) hc
 | selNil o ver k i j=>exact .selNil o ver k i j
 | selPtr o ver k i j ho hv =>
  rw [← hKL.ρ o ver ho hv];exact .selPtr o ver k i j (yUa ho hKL.n) (yea hv (hKL.vs o ho))
 | bufNil o ver k ho hv=>exact .bufNil o ver k (yUa ho hKL.n) (yea hv (hKL.vs o ho))
 | bufSome o ver k len c ho hv hl hc hC =>
  rw [← hKL.ρ o ver ho hv];exact .bufSome o ver k len c (yUa ho hKL.n) (yea hv (hKL.vs o ho)) hl hc (by rw [hKL.C o ver ho hv];exact hC)
 | ownNil o ver k ho hv=>exact .ownNil o ver k (yUa ho hKL.n) (yea hv (hKL.vs o ho))
theorem Rep.mono {K L:Ctx} (hKL:K.le L) {x:AVal} {v:Value} (h:Rep K x v):Rep L x v:=Rep.monoR hKL.r h
theorem Reps.monoR {K L:Ctx} (hKL:K.leR L) {xs:List AVal} {vs:List Value} (h:Reps K xs vs):Reps L xs vs :=
 ⟨h.1,fun i x v hx hv=>(h.2 i x v hx hv).monoR hKL⟩
theorem Reps.mono {K L:Ctx} (hKL:K.le L) {xs:List AVal} {vs:List Value} (h:Reps K xs vs):Reps L xs vs :=
 ⟨h.1,fun i x v hx hv=>(h.2 i x v hx hv).mono hKL⟩
theorem Reps.nil (K:Ctx):Reps K [] []:=⟨rfl,fun i x v h=>by simp at h⟩
theorem Reps.cons {K:Ctx} {x:AVal} {v:Value} {xs:List AVal} {vs:List Value} (h:Rep K x v) (t:Reps K xs vs):Reps K (x :: xs) (v :: vs):=by
 refine ⟨by simp [t.1],fun i y u hy hu=>?_⟩;cases i with
 | zero=>simp at hy hu;subst hy hu;exact h
 | succ i=>simp at hy hu;exact t.2 i y u hy hu
theorem Reps.append {K:Ctx} {xs ys:List AVal} {vs us:List Value} (h:Reps K xs vs) (g:Reps K ys us):Reps K (xs++ys) (vs++us):=by
 induction xs generalizing vs with
 | nil=>cases vs with
  | nil=>exact g
  | cons v vs=>exact absurd h.1 (by simp)
 | cons x xs ih=>cases vs with
  | nil=>exact absurd h.1 (by simp)
  | cons v vs=>exact Reps.cons (h.2 0 x v rfl rfl) (ih ⟨by have:=h.1;simpa using this,fun i y u hy hu=>h.2 (i+1) y u (by simpa using hy) (by simpa using hu)⟩)
inductive AOther where
 | strIter (s:ByteArray) (pos:Nat)
 | map (es:List (Value × AVal × Nat)) (clock:Nat)
 | mapIter (o since:Nat) (seen:Array Nat) (last:Nat)
 deriving Inhabited
inductive AObj where
 | dead
 | row (t:TypeId) (k:Nat) (es:List (List AVal))
 | other (x:AOther)
 deriving Inhabited
abbrev Objs:=List (Nat × AObj)
def AObj.live:AObj->Bool
 | .dead=>false
 | _=>true
def frFree (fr:Nat × Nat) (n:Nat):Prop:=∀ i,i<n -> ¬ (fr.1<=i∧i<fr.2)
theorem frFree.le {fr:Nat × Nat} {n m:Nat} (h:frFree fr n) (hm:m<=n):frFree fr m:=fun i hi=>h i oA
def rim (k:Nat):Nat:=match k with|1=>0|_=>1
def RowAt (w:World) (b:Nat) (c:Array Value) (t:TypeId) (k:Nat):Prop:=∃ fr,frFree fr (c.size+rim k)∧w.heap[b]? = some (.cells c t fr)
theorem RowAt.of {w w':World} {b b':Nat} {c:Array Value} {t:TypeId} {k:Nat} (h:RowAt w b c t k) (he:w'.heap[b']? = w.heap[b]?):RowAt w' b' c t k:=by
 obtain ⟨fr,h1,h2⟩:=h;exact ⟨fr,h1,he.trans h2⟩
theorem RowAt.plain {w:World} {b:Nat} {c:Array Value} {t:TypeId} {k:Nat} (h:w.heap[b]? = some (.cells c t (0,0))):RowAt w b c t k:=⟨(0,0),fun i _=>by simp,h⟩
def OtherSat (K:Ctx) (b:Obj):AOther->Prop
 | .strIter s pos=>b = .stringIter s pos
 | .map es clock=>∃ arr:Array MapEntry,b = .map arr clock∧arr.size=es.length ∧ ∀ (i:Nat) (k:Value) (x:AVal) (st:Nat) (e:MapEntry),es[i]? = some (k,x,st)->arr[i]? = some e->e.key=k∧e.born=st∧Rep K x e.val
 | .mapIter o since seen last=>o<K.n∧b = .mapIter (some (K.ρ o 0)) since seen last
theorem OtherSat.monoR {K L:Ctx} (hKL:K.leR L) {b:Obj} {x:AOther} (h:OtherSat K b x):OtherSat L b x:=by
 cases x with
 | strIter s pos=>exact h
 | map es clock =>
  obtain ⟨arr,h1,h2,h3⟩:=h;exact ⟨arr,h1,h2,fun i k x st e he ha=>by obtain ⟨q1,q2,q3⟩:=h3 i k x st e he ha;exact ⟨q1,q2,q3.monoR hKL⟩⟩
 | mapIter o since seen last =>
  obtain ⟨h1,h2⟩:=h;exact ⟨yUa h1 hKL.n,by rw [hKL.ρ o 0 h1 (yna _)];exact h2⟩
theorem OtherSat.mono {K L:Ctx} (hKL:K.le L) {b:Obj} {x:AOther} (h:OtherSat K b x):OtherSat L b x:=OtherSat.monoR hKL.r h
def ObjSat (K:Ctx) (w:World) (o ver:Nat):AObj->Prop
 | .dead=>True
 | .row t k es=>(∀ e ∈ es,e.length=k)∧es.length<=K.C o ver∧(K.C o ver ≠ 0 -> ∃ c:Array Value,RowAt w (K.ρ o ver) c t k∧c.size=K.C o ver*k∧(∀ u ∈ c.toList,u.oneCell'=true) ∧
   (∀ (i j:Nat) (e:List AVal) (x:AVal),es[i]? = some e->e[j]? = some x -> ∃ u,c[i*k+j]? = some u∧Rep K x u))
 | .other x=>K.C o ver ≠ 0 ∧ ∃ b,w.heap[K.ρ o ver]? = some b∧OtherSat K b x
structure Prot (K:Ctx) (w:World):Prop where
 os:w.os=K.w0.os
 tape:w.tape=K.w0.tape
 output:w.output=K.w0.output
 size:K.w0.heap.size<=w.heap.size
 block:∀ b x,K.B b=some x->w.heap[b]? = some x
structure MemSat (K:Ctx) (s:Objs) (w:World):Prop where
 len:s.length=K.n
 ver:∀ (o:Nat) (p:Nat × AObj),s[o]? = some p->p.1=K.vs o
 obj:∀ (o:Nat) (p:Nat × AObj),s[o]? = some p->ObjSat K w o p.1 p.2
 lo:∀ (o:Nat) (p:Nat × AObj),s[o]? = some p->p.2.live=true->K.C o p.1 ≠ 0->K.B (K.ρ o p.1)=none∧K.ρ o p.1<w.heap.size ∧ ∀ i,K.M (K.ρ o p.1) i=none
 dis:∀ (o o':Nat) (p p':Nat × AObj),s[o]? = some p->s[o']? = some p'->p.2.live=true->p'.2.live=true->K.C o p.1 ≠ 0->K.C o' p'.1 ≠ 0->o ≠ o'->K.ρ o p.1 ≠ K.ρ o' p'.1
 mem:∀ (b i:Nat) (u:Value),K.M b i=some u->w.cell? ⟨b,i,none⟩=some u∧u.oneCell'=true
 below:Prot K w
theorem Prot.fresh {K:Ctx} {w:World} (h:Prot K w) {b:Nat} (hb:w.heap.size<=b):K.B b=none:=by
 cases hB:K.B b with
 | none=>rfl
 | some x =>
  have:=h.block b x hB;rw [yZa hb] at this;cases this
theorem Prot.step {K L:Ctx} {w w':World} (h:Prot K w) (hB:L.B=K.B) (hw:L.w0=K.w0) (os:w'.os=w.os) (tape:w'.tape=w.tape) (output:w'.output=w.output) (size:w.heap.size<=w'.heap.size)
  (block:∀ b x,K.B b=some x->w'.heap[b]? = w.heap[b]?):Prot L w' :=
 ⟨by rw [hw,os];exact h.os,by rw [hw,tape];exact h.tape,by rw [hw,output];exact h.output,by rw [hw];exact yea h.size size,
  fun b x hx=>by rw [hB] at hx;exact (block b x hx).trans (h.block b x hx)⟩
theorem Prot.lt {K:Ctx} {w:World} (h:Prot K w) {b:Nat} {x:Obj} (hb:K.B b=some x):b<w.heap.size:=by
 rcases yGa b w.heap.size with h'|h'
 ·exact h'
 ·rw [h.fresh h'] at hb;cases hb
theorem Prot.alloc {K L:Ctx} {w:World} (h:Prot K w) (hB:L.B=K.B) (hw:L.w0=K.w0) (o:Obj):Prot L (w.alloc o) :=
 h.step hB hw rfl rfl rfl (by simp) fun b x hx=>Below.heap_alloc _ _ _ (h.lt hx)
theorem Prot.drew {K:Ctx} {w:World} (h:Prot K w):Prot K w.drew:=h.step rfl rfl rfl rfl rfl (yia _) fun _ _ _=>rfl
end Go.Fw
namespace Go.Fw
set_option linter.unusedSimpArgs false
set_option linter.unusedVariables false
def Q64 {α:Type} (P:Program):Sem α->Option α
 | .pure a=>some a
 | .program k=>Q64 P (k P)
 | .mark _ k=>Q64 P k
 | _=>none
abbrev Tag:=Nat × Bool
structure St where
 slots:List (Nat × AVal)
 objs:Objs
def Q71:List (Nat × AVal)->Nat->AVal
 | [],_=>.any
 | (i,v) :: r,t=>bif Nat.beq i t then v else Q71 r t
inductive ORes where
 | bad
 | val (v:AVal)
 | ifb (b:Bool) (v:AVal)
 | eff (b:Bool) (v:AVal) (objs:Objs)
 | upd (v:AVal) (objs:Objs)
 | call (f:FuncId) (args:List AVal)
def allLits:List AVal->Option (List Value)
 | []=>some []
 | .lit v :: r=>(allLits r).map (v :: ·)
 | _=>none
def Qb5:AVal->Option (List AVal)
 | .lit (.agg _)=>none
 | .lit (.tuple _)=>none
 | .lit v=>some [.lit v]
 | .agg cs=>some cs
 | .seq k n t f=>some [.seq k n t f]
 | .ref cs=>some [.ref cs]
 | .ptr o v k i j=>some [.ptr o v k i j]
 | .sel o v k i j=>some [.sel o v k i j]
 | .buf o v k l=>some [.buf o v k l]
 | .own o v k f l=>some [.own o v k f l]
 | .fn f a b=>some [.fn f a b]
 | .ifc t a=>some [.ifc t a]
 | .map o=>some [.map o]
 | .sub o v k i j n m=>some [.sub o v k i j n m]
 | _=>none
def sizeA (P:Program) (t:TypeId):Nat:=match P.info? t with|some i=>i.size|none=>0
def Qg9 (P:Program) (t:TypeId):Nat:=match P.info? t with|some i=>i.bytes|none=>0
def zeroA (P:Program) (t:TypeId):Option (List AVal):=match P.info? t with|some i=>(match i.zero with|some z=>bif z.cells.toList.all (·.oneCell')&&Nat.beq z.cells.size i.size then some (z.cells.toList.map .lit) else none|none=>none)|none=>none
def aggA (P:Program) (t:TypeId):Option Bool :=
 match P.underlying t with
 | some (.struct _)=>some true
 | some (.array _ _)=>some true
 | some _=>some false
 | none=>none
def partA (P:Program) (t:TypeId) (cs:List AVal) (off:Nat):Option AVal :=
 match aggA P t with
 | some true=>bif Nat.ble (off+sizeA P t) cs.length then some (.agg ((cs.drop off).take (sizeA P t))) else none
 | some false=>cs[off]?
 | none=>none
def splice (cs:List AVal) (off:Nat) (new:List AVal):List AVal:=cs.take off++new++cs.drop (off+new.length)
def rowOf (objs:Objs) (o ver k:Nat):Option (TypeId × List (List AVal)) :=
 match objs[o]? with
 | some (v,.row t k' es)=>bif Nat.beq v ver&&Nat.beq k' k then some (t,es) else none
 | _=>none
def elemI:List (List AVal)->Nat->Option (List AVal)
 | [],_=>none
 | e :: _,0=>some e
 | _ :: es,n+1=>elemI es n
theorem Q7b:∀ (es:List (List AVal)) (i:Nat),elemI es i=es[i]?
 | [],_=>by simp [elemI]
 | e :: _,0=>by simp [elemI]
 | _ :: es,n+1=>by simp [elemI,Q7b es n]
def loadA (P:Program) (t:TypeId) (p:AVal) (objs:Objs):ORes :=
 match p with
 | .ref cs=>match partA P t cs 0 with|some v=>.val v|none=>.bad
 | .ptr o ver k i j =>
  match rowOf objs o ver k with
  | some (_,es)=>(match elemI es i with|some e=>(match partA P t e j with|some v=>.val v|none=>.bad)|none=>.bad)
  | none=>.bad
 | _=>.bad
def Qm9 (P:Program) (t:TypeId) (p x:AVal) (objs:Objs):ORes :=
 match p,Qb5 x with
 | .ptr o ver k i j,some cs =>
  match rowOf objs o ver k with
  | some (te,es) =>
   (match elemI es i with
    | some e=>bif Nat.beq cs.length (sizeA P t)&&Nat.ble (j+cs.length) e.length then .upd (.lit undef) (objs.set o (ver,.row te k (es.set i (splice e j cs)))) else .bad
    | none=>.bad)
  | none=>.bad
 | _,_=>.bad
def seqOf (k:Nat):AVal->Option (Nat × Bool × (Nat->List AVal))
 | .seq k' n t f=>bif Nat.beq k k' then some (n,t,f) else none
 | .lit (.slice none 0 0)=>some (0,true,fun _=>[])
 | _=>none
def Qhb:AVal->Option Int
 | .lit (.int _ n)=>some n
 | _=>none
def elemA (P:Program) (t:TypeId):Option TypeId:=match P.underlying t with|some (.slice e)=>some e|_=>none
def Qi4 (P:Program) (t:TypeId) (x i:AVal):ORes :=
 match P.underlying t,Qhb i with
 | some (.slice e),some n =>
  match x with
  | .own o ver k off len=>bif Nat.beq k (sizeA P e) then .ifb (decide (0<=n∧n<(len:Int))) (.ptr o ver k (off+n.toNat) 0) else .bad
  | .sub o ver k a j l m=>bif Nat.beq m (sizeA P e) then .ifb (decide (0<=n∧n<(l:Int))) (.ptr o ver k a (j+n.toNat*m)) else .bad
  | _=>match seqOf (sizeA P e) x with|some (len,_,f)=>.ifb (decide (0<=n∧n<(len:Int))) (.ref (f n.toNat))|none=>.bad
 | some (.array len e),some n =>
  match x with
  | .ptr o ver k i j=>.ifb (decide (0<=n∧n<(len:Int))) (.ptr o ver k i (j+n.toNat*sizeA P e))
  | .ref cs=>.ifb (decide (0<=n∧n<(len:Int))) (.ref (cs.drop (n.toNat*sizeA P e)))
  | _=>.bad
 | _,_=>.bad
def fieldA (P:Program) (t:TypeId) (f:Nat):Option Field:=match P.underlying t with|some (.struct fs)=>fs[f]? | _=>none
def Qg4 (P:Program) (t:TypeId) (x:AVal) (f:Nat):ORes :=
 match fieldA P t f with
 | some fd=>bif Nat.beq (sizeA P fd.type) 0 then .bad else
  match x with
  | .ptr o ver k i j=>.val (.ptr o ver k i (j+fd.offset))
  | .ref cs=>.val (.ref (cs.drop fd.offset))
  | _=>.bad
 | none=>.bad
def fillA (place:Nat->Option (Nat × Nat)) (cells:List AVal):List (Nat × AVal)->Option (List AVal)
 | []=>some cells
 | (i,v) :: rest =>
  match place i,Qb5 v with
  | some (off,size),some cs=>bif Nat.beq cs.length size&&Nat.ble (off+cs.length) cells.length then fillA place (splice cells off cs) rest else none
  | _,_=>none
def QUa (P:Program) (fs:Array Field) (i:Nat):Option (Nat × Nat):=match fs[i]? with|some f=>some (f.offset,sizeA P f.type)|none=>none
def Qda (P:Program) (t:TypeId) (parts:List (Nat × AVal)):ORes :=
 match P.underlying t,zeroA P t with
 | some (.struct fs),some z =>
  (match fillA (QUa P fs) z parts with|some cs=>.val (.agg cs)|none=>.bad)
 | some (.array _ e),some z =>
  (match fillA (fun i=>some (i*sizeA P e,sizeA P e)) z parts with|some cs=>.val (.agg cs)|none=>.bad)
 | _,_=>.bad
def Q4d (z : List AVal) (n : Nat) : List AVal := (List.range n).map fun i => z.getD (i % z.length) .any
def QA3 (P:Program) (t:TypeId) (len:Nat) (parts:List (Nat × AVal)):ORes :=
 match elemA P t with
 | some e=>(match zeroA P e with
  | some z =>
   let k:=sizeA P e
   (match fillA (fun i=>some (i*k,k)) (Q4d z (len*k)) parts with
    | some cs=>bif Nat.ble (len*k) 16777216 then .val (.seq k len true fun i=>(cs.drop (i*k)).take k) else .bad
    | none=>.bad)
  | none=>.bad)
 | none=>.bad
def QRc:Option AVal->Option (Option Int)
 | none=>some none
 | some a=>match Qhb a with|some n=>some (some n)|none=>none
def Qra (P:Program) (t:TypeId) (x:AVal) (lo hi mx:Option AVal):ORes :=
 match P.underlying t,QRc lo,QRc hi,QRc mx with
 | some (.slice e),some l,some h,some m =>
  (match x with
   | .own o ver k off len =>
    (match m with
    | none=>bif Nat.beq k (sizeA P e) then .ifb (decide (0<=l.getD 0∧l.getD 0<=h.getD len∧h.getD len<=(len:Int))) (.own o ver k (off+(l.getD 0).toNat) ((h.getD len).toNat - (l.getD 0).toNat)) else .bad
    | some _=>.bad)
   | _=>match seqOf (sizeA P e) x with
    | some (n,t,f) =>
     (match m with
     | none=>.ifb (decide (0<=l.getD 0∧l.getD 0<=h.getD n∧h.getD n<=(n:Int))) (.seq (sizeA P e) ((h.getD n).toNat - (l.getD 0).toNat) (t&&decide (h.getD n=(n:Int))) fun i=>f ((l.getD 0).toNat+i))
     | some m=>.ifb (decide (0<=l.getD 0∧l.getD 0<=h.getD n∧h.getD n<=m∧m<=(n:Int))) (.seq (sizeA P e) ((h.getD n).toNat - (l.getD 0).toNat) (decide (h.getD n=m)) fun i=>f ((l.getD 0).toNat+i)))
    | none=>.bad)
 | some .string,some l,some h,some none =>
  (match x with
   | .lit (.string s)=>.ifb (decide (0<=l.getD 0∧l.getD 0<=h.getD s.size∧h.getD s.size<=(s.size:Int))) (.lit (.string (s.extract (l.getD 0).toNat (h.getD s.size).toNat)))
   | _=>.bad)
 | some (.array n e),some none,some none,some none=>(match x with | .ptr o ver k i j=>.ifb true (.sub o ver k i j n (sizeA P e))|_=>.bad)
 | _,_,_,_=>.bad
def eqFs (P:Program) (rec:TypeId->AVal->AVal->Option Bool) (xs ys:List AVal):List Field->Option Bool
 | []=>some true
 | f :: fs => bif f.name == "_" then none else
  match partA P f.type xs f.offset,partA P f.type ys f.offset with
  | some a,some b =>
   (match rec f.type a b,fs with
    | some p,[]=>some p
    | some p,g :: gs=>(match eqFs P rec xs ys (g :: gs) with|some q=>some (p&&q)|none=>none)
    | none,_=>none)
  | _,_=>none
def eqT (P:Program):Nat->TypeId->AVal->AVal->Option Bool
 | 0,_,_,_=>none
 | d+1,t,x,y =>
  match P.underlying t,x,y with
  | some .bool,.lit (.bool a),.lit (.bool b)=>some (a==b)
  | some (.int _),.lit (.int k a),.lit (.int k' b)=>bif decide (k=k') then some (a==b) else none
  | some .string,.lit (.string a),.lit (.string b)=>some (a==b)
  | some (.struct fs),.agg xs,.agg ys=>eqFs P (eqT P d) xs ys fs.toList
  | _,_,_=>none
def QU9 (P:Program):Nat->TypeId->Bool
 | 0,_=>false
 | d+1,t =>
  match P.underlying t with
  | some (.struct fs)=>!P.stoodInHeld t&&fs.toList.all fun f=>QU9 P d f.type
  | _=>true
def eqOK (P:Program) (t:TypeId):Bool:=!(P.eqGuardType P.depth t)&&QU9 P 8 t
def hardOp (op:BinOp) (a:Value):Bool :=
 match op,a with
 | .shl,_=>true
 | .shr,_=>true
 | .quo,.int _ _=>true
 | .rem,.int _ _=>true
 | .add,.string _=>true
 | _,_=>false
def hardA (op:BinOp) (a b:Value):ORes :=
 match op,a,b with
 | .shl,.int k x,.int _ y=>.ifb (decide (0<=y)) (.lit (.int k (k.wrap (x*2 ^ (min y.toNat k.bits)))))
 | .shr,.int k x,.int _ y=>.ifb (decide (0<=y)) (.lit (.int k (x.fdiv (2 ^ (min y.toNat k.bits)))))
 | .quo,.int k x,.int k' y=>.ifb (decide (k=k'∧y ≠ 0)) (.lit (.int k (k.wrap (x.tdiv y))))
 | .rem,.int k x,.int k' y=>.ifb (decide (k=k'∧y ≠ 0)) (.lit (.int k (x.tmod y)))
 | .add,.string x,.string y=>.ifb (decide (x.size+y.size<=9223372036854775807)) (.lit (.string (x++y)))
 | _,_,_=>.bad
def binA (P:Program) (op:BinOp) (t:TypeId) (ox oy:Operand) (x y:AVal):ORes :=
 match x,y with
 | .lit a,.lit b=>match hardOp op a with|true=>hardA op a b|false=>(match Q64 P (do eqGuard op t ox oy a b;binOp op t a b) with|some v=>.val (.lit v)|none=>.bad)
 | .agg xs,.agg ys =>
  (match op,eqT P 8 t (.agg xs) (.agg ys) with
   | .eql,some b=>.ifb (eqOK P t) (.lit (.bool b))
   | .neq,some b=>.ifb (eqOK P t) (.lit (.bool (!b)))
   | _,_=>.bad)
 | .map _,.lit (.map none) =>
  (match op,P.underlying t with
   | .eql,some (.map _ _)=>.val (.lit (.bool false))
   | .neq,some (.map _ _)=>.val (.lit (.bool true))
   | _,_=>.bad)
 | _,_=>.bad
def lenA (P:Program) (t:TypeId) (x:AVal):ORes :=
 match P.underlying t,x with
 | some (.slice e),.seq _ n _ _=>.val (.lit (.int .i64 n))
 | some (.slice e),.own _ _ _ _ n=>.val (.lit (.int .i64 n))
 | some (.slice e),.sub _ _ _ _ _ n _=>.val (.lit (.int .i64 n))
 | some (.slice e),.lit (.slice _ n _)=>.val (.lit (.int .i64 n))
 | some .string,.lit (.string s)=>.val (.lit (.int .i64 s.size))
 | some (.array n _),_=>.val (.lit (.int .i64 n))
 | _,_=>.bad
def newsA (k:Nat) (x:AVal) (objs:Objs):Option (List (List AVal)) :=
 match x with
 | .own o ver k' off len=>bif Nat.beq k k' then (match rowOf objs o ver k with|some (_,es)=>bif Nat.ble (off+len) es.length then some ((es.drop off).take len) else none|none=>none) else none
 | _=>match seqOf k x with|some (n,_,f)=>some ((List.range n).map f)|none=>none
def QHb (P:Program) (e:TypeId) (n:Nat):Bool:=decide (n*Qg9 P e<=70368744177664∧n<=70368744177664)
def emptyA:AVal->Bool
 | .seq _ n _ _=>Nat.beq n 0
 | _=>false
def Qo7 (P:Program) (t:TypeId) (s x:AVal) (objs:Objs):ORes :=
 match elemA P t with
 | some e =>
  (match zeroA P e,newsA (sizeA P e) x objs with
   | some _,some news =>
    (match s with
    | .own o ver k off len =>
     (match rowOf objs o ver (sizeA P e) with
      | some (te,es) =>
       bif Nat.beq k (sizeA P e)&&Nat.beq off 0&&Nat.beq te e then
        .eff (Nat.beq len es.length&&QHb P e (len+news.length)) (.own o (ver+1) (sizeA P e) 0 (len+news.length)) (objs.set o (ver+1,.row e (sizeA P e) (es++news)))
       else .bad
      | none=>.bad)
    | _=>match seqOf (sizeA P e) s with
     | some (n,tight,f) =>
      bif !Nat.beq n 0&&emptyA x then .eff true s objs else
      .eff (tight&&(Nat.beq n 0 || !(Nat.beq news.length 0))&&QHb P e (n+news.length)) (.own objs.length 0 (sizeA P e) 0 (n+news.length)) (objs++[(0,.row e (sizeA P e) ((List.range n).map f++news))])
     | none=>.bad)
   | _,_=>.bad)
 | none=>.bad
def QU3 (P:Program) (t:TypeId) (l c:AVal) (objs:Objs):ORes :=
 match elemA P t,Qhb l,Qhb c with
 | some e,some n,some m =>
  (match zeroA P e with
   | some z=>(.eff (decide (0<=n∧n<=m∧m*(Qg9 P e:Int)<=70368744177664∧m<=70368744177664)) (.own objs.length 0 (sizeA P e) 0 n.toNat) (objs++[(0,.row e (sizeA P e) (List.replicate n.toNat z))]))
   | none=>.bad)
 | _,_,_=>.bad
def QI9 (big:Bool):List AVal->ORes
 | [.lit (.int k a),.lit (.int k' b)]=>bif big then .val (.lit (.int k (max a b))) else .val (.lit (.int k (min a b)))
 | _=>.bad
def pureA (P:Program) (s:Sem Value):ORes:=match Q64 P s with|some v=>.val (.lit v)|none=>.bad
def Qi9 (P:Program) (t:TypeId):Bool :=
 match P.underlying t with
 | some (.slice e)=>(P.info? e).isSome
 | some (.array _ e)=>(P.info? e).isSome
 | some (.struct fs)=>fs.toList.all fun f=>(P.info? f.type).isSome
 | some _=>true
 | none=>false
def callA (P:Program) (f:AVal) (args:List AVal):ORes :=
 match f with
 | .fn (.func g) first captured =>
  (match P.funcs[g]? with
   | some fn => bif fn.body.isSome && !(fn.name == "runtime.NumGoroutine") then .call g (first ++ args ++ captured) else .bad
   | none=>.bad)
 | _=>.bad
def indexA (P:Program) (t:TypeId) (x i:AVal):ORes :=
 match P.underlying t,x,Qhb i with
 | some .string,.lit (.string s),some n=>.ifb (decide (0<=n∧n<(s.size:Int))) (.lit (.int .u8 ((s.data.toList.getD n.toNat 0).toNat:Int)))
 | _,_,_=>.bad
def Qf2 (P:Program) (look:Operand->AVal) (objs:Objs) (o:Oper):ORes :=
 match o.op with
 | .move x=>.val (look x)
 | .assign x=>.val (look x)
 | .alloc t=>(match zeroA P t with|some z=>.upd (.ptr objs.length 0 z.length 0 0) (objs++[(0,.row t z.length [z])])|none=>.bad)
 | .box t x=>(match Qb5 (look x) with|some cs=>.upd (.ptr objs.length 0 cs.length 0 0) (objs++[(0,.row t cs.length [cs])])|none=>.bad)
 | .build t ps=>bif !Qi9 P t then .bad else Qda P t (ps.toList.map fun p=>(p.1,look p.2))
 | .buildSlice t n ps=>QA3 P t n (ps.toList.map fun p=>(p.1,look p.2))
 | .load t a=>loadA P t (look a) objs
 | .store t a x=>bif !(P.info? t).isSome then .bad else Qm9 P t (look a) (look x) objs
 | .nilCheck x=>(match look x with | .ptr o v k i j=>.val (.ptr o v k i j) | .ref cs=>.val (.ref cs) | .fn f a b=>(match f with | .func _=>.val (.fn f a b)|_=>.bad)|_=>.bad)
 | .binOp op t x y _=>binA P op t x y (look x) (look y)
 | .unOp op _ x=>(match look x with | .lit v=>pureA P (Op.unary op v)|_=>.bad)
 | .convert src dst x=>(match look x with | .lit v=>pureA P (convert src dst v)|_=>.bad)
 | .makeFunc f a b=>.val (.fn f (a.toList.map look) (b.toList.map look))
 | .makeSlice t l c=>QU3 P t (look l) (look c) objs
 | .slice t x lo hi mx=>bif !Qi9 P t||(mx.isSome && !hi.isSome) then .bad else Qra P t (look x) (lo.map look) (hi.map look) (mx.map look)
 | .fieldAddr t x f=>Qg4 P t (look x) f
 | .field t x f=>(match fieldA P t f,look x with|some fd,.agg cs=>(match partA P fd.type cs fd.offset with|some v=>.val v|none=>.bad)|_,_=>.bad)
 | .indexAddr t x i=>bif !Qi9 P t then .bad else Qi4 P t (look x) (look i)
 | .index t x i=>indexA P t (look x) (look i)
 | .extract x i=>(match look x with | .tup cs=>(match cs[i]? with|some v=>.val v|none=>.bad)|_=>.bad)
 | .call c =>
  (match c.callee with
   | .builtin .len=>(match c.args.toList,c.argTypes.toList with | [x],[t]=>lenA P t (look x)|_,_=>.bad)
   | .builtin .append=>(match c.args.toList,c.argTypes.toList with | [x,y],[t,u]=>bif Nat.beq t u then Qo7 P t (look x) (look y) objs else .bad|_,_=>.bad)
   | .builtin .min=>QI9 false (c.args.toList.map look)
   | .builtin .max=>QI9 true (c.args.toList.map look)
   | .value f=>callA P (look f) (c.args.toList.map look)
   | _=>.bad)
 | _=>.bad
open Go.RowKit
theorem Qd7 {α:Type} {P:Program}:∀ (s:Sem α) (v:α),Q64 P s=some v -> ∀ w,s.run P w = .ok v w
 | .pure a,v,h,w=>by simp only [Q64,yaa] at h;subst h;rfl
 | .program k,v,h,w=>by simp only [Q64] at h;exact Qd7 (k P) v h w
 | .mark m k,v,h,w=>by simp only [Q64] at h;exact Qd7 k v h w
 | .load ..,_,h,_=>by simp [Q64] at h
 | .store ..,_,h,_=>by simp [Q64] at h
 | .new ..,_,h,_=>by simp [Q64] at h
 | .shape ..,_,h,_=>by simp [Q64] at h
 | .freeze ..,_,h,_=>by simp [Q64] at h
 | .frozen ..,_,h,_=>by simp [Q64] at h
 | .getObj ..,_,h,_=>by simp [Q64] at h
 | .setObj ..,_,h,_=>by simp [Q64] at h
 | .choose ..,_,h,_=>by simp [Q64] at h
 | .sys ..,_,h,_=>by simp [Q64] at h
 | .halt ..,_,h,_=>by simp [Q64] at h
section
variable {K:Ctx} {objs:Objs} {w:World}
theorem MemSat.M_lt (h:MemSat K objs w) {b i:Nat} {u:Value} (hu:K.M b i=some u):b<w.heap.size:=by
 have:=(h.mem b i u hu).1;rcases yGa b w.heap.size with hlt|hge
 ·exact hlt
 ·simp [World.cell?,yZa hge] at this
theorem ObjSat.monoR {L:Ctx} {w':World} {o ver:Nat} {p:AObj} (hKL:K.leR L) (ho:o<K.n) (hv:ver<=K.vs o) (h:ObjSat K w o ver p)
  (hb:p.live=true->K.C o ver ≠ 0->w'.heap[K.ρ o ver]? = w.heap[K.ρ o ver]?):ObjSat L w' o ver p:=by
 cases p with
 | dead=>trivial
 | row t k es =>
  obtain ⟨h1,h2,h3⟩:=h;refine ⟨h1,by rw [hKL.C o ver ho hv];exact h2,fun hC=>?_⟩;rw [hKL.C o ver ho hv] at hC ⊢;rw [hKL.ρ o ver ho hv];obtain ⟨c,hc,hs,h1c,hr⟩:=h3 hC;exact ⟨c,hc.of (hb rfl hC),hs,h1c,fun i j e x he hx=>by obtain ⟨u,hu,hru⟩:=hr i j e x he hx;exact ⟨u,hu,hru.monoR hKL⟩⟩
 | other x =>
  obtain ⟨h1,b,h2,h3⟩:=h;exact ⟨by rw [hKL.C o ver ho hv];exact h1,b,by rw [hKL.ρ o ver ho hv];exact (hb rfl h1).trans h2,h3.monoR hKL⟩
theorem ObjSat.mono {L:Ctx} {w':World} {o ver:Nat} {p:AObj} (hKL:K.le L) (ho:o<K.n) (hv:ver<=K.vs o) (h:ObjSat K w o ver p)
  (hb:p.live=true->K.C o ver ≠ 0->w'.heap[K.ρ o ver]? = w.heap[K.ρ o ver]?):ObjSat L w' o ver p:=ObjSat.monoR hKL.r ho hv h hb
theorem QK3 (K:Ctx) (B:Nat->Option Obj) (u:World):K.leR { K with B:=B,w0:=u }:=⟨fun _ _ _ h=>h,fun _ _ _ _=>rfl,fun _ _ _ _=>rfl,yia _,fun _ _=>yia _⟩
theorem MemSat.drew (h:MemSat K objs w):MemSat K objs w.drew :=
 ⟨h.len,h.ver,fun o p hp=>(h.obj o p hp).mono (Ctx.le.refl K) (by rw [← h.len];exact (List.getElem?_eq_some_iff.1 hp).1) (by rw [h.ver o p hp];exact yia _) (fun _ _=>rfl),h.lo,h.dis,h.mem,h.below.drew⟩
theorem MemSat.drawn (h:MemSat K objs w) (n:Nat):MemSat K objs { w with drawn:=n } :=
 ⟨h.len,h.ver,fun o p hp=>(h.obj o p hp).mono (Ctx.le.refl K) (by rw [← h.len];exact (List.getElem?_eq_some_iff.1 hp).1) (by rw [h.ver o p hp];exact yia _) (fun _ _=>rfl),h.lo,h.dis,h.mem,
  h.below.step rfl rfl rfl rfl rfl (yia _) fun _ _ _=>rfl⟩
theorem MemSat.olt (h:MemSat K objs w) {o:Nat} {p:Nat × AObj} (hp:objs[o]? = some p):o<K.n:=by
 rw [← h.len];exact (List.getElem?_eq_some_iff.1 hp).1
def Ctx.frozenBlock (K:Ctx) (b:Nat) (c:List Value):Ctx:={ K with M:=fun b' i=>if b'=b then (match c[i]? with|some u=>if u.oneCell' then some u else none|none=>none) else K.M b' i }
theorem Qv6 (h:MemSat K objs w) (c:List Value):K.le (K.frozenBlock w.heap.size c):=by
 refine ⟨fun b i u hu=>?_,fun _ _ _ _=>rfl,fun _ _ _ _=>rfl,yia _,fun _ _=>yia _,rfl,fun _ _ h=>h,fun b i x hx=>?_⟩
 ·have:=h.M_lt hu;simp only [Ctx.frozenBlock];rw [if_neg oA];exact hu
 ·have:=h.below.lt hx;simp only [Ctx.frozenBlock];rw [if_neg oA]
theorem MemSat.newBlock (h:MemSat K objs w) (c:List Value) (t:TypeId):MemSat (K.frozenBlock w.heap.size c) objs (w.alloc (.cells c.toArray t)):=by
 have hle:=Qv6 h c;refine ⟨h.len,h.ver,fun o p hp=>?_,fun o p hp hl hC=>?_,h.dis,fun b i u hu=>?_,h.below.alloc (L:=K.frozenBlock w.heap.size c) rfl rfl _⟩
 ·refine (h.obj o p hp).mono hle (h.olt hp) (by rw [h.ver o p hp];exact yia _) (fun hl hC=>?_);exact Below.heap_alloc _ _ _ (h.lo o p hp hl hC).2.1
 ·obtain ⟨h1,h2,h3⟩:=h.lo o p hp hl hC;refine ⟨h1,?_,fun i=>?_⟩
  ·show _<(w.heap.push _).size;simp only [Array.size_push];exact Nat.lt_succ_of_lt h2
  ·show (if K.ρ o p.1=w.heap.size then _ else _)=none;rw [if_neg oA];exact h3 i
 ·simp only [Ctx.frozenBlock] at hu
  by_cases hb:b=w.heap.size
  ·subst hb;rw [if_pos rfl] at hu;rw [World.cell?_alloc_new];cases hc:c[i]? with
   | none=>simp [hc] at hu
   | some x =>
    simp only [hc] at hu;split at hu
    ·rename_i h1;simp only [yaa] at hu;subst hu;exact ⟨by simpa using hc,h1⟩
    ·cases hu
  ·rw [if_neg hb] at hu;have:=h.mem b i u hu;exact ⟨(World.cell?_alloc_old w _ _ (by simpa using hb)).trans this.1,this.2⟩
def Ctx.newObj (K:Ctx) (b c:Nat):Ctx :=
 { K with ρ:=fun o v=>if o=K.n then b else K.ρ o v,C:=fun o v=>if o=K.n then c else K.C o v,n:=K.n+1,vs:=fun o=>if o=K.n then 0 else K.vs o }
theorem Q92 (K:Ctx) (b c:Nat):K.le (K.newObj b c):=by
 refine ⟨fun b i u hu=>hu,fun o v ho _=>?_,fun o v ho _=>?_,by simp [Ctx.newObj],fun o ho=>?_,rfl,fun _ _ h=>h,fun _ _ _ _=>rfl⟩
 ·simp only [Ctx.newObj];rw [if_neg oA]
 ·simp only [Ctx.newObj];rw [if_neg oA]
 ·simp only [Ctx.newObj];rw [if_neg oA];exact yia _
theorem MemSat.addRow (h:MemSat K objs w) (t:TypeId) (k:Nat) (es:List (List AVal)) (c:Array Value) (C:Nat) (hC:C ≠ 0) (hlen:es.length<=C) (hsz:c.size=C*k) (hk:∀ e ∈ es,e.length=k)
  (h1:∀ u ∈ c.toList,u.oneCell'=true) (hr:∀ (i j:Nat) (e:List AVal) (x:AVal),es[i]? = some e->e[j]? = some x -> ∃ u,c[i*k+j]? = some u∧Rep K x u) :
  MemSat (K.newObj w.heap.size C) (objs++[(0,.row t k es)]) (w.alloc (.cells c t)):=by
 have hle:=Q92 K w.heap.size C;have cases_o:∀ (o:Nat) (p:Nat × AObj),(objs++[(0,AObj.row t k es)])[o]? = some p->(objs[o]? = some p∧o<K.n)∨(o=K.n∧p=(0,.row t k es)):=by
  intro o p hp;rcases yyb o K.n with hlt|heq|hgt
  ·left;rw [ypa (by rw [h.len];exact hlt)] at hp;exact ⟨hp,hlt⟩
  ·right;subst heq;rw [yva (by rw [h.len];exact yia _),h.len,y8b] at hp;exact ⟨rfl,by simpa using hp.symm⟩
  ·rw [yYa (by simp [h.len];omega)] at hp;cases hp
 refine ⟨by simp [Ctx.newObj,h.len],fun o p hp=>?_,fun o p hp=>?_,fun o p hp hl hC=>?_,fun o o' p p' hp hp' hl hl' hC hC' hne=>?_,fun b i u hu=>?_,h.below.alloc (L:=K.newObj w.heap.size C) rfl rfl _⟩
 ·rcases cases_o o p hp with ⟨hp,hlt⟩|⟨rfl,rfl⟩
  ·simp only [Ctx.newObj];rw [if_neg oA];exact h.ver o p hp
  ·simp [Ctx.newObj]
 ·rcases cases_o o p hp with ⟨hp,hlt⟩|⟨rfl,rfl⟩
  ·refine (h.obj o p hp).mono hle hlt (by rw [h.ver o p hp];exact yia _) (fun hl hC=>?_);exact Below.heap_alloc _ _ _ (h.lo o p hp hl hC).2.1
  ·refine ⟨hk,by simpa [Ctx.newObj] using hlen,fun _=>⟨c,?_,by simpa [Ctx.newObj] using hsz,h1,fun i j e x he hx=>?_⟩⟩
   ·have e2:(K.newObj w.heap.size C).ρ K.n 0=w.heap.size:=by simp [Ctx.newObj]
    refine RowAt.plain ?_;show (w.heap.push _)[(K.newObj w.heap.size C).ρ K.n 0]? = _;rw [e2,Array.getElem?_push,if_pos rfl]
   ·obtain ⟨u,hu,hru⟩:=hr i j e x he hx;exact ⟨u,hu,hru.mono hle⟩
 ·rcases cases_o o p hp with ⟨hp,hlt⟩|⟨rfl,rfl⟩
  ·have e1:(K.newObj w.heap.size C).C o p.1=K.C o p.1:=by simp only [Ctx.newObj];rw [if_neg oA]
   have e2:(K.newObj w.heap.size C).ρ o p.1=K.ρ o p.1:=by simp only [Ctx.newObj];rw [if_neg oA]
   rw [e1] at hC;obtain ⟨g1,g2,g3⟩:=h.lo o p hp hl hC;rw [e2];exact ⟨g1,by simp;omega,g3⟩
  ·have e2:(K.newObj w.heap.size C).ρ K.n 0=w.heap.size:=by simp [Ctx.newObj]
   show _∧_ ∧ ∀ i,(K.newObj w.heap.size C).M ((K.newObj w.heap.size C).ρ K.n 0) i=none;rw [e2];refine ⟨h.below.fresh (yia _),by simp,fun i=>?_⟩;cases hM:K.M w.heap.size i with
   | none=>exact hM
   | some u=>exact absurd (h.M_lt hM) oA
 ·have e2:∀ o v,o<K.n->(K.newObj w.heap.size C).ρ o v=K.ρ o v:=fun o v ho=>by simp only [Ctx.newObj];rw [if_neg oA]
  have e1:∀ o v,o<K.n->(K.newObj w.heap.size C).C o v=K.C o v:=fun o v ho=>by simp only [Ctx.newObj];rw [if_neg oA]
  have e3:∀ v,(K.newObj w.heap.size C).ρ K.n v=w.heap.size:=fun v=>by simp [Ctx.newObj]
  rcases cases_o o p hp with ⟨hp,hlt⟩|⟨rfl,rfl⟩ <;> rcases cases_o o' p' hp' with ⟨hp',hlt'⟩|⟨rfl,rfl⟩
  ·rw [e2 _ _ hlt,e2 _ _ hlt'];rw [e1 _ _ hlt] at hC;rw [e1 _ _ hlt'] at hC';exact h.dis o o' p p' hp hp' hl hl' hC hC' hne
  ·rw [e2 _ _ hlt,e3];rw [e1 _ _ hlt] at hC;have:=(h.lo o p hp hl hC).2.1;omega
  ·rw [e2 _ _ hlt',e3];rw [e1 _ _ hlt'] at hC';have:=(h.lo o' p' hp' hl' hC').2.1;omega
  ·exact absurd rfl hne
 ·have hu':K.M b i=some u:=hu;have:=h.mem b i u hu';exact ⟨(World.cell?_alloc_lt w _ ⟨b,i,none⟩ (h.M_lt hu')).trans this.1,this.2⟩
end
section
variable {K:Ctx} {objs:Objs} {w:World}
theorem MemSat.rowBlock (h:MemSat K objs w) {o ver k:Nat} {t:TypeId} {es:List (List AVal)} (hp:objs[o]? = some (ver,.row t k es)) (hC:K.C o ver ≠ 0) :
  ∃ c:Array Value,RowAt w (K.ρ o ver) c t k∧c.size=K.C o ver*k∧(∀ u ∈ c.toList,u.oneCell'=true) ∧
   (∀ (i j:Nat) (e:List AVal) (x:AVal),es[i]? = some e->e[j]? = some x -> ∃ u,c[i*k+j]? = some u∧Rep K x u):=(h.obj o _ hp).2.2 hC
theorem Q6a {o o':Nat} {q:Nat × AObj} (h:o ≠ o'):(objs.set o q)[o']? = objs[o']?:=by
 rw [yYb h]
theorem Q5a {o:Nat} {q p:Nat × AObj} (h:objs[o]? = some p):(objs.set o q)[o]? = some q:=by
 rw [List.getElem?_set_self (List.getElem?_eq_some_iff.1 h).1]
theorem MemSat.setRow (h:MemSat K objs w) {o ver k:Nat} {t:TypeId} {es:List (List AVal)} (hp:objs[o]? = some (ver,.row t k es)) (hC:K.C o ver ≠ 0)
  (c c':Array Value) (hc:RowAt w (K.ρ o ver) c t k) (hs:c'.size=c.size) (h1:∀ u ∈ c'.toList,u.oneCell'=true)
  (es':List (List AVal)) (hl:es'.length<=K.C o ver) (hk:∀ e ∈ es',e.length=k)
  (hr:∀ (i j:Nat) (e:List AVal) (x:AVal),es'[i]? = some e->e[j]? = some x -> ∃ u,c'[i*k+j]? = some u∧Rep K x u) :
  MemSat K (objs.set o (ver,.row t k es')) (w.setRow (K.ρ o ver) c'):=by
 have hlo:=h.lo o _ hp rfl hC;have hv:ver=K.vs o:=h.ver o _ hp;have key:∀ (o':Nat) (p:Nat × AObj),(objs.set o (ver,.row t k es'))[o']? = some p->(o'=o∧p=(ver,.row t k es'))∨(o' ≠ o∧objs[o']? = some p):=by
  intro o' p hp'
  by_cases ho:o'=o
  ·subst ho;rw [Q5a hp] at hp';exact .inl ⟨rfl,by simpa using hp'.symm⟩
  ·rw [Q6a (Ne.symm ho)] at hp';exact .inr ⟨ho,hp'⟩
 have live:∀ (o':Nat) (p:Nat × AObj),(objs.set o (ver,.row t k es'))[o']? = some p -> ∃ q:Nat × AObj,objs[o']? = some q∧q.1=p.1∧(p.2.live=true->q.2.live=true):=by
  intro o' p hp';rcases key o' p hp' with ⟨rfl,rfl⟩|⟨_,hq⟩
  ·exact ⟨_,hp,rfl,fun _=>rfl⟩
  ·exact ⟨p,hq,rfl,id⟩
 refine ⟨by simp [h.len],fun o' p hp'=>?_,fun o' p hp'=>?_,fun o' p hp' hl' hC'=>?_,fun o1 o2 p1 p2 hp1 hp2 hl1 hl2 hC1 hC2 hne=>?_,fun b i u hu=>?_,?_⟩
 ·obtain ⟨q,hq,hq1,_⟩:=live o' p hp';rw [← hq1];exact h.ver o' q hq
 ·rcases key o' p hp' with ⟨rfl,rfl⟩|⟨ho,hq⟩
  ·obtain ⟨fr,hfr,hcb⟩:=hc;exact ⟨hk,hl,fun _=>⟨c',⟨fr,by rw [hs];exact hfr,setRow_heap w _ c c' t _ hcb⟩,hs.trans (by obtain ⟨c2,⟨fr2,_,hc2⟩,hs2,_⟩:=h.rowBlock hp hC;rw [hcb] at hc2;injection hc2 with hc2;injection hc2 with hc2;rw [hc2];exact hs2),h1,hr⟩⟩
  ·refine (h.obj o' p hq).mono (Ctx.le.refl K) (h.olt hq) (by rw [h.ver o' p hq];exact yia _) (fun hl' hC'=>setRow_other w _ _ _ ?_);exact h.dis o' o p _ hq hp hl' rfl hC' hC ho
 ·obtain ⟨q,hq,hq1,hq2⟩:=live o' p hp';rw [← hq1] at hC' ⊢;obtain ⟨g1,g2,g3⟩:=h.lo o' q hq (hq2 hl') hC';exact ⟨g1,by simpa using g2,g3⟩
 ·obtain ⟨q1,hq1,e1,f1⟩:=live o1 p1 hp1;obtain ⟨q2,hq2,e2,f2⟩:=live o2 p2 hp2;rw [← e1] at hC1 ⊢;rw [← e2] at hC2 ⊢;exact h.dis o1 o2 q1 q2 hq1 hq2 (f1 hl1) (f2 hl2) hC1 hC2 hne
 ·have:=h.mem b i u hu;refine ⟨(cell_setRow_other w _ _ _ ?_).trans this.1,this.2⟩;intro hb;have hb':b=K.ρ o ver:=hb;rw [hb',hlo.2.2 i] at hu;cases hu
 ·refine h.below.step rfl rfl rfl rfl rfl (by simp) fun b x hx=>setRow_other w _ _ _ ?_
  rintro rfl;rw [hlo.1] at hx;cases hx
def Ctx.turn (K:Ctx) (o b c:Nat):Ctx :=
 { K with ρ:=fun o' v=>if o'=o∧v=K.vs o+1 then b else K.ρ o' v,C:=fun o' v=>if o'=o∧v=K.vs o+1 then c else K.C o' v,vs:=fun o'=>if o'=o then K.vs o+1 else K.vs o' }
theorem Qpe (K:Ctx) (o b c:Nat):K.le (K.turn o b c):=by
 refine ⟨fun b i u hu=>hu,fun o' v ho hv=>?_,fun o' v ho hv=>?_,yia _,fun o' ho=>?_,rfl,fun _ _ h=>h,fun _ _ _ _=>rfl⟩
 ·simp only [Ctx.turn];rw [if_neg];rintro ⟨rfl,rfl⟩;omega
 ·simp only [Ctx.turn];rw [if_neg];rintro ⟨rfl,rfl⟩;omega
 ·simp only [Ctx.turn];split
  ·rename_i he;subst he;omega
  ·exact yia _
theorem MemSat.turn (h:MemSat K objs w) {o ver:Nat} {p:AObj} (hp:objs[o]? = some (ver,p)) (t:TypeId) (k:Nat) (es':List (List AVal)) (b C:Nat) (w':World)
  (hb:C ≠ 0->(p.live=true∧K.C o ver ≠ 0∧b=K.ρ o ver)∨w.heap.size<=b) (hblt:C ≠ 0->b<w'.heap.size)
  (hw:∀ i,i<w.heap.size->(C ≠ 0->i ≠ b)->w'.heap[i]? = w.heap[i]?) (hbelow:Prot K w')
  (hl:es'.length<=C) (hk:∀ e ∈ es',e.length=k)
  (hcell:C ≠ 0 -> ∃ c:Array Value,RowAt w' b c t k∧c.size=C*k∧(∀ u ∈ c.toList,u.oneCell'=true) ∧
   (∀ (i j:Nat) (e:List AVal) (x:AVal),es'[i]? = some e->e[j]? = some x -> ∃ u,c[i*k+j]? = some u∧Rep K x u)) :
  MemSat (K.turn o b C) (objs.set o (ver+1,.row t k es')) w':=by
 have hv:ver=K.vs o:=h.ver o _ hp;subst hv;have hle:=Qpe K o b C;have eρ:(K.turn o b C).ρ o (K.vs o+1)=b:=by simp [Ctx.turn]
 have eC:(K.turn o b C).C o (K.vs o+1)=C:=by simp [Ctx.turn]
 have ρo:∀ o' v,o' ≠ o->(K.turn o b C).ρ o' v=K.ρ o' v:=fun o' v ho=>by simp only [Ctx.turn];rw [if_neg];exact fun h=>ho h.1
 have Co:∀ o' v,o' ≠ o->(K.turn o b C).C o' v=K.C o' v:=fun o' v ho=>by simp only [Ctx.turn];rw [if_neg];exact fun h=>ho h.1
 have key:∀ (o':Nat) (q:Nat × AObj),(objs.set o (K.vs o+1,.row t k es'))[o']? = some q->(o'=o∧q=(K.vs o+1,.row t k es'))∨(o' ≠ o∧objs[o']? = some q):=by
  intro o' q hq
  by_cases ho:o'=o
  ·subst ho;rw [Q5a hp] at hq;exact .inl ⟨rfl,by simpa using hq.symm⟩
  ·rw [Q6a (Ne.symm ho)] at hq;exact .inr ⟨ho,hq⟩
 have far:∀ (o':Nat) (q:Nat × AObj),o' ≠ o->objs[o']? = some q->q.2.live=true->K.C o' q.1 ≠ 0->C ≠ 0->K.ρ o' q.1 ≠ b:=by
  intro o' q ho hq hl' hC' hC;rcases hb hC with ⟨hpl,hC0,rfl⟩|hge
  ·exact h.dis o' o q _ hq hp hl' hpl hC' hC0 ho
  ·have:=(h.lo o' q hq hl' hC').2.1;omega
 have Mb:∀ i,C ≠ 0->K.M b i=none:=by
  intro i hC;rcases hb hC with ⟨hpl,hC0,rfl⟩|hge
  ·exact (h.lo o _ hp hpl hC0).2.2 i
  ·cases hM:K.M b i with
   | none=>rfl
   | some u=>exact absurd (h.M_lt hM) oA
 refine ⟨by simp [h.len,Ctx.turn],fun o' q hq=>?_,fun o' q hq=>?_,fun o' q hq hl' hC'=>?_,fun o1 o2 p1 p2 hp1 hp2 hl1 hl2 hC1 hC2 hne=>?_,fun b' i u hu=>?_,hbelow.step (L:=K.turn o b C) rfl rfl rfl rfl rfl (yia _) fun _ _ _=>rfl⟩
 ·rcases key o' q hq with ⟨rfl,rfl⟩|⟨ho,hq⟩
  ·simp [Ctx.turn]
  ·simp only [Ctx.turn];rw [if_neg ho];exact h.ver o' q hq
 ·rcases key o' q hq with ⟨rfl,rfl⟩|⟨ho,hq⟩
  ·refine ⟨hk,by rw [eC];exact hl,fun hC=>?_⟩;rw [eC] at hC ⊢;rw [eρ];obtain ⟨c,h1,h2,h3,h4⟩:=hcell hC;exact ⟨c,h1,h2,h3,fun i j e x he hx=>by obtain ⟨u,hu,hru⟩:=h4 i j e x he hx;exact ⟨u,hu,hru.mono hle⟩⟩
  ·refine (h.obj o' q hq).mono hle (h.olt hq) (by rw [h.ver o' q hq];exact yia _) (fun hl' hC'=>?_);exact hw _ (h.lo o' q hq hl' hC').2.1 (fun hC=>far o' q ho hq hl' hC' hC)
 ·rcases key o' q hq with ⟨rfl,rfl⟩|⟨ho,hq⟩
  ·rw [eC] at hC';show (K.turn o' b C).B ((K.turn o' b C).ρ o' (K.vs o'+1))=none∧_;rw [eρ];refine ⟨?_,hblt hC',fun i=>Mb i hC'⟩;rcases hb hC' with ⟨hpl,hC0,rfl⟩|hge
   ·exact (h.lo o' _ hp hpl hC0).1
   ·exact h.below.fresh hge
  ·rw [Co o' _ ho] at hC';rw [ρo o' _ ho];obtain ⟨g1,g2,g3⟩:=h.lo o' q hq hl' hC';refine ⟨g1,?_,g3⟩;rcases yGa (K.ρ o' q.1) w'.heap.size with h'|h'
   ·exact h'
   ·have e1:=hw _ g2 (fun hC=>far o' q ho hq hl' hC' hC);rw [yZa h'] at e1;rw [ysa g2] at e1;cases e1
 ·rcases key o1 p1 hp1 with ⟨rfl,rfl⟩|⟨ho1,hq1⟩ <;> rcases key o2 p2 hp2 with ⟨rfl,rfl⟩|⟨ho2,hq2⟩
  ·exact absurd rfl hne
  ·rw [eC] at hC1;rw [Co o2 _ ho2] at hC2;show (K.turn o1 b C).ρ o1 (K.vs o1+1) ≠ _;rw [eρ,ρo o2 _ ho2];exact (far o2 p2 ho2 hq2 hl2 hC2 hC1).symm
  ·rw [eC] at hC2;rw [Co o1 _ ho1] at hC1;show _ ≠ (K.turn o2 b C).ρ o2 (K.vs o2+1);rw [eρ,ρo o1 _ ho1];exact far o1 p1 ho1 hq1 hl1 hC1 hC2
  ·rw [Co o1 _ ho1] at hC1;rw [Co o2 _ ho2] at hC2;rw [ρo o1 _ ho1,ρo o2 _ ho2];exact h.dis o1 o2 p1 p2 hq1 hq2 hl1 hl2 hC1 hC2 hne
 ·have hu':K.M b' i=some u:=hu;have:=h.mem b' i u hu';refine ⟨?_,this.2⟩;rw [← this.1];refine World.cell?_of_block (w:=w) (hw b' (h.M_lt hu') (fun hC=>?_));rintro rfl;rw [Mb i hC] at hu';cases hu'
theorem MemSat.addNone (h:MemSat K objs w) (t:TypeId) (k:Nat):MemSat (K.newObj 0 0) (objs++[(0,.row t k [])]) w:=by
 have hle:=Q92 K 0 0;have cases_o:∀ (o:Nat) (p:Nat × AObj),(objs++[(0,AObj.row t k [])])[o]? = some p->(objs[o]? = some p∧o<K.n)∨(o=K.n∧p=(0,.row t k [])):=by
  intro o p hp;rcases yyb o K.n with hlt|heq|hgt
  ·left;rw [ypa (by rw [h.len];exact hlt)] at hp;exact ⟨hp,hlt⟩
  ·right;subst heq;rw [yva (by rw [h.len];exact yia _),h.len,y8b] at hp;exact ⟨rfl,by simpa using hp.symm⟩
  ·rw [yYa (by simp [h.len];omega)] at hp;cases hp
 have e2:∀ o v,o<K.n->(K.newObj 0 0).ρ o v=K.ρ o v:=fun o v ho=>by simp only [Ctx.newObj];rw [if_neg oA]
 have e1:∀ o v,o<K.n->(K.newObj 0 0).C o v=K.C o v:=fun o v ho=>by simp only [Ctx.newObj];rw [if_neg oA]
 have e0:∀ v,(K.newObj 0 0).C K.n v=0:=fun v=>by simp [Ctx.newObj]
 refine ⟨by simp [Ctx.newObj,h.len],fun o p hp=>?_,fun o p hp=>?_,fun o p hp hl hC=>?_,fun o o' p p' hp hp' hl hl' hC hC' hne=>?_,h.mem,h.below.step (L:=K.newObj 0 0) rfl rfl rfl rfl rfl (yia _) fun _ _ _=>rfl⟩
 ·rcases cases_o o p hp with ⟨hp,hlt⟩|⟨rfl,rfl⟩
  ·simp only [Ctx.newObj];rw [if_neg oA];exact h.ver o p hp
  ·simp [Ctx.newObj]
 ·rcases cases_o o p hp with ⟨hp,hlt⟩|⟨rfl,rfl⟩
  ·exact (h.obj o p hp).mono hle hlt (by rw [h.ver o p hp];exact yia _) (fun _ _=>rfl)
  ·exact ⟨by simp,by simp,fun hC=>absurd (e0 0) hC⟩
 ·rcases cases_o o p hp with ⟨hp,hlt⟩|⟨rfl,rfl⟩
  ·rw [e1 _ _ hlt] at hC;rw [e2 _ _ hlt];exact h.lo o p hp hl hC
  ·exact absurd (e0 0) hC
 ·rcases cases_o o p hp with ⟨hp,hlt⟩|⟨rfl,rfl⟩ <;> rcases cases_o o' p' hp' with ⟨hp',hlt'⟩|⟨rfl,rfl⟩
  ·rw [e2 _ _ hlt,e2 _ _ hlt'];rw [e1 _ _ hlt] at hC;rw [e1 _ _ hlt'] at hC';exact h.dis o o' p p' hp hp' hl hl' hC hC' hne
  ·exact absurd (e0 0) hC'
  ·exact absurd (e0 0) hC
  ·exact absurd rfl hne
end
section
variable {K:Ctx} {P:Program} {w:World} {objs:Objs}
theorem QZ0 {v0 v:Value} (h:Rep K (.lit v0) v):v=v0:=by cases h;rfl
theorem QA7 {cs:List AVal} {v:Value} (h:Rep K (.agg cs) v):∃ vs:List Value,v = .agg vs.toArray∧Reps K cs vs ∧ ∀ u ∈ vs,u.oneCell'=true:=by
 cases h with
 | agg _ vs hl h1 h=>exact ⟨vs,rfl,⟨hl,h⟩,h1⟩
theorem QEe {cs:List AVal} {v:Value} (h:Rep K (.tup cs) v):∃ vs:List Value,v = .tuple vs.toArray∧Reps K cs vs:=by
 cases h with
 | tup _ vs hl h=>exact ⟨vs,rfl,⟨hl,h⟩⟩
theorem rep_ref {cs:List AVal} {v:Value} (h:Rep K (.ref cs) v):∃ (b off:Nat) (u:Nat->Value),v = .pointer (some ⟨b,off,none⟩)∧(∀ j,j<cs.length->K.M b (off+j)=some (u j)) ∧ ∀ (j:Nat) (x:AVal),cs[j]? = some x->Rep K x (u j):=by
 cases h with
 | ref _ b off u hM h=>exact ⟨b,off,u,rfl,hM,h⟩
theorem Qh5 {o ver k i j:Nat} {v:Value} (h:Rep K (.ptr o ver k i j) v):v = .pointer (some ⟨K.ρ o ver,i*k+j,none⟩)∧o<K.n∧ver<=K.vs o:=by
 cases h with
 | ptr _ _ _ _ _ ho hv=>exact ⟨rfl,ho,hv⟩
theorem rep_fn {f:Fn} {xs ys:List AVal} {v:Value} (h:Rep K (.fn f xs ys) v):∃ vs us:List Value,v = .func f vs.toArray us.toArray∧Reps K xs vs∧Reps K ys us:=by
 cases h with
 | fn _ _ _ vs us hl hm h g=>exact ⟨vs,us,rfl,⟨hl,h⟩,⟨hm,g⟩⟩
theorem add_lit (b off n:Nat):(⟨b,off,none⟩:Addr).add n=⟨b,off+n,none⟩:=by
 unfold Addr.add;split
 ·rename_i h;subst h;rfl
 ·rfl
theorem Reps.get {xs:List AVal} {vs:List Value} (h:Reps K xs vs) {i:Nat} {x:AVal} (hx:xs[i]? = some x):∃ v,vs[i]? = some v∧Rep K x v:=by
 have hi:i<xs.length:=(List.getElem?_eq_some_iff.1 hx).1;have hv:vs[i]? = some (vs[i]'(by rw [h.1];exact hi)):=yba _;exact ⟨_,hv,h.2 i x _ hx hv⟩
theorem Reps.drop {xs:List AVal} {vs:List Value} (h:Reps K xs vs) (n:Nat):Reps K (xs.drop n) (vs.drop n):=by
 refine ⟨by simp [h.1],fun i x v hx hv=>?_⟩;rw [yMa] at hx hv;exact h.2 _ x v hx hv
theorem Reps.take {xs:List AVal} {vs:List Value} (h:Reps K xs vs) (n:Nat):Reps K (xs.take n) (vs.take n):=by
 refine ⟨by simp [h.1],fun i x v hx hv=>?_⟩;rw [yKa] at hx hv;split at hx
 ·rename_i hi;rw [if_pos hi] at hv;exact h.2 _ x v hx hv
 ·cases hx
theorem Reps.splice {xs ys:List AVal} {vs us:List Value} (h:Reps K xs vs) (g:Reps K ys us) (off:Nat):Reps K (splice xs off ys) (vs.take off++us++vs.drop (off+us.length)):=by
 unfold Fw.splice;rw [← g.1];exact ((h.take off).append g).append (h.drop _)
theorem Qx8 {cs:List AVal} {vs:List Value} (h:Reps K cs vs) (h1:∀ u ∈ vs,u.oneCell'=true):Rep K (.agg cs) (.agg vs.toArray):=.agg cs vs h.1 h1 h.2
theorem Q54 {α:Type} {l:List α} {m n:Nat} {x:α} (h:x ∈ (l.drop m).take n):x ∈ l:=yib (yjb h)
theorem oneCell_cells {v:Value} (h:v.oneCell'=true):v.cells.toList=[v]:=by cases v <;> first|rfl|simp [Value.oneCell'] at h
theorem Qp9 {x:AVal} {v:Value} {cs:List AVal} (h:Rep K x v) (hc:Qb5 x=some cs):Reps K cs v.cells.toList ∧ ∀ u ∈ v.cells.toList,u.oneCell'=true:=by
 have one:∀ (y:AVal),Rep K y v->v.oneCell'=true->Reps K [y] v.cells.toList ∧ ∀ u ∈ v.cells.toList,u.oneCell'=true:=by
  intro y hy h1;rw [oneCell_cells h1];exact ⟨Reps.cons hy (Reps.nil K),by simp [h1]⟩
 cases x with
 | any=>simp [Qb5] at hc
 | tup _=>simp [Qb5] at hc
 | lit v0 =>
  have e:=QZ0 h;subst e;cases v <;> simp only [Qb5,yaa] at hc <;> first|(subst hc;exact one _ (.lit _) rfl)|cases hc
 | agg l =>
  simp only [Qb5,yaa] at hc;subst hc;obtain ⟨vs,rfl,hr,h1⟩:=QA7 h;exact ⟨by simpa [Value.cells] using hr,by simpa [Value.cells] using h1⟩
 | seq k n t f=>simp only [Qb5,yaa] at hc;subst hc;exact one _ h (by cases h <;> rfl)
 | ref l=>simp only [Qb5,yaa] at hc;subst hc;exact one _ h (by cases h;rfl)
 | ptr o ver k i j=>simp only [Qb5,yaa] at hc;subst hc;exact one _ h (by cases h;rfl)
 | sel o ver k i j=>simp only [Qb5,yaa] at hc;subst hc;exact one _ h (by cases h <;> rfl)
 | buf o ver k l=>simp only [Qb5,yaa] at hc;subst hc;exact one _ h (by cases h <;> rfl)
 | own o ver k f l=>simp only [Qb5,yaa] at hc;subst hc;exact one _ h (by cases h <;> rfl)
 | fn f a b=>simp only [Qb5,yaa] at hc;subst hc;exact one _ h (by cases h;rfl)
 | ifc t a=>simp only [Qb5,yaa] at hc;subst hc;exact one _ h (by cases h;rfl)
 | map o=>simp only [Qb5,yaa] at hc;subst hc;exact one _ h (by cases h;rfl)
 | yld o=>simp [Qb5] at hc
 | sub o v k i j n m=>simp only [Qb5,yaa] at hc;subst hc;exact one _ h (by cases h;rfl)
theorem Qib {t:TypeId} {b:Bool} (h:aggA P t=some b):(isAgg t).run P w = .ok b w:=by
 unfold aggA at h;cases hu:P.underlying t with
 | none=>simp [hu] at h
 | some d =>
  simp only [hu] at h;cases d <;> simp only [yaa] at h <;> subst h <;> simp [isAgg,run_underlying hu]
theorem Q26 {t:TypeId} (h:(P.info? t).isSome=true):(sizeOf t).run P w = .ok (sizeA P t) w:=by
 cases hi:P.info? t with
 | none=>simp [hi] at h
 | some i=>simp [sizeOf,typeInfo,hi,sizeA]
theorem Qgb {t:TypeId} {d:TypeDesc} (h:P.underlying t=some d):(P.info? t).isSome=true:=by
 unfold Program.underlying at h;cases hi:P.info? t with
 | none=>simp [hi] at h
 | some i=>rfl
theorem Q9e {t:TypeId} {b:Bool} (h:aggA P t=some b):(P.info? t).isSome=true:=by
 unfold aggA at h;cases hu:P.underlying t with
 | none=>simp [hu] at h
 | some d=>exact Qgb hu
theorem QLa {t:TypeId} {cs:List AVal} {vs:List Value} {off:Nat} {a:AVal} (h:partA P t cs off=some a) (hr:Reps K cs vs) (h1:∀ u ∈ vs,u.oneCell'=true) :
  ∃ u,(part t vs.toArray off).run P w = .ok u w∧Rep K a u:=by
 unfold partA at h;cases ha:aggA P t with
 | none=>simp [ha] at h
 | some b =>
  simp only [ha] at h;cases b with
  | true =>
   cases hle:Nat.ble (off+sizeA P t) cs.length with
   | false=>simp [hle] at h
   | true =>
    simp only [hle,cond_true,yaa] at h;subst h;have hsz:=yfa hle;refine ⟨.agg ((vs.drop off).take (sizeA P t)).toArray,?_,Qx8 ((hr.drop off).take _) (fun u hu=>h1 u (Q54 hu))⟩;simp only [part,yqa,Qib ha,yga,if_true,Q26 (Q9e ha),yta]
    congr 2
    apply Array.ext';simp [List.drop_take]
  | false =>
   simp only at h;obtain ⟨v,hv,hrv⟩:=hr.get h;refine ⟨v,?_,hrv⟩;simp [part,Qib ha,hv]
theorem Qtb {t:TypeId} {cs:List AVal} {off b base:Nat} {a:AVal} (u:Nat->Value) (h:partA P t cs off=some a)
  (hM:∀ j,j<cs.length->w.cell? ⟨b,base+j,none⟩=some (u j)) (h1:∀ j,j<cs.length->(u j).oneCell'=true) (hr:∀ (j:Nat) (x:AVal),cs[j]? = some x->Rep K x (u j)) :
  ∃ v,(loadVar t ⟨b,base+off,none⟩).run P w = .ok v w∧Rep K a v:=by
 unfold partA at h;cases ha:aggA P t with
 | none=>simp [ha] at h
 | some bb =>
  simp only [ha] at h;cases bb with
  | true =>
   cases hle:Nat.ble (off+sizeA P t) cs.length with
   | false=>simp [hle] at h
   | true =>
    simp only [hle,cond_true,yaa] at h;subst h;have hsz:=yfa hle;refine ⟨.agg ((List.range (sizeA P t)).map fun j=>u (off+j)).toArray,?_,Qx8 ⟨by simp;omega,fun i x v hx hv=>?_⟩ (fun v hv=>?_)⟩
    ·simp only [loadVar,yqa,Qib ha,yga,if_true,Q26 (Q9e ha),yta];rw [run_loadCells w ⟨b,base+off,none⟩ (sizeA P t) (fun j=>u (off+j)) (fun j hj=>by rw [add_lit,yfb];exact hM (off+j) oA)]
     rfl
    ·rw [yKa] at hx;split at hx
     ·rename_i hi;rw [yMa] at hx;simp only [yra,ygb hi,yBa,yaa] at hv;subst hv;exact hr _ x hx
     ·cases hx
    ·simp only [ypb,y5a] at hv;obtain ⟨j,hj,rfl⟩:=hv;exact h1 _ oA
  | false =>
   simp only at h;have hlt:off<cs.length:=(List.getElem?_eq_some_iff.1 h).1;refine ⟨u off,?_,hr off a h⟩;simp only [loadVar,yqa,Qib ha,yga,y1a,if_false,run_load,hM off hlt]
theorem Ql7 {o ver k:Nat} {te:TypeId} {es:List (List AVal)} (h:rowOf objs o ver k=some (te,es)):objs[o]? = some (ver,.row te k es):=by
 unfold rowOf at h;split at h
 ·rename_i v t k' es' heq;cases hb:Nat.beq v ver&&Nat.beq k' k with
  | false=>simp [hb] at h
  | true =>
   simp only [hb,cond_true,yaa,yDa] at h;simp only [yha] at hb;obtain ⟨rfl,rfl⟩:=h;rw [heq,yla hb.1,yla hb.2]
 ·cases h
def Does (P:Program) (s:Sem Next) (w:World) (K:Ctx) (objs:Objs) (v:AVal):Prop :=
 ∃ u w' K',(s.run P w = .ok (.value u) w'∨(s.run P w = .ok .skip w'∧u=undef))∧Ctx.le K K'∧MemSat K' objs w'∧Rep K' v u
theorem Does.same {s:Sem Next} {v:AVal} {u:Value} (hm:MemSat K objs w) (h:s.run P w = .ok (.value u) w) (hr:Rep K v u):Does P s w K objs v :=
 ⟨u,w,K,.inl h,.refl K,hm,hr⟩
theorem esLen (hm:MemSat K objs w) {o ver k:Nat} {te:TypeId} {es:List (List AVal)} (hp:objs[o]? = some (ver,.row te k es)) {i:Nat} {e:List AVal} (he:es[i]? = some e):e.length=k∧K.C o ver ≠ 0:=by
 obtain ⟨h1,h2,_⟩:=hm.obj o _ hp;have:=(List.getElem?_eq_some_iff.1 he).1;have h2':es.length<=K.C o ver:=h2;exact ⟨h1 e (yza he),by omega⟩
theorem Qqe (hm:MemSat K objs w) {t:TypeId} {p a:AVal} {v:Value} (hp:Rep K p v) (h:loadA P t p objs = .val a) :
  ∃ u,(Instr.loadAt t v).run P w = .ok u w∧Rep K a u:=by
 cases p with
 | ref cs =>
  simp only [loadA,Q7b] at h;cases hpa:partA P t cs 0 with
  | none=>simp [hpa] at h
  | some a' =>
   simp only [hpa,ORes.val.injEq] at h;subst h;obtain ⟨b,off,u,rfl,hM,hr⟩:=rep_ref hp;obtain ⟨x,hx,hrx⟩:=Qtb (w:=w) (b:=b) (base:=off) u hpa (fun j hj=>(hm.mem _ _ _ (hM j hj)).1) (fun j hj=>(hm.mem _ _ _ (hM j hj)).2) hr;exact ⟨x,by simpa [Instr.loadAt,Instr.sureAddr] using hx,hrx⟩
 | ptr o ver k i j =>
  simp only [loadA,Q7b] at h;cases hro:rowOf objs o ver k with
  | none=>simp [hro] at h
  | some q =>
   obtain ⟨te,es⟩:=q;simp only [hro] at h;cases he:es[i]? with
   | none=>simp [he] at h
   | some e =>
    simp only [he] at h;cases hpa:partA P t e j with
    | none=>simp [hpa] at h
    | some a' =>
     simp only [hpa,ORes.val.injEq] at h;subst h;obtain ⟨rfl,ho,hv⟩:=Qh5 hp;have hobj:=Ql7 hro;obtain ⟨hek,hC⟩:=esLen hm hobj he;obtain ⟨c,hc,hs,h1,hr⟩:=hm.rowBlock hobj hC;have cell:∀ j,j<e.length -> ∃ u,c[i*k+j]? = some u ∧ ∀ x,e[j]? = some x->Rep K x u:=by
      intro j hj;obtain ⟨u,hu,hru⟩:=hr i j e _ he (yba hj);exact ⟨u,hu,fun x hx=>by rw [yba hj,yaa] at hx;subst hx;exact hru⟩
     obtain ⟨x,hx,hrx⟩:=Qtb (K:=K) (w:=w) (b:=K.ρ o ver) (base:=i*k) (fun j=>(c[i*k+j]?).getD undef) hpa
      (fun j hj=>by obtain ⟨u,hu,_⟩:=cell j hj;obtain ⟨fr,_,hcb⟩:=hc;simp [World.cell?,hcb,hu])
      (fun j hj=>by obtain ⟨u,hu,_⟩:=cell j hj;simp only [hu,yFa];exact h1 u (Array.mem_toList_iff.2 (yVb hu)))
      (fun j x hx=>by obtain ⟨u,hu,hru⟩:=cell j (List.getElem?_eq_some_iff.1 hx).1;simp only [hu,yFa];exact hru x hx)
     exact ⟨x,by simpa [Instr.loadAt,Instr.sureAddr] using hx,hrx⟩
 | _=>simp [loadA] at h
theorem QN2 (P:Program) (g o:Nat) (t:TypeId) (fr:Nat × Nat):∀ (vs:List Value) (i:Nat) (cur:Array Value) (w:World),w.heap[g]? = some (.cells cur t fr)->frFree fr cur.size->o+i+vs.length<=cur.size->(∀ v ∈ vs,v.oneCell'=true) ->
  (storeCells ⟨g,o,none⟩ vs i).run P w = .ok () (w.setRow g (cur.toList.take (o+i)++vs++cur.toList.drop (o+i+vs.length)).toArray)
 | [],i,cur,w,hg,_,_,_=>by
  simp only [storeCells,yub,y0a,yhb,List.take_append_drop,yJa];rw [setRow_self w g cur t fr hg]
  rfl
 | v :: rest,i,cur,w,hg,hfr,hl,h1=>by
  have hi:o+i<cur.size:=by simp at hl;omega
  have hadd:(⟨g,o,none⟩:Addr).add i=⟨g,o+i,none⟩:=by unfold Addr.add;split <;> simp_all
  have hcell:w.cell? ⟨g,o+i,none⟩=some cur[o+i]:=by simp [World.cell?,hg,hi]
  have hfro:w.frozen? ⟨g,o+i,none⟩=false:=by
   have:=hfr (o+i) hi;obtain ⟨lo,hi'⟩:=fr;simp only at this;simp only [World.frozen?,hg,yFb,yua,y3a];intro h1 h2;exact this ⟨h1,h2⟩
  have hst:(store ((⟨g,o,none⟩:Addr).add i) v).run P w = .ok () (w.setRow g (cur.setIfInBounds (o+i) v)):=by
   rw [hadd,run_store P w _ v _ (h1 v (by simp)),hcell];simp [hfro,setCell_eq_setRow w g (o+i) cur t fr v hg]
  have ih:=QN2 P g o t fr rest (i+1) (cur.setIfInBounds (o+i) v) (w.setRow g (cur.setIfInBounds (o+i) v)) (setRow_heap w g cur _ t _ hg) (by simpa using hfr) (by simp at hl ⊢;omega) (fun x hx=>h1 x (by simp [hx]));simp only [storeCells,yqa,hst,yga,ih,setRow_setRow]
  congr 3
  have e:=list_seg_step cur.toList (o+i) v rest (by simp at hl ⊢;omega);simpa [yrb,yfb] using e
theorem storeA_sound (hm:MemSat K objs w) {t:TypeId} {p x a:AVal} {v u:Value} {objs':Objs} (hp:Rep K p v) (hx:Rep K x u) (hty:(P.info? t).isSome=true) (h:Qm9 P t p x objs = .upd a objs') :
  ∃ w',(Instr.storeAt t v u).run P w = .ok () w'∧MemSat K objs' w'∧a = .lit undef:=by
 unfold Qm9 at h;simp only [Q7b] at h;split at h
 ·rename_i o ver k i j cs hcs;cases hro:rowOf objs o ver k with
  | none=>simp [hro] at h
  | some q =>
   obtain ⟨te,es⟩:=q;simp only [hro] at h;cases he:es[i]? with
   | none=>simp [he] at h
   | some e =>
    simp only [he] at h;cases hb:Nat.beq cs.length (sizeA P t)&&Nat.ble (j+cs.length) e.length with
    | false=>simp [hb] at h
    | true =>
     simp only [hb,cond_true,ORes.upd.injEq] at h;obtain ⟨rfl,rfl⟩:=h;simp only [yha] at hb;have hsz:=yla hb.1;have hfit:=yfa hb.2;obtain ⟨rfl,ho,hv⟩:=Qh5 hp;have hobj:=Ql7 hro;obtain ⟨hek,hC⟩:=esLen hm hobj he;obtain ⟨c,hc,hs,h1,hr⟩:=hm.rowBlock hobj hC;obtain ⟨hrc,h1c⟩:=Qp9 hx hcs;have hi:i<es.length:=(List.getElem?_eq_some_iff.1 he).1;have hesC:es.length<=K.C o ver:=(hm.obj o _ hobj).2.1;have hbound:i*k+k<=c.size:=by
      rw [hs]
      calc i*k+k=(i+1)*k:=by rw [y4a,yLb]
       _<=K.C o ver*k:=yHa k oA
     have hlen:u.cells.toList.length=cs.length:=hrc.1;have hstore:(storeCells ⟨K.ρ o ver,i*k+j,none⟩ u.cells.toList 0).run P w = .ok () (w.setRow (K.ρ o ver) (List.take (i*k+j+0) c.toList++u.cells.toList++List.drop (i*k+j+0+u.cells.toList.length) c.toList).toArray):=by
      obtain ⟨fr,hfr,hcb⟩:=hc;exact QN2 P (K.ρ o ver) (i*k+j) te fr u.cells.toList 0 c w hcb (hfr.le (Nat.le_add_right _ _)) (by rw [hlen];omega) h1c
     simp only [yhb] at hstore;refine ⟨w.setRow (K.ρ o ver) (List.take (i*k+j) c.toList++u.cells.toList++List.drop (i*k+j+u.cells.toList.length) c.toList).toArray,?_,hm.setRow hobj hC c (List.take (i*k+j) c.toList++u.cells.toList++List.drop (i*k+j+u.cells.toList.length) c.toList).toArray hc ?_ ?_ _ ?_ ?_ ?_,rfl⟩
     ·simp only [Instr.storeAt,Instr.sureAddr,yqa,yta,yga,storeVar,Q26 hty];have hne:¬ (u.cells.size ≠ sizeA P t):=by
       have:u.cells.size=cs.length:=by rw [← hlen];simp
       omega
      simp only [hne,if_false,yta,yga];exact hstore
     ·simp only [ymb,yma,yAa,yEa,ybb,hlen];omega
     ·intro y hy;simp only [yOb] at hy;rcases hy with (hy|hy)|hy
      ·exact h1 y (yjb hy)
      ·exact h1c y hy
      ·exact h1 y (yib hy)
     ·simpa using hesC
     ·intro y hy;rcases y6a hy with hy|rfl
      ·exact (hm.obj o _ hobj).1 y hy
      ·simp only [splice,yma,yAa,yEa];omega
     ·intro i' j' e' x' he' hx';rw [yzb] at he'
      by_cases hii:i=i'
      ·subst hii;rw [if_pos rfl,if_pos hi] at he';simp only [yaa] at he';subst he';have hj':j'<k:=by
        have:=(List.getElem?_eq_some_iff.1 hx').1;simp only [splice,yma,yAa,yEa] at this;omega
       have hel:Reps K e ((List.range k).map fun q=>(c[i*k+q]?).getD undef):=by
        refine ⟨by simp [hek],fun q y z hy hz=>?_⟩;have hq:q<k:=by have:=(List.getElem?_eq_some_iff.1 hy).1;omega
        simp only [yra,ygb hq,yBa,yaa] at hz;subst hz;obtain ⟨z,hz,hrz⟩:=hr i q e y he hy;simp only [hz,yFa];exact hrz
       obtain ⟨z,hz,hrz⟩:=(hel.splice hrc j).get hx';refine ⟨z,?_,hrz⟩;rw [← hz];simp only [y9a];rcases yGa j' j with hlt|hge
       ·rw [ypa (by simp;omega),ypa (by simp;omega),ypa (by simp;omega),ypa (by simp;omega)];rw [yKa,if_pos oA,yKa,if_pos hlt];simp only [yra,ygb hj',yBa];simp only [yVa];rw [ysa oA];simp
       ·rcases yGa j' (j+cs.length) with hlt|hge2
        ·have e1:(List.take (i*k+j) c.toList).length=i*k+j:=by simp;omega
         have e2:(List.take j ((List.range k).map fun q=>(c[i*k+q]?).getD undef)).length=j:=by simp;omega
         rw [ypa (by simp only [yma,e1,hlen];omega),yva (by rw [e1];omega),e1];rw [ypa (by simp only [yma,e2,hlen];omega),yva (by rw [e2];omega),e2]
         congr 1
         omega
        ·have e1:(List.take (i*k+j) c.toList++u.cells.toList).length=i*k+j+cs.length:=by simp only [yma,yAa,ybb,hlen];omega
         have e2:(List.take j ((List.range k).map fun q=>(c[i*k+q]?).getD undef)++u.cells.toList).length=j+cs.length:=by simp only [yma,yAa,yxa,yOa,hlen];omega
         rw [yva (by rw [e1];omega),e1,yva (by rw [e2];omega),e2];simp only [yMa,hlen];have e3:j+cs.length+(j' - (j+cs.length))=j':=by omega
         have e4:i*k+j+cs.length+(i*k+j' - (i*k+j+cs.length))=i*k+j':=by omega
         rw [e3,e4];simp only [yra,ygb hj',yBa,yVa];rw [ysa oA];simp
      ·rw [if_neg hii] at he';obtain ⟨z,hz,hrz⟩:=hr i' j' e' x' he' hx';refine ⟨z,?_,hrz⟩;rw [← hz];have hj':j'<k:=by
        have h3:=(hm.obj o _ hobj).1 e' (yza he');have h4:=(List.getElem?_eq_some_iff.1 hx').1;omega
       simp only [y9a];have e1:(List.take (i*k+j) c.toList).length=i*k+j:=by simp;omega
       have e2:(List.take (i*k+j) c.toList++u.cells.toList).length=i*k+j+cs.length:=by simp only [yma,e1,hlen]
       rcases Nat.lt_or_gt_of_ne hii with hlt|hgt
       ·have:(i+1)*k<=i'*k:=yHa k hlt;rw [y4a,yLb] at this;rw [yva (by rw [e2];omega),e2,yMa,hlen];have e4:i*k+j+cs.length+(i'*k+j' - (i*k+j+cs.length))=i'*k+j':=by omega
        rw [e4];simp
       ·have:(i'+1)*k<=i*k:=yHa k hgt;rw [y4a,yLb] at this;rw [ypa (by rw [e2];omega),ypa (by rw [e1];omega),yKa,if_pos oA];simp
 ·cases h
end
section
variable {K:Ctx} {P:Program} {w:World} {objs:Objs}
theorem Qz4 {t:TypeId} {z:List AVal} (h:zeroA P t=some z):∃ (i:TypeInfo) (v:Value),P.info? t=some i∧i.zero=some v∧z=v.cells.toList.map .lit∧(∀ u ∈ v.cells.toList,u.oneCell'=true)∧v.cells.size=i.size:=by
 unfold zeroA at h;cases hi:P.info? t with
 | none=>simp [hi] at h
 | some i =>
  simp only [hi] at h;cases hz:i.zero with
  | none=>simp [hz] at h
  | some v =>
   simp only [hz] at h;cases hb:v.cells.toList.all (·.oneCell')&&Nat.beq v.cells.size i.size with
   | false=>rw [hb] at h;cases h
   | true =>
    rw [hb] at h;simp only [cond_true,yaa] at h;simp only [yha,y7a] at hb;exact ⟨i,v,rfl,hz,h.symm,hb.1,yla hb.2⟩
theorem QFe (vs:List Value):Reps K (vs.map .lit) vs:=by
 refine ⟨by simp,fun i x v hx hv=>?_⟩;simp only [yra,hv,yBa,yaa] at hx;subst hx;exact .lit v
theorem Qse (hm:MemSat K objs w) (t:TypeId) (v:Value) (cs:List AVal) (hr:Reps K cs v.cells.toList) (h1:∀ u ∈ v.cells.toList,u.oneCell'=true) :
  ∃ a w' K',(newVar t v).run P w = .ok a w'∧K.le K'∧MemSat K' (objs++[(0,.row t cs.length [cs])]) w'∧Rep K' (.ptr objs.length 0 cs.length 0 0) (.pointer (some a)):=by
 refine ⟨⟨w.heap.size,0,none⟩,w.alloc (.cells v.cells t),K.newObj w.heap.size 1,by simp [newVar,newRow],Q92 K _ _,hm.addRow t cs.length [cs] v.cells 1 oA (by simp) (by have:=hr.1;simp at this;omega) (by simp) h1 ?_,?_⟩
 ·intro i j e x he hx;cases i with
  | zero =>
   simp only [yab,yaa] at he;subst he;obtain ⟨u,hu,hru⟩:=hr.get hx;exact ⟨u,by simpa using hu,hru⟩
  | succ i=>simp at he
 ·have:=Rep.ptr (K:=K.newObj w.heap.size 1) objs.length 0 cs.length 0 0 (by simp [Ctx.newObj,hm.len]) (yna _);have e2:(K.newObj w.heap.size 1).ρ objs.length 0=w.heap.size:=by simp [Ctx.newObj,hm.len]
  rw [e2] at this;simpa using this
theorem alloc_sound (hm:MemSat K objs w) {t:TypeId} {z:List AVal} (h:zeroA P t=some z) :
  ∃ u w' K',(Instr.alloc t true (.tuple #[])).run P w = .ok u w'∧K.le K'∧MemSat K' (objs++[(0,.row t z.length [z])]) w'∧Rep K' (.ptr objs.length 0 z.length 0 0) u:=by
 obtain ⟨i,v,hi,hz,rfl,h1,hs⟩:=Qz4 h;obtain ⟨a,w',K',hrun,hle,hm',hr⟩:=Qse (P:=P) hm t v (v.cells.toList.map .lit) (QFe _) h1;exact ⟨.pointer (some a),w',K',by simp [Instr.alloc,zeroValue,typeInfo,hi,hz,hrun],hle,hm',hr⟩
theorem box_sound (hm:MemSat K objs w) {t:TypeId} {x:AVal} {v:Value} {cs:List AVal} (hx:Rep K x v) (h:Qb5 x=some cs) :
  ∃ u w' K',(Instr.box t v).run P w = .ok u w'∧K.le K'∧MemSat K' (objs++[(0,.row t cs.length [cs])]) w'∧Rep K' (.ptr objs.length 0 cs.length 0 0) u:=by
 obtain ⟨hr,h1⟩:=Qp9 hx h;obtain ⟨a,w',K',hrun,hle,hm',hr'⟩:=Qse (P:=P) hm t v cs hr h1;exact ⟨.pointer (some a),w',K',by simp [Instr.box,hrun],hle,hm',hr'⟩
theorem foldl_set (l:List Value):∀ (cs:Array Value) (off n:Nat),off+n+l.length<=cs.size ->
  ((l.toArray.zipIdx n).foldl (fun cs (c,j)=>cs.setIfInBounds (off+j) c) cs).toList=cs.toList.take (off+n)++l++cs.toList.drop (off+n+l.length):=by
 induction l with
 | nil =>
  intro cs off n _;have e:(([]:List Value).toArray.zipIdx n) = #[]:=by apply Array.ext';simp
  rw [e];simp
 | cons v l ih =>
  intro cs off n h;simp only [yLa] at h;have e:(v :: l).toArray.zipIdx n = #[(v,n)]++l.toArray.zipIdx (n+1):=by
   apply Array.ext';simp
  rw [e,Array.foldl_append];have:=ih (cs.setIfInBounds (off+n) v) off (n+1) (by simp;omega);simp only [List.foldl_toArray',yBb,List.foldl_nil] at this ⊢;rw [this];have hstep:=list_seg_step cs.toList (off+n) v l (by simp;omega);simp only [yrb];rw [← yfb off n 1];simpa [yfb,Nat.add_comm,Nat.add_left_comm] using hstep
theorem Qt7 (place:Nat->Option (Nat × Nat)):∀ (ps:List (Nat × AVal)) (qs:List (Nat × Value)) (cells:List AVal) (vs:List Value) (cs:List AVal),
  qs.length=ps.length->(∀ (i:Nat) (p:Nat × AVal) (q:Nat × Value),ps[i]? = some p->qs[i]? = some q->q.1=p.1∧Rep K p.2 q.2)->Reps K cells vs->(∀ u ∈ vs,u.oneCell'=true)->fillA place cells ps=some cs ->
  ∃ us:List Value,Instr.fill place vs.toArray qs=some us.toArray∧Reps K cs us ∧ ∀ u ∈ us,u.oneCell'=true
 | [],qs,cells,vs,cs,hl,_,hr,h1,h=>by
  have:qs=[]:=yCa (by simpa using hl);subst this;simp only [fillA,yaa] at h;subst h;exact ⟨vs,rfl,hr,h1⟩
 | (i,x) :: ps,[],cells,vs,cs,hl,_,hr,h1,h=>by simp at hl
 | (i,x) :: ps,(i',v) :: qs,cells,vs,cs,hl,hpq,hr,h1,h=>by
  obtain ⟨e0,hxv⟩:=hpq 0 _ _ rfl rfl;simp only at e0 hxv;subst e0;simp only [fillA] at h;cases hp:place i' with
  | none=>simp [hp] at h
  | some os =>
   obtain ⟨off,size⟩:=os;cases hc:Qb5 x with
   | none=>simp [hp,hc] at h
   | some cx =>
    simp only [hp,hc] at h;cases hb:Nat.beq cx.length size&&Nat.ble (off+cx.length) cells.length with
    | false=>simp [hb] at h
    | true =>
     simp only [hb,cond_true] at h;simp only [yha] at hb;have hsz:=yla hb.1;have hfit:=yfa hb.2;obtain ⟨hrc,h1c⟩:=Qp9 hxv hc;have hlen:v.cells.size=cx.length:=by rw [← hrc.1];simp
     have hvl:vs.length=cells.length:=hr.1;have hset:=foldl_set v.cells.toList vs.toArray off 0 (by simp;omega)
     obtain ⟨us,hus,hrus,h1us⟩:=Qt7 place ps qs (splice cells off cx) (vs.take off++v.cells.toList++vs.drop (off+v.cells.toList.length)) cs (by simpa using hl)
      (fun i p q hp hq=>hpq (i+1) p q (by simpa using hp) (by simpa using hq)) (hr.splice hrc off)
      (fun u hu=>by
       simp only [yOb] at hu;rcases hu with (hu|hu)|hu
       ·exact h1 u (yjb hu)
       ·exact h1c u hu
       ·exact h1 u (yib hu)) h
     refine ⟨us,?_,hrus,h1us⟩;simp only [Instr.fill,hp];rw [if_neg (by simp;omega)];have e:v.cells.zipIdx.foldl (fun cs (c,j)=>cs.setIfInBounds (off+j) c) vs.toArray=(vs.take off++v.cells.toList++vs.drop (off+v.cells.toList.length)).toArray:=by
      apply Array.ext';have h2:=hset;simp only [yJa,yhb] at h2;exact h2
     rw [e];exact hus
theorem mapM_sizes (fs:List Field) (h:∀ f ∈ fs,(P.info? f.type).isSome=true) :
  fs.mapM (fun f=>(P.info? f.type).map fun i=>(f.offset,i.size))=some (fs.map fun f=>(f.offset,sizeA P f.type)):=by
 induction fs with
 | nil=>rfl
 | cons f fs ih =>
  have ih':=ih (fun g hg=>h g (by simp [hg]));have hf:=h f (by simp);cases hi:P.info? f.type with
  | none=>simp [hi] at hf
  | some i=>simp [List.mapM_cons,hi,ih',sizeA]
theorem buildA_sound {t:TypeId} {ps:List (Nat × AVal)} {qs:List (Nat × Value)} {a:AVal} (hl:qs.length=ps.length)
  (hpq:∀ (i:Nat) (p:Nat × AVal) (q:Nat × Value),ps[i]? = some p->qs[i]? = some q->q.1=p.1∧Rep K p.2 q.2) (h:Qda P t ps = .val a)
  (hfs:∀ fs,P.underlying t=some (.struct fs) -> ∀ f ∈ fs.toList,(P.info? f.type).isSome=true) (hel:∀ n e,P.underlying t=some (.array n e)->(P.info? e).isSome=true) :
  ∃ u,(Instr.build t qs.toArray).run P w = .ok u w∧Rep K a u:=by
 unfold Qda at h;split at h
 ·rename_i fs z hu hz;obtain ⟨i,v,hi,hz0,rfl,h1,hs⟩:=Qz4 hz;split at h
  ·rename_i cs hf;simp only [ORes.val.injEq] at h;subst h;obtain ⟨us,hus,hrus,h1us⟩:=Qt7 (K:=K) _ ps qs _ v.cells.toList cs hl hpq (QFe _) h1 hf;refine ⟨.agg us.toArray,?_,Qx8 hrus h1us⟩;have hpl:QUa P fs=(fun x:Nat=>(fs.toList.map fun (f:Field)=>(f.offset,sizeA P f.type))[x]?):=by
    funext x
    simp only [QUa,yra,yVa];cases fs[x]? <;> rfl
   have hus':=hus;rw [hpl] at hus';simp only [yJa] at hus';have hb:P.built t qs=some us.toArray:=by
    simp only [Program.built,hi,hu,hz0,mapM_sizes fs.toList (hfs fs hu)];simpa using hus'
   exact run_build w t qs.toArray us.toArray (by simpa using hb)
  ·cases h
 ·rename_i n e z hu hz;obtain ⟨i,v,hi,hz0,rfl,h1,hs⟩:=Qz4 hz;split at h
  ·rename_i cs hf;simp only [ORes.val.injEq] at h;subst h;obtain ⟨us,hus,hrus,h1us⟩:=Qt7 (K:=K) _ ps qs _ v.cells.toList cs hl hpq (QFe _) h1 hf;refine ⟨.agg us.toArray,?_,Qx8 hrus h1us⟩;have hus':=hus;simp only [yJa] at hus';simp [Instr.build,zeroValue,typeInfo,hi,hz0,run_underlying hu,Q26 (hel n e hu),hus']
  ·cases h
 ·cases h
end
section
variable {K:Ctx} {P:Program} {w:World} {objs:Objs}
theorem QB7 {k n:Nat} {t:Bool} {f:Nat->List AVal} {v:Value} (h:Rep K (.seq k n t f) v) :
  ∃ (A:Option Addr) (c:Nat),v = .slice A n c∧n<=c∧(t=true->c=n)∧(A=none->n=0∧c=0) ∧
   (0<n -> ∃ (b off:Nat) (u:Nat->Nat->Value),A=some ⟨b,off,none⟩∧(∀ i,i<n->(f i).length=k)∧(∀ i j,i<n->j<k->K.M b (off+(i*k+j))=some (u i j)) ∧
    ∀ (i j:Nat) (x:AVal),i<n->(f i)[j]? = some x->Rep K x (u i j)):=by
 cases h with
 | nil=>exact ⟨none,0,rfl,yia _,fun _=>rfl,fun _=>⟨rfl,rfl⟩,fun h=>absurd h oA⟩
 | empty _ _ _ a c ht=>exact ⟨some a,c,rfl,yna _,ht,(fun h=>by cases h),fun h=>absurd h oA⟩
 | seq _ _ _ _ b off c u hc ht hk hM h=>exact ⟨some ⟨b,off,none⟩,c,rfl,hc,ht,(fun h=>by cases h),fun _=>⟨b,off,u,rfl,hk,hM,h⟩⟩
theorem Qj7 {k n:Nat} {t:Bool} {f:Nat->List AVal} {A:Option Addr} {c:Nat} (hc:n<=c) (ht:t=true->c=n) (hA:A=none->n=0∧c=0)
  (h:0<n -> ∃ (b off:Nat) (u:Nat->Nat->Value),A=some ⟨b,off,none⟩∧(∀ i,i<n->(f i).length=k)∧(∀ i j,i<n->j<k->K.M b (off+(i*k+j))=some (u i j)) ∧
    ∀ (i j:Nat) (x:AVal),i<n->(f i)[j]? = some x->Rep K x (u i j)):Rep K (.seq k n t f) (.slice A n c):=by
 rcases ySa n with h0|h0
 ·subst h0;cases A with
  | none=>obtain ⟨_,rfl⟩:=hA rfl;exact .nil k t f
  | some a=>exact .empty k t f a c ht
 ·obtain ⟨b,off,u,rfl,hk,hM,hr⟩:=h h0;exact .seq k n t f b off c u hc ht hk hM hr
theorem QC7 {k n:Nat} {t:Bool} {f:Nat->List AVal} {x:AVal} {v:Value} (hx:Rep K x v) (h:seqOf k x=some (n,t,f)):Rep K (.seq k n t f) v:=by
 unfold seqOf at h;split at h
 ·rename_i k' n' t' f';cases hb:Nat.beq k k' with
  | false=>rw [hb] at h;cases h
  | true =>
   rw [hb] at h;simp only [cond_true,yaa,yDa] at h;obtain ⟨rfl,rfl,rfl⟩:=h;rw [yla hb];exact hx
 ·simp only [yaa,yDa] at h;obtain ⟨rfl,rfl,rfl⟩:=h;have:=QZ0 hx;subst this;exact .nil k true _
 ·cases h
theorem QC5 {x:AVal} {v:Value} {n:Int} (hx:Rep K x v) (h:Qhb x=some n):∃ k,v = .int k n:=by
 unfold Qhb at h;split at h
 ·simp only [yaa] at h;subst h;exact ⟨_,QZ0 hx⟩
 ·cases h
theorem Qp8 {t e:TypeId} (h:elemA P t=some e):P.underlying t=some (.slice e):=by
 unfold elemA at h;split at h
 ·rename_i hu;simp only [yaa] at h;subst h;exact hu
 ·cases h
theorem ref_of_seq {k n:Nat} {t:Bool} {f:Nat->List AVal} {A:Option Addr} {c:Nat} (h:Rep K (.seq k n t f) (.slice A n c)) {i:Nat} (hi:i<n) :
  ∃ b off,A=some ⟨b,off,none⟩∧Rep K (.ref (f i)) (.pointer (some ⟨b,off+i*k,none⟩)):=by
 obtain ⟨A',c',hv,_,_,_,h'⟩:=QB7 h;simp only [Value.slice.injEq] at hv;obtain ⟨rfl,_,rfl⟩:=hv;obtain ⟨b,off,u,hA,hk,hM,hr⟩:=h' oA;refine ⟨b,off,hA,.ref (f i) b (off+i*k) (u i) (fun j hj=>?_) (fun j x hx=>hr i j x hi hx)⟩;rw [hk i hi] at hj;rw [yfb];exact hM i j hi hj
theorem Qv5 {o ver k off len:Nat} {v:Value} (h:Rep K (.own o ver k off len) v):o<K.n∧ver<=K.vs o∧((off=0∧len=0∧v = .slice none 0 0) ∨ ∃ a c,v = .slice (some a) len c∧len<=c∧off+c<=K.C o ver∧(c ≠ 0->a=⟨K.ρ o ver,off*k,none⟩)):=by
 cases h with
 | own _ _ _ _ _ ho hv a c hl hC ha=>exact ⟨ho,hv,.inr ⟨a,c,rfl,hl,hC,ha⟩⟩
 | ownNil _ _ _ ho hv=>exact ⟨ho,hv,.inl ⟨rfl,rfl,rfl⟩⟩
theorem Qad {t:TypeId} {x i r:AVal} {v iv:Value} {b:Bool} (hx:Rep K x v) (hi:Rep K i iv) (h:Qi4 P t x i = .ifb b r) (hb:b=true)
  (hel:∀ e,P.underlying t=some (.slice e)->(P.info? e).isSome=true) (hel':∀ n e,P.underlying t=some (.array n e)->(P.info? e).isSome=true) :
  ∃ u,(Instr.indexAt t v iv).run P w = .ok u w∧Rep K r u:=by
 subst hb;unfold Qi4 at h;split at h
 ·rename_i e n hu hn;obtain ⟨ki,rfl⟩:=QC5 hi hn;have hsz:=Q26 (w:=w) (hel e hu);split at h
  ·rename_i o ver k off len;cases hk:Nat.beq k (sizeA P e) with
   | false=>rw [hk] at h;cases h
   | true =>
    rw [hk] at h;simp only [cond_true,ORes.ifb.injEq,yua] at h;obtain ⟨⟨h0,h1⟩,rfl⟩:=h;have hk':=yla hk;obtain ⟨ho,hv,hcase⟩:=Qv5 hx;rcases hcase with ⟨rfl,rfl,rfl⟩|⟨a,c,rfl,hl,hC,ha⟩
    ·omega
    ·have hc0:c ≠ 0:=by omega
     have:=ha hc0;subst this;refine ⟨.pointer (some ⟨K.ρ o ver,(off+n.toNat)*k+0,none⟩),?_,.ptr o ver k _ 0 ho hv⟩;simp only [Instr.indexAt,asIntOf,yqa,yta,yga,run_underlying hu];rw [if_pos ⟨h0,by omega⟩];simp only [yqa,hsz,yga,yta,add_lit,← hk'];rw [y4a]
     rfl
  ·rename_i o ver k a j l m;cases hk:Nat.beq m (sizeA P e) with
   | false=>rw [hk] at h;cases h
   | true =>
    rw [hk] at h;simp only [cond_true,ORes.ifb.injEq,yua] at h;obtain ⟨⟨h0,h1⟩,rfl⟩:=h;have hk':=yla hk;cases hx with
    | sub _ _ _ _ _ _ _ c ho hv hc =>
     refine ⟨.pointer (some ⟨K.ρ o ver,a*k+(j+n.toNat*m),none⟩),?_,.ptr o ver k a _ ho hv⟩;simp only [Instr.indexAt,asIntOf,yqa,yta,yga,run_underlying hu];rw [if_pos ⟨h0,by omega⟩];simp only [yqa,hsz,yga,yta,add_lit,← hk',yfb]
  ·split at h
   ·rename_i len t' f hs;simp only [ORes.ifb.injEq,yua] at h;obtain ⟨⟨h0,h1⟩,rfl⟩:=h;have hseq:=QC7 hx hs;obtain ⟨A,c,rfl,hc,_,_,_⟩:=QB7 hseq;obtain ⟨b,off,rfl,hr⟩:=ref_of_seq hseq (i:=n.toNat) oA;refine ⟨_,?_,hr⟩;simp only [Instr.indexAt,asIntOf,yqa,yta,yga,run_underlying hu];rw [if_pos ⟨h0,by omega⟩];simp only [yqa,hsz,yga,yta,add_lit]
   ·cases h
 ·rename_i len e n hu hn;obtain ⟨ki,rfl⟩:=QC5 hi hn;have hsz:=Q26 (w:=w) (hel' len e hu);split at h
  ·rename_i o ver k i' j;simp only [ORes.ifb.injEq,yua] at h;obtain ⟨⟨h0,h1⟩,rfl⟩:=h;obtain ⟨rfl,ho,hv⟩:=Qh5 hx;refine ⟨.pointer (some ⟨K.ρ o ver,i'*k+(j+n.toNat*sizeA P e),none⟩),?_,.ptr o ver k i' _ ho hv⟩;simp only [Instr.indexAt,asIntOf,Instr.sureAddr,yqa,yta,yga,run_underlying hu];rw [if_pos ⟨h0,by omega⟩];simp only [yqa,hsz,yga,yta,add_lit,yfb]
  ·rename_i cs;simp only [ORes.ifb.injEq,yua] at h;obtain ⟨⟨h0,h1⟩,rfl⟩:=h;obtain ⟨b,off,u,rfl,hM,hr⟩:=rep_ref hx;refine ⟨.pointer (some ⟨b,off+n.toNat*sizeA P e,none⟩),?_,.ref _ b _ (fun j=>u (n.toNat*sizeA P e+j)) (fun j hj=>?_) (fun j x hx=>?_)⟩
   ·simp only [Instr.indexAt,asIntOf,Instr.sureAddr,yqa,yta,yga,run_underlying hu];rw [if_pos ⟨h0,by omega⟩];simp only [yqa,hsz,yga,yta,add_lit]
   ·rw [yfb];exact hM _ (by simp at hj;omega)
   ·rw [yMa] at hx;exact hr _ x hx
  ·cases h
 ·cases h
theorem QZd {t:TypeId} {i:Nat} {f:Field} (h:fieldA P t i=some f):∃ fs,P.underlying t=some (.struct fs)∧fs[i]? = some f:=by
 unfold fieldA at h;split at h
 ·rename_i fs hu;exact ⟨fs,hu,h⟩
 ·cases h
theorem sizeA_pos_info {t:TypeId} (h:sizeA P t ≠ 0):(P.info? t).isSome=true:=by
 unfold sizeA at h;cases hi:P.info? t with
 | none=>simp [hi] at h
 | some i=>rfl
theorem Q6d {t:TypeId} {x r:AVal} {v:Value} {f:Nat} (hx:Rep K x v) (h:Qg4 P t x f = .val r):∃ u,(Instr.fieldAt t v f).run P w = .ok u w∧Rep K r u:=by
 unfold Qg4 at h;split at h
 ·rename_i fd hf;obtain ⟨fs,hu,hfd⟩:=QZd hf;cases hz:Nat.beq (sizeA P fd.type) 0 with
  | true=>rw [hz] at h;cases h
  | false =>
   rw [hz] at h;simp only [cond_false] at h;have hne:sizeA P fd.type ≠ 0:=fun e=>by rw [e] at hz;cases hz
   have hsz:=Q26 (w:=w) (sizeA_pos_info hne);have run:∀ a:Addr,(Instr.fieldAt t (.pointer (some a)) f).run P w = .ok (.pointer (some (a.add fd.offset))) w:=by
    intro a;simp only [Instr.fieldAt,yqa,run_underlying hu,yga,hfd,Instr.sureAddr,yta,fieldPlace,hsz,hne,if_false]
   split at h
   ·rename_i o ver k i j;simp only [ORes.val.injEq] at h;subst h;obtain ⟨rfl,ho,hv⟩:=Qh5 hx;refine ⟨_,run _,?_⟩;rw [add_lit,yfb];exact .ptr o ver k i _ ho hv
   ·rename_i cs;simp only [ORes.val.injEq] at h;subst h;obtain ⟨b,off,u,rfl,hM,hr⟩:=rep_ref hx;refine ⟨_,run _,?_⟩;rw [add_lit];refine .ref _ b _ (fun j=>u (fd.offset+j)) (fun j hj=>?_) (fun j x hx=>?_)
    ·rw [yfb];exact hM _ (by simp at hj;omega)
    ·rw [yMa] at hx;exact hr _ x hx
   ·cases h
 ·cases h
theorem field_sound {t:TypeId} {r:AVal} {v:Value} {f:Nat} {fd:Field} {cs:List AVal} (hx:Rep K (.agg cs) v) (hf:fieldA P t f=some fd) (hp:partA P fd.type cs fd.offset=some r) :
  ∃ u,(Instr.field t v f).run P w = .ok u w∧Rep K r u:=by
 obtain ⟨fs,hu,hfd⟩:=QZd hf;obtain ⟨vs,rfl,hr,h1⟩:=QA7 hx;obtain ⟨u,hu',hru⟩:=QLa (w:=w) hp hr h1;exact ⟨u,by simp [Instr.field,run_underlying hu,hfd,asAgg,hu'],hru⟩
theorem lenA_sound {t ty:TypeId} {x r:AVal} {v:Value} (hx:Rep K x v) (h:lenA P t x = .val r):∃ u,(Builtin.len_ #[t] ty #[v]).run P w = .ok u w∧Rep K r u:=by
 unfold lenA at h;split at h <;> (try (cases h;done)) <;> simp only [ORes.val.injEq] at h <;> subst h
 ·rename_i hu;obtain ⟨A,c,rfl,_⟩:=QB7 hx;exact ⟨_,by simp [Builtin.len_,run_underlying hu,goInt],.lit _⟩
 ·rename_i hu;obtain ⟨_,_,⟨_,rfl,rfl⟩|⟨a,c,rfl,_⟩⟩:=Qv5 hx
  ·exact ⟨_,by simp [Builtin.len_,run_underlying hu,goInt],.lit _⟩
  ·exact ⟨_,by simp [Builtin.len_,run_underlying hu,goInt],.lit _⟩
 ·rename_i hu;cases hx with
  | sub _ _ _ _ _ _ _ c ho hv hc=>exact ⟨_,by simp [Builtin.len_,run_underlying hu,goInt],.lit _⟩
 ·rename_i hu;have:=QZ0 hx;subst this;exact ⟨_,by simp [Builtin.len_,run_underlying hu,goInt],.lit _⟩
 ·rename_i hu;have:=QZ0 hx;subst this;exact ⟨_,by simp [Builtin.len_,run_underlying hu,goInt],.lit _⟩
 ·rename_i hu;exact ⟨_,by simp [Builtin.len_,run_underlying hu,goInt],.lit _⟩
def RepO (K:Ctx):Option AVal->Option Value->Prop
 | none,none=>True
 | some a,some v=>Rep K a v
 | _,_=>False
theorem Qs3 {lo:Option AVal} {lv:Option Value} {l:Option Int} (h:QRc lo=some l) (hr:RepO K lo lv) :
  (l=none∧lv=none) ∨ ∃ k n,l=some n∧lv=some (.int k n):=by
 cases lo with
 | none =>
  simp only [QRc,yaa] at h;cases lv with
  | none=>exact .inl ⟨h.symm,rfl⟩
  | some v=>exact hr.elim
 | some a =>
  cases lv with
  | none=>exact hr.elim
  | some v =>
   simp only [QRc] at h;cases hn:Qhb a with
   | none=>simp [hn] at h
   | some n =>
    simp only [hn,yaa] at h;obtain ⟨k,rfl⟩:=QC5 hr hn;exact .inr ⟨k,n,h.symm,rfl⟩
theorem Q03 {k:IntKind} {i:Int} {y:Nat} {code:BoundsCode} (h0:0<=i) (h1:i<=(y:Int)):(Instr.sliceBound (.int k i) y code).run P w = .ok i.toNat w:=by
 simp only [Instr.sliceBound,asIntOf,yqa,yta,yga];rw [if_pos ⟨h0,h1⟩]
 rfl
theorem Qt4 {isSlice:Bool} {n c:Nat} {lv hv mv:Option Value} {l h m:Option Int} (hnc:n<=c)
  (hl:(l=none∧lv=none) ∨ ∃ k n,l=some n∧lv=some (.int k n)) (hh:(h=none∧hv=none) ∨ ∃ k n,h=some n∧hv=some (.int k n)) (hm:(m=none∧mv=none) ∨ ∃ k n,m=some n∧mv=some (.int k n))
  (h0:0<=l.getD 0) (h1:l.getD 0<=h.getD n) (h2:h.getD n<=m.getD c) (h3:m.getD c<=c) (hmh:m.isSome=true->h.isSome=true) :
  (Instr.sliceBounds isSlice n c lv hv mv).run P w = .ok ((l.getD 0).toNat,(h.getD n).toNat,(m.getD c).toNat) w:=by
 rcases hm with ⟨rfl,rfl⟩|⟨km,m,rfl,rfl⟩
 ·simp only [yqb] at h2 h3;rcases hh with ⟨rfl,rfl⟩|⟨kh,h,rfl,rfl⟩
  ·simp only [yqb] at h1 h2;rcases hl with ⟨rfl,rfl⟩|⟨kl,l,rfl,rfl⟩
   ·simp [Instr.sliceBounds]
   ·simp only [yFa] at h0 h1;simp [Instr.sliceBounds,Q03 (P:=P) (w:=w) h0 h1]
  ·simp only [yFa] at h1 h2;have hh0:0<=h:=by omega
   rcases hl with ⟨rfl,rfl⟩|⟨kl,l,rfl,rfl⟩
   ·simp [Instr.sliceBounds,Q03 (P:=P) (w:=w) hh0 h2]
   ·simp only [yFa] at h0 h1;have h1':l<=((h.toNat:Nat):Int):=by omega
    simp [Instr.sliceBounds,Q03 (P:=P) (w:=w) hh0 h2,Q03 (P:=P) (w:=w) h0 h1']
 ·simp only [yFa] at h2 h3;rcases hh with ⟨rfl,rfl⟩|⟨kh,h,rfl,rfl⟩
  ·exact absurd (hmh rfl) (by simp)
  ·simp only [yFa] at h1 h2;have hh0:0<=h:=by omega
   have hm0:0<=m:=by omega
   have h2':h<=((m.toNat:Nat):Int):=by omega
   rcases hl with ⟨rfl,rfl⟩|⟨kl,l,rfl,rfl⟩
   ·simp [Instr.sliceBounds,Q03 (P:=P) (w:=w) hm0 h3,Q03 (P:=P) (w:=w) hh0 h2']
   ·simp only [yFa] at h0 h1;have h1':l<=((h.toNat:Nat):Int):=by omega
    simp [Instr.sliceBounds,Q03 (P:=P) (w:=w) hm0 h3,Q03 (P:=P) (w:=w) hh0 h2',Q03 (P:=P) (w:=w) h0 h1']
theorem sliceA_sound {t:TypeId} {x r:AVal} {v:Value} {lo hi mx:Option AVal} {lv hv mv:Option Value} {b:Bool} (hx:Rep K x v)
  (hlo:RepO K lo lv) (hhi:RepO K hi hv)
  (hmx:RepO K mx mv)
  (h:Qra P t x lo hi mx = .ifb b r) (hb:b=true) (hmh:mx.isSome=true->hi.isSome=true) (hel:∀ e,P.underlying t=some (.slice e)->(P.info? e).isSome=true) (hel':∀ n e,P.underlying t=some (.array n e)->(P.info? e).isSome=true) :
  ∃ u,(Instr.sliceAt t v lv hv mv).run P w = .ok u w∧Rep K r u:=by
 subst hb;unfold Qra at h;split at h
 ·rename_i e l hh m hu hl hh' hm;have hsz:=Q26 (w:=w) (hel e hu);have Hl:=Qs3 hl hlo;have Hh:=Qs3 hh' hhi;have Hm:=Qs3 hm hmx;have hmh':m.isSome=true->hh.isSome=true:=by
   intro h1;have h2:mx.isSome=true:=by
    cases mx with
    | none=>simp only [QRc,yaa] at hm;subst hm;cases h1
    | some a=>rfl
   have h3:=hmh h2;cases hi with
   | none=>cases h3
   | some a =>
    simp only [QRc] at hh';cases ha:Qhb a with
    | none=>simp [ha] at hh'
    | some n=>simp only [ha,yaa] at hh';subst hh';rfl
  have run:∀ (A:Option Addr) (n c l' h' m':Nat),(Instr.sliceBounds true n c lv hv mv).run P w = .ok (l',h',m') w ->
    (Instr.sliceAt t (.slice A n c) lv hv mv).run P w = .ok (.slice (if m'=l' then A else A.map (·.add (l'*sizeA P e))) (h' - l') (m' - l')) w:=by
   intro A n c l' h' m' hb;simp only [Instr.sliceAt,Instr.slice,yqa,run_underlying hu,yga,hb,hsz,yta]
  split at h
  ·rename_i o ver k off len;split at h
   ·cases hk:Nat.beq k (sizeA P e) with
    | false=>rw [hk] at h;cases h
    | true =>
     rw [hk] at h;simp only [cond_true,ORes.ifb.injEq,yua] at h;obtain ⟨⟨h0,h1,h2⟩,rfl⟩:=h;have hk':=yla hk;obtain ⟨ho,hv',hcase⟩:=Qv5 hx;rcases hcase with ⟨rfl,rfl,rfl⟩|⟨a,c,rfl,hlc,hC,ha⟩
     ·have hbo:=Qt4 (P:=P) (w:=w) (isSlice:=true) (n:=0) (c:=0) (yia _) Hl Hh Hm h0 h1 (by simpa using h2) (by simp) hmh';refine ⟨_,run none 0 0 _ _ _ hbo,?_⟩;have e1:(l.getD 0).toNat=0:=by omega
      have e2:(hh.getD ((0:Nat):Int)).toNat=0:=by omega
      simp only [e1,e2];simpa using Rep.ownNil (K:=K) o ver k ho hv'
     ·have hbo:=Qt4 (P:=P) (w:=w) (isSlice:=true) (n:=len) (c:=c) hlc Hl Hh Hm h0 h1 (by simp;omega) (by simp) hmh';refine ⟨_,run (some a) len c _ _ _ hbo,?_⟩;simp only [yqb,yXa]
      by_cases hml:c=(l.getD 0).toNat
      ·rw [if_pos hml];have e3:(hh.getD (len:Int)).toNat - (l.getD 0).toNat=0:=by omega
       rw [e3];exact .own o ver k _ 0 ho hv' a _ (yna _) oA (fun hne=>absurd hne oA)
      ·rw [if_neg hml];have hc0:c ≠ 0:=by omega
       have:=ha hc0;subst this;simp only [yBa,add_lit];refine .own o ver k _ _ ho hv' _ _ oA oA (fun _=>?_);rw [← hk',y4a]
   ·cases h
  ·split at h
   ·rename_i n t' f hs;have hseq:=QC7 hx hs;obtain ⟨A,c,rfl,hc,ht,hA,hr⟩:=QB7 hseq
    have fin:∀ (m':Nat) (tt:Bool),(l.getD 0).toNat<=(hh.getD (n:Int)).toNat->(hh.getD (n:Int)).toNat<=n->(hh.getD (n:Int)).toNat<=m'->m'<=c->(tt=true->m'=(hh.getD (n:Int)).toNat) ->
      Rep K (.seq (sizeA P e) ((hh.getD (n:Int)).toNat - (l.getD 0).toNat) tt fun i=>f ((l.getD 0).toNat+i)) (.slice (if m'=(l.getD 0).toNat then A else A.map (·.add ((l.getD 0).toNat*sizeA P e))) ((hh.getD (n:Int)).toNat - (l.getD 0).toNat) (m' - (l.getD 0).toNat)):=by
     intro m' tt hlh hhn hhm hmc htt;refine Qj7 oA (fun h=>by have:=htt h;omega) (fun h=>?_) (fun hpos=>?_)
     ·split at h
      ·have:=hA h;omega
      ·cases A with
       | none=>have:=hA rfl;omega
       | some a=>cases h
     ·obtain ⟨b,off,u,rfl,hk,hM,hru⟩:=hr oA;rw [if_neg oA];refine ⟨b,off+(l.getD 0).toNat*sizeA P e,fun i j=>u ((l.getD 0).toNat+i) j,by simp [add_lit],fun i hi=>hk _ oA,fun i j hi hj=>?_,fun i j x hi hx=>hru _ j x oA hx⟩;have:=hM ((l.getD 0).toNat+i) j oA hj;rw [y4a,yfb ((l.getD 0).toNat*sizeA P e),← yfb off] at this;exact this
    split at h
    ·simp only [ORes.ifb.injEq,yua] at h;obtain ⟨⟨h0,h1,h2⟩,rfl⟩:=h;have hbo:=Qt4 (P:=P) (w:=w) (isSlice:=true) (n:=n) (c:=c) hc Hl Hh Hm h0 h1 (by simp;omega) (by simp) hmh';refine ⟨_,run A n c _ _ _ hbo,?_⟩;simp only [yqb,yXa];refine fin c _ oA oA oA (yia _) (fun htt=>?_);simp only [yha,yua] at htt;have:=ht htt.1;omega
    ·rename_i m;simp only [ORes.ifb.injEq,yua] at h;obtain ⟨⟨h0,h1,h2,h3⟩,rfl⟩:=h;have hbo:=Qt4 (P:=P) (w:=w) (isSlice:=true) (n:=n) (c:=c) hc Hl Hh Hm h0 h1 (by simpa using h2) (by simp;omega) hmh';refine ⟨_,run A n c _ _ _ hbo,?_⟩;simp only [yFa];refine fin m.toNat _ oA oA oA oA (fun htt=>?_);simp only [yua] at htt;omega
   ·cases h
 ·rename_i l hh hu hl hh' hm;have Hl:=Qs3 hl hlo;have Hh:=Qs3 hh' hhi;have Hm:=Qs3 hm hmx;split at h
  ·rename_i s;simp only [ORes.ifb.injEq,yua] at h;obtain ⟨⟨h0,h1,h2⟩,rfl⟩:=h;have:=QZ0 hx;subst this;have hmv:mv=none:=by rcases Hm with ⟨_,rfl⟩|⟨_,_,h,_⟩;rfl;cases h
   subst hmv;have hbo:=Qt4 (P:=P) (w:=w) (isSlice:=false) (n:=s.size) (c:=s.size) (yia _) Hl Hh (.inl ⟨rfl,rfl⟩) h0 h1 (by simpa using h2) (by simp) (fun h=>by cases h);refine ⟨_,?_,.lit _⟩;simp only [Instr.sliceAt,Instr.slice,yqa,run_underlying hu,yga,Option.isSome_none,y1a,if_false,hbo,yta]
  ·cases h
 ·rename_i n e hu hl hh' hm;have hsz:=Q26 (w:=w) (hel' n e hu);split at h
  ·rename_i o ver k i j;simp only [ORes.ifb.injEq,true_and] at h;subst h;obtain ⟨rfl,ho,hv⟩:=Qh5 hx;have Hl:=Qs3 hl hlo;have Hh:=Qs3 hh' hhi;have Hm:=Qs3 hm hmx;have hbo:=Qt4 (P:=P) (w:=w) (isSlice:=false) (n:=n) (c:=n) (yia _) Hl Hh Hm (by simp) (by simp) (by simp) (by simp) (fun h=>by cases h);refine ⟨.slice (some ⟨K.ρ o ver,i*k+j,none⟩) n n,?_,.sub o ver k i j n _ n ho hv (yia _)⟩;simp only [Instr.sliceAt,Instr.sureAddr,yqa,run_underlying hu,yga,hbo,hsz,yta,yqb,yXa,Int.toNat_zero,yGb,yWb,Addr.add,if_true,ite_self]
  ·cases h
 ·cases h
end
end Go.Fw
