/-
  What the last text of this claim leans on: an evaluator over the code, contracts of functions, plain laws. Conditions stand in each statement.
-/
import Derived.Test.YtldebhdmhpopaaaGreatDoorRL7
import Derived.Test.YtldebhdmhpopaaaGreatDoorProg
import Derived.KernelRfl
import Derived.WalkKit
import Derived.StillTailTactics
import Derived.Sort.LoopGhostIn
import Derived.Lib.AppendZerosOnto
import Derived.Laws.Externs
import Derived.Lib.Walk
import Derived.Deep.RegionLaw
import Derived.Shelf.Sort.Plain
namespace Go.Proofs.YtldebhdmhpopaaaGreatDoor
set_option linter.unusedSimpArgs false
set_option linter.unusedVariables false
open Go.Fw Go.RowKit Go.Proofs Go.Sort Go.Shelf Go.Lib
def Ranked.key (x:Ranked):Int × Int × Int:=(x.prio,x.share,x.id)
def unkey (k:Int × Int × Int):Ranked:=⟨k.2.2,k.1,k.2.1,k.2.2⟩
def aheadR (x y:Ranked):Bool:=ah3 x.key y.key
def insR (x:Ranked):List Ranked->List Ranked
 | []=>[x]
 | y :: r=>bif aheadR y x then y :: insR x r else x :: y :: r
def Ql3 (l:List Ranked):List Ranked:=l.foldl (fun o x=>insR x o) []
theorem insR_map (x:Int × Int × Int):∀ o,(ins3 x o).map unkey=insR (unkey x) (o.map unkey)
 | []=>rfl
 | y :: r=>by
  simp only [ins3,List.map_cons,insR,show aheadR (unkey y) (unkey x)=ah3 y x from rfl]
  cases ah3 y x with
  | true=>simp only [cond_true,List.map_cons,insR_map x r]
  | false=>rfl
theorem rank_go:∀ (l o:List (Int × Int × Int)),(l.foldl (fun o x=>ins3 x o) o).map unkey=(l.map unkey).foldl (fun o x=>insR x o) (o.map unkey)
 | [],_=>rfl
 | x :: r,o=>by
  simp only [List.foldl_cons,List.map_cons]
  rw [rank_go r,insR_map]
theorem rank_map {l:List Ranked} (h:∀ x ∈ l,x.what=x.id):(l.map Ranked.key).map unkey=l:=by
 rw [List.map_map]
 refine (List.map_congr_left fun x hx=>?_).trans (List.map_id l)
 have:=h x hx
 cases x
 simp only at this
 subst this
 rfl
theorem rank_sort {l:List Ranked} (h:∀ x ∈ l,x.what=x.id):(sort3 (l.map Ranked.key)).map unkey=Ql3 l:=by
 have:=rank_go (l.map Ranked.key) []
 rw [rank_map h] at this
 exact this
theorem insR_len (x:Ranked):∀ o,(insR x o).length=o.length+1
 | []=>rfl
 | y :: r=>by
  unfold insR
  cases aheadR y x with
  | true=>simp only [cond_true,List.length_cons,insR_len x r]
  | false=>rfl
theorem QZb (l:List Ranked):(Ql3 l).length=l.length:=by
 have go:∀ (l o:List Ranked),(l.foldl (fun o x=>insR x o) o).length=o.length+l.length:=by
  intro l
  induction l with
  | nil=>intro o;rfl
  | cons x r ih=>intro o;rw [List.foldl_cons,ih,insR_len,List.length_cons];omega
 have h:=go l []
 rw [List.length_nil,Nat.zero_add] at h
 exact h
def enc3 (k:Int × Int × Int):List Value:=[.int .i64 k.2.2,.int .i64 k.1,.int .i64 k.2.1,.int .i64 k.2.2]
set_option maxHeartbeats 1000000 in
theorem or_calls (a b c:Int) (blk:Nat) (W:World) (h0:W.cell? ⟨blk,0,none⟩=some (.int .i64 a)) (h1:W.cell? ⟨blk,1,none⟩=some (.int .i64 b)) (h2:W.cell? ⟨blk,2,none⟩=some (.int .i64 c)) :
  Calls Tryz.prog 213 #[.slice (some ⟨blk,0,none⟩) 3 3] W fun e w'=>e = .returned (.int .i64 (or3 a b c))∧w'=W:=by
 go_enter Tryz.func213,Tryz.ntmps213
 go_wp2
 refine wp_loop_rounds 4 ?_
 rw [rounds_succ]
 go_wp2
 ·go_ret
  refine ⟨?_,rfl⟩;unfold or3;cases ha:a != 0 <;> cases hb:b != 0 <;> simp_all
 rw [rounds_succ]
 go_wp2
 ·go_ret
  refine ⟨?_,rfl⟩;unfold or3;cases ha:a != 0 <;> cases hb:b != 0 <;> simp_all
 rw [rounds_succ]
 go_wp2
 ·go_ret
  refine ⟨?_,rfl⟩;unfold or3;cases ha:a != 0 <;> cases hb:b != 0 <;> simp_all
 rw [rounds_succ]
 go_wp2
 go_ret
 refine ⟨?_,rfl⟩;unfold or3;cases ha:a != 0 <;> cases hb:b != 0 <;> simp_all
theorem cell2a (W:World) (A B:Array Value) (t:TypeId) (j:Nat) (v:Value) (h:A[j]? = some v):(((W.alloc (.cells A t)).alloc (.cells B t)).drewN 1).cell? ⟨W.heap.size,j,none⟩=some v:=by
 have e:(((W.alloc (.cells A t)).alloc (.cells B t)).drewN 1).heap=(W.heap.push (.cells A t)).push (.cells B t):=rfl
 simp only [World.cell?,e]
 simp [Array.getElem?_push,h]
theorem cell2b (W:World) (A B:Array Value) (t:TypeId) (j:Nat) (v:Value) (h:B[j]? = some v):(((W.alloc (.cells A t)).alloc (.cells B t)).drewN 1).cell? ⟨W.heap.size+1,j,none⟩=some v:=by
 have e:(((W.alloc (.cells A t)).alloc (.cells B t)).drewN 1).heap[W.heap.size+1]? = some (.cells B t):=by
  have q:=Array.getElem?_push_size (xs:=W.heap.push (.cells A t)) (x:=Obj.cells B t)
  rw [Array.size_push] at q
  exact q
 simp only [World.cell?,e]
 simp [h]
theorem cell1 (W:World) (A:Array Value) (t:TypeId) (j:Nat) (v:Value) (h:A[j]? = some v):(W.alloc (.cells A t)).cell? ⟨W.heap.size,j,none⟩=some v:=by
 have e:(W.alloc (.cells A t)).heap=W.heap.push (.cells A t):=rfl
 simp only [World.cell?,e]
 simp [h]
set_option maxHeartbeats 1000000 in
theorem QPc (x y:Int) (W:World):Calls Tryz.prog 249 #[.int .i64 x,.int .i64 y] W fun e w'=>e = .returned (.int .i64 (Lib.compareInt x y))∧w'=W:=by
 have hn:∀ z W',Calls Tryz.prog 259 #[.int .i64 z] W' fun e w'=>e = .returned (.bool false)∧w'=W':=by
  intro z W'
  go_enter Tryz.func259,Tryz.ntmps259
  go_wp2
  go_ret
  exact ⟨by simp,rfl⟩
 go_enter Tryz.func249,Tryz.ntmps249
 go_wp2_with (go_at_call 259;refine (hn _ _).mono ?_;rintro e w' ⟨rfl,rfl⟩)
 all_goals (go_ret;refine ⟨?_,rfl⟩;unfold Lib.compareInt;(repeat' split) <;> first|rfl|(exfalso;omega))
set_option maxRecDepth 100000 in
set_option maxHeartbeats 2000000 in
theorem against_run (a1 a2 a3 a4 b1 b2 b3 b4:Int) (W:World):Calls Tryz.prog 221 #[.agg #[.int .i64 a1,.int .i64 a2,.int .i64 a3,.int .i64 a4],.agg #[.int .i64 b1,.int .i64 b2,.int .i64 b3,.int .i64 b4]] W fun e w'=>e = .returned (.int .i64 (or3 (Lib.compareInt b2 a2) (Lib.compareInt a3 b3) (Lib.compareInt a4 b4))) ∧ ∃ q os',w'=Go.Sort.grow (W.drewN q) os':=by
 have c1:=QPc b2 a2
 have c2:=QPc a3 b3
 have c3:=QPc a4 b4
 generalize Lib.compareInt b2 a2=r1 at c1 ⊢
 generalize Lib.compareInt a3 b3=r2 at c2 ⊢
 generalize Lib.compareInt a4 b4=r3 at c3 ⊢
 go_enter Tryz.func221,Tryz.ntmps221
 go_wp2
 refine wp_region_still_tail 15 (by kernel_rfl) (by kernel_rfl) ?_
 have hW:∃ q os',((W.alloc (Obj.cells #[Value.int IntKind.i64 a1,Value.int IntKind.i64 a2,Value.int IntKind.i64 a3,Value.int IntKind.i64 a4] 232)).alloc (Obj.cells #[Value.int IntKind.i64 b1,Value.int IntKind.i64 b2,Value.int IntKind.i64 b3,Value.int IntKind.i64 b4] 232)).drewN 1=Go.Sort.grow (W.drewN q) os':=⟨1,_,by rw [Go.Sort.alloc_eq_grow,Go.Sort.alloc_eq_grow,Go.Sort.grow_grow];rfl⟩
 have e11:=cell2a W #[Value.int IntKind.i64 a1,Value.int IntKind.i64 a2,Value.int IntKind.i64 a3,Value.int IntKind.i64 a4] #[Value.int IntKind.i64 b1,Value.int IntKind.i64 b2,Value.int IntKind.i64 b3,Value.int IntKind.i64 b4] 232 1 (.int .i64 a2) rfl
 have e12:=cell2a W #[Value.int IntKind.i64 a1,Value.int IntKind.i64 a2,Value.int IntKind.i64 a3,Value.int IntKind.i64 a4] #[Value.int IntKind.i64 b1,Value.int IntKind.i64 b2,Value.int IntKind.i64 b3,Value.int IntKind.i64 b4] 232 2 (.int .i64 a3) rfl
 have e13:=cell2a W #[Value.int IntKind.i64 a1,Value.int IntKind.i64 a2,Value.int IntKind.i64 a3,Value.int IntKind.i64 a4] #[Value.int IntKind.i64 b1,Value.int IntKind.i64 b2,Value.int IntKind.i64 b3,Value.int IntKind.i64 b4] 232 3 (.int .i64 a4) rfl
 have e21:=cell2b W #[Value.int IntKind.i64 a1,Value.int IntKind.i64 a2,Value.int IntKind.i64 a3,Value.int IntKind.i64 a4] #[Value.int IntKind.i64 b1,Value.int IntKind.i64 b2,Value.int IntKind.i64 b3,Value.int IntKind.i64 b4] 232 1 (.int .i64 b2) rfl
 have e22:=cell2b W #[Value.int IntKind.i64 a1,Value.int IntKind.i64 a2,Value.int IntKind.i64 a3,Value.int IntKind.i64 a4] #[Value.int IntKind.i64 b1,Value.int IntKind.i64 b2,Value.int IntKind.i64 b3,Value.int IntKind.i64 b4] 232 2 (.int .i64 b3) rfl
 have e23:=cell2b W #[Value.int IntKind.i64 a1,Value.int IntKind.i64 a2,Value.int IntKind.i64 a3,Value.int IntKind.i64 a4] #[Value.int IntKind.i64 b1,Value.int IntKind.i64 b2,Value.int IntKind.i64 b3,Value.int IntKind.i64 b4] 232 3 (.int .i64 b4) rfl
 change wpStill _ _ (((W.alloc (Obj.cells #[Value.int IntKind.i64 a1,Value.int IntKind.i64 a2,Value.int IntKind.i64 a3,Value.int IntKind.i64 a4] 232)).alloc (Obj.cells #[Value.int IntKind.i64 b1,Value.int IntKind.i64 b2,Value.int IntKind.i64 b3,Value.int IntKind.i64 b4] 232)).drewN 1) (fun a'=>wpList _ _ _ _ a' (((W.alloc (Obj.cells #[Value.int IntKind.i64 a1,Value.int IntKind.i64 a2,Value.int IntKind.i64 a3,Value.int IntKind.i64 a4] 232)).alloc (Obj.cells #[Value.int IntKind.i64 b1,Value.int IntKind.i64 b2,Value.int IntKind.i64 b3,Value.int IntKind.i64 b4] 232)).drewN 1)) _ _
 generalize ((W.alloc (Obj.cells #[Value.int IntKind.i64 a1,Value.int IntKind.i64 a2,Value.int IntKind.i64 a3,Value.int IntKind.i64 a4] 232)).alloc (Obj.cells #[Value.int IntKind.i64 b1,Value.int IntKind.i64 b2,Value.int IntKind.i64 b3,Value.int IntKind.i64 b4] 232)).drewN 1=W2 at *
 generalize W.heap.size=p1 at *
 simp only [List.take_succ_cons,List.take_zero,List.drop_succ_cons,List.drop_zero]
 still_step;still_step;still_step;still_step
 still_call (c1 _)
 still_step;still_step;still_step;still_step
 still_call (c2 _)
 still_step;still_step;still_step;still_step
 still_call (c3 _)
 refine wpStill_nil ?_
 clear e11 e12 e13 e21 e22 e23
 go_wp2_with (go_at_call 213;refine (or_calls r1 r2 r3 W2.heap.size _ (cell1 _ _ _ _ _ rfl) (cell1 _ _ _ _ _ rfl) (cell1 _ _ _ _ _ rfl)).mono ?_;rintro e w' ⟨rfl,rfl⟩)
 obtain ⟨q,os,rfl⟩:=hW
 go_ret
 exact ⟨rfl,q,_,by rw [Go.Sort.alloc_eq_grow,Go.Sort.grow_grow]⟩
theorem against_calls (x y:Int × Int × Int) (W:World):Calls Tryz.prog 221 #[.agg (enc3 x).toArray,.agg (enc3 y).toArray] W fun e w'=>e = .returned (.int .i64 (cf3 x y)) ∧ ∃ q os',w'=Go.Sort.grow (W.drewN q) os' :=
 against_run _ _ _ _ _ _ _ _ W
set_option maxRecDepth 100000 in
set_option maxHeartbeats 2000000 in
theorem sortFunc_run (l:List (Int × Int × Int)) (hl:l.length<4611686018427387904) (blk cap:Nat) (w:World) (hH:HoldsK enc3 4 w blk 0 l.toArray) (hblk:blk<w.heap.size) :
  Calls Tryz.prog 220 #[.slice (some ⟨blk,0,none⟩) l.length cap,.func (.func 221) #[] #[]] w fun e w'=>e = .returned (.tuple #[]) ∧ ∃ n os,w'=sortWorldK enc3 4 w blk 0 n (sort3 l).toArray os:=by
 have eg:∀ args w,(callFunc 221 args).run Tryz.prog w = .ok (.enter 221 args) w:=enters_of Tryz.func221 (by kernel_rfl) rfl
 have h1:∀ x,∀ v ∈ enc3 x,v.oneCell'=true:=fun x v hv=>by simp [enc3] at hv;rcases hv with rfl|rfl|rfl|rfl <;> rfl
 have hsz:l.toArray.size=l.length:=by simp
 have hlim:Lib.bitLen l.toArray.size<4611686018427387904:=Nat.lt_of_le_of_lt (Lib.bitLen_le l.toArray.size 62 (by omega) (by omega)) (by omega)
 have hp:=AnyQ.pdqsortCmpFunc_all sflLays 4 Tryz.isAgg232 Tryz.sizeOf232 enc3 cf3 221 #[] swo3 blk 0 cap l.toArray w eg (fun _ _ _ _ x y=>against_calls x y _) ⟨fun _=>rfl,h1,hH,hblk⟩ (l.toArray.size+1) 0 l.toArray.size (Lib.bitLen l.toArray.size) l.toArray w (by omega) rfl (SWK.start hH) (Nat.zero_le _) (Nat.le_refl _) (by omega) hlim (Or.inl rfl)
 have hq:=pdq_sorts (ltOf cf3) swo3 l.toArray 0 l.toArray.size (Lib.bitLen l.toArray.size) true true (Nat.zero_le _) (Nat.le_refl _) (Or.inl rfl)
 have he:pdq (ltOf cf3) l.toArray 0 l.toArray.size (Lib.bitLen l.toArray.size) true true=(sort3 l).toArray:=by
  have q:=sorted_unique_holds swo3 tot3 _ _ hq.1 hq.2
  rw [show l.toArray.toList=l from rfl,merge3] at q
  rw [← q]
 rw [he] at hp
 have hb:Calls Tryz.prog 216 #[.int .u64 (l.toArray.size:Int)] w fun e w'=>e = .returned (.int .i64 (Lib.bitLen l.toArray.size:Nat))∧w'=w:=by
  have h:=Any.bits_Len (SlLaysF0.n15.bits (P:=Tryz.prog) (ρ:=sflRen) { sflLays with }) (l.toArray.size:Int) w (by omega) (by omega)
  rwa [Int.toNat_natCast] at h
 rw [hsz] at hp hb
 have wr:IntKind.u64.wrap (l.length:Int)=l.length:=by simp [IntKind.wrap,IntKind.bits,IntKind.signed];omega
 change Calls Tryz.prog 248 _ _ _ at hp
 clear hH h1 hq hlim hsz he
 generalize (sort3 l).toArray=l' at hp ⊢
 go_enter Tryz.func220,Tryz.ntmps220
 go_wp2_with (first|(go_at_call 216;refine hb.mono ?_;rintro e w' ⟨rfl,rfl⟩)|(go_at_call 248;refine hp.mono ?_;rintro e w' ⟨rfl,n,os,rfl⟩))
 go_end0
 exact ⟨rfl,n,os,rfl⟩
set_option maxRecDepth 100000 in
set_option maxHeartbeats 2000000 in
theorem sortFunc_none (p:Option Addr) (cap:Nat) (w:World):Calls Tryz.prog 220 #[.slice p 0 cap,.func (.func 221) #[] #[]] w fun e w'=>e = .returned (.tuple #[])∧w'=w:=by
 have hp:=fun lim W=>AnyF.pdqsortCmpFunc_none (P:=Tryz.prog) (ρ:=sflRen) sflLays p cap lim (.func (.func 221) #[] #[]) W
 have hb:∀ W,Calls Tryz.prog 216 #[.int .u64 0] W fun e w'=>e = .returned (.int .i64 (Lib.bitLen 0:Nat))∧w'=W:=fun W=>Any.bits_Len (SlLaysF0.n15.bits (P:=Tryz.prog) (ρ:=sflRen) { sflLays with }) 0 W (by omega) (by omega)
 change ∀ lim W,Calls Tryz.prog 248 _ _ _ at hp
 go_enter Tryz.func220,Tryz.ntmps220
 go_wp2_with (first|(go_at_call 216;refine (hb _).mono ?_;rintro e w' ⟨rfl,rfl⟩)|(go_at_call 248;refine (hp _ _).mono ?_;rintro e w' ⟨rfl,rfl⟩))
 go_end0
 exact ⟨rfl,rfl⟩
theorem Qwb (l:List Ranked) (hl:l.length<=4294967296) (hp:∀ x ∈ l,x.what=x.id) :
  AMoves Tryz.prog 220 [.own 0 0 4 0 l.length,.fn (.func 221) [] []] [(0,.row 232 4 (l.map Ranked.cells))] 1 (.tup []) [(0,.row 232 4 ((Ql3 l).map Ranked.cells))]:=by
 have hll:(l.map Ranked.key).length=l.length:=List.length_map _
 have h:=sortFunc_moves (P:=Tryz.prog) (f:=220) (g:=221) (t:=232) (k:=4) (enc:=enc3) (by decide) (fun _=>rfl) (fun x v hv=>by simp [enc3] at hv;rcases hv with rfl|rfl|rfl|rfl <;> rfl) (l:=l.map Ranked.key) (l':=sort3 (l.map Ranked.key)) (sort3_len _)
  sortFunc_none (fun blk cap w hH hblk=>sortFunc_run (l.map Ranked.key) (by omega) blk cap w hH hblk)
 have e1:((l.map Ranked.key).map fun x=>litsA (enc3 x))=l.map Ranked.cells:=by
  show (l.map Ranked.key).map (Ranked.cells ∘ unkey)=_
  rw [← List.map_map,rank_map hp]
 have e2:((sort3 (l.map Ranked.key)).map fun x=>litsA (enc3 x))=(Ql3 l).map Ranked.cells:=by
  show (sort3 (l.map Ranked.key)).map (Ranked.cells ∘ unkey)=_
  rw [← List.map_map,rank_sort hp]
 rw [e1,e2,hll] at h
 exact h
end Go.Proofs.YtldebhdmhpopaaaGreatDoor
namespace Go.Fw
set_option linter.unusedSimpArgs false
set_option linter.unusedVariables false
open Go.RowKit
def QM5:Code->Bool
 | .skip=>true
 | .label _=>true
 | .exit _=>true
 | .goto _=>true
 | .ret=>true
 | .region _ ops _=>ops.toList.all fun o=>match o.op with | .defer _=>false|_=>true
 | .seq a b=>QM5 a&&QM5 b
 | .cond _ x y=>QM5 x&&QM5 y
 | .block _ b=>QM5 b
 | .loop b=>QM5 b
 | _=>false
section
variable {P:Program} {nt n0:Nat} {keep:Nat->Bool}
theorem noDefer_of {ops:Array Oper} (h:(ops.toList.all fun o=>match o.op with | .defer _=>false|_=>true)=true):∀ o ∈ ops.toList,∀ c,o.op ≠ .defer c:=by
 intro o ho c hc
 have:=List.all_eq_true.1 h o ho
 rw [hc] at this
 cases this
theorem wp_draw_ops {tr:Nat->RSt} {K0 K:Ctx} {s:St} {ops:Array Oper} {a:Act} {w:World} {Q:Exit->Act->World->Prop} (hmix:P.follows .mixedOrders=true) (ht:Trace P nt ops s.slots tr) (hck:Q03 ops (masks ops)=true) (ho:(tr 0).objs=s.objs) (hK:K0.le K) (hs:Sat nt K s a w)
  (hQ:∀ K a w,K0.le K->RSat nt ops s.slots K (tr ops.size) a w->Q .normal a w) (t:Nat):wpOps P ops Q (Region.schedule (P.follows .mixedOrders) ops t) a { w with drawn:=w.drawn+1 }:=by
 simp only [Region.schedule,hmix,Bool.true_or,if_true]
 refine wpAny_sound ops.size t _ a _ (QLd (K0:=K0) ht hck hQ ops.size _ a _ (by simp) ?_ ?_)
 ·exact Nat.le_trans (List.length_filter_le _ _) (by simp)
 ·have hf:∀ k,(Array.replicate ops.size false).getD k false=false:=fun k=>by
   simp only [Array.getD_eq_getD_getElem?,Array.getElem?_replicate]
   split <;> rfl
  exact ⟨(fun i o e hi=>by simp only [hf] at hi;cases hi),hs.size,K,0,hK,hs.defers,Nat.zero_le _,(by rw [ho];exact hs.mem.drawn _),(fun j _=>by simp only [hf];simp),(fun j o d tg v _ _ hS=>by simp only [hf] at hS;cases hS),fun t _=>hs.slot t⟩
theorem Post.noLets {K0:Ctx} {Q:AExit->St->Prop}:¬ LetsOut (Post nt K0 Q):=by
 rintro ⟨a,w,e',K,s,he,_⟩
 cases e' <;> cases he
theorem awp_round (l n:Nat) (hdr:∀ id,keep (2000000+id)=true) (c:Code):QM5 c=true -> ∀ (Q:AExit->St->Prop) (s:St) (K0 K:Ctx) (a:Act) (w:World),K0.n=n0->K0.le K->Sat nt K s a w->awp P nt n0 keep c Q s->c.wpIn (Fence.wide.inRound l) n P (Post nt K0 Q) a w:=by
 induction c with
 | skip=>exact fun _ Q s K0 K a w hn hle hs h=>wpIn_skip ⟨.normal,K,s,rfl,hle,hs,h⟩
 | label l=>exact fun _ Q s K0 K a w hn hle hs h=>wpIn_label ⟨.normal,K,s,rfl,hle,hs,h⟩
 | exit id=>exact fun _ Q s K0 K a w hn hle hs h=>wpIn_exit ⟨.exit id,K,s,rfl,hle,hs,h⟩
 | goto l=>exact fun _ Q s K0 K a w hn hle hs h=>wpIn_goto ⟨.goto l,K,s,rfl,hle,hs,h⟩
 | ret=>exact fun _ Q s K0 K a w hn hle hs h=>wpIn_ret ⟨.ret,K,s,rfl,hle,hs,h⟩
 | region id ops draw =>
  intro hok Q s K0 K a w hn hle hs h
  have hd:=noDefer_of (show (ops.toList.all _)=true from hok)
  cases draw with
  | false =>
   simp only [awp] at h
   refine wpIn_region (Qo9 Post.noLets hd _ _ _ ?_)
   rw [List.range_eq_range']
   refine Q07 (K0:=K0) (Kt:=fun rs=>Q .normal { slots:=QR8 keep s.slots rs.loc,objs:=rs.objs }) ?_ ops.size 0 (by omega) K (QJ9 s) a w hle hs.start (by simpa using h)
   intro K' rs a' w' hle' hr hk
   exact ⟨.normal,K',_,rfl,hle',Q95 keep hr,hk⟩
  | true =>
   simp only [awp,hdr] at h
   obtain ⟨hmix,hck,tr,ht,ho,hq⟩:=h
   refine wpIn_region_draw fun t=>Qo9 Post.noLets hd _ _ _ ?_
   refine wp_draw_ops (K0:=K0) hmix ht hck ho hle hs ?_ t
   intro K' a' w' hle' hr
   exact ⟨.normal,K',_,rfl,hle',Q95 keep hr,hq⟩
 | seq x y ihx ihy =>
  intro hok Q s K0 K a w hn hle hs h
  simp only [QM5,Bool.and_eq_true] at hok
  simp only [awp] at h
  split at h
  ·refine wpIn_seq (wpIn_mono (ihx hok.1 _ s K0 K a w hn hle hs h) ?_)
   rintro e a' w' ⟨e',K',s',rfl,hle',hs',hq⟩
   cases e' with
   | normal=>exact ihy hok.2 Q s' K0 K' a' w' hn hle' hs' hq
   | exit id=>exact ⟨.exit id,K',s',rfl,hle',hs',hq⟩
   | goto l=>exact ⟨.goto l,K',s',rfl,hle',hs',hq⟩
   | ret=>exact ⟨.ret,K',s',rfl,hle',hs',hq⟩
  ·obtain ⟨J,hJ,h⟩:=h
   refine wpIn_seq (wpIn_mono (ihx hok.1 _ s K0 K a w hn hle hs h) ?_)
   rintro e a' w' ⟨e',K',s',rfl,hle',hs',hq⟩
   cases e' with
   | normal =>
    obtain ⟨s'',hweak,hj⟩:=hq
    obtain ⟨K'',hle'',hs''⟩:=hweak K0 K' a' w' hn hle' hs'
    exact ihy hok.2 Q s'' K0 K'' a' w' hn hle'' hs'' (hJ s'' hj)
   | exit id=>exact ⟨.exit id,K',s',rfl,hle',hs',hq⟩
   | goto l=>exact ⟨.goto l,K',s',rfl,hle',hs',hq⟩
   | ret=>exact ⟨.ret,K',s',rfl,hle',hs',hq⟩
 | cond c x y ihx ihy =>
  intro hok Q s K0 K a w hn hle hs h
  simp only [QM5,Bool.and_eq_true] at hok
  simp only [awp] at h
  split at h
  ·rename_i b hb
   have hv:a.eval c = .bool b:=by
    cases c with
    | tmp t =>
     simp only [lookO] at hb
     have hr:=hs.slot t
     rw [hb] at hr
     exact QX0 hr
    | const v=>simp only [lookO,AVal.lit.injEq] at hb;exact hb
    | global g=>simp [lookO] at hb
    | func f=>simp [lookO] at hb
   exact wpIn_cond_split hv (fun ht=>ihx hok.1 Q s K0 K a w hn hle hs (h.1 ht)) (fun hf=>ihy hok.2 Q s K0 K a w hn hle hs (h.2 hf))
  ·exact h.elim
 | block id body ih =>
  intro hok Q s K0 K a w hn hle hs h
  refine wpIn_block (wpIn_mono (ih hok _ s K0 K a w hn hle hs h) ?_)
  rintro e a' w' ⟨e',K',s',rfl,hle',hs',hq⟩
  cases e' with
  | normal=>exact ⟨.normal,K',s',rfl,hle',hs',hq⟩
  | exit i =>
   simp only at hq
   simp only [AExit.real,Exit.inBlock]
   cases hb:Nat.beq i id with
   | true =>
    rw [hb] at hq
    have:=Nat.eq_of_beq_eq_true hb
    rw [if_pos this]
    exact ⟨.normal,K',s',rfl,hle',hs',hq⟩
   | false =>
    rw [hb] at hq
    have:i ≠ id:=fun e=>by subst e;simp at hb
    rw [if_neg this]
    exact ⟨.exit i,K',s',rfl,hle',hs',hq⟩
  | goto l=>exact ⟨.goto l,K',s',rfl,hle',hs',hq⟩
  | ret=>exact ⟨.ret,K',s',rfl,hle',hs',hq⟩
 | loop body ih =>
  intro hok Q s K0 K a w hn hle hs h
  obtain ⟨I,m0,s1,hweak0,hI,hround⟩:=h
  obtain ⟨K1,hle1,hs1⟩:=hweak0 K0 K a w hn hle hs
  refine wpIn_loop_ghost (fun m a w=>∃ s K,K0.le K∧Sat nt K s a w∧I m s) m0 ⟨s1,K1,hle1,hs1,hI⟩ ?_
  rintro m a w ⟨s,K,hle,hs,hI⟩
  refine wpIn_mono (ih hok _ s K0 K a w hn hle hs (hround m s hI)) ?_
  rintro e a' w' ⟨e',K',s',rfl,hle',hs',hq⟩
  cases e' with
  | normal =>
   obtain ⟨m',s'',hlt,hweak,hI'⟩:=hq
   obtain ⟨K'',hle'',hs''⟩:=hweak K0 K' a' w' hn hle' hs'
   exact ⟨m',hlt,s'',K'',hle'',hs'',hI'⟩
  | exit id=>exact ⟨.exit id,K',s',rfl,hle',hs',hq⟩
  | goto l=>exact ⟨.goto l,K',s',rfl,hle',hs',hq⟩
  | ret=>exact ⟨.ret,K',s',rfl,hle',hs',hq⟩
 | _=>intro hok;cases hok
end
theorem MemSat.putAt {K:Ctx} {s:Objs} {w:World} {l:Nat} {o:Obj} (h:MemSat K s w) (hB:K.B l=some o) (ho:o.isCells=false) (o':Obj) :
  MemSat { K with B:=fun b=>if b=l then some o' else K.B b } s (w.putObj l o'):=by
 have hl:w.heap[l]? = some o:=h.below.block l o hB
 have hlt:l<w.heap.size:=(Array.getElem?_eq_some_iff.1 hl).1
 have hne:∀ (i:Nat) (p:Nat × AObj),s[i]? = some p->p.2.live=true->K.C i p.1 ≠ 0->K.ρ i p.1 ≠ l:=by
  intro i p hp hv hC e
  have:=(h.lo i p hp hv hC).1
  rw [e,hB] at this
  cases this
 refine ⟨h.len,h.ver,fun i p hp=>?_,fun i p hp hv hC=>?_,h.dis,fun b i u hu=>?_,?_⟩
 ·refine ObjSat.monoR (Qk3 K _ K.w0) (h.olt hp) (by rw [h.ver i p hp];exact Nat.le_refl _) (h.obj i p hp) (fun hv hC=>?_)
  exact World.putObj_heap_other (hne i p hp hv hC)
 ·obtain ⟨h1,h2,h3⟩:=h.lo i p hp hv hC
  refine ⟨?_,by simpa using h2,h3⟩
  show (if K.ρ i p.1=l then _ else _)=none
  rw [if_neg (hne i p hp hv hC)]
  exact h1
 ·obtain ⟨h1,h2⟩:=h.mem b i u hu
  obtain ⟨c,t,fr,hc⟩:=Qia h1
  have hb:b ≠ l:=by
   rintro rfl
   rw [hl] at hc
   cases hc
   simp [Obj.isCells] at ho
  exact ⟨(World.cell?_of_block (a:=⟨b,i,none⟩) (World.putObj_heap_other hb)).trans h1,h2⟩
 ·refine ⟨h.below.os,h.below.tape,h.below.output,by simpa using h.below.size,fun b x hx=>?_⟩
  by_cases hb:b=l
  ·subst hb
   simp only [if_true,Option.some.injEq] at hx
   subst hx
   exact World.putObj_heap_same hlt
  ·simp only [if_neg hb] at hx
   exact (World.putObj_heap_other hb).trans (h.below.block b x hx)
structure RoundCtx (n1:Nat) (K L:Ctx):Prop where
 r:(K.cut n1).leR L
 B:∀ b x,K.B b=some x->L.B b=some x
def IterC (P:Program) (gf:Nat) (lb:List AVal) (n1:Nat) (items:List AVal) (so:Nat->Objs):Prop :=
 ∀ (l:Nat) (K:Ctx) (w:World) (vs:List Value),MemSat K (so 0) w->Reps K lb vs ->
  (∀ (k:Nat) (x:AVal) (L:Ctx) (W:World) (v:Value),items[k]? = some x->RoundCtx n1 K L->MemSat L (so k) W->Rep L x v ->
   YieldAt Fence.wide 0 P l #[v] W fun e W'=>e = .returned (.bool true) ∧ ∃ L':Ctx,(L.cut n1).le L'∧MemSat L' (so (k+1)) W') ->
  CallsIn Fence.wide 0 P gf (#[.func (.yield l) #[] #[]]++vs.toArray) w fun e w'=>(∃ v,e = .returned v) ∧ ∃ K':Ctx,(K.cut n1).le K'∧MemSat K' (so items.length) w'
section
variable {P:Program} {nt n0:Nat} {keep:Nat->Bool}
theorem rangeC {g:Operand} {p gf:Nat} {asg body:Code} {s:St} {lb:List AVal} {items:List AVal} {so:Nat->Objs} (n1:Nat) (h0:so 0=s.objs) (hn01:n0<=n1) (hlen:∀ k,k<=items.length->n1<=(so k).length) (hp:p<nt)
  (hfree:Q11 s.slots p = .any) (hlow:∀ t,Low n1 (Q11 s.slots t)) (hg:lookO s g = .fn (.func gf) [] lb)
  (eg:∀ args w,(callFunc gf args).run P w = .ok (.enter gf args) w) (hit:IterC P gf lb n1 items so)
  (hdr:∀ id,keep (2000000+id)=true) (hoka:QM5 asg=true) (hok:QM5 body=true)
  (hbody:∀ k x,items[k]? = some x->awp P nt n1 keep asg (fun e t=>match e with | .normal=>awp P nt n1 keep body (fun e t=>match e with | .normal=>Weaker nt n1 t ⟨s.slots,so (k+1)⟩|_=>False) t|_=>False) ⟨(p,x) :: s.slots,so k⟩) :
  Qr9 P nt n0 (.rangeFunc g #[p] asg body) (fun e t=>e = .normal∧t=⟨s.slots,so items.length⟩) s:=by
 intro K0 K a w hn hle hs
 have hBlt:∀ b x,K.B b=some x->b<w.heap.size:=fun b x hx=>hs.mem.below.lt hx
 have hgv:∃ vs:List Value,a.eval g = .func (.func gf) #[] vs.toArray∧Reps K lb vs:=by
  have hr:Rep K (lookO s g) (a.eval g):=by
   cases g with
   | tmp t=>exact hs.slot t
   | const v=>exact .lit v
   | global g=>simp [lookO] at hg
   | func f=>simp [lookO] at hg
  rw [hg] at hr
  generalize a.eval g=u at hr
  cases hr with
  | fn _ _ _ us vs hl hm h1 h2 =>
   have:us=[]:=by cases us with|nil=>rfl|cons _ _=>simp at hl
   subst this
   exact ⟨vs,rfl,hm,h2⟩
 obtain ⟨vs,hgv,hreps⟩:=hgv
 refine (wpIn_wide (n:=3)).1 (wpIn_rangeFunc fun fn _=>?_)
 obtain ⟨rec,hrec⟩:∃ rec:LoopState->Option Code->Loop,rec=fun st pe=>{ state:=st,pending:=pe,fn,tmps:=a.tmps,params:=#[p],assign:=asg,body,defers:=w.heap.size }:=⟨_,rfl⟩
 obtain ⟨D,hD⟩:∃ D,D=w.heap.size:=⟨_,rfl⟩
 obtain ⟨W1,hW1⟩:∃ W1,(w.alloc (.deferred (some []))).alloc (.loop (rec .ready none))=W1:=⟨_,rfl⟩
 have hl1:W1.heap[D+1]? = some (.loop (rec .ready none)):=by
  rw [← hW1,hD];have:=World.alloc_heap_new (w.alloc (.deferred (some []))) (.loop (rec .ready none));rwa [World.size_alloc] at this
 have hd1:W1.heap[D]? = some (.deferred (some [])):=by
  rw [← hW1,hD];exact (Below.heap_alloc _ _ _ (by simp)).trans (World.alloc_heap_new w _)
 have hm1:MemSat K s.objs W1:=by rw [← hW1];exact (hs.mem.junk _).junk _
 obtain ⟨Kc,hKc⟩:∃ Kc:Ctx,Kc={ K with B:=fun b=>if b=D then some (.deferred (some [])) else if b=D+1 then some (.loop (rec .ready none)) else K.B b,w0:=K.w0 }:=⟨_,rfl⟩
 have hBc:∀ b x,K.B b=some x->Kc.B b=some x:=fun b x hx=>by
  have:=hBlt b x hx
  rw [hKc]
  show (if b=D then _ else if b=D+1 then _ else K.B b)=some x
  rw [if_neg (by omega),if_neg (by omega)]
  exact hx
 have hBD:Kc.B D=some (.deferred (some [])):=by rw [hKc];show (if D=D then _ else _)=_;rw [if_pos rfl]
 have hBl:Kc.B (D+1)=some (.loop (rec .ready none)):=by rw [hKc];show (if D+1=D then _ else if D+1=D+1 then _ else _)=_;rw [if_neg (by omega),if_pos rfl]
 have hmc:MemSat Kc (so 0) W1:=by
  rw [h0,hKc]
  refine hm1.with _ _ (fun o q hq hv hC=>?_) ?_
  ·have:=(hs.mem.lo o q hq hv hC).2.1
   have h1:=(hs.mem.lo o q hq hv hC).1
   show (if K.ρ o q.1=D then _ else if K.ρ o q.1=D+1 then _ else K.B _)=none
   rw [if_neg (by omega),if_neg (by omega)]
   exact h1
  ·have q1:=hm1.below
   refine ⟨q1.os,q1.tape,q1.output,q1.size,fun b y hy=>?_⟩
   change (if b=D then some (Obj.deferred (some [])) else if b=D+1 then some (Obj.loop (rec .ready none)) else K.B b)=some y at hy
   split at hy
   ·rename_i e;subst e;simp only [Option.some.injEq] at hy;subst hy;exact hd1
   ·split at hy
    ·rename_i e;subst e;simp only [Option.some.injEq] at hy;subst hy;exact hl1
    ·exact q1.block b y hy
 have hrc:Reps Kc lb vs:=by rw [hKc];exact Reps.monoR (Qk3 K _ K.w0) hreps
 refine ⟨D+1,[{ target:=.collected D,args:=#[] }],W1,{ target:=.fn (.func gf) vs.toArray,args:=#[.func (.yield (D+1)) #[] #[]] },W1,gf,
  #[.func (.yield (D+1)) #[] #[]]++vs.toArray,W1,?_,?_,?_,?_,fun h=>absurd h (by simp [Fence.wide]),?_⟩
 ·rw [← hW1,hrec,hD];exact run_enterLoop_outer _ _ _ _ _
 ·simp only [resolve,hgv]
  simp [go_sem]
 ·intro f' _;trivial
 ·simp [invoke,go_sem,eg]
 refine CallsIn.more (n:=0) ((hit (D+1) Kc W1 vs hmc hrc ?_).mono ?_) (by omega)
 ·
  intro k x L W v hx hR hmL hv
  have hkl:k<items.length:=(List.getElem?_eq_some_iff.1 hx).1
  have hlL:=hR.B _ _ hBl
  have hlW:W.heap[D+1]? = some (.loop (rec .ready none)):=hmL.below.block _ _ hlL
  have hy:=run_yield (P:=P) (args:=#[v]) hlW (by rw [hrec];rfl)
  rw [hrec] at hy
  refine ⟨fn,_,asg,body,hy,roundIn_of_wpIn (n:=0) trivial ?_⟩
  have hsz:a.tmps.size=nt:=hs.size
  have hz:(#[p].zip #[v]) = #[(p,v)]:=by simp
  simp only [hz]
  show asg.wpIn _ _ P _ { tmps:=a.tmps.setIfInBounds p v,defers:=[] } W
  have hn1:n1<=L.n:=by rw [← hmL.len];exact hlen k (by omega)
  obtain ⟨L1,hL1⟩:∃ L1:Ctx,L1={ L with w0:=W }:=⟨_,rfl⟩
  have hm1:MemSat L1 (so k) W:=by
   have t:=hmL.with L.B W (fun o q hq hv hC=>(hmL.lo o q hq hv hC).1) ⟨rfl,rfl,rfl,Nat.le_refl _,hmL.below.block⟩
   rw [hL1]
   exact t
  have hrL:L.leR L1:=by rw [hL1];exact Qk3 L L.B W
  have hs1:Sat nt L1 ⟨(p,x) :: s.slots,so k⟩ { tmps:=a.tmps.setIfInBounds p v,defers:=[] } W:=by
   refine ⟨hm1,fun t=>?_,by simpa using hsz,Marks.nil⟩
   show Rep _ (Q11 ((p,x) :: s.slots) t) _
   rw [Q12]
   by_cases ht:p=t
   ·subst ht
    rw [if_pos rfl]
    have:(a.tmps.setIfInBounds p v).getD p undef=v:=by
     rw [Array.getD_eq_getD_getElem?,Array.getElem?_setIfInBounds_self_of_lt (by omega)]
     rfl
    simp only [this]
    exact hv.monoR hrL
   ·rw [if_neg ht]
    have:(a.tmps.setIfInBounds p v).getD t undef=a.tmps.getD t undef:=by
     rw [Array.getD_eq_getD_getElem?,Array.getD_eq_getD_getElem?,Array.getElem?_setIfInBounds_ne ht]
    simp only [this]
    have hcut:Rep (Kc.cut n1) (Q11 s.slots t) (a.tmps.getD t undef):=by
     refine Rep.low (K:=K) (L:=Kc.cut n1) (n:=n1) (fun b i u hu=>?_) (Nat.le_refl _) (fun _ _ _=>?_) (fun _ _ _=>?_) (fun _ _=>?_) (hs.slot t) (hlow t)
     ·rw [hKc];exact hu
     ·rw [hKc];rfl
     ·rw [hKc];rfl
     ·rw [hKc];rfl
    exact (hcut.monoR hR.r).monoR hrL
  obtain ⟨Kb1,hKb1⟩:∃ Kb1:Ctx,Kb1=L1.cut n1:=⟨_,rfl⟩
  have hleb1:Kb1.le L1:=by rw [hKb1];exact Qv9 (by rw [hL1];exact hn1)
  refine wpIn_mono (awp_round (D+1) 0 hdr asg hoka _ _ Kb1 L1 _ W (by rw [hKb1];rfl) hleb1 hs1 (hbody k x hx)) ?_
  rintro e a1 w1 ⟨e1,K1,s1,rfl,hle1,hs1',hq1⟩
  cases e1 with
  | exit id=>exact hq1.elim
  | goto t=>exact hq1.elim
  | ret=>exact hq1.elim
  | normal =>
   have hb1l:K1.B (D+1)=some (.loop (rec .ready none)):=hle1.B _ _ (by rw [hKb1,hL1];exact hlL)
   have hlw1:w1.heap[D+1]? = some (.loop (rec .ready none)):=hs1'.mem.below.block _ _ hb1l
   have hbr:=run_beginRound (P:=P) hlw1 (by rw [hrec])
   refine ⟨_,hbr,?_⟩
   obtain ⟨W2,hW2⟩:∃ W2,W2=w1.putObj (D+1) (.loop { rec .ready none with state:=.busy }):=⟨_,rfl⟩
   rw [← hW2]
   obtain ⟨L2,hL2⟩:∃ L2:Ctx,L2={ K1 with B:=fun b=>if b=D+1 then some (.loop { rec .ready none with state:=.busy }) else K1.B b }:=⟨_,rfl⟩
   have hm2:MemSat L2 s1.objs W2:=by
    rw [hL2,hW2]
    exact hs1'.mem.putAt hb1l rfl (.loop { rec .ready none with state:=.busy })
   have hrL2:K1.leR L2:=by rw [hL2];exact Qk3 K1 _ K1.w0
   have hs2:Sat nt L2 s1 a1 W2:=⟨hm2,fun t=>(hs1'.slot t).monoR hrL2,hs1'.size,hs1'.defers.1,fun d hd=>by
    obtain ⟨D',q1,q2,q3⟩:=hs1'.defers.2 d hd
    refine ⟨D',q1,?_,by rw [hL2];exact q3⟩
    rw [hL2]
    show (if D'=D+1 then _ else K1.B D')=_
    rw [if_neg (by rintro rfl;rw [hb1l] at q2;cases q2)]
    exact q2⟩
   obtain ⟨Kb,hKb⟩:∃ Kb:Ctx,Kb=L2.cut n1:=⟨_,rfl⟩
   have hn1':n1<=K1.n:=by have:=hle1.n;rw [hKb1] at this;exact this
   have hleb:Kb.le L2:=by rw [hKb];exact Qv9 (by rw [hL2];exact hn1')
   refine wpIn_mono (awp_round (D+1) 0 hdr body hok _ _ Kb L2 a1 W2 (by rw [hKb];rfl) hleb hs2 hq1) ?_
   rintro e a' w' ⟨e',K3,s3,rfl,hle3,hs3,hq3⟩
   cases e' with
   | exit id=>exact hq3.elim
   | goto t=>exact hq3.elim
   | ret=>exact hq3.elim
   | normal =>
    obtain ⟨K4,hle4,hs4⟩:=hq3 Kb K3 a' w' (by rw [hKb];rfl) hle3 hs3
    have hbl:Kb.B (D+1)=some (.loop { rec .ready none with state:=.busy }):=by
     rw [hKb,hL2];show (if D+1=D+1 then _ else _)=_;rw [if_pos rfl]
    have hb1:∀ b y,L.B b=some y->K1.B b=some y:=fun b y hy=>hle1.B b y (by rw [hKb1,hL1];exact hy)
    have hbo:∀ b y,b ≠ D+1->L.B b=some y->Kb.B b=some y:=fun b y hb hy=>by
     rw [hKb,hL2];show (if b=D+1 then _ else _)=_;rw [if_neg hb];exact hb1 b y hy
    have h4l:K4.B (D+1)=some (.loop { rec .ready none with state:=.busy }):=hle4.B _ _ hbl
    have hlw:w'.heap[D+1]? = some (.loop { rec .ready none with state:=.busy }):=hs4.mem.below.block _ _ h4l
    have her:=run_endRound (P:=P) none hlw
    refine ⟨_,_,her,rfl,?_⟩
    have e1:({ ({ rec .ready none with state:=.busy }:Loop) with state:=if (none:Option Code).isNone then .ready else .done,pending:=none }:Loop)=rec .ready none:=by rw [hrec];rfl
    rw [e1]
    have hm5:=hs4.mem.putAt h4l rfl (.loop (rec .ready none))
    have hw4:K4.w0=W:=by rw [hle4.w0,hKb,hL2];show K1.w0=W;rw [hle1.w0,hKb1,hL1];rfl
    have hML1:∀ b i,Kb1.M b i=L.M b i:=fun b i=>by rw [hKb1,hL1];rfl
    have hML:∀ b i,Kb.M b i=K1.M b i:=fun b i=>by rw [hKb,hL2];rfl
    have hM0:∀ b i y,L.B b=some y->K1.M b i=L.M b i:=fun b i y hy=>(hle1.M0 b i y (by rw [hKb1,hL1];exact hy)).trans (hML1 b i)
    have hv1:∀ o,o<n1->L.vs o<=K1.vs o:=fun o ho=>by have:=hle1.vs o (by rw [hKb1];exact ho);rw [hKb1,hL1] at this;exact this
    refine ⟨{ K4 with B:=fun b=>if b=D+1 then some (.loop (rec .ready none)) else K4.B b,w0:=L.w0 },⟨fun b i u hu=>hle4.M b i u (by rw [hML];exact hle1.M b i u (by rw [hML1];exact hu)),fun o v ho hv=>?_,fun o v ho hv=>?_,?_,fun o ho=>?_,rfl,fun b y hy=>?_,fun b i y hy=>?_⟩,?_⟩
    ·have h1:=hle4.ρ o v (by rw [hKb];exact ho) (by rw [hKb,hL2];exact Nat.le_trans hv (hv1 o ho))
     have h2:=hle1.ρ o v (by rw [hKb1];exact ho) (by rw [hKb1,hL1];exact hv)
     rw [hKb,hL2] at h1;rw [hKb1,hL1] at h2
     exact h1.trans h2
    ·have h1:=hle4.C o v (by rw [hKb];exact ho) (by rw [hKb,hL2];exact Nat.le_trans hv (hv1 o ho))
     have h2:=hle1.C o v (by rw [hKb1];exact ho) (by rw [hKb1,hL1];exact hv)
     rw [hKb,hL2] at h1;rw [hKb1,hL1] at h2
     exact h1.trans h2
    ·have:=hle4.n;rw [hKb] at this;exact this
    ·have:=hle4.vs o (by rw [hKb];exact ho);rw [hKb,hL2] at this;exact Nat.le_trans (hv1 o ho) this
    ·show (if b=D+1 then _ else K4.B b)=some y
     by_cases hb:b=D+1
     ·subst hb
      rw [if_pos rfl]
      exact hlL.symm.trans hy
     ·rw [if_neg hb]
      exact hle4.B b y (hbo b y hb hy)
    ·show K4.M b i=L.M b i
     by_cases hb:b=D+1
     ·subst hb
      exact ((hle4.M0 _ i _ hbl).trans (hML _ _)).trans (hM0 _ i y hy)
     ·exact ((hle4.M0 b i y (hbo b y hb hy)).trans (hML _ _)).trans (hM0 b i y hy)
    ·have q1:=hm5.below
     have q2:=hmL.below
     have ew:∀ {α:Type} (f:World->α),f K4.w0=f W:=fun f=>by rw [hw4]
     refine hm5.with _ L.w0 (fun o q hq hv hC=>(hm5.lo o q hq hv hC).1) ⟨?_,?_,?_,?_,q1.block⟩
     ·exact (q1.os.trans (ew World.os)).trans q2.os
     ·exact (q1.tape.trans (ew World.tape)).trans q2.tape
     ·exact (q1.output.trans (ew World.output)).trans q2.output
     ·have h1:=q1.size
      have h2:K4.w0.heap.size=W.heap.size:=by rw [hw4]
      have h3:=q2.size
      show L.w0.heap.size<=_
      change K4.w0.heap.size<=_ at h1
      omega
 ·
  rintro e w' ⟨⟨v,rfl⟩,K',hle',hm'⟩
  have hlK:K'.B (D+1)=some (.loop (rec .ready none)):=hle'.B _ _ hBl
  have hlw:w'.heap[D+1]? = some (.loop (rec .ready none)):=hm'.below.block _ _ hlK
  have hel:=run_endLoop (P:=P) hlw (by rw [hrec];simp)
  have hpe:(rec .ready none).pending=none:=by rw [hrec]
  rw [hpe] at hel
  obtain ⟨ex,hex⟩:∃ ex:Loop,ex={ rec .ready none with state:=.exhausted }:=⟨_,rfl⟩
  have hm6:=hm'.putAt hlK rfl (.loop ex)
  refine ⟨none,w'.putObj (D+1) (.loop ex),by rw [hel,hex];simp only [hrec],?_⟩
  have hMc:∀ b i,Kc.M b i=K.M b i:=fun b i=>by rw [hKc]
  have hB':∀ b y,K.B b=some y->(if b=D+1 then some (Obj.loop ex) else K'.B b)=some y:=fun b y hy=>by
   have:=hBlt b y hy
   rw [if_neg (by omega)]
   exact hle'.B b y (hBc b y hy)
  have hw0:K'.w0=K.w0:=by rw [hle'.w0,hKc];rfl
  refine ⟨.normal,{ K' with B:=fun b=>if b=D+1 then some (.loop ex) else K'.B b },⟨s.slots,so items.length⟩,rfl,⟨fun b i u hu=>?_,fun o u ho hu=>?_,fun o u ho hu=>?_,?_,fun o ho=>?_,?_,fun b y hy=>hB' b y (hle.B b y hy),fun b i y hy=>?_⟩,⟨hm6,fun t=>?_,hs.size,?_⟩,rfl,rfl⟩
  ·exact hle'.M b i u ((hMc b i).trans (hle.M b i u hu))
  ·rw [← hle.ρ o u ho hu]
   have:=hle'.ρ o u (show o<n1 by omega) (show u<=Kc.vs o by rw [hKc];exact Nat.le_trans hu (hle.vs o ho))
   rw [hKc] at this
   exact this
  ·rw [← hle.C o u ho hu]
   have:=hle'.C o u (show o<n1 by omega) (show u<=Kc.vs o by rw [hKc];exact Nat.le_trans hu (hle.vs o ho))
   rw [hKc] at this
   exact this
  ·have h1:n1<=K'.n:=hle'.n
   show K0.n<=K'.n
   omega
  ·have h1:=hle'.vs o (show o<n1 by omega)
   rw [hKc] at h1
   exact Nat.le_trans (hle.vs o ho) h1
  ·show K'.w0=K0.w0
   rw [hw0,hle.w0]
  ·show K'.M b i=K0.M b i
   have h1:=hle.B b y hy
   rw [hle'.M0 b i y (hBc b y h1)]
   exact (hMc b i).trans (hle.M0 b i y hy)
  ·have hcut:Rep (Kc.cut n1) (Q11 s.slots t) (a.tmps.getD t undef):=by
    refine Rep.low (K:=K) (L:=Kc.cut n1) (n:=n1) (fun b i u hu=>?_) (Nat.le_refl _) (fun _ _ _=>?_) (fun _ _ _=>?_) (fun _ _=>?_) (hs.slot t) (hlow t)
    ·rw [hKc];exact hu
    ·rw [hKc];rfl
    ·rw [hKc];rfl
    ·rw [hKc];rfl
   exact (hcut.monoR hle'.r).monoR (Qk3 K' _ K'.w0)
  ·refine ⟨List.nodup_cons.2 ⟨fun hin=>?_,hs.defers.1⟩,fun d hd=>?_⟩
   ·obtain ⟨D',h1,h2,_⟩:=hs.defers.2 _ hin
    simp only [Deferred.mk.injEq,Target.collected.injEq,and_true] at h1
    subst h1
    have:=hBlt _ _ h2
    omega
   ·rcases List.mem_cons.1 hd with rfl|hd
    ·refine ⟨D,rfl,?_,?_⟩
     ·show (if D=D+1 then _ else K'.B D)=_
      rw [if_neg (by omega)]
      exact hle'.B _ _ hBD
     ·show K'.w0.heap.size<=D
      rw [hw0,hD]
      exact hs.mem.below.size
    ·obtain ⟨D',h1,h2,h3⟩:=hs.defers.2 d hd
     refine ⟨D',h1,hB' _ _ h2,?_⟩
     show K'.w0.heap.size<=D'
     rw [hw0]
     exact h3
end
def Yields (P:Program) (l n1:Nat) (K0:Ctx) (Yd:AVal->Objs->Objs->Prop):Prop :=
 ∀ (x:AVal) (o o':Objs) (L:Ctx) (W:World) (v:Value),Yd x o o'->K0.le L->MemSat L o W->Rep L x v ->
  YieldAt Fence.wide 0 P l #[v] W fun e W'=>e = .returned (.bool true) ∧ ∃ L':Ctx,(L.cut n1).le L'∧MemSat L' o' W'
structure LowR (n1:Nat) (slots:List (Nat × AVal)) (rs:RSt):Prop where
 slots:∀ t,Low n1 (Q11 slots t)
 loc:∀ t g v,findL rs.loc t=some (g,v)->Low n1 v
section
variable {P:Program} {nt n1:Nat} {ops:Array Oper} {slots:List (Nat × AVal)}
theorem le_cut_trans {K0 K L:Ctx} (h:K0.le K) (g:(K.cut n1).le L) (hn:K0.n<=n1):K0.le L :=
 ⟨fun b i u hu=>g.M b i u (h.M b i u hu),fun o v ho hv=>(g.ρ o v (show o<n1 by omega) (Nat.le_trans hv (h.vs o ho))).trans (h.ρ o v ho hv),fun o v ho hv=>(g.C o v (show o<n1 by omega) (Nat.le_trans hv (h.vs o ho))).trans (h.C o v ho hv),
  Nat.le_trans hn g.n,fun o ho=>Nat.le_trans (h.vs o ho) (g.vs o (show o<n1 by omega)),g.w0.trans h.w0,fun b x hx=>g.B b x (h.B b x hx),fun b i x hx=>(g.M0 b i x (h.B b x hx)).trans (h.M0 b i x hx)⟩
theorem Low.cutRep {K:Ctx} {x:AVal} {v:Value} (h:Rep K x v) (hl:Low n1 x):Rep (K.cut n1) x v :=
 Rep.low (K:=K) (L:=K.cut n1) (n:=n1) (fun _ _ _ h=>h) (Nat.le_refl _) (fun _ _ _=>rfl) (fun _ _ _=>rfl) (fun _ _=>rfl) h hl
def giveS (f:Nat->Bool) (s:List (Nat × AVal)):List (Nat × AVal):=s.map fun p=>(p.1,bif f p.1 then p.2 else .any)
def giveL (f:Nat->Bool) (l:List (Nat × Option Tag × AVal)):List (Nat × Option Tag × AVal):=l.map fun p=>(p.1,p.2.1,bif f p.1 then p.2.2 else .any)
theorem QIb (f:Nat->Bool) (t:Nat):∀ s,Q11 (giveS f s) t=bif f t then Q11 s t else .any
 | []=>by simp only [giveS,List.map_nil];cases f t <;> rfl
 | (i,v) :: r=>by
  have ih:=QIb f t r
  simp only [giveS,List.map_cons] at ih ⊢
  rw [Q12,Q12,ih]
  by_cases h:i=t
  ·subst h;simp
  ·simp [h]
theorem QA6 (f:Nat->Bool) (t:Nat):∀ l,findL (giveL f l) t=(findL l t).map fun p=>(p.1,bif f t then p.2 else .any)
 | []=>rfl
 | (i,g,v) :: r=>by
  have ih:=QA6 f t r
  simp only [giveL,List.map_cons] at ih ⊢
  rw [Qr2,Qr2,ih]
  by_cases h:i=t
  ·subst h;simp
  ·simp [h]
theorem uniq_give (f:Nat->Bool):∀ l,UniqL l->UniqL (giveL f l)
 | [],_=>trivial
 | (i,g,v) :: r,h=>⟨by have:=QA6 f i r;simp only [giveL] at this;rw [this,h.1];rfl,uniq_give f r h.2⟩
theorem RSat.give {K:Ctx} {rs:RSt} {a:Act} {w:World} (f:Nat->Bool) (h:RSat nt ops slots K rs a w):RSat nt ops (giveS f slots) K { rs with loc:=giveL f rs.loc } a w:=by
 refine ⟨h.mem,fun t ht=>?_,fun t v hv=>?_,fun t g v hv=>?_,fun g b hb=>?_,h.size,h.defers,?_⟩
 ·rw [QA6,Option.map_eq_none_iff] at ht
  rw [QIb]
  cases f t with
  | true=>exact h.outer t ht
  | false=>exact .any _
 ·rw [QA6] at hv
  obtain ⟨⟨g,u⟩,hu,e⟩:=Option.map_eq_some_iff.1 hv
  simp only [Prod.mk.injEq] at e
  obtain ⟨rfl,rfl⟩:=e
  cases f t with
  | true=>exact h.plain t _ hu
  | false=>exact .any _
 ·rw [QA6] at hv
  obtain ⟨⟨g',u⟩,hu,e⟩:=Option.map_eq_some_iff.1 hv
  simp only [Prod.mk.injEq] at e
  obtain ⟨rfl,rfl⟩:=e
  obtain ⟨b,h1,h2,h3⟩:=h.tagged t g u hu
  refine ⟨b,h1,fun hb=>?_,h3⟩
  cases f t with
  | true=>exact h2 hb
  | false=>exact .any _
 ·obtain ⟨h1,⟨o,d,h2,h3,h4⟩,h5⟩:=h.guards g b hb
  exact ⟨h1,⟨o,d,h2,h3,by rw [QA6,Option.isSome_map];exact h4⟩,h5⟩
 ·exact uniq_give f _ h.uniq
theorem RSat.moved {K L:Ctx} {rs:RSt} {a:Act} {w w':World} {objs':Objs} (hKL:(K.cut n1).le L) (hlow:LowR n1 slots rs) (hm:MemSat L objs' w') (h:RSat nt ops slots K rs a w):RSat nt ops slots L { rs with objs:=objs' } a w' :=
 ⟨hm,fun t ht=>(Low.cutRep (h.outer t ht) (hlow.slots t)).mono hKL,fun t v hv=>(Low.cutRep (h.plain t v hv) (hlow.loc t _ v hv)).mono hKL,
  fun t g v hv=>by obtain ⟨b,h1,h2,h3⟩:=h.tagged t g v hv;exact ⟨b,h1,fun hb=>(Low.cutRep (h2 hb) (hlow.loc t _ v hv)).mono hKL,h3⟩,h.guards,h.size,
  Marks.mono hKL (show Marks (K.cut n1) a.defers from h.defers),h.uniq⟩
theorem run_yieldOp {a:Act} {w:World} {o:Oper} {c:Call} {f x:Operand} {l:Nat} {v:Value} {r:Result Next} (ho:o.op = .call c) (hc:c.callee = .value f) (ha:c.args = #[x]) (hf:a.eval f = .func (.yield l) #[] #[]) (hx:a.eval x=v)
  (hy:(Instr.yield l #[v]).run P w=r):(execOp a.eval o).run P w=r:=by
 revert hf hx
 generalize a.eval=ρ
 intro hf hx
 simp [execOp,ho,hc,ha,hf,hx,resolve,invoke,go_sem,hy]
theorem op_sound {K:Ctx} {rs:RSt} {a:Act} {w:World} {o:Oper} {draw:Bool} {Kt:RSt->Prop} {Q:Exit->Act->World->Prop} (h:RSat nt ops slots K rs a w) (ha:QZ5 P nt ops slots draw [o] rs Kt) :
  if Region.wanted o (yielded ops a.tmps) then o.wp P a w (Next' nt ops slots K Kt) Q∨(o.asks P a w∧LetsOut Q) else Next' nt ops slots K Kt (a.put o.dst undef) w:=by
 simp only [QZ5] at ha
 split at ha
 ·rename_i hg
  exact Ql7 h rfl (by simp [Region.wanted,hg]) ha
 ·rename_i g hg
  split at ha
  ·rename_i gb rs1 hgo
   obtain ⟨h1,h2,_,_,hy⟩:=Q2d h hgo
   rcases ha with ⟨hgb,v,hp⟩|ha
   ·subst hgb
    have hw:Region.wanted o (yielded ops a.tmps)=false:=by simp only [Region.wanted,hg];exact hy
    rw [hw]
    simp only [Bool.false_eq_true,if_false]
    obtain ⟨rs',hr,hk⟩:=Qh4 hp
    exact ⟨K,rs',.refl K,h1.put hr ⟨false,h2,(fun h=>by cases h),fun _=>rfl⟩,hk⟩
   ·exact Ql7 h1 h2 (by simp only [Region.wanted,hg];exact hy) ha
  ·exact ha.elim
theorem wp_wide {o:Oper} {a:Act} {w:World} {next:Act->World->Prop} {Q:Exit->Act->World->Prop} (h:o.wp P a w next Q):o.wpIn Fence.wide 0 P a w next Q:=by
 refine ⟨fun _ _=>trivial,?_⟩
 show o.uponIn Fence.wide 0 P a next Q ((execOp a.eval o).run P w)
 unfold Oper.wp at h
 revert h
 generalize (execOp a.eval o).run P w=r
 intro h
 cases r with
 | ok nx w' =>
  cases nx with
  | value v=>exact h
  | skip=>exact h
  | defer d=>exact h
  | enter f args =>
   refine ⟨fun hd=>by simp [Fence.wide] at hd,callsIn_wide.2 (Calls.mono h ?_)⟩
   intro e w'' hr
   cases e with
   | returned v=>exact hr
   | panicked chain=>exact hr
   | outgrown=>exact hr
  | row row args =>
   refine ⟨fun hd=>by simp [Fence.wide] at hd,fun c cs _=>?_⟩
   obtain ⟨v,w'',hr,hs⟩:=h c cs
   exact ⟨v,w'',hr,stepsIn_wide.2 hs⟩
  | _=>exact h.elim
 | halt r w' =>
  cases r with
  | panic v=>exact h
  | _=>exact h.elim
def yieldX (look:Operand->AVal) (o:Oper):Option (Nat × AVal) :=
 match o.op with
 | .call c=>(match c.callee with | .value f=>(match look f,c.args.toList with | .lit (.func (.yield l) p q),[x]=>bif p.toList.isEmpty&&q.toList.isEmpty then some (l,look x) else none|_,_=>none)|_=>none)
 | _=>none
theorem yieldX_some {look:Operand->AVal} {o:Oper} {l:Nat} {x:AVal} (h:yieldX look o=some (l,x)):∃ (c:Call) (f y:Operand),o.op = .call c∧c.callee = .value f∧c.args = #[y]∧look f = .lit (.func (.yield l) #[] #[])∧look y=x:=by
 unfold yieldX at h
 split at h
 ·rename_i c ho
  split at h
  ·rename_i f hc
   split at h
   ·rename_i l' p q y hl ha
    cases hb:p.toList.isEmpty&&q.toList.isEmpty with
    | false=>rw [hb] at h;cases h
    | true =>
     rw [hb] at h
     simp only [cond_true,Option.some.injEq,Prod.mk.injEq] at h
     obtain ⟨rfl,rfl⟩:=h
     simp only [Bool.and_eq_true,List.isEmpty_iff,Array.toList_eq_nil_iff] at hb
     obtain ⟨rfl,rfl⟩:=hb
     exact ⟨c,f,y,ho,hc,Array.toList_inj.1 (by rw [ha]),hl,rfl⟩
   ·cases h
  ·cases h
 ·cases h
def NextK (nt:Nat) (ops:Array Oper) (slots:List (Nat × AVal)) (K0:Ctx) (Kt:RSt->Prop) (a:Act) (w:World):Prop:=∃ K' rs',Ctx.le K0 K'∧RSat nt ops slots K' rs' a w∧Kt rs'
theorem yield_call {l:Nat} {Yd:AVal->Objs->Objs->Prop} {K0 K:Ctx} {rs:RSt} {a:Act} {w:World} {o:Oper} {cur:Option Tag} {Kt:RSt->Prop} {Q:Exit->Act->World->Prop} {x:AVal} {objs':Objs} (f:Nat->Bool) (hY:Yields P l n1 K0 Yd) (hn:K0.n<=n1) (hle:K0.le K) (h:RSat nt ops slots K rs a w) (hc:∀ c,cur=some c->findG rs.G c=some true)
  (hx:yieldX (lookR ops slots rs.loc cur) o=some (l,x)) (hd:Yd x rs.objs objs') (hlow:LowR n1 (giveS f slots) { rs with loc:=giveL f rs.loc }) (hp:PutK nt ⟨giveL f rs.loc,rs.G,objs'⟩ cur o.dst (.lit (.bool true)) Kt):o.wpIn Fence.wide 0 P a w (NextK nt ops (giveS f slots) K0 Kt) Q:=by
 obtain ⟨c,g,y,ho,hcc,ha,hf,rfl⟩:=yieldX_some hx
 have hfv:a.eval g = .func (.yield l) #[] #[]:=QX0 (hf ▸ QB2 h cur hc g)
 have hyr:=QB2 h cur hc y
 obtain ⟨fn,tmps,assign,body,hrun,hround⟩:=hY _ _ _ K w (a.eval y) hd hle h.mem hyr
 refine ⟨fun _ _=>trivial,?_⟩
 show o.uponIn Fence.wide 0 P a _ Q ((execOp a.eval o).run P w)
 rw [run_yieldOp ho hcc ha hfv rfl hrun]
 refine ⟨fun hd=>by simp [Fence.wide] at hd,hround.mono ?_⟩
 rintro e w' ⟨rfl,L',hle',hm'⟩
 obtain ⟨rs',hpr,hk⟩:=Qh4 hp
 refine ⟨L',rs',le_cut_trans hle hle' hn,((h.give f).moved hle' hlow hm').put hpr ?_,hk⟩
 cases cur with
 | none=>exact .lit _
 | some c=>exact ⟨true,hc c rfl,fun _=>.lit _,fun h=>by cases h⟩
def copsY (P:Program) (nt n1 l:Nat) (ops:Array Oper) (Yd:AVal->Objs->Objs->Prop):List Oper->List (Nat × AVal)->Loc->Gs->Objs->(List (Nat × AVal)->Loc->Gs->Objs->Prop)->Prop
 | [],slots,loc,G,objs,K=>K slots loc G objs
 | o :: rest,slots,loc,G,objs,K =>
  match yieldX (lookR ops slots loc o.guard) o with
  | none=>cops P nt ops slots false [o] loc G objs fun loc G objs=>copsY P nt n1 l ops Yd rest slots loc G objs K
  | some (l',x) =>
   (match o.guard with
    | none=>l'=l ∧ ∃ f objs',Yd x objs objs'∧LowR n1 (giveS f slots) ⟨giveL f loc,G,objs⟩∧cput nt (giveL f loc) G objs' none o.dst (.lit (.bool true)) fun loc G objs=>copsY P nt n1 l ops Yd rest (giveS f slots) loc G objs K
    | some g =>
     (match cgOf ops loc G g with
     | some (gb,G)=>l'=l ∧ ∃ f objs',(gb=true->Yd x objs objs')∧(gb=false->objs'=objs)∧LowR n1 (giveS f slots) ⟨giveL f loc,G,objs⟩∧cput nt (giveL f loc) G objs' (some g) o.dst (.lit (.bool true)) fun loc G objs=>copsY P nt n1 l ops Yd rest (giveS f slots) loc G objs K
     | none=>False))
theorem QQc {l:Nat} {Yd:AVal->Objs->Objs->Prop} {K0:Ctx} {Kt:List (Nat × AVal)->Loc->Gs->Objs->Prop} {Q:Exit->Act->World->Prop} (hY:Yields P l n1 K0 Yd) (hn1:K0.n<=n1) (hL:¬ LetsOut Q) (hQ:∀ slots K rs a w,K0.le K->RSat nt ops slots K rs a w->Kt slots rs.loc rs.G rs.objs->Q .normal a w) :
  ∀ (n i:Nat),i+n=ops.size -> ∀ (slots:List (Nat × AVal)) (K:Ctx) (rs:RSt) (a:Act) (w:World),K0.le K->RSat nt ops slots K rs a w->copsY P nt n1 l ops Yd (ops.toList.drop i) slots rs.loc rs.G rs.objs Kt ->
   wpOpsIn Fence.wide 0 P ops Q (List.range' i n) a w
 | 0,i,hn,slots,K,rs,a,w,hK,h,ha=>by
  have:ops.toList.drop i=[]:=List.drop_eq_nil_of_le (by simp;omega)
  rw [this] at ha
  exact hQ slots K rs a w hK h ha
 | n+1,i,hn,slots,K,rs,a,w,hK,h,ha=>by
  have hlt:i<ops.toList.length:=by simp;omega
  rw [List.drop_eq_getElem_cons hlt] at ha
  have hi:ops[i]? = some (ops.toList[i]):=by simp
  generalize ops.toList[i]=o at ha hi
  simp only [List.range'_succ]
  unfold wpOpsIn
  simp only [hi]
  have ih:∀ slots a w,NextK nt ops slots K0 (fun rs'=>copsY P nt n1 l ops Yd (ops.toList.drop (i+1)) slots rs'.loc rs'.G rs'.objs Kt) a w->wpOpsIn Fence.wide 0 P ops Q (List.range' (i+1) n) a w:=by
   rintro slots a w ⟨K',rs',hle,hr,hk⟩
   exact QQc hY hn1 hL hQ n (i+1) (by omega) slots K' rs' a w hle hr hk
  have up:∀ {r:Result Next} {nx nx':Act->World->Prop},(∀ a w,nx a w->nx' a w)->o.uponIn Fence.wide 0 P a nx Q r->o.uponIn Fence.wide 0 P a nx' Q r:=by
   intro r nx nx' hx hr
   cases r with
   | ok q w' =>
    cases q with
    | value v=>exact hx _ _ hr
    | skip=>exact hx _ _ hr
    | defer d=>exact hx _ _ hr
    | enter f args=>exact ⟨hr.1,CallsIn.mono hr.2 fun e w'' he=>by cases e with|returned v=>exact hx _ _ he|panicked c=>exact he|outgrown=>exact he⟩
    | row row args=>exact ⟨hr.1,fun c cs hroom=>by obtain ⟨v,w'',h1,h2⟩:=hr.2 c cs hroom;exact ⟨v,w'',hx _ _ h1,h2⟩⟩
    | round l f tmps assign body=>exact ⟨hr.1,RoundIn.mono hr.2 fun e w'' he=>by cases e with|returned v=>exact hx _ _ he|panicked c=>exact he|outgrown=>exact he⟩
    | _=>exact hr.elim
   | halt q w' =>
    cases q with
    | panic v=>exact hr
    | _=>exact hr.elim
  simp only [copsY] at ha
  split at ha
  ·have hs:=op_sound (Q:=Q) h (Qb9 ha)
   split
   ·rename_i hw
    rw [if_pos hw] at hs
    rcases hs with hs|hs
    ·have:=wp_wide hs
     exact ⟨this.1,up (fun a w hx=>by obtain ⟨K',rs',h1,h2,h3⟩:=hx;exact ih _ a w ⟨K',rs',hK.trans h1,h2,h3⟩) this.2⟩
    ·exact absurd hs.2 hL
   ·rename_i hw
    rw [if_neg hw] at hs
    obtain ⟨K',rs',h1,h2,h3⟩:=hs
    exact ⟨fun _ _=>trivial,ih _ _ _ ⟨K',rs',hK.trans h1,h2,h3⟩⟩
  ·rename_i l' x hyx
   split at ha
   ·rename_i hg
    obtain ⟨rfl,f,objs',h2,h3,h4⟩:=ha
    rw [hg] at hyx
    have hw:Region.wanted o (yielded ops a.tmps)=true:=by simp [Region.wanted,hg]
    rw [if_pos hw]
    have:=yield_call (Q:=Q) f hY hn1 hK h (fun c hc=>by cases hc) hyx h2 h3 (cput_iff.1 h4)
    exact ⟨this.1,up (ih _) this.2⟩
   ·rename_i g hg
    split at ha
    ·rename_i gb G' hgo
     obtain ⟨rfl,f,objs',h1,h2,h3,h4⟩:=ha
     rw [hg] at hyx
     obtain ⟨q1,q2,_,_,hy⟩:=Q2d h (QMc hgo)
     have hw:Region.wanted o (yielded ops a.tmps)=gb:=by simp only [Region.wanted,hg];exact hy
     cases gb with
     | false =>
      rw [if_neg (by rw [hw];simp)]
      obtain ⟨rs',hr,hk⟩:=Qh4 (cput_iff.1 h4)
      rw [h2 rfl] at hr
      exact ⟨fun _ _=>trivial,ih _ _ _ ⟨K,rs',hK,(q1.give f).put hr ⟨false,q2,(fun h=>by cases h),fun _=>rfl⟩,hk⟩⟩
     | true =>
      rw [if_pos hw]
      have:=yield_call (Q:=Q) f hY hn1 hK q1 (fun c hc=>by cases hc;exact q2) hyx (h1 rfl) h3 (cput_iff.1 h4)
      exact ⟨this.1,up (ih _) this.2⟩
    ·exact ha.elim
end
def cwpY (P:Program) (nt n0 n1 l:Nat) (keep yid:Nat->Bool) (Yd:AVal->Objs->Objs->Prop):Code->CQ->List (Nat × AVal)->Objs->Prop
 | .region id ops draw,Q,s,o =>
  (match yid id with
   | true=>draw=false∧copsY P nt n1 l ops Yd ops.toList s [] [] o fun s loc _ o=>cmerge keep s loc fun s=>Q .normal s o
   | false=>cwp P nt n0 keep (.region id ops draw) Q s o)
 | .seq a b,Q,s,o=>cwpY P nt n0 n1 l keep yid Yd a (fun e s o=>match e with | .normal=>cwpY P nt n0 n1 l keep yid Yd b Q s o|e=>Q e s o) s o
 | .cond c x y,Q,s,o =>
  (match lookO ⟨s,o⟩ c with
   | .lit (.bool b)=>(b=true->cwpY P nt n0 n1 l keep yid Yd x Q s o)∧(b=false->cwpY P nt n0 n1 l keep yid Yd y Q s o)
   | _=>False)
 | .block id body,Q,s,o=>cwpY P nt n0 n1 l keep yid Yd body (fun e s o=>match e with | .exit i=>(match Nat.beq i id with|true=>Q .normal s o|false=>Q (.exit i) s o)|e=>Q e s o) s o
 | .loop body,Q,s,o=>∃ (I:Nat->List (Nat × AVal)->Objs->Prop) (n:Nat) (s1:List (Nat × AVal)) (o1:Objs),Weaker nt n0 ⟨s,o⟩ ⟨s1,o1⟩∧I n s1 o1 ∧ ∀ m s o,I m s o->cwpY P nt n0 n1 l keep yid Yd body (fun e s o=>match e with | .normal=>∃ m' s' o',m'<m∧Weaker nt n0 ⟨s,o⟩ ⟨s',o'⟩∧I m' s' o'|e=>Q e s o) s o
 | c,Q,s,o=>cwp P nt n0 keep c Q s o
section
variable {P:Program} {nt n0 n1 l:Nat} {keep yid:Nat->Bool} {Yd:AVal->Objs->Objs->Prop}
theorem cwpY_sound {K0:Ctx} (hn:K0.n=n0) (hn1:n0<=n1) (hY:Yields P l n1 K0 Yd) (c:Code):∀ (Q:CQ) (s:List (Nat × AVal)) (o:Objs) (K:Ctx) (a:Act) (w:World),K0.le K->Sat nt K ⟨s,o⟩ a w->cwpY P nt n0 n1 l keep yid Yd c Q s o->c.wpIn Fence.wide 0 P (Post nt K0 fun e t=>Q e t.slots t.objs) a w:=by
 have plain:∀ (c:Code) (Q:CQ) (s:List (Nat × AVal)) (o:Objs) (K:Ctx) (a:Act) (w:World),K0.le K->Sat nt K ⟨s,o⟩ a w->cwp P nt n0 keep c Q s o->c.wpIn Fence.wide 0 P (Post nt K0 fun e t=>Q e t.slots t.objs) a w:=fun c Q s o K a w hle hs h=>wpIn_wide.2 (QD8 c _ _ K0 K a w hn hle hs (QR9 c Q s o h))
 induction c with
 | region id ops draw =>
  intro Q s o K a w hle hs h
  simp only [cwpY] at h
  split at h
  ·obtain ⟨hd,h⟩:=h
   subst hd
   refine wpIn_region ?_
   rw [List.range_eq_range']
   simp only [Qcb] at h
   refine QQc hY (by omega) Post.noLets (Kt:=fun s loc _ o=>Q .normal (QR8 keep s loc) o) ?_ ops.size 0 (by omega) s K (QJ9 ⟨s,o⟩) a w hle hs.start (by simpa [QJ9] using h)
   intro s K' rs a' w' hle' hr hk
   exact ⟨.normal,K',_,rfl,hle',Q95 keep hr,hk⟩
  ·exact plain _ Q s o K a w hle hs h
 | seq x y ihx ihy =>
  intro Q s o K a w hle hs h
  refine wpIn_seq (wpIn_mono (ihx _ s o K a w hle hs h) ?_)
  rintro e a' w' ⟨e',K',⟨s',o'⟩,rfl,hle',hs',hq⟩
  cases e' with
  | normal=>exact ihy Q s' o' K' a' w' hle' hs' hq
  | exit id=>exact ⟨.exit id,K',_,rfl,hle',hs',hq⟩
  | goto l=>exact ⟨.goto l,K',_,rfl,hle',hs',hq⟩
  | ret=>exact ⟨.ret,K',_,rfl,hle',hs',hq⟩
 | cond c x y ihx ihy =>
  intro Q s o K a w hle hs h
  simp only [cwpY] at h
  split at h
  ·rename_i b hb
   have hv:a.eval c = .bool b:=by
    cases c with
    | tmp t =>
     simp only [lookO] at hb
     have hr:=hs.slot t
     rw [hb] at hr
     exact QX0 hr
    | const v=>simp only [lookO,AVal.lit.injEq] at hb;exact hb
    | global g=>simp [lookO] at hb
    | func f=>simp [lookO] at hb
   exact wpIn_cond_split hv (fun ht=>ihx Q s o K a w hle hs (h.1 ht)) (fun hf=>ihy Q s o K a w hle hs (h.2 hf))
  ·exact h.elim
 | block id body ih =>
  intro Q s o K a w hle hs h
  refine wpIn_block (wpIn_mono (ih _ s o K a w hle hs h) ?_)
  rintro e a' w' ⟨e',K',s',rfl,hle',hs',hq⟩
  cases e' with
  | normal=>exact ⟨.normal,K',s',rfl,hle',hs',hq⟩
  | exit i =>
   simp only at hq
   simp only [AExit.real,Exit.inBlock]
   cases hb:Nat.beq i id with
   | true =>
    rw [hb] at hq
    have:=Nat.eq_of_beq_eq_true hb
    rw [if_pos this]
    exact ⟨.normal,K',s',rfl,hle',hs',hq⟩
   | false =>
    rw [hb] at hq
    have:i ≠ id:=fun e=>by subst e;simp at hb
    rw [if_neg this]
    exact ⟨.exit i,K',s',rfl,hle',hs',hq⟩
  | goto l=>exact ⟨.goto l,K',s',rfl,hle',hs',hq⟩
  | ret=>exact ⟨.ret,K',s',rfl,hle',hs',hq⟩
 | loop body ih =>
  intro Q s o K a w hle hs h
  obtain ⟨I,m0,s1,o1,hweak0,hI,hround⟩:=h
  obtain ⟨K1,hle1,hs1⟩:=hweak0 K0 K a w hn hle hs
  refine wpIn_loop_ghost (fun m a w=>∃ s o K,K0.le K∧Sat nt K ⟨s,o⟩ a w∧I m s o) m0 ⟨s1,o1,K1,hle1,hs1,hI⟩ ?_
  rintro m a w ⟨s,o,K,hle,hs,hI⟩
  refine wpIn_mono (ih _ s o K a w hle hs (hround m s o hI)) ?_
  rintro e a' w' ⟨e',K',⟨s',o'⟩,rfl,hle',hs',hq⟩
  cases e' with
  | normal =>
   obtain ⟨m',s'',o'',hlt,hweak,hI'⟩:=hq
   obtain ⟨K'',hle'',hs''⟩:=hweak K0 K' a' w' hn hle' hs'
   exact ⟨m',hlt,s'',o'',K'',hle'',hs'',hI'⟩
  | exit id=>exact ⟨.exit id,K',_,rfl,hle',hs',hq⟩
  | goto l=>exact ⟨.goto l,K',_,rfl,hle',hs',hq⟩
  | ret=>exact ⟨.ret,K',_,rfl,hle',hs',hq⟩
 | skip=>exact fun Q s o K a w hle hs h=>plain _ Q s o K a w hle hs h
 | label l=>exact fun Q s o K a w hle hs h=>plain _ Q s o K a w hle hs h
 | exit id=>exact fun Q s o K a w hle hs h=>plain _ Q s o K a w hle hs h
 | goto l=>exact fun Q s o K a w hle hs h=>plain _ Q s o K a w hle hs h
 | ret=>exact fun Q s o K a w hle hs h=>plain _ Q s o K a w hle hs h
 | refuse y=>exact fun Q s o K a w hle hs h=>plain _ Q s o K a w hle hs h
 | scope b _=>exact fun Q s o K a w hle hs h=>plain _ Q s o K a w hle hs h
 | rangeFunc f ps x y _ _=>exact fun Q s o K a w hle hs h=>plain _ Q s o K a w hle hs h
def StepsY (items:List AVal) (so:Nat->Objs) (x:AVal) (o o':Objs):Prop:=∃ k ex,items[k]? = some x∧o=so k++ex∧o'=so (k+1)
theorem IterC.of_cwpY {gf:Nat} {fn:Func} {c:Code} {lb:List AVal} {items:List AVal} {so:Nat->Objs} (keep yid:Nat->Bool) (hf:P.funcs[gf]? = some fn) (hb:fn.body=some c) (hlen:Nat.ble (lb.length+1) fn.ntmps=true) (hn:∀ k,n1<=(so k).length) (hlo:∀ k,∀ p ∈ so k,Qca (so k).length p.2) (hlx:∀ k,∀ x ∈ items,Low (so k).length x)
  (h:∀ l,cwpY P fn.ntmps n1 n1 l keep yid (StepsY items so) c (CRet P fn n1 fun _ o=>o=so items.length) (Q13 0 (.lit (.func (.yield l) #[] #[]) :: lb)) (so 0)):IterC P gf lb n1 items so:=by
 intro l K w vs hm hreps hround
 have harr:(#[.func (.yield l) #[] #[]]++vs.toArray:Array Value)=(Value.func (.yield l) #[] #[] :: vs).toArray:=by simp
 rw [harr]
 have hreps2:Reps { K with w0:=w } (.lit (.func (.yield l) #[] #[]) :: lb) (Value.func (.yield l) #[] #[] :: vs):=by
  refine ⟨by simp [hreps.1],fun i x v hx hv=>?_⟩
  cases i with
  | zero=>simp at hx hv;subst hx hv;exact .lit _
  | succ i=>exact (hreps.2 i x v (by simpa using hx) (by simpa using hv)).monoR (Qk3 K K.B w)
 refine callsIn_of_wp_marks (n:=0) hf hb trivial ?_
 have hsat:=Sat.enter (nt:=fn.ntmps) hm.begin hreps2 (by simpa using Nat.le_of_ble_eq_true hlen)
 have hcut:Ctx.le { K.cut n1 with w0:=w } { K with w0:=w }:=⟨fun _ _ _ h=>h,fun _ _ _ _=>rfl,fun _ _ _ _=>rfl,by have:=hm.len;have:=hn 0;show n1<=K.n;omega,fun _ _=>Nat.le_refl _,rfl,fun _ _ h=>h,fun _ _ _ _=>rfl⟩
 have hY:Yields P l n1 { K.cut n1 with w0:=w } (StepsY items so):=by
  rintro x o o' L W v ⟨k,ex,hk,rfl,rfl⟩ hL hmL hv
  have hmc:=hmL.cut (n:=(so k).length) (by simp) (fun o p hp ho=>hlo k p (by rw [List.getElem?_append_left ho] at hp;exact List.mem_of_getElem? hp))
  rw [List.take_left] at hmc
  exact hround k x (L.cut (so k).length) W v hk ⟨⟨hL.M,hL.ρ,hL.C,hn k,hL.vs⟩,hL.B⟩ hmc (Low.cutRep hv (hlx k x (List.mem_of_getElem? hk)))
 refine wpIn_mono (cwpY_sound (K0:={ K.cut n1 with w0:=w }) rfl (Nat.le_refl _) hY c _ _ _ { K with w0:=w } _ w hcut hsat (h l)) ?_
 rintro e a' w' ⟨e',K',s',rfl,hle,hs',hq⟩
 have leave:Qzc P fn n1 (fun _ o=>o=so items.length) s'->LeavesInM Fence.wide 0 P fn a'.tmps (fun e w'=>(∃ v,e = .returned v) ∧ ∃ K':Ctx,(K.cut n1).le K'∧MemSat K' (so items.length) w') a'.defers .returning w':=fun hl =>
  Qob (K0:=K.cut n1) hm.below hcut rfl rfl rfl hle hs' hl fun v r objs' K' w' h1 h2 h3 h4=>by
   subst h4
   exact ⟨⟨v,rfl⟩,K',h1,h2⟩
 cases e' with
 | normal=>simp only [CRet,QC5] at hq;exact leave hq
 | ret=>simp only [CRet,QC5] at hq;exact leave hq
 | exit id=>exact hq.elim
 | goto l=>exact hq.elim
end
theorem lowR_of {n1:Nat} {slots:List (Nat × AVal)} {rs:RSt} (hs:∀ p ∈ slots,Low n1 p.2) (hl:∀ p ∈ rs.loc,Low n1 p.2.2):LowR n1 slots rs:=by
 refine ⟨?_,?_⟩
 ·intro t
  clear hl
  induction slots with
  | nil=>exact .any
  | cons p r ih =>
   obtain ⟨i,v⟩:=p
   rw [Q12]
   by_cases h:i=t
   ·rw [if_pos h];exact hs _ (List.mem_cons_self ..)
   ·rw [if_neg h];exact ih fun p hp=>hs p (List.mem_cons_of_mem _ hp)
 ·intro t g v
  obtain ⟨loc,G,objs⟩:=rs
  simp only at hl ⊢
  induction loc with
  | nil=>intro h;simp [findL] at h
  | cons p r ih =>
   obtain ⟨i,g',v'⟩:=p
   rw [Qr2]
   by_cases h:i=t
   ·rw [if_pos h]
    intro e
    simp only [Option.some.injEq,Prod.mk.injEq] at e
    rw [← e.2]
    exact hl _ (List.mem_cons_self ..)
   ·rw [if_neg h];exact ih fun p hp=>hl p (List.mem_cons_of_mem _ hp)
theorem range_nextC {P:Program} {nt n0:Nat} {g:Operand} {p gf:Nat} {asg body:Code} {sl0:List (Nat × AVal)} {o0:Objs} {Q:CQ} (keep:Nat->Bool) (lb items:List AVal) (so:Nat->Objs) (n1:Nat) (sl:List (Nat × AVal)) (hw:Weaker nt n0 ⟨sl0,o0⟩ ⟨sl,so 0⟩) (hn01:Nat.ble n0 n1=true) (hlen:∀ k,k<=items.length->n1<=(so k).length) (hp:p<nt)
  (hfree:Q11 sl p = .any) (hlow:∀ t,Low n1 (Q11 sl t)) (hg:lookO ⟨sl,so 0⟩ g = .fn (.func gf) [] lb)
  (eg:∀ args w,(callFunc gf args).run P w = .ok (.enter gf args) w) (hit:IterC P gf lb n1 items so)
  (hdr:∀ id,keep (2000000+id)=true) (hoka:QM5 asg=true) (hok:QM5 body=true)
  (hbody:∀ k x,items[k]? = some x->cwp P nt n1 keep asg (fun e sl' o'=>match e with | .normal=>cwp P nt n1 keep body (fun e sl' o'=>match e with | .normal=>Weaker nt n1 ⟨sl',o'⟩ ⟨sl,so (k+1)⟩|_=>False) sl' o'|_=>False) ((p,x) :: sl) (so k))
  (hQ:Q .normal sl (so items.length)) :
  ∃ R:AExit->List (Nat × AVal)->Objs->Prop,Qr9 P nt n0 (.rangeFunc g #[p] asg body) (fun e t=>R e t.slots t.objs) ⟨sl0,o0⟩ ∧ ∀ e s o,R e s o->Q e s o:=by
 refine ⟨fun e s o=>e = .normal∧s=sl∧o=so items.length,?_,?_⟩
 ·intro K0 K a w hn hle hs
  obtain ⟨K9,hle9,hs9⟩:=hw K0 K a w hn hle hs
  refine wp_mono (rangeC (P:=P) (nt:=nt) (n0:=n0) (keep:=keep) (s:=⟨sl,so 0⟩) n1 rfl (Nat.le_of_ble_eq_true hn01) hlen hp hfree hlow hg eg hit hdr hoka hok ?_ K0 K9 a w hn hle9 hs9) ?_
  ·intro k x hx
   refine Qr6 asg _ _ _ ?_ (QR9 asg _ _ _ (hbody k x hx))
   rintro e ⟨s1,o1⟩ h
   cases e with
   | normal =>
    refine Qr6 body _ _ _ ?_ (QR9 body _ _ _ h)
    rintro e ⟨s1,o1⟩ h
    cases e with
    | normal=>exact h
    | exit id=>exact h
    | goto t=>exact h
    | ret=>exact h
   | exit id=>exact h
   | goto t=>exact h
   | ret=>exact h
  ·rintro e' a' w' ⟨e1,K1,s1,he,hle1,hs1,rfl,rfl⟩
   exact ⟨.normal,K1,_,he,hle1,hs1,rfl,rfl,rfl⟩
 ·rintro e s o ⟨rfl,rfl,rfl⟩
  exact hQ
end Go.Fw
namespace Go.Fw
set_option linter.unusedSimpArgs false
set_option linter.unusedVariables false
theorem elemI_set {α:Type} {c:α->List AVal} {l:List α} {i:Nat} {x:List AVal} (j:Nat) (e:i=j) (h:j<l.length):elemI ((l.map c).set i x) i=some x:=by
 subst e
 have:∀ (es:List (List AVal)) (i:Nat),i<es.length->elemI (es.set i x) i=some x:=by
  intro es
  induction es with
  | nil=>intro i hi;exact absurd hi (Nat.not_lt_zero _)
  | cons a r ih =>
   intro i hi
   cases i with
   | zero=>rfl
   | succ i=>exact ih i (Nat.lt_of_succ_lt_succ hi)
 exact this _ _ (by rw [List.length_map];exact h)
theorem turn_rowset {α:Type} {objs:Objs} {n:Nat} {ks:List Nat} {t:TypeId} {k i:Nat} {c:α->List AVal} {l l':List α} {xs:List AVal} (j:Nat) (y:α) (e:i=j) (hl:l'=l.set j y) (hc:∀ x,LowL n (c x))
  (h:TurnCs objs n ks xs (c y)):TurnO objs n ks (.row t k ((l.map c).set i xs)) (.row t k (l'.map c)):=by
 subst e hl
 refine .row _ _ _ _ ?_
 induction l generalizing i with
 | nil=>exact .nil
 | cons a r ih =>
  cases i with
  | zero=>exact .cons _ _ _ _ h (.low fun e he=>by obtain ⟨q,_,rfl⟩:=List.mem_map.1 he;exact hc q)
  | succ i=>exact .cons _ _ _ _ (.low (hc a)) (ih (i:=i))
theorem set_self {α:Type} (d:α) (l:List α) (j:Nat):l=l.set j (l.getD j d):=by
 induction l generalizing j with
 | nil=>rfl
 | cons a r ih =>
  cases j with
  | zero=>rfl
  | succ j=>exact congrArg (a :: ·) (ih j)
open Go.RowKit
theorem rowSeg {K:Ctx} {k:Nat} {es:List (List AVal)} {c:List Value} (h1:∀ e ∈ es,e.length=k) (hone:∀ u ∈ c,u.oneCell'=true)
  (hr:∀ (i j:Nat) (e:List AVal) (x:AVal),es[i]? = some e->e[j]? = some x -> ∃ u,c[i*k+j]? = some u∧Rep K x u) (hs:es.length*k<=c.length) (a m:Nat) (h:a+m<=es.length) :
  Row K k ((es.drop a).take m) ((c.drop (a*k)).take (m*k)):=by
 have hl:((es.drop a).take m).length=m:=by simp;omega
 have hsz:(a+m)*k<=c.length:=Nat.le_trans (Nat.mul_le_mul_right k h) hs
 rw [Nat.add_mul] at hsz
 refine ⟨by rw [hl];simp;omega,fun e he=>h1 e (QE3 he),fun u hu=>hone u (QE3 hu),fun i j e x he hx=>?_⟩
 rw [List.getElem?_take] at he
 split at he
 ·rename_i hi
  rw [List.getElem?_drop] at he
  obtain ⟨u,hu,hru⟩:=hr (a+i) j e x he hx
  have hj:j<k:=by have:=h1 e (List.mem_of_getElem? he);have:=(List.getElem?_eq_some_iff.1 hx).1;omega
  have hik:(i+1)*k<=m*k:=Nat.mul_le_mul_right k hi
  rw [Nat.add_mul,Nat.one_mul] at hik
  refine ⟨u,?_,hru⟩
  rw [List.getElem?_take,if_pos (by omega),List.getElem?_drop,← Nat.add_assoc,← Nat.add_mul]
  exact hu
 ·cases he
theorem MemSat.put {K:Ctx} {objs:Objs} {w:World} (hm:MemSat K objs w) {o ver k:Nat} {te:TypeId} {es:List (List AVal)} (hp:objs[o]? = some (ver,.row te k es)) (hC:K.C o ver ≠ 0)
  {c:Array Value} (hc:RowAt w (K.ρ o ver) c te k) (hs:c.size=K.C o ver*k) {es':List (List AVal)} {us:List Value} (hrow:Row K k es' us) (hl:es'.length<=K.C o ver)
  {c':Array Value} {rest:List Value} (hc':c'.toList=us++rest) (hcs:c'.size=c.size) (hrest:∀ u ∈ rest,u.oneCell'=true):MemSat K (objs.set o (ver,.row te k es')) (w.setRow (K.ρ o ver) c'):=by
 refine hm.setRow hp hC c c' hc hcs ?_ es' hl hrow.elem ?_
 ·intro u hu
  rw [hc'] at hu
  rcases List.mem_append.1 hu with hu|hu
  ·exact hrow.one u hu
  ·exact hrest u hu
 ·intro i j e x he hx
  obtain ⟨u,hu,hru⟩:=hrow.rep i j e x he hx
  refine ⟨u,?_,hru⟩
  rw [← Array.getElem?_toList,hc',List.getElem?_append_left (List.getElem?_eq_some_iff.1 hu).1]
  exact hu
theorem run_clear_k {P:Program} (w:World) (t ty elem:TypeId) (g o n cap:Nat) (cur:Array Value) (tb:TypeId) (fr:Nat × Nat) (i:TypeInfo) (z:Value) (hu:P.underlying t=some (.slice elem)) (hi:P.info? elem=some i) (hz:i.zero=some z)
  (hz1:∀ u ∈ z.cells.toList,u.oneCell'=true) (hn:n ≠ 0)
  (hg:w.heap[g]? = some (.cells cur tb fr)) (hfr:frFree fr cur.size) (hfit:o+n*z.cells.size<=cur.size) :
  (Builtin.clear_ #[t] ty #[.slice (some ⟨g,o,none⟩) n cap]).run P w =
   .ok (.tuple #[]) (w.setRow g (cur.toList.take o++(Builtin.zeroCells z.cells n).toList++cur.toList.drop (o+n*z.cells.size)).toArray):=by
 have hlen:(Builtin.zeroCells z.cells n).toList.length=n*z.cells.size:=by simp [Builtin.zeroCells]
 have h1:∀ u ∈ (Builtin.zeroCells z.cells n).toList,u.oneCell'=true:=by
  intro u hu
  simp only [Builtin.zeroCells,Array.toList_map,List.mem_map,Array.toList_range,List.mem_range] at hu
  obtain ⟨q,hq,rfl⟩:=hu
  rcases Nat.eq_zero_or_pos z.cells.size with h0|h0
  ·rw [h0] at hq;simp at hq
  ·rw [getElem!_pos z.cells _ (Nat.mod_lt _ h0)]
   exact hz1 _ (by simp)
 have hst:=Qu2 P g o tb fr (Builtin.zeroCells z.cells n).toList 0 cur w hg hfr (by rw [hlen];omega) h1
 simp only [Nat.add_zero,hlen] at hst
 obtain ⟨n,rfl⟩:∃ m,n=m+1:=⟨n - 1,by omega⟩
 simp [Builtin.clear_,run_underlying hu,zeroValue,typeInfo,hi,hz,hst]
theorem Ql6 {P:Program} {ops:Array Oper} {o:Oper} {a:Act} {w:World} {K:Act->World->Prop} {Q:Exit->Act->World->Prop} {E:Prop}
  (hg:o.guard=none) (d x:Operand) (dT sT:TypeId) (hop:o.op=Op.call { callee:=Callee.builtin Builtin.append,args:=#[d,x],argTypes:=#[dT,sT] })
  (v u:Value) (hd:a.eval d=v) (hx:a.eval x=u) {v':Value} {w':World} (hr:(Builtin.append_ #[dT,sT] o.type #[v,u]).run P w = .ok v' w') (hK:K (a.put o.dst v') w') :
  if Region.wanted o (yielded ops a.tmps)=true then Oper.wp P o a w K Q else E:=by
 have hw:Region.wanted o (yielded ops a.tmps)=true:=by simp [Region.wanted,hg]
 rw [if_pos hw]
 exact Lib.wp_append_run w d x dT sT hop v u hd hx _ _ hr hK
theorem QP5 {P:Program} (w:World) {ops:Array Oper} {rest:List Oper} {o:Oper} {a:Act} {Q:Exit->Act->World->Prop} (hgd:o.guard=none) (x:Operand) (t:TypeId)
  (ho:o.op = .call { callee:=.builtin .clear,args:=#[x],argTypes:=#[t] }) (v:Value) (hx:a.eval x=v) {v':Value} {w':World}
  (hr:(Builtin.clear_ #[t] o.type #[v]).run P w = .ok v' w') (h:wpList P ops Q rest (a.put o.dst v') w'):wpList P ops Q (o :: rest) a w :=
 wpList_plain hgd fun _ hK=>by
  unfold Oper.wp execOp
  simp only [ho,resolve,invoke,builtin,Sem.run_bind,Sem.run_pure,Result.andThen_ok,List.map_toArray,List.map_cons,List.map_nil,hx,hr]
  exact hK _ _ h
end Go.Fw
namespace Go.Proofs.YtldebhdmhpopaaaGreatDoor
set_option linter.unusedSimpArgs false
set_option linter.unusedVariables false
open Go.Fw Go.RowKit Go.Lib
set_option maxHeartbeats 4000000 in
set_option maxRecDepth 100000 in
theorem delete_w (b n c i j:Nat) (w:World) (hij:i<j) (hjn:j<=n) (hnc:n<=c) (cur:Array Value) (fr:Nat × Nat) (hg:w.heap[b]? = some (.cells cur 126 fr)) (hfr:frFree fr (cur.size+1)) (hsz:c*5<=cur.size) (h1:∀ u ∈ cur.toList,u.oneCell'=true)
  (X1 X2:Array Value) (I0:TypeInfo) (z:Value) (hi0:Tryz.prog.info? 126 = some I0) (hz:I0.zero=some z) (his:I0.size=5) (hzs:z.cells.size=5) (hz1:∀ u ∈ z.cells.toList,u.oneCell'=true)
  (hX1:X1=(cur.toList.take (i*5)++(cur.toList.drop (j*5)).take ((n - j)*5)++cur.toList.drop (i*5+((cur.toList.drop (j*5)).take ((n - j)*5)).length)).toArray)
  (hX2:X2=(X1.toList.take ((i+(n - j))*5)++(Builtin.zeroCells z.cells (j - i)).toList++X1.toList.drop ((i+(n - j))*5+(j - i)*z.cells.size)).toArray) :
  Calls Tryz.prog 223 #[.slice (some ⟨b,0,none⟩) n c,.int .i64 i,.int .i64 j] w fun e w' =>
   e = .returned (.slice (some ⟨b,0,none⟩) (i+(n - j)) c)∧w'=(w.drew.setRow b X1).setRow b X2:=by
 have hS:((cur.toList.drop (j*5)).take ((n - j)*5)).length=(n - j)*5:=by
  simp only [List.length_take,List.length_drop,Array.length_toList]
  omega
 have hX1s:X1.size=cur.size:=by
  rw [hX1]
  simp only [List.size_toArray,List.length_append,List.length_take,List.length_drop,Array.length_toList]
  omega
 have hgd:w.drew.heap[b]? = some (.cells cur 126 fr):=hg
 have hz1':¬ ((i:Int)=(j:Int)):=by omega
 have hn2:n - (i+(n - j))=j - i:=by omega
 have hg1:(w.drew.setRow b X1).heap[b]? = some (.cells X1 126 fr):=setRow_heap w.drew b cur X1 _ fr hgd
 have hclr:∀ ty cc,(Builtin.clear_ #[24] ty #[.slice (some ⟨b,(i+(n - j))*5,none⟩) (n - (i+(n - j))) cc]).run Tryz.prog (w.drew.setRow b X1) = .ok (.tuple #[]) ((w.drew.setRow b X1).setRow b X2):=fun ty cc=>by
  have h:=run_clear_k (P:=Tryz.prog) (w.drew.setRow b X1) 24 ty 126 b ((i+(n - j))*5) (n - (i+(n - j))) cc X1 _ fr I0 z (by kernel_rfl) hi0 hz hz1 (by omega) hg1 (by rw [hX1s];exact hfr.le (by omega)) (by rw [hX1s,hzs,hn2];omega)
  rw [hn2] at h ⊢
  rw [h,← hX2]
 have hrow:RowAt w.drew b cur 126 5:=⟨fr,hfr,hgd⟩
 rcases Nat.lt_or_ge j n with hlt|hge
 ·have hcj:¬ (c=j):=by omega
  have hrun:∀ ty,(Builtin.append_ #[24,24] ty #[.slice (some ⟨b,0,none⟩) i c,.slice (some ⟨b,j*5,none⟩) (n - j) (c - j)]).run Tryz.prog w.drew = .ok (.slice (some ⟨b,0,none⟩) (i+(n - j)) c) (w.drew.setRow b X1):=fun ty=>by
   have h:=QG9 (P:=Tryz.prog) w.drew 24 ty 126 I0 (by kernel_rfl) hi0 (k:=5) b i c cur hrow ⟨b,j*5,none⟩ (n - j) (c - j) ((cur.toList.drop (j*5)).take ((n - j)*5)) (by rw [hS,his]) (fun q u hu=>by
    rw [Fw.add_lit]
    simp only [World.cell?,hgd]
    rw [List.getElem?_take] at hu
    split at hu
    ·rw [List.getElem?_drop] at hu
     simpa using hu
    ·cases hu) (fun u hu=>h1 u (QE3 hu)) (by omega) (by rw [hS,his];omega)
   rw [his] at h
   rw [h,← hX1]
  have hic:i<=c:=by omega
  have hin:i+(n - j)<=n:=by omega
  have hci:¬ (c=i+(n - j)):=by omega
  have hci2:(i:Int)+((n - j:Nat):Int)<=(n:Int):=by omega
  clear hX1 hX2 hS
  go_enter Tryz.func223,Tryz.ntmps223
  go_wp2
  go_region_law (refine Ql6 rfl _ _ 24 24 rfl _ _ (by simp [Act.eval,Act.put]) (by simp [Act.eval,Act.put]) (hrun _) ?_)
  go_wp2_with (refine QP5 _ rfl _ _ rfl _ rfl (hclr _ _) ?_)
  go_ret
  exact ⟨rfl,rfl⟩
 ·obtain rfl:n=j:=by omega
  have hX1c:X1=cur:=by rw [hX1];simp
  have hW:w.drew.setRow b X1=w.drew:=by rw [hX1c];exact setRow_self w.drew b cur _ fr hgd
  rw [hW] at hclr ⊢
  simp only [Nat.sub_self,Nat.add_zero] at hclr ⊢
  have hrun:∀ ty A cc,(Builtin.append_ #[24,24] ty #[.slice (some ⟨b,0,none⟩) i c,.slice A 0 cc]).run Tryz.prog w.drew = .ok (.slice (some ⟨b,0,none⟩) i c) w.drew:=fun ty A cc=>QU6 (by kernel_rfl) hi0 _ _ _ _ _ (by omega)
  have hic:i<=c:=by omega
  have hin:i<=n:=by omega
  have hci:¬ (c=i):=by omega
  have hci2:(i:Int)<=(n:Int):=by omega
  clear hX1 hX2 hS hX1c hW
  by_cases hcn:c=n
  ·subst hcn
   go_enter Tryz.func223,Tryz.ntmps223
   go_wp2
   go_region_law (refine Ql6 rfl _ _ 24 24 rfl _ _ (by simp [Act.eval,Act.put]) (by simp [Act.eval,Act.put]) (hrun _ _ _) ?_)
   go_wp2_with (refine QP5 _ rfl _ _ rfl _ rfl (hclr _ _) ?_)
   go_ret
   exact ⟨rfl,rfl⟩
  ·go_enter Tryz.func223,Tryz.ntmps223
   go_wp2
   go_region_law (refine Ql6 rfl _ _ 24 24 rfl _ _ (by simp [Act.eval,Act.put]) (by simp [Act.eval,Act.put]) (hrun _ _ _) ?_)
   go_wp2_with (refine QP5 _ rfl _ _ rfl _ rfl (hclr _ _) ?_)
   go_ret
   exact ⟨rfl,rfl⟩
theorem resize_info:∃ (I0:TypeInfo) (z:Value),Tryz.prog.info? 126 = some I0∧I0.zero=some z∧I0.size=5∧I0.bytes=40∧z.cells.size=5 ∧ ∀ u ∈ z.cells.toList,u.oneCell'=true:=by
 obtain ⟨i,v,h1,h2,h3,h4,h5⟩:=Qa4 (P:=Tryz.prog) (t:=126) (z:=Resize.zero.cells) (by kernel_rfl)
 have hb:(Tryz.prog.info? 126).map (·.bytes)=some 40:=by kernel_rfl
 have hs:v.cells.size=5:=by
  have:=congrArg List.length h3
  simp [Resize.cells] at this
  omega
 rw [h1] at hb
 exact ⟨i,v,h1,h2,by omega,by simpa using hb,hs,h4⟩
theorem zeroCells_one {z:Value} (h:∀ u ∈ z.cells.toList,u.oneCell'=true) (n:Nat):∀ u ∈ (Builtin.zeroCells z.cells n).toList,u.oneCell'=true:=by
 intro u hu
 simp only [Builtin.zeroCells,Array.toList_map,List.mem_map,Array.toList_range,List.mem_range] at hu
 obtain ⟨q,hq,rfl⟩:=hu
 rcases Nat.eq_zero_or_pos z.cells.size with h0|h0
 ·rw [h0] at hq;simp at hq
 ·rw [getElem!_pos z.cells _ (Nat.mod_lt _ h0)]
  exact h _ (by simp)
def Qh5 (l:List Resize) (i j:Int):List Resize:=l.take (Int.toNat i)++l.drop (Int.toNat j)
theorem delResize_o (l:List Resize) (i j:Int) (hs0:l.length<=4294967296) (hp0:0<=i∧i<j∧j<=(l.length:Int)):AMoves Tryz.prog 223 [.own 0 0 5 0 l.length,I i,I j] [(0,.row 126 5 (l.map Resize.cells))] 0 (.own 0 0 5 0 (Qh5 l i j).length) [(0,.row 126 5 ((Qh5 l i j).map Resize.cells))]:=by
 intro K w vs hm hr
 obtain ⟨sv,iv,jv,rfl⟩:∃ a b c,vs=[a,b,c]:=by
  have hl:=hr.1
  match vs,hl with
  | [a,b,c],_=>exact ⟨a,b,c,rfl⟩
 obtain ⟨i,rfl⟩:∃ q:Nat,i=(q:Int):=⟨i.toNat,by omega⟩
 obtain ⟨j,rfl⟩:∃ q:Nat,j=(q:Int):=⟨j.toNat,by omega⟩
 obtain rfl:=QX0 (hr.2 1 _ _ rfl rfl)
 obtain rfl:=QX0 (hr.2 2 _ _ rfl rfl)
 have hij:i<j:=by omega
 have hjn:j<=l.length:=by omega
 obtain ⟨ho,hv,hcase⟩:=Q15 (hr.2 0 _ _ rfl rfl)
 rcases hcase with ⟨_,h0,_⟩|⟨a,c,rfl,hlc,hC,ha⟩
 ·omega
 have hc0:c ≠ 0:=by omega
 obtain rfl:=ha hc0
 have hp:([(0,.row 126 5 (l.map Resize.cells))]:Objs)[0]? = some (0,.row 126 5 (l.map Resize.cells)):=rfl
 obtain ⟨hel,hesC,_⟩:=hm.obj 0 _ hp
 have hesC:(l.map Resize.cells).length<=K.C 0 0:=hesC
 have hC0:K.C 0 0 ≠ 0:=by omega
 obtain ⟨cur,hrow,hs,hone,hcell⟩:=hm.rowBlock hp hC0
 obtain ⟨fr,hfr,hg⟩:=hrow
 obtain ⟨I0,z,hi0,hz,his,hib,hzs,hz1⟩:=resize_info
 have hsz:c*5<=cur.size:=by omega
 have hl5:l.length*5<=cur.toList.length:=by simp;omega
 have seg:=rowSeg (c:=cur.toList) hel hone (fun i j e x he hx=>by obtain ⟨u,hu,hr⟩:=hcell i j e x he hx;exact ⟨u,by simpa using hu,hr⟩) (by simpa using hl5)
 have A:=seg 0 i (by simp;omega)
 have B:=seg j (l.length - j) (by simp;omega)
 have AB:=A.append B
 refine (delete_w (K.ρ 0 0) l.length c i j w hij hjn hlc cur fr hg hfr hsz hone _ _ I0 z hi0 hz his hzs hz1 rfl rfl).mono ?_
 rintro e w' ⟨rfl,rfl⟩
 refine ⟨_,K,rfl,Qv9 (Nat.zero_le _),?_,?_⟩
 ·rw [setRow_setRow]
  have eL:(Qh5 l (i:Int) (j:Int)).map Resize.cells=((l.map Resize.cells).drop 0).take i++((l.map Resize.cells).drop j).take (l.length - j):=by
   unfold Qh5
   simp only [Int.toNat_natCast,List.map_append,List.map_take,List.map_drop,List.drop_zero]
   rw [List.take_of_length_le (i:=l.length - j) (by simp)]
  rw [← eL] at AB
  have hlen:(List.take (i*5) cur.toList++List.take ((l.length - j)*5) (List.drop (j*5) cur.toList)).length=(i+(l.length - j))*5:=by
   simp only [List.length_append,List.length_take,List.length_drop,Array.length_toList]
   omega
  rw [Nat.zero_mul,List.drop_zero] at AB
  have hl':((Qh5 l (i:Int) (j:Int)).map Resize.cells).length<=K.C 0 0:=by
   rw [eL]
   simp
   omega
  refine hm.drew.put hp hC0 ⟨fr,hfr,hg⟩ hs AB hl' (Eq.trans (b:=_++(Builtin.zeroCells z.cells (j - i)).toList++_) rfl (by rw [List.take_left' hlen,List.append_assoc])) ?_ ?_
  ·simp only [List.size_toArray,List.length_append,List.length_take,List.length_drop,Array.length_toList,size_zeroCells,hzs,List.length_take]
   omega
  ·intro u hu
   rcases List.mem_append.1 hu with hu|hu
   ·exact zeroCells_one hz1 _ u hu
   ·have hu:=List.mem_of_mem_drop hu
    simp only [List.mem_append] at hu
    rcases hu with (hu|hu)|hu
    ·exact hone u (List.mem_of_mem_take hu)
    ·exact hone u (QE3 hu)
    ·exact hone u (List.mem_of_mem_drop hu)
 ·have e1:(Qh5 l (i:Int) (j:Int)).length=i+(l.length - j):=by
   unfold Qh5
   simp
   omega
  rw [e1]
  exact .own 0 0 5 0 _ ho hv _ c (by omega) hC ha
end Go.Proofs.YtldebhdmhpopaaaGreatDoor
namespace Go.Proofs.YtldebhdmhpopaaaGreatDoor
set_option linter.unusedSimpArgs false
set_option linter.unusedVariables false
open Go.Fw
def ear (long n:Int):List Step->Int->Int × Bool
 | [],a=>(a,true)
 | x :: r,a =>
  bif decide (x.at_<w64 (a+long)) then
   bif decide (x.free >= n) then ear long n r a
   else match r with
    | []=>(0,false)
    | y :: _=>bif decide (y.at_<=a) then ear long n r a else bif decide (y.at_ > w64 (1000000 - long)) then (0,false) else ear long n r y.at_
  else (a,true)
theorem ear_cons (long n:Int) (x:Step) (r:List Step) (a:Int):ear long n (x :: r) a =
  (bif decide (x.at_<w64 (a+long)) then
   bif decide (x.free >= n) then ear long n r a
   else match r with
    | []=>(0,false)
    | y :: _=>bif decide (y.at_<=a) then ear long n r a else bif decide (y.at_ > w64 (1000000 - long)) then (0,false) else ear long n r y.at_
  else (a,true)):=by rw [ear.eq_def]
end Go.Proofs.YtldebhdmhpopaaaGreatDoor
namespace Go.Proofs.YtldebhdmhpopaaaGreatDoor
set_option linter.unusedSimpArgs false
set_option linter.unusedVariables false
open Go.Shelf Go.Sort Go.RowKit
def srtRen:Ren :=
 {f:=fun x=>match x with
   | 189=>164
   | 125=>216
   | 257=>215
   | 128=>245
   | 129=>246
   | 294=>236
   | 295=>237
   | 296=>238
   | 297=>239
   | 298=>240
   | 299=>241
   | 216=>242
   | 300=>243
   | 301=>244
   | 328=>254
   | 329=>255
   | 330=>256
   | 331=>257
   | 332=>258
   | 215=>259
   | 343=>271
   | n=>n
  t:=fun x=>match x with
   | 28=>35
   | 3=>3
   | 46=>180
   | 0=>0
   | 51=>284
   | 53=>50
   | 4=>4
   | 183=>278
   | 182=>277
   | 131=>115
   | 5=>5
   | 9=>9
   | 218=>293
   | 222=>297
   | 228=>309
   | 229=>310
   | n=>n
  g:=fun x=>x }
theorem srtLays:Lays.n189 Tryz.prog srtRen where
 mixed:=by kernel_rfl
 f125:=Tryz.func216.trans (by kernel_rfl)
 f128:=Tryz.func245.trans (by kernel_rfl)
 f129:=Tryz.func246.trans (by kernel_rfl)
 f189:=Tryz.func164.trans (by kernel_rfl)
 f215:=Tryz.func259.trans (by kernel_rfl)
 f216:=Tryz.func242.trans (by kernel_rfl)
 f257:=Tryz.func215.trans (by kernel_rfl)
 f294:=Tryz.func236.trans (by kernel_rfl)
 f295:=Tryz.func237.trans (by kernel_rfl)
 f296:=Tryz.func238.trans (by kernel_rfl)
 f297:=Tryz.func239.trans (by kernel_rfl)
 f298:=Tryz.func240.trans (by kernel_rfl)
 f299:=Tryz.func241.trans (by kernel_rfl)
 f300:=Tryz.func243.trans (by kernel_rfl)
 f301:=Tryz.func244.trans (by kernel_rfl)
 f328:=Tryz.func254.trans (by kernel_rfl)
 f329:=Tryz.func255.trans (by kernel_rfl)
 f330:=Tryz.func256.trans (by kernel_rfl)
 f331:=Tryz.func257.trans (by kernel_rfl)
 f332:=Tryz.func258.trans (by kernel_rfl)
 f343:=Tryz.func271.trans (by kernel_rfl)
 t0:=Tryz.underlying0
 a0:=Tryz.isAgg0
 z0:=Tryz.sizeOf0
 v0:=Tryz.zeroValue0
 t3:=Tryz.underlying3
 a3:=Tryz.isAgg3
 z3:=Tryz.sizeOf3
 v3:=Tryz.zeroValue3
 t4:=Tryz.underlying4
 a4:=Tryz.isAgg4
 z4:=Tryz.sizeOf4
 v4:=Tryz.zeroValue4
 t5:=Tryz.underlying5
 a5:=Tryz.isAgg5
 z5:=Tryz.sizeOf5
 v5:=Tryz.zeroValue5
 t9:=Tryz.underlying9
 a9:=Tryz.isAgg9
 z9:=Tryz.sizeOf9
 v9:=Tryz.zeroValue9
 t28:=Tryz.underlying35
 a28:=Tryz.isAgg35
 z28:=Tryz.sizeOf35
 v28:=Tryz.zeroValue35
 t46:=Tryz.underlying180
 a46:=Tryz.isAgg180
 z46:=Tryz.sizeOf180
 v46:=Tryz.zeroValue180
 t51:=Tryz.underlying284
 a51:=Tryz.isAgg284
 z51:=Tryz.sizeOf284
 v51:=Tryz.zeroValue284
 t53:=Tryz.underlying50
 a53:=Tryz.isAgg50
 z53:=Tryz.sizeOf50
 v53:=Tryz.zeroValue50
 t131:=Tryz.underlying115
 a131:=Tryz.isAgg115
 z131:=Tryz.sizeOf115
 v131:=Tryz.zeroValue115
 t182:=Tryz.underlying277
 a182:=Tryz.isAgg277
 z182:=Tryz.sizeOf277
 v182:=Tryz.zeroValue277
 t183:=Tryz.underlying278
 a183:=Tryz.isAgg278
 z183:=Tryz.sizeOf278
 v183:=Tryz.zeroValue278
 t218:=Tryz.underlying293
 a218:=Tryz.isAgg293
 z218:=Tryz.sizeOf293
 v218:=Tryz.zeroValue293
 t222:=Tryz.underlying297
 a222:=Tryz.isAgg297
 z222:=Tryz.sizeOf297
 v222:=Tryz.zeroValue297
 t228:=Tryz.underlying309
 a228:=Tryz.isAgg309
 z228:=Tryz.sizeOf309
 v228:=Tryz.zeroValue309
 t229:=Tryz.underlying310
 a229:=Tryz.isAgg310
 z229:=Tryz.sizeOf310
 v229:=Tryz.zeroValue310
end Go.Proofs.YtldebhdmhpopaaaGreatDoor
namespace Go.Proofs.YtldebhdmhpopaaaGreatDoor
set_option linter.unusedSimpArgs false
set_option linter.unusedVariables false
open Go.Fw Go.RowKit
section
variable {K:Ctx} {objs:Objs}
theorem MemSat.grown (os:List Obj):∀ {w:World},MemSat K objs w->MemSat K objs (Go.Sort.grow w os.toArray):=by
 induction os with
 | nil=>intro w h;simpa [Go.Sort.grow] using h
 | cons x r ih =>
  intro w h
  have:=ih (h.junk x)
  rw [Go.Sort.alloc_eq_grow,Go.Sort.grow_grow] at this
  simpa using this
end
def insI (x:Int):List Int->List Int
 | []=>[x]
 | y :: r=>bif decide (y<x) then y :: insI x r else x :: y :: r
def sorted (l:List Int):List Int:=l.foldr insI []
theorem Q8d (x:Int):∀ o,(insI x o).Perm (x :: o)
 | []=>.refl _
 | y :: r=>by
  unfold insI
  cases decide (y<x) with
  | true=>exact ((Q8d x r).cons y).trans (.swap x y r)
  | false=>exact .refl _
theorem Q9d (x:Int):∀ o,o.Pairwise (fun a b=>a<=b)->(insI x o).Pairwise fun a b=>a<=b
 | [],_=>List.pairwise_singleton _ _
 | y :: r,h=>by
  obtain ⟨h1,h2⟩:=List.pairwise_cons.1 h
  unfold insI
  cases ha:decide (y<x) with
  | true =>
   have ha:=of_decide_eq_true ha
   refine List.pairwise_cons.2 ⟨fun z hz=>?_,Q9d x r h2⟩
   rcases List.mem_cons.1 ((Q8d x r).mem_iff.1 hz) with rfl|hz
   ·omega
   ·exact h1 z hz
  | false =>
   have ha:=of_decide_eq_false ha
   refine List.pairwise_cons.2 ⟨fun z hz=>?_,h⟩
   rcases List.mem_cons.1 hz with rfl|hz
   ·omega
   ·have:=h1 z hz;omega
theorem Q6a:∀ l:List Int,(sorted l).Perm l
 | []=>.refl _
 | x :: r=>(Q8d x _).trans ((Q6a r).cons x)
theorem sorted_pw:∀ l:List Int,(sorted l).Pairwise fun a b=>a<=b
 | []=>.nil
 | x :: r=>Q9d x _ (sorted_pw r)
theorem sorted_merge (l:List Int):l.mergeSort (fun x y=>decide (x<=y))=sorted l :=
 List.Perm.eq_of_pairwise (le:=fun x y=>x<=y) (fun a b _ _ h1 h2=>Int.le_antisymm h1 h2)
  ((List.pairwise_mergeSort (fun a b c h1 h2=>by simp at *;omega) (fun a b=>by simp;omega) l).imp fun h=>by simpa using h) (sorted_pw l) ((List.mergeSort_perm l _).trans (Q6a l).symm)
@[simp] theorem sorted_len (l:List Int):(sorted l).length=l.length:=(Q6a l).length_eq
theorem putRow_setRow {w:World} {g:Nat} {c:Array Value} {t:TypeId} {fr:Nat × Nat} (hb:w.heap[g]? = some (.cells c t fr)) (d:Array Int):Go.Sort.putRow (Value.int .i64) w g 0 d=w.setRow g (Go.Sort.putCells (Value.int .i64) 0 d c):=by
 unfold Go.Sort.putRow Go.Sort.mapBlock World.setRow
 congr 1
 apply Array.ext_getElem?
 intro i
 simp only [Array.getElem?_modify]
 by_cases hi:g=i
 ·subst hi
  simp [hb,Go.Sort.onCells]
 ·simp [hi]
theorem slices_Sort_c (l:List Int) (hl:l.length<=4294967296) (h0:l ≠ []):AMoves Tryz.prog 164 [.own 0 0 1 0 l.length] [(0,.row 3 1 (l.map fun q_=>[I q_]))] 1 (.tup []) [(0,.row 3 1 ((sorted l).map fun q_=>[I q_]))]:=by
 intro K w vs hm hr
 have hp0:([(0,.row 3 1 (l.map fun q_=>[I q_]))]:Objs)[0]? = some (0,.row 3 1 (l.map fun q_=>[I q_])):=rfl
 have hlen:l.length ≠ 0:=by simpa using h0
 obtain ⟨v,rfl⟩:∃ v,vs=[v]:=List.length_eq_one_iff.1 hr.1
 obtain ⟨_,_,hcase⟩:=Q15 (hr.2 0 _ _ rfl rfl)
 rcases hcase with ⟨_,q,_⟩|⟨a,cap,rfl,q1,q2,q3⟩
 ·exact absurd q hlen
 have ha:=q3 (by omega)
 simp only [Nat.zero_mul] at ha
 subst ha
 obtain ⟨g1,g2,g3⟩:=hm.obj 0 _ hp0
 have hC:K.C 0 0 ≠ 0:=by simp at g2;omega
 obtain ⟨cur,⟨fr,hfr,hbk⟩,hs,h1,hcr⟩:=g3 hC
 have hblk:=(hm.lo 0 _ hp0 rfl hC).2.1
 have hsz:l.length<=cur.size:=by
  have e:cur.size=K.C 0 0*1:=hs
  simp at g2
  omega
 have hcell:∀ (j:Nat) (n:Int),l[j]? = some n->cur[j]? = some (Value.int .i64 n):=by
  intro j n hj
  obtain ⟨u,hu,hru⟩:=hcr j 0 [I n] (I n) (by rw [List.getElem?_map,hj];rfl) rfl
  have e:=QX0 hru
  subst e
  rw [show j*1+0=j by omega] at hu
  exact hu
 have hH:Go.Sort.Holds (Value.int .i64) w (K.ρ 0 0) 0 l.toArray:=by
  intro j hj
  have hj':j<l.length:=by simpa using hj
  refine ⟨?_,?_⟩
  ·simp only [World.cell?,hbk,Nat.zero_add]
   have e:l[j]? = some (l[j]'hj'):=List.getElem?_eq_getElem hj'
   have:=hcell j _ e
   rw [this]
   congr 2
   rw [getElem!_pos l.toArray j hj]
   simp
  ·have hj2:=hfr j (by omega)
   obtain ⟨lo,hi'⟩:=fr
   simp only at hj2
   simp only [World.frozen?,hbk,Nat.zero_add,Bool.and_eq_false_imp,decide_eq_true_eq,decide_eq_false_iff_not]
   intro h1 h2
   exact hj2 ⟨h1,h2⟩
 have hc:=Any.slices_Sort_int srtLays (K.ρ 0 0) 0 cap l w hH hblk (by omega)
 rw [sorted_merge] at hc
 refine hc.mono ?_
 rintro e w' ⟨rfl,n,os,rfl⟩
 have hmd:=hm.drawn (w.drawn+n)
 have hbk':(Go.Sort.ahead w n).heap[K.ρ 0 0]? = some (.cells cur 3 fr):=hbk
 have hsl:(sorted l).length=l.length:=sorted_len l
 have hmr:=hmd.setRow hp0 hC cur (Go.Sort.putCells (Value.int .i64) 0 (sorted l).toArray cur) ⟨fr,hfr,hbk⟩ (by simp [Go.Sort.putCells]) (fun u hu=>by
   simp only [Go.Sort.putCells,Array.mem_toList_iff,Array.mem_mapIdx] at hu
   obtain ⟨i,hi,rfl⟩:=hu
   split
   ·rfl
   ·exact h1 _ (Array.mem_toList_iff.2 (Array.getElem_mem hi))) ((sorted l).map fun q_=>[I q_]) (by simp at g2 ⊢;omega) (by simp) (fun i j e x he hx=>by
   rw [List.getElem?_map] at he
   obtain ⟨q,hq,rfl⟩:=Option.map_eq_some_iff.1 he
   have hi:i<(sorted l).length:=(List.getElem?_eq_some_iff.1 hq).1
   cases j with
   | succ j=>simp at hx
   | zero =>
    simp only [List.getElem?_cons_zero,Option.some.injEq] at hx
    subst hx
    refine ⟨Value.int .i64 q,?_,.lit _⟩
    have hic:i<cur.size:=by omega
    have e:(sorted l).toArray[i]! = q:=by
     rw [getElem!_pos _ i (by simpa using hi)]
     simpa using (List.getElem?_eq_some_iff.1 hq).2
    simp only [Nat.mul_one,Nat.add_zero,Go.Sort.putCells,Array.getElem?_mapIdx,Array.getElem?_eq_getElem hic,Option.map_some,Nat.zero_le,Nat.sub_zero,true_and,Nat.zero_add,List.size_toArray]
    rw [if_pos hi,e])
 rw [putRow_setRow hbk']
 have hmg:=MemSat.grown os.toList hmr
 exact ⟨_,K,rfl,Qv9 (by rw [← hm.len];simp),hmg,.tup _ _ rfl (by intro i x v hx;simp at hx)⟩
end Go.Proofs.YtldebhdmhpopaaaGreatDoor
