/-
  slices.SortFunc on a row of ranked things that the call owns. The conditions: not too many; each is what it is ranked by at the end.
  Where the library's sort lies in this program: its functions' and types' numbers. No condition.
  slices.Sort on a slice of numbers that the call owns. The condition: it has elements, and not too many.
  Contracts of functions, printed by a program of this repo (wip/dec). No condition beyond those that stand in each.
-/
import Derived.Test.YtjpgfmbccohngaaGreatDoorH7
import Derived.Test.YtjpgfmbccohngaaGreatDoorProg
import Derived.KernelRfl
import Derived.WalkKit
import Derived.StillTailTactics
import Derived.Shelf.Sort.Plain
namespace Go.Proofs.YtjpgfmbccohngaaGreatDoor
set_option linter.unusedSimpArgs false
set_option linter.unusedVariables false
open Go.Fw Go.RowKit Go.Proofs Go.Sort Go.Shelf Go.Lib
def Ranked.key (x:Ranked):Int × Int × Int:=(x.prio,x.share,x.id)
def unkey (k:Int × Int × Int):Ranked:=⟨k.2.2,k.1,k.2.1,k.2.2⟩
def aheadR (x y:Ranked):Bool:=ah3 x.key y.key
def insR (x:Ranked):List Ranked->List Ranked
 | []=>[x]
 | y :: r=>bif aheadR y x then y :: insR x r else x :: y :: r
def Q24 (l:List Ranked):List Ranked:=l.foldl (fun o x=>insR x o) []
theorem insR_map (x:Int × Int × Int):∀ o,(ins3 x o).map unkey=insR (unkey x) (o.map unkey)
 | []=>rfl
 | y :: r=>by
  simp only [ins3,List.map_cons,insR,show aheadR (unkey y) (unkey x)=ah3 y x from rfl]
  cases ah3 y x with
  | true=>simp only [cond_true,List.map_cons,insR_map x r]
  | false=>rfl
theorem rank_go:∀ (l o:List (Int × Int × Int)),(l.foldl (fun o x=>ins3 x o) o).map unkey=(l.map unkey).foldl (fun o x=>insR x o) (o.map unkey)
 | [],_=>rfl
 | x :: r,o=>by
  simp only [List.foldl_cons,List.map_cons]
  rw [rank_go r,insR_map]
theorem rank_map {l:List Ranked} (h:∀ x ∈ l,x.what=x.id):(l.map Ranked.key).map unkey=l:=by
 rw [List.map_map]
 refine (List.map_congr_left fun x hx=>?_).trans (List.map_id l)
 have:=h x hx
 cases x
 simp only at this
 subst this
 rfl
theorem rank_sort {l:List Ranked} (h:∀ x ∈ l,x.what=x.id):(sort3 (l.map Ranked.key)).map unkey=Q24 l:=by
 have:=rank_go (l.map Ranked.key) []
 rw [rank_map h] at this
 exact this
theorem insR_len (x:Ranked):∀ o,(insR x o).length=o.length+1
 | []=>rfl
 | y :: r=>by
  unfold insR
  cases aheadR y x with
  | true=>simp only [cond_true,List.length_cons,insR_len x r]
  | false=>rfl
theorem QFd (l:List Ranked):(Q24 l).length=l.length:=by
 have go:∀ (l o:List Ranked),(l.foldl (fun o x=>insR x o) o).length=o.length+l.length:=by
  intro l
  induction l with
  | nil=>intro o;rfl
  | cons x r ih=>intro o;rw [List.foldl_cons,ih,insR_len,List.length_cons];omega
 have h:=go l []
 rw [List.length_nil,Nat.zero_add] at h
 exact h
def enc3 (k:Int × Int × Int):List Value:=[.int .i64 k.2.2,.int .i64 k.1,.int .i64 k.2.1,.int .i64 k.2.2]
set_option maxHeartbeats 1000000 in
theorem or_calls (a b c:Int) (blk:Nat) (W:World) (h0:W.cell? ⟨blk,0,none⟩=some (.int .i64 a)) (h1:W.cell? ⟨blk,1,none⟩=some (.int .i64 b)) (h2:W.cell? ⟨blk,2,none⟩=some (.int .i64 c)) :
  Calls Tryz.prog 198 #[.slice (some ⟨blk,0,none⟩) 3 3] W fun e w'=>e = .returned (.int .i64 (or3 a b c))∧w'=W:=by
 go_enter Tryz.func198,Tryz.ntmps198
 go_wp2
 refine wp_loop_rounds 4 ?_
 rw [rounds_succ]
 go_wp2
 ·go_ret
  refine ⟨?_,rfl⟩;unfold or3;cases ha:a != 0 <;> cases hb:b != 0 <;> simp_all
 rw [rounds_succ]
 go_wp2
 ·go_ret
  refine ⟨?_,rfl⟩;unfold or3;cases ha:a != 0 <;> cases hb:b != 0 <;> simp_all
 rw [rounds_succ]
 go_wp2
 ·go_ret
  refine ⟨?_,rfl⟩;unfold or3;cases ha:a != 0 <;> cases hb:b != 0 <;> simp_all
 rw [rounds_succ]
 go_wp2
 go_ret
 refine ⟨?_,rfl⟩;unfold or3;cases ha:a != 0 <;> cases hb:b != 0 <;> simp_all
theorem cell2a (W:World) (A B:Array Value) (t:TypeId) (j:Nat) (v:Value) (h:A[j]? = some v):(((W.alloc (.cells A t)).alloc (.cells B t)).drewN 1).cell? ⟨W.heap.size,j,none⟩=some v:=by
 have e:(((W.alloc (.cells A t)).alloc (.cells B t)).drewN 1).heap=(W.heap.push (.cells A t)).push (.cells B t):=rfl
 simp only [World.cell?,e]
 simp [Array.getElem?_push,h]
theorem cell2b (W:World) (A B:Array Value) (t:TypeId) (j:Nat) (v:Value) (h:B[j]? = some v):(((W.alloc (.cells A t)).alloc (.cells B t)).drewN 1).cell? ⟨W.heap.size+1,j,none⟩=some v:=by
 have e:(((W.alloc (.cells A t)).alloc (.cells B t)).drewN 1).heap[W.heap.size+1]? = some (.cells B t):=by
  have q:=Array.getElem?_push_size (xs:=W.heap.push (.cells A t)) (x:=Obj.cells B t)
  rw [Array.size_push] at q
  exact q
 simp only [World.cell?,e]
 simp [h]
theorem cell1 (W:World) (A:Array Value) (t:TypeId) (j:Nat) (v:Value) (h:A[j]? = some v):(W.alloc (.cells A t)).cell? ⟨W.heap.size,j,none⟩=some v:=by
 have e:(W.alloc (.cells A t)).heap=W.heap.push (.cells A t):=rfl
 simp only [World.cell?,e]
 simp [h]
set_option maxHeartbeats 1000000 in
theorem QWe (x y:Int) (W:World):Calls Tryz.prog 257 #[.int .i64 x,.int .i64 y] W fun e w'=>e = .returned (.int .i64 (Lib.compareInt x y))∧w'=W:=by
 have hn:∀ z W',Calls Tryz.prog 268 #[.int .i64 z] W' fun e w'=>e = .returned (.bool false)∧w'=W':=by
  intro z W'
  go_enter Tryz.func268,Tryz.ntmps268
  go_wp2
  go_ret
  exact ⟨by simp,rfl⟩
 go_enter Tryz.func257,Tryz.ntmps257
 go_wp2_with (go_at_call 268;refine (hn _ _).mono ?_;rintro e w' ⟨rfl,rfl⟩)
 all_goals (go_ret;refine ⟨?_,rfl⟩;unfold Lib.compareInt;(repeat' split) <;> first|rfl|(exfalso;omega))
set_option maxRecDepth 100000 in
set_option maxHeartbeats 2000000 in
theorem against_run (a1 a2 a3 a4 b1 b2 b3 b4:Int) (W:World):Calls Tryz.prog 233 #[.agg #[.int .i64 a1,.int .i64 a2,.int .i64 a3,.int .i64 a4],.agg #[.int .i64 b1,.int .i64 b2,.int .i64 b3,.int .i64 b4]] W fun e w'=>e = .returned (.int .i64 (or3 (Lib.compareInt b2 a2) (Lib.compareInt a3 b3) (Lib.compareInt a4 b4))) ∧ ∃ q os',w'=Go.Sort.grow (W.drewN q) os':=by
 have c1:=QWe b2 a2
 have c2:=QWe a3 b3
 have c3:=QWe a4 b4
 generalize Lib.compareInt b2 a2=r1 at c1 ⊢
 generalize Lib.compareInt a3 b3=r2 at c2 ⊢
 generalize Lib.compareInt a4 b4=r3 at c3 ⊢
 go_enter Tryz.func233,Tryz.ntmps233
 go_wp2
 refine wp_region_still_tail 15 (by kernel_rfl) (by kernel_rfl) ?_
 have hW:∃ q os',((W.alloc (Obj.cells #[Value.int IntKind.i64 a1,Value.int IntKind.i64 a2,Value.int IntKind.i64 a3,Value.int IntKind.i64 a4] 209)).alloc (Obj.cells #[Value.int IntKind.i64 b1,Value.int IntKind.i64 b2,Value.int IntKind.i64 b3,Value.int IntKind.i64 b4] 209)).drewN 1=Go.Sort.grow (W.drewN q) os':=⟨1,_,by rw [Go.Sort.alloc_eq_grow,Go.Sort.alloc_eq_grow,Go.Sort.grow_grow];rfl⟩
 have e11:=cell2a W #[Value.int IntKind.i64 a1,Value.int IntKind.i64 a2,Value.int IntKind.i64 a3,Value.int IntKind.i64 a4] #[Value.int IntKind.i64 b1,Value.int IntKind.i64 b2,Value.int IntKind.i64 b3,Value.int IntKind.i64 b4] 209 1 (.int .i64 a2) rfl
 have e12:=cell2a W #[Value.int IntKind.i64 a1,Value.int IntKind.i64 a2,Value.int IntKind.i64 a3,Value.int IntKind.i64 a4] #[Value.int IntKind.i64 b1,Value.int IntKind.i64 b2,Value.int IntKind.i64 b3,Value.int IntKind.i64 b4] 209 2 (.int .i64 a3) rfl
 have e13:=cell2a W #[Value.int IntKind.i64 a1,Value.int IntKind.i64 a2,Value.int IntKind.i64 a3,Value.int IntKind.i64 a4] #[Value.int IntKind.i64 b1,Value.int IntKind.i64 b2,Value.int IntKind.i64 b3,Value.int IntKind.i64 b4] 209 3 (.int .i64 a4) rfl
 have e21:=cell2b W #[Value.int IntKind.i64 a1,Value.int IntKind.i64 a2,Value.int IntKind.i64 a3,Value.int IntKind.i64 a4] #[Value.int IntKind.i64 b1,Value.int IntKind.i64 b2,Value.int IntKind.i64 b3,Value.int IntKind.i64 b4] 209 1 (.int .i64 b2) rfl
 have e22:=cell2b W #[Value.int IntKind.i64 a1,Value.int IntKind.i64 a2,Value.int IntKind.i64 a3,Value.int IntKind.i64 a4] #[Value.int IntKind.i64 b1,Value.int IntKind.i64 b2,Value.int IntKind.i64 b3,Value.int IntKind.i64 b4] 209 2 (.int .i64 b3) rfl
 have e23:=cell2b W #[Value.int IntKind.i64 a1,Value.int IntKind.i64 a2,Value.int IntKind.i64 a3,Value.int IntKind.i64 a4] #[Value.int IntKind.i64 b1,Value.int IntKind.i64 b2,Value.int IntKind.i64 b3,Value.int IntKind.i64 b4] 209 3 (.int .i64 b4) rfl
 change wpStill _ _ (((W.alloc (Obj.cells #[Value.int IntKind.i64 a1,Value.int IntKind.i64 a2,Value.int IntKind.i64 a3,Value.int IntKind.i64 a4] 209)).alloc (Obj.cells #[Value.int IntKind.i64 b1,Value.int IntKind.i64 b2,Value.int IntKind.i64 b3,Value.int IntKind.i64 b4] 209)).drewN 1) (fun a'=>wpList _ _ _ _ a' (((W.alloc (Obj.cells #[Value.int IntKind.i64 a1,Value.int IntKind.i64 a2,Value.int IntKind.i64 a3,Value.int IntKind.i64 a4] 209)).alloc (Obj.cells #[Value.int IntKind.i64 b1,Value.int IntKind.i64 b2,Value.int IntKind.i64 b3,Value.int IntKind.i64 b4] 209)).drewN 1)) _ _
 generalize ((W.alloc (Obj.cells #[Value.int IntKind.i64 a1,Value.int IntKind.i64 a2,Value.int IntKind.i64 a3,Value.int IntKind.i64 a4] 209)).alloc (Obj.cells #[Value.int IntKind.i64 b1,Value.int IntKind.i64 b2,Value.int IntKind.i64 b3,Value.int IntKind.i64 b4] 209)).drewN 1=W2 at *
 generalize W.heap.size=p1 at *
 simp only [List.take_succ_cons,List.take_zero,List.drop_succ_cons,List.drop_zero]
 still_step;still_step;still_step;still_step
 still_call (c1 _)
 still_step;still_step;still_step;still_step
 still_call (c2 _)
 still_step;still_step;still_step;still_step
 still_call (c3 _)
 refine wpStill_nil ?_
 clear e11 e12 e13 e21 e22 e23
 go_wp2_with (go_at_call 198;refine (or_calls r1 r2 r3 W2.heap.size _ (cell1 _ _ _ _ _ rfl) (cell1 _ _ _ _ _ rfl) (cell1 _ _ _ _ _ rfl)).mono ?_;rintro e w' ⟨rfl,rfl⟩)
 obtain ⟨q,os,rfl⟩:=hW
 go_ret
 exact ⟨rfl,q,_,by rw [Go.Sort.alloc_eq_grow,Go.Sort.grow_grow]⟩
theorem against_calls (x y:Int × Int × Int) (W:World):Calls Tryz.prog 233 #[.agg (enc3 x).toArray,.agg (enc3 y).toArray] W fun e w'=>e = .returned (.int .i64 (cf3 x y)) ∧ ∃ q os',w'=Go.Sort.grow (W.drewN q) os' :=
 against_run _ _ _ _ _ _ _ _ W
set_option maxRecDepth 100000 in
set_option maxHeartbeats 2000000 in
theorem sortFunc_run (l:List (Int × Int × Int)) (hl:l.length<4611686018427387904) (blk cap:Nat) (w:World) (hH:HoldsK enc3 4 w blk 0 l.toArray) (hblk:blk<w.heap.size) :
  Calls Tryz.prog 232 #[.slice (some ⟨blk,0,none⟩) l.length cap,.func (.func 233) #[] #[]] w fun e w'=>e = .returned (.tuple #[]) ∧ ∃ n os,w'=sortWorldK enc3 4 w blk 0 n (sort3 l).toArray os:=by
 have eg:∀ args w,(callFunc 233 args).run Tryz.prog w = .ok (.enter 233 args) w:=enters_of Tryz.func233 (by kernel_rfl) rfl
 have h1:∀ x,∀ v ∈ enc3 x,v.oneCell'=true:=fun x v hv=>by simp [enc3] at hv;rcases hv with rfl|rfl|rfl|rfl <;> rfl
 have hsz:l.toArray.size=l.length:=by simp
 have hlim:Lib.bitLen l.toArray.size<4611686018427387904:=Nat.lt_of_le_of_lt (Lib.bitLen_le l.toArray.size 62 (by omega) (by omega)) (by omega)
 have hp:=AnyQ.pdqsortCmpFunc_all sflLays 4 Tryz.isAgg209 Tryz.sizeOf209 enc3 cf3 233 #[] swo3 blk 0 cap l.toArray w eg (fun _ _ _ _ x y=>against_calls x y _) ⟨fun _=>rfl,h1,hH,hblk⟩ (l.toArray.size+1) 0 l.toArray.size (Lib.bitLen l.toArray.size) l.toArray w (by omega) rfl (SWK.start hH) (Nat.zero_le _) (Nat.le_refl _) (by omega) hlim (Or.inl rfl)
 have hq:=pdq_sorts (ltOf cf3) swo3 l.toArray 0 l.toArray.size (Lib.bitLen l.toArray.size) true true (Nat.zero_le _) (Nat.le_refl _) (Or.inl rfl)
 have he:pdq (ltOf cf3) l.toArray 0 l.toArray.size (Lib.bitLen l.toArray.size) true true=(sort3 l).toArray:=by
  have q:=sorted_unique_holds swo3 tot3 _ _ hq.1 hq.2
  rw [show l.toArray.toList=l from rfl,merge3] at q
  rw [← q]
 rw [he] at hp
 have hb:Calls Tryz.prog 217 #[.int .u64 (l.toArray.size:Int)] w fun e w'=>e = .returned (.int .i64 (Lib.bitLen l.toArray.size:Nat))∧w'=w:=by
  have h:=Any.bits_Len (SlLaysF0.n15.bits (P:=Tryz.prog) (ρ:=sflRen) { sflLays with }) (l.toArray.size:Int) w (by omega) (by omega)
  rwa [Int.toNat_natCast] at h
 rw [hsz] at hp hb
 have wr:IntKind.u64.wrap (l.length:Int)=l.length:=by simp [IntKind.wrap,IntKind.bits,IntKind.signed];omega
 change Calls Tryz.prog 256 _ _ _ at hp
 clear hH h1 hq hlim hsz he
 generalize (sort3 l).toArray=l' at hp ⊢
 go_enter Tryz.func232,Tryz.ntmps232
 go_wp2_with (first|(go_at_call 217;refine hb.mono ?_;rintro e w' ⟨rfl,rfl⟩)|(go_at_call 256;refine hp.mono ?_;rintro e w' ⟨rfl,n,os,rfl⟩))
 go_end0
 exact ⟨rfl,n,os,rfl⟩
set_option maxRecDepth 100000 in
set_option maxHeartbeats 2000000 in
theorem sortFunc_none (p:Option Addr) (cap:Nat) (w:World):Calls Tryz.prog 232 #[.slice p 0 cap,.func (.func 233) #[] #[]] w fun e w'=>e = .returned (.tuple #[])∧w'=w:=by
 have hp:=fun lim W=>AnyF.pdqsortCmpFunc_none (P:=Tryz.prog) (ρ:=sflRen) sflLays p cap lim (.func (.func 233) #[] #[]) W
 have hb:∀ W,Calls Tryz.prog 217 #[.int .u64 0] W fun e w'=>e = .returned (.int .i64 (Lib.bitLen 0:Nat))∧w'=W:=fun W=>Any.bits_Len (SlLaysF0.n15.bits (P:=Tryz.prog) (ρ:=sflRen) { sflLays with }) 0 W (by omega) (by omega)
 change ∀ lim W,Calls Tryz.prog 256 _ _ _ at hp
 go_enter Tryz.func232,Tryz.ntmps232
 go_wp2_with (first|(go_at_call 217;refine (hb _).mono ?_;rintro e w' ⟨rfl,rfl⟩)|(go_at_call 256;refine (hp _ _).mono ?_;rintro e w' ⟨rfl,rfl⟩))
 go_end0
 exact ⟨rfl,rfl⟩
theorem Q9d (l:List Ranked) (hl:l.length<=4294967296) (hp:∀ x ∈ l,x.what=x.id) :
  AMoves Tryz.prog 232 [.own 0 0 4 0 l.length,.fn (.func 233) [] []] [(0,.row 209 4 (l.map Ranked.cells))] 1 (.tup []) [(0,.row 209 4 ((Q24 l).map Ranked.cells))]:=by
 have hll:(l.map Ranked.key).length=l.length:=List.length_map _
 have h:=sortFunc_moves (P:=Tryz.prog) (f:=232) (g:=233) (t:=209) (k:=4) (enc:=enc3) (by decide) (fun _=>rfl) (fun x v hv=>by simp [enc3] at hv;rcases hv with rfl|rfl|rfl|rfl <;> rfl) (l:=l.map Ranked.key) (l':=sort3 (l.map Ranked.key)) (sort3_len _)
  sortFunc_none (fun blk cap w hH hblk=>sortFunc_run (l.map Ranked.key) (by omega) blk cap w hH hblk)
 have e1:((l.map Ranked.key).map fun x=>litsA (enc3 x))=l.map Ranked.cells:=by
  show (l.map Ranked.key).map (Ranked.cells ∘ unkey)=_
  rw [← List.map_map,rank_map hp]
 have e2:((sort3 (l.map Ranked.key)).map fun x=>litsA (enc3 x))=(Q24 l).map Ranked.cells:=by
  show (sort3 (l.map Ranked.key)).map (Ranked.cells ∘ unkey)=_
  rw [← List.map_map,rank_sort hp]
 rw [e1,e2,hll] at h
 exact h
end Go.Proofs.YtjpgfmbccohngaaGreatDoor
namespace Go.Proofs.YtjpgfmbccohngaaGreatDoor
set_option linter.unusedSimpArgs false
set_option linter.unusedVariables false
open Go.Shelf Go.Sort Go.RowKit
def srtRen:Ren :=
 {f:=fun x=>match x with
   | 189=>167
   | 125=>217
   | 257=>216
   | 128=>249
   | 129=>250
   | 294=>240
   | 295=>241
   | 296=>242
   | 297=>243
   | 298=>244
   | 299=>245
   | 216=>246
   | 300=>247
   | 301=>248
   | 328=>263
   | 329=>264
   | 330=>265
   | 331=>266
   | 332=>267
   | 215=>268
   | 343=>287
   | n=>n
  t:=fun x=>match x with
   | 28=>44
   | 3=>3
   | 46=>179
   | 0=>0
   | 51=>241
   | 53=>33
   | 4=>4
   | 183=>235
   | 182=>234
   | 131=>118
   | 5=>5
   | 9=>9
   | 218=>252
   | 222=>256
   | 228=>280
   | 229=>217
   | n=>n
  g:=fun x=>x }
theorem srtLays:Lays.n189 Tryz.prog srtRen where
 mixed:=by kernel_rfl
 f125:=Tryz.func217.trans (by kernel_rfl)
 f128:=Tryz.func249.trans (by kernel_rfl)
 f129:=Tryz.func250.trans (by kernel_rfl)
 f189:=Tryz.func167.trans (by kernel_rfl)
 f215:=Tryz.func268.trans (by kernel_rfl)
 f216:=Tryz.func246.trans (by kernel_rfl)
 f257:=Tryz.func216.trans (by kernel_rfl)
 f294:=Tryz.func240.trans (by kernel_rfl)
 f295:=Tryz.func241.trans (by kernel_rfl)
 f296:=Tryz.func242.trans (by kernel_rfl)
 f297:=Tryz.func243.trans (by kernel_rfl)
 f298:=Tryz.func244.trans (by kernel_rfl)
 f299:=Tryz.func245.trans (by kernel_rfl)
 f300:=Tryz.func247.trans (by kernel_rfl)
 f301:=Tryz.func248.trans (by kernel_rfl)
 f328:=Tryz.func263.trans (by kernel_rfl)
 f329:=Tryz.func264.trans (by kernel_rfl)
 f330:=Tryz.func265.trans (by kernel_rfl)
 f331:=Tryz.func266.trans (by kernel_rfl)
 f332:=Tryz.func267.trans (by kernel_rfl)
 f343:=Tryz.func287.trans (by kernel_rfl)
 t0:=Tryz.underlying0
 a0:=Tryz.isAgg0
 z0:=Tryz.sizeOf0
 v0:=Tryz.zeroValue0
 t3:=Tryz.underlying3
 a3:=Tryz.isAgg3
 z3:=Tryz.sizeOf3
 v3:=Tryz.zeroValue3
 t4:=Tryz.underlying4
 a4:=Tryz.isAgg4
 z4:=Tryz.sizeOf4
 v4:=Tryz.zeroValue4
 t5:=Tryz.underlying5
 a5:=Tryz.isAgg5
 z5:=Tryz.sizeOf5
 v5:=Tryz.zeroValue5
 t9:=Tryz.underlying9
 a9:=Tryz.isAgg9
 z9:=Tryz.sizeOf9
 v9:=Tryz.zeroValue9
 t28:=Tryz.underlying44
 a28:=Tryz.isAgg44
 z28:=Tryz.sizeOf44
 v28:=Tryz.zeroValue44
 t46:=Tryz.underlying179
 a46:=Tryz.isAgg179
 z46:=Tryz.sizeOf179
 v46:=Tryz.zeroValue179
 t51:=Tryz.underlying241
 a51:=Tryz.isAgg241
 z51:=Tryz.sizeOf241
 v51:=Tryz.zeroValue241
 t53:=Tryz.underlying33
 a53:=Tryz.isAgg33
 z53:=Tryz.sizeOf33
 v53:=Tryz.zeroValue33
 t131:=Tryz.underlying118
 a131:=Tryz.isAgg118
 z131:=Tryz.sizeOf118
 v131:=Tryz.zeroValue118
 t182:=Tryz.underlying234
 a182:=Tryz.isAgg234
 z182:=Tryz.sizeOf234
 v182:=Tryz.zeroValue234
 t183:=Tryz.underlying235
 a183:=Tryz.isAgg235
 z183:=Tryz.sizeOf235
 v183:=Tryz.zeroValue235
 t218:=Tryz.underlying252
 a218:=Tryz.isAgg252
 z218:=Tryz.sizeOf252
 v218:=Tryz.zeroValue252
 t222:=Tryz.underlying256
 a222:=Tryz.isAgg256
 z222:=Tryz.sizeOf256
 v222:=Tryz.zeroValue256
 t228:=Tryz.underlying280
 a228:=Tryz.isAgg280
 z228:=Tryz.sizeOf280
 v228:=Tryz.zeroValue280
 t229:=Tryz.underlying217
 a229:=Tryz.isAgg217
 z229:=Tryz.sizeOf217
 v229:=Tryz.zeroValue217
end Go.Proofs.YtjpgfmbccohngaaGreatDoor
namespace Go.Proofs.YtjpgfmbccohngaaGreatDoor
set_option linter.unusedSimpArgs false
set_option linter.unusedVariables false
open Go.Fw Go.RowKit
section
variable {K:Ctx} {objs:Objs}
theorem MemSat.grown (os:List Obj):∀ {w:World},MemSat K objs w->MemSat K objs (Go.Sort.grow w os.toArray):=by
 induction os with
 | nil=>intro w h;simpa [Go.Sort.grow] using h
 | cons x r ih =>
  intro w h
  have:=ih (h.junk x)
  rw [Go.Sort.alloc_eq_grow,Go.Sort.grow_grow] at this
  simpa using this
end
def insI (x:Int):List Int->List Int
 | []=>[x]
 | y :: r=>bif decide (y<x) then y :: insI x r else x :: y :: r
def sorted (l:List Int):List Int:=l.foldr insI []
theorem Qff (x:Int):∀ o,(insI x o).Perm (x :: o)
 | []=>.refl _
 | y :: r=>by
  unfold insI
  cases decide (y<x) with
  | true=>exact ((Qff x r).cons y).trans (.swap x y r)
  | false=>exact .refl _
theorem Qgf (x:Int):∀ o,o.Pairwise (fun a b=>a<=b)->(insI x o).Pairwise fun a b=>a<=b
 | [],_=>List.pairwise_singleton _ _
 | y :: r,h=>by
  obtain ⟨h1,h2⟩:=List.pairwise_cons.1 h
  unfold insI
  cases ha:decide (y<x) with
  | true =>
   have ha:=of_decide_eq_true ha
   refine List.pairwise_cons.2 ⟨fun z hz=>?_,Qgf x r h2⟩
   rcases List.mem_cons.1 ((Qff x r).mem_iff.1 hz) with rfl|hz
   ·omega
   ·exact h1 z hz
  | false =>
   have ha:=of_decide_eq_false ha
   refine List.pairwise_cons.2 ⟨fun z hz=>?_,h⟩
   rcases List.mem_cons.1 hz with rfl|hz
   ·omega
   ·have:=h1 z hz;omega
theorem QJ9:∀ l:List Int,(sorted l).Perm l
 | []=>.refl _
 | x :: r=>(Qff x _).trans ((QJ9 r).cons x)
theorem sorted_pw:∀ l:List Int,(sorted l).Pairwise fun a b=>a<=b
 | []=>.nil
 | x :: r=>Qgf x _ (sorted_pw r)
theorem sorted_merge (l:List Int):l.mergeSort (fun x y=>decide (x<=y))=sorted l :=
 List.Perm.eq_of_pairwise (le:=fun x y=>x<=y) (fun a b _ _ h1 h2=>Int.le_antisymm h1 h2)
  ((List.pairwise_mergeSort (fun a b c h1 h2=>by simp at *;omega) (fun a b=>by simp;omega) l).imp fun h=>by simpa using h) (sorted_pw l) ((List.mergeSort_perm l _).trans (QJ9 l).symm)
@[simp] theorem Qad (l:List Int):(sorted l).length=l.length:=(QJ9 l).length_eq
theorem putRow_setRow {w:World} {g:Nat} {c:Array Value} {t:TypeId} {fr:Nat × Nat} (hb:w.heap[g]? = some (.cells c t fr)) (d:Array Int):Go.Sort.putRow (Value.int .i64) w g 0 d=w.setRow g (Go.Sort.putCells (Value.int .i64) 0 d c):=by
 unfold Go.Sort.putRow Go.Sort.mapBlock World.setRow
 congr 1
 apply Array.ext_getElem?
 intro i
 simp only [Array.getElem?_modify]
 by_cases hi:g=i
 ·subst hi
  simp [hb,Go.Sort.onCells]
 ·simp [hi]
theorem slices_Sort_c (l:List Int) (hl:l.length<=4294967296) (h0:l ≠ []):AMoves Tryz.prog 167 [.own 0 0 1 0 l.length] [(0,.row 3 1 (l.map fun q_=>[I q_]))] 1 (.tup []) [(0,.row 3 1 ((sorted l).map fun q_=>[I q_]))]:=by
 intro K w vs hm hr
 have hp0:([(0,.row 3 1 (l.map fun q_=>[I q_]))]:Objs)[0]? = some (0,.row 3 1 (l.map fun q_=>[I q_])):=rfl
 have hlen:l.length ≠ 0:=by simpa using h0
 obtain ⟨v,rfl⟩:∃ v,vs=[v]:=List.length_eq_one_iff.1 hr.1
 obtain ⟨_,_,hcase⟩:=QR6 (hr.2 0 _ _ rfl rfl)
 rcases hcase with ⟨_,q,_⟩|⟨a,cap,rfl,q1,q2,q3⟩
 ·exact absurd q hlen
 have ha:=q3 (by omega)
 simp only [Nat.zero_mul] at ha
 subst ha
 obtain ⟨g1,g2,g3⟩:=hm.obj 0 _ hp0
 have hC:K.C 0 0 ≠ 0:=by simp at g2;omega
 obtain ⟨cur,⟨fr,hfr,hbk⟩,hs,h1,hcr⟩:=g3 hC
 have hblk:=(hm.lo 0 _ hp0 rfl hC).2.1
 have hsz:l.length<=cur.size:=by
  have e:cur.size=K.C 0 0*1:=hs
  simp at g2
  omega
 have hcell:∀ (j:Nat) (n:Int),l[j]? = some n->cur[j]? = some (Value.int .i64 n):=by
  intro j n hj
  obtain ⟨u,hu,hru⟩:=hcr j 0 [I n] (I n) (by rw [List.getElem?_map,hj];rfl) rfl
  have e:=Q61 hru
  subst e
  rw [show j*1+0=j by omega] at hu
  exact hu
 have hH:Go.Sort.Holds (Value.int .i64) w (K.ρ 0 0) 0 l.toArray:=by
  intro j hj
  have hj':j<l.length:=by simpa using hj
  refine ⟨?_,?_⟩
  ·simp only [World.cell?,hbk,Nat.zero_add]
   have e:l[j]? = some (l[j]'hj'):=List.getElem?_eq_getElem hj'
   have:=hcell j _ e
   rw [this]
   congr 2
   rw [getElem!_pos l.toArray j hj]
   simp
  ·have hj2:=hfr j (by omega)
   obtain ⟨lo,hi'⟩:=fr
   simp only at hj2
   simp only [World.frozen?,hbk,Nat.zero_add,Bool.and_eq_false_imp,decide_eq_true_eq,decide_eq_false_iff_not]
   intro h1 h2
   exact hj2 ⟨h1,h2⟩
 have hc:=Any.slices_Sort_int srtLays (K.ρ 0 0) 0 cap l w hH hblk (by omega)
 rw [sorted_merge] at hc
 refine hc.mono ?_
 rintro e w' ⟨rfl,n,os,rfl⟩
 have hmd:=hm.drawn (w.drawn+n)
 have hbk':(Go.Sort.ahead w n).heap[K.ρ 0 0]? = some (.cells cur 3 fr):=hbk
 have hsl:(sorted l).length=l.length:=Qad l
 have hmr:=hmd.setRow hp0 hC cur (Go.Sort.putCells (Value.int .i64) 0 (sorted l).toArray cur) ⟨fr,hfr,hbk⟩ (by simp [Go.Sort.putCells]) (fun u hu=>by
   simp only [Go.Sort.putCells,Array.mem_toList_iff,Array.mem_mapIdx] at hu
   obtain ⟨i,hi,rfl⟩:=hu
   split
   ·rfl
   ·exact h1 _ (Array.mem_toList_iff.2 (Array.getElem_mem hi))) ((sorted l).map fun q_=>[I q_]) (by simp at g2 ⊢;omega) (by simp) (fun i j e x he hx=>by
   rw [List.getElem?_map] at he
   obtain ⟨q,hq,rfl⟩:=Option.map_eq_some_iff.1 he
   have hi:i<(sorted l).length:=(List.getElem?_eq_some_iff.1 hq).1
   cases j with
   | succ j=>simp at hx
   | zero =>
    simp only [List.getElem?_cons_zero,Option.some.injEq] at hx
    subst hx
    refine ⟨Value.int .i64 q,?_,.lit _⟩
    have hic:i<cur.size:=by omega
    have e:(sorted l).toArray[i]! = q:=by
     rw [getElem!_pos _ i (by simpa using hi)]
     simpa using (List.getElem?_eq_some_iff.1 hq).2
    simp only [Nat.mul_one,Nat.add_zero,Go.Sort.putCells,Array.getElem?_mapIdx,Array.getElem?_eq_getElem hic,Option.map_some,Nat.zero_le,Nat.sub_zero,true_and,Nat.zero_add,List.size_toArray]
    rw [if_pos hi,e])
 rw [putRow_setRow hbk']
 have hmg:=MemSat.grown os.toList hmr
 exact ⟨_,K,rfl,Q0f (by rw [← hm.len];simp),hmg,.tup _ _ rfl (by intro i x v hx;simp at hx)⟩
end Go.Proofs.YtjpgfmbccohngaaGreatDoor
namespace Go.Proofs.YtjpgfmbccohngaaGreatDoor
set_option linter.unusedSimpArgs false
set_option linter.unusedVariables false
open Go.Fw
set_option maxRecDepth 20000
set_option maxHeartbeats 4000000
attribute [local irreducible] ACalls AMoves
theorem Job.zz {x:Job} (h:x.sz):x.name.size<=4294967296∧x.user.size<=4294967296∧x.account.size<=4294967296∧x.shape.alts.length<=4294967296∧x.after.length<=4294967296:=h
theorem Usage.zz {x:Usage} (h:x.sz):x.user.size<=4294967296∧x.account.size<=4294967296:=h
abbrev GV (f:FuncId) (a:List AVal) (r:AVal):Prop:=∀ objs,AGives Tryz.prog f a objs r
def Q0c (s:Shape):Bool:=(decide ((s.alts.length:Int)<=100))
theorem law07_Few_c (s:Shape):GV 44 [Shape.a s] (Bo (Q0c s)):=by
 generalize hR:Q0c s=R;refine ga (.cons (Shape.low _ _) .nil) lx (kp 3 []) Tryz.func44 ?_;obtain rfl:=foll hR rfl;exact Q00 lx sr
def Q1c (l:List Node):Bool:=(decide ((l.length:Int)<=100))
theorem law12_Few_c (l:List Node):GV 41 [nodeL l] (Bo (Q1c l)):=by
 generalize hR:Q1c l=R;refine ga (.cons lw .nil) lx (kp 3 []) Tryz.func41 ?_;obtain rfl:=foll hR rfl;exact Q00 lx sr
def Q4c (l:List Book):Bool:=(decide ((l.length:Int)<=100))
theorem law19_Few_c (l:List Book):GV 42 [bookL l] (Bo (Q4c l)):=by
 generalize hR:Q4c l=R;refine ga (.cons lw .nil) lx (kp 3 []) Tryz.func42 ?_;obtain rfl:=foll hR rfl;exact Q00 lx sr
def Qt7 :List Usage->Nat->Bool
 | [],_=>true
 | x_ :: r,i=>bif ((decide ((ByteArray.size x_.user:Int) > 1000))||(decide ((ByteArray.size x_.account:Int) > 1000))) then false else Qt7 r (i+1)
def Q3c (l:List Usage):Bool:=bif (decide ((l.length:Int) > 300)) then false else Qt7 l 0
theorem law17_Few_c (l:List Usage) (hs0:l.length<=9223372036854775807∧(∀ y ∈ l,y.szM)):GV 43 [QU2 l] (Bo (Q3c l)):=by
 generalize hR:Q3c l=R;refine ga (.cons lw .nil) lx (kp 4 [6,10,28]) Tryz.func43 ?_;obtain ⟨z9,z10⟩:=id hs0;refine ai (fun h1=>?_) (fun h2=>?_)
 ·have qh1:=of_decide_eq_true h1;obtain rfl:=foll hR (ct h1 rfl);exact Q00 lx sr
 ·have qh2:=of_decide_eq_false h2;refine Qf0 (fun (i:Nat)=>Qt7 (List.drop i l) i=R∧i<=l.length) (fun i=>l.length - i) (fun i=>[(0,QU2 l),(2,Bo false),(3,I (i:Int))]) (fun i=>[]) 0 (wk [] .nil (sl lw (s1 (s1 .nil)))) ⟨foll hR (cf h2 rfl),by exact omA⟩ ?_;clear hR;rintro i ⟨hR,hj⟩;(try dsimp only at hR hj);refine ai (fun h3=>?_) (fun h4=>?_)
  ·have hlt:=ltA h3;rw [Q90 Usage.zero hlt] at hR;have hxz:(l.getD i Usage.zero).szM:=Q72 (by first|assumption|grind) (Usage.szz _);have hkz:=hxz;obtain ⟨z5,z6⟩:((l.getD i Usage.zero).user).size<=9223372036854775807∧((l.getD i Usage.zero).account).size<=9223372036854775807:=hxz;refine ai gkA ?_;refine ai gkA ?_;refine ai (fun h7=>?_) (fun h8=>?_)
   ·obtain rfl:=foll hR (ct h7 rfl);exact Q00 lx sr
   ·exact Qj0 (i+1) (wk [] .nil (sl lw (s1 (sv (Q70 (I_eq (wr omA)) lx) .nil)))) omA ⟨foll hR (cf h8 rfl),by exact omA⟩
  ·rw [Qa0 (l:=l) (j:=i) (geA h4)] at hR;obtain rfl:=foll hR rfl;exact Q00 lx sr
def QZ3 (n:Int):Bool:=((decide (n >= 0))&&(decide (n<=1000000)))
theorem QK5 (n:Int):GV 71 [I n] (Bo (QZ3 n)):=by
 generalize hR:QZ3 n=R;refine ga (l1 .nil) lx (kp 3 []) Tryz.func71 ?_;obtain rfl:=foll hR rfl;exact Q00 lx sr
def Qx3 (n:Int) (from_:Int) (to_:Int):Int:=bif (decide (n<from_)) then from_ else bif (decide (n > to_)) then to_ else n
theorem QS9 (n:Int) (from_:Int) (to_:Int):GV 141 [I n,I from_,I to_] (I (Qx3 n from_ to_)):=by
 generalize hR:Qx3 n from_ to_=R;refine ga (l1 (l1 (l1 .nil))) lx (kp 7 [7,12]) Tryz.func141 ?_;refine ai (fun h1=>?_) (fun h2=>?_)
 ·have qh1:=of_decide_eq_true h1;obtain rfl:=foll hR (ct h1 rfl);exact Q00 lx sr
 ·have qh2:=of_decide_eq_false h2;refine ai (fun h3=>?_) (fun h4=>?_)
  ·have qh3:=of_decide_eq_true h3;obtain rfl:=foll hR (cf h2 (ct h3 rfl));exact Q00 lx sr
  ·have qh4:=of_decide_eq_false h4;obtain rfl:=foll hR (cf h2 (cf h4 rfl));exact Q00 lx sr
def Q91 (a:Alt):Bool:=((((decide (a.nodes >= 1))&&(decide (a.nodes<=48)))&&(decide (a.wall >= 1)))&&(decide (a.wall<=100000)))
theorem Qqa (a:Alt):GV 169 [Alt.a a] (Bo (Q91 a)):=by
 generalize hR:Q91 a=R;refine ga (.cons (Alt.low _ _) .nil) lx (kp 3 []) Tryz.func169 ?_;obtain rfl:=foll hR rfl;exact Q00 lx sr
def Qj3 (f:Alt->Bool):List Alt->Nat->Int
 | [],_=>(-1)
 | x_ :: r,i=>bif (f x_) then (i:Int) else Qj3 f r (i+1)
def Q71 (s:List Alt) (f:Alt->Bool):Int:=Qj3 f s 0
def QP2 (n:Int) (from_:Int) (to_:Int):Bool:=((decide (n >= from_))&&(decide (n<=to_)))
theorem Qn3 (n:Int) (from_:Int) (to_:Int):GV 203 [I n,I from_,I to_] (Bo (QP2 n from_ to_)):=by
 generalize hR:QP2 n from_ to_=R;refine ga (l1 (l1 (l1 .nil))) lx (kp 7 []) Tryz.func203 ?_;obtain rfl:=foll hR rfl;exact Q00 lx sr
def Qg1 (r_:Int):Int:=bif ((r_==9)||(r_==32)) then 1 else bif (((((decide (r_<32))||((decide (r_ >= 127))&&(decide (r_<=160))))||((decide (r_ >= 55296))&&(decide (r_<=57343))))||(r_==65533))||(decide (r_ > 1114111))) then 0 else bif ((decide (r_ >= 48))&&(decide (r_<=57))) then 3 else bif ((((decide (r_ >= 97))&&(decide (r_<=122)))||((decide (r_ >= 65))&&(decide (r_<=90))))||(decide (r_ > 160))) then 2 else 4
theorem QW4 (r_:Int):GV 258 [J r_] (I (Qg1 r_)):=by
 generalize hR:Qg1 r_=R;refine ga (l1 .nil) lx (kp 3 [3,10,37,44]) Tryz.func258 ?_;refine ai (fun h1=>?_) (fun h2=>?_)
 ·obtain rfl:=foll hR (ct h1 rfl);exact Q00 lx sr
 ·refine ai (fun h3=>?_) (fun h4=>?_)
  ·obtain rfl:=foll hR (cf h2 (ct h3 rfl));exact Q00 lx sr
  ·refine ai (fun h5=>?_) (fun h6=>?_)
   ·obtain rfl:=foll hR (cf h2 (cf h4 (ct h5 rfl)));exact Q00 lx sr
   ·refine ai (fun h7=>?_) (fun h8=>?_)
    ·obtain rfl:=foll hR (cf h2 (cf h4 (cf h6 (ct h7 rfl))));exact Q00 lx sr
    ·obtain rfl:=foll hR (cf h2 (cf h4 (cf h6 (cf h8 rfl))));exact Q00 lx sr
def Qy0 (is:Int->Bool):Nat->LexReader->LexReader
 | 0,_=>LexReader.zero
 | m+1,c=>bif ((decide (c.at_<(c.line.length:Int)))&&(is (c.line.getD (Int.toNat c.at_) 0))) then Qy0 is m { c with at_:=(w64 (c.at_+1)) } else c
def Qz0 (r_:LexReader) (c:LexReader):ByteArray × LexReader:=((runesBytes (List.drop (Int.toNat r_.at_) (List.take (Int.toNat c.at_) c.line))),c)
def Q30 (r_:LexReader) (is:Int->Bool):ByteArray × LexReader:=Qz0 r_ (Qy0 is ((Int.toNat ((r_.line.length:Int) - r_.at_))+1) r_)
theorem Q1b (is:Int->Bool):∀ (m:Nat) (c:LexReader),(Qy0 is m c).line.length<=c.line.length
 | 0,_=>by simp [Qy0,LexReader.zero]
 | m+1,c=>by
  rw [Qy0]
  cases ((decide (c.at_<(c.line.length:Int)))&&(is (c.line.getD (Int.toNat c.at_) 0))) with
  | true=>exact Q1b is m { c with at_:=(w64 (c.at_+1)) }
  | false=>exact Nat.le_refl _
theorem Q6a (r_:LexReader) (is:Int->Bool) (h:r_.line.length<=400):(Q30 r_ is).1.size<=4294967296:=by
 have h1:=Q1b is ((Int.toNat ((r_.line.length:Int) - r_.at_))+1) r_
 unfold Q30 Qz0
 refine Nat.le_trans (QT6 _) ?_
 simp only [List.length_drop,List.length_take]
 omega
def Qh5 (s:ByteArray):Nat->Nat->List Int->(List Int)
 | 0,_,_=>[]
 | m+1,i,c=>bif (decide ((i:Int)<(ByteArray.size s:Int))) then bif ((decide ((c.getD i 0) >= 65))&&(decide ((c.getD i 0)<=90))) then Qh5 s m (i+1) (c.set i (wu8 ((wu8 ((c.getD i 0)+97)) - 65))) else Qh5 s m (i+1) c else c
def Qm4 (c:List Int):ByteArray:=(QN2 c)
def Q97 (s:ByteArray):ByteArray:=Qm4 (Qh5 s ((Int.toNat ((ByteArray.size s:Int) - (0:Int)))+1) 0 (Q02 s))
theorem runes_Lower_c (s:ByteArray) (hs0:s.size<=4294967296):GV 310 [Sg s] (Sg (Q97 s)):=by
 generalize hR:Q97 s=R;refine ga (l1 .nil) lx (kp 6 [8,9,10,11,20]) Tryz.func310 ?_;have hk0:=hs0;obtain z5:s.size<=4294967296:=hs0;refine Qg0 (fun (i:Nat) (c:List Int)=>∃ m,(Int.toNat ((ByteArray.size s:Int) - (i:Int)))<m∧Qm4 (Qh5 s m i c)=R∧c.length=ByteArray.size s∧(i:Int)<=(ByteArray.size s:Int)) (fun i c=>(Int.toNat ((ByteArray.size s:Int) - (i:Int)))) (fun i c=>[(2,Sg ⟨#[]⟩),(3,AVal.own 0 0 1 0 c.length),(8,AVal.own 0 0 1 0 c.length),(9,I (ByteArray.size s:Int)),(10,I (i:Int))]) (fun i c=>[(0,AObj.row 5 1 (c.map (fun q_=>[Y q_])))]) 0 (Q02 s) (wk [0] (tO rfl (tl eqA) .nil) (s1 (sv (to 0 lnA) (sv (to 0 lnA) (s1 (s1 .nil)))))) ⟨_,Nat.lt_succ_self _,foll hR rfl,by exact exA⟩ ?_;clear hR;rintro i c ⟨m,hm,hR,hx⟩;(try dsimp only at hR hm hx);obtain ⟨m,rfl⟩:=sucA m;refine ai (fun h1=>?_) (fun h2=>?_)
 ·have qh1:=of_decide_eq_true h1;refine ai gkA ?_;refine ⟨_,QT1 rfl rfl rfl (Ql2 0 i (by first|rfl|exact Nat.zero_add _|omega) ckA) rfl,?_⟩;refine ai (fun h3=>?_) (fun h4=>?_)
  ·refine ai gkA ?_;refine ⟨_,QF4 rfl rfl rfl rfl (Ql2 0 i (by first|rfl|exact Nat.zero_add _|omega) ckA) rfl rfl (set_map i (wu8 ((wu8 ((c.getD i 0)+97)) - 65)) (by first|rfl|exact Nat.zero_add _|omega) rfl),?_⟩;exact Q80 (i+1) (c.set i (wu8 ((wu8 ((c.getD i 0)+97)) - 65))) (wk [0] (tO rfl (tl eqA) .nil) (s1 (sv (to 0 lnA) (sv (to 0 lnA) (s1 (sv (Q70 (I_eq (wr omA)) lx) .nil)))))) omA ⟨m,by exact omA,foll hR (congrArg (fun p:(List Int)=>Qm4 p) (ct h1 (ct h3 rfl))),by exact exA⟩
  ·exact Q80 (i+1) c (wk [0] (tO rfl (tl eqA) .nil) (s1 (sv (to 0 lnA) (sv (to 0 lnA) (s1 (sv (Q70 (I_eq (wr omA)) lx) .nil)))))) omA ⟨m,by exact omA,foll hR (congrArg (fun p:(List Int)=>Qm4 p) (ct h1 (cf h4 rfl))),by exact exA⟩
 ·have qh2:=of_decide_eq_false h2;replace hR:Qm4 c=R:=fo2 (fun p:(List Int)=>Qm4 p) (c) hR (cf h2 rfl);(first|refine ⟨c,by exact cvA,?_⟩|refine ⟨_,fun _=>⟨c,by exact cvA,rfl,rfl⟩,?_⟩|refine ⟨_,rfl,⟨c,by exact cvA,Sub.refl _,rfl⟩,?_⟩);obtain rfl:=foll hR rfl;exact Q00 lx sr
def QS0 (r_:LexReader) (at_:Int) (e_:Int):LexReader:=bif (r_.error==0) then (⟨r_.line,r_.at_,at_,e_⟩:LexReader) else r_
theorem Qy3 (r_:LexReader) (at_:Int) (e_:Int):AMoves Tryz.prog 301 [AVal.ptr 0 0 4 0 0,I at_,I e_] [(0,AObj.row 273 4 [[runes r_.line,I r_.at_,I r_.bad,I r_.error]])] 1 (AVal.tup []) [(0,AObj.row 273 4 [[runes ((QS0 r_ at_ e_).line),I ((QS0 r_ at_ e_).at_),I ((QS0 r_ at_ e_).bad),I ((QS0 r_ at_ e_).error)]])]:=by
 generalize hR:QS0 r_ at_ e_=R;refine mo (kp 6 [10]) Tryz.func301 ?_;refine ai (fun h1=>?_) (fun h2=>?_)
 ·obtain rfl:=foll hR (ct h1 rfl);exact rq (tt [0] (tO rfl (ts LexReader.lo) .nil) t1)
 ·obtain rfl:=foll hR (cf h2 rfl);exact rq (tt [0] (tO rfl (ts LexReader.lo) .nil) t1)
def QJ6 (s:ByteArray):List (Nat × Int)->Bool
 | []=>(!(ByteArray.toList s==ByteArray.toList ⟨#[]⟩))
 | x_ :: r=>bif ((decide (x_.2<48))||(decide (x_.2 > 57))) then false else QJ6 s r
def QS7 (s:ByteArray):Bool:=QJ6 s (Qk7 s)
theorem Qwd (s:ByteArray) (hs0:s.size<=4294967296):GV 312 [Sg s] (Bo (QS7 s)):=by
 generalize hR:QS7 s=R;refine ga (l1 .nil) lx (kp 5 [6,7,8,15]) Tryz.func312 ?_;have hk0:=hs0;obtain z5:s.size<=4294967296:=hs0;refine Qf0 (fun (pos:Nat)=>∃ m,ByteArray.size s - pos<=m∧QJ6 s (Qr4 s m pos)=R) (fun pos=>ByteArray.size s - pos) (fun pos=>[(0,Sg s),(2,Bo false),(6,AVal.ptr 0 0 1 0 0)]) (fun pos=>[(0,AObj.other (.strIter s pos))]) 0 (wk [0] (tO rfl (.strIter _ _) .nil) (s1 (s1 (sv (Q20 0 rfl rfl) .nil)))) ⟨ByteArray.size s,by exact omA,foll hR rfl⟩ ?_;clear hR;rintro pos ⟨m,hm,hR⟩;(try dsimp only at hR hm);refine ai (fun h1=>?_) (fun h2=>?_)
 ·have hlt:=of_decide_eq_true h1;have hw:=QR7 s pos;have hwe:=QQ7 s pos hlt;obtain ⟨m,rfl⟩:=sucA m;rw [Ql3 h1] at hR;refine ai (fun _=>?_) (fun h=>nomatch h);refine ai (fun h3=>?_) (fun h4=>?_)
  ·obtain rfl:=foll hR (ct h3 rfl);exact Q00 lx sr
  ·exact Qj0 (pos+(Utf8.decode s pos).2) (wk [0] (tO rfl (.strIter _ _) .nil) (s1 (s1 (sv (Q20 0 rfl rfl) .nil)))) omA ⟨m,by exact omA,foll hR (cf h4 rfl)⟩
 ·rw [QG5 h2] at hR;refine ai (fun h=>nomatch h) (fun _=>?_);obtain rfl:=foll hR rfl;exact Q00 lx sr
theorem QO9 (s:ByteArray):∀ l,QJ6 s l=true->(!(ByteArray.toList s==ByteArray.toList ⟨#[]⟩))=true ∧ ∀ x ∈ l,48<=x.2∧x.2<=57
 | [],h=>⟨h,fun x hx=>nomatch hx⟩
 | x :: r,h=>by
  rw [QJ6] at h
  cases hc:((decide (x.2<48))||(decide (x.2 > 57))) with
  | true=>rw [hc] at h;cases h
  | false =>
   rw [hc] at h
   obtain ⟨a,b⟩:=QO9 s r h
   refine ⟨a,fun y hy=>?_⟩
   rcases List.mem_cons.1 hy with rfl|hy
   ·simp only [Bool.or_eq_false_iff,decide_eq_false_iff_not] at hc
    omega
   ·exact b y hy
theorem lex_digits_ok {s:ByteArray} {q:Bool} (h:(((!(QS7 s))||(decide ((ByteArray.size s:Int) > 9)))||q)=false):atoiOK s:=by
 simp only [Bool.or_eq_false_iff,Bool.not_eq_false',decide_eq_false_iff_not] at h
 obtain ⟨⟨h1,h2⟩,_⟩:=h
 obtain ⟨a,b⟩:=QO9 s _ h1
 refine ⟨?_,by omega,fun i hi=>digits_bytes s s.size 0 (by omega) b i (by omega) hi⟩
 rcases Nat.eq_zero_or_pos s.size with h0|h0
 ·have e:s=⟨#[]⟩:=by
   apply ByteArray.ext
   exact Array.eq_empty_of_size_eq_zero h0
  rw [e] at a
  simp at a
 ·exact h0
def QA7 (s:ByteArray):Nat->Int->Nat->Int
 | 0,_,_=>0
 | m+1,n,i=>bif (decide ((i:Int)<(ByteArray.size s:Int))) then QA7 s m (w64 ((w64 (n*10))+(w64 (wu8 (((Q02 s).getD i 0) - 48))))) (i+1) else n
def Q15 (n:Int):Int × Unit:=(n,())
def Qp9 (s:ByteArray):Int × Unit:=Q15 (QA7 s ((Int.toNat ((ByteArray.size s:Int) - (0:Int)))+1) 0 0)
theorem Qhf (s:ByteArray) (hs0:s.size<=4294967296) (hp0:atoiOK s):GV 328 [Sg s] (AVal.tup [I ((Qp9 s).1),AVal.lit .nilIface]):=by
 generalize hR:Qp9 s=R;refine ga (l1 .nil) (Low.tup' (l1 (l1 .nil))) (kp 11 [30,39,44,47,48,49,50,56,66]) Tryz.func328 ?_;have hk0:=hs0;obtain z11:s.size<=4294967296:=hs0;refine ai (fun h1=>?_) (fun h2=>?_)
 ·refine ai gkA ?_;refine ai gkA ?_;refine ai (fun h3=>?_) (fun h4=>?_)
  ·exfalso;exact atoi_sign hp0 h3
  ·refine Qg0 (fun (n:Int) (i:Nat)=>∃ m,(Int.toNat ((ByteArray.size s:Int) - (i:Int)))<m∧Q15 (QA7 s m n i)=R∧(i:Int)<=(ByteArray.size s:Int)) (fun n i=>(Int.toNat ((ByteArray.size s:Int) - (i:Int)))) (fun n i=>[(0,Sg s),(2,I 0),(3,AVal.lit .nilIface),(5,Sg s),(6,I n),(47,AVal.own 0 0 1 0 (ByteArray.size s)),(48,I (ByteArray.size s:Int)),(49,I (i:Int))]) (fun n i=>[(0,AObj.row 5 1 ((Q02 s).map (fun q_=>[Y q_])))]) 0 0 (wk [0] (tO rfl (tl eqA) .nil) (s1 (s1 (s1 (s1 (s1 (sv (to 0 lnA) (s1 (s1 .nil))))))))) ⟨_,Nat.lt_succ_self _,foll hR rfl,by exact exA⟩ ?_;clear hR;rintro n i ⟨m,hm,hR,hx⟩;(try dsimp only at hR hm hx);obtain ⟨m,rfl⟩:=sucA m;refine ai (fun h5=>?_) (fun h6=>?_)
   ·have qh5:=of_decide_eq_true h5;refine ai gkA ?_;refine ⟨_,QT1 rfl rfl rfl (Ql2 0 i (by first|rfl|exact Nat.zero_add _|omega) ckA) rfl,?_⟩;refine ai (fun h7=>?_) (fun h8=>?_)
    ·exfalso;exact atoi_digit hp0 (by omega) h7
    ·have qh8:=of_decide_eq_false h8;exact Q80 (w64 ((w64 (n*10))+(w64 (wu8 (((Q02 s).getD i 0) - 48))))) (i+1) (wk [0] (tO rfl (tl eqA) .nil) (s1 (s1 (s1 (s1 (s1 (sv (to 0 lnA) (s1 (sv (Q70 (I_eq (wr omA)) lx) .nil))))))))) omA ⟨m,by exact omA,foll hR (congrArg (fun p:Int=>Q15 p) (ct h5 rfl)),by exact exA⟩
   ·have qh6:=of_decide_eq_false h6;replace hR:Q15 n=R:=fo2 (fun p:Int=>Q15 p) (n) hR (cf h6 rfl);refine ai gkA ?_;refine ai (fun h9=>?_) (fun h10=>?_)
    ·exfalso;exact atoi_minus hp0 h9
    ·obtain rfl:=foll hR rfl;exact Q00 (Low.tup' (l1 (l1 .nil))) (Seen.tup (e1 (e1 .nil)))
 ·exfalso;have ha1:=hp0.1;have ha2:=hp0.2.1;simp at h2;omega
def QO2 (p_:List Int) (r_:Int) (i:Bool):(List Int):=bif i then (p_++([(wu8 (BitVec.ofInt 8 224 ||| BitVec.ofInt 8 (wu8 (Int.fdiv r_ (2 ^ (min (Int.toNat 12) 32))))).toNat),(wu8 (BitVec.ofInt 8 128 ||| BitVec.ofInt 8 (wu8 (BitVec.ofInt 8 (wu8 (Int.fdiv r_ (2 ^ (min (Int.toNat 6) 32)))) &&& BitVec.ofInt 8 63).toNat)).toNat),(wu8 (BitVec.ofInt 8 128 ||| BitVec.ofInt 8 (wu8 (BitVec.ofInt 8 (wu8 r_) &&& BitVec.ofInt 8 63).toNat)).toNat)]:List Int)) else bif ((decide ((wu32 r_) > 65535))&&(decide ((wu32 r_)<=1114111))) then (p_++([(wu8 (BitVec.ofInt 8 240 ||| BitVec.ofInt 8 (wu8 (Int.fdiv r_ (2 ^ (min (Int.toNat 18) 32))))).toNat),(wu8 (BitVec.ofInt 8 128 ||| BitVec.ofInt 8 (wu8 (BitVec.ofInt 8 (wu8 (Int.fdiv r_ (2 ^ (min (Int.toNat 12) 32)))) &&& BitVec.ofInt 8 63).toNat)).toNat),(wu8 (BitVec.ofInt 8 128 ||| BitVec.ofInt 8 (wu8 (BitVec.ofInt 8 (wu8 (Int.fdiv r_ (2 ^ (min (Int.toNat 6) 32)))) &&& BitVec.ofInt 8 63).toNat)).toNat),(wu8 (BitVec.ofInt 8 128 ||| BitVec.ofInt 8 (wu8 (BitVec.ofInt 8 (wu8 r_) &&& BitVec.ofInt 8 63).toNat)).toNat)]:List Int)) else (p_++([239,191,189]:List Int))
def QH2 (p_:List Int) (r_:Int):(List Int):=bif (decide ((wu32 r_)<=2047)) then (p_++([(wu8 (BitVec.ofInt 8 192 ||| BitVec.ofInt 8 (wu8 (Int.fdiv r_ (2 ^ (min (Int.toNat 6) 32))))).toNat),(wu8 (BitVec.ofInt 8 128 ||| BitVec.ofInt 8 (wu8 (BitVec.ofInt 8 (wu8 r_) &&& BitVec.ofInt 8 63).toNat)).toNat)]:List Int)) else bif (decide ((wu32 r_)<55296)) then QO2 p_ r_ (decide ((wu32 r_)<55296)) else QO2 p_ r_ ((decide (57343<(wu32 r_)))&&(decide ((wu32 r_)<=65535)))
theorem QV8 (p_:List Int) (r_:Int) (hs0:p_.length<=4294967296):AMoves Tryz.prog 327 [AVal.own 0 0 1 0 p_.length,J r_] [(0,AObj.row 5 1 (p_.map (fun q_=>[Y q_])))] 0 (AVal.own 0 0 1 0 (QH2 p_ r_).length) [(0,AObj.row 5 1 ((QH2 p_ r_).map (fun q_=>[Y q_])))]:=by
 generalize hR:QH2 p_ r_=R;refine mo (kj [1000007] 6 [11,25,50]) Tryz.func327 ?_;have hk0:=hs0;obtain z9:p_.length<=4294967296:=hs0;refine ai (fun h1=>?_) (fun h2=>?_)
 ·have qh1:=of_decide_eq_true h1;refine ai gkA ?_;refine Or.inl ?_;(first|refine ⟨QK1 1 rfl lnA apA,?_⟩|refine ⟨QR0 1 rfl apA,?_⟩);obtain rfl:=foll hR (ct h1 rfl);exact rq (tt [0] (tO rfl (tl eqA) .nil) (to 0 lnA))
 ·have qh2:=of_decide_eq_false h2;refine Qr1 (fun (i:Bool)=>QO2 p_ r_ i=R) (fun i=>[(0,AVal.own 0 0 1 0 p_.length),(1,J r_),(4,AVal.lit (.slice none 0 0)),(5,V (wu32 r_)),(25,Bo i)]) (fun i=>[(0,AObj.row 5 1 (p_.map (fun q_=>[Y q_])))]) ?_ ?_
  ·clear hR;rintro i hR;(try dsimp only at hR);refine ai (fun h3=>?_) (fun h4=>?_)
   ·refine ai gkA ?_;refine ai gkA ?_;refine Or.inl ?_;(first|refine ⟨QK1 1 rfl lnA apA,?_⟩|refine ⟨QR0 1 rfl apA,?_⟩);obtain rfl:=foll hR (ct h3 rfl);exact rq (tt [0] (tO rfl (tl eqA) .nil) (to 0 lnA))
   ·refine ai (fun h5=>?_) (fun h6=>?_)
    ·refine ai gkA ?_;refine ai gkA ?_;refine ai gkA ?_;refine Or.inl ?_;(first|refine ⟨QK1 1 rfl lnA apA,?_⟩|refine ⟨QR0 1 rfl apA,?_⟩);obtain rfl:=foll hR (cf h4 (ct h5 rfl));exact rq (tt [0] (tO rfl (tl eqA) .nil) (to 0 lnA))
    ·refine Or.inl ?_;(first|refine ⟨QK1 1 rfl lnA apA,?_⟩|refine ⟨QR0 1 rfl apA,?_⟩);obtain rfl:=foll hR (cf h4 (cf h6 rfl));exact rq (tt [0] (tO rfl (tl eqA) .nil) (to 0 lnA))
  ·refine ai (fun h7=>?_) (fun h8=>?_)
   ·have qh7:=of_decide_eq_true h7;exact Qb0 (decide ((wu32 r_)<55296)) (wk [0] (tO rfl (tl eqA) .nil) (sv (to 0 lnA) (s1 (s1 (s1 (s1 .nil)))))) (foll hR (cf h2 (ct h7 rfl)))
   ·have qh8:=of_decide_eq_false h8;exact Qb0 ((decide (57343<(wu32 r_)))&&(decide ((wu32 r_)<=65535))) (wk [0] (tO rfl (tl eqA) .nil) (sv (to 0 lnA) (s1 (s1 (s1 (s1 .nil)))))) (foll hR (cf h2 (cf h8 rfl)))
def Qk3 (f:Dep->Bool):List Dep->Nat->Int
 | [],_=>(-1)
 | x_ :: r,i=>bif (f x_) then (i:Int) else Qk3 f r (i+1)
def Q81 (s:List Dep) (f:Dep->Bool):Int:=Qk3 f s 0
def QX4 (s2:List Alt):List Alt->Nat->Bool
 | [],_=>true
 | x_ :: r,i=>bif (!((x_.nodes==(s2.getD i Alt.zero).nodes)&&(x_.wall==(s2.getD i Alt.zero).wall))) then false else QX4 s2 r (i+1)
def Qh6 (s1_:List Alt) (s2:List Alt):Bool:=bif ((s1_.length:Int)!=(s2.length:Int)) then false else QX4 s2 s1_ 0
theorem Qvc (s1_:List Alt) (s2:List Alt) (hs0:s1_.length<=4294967296) (hs1:s2.length<=4294967296):GV 237 [altL s1_,altL s2] (Bo (Qh6 s1_ s2)):=by
 generalize hR:Qh6 s1_ s2=R;refine ga (.cons lw (.cons lw .nil)) lx (kp 6 [10,12,13,14,24]) Tryz.func237 ?_;have hk0:=hs0;obtain z7:s1_.length<=4294967296:=hs0;have hk1:=hs1;obtain z8:s2.length<=4294967296:=hs1;refine ai (fun h1=>?_) (fun h2=>?_)
 ·obtain rfl:=foll hR (ct h1 rfl);exact Q00 lx sr
 ·refine Qf0 (fun (i:Nat)=>QX4 s2 (List.drop i s1_) i=R∧i<=s1_.length) (fun i=>s1_.length - i) (fun i=>[(0,altL s1_),(1,altL s2),(4,Bo false),(12,I (s1_.length:Int)),(13,I (i:Int))]) (fun i=>[]) 0 (wk [] .nil (sl lw (sl lw (s1 (s1 (s1 .nil)))))) ⟨foll hR (cf h2 rfl),by exact omA⟩ ?_;clear hR;rintro i ⟨hR,hj⟩;(try dsimp only at hR hj);refine ai (fun h3=>?_) (fun h4=>?_)
  ·have hlt:=ltA h3;rw [Q90 Alt.zero hlt] at hR;refine dchk (by kernel_rfl) ?_;refine ai gkA ?_;refine ai gkA ?_;refine ai (fun _=>(by kernel_rfl:eqOK _ _=true)) ?_;(repeat ((first|refine ai rfl ?_|refine ai (fun _=>rfl) ?_)));refine ai (fun h5=>?_) (fun h6=>?_)
   ·obtain rfl:=foll hR (ct h5 rfl);exact Q00 lx sr
   ·exact Qj0 (i+1) (wk [] .nil (sl lw (sl lw (s1 (s1 (sv (Q70 (I_eq (wr omA)) lx) .nil)))))) omA ⟨foll hR (cf h6 rfl),by exact omA⟩
  ·rw [Qa0 (l:=s1_) (j:=i) (geA h4)] at hR;obtain rfl:=foll hR rfl;exact Q00 lx sr
def QY4 (s2:List Dep):List Dep->Nat->Bool
 | [],_=>true
 | x_ :: r,i=>bif (!((x_.how==(s2.getD i Dep.zero).how)&&(x_.job==(s2.getD i Dep.zero).job))) then false else QY4 s2 r (i+1)
def Qi6 (s1_:List Dep) (s2:List Dep):Bool:=bif ((s1_.length:Int)!=(s2.length:Int)) then false else QY4 s2 s1_ 0
theorem Qwc (s1_:List Dep) (s2:List Dep) (hs0:s1_.length<=4294967296) (hs1:s2.length<=4294967296):GV 210 [depL s1_,depL s2] (Bo (Qi6 s1_ s2)):=by
 generalize hR:Qi6 s1_ s2=R;refine ga (.cons lw (.cons lw .nil)) lx (kp 6 [10,12,13,14,24]) Tryz.func210 ?_;have hk0:=hs0;obtain z7:s1_.length<=4294967296:=hs0;have hk1:=hs1;obtain z8:s2.length<=4294967296:=hs1;refine ai (fun h1=>?_) (fun h2=>?_)
 ·obtain rfl:=foll hR (ct h1 rfl);exact Q00 lx sr
 ·refine Qf0 (fun (i:Nat)=>QY4 s2 (List.drop i s1_) i=R∧i<=s1_.length) (fun i=>s1_.length - i) (fun i=>[(0,depL s1_),(1,depL s2),(4,Bo false),(12,I (s1_.length:Int)),(13,I (i:Int))]) (fun i=>[]) 0 (wk [] .nil (sl lw (sl lw (s1 (s1 (s1 .nil)))))) ⟨foll hR (cf h2 rfl),by exact omA⟩ ?_;clear hR;rintro i ⟨hR,hj⟩;(try dsimp only at hR hj);refine ai (fun h3=>?_) (fun h4=>?_)
  ·have hlt:=ltA h3;rw [Q90 Dep.zero hlt] at hR;refine dchk (by kernel_rfl) ?_;refine ai gkA ?_;refine ai gkA ?_;refine ai (fun _=>(by kernel_rfl:eqOK _ _=true)) ?_;(repeat ((first|refine ai rfl ?_|refine ai (fun _=>rfl) ?_)));refine ai (fun h5=>?_) (fun h6=>?_)
   ·obtain rfl:=foll hR (ct h5 rfl);exact Q00 lx sr
   ·exact Qj0 (i+1) (wk [] .nil (sl lw (sl lw (s1 (s1 (sv (Q70 (I_eq (wr omA)) lx) .nil)))))) omA ⟨foll hR (cf h6 rfl),by exact omA⟩
  ·rw [Qa0 (l:=s1_) (j:=i) (geA h4)] at hR;obtain rfl:=foll hR rfl;exact Q00 lx sr
def QX6 (c:Cmd) (i1:Bool):Cmd:=bif i1 then (⟨c.kind,0,⟨#[]⟩,⟨#[]⟩,⟨#[]⟩,Shape.zero,0,false,0,false,[],c.node,0,0⟩:Cmd) else bif (c.kind==10) then (⟨c.kind,0,⟨#[]⟩,⟨#[]⟩,⟨#[]⟩,Shape.zero,0,false,c.time,c.hasTime,[],0,c.nodes,c.from_⟩:Cmd) else (⟨c.kind,0,⟨#[]⟩,⟨#[]⟩,⟨#[]⟩,Shape.zero,0,false,0,false,[],0,0,0⟩:Cmd)
def Qn5 (c:Cmd) (i:Bool):Cmd:=bif i then (⟨c.kind,c.job,⟨#[]⟩,⟨#[]⟩,⟨#[]⟩,Shape.zero,0,false,0,false,[],0,0,0⟩:Cmd) else bif (c.kind==5) then (⟨c.kind,c.job,⟨#[]⟩,⟨#[]⟩,⟨#[]⟩,Shape.zero,c.prio,c.hasPrio,c.time,c.hasTime,[],0,0,0⟩:Cmd) else bif (c.kind==6) then (⟨c.kind,c.job,⟨#[]⟩,⟨#[]⟩,⟨#[]⟩,Shape.zero,0,false,0,false,[],0,c.nodes,0⟩:Cmd) else bif (c.kind==7) then QX6 c (c.kind==7) else bif (c.kind==8) then QX6 c (c.kind==8) else QX6 c (c.kind==9)
def Ql8 (c:Cmd):Cmd:=bif (c.kind==1) then { c with job:=0,time:=0,hasTime:=false,node:=0,nodes:=0,from_:=0 } else bif (c.kind==2) then Qn5 c (c.kind==2) else bif (c.kind==3) then Qn5 c (c.kind==3) else bif (c.kind==4) then Qn5 c (c.kind==4) else bif (c.kind==11) then Qn5 c (c.kind==11) else Qn5 c (c.kind==12)
theorem cmd_bare_c (c:Cmd) (hs0:c.sz):GV 144 [Cmd.a c] (Cmd.a (Ql8 c)):=by
 generalize hR:Ql8 c=R;refine ga (.cons (Cmd.low _ _) .nil) (Cmd.low _ _) (kj [1000011,1000019] 4 [8,9,32,41,58,66,73]) Tryz.func144 ?_;have hk0:=hs0;obtain ⟨z25,z26,z27,z28,z29⟩:c.name.size<=4294967296∧c.user.size<=4294967296∧c.account.size<=4294967296∧(c.shape.alts.length<=4294967296)∧c.after.length<=4294967296:=hs0;refine ai (fun h1=>?_) (fun h2=>?_)
 ·refine dchk (by kernel_rfl) ?_;(repeat ((first|refine ai rfl ?_|refine ai (fun _=>rfl) ?_)));(try (refine dchk (by kernel_rfl) ?_));(repeat ((first|refine ai rfl ?_|refine ai (fun _=>rfl) ?_)));obtain rfl:=foll hR (ct h1 rfl);exact Q00 (Cmd.low _ _) sr
 ·refine Qr1 (fun (i:Bool)=>Qn5 c i=R) (fun i=>[(1,AVal.ptr 0 0 18 0 0),(2,AVal.ptr 1 0 18 0 0),(3,AVal.ptr 2 0 18 0 0),(8,I c.kind),(32,Bo i)]) (fun i=>[(0,AObj.row 104 18 [[I c.kind,I c.job,Sg c.name,Sg c.user,Sg c.account,I c.shape.kind,altL c.shape.alts,I c.shape.min,I c.shape.max,I c.shape.wall,I c.prio,Bo c.hasPrio,I c.time,Bo c.hasTime,depL c.after,I c.node,I c.nodes,I c.from_]]),(0,AObj.row 104 18 [[I 0,I 0,Sg ⟨#[]⟩,Sg ⟨#[]⟩,Sg ⟨#[]⟩,I 0,AVal.lit (.slice none 0 0),I 0,I 0,I 0,I 0,Bo false,I 0,Bo false,AVal.lit (.slice none 0 0),I 0,I 0,I 0]]),(0,AObj.row 104 18 [[I c.kind,I 0,Sg ⟨#[]⟩,Sg ⟨#[]⟩,Sg ⟨#[]⟩,I 0,AVal.lit (.slice none 0 0),I 0,I 0,I 0,I 0,Bo false,I 0,Bo false,AVal.lit (.slice none 0 0),I 0,I 0,I 0]])]) ?_ ?_
  ·clear hR;rintro i hR;(try dsimp only at hR);refine ai (fun h3=>?_) (fun h4=>?_)
   ·obtain rfl:=foll hR (ct h3 rfl);exact Q00 (Cmd.low _ _) (Seen.agg (e1 (e1 (e1 (e1 (e1 (e1 (ev (Qq0) (e1 (e1 (e1 (e1 (e1 (e1 (e1 (ev (Qq0) (e1 (e1 (e1 .nil)))))))))))))))))))
   ·refine ai (fun h5=>?_) (fun h6=>?_)
    ·refine dchk (by kernel_rfl) ?_;(repeat ((first|refine ai rfl ?_|refine ai (fun _=>rfl) ?_)));obtain rfl:=foll hR (cf h4 (ct h5 rfl));exact Q00 (Cmd.low _ _) (Seen.agg (e1 (e1 (e1 (e1 (e1 (e1 (ev (Qq0) (e1 (e1 (e1 (e1 (e1 (e1 (e1 (ev (Qq0) (e1 (e1 (e1 .nil)))))))))))))))))))
    ·refine ai (fun h7=>?_) (fun h8=>?_)
     ·refine dchk (by kernel_rfl) ?_;(repeat ((first|refine ai rfl ?_|refine ai (fun _=>rfl) ?_)));obtain rfl:=foll hR (cf h4 (cf h6 (ct h7 rfl)));exact Q00 (Cmd.low _ _) (Seen.agg (e1 (e1 (e1 (e1 (e1 (e1 (ev (Qq0) (e1 (e1 (e1 (e1 (e1 (e1 (e1 (ev (Qq0) (e1 (e1 (e1 .nil)))))))))))))))))))
     ·refine Qr1 (fun (i1:Bool)=>QX6 c i1=R) (fun i1=>[(1,AVal.ptr 0 0 18 0 0),(2,AVal.ptr 1 0 18 0 0),(3,AVal.ptr 2 0 18 0 0),(8,I c.kind),(66,Bo i1)]) (fun i1=>[(0,AObj.row 104 18 [[I c.kind,I c.job,Sg c.name,Sg c.user,Sg c.account,I c.shape.kind,altL c.shape.alts,I c.shape.min,I c.shape.max,I c.shape.wall,I c.prio,Bo c.hasPrio,I c.time,Bo c.hasTime,depL c.after,I c.node,I c.nodes,I c.from_]]),(0,AObj.row 104 18 [[I 0,I 0,Sg ⟨#[]⟩,Sg ⟨#[]⟩,Sg ⟨#[]⟩,I 0,AVal.lit (.slice none 0 0),I 0,I 0,I 0,I 0,Bo false,I 0,Bo false,AVal.lit (.slice none 0 0),I 0,I 0,I 0]]),(0,AObj.row 104 18 [[I c.kind,I 0,Sg ⟨#[]⟩,Sg ⟨#[]⟩,Sg ⟨#[]⟩,I 0,AVal.lit (.slice none 0 0),I 0,I 0,I 0,I 0,Bo false,I 0,Bo false,AVal.lit (.slice none 0 0),I 0,I 0,I 0]])]) ?_ ?_
      ·clear hR;rintro i1 hR;(try dsimp only at hR);refine ai (fun h9=>?_) (fun h10=>?_)
       ·obtain rfl:=foll hR (ct h9 rfl);exact Q00 (Cmd.low _ _) (Seen.agg (e1 (e1 (e1 (e1 (e1 (e1 (ev (Qq0) (e1 (e1 (e1 (e1 (e1 (e1 (e1 (ev (Qq0) (e1 (e1 (e1 .nil)))))))))))))))))))
       ·refine ai (fun h11=>?_) (fun h12=>?_)
        ·refine dchk (by kernel_rfl) ?_;(repeat ((first|refine ai rfl ?_|refine ai (fun _=>rfl) ?_)));obtain rfl:=foll hR (cf h10 (ct h11 rfl));exact Q00 (Cmd.low _ _) (Seen.agg (e1 (e1 (e1 (e1 (e1 (e1 (ev (Qq0) (e1 (e1 (e1 (e1 (e1 (e1 (e1 (ev (Qq0) (e1 (e1 (e1 .nil)))))))))))))))))))
        ·obtain rfl:=foll hR (cf h10 (cf h12 rfl));exact Q00 (Cmd.low _ _) (Seen.agg (e1 (e1 (e1 (e1 (e1 (e1 (ev (Qq0) (e1 (e1 (e1 (e1 (e1 (e1 (e1 (ev (Qq0) (e1 (e1 (e1 .nil)))))))))))))))))))
      ·refine ai (fun h13=>?_) (fun h14=>?_)
       ·exact Qb0 (c.kind==7) (wk [0,1,2] (tO rfl (ts Cmd.lo) (tO rfl (ts (l1 (l1 (l1 (l1 (l1 (l1 (l1 (l1 (l1 (l1 (l1 (l1 (l1 (l1 (l1 (l1 (l1 (l1 LowL.nil))))))))))))))))))) (tO rfl (ts (l1 (l1 (l1 (l1 (l1 (l1 (l1 (l1 (l1 (l1 (l1 (l1 (l1 (l1 (l1 (l1 (l1 (l1 LowL.nil))))))))))))))))))) .nil))) (sv (Q20 0 rfl rfl) (sv (Q20 1 rfl rfl) (sv (Q20 2 rfl rfl) (s1 (s1 .nil)))))) (foll hR (cf h4 (cf h6 (cf h8 (ct h13 rfl)))))
       ·refine ai (fun h15=>?_) (fun h16=>?_)
        ·exact Qb0 (c.kind==8) (wk [0,1,2] (tO rfl (ts Cmd.lo) (tO rfl (ts (l1 (l1 (l1 (l1 (l1 (l1 (l1 (l1 (l1 (l1 (l1 (l1 (l1 (l1 (l1 (l1 (l1 (l1 LowL.nil))))))))))))))))))) (tO rfl (ts (l1 (l1 (l1 (l1 (l1 (l1 (l1 (l1 (l1 (l1 (l1 (l1 (l1 (l1 (l1 (l1 (l1 (l1 LowL.nil))))))))))))))))))) .nil))) (sv (Q20 0 rfl rfl) (sv (Q20 1 rfl rfl) (sv (Q20 2 rfl rfl) (s1 (s1 .nil)))))) (foll hR (cf h4 (cf h6 (cf h8 (cf h14 (ct h15 rfl))))))
        ·exact Qb0 (c.kind==9) (wk [0,1,2] (tO rfl (ts Cmd.lo) (tO rfl (ts (l1 (l1 (l1 (l1 (l1 (l1 (l1 (l1 (l1 (l1 (l1 (l1 (l1 (l1 (l1 (l1 (l1 (l1 LowL.nil))))))))))))))))))) (tO rfl (ts (l1 (l1 (l1 (l1 (l1 (l1 (l1 (l1 (l1 (l1 (l1 (l1 (l1 (l1 (l1 (l1 (l1 (l1 LowL.nil))))))))))))))))))) .nil))) (sv (Q20 0 rfl rfl) (sv (Q20 1 rfl rfl) (sv (Q20 2 rfl rfl) (s1 (s1 .nil)))))) (foll hR (cf h4 (cf h6 (cf h8 (cf h14 (cf h16 rfl))))))
  ·refine ai (fun h17=>?_) (fun h18=>?_)
   ·exact Qb0 (c.kind==2) (wk [0,1,2] (tO rfl (ts Cmd.lo) (tO rfl (ts (l1 (l1 (l1 (l1 (l1 (l1 (l1 (l1 (l1 (l1 (l1 (l1 (l1 (l1 (l1 (l1 (l1 (l1 LowL.nil))))))))))))))))))) (tO rfl (ts (l1 (l1 (l1 (l1 (l1 (l1 (l1 (l1 (l1 (l1 (l1 (l1 (l1 (l1 (l1 (l1 (l1 (l1 LowL.nil))))))))))))))))))) .nil))) (sv (Q20 0 rfl rfl) (sv (Q20 1 rfl rfl) (sv (Q20 2 rfl rfl) (s1 (s1 .nil)))))) (foll hR (cf h2 (ct h17 rfl)))
   ·refine ai (fun h19=>?_) (fun h20=>?_)
    ·exact Qb0 (c.kind==3) (wk [0,1,2] (tO rfl (ts Cmd.lo) (tO rfl (ts (l1 (l1 (l1 (l1 (l1 (l1 (l1 (l1 (l1 (l1 (l1 (l1 (l1 (l1 (l1 (l1 (l1 (l1 LowL.nil))))))))))))))))))) (tO rfl (ts (l1 (l1 (l1 (l1 (l1 (l1 (l1 (l1 (l1 (l1 (l1 (l1 (l1 (l1 (l1 (l1 (l1 (l1 LowL.nil))))))))))))))))))) .nil))) (sv (Q20 0 rfl rfl) (sv (Q20 1 rfl rfl) (sv (Q20 2 rfl rfl) (s1 (s1 .nil)))))) (foll hR (cf h2 (cf h18 (ct h19 rfl))))
    ·refine ai (fun h21=>?_) (fun h22=>?_)
     ·exact Qb0 (c.kind==4) (wk [0,1,2] (tO rfl (ts Cmd.lo) (tO rfl (ts (l1 (l1 (l1 (l1 (l1 (l1 (l1 (l1 (l1 (l1 (l1 (l1 (l1 (l1 (l1 (l1 (l1 (l1 LowL.nil))))))))))))))))))) (tO rfl (ts (l1 (l1 (l1 (l1 (l1 (l1 (l1 (l1 (l1 (l1 (l1 (l1 (l1 (l1 (l1 (l1 (l1 (l1 LowL.nil))))))))))))))))))) .nil))) (sv (Q20 0 rfl rfl) (sv (Q20 1 rfl rfl) (sv (Q20 2 rfl rfl) (s1 (s1 .nil)))))) (foll hR (cf h2 (cf h18 (cf h20 (ct h21 rfl)))))
     ·refine ai (fun h23=>?_) (fun h24=>?_)
      ·exact Qb0 (c.kind==11) (wk [0,1,2] (tO rfl (ts Cmd.lo) (tO rfl (ts (l1 (l1 (l1 (l1 (l1 (l1 (l1 (l1 (l1 (l1 (l1 (l1 (l1 (l1 (l1 (l1 (l1 (l1 LowL.nil))))))))))))))))))) (tO rfl (ts (l1 (l1 (l1 (l1 (l1 (l1 (l1 (l1 (l1 (l1 (l1 (l1 (l1 (l1 (l1 (l1 (l1 (l1 LowL.nil))))))))))))))))))) .nil))) (sv (Q20 0 rfl rfl) (sv (Q20 1 rfl rfl) (sv (Q20 2 rfl rfl) (s1 (s1 .nil)))))) (foll hR (cf h2 (cf h18 (cf h20 (cf h22 (ct h23 rfl))))))
      ·exact Qb0 (c.kind==12) (wk [0,1,2] (tO rfl (ts Cmd.lo) (tO rfl (ts (l1 (l1 (l1 (l1 (l1 (l1 (l1 (l1 (l1 (l1 (l1 (l1 (l1 (l1 (l1 (l1 (l1 (l1 LowL.nil))))))))))))))))))) (tO rfl (ts (l1 (l1 (l1 (l1 (l1 (l1 (l1 (l1 (l1 (l1 (l1 (l1 (l1 (l1 (l1 (l1 (l1 (l1 LowL.nil))))))))))))))))))) .nil))) (sv (Q20 0 rfl rfl) (sv (Q20 1 rfl rfl) (sv (Q20 2 rfl rfl) (s1 (s1 .nil)))))) (foll hR (cf h2 (cf h18 (cf h20 (cf h22 (cf h24 rfl))))))
theorem QTa (c:Cmd) (b:Bool):(QX6 c b).sz:=by
 cases b <;> simp only [QX6,cond_true,cond_false]
 ·cases (c.kind==10) <;> simp [Cmd.sz,Cmd.szN,Shape.szN,Shape.zero,ByteArray.size]
 ·simp [Cmd.sz,Cmd.szN,Shape.szN,Shape.zero,ByteArray.size]
theorem Qa7 (c:Cmd) (b:Bool):(Qn5 c b).sz:=by
 cases b <;> simp only [Qn5,cond_true,cond_false]
 ·cases (c.kind==5) <;> simp only [cond_true,cond_false]
  ·cases (c.kind==6) <;> simp only [cond_true,cond_false]
   ·cases (c.kind==7) <;> simp only [cond_true,cond_false]
    ·cases (c.kind==8) <;> simp only [cond_true,cond_false] <;> exact QTa _ _
    ·exact QTa _ _
   ·simp [Cmd.sz,Cmd.szN,Shape.szN,Shape.zero,ByteArray.size]
  ·simp [Cmd.sz,Cmd.szN,Shape.szN,Shape.zero,ByteArray.size]
 ·simp [Cmd.sz,Cmd.szN,Shape.szN,Shape.zero,ByteArray.size]
theorem cmd_bare_sz (c:Cmd) (h:c.sz):(Ql8 c).sz:=by
 unfold Ql8
 cases (c.kind==1) <;> simp only [cond_true,cond_false]
 ·cases (c.kind==2) <;> simp only [cond_true,cond_false]
  ·cases (c.kind==3) <;> simp only [cond_true,cond_false]
   ·cases (c.kind==4) <;> simp only [cond_true,cond_false]
    ·cases (c.kind==11) <;> simp only [cond_true,cond_false] <;> exact Qa7 _ _
    ·exact Qa7 _ _
   ·exact Qa7 _ _
  ·exact Qa7 _ _
 ·exact h
def QV1 (v:Job):Cmd:=(⟨1,0,v.name,v.user,v.account,v.shape,v.prio,true,0,false,v.after,0,0,0⟩:Cmd)
theorem Qr7 (v:Job):GV 74 [Job.a v] (Cmd.a (QV1 v)):=by
 generalize hR:QV1 v=R;refine ga (.cons (Job.low _ _) .nil) (Cmd.low _ _) (kp 3 []) Tryz.func74 ?_;obtain rfl:=foll hR rfl;exact Q00 (Cmd.low _ _) sr
theorem QC8 (l:List Alt) (hs0:l.length<=4294967296):GV 110 [altL l] (altL l):=by
 refine AGives.any' (.cons lw .nil) lw (ACalls.of_cwp (fun _=>true) Tryz.func110 rfl rfl ?_)
 obtain z1:l.length<=4294967296:=hs0
 intro b hb
 refine ai (fun h1=>?_) (fun h2=>?_)
 ·have hl:l=[]:=by
   rcases l with _|⟨x,r⟩
   ·rfl
   ·exact absurd ((hb (by simp)).symm.trans h1) (by decide)
  subst hl
  exact QEe (fun r:List Alt=>altL r) (leaf:=[]) rfl lw Qq0
 ·refine ⟨QR0 16 rfl apA,?_⟩
  exact QEe (fun r:List Alt=>altL r) (leaf:=l) rfl lw (QT0 Alt.zero _ rfl eqA lnA)
theorem Qtc (l:List Alt) (hs0:l.length<=4294967296):AMoves Tryz.prog 110 [altL l] [] 0 (AVal.own 0 0 2 0 l.length) [(0,AObj.row 121 2 (l.map Alt.cells))]:=by
 refine AMoves.of_cwp (fun _=>true) Tryz.func110 rfl rfl rfl ?_
 obtain z1:l.length<=4294967296:=hs0
 intro b hb
 refine ai (fun h1=>?_) (fun h2=>?_)
 ·have hl:l=[]:=by
   rcases l with _|⟨x,r⟩
   ·rfl
   ·exact absurd ((hb (by simp)).symm.trans h1) (by decide)
  subst hl
  refine Qs0 (fun r:List Alt=>AVal.own 0 0 2 0 r.length) (fun r:List Alt=>[(0,AObj.row 121 2 (r.map Alt.cells))]) (leaf:=[]) rfl ?_
  exact Told.pad 121 2 (Qk5 [0] rfl (by decide) (tO rfl (tl eqA) .nil) (QV0 0 rfl))
 ·refine ⟨QR0 16 rfl apA,?_⟩
  refine Qs0 (fun r:List Alt=>AVal.own 0 0 2 0 r.length) (fun r:List Alt=>[(0,AObj.row 121 2 (r.map Alt.cells))]) (leaf:=l) rfl ?_
  exact Qk5 [0] rfl (by decide) (tO rfl (tl eqA) .nil) (to 0 lnA)
def oc1 (x_:Int):Int:=(wu64 ((wu64 (BitVec.ofInt 64 (Int.fdiv x_ (2 ^ (min (Int.toNat 1) 64))) &&& BitVec.ofInt 64 6148914691236517205).toNat)+(wu64 (BitVec.ofInt 64 x_ &&& BitVec.ofInt 64 6148914691236517205).toNat)))
def oc2 (x_:Int):Int:=(wu64 ((wu64 (BitVec.ofInt 64 (Int.fdiv x_ (2 ^ (min (Int.toNat 2) 64))) &&& BitVec.ofInt 64 3689348814741910323).toNat)+(wu64 (BitVec.ofInt 64 x_ &&& BitVec.ofInt 64 3689348814741910323).toNat)))
def oc3 (x_:Int):Int:=(wu64 (BitVec.ofInt 64 (wu64 ((Int.fdiv x_ (2 ^ (min (Int.toNat 4) 64)))+x_)) &&& BitVec.ofInt 64 1085102592571150095).toNat)
def Qc6 (x_:Int):Int:=(w64 (BitVec.ofInt 64 (w64 (wu64 ((wu64 ((wu64 ((oc3 (oc2 (oc1 x_)))+(Int.fdiv (oc3 (oc2 (oc1 x_))) (2 ^ (min (Int.toNat 8) 64)))))+(Int.fdiv (wu64 ((oc3 (oc2 (oc1 x_)))+(Int.fdiv (oc3 (oc2 (oc1 x_))) (2 ^ (min (Int.toNat 8) 64))))) (2 ^ (min (Int.toNat 16) 64)))))+(Int.fdiv (wu64 ((wu64 ((oc3 (oc2 (oc1 x_)))+(Int.fdiv (oc3 (oc2 (oc1 x_))) (2 ^ (min (Int.toNat 8) 64)))))+(Int.fdiv (wu64 ((oc3 (oc2 (oc1 x_)))+(Int.fdiv (oc3 (oc2 (oc1 x_))) (2 ^ (min (Int.toNat 8) 64))))) (2 ^ (min (Int.toNat 16) 64))))) (2 ^ (min (Int.toNat 32) 64)))))) &&& BitVec.ofInt 64 127).toNat)
theorem QCb (x_:Int):GV 99 [U x_] (I (Qc6 x_)):=by
 generalize hR:Qc6 x_=R;refine ga (l1 .nil) lx (kp 3 []) Tryz.func99 ?_;refine ai gkA ?_;refine ai gkA ?_;refine ai gkA ?_;refine ai gkA ?_;refine ai gkA ?_;refine ai gkA ?_;obtain rfl:=foll hR rfl;exact Q00 lx sr
def Qd3 (n:Int):Int:=(wu64 (1*2 ^ (min (Int.toNat (wu64 n)) 64)))
theorem Qx9 (n:Int):GV 214 [I n] (U (Qd3 n)):=by
 generalize hR:Qd3 n=R;refine ga (l1 .nil) lx (kp 3 []) Tryz.func214 ?_;refine ai gkA ?_;obtain rfl:=foll hR rfl;exact Q00 lx sr
def Q78 (state:Int):Bool:=((decide (state >= 3))&&(decide (state<=7)))
theorem job_ended_c (state:Int):GV 79 [I state] (Bo (Q78 state)):=by
 generalize hR:Q78 state=R;refine ga (l1 .nil) lx (kp 3 []) Tryz.func79 ?_;obtain rfl:=foll hR rfl;exact Q00 lx sr
def QE4 (f:Node->Bool):List Node->Nat->Int
 | [],_=>(-1)
 | x_ :: r,i=>bif (f x_) then (i:Int) else QE4 f r (i+1)
def Qt2 (s:List Node) (f:Node->Bool):Int:=QE4 f s 0
def QT2 (v:Int):List Int->Nat->Int
 | [],_=>(-1)
 | x_ :: r,i=>bif (v==x_) then (i:Int) else QT2 v r (i+1)
def Qj6 (s:List Int) (v:Int):Int:=QT2 v s 0
theorem Qxc (s:List Int) (v:Int) (hs0:s.length<=4294967296):GV 168 [ints s,I v] (I (Qj6 s v)):=by
 generalize hR:Qj6 s v=R;refine ga (.cons lw (l1 .nil)) lx (kp 6 [7,8,9,16]) Tryz.func168 ?_;have hk0:=hs0;obtain z5:s.length<=4294967296:=hs0;refine Qf0 (fun (i:Nat)=>QT2 v (List.drop i s) i=R∧i<=s.length) (fun i=>s.length - i) (fun i=>[(0,ints s),(1,I v),(4,I 0),(7,I (s.length:Int)),(8,I (i:Int))]) (fun i=>[]) 0 (wk [] .nil (sl lw (s1 (s1 (s1 (s1 .nil)))))) ⟨foll hR rfl,by exact omA⟩ ?_;clear hR;rintro i ⟨hR,hj⟩;(try dsimp only at hR hj);refine ai (fun h1=>?_) (fun h2=>?_)
 ·have hlt:=ltA h1;rw [Q90 0 hlt] at hR;refine ai gkA ?_;refine ai (fun h3=>?_) (fun h4=>?_)
  ·obtain rfl:=foll hR (ct h3 rfl);exact Q00 lx sr
  ·exact Qj0 (i+1) (wk [] .nil (sl lw (s1 (s1 (s1 (sv (Q70 (I_eq (wr omA)) lx) .nil)))))) omA ⟨foll hR (cf h4 rfl),by exact omA⟩
 ·rw [Qa0 (l:=s) (j:=i) (geA h2)] at hR;obtain rfl:=foll hR rfl;exact Q00 lx sr
def Q09 (n:Int):Bool:=((decide (n >= 0))&&(decide (n<=1000000)))
theorem Qod (n:Int):GV 228 [I n] (Bo (Q09 n)):=by
 generalize hR:Q09 n=R;refine ga (l1 .nil) lx (kp 3 []) Tryz.func228 ?_;obtain rfl:=foll hR rfl;exact Q00 lx sr
def QX8 (b:Book):Bool:=(((((((decide (b.id >= 1))&&(decide (b.id<=99999)))&&(decide (b.from_ >= 0)))&&(decide (b.to > b.from_)))&&(decide (b.to<=1000000)))&&(decide (b.nodes >= 1)))&&(decide (b.nodes<=48)))
theorem QNe (b:Book):GV 197 [Book.a b] (Bo (QX8 b)):=by
 generalize hR:QX8 b=R;refine ga (.cons (Book.low _ _) .nil) lx (kp 3 []) Tryz.func197 ?_;obtain rfl:=foll hR rfl;exact Q00 lx sr
def Ql6 (s:ByteArray):Bool:=((decide ((ByteArray.size s:Int) >= 1))&&(decide ((ByteArray.size s:Int)<=64)))
theorem QJ7 (s:ByteArray):GV 128 [Sg s] (Bo (Ql6 s)):=by
 generalize hR:Ql6 s=R;refine ga (l1 .nil) lx (kp 3 []) Tryz.func128 ?_;obtain rfl:=foll hR rfl;exact Q00 lx sr
def Qm9 :List Int->Nat->Int
 | [],_=>0
 | x_ :: r,i=>bif (x_ != 0) then x_ else Qm9 r (i+1)
def Qwa (vals:List Int):Int:=Qm9 vals 0
theorem Qkd (vals:List Int) (hs0:vals.length<=4294967296):GV 198 [ints vals] (I (Qwa vals)):=by
 generalize hR:Qwa vals=R;refine ga (.cons lw .nil) lx (kp 6 [6,7,8,9,14]) Tryz.func198 ?_;have hk0:=hs0;obtain z5:vals.length<=4294967296:=hs0;refine Qf0 (fun (i:Nat)=>Qm9 (List.drop i vals) i=R∧i<=vals.length) (fun i=>vals.length - i) (fun i=>[(2,I 0),(3,I 0),(6,ints vals),(7,I (vals.length:Int)),(8,I (i:Int))]) (fun i=>[]) 0 (wk [] .nil (s1 (s1 (sl lw (s1 (s1 .nil)))))) ⟨foll hR rfl,by exact omA⟩ ?_;clear hR;rintro i ⟨hR,hj⟩;(try dsimp only at hR hj);refine ai (fun h1=>?_) (fun h2=>?_)
 ·have hlt:=ltA h1;rw [Q90 0 hlt] at hR;refine ai gkA ?_;refine ai (fun h3=>?_) (fun h4=>?_)
  ·obtain rfl:=foll hR (ct h3 rfl);exact Q00 lx sr
  ·exact Qj0 (i+1) (wk [] .nil (s1 (s1 (sl lw (s1 (sv (Q70 (I_eq (wr omA)) lx) .nil)))))) omA ⟨foll hR (cf h4 rfl),by exact omA⟩
 ·rw [Qa0 (l:=vals) (j:=i) (geA h2)] at hR;obtain rfl:=foll hR rfl;exact Q00 lx sr
end Go.Proofs.YtjpgfmbccohngaaGreatDoor
