/-
  Ways through maps: one round, whatever entry comes. Program-independent; no condition.
  Short names for what printed proofs say often. Program-independent.
  Loops and joins whose variables are told one by one. Program-independent.
  A round's body in the frame of a range over a function: what the plain walk shows of a region holds there too. Program-independent.
  The data of the program as Lean structures, and their cells. Definitions; no condition.
  Small facts on bytes and runes that contracts lean on. No condition beyond those that stand in each.
  strings.Builder: what copyCheck and String do, in the world. No condition but that the builder lies there.
  strings.Builder: contracts over objects. No condition beyond those that stand in each.
  strings.Builder: String. No condition beyond those that stand in each.
  shape.sizes: the iterator's contract: it yields the sizes from the greatest down. The bounds are those of a shape that may be.
  Small proofs that stand in many places, each once: theorems whose premise is proved by the tactic in their statement.
-/
import Derived.Test.YtigcpfbpmnppcaaGreatDoorH6
import Derived.RangeFuncFrom
import Derived.RangeFuncCalls
import Derived.RangeFuncLeaves
import Derived.TacticsIn
import Derived.Test.YtigcpfbpmnppcaaGreatDoorProg
import Derived.Laws.RangeString
import Derived.Laws.RangeAny
import Derived.Lib.Strings
import Derived.Lib.Slices
import Derived.Lib.Walk
import Derived.Lib.Bytealg
import Derived.Shelf.Strings.BuilderX
import Derived.Shelf.RegionOpenPlain
import Derived.Lib.Builder
import Derived.Lib.AppendStr
import Derived.Lib.UnsafeStr
import Derived.Lib.MakeNoZero
import Derived.WalkKit
import Derived.Laws.Externs
import Derived.Laws.IdiomCopy
import Derived.Laws.BitsLemmas
import Derived.KernelRfl
import Derived.RangeFuncBound
import Derived.Shelf.Abstract
import Derived.Shelf.RegionOpen
import Derived.OwnWalkIn
import Derived.TacticsInMore
import Derived.LoopNIn
import Derived.LoopIn
namespace Go.Fw
set_option linter.unusedSimpArgs false
set_option linter.unusedVariables false
variable {α β : Type} {ek : α -> Value} {ev : β -> AVal}
theorem mapEs_mem {k : Value} {x : AVal} {st : Nat} (d : α × β) : ∀ {l : List (α × β)} {s : Nat}, (k, x, st) ∈ mapEs ek ev s l -> ∃ j, st = s + j ∧ j < l.length ∧ k = ek (l.getD j d).1 ∧ x = ev (l.getD j d).2
 | [], s, h => by simp [mapEs] at h
 | p :: l, s, h => by
  simp only [mapEs, List.mem_cons, Prod.mk.injEq] at h
  rcases h with ⟨rfl, rfl, rfl⟩ | h
  ·exact ⟨0, by simp, by simp, by simp, by simp⟩
  ·obtain ⟨j, rfl, hj, rfl, rfl⟩ := mapEs_mem d h
   exact ⟨j + 1, by omega, by simp; omega, by simp, by simp⟩
theorem mapEs_get (d : α × β) : ∀ {l : List (α × β)} {s j : Nat}, j < l.length -> (ek (l.getD j d).1, ev (l.getD j d).2, s + j) ∈ mapEs ek ev s l
 | [], s, j, h => absurd h (by simp)
 | p :: l, s, 0, h => by simp [mapEs]
 | p :: l, s, j + 1, h => by
  have := mapEs_get d (l := l) (s := s + 1) (j := j) (by simpa using h)
  rw [show s + 1 + j = s + (j + 1) by omega] at this
  simp only [mapEs, List.mem_cons]
  exact Or.inr (by simpa using this)
theorem mapEs_findB (d : α × β) : ∀ {l : List (α × β)} {s j : Nat}, j < l.length -> findB (s + j) (mapEs ek ev s l) = some (ek (l.getD j d).1, ev (l.getD j d).2)
 | [], s, j, h => absurd h (by simp)
 | p :: l, s, 0, h => by simp [mapEs, findB]
 | p :: l, s, j + 1, h => by
  have := mapEs_findB d (l := l) (s := s + 1) (j := j) (by simpa using h)
  rw [show s + 1 + j = s + (j + 1) by omega] at this
  have hb : Nat.beq s (s + (j + 1)) = false := by
   cases hq : Nat.beq s (s + (j + 1)) with
   | false => rfl
   | true => have := Nat.eq_of_beq_eq_true hq; omega
  simp only [mapEs, findB, hb]
  simpa using this
theorem map_round {l : List (α × β)} (d : α × β) {seen : Array Nat} {A : Value -> AVal -> Nat -> Prop} {B : Prop}
  (hA : ∀ j, j < l.length -> seen.contains j = false -> A (ek (l.getD j d).1) (ev (l.getD j d).2) j) (hB : (∀ j, j < l.length -> seen.contains j = true) -> B) :
  ((mapEs ek ev 0 l).all (fun e => decide (e.2.2 < l.length)) && (seen.isEmpty || (mapEs ek ev 0 l).isEmpty || !((mapEs ek ev 0 l).all fun e => decide (e.2.2 >= l.length)))) = true ∧
  (∀ k x st, (k, x, st) ∈ (mapEs ek ev 0 l).filter (fun e => !seen.contains e.2.2) -> A k x st) ∧ ((mapEs ek ev 0 l).filter (fun e => !seen.contains e.2.2) = [] -> B) := by
 have hlt : ∀ e ∈ mapEs ek ev 0 l, e.2.2 < l.length := by
  rintro ⟨k, x, st⟩ he
  obtain ⟨j, rfl, hj, _, _⟩ := mapEs_mem d he
  simpa using hj
 refine ⟨?_, fun k x st h => ?_, fun h => hB fun j hj => ?_⟩
 ·rw [Bool.and_eq_true]
  refine ⟨List.all_eq_true.2 fun e he => decide_eq_true (hlt e he), ?_⟩
  cases hm : mapEs ek ev 0 l with
  | nil => simp
  | cons e r =>
   have h1 := hlt e (by rw [hm]; exact List.mem_cons_self)
   rw [Bool.or_eq_true]
   right
   simp only [List.all_cons, Bool.not_eq_true', Bool.and_eq_false_iff]
   left
   exact decide_eq_false (by omega)
 ·obtain ⟨h1, h2⟩ := List.mem_filter.1 h
  obtain ⟨j, rfl, hj, rfl, rfl⟩ := mapEs_mem d h1
  simp only [Nat.zero_add] at h2 ⊢
  exact hA j hj (by simpa using h2)
 ·have h1 := mapEs_get (ek := ek) (ev := ev) d (s := 0) hj
  cases hc : seen.contains j with
  | true => rfl
  | false =>
   have : (ek (l.getD j d).1, ev (l.getD j d).2, 0 + j) ∈ (mapEs ek ev 0 l).filter (fun e => !seen.contains e.2.2) := List.mem_filter.2 ⟨h1, by show (!seen.contains (0 + j)) = true; rw [Nat.zero_add, hc]; rfl⟩
   rw [h] at this
   cases this
theorem entry_map {l : List (α × β)} (d : α × β) {objs : Objs} {i ob since c j : Nat} {seen : Array Nat} (hi : objs[i]? = some (0, .other (.mapIter ob since (seen.push j) c))) (hm : mapObj objs ob = some (mapEs ek ev 0 l, c)) (hj : j < l.length) :
  entryA (.ptr i 0 1 0 0) objs = some (.tup [.lit (ek (l.getD j d).1), ev (l.getD j d).2]) := by
 unfold entryA
 simp only [hi, hm, Array.back?_push]
 have h1 : Nat.beq c c = true := Nat.beq_refl c
 have h2 := mapEs_findB (ek := ek) (ev := ev) d (s := 0) hj
 rw [Nat.zero_add] at h2
 rw [h1, h2]
def unseen (n : Nat) (seen : Array Nat) : Nat := ((List.range n).filter fun j => !seen.contains j).length
theorem unseen_push {n j : Nat} {seen : Array Nat} (hj : j < n) (hs : seen.contains j = false) : unseen n (seen.push j) < unseen n seen := by
 unfold unseen
 have h1 : ((List.range n).filter fun i => !(seen.push j).contains i) = (((List.range n).filter fun i => !seen.contains i).filter fun i => !(i == j)) := by
  rw [List.filter_filter]
  congr 1
  funext i
  rw [Array.contains_push]
  cases seen.contains i <;> cases h : (i == j) <;> simp_all
 rw [h1]
 refine List.length_filter_lt_length_iff_exists.2 ⟨j, List.mem_filter.2 ⟨List.mem_range.2 hj, by show (!seen.contains j) = true; rw [hs]; rfl⟩, by simp⟩
theorem all_f {l : List (α × β)} {d : α × β} {p : α × β -> Bool} {j : Nat} (hj : j < l.length) (h : p (l.getD j d) = false) : l.all p = false := by
 rw [List.all_eq_false]
 have e : l.getD j d = l[j] := by simp [List.getD, List.getElem?_eq_getElem hj]
 exact ⟨l[j], List.getElem_mem hj, by rw [← e, h]; simp⟩
theorem all_t {l : List (α × β)} {d : α × β} {p : α × β -> Bool} {seen : Array Nat} (hs : ∀ j, j < l.length -> seen.contains j = true) (h : ∀ j, j < l.length -> seen.contains j = true -> p (l.getD j d) = true) : l.all p = true := by
 rw [List.all_eq_true]
 intro e he
 obtain ⟨j, hj, rfl⟩ := List.getElem_of_mem he
 have := h j hj (hs j hj)
 simpa [List.getD, List.getElem?_eq_getElem hj] using this
theorem seen_push {l : List (α × β)} {d : α × β} {p : α × β -> Bool} {seen : Array Nat} {j : Nat} (h : ∀ i, i < l.length -> seen.contains i = true -> p (l.getD i d) = true) (hp : p (l.getD j d) = true) : ∀ i, i < l.length -> (seen.push j).contains i = true -> p (l.getD i d) = true := by
 intro i hi hc
 rw [Array.contains_push, Bool.or_eq_true] at hc
 rcases hc with hc | hc
 ·exact h i hi hc
 ·rw [eq_of_beq hc]; exact hp
theorem low_mapEs {n : Nat} {l : List (α × β)} {c : Nat} (h : ∀ x, Low n (ev x)) : LowObj n (.other (.map (mapEs ek ev 0 l) c)) := by
 rintro ⟨k, x, st⟩ he
 cases l with
 | nil => simp [mapEs] at he
 | cons p r =>
  obtain ⟨j, _, _, _, rfl⟩ := mapEs_mem p he
  exact h _
theorem set_map_same {α : Type} {c : α -> List AVal} {l : List α} {i : Nat} {y : List AVal} (d : α) (j : Nat) (e : i = j) (h : j < l.length) (hy : y = c (l.getD j d)) : (l.map c).set i y = l.map c := by
 subst e hy
 rw [show c (l.getD i d) = (l.map c)[i]'(by simpa using h) by simp [List.getD, List.getElem?_eq_getElem h]]
 exact List.set_getElem_self _
theorem dn_sel {m : List (Nat × Nat)} {i o v k a b : Nat} (h : m[i]? = some (o, v)) : Dn m (.sel i 0 k a b) (.sel o v k a b) := dn_ren (.sel _ _ _ _ _ _ h)
theorem sel_of_ptr {K : Ctx} {o ver k i j : Nat} {v : Value} (h : Rep K (.ptr o ver k i j) v) : Rep K (.sel o ver k i j) v := by
 cases h with
 | ptr _ _ _ _ _ ho hv => exact .selPtr _ _ _ _ _ ho hv
theorem turn_selptr {objs : Objs} {n : Nat} {ks : List Nat} {o ver k i' j : Nat} {p : AObj} (i : Nat) (hi : ks[i]? = some o) (hp : objs[o]? = some (ver, p)) : TurnV objs n ks (.ptr o ver k i' j) (.sel (n + i) 0 k i' j) := fun K w v hm hr => sel_of_ptr (turn_ptr i hi hp K w v hm hr)
theorem turn_selnil {objs : Objs} {n : Nat} {ks : List Nat} {o k i' j : Nat} : TurnV objs n ks (.lit (.pointer none)) (.sel o 0 k i' j) := by
 intro K w v hm hr
 cases hr with
 | lit => exact .selNil _ _ _ _ _
theorem turn_sel {objs : Objs} {n : Nat} {ks : List Nat} {o ver k i' j : Nat} {p : AObj} (i : Nat) (hi : ks[i]? = some o) (hp : objs[o]? = some (ver, p)) : TurnV objs n ks (.sel o ver k i' j) (.sel (n + i) 0 k i' j) := by
 intro K w v hm hr
 cases hr with
 | selNil => exact .selNil _ _ _ _ _
 | selPtr _ _ _ _ _ ho hv => exact turn_selptr i hi hp K w _ hm (.ptr _ _ _ _ _ ho hv)
theorem own_of_buf {K : Ctx} {o ver k len : Nat} {v : Value} (h : Rep K (.buf o ver k len) v) : Rep K (.own o ver k 0 len) v := by
 cases h with
 | bufNil _ _ _ ho hv => exact .ownNil _ _ _ ho hv
 | bufSome _ _ _ _ c ho hv hl hc hC => exact .own _ _ _ _ _ ho hv _ c hl (by omega) (fun _ => by simp)
theorem buf_of_own {K : Ctx} {o ver k len : Nat} {v : Value} (hn : len ≠ 0) (h : Rep K (.own o ver k 0 len) v) : Rep K (.buf o ver k len) v := by
 cases h with
 | ownNil _ _ _ ho hv => exact absurd rfl hn
 | own _ _ _ _ _ ho hv a c hl hC ha =>
  have e := ha (by omega)
  subst e
  have := Rep.bufSome (K := K) o ver k len c ho hv hl (by omega) (by omega)
  simpa using this
theorem dn_buf {m : List (Nat × Nat)} {i o v k b : Nat} (h : m[i]? = some (o, v)) : Dn m (.own i 0 k 0 b) (.buf o v k b) := by
 intro K L hA hM u hr
 exact dn_own h hA hM (own_of_buf hr)
theorem turn_ownbuf {objs : Objs} {n : Nat} {ks : List Nat} {o ver k len len' : Nat} {p : AObj} (i : Nat) (hi : ks[i]? = some o) (hp : objs[o]? = some (ver, p)) (e : len = len') (hn : len' ≠ 0) : TurnV objs n ks (.own o ver k 0 len) (.buf (n + i) 0 k len') := by
 subst e
 intro K w v hm hr
 exact buf_of_own hn (turn_own i hi hp rfl K w v hm hr)
theorem turn_nilbuf {objs : Objs} {n : Nat} {ks : List Nat} {o k : Nat} (i : Nat) (hi : ks[i]? = some o) : TurnV objs n ks (.lit (.slice none 0 0)) (.buf (n + i) 0 k 0) := by
 intro K w v hm hr
 have h := turn_nilown (n := n) (k := k) i hi K w v hm hr
 have e := rep_lit hr
 subst e
 cases h with
 | ownNil _ _ _ ho hv => exact .bufNil _ _ _ ho hv
theorem turn_buf {objs : Objs} {n : Nat} {ks : List Nat} {o ver k len : Nat} {p : AObj} (i : Nat) (hi : ks[i]? = some o) (hp : objs[o]? = some (ver, p)) : TurnV objs n ks (.buf o ver k len) (.buf (n + i) 0 k len) := by
 intro K w v hm hr
 have h := turn_own (n := n) i hi hp rfl K w v hm (own_of_buf hr)
 cases hr with
 | bufNil _ _ _ ho hv =>
  cases h with
  | ownNil _ _ _ ho hv => exact .bufNil _ _ _ ho hv
 | bufSome _ _ _ _ c ho hv hl hc hC =>
  cases h with
  | own _ _ _ _ _ ho hv a c hl hC ha =>
   have e := ha hc
   rw [e]
   have := Rep.bufSome (K := K.shed w objs n ks) (n + i) 0 k len c ho hv hl hc (by omega)
   simpa using this
theorem dn_any {m : List (Nat × Nat)} {x : AVal} : Dn m .any x := fun _ _ _ _ => .any _
theorem dn_bufbuf {m : List (Nat × Nat)} {i o v k b : Nat} (h : m[i]? = some (o, v)) : Dn m (.buf i 0 k b) (.buf o v k b) := by
 intro K L hA hM u hr
 have h' := dn_own h hA hM (own_of_buf hr)
 cases hr with
 | bufNil _ _ _ ho hv =>
  cases h' with
  | ownNil _ _ _ ho hv => exact .bufNil _ _ _ ho hv
 | bufSome _ _ _ _ c ho hv hl hc hC =>
  cases h' with
  | own _ _ _ _ _ ho hv a c hl hC ha =>
   have e := ha hc
   rw [e]
   have := Rep.bufSome (K := K) i 0 k b c ho hv hl hc (by omega)
   simpa using this
theorem turn_miter {objs : Objs} {n : Nat} {ks : List Nat} {o since last : Nat} {seen : Array Nat} {p : AObj} (i : Nat) (hi : ks[i]? = some o) (hp : objs[o]? = some (0, p)) : TurnO objs n ks (.other (.mapIter o since seen last)) (.other (.mapIter (n + i) since seen last)) := .mapIter o i since seen last p hi hp
end Go.Fw
namespace Go.Fw
set_option linter.unusedSimpArgs false
set_option linter.unusedVariables false
open Go.RowKit
theorem ct {α : Type} {c : Bool} {a b z : α} (h : c = true) (k : a = z) : (bif c then a else b) = z := (cond_t h).trans k
theorem cf {α : Type} {c : Bool} {a b z : α} (h : c = false) (k : b = z) : (bif c then a else b) = z := (cond_f h).trans k
theorem ai {a b : Prop} (h : a) (k : b) : a ∧ b := ⟨h, k⟩
theorem us {P : Program} {f : FuncId} {args : List AVal} {objs : Objs} {r : AVal} {o : Objs} {K : AVal -> Objs -> Prop} (h : ACalls P f args objs fun r' o' => r' = r ∧ o' = o) (k : K r o) : ACalls P f args objs K := ACalls.use h k
theorem ga {P : Program} {f : FuncId} {fn : Func} {c : Code} {args : List AVal} {r : AVal} (ha : LowL 0 args) (hl : Low 0 r) (keep : Nat -> Bool) (hf : P.funcs[f]? = some fn)
  (h : cwp P fn.ntmps ([] : Objs).length keep c (CRet P fn ([] : Objs).length fun r' o => r' = r ∧ o = []) (initSlots 0 args) []) (hb : fn.body = some c := by exact rfl) (hlen : Nat.ble args.length fn.ntmps = true := by exact rfl) : ∀ objs, AGives P f args objs r :=
 AGives.any' ha hl (ACalls.of_cwp keep hf hb hlen h)
theorem mo {P : Program} {f : FuncId} {fn : Func} {c : Code} {args : List AVal} {objs : Objs} {n0 : Nat} {r0 : AVal} {objs0 : Objs} (keep : Nat -> Bool) (hf : P.funcs[f]? = some fn)
  (h : cwp P fn.ntmps n0 keep c (CRet P fn n0 fun r o => r = r0 ∧ o = objs0) (initSlots 0 args) objs) (hb : fn.body = some c := by exact rfl) (hlen : Nat.ble args.length fn.ntmps = true := by exact rfl) (hn0 : Nat.ble n0 objs.length = true := by exact rfl) : AMoves P f args objs n0 r0 objs0 :=
 AMoves.of_cwp keep hf hb hlen hn0 h
theorem rq {n0 : Nat} {r0 X : AVal} {o Y : Objs} (h : Told n0 r0 o X Y) : ∃ r objs', Told n0 r0 o r objs' ∧ (r = X ∧ objs' = Y) := ⟨X, Y, h, rfl, rfl⟩
theorem fo2 {α β : Type} (F : α -> β) (b : α) {a : α} {R : β} (h : F a = R) (e : a = b) : F b = R := e ▸ h
theorem sr {o : Objs} {r : AVal} : Seen o r r := Seen.refl _ _
section
variable {P : Program} {f : FuncId} {args : List AVal} {objs o : Objs} {r : AVal}
theorem u2 {K : AVal -> Objs -> Prop} (h : ACalls P f args objs fun a b => a = r ∧ b = o) (k : K r o) : ∃ r' o', ACalls P f args objs (fun a b => a = r' ∧ b = o') ∧ K r' o' := ⟨r, o, h, k⟩
theorem u3 {g : Bool} {K : AVal -> Objs -> Prop} (h : ACalls P f args objs fun a b => a = r ∧ b = objs) (k : K r objs) : ∃ r' o', (g = true -> ACalls P f args objs (fun a b => a = r' ∧ b = o')) ∧ (g = false -> o' = objs) ∧ K r' o' := ⟨r, objs, fun _ => h, fun _ => rfl, k⟩
end
def inL (t : Nat) : List Nat -> Bool
 | [] => false
 | a :: r => bif Nat.beq t a then true else inL t r
def kp (n : Nat) (l : List Nat) (t : Nat) : Bool := bif Nat.ble 1000000 t then true else bif Nat.blt t n then true else inL t l
def kj (js : List Nat) (n : Nat) (l : List Nat) (t : Nat) : Bool := bif inL t js then false else kp n l t
class LowC {α : Type} (c : α -> List AVal) : Prop where
 low : ∀ n x, LowL n (c x)
instance : LowC (fun n : Int => [I n]) := ⟨fun _ _ => lowL1 rfl⟩
instance : LowC (fun n : Int => [Y n]) := ⟨fun _ _ => lowL1 rfl⟩
instance : LowC (fun n : Int => [J n]) := ⟨fun _ _ => lowL1 rfl⟩
instance : LowC (fun n : Int => [U n]) := ⟨fun _ _ => lowL1 rfl⟩
instance : LowC (fun n : ByteArray => [Sg n]) := ⟨fun _ _ => lowL1 rfl⟩
instance : LowC (fun n : Bool => [Bo n]) := ⟨fun _ _ => lowL1 rfl⟩
theorem lw {α : Type} {k : Nat} {c : α -> List AVal} [h : LowC c] {d : α} {l : List α} {n : Nat} : Low n (listA k c d l) := listA_low' (h.low n)
theorem lx {n : Nat} {x : AVal} (h : low2 x = true := by exact rfl) : Low n x := low2_sound h
theorem l1 {n : Nat} {x : AVal} {xs : List AVal} (t : LowL n xs) (h : low2 x = true := by exact rfl) : LowL n (x :: xs) := .cons (low2_sound h) t
theorem lv {n : Nat} {x : AVal} {xs : List AVal} (h : Low n x) (t : LowL n xs) : LowL n (x :: xs) := .cons h t
section
variable {objs : Objs} {n : Nat} {ks : List Nat}
theorem t1 {x : AVal} (h : low2 x = true := by exact rfl) : TurnV objs n ks x x := turn_low (low2_sound h)
theorem to {o ver k off len len' : Nat} {p : AObj} (i : Nat) (hl : len = len') (hi : ks[i]? = some o := by exact rfl) (hp : objs[o]? = some (ver, p) := by exact rfl) : TurnV objs n ks (.own o ver k off len) (.own (n + i) 0 k off len') := turn_own i hi hp hl
theorem sv {s : List (Nat × AVal)} {t : Nat} {v : AVal} {r : List (Nat × AVal)} (h : TurnV objs n ks (getSlot s t) v) (hr : SubT objs n ks s r) : SubT objs n ks s ((t, v) :: r) := .cons _ _ _ h hr
theorem s1 {s : List (Nat × AVal)} {t : Nat} {v : AVal} {r : List (Nat × AVal)} (hr : SubT objs n ks s r) (e : getSlot s t = v := by exact rfl) (h : low2 v = true := by exact rfl) : SubT objs n ks s ((t, v) :: r) := .cons _ _ _ (by rw [e]; exact turn_low (low2_sound h)) hr
theorem sl {s : List (Nat × AVal)} {t : Nat} {v : AVal} {r : List (Nat × AVal)} (h : Low 0 v) (hr : SubT objs 0 ks s r) (e : getSlot s t = v := by exact rfl) : SubT objs 0 ks s ((t, v) :: r) := .cons _ _ _ (by rw [e]; exact turn_low h) hr
theorem cv {x y : AVal} {xs ys : List AVal} (h : TurnV objs n ks x y) (t : TurnCs objs n ks xs ys) : TurnCs objs n ks (x :: xs) (y :: ys) := .cons _ _ _ _ h t
theorem c1 {x : AVal} {xs ys : List AVal} (t : TurnCs objs n ks xs ys) (h : low2 x = true := by exact rfl) : TurnCs objs n ks (x :: xs) (x :: ys) := .cons _ _ _ _ (turn_low (low2_sound h)) t
theorem tO {o : Nat} {os : List Nat} {p : Nat × AObj} {q : AObj} {r : Objs} (hp : objs[o]? = some p) (hq : TurnO objs n ks p.2 q) (hr : TurnL objs n ks os r) : TurnL objs n ks (o :: os) ((0, q) :: r) := .cons _ _ _ _ _ hp hq hr
theorem ts {t : TypeId} {k : Nat} {c : List AVal} (h : LowL n c) : TurnO objs n ks (.row t k [c]) (.row t k [c]) := turn_same rfl (low_es1 h)
theorem tl {α : Type} {t : TypeId} {k : Nat} {c : α -> List AVal} [h : LowC c] {l : List α} {es : List (List AVal)} (e : es = l.map c) : TurnO objs n ks (.row t k es) (.row t k (l.map c)) := turn_same e (low_map (h.low n))
theorem wk {nt n0 : Nat} {objs : Objs} {s s' : List (Nat × AVal)} {new : Objs} (ks : List Nat) (hT : TurnL objs 0 ks ks new) (hs : SubT objs 0 ks s s') (hid : idOK n0 ks objs = true := by exact rfl) (hnd : ks.Nodup := by decide) : Weaker nt n0 ⟨s, objs⟩ ⟨s', new⟩ := weaker_turnI ks hid hnd hT hs
theorem tt {n0 : Nat} {objs : Objs} {r0 r : AVal} {new : Objs} (ks : List Nat) (hT : TurnL objs 0 ks ks new) (hr : TurnV objs 0 ks r0 r) (hid : idOK n0 ks objs = true := by exact rfl) (hnd : ks.Nodup := by decide) : Told n0 r0 objs r new := told_turnI ks hid hnd hT hr
end
section
variable {m : List (Nat × Nat)}
theorem dv {y x : AVal} {ys xs : List AVal} (h : Dn m y x) (t : DnL m ys xs) : DnL m (y :: ys) (x :: xs) := .cons _ _ _ _ h t
theorem d1 {x : AVal} {ys xs : List AVal} (t : DnL m ys xs) (h : low2 x = true := by exact rfl) : DnL m (x :: ys) (x :: xs) := .cons _ _ _ _ (dn_low (low2_sound h)) t
theorem dl {x : AVal} {ys xs : List AVal} (h : Low 0 x) (t : DnL m ys xs) : DnL m (x :: ys) (x :: xs) := .cons _ _ _ _ (dn_low h) t
theorem dp {i o v k a b : Nat} {ys xs : List AVal} (t : DnL m ys xs) (h : m[i]? = some (o, v) := by exact rfl) : DnL m (.ptr i 0 k a b :: ys) (.ptr o v k a b :: xs) := .cons _ _ _ _ (dn_ptr h) t
theorem dO {Y X : AObj} {ys : Objs} {xs : List AObj} (h : DnO m Y X) (t : DnOs m ys xs) : DnOs m ((0, Y) :: ys) (X :: xs) := .cons _ _ _ _ h t
theorem ds {t : TypeId} {k : Nat} {c : List AVal} (h : LowL 0 c) : DnO m (.row t k [c]) (.row t k [c]) := .same _ (low_es1 h)
theorem dr {α : Type} {t : TypeId} {k : Nat} {c : α -> List AVal} [h : LowC c] {l : List α} {es' : List (List AVal)} (e : es' = l.map c) : DnO m (.row t k (l.map c)) (.row t k es') := dn_row e (low_map (h.low 0))
theorem dc {t : TypeId} {k : Nat} {ys xs : List AVal} (h : DnL m ys xs) : DnO m (.row t k [ys]) (.row t k [xs]) := .row1 _ _ _ _ h
theorem rv {y x : AVal} {ys xs : List AVal} (h : Ren m y x) (t : RenL m ys xs) : RenL m (y :: ys) (x :: xs) := .cons _ _ _ _ h t
theorem r1 {x : AVal} {ys xs : List AVal} (t : RenL m ys xs) (h : low2 x = true := by exact rfl) : RenL m (x :: ys) (x :: xs) := .cons _ _ _ _ (.low _ (low2_sound h)) t
theorem rO {Y X : AObj} {ys : Objs} {xs : List AObj} (h : RenO m Y X) (t : RenOs m ys xs) : RenOs m ((0, Y) :: ys) (X :: xs) := .cons _ _ _ _ h t
theorem re {t : TypeId} {k : Nat} {c : List AVal} (h : LowL 0 c) : RenO m (.row t k [c]) (.row t k [c]) := .same _ (low_es1 h)
theorem rr {α : Type} {t : TypeId} {k : Nat} {c : α -> List AVal} [h : LowC c] {l : List α} : RenO m (.row t k (l.map c)) (.row t k (l.map c)) := .same _ (low_map (h.low 0))
theorem rc {t : TypeId} {k : Nat} {ys xs : List AVal} (h : RenL m ys xs) : RenO m (.row t k [ys]) (.row t k [xs]) := .row1 _ _ _ _ h
theorem rx {x : AVal} (h : low2 x = true := by exact rfl) : Ren m x x := .low _ (low2_sound h)
theorem rp {i k a b : Nat} (o v : Nat) (h : m[i]? = some (o, v)) : Ren m (.ptr i 0 k a b) (.ptr o v k a b) := .ptr _ _ _ _ _ _ h
theorem rw_ {i k a b : Nat} (o v : Nat) (h : m[i]? = some (o, v)) : Ren m (.own i 0 k a b) (.own o v k a b) := .own _ _ _ _ _ _ h
end
theorem mv {P : Program} {f : FuncId} {args args1 : List AVal} {base objs base' : Objs} {n0 : Nat} {r rc : AVal} {xs : List AObj} (ks : List Nat) (h : AMoves P f args base n0 r base')
  (hin : DnOs (mIn ks objs) base (picks ks objs)) (hargs : DnL (mIn ks objs) args args1) (hout : RenOs (mOut ks n0 objs (base'.length - n0)) base' xs) (hr : Ren (mOut ks n0 objs (base'.length - n0)) r rc)
  (hnd : ks.Nodup := by decide) (hlt : (ks.all fun k => Nat.blt k objs.length) = true := by exact rfl) (hn0 : Nat.ble n0 ks.length = true := by exact rfl) (hn1 : Nat.ble n0 base'.length = true := by exact rfl) (hlive : allLive (picks ks objs) = true := by exact rfl) :
  ACalls P f args1 objs fun r' o' => r' = rc ∧ o' = moved ks n0 xs objs := AMoves.on ks h hnd hlt hn0 hn1 hin hlive hargs hout hr
section
variable {objs : Objs}
theorem ev {x y : AVal} {xs ys : List AVal} (h : Seen objs x y) (t : SeenL objs xs ys) : SeenL objs (x :: xs) (y :: ys) := .cons _ _ _ _ h t
theorem e1 {x : AVal} {xs ys : List AVal} (t : SeenL objs xs ys) : SeenL objs (x :: xs) (x :: ys) := .cons _ _ _ _ (Seen.refl _ _) t
theorem av {x y : AVal} {xs ys : List AVal} (h : AsA x y) (t : AsL xs ys) : AsL (x :: xs) (y :: ys) := .cons _ _ _ _ h t
theorem a1 {x : AVal} {xs ys : List AVal} (t : AsL xs ys) : AsL (x :: xs) (x :: ys) := .cons _ _ _ _ (AsA.refl _) t
end
end Go.Fw
namespace Go.Fw
set_option linter.unusedSimpArgs false
set_option linter.unusedVariables false
open Go.RowKit
def LoopI1 {A0 : Type} (inv : A0 -> Prop) (ms : A0 -> Nat) (sl : A0 -> List (Nat × AVal)) (ob : A0 -> Objs) : Nat -> List (Nat × AVal) -> Objs -> Prop := fun m s o => ∃ x0, inv x0 ∧ m = ms x0 ∧ s = sl x0 ∧ o = ob x0
theorem loop_next1 {A0 : Type} {inv : A0 -> Prop} {ms : A0 -> Nat} {sl : A0 -> List (Nat × AVal)} {ob : A0 -> Objs} {nt n0 m : Nat} {s : St} (x0 : A0) (hw : Weaker nt n0 s ⟨sl x0, ob x0⟩) (hlt : ms x0 < m) (hi : inv x0) : ∃ m' s'' o'', m' < m ∧ Weaker nt n0 s ⟨s'', o''⟩ ∧ LoopI1 inv ms sl ob m' s'' o'' := ⟨_, _, _, hlt, hw, x0, hi, rfl, rfl, rfl⟩
theorem loop_start1 {A0 : Type} (inv : A0 -> Prop) (ms : A0 -> Nat) (sl : A0 -> List (Nat × AVal)) (ob : A0 -> Objs) (x0 : A0) {nt n0 : Nat} {s : St} {B : (Nat -> List (Nat × AVal) -> Objs -> Prop) -> Nat -> List (Nat × AVal) -> Objs -> Prop} (hw : Weaker nt n0 s ⟨sl x0, ob x0⟩) (hi : inv x0) (hb : ∀ x0, inv x0 -> B (LoopI1 inv ms sl ob) (ms x0) (sl x0) (ob x0)) : ∃ I n s1 o1, Weaker nt n0 s ⟨s1, o1⟩ ∧ I n s1 o1 ∧ ∀ m s o, I m s o -> B I m s o :=
 ⟨LoopI1 inv ms sl ob, _, _, _, hw, ⟨x0, hi, rfl, rfl, rfl⟩, by rintro _ _ _ ⟨x0, hy, rfl, rfl, rfl⟩; exact hb x0 hy⟩
def JoinI1 {A0 : Type} (inv : A0 -> Prop) (sl : A0 -> List (Nat × AVal)) (ob : A0 -> Objs) : List (Nat × AVal) -> Objs -> Prop := fun s o => ∃ x0, inv x0 ∧ s = sl x0 ∧ o = ob x0
theorem join_here1 {A0 : Type} {inv : A0 -> Prop} {sl : A0 -> List (Nat × AVal)} {ob : A0 -> Objs} {nt n0 : Nat} {s : St} (x0 : A0) (hw : Weaker nt n0 s ⟨sl x0, ob x0⟩) (hi : inv x0) : ∃ s'' o'', Weaker nt n0 s ⟨s'', o''⟩ ∧ JoinI1 inv sl ob s'' o'' := ⟨_, _, hw, x0, hi, rfl, rfl⟩
theorem join_start1 {A0 : Type} (inv : A0 -> Prop) (sl : A0 -> List (Nat × AVal)) (ob : A0 -> Objs) {B : List (Nat × AVal) -> Objs -> Prop} {A : (List (Nat × AVal) -> Objs -> Prop) -> Prop} (hb : ∀ x0, inv x0 -> B (sl x0) (ob x0)) (ha : A (JoinI1 inv sl ob)) : ∃ J, (∀ s o, J s o -> B s o) ∧ A J := ⟨JoinI1 inv sl ob, by rintro _ _ ⟨x0, hy, rfl, rfl⟩; exact hb x0 hy, ha⟩
def LoopI2 {A0 A1 : Type} (inv : A0 -> A1 -> Prop) (ms : A0 -> A1 -> Nat) (sl : A0 -> A1 -> List (Nat × AVal)) (ob : A0 -> A1 -> Objs) : Nat -> List (Nat × AVal) -> Objs -> Prop := fun m s o => ∃ x0 x1, inv x0 x1 ∧ m = ms x0 x1 ∧ s = sl x0 x1 ∧ o = ob x0 x1
theorem loop_next2 {A0 A1 : Type} {inv : A0 -> A1 -> Prop} {ms : A0 -> A1 -> Nat} {sl : A0 -> A1 -> List (Nat × AVal)} {ob : A0 -> A1 -> Objs} {nt n0 m : Nat} {s : St} (x0 : A0) (x1 : A1) (hw : Weaker nt n0 s ⟨sl x0 x1, ob x0 x1⟩) (hlt : ms x0 x1 < m) (hi : inv x0 x1) : ∃ m' s'' o'', m' < m ∧ Weaker nt n0 s ⟨s'', o''⟩ ∧ LoopI2 inv ms sl ob m' s'' o'' := ⟨_, _, _, hlt, hw, x0, x1, hi, rfl, rfl, rfl⟩
theorem loop_start2 {A0 A1 : Type} (inv : A0 -> A1 -> Prop) (ms : A0 -> A1 -> Nat) (sl : A0 -> A1 -> List (Nat × AVal)) (ob : A0 -> A1 -> Objs) (x0 : A0) (x1 : A1) {nt n0 : Nat} {s : St} {B : (Nat -> List (Nat × AVal) -> Objs -> Prop) -> Nat -> List (Nat × AVal) -> Objs -> Prop} (hw : Weaker nt n0 s ⟨sl x0 x1, ob x0 x1⟩) (hi : inv x0 x1) (hb : ∀ x0 x1, inv x0 x1 -> B (LoopI2 inv ms sl ob) (ms x0 x1) (sl x0 x1) (ob x0 x1)) : ∃ I n s1 o1, Weaker nt n0 s ⟨s1, o1⟩ ∧ I n s1 o1 ∧ ∀ m s o, I m s o -> B I m s o :=
 ⟨LoopI2 inv ms sl ob, _, _, _, hw, ⟨x0, x1, hi, rfl, rfl, rfl⟩, by rintro _ _ _ ⟨x0, x1, hy, rfl, rfl, rfl⟩; exact hb x0 x1 hy⟩
def JoinI2 {A0 A1 : Type} (inv : A0 -> A1 -> Prop) (sl : A0 -> A1 -> List (Nat × AVal)) (ob : A0 -> A1 -> Objs) : List (Nat × AVal) -> Objs -> Prop := fun s o => ∃ x0 x1, inv x0 x1 ∧ s = sl x0 x1 ∧ o = ob x0 x1
theorem join_here2 {A0 A1 : Type} {inv : A0 -> A1 -> Prop} {sl : A0 -> A1 -> List (Nat × AVal)} {ob : A0 -> A1 -> Objs} {nt n0 : Nat} {s : St} (x0 : A0) (x1 : A1) (hw : Weaker nt n0 s ⟨sl x0 x1, ob x0 x1⟩) (hi : inv x0 x1) : ∃ s'' o'', Weaker nt n0 s ⟨s'', o''⟩ ∧ JoinI2 inv sl ob s'' o'' := ⟨_, _, hw, x0, x1, hi, rfl, rfl⟩
theorem join_start2 {A0 A1 : Type} (inv : A0 -> A1 -> Prop) (sl : A0 -> A1 -> List (Nat × AVal)) (ob : A0 -> A1 -> Objs) {B : List (Nat × AVal) -> Objs -> Prop} {A : (List (Nat × AVal) -> Objs -> Prop) -> Prop} (hb : ∀ x0 x1, inv x0 x1 -> B (sl x0 x1) (ob x0 x1)) (ha : A (JoinI2 inv sl ob)) : ∃ J, (∀ s o, J s o -> B s o) ∧ A J := ⟨JoinI2 inv sl ob, by rintro _ _ ⟨x0, x1, hy, rfl, rfl⟩; exact hb x0 x1 hy, ha⟩
def LoopI3 {A0 A1 A2 : Type} (inv : A0 -> A1 -> A2 -> Prop) (ms : A0 -> A1 -> A2 -> Nat) (sl : A0 -> A1 -> A2 -> List (Nat × AVal)) (ob : A0 -> A1 -> A2 -> Objs) : Nat -> List (Nat × AVal) -> Objs -> Prop := fun m s o => ∃ x0 x1 x2, inv x0 x1 x2 ∧ m = ms x0 x1 x2 ∧ s = sl x0 x1 x2 ∧ o = ob x0 x1 x2
theorem loop_next3 {A0 A1 A2 : Type} {inv : A0 -> A1 -> A2 -> Prop} {ms : A0 -> A1 -> A2 -> Nat} {sl : A0 -> A1 -> A2 -> List (Nat × AVal)} {ob : A0 -> A1 -> A2 -> Objs} {nt n0 m : Nat} {s : St} (x0 : A0) (x1 : A1) (x2 : A2) (hw : Weaker nt n0 s ⟨sl x0 x1 x2, ob x0 x1 x2⟩) (hlt : ms x0 x1 x2 < m) (hi : inv x0 x1 x2) : ∃ m' s'' o'', m' < m ∧ Weaker nt n0 s ⟨s'', o''⟩ ∧ LoopI3 inv ms sl ob m' s'' o'' := ⟨_, _, _, hlt, hw, x0, x1, x2, hi, rfl, rfl, rfl⟩
theorem loop_start3 {A0 A1 A2 : Type} (inv : A0 -> A1 -> A2 -> Prop) (ms : A0 -> A1 -> A2 -> Nat) (sl : A0 -> A1 -> A2 -> List (Nat × AVal)) (ob : A0 -> A1 -> A2 -> Objs) (x0 : A0) (x1 : A1) (x2 : A2) {nt n0 : Nat} {s : St} {B : (Nat -> List (Nat × AVal) -> Objs -> Prop) -> Nat -> List (Nat × AVal) -> Objs -> Prop} (hw : Weaker nt n0 s ⟨sl x0 x1 x2, ob x0 x1 x2⟩) (hi : inv x0 x1 x2) (hb : ∀ x0 x1 x2, inv x0 x1 x2 -> B (LoopI3 inv ms sl ob) (ms x0 x1 x2) (sl x0 x1 x2) (ob x0 x1 x2)) : ∃ I n s1 o1, Weaker nt n0 s ⟨s1, o1⟩ ∧ I n s1 o1 ∧ ∀ m s o, I m s o -> B I m s o :=
 ⟨LoopI3 inv ms sl ob, _, _, _, hw, ⟨x0, x1, x2, hi, rfl, rfl, rfl⟩, by rintro _ _ _ ⟨x0, x1, x2, hy, rfl, rfl, rfl⟩; exact hb x0 x1 x2 hy⟩
end Go.Fw
namespace Go.Fw
set_option linter.unusedSimpArgs false
set_option linter.unusedVariables false
open Go.RowKit
theorem wpOps_in {P : Program} {l n : Nat} {ops : Array Oper} {Q : Exit -> Act -> World -> Prop} (hQ : ¬ LetsOut Q) (hop : ∀ o ∈ ops.toList, ∀ c, o.op ≠ .defer c) : ∀ (is : List Nat) (a : Act) (w : World),
  wpOps P ops Q is a w -> wpOpsIn (Fence.wide.inRound l) n P ops Q is a w
 | [], a, w, h => h
 | i :: rest, a, w, h => by
  simp only [wpOps] at h
  simp only [wpOpsIn]
  cases ho : ops[i]? with
  | none =>
   simp only [ho] at h ⊢
   exact wpOps_in hQ hop rest a w h
  | some o =>
   simp only [ho] at h ⊢
   by_cases hw : Region.wanted o (yielded ops a.tmps) = true
   ·simp only [hw, if_true] at h ⊢
    rcases h with h | ⟨_, h⟩
    ·refine ⟨fun _ _ => trivial, ?_⟩
     have hm : o ∈ ops.toList := List.mem_of_getElem? (by simpa using ho)
     rw [Fence.inRound_round, Oper.semAt_some l _ o (hop o hm)]
     unfold Oper.wp at h
     have ih := fun a w => wpOps_in (P := P) (l := l) (n := n) hQ hop rest a w
     revert h
     generalize (execOp a.eval o).run P w = r
     intro h
     cases r with
     | ok nx w' =>
      cases nx with
      | value v => exact ih _ _ h
      | skip => exact ih _ _ h
      | defer d => exact ih _ _ h
      | enter f args =>
       refine ⟨fun hd => by simp [Fence.inRound, Fence.wide] at hd, ?_⟩
       refine CallsIn.inRound l (callsIn_wide.2 ?_)
       refine Calls.mono h ?_
       intro e w'' hr
       cases e with
       | returned v => exact ih _ _ hr
       | panicked chain => exact hr
       | outgrown => exact hr
      | row row args =>
       refine ⟨fun hd => by simp [Fence.inRound, Fence.wide] at hd, fun c cs _ => ?_⟩
       obtain ⟨v, w'', hr, hs⟩ := h c cs
       exact ⟨v, w'', ih _ _ hr, stepsIn_wide.2 hs⟩
      | _ => exact h.elim
     | halt r w' =>
      cases r with
      | panic v => exact h
      | _ => exact h.elim
    ·exact absurd h hQ
   ·simp only [hw, Bool.false_eq_true, if_false] at h ⊢
    exact ⟨fun _ _ => trivial, wpOps_in hQ hop rest _ w h⟩
theorem MemSat.cells {K : Ctx} {s : Objs} {w : World} (h : MemSat K s w) {o : Nat} {q : Nat × AObj} (hq : s[o]? = some q) (hl : q.2.live = true) (hC : K.C o q.1 ≠ 0) (hr : ∃ t k es, q.2 = .row t k es) : ∃ c t fr, w.heap[K.ρ o q.1]? = some (.cells c t fr) := by
 obtain ⟨ver, x⟩ := q
 obtain ⟨t, k, es, rfl⟩ := hr
 obtain ⟨_, _, h3⟩ := h.obj o _ hq
 obtain ⟨c, ⟨fr, _, hc⟩, _⟩ := h3 hC
 exact ⟨c, t, fr, hc⟩
theorem cells_of_cell {w : World} {b i : Nat} {u : Value} (h : w.cell? ⟨b, i, none⟩ = some u) : ∃ c t fr, w.heap[b]? = some (.cells c t fr) := by
 unfold World.cell? at h
 split at h
 ·rename_i c t fr e
  exact ⟨c, t, fr, e⟩
 ·simp at h
theorem MemSat.turned {K : Ctx} {s : Objs} {W W' : World} {row : Option Nat} {B0 : Nat} (h : MemSat K s W) (hrows : ∀ q ∈ s, q.2.live = true -> ∃ t k es, q.2 = .row t k es) (hB : ∀ b x, K.B b = some x -> b < B0)
  (hg : W.grownBy W' row) (hr : ∀ r, row = some r -> B0 <= r ∧ ∃ o : Obj, W.heap[r]? = some o ∧ o.isCells = false) : MemSat K s W' := by
 have same : ∀ (b : Nat) (c : Array Value) (t : TypeId) (fr : Nat × Nat), W.heap[b]? = some (.cells c t fr) -> W'.heap[b]? = W.heap[b]? := by
  intro b c t fr hb
  refine hg.block b (Array.getElem?_eq_some_iff.1 hb).1 fun e => ?_
  obtain ⟨_, o, ho, hn⟩ := hr b e.symm
  rw [hb] at ho
  cases ho
  simp [Obj.isCells] at hn
 have own : ∀ (o : Nat) (p : Nat × AObj), s[o]? = some p -> p.2.live = true -> K.C o p.1 ≠ 0 -> W'.heap[K.ρ o p.1]? = W.heap[K.ρ o p.1]? := by
  intro o p hp hl hC
  obtain ⟨c, t, fr, hc⟩ := h.cells hp hl hC (hrows p (List.mem_of_getElem? hp) hl)
  exact same _ _ _ _ hc
 refine ⟨h.len, h.ver, fun o p hp => ObjSat.mono (Ctx.le.refl K) (h.olt hp) (by rw [h.ver o p hp]; exact Nat.le_refl _) (h.obj o p hp) (fun hl hC => own o p hp hl hC), fun o p hp hl hC => ?_, h.dis, fun b i u hu => ?_, ?_⟩
 ·obtain ⟨h1, h2, h3⟩ := h.lo o p hp hl hC
  exact ⟨h1, Nat.lt_of_lt_of_le h2 hg.size, h3⟩
 ·obtain ⟨h1, h2⟩ := h.mem b i u hu
  obtain ⟨c, t, fr, hc⟩ := cells_of_cell h1
  exact ⟨(World.cell?_of_block (a := ⟨b, i, none⟩) (same _ _ _ _ hc)).trans h1, h2⟩
 ·refine h.below.step rfl rfl hg.os hg.tape hg.output hg.size fun b x hx => hg.block b (h.below.lt hx) fun e => ?_
  have := (hr b e.symm).1
  have := hB b x hx
  omega
def roundB (B : Nat -> Option Obj) (W : World) (b : Nat) : Option Obj :=
 match B b with
 | some x => some x
 | none => match W.heap[b]? with | some (.cells ..) => none | some x => some x | none => none
theorem roundB_of {B : Nat -> Option Obj} {W : World} {b : Nat} {x : Obj} (h : B b = some x) : roundB B W b = some x := by simp only [roundB, h]
theorem roundB_cells {B : Nat -> Option Obj} {W : World} {b : Nat} {c : Array Value} {t : TypeId} {fr : Nat × Nat} (h : B b = none) (hb : W.heap[b]? = some (.cells c t fr)) : roundB B W b = none := by simp only [roundB, h, hb]
theorem roundB_heap {B : Nat -> Option Obj} {W : World} {b : Nat} {x : Obj} (h : roundB B W b = some x) : B b = some x ∨ (W.heap[b]? = some x ∧ x.isCells = false) := by
 unfold roundB at h
 split at h
 ·rename_i y hy
  simp only [Option.some.injEq] at h
  subst h
  exact .inl hy
 ·right
  split at h
  ·cases h
  ·rename_i y hne hy
   simp only [Option.some.injEq] at h
   subst h
   refine ⟨hy, ?_⟩
   cases y with
   | cells c t fr => exact (hne _ _ _ rfl).elim
   | _ => rfl
  ·cases h
theorem roundB_same {B : Nat -> Option Obj} {W W' : World} (hp : ∀ b x, roundB B W b = some x -> W'.heap[b]? = some x) (hB : ∀ b x, B b = some x -> W.heap[b]? = some x) (hsz : W.heap.size <= W'.heap.size) : KeepsOthers W W' := by
 refine ⟨hsz, fun k o hk hn => hp k o ?_⟩
 unfold roundB
 split
 ·rename_i x hx
  rw [hB k x hx] at hk
  simpa using hk
 ·rw [hk]
  cases o with
  | cells c t fr => simp [Obj.isCells] at hn
  | _ => rfl
section
variable {P : Program} {nt n0 : Nat}
def RoundI (nt : Nat) (K0 K : Ctx) (slots : List (Nat × AVal)) (objs : Objs) (tmps : Array Value) (W : World) : Prop :=
 ∃ K1 : Ctx, K0.le K1 ∧ K1.B = K.B ∧ Sat nt K1 ⟨slots, objs⟩ { tmps := tmps, defers := [] } W
theorem rangeW_region {α : Type} {g : Operand} {p q aid bid rid : Nat} {oa : Oper} {ops : Array Oper} {s : St} (e : α -> Value) (S : List α -> Prop) (N : Nat) (so : List α -> Objs) (h0 : so [] = s.objs) (hp : p < nt) (hq : q < nt)
  (hoa : oa.op = .assign (.tmp p)) (hod : oa.dst = some q) (hog : oa.guard = none) (hfree : getSlot s.slots p = .any)
  (hrows : ∀ xs q, q ∈ so xs -> q.2.live = true -> ∃ t k es, q.2 = .row t k es)
  (hit : ∀ K a w, Sat nt K s a w -> ∃ (gf : Nat) (lb : Array Value) (pc : Addr) (u : Value), a.eval g = .func (.func gf) #[] lb ∧ (∀ args w, (callFunc gf args).run P w = .ok (.enter gf args) w) ∧ pc.block < w.heap.size ∧
   (∀ K1 xs W, Sat nt K1 ⟨s.slots, so xs⟩ { tmps := a.tmps, defers := [] } W -> W.cell? pc = some u) ∧
   SeqStopsK Fence.wide 2 P gf lb (fun x => #[e x]) (fun W W' => W.cell? pc = some u -> W'.cell? pc = some u) S (fun _ => True) N w)
  (hdefer : ∀ o ∈ ops.toList, ∀ c, o.op ≠ .defer c)
  (hbody : ∀ pre x, pre.length < N -> awpOps P nt ops ((q, .lit (e x)) :: s.slots) false ops.toList (startR ⟨(q, .lit (e x)) :: s.slots, so pre⟩) (fun rs => Weaker nt n0 ⟨s.slots, rs.objs⟩ ⟨s.slots, so (pre ++ [x])⟩)) :
  RangeW P nt n0 (.rangeFunc g #[p] (.region aid #[oa] false) (.block bid (.region rid ops false))) (fun e t => e = .normal ∧ ∃ xs, S xs ∧ t = ⟨s.slots, so xs⟩) s := by
 intro K0 K a w hn hle hs
 obtain ⟨gf, lb, pc, u, hg, eg, hpc, hkeep, hseq⟩ := hit K a w hs
 have hBlt : ∀ b x, K.B b = some x -> b < w.heap.size := fun b x hx => hs.mem.below.lt hx
 refine (wpIn_wide (n := 3)).1 (wpIn_rangeFunc_ownF (F := Fence.wide) rfl (by decide) hg trivial eg hseq (fun h k q => k (h q)) ?_ (Below.refl _ w) (fun _ => rfl)
  (fun xs W => RoundI nt K0 K s.slots (so xs) a.tmps W) (fun _ _ _ => False) ?_ (fun _ _ _ _ _ h => h.elim) ?_ (fun x => { tmps := (a.tmps.setIfInBounds p (e x)).setIfInBounds q (e x), defers := [] }) ?_ ?_ ?_ (fun _ _ _ _ _ _ h => h.elim))
 ·intro W l o o' hl ho _ _ hc
  have hne : pc.block ≠ l := by omega
  exact (World.cell?_of_block (World.putObj_heap_other hne)).trans hc
 ·rintro xs W W' row ⟨K1, hle1, hB1, hs1⟩ hg' hr
  exact ⟨K1, hle1, hB1, hs1.mem.turned (hrows xs) (fun b x hx => hBlt b x (by rw [← hB1]; exact hx)) hg' hr, hs1.slot, hs1.size, Marks.nil⟩
 ·exact ⟨K, hle, rfl, by rw [h0]; exact hs.mem, hs.slot, hs.size, Marks.nil⟩
 ·intro l x W Kq hK
  refine wpIn_region ?_
  have hz : (#[p].zip #[e x]) = #[(p, e x)] := by simp
  have hsz : a.tmps.size = nt := hs.size
  have hv : (a.tmps.setIfInBounds p (e x)).getD p undef = e x := by
   rw [Array.getD_eq_getD_getElem?, Array.getElem?_setIfInBounds_self_of_lt (by omega)]
   rfl
  simp only [hz]
  show wpOpsIn (Fence.wide.inRound l) _ P #[oa] _ [0] _ _
  simp only [wpOpsIn, List.getElem?_toArray, List.getElem?_cons_zero, Region.wanted, hog, if_true]
  refine ⟨fun f hf => by simp [Oper.about, hoa] at hf, ?_⟩
  rw [Oper.semAt_eq _ _ _ (by simp [hoa])]
  unfold execOp
  rw [hoa]
  show Kq (Act.put _ oa.dst _) W
  rw [hod]
  show Kq { tmps := (a.tmps.setIfInBounds p (e x)).setIfInBounds q ((a.tmps.setIfInBounds p (e x)).getD p undef), defers := [] } W
  rw [hv]
  exact hK
 ·rintro l pre x W ⟨K1, hle1, hB1, hs1⟩ hlen
  have hBW : ∀ b y, K.B b = some y -> W.heap[b]? = some y := fun b y hy => hs1.mem.below.block b y (by rw [hB1]; exact hy)
  have hm2 : MemSat { K1 with B := roundB K.B W, w0 := W } (so pre) W := by
   refine hs1.mem.with _ W (fun o q hq hl hC => ?_) ⟨rfl, rfl, rfl, Nat.le_refl _, fun b y hy => ?_⟩
   ·obtain ⟨c, t, fr, hc⟩ := hs1.mem.cells hq hl hC (hrows pre q (List.mem_of_getElem? hq) hl)
    refine roundB_cells ?_ hc
    rw [← hB1]
    exact (hs1.mem.lo o q hq hl hC).1
   ·rcases roundB_heap hy with h | h
    ·exact hBW b y h
    ·exact h.1
  obtain ⟨Kb, hKb⟩ : ∃ Kb : Ctx, Kb = { K0 with B := roundB K.B W, w0 := W, M := fun b i => match roundB K.B W b with | some _ => K1.M b i | none => K0.M b i } := ⟨_, rfl⟩
  have hKbM : ∀ b i u, K0.M b i = some u -> Kb.M b i = some u := by
   intro b i u hu
   rw [hKb]
   show (match roundB K.B W b with | some _ => K1.M b i | none => K0.M b i) = some u
   split
   ·exact hle1.M b i u hu
   ·exact hu
  have hKb0 : ∀ b i y, roundB K.B W b = some y -> Kb.M b i = K1.M b i := by
   intro b i y hy
   rw [hKb]
   show (match roundB K.B W b with | some _ => K1.M b i | none => K0.M b i) = _
   rw [hy]
  have hleb : Kb.le { K1 with B := roundB K.B W, w0 := W } := by
   refine ⟨fun b i u hu => ?_, by rw [hKb]; exact hle1.ρ, by rw [hKb]; exact hle1.C, by rw [hKb]; exact hle1.n, by rw [hKb]; exact hle1.vs, by rw [hKb], by rw [hKb]; exact fun _ _ h => h, fun b i y hy => ?_⟩
   ·rw [hKb] at hu
    show K1.M b i = some u
    change (match roundB K.B W b with | some _ => K1.M b i | none => K0.M b i) = some u at hu
    split at hu
    ·exact hu
    ·exact hle1.M b i u hu
   ·rw [hKb] at hy
    exact (hKb0 b i y hy).symm
  have hs2 : Sat nt { K1 with B := roundB K.B W, w0 := W } ⟨(q, .lit (e x)) :: s.slots, so pre⟩ { tmps := (a.tmps.setIfInBounds p (e x)).setIfInBounds q (e x), defers := [] } W := by
   refine ⟨hm2, fun t => ?_, by have := hs1.size; simpa using this, Marks.nil⟩
   show Rep _ (getSlot ((q, .lit (e x)) :: s.slots) t) _
   have hsz : a.tmps.size = nt := hs1.size
   rw [getSlot_cons]
   by_cases ht : q = t
   ·subst ht
    rw [if_pos rfl]
    have : ((a.tmps.setIfInBounds p (e x)).setIfInBounds q (e x)).getD q undef = e x := by
     rw [Array.getD_eq_getD_getElem?, Array.getElem?_setIfInBounds_self_of_lt (by simp; omega)]
     rfl
    simp only [this]
    exact .lit _
   ·rw [if_neg ht]
    by_cases hpt : p = t
    ·subst hpt
     rw [hfree]
     exact .any _
    ·have : ((a.tmps.setIfInBounds p (e x)).setIfInBounds q (e x)).getD t undef = a.tmps.getD t undef := by
      rw [Array.getD_eq_getD_getElem?, Array.getD_eq_getD_getElem?, Array.getElem?_setIfInBounds_ne ht, Array.getElem?_setIfInBounds_ne hpt]
     simp only [this]
     exact (hs1.slot t).monoR (leR_with K1 _ W)
  refine wpIn_block (wpIn_region ?_)
  refine wpOps_in ?_ hdefer _ _ _ ?_
  ·rintro ⟨a', w', h⟩
   exact h
  rw [List.range_eq_range']
  refine awpOps_sound (K0 := { K1 with B := roundB K.B W, w0 := W }) (Kt := fun rs => Weaker nt n0 ⟨s.slots, rs.objs⟩ ⟨s.slots, so (pre ++ [x])⟩) ?_ ops.size 0 (by omega) _ _ _ _ (.refl _) hs2.start (by simpa using hbody pre x hlen)
  intro K2 rs a' w' hle2 hr hk
  have hs3 : Sat nt K2 ⟨s.slots, rs.objs⟩ { tmps := a.tmps, defers := [] } w' := ⟨hr.mem, fun t => ((hs1.slot t).monoR (leR_with K1 _ W)).mono hle2, hs1.size, Marks.nil⟩
  obtain ⟨K3, hle3, hs4⟩ := hk Kb K2 _ w' (by rw [hKb]; exact hn) (hleb.trans hle2) hs3
  have hblock : ∀ b y, roundB K.B W b = some y -> w'.heap[b]? = some y := fun b y hy => hs4.mem.below.block b y (hle3.B b y (by rw [hKb]; exact hy))
  have hsz : W.heap.size <= w'.heap.size := by have := hs4.mem.below.size; rw [hle3.w0, hKb] at this; exact this
  have hmem : MemSat { K3 with B := K.B, w0 := K0.w0 } (so (pre ++ [x])) w' := by
   refine hs4.mem.with K.B K0.w0 (fun o q hq hl hC => ?_) ?_
   ·cases hb : K.B (K3.ρ o q.1) with
    | none => rfl
    | some y =>
     have := hle3.B _ y (by rw [hKb]; exact roundB_of hb)
     rw [(hs4.mem.lo o q hq hl hC).1] at this
     cases this
   ·have q := hs4.mem.below
    have q1 := hs1.mem.below
    have e0 := hle1.w0
    have e3 : K3.w0 = W := by rw [hle3.w0, hKb]
    refine ⟨?_, ?_, ?_, ?_, fun b y hy => hblock b y (roundB_of hy)⟩
    ·rw [q.os, e3, q1.os, e0]
    ·rw [q.tape, e3, q1.tape, e0]
    ·rw [q.output, e3, q1.output, e0]
    ·have := q1.size; rw [e0] at this; exact Nat.le_trans this hsz
  have hI : RoundI nt K0 K s.slots (so (pre ++ [x])) a.tmps w' := by
   refine ⟨{ K3 with B := K.B, w0 := K0.w0 }, ⟨fun b i u hu => hle3.M b i u (hKbM b i u hu), by have := hle3.ρ; rw [hKb] at this; exact this, by have := hle3.C; rw [hKb] at this; exact this, by have := hle3.n; rw [hKb] at this; exact this, by have := hle3.vs; rw [hKb] at this; exact this, rfl, hle.B, fun b i y hy => ((hle3.M0 b i y (by rw [hKb]; exact roundB_of (hle.B b y hy))).trans (hKb0 b i y (roundB_of (hle.B b y hy)))).trans (hle1.M0 b i y hy)⟩, rfl, hmem, fun t => (hs4.slot t).monoR (leR_with K3 _ _), hs1.size, Marks.nil⟩
  refine ⟨roundB_same hblock hBW hsz, fun _ => ?_, hI⟩
  obtain ⟨K4, _, _, hs5⟩ := hI
  exact hkeep K4 _ w' hs5
 ·rintro D xs W hD hS ⟨K1, hle1, hB1, hs1⟩ hk
  have hB2 : ∀ b y, K.B b = some y -> (if b = D then some (Obj.deferred (some [])) else K.B b) = some y := fun b y hy => by
   have := hBlt b y hy
   rw [if_neg (by omega)]
   exact hy
  refine ⟨.normal, { K1 with B := fun b => if b = D then some (.deferred (some [])) else K.B b }, ⟨s.slots, so xs⟩, rfl, ⟨hle1.M, hle1.ρ, hle1.C, hle1.n, hle1.vs, hle1.w0, fun b y hy => hB2 b y (hle.B b y hy), hle1.M0⟩, ⟨?_, fun t => (hs1.slot t).monoR (leR_with K1 _ K1.w0), hs1.size, ?_⟩, rfl, xs, hS, rfl⟩
  ·refine hs1.mem.with _ K1.w0 (fun o q hq hl hC => ?_) ?_
   ·obtain ⟨c, t, fr, hc⟩ := hs1.mem.cells hq hl hC (hrows xs q (List.mem_of_getElem? hq) hl)
    have hne : K1.ρ o q.1 ≠ D := fun e => by rw [e, hk] at hc; cases hc
    show (if K1.ρ o q.1 = D then _ else _) = none
    rw [if_neg hne, ← hB1]
    exact (hs1.mem.lo o q hq hl hC).1
   ·have q1 := hs1.mem.below
    refine ⟨q1.os, q1.tape, q1.output, q1.size, fun b y hy => ?_⟩
    by_cases hb : b = D
    ·subst hb
     simp only [if_true] at hy
     rw [hk]
     exact hy
    ·simp only [if_neg hb] at hy
     exact q1.block b y (by rw [hB1]; exact hy)
  ·have hw0 : K1.w0 = K.w0 := hle1.w0.trans hle.w0.symm
   refine ⟨List.nodup_cons.2 ⟨fun hin => ?_, hs.defers.1⟩, fun d hd => ?_⟩
   ·obtain ⟨D', h1, h2, _⟩ := hs.defers.2 _ hin
    simp only [Deferred.mk.injEq, Target.collected.injEq, and_true] at h1
    subst h1
    have := hBlt _ _ h2
    omega
   ·rcases List.mem_cons.1 hd with rfl | hd
    ·refine ⟨D, rfl, by simp, ?_⟩
     show K1.w0.heap.size <= D
     rw [hw0]
     exact Nat.le_trans hs.mem.below.size hD
    ·obtain ⟨D', h1, h2, h3⟩ := hs.defers.2 d hd
     refine ⟨D', h1, hB2 _ _ h2, ?_⟩
     show K1.w0.heap.size <= D'
     rw [hw0]
     exact h3
theorem range_next {α : Type} {g : Operand} {p q aid bid rid : Nat} {oa : Oper} {ops : Array Oper} {sl : List (Nat × AVal)} {o : Objs} {Q : CQ} (e : α -> Value) (ys : List α) (so : List α -> Objs) (h0 : so [] = o) (hp : p < nt) (hq : q < nt)
  (hoa : oa.op = .assign (.tmp p)) (hod : oa.dst = some q) (hog : oa.guard = none) (hfree : getSlot sl p = .any)
  (hrows : ∀ xs q, q ∈ so xs -> q.2.live = true -> ∃ t k es, q.2 = .row t k es)
  (hit : ∀ K a w, Sat nt K ⟨sl, o⟩ a w -> ∃ (gf : Nat) (lb : Array Value) (pc : Addr) (u : Value), a.eval g = .func (.func gf) #[] lb ∧ (∀ args w, (callFunc gf args).run P w = .ok (.enter gf args) w) ∧ pc.block < w.heap.size ∧
   (∀ K1 xs W, Sat nt K1 ⟨sl, so xs⟩ { tmps := a.tmps, defers := [] } W -> W.cell? pc = some u) ∧
   SeqStopsK Fence.wide 2 P gf lb (fun x => #[e x]) (fun W W' => W.cell? pc = some u -> W'.cell? pc = some u) (fun zs => zs = ys) (fun _ => True) ys.length w)
  (hdefer : (ops.toList.all fun o => match o.op with | .defer _ => false | _ => true) = true)
  (hbody : ∀ pre x, pre.length < ys.length -> cops P nt ops ((q, .lit (e x)) :: sl) false ops.toList [] [] (so pre) (fun _ _ o => Weaker nt n0 ⟨sl, o⟩ ⟨sl, so (pre ++ [x])⟩))
  (hQ : Q .normal sl (so ys)) :
  ∃ R : AExit -> List (Nat × AVal) -> Objs -> Prop, RangeW P nt n0 (.rangeFunc g #[p] (.region aid #[oa] false) (.block bid (.region rid ops false))) (fun e t => R e t.slots t.objs) ⟨sl, o⟩ ∧ ∀ e s o, R e s o -> Q e s o := by
 refine ⟨fun e s o => e = .normal ∧ s = sl ∧ o = so ys, ?_, ?_⟩
 ·intro K0 K a w hn hle hs
  refine wp_mono (rangeW_region (P := P) (nt := nt) (n0 := n0) (s := ⟨sl, o⟩) e (fun zs => zs = ys) ys.length so h0 hp hq hoa hod hog hfree hrows hit ?_ ?_ K0 K a w hn hle hs) ?_
  ·intro o ho c hc
   have := List.all_eq_true.1 hdefer o ho
   rw [hc] at this
   cases this
  ·intro pre x hlen
   exact cops_ops (hbody pre x hlen)
  ·rintro e' a' w' ⟨e1, K1, s1, he, hle1, hs1, rfl, xs, rfl, rfl⟩
   exact ⟨.normal, K1, _, he, hle1, hs1, rfl, rfl, rfl⟩
 ·rintro e s o ⟨rfl, rfl, rfl⟩
  exact hQ
theorem told_same {n0 : Nat} {r : AVal} {o : Objs} : Told n0 r o r o := fun _ K _ _ _ hle hm hr => ⟨K, hle, hm, hr⟩
theorem box_cell {K : Ctx} {objs : Objs} {w : World} {o : Nat} {t : TypeId} {v : Value} (hm : MemSat K objs w) (ho : objs[o]? = some (0, .row t 1 [[.lit v]])) : w.cell? ⟨K.ρ o 0, 0, none⟩ = some v ∧ K.ρ o 0 < w.heap.size := by
 obtain ⟨_, h2, h3⟩ := hm.obj o _ ho
 have hC : K.C o 0 ≠ 0 := by simp at h2; omega
 obtain ⟨c, ⟨fr, _, hc⟩, _, _, hx⟩ := h3 hC
 obtain ⟨u, hu, hr⟩ := hx 0 0 [.lit v] (.lit v) rfl rfl
 have := rep_lit hr
 subst this
 exact ⟨by simpa [World.cell?, hc] using hu, (Array.getElem?_eq_some_iff.1 hc).1⟩
theorem rep_fn_ptrs {K : Ctx} {f : FuncId} {o o' k k' i j i' j' : Nat} {v : Value} (h : Rep K (.fn (.func f) [] [.ptr o 0 k i j, .ptr o' 0 k' i' j']) v) : v = .func (.func f) #[] #[.pointer (some ⟨K.ρ o 0, i * k + j, none⟩), .pointer (some ⟨K.ρ o' 0, i' * k' + j', none⟩)] := by
 cases h with
 | fn _ _ _ vs us hl hm h g =>
  match vs, us, hl, hm with
  | [], [u1, u2], _, _ =>
   have h1 := g 0 _ _ rfl rfl
   have h2 := g 1 _ _ rfl rfl
   cases h1 with
   | ptr => cases h2 with
    | ptr => rfl
end
end Go.Fw
namespace Go.Proofs.YtigcpfbpmnppcaaGreatDoor
set_option linter.unusedSimpArgs false
set_option linter.unusedVariables false
open Go.Fw
def ints (l : List Int) : AVal := listA 1 (fun n => [I n]) 0 l
def runes (l : List Int) : AVal := listA 1 (fun n => [J n]) 0 l
theorem runes_low (l : List Int) (n : Nat) : Low n (runes l) := listA_low fun _ => rfl
structure Alt where
 nodes : Int
 wall : Int
 deriving DecidableEq
def Alt.zero : Alt := ⟨0, 0⟩
def Alt.cells (x : Alt) : List AVal := [I x.nodes, I x.wall]
def Alt.a (x : Alt) : AVal := .agg x.cells
def altL (l : List Alt) : AVal := listA 2 Alt.cells .zero l
theorem Alt.lo {n : Nat} {a0 a1 : Int} : LowL n [I a0, I a1] := l1 (l1 (.nil))
theorem Alt.lowc (x : Alt) (n : Nat) : LowL n x.cells := Alt.lo
instance : LowC Alt.cells := ⟨fun n x => x.lowc n⟩
theorem Alt.low (x : Alt) (n : Nat) : Low n x.a := .agg' (x.lowc n)
theorem Alt.lows (l : List Alt) (n : Nat) : Low n (altL l) := listA_low' fun x => x.lowc n
structure Shape where
 kind : Int
 alts : List Alt
 min : Int
 max : Int
 wall : Int
 deriving DecidableEq
def Shape.zero : Shape := ⟨0, [], 0, 0, 0⟩
def Shape.cells (x : Shape) : List AVal := [I x.kind, altL x.alts, I x.min, I x.max, I x.wall]
def Shape.a (x : Shape) : AVal := .agg x.cells
theorem Shape.lo {n : Nat} {a0 a2 a3 a4 : Int} {a1 : List Alt} : LowL n [I a0, altL a1, I a2, I a3, I a4] := l1 (lv (Alt.lows _ _) (l1 (l1 (l1 (.nil)))))
theorem Shape.lowc (x : Shape) (n : Nat) : LowL n x.cells := Shape.lo
instance : LowC Shape.cells := ⟨fun n x => x.lowc n⟩
theorem Shape.low (x : Shape) (n : Nat) : Low n x.a := .agg' (x.lowc n)
def Shape.szN (N : Nat) (x : Shape) : Prop := x.alts.length <= N
abbrev Shape.sz (x : Shape) : Prop := x.szN 4294967296
abbrev Shape.szM (x : Shape) : Prop := x.szN 9223372036854775807
structure Dep where
 how : Int
 job : Int
 deriving DecidableEq
def Dep.zero : Dep := ⟨0, 0⟩
def Dep.cells (x : Dep) : List AVal := [I x.how, I x.job]
def Dep.a (x : Dep) : AVal := .agg x.cells
def depL (l : List Dep) : AVal := listA 2 Dep.cells .zero l
theorem Dep.lo {n : Nat} {a0 a1 : Int} : LowL n [I a0, I a1] := l1 (l1 (.nil))
theorem Dep.lowc (x : Dep) (n : Nat) : LowL n x.cells := Dep.lo
instance : LowC Dep.cells := ⟨fun n x => x.lowc n⟩
theorem Dep.low (x : Dep) (n : Nat) : Low n x.a := .agg' (x.lowc n)
theorem Dep.lows (l : List Dep) (n : Nat) : Low n (depL l) := listA_low' fun x => x.lowc n
structure Token where
 kind : Int
 text : ByteArray
 num : Int
 at_ : Int
 deriving DecidableEq
def Token.zero : Token := ⟨0, ⟨#[]⟩, 0, 0⟩
def Token.cells (x : Token) : List AVal := [I x.kind, Sg x.text, I x.num, I x.at_]
def Token.a (x : Token) : AVal := .agg x.cells
def tokenL (l : List Token) : AVal := listA 4 Token.cells .zero l
theorem Token.lo {n : Nat} {a0 a2 a3 : Int} {a1 : ByteArray} : LowL n [I a0, Sg a1, I a2, I a3] := l1 (l1 (l1 (l1 (.nil))))
theorem Token.lowc (x : Token) (n : Nat) : LowL n x.cells := Token.lo
instance : LowC Token.cells := ⟨fun n x => x.lowc n⟩
structure Cmd where
 kind : Int
 job : Int
 name : ByteArray
 user : ByteArray
 account : ByteArray
 shape : Shape
 prio : Int
 hasPrio : Bool
 time : Int
 hasTime : Bool
 after : List Dep
 node : Int
 nodes : Int
 from_ : Int
 deriving DecidableEq
def Cmd.cells (x : Cmd) : List AVal := [I x.kind, I x.job, Sg x.name, Sg x.user, Sg x.account, I x.shape.kind, altL x.shape.alts, I x.shape.min, I x.shape.max, I x.shape.wall, I x.prio, Bo x.hasPrio, I x.time, Bo x.hasTime, depL x.after, I x.node, I x.nodes, I x.from_]
def Cmd.a (x : Cmd) : AVal := .agg x.cells
theorem Cmd.lo {n : Nat} {a0 a1 a5 a7 a8 a9 a10 a12 a15 a16 a17 : Int} {a2 a3 a4 : ByteArray} {a6 : List Alt} {a11 a13 : Bool} {a14 : List Dep} : LowL n [I a0, I a1, Sg a2, Sg a3, Sg a4, I a5, altL a6, I a7, I a8, I a9, I a10, Bo a11, I a12, Bo a13, depL a14, I a15, I a16, I a17] := l1 (l1 (l1 (l1 (l1 (l1 (lv (Alt.lows _ _) (l1 (l1 (l1 (l1 (l1 (l1 (l1 (lv (Dep.lows _ _) (l1 (l1 (l1 (.nil))))))))))))))))))
theorem Cmd.lowc (x : Cmd) (n : Nat) : LowL n x.cells := Cmd.lo
instance : LowC Cmd.cells := ⟨fun n x => x.lowc n⟩
theorem Cmd.low (x : Cmd) (n : Nat) : Low n x.a := .agg' (x.lowc n)
def Cmd.szN (N : Nat) (x : Cmd) : Prop := x.name.size <= N ∧ x.user.size <= N ∧ x.account.size <= N ∧ x.shape.szN N ∧ x.after.length <= N
abbrev Cmd.sz (x : Cmd) : Prop := x.szN 4294967296
structure Step where
 at_ : Int
 free : Int
 deriving DecidableEq
structure Node where
 state : Int
 job : Int
 epoch : Int
 drain : Bool
 want : Int
 since : Int
 asked : Int
 deriving DecidableEq
def Node.zero : Node := ⟨0, 0, 0, false, 0, 0, 0⟩
def Node.cells (x : Node) : List AVal := [I x.state, I x.job, I x.epoch, Bo x.drain, I x.want, I x.since, I x.asked]
def Node.a (x : Node) : AVal := .agg x.cells
def nodeL (l : List Node) : AVal := listA 7 Node.cells .zero l
theorem Node.lo {n : Nat} {a0 a1 a2 a4 a5 a6 : Int} {a3 : Bool} : LowL n [I a0, I a1, I a2, Bo a3, I a4, I a5, I a6] := l1 (l1 (l1 (l1 (l1 (l1 (l1 (.nil)))))))
theorem Node.lowc (x : Node) (n : Nat) : LowL n x.cells := Node.lo
instance : LowC Node.cells := ⟨fun n x => x.lowc n⟩
theorem Node.low (x : Node) (n : Nat) : Low n x.a := .agg' (x.lowc n)
theorem Node.lows (l : List Node) (n : Nat) : Low n (nodeL l) := listA_low' fun x => x.lowc n
structure Job where
 id : Int
 name : ByteArray
 user : ByteArray
 account : ByteArray
 shape : Shape
 prio : Int
 after : List Dep
 state : Int
 held : Bool
 born : Int
 promise : Int
 choice : Int
 start : Int
 limit : Int
 nodes : Int
 used : Int
 deriving DecidableEq
def Job.zero : Job := ⟨0, ⟨#[]⟩, ⟨#[]⟩, ⟨#[]⟩, Shape.zero, 0, [], 0, false, 0, 0, 0, 0, 0, 0, 0⟩
def Job.cells (x : Job) : List AVal := [I x.id, Sg x.name, Sg x.user, Sg x.account, I x.shape.kind, altL x.shape.alts, I x.shape.min, I x.shape.max, I x.shape.wall, I x.prio, depL x.after, I x.state, Bo x.held, I x.born, I x.promise, I x.choice, I x.start, I x.limit, U x.nodes, I x.used]
def Job.a (x : Job) : AVal := .agg x.cells
def jobL (l : List Job) : AVal := listA 20 Job.cells .zero l
theorem Job.lo {n : Nat} {a0 a4 a6 a7 a8 a9 a11 a13 a14 a15 a16 a17 a18 a19 : Int} {a1 a2 a3 : ByteArray} {a5 : List Alt} {a10 : List Dep} {a12 : Bool} : LowL n [I a0, Sg a1, Sg a2, Sg a3, I a4, altL a5, I a6, I a7, I a8, I a9, depL a10, I a11, Bo a12, I a13, I a14, I a15, I a16, I a17, U a18, I a19] := l1 (l1 (l1 (l1 (l1 (lv (Alt.lows _ _) (l1 (l1 (l1 (l1 (lv (Dep.lows _ _) (l1 (l1 (l1 (l1 (l1 (l1 (l1 (l1 (l1 (.nil))))))))))))))))))))
theorem Job.lowc (x : Job) (n : Nat) : LowL n x.cells := Job.lo
instance : LowC Job.cells := ⟨fun n x => x.lowc n⟩
theorem Job.low (x : Job) (n : Nat) : Low n x.a := .agg' (x.lowc n)
theorem Job.lows (l : List Job) (n : Nat) : Low n (jobL l) := listA_low' fun x => x.lowc n
def Job.szN (N : Nat) (x : Job) : Prop := x.name.size <= N ∧ x.user.size <= N ∧ x.account.size <= N ∧ x.shape.szN N ∧ x.after.length <= N
abbrev Job.sz (x : Job) : Prop := x.szN 4294967296
abbrev Job.szM (x : Job) : Prop := x.szN 9223372036854775807
theorem Job.szz (N : Nat) : Job.zero.szN N := by simp [Job.szN, Job.zero, ByteArray.size, Shape.szN, Shape.zero]
structure Resize where
 job : Int
 grow : Bool
 nodes : Int
 said : Int
 since : Int
 deriving DecidableEq
def Resize.zero : Resize := ⟨0, false, 0, 0, 0⟩
def Resize.cells (x : Resize) : List AVal := [I x.job, Bo x.grow, U x.nodes, U x.said, I x.since]
def Resize.a (x : Resize) : AVal := .agg x.cells
def resizeL (l : List Resize) : AVal := listA 5 Resize.cells .zero l
theorem Resize.lo {n : Nat} {a0 a2 a3 a4 : Int} {a1 : Bool} : LowL n [I a0, Bo a1, U a2, U a3, I a4] := l1 (l1 (l1 (l1 (l1 (.nil)))))
theorem Resize.lowc (x : Resize) (n : Nat) : LowL n x.cells := Resize.lo
instance : LowC Resize.cells := ⟨fun n x => x.lowc n⟩
theorem Resize.low (x : Resize) (n : Nat) : Low n x.a := .agg' (x.lowc n)
theorem Resize.lows (l : List Resize) (n : Nat) : Low n (resizeL l) := listA_low' fun x => x.lowc n
structure Book where
 id : Int
 from_ : Int
 to : Int
 nodes : Int
 deriving DecidableEq
def Book.zero : Book := ⟨0, 0, 0, 0⟩
def Book.cells (x : Book) : List AVal := [I x.id, I x.from_, I x.to, I x.nodes]
def Book.a (x : Book) : AVal := .agg x.cells
def bookL (l : List Book) : AVal := listA 4 Book.cells .zero l
theorem Book.lo {n : Nat} {a0 a1 a2 a3 : Int} : LowL n [I a0, I a1, I a2, I a3] := l1 (l1 (l1 (l1 (.nil))))
theorem Book.lowc (x : Book) (n : Nat) : LowL n x.cells := Book.lo
instance : LowC Book.cells := ⟨fun n x => x.lowc n⟩
theorem Book.low (x : Book) (n : Nat) : Low n x.a := .agg' (x.lowc n)
theorem Book.lows (l : List Book) (n : Nat) : Low n (bookL l) := listA_low' fun x => x.lowc n
structure Usage where
 user : ByteArray
 account : ByteArray
 used : Int
 share : Int
 deriving DecidableEq
def Usage.zero : Usage := ⟨⟨#[]⟩, ⟨#[]⟩, 0, 0⟩
def Usage.cells (x : Usage) : List AVal := [Sg x.user, Sg x.account, I x.used, I x.share]
def Usage.a (x : Usage) : AVal := .agg x.cells
def usageL (l : List Usage) : AVal := listA 4 Usage.cells .zero l
theorem Usage.lo {n : Nat} {a0 a1 : ByteArray} {a2 a3 : Int} : LowL n [Sg a0, Sg a1, I a2, I a3] := l1 (l1 (l1 (l1 (.nil))))
theorem Usage.lowc (x : Usage) (n : Nat) : LowL n x.cells := Usage.lo
instance : LowC Usage.cells := ⟨fun n x => x.lowc n⟩
theorem Usage.low (x : Usage) (n : Nat) : Low n x.a := .agg' (x.lowc n)
theorem Usage.lows (l : List Usage) (n : Nat) : Low n (usageL l) := listA_low' fun x => x.lowc n
def Usage.szN (N : Nat) (x : Usage) : Prop := x.user.size <= N ∧ x.account.size <= N
abbrev Usage.sz (x : Usage) : Prop := x.szN 4294967296
abbrev Usage.szM (x : Usage) : Prop := x.szN 9223372036854775807
theorem Usage.szz (N : Nat) : Usage.zero.szN N := by simp [Usage.szN, Usage.zero, ByteArray.size]
structure State where
 now : Int
 nodes : List Node
 jobs : List Job
 resizes : List Resize
 books : List Book
 ledger : List Usage
 nextJob : Int
 nextBook : Int
 deriving DecidableEq
def State.zero : State := ⟨0, [], [], [], [], [], 0, 0⟩
def State.cells (x : State) : List AVal := [I x.now, nodeL x.nodes, jobL x.jobs, resizeL x.resizes, bookL x.books, usageL x.ledger, I x.nextJob, I x.nextBook]
def State.a (x : State) : AVal := .agg x.cells
theorem State.lo {n : Nat} {a0 a6 a7 : Int} {a1 : List Node} {a2 : List Job} {a3 : List Resize} {a4 : List Book} {a5 : List Usage} : LowL n [I a0, nodeL a1, jobL a2, resizeL a3, bookL a4, usageL a5, I a6, I a7] := l1 (lv (Node.lows _ _) (lv (Job.lows _ _) (lv (Resize.lows _ _) (lv (Book.lows _ _) (lv (Usage.lows _ _) (l1 (l1 (.nil))))))))
theorem State.lowc (x : State) (n : Nat) : LowL n x.cells := State.lo
instance : LowC State.cells := ⟨fun n x => x.lowc n⟩
theorem State.low (x : State) (n : Nat) : Low n x.a := .agg' (x.lowc n)
def State.szN (N : Nat) (x : State) : Prop := x.nodes.length <= N ∧ x.jobs.length <= N ∧ (∀ y ∈ x.jobs, y.szN N) ∧ x.resizes.length <= N ∧ x.books.length <= N ∧ x.ledger.length <= N ∧ (∀ y ∈ x.ledger, y.szN N)
abbrev State.sz (x : State) : Prop := x.szN 4294967296
abbrev State.szM (x : State) : Prop := x.szN 9223372036854775807
theorem State.szz (N : Nat) : State.zero.szN N := by simp [State.szN, State.zero, ByteArray.size]
structure Note where
 kind : Int
 node : Int
 job : Int
 epoch : Int
 deriving DecidableEq
def Note.zero : Note := ⟨0, 0, 0, 0⟩
def Note.cells (x : Note) : List AVal := [I x.kind, I x.node, I x.job, I x.epoch]
def Note.a (x : Note) : AVal := .agg x.cells
def noteL (l : List Note) : AVal := listA 4 Note.cells .zero l
theorem Note.lo {n : Nat} {a0 a1 a2 a3 : Int} : LowL n [I a0, I a1, I a2, I a3] := l1 (l1 (l1 (l1 (.nil))))
theorem Note.lowc (x : Note) (n : Nat) : LowL n x.cells := Note.lo
instance : LowC Note.cells := ⟨fun n x => x.lowc n⟩
theorem Note.low (x : Note) (n : Nat) : Low n x.a := .agg' (x.lowc n)
structure Event where
 kind : Int
 line : ByteArray
 note : Note
 deriving DecidableEq
structure Out where
 kind : Int
 text : ByteArray
 note : Note
 job : Int
 at_ : Int
 raised : Bool
 deriving DecidableEq
structure Daemon where
 node : Int
 mode : Int
 job : Int
 epoch : Int
 up : Bool
 sulks : Bool
 ended : Int
 asked : Int
 deriving DecidableEq
structure LexReader where
 line : List Int
 at_ : Int
 bad : Int
 error : Int
 deriving DecidableEq
def LexReader.zero : LexReader := ⟨[], 0, 0, 0⟩
theorem LexReader.lo {n : Nat} {a0 : List Int} {a1 a2 a3 : Int} : LowL n [runes a0, I a1, I a2, I a3] := lv (runes_low _ _) (l1 (l1 (l1 (.nil))))
def LexReader.szN (N : Nat) (x : LexReader) : Prop := x.line.length <= N
abbrev LexReader.sz (x : LexReader) : Prop := x.szN 4294967296
structure ImageReader where
 s : ByteArray
 at_ : Int
 bad : Bool
 deriving DecidableEq
structure Ref28From where
 s : ByteArray
 at_ : Int
 deriving DecidableEq
end Go.Proofs.YtigcpfbpmnppcaaGreatDoor
namespace Go.Proofs.YtigcpfbpmnppcaaGreatDoor
set_option linter.unusedSimpArgs false
set_option linter.unusedVariables false
open Go.Fw
def atoiOK (s : ByteArray) : Prop := 1 <= s.size ∧ s.size <= 9 ∧ ∀ i, i < s.size -> 48 <= (s.data.toList.getD i 0).toNat ∧ (s.data.toList.getD i 0).toNat <= 57
theorem atoi_minus {s : ByteArray} (h : atoiOK s) (c : (((s.data.toList.getD 0 0).toNat : Int) == 45) = true) : False := by
 have := h.2.2 0 h.1
 have e := eq_of_beq c
 omega
theorem atoi_sign {s : ByteArray} (h : atoiOK s) (c : ((((s.data.toList.getD 0 0).toNat : Int) == 45) || (((s.data.toList.getD 0 0).toNat : Int) == 43)) = true) : False := by
 have := h.2.2 0 h.1
 rcases (Bool.or_eq_true _ _).mp c with c | c <;> have e := eq_of_beq c <;> omega
theorem bytesOf_getD (s : ByteArray) (i : Nat) : (bytesOf s).getD i 0 = ((s.data.toList.getD i 0).toNat : Int) := by
 unfold bytesOf
 simp only [List.getD, List.getElem?_map]
 cases s.data.toList[i]? <;> rfl
theorem atoi_digit {s : ByteArray} (h : atoiOK s) {i : Nat} (hi : i < s.size) (c : decide (wu8 (((bytesOf s).getD i 0) - 48) > 9) = true) : False := by
 have h1 := h.2.2 i hi
 have c := of_decide_eq_true c
 rw [bytesOf_getD] at c
 rw [show wu8 (((s.data.toList.getD i 0).toNat : Int) - 48) = ((s.data.toList.getD i 0).toNat : Int) - 48 by rw [wu8, IntKind.wrap_u8]; omega] at c
 omega
theorem getD_byte (s : ByteArray) {i : Nat} (h : i < s.size) : s.data.toList.getD i 0 = s[i]'h := by
 have h' : i < s.data.toList.length := by simpa using h
 simp [List.getD, List.getElem?_eq_getElem h']
 rfl
theorem decode_end (s : ByteArray) (i : Nat) (h : i < s.size) : i + (Utf8.decode s i).2 <= s.size := by
 unfold Utf8.decode
 dsimp only
 split
 ·simp; omega
 ·split
  ·rename_i hc
   simp only [Bool.and_eq_true, decide_eq_true_eq] at hc
   split <;> simp <;> omega
  ·split
   ·rename_i hc
    simp only [Bool.and_eq_true, decide_eq_true_eq] at hc
    split <;> simp <;> omega
   ·split
    ·rename_i hc
     simp only [Bool.and_eq_true, decide_eq_true_eq] at hc
     split <;> simp <;> omega
    ·simp; omega
theorem extract_size (s : ByteArray) (a b : Nat) : (s.extract a b).size <= s.size := by
 rw [ByteArray.size_extract]
 omega
theorem digits_bytes (s : ByteArray) : ∀ (m pos : Nat), s.size - pos <= m -> (∀ x ∈ strRunes s m pos, 48 <= x.2 ∧ x.2 <= 57) -> ∀ i, pos <= i -> i < s.size -> 48 <= (s.data.toList.getD i 0).toNat ∧ (s.data.toList.getD i 0).toNat <= 57 := by
 intro m
 induction m with
 | zero => intro pos hm _ i h1 h2; omega
 | succ m ih =>
  intro pos hm hx i h1 h2
  have hp : pos < s.size := by omega
  rw [strRunes_cons (decide_eq_true hp)] at hx
  have h0 := hx _ List.mem_cons_self
  have ha : (s[pos]'hp).toNat < 128 := by
   rcases Nat.lt_or_ge (s[pos]'hp).toNat 128 with h | h
   ·exact h
   ·have := (decode_high s pos hp h).1
    simp only at h0
    omega
  have hd := decode_ascii s pos hp ha
  rw [hd] at h0 hx
  by_cases hi : i = pos
  ·subst hi
   rw [getD_byte s hp]
   simp only at h0
   omega
  ·exact ih (pos + 1) (by omega) (fun x hm => hx x (List.mem_cons_of_mem _ hm)) i (by omega) h2
theorem gives_of_calls {P : Program} {f : FuncId} {vs : List Value} {v : Value} (h : ∀ w, Calls P f vs.toArray w fun e w' => e = .returned v ∧ w' = w) (objs : Objs) : AGives P f (vs.map .lit) objs (.lit v) := by
 intro K w us hm hr
 have e : us = vs := by
  have h1 := hr.1
  refine List.ext_getElem? fun i => ?_
  rcases Nat.lt_or_ge i vs.length with hi | hi
  ·have hu : i < us.length := by rw [h1]; simpa using hi
   have := hr.2 i (.lit vs[i]) us[i] (by simp [List.getElem?_eq_getElem hi]) (List.getElem?_eq_getElem hu)
   rw [List.getElem?_eq_getElem hi, List.getElem?_eq_getElem hu]
   rw [rep_lit this]
  ·rw [List.getElem?_eq_none hi, List.getElem?_eq_none (by rw [h1]; simpa using hi)]
 subst e
 refine (h w).mono ?_
 rintro e w' ⟨rfl, rfl⟩
 exact ⟨v, .lit v, objs, K, rfl, .refl K, hm, .lit v, rfl, rfl⟩
set_option maxHeartbeats 1000000 in
set_option maxRecDepth 100000 in
theorem indexByte1 (s : ByteArray) (c : Int) (w : World) :
  Calls Tryz.prog 258 #[.string s, .int .u8 c] w fun e w' => e = .returned (.int .i64 (Lib.indexByte s.data.toList c.toNat.toUInt8)) ∧ w' = w := by
 go_enter Tryz.func258, Tryz.ntmps258
 go_wp2
 rw [run_callFunc_extern Tryz.func263 (by kernel_rfl) (by kernel_rfl) (by kernel_rfl) (e := Extern.BytealgIndexByte.indexByte) (by kernel_rfl), Lib.run_indexByteString]
 simp only [Result.andThen]
 rw [Oper.upon_value]
 go_wp2
 go_ret
 exact ⟨rfl, rfl⟩
def strings_IndexByte (s : ByteArray) (c : Int) : Int := Lib.indexByte s.data.toList c.toNat.toUInt8
set_option maxHeartbeats 1000000 in
theorem indexByte2 (s : ByteArray) (c : Int) (w : World) :
  Calls Tryz.prog 245 #[.string s, .int .u8 c] w fun e w' => e = .returned (.int .i64 (strings_IndexByte s c)) ∧ w' = w := by
 go_enter Tryz.func245, Tryz.ntmps245
 go_wp2_with (go_at_call 258; refine (indexByte1 _ _ _).mono ?_; rintro e w' ⟨rfl, rfl⟩)
 go_ret
 exact ⟨rfl, rfl⟩
theorem strings_IndexByte_c (s : ByteArray) (c : Int) : ∀ objs, AGives Tryz.prog 245 [Sg s, Y c] objs (I (strings_IndexByte s c)) :=
 gives_of_calls (vs := [.string s, .int .u8 c]) fun w => indexByte2 s c w
end Go.Proofs.YtigcpfbpmnppcaaGreatDoor
namespace Go.Proofs.YtigcpfbpmnppcaaGreatDoor
set_option linter.unusedSimpArgs false
set_option linter.unusedVariables false
open Go Go.RowKit Go.Proofs
theorem bldPtr : Tryz.prog.underlying 243 = some (.pointer 245) := by kernel_rfl
theorem bldUnsafe : Tryz.prog.underlying 261 = some .unsafePointer := by kernel_rfl
theorem bldInfo : (Tryz.prog.info? 245).map (·.size) = some 2 := by kernel_rfl
theorem bldCells : Tryz.prog.cellsOf 245 = 2 := by kernel_rfl
set_option maxHeartbeats 1000000 in
set_option maxRecDepth 100000 in
theorem copyCheck_used (b : Nat) (w : World) (h0 : w.cell? ⟨b, 0, none⟩ = some (.pointer (some ⟨b, 0, none⟩))) :
  Calls Tryz.prog 260 #[.pointer (some ⟨b, 0, none⟩)] w fun e w' => e = .returned (.tuple #[]) ∧ w' = w := by
 obtain ⟨j, hj, _⟩ := Option.map_eq_some_iff.1 bldInfo
 go_enter Tryz.func260, Tryz.ntmps260
 go_wp2
 rw [Lib.run_neq_ptr_same w _ bldPtr hj]
 go_wp2
 go_end0
 exact ⟨rfl, rfl⟩
set_option maxHeartbeats 1000000 in
set_option maxRecDepth 100000 in
theorem copyCheck_fresh (te : TypeId) (m b : Nat) (w : World) (h0 : w.cell? ⟨b, 0, none⟩ = some (.pointer none)) (hsh : w.shape? b = some (te, m)) (hm : 0 < m) (hlies : liesAt Tryz.prog Tryz.prog.depth te (m / Tryz.prog.cellsOf te) 0 245 1 = true) (hfz : w.frozen? ⟨b, 0, none⟩ = false) :
  Calls Tryz.prog 260 #[.pointer (some ⟨b, 0, none⟩)] w fun e w' => e = .returned (.tuple #[]) ∧ w' = w.setCell ⟨b, 0, none⟩ (.pointer (some ⟨b, 0, none⟩)) := by
 obtain ⟨j, hj, hjs⟩ := Option.map_eq_some_iff.1 bldInfo
 go_enter Tryz.func260, Tryz.ntmps260
 go_wp2
 rw [Lib.run_to_unsafe w ⟨b, 0, none⟩ bldPtr bldUnsafe hj (by rw [hjs]; decide) hsh hm]
 simp only [Result.andThen]
 rw [Oper.upon_value]
 go_wp2
 rw [run_callFunc_extern Tryz.func268 (by kernel_rfl) (by kernel_rfl) (by kernel_rfl) (e := Extern.AbiNoEscape.same) (by kernel_rfl)]
 rw [Lib.run_noEscape]
 simp only [Result.andThen]
 rw [Oper.upon_value]
 go_wp2
 rw [Lib.run_from_unsafe w ⟨b, 0, none⟩ bldUnsafe bldPtr hj hsh hlies]
 simp only [Result.andThen]
 rw [Oper.upon_value]
 go_wp2
 go_end0
 exact ⟨rfl, rfl⟩
theorem bldBytePtr : Tryz.prog.underlying 255 = some (.pointer 5) := by kernel_rfl
theorem bldByte1 : Tryz.prog.cellsOf 5 = 1 := by kernel_rfl
set_option maxHeartbeats 2000000 in
set_option maxRecDepth 100000 in
theorem builderString_nil (b : Nat) (w : World) (c0 : w.cell? ⟨b, 1, none⟩ = some (.slice none 0 0)) :
  Calls Tryz.prog 250 #[.pointer (some ⟨b, 0, none⟩)] w fun e w' => e = .returned (.string ⟨#[]⟩) ∧ w' = w.drew := by
 have hUS := fun (W : World) (q : Option Addr) => Lib.run_unsafeString_none (P := Tryz.prog) (w := W) 255 3 9 q
 have c1 : w.drew.cell? ⟨b, 1, none⟩ = some (.slice none 0 0) := c0
 have hSD : (Builtin.unsafeSliceData_ #[228] 255 #[.slice none 0 0]).run Tryz.prog w.drew = .ok (.pointer none) w.drew := rfl
 have mixed : Tryz.prog.follows .mixedOrders = true := by kernel_rfl
 go_enter Tryz.func250, Tryz.ntmps250
 go_wp2
 go_region_o
 all_goals (go_wp2; go_ret; exact ⟨rfl, rfl⟩)
set_option maxHeartbeats 2000000 in
set_option maxRecDepth 100000 in
theorem builderString_room (b cap : Nat) (a : Addr) (w : World) (hc0 : cap ≠ 0) (c0 : w.cell? ⟨b, 1, none⟩ = some (.slice (some a) 0 cap)) :
  Calls Tryz.prog 250 #[.pointer (some ⟨b, 0, none⟩)] w fun e w' => e = .returned (.string ⟨#[]⟩) ∧ w' = w.drew := by
 have hUS := fun (W : World) (q : Option Addr) => Lib.run_unsafeString_none (P := Tryz.prog) (w := W) 255 3 9 q
 have c1 : w.drew.cell? ⟨b, 1, none⟩ = some (.slice (some a) 0 cap) := c0
 have hSD : (Builtin.unsafeSliceData_ #[228] 255 #[.slice (some a) 0 cap]).run Tryz.prog w.drew = .ok (.pointer (some a)) w.drew := Lib.run_unsafeSliceData_row _ _ _ _ _ _ hc0
 clear hc0
 have mixed : Tryz.prog.follows .mixedOrders = true := by kernel_rfl
 go_enter Tryz.func250, Tryz.ntmps250
 go_wp2
 go_region_o
 all_goals (go_wp2; go_ret; exact ⟨rfl, rfl⟩)
set_option maxHeartbeats 2000000 in
set_option maxRecDepth 100000 in
theorem builderString_some (b g cap : Nat) (cur : Array Value) (fr : Nat × Nat) (l : List UInt8) (w : World) (h0 : l ≠ []) (c0 : w.cell? ⟨b, 1, none⟩ = some (.slice (some ⟨g, 0, none⟩) l.length cap))
  (hg : w.heap[g]? = some (.cells cur 5 fr)) (hcap : l.length <= cap) (hcur : l.length <= cur.size) (h63 : l.length <= 9223372036854775807) (hcell : ∀ (j : Nat) (x : UInt8), l[j]? = some x -> cur[j]? = some (Value.int .u8 x.toNat)) :
  Calls Tryz.prog 250 #[.pointer (some ⟨b, 0, none⟩)] w fun e w' => e = .returned (.string ⟨l.toArray⟩) ∧ w' = w.drew.freeze ⟨g, 0, none⟩ l.length := by
 have hl0 : l.length ≠ 0 := by simpa using h0
 have c1 : w.drew.cell? ⟨b, 1, none⟩ = some (.slice (some ⟨g, 0, none⟩) l.length cap) := c0
 have hg' : w.drew.heap[g]? = some (.cells cur 5 fr) := hg
 have hSD : (Builtin.unsafeSliceData_ #[228] 255 #[.slice (some ⟨g, 0, none⟩) l.length cap]).run Tryz.prog w.drew = .ok (.pointer (some ⟨g, 0, none⟩)) w.drew :=
  Lib.run_unsafeSliceData_row _ _ _ _ _ _ (by omega)
 have hUS : (Builtin.unsafeString_ #[255, 3] 9 #[.pointer (some ⟨g, 0, none⟩), .int .i64 l.length]).run Tryz.prog w.drew = .ok (.string ⟨l.toArray⟩) (w.drew.freeze ⟨g, 0, none⟩ l.length) := by
  refine Lib.run_unsafeString_row (P := Tryz.prog) (w := w.drew) 255 3 9 5 bldBytePtr bldByte1 g cur.size (by simp [World.shape?, hg']) l h0 hcur h63 ?_
  intro j x hx
  have e : ((⟨g, 0, none⟩ : Addr).add j) = ⟨g, j, none⟩ := by
   simp [Addr.add]
   exact fun h => h.symm
  rw [e, Lib.cell_of_heap hg']
  exact hcell j x hx
 have mixed : Tryz.prog.follows .mixedOrders = true := by kernel_rfl
 go_enter Tryz.func250, Tryz.ntmps250
 go_wp2
 go_region_o
 all_goals (go_wp2; go_ret; exact ⟨rfl, rfl⟩)
end Go.Proofs.YtigcpfbpmnppcaaGreatDoor
namespace Go.Proofs.YtigcpfbpmnppcaaGreatDoor
set_option linter.unusedSimpArgs false
set_option linter.unusedVariables false
open Go.Fw
theorem liesAt_self {P : Program} {e : TypeId} {k : Nat} (hc : P.cellsOf e = k + 1) (count : Nat) (hn : 1 <= count) : liesAt P P.depth e count 0 e 1 = true := by
 have hd : P.depth = (2 * (P.types.size + Made.depth) + 1) + 1 := rfl
 rw [hd]
 simp only [liesAt, Bool.or_eq_true]
 left
 rw [hd]
 simp [rowAt, hc, hn, sameLayout]
theorem row1_facts {K : Ctx} {objs : Objs} {w : World} {o ver k : Nat} {te : TypeId} {xs : List AVal} (hm : MemSat K objs w) (hp : objs[o]? = some (ver, .row te k [xs])) :
  K.C o ver ≠ 0 ∧ ∃ (c : Array Value) (fr : Nat × Nat), w.heap[K.ρ o ver]? = some (.cells c te fr) ∧ frFree fr c.size ∧ c.size = K.C o ver * k ∧ (∀ u ∈ c.toList, u.oneCell' = true) ∧ ∀ (j : Nat) (x : AVal), xs[j]? = some x -> ∃ u : Value, c[j]? = some u ∧ Rep K x u := by
 obtain ⟨h1, h2, h3⟩ := hm.obj o _ hp
 have hC : K.C o ver ≠ 0 := by simp at h2; omega
 obtain ⟨c, ⟨fr, hfr, hb⟩, hs, h1', hr⟩ := h3 hC
 refine ⟨hC, c, fr, hb, hfr, hs, h1', fun j x hx => ?_⟩
 obtain ⟨u, hu, hru⟩ := hr 0 j xs x rfl hx
 exact ⟨u, by simpa using hu, hru⟩
theorem setCell_row {w : World} {b off : Nat} {c : Array Value} {te : TypeId} {fr : Nat × Nat} (hb : w.heap[b]? = some (.cells c te fr)) (v : Value) : w.setCell ⟨b, off, none⟩ v = w.setRow b (c.setIfInBounds off v) := by
 unfold World.setCell World.setRow
 congr 1
 apply Array.ext_getElem?
 intro i
 simp only [Array.getElem?_modify]
 by_cases hi : b = i
 ·subst hi
  simp [hb]
 ·simp [hi]
theorem frozen_row {w : World} {b off : Nat} {c : Array Value} {te : TypeId} {fr : Nat × Nat} (hb : w.heap[b]? = some (.cells c te fr)) (hfr : frFree fr c.size) (ho : off < c.size) : w.frozen? ⟨b, off, none⟩ = false := by
 have := hfr off ho
 simp only [World.frozen?, hb]
 simp
 omega
theorem copyCheck_fresh_m {x : AVal} {rest : Objs} {n0 : Nat} (hn : n0 <= rest.length + 1) : AMoves Tryz.prog 260 [.ptr 0 0 2 0 0] ((0, .row 245 2 [[.lit (.pointer none), x]]) :: rest) n0 (.tup []) ((0, .row 245 2 [[.ptr 0 0 2 0 0, x]]) :: rest) := by
 intro K w vs hm hr
 have hp : (((0, .row 245 2 [[.lit (.pointer none), x]]) :: rest : Objs))[0]? = some (0, .row 245 2 [[.lit (.pointer none), x]]) := rfl
 obtain ⟨hC, c, fr, hb, hfr, hs, h1, hx⟩ := row1_facts hm hp
 have hvs : vs = [.pointer (some ⟨K.ρ 0 0, 0, none⟩)] := by
  obtain ⟨v, rfl⟩ : ∃ v, vs = [v] := List.length_eq_one_iff.1 hr.1
  obtain ⟨e, _, _⟩ := rep_ptr (hr.2 0 _ _ rfl rfl)
  rw [e]
 subst hvs
 have hsz : 2 <= c.size := by rw [hs]; omega
 obtain ⟨u0, hu0, hr0⟩ := hx 0 _ rfl
 obtain ⟨u1, hu1, hr1⟩ := hx 1 _ rfl
 have e0 := rep_lit hr0
 subst e0
 have hc0 : w.cell? ⟨K.ρ 0 0, 0, none⟩ = some (.pointer none) := by rw [Lib.cell_of_heap hb]; exact hu0
 refine (copyCheck_fresh 245 c.size (K.ρ 0 0) w hc0 (by simp [World.shape?, hb]) (by omega) ?_ (frozen_row hb hfr (by omega))).mono ?_
 ·rw [bldCells, hs]
  exact liesAt_self bldCells _ (by rw [Nat.mul_div_cancel _ (by decide)]; omega)
 ·rintro e w' ⟨rfl, rfl⟩
  refine ⟨_, K, rfl, cut_le (by rw [← hm.len]; exact hn), ?_, .tup _ [] rfl (fun i x v h => by simp at h)⟩
  rw [setCell_row hb]
  have hm' := hm.setRow hp hC c (c.setIfInBounds 0 (.pointer (some ⟨K.ρ 0 0, 0, none⟩))) ⟨fr, hfr, hb⟩ (by simp) (fun u hu => ?_) [[.ptr 0 0 2 0 0, x]] (by simp; omega) (by simp) (fun i j e y he hy => ?_)
  ·exact hm'
  ·rw [Array.toList_setIfInBounds] at hu
   rcases List.mem_or_eq_of_mem_set hu with hu | rfl
   ·exact h1 u hu
   ·rfl
  ·have hi : i = 0 := by have := (List.getElem?_eq_some_iff.1 he).1; simp at this; omega
   subst hi
   simp at he
   subst he
   rcases j with _ | _ | j
   ·simp at hy
    subst hy
    refine ⟨.pointer (some ⟨K.ρ 0 0, 0, none⟩), by rw [show 0 * 2 + 0 = 0 from rfl, Array.getElem?_setIfInBounds, if_pos rfl, if_pos (by omega)], ?_⟩
    have := Rep.ptr (K := K) 0 0 2 0 0 (by rw [← hm.len]; exact Nat.succ_pos _) (Nat.zero_le _)
    simpa using this
   ·simp at hy
    subst hy
    refine ⟨u1, ?_, hr1⟩
    rw [Array.getElem?_setIfInBounds_ne (by omega)]
    simpa using hu1
   ·simp at hy
theorem copyCheck_used_m {x : AVal} {rest : Objs} {n0 : Nat} (hn : n0 <= rest.length + 1) : AMoves Tryz.prog 260 [.ptr 0 0 2 0 0] ((0, .row 245 2 [[.ptr 0 0 2 0 0, x]]) :: rest) n0 (.tup []) ((0, .row 245 2 [[.ptr 0 0 2 0 0, x]]) :: rest) := by
 intro K w vs hm hr
 have hp : (((0, .row 245 2 [[.ptr 0 0 2 0 0, x]]) :: rest : Objs))[0]? = some (0, .row 245 2 [[.ptr 0 0 2 0 0, x]]) := rfl
 obtain ⟨hC, c, fr, hb, hfr, hs, h1, hx⟩ := row1_facts hm hp
 have hvs : vs = [.pointer (some ⟨K.ρ 0 0, 0, none⟩)] := by
  obtain ⟨v, rfl⟩ : ∃ v, vs = [v] := List.length_eq_one_iff.1 hr.1
  obtain ⟨e, _, _⟩ := rep_ptr (hr.2 0 _ _ rfl rfl)
  rw [e]
 subst hvs
 obtain ⟨u0, hu0, hr0⟩ := hx 0 _ rfl
 obtain ⟨e0, _, _⟩ := rep_ptr hr0
 subst e0
 have hc0 : w.cell? ⟨K.ρ 0 0, 0, none⟩ = some (.pointer (some ⟨K.ρ 0 0, 0, none⟩)) := by rw [Lib.cell_of_heap hb]; simpa using hu0
 refine (copyCheck_used (K.ρ 0 0) w hc0).mono ?_
 rintro e w' ⟨rfl, rfl⟩
 exact ⟨_, K, rfl, cut_le (by rw [← hm.len]; exact hn), hm, .tup _ [] rfl (fun i x v h => by simp at h)⟩
theorem setRow_same {w : World} {b : Nat} {c : Array Value} {te : TypeId} {fr : Nat × Nat} (hb : w.heap[b]? = some (.cells c te fr)) : w.setRow b c = w := by
 have e : w.setRow b c = { w with heap := w.heap } := by
  unfold World.setRow
  congr 1
  apply Array.ext_getElem?
  intro i
  rw [Array.getElem?_modify]
  by_cases hi : b = i
  ·subst hi
   rw [if_pos rfl, hb]; rfl
  ·rw [if_neg hi]
 exact e
theorem copyCheck_m {x : AVal} {rest : Objs} {n0 : Nat} (hn : n0 <= rest.length + 1) : AMoves Tryz.prog 260 [.ptr 0 0 2 0 0] ((0, .row 245 2 [[.sel 0 0 2 0 0, x]]) :: rest) n0 (.tup []) ((0, .row 245 2 [[.ptr 0 0 2 0 0, x]]) :: rest) := by
 intro K w vs hm hr
 obtain ⟨hC, c, fr, hb, hfr, hs, h1, hx⟩ := row1_facts hm (o := 0) (ver := 0) (k := 2) (te := 245) (xs := [.sel 0 0 2 0 0, x]) rfl
 obtain ⟨u0, hu0, hr0⟩ := hx 0 _ rfl
 have one : ∀ {a : AVal}, Rep K a u0 -> ∀ u, c[0]? = some u -> Rep K a u := fun h u hu => by rw [hu0] at hu; cases hu; exact h
 have tell : ∀ {a : AVal}, Rep K a u0 -> MemSat K ((0, .row 245 2 [[a, x]]) :: rest) w := by
  intro a ha
  have hp : ((0, .row 245 2 [[.sel 0 0 2 0 0, x]]) :: rest : Objs)[0]? = some (0, .row 245 2 [[.sel 0 0 2 0 0, x]]) := rfl
  have hm' := hm.setRow hp hC c c ⟨fr, hfr, hb⟩ rfl h1 [[a, x]] (by simp; omega) (by simp) (fun i j e y he hy => ?_)
  ·rw [setRow_same hb] at hm'
   exact hm'
  ·have hi : i = 0 := by have := (List.getElem?_eq_some_iff.1 he).1; simp at this; omega
   subst hi
   simp at he
   subst he
   rcases j with _ | _ | j
   ·simp at hy
    subst hy
    exact ⟨u0, by simpa using hu0, ha⟩
   ·simp at hy
    subst hy
    obtain ⟨u1, hu1, hr1⟩ := hx 1 _ rfl
    exact ⟨u1, by simpa using hu1, hr1⟩
   ·simp at hy
 cases hr0 with
 | selNil => exact copyCheck_fresh_m hn K w vs (tell (.lit _)) hr
 | selPtr _ _ _ _ _ ho hv => exact copyCheck_used_m hn K w vs (tell (.ptr _ _ _ _ _ ho hv)) hr
abbrev bytesRow (l : List Int) : AObj := .row 5 1 (l.map fun q => [Y q])
set_option maxRecDepth 20000
set_option maxHeartbeats 4000000
attribute [local irreducible] ACalls AMoves
end Go.Proofs.YtigcpfbpmnppcaaGreatDoor
namespace Go.Proofs.YtigcpfbpmnppcaaGreatDoor
set_option linter.unusedSimpArgs false
set_option linter.unusedVariables false
open Go.Fw
theorem freeze_setB {w : World} {g n : Nat} {c : Array Value} {t : TypeId} {fr : Nat × Nat} (hg : w.heap[g]? = some (.cells c t fr)) : ∃ fr', w.freeze ⟨g, 0, none⟩ n = setB w g (.cells c t fr') := by
 unfold World.freeze
 by_cases hn : n = 0
 ·rw [if_pos hn]
  refine ⟨fr, ?_⟩
  have e : w.heap = w.heap.setIfInBounds g (.cells c t fr) := by
   apply Array.ext_getElem?
   intro i
   rw [Array.getElem?_setIfInBounds]
   by_cases hi : g = i
   ·subst hi
    have := (Array.getElem?_eq_some_iff.1 hg).1
    rw [if_pos rfl, if_pos this, hg]
   ·rw [if_neg hi]
  unfold setB
  rw [← e]
 ·rw [if_neg hn]
  obtain ⟨lo, hi⟩ := fr
  refine ⟨if lo == hi then (0, 0 + n) else (min lo 0, max hi (0 + n)), ?_⟩
  unfold setB
  congr 1
  apply Array.ext_getElem?
  intro i
  rw [Array.getElem?_setIfInBounds, Array.getElem?_modify]
  by_cases hi : g = i
  ·subst hi
   have := (Array.getElem?_eq_some_iff.1 hg).1
   rw [if_pos rfl, if_pos rfl, if_pos this, hg]
   rfl
  ·rw [if_neg hi, if_neg hi]
section
variable {K : Ctx} {objs : Objs} {w : World}
theorem MemSat.kill (h : MemSat K objs w) {o ver : Nat} {p : AObj} (hp : objs[o]? = some (ver, p)) (hlive : p.live = true) (hC : K.C o ver ≠ 0) (b : Obj) : MemSat K (objs.set o (ver, .dead)) (setB w (K.ρ o ver) b) := by
 have hlo := h.lo o _ hp hlive hC
 have holt : o < objs.length := (List.getElem?_eq_some_iff.1 hp).1
 have get : ∀ o' q, (objs.set o (ver, .dead))[o']? = some q -> (o' = o ∧ q = (ver, .dead)) ∨ (o' ≠ o ∧ objs[o']? = some q) := by
  intro o' q hq
  by_cases ho : o' = o
  ·subst ho
   rw [List.getElem?_set_self holt] at hq
   exact Or.inl ⟨rfl, (Option.some.inj hq).symm⟩
  ·rw [List.getElem?_set_ne (Ne.symm ho)] at hq
   exact Or.inr ⟨ho, hq⟩
 refine ⟨by rw [List.length_set]; exact h.len, fun o' q hq => ?_, fun o' q hq => ?_, fun o' q hq hl' hC' => ?_, fun o1 o2 q1 q2 h1 h2 l1 l2 c1 c2 hne => ?_, fun b' i u hu => ?_, ?_⟩
 ·rcases get o' q hq with ⟨rfl, rfl⟩ | ⟨_, hq⟩
  ·exact h.ver o' (ver, p) hp
  ·exact h.ver o' _ hq
 ·rcases get o' q hq with ⟨rfl, rfl⟩ | ⟨ho, hq⟩
  ·trivial
  ·refine (h.obj o' q hq).mono (Ctx.le.refl K) (h.olt hq) (by rw [h.ver o' q hq]; exact Nat.le_refl _) (fun hl' hC' => setB_ne ?_)
   exact h.dis o' o q _ hq hp hl' hlive hC' hC ho
 ·rcases get o' q hq with ⟨rfl, rfl⟩ | ⟨ho, hq⟩
  ·cases hl'
  ·obtain ⟨g1, g2, g3⟩ := h.lo o' q hq hl' hC'
   exact ⟨g1, by simpa [setB] using g2, g3⟩
 ·rcases get o1 q1 h1 with ⟨rfl, rfl⟩ | ⟨_, h1⟩
  ·cases l1
  ·rcases get o2 q2 h2 with ⟨rfl, rfl⟩ | ⟨_, h2⟩
   ·cases l2
   ·exact h.dis o1 o2 q1 q2 h1 h2 l1 l2 c1 c2 hne
 ·have := h.mem b' i u hu
  have hne : b' ≠ K.ρ o ver := by
   intro hb
   rw [hb, hlo.2.2 i] at hu
   cases hu
  refine ⟨?_, this.2⟩
  have e : (setB w (K.ρ o ver) b).cell? ⟨b', i, none⟩ = w.cell? ⟨b', i, none⟩ := by
   simp only [World.cell?, setB_ne hne]
  rw [e]
  exact this.1
 ·refine h.below.step rfl rfl rfl rfl rfl (by simp [setB]) fun b' y hy => setB_ne ?_
  rintro rfl
  rw [hlo.1] at hy
  cases hy
end
def byteIn (l : List Int) : Prop := ∀ n ∈ l, 0 <= n ∧ n <= 255
theorem byteIn_nil : byteIn [] := fun n h => nomatch h
theorem wu8_in (n : Int) : 0 <= wu8 n ∧ wu8 n <= 255 := by
 simp only [IntKind.wrap, IntKind.bits, IntKind.signed]
 simp
 omega
theorem byteIn_app {l k : List Int} (h : byteIn l) (g : byteIn k) : byteIn (l ++ k) := fun n hn => by
 rcases List.mem_append.1 hn with hn | hn
 ·exact h n hn
 ·exact g n hn
theorem byteIn_cons {c : Int} {k : List Int} (h : 0 <= c ∧ c <= 255) (g : byteIn k) : byteIn (c :: k) := fun n hn => by
 rcases List.mem_cons.1 hn with rfl | hn
 ·exact h
 ·exact g n hn
theorem bytesStr_data1 : ∀ (l : List Int) (r : ByteArray), (l.foldl (fun r n => r.push (UInt8.ofNat n.toNat)) r).data.toList = r.data.toList ++ l.map fun n => UInt8.ofNat n.toNat
 | [], r => by simp
 | n :: l, r => by
  rw [List.foldl_cons, bytesStr_data1 l]
  simp [ByteArray.push]
theorem bytesStr_data (l : List Int) : bytesStr l = ⟨(l.map fun n => UInt8.ofNat n.toNat).toArray⟩ := by
 have := bytesStr_data1 l ByteArray.empty
 apply ByteArray.ext
 apply Array.ext'
 unfold bytesStr
 rw [this]
 rfl
theorem String_some {x : AVal} (l : List Int) (h0 : l ≠ []) (hb : byteIn l) (hl : l.length <= 4294967296) : AMoves Tryz.prog 250 [.ptr 0 0 2 0 0] [(0, .row 245 2 [[x, .own 1 0 1 0 l.length]]), (0, bytesRow l)] 1 (Sg (bytesStr l)) [(0, .row 245 2 [[.any, .any]])] := by
 intro K w vs hm hr
 have hp0 : ([(0, .row 245 2 [[x, .own 1 0 1 0 l.length]]), (0, bytesRow l)] : Objs)[0]? = some (0, .row 245 2 [[x, .own 1 0 1 0 l.length]]) := rfl
 have hp1 : ([(0, .row 245 2 [[x, .own 1 0 1 0 l.length]]), (0, bytesRow l)] : Objs)[1]? = some (0, bytesRow l) := rfl
 obtain ⟨hC, c, fr, hbk, hfr, hs, h1, hx⟩ := row1_facts hm hp0
 have hvs : vs = [.pointer (some ⟨K.ρ 0 0, 0, none⟩)] := by
  obtain ⟨v, rfl⟩ : ∃ v, vs = [v] := List.length_eq_one_iff.1 hr.1
  obtain ⟨e, _, _⟩ := rep_ptr (hr.2 0 _ _ rfl rfl)
  rw [e]
 subst hvs
 have hlen : l.length ≠ 0 := by simpa using h0
 obtain ⟨u1, hu1, hr1⟩ := hx 1 _ rfl
 obtain ⟨_, _, hcase⟩ := rep_own hr1
 rcases hcase with ⟨_, q, _⟩ | ⟨a, cap, rfl, q1, q2, q3⟩
 ·exact absurd q hlen
 have ha := q3 (by omega)
 simp only [Nat.zero_mul] at ha
 subst ha
 obtain ⟨g1, g2, g3⟩ := hm.obj 1 _ hp1
 have hC1 : K.C 1 0 ≠ 0 := by simp at g2; omega
 obtain ⟨cur, ⟨fr1, hfr1, hbk1⟩, hs1, h11, hcr⟩ := g3 hC1
 have hcell : ∀ (j : Nat) (x : UInt8), (l.map fun n => UInt8.ofNat n.toNat)[j]? = some x -> cur[j]? = some (Value.int .u8 x.toNat) := by
  intro j x hx
  rw [List.getElem?_map] at hx
  cases hj : l[j]? with
  | none => rw [hj] at hx; cases hx
  | some n =>
   rw [hj] at hx
   simp only [Option.map_some, Option.some.injEq] at hx
   subst hx
   obtain ⟨u, hu, hru⟩ := hcr j 0 [Y n] (Y n) (by rw [List.getElem?_map, hj]; rfl) rfl
   have e := rep_lit hru
   subst e
   have hn := hb n (List.mem_of_getElem? hj)
   rw [show j * 1 + 0 = j by omega] at hu
   rw [hu]
   congr 2
   rw [UInt8.toNat_ofNat']
   omega
 have hcurs : l.length <= cur.size := by
  have e : cur.size = K.C 1 0 * 1 := hs1
  simp at g2
  omega
 have c0 : w.cell? ⟨K.ρ 0 0, 1, none⟩ = some (.slice (some ⟨K.ρ 1 0, 0, none⟩) (l.map fun n => UInt8.ofNat n.toNat).length cap) := by
  rw [Lib.cell_of_heap hbk, List.length_map]; exact hu1
 refine (builderString_some (K.ρ 0 0) (K.ρ 1 0) cap cur fr1 (l.map fun n => UInt8.ofNat n.toNat) w (by simpa using h0) c0 hbk1 (by rw [List.length_map]; exact q1) (by rw [List.length_map]; exact hcurs) (by rw [List.length_map]; omega) hcell).mono ?_
 rintro e w' ⟨rfl, rfl⟩
 obtain ⟨fr2, hfz⟩ := freeze_setB (w := w.drew) (n := (l.map fun n => UInt8.ofNat n.toNat).length) (g := K.ρ 1 0) hbk1
 have hm2 := MemSat.kill hm.drew hp1 rfl hC1 (.cells cur 5 fr2)
 rw [← hfz] at hm2
 have told : Go.Fw.Told 1 (Sg (bytesStr l)) [(0, .row 245 2 [[x, .own 1 0 1 0 l.length]]), (0, .dead)] (Sg (bytesStr l)) [(0, .row 245 2 [[.any, .any]])] :=
  told_turnI [0] rfl (by decide) (.cons 0 _ _ _ _ rfl (turn_row1 (.cons _ _ _ _ (fun _ _ _ _ _ => .any _) (.cons _ _ _ _ (fun _ _ _ _ _ => .any _) .nil))) .nil) (turn_low (low2_sound rfl))
 obtain ⟨K', hle, hm3, hr3⟩ := told (K.cut 1) K _ (.string (bytesStr l)) rfl (cut_le (by rw [← hm.len]; simp)) hm2 (.lit _)
 refine ⟨_, K', ?_, hle, hm3, hr3⟩
 rw [bytesStr_data]
theorem String_c (l : List Int) (hb : byteIn l) (hl : l.length <= 4294967296) : AMoves Tryz.prog 250 [.ptr 0 0 2 0 0] [(0, .row 245 2 [[.any, .buf 1 0 1 l.length]]), (0, bytesRow l)] 1 (Sg (bytesStr l)) [(0, .row 245 2 [[.any, .any]])] := by
 by_cases h0 : l = []
 ·subst h0
  intro K w vs hm hr
  have hp0 : ([(0, .row 245 2 [[.any, .buf 1 0 1 ([] : List Int).length]]), (0, bytesRow [])] : Objs)[0]? = some (0, .row 245 2 [[.any, .buf 1 0 1 ([] : List Int).length]]) := rfl
  obtain ⟨hC, c, fr, hbk, hfr, hs, h1, hx⟩ := row1_facts hm hp0
  have hvs : vs = [.pointer (some ⟨K.ρ 0 0, 0, none⟩)] := by
   obtain ⟨v, rfl⟩ : ∃ v, vs = [v] := List.length_eq_one_iff.1 hr.1
   obtain ⟨e, _, _⟩ := rep_ptr (hr.2 0 _ _ rfl rfl)
   rw [e]
  subst hvs
  obtain ⟨u1, hu1, hr1⟩ := hx 1 _ rfl
  have told : Go.Fw.Told 1 (Sg (bytesStr [])) [(0, .row 245 2 [[.any, .buf 1 0 1 ([] : List Int).length]]), (0, bytesRow [])] (Sg (bytesStr [])) [(0, .row 245 2 [[.any, .any]])] :=
   told_turnI [0] rfl (by decide) (.cons 0 _ _ _ _ rfl (turn_row1 (.cons _ _ _ _ (fun _ _ _ _ _ => .any _) (.cons _ _ _ _ (fun _ _ _ _ _ => .any _) .nil))) .nil) (turn_low (low2_sound rfl))
  obtain ⟨K', hle, hm3, hr3⟩ := told (K.cut 1) K _ (.string (bytesStr [])) rfl (cut_le (by rw [← hm.len]; simp)) hm.drew (.lit _)
  have c0 : w.cell? ⟨K.ρ 0 0, 1, none⟩ = some u1 := by rw [Lib.cell_of_heap hbk]; exact hu1
  have fin : Calls Tryz.prog 250 #[.pointer (some ⟨K.ρ 0 0, 0, none⟩)] w fun e w' => e = .returned (.string ⟨#[]⟩) ∧ w' = w.drew := by
   generalize hn : ([] : List Int).length = n at hr1
   cases hr1 with
   | bufNil => exact builderString_nil _ w c0
   | bufSome _ _ _ _ cap ho hv hl' hc hC' =>
    have hn' : n = 0 := hn.symm
    subst hn'
    exact builderString_room _ cap _ w hc c0
  refine fin.mono ?_
  rintro e w' ⟨rfl, rfl⟩
  exact ⟨_, K', rfl, hle, hm3, hr3⟩
 ·intro K w vs hm hr
  have hm' : MemSat K [(0, .row 245 2 [[.any, .own 1 0 1 0 l.length]]), (0, bytesRow l)] w := by
   have hp0 : ([(0, .row 245 2 [[.any, .buf 1 0 1 l.length]]), (0, bytesRow l)] : Objs)[0]? = some (0, .row 245 2 [[.any, .buf 1 0 1 l.length]]) := rfl
   obtain ⟨hC, c, fr, hbk, hfr, hs, h1, hx⟩ := row1_facts hm hp0
   have hm' := hm.setRow hp0 hC c c ⟨fr, hfr, hbk⟩ rfl h1 [[.any, .own 1 0 1 0 l.length]] (by simp; omega) (by simp) (fun i j e y he hy => ?_)
   ·rw [setRow_same hbk] at hm'
    exact hm'
   ·have hi : i = 0 := by have := (List.getElem?_eq_some_iff.1 he).1; simp at this; omega
    subst hi
    simp at he
    subst he
    rcases j with _ | _ | j
    ·simp at hy
     subst hy
     obtain ⟨u0, hu0, _⟩ := hx 0 _ rfl
     exact ⟨u0, by simpa using hu0, .any _⟩
    ·simp at hy
     subst hy
     obtain ⟨u1, hu1, hr1⟩ := hx 1 _ rfl
     exact ⟨u1, by simpa using hu1, own_of_buf hr1⟩
    ·simp at hy
  exact String_some l h0 hb hl K w vs hm' hr
end Go.Proofs.YtigcpfbpmnppcaaGreatDoor
namespace Go.Proofs.YtigcpfbpmnppcaaGreatDoor
set_option linter.unusedSimpArgs false
set_option linter.unusedVariables false
open Go.RowKit Go.Shelf
attribute [local go_sem] Oper.semAt_some
def downFrom (hi : Int) (k : Nat) : List Int := (List.range k).map fun (i : Nat) => hi - (i : Int)
theorem downFrom_succ (hi : Int) (k : Nat) : downFrom hi (k + 1) = downFrom hi k ++ [hi - (k : Int)] := by simp [downFrom, List.range_succ]
theorem downFrom_length (hi : Int) (k : Nat) : (downFrom hi k).length = k := by simp [downFrom]
def leftOf (lo : Int) : Value -> Nat
 | .int _ n => (n - lo + 1).toNat
 | _ => 0
theorem sizes_in (n : Nat) (hn : 1 <= n) (l Bt Bf : Nat) (lo hi : Int) (h1 : 1 <= lo) (h2 : lo <= hi) (h3 : hi <= 48) (J Jx : List Int -> World -> Prop)
  (hY : ∀ pre x W, J pre W -> pre.length < (hi - lo + 1).toNat -> YieldAt Fence.wide (n - 1) Tryz.prog l #[.int .i64 x] W fun e W' =>
   (e = .returned (.bool true) ∧ J (pre ++ [x]) W' ∧ (W.cell? ⟨Bf, 0, none⟩ = some (.int .i64 lo) -> W'.cell? ⟨Bf, 0, none⟩ = some (.int .i64 lo))) ∨ (e = .returned (.bool false) ∧ Jx (pre ++ [x]) W'))
  (W : World) (hT : W.cell? ⟨Bt, 0, none⟩ = some (.int .i64 hi)) (hF : W.cell? ⟨Bf, 0, none⟩ = some (.int .i64 lo)) (h0 : J [] W) :
  CallsIn Fence.wide n Tryz.prog 233 #[.func (.yield l) #[] #[], .pointer (some ⟨Bt, 0, none⟩), .pointer (some ⟨Bf, 0, none⟩)] W fun e W' => (∃ v, e = .returned v) ∧
   ((∃ ys, ys = downFrom hi (hi - lo + 1).toNat ∧ J ys W') ∨ (∃ pre, True ∧ Jx pre W')) := by
 refine callsIn_of_wp Tryz.func233 rfl trivial ?_ rfl
 simp only [Tryz.ntmps233, List.size_toArray, List.length_cons, List.length_nil, Nat.reduceAdd, Nat.reduceSub, Array.replicate_succ, Array.replicate_zero, List.push_toArray, List.append_toArray, List.nil_append, List.cons_append]
 gi_wp2
 gi_loopw [4] (fun p wr => ∃ k : Nat, p = .int .i64 (hi - (k : Int)) ∧ k <= (hi - lo + 1).toNat ∧ wr.cell? ⟨Bf, 0, none⟩ = some (.int .i64 lo) ∧ J (downFrom hi k) wr)
  (fun p _ => leftOf lo p)
 case atStart =>
  exact ⟨0, by simp, by omega, hF, h0⟩
 case round =>
  obtain ⟨k, rfl, hk, hc, hJs⟩ := hrel
  by_cases hle : lo <= hi - (k : Int)
  ·obtain ⟨fn, tmps, assign, body, hy, hR⟩ := hY (downFrom hi k) (hi - (k : Int)) wr hJs (by rw [downFrom_length]; omega)
   have hd : decide (hi - (k : Int) >= lo) = true := decide_eq_true hle
   gi_wp2
   refine hR.mono ?_
   rintro e W3 (⟨rfl, hJ3, hk3⟩ | ⟨rfl, hJx3⟩)
   ·gi_wp2
    go_roundw
    case rel =>
     refine ⟨k + 1, ?_, by omega, hk3 hc, by rw [downFrom_succ]; exact hJ3⟩
     simp
     omega
    case measure =>
     simp only [leftOf]
     omega
   ·gi_wp2
    refine bodyPost_ret (results_none rfl _ _ _) rfl ?_
    exact ⟨⟨_, rfl⟩, .inr ⟨_, trivial, hJx3⟩⟩
  ·have hd : decide (hi - (k : Int) >= lo) = false := decide_eq_false (by omega)
   gi_wp2
   have hk' : k = (hi - lo + 1).toNat := by omega
   subst hk'
   go_end0
   exact ⟨⟨_, rfl⟩, .inl hJs⟩
theorem sizes_stops (n : Nat) (hn : 1 <= n) (Bt Bf : Nat) (lo hi : Int) (w : World) (h1 : 1 <= lo) (h2 : lo <= hi) (h3 : hi <= 48) (hbt : Bt < w.heap.size) (hbf : Bf < w.heap.size)
  (hT : w.cell? ⟨Bt, 0, none⟩ = some (.int .i64 hi)) (hF : w.cell? ⟨Bf, 0, none⟩ = some (.int .i64 lo)) :
  SeqStopsK Fence.wide n Tryz.prog 233 #[.pointer (some ⟨Bt, 0, none⟩), .pointer (some ⟨Bf, 0, none⟩)] (fun x : Int => #[Value.int .i64 x]) (fun W W' => W.cell? ⟨Bf, 0, none⟩ = some (.int .i64 lo) -> W'.cell? ⟨Bf, 0, none⟩ = some (.int .i64 lo)) (fun ys => ys = downFrom hi (hi - lo + 1).toNat) (fun _ => True) (hi - lo + 1).toNat w :=
 fun l J Jx W hW _ _ hY h0 => sizes_in n hn l Bt Bf lo hi h1 h2 h3 J Jx hY W ((hW.cell (p := ⟨Bt, 0, none⟩) hbt).trans hT) ((hW.cell (p := ⟨Bf, 0, none⟩) hbf).trans hF) h0
end Go.Proofs.YtigcpfbpmnppcaaGreatDoor
namespace Go.Proofs.YtigcpfbpmnppcaaGreatDoor
set_option linter.unusedSimpArgs false
set_option linter.unusedVariables false
open Go.Fw
theorem ckA {p : Prop} (h : p := by first | exact wu64_nonneg _ | omega | (simp only [bytesOf_length]; omega) | (simp only [Option.getD_some, Option.getD_none, cond_true, cond_false, Bool.and_eq_true, Bool.or_eq_true, Bool.not_eq_true', Bool.not_eq_false', Bool.not_not, decide_eq_true_eq, decide_eq_false_iff_not, beq_iff_eq, bne_iff_ne, beq_eq_false_iff_ne, bne_eq_false_iff_eq, ne_eq] at *; first | omega | (simp (disch := omega) only [wr]; omega)) | grind) : p := h
theorem leA {p : Prop} (h : p := by first | rfl | omega | (simp; omega) | grind) : p := h
theorem exA {p : Prop} (h : p := by first | omega | (dsimp only; omega) | (simp; done) | (simp; omega) | (simp [bytesOf_length]; done) | grind) : p := h
theorem omA {p : Prop} (h : p := by first | omega | (dsimp only; omega) | grind) : p := h
theorem szA {p : Prop} (h : p := by first | omega | assumption | (refine ⟨?_, ?_⟩ <;> assumption) | (simp; done) | exact getD_sz (by assumption) (by first | exact Job.szz _ | exact Usage.szz _ | exact Shape.szz _ | exact Token.szz _) | exact Shape.szz _ | exact Job.szz _ | exact State.szz _ | (rw [bytesStr_size]; omega) | (refine Nat.le_trans (runesBytes_size _) ?_; simp only [List.length_drop, List.length_take]; omega) | (dsimp only [Cmd.sz, Job.sz, Shape.sz, State.sz, Usage.sz, Token.sz, LexReader.sz, ImageReader.sz, Ref28From.sz, Cmd.szN, Job.szN, Shape.szN, State.szN, Usage.szN, Token.szN, LexReader.szN, ImageReader.szN, Ref28From.szN]; (repeat' apply And.intro) <;> first | assumption | (simp; done)) | grind) : p := h
theorem lnA {p : Prop} (h : p := by first | rfl | exact (bytesOf_length _).symm | exact bytesOf_length _ | (simp; done) | (simp [bytesOf_length]; done) | grind) : p := h
theorem eqA {p : Prop} (h : p := by first | rfl | (simp only [Nat.zero_add, Int.toNat_natCast, List.map_set]; rfl) | (rw [List.map_replicate]; rfl) | (rw [List.map_take]; rfl) | exact range_list _ _ _ | exact (bytesOf_map _) | (rw [List.map_append]; rfl) | (rw [List.map_append, ← range_list]; rfl) | (simp; done) | ((repeat rw [List.map_append]); repeat' (first | rfl | exact range_list _ _ _ | exact rangeTake _ _ _ ckA | exact rangeDrop _ _ _ _ leA | exact range_cut _ _ _ _ _ leA ckA | exact List.map_replicate | refine app_eq ?_ ?_))) : p := h
theorem cvA {p : Prop} (h : p := by first | exact newsP_own rfl lnA | exact newsP_nil | exact newsP_ownE rfl eqA lnA | exact newsP_seq (by first | rfl |  exact range_list _ _ _ | exact rangeTake _ _ _ ckA | exact rangeDrop _ _ _ _ leA | exact range_cut _ _ _ _ _ leA ckA | simp)) : p := h
theorem gkA {p : Prop} (h : p := by first | exact fun hg => decide_eq_true ckA | exact fun _ => rfl | exact rfl) : p := h
theorem apA {p : Prop} (h : p := by first | (simp; omega) | grind) : p := h
theorem roA {p : Prop} (h : p := by first | rfl | omega) : p := h
theorem ltA {i n : Nat} (h : decide ((i : Int) < (n : Int)) = true) : i < n := by have := of_decide_eq_true h; omega
theorem geA {i n : Nat} (h : decide ((i : Int) < (n : Int)) = false) : n <= i := by have := of_decide_eq_false h; omega
theorem sucA (m : Nat) (h : 0 < m := by omega) : ∃ k, m = k + 1 := ⟨m - 1, by omega⟩
end Go.Proofs.YtigcpfbpmnppcaaGreatDoor
