/-
  The evaluator: what an operation does to abstract values and objects. Definitions alone; no condition.
-/
import Derived.Test.YtlgfgcadoocgoaaFwA
namespace Go.Fw
set_option linter.unusedSimpArgs false
set_option linter.unusedVariables false

/-- A computation that touches no memory. -/
def pureRun {α : Type} (P : Program) : Sem α → Option α
  | .pure a => some a
  | .program k => pureRun P (k P)
  | .mark _ k => pureRun P k
  | _ => none

abbrev Tag := Nat × Bool

/-- A state between two statements: what is known of the slots, and the objects. -/
structure St where
  slots : List (Nat × AVal)
  objs : Objs

def getSlot : List (Nat × AVal) → Nat → AVal
  | [], _ => .any
  | (i, v) :: r, t => bif Nat.beq i t then v else getSlot r t

/-- The answer of an operation: what it wants to hold, what it gives, the objects behind it; or a call. -/
inductive ORes where
  | bad
  | val (v : AVal)
  | ifb (b : Bool) (v : AVal)
  | eff (b : Bool) (v : AVal) (objs : Objs)
  | upd (v : AVal) (objs : Objs)
  | call (f : FuncId) (args : List AVal)

def allLits : List AVal → Option (List Value)
  | [] => some []
  | .lit v :: r => (allLits r).map (v :: ·)
  | _ => none

/-- A value without memory. -/
def litOf : AVal → Option Value
  | .lit v => some v
  | .agg cs => (allLits cs).map fun l => .agg l.toArray
  | _ => none

/-- The cells of a value. -/
def cellsA : AVal → Option (List AVal)
  | .lit (.agg _) => none
  | .lit (.tuple _) => none
  | .lit v => some [.lit v]
  | .agg cs => some cs
  | .seq k n t f => some [.seq k n t f]
  | .ref cs => some [.ref cs]
  | .ptr o v k i j => some [.ptr o v k i j]
  | .own o v k f l => some [.own o v k f l]
  | .fn f a b => some [.fn f a b]
  | .ifc t a => some [.ifc t a]
  | .map o => some [.map o]
  | _ => none

def sizeA (P : Program) (t : TypeId) : Nat := match P.info? t with | some i => i.size | none => 0
def bytesA (P : Program) (t : TypeId) : Nat := match P.info? t with | some i => i.bytes | none => 0
def zeroA (P : Program) (t : TypeId) : Option (List AVal) := match P.info? t with | some i => (match i.zero with | some z => bif z.cells.toList.all (·.oneCell') && Nat.beq z.cells.size i.size then some (z.cells.toList.map .lit) else none | none => none) | none => none
def aggA (P : Program) (t : TypeId) : Option Bool :=
  match P.underlying t with
  | some (.struct _) => some true
  | some (.array _ _) => some true
  | some _ => some false
  | none => none

/-- A part of some cells: a variable of type t from off on. -/
def partA (P : Program) (t : TypeId) (cs : List AVal) (off : Nat) : Option AVal :=
  match aggA P t with
  | some true => bif Nat.ble (off + sizeA P t) cs.length then some (.agg ((cs.drop off).take (sizeA P t))) else none
  | some false => cs[off]?
  | none => none

/-- Cells laid over a list from a place on. -/
def splice (cs : List AVal) (off : Nat) (new : List AVal) : List AVal := cs.take off ++ new ++ cs.drop (off + new.length)

def rowOf (objs : Objs) (o ver k : Nat) : Option (TypeId × List (List AVal)) :=
  match objs[o]? with
  | some (v, .row t k' es) => bif Nat.beq v ver && Nat.beq k' k then some (t, es) else none
  | _ => none

def loadA (P : Program) (t : TypeId) (p : AVal) (objs : Objs) : ORes :=
  match p with
  | .ref cs => match partA P t cs 0 with | some v => .val v | none => .bad
  | .ptr o ver k i j =>
    match rowOf objs o ver k with
    | some (_, es) => (match es[i]? with | some e => (match partA P t e j with | some v => .val v | none => .bad) | none => .bad)
    | none => .bad
  | _ => .bad

def storeA (P : Program) (t : TypeId) (p x : AVal) (objs : Objs) : ORes :=
  match p, cellsA x with
  | .ptr o ver k i j, some cs =>
    match rowOf objs o ver k with
    | some (te, es) =>
      (match es[i]? with
       | some e => bif Nat.beq cs.length (sizeA P t) && Nat.ble (j + cs.length) e.length then .upd (.lit undef) (objs.set o (ver, .row te k (es.set i (splice e j cs)))) else .bad
       | none => .bad)
    | none => .bad
  | _, _ => .bad

/-- A slice's view: elements' cells, how many, whether tight. -/
def seqOf (k : Nat) : AVal → Option (Nat × Bool × (Nat → List AVal))
  | .seq k' n t f => bif Nat.beq k k' then some (n, t, f) else none
  | .lit (.slice none 0 0) => some (0, true, fun _ => [])
  | _ => none

def intOfA : AVal → Option Int
  | .lit (.int _ n) => some n
  | _ => none

def elemA (P : Program) (t : TypeId) : Option TypeId := match P.underlying t with | some (.slice e) => some e | _ => none

def indexAddrA (P : Program) (t : TypeId) (x i : AVal) : ORes :=
  match P.underlying t, intOfA i with
  | some (.slice e), some n =>
    match x with
    | .own o ver k off len => bif Nat.beq k (sizeA P e) then .ifb (decide (0 ≤ n ∧ n < (len : Int))) (.ptr o ver k (off + n.toNat) 0) else .bad
    | _ => match seqOf (sizeA P e) x with | some (len, _, f) => .ifb (decide (0 ≤ n ∧ n < (len : Int))) (.ref (f n.toNat)) | none => .bad
  | some (.array len e), some n =>
    match x with
    | .ptr o ver k i j => .ifb (decide (0 ≤ n ∧ n < (len : Int))) (.ptr o ver k i (j + n.toNat * sizeA P e))
    | .ref cs => .ifb (decide (0 ≤ n ∧ n < (len : Int))) (.ref (cs.drop (n.toNat * sizeA P e)))
    | _ => .bad
  | _, _ => .bad

def fieldA (P : Program) (t : TypeId) (f : Nat) : Option Field := match P.underlying t with | some (.struct fs) => fs[f]? | _ => none

def fieldAddrA (P : Program) (t : TypeId) (x : AVal) (f : Nat) : ORes :=
  match fieldA P t f with
  | some fd => bif Nat.beq (sizeA P fd.type) 0 then .bad else
    match x with
    | .ptr o ver k i j => .val (.ptr o ver k i (j + fd.offset))
    | .ref cs => .val (.ref (cs.drop fd.offset))
    | _ => .bad
  | none => .bad

def fillA (place : Nat → Option (Nat × Nat)) (cells : List AVal) : List (Nat × AVal) → Option (List AVal)
  | [] => some cells
  | (i, v) :: rest =>
    match place i, cellsA v with
    | some (off, size), some cs => bif Nat.beq cs.length size && Nat.ble (off + cs.length) cells.length then fillA place (splice cells off cs) rest else none
    | _, _ => none

def structPlace (P : Program) (fs : Array Field) (i : Nat) : Option (Nat × Nat) := match fs[i]? with | some f => some (f.offset, sizeA P f.type) | none => none

def buildA (P : Program) (t : TypeId) (parts : List (Nat × AVal)) : ORes :=
  match P.underlying t, zeroA P t with
  | some (.struct fs), some z =>
    (match fillA (structPlace P fs) z parts with | some cs => .val (.agg cs) | none => .bad)
  | some (.array _ e), some z =>
    (match fillA (fun i => some (i * sizeA P e, sizeA P e)) z parts with | some cs => .val (.agg cs) | none => .bad)
  | _, _ => .bad

def zerosA (z : List AVal) (n : Nat) : List AVal := (List.range n).map fun i => z.getD (i % z.length) .any

def buildSliceA (P : Program) (t : TypeId) (len : Nat) (parts : List (Nat × AVal)) : ORes :=
  match elemA P t with
  | some e => (match zeroA P e with
    | some z =>
      let k := sizeA P e
      (match fillA (fun i => some (i * k, k)) (zerosA z (len * k)) parts with
       | some cs => bif Nat.ble (len * k) 16777216 then .val (.seq k len true fun i => (cs.drop (i * k)).take k) else .bad
       | none => .bad)
    | none => .bad)
  | none => .bad

def optInt : Option AVal → Option (Option Int)
  | none => some none
  | some a => match intOfA a with | some n => some (some n) | none => none

def sliceA (P : Program) (t : TypeId) (x : AVal) (lo hi mx : Option AVal) : ORes :=
  match P.underlying t, optInt lo, optInt hi, optInt mx with
  | some (.slice e), some l, some h, some m =>
    (match x with
     | .own o ver k off len =>
       (match m with
        | none => bif Nat.beq k (sizeA P e) then .ifb (decide (0 ≤ l.getD 0 ∧ l.getD 0 ≤ h.getD len ∧ h.getD len ≤ (len : Int))) (.own o ver k (off + (l.getD 0).toNat) ((h.getD len).toNat - (l.getD 0).toNat)) else .bad
        | some _ => .bad)
     | _ => match seqOf (sizeA P e) x with
       | some (n, t, f) =>
         (match m with
          | none => .ifb (decide (0 ≤ l.getD 0 ∧ l.getD 0 ≤ h.getD n ∧ h.getD n ≤ (n : Int))) (.seq (sizeA P e) ((h.getD n).toNat - (l.getD 0).toNat) (t && decide (h.getD n = (n : Int))) fun i => f ((l.getD 0).toNat + i))
          | some m => .ifb (decide (0 ≤ l.getD 0 ∧ l.getD 0 ≤ h.getD n ∧ h.getD n ≤ m ∧ m ≤ (n : Int))) (.seq (sizeA P e) ((h.getD n).toNat - (l.getD 0).toNat) (decide (h.getD n = m)) fun i => f ((l.getD 0).toNat + i)))
       | none => .bad)
  | some .string, some l, some h, some none =>
    (match x with
     | .lit (.string s) => .ifb (decide (0 ≤ l.getD 0 ∧ l.getD 0 ≤ h.getD s.size ∧ h.getD s.size ≤ (s.size : Int))) (.lit (.string (s.extract (l.getD 0).toNat (h.getD s.size).toNat)))
     | _ => .bad)
  | _, _, _, _ => .bad

/-- == on values whose type is made of bools, integers, strings and structs of these. -/
def eqFs (P : Program) (rec : TypeId → AVal → AVal → Option Bool) (xs ys : List AVal) : List Field → Option Bool
  | [] => some true
  | f :: fs => bif f.name == "_" then none else
    match partA P f.type xs f.offset, partA P f.type ys f.offset with
    | some a, some b =>
      (match rec f.type a b, fs with
       | some p, [] => some p
       | some p, g :: gs => (match eqFs P rec xs ys (g :: gs) with | some q => some (p && q) | none => none)
       | none, _ => none)
    | _, _ => none

def eqT (P : Program) : Nat → TypeId → AVal → AVal → Option Bool
  | 0, _, _, _ => none
  | d + 1, t, x, y =>
    match P.underlying t, x, y with
    | some .bool, .lit (.bool a), .lit (.bool b) => some (a == b)
    | some (.int _), .lit (.int k a), .lit (.int k' b) => bif decide (k = k') then some (a == b) else none
    | some .string, .lit (.string a), .lit (.string b) => some (a == b)
    | some (.struct fs), .agg xs, .agg ys => eqFs P (eqT P d) xs ys fs.toList
    | _, _, _ => none

/-- No struct type of these is one that stands in for another. -/
def stoodFree (P : Program) : Nat → TypeId → Bool
  | 0, _ => false
  | d + 1, t =>
    match P.underlying t with
    | some (.struct fs) => !P.stoodInHeld t && fs.toList.all fun f => stoodFree P d f.type
    | _ => true

/-- Values of this type may be compared cell by cell. -/
def eqOK (P : Program) (t : TypeId) : Bool := !(P.eqGuardType P.depth t) && stoodFree P 8 t

def binA (P : Program) (op : BinOp) (t : TypeId) (ox oy : Operand) (x y : AVal) : ORes :=
  match x, y with
  | .lit a, .lit b => (match pureRun P (do eqGuard op t ox oy a b; binOp op t a b) with | some v => .val (.lit v) | none => .bad)
  | .agg xs, .agg ys =>
    (match op, eqT P 8 t (.agg xs) (.agg ys) with
     | .eql, some b => .ifb (eqOK P t) (.lit (.bool b))
     | .neq, some b => .ifb (eqOK P t) (.lit (.bool (!b)))
     | _, _ => .bad)
  | .seq _ n _ _, .lit (.slice none 0 0) => (match op, P.underlying t with | .eql, some (.slice _) => .ifb (decide (n ≠ 0)) (.lit (.bool false)) | .neq, some (.slice _) => .ifb (decide (n ≠ 0)) (.lit (.bool true)) | _, _ => .bad)
  | _, _ => .bad

def lenA (P : Program) (t : TypeId) (x : AVal) : ORes :=
  match P.underlying t, x with
  | some (.slice e), .seq _ n _ _ => .val (.lit (.int .i64 n))
  | some (.slice e), .own _ _ _ _ n => .val (.lit (.int .i64 n))
  | some (.slice e), .lit (.slice _ n _) => .val (.lit (.int .i64 n))
  | some .string, .lit (.string s) => .val (.lit (.int .i64 s.size))
  | some (.array n _), _ => .val (.lit (.int .i64 n))
  | _, _ => .bad

/-- What is appended: its elements. -/
def newsA (k : Nat) (x : AVal) (objs : Objs) : Option (List (List AVal)) :=
  match x with
  | .own o ver k' off len => bif Nat.beq k k' then (match rowOf objs o ver k with | some (_, es) => bif Nat.ble (off + len) es.length then some ((es.drop off).take len) else none | none => none) else none
  | _ => match seqOf k x with | some (n, _, f) => some ((List.range n).map f) | none => none

def smallA (P : Program) (e : TypeId) (n : Nat) : Bool := decide (n * bytesA P e ≤ 70368744177664 ∧ n ≤ 70368744177664)

def appendA (P : Program) (t : TypeId) (s x : AVal) (objs : Objs) : ORes :=
  match elemA P t with
  | some e =>
    (match zeroA P e, newsA (sizeA P e) x objs with
     | some _, some news =>
       (match s with
        | .own o ver k off len =>
          (match rowOf objs o ver (sizeA P e) with
           | some (te, es) =>
             bif Nat.beq k (sizeA P e) && Nat.beq off 0 && Nat.beq te e then
               .eff (Nat.beq len es.length && smallA P e (len + news.length)) (.own o (ver + 1) (sizeA P e) 0 (len + news.length)) (objs.set o (ver + 1, .row e (sizeA P e) (es ++ news)))
             else .bad
           | none => .bad)
        | _ => match seqOf (sizeA P e) s with
          | some (n, tight, f) =>
            .eff (tight && (Nat.beq n 0 || !(Nat.beq news.length 0)) && smallA P e (n + news.length)) (.own objs.length 0 (sizeA P e) 0 (n + news.length)) (objs ++ [(0, .row e (sizeA P e) ((List.range n).map f ++ news))])
          | none => .bad)
     | _, _ => .bad)
  | none => .bad

def makeSliceA (P : Program) (t : TypeId) (l c : AVal) (objs : Objs) : ORes :=
  match elemA P t, intOfA l, intOfA c with
  | some e, some n, some m =>
    (match zeroA P e with
     | some z => (.eff (decide (0 ≤ n ∧ n ≤ m ∧ m * (bytesA P e : Int) ≤ 70368744177664 ∧ m ≤ 70368744177664)) (.own objs.length 0 (sizeA P e) 0 n.toNat) (objs ++ [(0, .row e (sizeA P e) (List.replicate n.toNat z))]))
     | none => .bad)
  | _, _, _ => .bad

def minmaxA (big : Bool) : List AVal → ORes
  | [.lit (.int k a), .lit (.int k' b)] => bif big then .val (.lit (.int k (max a b))) else .val (.lit (.int k (min a b)))
  | _ => .bad

def pureA (P : Program) (s : Sem Value) : ORes := match pureRun P s with | some v => .val (.lit v) | none => .bad

/-- Types that the operation looks at are there. -/
def knownT (P : Program) (t : TypeId) : Bool :=
  match P.underlying t with
  | some (.slice e) => (P.info? e).isSome
  | some (.array _ e) => (P.info? e).isSome
  | some (.struct fs) => fs.toList.all fun f => (P.info? f.type).isSome
  | some _ => true
  | none => false

def callA (P : Program) (f : AVal) (args : List AVal) : ORes :=
  match f with
  | .fn (.func g) first captured =>
    (match P.funcs[g]? with
     | some fn => bif fn.body.isSome && !(fn.name == "runtime.NumGoroutine") then .call g (first ++ args ++ captured) else .bad
     | none => .bad)
  | _ => .bad

def evalOp (P : Program) (look : Operand → AVal) (objs : Objs) (o : Oper) : ORes :=
  match o.op with
  | .move x => .val (look x)
  | .assign x => .val (look x)
  | .alloc t => (match zeroA P t with | some z => .upd (.ptr objs.length 0 z.length 0 0) (objs ++ [(0, .row t z.length [z])]) | none => .bad)
  | .box t x => (match cellsA (look x) with | some cs => .upd (.ptr objs.length 0 cs.length 0 0) (objs ++ [(0, .row t cs.length [cs])]) | none => .bad)
  | .build t ps => bif !knownT P t then .bad else buildA P t (ps.toList.map fun p => (p.1, look p.2))
  | .buildSlice t n ps => buildSliceA P t n (ps.toList.map fun p => (p.1, look p.2))
  | .load t a => loadA P t (look a) objs
  | .store t a x => bif !(P.info? t).isSome then .bad else storeA P t (look a) (look x) objs
  | .nilCheck x => (match look x with | .ptr o v k i j => .val (.ptr o v k i j) | .ref cs => .val (.ref cs) | .fn f a b => (match f with | .func _ => .val (.fn f a b) | _ => .bad) | _ => .bad)
  | .binOp op t x y _ => binA P op t x y (look x) (look y)
  | .unOp op _ x => (match look x with | .lit v => pureA P (Op.unary op v) | _ => .bad)
  | .convert src dst x => (match look x with | .lit v => pureA P (convert src dst v) | _ => .bad)
  | .makeFunc f a b => .val (.fn f (a.toList.map look) (b.toList.map look))
  | .makeSlice t l c => makeSliceA P t (look l) (look c) objs
  | .slice t x lo hi mx => bif !knownT P t || (mx.isSome && !hi.isSome) then .bad else sliceA P t (look x) (lo.map look) (hi.map look) (mx.map look)
  | .fieldAddr t x f => fieldAddrA P t (look x) f
  | .field t x f => (match fieldA P t f, look x with | some fd, .agg cs => (match partA P fd.type cs fd.offset with | some v => .val v | none => .bad) | _, _ => .bad)
  | .indexAddr t x i => bif !knownT P t then .bad else indexAddrA P t (look x) (look i)
  | .extract x i => (match look x with | .tup cs => (match cs[i]? with | some v => .val v | none => .bad) | _ => .bad)
  | .call c =>
    (match c.callee with
     | .builtin .len => (match c.args.toList, c.argTypes.toList with | [x], [t] => lenA P t (look x) | _, _ => .bad)
     | .builtin .append => (match c.args.toList, c.argTypes.toList with | [x, y], [t, u] => bif Nat.beq t u then appendA P t (look x) (look y) objs else .bad | _, _ => .bad)
     | .builtin .min => minmaxA false (c.args.toList.map look)
     | .builtin .max => minmaxA true (c.args.toList.map look)
     | .value f => callA P (look f) (c.args.toList.map look)
     | _ => .bad)
  | _ => .bad

end Go.Fw
