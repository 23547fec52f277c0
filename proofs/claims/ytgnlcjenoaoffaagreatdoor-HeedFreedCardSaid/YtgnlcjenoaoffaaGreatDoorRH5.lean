/-
  What the last text of this claim leans on: an evaluator over the code, contracts of functions, plain laws. Conditions stand in each statement.
-/
import Derived.Test.YtgnlcjenoaoffaaGreatDoorRH4
import Derived.Deep.Slices
import Derived.ChangeSame
import Derived.Carry
namespace Go.Fw
set_option linter.unusedSimpArgs false
set_option linter.unusedVariables false
open Go.RowKit
def Q57 (n:Nat) (K:Nat->Prop):Prop :=
 match n with
 | 0=>K 0|1=>K 1|2=>K 2|3=>K 3|4=>K 4|5=>K 5|6=>K 6|7=>K 7|8=>K 8|9=>K 9|10=>K 10|11=>K 11|12=>K 12|13=>K 13|14=>K 14|15=>K 15|16=>K 16|17=>K 17|18=>K 18|19=>K 19
 | 20=>K 20|21=>K 21|22=>K 22|23=>K 23|24=>K 24
 | n=>K n
theorem Qr8 {n:Nat} {K:Nat->Prop}:Q57 n K ↔ K n:=by unfold Q57;split <;> exact Iff.rfl
def forceV (v:Value) (K:Value->Prop):Prop :=
 match v with
 | .bool b=>K (.bool b)
 | .int k n=>K (.int k n)
 | .float k b=>K (.float k b)
 | .complex k a b=>K (.complex k a b)
 | .string s=>K (.string s)
 | .pointer a=>K (.pointer a)
 | .slice a l c=>K (.slice a l c)
 | .map r=>K (.map r)
 | .chan r=>K (.chan r)
 | .func f a b=>K (.func f a b)
 | .nilFunc=>K .nilFunc
 | .iface t v=>K (.iface t v)
 | .nilIface=>K .nilIface
 | .agg cs=>K (.agg cs)
 | .tuple vs=>K (.tuple vs)
theorem forceV_iff {v:Value} {K:Value->Prop}:forceV v K ↔ K v:=by cases v <;> exact Iff.rfl
def force0 (v:AVal) (K:AVal->Prop):Prop :=
 match v with
 | .any=>K .any
 | .lit x=>forceV x fun x=>K (.lit x)
 | .agg cs=>K (.agg cs)
 | .tup cs=>K (.tup cs)
 | .seq k n t f=>K (.seq k n t f)
 | .ref cs=>K (.ref cs)
 | .ptr o ver k i j=>Q57 o fun o=>Q57 ver fun ver=>Q57 j fun j=>K (.ptr o ver k i j)
 | .sel o ver k i j=>Q57 o fun o=>Q57 ver fun ver=>Q57 j fun j=>K (.sel o ver k i j)
 | .buf o ver k len=>Q57 o fun o=>Q57 ver fun ver=>K (.buf o ver k len)
 | .own o ver k off len=>Q57 o fun o=>Q57 ver fun ver=>K (.own o ver k off len)
 | .fn f a b=>K (.fn f a b)
 | .ifc t a=>K (.ifc t a)
 | .map o=>Q57 o fun o=>K (.map o)
 | .yld o=>Q57 o fun o=>K (.yld o)
 | .sub o v k i j n m=>K (.sub o v k i j n m)
theorem force0_iff {v:AVal} {K:AVal->Prop}:force0 v K ↔ K v:=by
 cases v <;> simp only [force0,forceV_iff,Qr8]
def QEa:List AVal->(List AVal->Prop)->Prop
 | [],K=>K []
 | a :: r,K=>force0 a fun a=>QEa r fun r=>K (a :: r)
theorem QFa:∀ {l:List AVal} {K:List AVal->Prop},QEa l K ↔ K l
 | [],K=>Iff.rfl
 | a :: r,K=>by simp only [QEa,force0_iff,QFa]
def force1 (v:AVal) (K:AVal->Prop):Prop :=
 match v with
 | .agg cs=>QEa cs fun cs=>K (.agg cs)
 | .fn f a b=>QEa a fun a=>QEa b fun b=>K (.fn f a b)
 | .ifc t a=>force0 a fun a=>K (.ifc t a)
 | v=>force0 v K
theorem force1_iff {v:AVal} {K:AVal->Prop}:force1 v K ↔ K v:=by
 cases v <;> simp only [force1,force0_iff,QFa]
def Qx9:List AVal->(List AVal->Prop)->Prop
 | [],K=>K []
 | a :: r,K=>force1 a fun a=>Qx9 r fun r=>K (a :: r)
theorem Qa6:∀ {l:List AVal} {K:List AVal->Prop},Qx9 l K ↔ K l
 | [],K=>Iff.rfl
 | a :: r,K=>by simp only [Qx9,force1_iff,Qa6]
def forceA (v:AVal) (K:AVal->Prop):Prop :=
 match v with
 | .tup cs=>Qx9 cs fun cs=>K (.tup cs)
 | v=>force1 v K
theorem Q96 {v:AVal} {K:AVal->Prop}:forceA v K ↔ K v:=by
 cases v <;> simp only [forceA,force1_iff,Qa6]
def forceE (es:List (List AVal)) (K:List (List AVal)->Prop):Prop :=
 match es with
 | [e]=>QEa e fun e=>K [e]
 | es=>K es
theorem forceE_iff {es:List (List AVal)} {K:List (List AVal)->Prop}:forceE es K ↔ K es:=by
 unfold forceE;split
 ·exact QFa
 ·exact Iff.rfl
def QG6:Option Nat->Objs->(Objs->Prop)->Prop
 | _,[],K=>K []
 | some 0,(ver,.row t k es) :: r,K=>forceE es fun es=>QG6 none r fun r=>K ((ver,.row t k es) :: r)
 | some (n+1),(ver,p) :: r,K=>QG6 (some n) r fun r=>K ((ver,p) :: r)
 | _,(ver,p) :: r,K=>Q57 ver fun ver=>QG6 none r fun r=>K ((ver,p) :: r)
theorem Qs8 {l:Objs}:∀ {o:Option Nat} {K:Objs->Prop},QG6 o l K ↔ K l:=by
 induction l with
 | nil=>intro o K;cases o with
  | none=>simp [QG6]
  | some n=>cases n <;> simp [QG6]
 | cons p r ih =>
  intro o K;obtain ⟨ver,p⟩:=p;cases o with
  | none=>simp only [QG6,Qr8,ih]
  | some n=>cases n with
   | zero=>cases p with
    | dead=>simp only [QG6,Qr8,ih]
    | row t k es=>simp only [QG6,forceE_iff,ih]
    | other x=>simp only [QG6,Qr8,ih]
   | succ n=>simp only [QG6,ih]
def Qy9:Objs->(Objs->Prop)->Prop
 | [],K=>K []
 | (ver,p) :: r,K=>Q57 ver fun ver =>
  match p with
  | .row t k es=>Qy9 r fun r=>K ((ver,.row t k es) :: r)
  | .dead=>Qy9 r fun r=>K ((ver,.dead) :: r)
  | .other x=>Qy9 r fun r=>K ((ver,.other x) :: r)
theorem forceP_iff:∀ {l:Objs} {K:Objs->Prop},Qy9 l K ↔ K l
 | [],K=>Iff.rfl
 | (ver,p) :: r,K=>by cases p <;> simp only [Qy9,Qr8,forceP_iff]
def cfilt (loc:Loc):List (Nat × AVal)->(List (Nat × AVal)->Prop)->Prop
 | [],K=>K []
 | (t,v) :: r,K=>match findL loc t with|some _=>cfilt loc r K|none=>cfilt loc r fun r=>K ((t,v) :: r)
theorem QNd {loc:Loc}:∀ {l:List (Nat × AVal)} {K:List (Nat × AVal)->Prop},cfilt loc l K ↔ K (filtL loc l)
 | [],K=>Iff.rfl
 | (t,v) :: r,K=>by
  simp only [cfilt,filtL];cases findL loc t with
  | some e=>exact QNd
  | none=>exact QNd
def ckeep (keep:Nat->Bool):Loc->List (Nat × AVal)->(List (Nat × AVal)->Prop)->Prop
 | [],s,K=>K s
 | (t,g,v) :: r,s,K=>match g.isNone&&keep t with|true=>ckeep keep r s fun s=>K ((t,v) :: s)|false=>ckeep keep r s K
theorem QPd {keep:Nat->Bool}:∀ {loc:Loc} {s:List (Nat × AVal)} {K:List (Nat × AVal)->Prop},ckeep keep loc s K ↔ K (keepL keep loc s)
 | [],s,K=>Iff.rfl
 | (t,g,v) :: r,s,K=>by
  simp only [ckeep,keepL];cases g.isNone&&keep t with
  | true=>exact QPd
  | false=>exact QPd
def cmerge (keep:Nat->Bool) (slots:List (Nat × AVal)) (loc:Loc) (K:List (Nat × AVal)->Prop):Prop:=cfilt loc slots fun s=>ckeep keep loc s K
theorem QYb {keep:Nat->Bool} {slots:List (Nat × AVal)} {loc:Loc} {K:List (Nat × AVal)->Prop}:cmerge keep slots loc K ↔ K (QH9 keep slots loc):=by
 unfold cmerge QH9;rw [QNd,QPd]
def cput (nt:Nat) (loc:Loc) (G:Gs) (objs:Objs) (cur:Option Tag) (dst:Option Tmp) (v:AVal) (K:Loc->Gs->Objs->Prop):Prop :=
 match dst with
 | none=>K loc G objs
 | some d=>(match Nat.blt d nt&&(findL loc d).isNone with|true=>forceA v fun v=>K ((d,cur,v) :: loc) G objs|false=>False)
def Qye (ops:Array Oper):Nat->Operand->Bool
 | 0,_=>false
 | n+1,.tmp a =>
  (match ops.toList.find? fun o=>match o.dst with|some d=>Nat.beq d a|none=>false with
   | some o=>(match o.op with | .indexAddr _ _ _=>true | .fieldAddr _ x _=>Qye ops n x | .nilCheck x=>Qye ops n x|_=>false)
   | none=>false)
 | _,_=>false
def ceff (ops:Array Oper) (o:Oper) (look:Operand->AVal) (objs objs':Objs) (K:Objs->Prop):Prop :=
 match o.op with
 | .alloc _=>QG6 (some objs.length) objs' K
 | .box _ _=>QG6 (some objs.length) objs' K
 | .store _ a _=>(match Qye ops 8 a with|true=>QG6 none objs' K|false=>(match look a with | .ptr n _ _ _ _=>QG6 (some n) objs' K|_=>QG6 none objs' K))
 | _=>QG6 none objs' K
theorem Qsd {ops:Array Oper} {o:Oper} {look:Operand->AVal} {objs objs':Objs} {K:Objs->Prop}:ceff ops o look objs objs' K ↔ K objs':=by
 unfold ceff;split
 ·exact Qs8
 ·exact Qs8
 ·split
  ·exact Qs8
  ·split <;> exact Qs8
 ·exact Qs8
def ownOp (ops:Array Oper) (look:Operand->AVal) (o:Oper):Bool :=
 match o.op with
 | .load _ a=>(match Qye ops 8 a with|true=>(match look a with | .ptr _ _ _ _ _=>true|_=>false)|false=>false)
 | .store _ a _=>(match Qye ops 8 a with|true=>(match look a with | .ptr _ _ _ _ _=>true|_=>false)|false=>false)
 | _=>false
def litOp:Op->Bool
 | .buildSlice _ (_+1) _=>true
 | _=>false
def cres (P:Program) (nt:Nat) (ops:Array Oper) (slots:List (Nat × AVal)) (draw:Bool) (o:Oper) (cur:Option Tag) (gb:Bool) (loc:Loc) (G:Gs) (objs:Objs) (K:Loc->Gs->Objs->Prop) (r:ORes):Prop :=
  match r with
  | .bad=>(match cur,draw with|none,false=>evalX P (lookR ops slots loc none) objs o fun r objs'=>cput nt loc G objs' none o.dst r K|some c,false=>∃ v,(gb=true->evalX P (lookR ops slots loc (some c)) objs o fun u o2=>u=v∧o2=objs)∧cput nt loc G objs (some c) o.dst v K|_,_=>False)
  | .val v=>(match litOp o.op,cur,draw with|true,none,false=>cput nt loc G objs none o.dst v K∨ownSl P (lookR ops slots loc none) objs o (fun r objs'=>cput nt loc G objs' none o.dst r K)|_,_,_=>cput nt loc G objs cur o.dst v K)
  | .ifb b v=>(gb=true->b=true)∧cput nt loc G objs cur o.dst v K
  | .eff b v objs'=>(match cur with|none=>b=true∧ceff ops o (lookR ops slots loc cur) objs objs' fun objs'=>cput nt loc G objs' none o.dst v K|some _=>False)
  | .upd v objs'=>(match cur with|none=>ceff ops o (lookR ops slots loc cur) objs objs' fun objs'=>cput nt loc G objs' none o.dst v K|some _=>False)
  | .call f args =>
   (match cur,draw with
    | none,false=>Qx9 args fun args=>ACalls P f args objs fun r objs'=>Qy9 objs' fun objs'=>cput nt loc G objs' none o.dst r K
    | _,_=>Qx9 args fun args=>∃ r objs',(gb=true->ACalls P f args objs fun r' o'=>r'=r∧o'=objs')∧(gb=false->objs'=objs)∧Qy9 objs' fun objs'=>cput nt loc G objs' cur o.dst r K)
def cstep (P:Program) (nt:Nat) (ops:Array Oper) (slots:List (Nat × AVal)) (draw:Bool) (o:Oper) (cur:Option Tag) (gb:Bool) (loc:Loc) (G:Gs) (objs:Objs) (K:Loc->Gs->Objs->Prop):Prop :=
 match o.op with
 | .pick c x y=>(match pickA ops slots ⟨loc,G,objs⟩ cur c x y with|some v=>cput nt loc G objs cur o.dst v K|none=>False)
 | _ =>
  (match ownOp ops (lookR ops slots loc cur) o with
   | true=>∃ r,(match cur with|none=>Qf2 P (lookR ops slots loc cur) objs o=r|some _=>gb=true->Qf2 P (lookR ops slots loc cur) objs o=r)∧cres P nt ops slots draw o cur gb loc G objs K r
   | false=>cres P nt ops slots draw o cur gb loc G objs K (Qf2 P (lookR ops slots loc cur) objs o))
def cgOf (ops:Array Oper) (loc:Loc) (G:Gs) (g:Tag):Option (Bool × Gs) :=
 match findG G g with
 | some b=>some (b,G)
 | none =>
  match ops[g.1]? with
  | some o =>
   (match o.dst with
    | some d =>
     (match findL loc d with
     | some (none,.lit (.bool b)) =>
      bif o.guard.isNone then some (bif g.2 then b else !b,(g,bif g.2 then b else !b) :: G) else none
     | some (some h,.lit (.bool b)) =>
      (match o.guard,findG G h with
       | some h',some hb=>bif tagEq h' h then some (hb&&(bif g.2 then b else !b),(g,hb&&(bif g.2 then b else !b)) :: G) else none
       | _,_=>none)
     | _=>none)
    | none=>none)
  | none=>none
theorem QOd {ops:Array Oper} {loc:Loc} {G G':Gs} {objs:Objs} {g:Tag} {gb:Bool} (h:cgOf ops loc G g=some (gb,G')):gOf ops ⟨loc,G,objs⟩ g=some (gb,⟨loc,G',objs⟩):=by
 unfold cgOf at h;unfold gOf;split at h
 ·rename_i b hb;simp only [yaa,yDa] at h;obtain ⟨rfl,rfl⟩:=h;simp only [hb]
 ·rename_i hn;simp only [hn];split at h
  ·rename_i o ho;simp only [ho];split at h
   ·rename_i d hd;simp only [hd];split at h
    ·rename_i b hf;simp only [hf];cases hg:o.guard.isNone with
     | true =>
      rw [hg] at h;simp only [cond_true,yaa,yDa] at h;obtain ⟨rfl,rfl⟩:=h
      rfl
     | false=>rw [hg] at h;cases h
    ·rename_i c b hf;simp only [hf];split at h
     ·rename_i c' hb hoc hfc;simp only [hoc,hfc];cases ht:tagEq c' c with
      | true =>
       rw [ht] at h;simp only [cond_true,yaa,yDa] at h;obtain ⟨rfl,rfl⟩:=h
       rfl
      | false=>rw [ht] at h;cases h
     ·cases h
    ·cases h
   ·cases h
  ·cases h
def cops (P:Program) (nt:Nat) (ops:Array Oper) (slots:List (Nat × AVal)) (draw:Bool):List Oper->Loc->Gs->Objs->(Loc->Gs->Objs->Prop)->Prop
 | [],loc,G,objs,K=>K loc G objs
 | o :: rest,loc,G,objs,K =>
  match o.guard with
  | none=>cstep P nt ops slots draw o none true loc G objs fun loc G objs=>cops P nt ops slots draw rest loc G objs K
  | some g =>
   (match cgOf ops loc G g with
    | some (gb,G)=>cstep P nt ops slots draw o (some g) gb loc G objs fun loc G objs=>cops P nt ops slots draw rest loc G objs K
    | none=>False)
def forceB (n:Nat) (K:Nat->Prop):Prop :=
 match n with
 | 0=>K 0
 | m+1=>K (m+1)
theorem forceB_iff {n:Nat} {K:Nat->Prop}:forceB n K ↔ K n:=by cases n <;> exact Iff.rfl
def Q1e:List Nat->(List Nat->Prop)->Prop
 | [],K=>K []
 | n :: r,K=>forceB n fun n=>Q1e r fun r=>K (n :: r)
theorem QGa:∀ {l:List Nat} {K:List Nat->Prop},Q1e l K ↔ K l
 | [],K=>Iff.rfl
 | n :: r,K=>by simp only [Q1e,forceB_iff,QGa]
def QQ3 (ops:Array Oper) (ms:List Nat):List Nat:=(List.range ops.size).filter fun i=>effAt ops ms i
def QQc (ms effs:List Nat) (i p:Nat):Bool:=effs.all fun j=>(!bit ms i j||Nat.blt j p)&&(!bit ms j i||Nat.ble p j)
theorem okPosL_of {ops:Array Oper} {ms:List Nat} {i p:Nat} (h:okPos ops ms i p=true):QQc ms (QQ3 ops ms) i p=true:=by
 simp only [okPos,y7a,y5a] at h;simp only [QQc,QQ3,y7a,List.mem_filter,y5a];rintro j ⟨hj,ej⟩;have:=h j hj;rw [ej] at this;simpa using this
def cown (ms effs:List Nat) (i own:Nat) (f:Objs->Prop):List (Nat × Objs)->Prop->Prop
 | [],K=>K
 | (p,o) :: r,K=>match QQc ms effs i p && !Nat.beq p own with|true=>f o∧cown ms effs i own f r K|false=>cown ms effs i own f r K
def cfin (ms effs:List Nat) (Bs:List (Nat × Objs)):List (Nat × Nat × (Objs->Prop))->Prop->Prop
 | [],K=>K
 | (i,own,f) :: r,K=>cown ms effs i own f Bs (cfin ms effs Bs r K)
abbrev DK:=Loc->Gs->Objs->List (Nat × Objs)->List (Nat × Nat × (Objs->Prop))->Prop
def rdF (sk:Bool) (P:Program) (look:Operand->AVal) (o:Oper) (v:AVal):Objs->Prop :=
 match sk with
 | false=>fun o'=>Qf2 P look o' o = .val v
 | true=>fun o'=>∃ u,Qf2 P look o' o = .val u∧Sub u v
def rdX (P:Program) (look:Operand->AVal) (o:Oper) (v:AVal) (o':Objs):Prop:=Qf2 P look o' o = .bad∧evalX P look o' o fun u o2=>Sub u v∧o2=o'
def cdres (P:Program) (sk:Bool) (nt:Nat) (ops:Array Oper) (slots:List (Nat × AVal)) (effs:List Nat) (i:Nat) (o:Oper) (cur:Option Tag) (gb:Bool) (own:Nat) (loc:Loc) (G:Gs) (objs:Objs) (Bs:List (Nat × Objs)) (Rd:List (Nat × Nat × (Objs->Prop))) (K:DK) (r:ORes):Prop :=
  match r with
  | .bad =>
   (match effs.any fun j=>Nat.beq j i with
    | true=>(match cur with
     | none=>∃ v objs',(evalX P (lookR ops slots loc cur) objs o fun u o2=>Sub u v∧o2=objs')∧Qy9 objs' fun objs'=>cput nt loc G objs' none o.dst v fun loc G objs=>K loc G objs ((i+1,objs) :: Bs) Rd
     | some _=>False)
    | false=>∃ v,(QP5 o.op||QF8 o.op)=false∧(evalX P (lookR ops slots loc cur) objs o fun u o2=>Sub u v∧o2=objs)∧cput nt loc G objs cur o.dst v fun loc' G objs=>K loc' G objs Bs ((i,own,rdX P (lookR ops slots loc cur) o v) :: Rd))
  | .val v=>(match Qsb o.op with
   | true=>cput nt loc G objs cur o.dst v fun loc' G objs=>K loc' G objs Bs ((i,own,rdF sk P (lookR ops slots loc cur) o v) :: Rd)
   | false=>cput nt loc G objs cur o.dst v fun loc G objs=>K loc G objs Bs Rd)
  | .ifb b v=>(gb=true->b=true)∧cput nt loc G objs cur o.dst v fun loc G objs=>K loc G objs Bs Rd
  | .eff b v objs'=>(match cur with|none=>b=true∧ceff ops o (lookR ops slots loc cur) objs objs' fun objs'=>cput nt loc G objs' none o.dst v fun loc G objs=>K loc G objs ((i+1,objs) :: Bs) Rd|some _=>False)
  | .upd v objs'=>(match cur with|none=>ceff ops o (lookR ops slots loc cur) objs objs' fun objs'=>cput nt loc G objs' none o.dst v fun loc G objs=>K loc G objs ((i+1,objs) :: Bs) Rd|some _=>False)
  | .call f args=>Qx9 args fun args =>
   (match effs.any fun j=>Nat.beq j i with
    | true=>(match cur with
     | none=>∃ r objs',ACalls P f args objs (fun r' o'=>r'=r∧o'=objs')∧Qy9 objs' fun objs'=>cput nt loc G objs' none o.dst r fun loc G objs=>K loc G objs ((i+1,objs) :: Bs) Rd
     | some g=>∃ r objs',(gb=true->ACalls P f args objs (fun r' o'=>r'=r∧o'=objs'))∧(gb=false->objs'=objs)∧Qy9 objs' fun objs'=>cput nt loc G objs' (some g) o.dst r fun loc G objs=>K loc G objs ((i+1,objs) :: Bs) Rd)
    | false=>∃ r,(gb=true->AGives P f args objs r)∧cput nt loc G objs cur o.dst r fun loc G objs=>K loc G objs Bs ((i,own,fun o'=>gb=true->AGives P f args o' r) :: Rd))
def cdstep (P:Program) (sk:Bool) (nt:Nat) (ops:Array Oper) (slots:List (Nat × AVal)) (effs:List Nat) (i:Nat) (o:Oper) (cur:Option Tag) (gb:Bool) (own:Nat) (loc:Loc) (G:Gs) (objs:Objs) (Bs:List (Nat × Objs)) (Rd:List (Nat × Nat × (Objs->Prop))) (K:DK):Prop :=
 match o.op with
 | .pick c x y=>(match pickA ops slots ⟨loc,G,objs⟩ cur c x y with|some v=>cput nt loc G objs cur o.dst v fun loc G objs=>K loc G objs Bs Rd|none=>False)
 | _ =>
  (match ownOp ops (lookR ops slots loc cur) o with
   | true=>∃ r,Qf2 P (lookR ops slots loc cur) objs o=r∧cdres P sk nt ops slots effs i o cur gb own loc G objs Bs Rd K r
   | false=>cdres P sk nt ops slots effs i o cur gb own loc G objs Bs Rd K (Qf2 P (lookR ops slots loc cur) objs o))
theorem cdown {P:Program} {sk:Bool} {nt:Nat} {ops:Array Oper} {slots:List (Nat × AVal)} {effs:List Nat} {i:Nat} {o:Oper} {cur:Option Tag} {gb:Bool} {own:Nat} {loc:Loc} {G:Gs} {objs:Objs} {Bs:List (Nat × Objs)} {Rd:List (Nat × Nat × (Objs->Prop))} {K:DK}
  (h:match ownOp ops (lookR ops slots loc cur) o with
   | true=>∃ r,Qf2 P (lookR ops slots loc cur) objs o=r∧cdres P sk nt ops slots effs i o cur gb own loc G objs Bs Rd K r
   | false=>cdres P sk nt ops slots effs i o cur gb own loc G objs Bs Rd K (Qf2 P (lookR ops slots loc cur) objs o)):cdres P sk nt ops slots effs i o cur gb own loc G objs Bs Rd K (Qf2 P (lookR ops slots loc cur) objs o):=by
 split at h
 ·obtain ⟨r,rfl,h⟩:=h;exact h
 ·exact h
theorem Qf0 {P:Program} {look:Operand->AVal} {objs:Objs} {o:Oper} {t te:TypeId} {a:Operand} {ob ver k i j:Nat} {es:List (List AVal)} {e:List AVal} {v:AVal} (ho:o.op = .load t a) (hl:look a = .ptr ob ver k i j) (hr:rowOf objs ob ver k=some (te,es)) (he:elemI es i=some e) (hp:partA P t e j=some v):Qf2 P look objs o = .val v:=by
 unfold Qf2;simp only [ho,hl,loadA,hr,he,hp]
theorem QV0 {P:Program} {look:Operand->AVal} {objs:Objs} {o:Oper} {t te:TypeId} {a x:Operand} {ob ver k i j:Nat} {es:List (List AVal)} {e cs:List AVal} (ho:o.op = .store t a x) (hl:look a = .ptr ob ver k i j) (hx:Qb5 (look x)=some cs) (hr:rowOf objs ob ver k=some (te,es)) (he:elemI es i=some e) (hi:(P.info? t).isSome=true) (hb:(Nat.beq cs.length (sizeA P t)&&Nat.ble (j+cs.length) e.length)=true)
  {es':List (List AVal)} (hs:es.set i (splice e j cs)=es'):Qf2 P look objs o = .upd (.lit undef) (objs.set ob (ver,.row te k es')):=by
 subst hs;unfold Qf2;simp only [ho,hi,hl,Qm9,hx,hr,he,hb,yHb,cond_false,cond_true]
def lastB:List (Nat × Objs)->Nat
 | []=>0
 | (p,_) :: _=>p
def cdops (P:Program) (sk:Bool) (nt:Nat) (ops:Array Oper) (slots:List (Nat × AVal)) (ms effs:List Nat):Nat->List Oper->Loc->Gs->Objs->List (Nat × Objs)->List (Nat × Nat × (Objs->Prop))->(Loc->Objs->Prop)->Prop
 | _,[],loc,_,objs,Bs,Rd,K=>cfin ms effs Bs Rd (K loc objs)
 | i,o :: rest,loc,G,objs,Bs,Rd,K =>
  match o.guard with
  | none=>cdstep P sk nt ops slots effs i o none true (lastB Bs) loc G objs Bs Rd fun loc G objs Bs Rd=>cdops P sk nt ops slots ms effs (i+1) rest loc G objs Bs Rd K
  | some g =>
   (match cgOf ops loc G g with
    | some (gb,G) =>
     (match sk with
     | true =>
      (match gb with
       | false=>cput nt loc G objs (some g) o.dst (.lit (.bool false)) fun loc G objs=>cdops P sk nt ops slots ms effs (i+1) rest loc G objs (match effs.any fun j=>Nat.beq j i with|true=>(i+1,objs) :: Bs|false=>Bs) Rd K
       | true=>cdstep P sk nt ops slots effs i o (some g) true (lastB Bs) loc G objs Bs Rd fun loc G objs Bs Rd=>cdops P sk nt ops slots ms effs (i+1) rest loc G objs Bs Rd K)
     | false=>cdstep P sk nt ops slots effs i o (some g) gb (lastB Bs) loc G objs Bs Rd fun loc G objs Bs Rd=>cdops P sk nt ops slots ms effs (i+1) rest loc G objs Bs Rd K)
    | none=>False)
def cdraw (P:Program) (nt:Nat) (ops:Array Oper) (slots:List (Nat × AVal)) (objs:Objs) (K:Loc->Objs->Prop):Prop :=
 (P.follows .mixedOrders&&QU2 ops (masks ops))=true∧Q1e (masks ops) fun ms=>Q1e (QQ3 ops ms) fun effs=>cdops P false nt ops slots ms effs 0 ops.toList [] [] objs [(0,objs)] [] K
def CQ:=AExit->List (Nat × AVal)->Objs->Prop
def cwp (P:Program) (nt n0:Nat) (keep:Nat->Bool):Code->CQ->List (Nat × AVal)->Objs->Prop
 | .skip,Q,s,o=>Q .normal s o
 | .region id ops draw,Q,s,o =>
  (match draw with
   | false=>cops P nt ops s false ops.toList [] [] o fun loc _ o=>cmerge keep s loc fun s=>Q .normal s o
   | true =>
    (match keep (2000000+id) with
    | true=>cdraw P nt ops s o fun loc o=>cmerge keep s loc fun s=>Q .normal s o
    | false=>DrawS P nt ops ⟨s,o⟩ fun loc o=>cmerge keep s loc fun s=>Q .normal s o))
 | .seq a b,Q,s,o =>
  (match keep (1000000+QL8 b) with
   | true=>cwp P nt n0 keep a (fun e s o=>match e with | .normal=>cwp P nt n0 keep b Q s o|e=>Q e s o) s o
   | false=>∃ J:List (Nat × AVal)->Objs->Prop,(∀ s o,J s o->cwp P nt n0 keep b Q s o)∧cwp P nt n0 keep a (fun e s o=>match e with | .normal=>∃ s' o',Weaker nt n0 ⟨s,o⟩ ⟨s',o'⟩∧J s' o'|e=>Q e s o) s o)
 | .cond c x y,Q,s,o =>
  (match lookO ⟨s,o⟩ c with
   | .lit (.bool b)=>(b=true->cwp P nt n0 keep x Q s o)∧(b=false->cwp P nt n0 keep y Q s o)
   | _=>False)
 | .block id body,Q,s,o=>cwp P nt n0 keep body (fun e s o=>match e with | .exit i=>(match Nat.beq i id with|true=>Q .normal s o|false=>Q (.exit i) s o)|e=>Q e s o) s o
 | .loop body,Q,s,o=>∃ (I:Nat->List (Nat × AVal)->Objs->Prop) (n:Nat) (s1:List (Nat × AVal)) (o1:Objs),Weaker nt n0 ⟨s,o⟩ ⟨s1,o1⟩∧I n s1 o1 ∧ ∀ m s o,I m s o->cwp P nt n0 keep body (fun e s o=>match e with | .normal=>∃ m' s' o',m'<m∧Weaker nt n0 ⟨s,o⟩ ⟨s',o'⟩∧I m' s' o'|e=>Q e s o) s o
 | .scope b,Q,s,o =>
  (match keep (3000000+QL8 b) with
   | true=>cwp P nt n0 keep b (fun e s o=>match e with | .goto _=>False|e=>Q e s o) s o
   | false=>∃ R:AExit->List (Nat × AVal)->Objs->Prop,Qn9 P nt n0 (.scope b) (fun e t=>R e t.slots t.objs) ⟨s,o⟩ ∧ ∀ e s o,R e s o->Q e s o)
 | .exit id,Q,s,o=>Q (.exit id) s o
 | .label _,Q,s,o=>Q .normal s o
 | .goto l,Q,s,o=>Q (.goto l) s o
 | .ret,Q,s,o=>Q .ret s o
 | .rangeFunc f ps x y,Q,s,o=>∃ R:AExit->List (Nat × AVal)->Objs->Prop,Qn9 P nt n0 (.rangeFunc f ps x y) (fun e t=>R e t.slots t.objs) ⟨s,o⟩ ∧ ∀ e s o,R e s o->Q e s o
 | _,_,_,_=>False
section
variable {P:Program} {nt n0:Nat} {keep:Nat->Bool}
theorem cput_iff {loc:Loc} {G:Gs} {objs:Objs} {cur:Option Tag} {dst:Option Tmp} {v:AVal} {K:Loc->Gs->Objs->Prop}:cput nt loc G objs cur dst v K ↔ PutK nt ⟨loc,G,objs⟩ cur dst v fun r=>K r.loc r.G r.objs:=by
 unfold cput PutK putR;cases dst with
 | none=>exact Iff.rfl
 | some d =>
  simp only;cases Nat.blt d nt&&(findL loc d).isNone with
  | true=>simp only [Q96,cond_true]
  | false=>exact Iff.rfl
theorem cstep_step {ops:Array Oper} {slots:List (Nat × AVal)} {draw:Bool} {o:Oper} {cur:Option Tag} {gb:Bool} {loc:Loc} {G:Gs} {objs:Objs} {K:Loc->Gs->Objs->Prop}
  (hgb:gb=true) (h:cstep P nt ops slots draw o cur gb loc G objs K):Qva P nt ops slots draw o cur gb ⟨loc,G,objs⟩ fun r=>K r.loc r.G r.objs:=by
 unfold cstep at h;unfold Qva;split at h
 ·rename_i c x y hop;simp only [hop];split at h
  ·rename_i v hv;simp only [hv];exact cput_iff.1 h
  ·exact h.elim
 ·rename_i hne;split
  ·rename_i c x y hop;exact (hne c x y hop).elim
  ·replace h:cres P nt ops slots draw o cur gb loc G objs K (Qf2 P (lookR ops slots loc cur) objs o):=by
    split at h
    ·obtain ⟨r,hr,h⟩:=h;have hr':Qf2 P (lookR ops slots loc cur) objs o=r:=by
      cases cur with
      | none=>exact hr
      | some c=>exact hr hgb
     rw [hr'];exact h
    ·exact h
   unfold cres at h;split at h
   ·rename_i he;simp only [he];split at h
    ·exact evalX_mono (fun r o' hr=>cput_iff.1 hr) h
    ·exact ⟨h.choose,h.choose_spec.1,cput_iff.1 h.choose_spec.2⟩
    ·exact h.elim
   ·rename_i v he;simp only [he];split at h
    ·rcases h with h|h
     ·exact .inl (cput_iff.1 h)
     ·exact .inr (ownSl_mono (fun r o' hr=>cput_iff.1 hr) h)
    ·exact .inl (cput_iff.1 h)
   ·rename_i b v he;simp only [he];exact ⟨h.1,cput_iff.1 h.2⟩
   ·rename_i b v o' he;simp only [he];split at h
    ·rw [Qsd,cput_iff] at h;exact h
    ·exact h.elim
   ·rename_i v o' he;simp only [he];split at h
    ·rw [Qsd,cput_iff] at h;exact h
    ·exact h.elim
   ·rename_i f args he;simp only [he];split at h
    ·rw [Qa6] at h;exact h.mono fun r o' hr=>cput_iff.1 (forceP_iff.1 hr)
    ·rw [Qa6] at h;rename_i hne2;split
     ·exact (hne2 rfl rfl).elim
     ·obtain ⟨r,objs',h1,h2,h3⟩:=h;exact ⟨r,objs',h1,h2,cput_iff.1 (forceP_iff.1 h3)⟩
theorem cstep_left {ops:Array Oper} {slots:List (Nat × AVal)} {draw:Bool} {o:Oper} {g:Tag} {loc:Loc} {G:Gs} {objs:Objs} {K:Loc->Gs->Objs->Prop}
  (h:cstep P nt ops slots draw o (some g) false loc G objs K):∃ v,PutK nt ⟨loc,G,objs⟩ (some g) o.dst v fun r=>K r.loc r.G r.objs:=by
 have key:∀ r,cres P nt ops slots draw o (some g) false loc G objs K r -> ∃ v,PutK nt ⟨loc,G,objs⟩ (some g) o.dst v fun r=>K r.loc r.G r.objs:=by
  intro r h;unfold cres at h;cases r with
  | bad =>
   cases draw with
   | false=>obtain ⟨v,_,h⟩:=h;exact ⟨v,cput_iff.1 h⟩
   | true=>exact h.elim
  | val v =>
   refine ⟨v,cput_iff.1 ?_⟩;simp only at h;split at h
   ·rename_i e _;cases e
   ·exact h
  | ifb b v=>exact ⟨v,cput_iff.1 h.2⟩
  | eff b v o'=>exact h.elim
  | upd v o'=>exact h.elim
  | call f args =>
   replace h:Qx9 args fun args=>∃ r objs',(false=true->ACalls P f args objs fun r' o'=>r'=r∧o'=objs')∧(false=false->objs'=objs)∧Qy9 objs' fun objs'=>cput nt loc G objs' (some g) o.dst r K:=h
   rw [Qa6] at h;obtain ⟨r,objs',_,h2,h3⟩:=h;have e:=h2 rfl;subst e;exact ⟨r,cput_iff.1 (forceP_iff.1 h3)⟩
 unfold cstep at h;split at h
 ·split at h
  ·exact ⟨_,cput_iff.1 h⟩
  ·exact h.elim
 ·split at h
  ·obtain ⟨r,_,h⟩:=h;exact key r h
  ·exact key _ h
theorem QZ9 {ops:Array Oper} {slots:List (Nat × AVal)} {draw:Bool} {K:Loc->Gs->Objs->Prop}:∀ {l:List Oper} {loc:Loc} {G:Gs} {objs:Objs},
  cops P nt ops slots draw l loc G objs K->QC6 P nt ops slots draw l ⟨loc,G,objs⟩ fun r=>K r.loc r.G r.objs
 | [],loc,G,objs,h=>h
 | o :: rest,loc,G,objs,h=>by
  simp only [cops] at h;simp only [QC6];split at h
  ·rename_i hg;simp only [hg];exact Qd9 (fun r hr=>QZ9 hr) (cstep_step rfl h)
  ·rename_i g hg;simp only [hg];split at h
   ·rename_i gb G' hgo;simp only [QOd hgo];cases gb with
    | true=>exact .inr (Qd9 (fun r hr=>QZ9 hr) (cstep_step rfl h))
    | false =>
     obtain ⟨v,h⟩:=cstep_left h;obtain ⟨rs',hr,h2⟩:=QK4 h;refine .inl ⟨rfl,v,?_⟩;unfold PutK;rw [hr];exact QZ9 h2
   ·exact h.elim
theorem QD8 {ops:Array Oper} {slots:List (Nat × AVal)} {draw:Bool} {K K':RSt->Prop} (hk:∀ r,K r->K' r):∀ {l:List Oper} {rs:RSt},QC6 P nt ops slots draw l rs K->QC6 P nt ops slots draw l rs K'
 | [],rs,h=>hk rs h
 | o :: rest,rs,h=>by
  simp only [QC6] at h ⊢;split
  ·rename_i hg;simp only [hg] at h;exact Qd9 (fun r hr=>QD8 hk hr) h
  ·rename_i g hg;simp only [hg] at h;split
   ·rename_i gb rs1 hgo;simp only [hgo] at h;rcases h with ⟨hgb,v,hp⟩|h
    ·refine .inl ⟨hgb,v,?_⟩;obtain ⟨rs',hr,h2⟩:=QK4 hp;unfold PutK;rw [hr];exact QD8 hk h2
    ·exact .inr (Qd9 (fun r hr=>QD8 hk hr) h)
   ·rename_i hgo;simp only [hgo] at h
theorem Q87 (c:Code):∀ (Q Q':AExit->St->Prop) (s:St),(∀ e s,Q e s->Q' e s)->awp P nt n0 keep c Q s->awp P nt n0 keep c Q' s:=by
 induction c with
 | skip=>exact fun Q Q' s hq h=>hq _ _ h
 | label l=>exact fun Q Q' s hq h=>hq _ _ h
 | exit id=>exact fun Q Q' s hq h=>hq _ _ h
 | goto l=>exact fun Q Q' s hq h=>hq _ _ h
 | ret=>exact fun Q Q' s hq h=>hq _ _ h
 | refuse why=>exact fun Q Q' s hq h=>h
 | scope b ih =>
  intro Q Q' s hq h;simp only [awp] at h ⊢;split
  ·rename_i hk;rw [hk] at h;refine ih _ _ s ?_ h;intro e s hs;cases e with
   | normal=>exact hq _ _ hs
   | exit i=>exact hq _ _ hs
   | goto l=>exact hs
   | ret=>exact hq _ _ hs
  ·rename_i hk;rw [hk] at h;exact ⟨h.choose,h.choose_spec.1,fun e t ht=>hq e t (h.choose_spec.2 e t ht)⟩
 | rangeFunc f ps x y _ _=>exact fun Q Q' s hq h=>⟨h.choose,h.choose_spec.1,fun e t ht=>hq e t (h.choose_spec.2 e t ht)⟩
 | region id ops draw =>
  intro Q Q' s hq h;cases draw with
  | false=>exact QD8 (fun r hr=>hq _ _ hr) h
  | true =>
   simp only [awp] at h ⊢;split
   ·rename_i hk;rw [hk] at h;obtain ⟨h1,h2,tr,h3,h4,h5⟩:=h;exact ⟨h1,h2,tr,h3,h4,hq _ _ h5⟩
   ·rename_i hk;rw [hk] at h;exact fun i K0 Kc a w Q1 hle hs hp=>h i K0 Kc a w Q1 hle hs fun ops' K' rs a' w' hl hr hk=>hp ops' K' rs a' w' hl hr (hq _ _ hk)
 | seq x y ihx ihy =>
  intro Q Q' s hq h;simp only [awp] at h ⊢;split
  ·rename_i hk;rw [hk] at h;refine ihx _ _ s ?_ h;intro e s hs;cases e with
   | normal=>exact ihy Q Q' s hq hs
   | exit id=>exact hq _ _ hs
   | goto l=>exact hq _ _ hs
   | ret=>exact hq _ _ hs
  ·rename_i hk;rw [hk] at h;obtain ⟨J,hJ,h⟩:=h;refine ⟨J,fun s hs=>ihy Q Q' s hq (hJ s hs),ihx _ _ s ?_ h⟩;intro e s hs;cases e with
   | normal=>exact hs
   | exit id=>exact hq _ _ hs
   | goto l=>exact hq _ _ hs
   | ret=>exact hq _ _ hs
 | cond c x y ihx ihy =>
  intro Q Q' s hq h;simp only [awp] at h ⊢;split
  ·rename_i b hb;rw [hb] at h;exact ⟨fun ht=>ihx Q Q' s hq (h.1 ht),fun hf=>ihy Q Q' s hq (h.2 hf)⟩
  ·rename_i hne;split at h
   ·rename_i b hb;exact (hne b hb).elim
   ·exact h
 | block id body ih =>
  intro Q Q' s hq h;refine ih _ _ s ?_ h;intro e s hs;cases e with
  | normal=>exact hq _ _ hs
  | exit i =>
   simp only at hs ⊢;split
   ·rename_i hb;rw [hb] at hs;exact hq _ _ hs
   ·rename_i hb;rw [hb] at hs;exact hq _ _ hs
  | goto l=>exact hq _ _ hs
  | ret=>exact hq _ _ hs
 | loop body ih =>
  intro Q Q' s hq h;obtain ⟨I,n,s1,hw,hI,hr⟩:=h;refine ⟨I,n,s1,hw,hI,fun m s hm=>ih _ _ s ?_ (hr m s hm)⟩;intro e s hs;cases e with
  | normal=>exact hs
  | exit id=>exact hq _ _ hs
  | goto l=>exact hq _ _ hs
  | ret=>exact hq _ _ hs
theorem QUd {ms effs:List Nat} {i own:Nat} {f:Objs->Prop} {K:Prop}:∀ {Bs:List (Nat × Objs)},cown ms effs i own f Bs K->K ∧ ∀ p o,(p,o) ∈ Bs->QQc ms effs i p=true->p ≠ own->f o
 | [],h=>⟨h,fun p o hm=>by simp at hm⟩
 | (p,o) :: r,h=>by
  simp only [cown] at h;split at h
  ·obtain ⟨h1,h2⟩:=h;obtain ⟨h3,h4⟩:=QUd h2;refine ⟨h3,fun p' o' hm hk hne=>?_⟩;rcases List.mem_cons.1 hm with e|hm
   ·simp only [yDa] at e;obtain ⟨rfl,rfl⟩:=e;exact h1
   ·exact h4 p' o' hm hk hne
  ·rename_i hb;obtain ⟨h3,h4⟩:=QUd h;refine ⟨h3,fun p' o' hm hk hne=>?_⟩;rcases List.mem_cons.1 hm with e|hm
   ·simp only [yDa] at e;obtain ⟨rfl,rfl⟩:=e;rw [hk] at hb;simp only [y5b,y2a] at hb;exact absurd (yla hb) hne
   ·exact h4 p' o' hm hk hne
theorem cfin_spec {ms effs:List Nat} {Bs:List (Nat × Objs)} {K:Prop}:∀ {Rd:List (Nat × Nat × (Objs->Prop))},cfin ms effs Bs Rd K->K ∧ ∀ i own f,(i,own,f) ∈ Rd -> ∀ p o,(p,o) ∈ Bs->QQc ms effs i p=true->p ≠ own->f o
 | [],h=>⟨h,fun i own f hm=>by simp at hm⟩
 | (i,own,f) :: r,h=>by
  simp only [cfin] at h;obtain ⟨h1,h2⟩:=QUd h;obtain ⟨h3,h4⟩:=cfin_spec h1;refine ⟨h3,fun i' own' f' hm=>?_⟩;rcases List.mem_cons.1 hm with e|hm
  ·simp only [yDa] at e;obtain ⟨rfl,rfl,rfl⟩:=e;exact h2
  ·exact h4 i' own' f' hm
theorem Q0a {loc:Loc} {G:Gs} {objs:Objs} {cur:Option Tag} {dst:Option Tmp} {v:AVal} {i:Nat} {Bs:List (Nat × Objs)} {Rd:List (Nat × Nat × (Objs->Prop))} {K:DK}
  (h:PutK nt ⟨loc,G,objs⟩ cur dst v fun r=>K r.loc r.G r.objs ((i+1,r.objs) :: Bs) Rd):PutK nt ⟨loc,G,objs⟩ cur dst v fun r=>K r.loc r.G r.objs ((i+1,objs) :: Bs) Rd:=by
 obtain ⟨rs',hp,hk⟩:=QK4 h;obtain ⟨ho,_,_⟩:=QN9 hp;unfold PutK;rw [hp];simp only at ho;rw [ho] at hk;simp only;rw [ho];exact hk
section kinds
variable {look:Operand->AVal} {objs:Objs} {o:Oper}
theorem evalOp_val {v:AVal} (h:Qf2 P look objs o = .val v):QP5 o.op=false∧QF8 o.op=false:=by
 obtain ⟨dst,op,type,pos,after,guard⟩:=o;cases op <;> (try exact ⟨rfl,rfl⟩) <;> simp only [Qf2] at h
 case alloc t=>(repeat' split at h) <;> cases h
 case mapUpdate t m k v=>cases h
 case box t x=>(repeat' split at h) <;> cases h
 case store t a x=>unfold Qm9 at h;simp only [cond_eq_ite] at h;(repeat' split at h) <;> cases h
 case makeSlice t l c=>unfold QU3 at h;(repeat' split at h) <;> cases h
 case call c =>
  obtain ⟨callee,args,argTypes⟩:=c;cases callee with
  | value f=>unfold callA at h;simp only [cond_eq_ite] at h;(repeat' split at h) <;> cases h
  | invoke r m=>cases h
  | builtin b =>
   cases b <;> (try exact ⟨rfl,rfl⟩)
   case append=>simp only at h;unfold Qo7 at h;simp only [cond_eq_ite] at h;(repeat' split at h) <;> cases h
theorem evalOp_ifb {b:Bool} {v:AVal} (h:Qf2 P look objs o = .ifb b v):QP5 o.op=false∧QF8 o.op=false∧Qsb o.op=false:=by
 obtain ⟨dst,op,type,pos,after,guard⟩:=o;cases op <;> (try exact ⟨rfl,rfl,rfl⟩) <;> simp only [Qf2] at h
 case alloc t=>(repeat' split at h) <;> cases h
 case mapUpdate t m k v=>cases h
 case box t x=>(repeat' split at h) <;> cases h
 case load t a=>unfold loadA at h;(repeat' split at h) <;> cases h
 case store t a x=>unfold Qm9 at h;simp only [cond_eq_ite] at h;(repeat' split at h) <;> cases h
 case makeSlice t l c=>unfold QU3 at h;(repeat' split at h) <;> cases h
 case call c =>
  obtain ⟨callee,args,argTypes⟩:=c;cases callee with
  | value f=>unfold callA at h;simp only [cond_eq_ite] at h;(repeat' split at h) <;> cases h
  | invoke r m=>cases h
  | builtin b =>
   cases b <;> (try exact ⟨rfl,rfl,rfl⟩)
   case append=>simp only at h;unfold Qo7 at h;simp only [cond_eq_ite] at h;(repeat' split at h) <;> cases h
theorem evalOp_call {f:FuncId} {args:List AVal} (h:Qf2 P look objs o = .call f args):QP5 o.op=false∧Qsb o.op=false:=by
 obtain ⟨dst,op,type,pos,after,guard⟩:=o;cases op <;> (try exact ⟨rfl,rfl⟩) <;> simp only [Qf2] at h
 case alloc t=>(repeat' split at h) <;> cases h
 case mapUpdate t m k v=>cases h
 case box t x=>(repeat' split at h) <;> cases h
 case load t a=>unfold loadA at h;(repeat' split at h) <;> cases h
 case store t a x=>unfold Qm9 at h;simp only [cond_eq_ite] at h;(repeat' split at h) <;> cases h
 case makeSlice t l c=>unfold QU3 at h;(repeat' split at h) <;> cases h
 case call c =>
  obtain ⟨callee,args,argTypes⟩:=c;cases callee with
  | value f=>exact ⟨rfl,rfl⟩
  | invoke r m=>cases h
  | builtin b =>
   cases b <;> (try exact ⟨rfl,rfl⟩)
   case append=>simp only at h;unfold Qo7 at h;simp only [cond_eq_ite] at h;(repeat' split at h) <;> cases h
theorem evalOp_upd {v:AVal} {objs':Objs} (h:Qf2 P look objs o = .upd v objs'):QP5 o.op=true:=by
 obtain ⟨dst,op,type,pos,after,guard⟩:=o;cases op <;> (try rfl) <;> simp only [Qf2] at h
 case move x=>cases h
 case assign x=>cases h
 case build t ps=>unfold Qda at h;simp only [cond_eq_ite] at h;(repeat' split at h) <;> cases h
 case buildSlice t n ps=>unfold QA3 at h;simp only [cond_eq_ite] at h;(repeat' split at h) <;> cases h
 case load t a=>unfold loadA at h;(repeat' split at h) <;> cases h
 case nilCheck x=>(repeat' split at h) <;> cases h
 case binOp op t x y yt=>unfold binA hardA at h;(repeat' split at h) <;> cases h
 case unOp op t x=>unfold pureA at h;(repeat' split at h) <;> cases h
 case convert s d x=>unfold pureA at h;(repeat' split at h) <;> cases h
 case makeFunc f a b=>cases h
 case slice t x lo hi mx=>unfold Qra at h;simp only [cond_eq_ite] at h;(repeat' split at h) <;> cases h
 case fieldAddr t x f=>unfold Qg4 at h;simp only [cond_eq_ite] at h;(repeat' split at h) <;> cases h
 case field t x f=>(repeat' split at h) <;> cases h
 case indexAddr t x i=>unfold Qi4 at h;simp only [cond_eq_ite] at h;(repeat' split at h) <;> cases h
 case index t x i=>unfold indexA at h;(repeat' split at h) <;> cases h
 case extract x i=>(repeat' split at h) <;> cases h
 case call c =>
  obtain ⟨callee,args,argTypes⟩:=c;cases callee with
  | value f=>simp only at h;unfold callA at h;simp only [cond_eq_ite] at h;(repeat' split at h) <;> cases h
  | invoke r m=>cases h
  | builtin b =>
   cases b <;> (try rfl) <;> simp only at h <;> (try (cases h;done))
   case len=>unfold lenA at h;(repeat' split at h) <;> cases h
   case min=>unfold QI9 at h;simp only [cond_eq_ite] at h;(repeat' split at h) <;> cases h
   case max=>unfold QI9 at h;simp only [cond_eq_ite] at h;(repeat' split at h) <;> cases h
 all_goals cases h
theorem evalOp_eff {b:Bool} {v:AVal} {objs':Objs} (h:Qf2 P look objs o = .eff b v objs'):QP5 o.op=true:=by
 obtain ⟨dst,op,type,pos,after,guard⟩:=o;cases op <;> (try rfl) <;> simp only [Qf2] at h
 case move x=>cases h
 case assign x=>cases h
 case build t ps=>unfold Qda at h;simp only [cond_eq_ite] at h;(repeat' split at h) <;> cases h
 case buildSlice t n ps=>unfold QA3 at h;simp only [cond_eq_ite] at h;(repeat' split at h) <;> cases h
 case load t a=>unfold loadA at h;(repeat' split at h) <;> cases h
 case nilCheck x=>(repeat' split at h) <;> cases h
 case binOp op t x y yt=>unfold binA hardA at h;(repeat' split at h) <;> cases h
 case unOp op t x=>unfold pureA at h;(repeat' split at h) <;> cases h
 case convert s d x=>unfold pureA at h;(repeat' split at h) <;> cases h
 case makeFunc f a b=>cases h
 case slice t x lo hi mx=>unfold Qra at h;simp only [cond_eq_ite] at h;(repeat' split at h) <;> cases h
 case fieldAddr t x f=>unfold Qg4 at h;simp only [cond_eq_ite] at h;(repeat' split at h) <;> cases h
 case field t x f=>(repeat' split at h) <;> cases h
 case indexAddr t x i=>unfold Qi4 at h;simp only [cond_eq_ite] at h;(repeat' split at h) <;> cases h
 case index t x i=>unfold indexA at h;(repeat' split at h) <;> cases h
 case extract x i=>(repeat' split at h) <;> cases h
 case call c =>
  obtain ⟨callee,args,argTypes⟩:=c;cases callee with
  | value f=>simp only at h;unfold callA at h;simp only [cond_eq_ite] at h;(repeat' split at h) <;> cases h
  | invoke r m=>cases h
  | builtin b =>
   cases b <;> (try rfl) <;> simp only at h <;> (try (cases h;done))
   case len=>unfold lenA at h;(repeat' split at h) <;> cases h
   case min=>unfold QI9 at h;simp only [cond_eq_ite] at h;(repeat' split at h) <;> cases h
   case max=>unfold QI9 at h;simp only [cond_eq_ite] at h;(repeat' split at h) <;> cases h
 all_goals cases h
end kinds
structure Pre (P:Program) (nt:Nat) (ops:Array Oper) (slots:List (Nat × AVal)) (i:Nat) (tr:Nat->RSt) (Bs:List (Nat × Objs)) (Rd:List (Nat × Nat × (Objs->Prop))):Prop where
 loc0:(tr 0).loc=[]
 G0:(tr 0).G=[]
 step:∀ (k:Nat) (o:Oper),k<i->ops[k]? = some o -> ∃ (gb:Bool) (rs1:RSt) (v:AVal),Q98 ops (tr k) o gb rs1∧putR nt { rs1 with objs:=(tr (k+1)).objs } o.guard o.dst v=some (tr (k+1)) ∧
  (effAt ops (masks ops) k=true->Q66 P ops slots o o.guard gb rs1.loc rs1.G (tr k).objs v (tr (k+1)).objs) ∧
  (effAt ops (masks ops) k=false->(tr (k+1)).objs=(tr k).objs∧Q66 P ops slots o o.guard gb rs1.loc rs1.G (tr k).objs v (tr k).objs ∧
   ((∀ o',Q66 P ops slots o o.guard gb rs1.loc rs1.G o' v o') ∨ ∃ own f,(k,own,f) ∈ Rd∧own<=k∧(tr own).objs=(tr k).objs ∧ ∀ o',f o'->Q66 P ops slots o o.guard gb rs1.loc rs1.G o' v o'))
 bnd:∀ p o,(p,o) ∈ Bs->p<=i∧o=(tr p).objs
 zero:(0,(tr 0).objs) ∈ Bs
 eff:∀ k,k<i->effAt ops (masks ops) k=true->(k+1,(tr (k+1)).objs) ∈ Bs
 last:lastB Bs<=i∧(tr (lastB Bs)).objs=(tr i).objs
theorem Pre.done {ops:Array Oper} {slots:List (Nat × AVal)} {tr:Nat->RSt} {Bs:List (Nat × Objs)} {Rd:List (Nat × Nat × (Objs->Prop))} (h:Pre P nt ops slots ops.size tr Bs Rd)
  (hr:∀ i own f,(i,own,f) ∈ Rd -> ∀ p o,(p,o) ∈ Bs->QQc (masks ops) (QQ3 ops (masks ops)) i p=true->p ≠ own->f o):Trace P nt ops slots tr:=by
 have find:∀ p,p<=ops.size -> ∃ b,b<=p∧(b,(tr p).objs) ∈ Bs∧(tr b).objs=(tr p).objs ∧ ∀ k,b<=k->k<p->effAt ops (masks ops) k=false:=by
  intro p
  induction p with
  | zero=>intro _;exact ⟨0,yia _,h.zero,rfl,fun k h1 h2=>by omega⟩
  | succ p ih =>
   intro hp;cases ep:effAt ops (masks ops) p with
   | true=>exact ⟨p+1,yia _,h.eff p oA ep,rfl,fun k h1 h2=>by omega⟩
   | false =>
    obtain ⟨b,hb,hm,he,hk⟩:=ih oA;obtain ⟨o,ho⟩:=getO (ops:=ops) (i:=p) oA;obtain ⟨_,_,_,_,_,_,hn⟩:=h.step p o oA ho;rw [(hn ep).1];refine ⟨b,by omega,hm,he,fun k h1 h2=>?_⟩;rcases yGa k p with h'|h'
    ·exact hk k h1 h'
    ·have:k=p:=by omega
     rw [this];exact ep
 refine ⟨h.loc0,h.G0,fun i o ho=>?_⟩;have hi:=(Array.getElem?_eq_some_iff.1 ho).1;obtain ⟨gb,rs1,v,h1,h2,h3,h4⟩:=h.step i o hi ho;refine ⟨gb,rs1,v,h1,h2,h3,fun he=>⟨(h4 he).1,fun p hp hok=>?_⟩⟩;rcases (h4 he).2.2 with hall|⟨own,f,hm,_,hown,hf⟩
 ·exact hall _
 ·obtain ⟨b,hb,hmb,hobj,hk⟩:=find p hp;have hokb:QQc (masks ops) (QQ3 ops (masks ops)) i b=true:=by
   have:=okPosL_of hok;simp only [QQc,y7a] at this ⊢;intro j hj;have h5:=this j hj;simp only [QQ3,List.mem_filter,y5a] at hj;simp only [yha,yQa,ydb] at h5 ⊢;refine ⟨h5.1.imp id (fun hlt=>?_),h5.2.imp id (fun hle=>?_)⟩
   ·have hlt':j<p:=by simpa using hlt
    have:j<b:=by
     rcases yGa j b with h'|h'
     ·exact h'
     ·have:=hk j h' hlt';rw [hj.2] at this;cases this
    simpa using this
   ·exact Nat.ble_eq_true_of_le (by have:=yfa hle;omega)
  by_cases hbo:b=own
  ·subst hbo;have:(tr p).objs=(tr i).objs:=by rw [← hobj,hown]
   rw [this];exact (h4 he).2.1
  ·exact hf _ (hr i own f hm b _ hmb hokb hbo)
theorem QMd {sk:Bool} {ops:Array Oper} {slots:List (Nat × AVal)} {K:Loc->Objs->Prop}:∀ (m i:Nat),i+m=ops.size -> ∀ (tr:Nat->RSt) (loc:Loc) (G:Gs) (objs:Objs) (Bs:List (Nat × Objs)) (Rd:List (Nat × Nat × (Objs->Prop))),
  tr i=⟨loc,G,objs⟩->Pre P nt ops slots i tr Bs Rd->cdops P sk nt ops slots (masks ops) (QQ3 ops (masks ops)) i (ops.toList.drop i) loc G objs Bs Rd K ->
  ∃ tr':Nat->RSt,Trace P nt ops slots tr'∧(tr' 0).objs=(tr 0).objs∧K (tr' ops.size).loc (tr' ops.size).objs
 | 0,i,hn,tr,loc,G,objs,Bs,Rd,hi,hpre,h=>by
  have:ops.toList.drop i=[]:=ysb (by simp;omega);rw [this] at h;simp only [cdops] at h;obtain ⟨hK,hr⟩:=cfin_spec h;have hin:i=ops.size:=by omega
  subst hin;exact ⟨tr,hpre.done hr,rfl,by rw [hi];exact hK⟩
 | m+1,i,hn,tr,loc,G,objs,Bs,Rd,hi,hpre,h=>by
  have hlt:i<ops.toList.length:=by simp;omega
  rw [yMb hlt] at h;have ho:ops[i]? = some (ops.toList[i]):=by simp
  generalize ops.toList[i]=o at h ho;have hlt':i<ops.size:=by simpa using hlt
  have effMem:(QQ3 ops (masks ops)).any (fun j=>Nat.beq j i)=effAt ops (masks ops) i:=by
   cases he:effAt ops (masks ops) i with
   | true=>exact List.any_eq_true.2 ⟨i,by simp [QQ3,hlt',he],Nat.beq_refl i⟩
   | false =>
    rw [List.any_eq_false];intro j hj hb;have:=yla hb;subst this;simp only [QQ3,List.mem_filter] at hj;rw [he] at hj;cases hj.2
  have go:∀ (gb:Bool) (loc1:Loc) (G1:Gs) (v:AVal) (objs':Objs) (Bs':List (Nat × Objs)) (Rd':List (Nat × Nat × (Objs->Prop))),Q98 ops (tr i) o gb ⟨loc1,G1,objs⟩ ->
    (effAt ops (masks ops) i=true->Q66 P ops slots o o.guard gb loc1 G1 objs v objs'∧Bs'=(i+1,objs') :: Bs∧Rd'=Rd) ->
    (effAt ops (masks ops) i=false->objs'=objs∧Q66 P ops slots o o.guard gb loc1 G1 objs v objs∧Bs'=Bs ∧
     (((∀ o',Q66 P ops slots o o.guard gb loc1 G1 o' v o')∧Rd'=Rd) ∨ ∃ f,Rd'=(i,lastB Bs,f) :: Rd ∧ ∀ o',f o'->Q66 P ops slots o o.guard gb loc1 G1 o' v o')) ->
    (PutK nt ⟨loc1,G1,objs'⟩ o.guard o.dst v fun r=>cdops P sk nt ops slots (masks ops) (QQ3 ops (masks ops)) (i+1) (ops.toList.drop (i+1)) r.loc r.G r.objs Bs' Rd' K) ->
    ∃ tr':Nat->RSt,Trace P nt ops slots tr'∧(tr' 0).objs=(tr 0).objs∧K (tr' ops.size).loc (tr' ops.size).objs:=by
   intro gb loc1 G1 v objs' Bs' Rd' hg hE hN hput;obtain ⟨rs',hp,hk⟩:=QK4 hput;obtain ⟨hobj,_,_⟩:=QN9 hp;simp only at hobj
   let tr1:Nat->RSt:=fun k=>if k=i+1 then rs' else tr k
   have t1:tr1 (i+1)=rs':=by simp [tr1]
   have t0:∀ k,k<=i->tr1 k=tr k:=fun k hk=>by simp only [tr1];rw [if_neg oA]
   have htri:(tr i).objs=objs:=by rw [hi]
   have oldRd:∀ x,x ∈ Rd->x ∈ Rd':=by
    intro x hx;cases he:effAt ops (masks ops) i with
    | true=>rw [(hE he).2.2];exact hx
    | false =>
     rcases (hN he).2.2.2 with ⟨_,e⟩|⟨f,e,_⟩
     ·rw [e];exact hx
     ·rw [e];exact ywa _ hx
   have oldBs:∀ x,x ∈ Bs->x ∈ Bs':=by
    intro x hx;cases he:effAt ops (masks ops) i with
    | true=>rw [(hE he).2.1];exact ywa _ hx
    | false=>rw [(hN he).2.2.1];exact hx
   have hpre1:Pre P nt ops slots (i+1) tr1 Bs' Rd':=by
    refine ⟨by rw [t0 0 oA];exact hpre.loc0,by rw [t0 0 oA];exact hpre.G0,fun k o' hk' ho'=>?_,fun p o' hm=>?_,by rw [t0 0 oA];exact oldBs _ hpre.zero,fun k hk' ek=>?_,?_⟩
    ·rcases yGa k i with hki|hki
     ·obtain ⟨gb',rs1',v',q1,q2,q3,q4⟩:=hpre.step k o' hki ho';refine ⟨gb',rs1',v',by rw [t0 k oA];exact q1,by rw [t0 (k+1) oA];exact q2,by rw [t0 k oA,t0 (k+1) oA];exact q3,?_⟩;rw [t0 k oA,t0 (k+1) oA];intro ek;obtain ⟨r1,r2,r3⟩:=q4 ek;refine ⟨r1,r2,r3.imp id ?_⟩;rintro ⟨own,f,s1,s0,s2,s3⟩;exact ⟨own,f,oldRd _ s1,s0,by rw [t0 own oA];exact s2,s3⟩
     ·have hki:k=i:=by omega
      subst hki;rw [ho] at ho';simp only [yaa] at ho';subst ho';refine ⟨gb,⟨loc1,G1,objs⟩,v,by rw [t0 k oA];exact hg,by rw [t1,hobj];exact hp,fun ek=>?_,fun ek=>?_⟩
      ·rw [t0 k oA,t1,htri,hobj];exact (hE ek).1
      ·rw [t0 k oA,t1,htri,hobj];obtain ⟨r1,r2,r3,r4⟩:=hN ek;refine ⟨r1,r2,?_⟩;rcases r4 with ⟨r4,_⟩|⟨f,e,r4⟩
       ·exact .inl r4
       ·refine .inr ⟨lastB Bs,f,by rw [e];simp,hpre.last.1,?_,r4⟩;rw [t0 _ hpre.last.1,hpre.last.2,htri]
    ·cases he:effAt ops (masks ops) i with
     | true =>
      rw [(hE he).2.1] at hm;rcases List.mem_cons.1 hm with e|hm
      ·simp only [yDa] at e;obtain ⟨rfl,rfl⟩:=e;exact ⟨yia _,by rw [t1,hobj]⟩
      ·obtain ⟨r1,r2⟩:=hpre.bnd p o' hm;exact ⟨by omega,by rw [t0 p r1];exact r2⟩
     | false =>
      rw [(hN he).2.2.1] at hm;obtain ⟨r1,r2⟩:=hpre.bnd p o' hm;exact ⟨by omega,by rw [t0 p r1];exact r2⟩
    ·rcases yGa k i with hki|hki
     ·rw [t0 (k+1) oA];exact oldBs _ (hpre.eff k hki ek)
     ·have hki:k=i:=by omega
      subst hki;rw [t1,hobj,(hE ek).2.1];simp
    ·cases he:effAt ops (masks ops) i with
     | true=>rw [(hE he).2.1];exact ⟨yia _,rfl⟩
     | false =>
      rw [(hN he).2.2.1];refine ⟨by have:=hpre.last.1;omega,?_⟩;rw [t0 _ hpre.last.1,hpre.last.2,t1,hobj,htri,(hN he).1]
   obtain ⟨tr',q1,q2,q3⟩:=QMd m (i+1) oA tr1 rs'.loc rs'.G rs'.objs Bs' Rd' (by rw [t1]) hpre1 hk;exact ⟨tr',q1,by rw [q2,t0 0 oA],q3⟩
  have effF:QP5 o.op=false->QF8 o.op=false->effAt ops (masks ops) i=false:=by
   intro h1 h2;unfold effAt;simp [ho,h1,h2]
  have effT:QP5 o.op=true->effAt ops (masks ops) i=true:=by
   intro h1;unfold effAt;simp [ho,h1]
  have body:∀ (gb:Bool) (loc1:Loc) (G1:Gs),Q98 ops (tr i) o gb ⟨loc1,G1,objs⟩ ->
    cdstep P sk nt ops slots (QQ3 ops (masks ops)) i o o.guard gb (lastB Bs) loc1 G1 objs Bs Rd (fun loc G objs Bs Rd=>cdops P sk nt ops slots (masks ops) (QQ3 ops (masks ops)) (i+1) (ops.toList.drop (i+1)) loc G objs Bs Rd K) ->
    ∃ tr':Nat->RSt,Trace P nt ops slots tr'∧(tr' 0).objs=(tr 0).objs∧K (tr' ops.size).loc (tr' ops.size).objs:=by
   intro gb loc1 G1 hg hs
   have pure':∀ v,QP5 o.op=false->QF8 o.op=false->(∀ o',Q66 P ops slots o o.guard gb loc1 G1 o' v o')->(cput nt loc1 G1 objs o.guard o.dst v fun loc G objs=>cdops P sk nt ops slots (masks ops) (QQ3 ops (masks ops)) (i+1) (ops.toList.drop (i+1)) loc G objs Bs Rd K) ->
     ∃ tr':Nat->RSt,Trace P nt ops slots tr'∧(tr' 0).objs=(tr 0).objs∧K (tr' ops.size).loc (tr' ops.size).objs:=by
    intro v k1 k2 hop hc;have ef:=effF k1 k2;exact go gb loc1 G1 v objs Bs Rd hg (fun e=>by rw [ef] at e;cases e) (fun _=>⟨rfl,hop objs,rfl,.inl ⟨hop,rfl⟩⟩) (cput_iff.1 hc)
   unfold cdstep at hs;split at hs
   ·rename_i c x y hop;split at hs
    ·rename_i v hv;refine pure' v (by rw [hop];rfl) (by rw [hop];rfl) (fun o'=>?_) hs;right;unfold QYa;simp only [hop];exact ⟨hv,trivial⟩
    ·exact hs.elim
   ·rename_i hne
    have gives:∀ (objs0:Objs) (v:AVal) (objs1:Objs),(match Qf2 P (lookR ops slots loc1 o.guard) objs0 o with
      | .bad=>(o.guard=none∨objs1=objs0)∧evalX P (lookR ops slots loc1 o.guard) objs0 o fun u o2=>Sub u v∧o2=objs1
      | .val u=>Sub u v∧objs1=objs0
      | .ifb b u=>(gb=true->b=true)∧u=v∧objs1=objs0
      | .eff b u o2=>o.guard=none∧b=true∧u=v∧objs1=o2
      | .upd u o2=>o.guard=none∧u=v∧objs1=o2
      | .call f args=>(gb=true->ACalls P f args objs0 fun r o2=>r=v∧o2=objs1)∧(gb=false->objs1=objs0))->Q66 P ops slots o o.guard gb loc1 G1 objs0 v objs1:=by
     intro objs0 v objs1 hh;right;unfold QYa;split
     ·rename_i c x y hop;exact (hne c x y hop).elim
     ·exact hh
    replace hs:=cdown hs
    unfold cdres at hs;split at hs
    ·rename_i he;split at hs
     ·rename_i hany;rw [effMem] at hany;split at hs
      ·rename_i hgn;obtain ⟨v,objs',h1,h2⟩:=hs;rw [forceP_iff] at h2;exact go gb loc1 G1 v objs' _ Rd hg (fun _=>⟨gives _ _ _ (by rw [he];rw [hgn] at *;exact ⟨.inl rfl,h1⟩),rfl,rfl⟩) (fun e=>by rw [hany] at e;cases e) (by rw [hgn];exact Q0a (K:=fun loc G objs Bs Rd=>cdops P sk nt ops slots (masks ops) (QQ3 ops (masks ops)) (i+1) (ops.toList.drop (i+1)) loc G objs Bs Rd K) (cput_iff.1 h2))
      ·exact hs.elim
     ·obtain ⟨v,hk12,hx,hs⟩:=hs;simp only [yRa] at hk12;have ef:=effF hk12.1 hk12.2;exact go gb loc1 G1 v objs Bs _ hg (fun e=>by rw [ef] at e;cases e) (fun _=>⟨rfl,gives _ _ _ (by rw [he];exact ⟨.inr rfl,hx⟩),rfl,.inr ⟨_,rfl,fun o' hf=>gives _ _ _ (by rw [hf.1];exact ⟨.inr rfl,hf.2⟩)⟩⟩) (cput_iff.1 hs)
    ·rename_i v he;obtain ⟨k1,k2⟩:=evalOp_val he;split at hs
     ·have ef:=effF k1 k2
      exact go gb loc1 G1 v objs Bs _ hg (fun e=>by rw [ef] at e;cases e) (fun _=>⟨rfl,gives _ _ _ (by rw [he];exact ⟨Sub.refl _,rfl⟩),rfl,.inr ⟨_,rfl,fun o' hf=>gives _ _ _ (by
       cases sk with
       | false=>rw [show Qf2 P (lookR ops slots loc1 o.guard) o' o = .val v from hf];exact ⟨Sub.refl _,rfl⟩
       | true=>obtain ⟨u,hu,hsub⟩:=hf;rw [hu];exact ⟨hsub,rfl⟩)⟩⟩) (cput_iff.1 hs)
     ·rename_i hlk;refine pure' v k1 k2 (fun o'=>gives _ _ _ ?_) hs;rw [QBa o k1 hlk o' objs,he];exact ⟨Sub.refl _,rfl⟩
    ·rename_i b v he;obtain ⟨k1,k2,k3⟩:=evalOp_ifb he;refine pure' v k1 k2 (fun o'=>gives _ _ _ ?_) hs.2;rw [QBa o k1 k3 o' objs,he];exact ⟨hs.1,rfl,rfl⟩
    ·rename_i b v objs' he;have k1:=evalOp_eff he;split at hs
     ·rename_i hgn;rw [Qsd] at hs;exact go gb loc1 G1 v objs' _ Rd hg (fun _=>⟨gives _ _ _ (by rw [he];exact ⟨hgn,hs.1,rfl,rfl⟩),rfl,rfl⟩) (fun e=>by rw [effT k1] at e;cases e) (by rw [hgn];exact Q0a (K:=fun loc G objs Bs Rd=>cdops P sk nt ops slots (masks ops) (QQ3 ops (masks ops)) (i+1) (ops.toList.drop (i+1)) loc G objs Bs Rd K) (cput_iff.1 hs.2))
     ·exact hs.elim
    ·rename_i v objs' he;have k1:=evalOp_upd he;split at hs
     ·rename_i hgn;rw [Qsd] at hs;exact go gb loc1 G1 v objs' _ Rd hg (fun _=>⟨gives _ _ _ (by rw [he];exact ⟨hgn,rfl,rfl⟩),rfl,rfl⟩) (fun e=>by rw [effT k1] at e;cases e) (by rw [hgn];exact Q0a (K:=fun loc G objs Bs Rd=>cdops P sk nt ops slots (masks ops) (QQ3 ops (masks ops)) (i+1) (ops.toList.drop (i+1)) loc G objs Bs Rd K) (cput_iff.1 hs))
     ·exact hs.elim
    ·rename_i f args he;rw [Qa6] at hs;split at hs
     ·rename_i hany;rw [effMem] at hany;split at hs
      ·rename_i hgn;obtain ⟨r,objs',h1,h2⟩:=hs;rw [forceP_iff] at h2;exact go gb loc1 G1 r objs' _ Rd hg (fun _=>⟨gives _ _ _ (by rw [he];exact ⟨fun _=>h1,fun hh=>by have hg2:=hg;unfold Q98 at hg2;rw [hgn] at hg2;rw [hg2.1] at hh;cases hh⟩),rfl,rfl⟩) (fun e=>by rw [hany] at e;cases e) (by rw [hgn];exact Q0a (K:=fun loc G objs Bs Rd=>cdops P sk nt ops slots (masks ops) (QQ3 ops (masks ops)) (i+1) (ops.toList.drop (i+1)) loc G objs Bs Rd K) (cput_iff.1 h2))
      ·rename_i g hgn;obtain ⟨r,objs',h1,h3,h2⟩:=hs;rw [forceP_iff] at h2;exact go gb loc1 G1 r objs' _ Rd hg (fun _=>⟨gives _ _ _ (by rw [he];exact ⟨fun hh=>h1 hh,h3⟩),rfl,rfl⟩) (fun e=>by rw [hany] at e;cases e) (by rw [hgn];exact Q0a (K:=fun loc G objs Bs Rd=>cdops P sk nt ops slots (masks ops) (QQ3 ops (masks ops)) (i+1) (ops.toList.drop (i+1)) loc G objs Bs Rd K) (cput_iff.1 h2))
     ·rename_i hany;rw [effMem] at hany;obtain ⟨r,h1,h2⟩:=hs;have hcall:∀ o',Qf2 P (lookR ops slots loc1 o.guard) o' o = .call f args:=by
       intro o';obtain ⟨k1,k3⟩:=evalOp_call he;rw [QBa o k1 k3 o' objs,he]
      exact go gb loc1 G1 r objs Bs _ hg (fun e=>by rw [hany] at e;cases e) (fun _=>⟨rfl,gives _ _ _ (by rw [he];exact ⟨fun hh=>h1 hh,fun _=>rfl⟩),rfl,.inr ⟨_,rfl,fun o' hf=>gives _ _ _ (by rw [hcall o'];exact ⟨fun hh=>hf hh,fun _=>rfl⟩)⟩⟩) (cput_iff.1 h2)
  simp only [cdops] at h;split at h
  ·rename_i hg;refine body true loc G ?_ (by rw [hg];exact h);unfold Q98;rw [hg];exact ⟨rfl,hi.symm⟩
  ·rename_i g hg;split at h
   ·rename_i gb G' hgo;have hgk:Q98 ops (tr i) o gb ⟨loc,G',objs⟩:=by
     unfold Q98;rw [hg,hi];exact QOd hgo
    cases hsk:sk with
    | false =>
     rw [hsk] at h;refine body gb loc G' hgk ?_;rw [hg,hsk];exact h
    | true =>
     rw [hsk] at h;cases hgb:gb with
     | true =>
      rw [hgb] at h;rw [hgb] at hgk;refine body true loc G' hgk ?_;rw [hg,hsk];exact h
     | false =>
      rw [hgb] at h hgk;simp only [cput_iff] at h;cases he:effAt ops (masks ops) i with
      | true =>
       have hany:=effMem;rw [he] at hany;simp only [hany] at h;rw [hsk] at go;refine go false loc G' (.lit (.bool false)) objs _ Rd hgk (fun _=>⟨.inl ⟨rfl,rfl⟩,rfl,rfl⟩) (fun e=>by rw [he] at e;cases e) (by rw [hg];exact Q0a (K:=fun loc G objs Bs Rd=>cdops P true nt ops slots (masks ops) (QQ3 ops (masks ops)) (i+1) (ops.toList.drop (i+1)) loc G objs Bs Rd K) h)
      | false =>
       have hany:=effMem;rw [he] at hany;simp only [hany] at h;rw [hsk] at go;exact go false loc G' (.lit (.bool false)) objs Bs Rd hgk (fun e=>by rw [he] at e;cases e) (fun _=>⟨rfl,.inl ⟨rfl,rfl⟩,rfl,.inl ⟨fun _=>.inl ⟨rfl,rfl⟩,rfl⟩⟩) (by rw [hg];exact h)
   ·exact h.elim
theorem QVb {ops:Array Oper} {slots:List (Nat × AVal)} {objs:Objs} {K:Loc->Objs->Prop} (h:cdraw P nt ops slots objs K):DrawW P nt ops slots objs K:=by
 obtain ⟨h1,h2⟩:=h;simp only [yha] at h1;rw [QGa,QGa] at h2
 obtain ⟨tr,q1,q2,q3⟩:=QMd (ops:=ops) ops.size 0 oA (fun _=>⟨[],[],objs⟩) [] [] objs [(0,objs)] [] rfl
  ⟨rfl,rfl,fun k o hk=>absurd hk oA,fun p o hm=>by simp at hm;obtain ⟨rfl,rfl⟩:=hm;exact ⟨yia _,rfl⟩,by simp,fun k hk=>absurd hk oA,by simp [lastB]⟩ (by simpa using h2)
 exact ⟨h1.1,h1.2,tr,q1,q2,q3⟩
theorem QJ8 (c:Code):∀ (Q:CQ) (s:List (Nat × AVal)) (o:Objs),cwp P nt n0 keep c Q s o->awp P nt n0 keep c (fun e s=>Q e s.slots s.objs) ⟨s,o⟩:=by
 induction c with
 | skip=>exact fun Q s o h=>h
 | label l=>exact fun Q s o h=>h
 | exit id=>exact fun Q s o h=>h
 | goto l=>exact fun Q s o h=>h
 | ret=>exact fun Q s o h=>h
 | refuse why=>exact fun Q s o h=>h
 | scope b ih =>
  intro Q s o h;simp only [cwp] at h;simp only [awp];split
  ·rename_i hk;rw [hk] at h;refine Q87 b _ _ _ ?_ (ih _ s o h);intro e s hs;cases e with
   | normal=>exact hs
   | exit i=>exact hs
   | goto l=>exact hs
   | ret=>exact hs
  ·rename_i hk;rw [hk] at h;obtain ⟨R,h1,h2⟩:=h;exact ⟨_,h1,fun e t ht=>h2 e t.slots t.objs ht⟩
 | rangeFunc f ps x y _ _ =>
  intro Q s o h;obtain ⟨R,h1,h2⟩:=h;exact ⟨_,h1,fun e t ht=>h2 e t.slots t.objs ht⟩
 | region id ops draw =>
  intro Q s o h;cases draw with
  | false =>
   simp only [cwp,QYb] at h;exact QZ9 h
  | true =>
   simp only [cwp,QYb] at h;simp only [awp];split
   ·rename_i hk;rw [hk] at h;exact QVb h
   ·rename_i hk;rw [hk] at h;exact h
 | seq x y ihx ihy =>
  intro Q s o h;simp only [cwp] at h;simp only [awp];split
  ·rename_i hk;rw [hk] at h;have:=ihx _ s o h;refine Q87 x _ _ _ ?_ this;intro e s hq;cases e with
   | normal=>exact ihy Q s.slots s.objs hq
   | exit id=>exact hq
   | goto l=>exact hq
   | ret=>exact hq
  ·rename_i hk;rw [hk] at h;obtain ⟨J,hJ,h⟩:=h;refine ⟨fun s=>J s.slots s.objs,fun s hs=>ihy Q s.slots s.objs (hJ s.slots s.objs hs),?_⟩;have:=ihx _ s o h;refine Q87 x _ _ _ ?_ this;intro e s hq;cases e with
   | normal =>
    obtain ⟨s',o',hw,hj⟩:=hq;exact ⟨⟨s',o'⟩,hw,hj⟩
   | exit id=>exact hq
   | goto l=>exact hq
   | ret=>exact hq
 | cond c x y ihx ihy =>
  intro Q s o h;simp only [cwp] at h;simp only [awp];split
  ·rename_i b hb;rw [hb] at h;exact ⟨fun ht=>ihx Q s o (h.1 ht),fun hf=>ihy Q s o (h.2 hf)⟩
  ·rename_i hne;split at h
   ·rename_i b hb;exact (hne b hb).elim
   ·exact h
 | block id body ih =>
  intro Q s o h;refine Q87 body _ _ _ ?_ (ih _ s o h);intro e s hs;cases e with
  | normal=>exact hs
  | exit i=>exact hs
  | goto l=>exact hs
  | ret=>exact hs
 | loop body ih =>
  intro Q s o h;obtain ⟨I,n,s1,o1,hw,hI,hr⟩:=h;refine ⟨fun m s=>I m s.slots s.objs,n,⟨s1,o1⟩,hw,hI,fun m s hm=>?_⟩;refine Q87 body _ _ _ ?_ (ih _ s.slots s.objs (hr m s.slots s.objs hm));intro e s hs;cases e with
  | normal =>
   obtain ⟨m',s',o',hlt,hw,hI'⟩:=hs;exact ⟨m',⟨s',o'⟩,hlt,hw,hI'⟩
  | exit i=>exact hs
  | goto l=>exact hs
  | ret=>exact hs
def CRet (P:Program) (fn:Func) (n0:Nat) (R:AVal->Objs->Prop):CQ:=fun e s o =>
 match e with
 | .normal=>(match retA P fn ⟨s,o⟩ with|some r0=>forceA r0 fun r0=>∃ r objs',Told n0 r0 o r objs'∧R r objs'|none=>False)
 | .ret=>(match retA P fn ⟨s,o⟩ with|some r0=>forceA r0 fun r0=>∃ r objs',Told n0 r0 o r objs'∧R r objs'|none=>False)
 | _=>False
theorem ACalls.of_cwp {f:FuncId} {fn:Func} {c:Code} {args:List AVal} {objs:Objs} {R:AVal->Objs->Prop} (keep:Nat->Bool) (hf:P.funcs[f]? = some fn) (hb:fn.body=some c) (hlen:Nat.ble args.length fn.ntmps=true)
  (h:cwp P fn.ntmps objs.length keep c (CRet P fn objs.length R) (Qp3 0 args) objs):ACalls P f args objs R:=by
 refine ACalls.of_awp keep hf hb (yfa hlen) (Q87 c _ _ _ ?_ (QJ8 c _ _ _ h));intro e s hs;cases e with
 | normal=>simp only [CRet,Q96] at hs;exact hs
 | ret=>simp only [CRet,Q96] at hs;exact hs
 | exit id=>exact hs
 | goto l=>exact hs
end
def edgeTo (i:Nat) (o:Oper):Oper:={ o with after:=(⟨i,.data⟩ :: o.after.toList).toArray }
def addL (i:Nat):Nat->List Oper->List Oper
 | _,[]=>[]
 | 0,o :: r=>edgeTo i o :: r
 | j+1,o :: r=>o :: addL i j r
def tr2 (p k:Nat):Nat:=bif Nat.beq k p then p+1 else bif Nat.beq k (p+1) then p else k
def reE (p:Nat) (o:Oper):Oper:={ o with after:=(o.after.toList.map fun e=>⟨tr2 p e.on,e.ground⟩).toArray,guard:=(match o.guard with|some g=>some (tr2 p g.1,g.2)|none=>none) }
def swapL:Nat->List Oper->List Oper
 | 0,a :: b :: r=>b :: a :: r
 | p+1,a :: r=>a :: swapL p r
 | _,l=>l
def way1 (p:Nat) (ops:Array Oper):Array Oper:=(addL p (p+1) ops.toList).toArray
def way2 (p:Nat) (ops:Array Oper):Array Oper:=(swapL p ((addL (p+1) p ops.toList).map (reE p))).toArray
theorem addL_get (i:Nat):∀ (j:Nat) (l:List Oper) (k:Nat),(addL i j l)[k]? = if k=j then (l[k]?).map (edgeTo i) else l[k]?
 | _,[],k=>by simp [addL]
 | 0,o :: r,0=>by simp [addL]
 | 0,o :: r,k+1=>by simp [addL]
 | j+1,o :: r,0=>by simp [addL]
 | j+1,o :: r,k+1=>by
  simp only [addL,List.getElem?_cons_succ,addL_get i j r k,Nat.add_right_cancel_iff]
theorem Qrd (i:Nat):∀ (j:Nat) (l:List Oper),(addL i j l).length=l.length
 | _,[]=>by simp [addL]
 | 0,o :: r=>by simp [addL]
 | j+1,o :: r=>by simp [addL,Qrd i j r]
theorem tr2_tr2 (p k:Nat):tr2 p (tr2 p k)=k:=by
 unfold tr2;cases h1:Nat.beq k p with
 | true =>
  have:=yla h1;subst this;have h2:Nat.beq (k+1) k=false:=by cases h:Nat.beq (k+1) k with|false=>rfl|true=>exact absurd (yla h) oA
  simp [h2]
 | false =>
  cases h2:Nat.beq k (p+1) with
  | true =>
   have:=yla h2;subst this;simp
  | false=>simp [h1,h2]
theorem tr2_lt {p k n:Nat} (hp:p+1<n):tr2 p k<n ↔ k<n:=by
 unfold tr2;cases h1:Nat.beq k p with
 | true=>have:=yla h1;simp only [cond_true];omega
 | false =>
  cases h2:Nat.beq k (p+1) with
  | true=>have:=yla h2;simp only [cond_true,cond_false];omega
  | false=>simp
theorem swapL_len:∀ (p:Nat) (l:List Oper),(swapL p l).length=l.length
 | 0,[]=>rfl
 | 0,[a]=>rfl
 | 0,a :: b :: r=>rfl
 | p+1,[]=>rfl
 | p+1,a :: r=>by simp [swapL,swapL_len p r]
theorem QLe:∀ (p:Nat) (l:List Oper) (k:Nat),p+1<l.length->(swapL p l)[tr2 p k]? = l[k]?
 | 0,[],_,h=>absurd h (by simp)
 | 0,[a],_,h=>absurd h (by simp)
 | 0,a :: b :: r,0,_=>rfl
 | 0,a :: b :: r,1,_=>rfl
 | 0,a :: b :: r,k+2,_=>rfl
 | p+1,[],_,h=>absurd h (by simp)
 | p+1,a :: r,0,_=>rfl
 | p+1,a :: r,k+1,h=>by
  have ih:=QLe p r k (by simpa using h);have e:tr2 (p+1) (k+1)=tr2 p k+1:=by
   show (bif Nat.beq k p then p+1+1 else bif Nat.beq k (p+1) then p+1 else k+1)=(bif Nat.beq k p then p+1 else bif Nat.beq k (p+1) then p else k)+1;cases Nat.beq k p <;> cases Nat.beq k (p+1) <;> rfl
  rw [e];simpa [swapL] using ih
section
variable {P:Program} {md:Region.Mode} {Q:Exit->Act->World->Prop}
structure SameOps (σ:Nat->Nat) (ops ops':Array Oper):Prop where
 get:∀ k,∃ f:Oper->Array Edge,ops'[σ k]? = (ops[k]?).map fun o=>{ o with after:=f o,guard:=(match o.guard with|some g=>some (σ g.1,g.2)|none=>none) }
theorem SameOps.yielded {σ:Nat->Nat} {ops ops':Array Oper} (h:SameOps σ ops ops') (tmps:Array Value) (k:Nat):yielded ops' tmps (σ k)=yielded ops tmps k:=by
 obtain ⟨f,e⟩:=h.get k;unfold Go.yielded;rw [e];cases ops[k]? <;> rfl
theorem SameOps.wpOp {σ:Nat->Nat} {ops ops':Array Oper} (h:SameOps σ ops ops') {k:Nat} {K:Act->World->Prop} {a:Act} {w:World}:wpOp P ops' Q (σ k) K a w ↔ wpOp P ops Q k K a w:=by
 obtain ⟨f,e⟩:=h.get k;unfold Go.wpOp;rw [e];cases ho:ops[k]? with
 | none=>exact Iff.rfl
 | some o =>
  have hw:Region.wanted ({ o with after:=f o,guard:=(match o.guard with|some g=>some (σ g.1,g.2)|none=>none) }:Oper) (Go.yielded ops' a.tmps)=Region.wanted o (Go.yielded ops a.tmps):=by
   unfold Region.wanted;cases hg:o.guard with
   | none=>rfl
   | some g =>
    simp only;rw [h.yielded]
  simp only [yBa];rw [hw];exact Iff.rfl
def Qhc:Op->Bool
 | .move _ | .assign _ | .alloc _ | .box .. | .build .. | .buildSlice .. | .load .. | .store .. | .binOp .. | .fieldAddr .. | .field .. | .indexAddr .. | .index ..=>true
 | _=>false
theorem plain_run {ρ:Operand->Value} {o:Oper} {w w':World} {x:Next} (hp:Qhc o.op=true) (h:(execOp ρ o).run P w = .ok x w'):(∃ v,x = .value v)∨x = .skip:=by
 have val:∀ m:Sem Value,(do pure (Next.value (← m)):Sem Next).run P w = .ok x w' -> ∃ v,x = .value v:=by
  intro m hm;simp only [yqa] at hm;cases hr:m.run P w with
  | ok u w1 =>
   rw [hr] at hm;simp only [yga,yta] at hm
   injection hm with h1 _
   exact ⟨u,h1.symm⟩
  | halt e w1=>rw [hr] at hm;cases hm
 obtain ⟨dst,op,type,pos,after,guard⟩:=o;cases op <;> simp only [Qhc] at hp <;> first|(cases hp;done)|skip
 case store t a y =>
  right;simp only [execOp,yqa] at h;cases hr:(Instr.storeAt t (ρ a) (ρ y)).run P w with
  | ok u w1 =>
   rw [hr] at h;simp only [yga,yta] at h
   injection h with h1 _
   exact h1.symm
  | halt e w1=>rw [hr] at h;cases h
 case move y=>simp only [execOp,yta] at h;injection h with h1 _;exact .inl ⟨_,h1.symm⟩
 case assign y=>simp only [execOp,yta] at h;injection h with h1 _;exact .inl ⟨_,h1.symm⟩
 all_goals exact .inl (val _ h)
theorem wpOp_and {ops:Array Oper} {k:Nat} {K1 K2 K:Act->World->Prop} {a:Act} {w:World} (hp:∀ o,ops[k]? = some o->Qhc o.op=true) (h:∀ a w,K1 a w->K2 a w->K a w) (h1:wpOp P ops Q k K1 a w) (h2:wpOp P ops Q k K2 a w):wpOp P ops Q k K a w:=by
 unfold Go.wpOp at *;cases ho:ops[k]? with
 | none=>simp only [ho] at h1 h2 ⊢;exact h _ _ h1 h2
 | some o =>
  simp only [ho] at h1 h2 ⊢;split
  ·rename_i hw;rw [if_pos hw] at h1 h2;rcases h1 with h1|h1
   ·rcases h2 with h2|h2
    ·left;unfold Oper.wp at *;cases hr:(execOp a.eval o).run P w with
     | ok x w' =>
      rw [hr] at h1 h2;rcases plain_run (hp o ho) hr with ⟨v,rfl⟩|rfl
      ·exact h _ _ h1 h2
      ·exact h _ _ h1 h2
     | halt x w' =>
      rw [hr] at h1;cases x <;> exact h1
    ·exact .inr h2
   ·exact .inr h1
  ·rename_i hw;rw [if_neg hw] at h1 h2;exact h _ _ h1 h2
theorem QSb {ops:Array Oper} {k:Nat} {K K':Act->World->Prop} {a:Act} {w:World} (h:∀ a w,K a w->K' a w) (h1:wpOp P ops Q k K a w):wpOp P ops Q k K' a w:=by
 unfold Go.wpOp at *;cases ho:ops[k]? with
 | none=>simp only [ho] at h1 ⊢;exact h _ _ h1
 | some o =>
  simp only [ho] at h1 ⊢;split
  ·rename_i hw;rw [if_pos hw] at h1;exact h1.imp (Oper.wp_mono h) id
  ·rename_i hw;rw [if_neg hw] at h1;exact h _ _ h1
theorem QRb (i j:Nat) (ops:Array Oper):SameOps id ops (addL i j ops.toList).toArray:=by
 refine ⟨fun k=>?_⟩;simp only [id,y9a,addL_get,yVa]
 by_cases h:k=j
 ·refine ⟨fun o=>(⟨i,.data⟩ :: o.after.toList).toArray,?_⟩;rw [if_pos h];cases ops[k]? with
  | none=>rfl
  | some o=>cases o;simp only [yBa,edgeTo];congr 2;cases ‹Option Tag› <;> rfl
 ·refine ⟨fun o=>o.after,?_⟩;rw [if_neg h];cases ops[k]? with
  | none=>rfl
  | some o=>cases o;simp only [yBa];congr 2;cases ‹Option Tag› <;> rfl
theorem way_ready {i j:Nat} {ops:Array Oper} {listed:Array Bool} {k:Nat}:k ∈ Region.ready md (addL i j ops.toList).toArray listed ↔ k ∈ Region.ready md ops listed∧(k=j->listed.getD i false=true):=by
 rw [mem_ready,mem_ready];simp only [y9a,addL_get,yVa]
 by_cases h:k=j
 ·subst h;simp only [if_true];cases ops[k]? with
  | none=>simp
  | some o =>
   constructor
   ·rintro ⟨h1,o',ho,h2⟩;simp only [yBa,yaa] at ho;subst ho;refine ⟨⟨h1,o,rfl,fun e he hb=>h2 e (by simp [edgeTo];exact .inr he) hb⟩,fun _=>h2 ⟨i,.data⟩ (by simp [edgeTo]) rfl⟩
   ·rintro ⟨⟨h1,o',ho,h2⟩,h3⟩;simp only [yaa] at ho;subst ho;refine ⟨h1,_,rfl,fun e he hb=>?_⟩;simp only [edgeTo,List.mem_toArray,y6b,Array.mem_toList_iff] at he;rcases he with rfl|he
    ·simpa using h3
    ·exact h2 e he hb
 ·simp only [if_neg h];exact ⟨fun q=>⟨q,fun e=>absurd e h⟩,fun q=>q.1⟩
theorem Qbb {l:Array Bool} {i k:Nat} (h:l.getD i true=false):(l.setIfInBounds i true).getD k false=(l.getD k false||decide (k=i)):=by
 have hi:i<l.size:=by
  rcases yGa i l.size with h'|h'
  ·exact h'
  ·simp [yZa h'] at h
 by_cases hk:k=i
 ·subst hk;simp [hi]
 ·simp [yPa (Ne.symm hk),hk]
theorem way_met {i j:Nat} {ops:Array Oper}:∀ (fuel:Nat) (listed:Array Bool) (a:Act) (w:World),listed.getD i false=true->wpAny P md (addL i j ops.toList).toArray Q fuel listed a w->wpAny P md ops Q fuel listed a w:=by
 intro fuel;have hr:∀ listed:Array Bool,listed.getD i false=true->Region.ready md ops listed=[]->Region.ready md (addL i j ops.toList).toArray listed=[]:=by
  intro listed hl h;rw [yeb] at h ⊢;exact fun k hk=>h k (way_ready.1 hk).1
 induction fuel with
 | zero =>
  intro listed a w hl h;refine ⟨?_,h.2⟩;have h1:=h.1;rw [yeb] at h1 ⊢;exact fun k hk=>h1 k (way_ready.2 ⟨hk,fun _=>hl⟩)
 | succ fuel ih =>
  intro listed a w hl h;refine ⟨fun hn=>h.1 (hr listed hl hn),fun k hk=>?_⟩;have h2:=h.2 k (way_ready.2 ⟨hk,fun _=>hl⟩);have h3:=(QRb i j ops).wpOp.1 h2;refine QSb (fun a w hx=>ih _ a w ?_ hx) h3;rw [Qbb (mem_ready.1 hk).1,hl]
  rfl
theorem way_split {i j:Nat} {ops:Array Oper} (hp:∀ (k:Nat) (o:Oper),ops[k]? = some o->Qhc o.op=true) (hne:i ≠ j):∀ (fuel:Nat) (listed:Array Bool) (a:Act) (w:World),
  wpAny P md (addL i j ops.toList).toArray Q fuel listed a w->wpAny P md (addL j i ops.toList).toArray Q fuel listed a w->wpAny P md ops Q fuel listed a w:=by
 intro fuel
 induction fuel with
 | zero =>
  intro listed a w h1 h2;refine ⟨?_,h1.2⟩;have q1:=h1.1;have q2:=h2.1;rw [yeb] at q1 q2 ⊢;intro k hk
  by_cases hkj:k=j
  ·exact q2 k (way_ready.2 ⟨hk,fun e=>absurd (e.symm.trans hkj) hne⟩)
  ·exact q1 k (way_ready.2 ⟨hk,fun e=>absurd e hkj⟩)
 | succ fuel ih =>
  intro listed a w h1 h2;refine ⟨fun hn=>h1.1 ?_,fun k hk=>?_⟩
  ·rw [yeb] at hn ⊢;exact fun k hk=>hn k (way_ready.1 hk).1
  ·have hl:=(mem_ready.1 hk).1
   by_cases hkj:k=j
   ·subst hkj;have q2:=(QRb k i ops).wpOp.1 (h2.2 k (way_ready.2 ⟨hk,fun e=>absurd e.symm hne⟩));refine QSb (fun a w hx=>way_met _ _ a w ?_ hx) q2;rw [Qbb hl];simp
   ·by_cases hki:k=i
    ·subst hki;have q1:=(QRb k j ops).wpOp.1 (h1.2 k (way_ready.2 ⟨hk,fun e=>absurd e hkj⟩));refine QSb (fun a w hx=>way_met _ _ a w ?_ hx) q1;rw [Qbb hl];simp
    ·have q1:=(QRb i j ops).wpOp.1 (h1.2 k (way_ready.2 ⟨hk,fun e=>absurd e hkj⟩));have q2:=(QRb j i ops).wpOp.1 (h2.2 k (way_ready.2 ⟨hk,fun e=>absurd e hki⟩));exact wpOp_and (hp k) (fun a w x1 x2=>ih _ a w x1 x2) q1 q2
theorem swap_same {p:Nat} {ops:Array Oper} (h:p+1<ops.size):SameOps (tr2 p) ops (swapL p (ops.toList.map (reE p))).toArray:=by
 refine ⟨fun k=>⟨fun o=>(o.after.toList.map fun e=>⟨tr2 p e.on,e.ground⟩).toArray,?_⟩⟩;rw [y9a,QLe p _ k (by simpa using h),yra,yVa]
 rfl
theorem Qxc {p:Nat} {ops:Array Oper} (h:p+1<ops.size) {listed listed':Array Bool} (hsz:listed.size=ops.size) (hsz':listed'.size=ops.size) (hl:∀ k,listed'.getD (tr2 p k) false=listed.getD k false) {k:Nat} :
  tr2 p k ∈ Region.ready md (swapL p (ops.toList.map (reE p))).toArray listed' ↔ k ∈ Region.ready md ops listed:=by
 obtain ⟨f,e⟩:=(swap_same h).get k;have hg:(swapL p (ops.toList.map (reE p))).toArray[tr2 p k]? = (ops[k]?).map (reE p):=by
  rw [y9a,QLe p _ k (by simpa using h),yra,yVa]
 have ht:listed'.getD (tr2 p k) true=listed.getD k true:=by
  have:=hl k;rcases yGa k ops.size with hk|hk
  ·have hk':=(tr2_lt h).2 hk;simp only [yya] at this ⊢;rw [ysa oA,ysa oA] at this ⊢;exact this
  ·have hk':¬ tr2 p k<ops.size:=fun q=>absurd ((tr2_lt h).1 q) oA
   simp only [yya];rw [yZa oA,yZa oA]
 rw [mem_ready,mem_ready,hg,ht];cases ops[k]? with
 | none=>simp
 | some o =>
  simp only [yBa,yaa,exists_eq_left'];refine and_congr_right fun _=>⟨fun q e he hb=>?_,fun q e he hb=>?_⟩
  ·have:=q ⟨tr2 p e.on,e.ground⟩ (by simp only [reE,List.mem_toArray,ypb];exact ⟨e,Array.mem_toList_iff.2 he,rfl⟩) hb;rw [← hl e.on];exact this
  ·simp only [reE,List.mem_toArray,ypb] at he;obtain ⟨e',he',rfl⟩:=he;rw [hl];exact q e' (Array.mem_toList_iff.1 he') hb
theorem swap_any {p:Nat} {ops:Array Oper} (h:p+1<ops.size):∀ (fuel:Nat) (listed listed':Array Bool) (a:Act) (w:World),listed.size=ops.size->listed'.size=ops.size->(∀ k,listed'.getD (tr2 p k) false=listed.getD k false) ->
  wpAny P md (swapL p (ops.toList.map (reE p))).toArray Q fuel listed' a w->wpAny P md ops Q fuel listed a w:=by
 intro fuel;have empty:∀ listed listed':Array Bool,listed.size=ops.size->listed'.size=ops.size->(∀ k,listed'.getD (tr2 p k) false=listed.getD k false)->(Region.ready md (swapL p (ops.toList.map (reE p))).toArray listed'=[] ↔ Region.ready md ops listed=[]):=by
  intro listed listed' h1 h2 hl;rw [yeb,yeb];refine ⟨fun q k hk=>q _ ((Qxc h h1 h2 hl).2 hk),fun q k hk=>?_⟩;rw [← tr2_tr2 p k] at hk;exact q _ ((Qxc h h1 h2 hl).1 hk)
 induction fuel with
 | zero =>
  intro listed listed' a w h1 h2 hl hx;exact ⟨(empty _ _ h1 h2 hl).1 hx.1,hx.2⟩
 | succ fuel ih =>
  intro listed listed' a w h1 h2 hl hx;refine ⟨fun hn=>hx.1 ((empty _ _ h1 h2 hl).2 hn),fun k hk=>?_⟩;have hk':=(Qxc (md:=md) h h1 h2 hl).2 hk;have q:=(swap_same h).wpOp.1 (hx.2 _ hk');refine QSb (fun a w hy=>ih _ _ a w (by simp [h1]) (by simp [h2]) (fun m=>?_) hy) q;rw [Qbb (mem_ready.1 hk).1,Qbb (mem_ready.1 hk').1,hl m]
  congr 1
  refine decide_eq_decide.2 ⟨fun e=>?_,fun e=>by rw [e]⟩;rw [← tr2_tr2 p m,e,tr2_tr2]
end
section
variable {P:Program} {nt:Nat} {slots:List (Nat × AVal)}
theorem wp_draw2 {K0 K:Ctx} {s:St} {id p:Nat} {ops:Array Oper} {a:Act} {w:World} {Q:Exit->Act->World->Prop} (hmix:P.follows .mixedOrders=true) (hp:(ops.toList.all fun o=>Qhc o.op)=true) (hlt:p+1<ops.size)
  {tr1 tr2':Nat->RSt} (ht1:Trace P nt (way1 p ops) s.slots tr1) (hck1:QU2 (way1 p ops) (masks (way1 p ops))=true) (ho1:(tr1 0).objs=s.objs)
  (ht2:Trace P nt (way2 p ops) s.slots tr2') (hck2:QU2 (way2 p ops) (masks (way2 p ops))=true) (ho2:(tr2' 0).objs=s.objs) (hK:K0.le K) (hs:Sat nt K s a w)
  (hQ1:∀ K a w,K0.le K->RSat nt (way1 p ops) s.slots K (tr1 (way1 p ops).size) a w->Q .normal a w) (hQ2:∀ K a w,K0.le K->RSat nt (way2 p ops) s.slots K (tr2' (way2 p ops).size) a w->Q .normal a w):(Code.region id ops true).wp P Q a w:=by
 have hf:∀ n k:Nat,(Array.replicate n false).getD k false=false:=fun n k=>by
  simp only [yya,Array.getElem?_replicate];split <;> rfl
 have start:∀ (ops':Array Oper) (tr:Nat->RSt) (n:Nat),(tr 0).objs=s.objs->DInv nt ops' s.slots tr K0 (fun k=>(Array.replicate n false).getD k false) a { w with drawn:=w.drawn+1 }:=fun ops' tr n ho =>
  ⟨(fun i o e hi=>by simp only [hf] at hi;cases hi),hs.size,K,0,hK,hs.defers,yna _,(by rw [ho];exact hs.mem.drawn _),(fun j _=>by simp only [hf];simp),(fun j o d tg v _ _ hS=>by simp only [hf] at hS;cases hS),fun t _=>hs.slot t⟩
 have s1:(way1 p ops).size=ops.size:=by simp [way1,Qrd]
 have s2:(way2 p ops).size=ops.size:=by simp [way2,swapL_len,Qrd]
 have w1:=Qf9 (K0:=K0) ht1 hck1 hQ1 ops.size (Array.replicate ops.size false) a { w with drawn:=w.drawn+1 } (by simp [s1]) (by rw [s1];exact yea (yIb _ _) (by simp)) (start _ _ _ ho1);have w2:=Qf9 (K0:=K0) ht2 hck2 hQ2 ops.size (Array.replicate ops.size false) a { w with drawn:=w.drawn+1 } (by simp [s2]) (by rw [s2];exact yea (yIb _ _) (by simp)) (start _ _ _ ho2);have h2size:(addL (p+1) p ops.toList).toArray.size=ops.size:=by simp [Qrd]
 have w3:=swap_any (P:=P) (md:=.any) (Q:=Q) (ops:=(addL (p+1) p ops.toList).toArray) (p:=p) (by rw [h2size];exact hlt) ops.size (Array.replicate ops.size false) (Array.replicate ops.size false) a { w with drawn:=w.drawn+1 } (by simp [h2size]) (by simp [h2size]) (fun k=>by rw [hf,hf]) (by simpa [way2] using w2);refine wp_region_any hmix (way_split (i:=p) (j:=p+1) (fun k o ho=>?_) oA ops.size _ a _ w1 w3);exact List.all_eq_true.1 hp o (Array.mem_toList_iff.2 (yVb ho))
theorem cdraw_two {ops:Array Oper} {objs:Objs} {K:Loc->Objs->Prop} (p:Nat) (hp:(ops.toList.all (fun o=>Qhc o.op)&&Nat.blt (p+1) ops.size)=true)
  (h1:cdraw P nt (way1 p ops) slots objs K) (h2:cdraw P nt (way2 p ops) slots objs K):DrawS P nt ops ⟨slots,objs⟩ K:=by
 obtain ⟨hm,c1,t1,q1,q2,q3⟩:=QVb h1;obtain ⟨-,c2,t2,r1,r2,r3⟩:=QVb h2;simp only [yha,Nat.blt_eq] at hp;intro id K0 Kc a w Q hle hs hQ;exact wp_draw2 (K0:=K0) hm hp.1 hp.2 q1 c1 q2 r1 c2 r2 hle hs (fun K' a w hl hr=>hQ _ K' _ a w hl hr q3) (fun K' a w hl hr=>hQ _ K' _ a w hl hr r3)
end
attribute [local irreducible] ACalls
inductive Low (n:Nat):AVal->Prop where
 | any:Low n .any
 | lit (v:Value):Low n (.lit v)
 | agg (cs:List AVal) (h:∀ x ∈ cs,Low n x):Low n (.agg cs)
 | tup (cs:List AVal) (h:∀ x ∈ cs,Low n x):Low n (.tup cs)
 | seq (k m:Nat) (t:Bool) (f:Nat->List AVal) (h:∀ i,i<m -> ∀ x ∈ f i,Low n x):Low n (.seq k m t f)
 | ref (cs:List AVal) (h:∀ x ∈ cs,Low n x):Low n (.ref cs)
 | ptr (o ver k i j:Nat) (h:o<n):Low n (.ptr o ver k i j)
 | sel (o ver k i j:Nat) (h:o<n):Low n (.sel o ver k i j)
 | buf (o ver k len:Nat) (h:o<n):Low n (.buf o ver k len)
 | own (o ver k off len:Nat) (h:o<n):Low n (.own o ver k off len)
 | fn (f:Fn) (xs ys:List AVal) (h:∀ x ∈ xs,Low n x) (g:∀ x ∈ ys,Low n x):Low n (.fn f xs ys)
 | ifc (t:TypeId) (a:AVal) (h:Low n a):Low n (.ifc t a)
 | map (o:Nat) (h:o<n):Low n (.map o)
 | yld (o:Nat) (h:o<n):Low n (.yld o)
 | sub (o ver k i j l m:Nat) (h:o<n):Low n (.sub o ver k i j l m)
def low0:AVal->Bool
 | .any=>true
 | .lit _=>true
 | _=>false
theorem Qec {n:Nat} {x:AVal} (h:low0 x=true):Low n x:=by
 cases x <;> first|exact .any|exact .lit _|cases h
def low1:AVal->Bool
 | .agg cs=>cs.all low0
 | x=>low0 x
theorem low1_sound {n:Nat} {x:AVal} (h:low1 x=true):Low n x:=by
 cases x with
 | agg cs=>exact .agg cs fun x hx=>Qec (List.all_eq_true.1 h x hx)
 | _=>exact Qec h
def low2:AVal->Bool
 | .tup cs=>cs.all low1
 | x=>low1 x
theorem QM2 {n:Nat} {x:AVal} (h:low2 x=true):Low n x:=by
 cases x with
 | tup cs=>exact .tup cs fun x hx=>low1_sound (List.all_eq_true.1 h x hx)
 | _=>exact low1_sound h
theorem Qb2 {α:Type} {l:List α} {i:Nat} {x:α} (h:l[i]? = some x):x ∈ l:=yza h
theorem Rep.low0 {K L:Ctx} (hM:∀ b i u,K.M b i=some u->L.M b i=some u) {x:AVal} {v:Value} (h:Rep K x v):Low 0 x->Rep L x v:=by
 induction h with
 | any v=>exact fun _=>.any v
 | lit v=>exact fun _=>.lit v
 | agg cs vs hl h1 _ ih=>exact fun hl'=>by cases hl' with|agg _ h=>exact .agg cs vs hl h1 fun i x v hx hv=>ih i x v hx hv (h x (Qb2 hx))
 | tup cs vs hl _ ih=>exact fun hl'=>by cases hl' with|tup _ h=>exact .tup cs vs hl fun i x v hx hv=>ih i x v hx hv (h x (Qb2 hx))
 | nil k t f=>exact fun _=>.nil k t f
 | empty k t f a c ht=>exact fun _=>.empty k t f a c ht
 | seq k n t f b off c u hc ht hk hM' _ ih=>exact fun hl'=>by cases hl' with|seq _ _ _ _ h=>exact .seq k n t f b off c u hc ht hk (fun i j hi hj=>hM _ _ _ (hM' i j hi hj)) fun i j x hi hx=>ih i j x hi hx (h i hi x (Qb2 hx))
 | ref cs b off u hM' _ ih=>exact fun hl'=>by cases hl' with|ref _ h=>exact .ref cs b off u (fun j hj=>hM _ _ _ (hM' j hj)) fun j x hx=>ih j x hx (h x (Qb2 hx))
 | ptr o ver k i j ho hv=>exact fun hl'=>by cases hl' with|ptr _ _ _ _ _ h=>exact absurd h oA
 | own o ver k off len ho hv a c hl hC ha=>exact fun hl'=>by cases hl' with|own _ _ _ _ _ h=>exact absurd h oA
 | fn f xs ys vs us hl hm _ _ ih1 ih2=>exact fun hl'=>by cases hl' with|fn _ _ _ h g=>exact .fn f xs ys vs us hl hm (fun i x v hx hv=>ih1 i x v hx hv (h x (Qb2 hx))) fun i x v hx hv=>ih2 i x v hx hv (g x (Qb2 hx))
 | ifc t a v _ ih=>exact fun hl'=>by cases hl' with|ifc _ _ h=>exact .ifc t a v (ih h)
 | map o ho=>exact fun hl'=>by cases hl' with|map _ h=>exact absurd h oA
 | yld o ho=>exact fun hl'=>by cases hl' with|yld _ h=>exact absurd h oA
 | sub o ver k i j n m c ho hv hc=>exact fun hl'=>by cases hl' with|sub _ _ _ _ _ _ _ h=>exact absurd h oA
 | selNil o ver k i j=>exact fun hl'=>by cases hl' with|sel _ _ _ _ _ h=>exact absurd h oA
 | selPtr o ver k i j ho hv=>exact fun hl'=>by cases hl' with|sel _ _ _ _ _ h=>exact absurd h oA
 | bufNil o ver k ho hv=>exact fun hl'=>by cases hl' with|buf _ _ _ _ h=>exact absurd h oA
 | bufSome o ver k len c ho hv hl hc hC=>exact fun hl'=>by cases hl' with|buf _ _ _ _ h=>exact absurd h oA
 | ownNil o ver k ho hv=>exact fun hl'=>by cases hl' with|own _ _ _ _ _ h=>exact absurd h oA
def Ctx.bare (K:Ctx):Ctx:={ K with n:=0 }
theorem le_bare {K0 K:Ctx} (hn:K0.n=0) (h:K0.le K):K0.le K.bare :=
 ⟨h.M,fun o v ho=>absurd ho oA,fun o v ho=>absurd ho oA,by simp [hn],fun o ho=>absurd ho oA,h.w0,h.B,h.M0⟩
def Ctx.still (K:Ctx) (objs:Objs) (w:World):Ctx :=
 { K with M:=fun b i=>match K.M b i with
   | some u=>some u
   | none=>if K.B b=none then (match w.cell? ⟨b,i,none⟩ with|some u=>if u.oneCell' then some u else none|none=>none) else none }
theorem QS8 (K:Ctx) (objs:Objs) (w:World):K.le (K.still objs w):=by
 refine ⟨fun b i u hu=>by simp [Ctx.still,hu],fun _ _ _ _=>rfl,fun _ _ _ _=>rfl,yia _,fun _ _=>yia _,rfl,fun _ _ h=>h,fun b i x hx=>?_⟩;simp only [Ctx.still];cases hM:K.M b i with
 | some u=>rfl
 | none=>simp [hx]
theorem own_still {K:Ctx} {objs:Objs} {w:World} (hm:MemSat K objs w) {o ver k off len:Nat} {t:TypeId} {es:List (List AVal)} {v:Value} (hp:objs[o]? = some (ver,.row t k es)) (hle:off+len<=es.length)
  (hr:Rep K (.own o ver k off len) v):Rep (K.still objs w) (.seq k len false fun i=>es.getD (off+i) []) v:=by
 obtain ⟨ho,hv,hcase⟩:=Qv5 hr;rcases hcase with ⟨rfl,rfl,rfl⟩|⟨a,c,rfl,hlc,hC,ha⟩
 ·exact .nil _ _ _
 ·refine Qj7 hlc (fun h=>by cases h) (fun h=>by cases h) (fun hpos=>?_);have:=ha oA;subst this;have hC0:K.C o ver ≠ 0:=by omega
  obtain ⟨cc,hcc,hs,h1,hrep⟩:=hm.rowBlock hp hC0;have hlo:=hm.lo o _ hp rfl hC0;have hel:=(hm.obj o _ hp).1;have get:∀ i,i<len -> ∃ e,es[off+i]? = some e∧es.getD (off+i) []=e∧e.length=k:=by
   intro i hi;have hlt:off+i<es.length:=by omega
   refine ⟨es[off+i],yba hlt,by simp [hlt],hel _ (ycb hlt)⟩
  refine ⟨K.ρ o ver,off*k,fun i j=>(cc[(off+i)*k+j]?).getD undef,rfl,fun i hi=>?_,fun i j hi hj=>?_,fun i j x hi hx=>?_⟩
  ·obtain ⟨e,_,he,hk⟩:=get i hi;rw [he];exact hk
  ·obtain ⟨e,he,_,hk⟩:=get i hi;obtain ⟨u,hu,_⟩:=hrep (off+i) j e _ he (yba oA);have hcell:w.cell? ⟨K.ρ o ver,off*k+(i*k+j),none⟩=some u:=by
    obtain ⟨fr,_,hcb⟩:=hcc;rw [← yfb,← y4a];simp [World.cell?,hcb,hu]
   simp only [Ctx.still,hlo.2.2,hlo.1,if_true,hcell,hu,yFa];rw [if_pos (h1 u (Array.mem_toList_iff.2 (yVb hu)))]
  ·obtain ⟨e,he,he',hk⟩:=get i hi;rw [he'] at hx;obtain ⟨u,hu,hru⟩:=hrep (off+i) j e x he hx;simp only [hu,yFa];exact hru.mono (QS8 K objs w)
theorem MemSat.still {K:Ctx} {objs:Objs} {w:World} (h:MemSat K objs w):MemSat (K.still objs w).bare [] w:=by
 refine ⟨rfl,fun o p hp=>by simp at hp,fun o p hp=>by simp at hp,fun o p hp=>by simp at hp,fun o o' p p' hp=>by simp at hp,fun b i u hu=>?_,h.below.step (L:=(K.still objs w).bare) rfl rfl rfl rfl rfl (yia _) fun _ _ _=>rfl⟩;simp only [Ctx.still,Ctx.bare] at hu;split at hu
 ·rename_i u' hM;simp only [yaa] at hu;subst hu;exact h.mem b i u' hM
 ·split at hu
  ·split at hu
   ·rename_i u' hc;split at hu
    ·rename_i h1;simp only [yaa] at hu;subst hu;exact ⟨hc,h1⟩
    ·cases hu
   ·cases hu
  ·cases hu
def Seen (objs:Objs) (r0 r:AVal):Prop:=∀ (K:Ctx) (w:World) (v:Value),MemSat K objs w->Rep K r0 v->Rep (K.still objs w) r v
theorem told_seen {r0 r:AVal} {objs:Objs} (hs:Seen objs r0 r) (hl:Low 0 r):Told 0 r0 objs r []:=by
 intro K0 K w v hn hle hm hr;exact ⟨(K.still objs w).bare,le_bare hn (hle.trans (QS8 K objs w)),hm.still,Rep.low0 (K:=K.still objs w) (L:=(K.still objs w).bare) (fun _ _ _ h=>h) (hs K w v hm hr) hl⟩
theorem Seen.refl (objs:Objs) (r:AVal):Seen objs r r:=fun K w v _ h=>h.mono (QS8 K objs w)
theorem Seen.own {objs:Objs} {o ver k off len:Nat} {t:TypeId} {es:List (List AVal)} (hp:objs[o]? = some (ver,.row t k es)) (hle:off+len<=es.length):Seen objs (.own o ver k off len) (.seq k len false fun i=>es.getD (off+i) []) :=
 fun _ _ _ hm h=>own_still hm hp hle h
inductive SeenL (objs:Objs):List AVal->List AVal->Prop where
 | nil:SeenL objs [] []
 | cons (x y:AVal) (xs ys:List AVal) (h:Seen objs x y) (t:SeenL objs xs ys):SeenL objs (x :: xs) (y :: ys)
theorem SeenL.reps {objs:Objs} {xs ys:List AVal} (h:SeenL objs xs ys) {K:Ctx} {w:World} (hm:MemSat K objs w):∀ {vs:List Value},Reps K xs vs->Reps (K.still objs w) ys vs:=by
 induction h with
 | nil=>intro vs hr;exact ⟨hr.1,fun i x v hx=>by simp at hx⟩
 | cons x y xs ys hs _ ih =>
  intro vs hr
  match vs,hr with
  | [],hr=>exact absurd hr.1 (by simp)
  | v :: vs,hr =>
   refine Reps.cons (hs K w v hm (hr.2 0 x v rfl rfl)) (ih ⟨by have:=hr.1;simpa using this,fun i x v hx hv=>hr.2 (i+1) x v (by simpa using hx) (by simpa using hv)⟩)
theorem Seen.tup {objs:Objs} {xs ys:List AVal} (h:SeenL objs xs ys):Seen objs (.tup xs) (.tup ys):=by
 intro K w v hm hr;obtain ⟨vs,rfl,hr2⟩:=QEe hr;have:=h.reps hm hr2;exact .tup ys vs this.1 this.2
theorem Seen.agg {objs:Objs} {xs ys:List AVal} (h:SeenL objs xs ys):Seen objs (.agg xs) (.agg ys):=by
 intro K w v hm hr;obtain ⟨vs,rfl,hr2,h1⟩:=QA7 hr;have:=h.reps hm hr2;exact .agg ys vs this.1 h1 this.2
theorem Seen.seqCongr {objs:Objs} {k n:Nat} {t t':Bool} {f g:Nat->List AVal} (h:∀ i,i<n->f i=g i) (ht:t'=true->t=true):Seen objs (.seq k n t f) (.seq k n t' g):=by
 intro K w v hm hr;obtain ⟨A,c,rfl,hc,htt,hA,hx⟩:=QB7 hr;refine Qj7 hc (fun h=>htt (ht h)) hA (fun hpos=>?_);obtain ⟨b,off,u,hA,hk,hM,hru⟩:=hx hpos;exact ⟨b,off,u,hA,fun i hi=>by rw [← h i hi];exact hk i hi,fun i j hi hj=>(QS8 K objs w).M _ _ _ (hM i j hi hj),fun i j x hi hx=>(hru i j x hi (by rw [h i hi];exact hx)).mono (QS8 K objs w)⟩
theorem Seen.trans' {objs:Objs} {a b c:AVal} (h:Seen objs a b) (g:∀ (K:Ctx) (v:Value),Rep K b v->Rep K c v):Seen objs a c:=fun K w v hm hr=>g _ v (h K w v hm hr)
theorem QO9 {K:Ctx} {k n:Nat} {t t':Bool} {f g:Nat->List AVal} {v:Value} (h:∀ i,i<n->f i=g i) (ht:t'=true->t=true) (hr:Rep K (.seq k n t f) v):Rep K (.seq k n t' g) v:=by
 obtain ⟨A,c,rfl,hc,htt,hA,hx⟩:=QB7 hr;refine Qj7 hc (fun h=>htt (ht h)) hA (fun hpos=>?_);obtain ⟨b,off,u,hA,hk,hM,hru⟩:=hx hpos;exact ⟨b,off,u,hA,fun i hi=>by rw [← h i hi];exact hk i hi,hM,fun i j x hi hx=>hru i j x hi (by rw [h i hi];exact hx)⟩
theorem Seen.nil (objs:Objs) (k:Nat) (t:Bool) (f:Nat->List AVal):Seen objs (.lit (.slice none 0 0)) (.seq k 0 t f):=by
 intro K w v hm hr;have:=QZ0 hr;subst this;exact .nil k t f
section
variable {P:Program}
theorem ACalls.frame {f:FuncId} {args:List AVal} {R:AVal->Prop} (h:ACalls P f args [] fun r o=>R r∧o=[]) (ha:∀ x ∈ args,Low 0 x) (hl:∀ r,R r->Low 0 r) (objs:Objs) :
  ACalls P f args objs fun r o=>R r∧o=objs:=by
 unfold ACalls at h ⊢;intro K w vs hm hreps
 let K1:Ctx:={ K with n:=0,B:=fun b=>w.heap[b]?,w0:=w }
 have hm1:MemSat K1 [] w:=⟨rfl,fun o p hp=>by simp at hp,fun o p hp=>by simp at hp,fun o p hp=>by simp at hp,fun o o' p p' hp=>by simp at hp,hm.mem,⟨rfl,rfl,rfl,yia _,fun b x hx=>hx⟩⟩;have hr1:Reps K1 args vs:=⟨hreps.1,fun i x v hx hv=>Rep.low0 (K:=K) (L:=K1) (fun _ _ _ h=>h) (hreps.2 i x v hx hv) (ha x (Qb2 hx))⟩;refine (h K1 w vs hm1 hr1).mono ?_;rintro e w' ⟨v,r,objs',K2,rfl,hle,hm2,hrep,hR,rfl⟩
 let K3:Ctx:={ K with M:=K2.M }
 have hB:∀ b x,w.heap[b]? = some x->w'.heap[b]? = some x:=fun b x hx=>hm2.below.block b x (hle.B b x hx)
 have hM0:∀ b i x,w.heap[b]? = some x->K2.M b i=K.M b i:=fun b i x hx=>hle.M0 b i x hx
 have hsz:w.heap.size<=w'.heap.size:=by have:=hm2.below.size;rw [hle.w0] at this;exact this
 have hKL:K.le K3:=⟨hle.M,fun _ _ _ _=>rfl,fun _ _ _ _=>rfl,yia _,fun _ _=>yia _,rfl,fun _ _ h=>h,fun b i x hx=>hM0 b i x (hm.below.block b x hx)⟩;have blk:∀ b,b<w.heap.size -> ∃ x,w.heap[b]? = some x:=fun b hb=>⟨_,ysa hb⟩
 refine ⟨v,r,objs,K3,rfl,hKL,⟨hm.len,hm.ver,fun o p hp=>?_,fun o p hp hlv hC=>?_,hm.dis,hm2.mem,⟨?_,?_,?_,yea hm.below.size hsz,fun b x hx=>hB b x (hm.below.block b x hx)⟩⟩,Rep.low0 (K:=K2) (L:=K3) (fun _ _ _ h=>h) hrep (hl r hR),hR,rfl⟩
 ·refine (hm.obj o p hp).mono hKL (hm.olt hp) (by rw [hm.ver o p hp];exact yia _) (fun hlv hC=>?_);obtain ⟨x,hx⟩:=blk _ (hm.lo o p hp hlv hC).2.1;rw [hx];exact hB _ x hx
 ·obtain ⟨h1,h2,h3⟩:=hm.lo o p hp hlv hC;obtain ⟨x,hx⟩:=blk _ h2;exact ⟨h1,yUa h2 hsz,fun i=>(hM0 _ i x hx).trans (h3 i)⟩
 ·have:=hm2.below.os;rw [hle.w0] at this;exact this.trans hm.below.os
 ·have:=hm2.below.tape;rw [hle.w0] at this;exact this.trans hm.below.tape
 ·have:=hm2.below.output;rw [hle.w0] at this;exact this.trans hm.below.output
theorem AGives.frame {f:FuncId} {args:List AVal} {r:AVal} (h:AGives P f args [] r) (ha:∀ x ∈ args,Low 0 x) (hl:Low 0 r) (objs:Objs):AGives P f args objs r:=by
 unfold AGives at h ⊢;exact ACalls.frame (R:=fun r'=>r'=r) h ha (by rintro _ rfl;exact hl) objs
def Qw3 (w:World):Ctx :=
 {M:=fun b i=>match w.cell? ⟨b,i,none⟩ with|some u=>if u.oneCell' then some u else none|none=>none,ρ:=fun _ _=>0,C:=fun _ _=>0,n:=0,vs:=fun _=>0,B:=fun b=>w.heap[b]?,w0:=w }
theorem worldCtx_sat (w:World):MemSat (Qw3 w) [] w:=by
 refine ⟨rfl,fun o p hp=>by simp at hp,fun o p hp=>by simp at hp,fun o p hp=>by simp at hp,fun o o' p p' hp=>by simp at hp,fun b i u hu=>?_,⟨rfl,rfl,rfl,yia _,fun b x hx=>hx⟩⟩;simp only [Qw3] at hu;split at hu
 ·rename_i u' hc;split at hu
  ·rename_i h1;simp only [yaa] at hu;subst hu;exact ⟨hc,h1⟩
  ·cases hu
 ·cases hu
theorem law_calls {f:FuncId} {args:List AVal} {vs:List Value} {w:World} (h:AGives P f args [] (.lit (.bool true))) (hr:Reps (Qw3 w) args vs) :
  Calls P f vs.toArray w fun e w'=>e = .returned (.bool true)∧Below w.heap.size w w':=by
 unfold AGives ACalls at h;refine (h (Qw3 w) w vs (worldCtx_sat w) hr).mono ?_;rintro e w' ⟨v,r,objs',K',rfl,hle,hm,hrep,rfl,rfl⟩;have:=QZ0 hrep;subst this;have hb:=hm.below;refine ⟨rfl,⟨by have:=hb.os;rw [hle.w0] at this;exact this,by have:=hb.tape;rw [hle.w0] at this;exact this,by have:=hb.output;rw [hle.w0] at this;exact this,by have:=hb.size;rw [hle.w0] at this;exact this,fun k hk=>?_⟩⟩;have h1:(Qw3 w).B k=some w.heap[k]:=ysa hk
 replace h1:=hle.B _ _ h1
 rw [hb.block k _ h1,ysa hk]
end
def LowL (n:Nat) (xs:List AVal):Prop:=∀ x ∈ xs,Low n x
theorem LowL.nil {n:Nat}:LowL n []:=fun x h=>by simp at h
theorem LowL.cons {n:Nat} {x:AVal} {xs:List AVal} (h:Low n x) (t:LowL n xs):LowL n (x :: xs):=fun y hy=>by
 rcases List.mem_cons.1 hy with rfl|hy
 ·exact h
 ·exact t y hy
theorem low_seq {n k m:Nat} {t:Bool} {f:Nat->List AVal} (h:∀ i,(f i).all low0=true):Low n (.seq k m t f):=.seq k m t f fun i _ x hx=>Qec (List.all_eq_true.1 (h i) x hx)
section
variable {P:Program}
theorem AGives.any' {f:FuncId} {args:List AVal} {r:AVal} (ha:LowL 0 args) (hl:Low 0 r) (h:AGives P f args [] r) (objs:Objs):AGives P f args objs r:=h.frame ha hl objs
theorem Rep.low {K L:Ctx} {n:Nat} (hM:∀ b i u,K.M b i=some u->L.M b i=some u) (hn:n<=L.n) (hρ:∀ o v,o<n->L.ρ o v=K.ρ o v) (hC:∀ o v,o<n->L.C o v=K.C o v) (hv:∀ o,o<n->L.vs o=K.vs o) {x:AVal} {v:Value} (h:Rep K x v):Low n x->Rep L x v:=by
 induction h with
 | any v=>exact fun _=>.any v
 | lit v=>exact fun _=>.lit v
 | agg cs vs hl h1 _ ih=>exact fun hl'=>by cases hl' with|agg _ h=>exact .agg cs vs hl h1 fun i x v hx hv=>ih i x v hx hv (h x (Qb2 hx))
 | tup cs vs hl _ ih=>exact fun hl'=>by cases hl' with|tup _ h=>exact .tup cs vs hl fun i x v hx hv=>ih i x v hx hv (h x (Qb2 hx))
 | nil k t f=>exact fun _=>.nil k t f
 | empty k t f a c ht=>exact fun _=>.empty k t f a c ht
 | seq k n t f b off c u hc ht hk hM' _ ih=>exact fun hl'=>by cases hl' with|seq _ _ _ _ h=>exact .seq k n t f b off c u hc ht hk (fun i j hi hj=>hM _ _ _ (hM' i j hi hj)) fun i j x hi hx=>ih i j x hi hx (h i hi x (Qb2 hx))
 | ref cs b off u hM' _ ih=>exact fun hl'=>by cases hl' with|ref _ h=>exact .ref cs b off u (fun j hj=>hM _ _ _ (hM' j hj)) fun j x hx=>ih j x hx (h x (Qb2 hx))
 | ptr o ver k i j ho hve=>exact fun hl'=>by cases hl' with|ptr _ _ _ _ _ h=>rw [← hρ o ver h];exact .ptr o ver k i j oA (by rw [hv o h];exact hve)
 | own o ver k off len ho hve a c hl hC' ha=>exact fun hl'=>by cases hl' with|own _ _ _ _ _ h=>exact .own o ver k off len oA (by rw [hv o h];exact hve) a c hl (by rw [hC o ver h];exact hC') (by rw [hρ o ver h];exact ha)
 | fn f xs ys vs us hl hm _ _ ih1 ih2=>exact fun hl'=>by cases hl' with|fn _ _ _ h g=>exact .fn f xs ys vs us hl hm (fun i x v hx hv=>ih1 i x v hx hv (h x (Qb2 hx))) fun i x v hx hv=>ih2 i x v hx hv (g x (Qb2 hx))
 | ifc t a v _ ih=>exact fun hl'=>by cases hl' with|ifc _ _ h=>exact .ifc t a v (ih h)
 | map o ho=>exact fun hl'=>by cases hl' with|map _ h=>rw [← hρ o 0 h];exact .map o oA
 | yld o ho=>exact fun hl'=>by cases hl' with|yld _ h=>rw [← hρ o 0 h];exact .yld o oA
 | sub o ver k i j n m c ho hve hc=>exact fun hl'=>by cases hl' with|sub _ _ _ _ _ _ _ h=>rw [← hρ o ver h];exact .sub o ver k i j n m c oA (by rw [hv o h];exact hve) hc
 | selNil o ver k i j=>exact fun hl'=>.selNil o ver k i j
 | selPtr o ver k i j ho hve=>exact fun hl'=>by cases hl' with|sel _ _ _ _ _ h=>rw [← hρ o ver h];exact .selPtr o ver k i j oA (by rw [hv o h];exact hve)
 | bufNil o ver k ho hve=>exact fun hl'=>by cases hl' with|buf _ _ _ _ h=>exact .bufNil o ver k oA (by rw [hv o h];exact hve)
 | bufSome o ver k len c ho hve hl hc hC'=>exact fun hl'=>by cases hl' with|buf _ _ _ _ h=>rw [← hρ o ver h];exact .bufSome o ver k len c oA (by rw [hv o h];exact hve) hl hc (by rw [hC o ver h];exact hC')
 | ownNil o ver k ho hve=>exact fun hl'=>by cases hl' with|own _ _ _ _ _ h=>exact .ownNil o ver k oA (by rw [hv o h];exact hve)
def Ctx.cut (K:Ctx) (n:Nat):Ctx:={ K with n:=n }
def QXa (n:Nat):AObj->Prop
 | .dead=>True
 | .row _ _ es=>∀ e ∈ es,LowL n e
 | .other (.strIter _ _)=>True
 | .other (.map es _)=>∀ e ∈ es,Low n e.2.1
 | .other (.mapIter o _ _ _)=>o<n
theorem OtherSat.low {K L:Ctx} {n:Nat} (hM:∀ b i u,K.M b i=some u->L.M b i=some u) (hn:n<=L.n) (hρ:∀ o v,o<n->L.ρ o v=K.ρ o v) (hC:∀ o v,o<n->L.C o v=K.C o v) (hv:∀ o,o<n->L.vs o=K.vs o) {b:Obj} {x:AOther} (hl:QXa n (.other x)) (h:OtherSat K b x):OtherSat L b x:=by
 cases x with
 | strIter s pos=>exact h
 | map es clock =>
  obtain ⟨arr,h1,h2,h3⟩:=h;exact ⟨arr,h1,h2,fun i k x st e he ha=>by obtain ⟨q1,q2,q3⟩:=h3 i k x st e he ha;exact ⟨q1,q2,Rep.low hM hn hρ hC hv q3 (hl _ (Qb2 he))⟩⟩
 | mapIter o since seen last =>
  obtain ⟨h1,h2⟩:=h;have ho:o<n:=hl;exact ⟨by omega,by rw [hρ o 0 ho];exact h2⟩
theorem MemSat.cut {K:Ctx} {objs:Objs} {w:World} {n:Nat} (h:MemSat K objs w) (hn:n<=objs.length) (hl:∀ o p,objs[o]? = some p->o<n->QXa n p.2):MemSat (K.cut n) (objs.take n) w:=by
 have get:∀ (o:Nat) (p:Nat × AObj),(objs.take n)[o]? = some p->objs[o]? = some p∧o<n:=by
  intro o p hp;rw [yKa] at hp;split at hp
  ·rename_i ho;exact ⟨hp,ho⟩
  ·cases hp
 refine ⟨by simp [Ctx.cut];omega,fun o p hp=>h.ver o p (get o p hp).1,fun o p hp=>?_,fun o p hp=>h.lo o p (get o p hp).1,fun o o' p p' hp hp'=>h.dis o o' p p' (get o p hp).1 (get o' p' hp').1,h.mem,h.below.step (L:=K.cut n) rfl rfl rfl rfl rfl (yia _) fun _ _ _=>rfl⟩;obtain ⟨hp,ho⟩:=get o p hp;have hs:=h.obj o p hp;have hlo:=hl o p hp ho;cases hp2:p.2 with
 | dead=>trivial
 | row t k es =>
  rw [hp2] at hs hlo;obtain ⟨h1,h2,h3⟩:=hs;refine ⟨h1,h2,fun hC=>?_⟩;obtain ⟨c,q1,q2,q3,q4⟩:=h3 hC;refine ⟨c,q1,q2,q3,fun i j e x he hx=>?_⟩;obtain ⟨u,hu,hr⟩:=q4 i j e x he hx;exact ⟨u,hu,Rep.low (K:=K) (L:=K.cut n) (n:=n) (fun _ _ _ h=>h) (yia _) (fun _ _ _=>rfl) (fun _ _ _=>rfl) (fun _ _=>rfl) hr (hlo e (Qb2 he) x (Qb2 hx))⟩
 | other x =>
  rw [hp2] at hs hlo;obtain ⟨h1,b,h2,h3⟩:=hs;exact ⟨h1,b,h2,OtherSat.low (K:=K) (L:=K.cut n) (n:=n) (fun _ _ _ h=>h) (yia _) (fun _ _ _=>rfl) (fun _ _ _=>rfl) (fun _ _=>rfl) hlo h3⟩
inductive SubS (n:Nat) (s:List (Nat × AVal)):List (Nat × AVal)->Prop where
 | nil:SubS n s []
 | cons (t:Nat) (v:AVal) (r:List (Nat × AVal)) (h:Q71 s t=v) (hl:Low n v) (hr:SubS n s r):SubS n s ((t,v) :: r)
theorem SubS.get {n:Nat} {s s':List (Nat × AVal)} (h:SubS n s s') (t:Nat):Q71 s' t = .any∨(Q71 s' t=Q71 s t∧Low n (Q71 s t)):=by
 induction h with
 | nil=>exact .inl rfl
 | cons t' v r h hl _ ih =>
  rw [Qj2]
  by_cases ht:t'=t
  ·subst ht;rw [if_pos rfl];exact .inr ⟨h.symm,by rw [h];exact hl⟩
  ·rw [if_neg ht];exact ih
theorem ACalls.args {f:FuncId} {args args':List AVal} {objs:Objs} {R:AVal->Objs->Prop} (h:∀ (K:Ctx) (vs:List Value),Reps K args vs->Reps K args' vs) (hc:ACalls P f args' objs R):ACalls P f args objs R:=by
 unfold ACalls at hc ⊢;exact fun K w vs hm hr=>hc K w vs hm (h K vs hr)
def AsA (x y:AVal):Prop:=∀ (K:Ctx) (v:Value),Rep K x v->Rep K y v
theorem AsA.refl (x:AVal):AsA x x:=fun _ _ h=>h
theorem AsA.seq {k n:Nat} {t t':Bool} {f g:Nat->List AVal} (h:∀ i,i<n->f i=g i) (ht:t'=true->t=true):AsA (.seq k n t f) (.seq k n t' g):=fun _ _ hr=>QO9 h ht hr
theorem AsA.nil {k:Nat} {t:Bool} {f:Nat->List AVal}:AsA (.lit (.slice none 0 0)) (.seq k 0 t f):=fun _ _ hr=>by
 have:=QZ0 hr;subst this;exact .nil k t f
inductive AsL:List AVal->List AVal->Prop where
 | nil:AsL [] []
 | cons (x y:AVal) (xs ys:List AVal) (h:AsA x y) (t:AsL xs ys):AsL (x :: xs) (y :: ys)
theorem AsL.reps {xs ys:List AVal} (h:AsL xs ys) (K:Ctx):∀ (vs:List Value),Reps K xs vs->Reps K ys vs:=by
 induction h with
 | nil=>exact fun vs hr=>hr
 | cons x y xs ys hs _ ih =>
  intro vs hr
  match vs,hr with
  | [],hr=>exact absurd hr.1 (by simp)
  | v :: vs,hr =>
   exact Reps.cons (hs K v (hr.2 0 x v rfl rfl)) (ih vs ⟨by have:=hr.1;simpa using this,fun i x v hx hv=>hr.2 (i+1) x v (by simpa using hx) (by simpa using hv)⟩)
theorem ACalls.as {f:FuncId} {args args':List AVal} {objs:Objs} {R:AVal->Objs->Prop} (h:AsL args args') (hc:ACalls P f args' objs R):ACalls P f args objs R:=hc.args fun K vs hr=>h.reps K vs hr
theorem AGives.as {f:FuncId} {args args':List AVal} {objs:Objs} {r:AVal} (h:AsL args args') (hc:AGives P f args' objs r):AGives P f args objs r:=ACalls.as h hc
theorem I_eq {a b:Int} (h:a=b):AVal.lit (.int .i64 a) = .lit (.int .i64 b):=by rw [h]
end
end Go.Fw
namespace Go.Fw
set_option linter.unusedSimpArgs false
set_option linter.unusedVariables false
open Go.RowKit
theorem Told.refl {n:Nat} {r:AVal} {o:Objs}:Told n r o r o:=fun _ K _ _ _ h m hr=>⟨K,h,m,hr⟩
def listA {α:Type} (k:Nat) (c:α->List AVal) (d:α) (l:List α):AVal:=.seq k l.length false fun i=>c (l.getD i d)
theorem listA_low {α:Type} {k:Nat} {c:α->List AVal} {d:α} {l:List α} {n:Nat} (h:∀ x,(c x).all low0=true):Low n (listA k c d l):=low_seq fun _=>h _
theorem Qa0 {α:Type} {k:Nat} {c:α->List AVal} (d:α) {objs:Objs} {o ver len:Nat} {t:TypeId} {es:List (List AVal)} (l:List α) (hp:objs[o]? = some (ver,.row t k es)) (he:es=l.map c) (hlen:len=l.length):Seen objs (.own o ver k 0 len) (listA k c d l):=by
 subst he hlen;have h:=Seen.own (off:=0) (len:=l.length) hp (by simp);refine h.trans' fun K v hr=>QO9 (fun i hi=>?_) (fun h=>h) hr
 simp [List.getD,yra,yba hi]
theorem Q00 {α:Type} {k:Nat} {c:α->List AVal} {d:α} {objs:Objs}:Seen objs (.lit (.slice none 0 0)) (listA k c d []):=Seen.nil objs k false _
theorem seen_seq {α:Type} {k n:Nat} {t:Bool} {f:Nat->List AVal} {c:α->List AVal} {d:α} {objs:Objs} (l:List α) (hn:n=l.length) (h:∀ i,i<n->f i=c (l.getD i d)):Seen objs (.seq k n t f) (listA k c d l):=by
 subst hn;exact Seen.seqCongr h (fun h=>by cases h)
theorem seen_one {α:Type} {k:Nat} {t:Bool} {f:Nat->List AVal} {c:α->List AVal} {d:α} {objs:Objs} {x:α} (h:f 0=c x):Seen objs (.seq k 1 t f) (listA k c d [x]) :=
 seen_seq [x] rfl fun i hi=>by
  have:i=0:=by omega
  subst this;exact h
theorem QI7 {α:Type} {k:Nat} {c:α->List AVal} {d:α}:AsA (.lit (.slice none 0 0)) (listA k c d []):=AsA.nil
theorem as_list {α:Type} {k n:Nat} {t:Bool} {f:Nat->List AVal} {c:α->List AVal} {d:α} (l:List α) (hn:n=l.length) (h:∀ i,i<n->f i=c (l.getD i d)):AsA (.seq k n t f) (listA k c d l):=by
 subst hn;exact AsA.seq h (fun h=>by cases h)
theorem Qi7 {α β:Type} (l:List α) (d:α) (c:α->β):(List.range l.length).map (fun i=>c (l.getD i d))=l.map c:=by
 apply List.ext_getElem
 ·simp
 ·intro i h1 h2;simp at h1;simp [List.getD,yba h1]
theorem Q60 {r0 X:AVal} {o:Objs} (hl:Low 0 X) (hs:Seen o r0 X):∃ r objs',Told ([]:Objs).length r0 o r objs'∧(r=X∧objs'=[]):=⟨X,[],told_seen hs hl,rfl,rfl⟩
theorem Low.tup' {n:Nat} {xs:List AVal} (h:LowL n xs):Low n (.tup xs):=.tup xs h
theorem wr {n:Int} (h:-9223372036854775808<=n∧n<=9223372036854775807):IntKind.i64.wrap n=n:=by rw [IntKind.wrap_i64];omega
theorem small_of {P:Program} {e:TypeId} {n:Nat} (b:Nat) (hb:Qg9 P e=b) (h:n*b<=70368744177664∧n<=70368744177664):QHb P e n=true:=by
 unfold QHb;rw [hb];exact yoa h
theorem Qd1 {P:Program} {e:TypeId} {len n m:Nat} (b:Nat) (hb:Qg9 P e=b) (h1:len=n) (h:m*b<=70368744177664∧m<=70368744177664):(Nat.beq len n&&QHb P e m)=true:=by
 subst h1;rw [small_of b hb h];simp
inductive SubE (s:List (Nat × AVal)):List (Nat × AVal)->Prop where
 | nil:SubE s []
 | cons (t:Nat) (v:AVal) (r:List (Nat × AVal)) (h:Q71 s t=v) (hr:SubE s r):SubE s ((t,v) :: r)
theorem SubE.get {s s':List (Nat × AVal)} (h:SubE s s') (t:Nat):Q71 s' t = .any∨Q71 s' t=Q71 s t:=by
 induction h with
 | nil=>exact .inl rfl
 | cons t' v r h _ ih =>
  rw [Qj2]
  by_cases ht:t'=t
  ·subst ht;rw [if_pos rfl];exact .inr h.symm
  ·rw [if_neg ht];exact ih
theorem QPe {nt n:Nat} {s s':List (Nat × AVal)} {o:Objs} (hs:SubE s s'):Weaker nt n ⟨s,o⟩ ⟨s',o⟩:=by
 intro K0 K a w h0 hle hsat;refine ⟨K,hle,hsat.mem,fun t=>?_,hsat.size,hsat.defers⟩;show Rep K (Q71 s' t) _;rcases hs.get t with h|h
 ·rw [h];exact .any _
 ·rw [h];exact hsat.slot t
def LoopI {X:Type} (inv:X->Prop) (ms:X->Nat) (sl:X->List (Nat × AVal)) (ob:X->Objs):Nat->List (Nat × AVal)->Objs->Prop:=fun m s o=>∃ x,inv x∧m=ms x∧s=sl x∧o=ob x
theorem loop_next {X:Type} {inv:X->Prop} {ms:X->Nat} {sl:X->List (Nat × AVal)} {ob:X->Objs} {nt n0 m:Nat} {s:St} (x:X) (hlt:ms x<m) (hw:Weaker nt n0 s ⟨sl x,ob x⟩) (hi:inv x) :
  ∃ m' s'' o'',m'<m∧Weaker nt n0 s ⟨s'',o''⟩∧LoopI inv ms sl ob m' s'' o'':=⟨ms x,sl x,ob x,hlt,hw,x,hi,rfl,rfl,rfl⟩
theorem loop_start {X:Type} (inv:X->Prop) (ms:X->Nat) (sl:X->List (Nat × AVal)) (ob:X->Objs) (x:X) {nt n0:Nat} {s:St} {B:(Nat->List (Nat × AVal)->Objs->Prop)->Nat->List (Nat × AVal)->Objs->Prop} (hw:Weaker nt n0 s ⟨sl x,ob x⟩) (hi:inv x)
  (hb:∀ x,inv x->B (LoopI inv ms sl ob) (ms x) (sl x) (ob x)):∃ I n s1 o1,Weaker nt n0 s ⟨s1,o1⟩∧I n s1 o1 ∧ ∀ m s o,I m s o->B I m s o :=
 ⟨LoopI inv ms sl ob,ms x,sl x,ob x,hw,⟨x,hi,rfl,rfl,rfl⟩,by rintro _ _ _ ⟨y,hy,rfl,rfl,rfl⟩;exact hb y hy⟩
def JoinI {X:Type} (inv:X->Prop) (sl:X->List (Nat × AVal)) (ob:X->Objs):List (Nat × AVal)->Objs->Prop:=fun s o=>∃ x,inv x∧s=sl x∧o=ob x
theorem Qje {X:Type} {inv:X->Prop} {sl:X->List (Nat × AVal)} {ob:X->Objs} {nt n0:Nat} {s:St} (x:X) (hw:Weaker nt n0 s ⟨sl x,ob x⟩) (hi:inv x):∃ s'' o'',Weaker nt n0 s ⟨s'',o''⟩∧JoinI inv sl ob s'' o'':=⟨sl x,ob x,hw,x,hi,rfl,rfl⟩
theorem join_start {X:Type} (inv:X->Prop) (sl:X->List (Nat × AVal)) (ob:X->Objs) {B:List (Nat × AVal)->Objs->Prop} {A:(List (Nat × AVal)->Objs->Prop)->Prop} (hb:∀ x,inv x->B (sl x) (ob x)) (ha:A (JoinI inv sl ob)):∃ J,(∀ s o,J s o->B s o)∧A J :=
 ⟨JoinI inv sl ob,by rintro _ _ ⟨y,hy,rfl,rfl⟩;exact hb y hy,ha⟩
end Go.Fw
namespace Go.Fw
set_option linter.unusedSimpArgs false
set_option linter.unusedVariables false
open Go.RowKit Go.ChangeShapes Go.WideShapes Go.Deep
def CellsRep (K:Ctx) (xs:List AVal) (vs:List Value):Prop:=Reps K xs vs ∧ ∀ v ∈ vs,v.oneCell'=true
def ReadAs (P:Program) (t:TypeId) {α:Type} (c:α->List AVal) (G:α->Prop):Prop :=
 ∀ (H:Type) (enc:TypeId × Value->H) (w:World) (base:Nat) (spare:Nat->Bool) (held:Bool) (fuel:Nat) (cs:List Value) (x:DataW H × List MemPlace),
  DataW.trod enc P w base spare held fuel t cs=some x -> ∃ a,G a∧CellsRep (Qw3 w) (c a) cs
variable {P:Program} {t:TypeId}
theorem CellsRep.one {K:Ctx} {x:AVal} {v:Value} (h:Rep K x v) (h1:v.oneCell'=true):CellsRep K [x] [v] :=
 ⟨.cons h (.nil K),fun u hu=>by simp at hu;subst hu;exact h1⟩
theorem ReadAs.int {k:IntKind} (ht:P.underlying t=some (.int k)):ReadAs P t (fun n=>[.lit (.int k n)]) fun n=>(Lit.int k n).wf=true:=by
 intro H enc w base spare held fuel cs x h;obtain ⟨n,rfl,_,hw⟩:=DataW.trod_int ht h;exact ⟨n,hw,.one (.lit _) rfl⟩
theorem ReadAs.bool (ht:P.underlying t=some .bool):ReadAs P t (fun b=>[.lit (.bool b)]) fun _=>True:=by
 intro H enc w base spare held fuel cs x h;obtain ⟨b,rfl,_⟩:=DataW.trod_bool ht h;exact ⟨b,trivial,.one (.lit _) rfl⟩
theorem ReadAs.string (ht:P.underlying t=some .string):ReadAs P t (fun s=>[.lit (.string s)]) fun s=>s.size<=maxLen:=by
 intro H enc w base spare held fuel cs x h;obtain ⟨s,rfl,_,hs⟩:=DataW.trod_string ht h;exact ⟨s,hs,.one (.lit _) rfl⟩
theorem ReadAs.map {α β:Type} {c:α->List AVal} {c':β->List AVal} {G:α->Prop} {G':β->Prop} (h:ReadAs P t c G) (g:α->β) (hc:∀ a,c' (g a)=c a) (hG:∀ a,G a->G' (g a)):ReadAs P t c' G':=by
 intro H enc w base spare held fuel cs x hx;obtain ⟨a,ha,hr⟩:=h H enc w base spare held fuel cs x hx;exact ⟨g a,hG a ha,by rw [hc];exact hr⟩
theorem worldCtx_M {w:World} {b i:Nat} {u:Value} (h:w.cell? ⟨b,i,none⟩=some u) (h1:u.oneCell'=true):(Qw3 w).M b i=some u:=by
 simp [Qw3,h,h1]
theorem add_none (b off n:Nat):(⟨b,off,none⟩:Addr).add n=⟨b,off+n,none⟩:=by
 unfold Addr.add
 by_cases h:n=0
 ·subst h;simp
 ·simp [h]
theorem cell?_spot {w:World} {a:Addr} {u:Value} (h:w.cell? a=some u):a.spot=none:=by
 unfold World.cell? at h;split at h
 ·split at h
  ·cases h
  ·rename_i hs;cases hsp:a.spot with
   | none=>rfl
   | some n=>rw [hsp] at hs;simp at hs
 ·cases h
theorem ReadAs.slice {α:Type} {c:α->List AVal} {G:α->Prop} {e:TypeId} {k:Nat} (d:α) (ht:P.underlying t=some (.slice e)) (hk:P.cellsOf e=k) (hpos:0<k) (he:ReadAs P e c G) (hlen:∀ a,(c a).length=k) :
  ReadAs P t (fun l=>[listA k c d l]) fun l=>l.length<=maxLen ∧ ∀ a ∈ l,G a:=by
 intro H enc w base spare held fuel cs x h;rcases open_slice ht h with ⟨rfl,_⟩|⟨a,len,cap,m,n,D,Pl,rfl,-,hl,hcap,hm,-,hi⟩
 ·exact ⟨[],⟨yna _,fun a ha=>by simp at ha⟩,.one (.nil _ _ _) rfl⟩
 have hlm:len<=m:=by rw [hm];split <;> omega
 have hel:∀ i,i<len -> ∃ y,G y ∧ ∃ vs:List Value,vs.length=k∧(∀ j,j<k->w.cell? (a.add (i*k+j))=vs[j]?)∧CellsRep (Qw3 w) (c y) vs:=by
  intro i hlt;obtain ⟨cs',hc,htr⟩:=hi i oA;obtain ⟨y,hy,hr⟩:=he H enc w base spare held n cs' _ htr;rw [hk] at hc;obtain ⟨_,hcl,hat⟩:=World.cells?_some hc;refine ⟨y,hy,cs',hcl,fun j hj=>?_,hr⟩;rw [← Go.Deep.add_add];exact hat j hj
 have hch:∃ ys:List α,ys.length=len ∧ ∀ i,i<len->G (ys.getD i d) ∧ ∃ vs:List Value,vs.length=k∧(∀ j,j<k->w.cell? (a.add (i*k+j))=vs[j]?)∧CellsRep (Qw3 w) (c (ys.getD i d)) vs:=by
  clear hi hm hl hcap hlm h
  induction len with
  | zero=>exact ⟨[],rfl,fun i hi=>by omega⟩
  | succ len ih =>
   obtain ⟨ys,hys,hall⟩:=ih fun i hlt=>hel i oA
   obtain ⟨y,hy,hv⟩:=hel len oA;refine ⟨ys++[y],by simp [hys],fun i hlt=>?_⟩;rcases yGa i len with h'|h'
   ·have e:(ys++[y]).getD i d=ys.getD i d:=by simp [List.getD,ypa (show i<ys.length by omega)]
    rw [e];exact hall i h'
   ·have:i=len:=by omega
    subst this;have e:(ys++[y]).getD i d=y:=by simp [List.getD,yva (show ys.length<=i by omega),hys]
    rw [e];exact ⟨hy,hv⟩
 obtain ⟨ys,hys,hall⟩:=hch;refine ⟨ys,⟨by omega,fun y hy=>?_⟩,.one ?_ rfl⟩
 ·obtain ⟨i,hlt,rfl⟩:=yCb hy;have:=(hall i oA).1;simpa [List.getD,yba hlt] using this
 ·rcases ySa len with h0|h0
  ·subst h0;have:ys=[]:=by cases ys with|nil=>rfl|cons _ _=>simp at hys
   subst this;exact .empty _ _ _ _ _ (fun h=>by cases h)
  ·have hsp:a.spot=none:=by
    obtain ⟨_,vs,hvl,hvc,_⟩:=hall 0 h0;have:=hvc 0 hpos;rw [yba oA] at this;have:=cell?_spot this;simpa [Addr.add] using this
   obtain ⟨b,off,sp⟩:=a;simp only at hsp;subst hsp;have hu:∀ i j,i<len->j<k -> ∃ u,w.cell? ⟨b,off+(i*k+j),none⟩=some u∧u.oneCell'=true ∧ ∀ x,(c (ys.getD i d))[j]? = some x->Rep (Qw3 w) x u:=by
    intro i j hlt hj;obtain ⟨_,vs,hvl,hvc,hr⟩:=hall i hlt;have h1:=hvc j hj;rw [yba oA] at h1;rw [add_none] at h1;refine ⟨vs[j]'(by omega),h1,hr.2 _ (ycb _),fun x hx=>hr.1.2 j x _ hx (yba oA)⟩
   have hrep:=Rep.seq (K:=Qw3 w) k len false (fun i=>c (ys.getD i d)) b off cap (fun i j=>(w.cell? ⟨b,off+(i*k+j),none⟩).getD default) hl (fun h=>by cases h) (fun i _=>hlen _)
    (fun i j hlt hj=>by
     obtain ⟨u,h1,h2,_⟩:=hu i j hlt hj;rw [h1]
     exact worldCtx_M h1 h2)
    (fun i j x hlt hx=>by
     have hj:j<k:=by
      have:=(List.getElem?_eq_some_iff.1 hx).1;rw [hlen] at this;exact this
     obtain ⟨u,h1,_,h3⟩:=hu i j hlt hj;rw [h1]
     exact h3 x hx)
   unfold listA;rw [hys];exact hrep
def ReadFs (P:Program) (off:Nat) (fs:List Field) {α:Type} (c:α->List AVal) (G:α->Prop):Prop :=
 ∀ (H:Type) (enc:TypeId × Value->H) (w:World) (base:Nat) (spare:Nat->Bool) (held:Bool) (fuel:Nat) (cs:List Value),
  (∀ f ∈ fs,∃ x,DataW.trod enc P w base spare held fuel f.type ((cs.drop f.offset).take (P.cellsOf f.type))=some x) -> ∃ a,G a∧CellsRep (Qw3 w) (c a) ((cs.drop off).take ((fs.map fun f=>P.cellsOf f.type).sum))
theorem ReadFs.nil {off:Nat}:ReadFs P off [] (fun _:Unit=>[]) fun _=>True:=by
 intro H enc w base spare held fuel cs _;exact ⟨(),trivial,by simp only [y4b,List.sum_nil,List.take_zero];exact ⟨.nil _,fun v hv=>by simp at hv⟩⟩
theorem ReadFs.cons {off:Nat} {f:Field} {fs:List Field} {α β:Type} {c1:α->List AVal} {G1:α->Prop} {c2:β->List AVal} {G2:β->Prop} (ho:f.offset=off) (h1:ReadAs P f.type c1 G1) (h2:ReadFs P (off+P.cellsOf f.type) fs c2 G2) :
  ReadFs P off (f :: fs) (fun p:α × β=>c1 p.1++c2 p.2) fun p=>G1 p.1∧G2 p.2:=by
 intro H enc w base spare held fuel cs hall;obtain ⟨x,hx⟩:=hall f (yIa ..);obtain ⟨a,ha,hra⟩:=h1 H enc w base spare held fuel _ x hx;obtain ⟨b,hb,hrb⟩:=h2 H enc w base spare held fuel cs fun g hg=>hall g (ywa _ hg)
 refine ⟨(a,b),⟨ha,hb⟩,?_⟩;rw [ho] at hra;rw [← y2b] at hrb;simp only [yob,List.sum_cons];rw [List.take_add]
 exact ⟨hra.1.append hrb.1,fun v hv=>by
  rcases List.mem_append.1 hv with h|h
  ·exact hra.2 v h
  ·exact hrb.2 v h⟩
theorem ReadAs.struct {fs:Array Field} {α:Type} {c:α->List AVal} {G:α->Prop} (ht:P.underlying t=some (.struct fs)) (hs:(fs.toList.map fun f=>P.cellsOf f.type).sum=P.cellsOf t) (h:ReadFs P 0 fs.toList c G):ReadAs P t c G:=by
 intro H enc w base spare held fuel cs x hx;obtain ⟨xs,n,_,_,hlen,hxs,hf⟩:=DataW.trod_struct ht hx;obtain ⟨a,ha,hr⟩:=h H enc w base spare held n cs fun f hfm=>by
  obtain ⟨i,hi,rfl⟩:=yCb hfm;have hi':i<fs.size:=by simpa using hi
  have:=hf i fs[i] (ysa hi');rw [yba oA] at this;exact ⟨_,by simpa using this⟩
 refine ⟨a,ha,?_⟩;rw [hs,List.drop_zero,List.take_of_length_le oA] at hr;exact hr
end Go.Fw
