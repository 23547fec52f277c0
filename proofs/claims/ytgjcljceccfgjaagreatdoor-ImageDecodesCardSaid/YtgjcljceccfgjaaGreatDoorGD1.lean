/-
  Words as sets of bits: what and, or, and-not, a power, a sum of powers say of each bit. Program-independent; no condition but that a number is a word's.
  The program's and the document's sets of nodes: which bits they have. No condition beyond those that stand in each.
  How many bits a word has: the sum that is made in parallel is the number of its bits. Program-independent.
  What the program's and the document's 'same' say of states: that they are one and the same. No condition.
  Tables of jobs: what a table that may be is like; what the check of a state shows of its jobs. Conditions stand in each lemma.
  The program's checks and the document's are the same, first part: nodes, books, the ledger, shapes. Conditions stand in each lemma.
  The program's checks and the document's are the same, second part: the ledger, shapes and their options, names, what is waited for. Conditions stand in each lemma.
  The program's checks and the document's are the same, third part: how many nodes a set has. Conditions stand in each lemma.
  The program's checks and the document's are the same, fourth part: a shape's options, names, what is waited for. Conditions stand in each lemma.
  The program's checks and the document's are the same, fifth part: what is a word. Conditions stand in each lemma.
  The program's checks and the document's are the same, sixth part: a text is a word for the program if it is one for the document. Conditions stand in each lemma.
  The program's checks and the document's are the same, seventh part: a text is a word for the document if it is one for the program. Conditions stand in each lemma.
  The program's checks and the document's are the same, eighth part: submissions, jobs, tables of jobs, what a plan asks of a state. Condition: sets of nodes are words; texts and rows are of a size that a machine holds.
  The program's checks and the document's are the same, ninth part: sets of nodes as the document makes them; what runs; what is resized. Conditions stand in each lemma.
  The program's checks and the document's are the same, tenth part: one change of size. Conditions stand in each lemma.
  The program's checks and the document's are the same, eleventh part: a change of size may be for the program if it may be for the document. Conditions stand in each lemma.
  The program's checks and the document's are the same, twelfth part: what state may be. Condition: sets of nodes are words; texts and rows are of a size that a machine holds.
  The program's checks and the document's are the same, last part: what state may be; a job's nodes; its resize; a new state. Condition: sets of nodes are words; texts and rows are of a size that a machine holds.
  Numbers as bytes, and what stands at a place in bytes. No condition beyond those that stand in each.
  The layer of packed numbers and texts: what is laid is read, and what is read was laid; the document's and the program's are alike. No condition beyond those that stand in each.
-/
import Derived.Test.YtgjcljceccfgjaaGreatDoorG6
import Derived.Test.YtgjcljceccfgjaaGreatDoorG13
import Derived.Test.YtgjcljceccfgjaaGreatDoorG7
namespace Go.Fw
set_option linter.unusedSimpArgs false
set_option linter.unusedVariables false
theorem or_f {a b:Bool} (h:(a||b)=false):a=false∧b=false:=by simpa using h
def U64 (x:Int):Prop:=0<=x∧x<18446744073709551616
def tb (x:Int) (k:Nat):Bool:=x.toNat.testBit k
theorem wu64_eq (n : Int) : wu64 n = n % 18446744073709551616 := by simp [IntKind.wrap, IntKind.bits, IntKind.signed]
theorem QL9 {n:Int} (h:U64 n):wu64 n=n:=by rw [wu64_eq];unfold U64 at h;omega
theorem Qoc (n:Int):U64 (wu64 n):=by rw [wu64_eq];unfold U64;omega
theorem U64.zero:U64 0:=⟨by decide,by decide⟩
theorem wu64_bv (b:BitVec 64):wu64 (b.toNat:Int)=(b.toNat:Int):=QL9 ⟨by omega,by have:=b.isLt;omega⟩
theorem tb_bv (b:BitVec 64) (k:Nat):tb (wu64 (b.toNat:Int)) k=b.getLsbD k:=by
 rw [wu64_bv,tb,Int.toNat_natCast,BitVec.testBit_toNat]
theorem QUc {x:Int} (h:U64 x) {k:Nat} (hk:64<=k):tb x k=false:=by
 unfold tb U64 at *
 refine Nat.testBit_lt_two_pow (Nat.lt_of_lt_of_le (m:=2 ^ 64) (by omega) (Nat.pow_le_pow_right (by decide) hk))
theorem QN9 {x:Int} (h:U64 x) (k:Nat):(BitVec.ofInt 64 x).getLsbD k=tb x k:=by
 have e:(BitVec.ofInt 64 x).toNat=x.toNat:=by
  rw [BitVec.toNat_ofInt]
  unfold U64 at h
  have : x % (2 ^ 64 : Nat) = x := Int.emod_eq_of_lt h.1 (by simpa using h.2)
  rw [this]
 rw [← BitVec.testBit_toNat,e]
 rfl
theorem tb_and {x y:Int} (hx:U64 x) (hy:U64 y) (k:Nat):tb (wu64 ((BitVec.ofInt 64 x &&& BitVec.ofInt 64 y).toNat:Int)) k=(tb x k&&tb y k):=by
 rw [tb_bv,BitVec.getLsbD_and,QN9 hx,QN9 hy]
theorem tb_or {x y:Int} (hx:U64 x) (hy:U64 y) (k:Nat):tb (wu64 ((BitVec.ofInt 64 x ||| BitVec.ofInt 64 y).toNat:Int)) k=(tb x k||tb y k):=by
 rw [tb_bv,BitVec.getLsbD_or,QN9 hx,QN9 hy]
theorem Qyb {x y:Int} (hx:U64 x) (hy:U64 y) (k:Nat):tb (wu64 ((BitVec.ofInt 64 x &&& ~~~(BitVec.ofInt 64 y)).toNat:Int)) k=(tb x k && !tb y k):=by
 rw [tb_bv,BitVec.getLsbD_and,BitVec.getLsbD_not,QN9 hx,QN9 hy]
 rcases Nat.lt_or_ge k 64 with h|h
 ·simp [h]
 ·simp [QUc hx h]
theorem tb_ext {x y:Int} (hx:U64 x) (hy:U64 y) (h:∀ k,k<64->tb x k=tb y k):x=y:=by
 have:x.toNat=y.toNat:=by
  refine Nat.eq_of_testBit_eq fun k=>?_
  rcases Nat.lt_or_ge k 64 with hk|hk
  ·exact h k hk
  ·exact (QUc hx hk).trans (QUc hy hk).symm
 unfold U64 at hx hy
 omega
theorem QVc (k:Nat):tb 0 k=false:=by simp [tb]
theorem Qna {x:Int} (hx:U64 x):(x==0)=true ↔ ∀ k,k<64->tb x k=false:=by
 rw [beq_iff_eq]
 refine ⟨fun h k _=>by rw [h];exact QVc k,fun h=>tb_ext hx .zero fun k hk=>by rw [h k hk,QVc]⟩
theorem Q3g {x:Int} (hx:U64 x):(x != 0)=true ↔ ∃ k,k<64∧tb x k=true:=by
 rw [bne_iff_ne]
 constructor
 ·intro h
  apply Classical.byContradiction
  intro hn
  refine h (beq_iff_eq.1 ((Qna hx).2 fun k hk=>?_))
  cases hb:tb x k with
  | false=>rfl
  | true=>exact (hn ⟨k,hk,hb⟩).elim
 ·rintro ⟨k,_,hb⟩ e
  rw [e,QVc] at hb
  cases hb
theorem Qy8 (k:Nat):∃ m:Nat,(2:Int) ^ k=(m:Int)∧2 ^ k=m:=⟨2 ^ k,by simp,rfl⟩
theorem pow64:(2:Nat) ^ 64=18446744073709551616:=by decide
theorem pow_U {k:Nat} (hk:k<64):U64 ((2:Int) ^ k):=by
 have h1:(2:Nat) ^ k<2 ^ 64:=Nat.pow_lt_pow_right (by decide) hk
 rw [pow64] at h1
 obtain ⟨m,e,e'⟩:=Qy8 k
 rw [e]
 unfold U64
 omega
theorem tb_pow (k j:Nat):tb ((2:Int) ^ k) j=decide (k=j):=by
 have e:(2:Int) ^ k=((2 ^ k:Nat):Int):=by simp
 rw [tb,e,Int.toNat_natCast,Nat.testBit_two_pow]
def Qj3 (p:Nat->Bool):Nat->Int
 | 0=>0
 | n+1=>bif p n then Qj3 p n+2 ^ n else Qj3 p n
theorem QZ8 (p:Nat->Bool):∀ n,0<=Qj3 p n∧Qj3 p n<2 ^ n
 | 0=>⟨by simp [Qj3],by simp [Qj3]⟩
 | n+1=>by
  have:=QZ8 p n
  have e:(2:Int) ^ (n+1)=2*2 ^ n:=by rw [Int.pow_succ];omega
  rw [Qj3]
  cases p n <;> simp only [cond_true,cond_false] <;> omega
theorem Q4e (p:Nat->Bool) {n:Nat} (hn:n<=64):U64 (Qj3 p n):=by
 have:=QZ8 p n
 have h1:(2:Nat) ^ n<=2 ^ 64:=Nat.pow_le_pow_right (by decide) hn
 rw [pow64] at h1
 obtain ⟨m,e,e'⟩:=Qy8 n
 unfold U64
 omega
theorem tb_upto (p:Nat->Bool):∀ n k,tb (Qj3 p n) k=(decide (k<n)&&p k)
 | 0,k=>by simp [Qj3,QVc]
 | n+1,k=>by
  have hl:=QZ8 p n
  have ih:=tb_upto p n k
  obtain ⟨m,e,e'⟩:=Qy8 n
  have hlt:(Qj3 p n).toNat<2 ^ n:=by omega
  rw [Qj3]
  cases hp:p n with
  | false =>
   simp only [cond_false]
   rw [ih]
   rcases Nat.lt_trichotomy k n with h|h|h
   ·simp [h,Nat.lt_succ_of_lt h]
   ·subst h;simp [hp]
   ·simp [show ¬ k<n by omega,show ¬ k<n+1 by omega]
  | true =>
   simp only [cond_true]
   have et:(Qj3 p n+2 ^ n).toNat=2 ^ n+(Qj3 p n).toNat:=by omega
   unfold tb at ih ⊢
   rw [et]
   rcases Nat.lt_trichotomy k n with h|h|h
   ·rw [Nat.testBit_two_pow_add_gt h,ih]
    simp [h,Nat.lt_succ_of_lt h]
   ·subst h
    rw [Nat.testBit_two_pow_add_eq,Nat.testBit_lt_two_pow hlt]
    simp [hp]
   ·have:2 ^ n+(Qj3 p n).toNat<2 ^ k:=by
     have:(2:Nat) ^ (n+1)<=2 ^ k:=Nat.pow_le_pow_right (by decide) h
     rw [Nat.pow_succ] at this
     omega
    rw [Nat.testBit_lt_two_pow this]
    simp [show ¬ k<n+1 by omega]
def idxL {α:Type} (f:Nat->α->Bool):List α->Nat->List Int
 | [],_=>[]
 | x :: r,i=>bif f i x then (i:Int) :: idxL f r (i+1) else idxL f r (i+1)
def hasB {α:Type} (f:Nat->α->Bool) (l:List α) (i k:Nat):Bool:=decide (i<=k)&&(match l[k - i]? with|some x=>f k x|none=>false)
theorem hasB_nil {α:Type} (f:Nat->α->Bool) (i k:Nat):hasB f [] i k=false:=by simp [hasB]
theorem hasB_cons {α:Type} (f:Nat->α->Bool) (x:α) (r:List α) (i k:Nat):hasB f (x :: r) i k=((decide (k=i)&&f i x)||hasB f r (i+1) k):=by
 unfold hasB
 rcases Nat.lt_trichotomy k i with h|h|h
 ·simp [show ¬ i<=k by omega,show ¬ i+1<=k by omega,show ¬ k=i by omega]
 ·subst h;simp [show ¬ k+1<=k by omega]
 ·have e:k - i=(k - (i+1))+1:=by omega
  simp [show i<=k by omega,show i+1<=k by omega,show ¬ k=i by omega,e]
theorem hasB_zero {α:Type} (f:Nat->α->Bool) (d:α) (l:List α) (k:Nat):hasB f l 0 k=(decide (k<l.length)&&f k (l.getD k d)):=by
 unfold hasB
 rcases Nat.lt_or_ge k l.length with h|h
 ·simp [h,List.getD]
 ·simp [Nat.not_lt.2 h,List.getElem?_eq_none h]
theorem Qkf {α:Type} (f:Nat->α->Bool) (G:List α->List Int->Nat->List Int) (h0:∀ out i,G [] out i=out) (h1:∀ x r out i,G (x :: r) out i=bif f i x then G r (out++[(i:Int)]) (i+1) else G r out (i+1)):∀ (l:List α) (out:List Int) (i:Nat),G l out i=out++idxL f l i
 | [],out,i=>by rw [h0,idxL,List.append_nil]
 | x :: r,out,i=>by
  rw [h1,idxL]
  cases f i x with
  | true=>simp only [cond_true];rw [Qkf f G h0 h1 r];simp
  | false=>simp only [cond_false];exact Qkf f G h0 h1 r out (i+1)
end Go.Fw
namespace Go.Proofs.YtgjcljceccfgjaaGreatDoor
set_option linter.unusedSimpArgs false
set_option linter.unusedVariables false
open Go.Fw
theorem QF9 {k:Nat} (h:k<64):Qw2 (k:Int)=(2:Int) ^ k:=by
 unfold Qw2
 have e:wu64 (k:Int)=(k:Int):=QL9 ⟨by omega,by omega⟩
 rw [e,Int.toNat_natCast,Nat.min_eq_left (by omega),Int.one_mul,QL9 (pow_U h)]
theorem and_one {s:Int} (hs:U64 s) {k:Nat} (hk:k<64):((wu64 (BitVec.ofInt 64 s &&& BitVec.ofInt 64 (Qw2 (k:Int))).toNat)!=0)=tb s k:=by
 have hp:U64 ((2:Int) ^ k):=pow_U hk
 rw [QF9 hk]
 cases hb:tb s k with
 | true =>
  refine (Q3g (Qoc _)).2 ⟨k,hk,?_⟩
  rw [tb_and hs hp,hb,tb_pow]
  simp
 | false =>
  cases hx:((wu64 (BitVec.ofInt 64 s &&& BitVec.ofInt 64 ((2:Int) ^ k)).toNat)!=0) with
  | false=>rfl
  | true =>
   obtain ⟨j,hj,h⟩:=(Q3g (Qoc _)).1 hx
   rw [tb_and hs hp,tb_pow] at h
   simp only [Bool.and_eq_true,decide_eq_true_eq] at h
   rw [← h.2,hb] at h
   cases h.1
theorem Qec {s:Int} (hs:U64 s) (k:Nat):Qf4 s (k:Int)=(decide (k<64)&&tb s k):=by
 unfold Qf4
 rcases Nat.lt_or_ge k 64 with h|h
 ·rw [and_one hs h]
  simp [h]
  omega
 ·have:¬ ((k:Int)<64):=by omega
  simp [this,Nat.not_lt.2 h]
theorem QE9 {α:Type} (f:Nat->α->Bool):∀ (l:List α) (i:Nat) (s:Int) (j:Nat),i+l.length<=64->U64 s->(∀ k,i<=k->tb s k=false) ->
  (Qs5 (idxL f l i) s j).2=0∧U64 (Qs5 (idxL f l i) s j).1 ∧ ∀ k,tb (Qs5 (idxL f l i) s j).1 k=(tb s k||hasB f l i k)
 | [],i,s,j,_,hs,_=>⟨rfl,hs,fun k=>by rw [hasB_nil,Bool.or_false];rfl⟩
 | x :: r,i,s,j,hl,hs,hf=>by
  simp only [List.length_cons] at hl
  rw [idxL]
  cases hx:f i x with
  | false =>
   simp only [cond_false]
   obtain ⟨a,b,c⟩:=QE9 f r (i+1) s j (by omega) hs (fun k hk=>hf k (by omega))
   exact ⟨a,b,fun k=>by rw [c,hasB_cons,hx];simp⟩
  | true =>
   simp only [cond_true]
   have hi:i<64:=by omega
   have hg:(((decide ((i:Int)<0))||(decide ((i:Int) >= 64)))||((wu64 (BitVec.ofInt 64 s &&& BitVec.ofInt 64 (Qw2 (i:Int))).toNat)!=0))=false:=by
    rw [and_one hs hi,hf i (Nat.le_refl _)]
    simp
    omega
   rw [Qs5,hg]
   simp only [cond_false]
   have hp:U64 ((2:Int) ^ i):=pow_U hi
   have ht:∀ k,tb (wu64 (BitVec.ofInt 64 s ||| BitVec.ofInt 64 (Qw2 (i:Int))).toNat) k=(tb s k||decide (i=k)):=fun k=>by
    rw [QF9 hi,tb_or hs hp,tb_pow]
   obtain ⟨a,b,c⟩:=QE9 f r (i+1) (wu64 (BitVec.ofInt 64 s ||| BitVec.ofInt 64 (Qw2 (i:Int))).toNat) (j+1) (by omega) (Qoc _) (fun k hk=>by
    rw [ht,hf k (by omega)]
    simp
    omega)
   refine ⟨a,b,fun k=>?_⟩
   rw [c,ht,hasB_cons,hx,Bool.and_true,Bool.or_assoc]
   congr 2
   simp [eq_comm]
theorem set_where {α:Type} (f:Nat->α->Bool) (d:α) (l:List α) (hl:l.length<=64):U64 (Q85 (idxL f l 0)).1 ∧ ∀ k,tb (Q85 (idxL f l 0)).1 k=(decide (k<l.length)&&f k (l.getD k d)):=by
 obtain ⟨_,b,c⟩:=QE9 f l 0 0 0 (by omega) .zero (fun k _=>QVc k)
 exact ⟨b,fun k=>(c k).trans (by rw [QVc,Bool.false_or,hasB_zero f d])⟩
theorem Qz8 (l:List Node) (is:Node->Bool) (hc:QI1 l=0) (hl:l.length<=64):U64 (Qd4 l is) ∧ ∀ k,tb (Qd4 l is) k=(decide (k<l.length)&&is (l.getD k Node.zero)):=by
 have e:Qd4 l is=(Q85 (idxL (fun _ x=>is x) l 0)).1:=by
  unfold Qd4
  rw [hc]
  show QW3 (QF5 is l [] 0)=_
  rw [QW3,Qkf (fun _ x=>is x) (QF5 is) (fun _ _=>rfl) (fun _ _ _ _=>rfl),List.nil_append]
 rw [e]
 exact set_where (fun _ x=>is x) Node.zero l hl
theorem Q9f {n:Nat} (h:n<=64):U64 (QF4 (n:Int)) ∧ ∀ k,tb (QF4 (n:Int)) k=decide (k<n):=by
 have low:∀ m:Nat,m<64->U64 (((2:Int) ^ m) - 1) ∧ ∀ k,tb (((2:Int) ^ m) - 1) k=decide (k<m):=by
  intro m hm
  have hu:=pow_U hm
  obtain ⟨q,e,e'⟩:=Qy8 m
  have hq:0<q:=by rw [← e'];exact Nat.pow_pos (by decide)
  refine ⟨by unfold U64 at *;omega,fun k=>?_⟩
  have:((2:Int) ^ m - 1).toNat=2 ^ m - 1:=by omega
  rw [tb,this,Nat.testBit_two_pow_sub_one]
 unfold QF4
 rcases Nat.eq_zero_or_pos n with h0|h0
 ·subst h0
  exact ⟨.zero,fun k=>by simp [QVc]⟩
 ·have h1:decide ((n:Int)<=0)=false:=decide_eq_false (by omega)
  rw [h1]
  rcases Nat.lt_or_ge n 64 with h2|h2
  ·have h3:decide ((n:Int) >= 64)=false:=decide_eq_false (by omega)
   rw [h3]
   simp only [cond_false]
   rw [QF9 h2,QL9 (low n h2).1]
   exact low n h2
  ·have h3:decide ((n:Int) >= 64)=true:=decide_eq_true (by omega)
   rw [h3]
   obtain rfl:n=64:=by omega
   refine ⟨⟨by decide,by decide⟩,fun k=>?_⟩
   show tb 18446744073709551615 k=_
   have:(18446744073709551615:Int).toNat=2 ^ 64 - 1:=by decide
   rw [tb,this,Nat.testBit_two_pow_sub_one]
end Go.Proofs.YtgjcljceccfgjaaGreatDoor
namespace Go.Fw
set_option linter.unusedSimpArgs false
set_option linter.unusedVariables false
theorem Qme {n c:Nat} (hn:n<18446744073709551616) (hc:c<18446744073709551616):wu64 ((BitVec.ofInt 64 (n:Int) &&& BitVec.ofInt 64 (c:Int)).toNat:Int)=((n &&& c:Nat):Int):=by
 have e:∀ m:Nat,m<18446744073709551616->(BitVec.ofInt 64 (m:Int)).toNat=m:=fun m hm=>by
  rw [BitVec.toNat_ofInt]
  omega
 rw [BitVec.toNat_and,e n hn,e c hc,QL9]
 have:=Nat.and_le_left (n:=n) (m:=c)
 unfold U64
 omega
theorem Qne (n k:Nat) (hk:k<=64):Int.fdiv (n:Int) (2 ^ (min (Int.toNat (k:Int)) 64))=((n / 2 ^ k:Nat):Int):=by
 rw [Int.toNat_natCast,Nat.min_eq_left hk,Int.fdiv_eq_ediv_of_nonneg _ (by have:=Int.pow_pos (n:=2) (m:=k) (by decide);omega)]
 simp
theorem Qoe {a b:Nat} (h:a+b<18446744073709551616):wu64 ((a:Int)+(b:Int))=((a+b:Nat):Int):=by
 rw [QL9]
 ·simp
 ·unfold U64;omega
theorem Qfa {a c y m:Nat} (ha:a<256) (hc:c<256):(256*y+a) &&& (256*m+c)=256*(y &&& m)+(a &&& c):=by
 refine Nat.eq_of_testBit_eq fun k=>?_
 have e:∀ q r k,r<256->(256*q+r).testBit k=if k<8 then r.testBit k else q.testBit (k - 8):=fun q r k hr=>Nat.testBit_two_pow_mul_add (i:=8) q hr k
 have hac:a &&& c<256:=Nat.lt_of_le_of_lt Nat.and_le_left ha
 rw [Nat.testBit_and,e y a k ha,e m c k hc,e _ _ k hac]
 split <;> simp [Nat.testBit_and]
def by8 (a b c d e f g h:Nat):Nat:=256*(256*(256*(256*(256*(256*(256*h+g)+f)+e)+d)+c)+b)+a
theorem and8 {a b c d e f g h:Nat} (k:Nat) (hk:k<256) (ha:a<256) (hb:b<256) (hc:c<256) (hd:d<256) (he:e<256) (hf:f<256) (hg:g<256) :
  by8 a b c d e f g h &&& by8 k k k k k k k k=by8 (a &&& k) (b &&& k) (c &&& k) (d &&& k) (e &&& k) (f &&& k) (g &&& k) (h &&& k):=by
 unfold by8
 rw [Qfa ha hk,Qfa hb hk,Qfa hc hk,Qfa hd hk,Qfa he hk,Qfa hf hk,Qfa hg hk]
def st1 (y:Nat):Nat:=(y &&& 170) / 2+(y &&& 85)
def st2 (y:Nat):Nat:=(y &&& 204) / 4+(y &&& 51)
def st3 (y : Nat) : Nat := (y + y / 16) % 16
def popN:Nat->Nat->Nat
 | 0,_=>0
 | k + 1, n => n % 2 + popN k (n / 2)
theorem pop8 : ∀ y, y < 256 -> st3 (st2 (st1 y)) = popN 8 y ∧ (y &&& 170) % 2 = 0 ∧ (st1 y &&& 204) % 4 = 0 ∧ st1 y < 256 ∧ st2 (st1 y) <= 68 := by decide +kernel
theorem popN_add:∀ (j k n:Nat),popN (j+k) n=popN j n+popN k (n / 2 ^ j)
 | 0,k,n=>by simp [popN]
 | j+1,k,n=>by
  rw [show j+1+k=(j+k)+1 by omega,popN,popN_add j k,popN,Nat.pow_succ,Nat.mul_comm (2 ^ j) 2,Nat.div_div_eq_div_mul]
  omega
theorem popN_low (q:Nat):∀ (j r:Nat),r<2 ^ j->popN j (2 ^ j*q+r)=popN j r
 | 0,r,_=>rfl
 | j+1,r,h=>by
  rw [popN,popN,Nat.pow_succ]
  rw [Nat.pow_succ] at h
  have e1 : (2 ^ j * 2 * q + r) % 2 = r % 2 := by rw [Nat.mul_right_comm, Nat.mul_comm _ 2, Nat.mul_add_mod]
  have e2:(2 ^ j*2*q+r) / 2=2 ^ j*q+r / 2:=by rw [Nat.mul_right_comm,Nat.mul_comm _ 2,Nat.mul_add_div (by decide)]
  rw [e1,e2,popN_low q j (r / 2) (by omega)]
theorem pop_by8 {a b c d e f g h:Nat} (ha:a<256) (hb:b<256) (hc:c<256) (hd:d<256) (he:e<256) (hf:f<256) (hg:g<256) (hh:h<256) :
  popN 64 (by8 a b c d e f g h)=popN 8 a+(popN 8 b+(popN 8 c+(popN 8 d+(popN 8 e+(popN 8 f+(popN 8 g+popN 8 h)))))):=by
 have step:∀ k q r,r<256->popN (8+k) (256*q+r)=popN 8 r+popN k q:=fun k q r hr=>by
  rw [popN_add,popN_low q 8 r hr]
  congr 2
  show (256*q+r) / 256=q
  omega
 unfold by8
 rw [show 64=8+(8+(8+(8+(8+(8+(8+8)))))) from rfl,step _ _ _ ha,step _ _ _ hb,step _ _ _ hc,step _ _ _ hd,step _ _ _ he,step _ _ _ hf,step _ _ _ hg]
theorem exists_by8 {n:Nat} (h:n<18446744073709551616):∃ a b c d e f g h,n=by8 a b c d e f g h∧a<256∧b<256∧c<256∧d<256∧e<256∧f<256∧g<256∧h<256:=by
 refine ⟨n % 256, n / 256 % 256, n / 65536 % 256, n / 16777216 % 256, n / 4294967296 % 256, n / 1099511627776 % 256, n / 281474976710656 % 256, n / 72057594037927936 % 256, ?_, ?_, ?_, ?_, ?_, ?_, ?_, ?_, ?_⟩
 ·unfold by8;omega
 all_goals omega
theorem shr_and (x m k:Nat):(x / 2 ^ k) &&& m=(x &&& (m*2 ^ k)) / 2 ^ k:=by
 rw [← Nat.shiftRight_eq_div_pow,← Nat.shiftRight_eq_div_pow,Nat.shiftRight_and_distrib,Nat.shiftRight_eq_div_pow (m*2 ^ k),Nat.mul_div_cancel _ (Nat.pow_pos (by decide))]
def sw1 (x:Nat):Nat:=((x / 2 ^ 1) &&& 6148914691236517205)+(x &&& 6148914691236517205)
def sw2 (x:Nat):Nat:=((x / 2 ^ 2) &&& 3689348814741910323)+(x &&& 3689348814741910323)
def sw3 (x:Nat):Nat:=(x / 2 ^ 4+x) &&& 1085102592571150095
theorem sw1_by8 {a b c d e f g h:Nat} (ha:a<256) (hb:b<256) (hc:c<256) (hd:d<256) (he:e<256) (hf:f<256) (hg:g<256) (hh:h<256) :
  sw1 (by8 a b c d e f g h)=by8 (st1 a) (st1 b) (st1 c) (st1 d) (st1 e) (st1 f) (st1 g) (st1 h):=by
 unfold sw1
 rw [shr_and,show 6148914691236517205*2 ^ 1=by8 170 170 170 170 170 170 170 170 from rfl,show 6148914691236517205=by8 85 85 85 85 85 85 85 85 from rfl,and8 170 (by decide) ha hb hc hd he hf hg,and8 85 (by decide) ha hb hc hd he hf hg]
 have pa:=(pop8 a ha).2.1;have pb:=(pop8 b hb).2.1;have pc:=(pop8 c hc).2.1;have pd:=(pop8 d hd).2.1;have pe:=(pop8 e he).2.1;have pf:=(pop8 f hf).2.1;have pg:=(pop8 g hg).2.1;have ph:=(pop8 h hh).2.1
 unfold by8 st1
 omega
theorem sw2_by8 {a b c d e f g h : Nat} (ha : a < 256) (hb : b < 256) (hc : c < 256) (hd : d < 256) (he : e < 256) (hf : f < 256) (hg : g < 256) (ma : (a &&& 204) % 4 = 0) (mb : (b &&& 204) % 4 = 0) (mc : (c &&& 204) % 4 = 0) (md : (d &&& 204) % 4 = 0) (me : (e &&& 204) % 4 = 0) (mf : (f &&& 204) % 4 = 0) (mg : (g &&& 204) % 4 = 0) (mh : (h &&& 204) % 4 = 0) :
  sw2 (by8 a b c d e f g h)=by8 (st2 a) (st2 b) (st2 c) (st2 d) (st2 e) (st2 f) (st2 g) (st2 h):=by
 unfold sw2
 rw [shr_and,show 3689348814741910323*2 ^ 2=by8 204 204 204 204 204 204 204 204 from rfl,show 3689348814741910323=by8 51 51 51 51 51 51 51 51 from rfl,and8 204 (by decide) ha hb hc hd he hf hg,and8 51 (by decide) ha hb hc hd he hf hg]
 unfold by8 st2
 omega
theorem and15 (z : Nat) : z &&& 15 = z % 16 := Nat.and_two_pow_sub_one_eq_mod z 4
theorem sw3_by8 {a b c d e f g h : Nat} (ha : a <= 68) (hb : b <= 68) (hc : c <= 68) (hd : d <= 68) (he : e <= 68) (hf : f <= 68) (hg : g <= 68) (hh : h <= 68) (na : a % 16 <= 4) (nb : b % 16 <= 4) (nc : c % 16 <= 4) (nd : d % 16 <= 4) (ne : e % 16 <= 4) (nf : f % 16 <= 4) (ng : g % 16 <= 4) (nh : h % 16 <= 4) :
  sw3 (by8 a b c d e f g h)=by8 (st3 a) (st3 b) (st3 c) (st3 d) (st3 e) (st3 f) (st3 g) (st3 h):=by
 unfold sw3
 have e0 : by8 a b c d e f g h / 2 ^ 4 + by8 a b c d e f g h = by8 (a + a / 16 + 16 * (b % 16)) (b + b / 16 + 16 * (c % 16)) (c + c / 16 + 16 * (d % 16)) (d + d / 16 + 16 * (e % 16)) (e + e / 16 + 16 * (f % 16)) (f + f / 16 + 16 * (g % 16)) (g + g / 16 + 16 * (h % 16)) (h + h / 16) := by
  unfold by8
  omega
 rw [e0,show 1085102592571150095=by8 15 15 15 15 15 15 15 15 from rfl,and8 15 (by decide) (by omega) (by omega) (by omega) (by omega) (by omega) (by omega) (by omega)]
 simp only [and15]
 unfold st3
 congr 1 <;> omega
theorem Qw9 : ∀ y, y < 256 -> st2 (st1 y) % 16 <= 4 ∧ st3 (st2 (st1 y)) <= 8 ∧ st2 (st1 y) < 256 ∧ st1 y < 256 := by decide +kernel
theorem sw_pop {n:Nat} (hn:n<18446744073709551616):∃ a b c d e f g h,sw3 (sw2 (sw1 n))=by8 a b c d e f g h∧a<=8∧b<=8∧c<=8∧d<=8∧e<=8∧f<=8∧g<=8∧h<=8∧popN 64 n=a+(b+(c+(d+(e+(f+(g+h)))))):=by
 obtain ⟨a,b,c,d,e,f,g,h,rfl,ha,hb,hc,hd,he,hf,hg,hh⟩:=exists_by8 hn
 have A:=pop8 a ha;have B:=pop8 b hb;have C:=pop8 c hc;have D:=pop8 d hd;have E:=pop8 e he;have F:=pop8 f hf;have G:=pop8 g hg;have H:=pop8 h hh
 have A':=Qw9 a ha;have B':=Qw9 b hb;have C':=Qw9 c hc;have D':=Qw9 d hd;have E':=Qw9 e he;have F':=Qw9 f hf;have G':=Qw9 g hg;have H':=Qw9 h hh
 rw [sw1_by8 ha hb hc hd he hf hg hh,sw2_by8 A'.2.2.2 B'.2.2.2 C'.2.2.2 D'.2.2.2 E'.2.2.2 F'.2.2.2 G'.2.2.2 A.2.2.1 B.2.2.1 C.2.2.1 D.2.2.1 E.2.2.1 F.2.2.1 G.2.2.1 H.2.2.1,
  sw3_by8 A.2.2.2.2 B.2.2.2.2 C.2.2.2.2 D.2.2.2.2 E.2.2.2.2 F.2.2.2.2 G.2.2.2.2 H.2.2.2.2 A'.1 B'.1 C'.1 D'.1 E'.1 F'.1 G'.1 H'.1,pop_by8 ha hb hc hd he hf hg hh]
 refine ⟨_,_,_,_,_,_,_,_,rfl,A'.2.1,B'.2.1,C'.2.1,D'.2.1,E'.2.1,F'.2.1,G'.2.1,H'.2.1,?_⟩
 rw [A.1,B.1,C.1,D.1,E.1,F.1,G.1,H.1]
theorem Qrc {a b c d e f g h:Nat} (ha:a<256):by8 a b c d e f g h / 256=by8 b c d e f g h 0:=by
 unfold by8
 omega
theorem by8_add (a b c d e f g h a' b' c' d' e' f' g' h':Nat):by8 a b c d e f g h+by8 a' b' c' d' e' f' g' h'=by8 (a+a') (b+b') (c+c') (d+d') (e+e') (f+f') (g+g') (h+h'):=by
 unfold by8
 omega
theorem by8_lt {a b c d e f g h:Nat} (ha:a<=64) (hb:b<=64) (hc:c<=64) (hd:d<=64) (he:e<=64) (hf:f<=64) (hg:g<=64) (hh:h<=64):by8 a b c d e f g h<9223372036854775808:=by
 unfold by8
 omega
theorem by8_mod {a b c d e f g h : Nat} (ha : a < 128) : by8 a b c d e f g h % 128 = a := by
 unfold by8
 generalize 256*(256*(256*(256*(256*(256*h+g)+f)+e)+d)+c)+b=q
 omega
theorem sum_low {a b c d e f g h:Nat} (ha:a<=8) (hb:b<=8) (hc:c<=8) (hd:d<=8) (he:e<=8) (hf:f<=8) (hg:g<=8) (hh:h<=8) (x4 x5 x6:Nat) (h4:x4=by8 a b c d e f g h+by8 a b c d e f g h / 256) (h5:x5=x4+x4 / 65536) (h6:x6=x5+x5 / 4294967296) :
  x6 % 128 = a + (b + (c + (d + (e + (f + (g + h)))))) ∧ x4 < 9223372036854775808 ∧ x5 < 9223372036854775808 ∧ x6 < 9223372036854775808 := by
 have d2:∀ x,x / 65536=x / 256 / 256:=fun x=>by omega
 have d4:∀ x,x / 4294967296=x / 256 / 256 / 256 / 256:=fun x=>by omega
 have e4:x4=by8 (a+b) (b+c) (c+d) (d+e) (e+f) (f+g) (g+h) (h+0):=by rw [h4,Qrc (by omega),by8_add]
 have e5:x5=by8 (a+b+(c+d)) (b+c+(d+e)) (c+d+(e+f)) (d+e+(f+g)) (e+f+(g+h)) (f+g+(h+0)) (g+h+0) (h+0+0):=by
  rw [h5,d2,e4,Qrc (by omega),Qrc (by omega),by8_add]
 have e6:x6=by8 (a+b+(c+d)+(e+f+(g+h))) (b+c+(d+e)+(f+g+(h+0))) (c+d+(e+f)+(g+h+0)) (d+e+(f+g)+(h+0+0)) (e+f+(g+h)+0) (f+g+(h+0)+0) (g+h+0+0) (h+0+0+0):=by
  rw [h6,d4,e5,Qrc (by omega),Qrc (by omega),Qrc (by omega),Qrc (by omega),by8_add]
 refine ⟨?_,?_,?_,?_⟩
 ·rw [e6,by8_mod (by omega)];omega
 ·rw [e4];exact by8_lt (by omega) (by omega) (by omega) (by omega) (by omega) (by omega) (by omega) (by omega)
 ·rw [e5];exact by8_lt (by omega) (by omega) (by omega) (by omega) (by omega) (by omega) (by omega) (by omega)
 ·rw [e6];exact by8_lt (by omega) (by omega) (by omega) (by omega) (by omega) (by omega) (by omega) (by omega)
end Go.Fw
namespace Go.Proofs.YtgjcljceccfgjaaGreatDoor
set_option linter.unusedSimpArgs false
set_option linter.unusedVariables false
open Go.Fw
theorem same_go {α:Type} (d:α) (b:List α) (e:α->α->Bool) (he:∀ x y,e x y=true ↔ x=y) (G:List α->Nat->Bool) (h0:∀ i,G [] i=true) (h1:∀ x r i,G (x :: r) i=bif !(e x (b.getD i d)) then false else G r (i+1)) :
  ∀ (l:List α) (i:Nat),i+l.length=b.length->(G l i=true ↔ l=b.drop i)
 | [],i,h=>by
  rw [h0,Qp0 (by simp at h;omega)]
  simp
 | x :: r,i,h=>by
  have hi:i<b.length:=by simp at h;omega
  rw [h1,Qo0 d hi]
  cases hx:e x (b.getD i d) with
  | false =>
   have hne:x ≠ b.getD i d:=fun hq=>by rw [(he _ _).2 hq] at hx;cases hx
   simp only [Bool.not_false,cond_true]
   exact ⟨fun h=>(nomatch h),fun h=>absurd (List.cons.inj h).1 hne⟩
  | true =>
   have hq:=(he _ _).1 hx
   have:=same_go d b e he G h0 h1 r (i+1) (by simp at h ⊢;omega)
   simp only [Bool.not_true,cond_false]
   rw [this,hq]
   simp
theorem Qv8 {α:Type} (d:α) (a b:List α) (e:α->α->Bool) (he:∀ x y,e x y=true ↔ x=y) (G:List α->Nat->Bool) (h0:∀ i,G [] i=true) (h1:∀ x r i,G (x :: r) i=bif !(e x (b.getD i d)) then false else G r (i+1)) :
  (bif ((a.length:Int)!=(b.length:Int)) then false else G a 0)=true ↔ a=b:=by
 cases hl:((a.length:Int)!=(b.length:Int)) with
 | true =>
  have:(a.length:Int) ≠ (b.length:Int):=by simpa using hl
  simp only [cond_true]
  refine ⟨fun h=>(nomatch h),fun h=>?_⟩
  subst h
  exact absurd rfl this
 | false =>
  have h:(a.length:Int)=(b.length:Int):=by simpa using hl
  simp only [cond_false]
  have:=same_go d b e he G h0 h1 a 0 (by omega)
  simpa using this
theorem QP9 (a b:ByteArray):(ByteArray.toList a==ByteArray.toList b)=true ↔ a=b:=by
 rw [beq_iff_eq,ByteArray.toList_eq,ByteArray.toList_eq]
 refine ⟨fun h=>?_,fun h=>by rw [h]⟩
 exact ByteArray.ext (Array.toList_inj.1 h)
theorem bytes_inj2 (a b:ByteArray):ByteArray.toList a=ByteArray.toList b ↔ a=b:=by
 rw [← QP9,beq_iff_eq]
theorem bytes_beq (a b:ByteArray):(a==b)=true ↔ a=b:=by
 cases a with|mk a=>cases b with|mk b =>
 show (a==b)=true ↔ ByteArray.mk a=ByteArray.mk b
 simp
theorem equal_Alt (a b:List Alt):QW6 a b=true ↔ a=b :=
 Qv8 Alt.zero a b (fun x y=>((x.nodes==y.nodes)&&(x.wall==y.wall))) (fun x y=>by cases x;cases y;simp) (Qy5 b) (fun _=>rfl) (fun _ _ _=>rfl)
theorem equal_Dep (a b:List Dep):QX6 a b=true ↔ a=b :=
 Qv8 Dep.zero a b (fun x y=>((x.how==y.how)&&(x.job==y.job))) (fun x y=>by cases x;cases y;simp) (Qz5 b) (fun _=>rfl) (fun _ _ _=>rfl)
theorem shape_same (a b:Shape):Qea a b=true ↔ a=b:=by
 cases a;cases b
 simp only [Qea,Bool.and_eq_true,beq_iff_eq,equal_Alt,Shape.mk.injEq]
 grind
theorem ref12_same (a b:List Node):QLb a b=true ↔ a=b :=
 Qv8 Node.zero a b (fun x y=>((x.state==y.state)&&((x.job==y.job)&&((x.epoch==y.epoch)&&((x.drain==y.drain)&&((x.want==y.want)&&((x.since==y.since)&&(x.asked==y.asked)))))))) (fun x y=>by cases x;cases y;simp) (QK8 b) (fun _=>rfl) (fun _ _ _=>rfl)
theorem ref19_same (a b:List Book):QOb a b=true ↔ a=b :=
 Qv8 Book.zero a b (fun x y=>((x.id==y.id)&&((x.from_==y.from_)&&((x.to==y.to)&&(x.nodes==y.nodes))))) (fun x y=>by cases x;cases y;simp) (QM8 b) (fun _=>rfl) (fun _ _ _=>rfl)
theorem Qpe (a b:List Resize):Qw6 a b=true ↔ a=b :=
 Qv8 Resize.zero a b (fun x y=>((x.job==y.job)&&((x.grow==y.grow)&&((x.nodes==y.nodes)&&((x.said==y.said)&&(x.since==y.since)))))) (fun x y=>by cases x;cases y;simp) (QW4 b) (fun _=>rfl) (fun _ _ _=>rfl)
theorem ref17_same (a b:List Usage):QNb a b=true ↔ a=b :=
 Qv8 Usage.zero a b (fun x y=>!((((!(ByteArray.toList x.user==ByteArray.toList y.user))||(!(ByteArray.toList x.account==ByteArray.toList y.account)))||(x.used != y.used))||(x.share != y.share)))
  (fun x y=>by
   have b1:=QP9 x.user y.user
   have b2:=QP9 x.account y.account
   cases x;cases y
   simp only at b1 b2
   simp only [Bool.not_eq_true',Bool.or_eq_false_iff,Bool.not_eq_false',b1,b2,bne_eq_false_iff_eq,Usage.mk.injEq]
   grind) (QH7 b) (fun _=>rfl) (fun _ _ _=>by rw [QH7,Bool.not_not])
theorem ref07_sameAlts (a b:List Alt):Qc8 a b=true ↔ a=b :=
 Qv8 Alt.zero a b (fun x y=>!((x.nodes != y.nodes)||(x.wall != y.wall))) (fun x y=>by cases x;cases y;simp) (Qa5 b) (fun _=>rfl) (fun _ _ _=>by rw [Qa5,Bool.not_not])
theorem ref07_same (a b:Shape):QY7 a b=true ↔ a=b:=by
 cases a;cases b
 simp only [QY7,Bool.and_eq_true,beq_iff_eq,ref07_sameAlts,Shape.mk.injEq]
 grind
theorem QJd (a b:Job):∀ (l:List Dep) (i:Nat),i+l.length=b.after.length->(ref14_Same_g1 a b l i=true ↔ (l=b.after.drop i∧ref14_Same_g1 a b [] 0=true))
 | [],i,h=>by
  rw [Qp0 (by simp at h;omega)]
  simp [ref14_Same_g1]
 | x :: r,i,h=>by
  have hi:i<b.after.length:=by simp at h;omega
  rw [ref14_Same_g1.eq_2,Qo0 Dep.zero hi]
  have ih:=QJd a b r (i+1) (by simp at h ⊢;omega)
  cases hx:((x.how==(b.after.getD i Dep.zero).how)&&(x.job==(b.after.getD i Dep.zero).job)) with
  | false =>
   have hne:x ≠ b.after.getD i Dep.zero:=fun hq=>by rw [hq] at hx;simp at hx
   simp only [Bool.not_false,cond_true]
   exact ⟨fun h=>(nomatch h),fun h=>absurd (List.cons.inj h.1).1 hne⟩
  | true =>
   have hq:x=b.after.getD i Dep.zero:=by
    revert hx
    cases x;cases (b.after.getD i Dep.zero)
    simp
   simp only [Bool.not_true,cond_false]
   rw [ih,hq]
   simp
theorem ref14_same (a b:Job):QS8 a b=true ↔ a=b:=by
 unfold QS8
 cases hl:((a.after.length:Int)!=(b.after.length:Int)) with
 | true =>
  have:(a.after.length:Int) ≠ (b.after.length:Int):=by simpa using hl
  simp only [Bool.true_or,cond_true]
  exact ⟨fun h=>(nomatch h),fun h=>absurd (by rw [h]) this⟩
 | false =>
  have hl':(a.after.length:Int)=(b.after.length:Int):=by simpa using hl
  cases h1:QY7 a.shape b.shape with
  | false =>
   have:a.shape ≠ b.shape:=fun h=>by rw [(ref07_same _ _).2 h] at h1;cases h1
   simp only [Bool.not_false,Bool.or_true,cond_true]
   exact ⟨fun h=>(nomatch h),fun h=>absurd (by rw [h]) this⟩
  | true =>
   have e1:=(ref07_same _ _).1 h1
   simp only [Bool.not_true,Bool.or_false,cond_false]
   rw [QJd a b a.after 0 (by omega)]
   simp only [ref14_Same_g1,List.drop_zero,Bool.and_eq_true,beq_iff_eq,bytes_inj2]
   cases a;cases b
   simp only at e1
   simp only [Job.mk.injEq]
   grind
theorem ref15_same (a b:List Job):QMb a b=true ↔ a=b :=
 Qv8 Job.zero a b QS8 ref14_same (QL8 b) (fun _=>rfl) (fun _ _ _=>rfl)
theorem ref25_same (a b:State):Q08 a b=true ↔ a=b:=by
 cases a;cases b
 simp only [Q08,Bool.and_eq_true,beq_iff_eq,ref12_same,ref15_same,Qpe,ref19_same,ref17_same,State.mk.injEq]
 grind
end Go.Proofs.YtgjcljceccfgjaaGreatDoor
namespace Go.Proofs.YtgjcljceccfgjaaGreatDoor
set_option linter.unusedSimpArgs false
set_option linter.unusedVariables false
open Go.Fw
theorem QC8 {s:State} (h:QH3 s=0):QI1 s.nodes=0∧QR4 s.jobs=0:=by
 unfold QH3 at h
 cases h1:(Qm5 s != 0) with
 | true=>rw [h1] at h;cases h
 | false =>
  have hr:Qm5 s=0:=by simpa using h1
  unfold Qm5 at hr
  cases h2:(((((decide (s.now<0))||(decide (s.now > 1000000)))||((QI1 s.nodes)!=0))||((QR4 s.jobs)!=0))||((QD5 s.books)!=0)) with
  | true=>rw [h2] at hr;cases hr
  | false =>
   obtain ⟨h3,_⟩:=or_f h2
   obtain ⟨h4,h5⟩:=or_f h3
   obtain ⟨_,h6⟩:=or_f h4
   exact ⟨by simpa using h6,by simpa using h5⟩
theorem check_held (s:State) (a b:Int) (c:List (Int × Job)):∀ (l:List Resize) (i:Nat) (c2:List (Int × Resize)),Qt2 s a b c l i c2=0 ->
  c.all (fun (en:Int × Job)=>(bif ((QG3 s.nodes en.1)!=en.2.nodes) then false else true))=true
 | [],i,c2,h=>by
  rw [Qt2] at h
  cases h1:((((!true)||(!(QF1 s.nextJob a)))||(!(QF1 s.nextBook b)))||(!(QN3 s c c2))) with
  | true=>rw [h1] at h;cases h
  | false =>
   rw [h1] at h
   simp only [cond_false] at h
   cases h2:c.all (fun (en:Int × Job)=>(bif ((QG3 s.nodes en.1)!=en.2.nodes) then false else true)) with
   | true=>rfl
   | false=>rw [h2] at h;cases h
 | x :: r,i,c2,h=>by
  rw [Qt2] at h
  cases h1:(((!(getM x.job c).isSome)||((decide ((i:Int) > 0))&&(decide ((s.resizes.getD (Int.toNat (w64 ((i:Int) - 1))) Resize.zero).job >= x.job))))||(!(Q44 s x ((getM x.job c).getD Job.zero)))) with
  | true=>rw [h1] at h;cases h
  | false =>
   rw [h1] at h
   exact check_held s a b c r (i+1) _ h
theorem setM_mem {α β:Type} [BEq α] [LawfulBEq α] (k:α) (v:β):∀ l:List (α × β),(k,v) ∈ setM k v l
 | []=>by simp [setM]
 | p :: r=>by
  rw [setM]
  cases hk:k==p.1 with
  | true=>simp
  | false=>simp [setM_mem k v r]
theorem setM_keep {α β:Type} [BEq α] [LawfulBEq α] (k k':α) (v v':β) (hne:k ≠ k'):∀ l:List (α × β),(k,v) ∈ l->(k,v) ∈ setM k' v' l
 | [],h=>nomatch h
 | p :: r,h=>by
  rw [setM]
  cases hk:k'==p.1 with
  | true =>
   have e:=eq_of_beq hk
   rcases List.mem_cons.1 h with h|h
   ·exact absurd (by rw [e,← h]) hne
   ·exact List.mem_cons_of_mem _ h
  | false =>
   rcases List.mem_cons.1 h with h|h
   ·rw [← h];exact List.mem_cons_self ..
   ·exact List.mem_cons_of_mem _ (setM_keep k k' v v' hne r h)
theorem Qa7 (x:Job):∀ (l:List Job) (i:Nat) (c:List (Int × Job)),((x.id,x) ∈ c∧(∀ y ∈ l,y.id ≠ x.id))∨(x ∈ l∧x.state=2∧l.Pairwise (fun a b=>a.id<b.id))->(x.id,x) ∈ QQ0 l i c
 | [],i,c,h=>by
  rcases h with ⟨h,_⟩|⟨h,_⟩
  ·exact h
  ·exact nomatch h
 | y :: r,i,c,h=>by
  rw [QQ0]
  rcases h with ⟨h,hn⟩|⟨h,hs,hp⟩
  ·have hy:=hn y (List.mem_cons_self ..)
   cases (y.state==2) with
   | true=>exact Qa7 x r (i+1) _ (.inl ⟨setM_keep _ _ _ _ (Ne.symm hy) c h,fun z hz=>hn z (List.mem_cons_of_mem _ hz)⟩)
   | false=>exact Qa7 x r (i+1) _ (.inl ⟨h,fun z hz=>hn z (List.mem_cons_of_mem _ hz)⟩)
  ·obtain ⟨h1,h2⟩:=List.pairwise_cons.1 hp
   rcases List.mem_cons.1 h with rfl|h
   ·rw [beq_iff_eq.2 hs]
    exact Qa7 x r (i+1) _ (.inl ⟨setM_mem _ _ c,fun z hz=>by have:=h1 z hz;omega⟩)
   ·cases (y.state==2) with
    | true=>exact Qa7 x r (i+1) _ (.inr ⟨h,hs,h2⟩)
    | false=>exact Qa7 x r (i+1) _ (.inr ⟨h,hs,h2⟩)
theorem table_rows (l:List Job) (hn:l.length<=40):∀ (r:List Job) (i:Nat),r=l.drop i->i+r.length=l.length->QU5 l r i=0 ->
  (∀ x ∈ r,QA3 x=0)∧r.Pairwise (fun a b=>a.id<b.id)∧(∀ y,0<i->l[i - 1]? = some y -> ∀ x ∈ r,y.id<x.id)
 | [],i,_,_,_=>⟨fun x hx=>(nomatch hx),.nil,fun _ _ _ x hx=>(nomatch hx)⟩
 | x :: r,i,hr,hlen,h=>by
  simp only [List.length_cons] at hlen
  rw [QU5] at h
  cases h1:(((QA3 x)!=0)||((decide ((i:Int) > 0))&&(decide ((l.getD (Int.toNat (w64 ((i:Int) - 1))) Job.zero).id >= x.id)))) with
  | true=>rw [h1] at h;cases h
  | false =>
   rw [h1] at h
   obtain ⟨h2,h3⟩:=or_f h1
   have hx:QA3 x=0:=by simpa using h2
   have hi:l[i]? = some x:=by
    have:=congrArg (fun q=>q[0]?) hr
    simpa [List.getElem?_drop] using this.symm
   have hr':r=l.drop (i+1):=by rw [← List.drop_drop,← hr];rfl
   obtain ⟨ih1,ih2,ih3⟩:=table_rows l hn r (i+1) hr' (by omega) h
   have hxr:∀ z ∈ r,x.id<z.id:=ih3 x (by omega) hi
   refine ⟨fun z hz=>?_,List.pairwise_cons.2 ⟨hxr,ih2⟩,fun y hi0 hy z hz=>?_⟩
   ·rcases List.mem_cons.1 hz with rfl|hz
    ·exact hx
    ·exact ih1 z hz
   ·have hyx:y.id<x.id:=by
     have hw:w64 ((i:Int) - 1)=(i:Int) - 1:=wr (by omega)
     have ht:Int.toNat ((i:Int) - 1)=i - 1:=by omega
     have hg:l.getD (i - 1) Job.zero=y:=by simp [List.getD,hy]
     rw [hw,ht,hg] at h3
     simp at h3
     omega
    rcases List.mem_cons.1 hz with rfl|hz
    ·exact hyx
    ·exact Int.lt_trans hyx (hxr z hz)
theorem QHb {j:Job} (h:QA3 j=0):1<=j.id∧j.id<=99999:=by
 unfold QA3 at h
 cases h1:((((((decide (j.id<1))||(decide (j.id > 99999)))||(!(QL2 j.born)))||(j.used != (Qo4 j.used)))||((QY4 (Qr0 j))!=0))||(QH0 j.after (fun (y:Dep)=>(decide (y.job >= j.id))))) with
 | true=>rw [h1] at h;cases h
 | false =>
  obtain ⟨h2,_⟩:=or_f h1
  obtain ⟨h3,_⟩:=or_f h2
  obtain ⟨h4,_⟩:=or_f h3
  obtain ⟨h5,_⟩:=or_f h4
  simp at h5
  omega
theorem QKe {l:List Job} (h:l.Pairwise (fun a b=>a.id<b.id)):∀ (a b:Nat) (x y:Job),a<b->l[a]? = some x->l[b]? = some y->x.id<y.id:=by
 intro a b x y hab ha hb
 obtain ⟨ha1,rfl⟩:=List.getElem?_eq_some_iff.1 ha
 obtain ⟨hb1,rfl⟩:=List.getElem?_eq_some_iff.1 hb
 exact List.pairwise_iff_getElem.1 h a b ha1 hb1 hab
theorem QTc {l:List Job} (h:QR4 l=0):l.length<=40∧(∀ x ∈ l,QA3 x=0)∧l.Pairwise (fun a b=>a.id<b.id):=by
 unfold QR4 at h
 cases h1:(decide ((l.length:Int) > 40)) with
 | true=>rw [h1] at h;cases h
 | false =>
  rw [h1] at h
  have h2:=of_decide_eq_false h1
  obtain ⟨a,b,_⟩:=table_rows l (by omega) l 0 (by simp) (by omega) h
  exact ⟨by omega,a,b⟩
section
variable {s:State}
theorem check_parts (h:Qm1 s=0):QH3 s=0 ∧ ∀ x ∈ s.jobs,x.state=2->QG3 s.nodes x.id=x.nodes:=by
 have h0:=h
 unfold Qm1 at h
 cases h1:(QH3 s != 0) with
 | true=>rw [h1] at h;cases h
 | false =>
  rw [h1] at h
  have hp:QH3 s=0:=by simpa using h1
  refine ⟨hp,fun x hx hs=>?_⟩
  obtain ⟨_,_,ho⟩:=QTc (QC8 hp).2
  have hall:=check_held s _ _ _ _ _ _ h
  have hm:=Qa7 x s.jobs 0 [] (.inr ⟨hx,hs,ho⟩)
  have:=List.all_eq_true.1 hall _ hm
  simp only at this
  cases hq:(QG3 s.nodes x.id != x.nodes) with
  | false=>simpa using hq
  | true=>rw [hq] at this;cases this
end
end Go.Proofs.YtgjcljceccfgjaaGreatDoor
namespace Go.Proofs.YtgjcljceccfgjaaGreatDoor
set_option linter.unusedSimpArgs false
set_option linter.unusedVariables false
open Go.Fw
theorem QZ9 {α:Type} (f:α->Bool) (G:List α->Nat->Int) (h0:∀ i,G [] i = -1) (h1:∀ x r i,G (x :: r) i=bif f x then (i:Int) else G r (i+1)):∀ (l:List α) (i:Nat),decide (G l i >= 0)=l.any f
 | [],i=>by rw [h0];rfl
 | x :: r,i=>by
  rw [h1,List.any_cons]
  cases f x with
  | true=>simp
  | false=>simpa using QZ9 f G h0 h1 r (i+1)
theorem any_Node (l:List Node) (f:Node->Bool):QE1 l f=l.any f:=QZ9 f _ (fun _=>rfl) (fun _ _ _=>rfl) l 0
theorem any_Alt (l:List Alt) (f:Alt->Bool):Qb1 l f=l.any f:=QZ9 f _ (fun _=>rfl) (fun _ _ _=>rfl) l 0
theorem any_Dep (l:List Dep) (f:Dep->Bool):QH0 l f=l.any f:=QZ9 f _ (fun _=>rfl) (fun _ _ _=>rfl) l 0
theorem contains_int (l:List Int) (v:Int):Qp2 l v=l.any (fun x=>v==x):=QZ9 (fun x=>v==x) _ (fun _=>rfl) (fun _ _ _=>rfl) l 0
theorem fine_eq (x:Node):Q02 x=Q94 x:=by
 unfold Q02 Q94
 simp only [contains_int,QT9,List.any_cons,List.any_nil]
 obtain ⟨st,jb,ep,dr,wa,si,as_⟩:=x
 dsimp only
 by_cases h0:st=0
 ·subst h0;grind
 by_cases h1:st=1
 ·subst h1;grind
 by_cases h2:st=2
 ·subst h2;grind
 by_cases h3:st=3
 ·subst h3;grind
 by_cases h4:st=4
 ·subst h4;grind
 grind
theorem loop_all {α:Type} (f:α->Bool) (e:Int) (he:e ≠ 0) (G:List α->Nat->Int) (h0:∀ i,G [] i=0) (h1:∀ x r i,G (x :: r) i=bif !(f x) then e else G r (i+1)):∀ (l:List α) (i:Nat),G l i=bif l.any (fun x=>!(f x)) then e else 0
 | [],i=>h0 i
 | x :: r,i=>by
  rw [h1,List.any_cons]
  cases f x with
  | true=>simpa using loop_all f e he G h0 h1 r (i+1)
  | false=>rfl
theorem Qac (l:List Node):QI1 l=Qe6 l:=by
 unfold QI1 Qe6
 rw [any_Node,loop_all Q94 120 (by decide) Qg8 (fun _=>rfl) (fun _ _ _=>rfl)]
 have e:(fun y=>!(Q02 y))=(fun y=>!(Q94 y)):=by funext y;rw [fine_eq]
 rw [e]
 have e2:decide ((l.length:Int)<1)=((l.length:Int)==0):=by
  rw [Bool.eq_iff_iff]
  simp only [decide_eq_true_eq,beq_iff_eq]
  omega
 rw [e2]
 cases ((l.length:Int)==0) <;> cases (decide ((l.length:Int) > 48)) <;> cases l.any (fun y=>!(Q94 y)) <;> rfl
theorem ord_eq {α:Type} (d:α) (key:α->Int) (bad:α->Bool) (e:Int) (N:Nat) (l:List α) (hl:l.length<=4294967296) (GP:List α->Nat->Int) (GR:List α->Int->Nat->Int)
  (p0:∀ i,GP [] i=0) (p1:∀ x ∈ l,∀ r i,GP (x :: r) i=bif bad x||(decide ((i:Int) > 0)&&decide (key (l.getD (Int.toNat (w64 ((i:Int) - 1))) d) >= key x)) then e else GP r (i+1))
  (r0:∀ last i,GR [] last i=0) (r1:∀ x ∈ l,∀ r last i,0<=last->GR (x :: r) last i=bif ((i:Int)==(N:Int))||bad x||decide (key x<=last) then e else GR r (key x) (i+1))
  (hb:∀ x,bad x=false->key x >= 1):∀ (r:List α) (i:Nat) (last:Int),r=l.drop i->i+r.length=l.length->i<=N->(i=0->last=0)->(0<i -> ∃ y,l[i - 1]? = some y∧last=key y∧key y >= 1)->(bif decide (l.length > N) then e else GP r i)=GR r last i
 | [],i,last,hr,hlen,hN,_,_=>by
  simp only [List.length_nil,Nat.add_zero] at hlen
  rw [p0,r0,decide_eq_false (by omega)]
  rfl
 | x :: r,i,last,hr,hlen,hN,hl0,hl1=>by
  simp only [List.length_cons] at hlen
  have hi:l[i]? = some x:=by
   have:=congrArg (fun q=>q[0]?) hr
   simpa [List.getElem?_drop] using this.symm
  have hx:x ∈ l:=List.mem_of_getElem? hi
  have hr':r=l.drop (i+1):=by rw [← List.drop_drop,← hr];rfl
  have hlast:0<=last:=by
   rcases Nat.eq_zero_or_pos i with h|h
   ·rw [hl0 h];exact Int.le_refl 0
   ·obtain ⟨y,_,e,h⟩:=hl1 h;omega
  have hord:bad x=false->(decide ((i:Int) > 0)&&decide (key (l.getD (Int.toNat (w64 ((i:Int) - 1))) d) >= key x))=decide (key x<=last):=by
   intro hbx
   have hk:=hb x hbx
   rcases Nat.eq_zero_or_pos i with h|h
   ·subst h
    rw [hl0 rfl,decide_eq_false (show ¬ ((0:Nat):Int) > 0 by omega),decide_eq_false (show ¬ key x<=0 by omega)]
    rfl
   ·obtain ⟨y,hy,e,_⟩:=hl1 h
    have hw:w64 ((i:Int) - 1)=(i:Int) - 1:=wr (by omega)
    have ht:Int.toNat ((i:Int) - 1)=i - 1:=by omega
    have hg:l.getD (i - 1) d=y:=by simp [List.getD,hy]
    rw [hw,ht,hg,decide_eq_true (show (i:Int) > 0 by omega),e]
    rfl
  rw [p1 x hx,r1 x hx r last i hlast]
  cases hbx:bad x with
  | true =>
   simp only [Bool.true_or,Bool.or_true,cond_true]
   cases decide (l.length > N) <;> rfl
  | false =>
   rw [hord hbx]
   simp only [Bool.false_or,Bool.or_false]
   cases hk:decide (key x<=last) with
   | true =>
    simp only [Bool.or_true,cond_true]
    cases decide (l.length > N) <;> rfl
   | false =>
    simp only [Bool.or_false,cond_false]
    rcases Nat.lt_or_ge i N with h|h
    ·have:((i:Int)==(N:Int))=false:=by simp;omega
     rw [this]
     simp only [cond_false]
     exact ord_eq d key bad e N l hl GP GR p0 p1 r0 r1 hb r (i+1) (key x) hr' (by omega) (by omega) (by omega) (fun _=>⟨x,by simpa using hi,rfl,hb x hbx⟩)
    ·have:((i:Int)==(N:Int))=true:=by simp;omega
     rw [this,decide_eq_true (show l.length > N by omega)]
     rfl
theorem book_Check_eq (l:List Book) (hl:l.length<=4294967296):QD5 l=Qi9 l:=by
 have h:=ord_eq Book.zero (·.id) (fun b=>!(Qm7 b)) 190 8 l hl (Qp6 l) QL6 (fun _=>rfl) (fun _ _ _ _=>rfl) (fun _ _=>rfl) (fun x _ r last i hlast=>by
   rw [QL6]
   congr 1
   unfold Qm7
   grind) (fun x hx=>by
   unfold Qm7 at hx
   simp at hx
   omega) l 0 0 (by simp) (by omega) (by omega) (fun _=>rfl) (fun h=>absurd h (by omega))
 unfold QD5 Qi9
 rw [← h]
 have e:decide ((l.length:Int) > 8)=decide (l.length > 8):=by rw [Bool.eq_iff_iff];simp only [decide_eq_true_eq];omega
 rw [e]
end Go.Proofs.YtgjcljceccfgjaaGreatDoor
namespace Go.Proofs.YtgjcljceccfgjaaGreatDoor
set_option linter.unusedSimpArgs false
set_option linter.unusedVariables false
open Go.Fw
theorem order_eq (a b:Usage):decide (Qh7 a b >= 0) = !(QZ7 a b):=by
 unfold Qh7 QZ7 QBb Qg1 Qq4
 simp only [beq_self_eq_true,Bool.not_true,cond_false]
 generalize Op.bytesLess (ByteArray.toList a.user) (ByteArray.toList b.user)=lu
 generalize (ByteArray.toList a.user==ByteArray.toList b.user)=eu
 generalize Op.bytesLess (ByteArray.toList a.account) (ByteArray.toList b.account)=la
 generalize (ByteArray.toList a.account==ByteArray.toList b.account)=ea
 revert lu eu la ea
 decide
theorem ledger_go (l:List Usage) (hl:l.length<=4294967296):∀ (r:List Usage) (i:Nat),i+r.length=l.length->i<=200->(bif decide (l.length > 200) then 2 else Qe4 l r i)=QK6 l r i
 | [],i,hlen,hi=>by
  simp only [List.length_nil,Nat.add_zero] at hlen
  rw [decide_eq_false (by omega)]
  rfl
 | x :: r,i,hlen,hi=>by
  simp only [List.length_cons] at hlen
  rw [Qe4,QK6,order_eq]
  have e1:(((((!(QI3 x.user))||(!(QI3 x.account)))||(x.used != (Qo4 x.used)))||(decide (x.share<0)))||(decide (x.share > x.used)))=((((((!(Qa4 x.user))||(!(Qa4 x.account)))||(decide (x.used<0)))||(decide (x.used > 1000000000000)))||(decide (x.share<0)))||(decide (x.share > x.used))):=by
   unfold QI3 Qa4 Qo4 QR5
   grind
  have e2:(((((((i:Int)==200)||(!(Qa4 x.user)))||(!(Qa4 x.account)))||(decide (x.used<0)))||(decide (x.used > 1000000000000)))||(decide (x.share<0)))=(((i:Int)==200)||(((((!(Qa4 x.user))||(!(Qa4 x.account)))||(decide (x.used<0)))||(decide (x.used > 1000000000000)))||(decide (x.share<0)))):=by
   simp only [Bool.or_assoc]
  rw [e1,e2]
  rcases Nat.lt_or_ge i 200 with h|h
  ·have hh:((i:Int)==200)=false:=by simp;omega
   rw [hh,Bool.false_or,← ledger_go l hl r (i+1) (by omega) (by omega)]
   generalize ((((((!(Qa4 x.user))||(!(Qa4 x.account)))||(decide (x.used<0)))||(decide (x.used > 1000000000000)))||(decide (x.share<0)))||(decide (x.share > x.used)))=p
   generalize ((decide ((i:Int) > 0))&&(!(QZ7 (l.getD (Int.toNat (w64 ((i:Int) - 1))) Usage.zero) x)))=q
   cases p <;> cases q <;> cases decide (l.length > 200) <;> rfl
  ·have hh:((i:Int)==200)=true:=by simp;omega
   rw [hh,decide_eq_true (show l.length > 200 by omega)]
   rfl
theorem QZf (l:List Usage) (hl:l.length<=4294967296):QY3 l=Qh9 l:=by
 unfold QY3 Qh9
 rw [← ledger_go l hl l 0 (by omega) (by omega)]
 have e:decide ((l.length:Int) > 200)=decide (l.length > 200):=by rw [Bool.eq_iff_iff];simp only [decide_eq_true_eq];omega
 rw [e]
theorem g3_any (x:Alt):∀ (l:List Alt) (k:Nat),(QI4 x l k).isLeft=l.any (fun y=>x.nodes==y.nodes) ∧ ∀ v,QI4 x l k=Sum.inl v->v=70
 | [],k=>⟨rfl,fun v h=>by cases h⟩
 | y :: r,k=>by
  rw [QI4,List.any_cons]
  cases (x.nodes==y.nodes) with
  | true=>exact ⟨rfl,fun v h=>by cases h;rfl⟩
  | false=>exact g3_any x r (k+1)
def okAlt (a:Alt):Bool:=Qb2 a.nodes&&Qt3 a.wall
theorem g2_eq (s:Shape):∀ (r:List Alt) (i:Nat),r=s.alts.drop i->(Qa1 s r i=0 ↔ (∀ x ∈ r,okAlt x=true)∧r.Pairwise (fun a b=>a.nodes ≠ b.nodes))∧(Qa1 s r i=0∨Qa1 s r i=70)
 | [],i,_=>⟨⟨fun _=>⟨fun x hx=>(nomatch hx),.nil⟩,fun _=>rfl⟩,.inl rfl⟩
 | x :: r,i,hr=>by
  have hr':r=s.alts.drop (i+1):=by rw [← List.drop_drop,← hr];rfl
  obtain ⟨ih,ih2⟩:=g2_eq s r (i+1) hr'
  rw [Qa1,← hr']
  cases hf:((!(Qb2 x.nodes))||(!(Qt3 x.wall))) with
  | true =>
   refine ⟨⟨fun h=>(by cases h),fun h=>?_⟩,.inr rfl⟩
   have:=h.1 x (List.mem_cons_self ..)
   unfold okAlt at this
   simp at this hf
   rcases hf with h|h <;> simp_all
  | false =>
   have hok:okAlt x=true:=by unfold okAlt;simp at hf;simp [hf]
   obtain ⟨h1,h2⟩:=g3_any x r (i+1)
   simp only [cond_false]
   cases hg:QI4 x r (i+1) with
   | inl v =>
    have hv:=h2 v hg
    subst hv
    rw [hg] at h1
    refine ⟨⟨fun h=>(by cases h),fun h=>?_⟩,.inr rfl⟩
    obtain ⟨y,hy,he⟩:=List.any_eq_true.1 h1.symm
    exact absurd (eq_of_beq he) ((List.pairwise_cons.1 h.2).1 y hy)
   | inr v =>
    rw [hg] at h1
    show (Qa1 s r (i+1)=0 ↔ _)∧(Qa1 s r (i+1)=0∨Qa1 s r (i+1)=70)
    refine ⟨ih.trans ⟨fun h=>⟨fun y hy=>?_,List.pairwise_cons.2 ⟨fun y hy e=>?_,h.2⟩⟩,fun h=>⟨fun y hy=>h.1 y (List.mem_cons_of_mem _ hy),(List.pairwise_cons.1 h.2).2⟩⟩,ih2⟩
    ·rcases List.mem_cons.1 hy with rfl|hy
     ·exact hok
     ·exact h.1 y hy
    ·have:=(List.any_eq_true (p:=fun y:Alt=>x.nodes==y.nodes)).2 ⟨y,hy,beq_iff_eq.2 e⟩
     rw [← h1] at this
     cases this
theorem apart_iff (l:List Alt):∀ (r:List Alt) (i:Nat),r=l.drop i->(QP6 l r i=true ↔ (∀ x ∈ r,∀ y ∈ l.take i,x.nodes ≠ y.nodes)∧r.Pairwise (fun a b=>a.nodes ≠ b.nodes))
 | [],i,_=>⟨fun _=>⟨fun x hx=>(nomatch hx),.nil⟩,fun _=>rfl⟩
 | x :: r,i,hr=>by
  have hr':r=l.drop (i+1):=by rw [← List.drop_drop,← hr];rfl
  have hi:l[i]? = some x:=by
   have:=congrArg (fun q=>q[0]?) hr
   simpa [List.getElem?_drop] using this.symm
  have ht:l.take (i+1)=l.take i++[x]:=by rw [List.take_add_one,hi];rfl
  have ih:=apart_iff l r (i+1) hr'
  rw [QP6,any_Alt]
  cases ha:(List.take i l).any (fun (y:Alt)=>(x.nodes==y.nodes)) with
  | true =>
   refine ⟨fun h=>(by cases h),fun h=>?_⟩
   obtain ⟨y,hy,he⟩:=List.any_eq_true.1 ha
   exact absurd (eq_of_beq he) (h.1 x (List.mem_cons_self ..) y hy)
  | false =>
   have hno:∀ y ∈ l.take i,x.nodes ≠ y.nodes:=fun y hy e=>by
    have:=(List.any_eq_true (p:=fun y:Alt=>x.nodes==y.nodes)).2 ⟨y,hy,beq_iff_eq.2 e⟩
    rw [ha] at this
    cases this
   simp only [cond_false]
   rw [ih,ht]
   constructor
   ·rintro ⟨h1,h2⟩
    refine ⟨fun z hz y hy=>?_,List.pairwise_cons.2 ⟨fun z hz=>?_,h2⟩⟩
    ·rcases List.mem_cons.1 hz with rfl|hz
     ·exact hno y hy
     ·exact h1 z hz y (List.mem_append.2 (.inl hy))
    ·exact Ne.symm (h1 z hz x (List.mem_append.2 (.inr (List.mem_singleton.2 rfl))))
   ·rintro ⟨h1,h2⟩
    obtain ⟨h3,h4⟩:=List.pairwise_cons.1 h2
    refine ⟨fun z hz y hy=>?_,h4⟩
    rcases List.mem_append.1 hy with hy|hy
    ·exact h1 z (List.mem_cons_of_mem _ hz) y hy
    ·rw [List.mem_singleton.1 hy]
     exact Ne.symm (h3 z hz)
theorem fine_ok (a:Alt):Q81 a=okAlt a:=by
 unfold Q81 okAlt Qb2 Qt3
 simp only [Bool.and_assoc]
theorem QJ9 (s:Shape):QV1 s=Q42 s:=by
 unfold QV1 Q42
 by_cases h3:s.kind=3
 ·simp only [h3,beq_self_eq_true,cond_true,Qs2,Q81,Qb2,Qt3]
  have e1:((3:Int)==1)=false:=rfl
  have e2:((3:Int)==2)=false:=rfl
  simp only [e1,e2,cond_false]
  have e0:((s.alts.length:Int)==0) = !(decide ((s.alts.length:Int) > 0)):=by rw [Bool.eq_iff_iff];simp only [beq_iff_eq,Bool.not_eq_true',decide_eq_false_iff_not];omega
  rw [e0]
  congr 1
  grind
 have e3:(s.kind==3)=false:=by simpa using h3
 obtain ⟨q1,q2⟩:=g2_eq s s.alts 0 (by simp)
 have ap:=apart_iff s.alts s.alts 0 (by simp)
 simp only [e3,cond_false]
 by_cases h2:s.kind=2
 ·simp only [h2,beq_self_eq_true,cond_true]
  have e1:((2:Int)==1)=false:=rfl
  simp only [e1,cond_false,QJ5,Qs2,any_Alt,fine_ok]
  have e4:((((((((s.min==0)&&(s.max==0))&&(s.wall==0))&&(decide ((s.alts.length:Int) >= 1)))&&(decide ((s.alts.length:Int)<=6)))&&(Ql6 s.alts))&&(!(s.alts.any (fun (y:Alt)=>(!(okAlt y)))))))=(!(((((decide ((s.alts.length:Int)<1))||(decide ((s.alts.length:Int) > 6)))||(s.min != 0))||(s.max != 0))||(s.wall != 0))&&((Ql6 s.alts)&&(!(s.alts.any (fun (y:Alt)=>(!(okAlt y))))))):=by grind
  have e5:((Ql6 s.alts)&&(!(s.alts.any (fun (y:Alt)=>(!(okAlt y))))))=(Qa1 s s.alts 0==0):=by
   rw [Bool.eq_iff_iff,beq_iff_eq,q1,Bool.and_eq_true]
   unfold Ql6
   rw [ap]
   simp
   grind
  rw [e4,e5]
  cases (((((decide ((s.alts.length:Int)<1))||(decide ((s.alts.length:Int) > 6)))||(s.min != 0))||(s.max != 0))||(s.wall != 0)) with
  | true=>rfl
  | false =>
   rcases q2 with h|h <;> rw [h] <;> rfl
 have e2:(s.kind==2)=false:=by simpa using h2
 by_cases h1:s.kind=1
 ·have e6:((2:Int)==1)=false:=rfl
  simp only [h1,beq_self_eq_true,cond_true]
  have e7:((1:Int)==2)=false:=rfl
  have e8:((1:Int)!=1)=false:=rfl
  simp only [e7,e8,cond_false,QJ5,Qs2,fine_ok]
  match hm:s.alts with
  | []=>rw [hm] at *;cases (s.min==0) <;> cases (s.max==0) <;> cases (s.wall==0) <;> rfl
  | [x] =>
   rw [hm] at q1 q2
   have e9:okAlt x=(Qa1 s [x] 0==0):=by
    rw [Bool.eq_iff_iff,beq_iff_eq,q1]
    simp
   show (bif !(((((s.min==0)&&(s.max==0))&&(s.wall==0))&&true)&&okAlt x) then (70:Int) else 0)=bif ((((false||false)||(s.min != 0))||(s.max != 0))||(s.wall != 0)) then 70 else Qa1 s [x] 0
   rw [e9]
   unfold bne
   cases (s.min==0) <;> cases (s.max==0) <;> cases (s.wall==0) <;> first|rfl|(rcases q2 with h|h <;> rw [h] <;> rfl)
  | x :: y :: r =>
   have l1:((((x :: y :: r).length:Nat):Int)==1)=false:=by simp;omega
   have l2:decide ((((x :: y :: r).length:Nat):Int) > 1)=true:=by simp;omega
   rw [l1,l2]
   simp
 have e1:(s.kind==1)=false:=by simpa using h1
 have e1':(s.kind != 1)=true:=by simpa using h1
 rw [e1,e2,e1']
 rfl
end Go.Proofs.YtgjcljceccfgjaaGreatDoor
namespace Go.Proofs.YtgjcljceccfgjaaGreatDoor
set_option linter.unusedSimpArgs false
set_option linter.unusedVariables false
open Go.Fw
theorem cnt1 (n:Nat) (hn:n<18446744073709551616):wu64 ((wu64 (BitVec.ofInt 64 (Int.fdiv (n:Int) (2 ^ (min (Int.toNat 1) 64))) &&& BitVec.ofInt 64 6148914691236517205).toNat)+(wu64 (BitVec.ofInt 64 (n:Int) &&& BitVec.ofInt 64 6148914691236517205).toNat))=((sw1 n:Nat):Int):=by
 have e1:Int.fdiv (n:Int) (2 ^ (min (Int.toNat 1) 64))=((n / 2 ^ 1:Nat):Int):=Qne n 1 (by decide)
 have h1:n / 2 ^ 1<18446744073709551616:=by omega
 have e2:wu64 (BitVec.ofInt 64 ((n / 2 ^ 1:Nat):Int) &&& BitVec.ofInt 64 6148914691236517205).toNat=(((n / 2 ^ 1) &&& 6148914691236517205:Nat):Int):=Qme (c:=6148914691236517205) h1 (by decide)
 have e3:wu64 (BitVec.ofInt 64 (n:Int) &&& BitVec.ofInt 64 6148914691236517205).toNat=((n &&& 6148914691236517205:Nat):Int):=Qme (c:=6148914691236517205) hn (by decide)
 have l1:=Nat.and_le_right (n:=n / 2 ^ 1) (m:=6148914691236517205)
 have l2:=Nat.and_le_right (n:=n) (m:=6148914691236517205)
 rw [e1,e2,e3]
 exact Qoe (by omega)
theorem cnt2 (n:Nat) (hn:n<18446744073709551616):wu64 ((wu64 (BitVec.ofInt 64 (Int.fdiv (n:Int) (2 ^ (min (Int.toNat 2) 64))) &&& BitVec.ofInt 64 3689348814741910323).toNat)+(wu64 (BitVec.ofInt 64 (n:Int) &&& BitVec.ofInt 64 3689348814741910323).toNat))=((sw2 n:Nat):Int):=by
 have e1:Int.fdiv (n:Int) (2 ^ (min (Int.toNat 2) 64))=((n / 2 ^ 2:Nat):Int):=Qne n 2 (by decide)
 have h1:n / 2 ^ 2<18446744073709551616:=by omega
 have e2:wu64 (BitVec.ofInt 64 ((n / 2 ^ 2:Nat):Int) &&& BitVec.ofInt 64 3689348814741910323).toNat=(((n / 2 ^ 2) &&& 3689348814741910323:Nat):Int):=Qme (c:=3689348814741910323) h1 (by decide)
 have e3:wu64 (BitVec.ofInt 64 (n:Int) &&& BitVec.ofInt 64 3689348814741910323).toNat=((n &&& 3689348814741910323:Nat):Int):=Qme (c:=3689348814741910323) hn (by decide)
 have l1:=Nat.and_le_right (n:=n / 2 ^ 2) (m:=3689348814741910323)
 have l2:=Nat.and_le_right (n:=n) (m:=3689348814741910323)
 rw [e1,e2,e3]
 exact Qoe (by omega)
theorem cnt3 (n:Nat) (hn:n<=7378697629483820646):wu64 (BitVec.ofInt 64 (wu64 ((Int.fdiv (n:Int) (2 ^ (min (Int.toNat 4) 64)))+(n:Int))) &&& BitVec.ofInt 64 1085102592571150095).toNat=((sw3 n:Nat):Int):=by
 have e1:Int.fdiv (n:Int) (2 ^ (min (Int.toNat 4) 64))=((n / 2 ^ 4:Nat):Int):=Qne n 4 (by decide)
 rw [e1,Qoe (by omega)]
 exact Qme (c:=1085102592571150095) (by omega) (by decide)
theorem count_eq {s:Int} (hs:U64 s):QS1 s=((popN 64 s.toNat:Nat):Int):=by
 obtain ⟨n,rfl⟩:∃ n:Nat,s=(n:Int):=⟨s.toNat,by unfold U64 at hs;omega⟩
 have hn:n<18446744073709551616:=by unfold U64 at hs;omega
 have b1:sw1 n<18446744073709551616:=by
  unfold sw1
  have l1:=Nat.and_le_right (n:=n / 2 ^ 1) (m:=6148914691236517205)
  have l2:=Nat.and_le_right (n:=n) (m:=6148914691236517205)
  omega
 have b2:sw2 (sw1 n)<=7378697629483820646:=by
  unfold sw2
  have l1:=Nat.and_le_right (n:=sw1 n / 2 ^ 2) (m:=3689348814741910323)
  have l2:=Nat.and_le_right (n:=sw1 n) (m:=3689348814741910323)
  omega
 obtain ⟨a,b,c,d,e,f,g,h,hx,ha,hb,hc,hd,he,hf,hg,hh,hp⟩:=sw_pop hn
 unfold QS1 QT6 oc3 oc2 oc1
 rw [cnt1 n hn,cnt2 (sw1 n) b1,cnt3 (sw2 (sw1 n)) b2,hx,Int.toNat_natCast,hp]
 obtain ⟨q0,q1,q2,q3⟩:=sum_low ha hb hc hd he hf hg hh _ _ _ rfl rfl rfl
 generalize hX:by8 a b c d e f g h=X at *
 have hXlt:X<9223372036854775808:=by omega
 have s8:Int.fdiv (X:Int) (2 ^ (min (Int.toNat 8) 64))=((X / 256:Nat):Int):=Qne X 8 (by decide)
 rw [s8,Qoe (by omega)]
 generalize hY:X+X / 256=Y at *
 have s16:Int.fdiv (Y:Int) (2 ^ (min (Int.toNat 16) 64))=((Y / 65536:Nat):Int):=Qne Y 16 (by decide)
 rw [s16,Qoe (by omega)]
 generalize hZ:Y+Y / 65536=Z at *
 have s32:Int.fdiv (Z:Int) (2 ^ (min (Int.toNat 32) 64))=((Z / 4294967296:Nat):Int):=Qne Z 32 (by decide)
 rw [s32,Qoe (by omega)]
 generalize hW:Z+Z / 4294967296=W at *
 have hw:w64 (W:Int)=(W:Int):=wr (by omega)
 rw [hw]
 have hm:((BitVec.ofInt 64 (W:Int) &&& BitVec.ofInt 64 127).toNat:Int)=((W &&& 127:Nat):Int):=by
  have:=Qme (n:=W) (c:=127) (by omega) (by decide)
  rw [wu64_bv] at this
  exact this
 rw [hm,Nat.and_two_pow_sub_one_eq_mod W 7]
 show w64 (((W % 128 : Nat)) : Int) = _
 rw [q0]
 exact wr (by omega)
theorem list_len:∀ (m K s:Nat) (out:List Int) (n:Nat),s<m->s<2 ^ K->s<18446744073709551616->(QM2 m (s:Int) out n).2.1.length=out.length+popN K s
 | 0,_,_,_,_,h,_,_=>absurd h (by omega)
 | m+1,K,s,out,n,hm,hK,hs=>by
  rw [QM2]
  rcases Nat.eq_zero_or_pos s with h|h
  ·subst h
   have hz:∀ K,popN K 0=0:=fun K=>by induction K with
    | zero=>rfl
    | succ K ih=>simp [popN,ih]
   rw [hz]
   rfl
  ·obtain ⟨K,rfl⟩:∃ k,K=k+1:=⟨K - 1,by
    rcases K with _|K
    ·simp at hK;omega
    ·rfl⟩
   rw [decide_eq_true (show (s:Int) > 0 by omega)]
   have e1 : Int.tmod (s : Int) 2 = ((s % 2 : Nat) : Int) := rfl
   have e2:Int.tdiv (s:Int) 2=((s / 2:Nat):Int):=rfl
   have e3:wu64 ((s / 2:Nat):Int)=((s / 2:Nat):Int):=QL9 ⟨by omega,by omega⟩
   rw [e1,e2,e3,popN]
   rw [Nat.pow_succ] at hK
   simp only [cond_true]
   rcases Nat.mod_two_eq_zero_or_one s with hb|hb
   ·rw [hb]
    show (QM2 m ((s / 2:Nat):Int) out (n+1)).2.1.length=_
    rw [list_len m K (s / 2) out (n+1) (by omega) (by omega) (by omega)]
    omega
   ·rw [hb]
    show (QM2 m ((s / 2:Nat):Int) (out++[(n:Int)]) (n+1)).2.1.length=_
    rw [list_len m K (s / 2) _ (n+1) (by omega) (by omega) (by omega)]
    simp
    omega
theorem Q9e {s:Int} (hs:U64 s):QS1 s=((QG0 s).length:Int):=by
 rw [count_eq hs]
 obtain ⟨n,rfl⟩:∃ n:Nat,s=(n:Int):=⟨s.toNat,by unfold U64 at hs;omega⟩
 unfold QG0 Qv5
 have hn:n<18446744073709551616:=by unfold U64 at hs;omega
 rw [Int.toNat_natCast,list_len (n+1) 64 n [] 0 (by omega) (by rw [pow64];exact hn) hn]
 simp
end Go.Proofs.YtgjcljceccfgjaaGreatDoor
namespace Go.Proofs.YtgjcljceccfgjaaGreatDoor
set_option linter.unusedSimpArgs false
set_option linter.unusedVariables false
open Go.Fw
theorem QOa (s:Shape) (hw:w64 (s.max - s.min)=s.max - s.min) (h1:1<=s.min) (h2:s.min<=s.max) (h3:s.max<=48):∀ (m:Nat) (out:List Alt) (i:Nat),i<=(s.max - s.min+1).toNat->(s.max - s.min+1).toNat - i<m ->
  (Qr2 s m out i).1=out++(List.range' i ((s.max - s.min+1).toNat - i)).map fun (i:Nat)=>(⟨s.max - (i:Int),s.wall⟩:Alt)
 | 0,_,_,_,h=>absurd h (by omega)
 | m+1,out,i,hi,hm=>by
  rw [Qr2,hw]
  rcases Nat.lt_or_ge i (s.max - s.min+1).toNat with h|h
  ·have e:(s.max - s.min+1).toNat - i=((s.max - s.min+1).toNat - (i+1))+1:=by omega
   have e2:w64 (s.max - (i:Int))=s.max - (i:Int):=wr (by omega)
   rw [decide_eq_true (show (i:Int)<=s.max - s.min by omega),e2]
   simp only [cond_true]
   rw [QOa s hw h1 h2 h3 m _ (i+1) (by omega) (by omega),e,List.range'_succ,List.map_cons,List.append_assoc]
   rfl
  ·rw [decide_eq_false (show ¬ (i:Int)<=s.max - s.min by omega),show (s.max - s.min+1).toNat - i=0 by omega]
   simp
theorem Q4a (s:Shape):Q21 s=QM0 s:=by
 unfold Q21 QM0
 rw [QJ9]
 cases hc:(Q42 s != 0) with
 | true=>rfl
 | false =>
  simp only [cond_false]
  cases hk:(s.kind==3) with
  | false =>
   have:(s.kind != 3)=true:=by unfold bne;rw [hk];rfl
   rw [this]
   rfl
  | true =>
   have hk':(s.kind != 3)=false:=by unfold bne;rw [hk];rfl
   obtain ⟨h1,h2,h3,h4⟩:=Qd9 hc hk'
   have h0:s.alts=[]:=by
    have hk3:s.kind=3:=by simpa using hk
    have hz:Q42 s=0:=by simpa using hc
    unfold Q42 at hz
    simp only [hk3,beq_self_eq_true,cond_true] at hz
    cases hq:(((((decide ((s.alts.length:Int) > 0))||(!(Qb2 s.min)))||(!(Qb2 s.max)))||(decide (s.max<s.min)))||(!(Qt3 s.wall))) with
    | true=>rw [hq] at hz;cases hz
    | false =>
     have:=(or_f (or_f (or_f (or_f hq).1).1).1).1
     have hl:s.alts.length=0:=by have:=of_decide_eq_false this;omega
     exact List.eq_nil_of_length_eq_zero hl
   rw [hk',h0]
   simp only [cond_true,cond_false,List.nil_append,QJ3,Qm6]
   rw [QOa s h4 h1 h2 h3 _ [] 0 (by omega) (by omega),List.range_eq_range']
   rfl
theorem Qsf (s:Shape) (c n:Int):∀ (l:List Alt) (i:Nat),Qa6 s c n l i=true ↔ ∃ (k:Nat) (x:Alt),l[k]? = some x∧x.nodes=n∧(((i+k:Nat):Int)=c∨s.kind=3)
 | [],i=>⟨fun h=>(by cases h),fun ⟨k,x,h,_⟩=>by simp at h⟩
 | y :: r,i=>by
  rw [Qa6]
  cases hc:((y.nodes==n)&&(((i:Int)==c)||(s.kind==3))) with
  | true =>
   simp only [Bool.and_eq_true,Bool.or_eq_true,beq_iff_eq] at hc
   exact ⟨fun _=>⟨0,y,rfl,hc.1,by simpa using hc.2⟩,fun _=>rfl⟩
  | false =>
   simp only [cond_false]
   rw [Qsf s c n r (i+1)]
   constructor
   ·rintro ⟨k,x,h1,h2,h3⟩
    exact ⟨k+1,x,by simpa using h1,h2,by rw [show i+(k+1)=i+1+k by omega];exact h3⟩
   ·rintro ⟨k,x,h1,h2,h3⟩
    rcases k with _|k
    ·simp at h1
     subst h1
     have:((y.nodes==n)&&(((i:Int)==c)||(s.kind==3)))=true:=by
      simp only [Bool.and_eq_true,Bool.or_eq_true,beq_iff_eq]
      exact ⟨h2,by simpa using h3⟩
     rw [hc] at this
     cases this
    ·exact ⟨k,x,by simpa using h1,h2,by rw [show i+1+k=i+(k+1) by omega];exact h3⟩
theorem allows_eq (s:Shape) (c n:Int):Qw8 s c n=Qu8 s c n:=by
 unfold Qw8 Qu8
 rw [Q4a]
 cases hb:((decide (c<0))||(decide (c >= ((QM0 s).length:Int)))) with
 | true=>rfl
 | false =>
  obtain ⟨h1,h2⟩:=or_f hb
  have h1':=of_decide_eq_false h1
  have h2':=of_decide_eq_false h2
  simp only [cond_false]
  obtain ⟨k,rfl⟩:∃ k:Nat,c=(k:Int):=⟨c.toNat,by omega⟩
  have hk:k<(QM0 s).length:=by omega
  rw [Bool.eq_iff_iff,Qsf]
  cases h3:(s.kind==3) with
  | false =>
   have h3':s.kind ≠ 3:=by simpa using h3
   simp only [cond_false,beq_iff_eq,Int.toNat_natCast]
   have hg:(QM0 s)[k]? = some ((QM0 s).getD k Alt.zero):=by simp [List.getD,List.getElem?_eq_getElem hk]
   constructor
   ·intro h
    exact ⟨k,_,hg,h,.inl (by simp)⟩
   ·rintro ⟨j,x,hx,hn,hj⟩
    have:j=k:=by
     rcases hj with hj|hj
     ·omega
     ·exact absurd hj h3'
    subst this
    rw [hg] at hx
    cases hx
    exact hn
  | true =>
   have h3':s.kind=3:=by simpa using h3
   simp only [cond_true,Bool.and_eq_true,decide_eq_true_eq]
   cases hc:(QV1 s != 0) with
   | true =>
    rw [← Q4a] at hk
    unfold Q21 at hk
    rw [hc] at hk
    exact absurd hk (by simp)
   | false =>
    obtain ⟨q1,q2,q3⟩:=Ql9 hc h3
    have h0:Q21 s=s.alts++Qm6 s.min s.max s.wall:=by unfold Q21;rw [hc,h3];rfl
    have ha:s.alts=[]:=by
     have hz:QV1 s=0:=by simpa using hc
     unfold QV1 at hz
     simp only [h3'] at hz
     have e1:((3:Int)==1)=false:=rfl
     have e2:((3:Int)==2)=false:=rfl
     simp only [e1,e2,beq_self_eq_true,cond_false,cond_true,Qs2] at hz
     cases hq:(((((s.alts.length:Int)==0)&&(decide (s.min<=s.max)))&&(Q81 (⟨s.min,s.wall⟩:Alt)))&&(decide (s.max<=48))) with
     | false=>rw [hq] at hz;cases hz
     | true =>
      simp only [Bool.and_eq_true,beq_iff_eq] at hq
      exact List.eq_nil_of_length_eq_zero (by have:=hq.1.1.1;omega)
    rw [← Q4a,h0,ha,List.nil_append]
    unfold Qm6
    constructor
    ·rintro ⟨hl,hu⟩
     exact ⟨(s.max - n).toNat,⟨n,s.wall⟩,by
      rw [List.getElem?_map,List.getElem?_range (by omega)]
      simp
      omega,rfl,.inr h3'⟩
    ·rintro ⟨j,x,hx,hn,_⟩
     rw [List.getElem?_map] at hx
     rcases Nat.lt_or_ge j (s.max - s.min+1).toNat with hj|hj
     ·rw [List.getElem?_range hj] at hx
      simp at hx
      subst hx
      simp only at hn
      omega
     ·rw [List.getElem?_eq_none (by simpa using hj)] at hx
      simp at hx
theorem Q5d (r:Int):QB1 r=Qs0 r:=by
 unfold QB1 Qs0
 grind
theorem runes_Check_eq (s:ByteArray):Qw5 s=Qj4 s:=by
 have:∀ (l:List (Nat × Int)) (n:Nat),QO6 l n=QG6 l n:=by
  intro l
  induction l with
  | nil=>exact fun _=>rfl
  | cons x r ih =>
   intro n
   rw [QO6,QG6,Q5d,ih]
 exact this _ 0
theorem name_eq (s:ByteArray):QS4 s=Q84 s:=by
 unfold QS4 Q84 QZ1
 rw [runes_Check_eq,Bool.and_assoc]
theorem Qwg (l:List Dep) (i:Nat) (x:Dep) (hi:i<=l.length):∀ (m k:Nat),k<=i->i - k<m->(QJ4 l i x m k).isLeft=((l.take i).drop k).any (fun y=>y.job==x.job) ∧ ∀ v,QJ4 l i x m k=Sum.inl v->v=false
 | 0,_,_,h=>absurd h (by omega)
 | m+1,k,hk,hm=>by
  rw [QJ4]
  rcases Nat.lt_or_ge k i with h|h
  ·rw [decide_eq_true (show (k:Int)<(i:Int) by omega)]
   have hkl:k<(l.take i).length:=by rw [List.length_take];omega
   have hd:(l.take i).drop k=(l.getD k Dep.zero) :: (l.take i).drop (k+1):=by
    rw [List.drop_eq_getElem_cons hkl]
    congr 1
    simp [List.getD,List.getElem?_eq_getElem (show k<l.length by omega)]
   rw [hd,List.any_cons]
   simp only [cond_true]
   cases ((l.getD k Dep.zero).job==x.job) with
   | true=>exact ⟨rfl,fun v h=>by cases h;rfl⟩
   | false=>exact Qwg l i x hi m (k+1) (by omega) (by omega)
  ·rw [decide_eq_false (show ¬ (k:Int)<(i:Int) by omega)]
   have:(l.take i).drop k=[]:=List.drop_eq_nil_of_le (by rw [List.length_take];omega)
   rw [this]
   exact ⟨rfl,fun v h=>by cases h⟩
theorem waits_go (l:List Dep):∀ (r:List Dep) (i:Nat),r=l.drop i->i+r.length=l.length->(l.length<=4->QC4 l r i=QK2 l r i)
 | [],i,_,_,h=>by
  rw [QC4,QK2]
  exact decide_eq_true (by omega)
 | x :: r,i,hr,hlen,h=>by
  simp only [List.length_cons] at hlen
  have hr':r=l.drop (i+1):=by rw [← List.drop_drop,← hr];rfl
  have ih:=waits_go l r (i+1) hr' (by omega) h
  obtain ⟨w1,w2⟩:=Qwg l i x (by omega) ((Int.toNat ((i:Int) - (0:Int)))+1) 0 (by omega) (by omega)
  rw [QC4,QK2,any_Dep,ih]
  have e:(!(QZ1 x.how 1 3) || !(QVa x.job))=((!(QC1 x.how 1 3))||(!(QC1 x.job 1 99999))):=rfl
  rw [e]
  rw [List.drop_zero] at w1
  cases ((!(QC1 x.how 1 3))||(!(QC1 x.job 1 99999))) with
  | true=>rfl
  | false =>
   rw [Bool.false_or]
   simp only [cond_false]
   cases hg:QJ4 l i x ((Int.toNat ((i:Int) - (0:Int)))+1) 0 with
   | inl v =>
    have hv:=w2 v hg
    subst hv
    rw [hg] at w1
    rw [← w1]
    rfl
   | inr v =>
    rw [hg] at w1
    rw [← w1]
    rfl
theorem QHf (l:List Dep) (h:4<l.length):∀ (r:List Dep) (i:Nat),QC4 l r i=false
 | [],i=>decide_eq_false (by omega)
 | x :: r,i=>by
  rw [QC4,QHf l h r]
  cases (((!(QZ1 x.how 1 3))||(!(QVa x.job)))||(QH0 (List.take i l) (fun (y:Dep)=>(y.job==x.job)))) <;> rfl
theorem deps_eq (l:List Dep):Qo7 l=Q67 l:=by
 unfold Qo7 Q67
 rcases Nat.lt_or_ge 4 l.length with h|h
 ·rw [QHf l h,decide_eq_true (by omega)]
  rfl
 ·rw [decide_eq_false (by omega)]
  exact waits_go l l 0 (by simp) (by omega) h
end Go.Proofs.YtgjcljceccfgjaaGreatDoor
namespace Go.Proofs.YtgjcljceccfgjaaGreatDoor
set_option linter.unusedSimpArgs false
set_option linter.unusedVariables false
open Go.Fw
def lowB (x:Int):Int:=if 65<=x∧x<=90 then x+32 else x
theorem wu8_id {n:Int} (h:0<=n∧n<256):wu8 n=n:=by
 show n % 256 = n
 omega
theorem lower_go (s:ByteArray):∀ (m i:Nat) (c:List Int),c.length=s.size->s.size - i<m->(∀ x ∈ c,0<=x∧x<256)->QQ5 s m i c=c.take i++(c.drop i).map lowB
 | 0,_,_,_,h,_=>absurd h (by omega)
 | m+1,i,c,hl,hm,hb=>by
  rw [QQ5]
  rcases Nat.lt_or_ge i s.size with h|h
  ·have hi:i<c.length:=by omega
   have hg:c.getD i 0=c[i]:=by simp [List.getD,List.getElem?_eq_getElem hi]
   have hx:=hb _ (List.getElem_mem hi)
   rw [decide_eq_true (show (i:Int)<(s.size:Int) by omega),hg]
   simp only [cond_true]
   have hd:c.drop i=c[i] :: c.drop (i+1):=List.drop_eq_getElem_cons hi
   cases hc:((decide (c[i] >= 65))&&(decide (c[i]<=90))) with
   | true =>
    simp only [Bool.and_eq_true,decide_eq_true_eq] at hc
    have hv:wu8 ((wu8 (c[i]+97)) - 65)=lowB c[i]:=by
     rw [wu8_id (n:=c[i]+97) (by omega),wu8_id (by omega),lowB,if_pos hc]
     omega
    rw [hv]
    simp only [cond_true]
    rw [lower_go s m (i+1) _ (by simpa using hl) (by omega) ?_]
    ·rw [hd,List.map_cons]
     have e1:(c.set i (lowB c[i])).take (i+1)=c.take i++[lowB c[i]]:=by
      rw [List.take_add_one]
      simp [List.take_set_of_le,hi]
     have e2:(c.set i (lowB c[i])).drop (i+1)=c.drop (i+1):=by
      rw [List.drop_set_of_lt (by omega)]
     rw [e1,e2]
     simp
    ·intro x hx'
     rcases List.mem_or_eq_of_mem_set hx' with h'|h'
     ·exact hb x h'
     ·rw [h',lowB,if_pos hc];omega
   | false =>
    have hv:lowB c[i]=c[i]:=by
     rw [lowB,if_neg]
     intro hq
     rw [decide_eq_true hq.1,decide_eq_true hq.2] at hc
     cases hc
    simp only [cond_false]
    rw [lower_go s m (i+1) c hl (by omega) hb,hd,List.map_cons,hv,List.take_add_one,List.getElem?_eq_getElem hi,List.append_assoc]
    rfl
  ·rw [decide_eq_false (show ¬ (i:Int)<(s.size:Int) by omega)]
   simp only [cond_false]
   rw [List.drop_eq_nil_of_le (by omega),List.take_of_length_le (by omega)]
   simp
theorem Qzf (s:ByteArray):∀ x ∈ Qi0 s,0<=x∧x<256:=by
 intro x hx
 unfold Qi0 at hx
 obtain ⟨b,_,rfl⟩:=List.mem_map.1 hx
 have:=b.toNat_lt
 omega
theorem lower_run (s:ByteArray):Q38 s=QH1 ((Qi0 s).map lowB):=by
 unfold Q38 QO4
 rw [lower_go s _ 0 _ (QJ0 s) (by omega) (Qzf s)]
 rfl
theorem Qab (s:ByteArray):∀ (m:Nat) (out:List Int) (i:Nat),i<=s.size->s.size - i<m->(Q04 s m out i).1=out++((Qi0 s).drop i).map lowB
 | 0,_,_,_,h=>absurd h (by omega)
 | m+1,out,i,hi,hm=>by
  rw [Q04]
  rcases Nat.lt_or_ge i s.size with h|h
  ·have hi':i<(Qi0 s).length:=by rw [QJ0];exact h
   have hd:(Qi0 s).drop i=(Qi0 s)[i] :: (Qi0 s).drop (i+1):=List.drop_eq_getElem_cons hi'
   have hx:=Qzf s _ (List.getElem_mem hi')
   have hg:((s.data.toList.getD i 0).toNat:Int)=(Qi0 s)[i]:=by
    have hq:i<s.data.toList.length:=by simpa [Qi0] using hi'
    simp [Qi0,List.getD,List.getElem?_eq_getElem hq]
   rw [decide_eq_true (show (i:Int)<(s.size:Int) by omega),hg,hd,List.map_cons]
   simp only [cond_true]
   cases hc:((decide ((Qi0 s)[i] > 64))&&(decide ((Qi0 s)[i]<91))) with
   | true =>
    simp only [Bool.and_eq_true,decide_eq_true_eq] at hc
    have hv:lowB (Qi0 s)[i]=(Qi0 s)[i]+32:=by rw [lowB,if_pos (by omega)]
    rw [wu8_id (n:=(Qi0 s)[i]+32) (by omega),hv]
    simp only [cond_true]
    rw [Qab s m _ (i+1) (by omega) (by omega)]
    simp
   | false =>
    have hv:lowB (Qi0 s)[i]=(Qi0 s)[i]:=by
     rw [lowB,if_neg]
     intro hq
     rw [decide_eq_true (show (Qi0 s)[i] > 64 by omega),decide_eq_true (show (Qi0 s)[i]<91 by omega)] at hc
     cases hc
    rw [hv]
    simp only [cond_false]
    rw [Qab s m _ (i+1) (by omega) (by omega)]
    simp
  ·rw [decide_eq_false (show ¬ (i:Int)<(s.size:Int) by omega)]
   simp only [cond_false]
   rw [List.drop_eq_nil_of_le (by rw [QJ0];omega)]
   simp
theorem lower_ref (s:ByteArray):Qs3 s=QH1 ((Qi0 s).map lowB):=by
 unfold Qs3 QG4
 rw [Qab s _ [] 0 (by omega) (by omega)]
 rfl
theorem lower_eq (s:ByteArray):Q38 s=Qs3 s:=by rw [lower_run,lower_ref]
def QK0 (s:ByteArray):List Int:=(Qj8 s).map (·.2)
theorem Qda (s:ByteArray):QY0 s=QK0 s:=by
 have:∀ (l:List (Nat × Int)) (out:List Int),Q14 l out=out++l.map (·.2):=by
  intro l
  induction l with
  | nil=>intro out;rw [Q14];simp
  | cons x r ih=>intro out;rw [Q14,ih];simp
 unfold QY0 QH4 QK0
 rw [this]
 simp
theorem Qtg (s:ByteArray) (b:ByteArray):∀ (l:List (Nat × Int)) (c:LexReader),Qt6 b l c={ c with line:=c.line++l.map (·.2) }
 | [],c=>by rw [Qt6];simp
 | x :: r,c=>by rw [Qt6,Qtg s b r];simp
theorem line_len (s:ByteArray):(QK0 s).length<=s.size:=by
 have:=Qgb s
 rw [Qda] at this
 exact this
theorem while_go (is:Int->Bool) (L:List Int) (hL:L.length<=400):∀ (m a:Nat) (bad e:Int),a<=L.length->L.length - a<m ->
  QO0 is m ⟨L,(a:Int),bad,e⟩=⟨L,((a+((L.drop a).takeWhile is).length:Nat):Int),bad,e⟩
 | 0,_,_,_,_,h=>absurd h (by omega)
 | m+1,a,bad,e,ha,hm=>by
  rw [QO0]
  simp only [Int.toNat_natCast]
  rcases Nat.lt_or_ge a L.length with h|h
  ·have hg:L.getD a 0=L[a]:=by simp [List.getD,List.getElem?_eq_getElem h]
   rw [decide_eq_true (show (a:Int)<(L.length:Int) by omega),hg,List.drop_eq_getElem_cons h,List.takeWhile_cons]
   cases is L[a] with
   | true =>
    have hw:w64 ((a:Int)+1)=((a+1:Nat):Int):=wr (by omega)
    simp only [Bool.true_and,cond_true,if_true]
    rw [hw,while_go is L hL m (a+1) bad e (by omega) (by omega),List.length_cons]
    congr 2
    omega
   | false=>simp
  ·rw [decide_eq_false (show ¬ (a:Int)<(L.length:Int) by omega),List.drop_eq_nil_of_le h]
   simp
theorem take_run (is:Int->Bool) (L:List Int) (a:Nat):List.drop a (List.take (a+((L.drop a).takeWhile is).length) L)=(L.drop a).takeWhile is:=by
 rw [List.drop_take]
 have h:(L.drop a).takeWhile is <+: L.drop a:=List.takeWhile_prefix is
 rw [Nat.add_sub_cancel_left]
 exact (List.prefix_iff_eq_take.1 h).symm
theorem while_eq (is:Int->Bool) (L:List Int) (hL:L.length<=400) (a:Nat) (bad e:Int) (ha:a<=L.length) :
  Q90 ⟨L,(a:Int),bad,e⟩ is=(runesBytes ((L.drop a).takeWhile is),⟨L,((a+((L.drop a).takeWhile is).length:Nat):Int),bad,e⟩):=by
 unfold Q90 QP0
 simp only
 rw [while_go is L hL _ a bad e ha (by omega)]
 simp only [Int.toNat_natCast]
 rw [take_run]
def Qc4 (y:Int):Bool:=Qs0 y==1
def wordP (y:Int):Bool:=(((Qs0 y==2)||(Qs0 y==3))||(y==45))||(y==95)
theorem blank_fn:(fun (y:Int)=>Qy0 y ([1]:List Int) 0)=Qc4:=by
 funext y
 rw [Qy0,Qy0,Q5d]
 unfold Qc4
 cases (Qs0 y==1) <;> rfl
theorem word_fn:(fun (y:Int)=>Qu0 y ([2,3]:List Int) 0)=wordP:=by
 funext y
 rw [Qu0,Qu0,Qu0,Q5d]
 unfold wordP
 cases (Qs0 y==2) <;> cases (Qs0 y==3) <;> rfl
end Go.Proofs.YtgjcljceccfgjaaGreatDoor
namespace Go.Proofs.YtgjcljceccfgjaaGreatDoor
set_option linter.unusedSimpArgs false
set_option linter.unusedVariables false
open Go.Fw
theorem Que:∀ (m:Nat) (out:List Token) (c:LexReader),(Qv2 m out c).1=[]∨out <+: (Qv2 m out c).1
 | 0,_,_=>.inl rfl
 | m+1,out,c=>by
  rw [Qv2]
  cases (c.error==0) with
  | false=>exact .inl rfl
  | true =>
   simp only [cond_true]
   cases ((Q90 c (fun (y:Int)=>Qy0 y ([1]:List Int) 0)).2.at_==(((Q90 c (fun (y:Int)=>Qy0 y ([1]:List Int) 0)).2.line).length:Int)) with
   | true=>exact .inr (List.prefix_refl _)
   | false =>
    simp only [cond_false]
    rcases Que m (out++[{ (Qn0 ((Q90 c (fun (y:Int)=>Qy0 y ([1]:List Int) 0)).2)).1 with at_:=(Q90 c (fun (y:Int)=>Qy0 y ([1]:List Int) 0)).2.at_ }]) ((Qn0 ((Q90 c (fun (y:Int)=>Qy0 y ([1]:List Int) 0)).2)).2) with h|h
    ·exact .inl h
    ·exact .inr (List.IsPrefix.trans (List.prefix_append _ _) h)
def skipB (L:List Int) (a:Nat):Nat:=a+((L.drop a).takeWhile Qc4).length
theorem skipB_le (L:List Int) (a:Nat) (h:a<=L.length):skipB L a<=L.length:=by
 unfold skipB
 have:=(List.takeWhile_prefix (l:=L.drop a) Qc4).length_le
 rw [List.length_drop] at this
 omega
theorem QXc (L:List Int) (hL:L.length<=400) (m:Nat) (out:List Token) (a:Nat) (bad:Int) (ha:a<=L.length) :
  Qv2 (m+1) out ⟨L,(a:Int),bad,0⟩=bif (((skipB L a:Nat):Int)==(L.length:Int)) then (out,(L.length:Int),0)
   else Qv2 m (out++[{ (Qn0 ⟨L,((skipB L a:Nat):Int),bad,0⟩).1 with at_:=((skipB L a:Nat):Int) }]) (Qn0 ⟨L,((skipB L a:Nat):Int),bad,0⟩).2:=by
 rw [Qv2]
 simp only [blank_fn]
 rw [while_eq Qc4 L hL a bad 0 ha]
 rfl
theorem next_kind (r:LexReader) (h:(QB1 (r.line.getD (Int.toNat r.at_) 0)==2)=false):(Qn0 r).1.kind ≠ 1:=by
 unfold Qn0 Q62 Qk2 Q93
 rw [h]
 simp only [cond_false,Bool.cond_eq_ite]
 repeat' split
 all_goals first|(simp [Token.zero];done)|simp_all
theorem next_word (L:List Int) (hL:L.length<=400) (a:Nat) (bad:Int) (ha:a<=L.length) (h:(QB1 (L.getD a 0)==2)=true) :
  Qn0 ⟨L,(a:Int),bad,0⟩=(⟨1,Qs3 (runesBytes ((L.drop a).takeWhile wordP)),0,0⟩,⟨L,((a+((L.drop a).takeWhile wordP).length:Nat):Int),bad,0⟩):=by
 unfold Qn0 QJ2
 simp only [Int.toNat_natCast,word_fn]
 rw [h,while_eq wordP L hL a bad 0 ha,lower_eq]
 rfl
def Wd (s:ByteArray):Prop:=s.size<=400 ∧ ∃ x r,QK0 s=x :: r∧Qs0 x=2∧Qs3 (runesBytes ((QK0 s).takeWhile wordP))=s∧skipB (QK0 s) ((QK0 s).takeWhile wordP).length=(QK0 s).length
theorem tokens_start (s:ByteArray) (h:s.size<=400):QD1 s=Qv2 (2*(QK0 s).length+1+1) [] ⟨QK0 s,((0:Nat):Int),0,0⟩:=by
 unfold QD1
 rw [decide_eq_false (show ¬ (s.size:Int) > 400 by omega),Qtg s s]
 unfold Qu6
 show Qv2 _ [] ⟨[]++(Qj8 s).map (·.2),0,0,0⟩=_
 rw [List.nil_append]
 congr 1
theorem word_prog (s:ByteArray):QV5 s=true ↔ Wd s:=by
 rcases Nat.lt_or_ge 400 s.size with hs|hs
 ·constructor
  ·intro h
   unfold QV5 QD1 at h
   rw [decide_eq_true (show (s.size:Int) > 400 by omega)] at h
   cases h
  ·rintro ⟨h,_⟩
   omega
 have hL:(QK0 s).length<=400:=Nat.le_trans (line_len s) hs
 generalize hLd:QK0 s=L at *
 have e0:QD1 s=Qv2 (2*L.length+1+1) [] ⟨L,((0:Nat):Int),0,0⟩:=by rw [tokens_start s hs,hLd]
 rw [QXc L hL (2*L.length+1) [] 0 0 (by omega)] at e0
 unfold Wd QV5
 rw [hLd]
 constructor
 ·intro h
  cases hc:(((QD1 s).2.2 != 0)||((((QD1 s).1).length:Int)!=1))||(!(((((QD1 s).1).getD 0 Token.zero).kind==1)&&(((((QD1 s).1).getD 0 Token.zero).text==s)&&(((((QD1 s).1).getD 0 Token.zero).num==0)&&((((QD1 s).1).getD 0 Token.zero).at_==0))))) with
  | true=>rw [hc] at h;cases h
  | false =>
   obtain ⟨h1,h2⟩:=or_f hc
   obtain ⟨_,hlen⟩:=or_f h1
   have hleni:((QD1 s).1.length:Int)=1:=by simpa using hlen
   replace hlen:(QD1 s).1.length=1:=by omega
   simp only [Bool.not_eq_false',Bool.and_eq_true,beq_iff_eq,bytes_beq] at h2
   obtain ⟨hk,ht,_,hat⟩:=h2
   cases hb:(((skipB L 0:Nat):Int)==(L.length:Int)) with
   | true =>
    rw [hb] at e0
    rw [e0] at hlen
    cases hlen
   | false =>
    rw [hb] at e0
    simp only [cond_false,List.nil_append] at e0
    have hpre:=Que (2*L.length+1) [{ (Qn0 ⟨L,((skipB L 0:Nat):Int),0,0⟩).1 with at_:=((skipB L 0:Nat):Int) }] (Qn0 ⟨L,((skipB L 0:Nat):Int),0,0⟩).2
    rw [← e0] at hpre
    rcases hpre with hpre|hpre
    ·rw [hpre] at hlen;cases hlen
    ·have hhead:(QD1 s).1.getD 0 Token.zero={ (Qn0 ⟨L,((skipB L 0:Nat):Int),0,0⟩).1 with at_:=((skipB L 0:Nat):Int) }:=by
      obtain ⟨q,hq⟩:=hpre
      rw [← hq]
      rfl
     rw [hhead] at hk ht hat
     have hz:skipB L 0=0:=by
      have:((skipB L 0:Nat):Int)=0:=hat
      omega
     rw [hz] at e0 hk ht hb
     have hcl:(QB1 (L.getD 0 0)==2)=true:=by
      cases hcc:(QB1 (L.getD 0 0)==2) with
      | true=>rfl
      | false=>exact absurd hk (next_kind ⟨L,((0:Nat):Int),0,0⟩ hcc)
     rw [next_word L hL 0 0 (by omega) hcl] at e0 ht
     simp only [List.drop_zero,Nat.zero_add] at e0 ht
     have hne:L.length ≠ 0:=by
      intro h0
      rw [h0] at hb
      simp at hb
     obtain ⟨x,r,hxr⟩:∃ x r,L=x :: r:=by
      cases hcase:L with
      | nil=>rw [hcase] at hne;exact absurd rfl hne
      | cons x r=>exact ⟨x,r,rfl⟩
     refine ⟨hs,x,r,hxr,?_,ht,?_⟩
     ·rw [hxr] at hcl
      rw [Q5d] at hcl
      exact eq_of_beq hcl
     ·have hle:(L.takeWhile wordP).length<=L.length:=(List.takeWhile_prefix wordP).length_le
      rw [show 2*L.length+1=2*L.length+1 from rfl,QXc L hL (2*L.length) _ (L.takeWhile wordP).length 0 hle] at e0
      cases hb2:(((skipB L (L.takeWhile wordP).length:Nat):Int)==(L.length:Int)) with
      | true =>
       have:=eq_of_beq hb2
       omega
      | false =>
       rw [hb2] at e0
       simp only [cond_false] at e0
       have hpre2:∀ o c,QD1 s=Qv2 (2*L.length) o c->(QD1 s).1=[]∨o <+: (QD1 s).1:=fun o c e=>by rw [e];exact Que _ _ _
       rcases hpre2 _ _ e0 with h'|h'
       ·rw [h'] at hlen;cases hlen
       ·have:=h'.length_le
        rw [hlen] at this
        simp at this
 ·rintro ⟨_,x,r,hxr,hx,ht,hsk⟩
  have hcl:(QB1 (L.getD 0 0)==2)=true:=by
   rw [hxr,Q5d]
   exact beq_iff_eq.2 hx
  have hz:skipB L 0=0:=by
   unfold skipB
   rw [List.drop_zero,hxr,List.takeWhile_cons]
   have:Qc4 x=false:=by unfold Qc4;rw [hx];rfl
   rw [this]
   rfl
  have hb:(((0:Nat):Int)==(L.length:Int))=false:=by
   rw [hxr]
   simp
   omega
  rw [hz,hb] at e0
  simp only [cond_false,List.nil_append] at e0
  rw [next_word L hL 0 0 (by omega) hcl] at e0
  simp only [List.drop_zero,Nat.zero_add] at e0
  have hle:(L.takeWhile wordP).length<=L.length:=(List.takeWhile_prefix wordP).length_le
  rw [QXc L hL (2*L.length) _ (L.takeWhile wordP).length 0 hle,hsk] at e0
  have hb2:(((L.length:Nat):Int)==(L.length:Int))=true:=beq_iff_eq.2 rfl
  rw [hb2,ht] at e0
  rw [e0]
  have:(s==s)=true:=(bytes_beq s s).2 rfl
  simp [this]
end Go.Proofs.YtgjcljceccfgjaaGreatDoor
namespace Go.Proofs.YtgjcljceccfgjaaGreatDoor
set_option linter.unusedSimpArgs false
set_option linter.unusedVariables false
open Go.Fw
theorem decode_blank (s:ByteArray) (h:(Utf8.decode s 0).1=9∨(Utf8.decode s 0).1=32):(s.get! 0).toNat=9∨(s.get! 0).toNat=32:=by
 unfold Utf8.decode at h
 simp only [Nat.add_zero,Nat.zero_add,Utf8.runeError] at h
 repeat' split at h
 all_goals first|exact h|(simp only [ge_iff_le,Nat.not_le] at *;omega)|(simp_all;omega)
theorem first_line (s:ByteArray) (x:Int) (r:List Int) (h:QK0 s=x :: r):x=((Utf8.decode s 0).1:Int)∧0<s.size:=by
 unfold QK0 Qj8 at h
 cases hs:s.size with
 | zero=>rw [hs] at h;cases h
 | succ n =>
  rw [hs,QU3 (by rw [hs];rfl)] at h
  simp only [List.map_cons,List.cons.injEq] at h
  exact ⟨h.1.symm,Nat.succ_pos n⟩
theorem get_first (s:ByteArray) (h:0<s.size):∃ b q,s.data.toList=b :: q∧s.get! 0=b:=by
 obtain ⟨d⟩:=s
 have hd:0<d.size:=h
 refine ⟨d[0],d.toList.tail,?_,?_⟩
 ·cases hl:d.toList with
  | nil=>simp at hl;rw [hl] at hd;cases hd
  | cons a t=>
   have:d[0]=a:=by rw [← Array.getElem_toList];simp [hl]
   rw [this];rfl
 ·show d[0]! = d[0]
  exact getElem!_pos d 0 hd
theorem encode_letter (x:Int) (h:Qs0 x=2):∃ b q,(Utf8.encode x).data.toList=b :: q∧65<=b.toNat:=by
 have hx:65<=x∧x<=1114111 ∧ ¬ (55296<=x∧x<=57343):=by
  unfold Qs0 at h
  grind
 have hv:Utf8.valid x=true:=by
  unfold Utf8.valid
  simp only [Bool.or_eq_true,Bool.and_eq_true,decide_eq_true_eq]
  omega
 unfold Utf8.encode
 simp only [hv,if_true]
 have hc:∃ c:Nat,x.toNat=c∧65<=c∧c<=1114111:=⟨x.toNat,rfl,by omega,by omega⟩
 obtain ⟨c,hcc,h1,h2⟩:=hc
 rw [hcc]
 repeat' split
 all_goals refine ⟨_,_,rfl,?_⟩
 all_goals simp only [UInt8.toNat_ofNat']
 all_goals omega
theorem Qpg (x:Int) (r:List Int):∃ q,(runesBytes (x :: r)).data.toList=(Utf8.encode x).data.toList++q:=by
 unfold runesBytes
 rw [List.foldl_cons]
 have:∀ (l:List Int) (b:ByteArray),∃ q,(l.foldl (fun r n=>r++Utf8.encode n) b).data.toList=b.data.toList++q:=by
  intro l
  induction l with
  | nil=>exact fun b=>⟨[],by simp⟩
  | cons y t ih =>
   intro b
   obtain ⟨q,hq⟩:=ih (b++Utf8.encode y)
   exact ⟨(Utf8.encode y).data.toList++q,by rw [List.foldl_cons,hq];simp⟩
 obtain ⟨q,hq⟩:=this r (ByteArray.empty++Utf8.encode x)
 exact ⟨q,by rw [hq];simp⟩
theorem lower_first (x:Int) (r:List Int) (h:Qs0 x=2):∃ b q,(Qs3 (runesBytes (x :: r))).data.toList=b :: q∧65<=b.toNat:=by
 obtain ⟨b,q,hb,h65⟩:=encode_letter x h
 obtain ⟨q',hq⟩:=Qpg x r
 rw [lower_ref,Qq6]
 unfold Qi0
 rw [hq,hb]
 refine ⟨UInt8.ofNat (lowB (b.toNat:Int)).toNat,_,rfl,?_⟩
 have hlt:=b.toNat_lt
 rw [UInt8.toNat_ofNat']
 unfold lowB
 split <;> omega
theorem no_blank_word (s:ByteArray) (y:Int) (q:List Int) (hl:QK0 s=y :: q) (hy:Qc4 y=true) (x:Int) (r:List Int) (hx:Qs0 x=2):Qs3 (runesBytes (x :: r)) ≠ s:=by
 intro e
 obtain ⟨b,t,hb,h65⟩:=lower_first x r hx
 rw [e] at hb
 obtain ⟨h1,h2⟩:=first_line s y q hl
 obtain ⟨b',t',hb',hg⟩:=get_first s h2
 have hy':(Utf8.decode s 0).1=9∨(Utf8.decode s 0).1=32:=by
  unfold Qc4 Qs0 at hy
  subst h1
  grind
 have:=decode_blank s hy'
 rw [hg] at this
 rw [hb] at hb'
 cases hb'
 omega
theorem end_go (L:List Int) (hL:L.length<=400) (a:Nat) (ha:Qs0 (L.getD a 0)=2):∀ (m i:Nat),i<=L.length->L.length - i<m->QC3 L (a:Int) m (i:Int)=((i+((L.drop i).takeWhile wordP).length:Nat):Int)
 | 0,_,_,h=>absurd h (by omega)
 | m+1,i,hi,hm=>by
  rw [QC3]
  simp only [Int.toNat_natCast,ha]
  rcases Nat.lt_or_ge i L.length with h|h
  ·have hg:L.getD i 0=L[i]:=by simp [List.getD,List.getElem?_eq_getElem h]
   rw [decide_eq_true (show (i:Int)<(L.length:Int) by omega),hg,List.drop_eq_getElem_cons h,List.takeWhile_cons]
   have e:(((((((2:Int)==2)&&((Qs0 L[i])!=2))&&((Qs0 L[i])!=3))&&(L[i]!=45))&&(L[i]!=95))) = !(wordP L[i]):=by
    unfold wordP bne
    cases (Qs0 L[i]==2) <;> cases (Qs0 L[i]==3) <;> cases (L[i]==45) <;> cases (L[i]==95) <;> rfl
   rw [e]
   cases hw:wordP L[i] with
   | false=>simp
   | true =>
    have hww:w64 ((i:Int)+1)=((i+1:Nat):Int):=wr (by omega)
    have e3:((2:Int)==3)=false:=rfl
    simp only [Bool.not_true,cond_false,cond_true,e3,Bool.false_and,if_true]
    rw [hww,end_go L hL a ha m (i+1) (by omega) (by omega),List.length_cons]
    congr 1
    omega
  ·rw [decide_eq_false (show ¬ (i:Int)<(L.length:Int) by omega),List.drop_eq_nil_of_le h]
   simp
theorem end_eq (L:List Int) (hL:L.length<=400) (a:Nat) (hlt:a<L.length) (ha:Qs0 (L.getD a 0)=2):QY1 L (a:Int)=((a+((L.drop a).takeWhile wordP).length:Nat):Int):=by
 unfold QY1
 have hw:w64 ((a:Int)+1)=((a+1:Nat):Int):=wr (by omega)
 rw [hw,end_go L hL a ha _ (a+1) (by omega) (by omega),List.drop_eq_getElem_cons hlt,List.takeWhile_cons]
 have hg:L.getD a 0=L[a]:=by simp [List.getD,List.getElem?_eq_getElem hlt]
 have:wordP L[a]=true:=by unfold wordP;rw [← hg,ha];rfl
 rw [this]
 simp only [if_true,List.length_cons]
 congr 1
 omega
theorem text_kind (L:List Int) (a:Int):∀ (m:Nat) (i:Int),(Qa3 L a m i).1.kind ≠ 1
 | 0,i=>by simp [Qa3,Token.zero]
 | m+1,i=>by
  rw [Qa3]
  simp only [Bool.cond_eq_ite]
  repeat' split
  all_goals first|exact text_kind L a m _|(simp [Token.zero];done)
theorem one_kind (L:List Int) (a:Int) (h:(Qs0 (L.getD (Int.toNat a) 0)==2)=false):(QA1 L a).1.kind ≠ 1:=by
 unfold QA1 Q24
 rw [h]
 simp only [cond_false,Bool.cond_eq_ite]
 repeat' split
 all_goals first|exact text_kind L a _ _|(simp [Token.zero];done)|simp_all
theorem one_word (L:List Int) (hL:L.length<=400) (a:Nat) (hlt:a<L.length) (ha:Qs0 (L.getD a 0)=2) :
  QA1 L (a:Int)=(⟨1,Qs3 (runesBytes ((L.drop a).takeWhile wordP)),0,(a:Int)⟩,((a+((L.drop a).takeWhile wordP).length:Nat):Int),0,0):=by
 unfold QA1
 simp only [Int.toNat_natCast,ha,end_eq L hL a hlt ha]
 rw [take_run]
 rfl
section
variable (s:ByteArray)
theorem QQc:∀ (m:Nat) (out:List Token) (i:Int),(QZ0 s m out i).1=[]∨out <+: (QZ0 s m out i).1
 | 0,_,_=>.inl rfl
 | m+1,out,i=>by
  rw [QZ0]
  cases (decide (i<((QY0 s).length:Int))) with
  | false=>exact .inr (List.prefix_refl _)
  | true =>
   simp only [cond_true]
   cases ((Qs0 ((QY0 s).getD (Int.toNat i) 0))==1) with
   | true=>exact QQc m out _
   | false =>
    simp only [cond_false]
    cases ((QA1 (QY0 s) i).2.2.2 != 0) with
    | true=>exact .inl rfl
    | false =>
     rcases QQc m (out++[(QA1 (QY0 s) i).1]) ((QA1 (QY0 s) i).2.1) with h|h
     ·exact .inl h
     ·exact .inr (List.IsPrefix.trans (List.prefix_append _ _) h)
theorem rskip (hL:(QK0 s).length<=400):∀ (k m:Nat) (out:List Token) (i:Nat),i+k<=(QK0 s).length->(∀ y ∈ ((QK0 s).drop i).take k,Qc4 y=true)->QZ0 s (m+k) out (i:Int)=QZ0 s m out ((i+k:Nat):Int)
 | 0,_,_,_,_,_=>rfl
 | k+1,m,out,i,h,hb=>by
  have hi:i<(QK0 s).length:=by omega
  rw [show m+(k+1)=(m+k)+1 by omega,QZ0,Qda,decide_eq_true (show (i:Int)<((QK0 s).length:Int) by omega),Int.toNat_natCast]
  have hg:(QK0 s).getD i 0=(QK0 s)[i]:=by simp [List.getD,List.getElem?_eq_getElem hi]
  rw [List.drop_eq_getElem_cons hi,List.take_succ_cons] at hb
  have hc:((Qs0 (QK0 s)[i])==1)=true:=hb _ (List.mem_cons_self ..)
  have hw:w64 ((i:Int)+1)=((i+1:Nat):Int):=wr (by omega)
  rw [hg,hc,hw]
  simp only [cond_true]
  rw [rskip hL k m out (i+1) (by omega) (fun y hy=>hb y (List.mem_cons_of_mem _ hy))]
  congr 2
  omega
theorem rskipB (hL:(QK0 s).length<=400) (m:Nat) (out:List Token) (a:Nat) (ha:a<=(QK0 s).length) (hm:(QK0 s).length - a<m) :
  ∃ m',(QK0 s).length - skipB (QK0 s) a<m'∧QZ0 s m out (a:Int)=QZ0 s m' out ((skipB (QK0 s) a:Nat):Int):=by
 have hle:=skipB_le (QK0 s) a ha
 have hk:skipB (QK0 s) a=a+(((QK0 s).drop a).takeWhile Qc4).length:=rfl
 refine ⟨m - (((QK0 s).drop a).takeWhile Qc4).length,by omega,?_⟩
 rw [hk,← rskip s hL _ (m - (((QK0 s).drop a).takeWhile Qc4).length) out a (by omega) ?_]
 ·congr 1
  omega
 ·intro y hy
  have:((QK0 s).drop a).take (((QK0 s).drop a).takeWhile Qc4).length=((QK0 s).drop a).takeWhile Qc4:=(List.prefix_iff_eq_take.1 (List.takeWhile_prefix Qc4)).symm
  rw [this] at hy
  exact List.all_eq_true.1 (List.all_takeWhile ..) y hy
theorem rstep (m:Nat) (out:List Token) (a:Nat) (ha:a<(QK0 s).length) (hb:Qc4 ((QK0 s).getD a 0)=false) :
  QZ0 s (m+1) out (a:Int)=bif ((QA1 (QK0 s) (a:Int)).2.2.2 != 0) then ([],(QA1 (QK0 s) (a:Int)).2.2.1,(QA1 (QK0 s) (a:Int)).2.2.2) else QZ0 s m (out++[(QA1 (QK0 s) (a:Int)).1]) (QA1 (QK0 s) (a:Int)).2.1:=by
 rw [QZ0,Qda,decide_eq_true (show (a:Int)<((QK0 s).length:Int) by omega),Int.toNat_natCast]
 have:((Qs0 ((QK0 s).getD a 0))==1)=false:=hb
 rw [this]
 rfl
theorem rend (m:Nat) (out:List Token):QZ0 s (m+1) out ((QK0 s).length:Int)=(out,((QK0 s).length:Int),0):=by
 rw [QZ0,Qda,decide_eq_false (by omega)]
 rfl
theorem skip_no (L:List Int) (a:Nat) (h:skipB L a<L.length):Qc4 (L.getD (skipB L a) 0)=false:=by
 unfold skipB at *
 have hd:(L.drop a)[((L.drop a).takeWhile Qc4).length]? = some (L.getD (a+((L.drop a).takeWhile Qc4).length) 0):=by
  rw [List.getElem?_drop,List.getD,List.getElem?_eq_getElem h]
  rfl
 have hsp:L.drop a=(L.drop a).takeWhile Qc4++(L.drop a).dropWhile Qc4:=(List.takeWhile_append_dropWhile).symm
 generalize hX:(L.drop a).takeWhile Qc4=X at *
 generalize hY:(L.drop a).dropWhile Qc4=Y at *
 rw [hsp,List.getElem?_append_right (Nat.le_refl _),Nat.sub_self] at hd
 cases hc:Y with
 | nil=>rw [hc] at hd;cases hd
 | cons y t =>
  rw [hc] at hd
  simp only [List.getElem?_cons_zero,Option.some.injEq] at hd
  rw [← hd]
  have:=List.head_dropWhile_not Qc4 (l:=L.drop a) (by rw [hY,hc];simp)
  simpa [hY,hc] using this
end
theorem word_ref (s:ByteArray):Qt4 s=true ↔ Wd s:=by
 rcases Nat.lt_or_ge 400 s.size with hs|hs
 ·constructor
  ·intro h
   unfold Qt4 QU0 at h
   rw [decide_eq_true (show (s.size:Int) > 400 by omega)] at h
   cases h
  ·rintro ⟨h,_⟩
   omega
 have hL:(QK0 s).length<=400:=Nat.le_trans (line_len s) hs
 have e0:QU0 s=QZ0 s ((QK0 s).length+1) [] ((0:Nat):Int):=by
  unfold QU0
  rw [decide_eq_false (show ¬ (s.size:Int) > 400 by omega),Qda]
  rfl
 obtain ⟨m1,hm1,e1⟩:=rskipB s hL ((QK0 s).length+1) [] 0 (by omega) (by omega)
 rw [e1] at e0
 have hle0:=skipB_le (QK0 s) 0 (by omega)
 obtain ⟨m2,rfl⟩:∃ m2,m1=m2+1:=⟨m1 - 1,by omega⟩
 unfold Wd Qt4
 constructor
 ·intro h
  cases h1:(((QU0 s).2.2 != 0)||((((QU0 s).1).length:Int)!=1)) with
  | true=>rw [h1] at h;cases h
  | false =>
   rw [h1] at h
   simp only [cond_false] at h
   have hleni:((QU0 s).1.length:Int)=1:=by simpa using (or_f h1).2
   have hlen:(QU0 s).1.length=1:=by omega
   cases h2:((((((QU0 s).1).getD 0 Token.zero).kind != 1)||(!(ByteArray.toList (((QU0 s).1).getD 0 Token.zero).text==ByteArray.toList s)))||((((QU0 s).1).getD 0 Token.zero).num != 0)) with
   | true=>rw [h2] at h;cases h
   | false =>
    obtain ⟨h3,_⟩:=or_f h2
    obtain ⟨hk,ht⟩:=or_f h3
    have hk:((QU0 s).1.getD 0 Token.zero).kind=1:=by simpa using hk
    have ht:((QU0 s).1.getD 0 Token.zero).text=s:=by
     have:(ByteArray.toList (((QU0 s).1).getD 0 Token.zero).text==ByteArray.toList s)=true:=by simpa using ht
     exact (QP9 _ _).1 this
    rcases Nat.eq_or_lt_of_le hle0 with hb|hb
    ·rw [hb,rend] at e0
     rw [e0] at hlen
     cases hlen
    ·have hnb:=skip_no _ _ hb
     rw [rstep s m2 [] _ hb hnb] at e0
     cases he:((QA1 (QK0 s) ((skipB (QK0 s) 0:Nat):Int)).2.2.2 != 0) with
     | true =>
      rw [he] at e0
      rw [e0] at hlen
      cases hlen
     | false =>
      rw [he] at e0
      simp only [cond_false,List.nil_append] at e0
      have hp:∀ o i m,QU0 s=QZ0 s m o i->(QU0 s).1=[]∨o <+: (QU0 s).1:=fun o i m e=>by rw [e];exact QQc s _ _ _
      rcases hp _ _ _ e0 with h'|h'
      ·rw [h'] at hlen;cases hlen
      ·have hhead:(QU0 s).1.getD 0 Token.zero=(QA1 (QK0 s) ((skipB (QK0 s) 0:Nat):Int)).1:=by
        obtain ⟨q,hq⟩:=h'
        rw [← hq]
        rfl
       rw [hhead] at hk ht
       have hcl:(Qs0 ((QK0 s).getD (skipB (QK0 s) 0) 0)==2)=true:=by
        cases hcc:(Qs0 ((QK0 s).getD (skipB (QK0 s) 0) 0)==2) with
        | true=>rfl
        | false=>exact absurd hk (one_kind _ _ (by rw [Int.toNat_natCast];exact hcc))
       have hcl':=eq_of_beq hcl
       rw [one_word _ hL _ hb hcl'] at e0 ht
       simp only at e0 ht
       have hfirst:(QK0 s).drop (skipB (QK0 s) 0)=(QK0 s).getD (skipB (QK0 s) 0) 0 :: (QK0 s).drop (skipB (QK0 s) 0+1):=by
        rw [List.drop_eq_getElem_cons hb]
        congr 1
        simp [List.getD,List.getElem?_eq_getElem hb]
       have hwp:wordP ((QK0 s).getD (skipB (QK0 s) 0) 0)=true:=by unfold wordP;rw [hcl'];rfl
       have hz:skipB (QK0 s) 0=0:=by
        rcases Nat.eq_zero_or_pos (skipB (QK0 s) 0) with hz|hz
        ·exact hz
        ·exfalso
         cases hl:QK0 s with
         | nil=>rw [hl] at hb;exact absurd hb (by simp)
         | cons y q =>
          have hy:Qc4 y=true:=by
           cases hbl:Qc4 y with
           | true=>rfl
           | false =>
            have:skipB (QK0 s) 0=0:=by
             unfold skipB
             rw [List.drop_zero,hl,List.takeWhile_cons,hbl]
             rfl
            omega
          rw [hfirst,List.takeWhile_cons,hwp] at ht
          exact no_blank_word s y q hl hy _ _ hcl' ht
       rw [hz] at e0 ht hcl' hb
       simp only [List.drop_zero,Nat.zero_add] at e0 ht
       cases hl:QK0 s with
       | nil=>rw [hl] at hb;exact absurd hb (by simp)
       | cons x r =>
        rw [← hl]
        refine ⟨hs,x,r,hl,by rw [hl] at hcl';exact hcl',ht,?_⟩
        have hle:((QK0 s).takeWhile wordP).length<=(QK0 s).length:=(List.takeWhile_prefix wordP).length_le
        have hpos:0<((QK0 s).takeWhile wordP).length:=by
         rw [hl,List.takeWhile_cons]
         have hcx:Qs0 x=2:=by rw [hl] at hcl';exact hcl'
         have:wordP x=true:=by unfold wordP;rw [hcx];rfl
         rw [this]
         simp
        obtain ⟨m3,hm3,e3⟩:=rskipB s hL m2 [⟨1,Qs3 (runesBytes ((QK0 s).takeWhile wordP)),0,((0:Nat):Int)⟩] ((QK0 s).takeWhile wordP).length hle (by omega)
        rw [e3] at e0
        have hle2:=skipB_le (QK0 s) _ hle
        rcases Nat.eq_or_lt_of_le hle2 with hq|hq
        ·exact hq
        ·exfalso
         obtain ⟨m4,rfl⟩:∃ m4,m3=m4+1:=⟨m3 - 1,by omega⟩
         rw [rstep s m4 _ _ hq (skip_no _ _ hq)] at e0
         cases he2:((QA1 (QK0 s) ((skipB (QK0 s) ((QK0 s).takeWhile wordP).length:Nat):Int)).2.2.2 != 0) with
         | true =>
          rw [he2] at e0
          rw [e0] at hlen
          cases hlen
         | false =>
          rw [he2] at e0
          simp only [cond_false] at e0
          rcases hp _ _ _ e0 with h''|h''
          ·rw [h''] at hlen;cases hlen
          ·have:=h''.length_le
           rw [hlen] at this
           simp at this
 ·rintro ⟨_,x,r,hl,hx,ht,hsk⟩
  have hz:skipB (QK0 s) 0=0:=by
   unfold skipB
   rw [List.drop_zero,hl,List.takeWhile_cons]
   have:Qc4 x=false:=by unfold Qc4;rw [hx];rfl
   rw [this]
   rfl
  have hb:0<(QK0 s).length:=by rw [hl];simp
  have hg:(QK0 s).getD 0 0=x:=by rw [hl];rfl
  rw [hz] at e0 hm1
  have hnb:Qc4 ((QK0 s).getD 0 0)=false:=by rw [hg];unfold Qc4;rw [hx];rfl
  rw [rstep s m2 [] 0 hb hnb,one_word _ hL 0 hb (by rw [hg];exact hx)] at e0
  simp only [List.drop_zero,Nat.zero_add,List.nil_append] at e0
  have e00:((0:Int)!=0)=false:=rfl
  rw [e00] at e0
  simp only [cond_false] at e0
  have hle:((QK0 s).takeWhile wordP).length<=(QK0 s).length:=(List.takeWhile_prefix wordP).length_le
  have hpos:0<((QK0 s).takeWhile wordP).length:=by
   rw [hl,List.takeWhile_cons]
   have:wordP x=true:=by unfold wordP;rw [hx];rfl
   rw [this]
   simp
  obtain ⟨m3,hm3,e3⟩:=rskipB s hL m2 [⟨1,Qs3 (runesBytes ((QK0 s).takeWhile wordP)),0,((0:Nat):Int)⟩] ((QK0 s).takeWhile wordP).length hle (by omega)
  rw [e3,hsk,ht] at e0
  obtain ⟨m4,rfl⟩:∃ m4,m3=m4+1:=⟨m3 - 1,by omega⟩
  rw [rend] at e0
  rw [e0]
  simp
theorem word_eq (s:ByteArray):QV5 s=Qt4 s:=by
 rw [Bool.eq_iff_iff,word_prog,word_ref]
end Go.Proofs.YtgjcljceccfgjaaGreatDoor
namespace Go.Proofs.YtgjcljceccfgjaaGreatDoor
set_option linter.unusedSimpArgs false
set_option linter.unusedVariables false
open Go.Fw
theorem alts_le {s:Shape} (h:(QV1 s==0)=true):s.alts.length<=6:=by
 have h:=eq_of_beq h
 unfold QV1 Qs2 at h
 by_cases h1:s.kind=1
 ·simp only [h1,beq_self_eq_true,cond_true] at h
  grind
 by_cases h2:s.kind=2
 ·have:((2:Int)==1)=false:=rfl
  simp only [h2,beq_self_eq_true,cond_true,this,cond_false] at h
  grind
 by_cases h3:s.kind=3
 ·have e1:((3:Int)==1)=false:=rfl
  have e2:((3:Int)==2)=false:=rfl
  simp only [h3,beq_self_eq_true,cond_true,e1,e2,cond_false] at h
  grind
 have e1:(s.kind==1)=false:=by simpa using h1
 have e2:(s.kind==2)=false:=by simpa using h2
 have e3:(s.kind==3)=false:=by simpa using h3
 rw [e1,e2,e3] at h
 cases h
theorem deps_le {l:List Dep} (h:Qo7 l=true):l.length<=4:=by
 rcases Nat.lt_or_ge 4 l.length with h'|h'
 ·unfold Qo7 at h
  rw [QHf l h'] at h
  cases h
 ·exact h'
theorem cmd_self (c:Cmd):Qka c c=true:=by
 unfold Qka
 rw [(shape_same _ _).2 rfl,(equal_Dep _ _).2 rfl]
 simp
theorem submission_eq (n u a:ByteArray) (sh:Shape) (p:Int) (l:List Dep) :
  QY4 ⟨1,0,n,u,a,sh,p,true,0,false,l,0,0,0⟩=Qb6 ⟨1,0,n,u,a,sh,p,true,0,false,l,0,0,0⟩:=by
 have hbare:Q58 ⟨1,0,n,u,a,sh,p,true,0,false,l,0,0,0⟩=⟨1,0,n,u,a,sh,p,true,0,false,l,0,0,0⟩:=rfl
 have hf:Q78 ⟨1,0,n,u,a,sh,p,true,0,false,l,0,0,0⟩=((QC1 p 0 100)&&(((((((QS4 n)&&(QS4 u))&&(QS4 a))&&(QV5 u))&&(QV5 a))&&(Qo7 l))&&((QV1 sh)==0))):=by
  unfold Q78
  show (bif ((((true&&(!(QC1 p 0 100)))||false)||false)||false) then false else _)=_
  cases (QC1 p 0 100) <;> rfl
 have hr:Qb6 ⟨1,0,n,u,a,sh,p,true,0,false,l,0,0,0⟩=bif !((((((((Q84 n)&&(Q84 u))&&(Q84 a))&&(Qt4 u))&&(Qt4 a))&&(Q67 l))&&((Q42 sh)==0))&&(QC1 p 0 100)) then 80 else 0:=by
  unfold Qb6 Q33 Qe8 Qf8 QX2
  simp
 rw [hr]
 unfold QY4
 rw [hbare,cmd_self,hf,← name_eq,← name_eq,← name_eq,← word_eq,← word_eq,← deps_eq,← QJ9]
 cases hd:Qo7 l with
 | false=>cases (QC1 p 0 100) <;> simp
 | true =>
  cases hs:(QV1 sh==0) with
  | false=>cases (QC1 p 0 100) <;> simp
  | true =>
   have h1:=alts_le hs
   have h2:=deps_le hd
   have e1:decide ((sh.alts.length:Int) > 6)=false:=decide_eq_false (by omega)
   have e2:decide ((l.length:Int) > 4)=false:=decide_eq_false (by omega)
   show (bif (((decide ((sh.alts.length:Int) > 6))||(decide ((l.length:Int) > 4)))||_)||_ then (80:Int) else 0)=_
   rw [e1,e2]
   cases (QC1 p 0 100) <;> cases QS4 n <;> cases QS4 u <;> cases QS4 a <;> cases QV5 u <;> cases QV5 a <;> rfl
theorem opt_wall (s:Shape):∀ x ∈ QM0 s,1<=x.wall∧x.wall<=100000:=by
 intro x hx
 cases hc:(Q42 s != 0) with
 | true =>
  unfold QM0 at hx
  rw [hc] at hx
  cases hx
 | false =>
  have hz:Q42 s=0:=by simpa using hc
  cases hk:(s.kind==3) with
  | true =>
   have hk3:s.kind=3:=by simpa using hk
   have hw:1<=s.wall∧s.wall<=100000:=by
    unfold Q42 at hz
    simp only [hk3,beq_self_eq_true,cond_true] at hz
    cases hq:(((((decide ((s.alts.length:Int) > 0))||(!(Qb2 s.min)))||(!(Qb2 s.max)))||(decide (s.max<s.min)))||(!(Qt3 s.wall))) with
    | true=>rw [hq] at hz;cases hz
    | false =>
     have:=(or_f hq).2
     unfold Qt3 at this
     simp at this
     omega
   rw [← Q4a] at hx
   unfold Q21 at hx
   rw [QJ9,hc,hk] at hx
   simp only [cond_false,cond_true] at hx
   rcases List.mem_append.1 hx with hx|hx
   ·have h0:s.alts.length=0:=by
     unfold Q42 at hz
     simp only [hk3,beq_self_eq_true,cond_true] at hz
     cases hq:(((((decide ((s.alts.length:Int) > 0))||(!(Qb2 s.min)))||(!(Qb2 s.max)))||(decide (s.max<s.min)))||(!(Qt3 s.wall))) with
     | true=>rw [hq] at hz;cases hz
     | false =>
      have:=of_decide_eq_false (or_f (or_f (or_f (or_f hq).1).1).1).1
      omega
    rw [List.eq_nil_of_length_eq_zero h0] at hx
    cases hx
   ·unfold Qm6 at hx
    obtain ⟨i,_,rfl⟩:=List.mem_map.1 hx
    exact hw
  | false =>
   have hk':(s.kind != 3)=true:=by unfold bne;rw [hk];rfl
   have hx':x ∈ s.alts:=by
    unfold QM0 at hx
    rw [hc,hk'] at hx
    exact hx
   have hg:Qa1 s s.alts 0=0:=by
    unfold Q42 QJ5 at hz
    rw [hk] at hz
    simp only [cond_false] at hz
    grind
   have:=((g2_eq s s.alts 0 (by simp)).1.1 hg).1 x hx'
   unfold okAlt Qt3 at this
   simp at this
   omega
theorem Q7g (v:Job) (c:Int):(Qc1 v c).2=decide (Qf3 v.shape c > 0)∧((Qc1 v c).2=false ↔ Qf3 v.shape c=0)∧((Qc1 v c).2=true->(Qc1 v c).1.wall=Qf3 v.shape c∧1<=Qf3 v.shape c∧Qf3 v.shape c<=100000):=by
 unfold Qc1 Qf3
 rw [Q4a]
 cases hb:((decide (c<0))||(decide (c >= ((QM0 v.shape).length:Int)))) with
 | true=>exact ⟨rfl,⟨fun _=>rfl,fun _=>rfl⟩,fun h=>(by cases h)⟩
 | false =>
  obtain ⟨h1,h2⟩:=or_f hb
  have h1:=of_decide_eq_false h1
  have h2:=of_decide_eq_false h2
  simp only [cond_false]
  have hm:(QM0 v.shape).getD (Int.toNat c) Alt.zero ∈ QM0 v.shape:=by
   rw [List.getD,List.getElem?_eq_getElem (show Int.toNat c<(QM0 v.shape).length by omega)]
   exact List.getElem_mem _
  have hw:=opt_wall v.shape _ hm
  exact ⟨(decide_eq_true (by omega)).symm,⟨fun h=>(by cases h),fun h=>by omega⟩,fun _=>⟨trivial,hw⟩⟩
theorem nodes_few {s:Int} (hs:U64 s):Q0a s=Qmb s:=by
 obtain ⟨au,ab⟩:=Q9f (n:=48) (by decide)
 have au:U64 (QF4 48):=au
 have ab:∀ k,tb (QF4 48) k=decide (k<48):=ab
 unfold Q0a Qmb
 rw [Bool.eq_iff_iff,Qna (Qoc _),decide_eq_true_eq]
 have ht:∀ k,tb (wu64 (BitVec.ofInt 64 s &&& ~~~(BitVec.ofInt 64 (QF4 48))).toNat) k=(tb s k && !decide (k<48)):=fun k=>by rw [Qyb hs au,ab]
 have p48:(2:Nat) ^ 48=281474976710656:=by decide
 constructor
 ·intro h
  have:s.toNat<2 ^ 48:=by
   refine Nat.lt_pow_two_of_testBit _ fun k hk=>?_
   rcases Nat.lt_or_ge k 64 with hk'|hk'
   ·have:=h k hk'
    rw [ht,decide_eq_false (show ¬ k<48 by omega)] at this
    simpa [tb] using this
   ·exact QUc hs hk'
  rw [p48] at this
  unfold U64 at hs
  omega
 ·intro h k _
  rw [ht]
  rcases Nat.lt_or_ge k 48 with hk|hk
  ·rw [decide_eq_true hk];simp
  ·have:tb s k=false:=by
    unfold tb
    refine Nat.testBit_lt_two_pow (Nat.lt_of_lt_of_le (m:=2 ^ 48) ?_ (Nat.pow_le_pow_right (by decide) hk))
    rw [p48]
    unfold U64 at hs
    omega
   rw [this]
   rfl
theorem queued_eq {v:Job} (h:v.state=1):QB3 v=QK3 v:=by
 unfold QK3
 rw [h]
 simp only [beq_self_eq_true,cond_true]
 unfold QB3
 rw [(Q7g v v.choice).1]
 have et:QL2=Qc2:=rfl
 rw [et]
 cases hp:(v.promise==(-1)) with
 | true =>
  have:v.promise = -1:=by simpa using hp
  have hT:Qc2 v.promise=false:=by rw [this];rfl
  rw [hT]
  unfold bne
  cases (v.start==0) <;> cases (v.limit==0) <;> cases (v.nodes==0) <;> simp
 | false =>
  unfold bne
  cases (v.start==0) <;> cases (v.limit==0) <;> cases (v.nodes==0) <;> simp
theorem running_eq {v:Job} (h:v.state=2) (hn:U64 v.nodes):Qh3 v=QK3 v:=by
 unfold QK3
 rw [h]
 have e1:((2:Int)==1)=false:=rfl
 simp only [beq_self_eq_true,cond_true,e1,cond_false]
 unfold Qh3
 rw [nodes_few hn,allows_eq,Q9e hn]
 have et:QL2=Qc2:=rfl
 rw [et]
 obtain ⟨_,o2,o3⟩:=Q7g v v.choice
 cases ho:(Qc1 v v.choice).2 with
 | false =>
  rw [o2.1 ho]
  rfl
 | true =>
  obtain ⟨w1,w2,w3⟩:=o3 ho
  have hw0:(Qf3 v.shape v.choice==0)=false:=by simp;omega
  rw [hw0,w1]
  simp only [Bool.not_true,Bool.false_or]
  cases v.held with
  | true=>rfl
  | false =>
   cases hs:Qc2 v.start with
   | false=>rfl
   | true =>
    cases Qc2 v.promise with
    | false=>rfl
    | true =>
     have:decide (v.promise<v.start)=decide (v.start > v.promise):=rfl
     rw [this]
     cases decide (v.start > v.promise) with
     | true=>rfl
     | false =>
      cases hl:Qc2 v.limit with
      | false=>rfl
      | true =>
       unfold Qc2 at hs hl
       simp only [Bool.and_eq_true,decide_eq_true_eq] at hs hl
       have q1:w64 (v.limit - v.start)=v.limit - v.start:=wr (by omega)
       have q2:w64 (v.start+Qf3 v.shape v.choice)=v.start+Qf3 v.shape v.choice:=wr (by omega)
       rw [q1,q2]
       have:(v.limit - v.start != Qf3 v.shape v.choice)=(v.limit != v.start+Qf3 v.shape v.choice):=by
        rw [Bool.eq_iff_iff]
        simp only [bne_iff_ne]
        omega
       rw [this]
theorem over_eq {v:Job} (h1:(v.state==1)=false) (h2:(v.state==2)=false):(Qz7 v.state&&QP3 v)=QK3 v:=by
 unfold QK3
 rw [h1,h2]
 have et:QL2=Qc2:=rfl
 have ee:Qz7=QCa:=rfl
 unfold QP3
 rw [et,ee]
 simp only [cond_false,Bool.and_assoc]
theorem ref14_go (j:Job):∀ (l:List Dep) (i:Nat),QI6 j l i=bif l.any (fun y=>decide (y.job >= j.id)) then 140 else (bif !(QK3 j) then 140 else 0)
 | [],i=>rfl
 | x :: r,i=>by
  rw [QI6,List.any_cons]
  cases decide (x.job >= j.id) with
  | true=>rfl
  | false=>simpa using ref14_go j r (i+1)
theorem job_eq (j:Job) (hn:U64 j.nodes):QA3 j=Qf9 j:=by
 unfold QA3 Qf9
 rw [ref14_go,any_Dep]
 have es:QY4 (Qr0 j)=Qb6 ⟨1,0,j.name,j.user,j.account,j.shape,j.prio,true,0,false,j.after,0,0,0⟩:=submission_eq _ _ _ _ _ _
 rw [es]
 have et:QL2=Qc2:=rfl
 rw [et]
 have eu:(j.used != Qo4 j.used)=(decide (j.used<0)||decide (j.used > 1000000000000)):=by
  unfold Qo4 QR5
  grind
 rw [eu]
 have est:(bif (j.state==1) then (bif (!(QB3 j)) then (140:Int) else 0) else bif (j.state==2) then (bif (!(Qh3 j)) then 140 else 0) else bif (!(Qz7 j.state)) then 140 else bif (!(QP3 j)) then 140 else 0)=(bif !(QK3 j) then 140 else 0):=by
  cases h1:(j.state==1) with
  | true =>
   rw [queued_eq (by simpa using h1)]
   rfl
  | false =>
   cases h2:(j.state==2) with
   | true =>
    rw [running_eq (by simpa using h2) hn]
    rfl
   | false =>
    rw [← over_eq h1 h2]
    cases Qz7 j.state <;> cases QP3 j <;> rfl
 rw [est]
 generalize (bif !(QK3 j) then (140:Int) else 0)=Z
 generalize (List.any j.after fun y=>decide (y.job >= j.id))=A
 generalize ((Qb6 ⟨1,0,j.name,j.user,j.account,j.shape,j.prio,true,0,false,j.after,0,0,0⟩)!=0)=B
 generalize decide (j.id<1)=C
 generalize decide (j.id > 99999)=D
 generalize Qc2 j.born=E
 generalize decide (j.used<0)=F
 generalize decide (j.used > 1000000000000)=G
 cases A <;> cases B <;> cases C <;> cases D <;> cases E <;> cases F <;> cases G <;> rfl
theorem table_eq (l:List Job) (hl:l.length<=4294967296) (hn:∀ x ∈ l,U64 x.nodes):QR4 l=Qg9 l:=by
 have h:=ord_eq Job.zero (·.id) (fun x=>QA3 x != 0) 140 40 l hl (QU5 l) QJ6 (fun _=>rfl) (fun _ _ _ _=>rfl) (fun _ _=>rfl) (fun x hx r last i _=>by
   rw [QJ6,job_eq x (hn x hx)]
   rfl) (fun x hx=>(QHb (by simpa using hx)).1) l 0 0 (by simp) (by omega) (by omega) (fun _=>rfl) (fun h=>absurd h (by omega))
 unfold QR4 Qg9
 rw [← h]
 have e:decide ((l.length:Int) > 40)=decide (l.length > 40):=by rw [Bool.eq_iff_iff];simp only [decide_eq_true_eq];omega
 rw [e]
theorem room_eq (s:State) (hs:s.sz) (hn:∀ x ∈ s.jobs,U64 x.nodes):Qm5 s=Qj9 s:=by
 unfold Qm5 Qj9
 rw [Qac,table_eq s.jobs hs.2.1 hn,book_Check_eq s.books hs.2.2.2.2.1]
 unfold Qc2
 have:(decide (s.now<0)||decide (s.now > 1000000)) = !(decide (s.now >= 0)&&decide (s.now<=1000000)):=by
  rw [Bool.eq_iff_iff]
  simp only [Bool.or_eq_true,decide_eq_true_eq,Bool.not_eq_true',Bool.and_eq_false_iff,decide_eq_false_iff_not]
  omega
 rw [this]
theorem plan_eq (s:State) (hs:s.sz) (hn:∀ x ∈ s.jobs,U64 x.nodes):QH3 s=Qh6 s:=by
 unfold QH3 Qh6
 rw [room_eq s hs hn,QZf s.ledger hs.2.2.2.2.2.1]
end Go.Proofs.YtgjcljceccfgjaaGreatDoor
namespace Go.Proofs.YtgjcljceccfgjaaGreatDoor
set_option linter.unusedSimpArgs false
set_option linter.unusedVariables false
open Go.Fw
theorem pow_step (i:Nat) (h:i<63):wu64 ((2:Int) ^ i*2)=(2:Int) ^ (i+1):=by
 rw [← Int.pow_succ]
 exact QL9 (pow_U (by omega))
theorem bit09_go (n:Nat) (hn:n<=63):∀ (m i:Nat),i<=n->n - i<m->(Qd6 (n:Int) m ((2:Int) ^ i) i).1=(2:Int) ^ n
 | 0,_,_,h=>absurd h (by omega)
 | m+1,i,hi,hm=>by
  rw [Qd6]
  rcases Nat.lt_or_ge i n with h|h
  ·rw [decide_eq_true (show (i:Int)<(n:Int) by omega),pow_step i (by omega)]
   exact bit09_go n hn m (i+1) (by omega) (by omega)
  ·obtain rfl:i=n:=by omega
   rw [decide_eq_false (by omega)]
   rfl
theorem bit09 (n:Nat) (hn:n<=63):Qe9 (n:Int)=(2:Int) ^ n:=by
 unfold Qe9 Qk7
 have:=bit09_go n hn (Int.toNat ((n:Int) - (0:Int))+1) 0 (by omega) (by omega)
 simpa using this
theorem bit12_go (n:Nat) (hn:n<=63):∀ (m i:Nat),i<=n->n - i<m->(Qg6 (n:Int) m ((2:Int) ^ i) i).1=(2:Int) ^ n
 | 0,_,_,h=>absurd h (by omega)
 | m+1,i,hi,hm=>by
  rw [Qg6]
  rcases Nat.lt_or_ge i n with h|h
  ·rw [decide_eq_true (show (i:Int)<(n:Int) by omega),Int.mul_comm,pow_step i (by omega)]
   exact bit12_go n hn m (i+1) (by omega) (by omega)
  ·obtain rfl:i=n:=by omega
   rw [decide_eq_false (by omega)]
   rfl
theorem bit12 (n:Nat) (hn:n<=63):Q6a (n:Int)=(2:Int) ^ n:=by
 unfold Q6a Ql7
 have:=bit12_go n hn (Int.toNat ((n:Int) - (0:Int))+1) 0 (by omega) (by omega)
 simpa using this
theorem has_eq {s:Int} (hs:U64 s) (n:Nat):Qkb s (n:Int)=Qf4 s (n:Int):=by
 rw [Qec hs]
 unfold Qkb
 rcases Nat.lt_or_ge n 64 with h|h
 ·rw [decide_eq_false (show ¬ (n:Int)<0 by omega),decide_eq_false (show ¬ (n:Int) > 63 by omega),decide_eq_true h,bit09 n (by omega)]
  simp only [Bool.or_false,cond_false,Bool.true_and]
  obtain ⟨q,rfl⟩:∃ q:Nat,s=(q:Int):=⟨s.toNat,by unfold U64 at hs;omega⟩
  obtain ⟨p,e,e'⟩:=Qy8 n
  have e1:Int.tdiv (q:Int) (p:Int)=((q / p:Nat):Int):=rfl
  have hq:q / p<18446744073709551616:=by
   have:=Nat.div_le_self q p
   unfold U64 at hs
   omega
  rw [e,e1,tb,Int.toNat_natCast,Nat.testBit_eq_decide_div_mod_eq,e']
  generalize q / p=w at *
  rw [QL9 ⟨by omega,by omega⟩]
  have e2 : Int.tmod (w : Int) 2 = ((w % 2 : Nat) : Int) := rfl
  rw [e2,Bool.eq_iff_iff]
  simp
  omega
 ·rw [decide_eq_true (show (n:Int) > 63 by omega),decide_eq_false (show ¬ n<64 by omega)]
  simp
theorem of_go (job st:Int) (l:List Node) (hl:l.length<=64):∀ (r:List Node) (i:Nat),r=l.drop i->i+r.length=l.length ->
  (Qf6 job st r (Qj3 (fun k=>((l.getD k Node.zero).job==job)&&((l.getD k Node.zero).state==st)) i) i).1=Qj3 (fun k=>((l.getD k Node.zero).job==job)&&((l.getD k Node.zero).state==st)) l.length
 | [],i,hr,hlen=>by
  have:i=l.length:=by simpa using hlen
  subst this
  rfl
 | x :: r,i,hr,hlen=>by
  simp only [List.length_cons] at hlen
  have hr':r=l.drop (i+1):=by rw [← List.drop_drop,← hr];rfl
  have hi:l[i]? = some x:=by
   have:=congrArg (fun q=>q[0]?) hr
   simpa [List.getElem?_drop] using this.symm
  have hg:l.getD i Node.zero=x:=by simp [List.getD,hi]
  have ih:=of_go job st l hl r (i+1) hr' (by omega)
  rw [Qf6]
  rw [Qj3,hg] at ih
  cases hc:((x.job==job)&&(x.state==st)) with
  | true =>
   rw [hc] at ih
   simp only [cond_true] at ih ⊢
   have hlt:=QZ8 (fun k=>((l.getD k Node.zero).job==job)&&((l.getD k Node.zero).state==st)) i
   have hu:U64 (Qj3 (fun k=>((l.getD k Node.zero).job==job)&&((l.getD k Node.zero).state==st)) i+(2:Int) ^ i):=by
    have:=Q4e (fun k=>((l.getD k Node.zero).job==job)&&((l.getD k Node.zero).state==st)) (n:=i+1) (by omega)
    rw [Qj3] at this
    simp only [hg,hc,cond_true] at this
    exact this
   rw [bit12 i (by omega),QL9 hu]
   exact ih
  | false =>
   rw [hc] at ih
   exact ih
theorem of_eq (l:List Node) (job st:Int):Q88 l job st=Qh8 l job st:=by
 unfold Qh8
 rw [← Qac]
 cases hc:(QI1 l != 0) with
 | true =>
  unfold Q88 Qd4
  rw [hc]
  rfl
 | false =>
  have hz:QI1 l=0:=by simpa using hc
  have hl:l.length<=64:=by
   unfold QI1 at hz
   cases h1:(((decide ((l.length:Int)<1))||(decide ((l.length:Int) > 48)))||(QE1 l (fun (y:Node)=>(!(Q02 y))))) with
   | true=>rw [h1] at hz;cases hz
   | false =>
    have:=of_decide_eq_false (or_f (or_f h1).1).2
    omega
  obtain ⟨u,b⟩:=Qz8 l (fun (y:Node)=>((y.job==job)&&(y.state==st))) hz hl
  have h:=of_go job st l hl l 0 (by simp) (by omega)
  simp only [cond_false,Q77]
  rw [Qj3] at h
  rw [h]
  refine tb_ext u (Q4e _ hl) fun k _=>?_
  rw [tb_upto]
  exact b k
theorem Qff (s:State) (is:Int->Node->Bool) (hl:s.nodes.length<=64):U64 (Qw3 s is) ∧ ∀ k,tb (Qw3 s is) k=(decide (k<s.nodes.length)&&is (k:Int) (s.nodes.getD k Node.zero)):=by
 have e:Qw3 s is=(Q85 (idxL (fun k x=>is (k:Int) x) s.nodes 0)).1:=by
  unfold Qw3 QQ4
  rw [Qkf (fun k x=>is (k:Int) x) (QS6 is) (fun _ _=>rfl) (fun _ _ _ _=>rfl),List.nil_append]
 rw [e]
 exact set_where (fun k x=>is (k:Int) x) Node.zero s.nodes hl
theorem list_go {s:Int} (hs:U64 s):∀ (m:Nat) (out:List Int) (i:Nat),i<=64->64 - i<m->Q72 s m out i=out++((List.range' i (64 - i)).filter (tb s)).map fun (k:Nat)=>(k:Int)
 | 0,_,_,_,h=>absurd h (by omega)
 | m+1,out,i,hi,hm=>by
  rw [Q72]
  rcases Nat.lt_or_ge i 64 with h|h
  ·have e:64 - i=(64 - (i+1))+1:=by omega
   rw [decide_eq_true (show (i:Int)<64 by omega),and_one hs h,e,List.range'_succ,List.filter_cons]
   cases tb s i with
   | true =>
    simp only [cond_true,if_true,List.map_cons]
    rw [list_go hs m _ (i+1) (by omega) (by omega),List.append_assoc]
    rfl
   | false =>
    simp only [cond_true,cond_false]
    rw [list_go hs m _ (i+1) (by omega) (by omega)]
    rfl
  ·rw [decide_eq_false (show ¬ (i:Int)<64 by omega),show 64 - i=0 by omega]
   simp
theorem list_mem {s:Int} (hs:U64 s) (x:Int):x ∈ QN1 s ↔ ∃ k:Nat,k<64∧tb s k=true∧x=(k:Int):=by
 unfold QN1 Qg4
 rw [list_go hs _ [] 0 (by omega) (by omega)]
 simp only [List.nil_append,List.mem_map,List.mem_filter,List.mem_range']
 constructor
 ·rintro ⟨k,⟨⟨j,hj,rfl⟩,hb⟩,rfl⟩
  exact ⟨_,by omega,hb,rfl⟩
 ·rintro ⟨k,hk,hb,rfl⟩
  exact ⟨k,⟨⟨k,by omega,by omega⟩,hb⟩,rfl⟩
theorem quiet_go (l:List Node):∀ (r:List Int) (i:Nat),QD6 l r i=r.all fun x=>(decide (x<(l.length:Int)))&&((l.getD (Int.toNat x) Node.zero).want==0)
 | [],i=>rfl
 | x :: r,i=>by
  rw [QD6,List.all_cons,quiet_go l r]
  cases ((decide (x<(l.length:Int)))&&((l.getD (Int.toNat x) Node.zero).want==0)) <;> rfl
theorem quiet_iff {l:List Node} {s:Int} (hs:U64 s) (hc:QI1 l=0):QR7 l s=true ↔ ∀ k,k<64->tb s k=true->k<l.length∧(l.getD k Node.zero).want=0:=by
 unfold QR7
 rw [hc,quiet_go]
 show (QN1 s).all _=true ↔ _
 rw [List.all_eq_true]
 constructor
 ·intro h k hk hb
  have:=h (k:Int) ((list_mem hs _).2 ⟨k,hk,hb,rfl⟩)
  simp only [Bool.and_eq_true,decide_eq_true_eq,beq_iff_eq,Int.toNat_natCast] at this
  exact ⟨by omega,this.2⟩
 ·intro h x hx
  obtain ⟨k,hk,hb,rfl⟩:=(list_mem hs _).1 hx
  obtain ⟨h1,h2⟩:=h k hk hb
  simp only [Bool.and_eq_true,decide_eq_true_eq,beq_iff_eq,Int.toNat_natCast]
  exact ⟨by omega,h2⟩
theorem QEb {α β:Type} [BEq α] [LawfulBEq α] (k k':α) (v:β):∀ l:List (α × β),getM k (setM k' v l)=bif k==k' then some v else getM k l
 | []=>rfl
 | p :: r=>by
  rw [setM]
  cases hp:k'==p.1 with
  | true =>
   have e:=eq_of_beq hp
   simp only [cond_true,getM]
   rw [← e]
   cases k==k' <;> rfl
  | false =>
   simp only [cond_false,getM]
   rw [QEb k k' v r]
   cases hk:k==k' with
   | true =>
    have e:=eq_of_beq hk
    subst e
    rw [hp]
    rfl
   | false=>rfl
theorem QH8 (id:Int):∀ (l:List Job) (i:Nat) (c:List (Int × Job)),(∀ x ∈ l,x.state=2->x.id ≠ id)->getM id (QQ0 l i c)=getM id c
 | [],i,c,_=>rfl
 | x :: r,i,c,h=>by
  rw [QQ0]
  have ih:=fun c=>QH8 id r (i+1) c fun y hy=>h y (List.mem_cons_of_mem _ hy)
  cases hs:(x.state==2) with
  | false=>exact ih c
  | true =>
   have hne:=h x (List.mem_cons_self ..) (by simpa using hs)
   show getM id (QQ0 r (i+1) (setM x.id x c))=_
   have hb:(id==x.id)=false:=by simpa using Ne.symm hne
   rw [ih,QEb,hb]
   rfl
theorem Qqa (x:Job) (hs:x.state=2):∀ (l:List Job) (i:Nat) (c:List (Int × Job)),x ∈ l->l.Pairwise (fun a b=>a.id<b.id)->getM x.id (QQ0 l i c)=some x
 | [],i,c,h,_=>nomatch h
 | y :: r,i,c,h,hp=>by
  obtain ⟨h1,h2⟩:=List.pairwise_cons.1 hp
  rw [QQ0]
  rcases List.mem_cons.1 h with rfl|h
  ·rw [beq_iff_eq.2 hs]
   show getM x.id (QQ0 r (i+1) (setM x.id x c))=_
   rw [QH8 x.id r (i+1) _ (fun z hz _=>by have:=h1 z hz;omega),QEb,beq_self_eq_true]
   rfl
  ·cases (y.state==2) with
   | true=>exact Qqa x hs r (i+1) _ h h2
   | false=>exact Qqa x hs r (i+1) _ h h2
theorem at_go (id:Int):∀ (l:List Job) (i:Nat),(∀ x ∈ l,x.id ≠ id)->QL3 id l i = -1
 | [],i,_=>rfl
 | x :: r,i,h=>by
  rw [QL3]
  have:(x.id==id)=false:=by simpa using h x (List.mem_cons_self ..)
  rw [this]
  exact at_go id r (i+1) fun y hy=>h y (List.mem_cons_of_mem _ hy)
theorem at_some (x:Job):∀ (l:List Job) (p i:Nat),l[p]? = some x->l.Pairwise (fun a b=>a.id<b.id)->QL3 x.id l i=((i+p:Nat):Int)
 | [],p,i,h,_=>by simp at h
 | y :: r,p,i,h,hp=>by
  obtain ⟨h1,h2⟩:=List.pairwise_cons.1 hp
  rw [QL3]
  rcases p with _|p
  ·simp at h
   subst h
   simp
  ·have hx:r[p]? = some x:=by simpa using h
   have:=h1 x (List.mem_of_getElem? hx)
   have hne:(y.id==x.id)=false:=by simp;omega
   rw [hne]
   show QL3 x.id r (i+1)=_
   rw [at_some x r p (i+1) hx h2]
   congr 1
   omega
theorem Qnf {s:State} (hp:s.jobs.Pairwise (fun a b=>a.id<b.id)) {x:Job} (hx:x ∈ s.jobs):Qf0 s x.id=if x.state=2 then (x,true) else (Job.zero,false):=by
 obtain ⟨p,hpx⟩:=List.getElem?_of_mem hx
 unfold Qf0 QV6
 rw [at_some x s.jobs p 0 hpx hp,Nat.zero_add]
 have hg:s.jobs.getD p Job.zero=x:=by simp [List.getD,hpx]
 rw [Int.toNat_natCast,hg,decide_eq_false (show ¬ (p:Int)<0 by omega)]
 by_cases h:x.state=2
 ·simp [h]
 ·have:(x.state != 2)=true:=by simpa using h
  rw [this,if_neg h]
  rfl
theorem Qmf {s:State} (id:Int) (h:∀ x ∈ s.jobs,x.id ≠ id):Qf0 s id=(Job.zero,false):=by
 unfold Qf0 QV6
 rw [at_go id s.jobs 0 h]
 rfl
theorem run_get {s:State} (hp:s.jobs.Pairwise (fun a b=>a.id<b.id)) (id:Int):(getM id (QQ0 s.jobs 0 [])).isSome=(Qf0 s id).2∧(getM id (QQ0 s.jobs 0 [])).getD Job.zero=(Qf0 s id).1:=by
 by_cases h:∃ x ∈ s.jobs,x.id=id
 ·obtain ⟨x,hx,rfl⟩:=h
  rw [Qnf hp hx]
  by_cases hs:x.state=2
  ·rw [Qqa x hs s.jobs 0 [] hx hp,if_pos hs]
   exact ⟨rfl,rfl⟩
  ·rw [QH8 x.id s.jobs 0 [],if_neg hs]
   ·exact ⟨rfl,rfl⟩
   ·intro y hy hys e
    obtain ⟨p,hpx⟩:=List.getElem?_of_mem hx
    obtain ⟨q,hqy⟩:=List.getElem?_of_mem hy
    rcases Nat.lt_trichotomy p q with h|h|h
    ·have:=QKe hp p q x y h hpx hqy;omega
    ·subst h;rw [hpx] at hqy;cases hqy;exact hs hys
    ·have:=QKe hp q p y x h hqy hpx;omega
 ·have h':∀ x ∈ s.jobs,x.id ≠ id:=fun x hx e=>h ⟨x,hx,e⟩
  rw [Qmf id h',QH8 id s.jobs 0 [] (fun x hx _=>h' x hx)]
  exact ⟨rfl,rfl⟩
end Go.Proofs.YtgjcljceccfgjaaGreatDoor
namespace Go.Proofs.YtgjcljceccfgjaaGreatDoor
set_option linter.unusedSimpArgs false
set_option linter.unusedVariables false
open Go.Fw
theorem QOf {s:Int} (hs:U64 s) {k:Nat} (hk:k<64):QY2 s (k:Int)=tb s k:=by
 unfold QY2
 rw [has_eq hs,Qec hs,decide_eq_true hk,Bool.true_and]
theorem fine_one (x:Node) (hf:Q94 x=true):(x.want=2->x.state=2)∧(x.want=4->x.state=1):=by
 obtain ⟨st,jb,ep,dr,wa,si,as_⟩:=x
 unfold Q94 at hf
 dsimp only at hf ⊢
 cases h1:((((((decide (ep<0))||(decide (ep > 999999999)))||(decide (si<0)))||(decide (si > 1000000)))||(decide (as_<0)))||(decide (as_ > 1000000))) with
 | true=>rw [h1] at hf;cases hf
 | false =>
  rw [h1] at hf
  simp only [cond_false] at hf
  by_cases h0:st=0
  ·subst h0;simp at hf;omega
  by_cases h4:st=4
  ·subst h4;simp at hf;omega
  have e:((st==0)||(st==4))=false:=by simp [h0,h4]
  rw [e] at hf
  simp only [cond_false] at hf
  cases h2:((decide (jb<1))||(decide (jb > 99999))) with
  | true=>rw [h2] at hf;cases hf
  | false =>
   rw [h2] at hf
   simp only [cond_false] at hf
   by_cases q1:st=1
   ·subst q1;simp at hf;omega
   by_cases q2:st=2
   ·subst q2;simp at hf;omega
   by_cases q3:st=3
   ·subst q3;simp at hf;omega
   simp [q1,q2,q3] at hf
theorem fine_want {l:List Node} (h:QI1 l=0):l.length<=48 ∧ ∀ x ∈ l,(x.want=2->x.state=2)∧(x.want=4->x.state=1):=by
 unfold QI1 at h
 cases h1:(((decide ((l.length:Int)<1))||(decide ((l.length:Int) > 48)))||(QE1 l (fun (y:Node)=>(!(Q02 y))))) with
 | true=>rw [h1] at h;cases h
 | false =>
  obtain ⟨h2,h3⟩:=or_f h1
  have hl:=of_decide_eq_false (or_f h2).2
  rw [any_Node] at h3
  refine ⟨by omega,fun x hx=>?_⟩
  have hf:Q94 x=true:=by
   have:=List.any_eq_false.1 h3 x hx
   rw [fine_eq] at this
   simpa using this
  exact fine_one x hf
theorem job_shape {j:Job} (h:QA3 j=0):QV1 j.shape=0:=by
 unfold QA3 at h
 cases h1:((((((decide (j.id<1))||(decide (j.id > 99999)))||(!(QL2 j.born)))||(j.used != (Qo4 j.used)))||((QY4 (Qr0 j))!=0))||(QH0 j.after (fun (y:Dep)=>(decide (y.job >= j.id))))) with
 | true=>rw [h1] at h;cases h
 | false =>
  have hc:=(or_f (or_f h1).1).2
  have hc:QY4 (Qr0 j)=0:=by simpa using hc
  unfold QY4 at hc
  cases h2:((((decide (((Qr0 j).shape.alts.length:Int) > 6))||(decide (((Qr0 j).after.length:Int) > 4)))||(!(Q78 (Qr0 j))))||(!(Qka (Qr0 j) (Q58 (Qr0 j))))) with
  | true=>rw [h2] at hc;cases hc
  | false =>
   have hf:=(or_f (or_f h2).1).2
   have hf:Q78 (Qr0 j)=true:=by simpa using hf
   unfold Q78 Qr0 at hf
   simp at hf
   grind
def badB (s:State) (r:Resize) (k:Nat):Bool:=(tb r.said k && !tb r.nodes k)||(tb r.nodes k&&(((decide ((k:Int) >= (s.nodes.length:Int)))||((s.nodes.getD k Node.zero).job != r.job))||((s.nodes.getD k Node.zero).state==3)))
def finB (s:State) (r:Resize):Bool:=(Sum.elim id (fun p1:Int × Nat=>bif r.grow then
    (decide ((w64 (((QG0 ((Qf0 s r.job).1.nodes)).length:Int)+((QG0 r.nodes).length:Int)))<=(Qf0 s r.job).1.shape.max))
   else
    ((decide (p1.1 > 0))&&(decide ((w64 (((QG0 ((Qf0 s r.job).1.nodes)).length:Int) - ((QG0 r.nodes).length:Int))) >= (Qf0 s r.job).1.shape.min))))) (QO1 r s.nodes 0 0)
theorem g1_iff (s:State) (r:Resize) (hn:U64 r.nodes) (hs:U64 r.said):∀ (m n:Nat),n<=64->64 - n<m->(Qb5 s r m n=true ↔ (∀ k,n<=k->k<64->badB s r k=false)∧finB s r=true)
 | 0,_,_,h=>absurd h (by omega)
 | m+1,n,hn64,hm=>by
  rw [Qb5]
  rcases Nat.lt_or_ge n 64 with h|h
  ·rw [decide_eq_true (show (n:Int)<64 by omega),QOf hn h,QOf hs h]
   have ih:=g1_iff s r hn hs m (n+1) (by omega) (by omega)
   show (bif (badB s r n) then false else Qb5 s r m (n+1))=true ↔ _
   cases hb:badB s r n with
   | true =>
    refine ⟨fun h=>(by cases h),fun h'=>?_⟩
    have:=h'.1 n (Nat.le_refl _) h
    rw [hb] at this
    cases this
   | false =>
    simp only [cond_false]
    rw [ih]
    refine ⟨fun h'=>⟨fun k hk hk2=>?_,h'.2⟩,fun h'=>⟨fun k hk hk2=>h'.1 k (by omega) hk2,h'.2⟩⟩
    rcases Nat.eq_or_lt_of_le hk with h1|h1
    ·rw [← h1];exact hb
    ·exact h'.1 k h1 hk2
  ·rw [decide_eq_false (show ¬ (n:Int)<64 by omega)]
   show finB s r=true ↔ _
   exact ⟨fun h'=>⟨fun k hk hk2=>absurd hk2 (by omega),h'⟩,fun h'=>h'.2⟩
theorem g2_spec (r:Resize) (hn:U64 r.nodes):∀ (l:List Node) (left:Int) (n:Nat),n+l.length<=64->0<=left->left<=n ->
  (∀ v,QO1 r l left n=Sum.inl v->v=false) ∧
  ((∃ p,QO1 r l left n=Sum.inr p) ↔ ∀ (k:Nat) (x:Node),l[k]? = some x->x.job=r.job->x.state ≠ 3->Qu3 x ((n+k:Nat):Int) r=true) ∧
  (∀ p,QO1 r l left n=Sum.inr p->left<=p.1∧(left<p.1 ↔ ∃ (k:Nat) (x:Node),l[k]? = some x∧x.job=r.job∧x.state=1∧tb r.nodes (n+k)=false))
 | [],left,n,_,_,_=>by
  rw [QO1]
  refine ⟨fun v h=>(by cases h),⟨fun _ k x h=>by simp at h,fun _=>⟨_,rfl⟩⟩,fun p h=>?_⟩
  cases h
  refine ⟨Int.le_refl _,⟨fun h=>absurd h (Int.lt_irrefl _),fun ⟨k,x,h,_⟩=>by simp at h⟩⟩
 | x :: l,left,n,hlen,h0,hle=>by
  simp only [List.length_cons] at hlen
  rw [QO1]
  have sh:∀ (k:Nat),((n+(k+1):Nat):Int)=((n+1+k:Nat):Int):=fun k=>by congr 1;omega
  have sh':∀ (k:Nat),n+(k+1)=n+1+k:=fun k=>by omega
  cases hc:((x.job != r.job)||(x.state==3)) with
  | true =>
   simp only [cond_true]
   have hskip:¬ (x.job=r.job∧x.state ≠ 3):=by
    rintro ⟨h1,h2⟩
    rw [h1] at hc
    simp at hc
    exact h2 hc
   obtain ⟨a,b,c⟩:=g2_spec r hn l left (n+1) (by omega) h0 (by omega)
   refine ⟨a,b.trans ⟨fun h k y hk h1 h2=>?_,fun h k y hk h1 h2=>?_⟩,fun p hp=>⟨(c p hp).1,(c p hp).2.trans ⟨?_,?_⟩⟩⟩
   ·rcases k with _|k
    ·simp at hk;subst hk;exact absurd ⟨h1,h2⟩ hskip
    ·rw [sh];exact h k y (by simpa using hk) h1 h2
   ·rw [← sh];exact h (k+1) y (by simpa using hk) h1 h2
   ·rintro ⟨k,y,hk,h1,h2,h3⟩
    exact ⟨k+1,y,by simpa using hk,h1,h2,by rw [sh'];exact h3⟩
   ·rintro ⟨k,y,hk,h1,h2,h3⟩
    rcases k with _|k
    ·simp at hk;subst hk;exact absurd ⟨h1,by omega⟩ hskip
    ·exact ⟨k,y,by simpa using hk,h1,h2,by rw [← sh'];exact h3⟩
  | false =>
   have hj:x.job=r.job∧x.state ≠ 3:=by
    obtain ⟨h1,h2⟩:=or_f hc
    exact ⟨by simpa using h1,by simpa using h2⟩
   simp only [cond_false]
   cases hm:Qu3 x (n:Int) r with
   | false =>
    refine ⟨fun v h=>(by cases h;rfl),⟨fun ⟨p,h⟩=>(by cases h),fun h=>?_⟩,fun p h=>(by cases h)⟩
    have:=h 0 x rfl hj.1 hj.2
    rw [Nat.add_zero,hm] at this
    cases this
   | true =>
    rw [QOf hn (show n<64 by omega)]
    have hw:w64 (left+1)=left+1:=wr (by omega)
    simp only [Bool.not_true,cond_false]
    have mv':(∀ (k:Nat) (y:Node),l[k]? = some y->y.job=r.job->y.state ≠ 3->Qu3 y ((n+1+k:Nat):Int) r=true) ↔ ∀ (k:Nat) (y:Node),(x :: l)[k]? = some y->y.job=r.job->y.state ≠ 3->Qu3 y ((n+k:Nat):Int) r=true:=by
     constructor
     ·intro h k y hk h1 h2
      rcases k with _|k
      ·simp at hk;subst hk;rw [Nat.add_zero];exact hm
      ·rw [sh];exact h k y (by simpa using hk) h1 h2
     ·intro h k y hk h1 h2
      rw [← sh];exact h (k+1) y (by simpa using hk) h1 h2
    cases hl:((x.state==1)&&(!(tb r.nodes n))) with
    | true =>
     simp only [cond_true]
     rw [hw]
     obtain ⟨a,b,c⟩:=g2_spec r hn l (left+1) (n+1) (by omega) (by omega) (by omega)
     refine ⟨a,b.trans mv',fun p hp=>?_⟩
     obtain ⟨c1,_⟩:=c p hp
     refine ⟨by omega,⟨fun _=>⟨0,x,rfl,hj.1,?_,?_⟩,fun _=>by omega⟩⟩
     ·simp only [Bool.and_eq_true,beq_iff_eq] at hl
      exact hl.1
     ·simp only [Bool.and_eq_true,Bool.not_eq_true'] at hl
      exact hl.2
    | false =>
     simp only [cond_false]
     obtain ⟨a,b,c⟩:=g2_spec r hn l left (n+1) (by omega) h0 (by omega)
     refine ⟨a,b.trans mv',fun p hp=>⟨(c p hp).1,(c p hp).2.trans ⟨?_,?_⟩⟩⟩
     ·rintro ⟨k,y,hk,h1,h2,h3⟩
      exact ⟨k+1,y,by simpa using hk,h1,h2,by rw [sh'];exact h3⟩
     ·rintro ⟨k,y,hk,h1,h2,h3⟩
      rcases k with _|k
      ·simp at hk
       subst hk
       rw [Nat.add_zero] at h3
       rw [h2,h3] at hl
       cases hl
      ·exact ⟨k,y,by simpa using hk,h1,h2,by rw [← sh'];exact h3⟩
end Go.Proofs.YtgjcljceccfgjaaGreatDoor
namespace Go.Proofs.YtgjcljceccfgjaaGreatDoor
set_option linter.unusedSimpArgs false
set_option linter.unusedVariables false
open Go.Fw
section
variable (s:State) (r:Resize) (j:Job)
def AskP (c:Int):Prop:=∀ k,k<64->((k<s.nodes.length∧(s.nodes.getD k Node.zero).job=r.job∧(s.nodes.getD k Node.zero).want=c) ↔ (tb r.nodes k=true∧tb r.said k=false))
def QuiP:Prop:=∀ k,k<64->tb r.said k=true->k<s.nodes.length∧(s.nodes.getD k Node.zero).want=0
def SubP:Prop:=∀ k,k<64->tb r.said k=true->tb r.nodes k=true
def SameP:Prop:=∀ k,k<64->(tb r.nodes k=true ↔ (k<s.nodes.length∧(s.nodes.getD k Node.zero).job=r.job∧(s.nodes.getD k Node.zero).state=2))
def InP:Prop:=∀ k,k<64->tb r.nodes k=true->tb j.nodes k=true
def BaseP:Prop:=j.shape.kind=3∧r.nodes ≠ 0∧0<=r.since∧r.since<=1000000
def GrowP:Prop:=w64 ((QS1 j.nodes)+(QS1 r.nodes))<=j.shape.max
def ShrP:Prop:=w64 ((QS1 j.nodes) - (QS1 r.nodes)) >= j.shape.min
theorem Qqc {x y:Int} (hx:U64 x) (hy:U64 y):((wu64 (BitVec.ofInt 64 x &&& ~~~(BitVec.ofInt 64 y)).toNat)==0)=true ↔ ∀ k,k<64->tb x k=true->tb y k=true:=by
 rw [Qna (Qoc _)]
 refine ⟨fun h k hk hb=>?_,fun h k hk=>?_⟩
 ·have:=h k hk
  rw [Qyb hx hy,hb] at this
  simpa using this
 ·rw [Qyb hx hy]
  cases hb:tb x k with
  | false=>rfl
  | true=>rw [h k hk hb];rfl
theorem ask_iff (hn:U64 r.nodes) (hs:U64 r.said) (hl:s.nodes.length<=64) (c:Int) :
  (Qw3 s (fun (y:Int) (y1:Node)=>((y1.job==r.job)&&(y1.want==c)))=wu64 (BitVec.ofInt 64 r.nodes &&& ~~~(BitVec.ofInt 64 r.said)).toNat) ↔ AskP s r c:=by
 obtain ⟨u,b⟩:=Qff s (fun (y:Int) (y1:Node)=>((y1.job==r.job)&&(y1.want==c))) hl
 have key:∀ k,(tb (Qw3 s (fun (y:Int) (y1:Node)=>((y1.job==r.job)&&(y1.want==c)))) k=tb (wu64 (BitVec.ofInt 64 r.nodes &&& ~~~(BitVec.ofInt 64 r.said)).toNat) k) ↔ ((k<s.nodes.length∧(s.nodes.getD k Node.zero).job=r.job∧(s.nodes.getD k Node.zero).want=c) ↔ (tb r.nodes k=true∧tb r.said k=false)):=by
  intro k
  rw [b,Qyb hn hs,Bool.eq_iff_iff]
  simp
 constructor
 ·intro h k hk
  exact (key k).1 (by rw [h])
 ·intro h
  exact tb_ext u (Qoc _) fun k hk=>(key k).2 (h k hk)
theorem same_iff (hn:U64 r.nodes) (hc:QI1 s.nodes=0) (hl:s.nodes.length<=64):(r.nodes=Q88 s.nodes r.job 2) ↔ SameP s r:=by
 obtain ⟨u,b⟩:=Qz8 s.nodes (fun (y:Node)=>((y.job==r.job)&&(y.state==2))) hc hl
 have key:∀ k,(tb r.nodes k=tb (Q88 s.nodes r.job 2) k) ↔ (tb r.nodes k=true ↔ (k<s.nodes.length∧(s.nodes.getD k Node.zero).job=r.job∧(s.nodes.getD k Node.zero).state=2)):=by
  intro k
  unfold Q88
  rw [b,Bool.eq_iff_iff]
  simp
 constructor
 ·intro h k hk
  exact (key k).1 (by rw [← h])
 ·intro h
  exact tb_ext hn u fun k hk=>(key k).2 (h k hk)
theorem prog_iff (hn:U64 r.nodes) (hs:U64 r.said) (hj:U64 j.nodes) (hc:QI1 s.nodes=0) (hl:s.nodes.length<=64) :
  Q44 s r j=true ↔ BaseP r j∧SubP r∧QuiP s r∧(if r.grow=true then AskP s r 2∧SameP s r∧GrowP r j else AskP s r 4∧InP r j∧ShrP r j):=by
 have k1:∀ c,Qn6 s r j c=true ↔ AskP s r c∧QuiP s r∧(if r.grow=true then SameP s r∧GrowP r j else InP r j∧ShrP r j):=by
  intro c
  unfold Qn6
  cases hcnd:(((Qw3 s (fun (y:Int) (y1:Node)=>((y1.job==r.job)&&(y1.want==c))))!=(wu64 (BitVec.ofInt 64 r.nodes &&& ~~~(BitVec.ofInt 64 r.said)).toNat))||(!(QR7 s.nodes r.said))) with
  | true =>
   refine ⟨fun h=>(by cases h),fun ⟨h1,h2,_⟩=>?_⟩
   have e1:=(ask_iff s r hn hs hl c).2 h1
   have e2:=(quiet_iff hs hc).2 h2
   rw [e1,e2] at hcnd
   simp at hcnd
  | false =>
   obtain ⟨h1,h2⟩:=or_f hcnd
   have e1:AskP s r c:=(ask_iff s r hn hs hl c).1 (by simpa using h1)
   have e2:QuiP s r:=(quiet_iff hs hc).1 (by simpa using h2)
   simp only [cond_false]
   cases hg:r.grow with
   | true =>
    simp only [cond_true,Bool.and_eq_true,beq_iff_eq,decide_eq_true_eq,if_true]
    rw [same_iff s r hn hc hl]
    exact ⟨fun h=>⟨e1,e2,h⟩,fun h=>h.2.2⟩
   | false =>
    simp only [cond_false,Bool.and_eq_true,decide_eq_true_eq]
    rw [Qqc hn hj]
    exact ⟨fun h=>⟨e1,e2,h⟩,fun h=>h.2.2⟩
 unfold Q44
 cases hcnd:(((((j.shape.kind != 3)||(r.nodes==0))||((wu64 (BitVec.ofInt 64 r.said &&& ~~~(BitVec.ofInt 64 r.nodes)).toNat)!=0))||(decide (r.since<0)))||(decide (r.since > 1000000))) with
 | true =>
  refine ⟨fun h=>(by cases h),fun ⟨⟨h1,h2,h3,h4⟩,h5,_⟩=>?_⟩
  have e1:=(Qqc hs hn).2 h5
  have e1':((wu64 (BitVec.ofInt 64 r.said &&& ~~~(BitVec.ofInt 64 r.nodes)).toNat)!=0)=false:=by unfold bne;rw [e1];rfl
  rw [h1,e1',decide_eq_false (by omega),decide_eq_false (by omega)] at hcnd
  simp at hcnd
  exact absurd hcnd h2
 | false =>
  obtain ⟨h1,h2⟩:=or_f hcnd
  obtain ⟨h3,h4⟩:=or_f h1
  obtain ⟨h5,h6⟩:=or_f h3
  obtain ⟨h7,h8⟩:=or_f h5
  have b:BaseP r j:=⟨by simpa using h7,by simpa using h8,by have:=of_decide_eq_false h4;omega,by have:=of_decide_eq_false h2;omega⟩
  have sb:SubP r:=(Qqc hs hn).1 (by unfold bne at h6;simpa using h6)
  simp only [cond_false]
  cases hg:r.grow with
  | true =>
   simp only [cond_true]
   rw [k1,hg]
   simp only [if_true]
   exact ⟨fun ⟨a,q,c⟩=>⟨b,sb,q,a,c⟩,fun ⟨_,_,q,a,c⟩=>⟨a,q,c⟩⟩
  | false =>
   simp only [cond_false]
   rw [k1,hg]
   exact ⟨fun ⟨a,q,c⟩=>⟨b,sb,q,a,c⟩,fun ⟨_,_,q,a,c⟩=>⟨a,q,c⟩⟩
def OwnP:Prop:=∀ k,k<64->tb r.nodes k=true->k<s.nodes.length∧(s.nodes.getD k Node.zero).job=r.job∧(s.nodes.getD k Node.zero).state ≠ 3
def MovP:Prop:=∀ k,k<s.nodes.length->(s.nodes.getD k Node.zero).job=r.job->(s.nodes.getD k Node.zero).state ≠ 3->Qu3 (s.nodes.getD k Node.zero) (k:Int) r=true
def LeftP:Prop:=∃ k,k<s.nodes.length∧(s.nodes.getD k Node.zero).job=r.job∧(s.nodes.getD k Node.zero).state=1∧tb r.nodes k=false
theorem get_iff {α:Type} (d:α) (l:List α) (p:Nat->α->Prop):(∀ (k:Nat) (x:α),l[k]? = some x->p k x) ↔ ∀ k,k<l.length->p k (l.getD k d):=by
 constructor
 ·intro h k hk
  exact h k _ (by simp [List.getD,List.getElem?_eq_getElem hk])
 ·intro h k x hx
  have hk:=(List.getElem?_eq_some_iff.1 hx).1
  have:=h k hk
  rw [List.getD,hx] at this
  exact this
theorem get_ex {α:Type} (d:α) (l:List α) (p:Nat->α->Prop):(∃ (k:Nat) (x:α),l[k]? = some x∧p k x) ↔ ∃ k,k<l.length∧p k (l.getD k d):=by
 constructor
 ·rintro ⟨k,x,hx,h⟩
  refine ⟨k,(List.getElem?_eq_some_iff.1 hx).1,?_⟩
  rw [List.getD,hx]
  exact h
 ·rintro ⟨k,hk,h⟩
  exact ⟨k,_,by simp [List.getD,List.getElem?_eq_getElem hk],h⟩
theorem ref_iff (hn:U64 r.nodes) (hs:U64 r.said) (hj:U64 j.nodes) (hl:s.nodes.length<=64) (hrun:Qf0 s r.job=(j,true)) :
  QZ2 s r=true ↔ BaseP r j∧SubP r∧OwnP s r∧MovP s r∧(if r.grow=true then GrowP r j else LeftP s r∧ShrP r j):=by
 obtain ⟨g1,g2,g3⟩:=g2_spec r hn s.nodes 0 0 (by omega) (by omega) (by omega)
 have hmov:(∃ p,QO1 r s.nodes 0 0=Sum.inr p) ↔ MovP s r:=by
  rw [g2]
  have:=get_iff Node.zero s.nodes (fun k x=>x.job=r.job->x.state ≠ 3->Qu3 x ((0+k:Nat):Int) r=true)
  rw [this]
  unfold MovP
  simp only [Nat.zero_add]
 have hleft:∀ p,QO1 r s.nodes 0 0=Sum.inr p->(decide (p.1 > 0)=true ↔ LeftP s r):=by
  intro p hp
  have:=(g3 p hp).2
  rw [decide_eq_true_eq,gt_iff_lt,this]
  have:=get_ex Node.zero s.nodes (fun k x=>x.job=r.job∧x.state=1∧tb r.nodes (0+k)=false)
  rw [this]
  unfold LeftP
  simp only [Nat.zero_add]
 have hfin:finB s r=true ↔ MovP s r∧(if r.grow=true then GrowP r j else LeftP s r∧ShrP r j):=by
  unfold finB
  rw [hrun]
  simp only
  rw [← Q9e hj,← Q9e hn]
  cases hg:QO1 r s.nodes 0 0 with
  | inl v =>
   have hv:=g1 v hg
   subst hv
   refine ⟨fun h=>(by cases h),fun h=>?_⟩
   obtain ⟨p,hp⟩:=hmov.2 h.1
   rw [hg] at hp
   cases hp
  | inr p =>
   have hm:=hmov.1 ⟨p,hg⟩
   have hlp:=hleft p hg
   simp only [Sum.elim_inr]
   cases r.grow with
   | true =>
    simp only [cond_true,decide_eq_true_eq,if_true]
    exact ⟨fun h=>⟨hm,h⟩,fun h=>h.2⟩
   | false =>
    simp only [cond_false,Bool.and_eq_true]
    rw [hlp,decide_eq_true_eq]
    exact ⟨fun h=>⟨hm,h⟩,fun h=>h.2⟩
 have hbad:(∀ k,0<=k->k<64->badB s r k=false) ↔ SubP r∧OwnP s r:=by
  constructor
  ·intro h
   refine ⟨fun k hk hb=>?_,fun k hk hb=>?_⟩
   ·have:=(or_f (h k (Nat.zero_le _) hk)).1
    rw [hb] at this
    simpa using this
   ·have:=(or_f (h k (Nat.zero_le _) hk)).2
    rw [hb] at this
    simp only [Bool.true_and] at this
    obtain ⟨h1,h2⟩:=or_f this
    obtain ⟨h3,h4⟩:=or_f h1
    have h3:=of_decide_eq_false h3
    exact ⟨by omega,by simpa using h4,by simpa using h2⟩
  ·rintro ⟨h1,h2⟩ k _ hk
   unfold badB
   cases hb:tb r.nodes k with
   | true =>
    obtain ⟨q1,q2,q3⟩:=h2 k hk hb
    have q3':((s.nodes.getD k Node.zero).state==3)=false:=beq_eq_false_iff_ne.2 q3
    rw [q2,decide_eq_false (by omega),q3']
    simp
   | false =>
    cases ha:tb r.said k with
    | true=>rw [h1 k hk ha] at hb;cases hb
    | false=>rfl
 have hg1:=g1_iff s r hn hs ((Int.toNat (64 - (0:Int)))+1) 0 (by omega) (by omega)
 unfold QZ2
 rw [hrun]
 simp only
 cases hcnd:(((((!true)||(j.shape.kind != 3))||(r.nodes==0))||(decide (r.since<0)))||(decide (r.since > 1000000))) with
 | true =>
  refine ⟨fun h=>(by cases h),fun ⟨⟨h1,h2,h3,h4⟩,_⟩=>?_⟩
  rw [h1,decide_eq_false (by omega),decide_eq_false (by omega)] at hcnd
  simp at hcnd
  exact absurd hcnd h2
 | false =>
  obtain ⟨h1,h2⟩:=or_f hcnd
  obtain ⟨h3,h4⟩:=or_f h1
  obtain ⟨h5,h6⟩:=or_f h3
  have b:BaseP r j:=⟨by simpa using h5,by simpa using h6,by have:=of_decide_eq_false h4;omega,by have:=of_decide_eq_false h2;omega⟩
  simp only [cond_false]
  rw [hg1,hbad,hfin]
  exact ⟨fun ⟨⟨a,c⟩,d,e⟩=>⟨b,a,c,d,e⟩,fun ⟨_,a,c,d,e⟩=>⟨⟨a,c⟩,d,e⟩⟩
theorem Qle (hn:U64 r.nodes) (hs:U64 r.said) (hg:r.grow=true) {k:Nat} (hk:k<64) (x:Node):Qu3 x (k:Int) r=true ↔ (tb r.nodes k=true ↔ x.state=2)∧(tb r.nodes k=true->(tb r.said k=true∧x.want=0)∨(tb r.said k=false∧x.want=2)):=by
 unfold Qu3
 rw [hg,QOf hn hk,QOf hs hk]
 simp only [cond_true]
 cases tb r.nodes k <;> cases tb r.said k <;> by_cases h:x.state=2 <;> simp [h]
theorem Q2g (hn:U64 r.nodes) (hs:U64 r.said) (hg:r.grow=false) {k:Nat} (hk:k<64) (x:Node):Qu3 x (k:Int) r=true ↔ (tb r.nodes k=true->x.state=1)∧(tb r.nodes k=false->x.want ≠ 4)∧(tb r.nodes k=true->(tb r.said k=true∧x.want=0)∨(tb r.said k=false∧x.want=4)):=by
 unfold Qu3
 rw [hg,QOf hn hk,QOf hs hk]
 simp only [cond_false]
 cases tb r.nodes k <;> cases tb r.said k <;> by_cases h:x.state=1 <;> by_cases h4:x.want=4 <;> simp [h,h4]
theorem resize_eq (hn:U64 r.nodes) (hs:U64 r.said) (hj:U64 j.nodes) (hc:QI1 s.nodes=0) (hrun:Qf0 s r.job=(j,true)) (hjc:QA3 j=0)
  (hb:∀ k,tb j.nodes k=true ↔ (k<s.nodes.length∧(s.nodes.getD k Node.zero).job=r.job∧(s.nodes.getD k Node.zero).state=1)):Q44 s r j=QZ2 s r:=by
 obtain ⟨hl48,hfw⟩:=fine_want hc
 have hl:s.nodes.length<=64:=by omega
 have hw:∀ k,k<s.nodes.length->((s.nodes.getD k Node.zero).want=2->(s.nodes.getD k Node.zero).state=2)∧((s.nodes.getD k Node.zero).want=4->(s.nodes.getD k Node.zero).state=1):=by
  intro k hk
  have hm:s.nodes.getD k Node.zero ∈ s.nodes:=by
   rw [List.getD,List.getElem?_eq_getElem hk]
   exact List.getElem_mem _
  exact hfw _ hm
 rw [Bool.eq_iff_iff,prog_iff s r j hn hs hj hc hl,ref_iff s r j hn hs hj hl hrun]
 cases hg:r.grow with
 | true =>
  simp only [if_true]
  constructor
  ·rintro ⟨hB,hS,hQ,hA,hSm,hG⟩
   refine ⟨hB,hS,fun k hk hkn=>?_,fun k hk h1 h2=>?_,hG⟩
   ·obtain ⟨a,b,c⟩:=(hSm k hk).1 hkn
    exact ⟨a,b,by omega⟩
   ·have hk64:k<64:=by omega
    rw [Qle r hn hs hg hk64]
    refine ⟨⟨fun h=>((hSm k hk64).1 h).2.2,fun h=>(hSm k hk64).2 ⟨hk,h1,h⟩⟩,fun h=>?_⟩
    cases ha:tb r.said k with
    | true=>exact .inl ⟨rfl,(hQ k hk64 ha).2⟩
    | false=>exact .inr ⟨rfl,((hA k hk64).2 ⟨h,ha⟩).2.2⟩
  ·rintro ⟨hB,hS,hO,hM,hG⟩
   have mv:∀ k,k<64->tb r.nodes k=true->k<s.nodes.length∧(s.nodes.getD k Node.zero).job=r.job∧(s.nodes.getD k Node.zero).state=2∧((tb r.said k=true∧(s.nodes.getD k Node.zero).want=0)∨(tb r.said k=false∧(s.nodes.getD k Node.zero).want=2)):=by
    intro k hk h
    obtain ⟨a,b,c⟩:=hO k hk h
    obtain ⟨d,e⟩:=(Qle r hn hs hg hk _).1 (hM k a b c)
    exact ⟨a,b,d.1 h,e h⟩
   have back:∀ k,k<s.nodes.length->(s.nodes.getD k Node.zero).job=r.job->(s.nodes.getD k Node.zero).state=2->tb r.nodes k=true:=by
    intro k hk h1 h2
    exact ((Qle r hn hs hg (by omega) _).1 (hM k hk h1 (by omega))).1.2 h2
   refine ⟨hB,hS,fun k hk ha=>?_,fun k hk=>⟨fun ⟨a,b,c⟩=>?_,fun ⟨a,b⟩=>?_⟩,fun k hk=>⟨fun h=>?_,fun ⟨a,b,c⟩=>back k a b c⟩,hG⟩
   ·obtain ⟨a,b,c,d⟩:=mv k hk (hS k hk ha)
    rcases d with d|d
    ·exact ⟨a,d.2⟩
    ·rw [ha] at d;cases d.1
   ·have hin:=back k a b ((hw k a).1 c)
    refine ⟨hin,?_⟩
    obtain ⟨_,_,_,d⟩:=mv k hk hin
    rcases d with d|d
    ·omega
    ·exact d.1
   ·obtain ⟨p,q,_,d⟩:=mv k hk a
    rcases d with d|d
    ·rw [b] at d;cases d.1
    ·exact ⟨p,q,d.2⟩
   ·obtain ⟨a,b,c,_⟩:=mv k hk h
    exact ⟨a,b,c⟩
 | false =>
  have ef:(if false=true then GrowP r j else LeftP s r∧ShrP r j)=(LeftP s r∧ShrP r j):=by simp
  have ef':(if false=true then AskP s r 2∧SameP s r∧GrowP r j else AskP s r 4∧InP r j∧ShrP r j)=(AskP s r 4∧InP r j∧ShrP r j):=by simp
  rw [ef,ef']
  constructor
  ·rintro ⟨hB,hS,hQ,hA,hI,hSh⟩
   have inb:∀ k,k<64->tb r.nodes k=true->k<s.nodes.length∧(s.nodes.getD k Node.zero).job=r.job∧(s.nodes.getD k Node.zero).state=1:=fun k hk h=>(hb k).1 (hI k hk h)
   refine ⟨hB,hS,fun k hk hkn=>?_,fun k hk h1 h2=>?_,?_,hSh⟩
   ·obtain ⟨a,b,c⟩:=inb k hk hkn
    exact ⟨a,b,by omega⟩
   ·have hk64:k<64:=by omega
    rw [Q2g r hn hs hg hk64]
    refine ⟨fun h=>(inb k hk64 h).2.2,fun h h4=>?_,fun h=>?_⟩
    ·have:=((hA k hk64).1 ⟨hk,h1,h4⟩).1
     rw [h] at this
     cases this
    ·cases ha:tb r.said k with
     | true=>exact .inl ⟨rfl,(hQ k hk64 ha).2⟩
     | false=>exact .inr ⟨rfl,((hA k hk64).2 ⟨h,ha⟩).2.2⟩
   ·apply Classical.byContradiction
    intro hno
    have heq:j.nodes=r.nodes:=tb_ext hj hn fun k hk=>by
     rw [Bool.eq_iff_iff]
     refine ⟨fun h=>?_,fun h=>hI k hk h⟩
     obtain ⟨a,b,c⟩:=(hb k).1 h
     cases hx:tb r.nodes k with
     | true=>rfl
     | false=>exact absurd ⟨k,a,b,c,hx⟩ hno
    unfold ShrP at hSh
    rw [heq,Int.sub_self] at hSh
    have hz:w64 0=0:=wr (by omega)
    rw [hz] at hSh
    have hmin:=Ql9 (s:=j.shape) (by rw [job_shape hjc];rfl) (by rw [hB.1];rfl)
    omega
  ·rintro ⟨hB,hS,hO,hM,_,hSh⟩
   have mv:∀ k,k<64->tb r.nodes k=true->k<s.nodes.length∧(s.nodes.getD k Node.zero).job=r.job∧(s.nodes.getD k Node.zero).state=1∧((tb r.said k=true∧(s.nodes.getD k Node.zero).want=0)∨(tb r.said k=false∧(s.nodes.getD k Node.zero).want=4)):=by
    intro k hk h
    obtain ⟨a,b,c⟩:=hO k hk h
    obtain ⟨d,_,e⟩:=(Q2g r hn hs hg hk _).1 (hM k a b c)
    exact ⟨a,b,d h,e h⟩
   refine ⟨hB,hS,fun k hk ha=>?_,fun k hk=>⟨fun ⟨a,b,c⟩=>?_,fun ⟨a,b⟩=>?_⟩,fun k hk h=>?_,hSh⟩
   ·obtain ⟨a,b,c,d⟩:=mv k hk (hS k hk ha)
    rcases d with d|d
    ·exact ⟨a,d.2⟩
    ·rw [ha] at d;cases d.1
   ·have hst:=(hw k a).2 c
    obtain ⟨_,m2,_⟩:=(Q2g r hn hs hg hk _).1 (hM k a b (by omega))
    have hin:tb r.nodes k=true:=by
     cases hx:tb r.nodes k with
     | true=>rfl
     | false=>exact absurd c (m2 hx)
    refine ⟨hin,?_⟩
    obtain ⟨_,_,_,d⟩:=mv k hk hin
    rcases d with d|d
    ·omega
    ·exact d.1
   ·obtain ⟨p,q,_,d⟩:=mv k hk a
    rcases d with d|d
    ·rw [b] at d;cases d.1
    ·exact ⟨p,q,d.2⟩
   ·obtain ⟨a,b,c,_⟩:=mv k hk h
    exact (hb k).2 ⟨a,b,c⟩
end
end Go.Proofs.YtgjcljceccfgjaaGreatDoor
namespace Go.Proofs.YtgjcljceccfgjaaGreatDoor
set_option linter.unusedSimpArgs false
set_option linter.unusedVariables false
open Go.Fw
theorem okloop (len:Nat) (c:Nat->Bool) (G:Nat->Bool->Nat->Bool × Nat) (g:∀ m ok i,G (m+1) ok i=bif ((decide ((i:Int)<(len:Int)))&&ok) then G m (c i) (i+1) else (ok,i)) :
  ∀ (m:Nat) (ok:Bool) (i:Nat),i<=len->len - i<m->((G m ok i).1=true ↔ ok=true ∧ ∀ k,i<=k->k<len->c k=true)
 | 0,_,_,_,h=>absurd h (by omega)
 | m+1,ok,i,hi,hm=>by
  rw [g]
  rcases Nat.lt_or_ge i len with h|h
  ·rw [decide_eq_true (show (i:Int)<(len:Int) by omega)]
   cases ok with
   | false=>exact ⟨fun h=>(by cases h),fun h=>(by cases h.1)⟩
   | true =>
    simp only [Bool.and_true,cond_true,true_and]
    rw [okloop len c G g m (c i) (i+1) (by omega) (by omega)]
    refine ⟨fun ⟨h1,h2⟩ k hk hk2=>?_,fun h'=>⟨h' i (Nat.le_refl _) h,fun k hk hk2=>h' k (by omega) hk2⟩⟩
    rcases Nat.eq_or_lt_of_le hk with h3|h3
    ·rw [← h3];exact h1
    ·exact h2 k h3 hk2
  ·rw [decide_eq_false (show ¬ (i:Int)<(len:Int) by omega)]
   exact ⟨fun h'=>⟨h',fun k hk hk2=>absurd hk2 (by omega)⟩,fun h'=>h'.1⟩
theorem last_job:∀ (l:List Job) (x:Int) (i:Nat),(Qd2 l x i).1=Q43 l x i
 | [],_,_=>rfl
 | y :: r,x,i=>by rw [Qd2,Q43];exact last_job r _ _
theorem last_book:∀ (l:List Book) (x:Int) (i:Nat),(QK4 l x i).1=Q53 l x i
 | [],_,_=>rfl
 | y :: r,x,i=>by rw [QK4,Q53];exact last_book r _ _
theorem next_eq (n l:Int):QF1 n l=QO5 n l:=by
 unfold QF1 QO5
 rw [Bool.eq_iff_iff]
 simp only [Bool.and_eq_true,decide_eq_true_eq]
 omega
def QUd (c:List (Int × Resize)) (l:List Resize):List (Int × Resize):=l.foldl (fun c r=>setM r.job r c) c
section
variable (s:State)
def rzP (c:List (Int × Job)) (k:Nat):Bool:=!(((!(getM (s.resizes.getD k Resize.zero).job c).isSome)||((decide ((k:Int) > 0))&&(decide ((s.resizes.getD (Int.toNat (w64 ((k:Int) - 1))) Resize.zero).job >= (s.resizes.getD k Resize.zero).job))))||(!(Q44 s (s.resizes.getD k Resize.zero) ((getM (s.resizes.getD k Resize.zero).job c).getD Job.zero))))
def heldB (c:List (Int × Job)):Bool:=c.all (fun (en:Int × Job)=>(bif ((QG3 s.nodes en.1)!=en.2.nodes) then false else true))
theorem g4_iff (a b:Int) (c:List (Int × Job)):∀ (l:List Resize) (i:Nat) (c2:List (Int × Resize)),l=s.resizes.drop i->i+l.length=s.resizes.length ->
  (Qt2 s a b c l i c2=0 ↔ (∀ k,i<=k->k<s.resizes.length->rzP s c k=true)∧QF1 s.nextJob a=true∧QF1 s.nextBook b=true∧QN3 s c (QUd c2 l)=true∧heldB s c=true) ∧
  (Qt2 s a b c l i c2=0∨Qt2 s a b c l i c2=141)
 | [],i,c2,hl,hlen=>by
  simp only [List.length_nil,Nat.add_zero] at hlen
  rw [Qt2]
  show ((bif ((((!true)||(!(QF1 s.nextJob a)))||(!(QF1 s.nextBook b)))||(!(QN3 s c c2))) then (141:Int) else bif heldB s c then 0 else 141)=0 ↔ _)∧((bif ((((!true)||(!(QF1 s.nextJob a)))||(!(QF1 s.nextBook b)))||(!(QN3 s c c2))) then (141:Int) else bif heldB s c then 0 else 141)=0∨(bif ((((!true)||(!(QF1 s.nextJob a)))||(!(QF1 s.nextBook b)))||(!(QN3 s c c2))) then (141:Int) else bif heldB s c then 0 else 141)=141)
  have hv:(∀ k,i<=k->k<s.resizes.length->rzP s c k=true):=fun k h1 h2=>absurd h2 (by omega)
  show _∧_
  unfold QUd
  simp only [List.foldl_nil]
  cases QF1 s.nextJob a <;> cases QF1 s.nextBook b <;> cases QN3 s c c2 <;> cases heldB s c <;> first|(simp;done)|(simp;exact hv)
 | x :: r,i,c2,hl,hlen=>by
  simp only [List.length_cons] at hlen
  have hr':r=s.resizes.drop (i+1):=by rw [← List.drop_drop,← hl];rfl
  have hi:s.resizes[i]? = some x:=by
   have:=congrArg (fun q=>q[0]?) hl
   simpa [List.getElem?_drop] using this.symm
  have hg:s.resizes.getD i Resize.zero=x:=by rw [List.getD,hi];rfl
  rw [Qt2]
  have hz:(((!(getM x.job c).isSome)||((decide ((i:Int) > 0))&&(decide ((s.resizes.getD (Int.toNat (w64 ((i:Int) - 1))) Resize.zero).job >= x.job))))||(!(Q44 s x ((getM x.job c).getD Job.zero)))) = !(rzP s c i):=by
   unfold rzP
   rw [hg,Bool.not_not]
  rw [hz]
  obtain ⟨ih1,ih2⟩:=g4_iff a b c r (i+1) (setM x.job x c2) hr' (by omega)
  cases hq:rzP s c i with
  | false =>
   refine ⟨⟨fun h=>(by cases h),fun h=>?_⟩,.inr rfl⟩
   have:=h.1 i (Nat.le_refl _) (by omega)
   rw [hq] at this
   cases this
  | true =>
   simp only [Bool.not_true,cond_false]
   refine ⟨ih1.trans ?_,ih2⟩
   show _∧_∧_∧QN3 s c (QUd c2 (x :: r))=true∧_ ↔ _
   refine and_congr ⟨fun h k hk hk2=>?_,fun h k hk hk2=>h k (by omega) hk2⟩ Iff.rfl
   rcases Nat.eq_or_lt_of_le hk with h3|h3
   ·rw [← h3];exact hq
   ·exact h k h3 hk2
theorem setM_only {α β:Type} [BEq α] (k:α) (v:β):∀ (l:List (α × β)) (e:α × β),e ∈ setM k v l->e=(k,v)∨e ∈ l
 | [],e,h=>by simp [setM] at h;exact .inl h
 | p :: r,e,h=>by
  rw [setM] at h
  cases hk:k==p.1 with
  | true =>
   rw [hk] at h
   rcases List.mem_cons.1 h with h|h
   ·exact .inl h
   ·exact .inr (List.mem_cons_of_mem _ h)
  | false =>
   rw [hk] at h
   rcases List.mem_cons.1 h with h|h
   ·exact .inr (by rw [h];exact List.mem_cons_self ..)
   ·rcases setM_only k v r e h with h|h
    ·exact .inl h
    ·exact .inr (List.mem_cons_of_mem _ h)
theorem Qsb:∀ (l:List Job) (i:Nat) (c:List (Int × Job)) (e:Int × Job),e ∈ QQ0 l i c->e ∈ c ∨ ∃ x ∈ l,x.state=2∧e=(x.id,x)
 | [],_,_,_,h=>.inl h
 | x :: r,i,c,e,h=>by
  rw [QQ0] at h
  cases hs:(x.state==2) with
  | true =>
   rw [hs] at h
   rcases Qsb r (i+1) _ e h with h|⟨y,hy,q⟩
   ·rcases setM_only _ _ _ _ h with h|h
    ·exact .inr ⟨x,List.mem_cons_self ..,by simpa using hs,h⟩
    ·exact .inl h
   ·exact .inr ⟨y,List.mem_cons_of_mem _ hy,q⟩
  | false =>
   rw [hs] at h
   rcases Qsb r (i+1) _ e h with h|⟨y,hy,q⟩
   ·exact .inl h
   ·exact .inr ⟨y,List.mem_cons_of_mem _ hy,q⟩
theorem held_iff (hp:s.jobs.Pairwise (fun a b=>a.id<b.id)) (hid:∀ x ∈ s.jobs,1<=x.id):heldB s (QQ0 s.jobs 0 [])=true ↔ ∀ x ∈ s.jobs,x.state=2->Qh8 s.nodes x.id 1=x.nodes:=by
 have hh:∀ x ∈ s.jobs,QG3 s.nodes x.id=Qh8 s.nodes x.id 1:=fun x hx=>by
  unfold QG3
  rw [decide_eq_false (by have:=hid x hx;omega),← of_eq]
  rfl
 unfold heldB
 rw [List.all_eq_true]
 constructor
 ·intro h x hx hs
  have:=h _ (Qa7 x s.jobs 0 [] (.inr ⟨hx,hs,hp⟩))
  simp only [hh x hx] at this
  cases hq:(Qh8 s.nodes x.id 1 != x.nodes) with
  | false=>simpa using hq
  | true=>rw [hq] at this;cases this
 ·intro h e he
  rcases Qsb s.jobs 0 [] e he with h'|⟨x,hx,hs,rfl⟩
  ·exact nomatch h'
  ·have:=h x hx hs
   simp only [hh x hx,this]
   simp
theorem Qfd (id:Int):∀ (l:List Resize) (c:List (Int × Resize)),(∀ x ∈ l,x.job ≠ id)->getM id (QUd c l)=getM id c
 | [],_,_=>rfl
 | x :: r,c,h=>by
  show getM id (QUd (setM x.job x c) r)=_
  have hb:(id==x.job)=false:=by simpa using Ne.symm (h x (List.mem_cons_self ..))
  rw [Qfd id r _ (fun y hy=>h y (List.mem_cons_of_mem _ hy)),QEb,hb]
  rfl
theorem all_of (id:Int):∀ (l:List Resize) (c:List (Int × Resize)) (i:Nat),l.Pairwise (fun a b=>a.job<b.job)->getM id c=none->(getM id (QUd c l)).getD Resize.zero=Q87 id l i
 | [],c,i,_,hc=>by
  show (getM id c).getD Resize.zero=_
  rw [hc]
  rfl
 | x :: r,c,i,hp,hc=>by
  obtain ⟨h1,h2⟩:=List.pairwise_cons.1 hp
  show (getM id (QUd (setM x.job x c) r)).getD Resize.zero=_
  rw [Q87]
  cases hx:x.job==id with
  | true =>
   have e:=eq_of_beq hx
   rw [Qfd id r _ (fun y hy=>by have:=h1 y hy;omega),QEb,← e,beq_self_eq_true]
   rfl
  | false =>
   have hb:(id==x.job)=false:=by
    have:x.job ≠ id:=by simpa using hx
    simpa using Ne.symm this
   exact all_of id r _ (i+1) h2 (by rw [QEb,hb];exact hc)
theorem nodes_iff (c:List (Int × Job)) (all_:List (Int × Resize)) (f:Nat->Bool):∀ (l:List Node) (i:Nat),l=s.nodes.drop i->i+l.length=s.nodes.length ->
  (∀ k,k<s.nodes.length->f k = !(((((s.nodes.getD k Node.zero).state==1)&&((!(getM (s.nodes.getD k Node.zero).job c).isSome)||(!(Qf4 (((getM (s.nodes.getD k Node.zero).job c).getD Job.zero).nodes) (k:Int)))))||(((s.nodes.getD k Node.zero).state==2)&&(!(getM (s.nodes.getD k Node.zero).job c).isSome)))||((((s.nodes.getD k Node.zero).state==2)||((s.nodes.getD k Node.zero).want==4))&&(!(Qf4 (((getM (s.nodes.getD k Node.zero).job all_).getD Resize.zero).nodes) (k:Int))))||(((s.nodes.getD k Node.zero).state==3)&&(decide ((s.nodes.getD k Node.zero).job >= s.nextJob))))) ->
  (QR6 s c all_ l i=true ↔ ∀ k,i<=k->k<s.nodes.length->f k=true)
 | [],i,_,hlen,_=>by
  simp only [List.length_nil,Nat.add_zero] at hlen
  exact ⟨fun _ k h1 h2=>absurd h2 (by omega),fun _=>rfl⟩
 | x :: r,i,hl,hlen,hf=>by
  simp only [List.length_cons] at hlen
  have hr':r=s.nodes.drop (i+1):=by rw [← List.drop_drop,← hl];rfl
  have hi:s.nodes[i]? = some x:=by
   have:=congrArg (fun q=>q[0]?) hl
   simpa [List.getElem?_drop] using this.symm
  have hg:s.nodes.getD i Node.zero=x:=by rw [List.getD,hi];rfl
  have ih:=nodes_iff c all_ f r (i+1) hr' (by omega) hf
  have hfi:=hf i (by omega)
  rw [hg] at hfi
  rw [QR6]
  have step:∀ A B C D:Bool,∀ Z:Bool,(bif A then false else bif B then false else bif C then false else bif D then false else Z)=(!((((A||B)||C)||D))&&Z):=by decide
  rw [step,← hfi]
  cases hq:f i with
  | false =>
   refine ⟨fun h=>(by cases h),fun h=>?_⟩
   have:=h i (Nat.le_refl _) (by omega)
   rw [hq] at this
   cases this
  | true =>
   simp only [Bool.true_and]
   rw [ih]
   refine ⟨fun h k hk hk2=>?_,fun h k hk hk2=>h k (by omega) hk2⟩
   rcases Nat.eq_or_lt_of_le hk with h3|h3
   ·rw [← h3];exact hq
   ·exact h k h3 hk2
theorem nodes_eq (hp:s.jobs.Pairwise (fun a b=>a.id<b.id)) (hz:s.resizes.Pairwise (fun a b=>a.job<b.job)) (hn:∀ x ∈ s.jobs,U64 x.nodes) (hr:∀ r ∈ s.resizes,U64 r.nodes) :
  QN3 s (QQ0 s.jobs 0 []) (QUd [] s.resizes)=true ↔ ∀ k,k<s.nodes.length->QP5 s (k:Int)=true:=by
 unfold QN3
 rw [nodes_iff s _ _ (fun k=>QP5 s (k:Int)) s.nodes 0 (by simp) (by omega) ?_]
 ·exact ⟨fun h k hk=>h k (Nat.zero_le _) hk,fun h k _ hk=>h k hk⟩
 ·intro k hk
  obtain ⟨q1,q2⟩:=run_get hp (s.nodes.getD k Node.zero).job
  have q3:(getM (s.nodes.getD k Node.zero).job (QUd [] s.resizes)).getD Resize.zero=Qz9 s (s.nodes.getD k Node.zero).job:=all_of _ s.resizes [] 0 hz rfl
  have uj:U64 (Qf0 s (s.nodes.getD k Node.zero).job).1.nodes:=by
   by_cases h:∃ x ∈ s.jobs,x.id=(s.nodes.getD k Node.zero).job
   ·obtain ⟨x,hx,e⟩:=h
    rw [← e,Qnf hp hx]
    split
    ·exact hn x hx
    ·exact .zero
   ·rw [Qmf _ (fun x hx e=>h ⟨x,hx,e⟩)]
    exact .zero
  have ur:∀ id,U64 (Qz9 s id).nodes:=by
   intro id
   unfold Qz9
   have:∀ (l:List Resize) (i:Nat),(∀ r ∈ l,U64 r.nodes)->U64 (Q87 id l i).nodes:=by
    intro l
    induction l with
    | nil=>exact fun _ _=>.zero
    | cons y t ih =>
     intro i h
     rw [Q87]
     cases (y.job==id) with
     | true=>exact h y (List.mem_cons_self ..)
     | false=>exact ih (i+1) fun r hr=>h r (List.mem_cons_of_mem _ hr)
   exact this _ _ hr
  rw [q1,q2,q3]
  unfold QP5 QY2
  rw [Int.toNat_natCast,has_eq uj,has_eq (ur _)]
  generalize (s.nodes.getD k Node.zero).state=st
  generalize (Qf0 s (s.nodes.getD k Node.zero).job).2=ru
  generalize Qf4 (Qf0 s (s.nodes.getD k Node.zero).job).1.nodes (k:Int)=h1
  generalize Qf4 (Qz9 s (s.nodes.getD k Node.zero).job).nodes (k:Int)=h2
  generalize decide ((s.nodes.getD k Node.zero).job >= s.nextJob)=dn
  generalize ((s.nodes.getD k Node.zero).want==4)=wa
  by_cases e1:st=1
  ·subst e1
   revert ru h1 h2 dn wa
   decide
  by_cases e2:st=2
  ·subst e2
   revert ru h1 h2 dn wa
   decide
  by_cases e3:st=3
  ·subst e3
   revert ru h1 h2 dn wa
   decide
  have b1:(st==1)=false:=by simpa using e1
  have b2:(st==2)=false:=by simpa using e2
  have b3:(st==3)=false:=by simpa using e3
  rw [b1,b2,b3]
  revert ru h1 h2 dn wa
  decide
end
end Go.Proofs.YtgjcljceccfgjaaGreatDoor
namespace Go.Proofs.YtgjcljceccfgjaaGreatDoor
set_option linter.unusedSimpArgs false
set_option linter.unusedVariables false
open Go.Fw
structure Words (s:State):Prop where
 sz:s.sz
 jobs:∀ x ∈ s.jobs,U64 x.nodes
 nodes:∀ r ∈ s.resizes,U64 r.nodes
 said:∀ r ∈ s.resizes,U64 r.said
section
variable {s:State}
def rzR (s:State) (k:Nat):Bool:=(QZ2 s (s.resizes.getD k Resize.zero))&&(((k:Int)==0)||(decide ((s.resizes.getD (Int.toNat (w64 ((k:Int) - 1))) Resize.zero).job<(s.resizes.getD k Resize.zero).job)))
def heldR (s:State) (k:Nat):Bool:=((s.jobs.getD k Job.zero).state != 2)||((Qh8 s.nodes ((s.jobs.getD k Job.zero).id) 1)==(s.jobs.getD k Job.zero).nodes)
theorem QPd (h:Qh6 s=0):(Ql2 s=0 ↔ (QF1 s.nextJob (Q43 s.jobs 0 0)=true∧QF1 s.nextBook (Q53 s.books 0 0)=true)∧(∀ k,k<s.resizes.length->rzR s k=true)∧(∀ k,k<s.nodes.length->QP5 s (k:Int)=true)∧(∀ k,k<s.jobs.length->heldR s k=true))∧(Ql2 s=0∨Ql2 s=141):=by
 unfold Ql2
 rw [h]
 show ((bif false then (141:Int) else Qx3 s (Qd2 s.jobs 0 0).1 (Qd2 s.jobs 0 0).2)=0 ↔ _)∧((bif false then (141:Int) else Qx3 s (Qd2 s.jobs 0 0).1 (Qd2 s.jobs 0 0).2)=0∨(bif false then (141:Int) else Qx3 s (Qd2 s.jobs 0 0).1 (Qd2 s.jobs 0 0).2)=141)
 simp only [cond_false]
 unfold Qx3 QK5 QL5 QM5 QN5
 rw [last_job,last_book,← next_eq,← next_eq]
 generalize hok0:((QF1 s.nextJob (Q43 s.jobs 0 0))&&(QF1 s.nextBook (Q53 s.books 0 0)))=ok0
 have e3:=okloop s.resizes.length (rzR s) (QL4 s) (fun _ _ _=>rfl) ((Int.toNat ((s.resizes.length:Int) - (0:Int)))+1) ok0 0 (by omega) (by omega)
 generalize (QL4 s ((Int.toNat ((s.resizes.length:Int) - (0:Int)))+1) ok0 0).1=ok1 at *
 have e4:=okloop s.nodes.length (fun k=>QP5 s (k:Int)) (QM4 s) (fun _ _ _=>rfl) ((Int.toNat ((s.nodes.length:Int) - (0:Int)))+1) ok1 0 (by omega) (by omega)
 generalize (QM4 s ((Int.toNat ((s.nodes.length:Int) - (0:Int)))+1) ok1 0).1=ok2 at *
 have e5:=okloop s.jobs.length (heldR s) (QN4 s) (fun _ _ _=>rfl) ((Int.toNat ((s.jobs.length:Int) - (0:Int)))+1) ok2 0 (by omega) (by omega)
 generalize (QN4 s ((Int.toNat ((s.jobs.length:Int) - (0:Int)))+1) ok2 0).1=ok3 at *
 have hand:(QF1 s.nextJob (Q43 s.jobs 0 0)=true∧QF1 s.nextBook (Q53 s.books 0 0)=true) ↔ ok0=true:=by rw [← hok0,Bool.and_eq_true]
 rw [hand]
 have hz:ok3=true ↔ ok0=true∧(∀ k,k<s.resizes.length->rzR s k=true)∧(∀ k,k<s.nodes.length->QP5 s (k:Int)=true)∧(∀ k,k<s.jobs.length->heldR s k=true):=by
  rw [e5,e4,e3]
  simp only [Nat.zero_le,true_implies,and_assoc]
 rw [← hz]
 cases ok3 <;> simp
theorem Q1e (h:Words s):Qm1 s=Ql2 s:=by
 have hpe:=plan_eq s h.sz h.jobs
 cases hp:(QH3 s != 0) with
 | true =>
  have hr:(Qh6 s != 0)=true:=by rw [← hpe];exact hp
  unfold Qm1 Ql2
  rw [hp,hr]
  rfl
 | false =>
  have hp0:QH3 s=0:=by simpa using hp
  obtain ⟨r1,r2⟩:=QPd (s:=s) (by rw [← hpe];exact hp0)
  obtain ⟨hf,ht⟩:=QC8 hp0
  obtain ⟨_,hjc,hsort⟩:=QTc ht
  have hl:s.nodes.length<=64:=by have:=(fine_want hf).1;omega
  have hid:∀ x ∈ s.jobs,1<=x.id:=fun x hx=>(QHb (hjc x hx)).1
  have e:Qm1 s=Qt2 s (Q43 s.jobs 0 0) (Q53 s.books 0 0) (QQ0 s.jobs 0 []) s.resizes 0 []:=by
   unfold Qm1 QS5 QT5 QP4
   rw [hp]
   rfl
  obtain ⟨p1,p2⟩:=g4_iff s (Q43 s.jobs 0 0) (Q53 s.books 0 0) (QQ0 s.jobs 0 []) s.resizes 0 [] (by simp) (by omega)
  rw [← e] at p1 p2
  have heldE:heldB s (QQ0 s.jobs 0 [])=true ↔ ∀ k,k<s.jobs.length->heldR s k=true:=by
   rw [held_iff s hsort hid]
   unfold heldR
   constructor
   ·intro hh k hk
    have hm:s.jobs.getD k Job.zero ∈ s.jobs:=by
     rw [List.getD,List.getElem?_eq_getElem hk]
     exact List.getElem_mem _
    cases hst:((s.jobs.getD k Job.zero).state != 2) with
    | true=>rfl
    | false =>
     have:(s.jobs.getD k Job.zero).state=2:=by simpa [bne] using hst
     rw [hh _ hm this]
     simp
   ·intro hh x hx hs
    obtain ⟨k,hk⟩:=List.getElem?_of_mem hx
    have hg:s.jobs.getD k Job.zero=x:=by rw [List.getD,hk];rfl
    have:=hh k (List.getElem?_eq_some_iff.1 hk).1
    rw [hg,hs] at this
    simpa using this
  have rzE:(∀ k,k<s.jobs.length->heldR s k=true) -> ∀ k,k<s.resizes.length->rzP s (QQ0 s.jobs 0 []) k=rzR s k:=by
   intro hh k hk
   have hm:s.resizes.getD k Resize.zero ∈ s.resizes:=by
    rw [List.getD,List.getElem?_eq_getElem hk]
    exact List.getElem_mem _
   have hheld:=(held_iff s hsort hid).1 (heldE.2 hh)
   unfold rzP rzR
   obtain ⟨q1,q2⟩:=run_get hsort (s.resizes.getD k Resize.zero).job
   rw [q1,q2]
   have hord:((decide ((k:Int) > 0))&&(decide ((s.resizes.getD (Int.toNat (w64 ((k:Int) - 1))) Resize.zero).job >= (s.resizes.getD k Resize.zero).job))) = !(((k:Int)==0)||(decide ((s.resizes.getD (Int.toNat (w64 ((k:Int) - 1))) Resize.zero).job<(s.resizes.getD k Resize.zero).job))):=by
    rw [Bool.eq_iff_iff]
    simp only [Bool.and_eq_true,decide_eq_true_eq,Bool.not_eq_true',Bool.or_eq_false_iff,decide_eq_false_iff_not,beq_eq_false_iff_ne]
    omega
   rw [hord]
   have hres:((Qf0 s (s.resizes.getD k Resize.zero).job).2=true->Q44 s (s.resizes.getD k Resize.zero) (Qf0 s (s.resizes.getD k Resize.zero).job).1=QZ2 s (s.resizes.getD k Resize.zero))∧((Qf0 s (s.resizes.getD k Resize.zero).job).2=false->QZ2 s (s.resizes.getD k Resize.zero)=false):=by
    constructor
    ·intro hrun
     by_cases hx:∃ x ∈ s.jobs,x.id=(s.resizes.getD k Resize.zero).job
     ·obtain ⟨x,hx,hxe⟩:=hx
      have hrs:=Qnf hsort hx
      rw [hxe] at hrs
      by_cases hst:x.state=2
      ·rw [if_pos hst] at hrs
       rw [hrs]
       refine resize_eq s _ x (h.nodes _ hm) (h.said _ hm) (h.jobs x hx) hf hrs (hjc x hx) fun i=>?_
       have he:=hheld x hx hst
       rw [← of_eq] at he
       obtain ⟨_,b⟩:=Qz8 s.nodes (fun (y:Node)=>((y.job==x.id)&&(y.state==1))) hf hl
       rw [← he]
       unfold Q88
       rw [b,hxe]
       simp
      ·rw [if_neg hst] at hrs
       rw [hrs] at hrun
       cases hrun
     ·rw [Qmf _ (fun x hx' e=>hx ⟨x,hx',e⟩)] at hrun
      cases hrun
    ·intro hrun
     unfold QZ2
     rw [hrun]
     rfl
   cases hrun:(Qf0 s (s.resizes.getD k Resize.zero).job).2 with
   | true =>
    rw [hres.1 hrun]
    generalize (((k:Int)==0)||(decide ((s.resizes.getD (Int.toNat (w64 ((k:Int) - 1))) Resize.zero).job<(s.resizes.getD k Resize.zero).job)))=A
    generalize QZ2 s (s.resizes.getD k Resize.zero)=B
    revert A B
    decide
   | false =>
    rw [hres.2 hrun]
    simp
  have rzS:(∀ k,k<s.resizes.length->rzR s k=true)->s.resizes.Pairwise (fun a b=>a.job<b.job):=by
   intro hh
   have hstep:∀ k,k+1<s.resizes.length->(s.resizes.getD k Resize.zero).job<(s.resizes.getD (k+1) Resize.zero).job:=by
    intro k hk
    have hk':=hh (k+1) hk
    have hlen:s.resizes.length<=4294967296:=h.sz.2.2.2.1
    unfold rzR at hk'
    rw [Bool.and_eq_true] at hk'
    have hw:w64 (((k+1:Nat):Int) - 1)=(k:Int):=by
     have:=wr (n:=((k+1:Nat):Int) - 1) (by omega)
     show IntKind.i64.wrap _=_
     rw [this]
     omega
    rw [hw,Int.toNat_natCast] at hk'
    have hne:(((k+1:Nat):Int)==0)=false:=by simp;omega
    rw [hne,Bool.false_or,decide_eq_true_eq] at hk'
    exact hk'.2
   rw [List.pairwise_iff_getElem]
   have hmono:∀ (d a:Nat),a+d+1<s.resizes.length->(s.resizes.getD a Resize.zero).job<(s.resizes.getD (a+d+1) Resize.zero).job:=by
    intro d
    induction d with
    | zero=>intro a ha;exact hstep a ha
    | succ d ih =>
     intro a ha
     have h1:=ih a (by omega)
     have h2:=hstep (a+d+1) (by omega)
     have:a+(d+1)+1=a+d+1+1:=by omega
     rw [this]
     omega
   intro a b ha hb hab
   have:=hmono (b - a - 1) a (by omega)
   have e2:a+(b - a - 1)+1=b:=by omega
   rw [e2] at this
   have g1:s.resizes.getD a Resize.zero=s.resizes[a]:=by rw [List.getD,List.getElem?_eq_getElem ha];rfl
   have g2:s.resizes.getD b Resize.zero=s.resizes[b]:=by rw [List.getD,List.getElem?_eq_getElem hb];rfl
   rw [g1,g2] at this
   exact this
  have hiff:Qm1 s=0 ↔ Ql2 s=0:=by
   rw [p1,r1,heldE]
   constructor
   ·rintro ⟨a,b,c,d,q⟩
    have hrz:∀ k,k<s.resizes.length->rzR s k=true:=fun k hk=>by rw [← rzE q k hk];exact a k (Nat.zero_le _) hk
    exact ⟨⟨b,c⟩,hrz,(nodes_eq s hsort (rzS hrz) h.jobs h.nodes).1 d,q⟩
   ·rintro ⟨⟨b,c⟩,a,d,q⟩
    exact ⟨fun k _ hk=>by rw [rzE q k hk];exact a k hk,b,c,(nodes_eq s hsort (rzS a) h.jobs h.nodes).2 d,q⟩
  rcases p2 with a|a <;> rcases r2 with b|b
  ·rw [a,b]
  ·rw [hiff.1 a] at b;cases b
  ·rw [hiff.2 b] at a;cases a
  ·rw [a,b]
end
end Go.Proofs.YtgjcljceccfgjaaGreatDoor
namespace Go.Proofs.YtgjcljceccfgjaaGreatDoor
set_option linter.unusedSimpArgs false
set_option linter.unusedVariables false
open Go.Fw
def beB:Nat->Int->List Int
 | 0,_=>[]
 | k + 1, n => beB k (n / 256) ++ [n % 256]
def vl (l:List Int):Int:=l.foldl (fun a b=>a*256+b) 0
theorem QAb:∀ (k:Nat) (n:Int),(beB k n).length=k
 | 0,_=>rfl
 | k+1,n=>by simp [beB,QAb k]
theorem beB_in:∀ (k:Nat) (n:Int),Q31 (beB k n)
 | 0,_=>Q54
 | k+1,n=>Qz2 (beB_in k _) (QY5 (by omega) Q54)
theorem Qvg (l:List Int) (b:Int):vl (l++[b])=vl l*256+b:=by simp [vl]
theorem vl_beB:∀ (k:Nat) (n:Int),0<=n->n<256 ^ k->vl (beB k n)=n
 | 0,n,h,g=>by simp at g;simp [beB,vl];omega
 | k+1,n,h,g=>by
  rw [beB,Qvg,vl_beB k (n / 256) (by omega) (by rw [Int.pow_succ] at g;generalize (256:Int) ^ k=p at g ⊢;omega)]
  omega
theorem vl_in:∀ (k:Nat) (l:List Int),l.length=k->Q31 l->0<=vl l∧vl l<256 ^ k∧beB k (vl l)=l
 | 0,l,h,_=>by
  rw [List.length_eq_zero_iff] at h
  subst h
  exact ⟨by decide,by decide,rfl⟩
 | k+1,l,h,g=>by
  rcases List.eq_nil_or_concat l with e|⟨m,b,e⟩ <;> (try rw [List.concat_eq_append] at e)
  ·subst e;simp at h
  ·subst e
   have hm:m.length=k:=by simp at h;exact h
   obtain ⟨h1,h2,h3⟩:=vl_in k m hm (fun n hn=>g n (List.mem_append.2 (Or.inl hn)))
   have hb:=g b (by simp)
   rw [Qvg,beB,Int.pow_succ]
   have e1:(vl m*256+b) / 256=vl m:=by omega
   have e2 : (vl m * 256 + b) % 256 = b := by omega
   rw [e1,e2,h3]
   generalize (256:Int) ^ k=p at h2 ⊢
   exact ⟨by omega,by omega,rfl⟩
def At (s:ByteArray) (a:Int) (l:List Int) (b:Int):Prop:=∃ p q,Qi0 s=p++l++q∧a=(p.length:Int)∧b=((p.length+l.length:Nat):Int)
theorem At.app {s:ByteArray} {a b c:Int} {l m:List Int} (h:At s a l b) (g:At s b m c):At s a (l++m) c:=by
 obtain ⟨p,q,h1,h2,h3⟩:=h
 obtain ⟨p',q',g1,g2,g3⟩:=g
 have e:(p++l)++q=p'++(m++q'):=by rw [← h1,g1,List.append_assoc]
 have hl:(p++l).length=p'.length:=by rw [List.length_append];omega
 obtain ⟨e1,e2⟩:=List.append_inj e hl
 refine ⟨p,q',?_,h2,?_⟩
 ·rw [h1,e2];simp only [List.append_assoc]
 ·rw [List.length_append] at *;omega
theorem At.split {s:ByteArray} {a c:Int} {l m:List Int} (h:At s a (l++m) c):At s a l (a+l.length)∧At s (a+l.length) m c:=by
 obtain ⟨p,q,h1,h2,h3⟩:=h
 rw [List.length_append] at h3
 refine ⟨⟨p,m++q,?_,h2,by omega⟩,⟨p++l,q,?_,?_,?_⟩⟩
 ·rw [h1];simp only [List.append_assoc]
 ·rw [h1];simp only [List.append_assoc]
 ·rw [List.length_append];omega
 ·rw [List.length_append];omega
theorem At.nil {s:ByteArray} {a:Int} (h0:0<=a) (h1:a<=(s.size:Int)):At s a [] a:=by
 refine ⟨(Qi0 s).take a.toNat,(Qi0 s).drop a.toNat,by simp,?_,?_⟩ <;> simp [List.length_take,QJ0] <;> omega
theorem At.le {s:ByteArray} {a b:Int} {l:List Int} (h:At s a l b):0<=a∧b=a+l.length∧b<=(s.size:Int):=by
 obtain ⟨p,q,h1,h2,h3⟩:=h
 have:=congrArg List.length h1
 simp only [List.length_append,QJ0] at this
 omega
theorem At.all {s:ByteArray} {l:List Int} (h:At s 0 l (s.size:Int)):Qi0 s=l:=by
 obtain ⟨p,q,h1,h2,h3⟩:=h
 have:=congrArg List.length h1
 simp only [List.length_append,QJ0] at this
 have hp:p=[]:=List.length_eq_zero_iff.1 (by omega)
 have hq:q=[]:=List.length_eq_zero_iff.1 (by omega)
 rw [h1,hp,hq];simp
theorem At.pre {s:ByteArray} {l q:List Int} (h:Qi0 s=l++q):At s 0 l (l.length:Int):=⟨[],q,by simp [h],by simp,by simp⟩
theorem At.isin {s:ByteArray} {a b:Int} {l:List Int} (h:At s a l b):Q31 l:=by
 obtain ⟨p,q,h1,h2,h3⟩:=h
 exact fun n hn=>Qm3 s n (by rw [h1];simp [hn])
theorem At.get {s:ByteArray} {a b:Int} {l:List Int} (h:At s a l b) {i:Nat} (hi:i<l.length):(Qi0 s)[(a+i).toNat]? = some l[i]:=by
 obtain ⟨p,q,h1,h2,h3⟩:=h
 rw [h1,List.append_assoc,List.getElem?_append_right (by omega),List.getElem?_append_left (by omega)]
 rw [show (a+i).toNat - p.length=i by omega]
 exact List.getElem?_eq_getElem hi
theorem At.of {s:ByteArray} {a:Int} {n:Nat} (h0:0<=a) (h1:a+n<=(s.size:Int)):At s a (((Qi0 s).drop a.toNat).take n) (a+n):=by
 have hl:(((Qi0 s).drop a.toNat).take n).length=n:=by rw [List.length_take,List.length_drop,QJ0];omega
 refine ⟨(Qi0 s).take a.toNat,((Qi0 s).drop a.toNat).drop n,?_,?_,?_⟩
 ·rw [List.append_assoc,List.take_append_drop,List.take_append_drop]
 ·rw [List.length_take,QJ0];omega
 ·rw [hl,List.length_take,QJ0];omega
theorem QZ6 {l:List Int} (h:Q31 l):Qi0 (QH1 l)=l:=by
 rw [Qq6]
 show (l.map fun n=>UInt8.ofNat n.toNat).map (fun b=>(b.toNat:Int))=l
 rw [List.map_map]
 conv=>rhs;rw [← List.map_id l]
 refine List.map_congr_left fun n hn=>?_
 have:=h n hn
 simp
 omega
theorem QY6 {s t:ByteArray} (h:Qi0 s=Qi0 t):s=t:=by
 have:=congrArg (fun l=>QH1 l) h
 have e:∀ s,QH1 (Qi0 s)=s:=by
  intro s
  rw [Qq6]
  cases s with
  | mk d =>
   congr 1
   show (List.map _ (List.map _ d.toList)).toArray=d
   rw [List.map_map]
   have:(fun n=>UInt8.ofNat (Int.toNat n)) ∘ (fun (b:UInt8)=>(b.toNat:Int))=id:=by
    funext b
    simp
   rw [this,List.map_id]
 simpa [e] using this
end Go.Proofs.YtgjcljceccfgjaaGreatDoor
namespace Go.Proofs.YtgjcljceccfgjaaGreatDoor
set_option linter.unusedSimpArgs false
set_option linter.unusedVariables false
open Go.Fw
def wide (k:Nat):Prop:=k=1∨k=2∨k=4∨k=8
theorem fits1 (n:Int):Qh2 n 1=(decide (n >= 0)&&decide (n<256)):=by
 have e:w64 (1*2 ^ (min (Int.toNat (w64 (8*1))) 64))=256:=by decide
 show (decide (n >= 0)&&decide (n<w64 (1*2 ^ (min (Int.toNat (w64 (8*1))) 64))))=_
 rw [e]
theorem fits2 (n:Int):Qh2 n 2=(decide (n >= 0)&&decide (n<65536)):=by
 have e:w64 (1*2 ^ (min (Int.toNat (w64 (8*2))) 64))=65536:=by decide
 show (decide (n >= 0)&&decide (n<w64 (1*2 ^ (min (Int.toNat (w64 (8*2))) 64))))=_
 rw [e]
theorem fits4 (n:Int):Qh2 n 4=(decide (n >= 0)&&decide (n<4294967296)):=by
 have e:w64 (1*2 ^ (min (Int.toNat (w64 (8*4))) 64))=4294967296:=by decide
 show (decide (n >= 0)&&decide (n<w64 (1*2 ^ (min (Int.toNat (w64 (8*4))) 64))))=_
 rw [e]
theorem fits8 (n:Int):Qh2 n 8=decide (n >= 0):=by simp [Qh2]
theorem Qwc {n:Int} {k:Nat} (hk:wide k) (hn:n<=9223372036854775807) (h:Qh2 n (k:Int)=true):0<=n∧n<256 ^ k:=by
 rcases hk with rfl|rfl|rfl|rfl
 ·have:=(fits1 n).symm.trans h
  simp at this
  omega
 ·have:=(fits2 n).symm.trans h
  simp at this
  omega
 ·have:=(fits4 n).symm.trans h
  simp at this
  omega
 ·have:=(fits8 n).symm.trans h
  simp at this
  omega
theorem Qz6 {n:Int} {k:Nat} (hk:wide k) (h0:0<=n) (h:n<256 ^ k):Qh2 n (k:Int)=true:=by
 rcases hk with rfl|rfl|rfl|rfl
 ·refine (fits1 n).trans ?_
  simp
  omega
 ·refine (fits2 n).trans ?_
  simp
  omega
 ·refine (fits4 n).trans ?_
  simp
  omega
 ·refine (fits8 n).trans ?_
  simp
  omega
theorem wu8_mod (n : Int) : wu8 n = n % 256 := by simp [IntKind.wrap, IntKind.bits, IntKind.signed]
theorem laid_go:∀ (k m:Nat) (n:Int) (c:List Int),k<m->k<=c.length->k<=8->(Qi3 m n ((k:Int) - 1) c).2.2=beB k n++c.drop k
 | 0,m+1,n,c,_,_,_=>by
  rw [Qi3,decide_eq_false (by omega)]
  simp [beB]
 | k+1,m+1,n,c,h1,h2,h3=>by
  rw [Qi3,decide_eq_true (by omega)]
  have e1:((k+1:Nat):Int) - 1=(k:Int):=by omega
  have e2:w64 ((k:Int) - 1)=(k:Int) - 1:=wr (by omega)
  have e3:Int.fdiv n (2 ^ (min (Int.toNat 8) 64))=n / 256:=Int.fdiv_eq_ediv_of_nonneg _ (by decide)
  rw [e1,e2,e3,cond_true,laid_go k m _ _ (by omega) (by rw [List.length_set];omega) (by omega),beB,wu8_mod,List.append_assoc]
  congr 1
  show (c.set k (n % 256)).drop k = (n % 256) :: c.drop (k + 1)
  rw [List.drop_eq_getElem_cons (by rw [List.length_set];omega),List.getElem_set_self,List.drop_set_of_lt (by omega)]
theorem QIb {k:Nat} (hk:k<=8) (n:Int):Qi0 (Q95 n (k:Int))=beB k n:=by
 have e2:w64 ((k:Int) - 1)=(k:Int) - 1:=wr (by omega)
 have e:=laid_go k ((Int.toNat ((k:Int) - 1+1))+1) n (List.replicate k 0) (by omega) (by simp) hk
 unfold Q95 Q96
 rw [e2,Int.toNat_natCast,e]
 simp only [List.drop_replicate,Nat.sub_self,List.replicate_zero,List.append_nil]
 exact QZ6 (beB_in k n)
theorem Qxg {k:Nat} (hk:wide k):k<=8:=by rcases hk with rfl|rfl|rfl|rfl <;> decide
theorem Qv9 {n:Int} {k:Nat} (hk:wide k) (h:Qh2 n (k:Int)=true):Qi0 (Ql1 n (k:Int)).1=beB k n:=by
 unfold Ql1
 rw [h]
 exact QIb (Qxg hk) n
theorem QOd (w:Int):∀ (j m:Nat) (n:Int) (out:List Int) (i:Nat),0<=n->n<=9223372036854775807->((i+j:Nat):Int)=w->j<m->QU1 w m n out i=(n / 256 ^ j,beB j n++out,i+j)
 | 0,m+1,n,out,i,_,_,hw,_=>by
  rw [QU1,decide_eq_false (by omega)]
  simp [beB]
 | j+1,m+1,n,out,i,h0,h1,hw,hm=>by
  rw [QU1,decide_eq_true (by omega),Int.tdiv_eq_ediv_of_nonneg h0,Int.tmod_eq_emod_of_nonneg h0]
  have e1:w64 (n / 256)=n / 256:=wr (by omega)
  rw [e1,cond_true,QOd w j m _ _ (i+1) (by omega) (by omega) (by omega) (by omega),wu8_mod,Int.emod_emod_of_dvd n (Int.dvd_refl 256),beB,Int.pow_succ',List.append_assoc,Int.ediv_ediv_of_nonneg (by omega)]
  simp only [Prod.mk.injEq,true_and]
  omega
theorem ref_width {k:Nat} (hk:wide k):Qr3 (k:Int)=true:=by rcases hk with rfl|rfl|rfl|rfl <;> rfl
theorem number_eq {n:Int} {k:Nat} (hk:wide k) (hn:n<=9223372036854775807):QZ3 n (k:Int)=Ql1 n (k:Int):=by
 unfold QZ3
 rw [ref_width hk]
 rcases Int.lt_or_le n 0 with h|h
 ·rw [decide_eq_true h]
  unfold Ql1
  cases hf:Qh2 n (k:Int) with
  | true=>have:=(Qwc hk hn hf).1;omega
  | false=>rfl
 ·rw [decide_eq_false (by omega)]
  simp only [Bool.not_true,Bool.or_false,cond_false,Int.sub_zero,Int.toNat_natCast]
  rw [QOd (k:Int) k (k+1) n [] 0 h hn (by omega) (by omega)]
  unfold Qi4 Ql1
  simp only [List.append_nil]
  cases hf:Qh2 n (k:Int) with
  | true =>
   have:=(Qwc hk hn hf).2
   rw [Int.ediv_eq_zero_of_lt h this]
   have e:QH1 (beB k n)=Q95 n (k:Int):=QY6 (by rw [QZ6 (beB_in k n),QIb (Qxg hk)])
   rw [e]
   rfl
  | false =>
   have hp:0<n / 256 ^ k:=by
    rcases Int.lt_or_le n (256 ^ k) with g|g
    ·rw [Qz6 hk h g] at hf;cases hf
    ·have:=Int.ediv_le_ediv (c:=(256:Int) ^ k) (Int.pow_pos (by decide)) g
     rw [Int.ediv_self (Int.ne_of_gt (Int.pow_pos (by decide)))] at this
     omega
   rw [decide_eq_true hp]
   rfl
theorem or_add {n b:Int} (h0:0<=n) (h1:n<72057594037927936) (h2:0<=b) (h3:b<=255):wu64 (BitVec.ofInt 64 (wu64 (n*2 ^ (min (Int.toNat 8) 64))) ||| BitVec.ofInt 64 (wu64 b)).toNat=n*256+b:=by
 have e0:(2:Int) ^ (min (Int.toNat 8) 64)=256:=by decide
 obtain ⟨p,rfl⟩:=Int.eq_ofNat_of_zero_le h0
 obtain ⟨q,rfl⟩:=Int.eq_ofNat_of_zero_le h2
 have e1:wu64 ((p:Int)*256)=((p*256:Nat):Int):=by simp only [IntKind.wrap,IntKind.bits,IntKind.signed];simp;omega
 have e2:wu64 (q:Int)=(q:Int):=by simp only [IntKind.wrap,IntKind.bits,IntKind.signed];simp;omega
 rw [e0,e1,e2,BitVec.ofInt_natCast,BitVec.ofInt_natCast,BitVec.toNat_or,BitVec.toNat_ofNat,BitVec.toNat_ofNat,Nat.mod_eq_of_lt (by omega),Nat.mod_eq_of_lt (by omega)]
 have e3:p*256 ||| q=p*256+q:=by
  rw [Nat.mul_comm]
  exact (Nat.two_pow_add_eq_or_of_lt (i:=8) (by omega) p).symm
 rw [e3]
 simp only [IntKind.wrap,IntKind.bits,IntKind.signed];simp;omega
theorem At.byte {s:ByteArray} {a b:Int} {l:List Int} (h:At s a l b) {i:Nat} (hi:i<l.length):((s.data.toList.getD (a+i).toNat 0).toNat:Int)=l[i]:=by
 have:=h.get hi
 unfold Qi0 at this
 rw [List.getElem?_map] at this
 rw [List.getD_eq_getElem?_getD]
 cases hs:s.data.toList[(a+i).toNat]? with
 | none=>rw [hs] at this;cases this
 | some v=>rw [hs] at this;simpa using this
theorem pow_le8 {i:Nat} (h:i<=7):(256:Int) ^ i<=72057594037927936:=by
 have:=Nat.pow_le_pow_right (n:=256) (by decide) h
 have e:((256 ^ i:Nat):Int)<=((256 ^ 7:Nat):Int):=by exact_mod_cast this
 rw [Int.natCast_pow] at e
 exact e
theorem vl_mono:∀ (q:List Int) (a:Int),0<=a->Q31 q->a<=q.foldl (fun a b=>a*256+b) a
 | [],a,_,_=>Int.le_refl a
 | x :: q,a,h,hb=>by
  have hx:=hb x (by simp)
  have:=vl_mono q (a*256+x) (by omega) (fun n hn=>hb n (by simp [hn]))
  show a<=q.foldl _ (a*256+x)
  omega
theorem Qwe {l:List Int} (hb:Q31 l) (i:Nat):0<=vl (l.take i)∧vl (l.take i)<256 ^ (l.take i).length∧vl (l.take i)<=vl l:=by
 have h1:=vl_in _ (l.take i) rfl (fun n hn=>hb n (List.mem_of_mem_take hn))
 refine ⟨h1.1,h1.2.1,?_⟩
 have h2:=vl_mono (l.drop i) (vl (l.take i)) h1.1 (fun n hn=>hb n (List.mem_of_mem_drop hn))
 conv=>rhs;rw [← List.take_append_drop i l]
 unfold vl
 rw [List.foldl_append]
 exact h2
theorem take_g1 {s:ByteArray} {a b:Int} {l:List Int} (h:At s a l b) (hz:s.size<=4294967296) (hk:l.length<=8):∀ (j m i:Nat),i+j=l.length->j<m->QX0 s a (l.length:Int) m (vl (l.take i)) i=vl l
 | 0,m+1,i,hi,_=>by
  rw [QX0,decide_eq_false (by omega),List.take_of_length_le (by omega)]
  rfl
 | j+1,m+1,i,hi,hm=>by
  have hle:=h.le
  have e1:w64 (a+(i:Int))=a+i:=wr (by omega)
  have hv:=Qwe h.isin i
  have hb:=h.isin l[i] (List.getElem_mem (by omega))
  have hl:(l.take i).length=i:=by rw [List.length_take];omega
  rw [hl] at hv
  have:=pow_le8 (i:=i) (by omega)
  rw [QX0,decide_eq_true (by omega),cond_true,e1,h.byte (by omega),or_add hv.1 (by omega) hb.1 hb.2,← Qvg,List.take_append_getElem]
  exact take_g1 h hz hk j m (i+1) (by omega) (by omega)
theorem take_back {s:ByteArray} {a b n:Int} {k:Nat} (hk:wide k) (hz:s.size<=4294967296) (h:At s a (beB k n) b) (h0:0<=n) (h1:n<256 ^ k) (h2:n<=9223372036854775807):Qc0 s a (k:Int)=(n,b,0):=by
 have hl:=QAb k n
 have hle:=h.le
 have hw:Qh4 s a=true:=by unfold Qh4;simp;omega
 have hf:Qh2 0 (k:Int)=true:=Qz6 hk (by omega) (Int.pow_pos (by decide))
 have h8:=Qxg hk
 have e1:w64 ((ByteArray.size s:Int) - a)=(ByteArray.size s:Int) - a:=wr (by omega)
 unfold Qc0
 rw [hw,hf,e1,decide_eq_false (by omega)]
 have hg:=take_g1 h hz (by omega) k (k+1) 0 (by omega) (by omega)
 rw [hl] at hg
 simp only [Bool.not_true,Bool.or_false,cond_false,Int.sub_zero,Int.toNat_natCast]
 show Qy1 a (k:Int) (QX0 s a (k:Int) (k+1) (vl ((beB k n).take 0)) 0)=_
 rw [hg,vl_beB k n h0 h1]
 unfold Qy1
 have e2:w64 n=n:=wr (by omega)
 have e3:w64 (a+(k:Int))=b:=by rw [show a+(k:Int)=b by omega];exact wr (by omega)
 rw [decide_eq_false (by omega),e2,e3]
 rfl
theorem take_forms {s:ByteArray} {a:Int} {k:Nat} (hk:wide k) (hz:s.size<=4294967296) (h:(Qc0 s a (k:Int)).2.2=0):0<=(Qc0 s a (k:Int)).1∧(Qc0 s a (k:Int)).1<256 ^ k∧(Qc0 s a (k:Int)).1<=9223372036854775807∧At s a (beB k (Qc0 s a (k:Int)).1) (Qc0 s a (k:Int)).2.1:=by
 have h8:=Qxg hk
 unfold Qc0 at h ⊢
 cases h1:((!(Qh4 s a))||(!(Qh2 0 (k:Int)))) with
 | true=>rw [h1] at h;exact absurd h (by simp)
 | false =>
  rw [h1] at h
  simp only [cond_false] at h ⊢
  have hin:0<=a∧a<=(ByteArray.size s:Int):=by simp [Qh4] at h1;omega
  have e1:w64 ((ByteArray.size s:Int) - a)=(ByteArray.size s:Int) - a:=wr (by omega)
  cases h2:decide ((w64 ((ByteArray.size s:Int) - a))<(k:Int)) with
  | true=>rw [h2] at h;exact absurd h (by simp)
  | false =>
   rw [h2] at h
   have h2':=of_decide_eq_false h2
   rw [e1] at h2'
   simp only [cond_false,Int.sub_zero,Int.toNat_natCast] at h ⊢
   have hat:=At.of (s:=s) (a:=a) (n:=k) hin.1 (by omega)
   have hl:(((Qi0 s).drop a.toNat).take k).length=k:=by have:=hat.le;omega
   generalize ((Qi0 s).drop a.toNat).take k=l at hat hl
   have hg:=take_g1 hat hz (by omega) k (k+1) 0 (by omega) (by omega)
   rw [hl] at hg
   have hg':QX0 s a (k:Int) (k+1) 0 0=vl l:=hg
   rw [hg'] at h ⊢
   have hv:=vl_in k l hl hat.isin
   unfold Qy1 at h ⊢
   cases h3:decide (vl l > 9223372036854775807) with
   | true=>rw [h3] at h;exact absurd h (by simp)
   | false =>
    have h3':=of_decide_eq_false h3
    have e2:w64 (vl l)=vl l:=wr (by omega)
    have e3:w64 (a+(k:Int))=a+k:=wr (by omega)
    simp only [cond_false,e2,e3]
    refine ⟨hv.1,hv.2.1,by omega,?_⟩
    rw [hv.2.2]
    exact hat
theorem Qlg {s:ByteArray} {a b:Int} {l:List Int} (h:At s a l b) (hz:s.size<=4294967296) (hv:vl l<=9223372036854775807):∀ (j m i:Nat),i+j=l.length->j<m->(QF0 s a (l.length:Int) m (vl (l.take i)) i).1=vl l
 | 0,m+1,i,hi,_=>by
  rw [QF0,decide_eq_false (by omega),List.take_of_length_le (by omega)]
  rfl
 | j+1,m+1,i,hi,hm=>by
  have hle:=h.le
  have e1:w64 (a+(i:Int))=a+i:=wr (by omega)
  have h1:=Qwe h.isin i
  have h2:=Qwe h.isin (i+1)
  have hb:=h.isin l[i] (List.getElem_mem (by omega))
  rw [← List.take_append_getElem (by omega),Qvg] at h2
  have e2:w64 (vl (l.take i)*256)=vl (l.take i)*256:=wr (by omega)
  have e3:w64 l[i]=l[i]:=wr (by omega)
  have e4:w64 (vl (l.take i)*256+l[i])=vl (l.take i)*256+l[i]:=wr (by omega)
  rw [QF0,decide_eq_true (by omega),cond_true,e1,h.byte (by omega),e2,e3,e4,← Qvg,List.take_append_getElem]
  exact Qlg h hz hv j m (i+1) (by omega) (by omega)
theorem QQd {s:ByteArray} {a b n:Int} {k:Nat} (hk:wide k) (hz:s.size<=4294967296) (h:At s a (beB k n) b) (h0:0<=n) (h1:n<256 ^ k) (h2:n<=9223372036854775807):Qd0 s a (k:Int)=(n,b,0):=by
 have hl:=QAb k n
 have hle:=h.le
 have h8:=Qxg hk
 have e1:w64 ((ByteArray.size s:Int) - a)=(ByteArray.size s:Int) - a:=wr (by omega)
 have hv:=vl_beB k n h0 h1
 have htop:(((k:Int)==8)&&(decide (((s.data.toList.getD (Int.toNat a) 0).toNat:Int) > 127)))=false:=by
  rcases hk with rfl|rfl|rfl|rfl
  ·rfl
  ·rfl
  ·rfl
  ·have:=h.byte (i:=0) (by rw [hl];decide)
   rw [show a+((0:Nat):Int)=a by omega] at this
   rw [this]
   have e : (beB 8 n)[0]'(by rw [hl]; decide) = n / 256 / 256 / 256 / 256 / 256 / 256 / 256 % 256 := by simp [beB]
   rw [e,decide_eq_false (by omega)]
   rfl
 unfold Qd0
 rw [ref_width hk,e1,decide_eq_false (by omega),decide_eq_false (by omega),decide_eq_false (by omega),htop]
 have hg:=Qlg h hz (by rw [hv];exact h2) k (k+1) 0 (by omega) (by omega)
 rw [hl] at hg
 simp only [Bool.not_true,Bool.or_false,cond_false,Int.sub_zero,Int.toNat_natCast]
 have hg':(QF0 s a (k:Int) (k+1) 0 0).1=vl (beB k n):=hg
 rw [hg',hv]
 unfold Qq3
 have e3:w64 (a+(k:Int))=b:=by rw [show a+(k:Int)=b by omega];exact wr (by omega)
 rw [e3]
end Go.Proofs.YtgjcljceccfgjaaGreatDoor
