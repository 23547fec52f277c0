/-
  What the last text of this claim leans on: an evaluator over the code, contracts of functions, plain laws. Conditions stand in each statement.
-/
import Derived.Test.YtackngeeehiegaaGreatDoorRS13
import Derived.Test.YtackngeeehiegaaGreatDoorRS6
import Derived.Test.YtackngeeehiegaaGreatDoorRS5
import Derived.LaidMore
import Derived.Stop.Joined
import Derived.JoinedOf
import Derived.Handed
import Derived.OpenShut
import Derived.KernelRfl
import Derived.Test.YtackngeeehiegaaGreatDoorRS7
import Derived.Test.YtackngeeehiegaaGreatDoorProg
namespace Go.Proofs.YtackngeeehiegaaGreatDoor
set_option linter.unusedSimpArgs false
set_option linter.unusedVariables false
open Go.Fw
end Go.Proofs.YtackngeeehiegaaGreatDoor
namespace Go.Fw
set_option linter.unusedSimpArgs false
set_option linter.unusedVariables false
theorem w6 {n:Int} (h:-9223372036854775808<=n∧n<=9223372036854775807):w64 n=n:=wr h
theorem or_f {a b:Bool} (h:(a||b)=false):a=false∧b=false:=by simpa using h
def U64 (x:Int):Prop:=0<=x∧x<18446744073709551616
def tb (x:Int) (k:Nat):Bool:=x.toNat.testBit k
theorem wu64_eq (n : Int) : wu64 n = n % 18446744073709551616 := by simp [IntKind.wrap, IntKind.bits, IntKind.signed]
theorem QN7 {n:Int} (h:U64 n):wu64 n=n:=by rw [wu64_eq];unfold U64 at h;omega
theorem Qz8 (n:Int):U64 (wu64 n):=by rw [wu64_eq];unfold U64;omega
theorem U64.zero:U64 0:=⟨by decide,by decide⟩
theorem wu64_bv (b:BitVec 64):wu64 (b.toNat:Int)=(b.toNat:Int):=QN7 ⟨by omega,by have:=b.isLt;omega⟩
theorem tb_bv (b:BitVec 64) (k:Nat):tb (wu64 (b.toNat:Int)) k=b.getLsbD k:=by
 rw [wu64_bv,tb,Int.toNat_natCast,BitVec.testBit_toNat]
theorem tb_high {x:Int} (h:U64 x) {k:Nat} (hk:64<=k):tb x k=false:=by
 unfold tb U64 at *
 refine Nat.testBit_lt_two_pow (Nat.lt_of_lt_of_le (m:=2 ^ 64) (by omega) (Nat.pow_le_pow_right (by decide) hk))
theorem Qq7 {x:Int} (h:U64 x) (k:Nat):(BitVec.ofInt 64 x).getLsbD k=tb x k:=by
 have e:(BitVec.ofInt 64 x).toNat=x.toNat:=by
  rw [BitVec.toNat_ofInt]
  unfold U64 at h
  have : x % (2 ^ 64 : Nat) = x := Int.emod_eq_of_lt h.1 (by simpa using h.2)
  rw [this]
 rw [← BitVec.testBit_toNat,e]
 rfl
theorem tb_and {x y:Int} (hx:U64 x) (hy:U64 y) (k:Nat):tb (wu64 ((BitVec.ofInt 64 x &&& BitVec.ofInt 64 y).toNat:Int)) k=(tb x k&&tb y k):=by
 rw [tb_bv,BitVec.getLsbD_and,Qq7 hx,Qq7 hy]
theorem tb_or {x y:Int} (hx:U64 x) (hy:U64 y) (k:Nat):tb (wu64 ((BitVec.ofInt 64 x ||| BitVec.ofInt 64 y).toNat:Int)) k=(tb x k||tb y k):=by
 rw [tb_bv,BitVec.getLsbD_or,Qq7 hx,Qq7 hy]
theorem QS5 {x y:Int} (hx:U64 x) (hy:U64 y) (k:Nat):tb (wu64 ((BitVec.ofInt 64 x &&& ~~~(BitVec.ofInt 64 y)).toNat:Int)) k=(tb x k && !tb y k):=by
 rw [tb_bv,BitVec.getLsbD_and,BitVec.getLsbD_not,Qq7 hx,Qq7 hy]
 rcases Nat.lt_or_ge k 64 with h|h
 ·simp [h]
 ·simp [tb_high hx h]
theorem QRf {x y:Int} (hx:U64 x) (hy:U64 y) (h:∀ k,k<64->tb x k=tb y k):x=y:=by
 have:x.toNat=y.toNat:=by
  refine Nat.eq_of_testBit_eq fun k=>?_
  rcases Nat.lt_or_ge k 64 with hk|hk
  ·exact h k hk
  ·exact (tb_high hx hk).trans (tb_high hy hk).symm
 unfold U64 at hx hy
 omega
theorem QV8 (k:Nat):tb 0 k=false:=by simp [tb]
theorem Qqb {x:Int} (hx:U64 x):(x==0)=true ↔ ∀ k,k<64->tb x k=false:=by
 rw [beq_iff_eq]
 refine ⟨fun h k _=>by rw [h];exact QV8 k,fun h=>QRf hx .zero fun k hk=>by rw [h k hk,QV8]⟩
theorem Qkf {x:Int} (hx:U64 x):(x != 0)=true ↔ ∃ k,k<64∧tb x k=true:=by
 rw [bne_iff_ne]
 constructor
 ·intro h
  apply Classical.byContradiction
  intro hn
  refine h (beq_iff_eq.1 ((Qqb hx).2 fun k hk=>?_))
  cases hb:tb x k with
  | false=>rfl
  | true=>exact (hn ⟨k,hk,hb⟩).elim
 ·rintro ⟨k,_,hb⟩ e
  rw [e,QV8] at hb
  cases hb
theorem QF7 (k:Nat):∃ m:Nat,(2:Int) ^ k=(m:Int)∧2 ^ k=m:=⟨2 ^ k,by simp,rfl⟩
theorem pow64:(2:Nat) ^ 64=18446744073709551616:=by decide
theorem pow_U {k:Nat} (hk:k<64):U64 ((2:Int) ^ k):=by
 have h1:(2:Nat) ^ k<2 ^ 64:=Nat.pow_lt_pow_right (by decide) hk
 rw [pow64] at h1
 obtain ⟨m,e,e'⟩:=QF7 k
 rw [e]
 unfold U64
 omega
theorem tb_pow (k j:Nat):tb ((2:Int) ^ k) j=decide (k=j):=by
 have e:(2:Int) ^ k=((2 ^ k:Nat):Int):=by simp
 rw [tb,e,Int.toNat_natCast,Nat.testBit_two_pow]
def QF2 (p:Nat->Bool):Nat->Int
 | 0=>0
 | n+1=>bif p n then QF2 p n+2 ^ n else QF2 p n
theorem Qo9 (p:Nat->Bool):∀ n,0<=QF2 p n∧QF2 p n<2 ^ n
 | 0=>⟨by simp [QF2],by simp [QF2]⟩
 | n+1=>by
  have:=Qo9 p n
  have e:(2:Int) ^ (n+1)=2*2 ^ n:=by rw [Int.pow_succ];omega
  rw [QF2]
  cases p n <;> simp only [cond_true,cond_false] <;> omega
theorem bitsUpto_U (p:Nat->Bool) {n:Nat} (hn:n<=64):U64 (QF2 p n):=by
 have:=Qo9 p n
 have h1:(2:Nat) ^ n<=2 ^ 64:=Nat.pow_le_pow_right (by decide) hn
 rw [pow64] at h1
 obtain ⟨m,e,e'⟩:=QF7 n
 unfold U64
 omega
theorem tb_upto (p:Nat->Bool):∀ n k,tb (QF2 p n) k=(decide (k<n)&&p k)
 | 0,k=>by simp [QF2,QV8]
 | n+1,k=>by
  have hl:=Qo9 p n
  have ih:=tb_upto p n k
  obtain ⟨m,e,e'⟩:=QF7 n
  have hlt:(QF2 p n).toNat<2 ^ n:=by omega
  rw [QF2]
  cases hp:p n with
  | false =>
   simp only [cond_false]
   rw [ih]
   rcases Nat.lt_trichotomy k n with h|h|h
   ·simp [h,Nat.lt_succ_of_lt h]
   ·subst h;simp [hp]
   ·simp [show ¬ k<n by omega,show ¬ k<n+1 by omega]
  | true =>
   simp only [cond_true]
   have et:(QF2 p n+2 ^ n).toNat=2 ^ n+(QF2 p n).toNat:=by omega
   unfold tb at ih ⊢
   rw [et]
   rcases Nat.lt_trichotomy k n with h|h|h
   ·rw [Nat.testBit_two_pow_add_gt h,ih]
    simp [h,Nat.lt_succ_of_lt h]
   ·subst h
    rw [Nat.testBit_two_pow_add_eq,Nat.testBit_lt_two_pow hlt]
    simp [hp]
   ·have:2 ^ n+(QF2 p n).toNat<2 ^ k:=by
     have:(2:Nat) ^ (n+1)<=2 ^ k:=Nat.pow_le_pow_right (by decide) h
     rw [Nat.pow_succ] at this
     omega
    rw [Nat.testBit_lt_two_pow this]
    simp [show ¬ k<n+1 by omega]
def idxL {α:Type} (f:Nat->α->Bool):List α->Nat->List Int
 | [],_=>[]
 | x :: r,i=>bif f i x then (i:Int) :: idxL f r (i+1) else idxL f r (i+1)
def hasB {α:Type} (f:Nat->α->Bool) (l:List α) (i k:Nat):Bool:=decide (i<=k)&&(match l[k - i]? with|some x=>f k x|none=>false)
theorem hasB_nil {α:Type} (f:Nat->α->Bool) (i k:Nat):hasB f [] i k=false:=by simp [hasB]
theorem hasB_cons {α:Type} (f:Nat->α->Bool) (x:α) (r:List α) (i k:Nat):hasB f (x :: r) i k=((decide (k=i)&&f i x)||hasB f r (i+1) k):=by
 unfold hasB
 rcases Nat.lt_trichotomy k i with h|h|h
 ·simp [show ¬ i<=k by omega,show ¬ i+1<=k by omega,show ¬ k=i by omega]
 ·subst h;simp [show ¬ k+1<=k by omega]
 ·have e:k - i=(k - (i+1))+1:=by omega
  simp [show i<=k by omega,show i+1<=k by omega,show ¬ k=i by omega,e]
theorem hasB_zero {α:Type} (f:Nat->α->Bool) (d:α) (l:List α) (k:Nat):hasB f l 0 k=(decide (k<l.length)&&f k (l.getD k d)):=by
 unfold hasB
 rcases Nat.lt_or_ge k l.length with h|h
 ·simp [h,List.getD]
 ·simp [Nat.not_lt.2 h,List.getElem?_eq_none h]
theorem Qxe {α:Type} (f:Nat->α->Bool) (G:List α->List Int->Nat->List Int) (h0:∀ out i,G [] out i=out) (h1:∀ x r out i,G (x :: r) out i=bif f i x then G r (out++[(i:Int)]) (i+1) else G r out (i+1)):∀ (l:List α) (out:List Int) (i:Nat),G l out i=out++idxL f l i
 | [],out,i=>by rw [h0,idxL,List.append_nil]
 | x :: r,out,i=>by
  rw [h1,idxL]
  cases f i x with
  | true=>simp only [cond_true];rw [Qxe f G h0 h1 r];simp
  | false=>simp only [cond_false];exact Qxe f G h0 h1 r out (i+1)
end Go.Fw
namespace Go.Proofs.YtackngeeehiegaaGreatDoor
set_option linter.unusedSimpArgs false
set_option linter.unusedVariables false
open Go.Fw
theorem Qe7 {k:Nat} (h:k<64):QM1 (k:Int)=(2:Int) ^ k:=by
 unfold QM1
 have e:wu64 (k:Int)=(k:Int):=QN7 ⟨by omega,by omega⟩
 rw [e,Int.toNat_natCast,Nat.min_eq_left (by omega),Int.one_mul,QN7 (pow_U h)]
theorem and_one {s:Int} (hs:U64 s) {k:Nat} (hk:k<64):((wu64 (BitVec.ofInt 64 s &&& BitVec.ofInt 64 (QM1 (k:Int))).toNat)!=0)=tb s k:=by
 have hp:U64 ((2:Int) ^ k):=pow_U hk
 rw [Qe7 hk]
 cases hb:tb s k with
 | true =>
  refine (Qkf (Qz8 _)).2 ⟨k,hk,?_⟩
  rw [tb_and hs hp,hb,tb_pow]
  simp
 | false =>
  cases hx:((wu64 (BitVec.ofInt 64 s &&& BitVec.ofInt 64 ((2:Int) ^ k)).toNat)!=0) with
  | false=>rfl
  | true =>
   obtain ⟨j,hj,h⟩:=(Qkf (Qz8 _)).1 hx
   rw [tb_and hs hp,tb_pow] at h
   simp only [Bool.and_eq_true,decide_eq_true_eq] at h
   rw [← h.2,hb] at h
   cases h.1
theorem QH2 {s:Int} (hs:U64 s) (k:Nat):Qu0 s (k:Int)=(decide (k<64)&&tb s k):=by
 unfold Qu0
 rcases Nat.lt_or_ge k 64 with h|h
 ·rw [and_one hs h]
  simp [h]
  omega
 ·have:¬ ((k:Int)<64):=by omega
  simp [this,Nat.not_lt.2 h]
theorem QM8 {α:Type} (f:Nat->α->Bool):∀ (l:List α) (i:Nat) (s:Int) (j:Nat),i+l.length<=64->U64 s->(∀ k,i<=k->tb s k=false) ->
  (QE3 (idxL f l i) s j).2=0∧U64 (QE3 (idxL f l i) s j).1 ∧ ∀ k,tb (QE3 (idxL f l i) s j).1 k=(tb s k||hasB f l i k)
 | [],i,s,j,_,hs,_=>⟨rfl,hs,fun k=>by rw [hasB_nil,Bool.or_false];rfl⟩
 | x :: r,i,s,j,hl,hs,hf=>by
  simp only [List.length_cons] at hl
  rw [idxL]
  cases hx:f i x with
  | false =>
   simp only [cond_false]
   obtain ⟨a,b,c⟩:=QM8 f r (i+1) s j (by omega) hs (fun k hk=>hf k (by omega))
   exact ⟨a,b,fun k=>by rw [c,hasB_cons,hx];simp⟩
  | true =>
   simp only [cond_true]
   have hi:i<64:=by omega
   have hg:(((decide ((i:Int)<0))||(decide ((i:Int) >= 64)))||((wu64 (BitVec.ofInt 64 s &&& BitVec.ofInt 64 (QM1 (i:Int))).toNat)!=0))=false:=by
    rw [and_one hs hi,hf i (Nat.le_refl _)]
    simp
    omega
   rw [QE3,hg]
   simp only [cond_false]
   have hp:U64 ((2:Int) ^ i):=pow_U hi
   have ht:∀ k,tb (wu64 (BitVec.ofInt 64 s ||| BitVec.ofInt 64 (QM1 (i:Int))).toNat) k=(tb s k||decide (i=k)):=fun k=>by
    rw [Qe7 hi,tb_or hs hp,tb_pow]
   obtain ⟨a,b,c⟩:=QM8 f r (i+1) (wu64 (BitVec.ofInt 64 s ||| BitVec.ofInt 64 (QM1 (i:Int))).toNat) (j+1) (by omega) (Qz8 _) (fun k hk=>by
    rw [ht,hf k (by omega)]
    simp
    omega)
   refine ⟨a,b,fun k=>?_⟩
   rw [c,ht,hasB_cons,hx,Bool.and_true,Bool.or_assoc]
   congr 2
   simp [eq_comm]
theorem set_where {α:Type} (f:Nat->α->Bool) (d:α) (l:List α) (hl:l.length<=64):U64 (QH0 (idxL f l 0)).1 ∧ ∀ k,tb (QH0 (idxL f l 0)).1 k=(decide (k<l.length)&&f k (l.getD k d)):=by
 obtain ⟨_,b,c⟩:=QM8 f l 0 0 0 (by omega) .zero (fun k _=>QV8 k)
 exact ⟨b,fun k=>(c k).trans (by rw [QV8,Bool.false_or,hasB_zero f d])⟩
theorem QW5 (l:List Node) (is:Node->Bool) (hc:Qa0 l=0) (hl:l.length<=64):U64 (Qa1 l is) ∧ ∀ k,tb (Qa1 l is) k=(decide (k<l.length)&&is (l.getD k Node.zero)):=by
 have e:Qa1 l is=(QH0 (idxL (fun _ x=>is x) l 0)).1:=by
  unfold Qa1
  rw [hc]
  show Q01 (Qa3 is l [] 0)=_
  rw [Q01,Qxe (fun _ x=>is x) (Qa3 is) (fun _ _=>rfl) (fun _ _ _ _=>rfl),List.nil_append]
 rw [e]
 exact set_where (fun _ x=>is x) Node.zero l hl
theorem QU9 {n:Nat} (h:n<=64):U64 (Qp3 (n:Int)) ∧ ∀ k,tb (Qp3 (n:Int)) k=decide (k<n):=by
 have low:∀ m:Nat,m<64->U64 (((2:Int) ^ m) - 1) ∧ ∀ k,tb (((2:Int) ^ m) - 1) k=decide (k<m):=by
  intro m hm
  have hu:=pow_U hm
  obtain ⟨q,e,e'⟩:=QF7 m
  have hq:0<q:=by rw [← e'];exact Nat.pow_pos (by decide)
  refine ⟨by unfold U64 at *;omega,fun k=>?_⟩
  have:((2:Int) ^ m - 1).toNat=2 ^ m - 1:=by omega
  rw [tb,this,Nat.testBit_two_pow_sub_one]
 unfold Qp3
 rcases Nat.eq_zero_or_pos n with h0|h0
 ·subst h0
  exact ⟨.zero,fun k=>by simp [QV8]⟩
 ·have h1:decide ((n:Int)<=0)=false:=decide_eq_false (by omega)
  rw [h1]
  rcases Nat.lt_or_ge n 64 with h2|h2
  ·have h3:decide ((n:Int) >= 64)=false:=decide_eq_false (by omega)
   rw [h3]
   simp only [cond_false]
   rw [Qe7 h2,QN7 (low n h2).1]
   exact low n h2
  ·have h3:decide ((n:Int) >= 64)=true:=decide_eq_true (by omega)
   rw [h3]
   obtain rfl:n=64:=by omega
   refine ⟨⟨by decide,by decide⟩,fun k=>?_⟩
   show tb 18446744073709551615 k=_
   have:(18446744073709551615:Int).toNat=2 ^ 64 - 1:=by decide
   rw [tb,this,Nat.testBit_two_pow_sub_one]
end Go.Proofs.YtackngeeehiegaaGreatDoor
namespace Go.Fw
set_option linter.unusedSimpArgs false
set_option linter.unusedVariables false
theorem Qad {n c:Nat} (hn:n<18446744073709551616) (hc:c<18446744073709551616):wu64 ((BitVec.ofInt 64 (n:Int) &&& BitVec.ofInt 64 (c:Int)).toNat:Int)=((n &&& c:Nat):Int):=by
 have e:∀ m:Nat,m<18446744073709551616->(BitVec.ofInt 64 (m:Int)).toNat=m:=fun m hm=>by
  rw [BitVec.toNat_ofInt]
  omega
 rw [BitVec.toNat_and,e n hn,e c hc,QN7]
 have:=Nat.and_le_left (n:=n) (m:=c)
 unfold U64
 omega
theorem Qbd (n k:Nat) (hk:k<=64):Int.fdiv (n:Int) (2 ^ (min (Int.toNat (k:Int)) 64))=((n / 2 ^ k:Nat):Int):=by
 rw [Int.toNat_natCast,Nat.min_eq_left hk,Int.fdiv_eq_ediv_of_nonneg _ (by have:=Int.pow_pos (n:=2) (m:=k) (by decide);omega)]
 simp
theorem Qcd {a b:Nat} (h:a+b<18446744073709551616):wu64 ((a:Int)+(b:Int))=((a+b:Nat):Int):=by
 rw [QN7]
 ·simp
 ·unfold U64;omega
theorem Qk9 {a c y m:Nat} (ha:a<256) (hc:c<256):(256*y+a) &&& (256*m+c)=256*(y &&& m)+(a &&& c):=by
 refine Nat.eq_of_testBit_eq fun k=>?_
 have e:∀ q r k,r<256->(256*q+r).testBit k=if k<8 then r.testBit k else q.testBit (k - 8):=fun q r k hr=>Nat.testBit_two_pow_mul_add (i:=8) q hr k
 have hac:a &&& c<256:=Nat.lt_of_le_of_lt Nat.and_le_left ha
 rw [Nat.testBit_and,e y a k ha,e m c k hc,e _ _ k hac]
 split <;> simp [Nat.testBit_and]
def by8 (a b c d e f g h:Nat):Nat:=256*(256*(256*(256*(256*(256*(256*h+g)+f)+e)+d)+c)+b)+a
theorem and8 {a b c d e f g h:Nat} (k:Nat) (hk:k<256) (ha:a<256) (hb:b<256) (hc:c<256) (hd:d<256) (he:e<256) (hf:f<256) (hg:g<256) :
  by8 a b c d e f g h &&& by8 k k k k k k k k=by8 (a &&& k) (b &&& k) (c &&& k) (d &&& k) (e &&& k) (f &&& k) (g &&& k) (h &&& k):=by
 unfold by8
 rw [Qk9 ha hk,Qk9 hb hk,Qk9 hc hk,Qk9 hd hk,Qk9 he hk,Qk9 hf hk,Qk9 hg hk]
def st1 (y:Nat):Nat:=(y &&& 170) / 2+(y &&& 85)
def st2 (y:Nat):Nat:=(y &&& 204) / 4+(y &&& 51)
def st3 (y : Nat) : Nat := (y + y / 16) % 16
def popN:Nat->Nat->Nat
 | 0,_=>0
 | k + 1, n => n % 2 + popN k (n / 2)
theorem pop8 : ∀ y, y < 256 -> st3 (st2 (st1 y)) = popN 8 y ∧ (y &&& 170) % 2 = 0 ∧ (st1 y &&& 204) % 4 = 0 ∧ st1 y < 256 ∧ st2 (st1 y) <= 68 := by decide +kernel
theorem popN_add:∀ (j k n:Nat),popN (j+k) n=popN j n+popN k (n / 2 ^ j)
 | 0,k,n=>by simp [popN]
 | j+1,k,n=>by
  rw [show j+1+k=(j+k)+1 by omega,popN,popN_add j k,popN,Nat.pow_succ,Nat.mul_comm (2 ^ j) 2,Nat.div_div_eq_div_mul]
  omega
theorem popN_low (q:Nat):∀ (j r:Nat),r<2 ^ j->popN j (2 ^ j*q+r)=popN j r
 | 0,r,_=>rfl
 | j+1,r,h=>by
  rw [popN,popN,Nat.pow_succ]
  rw [Nat.pow_succ] at h
  have e1 : (2 ^ j * 2 * q + r) % 2 = r % 2 := by rw [Nat.mul_right_comm, Nat.mul_comm _ 2, Nat.mul_add_mod]
  have e2:(2 ^ j*2*q+r) / 2=2 ^ j*q+r / 2:=by rw [Nat.mul_right_comm,Nat.mul_comm _ 2,Nat.mul_add_div (by decide)]
  rw [e1,e2,popN_low q j (r / 2) (by omega)]
theorem pop_by8 {a b c d e f g h:Nat} (ha:a<256) (hb:b<256) (hc:c<256) (hd:d<256) (he:e<256) (hf:f<256) (hg:g<256) (hh:h<256) :
  popN 64 (by8 a b c d e f g h)=popN 8 a+(popN 8 b+(popN 8 c+(popN 8 d+(popN 8 e+(popN 8 f+(popN 8 g+popN 8 h)))))):=by
 have step:∀ k q r,r<256->popN (8+k) (256*q+r)=popN 8 r+popN k q:=fun k q r hr=>by
  rw [popN_add,popN_low q 8 r hr]
  congr 2
  show (256*q+r) / 256=q
  omega
 unfold by8
 rw [show 64=8+(8+(8+(8+(8+(8+(8+8)))))) from rfl,step _ _ _ ha,step _ _ _ hb,step _ _ _ hc,step _ _ _ hd,step _ _ _ he,step _ _ _ hf,step _ _ _ hg]
theorem exists_by8 {n:Nat} (h:n<18446744073709551616):∃ a b c d e f g h,n=by8 a b c d e f g h∧a<256∧b<256∧c<256∧d<256∧e<256∧f<256∧g<256∧h<256:=by
 refine ⟨n % 256, n / 256 % 256, n / 65536 % 256, n / 16777216 % 256, n / 4294967296 % 256, n / 1099511627776 % 256, n / 281474976710656 % 256, n / 72057594037927936 % 256, ?_, ?_, ?_, ?_, ?_, ?_, ?_, ?_, ?_⟩
 ·unfold by8;omega
 all_goals omega
theorem shr_and (x m k:Nat):(x / 2 ^ k) &&& m=(x &&& (m*2 ^ k)) / 2 ^ k:=by
 rw [← Nat.shiftRight_eq_div_pow,← Nat.shiftRight_eq_div_pow,Nat.shiftRight_and_distrib,Nat.shiftRight_eq_div_pow (m*2 ^ k),Nat.mul_div_cancel _ (Nat.pow_pos (by decide))]
def sw1 (x:Nat):Nat:=((x / 2 ^ 1) &&& 6148914691236517205)+(x &&& 6148914691236517205)
def sw2 (x:Nat):Nat:=((x / 2 ^ 2) &&& 3689348814741910323)+(x &&& 3689348814741910323)
def sw3 (x:Nat):Nat:=(x / 2 ^ 4+x) &&& 1085102592571150095
theorem sw1_by8 {a b c d e f g h:Nat} (ha:a<256) (hb:b<256) (hc:c<256) (hd:d<256) (he:e<256) (hf:f<256) (hg:g<256) (hh:h<256) :
  sw1 (by8 a b c d e f g h)=by8 (st1 a) (st1 b) (st1 c) (st1 d) (st1 e) (st1 f) (st1 g) (st1 h):=by
 unfold sw1
 rw [shr_and,show 6148914691236517205*2 ^ 1=by8 170 170 170 170 170 170 170 170 from rfl,show 6148914691236517205=by8 85 85 85 85 85 85 85 85 from rfl,and8 170 (by decide) ha hb hc hd he hf hg,and8 85 (by decide) ha hb hc hd he hf hg]
 have pa:=(pop8 a ha).2.1;have pb:=(pop8 b hb).2.1;have pc:=(pop8 c hc).2.1;have pd:=(pop8 d hd).2.1;have pe:=(pop8 e he).2.1;have pf:=(pop8 f hf).2.1;have pg:=(pop8 g hg).2.1;have ph:=(pop8 h hh).2.1
 unfold by8 st1
 omega
theorem sw2_by8 {a b c d e f g h : Nat} (ha : a < 256) (hb : b < 256) (hc : c < 256) (hd : d < 256) (he : e < 256) (hf : f < 256) (hg : g < 256) (ma : (a &&& 204) % 4 = 0) (mb : (b &&& 204) % 4 = 0) (mc : (c &&& 204) % 4 = 0) (md : (d &&& 204) % 4 = 0) (me : (e &&& 204) % 4 = 0) (mf : (f &&& 204) % 4 = 0) (mg : (g &&& 204) % 4 = 0) (mh : (h &&& 204) % 4 = 0) :
  sw2 (by8 a b c d e f g h)=by8 (st2 a) (st2 b) (st2 c) (st2 d) (st2 e) (st2 f) (st2 g) (st2 h):=by
 unfold sw2
 rw [shr_and,show 3689348814741910323*2 ^ 2=by8 204 204 204 204 204 204 204 204 from rfl,show 3689348814741910323=by8 51 51 51 51 51 51 51 51 from rfl,and8 204 (by decide) ha hb hc hd he hf hg,and8 51 (by decide) ha hb hc hd he hf hg]
 unfold by8 st2
 omega
theorem and15 (z : Nat) : z &&& 15 = z % 16 := Nat.and_two_pow_sub_one_eq_mod z 4
theorem sw3_by8 {a b c d e f g h : Nat} (ha : a <= 68) (hb : b <= 68) (hc : c <= 68) (hd : d <= 68) (he : e <= 68) (hf : f <= 68) (hg : g <= 68) (hh : h <= 68) (na : a % 16 <= 4) (nb : b % 16 <= 4) (nc : c % 16 <= 4) (nd : d % 16 <= 4) (ne : e % 16 <= 4) (nf : f % 16 <= 4) (ng : g % 16 <= 4) (nh : h % 16 <= 4) :
  sw3 (by8 a b c d e f g h)=by8 (st3 a) (st3 b) (st3 c) (st3 d) (st3 e) (st3 f) (st3 g) (st3 h):=by
 unfold sw3
 have e0 : by8 a b c d e f g h / 2 ^ 4 + by8 a b c d e f g h = by8 (a + a / 16 + 16 * (b % 16)) (b + b / 16 + 16 * (c % 16)) (c + c / 16 + 16 * (d % 16)) (d + d / 16 + 16 * (e % 16)) (e + e / 16 + 16 * (f % 16)) (f + f / 16 + 16 * (g % 16)) (g + g / 16 + 16 * (h % 16)) (h + h / 16) := by
  unfold by8
  omega
 rw [e0,show 1085102592571150095=by8 15 15 15 15 15 15 15 15 from rfl,and8 15 (by decide) (by omega) (by omega) (by omega) (by omega) (by omega) (by omega) (by omega)]
 simp only [and15]
 unfold st3
 congr 1 <;> omega
theorem QC8 : ∀ y, y < 256 -> st2 (st1 y) % 16 <= 4 ∧ st3 (st2 (st1 y)) <= 8 ∧ st2 (st1 y) < 256 ∧ st1 y < 256 := by decide +kernel
theorem sw_pop {n:Nat} (hn:n<18446744073709551616):∃ a b c d e f g h,sw3 (sw2 (sw1 n))=by8 a b c d e f g h∧a<=8∧b<=8∧c<=8∧d<=8∧e<=8∧f<=8∧g<=8∧h<=8∧popN 64 n=a+(b+(c+(d+(e+(f+(g+h)))))):=by
 obtain ⟨a,b,c,d,e,f,g,h,rfl,ha,hb,hc,hd,he,hf,hg,hh⟩:=exists_by8 hn
 have A:=pop8 a ha;have B:=pop8 b hb;have C:=pop8 c hc;have D:=pop8 d hd;have E:=pop8 e he;have F:=pop8 f hf;have G:=pop8 g hg;have H:=pop8 h hh
 have A':=QC8 a ha;have B':=QC8 b hb;have C':=QC8 c hc;have D':=QC8 d hd;have E':=QC8 e he;have F':=QC8 f hf;have G':=QC8 g hg;have H':=QC8 h hh
 rw [sw1_by8 ha hb hc hd he hf hg hh,sw2_by8 A'.2.2.2 B'.2.2.2 C'.2.2.2 D'.2.2.2 E'.2.2.2 F'.2.2.2 G'.2.2.2 A.2.2.1 B.2.2.1 C.2.2.1 D.2.2.1 E.2.2.1 F.2.2.1 G.2.2.1 H.2.2.1,
  sw3_by8 A.2.2.2.2 B.2.2.2.2 C.2.2.2.2 D.2.2.2.2 E.2.2.2.2 F.2.2.2.2 G.2.2.2.2 H.2.2.2.2 A'.1 B'.1 C'.1 D'.1 E'.1 F'.1 G'.1 H'.1,pop_by8 ha hb hc hd he hf hg hh]
 refine ⟨_,_,_,_,_,_,_,_,rfl,A'.2.1,B'.2.1,C'.2.1,D'.2.1,E'.2.1,F'.2.1,G'.2.1,H'.2.1,?_⟩
 rw [A.1,B.1,C.1,D.1,E.1,F.1,G.1,H.1]
theorem Qob {a b c d e f g h:Nat} (ha:a<256):by8 a b c d e f g h / 256=by8 b c d e f g h 0:=by
 unfold by8
 omega
theorem by8_add (a b c d e f g h a' b' c' d' e' f' g' h':Nat):by8 a b c d e f g h+by8 a' b' c' d' e' f' g' h'=by8 (a+a') (b+b') (c+c') (d+d') (e+e') (f+f') (g+g') (h+h'):=by
 unfold by8
 omega
theorem by8_lt {a b c d e f g h:Nat} (ha:a<=64) (hb:b<=64) (hc:c<=64) (hd:d<=64) (he:e<=64) (hf:f<=64) (hg:g<=64) (hh:h<=64):by8 a b c d e f g h<9223372036854775808:=by
 unfold by8
 omega
theorem by8_mod {a b c d e f g h : Nat} (ha : a < 128) : by8 a b c d e f g h % 128 = a := by
 unfold by8
 generalize 256*(256*(256*(256*(256*(256*h+g)+f)+e)+d)+c)+b=q
 omega
theorem sum_low {a b c d e f g h:Nat} (ha:a<=8) (hb:b<=8) (hc:c<=8) (hd:d<=8) (he:e<=8) (hf:f<=8) (hg:g<=8) (hh:h<=8) (x4 x5 x6:Nat) (h4:x4=by8 a b c d e f g h+by8 a b c d e f g h / 256) (h5:x5=x4+x4 / 65536) (h6:x6=x5+x5 / 4294967296) :
  x6 % 128 = a + (b + (c + (d + (e + (f + (g + h)))))) ∧ x4 < 9223372036854775808 ∧ x5 < 9223372036854775808 ∧ x6 < 9223372036854775808 := by
 have d2:∀ x,x / 65536=x / 256 / 256:=fun x=>by omega
 have d4:∀ x,x / 4294967296=x / 256 / 256 / 256 / 256:=fun x=>by omega
 have e4:x4=by8 (a+b) (b+c) (c+d) (d+e) (e+f) (f+g) (g+h) (h+0):=by rw [h4,Qob (by omega),by8_add]
 have e5:x5=by8 (a+b+(c+d)) (b+c+(d+e)) (c+d+(e+f)) (d+e+(f+g)) (e+f+(g+h)) (f+g+(h+0)) (g+h+0) (h+0+0):=by
  rw [h5,d2,e4,Qob (by omega),Qob (by omega),by8_add]
 have e6:x6=by8 (a+b+(c+d)+(e+f+(g+h))) (b+c+(d+e)+(f+g+(h+0))) (c+d+(e+f)+(g+h+0)) (d+e+(f+g)+(h+0+0)) (e+f+(g+h)+0) (f+g+(h+0)+0) (g+h+0+0) (h+0+0+0):=by
  rw [h6,d4,e5,Qob (by omega),Qob (by omega),Qob (by omega),Qob (by omega),by8_add]
 refine ⟨?_,?_,?_,?_⟩
 ·rw [e6,by8_mod (by omega)];omega
 ·rw [e4];exact by8_lt (by omega) (by omega) (by omega) (by omega) (by omega) (by omega) (by omega) (by omega)
 ·rw [e5];exact by8_lt (by omega) (by omega) (by omega) (by omega) (by omega) (by omega) (by omega) (by omega)
 ·rw [e6];exact by8_lt (by omega) (by omega) (by omega) (by omega) (by omega) (by omega) (by omega) (by omega)
end Go.Fw
namespace Go.Proofs.YtackngeeehiegaaGreatDoor
set_option linter.unusedSimpArgs false
set_option linter.unusedVariables false
open Go.Fw
theorem same_go {α:Type} (d:α) (b:List α) (e:α->α->Bool) (he:∀ x y,e x y=true ↔ x=y) (G:List α->Nat->Bool) (h0:∀ i,G [] i=true) (h1:∀ x r i,G (x :: r) i=bif !(e x (b.getD i d)) then false else G r (i+1)) :
  ∀ (l:List α) (i:Nat),i+l.length=b.length->(G l i=true ↔ l=b.drop i)
 | [],i,h=>by
  rw [h0,Qd0 (by simp at h;omega)]
  simp
 | x :: r,i,h=>by
  have hi:i<b.length:=by simp at h;omega
  rw [h1,Qc0 d hi]
  cases hx:e x (b.getD i d) with
  | false =>
   have hne:x ≠ b.getD i d:=fun hq=>by rw [(he _ _).2 hq] at hx;cases hx
   simp only [Bool.not_false,cond_true]
   exact ⟨fun h=>(nomatch h),fun h=>absurd (List.cons.inj h).1 hne⟩
  | true =>
   have hq:=(he _ _).1 hx
   have:=same_go d b e he G h0 h1 r (i+1) (by simp at h ⊢;omega)
   simp only [Bool.not_true,cond_false]
   rw [this,hq]
   simp
theorem QI6 {α:Type} (d:α) (a b:List α) (e:α->α->Bool) (he:∀ x y,e x y=true ↔ x=y) (G:List α->Nat->Bool) (h0:∀ i,G [] i=true) (h1:∀ x r i,G (x :: r) i=bif !(e x (b.getD i d)) then false else G r (i+1)) :
  (bif ((a.length:Int)!=(b.length:Int)) then false else G a 0)=true ↔ a=b:=by
 cases hl:((a.length:Int)!=(b.length:Int)) with
 | true =>
  have:(a.length:Int) ≠ (b.length:Int):=by simpa using hl
  simp only [cond_true]
  refine ⟨fun h=>(nomatch h),fun h=>?_⟩
  subst h
  exact absurd rfl this
 | false =>
  have h:(a.length:Int)=(b.length:Int):=by simpa using hl
  simp only [cond_false]
  have:=same_go d b e he G h0 h1 a 0 (by omega)
  simpa using this
theorem QVb (a b:ByteArray):(ByteArray.toList a==ByteArray.toList b)=true ↔ a=b:=by
 rw [beq_iff_eq,ByteArray.toList_eq,ByteArray.toList_eq]
 refine ⟨fun h=>?_,fun h=>by rw [h]⟩
 exact ByteArray.ext (Array.toList_inj.1 h)
theorem bytes_inj2 (a b:ByteArray):ByteArray.toList a=ByteArray.toList b ↔ a=b:=by
 rw [← QVb,beq_iff_eq]
theorem bytes_beq (a b:ByteArray):(a==b)=true ↔ a=b:=by
 cases a with|mk a=>cases b with|mk b =>
 show (a==b)=true ↔ ByteArray.mk a=ByteArray.mk b
 simp
theorem equal_Alt (a b:List Alt):Q06 a b=true ↔ a=b :=
 QI6 Alt.zero a b (fun x y=>((x.nodes==y.nodes)&&(x.wall==y.wall))) (fun x y=>by cases x;cases y;simp) (Qu4 b) (fun _=>rfl) (fun _ _ _=>rfl)
theorem equal_Dep (a b:List Dep):Q16 a b=true ↔ a=b :=
 QI6 Dep.zero a b (fun x y=>((x.how==y.how)&&(x.job==y.job))) (fun x y=>by cases x;cases y;simp) (Qv4 b) (fun _=>rfl) (fun _ _ _=>rfl)
theorem shape_same (a b:Shape):Qh9 a b=true ↔ a=b:=by
 cases a;cases b
 simp only [Qh9,Bool.and_eq_true,beq_iff_eq,equal_Alt,Shape.mk.injEq]
 grind
theorem ref12_same (a b:List Node):QUa a b=true ↔ a=b :=
 QI6 Node.zero a b (fun x y=>((x.state==y.state)&&((x.job==y.job)&&((x.epoch==y.epoch)&&((x.drain==y.drain)&&((x.want==y.want)&&((x.since==y.since)&&(x.asked==y.asked)))))))) (fun x y=>by cases x;cases y;simp) (QX7 b) (fun _=>rfl) (fun _ _ _=>rfl)
theorem ref19_same (a b:List Book):QXa a b=true ↔ a=b :=
 QI6 Book.zero a b (fun x y=>((x.id==y.id)&&((x.from_==y.from_)&&((x.to==y.to)&&(x.nodes==y.nodes))))) (fun x y=>by cases x;cases y;simp) (QZ7 b) (fun _=>rfl) (fun _ _ _=>rfl)
theorem Qfd (a b:List Resize):Qx5 a b=true ↔ a=b :=
 QI6 Resize.zero a b (fun x y=>((x.job==y.job)&&((x.grow==y.grow)&&((x.nodes==y.nodes)&&((x.said==y.said)&&(x.since==y.since)))))) (fun x y=>by cases x;cases y;simp) (Q24 b) (fun _=>rfl) (fun _ _ _=>rfl)
theorem ref17_same (a b:List Usage):QWa a b=true ↔ a=b :=
 QI6 Usage.zero a b (fun x y=>!((((!(ByteArray.toList x.user==ByteArray.toList y.user))||(!(ByteArray.toList x.account==ByteArray.toList y.account)))||(x.used != y.used))||(x.share != y.share)))
  (fun x y=>by
   have b1:=QVb x.user y.user
   have b2:=QVb x.account y.account
   cases x;cases y
   simp only at b1 b2
   simp only [Bool.not_eq_true',Bool.or_eq_false_iff,Bool.not_eq_false',b1,b2,bne_eq_false_iff_eq,Usage.mk.injEq]
   grind) (QF6 b) (fun _=>rfl) (fun _ _ _=>by rw [QF6,Bool.not_not])
theorem ref07_sameAlts (a b:List Alt):Qg7 a b=true ↔ a=b :=
 QI6 Alt.zero a b (fun x y=>!((x.nodes != y.nodes)||(x.wall != y.wall))) (fun x y=>by cases x;cases y;simp) (Qe4 b) (fun _=>rfl) (fun _ _ _=>by rw [Qe4,Bool.not_not])
theorem ref07_same (a b:Shape):Q07 a b=true ↔ a=b:=by
 cases a;cases b
 simp only [Q07,Bool.and_eq_true,beq_iff_eq,ref07_sameAlts,Shape.mk.injEq]
 grind
theorem Qvc (a b:Job):∀ (l:List Dep) (i:Nat),i+l.length=b.after.length->(ref14_Same_g1 a b l i=true ↔ (l=b.after.drop i∧ref14_Same_g1 a b [] 0=true))
 | [],i,h=>by
  rw [Qd0 (by simp at h;omega)]
  simp [ref14_Same_g1]
 | x :: r,i,h=>by
  have hi:i<b.after.length:=by simp at h;omega
  rw [ref14_Same_g1.eq_2,Qc0 Dep.zero hi]
  have ih:=Qvc a b r (i+1) (by simp at h ⊢;omega)
  cases hx:((x.how==(b.after.getD i Dep.zero).how)&&(x.job==(b.after.getD i Dep.zero).job)) with
  | false =>
   have hne:x ≠ b.after.getD i Dep.zero:=fun hq=>by rw [hq] at hx;simp at hx
   simp only [Bool.not_false,cond_true]
   exact ⟨fun h=>(nomatch h),fun h=>absurd (List.cons.inj h.1).1 hne⟩
  | true =>
   have hq:x=b.after.getD i Dep.zero:=by
    revert hx
    cases x;cases (b.after.getD i Dep.zero)
    simp
   simp only [Bool.not_true,cond_false]
   rw [ih,hq]
   simp
theorem ref14_same (a b:Job):Q58 a b=true ↔ a=b:=by
 unfold Q58
 cases hl:((a.after.length:Int)!=(b.after.length:Int)) with
 | true =>
  have:(a.after.length:Int) ≠ (b.after.length:Int):=by simpa using hl
  simp only [Bool.true_or,cond_true]
  exact ⟨fun h=>(nomatch h),fun h=>absurd (by rw [h]) this⟩
 | false =>
  have hl':(a.after.length:Int)=(b.after.length:Int):=by simpa using hl
  cases h1:Q07 a.shape b.shape with
  | false =>
   have:a.shape ≠ b.shape:=fun h=>by rw [(ref07_same _ _).2 h] at h1;cases h1
   simp only [Bool.not_false,Bool.or_true,cond_true]
   exact ⟨fun h=>(nomatch h),fun h=>absurd (by rw [h]) this⟩
  | true =>
   have e1:=(ref07_same _ _).1 h1
   simp only [Bool.not_true,Bool.or_false,cond_false]
   rw [Qvc a b a.after 0 (by omega)]
   simp only [ref14_Same_g1,List.drop_zero,Bool.and_eq_true,beq_iff_eq,bytes_inj2]
   cases a;cases b
   simp only at e1
   simp only [Job.mk.injEq]
   grind
theorem ref15_same (a b:List Job):QVa a b=true ↔ a=b :=
 QI6 Job.zero a b Q58 ref14_same (QY7 b) (fun _=>rfl) (fun _ _ _=>rfl)
theorem ref25_same (a b:State):Q68 a b=true ↔ a=b:=by
 cases a;cases b
 simp only [Q68,Bool.and_eq_true,beq_iff_eq,ref12_same,ref15_same,Qfd,ref19_same,ref17_same,State.mk.injEq]
 grind
theorem Qz4 {s:State} (h:Qr2 s=0):Qa0 s.nodes=0∧QW1 s.jobs=0:=by
 unfold Qr2 at h
 cases h1:(Qt2 s != 0) with
 | true=>rw [h1] at h;cases h
 | false =>
  have hr:Qt2 s=0:=by simpa using h1
  unfold Qt2 at hr
  cases h2:(((((decide (s.now<0))||(decide (s.now > 1000000)))||((Qa0 s.nodes)!=0))||((QW1 s.jobs)!=0))||((QM6 s.books)!=0)) with
  | true=>rw [h2] at hr;cases hr
  | false =>
   obtain ⟨h3,_⟩:=or_f h2
   obtain ⟨h4,h5⟩:=or_f h3
   obtain ⟨_,h6⟩:=or_f h4
   exact ⟨by simpa using h6,by simpa using h5⟩
theorem check_held (s:State) (a b:Int) (c:List (Int × Job)):∀ (l:List Resize) (i:Nat) (c2:List (Int × Resize)),QH1 s a b c l i c2=0 ->
  c.all (fun (en:Int × Job)=>(bif ((QO2 s.nodes en.1)!=en.2.nodes) then false else true))=true
 | [],i,c2,h=>by
  rw [QH1] at h
  cases h1:((((!true)||(!(Qj1 s.nextJob a)))||(!(Qj1 s.nextBook b)))||(!(QV2 s c c2))) with
  | true=>rw [h1] at h;cases h
  | false =>
   rw [h1] at h
   simp only [cond_false] at h
   cases h2:c.all (fun (en:Int × Job)=>(bif ((QO2 s.nodes en.1)!=en.2.nodes) then false else true)) with
   | true=>rfl
   | false=>rw [h2] at h;cases h
 | x :: r,i,c2,h=>by
  rw [QH1] at h
  cases h1:(((!(getM x.job c).isSome)||((decide ((i:Int) > 0))&&(decide ((s.resizes.getD (Int.toNat (w64 ((i:Int) - 1))) Resize.zero).job >= x.job))))||(!(Qf3 s x ((getM x.job c).getD Job.zero)))) with
  | true=>rw [h1] at h;cases h
  | false =>
   rw [h1] at h
   exact check_held s a b c r (i+1) _ h
theorem setM_mem {α β:Type} [BEq α] [LawfulBEq α] (k:α) (v:β):∀ l:List (α × β),(k,v) ∈ setM k v l
 | []=>by simp [setM]
 | p :: r=>by
  rw [setM]
  cases hk:k==p.1 with
  | true=>simp
  | false=>simp [setM_mem k v r]
theorem setM_keep {α β:Type} [BEq α] [LawfulBEq α] (k k':α) (v v':β) (hne:k ≠ k'):∀ l:List (α × β),(k,v) ∈ l->(k,v) ∈ setM k' v' l
 | [],h=>nomatch h
 | p :: r,h=>by
  rw [setM]
  cases hk:k'==p.1 with
  | true =>
   have e:=eq_of_beq hk
   rcases List.mem_cons.1 h with h|h
   ·exact absurd (by rw [e,← h]) hne
   ·exact List.mem_cons_of_mem _ h
  | false =>
   rcases List.mem_cons.1 h with h|h
   ·rw [← h];exact List.mem_cons_self ..
   ·exact List.mem_cons_of_mem _ (setM_keep k k' v v' hne r h)
theorem Qe6 (x:Job):∀ (l:List Job) (i:Nat) (c:List (Int × Job)),((x.id,x) ∈ c∧(∀ y ∈ l,y.id ≠ x.id))∨(x ∈ l∧x.state=2∧l.Pairwise (fun a b=>a.id<b.id))->(x.id,x) ∈ Qy0 l i c
 | [],i,c,h=>by
  rcases h with ⟨h,_⟩|⟨h,_⟩
  ·exact h
  ·exact nomatch h
 | y :: r,i,c,h=>by
  rw [Qy0]
  rcases h with ⟨h,hn⟩|⟨h,hs,hp⟩
  ·have hy:=hn y (List.mem_cons_self ..)
   cases (y.state==2) with
   | true=>exact Qe6 x r (i+1) _ (.inl ⟨setM_keep _ _ _ _ (Ne.symm hy) c h,fun z hz=>hn z (List.mem_cons_of_mem _ hz)⟩)
   | false=>exact Qe6 x r (i+1) _ (.inl ⟨h,fun z hz=>hn z (List.mem_cons_of_mem _ hz)⟩)
  ·obtain ⟨h1,h2⟩:=List.pairwise_cons.1 hp
   rcases List.mem_cons.1 h with rfl|h
   ·rw [beq_iff_eq.2 hs]
    exact Qe6 x r (i+1) _ (.inl ⟨setM_mem _ _ c,fun z hz=>by have:=h1 z hz;omega⟩)
   ·cases (y.state==2) with
    | true=>exact Qe6 x r (i+1) _ (.inr ⟨h,hs,h2⟩)
    | false=>exact Qe6 x r (i+1) _ (.inr ⟨h,hs,h2⟩)
theorem table_rows (l:List Job) (hn:l.length<=40):∀ (r:List Job) (i:Nat),r=l.drop i->i+r.length=l.length->QW4 l r i=0 ->
  (∀ x ∈ r,Q61 x=0)∧r.Pairwise (fun a b=>a.id<b.id)∧(∀ y,0<i->l[i - 1]? = some y -> ∀ x ∈ r,y.id<x.id)
 | [],i,_,_,_=>⟨fun x hx=>(nomatch hx),.nil,fun _ _ _ x hx=>(nomatch hx)⟩
 | x :: r,i,hr,hlen,h=>by
  simp only [List.length_cons] at hlen
  rw [QW4] at h
  cases h1:(((Q61 x)!=0)||((decide ((i:Int) > 0))&&(decide ((l.getD (Int.toNat (w64 ((i:Int) - 1))) Job.zero).id >= x.id)))) with
  | true=>rw [h1] at h;cases h
  | false =>
   rw [h1] at h
   obtain ⟨h2,h3⟩:=or_f h1
   have hx:Q61 x=0:=by simpa using h2
   have hi:l[i]? = some x:=by
    have:=congrArg (fun q=>q[0]?) hr
    simpa [List.getElem?_drop] using this.symm
   have hr':r=l.drop (i+1):=by rw [← List.drop_drop,← hr];rfl
   obtain ⟨ih1,ih2,ih3⟩:=table_rows l hn r (i+1) hr' (by omega) h
   have hxr:∀ z ∈ r,x.id<z.id:=ih3 x (by omega) hi
   refine ⟨fun z hz=>?_,List.pairwise_cons.2 ⟨hxr,ih2⟩,fun y hi0 hy z hz=>?_⟩
   ·rcases List.mem_cons.1 hz with rfl|hz
    ·exact hx
    ·exact ih1 z hz
   ·have hyx:y.id<x.id:=by
     have hw:w64 ((i:Int) - 1)=(i:Int) - 1:=wr (by omega)
     have ht:Int.toNat ((i:Int) - 1)=i - 1:=by omega
     have hg:l.getD (i - 1) Job.zero=y:=by simp [List.getD,hy]
     rw [hw,ht,hg] at h3
     simp at h3
     omega
    rcases List.mem_cons.1 hz with rfl|hz
    ·exact hyx
    ·exact Int.lt_trans hyx (hxr z hz)
theorem Q59 {j:Job} (h:Q61 j=0):1<=j.id∧j.id<=99999:=by
 unfold Q61 at h
 cases h1:((((((decide (j.id<1))||(decide (j.id > 99999)))||(!(Qh2 j.born)))||(j.used != (Qh4 j.used)))||((Q44 (Qn0 j))!=0))||(Qs0 j.after (fun (y:Dep)=>(decide (y.job >= j.id))))) with
 | true=>rw [h1] at h;cases h
 | false =>
  obtain ⟨h2,_⟩:=or_f h1
  obtain ⟨h3,_⟩:=or_f h2
  obtain ⟨h4,_⟩:=or_f h3
  obtain ⟨h5,_⟩:=or_f h4
  simp at h5
  omega
theorem job_runs {j:Job} (h:Q61 j=0) (hs:j.state=2):QM2 j.shape j.choice (Q40 j.nodes)=true:=by
 unfold Q61 at h
 cases h1:((((((decide (j.id<1))||(decide (j.id > 99999)))||(!(Qh2 j.born)))||(j.used != (Qh4 j.used)))||((Q44 (Qn0 j))!=0))||(Qs0 j.after (fun (y:Dep)=>(decide (y.job >= j.id))))) with
 | true=>rw [h1] at h;cases h
 | false =>
  rw [h1,hs] at h
  cases h2:Qk1 j with
  | false=>rw [h2] at h;cases h
  | true =>
   unfold Qk1 at h2
   revert h2
   cases (((((((!(QK0 j j.choice).2)||j.held)||(!(Qh2 j.start)))||(!(Qh2 j.promise)))||(decide (j.promise<j.start)))||(!(Qh2 j.limit)))||((w64 (j.limit - j.start))!=(QK0 j j.choice).1.wall)) with
   | true=>intro h2;cases h2
   | false =>
    intro h2
    simp only [cond_false,Bool.and_eq_true] at h2
    exact h2.2
theorem Qk4 {l:List Job} (h:l.Pairwise (fun a b=>a.id<b.id)):∀ (a b:Nat) (x y:Job),a<b->l[a]? = some x->l[b]? = some y->x.id<y.id:=by
 intro a b x y hab ha hb
 obtain ⟨ha1,rfl⟩:=List.getElem?_eq_some_iff.1 ha
 obtain ⟨hb1,rfl⟩:=List.getElem?_eq_some_iff.1 hb
 exact List.pairwise_iff_getElem.1 h a b ha1 hb1 hab
theorem Qw4 {l:List Job} (h:QW1 l=0):l.length<=40∧(∀ x ∈ l,Q61 x=0)∧l.Pairwise (fun a b=>a.id<b.id):=by
 unfold QW1 at h
 cases h1:(decide ((l.length:Int) > 40)) with
 | true=>rw [h1] at h;cases h
 | false =>
  rw [h1] at h
  have h2:=of_decide_eq_false h1
  obtain ⟨a,b,_⟩:=table_rows l (by omega) l 0 (by simp) (by omega) h
  exact ⟨by omega,a,b⟩
section
variable {s:State}
theorem check_parts (h:Qv0 s=0):Qr2 s=0 ∧ ∀ x ∈ s.jobs,x.state=2->QO2 s.nodes x.id=x.nodes:=by
 have h0:=h
 unfold Qv0 at h
 cases h1:(Qr2 s != 0) with
 | true=>rw [h1] at h;cases h
 | false =>
  rw [h1] at h
  have hp:Qr2 s=0:=by simpa using h1
  refine ⟨hp,fun x hx hs=>?_⟩
  obtain ⟨_,_,ho⟩:=Qw4 (Qz4 hp).2
  have hall:=check_held s _ _ _ _ _ _ h
  have hm:=Qe6 x s.jobs 0 [] (.inr ⟨hx,hs,ho⟩)
  have:=List.all_eq_true.1 hall _ hm
  simp only at this
  cases hq:(QO2 s.nodes x.id != x.nodes) with
  | false=>simpa using hq
  | true=>rw [hq] at this;cases this
end
theorem QEc (l:List Job) (id:Int) (hn:l.length<=40) (hid:1<=id∧id<=99999) (hb:∀ y ∈ l,1<=y.id∧y.id<=99999) (hs:∀ (a b:Nat) (x y:Job),a<b->l[a]? = some x->l[b]? = some y->x.id<y.id) (p:Nat) (x:Job) (hp:l[p]? = some x) (hx:x.id=id) :
  ∀ (m:Nat) (i j:Int),Int.toNat (j - i)<m->0<=i->i<=(p:Int)->(p:Int)<=j->j<=(l.length:Int)->(∀ k:Nat,j<=(k:Int) -> ∀ y,l[k]? = some y->id<=y.id) ->
   (Qr0 l id (fun (y:Job) (y1:Int)=>(w64 (y.id - y1))) m i j).1=(p:Int)
 | 0,i,j,hm,_,_,_,_,_=>absurd hm (by omega)
 | m+1,i,j,hm,h0,h1,h2,h3,h4=>by
  have hpl:p<l.length:=(List.getElem?_eq_some_iff.1 hp).1
  rw [Qr0]
  cases hd:decide (i<j) with
  | false =>
   have:=of_decide_eq_false hd
   show i=(p:Int)
   omega
  | true =>
   have hlt:=of_decide_eq_true hd
   rw [Qfa h0 hlt h3 (by omega)]
   simp only [cond_true]
   obtain ⟨q,hq⟩:∃ q:Nat,(i+j) / 2=(q:Int):=⟨((i+j) / 2).toNat,by omega⟩
   rw [hq]
   have hql:q<l.length:=by omega
   have hy:l[q]? = some l[q]:=List.getElem?_eq_getElem hql
   have hyd:l.getD (Int.toNat (q:Int)) Job.zero=l[q]:=by simp [List.getD,hy]
   have hyb:=hb l[q] (List.getElem_mem hql)
   rw [hyd]
   have hw:w64 ((l[q]).id - id)=(l[q]).id - id:=wr (by omega)
   rw [hw]
   cases hc:decide ((l[q]).id - id<0) with
   | true =>
    have hc':=of_decide_eq_true hc
    have hw2:w64 ((q:Int)+1)=(q:Int)+1:=wr (by omega)
    simp only [cond_true]
    rw [hw2]
    refine QEc l id hn hid hb hs p x hp hx m _ _ (by omega) (by omega) ?_ h2 h3 h4
    rcases Nat.lt_or_ge q p with h|h
    ·omega
    ·rcases Nat.eq_or_lt_of_le h with h|h
     ·subst h
      rw [hy] at hp
      cases hp
      omega
     ·have:=hs p q x _ h hp hy
      omega
   | false =>
    have hc':=of_decide_eq_false hc
    simp only [cond_false]
    refine QEc l id hn hid hb hs p x hp hx m _ _ (by omega) h0 h1 ?_ (by omega) ?_
    ·rcases Nat.lt_or_ge q p with h|h
     ·have:=hs q p _ x h hy hp
      omega
     ·omega
    ·intro k hk y hky
     rcases Nat.eq_or_lt_of_le (show q<=k by omega) with h|h
     ·subst h
      rw [hy] at hky
      cases hky
      omega
     ·have:=hs q k _ y h hy hky
      omega
theorem table_Find_ok {l:List Job} (h:QW1 l=0) {p:Nat} {x:Job} (hp:l[p]? = some x):QV0 l x.id=(x,true):=by
 obtain ⟨hn,hj,hs⟩:=Qw4 h
 have hb:∀ y ∈ l,1<=y.id∧y.id<=99999:=fun y hy=>Q59 (hj y hy)
 have hx:=hb x (List.mem_of_getElem? hp)
 have hpl:p<l.length:=(List.getElem?_eq_some_iff.1 hp).1
 have hpi:(Qq0 l x.id).1=(p:Int) :=
  QEc l x.id hn hx hb (Qk4 hs) p x hp rfl _ 0 (l.length:Int) (by omega) (by omega) (by omega) (by omega) (by omega) (fun k hk y hy=>absurd (List.getElem?_eq_some_iff.1 hy).1 (by omega))
 have hp2:(Qq0 l x.id).2=true:=by
  have e:(Qq0 l x.id).2=((decide ((Qq0 l x.id).1<(l.length:Int)))&&((w64 ((l.getD (Int.toNat (Qq0 l x.id).1) Job.zero).id - x.id))==0)):=rfl
  rw [e,hpi,Int.toNat_natCast]
  have hg:l.getD p Job.zero=x:=by simp [List.getD,hp]
  rw [hg,Int.sub_self]
  have h1:decide ((p:Int)<(l.length:Int))=true:=decide_eq_true (by omega)
  rw [h1]
  rfl
 unfold QV0
 rw [h,hp2,hpi]
 have hk:Q77 x.id=true:=by unfold Q77;simp;omega
 rw [hk]
 have hw:w64 ((p:Int)+1)=(p:Int)+1:=wr (by omega)
 have ht:Int.toNat ((p:Int)+1)=p+1:=by omega
 rw [hw,ht,Int.toNat_natCast]
 show ((List.drop p (List.take (p+1) l)).getD 0 Job.zero,true)=(x,true)
 have:(List.drop p (List.take (p+1) l)).getD 0 Job.zero=x:=by
  simp [List.getD,List.getElem?_drop,List.getElem?_take,hp]
 rw [this]
section
variable {s:State}
end
theorem Q49 {α:Type} (f:α->Bool) (G:List α->Nat->Int) (h0:∀ i,G [] i = -1) (h1:∀ x r i,G (x :: r) i=bif f x then (i:Int) else G r (i+1)):∀ (l:List α) (i:Nat),decide (G l i >= 0)=l.any f
 | [],i=>by rw [h0];rfl
 | x :: r,i=>by
  rw [h1,List.any_cons]
  cases f x with
  | true=>simp
  | false=>simpa using Q49 f G h0 h1 r (i+1)
theorem Qse (l:List Node) (f:Node->Bool):QF0 l f=l.any f:=Q49 f _ (fun _=>rfl) (fun _ _ _=>rfl) l 0
theorem any_Alt (l:List Alt) (f:Alt->Bool):QU0 l f=l.any f:=Q49 f _ (fun _=>rfl) (fun _ _ _=>rfl) l 0
theorem any_Dep (l:List Dep) (f:Dep->Bool):Qs0 l f=l.any f:=Q49 f _ (fun _=>rfl) (fun _ _ _=>rfl) l 0
theorem Qvd (l:List Int) (v:Int):Qw1 l v=l.any (fun x=>v==x):=Q49 (fun x=>v==x) _ (fun _=>rfl) (fun _ _ _=>rfl) l 0
theorem fine_eq (x:Node):QP0 x=Qf4 x:=by
 unfold QP0 Qf4
 simp only [Qvd,Qg3,List.any_cons,List.any_nil]
 obtain ⟨st,jb,ep,dr,wa,si,as_⟩:=x
 dsimp only
 by_cases h0:st=0
 ·subst h0;grind
 by_cases h1:st=1
 ·subst h1;grind
 by_cases h2:st=2
 ·subst h2;grind
 by_cases h3:st=3
 ·subst h3;grind
 by_cases h4:st=4
 ·subst h4;grind
 grind
theorem loop_all {α:Type} (f:α->Bool) (e:Int) (he:e ≠ 0) (G:List α->Nat->Int) (h0:∀ i,G [] i=0) (h1:∀ x r i,G (x :: r) i=bif !(f x) then e else G r (i+1)):∀ (l:List α) (i:Nat),G l i=bif l.any (fun x=>!(f x)) then e else 0
 | [],i=>h0 i
 | x :: r,i=>by
  rw [h1,List.any_cons]
  cases f x with
  | true=>simpa using loop_all f e he G h0 h1 r (i+1)
  | false=>rfl
theorem QE5 (l:List Node):Qa0 l=Qr3 l:=by
 unfold Qa0 Qr3
 rw [Qse,loop_all Qf4 120 (by decide) Qk7 (fun _=>rfl) (fun _ _ _=>rfl)]
 have e:(fun y=>!(QP0 y))=(fun y=>!(Qf4 y)):=by funext y;rw [fine_eq]
 rw [e]
 have e2:decide ((l.length:Int)<1)=((l.length:Int)==0):=by
  rw [Bool.eq_iff_iff]
  simp only [decide_eq_true_eq,beq_iff_eq]
  omega
 rw [e2]
 cases ((l.length:Int)==0) <;> cases (decide ((l.length:Int) > 48)) <;> cases l.any (fun y=>!(Qf4 y)) <;> rfl
theorem ord_eq {α:Type} (d:α) (key:α->Int) (bad:α->Bool) (e:Int) (N:Nat) (l:List α) (hl:l.length<=4294967296) (GP:List α->Nat->Int) (GR:List α->Int->Nat->Int)
  (p0:∀ i,GP [] i=0) (p1:∀ x ∈ l,∀ r i,GP (x :: r) i=bif bad x||(decide ((i:Int) > 0)&&decide (key (l.getD (Int.toNat (w64 ((i:Int) - 1))) d) >= key x)) then e else GP r (i+1))
  (r0:∀ last i,GR [] last i=0) (r1:∀ x ∈ l,∀ r last i,0<=last->GR (x :: r) last i=bif ((i:Int)==(N:Int))||bad x||decide (key x<=last) then e else GR r (key x) (i+1))
  (hb:∀ x,bad x=false->key x >= 1):∀ (r:List α) (i:Nat) (last:Int),r=l.drop i->i+r.length=l.length->i<=N->(i=0->last=0)->(0<i -> ∃ y,l[i - 1]? = some y∧last=key y∧key y >= 1)->(bif decide (l.length > N) then e else GP r i)=GR r last i
 | [],i,last,hr,hlen,hN,_,_=>by
  simp only [List.length_nil,Nat.add_zero] at hlen
  rw [p0,r0,decide_eq_false (by omega)]
  rfl
 | x :: r,i,last,hr,hlen,hN,hl0,hl1=>by
  simp only [List.length_cons] at hlen
  have hi:l[i]? = some x:=by
   have:=congrArg (fun q=>q[0]?) hr
   simpa [List.getElem?_drop] using this.symm
  have hx:x ∈ l:=List.mem_of_getElem? hi
  have hr':r=l.drop (i+1):=by rw [← List.drop_drop,← hr];rfl
  have hlast:0<=last:=by
   rcases Nat.eq_zero_or_pos i with h|h
   ·rw [hl0 h];exact Int.le_refl 0
   ·obtain ⟨y,_,e,h⟩:=hl1 h;omega
  have hord:bad x=false->(decide ((i:Int) > 0)&&decide (key (l.getD (Int.toNat (w64 ((i:Int) - 1))) d) >= key x))=decide (key x<=last):=by
   intro hbx
   have hk:=hb x hbx
   rcases Nat.eq_zero_or_pos i with h|h
   ·subst h
    rw [hl0 rfl,decide_eq_false (show ¬ ((0:Nat):Int) > 0 by omega),decide_eq_false (show ¬ key x<=0 by omega)]
    rfl
   ·obtain ⟨y,hy,e,_⟩:=hl1 h
    have hw:w64 ((i:Int) - 1)=(i:Int) - 1:=wr (by omega)
    have ht:Int.toNat ((i:Int) - 1)=i - 1:=by omega
    have hg:l.getD (i - 1) d=y:=by simp [List.getD,hy]
    rw [hw,ht,hg,decide_eq_true (show (i:Int) > 0 by omega),e]
    rfl
  rw [p1 x hx,r1 x hx r last i hlast]
  cases hbx:bad x with
  | true =>
   simp only [Bool.true_or,Bool.or_true,cond_true]
   cases decide (l.length > N) <;> rfl
  | false =>
   rw [hord hbx]
   simp only [Bool.false_or,Bool.or_false]
   cases hk:decide (key x<=last) with
   | true =>
    simp only [Bool.or_true,cond_true]
    cases decide (l.length > N) <;> rfl
   | false =>
    simp only [Bool.or_false,cond_false]
    rcases Nat.lt_or_ge i N with h|h
    ·have:((i:Int)==(N:Int))=false:=by simp;omega
     rw [this]
     simp only [cond_false]
     exact ord_eq d key bad e N l hl GP GR p0 p1 r0 r1 hb r (i+1) (key x) hr' (by omega) (by omega) (by omega) (fun _=>⟨x,by simpa using hi,rfl,hb x hbx⟩)
    ·have:((i:Int)==(N:Int))=true:=by simp;omega
     rw [this,decide_eq_true (show l.length > N by omega)]
     rfl
theorem book_Check_eq (l:List Book) (hl:l.length<=4294967296):QM6 l=Qs8 l:=by
 have h:=ord_eq Book.zero (·.id) (fun b=>!(QX8 b)) 190 8 l hl (QQ7 l) QL5 (fun _=>rfl) (fun _ _ _ _=>rfl) (fun _ _=>rfl) (fun x _ r last i hlast=>by
   rw [QL5]
   congr 1
   unfold QX8
   grind) (fun x hx=>by
   unfold QX8 at hx
   simp at hx
   omega) l 0 0 (by simp) (by omega) (by omega) (fun _=>rfl) (fun h=>absurd h (by omega))
 unfold QM6 Qs8
 rw [← h]
 have e:decide ((l.length:Int) > 8)=decide (l.length > 8):=by rw [Bool.eq_iff_iff];simp only [decide_eq_true_eq];omega
 rw [e]
theorem order_eq (a b:Usage):decide (Qx7 a b >= 0) = !(Q37 a b):=by
 unfold Qx7 Q37 QLa QY0 Qw3
 simp only [beq_self_eq_true,Bool.not_true,cond_false]
 generalize Op.bytesLess (ByteArray.toList a.user) (ByteArray.toList b.user)=lu
 generalize (ByteArray.toList a.user==ByteArray.toList b.user)=eu
 generalize Op.bytesLess (ByteArray.toList a.account) (ByteArray.toList b.account)=la
 generalize (ByteArray.toList a.account==ByteArray.toList b.account)=ea
 revert lu eu la ea
 decide
theorem ledger_go (l:List Usage) (hl:l.length<=4294967296):∀ (r:List Usage) (i:Nat),i+r.length=l.length->i<=200->(bif decide (l.length > 200) then 2 else Q85 l r i)=QK5 l r i
 | [],i,hlen,hi=>by
  simp only [List.length_nil,Nat.add_zero] at hlen
  rw [decide_eq_false (by omega)]
  rfl
 | x :: r,i,hlen,hi=>by
  simp only [List.length_cons] at hlen
  rw [Q85,QK5,order_eq]
  have e1:(((((!(Q66 x.user))||(!(Q66 x.account)))||(x.used != (Qh4 x.used)))||(decide (x.share<0)))||(decide (x.share > x.used)))=((((((!(Qk3 x.user))||(!(Qk3 x.account)))||(decide (x.used<0)))||(decide (x.used > 1000000000000)))||(decide (x.share<0)))||(decide (x.share > x.used))):=by
   unfold Q66 Qk3 Qh4 QN5
   grind
  have e2:(((((((i:Int)==200)||(!(Qk3 x.user)))||(!(Qk3 x.account)))||(decide (x.used<0)))||(decide (x.used > 1000000000000)))||(decide (x.share<0)))=(((i:Int)==200)||(((((!(Qk3 x.user))||(!(Qk3 x.account)))||(decide (x.used<0)))||(decide (x.used > 1000000000000)))||(decide (x.share<0)))):=by
   simp only [Bool.or_assoc]
  rw [e1,e2]
  rcases Nat.lt_or_ge i 200 with h|h
  ·have hh:((i:Int)==200)=false:=by simp;omega
   rw [hh,Bool.false_or,← ledger_go l hl r (i+1) (by omega) (by omega)]
   generalize ((((((!(Qk3 x.user))||(!(Qk3 x.account)))||(decide (x.used<0)))||(decide (x.used > 1000000000000)))||(decide (x.share<0)))||(decide (x.share > x.used)))=p
   generalize ((decide ((i:Int) > 0))&&(!(Q37 (l.getD (Int.toNat (w64 ((i:Int) - 1))) Usage.zero) x)))=q
   cases p <;> cases q <;> cases decide (l.length > 200) <;> rfl
  ·have hh:((i:Int)==200)=true:=by simp;omega
   rw [hh,decide_eq_true (show l.length > 200 by omega)]
   rfl
theorem Qgf (l:List Usage) (hl:l.length<=4294967296):Qw7 l=Qr8 l:=by
 unfold Qw7 Qr8
 rw [← ledger_go l hl l 0 (by omega) (by omega)]
 have e:decide ((l.length:Int) > 200)=decide (l.length > 200):=by rw [Bool.eq_iff_iff];simp only [decide_eq_true_eq];omega
 rw [e]
theorem g3_any (x:Alt):∀ (l:List Alt) (k:Nat),(QP3 x l k).isLeft=l.any (fun y=>x.nodes==y.nodes) ∧ ∀ v,QP3 x l k=Sum.inl v->v=70
 | [],k=>⟨rfl,fun v h=>by cases h⟩
 | y :: r,k=>by
  rw [QP3,List.any_cons]
  cases (x.nodes==y.nodes) with
  | true=>exact ⟨rfl,fun v h=>by cases h;rfl⟩
  | false=>exact g3_any x r (k+1)
def okAlt (a:Alt):Bool:=QC1 a.nodes&&Qz2 a.wall
theorem g2_eq (s:Shape):∀ (r:List Alt) (i:Nat),r=s.alts.drop i->(QT0 s r i=0 ↔ (∀ x ∈ r,okAlt x=true)∧r.Pairwise (fun a b=>a.nodes ≠ b.nodes))∧(QT0 s r i=0∨QT0 s r i=70)
 | [],i,_=>⟨⟨fun _=>⟨fun x hx=>(nomatch hx),.nil⟩,fun _=>rfl⟩,.inl rfl⟩
 | x :: r,i,hr=>by
  have hr':r=s.alts.drop (i+1):=by rw [← List.drop_drop,← hr];rfl
  obtain ⟨ih,ih2⟩:=g2_eq s r (i+1) hr'
  rw [QT0,← hr']
  cases hf:((!(QC1 x.nodes))||(!(Qz2 x.wall))) with
  | true =>
   refine ⟨⟨fun h=>(by cases h),fun h=>?_⟩,.inr rfl⟩
   have:=h.1 x (List.mem_cons_self ..)
   unfold okAlt at this
   simp at this hf
   rcases hf with h|h <;> simp_all
  | false =>
   have hok:okAlt x=true:=by unfold okAlt;simp at hf;simp [hf]
   obtain ⟨h1,h2⟩:=g3_any x r (i+1)
   simp only [cond_false]
   cases hg:QP3 x r (i+1) with
   | inl v =>
    have hv:=h2 v hg
    subst hv
    rw [hg] at h1
    refine ⟨⟨fun h=>(by cases h),fun h=>?_⟩,.inr rfl⟩
    obtain ⟨y,hy,he⟩:=List.any_eq_true.1 h1.symm
    exact absurd (eq_of_beq he) ((List.pairwise_cons.1 h.2).1 y hy)
   | inr v =>
    rw [hg] at h1
    show (QT0 s r (i+1)=0 ↔ _)∧(QT0 s r (i+1)=0∨QT0 s r (i+1)=70)
    refine ⟨ih.trans ⟨fun h=>⟨fun y hy=>?_,List.pairwise_cons.2 ⟨fun y hy e=>?_,h.2⟩⟩,fun h=>⟨fun y hy=>h.1 y (List.mem_cons_of_mem _ hy),(List.pairwise_cons.1 h.2).2⟩⟩,ih2⟩
    ·rcases List.mem_cons.1 hy with rfl|hy
     ·exact hok
     ·exact h.1 y hy
    ·have:=(List.any_eq_true (p:=fun y:Alt=>x.nodes==y.nodes)).2 ⟨y,hy,beq_iff_eq.2 e⟩
     rw [← h1] at this
     cases this
theorem apart_iff (l:List Alt):∀ (r:List Alt) (i:Nat),r=l.drop i->(QO5 l r i=true ↔ (∀ x ∈ r,∀ y ∈ l.take i,x.nodes ≠ y.nodes)∧r.Pairwise (fun a b=>a.nodes ≠ b.nodes))
 | [],i,_=>⟨fun _=>⟨fun x hx=>(nomatch hx),.nil⟩,fun _=>rfl⟩
 | x :: r,i,hr=>by
  have hr':r=l.drop (i+1):=by rw [← List.drop_drop,← hr];rfl
  have hi:l[i]? = some x:=by
   have:=congrArg (fun q=>q[0]?) hr
   simpa [List.getElem?_drop] using this.symm
  have ht:l.take (i+1)=l.take i++[x]:=by rw [List.take_add_one,hi];rfl
  have ih:=apart_iff l r (i+1) hr'
  rw [QO5,any_Alt]
  cases ha:(List.take i l).any (fun (y:Alt)=>(x.nodes==y.nodes)) with
  | true =>
   refine ⟨fun h=>(by cases h),fun h=>?_⟩
   obtain ⟨y,hy,he⟩:=List.any_eq_true.1 ha
   exact absurd (eq_of_beq he) (h.1 x (List.mem_cons_self ..) y hy)
  | false =>
   have hno:∀ y ∈ l.take i,x.nodes ≠ y.nodes:=fun y hy e=>by
    have:=(List.any_eq_true (p:=fun y:Alt=>x.nodes==y.nodes)).2 ⟨y,hy,beq_iff_eq.2 e⟩
    rw [ha] at this
    cases this
   simp only [cond_false]
   rw [ih,ht]
   constructor
   ·rintro ⟨h1,h2⟩
    refine ⟨fun z hz y hy=>?_,List.pairwise_cons.2 ⟨fun z hz=>?_,h2⟩⟩
    ·rcases List.mem_cons.1 hz with rfl|hz
     ·exact hno y hy
     ·exact h1 z hz y (List.mem_append.2 (.inl hy))
    ·exact Ne.symm (h1 z hz x (List.mem_append.2 (.inr (List.mem_singleton.2 rfl))))
   ·rintro ⟨h1,h2⟩
    obtain ⟨h3,h4⟩:=List.pairwise_cons.1 h2
    refine ⟨fun z hz y hy=>?_,h4⟩
    rcases List.mem_append.1 hy with hy|hy
    ·exact h1 z (List.mem_cons_of_mem _ hz) y hy
    ·rw [List.mem_singleton.1 hy]
     exact Ne.symm (h3 z hz)
theorem fine_ok (a:Alt):Q91 a=okAlt a:=by
 unfold Q91 okAlt QC1 Qz2
 simp only [Bool.and_assoc]
theorem QT8 (s:Shape):QU1 s=Qv1 s:=by
 unfold QU1 Qv1
 by_cases h3:s.kind=3
 ·simp only [h3,beq_self_eq_true,cond_true,Q62,Q91,QC1,Qz2]
  have e1:((3:Int)==1)=false:=rfl
  have e2:((3:Int)==2)=false:=rfl
  simp only [e1,e2,cond_false]
  have e0:((s.alts.length:Int)==0) = !(decide ((s.alts.length:Int) > 0)):=by rw [Bool.eq_iff_iff];simp only [beq_iff_eq,Bool.not_eq_true',decide_eq_false_iff_not];omega
  rw [e0]
  congr 1
  grind
 have e3:(s.kind==3)=false:=by simpa using h3
 obtain ⟨q1,q2⟩:=g2_eq s s.alts 0 (by simp)
 have ap:=apart_iff s.alts s.alts 0 (by simp)
 simp only [e3,cond_false]
 by_cases h2:s.kind=2
 ·simp only [h2,beq_self_eq_true,cond_true]
  have e1:((2:Int)==1)=false:=rfl
  simp only [e1,cond_false,QM4,Q62,any_Alt,fine_ok]
  have e4:((((((((s.min==0)&&(s.max==0))&&(s.wall==0))&&(decide ((s.alts.length:Int) >= 1)))&&(decide ((s.alts.length:Int)<=6)))&&(Ql5 s.alts))&&(!(s.alts.any (fun (y:Alt)=>(!(okAlt y)))))))=(!(((((decide ((s.alts.length:Int)<1))||(decide ((s.alts.length:Int) > 6)))||(s.min != 0))||(s.max != 0))||(s.wall != 0))&&((Ql5 s.alts)&&(!(s.alts.any (fun (y:Alt)=>(!(okAlt y))))))):=by grind
  have e5:((Ql5 s.alts)&&(!(s.alts.any (fun (y:Alt)=>(!(okAlt y))))))=(QT0 s s.alts 0==0):=by
   rw [Bool.eq_iff_iff,beq_iff_eq,q1,Bool.and_eq_true]
   unfold Ql5
   rw [ap]
   simp
   grind
  rw [e4,e5]
  cases (((((decide ((s.alts.length:Int)<1))||(decide ((s.alts.length:Int) > 6)))||(s.min != 0))||(s.max != 0))||(s.wall != 0)) with
  | true=>rfl
  | false =>
   rcases q2 with h|h <;> rw [h] <;> rfl
 have e2:(s.kind==2)=false:=by simpa using h2
 by_cases h1:s.kind=1
 ·have e6:((2:Int)==1)=false:=rfl
  simp only [h1,beq_self_eq_true,cond_true]
  have e7:((1:Int)==2)=false:=rfl
  have e8:((1:Int)!=1)=false:=rfl
  simp only [e7,e8,cond_false,QM4,Q62,fine_ok]
  match hm:s.alts with
  | []=>rw [hm] at *;cases (s.min==0) <;> cases (s.max==0) <;> cases (s.wall==0) <;> rfl
  | [x] =>
   rw [hm] at q1 q2
   have e9:okAlt x=(QT0 s [x] 0==0):=by
    rw [Bool.eq_iff_iff,beq_iff_eq,q1]
    simp
   show (bif !(((((s.min==0)&&(s.max==0))&&(s.wall==0))&&true)&&okAlt x) then (70:Int) else 0)=bif ((((false||false)||(s.min != 0))||(s.max != 0))||(s.wall != 0)) then 70 else QT0 s [x] 0
   rw [e9]
   unfold bne
   cases (s.min==0) <;> cases (s.max==0) <;> cases (s.wall==0) <;> first|rfl|(rcases q2 with h|h <;> rw [h] <;> rfl)
  | x :: y :: r =>
   have l1:((((x :: y :: r).length:Nat):Int)==1)=false:=by simp;omega
   have l2:decide ((((x :: y :: r).length:Nat):Int) > 1)=true:=by simp;omega
   rw [l1,l2]
   simp
 have e1:(s.kind==1)=false:=by simpa using h1
 have e1':(s.kind != 1)=true:=by simpa using h1
 rw [e1,e2,e1']
 rfl
theorem cnt1 (n:Nat) (hn:n<18446744073709551616):wu64 ((wu64 (BitVec.ofInt 64 (Int.fdiv (n:Int) (2 ^ (min (Int.toNat 1) 64))) &&& BitVec.ofInt 64 6148914691236517205).toNat)+(wu64 (BitVec.ofInt 64 (n:Int) &&& BitVec.ofInt 64 6148914691236517205).toNat))=((sw1 n:Nat):Int):=by
 have e1:Int.fdiv (n:Int) (2 ^ (min (Int.toNat 1) 64))=((n / 2 ^ 1:Nat):Int):=Qbd n 1 (by decide)
 have h1:n / 2 ^ 1<18446744073709551616:=by omega
 have e2:wu64 (BitVec.ofInt 64 ((n / 2 ^ 1:Nat):Int) &&& BitVec.ofInt 64 6148914691236517205).toNat=(((n / 2 ^ 1) &&& 6148914691236517205:Nat):Int):=Qad (c:=6148914691236517205) h1 (by decide)
 have e3:wu64 (BitVec.ofInt 64 (n:Int) &&& BitVec.ofInt 64 6148914691236517205).toNat=((n &&& 6148914691236517205:Nat):Int):=Qad (c:=6148914691236517205) hn (by decide)
 have l1:=Nat.and_le_right (n:=n / 2 ^ 1) (m:=6148914691236517205)
 have l2:=Nat.and_le_right (n:=n) (m:=6148914691236517205)
 rw [e1,e2,e3]
 exact Qcd (by omega)
theorem cnt2 (n:Nat) (hn:n<18446744073709551616):wu64 ((wu64 (BitVec.ofInt 64 (Int.fdiv (n:Int) (2 ^ (min (Int.toNat 2) 64))) &&& BitVec.ofInt 64 3689348814741910323).toNat)+(wu64 (BitVec.ofInt 64 (n:Int) &&& BitVec.ofInt 64 3689348814741910323).toNat))=((sw2 n:Nat):Int):=by
 have e1:Int.fdiv (n:Int) (2 ^ (min (Int.toNat 2) 64))=((n / 2 ^ 2:Nat):Int):=Qbd n 2 (by decide)
 have h1:n / 2 ^ 2<18446744073709551616:=by omega
 have e2:wu64 (BitVec.ofInt 64 ((n / 2 ^ 2:Nat):Int) &&& BitVec.ofInt 64 3689348814741910323).toNat=(((n / 2 ^ 2) &&& 3689348814741910323:Nat):Int):=Qad (c:=3689348814741910323) h1 (by decide)
 have e3:wu64 (BitVec.ofInt 64 (n:Int) &&& BitVec.ofInt 64 3689348814741910323).toNat=((n &&& 3689348814741910323:Nat):Int):=Qad (c:=3689348814741910323) hn (by decide)
 have l1:=Nat.and_le_right (n:=n / 2 ^ 2) (m:=3689348814741910323)
 have l2:=Nat.and_le_right (n:=n) (m:=3689348814741910323)
 rw [e1,e2,e3]
 exact Qcd (by omega)
theorem cnt3 (n:Nat) (hn:n<=7378697629483820646):wu64 (BitVec.ofInt 64 (wu64 ((Int.fdiv (n:Int) (2 ^ (min (Int.toNat 4) 64)))+(n:Int))) &&& BitVec.ofInt 64 1085102592571150095).toNat=((sw3 n:Nat):Int):=by
 have e1:Int.fdiv (n:Int) (2 ^ (min (Int.toNat 4) 64))=((n / 2 ^ 4:Nat):Int):=Qbd n 4 (by decide)
 rw [e1,Qcd (by omega)]
 exact Qad (c:=1085102592571150095) (by omega) (by decide)
theorem count_eq {s:Int} (hs:U64 s):Q40 s=((popN 64 s.toNat:Nat):Int):=by
 obtain ⟨n,rfl⟩:∃ n:Nat,s=(n:Int):=⟨s.toNat,by unfold U64 at hs;omega⟩
 have hn:n<18446744073709551616:=by unfold U64 at hs;omega
 have b1:sw1 n<18446744073709551616:=by
  unfold sw1
  have l1:=Nat.and_le_right (n:=n / 2 ^ 1) (m:=6148914691236517205)
  have l2:=Nat.and_le_right (n:=n) (m:=6148914691236517205)
  omega
 have b2:sw2 (sw1 n)<=7378697629483820646:=by
  unfold sw2
  have l1:=Nat.and_le_right (n:=sw1 n / 2 ^ 2) (m:=3689348814741910323)
  have l2:=Nat.and_le_right (n:=sw1 n) (m:=3689348814741910323)
  omega
 obtain ⟨a,b,c,d,e,f,g,h,hx,ha,hb,hc,hd,he,hf,hg,hh,hp⟩:=sw_pop hn
 unfold Q40 QU5 oc3 oc2 oc1
 rw [cnt1 n hn,cnt2 (sw1 n) b1,cnt3 (sw2 (sw1 n)) b2,hx,Int.toNat_natCast,hp]
 obtain ⟨q0,q1,q2,q3⟩:=sum_low ha hb hc hd he hf hg hh _ _ _ rfl rfl rfl
 generalize hX:by8 a b c d e f g h=X at *
 have hXlt:X<9223372036854775808:=by omega
 have s8:Int.fdiv (X:Int) (2 ^ (min (Int.toNat 8) 64))=((X / 256:Nat):Int):=Qbd X 8 (by decide)
 rw [s8,Qcd (by omega)]
 generalize hY:X+X / 256=Y at *
 have s16:Int.fdiv (Y:Int) (2 ^ (min (Int.toNat 16) 64))=((Y / 65536:Nat):Int):=Qbd Y 16 (by decide)
 rw [s16,Qcd (by omega)]
 generalize hZ:Y+Y / 65536=Z at *
 have s32:Int.fdiv (Z:Int) (2 ^ (min (Int.toNat 32) 64))=((Z / 4294967296:Nat):Int):=Qbd Z 32 (by decide)
 rw [s32,Qcd (by omega)]
 generalize hW:Z+Z / 4294967296=W at *
 have hw:w64 (W:Int)=(W:Int):=wr (by omega)
 rw [hw]
 have hm:((BitVec.ofInt 64 (W:Int) &&& BitVec.ofInt 64 127).toNat:Int)=((W &&& 127:Nat):Int):=by
  have:=Qad (n:=W) (c:=127) (by omega) (by decide)
  rw [wu64_bv] at this
  exact this
 rw [hm,Nat.and_two_pow_sub_one_eq_mod W 7]
 show w64 (((W % 128 : Nat)) : Int) = _
 rw [q0]
 exact wr (by omega)
theorem list_len:∀ (m K s:Nat) (out:List Int) (n:Nat),s<m->s<2 ^ K->s<18446744073709551616->(QZ0 m (s:Int) out n).2.1.length=out.length+popN K s
 | 0,_,_,_,_,h,_,_=>absurd h (by omega)
 | m+1,K,s,out,n,hm,hK,hs=>by
  rw [QZ0]
  rcases Nat.eq_zero_or_pos s with h|h
  ·subst h
   have hz:∀ K,popN K 0=0:=fun K=>by induction K with
    | zero=>rfl
    | succ K ih=>simp [popN,ih]
   rw [hz]
   rfl
  ·obtain ⟨K,rfl⟩:∃ k,K=k+1:=⟨K - 1,by
    rcases K with _|K
    ·simp at hK;omega
    ·rfl⟩
   rw [decide_eq_true (show (s:Int) > 0 by omega)]
   have e1 : Int.tmod (s : Int) 2 = ((s % 2 : Nat) : Int) := rfl
   have e2:Int.tdiv (s:Int) 2=((s / 2:Nat):Int):=rfl
   have e3:wu64 ((s / 2:Nat):Int)=((s / 2:Nat):Int):=QN7 ⟨by omega,by omega⟩
   rw [e1,e2,e3,popN]
   rw [Nat.pow_succ] at hK
   simp only [cond_true]
   rcases Nat.mod_two_eq_zero_or_one s with hb|hb
   ·rw [hb]
    show (QZ0 m ((s / 2:Nat):Int) out (n+1)).2.1.length=_
    rw [list_len m K (s / 2) out (n+1) (by omega) (by omega) (by omega)]
    omega
   ·rw [hb]
    show (QZ0 m ((s / 2:Nat):Int) (out++[(n:Int)]) (n+1)).2.1.length=_
    rw [list_len m K (s / 2) _ (n+1) (by omega) (by omega) (by omega)]
    simp
    omega
theorem Q1d {s:Int} (hs:U64 s):Q40 s=((Qb0 s).length:Int):=by
 rw [count_eq hs]
 obtain ⟨n,rfl⟩:∃ n:Nat,s=(n:Int):=⟨s.toNat,by unfold U64 at hs;omega⟩
 unfold Qb0 Q03
 have hn:n<18446744073709551616:=by unfold U64 at hs;omega
 rw [Int.toNat_natCast,list_len (n+1) 64 n [] 0 (by omega) (by rw [pow64];exact hn) hn]
 simp
theorem QY9 (s:Shape) (hw:w64 (s.max - s.min)=s.max - s.min) (h1:1<=s.min) (h2:s.min<=s.max) (h3:s.max<=48):∀ (m:Nat) (out:List Alt) (i:Nat),i<=(s.max - s.min+1).toNat->(s.max - s.min+1).toNat - i<m ->
  (QO1 s m out i).1=out++(List.range' i ((s.max - s.min+1).toNat - i)).map fun (i:Nat)=>(⟨s.max - (i:Int),s.wall⟩:Alt)
 | 0,_,_,_,h=>absurd h (by omega)
 | m+1,out,i,hi,hm=>by
  rw [QO1,hw]
  rcases Nat.lt_or_ge i (s.max - s.min+1).toNat with h|h
  ·have e:(s.max - s.min+1).toNat - i=((s.max - s.min+1).toNat - (i+1))+1:=by omega
   have e2:w64 (s.max - (i:Int))=s.max - (i:Int):=wr (by omega)
   rw [decide_eq_true (show (i:Int)<=s.max - s.min by omega),e2]
   simp only [cond_true]
   rw [QY9 s hw h1 h2 h3 m _ (i+1) (by omega) (by omega),e,List.range'_succ,List.map_cons,List.append_assoc]
   rfl
  ·rw [decide_eq_false (show ¬ (i:Int)<=s.max - s.min by omega),show (s.max - s.min+1).toNat - i=0 by omega]
   simp
theorem Q99 (s:Shape):Q51 s=Qz0 s:=by
 unfold Q51 Qz0
 rw [QT8]
 cases hc:(Qv1 s != 0) with
 | true=>rfl
 | false =>
  simp only [cond_false]
  cases hk:(s.kind==3) with
  | false =>
   have:(s.kind != 3)=true:=by unfold bne;rw [hk];rfl
   rw [this]
   rfl
  | true =>
   have hk':(s.kind != 3)=false:=by unfold bne;rw [hk];rfl
   obtain ⟨h1,h2,h3,h4⟩:=Qn8 hc hk'
   have h0:s.alts=[]:=by
    have hk3:s.kind=3:=by simpa using hk
    have hz:Qv1 s=0:=by simpa using hc
    unfold Qv1 at hz
    simp only [hk3,beq_self_eq_true,cond_true] at hz
    cases hq:(((((decide ((s.alts.length:Int) > 0))||(!(QC1 s.min)))||(!(QC1 s.max)))||(decide (s.max<s.min)))||(!(Qz2 s.wall))) with
    | true=>rw [hq] at hz;cases hz
    | false =>
     have:=(or_f (or_f (or_f (or_f hq).1).1).1).1
     have hl:s.alts.length=0:=by have:=of_decide_eq_false this;omega
     exact List.eq_nil_of_length_eq_zero hl
   rw [hk',h0]
   simp only [cond_true,cond_false,List.nil_append,QR2,Qf6]
   rw [QY9 s h4 h1 h2 h3 _ [] 0 (by omega) (by omega),List.range_eq_range']
   rfl
theorem QEe (s:Shape) (c n:Int):∀ (l:List Alt) (i:Nat),Qa5 s c n l i=true ↔ ∃ (k:Nat) (x:Alt),l[k]? = some x∧x.nodes=n∧(((i+k:Nat):Int)=c∨s.kind=3)
 | [],i=>⟨fun h=>(by cases h),fun ⟨k,x,h,_⟩=>by simp at h⟩
 | y :: r,i=>by
  rw [Qa5]
  cases hc:((y.nodes==n)&&(((i:Int)==c)||(s.kind==3))) with
  | true =>
   simp only [Bool.and_eq_true,Bool.or_eq_true,beq_iff_eq] at hc
   exact ⟨fun _=>⟨0,y,rfl,hc.1,by simpa using hc.2⟩,fun _=>rfl⟩
  | false =>
   simp only [cond_false]
   rw [QEe s c n r (i+1)]
   constructor
   ·rintro ⟨k,x,h1,h2,h3⟩
    exact ⟨k+1,x,by simpa using h1,h2,by rw [show i+(k+1)=i+1+k by omega];exact h3⟩
   ·rintro ⟨k,x,h1,h2,h3⟩
    rcases k with _|k
    ·simp at h1
     subst h1
     have:((y.nodes==n)&&(((i:Int)==c)||(s.kind==3)))=true:=by
      simp only [Bool.and_eq_true,Bool.or_eq_true,beq_iff_eq]
      exact ⟨h2,by simpa using h3⟩
     rw [hc] at this
     cases this
    ·exact ⟨k,x,by simpa using h1,h2,by rw [show i+1+k=i+(k+1) by omega];exact h3⟩
theorem allows_eq (s:Shape) (c n:Int):QM2 s c n=Qz7 s c n:=by
 unfold QM2 Qz7
 rw [Q99]
 cases hb:((decide (c<0))||(decide (c >= ((Qz0 s).length:Int)))) with
 | true=>rfl
 | false =>
  obtain ⟨h1,h2⟩:=or_f hb
  have h1':=of_decide_eq_false h1
  have h2':=of_decide_eq_false h2
  simp only [cond_false]
  obtain ⟨k,rfl⟩:∃ k:Nat,c=(k:Int):=⟨c.toNat,by omega⟩
  have hk:k<(Qz0 s).length:=by omega
  rw [Bool.eq_iff_iff,QEe]
  cases h3:(s.kind==3) with
  | false =>
   have h3':s.kind ≠ 3:=by simpa using h3
   simp only [cond_false,beq_iff_eq,Int.toNat_natCast]
   have hg:(Qz0 s)[k]? = some ((Qz0 s).getD k Alt.zero):=by simp [List.getD,List.getElem?_eq_getElem hk]
   constructor
   ·intro h
    exact ⟨k,_,hg,h,.inl (by simp)⟩
   ·rintro ⟨j,x,hx,hn,hj⟩
    have:j=k:=by
     rcases hj with hj|hj
     ·omega
     ·exact absurd hj h3'
    subst this
    rw [hg] at hx
    cases hx
    exact hn
  | true =>
   have h3':s.kind=3:=by simpa using h3
   simp only [cond_true,Bool.and_eq_true,decide_eq_true_eq]
   cases hc:(QU1 s != 0) with
   | true =>
    rw [← Q99] at hk
    unfold Q51 at hk
    rw [hc] at hk
    exact absurd hk (by simp)
   | false =>
    obtain ⟨q1,q2,q3⟩:=Qw8 hc h3
    have h0:Q51 s=s.alts++Qf6 s.min s.max s.wall:=by unfold Q51;rw [hc,h3];rfl
    have ha:s.alts=[]:=by
     have hz:QU1 s=0:=by simpa using hc
     unfold QU1 at hz
     simp only [h3'] at hz
     have e1:((3:Int)==1)=false:=rfl
     have e2:((3:Int)==2)=false:=rfl
     simp only [e1,e2,beq_self_eq_true,cond_false,cond_true,Q62] at hz
     cases hq:(((((s.alts.length:Int)==0)&&(decide (s.min<=s.max)))&&(Q91 (⟨s.min,s.wall⟩:Alt)))&&(decide (s.max<=48))) with
     | false=>rw [hq] at hz;cases hz
     | true =>
      simp only [Bool.and_eq_true,beq_iff_eq] at hq
      exact List.eq_nil_of_length_eq_zero (by have:=hq.1.1.1;omega)
    rw [← Q99,h0,ha,List.nil_append]
    unfold Qf6
    constructor
    ·rintro ⟨hl,hu⟩
     exact ⟨(s.max - n).toNat,⟨n,s.wall⟩,by
      rw [List.getElem?_map,List.getElem?_range (by omega)]
      simp
      omega,rfl,.inr h3'⟩
    ·rintro ⟨j,x,hx,hn,_⟩
     rw [List.getElem?_map] at hx
     rcases Nat.lt_or_ge j (s.max - s.min+1).toNat with hj|hj
     ·rw [List.getElem?_range hj] at hx
      simp at hx
      subst hx
      simp only at hn
      omega
     ·rw [List.getElem?_eq_none (by simpa using hj)] at hx
      simp at hx
theorem QWb (r:Int):Qe1 r=Qi0 r:=by
 unfold Qe1 Qi0
 grind
theorem runes_Check_eq (s:ByteArray):Qs4 s=Qq3 s:=by
 have:∀ (l:List (Nat × Int)) (n:Nat),QM5 l n=QF5 l n:=by
  intro l
  induction l with
  | nil=>exact fun _=>rfl
  | cons x r ih =>
   intro n
   rw [QM5,QF5,QWb,ih]
 exact this _ 0
theorem name_eq (s:ByteArray):Qq5 s=Qj3 s:=by
 unfold Qq5 Qj3 Qx2
 rw [runes_Check_eq,Bool.and_assoc]
theorem QUf (l:List Dep) (i:Nat) (x:Dep) (hi:i<=l.length):∀ (m k:Nat),k<=i->i - k<m->(QQ3 l i x m k).isLeft=((l.take i).drop k).any (fun y=>y.job==x.job) ∧ ∀ v,QQ3 l i x m k=Sum.inl v->v=false
 | 0,_,_,h=>absurd h (by omega)
 | m+1,k,hk,hm=>by
  rw [QQ3]
  rcases Nat.lt_or_ge k i with h|h
  ·rw [decide_eq_true (show (k:Int)<(i:Int) by omega)]
   have hkl:k<(l.take i).length:=by rw [List.length_take];omega
   have hd:(l.take i).drop k=(l.getD k Dep.zero) :: (l.take i).drop (k+1):=by
    rw [List.drop_eq_getElem_cons hkl]
    congr 1
    simp [List.getD,List.getElem?_eq_getElem (show k<l.length by omega)]
   rw [hd,List.any_cons]
   simp only [cond_true]
   cases ((l.getD k Dep.zero).job==x.job) with
   | true=>exact ⟨rfl,fun v h=>by cases h;rfl⟩
   | false=>exact QUf l i x hi m (k+1) (by omega) (by omega)
  ·rw [decide_eq_false (show ¬ (k:Int)<(i:Int) by omega)]
   have:(l.take i).drop k=[]:=List.drop_eq_nil_of_le (by rw [List.length_take];omega)
   rw [this]
   exact ⟨rfl,fun v h=>by cases h⟩
theorem waits_go (l:List Dep):∀ (r:List Dep) (i:Nat),r=l.drop i->i+r.length=l.length->(l.length<=4->Q55 l r i=Q42 l r i)
 | [],i,_,_,h=>by
  rw [Q55,Q42]
  exact decide_eq_true (by omega)
 | x :: r,i,hr,hlen,h=>by
  simp only [List.length_cons] at hlen
  have hr':r=l.drop (i+1):=by rw [← List.drop_drop,← hr];rfl
  have ih:=waits_go l r (i+1) hr' (by omega) h
  obtain ⟨w1,w2⟩:=QUf l i x (by omega) ((Int.toNat ((i:Int) - (0:Int)))+1) 0 (by omega) (by omega)
  rw [Q55,Q42,any_Dep,ih]
  have e:(!(Qx2 x.how 1 3) || !(Qtd x.job))=((!(Qf1 x.how 1 3))||(!(Qf1 x.job 1 99999))):=rfl
  rw [e]
  rw [List.drop_zero] at w1
  cases ((!(Qf1 x.how 1 3))||(!(Qf1 x.job 1 99999))) with
  | true=>rfl
  | false =>
   rw [Bool.false_or]
   simp only [cond_false]
   cases hg:QQ3 l i x ((Int.toNat ((i:Int) - (0:Int)))+1) 0 with
   | inl v =>
    have hv:=w2 v hg
    subst hv
    rw [hg] at w1
    rw [← w1]
    rfl
   | inr v =>
    rw [hg] at w1
    rw [← w1]
    rfl
theorem QVe (l:List Dep) (h:4<l.length):∀ (r:List Dep) (i:Nat),Q55 l r i=false
 | [],i=>decide_eq_false (by omega)
 | x :: r,i=>by
  rw [Q55,QVe l h r]
  cases (((!(Qx2 x.how 1 3))||(!(Qtd x.job)))||(Qs0 (List.take i l) (fun (y:Dep)=>(y.job==x.job)))) <;> rfl
theorem deps_eq (l:List Dep):QS7 l=Q86 l:=by
 unfold QS7 Q86
 rcases Nat.lt_or_ge 4 l.length with h|h
 ·rw [QVe l h,decide_eq_true (by omega)]
  rfl
 ·rw [decide_eq_false (by omega)]
  exact waits_go l l 0 (by simp) (by omega) h
def lowB (x:Int):Int:=if 65<=x∧x<=90 then x+32 else x
theorem wu8_id {n:Int} (h:0<=n∧n<256):wu8 n=n:=by
 show n % 256 = n
 omega
theorem lower_go (s:ByteArray):∀ (m i:Nat) (c:List Int),c.length=s.size->s.size - i<m->(∀ x ∈ c,0<=x∧x<256)->QU4 s m i c=c.take i++(c.drop i).map lowB
 | 0,_,_,_,h,_=>absurd h (by omega)
 | m+1,i,c,hl,hm,hb=>by
  rw [QU4]
  rcases Nat.lt_or_ge i s.size with h|h
  ·have hi:i<c.length:=by omega
   have hg:c.getD i 0=c[i]:=by simp [List.getD,List.getElem?_eq_getElem hi]
   have hx:=hb _ (List.getElem_mem hi)
   rw [decide_eq_true (show (i:Int)<(s.size:Int) by omega),hg]
   simp only [cond_true]
   have hd:c.drop i=c[i] :: c.drop (i+1):=List.drop_eq_getElem_cons hi
   cases hc:((decide (c[i] >= 65))&&(decide (c[i]<=90))) with
   | true =>
    simp only [Bool.and_eq_true,decide_eq_true_eq] at hc
    have hv:wu8 ((wu8 (c[i]+97)) - 65)=lowB c[i]:=by
     rw [wu8_id (n:=c[i]+97) (by omega),wu8_id (by omega),lowB,if_pos hc]
     omega
    rw [hv]
    simp only [cond_true]
    rw [lower_go s m (i+1) _ (by simpa using hl) (by omega) ?_]
    ·rw [hd,List.map_cons]
     have e1:(c.set i (lowB c[i])).take (i+1)=c.take i++[lowB c[i]]:=by
      rw [List.take_add_one]
      simp [List.take_set_of_le,hi]
     have e2:(c.set i (lowB c[i])).drop (i+1)=c.drop (i+1):=by
      rw [List.drop_set_of_lt (by omega)]
     rw [e1,e2]
     simp
    ·intro x hx'
     rcases List.mem_or_eq_of_mem_set hx' with h'|h'
     ·exact hb x h'
     ·rw [h',lowB,if_pos hc];omega
   | false =>
    have hv:lowB c[i]=c[i]:=by
     rw [lowB,if_neg]
     intro hq
     rw [decide_eq_true hq.1,decide_eq_true hq.2] at hc
     cases hc
    simp only [cond_false]
    rw [lower_go s m (i+1) c hl (by omega) hb,hd,List.map_cons,hv,List.take_add_one,List.getElem?_eq_getElem hi,List.append_assoc]
    rfl
  ·rw [decide_eq_false (show ¬ (i:Int)<(s.size:Int) by omega)]
   simp only [cond_false]
   rw [List.drop_eq_nil_of_le (by omega),List.take_of_length_le (by omega)]
   simp
theorem QMe (s:ByteArray):∀ x ∈ QR1 s,0<=x∧x<256:=by
 intro x hx
 unfold QR1 at hx
 obtain ⟨b,_,rfl⟩:=List.mem_map.1 hx
 have:=b.toNat_lt
 omega
theorem lower_run (s:ByteArray):Q67 s=Qv2 ((QR1 s).map lowB):=by
 unfold Q67 QW3
 rw [lower_go s _ 0 _ (Q83 s) (by omega) (QMe s)]
 rfl
theorem Qja (s:ByteArray):∀ (m:Nat) (out:List Int) (i:Nat),i<=s.size->s.size - i<m->(Qb3 s m out i).1=out++((QR1 s).drop i).map lowB
 | 0,_,_,_,h=>absurd h (by omega)
 | m+1,out,i,hi,hm=>by
  rw [Qb3]
  rcases Nat.lt_or_ge i s.size with h|h
  ·have hi':i<(QR1 s).length:=by rw [Q83];exact h
   have hd:(QR1 s).drop i=(QR1 s)[i] :: (QR1 s).drop (i+1):=List.drop_eq_getElem_cons hi'
   have hx:=QMe s _ (List.getElem_mem hi')
   have hg:((s.data.toList.getD i 0).toNat:Int)=(QR1 s)[i]:=by
    have hq:i<s.data.toList.length:=by simpa [QR1] using hi'
    simp [QR1,List.getD,List.getElem?_eq_getElem hq]
   rw [decide_eq_true (show (i:Int)<(s.size:Int) by omega),hg,hd,List.map_cons]
   simp only [cond_true]
   cases hc:((decide ((QR1 s)[i] > 64))&&(decide ((QR1 s)[i]<91))) with
   | true =>
    simp only [Bool.and_eq_true,decide_eq_true_eq] at hc
    have hv:lowB (QR1 s)[i]=(QR1 s)[i]+32:=by rw [lowB,if_pos (by omega)]
    rw [wu8_id (n:=(QR1 s)[i]+32) (by omega),hv]
    simp only [cond_true]
    rw [Qja s m _ (i+1) (by omega) (by omega)]
    simp
   | false =>
    have hv:lowB (QR1 s)[i]=(QR1 s)[i]:=by
     rw [lowB,if_neg]
     intro hq
     rw [decide_eq_true (show (QR1 s)[i] > 64 by omega),decide_eq_true (show (QR1 s)[i]<91 by omega)] at hc
     cases hc
    rw [hv]
    simp only [cond_false]
    rw [Qja s m _ (i+1) (by omega) (by omega)]
    simp
  ·rw [decide_eq_false (show ¬ (i:Int)<(s.size:Int) by omega)]
   simp only [cond_false]
   rw [List.drop_eq_nil_of_le (by rw [Q83];omega)]
   simp
theorem lower_ref (s:ByteArray):Qy2 s=Qv2 ((QR1 s).map lowB):=by
 unfold Qy2 QN3
 rw [Qja s _ [] 0 (by omega) (by omega)]
 rfl
theorem lower_eq (s:ByteArray):Q67 s=Qy2 s:=by rw [lower_run,lower_ref]
def Qx0 (s:ByteArray):List Int:=(Qm7 s).map (·.2)
theorem Qf9 (s:ByteArray):QL0 s=Qx0 s:=by
 have:∀ (l:List (Nat × Int)) (out:List Int),Qc3 l out=out++l.map (·.2):=by
  intro l
  induction l with
  | nil=>intro out;rw [Qc3];simp
  | cons x r ih=>intro out;rw [Qc3,ih];simp
 unfold QL0 QO3 Qx0
 rw [this]
 simp
theorem QSf (s:ByteArray) (b:ByteArray):∀ (l:List (Nat × Int)) (c:LexReader),Qs5 b l c={ c with line:=c.line++l.map (·.2) }
 | [],c=>by rw [Qs5];simp
 | x :: r,c=>by rw [Qs5,QSf s b r];simp
theorem line_len (s:ByteArray):(Qx0 s).length<=s.size:=by
 have:=Qpa s
 rw [Qf9] at this
 exact this
theorem while_go (is:Int->Bool) (L:List Int) (hL:L.length<=400):∀ (m a:Nat) (bad e:Int),a<=L.length->L.length - a<m ->
  QD0 is m ⟨L,(a:Int),bad,e⟩=⟨L,((a+((L.drop a).takeWhile is).length:Nat):Int),bad,e⟩
 | 0,_,_,_,_,h=>absurd h (by omega)
 | m+1,a,bad,e,ha,hm=>by
  rw [QD0]
  simp only [Int.toNat_natCast]
  rcases Nat.lt_or_ge a L.length with h|h
  ·have hg:L.getD a 0=L[a]:=by simp [List.getD,List.getElem?_eq_getElem h]
   rw [decide_eq_true (show (a:Int)<(L.length:Int) by omega),hg,List.drop_eq_getElem_cons h,List.takeWhile_cons]
   cases is L[a] with
   | true =>
    have hw:w64 ((a:Int)+1)=((a+1:Nat):Int):=wr (by omega)
    simp only [Bool.true_and,cond_true,if_true]
    rw [hw,while_go is L hL m (a+1) bad e (by omega) (by omega),List.length_cons]
    congr 2
    omega
   | false=>simp
  ·rw [decide_eq_false (show ¬ (a:Int)<(L.length:Int) by omega),List.drop_eq_nil_of_le h]
   simp
theorem take_run (is:Int->Bool) (L:List Int) (a:Nat):List.drop a (List.take (a+((L.drop a).takeWhile is).length) L)=(L.drop a).takeWhile is:=by
 rw [List.drop_take]
 have h:(L.drop a).takeWhile is <+: L.drop a:=List.takeWhile_prefix is
 rw [Nat.add_sub_cancel_left]
 exact (List.prefix_iff_eq_take.1 h).symm
theorem while_eq (is:Int->Bool) (L:List Int) (hL:L.length<=400) (a:Nat) (bad e:Int) (ha:a<=L.length) :
  Q10 ⟨L,(a:Int),bad,e⟩ is=(runesBytes ((L.drop a).takeWhile is),⟨L,((a+((L.drop a).takeWhile is).length:Nat):Int),bad,e⟩):=by
 unfold Q10 QE0
 simp only
 rw [while_go is L hL _ a bad e ha (by omega)]
 simp only [Int.toNat_natCast]
 rw [take_run]
def Qn3 (y:Int):Bool:=Qi0 y==1
def wordP (y:Int):Bool:=(((Qi0 y==2)||(Qi0 y==3))||(y==45))||(y==95)
theorem blank_fn:(fun (y:Int)=>Qo0 y ([1]:List Int) 0)=Qn3:=by
 funext y
 rw [Qo0,Qo0,QWb]
 unfold Qn3
 cases (Qi0 y==1) <;> rfl
theorem word_fn:(fun (y:Int)=>Qj0 y ([2,3]:List Int) 0)=wordP:=by
 funext y
 rw [Qj0,Qj0,Qj0,QWb]
 unfold wordP
 cases (Qi0 y==2) <;> cases (Qi0 y==3) <;> rfl
theorem Qod:∀ (m:Nat) (out:List Token) (c:LexReader),(QS1 m out c).1=[]∨out <+: (QS1 m out c).1
 | 0,_,_=>.inl rfl
 | m+1,out,c=>by
  rw [QS1]
  cases (c.error==0) with
  | false=>exact .inl rfl
  | true =>
   simp only [cond_true]
   cases ((Q10 c (fun (y:Int)=>Qo0 y ([1]:List Int) 0)).2.at_==(((Q10 c (fun (y:Int)=>Qo0 y ([1]:List Int) 0)).2.line).length:Int)) with
   | true=>exact .inr (List.prefix_refl _)
   | false =>
    simp only [cond_false]
    rcases Qod m (out++[{ (Qf0 ((Q10 c (fun (y:Int)=>Qo0 y ([1]:List Int) 0)).2)).1 with at_:=(Q10 c (fun (y:Int)=>Qo0 y ([1]:List Int) 0)).2.at_ }]) ((Qf0 ((Q10 c (fun (y:Int)=>Qo0 y ([1]:List Int) 0)).2)).2) with h|h
    ·exact .inl h
    ·exact .inr (List.IsPrefix.trans (List.prefix_append _ _) h)
def skipB (L:List Int) (a:Nat):Nat:=a+((L.drop a).takeWhile Qn3).length
theorem skipB_le (L:List Int) (a:Nat) (h:a<=L.length):skipB L a<=L.length:=by
 unfold skipB
 have:=(List.takeWhile_prefix (l:=L.drop a) Qn3).length_le
 rw [List.length_drop] at this
 omega
theorem QKb (L:List Int) (hL:L.length<=400) (m:Nat) (out:List Token) (a:Nat) (bad:Int) (ha:a<=L.length) :
  QS1 (m+1) out ⟨L,(a:Int),bad,0⟩=bif (((skipB L a:Nat):Int)==(L.length:Int)) then (out,(L.length:Int),0)
   else QS1 m (out++[{ (Qf0 ⟨L,((skipB L a:Nat):Int),bad,0⟩).1 with at_:=((skipB L a:Nat):Int) }]) (Qf0 ⟨L,((skipB L a:Nat):Int),bad,0⟩).2:=by
 rw [QS1]
 simp only [blank_fn]
 rw [while_eq Qn3 L hL a bad 0 ha]
 rfl
theorem next_kind (r:LexReader) (h:(Qe1 (r.line.getD (Int.toNat r.at_) 0)==2)=false):(Qf0 r).1.kind ≠ 1:=by
 unfold Qf0 Qy1 QL1 Qm2
 rw [h]
 simp only [cond_false,Bool.cond_eq_ite]
 repeat' split
 all_goals first|(simp [Token.zero];done)|simp_all
theorem next_word (L:List Int) (hL:L.length<=400) (a:Nat) (bad:Int) (ha:a<=L.length) (h:(Qe1 (L.getD a 0)==2)=true) :
  Qf0 ⟨L,(a:Int),bad,0⟩=(⟨1,Qy2 (runesBytes ((L.drop a).takeWhile wordP)),0,0⟩,⟨L,((a+((L.drop a).takeWhile wordP).length:Nat):Int),bad,0⟩):=by
 unfold Qf0 Q22
 simp only [Int.toNat_natCast,word_fn]
 rw [h,while_eq wordP L hL a bad 0 ha,lower_eq]
 rfl
def Wd (s:ByteArray):Prop:=s.size<=400 ∧ ∃ x r,Qx0 s=x :: r∧Qi0 x=2∧Qy2 (runesBytes ((Qx0 s).takeWhile wordP))=s∧skipB (Qx0 s) ((Qx0 s).takeWhile wordP).length=(Qx0 s).length
theorem tokens_start (s:ByteArray) (h:s.size<=400):Qh1 s=QS1 (2*(Qx0 s).length+1+1) [] ⟨Qx0 s,((0:Nat):Int),0,0⟩:=by
 unfold Qh1
 rw [decide_eq_false (show ¬ (s.size:Int) > 400 by omega),QSf s s]
 unfold Qt5
 show QS1 _ [] ⟨[]++(Qm7 s).map (·.2),0,0,0⟩=_
 rw [List.nil_append]
 congr 1
theorem word_prog (s:ByteArray):QV5 s=true ↔ Wd s:=by
 rcases Nat.lt_or_ge 400 s.size with hs|hs
 ·constructor
  ·intro h
   unfold QV5 Qh1 at h
   rw [decide_eq_true (show (s.size:Int) > 400 by omega)] at h
   cases h
  ·rintro ⟨h,_⟩
   omega
 have hL:(Qx0 s).length<=400:=Nat.le_trans (line_len s) hs
 generalize hLd:Qx0 s=L at *
 have e0:Qh1 s=QS1 (2*L.length+1+1) [] ⟨L,((0:Nat):Int),0,0⟩:=by rw [tokens_start s hs,hLd]
 rw [QKb L hL (2*L.length+1) [] 0 0 (by omega)] at e0
 unfold Wd QV5
 rw [hLd]
 constructor
 ·intro h
  cases hc:(((Qh1 s).2.2 != 0)||((((Qh1 s).1).length:Int)!=1))||(!(((((Qh1 s).1).getD 0 Token.zero).kind==1)&&(((((Qh1 s).1).getD 0 Token.zero).text==s)&&(((((Qh1 s).1).getD 0 Token.zero).num==0)&&((((Qh1 s).1).getD 0 Token.zero).at_==0))))) with
  | true=>rw [hc] at h;cases h
  | false =>
   obtain ⟨h1,h2⟩:=or_f hc
   obtain ⟨_,hlen⟩:=or_f h1
   have hleni:((Qh1 s).1.length:Int)=1:=by simpa using hlen
   replace hlen:(Qh1 s).1.length=1:=by omega
   simp only [Bool.not_eq_false',Bool.and_eq_true,beq_iff_eq,bytes_beq] at h2
   obtain ⟨hk,ht,_,hat⟩:=h2
   cases hb:(((skipB L 0:Nat):Int)==(L.length:Int)) with
   | true =>
    rw [hb] at e0
    rw [e0] at hlen
    cases hlen
   | false =>
    rw [hb] at e0
    simp only [cond_false,List.nil_append] at e0
    have hpre:=Qod (2*L.length+1) [{ (Qf0 ⟨L,((skipB L 0:Nat):Int),0,0⟩).1 with at_:=((skipB L 0:Nat):Int) }] (Qf0 ⟨L,((skipB L 0:Nat):Int),0,0⟩).2
    rw [← e0] at hpre
    rcases hpre with hpre|hpre
    ·rw [hpre] at hlen;cases hlen
    ·have hhead:(Qh1 s).1.getD 0 Token.zero={ (Qf0 ⟨L,((skipB L 0:Nat):Int),0,0⟩).1 with at_:=((skipB L 0:Nat):Int) }:=by
      obtain ⟨q,hq⟩:=hpre
      rw [← hq]
      rfl
     rw [hhead] at hk ht hat
     have hz:skipB L 0=0:=by
      have:((skipB L 0:Nat):Int)=0:=hat
      omega
     rw [hz] at e0 hk ht hb
     have hcl:(Qe1 (L.getD 0 0)==2)=true:=by
      cases hcc:(Qe1 (L.getD 0 0)==2) with
      | true=>rfl
      | false=>exact absurd hk (next_kind ⟨L,((0:Nat):Int),0,0⟩ hcc)
     rw [next_word L hL 0 0 (by omega) hcl] at e0 ht
     simp only [List.drop_zero,Nat.zero_add] at e0 ht
     have hne:L.length ≠ 0:=by
      intro h0
      rw [h0] at hb
      simp at hb
     obtain ⟨x,r,hxr⟩:∃ x r,L=x :: r:=by
      cases hcase:L with
      | nil=>rw [hcase] at hne;exact absurd rfl hne
      | cons x r=>exact ⟨x,r,rfl⟩
     refine ⟨hs,x,r,hxr,?_,ht,?_⟩
     ·rw [hxr] at hcl
      rw [QWb] at hcl
      exact eq_of_beq hcl
     ·have hle:(L.takeWhile wordP).length<=L.length:=(List.takeWhile_prefix wordP).length_le
      rw [show 2*L.length+1=2*L.length+1 from rfl,QKb L hL (2*L.length) _ (L.takeWhile wordP).length 0 hle] at e0
      cases hb2:(((skipB L (L.takeWhile wordP).length:Nat):Int)==(L.length:Int)) with
      | true =>
       have:=eq_of_beq hb2
       omega
      | false =>
       rw [hb2] at e0
       simp only [cond_false] at e0
       have hpre2:∀ o c,Qh1 s=QS1 (2*L.length) o c->(Qh1 s).1=[]∨o <+: (Qh1 s).1:=fun o c e=>by rw [e];exact Qod _ _ _
       rcases hpre2 _ _ e0 with h'|h'
       ·rw [h'] at hlen;cases hlen
       ·have:=h'.length_le
        rw [hlen] at this
        simp at this
 ·rintro ⟨_,x,r,hxr,hx,ht,hsk⟩
  have hcl:(Qe1 (L.getD 0 0)==2)=true:=by
   rw [hxr,QWb]
   exact beq_iff_eq.2 hx
  have hz:skipB L 0=0:=by
   unfold skipB
   rw [List.drop_zero,hxr,List.takeWhile_cons]
   have:Qn3 x=false:=by unfold Qn3;rw [hx];rfl
   rw [this]
   rfl
  have hb:(((0:Nat):Int)==(L.length:Int))=false:=by
   rw [hxr]
   simp
   omega
  rw [hz,hb] at e0
  simp only [cond_false,List.nil_append] at e0
  rw [next_word L hL 0 0 (by omega) hcl] at e0
  simp only [List.drop_zero,Nat.zero_add] at e0
  have hle:(L.takeWhile wordP).length<=L.length:=(List.takeWhile_prefix wordP).length_le
  rw [QKb L hL (2*L.length) _ (L.takeWhile wordP).length 0 hle,hsk] at e0
  have hb2:(((L.length:Nat):Int)==(L.length:Int))=true:=beq_iff_eq.2 rfl
  rw [hb2,ht] at e0
  rw [e0]
  have:(s==s)=true:=(bytes_beq s s).2 rfl
  simp [this]
theorem decode_blank (s:ByteArray) (h:(Utf8.decode s 0).1=9∨(Utf8.decode s 0).1=32):(s.get! 0).toNat=9∨(s.get! 0).toNat=32:=by
 unfold Utf8.decode at h
 simp only [Nat.add_zero,Nat.zero_add,Utf8.runeError] at h
 repeat' split at h
 all_goals first|exact h|(simp only [ge_iff_le,Nat.not_le] at *;omega)|(simp_all;omega)
theorem first_line (s:ByteArray) (x:Int) (r:List Int) (h:Qx0 s=x :: r):x=((Utf8.decode s 0).1:Int)∧0<s.size:=by
 unfold Qx0 Qm7 at h
 cases hs:s.size with
 | zero=>rw [hs] at h;cases h
 | succ n =>
  rw [hs,Q53 (by rw [hs];rfl)] at h
  simp only [List.map_cons,List.cons.injEq] at h
  exact ⟨h.1.symm,Nat.succ_pos n⟩
theorem get_first (s:ByteArray) (h:0<s.size):∃ b q,s.data.toList=b :: q∧s.get! 0=b:=by
 obtain ⟨d⟩:=s
 have hd:0<d.size:=h
 refine ⟨d[0],d.toList.tail,?_,?_⟩
 ·cases hl:d.toList with
  | nil=>simp at hl;rw [hl] at hd;cases hd
  | cons a t=>
   have:d[0]=a:=by rw [← Array.getElem_toList];simp [hl]
   rw [this];rfl
 ·show d[0]! = d[0]
  exact getElem!_pos d 0 hd
theorem encode_letter (x:Int) (h:Qi0 x=2):∃ b q,(Utf8.encode x).data.toList=b :: q∧65<=b.toNat:=by
 have hx:65<=x∧x<=1114111 ∧ ¬ (55296<=x∧x<=57343):=by
  unfold Qi0 at h
  grind
 have hv:Utf8.valid x=true:=by
  unfold Utf8.valid
  simp only [Bool.or_eq_true,Bool.and_eq_true,decide_eq_true_eq]
  omega
 unfold Utf8.encode
 simp only [hv,if_true]
 have hc:∃ c:Nat,x.toNat=c∧65<=c∧c<=1114111:=⟨x.toNat,rfl,by omega,by omega⟩
 obtain ⟨c,hcc,h1,h2⟩:=hc
 rw [hcc]
 repeat' split
 all_goals refine ⟨_,_,rfl,?_⟩
 all_goals simp only [UInt8.toNat_ofNat']
 all_goals omega
theorem QIf (x:Int) (r:List Int):∃ q,(runesBytes (x :: r)).data.toList=(Utf8.encode x).data.toList++q:=by
 unfold runesBytes
 rw [List.foldl_cons]
 have:∀ (l:List Int) (b:ByteArray),∃ q,(l.foldl (fun r n=>r++Utf8.encode n) b).data.toList=b.data.toList++q:=by
  intro l
  induction l with
  | nil=>exact fun b=>⟨[],by simp⟩
  | cons y t ih =>
   intro b
   obtain ⟨q,hq⟩:=ih (b++Utf8.encode y)
   exact ⟨(Utf8.encode y).data.toList++q,by rw [List.foldl_cons,hq];simp⟩
 obtain ⟨q,hq⟩:=this r (ByteArray.empty++Utf8.encode x)
 exact ⟨q,by rw [hq];simp⟩
theorem lower_first (x:Int) (r:List Int) (h:Qi0 x=2):∃ b q,(Qy2 (runesBytes (x :: r))).data.toList=b :: q∧65<=b.toNat:=by
 obtain ⟨b,q,hb,h65⟩:=encode_letter x h
 obtain ⟨q',hq⟩:=QIf x r
 rw [lower_ref,QUb]
 unfold QR1
 rw [hq,hb]
 refine ⟨UInt8.ofNat (lowB (b.toNat:Int)).toNat,_,rfl,?_⟩
 have hlt:=b.toNat_lt
 rw [UInt8.toNat_ofNat']
 unfold lowB
 split <;> omega
theorem no_blank_word (s:ByteArray) (y:Int) (q:List Int) (hl:Qx0 s=y :: q) (hy:Qn3 y=true) (x:Int) (r:List Int) (hx:Qi0 x=2):Qy2 (runesBytes (x :: r)) ≠ s:=by
 intro e
 obtain ⟨b,t,hb,h65⟩:=lower_first x r hx
 rw [e] at hb
 obtain ⟨h1,h2⟩:=first_line s y q hl
 obtain ⟨b',t',hb',hg⟩:=get_first s h2
 have hy':(Utf8.decode s 0).1=9∨(Utf8.decode s 0).1=32:=by
  unfold Qn3 Qi0 at hy
  subst h1
  grind
 have:=decode_blank s hy'
 rw [hg] at this
 rw [hb] at hb'
 cases hb'
 omega
theorem end_go (L:List Int) (hL:L.length<=400) (a:Nat) (ha:Qi0 (L.getD a 0)=2):∀ (m i:Nat),i<=L.length->L.length - i<m->QL2 L (a:Int) m (i:Int)=((i+((L.drop i).takeWhile wordP).length:Nat):Int)
 | 0,_,_,h=>absurd h (by omega)
 | m+1,i,hi,hm=>by
  rw [QL2]
  simp only [Int.toNat_natCast,ha]
  rcases Nat.lt_or_ge i L.length with h|h
  ·have hg:L.getD i 0=L[i]:=by simp [List.getD,List.getElem?_eq_getElem h]
   rw [decide_eq_true (show (i:Int)<(L.length:Int) by omega),hg,List.drop_eq_getElem_cons h,List.takeWhile_cons]
   have e:(((((((2:Int)==2)&&((Qi0 L[i])!=2))&&((Qi0 L[i])!=3))&&(L[i]!=45))&&(L[i]!=95))) = !(wordP L[i]):=by
    unfold wordP bne
    cases (Qi0 L[i]==2) <;> cases (Qi0 L[i]==3) <;> cases (L[i]==45) <;> cases (L[i]==95) <;> rfl
   rw [e]
   cases hw:wordP L[i] with
   | false=>simp
   | true =>
    have hww:w64 ((i:Int)+1)=((i+1:Nat):Int):=wr (by omega)
    have e3:((2:Int)==3)=false:=rfl
    simp only [Bool.not_true,cond_false,cond_true,e3,Bool.false_and,if_true]
    rw [hww,end_go L hL a ha m (i+1) (by omega) (by omega),List.length_cons]
    congr 1
    omega
  ·rw [decide_eq_false (show ¬ (i:Int)<(L.length:Int) by omega),List.drop_eq_nil_of_le h]
   simp
theorem end_eq (L:List Int) (hL:L.length<=400) (a:Nat) (hlt:a<L.length) (ha:Qi0 (L.getD a 0)=2):Qu1 L (a:Int)=((a+((L.drop a).takeWhile wordP).length:Nat):Int):=by
 unfold Qu1
 have hw:w64 ((a:Int)+1)=((a+1:Nat):Int):=wr (by omega)
 rw [hw,end_go L hL a ha _ (a+1) (by omega) (by omega),List.drop_eq_getElem_cons hlt,List.takeWhile_cons]
 have hg:L.getD a 0=L[a]:=by simp [List.getD,List.getElem?_eq_getElem hlt]
 have:wordP L[a]=true:=by unfold wordP;rw [← hg,ha];rfl
 rw [this]
 simp only [if_true,List.length_cons]
 congr 1
 omega
theorem text_kind (L:List Int) (a:Int):∀ (m:Nat) (i:Int),(Qn2 L a m i).1.kind ≠ 1
 | 0,i=>by simp [Qn2,Token.zero]
 | m+1,i=>by
  rw [Qn2]
  simp only [Bool.cond_eq_ite]
  repeat' split
  all_goals first|exact text_kind L a m _|(simp [Token.zero];done)
theorem one_kind (L:List Int) (a:Int) (h:(Qi0 (L.getD (Int.toNat a) 0)==2)=false):(Qd1 L a).1.kind ≠ 1:=by
 unfold Qd1 Qd3
 rw [h]
 simp only [cond_false,Bool.cond_eq_ite]
 repeat' split
 all_goals first|exact text_kind L a _ _|(simp [Token.zero];done)|simp_all
theorem one_word (L:List Int) (hL:L.length<=400) (a:Nat) (hlt:a<L.length) (ha:Qi0 (L.getD a 0)=2) :
  Qd1 L (a:Int)=(⟨1,Qy2 (runesBytes ((L.drop a).takeWhile wordP)),0,(a:Int)⟩,((a+((L.drop a).takeWhile wordP).length:Nat):Int),0,0):=by
 unfold Qd1
 simp only [Int.toNat_natCast,ha,end_eq L hL a hlt ha]
 rw [take_run]
 rfl
section
variable (s:ByteArray)
theorem QDb:∀ (m:Nat) (out:List Token) (i:Int),(QM0 s m out i).1=[]∨out <+: (QM0 s m out i).1
 | 0,_,_=>.inl rfl
 | m+1,out,i=>by
  rw [QM0]
  cases (decide (i<((QL0 s).length:Int))) with
  | false=>exact .inr (List.prefix_refl _)
  | true =>
   simp only [cond_true]
   cases ((Qi0 ((QL0 s).getD (Int.toNat i) 0))==1) with
   | true=>exact QDb m out _
   | false =>
    simp only [cond_false]
    cases ((Qd1 (QL0 s) i).2.2.2 != 0) with
    | true=>exact .inl rfl
    | false =>
     rcases QDb m (out++[(Qd1 (QL0 s) i).1]) ((Qd1 (QL0 s) i).2.1) with h|h
     ·exact .inl h
     ·exact .inr (List.IsPrefix.trans (List.prefix_append _ _) h)
theorem rskip (hL:(Qx0 s).length<=400):∀ (k m:Nat) (out:List Token) (i:Nat),i+k<=(Qx0 s).length->(∀ y ∈ ((Qx0 s).drop i).take k,Qn3 y=true)->QM0 s (m+k) out (i:Int)=QM0 s m out ((i+k:Nat):Int)
 | 0,_,_,_,_,_=>rfl
 | k+1,m,out,i,h,hb=>by
  have hi:i<(Qx0 s).length:=by omega
  rw [show m+(k+1)=(m+k)+1 by omega,QM0,Qf9,decide_eq_true (show (i:Int)<((Qx0 s).length:Int) by omega),Int.toNat_natCast]
  have hg:(Qx0 s).getD i 0=(Qx0 s)[i]:=by simp [List.getD,List.getElem?_eq_getElem hi]
  rw [List.drop_eq_getElem_cons hi,List.take_succ_cons] at hb
  have hc:((Qi0 (Qx0 s)[i])==1)=true:=hb _ (List.mem_cons_self ..)
  have hw:w64 ((i:Int)+1)=((i+1:Nat):Int):=wr (by omega)
  rw [hg,hc,hw]
  simp only [cond_true]
  rw [rskip hL k m out (i+1) (by omega) (fun y hy=>hb y (List.mem_cons_of_mem _ hy))]
  congr 2
  omega
theorem rskipB (hL:(Qx0 s).length<=400) (m:Nat) (out:List Token) (a:Nat) (ha:a<=(Qx0 s).length) (hm:(Qx0 s).length - a<m) :
  ∃ m',(Qx0 s).length - skipB (Qx0 s) a<m'∧QM0 s m out (a:Int)=QM0 s m' out ((skipB (Qx0 s) a:Nat):Int):=by
 have hle:=skipB_le (Qx0 s) a ha
 have hk:skipB (Qx0 s) a=a+(((Qx0 s).drop a).takeWhile Qn3).length:=rfl
 refine ⟨m - (((Qx0 s).drop a).takeWhile Qn3).length,by omega,?_⟩
 rw [hk,← rskip s hL _ (m - (((Qx0 s).drop a).takeWhile Qn3).length) out a (by omega) ?_]
 ·congr 1
  omega
 ·intro y hy
  have:((Qx0 s).drop a).take (((Qx0 s).drop a).takeWhile Qn3).length=((Qx0 s).drop a).takeWhile Qn3:=(List.prefix_iff_eq_take.1 (List.takeWhile_prefix Qn3)).symm
  rw [this] at hy
  exact List.all_eq_true.1 (List.all_takeWhile ..) y hy
theorem rstep (m:Nat) (out:List Token) (a:Nat) (ha:a<(Qx0 s).length) (hb:Qn3 ((Qx0 s).getD a 0)=false) :
  QM0 s (m+1) out (a:Int)=bif ((Qd1 (Qx0 s) (a:Int)).2.2.2 != 0) then ([],(Qd1 (Qx0 s) (a:Int)).2.2.1,(Qd1 (Qx0 s) (a:Int)).2.2.2) else QM0 s m (out++[(Qd1 (Qx0 s) (a:Int)).1]) (Qd1 (Qx0 s) (a:Int)).2.1:=by
 rw [QM0,Qf9,decide_eq_true (show (a:Int)<((Qx0 s).length:Int) by omega),Int.toNat_natCast]
 have:((Qi0 ((Qx0 s).getD a 0))==1)=false:=hb
 rw [this]
 rfl
theorem rend (m:Nat) (out:List Token):QM0 s (m+1) out ((Qx0 s).length:Int)=(out,((Qx0 s).length:Int),0):=by
 rw [QM0,Qf9,decide_eq_false (by omega)]
 rfl
theorem skip_no (L:List Int) (a:Nat) (h:skipB L a<L.length):Qn3 (L.getD (skipB L a) 0)=false:=by
 unfold skipB at *
 have hd:(L.drop a)[((L.drop a).takeWhile Qn3).length]? = some (L.getD (a+((L.drop a).takeWhile Qn3).length) 0):=by
  rw [List.getElem?_drop,List.getD,List.getElem?_eq_getElem h]
  rfl
 have hsp:L.drop a=(L.drop a).takeWhile Qn3++(L.drop a).dropWhile Qn3:=(List.takeWhile_append_dropWhile).symm
 generalize hX:(L.drop a).takeWhile Qn3=X at *
 generalize hY:(L.drop a).dropWhile Qn3=Y at *
 rw [hsp,List.getElem?_append_right (Nat.le_refl _),Nat.sub_self] at hd
 cases hc:Y with
 | nil=>rw [hc] at hd;cases hd
 | cons y t =>
  rw [hc] at hd
  simp only [List.getElem?_cons_zero,Option.some.injEq] at hd
  rw [← hd]
  have:=List.head_dropWhile_not Qn3 (l:=L.drop a) (by rw [hY,hc];simp)
  simpa [hY,hc] using this
end
theorem word_ref (s:ByteArray):QA3 s=true ↔ Wd s:=by
 rcases Nat.lt_or_ge 400 s.size with hs|hs
 ·constructor
  ·intro h
   unfold QA3 QJ0 at h
   rw [decide_eq_true (show (s.size:Int) > 400 by omega)] at h
   cases h
  ·rintro ⟨h,_⟩
   omega
 have hL:(Qx0 s).length<=400:=Nat.le_trans (line_len s) hs
 have e0:QJ0 s=QM0 s ((Qx0 s).length+1) [] ((0:Nat):Int):=by
  unfold QJ0
  rw [decide_eq_false (show ¬ (s.size:Int) > 400 by omega),Qf9]
  rfl
 obtain ⟨m1,hm1,e1⟩:=rskipB s hL ((Qx0 s).length+1) [] 0 (by omega) (by omega)
 rw [e1] at e0
 have hle0:=skipB_le (Qx0 s) 0 (by omega)
 obtain ⟨m2,rfl⟩:∃ m2,m1=m2+1:=⟨m1 - 1,by omega⟩
 unfold Wd QA3
 constructor
 ·intro h
  cases h1:(((QJ0 s).2.2 != 0)||((((QJ0 s).1).length:Int)!=1)) with
  | true=>rw [h1] at h;cases h
  | false =>
   rw [h1] at h
   simp only [cond_false] at h
   have hleni:((QJ0 s).1.length:Int)=1:=by simpa using (or_f h1).2
   have hlen:(QJ0 s).1.length=1:=by omega
   cases h2:((((((QJ0 s).1).getD 0 Token.zero).kind != 1)||(!(ByteArray.toList (((QJ0 s).1).getD 0 Token.zero).text==ByteArray.toList s)))||((((QJ0 s).1).getD 0 Token.zero).num != 0)) with
   | true=>rw [h2] at h;cases h
   | false =>
    obtain ⟨h3,_⟩:=or_f h2
    obtain ⟨hk,ht⟩:=or_f h3
    have hk:((QJ0 s).1.getD 0 Token.zero).kind=1:=by simpa using hk
    have ht:((QJ0 s).1.getD 0 Token.zero).text=s:=by
     have:(ByteArray.toList (((QJ0 s).1).getD 0 Token.zero).text==ByteArray.toList s)=true:=by simpa using ht
     exact (QVb _ _).1 this
    rcases Nat.eq_or_lt_of_le hle0 with hb|hb
    ·rw [hb,rend] at e0
     rw [e0] at hlen
     cases hlen
    ·have hnb:=skip_no _ _ hb
     rw [rstep s m2 [] _ hb hnb] at e0
     cases he:((Qd1 (Qx0 s) ((skipB (Qx0 s) 0:Nat):Int)).2.2.2 != 0) with
     | true =>
      rw [he] at e0
      rw [e0] at hlen
      cases hlen
     | false =>
      rw [he] at e0
      simp only [cond_false,List.nil_append] at e0
      have hp:∀ o i m,QJ0 s=QM0 s m o i->(QJ0 s).1=[]∨o <+: (QJ0 s).1:=fun o i m e=>by rw [e];exact QDb s _ _ _
      rcases hp _ _ _ e0 with h'|h'
      ·rw [h'] at hlen;cases hlen
      ·have hhead:(QJ0 s).1.getD 0 Token.zero=(Qd1 (Qx0 s) ((skipB (Qx0 s) 0:Nat):Int)).1:=by
        obtain ⟨q,hq⟩:=h'
        rw [← hq]
        rfl
       rw [hhead] at hk ht
       have hcl:(Qi0 ((Qx0 s).getD (skipB (Qx0 s) 0) 0)==2)=true:=by
        cases hcc:(Qi0 ((Qx0 s).getD (skipB (Qx0 s) 0) 0)==2) with
        | true=>rfl
        | false=>exact absurd hk (one_kind _ _ (by rw [Int.toNat_natCast];exact hcc))
       have hcl':=eq_of_beq hcl
       rw [one_word _ hL _ hb hcl'] at e0 ht
       simp only at e0 ht
       have hfirst:(Qx0 s).drop (skipB (Qx0 s) 0)=(Qx0 s).getD (skipB (Qx0 s) 0) 0 :: (Qx0 s).drop (skipB (Qx0 s) 0+1):=by
        rw [List.drop_eq_getElem_cons hb]
        congr 1
        simp [List.getD,List.getElem?_eq_getElem hb]
       have hwp:wordP ((Qx0 s).getD (skipB (Qx0 s) 0) 0)=true:=by unfold wordP;rw [hcl'];rfl
       have hz:skipB (Qx0 s) 0=0:=by
        rcases Nat.eq_zero_or_pos (skipB (Qx0 s) 0) with hz|hz
        ·exact hz
        ·exfalso
         cases hl:Qx0 s with
         | nil=>rw [hl] at hb;exact absurd hb (by simp)
         | cons y q =>
          have hy:Qn3 y=true:=by
           cases hbl:Qn3 y with
           | true=>rfl
           | false =>
            have:skipB (Qx0 s) 0=0:=by
             unfold skipB
             rw [List.drop_zero,hl,List.takeWhile_cons,hbl]
             rfl
            omega
          rw [hfirst,List.takeWhile_cons,hwp] at ht
          exact no_blank_word s y q hl hy _ _ hcl' ht
       rw [hz] at e0 ht hcl' hb
       simp only [List.drop_zero,Nat.zero_add] at e0 ht
       cases hl:Qx0 s with
       | nil=>rw [hl] at hb;exact absurd hb (by simp)
       | cons x r =>
        rw [← hl]
        refine ⟨hs,x,r,hl,by rw [hl] at hcl';exact hcl',ht,?_⟩
        have hle:((Qx0 s).takeWhile wordP).length<=(Qx0 s).length:=(List.takeWhile_prefix wordP).length_le
        have hpos:0<((Qx0 s).takeWhile wordP).length:=by
         rw [hl,List.takeWhile_cons]
         have hcx:Qi0 x=2:=by rw [hl] at hcl';exact hcl'
         have:wordP x=true:=by unfold wordP;rw [hcx];rfl
         rw [this]
         simp
        obtain ⟨m3,hm3,e3⟩:=rskipB s hL m2 [⟨1,Qy2 (runesBytes ((Qx0 s).takeWhile wordP)),0,((0:Nat):Int)⟩] ((Qx0 s).takeWhile wordP).length hle (by omega)
        rw [e3] at e0
        have hle2:=skipB_le (Qx0 s) _ hle
        rcases Nat.eq_or_lt_of_le hle2 with hq|hq
        ·exact hq
        ·exfalso
         obtain ⟨m4,rfl⟩:∃ m4,m3=m4+1:=⟨m3 - 1,by omega⟩
         rw [rstep s m4 _ _ hq (skip_no _ _ hq)] at e0
         cases he2:((Qd1 (Qx0 s) ((skipB (Qx0 s) ((Qx0 s).takeWhile wordP).length:Nat):Int)).2.2.2 != 0) with
         | true =>
          rw [he2] at e0
          rw [e0] at hlen
          cases hlen
         | false =>
          rw [he2] at e0
          simp only [cond_false] at e0
          rcases hp _ _ _ e0 with h''|h''
          ·rw [h''] at hlen;cases hlen
          ·have:=h''.length_le
           rw [hlen] at this
           simp at this
 ·rintro ⟨_,x,r,hl,hx,ht,hsk⟩
  have hz:skipB (Qx0 s) 0=0:=by
   unfold skipB
   rw [List.drop_zero,hl,List.takeWhile_cons]
   have:Qn3 x=false:=by unfold Qn3;rw [hx];rfl
   rw [this]
   rfl
  have hb:0<(Qx0 s).length:=by rw [hl];simp
  have hg:(Qx0 s).getD 0 0=x:=by rw [hl];rfl
  rw [hz] at e0 hm1
  have hnb:Qn3 ((Qx0 s).getD 0 0)=false:=by rw [hg];unfold Qn3;rw [hx];rfl
  rw [rstep s m2 [] 0 hb hnb,one_word _ hL 0 hb (by rw [hg];exact hx)] at e0
  simp only [List.drop_zero,Nat.zero_add,List.nil_append] at e0
  have e00:((0:Int)!=0)=false:=rfl
  rw [e00] at e0
  simp only [cond_false] at e0
  have hle:((Qx0 s).takeWhile wordP).length<=(Qx0 s).length:=(List.takeWhile_prefix wordP).length_le
  have hpos:0<((Qx0 s).takeWhile wordP).length:=by
   rw [hl,List.takeWhile_cons]
   have:wordP x=true:=by unfold wordP;rw [hx];rfl
   rw [this]
   simp
  obtain ⟨m3,hm3,e3⟩:=rskipB s hL m2 [⟨1,Qy2 (runesBytes ((Qx0 s).takeWhile wordP)),0,((0:Nat):Int)⟩] ((Qx0 s).takeWhile wordP).length hle (by omega)
  rw [e3,hsk,ht] at e0
  obtain ⟨m4,rfl⟩:∃ m4,m3=m4+1:=⟨m3 - 1,by omega⟩
  rw [rend] at e0
  rw [e0]
  simp
theorem word_eq (s:ByteArray):QV5 s=QA3 s:=by
 rw [Bool.eq_iff_iff,word_prog,word_ref]
theorem alts_le {s:Shape} (h:(QU1 s==0)=true):s.alts.length<=6:=by
 have h:=eq_of_beq h
 unfold QU1 Q62 at h
 by_cases h1:s.kind=1
 ·simp only [h1,beq_self_eq_true,cond_true] at h
  grind
 by_cases h2:s.kind=2
 ·have:((2:Int)==1)=false:=rfl
  simp only [h2,beq_self_eq_true,cond_true,this,cond_false] at h
  grind
 by_cases h3:s.kind=3
 ·have e1:((3:Int)==1)=false:=rfl
  have e2:((3:Int)==2)=false:=rfl
  simp only [h3,beq_self_eq_true,cond_true,e1,e2,cond_false] at h
  grind
 have e1:(s.kind==1)=false:=by simpa using h1
 have e2:(s.kind==2)=false:=by simpa using h2
 have e3:(s.kind==3)=false:=by simpa using h3
 rw [e1,e2,e3] at h
 cases h
theorem deps_le {l:List Dep} (h:QS7 l=true):l.length<=4:=by
 rcases Nat.lt_or_ge 4 l.length with h'|h'
 ·unfold QS7 at h
  rw [QVe l h'] at h
  cases h
 ·exact h'
theorem cmd_self (c:Cmd):QKa c c=true:=by
 unfold QKa
 rw [(shape_same _ _).2 rfl,(equal_Dep _ _).2 rfl]
 simp
theorem submission_eq (n u a:ByteArray) (sh:Shape) (p:Int) (l:List Dep) :
  Q44 ⟨1,0,n,u,a,sh,p,true,0,false,l,0,0,0⟩=Qb5 ⟨1,0,n,u,a,sh,p,true,0,false,l,0,0,0⟩:=by
 have hbare:QR7 ⟨1,0,n,u,a,sh,p,true,0,false,l,0,0,0⟩=⟨1,0,n,u,a,sh,p,true,0,false,l,0,0,0⟩:=rfl
 have hf:QA8 ⟨1,0,n,u,a,sh,p,true,0,false,l,0,0,0⟩=((Qf1 p 0 100)&&(((((((Qq5 n)&&(Qq5 u))&&(Qq5 a))&&(QV5 u))&&(QV5 a))&&(QS7 l))&&((QU1 sh)==0))):=by
  unfold QA8
  show (bif ((((true&&(!(Qf1 p 0 100)))||false)||false)||false) then false else _)=_
  cases (Qf1 p 0 100) <;> rfl
 have hr:Qb5 ⟨1,0,n,u,a,sh,p,true,0,false,l,0,0,0⟩=bif !((((((((Qj3 n)&&(Qj3 u))&&(Qj3 a))&&(QA3 u))&&(QA3 a))&&(Q86 l))&&((Qv1 sh)==0))&&(Qf1 p 0 100)) then 80 else 0:=by
  unfold Qb5 Qj2 Qi7 Qj7 Qe2
  simp
 rw [hr]
 unfold Q44
 rw [hbare,cmd_self,hf,← name_eq,← name_eq,← name_eq,← word_eq,← word_eq,← deps_eq,← QT8]
 cases hd:QS7 l with
 | false=>cases (Qf1 p 0 100) <;> simp
 | true =>
  cases hs:(QU1 sh==0) with
  | false=>cases (Qf1 p 0 100) <;> simp
  | true =>
   have h1:=alts_le hs
   have h2:=deps_le hd
   have e1:decide ((sh.alts.length:Int) > 6)=false:=decide_eq_false (by omega)
   have e2:decide ((l.length:Int) > 4)=false:=decide_eq_false (by omega)
   show (bif (((decide ((sh.alts.length:Int) > 6))||(decide ((l.length:Int) > 4)))||_)||_ then (80:Int) else 0)=_
   rw [e1,e2]
   cases (Qf1 p 0 100) <;> cases Qq5 n <;> cases Qq5 u <;> cases Qq5 a <;> cases QV5 u <;> cases QV5 a <;> rfl
theorem opt_wall (s:Shape):∀ x ∈ Qz0 s,1<=x.wall∧x.wall<=100000:=by
 intro x hx
 cases hc:(Qv1 s != 0) with
 | true =>
  unfold Qz0 at hx
  rw [hc] at hx
  cases hx
 | false =>
  have hz:Qv1 s=0:=by simpa using hc
  cases hk:(s.kind==3) with
  | true =>
   have hk3:s.kind=3:=by simpa using hk
   have hw:1<=s.wall∧s.wall<=100000:=by
    unfold Qv1 at hz
    simp only [hk3,beq_self_eq_true,cond_true] at hz
    cases hq:(((((decide ((s.alts.length:Int) > 0))||(!(QC1 s.min)))||(!(QC1 s.max)))||(decide (s.max<s.min)))||(!(Qz2 s.wall))) with
    | true=>rw [hq] at hz;cases hz
    | false =>
     have:=(or_f hq).2
     unfold Qz2 at this
     simp at this
     omega
   rw [← Q99] at hx
   unfold Q51 at hx
   rw [QT8,hc,hk] at hx
   simp only [cond_false,cond_true] at hx
   rcases List.mem_append.1 hx with hx|hx
   ·have h0:s.alts.length=0:=by
     unfold Qv1 at hz
     simp only [hk3,beq_self_eq_true,cond_true] at hz
     cases hq:(((((decide ((s.alts.length:Int) > 0))||(!(QC1 s.min)))||(!(QC1 s.max)))||(decide (s.max<s.min)))||(!(Qz2 s.wall))) with
     | true=>rw [hq] at hz;cases hz
     | false =>
      have:=of_decide_eq_false (or_f (or_f (or_f (or_f hq).1).1).1).1
      omega
    rw [List.eq_nil_of_length_eq_zero h0] at hx
    cases hx
   ·unfold Qf6 at hx
    obtain ⟨i,_,rfl⟩:=List.mem_map.1 hx
    exact hw
  | false =>
   have hk':(s.kind != 3)=true:=by unfold bne;rw [hk];rfl
   have hx':x ∈ s.alts:=by
    unfold Qz0 at hx
    rw [hc,hk'] at hx
    exact hx
   have hg:QT0 s s.alts 0=0:=by
    unfold Qv1 QM4 at hz
    rw [hk] at hz
    simp only [cond_false] at hz
    grind
   have:=((g2_eq s s.alts 0 (by simp)).1.1 hg).1 x hx'
   unfold okAlt Qz2 at this
   simp at this
   omega
theorem Qpf (v:Job) (c:Int):(QK0 v c).2=decide (Qs2 v.shape c > 0)∧((QK0 v c).2=false ↔ Qs2 v.shape c=0)∧((QK0 v c).2=true->(QK0 v c).1.wall=Qs2 v.shape c∧1<=Qs2 v.shape c∧Qs2 v.shape c<=100000):=by
 unfold QK0 Qs2
 rw [Q99]
 cases hb:((decide (c<0))||(decide (c >= ((Qz0 v.shape).length:Int)))) with
 | true=>exact ⟨rfl,⟨fun _=>rfl,fun _=>rfl⟩,fun h=>(by cases h)⟩
 | false =>
  obtain ⟨h1,h2⟩:=or_f hb
  have h1:=of_decide_eq_false h1
  have h2:=of_decide_eq_false h2
  simp only [cond_false]
  have hm:(Qz0 v.shape).getD (Int.toNat c) Alt.zero ∈ Qz0 v.shape:=by
   rw [List.getD,List.getElem?_eq_getElem (show Int.toNat c<(Qz0 v.shape).length by omega)]
   exact List.getElem_mem _
  have hw:=opt_wall v.shape _ hm
  exact ⟨(decide_eq_true (by omega)).symm,⟨fun h=>(by cases h),fun h=>by omega⟩,fun _=>⟨trivial,hw⟩⟩
theorem nodes_few {s:Int} (hs:U64 s):Qz6 s=Qwa s:=by
 obtain ⟨au,ab⟩:=QU9 (n:=48) (by decide)
 have au:U64 (Qp3 48):=au
 have ab:∀ k,tb (Qp3 48) k=decide (k<48):=ab
 unfold Qz6 Qwa
 rw [Bool.eq_iff_iff,Qqb (Qz8 _),decide_eq_true_eq]
 have ht:∀ k,tb (wu64 (BitVec.ofInt 64 s &&& ~~~(BitVec.ofInt 64 (Qp3 48))).toNat) k=(tb s k && !decide (k<48)):=fun k=>by rw [QS5 hs au,ab]
 have p48:(2:Nat) ^ 48=281474976710656:=by decide
 constructor
 ·intro h
  have:s.toNat<2 ^ 48:=by
   refine Nat.lt_pow_two_of_testBit _ fun k hk=>?_
   rcases Nat.lt_or_ge k 64 with hk'|hk'
   ·have:=h k hk'
    rw [ht,decide_eq_false (show ¬ k<48 by omega)] at this
    simpa [tb] using this
   ·exact tb_high hs hk'
  rw [p48] at this
  unfold U64 at hs
  omega
 ·intro h k _
  rw [ht]
  rcases Nat.lt_or_ge k 48 with hk|hk
  ·rw [decide_eq_true hk];simp
  ·have:tb s k=false:=by
    unfold tb
    refine Nat.testBit_lt_two_pow (Nat.lt_of_lt_of_le (m:=2 ^ 48) ?_ (Nat.pow_le_pow_right (by decide) hk))
    rw [p48]
    unfold U64 at hs
    omega
   rw [this]
   rfl
theorem queued_eq {v:Job} (h:v.state=1):Ql2 v=QS2 v:=by
 unfold QS2
 rw [h]
 simp only [beq_self_eq_true,cond_true]
 unfold Ql2
 rw [(Qpf v v.choice).1]
 have et:Qh2=QD1:=rfl
 rw [et]
 cases hp:(v.promise==(-1)) with
 | true =>
  have:v.promise = -1:=by simpa using hp
  have hT:QD1 v.promise=false:=by rw [this];rfl
  rw [hT]
  unfold bne
  cases (v.start==0) <;> cases (v.limit==0) <;> cases (v.nodes==0) <;> simp
 | false =>
  unfold bne
  cases (v.start==0) <;> cases (v.limit==0) <;> cases (v.nodes==0) <;> simp
theorem running_eq {v:Job} (h:v.state=2) (hn:U64 v.nodes):Qk1 v=QS2 v:=by
 unfold QS2
 rw [h]
 have e1:((2:Int)==1)=false:=rfl
 simp only [beq_self_eq_true,cond_true,e1,cond_false]
 unfold Qk1
 rw [nodes_few hn,allows_eq,Q1d hn]
 have et:Qh2=QD1:=rfl
 rw [et]
 obtain ⟨_,o2,o3⟩:=Qpf v v.choice
 cases ho:(QK0 v v.choice).2 with
 | false =>
  rw [o2.1 ho]
  rfl
 | true =>
  obtain ⟨w1,w2,w3⟩:=o3 ho
  have hw0:(Qs2 v.shape v.choice==0)=false:=by simp;omega
  rw [hw0,w1]
  simp only [Bool.not_true,Bool.false_or]
  cases v.held with
  | true=>rfl
  | false =>
   cases hs:QD1 v.start with
   | false=>rfl
   | true =>
    cases QD1 v.promise with
    | false=>rfl
    | true =>
     have:decide (v.promise<v.start)=decide (v.start > v.promise):=rfl
     rw [this]
     cases decide (v.start > v.promise) with
     | true=>rfl
     | false =>
      cases hl:QD1 v.limit with
      | false=>rfl
      | true =>
       unfold QD1 at hs hl
       simp only [Bool.and_eq_true,decide_eq_true_eq] at hs hl
       have q1:w64 (v.limit - v.start)=v.limit - v.start:=wr (by omega)
       have q2:w64 (v.start+Qs2 v.shape v.choice)=v.start+Qs2 v.shape v.choice:=wr (by omega)
       rw [q1,q2]
       have:(v.limit - v.start != Qs2 v.shape v.choice)=(v.limit != v.start+Qs2 v.shape v.choice):=by
        rw [Bool.eq_iff_iff]
        simp only [bne_iff_ne]
        omega
       rw [this]
theorem over_eq {v:Job} (h1:(v.state==1)=false) (h2:(v.state==2)=false):(Qh8 v.state&&Qo4 v)=QS2 v:=by
 unfold QS2
 rw [h1,h2]
 have et:Qh2=QD1:=rfl
 have ee:Qh8=QG9:=rfl
 unfold Qo4
 rw [et,ee]
 simp only [cond_false,Bool.and_assoc]
theorem ref14_go (j:Job):∀ (l:List Dep) (i:Nat),QI5 j l i=bif l.any (fun y=>decide (y.job >= j.id)) then 140 else (bif !(QS2 j) then 140 else 0)
 | [],i=>rfl
 | x :: r,i=>by
  rw [QI5,List.any_cons]
  cases decide (x.job >= j.id) with
  | true=>rfl
  | false=>simpa using ref14_go j r (i+1)
theorem job_eq (j:Job) (hn:U64 j.nodes):Q61 j=Qp8 j:=by
 unfold Q61 Qp8
 rw [ref14_go,any_Dep]
 have es:Q44 (Qn0 j)=Qb5 ⟨1,0,j.name,j.user,j.account,j.shape,j.prio,true,0,false,j.after,0,0,0⟩:=submission_eq _ _ _ _ _ _
 rw [es]
 have et:Qh2=QD1:=rfl
 rw [et]
 have eu:(j.used != Qh4 j.used)=(decide (j.used<0)||decide (j.used > 1000000000000)):=by
  unfold Qh4 QN5
  grind
 rw [eu]
 have est:(bif (j.state==1) then (bif (!(Ql2 j)) then (140:Int) else 0) else bif (j.state==2) then (bif (!(Qk1 j)) then 140 else 0) else bif (!(Qh8 j.state)) then 140 else bif (!(Qo4 j)) then 140 else 0)=(bif !(QS2 j) then 140 else 0):=by
  cases h1:(j.state==1) with
  | true =>
   rw [queued_eq (by simpa using h1)]
   rfl
  | false =>
   cases h2:(j.state==2) with
   | true =>
    rw [running_eq (by simpa using h2) hn]
    rfl
   | false =>
    rw [← over_eq h1 h2]
    cases Qh8 j.state <;> cases Qo4 j <;> rfl
 rw [est]
 generalize (bif !(QS2 j) then (140:Int) else 0)=Z
 generalize (List.any j.after fun y=>decide (y.job >= j.id))=A
 generalize ((Qb5 ⟨1,0,j.name,j.user,j.account,j.shape,j.prio,true,0,false,j.after,0,0,0⟩)!=0)=B
 generalize decide (j.id<1)=C
 generalize decide (j.id > 99999)=D
 generalize QD1 j.born=E
 generalize decide (j.used<0)=F
 generalize decide (j.used > 1000000000000)=G
 cases A <;> cases B <;> cases C <;> cases D <;> cases E <;> cases F <;> cases G <;> rfl
theorem table_eq (l:List Job) (hl:l.length<=4294967296) (hn:∀ x ∈ l,U64 x.nodes):QW1 l=Qq8 l:=by
 have h:=ord_eq Job.zero (·.id) (fun x=>Q61 x != 0) 140 40 l hl (QW4 l) QJ5 (fun _=>rfl) (fun _ _ _ _=>rfl) (fun _ _=>rfl) (fun x hx r last i _=>by
   rw [QJ5,job_eq x (hn x hx)]
   rfl) (fun x hx=>(Q59 (by simpa using hx)).1) l 0 0 (by simp) (by omega) (by omega) (fun _=>rfl) (fun h=>absurd h (by omega))
 unfold QW1 Qq8
 rw [← h]
 have e:decide ((l.length:Int) > 40)=decide (l.length > 40):=by rw [Bool.eq_iff_iff];simp only [decide_eq_true_eq];omega
 rw [e]
theorem room_eq (s:State) (hs:s.sz) (hn:∀ x ∈ s.jobs,U64 x.nodes):Qt2 s=Qt8 s:=by
 unfold Qt2 Qt8
 rw [QE5,table_eq s.jobs hs.2.1 hn,book_Check_eq s.books hs.2.2.2.2.1]
 unfold QD1
 have:(decide (s.now<0)||decide (s.now > 1000000)) = !(decide (s.now >= 0)&&decide (s.now<=1000000)):=by
  rw [Bool.eq_iff_iff]
  simp only [Bool.or_eq_true,decide_eq_true_eq,Bool.not_eq_true',Bool.and_eq_false_iff,decide_eq_false_iff_not]
  omega
 rw [this]
theorem plan_eq (s:State) (hs:s.sz) (hn:∀ x ∈ s.jobs,U64 x.nodes):Qr2 s=Qa6 s:=by
 unfold Qr2 Qa6
 rw [room_eq s hs hn,Qgf s.ledger hs.2.2.2.2.2.1]
theorem pow_step (i:Nat) (h:i<63):wu64 ((2:Int) ^ i*2)=(2:Int) ^ (i+1):=by
 rw [← Int.pow_succ]
 exact QN7 (pow_U (by omega))
theorem bit09_go (n:Nat) (hn:n<=63):∀ (m i:Nat),i<=n->n - i<m->(Qe5 (n:Int) m ((2:Int) ^ i) i).1=(2:Int) ^ n
 | 0,_,_,h=>absurd h (by omega)
 | m+1,i,hi,hm=>by
  rw [Qe5]
  rcases Nat.lt_or_ge i n with h|h
  ·rw [decide_eq_true (show (i:Int)<(n:Int) by omega),pow_step i (by omega)]
   exact bit09_go n hn m (i+1) (by omega) (by omega)
  ·obtain rfl:i=n:=by omega
   rw [decide_eq_false (by omega)]
   rfl
theorem bit09 (n:Nat) (hn:n<=63):QH5 (n:Int)=(2:Int) ^ n:=by
 unfold QH5 Qo6
 have:=bit09_go n hn (Int.toNat ((n:Int) - (0:Int))+1) 0 (by omega) (by omega)
 simpa using this
theorem bit12_go (n:Nat) (hn:n<=63):∀ (m i:Nat),i<=n->n - i<m->(Qg5 (n:Int) m ((2:Int) ^ i) i).1=(2:Int) ^ n
 | 0,_,_,h=>absurd h (by omega)
 | m+1,i,hi,hm=>by
  rw [Qg5]
  rcases Nat.lt_or_ge i n with h|h
  ·rw [decide_eq_true (show (i:Int)<(n:Int) by omega),Int.mul_comm,pow_step i (by omega)]
   exact bit12_go n hn m (i+1) (by omega) (by omega)
  ·obtain rfl:i=n:=by omega
   rw [decide_eq_false (by omega)]
   rfl
theorem bit12 (n:Nat) (hn:n<=63):Qb9 (n:Int)=(2:Int) ^ n:=by
 unfold Qb9 Qp6
 have:=bit12_go n hn (Int.toNat ((n:Int) - (0:Int))+1) 0 (by omega) (by omega)
 simpa using this
theorem has_eq {s:Int} (hs:U64 s) (n:Nat):QC4 s (n:Int)=Qu0 s (n:Int):=by
 rw [QH2 hs]
 unfold QC4
 rcases Nat.lt_or_ge n 64 with h|h
 ·rw [decide_eq_false (show ¬ (n:Int)<0 by omega),decide_eq_false (show ¬ (n:Int) > 63 by omega),decide_eq_true h,bit09 n (by omega)]
  simp only [Bool.or_false,cond_false,Bool.true_and]
  obtain ⟨q,rfl⟩:∃ q:Nat,s=(q:Int):=⟨s.toNat,by unfold U64 at hs;omega⟩
  obtain ⟨p,e,e'⟩:=QF7 n
  have e1:Int.tdiv (q:Int) (p:Int)=((q / p:Nat):Int):=rfl
  have hq:q / p<18446744073709551616:=by
   have:=Nat.div_le_self q p
   unfold U64 at hs
   omega
  rw [e,e1,tb,Int.toNat_natCast,Nat.testBit_eq_decide_div_mod_eq,e']
  generalize q / p=w at *
  rw [QN7 ⟨by omega,by omega⟩]
  have e2 : Int.tmod (w : Int) 2 = ((w % 2 : Nat) : Int) := rfl
  rw [e2,Bool.eq_iff_iff]
  simp
  omega
 ·rw [decide_eq_true (show (n:Int) > 63 by omega),decide_eq_false (show ¬ n<64 by omega)]
  simp
theorem of_go (job st:Int) (l:List Node) (hl:l.length<=64):∀ (r:List Node) (i:Nat),r=l.drop i->i+r.length=l.length ->
  (Qf5 job st r (QF2 (fun k=>((l.getD k Node.zero).job==job)&&((l.getD k Node.zero).state==st)) i) i).1=QF2 (fun k=>((l.getD k Node.zero).job==job)&&((l.getD k Node.zero).state==st)) l.length
 | [],i,hr,hlen=>by
  have:i=l.length:=by simpa using hlen
  subst this
  rfl
 | x :: r,i,hr,hlen=>by
  simp only [List.length_cons] at hlen
  have hr':r=l.drop (i+1):=by rw [← List.drop_drop,← hr];rfl
  have hi:l[i]? = some x:=by
   have:=congrArg (fun q=>q[0]?) hr
   simpa [List.getElem?_drop] using this.symm
  have hg:l.getD i Node.zero=x:=by simp [List.getD,hi]
  have ih:=of_go job st l hl r (i+1) hr' (by omega)
  rw [Qf5]
  rw [QF2,hg] at ih
  cases hc:((x.job==job)&&(x.state==st)) with
  | true =>
   rw [hc] at ih
   simp only [cond_true] at ih ⊢
   have hlt:=Qo9 (fun k=>((l.getD k Node.zero).job==job)&&((l.getD k Node.zero).state==st)) i
   have hu:U64 (QF2 (fun k=>((l.getD k Node.zero).job==job)&&((l.getD k Node.zero).state==st)) i+(2:Int) ^ i):=by
    have:=bitsUpto_U (fun k=>((l.getD k Node.zero).job==job)&&((l.getD k Node.zero).state==st)) (n:=i+1) (by omega)
    rw [QF2] at this
    simp only [hg,hc,cond_true] at this
    exact this
   rw [bit12 i (by omega),QN7 hu]
   exact ih
  | false =>
   rw [hc] at ih
   exact ih
theorem of_eq (l:List Node) (job st:Int):Qx6 l job st=QE6 l job st:=by
 unfold QE6
 rw [← QE5]
 cases hc:(Qa0 l != 0) with
 | true =>
  unfold Qx6 Qa1
  rw [hc]
  rfl
 | false =>
  have hz:Qa0 l=0:=by simpa using hc
  have hl:l.length<=64:=by
   unfold Qa0 at hz
   cases h1:(((decide ((l.length:Int)<1))||(decide ((l.length:Int) > 48)))||(QF0 l (fun (y:Node)=>(!(QP0 y))))) with
   | true=>rw [h1] at hz;cases hz
   | false =>
    have:=of_decide_eq_false (or_f (or_f h1).1).2
    omega
  obtain ⟨u,b⟩:=QW5 l (fun (y:Node)=>((y.job==job)&&(y.state==st))) hz hl
  have h:=of_go job st l hl l 0 (by simp) (by omega)
  simp only [cond_false,Q96]
  rw [QF2] at h
  rw [h]
  refine QRf u (bitsUpto_U _ hl) fun k _=>?_
  rw [tb_upto]
  exact b k
theorem Qoe (s:State) (is:Int->Node->Bool) (hl:s.nodes.length<=64):U64 (QC2 s is) ∧ ∀ k,tb (QC2 s is) k=(decide (k<s.nodes.length)&&is (k:Int) (s.nodes.getD k Node.zero)):=by
 have e:QC2 s is=(QH0 (idxL (fun k x=>is (k:Int) x) s.nodes 0)).1:=by
  unfold QC2 QZ3
  rw [Qxe (fun k x=>is (k:Int) x) (QR5 is) (fun _ _=>rfl) (fun _ _ _ _=>rfl),List.nil_append]
 rw [e]
 exact set_where (fun k x=>is (k:Int) x) Node.zero s.nodes hl
theorem list_go {s:Int} (hs:U64 s):∀ (m:Nat) (out:List Int) (i:Nat),i<=64->64 - i<m->QA1 s m out i=out++((List.range' i (64 - i)).filter (tb s)).map fun (k:Nat)=>(k:Int)
 | 0,_,_,_,h=>absurd h (by omega)
 | m+1,out,i,hi,hm=>by
  rw [QA1]
  rcases Nat.lt_or_ge i 64 with h|h
  ·have e:64 - i=(64 - (i+1))+1:=by omega
   rw [decide_eq_true (show (i:Int)<64 by omega),and_one hs h,e,List.range'_succ,List.filter_cons]
   cases tb s i with
   | true =>
    simp only [cond_true,if_true,List.map_cons]
    rw [list_go hs m _ (i+1) (by omega) (by omega),List.append_assoc]
    rfl
   | false =>
    simp only [cond_true,cond_false]
    rw [list_go hs m _ (i+1) (by omega) (by omega)]
    rfl
  ·rw [decide_eq_false (show ¬ (i:Int)<64 by omega),show 64 - i=0 by omega]
   simp
theorem list_mem {s:Int} (hs:U64 s) (x:Int):x ∈ Qm0 s ↔ ∃ k:Nat,k<64∧tb s k=true∧x=(k:Int):=by
 unfold Qm0 QK2
 rw [list_go hs _ [] 0 (by omega) (by omega)]
 simp only [List.nil_append,List.mem_map,List.mem_filter,List.mem_range']
 constructor
 ·rintro ⟨k,⟨⟨j,hj,rfl⟩,hb⟩,rfl⟩
  exact ⟨_,by omega,hb,rfl⟩
 ·rintro ⟨k,hk,hb,rfl⟩
  exact ⟨k,⟨⟨k,by omega,by omega⟩,hb⟩,rfl⟩
theorem quiet_go (l:List Node):∀ (r:List Int) (i:Nat),QD5 l r i=r.all fun x=>(decide (x<(l.length:Int)))&&((l.getD (Int.toNat x) Node.zero).want==0)
 | [],i=>rfl
 | x :: r,i=>by
  rw [QD5,List.all_cons,quiet_go l r]
  cases ((decide (x<(l.length:Int)))&&((l.getD (Int.toNat x) Node.zero).want==0)) <;> rfl
theorem quiet_iff {l:List Node} {s:Int} (hs:U64 s) (hc:Qa0 l=0):Q36 l s=true ↔ ∀ k,k<64->tb s k=true->k<l.length∧(l.getD k Node.zero).want=0:=by
 unfold Q36
 rw [hc,quiet_go]
 show (Qm0 s).all _=true ↔ _
 rw [List.all_eq_true]
 constructor
 ·intro h k hk hb
  have:=h (k:Int) ((list_mem hs _).2 ⟨k,hk,hb,rfl⟩)
  simp only [Bool.and_eq_true,decide_eq_true_eq,beq_iff_eq,Int.toNat_natCast] at this
  exact ⟨by omega,this.2⟩
 ·intro h x hx
  obtain ⟨k,hk,hb,rfl⟩:=(list_mem hs _).1 hx
  obtain ⟨h1,h2⟩:=h k hk hb
  simp only [Bool.and_eq_true,decide_eq_true_eq,beq_iff_eq,Int.toNat_natCast]
  exact ⟨by omega,h2⟩
theorem QNa {α β:Type} [BEq α] [LawfulBEq α] (k k':α) (v:β):∀ l:List (α × β),getM k (setM k' v l)=bif k==k' then some v else getM k l
 | []=>rfl
 | p :: r=>by
  rw [setM]
  cases hp:k'==p.1 with
  | true =>
   have e:=eq_of_beq hp
   simp only [cond_true,getM]
   rw [← e]
   cases k==k' <;> rfl
  | false =>
   simp only [cond_false,getM]
   rw [QNa k k' v r]
   cases hk:k==k' with
   | true =>
    have e:=eq_of_beq hk
    subst e
    rw [hp]
    rfl
   | false=>rfl
theorem QT7 (id:Int):∀ (l:List Job) (i:Nat) (c:List (Int × Job)),(∀ x ∈ l,x.state=2->x.id ≠ id)->getM id (Qy0 l i c)=getM id c
 | [],i,c,_=>rfl
 | x :: r,i,c,h=>by
  rw [Qy0]
  have ih:=fun c=>QT7 id r (i+1) c fun y hy=>h y (List.mem_cons_of_mem _ hy)
  cases hs:(x.state==2) with
  | false=>exact ih c
  | true =>
   have hne:=h x (List.mem_cons_self ..) (by simpa using hs)
   show getM id (Qy0 r (i+1) (setM x.id x c))=_
   have hb:(id==x.id)=false:=by simpa using Ne.symm hne
   rw [ih,QNa,hb]
   rfl
theorem Qw9 (x:Job) (hs:x.state=2):∀ (l:List Job) (i:Nat) (c:List (Int × Job)),x ∈ l->l.Pairwise (fun a b=>a.id<b.id)->getM x.id (Qy0 l i c)=some x
 | [],i,c,h,_=>nomatch h
 | y :: r,i,c,h,hp=>by
  obtain ⟨h1,h2⟩:=List.pairwise_cons.1 hp
  rw [Qy0]
  rcases List.mem_cons.1 h with rfl|h
  ·rw [beq_iff_eq.2 hs]
   show getM x.id (Qy0 r (i+1) (setM x.id x c))=_
   rw [QT7 x.id r (i+1) _ (fun z hz _=>by have:=h1 z hz;omega),QNa,beq_self_eq_true]
   rfl
  ·cases (y.state==2) with
   | true=>exact Qw9 x hs r (i+1) _ h h2
   | false=>exact Qw9 x hs r (i+1) _ h h2
theorem at_go (id:Int):∀ (l:List Job) (i:Nat),(∀ x ∈ l,x.id ≠ id)->QT2 id l i = -1
 | [],i,_=>rfl
 | x :: r,i,h=>by
  rw [QT2]
  have:(x.id==id)=false:=by simpa using h x (List.mem_cons_self ..)
  rw [this]
  exact at_go id r (i+1) fun y hy=>h y (List.mem_cons_of_mem _ hy)
theorem at_some (x:Job):∀ (l:List Job) (p i:Nat),l[p]? = some x->l.Pairwise (fun a b=>a.id<b.id)->QT2 x.id l i=((i+p:Nat):Int)
 | [],p,i,h,_=>by simp at h
 | y :: r,p,i,h,hp=>by
  obtain ⟨h1,h2⟩:=List.pairwise_cons.1 hp
  rw [QT2]
  rcases p with _|p
  ·simp at h
   subst h
   simp
  ·have hx:r[p]? = some x:=by simpa using h
   have:=h1 x (List.mem_of_getElem? hx)
   have hne:(y.id==x.id)=false:=by simp;omega
   rw [hne]
   show QT2 x.id r (i+1)=_
   rw [at_some x r p (i+1) hx h2]
   congr 1
   omega
theorem QI9 {s:State} (hp:s.jobs.Pairwise (fun a b=>a.id<b.id)) {x:Job} (hx:x ∈ s.jobs):Q50 s x.id=if x.state=2 then (x,true) else (Job.zero,false):=by
 obtain ⟨p,hpx⟩:=List.getElem?_of_mem hx
 unfold Q50 QZ5
 rw [at_some x s.jobs p 0 hpx hp,Nat.zero_add]
 have hg:s.jobs.getD p Job.zero=x:=by simp [List.getD,hpx]
 rw [Int.toNat_natCast,hg,decide_eq_false (show ¬ (p:Int)<0 by omega)]
 by_cases h:x.state=2
 ·simp [h]
 ·have:(x.state != 2)=true:=by simpa using h
  rw [this,if_neg h]
  rfl
theorem QAe {s:State} (id:Int) (h:∀ x ∈ s.jobs,x.id ≠ id):Q50 s id=(Job.zero,false):=by
 unfold Q50 QZ5
 rw [at_go id s.jobs 0 h]
 rfl
theorem run_get {s:State} (hp:s.jobs.Pairwise (fun a b=>a.id<b.id)) (id:Int):(getM id (Qy0 s.jobs 0 [])).isSome=(Q50 s id).2∧(getM id (Qy0 s.jobs 0 [])).getD Job.zero=(Q50 s id).1:=by
 by_cases h:∃ x ∈ s.jobs,x.id=id
 ·obtain ⟨x,hx,rfl⟩:=h
  rw [QI9 hp hx]
  by_cases hs:x.state=2
  ·rw [Qw9 x hs s.jobs 0 [] hx hp,if_pos hs]
   exact ⟨rfl,rfl⟩
  ·rw [QT7 x.id s.jobs 0 [],if_neg hs]
   ·exact ⟨rfl,rfl⟩
   ·intro y hy hys e
    obtain ⟨p,hpx⟩:=List.getElem?_of_mem hx
    obtain ⟨q,hqy⟩:=List.getElem?_of_mem hy
    rcases Nat.lt_trichotomy p q with h|h|h
    ·have:=Qk4 hp p q x y h hpx hqy;omega
    ·subst h;rw [hpx] at hqy;cases hqy;exact hs hys
    ·have:=Qk4 hp q p y x h hqy hpx;omega
 ·have h':∀ x ∈ s.jobs,x.id ≠ id:=fun x hx e=>h ⟨x,hx,e⟩
  rw [QAe id h',QT7 id s.jobs 0 [] (fun x hx _=>h' x hx)]
  exact ⟨rfl,rfl⟩
theorem Qab {s:Int} (hs:U64 s) {k:Nat} (hk:k<64):QT1 s (k:Int)=tb s k:=by
 unfold QT1
 rw [has_eq hs,QH2 hs,decide_eq_true hk,Bool.true_and]
theorem fine_one (x:Node) (hf:Qf4 x=true):(x.want=2->x.state=2)∧(x.want=4->x.state=1):=by
 obtain ⟨st,jb,ep,dr,wa,si,as_⟩:=x
 unfold Qf4 at hf
 dsimp only at hf ⊢
 cases h1:((((((decide (ep<0))||(decide (ep > 999999999)))||(decide (si<0)))||(decide (si > 1000000)))||(decide (as_<0)))||(decide (as_ > 1000000))) with
 | true=>rw [h1] at hf;cases hf
 | false =>
  rw [h1] at hf
  simp only [cond_false] at hf
  by_cases h0:st=0
  ·subst h0;simp at hf;omega
  by_cases h4:st=4
  ·subst h4;simp at hf;omega
  have e:((st==0)||(st==4))=false:=by simp [h0,h4]
  rw [e] at hf
  simp only [cond_false] at hf
  cases h2:((decide (jb<1))||(decide (jb > 99999))) with
  | true=>rw [h2] at hf;cases hf
  | false =>
   rw [h2] at hf
   simp only [cond_false] at hf
   by_cases q1:st=1
   ·subst q1;simp at hf;omega
   by_cases q2:st=2
   ·subst q2;simp at hf;omega
   by_cases q3:st=3
   ·subst q3;simp at hf;omega
   simp [q1,q2,q3] at hf
theorem Q6a {l:List Node} (h:Qa0 l=0):l.length<=48 ∧ ∀ x ∈ l,(x.want=2->x.state=2)∧(x.want=4->x.state=1):=by
 unfold Qa0 at h
 cases h1:(((decide ((l.length:Int)<1))||(decide ((l.length:Int) > 48)))||(QF0 l (fun (y:Node)=>(!(QP0 y))))) with
 | true=>rw [h1] at h;cases h
 | false =>
  obtain ⟨h2,h3⟩:=or_f h1
  have hl:=of_decide_eq_false (or_f h2).2
  rw [Qse] at h3
  refine ⟨by omega,fun x hx=>?_⟩
  have hf:Qf4 x=true:=by
   have:=List.any_eq_false.1 h3 x hx
   rw [fine_eq] at this
   simpa using this
  exact fine_one x hf
theorem job_shape {j:Job} (h:Q61 j=0):QU1 j.shape=0:=by
 unfold Q61 at h
 cases h1:((((((decide (j.id<1))||(decide (j.id > 99999)))||(!(Qh2 j.born)))||(j.used != (Qh4 j.used)))||((Q44 (Qn0 j))!=0))||(Qs0 j.after (fun (y:Dep)=>(decide (y.job >= j.id))))) with
 | true=>rw [h1] at h;cases h
 | false =>
  have hc:=(or_f (or_f h1).1).2
  have hc:Q44 (Qn0 j)=0:=by simpa using hc
  unfold Q44 at hc
  cases h2:((((decide (((Qn0 j).shape.alts.length:Int) > 6))||(decide (((Qn0 j).after.length:Int) > 4)))||(!(QA8 (Qn0 j))))||(!(QKa (Qn0 j) (QR7 (Qn0 j))))) with
  | true=>rw [h2] at hc;cases hc
  | false =>
   have hf:=(or_f (or_f h2).1).2
   have hf:QA8 (Qn0 j)=true:=by simpa using hf
   unfold QA8 Qn0 at hf
   simp at hf
   grind
def badB (s:State) (r:Resize) (k:Nat):Bool:=(tb r.said k && !tb r.nodes k)||(tb r.nodes k&&(((decide ((k:Int) >= (s.nodes.length:Int)))||((s.nodes.getD k Node.zero).job != r.job))||((s.nodes.getD k Node.zero).state==3)))
def finB (s:State) (r:Resize):Bool:=(Sum.elim id (fun p1:Int × Nat=>bif r.grow then
    (decide ((w64 (((Qb0 ((Q50 s r.job).1.nodes)).length:Int)+((Qb0 r.nodes).length:Int)))<=(Q50 s r.job).1.shape.max))
   else
    ((decide (p1.1 > 0))&&(decide ((w64 (((Qb0 ((Q50 s r.job).1.nodes)).length:Int) - ((Qb0 r.nodes).length:Int))) >= (Q50 s r.job).1.shape.min))))) (Qm1 r s.nodes 0 0)
theorem g1_iff (s:State) (r:Resize) (hn:U64 r.nodes) (hs:U64 r.said):∀ (m n:Nat),n<=64->64 - n<m->(Qg4 s r m n=true ↔ (∀ k,n<=k->k<64->badB s r k=false)∧finB s r=true)
 | 0,_,_,h=>absurd h (by omega)
 | m+1,n,hn64,hm=>by
  rw [Qg4]
  rcases Nat.lt_or_ge n 64 with h|h
  ·rw [decide_eq_true (show (n:Int)<64 by omega),Qab hn h,Qab hs h]
   have ih:=g1_iff s r hn hs m (n+1) (by omega) (by omega)
   show (bif (badB s r n) then false else Qg4 s r m (n+1))=true ↔ _
   cases hb:badB s r n with
   | true =>
    refine ⟨fun h=>(by cases h),fun h'=>?_⟩
    have:=h'.1 n (Nat.le_refl _) h
    rw [hb] at this
    cases this
   | false =>
    simp only [cond_false]
    rw [ih]
    refine ⟨fun h'=>⟨fun k hk hk2=>?_,h'.2⟩,fun h'=>⟨fun k hk hk2=>h'.1 k (by omega) hk2,h'.2⟩⟩
    rcases Nat.eq_or_lt_of_le hk with h1|h1
    ·rw [← h1];exact hb
    ·exact h'.1 k h1 hk2
  ·rw [decide_eq_false (show ¬ (n:Int)<64 by omega)]
   show finB s r=true ↔ _
   exact ⟨fun h'=>⟨fun k hk hk2=>absurd hk2 (by omega),h'⟩,fun h'=>h'.2⟩
theorem g2_spec (r:Resize) (hn:U64 r.nodes):∀ (l:List Node) (left:Int) (n:Nat),n+l.length<=64->0<=left->left<=n ->
  (∀ v,Qm1 r l left n=Sum.inl v->v=false) ∧
  ((∃ p,Qm1 r l left n=Sum.inr p) ↔ ∀ (k:Nat) (x:Node),l[k]? = some x->x.job=r.job->x.state ≠ 3->QB2 x ((n+k:Nat):Int) r=true) ∧
  (∀ p,Qm1 r l left n=Sum.inr p->left<=p.1∧(left<p.1 ↔ ∃ (k:Nat) (x:Node),l[k]? = some x∧x.job=r.job∧x.state=1∧tb r.nodes (n+k)=false))
 | [],left,n,_,_,_=>by
  rw [Qm1]
  refine ⟨fun v h=>(by cases h),⟨fun _ k x h=>by simp at h,fun _=>⟨_,rfl⟩⟩,fun p h=>?_⟩
  cases h
  refine ⟨Int.le_refl _,⟨fun h=>absurd h (Int.lt_irrefl _),fun ⟨k,x,h,_⟩=>by simp at h⟩⟩
 | x :: l,left,n,hlen,h0,hle=>by
  simp only [List.length_cons] at hlen
  rw [Qm1]
  have sh:∀ (k:Nat),((n+(k+1):Nat):Int)=((n+1+k:Nat):Int):=fun k=>by congr 1;omega
  have sh':∀ (k:Nat),n+(k+1)=n+1+k:=fun k=>by omega
  cases hc:((x.job != r.job)||(x.state==3)) with
  | true =>
   simp only [cond_true]
   have hskip:¬ (x.job=r.job∧x.state ≠ 3):=by
    rintro ⟨h1,h2⟩
    rw [h1] at hc
    simp at hc
    exact h2 hc
   obtain ⟨a,b,c⟩:=g2_spec r hn l left (n+1) (by omega) h0 (by omega)
   refine ⟨a,b.trans ⟨fun h k y hk h1 h2=>?_,fun h k y hk h1 h2=>?_⟩,fun p hp=>⟨(c p hp).1,(c p hp).2.trans ⟨?_,?_⟩⟩⟩
   ·rcases k with _|k
    ·simp at hk;subst hk;exact absurd ⟨h1,h2⟩ hskip
    ·rw [sh];exact h k y (by simpa using hk) h1 h2
   ·rw [← sh];exact h (k+1) y (by simpa using hk) h1 h2
   ·rintro ⟨k,y,hk,h1,h2,h3⟩
    exact ⟨k+1,y,by simpa using hk,h1,h2,by rw [sh'];exact h3⟩
   ·rintro ⟨k,y,hk,h1,h2,h3⟩
    rcases k with _|k
    ·simp at hk;subst hk;exact absurd ⟨h1,by omega⟩ hskip
    ·exact ⟨k,y,by simpa using hk,h1,h2,by rw [← sh'];exact h3⟩
  | false =>
   have hj:x.job=r.job∧x.state ≠ 3:=by
    obtain ⟨h1,h2⟩:=or_f hc
    exact ⟨by simpa using h1,by simpa using h2⟩
   simp only [cond_false]
   cases hm:QB2 x (n:Int) r with
   | false =>
    refine ⟨fun v h=>(by cases h;rfl),⟨fun ⟨p,h⟩=>(by cases h),fun h=>?_⟩,fun p h=>(by cases h)⟩
    have:=h 0 x rfl hj.1 hj.2
    rw [Nat.add_zero,hm] at this
    cases this
   | true =>
    rw [Qab hn (show n<64 by omega)]
    have hw:w64 (left+1)=left+1:=wr (by omega)
    simp only [Bool.not_true,cond_false]
    have mv':(∀ (k:Nat) (y:Node),l[k]? = some y->y.job=r.job->y.state ≠ 3->QB2 y ((n+1+k:Nat):Int) r=true) ↔ ∀ (k:Nat) (y:Node),(x :: l)[k]? = some y->y.job=r.job->y.state ≠ 3->QB2 y ((n+k:Nat):Int) r=true:=by
     constructor
     ·intro h k y hk h1 h2
      rcases k with _|k
      ·simp at hk;subst hk;rw [Nat.add_zero];exact hm
      ·rw [sh];exact h k y (by simpa using hk) h1 h2
     ·intro h k y hk h1 h2
      rw [← sh];exact h (k+1) y (by simpa using hk) h1 h2
    cases hl:((x.state==1)&&(!(tb r.nodes n))) with
    | true =>
     simp only [cond_true]
     rw [hw]
     obtain ⟨a,b,c⟩:=g2_spec r hn l (left+1) (n+1) (by omega) (by omega) (by omega)
     refine ⟨a,b.trans mv',fun p hp=>?_⟩
     obtain ⟨c1,_⟩:=c p hp
     refine ⟨by omega,⟨fun _=>⟨0,x,rfl,hj.1,?_,?_⟩,fun _=>by omega⟩⟩
     ·simp only [Bool.and_eq_true,beq_iff_eq] at hl
      exact hl.1
     ·simp only [Bool.and_eq_true,Bool.not_eq_true'] at hl
      exact hl.2
    | false =>
     simp only [cond_false]
     obtain ⟨a,b,c⟩:=g2_spec r hn l left (n+1) (by omega) h0 (by omega)
     refine ⟨a,b.trans mv',fun p hp=>⟨(c p hp).1,(c p hp).2.trans ⟨?_,?_⟩⟩⟩
     ·rintro ⟨k,y,hk,h1,h2,h3⟩
      exact ⟨k+1,y,by simpa using hk,h1,h2,by rw [sh'];exact h3⟩
     ·rintro ⟨k,y,hk,h1,h2,h3⟩
      rcases k with _|k
      ·simp at hk
       subst hk
       rw [Nat.add_zero] at h3
       rw [h2,h3] at hl
       cases hl
      ·exact ⟨k,y,by simpa using hk,h1,h2,by rw [← sh'];exact h3⟩
section
variable (s:State) (r:Resize) (j:Job)
def AskP (c:Int):Prop:=∀ k,k<64->((k<s.nodes.length∧(s.nodes.getD k Node.zero).job=r.job∧(s.nodes.getD k Node.zero).want=c) ↔ (tb r.nodes k=true∧tb r.said k=false))
def QuiP:Prop:=∀ k,k<64->tb r.said k=true->k<s.nodes.length∧(s.nodes.getD k Node.zero).want=0
def SubP:Prop:=∀ k,k<64->tb r.said k=true->tb r.nodes k=true
def SameP:Prop:=∀ k,k<64->(tb r.nodes k=true ↔ (k<s.nodes.length∧(s.nodes.getD k Node.zero).job=r.job∧(s.nodes.getD k Node.zero).state=2))
def InP:Prop:=∀ k,k<64->tb r.nodes k=true->tb j.nodes k=true
def BaseP:Prop:=j.shape.kind=3∧r.nodes ≠ 0∧0<=r.since∧r.since<=1000000
def GrowP:Prop:=w64 ((Q40 j.nodes)+(Q40 r.nodes))<=j.shape.max
def ShrP:Prop:=w64 ((Q40 j.nodes) - (Q40 r.nodes)) >= j.shape.min
theorem Ql9 {x y:Int} (hx:U64 x) (hy:U64 y):((wu64 (BitVec.ofInt 64 x &&& ~~~(BitVec.ofInt 64 y)).toNat)==0)=true ↔ ∀ k,k<64->tb x k=true->tb y k=true:=by
 rw [Qqb (Qz8 _)]
 refine ⟨fun h k hk hb=>?_,fun h k hk=>?_⟩
 ·have:=h k hk
  rw [QS5 hx hy,hb] at this
  simpa using this
 ·rw [QS5 hx hy]
  cases hb:tb x k with
  | false=>rfl
  | true=>rw [h k hk hb];rfl
theorem ask_iff (hn:U64 r.nodes) (hs:U64 r.said) (hl:s.nodes.length<=64) (c:Int) :
  (QC2 s (fun (y:Int) (y1:Node)=>((y1.job==r.job)&&(y1.want==c)))=wu64 (BitVec.ofInt 64 r.nodes &&& ~~~(BitVec.ofInt 64 r.said)).toNat) ↔ AskP s r c:=by
 obtain ⟨u,b⟩:=Qoe s (fun (y:Int) (y1:Node)=>((y1.job==r.job)&&(y1.want==c))) hl
 have key:∀ k,(tb (QC2 s (fun (y:Int) (y1:Node)=>((y1.job==r.job)&&(y1.want==c)))) k=tb (wu64 (BitVec.ofInt 64 r.nodes &&& ~~~(BitVec.ofInt 64 r.said)).toNat) k) ↔ ((k<s.nodes.length∧(s.nodes.getD k Node.zero).job=r.job∧(s.nodes.getD k Node.zero).want=c) ↔ (tb r.nodes k=true∧tb r.said k=false)):=by
  intro k
  rw [b,QS5 hn hs,Bool.eq_iff_iff]
  simp
 constructor
 ·intro h k hk
  exact (key k).1 (by rw [h])
 ·intro h
  exact QRf u (Qz8 _) fun k hk=>(key k).2 (h k hk)
theorem same_iff (hn:U64 r.nodes) (hc:Qa0 s.nodes=0) (hl:s.nodes.length<=64):(r.nodes=Qx6 s.nodes r.job 2) ↔ SameP s r:=by
 obtain ⟨u,b⟩:=QW5 s.nodes (fun (y:Node)=>((y.job==r.job)&&(y.state==2))) hc hl
 have key:∀ k,(tb r.nodes k=tb (Qx6 s.nodes r.job 2) k) ↔ (tb r.nodes k=true ↔ (k<s.nodes.length∧(s.nodes.getD k Node.zero).job=r.job∧(s.nodes.getD k Node.zero).state=2)):=by
  intro k
  unfold Qx6
  rw [b,Bool.eq_iff_iff]
  simp
 constructor
 ·intro h k hk
  exact (key k).1 (by rw [← h])
 ·intro h
  exact QRf hn u fun k hk=>(key k).2 (h k hk)
theorem prog_iff (hn:U64 r.nodes) (hs:U64 r.said) (hj:U64 j.nodes) (hc:Qa0 s.nodes=0) (hl:s.nodes.length<=64) :
  Qf3 s r j=true ↔ BaseP r j∧SubP r∧QuiP s r∧(if r.grow=true then AskP s r 2∧SameP s r∧GrowP r j else AskP s r 4∧InP r j∧ShrP r j):=by
 have k1:∀ c,Qm5 s r j c=true ↔ AskP s r c∧QuiP s r∧(if r.grow=true then SameP s r∧GrowP r j else InP r j∧ShrP r j):=by
  intro c
  unfold Qm5
  cases hcnd:(((QC2 s (fun (y:Int) (y1:Node)=>((y1.job==r.job)&&(y1.want==c))))!=(wu64 (BitVec.ofInt 64 r.nodes &&& ~~~(BitVec.ofInt 64 r.said)).toNat))||(!(Q36 s.nodes r.said))) with
  | true =>
   refine ⟨fun h=>(by cases h),fun ⟨h1,h2,_⟩=>?_⟩
   have e1:=(ask_iff s r hn hs hl c).2 h1
   have e2:=(quiet_iff hs hc).2 h2
   rw [e1,e2] at hcnd
   simp at hcnd
  | false =>
   obtain ⟨h1,h2⟩:=or_f hcnd
   have e1:AskP s r c:=(ask_iff s r hn hs hl c).1 (by simpa using h1)
   have e2:QuiP s r:=(quiet_iff hs hc).1 (by simpa using h2)
   simp only [cond_false]
   cases hg:r.grow with
   | true =>
    simp only [cond_true,Bool.and_eq_true,beq_iff_eq,decide_eq_true_eq,if_true]
    rw [same_iff s r hn hc hl]
    exact ⟨fun h=>⟨e1,e2,h⟩,fun h=>h.2.2⟩
   | false =>
    simp only [cond_false,Bool.and_eq_true,decide_eq_true_eq]
    rw [Ql9 hn hj]
    exact ⟨fun h=>⟨e1,e2,h⟩,fun h=>h.2.2⟩
 unfold Qf3
 cases hcnd:(((((j.shape.kind != 3)||(r.nodes==0))||((wu64 (BitVec.ofInt 64 r.said &&& ~~~(BitVec.ofInt 64 r.nodes)).toNat)!=0))||(decide (r.since<0)))||(decide (r.since > 1000000))) with
 | true =>
  refine ⟨fun h=>(by cases h),fun ⟨⟨h1,h2,h3,h4⟩,h5,_⟩=>?_⟩
  have e1:=(Ql9 hs hn).2 h5
  have e1':((wu64 (BitVec.ofInt 64 r.said &&& ~~~(BitVec.ofInt 64 r.nodes)).toNat)!=0)=false:=by unfold bne;rw [e1];rfl
  rw [h1,e1',decide_eq_false (by omega),decide_eq_false (by omega)] at hcnd
  simp at hcnd
  exact absurd hcnd h2
 | false =>
  obtain ⟨h1,h2⟩:=or_f hcnd
  obtain ⟨h3,h4⟩:=or_f h1
  obtain ⟨h5,h6⟩:=or_f h3
  obtain ⟨h7,h8⟩:=or_f h5
  have b:BaseP r j:=⟨by simpa using h7,by simpa using h8,by have:=of_decide_eq_false h4;omega,by have:=of_decide_eq_false h2;omega⟩
  have sb:SubP r:=(Ql9 hs hn).1 (by unfold bne at h6;simpa using h6)
  simp only [cond_false]
  cases hg:r.grow with
  | true =>
   simp only [cond_true]
   rw [k1,hg]
   simp only [if_true]
   exact ⟨fun ⟨a,q,c⟩=>⟨b,sb,q,a,c⟩,fun ⟨_,_,q,a,c⟩=>⟨a,q,c⟩⟩
  | false =>
   simp only [cond_false]
   rw [k1,hg]
   exact ⟨fun ⟨a,q,c⟩=>⟨b,sb,q,a,c⟩,fun ⟨_,_,q,a,c⟩=>⟨a,q,c⟩⟩
def OwnP:Prop:=∀ k,k<64->tb r.nodes k=true->k<s.nodes.length∧(s.nodes.getD k Node.zero).job=r.job∧(s.nodes.getD k Node.zero).state ≠ 3
def MovP:Prop:=∀ k,k<s.nodes.length->(s.nodes.getD k Node.zero).job=r.job->(s.nodes.getD k Node.zero).state ≠ 3->QB2 (s.nodes.getD k Node.zero) (k:Int) r=true
def LeftP:Prop:=∃ k,k<s.nodes.length∧(s.nodes.getD k Node.zero).job=r.job∧(s.nodes.getD k Node.zero).state=1∧tb r.nodes k=false
theorem get_iff {α:Type} (d:α) (l:List α) (p:Nat->α->Prop):(∀ (k:Nat) (x:α),l[k]? = some x->p k x) ↔ ∀ k,k<l.length->p k (l.getD k d):=by
 constructor
 ·intro h k hk
  exact h k _ (by simp [List.getD,List.getElem?_eq_getElem hk])
 ·intro h k x hx
  have hk:=(List.getElem?_eq_some_iff.1 hx).1
  have:=h k hk
  rw [List.getD,hx] at this
  exact this
theorem get_ex {α:Type} (d:α) (l:List α) (p:Nat->α->Prop):(∃ (k:Nat) (x:α),l[k]? = some x∧p k x) ↔ ∃ k,k<l.length∧p k (l.getD k d):=by
 constructor
 ·rintro ⟨k,x,hx,h⟩
  refine ⟨k,(List.getElem?_eq_some_iff.1 hx).1,?_⟩
  rw [List.getD,hx]
  exact h
 ·rintro ⟨k,hk,h⟩
  exact ⟨k,_,by simp [List.getD,List.getElem?_eq_getElem hk],h⟩
theorem ref_iff (hn:U64 r.nodes) (hs:U64 r.said) (hj:U64 j.nodes) (hl:s.nodes.length<=64) (hrun:Q50 s r.job=(j,true)) :
  QI1 s r=true ↔ BaseP r j∧SubP r∧OwnP s r∧MovP s r∧(if r.grow=true then GrowP r j else LeftP s r∧ShrP r j):=by
 obtain ⟨g1,g2,g3⟩:=g2_spec r hn s.nodes 0 0 (by omega) (by omega) (by omega)
 have hmov:(∃ p,Qm1 r s.nodes 0 0=Sum.inr p) ↔ MovP s r:=by
  rw [g2]
  have:=get_iff Node.zero s.nodes (fun k x=>x.job=r.job->x.state ≠ 3->QB2 x ((0+k:Nat):Int) r=true)
  rw [this]
  unfold MovP
  simp only [Nat.zero_add]
 have hleft:∀ p,Qm1 r s.nodes 0 0=Sum.inr p->(decide (p.1 > 0)=true ↔ LeftP s r):=by
  intro p hp
  have:=(g3 p hp).2
  rw [decide_eq_true_eq,gt_iff_lt,this]
  have:=get_ex Node.zero s.nodes (fun k x=>x.job=r.job∧x.state=1∧tb r.nodes (0+k)=false)
  rw [this]
  unfold LeftP
  simp only [Nat.zero_add]
 have hfin:finB s r=true ↔ MovP s r∧(if r.grow=true then GrowP r j else LeftP s r∧ShrP r j):=by
  unfold finB
  rw [hrun]
  simp only
  rw [← Q1d hj,← Q1d hn]
  cases hg:Qm1 r s.nodes 0 0 with
  | inl v =>
   have hv:=g1 v hg
   subst hv
   refine ⟨fun h=>(by cases h),fun h=>?_⟩
   obtain ⟨p,hp⟩:=hmov.2 h.1
   rw [hg] at hp
   cases hp
  | inr p =>
   have hm:=hmov.1 ⟨p,hg⟩
   have hlp:=hleft p hg
   simp only [Sum.elim_inr]
   cases r.grow with
   | true =>
    simp only [cond_true,decide_eq_true_eq,if_true]
    exact ⟨fun h=>⟨hm,h⟩,fun h=>h.2⟩
   | false =>
    simp only [cond_false,Bool.and_eq_true]
    rw [hlp,decide_eq_true_eq]
    exact ⟨fun h=>⟨hm,h⟩,fun h=>h.2⟩
 have hbad:(∀ k,0<=k->k<64->badB s r k=false) ↔ SubP r∧OwnP s r:=by
  constructor
  ·intro h
   refine ⟨fun k hk hb=>?_,fun k hk hb=>?_⟩
   ·have:=(or_f (h k (Nat.zero_le _) hk)).1
    rw [hb] at this
    simpa using this
   ·have:=(or_f (h k (Nat.zero_le _) hk)).2
    rw [hb] at this
    simp only [Bool.true_and] at this
    obtain ⟨h1,h2⟩:=or_f this
    obtain ⟨h3,h4⟩:=or_f h1
    have h3:=of_decide_eq_false h3
    exact ⟨by omega,by simpa using h4,by simpa using h2⟩
  ·rintro ⟨h1,h2⟩ k _ hk
   unfold badB
   cases hb:tb r.nodes k with
   | true =>
    obtain ⟨q1,q2,q3⟩:=h2 k hk hb
    have q3':((s.nodes.getD k Node.zero).state==3)=false:=beq_eq_false_iff_ne.2 q3
    rw [q2,decide_eq_false (by omega),q3']
    simp
   | false =>
    cases ha:tb r.said k with
    | true=>rw [h1 k hk ha] at hb;cases hb
    | false=>rfl
 have hg1:=g1_iff s r hn hs ((Int.toNat (64 - (0:Int)))+1) 0 (by omega) (by omega)
 unfold QI1
 rw [hrun]
 simp only
 cases hcnd:(((((!true)||(j.shape.kind != 3))||(r.nodes==0))||(decide (r.since<0)))||(decide (r.since > 1000000))) with
 | true =>
  refine ⟨fun h=>(by cases h),fun ⟨⟨h1,h2,h3,h4⟩,_⟩=>?_⟩
  rw [h1,decide_eq_false (by omega),decide_eq_false (by omega)] at hcnd
  simp at hcnd
  exact absurd hcnd h2
 | false =>
  obtain ⟨h1,h2⟩:=or_f hcnd
  obtain ⟨h3,h4⟩:=or_f h1
  obtain ⟨h5,h6⟩:=or_f h3
  have b:BaseP r j:=⟨by simpa using h5,by simpa using h6,by have:=of_decide_eq_false h4;omega,by have:=of_decide_eq_false h2;omega⟩
  simp only [cond_false]
  rw [hg1,hbad,hfin]
  exact ⟨fun ⟨⟨a,c⟩,d,e⟩=>⟨b,a,c,d,e⟩,fun ⟨_,a,c,d,e⟩=>⟨⟨a,c⟩,d,e⟩⟩
theorem Q9d (hn:U64 r.nodes) (hs:U64 r.said) (hg:r.grow=true) {k:Nat} (hk:k<64) (x:Node):QB2 x (k:Int) r=true ↔ (tb r.nodes k=true ↔ x.state=2)∧(tb r.nodes k=true->(tb r.said k=true∧x.want=0)∨(tb r.said k=false∧x.want=2)):=by
 unfold QB2
 rw [hg,Qab hn hk,Qab hs hk]
 simp only [cond_true]
 cases tb r.nodes k <;> cases tb r.said k <;> by_cases h:x.state=2 <;> simp [h]
theorem Qjf (hn:U64 r.nodes) (hs:U64 r.said) (hg:r.grow=false) {k:Nat} (hk:k<64) (x:Node):QB2 x (k:Int) r=true ↔ (tb r.nodes k=true->x.state=1)∧(tb r.nodes k=false->x.want ≠ 4)∧(tb r.nodes k=true->(tb r.said k=true∧x.want=0)∨(tb r.said k=false∧x.want=4)):=by
 unfold QB2
 rw [hg,Qab hn hk,Qab hs hk]
 simp only [cond_false]
 cases tb r.nodes k <;> cases tb r.said k <;> by_cases h:x.state=1 <;> by_cases h4:x.want=4 <;> simp [h,h4]
theorem resize_eq (hn:U64 r.nodes) (hs:U64 r.said) (hj:U64 j.nodes) (hc:Qa0 s.nodes=0) (hrun:Q50 s r.job=(j,true)) (hjc:Q61 j=0)
  (hb:∀ k,tb j.nodes k=true ↔ (k<s.nodes.length∧(s.nodes.getD k Node.zero).job=r.job∧(s.nodes.getD k Node.zero).state=1)):Qf3 s r j=QI1 s r:=by
 obtain ⟨hl48,hfw⟩:=Q6a hc
 have hl:s.nodes.length<=64:=by omega
 have hw:∀ k,k<s.nodes.length->((s.nodes.getD k Node.zero).want=2->(s.nodes.getD k Node.zero).state=2)∧((s.nodes.getD k Node.zero).want=4->(s.nodes.getD k Node.zero).state=1):=by
  intro k hk
  have hm:s.nodes.getD k Node.zero ∈ s.nodes:=by
   rw [List.getD,List.getElem?_eq_getElem hk]
   exact List.getElem_mem _
  exact hfw _ hm
 rw [Bool.eq_iff_iff,prog_iff s r j hn hs hj hc hl,ref_iff s r j hn hs hj hl hrun]
 cases hg:r.grow with
 | true =>
  simp only [if_true]
  constructor
  ·rintro ⟨hB,hS,hQ,hA,hSm,hG⟩
   refine ⟨hB,hS,fun k hk hkn=>?_,fun k hk h1 h2=>?_,hG⟩
   ·obtain ⟨a,b,c⟩:=(hSm k hk).1 hkn
    exact ⟨a,b,by omega⟩
   ·have hk64:k<64:=by omega
    rw [Q9d r hn hs hg hk64]
    refine ⟨⟨fun h=>((hSm k hk64).1 h).2.2,fun h=>(hSm k hk64).2 ⟨hk,h1,h⟩⟩,fun h=>?_⟩
    cases ha:tb r.said k with
    | true=>exact .inl ⟨rfl,(hQ k hk64 ha).2⟩
    | false=>exact .inr ⟨rfl,((hA k hk64).2 ⟨h,ha⟩).2.2⟩
  ·rintro ⟨hB,hS,hO,hM,hG⟩
   have mv:∀ k,k<64->tb r.nodes k=true->k<s.nodes.length∧(s.nodes.getD k Node.zero).job=r.job∧(s.nodes.getD k Node.zero).state=2∧((tb r.said k=true∧(s.nodes.getD k Node.zero).want=0)∨(tb r.said k=false∧(s.nodes.getD k Node.zero).want=2)):=by
    intro k hk h
    obtain ⟨a,b,c⟩:=hO k hk h
    obtain ⟨d,e⟩:=(Q9d r hn hs hg hk _).1 (hM k a b c)
    exact ⟨a,b,d.1 h,e h⟩
   have back:∀ k,k<s.nodes.length->(s.nodes.getD k Node.zero).job=r.job->(s.nodes.getD k Node.zero).state=2->tb r.nodes k=true:=by
    intro k hk h1 h2
    exact ((Q9d r hn hs hg (by omega) _).1 (hM k hk h1 (by omega))).1.2 h2
   refine ⟨hB,hS,fun k hk ha=>?_,fun k hk=>⟨fun ⟨a,b,c⟩=>?_,fun ⟨a,b⟩=>?_⟩,fun k hk=>⟨fun h=>?_,fun ⟨a,b,c⟩=>back k a b c⟩,hG⟩
   ·obtain ⟨a,b,c,d⟩:=mv k hk (hS k hk ha)
    rcases d with d|d
    ·exact ⟨a,d.2⟩
    ·rw [ha] at d;cases d.1
   ·have hin:=back k a b ((hw k a).1 c)
    refine ⟨hin,?_⟩
    obtain ⟨_,_,_,d⟩:=mv k hk hin
    rcases d with d|d
    ·omega
    ·exact d.1
   ·obtain ⟨p,q,_,d⟩:=mv k hk a
    rcases d with d|d
    ·rw [b] at d;cases d.1
    ·exact ⟨p,q,d.2⟩
   ·obtain ⟨a,b,c,_⟩:=mv k hk h
    exact ⟨a,b,c⟩
 | false =>
  have ef:(if false=true then GrowP r j else LeftP s r∧ShrP r j)=(LeftP s r∧ShrP r j):=by simp
  have ef':(if false=true then AskP s r 2∧SameP s r∧GrowP r j else AskP s r 4∧InP r j∧ShrP r j)=(AskP s r 4∧InP r j∧ShrP r j):=by simp
  rw [ef,ef']
  constructor
  ·rintro ⟨hB,hS,hQ,hA,hI,hSh⟩
   have inb:∀ k,k<64->tb r.nodes k=true->k<s.nodes.length∧(s.nodes.getD k Node.zero).job=r.job∧(s.nodes.getD k Node.zero).state=1:=fun k hk h=>(hb k).1 (hI k hk h)
   refine ⟨hB,hS,fun k hk hkn=>?_,fun k hk h1 h2=>?_,?_,hSh⟩
   ·obtain ⟨a,b,c⟩:=inb k hk hkn
    exact ⟨a,b,by omega⟩
   ·have hk64:k<64:=by omega
    rw [Qjf r hn hs hg hk64]
    refine ⟨fun h=>(inb k hk64 h).2.2,fun h h4=>?_,fun h=>?_⟩
    ·have:=((hA k hk64).1 ⟨hk,h1,h4⟩).1
     rw [h] at this
     cases this
    ·cases ha:tb r.said k with
     | true=>exact .inl ⟨rfl,(hQ k hk64 ha).2⟩
     | false=>exact .inr ⟨rfl,((hA k hk64).2 ⟨h,ha⟩).2.2⟩
   ·apply Classical.byContradiction
    intro hno
    have heq:j.nodes=r.nodes:=QRf hj hn fun k hk=>by
     rw [Bool.eq_iff_iff]
     refine ⟨fun h=>?_,fun h=>hI k hk h⟩
     obtain ⟨a,b,c⟩:=(hb k).1 h
     cases hx:tb r.nodes k with
     | true=>rfl
     | false=>exact absurd ⟨k,a,b,c,hx⟩ hno
    unfold ShrP at hSh
    rw [heq,Int.sub_self] at hSh
    have hz:w64 0=0:=wr (by omega)
    rw [hz] at hSh
    have hmin:=Qw8 (s:=j.shape) (by rw [job_shape hjc];rfl) (by rw [hB.1];rfl)
    omega
  ·rintro ⟨hB,hS,hO,hM,_,hSh⟩
   have mv:∀ k,k<64->tb r.nodes k=true->k<s.nodes.length∧(s.nodes.getD k Node.zero).job=r.job∧(s.nodes.getD k Node.zero).state=1∧((tb r.said k=true∧(s.nodes.getD k Node.zero).want=0)∨(tb r.said k=false∧(s.nodes.getD k Node.zero).want=4)):=by
    intro k hk h
    obtain ⟨a,b,c⟩:=hO k hk h
    obtain ⟨d,_,e⟩:=(Qjf r hn hs hg hk _).1 (hM k a b c)
    exact ⟨a,b,d h,e h⟩
   refine ⟨hB,hS,fun k hk ha=>?_,fun k hk=>⟨fun ⟨a,b,c⟩=>?_,fun ⟨a,b⟩=>?_⟩,fun k hk h=>?_,hSh⟩
   ·obtain ⟨a,b,c,d⟩:=mv k hk (hS k hk ha)
    rcases d with d|d
    ·exact ⟨a,d.2⟩
    ·rw [ha] at d;cases d.1
   ·have hst:=(hw k a).2 c
    obtain ⟨_,m2,_⟩:=(Qjf r hn hs hg hk _).1 (hM k a b (by omega))
    have hin:tb r.nodes k=true:=by
     cases hx:tb r.nodes k with
     | true=>rfl
     | false=>exact absurd c (m2 hx)
    refine ⟨hin,?_⟩
    obtain ⟨_,_,_,d⟩:=mv k hk hin
    rcases d with d|d
    ·omega
    ·exact d.1
   ·obtain ⟨p,q,_,d⟩:=mv k hk a
    rcases d with d|d
    ·rw [b] at d;cases d.1
    ·exact ⟨p,q,d.2⟩
   ·obtain ⟨a,b,c,_⟩:=mv k hk h
    exact (hb k).2 ⟨a,b,c⟩
end
theorem okloop (len:Nat) (c:Nat->Bool) (G:Nat->Bool->Nat->Bool × Nat) (g:∀ m ok i,G (m+1) ok i=bif ((decide ((i:Int)<(len:Int)))&&ok) then G m (c i) (i+1) else (ok,i)) :
  ∀ (m:Nat) (ok:Bool) (i:Nat),i<=len->len - i<m->((G m ok i).1=true ↔ ok=true ∧ ∀ k,i<=k->k<len->c k=true)
 | 0,_,_,_,h=>absurd h (by omega)
 | m+1,ok,i,hi,hm=>by
  rw [g]
  rcases Nat.lt_or_ge i len with h|h
  ·rw [decide_eq_true (show (i:Int)<(len:Int) by omega)]
   cases ok with
   | false=>exact ⟨fun h=>(by cases h),fun h=>(by cases h.1)⟩
   | true =>
    simp only [Bool.and_true,cond_true,true_and]
    rw [okloop len c G g m (c i) (i+1) (by omega) (by omega)]
    refine ⟨fun ⟨h1,h2⟩ k hk hk2=>?_,fun h'=>⟨h' i (Nat.le_refl _) h,fun k hk hk2=>h' k (by omega) hk2⟩⟩
    rcases Nat.eq_or_lt_of_le hk with h3|h3
    ·rw [← h3];exact h1
    ·exact h2 k h3 hk2
  ·rw [decide_eq_false (show ¬ (i:Int)<(len:Int) by omega)]
   exact ⟨fun h'=>⟨h',fun k hk hk2=>absurd hk2 (by omega)⟩,fun h'=>h'.1⟩
theorem last_job:∀ (l:List Job) (x:Int) (i:Nat),(QE1 l x i).1=QF1 l x i
 | [],_,_=>rfl
 | y :: r,x,i=>by rw [QE1,QF1];exact last_job r _ _
theorem last_book:∀ (l:List Book) (x:Int) (i:Nat),(QR3 l x i).1=QG1 l x i
 | [],_,_=>rfl
 | y :: r,x,i=>by rw [QR3,QG1];exact last_book r _ _
theorem next_eq (n l:Int):Qj1 n l=QS4 n l:=by
 unfold Qj1 QS4
 rw [Bool.eq_iff_iff]
 simp only [Bool.and_eq_true,decide_eq_true_eq]
 omega
def QFc (c:List (Int × Resize)) (l:List Resize):List (Int × Resize):=l.foldl (fun c r=>setM r.job r c) c
section
variable (s:State)
def rzP (c:List (Int × Job)) (k:Nat):Bool:=!(((!(getM (s.resizes.getD k Resize.zero).job c).isSome)||((decide ((k:Int) > 0))&&(decide ((s.resizes.getD (Int.toNat (w64 ((k:Int) - 1))) Resize.zero).job >= (s.resizes.getD k Resize.zero).job))))||(!(Qf3 s (s.resizes.getD k Resize.zero) ((getM (s.resizes.getD k Resize.zero).job c).getD Job.zero))))
def heldB (c:List (Int × Job)):Bool:=c.all (fun (en:Int × Job)=>(bif ((QO2 s.nodes en.1)!=en.2.nodes) then false else true))
theorem g4_iff (a b:Int) (c:List (Int × Job)):∀ (l:List Resize) (i:Nat) (c2:List (Int × Resize)),l=s.resizes.drop i->i+l.length=s.resizes.length ->
  (QH1 s a b c l i c2=0 ↔ (∀ k,i<=k->k<s.resizes.length->rzP s c k=true)∧Qj1 s.nextJob a=true∧Qj1 s.nextBook b=true∧QV2 s c (QFc c2 l)=true∧heldB s c=true) ∧
  (QH1 s a b c l i c2=0∨QH1 s a b c l i c2=141)
 | [],i,c2,hl,hlen=>by
  simp only [List.length_nil,Nat.add_zero] at hlen
  rw [QH1]
  show ((bif ((((!true)||(!(Qj1 s.nextJob a)))||(!(Qj1 s.nextBook b)))||(!(QV2 s c c2))) then (141:Int) else bif heldB s c then 0 else 141)=0 ↔ _)∧((bif ((((!true)||(!(Qj1 s.nextJob a)))||(!(Qj1 s.nextBook b)))||(!(QV2 s c c2))) then (141:Int) else bif heldB s c then 0 else 141)=0∨(bif ((((!true)||(!(Qj1 s.nextJob a)))||(!(Qj1 s.nextBook b)))||(!(QV2 s c c2))) then (141:Int) else bif heldB s c then 0 else 141)=141)
  have hv:(∀ k,i<=k->k<s.resizes.length->rzP s c k=true):=fun k h1 h2=>absurd h2 (by omega)
  show _∧_
  unfold QFc
  simp only [List.foldl_nil]
  cases Qj1 s.nextJob a <;> cases Qj1 s.nextBook b <;> cases QV2 s c c2 <;> cases heldB s c <;> first|(simp;done)|(simp;exact hv)
 | x :: r,i,c2,hl,hlen=>by
  simp only [List.length_cons] at hlen
  have hr':r=s.resizes.drop (i+1):=by rw [← List.drop_drop,← hl];rfl
  have hi:s.resizes[i]? = some x:=by
   have:=congrArg (fun q=>q[0]?) hl
   simpa [List.getElem?_drop] using this.symm
  have hg:s.resizes.getD i Resize.zero=x:=by rw [List.getD,hi];rfl
  rw [QH1]
  have hz:(((!(getM x.job c).isSome)||((decide ((i:Int) > 0))&&(decide ((s.resizes.getD (Int.toNat (w64 ((i:Int) - 1))) Resize.zero).job >= x.job))))||(!(Qf3 s x ((getM x.job c).getD Job.zero)))) = !(rzP s c i):=by
   unfold rzP
   rw [hg,Bool.not_not]
  rw [hz]
  obtain ⟨ih1,ih2⟩:=g4_iff a b c r (i+1) (setM x.job x c2) hr' (by omega)
  cases hq:rzP s c i with
  | false =>
   refine ⟨⟨fun h=>(by cases h),fun h=>?_⟩,.inr rfl⟩
   have:=h.1 i (Nat.le_refl _) (by omega)
   rw [hq] at this
   cases this
  | true =>
   simp only [Bool.not_true,cond_false]
   refine ⟨ih1.trans ?_,ih2⟩
   show _∧_∧_∧QV2 s c (QFc c2 (x :: r))=true∧_ ↔ _
   refine and_congr ⟨fun h k hk hk2=>?_,fun h k hk hk2=>h k (by omega) hk2⟩ Iff.rfl
   rcases Nat.eq_or_lt_of_le hk with h3|h3
   ·rw [← h3];exact hq
   ·exact h k h3 hk2
theorem setM_only {α β:Type} [BEq α] (k:α) (v:β):∀ (l:List (α × β)) (e:α × β),e ∈ setM k v l->e=(k,v)∨e ∈ l
 | [],e,h=>by simp [setM] at h;exact .inl h
 | p :: r,e,h=>by
  rw [setM] at h
  cases hk:k==p.1 with
  | true =>
   rw [hk] at h
   rcases List.mem_cons.1 h with h|h
   ·exact .inl h
   ·exact .inr (List.mem_cons_of_mem _ h)
  | false =>
   rw [hk] at h
   rcases List.mem_cons.1 h with h|h
   ·exact .inr (by rw [h];exact List.mem_cons_self ..)
   ·rcases setM_only k v r e h with h|h
    ·exact .inl h
    ·exact .inr (List.mem_cons_of_mem _ h)
theorem QAa:∀ (l:List Job) (i:Nat) (c:List (Int × Job)) (e:Int × Job),e ∈ Qy0 l i c->e ∈ c ∨ ∃ x ∈ l,x.state=2∧e=(x.id,x)
 | [],_,_,_,h=>.inl h
 | x :: r,i,c,e,h=>by
  rw [Qy0] at h
  cases hs:(x.state==2) with
  | true =>
   rw [hs] at h
   rcases QAa r (i+1) _ e h with h|⟨y,hy,q⟩
   ·rcases setM_only _ _ _ _ h with h|h
    ·exact .inr ⟨x,List.mem_cons_self ..,by simpa using hs,h⟩
    ·exact .inl h
   ·exact .inr ⟨y,List.mem_cons_of_mem _ hy,q⟩
  | false =>
   rw [hs] at h
   rcases QAa r (i+1) _ e h with h|⟨y,hy,q⟩
   ·exact .inl h
   ·exact .inr ⟨y,List.mem_cons_of_mem _ hy,q⟩
theorem held_iff (hp:s.jobs.Pairwise (fun a b=>a.id<b.id)) (hid:∀ x ∈ s.jobs,1<=x.id):heldB s (Qy0 s.jobs 0 [])=true ↔ ∀ x ∈ s.jobs,x.state=2->QE6 s.nodes x.id 1=x.nodes:=by
 have hh:∀ x ∈ s.jobs,QO2 s.nodes x.id=QE6 s.nodes x.id 1:=fun x hx=>by
  unfold QO2
  rw [decide_eq_false (by have:=hid x hx;omega),← of_eq]
  rfl
 unfold heldB
 rw [List.all_eq_true]
 constructor
 ·intro h x hx hs
  have:=h _ (Qe6 x s.jobs 0 [] (.inr ⟨hx,hs,hp⟩))
  simp only [hh x hx] at this
  cases hq:(QE6 s.nodes x.id 1 != x.nodes) with
  | false=>simpa using hq
  | true=>rw [hq] at this;cases this
 ·intro h e he
  rcases QAa s.jobs 0 [] e he with h'|⟨x,hx,hs,rfl⟩
  ·exact nomatch h'
  ·have:=h x hx hs
   simp only [hh x hx,this]
   simp
theorem Q4c (id:Int):∀ (l:List Resize) (c:List (Int × Resize)),(∀ x ∈ l,x.job ≠ id)->getM id (QFc c l)=getM id c
 | [],_,_=>rfl
 | x :: r,c,h=>by
  show getM id (QFc (setM x.job x c) r)=_
  have hb:(id==x.job)=false:=by simpa using Ne.symm (h x (List.mem_cons_self ..))
  rw [Q4c id r _ (fun y hy=>h y (List.mem_cons_of_mem _ hy)),QNa,hb]
  rfl
theorem all_of (id:Int):∀ (l:List Resize) (c:List (Int × Resize)) (i:Nat),l.Pairwise (fun a b=>a.job<b.job)->getM id c=none->(getM id (QFc c l)).getD Resize.zero=Qs3 id l i
 | [],c,i,_,hc=>by
  show (getM id c).getD Resize.zero=_
  rw [hc]
  rfl
 | x :: r,c,i,hp,hc=>by
  obtain ⟨h1,h2⟩:=List.pairwise_cons.1 hp
  show (getM id (QFc (setM x.job x c) r)).getD Resize.zero=_
  rw [Qs3]
  cases hx:x.job==id with
  | true =>
   have e:=eq_of_beq hx
   rw [Q4c id r _ (fun y hy=>by have:=h1 y hy;omega),QNa,← e,beq_self_eq_true]
   rfl
  | false =>
   have hb:(id==x.job)=false:=by
    have:x.job ≠ id:=by simpa using hx
    simpa using Ne.symm this
   exact all_of id r _ (i+1) h2 (by rw [QNa,hb];exact hc)
theorem nodes_iff (c:List (Int × Job)) (all_:List (Int × Resize)) (f:Nat->Bool):∀ (l:List Node) (i:Nat),l=s.nodes.drop i->i+l.length=s.nodes.length ->
  (∀ k,k<s.nodes.length->f k = !(((((s.nodes.getD k Node.zero).state==1)&&((!(getM (s.nodes.getD k Node.zero).job c).isSome)||(!(Qu0 (((getM (s.nodes.getD k Node.zero).job c).getD Job.zero).nodes) (k:Int)))))||(((s.nodes.getD k Node.zero).state==2)&&(!(getM (s.nodes.getD k Node.zero).job c).isSome)))||((((s.nodes.getD k Node.zero).state==2)||((s.nodes.getD k Node.zero).want==4))&&(!(Qu0 (((getM (s.nodes.getD k Node.zero).job all_).getD Resize.zero).nodes) (k:Int))))||(((s.nodes.getD k Node.zero).state==3)&&(decide ((s.nodes.getD k Node.zero).job >= s.nextJob))))) ->
  (QQ5 s c all_ l i=true ↔ ∀ k,i<=k->k<s.nodes.length->f k=true)
 | [],i,_,hlen,_=>by
  simp only [List.length_nil,Nat.add_zero] at hlen
  exact ⟨fun _ k h1 h2=>absurd h2 (by omega),fun _=>rfl⟩
 | x :: r,i,hl,hlen,hf=>by
  simp only [List.length_cons] at hlen
  have hr':r=s.nodes.drop (i+1):=by rw [← List.drop_drop,← hl];rfl
  have hi:s.nodes[i]? = some x:=by
   have:=congrArg (fun q=>q[0]?) hl
   simpa [List.getElem?_drop] using this.symm
  have hg:s.nodes.getD i Node.zero=x:=by rw [List.getD,hi];rfl
  have ih:=nodes_iff c all_ f r (i+1) hr' (by omega) hf
  have hfi:=hf i (by omega)
  rw [hg] at hfi
  rw [QQ5]
  have step:∀ A B C D:Bool,∀ Z:Bool,(bif A then false else bif B then false else bif C then false else bif D then false else Z)=(!((((A||B)||C)||D))&&Z):=by decide
  rw [step,← hfi]
  cases hq:f i with
  | false =>
   refine ⟨fun h=>(by cases h),fun h=>?_⟩
   have:=h i (Nat.le_refl _) (by omega)
   rw [hq] at this
   cases this
  | true =>
   simp only [Bool.true_and]
   rw [ih]
   refine ⟨fun h k hk hk2=>?_,fun h k hk hk2=>h k (by omega) hk2⟩
   rcases Nat.eq_or_lt_of_le hk with h3|h3
   ·rw [← h3];exact hq
   ·exact h k h3 hk2
theorem nodes_eq (hp:s.jobs.Pairwise (fun a b=>a.id<b.id)) (hz:s.resizes.Pairwise (fun a b=>a.job<b.job)) (hn:∀ x ∈ s.jobs,U64 x.nodes) (hr:∀ r ∈ s.resizes,U64 r.nodes) :
  QV2 s (Qy0 s.jobs 0 []) (QFc [] s.resizes)=true ↔ ∀ k,k<s.nodes.length->QC3 s (k:Int)=true:=by
 unfold QV2
 rw [nodes_iff s _ _ (fun k=>QC3 s (k:Int)) s.nodes 0 (by simp) (by omega) ?_]
 ·exact ⟨fun h k hk=>h k (Nat.zero_le _) hk,fun h k _ hk=>h k hk⟩
 ·intro k hk
  obtain ⟨q1,q2⟩:=run_get hp (s.nodes.getD k Node.zero).job
  have q3:(getM (s.nodes.getD k Node.zero).job (QFc [] s.resizes)).getD Resize.zero=Q05 s (s.nodes.getD k Node.zero).job:=all_of _ s.resizes [] 0 hz rfl
  have uj:U64 (Q50 s (s.nodes.getD k Node.zero).job).1.nodes:=by
   by_cases h:∃ x ∈ s.jobs,x.id=(s.nodes.getD k Node.zero).job
   ·obtain ⟨x,hx,e⟩:=h
    rw [← e,QI9 hp hx]
    split
    ·exact hn x hx
    ·exact .zero
   ·rw [QAe _ (fun x hx e=>h ⟨x,hx,e⟩)]
    exact .zero
  have ur:∀ id,U64 (Q05 s id).nodes:=by
   intro id
   unfold Q05
   have:∀ (l:List Resize) (i:Nat),(∀ r ∈ l,U64 r.nodes)->U64 (Qs3 id l i).nodes:=by
    intro l
    induction l with
    | nil=>exact fun _ _=>.zero
    | cons y t ih =>
     intro i h
     rw [Qs3]
     cases (y.job==id) with
     | true=>exact h y (List.mem_cons_self ..)
     | false=>exact ih (i+1) fun r hr=>h r (List.mem_cons_of_mem _ hr)
   exact this _ _ hr
  rw [q1,q2,q3]
  unfold QC3 QT1
  rw [Int.toNat_natCast,has_eq uj,has_eq (ur _)]
  generalize (s.nodes.getD k Node.zero).state=st
  generalize (Q50 s (s.nodes.getD k Node.zero).job).2=ru
  generalize Qu0 (Q50 s (s.nodes.getD k Node.zero).job).1.nodes (k:Int)=h1
  generalize Qu0 (Q05 s (s.nodes.getD k Node.zero).job).nodes (k:Int)=h2
  generalize decide ((s.nodes.getD k Node.zero).job >= s.nextJob)=dn
  generalize ((s.nodes.getD k Node.zero).want==4)=wa
  by_cases e1:st=1
  ·subst e1
   revert ru h1 h2 dn wa
   decide
  by_cases e2:st=2
  ·subst e2
   revert ru h1 h2 dn wa
   decide
  by_cases e3:st=3
  ·subst e3
   revert ru h1 h2 dn wa
   decide
  have b1:(st==1)=false:=by simpa using e1
  have b2:(st==2)=false:=by simpa using e2
  have b3:(st==3)=false:=by simpa using e3
  rw [b1,b2,b3]
  revert ru h1 h2 dn wa
  decide
end
structure Words (s:State):Prop where
 sz:s.sz
 jobs:∀ x ∈ s.jobs,U64 x.nodes
 nodes:∀ r ∈ s.resizes,U64 r.nodes
 said:∀ r ∈ s.resizes,U64 r.said
section
variable {s:State}
def rzR (s:State) (k:Nat):Bool:=(QI1 s (s.resizes.getD k Resize.zero))&&(((k:Int)==0)||(decide ((s.resizes.getD (Int.toNat (w64 ((k:Int) - 1))) Resize.zero).job<(s.resizes.getD k Resize.zero).job)))
def heldR (s:State) (k:Nat):Bool:=((s.jobs.getD k Job.zero).state != 2)||((QE6 s.nodes ((s.jobs.getD k Job.zero).id) 1)==(s.jobs.getD k Job.zero).nodes)
theorem Qzc (h:Qa6 s=0):(Qa2 s=0 ↔ (Qj1 s.nextJob (QF1 s.jobs 0 0)=true∧Qj1 s.nextBook (QG1 s.books 0 0)=true)∧(∀ k,k<s.resizes.length->rzR s k=true)∧(∀ k,k<s.nodes.length->QC3 s (k:Int)=true)∧(∀ k,k<s.jobs.length->heldR s k=true))∧(Qa2 s=0∨Qa2 s=141):=by
 unfold Qa2
 rw [h]
 show ((bif false then (141:Int) else QI2 s (QE1 s.jobs 0 0).1 (QE1 s.jobs 0 0).2)=0 ↔ _)∧((bif false then (141:Int) else QI2 s (QE1 s.jobs 0 0).1 (QE1 s.jobs 0 0).2)=0∨(bif false then (141:Int) else QI2 s (QE1 s.jobs 0 0).1 (QE1 s.jobs 0 0).2)=141)
 simp only [cond_false]
 unfold QI2 QO4 QP4 QQ4 QR4
 rw [last_job,last_book,← next_eq,← next_eq]
 generalize hok0:((Qj1 s.nextJob (QF1 s.jobs 0 0))&&(Qj1 s.nextBook (QG1 s.books 0 0)))=ok0
 have e3:=okloop s.resizes.length (rzR s) (QS3 s) (fun _ _ _=>rfl) ((Int.toNat ((s.resizes.length:Int) - (0:Int)))+1) ok0 0 (by omega) (by omega)
 generalize (QS3 s ((Int.toNat ((s.resizes.length:Int) - (0:Int)))+1) ok0 0).1=ok1 at *
 have e4:=okloop s.nodes.length (fun k=>QC3 s (k:Int)) (QT3 s) (fun _ _ _=>rfl) ((Int.toNat ((s.nodes.length:Int) - (0:Int)))+1) ok1 0 (by omega) (by omega)
 generalize (QT3 s ((Int.toNat ((s.nodes.length:Int) - (0:Int)))+1) ok1 0).1=ok2 at *
 have e5:=okloop s.jobs.length (heldR s) (QU3 s) (fun _ _ _=>rfl) ((Int.toNat ((s.jobs.length:Int) - (0:Int)))+1) ok2 0 (by omega) (by omega)
 generalize (QU3 s ((Int.toNat ((s.jobs.length:Int) - (0:Int)))+1) ok2 0).1=ok3 at *
 have hand:(Qj1 s.nextJob (QF1 s.jobs 0 0)=true∧Qj1 s.nextBook (QG1 s.books 0 0)=true) ↔ ok0=true:=by rw [← hok0,Bool.and_eq_true]
 rw [hand]
 have hz:ok3=true ↔ ok0=true∧(∀ k,k<s.resizes.length->rzR s k=true)∧(∀ k,k<s.nodes.length->QC3 s (k:Int)=true)∧(∀ k,k<s.jobs.length->heldR s k=true):=by
  rw [e5,e4,e3]
  simp only [Nat.zero_le,true_implies,and_assoc]
 rw [← hz]
 cases ok3 <;> simp
theorem state_eq (h:Words s):Qv0 s=Qa2 s:=by
 have hpe:=plan_eq s h.sz h.jobs
 cases hp:(Qr2 s != 0) with
 | true =>
  have hr:(Qa6 s != 0)=true:=by rw [← hpe];exact hp
  unfold Qv0 Qa2
  rw [hp,hr]
  rfl
 | false =>
  have hp0:Qr2 s=0:=by simpa using hp
  obtain ⟨r1,r2⟩:=Qzc (s:=s) (by rw [← hpe];exact hp0)
  obtain ⟨hf,ht⟩:=Qz4 hp0
  obtain ⟨_,hjc,hsort⟩:=Qw4 ht
  have hl:s.nodes.length<=64:=by have:=(Q6a hf).1;omega
  have hid:∀ x ∈ s.jobs,1<=x.id:=fun x hx=>(Q59 (hjc x hx)).1
  have e:Qv0 s=QH1 s (QF1 s.jobs 0 0) (QG1 s.books 0 0) (Qy0 s.jobs 0 []) s.resizes 0 []:=by
   unfold Qv0 QX3 QY3 Qe3
   rw [hp]
   rfl
  obtain ⟨p1,p2⟩:=g4_iff s (QF1 s.jobs 0 0) (QG1 s.books 0 0) (Qy0 s.jobs 0 []) s.resizes 0 [] (by simp) (by omega)
  rw [← e] at p1 p2
  have heldE:heldB s (Qy0 s.jobs 0 [])=true ↔ ∀ k,k<s.jobs.length->heldR s k=true:=by
   rw [held_iff s hsort hid]
   unfold heldR
   constructor
   ·intro hh k hk
    have hm:s.jobs.getD k Job.zero ∈ s.jobs:=by
     rw [List.getD,List.getElem?_eq_getElem hk]
     exact List.getElem_mem _
    cases hst:((s.jobs.getD k Job.zero).state != 2) with
    | true=>rfl
    | false =>
     have:(s.jobs.getD k Job.zero).state=2:=by simpa [bne] using hst
     rw [hh _ hm this]
     simp
   ·intro hh x hx hs
    obtain ⟨k,hk⟩:=List.getElem?_of_mem hx
    have hg:s.jobs.getD k Job.zero=x:=by rw [List.getD,hk];rfl
    have:=hh k (List.getElem?_eq_some_iff.1 hk).1
    rw [hg,hs] at this
    simpa using this
  have rzE:(∀ k,k<s.jobs.length->heldR s k=true) -> ∀ k,k<s.resizes.length->rzP s (Qy0 s.jobs 0 []) k=rzR s k:=by
   intro hh k hk
   have hm:s.resizes.getD k Resize.zero ∈ s.resizes:=by
    rw [List.getD,List.getElem?_eq_getElem hk]
    exact List.getElem_mem _
   have hheld:=(held_iff s hsort hid).1 (heldE.2 hh)
   unfold rzP rzR
   obtain ⟨q1,q2⟩:=run_get hsort (s.resizes.getD k Resize.zero).job
   rw [q1,q2]
   have hord:((decide ((k:Int) > 0))&&(decide ((s.resizes.getD (Int.toNat (w64 ((k:Int) - 1))) Resize.zero).job >= (s.resizes.getD k Resize.zero).job))) = !(((k:Int)==0)||(decide ((s.resizes.getD (Int.toNat (w64 ((k:Int) - 1))) Resize.zero).job<(s.resizes.getD k Resize.zero).job))):=by
    rw [Bool.eq_iff_iff]
    simp only [Bool.and_eq_true,decide_eq_true_eq,Bool.not_eq_true',Bool.or_eq_false_iff,decide_eq_false_iff_not,beq_eq_false_iff_ne]
    omega
   rw [hord]
   have hres:((Q50 s (s.resizes.getD k Resize.zero).job).2=true->Qf3 s (s.resizes.getD k Resize.zero) (Q50 s (s.resizes.getD k Resize.zero).job).1=QI1 s (s.resizes.getD k Resize.zero))∧((Q50 s (s.resizes.getD k Resize.zero).job).2=false->QI1 s (s.resizes.getD k Resize.zero)=false):=by
    constructor
    ·intro hrun
     by_cases hx:∃ x ∈ s.jobs,x.id=(s.resizes.getD k Resize.zero).job
     ·obtain ⟨x,hx,hxe⟩:=hx
      have hrs:=QI9 hsort hx
      rw [hxe] at hrs
      by_cases hst:x.state=2
      ·rw [if_pos hst] at hrs
       rw [hrs]
       refine resize_eq s _ x (h.nodes _ hm) (h.said _ hm) (h.jobs x hx) hf hrs (hjc x hx) fun i=>?_
       have he:=hheld x hx hst
       rw [← of_eq] at he
       obtain ⟨_,b⟩:=QW5 s.nodes (fun (y:Node)=>((y.job==x.id)&&(y.state==1))) hf hl
       rw [← he]
       unfold Qx6
       rw [b,hxe]
       simp
      ·rw [if_neg hst] at hrs
       rw [hrs] at hrun
       cases hrun
     ·rw [QAe _ (fun x hx' e=>hx ⟨x,hx',e⟩)] at hrun
      cases hrun
    ·intro hrun
     unfold QI1
     rw [hrun]
     rfl
   cases hrun:(Q50 s (s.resizes.getD k Resize.zero).job).2 with
   | true =>
    rw [hres.1 hrun]
    generalize (((k:Int)==0)||(decide ((s.resizes.getD (Int.toNat (w64 ((k:Int) - 1))) Resize.zero).job<(s.resizes.getD k Resize.zero).job)))=A
    generalize QI1 s (s.resizes.getD k Resize.zero)=B
    revert A B
    decide
   | false =>
    rw [hres.2 hrun]
    simp
  have rzS:(∀ k,k<s.resizes.length->rzR s k=true)->s.resizes.Pairwise (fun a b=>a.job<b.job):=by
   intro hh
   have hstep:∀ k,k+1<s.resizes.length->(s.resizes.getD k Resize.zero).job<(s.resizes.getD (k+1) Resize.zero).job:=by
    intro k hk
    have hk':=hh (k+1) hk
    have hlen:s.resizes.length<=4294967296:=h.sz.2.2.2.1
    unfold rzR at hk'
    rw [Bool.and_eq_true] at hk'
    have hw:w64 (((k+1:Nat):Int) - 1)=(k:Int):=by
     have:=wr (n:=((k+1:Nat):Int) - 1) (by omega)
     show IntKind.i64.wrap _=_
     rw [this]
     omega
    rw [hw,Int.toNat_natCast] at hk'
    have hne:(((k+1:Nat):Int)==0)=false:=by simp;omega
    rw [hne,Bool.false_or,decide_eq_true_eq] at hk'
    exact hk'.2
   rw [List.pairwise_iff_getElem]
   have hmono:∀ (d a:Nat),a+d+1<s.resizes.length->(s.resizes.getD a Resize.zero).job<(s.resizes.getD (a+d+1) Resize.zero).job:=by
    intro d
    induction d with
    | zero=>intro a ha;exact hstep a ha
    | succ d ih =>
     intro a ha
     have h1:=ih a (by omega)
     have h2:=hstep (a+d+1) (by omega)
     have:a+(d+1)+1=a+d+1+1:=by omega
     rw [this]
     omega
   intro a b ha hb hab
   have:=hmono (b - a - 1) a (by omega)
   have e2:a+(b - a - 1)+1=b:=by omega
   rw [e2] at this
   have g1:s.resizes.getD a Resize.zero=s.resizes[a]:=by rw [List.getD,List.getElem?_eq_getElem ha];rfl
   have g2:s.resizes.getD b Resize.zero=s.resizes[b]:=by rw [List.getD,List.getElem?_eq_getElem hb];rfl
   rw [g1,g2] at this
   exact this
  have hiff:Qv0 s=0 ↔ Qa2 s=0:=by
   rw [p1,r1,heldE]
   constructor
   ·rintro ⟨a,b,c,d,q⟩
    have hrz:∀ k,k<s.resizes.length->rzR s k=true:=fun k hk=>by rw [← rzE q k hk];exact a k (Nat.zero_le _) hk
    exact ⟨⟨b,c⟩,hrz,(nodes_eq s hsort (rzS hrz) h.jobs h.nodes).1 d,q⟩
   ·rintro ⟨⟨b,c⟩,a,d,q⟩
    exact ⟨fun k _ hk=>by rw [rzE q k hk];exact a k hk,b,c,(nodes_eq s hsort (rzS a) h.jobs h.nodes).2 d,q⟩
  rcases p2 with a|a <;> rcases r2 with b|b
  ·rw [a,b]
  ·rw [hiff.1 a] at b;cases b
  ·rw [hiff.2 b] at a;cases a
  ·rw [a,b]
end
end Go.Proofs.YtackngeeehiegaaGreatDoor
namespace Go.Fw
set_option linter.unusedSimpArgs false
set_option linter.unusedVariables false
open Go.RowKit Go.ChangeShapes Go.WideShapes Go.Deep
theorem Qef {C:Checked} {os:Os} {f:FuncId} {fn:Func} {s:ChangeSpec} {laid0:List (String × DataW Unit)} {conds:List PathCond} {apart fresh handsOn again:Bool} {H:Type} {enc:TypeId × Value->H} {Q:List AVal->Prop} {tb:TypeId}
  (own:ownKnob C.prog.godebug=none) (started:os.Started) (noInit:C.prog.inits.idxOf? f=none) (hfn:C.prog.funcs[f]? = some fn)
  (witness:∃ (w:World) (tape:Tape) (i:Input),w.os=os∧(w.forCall tape i).Shaped C.prog∧i.vars=[]∧Input.okWide C.prog (w.forCall tape i) .any w.heap.size f i ∧
   ((s.pre enc C.prog fn conds apart (w.forCall tape i).memory i.args∧laidMetH C.prog laid0 (w.forCall tape i).memory)∧sizedMet enc C.prog fn (OpenSpec.ofChange s) apart (w.forCall tape i).memory i.args)∧({}:Assume).holds C.prog (lone (Frame.enter C.prog f i.args .normal) [] (w.forCall tape i)))
  (hvars:s.vars=[]) (hres:fn.resultTypes = #[tb]) (hbool:C.prog.underlying tb=some .bool) (laid:laidOutB C.prog=true)
  (hts:fn.params.toList.all (fun t=>C.prog.readableRec t&&decide (t<C.prog.types.size))=true)
  (hspec:∀ ds:List (DataW H),ds.length=fn.params.size->s.fn H ds={ results:=[.lit (.bool true)],args:=ds })
  (hargs:ArgsAs C.prog fn.params.toList Q) (hlaw:∀ l,Q l->AGives C.prog f l [] (.lit (.bool true))) :
  ReturnsInHanded {} C os f .any (fun w args=>(s.pre enc C.prog fn conds apart w args∧laidMetH C.prog laid0 w)∧sizedMet enc C.prog fn (OpenSpec.ofChange s) apart w args) (s.post enc C.prog fn apart fresh handsOn again):=by
 refine returnsInHanded_of_change_and (X:=fun w _=>laidMetH C.prog laid0 w) (fun _ _ _ hh h=>h.of_heap hh) own started noInit hfn witness ?_
 intro W base args ds gs before hval hW hcnd _ _ _
 have hW':=hW
 obtain ⟨p,q,hA,hV,hpq,hfz,hnd⟩:=hW
 rw [hvars] at hV
 obtain ⟨rfl,rfl⟩:=trodVars_none hV
 rw [List.append_nil] at hpq
 subst hpq
 obtain ⟨l,hQ,hreps⟩:=hargs.read (base:=base) (vs:=args.toList) (fun j t v hj hv=>hval j t v (by simpa using hj) (by simpa using hv)) hA
 have hc:=law_calls (hlaw l hQ) hreps
 rw [show args.toList.toArray=args by simp] at hc
 refine hc.mono fun e W' ⟨he,hb⟩=>?_
 subst he
 have hlen:ds.length=fn.params.size:=by
  have:∀ {ts:List TypeId} {vs:List Value} {ds:List (DataW H)} {ps:List MemPlace},DataW.TrodAll enc C.prog W 0 (fun _=>true) true ts vs ds ps->ds.length=ts.length:=by
   intro ts
   induction ts with
   | nil=>intro vs ds ps h;obtain ⟨rfl,rfl,rfl⟩:=trodAll_nil h;rfl
   | cons t ts ih=>intro vs ds ps h;obtain ⟨v,vs',d,ds',p,q,rfl,rfl,rfl,hd,hrest⟩:=trodAll_cons h;simp [ih hrest]
  simpa using this hA
 have hfn2:=hspec ds hlen
 have hold:∀ p ∈ before,p.block<W.heap.size:=fun p hp=>by simpa using hW'.lt p hp
 have hR:∀ (b:Nat) (sp:Nat->Bool) (hd:Bool),DataW.TrodAll enc C.prog W' b sp hd fn.resultTypes.toList ((Value.bool true).resultList fn.resultTypes.size) (s.fn H (ds++[])).results []:=by
  intro b sp hd
  rw [List.append_nil,hfn2,hres]
  exact trodAll_cons_mk (shut_bool hbool _) trodAll_mk0
 have hAr:∀ sp:Nat->Bool,(∀ p ∈ before,sp p.block=true)->DataW.TrodAll enc C.prog W' 0 sp true fn.params.toList args.toList (s.fn H (ds++[])).args before:=by
  intro sp hsp
  rw [List.append_nil,hfn2]
  exact QSc laid hb hts hA hold hsp
 have hVr:∀ sp:Nat->Bool,DataW.TrodVars enc C.prog W' sp s.vars (s.fn H (ds++[])).vars []:=by
  intro sp
  rw [List.append_nil,hfn2,hvars]
  rfl
 refine ⟨_,rfl,ds,[],before,[],before,[],hW',hR _ _ _,hAr _ (fun p hp=>by simpa using hold p hp),hVr _,hb.frame _,fun _=>⟨ok_one hres rfl (okWide_bool_mk hbool _),_,_,([]++before)++[],⟨[]++before,[],trodAll_append (hAr _ (fun _ _=>rfl)) (hR _ _ _),hVr _,rfl,?_,?_⟩,?_⟩⟩
 ·intro b off hp
  have hp:MemPlace.cell b off ∈ before:=by simpa using hp
  rw [hb.frozen (p:=⟨b,off,none⟩) (hold _ hp)]
  exact hfz b off (by simpa using hp)
 ·intro ha
  simpa using hnd ha
 ·intro p hp _
  simpa using hp
end Go.Fw
namespace Go.Proofs.YtackngeeehiegaaGreatDoor
set_option linter.unusedSimpArgs false
set_option linter.unusedVariables false
open Go.Fw
set_option maxRecDepth 100000
theorem ty3:Tryz.prog.underlying 47 = some (.int .u64):=by kernel_rfl
theorem ty2:Tryz.prog.underlying 9 = some (.string):=by kernel_rfl
theorem ty1:Tryz.prog.underlying 4 = some (.bool):=by kernel_rfl
theorem ty0:Tryz.prog.underlying 3 = some (.int .i64):=by kernel_rfl
def Node.wf (x:Node):Prop:=(Lit.int .i64 x.state).wf=true∧(Lit.int .i64 x.job).wf=true∧(Lit.int .i64 x.epoch).wf=true∧True∧(Lit.int .i64 x.want).wf=true∧(Lit.int .i64 x.since).wf=true∧(Lit.int .i64 x.asked).wf=true∧True
theorem readNode:ReadAs Tryz.prog 55 Node.cells Node.wf:=by
 have h:=ReadAs.struct (P:=Tryz.prog) (t:=55) rfl (by kernel_rfl) (.cons rfl (ReadAs.int ty0) (.cons rfl (ReadAs.int ty0) (.cons rfl (ReadAs.int ty0) (.cons rfl (ReadAs.bool ty1) (.cons rfl (ReadAs.int ty0) (.cons rfl (ReadAs.int ty0) (.cons rfl (ReadAs.int ty0) .nil)))))))
 exact h.map (fun p=>(⟨p.1,p.2.1,p.2.2.1,p.2.2.2.1,p.2.2.2.2.1,p.2.2.2.2.2.1,p.2.2.2.2.2.2.1⟩:Node)) (fun _=>rfl) (fun _ h=>h)
theorem readNodes:ReadAs Tryz.prog 22 (fun l=>[nodeL l]) fun l=>l.length<=maxLen ∧ ∀ a ∈ l,Node.wf a :=
 ReadAs.slice Node.zero rfl (by kernel_rfl) (by decide) readNode (fun _=>rfl)
def Alt.wf (x:Alt):Prop:=(Lit.int .i64 x.nodes).wf=true∧(Lit.int .i64 x.wall).wf=true∧True
theorem readAlt:ReadAs Tryz.prog 178 Alt.cells Alt.wf:=by
 have h:=ReadAs.struct (P:=Tryz.prog) (t:=178) rfl (by kernel_rfl) (.cons rfl (ReadAs.int ty0) (.cons rfl (ReadAs.int ty0) .nil))
 exact h.map (fun p=>(⟨p.1,p.2.1⟩:Alt)) (fun _=>rfl) (fun _ h=>h)
theorem readAlts:ReadAs Tryz.prog 67 (fun l=>[altL l]) fun l=>l.length<=maxLen ∧ ∀ a ∈ l,Alt.wf a :=
 ReadAs.slice Alt.zero rfl (by kernel_rfl) (by decide) readAlt (fun _=>rfl)
def Shape.wf (x:Shape):Prop:=(Lit.int .i64 x.kind).wf=true∧(x.alts.length<=maxLen ∧ ∀ a ∈ x.alts,Alt.wf a)∧(Lit.int .i64 x.min).wf=true∧(Lit.int .i64 x.max).wf=true∧(Lit.int .i64 x.wall).wf=true∧True
theorem readShape:ReadAs Tryz.prog 69 Shape.cells Shape.wf:=by
 have h:=ReadAs.struct (P:=Tryz.prog) (t:=69) rfl (by kernel_rfl) (.cons rfl (ReadAs.int ty0) (.cons rfl (readAlts) (.cons rfl (ReadAs.int ty0) (.cons rfl (ReadAs.int ty0) (.cons rfl (ReadAs.int ty0) .nil)))))
 exact h.map (fun p=>(⟨p.1,p.2.1,p.2.2.1,p.2.2.2.1,p.2.2.2.2.1⟩:Shape)) (fun _=>rfl) (fun _ h=>h)
def Dep.wf (x:Dep):Prop:=(Lit.int .i64 x.how).wf=true∧(Lit.int .i64 x.job).wf=true∧True
theorem readDep:ReadAs Tryz.prog 191 Dep.cells Dep.wf:=by
 have h:=ReadAs.struct (P:=Tryz.prog) (t:=191) rfl (by kernel_rfl) (.cons rfl (ReadAs.int ty0) (.cons rfl (ReadAs.int ty0) .nil))
 exact h.map (fun p=>(⟨p.1,p.2.1⟩:Dep)) (fun _=>rfl) (fun _ h=>h)
theorem readDeps:ReadAs Tryz.prog 70 (fun l=>[depL l]) fun l=>l.length<=maxLen ∧ ∀ a ∈ l,Dep.wf a :=
 ReadAs.slice Dep.zero rfl (by kernel_rfl) (by decide) readDep (fun _=>rfl)
def Job.wf (x:Job):Prop:=(Lit.int .i64 x.id).wf=true∧x.name.size<=maxLen∧x.user.size<=maxLen∧x.account.size<=maxLen∧Shape.wf x.shape∧(Lit.int .i64 x.prio).wf=true∧(x.after.length<=maxLen ∧ ∀ a ∈ x.after,Dep.wf a)∧(Lit.int .i64 x.state).wf=true∧True∧(Lit.int .i64 x.born).wf=true∧(Lit.int .i64 x.promise).wf=true∧(Lit.int .i64 x.choice).wf=true∧(Lit.int .i64 x.start).wf=true∧(Lit.int .i64 x.limit).wf=true∧(Lit.int .u64 x.nodes).wf=true∧(Lit.int .i64 x.used).wf=true∧True
theorem readJob:ReadAs Tryz.prog 72 Job.cells Job.wf:=by
 have h:=ReadAs.struct (P:=Tryz.prog) (t:=72) rfl (by kernel_rfl) (.cons rfl (ReadAs.int ty0) (.cons rfl (ReadAs.string ty2) (.cons rfl (ReadAs.string ty2) (.cons rfl (ReadAs.string ty2) (.cons rfl (readShape) (.cons rfl (ReadAs.int ty0) (.cons rfl (readDeps) (.cons rfl (ReadAs.int ty0) (.cons rfl (ReadAs.bool ty1) (.cons rfl (ReadAs.int ty0) (.cons rfl (ReadAs.int ty0) (.cons rfl (ReadAs.int ty0) (.cons rfl (ReadAs.int ty0) (.cons rfl (ReadAs.int ty0) (.cons rfl (ReadAs.int ty3) (.cons rfl (ReadAs.int ty0) .nil))))))))))))))))
 exact h.map (fun p=>(⟨p.1,p.2.1,p.2.2.1,p.2.2.2.1,p.2.2.2.2.1,p.2.2.2.2.2.1,p.2.2.2.2.2.2.1,p.2.2.2.2.2.2.2.1,p.2.2.2.2.2.2.2.2.1,p.2.2.2.2.2.2.2.2.2.1,p.2.2.2.2.2.2.2.2.2.2.1,p.2.2.2.2.2.2.2.2.2.2.2.1,p.2.2.2.2.2.2.2.2.2.2.2.2.1,p.2.2.2.2.2.2.2.2.2.2.2.2.2.1,p.2.2.2.2.2.2.2.2.2.2.2.2.2.2.1,p.2.2.2.2.2.2.2.2.2.2.2.2.2.2.2.1⟩:Job)) (fun _=>rfl) (fun _ h=>h)
theorem readJobs:ReadAs Tryz.prog 23 (fun l=>[jobL l]) fun l=>l.length<=maxLen ∧ ∀ a ∈ l,Job.wf a :=
 ReadAs.slice Job.zero rfl (by kernel_rfl) (by decide) readJob (fun _=>rfl)
def Resize.wf (x:Resize):Prop:=(Lit.int .i64 x.job).wf=true∧True∧(Lit.int .u64 x.nodes).wf=true∧(Lit.int .u64 x.said).wf=true∧(Lit.int .i64 x.since).wf=true∧True
theorem readResize:ReadAs Tryz.prog 49 Resize.cells Resize.wf:=by
 have h:=ReadAs.struct (P:=Tryz.prog) (t:=49) rfl (by kernel_rfl) (.cons rfl (ReadAs.int ty0) (.cons rfl (ReadAs.bool ty1) (.cons rfl (ReadAs.int ty3) (.cons rfl (ReadAs.int ty3) (.cons rfl (ReadAs.int ty0) .nil)))))
 exact h.map (fun p=>(⟨p.1,p.2.1,p.2.2.1,p.2.2.2.1,p.2.2.2.2.1⟩:Resize)) (fun _=>rfl) (fun _ h=>h)
theorem readResizes:ReadAs Tryz.prog 24 (fun l=>[Qp1 l]) fun l=>l.length<=maxLen ∧ ∀ a ∈ l,Resize.wf a :=
 ReadAs.slice Resize.zero rfl (by kernel_rfl) (by decide) readResize (fun _=>rfl)
def Book.wf (x:Book):Prop:=(Lit.int .i64 x.id).wf=true∧(Lit.int .i64 x.from_).wf=true∧(Lit.int .i64 x.to).wf=true∧(Lit.int .i64 x.nodes).wf=true∧True
theorem readBook:ReadAs Tryz.prog 122 Book.cells Book.wf:=by
 have h:=ReadAs.struct (P:=Tryz.prog) (t:=122) rfl (by kernel_rfl) (.cons rfl (ReadAs.int ty0) (.cons rfl (ReadAs.int ty0) (.cons rfl (ReadAs.int ty0) (.cons rfl (ReadAs.int ty0) .nil))))
 exact h.map (fun p=>(⟨p.1,p.2.1,p.2.2.1,p.2.2.2.1⟩:Book)) (fun _=>rfl) (fun _ h=>h)
theorem readBooks:ReadAs Tryz.prog 25 (fun l=>[bookL l]) fun l=>l.length<=maxLen ∧ ∀ a ∈ l,Book.wf a :=
 ReadAs.slice Book.zero rfl (by kernel_rfl) (by decide) readBook (fun _=>rfl)
def Usage.wf (x:Usage):Prop:=x.user.size<=maxLen∧x.account.size<=maxLen∧(Lit.int .i64 x.used).wf=true∧(Lit.int .i64 x.share).wf=true∧True
theorem readUsage:ReadAs Tryz.prog 138 Usage.cells Usage.wf:=by
 have h:=ReadAs.struct (P:=Tryz.prog) (t:=138) rfl (by kernel_rfl) (.cons rfl (ReadAs.string ty2) (.cons rfl (ReadAs.string ty2) (.cons rfl (ReadAs.int ty0) (.cons rfl (ReadAs.int ty0) .nil))))
 exact h.map (fun p=>(⟨p.1,p.2.1,p.2.2.1,p.2.2.2.1⟩:Usage)) (fun _=>rfl) (fun _ h=>h)
theorem readUsages:ReadAs Tryz.prog 26 (fun l=>[QD2 l]) fun l=>l.length<=maxLen ∧ ∀ a ∈ l,Usage.wf a :=
 ReadAs.slice Usage.zero rfl (by kernel_rfl) (by decide) readUsage (fun _=>rfl)
def State.wf (x:State):Prop:=(Lit.int .i64 x.now).wf=true∧(x.nodes.length<=maxLen ∧ ∀ a ∈ x.nodes,Node.wf a)∧(x.jobs.length<=maxLen ∧ ∀ a ∈ x.jobs,Job.wf a)∧(x.resizes.length<=maxLen ∧ ∀ a ∈ x.resizes,Resize.wf a)∧(x.books.length<=maxLen ∧ ∀ a ∈ x.books,Book.wf a)∧(x.ledger.length<=maxLen ∧ ∀ a ∈ x.ledger,Usage.wf a)∧(Lit.int .i64 x.nextJob).wf=true∧(Lit.int .i64 x.nextBook).wf=true∧True
theorem readState:ReadAs Tryz.prog 28 State.cells State.wf:=by
 have h:=ReadAs.struct (P:=Tryz.prog) (t:=28) rfl (by kernel_rfl) (.cons rfl (ReadAs.int ty0) (.cons rfl (readNodes) (.cons rfl (readJobs) (.cons rfl (readResizes) (.cons rfl (readBooks) (.cons rfl (readUsages) (.cons rfl (ReadAs.int ty0) (.cons rfl (ReadAs.int ty0) .nil))))))))
 exact h.map (fun p=>(⟨p.1,p.2.1,p.2.2.1,p.2.2.2.1,p.2.2.2.2.1,p.2.2.2.2.2.1,p.2.2.2.2.2.2.1,p.2.2.2.2.2.2.2.1⟩:State)) (fun _=>rfl) (fun _ h=>h)
end Go.Proofs.YtackngeeehiegaaGreatDoor
namespace Go.Proofs.YtackngeeehiegaaGreatDoor
set_option linter.unusedSimpArgs false
set_option linter.unusedVariables false
open Go.Fw
theorem Shape.wf_szM {x:Shape} (h:x.wf):x.szM:=h.2.1.1
theorem Job.wf_szM {x:Job} (h:x.wf):x.szM:=⟨h.2.1,h.2.2.1,h.2.2.2.1,Shape.wf_szM h.2.2.2.2.1,h.2.2.2.2.2.2.1.1⟩
theorem Usage.wf_szM {x:Usage} (h:x.wf):x.szM:=⟨h.1,h.2.1⟩
theorem State.wf_szM {x:State} (h:x.wf):x.szM :=
 ⟨h.2.1.1,h.2.2.1.1,fun y hy=>Job.wf_szM (h.2.2.1.2 y hy),h.2.2.2.1.1,h.2.2.2.2.1.1,h.2.2.2.2.2.1.1,fun y hy=>Usage.wf_szM (h.2.2.2.2.2.1.2 y hy)⟩
theorem wf_u64 {n:Int} (h:(Lit.int .u64 n).wf=true):U64 n:=by
 unfold Lit.wf at h
 simp only [Bool.and_eq_true,decide_eq_true_eq] at h
 have e1:IntKind.u64.min=0:=by decide
 have e2:IntKind.u64.max=18446744073709551615:=by decide
 rw [e1,e2] at h
 unfold U64
 omega
theorem Job.wf_u64 {x:Job} (h:x.wf):U64 x.nodes:=by
 unfold Job.wf at h
 exact Go.Proofs.YtackngeeehiegaaGreatDoor.wf_u64 h.2.2.2.2.2.2.2.2.2.2.2.2.2.2.1
section
variable {s:State}
end
end Go.Proofs.YtackngeeehiegaaGreatDoor
