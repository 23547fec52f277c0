/-
  What the last text of this claim leans on: an evaluator over the code, contracts of functions, plain laws. Conditions stand in each statement.
-/
import Derived.Test.YtackngeeehiegaaGreatDoorRD12
import Derived.Test.YtackngeeehiegaaGreatDoorRD6
import Derived.Test.YtackngeeehiegaaGreatDoorRD8
namespace Go.Proofs.YtackngeeehiegaaGreatDoor
set_option linter.unusedSimpArgs false
set_option linter.unusedVariables false
open Go.Fw
end Go.Proofs.YtackngeeehiegaaGreatDoor
namespace Go.Fw
set_option linter.unusedSimpArgs false
set_option linter.unusedVariables false
theorem w6 {n:Int} (h:-9223372036854775808<=n∧n<=9223372036854775807):w64 n=n:=wr h
theorem or_f {a b:Bool} (h:(a||b)=false):a=false∧b=false:=by simpa using h
def U64 (x:Int):Prop:=0<=x∧x<18446744073709551616
def tb (x:Int) (k:Nat):Bool:=x.toNat.testBit k
theorem wu64_eq (n : Int) : wu64 n = n % 18446744073709551616 := by simp [IntKind.wrap, IntKind.bits, IntKind.signed]
theorem QC7 {n:Int} (h:U64 n):wu64 n=n:=by rw [wu64_eq];unfold U64 at h;omega
theorem QE7 (n:Int):U64 (wu64 n):=by rw [wu64_eq];unfold U64;omega
theorem U64.zero:U64 0:=⟨by decide,by decide⟩
theorem wu64_bv (b:BitVec 64):wu64 (b.toNat:Int)=(b.toNat:Int):=QC7 ⟨by omega,by have:=b.isLt;omega⟩
theorem tb_bv (b:BitVec 64) (k:Nat):tb (wu64 (b.toNat:Int)) k=b.getLsbD k:=by
 rw [wu64_bv,tb,yoa,BitVec.testBit_toNat]
theorem QWb {x:Int} (h:U64 x) {k:Nat} (hk:64<=k):tb x k=false:=by
 unfold tb U64 at *;refine ybc (yYa (m:=2 ^ 64) (by omega) (yqc (by decide) hk))
theorem Qf7 {x:Int} (h:U64 x) (k:Nat):(BitVec.ofInt 64 x).getLsbD k=tb x k:=by
 have e:(BitVec.ofInt 64 x).toNat=x.toNat:=by
  rw [yDc];unfold U64 at h;have : x % (2 ^ 64 : Nat) = x := Int.emod_eq_of_lt h.1 (by simpa using h.2);rw [this]
 rw [← BitVec.testBit_toNat,e]
 rfl
theorem tb_and {x y:Int} (hx:U64 x) (hy:U64 y) (k:Nat):tb (wu64 ((BitVec.ofInt 64 x &&& BitVec.ofInt 64 y).toNat:Int)) k=(tb x k&&tb y k):=by
 rw [tb_bv,BitVec.getLsbD_and,Qf7 hx,Qf7 hy]
theorem tb_or {x y:Int} (hx:U64 x) (hy:U64 y) (k:Nat):tb (wu64 ((BitVec.ofInt 64 x ||| BitVec.ofInt 64 y).toNat:Int)) k=(tb x k||tb y k):=by
 rw [tb_bv,BitVec.getLsbD_or,Qf7 hx,Qf7 hy]
theorem Qi5 {x y:Int} (hx:U64 x) (hy:U64 y) (k:Nat):tb (wu64 ((BitVec.ofInt 64 x &&& ~~~(BitVec.ofInt 64 y)).toNat:Int)) k=(tb x k && !tb y k):=by
 rw [tb_bv,BitVec.getLsbD_and,BitVec.getLsbD_not,Qf7 hx,Qf7 hy];rcases ypa k 64 with h|h
 ·simp [h]
 ·simp [QWb hx h]
theorem Q7d {x y:Int} (hx:U64 x) (hy:U64 y) (h:∀ k,k<64->tb x k=tb y k):x=y:=by
 have:x.toNat=y.toNat:=by
  refine y3b fun k=>?_
  rcases ypa k 64 with hk|hk
  ·exact h k hk
  ·exact (QWb hx hk).trans (QWb hy hk).symm
 unfold U64 at hx hy;omega
theorem QF6 (k:Nat):tb 0 k=false:=by simp [tb]
theorem Qzb {x:Int} (hx:U64 x):(x==0)=true ↔ ∀ k,k<64->tb x k=false:=by
 rw [beq_iff_eq];refine ⟨fun h k _=>by rw [h];exact QF6 k,fun h=>Q7d hx .zero fun k hk=>by rw [h k hk,QF6]⟩
theorem QLf {x:Int} (hx:U64 x):(x != 0)=true ↔ ∃ k,k<64∧tb x k=true:=by
 rw [bne_iff_ne];constructor
 ·intro h;apply Classical.byContradiction;intro hn;refine h (beq_iff_eq.1 ((Qzb hx).2 fun k hk=>?_));cases hb:tb x k with
  | false=>rfl
  | true=>exact (hn ⟨k,hk,hb⟩).elim
 ·rintro ⟨k,_,hb⟩ e;rw [e,QF6] at hb;cases hb
theorem Qu7 (k:Nat):∃ m:Nat,(2:Int) ^ k=(m:Int)∧2 ^ k=m:=⟨2 ^ k,by simp,rfl⟩
theorem pow64:(2:Nat) ^ 64=18446744073709551616:=by decide
theorem pow_U {k:Nat} (hk:k<64):U64 ((2:Int) ^ k):=by
 have h1:(2:Nat) ^ k<2 ^ 64:=Nat.pow_lt_pow_right (by decide) hk;rw [pow64] at h1;obtain ⟨m,e,e'⟩:=Qu7 k;rw [e];unfold U64;omega
theorem tb_pow (k j:Nat):tb ((2:Int) ^ k) j=decide (k=j):=by
 have e:(2:Int) ^ k=((2 ^ k:Nat):Int):=by simp
 rw [tb,e,yoa,Nat.testBit_two_pow]
def QN2 (p:Nat->Bool):Nat->Int
 | 0=>0
 | n+1=>bif p n then QN2 p n+2 ^ n else QN2 p n
theorem Qk9 (p:Nat->Bool):∀ n,0<=QN2 p n∧QN2 p n<2 ^ n
 | 0=>⟨by simp [QN2],by simp [QN2]⟩
 | n+1=>by
  have:=Qk9 p n;have e:(2:Int) ^ (n+1)=2*2 ^ n:=by rw [Int.pow_succ];omega
  rw [QN2];cases p n <;> simp only [cond_true,cond_false] <;> omega
theorem bitsUpto_U (p:Nat->Bool) {n:Nat} (hn:n<=64):U64 (QN2 p n):=by
 have:=Qk9 p n;have h1:(2:Nat) ^ n<=2 ^ 64:=yqc (by decide) hn;rw [pow64] at h1;obtain ⟨m,e,e'⟩:=Qu7 n;unfold U64;omega
theorem tb_upto (p:Nat->Bool):∀ n k,tb (QN2 p n) k=(decide (k<n)&&p k)
 | 0,k=>by simp [QN2,QF6]
 | n+1,k=>by
  have hl:=Qk9 p n;have ih:=tb_upto p n k;obtain ⟨m,e,e'⟩:=Qu7 n;have hlt:(QN2 p n).toNat<2 ^ n:=by omega
  rw [QN2];cases hp:p n with
  | false =>
   simp only [cond_false];rw [ih];rcases yob k n with h|h|h
   ·simp [h,Nat.lt_succ_of_lt h]
   ·subst h;simp [hp]
   ·simp [show ¬ k<n by omega,show ¬ k<n+1 by omega]
  | true =>
   simp only [cond_true];have et:(QN2 p n+2 ^ n).toNat=2 ^ n+(QN2 p n).toNat:=by omega
   unfold tb at ih ⊢;rw [et];rcases yob k n with h|h|h
   ·rw [Nat.testBit_two_pow_add_gt h,ih];simp [h,Nat.lt_succ_of_lt h]
   ·subst h;rw [Nat.testBit_two_pow_add_eq,ybc hlt];simp [hp]
   ·have:2 ^ n+(QN2 p n).toNat<2 ^ k:=by
     have:(2:Nat) ^ (n+1)<=2 ^ k:=yqc (by decide) h;rw [yzc] at this;omega
    rw [ybc this];simp [show ¬ k<n+1 by omega]
def idxL {α:Type} (f:Nat->α->Bool):List α->Nat->List Int
 | [],_=>[]
 | x :: r,i=>bif f i x then (i:Int) :: idxL f r (i+1) else idxL f r (i+1)
def hasB {α:Type} (f:Nat->α->Bool) (l:List α) (i k:Nat):Bool:=decide (i<=k)&&(match l[k - i]? with|some x=>f k x|none=>false)
theorem hasB_nil {α:Type} (f:Nat->α->Bool) (i k:Nat):hasB f [] i k=false:=by simp [hasB]
theorem hasB_cons {α:Type} (f:Nat->α->Bool) (x:α) (r:List α) (i k:Nat):hasB f (x :: r) i k=((decide (k=i)&&f i x)||hasB f r (i+1) k):=by
 unfold hasB;rcases yob k i with h|h|h
 ·simp [show ¬ i<=k by omega,show ¬ i+1<=k by omega,show ¬ k=i by omega]
 ·subst h;simp [show ¬ k+1<=k by omega]
 ·have e:k - i=(k - (i+1))+1:=by omega
  simp [show i<=k by omega,show i+1<=k by omega,show ¬ k=i by omega,e]
theorem hasB_zero {α:Type} (f:Nat->α->Bool) (d:α) (l:List α) (k:Nat):hasB f l 0 k=(decide (k<l.length)&&f k (l.getD k d)):=by
 unfold hasB;rcases ypa k l.length with h|h
 ·simp [h,List.getD]
 ·simp [Nat.not_lt.2 h,ycb h]
theorem QUe {α:Type} (f:Nat->α->Bool) (G:List α->List Int->Nat->List Int) (h0:∀ out i,G [] out i=out) (h1:∀ x r out i,G (x :: r) out i=bif f i x then G r (out++[(i:Int)]) (i+1) else G r out (i+1)):∀ (l:List α) (out:List Int) (i:Nat),G l out i=out++idxL f l i
 | [],out,i=>by rw [h0,idxL,yUb]
 | x :: r,out,i=>by
  rw [h1,idxL];cases f i x with
  | true=>simp only [cond_true];rw [QUe f G h0 h1 r];simp
  | false=>simp only [cond_false];exact QUe f G h0 h1 r out (i+1)
end Go.Fw
namespace Go.Proofs.YtackngeeehiegaaGreatDoor
set_option linter.unusedSimpArgs false
set_option linter.unusedVariables false
open Go.Fw
theorem Q37 {k:Nat} (h:k<64):QS1 (k:Int)=(2:Int) ^ k:=by
 unfold QS1;have e:wu64 (k:Int)=(k:Int):=QC7 ⟨by omega,by omega⟩;rw [e,yoa,yAc (by omega),Int.one_mul,QC7 (pow_U h)]
theorem and_one {s:Int} (hs:U64 s) {k:Nat} (hk:k<64):((wu64 (BitVec.ofInt 64 s &&& BitVec.ofInt 64 (QS1 (k:Int))).toNat)!=0)=tb s k:=by
 have hp:U64 ((2:Int) ^ k):=pow_U hk;rw [Q37 hk];cases hb:tb s k with
 | true =>
  refine (QLf (QE7 _)).2 ⟨k,hk,?_⟩;rw [tb_and hs hp,hb,tb_pow];simp
 | false =>
  cases hx:((wu64 (BitVec.ofInt 64 s &&& BitVec.ofInt 64 ((2:Int) ^ k)).toNat)!=0) with
  | false=>rfl
  | true =>
   obtain ⟨j,hj,h⟩:=(QLf (QE7 _)).1 hx;rw [tb_and hs hp,tb_pow] at h;simp only [yca,yda] at h;rw [← h.2,hb] at h;cases h.1
theorem QB5 {s:Int} (hs:U64 s) (k:Nat):QU0 s (k:Int)=(decide (k<64)&&tb s k):=by
 unfold QU0;rcases ypa k 64 with h|h
 ·rw [and_one hs h];simp [h];omega
 ·have:¬ ((k:Int)<64):=by omega
  simp [this,Nat.not_lt.2 h]
theorem QE8 {α:Type} (f:Nat->α->Bool):∀ (l:List α) (i:Nat) (s:Int) (j:Nat),i+l.length<=64->U64 s->(∀ k,i<=k->tb s k=false) ->
  (QM3 (idxL f l i) s j).2=0∧U64 (QM3 (idxL f l i) s j).1 ∧ ∀ k,tb (QM3 (idxL f l i) s j).1 k=(tb s k||hasB f l i k)
 | [],i,s,j,_,hs,_=>⟨rfl,hs,fun k=>by rw [hasB_nil,y7b];rfl⟩
 | x :: r,i,s,j,hl,hs,hf=>by
  simp only [yka] at hl;rw [idxL];cases hx:f i x with
  | false =>
   simp only [cond_false];obtain ⟨a,b,c⟩:=QE8 f r (i+1) s j (by omega) hs (fun k hk=>hf k (by omega));exact ⟨a,b,fun k=>by rw [c,hasB_cons,hx];simp⟩
  | true =>
   simp only [cond_true];have hi:i<64:=by omega
   have hg:(((decide ((i:Int)<0))||(decide ((i:Int) >= 64)))||((wu64 (BitVec.ofInt 64 s &&& BitVec.ofInt 64 (QS1 (i:Int))).toNat)!=0))=false:=by
    rw [and_one hs hi,hf i (yla _)];simp;omega
   rw [QM3,hg];simp only [cond_false];have hp:U64 ((2:Int) ^ i):=pow_U hi;have ht:∀ k,tb (wu64 (BitVec.ofInt 64 s ||| BitVec.ofInt 64 (QS1 (i:Int))).toNat) k=(tb s k||decide (i=k)):=fun k=>by
    rw [Q37 hi,tb_or hs hp,tb_pow]
   obtain ⟨a,b,c⟩:=QE8 f r (i+1) (wu64 (BitVec.ofInt 64 s ||| BitVec.ofInt 64 (QS1 (i:Int))).toNat) (j+1) (by omega) (QE7 _) (fun k hk=>by
    rw [ht,hf k (by omega)];simp
    omega)
   refine ⟨a,b,fun k=>?_⟩;rw [c,ht,hasB_cons,hx,yBc,Bool.or_assoc]
   congr 2
   simp [eq_comm]
theorem set_where {α:Type} (f:Nat->α->Bool) (d:α) (l:List α) (hl:l.length<=64):U64 (QO0 (idxL f l 0)).1 ∧ ∀ k,tb (QO0 (idxL f l 0)).1 k=(decide (k<l.length)&&f k (l.getD k d)):=by
 obtain ⟨_,b,c⟩:=QE8 f l 0 0 0 (by omega) .zero (fun k _=>QF6 k);exact ⟨b,fun k=>(c k).trans (by rw [QF6,yXa,hasB_zero f d])⟩
theorem Q23 (l:List Node) (is:Node->Bool) (hc:Q50 l=0) (hl:l.length<=64):U64 (Q31 l is) ∧ ∀ k,tb (Q31 l is) k=(decide (k<l.length)&&is (l.getD k zF)):=by
 have e:Q31 l is=(QO0 (idxL (fun _ x=>is x) l 0)).1:=by
  unfold Q31;rw [hc];show Q01 (Qn3 is l [] 0)=_;rw [Q01,QUe (fun _ x=>is x) (Qn3 is) (fun _ _=>rfl) (fun _ _ _ _=>rfl),ydb]
 rw [e];exact set_where (fun _ x=>is x) zF l hl
theorem QW9 {n:Nat} (h:n<=64):U64 (QD3 (n:Int)) ∧ ∀ k,tb (QD3 (n:Int)) k=decide (k<n):=by
 have low:∀ m:Nat,m<64->U64 (((2:Int) ^ m) - 1) ∧ ∀ k,tb (((2:Int) ^ m) - 1) k=decide (k<m):=by
  intro m hm;have hu:=pow_U hm;obtain ⟨q,e,e'⟩:=Qu7 m;have hq:0<q:=by rw [← e'];exact Nat.pow_pos (by decide)
  refine ⟨by unfold U64 at *;omega,fun k=>?_⟩;have:((2:Int) ^ m - 1).toNat=2 ^ m - 1:=by omega
  rw [tb,this,Nat.testBit_two_pow_sub_one]
 unfold QD3;rcases yMa n with h0|h0
 ·subst h0;exact ⟨.zero,fun k=>by simp [QF6]⟩
 ·have h1:decide ((n:Int)<=0)=false:=yja (by omega);rw [h1];rcases ypa n 64 with h2|h2
  ·have h3:decide ((n:Int) >= 64)=false:=yja (by omega);rw [h3];simp only [cond_false];rw [Q37 h2,QC7 (low n h2).1];exact low n h2
  ·have h3:decide ((n:Int) >= 64)=true:=yha (by omega);rw [h3];obtain rfl:n=64:=by omega
   refine ⟨⟨by decide,by decide⟩,fun k=>?_⟩;show tb 18446744073709551615 k=_;have:(18446744073709551615:Int).toNat=2 ^ 64 - 1:=by decide
   rw [tb,this,Nat.testBit_two_pow_sub_one]
end Go.Proofs.YtackngeeehiegaaGreatDoor
namespace Go.Fw
set_option linter.unusedSimpArgs false
set_option linter.unusedVariables false
theorem QLb {n c:Nat} (hn:n<18446744073709551616) (hc:c<18446744073709551616):wu64 ((BitVec.ofInt 64 (n:Int) &&& BitVec.ofInt 64 (c:Int)).toNat:Int)=((n &&& c:Nat):Int):=by
 have e:∀ m:Nat,m<18446744073709551616->(BitVec.ofInt 64 (m:Int)).toNat=m:=fun m hm=>by
  rw [yDc];omega
 rw [BitVec.toNat_and,e n hn,e c hc,QC7];have:=Nat.and_le_left (n:=n) (m:=c);unfold U64;omega
theorem Qvd (n k:Nat) (hk:k<=64):Int.fdiv (n:Int) (2 ^ (min (Int.toNat (k:Int)) 64))=((n / 2 ^ k:Nat):Int):=by
 rw [yoa,yAc hk,Int.fdiv_eq_ediv_of_nonneg _ (by have:=Int.pow_pos (n:=2) (m:=k) (by decide);omega)];simp
theorem Qwd {a b:Nat} (h:a+b<18446744073709551616):wu64 ((a:Int)+(b:Int))=((a+b:Nat):Int):=by
 rw [QC7]
 ·simp
 ·unfold U64;omega
theorem Qg9 {a c y m:Nat} (ha:a<256) (hc:c<256):(256*y+a) &&& (256*m+c)=256*(y &&& m)+(a &&& c):=by
 refine y3b fun k=>?_
 have e:∀ q r k,r<256->(256*q+r).testBit k=if k<8 then r.testBit k else q.testBit (k - 8):=fun q r k hr=>Nat.testBit_two_pow_mul_add (i:=8) q hr k
 have hac:a &&& c<256:=Nat.lt_of_le_of_lt Nat.and_le_left ha;rw [yEc,e y a k ha,e m c k hc,e _ _ k hac];split <;> simp [yEc]
def by8 (a b c d e f g h:Nat):Nat:=256*(256*(256*(256*(256*(256*(256*h+g)+f)+e)+d)+c)+b)+a
theorem and8 {a b c d e f g h:Nat} (k:Nat) (hk:k<256) (ha:a<256) (hb:b<256) (hc:c<256) (hd:d<256) (he:e<256) (hf:f<256) (hg:g<256) :
  by8 a b c d e f g h &&& by8 k k k k k k k k=by8 (a &&& k) (b &&& k) (c &&& k) (d &&& k) (e &&& k) (f &&& k) (g &&& k) (h &&& k):=by
 unfold by8;rw [Qg9 ha hk,Qg9 hb hk,Qg9 hc hk,Qg9 hd hk,Qg9 he hk,Qg9 hf hk,Qg9 hg hk]
def st1 (y:Nat):Nat:=(y &&& 170) / 2+(y &&& 85)
def st2 (y:Nat):Nat:=(y &&& 204) / 4+(y &&& 51)
def st3 (y : Nat) : Nat := (y + y / 16) % 16
def popN:Nat->Nat->Nat
 | 0,_=>0
 | k + 1, n => n % 2 + popN k (n / 2)
theorem pop8 : ∀ y, y < 256 -> st3 (st2 (st1 y)) = popN 8 y ∧ (y &&& 170) % 2 = 0 ∧ (st1 y &&& 204) % 4 = 0 ∧ st1 y < 256 ∧ st2 (st1 y) <= 68 := by decide +kernel
theorem popN_add:∀ (j k n:Nat),popN (j+k) n=popN j n+popN k (n / 2 ^ j)
 | 0,k,n=>by simp [popN]
 | j+1,k,n=>by
  rw [show j+1+k=(j+k)+1 by omega,popN,popN_add j k,popN,yzc,yyc (2 ^ j) 2,Nat.div_div_eq_div_mul];omega
theorem popN_low (q:Nat):∀ (j r:Nat),r<2 ^ j->popN j (2 ^ j*q+r)=popN j r
 | 0,r,_=>rfl
 | j+1,r,h=>by
  rw [popN,popN,yzc];rw [yzc] at h;have e1 : (2 ^ j * 2 * q + r) % 2 = r % 2 := by rw [Nat.mul_right_comm, yyc _ 2, Nat.mul_add_mod]
  have e2:(2 ^ j*2*q+r) / 2=2 ^ j*q+r / 2:=by rw [Nat.mul_right_comm,yyc _ 2,Nat.mul_add_div (by decide)]
  rw [e1,e2,popN_low q j (r / 2) (by omega)]
theorem pop_by8 {a b c d e f g h:Nat} (ha:a<256) (hb:b<256) (hc:c<256) (hd:d<256) (he:e<256) (hf:f<256) (hg:g<256) (hh:h<256) :
  popN 64 (by8 a b c d e f g h)=popN 8 a+(popN 8 b+(popN 8 c+(popN 8 d+(popN 8 e+(popN 8 f+(popN 8 g+popN 8 h)))))):=by
 have step:∀ k q r,r<256->popN (8+k) (256*q+r)=popN 8 r+popN k q:=fun k q r hr=>by
  rw [popN_add,popN_low q 8 r hr]
  congr 2
  show (256*q+r) / 256=q;omega
 unfold by8;rw [show 64=8+(8+(8+(8+(8+(8+(8+8)))))) from rfl,step _ _ _ ha,step _ _ _ hb,step _ _ _ hc,step _ _ _ hd,step _ _ _ he,step _ _ _ hf,step _ _ _ hg]
theorem exists_by8 {n:Nat} (h:n<18446744073709551616):∃ a b c d e f g h,n=by8 a b c d e f g h∧a<256∧b<256∧c<256∧d<256∧e<256∧f<256∧g<256∧h<256:=by
 refine ⟨n % 256, n / 256 % 256, n / 65536 % 256, n / 16777216 % 256, n / 4294967296 % 256, n / 1099511627776 % 256, n / 281474976710656 % 256, n / 72057594037927936 % 256, ?_, ?_, ?_, ?_, ?_, ?_, ?_, ?_, ?_⟩
 ·unfold by8;omega
 all_goals omega
theorem shr_and (x m k:Nat):(x / 2 ^ k) &&& m=(x &&& (m*2 ^ k)) / 2 ^ k:=by
 rw [← ysc,← ysc,Nat.shiftRight_and_distrib,ysc (m*2 ^ k),Nat.mul_div_cancel _ (Nat.pow_pos (by decide))]
def sw1 (x:Nat):Nat:=((x / 2 ^ 1) &&& 6148914691236517205)+(x &&& 6148914691236517205)
def sw2 (x:Nat):Nat:=((x / 2 ^ 2) &&& 3689348814741910323)+(x &&& 3689348814741910323)
def sw3 (x:Nat):Nat:=(x / 2 ^ 4+x) &&& 1085102592571150095
theorem sw1_by8 {a b c d e f g h:Nat} (ha:a<256) (hb:b<256) (hc:c<256) (hd:d<256) (he:e<256) (hf:f<256) (hg:g<256) (hh:h<256) :
  sw1 (by8 a b c d e f g h)=by8 (st1 a) (st1 b) (st1 c) (st1 d) (st1 e) (st1 f) (st1 g) (st1 h):=by
 unfold sw1;rw [shr_and,show 6148914691236517205*2 ^ 1=by8 170 170 170 170 170 170 170 170 from rfl,show 6148914691236517205=by8 85 85 85 85 85 85 85 85 from rfl,and8 170 (by decide) ha hb hc hd he hf hg,and8 85 (by decide) ha hb hc hd he hf hg];have pa:=(pop8 a ha).2.1;have pb:=(pop8 b hb).2.1;have pc:=(pop8 c hc).2.1;have pd:=(pop8 d hd).2.1;have pe:=(pop8 e he).2.1;have pf:=(pop8 f hf).2.1;have pg:=(pop8 g hg).2.1;have ph:=(pop8 h hh).2.1;unfold by8 st1;omega
theorem sw2_by8 {a b c d e f g h : Nat} (ha : a < 256) (hb : b < 256) (hc : c < 256) (hd : d < 256) (he : e < 256) (hf : f < 256) (hg : g < 256) (ma : (a &&& 204) % 4 = 0) (mb : (b &&& 204) % 4 = 0) (mc : (c &&& 204) % 4 = 0) (md : (d &&& 204) % 4 = 0) (me : (e &&& 204) % 4 = 0) (mf : (f &&& 204) % 4 = 0) (mg : (g &&& 204) % 4 = 0) (mh : (h &&& 204) % 4 = 0) :
  sw2 (by8 a b c d e f g h)=by8 (st2 a) (st2 b) (st2 c) (st2 d) (st2 e) (st2 f) (st2 g) (st2 h):=by
 unfold sw2;rw [shr_and,show 3689348814741910323*2 ^ 2=by8 204 204 204 204 204 204 204 204 from rfl,show 3689348814741910323=by8 51 51 51 51 51 51 51 51 from rfl,and8 204 (by decide) ha hb hc hd he hf hg,and8 51 (by decide) ha hb hc hd he hf hg];unfold by8 st2;omega
theorem and15 (z : Nat) : z &&& 15 = z % 16 := Nat.and_two_pow_sub_one_eq_mod z 4
theorem sw3_by8 {a b c d e f g h : Nat} (ha : a <= 68) (hb : b <= 68) (hc : c <= 68) (hd : d <= 68) (he : e <= 68) (hf : f <= 68) (hg : g <= 68) (hh : h <= 68) (na : a % 16 <= 4) (nb : b % 16 <= 4) (nc : c % 16 <= 4) (nd : d % 16 <= 4) (ne : e % 16 <= 4) (nf : f % 16 <= 4) (ng : g % 16 <= 4) (nh : h % 16 <= 4) :
  sw3 (by8 a b c d e f g h)=by8 (st3 a) (st3 b) (st3 c) (st3 d) (st3 e) (st3 f) (st3 g) (st3 h):=by
 unfold sw3;have e0 : by8 a b c d e f g h / 2 ^ 4 + by8 a b c d e f g h = by8 (a + a / 16 + 16 * (b % 16)) (b + b / 16 + 16 * (c % 16)) (c + c / 16 + 16 * (d % 16)) (d + d / 16 + 16 * (e % 16)) (e + e / 16 + 16 * (f % 16)) (f + f / 16 + 16 * (g % 16)) (g + g / 16 + 16 * (h % 16)) (h + h / 16) := by
  unfold by8;omega
 rw [e0,show 1085102592571150095=by8 15 15 15 15 15 15 15 15 from rfl,and8 15 (by decide) (by omega) (by omega) (by omega) (by omega) (by omega) (by omega) (by omega)];simp only [and15];unfold st3
 congr 1 <;> omega
theorem Qq8 : ∀ y, y < 256 -> st2 (st1 y) % 16 <= 4 ∧ st3 (st2 (st1 y)) <= 8 ∧ st2 (st1 y) < 256 ∧ st1 y < 256 := by decide +kernel
theorem sw_pop {n:Nat} (hn:n<18446744073709551616):∃ a b c d e f g h,sw3 (sw2 (sw1 n))=by8 a b c d e f g h∧a<=8∧b<=8∧c<=8∧d<=8∧e<=8∧f<=8∧g<=8∧h<=8∧popN 64 n=a+(b+(c+(d+(e+(f+(g+h)))))):=by
 obtain ⟨a,b,c,d,e,f,g,h,rfl,ha,hb,hc,hd,he,hf,hg,hh⟩:=exists_by8 hn;have A:=pop8 a ha;have B:=pop8 b hb;have C:=pop8 c hc;have D:=pop8 d hd;have E:=pop8 e he;have F:=pop8 f hf;have G:=pop8 g hg;have H:=pop8 h hh;have A':=Qq8 a ha;have B':=Qq8 b hb;have C':=Qq8 c hc;have D':=Qq8 d hd;have E':=Qq8 e he;have F':=Qq8 f hf;have G':=Qq8 g hg;have H':=Qq8 h hh
 rw [sw1_by8 ha hb hc hd he hf hg hh,sw2_by8 A'.2.2.2 B'.2.2.2 C'.2.2.2 D'.2.2.2 E'.2.2.2 F'.2.2.2 G'.2.2.2 A.2.2.1 B.2.2.1 C.2.2.1 D.2.2.1 E.2.2.1 F.2.2.1 G.2.2.1 H.2.2.1,
  sw3_by8 A.2.2.2.2 B.2.2.2.2 C.2.2.2.2 D.2.2.2.2 E.2.2.2.2 F.2.2.2.2 G.2.2.2.2 H.2.2.2.2 A'.1 B'.1 C'.1 D'.1 E'.1 F'.1 G'.1 H'.1,pop_by8 ha hb hc hd he hf hg hh]
 refine ⟨_,_,_,_,_,_,_,_,rfl,A'.2.1,B'.2.1,C'.2.1,D'.2.1,E'.2.1,F'.2.1,G'.2.1,H'.2.1,?_⟩;rw [A.1,B.1,C.1,D.1,E.1,F.1,G.1,H.1]
theorem Qwb {a b c d e f g h:Nat} (ha:a<256):by8 a b c d e f g h / 256=by8 b c d e f g h 0:=by
 unfold by8;omega
theorem by8_add (a b c d e f g h a' b' c' d' e' f' g' h':Nat):by8 a b c d e f g h+by8 a' b' c' d' e' f' g' h'=by8 (a+a') (b+b') (c+c') (d+d') (e+e') (f+f') (g+g') (h+h'):=by
 unfold by8;omega
theorem by8_lt {a b c d e f g h:Nat} (ha:a<=64) (hb:b<=64) (hc:c<=64) (hd:d<=64) (he:e<=64) (hf:f<=64) (hg:g<=64) (hh:h<=64):by8 a b c d e f g h<9223372036854775808:=by
 unfold by8;omega
theorem by8_mod {a b c d e f g h : Nat} (ha : a < 128) : by8 a b c d e f g h % 128 = a := by
 unfold by8;generalize 256*(256*(256*(256*(256*(256*h+g)+f)+e)+d)+c)+b=q;omega
theorem sum_low {a b c d e f g h:Nat} (ha:a<=8) (hb:b<=8) (hc:c<=8) (hd:d<=8) (he:e<=8) (hf:f<=8) (hg:g<=8) (hh:h<=8) (x4 x5 x6:Nat) (h4:x4=by8 a b c d e f g h+by8 a b c d e f g h / 256) (h5:x5=x4+x4 / 65536) (h6:x6=x5+x5 / 4294967296) :
  x6 % 128 = a + (b + (c + (d + (e + (f + (g + h)))))) ∧ x4 < 9223372036854775808 ∧ x5 < 9223372036854775808 ∧ x6 < 9223372036854775808 := by
 have d2:∀ x,x / 65536=x / 256 / 256:=fun x=>by omega
 have d4:∀ x,x / 4294967296=x / 256 / 256 / 256 / 256:=fun x=>by omega
 have e4:x4=by8 (a+b) (b+c) (c+d) (d+e) (e+f) (f+g) (g+h) (h+0):=by rw [h4,Qwb (by omega),by8_add]
 have e5:x5=by8 (a+b+(c+d)) (b+c+(d+e)) (c+d+(e+f)) (d+e+(f+g)) (e+f+(g+h)) (f+g+(h+0)) (g+h+0) (h+0+0):=by
  rw [h5,d2,e4,Qwb (by omega),Qwb (by omega),by8_add]
 have e6:x6=by8 (a+b+(c+d)+(e+f+(g+h))) (b+c+(d+e)+(f+g+(h+0))) (c+d+(e+f)+(g+h+0)) (d+e+(f+g)+(h+0+0)) (e+f+(g+h)+0) (f+g+(h+0)+0) (g+h+0+0) (h+0+0+0):=by
  rw [h6,d4,e5,Qwb (by omega),Qwb (by omega),Qwb (by omega),Qwb (by omega),by8_add]
 refine ⟨?_,?_,?_,?_⟩
 ·rw [e6,by8_mod (by omega)];omega
 ·rw [e4];exact by8_lt (by omega) (by omega) (by omega) (by omega) (by omega) (by omega) (by omega) (by omega)
 ·rw [e5];exact by8_lt (by omega) (by omega) (by omega) (by omega) (by omega) (by omega) (by omega) (by omega)
 ·rw [e6];exact by8_lt (by omega) (by omega) (by omega) (by omega) (by omega) (by omega) (by omega) (by omega)
end Go.Fw
namespace Go.Proofs.YtackngeeehiegaaGreatDoor
set_option linter.unusedSimpArgs false
set_option linter.unusedVariables false
open Go.Fw
theorem same_go {α:Type} (d:α) (b:List α) (e:α->α->Bool) (he:∀ x y,e x y=true ↔ x=y) (G:List α->Nat->Bool) (h0:∀ i,G [] i=true) (h1:∀ x r i,G (x :: r) i=bif !(e x (b.getD i d)) then false else G r (i+1)) :
  ∀ (l:List α) (i:Nat),i+l.length=b.length->(G l i=true ↔ l=b.drop i)
 | [],i,h=>by
  rw [h0,Qv0 (by simp at h;omega)];simp
 | x :: r,i,h=>by
  have hi:i<b.length:=by simp at h;omega
  rw [h1,Qq0 d hi];cases hx:e x (b.getD i d) with
  | false =>
   have hne:x ≠ b.getD i d:=fun hq=>by rw [(he _ _).2 hq] at hx;cases hx
   simp only [yTb,cond_true];exact ⟨fun h=>(nomatch h),fun h=>absurd (List.cons.inj h).1 hne⟩
  | true =>
   have hq:=(he _ _).1 hx;have:=same_go d b e he G h0 h1 r (i+1) (by simp at h ⊢;omega);simp only [ygb,cond_false];rw [this,hq];simp
theorem QSc {α:Type} (d:α) (a b:List α) (e:α->α->Bool) (he:∀ x y,e x y=true ↔ x=y) (G:List α->Nat->Bool) (h0:∀ i,G [] i=true) (h1:∀ x r i,G (x :: r) i=bif !(e x (b.getD i d)) then false else G r (i+1)) :
  (bif ((a.length:Int)!=(b.length:Int)) then false else G a 0)=true ↔ a=b:=by
 cases hl:((a.length:Int)!=(b.length:Int)) with
 | true =>
  have:(a.length:Int) ≠ (b.length:Int):=by simpa using hl
  simp only [cond_true];refine ⟨fun h=>(nomatch h),fun h=>?_⟩;subst h;exact absurd rfl this
 | false =>
  have h:(a.length:Int)=(b.length:Int):=by simpa using hl
  simp only [cond_false];have:=same_go d b e he G h0 h1 a 0 (by omega);simpa using this
theorem bytes_inj (a b:ByteArray):(ByteArray.toList a==ByteArray.toList b)=true ↔ a=b:=by
 rw [beq_iff_eq,ByteArray.toList_eq,ByteArray.toList_eq];refine ⟨fun h=>?_,fun h=>by rw [h]⟩;exact ByteArray.ext (Array.toList_inj.1 h)
theorem bytes_inj2 (a b:ByteArray):ByteArray.toList a=ByteArray.toList b ↔ a=b:=by
 rw [← bytes_inj,beq_iff_eq]
theorem bytes_beq (a b:ByteArray):(a==b)=true ↔ a=b:=by
 cases a with|mk a=>cases b with|mk b =>
 show (a==b)=true ↔ ByteArray.mk a=ByteArray.mk b;simp
theorem equal_Alt (a b:List Alt):QV5 a b=true ↔ a=b :=
 QSc zA a b (fun x y=>((x.nodes==y.nodes)&&(x.wall==y.wall))) (fun x y=>by cases x;cases y;simp) (QB4 b) (fun _=>rfl) (fun _ _ _=>rfl)
theorem equal_Dep (a b:List Dep):QW5 a b=true ↔ a=b :=
 QSc zC a b (fun x y=>((x.how==y.how)&&(x.job==y.job))) (fun x y=>by cases x;cases y;simp) (QC4 b) (fun _=>rfl) (fun _ _ _=>rfl)
theorem shape_same (a b:Shape):Qd9 a b=true ↔ a=b:=by
 cases a;cases b;simp only [Qd9,yca,beq_iff_eq,equal_Alt,Shape.mk.injEq]
 grind
theorem ref07_sameAlts (a b:List Alt):Q67 a b=true ↔ a=b :=
 QSc zA a b (fun x y=>!((x.nodes != y.nodes)||(x.wall != y.wall))) (fun x y=>by cases x;cases y;simp) (Qj4 b) (fun _=>rfl) (fun _ _ _=>by rw [Qj4,Bool.not_not])
theorem ref07_same (a b:Shape):QQ6 a b=true ↔ a=b:=by
 cases a;cases b;simp only [QQ6,yca,beq_iff_eq,ref07_sameAlts,Shape.mk.injEq]
 grind
theorem QJc (a b:Job):∀ (l:List Dep) (i:Nat),i+l.length=b.after.length->(ref14_Same_g1 a b l i=true ↔ (l=b.after.drop i∧ref14_Same_g1 a b [] 0=true))
 | [],i,h=>by
  rw [Qv0 (by simp at h;omega)];simp [ref14_Same_g1]
 | x :: r,i,h=>by
  have hi:i<b.after.length:=by simp at h;omega
  rw [ref14_Same_g1.eq_2,Qq0 zC hi];have ih:=QJc a b r (i+1) (by simp at h ⊢;omega);cases hx:((x.how==(b.after.getD i zC).how)&&(x.job==(b.after.getD i zC).job)) with
  | false =>
   have hne:x ≠ b.after.getD i zC:=fun hq=>by rw [hq] at hx;simp at hx
   simp only [yTb,cond_true];exact ⟨fun h=>(nomatch h),fun h=>absurd (List.cons.inj h.1).1 hne⟩
  | true =>
   have hq:x=b.after.getD i zC:=by
    revert hx;cases x;cases (b.after.getD i zC);simp
   simp only [ygb,cond_false];rw [ih,hq];simp
theorem ref14_same (a b:Job):QW7 a b=true ↔ a=b:=by
 unfold QW7;cases hl:((a.after.length:Int)!=(b.after.length:Int)) with
 | true =>
  have:(a.after.length:Int) ≠ (b.after.length:Int):=by simpa using hl
  simp only [ykc,cond_true];exact ⟨fun h=>(nomatch h),fun h=>absurd (by rw [h]) this⟩
 | false =>
  have hl':(a.after.length:Int)=(b.after.length:Int):=by simpa using hl
  cases h1:QQ6 a.shape b.shape with
  | false =>
   have:a.shape ≠ b.shape:=fun h=>by rw [(ref07_same _ _).2 h] at h1;cases h1
   simp only [yTb,ymc,cond_true];exact ⟨fun h=>(nomatch h),fun h=>absurd (by rw [h]) this⟩
  | true =>
   have e1:=(ref07_same _ _).1 h1;simp only [ygb,y7b,cond_false];rw [QJc a b a.after 0 (by omega)];simp only [ref14_Same_g1,yqb,yca,beq_iff_eq,bytes_inj2];cases a;cases b;simp only at e1;simp only [Job.mk.injEq]
   grind
theorem ref15_same (a b:List Job):QX7 a b=true ↔ a=b :=
 QSc zG a b QW7 ref14_same (QQ7 b) (fun _=>rfl) (fun _ _ _=>rfl)
theorem QG4 {s:State} (h:Qy1 s=0):Q50 s.nodes=0∧Qr1 s.jobs=0:=by
 unfold Qy1 at h;cases h1:(Qb1 s != 0) with
 | true=>rw [h1] at h;cases h
 | false =>
  have hr:Qb1 s=0:=by simpa using h1
  unfold Qb1 at hr;cases h2:(((((decide (s.now<0))||(decide (s.now > 1000000)))||((Q50 s.nodes)!=0))||((Qr1 s.jobs)!=0))||((QI4 s.books)!=0)) with
  | true=>rw [h2] at hr;cases hr
  | false =>
   obtain ⟨h3,_⟩:=or_f h2;obtain ⟨h4,h5⟩:=or_f h3;obtain ⟨_,h6⟩:=or_f h4;exact ⟨by simpa using h6,by simpa using h5⟩
theorem check_held (s:State) (a b:Int) (c:List (Int × Job)):∀ (l:List Resize) (i:Nat) (c2:List (Int × Resize)),QK1 s a b c l i c2=0 ->
  c.all (fun (en:Int × Job)=>(bif ((QW2 s.nodes en.1)!=en.2.nodes) then false else true))=true
 | [],i,c2,h=>by
  rw [QK1] at h;cases h1:((((!true)||(!(Qf1 s.nextJob a)))||(!(Qf1 s.nextBook b)))||(!(Q63 s c c2))) with
  | true=>rw [h1] at h;cases h
  | false =>
   rw [h1] at h;simp only [cond_false] at h;cases h2:c.all (fun (en:Int × Job)=>(bif ((QW2 s.nodes en.1)!=en.2.nodes) then false else true)) with
   | true=>rfl
   | false=>rw [h2] at h;cases h
 | x :: r,i,c2,h=>by
  rw [QK1] at h;cases h1:(((!(getM x.job c).isSome)||((decide ((i:Int) > 0))&&(decide ((s.resizes.getD (Int.toNat (w64 ((i:Int) - 1))) zH).job >= x.job))))||(!(Qt3 s x ((getM x.job c).getD zG)))) with
  | true=>rw [h1] at h;cases h
  | false =>
   rw [h1] at h;exact check_held s a b c r (i+1) _ h
theorem setM_mem {α β:Type} [BEq α] [LawfulBEq α] (k:α) (v:β):∀ l:List (α × β),(k,v) ∈ setM k v l
 | []=>by simp [setM]
 | p :: r=>by
  rw [setM];cases hk:k==p.1 with
  | true=>simp
  | false=>simp [setM_mem k v r]
theorem setM_keep {α β:Type} [BEq α] [LawfulBEq α] (k k':α) (v v':β) (hne:k ≠ k'):∀ l:List (α × β),(k,v) ∈ l->(k,v) ∈ setM k' v' l
 | [],h=>nomatch h
 | p :: r,h=>by
  rw [setM];cases hk:k'==p.1 with
  | true =>
   have e:=eq_of_beq hk;rcases List.mem_cons.1 h with h|h
   ·exact absurd (by rw [e,← h]) hne
   ·exact yga _ h
  | false =>
   rcases List.mem_cons.1 h with h|h
   ·rw [← h];exact yma ..
   ·exact yga _ (setM_keep k k' v v' hne r h)
theorem Q66 (x:Job):∀ (l:List Job) (i:Nat) (c:List (Int × Job)),((x.id,x) ∈ c∧(∀ y ∈ l,y.id ≠ x.id))∨(x ∈ l∧x.state=2∧l.Pairwise (fun a b=>a.id<b.id))->(x.id,x) ∈ QA0 l i c
 | [],i,c,h=>by
  rcases h with ⟨h,_⟩|⟨h,_⟩
  ·exact h
  ·exact nomatch h
 | y :: r,i,c,h=>by
  rw [QA0];rcases h with ⟨h,hn⟩|⟨h,hs,hp⟩
  ·have hy:=hn y (yma ..);cases (y.state==2) with
   | true=>exact Q66 x r (i+1) _ (.inl ⟨setM_keep _ _ _ _ (Ne.symm hy) c h,fun z hz=>hn z (yga _ hz)⟩)
   | false=>exact Q66 x r (i+1) _ (.inl ⟨h,fun z hz=>hn z (yga _ hz)⟩)
  ·obtain ⟨h1,h2⟩:=List.pairwise_cons.1 hp;rcases List.mem_cons.1 h with rfl|h
   ·rw [beq_iff_eq.2 hs];exact Q66 x r (i+1) _ (.inl ⟨setM_mem _ _ c,fun z hz=>by have:=h1 z hz;omega⟩)
   ·cases (y.state==2) with
    | true=>exact Q66 x r (i+1) _ (.inr ⟨h,hs,h2⟩)
    | false=>exact Q66 x r (i+1) _ (.inr ⟨h,hs,h2⟩)
theorem table_rows (l:List Job) (hn:l.length<=40):∀ (r:List Job) (i:Nat),r=l.drop i->i+r.length=l.length->QV4 l r i=0 ->
  (∀ x ∈ r,Q61 x=0)∧r.Pairwise (fun a b=>a.id<b.id)∧(∀ y,0<i->l[i - 1]? = some y -> ∀ x ∈ r,y.id<x.id)
 | [],i,_,_,_=>⟨fun x hx=>(nomatch hx),.nil,fun _ _ _ x hx=>(nomatch hx)⟩
 | x :: r,i,hr,hlen,h=>by
  simp only [yka] at hlen;rw [QV4] at h;cases h1:(((Q61 x)!=0)||((decide ((i:Int) > 0))&&(decide ((l.getD (Int.toNat (w64 ((i:Int) - 1))) zG).id >= x.id)))) with
  | true=>rw [h1] at h;cases h
  | false =>
   rw [h1] at h;obtain ⟨h2,h3⟩:=or_f h1;have hx:Q61 x=0:=by simpa using h2
   have hi:l[i]? = some x:=by
    have:=congrArg (fun q=>q[0]?) hr;simpa [yDa] using this.symm
   have hr':r=l.drop (i+1):=by rw [← yxb,← hr];rfl
   obtain ⟨ih1,ih2,ih3⟩:=table_rows l hn r (i+1) hr' (by omega) h;have hxr:∀ z ∈ r,x.id<z.id:=ih3 x (by omega) hi;refine ⟨fun z hz=>?_,List.pairwise_cons.2 ⟨hxr,ih2⟩,fun y hi0 hy z hz=>?_⟩
   ·rcases List.mem_cons.1 hz with rfl|hz
    ·exact hx
    ·exact ih1 z hz
   ·have hyx:y.id<x.id:=by
     have hw:w64 ((i:Int) - 1)=(i:Int) - 1:=wr (by omega);have ht:Int.toNat ((i:Int) - 1)=i - 1:=by omega
     have hg:l.getD (i - 1) zG=y:=by simp [List.getD,hy]
     rw [hw,ht,hg] at h3;simp at h3;omega
    rcases List.mem_cons.1 hz with rfl|hz
    ·exact hyx
    ·exact Int.lt_trans hyx (hxr z hz)
theorem QM4 {j:Job} (h:Q61 j=0):1<=j.id∧j.id<=99999:=by
 unfold Q61 at h;cases h1:((((((decide (j.id<1))||(decide (j.id > 99999)))||(!(Qj2 j.born)))||(j.used != (Ql4 j.used)))||((Qc4 (Qk0 j))!=0))||(Qp0 j.after (fun (y:Dep)=>(decide (y.job >= j.id))))) with
 | true=>rw [h1] at h;cases h
 | false =>
  obtain ⟨h2,_⟩:=or_f h1;obtain ⟨h3,_⟩:=or_f h2;obtain ⟨h4,_⟩:=or_f h3;obtain ⟨h5,_⟩:=or_f h4;simp at h5;omega
theorem job_runs {j:Job} (h:Q61 j=0) (hs:j.state=2):QU2 j.shape j.choice (Q10 j.nodes)=true:=by
 unfold Q61 at h;cases h1:((((((decide (j.id<1))||(decide (j.id > 99999)))||(!(Qj2 j.born)))||(j.used != (Ql4 j.used)))||((Qc4 (Qk0 j))!=0))||(Qp0 j.after (fun (y:Dep)=>(decide (y.job >= j.id))))) with
 | true=>rw [h1] at h;cases h
 | false =>
  rw [h1,hs] at h;cases h2:Ql1 j with
  | false=>rw [h2] at h;cases h
  | true =>
   unfold Ql1 at h2;revert h2;cases (((((((!(QK0 j j.choice).2)||j.held)||(!(Qj2 j.start)))||(!(Qj2 j.promise)))||(decide (j.promise<j.start)))||(!(Qj2 j.limit)))||((w64 (j.limit - j.start))!=(QK0 j j.choice).1.wall)) with
   | true=>intro h2;cases h2
   | false =>
    intro h2;simp only [cond_false,yca] at h2;exact h2.2
theorem Qf6 {l:List Job} (h:l.Pairwise (fun a b=>a.id<b.id)):∀ (a b:Nat) (x y:Job),a<b->l[a]? = some x->l[b]? = some y->x.id<y.id:=by
 intro a b x y hab ha hb;obtain ⟨ha1,rfl⟩:=List.getElem?_eq_some_iff.1 ha;obtain ⟨hb1,rfl⟩:=List.getElem?_eq_some_iff.1 hb;exact List.pairwise_iff_getElem.1 h a b ha1 hb1 hab
theorem Q12 {l:List Job} (h:Qr1 l=0):l.length<=40∧(∀ x ∈ l,Q61 x=0)∧l.Pairwise (fun a b=>a.id<b.id):=by
 unfold Qr1 at h;cases h1:(decide ((l.length:Int) > 40)) with
 | true=>rw [h1] at h;cases h
 | false =>
  rw [h1] at h;have h2:=yea h1;obtain ⟨a,b,_⟩:=table_rows l (by omega) l 0 (by simp) (by omega) h;exact ⟨by omega,a,b⟩
section
variable {s:State}
theorem Qff (h:Qj0 s=0):Qy1 s=0 ∧ ∀ x ∈ s.jobs,x.state=2->QW2 s.nodes x.id=x.nodes:=by
 have h0:=h;unfold Qj0 at h;cases h1:(Qy1 s != 0) with
 | true=>rw [h1] at h;cases h
 | false =>
  rw [h1] at h;have hp:Qy1 s=0:=by simpa using h1
  refine ⟨hp,fun x hx hs=>?_⟩;obtain ⟨_,_,ho⟩:=Q12 (QG4 hp).2;have hall:=check_held s _ _ _ _ _ _ h;have hm:=Q66 x s.jobs 0 [] (.inr ⟨hx,hs,ho⟩);have:=List.all_eq_true.1 hall _ hm;simp only at this;cases hq:(QW2 s.nodes x.id != x.nodes) with
  | false=>simpa using hq
  | true=>rw [hq] at this;cases this
end
theorem QTc (l:List Job) (id:Int) (hn:l.length<=40) (hid:1<=id∧id<=99999) (hb:∀ y ∈ l,1<=y.id∧y.id<=99999) (hs:∀ (a b:Nat) (x y:Job),a<b->l[a]? = some x->l[b]? = some y->x.id<y.id) (p:Nat) (x:Job) (hp:l[p]? = some x) (hx:x.id=id) :
  ∀ (m:Nat) (i j:Int),Int.toNat (j - i)<m->0<=i->i<=(p:Int)->(p:Int)<=j->j<=(l.length:Int)->(∀ k:Nat,j<=(k:Int) -> ∀ y,l[k]? = some y->id<=y.id) ->
   (Qn0 l id (fun (y:Job) (y1:Int)=>(w64 (y.id - y1))) m i j).1=(p:Int)
 | 0,i,j,hm,_,_,_,_,_=>absurd hm (by omega)
 | m+1,i,j,hm,h0,h1,h2,h3,h4=>by
  have hpl:p<l.length:=(List.getElem?_eq_some_iff.1 hp).1;rw [Qn0];cases hd:decide (i<j) with
  | false =>
   have:=yea hd;show i=(p:Int);omega
  | true =>
   have hlt:=yfa hd;rw [Qia h0 hlt h3 (by omega)];simp only [cond_true];obtain ⟨q,hq⟩:∃ q:Nat,(i+j) / 2=(q:Int):=⟨((i+j) / 2).toNat,by omega⟩;rw [hq];have hql:q<l.length:=by omega
   have hy:l[q]? = some l[q]:=yaa hql;have hyd:l.getD (Int.toNat (q:Int)) zG=l[q]:=by simp [List.getD,hy]
   have hyb:=hb l[q] (y7a hql);rw [hyd];have hw:w64 ((l[q]).id - id)=(l[q]).id - id:=wr (by omega);rw [hw];cases hc:decide ((l[q]).id - id<0) with
   | true =>
    have hc':=yfa hc;have hw2:w64 ((q:Int)+1)=(q:Int)+1:=wr (by omega);simp only [cond_true];rw [hw2];refine QTc l id hn hid hb hs p x hp hx m _ _ (by omega) (by omega) ?_ h2 h3 h4;rcases ypa q p with h|h
    ·omega
    ·rcases yGb h with h|h
     ·subst h;rw [hy] at hp;cases hp;omega
     ·have:=hs p q x _ h hp hy;omega
   | false =>
    have hc':=yea hc;simp only [cond_false];refine QTc l id hn hid hb hs p x hp hx m _ _ (by omega) h0 h1 ?_ (by omega) ?_
    ·rcases ypa q p with h|h
     ·have:=hs q p _ x h hy hp;omega
     ·omega
    ·intro k hk y hky;rcases yGb (show q<=k by omega) with h|h
     ·subst h;rw [hy] at hky;cases hky;omega
     ·have:=hs q k _ y h hy hky;omega
theorem QQ9 {l:List Job} (h:Qr1 l=0) {p:Nat} {x:Job} (hp:l[p]? = some x):QJ0 l x.id=(x,true):=by
 obtain ⟨hn,hj,hs⟩:=Q12 h;have hb:∀ y ∈ l,1<=y.id∧y.id<=99999:=fun y hy=>QM4 (hj y hy)
 have hx:=hb x (yIa hp);have hpl:p<l.length:=(List.getElem?_eq_some_iff.1 hp).1
 have hpi:(Qd0 l x.id).1=(p:Int) :=
  QTc l x.id hn hx hb (Qf6 hs) p x hp rfl _ 0 (l.length:Int) (by omega) (by omega) (by omega) (by omega) (by omega) (fun k hk y hy=>absurd (List.getElem?_eq_some_iff.1 hy).1 (by omega))
 have hp2:(Qd0 l x.id).2=true:=by
  have e:(Qd0 l x.id).2=((decide ((Qd0 l x.id).1<(l.length:Int)))&&((w64 ((l.getD (Int.toNat (Qd0 l x.id).1) zG).id - x.id))==0)):=rfl;rw [e,hpi,yoa];have hg:l.getD p zG=x:=by simp [List.getD,hp]
  rw [hg,Int.sub_self];have h1:decide ((p:Int)<(l.length:Int))=true:=yha (by omega);rw [h1]
  rfl
 unfold QJ0;rw [h,hp2,hpi];have hk:Qh5 x.id=true:=by unfold Qh5;simp;omega
 rw [hk];have hw:w64 ((p:Int)+1)=(p:Int)+1:=wr (by omega);have ht:Int.toNat ((p:Int)+1)=p+1:=by omega
 rw [hw,ht,yoa];show ((List.drop p (List.take (p+1) l)).getD 0 zG,true)=(x,true);have:(List.drop p (List.take (p+1) l)).getD 0 zG=x:=by
  simp [List.getD,yDa,yOa,hp]
 rw [this]
section
variable {s:State}
end
theorem Q8a {l:List Job} (h:Qr1 l=0) (id:Int) (hid:∀ x ∈ l,x.id ≠ id):(QJ0 l id).2=false:=by
 obtain ⟨hn,hj,_⟩:=Q12 h;unfold QJ0;rw [h];cases hk:Qh5 id with
 | false=>rfl
 | true =>
  unfold Qh5 at hk;simp only [yca,yda] at hk;cases hp:(Qd0 l id).2 with
  | false=>rfl
  | true =>
   exfalso;obtain ⟨h0,h1⟩:=Q94 l id (by omega) (by rw [hp];rfl);have e:(Qd0 l id).2=((decide ((Qd0 l id).1<(l.length:Int)))&&((w64 ((l.getD (Int.toNat (Qd0 l id).1) zG).id - id))==0)):=rfl;rw [hp] at e;have e:=e.symm;simp only [yca,beq_iff_eq] at e;have hm:l.getD (Int.toNat (Qd0 l id).1) zG ∈ l:=by
    rw [List.getD,yaa (show Int.toNat (Qd0 l id).1<l.length by omega)];exact y7a _
   have hb:=QM4 (hj _ hm);have hw:w64 ((l.getD (Int.toNat (Qd0 l id).1) zG).id - id)=(l.getD (Int.toNat (Qd0 l id).1) zG).id - id:=wr (by omega);rw [hw] at e;exact hid _ hm (by omega)
theorem QS7 {α:Type} (f:α->Bool) (G:List α->Nat->Int) (h0:∀ i,G [] i = -1) (h1:∀ x r i,G (x :: r) i=bif f x then (i:Int) else G r (i+1)):∀ (l:List α) (i:Nat),decide (G l i >= 0)=l.any f
 | [],i=>by rw [h0];rfl
 | x :: r,i=>by
  rw [h1,y8b];cases f x with
  | true=>simp
  | false=>simpa using QS7 f G h0 h1 r (i+1)
theorem QOe (l:List Node) (f:Node->Bool):QH0 l f=l.any f:=QS7 f _ (fun _=>rfl) (fun _ _ _=>rfl) l 0
theorem any_Alt (l:List Alt) (f:Alt->Bool):QV0 l f=l.any f:=QS7 f _ (fun _=>rfl) (fun _ _ _=>rfl) l 0
theorem any_Dep (l:List Dep) (f:Dep->Bool):Qp0 l f=l.any f:=QS7 f _ (fun _=>rfl) (fun _ _ _=>rfl) l 0
theorem Q7a (l:List Int) (v:Int):QE1 l v=l.any (fun x=>v==x):=QS7 (fun x=>v==x) _ (fun _=>rfl) (fun _ _ _=>rfl) l 0
theorem fine_eq (x:Node):QG0 x=Qu5 x:=by
 unfold QG0 Qu5;simp only [Q7a,QH2,y8b,List.any_nil];obtain ⟨st,jb,ep,dr,wa,si,as_⟩:=x;dsimp only
 by_cases h0:st=0
 ·subst h0;grind
 by_cases h1:st=1
 ·subst h1;grind
 by_cases h2:st=2
 ·subst h2;grind
 by_cases h3:st=3
 ·subst h3;grind
 by_cases h4:st=4
 ·subst h4;grind
 grind
theorem loop_all {α:Type} (f:α->Bool) (e:Int) (he:e ≠ 0) (G:List α->Nat->Int) (h0:∀ i,G [] i=0) (h1:∀ x r i,G (x :: r) i=bif !(f x) then e else G r (i+1)):∀ (l:List α) (i:Nat),G l i=bif l.any (fun x=>!(f x)) then e else 0
 | [],i=>h0 i
 | x :: r,i=>by
  rw [h1,y8b];cases f x with
  | true=>simpa using loop_all f e he G h0 h1 r (i+1)
  | false=>rfl
theorem QW3 (l:List Node):Q50 l=Q34 l:=by
 unfold Q50 Q34;rw [QOe,loop_all Qu5 120 (by decide) QK8 (fun _=>rfl) (fun _ _ _=>rfl)];have e:(fun y=>!(QG0 y))=(fun y=>!(Qu5 y)):=by funext y;rw [fine_eq]
 rw [e];have e2:decide ((l.length:Int)<1)=((l.length:Int)==0):=by
  rw [yLa];simp only [yda,beq_iff_eq];omega
 rw [e2];cases ((l.length:Int)==0) <;> cases (decide ((l.length:Int) > 48)) <;> cases l.any (fun y=>!(Qu5 y)) <;> rfl
theorem ord_eq {α:Type} (d:α) (key:α->Int) (bad:α->Bool) (e:Int) (N:Nat) (l:List α) (hl:l.length<=4294967296) (GP:List α->Nat->Int) (GR:List α->Int->Nat->Int)
  (p0:∀ i,GP [] i=0) (p1:∀ x ∈ l,∀ r i,GP (x :: r) i=bif bad x||(decide ((i:Int) > 0)&&decide (key (l.getD (Int.toNat (w64 ((i:Int) - 1))) d) >= key x)) then e else GP r (i+1))
  (r0:∀ last i,GR [] last i=0) (r1:∀ x ∈ l,∀ r last i,0<=last->GR (x :: r) last i=bif ((i:Int)==(N:Int))||bad x||decide (key x<=last) then e else GR r (key x) (i+1))
  (hb:∀ x,bad x=false->key x >= 1):∀ (r:List α) (i:Nat) (last:Int),r=l.drop i->i+r.length=l.length->i<=N->(i=0->last=0)->(0<i -> ∃ y,l[i - 1]? = some y∧last=key y∧key y >= 1)->(bif decide (l.length > N) then e else GP r i)=GR r last i
 | [],i,last,hr,hlen,hN,_,_=>by
  simp only [yVa,y1a] at hlen;rw [p0,r0,yja (by omega)]
  rfl
 | x :: r,i,last,hr,hlen,hN,hl0,hl1=>by
  simp only [yka] at hlen;have hi:l[i]? = some x:=by
   have:=congrArg (fun q=>q[0]?) hr;simpa [yDa] using this.symm
  have hx:x ∈ l:=yIa hi;have hr':r=l.drop (i+1):=by rw [← yxb,← hr];rfl
  have hlast:0<=last:=by
   rcases yMa i with h|h
   ·rw [hl0 h];exact ySa 0
   ·obtain ⟨y,_,e,h⟩:=hl1 h;omega
  have hord:bad x=false->(decide ((i:Int) > 0)&&decide (key (l.getD (Int.toNat (w64 ((i:Int) - 1))) d) >= key x))=decide (key x<=last):=by
   intro hbx;have hk:=hb x hbx;rcases yMa i with h|h
   ·subst h;rw [hl0 rfl,yja (show ¬ ((0:Nat):Int) > 0 by omega),yja (show ¬ key x<=0 by omega)]
    rfl
   ·obtain ⟨y,hy,e,_⟩:=hl1 h;have hw:w64 ((i:Int) - 1)=(i:Int) - 1:=wr (by omega);have ht:Int.toNat ((i:Int) - 1)=i - 1:=by omega
    have hg:l.getD (i - 1) d=y:=by simp [List.getD,hy]
    rw [hw,ht,hg,yha (show (i:Int) > 0 by omega),e]
    rfl
  rw [p1 x hx,r1 x hx r last i hlast];cases hbx:bad x with
  | true =>
   simp only [ykc,ymc,cond_true];cases decide (l.length > N) <;> rfl
  | false =>
   rw [hord hbx];simp only [yXa,y7b];cases hk:decide (key x<=last) with
   | true =>
    simp only [ymc,cond_true];cases decide (l.length > N) <;> rfl
   | false =>
    simp only [y7b,cond_false];rcases ypa i N with h|h
    ·have:((i:Int)==(N:Int))=false:=by simp;omega
     rw [this];simp only [cond_false];exact ord_eq d key bad e N l hl GP GR p0 p1 r0 r1 hb r (i+1) (key x) hr' (by omega) (by omega) (by omega) (fun _=>⟨x,by simpa using hi,rfl,hb x hbx⟩)
    ·have:((i:Int)==(N:Int))=true:=by simp;omega
     rw [this,yha (show l.length > N by omega)]
     rfl
theorem Ql9 (l:List Book) (hl:l.length<=4294967296):QI4 l=Qg8 l:=by
 have h:=ord_eq zI (·.id) (fun b=>!(QR8 b)) 190 8 l hl (QF7 l) QR4 (fun _=>rfl) (fun _ _ _ _=>rfl) (fun _ _=>rfl) (fun x _ r last i hlast=>by
   rw [QR4]
   congr 1
   unfold QR8
   grind) (fun x hx=>by
   unfold QR8 at hx;simp at hx
   omega) l 0 0 (by simp) (by omega) (by omega) (fun _=>rfl) (fun h=>absurd h (by omega))
 unfold QI4 Qg8;rw [← h];have e:decide ((l.length:Int) > 8)=decide (l.length > 8):=by rw [yLa];simp only [yda];omega
 rw [e]
theorem order_eq (a b:Usage):decide (Ql7 a b >= 0) = !(QG9 a b):=by
 unfold Ql7 QG9 QKa QY0 QI3;simp only [beq_self_eq_true,ygb,cond_false];generalize Op.bytesLess (ByteArray.toList a.user) (ByteArray.toList b.user)=lu;generalize (ByteArray.toList a.user==ByteArray.toList b.user)=eu;generalize Op.bytesLess (ByteArray.toList a.account) (ByteArray.toList b.account)=la;generalize (ByteArray.toList a.account==ByteArray.toList b.account)=ea;revert lu eu la ea
 decide
theorem ledger_go (l:List Usage) (hl:l.length<=4294967296):∀ (r:List Usage) (i:Nat),i+r.length=l.length->i<=200->(bif decide (l.length > 200) then 2 else Q55 l r i)=Qa7 l r i
 | [],i,hlen,hi=>by
  simp only [yVa,y1a] at hlen;rw [yja (by omega)]
  rfl
 | x :: r,i,hlen,hi=>by
  simp only [yka] at hlen;rw [Q55,Qa7,order_eq];have e1:(((((!(Q06 x.user))||(!(Q06 x.account)))||(x.used != (Ql4 x.used)))||(decide (x.share<0)))||(decide (x.share > x.used)))=((((((!(Qk4 x.user))||(!(Qk4 x.account)))||(decide (x.used<0)))||(decide (x.used > 1000000000000)))||(decide (x.share<0)))||(decide (x.share > x.used))):=by
   unfold Q06 Qk4 Ql4 QL5
   grind
  have e2:(((((((i:Int)==200)||(!(Qk4 x.user)))||(!(Qk4 x.account)))||(decide (x.used<0)))||(decide (x.used > 1000000000000)))||(decide (x.share<0)))=(((i:Int)==200)||(((((!(Qk4 x.user))||(!(Qk4 x.account)))||(decide (x.used<0)))||(decide (x.used > 1000000000000)))||(decide (x.share<0)))):=by
   simp only [Bool.or_assoc]
  rw [e1,e2];rcases ypa i 200 with h|h
  ·have hh:((i:Int)==200)=false:=by simp;omega
   rw [hh,yXa,← ledger_go l hl r (i+1) (by omega) (by omega)];generalize ((((((!(Qk4 x.user))||(!(Qk4 x.account)))||(decide (x.used<0)))||(decide (x.used > 1000000000000)))||(decide (x.share<0)))||(decide (x.share > x.used)))=p;generalize ((decide ((i:Int) > 0))&&(!(QG9 (l.getD (Int.toNat (w64 ((i:Int) - 1))) zJ) x)))=q;cases p <;> cases q <;> cases decide (l.length > 200) <;> rfl
  ·have hh:((i:Int)==200)=true:=by simp;omega
   rw [hh,yha (show l.length > 200 by omega)]
   rfl
theorem QGf (l:List Usage) (hl:l.length<=4294967296):Qo4 l=QOb l:=by
 unfold Qo4 QOb;rw [← ledger_go l hl l 0 (by omega) (by omega)];have e:decide ((l.length:Int) > 200)=decide (l.length > 200):=by rw [yLa];simp only [yda];omega
 rw [e]
theorem g3_any (x:Alt):∀ (l:List Alt) (k:Nat),(Qm2 x l k).isLeft=l.any (fun y=>x.nodes==y.nodes) ∧ ∀ v,Qm2 x l k=Sum.inl v->v=70
 | [],k=>⟨rfl,fun v h=>by cases h⟩
 | y :: r,k=>by
  rw [Qm2,y8b];cases (x.nodes==y.nodes) with
  | true=>exact ⟨rfl,fun v h=>by cases h;rfl⟩
  | false=>exact g3_any x r (k+1)
def okAlt (a:Alt):Bool:=Qz1 a.nodes&&Qw2 a.wall
theorem g2_eq (s:Shape):∀ (r:List Alt) (i:Nat),r=s.alts.drop i->(Qp1 s r i=0 ↔ (∀ x ∈ r,okAlt x=true)∧r.Pairwise (fun a b=>a.nodes ≠ b.nodes))∧(Qp1 s r i=0∨Qp1 s r i=70)
 | [],i,_=>⟨⟨fun _=>⟨fun x hx=>(nomatch hx),.nil⟩,fun _=>rfl⟩,.inl rfl⟩
 | x :: r,i,hr=>by
  have hr':r=s.alts.drop (i+1):=by rw [← yxb,← hr];rfl
  obtain ⟨ih,ih2⟩:=g2_eq s r (i+1) hr';rw [Qp1,← hr'];cases hf:((!(Qz1 x.nodes))||(!(Qw2 x.wall))) with
  | true =>
   refine ⟨⟨fun h=>(by cases h),fun h=>?_⟩,.inr rfl⟩;have:=h.1 x (yma ..);unfold okAlt at this;simp at this hf;rcases hf with h|h <;> simp_all
  | false =>
   have hok:okAlt x=true:=by unfold okAlt;simp at hf;simp [hf]
   obtain ⟨h1,h2⟩:=g3_any x r (i+1);simp only [cond_false];cases hg:Qm2 x r (i+1) with
   | inl v =>
    have hv:=h2 v hg;subst hv;rw [hg] at h1;refine ⟨⟨fun h=>(by cases h),fun h=>?_⟩,.inr rfl⟩;obtain ⟨y,hy,he⟩:=List.any_eq_true.1 h1.symm;exact absurd (eq_of_beq he) ((List.pairwise_cons.1 h.2).1 y hy)
   | inr v =>
    rw [hg] at h1;show (Qp1 s r (i+1)=0 ↔ _)∧(Qp1 s r (i+1)=0∨Qp1 s r (i+1)=70);refine ⟨ih.trans ⟨fun h=>⟨fun y hy=>?_,List.pairwise_cons.2 ⟨fun y hy e=>?_,h.2⟩⟩,fun h=>⟨fun y hy=>h.1 y (yga _ hy),(List.pairwise_cons.1 h.2).2⟩⟩,ih2⟩
    ·rcases List.mem_cons.1 hy with rfl|hy
     ·exact hok
     ·exact h.1 y hy
    ·have:=(List.any_eq_true (p:=fun y:Alt=>x.nodes==y.nodes)).2 ⟨y,hy,beq_iff_eq.2 e⟩;rw [← h1] at this;cases this
theorem apart_iff (l:List Alt):∀ (r:List Alt) (i:Nat),r=l.drop i->(QM5 l r i=true ↔ (∀ x ∈ r,∀ y ∈ l.take i,x.nodes ≠ y.nodes)∧r.Pairwise (fun a b=>a.nodes ≠ b.nodes))
 | [],i,_=>⟨fun _=>⟨fun x hx=>(nomatch hx),.nil⟩,fun _=>rfl⟩
 | x :: r,i,hr=>by
  have hr':r=l.drop (i+1):=by rw [← yxb,← hr];rfl
  have hi:l[i]? = some x:=by
   have:=congrArg (fun q=>q[0]?) hr;simpa [yDa] using this.symm
  have ht:l.take (i+1)=l.take i++[x]:=by rw [List.take_add_one,hi];rfl
  have ih:=apart_iff l r (i+1) hr';rw [QM5,any_Alt];cases ha:(List.take i l).any (fun (y:Alt)=>(x.nodes==y.nodes)) with
  | true =>
   refine ⟨fun h=>(by cases h),fun h=>?_⟩;obtain ⟨y,hy,he⟩:=List.any_eq_true.1 ha;exact absurd (eq_of_beq he) (h.1 x (yma ..) y hy)
  | false =>
   have hno:∀ y ∈ l.take i,x.nodes ≠ y.nodes:=fun y hy e=>by
    have:=(List.any_eq_true (p:=fun y:Alt=>x.nodes==y.nodes)).2 ⟨y,hy,beq_iff_eq.2 e⟩;rw [ha] at this;cases this
   simp only [cond_false];rw [ih,ht];constructor
   ·rintro ⟨h1,h2⟩;refine ⟨fun z hz y hy=>?_,List.pairwise_cons.2 ⟨fun z hz=>?_,h2⟩⟩
    ·rcases List.mem_cons.1 hz with rfl|hz
     ·exact hno y hy
     ·exact h1 z hz y (List.mem_append.2 (.inl hy))
    ·exact Ne.symm (h1 z hz x (List.mem_append.2 (.inr (List.mem_singleton.2 rfl))))
   ·rintro ⟨h1,h2⟩;obtain ⟨h3,h4⟩:=List.pairwise_cons.1 h2;refine ⟨fun z hz y hy=>?_,h4⟩;rcases List.mem_append.1 hy with hy|hy
    ·exact h1 z (yga _ hz) y hy
    ·rw [List.mem_singleton.1 hy];exact Ne.symm (h3 z hz)
theorem fine_ok (a:Alt):Qe1 a=okAlt a:=by
 unfold Qe1 okAlt Qz1 Qw2;simp only [Bool.and_assoc]
theorem QO8 (s:Shape):Q02 s=QC1 s:=by
 unfold Q02 QC1
 by_cases h3:s.kind=3
 ·simp only [h3,beq_self_eq_true,cond_true,Q92,Qe1,Qz1,Qw2];have e1:((3:Int)==1)=false:=rfl;have e2:((3:Int)==2)=false:=rfl;simp only [e1,e2,cond_false];have e0:((s.alts.length:Int)==0) = !(decide ((s.alts.length:Int) > 0)):=by rw [yLa];simp only [beq_iff_eq,y5a,yCa];omega
  rw [e0]
  congr 1
  grind
 have e3:(s.kind==3)=false:=by simpa using h3
 obtain ⟨q1,q2⟩:=g2_eq s s.alts 0 (by simp);have ap:=apart_iff s.alts s.alts 0 (by simp);simp only [e3,cond_false]
 by_cases h2:s.kind=2
 ·simp only [h2,beq_self_eq_true,cond_true];have e1:((2:Int)==1)=false:=rfl;simp only [e1,cond_false,Q04,Q92,any_Alt,fine_ok];have e4:((((((((s.min==0)&&(s.max==0))&&(s.wall==0))&&(decide ((s.alts.length:Int) >= 1)))&&(decide ((s.alts.length:Int)<=6)))&&(Qd5 s.alts))&&(!(s.alts.any (fun (y:Alt)=>(!(okAlt y)))))))=(!(((((decide ((s.alts.length:Int)<1))||(decide ((s.alts.length:Int) > 6)))||(s.min != 0))||(s.max != 0))||(s.wall != 0))&&((Qd5 s.alts)&&(!(s.alts.any (fun (y:Alt)=>(!(okAlt y))))))):=by grind
  have e5:((Qd5 s.alts)&&(!(s.alts.any (fun (y:Alt)=>(!(okAlt y))))))=(Qp1 s s.alts 0==0):=by
   rw [yLa,beq_iff_eq,q1,yca];unfold Qd5;rw [ap];simp
   grind
  rw [e4,e5];cases (((((decide ((s.alts.length:Int)<1))||(decide ((s.alts.length:Int) > 6)))||(s.min != 0))||(s.max != 0))||(s.wall != 0)) with
  | true=>rfl
  | false =>
   rcases q2 with h|h <;> rw [h] <;> rfl
 have e2:(s.kind==2)=false:=by simpa using h2
 by_cases h1:s.kind=1
 ·have e6:((2:Int)==1)=false:=rfl;simp only [h1,beq_self_eq_true,cond_true];have e7:((1:Int)==2)=false:=rfl;have e8:((1:Int)!=1)=false:=rfl;simp only [e7,e8,cond_false,Q04,Q92,fine_ok]
  match hm:s.alts with
  | []=>rw [hm] at *;cases (s.min==0) <;> cases (s.max==0) <;> cases (s.wall==0) <;> rfl
  | [x] =>
   rw [hm] at q1 q2;have e9:okAlt x=(Qp1 s [x] 0==0):=by
    rw [yLa,beq_iff_eq,q1];simp
   show (bif !(((((s.min==0)&&(s.max==0))&&(s.wall==0))&&true)&&okAlt x) then (70:Int) else 0)=bif ((((false||false)||(s.min != 0))||(s.max != 0))||(s.wall != 0)) then 70 else Qp1 s [x] 0;rw [e9];unfold bne;cases (s.min==0) <;> cases (s.max==0) <;> cases (s.wall==0) <;> first|rfl|(rcases q2 with h|h <;> rw [h] <;> rfl)
  | x :: y :: r =>
   have l1:((((x :: y :: r).length:Nat):Int)==1)=false:=by simp;omega
   have l2:decide ((((x :: y :: r).length:Nat):Int) > 1)=true:=by simp;omega
   rw [l1,l2];simp
 have e1:(s.kind==1)=false:=by simpa using h1
 have e1':(s.kind != 1)=true:=by simpa using h1
 rw [e1,e2,e1']
 rfl
theorem cnt1 (n:Nat) (hn:n<18446744073709551616):wu64 ((wu64 (BitVec.ofInt 64 (Int.fdiv (n:Int) (2 ^ (min (Int.toNat 1) 64))) &&& BitVec.ofInt 64 6148914691236517205).toNat)+(wu64 (BitVec.ofInt 64 (n:Int) &&& BitVec.ofInt 64 6148914691236517205).toNat))=((sw1 n:Nat):Int):=by
 have e1:Int.fdiv (n:Int) (2 ^ (min (Int.toNat 1) 64))=((n / 2 ^ 1:Nat):Int):=Qvd n 1 (by decide);have h1:n / 2 ^ 1<18446744073709551616:=by omega
 have e2:wu64 (BitVec.ofInt 64 ((n / 2 ^ 1:Nat):Int) &&& BitVec.ofInt 64 6148914691236517205).toNat=(((n / 2 ^ 1) &&& 6148914691236517205:Nat):Int):=QLb (c:=6148914691236517205) h1 (by decide);have e3:wu64 (BitVec.ofInt 64 (n:Int) &&& BitVec.ofInt 64 6148914691236517205).toNat=((n &&& 6148914691236517205:Nat):Int):=QLb (c:=6148914691236517205) hn (by decide);have l1:=yIb (n:=n / 2 ^ 1) (m:=6148914691236517205);have l2:=yIb (n:=n) (m:=6148914691236517205);rw [e1,e2,e3];exact Qwd (by omega)
theorem cnt2 (n:Nat) (hn:n<18446744073709551616):wu64 ((wu64 (BitVec.ofInt 64 (Int.fdiv (n:Int) (2 ^ (min (Int.toNat 2) 64))) &&& BitVec.ofInt 64 3689348814741910323).toNat)+(wu64 (BitVec.ofInt 64 (n:Int) &&& BitVec.ofInt 64 3689348814741910323).toNat))=((sw2 n:Nat):Int):=by
 have e1:Int.fdiv (n:Int) (2 ^ (min (Int.toNat 2) 64))=((n / 2 ^ 2:Nat):Int):=Qvd n 2 (by decide);have h1:n / 2 ^ 2<18446744073709551616:=by omega
 have e2:wu64 (BitVec.ofInt 64 ((n / 2 ^ 2:Nat):Int) &&& BitVec.ofInt 64 3689348814741910323).toNat=(((n / 2 ^ 2) &&& 3689348814741910323:Nat):Int):=QLb (c:=3689348814741910323) h1 (by decide);have e3:wu64 (BitVec.ofInt 64 (n:Int) &&& BitVec.ofInt 64 3689348814741910323).toNat=((n &&& 3689348814741910323:Nat):Int):=QLb (c:=3689348814741910323) hn (by decide);have l1:=yIb (n:=n / 2 ^ 2) (m:=3689348814741910323);have l2:=yIb (n:=n) (m:=3689348814741910323);rw [e1,e2,e3];exact Qwd (by omega)
theorem cnt3 (n:Nat) (hn:n<=7378697629483820646):wu64 (BitVec.ofInt 64 (wu64 ((Int.fdiv (n:Int) (2 ^ (min (Int.toNat 4) 64)))+(n:Int))) &&& BitVec.ofInt 64 1085102592571150095).toNat=((sw3 n:Nat):Int):=by
 have e1:Int.fdiv (n:Int) (2 ^ (min (Int.toNat 4) 64))=((n / 2 ^ 4:Nat):Int):=Qvd n 4 (by decide);rw [e1,Qwd (by omega)];exact QLb (c:=1085102592571150095) (by omega) (by decide)
theorem count_eq {s:Int} (hs:U64 s):Q10 s=((popN 64 s.toNat:Nat):Int):=by
 obtain ⟨n,rfl⟩:∃ n:Nat,s=(n:Int):=⟨s.toNat,by unfold U64 at hs;omega⟩;have hn:n<18446744073709551616:=by unfold U64 at hs;omega
 have b1:sw1 n<18446744073709551616:=by
  unfold sw1;have l1:=yIb (n:=n / 2 ^ 1) (m:=6148914691236517205);have l2:=yIb (n:=n) (m:=6148914691236517205);omega
 have b2:sw2 (sw1 n)<=7378697629483820646:=by
  unfold sw2;have l1:=yIb (n:=sw1 n / 2 ^ 2) (m:=3689348814741910323);have l2:=yIb (n:=sw1 n) (m:=3689348814741910323);omega
 obtain ⟨a,b,c,d,e,f,g,h,hx,ha,hb,hc,hd,he,hf,hg,hh,hp⟩:=sw_pop hn;unfold Q10 QQ5 oc3 oc2 oc1;rw [cnt1 n hn,cnt2 (sw1 n) b1,cnt3 (sw2 (sw1 n)) b2,hx,yoa,hp];obtain ⟨q0,q1,q2,q3⟩:=sum_low ha hb hc hd he hf hg hh _ _ _ rfl rfl rfl;generalize hX:by8 a b c d e f g h=X at *;have hXlt:X<9223372036854775808:=by omega
 have s8:Int.fdiv (X:Int) (2 ^ (min (Int.toNat 8) 64))=((X / 256:Nat):Int):=Qvd X 8 (by decide);rw [s8,Qwd (by omega)];generalize hY:X+X / 256=Y at *;have s16:Int.fdiv (Y:Int) (2 ^ (min (Int.toNat 16) 64))=((Y / 65536:Nat):Int):=Qvd Y 16 (by decide);rw [s16,Qwd (by omega)];generalize hZ:Y+Y / 65536=Z at *;have s32:Int.fdiv (Z:Int) (2 ^ (min (Int.toNat 32) 64))=((Z / 4294967296:Nat):Int):=Qvd Z 32 (by decide);rw [s32,Qwd (by omega)];generalize hW:Z+Z / 4294967296=W at *;have hw:w64 (W:Int)=(W:Int):=wr (by omega);rw [hw];have hm:((BitVec.ofInt 64 (W:Int) &&& BitVec.ofInt 64 127).toNat:Int)=((W &&& 127:Nat):Int):=by
  have:=QLb (n:=W) (c:=127) (by omega) (by decide);rw [wu64_bv] at this;exact this
 rw [hm,Nat.and_two_pow_sub_one_eq_mod W 7];show w64 (((W % 128 : Nat)) : Int) = _;rw [q0];exact wr (by omega)
theorem list_len:∀ (m K s:Nat) (out:List Int) (n:Nat),s<m->s<2 ^ K->s<18446744073709551616->(QY1 m (s:Int) out n).2.1.length=out.length+popN K s
 | 0,_,_,_,_,h,_,_=>absurd h (by omega)
 | m+1,K,s,out,n,hm,hK,hs=>by
  rw [QY1];rcases yMa s with h|h
  ·subst h;have hz:∀ K,popN K 0=0:=fun K=>by induction K with
    | zero=>rfl
    | succ K ih=>simp [popN,ih]
   rw [hz]
   rfl
  ·obtain ⟨K,rfl⟩:∃ k,K=k+1:=⟨K - 1,by
    rcases K with _|K
    ·simp at hK;omega
    ·rfl⟩
   rw [yha (show (s:Int) > 0 by omega)];have e1 : Int.tmod (s : Int) 2 = ((s % 2 : Nat) : Int) := rfl;have e2:Int.tdiv (s:Int) 2=((s / 2:Nat):Int):=rfl;have e3:wu64 ((s / 2:Nat):Int)=((s / 2:Nat):Int):=QC7 ⟨by omega,by omega⟩;rw [e1,e2,e3,popN];rw [yzc] at hK;simp only [cond_true];rcases yYb s with hb|hb
   ·rw [hb];show (QY1 m ((s / 2:Nat):Int) out (n+1)).2.1.length=_;rw [list_len m K (s / 2) out (n+1) (by omega) (by omega) (by omega)];omega
   ·rw [hb];show (QY1 m ((s / 2:Nat):Int) (out++[(n:Int)]) (n+1)).2.1.length=_;rw [list_len m K (s / 2) _ (n+1) (by omega) (by omega) (by omega)];simp;omega
theorem QS8 {s:Int} (hs:U64 s):Q10 s=((Qy0 s).length:Int):=by
 rw [count_eq hs];obtain ⟨n,rfl⟩:∃ n:Nat,s=(n:Int):=⟨s.toNat,by unfold U64 at hs;omega⟩;unfold Qy0 QD9;have hn:n<18446744073709551616:=by unfold U64 at hs;omega
 rw [yoa,list_len (n+1) 64 n [] 0 (by omega) (by rw [pow64];exact hn) hn];simp
theorem QZ9 (s:Shape) (hw:w64 (s.max - s.min)=s.max - s.min) (h1:1<=s.min) (h2:s.min<=s.max) (h3:s.max<=48):∀ (m:Nat) (out:List Alt) (i:Nat),i<=(s.max - s.min+1).toNat->(s.max - s.min+1).toNat - i<m ->
  (QA2 s m out i).1=out++(List.range' i ((s.max - s.min+1).toNat - i)).map fun (i:Nat)=>(⟨s.max - (i:Int),s.wall⟩:Alt)
 | 0,_,_,_,h=>absurd h (by omega)
 | m+1,out,i,hi,hm=>by
  rw [QA2,hw];rcases ypa i (s.max - s.min+1).toNat with h|h
  ·have e:(s.max - s.min+1).toNat - i=((s.max - s.min+1).toNat - (i+1))+1:=by omega
   have e2:w64 (s.max - (i:Int))=s.max - (i:Int):=wr (by omega);rw [yha (show (i:Int)<=s.max - s.min by omega),e2];simp only [cond_true];rw [QZ9 s hw h1 h2 h3 m _ (i+1) (by omega) (by omega),e,List.range'_succ,y8a,yhb]
   rfl
  ·rw [yja (show ¬ (i:Int)<=s.max - s.min by omega),show (s.max - s.min+1).toNat - i=0 by omega];simp
theorem QV7 (s:Shape):Qc1 s=Qh0 s:=by
 unfold Qc1 Qh0;rw [QO8];cases hc:(QC1 s != 0) with
 | true=>rfl
 | false =>
  simp only [cond_false];cases hk:(s.kind==3) with
  | false =>
   have:(s.kind != 3)=true:=by unfold bne;rw [hk];rfl
   rw [this]
   rfl
  | true =>
   have hk':(s.kind != 3)=false:=by unfold bne;rw [hk];rfl
   obtain ⟨h1,h2,h3,h4⟩:=Qva hc hk';have h0:s.alts=[]:=by
    have hk3:s.kind=3:=by simpa using hk
    have hz:QC1 s=0:=by simpa using hc
    unfold QC1 at hz;simp only [hk3,beq_self_eq_true,cond_true] at hz;cases hq:(((((decide ((s.alts.length:Int) > 0))||(!(Qz1 s.min)))||(!(Qz1 s.max)))||(decide (s.max<s.min)))||(!(Qw2 s.wall))) with
    | true=>rw [hq] at hz;cases hz
    | false =>
     have:=(or_f (or_f (or_f (or_f hq).1).1).1).1;have hl:s.alts.length=0:=by have:=yea this;omega
     exact yAa hl
   rw [hk',h0];simp only [cond_true,cond_false,ydb,QY9,Q76];rw [QZ9 s h4 h1 h2 h3 _ [] 0 (by omega) (by omega),yHb]
   rfl
theorem Q4f (s:Shape) (c n:Int):∀ (l:List Alt) (i:Nat),Qw6 s c n l i=true ↔ ∃ (k:Nat) (x:Alt),l[k]? = some x∧x.nodes=n∧(((i+k:Nat):Int)=c∨s.kind=3)
 | [],i=>⟨fun h=>(by cases h),fun ⟨k,x,h,_⟩=>by simp at h⟩
 | y :: r,i=>by
  rw [Qw6];cases hc:((y.nodes==n)&&(((i:Int)==c)||(s.kind==3))) with
  | true =>
   simp only [yca,y3a,beq_iff_eq] at hc;exact ⟨fun _=>⟨0,y,rfl,hc.1,by simpa using hc.2⟩,fun _=>rfl⟩
  | false =>
   simp only [cond_false];rw [Q4f s c n r (i+1)];constructor
   ·rintro ⟨k,x,h1,h2,h3⟩;exact ⟨k+1,x,by simpa using h1,h2,by rw [show i+(k+1)=i+1+k by omega];exact h3⟩
   ·rintro ⟨k,x,h1,h2,h3⟩;rcases k with _|k
    ·simp at h1;subst h1;have:((y.nodes==n)&&(((i:Int)==c)||(s.kind==3)))=true:=by
      simp only [yca,y3a,beq_iff_eq];exact ⟨h2,by simpa using h3⟩
     rw [hc] at this;cases this
    ·exact ⟨k,x,by simpa using h1,h2,by rw [show i+1+k=i+(k+1) by omega];exact h3⟩
theorem allows_eq (s:Shape) (c n:Int):QU2 s c n=Qua s c n:=by
 unfold QU2 Qua;rw [QV7];cases hb:((decide (c<0))||(decide (c >= ((Qh0 s).length:Int)))) with
 | true=>rfl
 | false =>
  obtain ⟨h1,h2⟩:=or_f hb;have h1':=yea h1;have h2':=yea h2;simp only [cond_false];obtain ⟨k,rfl⟩:∃ k:Nat,c=(k:Int):=⟨c.toNat,by omega⟩;have hk:k<(Qh0 s).length:=by omega
  rw [yLa,Q4f];cases h3:(s.kind==3) with
  | false =>
   have h3':s.kind ≠ 3:=by simpa using h3
   simp only [cond_false,beq_iff_eq,yoa];have hg:(Qh0 s)[k]? = some ((Qh0 s).getD k zA):=by simp [List.getD,yaa hk]
   constructor
   ·intro h;exact ⟨k,_,hg,h,.inl (by simp)⟩
   ·rintro ⟨j,x,hx,hn,hj⟩;have:j=k:=by
     rcases hj with hj|hj
     ·omega
     ·exact absurd hj h3'
    subst this;rw [hg] at hx;cases hx;exact hn
  | true =>
   have h3':s.kind=3:=by simpa using h3
   simp only [cond_true,yca,yda];cases hc:(Q02 s != 0) with
   | true =>
    rw [← QV7] at hk;unfold Qc1 at hk;rw [hc] at hk;exact absurd hk (by simp)
   | false =>
    obtain ⟨q1,q2,q3⟩:=Qc5 hc h3;have h0:Qc1 s=s.alts++Q76 s.min s.max s.wall:=by unfold Qc1;rw [hc,h3];rfl
    have ha:s.alts=[]:=by
     have hz:Q02 s=0:=by simpa using hc
     unfold Q02 at hz;simp only [h3'] at hz;have e1:((3:Int)==1)=false:=rfl;have e2:((3:Int)==2)=false:=rfl;simp only [e1,e2,beq_self_eq_true,cond_false,cond_true,Q92] at hz;cases hq:(((((s.alts.length:Int)==0)&&(decide (s.min<=s.max)))&&(Qe1 (⟨s.min,s.wall⟩:Alt)))&&(decide (s.max<=48))) with
     | false=>rw [hq] at hz;cases hz
     | true =>
      simp only [yca,beq_iff_eq] at hq;exact yAa (by have:=hq.1.1.1;omega)
    rw [← QV7,h0,ha,ydb];unfold Q76;constructor
    ·rintro ⟨hl,hu⟩
     exact ⟨(s.max - n).toNat,⟨n,s.wall⟩,by
      rw [yza,yib (by omega)];simp
      omega,rfl,.inr h3'⟩
    ·rintro ⟨j,x,hx,hn,_⟩;rw [yza] at hx;rcases ypa j (s.max - s.min+1).toNat with hj|hj
     ·rw [yib hj] at hx;simp at hx;subst hx;simp only at hn;omega
     ·rw [ycb (by simpa using hj)] at hx;simp at hx
theorem Q9c (r:Int):Qg1 r=Qo0 r:=by
 unfold Qg1 Qo0
 grind
theorem runes_Check_eq (s:ByteArray):Qz4 s=Q75 s:=by
 have:∀ (l:List (Nat × Int)) (n:Nat),QK5 l n=Q47 l n:=by
  intro l
  induction l with
  | nil=>exact fun _=>rfl
  | cons x r ih =>
   intro n;rw [QK5,Q47,Q9c,ih]
 exact this _ 0
theorem name_eq (s:ByteArray):Qk5 s=Qh6 s:=by
 unfold Qk5 Qh6 QG2;rw [runes_Check_eq,Bool.and_assoc]
theorem QSg (l:List Dep) (i:Nat) (x:Dep) (hi:i<=l.length):∀ (m k:Nat),k<=i->i - k<m->(QP4 l i x m k).isLeft=((l.take i).drop k).any (fun y=>y.job==x.job) ∧ ∀ v,QP4 l i x m k=Sum.inl v->v=false
 | 0,_,_,h=>absurd h (by omega)
 | m+1,k,hk,hm=>by
  rw [QP4];rcases ypa k i with h|h
  ·rw [yha (show (k:Int)<(i:Int) by omega)];have hkl:k<(l.take i).length:=by rw [yra];omega
   have hd:(l.take i).drop k=(l.getD k zC) :: (l.take i).drop (k+1):=by
    rw [yWa hkl]
    congr 1
    simp [List.getD,yaa (show k<l.length by omega)]
   rw [hd,y8b];simp only [cond_true];cases ((l.getD k zC).job==x.job) with
   | true=>exact ⟨rfl,fun v h=>by cases h;rfl⟩
   | false=>exact QSg l i x hi m (k+1) (by omega) (by omega)
  ·rw [yja (show ¬ (k:Int)<(i:Int) by omega)];have:(l.take i).drop k=[]:=ykb (by rw [yra];omega);rw [this];exact ⟨rfl,fun v h=>by cases h⟩
theorem waits_go (l:List Dep):∀ (r:List Dep) (i:Nat),r=l.drop i->i+r.length=l.length->(l.length<=4->Q25 l r i=QE5 l r i)
 | [],i,_,_,h=>by
  rw [Q25,QE5];exact yha (by omega)
 | x :: r,i,hr,hlen,h=>by
  simp only [yka] at hlen;have hr':r=l.drop (i+1):=by rw [← yxb,← hr];rfl
  have ih:=waits_go l r (i+1) hr' (by omega) h;obtain ⟨w1,w2⟩:=QSg l i x (by omega) ((Int.toNat ((i:Int) - (0:Int)))+1) 0 (by omega) (by omega);rw [Q25,QE5,any_Dep,ih];have e:(!(QG2 x.how 1 3) || !(QPd x.job))=((!(Qr2 x.how 1 3))||(!(Qr2 x.job 1 99999))):=rfl;rw [e];rw [yqb] at w1;cases ((!(Qr2 x.how 1 3))||(!(Qr2 x.job 1 99999))) with
  | true=>rfl
  | false =>
   rw [yXa];simp only [cond_false];cases hg:QP4 l i x ((Int.toNat ((i:Int) - (0:Int)))+1) 0 with
   | inl v =>
    have hv:=w2 v hg;subst hv;rw [hg] at w1;rw [← w1]
    rfl
   | inr v =>
    rw [hg] at w1;rw [← w1]
    rfl
theorem Qnf (l:List Dep) (h:4<l.length):∀ (r:List Dep) (i:Nat),Q25 l r i=false
 | [],i=>yja (by omega)
 | x :: r,i=>by
  rw [Q25,Qnf l h r];cases (((!(QG2 x.how 1 3))||(!(QPd x.job)))||(Qp0 (List.take i l) (fun (y:Dep)=>(y.job==x.job)))) <;> rfl
theorem deps_eq (l:List Dep):QH7 l=QC9 l:=by
 unfold QH7 QC9;rcases ypa 4 l.length with h|h
 ·rw [Qnf l h,yha (by omega)]
  rfl
 ·rw [yja (by omega)];exact waits_go l l 0 (by simp) (by omega) h
def lowB (x:Int):Int:=if 65<=x∧x<=90 then x+32 else x
theorem wu8_id {n:Int} (h:0<=n∧n<256):wu8 n=n:=by
 show n % 256 = n;omega
theorem lower_go (s:ByteArray):∀ (m i:Nat) (c:List Int),c.length=s.size->s.size - i<m->(∀ x ∈ c,0<=x∧x<256)->QT4 s m i c=c.take i++(c.drop i).map lowB
 | 0,_,_,_,h,_=>absurd h (by omega)
 | m+1,i,c,hl,hm,hb=>by
  rw [QT4];rcases ypa i s.size with h|h
  ·have hi:i<c.length:=by omega
   have hg:c.getD i 0=c[i]:=by simp [List.getD,yaa hi]
   have hx:=hb _ (y7a hi);rw [yha (show (i:Int)<(s.size:Int) by omega),hg];simp only [cond_true];have hd:c.drop i=c[i] :: c.drop (i+1):=yWa hi;cases hc:((decide (c[i] >= 65))&&(decide (c[i]<=90))) with
   | true =>
    simp only [yca,yda] at hc;have hv:wu8 ((wu8 (c[i]+97)) - 65)=lowB c[i]:=by
     rw [wu8_id (n:=c[i]+97) (by omega),wu8_id (by omega),lowB,if_pos hc];omega
    rw [hv];simp only [cond_true];rw [lower_go s m (i+1) _ (by simpa using hl) (by omega) ?_]
    ·rw [hd,y8a];have e1:(c.set i (lowB c[i])).take (i+1)=c.take i++[lowB c[i]]:=by
      rw [List.take_add_one];simp [List.take_set_of_le,hi]
     have e2:(c.set i (lowB c[i])).drop (i+1)=c.drop (i+1):=by
      rw [List.drop_set_of_lt (by omega)]
     rw [e1,e2];simp
    ·intro x hx';rcases y2b hx' with h'|h'
     ·exact hb x h'
     ·rw [h',lowB,if_pos hc];omega
   | false =>
    have hv:lowB c[i]=c[i]:=by
     rw [lowB,if_neg];intro hq;rw [yha hq.1,yha hq.2] at hc;cases hc
    simp only [cond_false];rw [lower_go s m (i+1) c hl (by omega) hb,hd,y8a,hv,List.take_add_one,yaa hi,yhb]
    rfl
  ·rw [yja (show ¬ (i:Int)<(s.size:Int) by omega)];simp only [cond_false];rw [ykb (by omega),yLb (by omega)];simp
theorem Qcf (s:ByteArray):∀ x ∈ QV1 s,0<=x∧x<256:=by
 intro x hx;unfold QV1 at hx;obtain ⟨b,_,rfl⟩:=List.mem_map.1 hx;have:=b.toNat_lt;omega
theorem lower_run (s:ByteArray):QX6 s=Qa3 ((QV1 s).map lowB):=by
 unfold QX6 Q54;rw [lower_go s _ 0 _ (Qk3 s) (by omega) (Qcf s)]
 rfl
theorem Qna (s:ByteArray):∀ (m:Nat) (out:List Int) (i:Nat),i<=s.size->s.size - i<m->(QO4 s m out i).1=out++((QV1 s).drop i).map lowB
 | 0,_,_,_,h=>absurd h (by omega)
 | m+1,out,i,hi,hm=>by
  rw [QO4];rcases ypa i s.size with h|h
  ·have hi':i<(QV1 s).length:=by rw [Qk3];exact h
   have hd:(QV1 s).drop i=(QV1 s)[i] :: (QV1 s).drop (i+1):=yWa hi';have hx:=Qcf s _ (y7a hi');have hg:((s.data.toList.getD i 0).toNat:Int)=(QV1 s)[i]:=by
    have hq:i<s.data.toList.length:=by simpa [QV1] using hi'
    simp [QV1,List.getD,yaa hq]
   rw [yha (show (i:Int)<(s.size:Int) by omega),hg,hd,y8a];simp only [cond_true];cases hc:((decide ((QV1 s)[i] > 64))&&(decide ((QV1 s)[i]<91))) with
   | true =>
    simp only [yca,yda] at hc;have hv:lowB (QV1 s)[i]=(QV1 s)[i]+32:=by rw [lowB,if_pos (by omega)]
    rw [wu8_id (n:=(QV1 s)[i]+32) (by omega),hv];simp only [cond_true];rw [Qna s m _ (i+1) (by omega) (by omega)];simp
   | false =>
    have hv:lowB (QV1 s)[i]=(QV1 s)[i]:=by
     rw [lowB,if_neg];intro hq;rw [yha (show (QV1 s)[i] > 64 by omega),yha (show (QV1 s)[i]<91 by omega)] at hc;cases hc
    rw [hv];simp only [cond_false];rw [Qna s m _ (i+1) (by omega) (by omega)];simp
  ·rw [yja (show ¬ (i:Int)<(s.size:Int) by omega)];simp only [cond_false];rw [ykb (by rw [Qk3];omega)];simp
theorem lower_ref (s:ByteArray):QE3 s=Qa3 ((QV1 s).map lowB):=by
 unfold QE3 Qfb;rw [Qna s _ [] 0 (by omega) (by omega)]
 rfl
theorem lower_eq (s:ByteArray):QX6 s=QE3 s:=by rw [lower_run,lower_ref]
def Qz0 (s:ByteArray):List Int:=(Qb7 s).map (·.2)
theorem Qb9 (s:ByteArray):QM1 s=Qz0 s:=by
 have:∀ (l:List (Nat × Int)) (out:List Int),QZ3 l out=out++l.map (·.2):=by
  intro l
  induction l with
  | nil=>intro out;rw [QZ3];simp
  | cons x r ih=>intro out;rw [QZ3,ih];simp
 unfold QM1 QG8 Qz0;rw [this];simp
theorem QQg (s:ByteArray) (b:ByteArray):∀ (l:List (Nat × Int)) (c:LexReader),Qq5 b l c={ c with line:=c.line++l.map (·.2) }
 | [],c=>by rw [Qq5];simp
 | x :: r,c=>by rw [Qq5,QQg s b r];simp
theorem line_len (s:ByteArray):(Qz0 s).length<=s.size:=by
 have:=QYf s;rw [Qb9] at this;exact this
theorem while_go (is:Int->Bool) (L:List Int) (hL:L.length<=400):∀ (m a:Nat) (bad e:Int),a<=L.length->L.length - a<m ->
  QE0 is m ⟨L,(a:Int),bad,e⟩=⟨L,((a+((L.drop a).takeWhile is).length:Nat):Int),bad,e⟩
 | 0,_,_,_,_,h=>absurd h (by omega)
 | m+1,a,bad,e,ha,hm=>by
  rw [QE0];simp only [yoa];rcases ypa a L.length with h|h
  ·have hg:L.getD a 0=L[a]:=by simp [List.getD,yaa h]
   rw [yha (show (a:Int)<(L.length:Int) by omega),hg,yWa h,yvb];cases is L[a] with
   | true =>
    have hw:w64 ((a:Int)+1)=((a+1:Nat):Int):=wr (by omega);simp only [yFb,cond_true,if_true];rw [hw,while_go is L hL m (a+1) bad e (by omega) (by omega),yka]
    congr 2
    omega
   | false=>simp
  ·rw [yja (show ¬ (a:Int)<(L.length:Int) by omega),ykb h];simp
theorem take_run (is:Int->Bool) (L:List Int) (a:Nat):List.drop a (List.take (a+((L.drop a).takeWhile is).length) L)=(L.drop a).takeWhile is:=by
 rw [List.drop_take];have h:(L.drop a).takeWhile is <+: L.drop a:=yEb is;rw [Nat.add_sub_cancel_left];exact (List.prefix_iff_eq_take.1 h).symm
theorem while_eq (is:Int->Bool) (L:List Int) (hL:L.length<=400) (a:Nat) (bad e:Int) (ha:a<=L.length) :
  Q30 ⟨L,(a:Int),bad,e⟩ is=(runesBytes ((L.drop a).takeWhile is),⟨L,((a+((L.drop a).takeWhile is).length:Nat):Int),bad,e⟩):=by
 unfold Q30 QF0;simp only;rw [while_go is L hL _ a bad e ha (by omega)];simp only [yoa];rw [take_run]
def QB3 (y:Int):Bool:=Qo0 y==1
def wordP (y:Int):Bool:=(((Qo0 y==2)||(Qo0 y==3))||(y==45))||(y==95)
theorem blank_fn:(fun (y:Int)=>Qm0 y ([1]:List Int) 0)=QB3:=by
 funext y
 rw [Qm0,Qm0,Q9c];unfold QB3;cases (Qo0 y==1) <;> rfl
theorem word_fn:(fun (y:Int)=>Qe0 y ([2,3]:List Int) 0)=wordP:=by
 funext y
 rw [Qe0,Qe0,Qe0,Q9c];unfold wordP;cases (Qo0 y==2) <;> cases (Qo0 y==3) <;> rfl
theorem QLd:∀ (m:Nat) (out:List Token) (c:LexReader),(QW1 m out c).1=[]∨out <+: (QW1 m out c).1
 | 0,_,_=>.inl rfl
 | m+1,out,c=>by
  rw [QW1];cases (c.error==0) with
  | false=>exact .inl rfl
  | true =>
   simp only [cond_true];cases ((Q30 c (fun (y:Int)=>Qm0 y ([1]:List Int) 0)).2.at_==(((Q30 c (fun (y:Int)=>Qm0 y ([1]:List Int) 0)).2.line).length:Int)) with
   | true=>exact .inr (List.prefix_refl _)
   | false =>
    simp only [cond_false];rcases QLd m (out++[{ (Q90 ((Q30 c (fun (y:Int)=>Qm0 y ([1]:List Int) 0)).2)).1 with at_:=(Q30 c (fun (y:Int)=>Qm0 y ([1]:List Int) 0)).2.at_ }]) ((Q90 ((Q30 c (fun (y:Int)=>Qm0 y ([1]:List Int) 0)).2)).2) with h|h
    ·exact .inl h
    ·exact .inr (List.IsPrefix.trans (List.prefix_append _ _) h)
def skipB (L:List Int) (a:Nat):Nat:=a+((L.drop a).takeWhile QB3).length
theorem skipB_le (L:List Int) (a:Nat) (h:a<=L.length):skipB L a<=L.length:=by
 unfold skipB;have:=(yEb (l:=L.drop a) QB3).length_le;rw [yva] at this;omega
theorem QXb (L:List Int) (hL:L.length<=400) (m:Nat) (out:List Token) (a:Nat) (bad:Int) (ha:a<=L.length) :
  QW1 (m+1) out ⟨L,(a:Int),bad,0⟩=bif (((skipB L a:Nat):Int)==(L.length:Int)) then (out,(L.length:Int),0)
   else QW1 m (out++[{ (Q90 ⟨L,((skipB L a:Nat):Int),bad,0⟩).1 with at_:=((skipB L a:Nat):Int) }]) (Q90 ⟨L,((skipB L a:Nat):Int),bad,0⟩).2:=by
 rw [QW1];simp only [blank_fn];rw [while_eq QB3 L hL a bad 0 ha]
 rfl
theorem next_kind (r:LexReader) (h:(Qg1 (r.line.getD (Int.toNat r.at_) 0)==2)=false):(Q90 r).1.kind ≠ 1:=by
 unfold Q90 QF1 QR1 Qq2;rw [h];simp only [cond_false,yCb]
 repeat' split
 all_goals first|(simp [zD];done)|simp_all
theorem next_word (L:List Int) (hL:L.length<=400) (a:Nat) (bad:Int) (ha:a<=L.length) (h:(Qg1 (L.getD a 0)==2)=true) :
  Q90 ⟨L,(a:Int),bad,0⟩=(⟨1,QE3 (runesBytes ((L.drop a).takeWhile wordP)),0,0⟩,⟨L,((a+((L.drop a).takeWhile wordP).length:Nat):Int),bad,0⟩):=by
 unfold Q90 Q52;simp only [yoa,word_fn];rw [h,while_eq wordP L hL a bad 0 ha,lower_eq]
 rfl
def Wd (s:ByteArray):Prop:=s.size<=400 ∧ ∃ x r,Qz0 s=x :: r∧Qo0 x=2∧QE3 (runesBytes ((Qz0 s).takeWhile wordP))=s∧skipB (Qz0 s) ((Qz0 s).takeWhile wordP).length=(Qz0 s).length
theorem tokens_start (s:ByteArray) (h:s.size<=400):Qj1 s=QW1 (2*(Qz0 s).length+1+1) [] ⟨Qz0 s,((0:Nat):Int),0,0⟩:=by
 unfold Qj1;rw [yja (show ¬ (s.size:Int) > 400 by omega),QQg s s];unfold Qr5;show QW1 _ [] ⟨[]++(Qb7 s).map (·.2),0,0,0⟩=_;rw [ydb]
 congr 1
theorem word_prog (s:ByteArray):QR5 s=true ↔ Wd s:=by
 rcases ypa 400 s.size with hs|hs
 ·constructor
  ·intro h;unfold QR5 Qj1 at h;rw [yha (show (s.size:Int) > 400 by omega)] at h;cases h
  ·rintro ⟨h,_⟩;omega
 have hL:(Qz0 s).length<=400:=yJa (line_len s) hs;generalize hLd:Qz0 s=L at *;have e0:Qj1 s=QW1 (2*L.length+1+1) [] ⟨L,((0:Nat):Int),0,0⟩:=by rw [tokens_start s hs,hLd]
 rw [QXb L hL (2*L.length+1) [] 0 0 (by omega)] at e0;unfold Wd QR5;rw [hLd];constructor
 ·intro h;cases hc:(((Qj1 s).2.2 != 0)||((((Qj1 s).1).length:Int)!=1))||(!(((((Qj1 s).1).getD 0 zD).kind==1)&&(((((Qj1 s).1).getD 0 zD).text==s)&&(((((Qj1 s).1).getD 0 zD).num==0)&&((((Qj1 s).1).getD 0 zD).at_==0))))) with
  | true=>rw [hc] at h;cases h
  | false =>
   obtain ⟨h1,h2⟩:=or_f hc;obtain ⟨_,hlen⟩:=or_f h1;have hleni:((Qj1 s).1.length:Int)=1:=by simpa using hlen
   replace hlen:(Qj1 s).1.length=1:=by omega
   simp only [yRb,yca,beq_iff_eq,bytes_beq] at h2;obtain ⟨hk,ht,_,hat⟩:=h2;cases hb:(((skipB L 0:Nat):Int)==(L.length:Int)) with
   | true =>
    rw [hb] at e0;rw [e0] at hlen;cases hlen
   | false =>
    rw [hb] at e0;simp only [cond_false,ydb] at e0;have hpre:=QLd (2*L.length+1) [{ (Q90 ⟨L,((skipB L 0:Nat):Int),0,0⟩).1 with at_:=((skipB L 0:Nat):Int) }] (Q90 ⟨L,((skipB L 0:Nat):Int),0,0⟩).2;rw [← e0] at hpre;rcases hpre with hpre|hpre
    ·rw [hpre] at hlen;cases hlen
    ·have hhead:(Qj1 s).1.getD 0 zD={ (Q90 ⟨L,((skipB L 0:Nat):Int),0,0⟩).1 with at_:=((skipB L 0:Nat):Int) }:=by
      obtain ⟨q,hq⟩:=hpre;rw [← hq]
      rfl
     rw [hhead] at hk ht hat;have hz:skipB L 0=0:=by
      have:((skipB L 0:Nat):Int)=0:=hat;omega
     rw [hz] at e0 hk ht hb;have hcl:(Qg1 (L.getD 0 0)==2)=true:=by
      cases hcc:(Qg1 (L.getD 0 0)==2) with
      | true=>rfl
      | false=>exact absurd hk (next_kind ⟨L,((0:Nat):Int),0,0⟩ hcc)
     rw [next_word L hL 0 0 (by omega) hcl] at e0 ht;simp only [yqb,yna] at e0 ht;have hne:L.length ≠ 0:=by
      intro h0;rw [h0] at hb;simp at hb
     obtain ⟨x,r,hxr⟩:∃ x r,L=x :: r:=by
      cases hcase:L with
      | nil=>rw [hcase] at hne;exact absurd rfl hne
      | cons x r=>exact ⟨x,r,rfl⟩
     refine ⟨hs,x,r,hxr,?_,ht,?_⟩
     ·rw [hxr] at hcl;rw [Q9c] at hcl;exact eq_of_beq hcl
     ·have hle:(L.takeWhile wordP).length<=L.length:=(yEb wordP).length_le;rw [show 2*L.length+1=2*L.length+1 from rfl,QXb L hL (2*L.length) _ (L.takeWhile wordP).length 0 hle] at e0;cases hb2:(((skipB L (L.takeWhile wordP).length:Nat):Int)==(L.length:Int)) with
      | true =>
       have:=eq_of_beq hb2;omega
      | false =>
       rw [hb2] at e0;simp only [cond_false] at e0;have hpre2:∀ o c,Qj1 s=QW1 (2*L.length) o c->(Qj1 s).1=[]∨o <+: (Qj1 s).1:=fun o c e=>by rw [e];exact QLd _ _ _
       rcases hpre2 _ _ e0 with h'|h'
       ·rw [h'] at hlen;cases hlen
       ·have:=h'.length_le;rw [hlen] at this;simp at this
 ·rintro ⟨_,x,r,hxr,hx,ht,hsk⟩;have hcl:(Qg1 (L.getD 0 0)==2)=true:=by
   rw [hxr,Q9c];exact beq_iff_eq.2 hx
  have hz:skipB L 0=0:=by
   unfold skipB;rw [yqb,hxr,yvb];have:QB3 x=false:=by unfold QB3;rw [hx];rfl
   rw [this]
   rfl
  have hb:(((0:Nat):Int)==(L.length:Int))=false:=by
   rw [hxr];simp;omega
  rw [hz,hb] at e0;simp only [cond_false,ydb] at e0;rw [next_word L hL 0 0 (by omega) hcl] at e0;simp only [yqb,yna] at e0;have hle:(L.takeWhile wordP).length<=L.length:=(yEb wordP).length_le;rw [QXb L hL (2*L.length) _ (L.takeWhile wordP).length 0 hle,hsk] at e0;have hb2:(((L.length:Nat):Int)==(L.length:Int))=true:=beq_iff_eq.2 rfl;rw [hb2,ht] at e0;rw [e0];have:(s==s)=true:=(bytes_beq s s).2 rfl;simp [this]
theorem decode_blank (s:ByteArray) (h:(Utf8.decode s 0).1=9∨(Utf8.decode s 0).1=32):(s.get! 0).toNat=9∨(s.get! 0).toNat=32:=by
 unfold Utf8.decode at h;simp only [y1a,yna,Utf8.runeError] at h
 repeat' split at h
 all_goals first|exact h|(simp only [ge_iff_le,Nat.not_le] at *;omega)|(simp_all;omega)
theorem first_line (s:ByteArray) (x:Int) (r:List Int) (h:Qz0 s=x :: r):x=((Utf8.decode s 0).1:Int)∧0<s.size:=by
 unfold Qz0 Qb7 at h;cases hs:s.size with
 | zero=>rw [hs] at h;cases h
 | succ n =>
  rw [hs,QE4 (by rw [hs];rfl)] at h;simp only [y8a,List.cons.injEq] at h;exact ⟨h.1.symm,Nat.succ_pos n⟩
theorem get_first (s:ByteArray) (h:0<s.size):∃ b q,s.data.toList=b :: q∧s.get! 0=b:=by
 obtain ⟨d⟩:=s;have hd:0<d.size:=h;refine ⟨d[0],d.toList.tail,?_,?_⟩
 ·cases hl:d.toList with
  | nil=>simp at hl;rw [hl] at hd;cases hd
  | cons a t=>
   have:d[0]=a:=by rw [← Array.getElem_toList];simp [hl]
   rw [this];rfl
 ·show d[0]! = d[0];exact getElem!_pos d 0 hd
theorem encode_letter (x:Int) (h:Qo0 x=2):∃ b q,(Utf8.encode x).data.toList=b :: q∧65<=b.toNat:=by
 have hx:65<=x∧x<=1114111 ∧ ¬ (55296<=x∧x<=57343):=by
  unfold Qo0 at h
  grind
 have hv:Utf8.valid x=true:=by
  unfold Utf8.valid;simp only [y3a,yca,yda];omega
 unfold Utf8.encode;simp only [hv,if_true];have hc:∃ c:Nat,x.toNat=c∧65<=c∧c<=1114111:=⟨x.toNat,rfl,by omega,by omega⟩;obtain ⟨c,hcc,h1,h2⟩:=hc;rw [hcc]
 repeat' split
 all_goals refine ⟨_,_,rfl,?_⟩
 all_goals simp only [UInt8.toNat_ofNat']
 all_goals omega
theorem QDg (x:Int) (r:List Int):∃ q,(runesBytes (x :: r)).data.toList=(Utf8.encode x).data.toList++q:=by
 unfold runesBytes;rw [yzb];have:∀ (l:List Int) (b:ByteArray),∃ q,(l.foldl (fun r n=>r++Utf8.encode n) b).data.toList=b.data.toList++q:=by
  intro l
  induction l with
  | nil=>exact fun b=>⟨[],by simp⟩
  | cons y t ih =>
   intro b;obtain ⟨q,hq⟩:=ih (b++Utf8.encode y);exact ⟨(Utf8.encode y).data.toList++q,by rw [yzb,hq];simp⟩
 obtain ⟨q,hq⟩:=this r (ByteArray.empty++Utf8.encode x);exact ⟨q,by rw [hq];simp⟩
theorem lower_first (x:Int) (r:List Int) (h:Qo0 x=2):∃ b q,(QE3 (runesBytes (x :: r))).data.toList=b :: q∧65<=b.toNat:=by
 obtain ⟨b,q,hb,h65⟩:=encode_letter x h;obtain ⟨q',hq⟩:=QDg x r;rw [lower_ref,Q8c];unfold QV1;rw [hq,hb];refine ⟨UInt8.ofNat (lowB (b.toNat:Int)).toNat,_,rfl,?_⟩;have hlt:=b.toNat_lt;rw [UInt8.toNat_ofNat'];unfold lowB;split <;> omega
theorem no_blank_word (s:ByteArray) (y:Int) (q:List Int) (hl:Qz0 s=y :: q) (hy:QB3 y=true) (x:Int) (r:List Int) (hx:Qo0 x=2):QE3 (runesBytes (x :: r)) ≠ s:=by
 intro e;obtain ⟨b,t,hb,h65⟩:=lower_first x r hx;rw [e] at hb;obtain ⟨h1,h2⟩:=first_line s y q hl;obtain ⟨b',t',hb',hg⟩:=get_first s h2;have hy':(Utf8.decode s 0).1=9∨(Utf8.decode s 0).1=32:=by
  unfold QB3 Qo0 at hy;subst h1
  grind
 have:=decode_blank s hy';rw [hg] at this;rw [hb] at hb';cases hb';omega
theorem end_go (L:List Int) (hL:L.length<=400) (a:Nat) (ha:Qo0 (L.getD a 0)=2):∀ (m i:Nat),i<=L.length->L.length - i<m->Qs8 L (a:Int) m (i:Int)=((i+((L.drop i).takeWhile wordP).length:Nat):Int)
 | 0,_,_,h=>absurd h (by omega)
 | m+1,i,hi,hm=>by
  rw [Qs8];simp only [yoa,ha];rcases ypa i L.length with h|h
  ·have hg:L.getD i 0=L[i]:=by simp [List.getD,yaa h]
   rw [yha (show (i:Int)<(L.length:Int) by omega),hg,yWa h,yvb];have e:(((((((2:Int)==2)&&((Qo0 L[i])!=2))&&((Qo0 L[i])!=3))&&(L[i]!=45))&&(L[i]!=95))) = !(wordP L[i]):=by
    unfold wordP bne;cases (Qo0 L[i]==2) <;> cases (Qo0 L[i]==3) <;> cases (L[i]==45) <;> cases (L[i]==95) <;> rfl
   rw [e];cases hw:wordP L[i] with
   | false=>simp
   | true =>
    have hww:w64 ((i:Int)+1)=((i+1:Nat):Int):=wr (by omega);have e3:((2:Int)==3)=false:=rfl;simp only [ygb,cond_false,cond_true,e3,yNb,if_true];rw [hww,end_go L hL a ha m (i+1) (by omega) (by omega),yka]
    congr 1
    omega
  ·rw [yja (show ¬ (i:Int)<(L.length:Int) by omega),ykb h];simp
theorem end_eq (L:List Int) (hL:L.length<=400) (a:Nat) (hlt:a<L.length) (ha:Qo0 (L.getD a 0)=2):QD5 L (a:Int)=((a+((L.drop a).takeWhile wordP).length:Nat):Int):=by
 unfold QD5;have hw:w64 ((a:Int)+1)=((a+1:Nat):Int):=wr (by omega);rw [hw,end_go L hL a ha _ (a+1) (by omega) (by omega),yWa hlt,yvb];have hg:L.getD a 0=L[a]:=by simp [List.getD,yaa hlt]
 have:wordP L[a]=true:=by unfold wordP;rw [← hg,ha];rfl
 rw [this];simp only [if_true,yka]
 congr 1
 omega
theorem text_kind (L:List Int) (a:Int):∀ (m:Nat) (i:Int),(Qt5 L a m i).1.kind ≠ 1
 | 0,i=>by simp [Qt5,zD]
 | m+1,i=>by
  rw [Qt5];simp only [yCb]
  repeat' split
  all_goals first|exact text_kind L a m _|(simp [zD];done)
theorem one_kind (L:List Int) (a:Int) (h:(Qo0 (L.getD (Int.toNat a) 0)==2)=false):(Qe2 L a).1.kind ≠ 1:=by
 unfold Qe2 Qo7;rw [h];simp only [cond_false,yCb]
 repeat' split
 all_goals first|exact text_kind L a _ _|(simp [zD];done)|simp_all
theorem one_word (L:List Int) (hL:L.length<=400) (a:Nat) (hlt:a<L.length) (ha:Qo0 (L.getD a 0)=2) :
  Qe2 L (a:Int)=(⟨1,QE3 (runesBytes ((L.drop a).takeWhile wordP)),0,(a:Int)⟩,((a+((L.drop a).takeWhile wordP).length:Nat):Int),0,0):=by
 unfold Qe2;simp only [yoa,ha,end_eq L hL a hlt ha];rw [take_run]
 rfl
section
variable (s:ByteArray)
theorem QQb:∀ (m:Nat) (out:List Token) (i:Int),(QS0 s m out i).1=[]∨out <+: (QS0 s m out i).1
 | 0,_,_=>.inl rfl
 | m+1,out,i=>by
  rw [QS0];cases (decide (i<((QM1 s).length:Int))) with
  | false=>exact .inr (List.prefix_refl _)
  | true =>
   simp only [cond_true];cases ((Qo0 ((QM1 s).getD (Int.toNat i) 0))==1) with
   | true=>exact QQb m out _
   | false =>
    simp only [cond_false];cases ((Qe2 (QM1 s) i).2.2.2 != 0) with
    | true=>exact .inl rfl
    | false =>
     rcases QQb m (out++[(Qe2 (QM1 s) i).1]) ((Qe2 (QM1 s) i).2.1) with h|h
     ·exact .inl h
     ·exact .inr (List.IsPrefix.trans (List.prefix_append _ _) h)
theorem rskip (hL:(Qz0 s).length<=400):∀ (k m:Nat) (out:List Token) (i:Nat),i+k<=(Qz0 s).length->(∀ y ∈ ((Qz0 s).drop i).take k,QB3 y=true)->QS0 s (m+k) out (i:Int)=QS0 s m out ((i+k:Nat):Int)
 | 0,_,_,_,_,_=>rfl
 | k+1,m,out,i,h,hb=>by
  have hi:i<(Qz0 s).length:=by omega
  rw [show m+(k+1)=(m+k)+1 by omega,QS0,Qb9,yha (show (i:Int)<((Qz0 s).length:Int) by omega),yoa];have hg:(Qz0 s).getD i 0=(Qz0 s)[i]:=by simp [List.getD,yaa hi]
  rw [yWa hi,List.take_succ_cons] at hb;have hc:((Qo0 (Qz0 s)[i])==1)=true:=hb _ (yma ..);have hw:w64 ((i:Int)+1)=((i+1:Nat):Int):=wr (by omega);rw [hg,hc,hw];simp only [cond_true];rw [rskip hL k m out (i+1) (by omega) (fun y hy=>hb y (yga _ hy))]
  congr 2
  omega
theorem rskipB (hL:(Qz0 s).length<=400) (m:Nat) (out:List Token) (a:Nat) (ha:a<=(Qz0 s).length) (hm:(Qz0 s).length - a<m) :
  ∃ m',(Qz0 s).length - skipB (Qz0 s) a<m'∧QS0 s m out (a:Int)=QS0 s m' out ((skipB (Qz0 s) a:Nat):Int):=by
 have hle:=skipB_le (Qz0 s) a ha;have hk:skipB (Qz0 s) a=a+(((Qz0 s).drop a).takeWhile QB3).length:=rfl;refine ⟨m - (((Qz0 s).drop a).takeWhile QB3).length,by omega,?_⟩;rw [hk,← rskip s hL _ (m - (((Qz0 s).drop a).takeWhile QB3).length) out a (by omega) ?_]
 ·congr 1
  omega
 ·intro y hy;have:((Qz0 s).drop a).take (((Qz0 s).drop a).takeWhile QB3).length=((Qz0 s).drop a).takeWhile QB3:=(List.prefix_iff_eq_take.1 (yEb QB3)).symm;rw [this] at hy;exact List.all_eq_true.1 (List.all_takeWhile ..) y hy
theorem rstep (m:Nat) (out:List Token) (a:Nat) (ha:a<(Qz0 s).length) (hb:QB3 ((Qz0 s).getD a 0)=false) :
  QS0 s (m+1) out (a:Int)=bif ((Qe2 (Qz0 s) (a:Int)).2.2.2 != 0) then ([],(Qe2 (Qz0 s) (a:Int)).2.2.1,(Qe2 (Qz0 s) (a:Int)).2.2.2) else QS0 s m (out++[(Qe2 (Qz0 s) (a:Int)).1]) (Qe2 (Qz0 s) (a:Int)).2.1:=by
 rw [QS0,Qb9,yha (show (a:Int)<((Qz0 s).length:Int) by omega),yoa];have:((Qo0 ((Qz0 s).getD a 0))==1)=false:=hb;rw [this]
 rfl
theorem rend (m:Nat) (out:List Token):QS0 s (m+1) out ((Qz0 s).length:Int)=(out,((Qz0 s).length:Int),0):=by
 rw [QS0,Qb9,yja (by omega)]
 rfl
theorem skip_no (L:List Int) (a:Nat) (h:skipB L a<L.length):QB3 (L.getD (skipB L a) 0)=false:=by
 unfold skipB at *;have hd:(L.drop a)[((L.drop a).takeWhile QB3).length]? = some (L.getD (a+((L.drop a).takeWhile QB3).length) 0):=by
  rw [yDa,List.getD,yaa h]
  rfl
 have hsp:L.drop a=(L.drop a).takeWhile QB3++(L.drop a).dropWhile QB3:=(List.takeWhile_append_dropWhile).symm;generalize hX:(L.drop a).takeWhile QB3=X at *;generalize hY:(L.drop a).dropWhile QB3=Y at *;rw [hsp,yya (yla _),yfc] at hd;cases hc:Y with
 | nil=>rw [hc] at hd;cases hd
 | cons y t =>
  rw [hc] at hd;simp only [yfb,yba] at hd;rw [← hd];have:=List.head_dropWhile_not QB3 (l:=L.drop a) (by rw [hY,hc];simp);simpa [hY,hc] using this
end
theorem word_ref (s:ByteArray):Qi6 s=true ↔ Wd s:=by
 rcases ypa 400 s.size with hs|hs
 ·constructor
  ·intro h;unfold Qi6 Q51 at h;rw [yha (show (s.size:Int) > 400 by omega)] at h;cases h
  ·rintro ⟨h,_⟩;omega
 have hL:(Qz0 s).length<=400:=yJa (line_len s) hs;have e0:Q51 s=QS0 s ((Qz0 s).length+1) [] ((0:Nat):Int):=by
  unfold Q51;rw [yja (show ¬ (s.size:Int) > 400 by omega),Qb9]
  rfl
 obtain ⟨m1,hm1,e1⟩:=rskipB s hL ((Qz0 s).length+1) [] 0 (by omega) (by omega);rw [e1] at e0;have hle0:=skipB_le (Qz0 s) 0 (by omega);obtain ⟨m2,rfl⟩:∃ m2,m1=m2+1:=⟨m1 - 1,by omega⟩;unfold Wd Qi6;constructor
 ·intro h;cases h1:(((Q51 s).2.2 != 0)||((((Q51 s).1).length:Int)!=1)) with
  | true=>rw [h1] at h;cases h
  | false =>
   rw [h1] at h;simp only [cond_false] at h;have hleni:((Q51 s).1.length:Int)=1:=by simpa using (or_f h1).2
   have hlen:(Q51 s).1.length=1:=by omega
   cases h2:((((((Q51 s).1).getD 0 zD).kind != 1)||(!(ByteArray.toList (((Q51 s).1).getD 0 zD).text==ByteArray.toList s)))||((((Q51 s).1).getD 0 zD).num != 0)) with
   | true=>rw [h2] at h;cases h
   | false =>
    obtain ⟨h3,_⟩:=or_f h2;obtain ⟨hk,ht⟩:=or_f h3;have hk:((Q51 s).1.getD 0 zD).kind=1:=by simpa using hk
    have ht:((Q51 s).1.getD 0 zD).text=s:=by
     have:(ByteArray.toList (((Q51 s).1).getD 0 zD).text==ByteArray.toList s)=true:=by simpa using ht
     exact (bytes_inj _ _).1 this
    rcases yGb hle0 with hb|hb
    ·rw [hb,rend] at e0;rw [e0] at hlen;cases hlen
    ·have hnb:=skip_no _ _ hb;rw [rstep s m2 [] _ hb hnb] at e0;cases he:((Qe2 (Qz0 s) ((skipB (Qz0 s) 0:Nat):Int)).2.2.2 != 0) with
     | true =>
      rw [he] at e0;rw [e0] at hlen;cases hlen
     | false =>
      rw [he] at e0;simp only [cond_false,ydb] at e0;have hp:∀ o i m,Q51 s=QS0 s m o i->(Q51 s).1=[]∨o <+: (Q51 s).1:=fun o i m e=>by rw [e];exact QQb s _ _ _
      rcases hp _ _ _ e0 with h'|h'
      ·rw [h'] at hlen;cases hlen
      ·have hhead:(Q51 s).1.getD 0 zD=(Qe2 (Qz0 s) ((skipB (Qz0 s) 0:Nat):Int)).1:=by
        obtain ⟨q,hq⟩:=h';rw [← hq]
        rfl
       rw [hhead] at hk ht;have hcl:(Qo0 ((Qz0 s).getD (skipB (Qz0 s) 0) 0)==2)=true:=by
        cases hcc:(Qo0 ((Qz0 s).getD (skipB (Qz0 s) 0) 0)==2) with
        | true=>rfl
        | false=>exact absurd hk (one_kind _ _ (by rw [yoa];exact hcc))
       have hcl':=eq_of_beq hcl;rw [one_word _ hL _ hb hcl'] at e0 ht;simp only at e0 ht;have hfirst:(Qz0 s).drop (skipB (Qz0 s) 0)=(Qz0 s).getD (skipB (Qz0 s) 0) 0 :: (Qz0 s).drop (skipB (Qz0 s) 0+1):=by
        rw [yWa hb]
        congr 1
        simp [List.getD,yaa hb]
       have hwp:wordP ((Qz0 s).getD (skipB (Qz0 s) 0) 0)=true:=by unfold wordP;rw [hcl'];rfl
       have hz:skipB (Qz0 s) 0=0:=by
        rcases yMa (skipB (Qz0 s) 0) with hz|hz
        ·exact hz
        ·exfalso;cases hl:Qz0 s with
         | nil=>rw [hl] at hb;exact absurd hb (by simp)
         | cons y q =>
          have hy:QB3 y=true:=by
           cases hbl:QB3 y with
           | true=>rfl
           | false =>
            have:skipB (Qz0 s) 0=0:=by
             unfold skipB;rw [yqb,hl,yvb,hbl]
             rfl
            omega
          rw [hfirst,yvb,hwp] at ht;exact no_blank_word s y q hl hy _ _ hcl' ht
       rw [hz] at e0 ht hcl' hb;simp only [yqb,yna] at e0 ht;cases hl:Qz0 s with
       | nil=>rw [hl] at hb;exact absurd hb (by simp)
       | cons x r =>
        rw [← hl];refine ⟨hs,x,r,hl,by rw [hl] at hcl';exact hcl',ht,?_⟩;have hle:((Qz0 s).takeWhile wordP).length<=(Qz0 s).length:=(yEb wordP).length_le;have hpos:0<((Qz0 s).takeWhile wordP).length:=by
         rw [hl,yvb];have hcx:Qo0 x=2:=by rw [hl] at hcl';exact hcl'
         have:wordP x=true:=by unfold wordP;rw [hcx];rfl
         rw [this];simp
        obtain ⟨m3,hm3,e3⟩:=rskipB s hL m2 [⟨1,QE3 (runesBytes ((Qz0 s).takeWhile wordP)),0,((0:Nat):Int)⟩] ((Qz0 s).takeWhile wordP).length hle (by omega);rw [e3] at e0;have hle2:=skipB_le (Qz0 s) _ hle;rcases yGb hle2 with hq|hq
        ·exact hq
        ·exfalso;obtain ⟨m4,rfl⟩:∃ m4,m3=m4+1:=⟨m3 - 1,by omega⟩;rw [rstep s m4 _ _ hq (skip_no _ _ hq)] at e0;cases he2:((Qe2 (Qz0 s) ((skipB (Qz0 s) ((Qz0 s).takeWhile wordP).length:Nat):Int)).2.2.2 != 0) with
         | true =>
          rw [he2] at e0;rw [e0] at hlen;cases hlen
         | false =>
          rw [he2] at e0;simp only [cond_false] at e0;rcases hp _ _ _ e0 with h''|h''
          ·rw [h''] at hlen;cases hlen
          ·have:=h''.length_le;rw [hlen] at this;simp at this
 ·rintro ⟨_,x,r,hl,hx,ht,hsk⟩;have hz:skipB (Qz0 s) 0=0:=by
   unfold skipB;rw [yqb,hl,yvb];have:QB3 x=false:=by unfold QB3;rw [hx];rfl
   rw [this]
   rfl
  have hb:0<(Qz0 s).length:=by rw [hl];simp
  have hg:(Qz0 s).getD 0 0=x:=by rw [hl];rfl
  rw [hz] at e0 hm1;have hnb:QB3 ((Qz0 s).getD 0 0)=false:=by rw [hg];unfold QB3;rw [hx];rfl
  rw [rstep s m2 [] 0 hb hnb,one_word _ hL 0 hb (by rw [hg];exact hx)] at e0;simp only [yqb,yna,ydb] at e0;have e00:((0:Int)!=0)=false:=rfl;rw [e00] at e0;simp only [cond_false] at e0;have hle:((Qz0 s).takeWhile wordP).length<=(Qz0 s).length:=(yEb wordP).length_le;have hpos:0<((Qz0 s).takeWhile wordP).length:=by
   rw [hl,yvb];have:wordP x=true:=by unfold wordP;rw [hx];rfl
   rw [this];simp
  obtain ⟨m3,hm3,e3⟩:=rskipB s hL m2 [⟨1,QE3 (runesBytes ((Qz0 s).takeWhile wordP)),0,((0:Nat):Int)⟩] ((Qz0 s).takeWhile wordP).length hle (by omega);rw [e3,hsk,ht] at e0;obtain ⟨m4,rfl⟩:∃ m4,m3=m4+1:=⟨m3 - 1,by omega⟩;rw [rend] at e0;rw [e0];simp
theorem word_eq (s:ByteArray):QR5 s=Qi6 s:=by
 rw [yLa,word_prog,word_ref]
theorem alts_le {s:Shape} (h:(Q02 s==0)=true):s.alts.length<=6:=by
 have h:=eq_of_beq h;unfold Q02 Q92 at h
 by_cases h1:s.kind=1
 ·simp only [h1,beq_self_eq_true,cond_true] at h
  grind
 by_cases h2:s.kind=2
 ·have:((2:Int)==1)=false:=rfl;simp only [h2,beq_self_eq_true,cond_true,this,cond_false] at h
  grind
 by_cases h3:s.kind=3
 ·have e1:((3:Int)==1)=false:=rfl;have e2:((3:Int)==2)=false:=rfl;simp only [h3,beq_self_eq_true,cond_true,e1,e2,cond_false] at h
  grind
 have e1:(s.kind==1)=false:=by simpa using h1
 have e2:(s.kind==2)=false:=by simpa using h2
 have e3:(s.kind==3)=false:=by simpa using h3
 rw [e1,e2,e3] at h;cases h
theorem deps_le {l:List Dep} (h:QH7 l=true):l.length<=4:=by
 rcases ypa 4 l.length with h'|h'
 ·unfold QH7 at h;rw [Qnf l h'] at h;cases h
 ·exact h'
theorem cmd_self (c:Cmd):QJa c c=true:=by
 unfold QJa;rw [(shape_same _ _).2 rfl,(equal_Dep _ _).2 rfl];simp
theorem submission_eq (n u a:ByteArray) (sh:Shape) (p:Int) (l:List Dep) :
  Qc4 ⟨1,0,n,u,a,sh,p,true,0,false,l,0,0,0⟩=Q16 ⟨1,0,n,u,a,sh,p,true,0,false,l,0,0,0⟩:=by
 have hbare:QG7 ⟨1,0,n,u,a,sh,p,true,0,false,l,0,0,0⟩=⟨1,0,n,u,a,sh,p,true,0,false,l,0,0,0⟩:=rfl;have hf:Qn8 ⟨1,0,n,u,a,sh,p,true,0,false,l,0,0,0⟩=((Qr2 p 0 100)&&(((((((Qk5 n)&&(Qk5 u))&&(Qk5 a))&&(QR5 u))&&(QR5 a))&&(QH7 l))&&((Q02 sh)==0))):=by
  unfold Qn8;show (bif ((((true&&(!(Qr2 p 0 100)))||false)||false)||false) then false else _)=_;cases (Qr2 p 0 100) <;> rfl
 have hr:Q16 ⟨1,0,n,u,a,sh,p,true,0,false,l,0,0,0⟩=bif !((((((((Qh6 n)&&(Qh6 u))&&(Qh6 a))&&(Qi6 u))&&(Qi6 a))&&(QC9 l))&&((QC1 sh)==0))&&(Qr2 p 0 100)) then 80 else 0:=by
  unfold Q16 QQ2 QI8 QJ8 Qj6;simp
 rw [hr];unfold Qc4;rw [hbare,cmd_self,hf,← name_eq,← name_eq,← name_eq,← word_eq,← word_eq,← deps_eq,← QO8];cases hd:QH7 l with
 | false=>cases (Qr2 p 0 100) <;> simp
 | true =>
  cases hs:(Q02 sh==0) with
  | false=>cases (Qr2 p 0 100) <;> simp
  | true =>
   have h1:=alts_le hs;have h2:=deps_le hd;have e1:decide ((sh.alts.length:Int) > 6)=false:=yja (by omega);have e2:decide ((l.length:Int) > 4)=false:=yja (by omega);show (bif (((decide ((sh.alts.length:Int) > 6))||(decide ((l.length:Int) > 4)))||_)||_ then (80:Int) else 0)=_;rw [e1,e2];cases (Qr2 p 0 100) <;> cases Qk5 n <;> cases Qk5 u <;> cases Qk5 a <;> cases QR5 u <;> cases QR5 a <;> rfl
theorem opt_wall (s:Shape):∀ x ∈ Qh0 s,1<=x.wall∧x.wall<=100000:=by
 intro x hx;cases hc:(QC1 s != 0) with
 | true =>
  unfold Qh0 at hx;rw [hc] at hx;cases hx
 | false =>
  have hz:QC1 s=0:=by simpa using hc
  cases hk:(s.kind==3) with
  | true =>
   have hk3:s.kind=3:=by simpa using hk
   have hw:1<=s.wall∧s.wall<=100000:=by
    unfold QC1 at hz;simp only [hk3,beq_self_eq_true,cond_true] at hz;cases hq:(((((decide ((s.alts.length:Int) > 0))||(!(Qz1 s.min)))||(!(Qz1 s.max)))||(decide (s.max<s.min)))||(!(Qw2 s.wall))) with
    | true=>rw [hq] at hz;cases hz
    | false =>
     have:=(or_f hq).2;unfold Qw2 at this;simp at this;omega
   rw [← QV7] at hx;unfold Qc1 at hx;rw [QO8,hc,hk] at hx;simp only [cond_false,cond_true] at hx;rcases List.mem_append.1 hx with hx|hx
   ·have h0:s.alts.length=0:=by
     unfold QC1 at hz;simp only [hk3,beq_self_eq_true,cond_true] at hz;cases hq:(((((decide ((s.alts.length:Int) > 0))||(!(Qz1 s.min)))||(!(Qz1 s.max)))||(decide (s.max<s.min)))||(!(Qw2 s.wall))) with
     | true=>rw [hq] at hz;cases hz
     | false =>
      have:=yea (or_f (or_f (or_f (or_f hq).1).1).1).1;omega
    rw [yAa h0] at hx;cases hx
   ·unfold Q76 at hx;obtain ⟨i,_,rfl⟩:=List.mem_map.1 hx;exact hw
  | false =>
   have hk':(s.kind != 3)=true:=by unfold bne;rw [hk];rfl
   have hx':x ∈ s.alts:=by
    unfold Qh0 at hx;rw [hc,hk'] at hx;exact hx
   have hg:Qp1 s s.alts 0=0:=by
    unfold QC1 Q04 at hz;rw [hk] at hz;simp only [cond_false] at hz
    grind
   have:=((g2_eq s s.alts 0 (by simp)).1.1 hg).1 x hx';unfold okAlt Qw2 at this;simp at this;omega
theorem QRf (v:Job) (c:Int):(QK0 v c).2=decide (QK2 v.shape c > 0)∧((QK0 v c).2=false ↔ QK2 v.shape c=0)∧((QK0 v c).2=true->(QK0 v c).1.wall=QK2 v.shape c∧1<=QK2 v.shape c∧QK2 v.shape c<=100000):=by
 unfold QK0 QK2;rw [QV7];cases hb:((decide (c<0))||(decide (c >= ((Qh0 v.shape).length:Int)))) with
 | true=>exact ⟨rfl,⟨fun _=>rfl,fun _=>rfl⟩,fun h=>(by cases h)⟩
 | false =>
  obtain ⟨h1,h2⟩:=or_f hb;have h1:=yea h1;have h2:=yea h2;simp only [cond_false];have hm:(Qh0 v.shape).getD (Int.toNat c) zA ∈ Qh0 v.shape:=by
   rw [List.getD,yaa (show Int.toNat c<(Qh0 v.shape).length by omega)];exact y7a _
  have hw:=opt_wall v.shape _ hm;exact ⟨(yha (by omega)).symm,⟨fun h=>(by cases h),fun h=>by omega⟩,fun _=>⟨trivial,hw⟩⟩
theorem nodes_few {s:Int} (hs:U64 s):Qr6 s=Q6g s:=by
 obtain ⟨au,ab⟩:=QW9 (n:=48) (by decide);have au:U64 (QD3 48):=au;have ab:∀ k,tb (QD3 48) k=decide (k<48):=ab;unfold Qr6 Q6g;rw [yLa,Qzb (QE7 _),yda];have ht:∀ k,tb (wu64 (BitVec.ofInt 64 s &&& ~~~(BitVec.ofInt 64 (QD3 48))).toNat) k=(tb s k && !decide (k<48)):=fun k=>by rw [Qi5 hs au,ab]
 have p48:(2:Nat) ^ 48=281474976710656:=by decide
 constructor
 ·intro h;have:s.toNat<2 ^ 48:=by
   refine Nat.lt_pow_two_of_testBit _ fun k hk=>?_
   rcases ypa k 64 with hk'|hk'
   ·have:=h k hk';rw [ht,yja (show ¬ k<48 by omega)] at this;simpa [tb] using this
   ·exact QWb hs hk'
  rw [p48] at this;unfold U64 at hs;omega
 ·intro h k _;rw [ht];rcases ypa k 48 with hk|hk
  ·rw [yha hk];simp
  ·have:tb s k=false:=by
    unfold tb;refine ybc (yYa (m:=2 ^ 48) ?_ (yqc (by decide) hk));rw [p48];unfold U64 at hs;omega
   rw [this]
   rfl
theorem queued_eq {v:Job} (h:v.state=1):Qo2 v=QT1 v:=by
 unfold QT1;rw [h];simp only [beq_self_eq_true,cond_true];unfold Qo2;rw [(QRf v v.choice).1];have et:Qj2=QA1:=rfl;rw [et];cases hp:(v.promise==(-1)) with
 | true =>
  have:v.promise = -1:=by simpa using hp
  have hT:QA1 v.promise=false:=by rw [this];rfl
  rw [hT];unfold bne;cases (v.start==0) <;> cases (v.limit==0) <;> cases (v.nodes==0) <;> simp
 | false =>
  unfold bne;cases (v.start==0) <;> cases (v.limit==0) <;> cases (v.nodes==0) <;> simp
theorem running_eq {v:Job} (h:v.state=2) (hn:U64 v.nodes):Ql1 v=QT1 v:=by
 unfold QT1;rw [h];have e1:((2:Int)==1)=false:=rfl;simp only [beq_self_eq_true,cond_true,e1,cond_false];unfold Ql1;rw [nodes_few hn,allows_eq,QS8 hn];have et:Qj2=QA1:=rfl;rw [et];obtain ⟨_,o2,o3⟩:=QRf v v.choice;cases ho:(QK0 v v.choice).2 with
 | false =>
  rw [o2.1 ho]
  rfl
 | true =>
  obtain ⟨w1,w2,w3⟩:=o3 ho;have hw0:(QK2 v.shape v.choice==0)=false:=by simp;omega
  rw [hw0,w1];simp only [ygb,yXa];cases v.held with
  | true=>rfl
  | false =>
   cases hs:QA1 v.start with
   | false=>rfl
   | true =>
    cases QA1 v.promise with
    | false=>rfl
    | true =>
     have:decide (v.promise<v.start)=decide (v.start > v.promise):=rfl;rw [this];cases decide (v.start > v.promise) with
     | true=>rfl
     | false =>
      cases hl:QA1 v.limit with
      | false=>rfl
      | true =>
       unfold QA1 at hs hl;simp only [yca,yda] at hs hl;have q1:w64 (v.limit - v.start)=v.limit - v.start:=wr (by omega);have q2:w64 (v.start+QK2 v.shape v.choice)=v.start+QK2 v.shape v.choice:=wr (by omega);rw [q1,q2];have:(v.limit - v.start != QK2 v.shape v.choice)=(v.limit != v.start+QK2 v.shape v.choice):=by
        rw [yLa];simp only [bne_iff_ne];omega
       rw [this]
theorem over_eq {v:Job} (h1:(v.state==1)=false) (h2:(v.state==2)=false):(Qc8 v.state&&Qv4 v)=QT1 v:=by
 unfold QT1;rw [h1,h2];have et:Qj2=QA1:=rfl;have ee:Qc8=Q5g:=rfl;unfold Qv4;rw [et,ee];simp only [cond_false,Bool.and_assoc]
theorem ref14_go (j:Job):∀ (l:List Dep) (i:Nat),Q44 j l i=bif l.any (fun y=>decide (y.job >= j.id)) then 140 else (bif !(QT1 j) then 140 else 0)
 | [],i=>rfl
 | x :: r,i=>by
  rw [Q44,y8b];cases decide (x.job >= j.id) with
  | true=>rfl
  | false=>simpa using ref14_go j r (i+1)
theorem job_eq (j:Job) (hn:U64 j.nodes):Q61 j=QZ1 j:=by
 unfold Q61 QZ1;rw [ref14_go,any_Dep];have es:Qc4 (Qk0 j)=Q16 ⟨1,0,j.name,j.user,j.account,j.shape,j.prio,true,0,false,j.after,0,0,0⟩:=submission_eq _ _ _ _ _ _;rw [es];have et:Qj2=QA1:=rfl;rw [et];have eu:(j.used != Ql4 j.used)=(decide (j.used<0)||decide (j.used > 1000000000000)):=by
  unfold Ql4 QL5
  grind
 rw [eu];have est:(bif (j.state==1) then (bif (!(Qo2 j)) then (140:Int) else 0) else bif (j.state==2) then (bif (!(Ql1 j)) then 140 else 0) else bif (!(Qc8 j.state)) then 140 else bif (!(Qv4 j)) then 140 else 0)=(bif !(QT1 j) then 140 else 0):=by
  cases h1:(j.state==1) with
  | true =>
   rw [queued_eq (by simpa using h1)]
   rfl
  | false =>
   cases h2:(j.state==2) with
   | true =>
    rw [running_eq (by simpa using h2) hn]
    rfl
   | false =>
    rw [← over_eq h1 h2];cases Qc8 j.state <;> cases Qv4 j <;> rfl
 rw [est];generalize (bif !(QT1 j) then (140:Int) else 0)=Z;generalize (List.any j.after fun y=>decide (y.job >= j.id))=A;generalize ((Q16 ⟨1,0,j.name,j.user,j.account,j.shape,j.prio,true,0,false,j.after,0,0,0⟩)!=0)=B;generalize decide (j.id<1)=C;generalize decide (j.id > 99999)=D;generalize QA1 j.born=E;generalize decide (j.used<0)=F;generalize decide (j.used > 1000000000000)=G;cases A <;> cases B <;> cases C <;> cases D <;> cases E <;> cases F <;> cases G <;> rfl
theorem table_eq (l:List Job) (hl:l.length<=4294967296) (hn:∀ x ∈ l,U64 x.nodes):Qr1 l=QU6 l:=by
 have h:=ord_eq zG (·.id) (fun x=>Q61 x != 0) 140 40 l hl (QV4 l) Q97 (fun _=>rfl) (fun _ _ _ _=>rfl) (fun _ _=>rfl) (fun x hx r last i _=>by
   rw [Q97,job_eq x (hn x hx)]
   rfl) (fun x hx=>(QM4 (by simpa using hx)).1) l 0 0 (by simp) (by omega) (by omega) (fun _=>rfl) (fun h=>absurd h (by omega))
 unfold Qr1 QU6;rw [← h];have e:decide ((l.length:Int) > 40)=decide (l.length > 40):=by rw [yLa];simp only [yda];omega
 rw [e]
theorem room_eq (s:State) (hs:s.sz) (hn:∀ x ∈ s.jobs,U64 x.nodes):Qb1 s=Q36 s:=by
 unfold Qb1 Q36;rw [QW3,table_eq s.jobs hs.2.1 hn,Ql9 s.books hs.2.2.2.2.1];unfold QA1;have:(decide (s.now<0)||decide (s.now > 1000000)) = !(decide (s.now >= 0)&&decide (s.now<=1000000)):=by
  rw [yLa];simp only [y3a,yda,y5a,yPb,yCa];omega
 rw [this]
theorem plan_eq (s:State) (hs:s.sz) (hn:∀ x ∈ s.jobs,U64 x.nodes):Qy1 s=Qh8 s:=by
 unfold Qy1 Qh8;rw [room_eq s hs hn,QGf s.ledger hs.2.2.2.2.2.1]
theorem pow_step (i:Nat) (h:i<63):wu64 ((2:Int) ^ i*2)=(2:Int) ^ (i+1):=by
 rw [← Int.pow_succ];exact QC7 (pow_U (by omega))
theorem bit09_go (n:Nat) (hn:n<=63):∀ (m i:Nat),i<=n->n - i<m->(Qp7 (n:Int) m ((2:Int) ^ i) i).1=(2:Int) ^ n
 | 0,_,_,h=>absurd h (by omega)
 | m+1,i,hi,hm=>by
  rw [Qp7];rcases ypa i n with h|h
  ·rw [yha (show (i:Int)<(n:Int) by omega),pow_step i (by omega)];exact bit09_go n hn m (i+1) (by omega) (by omega)
  ·obtain rfl:i=n:=by omega
   rw [yja (by omega)]
   rfl
theorem bit09 (n:Nat) (hn:n<=63):QHc (n:Int)=(2:Int) ^ n:=by
 unfold QHc Q7e;have:=bit09_go n hn (Int.toNat ((n:Int) - (0:Int))+1) 0 (by omega) (by omega);simpa using this
theorem bit12_go (n:Nat) (hn:n<=63):∀ (m i:Nat),i<=n->n - i<m->(Qq7 (n:Int) m ((2:Int) ^ i) i).1=(2:Int) ^ n
 | 0,_,_,h=>absurd h (by omega)
 | m+1,i,hi,hm=>by
  rw [Qq7];rcases ypa i n with h|h
  ·rw [yha (show (i:Int)<(n:Int) by omega),Int.mul_comm,pow_step i (by omega)];exact bit12_go n hn m (i+1) (by omega) (by omega)
  ·obtain rfl:i=n:=by omega
   rw [yja (by omega)]
   rfl
theorem bit12 (n:Nat) (hn:n<=63):Q3g (n:Int)=(2:Int) ^ n:=by
 unfold Q3g Qbe;have:=bit12_go n hn (Int.toNat ((n:Int) - (0:Int))+1) 0 (by omega) (by omega);simpa using this
theorem has_eq {s:Int} (hs:U64 s) (n:Nat):Q59 s (n:Int)=QU0 s (n:Int):=by
 rw [QB5 hs];unfold Q59;rcases ypa n 64 with h|h
 ·rw [yja (show ¬ (n:Int)<0 by omega),yja (show ¬ (n:Int) > 63 by omega),yha h,bit09 n (by omega)];simp only [y7b,cond_false,yFb];obtain ⟨q,rfl⟩:∃ q:Nat,s=(q:Int):=⟨s.toNat,by unfold U64 at hs;omega⟩;obtain ⟨p,e,e'⟩:=Qu7 n;have e1:Int.tdiv (q:Int) (p:Int)=((q / p:Nat):Int):=rfl;have hq:q / p<18446744073709551616:=by
   have:=Nat.div_le_self q p;unfold U64 at hs;omega
  rw [e,e1,tb,yoa,Nat.testBit_eq_decide_div_mod_eq,e'];generalize q / p=w at *;rw [QC7 ⟨by omega,by omega⟩];have e2 : Int.tmod (w : Int) 2 = ((w % 2 : Nat) : Int) := rfl;rw [e2,yLa];simp;omega
 ·rw [yha (show (n:Int) > 63 by omega),yja (show ¬ n<64 by omega)];simp
theorem of_go (job st:Int) (l:List Node) (hl:l.length<=64):∀ (r:List Node) (i:Nat),r=l.drop i->i+r.length=l.length ->
  (QS6 job st r (QN2 (fun k=>((l.getD k zF).job==job)&&((l.getD k zF).state==st)) i) i).1=QN2 (fun k=>((l.getD k zF).job==job)&&((l.getD k zF).state==st)) l.length
 | [],i,hr,hlen=>by
  have:i=l.length:=by simpa using hlen
  subst this
  rfl
 | x :: r,i,hr,hlen=>by
  simp only [yka] at hlen;have hr':r=l.drop (i+1):=by rw [← yxb,← hr];rfl
  have hi:l[i]? = some x:=by
   have:=congrArg (fun q=>q[0]?) hr;simpa [yDa] using this.symm
  have hg:l.getD i zF=x:=by simp [List.getD,hi]
  have ih:=of_go job st l hl r (i+1) hr' (by omega);rw [QS6];rw [QN2,hg] at ih;cases hc:((x.job==job)&&(x.state==st)) with
  | true =>
   rw [hc] at ih;simp only [cond_true] at ih ⊢;have hlt:=Qk9 (fun k=>((l.getD k zF).job==job)&&((l.getD k zF).state==st)) i;have hu:U64 (QN2 (fun k=>((l.getD k zF).job==job)&&((l.getD k zF).state==st)) i+(2:Int) ^ i):=by
    have:=bitsUpto_U (fun k=>((l.getD k zF).job==job)&&((l.getD k zF).state==st)) (n:=i+1) (by omega);rw [QN2] at this;simp only [hg,hc,cond_true] at this;exact this
   rw [bit12 i (by omega),QC7 hu];exact ih
  | false =>
   rw [hc] at ih;exact ih
theorem of_eq (l:List Node) (job st:Int):Qq6 l job st=Qx8 l job st:=by
 unfold Qx8;rw [← QW3];cases hc:(Q50 l != 0) with
 | true =>
  unfold Qq6 Q31;rw [hc]
  rfl
 | false =>
  have hz:Q50 l=0:=by simpa using hc
  have hl:l.length<=64:=by
   unfold Q50 at hz;cases h1:(((decide ((l.length:Int)<1))||(decide ((l.length:Int) > 48)))||(QH0 l (fun (y:Node)=>(!(QG0 y))))) with
   | true=>rw [h1] at hz;cases hz
   | false =>
    have:=yea (or_f (or_f h1).1).2;omega
  obtain ⟨u,b⟩:=Q23 l (fun (y:Node)=>((y.job==job)&&(y.state==st))) hz hl;have h:=of_go job st l hl l 0 (by simp) (by omega);simp only [cond_false,Q1g];rw [QN2] at h;rw [h];refine Q7d u (bitsUpto_U _ hl) fun k _=>?_
  rw [tb_upto];exact b k
theorem QJe (s:State) (is:Int->Node->Bool) (hl:s.nodes.length<=64):U64 (QM2 s is) ∧ ∀ k,tb (QM2 s is) k=(decide (k<s.nodes.length)&&is (k:Int) (s.nodes.getD k zF)):=by
 have e:QM2 s is=(QO0 (idxL (fun k x=>is (k:Int) x) s.nodes 0)).1:=by
  unfold QM2 Q84;rw [QUe (fun k x=>is (k:Int) x) (QP5 is) (fun _ _=>rfl) (fun _ _ _ _=>rfl),ydb]
 rw [e];exact set_where (fun k x=>is (k:Int) x) zF s.nodes hl
theorem list_go {s:Int} (hs:U64 s):∀ (m:Nat) (out:List Int) (i:Nat),i<=64->64 - i<m->QG1 s m out i=out++((List.range' i (64 - i)).filter (tb s)).map fun (k:Nat)=>(k:Int)
 | 0,_,_,_,h=>absurd h (by omega)
 | m+1,out,i,hi,hm=>by
  rw [QG1];rcases ypa i 64 with h|h
  ·have e:64 - i=(64 - (i+1))+1:=by omega
   rw [yha (show (i:Int)<64 by omega),and_one hs h,e,List.range'_succ,ywb];cases tb s i with
   | true =>
    simp only [cond_true,if_true,y8a];rw [list_go hs m _ (i+1) (by omega) (by omega),yhb]
    rfl
   | false =>
    simp only [cond_true,cond_false];rw [list_go hs m _ (i+1) (by omega) (by omega)]
    rfl
  ·rw [yja (show ¬ (i:Int)<64 by omega),show 64 - i=0 by omega];simp
theorem list_mem {s:Int} (hs:U64 s) (x:Int):x ∈ Qc0 s ↔ ∃ k:Nat,k<64∧tb s k=true∧x=(k:Int):=by
 unfold Qc0 QR2;rw [list_go hs _ [] 0 (by omega) (by omega)];simp only [ydb,yDb,yub,List.mem_range'];constructor
 ·rintro ⟨k,⟨⟨j,hj,rfl⟩,hb⟩,rfl⟩;exact ⟨_,by omega,hb,rfl⟩
 ·rintro ⟨k,hk,hb,rfl⟩;exact ⟨k,⟨⟨k,by omega,by omega⟩,hb⟩,rfl⟩
theorem quiet_go (l:List Node):∀ (r:List Int) (i:Nat),QT3 l r i=r.all fun x=>(decide (x<(l.length:Int)))&&((l.getD (Int.toNat x) zF).want==0)
 | [],i=>rfl
 | x :: r,i=>by
  rw [QT3,List.all_cons,quiet_go l r];cases ((decide (x<(l.length:Int)))&&((l.getD (Int.toNat x) zF).want==0)) <;> rfl
theorem quiet_iff {l:List Node} {s:Int} (hs:U64 s) (hc:Q50 l=0):Qn2 l s=true ↔ ∀ k,k<64->tb s k=true->k<l.length∧(l.getD k zF).want=0:=by
 unfold Qn2;rw [hc,quiet_go];show (Qc0 s).all _=true ↔ _;rw [y6a];constructor
 ·intro h k hk hb;have:=h (k:Int) ((list_mem hs _).2 ⟨k,hk,hb,rfl⟩);simp only [yca,yda,beq_iff_eq,yoa] at this;exact ⟨by omega,this.2⟩
 ·intro h x hx;obtain ⟨k,hk,hb,rfl⟩:=(list_mem hs _).1 hx;obtain ⟨h1,h2⟩:=h k hk hb;simp only [yca,yda,beq_iff_eq,yoa];exact ⟨by omega,h2⟩
theorem QL7 {α β:Type} [BEq α] [LawfulBEq α] (k k':α) (v:β):∀ l:List (α × β),getM k (setM k' v l)=bif k==k' then some v else getM k l
 | []=>rfl
 | p :: r=>by
  rw [setM];cases hp:k'==p.1 with
  | true =>
   have e:=eq_of_beq hp;simp only [cond_true,getM];rw [← e];cases k==k' <;> rfl
  | false =>
   simp only [cond_false,getM];rw [QL7 k k' v r];cases hk:k==k' with
   | true =>
    have e:=eq_of_beq hk;subst e;rw [hp]
    rfl
   | false=>rfl
theorem QK7 (id:Int):∀ (l:List Job) (i:Nat) (c:List (Int × Job)),(∀ x ∈ l,x.state=2->x.id ≠ id)->getM id (QA0 l i c)=getM id c
 | [],i,c,_=>rfl
 | x :: r,i,c,h=>by
  rw [QA0];have ih:=fun c=>QK7 id r (i+1) c fun y hy=>h y (yga _ hy)
  cases hs:(x.state==2) with
  | false=>exact ih c
  | true =>
   have hne:=h x (yma ..) (by simpa using hs);show getM id (QA0 r (i+1) (setM x.id x c))=_;have hb:(id==x.id)=false:=by simpa using Ne.symm hne
   rw [ih,QL7,hb]
   rfl
theorem Qs9 (x:Job) (hs:x.state=2):∀ (l:List Job) (i:Nat) (c:List (Int × Job)),x ∈ l->l.Pairwise (fun a b=>a.id<b.id)->getM x.id (QA0 l i c)=some x
 | [],i,c,h,_=>nomatch h
 | y :: r,i,c,h,hp=>by
  obtain ⟨h1,h2⟩:=List.pairwise_cons.1 hp;rw [QA0];rcases List.mem_cons.1 h with rfl|h
  ·rw [beq_iff_eq.2 hs];show getM x.id (QA0 r (i+1) (setM x.id x c))=_;rw [QK7 x.id r (i+1) _ (fun z hz _=>by have:=h1 z hz;omega),QL7,beq_self_eq_true]
   rfl
  ·cases (y.state==2) with
   | true=>exact Qs9 x hs r (i+1) _ h h2
   | false=>exact Qs9 x hs r (i+1) _ h h2
theorem at_go (id:Int):∀ (l:List Job) (i:Nat),(∀ x ∈ l,x.id ≠ id)->QF3 id l i = -1
 | [],i,_=>rfl
 | x :: r,i,h=>by
  rw [QF3];have:(x.id==id)=false:=by simpa using h x (yma ..)
  rw [this];exact at_go id r (i+1) fun y hy=>h y (yga _ hy)
theorem at_some (x:Job):∀ (l:List Job) (p i:Nat),l[p]? = some x->l.Pairwise (fun a b=>a.id<b.id)->QF3 x.id l i=((i+p:Nat):Int)
 | [],p,i,h,_=>by simp at h
 | y :: r,p,i,h,hp=>by
  obtain ⟨h1,h2⟩:=List.pairwise_cons.1 hp;rw [QF3];rcases p with _|p
  ·simp at h;subst h;simp
  ·have hx:r[p]? = some x:=by simpa using h
   have:=h1 x (yIa hx);have hne:(y.id==x.id)=false:=by simp;omega
   rw [hne];show QF3 x.id r (i+1)=_;rw [at_some x r p (i+1) hx h2]
   congr 1
   omega
theorem Q0b {s:State} (hp:s.jobs.Pairwise (fun a b=>a.id<b.id)) {x:Job} (hx:x ∈ s.jobs):QZ0 s x.id=if x.state=2 then (x,true) else (zG,false):=by
 obtain ⟨p,hpx⟩:=yab hx;unfold QZ0 Qv1;rw [at_some x s.jobs p 0 hpx hp,yna];have hg:s.jobs.getD p zG=x:=by simp [List.getD,hpx]
 rw [yoa,hg,yja (show ¬ (p:Int)<0 by omega)]
 by_cases h:x.state=2
 ·simp [h]
 ·have:(x.state != 2)=true:=by simpa using h
  rw [this,if_neg h]
  rfl
theorem QYe {s:State} (id:Int) (h:∀ x ∈ s.jobs,x.id ≠ id):QZ0 s id=(zG,false):=by
 unfold QZ0 Qv1;rw [at_go id s.jobs 0 h]
 rfl
theorem run_get {s:State} (hp:s.jobs.Pairwise (fun a b=>a.id<b.id)) (id:Int):(getM id (QA0 s.jobs 0 [])).isSome=(QZ0 s id).2∧(getM id (QA0 s.jobs 0 [])).getD zG=(QZ0 s id).1:=by
 by_cases h:∃ x ∈ s.jobs,x.id=id
 ·obtain ⟨x,hx,rfl⟩:=h;rw [Q0b hp hx]
  by_cases hs:x.state=2
  ·rw [Qs9 x hs s.jobs 0 [] hx hp,if_pos hs];exact ⟨rfl,rfl⟩
  ·rw [QK7 x.id s.jobs 0 [],if_neg hs]
   ·exact ⟨rfl,rfl⟩
   ·intro y hy hys e;obtain ⟨p,hpx⟩:=yab hx;obtain ⟨q,hqy⟩:=yab hy;rcases yob p q with h|h|h
    ·have:=Qf6 hp p q x y h hpx hqy;omega
    ·subst h;rw [hpx] at hqy;cases hqy;exact hs hys
    ·have:=Qf6 hp q p y x h hqy hpx;omega
 ·have h':∀ x ∈ s.jobs,x.id ≠ id:=fun x hx e=>h ⟨x,hx,e⟩
  rw [QYe id h',QK7 id s.jobs 0 [] (fun x hx _=>h' x hx)];exact ⟨rfl,rfl⟩
theorem Qab {s:Int} (hs:U64 s) {k:Nat} (hk:k<64):Qg2 s (k:Int)=tb s k:=by
 unfold Qg2;rw [has_eq hs,QB5 hs,yha hk,yFb]
theorem fine_one (x:Node) (hf:Qu5 x=true):(x.want=2->x.state=2)∧(x.want=4->x.state=1):=by
 obtain ⟨st,jb,ep,dr,wa,si,as_⟩:=x;unfold Qu5 at hf;dsimp only at hf ⊢;cases h1:((((((decide (ep<0))||(decide (ep > 999999999)))||(decide (si<0)))||(decide (si > 1000000)))||(decide (as_<0)))||(decide (as_ > 1000000))) with
 | true=>rw [h1] at hf;cases hf
 | false =>
  rw [h1] at hf;simp only [cond_false] at hf
  by_cases h0:st=0
  ·subst h0;simp at hf;omega
  by_cases h4:st=4
  ·subst h4;simp at hf;omega
  have e:((st==0)||(st==4))=false:=by simp [h0,h4]
  rw [e] at hf;simp only [cond_false] at hf;cases h2:((decide (jb<1))||(decide (jb > 99999))) with
  | true=>rw [h2] at hf;cases hf
  | false =>
   rw [h2] at hf;simp only [cond_false] at hf
   by_cases q1:st=1
   ·subst q1;simp at hf;omega
   by_cases q2:st=2
   ·subst q2;simp at hf;omega
   by_cases q3:st=3
   ·subst q3;simp at hf;omega
   simp [q1,q2,q3] at hf
theorem Q9a {l:List Node} (h:Q50 l=0):l.length<=48 ∧ ∀ x ∈ l,(x.want=2->x.state=2)∧(x.want=4->x.state=1):=by
 unfold Q50 at h;cases h1:(((decide ((l.length:Int)<1))||(decide ((l.length:Int) > 48)))||(QH0 l (fun (y:Node)=>(!(QG0 y))))) with
 | true=>rw [h1] at h;cases h
 | false =>
  obtain ⟨h2,h3⟩:=or_f h1;have hl:=yea (or_f h2).2;rw [QOe] at h3;refine ⟨by omega,fun x hx=>?_⟩;have hf:Qu5 x=true:=by
   have:=List.any_eq_false.1 h3 x hx;rw [fine_eq] at this;simpa using this
  exact fine_one x hf
theorem QAf {j:Job} (h:Q61 j=0):Q02 j.shape=0:=by
 unfold Q61 at h;cases h1:((((((decide (j.id<1))||(decide (j.id > 99999)))||(!(Qj2 j.born)))||(j.used != (Ql4 j.used)))||((Qc4 (Qk0 j))!=0))||(Qp0 j.after (fun (y:Dep)=>(decide (y.job >= j.id))))) with
 | true=>rw [h1] at h;cases h
 | false =>
  have hc:=(or_f (or_f h1).1).2;have hc:Qc4 (Qk0 j)=0:=by simpa using hc
  unfold Qc4 at hc;cases h2:((((decide (((Qk0 j).shape.alts.length:Int) > 6))||(decide (((Qk0 j).after.length:Int) > 4)))||(!(Qn8 (Qk0 j))))||(!(QJa (Qk0 j) (QG7 (Qk0 j))))) with
  | true=>rw [h2] at hc;cases hc
  | false =>
   have hf:=(or_f (or_f h2).1).2;have hf:Qn8 (Qk0 j)=true:=by simpa using hf
   unfold Qn8 Qk0 at hf;simp at hf
   grind
def badB (s:State) (r:Resize) (k:Nat):Bool:=(tb r.said k && !tb r.nodes k)||(tb r.nodes k&&(((decide ((k:Int) >= (s.nodes.length:Int)))||((s.nodes.getD k zF).job != r.job))||((s.nodes.getD k zF).state==3)))
def finB (s:State) (r:Resize):Bool:=(Sum.elim id (fun p1:Int × Nat=>bif r.grow then
    (decide ((w64 (((Qy0 ((QZ0 s r.job).1.nodes)).length:Int)+((Qy0 r.nodes).length:Int)))<=(QZ0 s r.job).1.shape.max))
   else
    ((decide (p1.1 > 0))&&(decide ((w64 (((Qy0 ((QZ0 s r.job).1.nodes)).length:Int) - ((Qy0 r.nodes).length:Int))) >= (QZ0 s r.job).1.shape.min))))) (Qu1 r s.nodes 0 0)
theorem g1_iff (s:State) (r:Resize) (hn:U64 r.nodes) (hs:U64 r.said):∀ (m n:Nat),n<=64->64 - n<m->(Qa5 s r m n=true ↔ (∀ k,n<=k->k<64->badB s r k=false)∧finB s r=true)
 | 0,_,_,h=>absurd h (by omega)
 | m+1,n,hn64,hm=>by
  rw [Qa5];rcases ypa n 64 with h|h
  ·rw [yha (show (n:Int)<64 by omega),Qab hn h,Qab hs h];have ih:=g1_iff s r hn hs m (n+1) (by omega) (by omega);show (bif (badB s r n) then false else Qa5 s r m (n+1))=true ↔ _;cases hb:badB s r n with
   | true =>
    refine ⟨fun h=>(by cases h),fun h'=>?_⟩;have:=h'.1 n (yla _) h;rw [hb] at this;cases this
   | false =>
    simp only [cond_false];rw [ih];refine ⟨fun h'=>⟨fun k hk hk2=>?_,h'.2⟩,fun h'=>⟨fun k hk hk2=>h'.1 k (by omega) hk2,h'.2⟩⟩;rcases yGb hk with h1|h1
    ·rw [← h1];exact hb
    ·exact h'.1 k h1 hk2
  ·rw [yja (show ¬ (n:Int)<64 by omega)];show finB s r=true ↔ _;exact ⟨fun h'=>⟨fun k hk hk2=>absurd hk2 (by omega),h'⟩,fun h'=>h'.2⟩
theorem g2_spec (r:Resize) (hn:U64 r.nodes):∀ (l:List Node) (left:Int) (n:Nat),n+l.length<=64->0<=left->left<=n ->
  (∀ v,Qu1 r l left n=Sum.inl v->v=false) ∧
  ((∃ p,Qu1 r l left n=Sum.inr p) ↔ ∀ (k:Nat) (x:Node),l[k]? = some x->x.job=r.job->x.state ≠ 3->QG3 x ((n+k:Nat):Int) r=true) ∧
  (∀ p,Qu1 r l left n=Sum.inr p->left<=p.1∧(left<p.1 ↔ ∃ (k:Nat) (x:Node),l[k]? = some x∧x.job=r.job∧x.state=1∧tb r.nodes (n+k)=false))
 | [],left,n,_,_,_=>by
  rw [Qu1];refine ⟨fun v h=>(by cases h),⟨fun _ k x h=>by simp at h,fun _=>⟨_,rfl⟩⟩,fun p h=>?_⟩;cases h;refine ⟨ySa _,⟨fun h=>absurd h (Int.lt_irrefl _),fun ⟨k,x,h,_⟩=>by simp at h⟩⟩
 | x :: l,left,n,hlen,h0,hle=>by
  simp only [yka] at hlen;rw [Qu1];have sh:∀ (k:Nat),((n+(k+1):Nat):Int)=((n+1+k:Nat):Int):=fun k=>by congr 1;omega
  have sh':∀ (k:Nat),n+(k+1)=n+1+k:=fun k=>by omega
  cases hc:((x.job != r.job)||(x.state==3)) with
  | true =>
   simp only [cond_true];have hskip:¬ (x.job=r.job∧x.state ≠ 3):=by
    rintro ⟨h1,h2⟩;rw [h1] at hc;simp at hc;exact h2 hc
   obtain ⟨a,b,c⟩:=g2_spec r hn l left (n+1) (by omega) h0 (by omega);refine ⟨a,b.trans ⟨fun h k y hk h1 h2=>?_,fun h k y hk h1 h2=>?_⟩,fun p hp=>⟨(c p hp).1,(c p hp).2.trans ⟨?_,?_⟩⟩⟩
   ·rcases k with _|k
    ·simp at hk;subst hk;exact absurd ⟨h1,h2⟩ hskip
    ·rw [sh];exact h k y (by simpa using hk) h1 h2
   ·rw [← sh];exact h (k+1) y (by simpa using hk) h1 h2
   ·rintro ⟨k,y,hk,h1,h2,h3⟩;exact ⟨k+1,y,by simpa using hk,h1,h2,by rw [sh'];exact h3⟩
   ·rintro ⟨k,y,hk,h1,h2,h3⟩;rcases k with _|k
    ·simp at hk;subst hk;exact absurd ⟨h1,by omega⟩ hskip
    ·exact ⟨k,y,by simpa using hk,h1,h2,by rw [← sh'];exact h3⟩
  | false =>
   have hj:x.job=r.job∧x.state ≠ 3:=by
    obtain ⟨h1,h2⟩:=or_f hc;exact ⟨by simpa using h1,by simpa using h2⟩
   simp only [cond_false];cases hm:QG3 x (n:Int) r with
   | false =>
    refine ⟨fun v h=>(by cases h;rfl),⟨fun ⟨p,h⟩=>(by cases h),fun h=>?_⟩,fun p h=>(by cases h)⟩;have:=h 0 x rfl hj.1 hj.2;rw [y1a,hm] at this;cases this
   | true =>
    rw [Qab hn (show n<64 by omega)];have hw:w64 (left+1)=left+1:=wr (by omega);simp only [ygb,cond_false];have mv':(∀ (k:Nat) (y:Node),l[k]? = some y->y.job=r.job->y.state ≠ 3->QG3 y ((n+1+k:Nat):Int) r=true) ↔ ∀ (k:Nat) (y:Node),(x :: l)[k]? = some y->y.job=r.job->y.state ≠ 3->QG3 y ((n+k:Nat):Int) r=true:=by
     constructor
     ·intro h k y hk h1 h2;rcases k with _|k
      ·simp at hk;subst hk;rw [y1a];exact hm
      ·rw [sh];exact h k y (by simpa using hk) h1 h2
     ·intro h k y hk h1 h2;rw [← sh];exact h (k+1) y (by simpa using hk) h1 h2
    cases hl:((x.state==1)&&(!(tb r.nodes n))) with
    | true =>
     simp only [cond_true];rw [hw];obtain ⟨a,b,c⟩:=g2_spec r hn l (left+1) (n+1) (by omega) (by omega) (by omega);refine ⟨a,b.trans mv',fun p hp=>?_⟩;obtain ⟨c1,_⟩:=c p hp;refine ⟨by omega,⟨fun _=>⟨0,x,rfl,hj.1,?_,?_⟩,fun _=>by omega⟩⟩
     ·simp only [yca,beq_iff_eq] at hl;exact hl.1
     ·simp only [yca,y5a] at hl;exact hl.2
    | false =>
     simp only [cond_false];obtain ⟨a,b,c⟩:=g2_spec r hn l left (n+1) (by omega) h0 (by omega);refine ⟨a,b.trans mv',fun p hp=>⟨(c p hp).1,(c p hp).2.trans ⟨?_,?_⟩⟩⟩
     ·rintro ⟨k,y,hk,h1,h2,h3⟩;exact ⟨k+1,y,by simpa using hk,h1,h2,by rw [sh'];exact h3⟩
     ·rintro ⟨k,y,hk,h1,h2,h3⟩;rcases k with _|k
      ·simp at hk;subst hk;rw [y1a] at h3;rw [h2,h3] at hl;cases hl
      ·exact ⟨k,y,by simpa using hk,h1,h2,by rw [← sh'];exact h3⟩
section
variable (s:State) (r:Resize) (j:Job)
def AskP (c:Int):Prop:=∀ k,k<64->((k<s.nodes.length∧(s.nodes.getD k zF).job=r.job∧(s.nodes.getD k zF).want=c) ↔ (tb r.nodes k=true∧tb r.said k=false))
def QuiP:Prop:=∀ k,k<64->tb r.said k=true->k<s.nodes.length∧(s.nodes.getD k zF).want=0
def SubP:Prop:=∀ k,k<64->tb r.said k=true->tb r.nodes k=true
def SameP:Prop:=∀ k,k<64->(tb r.nodes k=true ↔ (k<s.nodes.length∧(s.nodes.getD k zF).job=r.job∧(s.nodes.getD k zF).state=2))
def InP:Prop:=∀ k,k<64->tb r.nodes k=true->tb j.nodes k=true
def BaseP:Prop:=j.shape.kind=3∧r.nodes ≠ 0∧0<=r.since∧r.since<=1000000
def GrowP:Prop:=w64 ((Q10 j.nodes)+(Q10 r.nodes))<=j.shape.max
def ShrP:Prop:=w64 ((Q10 j.nodes) - (Q10 r.nodes)) >= j.shape.min
theorem Qh9 {x y:Int} (hx:U64 x) (hy:U64 y):((wu64 (BitVec.ofInt 64 x &&& ~~~(BitVec.ofInt 64 y)).toNat)==0)=true ↔ ∀ k,k<64->tb x k=true->tb y k=true:=by
 rw [Qzb (QE7 _)];refine ⟨fun h k hk hb=>?_,fun h k hk=>?_⟩
 ·have:=h k hk;rw [Qi5 hx hy,hb] at this;simpa using this
 ·rw [Qi5 hx hy];cases hb:tb x k with
  | false=>rfl
  | true=>rw [h k hk hb];rfl
theorem ask_iff (hn:U64 r.nodes) (hs:U64 r.said) (hl:s.nodes.length<=64) (c:Int) :
  (QM2 s (fun (y:Int) (y1:Node)=>((y1.job==r.job)&&(y1.want==c)))=wu64 (BitVec.ofInt 64 r.nodes &&& ~~~(BitVec.ofInt 64 r.said)).toNat) ↔ AskP s r c:=by
 obtain ⟨u,b⟩:=QJe s (fun (y:Int) (y1:Node)=>((y1.job==r.job)&&(y1.want==c))) hl;have key:∀ k,(tb (QM2 s (fun (y:Int) (y1:Node)=>((y1.job==r.job)&&(y1.want==c)))) k=tb (wu64 (BitVec.ofInt 64 r.nodes &&& ~~~(BitVec.ofInt 64 r.said)).toNat) k) ↔ ((k<s.nodes.length∧(s.nodes.getD k zF).job=r.job∧(s.nodes.getD k zF).want=c) ↔ (tb r.nodes k=true∧tb r.said k=false)):=by
  intro k;rw [b,Qi5 hn hs,yLa];simp
 constructor
 ·intro h k hk;exact (key k).1 (by rw [h])
 ·intro h;exact Q7d u (QE7 _) fun k hk=>(key k).2 (h k hk)
theorem same_iff (hn:U64 r.nodes) (hc:Q50 s.nodes=0) (hl:s.nodes.length<=64):(r.nodes=Qq6 s.nodes r.job 2) ↔ SameP s r:=by
 obtain ⟨u,b⟩:=Q23 s.nodes (fun (y:Node)=>((y.job==r.job)&&(y.state==2))) hc hl;have key:∀ k,(tb r.nodes k=tb (Qq6 s.nodes r.job 2) k) ↔ (tb r.nodes k=true ↔ (k<s.nodes.length∧(s.nodes.getD k zF).job=r.job∧(s.nodes.getD k zF).state=2)):=by
  intro k;unfold Qq6;rw [b,yLa];simp
 constructor
 ·intro h k hk;exact (key k).1 (by rw [← h])
 ·intro h;exact Q7d hn u fun k hk=>(key k).2 (h k hk)
theorem prog_iff (hn:U64 r.nodes) (hs:U64 r.said) (hj:U64 j.nodes) (hc:Q50 s.nodes=0) (hl:s.nodes.length<=64) :
  Qt3 s r j=true ↔ BaseP r j∧SubP r∧QuiP s r∧(if r.grow=true then AskP s r 2∧SameP s r∧GrowP r j else AskP s r 4∧InP r j∧ShrP r j):=by
 have k1:∀ c,Qf5 s r j c=true ↔ AskP s r c∧QuiP s r∧(if r.grow=true then SameP s r∧GrowP r j else InP r j∧ShrP r j):=by
  intro c;unfold Qf5;cases hcnd:(((QM2 s (fun (y:Int) (y1:Node)=>((y1.job==r.job)&&(y1.want==c))))!=(wu64 (BitVec.ofInt 64 r.nodes &&& ~~~(BitVec.ofInt 64 r.said)).toNat))||(!(Qn2 s.nodes r.said))) with
  | true =>
   refine ⟨fun h=>(by cases h),fun ⟨h1,h2,_⟩=>?_⟩;have e1:=(ask_iff s r hn hs hl c).2 h1;have e2:=(quiet_iff hs hc).2 h2;rw [e1,e2] at hcnd;simp at hcnd
  | false =>
   obtain ⟨h1,h2⟩:=or_f hcnd;have e1:AskP s r c:=(ask_iff s r hn hs hl c).1 (by simpa using h1);have e2:QuiP s r:=(quiet_iff hs hc).1 (by simpa using h2);simp only [cond_false];cases hg:r.grow with
   | true =>
    simp only [cond_true,yca,beq_iff_eq,yda,if_true];rw [same_iff s r hn hc hl];exact ⟨fun h=>⟨e1,e2,h⟩,fun h=>h.2.2⟩
   | false =>
    simp only [cond_false,yca,yda];rw [Qh9 hn hj];exact ⟨fun h=>⟨e1,e2,h⟩,fun h=>h.2.2⟩
 unfold Qt3;cases hcnd:(((((j.shape.kind != 3)||(r.nodes==0))||((wu64 (BitVec.ofInt 64 r.said &&& ~~~(BitVec.ofInt 64 r.nodes)).toNat)!=0))||(decide (r.since<0)))||(decide (r.since > 1000000))) with
 | true =>
  refine ⟨fun h=>(by cases h),fun ⟨⟨h1,h2,h3,h4⟩,h5,_⟩=>?_⟩;have e1:=(Qh9 hs hn).2 h5;have e1':((wu64 (BitVec.ofInt 64 r.said &&& ~~~(BitVec.ofInt 64 r.nodes)).toNat)!=0)=false:=by unfold bne;rw [e1];rfl
  rw [h1,e1',yja (by omega),yja (by omega)] at hcnd;simp at hcnd;exact absurd hcnd h2
 | false =>
  obtain ⟨h1,h2⟩:=or_f hcnd;obtain ⟨h3,h4⟩:=or_f h1;obtain ⟨h5,h6⟩:=or_f h3;obtain ⟨h7,h8⟩:=or_f h5;have b:BaseP r j:=⟨by simpa using h7,by simpa using h8,by have:=yea h4;omega,by have:=yea h2;omega⟩;have sb:SubP r:=(Qh9 hs hn).1 (by unfold bne at h6;simpa using h6);simp only [cond_false];cases hg:r.grow with
  | true =>
   simp only [cond_true];rw [k1,hg];simp only [if_true];exact ⟨fun ⟨a,q,c⟩=>⟨b,sb,q,a,c⟩,fun ⟨_,_,q,a,c⟩=>⟨a,q,c⟩⟩
  | false =>
   simp only [cond_false];rw [k1,hg];exact ⟨fun ⟨a,q,c⟩=>⟨b,sb,q,a,c⟩,fun ⟨_,_,q,a,c⟩=>⟨a,q,c⟩⟩
def OwnP:Prop:=∀ k,k<64->tb r.nodes k=true->k<s.nodes.length∧(s.nodes.getD k zF).job=r.job∧(s.nodes.getD k zF).state ≠ 3
def MovP:Prop:=∀ k,k<s.nodes.length->(s.nodes.getD k zF).job=r.job->(s.nodes.getD k zF).state ≠ 3->QG3 (s.nodes.getD k zF) (k:Int) r=true
def LeftP:Prop:=∃ k,k<s.nodes.length∧(s.nodes.getD k zF).job=r.job∧(s.nodes.getD k zF).state=1∧tb r.nodes k=false
theorem get_iff {α:Type} (d:α) (l:List α) (p:Nat->α->Prop):(∀ (k:Nat) (x:α),l[k]? = some x->p k x) ↔ ∀ k,k<l.length->p k (l.getD k d):=by
 constructor
 ·intro h k hk;exact h k _ (by simp [List.getD,yaa hk])
 ·intro h k x hx;have hk:=(List.getElem?_eq_some_iff.1 hx).1;have:=h k hk;rw [List.getD,hx] at this;exact this
theorem get_ex {α:Type} (d:α) (l:List α) (p:Nat->α->Prop):(∃ (k:Nat) (x:α),l[k]? = some x∧p k x) ↔ ∃ k,k<l.length∧p k (l.getD k d):=by
 constructor
 ·rintro ⟨k,x,hx,h⟩;refine ⟨k,(List.getElem?_eq_some_iff.1 hx).1,?_⟩;rw [List.getD,hx];exact h
 ·rintro ⟨k,hk,h⟩;exact ⟨k,_,by simp [List.getD,yaa hk],h⟩
theorem ref_iff (hn:U64 r.nodes) (hs:U64 r.said) (hj:U64 j.nodes) (hl:s.nodes.length<=64) (hrun:QZ0 s r.job=(j,true)) :
  Q32 s r=true ↔ BaseP r j∧SubP r∧OwnP s r∧MovP s r∧(if r.grow=true then GrowP r j else LeftP s r∧ShrP r j):=by
 obtain ⟨g1,g2,g3⟩:=g2_spec r hn s.nodes 0 0 (by omega) (by omega) (by omega);have hmov:(∃ p,Qu1 r s.nodes 0 0=Sum.inr p) ↔ MovP s r:=by
  rw [g2];have:=get_iff zF s.nodes (fun k x=>x.job=r.job->x.state ≠ 3->QG3 x ((0+k:Nat):Int) r=true);rw [this];unfold MovP;simp only [yna]
 have hleft:∀ p,Qu1 r s.nodes 0 0=Sum.inr p->(decide (p.1 > 0)=true ↔ LeftP s r):=by
  intro p hp;have:=(g3 p hp).2;rw [yda,gt_iff_lt,this];have:=get_ex zF s.nodes (fun k x=>x.job=r.job∧x.state=1∧tb r.nodes (0+k)=false);rw [this];unfold LeftP;simp only [yna]
 have hfin:finB s r=true ↔ MovP s r∧(if r.grow=true then GrowP r j else LeftP s r∧ShrP r j):=by
  unfold finB;rw [hrun];simp only;rw [← QS8 hj,← QS8 hn];cases hg:Qu1 r s.nodes 0 0 with
  | inl v =>
   have hv:=g1 v hg;subst hv;refine ⟨fun h=>(by cases h),fun h=>?_⟩;obtain ⟨p,hp⟩:=hmov.2 h.1;rw [hg] at hp;cases hp
  | inr p =>
   have hm:=hmov.1 ⟨p,hg⟩;have hlp:=hleft p hg;simp only [Sum.elim_inr];cases r.grow with
   | true =>
    simp only [cond_true,yda,if_true];exact ⟨fun h=>⟨hm,h⟩,fun h=>h.2⟩
   | false =>
    simp only [cond_false,yca];rw [hlp,yda];exact ⟨fun h=>⟨hm,h⟩,fun h=>h.2⟩
 have hbad:(∀ k,0<=k->k<64->badB s r k=false) ↔ SubP r∧OwnP s r:=by
  constructor
  ·intro h;refine ⟨fun k hk hb=>?_,fun k hk hb=>?_⟩
   ·have:=(or_f (h k (yBa _) hk)).1;rw [hb] at this;simpa using this
   ·have:=(or_f (h k (yBa _) hk)).2;rw [hb] at this;simp only [yFb] at this;obtain ⟨h1,h2⟩:=or_f this;obtain ⟨h3,h4⟩:=or_f h1;have h3:=yea h3;exact ⟨by omega,by simpa using h4,by simpa using h2⟩
  ·rintro ⟨h1,h2⟩ k _ hk;unfold badB;cases hb:tb r.nodes k with
   | true =>
    obtain ⟨q1,q2,q3⟩:=h2 k hk hb;have q3':((s.nodes.getD k zF).state==3)=false:=beq_eq_false_iff_ne.2 q3;rw [q2,yja (by omega),q3'];simp
   | false =>
    cases ha:tb r.said k with
    | true=>rw [h1 k hk ha] at hb;cases hb
    | false=>rfl
 have hg1:=g1_iff s r hn hs ((Int.toNat (64 - (0:Int)))+1) 0 (by omega) (by omega);unfold Q32;rw [hrun];simp only;cases hcnd:(((((!true)||(j.shape.kind != 3))||(r.nodes==0))||(decide (r.since<0)))||(decide (r.since > 1000000))) with
 | true =>
  refine ⟨fun h=>(by cases h),fun ⟨⟨h1,h2,h3,h4⟩,_⟩=>?_⟩;rw [h1,yja (by omega),yja (by omega)] at hcnd;simp at hcnd;exact absurd hcnd h2
 | false =>
  obtain ⟨h1,h2⟩:=or_f hcnd;obtain ⟨h3,h4⟩:=or_f h1;obtain ⟨h5,h6⟩:=or_f h3;have b:BaseP r j:=⟨by simpa using h5,by simpa using h6,by have:=yea h4;omega,by have:=yea h2;omega⟩;simp only [cond_false];rw [hg1,hbad,hfin];exact ⟨fun ⟨⟨a,c⟩,d,e⟩=>⟨b,a,c,d,e⟩,fun ⟨_,a,c,d,e⟩=>⟨⟨a,c⟩,d,e⟩⟩
theorem Qud (hn:U64 r.nodes) (hs:U64 r.said) (hg:r.grow=true) {k:Nat} (hk:k<64) (x:Node):QG3 x (k:Int) r=true ↔ (tb r.nodes k=true ↔ x.state=2)∧(tb r.nodes k=true->(tb r.said k=true∧x.want=0)∨(tb r.said k=false∧x.want=2)):=by
 unfold QG3;rw [hg,Qab hn hk,Qab hs hk];simp only [cond_true];cases tb r.nodes k <;> cases tb r.said k <;> by_cases h:x.state=2 <;> simp [h]
theorem QKf (hn:U64 r.nodes) (hs:U64 r.said) (hg:r.grow=false) {k:Nat} (hk:k<64) (x:Node):QG3 x (k:Int) r=true ↔ (tb r.nodes k=true->x.state=1)∧(tb r.nodes k=false->x.want ≠ 4)∧(tb r.nodes k=true->(tb r.said k=true∧x.want=0)∨(tb r.said k=false∧x.want=4)):=by
 unfold QG3;rw [hg,Qab hn hk,Qab hs hk];simp only [cond_false];cases tb r.nodes k <;> cases tb r.said k <;> by_cases h:x.state=1 <;> by_cases h4:x.want=4 <;> simp [h,h4]
theorem resize_eq (hn:U64 r.nodes) (hs:U64 r.said) (hj:U64 j.nodes) (hc:Q50 s.nodes=0) (hrun:QZ0 s r.job=(j,true)) (hjc:Q61 j=0)
  (hb:∀ k,tb j.nodes k=true ↔ (k<s.nodes.length∧(s.nodes.getD k zF).job=r.job∧(s.nodes.getD k zF).state=1)):Qt3 s r j=Q32 s r:=by
 obtain ⟨hl48,hfw⟩:=Q9a hc;have hl:s.nodes.length<=64:=by omega
 have hw:∀ k,k<s.nodes.length->((s.nodes.getD k zF).want=2->(s.nodes.getD k zF).state=2)∧((s.nodes.getD k zF).want=4->(s.nodes.getD k zF).state=1):=by
  intro k hk;have hm:s.nodes.getD k zF ∈ s.nodes:=by
   rw [List.getD,yaa hk];exact y7a _
  exact hfw _ hm
 rw [yLa,prog_iff s r j hn hs hj hc hl,ref_iff s r j hn hs hj hl hrun];cases hg:r.grow with
 | true =>
  simp only [if_true];constructor
  ·rintro ⟨hB,hS,hQ,hA,hSm,hG⟩;refine ⟨hB,hS,fun k hk hkn=>?_,fun k hk h1 h2=>?_,hG⟩
   ·obtain ⟨a,b,c⟩:=(hSm k hk).1 hkn;exact ⟨a,b,by omega⟩
   ·have hk64:k<64:=by omega
    rw [Qud r hn hs hg hk64];refine ⟨⟨fun h=>((hSm k hk64).1 h).2.2,fun h=>(hSm k hk64).2 ⟨hk,h1,h⟩⟩,fun h=>?_⟩;cases ha:tb r.said k with
    | true=>exact .inl ⟨rfl,(hQ k hk64 ha).2⟩
    | false=>exact .inr ⟨rfl,((hA k hk64).2 ⟨h,ha⟩).2.2⟩
  ·rintro ⟨hB,hS,hO,hM,hG⟩;have mv:∀ k,k<64->tb r.nodes k=true->k<s.nodes.length∧(s.nodes.getD k zF).job=r.job∧(s.nodes.getD k zF).state=2∧((tb r.said k=true∧(s.nodes.getD k zF).want=0)∨(tb r.said k=false∧(s.nodes.getD k zF).want=2)):=by
    intro k hk h;obtain ⟨a,b,c⟩:=hO k hk h;obtain ⟨d,e⟩:=(Qud r hn hs hg hk _).1 (hM k a b c);exact ⟨a,b,d.1 h,e h⟩
   have back:∀ k,k<s.nodes.length->(s.nodes.getD k zF).job=r.job->(s.nodes.getD k zF).state=2->tb r.nodes k=true:=by
    intro k hk h1 h2;exact ((Qud r hn hs hg (by omega) _).1 (hM k hk h1 (by omega))).1.2 h2
   refine ⟨hB,hS,fun k hk ha=>?_,fun k hk=>⟨fun ⟨a,b,c⟩=>?_,fun ⟨a,b⟩=>?_⟩,fun k hk=>⟨fun h=>?_,fun ⟨a,b,c⟩=>back k a b c⟩,hG⟩
   ·obtain ⟨a,b,c,d⟩:=mv k hk (hS k hk ha);rcases d with d|d
    ·exact ⟨a,d.2⟩
    ·rw [ha] at d;cases d.1
   ·have hin:=back k a b ((hw k a).1 c);refine ⟨hin,?_⟩;obtain ⟨_,_,_,d⟩:=mv k hk hin;rcases d with d|d
    ·omega
    ·exact d.1
   ·obtain ⟨p,q,_,d⟩:=mv k hk a;rcases d with d|d
    ·rw [b] at d;cases d.1
    ·exact ⟨p,q,d.2⟩
   ·obtain ⟨a,b,c,_⟩:=mv k hk h;exact ⟨a,b,c⟩
 | false =>
  have ef:(if false=true then GrowP r j else LeftP s r∧ShrP r j)=(LeftP s r∧ShrP r j):=by simp
  have ef':(if false=true then AskP s r 2∧SameP s r∧GrowP r j else AskP s r 4∧InP r j∧ShrP r j)=(AskP s r 4∧InP r j∧ShrP r j):=by simp
  rw [ef,ef'];constructor
  ·rintro ⟨hB,hS,hQ,hA,hI,hSh⟩;have inb:∀ k,k<64->tb r.nodes k=true->k<s.nodes.length∧(s.nodes.getD k zF).job=r.job∧(s.nodes.getD k zF).state=1:=fun k hk h=>(hb k).1 (hI k hk h)
   refine ⟨hB,hS,fun k hk hkn=>?_,fun k hk h1 h2=>?_,?_,hSh⟩
   ·obtain ⟨a,b,c⟩:=inb k hk hkn;exact ⟨a,b,by omega⟩
   ·have hk64:k<64:=by omega
    rw [QKf r hn hs hg hk64];refine ⟨fun h=>(inb k hk64 h).2.2,fun h h4=>?_,fun h=>?_⟩
    ·have:=((hA k hk64).1 ⟨hk,h1,h4⟩).1;rw [h] at this;cases this
    ·cases ha:tb r.said k with
     | true=>exact .inl ⟨rfl,(hQ k hk64 ha).2⟩
     | false=>exact .inr ⟨rfl,((hA k hk64).2 ⟨h,ha⟩).2.2⟩
   ·apply Classical.byContradiction;intro hno;have heq:j.nodes=r.nodes:=Q7d hj hn fun k hk=>by
     rw [yLa];refine ⟨fun h=>?_,fun h=>hI k hk h⟩;obtain ⟨a,b,c⟩:=(hb k).1 h;cases hx:tb r.nodes k with
     | true=>rfl
     | false=>exact absurd ⟨k,a,b,c,hx⟩ hno
    unfold ShrP at hSh;rw [heq,Int.sub_self] at hSh;have hz:w64 0=0:=wr (by omega);rw [hz] at hSh;have hmin:=Qc5 (s:=j.shape) (by rw [QAf hjc];rfl) (by rw [hB.1];rfl);omega
  ·rintro ⟨hB,hS,hO,hM,_,hSh⟩;have mv:∀ k,k<64->tb r.nodes k=true->k<s.nodes.length∧(s.nodes.getD k zF).job=r.job∧(s.nodes.getD k zF).state=1∧((tb r.said k=true∧(s.nodes.getD k zF).want=0)∨(tb r.said k=false∧(s.nodes.getD k zF).want=4)):=by
    intro k hk h;obtain ⟨a,b,c⟩:=hO k hk h;obtain ⟨d,_,e⟩:=(QKf r hn hs hg hk _).1 (hM k a b c);exact ⟨a,b,d h,e h⟩
   refine ⟨hB,hS,fun k hk ha=>?_,fun k hk=>⟨fun ⟨a,b,c⟩=>?_,fun ⟨a,b⟩=>?_⟩,fun k hk h=>?_,hSh⟩
   ·obtain ⟨a,b,c,d⟩:=mv k hk (hS k hk ha);rcases d with d|d
    ·exact ⟨a,d.2⟩
    ·rw [ha] at d;cases d.1
   ·have hst:=(hw k a).2 c;obtain ⟨_,m2,_⟩:=(QKf r hn hs hg hk _).1 (hM k a b (by omega));have hin:tb r.nodes k=true:=by
     cases hx:tb r.nodes k with
     | true=>rfl
     | false=>exact absurd c (m2 hx)
    refine ⟨hin,?_⟩;obtain ⟨_,_,_,d⟩:=mv k hk hin;rcases d with d|d
    ·omega
    ·exact d.1
   ·obtain ⟨p,q,_,d⟩:=mv k hk a;rcases d with d|d
    ·rw [b] at d;cases d.1
    ·exact ⟨p,q,d.2⟩
   ·obtain ⟨a,b,c,_⟩:=mv k hk h;exact (hb k).2 ⟨a,b,c⟩
end
theorem okloop (len:Nat) (c:Nat->Bool) (G:Nat->Bool->Nat->Bool × Nat) (g:∀ m ok i,G (m+1) ok i=bif ((decide ((i:Int)<(len:Int)))&&ok) then G m (c i) (i+1) else (ok,i)) :
  ∀ (m:Nat) (ok:Bool) (i:Nat),i<=len->len - i<m->((G m ok i).1=true ↔ ok=true ∧ ∀ k,i<=k->k<len->c k=true)
 | 0,_,_,_,h=>absurd h (by omega)
 | m+1,ok,i,hi,hm=>by
  rw [g];rcases ypa i len with h|h
  ·rw [yha (show (i:Int)<(len:Int) by omega)];cases ok with
   | false=>exact ⟨fun h=>(by cases h),fun h=>(by cases h.1)⟩
   | true =>
    simp only [yBc,cond_true,true_and];rw [okloop len c G g m (c i) (i+1) (by omega) (by omega)];refine ⟨fun ⟨h1,h2⟩ k hk hk2=>?_,fun h'=>⟨h' i (yla _) h,fun k hk hk2=>h' k (by omega) hk2⟩⟩;rcases yGb hk with h3|h3
    ·rw [← h3];exact h1
    ·exact h2 k h3 hk2
  ·rw [yja (show ¬ (i:Int)<(len:Int) by omega)];exact ⟨fun h'=>⟨h',fun k hk hk2=>absurd hk2 (by omega)⟩,fun h'=>h'.1⟩
theorem last_job:∀ (l:List Job) (x:Int) (i:Nat),(Q72 l x i).1=Qq1 l x i
 | [],_,_=>rfl
 | y :: r,x,i=>by rw [Q72,Qq1];exact last_job r _ _
theorem last_book:∀ (l:List Book) (x:Int) (i:Nat),(QF5 l x i).1=QJ1 l x i
 | [],_,_=>rfl
 | y :: r,x,i=>by rw [QF5,QJ1];exact last_book r _ _
theorem next_eq (n l:Int):Qf1 n l=Q08 n l:=by
 unfold Qf1 Q08;rw [yLa];simp only [yca,yda];omega
def QUc (c:List (Int × Resize)) (l:List Resize):List (Int × Resize):=l.foldl (fun c r=>setM r.job r c) c
section
variable (s:State)
def rzP (c:List (Int × Job)) (k:Nat):Bool:=!(((!(getM (s.resizes.getD k zH).job c).isSome)||((decide ((k:Int) > 0))&&(decide ((s.resizes.getD (Int.toNat (w64 ((k:Int) - 1))) zH).job >= (s.resizes.getD k zH).job))))||(!(Qt3 s (s.resizes.getD k zH) ((getM (s.resizes.getD k zH).job c).getD zG))))
def heldB (c:List (Int × Job)):Bool:=c.all (fun (en:Int × Job)=>(bif ((QW2 s.nodes en.1)!=en.2.nodes) then false else true))
theorem g4_iff (a b:Int) (c:List (Int × Job)):∀ (l:List Resize) (i:Nat) (c2:List (Int × Resize)),l=s.resizes.drop i->i+l.length=s.resizes.length ->
  (QK1 s a b c l i c2=0 ↔ (∀ k,i<=k->k<s.resizes.length->rzP s c k=true)∧Qf1 s.nextJob a=true∧Qf1 s.nextBook b=true∧Q63 s c (QUc c2 l)=true∧heldB s c=true) ∧
  (QK1 s a b c l i c2=0∨QK1 s a b c l i c2=141)
 | [],i,c2,hl,hlen=>by
  simp only [yVa,y1a] at hlen;rw [QK1];show ((bif ((((!true)||(!(Qf1 s.nextJob a)))||(!(Qf1 s.nextBook b)))||(!(Q63 s c c2))) then (141:Int) else bif heldB s c then 0 else 141)=0 ↔ _)∧((bif ((((!true)||(!(Qf1 s.nextJob a)))||(!(Qf1 s.nextBook b)))||(!(Q63 s c c2))) then (141:Int) else bif heldB s c then 0 else 141)=0∨(bif ((((!true)||(!(Qf1 s.nextJob a)))||(!(Qf1 s.nextBook b)))||(!(Q63 s c c2))) then (141:Int) else bif heldB s c then 0 else 141)=141);have hv:(∀ k,i<=k->k<s.resizes.length->rzP s c k=true):=fun k h1 h2=>absurd h2 (by omega)
  show _∧_;unfold QUc;simp only [List.foldl_nil];cases Qf1 s.nextJob a <;> cases Qf1 s.nextBook b <;> cases Q63 s c c2 <;> cases heldB s c <;> first|(simp;done)|(simp;exact hv)
 | x :: r,i,c2,hl,hlen=>by
  simp only [yka] at hlen;have hr':r=s.resizes.drop (i+1):=by rw [← yxb,← hl];rfl
  have hi:s.resizes[i]? = some x:=by
   have:=congrArg (fun q=>q[0]?) hl;simpa [yDa] using this.symm
  have hg:s.resizes.getD i zH=x:=by rw [List.getD,hi];rfl
  rw [QK1];have hz:(((!(getM x.job c).isSome)||((decide ((i:Int) > 0))&&(decide ((s.resizes.getD (Int.toNat (w64 ((i:Int) - 1))) zH).job >= x.job))))||(!(Qt3 s x ((getM x.job c).getD zG)))) = !(rzP s c i):=by
   unfold rzP;rw [hg,Bool.not_not]
  rw [hz];obtain ⟨ih1,ih2⟩:=g4_iff a b c r (i+1) (setM x.job x c2) hr' (by omega);cases hq:rzP s c i with
  | false =>
   refine ⟨⟨fun h=>(by cases h),fun h=>?_⟩,.inr rfl⟩;have:=h.1 i (yla _) (by omega);rw [hq] at this;cases this
  | true =>
   simp only [ygb,cond_false];refine ⟨ih1.trans ?_,ih2⟩;show _∧_∧_∧Q63 s c (QUc c2 (x :: r))=true∧_ ↔ _;refine and_congr ⟨fun h k hk hk2=>?_,fun h k hk hk2=>h k (by omega) hk2⟩ Iff.rfl;rcases yGb hk with h3|h3
   ·rw [← h3];exact hq
   ·exact h k h3 hk2
theorem setM_only {α β:Type} [BEq α] (k:α) (v:β):∀ (l:List (α × β)) (e:α × β),e ∈ setM k v l->e=(k,v)∨e ∈ l
 | [],e,h=>by simp [setM] at h;exact .inl h
 | p :: r,e,h=>by
  rw [setM] at h;cases hk:k==p.1 with
  | true =>
   rw [hk] at h;rcases List.mem_cons.1 h with h|h
   ·exact .inl h
   ·exact .inr (yga _ h)
  | false =>
   rw [hk] at h;rcases List.mem_cons.1 h with h|h
   ·exact .inr (by rw [h];exact yma ..)
   ·rcases setM_only k v r e h with h|h
    ·exact .inl h
    ·exact .inr (yga _ h)
theorem Qza:∀ (l:List Job) (i:Nat) (c:List (Int × Job)) (e:Int × Job),e ∈ QA0 l i c->e ∈ c ∨ ∃ x ∈ l,x.state=2∧e=(x.id,x)
 | [],_,_,_,h=>.inl h
 | x :: r,i,c,e,h=>by
  rw [QA0] at h;cases hs:(x.state==2) with
  | true =>
   rw [hs] at h;rcases Qza r (i+1) _ e h with h|⟨y,hy,q⟩
   ·rcases setM_only _ _ _ _ h with h|h
    ·exact .inr ⟨x,yma ..,by simpa using hs,h⟩
    ·exact .inl h
   ·exact .inr ⟨y,yga _ hy,q⟩
  | false =>
   rw [hs] at h;rcases Qza r (i+1) _ e h with h|⟨y,hy,q⟩
   ·exact .inl h
   ·exact .inr ⟨y,yga _ hy,q⟩
theorem held_iff (hp:s.jobs.Pairwise (fun a b=>a.id<b.id)) (hid:∀ x ∈ s.jobs,1<=x.id):heldB s (QA0 s.jobs 0 [])=true ↔ ∀ x ∈ s.jobs,x.state=2->Qx8 s.nodes x.id 1=x.nodes:=by
 have hh:∀ x ∈ s.jobs,QW2 s.nodes x.id=Qx8 s.nodes x.id 1:=fun x hx=>by
  unfold QW2;rw [yja (by have:=hid x hx;omega),← of_eq]
  rfl
 unfold heldB;rw [y6a];constructor
 ·intro h x hx hs;have:=h _ (Q66 x s.jobs 0 [] (.inr ⟨hx,hs,hp⟩));simp only [hh x hx] at this;cases hq:(Qx8 s.nodes x.id 1 != x.nodes) with
  | false=>simpa using hq
  | true=>rw [hq] at this;cases this
 ·intro h e he;rcases Qza s.jobs 0 [] e he with h'|⟨x,hx,hs,rfl⟩
  ·exact nomatch h'
  ·have:=h x hx hs;simp only [hh x hx,this];simp
theorem Qic (id:Int):∀ (l:List Resize) (c:List (Int × Resize)),(∀ x ∈ l,x.job ≠ id)->getM id (QUc c l)=getM id c
 | [],_,_=>rfl
 | x :: r,c,h=>by
  show getM id (QUc (setM x.job x c) r)=_;have hb:(id==x.job)=false:=by simpa using Ne.symm (h x (yma ..))
  rw [Qic id r _ (fun y hy=>h y (yga _ hy)),QL7,hb]
  rfl
theorem all_of (id:Int):∀ (l:List Resize) (c:List (Int × Resize)) (i:Nat),l.Pairwise (fun a b=>a.job<b.job)->getM id c=none->(getM id (QUc c l)).getD zH=QL2 id l i
 | [],c,i,_,hc=>by
  show (getM id c).getD zH=_;rw [hc]
  rfl
 | x :: r,c,i,hp,hc=>by
  obtain ⟨h1,h2⟩:=List.pairwise_cons.1 hp;show (getM id (QUc (setM x.job x c) r)).getD zH=_;rw [QL2];cases hx:x.job==id with
  | true =>
   have e:=eq_of_beq hx;rw [Qic id r _ (fun y hy=>by have:=h1 y hy;omega),QL7,← e,beq_self_eq_true]
   rfl
  | false =>
   have hb:(id==x.job)=false:=by
    have:x.job ≠ id:=by simpa using hx
    simpa using Ne.symm this
   exact all_of id r _ (i+1) h2 (by rw [QL7,hb];exact hc)
theorem nodes_iff (c:List (Int × Job)) (all_:List (Int × Resize)) (f:Nat->Bool):∀ (l:List Node) (i:Nat),l=s.nodes.drop i->i+l.length=s.nodes.length ->
  (∀ k,k<s.nodes.length->f k = !(((((s.nodes.getD k zF).state==1)&&((!(getM (s.nodes.getD k zF).job c).isSome)||(!(QU0 (((getM (s.nodes.getD k zF).job c).getD zG).nodes) (k:Int)))))||(((s.nodes.getD k zF).state==2)&&(!(getM (s.nodes.getD k zF).job c).isSome)))||((((s.nodes.getD k zF).state==2)||((s.nodes.getD k zF).want==4))&&(!(QU0 (((getM (s.nodes.getD k zF).job all_).getD zH).nodes) (k:Int))))||(((s.nodes.getD k zF).state==3)&&(decide ((s.nodes.getD k zF).job >= s.nextJob))))) ->
  (QO5 s c all_ l i=true ↔ ∀ k,i<=k->k<s.nodes.length->f k=true)
 | [],i,_,hlen,_=>by
  simp only [yVa,y1a] at hlen;exact ⟨fun _ k h1 h2=>absurd h2 (by omega),fun _=>rfl⟩
 | x :: r,i,hl,hlen,hf=>by
  simp only [yka] at hlen;have hr':r=s.nodes.drop (i+1):=by rw [← yxb,← hl];rfl
  have hi:s.nodes[i]? = some x:=by
   have:=congrArg (fun q=>q[0]?) hl;simpa [yDa] using this.symm
  have hg:s.nodes.getD i zF=x:=by rw [List.getD,hi];rfl
  have ih:=nodes_iff c all_ f r (i+1) hr' (by omega) hf;have hfi:=hf i (by omega);rw [hg] at hfi;rw [QO5];have step:∀ A B C D:Bool,∀ Z:Bool,(bif A then false else bif B then false else bif C then false else bif D then false else Z)=(!((((A||B)||C)||D))&&Z):=by decide
  rw [step,← hfi];cases hq:f i with
  | false =>
   refine ⟨fun h=>(by cases h),fun h=>?_⟩;have:=h i (yla _) (by omega);rw [hq] at this;cases this
  | true =>
   simp only [yFb];rw [ih];refine ⟨fun h k hk hk2=>?_,fun h k hk hk2=>h k (by omega) hk2⟩;rcases yGb hk with h3|h3
   ·rw [← h3];exact hq
   ·exact h k h3 hk2
theorem nodes_eq (hp:s.jobs.Pairwise (fun a b=>a.id<b.id)) (hz:s.resizes.Pairwise (fun a b=>a.job<b.job)) (hn:∀ x ∈ s.jobs,U64 x.nodes) (hr:∀ r ∈ s.resizes,U64 r.nodes) :
  Q63 s (QA0 s.jobs 0 []) (QUc [] s.resizes)=true ↔ ∀ k,k<s.nodes.length->Qv5 s (k:Int)=true:=by
 unfold Q63;rw [nodes_iff s _ _ (fun k=>Qv5 s (k:Int)) s.nodes 0 (by simp) (by omega) ?_]
 ·exact ⟨fun h k hk=>h k (yBa _) hk,fun h k _ hk=>h k hk⟩
 ·intro k hk;obtain ⟨q1,q2⟩:=run_get hp (s.nodes.getD k zF).job;have q3:(getM (s.nodes.getD k zF).job (QUc [] s.resizes)).getD zH=QT5 s (s.nodes.getD k zF).job:=all_of _ s.resizes [] 0 hz rfl;have uj:U64 (QZ0 s (s.nodes.getD k zF).job).1.nodes:=by
   by_cases h:∃ x ∈ s.jobs,x.id=(s.nodes.getD k zF).job
   ·obtain ⟨x,hx,e⟩:=h;rw [← e,Q0b hp hx];split
    ·exact hn x hx
    ·exact .zero
   ·rw [QYe _ (fun x hx e=>h ⟨x,hx,e⟩)];exact .zero
  have ur:∀ id,U64 (QT5 s id).nodes:=by
   intro id;unfold QT5;have:∀ (l:List Resize) (i:Nat),(∀ r ∈ l,U64 r.nodes)->U64 (QL2 id l i).nodes:=by
    intro l
    induction l with
    | nil=>exact fun _ _=>.zero
    | cons y t ih =>
     intro i h;rw [QL2];cases (y.job==id) with
     | true=>exact h y (yma ..)
     | false=>exact ih (i+1) fun r hr=>h r (yga _ hr)
   exact this _ _ hr
  rw [q1,q2,q3];unfold Qv5 Qg2;rw [yoa,has_eq uj,has_eq (ur _)];generalize (s.nodes.getD k zF).state=st;generalize (QZ0 s (s.nodes.getD k zF).job).2=ru;generalize QU0 (QZ0 s (s.nodes.getD k zF).job).1.nodes (k:Int)=h1;generalize QU0 (QT5 s (s.nodes.getD k zF).job).nodes (k:Int)=h2;generalize decide ((s.nodes.getD k zF).job >= s.nextJob)=dn;generalize ((s.nodes.getD k zF).want==4)=wa
  by_cases e1:st=1
  ·subst e1;revert ru h1 h2 dn wa
   decide
  by_cases e2:st=2
  ·subst e2;revert ru h1 h2 dn wa
   decide
  by_cases e3:st=3
  ·subst e3;revert ru h1 h2 dn wa
   decide
  have b1:(st==1)=false:=by simpa using e1
  have b2:(st==2)=false:=by simpa using e2
  have b3:(st==3)=false:=by simpa using e3
  rw [b1,b2,b3];revert ru h1 h2 dn wa
  decide
end
structure Words (s:State):Prop where
 sz:s.sz
 jobs:∀ x ∈ s.jobs,U64 x.nodes
 nodes:∀ r ∈ s.resizes,U64 r.nodes
 said:∀ r ∈ s.resizes,U64 r.said
section
variable {s:State}
def rzR (s:State) (k:Nat):Bool:=(Q32 s (s.resizes.getD k zH))&&(((k:Int)==0)||(decide ((s.resizes.getD (Int.toNat (w64 ((k:Int) - 1))) zH).job<(s.resizes.getD k zH).job)))
def heldR (s:State) (k:Nat):Bool:=((s.jobs.getD k zG).state != 2)||((Qx8 s.nodes ((s.jobs.getD k zG).id) 1)==(s.jobs.getD k zG).nodes)
theorem QJ9 (h:Qh8 s=0):(Q53 s=0 ↔ (Qf1 s.nextJob (Qq1 s.jobs 0 0)=true∧Qf1 s.nextBook (QJ1 s.books 0 0)=true)∧(∀ k,k<s.resizes.length->rzR s k=true)∧(∀ k,k<s.nodes.length->Qv5 s (k:Int)=true)∧(∀ k,k<s.jobs.length->heldR s k=true))∧(Q53 s=0∨Q53 s=141):=by
 unfold Q53;rw [h];show ((bif false then (141:Int) else QJ5 s (Q72 s.jobs 0 0).1 (Q72 s.jobs 0 0).2)=0 ↔ _)∧((bif false then (141:Int) else QJ5 s (Q72 s.jobs 0 0).1 (Q72 s.jobs 0 0).2)=0∨(bif false then (141:Int) else QJ5 s (Q72 s.jobs 0 0).1 (Q72 s.jobs 0 0).2)=141);simp only [cond_false];unfold QJ5 Qmb Qnb Qob Qpb;rw [last_job,last_book,← next_eq,← next_eq];generalize hok0:((Qf1 s.nextJob (Qq1 s.jobs 0 0))&&(Qf1 s.nextBook (QJ1 s.books 0 0)))=ok0;have e3:=okloop s.resizes.length (rzR s) (QG5 s) (fun _ _ _=>rfl) ((Int.toNat ((s.resizes.length:Int) - (0:Int)))+1) ok0 0 (by omega) (by omega);generalize (QG5 s ((Int.toNat ((s.resizes.length:Int) - (0:Int)))+1) ok0 0).1=ok1 at *;have e4:=okloop s.nodes.length (fun k=>Qv5 s (k:Int)) (QH5 s) (fun _ _ _=>rfl) ((Int.toNat ((s.nodes.length:Int) - (0:Int)))+1) ok1 0 (by omega) (by omega);generalize (QH5 s ((Int.toNat ((s.nodes.length:Int) - (0:Int)))+1) ok1 0).1=ok2 at *;have e5:=okloop s.jobs.length (heldR s) (QI5 s) (fun _ _ _=>rfl) ((Int.toNat ((s.jobs.length:Int) - (0:Int)))+1) ok2 0 (by omega) (by omega);generalize (QI5 s ((Int.toNat ((s.jobs.length:Int) - (0:Int)))+1) ok2 0).1=ok3 at *;have hand:(Qf1 s.nextJob (Qq1 s.jobs 0 0)=true∧Qf1 s.nextBook (QJ1 s.books 0 0)=true) ↔ ok0=true:=by rw [← hok0,yca]
 rw [hand];have hz:ok3=true ↔ ok0=true∧(∀ k,k<s.resizes.length->rzR s k=true)∧(∀ k,k<s.nodes.length->Qv5 s (k:Int)=true)∧(∀ k,k<s.jobs.length->heldR s k=true):=by
  rw [e5,e4,e3];simp only [yBa,true_implies,and_assoc]
 rw [← hz];cases ok3 <;> simp
theorem Q0f (h:Words s):Qj0 s=Q53 s:=by
 have hpe:=plan_eq s h.sz h.jobs;cases hp:(Qy1 s != 0) with
 | true =>
  have hr:(Qh8 s != 0)=true:=by rw [← hpe];exact hp
  unfold Qj0 Q53;rw [hp,hr]
  rfl
 | false =>
  have hp0:Qy1 s=0:=by simpa using hp
  obtain ⟨r1,r2⟩:=QJ9 (s:=s) (by rw [← hpe];exact hp0);obtain ⟨hf,ht⟩:=QG4 hp0;obtain ⟨_,hjc,hsort⟩:=Q12 ht;have hl:s.nodes.length<=64:=by have:=(Q9a hf).1;omega
  have hid:∀ x ∈ s.jobs,1<=x.id:=fun x hx=>(QM4 (hjc x hx)).1
  have e:Qj0 s=QK1 s (Qq1 s.jobs 0 0) (QJ1 s.books 0 0) (QA0 s.jobs 0 []) s.resizes 0 []:=by
   unfold Qj0 Q64 Q74 Qs3;rw [hp]
   rfl
  obtain ⟨p1,p2⟩:=g4_iff s (Qq1 s.jobs 0 0) (QJ1 s.books 0 0) (QA0 s.jobs 0 []) s.resizes 0 [] (by simp) (by omega);rw [← e] at p1 p2;have heldE:heldB s (QA0 s.jobs 0 [])=true ↔ ∀ k,k<s.jobs.length->heldR s k=true:=by
   rw [held_iff s hsort hid];unfold heldR;constructor
   ·intro hh k hk;have hm:s.jobs.getD k zG ∈ s.jobs:=by
     rw [List.getD,yaa hk];exact y7a _
    cases hst:((s.jobs.getD k zG).state != 2) with
    | true=>rfl
    | false =>
     have:(s.jobs.getD k zG).state=2:=by simpa [bne] using hst
     rw [hh _ hm this];simp
   ·intro hh x hx hs;obtain ⟨k,hk⟩:=yab hx;have hg:s.jobs.getD k zG=x:=by rw [List.getD,hk];rfl
    have:=hh k (List.getElem?_eq_some_iff.1 hk).1;rw [hg,hs] at this;simpa using this
  have rzE:(∀ k,k<s.jobs.length->heldR s k=true) -> ∀ k,k<s.resizes.length->rzP s (QA0 s.jobs 0 []) k=rzR s k:=by
   intro hh k hk;have hm:s.resizes.getD k zH ∈ s.resizes:=by
    rw [List.getD,yaa hk];exact y7a _
   have hheld:=(held_iff s hsort hid).1 (heldE.2 hh);unfold rzP rzR;obtain ⟨q1,q2⟩:=run_get hsort (s.resizes.getD k zH).job;rw [q1,q2];have hord:((decide ((k:Int) > 0))&&(decide ((s.resizes.getD (Int.toNat (w64 ((k:Int) - 1))) zH).job >= (s.resizes.getD k zH).job))) = !(((k:Int)==0)||(decide ((s.resizes.getD (Int.toNat (w64 ((k:Int) - 1))) zH).job<(s.resizes.getD k zH).job))):=by
    rw [yLa];simp only [yca,yda,y5a,yZa,yCa,beq_eq_false_iff_ne];omega
   rw [hord];have hres:((QZ0 s (s.resizes.getD k zH).job).2=true->Qt3 s (s.resizes.getD k zH) (QZ0 s (s.resizes.getD k zH).job).1=Q32 s (s.resizes.getD k zH))∧((QZ0 s (s.resizes.getD k zH).job).2=false->Q32 s (s.resizes.getD k zH)=false):=by
    constructor
    ·intro hrun
     by_cases hx:∃ x ∈ s.jobs,x.id=(s.resizes.getD k zH).job
     ·obtain ⟨x,hx,hxe⟩:=hx;have hrs:=Q0b hsort hx;rw [hxe] at hrs
      by_cases hst:x.state=2
      ·rw [if_pos hst] at hrs;rw [hrs];refine resize_eq s _ x (h.nodes _ hm) (h.said _ hm) (h.jobs x hx) hf hrs (hjc x hx) fun i=>?_
       have he:=hheld x hx hst;rw [← of_eq] at he;obtain ⟨_,b⟩:=Q23 s.nodes (fun (y:Node)=>((y.job==x.id)&&(y.state==1))) hf hl;rw [← he];unfold Qq6;rw [b,hxe];simp
      ·rw [if_neg hst] at hrs;rw [hrs] at hrun;cases hrun
     ·rw [QYe _ (fun x hx' e=>hx ⟨x,hx',e⟩)] at hrun;cases hrun
    ·intro hrun;unfold Q32;rw [hrun]
     rfl
   cases hrun:(QZ0 s (s.resizes.getD k zH).job).2 with
   | true =>
    rw [hres.1 hrun];generalize (((k:Int)==0)||(decide ((s.resizes.getD (Int.toNat (w64 ((k:Int) - 1))) zH).job<(s.resizes.getD k zH).job)))=A;generalize Q32 s (s.resizes.getD k zH)=B;revert A B
    decide
   | false =>
    rw [hres.2 hrun];simp
  have rzS:(∀ k,k<s.resizes.length->rzR s k=true)->s.resizes.Pairwise (fun a b=>a.job<b.job):=by
   intro hh;have hstep:∀ k,k+1<s.resizes.length->(s.resizes.getD k zH).job<(s.resizes.getD (k+1) zH).job:=by
    intro k hk;have hk':=hh (k+1) hk;have hlen:s.resizes.length<=4294967296:=h.sz.2.2.2.1;unfold rzR at hk';rw [yca] at hk';have hw:w64 (((k+1:Nat):Int) - 1)=(k:Int):=by
     have:=wr (n:=((k+1:Nat):Int) - 1) (by omega);show IntKind.i64.wrap _=_;rw [this];omega
    rw [hw,yoa] at hk';have hne:(((k+1:Nat):Int)==0)=false:=by simp;omega
    rw [hne,yXa,yda] at hk';exact hk'.2
   rw [List.pairwise_iff_getElem];have hmono:∀ (d a:Nat),a+d+1<s.resizes.length->(s.resizes.getD a zH).job<(s.resizes.getD (a+d+1) zH).job:=by
    intro d
    induction d with
    | zero=>intro a ha;exact hstep a ha
    | succ d ih =>
     intro a ha;have h1:=ih a (by omega);have h2:=hstep (a+d+1) (by omega);have:a+(d+1)+1=a+d+1+1:=by omega
     rw [this];omega
   intro a b ha hb hab;have:=hmono (b - a - 1) a (by omega);have e2:a+(b - a - 1)+1=b:=by omega
   rw [e2] at this;have g1:s.resizes.getD a zH=s.resizes[a]:=by rw [List.getD,yaa ha];rfl
   have g2:s.resizes.getD b zH=s.resizes[b]:=by rw [List.getD,yaa hb];rfl
   rw [g1,g2] at this;exact this
  have hiff:Qj0 s=0 ↔ Q53 s=0:=by
   rw [p1,r1,heldE];constructor
   ·rintro ⟨a,b,c,d,q⟩;have hrz:∀ k,k<s.resizes.length->rzR s k=true:=fun k hk=>by rw [← rzE q k hk];exact a k (yBa _) hk
    exact ⟨⟨b,c⟩,hrz,(nodes_eq s hsort (rzS hrz) h.jobs h.nodes).1 d,q⟩
   ·rintro ⟨⟨b,c⟩,a,d,q⟩;exact ⟨fun k _ hk=>by rw [rzE q k hk];exact a k hk,b,c,(nodes_eq s hsort (rzS a) h.jobs h.nodes).2 d,q⟩
  rcases p2 with a|a <;> rcases r2 with b|b
  ·rw [a,b]
  ·rw [hiff.1 a] at b;cases b
  ·rw [hiff.2 b] at a;cases a
  ·rw [a,b]
end
def adB (to_ n last:Int):List Step->List Step
 | []=>if to_<=1000000 then [⟨to_,last⟩] else []
 | y :: r=>if y.at_<to_ then ⟨y.at_,y.free+n⟩ :: adB to_ n y.free r else if to_<y.at_ then ⟨to_,last⟩ :: y :: r else y :: r
def adA (from_ to_ n:Int) (x:Step):List Step->List Step
 | []=>(if x.at_<from_ then [x] else [])++⟨from_,x.free+n⟩ :: adB to_ n x.free []
 | y :: r=>if y.at_<=from_ then x :: adA from_ to_ n y r else (if x.at_<from_ then [x] else [])++⟨from_,x.free+n⟩ :: adB to_ n x.free (y :: r)
theorem adB_srt {to_ n:Int}:∀ (r:List Step) (a last:Int),Srt a r->a<to_->Srt a (adB to_ n last r)
 | [],a,last,_,ha=>by
  unfold adB;split
  ·exact ⟨ha,by assumption,trivial⟩
  ·exact trivial
 | y :: r,a,last,h,ha=>by
  unfold adB;split
  ·exact ⟨h.1,h.2.1,adB_srt r y.at_ y.free h.2.2 (by assumption)⟩
  ·split
   ·exact ⟨ha,by have:=h.2.1;show to_<=1000000;omega,by assumption,h.2⟩
   ·exact h
theorem adB_pv {to_ n t:Int} (ht:t<=1000000):∀ (r:List Step) (a last:Int),Srt a r->a<to_->pv (last+n) (adB to_ n last r) t=pv last r t+(if t<to_ then n else 0)
 | [],a,last,_,ha=>by
  unfold adB;split
  ·simp only [pv];split <;> split <;> omega
  ·simp only [pv];rw [if_pos (by omega)]
 | y :: r,a,last,h,ha=>by
  unfold adB;split
  ·rename_i hy;simp only [pv]
   by_cases hyt:y.at_<=t
   ·rw [if_pos hyt,if_pos hyt];exact adB_pv ht r y.at_ y.free h.2.2 hy
   ·rw [if_neg hyt,if_neg hyt,Qs1 (adB_srt r y.at_ y.free h.2.2 hy) (by omega),Qs1 h.2.2 (by omega),if_pos (by omega)]
  ·rename_i hy;split
   ·rename_i hz;simp only [pv]
    by_cases htt:to_<=t
    ·rw [if_pos htt,if_neg (by omega:¬ t<to_)];omega
    ·rw [if_neg htt,if_neg (by omega:¬ y.at_<=t),if_pos (by omega:t<to_),Qs1 h.2.2 (by omega),if_neg (by omega),Qs1 h.2.2 (by omega)]
   ·rename_i hz;simp only [pv]
    by_cases htt:y.at_<=t
    ·rw [if_pos htt,if_pos htt,if_neg (by omega:¬ t<to_)];omega
    ·rw [if_neg htt,if_neg htt,if_pos (by omega:t<to_),Qs1 h.2.2 (by omega),Qs1 h.2.2 (by omega)]
theorem adH_srt {from_ to_ n:Int} (hf:from_<=1000000) (hft:from_<to_) (x:Step) (r:List Step) (hx:x.at_<=from_) (h:Srt from_ r) (a:Int) (ha:a<x.at_) (hx1:x.at_<=1000000) :
  Srt a ((if x.at_<from_ then [x] else [])++⟨from_,x.free+n⟩ :: adB to_ n x.free r):=by
 have h2:=adB_srt (n:=n) r from_ x.free h hft;split
 ·exact ⟨ha,hx1,by assumption,hf,h2⟩
 ·exact ⟨by show a<from_;omega,hf,h2⟩
theorem adH_pv {from_ to_ n t:Int} (ht:t<=1000000) (hft:from_<to_) (x:Step) (r:List Step) (hx:x.at_<=from_) (h:Srt from_ r) (f:Int) :
  pv f ((if x.at_<from_ then [x] else [])++⟨from_,x.free+n⟩ :: adB to_ n x.free r) t=pv f (x :: r) t+(if from_<=t∧t<to_ then n else 0):=by
 have h2:=adB_srt (n:=n) r from_ x.free h hft;have h3:=adB_pv (n:=n) ht r from_ x.free h hft
 by_cases hxf:x.at_<from_
 ·rw [if_pos hxf];simp only [ySb,ydb,pv]
  by_cases hxt:x.at_<=t
  ·rw [if_pos hxt,if_pos hxt]
   by_cases hft2:from_<=t
   ·rw [if_pos hft2,h3]
    congr 1
    split <;> split <;> omega
   ·rw [if_neg hft2,Qs1 h2 (by omega),Qs1 h (by omega),if_neg (by omega)];omega
  ·rw [if_neg hxt,if_neg hxt,if_neg (by omega),if_neg (by omega),Qs1 h2 (by omega),Qs1 h (by omega)];omega
 ·rw [if_neg hxf];have e:x.at_=from_:=by omega
  simp only [ydb,pv,e]
  by_cases hft2:from_<=t
  ·rw [if_pos hft2,if_pos hft2,h3]
   congr 1
   split <;> split <;> omega
  ·rw [if_neg hft2,if_neg hft2,Qs1 h2 (by omega),Qs1 h (by omega),if_neg (by omega)];omega
theorem adA_srt {from_ to_ n:Int} (hf:from_<=1000000) (hft:from_<to_):∀ (r:List Step) (x:Step) (a:Int),a<x.at_->x.at_<=from_->Srt x.at_ r->Srt a (adA from_ to_ n x r)
 | [],x,a,ha,hx,_=>by
  unfold adA;exact adH_srt hf hft x [] hx trivial a ha (by omega)
 | y :: r,x,a,ha,hx,h=>by
  unfold adA;split
  ·exact ⟨ha,by omega,adA_srt hf hft r y x.at_ h.1 (by assumption) h.2.2⟩
  ·exact adH_srt hf hft x (y :: r) hx ⟨by omega,h.2⟩ a ha (by omega)
theorem adA_pv {from_ to_ n t:Int} (hf:from_<=1000000) (ht:t<=1000000) (hft:from_<to_):∀ (r:List Step) (x:Step) (f:Int),x.at_<=from_->Srt x.at_ r->pv f (adA from_ to_ n x r) t=pv f (x :: r) t+(if from_<=t∧t<to_ then n else 0)
 | [],x,f,hx,_=>by
  unfold adA;exact adH_pv ht hft x [] hx trivial f
 | y :: r,x,f,hx,h=>by
  unfold adA;split
  ·rename_i hy;have ih:=adA_pv (n:=n) hf ht hft r y;have hs:=adA_srt (n:=n) hf hft r y x.at_ h.1 hy h.2.2;simp only [pv] at ih ⊢
   by_cases hxt:x.at_<=t
   ·rw [if_pos hxt,if_pos hxt];exact ih x.free hy h.2.2
   ·have:=h.1;rw [if_neg hxt,if_neg hxt,Qs1 hs (by omega),if_neg (by omega),if_neg (by omega),Qs1 h.2.2 (by omega)];omega
  ·exact adH_pv ht hft x (y :: r) hx ⟨by omega,h.2⟩ f
def adP (from_ to_ n:Int):List Step->List Step
 | []=>[]
 | x :: r=>adA from_ to_ n x r
theorem adA_head {from_ to_ n:Int} (r:List Step) (x:Step) (hx:x.at_<=from_):∃ f q,adA from_ to_ n x r=⟨x.at_,f⟩ :: q:=by
 have hd:∀ r:List Step,∃ f q,(if x.at_<from_ then [x] else [])++⟨from_,x.free+n⟩ :: adB to_ n x.free r=⟨x.at_,f⟩ :: q:=by
  intro r;split
  ·exact ⟨x.free,_,rfl⟩
  ·exact ⟨x.free+n,_,by rw [show x.at_=from_ by omega];rfl⟩
 cases r with
 | nil=>exact hd []
 | cons y r =>
  unfold adA;split
  ·exact ⟨x.free,_,rfl⟩
  ·exact hd (y :: r)
theorem adP_srt0 {p:List Step} {from_ to_ n:Int} (h:Srt0 p) (h0:0<=from_) (hf:from_<=1000000) (hft:from_<to_):Srt0 (adP from_ to_ n p):=by
 cases p with
 | nil=>exact h.elim
 | cons x r =>
  have hx:=h.1;have hs:=adA_srt (n:=n) hf hft r x (-1) (by omega) (by omega) h.2;obtain ⟨f,q,e⟩:=adA_head (from_:=from_) (to_:=to_) (n:=n) r x (by omega);show Srt0 (adA from_ to_ n x r);rw [e] at hs ⊢;exact ⟨hx,hs.2.2⟩
theorem adP_pat {p:List Step} {from_ to_ n t:Int} (h:Srt0 p) (h0:0<=from_) (hf:from_<=1000000) (hft:from_<to_) (ht:t<=1000000):pat (adP from_ to_ n p) t=pat p t+(if from_<=t∧t<to_ then n else 0):=by
 cases p with
 | nil=>exact h.elim
 | cons x r =>
  have hx:=h.1;exact adA_pv hf ht hft r x 0 (by omega) h.2
theorem fits_not (n:Int):(!(Qz2 n))=((decide (n<(-1000000)))||(decide (n > 1000000))):=by
 rw [yLa];simp [Qz2]
theorem pcheck_g1 (p:List Step):∀ (l:List Step) (i:Nat),QH4 p l i=Q14 p l i
 | [],_=>rfl
 | x :: r,i=>by
  rw [QH4,Q14,pcheck_g1 p r (i+1),fits_not];cases (((decide (x.free<(-1000000)))||(decide (x.free > 1000000)))||(decide (x.at_ > 1000000))) <;> simp only [ykc,yXa,cond_true,cond_false]
theorem Qn7 (p:List Step):QX1 p=Qk1 p:=by
 unfold QX1 Qk1;have e:((p.length:Int)==0)=decide ((p.length:Int)<1):=by
  rw [yLa,beq_iff_eq,yda];omega
 rw [pcheck_g1,e]
def Cn (p:List Step):Prop:=Can p∧p.length<=1000 ∧ ∀ x ∈ p,-1000000<=x.free∧x.free<=1000000
theorem Qp9 {α:Type} (d:α) {p:List α} {i:Nat} {x:α} {r:List α} (h:p.drop i=x :: r):p.getD i d=x∧p.drop (i+1)=r:=by
 have h1:p[i]? = some x:=by
  have:(p.drop i)[0]? = some x:=by rw [h];rfl
  simpa using this
 have h2:p.drop (i+1)=r:=by
  have:(p.drop i).drop 1=r:=by rw [h];rfl
  rwa [yxb] at this
 exact ⟨by simp [List.getD,h1],h2⟩
theorem check_g1 (p:List Step) (hp:p.length<=1000):∀ (l:List Step) (i:Nat),p.drop i=l->0<i->i<=1000->(Q14 p l i=0 ↔ Srt (p.getD (i - 1) zE).at_ l∧Dif (p.getD (i - 1) zE).free l ∧ ∀ x ∈ l,-1000000<=x.free∧x.free<=1000000)
 | [],i,_,_,_=>⟨fun _=>⟨trivial,trivial,fun x hx=>absurd hx ymb⟩,fun _=>rfl⟩
 | x :: r,i,h,h0,hi=>by
  obtain ⟨h1,h2⟩:=Qp9 zE h;have hlt:i<p.length:=by
   have:=congrArg List.length h;simp only [yva,yka] at this;omega
  have ih:=check_g1 p hp r (i+1) h2 (by omega) (by omega);rw [show i+1 - 1=i by omega,h1] at ih;have hw:Int.toNat (w64 ((i:Int) - 1))=i - 1:=by
   have:w64 ((i:Int) - 1)=(i:Int) - 1:=wr (by omega);rw [this];omega
  rw [Q14,hw];generalize p.getD (i - 1) zE=y
  by_cases hA:(((decide (x.free<(-1000000)))||(decide (x.free > 1000000)))||(decide (x.at_ > 1000000)))=true
  ·rw [hA];simp only [cond_true];constructor
   ·intro h;cases h
   ·rintro ⟨hs,_,hf⟩;have:=hs.2.1;have:=hf x (yma ..);simp at hA;omega
  ·rw [yZb] at hA;rw [hA];simp only [cond_false];simp at hA
   by_cases hB:((decide ((i:Int) > 0))&&((decide (x.at_<=y.at_))||(x.free==y.free)))=true
   ·rw [hB];simp only [cond_true];constructor
    ·intro h;cases h
    ·rintro ⟨hs,hd,_⟩;have:=hs.1;have:=hd.1;simp at hB;omega
   ·rw [yZb] at hB;rw [hB];simp only [cond_false];simp at hB;obtain ⟨hB1,hB2⟩:=hB (by omega);rw [ih];constructor
    ·rintro ⟨a,b,c⟩;refine ⟨⟨by omega,by omega,a⟩,⟨fun e=>hB2 e.symm,b⟩,fun z hz=>?_⟩;rcases List.mem_cons.1 hz with rfl|hz
     ·omega
     ·exact c z hz
    ·rintro ⟨a,b,c⟩;exact ⟨a.2.2,b.2,fun z hz=>c z (yga _ hz)⟩
theorem Qo6 (p:List Step):Qk1 p=0 ↔ Cn p:=by
 cases p with
 | nil=>exact ⟨fun h=>by simp [Qk1] at h,fun h=>h.1.elim⟩
 | cons x r =>
  unfold Qk1
  by_cases hA:(((decide ((((x :: r).length:Nat):Int)<1))||(decide ((((x :: r).length:Nat):Int) > 1000)))||(((x :: r).getD 0 zE).at_ != 0))=true
  ·rw [hA];simp only [cond_true];constructor
   ·intro h;cases h
   ·rintro ⟨⟨h1,_⟩,h2,_⟩;simp at hA h2;omega
  ·rw [yZb] at hA;rw [hA];simp only [cond_false];simp at hA;have hl:(x :: r).length<=1000:=by simp;omega
   have ih:=check_g1 (x :: r) hl r 1 rfl (by omega) (by omega);have e0:(x :: r).getD (1 - 1) zE=x:=rfl;rw [e0] at ih;rw [Q14];simp only [Int.ofNat_zero,gt_iff_lt,Int.lt_irrefl,decide_false,yNb,cond_false,yna]
   by_cases hB:(((decide (x.free<(-1000000)))||(decide (1000000<x.free)))||(decide (1000000<x.at_)))=true
   ·rw [hB];simp only [cond_true];constructor
    ·intro h;cases h
    ·rintro ⟨⟨h1,_⟩,_,h3⟩;have:=h3 x (yma ..);simp at hB;omega
   ·rw [yZb] at hB;rw [hB];simp only [cond_false];simp at hB;rw [ih];constructor
    ·rintro ⟨a,b,c⟩;refine ⟨⟨hA.2,a,b⟩,hl,fun z hz=>?_⟩;rcases List.mem_cons.1 hz with rfl|hz
     ·omega
     ·exact c z hz
    ·rintro ⟨⟨_,a,b⟩,_,c⟩;exact ⟨a,b,fun z hz=>c z (yga _ hz)⟩
theorem now_g1 (t:Int):∀ (l:List Step) (out:Int) (i:Nat),(Qk6 t l out i).1=pv out l t
 | [],_,_=>rfl
 | x :: r,out,i=>by
  rw [Qk6];simp only [pv]
  by_cases h:x.at_<=t
  ·rw [yha h,if_pos h];exact now_g1 t r x.free (i+1)
  ·rw [yja h,if_neg h];exact now_g1 t r out (i+1)
theorem now_eq (p:List Step) (t:Int):Qf8 p t=pat p t:=now_g1 t p 0 0
theorem QWf (t:Int):∀ (p:List Step) (f:Int),pv f p t=f ∨ ∃ x ∈ p,pv f p t=x.free
 | [],f=>.inl rfl
 | x :: r,f=>by
  simp only [pv];split
  ·rcases QWf t r x.free with h|⟨y,hy,h⟩
   ·exact .inr ⟨x,yma ..,h⟩
   ·exact .inr ⟨y,yga _ hy,h⟩
  ·rcases QWf t r f with h|⟨y,hy,h⟩
   ·exact .inl h
   ·exact .inr ⟨y,yga _ hy,h⟩
theorem Cn.pat {p:List Step} (h:Cn p) (t:Int):-1000000<=pat p t∧pat p t<=1000000:=by
 rcases QWf t p 0 with e|⟨x,hx,e⟩
 ·unfold Proofs.YtackngeeehiegaaGreatDoor.pat;omega
 ·have:=h.2.2 x hx;unfold Proofs.YtackngeeehiegaaGreatDoor.pat;omega
theorem put_g1 (l:List Int) (n:Int):∀ (m i:Nat),l.length - i<m->i<=l.length->i<=Qp3 l n m i∧Qp3 l n m i<=l.length∧(∀ j,i<=j->j<Qp3 l n m i->l.getD j 0<n)∧(Qp3 l n m i<l.length->n<=l.getD (Qp3 l n m i) 0)
 | 0,_,h,_=>absurd h (ylc _)
 | m+1,i,h,hi=>by
  rw [Qp3]
  by_cases hc:((decide ((i:Int)<(l.length:Int)))&&(decide ((l.getD i 0)<n)))=true
  ·rw [hc];simp only [cond_true];rw [yca,yda,yda] at hc;obtain ⟨a,b,c,d⟩:=put_g1 l n m (i+1) (by omega) (by omega);refine ⟨by omega,b,fun j hj hjk=>?_,d⟩;rcases ypa i j with h1|h1
   ·exact c j h1 hjk
   ·rw [show j=i by omega];exact hc.2
  ·rw [yZb] at hc;rw [hc];simp only [cond_false];refine ⟨yla _,hi,fun j hj hjk=>by omega,fun hlt=>?_⟩;simp only [yPb,yCa] at hc;omega
theorem QY8 {α:Type} {d:α} {l:List α} {j:Nat} (h:j<l.length):l.getD j d ∈ l:=by
 rw [y0a,yaa h];exact y7a h
theorem put_spec {l:List Int} (n:Int) (hl:l.Pairwise (· < ·)):(Q85 l n).Pairwise (· < ·) ∧ ∀ y,y ∈ Q85 l n ↔ y=n∨y ∈ l:=by
 obtain ⟨_,h2,h3,h4⟩:=put_g1 l n ((Int.toNat ((l.length:Int) - (0:Int)))+1) 0 (by omega) (by omega);unfold Q85 Qwa;revert h2 h3 h4;generalize Qp3 l n ((Int.toNat ((l.length:Int) - (0:Int)))+1) 0=k;intro h2 h3 h4
 by_cases hc:((decide ((k:Int)<(l.length:Int)))&&((l.getD k 0)==n))=true
 ·rw [hc];simp only [cond_true];rw [yca,yda,beq_iff_eq] at hc;refine ⟨hl,fun y=>⟨.inr,?_⟩⟩;rintro (rfl|h)
  ·rw [← hc.2];exact QY8 (by omega)
  ·exact h
 ·rw [yZb] at hc;rw [hc];simp only [cond_false];have hlow:∀ y ∈ l.take k,y<n:=by
   intro y hy;obtain ⟨j,hj,rfl⟩:=List.mem_iff_getElem.1 hy;have hj':j<k:=by simp at hj;omega
   have:=h3 j (yBa _) hj';rw [y0a,yaa (by omega)] at this;simpa using this
  have hhigh:∀ y ∈ l.drop k,n<y:=by
   intro y hy;obtain ⟨j,hj,rfl⟩:=List.mem_iff_getElem.1 hy;have hk:k<l.length:=by simp at hj;omega
   have hne:l.getD k 0 ≠ n:=by
    intro e;simp only [yPb,yCa,beq_eq_false_iff_ne] at hc;rcases hc with hc|hc
    ·omega
    ·exact hc e
   have h5:=h4 hk;rw [y0a,yaa hk] at h5 hne;simp only [yFa] at h5 hne;simp only [List.getElem_drop];rcases yMa j with rfl|hj0
   ·simp only [y1a];omega
   ·have:=List.pairwise_iff_getElem.1 hl k (k+j) hk (by simp at hj;omega) (by omega);omega
  refine ⟨?_,fun y=>?_⟩
  ·rw [yhb,List.pairwise_append];refine ⟨hl.sublist (List.take_sublist _ _),?_,fun a ha b hb=>?_⟩
   ·rw [List.singleton_append,yFc];exact ⟨hhigh,hl.sublist (List.drop_sublist _ _)⟩
   ·rcases List.mem_append.1 hb with hb|hb
    ·rw [List.mem_singleton.1 hb];exact hlow a ha
    ·have:=hlow a ha;have:=hhigh b hb;omega
  ·simp only [yyb,yCc];constructor
   ·rintro ((h|h)|h)
    ·exact .inr (y4a h)
    ·exact .inl h
    ·exact .inr (yPa h)
   ·rintro (h|h)
    ·exact .inl (.inr h)
    ·have e:l=l.take k++l.drop k:=(ytb k l).symm;rw [e] at h;rcases List.mem_append.1 h with h|h
     ·exact .inl (.inl h)
     ·exact .inr h
theorem ticks_g1:∀ (p:List Step) (out:List Int) (i:Nat),out.Pairwise (· < ·)->(QI1 p out i).1.Pairwise (· < ·) ∧ ∀ y,y ∈ (QI1 p out i).1 ↔ y ∈ out ∨ ∃ x ∈ p,x.at_=y
 | [],out,i,h=>⟨h,fun y=>by simp [QI1]⟩
 | x :: r,out,i,h=>by
  rw [QI1];obtain ⟨a,b⟩:=put_spec x.at_ h;obtain ⟨c,d⟩:=ticks_g1 r (Q85 out x.at_) (i+1) a;refine ⟨c,fun y=>?_⟩;rw [d y,b y];constructor
  ·rintro ((rfl|h)|⟨z,hz,h⟩)
   ·exact .inr ⟨x,yma ..,rfl⟩
   ·exact .inl h
   ·exact .inr ⟨z,yga _ hz,h⟩
  ·rintro (h|⟨z,hz,h⟩)
   ·exact .inl (.inr h)
   ·rcases List.mem_cons.1 hz with rfl|hz
    ·exact .inl (.inl h.symm)
    ·exact .inr ⟨z,hz,h⟩
theorem ticks_g2:∀ (p out:List Int) (i:Nat),out.Pairwise (· < ·)->(Q62 p out i).1.Pairwise (· < ·) ∧ ∀ y,y ∈ (Q62 p out i).1 ↔ y ∈ out∨y ∈ p
 | [],out,i,h=>⟨h,fun y=>by simp [Q62]⟩
 | x :: r,out,i,h=>by
  rw [Q62];obtain ⟨a,b⟩:=put_spec x h;obtain ⟨c,d⟩:=ticks_g2 r (Q85 out x) (i+1) a;refine ⟨c,fun y=>?_⟩;rw [d y,b y,ync];constructor
  ·rintro ((h|h)|h)
   ·exact .inr (.inl h)
   ·exact .inl h
   ·exact .inr (.inr h)
  ·rintro (h|h|h)
   ·exact .inl (.inr h)
   ·exact .inl (.inl h)
   ·exact .inr h
theorem ticks_spec (p:List Step) (more:List Int):(Q43 p more).Pairwise (· < ·) ∧ ∀ y,y ∈ Q43 p more ↔ (∃ x ∈ p,x.at_=y)∨y ∈ more:=by
 obtain ⟨a,b⟩:=ticks_g1 p [] 0 .nil;obtain ⟨c,d⟩:=ticks_g2 more (QI1 p [] 0).1 0 a;refine ⟨c,fun y=>?_⟩;show y ∈ (Q62 more (QI1 p [] 0).1 0).1 ↔ _;rw [d y,b y];simp
theorem put_test (out:List Step) (u v:Int) (h:out.length<=4294967296):(bif (((out.length:Int)==0)||((out.getD (Int.toNat (w64 ((out.length:Int) - 1))) zE).free != v)) then (out++([(⟨u,v⟩:Step)]:List Step)) else out)=putS out ⟨u,v⟩:=by
 rcases List.eq_nil_or_concat out with rfl|⟨L,b,rfl⟩
 ·rfl
 ·have hw:Int.toNat (w64 ((((L++[b]).length:Nat):Int) - 1))=L.length:=by
   have:w64 ((((L++[b]).length:Nat):Int) - 1)=(L.length:Int):=by
    rw [show (((L++[b]).length:Nat):Int) - 1=(L.length:Int) by simp];exact wr (by simp at h;omega)
   rw [this]
   rfl
  rw [List.concat_eq_append] at *;rw [hw];have h0:((((L++[b]).length:Nat):Int)==0)=false:=by simp;omega
  have hg:(L++[b]).getD L.length zE=b:=by simp [List.getD]
  rw [h0,hg];simp only [putS,List.getLast?_append,List.getLast?_singleton,Option.some_or,yXa]
  by_cases e:b.free=v
  ·simp [e]
  ·have e2:(b.free != v)=true:=by simpa using e
   simp [e,e2]
theorem QTa (out:List Step) (x:Step):(putS out x).length<=out.length+1:=by
 unfold putS;split
 ·simp
 ·split
  ·omega
  ·simp
theorem add_g2 (p:List Step) (f_ t_ n:Int):∀ (L:List Int) (out:List Step) (i:Nat),out.length+L.length<=100000->(QS2 p f_ t_ n L out i).1=(L.map fun x=>(⟨x,if f_<=x∧x<t_ then w64 (pat p x+n) else pat p x⟩:Step)).foldl putS out
 | [],_,_,_=>rfl
 | x :: r,out,i,h=>by
  have key:(QS2 p f_ t_ n (x :: r) out i)=QS2 p f_ t_ n r (putS out ⟨x,if f_<=x∧x<t_ then w64 (pat p x+n) else pat p x⟩) (i+1):=by
   rw [QS2,now_eq];simp only [yka] at h
   by_cases hc:f_<=x∧x<t_
   ·rw [if_pos hc,show ((decide (x >= f_))&&(decide (x<t_)))=true by simp;omega,← put_test out x (w64 (pat p x+n)) (by omega)];simp only [cond_true];cases (((out.length:Int)==0)||((out.getD (Int.toNat (w64 ((out.length:Int) - 1))) zE).free != (w64 (pat p x+n)))) <;> rfl
   ·rw [if_neg hc,show ((decide (x >= f_))&&(decide (x<t_)))=false by simp;omega,← put_test out x (pat p x) (by omega)];simp only [cond_false];cases (((out.length:Int)==0)||((out.getD (Int.toNat (w64 ((out.length:Int) - 1))) zE).free != (pat p x))) <;> rfl
  rw [key,y8a,yzb];have:=QTa out ⟨x,if f_<=x∧x<t_ then w64 (pat p x+n) else pat p x⟩;simp only [yka] at h;exact add_g2 p f_ t_ n r _ (i+1) (by omega)
theorem pv_const:∀ (p:List Step) (f u v:Int),u<=v->(∀ x ∈ p,x.at_<=u∨v<x.at_)->pv f p u=pv f p v
 | [],_,_,_,_,_=>rfl
 | x :: r,f,u,v,huv,h=>by
  simp only [pv];have hr:∀ y ∈ r,y.at_<=u∨v<y.at_:=fun y hy=>h y (yga _ hy)
  rcases h x (yma ..) with h1|h1
  ·rw [if_pos h1,if_pos (by omega:x.at_<=v)];exact pv_const r x.free u v huv hr
  ·rw [if_neg (by omega:¬ x.at_<=u),if_neg (by omega:¬ x.at_<=v)];exact pv_const r f u v huv hr
theorem Srt.of_pairwise (g:Int->Int):∀ (l:List Int) (a:Int),(a :: l).Pairwise (· < ·)->(∀ x ∈ l,x<=1000000)->Srt a (l.map fun u=>(⟨u,g u⟩:Step))
 | [],_,_,_=>trivial
 | x :: r,a,h,hb=>by
  rw [yFc] at h;exact ⟨h.1 x (yma ..),hb x (yma ..),Srt.of_pairwise g r x h.2 fun y hy=>hb y (yga _ hy)⟩
def Adds (p q:List Step) (f_ t_ n:Int):Prop:=Can q∧q.length<=p.length+2 ∧ ∀ t,0<=t->t<=1000000->pat q t=pat p t+(if f_<=t∧t<t_ then n else 0)
theorem Adds.uniq {p q q':List Step} {f_ t_ n:Int} (h:Adds p q f_ t_ n) (h':Adds p q' f_ t_ n):q=q' :=
 Can.uniq h.1 h'.1 fun t h0 h1=>by rw [h.2.2 t h0 h1,h'.2.2 t h0 h1]
theorem ref_add {p:List Step} {f_ t_ n:Int} (hp:Cn p) (h0:0<=f_) (hf:f_<=1000000) (hft:f_<=t_) (hn:-1000000<=n∧n<=1000000) :
  ∃ q,Adds p q f_ t_ n∧Q73 p f_ t_ n=(bif ((Qk1 q)!=0) then ([],3) else (q,0)):=by
 have hc:((Qk1 p)!=0)=false:=by rw [(Qo6 p).2 hp];rfl
 have hb:(((((decide (f_<0))||(decide (f_ > 1000000)))||(decide (t_<f_)))||(decide (n<(-1000000))))||(decide (n > 1000000)))=false:=by simp;omega
 obtain ⟨more,hmore,hlen,hadd⟩:∃ more:List Int,(∀ y,y ∈ more ↔ y=f_∨(y=t_∧t_<=1000000))∧more.length<=2∧Q73 p f_ t_ n=Qt8 p f_ t_ n more:=by
  by_cases ht:t_<=1000000
  ·refine ⟨([f_]:List Int)++([t_]:List Int),fun y=>by simp [ht],by simp,?_⟩;unfold Q73;rw [hc,hb,yha ht]
   rfl
  ·refine ⟨[f_],fun y=>by simp [ht],by simp,?_⟩;unfold Q73;rw [hc,hb,yja ht]
   rfl
 obtain ⟨hL,hm⟩:=ticks_spec p more;have hl:=QZf p more;have hp1:=hp.2.1;have hg:=add_g2 p f_ t_ n (Q43 p more) [] 0 (by simp;omega);have hw:∀ x:Int,(if f_<=x∧x<t_ then w64 (pat p x+n) else pat p x)=pat p x+(if f_<=x∧x<t_ then n else 0):=by
  intro x;have hb2:=hp.pat x;split
  ·exact wr (by omega)
  ·omega
 simp only [hw] at hg;have hz:∃ l,Q43 p more=0 :: l:=by
  have h00:(0:Int) ∈ Q43 p more:=by
   rw [hm];left;cases p with
   | nil=>exact hp.1.elim
   | cons x r=>exact ⟨x,yma ..,hp.1.1⟩
  have hge:∀ y ∈ Q43 p more,0<=y:=by
   intro y hy;rw [hm,hmore] at hy;rcases hy with ⟨x,hx,rfl⟩|rfl|⟨rfl,_⟩
   ·exact (hp.1.srt0.mem x hx).1
   ·exact h0
   ·omega
  cases hT:Q43 p more with
  | nil=>rw [hT] at h00;cases h00
  | cons y l =>
   rw [hT] at h00 hge hL;rcases List.mem_cons.1 h00 with h|h
   ·rw [h];exact ⟨l,rfl⟩
   ·have h1:=(List.pairwise_cons.1 hL).1 0 h;have h2:=hge y (yma ..);omega
 obtain ⟨l,hT⟩:=hz;have hle:∀ y ∈ l,y<=1000000:=by
  intro y hy;have:y ∈ Q43 p more:=by rw [hT];exact yga _ hy
  rw [hm,hmore] at this;rcases this with ⟨x,hx,rfl⟩|rfl|⟨rfl,h⟩
  ·exact (hp.1.srt0.mem x hx).2.1
  ·exact hf
  ·exact h
 rw [hT] at hL hg hl;have hs:=Srt.of_pairwise (fun x=>pat p x+(if f_<=x∧x<t_ then n else 0)) l 0 hL hle;have hs0:Srt0 ((0 :: l).map fun x=>(⟨x,pat p x+(if f_<=x∧x<t_ then n else 0)⟩:Step)):=⟨rfl,hs⟩;have hfold:(QS2 p f_ t_ n (0 :: l) [] 0).1=comp0 ((0 :: l).map fun x=>(⟨x,pat p x+(if f_<=x∧x<t_ then n else 0)⟩:Step)):=by
  rw [hg];have:=Qif ((0 :: l).map fun x=>(⟨x,pat p x+(if f_<=x∧x<t_ then n else 0)⟩:Step)) [];simpa [comp0] using this
 refine ⟨comp0 ((0 :: l).map fun x=>(⟨x,pat p x+(if f_<=x∧x<t_ then n else 0)⟩:Step)),⟨comp0_can hs0,?_,fun t ht0 ht1=>?_⟩,?_⟩
 ·refine yJa (QRd _) ?_;rw [ypb];omega
 ·rw [comp0_pat ht0 hs0];show (if (0:Int)<=t then pv _ (l.map fun x=>(⟨x,pat p x+(if f_<=x∧x<t_ then n else 0)⟩:Step)) t else pv 0 _ t)=_;rw [if_pos ht0];refine pv_map (fun x=>pat p x+(if f_<=x∧x<t_ then n else 0)) t l 0 _ hs ht0 (fun u v hu huv hv hx=>?_) rfl;have hx':∀ y ∈ (0 :: l),y<=u∨v<y:=by
   intro y hy;rcases List.mem_cons.1 hy with rfl|hy
   ·exact .inl hu
   ·exact hx y hy
  rw [← hT] at hx';have h1:pat p u=pat p v:=pv_const p 0 u v huv fun x hxp=>hx' _ ((hm _).2 (.inl ⟨x,hxp,rfl⟩))
  have h2:=hx' f_ ((hm _).2 (.inr ((hmore _).2 (.inl rfl))));have h3:t_<=u∨v<t_:=by
   by_cases h:t_<=1000000
   ·exact hx' t_ ((hm _).2 (.inr ((hmore _).2 (.inr ⟨rfl,h⟩))))
   ·right;omega
  simp only [h1]
  congr 1
  split <;> split <;> first|rfl|omega
 ·rw [hadd];unfold Qt8 Q8e;rw [hT,hfold]
end Go.Proofs.YtackngeeehiegaaGreatDoor
