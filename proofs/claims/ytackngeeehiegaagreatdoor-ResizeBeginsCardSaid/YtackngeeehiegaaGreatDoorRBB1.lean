/-
  What the last text of this claim leans on: an evaluator over the code, contracts of functions, plain laws. Conditions stand in each statement.
-/
import Derived.Test.YtackngeeehiegaaGreatDoorRB13
import Derived.Test.YtackngeeehiegaaGreatDoorRB6
import Derived.Test.YtackngeeehiegaaGreatDoorRB8
namespace Go.Proofs.YtackngeeehiegaaGreatDoor
set_option linter.unusedSimpArgs false
set_option linter.unusedVariables false
open Go.Fw
end Go.Proofs.YtackngeeehiegaaGreatDoor
namespace Go.Fw
set_option linter.unusedSimpArgs false
set_option linter.unusedVariables false
theorem w6 {n:Int} (h:-9223372036854775808<=n∧n<=9223372036854775807):w64 n=n:=wr h
theorem or_f {a b:Bool} (h:(a||b)=false):a=false∧b=false:=by simpa using h
def U64 (x:Int):Prop:=0<=x∧x<18446744073709551616
def tb (x:Int) (k:Nat):Bool:=x.toNat.testBit k
theorem wu64_eq (n : Int) : wu64 n = n % 18446744073709551616 := by simp [IntKind.wrap, IntKind.bits, IntKind.signed]
theorem QG8 {n:Int} (h:U64 n):wu64 n=n:=by rw [wu64_eq];unfold U64 at h;omega
theorem QJ8 (n:Int):U64 (wu64 n):=by rw [wu64_eq];unfold U64;omega
theorem U64.zero:U64 0:=⟨by decide,by decide⟩
theorem wu64_bv (b:BitVec 64):wu64 (b.toNat:Int)=(b.toNat:Int):=QG8 ⟨by omega,by have:=b.isLt;omega⟩
theorem tb_bv (b:BitVec 64) (k:Nat):tb (wu64 (b.toNat:Int)) k=b.getLsbD k:=by
 rw [wu64_bv,tb,yna,BitVec.testBit_toNat]
theorem QGc {x:Int} (h:U64 x) {k:Nat} (hk:64<=k):tb x k=false:=by
 unfold tb U64 at *;refine y9b (y0a (m:=2 ^ 64) oA (yjc (by decide) hk))
theorem Qi8 {x:Int} (h:U64 x) (k:Nat):(BitVec.ofInt 64 x).getLsbD k=tb x k:=by
 have e:(BitVec.ofInt 64 x).toNat=x.toNat:=by
  rw [yvc];unfold U64 at h;have : x % (2 ^ 64 : Nat) = x := Int.emod_eq_of_lt h.1 (by simpa using h.2);rw [this]
 rw [← BitVec.testBit_toNat,e]
 rfl
theorem tb_and {x y:Int} (hx:U64 x) (hy:U64 y) (k:Nat):tb (wu64 ((BitVec.ofInt 64 x &&& BitVec.ofInt 64 y).toNat:Int)) k=(tb x k&&tb y k):=by
 rw [tb_bv,BitVec.getLsbD_and,Qi8 hx,Qi8 hy]
theorem tb_or {x y:Int} (hx:U64 x) (hy:U64 y) (k:Nat):tb (wu64 ((BitVec.ofInt 64 x ||| BitVec.ofInt 64 y).toNat:Int)) k=(tb x k||tb y k):=by
 rw [tb_bv,BitVec.getLsbD_or,Qi8 hx,Qi8 hy]
theorem Qg6 {x y:Int} (hx:U64 x) (hy:U64 y) (k:Nat):tb (wu64 ((BitVec.ofInt 64 x &&& ~~~(BitVec.ofInt 64 y)).toNat:Int)) k=(tb x k && !tb y k):=by
 rw [tb_bv,BitVec.getLsbD_and,BitVec.getLsbD_not,Qi8 hx,Qi8 hy];rcases yoa k 64 with h|h
 ·simp [h]
 ·simp [QGc hx h]
theorem QZd {x y:Int} (hx:U64 x) (hy:U64 y) (h:∀ k,k<64->tb x k=tb y k):x=y:=by
 have:x.toNat=y.toNat:=by
  refine y2b fun k=>?_
  rcases yoa k 64 with hk|hk
  ·exact h k hk
  ·exact (QGc hx hk).trans (QGc hy hk).symm
 unfold U64 at hx hy;omega
theorem QR9 (k:Nat):tb 0 k=false:=by simp [tb]
theorem Qjc {x:Int} (hx:U64 x):(x==0)=true ↔ ∀ k,k<64->tb x k=false:=by
 rw [beq_iff_eq];refine ⟨fun h k _=>by rw [h];exact QR9 k,fun h=>QZd hx .zero fun k hk=>by rw [h k hk,QR9]⟩
theorem QPg {x:Int} (hx:U64 x):(x != 0)=true ↔ ∃ k,k<64∧tb x k=true:=by
 rw [bne_iff_ne];constructor
 ·intro h;apply Classical.byContradiction;intro hn;refine h (beq_iff_eq.1 ((Qjc hx).2 fun k hk=>?_));cases hb:tb x k with
  | false=>rfl
  | true=>exact (hn ⟨k,hk,hb⟩).elim
 ·rintro ⟨k,_,hb⟩ e;rw [e,QR9] at hb;cases hb
theorem Qx8 (k:Nat):∃ m:Nat,(2:Int) ^ k=(m:Int)∧2 ^ k=m:=⟨2 ^ k,by simp,rfl⟩
theorem pow64:(2:Nat) ^ 64=18446744073709551616:=by decide
theorem pow_U {k:Nat} (hk:k<64):U64 ((2:Int) ^ k):=by
 have h1:(2:Nat) ^ k<2 ^ 64:=Nat.pow_lt_pow_right (by decide) hk;rw [pow64] at h1;obtain ⟨m,e,e'⟩:=Qx8 k;rw [e];unfold U64;omega
theorem tb_pow (k j:Nat):tb ((2:Int) ^ k) j=decide (k=j):=by
 have e:(2:Int) ^ k=((2 ^ k:Nat):Int):=by simp
 rw [tb,e,yna,Nat.testBit_two_pow]
def Q23 (p:Nat->Bool):Nat->Int
 | 0=>0
 | n+1=>bif p n then Q23 p n+2 ^ n else Q23 p n
theorem Qha (p:Nat->Bool):∀ n,0<=Q23 p n∧Q23 p n<2 ^ n
 | 0=>⟨by simp [Q23],by simp [Q23]⟩
 | n+1=>by
  have:=Qha p n;have e:(2:Int) ^ (n+1)=2*2 ^ n:=by rw [Int.pow_succ];omega
  rw [Q23];cases p n <;> simp only [cond_true,cond_false] <;> omega
theorem bitsUpto_U (p:Nat->Bool) {n:Nat} (hn:n<=64):U64 (Q23 p n):=by
 have:=Qha p n;have h1:(2:Nat) ^ n<=2 ^ 64:=yjc (by decide) hn;rw [pow64] at h1;obtain ⟨m,e,e'⟩:=Qx8 n;unfold U64;omega
theorem tb_upto (p:Nat->Bool):∀ n k,tb (Q23 p n) k=(decide (k<n)&&p k)
 | 0,k=>by simp [Q23,QR9]
 | n+1,k=>by
  have hl:=Qha p n;have ih:=tb_upto p n k;obtain ⟨m,e,e'⟩:=Qx8 n;have hlt:(Q23 p n).toNat<2 ^ n:=by omega
  rw [Q23];cases hp:p n with
  | false =>
   simp only [cond_false];rw [ih];rcases yob k n with h|h|h
   ·simp [h,Nat.lt_succ_of_lt h]
   ·subst h;simp [hp]
   ·simp [show ¬ k<n by omega,show ¬ k<n+1 by omega]
  | true =>
   simp only [cond_true];have et:(Q23 p n+2 ^ n).toNat=2 ^ n+(Q23 p n).toNat:=by omega
   unfold tb at ih ⊢;rw [et];rcases yob k n with h|h|h
   ·rw [Nat.testBit_two_pow_add_gt h,ih];simp [h,Nat.lt_succ_of_lt h]
   ·subst h;rw [Nat.testBit_two_pow_add_eq,y9b hlt];simp [hp]
   ·have:2 ^ n+(Q23 p n).toNat<2 ^ k:=by
     have:(2:Nat) ^ (n+1)<=2 ^ k:=yjc (by decide) h;rw [ysc] at this;omega
    rw [y9b this];simp [show ¬ k<n+1 by omega]
def idxL {α:Type} (f:Nat->α->Bool):List α->Nat->List Int
 | [],_=>[]
 | x :: r,i=>bif f i x then (i:Int) :: idxL f r (i+1) else idxL f r (i+1)
def hasB {α:Type} (f:Nat->α->Bool) (l:List α) (i k:Nat):Bool:=decide (i<=k)&&(match l[k - i]? with|some x=>f k x|none=>false)
theorem hasB_nil {α:Type} (f:Nat->α->Bool) (i k:Nat):hasB f [] i k=false:=by simp [hasB]
theorem hasB_cons {α:Type} (f:Nat->α->Bool) (x:α) (r:List α) (i k:Nat):hasB f (x :: r) i k=((decide (k=i)&&f i x)||hasB f r (i+1) k):=by
 unfold hasB;rcases yob k i with h|h|h
 ·simp [show ¬ i<=k by omega,show ¬ i+1<=k by omega,show ¬ k=i by omega]
 ·subst h;simp [show ¬ k+1<=k by omega]
 ·have e:k - i=(k - (i+1))+1:=by omega
  simp [show i<=k by omega,show i+1<=k by omega,show ¬ k=i by omega,e]
theorem hasB_zero {α:Type} (f:Nat->α->Bool) (d:α) (l:List α) (k:Nat):hasB f l 0 k=(decide (k<l.length)&&f k (l.getD k d)):=by
 unfold hasB;rcases yoa k l.length with h|h
 ·simp [h,List.getD]
 ·simp [Nat.not_lt.2 h,y8a h]
theorem Q1g {α:Type} (f:Nat->α->Bool) (G:List α->List Int->Nat->List Int) (h0:∀ out i,G [] out i=out) (h1:∀ x r out i,G (x :: r) out i=bif f i x then G r (out++[(i:Int)]) (i+1) else G r out (i+1)):∀ (l:List α) (out:List Int) (i:Nat),G l out i=out++idxL f l i
 | [],out,i=>by rw [h0,idxL,ySb]
 | x :: r,out,i=>by
  rw [h1,idxL];cases f i x with
  | true=>simp only [cond_true];rw [Q1g f G h0 h1 r];simp
  | false=>simp only [cond_false];exact Q1g f G h0 h1 r out (i+1)
end Go.Fw
namespace Go.Proofs.YtackngeeehiegaaGreatDoor
set_option linter.unusedSimpArgs false
set_option linter.unusedVariables false
open Go.Fw
theorem Q98 {k:Nat} (h:k<64):Q02 (k:Int)=(2:Int) ^ k:=by
 unfold Q02;have e:wu64 (k:Int)=(k:Int):=QG8 ⟨by omega,by omega⟩;rw [e,yna,ytc oA,Int.one_mul,QG8 (pow_U h)]
theorem and_one {s:Int} (hs:U64 s) {k:Nat} (hk:k<64):((wu64 (BitVec.ofInt 64 s &&& BitVec.ofInt 64 (Q02 (k:Int))).toNat)!=0)=tb s k:=by
 have hp:U64 ((2:Int) ^ k):=pow_U hk;rw [Q98 hk];cases hb:tb s k with
 | true =>
  refine (QPg (QJ8 _)).2 ⟨k,hk,?_⟩;rw [tb_and hs hp,hb,tb_pow];simp
 | false =>
  cases hx:((wu64 (BitVec.ofInt 64 s &&& BitVec.ofInt 64 ((2:Int) ^ k)).toNat)!=0) with
  | false=>rfl
  | true =>
   obtain ⟨j,hj,h⟩:=(QPg (QJ8 _)).1 hx;rw [tb_and hs hp,tb_pow] at h;simp only [yea,yfa] at h;rw [← h.2,hb] at h;cases h.1
theorem QA6 {s:Int} (hs:U64 s) (k:Nat):QV0 s (k:Int)=(decide (k<64)&&tb s k):=by
 unfold QV0;rcases yoa k 64 with h|h
 ·rw [and_one hs h];simp [h];omega
 ·have:¬ ((k:Int)<64):=by omega
  simp [this,Nat.not_lt.2 h]
theorem QI9 {α:Type} (f:Nat->α->Bool):∀ (l:List α) (i:Nat) (s:Int) (j:Nat),i+l.length<=64->U64 s->(∀ k,i<=k->tb s k=false) ->
  (Qg4 (idxL f l i) s j).2=0∧U64 (Qg4 (idxL f l i) s j).1 ∧ ∀ k,tb (Qg4 (idxL f l i) s j).1 k=(tb s k||hasB f l i k)
 | [],i,s,j,_,hs,_=>⟨rfl,hs,fun k=>by rw [hasB_nil,y5b];rfl⟩
 | x :: r,i,s,j,hl,hs,hf=>by
  simp only [yja] at hl;rw [idxL];cases hx:f i x with
  | false =>
   simp only [cond_false];obtain ⟨a,b,c⟩:=QI9 f r (i+1) s j oA hs (fun k hk=>hf k oA);exact ⟨a,b,fun k=>by rw [c,hasB_cons,hx];simp⟩
  | true =>
   simp only [cond_true];have hi:i<64:=by omega
   have hg:(((decide ((i:Int)<0))||(decide ((i:Int) >= 64)))||((wu64 (BitVec.ofInt 64 s &&& BitVec.ofInt 64 (Q02 (i:Int))).toNat)!=0))=false:=by
    rw [and_one hs hi,hf i (yla _)];simp;omega
   rw [Qg4,hg];simp only [cond_false];have hp:U64 ((2:Int) ^ i):=pow_U hi;have ht:∀ k,tb (wu64 (BitVec.ofInt 64 s ||| BitVec.ofInt 64 (Q02 (i:Int))).toNat) k=(tb s k||decide (i=k)):=fun k=>by
    rw [Q98 hi,tb_or hs hp,tb_pow]
   obtain ⟨a,b,c⟩:=QI9 f r (i+1) (wu64 (BitVec.ofInt 64 s ||| BitVec.ofInt 64 (Q02 (i:Int))).toNat) (j+1) oA (QJ8 _) (fun k hk=>by
    rw [ht,hf k oA];simp
    omega)
   refine ⟨a,b,fun k=>?_⟩;rw [c,ht,hasB_cons,hx,Bool.and_true,Bool.or_assoc]
   congr 2
   simp [eq_comm]
theorem set_where {α:Type} (f:Nat->α->Bool) (d:α) (l:List α) (hl:l.length<=64):U64 (QS0 (idxL f l 0)).1 ∧ ∀ k,tb (QS0 (idxL f l 0)).1 k=(decide (k<l.length)&&f k (l.getD k d)):=by
 obtain ⟨_,b,c⟩:=QI9 f l 0 0 0 oA .zero (fun k _=>QR9 k);exact ⟨b,fun k=>(c k).trans (by rw [QR9,y3a,hasB_zero f d])⟩
theorem Q74 (l:List Node) (is:Node->Bool) (hc:Q80 l=0) (hl:l.length<=64):U64 (Q71 l is) ∧ ∀ k,tb (Q71 l is) k=(decide (k<l.length)&&is (l.getD k zF)):=by
 have e:Q71 l is=(QS0 (idxL (fun _ x=>is x) l 0)).1:=by
  unfold Q71;rw [hc];show Q51 (QD3 is l [] 0)=_;rw [Q51,Q1g (fun _ x=>is x) (QD3 is) (fun _ _=>rfl) (fun _ _ _ _=>rfl),y9a]
 rw [e];exact set_where (fun _ x=>is x) zF l hl
theorem QOa {n:Nat} (h:n<=64):U64 (QZ3 (n:Int)) ∧ ∀ k,tb (QZ3 (n:Int)) k=decide (k<n):=by
 have low:∀ m:Nat,m<64->U64 (((2:Int) ^ m) - 1) ∧ ∀ k,tb (((2:Int) ^ m) - 1) k=decide (k<m):=by
  intro m hm;have hu:=pow_U hm;obtain ⟨q,e,e'⟩:=Qx8 m;have hq:0<q:=by rw [← e'];exact Nat.pow_pos (by decide)
  refine ⟨by unfold U64 at *;omega,fun k=>?_⟩;have:((2:Int) ^ m - 1).toNat=2 ^ m - 1:=by omega
  rw [tb,this,Nat.testBit_two_pow_sub_one]
 unfold QZ3;rcases yNa n with h0|h0
 ·subst h0;exact ⟨.zero,fun k=>by simp [QR9]⟩
 ·have h1:decide ((n:Int)<=0)=false:=yka oA;rw [h1];rcases yoa n 64 with h2|h2
  ·have h3:decide ((n:Int) >= 64)=false:=yka oA;rw [h3];simp only [cond_false];rw [Q98 h2,QG8 (low n h2).1];exact low n h2
  ·have h3:decide ((n:Int) >= 64)=true:=yga oA;rw [h3];obtain rfl:n=64:=by omega
   refine ⟨⟨by decide,by decide⟩,fun k=>?_⟩;show tb 18446744073709551615 k=_;have:(18446744073709551615:Int).toNat=2 ^ 64 - 1:=by decide
   rw [tb,this,Nat.testBit_two_pow_sub_one]
end Go.Proofs.YtackngeeehiegaaGreatDoor
namespace Go.Fw
set_option linter.unusedSimpArgs false
set_option linter.unusedVariables false
theorem Qsc {n c:Nat} (hn:n<18446744073709551616) (hc:c<18446744073709551616):wu64 ((BitVec.ofInt 64 (n:Int) &&& BitVec.ofInt 64 (c:Int)).toNat:Int)=((n &&& c:Nat):Int):=by
 have e:∀ m:Nat,m<18446744073709551616->(BitVec.ofInt 64 (m:Int)).toNat=m:=fun m hm=>by
  rw [yvc];omega
 rw [BitVec.toNat_and,e n hn,e c hc,QG8];have:=Nat.and_le_left (n:=n) (m:=c);unfold U64;omega
theorem Qie (n k:Nat) (hk:k<=64):Int.fdiv (n:Int) (2 ^ (min ((k:Int).toNat) 64))=((n / 2 ^ k:Nat):Int):=by
 rw [yna,ytc hk,Int.fdiv_eq_ediv_of_nonneg _ (by have:=Int.pow_pos (n:=2) (m:=k) (by decide);omega)];simp
theorem Qje {a b:Nat} (h:a+b<18446744073709551616):wu64 ((a:Int)+(b:Int))=((a+b:Nat):Int):=by
 rw [QG8]
 ·simp
 ·unfold U64;omega
theorem Qda {a c y m:Nat} (ha:a<256) (hc:c<256):(256*y+a) &&& (256*m+c)=256*(y &&& m)+(a &&& c):=by
 refine y2b fun k=>?_
 have e:∀ q r k,r<256->(256*q+r).testBit k=if k<8 then r.testBit k else q.testBit (k - 8):=fun q r k hr=>Nat.testBit_two_pow_mul_add (i:=8) q hr k
 have hac:a &&& c<256:=Nat.lt_of_le_of_lt Nat.and_le_left ha;rw [ywc,e y a k ha,e m c k hc,e _ _ k hac];split <;> simp [ywc]
def by8 (a b c d e f g h:Nat):Nat:=256*(256*(256*(256*(256*(256*(256*h+g)+f)+e)+d)+c)+b)+a
theorem and8 {a b c d e f g h:Nat} (k:Nat) (hk:k<256) (ha:a<256) (hb:b<256) (hc:c<256) (hd:d<256) (he:e<256) (hf:f<256) (hg:g<256) :
  by8 a b c d e f g h &&& by8 k k k k k k k k=by8 (a &&& k) (b &&& k) (c &&& k) (d &&& k) (e &&& k) (f &&& k) (g &&& k) (h &&& k):=by
 unfold by8;rw [Qda ha hk,Qda hb hk,Qda hc hk,Qda hd hk,Qda he hk,Qda hf hk,Qda hg hk]
def st1 (y:Nat):Nat:=(y &&& 170) / 2+(y &&& 85)
def st2 (y:Nat):Nat:=(y &&& 204) / 4+(y &&& 51)
def st3 (y : Nat) : Nat := (y + y / 16) % 16
def popN:Nat->Nat->Nat
 | 0,_=>0
 | k + 1, n => n % 2 + popN k (n / 2)
theorem pop8 : ∀ y, y < 256 -> st3 (st2 (st1 y)) = popN 8 y ∧ (y &&& 170) % 2 = 0 ∧ (st1 y &&& 204) % 4 = 0 ∧ st1 y < 256 ∧ st2 (st1 y) <= 68 := by decide +kernel
theorem popN_add:∀ (j k n:Nat),popN (j+k) n=popN j n+popN k (n / 2 ^ j)
 | 0,k,n=>by simp [popN]
 | j+1,k,n=>by
  rw [show j+1+k=(j+k)+1 by omega,popN,popN_add j k,popN,ysc,yqc (2 ^ j) 2,Nat.div_div_eq_div_mul];omega
theorem popN_low (q:Nat):∀ (j r:Nat),r<2 ^ j->popN j (2 ^ j*q+r)=popN j r
 | 0,r,_=>rfl
 | j+1,r,h=>by
  rw [popN,popN,ysc];rw [ysc] at h;have e1 : (2 ^ j * 2 * q + r) % 2 = r % 2 := by rw [Nat.mul_right_comm, yqc _ 2, Nat.mul_add_mod]
  have e2:(2 ^ j*2*q+r) / 2=2 ^ j*q+r / 2:=by rw [Nat.mul_right_comm,yqc _ 2,Nat.mul_add_div (by decide)]
  rw [e1,e2,popN_low q j (r / 2) oA]
theorem pop_by8 {a b c d e f g h:Nat} (ha:a<256) (hb:b<256) (hc:c<256) (hd:d<256) (he:e<256) (hf:f<256) (hg:g<256) (hh:h<256) :
  popN 64 (by8 a b c d e f g h)=popN 8 a+(popN 8 b+(popN 8 c+(popN 8 d+(popN 8 e+(popN 8 f+(popN 8 g+popN 8 h)))))):=by
 have step:∀ k q r,r<256->popN (8+k) (256*q+r)=popN 8 r+popN k q:=fun k q r hr=>by
  rw [popN_add,popN_low q 8 r hr]
  congr 2
  show (256*q+r) / 256=q;omega
 unfold by8;rw [show 64=8+(8+(8+(8+(8+(8+(8+8)))))) from rfl,step _ _ _ ha,step _ _ _ hb,step _ _ _ hc,step _ _ _ hd,step _ _ _ he,step _ _ _ hf,step _ _ _ hg]
theorem exists_by8 {n:Nat} (h:n<18446744073709551616):∃ a b c d e f g h,n=by8 a b c d e f g h∧a<256∧b<256∧c<256∧d<256∧e<256∧f<256∧g<256∧h<256:=by
 refine ⟨n % 256, n / 256 % 256, n / 65536 % 256, n / 16777216 % 256, n / 4294967296 % 256, n / 1099511627776 % 256, n / 281474976710656 % 256, n / 72057594037927936 % 256, ?_, ?_, ?_, ?_, ?_, ?_, ?_, ?_, ?_⟩
 ·unfold by8;omega
 all_goals omega
theorem shr_and (x m k:Nat):(x / 2 ^ k) &&& m=(x &&& (m*2 ^ k)) / 2 ^ k:=by
 rw [← ylc,← ylc,Nat.shiftRight_and_distrib,ylc (m*2 ^ k),Nat.mul_div_cancel _ (Nat.pow_pos (by decide))]
def sw1 (x:Nat):Nat:=((x / 2 ^ 1) &&& 6148914691236517205)+(x &&& 6148914691236517205)
def sw2 (x:Nat):Nat:=((x / 2 ^ 2) &&& 3689348814741910323)+(x &&& 3689348814741910323)
def sw3 (x:Nat):Nat:=(x / 2 ^ 4+x) &&& 1085102592571150095
theorem sw1_by8 {a b c d e f g h:Nat} (ha:a<256) (hb:b<256) (hc:c<256) (hd:d<256) (he:e<256) (hf:f<256) (hg:g<256) (hh:h<256) :
  sw1 (by8 a b c d e f g h)=by8 (st1 a) (st1 b) (st1 c) (st1 d) (st1 e) (st1 f) (st1 g) (st1 h):=by
 unfold sw1;rw [shr_and,show 6148914691236517205*2 ^ 1=by8 170 170 170 170 170 170 170 170 from rfl,show 6148914691236517205=by8 85 85 85 85 85 85 85 85 from rfl,and8 170 (by decide) ha hb hc hd he hf hg,and8 85 (by decide) ha hb hc hd he hf hg];have pa:=(pop8 a ha).2.1;have pb:=(pop8 b hb).2.1;have pc:=(pop8 c hc).2.1;have pd:=(pop8 d hd).2.1;have pe:=(pop8 e he).2.1;have pf:=(pop8 f hf).2.1;have pg:=(pop8 g hg).2.1;have ph:=(pop8 h hh).2.1;unfold by8 st1;omega
theorem sw2_by8 {a b c d e f g h : Nat} (ha : a < 256) (hb : b < 256) (hc : c < 256) (hd : d < 256) (he : e < 256) (hf : f < 256) (hg : g < 256) (ma : (a &&& 204) % 4 = 0) (mb : (b &&& 204) % 4 = 0) (mc : (c &&& 204) % 4 = 0) (md : (d &&& 204) % 4 = 0) (me : (e &&& 204) % 4 = 0) (mf : (f &&& 204) % 4 = 0) (mg : (g &&& 204) % 4 = 0) (mh : (h &&& 204) % 4 = 0) :
  sw2 (by8 a b c d e f g h)=by8 (st2 a) (st2 b) (st2 c) (st2 d) (st2 e) (st2 f) (st2 g) (st2 h):=by
 unfold sw2;rw [shr_and,show 3689348814741910323*2 ^ 2=by8 204 204 204 204 204 204 204 204 from rfl,show 3689348814741910323=by8 51 51 51 51 51 51 51 51 from rfl,and8 204 (by decide) ha hb hc hd he hf hg,and8 51 (by decide) ha hb hc hd he hf hg];unfold by8 st2;omega
theorem and15 (z : Nat) : z &&& 15 = z % 16 := Nat.and_two_pow_sub_one_eq_mod z 4
theorem sw3_by8 {a b c d e f g h : Nat} (ha : a <= 68) (hb : b <= 68) (hc : c <= 68) (hd : d <= 68) (he : e <= 68) (hf : f <= 68) (hg : g <= 68) (hh : h <= 68) (na : a % 16 <= 4) (nb : b % 16 <= 4) (nc : c % 16 <= 4) (nd : d % 16 <= 4) (ne : e % 16 <= 4) (nf : f % 16 <= 4) (ng : g % 16 <= 4) (nh : h % 16 <= 4) :
  sw3 (by8 a b c d e f g h)=by8 (st3 a) (st3 b) (st3 c) (st3 d) (st3 e) (st3 f) (st3 g) (st3 h):=by
 unfold sw3;have e0 : by8 a b c d e f g h / 2 ^ 4 + by8 a b c d e f g h = by8 (a + a / 16 + 16 * (b % 16)) (b + b / 16 + 16 * (c % 16)) (c + c / 16 + 16 * (d % 16)) (d + d / 16 + 16 * (e % 16)) (e + e / 16 + 16 * (f % 16)) (f + f / 16 + 16 * (g % 16)) (g + g / 16 + 16 * (h % 16)) (h + h / 16) := by
  unfold by8;omega
 rw [e0,show 1085102592571150095=by8 15 15 15 15 15 15 15 15 from rfl,and8 15 (by decide) oA oA oA oA oA oA oA];simp only [and15];unfold st3
 congr 1 <;> omega
theorem Qw9 : ∀ y, y < 256 -> st2 (st1 y) % 16 <= 4 ∧ st3 (st2 (st1 y)) <= 8 ∧ st2 (st1 y) < 256 ∧ st1 y < 256 := by decide +kernel
theorem sw_pop {n:Nat} (hn:n<18446744073709551616):∃ a b c d e f g h,sw3 (sw2 (sw1 n))=by8 a b c d e f g h∧a<=8∧b<=8∧c<=8∧d<=8∧e<=8∧f<=8∧g<=8∧h<=8∧popN 64 n=a+(b+(c+(d+(e+(f+(g+h)))))):=by
 obtain ⟨a,b,c,d,e,f,g,h,rfl,ha,hb,hc,hd,he,hf,hg,hh⟩:=exists_by8 hn;have A:=pop8 a ha;have B:=pop8 b hb;have C:=pop8 c hc;have D:=pop8 d hd;have E:=pop8 e he;have F:=pop8 f hf;have G:=pop8 g hg;have H:=pop8 h hh;have A':=Qw9 a ha;have B':=Qw9 b hb;have C':=Qw9 c hc;have D':=Qw9 d hd;have E':=Qw9 e he;have F':=Qw9 f hf;have G':=Qw9 g hg;have H':=Qw9 h hh
 rw [sw1_by8 ha hb hc hd he hf hg hh,sw2_by8 A'.2.2.2 B'.2.2.2 C'.2.2.2 D'.2.2.2 E'.2.2.2 F'.2.2.2 G'.2.2.2 A.2.2.1 B.2.2.1 C.2.2.1 D.2.2.1 E.2.2.1 F.2.2.1 G.2.2.1 H.2.2.1,
  sw3_by8 A.2.2.2.2 B.2.2.2.2 C.2.2.2.2 D.2.2.2.2 E.2.2.2.2 F.2.2.2.2 G.2.2.2.2 H.2.2.2.2 A'.1 B'.1 C'.1 D'.1 E'.1 F'.1 G'.1 H'.1,pop_by8 ha hb hc hd he hf hg hh]
 refine ⟨_,_,_,_,_,_,_,_,rfl,A'.2.1,B'.2.1,C'.2.1,D'.2.1,E'.2.1,F'.2.1,G'.2.1,H'.2.1,?_⟩;rw [A.1,B.1,C.1,D.1,E.1,F.1,G.1,H.1]
theorem Qgc {a b c d e f g h:Nat} (ha:a<256):by8 a b c d e f g h / 256=by8 b c d e f g h 0:=by
 unfold by8;omega
theorem by8_add (a b c d e f g h a' b' c' d' e' f' g' h':Nat):by8 a b c d e f g h+by8 a' b' c' d' e' f' g' h'=by8 (a+a') (b+b') (c+c') (d+d') (e+e') (f+f') (g+g') (h+h'):=by
 unfold by8;omega
theorem by8_lt {a b c d e f g h:Nat} (ha:a<=64) (hb:b<=64) (hc:c<=64) (hd:d<=64) (he:e<=64) (hf:f<=64) (hg:g<=64) (hh:h<=64):by8 a b c d e f g h<9223372036854775808:=by
 unfold by8;omega
theorem by8_mod {a b c d e f g h : Nat} (ha : a < 128) : by8 a b c d e f g h % 128 = a := by
 unfold by8;generalize 256*(256*(256*(256*(256*(256*h+g)+f)+e)+d)+c)+b=q;omega
theorem sum_low {a b c d e f g h:Nat} (ha:a<=8) (hb:b<=8) (hc:c<=8) (hd:d<=8) (he:e<=8) (hf:f<=8) (hg:g<=8) (hh:h<=8) (x4 x5 x6:Nat) (h4:x4=by8 a b c d e f g h+by8 a b c d e f g h / 256) (h5:x5=x4+x4 / 65536) (h6:x6=x5+x5 / 4294967296) :
  x6 % 128 = a + (b + (c + (d + (e + (f + (g + h)))))) ∧ x4 < 9223372036854775808 ∧ x5 < 9223372036854775808 ∧ x6 < 9223372036854775808 := by
 have d2:∀ x,x / 65536=x / 256 / 256:=fun x=>by omega
 have d4:∀ x,x / 4294967296=x / 256 / 256 / 256 / 256:=fun x=>by omega
 have e4:x4=by8 (a+b) (b+c) (c+d) (d+e) (e+f) (f+g) (g+h) (h+0):=by rw [h4,Qgc oA,by8_add]
 have e5:x5=by8 (a+b+(c+d)) (b+c+(d+e)) (c+d+(e+f)) (d+e+(f+g)) (e+f+(g+h)) (f+g+(h+0)) (g+h+0) (h+0+0):=by
  rw [h5,d2,e4,Qgc oA,Qgc oA,by8_add]
 have e6:x6=by8 (a+b+(c+d)+(e+f+(g+h))) (b+c+(d+e)+(f+g+(h+0))) (c+d+(e+f)+(g+h+0)) (d+e+(f+g)+(h+0+0)) (e+f+(g+h)+0) (f+g+(h+0)+0) (g+h+0+0) (h+0+0+0):=by
  rw [h6,d4,e5,Qgc oA,Qgc oA,Qgc oA,Qgc oA,by8_add]
 refine ⟨?_,?_,?_,?_⟩
 ·rw [e6,by8_mod oA];omega
 ·rw [e4];exact by8_lt oA oA oA oA oA oA oA oA
 ·rw [e5];exact by8_lt oA oA oA oA oA oA oA oA
 ·rw [e6];exact by8_lt oA oA oA oA oA oA oA oA
end Go.Fw
namespace Go.Proofs.YtackngeeehiegaaGreatDoor
set_option linter.unusedSimpArgs false
set_option linter.unusedVariables false
open Go.Fw
theorem same_go {α:Type} (d:α) (b:List α) (e:α->α->Bool) (he:∀ x y,e x y=true ↔ x=y) (G:List α->Nat->Bool) (h0:∀ i,G [] i=true) (h1:∀ x r i,G (x :: r) i=bif !(e x (b.getD i d)) then false else G r (i+1)) :
  ∀ (l:List α) (i:Nat),i+l.length=b.length->(G l i=true ↔ l=b.drop i)
 | [],i,h=>by
  rw [h0,Qd0 (by simp at h;omega)];simp
 | x :: r,i,h=>by
  have hi:i<b.length:=by simp at h;omega
  rw [h1,Qa0 d hi];cases hx:e x (b.getD i d) with
  | false =>
   have hne:x ≠ b.getD i d:=fun hq=>by rw [(he _ _).2 hq] at hx;cases hx
   simp only [yJb,cond_true];exact ⟨fun h=>(nomatch h),fun h=>absurd (List.cons.inj h).1 hne⟩
  | true =>
   have hq:=(he _ _).1 hx;have:=same_go d b e he G h0 h1 r (i+1) (by simp at h ⊢;omega);simp only [yib,cond_false];rw [this,hq];simp
theorem QD7 {α:Type} (d:α) (a b:List α) (e:α->α->Bool) (he:∀ x y,e x y=true ↔ x=y) (G:List α->Nat->Bool) (h0:∀ i,G [] i=true) (h1:∀ x r i,G (x :: r) i=bif !(e x (b.getD i d)) then false else G r (i+1)) :
  (bif ((a.length:Int)!=(b.length:Int)) then false else G a 0)=true ↔ a=b:=by
 cases hl:((a.length:Int)!=(b.length:Int)) with
 | true =>
  have:(a.length:Int) ≠ (b.length:Int):=by simpa using hl
  simp only [cond_true];refine ⟨fun h=>(nomatch h),fun h=>?_⟩;subst h;exact absurd rfl this
 | false =>
  have h:(a.length:Int)=(b.length:Int):=by simpa using hl
  simp only [cond_false];have:=same_go d b e he G h0 h1 a 0 oA;simpa using this
theorem QTc (a b:ByteArray):(ByteArray.toList a==ByteArray.toList b)=true ↔ a=b:=by
 rw [beq_iff_eq,ByteArray.toList_eq,ByteArray.toList_eq];refine ⟨fun h=>?_,fun h=>by rw [h]⟩;exact ByteArray.ext (Array.toList_inj.1 h)
theorem bytes_inj2 (a b:ByteArray):ByteArray.toList a=ByteArray.toList b ↔ a=b:=by
 rw [← QTc,beq_iff_eq]
theorem bytes_beq (a b:ByteArray):(a==b)=true ↔ a=b:=by
 cases a with|mk a=>cases b with|mk b =>
 show (a==b)=true ↔ ByteArray.mk a=ByteArray.mk b;simp
theorem equal_Alt (a b:List Alt):QP6 a b=true ↔ a=b :=
 QD7 zA a b (fun x y=>((x.nodes==y.nodes)&&(x.wall==y.wall))) (fun x y=>by cases x;cases y;simp) (Qn5 b) (fun _=>rfl) (fun _ _ _=>rfl)
theorem equal_Dep (a b:List Dep):QQ6 a b=true ↔ a=b :=
 QD7 zC a b (fun x y=>((x.how==y.how)&&(x.job==y.job))) (fun x y=>by cases x;cases y;simp) (Qo5 b) (fun _=>rfl) (fun _ _ _=>rfl)
theorem shape_same (a b:Shape):Qaa a b=true ↔ a=b:=by
 cases a;cases b;simp only [Qaa,yea,beq_iff_eq,equal_Alt,Shape.mk.injEq]
 grind
theorem ref12_same (a b:List Node):QNb a b=true ↔ a=b :=
 QD7 zF a b (fun x y=>((x.state==y.state)&&((x.job==y.job)&&((x.epoch==y.epoch)&&((x.drain==y.drain)&&((x.want==y.want)&&((x.since==y.since)&&(x.asked==y.asked)))))))) (fun x y=>by cases x;cases y;simp) (QV8 b) (fun _=>rfl) (fun _ _ _=>rfl)
theorem ref19_same (a b:List Book):QQb a b=true ↔ a=b :=
 QD7 zI a b (fun x y=>((x.id==y.id)&&((x.from_==y.from_)&&((x.to==y.to)&&(x.nodes==y.nodes))))) (fun x y=>by cases x;cases y;simp) (QX8 b) (fun _=>rfl) (fun _ _ _=>rfl)
theorem Qne (a b:List Resize):Qv6 a b=true ↔ a=b :=
 QD7 zH a b (fun x y=>((x.job==y.job)&&((x.grow==y.grow)&&((x.nodes==y.nodes)&&((x.said==y.said)&&(x.since==y.since)))))) (fun x y=>by cases x;cases y;simp) (QK4 b) (fun _=>rfl) (fun _ _ _=>rfl)
theorem ref17_same (a b:List Usage):QPb a b=true ↔ a=b :=
 QD7 zJ a b (fun x y=>!((((!(ByteArray.toList x.user==ByteArray.toList y.user))||(!(ByteArray.toList x.account==ByteArray.toList y.account)))||(x.used != y.used))||(x.share != y.share)))
  (fun x y=>by
   have b1:=QTc x.user y.user;have b2:=QTc x.account y.account;cases x;cases y;simp only at b1 b2;simp only [y4a,yXa,yyb,b1,b2,bne_eq_false_iff_eq,Usage.mk.injEq]
   grind) (Qz7 b) (fun _=>rfl) (fun _ _ _=>by rw [Qz7,Bool.not_not])
theorem ref07_sameAlts (a b:List Alt):Qa8 a b=true ↔ a=b :=
 QD7 zA a b (fun x y=>!((x.nodes != y.nodes)||(x.wall != y.wall))) (fun x y=>by cases x;cases y;simp) (QX4 b) (fun _=>rfl) (fun _ _ _=>by rw [QX4,Bool.not_not])
theorem ref07_same (a b:Shape):QU7 a b=true ↔ a=b:=by
 cases a;cases b;simp only [QU7,yea,beq_iff_eq,ref07_sameAlts,Shape.mk.injEq]
 grind
theorem Qyd (a b:Job):∀ (l:List Dep) (i:Nat),i+l.length=b.after.length->(ref14_Same_g1 a b l i=true ↔ (l=b.after.drop i∧ref14_Same_g1 a b [] 0=true))
 | [],i,h=>by
  rw [Qd0 (by simp at h;omega)];simp [ref14_Same_g1]
 | x :: r,i,h=>by
  have hi:i<b.after.length:=by simp at h;omega
  rw [ref14_Same_g1.eq_2,Qa0 zC hi];have ih:=Qyd a b r (i+1) (by simp at h ⊢;omega);cases hx:((x.how==(b.after.getD i zC).how)&&(x.job==(b.after.getD i zC).job)) with
  | false =>
   have hne:x ≠ b.after.getD i zC:=fun hq=>by rw [hq] at hx;simp at hx
   simp only [yJb,cond_true];exact ⟨fun h=>(nomatch h),fun h=>absurd (List.cons.inj h.1).1 hne⟩
  | true =>
   have hq:x=b.after.getD i zC:=by
    revert hx;cases x;cases (b.after.getD i zC);simp
   simp only [yib,cond_false];rw [ih,hq];simp
theorem ref14_same (a b:Job):Q39 a b=true ↔ a=b:=by
 unfold Q39;cases hl:((a.after.length:Int)!=(b.after.length:Int)) with
 | true =>
  have:(a.after.length:Int) ≠ (b.after.length:Int):=by simpa using hl
  simp only [yrc,cond_true];exact ⟨fun h=>(nomatch h),fun h=>absurd (by rw [h]) this⟩
 | false =>
  have hl':(a.after.length:Int)=(b.after.length:Int):=by simpa using hl
  cases h1:QU7 a.shape b.shape with
  | false =>
   have:a.shape ≠ b.shape:=fun h=>by rw [(ref07_same _ _).2 h] at h1;cases h1
   simp only [yJb,Bool.or_true,cond_true];exact ⟨fun h=>(nomatch h),fun h=>absurd (by rw [h]) this⟩
  | true =>
   have e1:=(ref07_same _ _).1 h1;simp only [yib,y5b,cond_false];rw [Qyd a b a.after 0 oA];simp only [ref14_Same_g1,yqb,yea,beq_iff_eq,bytes_inj2];cases a;cases b;simp only at e1;simp only [Job.mk.injEq]
   grind
theorem ref15_same (a b:List Job):QOb a b=true ↔ a=b :=
 QD7 zG a b Q39 ref14_same (QW8 b) (fun _=>rfl) (fun _ _ _=>rfl)
theorem ref25_same (a b:State):Q5a a b=true ↔ a=b:=by
 cases a;cases b;simp only [Q5a,yea,beq_iff_eq,ref12_same,ref15_same,Qne,ref19_same,ref17_same,State.mk.injEq]
 grind
theorem Qq5 {s:State} (h:QL2 s=0):Q80 s.nodes=0∧QK1 s.jobs=0:=by
 unfold QL2 at h;cases h1:(QH1 s != 0) with
 | true=>rw [h1] at h;cases h
 | false =>
  have hr:QH1 s=0:=by simpa using h1
  unfold QH1 at hr;cases h2:(((((decide (s.now<0))||(decide (s.now > 1000000)))||((Q80 s.nodes)!=0))||((QK1 s.jobs)!=0))||((Qh6 s.books)!=0)) with
  | true=>rw [h2] at hr;cases hr
  | false =>
   obtain ⟨h3,_⟩:=or_f h2;obtain ⟨h4,h5⟩:=or_f h3;obtain ⟨_,h6⟩:=or_f h4;exact ⟨by simpa using h6,by simpa using h5⟩
theorem check_held (s:State) (a b:Int) (c:List (Int × Job)):∀ (l:List Resize) (i:Nat) (c2:List (Int × Resize)),QT1 s a b c l i c2=0 ->
  c.all (fun (en:Int × Job)=>(bif ((Qj3 s.nodes en.1)!=en.2.nodes) then false else true))=true
 | [],i,c2,h=>by
  rw [QT1] at h;cases h1:((((!true)||(!(Qp1 s.nextJob a)))||(!(Qp1 s.nextBook b)))||(!(Qo3 s c c2))) with
  | true=>rw [h1] at h;cases h
  | false =>
   rw [h1] at h;simp only [cond_false] at h;cases h2:c.all (fun (en:Int × Job)=>(bif ((Qj3 s.nodes en.1)!=en.2.nodes) then false else true)) with
   | true=>rfl
   | false=>rw [h2] at h;cases h
 | x :: r,i,c2,h=>by
  rw [QT1] at h;cases h1:(((!(getM x.job c).isSome)||((decide ((i:Int) > 0))&&(decide ((s.resizes.getD ((w64 ((i:Int) - 1)).toNat) zH).job >= x.job))))||(!(QO3 s x ((getM x.job c).getD zG)))) with
  | true=>rw [h1] at h;cases h
  | false =>
   rw [h1] at h;exact check_held s a b c r (i+1) _ h
theorem setM_mem {α β:Type} [BEq α] [LawfulBEq α] (k:α) (v:β):∀ l:List (α × β),(k,v) ∈ setM k v l
 | []=>by simp [setM]
 | p :: r=>by
  rw [setM];cases hk:k==p.1 with
  | true=>simp
  | false=>simp [setM_mem k v r]
theorem setM_keep {α β:Type} [BEq α] [LawfulBEq α] (k k':α) (v v':β) (hne:k ≠ k'):∀ l:List (α × β),(k,v) ∈ l->(k,v) ∈ setM k' v' l
 | [],h=>nomatch h
 | p :: r,h=>by
  rw [setM];cases hk:k'==p.1 with
  | true =>
   have e:=eq_of_beq hk;rcases List.mem_cons.1 h with h|h
   ·exact absurd (by rw [e,← h]) hne
   ·exact yha _ h
  | false =>
   rcases List.mem_cons.1 h with h|h
   ·rw [← h];exact yqa ..
   ·exact yha _ (setM_keep k k' v v' hne r h)
theorem Q07 (x:Job):∀ (l:List Job) (i:Nat) (c:List (Int × Job)),((x.id,x) ∈ c∧(∀ y ∈ l,y.id ≠ x.id))∨(x ∈ l∧x.state=2∧l.Pairwise (fun a b=>a.id<b.id))->(x.id,x) ∈ Qy0 l i c
 | [],i,c,h=>by
  rcases h with ⟨h,_⟩|⟨h,_⟩
  ·exact h
  ·exact nomatch h
 | y :: r,i,c,h=>by
  rw [Qy0];rcases h with ⟨h,hn⟩|⟨h,hs,hp⟩
  ·have hy:=hn y (yqa ..);cases (y.state==2) with
   | true=>exact Q07 x r (i+1) _ (.inl ⟨setM_keep _ _ _ _ (Ne.symm hy) c h,fun z hz=>hn z (yha _ hz)⟩)
   | false=>exact Q07 x r (i+1) _ (.inl ⟨h,fun z hz=>hn z (yha _ hz)⟩)
  ·obtain ⟨h1,h2⟩:=List.pairwise_cons.1 hp;rcases List.mem_cons.1 h with rfl|h
   ·rw [beq_iff_eq.2 hs];exact Q07 x r (i+1) _ (.inl ⟨setM_mem _ _ c,fun z hz=>by have:=h1 z hz;omega⟩)
   ·cases (y.state==2) with
    | true=>exact Q07 x r (i+1) _ (.inr ⟨h,hs,h2⟩)
    | false=>exact Q07 x r (i+1) _ (.inr ⟨h,hs,h2⟩)
theorem table_rows (l:List Job) (hn:l.length<=40):∀ (r:List Job) (i:Nat),r=l.drop i->i+r.length=l.length->QQ5 l r i=0 ->
  (∀ x ∈ r,Qe1 x=0)∧r.Pairwise (fun a b=>a.id<b.id)∧(∀ y,0<i->l[i - 1]? = some y -> ∀ x ∈ r,y.id<x.id)
 | [],i,_,_,_=>⟨fun x hx=>(nomatch hx),.nil,fun _ _ _ x hx=>(nomatch hx)⟩
 | x :: r,i,hr,hlen,h=>by
  simp only [yja] at hlen;rw [QQ5] at h;cases h1:(((Qe1 x)!=0)||((decide ((i:Int) > 0))&&(decide ((l.getD ((w64 ((i:Int) - 1)).toNat) zG).id >= x.id)))) with
  | true=>rw [h1] at h;cases h
  | false =>
   rw [h1] at h;obtain ⟨h2,h3⟩:=or_f h1;have hx:Qe1 x=0:=by simpa using h2
   have hi:l[i]? = some x:=by
    have:=congrArg (fun q=>q[0]?) hr;simpa [yFa] using this.symm
   have hr':r=l.drop (i+1):=by rw [← yub,← hr];rfl
   obtain ⟨ih1,ih2,ih3⟩:=table_rows l hn r (i+1) hr' oA h;have hxr:∀ z ∈ r,x.id<z.id:=ih3 x oA hi;refine ⟨fun z hz=>?_,List.pairwise_cons.2 ⟨hxr,ih2⟩,fun y hi0 hy z hz=>?_⟩
   ·rcases List.mem_cons.1 hz with rfl|hz
    ·exact hx
    ·exact ih1 z hz
   ·have hyx:y.id<x.id:=by
     have hw:w64 ((i:Int) - 1)=(i:Int) - 1:=wr oA;have ht:((i:Int) - 1).toNat=i - 1:=by omega
     have hg:l.getD (i - 1) zG=y:=by simp [List.getD,hy]
     rw [hw,ht,hg] at h3;simp at h3;omega
    rcases List.mem_cons.1 hz with rfl|hz
    ·exact hyx
    ·exact Int.lt_trans hyx (hxr z hz)
theorem QO7 {j:Job} (h:Qe1 j=0):1<=j.id∧j.id<=99999:=by
 unfold Qe1 at h;cases h1:((((((decide (j.id<1))||(decide (j.id > 99999)))||(!(Qw2 j.born)))||(j.used != (Q25 j.used)))||((QM4 (Qq0 j))!=0))||(Qt0 j.after (fun (y:Dep)=>(decide (y.job >= j.id))))) with
 | true=>rw [h1] at h;cases h
 | false =>
  obtain ⟨h2,_⟩:=or_f h1;obtain ⟨h3,_⟩:=or_f h2;obtain ⟨h4,_⟩:=or_f h3;obtain ⟨h5,_⟩:=or_f h4;simp at h5;omega
theorem job_runs {j:Job} (h:Qe1 j=0) (hs:j.state=2):Qh3 j.shape j.choice (Q10 j.nodes)=true:=by
 unfold Qe1 at h;cases h1:((((((decide (j.id<1))||(decide (j.id > 99999)))||(!(Qw2 j.born)))||(j.used != (Q25 j.used)))||((QM4 (Qq0 j))!=0))||(Qt0 j.after (fun (y:Dep)=>(decide (y.job >= j.id))))) with
 | true=>rw [h1] at h;cases h
 | false =>
  rw [h1,hs] at h;cases h2:Qr1 j with
  | false=>rw [h2] at h;cases h
  | true =>
   unfold Qr1 at h2;revert h2;cases (((((((!(QM0 j j.choice).2)||j.held)||(!(Qw2 j.start)))||(!(Qw2 j.promise)))||(decide (j.promise<j.start)))||(!(Qw2 j.limit)))||((w64 (j.limit - j.start))!=(QM0 j j.choice).1.wall)) with
   | true=>intro h2;cases h2
   | false =>
    intro h2;simp only [cond_false,yea] at h2;exact h2.2
theorem Qa7 {l:List Job} (h:l.Pairwise (fun a b=>a.id<b.id)):∀ (a b:Nat) (x y:Job),a<b->l[a]? = some x->l[b]? = some y->x.id<y.id:=by
 intro a b x y hab ha hb;obtain ⟨ha1,rfl⟩:=List.getElem?_eq_some_iff.1 ha;obtain ⟨hb1,rfl⟩:=List.getElem?_eq_some_iff.1 hb;exact List.pairwise_iff_getElem.1 h a b ha1 hb1 hab
theorem QG4 {l:List Job} (h:QK1 l=0):l.length<=40∧(∀ x ∈ l,Qe1 x=0)∧l.Pairwise (fun a b=>a.id<b.id):=by
 unfold QK1 at h;cases h1:(decide ((l.length:Int) > 40)) with
 | true=>rw [h1] at h;cases h
 | false =>
  rw [h1] at h;have h2:=yca h1;obtain ⟨a,b,_⟩:=table_rows l oA l 0 (by simp) oA h;exact ⟨by omega,a,b⟩
section
variable {s:State}
theorem check_parts (h:Qz0 s=0):QL2 s=0 ∧ ∀ x ∈ s.jobs,x.state=2->Qj3 s.nodes x.id=x.nodes:=by
 have h0:=h;unfold Qz0 at h;cases h1:(QL2 s != 0) with
 | true=>rw [h1] at h;cases h
 | false =>
  rw [h1] at h;have hp:QL2 s=0:=by simpa using h1
  refine ⟨hp,fun x hx hs=>?_⟩;obtain ⟨_,_,ho⟩:=QG4 (Qq5 hp).2;have hall:=check_held s _ _ _ _ _ _ h;have hm:=Q07 x s.jobs 0 [] (.inr ⟨hx,hs,ho⟩);have:=List.all_eq_true.1 hall _ hm;simp only at this;cases hq:(Qj3 s.nodes x.id != x.nodes) with
  | false=>simpa using hq
  | true=>rw [hq] at this;cases this
end
theorem QKd (l:List Job) (id:Int) (hn:l.length<=40) (hid:1<=id∧id<=99999) (hb:∀ y ∈ l,1<=y.id∧y.id<=99999) (hs:∀ (a b:Nat) (x y:Job),a<b->l[a]? = some x->l[b]? = some y->x.id<y.id) (p:Nat) (x:Job) (hp:l[p]? = some x) (hx:x.id=id) :
  ∀ (m:Nat) (i j:Int),(j - i).toNat<m->0<=i->i<=(p:Int)->(p:Int)<=j->j<=(l.length:Int)->(∀ k:Nat,j<=(k:Int) -> ∀ y,l[k]? = some y->id<=y.id) ->
   (Qs0 l id (fun (y:Job) (y1:Int)=>(w64 (y.id - y1))) m i j).1=(p:Int)
 | 0,i,j,hm,_,_,_,_,_=>absurd hm oA
 | m+1,i,j,hm,h0,h1,h2,h3,h4=>by
  have hpl:p<l.length:=(List.getElem?_eq_some_iff.1 hp).1;rw [Qs0];cases hd:decide (i<j) with
  | false =>
   have:=yca hd;show i=(p:Int);omega
  | true =>
   have hlt:=yda hd;rw [Q9b h0 hlt h3 oA];simp only [cond_true];obtain ⟨q,hq⟩:∃ q:Nat,(i+j) / 2=(q:Int):=⟨((i+j) / 2).toNat,by omega⟩;rw [hq];have hql:q<l.length:=by omega
   have hy:l[q]? = some l[q]:=yaa hql;have hyd:l.getD ((q:Int).toNat) zG=l[q]:=by simp [List.getD,hy]
   have hyb:=hb l[q] (yZa hql);rw [hyd];have hw:w64 ((l[q]).id - id)=(l[q]).id - id:=wr oA;rw [hw];cases hc:decide ((l[q]).id - id<0) with
   | true =>
    have hc':=yda hc;have hw2:w64 ((q:Int)+1)=(q:Int)+1:=wr oA;simp only [cond_true];rw [hw2];refine QKd l id hn hid hb hs p x hp hx m _ _ oA oA ?_ h2 h3 h4;rcases yoa q p with h|h
    ·omega
    ·rcases yzb h with h|h
     ·subst h;rw [hy] at hp;cases hp;omega
     ·have:=hs p q x _ h hp hy;omega
   | false =>
    have hc':=yca hc;simp only [cond_false];refine QKd l id hn hid hb hs p x hp hx m _ _ oA h0 h1 ?_ oA ?_
    ·rcases yoa q p with h|h
     ·have:=hs q p _ x h hy hp;omega
     ·omega
    ·intro k hk y hky;rcases yzb (show q<=k by omega) with h|h
     ·subst h;rw [hy] at hky;cases hky;omega
     ·have:=hs q k _ y h hy hky;omega
theorem QUd {l:List Job} (h:QK1 l=0) {p:Nat} {x:Job} (hp:l[p]? = some x):QU0 l x.id=(x,true):=by
 obtain ⟨hn,hj,hs⟩:=QG4 h;have hb:∀ y ∈ l,1<=y.id∧y.id<=99999:=fun y hy=>QO7 (hj y hy)
 have hx:=hb x (yKa hp);have hpl:p<l.length:=(List.getElem?_eq_some_iff.1 hp).1
 have hpi:(Qk0 l x.id).1=(p:Int) :=
  QKd l x.id hn hx hb (Qa7 hs) p x hp rfl _ 0 (l.length:Int) oA oA oA oA oA (fun k hk y hy=>absurd (List.getElem?_eq_some_iff.1 hy).1 oA)
 have hp2:(Qk0 l x.id).2=true:=by
  have e:(Qk0 l x.id).2=((decide ((Qk0 l x.id).1<(l.length:Int)))&&((w64 ((l.getD (Int.toNat (Qk0 l x.id).1) zG).id - x.id))==0)):=rfl;rw [e,hpi,yna];have hg:l.getD p zG=x:=by simp [List.getD,hp]
  rw [hg,Int.sub_self];have h1:decide ((p:Int)<(l.length:Int))=true:=yga oA;rw [h1]
  rfl
 unfold QU0;rw [h,hp2,hpi];have hk:Qf6 x.id=true:=by unfold Qf6;simp;omega
 rw [hk];have hw:w64 ((p:Int)+1)=(p:Int)+1:=wr oA;have ht:((p:Int)+1).toNat=p+1:=by omega
 rw [hw,ht,yna];show ((List.drop p (List.take (p+1) l)).getD 0 zG,true)=(x,true);have:(List.drop p (List.take (p+1) l)).getD 0 zG=x:=by
  simp [List.getD,yFa,yQa,hp]
 rw [this]
section
variable {s:State}
end
theorem Q2d {l:List Job} (h:QK1 l=0) (id:Int) (hid:∀ x ∈ l,x.id ≠ id):(QU0 l id).2=false:=by
 obtain ⟨hn,hj,_⟩:=QG4 h;unfold QU0;rw [h];cases hk:Qf6 id with
 | false=>rfl
 | true =>
  unfold Qf6 at hk;simp only [yea,yfa] at hk;cases hp:(Qk0 l id).2 with
  | false=>rfl
  | true =>
   exfalso;obtain ⟨h0,h1⟩:=QH4 l id oA (by rw [hp];rfl);have e:(Qk0 l id).2=((decide ((Qk0 l id).1<(l.length:Int)))&&((w64 ((l.getD (Int.toNat (Qk0 l id).1) zG).id - id))==0)):=rfl;rw [hp] at e;have e:=e.symm;simp only [yea,beq_iff_eq] at e;have hm:l.getD (Int.toNat (Qk0 l id).1) zG ∈ l:=by
    rw [List.getD,yaa (show Int.toNat (Qk0 l id).1<l.length by omega)];exact yZa _
   have hb:=QO7 (hj _ hm);have hw:w64 ((l.getD (Int.toNat (Qk0 l id).1) zG).id - id)=(l.getD (Int.toNat (Qk0 l id).1) zG).id - id:=wr oA;rw [hw] at e;exact hid _ hm oA
theorem QZ9 {α:Type} (f:α->Bool) (G:List α->Nat->Int) (h0:∀ i,G [] i = -1) (h1:∀ x r i,G (x :: r) i=bif f x then (i:Int) else G r (i+1)):∀ (l:List α) (i:Nat),decide (G l i >= 0)=l.any f
 | [],i=>by rw [h0];rfl
 | x :: r,i=>by
  rw [h1,y6b];cases f x with
  | true=>simp
  | false=>simpa using QZ9 f G h0 h1 r (i+1)
theorem QWf (l:List Node) (f:Node->Bool):QI0 l f=l.any f:=QZ9 f _ (fun _=>rfl) (fun _ _ _=>rfl) l 0
theorem any_Alt (l:List Alt) (f:Alt->Bool):QY0 l f=l.any f:=QZ9 f _ (fun _=>rfl) (fun _ _ _=>rfl) l 0
theorem any_Dep (l:List Dep) (f:Dep->Bool):Qt0 l f=l.any f:=QZ9 f _ (fun _=>rfl) (fun _ _ _=>rfl) l 0
theorem QYa (l:List Int) (v:Int):QJ1 l v=l.any (fun x=>v==x):=QZ9 (fun x=>v==x) _ (fun _=>rfl) (fun _ _ _=>rfl) l 0
theorem fine_eq (x:Node):QR0 x=QY4 x:=by
 unfold QR0 QY4;simp only [QYa,QP3,y6b,List.any_nil];obtain ⟨st,jb,ep,dr,wa,si,as_⟩:=x;dsimp only
 by_cases h0:st=0
 ·subst h0;grind
 by_cases h1:st=1
 ·subst h1;grind
 by_cases h2:st=2
 ·subst h2;grind
 by_cases h3:st=3
 ·subst h3;grind
 by_cases h4:st=4
 ·subst h4;grind
 grind
theorem loop_all {α:Type} (f:α->Bool) (e:Int) (he:e ≠ 0) (G:List α->Nat->Int) (h0:∀ i,G [] i=0) (h1:∀ x r i,G (x :: r) i=bif !(f x) then e else G r (i+1)):∀ (l:List α) (i:Nat),G l i=bif l.any (fun x=>!(f x)) then e else 0
 | [],i=>h0 i
 | x :: r,i=>by
  rw [h1,y6b];cases f x with
  | true=>simpa using loop_all f e he G h0 h1 r (i+1)
  | false=>rfl
theorem Qo4 (l:List Node):Q80 l=Q72 l:=by
 unfold Q80 Q72;rw [QWf,loop_all QY4 120 (by decide) Qe8 (fun _=>rfl) (fun _ _ _=>rfl)];have e:(fun y=>!(QR0 y))=(fun y=>!(QY4 y)):=by funext y;rw [fine_eq]
 rw [e];have e2:decide ((l.length:Int)<1)=((l.length:Int)==0):=by
  rw [yMa];simp only [yfa,beq_iff_eq];omega
 rw [e2];cases ((l.length:Int)==0) <;> cases (decide ((l.length:Int) > 48)) <;> cases l.any (fun y=>!(QY4 y)) <;> rfl
theorem ord_eq {α:Type} (d:α) (key:α->Int) (bad:α->Bool) (e:Int) (N:Nat) (l:List α) (hl:l.length<=4294967296) (GP:List α->Nat->Int) (GR:List α->Int->Nat->Int)
  (p0:∀ i,GP [] i=0) (p1:∀ x ∈ l,∀ r i,GP (x :: r) i=bif bad x||(decide ((i:Int) > 0)&&decide (key (l.getD ((w64 ((i:Int) - 1)).toNat) d) >= key x)) then e else GP r (i+1))
  (r0:∀ last i,GR [] last i=0) (r1:∀ x ∈ l,∀ r last i,0<=last->GR (x :: r) last i=bif ((i:Int)==(N:Int))||bad x||decide (key x<=last) then e else GR r (key x) (i+1))
  (hb:∀ x,bad x=false->key x >= 1):∀ (r:List α) (i:Nat) (last:Int),r=l.drop i->i+r.length=l.length->i<=N->(i=0->last=0)->(0<i -> ∃ y,l[i - 1]? = some y∧last=key y∧key y >= 1)->(bif decide (l.length > N) then e else GP r i)=GR r last i
 | [],i,last,hr,hlen,hN,_,_=>by
  simp only [yJa,y6a] at hlen;rw [p0,r0,yka oA]
  rfl
 | x :: r,i,last,hr,hlen,hN,hl0,hl1=>by
  simp only [yja] at hlen;have hi:l[i]? = some x:=by
   have:=congrArg (fun q=>q[0]?) hr;simpa [yFa] using this.symm
  have hx:x ∈ l:=yKa hi;have hr':r=l.drop (i+1):=by rw [← yub,← hr];rfl
  have hlast:0<=last:=by
   rcases yNa i with h|h
   ·rw [hl0 h];exact yUa 0
   ·obtain ⟨y,_,e,h⟩:=hl1 h;omega
  have hord:bad x=false->(decide ((i:Int) > 0)&&decide (key (l.getD ((w64 ((i:Int) - 1)).toNat) d) >= key x))=decide (key x<=last):=by
   intro hbx;have hk:=hb x hbx;rcases yNa i with h|h
   ·subst h;rw [hl0 rfl,yka (show ¬ ((0:Nat):Int) > 0 by omega),yka (show ¬ key x<=0 by omega)]
    rfl
   ·obtain ⟨y,hy,e,_⟩:=hl1 h;have hw:w64 ((i:Int) - 1)=(i:Int) - 1:=wr oA;have ht:((i:Int) - 1).toNat=i - 1:=by omega
    have hg:l.getD (i - 1) d=y:=by simp [List.getD,hy]
    rw [hw,ht,hg,yga (show (i:Int) > 0 by omega),e]
    rfl
  rw [p1 x hx,r1 x hx r last i hlast];cases hbx:bad x with
  | true =>
   simp only [yrc,Bool.or_true,cond_true];cases decide (l.length > N) <;> rfl
  | false =>
   rw [hord hbx];simp only [y3a,y5b];cases hk:decide (key x<=last) with
   | true =>
    simp only [Bool.or_true,cond_true];cases decide (l.length > N) <;> rfl
   | false =>
    simp only [y5b,cond_false];rcases yoa i N with h|h
    ·have:((i:Int)==(N:Int))=false:=by simp;omega
     rw [this];simp only [cond_false];exact ord_eq d key bad e N l hl GP GR p0 p1 r0 r1 hb r (i+1) (key x) hr' oA oA oA (fun _=>⟨x,by simpa using hi,rfl,hb x hbx⟩)
    ·have:((i:Int)==(N:Int))=true:=by simp;omega
     rw [this,yga (show l.length > N by omega)]
     rfl
theorem QPc (l:List Book) (hl:l.length<=4294967296):Qh6 l=Q08 l:=by
 have h:=ord_eq zI (·.id) (fun b=>!(QT9 b)) 190 8 l hl (QK8 l) Qx4 (fun _=>rfl) (fun _ _ _ _=>rfl) (fun _ _=>rfl) (fun x _ r last i hlast=>by
   rw [Qx4]
   congr 1
   unfold QT9
   grind) (fun x hx=>by
   unfold QT9 at hx;simp at hx
   omega) l 0 0 (by simp) oA oA (fun _=>rfl) (fun h=>absurd h oA)
 unfold Qh6 Q08;rw [← h];have e:decide ((l.length:Int) > 8)=decide (l.length > 8):=by rw [yMa];simp only [yfa];omega
 rw [e]
theorem order_eq (a b:Usage):decide (Qq8 a b >= 0) = !(QZ7 a b):=by
 unfold Qq8 QZ7 QFb Q31 Q64;simp only [beq_self_eq_true,yib,cond_false];generalize Op.bytesLess (ByteArray.toList a.user) (ByteArray.toList b.user)=lu;generalize (ByteArray.toList a.user==ByteArray.toList b.user)=eu;generalize Op.bytesLess (ByteArray.toList a.account) (ByteArray.toList b.account)=la;generalize (ByteArray.toList a.account==ByteArray.toList b.account)=ea;revert lu eu la ea
 decide
theorem ledger_go (l:List Usage) (hl:l.length<=4294967296):∀ (r:List Usage) (i:Nat),i+r.length=l.length->i<=200->(bif decide (l.length > 200) then 2 else Q26 l r i)=QE6 l r i
 | [],i,hlen,hi=>by
  simp only [yJa,y6a] at hlen;rw [yka oA]
  rfl
 | x :: r,i,hlen,hi=>by
  simp only [yja] at hlen;rw [Q26,QE6,order_eq];have e1:(((((!(QT6 x.user))||(!(QT6 x.account)))||(x.used != (Q25 x.used)))||(decide (x.share<0)))||(decide (x.share > x.used)))=((((((!(QU3 x.user))||(!(QU3 x.account)))||(decide (x.used<0)))||(decide (x.used > 1000000000000)))||(decide (x.share<0)))||(decide (x.share > x.used))):=by
   unfold QT6 QU3 Q25 QG6
   grind
  have e2:(((((((i:Int)==200)||(!(QU3 x.user)))||(!(QU3 x.account)))||(decide (x.used<0)))||(decide (x.used > 1000000000000)))||(decide (x.share<0)))=(((i:Int)==200)||(((((!(QU3 x.user))||(!(QU3 x.account)))||(decide (x.used<0)))||(decide (x.used > 1000000000000)))||(decide (x.share<0)))):=by
   simp only [Bool.or_assoc]
  rw [e1,e2];rcases yoa i 200 with h|h
  ·have hh:((i:Int)==200)=false:=by simp;omega
   rw [hh,y3a,← ledger_go l hl r (i+1) oA oA];generalize ((((((!(QU3 x.user))||(!(QU3 x.account)))||(decide (x.used<0)))||(decide (x.used > 1000000000000)))||(decide (x.share<0)))||(decide (x.share > x.used)))=p;generalize ((decide ((i:Int) > 0))&&(!(QZ7 (l.getD ((w64 ((i:Int) - 1)).toNat) zJ) x)))=q;cases p <;> cases q <;> cases decide (l.length > 200) <;> rfl
  ·have hh:((i:Int)==200)=true:=by simp;omega
   rw [hh,yga (show l.length > 200 by omega)]
   rfl
theorem QJg (l:List Usage) (hl:l.length<=4294967296):Qp8 l=Qo9 l:=by
 unfold Qp8 Qo9;rw [← ledger_go l hl l 0 oA oA];have e:decide ((l.length:Int) > 200)=decide (l.length > 200):=by rw [yMa];simp only [yfa];omega
 rw [e]
theorem g3_any (x:Alt):∀ (l:List Alt) (k:Nat),(Qg2 x l k).isLeft=l.any (fun y=>x.nodes==y.nodes) ∧ ∀ v,Qg2 x l k=Sum.inl v->v=70
 | [],k=>⟨rfl,fun v h=>by cases h⟩
 | y :: r,k=>by
  rw [Qg2,y6b];cases (x.nodes==y.nodes) with
  | true=>exact ⟨rfl,fun v h=>by cases h;rfl⟩
  | false=>exact g3_any x r (k+1)
def okAlt (a:Alt):Bool:=Qt1 a.nodes&&Q52 a.wall
theorem g2_eq (s:Shape):∀ (r:List Alt) (i:Nat),r=s.alts.drop i->(QK0 s r i=0 ↔ (∀ x ∈ r,okAlt x=true)∧r.Pairwise (fun a b=>a.nodes ≠ b.nodes))∧(QK0 s r i=0∨QK0 s r i=70)
 | [],i,_=>⟨⟨fun _=>⟨fun x hx=>(nomatch hx),.nil⟩,fun _=>rfl⟩,.inl rfl⟩
 | x :: r,i,hr=>by
  have hr':r=s.alts.drop (i+1):=by rw [← yub,← hr];rfl
  obtain ⟨ih,ih2⟩:=g2_eq s r (i+1) hr';rw [QK0,← hr'];cases hf:((!(Qt1 x.nodes))||(!(Q52 x.wall))) with
  | true =>
   refine ⟨⟨fun h=>(by cases h),fun h=>?_⟩,.inr rfl⟩;have:=h.1 x (yqa ..);unfold okAlt at this;simp at this hf;rcases hf with h|h <;> simp_all
  | false =>
   have hok:okAlt x=true:=by unfold okAlt;simp at hf;simp [hf]
   obtain ⟨h1,h2⟩:=g3_any x r (i+1);simp only [cond_false];cases hg:Qg2 x r (i+1) with
   | inl v =>
    have hv:=h2 v hg;subst hv;rw [hg] at h1;refine ⟨⟨fun h=>(by cases h),fun h=>?_⟩,.inr rfl⟩;obtain ⟨y,hy,he⟩:=List.any_eq_true.1 h1.symm;exact absurd (eq_of_beq he) ((List.pairwise_cons.1 h.2).1 y hy)
   | inr v =>
    rw [hg] at h1;show (QK0 s r (i+1)=0 ↔ _)∧(QK0 s r (i+1)=0∨QK0 s r (i+1)=70);refine ⟨ih.trans ⟨fun h=>⟨fun y hy=>?_,List.pairwise_cons.2 ⟨fun y hy e=>?_,h.2⟩⟩,fun h=>⟨fun y hy=>h.1 y (yha _ hy),(List.pairwise_cons.1 h.2).2⟩⟩,ih2⟩
    ·rcases List.mem_cons.1 hy with rfl|hy
     ·exact hok
     ·exact h.1 y hy
    ·have:=(List.any_eq_true (p:=fun y:Alt=>x.nodes==y.nodes)).2 ⟨y,hy,beq_iff_eq.2 e⟩;rw [← h1] at this;cases this
theorem apart_iff (l:List Alt):∀ (r:List Alt) (i:Nat),r=l.drop i->(QH6 l r i=true ↔ (∀ x ∈ r,∀ y ∈ l.take i,x.nodes ≠ y.nodes)∧r.Pairwise (fun a b=>a.nodes ≠ b.nodes))
 | [],i,_=>⟨fun _=>⟨fun x hx=>(nomatch hx),.nil⟩,fun _=>rfl⟩
 | x :: r,i,hr=>by
  have hr':r=l.drop (i+1):=by rw [← yub,← hr];rfl
  have hi:l[i]? = some x:=by
   have:=congrArg (fun q=>q[0]?) hr;simpa [yFa] using this.symm
  have ht:l.take (i+1)=l.take i++[x]:=by rw [List.take_add_one,hi];rfl
  have ih:=apart_iff l r (i+1) hr';rw [QH6,any_Alt];cases ha:(List.take i l).any (fun (y:Alt)=>(x.nodes==y.nodes)) with
  | true =>
   refine ⟨fun h=>(by cases h),fun h=>?_⟩;obtain ⟨y,hy,he⟩:=List.any_eq_true.1 ha;exact absurd (eq_of_beq he) (h.1 x (yqa ..) y hy)
  | false =>
   have hno:∀ y ∈ l.take i,x.nodes ≠ y.nodes:=fun y hy e=>by
    have:=(List.any_eq_true (p:=fun y:Alt=>x.nodes==y.nodes)).2 ⟨y,hy,beq_iff_eq.2 e⟩;rw [ha] at this;cases this
   simp only [cond_false];rw [ih,ht];constructor
   ·rintro ⟨h1,h2⟩;refine ⟨fun z hz y hy=>?_,List.pairwise_cons.2 ⟨fun z hz=>?_,h2⟩⟩
    ·rcases List.mem_cons.1 hz with rfl|hz
     ·exact hno y hy
     ·exact h1 z hz y (List.mem_append.2 (.inl hy))
    ·exact Ne.symm (h1 z hz x (List.mem_append.2 (.inr (List.mem_singleton.2 rfl))))
   ·rintro ⟨h1,h2⟩;obtain ⟨h3,h4⟩:=List.pairwise_cons.1 h2;refine ⟨fun z hz y hy=>?_,h4⟩;rcases List.mem_append.1 hy with hy|hy
    ·exact h1 z (yha _ hz) y hy
    ·rw [List.mem_singleton.1 hy];exact Ne.symm (h3 z hz)
theorem fine_ok (a:Alt):Qg1 a=okAlt a:=by
 unfold Qg1 okAlt Qt1 Q52;simp only [Bool.and_assoc]
theorem QP9 (s:Shape):Qa2 s=Qj1 s:=by
 unfold Qa2 Qj1
 by_cases h3:s.kind=3
 ·simp only [h3,beq_self_eq_true,cond_true,Qk2,Qg1,Qt1,Q52];have e1:((3:Int)==1)=false:=rfl;have e2:((3:Int)==2)=false:=rfl;simp only [e1,e2,cond_false];have e0:((s.alts.length:Int)==0) = !(decide ((s.alts.length:Int) > 0)):=by rw [yMa];simp only [beq_iff_eq,y4a,yGa];omega
  rw [e0]
  congr 1
  grind
 have e3:(s.kind==3)=false:=by simpa using h3
 obtain ⟨q1,q2⟩:=g2_eq s s.alts 0 (by simp);have ap:=apart_iff s.alts s.alts 0 (by simp);simp only [e3,cond_false]
 by_cases h2:s.kind=2
 ·simp only [h2,beq_self_eq_true,cond_true];have e1:((2:Int)==1)=false:=rfl;simp only [e1,cond_false,QI3,Qk2,any_Alt,fine_ok];have e4:((((((((s.min==0)&&(s.max==0))&&(s.wall==0))&&(decide ((s.alts.length:Int) >= 1)))&&(decide ((s.alts.length:Int)<=6)))&&(Qb6 s.alts))&&(!(s.alts.any (fun (y:Alt)=>(!(okAlt y)))))))=(!(((((decide ((s.alts.length:Int)<1))||(decide ((s.alts.length:Int) > 6)))||(s.min != 0))||(s.max != 0))||(s.wall != 0))&&((Qb6 s.alts)&&(!(s.alts.any (fun (y:Alt)=>(!(okAlt y))))))):=by grind
  have e5:((Qb6 s.alts)&&(!(s.alts.any (fun (y:Alt)=>(!(okAlt y))))))=(QK0 s s.alts 0==0):=by
   rw [yMa,beq_iff_eq,q1,yea];unfold Qb6;rw [ap];simp
   grind
  rw [e4,e5];cases (((((decide ((s.alts.length:Int)<1))||(decide ((s.alts.length:Int) > 6)))||(s.min != 0))||(s.max != 0))||(s.wall != 0)) with
  | true=>rfl
  | false =>
   rcases q2 with h|h <;> rw [h] <;> rfl
 have e2:(s.kind==2)=false:=by simpa using h2
 by_cases h1:s.kind=1
 ·have e6:((2:Int)==1)=false:=rfl;simp only [h1,beq_self_eq_true,cond_true];have e7:((1:Int)==2)=false:=rfl;have e8:((1:Int)!=1)=false:=rfl;simp only [e7,e8,cond_false,QI3,Qk2,fine_ok]
  match hm:s.alts with
  | []=>rw [hm] at *;cases (s.min==0) <;> cases (s.max==0) <;> cases (s.wall==0) <;> rfl
  | [x] =>
   rw [hm] at q1 q2;have e9:okAlt x=(QK0 s [x] 0==0):=by
    rw [yMa,beq_iff_eq,q1];simp
   show (bif !(((((s.min==0)&&(s.max==0))&&(s.wall==0))&&true)&&okAlt x) then (70:Int) else 0)=bif ((((false||false)||(s.min != 0))||(s.max != 0))||(s.wall != 0)) then 70 else QK0 s [x] 0;rw [e9];unfold bne;cases (s.min==0) <;> cases (s.max==0) <;> cases (s.wall==0) <;> first|rfl|(rcases q2 with h|h <;> rw [h] <;> rfl)
  | x :: y :: r =>
   have l1:((((x :: y :: r).length:Nat):Int)==1)=false:=by simp;omega
   have l2:decide ((((x :: y :: r).length:Nat):Int) > 1)=true:=by simp;omega
   rw [l1,l2];simp
 have e1:(s.kind==1)=false:=by simpa using h1
 have e1':(s.kind != 1)=true:=by simpa using h1
 rw [e1,e2,e1']
 rfl
theorem cnt1 (n:Nat) (hn:n<18446744073709551616):wu64 ((wu64 (BitVec.ofInt 64 (Int.fdiv (n:Int) (2 ^ (min (Int.toNat 1) 64))) &&& BitVec.ofInt 64 6148914691236517205).toNat)+(wu64 (BitVec.ofInt 64 (n:Int) &&& BitVec.ofInt 64 6148914691236517205).toNat))=((sw1 n:Nat):Int):=by
 have e1:Int.fdiv (n:Int) (2 ^ (min (Int.toNat 1) 64))=((n / 2 ^ 1:Nat):Int):=Qie n 1 (by decide);have h1:n / 2 ^ 1<18446744073709551616:=by omega
 have e2:wu64 (BitVec.ofInt 64 ((n / 2 ^ 1:Nat):Int) &&& BitVec.ofInt 64 6148914691236517205).toNat=(((n / 2 ^ 1) &&& 6148914691236517205:Nat):Int):=Qsc (c:=6148914691236517205) h1 (by decide);have e3:wu64 (BitVec.ofInt 64 (n:Int) &&& BitVec.ofInt 64 6148914691236517205).toNat=((n &&& 6148914691236517205:Nat):Int):=Qsc (c:=6148914691236517205) hn (by decide);have l1:=yBb (n:=n / 2 ^ 1) (m:=6148914691236517205);have l2:=yBb (n:=n) (m:=6148914691236517205);rw [e1,e2,e3];exact Qje oA
theorem cnt2 (n:Nat) (hn:n<18446744073709551616):wu64 ((wu64 (BitVec.ofInt 64 (Int.fdiv (n:Int) (2 ^ (min (Int.toNat 2) 64))) &&& BitVec.ofInt 64 3689348814741910323).toNat)+(wu64 (BitVec.ofInt 64 (n:Int) &&& BitVec.ofInt 64 3689348814741910323).toNat))=((sw2 n:Nat):Int):=by
 have e1:Int.fdiv (n:Int) (2 ^ (min (Int.toNat 2) 64))=((n / 2 ^ 2:Nat):Int):=Qie n 2 (by decide);have h1:n / 2 ^ 2<18446744073709551616:=by omega
 have e2:wu64 (BitVec.ofInt 64 ((n / 2 ^ 2:Nat):Int) &&& BitVec.ofInt 64 3689348814741910323).toNat=(((n / 2 ^ 2) &&& 3689348814741910323:Nat):Int):=Qsc (c:=3689348814741910323) h1 (by decide);have e3:wu64 (BitVec.ofInt 64 (n:Int) &&& BitVec.ofInt 64 3689348814741910323).toNat=((n &&& 3689348814741910323:Nat):Int):=Qsc (c:=3689348814741910323) hn (by decide);have l1:=yBb (n:=n / 2 ^ 2) (m:=3689348814741910323);have l2:=yBb (n:=n) (m:=3689348814741910323);rw [e1,e2,e3];exact Qje oA
theorem cnt3 (n:Nat) (hn:n<=7378697629483820646):wu64 (BitVec.ofInt 64 (wu64 ((Int.fdiv (n:Int) (2 ^ (min (Int.toNat 4) 64)))+(n:Int))) &&& BitVec.ofInt 64 1085102592571150095).toNat=((sw3 n:Nat):Int):=by
 have e1:Int.fdiv (n:Int) (2 ^ (min (Int.toNat 4) 64))=((n / 2 ^ 4:Nat):Int):=Qie n 4 (by decide);rw [e1,Qje oA];exact Qsc (c:=1085102592571150095) oA (by decide)
theorem count_eq {s:Int} (hs:U64 s):Q10 s=((popN 64 s.toNat:Nat):Int):=by
 obtain ⟨n,rfl⟩:∃ n:Nat,s=(n:Int):=⟨s.toNat,by unfold U64 at hs;omega⟩;have hn:n<18446744073709551616:=by unfold U64 at hs;omega
 have b1:sw1 n<18446744073709551616:=by
  unfold sw1;have l1:=yBb (n:=n / 2 ^ 1) (m:=6148914691236517205);have l2:=yBb (n:=n) (m:=6148914691236517205);omega
 have b2:sw2 (sw1 n)<=7378697629483820646:=by
  unfold sw2;have l1:=yBb (n:=sw1 n / 2 ^ 2) (m:=3689348814741910323);have l2:=yBb (n:=sw1 n) (m:=3689348814741910323);omega
 obtain ⟨a,b,c,d,e,f,g,h,hx,ha,hb,hc,hd,he,hf,hg,hh,hp⟩:=sw_pop hn;unfold Q10 QL6 oc3 oc2 oc1;rw [cnt1 n hn,cnt2 (sw1 n) b1,cnt3 (sw2 (sw1 n)) b2,hx,yna,hp];obtain ⟨q0,q1,q2,q3⟩:=sum_low ha hb hc hd he hf hg hh _ _ _ rfl rfl rfl;generalize hX:by8 a b c d e f g h=X at *;have hXlt:X<9223372036854775808:=by omega
 have s8:Int.fdiv (X:Int) (2 ^ (min (Int.toNat 8) 64))=((X / 256:Nat):Int):=Qie X 8 (by decide);rw [s8,Qje oA];generalize hY:X+X / 256=Y at *;have s16:Int.fdiv (Y:Int) (2 ^ (min (Int.toNat 16) 64))=((Y / 65536:Nat):Int):=Qie Y 16 (by decide);rw [s16,Qje oA];generalize hZ:Y+Y / 65536=Z at *;have s32:Int.fdiv (Z:Int) (2 ^ (min (Int.toNat 32) 64))=((Z / 4294967296:Nat):Int):=Qie Z 32 (by decide);rw [s32,Qje oA];generalize hW:Z+Z / 4294967296=W at *;have hw:w64 (W:Int)=(W:Int):=wr oA;rw [hw];have hm:((BitVec.ofInt 64 (W:Int) &&& BitVec.ofInt 64 127).toNat:Int)=((W &&& 127:Nat):Int):=by
  have:=Qsc (n:=W) (c:=127) oA (by decide);rw [wu64_bv] at this;exact this
 rw [hm,Nat.and_two_pow_sub_one_eq_mod W 7];show w64 (((W % 128 : Nat)) : Int) = _;rw [q0];exact wr oA
theorem list_len:∀ (m K s:Nat) (out:List Int) (n:Nat),s<m->s<2 ^ K->s<18446744073709551616->(Q41 m (s:Int) out n).2.1.length=out.length+popN K s
 | 0,_,_,_,_,h,_,_=>absurd h oA
 | m+1,K,s,out,n,hm,hK,hs=>by
  rw [Q41];rcases yNa s with h|h
  ·subst h;have hz:∀ K,popN K 0=0:=fun K=>by induction K with
    | zero=>rfl
    | succ K ih=>simp [popN,ih]
   rw [hz]
   rfl
  ·obtain ⟨K,rfl⟩:∃ k,K=k+1:=⟨K - 1,by
    rcases K with _|K
    ·simp at hK;omega
    ·rfl⟩
   rw [yga (show (s:Int) > 0 by omega)];have e1 : Int.tmod (s : Int) 2 = ((s % 2 : Nat) : Int) := rfl;have e2:Int.tdiv (s:Int) 2=((s / 2:Nat):Int):=rfl;have e3:wu64 ((s / 2:Nat):Int)=((s / 2:Nat):Int):=QG8 ⟨by omega,by omega⟩;rw [e1,e2,e3,popN];rw [ysc] at hK;simp only [cond_true];rcases yWb s with hb|hb
   ·rw [hb];show (Q41 m ((s / 2:Nat):Int) out (n+1)).2.1.length=_;rw [list_len m K (s / 2) out (n+1) oA oA oA];omega
   ·rw [hb];show (Q41 m ((s / 2:Nat):Int) (out++[(n:Int)]) (n+1)).2.1.length=_;rw [list_len m K (s / 2) _ (n+1) oA oA oA];simp;omega
theorem QU9 {s:Int} (hs:U64 s):Q10 s=((Q40 s).length:Int):=by
 rw [count_eq hs];obtain ⟨n,rfl⟩:∃ n:Nat,s=(n:Int):=⟨s.toNat,by unfold U64 at hs;omega⟩;unfold Q40 Qt3;have hn:n<18446744073709551616:=by unfold U64 at hs;omega
 rw [yna,list_len (n+1) 64 n [] 0 oA (by rw [pow64];exact hn) hn];simp
theorem QQa (s:Shape) (hw:w64 (s.max - s.min)=s.max - s.min) (h1:1<=s.min) (h2:s.min<=s.max) (h3:s.max<=48):∀ (m:Nat) (out:List Alt) (i:Nat),i<=(s.max - s.min+1).toNat->(s.max - s.min+1).toNat - i<m ->
  (Qs1 s m out i).1=out++(List.range' i ((s.max - s.min+1).toNat - i)).map fun (i:Nat)=>(⟨s.max - (i:Int),s.wall⟩:Alt)
 | 0,_,_,_,h=>absurd h oA
 | m+1,out,i,hi,hm=>by
  rw [Qs1,hw];rcases yoa i (s.max - s.min+1).toNat with h|h
  ·have e:(s.max - s.min+1).toNat - i=((s.max - s.min+1).toNat - (i+1))+1:=by omega
   have e2:w64 (s.max - (i:Int))=s.max - (i:Int):=wr oA;rw [yga (show (i:Int)<=s.max - s.min by omega),e2];simp only [cond_true];rw [QQa s hw h1 h2 h3 m _ (i+1) oA oA,e,List.range'_succ,yjb,yfb]
   rfl
  ·rw [yka (show ¬ (i:Int)<=s.max - s.min by omega),show (s.max - s.min+1).toNat - i=0 by omega];simp
theorem Q29 (s:Shape):Qd1 s=Qi0 s:=by
 unfold Qd1 Qi0;rw [QP9];cases hc:(Qj1 s != 0) with
 | true=>rfl
 | false =>
  simp only [cond_false];cases hk:(s.kind==3) with
  | false =>
   have:(s.kind != 3)=true:=by unfold bne;rw [hk];rfl
   rw [this]
   rfl
  | true =>
   have hk':(s.kind != 3)=false:=by unfold bne;rw [hk];rfl
   obtain ⟨h1,h2,h3,h4⟩:=Qr7 hc hk';have h0:s.alts=[]:=by
    have hk3:s.kind=3:=by simpa using hk
    have hz:Qj1 s=0:=by simpa using hc
    unfold Qj1 at hz;simp only [hk3,beq_self_eq_true,cond_true] at hz;cases hq:(((((decide ((s.alts.length:Int) > 0))||(!(Qt1 s.min)))||(!(Qt1 s.max)))||(decide (s.max<s.min)))||(!(Q52 s.wall))) with
    | true=>rw [hq] at hz;cases hz
    | false =>
     have:=(or_f (or_f (or_f (or_f hq).1).1).1).1;have hl:s.alts.length=0:=by have:=yca this;omega
     exact yBa hl
   rw [hk',h0];simp only [cond_true,cond_false,y9a,Qm3,Q17];rw [QQa s h4 h1 h2 h3 _ [] 0 oA oA,yRb]
   rfl
theorem Q8g (s:Shape) (c n:Int):∀ (l:List Alt) (i:Nat),Q36 s c n l i=true ↔ ∃ (k:Nat) (x:Alt),l[k]? = some x∧x.nodes=n∧(((i+k:Nat):Int)=c∨s.kind=3)
 | [],i=>⟨fun h=>(by cases h),fun ⟨k,x,h,_⟩=>by simp at h⟩
 | y :: r,i=>by
  rw [Q36];cases hc:((y.nodes==n)&&(((i:Int)==c)||(s.kind==3))) with
  | true =>
   simp only [yea,y2a,beq_iff_eq] at hc;exact ⟨fun _=>⟨0,y,rfl,hc.1,by simpa using hc.2⟩,fun _=>rfl⟩
  | false =>
   simp only [cond_false];rw [Q8g s c n r (i+1)];constructor
   ·rintro ⟨k,x,h1,h2,h3⟩;exact ⟨k+1,x,by simpa using h1,h2,by rw [show i+(k+1)=i+1+k by omega];exact h3⟩
   ·rintro ⟨k,x,h1,h2,h3⟩;rcases k with _|k
    ·simp at h1;subst h1;have:((y.nodes==n)&&(((i:Int)==c)||(s.kind==3)))=true:=by
      simp only [yea,y2a,beq_iff_eq];exact ⟨h2,by simpa using h3⟩
     rw [hc] at this;cases this
    ·exact ⟨k,x,by simpa using h1,h2,by rw [show i+1+k=i+(k+1) by omega];exact h3⟩
theorem allows_eq (s:Shape) (c n:Int):Qh3 s c n=Qt8 s c n:=by
 unfold Qh3 Qt8;rw [Q29];cases hb:((decide (c<0))||(decide (c >= ((Qi0 s).length:Int)))) with
 | true=>rfl
 | false =>
  obtain ⟨h1,h2⟩:=or_f hb;have h1':=yca h1;have h2':=yca h2;simp only [cond_false];obtain ⟨k,rfl⟩:∃ k:Nat,c=(k:Int):=⟨c.toNat,by omega⟩;have hk:k<(Qi0 s).length:=by omega
  rw [yMa,Q8g];cases h3:(s.kind==3) with
  | false =>
   have h3':s.kind ≠ 3:=by simpa using h3
   simp only [cond_false,beq_iff_eq,yna];have hg:(Qi0 s)[k]? = some ((Qi0 s).getD k zA):=by simp [List.getD,yaa hk]
   constructor
   ·intro h;exact ⟨k,_,hg,h,.inl (by simp)⟩
   ·rintro ⟨j,x,hx,hn,hj⟩;have:j=k:=by
     rcases hj with hj|hj
     ·omega
     ·exact absurd hj h3'
    subst this;rw [hg] at hx;cases hx;exact hn
  | true =>
   have h3':s.kind=3:=by simpa using h3
   simp only [cond_true,yea,yfa];cases hc:(Qa2 s != 0) with
   | true =>
    rw [← Q29] at hk;unfold Qd1 at hk;rw [hc] at hk;exact absurd hk (by simp)
   | false =>
    obtain ⟨q1,q2,q3⟩:=QE7 hc h3;have h0:Qd1 s=s.alts++Q17 s.min s.max s.wall:=by unfold Qd1;rw [hc,h3];rfl
    have ha:s.alts=[]:=by
     have hz:Qa2 s=0:=by simpa using hc
     unfold Qa2 at hz;simp only [h3'] at hz;have e1:((3:Int)==1)=false:=rfl;have e2:((3:Int)==2)=false:=rfl;simp only [e1,e2,beq_self_eq_true,cond_false,cond_true,Qk2] at hz;cases hq:(((((s.alts.length:Int)==0)&&(decide (s.min<=s.max)))&&(Qg1 (⟨s.min,s.wall⟩:Alt)))&&(decide (s.max<=48))) with
     | false=>rw [hq] at hz;cases hz
     | true =>
      simp only [yea,beq_iff_eq] at hq;exact yBa (by have:=hq.1.1.1;omega)
    rw [← Q29,h0,ha,y9a];unfold Q17;constructor
    ·rintro ⟨hl,hu⟩
     exact ⟨(s.max - n).toNat,⟨n,s.wall⟩,by
      rw [yDa,ygb oA];simp
      omega,rfl,.inr h3'⟩
    ·rintro ⟨j,x,hx,hn,_⟩;rw [yDa] at hx;rcases yoa j (s.max - s.min+1).toNat with hj|hj
     ·rw [ygb hj] at hx;simp at hx;subst hx;simp only at hn;omega
     ·rw [y8a (by simpa using hj)] at hx;simp at hx
theorem QUc (r:Int):Qk1 r=Qj0 r:=by
 unfold Qk1 Qj0
 grind
theorem runes_Check_eq (s:ByteArray):Ql5 s=Q04 s:=by
 have:∀ (l:List (Nat × Int)) (n:Nat),QF6 l n=QC6 l n:=by
  intro l
  induction l with
  | nil=>exact fun _=>rfl
  | cons x r ih =>
   intro n;rw [QF6,QC6,QUc,ih]
 exact this _ 0
theorem name_eq (s:ByteArray):Qj6 s=QT3 s:=by
 unfold Qj6 QT3 QU2;rw [runes_Check_eq,Bool.and_assoc]
theorem QJh (l:List Dep) (i:Nat) (x:Dep) (hi:i<=l.length):∀ (m k:Nat),k<=i->i - k<m->(Qu4 l i x m k).isLeft=((l.take i).drop k).any (fun y=>y.job==x.job) ∧ ∀ v,Qu4 l i x m k=Sum.inl v->v=false
 | 0,_,_,h=>absurd h oA
 | m+1,k,hk,hm=>by
  rw [Qu4];rcases yoa k i with h|h
  ·rw [yga (show (k:Int)<(i:Int) by omega)];have hkl:k<(l.take i).length:=by rw [yta];omega
   have hd:(l.take i).drop k=(l.getD k zC) :: (l.take i).drop (k+1):=by
    rw [yYa hkl]
    congr 1
    simp [List.getD,yaa (show k<l.length by omega)]
   rw [hd,y6b];simp only [cond_true];cases ((l.getD k zC).job==x.job) with
   | true=>exact ⟨rfl,fun v h=>by cases h;rfl⟩
   | false=>exact QJh l i x hi m (k+1) oA oA
  ·rw [yka (show ¬ (k:Int)<(i:Int) by omega)];have:(l.take i).drop k=[]:=ykb (by rw [yta];omega);rw [this];exact ⟨rfl,fun v h=>by cases h⟩
theorem waits_go (l:List Dep):∀ (r:List Dep) (i:Nat),r=l.drop i->i+r.length=l.length->(l.length<=4->QZ5 l r i=Qh2 l r i)
 | [],i,_,_,h=>by
  rw [QZ5,Qh2];exact yga oA
 | x :: r,i,hr,hlen,h=>by
  simp only [yja] at hlen;have hr':r=l.drop (i+1):=by rw [← yub,← hr];rfl
  have ih:=waits_go l r (i+1) hr' oA h;obtain ⟨w1,w2⟩:=QJh l i x oA ((((i:Int) - (0:Int)).toNat)+1) 0 oA oA;rw [QZ5,Qh2,any_Dep,ih];have e:(!(QU2 x.how 1 3) || !(QAe x.job))=((!(Ql1 x.how 1 3))||(!(Ql1 x.job 1 99999))):=rfl;rw [e];rw [yqb] at w1;cases ((!(Ql1 x.how 1 3))||(!(Ql1 x.job 1 99999))) with
  | true=>rfl
  | false =>
   rw [y3a];simp only [cond_false];cases hg:Qu4 l i x ((((i:Int) - (0:Int)).toNat)+1) 0 with
   | inl v =>
    have hv:=w2 v hg;subst hv;rw [hg] at w1;rw [← w1]
    rfl
   | inr v =>
    rw [hg] at w1;rw [← w1]
    rfl
theorem Qqg (l:List Dep) (h:4<l.length):∀ (r:List Dep) (i:Nat),QZ5 l r i=false
 | [],i=>yka oA
 | x :: r,i=>by
  rw [QZ5,Qqg l h r];cases (((!(QU2 x.how 1 3))||(!(QAe x.job)))||(Qt0 (List.take i l) (fun (y:Dep)=>(y.job==x.job)))) <;> rfl
theorem deps_eq (l:List Dep):QM8 l=QV6 l:=by
 unfold QM8 QV6;rcases yoa 4 l.length with h|h
 ·rw [Qqg l h,yga oA]
  rfl
 ·rw [yka oA];exact waits_go l l 0 (by simp) oA h
def lowB (x:Int):Int:=if 65<=x∧x<=90 then x+32 else x
theorem wu8_id {n:Int} (h:0<=n∧n<256):wu8 n=n:=by
 show n % 256 = n;omega
theorem lower_go (s:ByteArray):∀ (m i:Nat) (c:List Int),c.length=s.size->s.size - i<m->(∀ x ∈ c,0<=x∧x<256)->QO5 s m i c=c.take i++(c.drop i).map lowB
 | 0,_,_,_,h,_=>absurd h oA
 | m+1,i,c,hl,hm,hb=>by
  rw [QO5];rcases yoa i s.size with h|h
  ·have hi:i<c.length:=by omega
   have hg:c.getD i 0=c[i]:=by simp [List.getD,yaa hi]
   have hx:=hb _ (yZa hi);rw [yga (show (i:Int)<(s.size:Int) by omega),hg];simp only [cond_true];have hd:c.drop i=c[i] :: c.drop (i+1):=yYa hi;cases hc:((decide (c[i] >= 65))&&(decide (c[i]<=90))) with
   | true =>
    simp only [yea,yfa] at hc;have hv:wu8 ((wu8 (c[i]+97)) - 65)=lowB c[i]:=by
     rw [wu8_id (n:=c[i]+97) oA,wu8_id oA,lowB,if_pos hc];omega
    rw [hv];simp only [cond_true];rw [lower_go s m (i+1) _ (by simpa using hl) oA ?_]
    ·rw [hd,yjb];have e1:(c.set i (lowB c[i])).take (i+1)=c.take i++[lowB c[i]]:=by
      rw [List.take_add_one];simp [List.take_set_of_le,hi]
     have e2:(c.set i (lowB c[i])).drop (i+1)=c.drop (i+1):=by
      rw [List.drop_set_of_lt oA]
     rw [e1,e2];simp
    ·intro x hx';rcases y1b hx' with h'|h'
     ·exact hb x h'
     ·rw [h',lowB,if_pos hc];omega
   | false =>
    have hv:lowB c[i]=c[i]:=by
     rw [lowB,if_neg];intro hq;rw [yga hq.1,yga hq.2] at hc;cases hc
    simp only [cond_false];rw [lower_go s m (i+1) c hl oA hb,hd,yjb,hv,List.take_add_one,yaa hi,yfb]
    rfl
  ·rw [yka (show ¬ (i:Int)<(s.size:Int) by omega)];simp only [cond_false];rw [ykb oA,yEb oA];simp
theorem Qgg (s:ByteArray):∀ x ∈ Q22 s,0<=x∧x<256:=by
 intro x hx;unfold Q22 at hx;obtain ⟨b,_,rfl⟩:=List.mem_map.1 hx;have:=b.toNat_lt;omega
theorem lower_run (s:ByteArray):Q38 s=QQ2 ((Q22 s).map lowB):=by
 unfold Q38 QC4;rw [lower_go s _ 0 _ (QB3 s) oA (Qgg s)]
 rfl
theorem Qdb (s:ByteArray):∀ (m:Nat) (out:List Int) (i:Nat),i<=s.size->s.size - i<m->(QF3 s m out i).1=out++((Q22 s).drop i).map lowB
 | 0,_,_,_,h=>absurd h oA
 | m+1,out,i,hi,hm=>by
  rw [QF3];rcases yoa i s.size with h|h
  ·have hi':i<(Q22 s).length:=by rw [QB3];exact h
   have hd:(Q22 s).drop i=(Q22 s)[i] :: (Q22 s).drop (i+1):=yYa hi';have hx:=Qgg s _ (yZa hi');have hg:((s.data.toList.getD i 0).toNat:Int)=(Q22 s)[i]:=by
    have hq:i<s.data.toList.length:=by simpa [Q22] using hi'
    simp [Q22,List.getD,yaa hq]
   rw [yga (show (i:Int)<(s.size:Int) by omega),hg,hd,yjb];simp only [cond_true];cases hc:((decide ((Q22 s)[i] > 64))&&(decide ((Q22 s)[i]<91))) with
   | true =>
    simp only [yea,yfa] at hc;have hv:lowB (Q22 s)[i]=(Q22 s)[i]+32:=by rw [lowB,if_pos oA]
    rw [wu8_id (n:=(Q22 s)[i]+32) oA,hv];simp only [cond_true];rw [Qdb s m _ (i+1) oA oA];simp
   | false =>
    have hv:lowB (Q22 s)[i]=(Q22 s)[i]:=by
     rw [lowB,if_neg];intro hq;rw [yga (show (Q22 s)[i] > 64 by omega),yga (show (Q22 s)[i]<91 by omega)] at hc;cases hc
    rw [hv];simp only [cond_false];rw [Qdb s m _ (i+1) oA oA];simp
  ·rw [yka (show ¬ (i:Int)<(s.size:Int) by omega)];simp only [cond_false];rw [ykb (by rw [QB3];omega)];simp
theorem lower_ref (s:ByteArray):QX2 s=QQ2 ((Q22 s).map lowB):=by
 unfold QX2 Qs4;rw [Qdb s _ [] 0 oA oA]
 rfl
theorem lower_eq (s:ByteArray):Q38 s=QX2 s:=by rw [lower_run,lower_ref]
def Qx0 (s:ByteArray):List Int:=(Qf8 s).map (·.2)
theorem Q8a (s:ByteArray):QN0 s=Qx0 s:=by
 have:∀ (l:List (Nat × Int)) (out:List Int),QG3 l out=out++l.map (·.2):=by
  intro l
  induction l with
  | nil=>intro out;rw [QG3];simp
  | cons x r ih=>intro out;rw [QG3,ih];simp
 unfold QN0 Qt4 Qx0;rw [this];simp
theorem QHh (s:ByteArray) (b:ByteArray):∀ (l:List (Nat × Int)) (c:LexReader),Ql6 b l c={ c with line:=c.line++l.map (·.2) }
 | [],c=>by rw [Ql6];simp
 | x :: r,c=>by rw [Ql6,QHh s b r];simp
theorem line_len (s:ByteArray):(Qx0 s).length<=s.size:=by
 have:=Qkb s;rw [Q8a] at this;exact this
theorem while_go (is:Int->Bool) (L:List Int) (hL:L.length<=400):∀ (m a:Nat) (bad e:Int),a<=L.length->L.length - a<m ->
  QG0 is m ⟨L,(a:Int),bad,e⟩=⟨L,((a+((L.drop a).takeWhile is).length:Nat):Int),bad,e⟩
 | 0,_,_,_,_,h=>absurd h oA
 | m+1,a,bad,e,ha,hm=>by
  rw [QG0];simp only [yna];rcases yoa a L.length with h|h
  ·have hg:L.getD a 0=L[a]:=by simp [List.getD,yaa h]
   rw [yga (show (a:Int)<(L.length:Int) by omega),hg,yYa h,ytb];cases is L[a] with
   | true =>
    have hw:w64 ((a:Int)+1)=((a+1:Nat):Int):=wr oA;simp only [yIb,cond_true,if_true];rw [hw,while_go is L hL m (a+1) bad e oA oA,yja]
    congr 2
    omega
   | false=>simp
  ·rw [yka (show ¬ (a:Int)<(L.length:Int) by omega),ykb h];simp
theorem take_run (is:Int->Bool) (L:List Int) (a:Nat):List.drop a (List.take (a+((L.drop a).takeWhile is).length) L)=(L.drop a).takeWhile is:=by
 rw [List.drop_take];have h:(L.drop a).takeWhile is <+: L.drop a:=yxb is;rw [Nat.add_sub_cancel_left];exact (List.prefix_iff_eq_take.1 h).symm
theorem while_eq (is:Int->Bool) (L:List Int) (hL:L.length<=400) (a:Nat) (bad e:Int) (ha:a<=L.length) :
  Q20 ⟨L,(a:Int),bad,e⟩ is=(runesBytes ((L.drop a).takeWhile is),⟨L,((a+((L.drop a).takeWhile is).length:Nat):Int),bad,e⟩):=by
 unfold Q20 QH0;simp only;rw [while_go is L hL _ a bad e ha oA];simp only [yna];rw [take_run]
def QX3 (y:Int):Bool:=Qj0 y==1
def wordP (y:Int):Bool:=(((Qj0 y==2)||(Qj0 y==3))||(y==45))||(y==95)
theorem blank_fn:(fun (y:Int)=>Qr0 y ([1]:List Int) 0)=QX3:=by
 funext y
 rw [Qr0,Qr0,QUc];unfold QX3;cases (Qj0 y==1) <;> rfl
theorem word_fn:(fun (y:Int)=>Ql0 y ([2,3]:List Int) 0)=wordP:=by
 funext y
 rw [Ql0,Ql0,Ql0,QUc];unfold wordP;cases (Qj0 y==2) <;> cases (Qj0 y==3) <;> rfl
theorem Qwe:∀ (m:Nat) (out:List Token) (c:LexReader),(Q32 m out c).1=[]∨out <+: (Q32 m out c).1
 | 0,_,_=>.inl rfl
 | m+1,out,c=>by
  rw [Q32];cases (c.error==0) with
  | false=>exact .inl rfl
  | true =>
   simp only [cond_true];cases ((Q20 c (fun (y:Int)=>Qr0 y ([1]:List Int) 0)).2.at_==(((Q20 c (fun (y:Int)=>Qr0 y ([1]:List Int) 0)).2.line).length:Int)) with
   | true=>exact .inr (List.prefix_refl _)
   | false =>
    simp only [cond_false];rcases Qwe m (out++[{ (Qh0 ((Q20 c (fun (y:Int)=>Qr0 y ([1]:List Int) 0)).2)).1 with at_:=(Q20 c (fun (y:Int)=>Qr0 y ([1]:List Int) 0)).2.at_ }]) ((Qh0 ((Q20 c (fun (y:Int)=>Qr0 y ([1]:List Int) 0)).2)).2) with h|h
    ·exact .inl h
    ·exact .inr (List.IsPrefix.trans (List.prefix_append _ _) h)
def skipB (L:List Int) (a:Nat):Nat:=a+((L.drop a).takeWhile QX3).length
theorem skipB_le (L:List Int) (a:Nat) (h:a<=L.length):skipB L a<=L.length:=by
 unfold skipB;have:=(yxb (l:=L.drop a) QX3).length_le;rw [ywa] at this;omega
theorem QHc (L:List Int) (hL:L.length<=400) (m:Nat) (out:List Token) (a:Nat) (bad:Int) (ha:a<=L.length) :
  Q32 (m+1) out ⟨L,(a:Int),bad,0⟩=bif (((skipB L a:Nat):Int)==(L.length:Int)) then (out,(L.length:Int),0)
   else Q32 m (out++[{ (Qh0 ⟨L,((skipB L a:Nat):Int),bad,0⟩).1 with at_:=((skipB L a:Nat):Int) }]) (Qh0 ⟨L,((skipB L a:Nat):Int),bad,0⟩).2:=by
 rw [Q32];simp only [blank_fn];rw [while_eq QX3 L hL a bad 0 ha]
 rfl
theorem next_kind (r:LexReader) (h:(Qk1 (r.line.getD (r.at_.toNat) 0)==2)=false):(Qh0 r).1.kind ≠ 1:=by
 unfold Qh0 QL1 QZ1 QD2;rw [h];simp only [cond_false,yAa]
 repeat' split
 all_goals first|(simp [zD];done)|simp_all
theorem next_word (L:List Int) (hL:L.length<=400) (a:Nat) (bad:Int) (ha:a<=L.length) (h:(Qk1 (L.getD a 0)==2)=true) :
  Qh0 ⟨L,(a:Int),bad,0⟩=(⟨1,QX2 (runesBytes ((L.drop a).takeWhile wordP)),0,0⟩,⟨L,((a+((L.drop a).takeWhile wordP).length:Nat):Int),bad,0⟩):=by
 unfold Qh0 Qf2;simp only [yna,word_fn];rw [h,while_eq wordP L hL a bad 0 ha,lower_eq]
 rfl
def Wd (s:ByteArray):Prop:=s.size<=400 ∧ ∃ x r,Qx0 s=x :: r∧Qj0 x=2∧QX2 (runesBytes ((Qx0 s).takeWhile wordP))=s∧skipB (Qx0 s) ((Qx0 s).takeWhile wordP).length=(Qx0 s).length
theorem tokens_start (s:ByteArray) (h:s.size<=400):Qo1 s=Q32 (2*(Qx0 s).length+1+1) [] ⟨Qx0 s,((0:Nat):Int),0,0⟩:=by
 unfold Qo1;rw [yka (show ¬ (s.size:Int) > 400 by omega),QHh s s];unfold Qm6;show Q32 _ [] ⟨[]++(Qf8 s).map (·.2),0,0,0⟩=_;rw [y9a]
 congr 1
theorem word_prog (s:ByteArray):QM6 s=true ↔ Wd s:=by
 rcases yoa 400 s.size with hs|hs
 ·constructor
  ·intro h;unfold QM6 Qo1 at h;rw [yga (show (s.size:Int) > 400 by omega)] at h;cases h
  ·rintro ⟨h,_⟩;omega
 have hL:(Qx0 s).length<=400:=yHa (line_len s) hs;generalize hLd:Qx0 s=L at *;have e0:Qo1 s=Q32 (2*L.length+1+1) [] ⟨L,((0:Nat):Int),0,0⟩:=by rw [tokens_start s hs,hLd]
 rw [QHc L hL (2*L.length+1) [] 0 0 oA] at e0;unfold Wd QM6;rw [hLd];constructor
 ·intro h;cases hc:(((Qo1 s).2.2 != 0)||((((Qo1 s).1).length:Int)!=1))||(!(((((Qo1 s).1).getD 0 zD).kind==1)&&(((((Qo1 s).1).getD 0 zD).text==s)&&(((((Qo1 s).1).getD 0 zD).num==0)&&((((Qo1 s).1).getD 0 zD).at_==0))))) with
  | true=>rw [hc] at h;cases h
  | false =>
   obtain ⟨h1,h2⟩:=or_f hc;obtain ⟨_,hlen⟩:=or_f h1;have hleni:((Qo1 s).1.length:Int)=1:=by simpa using hlen
   replace hlen:(Qo1 s).1.length=1:=by omega
   simp only [yyb,yea,beq_iff_eq,bytes_beq] at h2;obtain ⟨hk,ht,_,hat⟩:=h2;cases hb:(((skipB L 0:Nat):Int)==(L.length:Int)) with
   | true =>
    rw [hb] at e0;rw [e0] at hlen;cases hlen
   | false =>
    rw [hb] at e0;simp only [cond_false,y9a] at e0;have hpre:=Qwe (2*L.length+1) [{ (Qh0 ⟨L,((skipB L 0:Nat):Int),0,0⟩).1 with at_:=((skipB L 0:Nat):Int) }] (Qh0 ⟨L,((skipB L 0:Nat):Int),0,0⟩).2;rw [← e0] at hpre;rcases hpre with hpre|hpre
    ·rw [hpre] at hlen;cases hlen
    ·have hhead:(Qo1 s).1.getD 0 zD={ (Qh0 ⟨L,((skipB L 0:Nat):Int),0,0⟩).1 with at_:=((skipB L 0:Nat):Int) }:=by
      obtain ⟨q,hq⟩:=hpre;rw [← hq]
      rfl
     rw [hhead] at hk ht hat;have hz:skipB L 0=0:=by
      have:((skipB L 0:Nat):Int)=0:=hat;omega
     rw [hz] at e0 hk ht hb;have hcl:(Qk1 (L.getD 0 0)==2)=true:=by
      cases hcc:(Qk1 (L.getD 0 0)==2) with
      | true=>rfl
      | false=>exact absurd hk (next_kind ⟨L,((0:Nat):Int),0,0⟩ hcc)
     rw [next_word L hL 0 0 oA hcl] at e0 ht;simp only [yqb,yma] at e0 ht;have hne:L.length ≠ 0:=by
      intro h0;rw [h0] at hb;simp at hb
     obtain ⟨x,r,hxr⟩:∃ x r,L=x :: r:=by
      cases hcase:L with
      | nil=>rw [hcase] at hne;exact absurd rfl hne
      | cons x r=>exact ⟨x,r,rfl⟩
     refine ⟨hs,x,r,hxr,?_,ht,?_⟩
     ·rw [hxr] at hcl;rw [QUc] at hcl;exact eq_of_beq hcl
     ·have hle:(L.takeWhile wordP).length<=L.length:=(yxb wordP).length_le;rw [show 2*L.length+1=2*L.length+1 from rfl,QHc L hL (2*L.length) _ (L.takeWhile wordP).length 0 hle] at e0;cases hb2:(((skipB L (L.takeWhile wordP).length:Nat):Int)==(L.length:Int)) with
      | true =>
       have:=eq_of_beq hb2;omega
      | false =>
       rw [hb2] at e0;simp only [cond_false] at e0;have hpre2:∀ o c,Qo1 s=Q32 (2*L.length) o c->(Qo1 s).1=[]∨o <+: (Qo1 s).1:=fun o c e=>by rw [e];exact Qwe _ _ _
       rcases hpre2 _ _ e0 with h'|h'
       ·rw [h'] at hlen;cases hlen
       ·have:=h'.length_le;rw [hlen] at this;simp at this
 ·rintro ⟨_,x,r,hxr,hx,ht,hsk⟩;have hcl:(Qk1 (L.getD 0 0)==2)=true:=by
   rw [hxr,QUc];exact beq_iff_eq.2 hx
  have hz:skipB L 0=0:=by
   unfold skipB;rw [yqb,hxr,ytb];have:QX3 x=false:=by unfold QX3;rw [hx];rfl
   rw [this]
   rfl
  have hb:(((0:Nat):Int)==(L.length:Int))=false:=by
   rw [hxr];simp;omega
  rw [hz,hb] at e0;simp only [cond_false,y9a] at e0;rw [next_word L hL 0 0 oA hcl] at e0;simp only [yqb,yma] at e0;have hle:(L.takeWhile wordP).length<=L.length:=(yxb wordP).length_le;rw [QHc L hL (2*L.length) _ (L.takeWhile wordP).length 0 hle,hsk] at e0;have hb2:(((L.length:Nat):Int)==(L.length:Int))=true:=beq_iff_eq.2 rfl;rw [hb2,ht] at e0;rw [e0];have:(s==s)=true:=(bytes_beq s s).2 rfl;simp [this]
theorem decode_blank (s:ByteArray) (h:(Utf8.decode s 0).1=9∨(Utf8.decode s 0).1=32):(s.get! 0).toNat=9∨(s.get! 0).toNat=32:=by
 unfold Utf8.decode at h;simp only [y6a,yma,Utf8.runeError] at h
 repeat' split at h
 all_goals first|exact h|(simp only [ge_iff_le,Nat.not_le] at *;omega)|(simp_all;omega)
theorem first_line (s:ByteArray) (x:Int) (r:List Int) (h:Qx0 s=x :: r):x=((Utf8.decode s 0).1:Int)∧0<s.size:=by
 unfold Qx0 Qf8 at h;cases hs:s.size with
 | zero=>rw [hs] at h;cases h
 | succ n =>
  rw [hs,Qy3 (by rw [hs];rfl)] at h;simp only [yjb,List.cons.injEq] at h;exact ⟨h.1.symm,Nat.succ_pos n⟩
theorem get_first (s:ByteArray) (h:0<s.size):∃ b q,s.data.toList=b :: q∧s.get! 0=b:=by
 obtain ⟨d⟩:=s;have hd:0<d.size:=h;refine ⟨d[0],d.toList.tail,?_,?_⟩
 ·cases hl:d.toList with
  | nil=>simp at hl;rw [hl] at hd;cases hd
  | cons a t=>
   have:d[0]=a:=by rw [← Array.getElem_toList];simp [hl]
   rw [this];rfl
 ·show d[0]! = d[0];exact getElem!_pos d 0 hd
theorem encode_letter (x:Int) (h:Qj0 x=2):∃ b q,(Utf8.encode x).data.toList=b :: q∧65<=b.toNat:=by
 have hx:65<=x∧x<=1114111 ∧ ¬ (55296<=x∧x<=57343):=by
  unfold Qj0 at h
  grind
 have hv:Utf8.valid x=true:=by
  unfold Utf8.valid;simp only [y2a,yea,yfa];omega
 unfold Utf8.encode;simp only [hv,if_true];have hc:∃ c:Nat,x.toNat=c∧65<=c∧c<=1114111:=⟨x.toNat,rfl,by omega,by omega⟩;obtain ⟨c,hcc,h1,h2⟩:=hc;rw [hcc]
 repeat' split
 all_goals refine ⟨_,_,rfl,?_⟩
 all_goals simp only [UInt8.toNat_ofNat']
 all_goals omega
theorem Qvh (x:Int) (r:List Int):∃ q,(runesBytes (x :: r)).data.toList=(Utf8.encode x).data.toList++q:=by
 unfold runesBytes;rw [ysb];have:∀ (l:List Int) (b:ByteArray),∃ q,(l.foldl (fun r n=>r++Utf8.encode n) b).data.toList=b.data.toList++q:=by
  intro l
  induction l with
  | nil=>exact fun b=>⟨[],by simp⟩
  | cons y t ih =>
   intro b;obtain ⟨q,hq⟩:=ih (b++Utf8.encode y);exact ⟨(Utf8.encode y).data.toList++q,by rw [ysb,hq];simp⟩
 obtain ⟨q,hq⟩:=this r (ByteArray.empty++Utf8.encode x);exact ⟨q,by rw [hq];simp⟩
theorem lower_first (x:Int) (r:List Int) (h:Qj0 x=2):∃ b q,(QX2 (runesBytes (x :: r))).data.toList=b :: q∧65<=b.toNat:=by
 obtain ⟨b,q,hb,h65⟩:=encode_letter x h;obtain ⟨q',hq⟩:=Qvh x r;rw [lower_ref,QSc];unfold Q22;rw [hq,hb];refine ⟨UInt8.ofNat (lowB (b.toNat:Int)).toNat,_,rfl,?_⟩;have hlt:=b.toNat_lt;rw [UInt8.toNat_ofNat'];unfold lowB;split <;> omega
theorem no_blank_word (s:ByteArray) (y:Int) (q:List Int) (hl:Qx0 s=y :: q) (hy:QX3 y=true) (x:Int) (r:List Int) (hx:Qj0 x=2):QX2 (runesBytes (x :: r)) ≠ s:=by
 intro e;obtain ⟨b,t,hb,h65⟩:=lower_first x r hx;rw [e] at hb;obtain ⟨h1,h2⟩:=first_line s y q hl;obtain ⟨b',t',hb',hg⟩:=get_first s h2;have hy':(Utf8.decode s 0).1=9∨(Utf8.decode s 0).1=32:=by
  unfold QX3 Qj0 at hy;subst h1
  grind
 have:=decode_blank s hy';rw [hg] at this;rw [hb] at hb';cases hb';omega
theorem end_go (L:List Int) (hL:L.length<=400) (a:Nat) (ha:Qj0 (L.getD a 0)=2):∀ (m i:Nat),i<=L.length->L.length - i<m->Qd3 L (a:Int) m (i:Int)=((i+((L.drop i).takeWhile wordP).length:Nat):Int)
 | 0,_,_,h=>absurd h oA
 | m+1,i,hi,hm=>by
  rw [Qd3];simp only [yna,ha];rcases yoa i L.length with h|h
  ·have hg:L.getD i 0=L[i]:=by simp [List.getD,yaa h]
   rw [yga (show (i:Int)<(L.length:Int) by omega),hg,yYa h,ytb];have e:(((((((2:Int)==2)&&((Qj0 L[i])!=2))&&((Qj0 L[i])!=3))&&(L[i]!=45))&&(L[i]!=95))) = !(wordP L[i]):=by
    unfold wordP bne;cases (Qj0 L[i]==2) <;> cases (Qj0 L[i]==3) <;> cases (L[i]==45) <;> cases (L[i]==95) <;> rfl
   rw [e];cases hw:wordP L[i] with
   | false=>simp
   | true =>
    have hww:w64 ((i:Int)+1)=((i+1:Nat):Int):=wr oA;have e3:((2:Int)==3)=false:=rfl;simp only [yib,cond_false,cond_true,e3,yHb,if_true];rw [hww,end_go L hL a ha m (i+1) oA oA,yja]
    congr 1
    omega
  ·rw [yka (show ¬ (i:Int)<(L.length:Int) by omega),ykb h];simp
theorem end_eq (L:List Int) (hL:L.length<=400) (a:Nat) (hlt:a<L.length) (ha:Qj0 (L.getD a 0)=2):QF1 L (a:Int)=((a+((L.drop a).takeWhile wordP).length:Nat):Int):=by
 unfold QF1;have hw:w64 ((a:Int)+1)=((a+1:Nat):Int):=wr oA;rw [hw,end_go L hL a ha _ (a+1) oA oA,yYa hlt,ytb];have hg:L.getD a 0=L[a]:=by simp [List.getD,yaa hlt]
 have:wordP L[a]=true:=by unfold wordP;rw [← hg,ha];rfl
 rw [this];simp only [if_true,yja]
 congr 1
 omega
theorem text_kind (L:List Int) (a:Int):∀ (m:Nat) (i:Int),(QE2 L a m i).1.kind ≠ 1
 | 0,i=>by simp [QE2,zD]
 | m+1,i=>by
  rw [QE2];simp only [yAa]
  repeat' split
  all_goals first|exact text_kind L a m _|(simp [zD];done)
theorem one_kind (L:List Int) (a:Int) (h:(Qj0 (L.getD (a.toNat) 0)==2)=false):(Qi1 L a).1.kind ≠ 1:=by
 unfold Qi1 QH3;rw [h];simp only [cond_false,yAa]
 repeat' split
 all_goals first|exact text_kind L a _ _|(simp [zD];done)|simp_all
theorem one_word (L:List Int) (hL:L.length<=400) (a:Nat) (hlt:a<L.length) (ha:Qj0 (L.getD a 0)=2) :
  Qi1 L (a:Int)=(⟨1,QX2 (runesBytes ((L.drop a).takeWhile wordP)),0,(a:Int)⟩,((a+((L.drop a).takeWhile wordP).length:Nat):Int),0,0):=by
 unfold Qi1;simp only [yna,ha,end_eq L hL a hlt ha];rw [take_run]
 rfl
section
variable (s:ByteArray)
theorem QAc:∀ (m:Nat) (out:List Token) (i:Int),(QO0 s m out i).1=[]∨out <+: (QO0 s m out i).1
 | 0,_,_=>.inl rfl
 | m+1,out,i=>by
  rw [QO0];cases (decide (i<((QN0 s).length:Int))) with
  | false=>exact .inr (List.prefix_refl _)
  | true =>
   simp only [cond_true];cases ((Qj0 ((QN0 s).getD (i.toNat) 0))==1) with
   | true=>exact QAc m out _
   | false =>
    simp only [cond_false];cases ((Qi1 (QN0 s) i).2.2.2 != 0) with
    | true=>exact .inl rfl
    | false =>
     rcases QAc m (out++[(Qi1 (QN0 s) i).1]) ((Qi1 (QN0 s) i).2.1) with h|h
     ·exact .inl h
     ·exact .inr (List.IsPrefix.trans (List.prefix_append _ _) h)
theorem rskip (hL:(Qx0 s).length<=400):∀ (k m:Nat) (out:List Token) (i:Nat),i+k<=(Qx0 s).length->(∀ y ∈ ((Qx0 s).drop i).take k,QX3 y=true)->QO0 s (m+k) out (i:Int)=QO0 s m out ((i+k:Nat):Int)
 | 0,_,_,_,_,_=>rfl
 | k+1,m,out,i,h,hb=>by
  have hi:i<(Qx0 s).length:=by omega
  rw [show m+(k+1)=(m+k)+1 by omega,QO0,Q8a,yga (show (i:Int)<((Qx0 s).length:Int) by omega),yna];have hg:(Qx0 s).getD i 0=(Qx0 s)[i]:=by simp [List.getD,yaa hi]
  rw [yYa hi,List.take_succ_cons] at hb;have hc:((Qj0 (Qx0 s)[i])==1)=true:=hb _ (yqa ..);have hw:w64 ((i:Int)+1)=((i+1:Nat):Int):=wr oA;rw [hg,hc,hw];simp only [cond_true];rw [rskip hL k m out (i+1) oA (fun y hy=>hb y (yha _ hy))]
  congr 2
  omega
theorem rskipB (hL:(Qx0 s).length<=400) (m:Nat) (out:List Token) (a:Nat) (ha:a<=(Qx0 s).length) (hm:(Qx0 s).length - a<m) :
  ∃ m',(Qx0 s).length - skipB (Qx0 s) a<m'∧QO0 s m out (a:Int)=QO0 s m' out ((skipB (Qx0 s) a:Nat):Int):=by
 have hle:=skipB_le (Qx0 s) a ha;have hk:skipB (Qx0 s) a=a+(((Qx0 s).drop a).takeWhile QX3).length:=rfl;refine ⟨m - (((Qx0 s).drop a).takeWhile QX3).length,by omega,?_⟩;rw [hk,← rskip s hL _ (m - (((Qx0 s).drop a).takeWhile QX3).length) out a oA ?_]
 ·congr 1
  omega
 ·intro y hy;have:((Qx0 s).drop a).take (((Qx0 s).drop a).takeWhile QX3).length=((Qx0 s).drop a).takeWhile QX3:=(List.prefix_iff_eq_take.1 (yxb QX3)).symm;rw [this] at hy;exact List.all_eq_true.1 (List.all_takeWhile ..) y hy
theorem rstep (m:Nat) (out:List Token) (a:Nat) (ha:a<(Qx0 s).length) (hb:QX3 ((Qx0 s).getD a 0)=false) :
  QO0 s (m+1) out (a:Int)=bif ((Qi1 (Qx0 s) (a:Int)).2.2.2 != 0) then ([],(Qi1 (Qx0 s) (a:Int)).2.2.1,(Qi1 (Qx0 s) (a:Int)).2.2.2) else QO0 s m (out++[(Qi1 (Qx0 s) (a:Int)).1]) (Qi1 (Qx0 s) (a:Int)).2.1:=by
 rw [QO0,Q8a,yga (show (a:Int)<((Qx0 s).length:Int) by omega),yna];have:((Qj0 ((Qx0 s).getD a 0))==1)=false:=hb;rw [this]
 rfl
theorem rend (m:Nat) (out:List Token):QO0 s (m+1) out ((Qx0 s).length:Int)=(out,((Qx0 s).length:Int),0):=by
 rw [QO0,Q8a,yka oA]
 rfl
theorem skip_no (L:List Int) (a:Nat) (h:skipB L a<L.length):QX3 (L.getD (skipB L a) 0)=false:=by
 unfold skipB at *;have hd:(L.drop a)[((L.drop a).takeWhile QX3).length]? = some (L.getD (a+((L.drop a).takeWhile QX3).length) 0):=by
  rw [yFa,List.getD,yaa h]
  rfl
 have hsp:L.drop a=(L.drop a).takeWhile QX3++(L.drop a).dropWhile QX3:=(List.takeWhile_append_dropWhile).symm;generalize hX:(L.drop a).takeWhile QX3=X at *;generalize hY:(L.drop a).dropWhile QX3=Y at *;rw [hsp,yxa (yla _),ybc] at hd;cases hc:Y with
 | nil=>rw [hc] at hd;cases hd
 | cons y t =>
  rw [hc] at hd;simp only [ydb,yba] at hd;rw [← hd];have:=List.head_dropWhile_not QX3 (l:=L.drop a) (by rw [hY,hc];simp);simpa [hY,hc] using this
end
theorem word_ref (s:ByteArray):Qc4 s=true ↔ Wd s:=by
 rcases yoa 400 s.size with hs|hs
 ·constructor
  ·intro h;unfold Qc4 QJ0 at h;rw [yga (show (s.size:Int) > 400 by omega)] at h;cases h
  ·rintro ⟨h,_⟩;omega
 have hL:(Qx0 s).length<=400:=yHa (line_len s) hs;have e0:QJ0 s=QO0 s ((Qx0 s).length+1) [] ((0:Nat):Int):=by
  unfold QJ0;rw [yka (show ¬ (s.size:Int) > 400 by omega),Q8a]
  rfl
 obtain ⟨m1,hm1,e1⟩:=rskipB s hL ((Qx0 s).length+1) [] 0 oA oA;rw [e1] at e0;have hle0:=skipB_le (Qx0 s) 0 oA;obtain ⟨m2,rfl⟩:∃ m2,m1=m2+1:=⟨m1 - 1,by omega⟩;unfold Wd Qc4;constructor
 ·intro h;cases h1:(((QJ0 s).2.2 != 0)||((((QJ0 s).1).length:Int)!=1)) with
  | true=>rw [h1] at h;cases h
  | false =>
   rw [h1] at h;simp only [cond_false] at h;have hleni:((QJ0 s).1.length:Int)=1:=by simpa using (or_f h1).2
   have hlen:(QJ0 s).1.length=1:=by omega
   cases h2:((((((QJ0 s).1).getD 0 zD).kind != 1)||(!(ByteArray.toList (((QJ0 s).1).getD 0 zD).text==ByteArray.toList s)))||((((QJ0 s).1).getD 0 zD).num != 0)) with
   | true=>rw [h2] at h;cases h
   | false =>
    obtain ⟨h3,_⟩:=or_f h2;obtain ⟨hk,ht⟩:=or_f h3;have hk:((QJ0 s).1.getD 0 zD).kind=1:=by simpa using hk
    have ht:((QJ0 s).1.getD 0 zD).text=s:=by
     have:(ByteArray.toList (((QJ0 s).1).getD 0 zD).text==ByteArray.toList s)=true:=by simpa using ht
     exact (QTc _ _).1 this
    rcases yzb hle0 with hb|hb
    ·rw [hb,rend] at e0;rw [e0] at hlen;cases hlen
    ·have hnb:=skip_no _ _ hb;rw [rstep s m2 [] _ hb hnb] at e0;cases he:((Qi1 (Qx0 s) ((skipB (Qx0 s) 0:Nat):Int)).2.2.2 != 0) with
     | true =>
      rw [he] at e0;rw [e0] at hlen;cases hlen
     | false =>
      rw [he] at e0;simp only [cond_false,y9a] at e0;have hp:∀ o i m,QJ0 s=QO0 s m o i->(QJ0 s).1=[]∨o <+: (QJ0 s).1:=fun o i m e=>by rw [e];exact QAc s _ _ _
      rcases hp _ _ _ e0 with h'|h'
      ·rw [h'] at hlen;cases hlen
      ·have hhead:(QJ0 s).1.getD 0 zD=(Qi1 (Qx0 s) ((skipB (Qx0 s) 0:Nat):Int)).1:=by
        obtain ⟨q,hq⟩:=h';rw [← hq]
        rfl
       rw [hhead] at hk ht;have hcl:(Qj0 ((Qx0 s).getD (skipB (Qx0 s) 0) 0)==2)=true:=by
        cases hcc:(Qj0 ((Qx0 s).getD (skipB (Qx0 s) 0) 0)==2) with
        | true=>rfl
        | false=>exact absurd hk (one_kind _ _ (by rw [yna];exact hcc))
       have hcl':=eq_of_beq hcl;rw [one_word _ hL _ hb hcl'] at e0 ht;simp only at e0 ht;have hfirst:(Qx0 s).drop (skipB (Qx0 s) 0)=(Qx0 s).getD (skipB (Qx0 s) 0) 0 :: (Qx0 s).drop (skipB (Qx0 s) 0+1):=by
        rw [yYa hb]
        congr 1
        simp [List.getD,yaa hb]
       have hwp:wordP ((Qx0 s).getD (skipB (Qx0 s) 0) 0)=true:=by unfold wordP;rw [hcl'];rfl
       have hz:skipB (Qx0 s) 0=0:=by
        rcases yNa (skipB (Qx0 s) 0) with hz|hz
        ·exact hz
        ·exfalso;cases hl:Qx0 s with
         | nil=>rw [hl] at hb;exact absurd hb (by simp)
         | cons y q =>
          have hy:QX3 y=true:=by
           cases hbl:QX3 y with
           | true=>rfl
           | false =>
            have:skipB (Qx0 s) 0=0:=by
             unfold skipB;rw [yqb,hl,ytb,hbl]
             rfl
            omega
          rw [hfirst,ytb,hwp] at ht;exact no_blank_word s y q hl hy _ _ hcl' ht
       rw [hz] at e0 ht hcl' hb;simp only [yqb,yma] at e0 ht;cases hl:Qx0 s with
       | nil=>rw [hl] at hb;exact absurd hb (by simp)
       | cons x r =>
        rw [← hl];refine ⟨hs,x,r,hl,by rw [hl] at hcl';exact hcl',ht,?_⟩;have hle:((Qx0 s).takeWhile wordP).length<=(Qx0 s).length:=(yxb wordP).length_le;have hpos:0<((Qx0 s).takeWhile wordP).length:=by
         rw [hl,ytb];have hcx:Qj0 x=2:=by rw [hl] at hcl';exact hcl'
         have:wordP x=true:=by unfold wordP;rw [hcx];rfl
         rw [this];simp
        obtain ⟨m3,hm3,e3⟩:=rskipB s hL m2 [⟨1,QX2 (runesBytes ((Qx0 s).takeWhile wordP)),0,((0:Nat):Int)⟩] ((Qx0 s).takeWhile wordP).length hle oA;rw [e3] at e0;have hle2:=skipB_le (Qx0 s) _ hle;rcases yzb hle2 with hq|hq
        ·exact hq
        ·exfalso;obtain ⟨m4,rfl⟩:∃ m4,m3=m4+1:=⟨m3 - 1,by omega⟩;rw [rstep s m4 _ _ hq (skip_no _ _ hq)] at e0;cases he2:((Qi1 (Qx0 s) ((skipB (Qx0 s) ((Qx0 s).takeWhile wordP).length:Nat):Int)).2.2.2 != 0) with
         | true =>
          rw [he2] at e0;rw [e0] at hlen;cases hlen
         | false =>
          rw [he2] at e0;simp only [cond_false] at e0;rcases hp _ _ _ e0 with h''|h''
          ·rw [h''] at hlen;cases hlen
          ·have:=h''.length_le;rw [hlen] at this;simp at this
 ·rintro ⟨_,x,r,hl,hx,ht,hsk⟩;have hz:skipB (Qx0 s) 0=0:=by
   unfold skipB;rw [yqb,hl,ytb];have:QX3 x=false:=by unfold QX3;rw [hx];rfl
   rw [this]
   rfl
  have hb:0<(Qx0 s).length:=by rw [hl];simp
  have hg:(Qx0 s).getD 0 0=x:=by rw [hl];rfl
  rw [hz] at e0 hm1;have hnb:QX3 ((Qx0 s).getD 0 0)=false:=by rw [hg];unfold QX3;rw [hx];rfl
  rw [rstep s m2 [] 0 hb hnb,one_word _ hL 0 hb (by rw [hg];exact hx)] at e0;simp only [yqb,yma,y9a] at e0;have e00:((0:Int)!=0)=false:=rfl;rw [e00] at e0;simp only [cond_false] at e0;have hle:((Qx0 s).takeWhile wordP).length<=(Qx0 s).length:=(yxb wordP).length_le;have hpos:0<((Qx0 s).takeWhile wordP).length:=by
   rw [hl,ytb];have:wordP x=true:=by unfold wordP;rw [hx];rfl
   rw [this];simp
  obtain ⟨m3,hm3,e3⟩:=rskipB s hL m2 [⟨1,QX2 (runesBytes ((Qx0 s).takeWhile wordP)),0,((0:Nat):Int)⟩] ((Qx0 s).takeWhile wordP).length hle oA;rw [e3,hsk,ht] at e0;obtain ⟨m4,rfl⟩:∃ m4,m3=m4+1:=⟨m3 - 1,by omega⟩;rw [rend] at e0;rw [e0];simp
theorem word_eq (s:ByteArray):QM6 s=Qc4 s:=by
 rw [yMa,word_prog,word_ref]
theorem alts_le {s:Shape} (h:(Qa2 s==0)=true):s.alts.length<=6:=by
 have h:=eq_of_beq h;unfold Qa2 Qk2 at h
 by_cases h1:s.kind=1
 ·simp only [h1,beq_self_eq_true,cond_true] at h
  grind
 by_cases h2:s.kind=2
 ·have:((2:Int)==1)=false:=rfl;simp only [h2,beq_self_eq_true,cond_true,this,cond_false] at h
  grind
 by_cases h3:s.kind=3
 ·have e1:((3:Int)==1)=false:=rfl;have e2:((3:Int)==2)=false:=rfl;simp only [h3,beq_self_eq_true,cond_true,e1,e2,cond_false] at h
  grind
 have e1:(s.kind==1)=false:=by simpa using h1
 have e2:(s.kind==2)=false:=by simpa using h2
 have e3:(s.kind==3)=false:=by simpa using h3
 rw [e1,e2,e3] at h;cases h
theorem deps_le {l:List Dep} (h:QM8 l=true):l.length<=4:=by
 rcases yoa 4 l.length with h'|h'
 ·unfold QM8 at h;rw [Qqg l h'] at h;cases h
 ·exact h'
theorem cmd_self (c:Cmd):QEb c c=true:=by
 unfold QEb;rw [(shape_same _ _).2 rfl,(equal_Dep _ _).2 rfl];simp
theorem submission_eq (n u a:ByteArray) (sh:Shape) (p:Int) (l:List Dep) :
  QM4 ⟨1,0,n,u,a,sh,p,true,0,false,l,0,0,0⟩=Qf5 ⟨1,0,n,u,a,sh,p,true,0,false,l,0,0,0⟩:=by
 have hbare:QL8 ⟨1,0,n,u,a,sh,p,true,0,false,l,0,0,0⟩=⟨1,0,n,u,a,sh,p,true,0,false,l,0,0,0⟩:=rfl;have hf:Qt9 ⟨1,0,n,u,a,sh,p,true,0,false,l,0,0,0⟩=((Ql1 p 0 100)&&(((((((Qj6 n)&&(Qj6 u))&&(Qj6 a))&&(QM6 u))&&(QM6 a))&&(QM8 l))&&((Qa2 sh)==0))):=by
  unfold Qt9;show (bif ((((true&&(!(Ql1 p 0 100)))||false)||false)||false) then false else _)=_;cases (Ql1 p 0 100) <;> rfl
 have hr:Qf5 ⟨1,0,n,u,a,sh,p,true,0,false,l,0,0,0⟩=bif !((((((((QT3 n)&&(QT3 u))&&(QT3 a))&&(Qc4 u))&&(Qc4 a))&&(QV6 l))&&((Qj1 sh)==0))&&(Ql1 p 0 100)) then 80 else 0:=by
  unfold Qf5 Qz2 Qc8 Qd8 Qr2;simp
 rw [hr];unfold QM4;rw [hbare,cmd_self,hf,← name_eq,← name_eq,← name_eq,← word_eq,← word_eq,← deps_eq,← QP9];cases hd:QM8 l with
 | false=>cases (Ql1 p 0 100) <;> simp
 | true =>
  cases hs:(Qa2 sh==0) with
  | false=>cases (Ql1 p 0 100) <;> simp
  | true =>
   have h1:=alts_le hs;have h2:=deps_le hd;have e1:decide ((sh.alts.length:Int) > 6)=false:=yka oA;have e2:decide ((l.length:Int) > 4)=false:=yka oA;show (bif (((decide ((sh.alts.length:Int) > 6))||(decide ((l.length:Int) > 4)))||_)||_ then (80:Int) else 0)=_;rw [e1,e2];cases (Ql1 p 0 100) <;> cases Qj6 n <;> cases Qj6 u <;> cases Qj6 a <;> cases QM6 u <;> cases QM6 a <;> rfl
theorem opt_wall (s:Shape):∀ x ∈ Qi0 s,1<=x.wall∧x.wall<=100000:=by
 intro x hx;cases hc:(Qj1 s != 0) with
 | true =>
  unfold Qi0 at hx;rw [hc] at hx;cases hx
 | false =>
  have hz:Qj1 s=0:=by simpa using hc
  cases hk:(s.kind==3) with
  | true =>
   have hk3:s.kind=3:=by simpa using hk
   have hw:1<=s.wall∧s.wall<=100000:=by
    unfold Qj1 at hz;simp only [hk3,beq_self_eq_true,cond_true] at hz;cases hq:(((((decide ((s.alts.length:Int) > 0))||(!(Qt1 s.min)))||(!(Qt1 s.max)))||(decide (s.max<s.min)))||(!(Q52 s.wall))) with
    | true=>rw [hq] at hz;cases hz
    | false =>
     have:=(or_f hq).2;unfold Q52 at this;simp at this;omega
   rw [← Q29] at hx;unfold Qd1 at hx;rw [QP9,hc,hk] at hx;simp only [cond_false,cond_true] at hx;rcases List.mem_append.1 hx with hx|hx
   ·have h0:s.alts.length=0:=by
     unfold Qj1 at hz;simp only [hk3,beq_self_eq_true,cond_true] at hz;cases hq:(((((decide ((s.alts.length:Int) > 0))||(!(Qt1 s.min)))||(!(Qt1 s.max)))||(decide (s.max<s.min)))||(!(Q52 s.wall))) with
     | true=>rw [hq] at hz;cases hz
     | false =>
      have:=yca (or_f (or_f (or_f (or_f hq).1).1).1).1;omega
    rw [yBa h0] at hx;cases hx
   ·unfold Q17 at hx;obtain ⟨i,_,rfl⟩:=List.mem_map.1 hx;exact hw
  | false =>
   have hk':(s.kind != 3)=true:=by unfold bne;rw [hk];rfl
   have hx':x ∈ s.alts:=by
    unfold Qi0 at hx;rw [hc,hk'] at hx;exact hx
   have hg:QK0 s s.alts 0=0:=by
    unfold Qj1 QI3 at hz;rw [hk] at hz;simp only [cond_false] at hz
    grind
   have:=((g2_eq s s.alts 0 (by simp)).1.1 hg).1 x hx';unfold okAlt Q52 at this;simp at this;omega
theorem QUg (v:Job) (c:Int):(QM0 v c).2=decide (Qt2 v.shape c > 0)∧((QM0 v c).2=false ↔ Qt2 v.shape c=0)∧((QM0 v c).2=true->(QM0 v c).1.wall=Qt2 v.shape c∧1<=Qt2 v.shape c∧Qt2 v.shape c<=100000):=by
 unfold QM0 Qt2;rw [Q29];cases hb:((decide (c<0))||(decide (c >= ((Qi0 v.shape).length:Int)))) with
 | true=>exact ⟨rfl,⟨fun _=>rfl,fun _=>rfl⟩,fun h=>(by cases h)⟩
 | false =>
  obtain ⟨h1,h2⟩:=or_f hb;have h1:=yca h1;have h2:=yca h2;simp only [cond_false];have hm:(Qi0 v.shape).getD (c.toNat) zA ∈ Qi0 v.shape:=by
   rw [List.getD,yaa (show c.toNat<(Qi0 v.shape).length by omega)];exact yZa _
  have hw:=opt_wall v.shape _ hm;exact ⟨(yga oA).symm,⟨fun h=>(by cases h),fun h=>by omega⟩,fun _=>⟨trivial,hw⟩⟩
theorem nodes_few {s:Int} (hs:U64 s):Qm7 s=Qqb s:=by
 obtain ⟨au,ab⟩:=QOa (n:=48) (by decide);have au:U64 (QZ3 48):=au;have ab:∀ k,tb (QZ3 48) k=decide (k<48):=ab;unfold Qm7 Qqb;rw [yMa,Qjc (QJ8 _),yfa];have ht:∀ k,tb (wu64 (BitVec.ofInt 64 s &&& ~~~(BitVec.ofInt 64 (QZ3 48))).toNat) k=(tb s k && !decide (k<48)):=fun k=>by rw [Qg6 hs au,ab]
 have p48:(2:Nat) ^ 48=281474976710656:=by decide
 constructor
 ·intro h;have:s.toNat<2 ^ 48:=by
   refine Nat.lt_pow_two_of_testBit _ fun k hk=>?_
   rcases yoa k 64 with hk'|hk'
   ·have:=h k hk';rw [ht,yka (show ¬ k<48 by omega)] at this;simpa [tb] using this
   ·exact QGc hs hk'
  rw [p48] at this;unfold U64 at hs;omega
 ·intro h k _;rw [ht];rcases yoa k 48 with hk|hk
  ·rw [yga hk];simp
  ·have:tb s k=false:=by
    unfold tb;refine y9b (y0a (m:=2 ^ 48) ?_ (yjc (by decide) hk));rw [p48];unfold U64 at hs;omega
   rw [this]
   rfl
theorem queued_eq {v:Job} (h:v.state=1):QC2 v=QI1 v:=by
 unfold QI1;rw [h];simp only [beq_self_eq_true,cond_true];unfold QC2;rw [(QUg v v.choice).1];have et:Qw2=Qz1:=rfl;rw [et];cases hp:(v.promise==(-1)) with
 | true =>
  have:v.promise = -1:=by simpa using hp
  have hT:Qz1 v.promise=false:=by rw [this];rfl
  rw [hT];unfold bne;cases (v.start==0) <;> cases (v.limit==0) <;> cases (v.nodes==0) <;> simp
 | false =>
  unfold bne;cases (v.start==0) <;> cases (v.limit==0) <;> cases (v.nodes==0) <;> simp
theorem running_eq {v:Job} (h:v.state=2) (hn:U64 v.nodes):Qr1 v=QI1 v:=by
 unfold QI1;rw [h];have e1:((2:Int)==1)=false:=rfl;simp only [beq_self_eq_true,cond_true,e1,cond_false];unfold Qr1;rw [nodes_few hn,allows_eq,QU9 hn];have et:Qw2=Qz1:=rfl;rw [et];obtain ⟨_,o2,o3⟩:=QUg v v.choice;cases ho:(QM0 v v.choice).2 with
 | false =>
  rw [o2.1 ho]
  rfl
 | true =>
  obtain ⟨w1,w2,w3⟩:=o3 ho;have hw0:(Qt2 v.shape v.choice==0)=false:=by simp;omega
  rw [hw0,w1];simp only [yib,y3a];cases v.held with
  | true=>rfl
  | false =>
   cases hs:Qz1 v.start with
   | false=>rfl
   | true =>
    cases Qz1 v.promise with
    | false=>rfl
    | true =>
     have:decide (v.promise<v.start)=decide (v.start > v.promise):=rfl;rw [this];cases decide (v.start > v.promise) with
     | true=>rfl
     | false =>
      cases hl:Qz1 v.limit with
      | false=>rfl
      | true =>
       unfold Qz1 at hs hl;simp only [yea,yfa] at hs hl;have q1:w64 (v.limit - v.start)=v.limit - v.start:=wr oA;have q2:w64 (v.start+Qt2 v.shape v.choice)=v.start+Qt2 v.shape v.choice:=wr oA;rw [q1,q2];have:(v.limit - v.start != Qt2 v.shape v.choice)=(v.limit != v.start+Qt2 v.shape v.choice):=by
        rw [yMa];simp only [bne_iff_ne];omega
       rw [this]
theorem over_eq {v:Job} (h1:(v.state==1)=false) (h2:(v.state==2)=false):(Qf9 v.state&&Qc5 v)=QI1 v:=by
 unfold QI1;rw [h1,h2];have et:Qw2=Qz1:=rfl;have ee:Qf9=QBa:=rfl;unfold Qc5;rw [et,ee];simp only [cond_false,Bool.and_assoc]
theorem ref14_go (j:Job):∀ (l:List Dep) (i:Nat),QM3 j l i=bif l.any (fun y=>decide (y.job >= j.id)) then 140 else (bif !(QI1 j) then 140 else 0)
 | [],i=>rfl
 | x :: r,i=>by
  rw [QM3,y6b];cases decide (x.job >= j.id) with
  | true=>rfl
  | false=>simpa using ref14_go j r (i+1)
theorem job_eq (j:Job) (hn:U64 j.nodes):Qe1 j=Qo2 j:=by
 unfold Qe1 Qo2;rw [ref14_go,any_Dep];have es:QM4 (Qq0 j)=Qf5 ⟨1,0,j.name,j.user,j.account,j.shape,j.prio,true,0,false,j.after,0,0,0⟩:=submission_eq _ _ _ _ _ _;rw [es];have et:Qw2=Qz1:=rfl;rw [et];have eu:(j.used != Q25 j.used)=(decide (j.used<0)||decide (j.used > 1000000000000)):=by
  unfold Q25 QG6
  grind
 rw [eu];have est:(bif (j.state==1) then (bif (!(QC2 j)) then (140:Int) else 0) else bif (j.state==2) then (bif (!(Qr1 j)) then 140 else 0) else bif (!(Qf9 j.state)) then 140 else bif (!(Qc5 j)) then 140 else 0)=(bif !(QI1 j) then 140 else 0):=by
  cases h1:(j.state==1) with
  | true =>
   rw [queued_eq (by simpa using h1)]
   rfl
  | false =>
   cases h2:(j.state==2) with
   | true =>
    rw [running_eq (by simpa using h2) hn]
    rfl
   | false =>
    rw [← over_eq h1 h2];cases Qf9 j.state <;> cases Qc5 j <;> rfl
 rw [est];generalize (bif !(QI1 j) then (140:Int) else 0)=Z;generalize (List.any j.after fun y=>decide (y.job >= j.id))=A;generalize ((Qf5 ⟨1,0,j.name,j.user,j.account,j.shape,j.prio,true,0,false,j.after,0,0,0⟩)!=0)=B;generalize decide (j.id<1)=C;generalize decide (j.id > 99999)=D;generalize Qz1 j.born=E;generalize decide (j.used<0)=F;generalize decide (j.used > 1000000000000)=G;cases A <;> cases B <;> cases C <;> cases D <;> cases E <;> cases F <;> cases G <;> rfl
theorem table_eq (l:List Job) (hl:l.length<=4294967296) (hn:∀ x ∈ l,U64 x.nodes):QK1 l=Qh5 l:=by
 have h:=ord_eq zG (·.id) (fun x=>Qe1 x != 0) 140 40 l hl (QQ5 l) Qw4 (fun _=>rfl) (fun _ _ _ _=>rfl) (fun _ _=>rfl) (fun x hx r last i _=>by
   rw [Qw4,job_eq x (hn x hx)]
   rfl) (fun x hx=>(QO7 (by simpa using hx)).1) l 0 0 (by simp) oA oA (fun _=>rfl) (fun h=>absurd h oA)
 unfold QK1 Qh5;rw [← h];have e:decide ((l.length:Int) > 40)=decide (l.length > 40):=by rw [yMa];simp only [yfa];omega
 rw [e]
theorem room_eq (s:State) (hs:s.sz) (hn:∀ x ∈ s.jobs,U64 x.nodes):QH1 s=Qi5 s:=by
 unfold QH1 Qi5;rw [Qo4,table_eq s.jobs hs.2.1 hn,QPc s.books hs.2.2.2.2.1];unfold Qz1;have:(decide (s.now<0)||decide (s.now > 1000000)) = !(decide (s.now >= 0)&&decide (s.now<=1000000)):=by
  rw [yMa];simp only [y2a,yfa,y4a,yOb,yGa];omega
 rw [this]
theorem plan_eq (s:State) (hs:s.sz) (hn:∀ x ∈ s.jobs,U64 x.nodes):QL2 s=QX6 s:=by
 unfold QL2 QX6;rw [room_eq s hs hn,QJg s.ledger hs.2.2.2.2.2.1]
theorem pow_step (i:Nat) (h:i<63):wu64 ((2:Int) ^ i*2)=(2:Int) ^ (i+1):=by
 rw [← Int.pow_succ];exact QG8 (pow_U oA)
theorem bit09_go (n:Nat) (hn:n<=63):∀ (m i:Nat),i<=n->n - i<m->(Q66 (n:Int) m ((2:Int) ^ i) i).1=(2:Int) ^ n
 | 0,_,_,h=>absurd h oA
 | m+1,i,hi,hm=>by
  rw [Q66];rcases yoa i n with h|h
  ·rw [yga (show (i:Int)<(n:Int) by omega),pow_step i oA];exact bit09_go n hn m (i+1) oA oA
  ·obtain rfl:i=n:=by omega
   rw [yka oA]
   rfl
theorem bit09 (n:Nat) (hn:n<=63):Qu7 (n:Int)=(2:Int) ^ n:=by
 unfold Qu7 Qc7;have:=bit09_go n hn (((n:Int) - (0:Int)).toNat+1) 0 oA oA;simpa using this
theorem bit12_go (n:Nat) (hn:n<=63):∀ (m i:Nat),i<=n->n - i<m->(Q96 (n:Int) m ((2:Int) ^ i) i).1=(2:Int) ^ n
 | 0,_,_,h=>absurd h oA
 | m+1,i,hi,hm=>by
  rw [Q96];rcases yoa i n with h|h
  ·rw [yga (show (i:Int)<(n:Int) by omega),Int.mul_comm,pow_step i oA];exact bit12_go n hn m (i+1) oA oA
  ·obtain rfl:i=n:=by omega
   rw [yka oA]
   rfl
theorem bit12 (n:Nat) (hn:n<=63):Q4a (n:Int)=(2:Int) ^ n:=by
 unfold Q4a Qf7;have:=bit12_go n hn (((n:Int) - (0:Int)).toNat+1) 0 oA oA;simpa using this
theorem has_eq {s:Int} (hs:U64 s) (n:Nat):Qu8 s (n:Int)=QV0 s (n:Int):=by
 rw [QA6 hs];unfold Qu8;rcases yoa n 64 with h|h
 ·rw [yka (show ¬ (n:Int)<0 by omega),yka (show ¬ (n:Int) > 63 by omega),yga h,bit09 n oA];simp only [y5b,cond_false,yIb];obtain ⟨q,rfl⟩:∃ q:Nat,s=(q:Int):=⟨s.toNat,by unfold U64 at hs;omega⟩;obtain ⟨p,e,e'⟩:=Qx8 n;have e1:Int.tdiv (q:Int) (p:Int)=((q / p:Nat):Int):=rfl;have hq:q / p<18446744073709551616:=by
   have:=Nat.div_le_self q p;unfold U64 at hs;omega
  rw [e,e1,tb,yna,Nat.testBit_eq_decide_div_mod_eq,e'];generalize q / p=w at *;rw [QG8 ⟨by omega,by omega⟩];have e2 : Int.tmod (w : Int) 2 = ((w % 2 : Nat) : Int) := rfl;rw [e2,yMa];simp;omega
 ·rw [yga (show (n:Int) > 63 by omega),yka (show ¬ n<64 by omega)];simp
theorem of_go (job st:Int) (l:List Node) (hl:l.length<=64):∀ (r:List Node) (i:Nat),r=l.drop i->i+r.length=l.length ->
  (Q86 job st r (Q23 (fun k=>((l.getD k zF).job==job)&&((l.getD k zF).state==st)) i) i).1=Q23 (fun k=>((l.getD k zF).job==job)&&((l.getD k zF).state==st)) l.length
 | [],i,hr,hlen=>by
  have:i=l.length:=by simpa using hlen
  subst this
  rfl
 | x :: r,i,hr,hlen=>by
  simp only [yja] at hlen;have hr':r=l.drop (i+1):=by rw [← yub,← hr];rfl
  have hi:l[i]? = some x:=by
   have:=congrArg (fun q=>q[0]?) hr;simpa [yFa] using this.symm
  have hg:l.getD i zF=x:=by simp [List.getD,hi]
  have ih:=of_go job st l hl r (i+1) hr' oA;rw [Q86];rw [Q23,hg] at ih;cases hc:((x.job==job)&&(x.state==st)) with
  | true =>
   rw [hc] at ih;simp only [cond_true] at ih ⊢;have hlt:=Qha (fun k=>((l.getD k zF).job==job)&&((l.getD k zF).state==st)) i;have hu:U64 (Q23 (fun k=>((l.getD k zF).job==job)&&((l.getD k zF).state==st)) i+(2:Int) ^ i):=by
    have:=bitsUpto_U (fun k=>((l.getD k zF).job==job)&&((l.getD k zF).state==st)) (n:=i+1) oA;rw [Q23] at this;simp only [hg,hc,cond_true] at this;exact this
   rw [bit12 i oA,QG8 hu];exact ih
  | false =>
   rw [hc] at ih;exact ih
theorem of_eq (l:List Node) (job st:Int):Ql7 l job st=Qx7 l job st:=by
 unfold Qx7;rw [← Qo4];cases hc:(Q80 l != 0) with
 | true =>
  unfold Ql7 Q71;rw [hc]
  rfl
 | false =>
  have hz:Q80 l=0:=by simpa using hc
  have hl:l.length<=64:=by
   unfold Q80 at hz;cases h1:(((decide ((l.length:Int)<1))||(decide ((l.length:Int) > 48)))||(QI0 l (fun (y:Node)=>(!(QR0 y))))) with
   | true=>rw [h1] at hz;cases hz
   | false =>
    have:=yca (or_f (or_f h1).1).2;omega
  obtain ⟨u,b⟩:=Q74 l (fun (y:Node)=>((y.job==job)&&(y.state==st))) hz hl;have h:=of_go job st l hl l 0 (by simp) oA;simp only [cond_false,QW6];rw [Q23] at h;rw [h];refine QZd u (bitsUpto_U _ hl) fun k _=>?_
  rw [tb_upto];exact b k
theorem QSf (s:State) (is:Int->Node->Bool) (hl:s.nodes.length<=64):U64 (Q03 s is) ∧ ∀ k,tb (Q03 s is) k=(decide (k<s.nodes.length)&&is (k:Int) (s.nodes.getD k zF)):=by
 have e:Q03 s is=(QS0 (idxL (fun k x=>is (k:Int) x) s.nodes 0)).1:=by
  unfold Q03 QF4;rw [Q1g (fun k x=>is (k:Int) x) (QK6 is) (fun _ _=>rfl) (fun _ _ _ _=>rfl),y9a]
 rw [e];exact set_where (fun k x=>is (k:Int) x) zF s.nodes hl
theorem list_go {s:Int} (hs:U64 s):∀ (m:Nat) (out:List Int) (i:Nat),i<=64->64 - i<m->QM1 s m out i=out++((List.range' i (64 - i)).filter (tb s)).map fun (k:Nat)=>(k:Int)
 | 0,_,_,_,h=>absurd h oA
 | m+1,out,i,hi,hm=>by
  rw [QM1];rcases yoa i 64 with h|h
  ·have e:64 - i=(64 - (i+1))+1:=by omega
   rw [yga (show (i:Int)<64 by omega),and_one hs h,e,List.range'_succ,yAb];cases tb s i with
   | true =>
    simp only [cond_true,if_true,yjb];rw [list_go hs m _ (i+1) oA oA,yfb]
    rfl
   | false =>
    simp only [cond_true,cond_false];rw [list_go hs m _ (i+1) oA oA]
    rfl
  ·rw [yka (show ¬ (i:Int)<64 by omega),show 64 - i=0 by omega];simp
theorem list_mem {s:Int} (hs:U64 s) (x:Int):x ∈ Qo0 s ↔ ∃ k:Nat,k<64∧tb s k=true∧x=(k:Int):=by
 unfold Qo0 Qc3;rw [list_go hs _ [] 0 oA oA];simp only [y9a,yKb,yTb,List.mem_range'];constructor
 ·rintro ⟨k,⟨⟨j,hj,rfl⟩,hb⟩,rfl⟩;exact ⟨_,by omega,hb,rfl⟩
 ·rintro ⟨k,hk,hb,rfl⟩;exact ⟨k,⟨⟨k,by omega,by omega⟩,hb⟩,rfl⟩
theorem quiet_go (l:List Node):∀ (r:List Int) (i:Nat),Qm4 l r i=r.all fun x=>(decide (x<(l.length:Int)))&&((l.getD (x.toNat) zF).want==0)
 | [],i=>rfl
 | x :: r,i=>by
  rw [Qm4,List.all_cons,quiet_go l r];cases ((decide (x<(l.length:Int)))&&((l.getD (x.toNat) zF).want==0)) <;> rfl
theorem quiet_iff {l:List Node} {s:Int} (hs:U64 s) (hc:Q80 l=0):QS2 l s=true ↔ ∀ k,k<64->tb s k=true->k<l.length∧(l.getD k zF).want=0:=by
 unfold QS2;rw [hc,quiet_go];show (Qo0 s).all _=true ↔ _;rw [y5a];constructor
 ·intro h k hk hb;have:=h (k:Int) ((list_mem hs _).2 ⟨k,hk,hb,rfl⟩);simp only [yea,yfa,beq_iff_eq,yna] at this;exact ⟨by omega,this.2⟩
 ·intro h x hx;obtain ⟨k,hk,hb,rfl⟩:=(list_mem hs _).1 hx;obtain ⟨h1,h2⟩:=h k hk hb;simp only [yea,yfa,beq_iff_eq,yna];exact ⟨by omega,h2⟩
theorem QP8 {α β:Type} [BEq α] [LawfulBEq α] (k k':α) (v:β):∀ l:List (α × β),getM k (setM k' v l)=bif k==k' then some v else getM k l
 | []=>rfl
 | p :: r=>by
  rw [setM];cases hp:k'==p.1 with
  | true =>
   have e:=eq_of_beq hp;simp only [cond_true,getM];rw [← e];cases k==k' <;> rfl
  | false =>
   simp only [cond_false,getM];rw [QP8 k k' v r];cases hk:k==k' with
   | true =>
    have e:=eq_of_beq hk;subst e;rw [hp]
    rfl
   | false=>rfl
theorem QO8 (id:Int):∀ (l:List Job) (i:Nat) (c:List (Int × Job)),(∀ x ∈ l,x.state=2->x.id ≠ id)->getM id (Qy0 l i c)=getM id c
 | [],i,c,_=>rfl
 | x :: r,i,c,h=>by
  rw [Qy0];have ih:=fun c=>QO8 id r (i+1) c fun y hy=>h y (yha _ hy)
  cases hs:(x.state==2) with
  | false=>exact ih c
  | true =>
   have hne:=h x (yqa ..) (by simpa using hs);show getM id (Qy0 r (i+1) (setM x.id x c))=_;have hb:(id==x.id)=false:=by simpa using Ne.symm hne
   rw [ih,QP8,hb]
   rfl
theorem Qra (x:Job) (hs:x.state=2):∀ (l:List Job) (i:Nat) (c:List (Int × Job)),x ∈ l->l.Pairwise (fun a b=>a.id<b.id)->getM x.id (Qy0 l i c)=some x
 | [],i,c,h,_=>nomatch h
 | y :: r,i,c,h,hp=>by
  obtain ⟨h1,h2⟩:=List.pairwise_cons.1 hp;rw [Qy0];rcases List.mem_cons.1 h with rfl|h
  ·rw [beq_iff_eq.2 hs];show getM x.id (Qy0 r (i+1) (setM x.id x c))=_;rw [QO8 x.id r (i+1) _ (fun z hz _=>by have:=h1 z hz;omega),QP8,beq_self_eq_true]
   rfl
  ·cases (y.state==2) with
   | true=>exact Qra x hs r (i+1) _ h h2
   | false=>exact Qra x hs r (i+1) _ h h2
theorem at_go (id:Int):∀ (l:List Job) (i:Nat),(∀ x ∈ l,x.id ≠ id)->Q92 id l i = -1
 | [],i,_=>rfl
 | x :: r,i,h=>by
  rw [Q92];have:(x.id==id)=false:=by simpa using h x (yqa ..)
  rw [this];exact at_go id r (i+1) fun y hy=>h y (yha _ hy)
theorem at_some (x:Job):∀ (l:List Job) (p i:Nat),l[p]? = some x->l.Pairwise (fun a b=>a.id<b.id)->Q92 x.id l i=((i+p:Nat):Int)
 | [],p,i,h,_=>by simp at h
 | y :: r,p,i,h,hp=>by
  obtain ⟨h1,h2⟩:=List.pairwise_cons.1 hp;rw [Q92];rcases p with _|p
  ·simp at h;subst h;simp
  ·have hx:r[p]? = some x:=by simpa using h
   have:=h1 x (yKa hx);have hne:(y.id==x.id)=false:=by simp;omega
   rw [hne];show Q92 x.id r (i+1)=_;rw [at_some x r p (i+1) hx h2]
   congr 1
   omega
theorem QUb {s:State} (hp:s.jobs.Pairwise (fun a b=>a.id<b.id)) {x:Job} (hx:x ∈ s.jobs):Q70 s x.id=if x.state=2 then (x,true) else (zG,false):=by
 obtain ⟨p,hpx⟩:=ylb hx;unfold Q70 QA0;rw [at_some x s.jobs p 0 hpx hp,yma];have hg:s.jobs.getD p zG=x:=by simp [List.getD,hpx]
 rw [yna,hg,yka (show ¬ (p:Int)<0 by omega)]
 by_cases h:x.state=2
 ·simp [h]
 ·have:(x.state != 2)=true:=by simpa using h
  rw [this,if_neg h]
  rfl
theorem Q4g {s:State} (id:Int) (h:∀ x ∈ s.jobs,x.id ≠ id):Q70 s id=(zG,false):=by
 unfold Q70 QA0;rw [at_go id s.jobs 0 h]
 rfl
theorem run_get {s:State} (hp:s.jobs.Pairwise (fun a b=>a.id<b.id)) (id:Int):(getM id (Qy0 s.jobs 0 [])).isSome=(Q70 s id).2∧(getM id (Qy0 s.jobs 0 [])).getD zG=(Q70 s id).1:=by
 by_cases h:∃ x ∈ s.jobs,x.id=id
 ·obtain ⟨x,hx,rfl⟩:=h;rw [QUb hp hx]
  by_cases hs:x.state=2
  ·rw [Qra x hs s.jobs 0 [] hx hp,if_pos hs];exact ⟨rfl,rfl⟩
  ·rw [QO8 x.id s.jobs 0 [],if_neg hs]
   ·exact ⟨rfl,rfl⟩
   ·intro y hy hys e;obtain ⟨p,hpx⟩:=ylb hx;obtain ⟨q,hqy⟩:=ylb hy;rcases yob p q with h|h|h
    ·have:=Qa7 hp p q x y h hpx hqy;omega
    ·subst h;rw [hpx] at hqy;cases hqy;exact hs hys
    ·have:=Qa7 hp q p y x h hqy hpx;omega
 ·have h':∀ x ∈ s.jobs,x.id ≠ id:=fun x hx e=>h ⟨x,hx,e⟩
  rw [Q4g id h',QO8 id s.jobs 0 [] (fun x hx _=>h' x hx)];exact ⟨rfl,rfl⟩
theorem Q4c {s:Int} (hs:U64 s) {k:Nat} (hk:k<64):Q62 s (k:Int)=tb s k:=by
 unfold Q62;rw [has_eq hs,QA6 hs,yga hk,yIb]
theorem fine_one (x:Node) (hf:QY4 x=true):(x.want=2->x.state=2)∧(x.want=4->x.state=1):=by
 obtain ⟨st,jb,ep,dr,wa,si,as_⟩:=x;unfold QY4 at hf;dsimp only at hf ⊢;cases h1:((((((decide (ep<0))||(decide (ep > 999999999)))||(decide (si<0)))||(decide (si > 1000000)))||(decide (as_<0)))||(decide (as_ > 1000000))) with
 | true=>rw [h1] at hf;cases hf
 | false =>
  rw [h1] at hf;simp only [cond_false] at hf
  by_cases h0:st=0
  ·subst h0;simp at hf;omega
  by_cases h4:st=4
  ·subst h4;simp at hf;omega
  have e:((st==0)||(st==4))=false:=by simp [h0,h4]
  rw [e] at hf;simp only [cond_false] at hf;cases h2:((decide (jb<1))||(decide (jb > 99999))) with
  | true=>rw [h2] at hf;cases hf
  | false =>
   rw [h2] at hf;simp only [cond_false] at hf
   by_cases q1:st=1
   ·subst q1;simp at hf;omega
   by_cases q2:st=2
   ·subst q2;simp at hf;omega
   by_cases q3:st=3
   ·subst q3;simp at hf;omega
   simp [q1,q2,q3] at hf
theorem QZa {l:List Node} (h:Q80 l=0):l.length<=48 ∧ ∀ x ∈ l,(x.want=2->x.state=2)∧(x.want=4->x.state=1):=by
 unfold Q80 at h;cases h1:(((decide ((l.length:Int)<1))||(decide ((l.length:Int) > 48)))||(QI0 l (fun (y:Node)=>(!(QR0 y))))) with
 | true=>rw [h1] at h;cases h
 | false =>
  obtain ⟨h2,h3⟩:=or_f h1;have hl:=yca (or_f h2).2;rw [QWf] at h3;refine ⟨by omega,fun x hx=>?_⟩;have hf:QY4 x=true:=by
   have:=List.any_eq_false.1 h3 x hx;rw [fine_eq] at this;simpa using this
  exact fine_one x hf
theorem job_shape {j:Job} (h:Qe1 j=0):Qa2 j.shape=0:=by
 unfold Qe1 at h;cases h1:((((((decide (j.id<1))||(decide (j.id > 99999)))||(!(Qw2 j.born)))||(j.used != (Q25 j.used)))||((QM4 (Qq0 j))!=0))||(Qt0 j.after (fun (y:Dep)=>(decide (y.job >= j.id))))) with
 | true=>rw [h1] at h;cases h
 | false =>
  have hc:=(or_f (or_f h1).1).2;have hc:QM4 (Qq0 j)=0:=by simpa using hc
  unfold QM4 at hc;cases h2:((((decide (((Qq0 j).shape.alts.length:Int) > 6))||(decide (((Qq0 j).after.length:Int) > 4)))||(!(Qt9 (Qq0 j))))||(!(QEb (Qq0 j) (QL8 (Qq0 j))))) with
  | true=>rw [h2] at hc;cases hc
  | false =>
   have hf:=(or_f (or_f h2).1).2;have hf:Qt9 (Qq0 j)=true:=by simpa using hf
   unfold Qt9 Qq0 at hf;simp at hf
   grind
def badB (s:State) (r:Resize) (k:Nat):Bool:=(tb r.said k && !tb r.nodes k)||(tb r.nodes k&&(((decide ((k:Int) >= (s.nodes.length:Int)))||((s.nodes.getD k zF).job != r.job))||((s.nodes.getD k zF).state==3)))
def finB (s:State) (r:Resize):Bool:=(Sum.elim id (fun p1:Int × Nat=>bif r.grow then
    (decide ((w64 (((Q40 ((Q70 s r.job).1.nodes)).length:Int)+((Q40 r.nodes).length:Int)))<=(Q70 s r.job).1.shape.max))
   else
    ((decide (p1.1 > 0))&&(decide ((w64 (((Q40 ((Q70 s r.job).1.nodes)).length:Int) - ((Q40 r.nodes).length:Int))) >= (Q70 s r.job).1.shape.min))))) (Qv1 r s.nodes 0 0)
theorem g1_iff (s:State) (r:Resize) (hn:U64 r.nodes) (hs:U64 r.said):∀ (m n:Nat),n<=64->64 - n<m->(Q15 s r m n=true ↔ (∀ k,n<=k->k<64->badB s r k=false)∧finB s r=true)
 | 0,_,_,h=>absurd h oA
 | m+1,n,hn64,hm=>by
  rw [Q15];rcases yoa n 64 with h|h
  ·rw [yga (show (n:Int)<64 by omega),Q4c hn h,Q4c hs h];have ih:=g1_iff s r hn hs m (n+1) oA oA;show (bif (badB s r n) then false else Q15 s r m (n+1))=true ↔ _;cases hb:badB s r n with
   | true =>
    refine ⟨fun h=>(by cases h),fun h'=>?_⟩;have:=h'.1 n (yla _) h;rw [hb] at this;cases this
   | false =>
    simp only [cond_false];rw [ih];refine ⟨fun h'=>⟨fun k hk hk2=>?_,h'.2⟩,fun h'=>⟨fun k hk hk2=>h'.1 k oA hk2,h'.2⟩⟩;rcases yzb hk with h1|h1
    ·rw [← h1];exact hb
    ·exact h'.1 k h1 hk2
  ·rw [yka (show ¬ (n:Int)<64 by omega)];show finB s r=true ↔ _;exact ⟨fun h'=>⟨fun k hk hk2=>absurd hk2 oA,h'⟩,fun h'=>h'.2⟩
theorem g2_spec (r:Resize) (hn:U64 r.nodes):∀ (l:List Node) (left:Int) (n:Nat),n+l.length<=64->0<=left->left<=n ->
  (∀ v,Qv1 r l left n=Sum.inl v->v=false) ∧
  ((∃ p,Qv1 r l left n=Sum.inr p) ↔ ∀ (k:Nat) (x:Node),l[k]? = some x->x.job=r.job->x.state ≠ 3->QZ2 x ((n+k:Nat):Int) r=true) ∧
  (∀ p,Qv1 r l left n=Sum.inr p->left<=p.1∧(left<p.1 ↔ ∃ (k:Nat) (x:Node),l[k]? = some x∧x.job=r.job∧x.state=1∧tb r.nodes (n+k)=false))
 | [],left,n,_,_,_=>by
  rw [Qv1];refine ⟨fun v h=>(by cases h),⟨fun _ k x h=>by simp at h,fun _=>⟨_,rfl⟩⟩,fun p h=>?_⟩;cases h;refine ⟨yUa _,⟨fun h=>absurd h (Int.lt_irrefl _),fun ⟨k,x,h,_⟩=>by simp at h⟩⟩
 | x :: l,left,n,hlen,h0,hle=>by
  simp only [yja] at hlen;rw [Qv1];have sh:∀ (k:Nat),((n+(k+1):Nat):Int)=((n+1+k:Nat):Int):=fun k=>by congr 1;omega
  have sh':∀ (k:Nat),n+(k+1)=n+1+k:=fun k=>by omega
  cases hc:((x.job != r.job)||(x.state==3)) with
  | true =>
   simp only [cond_true];have hskip:¬ (x.job=r.job∧x.state ≠ 3):=by
    rintro ⟨h1,h2⟩;rw [h1] at hc;simp at hc;exact h2 hc
   obtain ⟨a,b,c⟩:=g2_spec r hn l left (n+1) oA h0 oA;refine ⟨a,b.trans ⟨fun h k y hk h1 h2=>?_,fun h k y hk h1 h2=>?_⟩,fun p hp=>⟨(c p hp).1,(c p hp).2.trans ⟨?_,?_⟩⟩⟩
   ·rcases k with _|k
    ·simp at hk;subst hk;exact absurd ⟨h1,h2⟩ hskip
    ·rw [sh];exact h k y (by simpa using hk) h1 h2
   ·rw [← sh];exact h (k+1) y (by simpa using hk) h1 h2
   ·rintro ⟨k,y,hk,h1,h2,h3⟩;exact ⟨k+1,y,by simpa using hk,h1,h2,by rw [sh'];exact h3⟩
   ·rintro ⟨k,y,hk,h1,h2,h3⟩;rcases k with _|k
    ·simp at hk;subst hk;exact absurd ⟨h1,by omega⟩ hskip
    ·exact ⟨k,y,by simpa using hk,h1,h2,by rw [← sh'];exact h3⟩
  | false =>
   have hj:x.job=r.job∧x.state ≠ 3:=by
    obtain ⟨h1,h2⟩:=or_f hc;exact ⟨by simpa using h1,by simpa using h2⟩
   simp only [cond_false];cases hm:QZ2 x (n:Int) r with
   | false =>
    refine ⟨fun v h=>(by cases h;rfl),⟨fun ⟨p,h⟩=>(by cases h),fun h=>?_⟩,fun p h=>(by cases h)⟩;have:=h 0 x rfl hj.1 hj.2;rw [y6a,hm] at this;cases this
   | true =>
    rw [Q4c hn (show n<64 by omega)];have hw:w64 (left+1)=left+1:=wr oA;simp only [yib,cond_false];have mv':(∀ (k:Nat) (y:Node),l[k]? = some y->y.job=r.job->y.state ≠ 3->QZ2 y ((n+1+k:Nat):Int) r=true) ↔ ∀ (k:Nat) (y:Node),(x :: l)[k]? = some y->y.job=r.job->y.state ≠ 3->QZ2 y ((n+k:Nat):Int) r=true:=by
     constructor
     ·intro h k y hk h1 h2;rcases k with _|k
      ·simp at hk;subst hk;rw [y6a];exact hm
      ·rw [sh];exact h k y (by simpa using hk) h1 h2
     ·intro h k y hk h1 h2;rw [← sh];exact h (k+1) y (by simpa using hk) h1 h2
    cases hl:((x.state==1)&&(!(tb r.nodes n))) with
    | true =>
     simp only [cond_true];rw [hw];obtain ⟨a,b,c⟩:=g2_spec r hn l (left+1) (n+1) oA oA oA;refine ⟨a,b.trans mv',fun p hp=>?_⟩;obtain ⟨c1,_⟩:=c p hp;refine ⟨by omega,⟨fun _=>⟨0,x,rfl,hj.1,?_,?_⟩,fun _=>by omega⟩⟩
     ·simp only [yea,beq_iff_eq] at hl;exact hl.1
     ·simp only [yea,y4a] at hl;exact hl.2
    | false =>
     simp only [cond_false];obtain ⟨a,b,c⟩:=g2_spec r hn l left (n+1) oA h0 oA;refine ⟨a,b.trans mv',fun p hp=>⟨(c p hp).1,(c p hp).2.trans ⟨?_,?_⟩⟩⟩
     ·rintro ⟨k,y,hk,h1,h2,h3⟩;exact ⟨k+1,y,by simpa using hk,h1,h2,by rw [sh'];exact h3⟩
     ·rintro ⟨k,y,hk,h1,h2,h3⟩;rcases k with _|k
      ·simp at hk;subst hk;rw [y6a] at h3;rw [h2,h3] at hl;cases hl
      ·exact ⟨k,y,by simpa using hk,h1,h2,by rw [← sh'];exact h3⟩
section
variable (s:State) (r:Resize) (j:Job)
def AskP (c:Int):Prop:=∀ k,k<64->((k<s.nodes.length∧(s.nodes.getD k zF).job=r.job∧(s.nodes.getD k zF).want=c) ↔ (tb r.nodes k=true∧tb r.said k=false))
def QuiP:Prop:=∀ k,k<64->tb r.said k=true->k<s.nodes.length∧(s.nodes.getD k zF).want=0
def SubP:Prop:=∀ k,k<64->tb r.said k=true->tb r.nodes k=true
def SameP:Prop:=∀ k,k<64->(tb r.nodes k=true ↔ (k<s.nodes.length∧(s.nodes.getD k zF).job=r.job∧(s.nodes.getD k zF).state=2))
def InP:Prop:=∀ k,k<64->tb r.nodes k=true->tb j.nodes k=true
def BaseP:Prop:=j.shape.kind=3∧r.nodes ≠ 0∧0<=r.since∧r.since<=1000000
def GrowP:Prop:=w64 ((Q10 j.nodes)+(Q10 r.nodes))<=j.shape.max
def ShrP:Prop:=w64 ((Q10 j.nodes) - (Q10 r.nodes)) >= j.shape.min
theorem Qea {x y:Int} (hx:U64 x) (hy:U64 y):((wu64 (BitVec.ofInt 64 x &&& ~~~(BitVec.ofInt 64 y)).toNat)==0)=true ↔ ∀ k,k<64->tb x k=true->tb y k=true:=by
 rw [Qjc (QJ8 _)];refine ⟨fun h k hk hb=>?_,fun h k hk=>?_⟩
 ·have:=h k hk;rw [Qg6 hx hy,hb] at this;simpa using this
 ·rw [Qg6 hx hy];cases hb:tb x k with
  | false=>rfl
  | true=>rw [h k hk hb];rfl
theorem ask_iff (hn:U64 r.nodes) (hs:U64 r.said) (hl:s.nodes.length<=64) (c:Int) :
  (Q03 s (fun (y:Int) (y1:Node)=>((y1.job==r.job)&&(y1.want==c)))=wu64 (BitVec.ofInt 64 r.nodes &&& ~~~(BitVec.ofInt 64 r.said)).toNat) ↔ AskP s r c:=by
 obtain ⟨u,b⟩:=QSf s (fun (y:Int) (y1:Node)=>((y1.job==r.job)&&(y1.want==c))) hl;have key:∀ k,(tb (Q03 s (fun (y:Int) (y1:Node)=>((y1.job==r.job)&&(y1.want==c)))) k=tb (wu64 (BitVec.ofInt 64 r.nodes &&& ~~~(BitVec.ofInt 64 r.said)).toNat) k) ↔ ((k<s.nodes.length∧(s.nodes.getD k zF).job=r.job∧(s.nodes.getD k zF).want=c) ↔ (tb r.nodes k=true∧tb r.said k=false)):=by
  intro k;rw [b,Qg6 hn hs,yMa];simp
 constructor
 ·intro h k hk;exact (key k).1 (by rw [h])
 ·intro h;exact QZd u (QJ8 _) fun k hk=>(key k).2 (h k hk)
theorem same_iff (hn:U64 r.nodes) (hc:Q80 s.nodes=0) (hl:s.nodes.length<=64):(r.nodes=Ql7 s.nodes r.job 2) ↔ SameP s r:=by
 obtain ⟨u,b⟩:=Q74 s.nodes (fun (y:Node)=>((y.job==r.job)&&(y.state==2))) hc hl;have key:∀ k,(tb r.nodes k=tb (Ql7 s.nodes r.job 2) k) ↔ (tb r.nodes k=true ↔ (k<s.nodes.length∧(s.nodes.getD k zF).job=r.job∧(s.nodes.getD k zF).state=2)):=by
  intro k;unfold Ql7;rw [b,yMa];simp
 constructor
 ·intro h k hk;exact (key k).1 (by rw [← h])
 ·intro h;exact QZd hn u fun k hk=>(key k).2 (h k hk)
theorem prog_iff (hn:U64 r.nodes) (hs:U64 r.said) (hj:U64 j.nodes) (hc:Q80 s.nodes=0) (hl:s.nodes.length<=64) :
  QO3 s r j=true ↔ BaseP r j∧SubP r∧QuiP s r∧(if r.grow=true then AskP s r 2∧SameP s r∧GrowP r j else AskP s r 4∧InP r j∧ShrP r j):=by
 have k1:∀ c,Qc6 s r j c=true ↔ AskP s r c∧QuiP s r∧(if r.grow=true then SameP s r∧GrowP r j else InP r j∧ShrP r j):=by
  intro c;unfold Qc6;cases hcnd:(((Q03 s (fun (y:Int) (y1:Node)=>((y1.job==r.job)&&(y1.want==c))))!=(wu64 (BitVec.ofInt 64 r.nodes &&& ~~~(BitVec.ofInt 64 r.said)).toNat))||(!(QS2 s.nodes r.said))) with
  | true =>
   refine ⟨fun h=>(by cases h),fun ⟨h1,h2,_⟩=>?_⟩;have e1:=(ask_iff s r hn hs hl c).2 h1;have e2:=(quiet_iff hs hc).2 h2;rw [e1,e2] at hcnd;simp at hcnd
  | false =>
   obtain ⟨h1,h2⟩:=or_f hcnd;have e1:AskP s r c:=(ask_iff s r hn hs hl c).1 (by simpa using h1);have e2:QuiP s r:=(quiet_iff hs hc).1 (by simpa using h2);simp only [cond_false];cases hg:r.grow with
   | true =>
    simp only [cond_true,yea,beq_iff_eq,yfa,if_true];rw [same_iff s r hn hc hl];exact ⟨fun h=>⟨e1,e2,h⟩,fun h=>h.2.2⟩
   | false =>
    simp only [cond_false,yea,yfa];rw [Qea hn hj];exact ⟨fun h=>⟨e1,e2,h⟩,fun h=>h.2.2⟩
 unfold QO3;cases hcnd:(((((j.shape.kind != 3)||(r.nodes==0))||((wu64 (BitVec.ofInt 64 r.said &&& ~~~(BitVec.ofInt 64 r.nodes)).toNat)!=0))||(decide (r.since<0)))||(decide (r.since > 1000000))) with
 | true =>
  refine ⟨fun h=>(by cases h),fun ⟨⟨h1,h2,h3,h4⟩,h5,_⟩=>?_⟩;have e1:=(Qea hs hn).2 h5;have e1':((wu64 (BitVec.ofInt 64 r.said &&& ~~~(BitVec.ofInt 64 r.nodes)).toNat)!=0)=false:=by unfold bne;rw [e1];rfl
  rw [h1,e1',yka oA,yka oA] at hcnd;simp at hcnd;exact absurd hcnd h2
 | false =>
  obtain ⟨h1,h2⟩:=or_f hcnd;obtain ⟨h3,h4⟩:=or_f h1;obtain ⟨h5,h6⟩:=or_f h3;obtain ⟨h7,h8⟩:=or_f h5;have b:BaseP r j:=⟨by simpa using h7,by simpa using h8,by have:=yca h4;omega,by have:=yca h2;omega⟩;have sb:SubP r:=(Qea hs hn).1 (by unfold bne at h6;simpa using h6);simp only [cond_false];cases hg:r.grow with
  | true =>
   simp only [cond_true];rw [k1,hg];simp only [if_true];exact ⟨fun ⟨a,q,c⟩=>⟨b,sb,q,a,c⟩,fun ⟨_,_,q,a,c⟩=>⟨a,q,c⟩⟩
  | false =>
   simp only [cond_false];rw [k1,hg];exact ⟨fun ⟨a,q,c⟩=>⟨b,sb,q,a,c⟩,fun ⟨_,_,q,a,c⟩=>⟨a,q,c⟩⟩
def OwnP:Prop:=∀ k,k<64->tb r.nodes k=true->k<s.nodes.length∧(s.nodes.getD k zF).job=r.job∧(s.nodes.getD k zF).state ≠ 3
def MovP:Prop:=∀ k,k<s.nodes.length->(s.nodes.getD k zF).job=r.job->(s.nodes.getD k zF).state ≠ 3->QZ2 (s.nodes.getD k zF) (k:Int) r=true
def LeftP:Prop:=∃ k,k<s.nodes.length∧(s.nodes.getD k zF).job=r.job∧(s.nodes.getD k zF).state=1∧tb r.nodes k=false
theorem get_iff {α:Type} (d:α) (l:List α) (p:Nat->α->Prop):(∀ (k:Nat) (x:α),l[k]? = some x->p k x) ↔ ∀ k,k<l.length->p k (l.getD k d):=by
 constructor
 ·intro h k hk;exact h k _ (by simp [List.getD,yaa hk])
 ·intro h k x hx;have hk:=(List.getElem?_eq_some_iff.1 hx).1;have:=h k hk;rw [List.getD,hx] at this;exact this
theorem get_ex {α:Type} (d:α) (l:List α) (p:Nat->α->Prop):(∃ (k:Nat) (x:α),l[k]? = some x∧p k x) ↔ ∃ k,k<l.length∧p k (l.getD k d):=by
 constructor
 ·rintro ⟨k,x,hx,h⟩;refine ⟨k,(List.getElem?_eq_some_iff.1 hx).1,?_⟩;rw [List.getD,hx];exact h
 ·rintro ⟨k,hk,h⟩;exact ⟨k,_,by simp [List.getD,yaa hk],h⟩
theorem ref_iff (hn:U64 r.nodes) (hs:U64 r.said) (hj:U64 j.nodes) (hl:s.nodes.length<=64) (hrun:Q70 s r.job=(j,true)) :
  QU1 s r=true ↔ BaseP r j∧SubP r∧OwnP s r∧MovP s r∧(if r.grow=true then GrowP r j else LeftP s r∧ShrP r j):=by
 obtain ⟨g1,g2,g3⟩:=g2_spec r hn s.nodes 0 0 oA oA oA;have hmov:(∃ p,Qv1 r s.nodes 0 0=Sum.inr p) ↔ MovP s r:=by
  rw [g2];have:=get_iff zF s.nodes (fun k x=>x.job=r.job->x.state ≠ 3->QZ2 x ((0+k:Nat):Int) r=true);rw [this];unfold MovP;simp only [yma]
 have hleft:∀ p,Qv1 r s.nodes 0 0=Sum.inr p->(decide (p.1 > 0)=true ↔ LeftP s r):=by
  intro p hp;have:=(g3 p hp).2;rw [yfa,gt_iff_lt,this];have:=get_ex zF s.nodes (fun k x=>x.job=r.job∧x.state=1∧tb r.nodes (0+k)=false);rw [this];unfold LeftP;simp only [yma]
 have hfin:finB s r=true ↔ MovP s r∧(if r.grow=true then GrowP r j else LeftP s r∧ShrP r j):=by
  unfold finB;rw [hrun];simp only;rw [← QU9 hj,← QU9 hn];cases hg:Qv1 r s.nodes 0 0 with
  | inl v =>
   have hv:=g1 v hg;subst hv;refine ⟨fun h=>(by cases h),fun h=>?_⟩;obtain ⟨p,hp⟩:=hmov.2 h.1;rw [hg] at hp;cases hp
  | inr p =>
   have hm:=hmov.1 ⟨p,hg⟩;have hlp:=hleft p hg;simp only [Sum.elim_inr];cases r.grow with
   | true =>
    simp only [cond_true,yfa,if_true];exact ⟨fun h=>⟨hm,h⟩,fun h=>h.2⟩
   | false =>
    simp only [cond_false,yea];rw [hlp,yfa];exact ⟨fun h=>⟨hm,h⟩,fun h=>h.2⟩
 have hbad:(∀ k,0<=k->k<64->badB s r k=false) ↔ SubP r∧OwnP s r:=by
  constructor
  ·intro h;refine ⟨fun k hk hb=>?_,fun k hk hb=>?_⟩
   ·have:=(or_f (h k (yva _) hk)).1;rw [hb] at this;simpa using this
   ·have:=(or_f (h k (yva _) hk)).2;rw [hb] at this;simp only [yIb] at this;obtain ⟨h1,h2⟩:=or_f this;obtain ⟨h3,h4⟩:=or_f h1;have h3:=yca h3;exact ⟨by omega,by simpa using h4,by simpa using h2⟩
  ·rintro ⟨h1,h2⟩ k _ hk;unfold badB;cases hb:tb r.nodes k with
   | true =>
    obtain ⟨q1,q2,q3⟩:=h2 k hk hb;have q3':((s.nodes.getD k zF).state==3)=false:=beq_eq_false_iff_ne.2 q3;rw [q2,yka oA,q3'];simp
   | false =>
    cases ha:tb r.said k with
    | true=>rw [h1 k hk ha] at hb;cases hb
    | false=>rfl
 have hg1:=g1_iff s r hn hs (((64 - (0:Int)).toNat)+1) 0 oA oA;unfold QU1;rw [hrun];simp only;cases hcnd:(((((!true)||(j.shape.kind != 3))||(r.nodes==0))||(decide (r.since<0)))||(decide (r.since > 1000000))) with
 | true =>
  refine ⟨fun h=>(by cases h),fun ⟨⟨h1,h2,h3,h4⟩,_⟩=>?_⟩;rw [h1,yka oA,yka oA] at hcnd;simp at hcnd;exact absurd hcnd h2
 | false =>
  obtain ⟨h1,h2⟩:=or_f hcnd;obtain ⟨h3,h4⟩:=or_f h1;obtain ⟨h5,h6⟩:=or_f h3;have b:BaseP r j:=⟨by simpa using h5,by simpa using h6,by have:=yca h4;omega,by have:=yca h2;omega⟩;simp only [cond_false];rw [hg1,hbad,hfin];exact ⟨fun ⟨⟨a,c⟩,d,e⟩=>⟨b,a,c,d,e⟩,fun ⟨_,a,c,d,e⟩=>⟨⟨a,c⟩,d,e⟩⟩
theorem Qhe (hn:U64 r.nodes) (hs:U64 r.said) (hg:r.grow=true) {k:Nat} (hk:k<64) (x:Node):QZ2 x (k:Int) r=true ↔ (tb r.nodes k=true ↔ x.state=2)∧(tb r.nodes k=true->(tb r.said k=true∧x.want=0)∨(tb r.said k=false∧x.want=2)):=by
 unfold QZ2;rw [hg,Q4c hn hk,Q4c hs hk];simp only [cond_true];cases tb r.nodes k <;> cases tb r.said k <;> by_cases h:x.state=2 <;> simp [h]
theorem QOg (hn:U64 r.nodes) (hs:U64 r.said) (hg:r.grow=false) {k:Nat} (hk:k<64) (x:Node):QZ2 x (k:Int) r=true ↔ (tb r.nodes k=true->x.state=1)∧(tb r.nodes k=false->x.want ≠ 4)∧(tb r.nodes k=true->(tb r.said k=true∧x.want=0)∨(tb r.said k=false∧x.want=4)):=by
 unfold QZ2;rw [hg,Q4c hn hk,Q4c hs hk];simp only [cond_false];cases tb r.nodes k <;> cases tb r.said k <;> by_cases h:x.state=1 <;> by_cases h4:x.want=4 <;> simp [h,h4]
theorem resize_eq (hn:U64 r.nodes) (hs:U64 r.said) (hj:U64 j.nodes) (hc:Q80 s.nodes=0) (hrun:Q70 s r.job=(j,true)) (hjc:Qe1 j=0)
  (hb:∀ k,tb j.nodes k=true ↔ (k<s.nodes.length∧(s.nodes.getD k zF).job=r.job∧(s.nodes.getD k zF).state=1)):QO3 s r j=QU1 s r:=by
 obtain ⟨hl48,hfw⟩:=QZa hc;have hl:s.nodes.length<=64:=by omega
 have hw:∀ k,k<s.nodes.length->((s.nodes.getD k zF).want=2->(s.nodes.getD k zF).state=2)∧((s.nodes.getD k zF).want=4->(s.nodes.getD k zF).state=1):=by
  intro k hk;have hm:s.nodes.getD k zF ∈ s.nodes:=by
   rw [List.getD,yaa hk];exact yZa _
  exact hfw _ hm
 rw [yMa,prog_iff s r j hn hs hj hc hl,ref_iff s r j hn hs hj hl hrun];cases hg:r.grow with
 | true =>
  simp only [if_true];constructor
  ·rintro ⟨hB,hS,hQ,hA,hSm,hG⟩;refine ⟨hB,hS,fun k hk hkn=>?_,fun k hk h1 h2=>?_,hG⟩
   ·obtain ⟨a,b,c⟩:=(hSm k hk).1 hkn;exact ⟨a,b,by omega⟩
   ·have hk64:k<64:=by omega
    rw [Qhe r hn hs hg hk64];refine ⟨⟨fun h=>((hSm k hk64).1 h).2.2,fun h=>(hSm k hk64).2 ⟨hk,h1,h⟩⟩,fun h=>?_⟩;cases ha:tb r.said k with
    | true=>exact .inl ⟨rfl,(hQ k hk64 ha).2⟩
    | false=>exact .inr ⟨rfl,((hA k hk64).2 ⟨h,ha⟩).2.2⟩
  ·rintro ⟨hB,hS,hO,hM,hG⟩;have mv:∀ k,k<64->tb r.nodes k=true->k<s.nodes.length∧(s.nodes.getD k zF).job=r.job∧(s.nodes.getD k zF).state=2∧((tb r.said k=true∧(s.nodes.getD k zF).want=0)∨(tb r.said k=false∧(s.nodes.getD k zF).want=2)):=by
    intro k hk h;obtain ⟨a,b,c⟩:=hO k hk h;obtain ⟨d,e⟩:=(Qhe r hn hs hg hk _).1 (hM k a b c);exact ⟨a,b,d.1 h,e h⟩
   have back:∀ k,k<s.nodes.length->(s.nodes.getD k zF).job=r.job->(s.nodes.getD k zF).state=2->tb r.nodes k=true:=by
    intro k hk h1 h2;exact ((Qhe r hn hs hg oA _).1 (hM k hk h1 oA)).1.2 h2
   refine ⟨hB,hS,fun k hk ha=>?_,fun k hk=>⟨fun ⟨a,b,c⟩=>?_,fun ⟨a,b⟩=>?_⟩,fun k hk=>⟨fun h=>?_,fun ⟨a,b,c⟩=>back k a b c⟩,hG⟩
   ·obtain ⟨a,b,c,d⟩:=mv k hk (hS k hk ha);rcases d with d|d
    ·exact ⟨a,d.2⟩
    ·rw [ha] at d;cases d.1
   ·have hin:=back k a b ((hw k a).1 c);refine ⟨hin,?_⟩;obtain ⟨_,_,_,d⟩:=mv k hk hin;rcases d with d|d
    ·omega
    ·exact d.1
   ·obtain ⟨p,q,_,d⟩:=mv k hk a;rcases d with d|d
    ·rw [b] at d;cases d.1
    ·exact ⟨p,q,d.2⟩
   ·obtain ⟨a,b,c,_⟩:=mv k hk h;exact ⟨a,b,c⟩
 | false =>
  have ef:(if false=true then GrowP r j else LeftP s r∧ShrP r j)=(LeftP s r∧ShrP r j):=by simp
  have ef':(if false=true then AskP s r 2∧SameP s r∧GrowP r j else AskP s r 4∧InP r j∧ShrP r j)=(AskP s r 4∧InP r j∧ShrP r j):=by simp
  rw [ef,ef'];constructor
  ·rintro ⟨hB,hS,hQ,hA,hI,hSh⟩;have inb:∀ k,k<64->tb r.nodes k=true->k<s.nodes.length∧(s.nodes.getD k zF).job=r.job∧(s.nodes.getD k zF).state=1:=fun k hk h=>(hb k).1 (hI k hk h)
   refine ⟨hB,hS,fun k hk hkn=>?_,fun k hk h1 h2=>?_,?_,hSh⟩
   ·obtain ⟨a,b,c⟩:=inb k hk hkn;exact ⟨a,b,by omega⟩
   ·have hk64:k<64:=by omega
    rw [QOg r hn hs hg hk64];refine ⟨fun h=>(inb k hk64 h).2.2,fun h h4=>?_,fun h=>?_⟩
    ·have:=((hA k hk64).1 ⟨hk,h1,h4⟩).1;rw [h] at this;cases this
    ·cases ha:tb r.said k with
     | true=>exact .inl ⟨rfl,(hQ k hk64 ha).2⟩
     | false=>exact .inr ⟨rfl,((hA k hk64).2 ⟨h,ha⟩).2.2⟩
   ·apply Classical.byContradiction;intro hno;have heq:j.nodes=r.nodes:=QZd hj hn fun k hk=>by
     rw [yMa];refine ⟨fun h=>?_,fun h=>hI k hk h⟩;obtain ⟨a,b,c⟩:=(hb k).1 h;cases hx:tb r.nodes k with
     | true=>rfl
     | false=>exact absurd ⟨k,a,b,c,hx⟩ hno
    unfold ShrP at hSh;rw [heq,Int.sub_self] at hSh;have hz:w64 0=0:=wr oA;rw [hz] at hSh;have hmin:=QE7 (s:=j.shape) (by rw [job_shape hjc];rfl) (by rw [hB.1];rfl);omega
  ·rintro ⟨hB,hS,hO,hM,_,hSh⟩;have mv:∀ k,k<64->tb r.nodes k=true->k<s.nodes.length∧(s.nodes.getD k zF).job=r.job∧(s.nodes.getD k zF).state=1∧((tb r.said k=true∧(s.nodes.getD k zF).want=0)∨(tb r.said k=false∧(s.nodes.getD k zF).want=4)):=by
    intro k hk h;obtain ⟨a,b,c⟩:=hO k hk h;obtain ⟨d,_,e⟩:=(QOg r hn hs hg hk _).1 (hM k a b c);exact ⟨a,b,d h,e h⟩
   refine ⟨hB,hS,fun k hk ha=>?_,fun k hk=>⟨fun ⟨a,b,c⟩=>?_,fun ⟨a,b⟩=>?_⟩,fun k hk h=>?_,hSh⟩
   ·obtain ⟨a,b,c,d⟩:=mv k hk (hS k hk ha);rcases d with d|d
    ·exact ⟨a,d.2⟩
    ·rw [ha] at d;cases d.1
   ·have hst:=(hw k a).2 c;obtain ⟨_,m2,_⟩:=(QOg r hn hs hg hk _).1 (hM k a b oA);have hin:tb r.nodes k=true:=by
     cases hx:tb r.nodes k with
     | true=>rfl
     | false=>exact absurd c (m2 hx)
    refine ⟨hin,?_⟩;obtain ⟨_,_,_,d⟩:=mv k hk hin;rcases d with d|d
    ·omega
    ·exact d.1
   ·obtain ⟨p,q,_,d⟩:=mv k hk a;rcases d with d|d
    ·rw [b] at d;cases d.1
    ·exact ⟨p,q,d.2⟩
   ·obtain ⟨a,b,c,_⟩:=mv k hk h;exact (hb k).2 ⟨a,b,c⟩
end
theorem okloop (len:Nat) (c:Nat->Bool) (G:Nat->Bool->Nat->Bool × Nat) (g:∀ m ok i,G (m+1) ok i=bif ((decide ((i:Int)<(len:Int)))&&ok) then G m (c i) (i+1) else (ok,i)) :
  ∀ (m:Nat) (ok:Bool) (i:Nat),i<=len->len - i<m->((G m ok i).1=true ↔ ok=true ∧ ∀ k,i<=k->k<len->c k=true)
 | 0,_,_,_,h=>absurd h oA
 | m+1,ok,i,hi,hm=>by
  rw [g];rcases yoa i len with h|h
  ·rw [yga (show (i:Int)<(len:Int) by omega)];cases ok with
   | false=>exact ⟨fun h=>(by cases h),fun h=>(by cases h.1)⟩
   | true =>
    simp only [Bool.and_true,cond_true,true_and];rw [okloop len c G g m (c i) (i+1) oA oA];refine ⟨fun ⟨h1,h2⟩ k hk hk2=>?_,fun h'=>⟨h' i (yla _) h,fun k hk hk2=>h' k oA hk2⟩⟩;rcases yzb hk with h3|h3
    ·rw [← h3];exact h1
    ·exact h2 k h3 hk2
  ·rw [yka (show ¬ (i:Int)<(len:Int) by omega)];exact ⟨fun h'=>⟨h',fun k hk hk2=>absurd hk2 oA⟩,fun h'=>h'.1⟩
theorem last_job:∀ (l:List Job) (x:Int) (i:Nat),(QP1 l x i).1=QR1 l x i
 | [],_,_=>rfl
 | y :: r,x,i=>by rw [QP1,QR1];exact last_job r _ _
theorem last_book:∀ (l:List Book) (x:Int) (i:Nat),(Qy4 l x i).1=QS1 l x i
 | [],_,_=>rfl
 | y :: r,x,i=>by rw [Qy4,QS1];exact last_book r _ _
theorem next_eq (n l:Int):Qp1 n l=QL5 n l:=by
 unfold Qp1 QL5;rw [yMa];simp only [yea,yfa];omega
def QLd (c:List (Int × Resize)) (l:List Resize):List (Int × Resize):=l.foldl (fun c r=>setM r.job r c) c
section
variable (s:State)
def rzP (c:List (Int × Job)) (k:Nat):Bool:=!(((!(getM (s.resizes.getD k zH).job c).isSome)||((decide ((k:Int) > 0))&&(decide ((s.resizes.getD ((w64 ((k:Int) - 1)).toNat) zH).job >= (s.resizes.getD k zH).job))))||(!(QO3 s (s.resizes.getD k zH) ((getM (s.resizes.getD k zH).job c).getD zG))))
def heldB (c:List (Int × Job)):Bool:=c.all (fun (en:Int × Job)=>(bif ((Qj3 s.nodes en.1)!=en.2.nodes) then false else true))
theorem g4_iff (a b:Int) (c:List (Int × Job)):∀ (l:List Resize) (i:Nat) (c2:List (Int × Resize)),l=s.resizes.drop i->i+l.length=s.resizes.length ->
  (QT1 s a b c l i c2=0 ↔ (∀ k,i<=k->k<s.resizes.length->rzP s c k=true)∧Qp1 s.nextJob a=true∧Qp1 s.nextBook b=true∧Qo3 s c (QLd c2 l)=true∧heldB s c=true) ∧
  (QT1 s a b c l i c2=0∨QT1 s a b c l i c2=141)
 | [],i,c2,hl,hlen=>by
  simp only [yJa,y6a] at hlen;rw [QT1];show ((bif ((((!true)||(!(Qp1 s.nextJob a)))||(!(Qp1 s.nextBook b)))||(!(Qo3 s c c2))) then (141:Int) else bif heldB s c then 0 else 141)=0 ↔ _)∧((bif ((((!true)||(!(Qp1 s.nextJob a)))||(!(Qp1 s.nextBook b)))||(!(Qo3 s c c2))) then (141:Int) else bif heldB s c then 0 else 141)=0∨(bif ((((!true)||(!(Qp1 s.nextJob a)))||(!(Qp1 s.nextBook b)))||(!(Qo3 s c c2))) then (141:Int) else bif heldB s c then 0 else 141)=141);have hv:(∀ k,i<=k->k<s.resizes.length->rzP s c k=true):=fun k h1 h2=>absurd h2 oA
  show _∧_;unfold QLd;simp only [List.foldl_nil];cases Qp1 s.nextJob a <;> cases Qp1 s.nextBook b <;> cases Qo3 s c c2 <;> cases heldB s c <;> first|(simp;done)|(simp;exact hv)
 | x :: r,i,c2,hl,hlen=>by
  simp only [yja] at hlen;have hr':r=s.resizes.drop (i+1):=by rw [← yub,← hl];rfl
  have hi:s.resizes[i]? = some x:=by
   have:=congrArg (fun q=>q[0]?) hl;simpa [yFa] using this.symm
  have hg:s.resizes.getD i zH=x:=by rw [List.getD,hi];rfl
  rw [QT1];have hz:(((!(getM x.job c).isSome)||((decide ((i:Int) > 0))&&(decide ((s.resizes.getD ((w64 ((i:Int) - 1)).toNat) zH).job >= x.job))))||(!(QO3 s x ((getM x.job c).getD zG)))) = !(rzP s c i):=by
   unfold rzP;rw [hg,Bool.not_not]
  rw [hz];obtain ⟨ih1,ih2⟩:=g4_iff a b c r (i+1) (setM x.job x c2) hr' oA;cases hq:rzP s c i with
  | false =>
   refine ⟨⟨fun h=>(by cases h),fun h=>?_⟩,.inr rfl⟩;have:=h.1 i (yla _) oA;rw [hq] at this;cases this
  | true =>
   simp only [yib,cond_false];refine ⟨ih1.trans ?_,ih2⟩;show _∧_∧_∧Qo3 s c (QLd c2 (x :: r))=true∧_ ↔ _;refine and_congr ⟨fun h k hk hk2=>?_,fun h k hk hk2=>h k oA hk2⟩ Iff.rfl;rcases yzb hk with h3|h3
   ·rw [← h3];exact hq
   ·exact h k h3 hk2
theorem setM_only {α β:Type} [BEq α] (k:α) (v:β):∀ (l:List (α × β)) (e:α × β),e ∈ setM k v l->e=(k,v)∨e ∈ l
 | [],e,h=>by simp [setM] at h;exact .inl h
 | p :: r,e,h=>by
  rw [setM] at h;cases hk:k==p.1 with
  | true =>
   rw [hk] at h;rcases List.mem_cons.1 h with h|h
   ·exact .inl h
   ·exact .inr (yha _ h)
  | false =>
   rw [hk] at h;rcases List.mem_cons.1 h with h|h
   ·exact .inr (by rw [h];exact yqa ..)
   ·rcases setM_only k v r e h with h|h
    ·exact .inl h
    ·exact .inr (yha _ h)
theorem Qub:∀ (l:List Job) (i:Nat) (c:List (Int × Job)) (e:Int × Job),e ∈ Qy0 l i c->e ∈ c ∨ ∃ x ∈ l,x.state=2∧e=(x.id,x)
 | [],_,_,_,h=>.inl h
 | x :: r,i,c,e,h=>by
  rw [Qy0] at h;cases hs:(x.state==2) with
  | true =>
   rw [hs] at h;rcases Qub r (i+1) _ e h with h|⟨y,hy,q⟩
   ·rcases setM_only _ _ _ _ h with h|h
    ·exact .inr ⟨x,yqa ..,by simpa using hs,h⟩
    ·exact .inl h
   ·exact .inr ⟨y,yha _ hy,q⟩
  | false =>
   rw [hs] at h;rcases Qub r (i+1) _ e h with h|⟨y,hy,q⟩
   ·exact .inl h
   ·exact .inr ⟨y,yha _ hy,q⟩
theorem held_iff (hp:s.jobs.Pairwise (fun a b=>a.id<b.id)) (hid:∀ x ∈ s.jobs,1<=x.id):heldB s (Qy0 s.jobs 0 [])=true ↔ ∀ x ∈ s.jobs,x.state=2->Qx7 s.nodes x.id 1=x.nodes:=by
 have hh:∀ x ∈ s.jobs,Qj3 s.nodes x.id=Qx7 s.nodes x.id 1:=fun x hx=>by
  unfold Qj3;rw [yka (by have:=hid x hx;omega),← of_eq]
  rfl
 unfold heldB;rw [y5a];constructor
 ·intro h x hx hs;have:=h _ (Q07 x s.jobs 0 [] (.inr ⟨hx,hs,hp⟩));simp only [hh x hx] at this;cases hq:(Qx7 s.nodes x.id 1 != x.nodes) with
  | false=>simpa using hq
  | true=>rw [hq] at this;cases this
 ·intro h e he;rcases Qub s.jobs 0 [] e he with h'|⟨x,hx,hs,rfl⟩
  ·exact nomatch h'
  ·have:=h x hx hs;simp only [hh x hx,this];simp
theorem Q5d (id:Int):∀ (l:List Resize) (c:List (Int × Resize)),(∀ x ∈ l,x.job ≠ id)->getM id (QLd c l)=getM id c
 | [],_,_=>rfl
 | x :: r,c,h=>by
  show getM id (QLd (setM x.job x c) r)=_;have hb:(id==x.job)=false:=by simpa using Ne.symm (h x (yqa ..))
  rw [Q5d id r _ (fun y hy=>h y (yha _ hy)),QP8,hb]
  rfl
theorem all_of (id:Int):∀ (l:List Resize) (c:List (Int × Resize)) (i:Nat),l.Pairwise (fun a b=>a.job<b.job)->getM id c=none->(getM id (QLd c l)).getD zH=Q24 id l i
 | [],c,i,_,hc=>by
  show (getM id c).getD zH=_;rw [hc]
  rfl
 | x :: r,c,i,hp,hc=>by
  obtain ⟨h1,h2⟩:=List.pairwise_cons.1 hp;show (getM id (QLd (setM x.job x c) r)).getD zH=_;rw [Q24];cases hx:x.job==id with
  | true =>
   have e:=eq_of_beq hx;rw [Q5d id r _ (fun y hy=>by have:=h1 y hy;omega),QP8,← e,beq_self_eq_true]
   rfl
  | false =>
   have hb:(id==x.job)=false:=by
    have:x.job ≠ id:=by simpa using hx
    simpa using Ne.symm this
   exact all_of id r _ (i+1) h2 (by rw [QP8,hb];exact hc)
theorem nodes_iff (c:List (Int × Job)) (all_:List (Int × Resize)) (f:Nat->Bool):∀ (l:List Node) (i:Nat),l=s.nodes.drop i->i+l.length=s.nodes.length ->
  (∀ k,k<s.nodes.length->f k = !(((((s.nodes.getD k zF).state==1)&&((!(getM (s.nodes.getD k zF).job c).isSome)||(!(QV0 (((getM (s.nodes.getD k zF).job c).getD zG).nodes) (k:Int)))))||(((s.nodes.getD k zF).state==2)&&(!(getM (s.nodes.getD k zF).job c).isSome)))||((((s.nodes.getD k zF).state==2)||((s.nodes.getD k zF).want==4))&&(!(QV0 (((getM (s.nodes.getD k zF).job all_).getD zH).nodes) (k:Int))))||(((s.nodes.getD k zF).state==3)&&(decide ((s.nodes.getD k zF).job >= s.nextJob))))) ->
  (QJ6 s c all_ l i=true ↔ ∀ k,i<=k->k<s.nodes.length->f k=true)
 | [],i,_,hlen,_=>by
  simp only [yJa,y6a] at hlen;exact ⟨fun _ k h1 h2=>absurd h2 oA,fun _=>rfl⟩
 | x :: r,i,hl,hlen,hf=>by
  simp only [yja] at hlen;have hr':r=s.nodes.drop (i+1):=by rw [← yub,← hl];rfl
  have hi:s.nodes[i]? = some x:=by
   have:=congrArg (fun q=>q[0]?) hl;simpa [yFa] using this.symm
  have hg:s.nodes.getD i zF=x:=by rw [List.getD,hi];rfl
  have ih:=nodes_iff c all_ f r (i+1) hr' oA hf;have hfi:=hf i oA;rw [hg] at hfi;rw [QJ6];have step:∀ A B C D:Bool,∀ Z:Bool,(bif A then false else bif B then false else bif C then false else bif D then false else Z)=(!((((A||B)||C)||D))&&Z):=by decide
  rw [step,← hfi];cases hq:f i with
  | false =>
   refine ⟨fun h=>(by cases h),fun h=>?_⟩;have:=h i (yla _) oA;rw [hq] at this;cases this
  | true =>
   simp only [yIb];rw [ih];refine ⟨fun h k hk hk2=>?_,fun h k hk hk2=>h k oA hk2⟩;rcases yzb hk with h3|h3
   ·rw [← h3];exact hq
   ·exact h k h3 hk2
theorem nodes_eq (hp:s.jobs.Pairwise (fun a b=>a.id<b.id)) (hz:s.resizes.Pairwise (fun a b=>a.job<b.job)) (hn:∀ x ∈ s.jobs,U64 x.nodes) (hr:∀ r ∈ s.resizes,U64 r.nodes) :
  Qo3 s (Qy0 s.jobs 0 []) (QLd [] s.resizes)=true ↔ ∀ k,k<s.nodes.length->Qe4 s (k:Int)=true:=by
 unfold Qo3;rw [nodes_iff s _ _ (fun k=>Qe4 s (k:Int)) s.nodes 0 (by simp) oA ?_]
 ·exact ⟨fun h k hk=>h k (yva _) hk,fun h k _ hk=>h k hk⟩
 ·intro k hk;obtain ⟨q1,q2⟩:=run_get hp (s.nodes.getD k zF).job;have q3:(getM (s.nodes.getD k zF).job (QLd [] s.resizes)).getD zH=QU5 s (s.nodes.getD k zF).job:=all_of _ s.resizes [] 0 hz rfl;have uj:U64 (Q70 s (s.nodes.getD k zF).job).1.nodes:=by
   by_cases h:∃ x ∈ s.jobs,x.id=(s.nodes.getD k zF).job
   ·obtain ⟨x,hx,e⟩:=h;rw [← e,QUb hp hx];split
    ·exact hn x hx
    ·exact .zero
   ·rw [Q4g _ (fun x hx e=>h ⟨x,hx,e⟩)];exact .zero
  have ur:∀ id,U64 (QU5 s id).nodes:=by
   intro id;unfold QU5;have:∀ (l:List Resize) (i:Nat),(∀ r ∈ l,U64 r.nodes)->U64 (Q24 id l i).nodes:=by
    intro l
    induction l with
    | nil=>exact fun _ _=>.zero
    | cons y t ih =>
     intro i h;rw [Q24];cases (y.job==id) with
     | true=>exact h y (yqa ..)
     | false=>exact ih (i+1) fun r hr=>h r (yha _ hr)
   exact this _ _ hr
  rw [q1,q2,q3];unfold Qe4 Q62;rw [yna,has_eq uj,has_eq (ur _)];generalize (s.nodes.getD k zF).state=st;generalize (Q70 s (s.nodes.getD k zF).job).2=ru;generalize QV0 (Q70 s (s.nodes.getD k zF).job).1.nodes (k:Int)=h1;generalize QV0 (QU5 s (s.nodes.getD k zF).job).nodes (k:Int)=h2;generalize decide ((s.nodes.getD k zF).job >= s.nextJob)=dn;generalize ((s.nodes.getD k zF).want==4)=wa
  by_cases e1:st=1
  ·subst e1;revert ru h1 h2 dn wa
   decide
  by_cases e2:st=2
  ·subst e2;revert ru h1 h2 dn wa
   decide
  by_cases e3:st=3
  ·subst e3;revert ru h1 h2 dn wa
   decide
  have b1:(st==1)=false:=by simpa using e1
  have b2:(st==2)=false:=by simpa using e2
  have b3:(st==3)=false:=by simpa using e3
  rw [b1,b2,b3];revert ru h1 h2 dn wa
  decide
end
structure Words (s:State):Prop where
 sz:s.sz
 jobs:∀ x ∈ s.jobs,U64 x.nodes
 nodes:∀ r ∈ s.resizes,U64 r.nodes
 said:∀ r ∈ s.resizes,U64 r.said
section
variable {s:State}
def rzR (s:State) (k:Nat):Bool:=(QU1 s (s.resizes.getD k zH))&&(((k:Int)==0)||(decide ((s.resizes.getD ((w64 ((k:Int) - 1)).toNat) zH).job<(s.resizes.getD k zH).job)))
def heldR (s:State) (k:Nat):Bool:=((s.jobs.getD k zG).state != 2)||((Qx7 s.nodes ((s.jobs.getD k zG).id) 1)==(s.jobs.getD k zG).nodes)
theorem QCd (h:QX6 s=0):(Qn3 s=0 ↔ (Qp1 s.nextJob (QR1 s.jobs 0 0)=true∧Qp1 s.nextBook (QS1 s.books 0 0)=true)∧(∀ k,k<s.resizes.length->rzR s k=true)∧(∀ k,k<s.nodes.length->Qe4 s (k:Int)=true)∧(∀ k,k<s.jobs.length->heldR s k=true))∧(Qn3 s=0∨Qn3 s=141):=by
 unfold Qn3;rw [h];show ((bif false then (141:Int) else Q83 s (QP1 s.jobs 0 0).1 (QP1 s.jobs 0 0).2)=0 ↔ _)∧((bif false then (141:Int) else Q83 s (QP1 s.jobs 0 0).1 (QP1 s.jobs 0 0).2)=0∨(bif false then (141:Int) else Q83 s (QP1 s.jobs 0 0).1 (QP1 s.jobs 0 0).2)=141);simp only [cond_false];unfold Q83 QH5 QI5 QJ5 QK5;rw [last_job,last_book,← next_eq,← next_eq];generalize hok0:((Qp1 s.nextJob (QR1 s.jobs 0 0))&&(Qp1 s.nextBook (QS1 s.books 0 0)))=ok0;have e3:=okloop s.resizes.length (rzR s) (Qz4 s) (fun _ _ _=>rfl) ((((s.resizes.length:Int) - (0:Int)).toNat)+1) ok0 0 oA oA;generalize (Qz4 s ((((s.resizes.length:Int) - (0:Int)).toNat)+1) ok0 0).1=ok1 at *;have e4:=okloop s.nodes.length (fun k=>Qe4 s (k:Int)) (QA4 s) (fun _ _ _=>rfl) ((((s.nodes.length:Int) - (0:Int)).toNat)+1) ok1 0 oA oA;generalize (QA4 s ((((s.nodes.length:Int) - (0:Int)).toNat)+1) ok1 0).1=ok2 at *;have e5:=okloop s.jobs.length (heldR s) (QB4 s) (fun _ _ _=>rfl) ((((s.jobs.length:Int) - (0:Int)).toNat)+1) ok2 0 oA oA;generalize (QB4 s ((((s.jobs.length:Int) - (0:Int)).toNat)+1) ok2 0).1=ok3 at *;have hand:(Qp1 s.nextJob (QR1 s.jobs 0 0)=true∧Qp1 s.nextBook (QS1 s.books 0 0)=true) ↔ ok0=true:=by rw [← hok0,yea]
 rw [hand];have hz:ok3=true ↔ ok0=true∧(∀ k,k<s.resizes.length->rzR s k=true)∧(∀ k,k<s.nodes.length->Qe4 s (k:Int)=true)∧(∀ k,k<s.jobs.length->heldR s k=true):=by
  rw [e5,e4,e3];simp only [yva,true_implies,and_assoc]
 rw [← hz];cases ok3 <;> simp
theorem state_eq (h:Words s):Qz0 s=Qn3 s:=by
 have hpe:=plan_eq s h.sz h.jobs;cases hp:(QL2 s != 0) with
 | true =>
  have hr:(QX6 s != 0)=true:=by rw [← hpe];exact hp
  unfold Qz0 Qn3;rw [hp,hr]
  rfl
 | false =>
  have hp0:QL2 s=0:=by simpa using hp
  obtain ⟨r1,r2⟩:=QCd (s:=s) (by rw [← hpe];exact hp0);obtain ⟨hf,ht⟩:=Qq5 hp0;obtain ⟨_,hjc,hsort⟩:=QG4 ht;have hl:s.nodes.length<=64:=by have:=(QZa hf).1;omega
  have hid:∀ x ∈ s.jobs,1<=x.id:=fun x hx=>(QO7 (hjc x hx)).1
  have e:Qz0 s=QT1 s (QR1 s.jobs 0 0) (QS1 s.books 0 0) (Qy0 s.jobs 0 []) s.resizes 0 []:=by
   unfold Qz0 QD4 QE4 QN3;rw [hp]
   rfl
  obtain ⟨p1,p2⟩:=g4_iff s (QR1 s.jobs 0 0) (QS1 s.books 0 0) (Qy0 s.jobs 0 []) s.resizes 0 [] (by simp) oA;rw [← e] at p1 p2;have heldE:heldB s (Qy0 s.jobs 0 [])=true ↔ ∀ k,k<s.jobs.length->heldR s k=true:=by
   rw [held_iff s hsort hid];unfold heldR;constructor
   ·intro hh k hk;have hm:s.jobs.getD k zG ∈ s.jobs:=by
     rw [List.getD,yaa hk];exact yZa _
    cases hst:((s.jobs.getD k zG).state != 2) with
    | true=>rfl
    | false =>
     have:(s.jobs.getD k zG).state=2:=by simpa [bne] using hst
     rw [hh _ hm this];simp
   ·intro hh x hx hs;obtain ⟨k,hk⟩:=ylb hx;have hg:s.jobs.getD k zG=x:=by rw [List.getD,hk];rfl
    have:=hh k (List.getElem?_eq_some_iff.1 hk).1;rw [hg,hs] at this;simpa using this
  have rzE:(∀ k,k<s.jobs.length->heldR s k=true) -> ∀ k,k<s.resizes.length->rzP s (Qy0 s.jobs 0 []) k=rzR s k:=by
   intro hh k hk;have hm:s.resizes.getD k zH ∈ s.resizes:=by
    rw [List.getD,yaa hk];exact yZa _
   have hheld:=(held_iff s hsort hid).1 (heldE.2 hh);unfold rzP rzR;obtain ⟨q1,q2⟩:=run_get hsort (s.resizes.getD k zH).job;rw [q1,q2];have hord:((decide ((k:Int) > 0))&&(decide ((s.resizes.getD ((w64 ((k:Int) - 1)).toNat) zH).job >= (s.resizes.getD k zH).job))) = !(((k:Int)==0)||(decide ((s.resizes.getD ((w64 ((k:Int) - 1)).toNat) zH).job<(s.resizes.getD k zH).job))):=by
    rw [yMa];simp only [yea,yfa,y4a,yXa,yGa,beq_eq_false_iff_ne];omega
   rw [hord];have hres:((Q70 s (s.resizes.getD k zH).job).2=true->QO3 s (s.resizes.getD k zH) (Q70 s (s.resizes.getD k zH).job).1=QU1 s (s.resizes.getD k zH))∧((Q70 s (s.resizes.getD k zH).job).2=false->QU1 s (s.resizes.getD k zH)=false):=by
    constructor
    ·intro hrun
     by_cases hx:∃ x ∈ s.jobs,x.id=(s.resizes.getD k zH).job
     ·obtain ⟨x,hx,hxe⟩:=hx;have hrs:=QUb hsort hx;rw [hxe] at hrs
      by_cases hst:x.state=2
      ·rw [if_pos hst] at hrs;rw [hrs];refine resize_eq s _ x (h.nodes _ hm) (h.said _ hm) (h.jobs x hx) hf hrs (hjc x hx) fun i=>?_
       have he:=hheld x hx hst;rw [← of_eq] at he;obtain ⟨_,b⟩:=Q74 s.nodes (fun (y:Node)=>((y.job==x.id)&&(y.state==1))) hf hl;rw [← he];unfold Ql7;rw [b,hxe];simp
      ·rw [if_neg hst] at hrs;rw [hrs] at hrun;cases hrun
     ·rw [Q4g _ (fun x hx' e=>hx ⟨x,hx',e⟩)] at hrun;cases hrun
    ·intro hrun;unfold QU1;rw [hrun]
     rfl
   cases hrun:(Q70 s (s.resizes.getD k zH).job).2 with
   | true =>
    rw [hres.1 hrun];generalize (((k:Int)==0)||(decide ((s.resizes.getD ((w64 ((k:Int) - 1)).toNat) zH).job<(s.resizes.getD k zH).job)))=A;generalize QU1 s (s.resizes.getD k zH)=B;revert A B
    decide
   | false =>
    rw [hres.2 hrun];simp
  have rzS:(∀ k,k<s.resizes.length->rzR s k=true)->s.resizes.Pairwise (fun a b=>a.job<b.job):=by
   intro hh;have hstep:∀ k,k+1<s.resizes.length->(s.resizes.getD k zH).job<(s.resizes.getD (k+1) zH).job:=by
    intro k hk;have hk':=hh (k+1) hk;have hlen:s.resizes.length<=4294967296:=h.sz.2.2.2.1;unfold rzR at hk';rw [yea] at hk';have hw:w64 (((k+1:Nat):Int) - 1)=(k:Int):=by
     have:=wr (n:=((k+1:Nat):Int) - 1) oA;show IntKind.i64.wrap _=_;rw [this];omega
    rw [hw,yna] at hk';have hne:(((k+1:Nat):Int)==0)=false:=by simp;omega
    rw [hne,y3a,yfa] at hk';exact hk'.2
   rw [List.pairwise_iff_getElem];have hmono:∀ (d a:Nat),a+d+1<s.resizes.length->(s.resizes.getD a zH).job<(s.resizes.getD (a+d+1) zH).job:=by
    intro d
    induction d with
    | zero=>intro a ha;exact hstep a ha
    | succ d ih =>
     intro a ha;have h1:=ih a oA;have h2:=hstep (a+d+1) oA;have:a+(d+1)+1=a+d+1+1:=by omega
     rw [this];omega
   intro a b ha hb hab;have:=hmono (b - a - 1) a oA;have e2:a+(b - a - 1)+1=b:=by omega
   rw [e2] at this;have g1:s.resizes.getD a zH=s.resizes[a]:=by rw [List.getD,yaa ha];rfl
   have g2:s.resizes.getD b zH=s.resizes[b]:=by rw [List.getD,yaa hb];rfl
   rw [g1,g2] at this;exact this
  have hiff:Qz0 s=0 ↔ Qn3 s=0:=by
   rw [p1,r1,heldE];constructor
   ·rintro ⟨a,b,c,d,q⟩;have hrz:∀ k,k<s.resizes.length->rzR s k=true:=fun k hk=>by rw [← rzE q k hk];exact a k (yva _) hk
    exact ⟨⟨b,c⟩,hrz,(nodes_eq s hsort (rzS hrz) h.jobs h.nodes).1 d,q⟩
   ·rintro ⟨⟨b,c⟩,a,d,q⟩;exact ⟨fun k _ hk=>by rw [rzE q k hk];exact a k hk,b,c,(nodes_eq s hsort (rzS a) h.jobs h.nodes).2 d,q⟩
  rcases p2 with a|a <;> rcases r2 with b|b
  ·rw [a,b]
  ·rw [hiff.1 a] at b;cases b
  ·rw [hiff.2 b] at a;cases a
  ·rw [a,b]
end
def adB (to_ n last:Int):List Step->List Step
 | []=>if to_<=1000000 then [⟨to_,last⟩] else []
 | y :: r=>if y.at_<to_ then ⟨y.at_,y.free+n⟩ :: adB to_ n y.free r else if to_<y.at_ then ⟨to_,last⟩ :: y :: r else y :: r
def adA (from_ to_ n:Int) (x:Step):List Step->List Step
 | []=>(if x.at_<from_ then [x] else [])++⟨from_,x.free+n⟩ :: adB to_ n x.free []
 | y :: r=>if y.at_<=from_ then x :: adA from_ to_ n y r else (if x.at_<from_ then [x] else [])++⟨from_,x.free+n⟩ :: adB to_ n x.free (y :: r)
theorem adB_srt {to_ n:Int}:∀ (r:List Step) (a last:Int),Srt a r->a<to_->Srt a (adB to_ n last r)
 | [],a,last,_,ha=>by
  unfold adB;split
  ·exact ⟨ha,by assumption,trivial⟩
  ·exact trivial
 | y :: r,a,last,h,ha=>by
  unfold adB;split
  ·exact ⟨h.1,h.2.1,adB_srt r y.at_ y.free h.2.2 (by assumption)⟩
  ·split
   ·exact ⟨ha,by have:=h.2.1;show to_<=1000000;omega,by assumption,h.2⟩
   ·exact h
theorem adB_pv {to_ n t:Int} (ht:t<=1000000):∀ (r:List Step) (a last:Int),Srt a r->a<to_->pv (last+n) (adB to_ n last r) t=pv last r t+(if t<to_ then n else 0)
 | [],a,last,_,ha=>by
  unfold adB;split
  ·simp only [pv];split <;> split <;> omega
  ·simp only [pv];rw [if_pos oA]
 | y :: r,a,last,h,ha=>by
  unfold adB;split
  ·rename_i hy;simp only [pv]
   by_cases hyt:y.at_<=t
   ·rw [if_pos hyt,if_pos hyt];exact adB_pv ht r y.at_ y.free h.2.2 hy
   ·rw [if_neg hyt,if_neg hyt,Qy1 (adB_srt r y.at_ y.free h.2.2 hy) oA,Qy1 h.2.2 oA,if_pos oA]
  ·rename_i hy;split
   ·rename_i hz;simp only [pv]
    by_cases htt:to_<=t
    ·rw [if_pos htt,if_neg (by omega:¬ t<to_)];omega
    ·rw [if_neg htt,if_neg (by omega:¬ y.at_<=t),if_pos (by omega:t<to_),Qy1 h.2.2 oA,if_neg oA,Qy1 h.2.2 oA]
   ·rename_i hz;simp only [pv]
    by_cases htt:y.at_<=t
    ·rw [if_pos htt,if_pos htt,if_neg (by omega:¬ t<to_)];omega
    ·rw [if_neg htt,if_neg htt,if_pos (by omega:t<to_),Qy1 h.2.2 oA,Qy1 h.2.2 oA]
theorem adH_srt {from_ to_ n:Int} (hf:from_<=1000000) (hft:from_<to_) (x:Step) (r:List Step) (hx:x.at_<=from_) (h:Srt from_ r) (a:Int) (ha:a<x.at_) (hx1:x.at_<=1000000) :
  Srt a ((if x.at_<from_ then [x] else [])++⟨from_,x.free+n⟩ :: adB to_ n x.free r):=by
 have h2:=adB_srt (n:=n) r from_ x.free h hft;split
 ·exact ⟨ha,hx1,by assumption,hf,h2⟩
 ·exact ⟨by show a<from_;omega,hf,h2⟩
theorem adH_pv {from_ to_ n t:Int} (ht:t<=1000000) (hft:from_<to_) (x:Step) (r:List Step) (hx:x.at_<=from_) (h:Srt from_ r) (f:Int) :
  pv f ((if x.at_<from_ then [x] else [])++⟨from_,x.free+n⟩ :: adB to_ n x.free r) t=pv f (x :: r) t+(if from_<=t∧t<to_ then n else 0):=by
 have h2:=adB_srt (n:=n) r from_ x.free h hft;have h3:=adB_pv (n:=n) ht r from_ x.free h hft
 by_cases hxf:x.at_<from_
 ·rw [if_pos hxf];simp only [yQb,y9a,pv]
  by_cases hxt:x.at_<=t
  ·rw [if_pos hxt,if_pos hxt]
   by_cases hft2:from_<=t
   ·rw [if_pos hft2,h3]
    congr 1
    split <;> split <;> omega
   ·rw [if_neg hft2,Qy1 h2 oA,Qy1 h oA,if_neg oA];omega
  ·rw [if_neg hxt,if_neg hxt,if_neg oA,if_neg oA,Qy1 h2 oA,Qy1 h oA];omega
 ·rw [if_neg hxf];have e:x.at_=from_:=by omega
  simp only [y9a,pv,e]
  by_cases hft2:from_<=t
  ·rw [if_pos hft2,if_pos hft2,h3]
   congr 1
   split <;> split <;> omega
  ·rw [if_neg hft2,if_neg hft2,Qy1 h2 oA,Qy1 h oA,if_neg oA];omega
theorem adA_srt {from_ to_ n:Int} (hf:from_<=1000000) (hft:from_<to_):∀ (r:List Step) (x:Step) (a:Int),a<x.at_->x.at_<=from_->Srt x.at_ r->Srt a (adA from_ to_ n x r)
 | [],x,a,ha,hx,_=>by
  unfold adA;exact adH_srt hf hft x [] hx trivial a ha oA
 | y :: r,x,a,ha,hx,h=>by
  unfold adA;split
  ·exact ⟨ha,by omega,adA_srt hf hft r y x.at_ h.1 (by assumption) h.2.2⟩
  ·exact adH_srt hf hft x (y :: r) hx ⟨by omega,h.2⟩ a ha oA
theorem adA_pv {from_ to_ n t:Int} (hf:from_<=1000000) (ht:t<=1000000) (hft:from_<to_):∀ (r:List Step) (x:Step) (f:Int),x.at_<=from_->Srt x.at_ r->pv f (adA from_ to_ n x r) t=pv f (x :: r) t+(if from_<=t∧t<to_ then n else 0)
 | [],x,f,hx,_=>by
  unfold adA;exact adH_pv ht hft x [] hx trivial f
 | y :: r,x,f,hx,h=>by
  unfold adA;split
  ·rename_i hy;have ih:=adA_pv (n:=n) hf ht hft r y;have hs:=adA_srt (n:=n) hf hft r y x.at_ h.1 hy h.2.2;simp only [pv] at ih ⊢
   by_cases hxt:x.at_<=t
   ·rw [if_pos hxt,if_pos hxt];exact ih x.free hy h.2.2
   ·have:=h.1;rw [if_neg hxt,if_neg hxt,Qy1 hs oA,if_neg oA,if_neg oA,Qy1 h.2.2 oA];omega
  ·exact adH_pv ht hft x (y :: r) hx ⟨by omega,h.2⟩ f
def adP (from_ to_ n:Int):List Step->List Step
 | []=>[]
 | x :: r=>adA from_ to_ n x r
theorem adA_head {from_ to_ n:Int} (r:List Step) (x:Step) (hx:x.at_<=from_):∃ f q,adA from_ to_ n x r=⟨x.at_,f⟩ :: q:=by
 have hd:∀ r:List Step,∃ f q,(if x.at_<from_ then [x] else [])++⟨from_,x.free+n⟩ :: adB to_ n x.free r=⟨x.at_,f⟩ :: q:=by
  intro r;split
  ·exact ⟨x.free,_,rfl⟩
  ·exact ⟨x.free+n,_,by rw [show x.at_=from_ by omega];rfl⟩
 cases r with
 | nil=>exact hd []
 | cons y r =>
  unfold adA;split
  ·exact ⟨x.free,_,rfl⟩
  ·exact hd (y :: r)
theorem adP_srt0 {p:List Step} {from_ to_ n:Int} (h:Srt0 p) (h0:0<=from_) (hf:from_<=1000000) (hft:from_<to_):Srt0 (adP from_ to_ n p):=by
 cases p with
 | nil=>exact h.elim
 | cons x r =>
  have hx:=h.1;have hs:=adA_srt (n:=n) hf hft r x (-1) oA oA h.2;obtain ⟨f,q,e⟩:=adA_head (from_:=from_) (to_:=to_) (n:=n) r x oA;show Srt0 (adA from_ to_ n x r);rw [e] at hs ⊢;exact ⟨hx,hs.2.2⟩
theorem adP_pat {p:List Step} {from_ to_ n t:Int} (h:Srt0 p) (h0:0<=from_) (hf:from_<=1000000) (hft:from_<to_) (ht:t<=1000000):pat (adP from_ to_ n p) t=pat p t+(if from_<=t∧t<to_ then n else 0):=by
 cases p with
 | nil=>exact h.elim
 | cons x r =>
  have hx:=h.1;exact adA_pv hf ht hft r x 0 oA h.2
theorem fits_not (n:Int):(!(QO2 n))=((decide (n<(-1000000)))||(decide (n > 1000000))):=by
 rw [yMa];simp [QO2]
theorem pcheck_g1 (p:List Step):∀ (l:List Step) (i:Nat),Qr5 p l i=QK3 p l i
 | [],_=>rfl
 | x :: r,i=>by
  rw [Qr5,QK3,pcheck_g1 p r (i+1),fits_not];cases (((decide (x.free<(-1000000)))||(decide (x.free > 1000000)))||(decide (x.at_ > 1000000))) <;> simp only [yrc,y3a,cond_true,cond_false]
theorem Qs8 (p:List Step):Q42 p=QW0 p:=by
 unfold Q42 QW0;have e:((p.length:Int)==0)=decide ((p.length:Int)<1):=by
  rw [yMa,beq_iff_eq,yfa];omega
 rw [pcheck_g1,e]
def Cn (p:List Step):Prop:=Can p∧p.length<=1000 ∧ ∀ x ∈ p,-1000000<=x.free∧x.free<=1000000
theorem Qma {α:Type} (d:α) {p:List α} {i:Nat} {x:α} {r:List α} (h:p.drop i=x :: r):p.getD i d=x∧p.drop (i+1)=r:=by
 have h1:p[i]? = some x:=by
  have:(p.drop i)[0]? = some x:=by rw [h];rfl
  simpa using this
 have h2:p.drop (i+1)=r:=by
  have:(p.drop i).drop 1=r:=by rw [h];rfl
  rwa [yub] at this
 exact ⟨by simp [List.getD,h1],h2⟩
theorem check_g1 (p:List Step) (hp:p.length<=1000):∀ (l:List Step) (i:Nat),p.drop i=l->0<i->i<=1000->(QK3 p l i=0 ↔ Srt (p.getD (i - 1) zE).at_ l∧Dif (p.getD (i - 1) zE).free l ∧ ∀ x ∈ l,-1000000<=x.free∧x.free<=1000000)
 | [],i,_,_,_=>⟨fun _=>⟨trivial,trivial,fun x hx=>absurd hx ybb⟩,fun _=>rfl⟩
 | x :: r,i,h,h0,hi=>by
  obtain ⟨h1,h2⟩:=Qma zE h;have hlt:i<p.length:=by
   have:=congrArg List.length h;simp only [ywa,yja] at this;omega
  have ih:=check_g1 p hp r (i+1) h2 oA oA;rw [show i+1 - 1=i by omega,h1] at ih;have hw:(w64 ((i:Int) - 1)).toNat=i - 1:=by
   have:w64 ((i:Int) - 1)=(i:Int) - 1:=wr oA;rw [this];omega
  rw [QK3,hw];generalize p.getD (i - 1) zE=y
  by_cases hA:(((decide (x.free<(-1000000)))||(decide (x.free > 1000000)))||(decide (x.at_ > 1000000)))=true
  ·rw [hA];simp only [cond_true];constructor
   ·intro h;cases h
   ·rintro ⟨hs,_,hf⟩;have:=hs.2.1;have:=hf x (yqa ..);simp at hA;omega
  ·rw [yYb] at hA;rw [hA];simp only [cond_false];simp at hA
   by_cases hB:((decide ((i:Int) > 0))&&((decide (x.at_<=y.at_))||(x.free==y.free)))=true
   ·rw [hB];simp only [cond_true];constructor
    ·intro h;cases h
    ·rintro ⟨hs,hd,_⟩;have:=hs.1;have:=hd.1;simp at hB;omega
   ·rw [yYb] at hB;rw [hB];simp only [cond_false];simp at hB;obtain ⟨hB1,hB2⟩:=hB oA;rw [ih];constructor
    ·rintro ⟨a,b,c⟩;refine ⟨⟨by omega,by omega,a⟩,⟨fun e=>hB2 e.symm,b⟩,fun z hz=>?_⟩;rcases List.mem_cons.1 hz with rfl|hz
     ·omega
     ·exact c z hz
    ·rintro ⟨a,b,c⟩;exact ⟨a.2.2,b.2,fun z hz=>c z (yha _ hz)⟩
theorem Qk8 (p:List Step):QW0 p=0 ↔ Cn p:=by
 cases p with
 | nil=>exact ⟨fun h=>by simp [QW0] at h,fun h=>h.1.elim⟩
 | cons x r =>
  unfold QW0
  by_cases hA:(((decide ((((x :: r).length:Nat):Int)<1))||(decide ((((x :: r).length:Nat):Int) > 1000)))||(((x :: r).getD 0 zE).at_ != 0))=true
  ·rw [hA];simp only [cond_true];constructor
   ·intro h;cases h
   ·rintro ⟨⟨h1,_⟩,h2,_⟩;simp at hA h2;omega
  ·rw [yYb] at hA;rw [hA];simp only [cond_false];simp at hA;have hl:(x :: r).length<=1000:=by simp;omega
   have ih:=check_g1 (x :: r) hl r 1 rfl oA oA;have e0:(x :: r).getD (1 - 1) zE=x:=rfl;rw [e0] at ih;rw [QK3];simp only [Int.ofNat_zero,gt_iff_lt,Int.lt_irrefl,decide_false,yHb,cond_false,yma]
   by_cases hB:(((decide (x.free<(-1000000)))||(decide (1000000<x.free)))||(decide (1000000<x.at_)))=true
   ·rw [hB];simp only [cond_true];constructor
    ·intro h;cases h
    ·rintro ⟨⟨h1,_⟩,_,h3⟩;have:=h3 x (yqa ..);simp at hB;omega
   ·rw [yYb] at hB;rw [hB];simp only [cond_false];simp at hB;rw [ih];constructor
    ·rintro ⟨a,b,c⟩;refine ⟨⟨hA.2,a,b⟩,hl,fun z hz=>?_⟩;rcases List.mem_cons.1 hz with rfl|hz
     ·omega
     ·exact c z hz
    ·rintro ⟨⟨_,a,b⟩,_,c⟩;exact ⟨a,b,fun z hz=>c z (yha _ hz)⟩
theorem now_g1 (t:Int):∀ (l:List Step) (out:Int) (i:Nat),(Q55 t l out i).1=pv out l t
 | [],_,_=>rfl
 | x :: r,out,i=>by
  rw [Q55];simp only [pv]
  by_cases h:x.at_<=t
  ·rw [yga h,if_pos h];exact now_g1 t r x.free (i+1)
  ·rw [yka h,if_neg h];exact now_g1 t r out (i+1)
theorem now_eq (p:List Step) (t:Int):Qt5 p t=pat p t:=now_g1 t p 0 0
theorem Q0h (t:Int):∀ (p:List Step) (f:Int),pv f p t=f ∨ ∃ x ∈ p,pv f p t=x.free
 | [],f=>.inl rfl
 | x :: r,f=>by
  simp only [pv];split
  ·rcases Q0h t r x.free with h|⟨y,hy,h⟩
   ·exact .inr ⟨x,yqa ..,h⟩
   ·exact .inr ⟨y,yha _ hy,h⟩
  ·rcases Q0h t r f with h|⟨y,hy,h⟩
   ·exact .inl h
   ·exact .inr ⟨y,yha _ hy,h⟩
theorem Cn.pat {p:List Step} (h:Cn p) (t:Int):-1000000<=pat p t∧pat p t<=1000000:=by
 rcases Q0h t p 0 with e|⟨x,hx,e⟩
 ·unfold Proofs.YtackngeeehiegaaGreatDoor.pat;omega
 ·have:=h.2.2 x hx;unfold Proofs.YtackngeeehiegaaGreatDoor.pat;omega
theorem put_g1 (l:List Int) (n:Int):∀ (m i:Nat),l.length - i<m->i<=l.length->i<=Qf3 l n m i∧Qf3 l n m i<=l.length∧(∀ j,i<=j->j<Qf3 l n m i->l.getD j 0<n)∧(Qf3 l n m i<l.length->n<=l.getD (Qf3 l n m i) 0)
 | 0,_,h,_=>absurd h (ygc _)
 | m+1,i,h,hi=>by
  rw [Qf3]
  by_cases hc:((decide ((i:Int)<(l.length:Int)))&&(decide ((l.getD i 0)<n)))=true
  ·rw [hc];simp only [cond_true];rw [yea,yfa,yfa] at hc;obtain ⟨a,b,c,d⟩:=put_g1 l n m (i+1) oA oA;refine ⟨by omega,b,fun j hj hjk=>?_,d⟩;rcases yoa i j with h1|h1
   ·exact c j h1 hjk
   ·rw [show j=i by omega];exact hc.2
  ·rw [yYb] at hc;rw [hc];simp only [cond_false];refine ⟨yla _,hi,fun j hj hjk=>by omega,fun hlt=>?_⟩;simp only [yOb,yGa] at hc;omega
theorem Q7b {α:Type} {d:α} {l:List α} {j:Nat} (h:j<l.length):l.getD j d ∈ l:=by
 rw [yTa,yaa h];exact yZa h
theorem put_spec {l:List Int} (n:Int) (hl:l.Pairwise (· < ·)):(Q14 l n).Pairwise (· < ·) ∧ ∀ y,y ∈ Q14 l n ↔ y=n∨y ∈ l:=by
 obtain ⟨_,h2,h3,h4⟩:=put_g1 l n ((((l.length:Int) - (0:Int)).toNat)+1) 0 oA oA;unfold Q14 Q76;revert h2 h3 h4;generalize Qf3 l n ((((l.length:Int) - (0:Int)).toNat)+1) 0=k;intro h2 h3 h4
 by_cases hc:((decide ((k:Int)<(l.length:Int)))&&((l.getD k 0)==n))=true
 ·rw [hc];simp only [cond_true];rw [yea,yfa,beq_iff_eq] at hc;refine ⟨hl,fun y=>⟨.inr,?_⟩⟩;rintro (rfl|h)
  ·rw [← hc.2];exact Q7b oA
  ·exact h
 ·rw [yYb] at hc;rw [hc];simp only [cond_false];have hlow:∀ y ∈ l.take k,y<n:=by
   intro y hy;obtain ⟨j,hj,rfl⟩:=List.mem_iff_getElem.1 hy;have hj':j<k:=by simp at hj;omega
   have:=h3 j (yva _) hj';rw [yTa,yaa oA] at this;simpa using this
  have hhigh:∀ y ∈ l.drop k,n<y:=by
   intro y hy;obtain ⟨j,hj,rfl⟩:=List.mem_iff_getElem.1 hy;have hk:k<l.length:=by simp at hj;omega
   have hne:l.getD k 0 ≠ n:=by
    intro e;simp only [yOb,yGa,beq_eq_false_iff_ne] at hc;rcases hc with hc|hc
    ·omega
    ·exact hc e
   have h5:=h4 hk;rw [yTa,yaa hk] at h5 hne;simp only [yEa] at h5 hne;simp only [List.getElem_drop];rcases yNa j with rfl|hj0
   ·simp only [y6a];omega
   ·have:=List.pairwise_iff_getElem.1 hl k (k+j) hk (by simp at hj;omega) oA;omega
  refine ⟨?_,fun y=>?_⟩
  ·rw [yfb,List.pairwise_append];refine ⟨hl.sublist (List.take_sublist _ _),?_,fun a ha b hb=>?_⟩
   ·rw [List.singleton_append,yxc];exact ⟨hhigh,hl.sublist (List.drop_sublist _ _)⟩
   ·rcases List.mem_append.1 hb with hb|hb
    ·rw [List.mem_singleton.1 hb];exact hlow a ha
    ·have:=hlow a ha;have:=hhigh b hb;omega
  ·simp only [yMb,List.mem_singleton];constructor
   ·rintro ((h|h)|h)
    ·exact .inr (ycb h)
    ·exact .inl h
    ·exact .inr (yVa h)
   ·rintro (h|h)
    ·exact .inl (.inr h)
    ·have e:l=l.take k++l.drop k:=(yLb k l).symm;rw [e] at h;rcases List.mem_append.1 h with h|h
     ·exact .inl (.inl h)
     ·exact .inr h
theorem ticks_g1:∀ (p:List Step) (out:List Int) (i:Nat),out.Pairwise (· < ·)->(Qx1 p out i).1.Pairwise (· < ·) ∧ ∀ y,y ∈ (Qx1 p out i).1 ↔ y ∈ out ∨ ∃ x ∈ p,x.at_=y
 | [],out,i,h=>⟨h,fun y=>by simp [Qx1]⟩
 | x :: r,out,i,h=>by
  rw [Qx1];obtain ⟨a,b⟩:=put_spec x.at_ h;obtain ⟨c,d⟩:=ticks_g1 r (Q14 out x.at_) (i+1) a;refine ⟨c,fun y=>?_⟩;rw [d y,b y];constructor
  ·rintro ((rfl|h)|⟨z,hz,h⟩)
   ·exact .inr ⟨x,yqa ..,rfl⟩
   ·exact .inl h
   ·exact .inr ⟨z,yha _ hz,h⟩
  ·rintro (h|⟨z,hz,h⟩)
   ·exact .inl (.inr h)
   ·rcases List.mem_cons.1 hz with rfl|hz
    ·exact .inl (.inl h.symm)
    ·exact .inr ⟨z,hz,h⟩
theorem ticks_g2:∀ (p out:List Int) (i:Nat),out.Pairwise (· < ·)->(QO1 p out i).1.Pairwise (· < ·) ∧ ∀ y,y ∈ (QO1 p out i).1 ↔ y ∈ out∨y ∈ p
 | [],out,i,h=>⟨h,fun y=>by simp [QO1]⟩
 | x :: r,out,i,h=>by
  rw [QO1];obtain ⟨a,b⟩:=put_spec x h;obtain ⟨c,d⟩:=ticks_g2 r (Q14 out x) (i+1) a;refine ⟨c,fun y=>?_⟩;rw [d y,b y,yuc];constructor
  ·rintro ((h|h)|h)
   ·exact .inr (.inl h)
   ·exact .inl h
   ·exact .inr (.inr h)
  ·rintro (h|h|h)
   ·exact .inl (.inr h)
   ·exact .inl (.inl h)
   ·exact .inr h
theorem ticks_spec (p:List Step) (more:List Int):(Q91 p more).Pairwise (· < ·) ∧ ∀ y,y ∈ Q91 p more ↔ (∃ x ∈ p,x.at_=y)∨y ∈ more:=by
 obtain ⟨a,b⟩:=ticks_g1 p [] 0 .nil;obtain ⟨c,d⟩:=ticks_g2 more (Qx1 p [] 0).1 0 a;refine ⟨c,fun y=>?_⟩;show y ∈ (QO1 more (Qx1 p [] 0).1 0).1 ↔ _;rw [d y,b y];simp
theorem put_test (out:List Step) (u v:Int) (h:out.length<=4294967296):(bif (((out.length:Int)==0)||((out.getD ((w64 ((out.length:Int) - 1)).toNat) zE).free != v)) then (out++([(⟨u,v⟩:Step)]:List Step)) else out)=putS out ⟨u,v⟩:=by
 rcases List.eq_nil_or_concat out with rfl|⟨L,b,rfl⟩
 ·rfl
 ·have hw:(w64 ((((L++[b]).length:Nat):Int) - 1)).toNat=L.length:=by
   have:w64 ((((L++[b]).length:Nat):Int) - 1)=(L.length:Int):=by
    rw [show (((L++[b]).length:Nat):Int) - 1=(L.length:Int) by simp];exact wr (by simp at h;omega)
   rw [this]
   rfl
  rw [List.concat_eq_append] at *;rw [hw];have h0:((((L++[b]).length:Nat):Int)==0)=false:=by simp;omega
  have hg:(L++[b]).getD L.length zE=b:=by simp [List.getD]
  rw [h0,hg];simp only [putS,List.getLast?_append,List.getLast?_singleton,Option.some_or,y3a]
  by_cases e:b.free=v
  ·simp [e]
  ·have e2:(b.free != v)=true:=by simpa using e
   simp [e,e2]
theorem QMb (out:List Step) (x:Step):(putS out x).length<=out.length+1:=by
 unfold putS;split
 ·simp
 ·split
  ·omega
  ·simp
theorem add_g2 (p:List Step) (f_ t_ n:Int):∀ (L:List Int) (out:List Step) (i:Nat),out.length+L.length<=100000->(Qs2 p f_ t_ n L out i).1=(L.map fun x=>(⟨x,if f_<=x∧x<t_ then w64 (pat p x+n) else pat p x⟩:Step)).foldl putS out
 | [],_,_,_=>rfl
 | x :: r,out,i,h=>by
  have key:(Qs2 p f_ t_ n (x :: r) out i)=Qs2 p f_ t_ n r (putS out ⟨x,if f_<=x∧x<t_ then w64 (pat p x+n) else pat p x⟩) (i+1):=by
   rw [Qs2,now_eq];simp only [yja] at h
   by_cases hc:f_<=x∧x<t_
   ·rw [if_pos hc,show ((decide (x >= f_))&&(decide (x<t_)))=true by simp;omega,← put_test out x (w64 (pat p x+n)) oA];simp only [cond_true];cases (((out.length:Int)==0)||((out.getD ((w64 ((out.length:Int) - 1)).toNat) zE).free != (w64 (pat p x+n)))) <;> rfl
   ·rw [if_neg hc,show ((decide (x >= f_))&&(decide (x<t_)))=false by simp;omega,← put_test out x (pat p x) oA];simp only [cond_false];cases (((out.length:Int)==0)||((out.getD ((w64 ((out.length:Int) - 1)).toNat) zE).free != (pat p x))) <;> rfl
  rw [key,yjb,ysb];have:=QMb out ⟨x,if f_<=x∧x<t_ then w64 (pat p x+n) else pat p x⟩;simp only [yja] at h;exact add_g2 p f_ t_ n r _ (i+1) oA
theorem pv_const:∀ (p:List Step) (f u v:Int),u<=v->(∀ x ∈ p,x.at_<=u∨v<x.at_)->pv f p u=pv f p v
 | [],_,_,_,_,_=>rfl
 | x :: r,f,u,v,huv,h=>by
  simp only [pv];have hr:∀ y ∈ r,y.at_<=u∨v<y.at_:=fun y hy=>h y (yha _ hy)
  rcases h x (yqa ..) with h1|h1
  ·rw [if_pos h1,if_pos (by omega:x.at_<=v)];exact pv_const r x.free u v huv hr
  ·rw [if_neg (by omega:¬ x.at_<=u),if_neg (by omega:¬ x.at_<=v)];exact pv_const r f u v huv hr
theorem Srt.of_pairwise (g:Int->Int):∀ (l:List Int) (a:Int),(a :: l).Pairwise (· < ·)->(∀ x ∈ l,x<=1000000)->Srt a (l.map fun u=>(⟨u,g u⟩:Step))
 | [],_,_,_=>trivial
 | x :: r,a,h,hb=>by
  rw [yxc] at h;exact ⟨h.1 x (yqa ..),hb x (yqa ..),Srt.of_pairwise g r x h.2 fun y hy=>hb y (yha _ hy)⟩
def Adds (p q:List Step) (f_ t_ n:Int):Prop:=Can q∧q.length<=p.length+2 ∧ ∀ t,0<=t->t<=1000000->pat q t=pat p t+(if f_<=t∧t<t_ then n else 0)
theorem Adds.uniq {p q q':List Step} {f_ t_ n:Int} (h:Adds p q f_ t_ n) (h':Adds p q' f_ t_ n):q=q' :=
 Can.uniq h.1 h'.1 fun t h0 h1=>by rw [h.2.2 t h0 h1,h'.2.2 t h0 h1]
theorem ref_add {p:List Step} {f_ t_ n:Int} (hp:Cn p) (h0:0<=f_) (hf:f_<=1000000) (hft:f_<=t_) (hn:-1000000<=n∧n<=1000000) :
  ∃ q,Adds p q f_ t_ n∧Qi2 p f_ t_ n=(bif ((QW0 q)!=0) then ([],3) else (q,0)):=by
 have hc:((QW0 p)!=0)=false:=by rw [(Qk8 p).2 hp];rfl
 have hb:(((((decide (f_<0))||(decide (f_ > 1000000)))||(decide (t_<f_)))||(decide (n<(-1000000))))||(decide (n > 1000000)))=false:=by simp;omega
 obtain ⟨more,hmore,hlen,hadd⟩:∃ more:List Int,(∀ y,y ∈ more ↔ y=f_∨(y=t_∧t_<=1000000))∧more.length<=2∧Qi2 p f_ t_ n=Qd7 p f_ t_ n more:=by
  by_cases ht:t_<=1000000
  ·refine ⟨([f_]:List Int)++([t_]:List Int),fun y=>by simp [ht],by simp,?_⟩;unfold Qi2;rw [hc,hb,yga ht]
   rfl
  ·refine ⟨[f_],fun y=>by simp [ht],by simp,?_⟩;unfold Qi2;rw [hc,hb,yka ht]
   rfl
 obtain ⟨hL,hm⟩:=ticks_spec p more;have hl:=Ql9 p more;have hp1:=hp.2.1;have hg:=add_g2 p f_ t_ n (Q91 p more) [] 0 (by simp;omega);have hw:∀ x:Int,(if f_<=x∧x<t_ then w64 (pat p x+n) else pat p x)=pat p x+(if f_<=x∧x<t_ then n else 0):=by
  intro x;have hb2:=hp.pat x;split
  ·exact wr oA
  ·omega
 simp only [hw] at hg;have hz:∃ l,Q91 p more=0 :: l:=by
  have h00:(0:Int) ∈ Q91 p more:=by
   rw [hm];left;cases p with
   | nil=>exact hp.1.elim
   | cons x r=>exact ⟨x,yqa ..,hp.1.1⟩
  have hge:∀ y ∈ Q91 p more,0<=y:=by
   intro y hy;rw [hm,hmore] at hy;rcases hy with ⟨x,hx,rfl⟩|rfl|⟨rfl,_⟩
   ·exact (hp.1.srt0.mem x hx).1
   ·exact h0
   ·omega
  cases hT:Q91 p more with
  | nil=>rw [hT] at h00;cases h00
  | cons y l =>
   rw [hT] at h00 hge hL;rcases List.mem_cons.1 h00 with h|h
   ·rw [h];exact ⟨l,rfl⟩
   ·have h1:=(List.pairwise_cons.1 hL).1 0 h;have h2:=hge y (yqa ..);omega
 obtain ⟨l,hT⟩:=hz;have hle:∀ y ∈ l,y<=1000000:=by
  intro y hy;have:y ∈ Q91 p more:=by rw [hT];exact yha _ hy
  rw [hm,hmore] at this;rcases this with ⟨x,hx,rfl⟩|rfl|⟨rfl,h⟩
  ·exact (hp.1.srt0.mem x hx).2.1
  ·exact hf
  ·exact h
 rw [hT] at hL hg hl;have hs:=Srt.of_pairwise (fun x=>pat p x+(if f_<=x∧x<t_ then n else 0)) l 0 hL hle;have hs0:Srt0 ((0 :: l).map fun x=>(⟨x,pat p x+(if f_<=x∧x<t_ then n else 0)⟩:Step)):=⟨rfl,hs⟩;have hfold:(Qs2 p f_ t_ n (0 :: l) [] 0).1=comp0 ((0 :: l).map fun x=>(⟨x,pat p x+(if f_<=x∧x<t_ then n else 0)⟩:Step)):=by
  rw [hg];have:=Qlg ((0 :: l).map fun x=>(⟨x,pat p x+(if f_<=x∧x<t_ then n else 0)⟩:Step)) [];simpa [comp0] using this
 refine ⟨comp0 ((0 :: l).map fun x=>(⟨x,pat p x+(if f_<=x∧x<t_ then n else 0)⟩:Step)),⟨comp0_can hs0,?_,fun t ht0 ht1=>?_⟩,?_⟩
 ·refine yHa (QCe _) ?_;rw [ypb];omega
 ·rw [comp0_pat ht0 hs0];show (if (0:Int)<=t then pv _ (l.map fun x=>(⟨x,pat p x+(if f_<=x∧x<t_ then n else 0)⟩:Step)) t else pv 0 _ t)=_;rw [if_pos ht0];refine pv_map (fun x=>pat p x+(if f_<=x∧x<t_ then n else 0)) t l 0 _ hs ht0 (fun u v hu huv hv hx=>?_) rfl;have hx':∀ y ∈ (0 :: l),y<=u∨v<y:=by
   intro y hy;rcases List.mem_cons.1 hy with rfl|hy
   ·exact .inl hu
   ·exact hx y hy
  rw [← hT] at hx';have h1:pat p u=pat p v:=pv_const p 0 u v huv fun x hxp=>hx' _ ((hm _).2 (.inl ⟨x,hxp,rfl⟩))
  have h2:=hx' f_ ((hm _).2 (.inr ((hmore _).2 (.inl rfl))));have h3:t_<=u∨v<t_:=by
   by_cases h:t_<=1000000
   ·exact hx' t_ ((hm _).2 (.inr ((hmore _).2 (.inr ⟨rfl,h⟩))))
   ·right;omega
  simp only [h1]
  congr 1
  split <;> split <;> first|rfl|omega
 ·rw [hadd];unfold Qd7 Qe3;rw [hT,hfold]
end Go.Proofs.YtackngeeehiegaaGreatDoor
