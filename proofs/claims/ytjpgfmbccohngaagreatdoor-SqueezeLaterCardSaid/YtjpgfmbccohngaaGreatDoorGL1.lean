/-
  Words as sets of bits: what and, or, and-not, a power, a sum of powers say of each bit. Program-independent; no condition but that a number is a word's.
  The program's and the document's sets of nodes: which bits they have. No condition beyond those that stand in each.
  How many bits a word has: the sum that is made in parallel is the number of its bits. Program-independent.
  What the program's and the document's 'same' say of states: that they are one and the same. No condition.
  Tables of jobs: what a table that may be is like; what the check of a state shows of its jobs. Conditions stand in each lemma.
  Tables of jobs: binary search finds what is there; a job's nodes. Conditions stand in each lemma.
  The program's checks and the document's are the same, first part: nodes, books, the ledger, shapes. Conditions stand in each lemma.
  The program's checks and the document's are the same, second part: the ledger, shapes and their options, names, what is waited for. Conditions stand in each lemma.
  The program's checks and the document's are the same, third part: how many nodes a set has. Conditions stand in each lemma.
  The program's checks and the document's are the same, fourth part: a shape's options, names, what is waited for. Conditions stand in each lemma.
  The program's checks and the document's are the same, fifth part: what is a word. Conditions stand in each lemma.
  The program's checks and the document's are the same, sixth part: a text is a word for the program if it is one for the document. Conditions stand in each lemma.
  The program's checks and the document's are the same, seventh part: a text is a word for the document if it is one for the program. Conditions stand in each lemma.
  The program's checks and the document's are the same, eighth part: submissions, jobs, tables of jobs, what a plan asks of a state. Condition: sets of nodes are words; texts and rows are of a size that a machine holds.
  The program's checks and the document's are the same, ninth part: sets of nodes as the document makes them; what runs; what is resized. Conditions stand in each lemma.
  A profile with nodes added from a tick up to another: the row that is laid out step by step, and what it says. Plain facts; conditions stand in each.
  The document's profiles: what its check says, what is free at a tick, what its adding gives. Conditions stand in each.
  The program's adding to a profile is the document's. Conditions stand in each.
  Until when a node is taken: the program's answer is the document's. Conditions stand in each.
  Nodes free over time: the document's row and the program's say the same at each tick, and so are the same. Conditions stand in each.
  What is taken, counted by ends: the program's row of nodes free is the document's. Conditions stand in each.
  The document's claim of a job, where the print does not hold it (seat r7; where the print holds it, this text is to be empty). Plain; no condition.
  Room: the program's row is the document's, and what it says at a tick. Conditions stand in each.
  Room without the document's answer: as many are free now as may be granted; there is never more room than is free, and without a claim as much more as it claims. Conditions stand in each.
  The program's search for room is the document's. Plain facts; conditions stand in each.
  One job's promise turned: what is left is as it was, less its new claim, with its old one given back. Plain facts; conditions stand in each.
  Who may start, and in which order: the program's answer is the document's. Conditions stand in each.
  One job's promise made earlier: what the program and the document do of it. Plain facts; conditions stand in each.
  The program's squeezing is the document's; both move promises one by one. Conditions stand in each.
  Which promises are due and which came later: the program's answers are the document's. Conditions stand in each.
  The answers that the law of squeezing asks of any program. No condition.
  The same for a row that lists package variables: from a law's contract to the row's statement: the arguments are read, the law is called, they read as they did. Program-independent.
  How arguments are read: structs of the program, with what is known of them. No condition.
  What is read is of a size that a machine holds. No condition.
  What is read as a word is one. No condition.
-/
import Derived.Test.YtjpgfmbccohngaaGreatDoorG6
import Derived.Test.YtjpgfmbccohngaaGreatDoorG13
import Derived.Test.YtjpgfmbccohngaaGreatDoorG7
import Derived.Test.YtjpgfmbccohngaaGreatDoorG5
import Derived.LaidMore
import Derived.Stop.Joined
import Derived.JoinedOf
import Derived.Handed
import Derived.OpenShut
import Derived.KernelRfl
import Derived.Test.YtjpgfmbccohngaaGreatDoorProg
namespace Go.Fw
set_option linter.unusedSimpArgs false
set_option linter.unusedVariables false
theorem or_f {a b:Bool} (h:(a||b)=false):a=false∧b=false:=by simpa using h
def U64 (x:Int):Prop:=0<=x∧x<18446744073709551616
def tb (x:Int) (k:Nat):Bool:=x.toNat.testBit k
theorem wu64_eq (n : Int) : wu64 n = n % 18446744073709551616 := by simp [IntKind.wrap, IntKind.bits, IntKind.signed]
theorem QOb {n:Int} (h:U64 n):wu64 n=n:=by rw [wu64_eq];unfold U64 at h;omega
theorem wu64_U (n:Int):U64 (wu64 n):=by rw [wu64_eq];unfold U64;omega
theorem U64.zero:U64 0:=⟨by decide,by decide⟩
theorem wu64_bv (b:BitVec 64):wu64 (b.toNat:Int)=(b.toNat:Int):=QOb ⟨by omega,by have:=b.isLt;omega⟩
theorem tb_bv (b:BitVec 64) (k:Nat):tb (wu64 (b.toNat:Int)) k=b.getLsbD k:=by
 rw [wu64_bv,tb,Int.toNat_natCast,BitVec.testBit_toNat]
theorem tb_high {x:Int} (h:U64 x) {k:Nat} (hk:64<=k):tb x k=false:=by
 unfold tb U64 at *
 refine Nat.testBit_lt_two_pow (Nat.lt_of_lt_of_le (m:=2 ^ 64) (by omega) (Nat.pow_le_pow_right (by decide) hk))
theorem QV8 {x:Int} (h:U64 x) (k:Nat):(BitVec.ofInt 64 x).getLsbD k=tb x k:=by
 have e:(BitVec.ofInt 64 x).toNat=x.toNat:=by
  rw [BitVec.toNat_ofInt]
  unfold U64 at h
  have : x % (2 ^ 64 : Nat) = x := Int.emod_eq_of_lt h.1 (by simpa using h.2)
  rw [this]
 rw [← BitVec.testBit_toNat,e]
 rfl
theorem tb_andnot {x y:Int} (hx:U64 x) (hy:U64 y) (k:Nat):tb (wu64 ((BitVec.ofInt 64 x &&& ~~~(BitVec.ofInt 64 y)).toNat:Int)) k=(tb x k && !tb y k):=by
 rw [tb_bv,BitVec.getLsbD_and,BitVec.getLsbD_not,QV8 hx,QV8 hy]
 rcases Nat.lt_or_ge k 64 with h|h
 ·simp [h]
 ·simp [tb_high hx h]
theorem tb_ext {x y:Int} (hx:U64 x) (hy:U64 y) (h:∀ k,k<64->tb x k=tb y k):x=y:=by
 have:x.toNat=y.toNat:=by
  refine Nat.eq_of_testBit_eq fun k=>?_
  rcases Nat.lt_or_ge k 64 with hk|hk
  ·exact h k hk
  ·exact (tb_high hx hk).trans (tb_high hy hk).symm
 unfold U64 at hx hy
 omega
theorem QAd (k:Nat):tb 0 k=false:=by simp [tb]
theorem Q8g {x:Int} (hx:U64 x):(x==0)=true ↔ ∀ k,k<64->tb x k=false:=by
 rw [beq_iff_eq]
 refine ⟨fun h k _=>by rw [h];exact QAd k,fun h=>tb_ext hx .zero fun k hk=>by rw [h k hk,QAd]⟩
theorem Qce (k:Nat):∃ m:Nat,(2:Int) ^ k=(m:Int)∧2 ^ k=m:=⟨2 ^ k,by simp,rfl⟩
theorem pow64:(2:Nat) ^ 64=18446744073709551616:=by decide
theorem pow_U {k:Nat} (hk:k<64):U64 ((2:Int) ^ k):=by
 have h1:(2:Nat) ^ k<2 ^ 64:=Nat.pow_lt_pow_right (by decide) hk
 rw [pow64] at h1
 obtain ⟨m,e,e'⟩:=Qce k
 rw [e]
 unfold U64
 omega
end Go.Fw
namespace Go.Proofs.YtjpgfmbccohngaaGreatDoor
set_option linter.unusedSimpArgs false
set_option linter.unusedVariables false
open Go.Fw
theorem QM8 {k:Nat} (h:k<64):Qk3 (k:Int)=(2:Int) ^ k:=by
 unfold Qk3
 have e:wu64 (k:Int)=(k:Int):=QOb ⟨by omega,by omega⟩
 rw [e,Int.toNat_natCast,Nat.min_eq_left (by omega),Int.one_mul,QOb (pow_U h)]
theorem Qke {n:Nat} (h:n<=64):U64 (QM4 (n:Int)) ∧ ∀ k,tb (QM4 (n:Int)) k=decide (k<n):=by
 have low:∀ m:Nat,m<64->U64 (((2:Int) ^ m) - 1) ∧ ∀ k,tb (((2:Int) ^ m) - 1) k=decide (k<m):=by
  intro m hm
  have hu:=pow_U hm
  obtain ⟨q,e,e'⟩:=Qce m
  have hq:0<q:=by rw [← e'];exact Nat.pow_pos (by decide)
  refine ⟨by unfold U64 at *;omega,fun k=>?_⟩
  have:((2:Int) ^ m - 1).toNat=2 ^ m - 1:=by omega
  rw [tb,this,Nat.testBit_two_pow_sub_one]
 unfold QM4
 rcases Nat.eq_zero_or_pos n with h0|h0
 ·subst h0
  exact ⟨.zero,fun k=>by simp [QAd]⟩
 ·have h1:decide ((n:Int)<=0)=false:=decide_eq_false (by omega)
  rw [h1]
  rcases Nat.lt_or_ge n 64 with h2|h2
  ·have h3:decide ((n:Int) >= 64)=false:=decide_eq_false (by omega)
   rw [h3]
   simp only [cond_false]
   rw [QM8 h2,QOb (low n h2).1]
   exact low n h2
  ·have h3:decide ((n:Int) >= 64)=true:=decide_eq_true (by omega)
   rw [h3]
   obtain rfl:n=64:=by omega
   refine ⟨⟨by decide,by decide⟩,fun k=>?_⟩
   show tb 18446744073709551615 k=_
   have:(18446744073709551615:Int).toNat=2 ^ 64 - 1:=by decide
   rw [tb,this,Nat.testBit_two_pow_sub_one]
end Go.Proofs.YtjpgfmbccohngaaGreatDoor
namespace Go.Fw
set_option linter.unusedSimpArgs false
set_option linter.unusedVariables false
theorem Qcd {n c:Nat} (hn:n<18446744073709551616) (hc:c<18446744073709551616):wu64 ((BitVec.ofInt 64 (n:Int) &&& BitVec.ofInt 64 (c:Int)).toNat:Int)=((n &&& c:Nat):Int):=by
 have e:∀ m:Nat,m<18446744073709551616->(BitVec.ofInt 64 (m:Int)).toNat=m:=fun m hm=>by
  rw [BitVec.toNat_ofInt]
  omega
 rw [BitVec.toNat_and,e n hn,e c hc,QOb]
 have:=Nat.and_le_left (n:=n) (m:=c)
 unfold U64
 omega
theorem Qdd (n k:Nat) (hk:k<=64):Int.fdiv (n:Int) (2 ^ (min (Int.toNat (k:Int)) 64))=((n / 2 ^ k:Nat):Int):=by
 rw [Int.toNat_natCast,Nat.min_eq_left hk,Int.fdiv_eq_ediv_of_nonneg _ (by have:=Int.pow_pos (n:=2) (m:=k) (by decide);omega)]
 simp
theorem Qed {a b:Nat} (h:a+b<18446744073709551616):wu64 ((a:Int)+(b:Int))=((a+b:Nat):Int):=by
 rw [QOb]
 ·simp
 ·unfold U64;omega
theorem Qd9 {a c y m:Nat} (ha:a<256) (hc:c<256):(256*y+a) &&& (256*m+c)=256*(y &&& m)+(a &&& c):=by
 refine Nat.eq_of_testBit_eq fun k=>?_
 have e:∀ q r k,r<256->(256*q+r).testBit k=if k<8 then r.testBit k else q.testBit (k - 8):=fun q r k hr=>Nat.testBit_two_pow_mul_add (i:=8) q hr k
 have hac:a &&& c<256:=Nat.lt_of_le_of_lt Nat.and_le_left ha
 rw [Nat.testBit_and,e y a k ha,e m c k hc,e _ _ k hac]
 split <;> simp [Nat.testBit_and]
def by8 (a b c d e f g h:Nat):Nat:=256*(256*(256*(256*(256*(256*(256*h+g)+f)+e)+d)+c)+b)+a
theorem and8 {a b c d e f g h:Nat} (k:Nat) (hk:k<256) (ha:a<256) (hb:b<256) (hc:c<256) (hd:d<256) (he:e<256) (hf:f<256) (hg:g<256) :
  by8 a b c d e f g h &&& by8 k k k k k k k k=by8 (a &&& k) (b &&& k) (c &&& k) (d &&& k) (e &&& k) (f &&& k) (g &&& k) (h &&& k):=by
 unfold by8
 rw [Qd9 ha hk,Qd9 hb hk,Qd9 hc hk,Qd9 hd hk,Qd9 he hk,Qd9 hf hk,Qd9 hg hk]
def st1 (y:Nat):Nat:=(y &&& 170) / 2+(y &&& 85)
def st2 (y:Nat):Nat:=(y &&& 204) / 4+(y &&& 51)
def st3 (y : Nat) : Nat := (y + y / 16) % 16
def popN:Nat->Nat->Nat
 | 0,_=>0
 | k + 1, n => n % 2 + popN k (n / 2)
theorem pop8 : ∀ y, y < 256 -> st3 (st2 (st1 y)) = popN 8 y ∧ (y &&& 170) % 2 = 0 ∧ (st1 y &&& 204) % 4 = 0 ∧ st1 y < 256 ∧ st2 (st1 y) <= 68 := by decide +kernel
theorem popN_add:∀ (j k n:Nat),popN (j+k) n=popN j n+popN k (n / 2 ^ j)
 | 0,k,n=>by simp [popN]
 | j+1,k,n=>by
  rw [show j+1+k=(j+k)+1 by omega,popN,popN_add j k,popN,Nat.pow_succ,Nat.mul_comm (2 ^ j) 2,Nat.div_div_eq_div_mul]
  omega
theorem popN_low (q:Nat):∀ (j r:Nat),r<2 ^ j->popN j (2 ^ j*q+r)=popN j r
 | 0,r,_=>rfl
 | j+1,r,h=>by
  rw [popN,popN,Nat.pow_succ]
  rw [Nat.pow_succ] at h
  have e1 : (2 ^ j * 2 * q + r) % 2 = r % 2 := by rw [Nat.mul_right_comm, Nat.mul_comm _ 2, Nat.mul_add_mod]
  have e2:(2 ^ j*2*q+r) / 2=2 ^ j*q+r / 2:=by rw [Nat.mul_right_comm,Nat.mul_comm _ 2,Nat.mul_add_div (by decide)]
  rw [e1,e2,popN_low q j (r / 2) (by omega)]
theorem pop_by8 {a b c d e f g h:Nat} (ha:a<256) (hb:b<256) (hc:c<256) (hd:d<256) (he:e<256) (hf:f<256) (hg:g<256) (hh:h<256) :
  popN 64 (by8 a b c d e f g h)=popN 8 a+(popN 8 b+(popN 8 c+(popN 8 d+(popN 8 e+(popN 8 f+(popN 8 g+popN 8 h)))))):=by
 have step:∀ k q r,r<256->popN (8+k) (256*q+r)=popN 8 r+popN k q:=fun k q r hr=>by
  rw [popN_add,popN_low q 8 r hr]
  congr 2
  show (256*q+r) / 256=q
  omega
 unfold by8
 rw [show 64=8+(8+(8+(8+(8+(8+(8+8)))))) from rfl,step _ _ _ ha,step _ _ _ hb,step _ _ _ hc,step _ _ _ hd,step _ _ _ he,step _ _ _ hf,step _ _ _ hg]
theorem exists_by8 {n:Nat} (h:n<18446744073709551616):∃ a b c d e f g h,n=by8 a b c d e f g h∧a<256∧b<256∧c<256∧d<256∧e<256∧f<256∧g<256∧h<256:=by
 refine ⟨n % 256, n / 256 % 256, n / 65536 % 256, n / 16777216 % 256, n / 4294967296 % 256, n / 1099511627776 % 256, n / 281474976710656 % 256, n / 72057594037927936 % 256, ?_, ?_, ?_, ?_, ?_, ?_, ?_, ?_, ?_⟩
 ·unfold by8;omega
 all_goals omega
theorem shr_and (x m k:Nat):(x / 2 ^ k) &&& m=(x &&& (m*2 ^ k)) / 2 ^ k:=by
 rw [← Nat.shiftRight_eq_div_pow,← Nat.shiftRight_eq_div_pow,Nat.shiftRight_and_distrib,Nat.shiftRight_eq_div_pow (m*2 ^ k),Nat.mul_div_cancel _ (Nat.pow_pos (by decide))]
def sw1 (x:Nat):Nat:=((x / 2 ^ 1) &&& 6148914691236517205)+(x &&& 6148914691236517205)
def sw2 (x:Nat):Nat:=((x / 2 ^ 2) &&& 3689348814741910323)+(x &&& 3689348814741910323)
def sw3 (x:Nat):Nat:=(x / 2 ^ 4+x) &&& 1085102592571150095
theorem sw1_by8 {a b c d e f g h:Nat} (ha:a<256) (hb:b<256) (hc:c<256) (hd:d<256) (he:e<256) (hf:f<256) (hg:g<256) (hh:h<256) :
  sw1 (by8 a b c d e f g h)=by8 (st1 a) (st1 b) (st1 c) (st1 d) (st1 e) (st1 f) (st1 g) (st1 h):=by
 unfold sw1
 rw [shr_and,show 6148914691236517205*2 ^ 1=by8 170 170 170 170 170 170 170 170 from rfl,show 6148914691236517205=by8 85 85 85 85 85 85 85 85 from rfl,and8 170 (by decide) ha hb hc hd he hf hg,and8 85 (by decide) ha hb hc hd he hf hg]
 have pa:=(pop8 a ha).2.1;have pb:=(pop8 b hb).2.1;have pc:=(pop8 c hc).2.1;have pd:=(pop8 d hd).2.1;have pe:=(pop8 e he).2.1;have pf:=(pop8 f hf).2.1;have pg:=(pop8 g hg).2.1;have ph:=(pop8 h hh).2.1
 unfold by8 st1
 omega
theorem sw2_by8 {a b c d e f g h : Nat} (ha : a < 256) (hb : b < 256) (hc : c < 256) (hd : d < 256) (he : e < 256) (hf : f < 256) (hg : g < 256) (ma : (a &&& 204) % 4 = 0) (mb : (b &&& 204) % 4 = 0) (mc : (c &&& 204) % 4 = 0) (md : (d &&& 204) % 4 = 0) (me : (e &&& 204) % 4 = 0) (mf : (f &&& 204) % 4 = 0) (mg : (g &&& 204) % 4 = 0) (mh : (h &&& 204) % 4 = 0) :
  sw2 (by8 a b c d e f g h)=by8 (st2 a) (st2 b) (st2 c) (st2 d) (st2 e) (st2 f) (st2 g) (st2 h):=by
 unfold sw2
 rw [shr_and,show 3689348814741910323*2 ^ 2=by8 204 204 204 204 204 204 204 204 from rfl,show 3689348814741910323=by8 51 51 51 51 51 51 51 51 from rfl,and8 204 (by decide) ha hb hc hd he hf hg,and8 51 (by decide) ha hb hc hd he hf hg]
 unfold by8 st2
 omega
theorem and15 (z : Nat) : z &&& 15 = z % 16 := Nat.and_two_pow_sub_one_eq_mod z 4
theorem sw3_by8 {a b c d e f g h : Nat} (ha : a <= 68) (hb : b <= 68) (hc : c <= 68) (hd : d <= 68) (he : e <= 68) (hf : f <= 68) (hg : g <= 68) (hh : h <= 68) (na : a % 16 <= 4) (nb : b % 16 <= 4) (nc : c % 16 <= 4) (nd : d % 16 <= 4) (ne : e % 16 <= 4) (nf : f % 16 <= 4) (ng : g % 16 <= 4) (nh : h % 16 <= 4) :
  sw3 (by8 a b c d e f g h)=by8 (st3 a) (st3 b) (st3 c) (st3 d) (st3 e) (st3 f) (st3 g) (st3 h):=by
 unfold sw3
 have e0 : by8 a b c d e f g h / 2 ^ 4 + by8 a b c d e f g h = by8 (a + a / 16 + 16 * (b % 16)) (b + b / 16 + 16 * (c % 16)) (c + c / 16 + 16 * (d % 16)) (d + d / 16 + 16 * (e % 16)) (e + e / 16 + 16 * (f % 16)) (f + f / 16 + 16 * (g % 16)) (g + g / 16 + 16 * (h % 16)) (h + h / 16) := by
  unfold by8
  omega
 rw [e0,show 1085102592571150095=by8 15 15 15 15 15 15 15 15 from rfl,and8 15 (by decide) (by omega) (by omega) (by omega) (by omega) (by omega) (by omega) (by omega)]
 simp only [and15]
 unfold st3
 congr 1 <;> omega
theorem Qn8 : ∀ y, y < 256 -> st2 (st1 y) % 16 <= 4 ∧ st3 (st2 (st1 y)) <= 8 ∧ st2 (st1 y) < 256 ∧ st1 y < 256 := by decide +kernel
theorem sw_pop {n:Nat} (hn:n<18446744073709551616):∃ a b c d e f g h,sw3 (sw2 (sw1 n))=by8 a b c d e f g h∧a<=8∧b<=8∧c<=8∧d<=8∧e<=8∧f<=8∧g<=8∧h<=8∧popN 64 n=a+(b+(c+(d+(e+(f+(g+h)))))):=by
 obtain ⟨a,b,c,d,e,f,g,h,rfl,ha,hb,hc,hd,he,hf,hg,hh⟩:=exists_by8 hn
 have A:=pop8 a ha;have B:=pop8 b hb;have C:=pop8 c hc;have D:=pop8 d hd;have E:=pop8 e he;have F:=pop8 f hf;have G:=pop8 g hg;have H:=pop8 h hh
 have A':=Qn8 a ha;have B':=Qn8 b hb;have C':=Qn8 c hc;have D':=Qn8 d hd;have E':=Qn8 e he;have F':=Qn8 f hf;have G':=Qn8 g hg;have H':=Qn8 h hh
 rw [sw1_by8 ha hb hc hd he hf hg hh,sw2_by8 A'.2.2.2 B'.2.2.2 C'.2.2.2 D'.2.2.2 E'.2.2.2 F'.2.2.2 G'.2.2.2 A.2.2.1 B.2.2.1 C.2.2.1 D.2.2.1 E.2.2.1 F.2.2.1 G.2.2.1 H.2.2.1,
  sw3_by8 A.2.2.2.2 B.2.2.2.2 C.2.2.2.2 D.2.2.2.2 E.2.2.2.2 F.2.2.2.2 G.2.2.2.2 H.2.2.2.2 A'.1 B'.1 C'.1 D'.1 E'.1 F'.1 G'.1 H'.1,pop_by8 ha hb hc hd he hf hg hh]
 refine ⟨_,_,_,_,_,_,_,_,rfl,A'.2.1,B'.2.1,C'.2.1,D'.2.1,E'.2.1,F'.2.1,G'.2.1,H'.2.1,?_⟩
 rw [A.1,B.1,C.1,D.1,E.1,F.1,G.1,H.1]
theorem Qfb {a b c d e f g h:Nat} (ha:a<256):by8 a b c d e f g h / 256=by8 b c d e f g h 0:=by
 unfold by8
 omega
theorem by8_add (a b c d e f g h a' b' c' d' e' f' g' h':Nat):by8 a b c d e f g h+by8 a' b' c' d' e' f' g' h'=by8 (a+a') (b+b') (c+c') (d+d') (e+e') (f+f') (g+g') (h+h'):=by
 unfold by8
 omega
theorem by8_lt {a b c d e f g h:Nat} (ha:a<=64) (hb:b<=64) (hc:c<=64) (hd:d<=64) (he:e<=64) (hf:f<=64) (hg:g<=64) (hh:h<=64):by8 a b c d e f g h<9223372036854775808:=by
 unfold by8
 omega
theorem by8_mod {a b c d e f g h : Nat} (ha : a < 128) : by8 a b c d e f g h % 128 = a := by
 unfold by8
 generalize 256*(256*(256*(256*(256*(256*h+g)+f)+e)+d)+c)+b=q
 omega
theorem sum_low {a b c d e f g h:Nat} (ha:a<=8) (hb:b<=8) (hc:c<=8) (hd:d<=8) (he:e<=8) (hf:f<=8) (hg:g<=8) (hh:h<=8) (x4 x5 x6:Nat) (h4:x4=by8 a b c d e f g h+by8 a b c d e f g h / 256) (h5:x5=x4+x4 / 65536) (h6:x6=x5+x5 / 4294967296) :
  x6 % 128 = a + (b + (c + (d + (e + (f + (g + h)))))) ∧ x4 < 9223372036854775808 ∧ x5 < 9223372036854775808 ∧ x6 < 9223372036854775808 := by
 have d2:∀ x,x / 65536=x / 256 / 256:=fun x=>by omega
 have d4:∀ x,x / 4294967296=x / 256 / 256 / 256 / 256:=fun x=>by omega
 have e4:x4=by8 (a+b) (b+c) (c+d) (d+e) (e+f) (f+g) (g+h) (h+0):=by rw [h4,Qfb (by omega),by8_add]
 have e5:x5=by8 (a+b+(c+d)) (b+c+(d+e)) (c+d+(e+f)) (d+e+(f+g)) (e+f+(g+h)) (f+g+(h+0)) (g+h+0) (h+0+0):=by
  rw [h5,d2,e4,Qfb (by omega),Qfb (by omega),by8_add]
 have e6:x6=by8 (a+b+(c+d)+(e+f+(g+h))) (b+c+(d+e)+(f+g+(h+0))) (c+d+(e+f)+(g+h+0)) (d+e+(f+g)+(h+0+0)) (e+f+(g+h)+0) (f+g+(h+0)+0) (g+h+0+0) (h+0+0+0):=by
  rw [h6,d4,e5,Qfb (by omega),Qfb (by omega),Qfb (by omega),Qfb (by omega),by8_add]
 refine ⟨?_,?_,?_,?_⟩
 ·rw [e6,by8_mod (by omega)];omega
 ·rw [e4];exact by8_lt (by omega) (by omega) (by omega) (by omega) (by omega) (by omega) (by omega) (by omega)
 ·rw [e5];exact by8_lt (by omega) (by omega) (by omega) (by omega) (by omega) (by omega) (by omega) (by omega)
 ·rw [e6];exact by8_lt (by omega) (by omega) (by omega) (by omega) (by omega) (by omega) (by omega) (by omega)
end Go.Fw
namespace Go.Proofs.YtjpgfmbccohngaaGreatDoor
set_option linter.unusedSimpArgs false
set_option linter.unusedVariables false
open Go.Fw
theorem same_go {α:Type} (d:α) (b:List α) (e:α->α->Bool) (he:∀ x y,e x y=true ↔ x=y) (G:List α->Nat->Bool) (h0:∀ i,G [] i=true) (h1:∀ x r i,G (x :: r) i=bif !(e x (b.getD i d)) then false else G r (i+1)) :
  ∀ (l:List α) (i:Nat),i+l.length=b.length->(G l i=true ↔ l=b.drop i)
 | [],i,h=>by
  rw [h0,Qk0 (by simp at h;omega)]
  simp
 | x :: r,i,h=>by
  have hi:i<b.length:=by simp at h;omega
  rw [h1,Qc0 d hi]
  cases hx:e x (b.getD i d) with
  | false =>
   have hne:x ≠ b.getD i d:=fun hq=>by rw [(he _ _).2 hq] at hx;cases hx
   simp only [Bool.not_false,cond_true]
   exact ⟨fun h=>(nomatch h),fun h=>absurd (List.cons.inj h).1 hne⟩
  | true =>
   have hq:=(he _ _).1 hx
   have:=same_go d b e he G h0 h1 r (i+1) (by simp at h ⊢;omega)
   simp only [Bool.not_true,cond_false]
   rw [this,hq]
   simp
theorem Q1h {α:Type} (d:α) (a b:List α) (e:α->α->Bool) (he:∀ x y,e x y=true ↔ x=y) (G:List α->Nat->Bool) (h0:∀ i,G [] i=true) (h1:∀ x r i,G (x :: r) i=bif !(e x (b.getD i d)) then false else G r (i+1)) :
  (bif ((a.length:Int)!=(b.length:Int)) then false else G a 0)=true ↔ a=b:=by
 cases hl:((a.length:Int)!=(b.length:Int)) with
 | true =>
  have:(a.length:Int) ≠ (b.length:Int):=by simpa using hl
  simp only [cond_true]
  refine ⟨fun h=>(nomatch h),fun h=>?_⟩
  subst h
  exact absurd rfl this
 | false =>
  have h:(a.length:Int)=(b.length:Int):=by simpa using hl
  simp only [cond_false]
  have:=same_go d b e he G h0 h1 a 0 (by omega)
  simpa using this
theorem bytes_inj (a b:ByteArray):(ByteArray.toList a==ByteArray.toList b)=true ↔ a=b:=by
 rw [beq_iff_eq,ByteArray.toList_eq,ByteArray.toList_eq]
 refine ⟨fun h=>?_,fun h=>by rw [h]⟩
 exact ByteArray.ext (Array.toList_inj.1 h)
theorem bytes_beq (a b:ByteArray):(a==b)=true ↔ a=b:=by
 cases a with|mk a=>cases b with|mk b =>
 show (a==b)=true ↔ ByteArray.mk a=ByteArray.mk b
 simp
theorem equal_Alt (a b:List Alt):Qh6 a b=true ↔ a=b :=
 Q1h Alt.zero a b (fun x y=>((x.nodes==y.nodes)&&(x.wall==y.wall))) (fun x y=>by cases x;cases y;simp) (QU4 b) (fun _=>rfl) (fun _ _ _=>rfl)
theorem equal_Dep (a b:List Dep):Qi6 a b=true ↔ a=b :=
 Q1h Dep.zero a b (fun x y=>((x.how==y.how)&&(x.job==y.job))) (fun x y=>by cases x;cases y;simp) (QV4 b) (fun _=>rfl) (fun _ _ _=>rfl)
theorem shape_same (a b:Shape):Qc9 a b=true ↔ a=b:=by
 cases a;cases b
 simp only [Qc9,Bool.and_eq_true,beq_iff_eq,equal_Alt,Shape.mk.injEq]
 grind
end Go.Proofs.YtjpgfmbccohngaaGreatDoor
namespace Go.Proofs.YtjpgfmbccohngaaGreatDoor
set_option linter.unusedSimpArgs false
set_option linter.unusedVariables false
open Go.Fw
theorem table_rows (l:List Job) (hn:l.length<=40):∀ (r:List Job) (i:Nat),r=l.drop i->i+r.length=l.length->Qi5 l r i=0 ->
  (∀ x ∈ r,QW2 x=0)∧r.Pairwise (fun a b=>a.id<b.id)∧(∀ y,0<i->l[i - 1]? = some y -> ∀ x ∈ r,y.id<x.id)
 | [],i,_,_,_=>⟨fun x hx=>(nomatch hx),.nil,fun _ _ _ x hx=>(nomatch hx)⟩
 | x :: r,i,hr,hlen,h=>by
  simp only [List.length_cons] at hlen
  rw [Qi5] at h
  cases h1:(((QW2 x)!=0)||((decide ((i:Int) > 0))&&(decide ((l.getD (Int.toNat (w64 ((i:Int) - 1))) Job.zero).id >= x.id)))) with
  | true=>rw [h1] at h;cases h
  | false =>
   rw [h1] at h
   obtain ⟨h2,h3⟩:=or_f h1
   have hx:QW2 x=0:=by simpa using h2
   have hi:l[i]? = some x:=by
    have:=congrArg (fun q=>q[0]?) hr
    simpa [List.getElem?_drop] using this.symm
   have hr':r=l.drop (i+1):=by rw [← List.drop_drop,← hr];rfl
   obtain ⟨ih1,ih2,ih3⟩:=table_rows l hn r (i+1) hr' (by omega) h
   have hxr:∀ z ∈ r,x.id<z.id:=ih3 x (by omega) hi
   refine ⟨fun z hz=>?_,List.pairwise_cons.2 ⟨hxr,ih2⟩,fun y hi0 hy z hz=>?_⟩
   ·rcases List.mem_cons.1 hz with rfl|hz
    ·exact hx
    ·exact ih1 z hz
   ·have hyx:y.id<x.id:=by
     have hw:w64 ((i:Int) - 1)=(i:Int) - 1:=wr (by omega)
     have ht:Int.toNat ((i:Int) - 1)=i - 1:=by omega
     have hg:l.getD (i - 1) Job.zero=y:=by simp [List.getD,hy]
     rw [hw,ht,hg] at h3
     simp at h3
     omega
    rcases List.mem_cons.1 hz with rfl|hz
    ·exact hyx
    ·exact Int.lt_trans hyx (hxr z hz)
theorem Q5d {j:Job} (h:QW2 j=0):1<=j.id∧j.id<=99999:=by
 unfold QW2 at h
 cases h1:((((((decide (j.id<1))||(decide (j.id > 99999)))||(!(Q54 j.born)))||(j.used != (Qa6 j.used)))||((Qn7 (QY1 j))!=0))||(QC0 j.after (fun (y:Dep)=>(decide (y.job >= j.id))))) with
 | true=>rw [h1] at h;cases h
 | false =>
  obtain ⟨h2,_⟩:=or_f h1
  obtain ⟨h3,_⟩:=or_f h2
  obtain ⟨h4,_⟩:=or_f h3
  obtain ⟨h5,_⟩:=or_f h4
  simp at h5
  omega
theorem Qca {l:List Job} (h:l.Pairwise (fun a b=>a.id<b.id)):∀ (a b:Nat) (x y:Job),a<b->l[a]? = some x->l[b]? = some y->x.id<y.id:=by
 intro a b x y hab ha hb
 obtain ⟨ha1,rfl⟩:=List.getElem?_eq_some_iff.1 ha
 obtain ⟨hb1,rfl⟩:=List.getElem?_eq_some_iff.1 hb
 exact List.pairwise_iff_getElem.1 h a b ha1 hb1 hab
theorem Qt4 {l:List Job} (h:QG0 l=0):l.length<=40∧(∀ x ∈ l,QW2 x=0)∧l.Pairwise (fun a b=>a.id<b.id):=by
 unfold QG0 at h
 cases h1:(decide ((l.length:Int) > 40)) with
 | true=>rw [h1] at h;cases h
 | false =>
  rw [h1] at h
  have h2:=of_decide_eq_false h1
  obtain ⟨a,b,_⟩:=table_rows l (by omega) l 0 (by simp) (by omega) h
  exact ⟨by omega,a,b⟩
section
variable {s:State}
end
end Go.Proofs.YtjpgfmbccohngaaGreatDoor
namespace Go.Proofs.YtjpgfmbccohngaaGreatDoor
set_option linter.unusedSimpArgs false
set_option linter.unusedVariables false
open Go.Fw
theorem Q2h (l:List Job) (id:Int) (hn:l.length<=40) (hid:1<=id∧id<=99999) (hb:∀ y ∈ l,1<=y.id∧y.id<=99999) (hs:∀ (a b:Nat) (x y:Job),a<b->l[a]? = some x->l[b]? = some y->x.id<y.id) (p:Nat) (x:Job) (hp:l[p]? = some x) (hx:x.id=id) :
  ∀ (m:Nat) (i j:Int),Int.toNat (j - i)<m->0<=i->i<=(p:Int)->(p:Int)<=j->j<=(l.length:Int)->(∀ k:Nat,j<=(k:Int) -> ∀ y,l[k]? = some y->id<=y.id) ->
   (Qr0 l id (fun (y:Job) (y1:Int)=>(w64 (y.id - y1))) m i j).1=(p:Int)
 | 0,i,j,hm,_,_,_,_,_=>absurd hm (by omega)
 | m+1,i,j,hm,h0,h1,h2,h3,h4=>by
  have hpl:p<l.length:=(List.getElem?_eq_some_iff.1 hp).1
  rw [Qr0]
  cases hd:decide (i<j) with
  | false =>
   have:=of_decide_eq_false hd
   show i=(p:Int)
   omega
  | true =>
   have hlt:=of_decide_eq_true hd
   rw [Qgg h0 hlt h3 (by omega)]
   simp only [cond_true]
   obtain ⟨q,hq⟩:∃ q:Nat,(i+j) / 2=(q:Int):=⟨((i+j) / 2).toNat,by omega⟩
   rw [hq]
   have hql:q<l.length:=by omega
   have hy:l[q]? = some l[q]:=List.getElem?_eq_getElem hql
   have hyd:l.getD (Int.toNat (q:Int)) Job.zero=l[q]:=by simp [List.getD,hy]
   have hyb:=hb l[q] (List.getElem_mem hql)
   rw [hyd]
   have hw:w64 ((l[q]).id - id)=(l[q]).id - id:=wr (by omega)
   rw [hw]
   cases hc:decide ((l[q]).id - id<0) with
   | true =>
    have hc':=of_decide_eq_true hc
    have hw2:w64 ((q:Int)+1)=(q:Int)+1:=wr (by omega)
    simp only [cond_true]
    rw [hw2]
    refine Q2h l id hn hid hb hs p x hp hx m _ _ (by omega) (by omega) ?_ h2 h3 h4
    rcases Nat.lt_or_ge q p with h|h
    ·omega
    ·rcases Nat.eq_or_lt_of_le h with h|h
     ·subst h
      rw [hy] at hp
      cases hp
      omega
     ·have:=hs p q x _ h hp hy
      omega
   | false =>
    have hc':=of_decide_eq_false hc
    simp only [cond_false]
    refine Q2h l id hn hid hb hs p x hp hx m _ _ (by omega) h0 h1 ?_ (by omega) ?_
    ·rcases Nat.lt_or_ge q p with h|h
     ·have:=hs q p _ x h hy hp
      omega
     ·omega
    ·intro k hk y hky
     rcases Nat.eq_or_lt_of_le (show q<=k by omega) with h|h
     ·subst h
      rw [hy] at hky
      cases hky
      omega
     ·have:=hs q k _ y h hy hky
      omega
theorem QW5 {l:List Job} (h:QG0 l=0) {p:Nat} {x:Job} (hp:l[p]? = some x):Qy0 l x.id=(x,true):=by
 obtain ⟨hn,hj,hs⟩:=Qt4 h
 have hb:∀ y ∈ l,1<=y.id∧y.id<=99999:=fun y hy=>Q5d (hj y hy)
 have hx:=hb x (List.mem_of_getElem? hp)
 have hpl:p<l.length:=(List.getElem?_eq_some_iff.1 hp).1
 have hpi:(Qx0 l x.id).1=(p:Int) :=
  Q2h l x.id hn hx hb (Qca hs) p x hp rfl _ 0 (l.length:Int) (by omega) (by omega) (by omega) (by omega) (by omega) (fun k hk y hy=>absurd (List.getElem?_eq_some_iff.1 hy).1 (by omega))
 have hp2:(Qx0 l x.id).2=true:=by
  have e:(Qx0 l x.id).2=((decide ((Qx0 l x.id).1<(l.length:Int)))&&((w64 ((l.getD (Int.toNat (Qx0 l x.id).1) Job.zero).id - x.id))==0)):=rfl
  rw [e,hpi,Int.toNat_natCast]
  have hg:l.getD p Job.zero=x:=by simp [List.getD,hp]
  rw [hg,Int.sub_self]
  have h1:decide ((p:Int)<(l.length:Int))=true:=decide_eq_true (by omega)
  rw [h1]
  rfl
 unfold Qy0
 rw [h,hp2,hpi]
 have hk:Qr6 x.id=true:=by unfold Qr6;simp;omega
 rw [hk]
 have hw:w64 ((p:Int)+1)=(p:Int)+1:=wr (by omega)
 have ht:Int.toNat ((p:Int)+1)=p+1:=by omega
 rw [hw,ht,Int.toNat_natCast]
 show ((List.drop p (List.take (p+1) l)).getD 0 Job.zero,true)=(x,true)
 have:(List.drop p (List.take (p+1) l)).getD 0 Job.zero=x:=by
  simp [List.getD,List.getElem?_drop,List.getElem?_take,hp]
 rw [this]
section
variable {s:State}
end
theorem Q4c {l:List Job} (h:QG0 l=0) (id:Int) (hid:∀ x ∈ l,x.id ≠ id):(Qy0 l id).2=false:=by
 obtain ⟨hn,hj,_⟩:=Qt4 h
 unfold Qy0
 rw [h]
 cases hk:Qr6 id with
 | false=>rfl
 | true =>
  unfold Qr6 at hk
  simp only [Bool.and_eq_true,decide_eq_true_eq] at hk
  cases hp:(Qx0 l id).2 with
  | false=>rfl
  | true =>
   exfalso
   obtain ⟨h0,h1⟩:=Qd6 l id (by omega) (by rw [hp];rfl)
   have e:(Qx0 l id).2=((decide ((Qx0 l id).1<(l.length:Int)))&&((w64 ((l.getD (Int.toNat (Qx0 l id).1) Job.zero).id - id))==0)):=rfl
   rw [hp] at e
   have e:=e.symm
   simp only [Bool.and_eq_true,beq_iff_eq] at e
   have hm:l.getD (Int.toNat (Qx0 l id).1) Job.zero ∈ l:=by
    rw [List.getD,List.getElem?_eq_getElem (show Int.toNat (Qx0 l id).1<l.length by omega)]
    exact List.getElem_mem _
   have hb:=Q5d (hj _ hm)
   have hw:w64 ((l.getD (Int.toNat (Qx0 l id).1) Job.zero).id - id)=(l.getD (Int.toNat (Qx0 l id).1) Job.zero).id - id:=wr (by omega)
   rw [hw] at e
   exact hid _ hm (by omega)
end Go.Proofs.YtjpgfmbccohngaaGreatDoor
namespace Go.Proofs.YtjpgfmbccohngaaGreatDoor
set_option linter.unusedSimpArgs false
set_option linter.unusedVariables false
open Go.Fw
theorem QQ7 {α:Type} (f:α->Bool) (G:List α->Nat->Int) (h0:∀ i,G [] i = -1) (h1:∀ x r i,G (x :: r) i=bif f x then (i:Int) else G r (i+1)):∀ (l:List α) (i:Nat),decide (G l i >= 0)=l.any f
 | [],i=>by rw [h0];rfl
 | x :: r,i=>by
  rw [h1,List.any_cons]
  cases f x with
  | true=>simp
  | false=>simpa using QQ7 f G h0 h1 r (i+1)
theorem any_Alt (l:List Alt) (f:Alt->Bool):QW0 l f=l.any f:=QQ7 f _ (fun _=>rfl) (fun _ _ _=>rfl) l 0
theorem any_Dep (l:List Dep) (f:Dep->Bool):QC0 l f=l.any f:=QQ7 f _ (fun _=>rfl) (fun _ _ _=>rfl) l 0
theorem ord_eq {α:Type} (d:α) (key:α->Int) (bad:α->Bool) (e:Int) (N:Nat) (l:List α) (hl:l.length<=4294967296) (GP:List α->Nat->Int) (GR:List α->Int->Nat->Int)
  (p0:∀ i,GP [] i=0) (p1:∀ x ∈ l,∀ r i,GP (x :: r) i=bif bad x||(decide ((i:Int) > 0)&&decide (key (l.getD (Int.toNat (w64 ((i:Int) - 1))) d) >= key x)) then e else GP r (i+1))
  (r0:∀ last i,GR [] last i=0) (r1:∀ x ∈ l,∀ r last i,0<=last->GR (x :: r) last i=bif ((i:Int)==(N:Int))||bad x||decide (key x<=last) then e else GR r (key x) (i+1))
  (hb:∀ x,bad x=false->key x >= 1):∀ (r:List α) (i:Nat) (last:Int),r=l.drop i->i+r.length=l.length->i<=N->(i=0->last=0)->(0<i -> ∃ y,l[i - 1]? = some y∧last=key y∧key y >= 1)->(bif decide (l.length > N) then e else GP r i)=GR r last i
 | [],i,last,hr,hlen,hN,_,_=>by
  simp only [List.length_nil,Nat.add_zero] at hlen
  rw [p0,r0,decide_eq_false (by omega)]
  rfl
 | x :: r,i,last,hr,hlen,hN,hl0,hl1=>by
  simp only [List.length_cons] at hlen
  have hi:l[i]? = some x:=by
   have:=congrArg (fun q=>q[0]?) hr
   simpa [List.getElem?_drop] using this.symm
  have hx:x ∈ l:=List.mem_of_getElem? hi
  have hr':r=l.drop (i+1):=by rw [← List.drop_drop,← hr];rfl
  have hlast:0<=last:=by
   rcases Nat.eq_zero_or_pos i with h|h
   ·rw [hl0 h];exact Int.le_refl 0
   ·obtain ⟨y,_,e,h⟩:=hl1 h;omega
  have hord:bad x=false->(decide ((i:Int) > 0)&&decide (key (l.getD (Int.toNat (w64 ((i:Int) - 1))) d) >= key x))=decide (key x<=last):=by
   intro hbx
   have hk:=hb x hbx
   rcases Nat.eq_zero_or_pos i with h|h
   ·subst h
    rw [hl0 rfl,decide_eq_false (show ¬ ((0:Nat):Int) > 0 by omega),decide_eq_false (show ¬ key x<=0 by omega)]
    rfl
   ·obtain ⟨y,hy,e,_⟩:=hl1 h
    have hw:w64 ((i:Int) - 1)=(i:Int) - 1:=wr (by omega)
    have ht:Int.toNat ((i:Int) - 1)=i - 1:=by omega
    have hg:l.getD (i - 1) d=y:=by simp [List.getD,hy]
    rw [hw,ht,hg,decide_eq_true (show (i:Int) > 0 by omega),e]
    rfl
  rw [p1 x hx,r1 x hx r last i hlast]
  cases hbx:bad x with
  | true =>
   simp only [Bool.true_or,Bool.or_true,cond_true]
   cases decide (l.length > N) <;> rfl
  | false =>
   rw [hord hbx]
   simp only [Bool.false_or,Bool.or_false]
   cases hk:decide (key x<=last) with
   | true =>
    simp only [Bool.or_true,cond_true]
    cases decide (l.length > N) <;> rfl
   | false =>
    simp only [Bool.or_false,cond_false]
    rcases Nat.lt_or_ge i N with h|h
    ·have:((i:Int)==(N:Int))=false:=by simp;omega
     rw [this]
     simp only [cond_false]
     exact ord_eq d key bad e N l hl GP GR p0 p1 r0 r1 hb r (i+1) (key x) hr' (by omega) (by omega) (by omega) (fun _=>⟨x,by simpa using hi,rfl,hb x hbx⟩)
    ·have:((i:Int)==(N:Int))=true:=by simp;omega
     rw [this,decide_eq_true (show l.length > N by omega)]
     rfl
end Go.Proofs.YtjpgfmbccohngaaGreatDoor
namespace Go.Proofs.YtjpgfmbccohngaaGreatDoor
set_option linter.unusedSimpArgs false
set_option linter.unusedVariables false
open Go.Fw
theorem g3_any (x:Alt):∀ (l:List Alt) (k:Nat),(Qj2 x l k).isLeft=l.any (fun y=>x.nodes==y.nodes) ∧ ∀ v,Qj2 x l k=Sum.inl v->v=70
 | [],k=>⟨rfl,fun v h=>by cases h⟩
 | y :: r,k=>by
  rw [Qj2,List.any_cons]
  cases (x.nodes==y.nodes) with
  | true=>exact ⟨rfl,fun v h=>by cases h;rfl⟩
  | false=>exact g3_any x r (k+1)
def okAlt (a:Alt):Bool:=Qq1 a.nodes&&Qa2 a.wall
theorem g2_eq (s:Shape):∀ (r:List Alt) (i:Nat),r=s.alts.drop i->(QK0 s r i=0 ↔ (∀ x ∈ r,okAlt x=true)∧r.Pairwise (fun a b=>a.nodes ≠ b.nodes))∧(QK0 s r i=0∨QK0 s r i=70)
 | [],i,_=>⟨⟨fun _=>⟨fun x hx=>(nomatch hx),.nil⟩,fun _=>rfl⟩,.inl rfl⟩
 | x :: r,i,hr=>by
  have hr':r=s.alts.drop (i+1):=by rw [← List.drop_drop,← hr];rfl
  obtain ⟨ih,ih2⟩:=g2_eq s r (i+1) hr'
  rw [QK0,← hr']
  cases hf:((!(Qq1 x.nodes))||(!(Qa2 x.wall))) with
  | true =>
   refine ⟨⟨fun h=>(by cases h),fun h=>?_⟩,.inr rfl⟩
   have:=h.1 x (List.mem_cons_self ..)
   unfold okAlt at this
   simp at this hf
   rcases hf with h|h <;> simp_all
  | false =>
   have hok:okAlt x=true:=by unfold okAlt;simp at hf;simp [hf]
   obtain ⟨h1,h2⟩:=g3_any x r (i+1)
   simp only [cond_false]
   cases hg:Qj2 x r (i+1) with
   | inl v =>
    have hv:=h2 v hg
    subst hv
    rw [hg] at h1
    refine ⟨⟨fun h=>(by cases h),fun h=>?_⟩,.inr rfl⟩
    obtain ⟨y,hy,he⟩:=List.any_eq_true.1 h1.symm
    exact absurd (eq_of_beq he) ((List.pairwise_cons.1 h.2).1 y hy)
   | inr v =>
    rw [hg] at h1
    show (QK0 s r (i+1)=0 ↔ _)∧(QK0 s r (i+1)=0∨QK0 s r (i+1)=70)
    refine ⟨ih.trans ⟨fun h=>⟨fun y hy=>?_,List.pairwise_cons.2 ⟨fun y hy e=>?_,h.2⟩⟩,fun h=>⟨fun y hy=>h.1 y (List.mem_cons_of_mem _ hy),(List.pairwise_cons.1 h.2).2⟩⟩,ih2⟩
    ·rcases List.mem_cons.1 hy with rfl|hy
     ·exact hok
     ·exact h.1 y hy
    ·have:=(List.any_eq_true (p:=fun y:Alt=>x.nodes==y.nodes)).2 ⟨y,hy,beq_iff_eq.2 e⟩
     rw [← h1] at this
     cases this
theorem apart_iff (l:List Alt):∀ (r:List Alt) (i:Nat),r=l.drop i->(Qb6 l r i=true ↔ (∀ x ∈ r,∀ y ∈ l.take i,x.nodes ≠ y.nodes)∧r.Pairwise (fun a b=>a.nodes ≠ b.nodes))
 | [],i,_=>⟨fun _=>⟨fun x hx=>(nomatch hx),.nil⟩,fun _=>rfl⟩
 | x :: r,i,hr=>by
  have hr':r=l.drop (i+1):=by rw [← List.drop_drop,← hr];rfl
  have hi:l[i]? = some x:=by
   have:=congrArg (fun q=>q[0]?) hr
   simpa [List.getElem?_drop] using this.symm
  have ht:l.take (i+1)=l.take i++[x]:=by rw [List.take_add_one,hi];rfl
  have ih:=apart_iff l r (i+1) hr'
  rw [Qb6,any_Alt]
  cases ha:(List.take i l).any (fun (y:Alt)=>(x.nodes==y.nodes)) with
  | true =>
   refine ⟨fun h=>(by cases h),fun h=>?_⟩
   obtain ⟨y,hy,he⟩:=List.any_eq_true.1 ha
   exact absurd (eq_of_beq he) (h.1 x (List.mem_cons_self ..) y hy)
  | false =>
   have hno:∀ y ∈ l.take i,x.nodes ≠ y.nodes:=fun y hy e=>by
    have:=(List.any_eq_true (p:=fun y:Alt=>x.nodes==y.nodes)).2 ⟨y,hy,beq_iff_eq.2 e⟩
    rw [ha] at this
    cases this
   simp only [cond_false]
   rw [ih,ht]
   constructor
   ·rintro ⟨h1,h2⟩
    refine ⟨fun z hz y hy=>?_,List.pairwise_cons.2 ⟨fun z hz=>?_,h2⟩⟩
    ·rcases List.mem_cons.1 hz with rfl|hz
     ·exact hno y hy
     ·exact h1 z hz y (List.mem_append.2 (.inl hy))
    ·exact Ne.symm (h1 z hz x (List.mem_append.2 (.inr (List.mem_singleton.2 rfl))))
   ·rintro ⟨h1,h2⟩
    obtain ⟨h3,h4⟩:=List.pairwise_cons.1 h2
    refine ⟨fun z hz y hy=>?_,h4⟩
    rcases List.mem_append.1 hy with hy|hy
    ·exact h1 z (List.mem_cons_of_mem _ hz) y hy
    ·rw [List.mem_singleton.1 hy]
     exact Ne.symm (h3 z hz)
theorem fine_ok (a:Alt):Qb1 a=okAlt a:=by
 unfold Qb1 okAlt Qq1 Qa2
 simp only [Bool.and_assoc]
theorem QS8 (s:Shape):Q22 s=Qi1 s:=by
 unfold Q22 Qi1
 by_cases h3:s.kind=3
 ·simp only [h3,beq_self_eq_true,cond_true,Q52,Qb1,Qq1,Qa2]
  have e1:((3:Int)==1)=false:=rfl
  have e2:((3:Int)==2)=false:=rfl
  simp only [e1,e2,cond_false]
  have e0:((s.alts.length:Int)==0) = !(decide ((s.alts.length:Int) > 0)):=by rw [Bool.eq_iff_iff];simp only [beq_iff_eq,Bool.not_eq_true',decide_eq_false_iff_not];omega
  rw [e0]
  congr 1
  grind
 have e3:(s.kind==3)=false:=by simpa using h3
 obtain ⟨q1,q2⟩:=g2_eq s s.alts 0 (by simp)
 have ap:=apart_iff s.alts s.alts 0 (by simp)
 simp only [e3,cond_false]
 by_cases h2:s.kind=2
 ·simp only [h2,beq_self_eq_true,cond_true]
  have e1:((2:Int)==1)=false:=rfl
  simp only [e1,cond_false,QD3,Q52,any_Alt,fine_ok]
  have e4:((((((((s.min==0)&&(s.max==0))&&(s.wall==0))&&(decide ((s.alts.length:Int) >= 1)))&&(decide ((s.alts.length:Int)<=6)))&&(QG5 s.alts))&&(!(s.alts.any (fun (y:Alt)=>(!(okAlt y)))))))=(!(((((decide ((s.alts.length:Int)<1))||(decide ((s.alts.length:Int) > 6)))||(s.min != 0))||(s.max != 0))||(s.wall != 0))&&((QG5 s.alts)&&(!(s.alts.any (fun (y:Alt)=>(!(okAlt y))))))):=by grind
  have e5:((QG5 s.alts)&&(!(s.alts.any (fun (y:Alt)=>(!(okAlt y))))))=(QK0 s s.alts 0==0):=by
   rw [Bool.eq_iff_iff,beq_iff_eq,q1,Bool.and_eq_true]
   unfold QG5
   rw [ap]
   simp
   grind
  rw [e4,e5]
  cases (((((decide ((s.alts.length:Int)<1))||(decide ((s.alts.length:Int) > 6)))||(s.min != 0))||(s.max != 0))||(s.wall != 0)) with
  | true=>rfl
  | false =>
   rcases q2 with h|h <;> rw [h] <;> rfl
 have e2:(s.kind==2)=false:=by simpa using h2
 by_cases h1:s.kind=1
 ·have e6:((2:Int)==1)=false:=rfl
  simp only [h1,beq_self_eq_true,cond_true]
  have e7:((1:Int)==2)=false:=rfl
  have e8:((1:Int)!=1)=false:=rfl
  simp only [e7,e8,cond_false,QD3,Q52,fine_ok]
  match hm:s.alts with
  | []=>rw [hm] at *;cases (s.min==0) <;> cases (s.max==0) <;> cases (s.wall==0) <;> rfl
  | [x] =>
   rw [hm] at q1 q2
   have e9:okAlt x=(QK0 s [x] 0==0):=by
    rw [Bool.eq_iff_iff,beq_iff_eq,q1]
    simp
   show (bif !(((((s.min==0)&&(s.max==0))&&(s.wall==0))&&true)&&okAlt x) then (70:Int) else 0)=bif ((((false||false)||(s.min != 0))||(s.max != 0))||(s.wall != 0)) then 70 else QK0 s [x] 0
   rw [e9]
   unfold bne
   cases (s.min==0) <;> cases (s.max==0) <;> cases (s.wall==0) <;> first|rfl|(rcases q2 with h|h <;> rw [h] <;> rfl)
  | x :: y :: r =>
   have l1:((((x :: y :: r).length:Nat):Int)==1)=false:=by simp;omega
   have l2:decide ((((x :: y :: r).length:Nat):Int) > 1)=true:=by simp;omega
   rw [l1,l2]
   simp
 have e1:(s.kind==1)=false:=by simpa using h1
 have e1':(s.kind != 1)=true:=by simpa using h1
 rw [e1,e2,e1']
 rfl
end Go.Proofs.YtjpgfmbccohngaaGreatDoor
namespace Go.Proofs.YtjpgfmbccohngaaGreatDoor
set_option linter.unusedSimpArgs false
set_option linter.unusedVariables false
open Go.Fw
theorem cnt1 (n:Nat) (hn:n<18446744073709551616):wu64 ((wu64 (BitVec.ofInt 64 (Int.fdiv (n:Int) (2 ^ (min (Int.toNat 1) 64))) &&& BitVec.ofInt 64 6148914691236517205).toNat)+(wu64 (BitVec.ofInt 64 (n:Int) &&& BitVec.ofInt 64 6148914691236517205).toNat))=((sw1 n:Nat):Int):=by
 have e1:Int.fdiv (n:Int) (2 ^ (min (Int.toNat 1) 64))=((n / 2 ^ 1:Nat):Int):=Qdd n 1 (by decide)
 have h1:n / 2 ^ 1<18446744073709551616:=by omega
 have e2:wu64 (BitVec.ofInt 64 ((n / 2 ^ 1:Nat):Int) &&& BitVec.ofInt 64 6148914691236517205).toNat=(((n / 2 ^ 1) &&& 6148914691236517205:Nat):Int):=Qcd (c:=6148914691236517205) h1 (by decide)
 have e3:wu64 (BitVec.ofInt 64 (n:Int) &&& BitVec.ofInt 64 6148914691236517205).toNat=((n &&& 6148914691236517205:Nat):Int):=Qcd (c:=6148914691236517205) hn (by decide)
 have l1:=Nat.and_le_right (n:=n / 2 ^ 1) (m:=6148914691236517205)
 have l2:=Nat.and_le_right (n:=n) (m:=6148914691236517205)
 rw [e1,e2,e3]
 exact Qed (by omega)
theorem cnt2 (n:Nat) (hn:n<18446744073709551616):wu64 ((wu64 (BitVec.ofInt 64 (Int.fdiv (n:Int) (2 ^ (min (Int.toNat 2) 64))) &&& BitVec.ofInt 64 3689348814741910323).toNat)+(wu64 (BitVec.ofInt 64 (n:Int) &&& BitVec.ofInt 64 3689348814741910323).toNat))=((sw2 n:Nat):Int):=by
 have e1:Int.fdiv (n:Int) (2 ^ (min (Int.toNat 2) 64))=((n / 2 ^ 2:Nat):Int):=Qdd n 2 (by decide)
 have h1:n / 2 ^ 2<18446744073709551616:=by omega
 have e2:wu64 (BitVec.ofInt 64 ((n / 2 ^ 2:Nat):Int) &&& BitVec.ofInt 64 3689348814741910323).toNat=(((n / 2 ^ 2) &&& 3689348814741910323:Nat):Int):=Qcd (c:=3689348814741910323) h1 (by decide)
 have e3:wu64 (BitVec.ofInt 64 (n:Int) &&& BitVec.ofInt 64 3689348814741910323).toNat=((n &&& 3689348814741910323:Nat):Int):=Qcd (c:=3689348814741910323) hn (by decide)
 have l1:=Nat.and_le_right (n:=n / 2 ^ 2) (m:=3689348814741910323)
 have l2:=Nat.and_le_right (n:=n) (m:=3689348814741910323)
 rw [e1,e2,e3]
 exact Qed (by omega)
theorem cnt3 (n:Nat) (hn:n<=7378697629483820646):wu64 (BitVec.ofInt 64 (wu64 ((Int.fdiv (n:Int) (2 ^ (min (Int.toNat 4) 64)))+(n:Int))) &&& BitVec.ofInt 64 1085102592571150095).toNat=((sw3 n:Nat):Int):=by
 have e1:Int.fdiv (n:Int) (2 ^ (min (Int.toNat 4) 64))=((n / 2 ^ 4:Nat):Int):=Qdd n 4 (by decide)
 rw [e1,Qed (by omega)]
 exact Qcd (c:=1085102592571150095) (by omega) (by decide)
theorem count_eq {s:Int} (hs:U64 s):Qo0 s=((popN 64 s.toNat:Nat):Int):=by
 obtain ⟨n,rfl⟩:∃ n:Nat,s=(n:Int):=⟨s.toNat,by unfold U64 at hs;omega⟩
 have hn:n<18446744073709551616:=by unfold U64 at hs;omega
 have b1:sw1 n<18446744073709551616:=by
  unfold sw1
  have l1:=Nat.and_le_right (n:=n / 2 ^ 1) (m:=6148914691236517205)
  have l2:=Nat.and_le_right (n:=n) (m:=6148914691236517205)
  omega
 have b2:sw2 (sw1 n)<=7378697629483820646:=by
  unfold sw2
  have l1:=Nat.and_le_right (n:=sw1 n / 2 ^ 2) (m:=3689348814741910323)
  have l2:=Nat.and_le_right (n:=sw1 n) (m:=3689348814741910323)
  omega
 obtain ⟨a,b,c,d,e,f,g,h,hx,ha,hb,hc,hd,he,hf,hg,hh,hp⟩:=sw_pop hn
 unfold Qo0 Qe6 oc3 oc2 oc1
 rw [cnt1 n hn,cnt2 (sw1 n) b1,cnt3 (sw2 (sw1 n)) b2,hx,Int.toNat_natCast,hp]
 obtain ⟨q0,q1,q2,q3⟩:=sum_low ha hb hc hd he hf hg hh _ _ _ rfl rfl rfl
 generalize hX:by8 a b c d e f g h=X at *
 have hXlt:X<9223372036854775808:=by omega
 have s8:Int.fdiv (X:Int) (2 ^ (min (Int.toNat 8) 64))=((X / 256:Nat):Int):=Qdd X 8 (by decide)
 rw [s8,Qed (by omega)]
 generalize hY:X+X / 256=Y at *
 have s16:Int.fdiv (Y:Int) (2 ^ (min (Int.toNat 16) 64))=((Y / 65536:Nat):Int):=Qdd Y 16 (by decide)
 rw [s16,Qed (by omega)]
 generalize hZ:Y+Y / 65536=Z at *
 have s32:Int.fdiv (Z:Int) (2 ^ (min (Int.toNat 32) 64))=((Z / 4294967296:Nat):Int):=Qdd Z 32 (by decide)
 rw [s32,Qed (by omega)]
 generalize hW:Z+Z / 4294967296=W at *
 have hw:w64 (W:Int)=(W:Int):=wr (by omega)
 rw [hw]
 have hm:((BitVec.ofInt 64 (W:Int) &&& BitVec.ofInt 64 127).toNat:Int)=((W &&& 127:Nat):Int):=by
  have:=Qcd (n:=W) (c:=127) (by omega) (by decide)
  rw [wu64_bv] at this
  exact this
 rw [hm,Nat.and_two_pow_sub_one_eq_mod W 7]
 show w64 (((W % 128 : Nat)) : Int) = _
 rw [q0]
 exact wr (by omega)
theorem list_len:∀ (m K s:Nat) (out:List Int) (n:Nat),s<m->s<2 ^ K->s<18446744073709551616->(Qo2 m (s:Int) out n).2.1.length=out.length+popN K s
 | 0,_,_,_,_,h,_,_=>absurd h (by omega)
 | m+1,K,s,out,n,hm,hK,hs=>by
  rw [Qo2]
  rcases Nat.eq_zero_or_pos s with h|h
  ·subst h
   have hz:∀ K,popN K 0=0:=fun K=>by induction K with
    | zero=>rfl
    | succ K ih=>simp [popN,ih]
   rw [hz]
   rfl
  ·obtain ⟨K,rfl⟩:∃ k,K=k+1:=⟨K - 1,by
    rcases K with _|K
    ·simp at hK;omega
    ·rfl⟩
   rw [decide_eq_true (show (s:Int) > 0 by omega)]
   have e1 : Int.tmod (s : Int) 2 = ((s % 2 : Nat) : Int) := rfl
   have e2:Int.tdiv (s:Int) 2=((s / 2:Nat):Int):=rfl
   have e3:wu64 ((s / 2:Nat):Int)=((s / 2:Nat):Int):=QOb ⟨by omega,by omega⟩
   rw [e1,e2,e3,popN]
   rw [Nat.pow_succ] at hK
   simp only [cond_true]
   rcases Nat.mod_two_eq_zero_or_one s with hb|hb
   ·rw [hb]
    show (Qo2 m ((s / 2:Nat):Int) out (n+1)).2.1.length=_
    rw [list_len m K (s / 2) out (n+1) (by omega) (by omega) (by omega)]
    omega
   ·rw [hb]
    show (Qo2 m ((s / 2:Nat):Int) (out++[(n:Int)]) (n+1)).2.1.length=_
    rw [list_len m K (s / 2) _ (n+1) (by omega) (by omega) (by omega)]
    simp
    omega
theorem count_list {s:Int} (hs:U64 s):Qo0 s=((QV7 s).length:Int):=by
 rw [count_eq hs]
 obtain ⟨n,rfl⟩:∃ n:Nat,s=(n:Int):=⟨s.toNat,by unfold U64 at hs;omega⟩
 unfold QV7 QQ4
 have hn:n<18446744073709551616:=by unfold U64 at hs;omega
 rw [Int.toNat_natCast,list_len (n+1) 64 n [] 0 (by omega) (by rw [pow64];exact hn) hn]
 simp
end Go.Proofs.YtjpgfmbccohngaaGreatDoor
namespace Go.Proofs.YtjpgfmbccohngaaGreatDoor
set_option linter.unusedSimpArgs false
set_option linter.unusedVariables false
open Go.Fw
theorem QR9 (s:Shape) (hw:w64 (s.max - s.min)=s.max - s.min) (h1:1<=s.min) (h2:s.min<=s.max) (h3:s.max<=48):∀ (m:Nat) (out:List Alt) (i:Nat),i<=(s.max - s.min+1).toNat->(s.max - s.min+1).toNat - i<m ->
  (Qp1 s m out i).1=out++(List.range' i ((s.max - s.min+1).toNat - i)).map fun (i:Nat)=>(⟨s.max - (i:Int),s.wall⟩:Alt)
 | 0,_,_,_,h=>absurd h (by omega)
 | m+1,out,i,hi,hm=>by
  rw [Qp1,hw]
  rcases Nat.lt_or_ge i (s.max - s.min+1).toNat with h|h
  ·have e:(s.max - s.min+1).toNat - i=((s.max - s.min+1).toNat - (i+1))+1:=by omega
   have e2:w64 (s.max - (i:Int))=s.max - (i:Int):=wr (by omega)
   rw [decide_eq_true (show (i:Int)<=s.max - s.min by omega),e2]
   simp only [cond_true]
   rw [QR9 s hw h1 h2 h3 m _ (i+1) (by omega) (by omega),e,List.range'_succ,List.map_cons,List.append_assoc]
   rfl
  ·rw [decide_eq_false (show ¬ (i:Int)<=s.max - s.min by omega),show (s.max - s.min+1).toNat - i=0 by omega]
   simp
theorem Qz6 (s:Shape):QN0 s=Q60 s:=by
 unfold QN0 Q60
 rw [QS8]
 cases hc:(Qi1 s != 0) with
 | true=>rfl
 | false =>
  simp only [cond_false]
  cases hk:(s.kind==3) with
  | false =>
   have:(s.kind != 3)=true:=by unfold bne;rw [hk];rfl
   rw [this]
   rfl
  | true =>
   have hk':(s.kind != 3)=false:=by unfold bne;rw [hk];rfl
   obtain ⟨h1,h2,h3,h4⟩:=QO6 hc hk'
   have h0:s.alts=[]:=by
    have hk3:s.kind=3:=by simpa using hk
    have hz:Qi1 s=0:=by simpa using hc
    unfold Qi1 at hz
    simp only [hk3,beq_self_eq_true,cond_true] at hz
    cases hq:(((((decide ((s.alts.length:Int) > 0))||(!(Qq1 s.min)))||(!(Qq1 s.max)))||(decide (s.max<s.min)))||(!(Qa2 s.wall))) with
    | true=>rw [hq] at hz;cases hz
    | false =>
     have:=(or_f (or_f (or_f (or_f hq).1).1).1).1
     have hl:s.alts.length=0:=by have:=of_decide_eq_false this;omega
     exact List.eq_nil_of_length_eq_zero hl
   rw [hk',h0]
   simp only [cond_true,cond_false,List.nil_append,Qm3,QH5]
   rw [QR9 s h4 h1 h2 h3 _ [] 0 (by omega) (by omega),List.range_eq_range']
   rfl
theorem QLf (s:Shape) (c n:Int):∀ (l:List Alt) (i:Nat),Qy5 s c n l i=true ↔ ∃ (k:Nat) (x:Alt),l[k]? = some x∧x.nodes=n∧(((i+k:Nat):Int)=c∨s.kind=3)
 | [],i=>⟨fun h=>(by cases h),fun ⟨k,x,h,_⟩=>by simp at h⟩
 | y :: r,i=>by
  rw [Qy5]
  cases hc:((y.nodes==n)&&(((i:Int)==c)||(s.kind==3))) with
  | true =>
   simp only [Bool.and_eq_true,Bool.or_eq_true,beq_iff_eq] at hc
   exact ⟨fun _=>⟨0,y,rfl,hc.1,by simpa using hc.2⟩,fun _=>rfl⟩
  | false =>
   simp only [cond_false]
   rw [QLf s c n r (i+1)]
   constructor
   ·rintro ⟨k,x,h1,h2,h3⟩
    exact ⟨k+1,x,by simpa using h1,h2,by rw [show i+(k+1)=i+1+k by omega];exact h3⟩
   ·rintro ⟨k,x,h1,h2,h3⟩
    rcases k with _|k
    ·simp at h1
     subst h1
     have:((y.nodes==n)&&(((i:Int)==c)||(s.kind==3)))=true:=by
      simp only [Bool.and_eq_true,Bool.or_eq_true,beq_iff_eq]
      exact ⟨h2,by simpa using h3⟩
     rw [hc] at this
     cases this
    ·exact ⟨k,x,by simpa using h1,h2,by rw [show i+1+k=i+(k+1) by omega];exact h3⟩
theorem allows_eq (s:Shape) (c n:Int):Qx7 s c n=Qv7 s c n:=by
 unfold Qx7 Qv7
 rw [Qz6]
 cases hb:((decide (c<0))||(decide (c >= ((Q60 s).length:Int)))) with
 | true=>rfl
 | false =>
  obtain ⟨h1,h2⟩:=or_f hb
  have h1':=of_decide_eq_false h1
  have h2':=of_decide_eq_false h2
  simp only [cond_false]
  obtain ⟨k,rfl⟩:∃ k:Nat,c=(k:Int):=⟨c.toNat,by omega⟩
  have hk:k<(Q60 s).length:=by omega
  rw [Bool.eq_iff_iff,QLf]
  cases h3:(s.kind==3) with
  | false =>
   have h3':s.kind ≠ 3:=by simpa using h3
   simp only [cond_false,beq_iff_eq,Int.toNat_natCast]
   have hg:(Q60 s)[k]? = some ((Q60 s).getD k Alt.zero):=by simp [List.getD,List.getElem?_eq_getElem hk]
   constructor
   ·intro h
    exact ⟨k,_,hg,h,.inl (by simp)⟩
   ·rintro ⟨j,x,hx,hn,hj⟩
    have:j=k:=by
     rcases hj with hj|hj
     ·omega
     ·exact absurd hj h3'
    subst this
    rw [hg] at hx
    cases hx
    exact hn
  | true =>
   have h3':s.kind=3:=by simpa using h3
   simp only [cond_true,Bool.and_eq_true,decide_eq_true_eq]
   cases hc:(Q22 s != 0) with
   | true =>
    rw [← Qz6] at hk
    unfold QN0 at hk
    rw [hc] at hk
    exact absurd hk (by simp)
   | false =>
    obtain ⟨q1,q2,q3⟩:=Qi8 hc h3
    have h0:QN0 s=s.alts++QH5 s.min s.max s.wall:=by unfold QN0;rw [hc,h3];rfl
    have ha:s.alts=[]:=by
     have hz:Q22 s=0:=by simpa using hc
     unfold Q22 at hz
     simp only [h3'] at hz
     have e1:((3:Int)==1)=false:=rfl
     have e2:((3:Int)==2)=false:=rfl
     simp only [e1,e2,beq_self_eq_true,cond_false,cond_true,Q52] at hz
     cases hq:(((((s.alts.length:Int)==0)&&(decide (s.min<=s.max)))&&(Qb1 (⟨s.min,s.wall⟩:Alt)))&&(decide (s.max<=48))) with
     | false=>rw [hq] at hz;cases hz
     | true =>
      simp only [Bool.and_eq_true,beq_iff_eq] at hq
      exact List.eq_nil_of_length_eq_zero (by have:=hq.1.1.1;omega)
    rw [← Qz6,h0,ha,List.nil_append]
    unfold QH5
    constructor
    ·rintro ⟨hl,hu⟩
     exact ⟨(s.max - n).toNat,⟨n,s.wall⟩,by
      rw [List.getElem?_map,List.getElem?_range (by omega)]
      simp
      omega,rfl,.inr h3'⟩
    ·rintro ⟨j,x,hx,hn,_⟩
     rw [List.getElem?_map] at hx
     rcases Nat.lt_or_ge j (s.max - s.min+1).toNat with hj|hj
     ·rw [List.getElem?_range hj] at hx
      simp at hx
      subst hx
      simp only at hn
      omega
     ·rw [List.getElem?_eq_none (by simpa using hj)] at hx
      simp at hx
theorem QVb (r:Int):Ql1 r=Qg0 r:=by
 unfold Ql1 Qg0
 grind
theorem runes_Check_eq (s:ByteArray):QS4 s=QR3 s:=by
 have:∀ (l:List (Nat × Int)) (n:Nat),Q96 l n=Q56 l n:=by
  intro l
  induction l with
  | nil=>exact fun _=>rfl
  | cons x r ih =>
   intro n
   rw [Q96,Q56,QVb,ih]
 exact this _ 0
theorem name_eq (s:ByteArray):QK5 s=QM3 s:=by
 unfold QK5 QM3 QX2
 rw [runes_Check_eq,Bool.and_assoc]
theorem QKh (l:List Dep) (i:Nat) (x:Dep) (hi:i<=l.length):∀ (m k:Nat),k<=i->i - k<m->(Ql4 l i x m k).isLeft=((l.take i).drop k).any (fun y=>y.job==x.job) ∧ ∀ v,Ql4 l i x m k=Sum.inl v->v=false
 | 0,_,_,h=>absurd h (by omega)
 | m+1,k,hk,hm=>by
  rw [Ql4]
  rcases Nat.lt_or_ge k i with h|h
  ·rw [decide_eq_true (show (k:Int)<(i:Int) by omega)]
   have hkl:k<(l.take i).length:=by rw [List.length_take];omega
   have hd:(l.take i).drop k=(l.getD k Dep.zero) :: (l.take i).drop (k+1):=by
    rw [List.drop_eq_getElem_cons hkl]
    congr 1
    simp [List.getD,List.getElem?_eq_getElem (show k<l.length by omega)]
   rw [hd,List.any_cons]
   simp only [cond_true]
   cases ((l.getD k Dep.zero).job==x.job) with
   | true=>exact ⟨rfl,fun v h=>by cases h;rfl⟩
   | false=>exact QKh l i x hi m (k+1) (by omega) (by omega)
  ·rw [decide_eq_false (show ¬ (k:Int)<(i:Int) by omega)]
   have:(l.take i).drop k=[]:=List.drop_eq_nil_of_le (by rw [List.length_take];omega)
   rw [this]
   exact ⟨rfl,fun v h=>by cases h⟩
theorem waits_go (l:List Dep):∀ (r:List Dep) (i:Nat),r=l.drop i->i+r.length=l.length->(l.length<=4->Qq5 l r i=Qk2 l r i)
 | [],i,_,_,h=>by
  rw [Qq5,Qk2]
  exact decide_eq_true (by omega)
 | x :: r,i,hr,hlen,h=>by
  simp only [List.length_cons] at hlen
  have hr':r=l.drop (i+1):=by rw [← List.drop_drop,← hr];rfl
  have ih:=waits_go l r (i+1) hr' (by omega) h
  obtain ⟨w1,w2⟩:=QKh l i x (by omega) ((Int.toNat ((i:Int) - (0:Int)))+1) 0 (by omega) (by omega)
  rw [Qq5,Qk2,any_Dep,ih]
  have e:(!(QX2 x.how 1 3) || !(QEd x.job))=((!(Qm1 x.how 1 3))||(!(Qm1 x.job 1 99999))):=rfl
  rw [e]
  rw [List.drop_zero] at w1
  cases ((!(Qm1 x.how 1 3))||(!(Qm1 x.job 1 99999))) with
  | true=>rfl
  | false =>
   rw [Bool.false_or]
   simp only [cond_false]
   cases hg:Ql4 l i x ((Int.toNat ((i:Int) - (0:Int)))+1) 0 with
   | inl v =>
    have hv:=w2 v hg
    subst hv
    rw [hg] at w1
    rw [← w1]
    rfl
   | inr v =>
    rw [hg] at w1
    rw [← w1]
    rfl
theorem Q3g (l:List Dep) (h:4<l.length):∀ (r:List Dep) (i:Nat),Qq5 l r i=false
 | [],i=>decide_eq_false (by omega)
 | x :: r,i=>by
  rw [Qq5,Q3g l h r]
  cases (((!(QX2 x.how 1 3))||(!(QEd x.job)))||(QC0 (List.take i l) (fun (y:Dep)=>(y.job==x.job)))) <;> rfl
theorem deps_eq (l:List Dep):QH7 l=Qm6 l:=by
 unfold QH7 Qm6
 rcases Nat.lt_or_ge 4 l.length with h|h
 ·rw [Q3g l h,decide_eq_true (by omega)]
  rfl
 ·rw [decide_eq_false (by omega)]
  exact waits_go l l 0 (by simp) (by omega) h
end Go.Proofs.YtjpgfmbccohngaaGreatDoor
namespace Go.Proofs.YtjpgfmbccohngaaGreatDoor
set_option linter.unusedSimpArgs false
set_option linter.unusedVariables false
open Go.Fw
def lowB (x:Int):Int:=if 65<=x∧x<=90 then x+32 else x
theorem wu8_id {n:Int} (h:0<=n∧n<256):wu8 n=n:=by
 show n % 256 = n
 omega
theorem lower_go (s:ByteArray):∀ (m i:Nat) (c:List Int),c.length=s.size->s.size - i<m->(∀ x ∈ c,0<=x∧x<256)->Qg5 s m i c=c.take i++(c.drop i).map lowB
 | 0,_,_,_,h,_=>absurd h (by omega)
 | m+1,i,c,hl,hm,hb=>by
  rw [Qg5]
  rcases Nat.lt_or_ge i s.size with h|h
  ·have hi:i<c.length:=by omega
   have hg:c.getD i 0=c[i]:=by simp [List.getD,List.getElem?_eq_getElem hi]
   have hx:=hb _ (List.getElem_mem hi)
   rw [decide_eq_true (show (i:Int)<(s.size:Int) by omega),hg]
   simp only [cond_true]
   have hd:c.drop i=c[i] :: c.drop (i+1):=List.drop_eq_getElem_cons hi
   cases hc:((decide (c[i] >= 65))&&(decide (c[i]<=90))) with
   | true =>
    simp only [Bool.and_eq_true,decide_eq_true_eq] at hc
    have hv:wu8 ((wu8 (c[i]+97)) - 65)=lowB c[i]:=by
     rw [wu8_id (n:=c[i]+97) (by omega),wu8_id (by omega),lowB,if_pos hc]
     omega
    rw [hv]
    simp only [cond_true]
    rw [lower_go s m (i+1) _ (by simpa using hl) (by omega) ?_]
    ·rw [hd,List.map_cons]
     have e1:(c.set i (lowB c[i])).take (i+1)=c.take i++[lowB c[i]]:=by
      rw [List.take_add_one]
      simp [List.take_set_of_le,hi]
     have e2:(c.set i (lowB c[i])).drop (i+1)=c.drop (i+1):=by
      rw [List.drop_set_of_lt (by omega)]
     rw [e1,e2]
     simp
    ·intro x hx'
     rcases List.mem_or_eq_of_mem_set hx' with h'|h'
     ·exact hb x h'
     ·rw [h',lowB,if_pos hc];omega
   | false =>
    have hv:lowB c[i]=c[i]:=by
     rw [lowB,if_neg]
     intro hq
     rw [decide_eq_true hq.1,decide_eq_true hq.2] at hc
     cases hc
    simp only [cond_false]
    rw [lower_go s m (i+1) c hl (by omega) hb,hd,List.map_cons,hv,List.take_add_one,List.getElem?_eq_getElem hi,List.append_assoc]
    rfl
  ·rw [decide_eq_false (show ¬ (i:Int)<(s.size:Int) by omega)]
   simp only [cond_false]
   rw [List.drop_eq_nil_of_le (by omega),List.take_of_length_le (by omega)]
   simp
theorem QTf (s:ByteArray):∀ x ∈ Q62 s,0<=x∧x<256:=by
 intro x hx
 unfold Q62 at hx
 obtain ⟨b,_,rfl⟩:=List.mem_map.1 hx
 have:=b.toNat_lt
 omega
theorem lower_run (s:ByteArray):Q77 s=QT2 ((Q62 s).map lowB):=by
 unfold Q77 Qq4
 rw [lower_go s _ 0 _ (Qx3 s) (by omega) (QTf s)]
 rfl
theorem Q9a (s:ByteArray):∀ (m:Nat) (out:List Int) (i:Nat),i<=s.size->s.size - i<m->(QA3 s m out i).1=out++((Q62 s).drop i).map lowB
 | 0,_,_,_,h=>absurd h (by omega)
 | m+1,out,i,hi,hm=>by
  rw [QA3]
  rcases Nat.lt_or_ge i s.size with h|h
  ·have hi':i<(Q62 s).length:=by rw [Qx3];exact h
   have hd:(Q62 s).drop i=(Q62 s)[i] :: (Q62 s).drop (i+1):=List.drop_eq_getElem_cons hi'
   have hx:=QTf s _ (List.getElem_mem hi')
   have hg:((s.data.toList.getD i 0).toNat:Int)=(Q62 s)[i]:=by
    have hq:i<s.data.toList.length:=by simpa [Q62] using hi'
    simp [Q62,List.getD,List.getElem?_eq_getElem hq]
   rw [decide_eq_true (show (i:Int)<(s.size:Int) by omega),hg,hd,List.map_cons]
   simp only [cond_true]
   cases hc:((decide ((Q62 s)[i] > 64))&&(decide ((Q62 s)[i]<91))) with
   | true =>
    simp only [Bool.and_eq_true,decide_eq_true_eq] at hc
    have hv:lowB (Q62 s)[i]=(Q62 s)[i]+32:=by rw [lowB,if_pos (by omega)]
    rw [wu8_id (n:=(Q62 s)[i]+32) (by omega),hv]
    simp only [cond_true]
    rw [Q9a s m _ (i+1) (by omega) (by omega)]
    simp
   | false =>
    have hv:lowB (Q62 s)[i]=(Q62 s)[i]:=by
     rw [lowB,if_neg]
     intro hq
     rw [decide_eq_true (show (Q62 s)[i] > 64 by omega),decide_eq_true (show (Q62 s)[i]<91 by omega)] at hc
     cases hc
    rw [hv]
    simp only [cond_false]
    rw [Q9a s m _ (i+1) (by omega) (by omega)]
    simp
  ·rw [decide_eq_false (show ¬ (i:Int)<(s.size:Int) by omega)]
   simp only [cond_false]
   rw [List.drop_eq_nil_of_le (by rw [Qx3];omega)]
   simp
theorem lower_ref (s:ByteArray):Q03 s=QT2 ((Q62 s).map lowB):=by
 unfold Q03 Qi4
 rw [Q9a s _ [] 0 (by omega) (by omega)]
 rfl
theorem lower_eq (s:ByteArray):Q77 s=Q03 s:=by rw [lower_run,lower_ref]
def QA0 (s:ByteArray):List Int:=(Qk7 s).map (·.2)
theorem Qb9 (s:ByteArray):QL0 s=QA0 s:=by
 have:∀ (l:List (Nat × Int)) (out:List Int),QB3 l out=out++l.map (·.2):=by
  intro l
  induction l with
  | nil=>intro out;rw [QB3];simp
  | cons x r ih=>intro out;rw [QB3,ih];simp
 unfold QL0 Qj4 QA0
 rw [this]
 simp
theorem QIh (s:ByteArray) (b:ByteArray):∀ (l:List (Nat × Int)) (c:LexReader),QN5 b l c={ c with line:=c.line++l.map (·.2) }
 | [],c=>by rw [QN5];simp
 | x :: r,c=>by rw [QN5,QIh s b r];simp
theorem line_len (s:ByteArray):(QA0 s).length<=s.size:=by
 have:=Qha s
 rw [Qb9] at this
 exact this
theorem while_go (is:Int->Bool) (L:List Int) (hL:L.length<=400):∀ (m a:Nat) (bad e:Int),a<=L.length->L.length - a<m ->
  QD0 is m ⟨L,(a:Int),bad,e⟩=⟨L,((a+((L.drop a).takeWhile is).length:Nat):Int),bad,e⟩
 | 0,_,_,_,_,h=>absurd h (by omega)
 | m+1,a,bad,e,ha,hm=>by
  rw [QD0]
  simp only [Int.toNat_natCast]
  rcases Nat.lt_or_ge a L.length with h|h
  ·have hg:L.getD a 0=L[a]:=by simp [List.getD,List.getElem?_eq_getElem h]
   rw [decide_eq_true (show (a:Int)<(L.length:Int) by omega),hg,List.drop_eq_getElem_cons h,List.takeWhile_cons]
   cases is L[a] with
   | true =>
    have hw:w64 ((a:Int)+1)=((a+1:Nat):Int):=wr (by omega)
    simp only [Bool.true_and,cond_true,if_true]
    rw [hw,while_go is L hL m (a+1) bad e (by omega) (by omega),List.length_cons]
    congr 2
    omega
   | false=>simp
  ·rw [decide_eq_false (show ¬ (a:Int)<(L.length:Int) by omega),List.drop_eq_nil_of_le h]
   simp
theorem take_run (is:Int->Bool) (L:List Int) (a:Nat):List.drop a (List.take (a+((L.drop a).takeWhile is).length) L)=(L.drop a).takeWhile is:=by
 rw [List.drop_take]
 have h:(L.drop a).takeWhile is <+: L.drop a:=List.takeWhile_prefix is
 rw [Nat.add_sub_cancel_left]
 exact (List.prefix_iff_eq_take.1 h).symm
theorem while_eq (is:Int->Bool) (L:List Int) (hL:L.length<=400) (a:Nat) (bad e:Int) (ha:a<=L.length) :
  Q40 ⟨L,(a:Int),bad,e⟩ is=(runesBytes ((L.drop a).takeWhile is),⟨L,((a+((L.drop a).takeWhile is).length:Nat):Int),bad,e⟩):=by
 unfold Q40 QE0
 simp only
 rw [while_go is L hL _ a bad e ha (by omega)]
 simp only [Int.toNat_natCast]
 rw [take_run]
def QO3 (y:Int):Bool:=Qg0 y==1
def wordP (y:Int):Bool:=(((Qg0 y==2)||(Qg0 y==3))||(y==45))||(y==95)
theorem blank_fn:(fun (y:Int)=>Ql0 y ([1]:List Int) 0)=QO3:=by
 funext y
 rw [Ql0,Ql0,QVb]
 unfold QO3
 cases (Qg0 y==1) <;> rfl
theorem word_fn:(fun (y:Int)=>Qh0 y ([2,3]:List Int) 0)=wordP:=by
 funext y
 rw [Qh0,Qh0,Qh0,QVb]
 unfold wordP
 cases (Qg0 y==2) <;> cases (Qg0 y==3) <;> rfl
end Go.Proofs.YtjpgfmbccohngaaGreatDoor
namespace Go.Proofs.YtjpgfmbccohngaaGreatDoor
set_option linter.unusedSimpArgs false
set_option linter.unusedVariables false
open Go.Fw
theorem QBd:∀ (m:Nat) (out:List Token) (c:LexReader),(Q92 m out c).1=[]∨out <+: (Q92 m out c).1
 | 0,_,_=>.inl rfl
 | m+1,out,c=>by
  rw [Q92]
  cases (c.error==0) with
  | false=>exact .inl rfl
  | true =>
   simp only [cond_true]
   cases ((Q40 c (fun (y:Int)=>Ql0 y ([1]:List Int) 0)).2.at_==(((Q40 c (fun (y:Int)=>Ql0 y ([1]:List Int) 0)).2.line).length:Int)) with
   | true=>exact .inr (List.prefix_refl _)
   | false =>
    simp only [cond_false]
    rcases QBd m (out++[{ (Qd0 ((Q40 c (fun (y:Int)=>Ql0 y ([1]:List Int) 0)).2)).1 with at_:=(Q40 c (fun (y:Int)=>Ql0 y ([1]:List Int) 0)).2.at_ }]) ((Qd0 ((Q40 c (fun (y:Int)=>Ql0 y ([1]:List Int) 0)).2)).2) with h|h
    ·exact .inl h
    ·exact .inr (List.IsPrefix.trans (List.prefix_append _ _) h)
def skipB (L:List Int) (a:Nat):Nat:=a+((L.drop a).takeWhile QO3).length
theorem skipB_le (L:List Int) (a:Nat) (h:a<=L.length):skipB L a<=L.length:=by
 unfold skipB
 have:=(List.takeWhile_prefix (l:=L.drop a) QO3).length_le
 rw [List.length_drop] at this
 omega
theorem QMb (L:List Int) (hL:L.length<=400) (m:Nat) (out:List Token) (a:Nat) (bad:Int) (ha:a<=L.length) :
  Q92 (m+1) out ⟨L,(a:Int),bad,0⟩=bif (((skipB L a:Nat):Int)==(L.length:Int)) then (out,(L.length:Int),0)
   else Q92 m (out++[{ (Qd0 ⟨L,((skipB L a:Nat):Int),bad,0⟩).1 with at_:=((skipB L a:Nat):Int) }]) (Qd0 ⟨L,((skipB L a:Nat):Int),bad,0⟩).2:=by
 rw [Q92]
 simp only [blank_fn]
 rw [while_eq QO3 L hL a bad 0 ha]
 rfl
theorem next_kind (r:LexReader) (h:(Ql1 (r.line.getD (Int.toNat r.at_) 0)==2)=false):(Qd0 r).1.kind ≠ 1:=by
 unfold Qd0 QH1 Q12 QI2
 rw [h]
 simp only [cond_false,Bool.cond_eq_ite]
 repeat' split
 all_goals first|(simp [Token.zero];done)|simp_all
theorem next_word (L:List Int) (hL:L.length<=400) (a:Nat) (bad:Int) (ha:a<=L.length) (h:(Ql1 (L.getD a 0)==2)=true) :
  Qd0 ⟨L,(a:Int),bad,0⟩=(⟨1,Q03 (runesBytes ((L.drop a).takeWhile wordP)),0,0⟩,⟨L,((a+((L.drop a).takeWhile wordP).length:Nat):Int),bad,0⟩):=by
 unfold Qd0 Qi2
 simp only [Int.toNat_natCast,word_fn]
 rw [h,while_eq wordP L hL a bad 0 ha,lower_eq]
 rfl
def Wd (s:ByteArray):Prop:=s.size<=400 ∧ ∃ x r,QA0 s=x :: r∧Qg0 x=2∧Q03 (runesBytes ((QA0 s).takeWhile wordP))=s∧skipB (QA0 s) ((QA0 s).takeWhile wordP).length=(QA0 s).length
theorem tokens_start (s:ByteArray) (h:s.size<=400):Qn1 s=Q92 (2*(QA0 s).length+1+1) [] ⟨QA0 s,((0:Nat):Int),0,0⟩:=by
 unfold Qn1
 rw [decide_eq_false (show ¬ (s.size:Int) > 400 by omega),QIh s s]
 unfold QO5
 show Q92 _ [] ⟨[]++(Qk7 s).map (·.2),0,0,0⟩=_
 rw [List.nil_append]
 congr 1
theorem word_prog (s:ByteArray):Qf6 s=true ↔ Wd s:=by
 rcases Nat.lt_or_ge 400 s.size with hs|hs
 ·constructor
  ·intro h
   unfold Qf6 Qn1 at h
   rw [decide_eq_true (show (s.size:Int) > 400 by omega)] at h
   cases h
  ·rintro ⟨h,_⟩
   omega
 have hL:(QA0 s).length<=400:=Nat.le_trans (line_len s) hs
 generalize hLd:QA0 s=L at *
 have e0:Qn1 s=Q92 (2*L.length+1+1) [] ⟨L,((0:Nat):Int),0,0⟩:=by rw [tokens_start s hs,hLd]
 rw [QMb L hL (2*L.length+1) [] 0 0 (by omega)] at e0
 unfold Wd Qf6
 rw [hLd]
 constructor
 ·intro h
  cases hc:(((Qn1 s).2.2 != 0)||((((Qn1 s).1).length:Int)!=1))||(!(((((Qn1 s).1).getD 0 Token.zero).kind==1)&&(((((Qn1 s).1).getD 0 Token.zero).text==s)&&(((((Qn1 s).1).getD 0 Token.zero).num==0)&&((((Qn1 s).1).getD 0 Token.zero).at_==0))))) with
  | true=>rw [hc] at h;cases h
  | false =>
   obtain ⟨h1,h2⟩:=or_f hc
   obtain ⟨_,hlen⟩:=or_f h1
   have hleni:((Qn1 s).1.length:Int)=1:=by simpa using hlen
   replace hlen:(Qn1 s).1.length=1:=by omega
   simp only [Bool.not_eq_false',Bool.and_eq_true,beq_iff_eq,bytes_beq] at h2
   obtain ⟨hk,ht,_,hat⟩:=h2
   cases hb:(((skipB L 0:Nat):Int)==(L.length:Int)) with
   | true =>
    rw [hb] at e0
    rw [e0] at hlen
    cases hlen
   | false =>
    rw [hb] at e0
    simp only [cond_false,List.nil_append] at e0
    have hpre:=QBd (2*L.length+1) [{ (Qd0 ⟨L,((skipB L 0:Nat):Int),0,0⟩).1 with at_:=((skipB L 0:Nat):Int) }] (Qd0 ⟨L,((skipB L 0:Nat):Int),0,0⟩).2
    rw [← e0] at hpre
    rcases hpre with hpre|hpre
    ·rw [hpre] at hlen;cases hlen
    ·have hhead:(Qn1 s).1.getD 0 Token.zero={ (Qd0 ⟨L,((skipB L 0:Nat):Int),0,0⟩).1 with at_:=((skipB L 0:Nat):Int) }:=by
      obtain ⟨q,hq⟩:=hpre
      rw [← hq]
      rfl
     rw [hhead] at hk ht hat
     have hz:skipB L 0=0:=by
      have:((skipB L 0:Nat):Int)=0:=hat
      omega
     rw [hz] at e0 hk ht hb
     have hcl:(Ql1 (L.getD 0 0)==2)=true:=by
      cases hcc:(Ql1 (L.getD 0 0)==2) with
      | true=>rfl
      | false=>exact absurd hk (next_kind ⟨L,((0:Nat):Int),0,0⟩ hcc)
     rw [next_word L hL 0 0 (by omega) hcl] at e0 ht
     simp only [List.drop_zero,Nat.zero_add] at e0 ht
     have hne:L.length ≠ 0:=by
      intro h0
      rw [h0] at hb
      simp at hb
     obtain ⟨x,r,hxr⟩:∃ x r,L=x :: r:=by
      cases hcase:L with
      | nil=>rw [hcase] at hne;exact absurd rfl hne
      | cons x r=>exact ⟨x,r,rfl⟩
     refine ⟨hs,x,r,hxr,?_,ht,?_⟩
     ·rw [hxr] at hcl
      rw [QVb] at hcl
      exact eq_of_beq hcl
     ·have hle:(L.takeWhile wordP).length<=L.length:=(List.takeWhile_prefix wordP).length_le
      rw [show 2*L.length+1=2*L.length+1 from rfl,QMb L hL (2*L.length) _ (L.takeWhile wordP).length 0 hle] at e0
      cases hb2:(((skipB L (L.takeWhile wordP).length:Nat):Int)==(L.length:Int)) with
      | true =>
       have:=eq_of_beq hb2
       omega
      | false =>
       rw [hb2] at e0
       simp only [cond_false] at e0
       have hpre2:∀ o c,Qn1 s=Q92 (2*L.length) o c->(Qn1 s).1=[]∨o <+: (Qn1 s).1:=fun o c e=>by rw [e];exact QBd _ _ _
       rcases hpre2 _ _ e0 with h'|h'
       ·rw [h'] at hlen;cases hlen
       ·have:=h'.length_le
        rw [hlen] at this
        simp at this
 ·rintro ⟨_,x,r,hxr,hx,ht,hsk⟩
  have hcl:(Ql1 (L.getD 0 0)==2)=true:=by
   rw [hxr,QVb]
   exact beq_iff_eq.2 hx
  have hz:skipB L 0=0:=by
   unfold skipB
   rw [List.drop_zero,hxr,List.takeWhile_cons]
   have:QO3 x=false:=by unfold QO3;rw [hx];rfl
   rw [this]
   rfl
  have hb:(((0:Nat):Int)==(L.length:Int))=false:=by
   rw [hxr]
   simp
   omega
  rw [hz,hb] at e0
  simp only [cond_false,List.nil_append] at e0
  rw [next_word L hL 0 0 (by omega) hcl] at e0
  simp only [List.drop_zero,Nat.zero_add] at e0
  have hle:(L.takeWhile wordP).length<=L.length:=(List.takeWhile_prefix wordP).length_le
  rw [QMb L hL (2*L.length) _ (L.takeWhile wordP).length 0 hle,hsk] at e0
  have hb2:(((L.length:Nat):Int)==(L.length:Int))=true:=beq_iff_eq.2 rfl
  rw [hb2,ht] at e0
  rw [e0]
  have:(s==s)=true:=(bytes_beq s s).2 rfl
  simp [this]
end Go.Proofs.YtjpgfmbccohngaaGreatDoor
namespace Go.Proofs.YtjpgfmbccohngaaGreatDoor
set_option linter.unusedSimpArgs false
set_option linter.unusedVariables false
open Go.Fw
theorem decode_blank (s:ByteArray) (h:(Utf8.decode s 0).1=9∨(Utf8.decode s 0).1=32):(s.get! 0).toNat=9∨(s.get! 0).toNat=32:=by
 unfold Utf8.decode at h
 simp only [Nat.add_zero,Nat.zero_add,Utf8.runeError] at h
 repeat' split at h
 all_goals first|exact h|(simp only [ge_iff_le,Nat.not_le] at *;omega)|(simp_all;omega)
theorem first_line (s:ByteArray) (x:Int) (r:List Int) (h:QA0 s=x :: r):x=((Utf8.decode s 0).1:Int)∧0<s.size:=by
 unfold QA0 Qk7 at h
 cases hs:s.size with
 | zero=>rw [hs] at h;cases h
 | succ n =>
  rw [hs,Qw3 (by rw [hs];rfl)] at h
  simp only [List.map_cons,List.cons.injEq] at h
  exact ⟨h.1.symm,Nat.succ_pos n⟩
theorem get_first (s:ByteArray) (h:0<s.size):∃ b q,s.data.toList=b :: q∧s.get! 0=b:=by
 obtain ⟨d⟩:=s
 have hd:0<d.size:=h
 refine ⟨d[0],d.toList.tail,?_,?_⟩
 ·cases hl:d.toList with
  | nil=>simp at hl;rw [hl] at hd;cases hd
  | cons a t=>
   have:d[0]=a:=by rw [← Array.getElem_toList];simp [hl]
   rw [this];rfl
 ·show d[0]! = d[0]
  exact getElem!_pos d 0 hd
theorem encode_letter (x:Int) (h:Qg0 x=2):∃ b q,(Utf8.encode x).data.toList=b :: q∧65<=b.toNat:=by
 have hx:65<=x∧x<=1114111 ∧ ¬ (55296<=x∧x<=57343):=by
  unfold Qg0 at h
  grind
 have hv:Utf8.valid x=true:=by
  unfold Utf8.valid
  simp only [Bool.or_eq_true,Bool.and_eq_true,decide_eq_true_eq]
  omega
 unfold Utf8.encode
 simp only [hv,if_true]
 have hc:∃ c:Nat,x.toNat=c∧65<=c∧c<=1114111:=⟨x.toNat,rfl,by omega,by omega⟩
 obtain ⟨c,hcc,h1,h2⟩:=hc
 rw [hcc]
 repeat' split
 all_goals refine ⟨_,_,rfl,?_⟩
 all_goals simp only [UInt8.toNat_ofNat']
 all_goals omega
theorem QZg (x:Int) (r:List Int):∃ q,(runesBytes (x :: r)).data.toList=(Utf8.encode x).data.toList++q:=by
 unfold runesBytes
 rw [List.foldl_cons]
 have:∀ (l:List Int) (b:ByteArray),∃ q,(l.foldl (fun r n=>r++Utf8.encode n) b).data.toList=b.data.toList++q:=by
  intro l
  induction l with
  | nil=>exact fun b=>⟨[],by simp⟩
  | cons y t ih =>
   intro b
   obtain ⟨q,hq⟩:=ih (b++Utf8.encode y)
   exact ⟨(Utf8.encode y).data.toList++q,by rw [List.foldl_cons,hq];simp⟩
 obtain ⟨q,hq⟩:=this r (ByteArray.empty++Utf8.encode x)
 exact ⟨q,by rw [hq];simp⟩
theorem lower_first (x:Int) (r:List Int) (h:Qg0 x=2):∃ b q,(Q03 (runesBytes (x :: r))).data.toList=b :: q∧65<=b.toNat:=by
 obtain ⟨b,q,hb,h65⟩:=encode_letter x h
 obtain ⟨q',hq⟩:=QZg x r
 rw [lower_ref,QUb]
 unfold Q62
 rw [hq,hb]
 refine ⟨UInt8.ofNat (lowB (b.toNat:Int)).toNat,_,rfl,?_⟩
 have hlt:=b.toNat_lt
 rw [UInt8.toNat_ofNat']
 unfold lowB
 split <;> omega
theorem no_blank_word (s:ByteArray) (y:Int) (q:List Int) (hl:QA0 s=y :: q) (hy:QO3 y=true) (x:Int) (r:List Int) (hx:Qg0 x=2):Q03 (runesBytes (x :: r)) ≠ s:=by
 intro e
 obtain ⟨b,t,hb,h65⟩:=lower_first x r hx
 rw [e] at hb
 obtain ⟨h1,h2⟩:=first_line s y q hl
 obtain ⟨b',t',hb',hg⟩:=get_first s h2
 have hy':(Utf8.decode s 0).1=9∨(Utf8.decode s 0).1=32:=by
  unfold QO3 Qg0 at hy
  subst h1
  grind
 have:=decode_blank s hy'
 rw [hg] at this
 rw [hb] at hb'
 cases hb'
 omega
theorem end_go (L:List Int) (hL:L.length<=400) (a:Nat) (ha:Qg0 (L.getD a 0)=2):∀ (m i:Nat),i<=L.length->L.length - i<m->Qa3 L (a:Int) m (i:Int)=((i+((L.drop i).takeWhile wordP).length:Nat):Int)
 | 0,_,_,h=>absurd h (by omega)
 | m+1,i,hi,hm=>by
  rw [Qa3]
  simp only [Int.toNat_natCast,ha]
  rcases Nat.lt_or_ge i L.length with h|h
  ·have hg:L.getD i 0=L[i]:=by simp [List.getD,List.getElem?_eq_getElem h]
   rw [decide_eq_true (show (i:Int)<(L.length:Int) by omega),hg,List.drop_eq_getElem_cons h,List.takeWhile_cons]
   have e:(((((((2:Int)==2)&&((Qg0 L[i])!=2))&&((Qg0 L[i])!=3))&&(L[i]!=45))&&(L[i]!=95))) = !(wordP L[i]):=by
    unfold wordP bne
    cases (Qg0 L[i]==2) <;> cases (Qg0 L[i]==3) <;> cases (L[i]==45) <;> cases (L[i]==95) <;> rfl
   rw [e]
   cases hw:wordP L[i] with
   | false=>simp
   | true =>
    have hww:w64 ((i:Int)+1)=((i+1:Nat):Int):=wr (by omega)
    have e3:((2:Int)==3)=false:=rfl
    simp only [Bool.not_true,cond_false,cond_true,e3,Bool.false_and,if_true]
    rw [hww,end_go L hL a ha m (i+1) (by omega) (by omega),List.length_cons]
    congr 1
    omega
  ·rw [decide_eq_false (show ¬ (i:Int)<(L.length:Int) by omega),List.drop_eq_nil_of_le h]
   simp
theorem end_eq (L:List Int) (hL:L.length<=400) (a:Nat) (hlt:a<L.length) (ha:Qg0 (L.getD a 0)=2):QB1 L (a:Int)=((a+((L.drop a).takeWhile wordP).length:Nat):Int):=by
 unfold QB1
 have hw:w64 ((a:Int)+1)=((a+1:Nat):Int):=wr (by omega)
 rw [hw,end_go L hL a ha _ (a+1) (by omega) (by omega),List.drop_eq_getElem_cons hlt,List.takeWhile_cons]
 have hg:L.getD a 0=L[a]:=by simp [List.getD,List.getElem?_eq_getElem hlt]
 have:wordP L[a]=true:=by unfold wordP;rw [← hg,ha];rfl
 rw [this]
 simp only [if_true,List.length_cons]
 congr 1
 omega
theorem text_kind (L:List Int) (a:Int):∀ (m:Nat) (i:Int),(QJ2 L a m i).1.kind ≠ 1
 | 0,i=>by simp [QJ2,Token.zero]
 | m+1,i=>by
  rw [QJ2]
  simp only [Bool.cond_eq_ite]
  repeat' split
  all_goals first|exact text_kind L a m _|(simp [Token.zero];done)
theorem one_kind (L:List Int) (a:Int) (h:(Qg0 (L.getD (Int.toNat a) 0)==2)=false):(Qh1 L a).1.kind ≠ 1:=by
 unfold Qh1 QC3
 rw [h]
 simp only [cond_false,Bool.cond_eq_ite]
 repeat' split
 all_goals first|exact text_kind L a _ _|(simp [Token.zero];done)|simp_all
theorem one_word (L:List Int) (hL:L.length<=400) (a:Nat) (hlt:a<L.length) (ha:Qg0 (L.getD a 0)=2) :
  Qh1 L (a:Int)=(⟨1,Q03 (runesBytes ((L.drop a).takeWhile wordP)),0,(a:Int)⟩,((a+((L.drop a).takeWhile wordP).length:Nat):Int),0,0):=by
 unfold Qh1
 simp only [Int.toNat_natCast,ha,end_eq L hL a hlt ha]
 rw [take_run]
 rfl
section
variable (s:ByteArray)
theorem Qyb:∀ (m:Nat) (out:List Token) (i:Int),(QM0 s m out i).1=[]∨out <+: (QM0 s m out i).1
 | 0,_,_=>.inl rfl
 | m+1,out,i=>by
  rw [QM0]
  cases (decide (i<((QL0 s).length:Int))) with
  | false=>exact .inr (List.prefix_refl _)
  | true =>
   simp only [cond_true]
   cases ((Qg0 ((QL0 s).getD (Int.toNat i) 0))==1) with
   | true=>exact Qyb m out _
   | false =>
    simp only [cond_false]
    cases ((Qh1 (QL0 s) i).2.2.2 != 0) with
    | true=>exact .inl rfl
    | false =>
     rcases Qyb m (out++[(Qh1 (QL0 s) i).1]) ((Qh1 (QL0 s) i).2.1) with h|h
     ·exact .inl h
     ·exact .inr (List.IsPrefix.trans (List.prefix_append _ _) h)
theorem rskip (hL:(QA0 s).length<=400):∀ (k m:Nat) (out:List Token) (i:Nat),i+k<=(QA0 s).length->(∀ y ∈ ((QA0 s).drop i).take k,QO3 y=true)->QM0 s (m+k) out (i:Int)=QM0 s m out ((i+k:Nat):Int)
 | 0,_,_,_,_,_=>rfl
 | k+1,m,out,i,h,hb=>by
  have hi:i<(QA0 s).length:=by omega
  rw [show m+(k+1)=(m+k)+1 by omega,QM0,Qb9,decide_eq_true (show (i:Int)<((QA0 s).length:Int) by omega),Int.toNat_natCast]
  have hg:(QA0 s).getD i 0=(QA0 s)[i]:=by simp [List.getD,List.getElem?_eq_getElem hi]
  rw [List.drop_eq_getElem_cons hi,List.take_succ_cons] at hb
  have hc:((Qg0 (QA0 s)[i])==1)=true:=hb _ (List.mem_cons_self ..)
  have hw:w64 ((i:Int)+1)=((i+1:Nat):Int):=wr (by omega)
  rw [hg,hc,hw]
  simp only [cond_true]
  rw [rskip hL k m out (i+1) (by omega) (fun y hy=>hb y (List.mem_cons_of_mem _ hy))]
  congr 2
  omega
theorem rskipB (hL:(QA0 s).length<=400) (m:Nat) (out:List Token) (a:Nat) (ha:a<=(QA0 s).length) (hm:(QA0 s).length - a<m) :
  ∃ m',(QA0 s).length - skipB (QA0 s) a<m'∧QM0 s m out (a:Int)=QM0 s m' out ((skipB (QA0 s) a:Nat):Int):=by
 have hle:=skipB_le (QA0 s) a ha
 have hk:skipB (QA0 s) a=a+(((QA0 s).drop a).takeWhile QO3).length:=rfl
 refine ⟨m - (((QA0 s).drop a).takeWhile QO3).length,by omega,?_⟩
 rw [hk,← rskip s hL _ (m - (((QA0 s).drop a).takeWhile QO3).length) out a (by omega) ?_]
 ·congr 1
  omega
 ·intro y hy
  have:((QA0 s).drop a).take (((QA0 s).drop a).takeWhile QO3).length=((QA0 s).drop a).takeWhile QO3:=(List.prefix_iff_eq_take.1 (List.takeWhile_prefix QO3)).symm
  rw [this] at hy
  exact List.all_eq_true.1 (List.all_takeWhile ..) y hy
theorem rstep (m:Nat) (out:List Token) (a:Nat) (ha:a<(QA0 s).length) (hb:QO3 ((QA0 s).getD a 0)=false) :
  QM0 s (m+1) out (a:Int)=bif ((Qh1 (QA0 s) (a:Int)).2.2.2 != 0) then ([],(Qh1 (QA0 s) (a:Int)).2.2.1,(Qh1 (QA0 s) (a:Int)).2.2.2) else QM0 s m (out++[(Qh1 (QA0 s) (a:Int)).1]) (Qh1 (QA0 s) (a:Int)).2.1:=by
 rw [QM0,Qb9,decide_eq_true (show (a:Int)<((QA0 s).length:Int) by omega),Int.toNat_natCast]
 have:((Qg0 ((QA0 s).getD a 0))==1)=false:=hb
 rw [this]
 rfl
theorem rend (m:Nat) (out:List Token):QM0 s (m+1) out ((QA0 s).length:Int)=(out,((QA0 s).length:Int),0):=by
 rw [QM0,Qb9,decide_eq_false (by omega)]
 rfl
theorem skip_no (L:List Int) (a:Nat) (h:skipB L a<L.length):QO3 (L.getD (skipB L a) 0)=false:=by
 unfold skipB at *
 have hd:(L.drop a)[((L.drop a).takeWhile QO3).length]? = some (L.getD (a+((L.drop a).takeWhile QO3).length) 0):=by
  rw [List.getElem?_drop,List.getD,List.getElem?_eq_getElem h]
  rfl
 have hsp:L.drop a=(L.drop a).takeWhile QO3++(L.drop a).dropWhile QO3:=(List.takeWhile_append_dropWhile).symm
 generalize hX:(L.drop a).takeWhile QO3=X at *
 generalize hY:(L.drop a).dropWhile QO3=Y at *
 rw [hsp,List.getElem?_append_right (Nat.le_refl _),Nat.sub_self] at hd
 cases hc:Y with
 | nil=>rw [hc] at hd;cases hd
 | cons y t =>
  rw [hc] at hd
  simp only [List.getElem?_cons_zero,Option.some.injEq] at hd
  rw [← hd]
  have:=List.head_dropWhile_not QO3 (l:=L.drop a) (by rw [hY,hc];simp)
  simpa [hY,hc] using this
end
theorem word_ref (s:ByteArray):Q04 s=true ↔ Wd s:=by
 rcases Nat.lt_or_ge 400 s.size with hs|hs
 ·constructor
  ·intro h
   unfold Q04 QJ0 at h
   rw [decide_eq_true (show (s.size:Int) > 400 by omega)] at h
   cases h
  ·rintro ⟨h,_⟩
   omega
 have hL:(QA0 s).length<=400:=Nat.le_trans (line_len s) hs
 have e0:QJ0 s=QM0 s ((QA0 s).length+1) [] ((0:Nat):Int):=by
  unfold QJ0
  rw [decide_eq_false (show ¬ (s.size:Int) > 400 by omega),Qb9]
  rfl
 obtain ⟨m1,hm1,e1⟩:=rskipB s hL ((QA0 s).length+1) [] 0 (by omega) (by omega)
 rw [e1] at e0
 have hle0:=skipB_le (QA0 s) 0 (by omega)
 obtain ⟨m2,rfl⟩:∃ m2,m1=m2+1:=⟨m1 - 1,by omega⟩
 unfold Wd Q04
 constructor
 ·intro h
  cases h1:(((QJ0 s).2.2 != 0)||((((QJ0 s).1).length:Int)!=1)) with
  | true=>rw [h1] at h;cases h
  | false =>
   rw [h1] at h
   simp only [cond_false] at h
   have hleni:((QJ0 s).1.length:Int)=1:=by simpa using (or_f h1).2
   have hlen:(QJ0 s).1.length=1:=by omega
   cases h2:((((((QJ0 s).1).getD 0 Token.zero).kind != 1)||(!(ByteArray.toList (((QJ0 s).1).getD 0 Token.zero).text==ByteArray.toList s)))||((((QJ0 s).1).getD 0 Token.zero).num != 0)) with
   | true=>rw [h2] at h;cases h
   | false =>
    obtain ⟨h3,_⟩:=or_f h2
    obtain ⟨hk,ht⟩:=or_f h3
    have hk:((QJ0 s).1.getD 0 Token.zero).kind=1:=by simpa using hk
    have ht:((QJ0 s).1.getD 0 Token.zero).text=s:=by
     have:(ByteArray.toList (((QJ0 s).1).getD 0 Token.zero).text==ByteArray.toList s)=true:=by simpa using ht
     exact (bytes_inj _ _).1 this
    rcases Nat.eq_or_lt_of_le hle0 with hb|hb
    ·rw [hb,rend] at e0
     rw [e0] at hlen
     cases hlen
    ·have hnb:=skip_no _ _ hb
     rw [rstep s m2 [] _ hb hnb] at e0
     cases he:((Qh1 (QA0 s) ((skipB (QA0 s) 0:Nat):Int)).2.2.2 != 0) with
     | true =>
      rw [he] at e0
      rw [e0] at hlen
      cases hlen
     | false =>
      rw [he] at e0
      simp only [cond_false,List.nil_append] at e0
      have hp:∀ o i m,QJ0 s=QM0 s m o i->(QJ0 s).1=[]∨o <+: (QJ0 s).1:=fun o i m e=>by rw [e];exact Qyb s _ _ _
      rcases hp _ _ _ e0 with h'|h'
      ·rw [h'] at hlen;cases hlen
      ·have hhead:(QJ0 s).1.getD 0 Token.zero=(Qh1 (QA0 s) ((skipB (QA0 s) 0:Nat):Int)).1:=by
        obtain ⟨q,hq⟩:=h'
        rw [← hq]
        rfl
       rw [hhead] at hk ht
       have hcl:(Qg0 ((QA0 s).getD (skipB (QA0 s) 0) 0)==2)=true:=by
        cases hcc:(Qg0 ((QA0 s).getD (skipB (QA0 s) 0) 0)==2) with
        | true=>rfl
        | false=>exact absurd hk (one_kind _ _ (by rw [Int.toNat_natCast];exact hcc))
       have hcl':=eq_of_beq hcl
       rw [one_word _ hL _ hb hcl'] at e0 ht
       simp only at e0 ht
       have hfirst:(QA0 s).drop (skipB (QA0 s) 0)=(QA0 s).getD (skipB (QA0 s) 0) 0 :: (QA0 s).drop (skipB (QA0 s) 0+1):=by
        rw [List.drop_eq_getElem_cons hb]
        congr 1
        simp [List.getD,List.getElem?_eq_getElem hb]
       have hwp:wordP ((QA0 s).getD (skipB (QA0 s) 0) 0)=true:=by unfold wordP;rw [hcl'];rfl
       have hz:skipB (QA0 s) 0=0:=by
        rcases Nat.eq_zero_or_pos (skipB (QA0 s) 0) with hz|hz
        ·exact hz
        ·exfalso
         cases hl:QA0 s with
         | nil=>rw [hl] at hb;exact absurd hb (by simp)
         | cons y q =>
          have hy:QO3 y=true:=by
           cases hbl:QO3 y with
           | true=>rfl
           | false =>
            have:skipB (QA0 s) 0=0:=by
             unfold skipB
             rw [List.drop_zero,hl,List.takeWhile_cons,hbl]
             rfl
            omega
          rw [hfirst,List.takeWhile_cons,hwp] at ht
          exact no_blank_word s y q hl hy _ _ hcl' ht
       rw [hz] at e0 ht hcl' hb
       simp only [List.drop_zero,Nat.zero_add] at e0 ht
       cases hl:QA0 s with
       | nil=>rw [hl] at hb;exact absurd hb (by simp)
       | cons x r =>
        rw [← hl]
        refine ⟨hs,x,r,hl,by rw [hl] at hcl';exact hcl',ht,?_⟩
        have hle:((QA0 s).takeWhile wordP).length<=(QA0 s).length:=(List.takeWhile_prefix wordP).length_le
        have hpos:0<((QA0 s).takeWhile wordP).length:=by
         rw [hl,List.takeWhile_cons]
         have hcx:Qg0 x=2:=by rw [hl] at hcl';exact hcl'
         have:wordP x=true:=by unfold wordP;rw [hcx];rfl
         rw [this]
         simp
        obtain ⟨m3,hm3,e3⟩:=rskipB s hL m2 [⟨1,Q03 (runesBytes ((QA0 s).takeWhile wordP)),0,((0:Nat):Int)⟩] ((QA0 s).takeWhile wordP).length hle (by omega)
        rw [e3] at e0
        have hle2:=skipB_le (QA0 s) _ hle
        rcases Nat.eq_or_lt_of_le hle2 with hq|hq
        ·exact hq
        ·exfalso
         obtain ⟨m4,rfl⟩:∃ m4,m3=m4+1:=⟨m3 - 1,by omega⟩
         rw [rstep s m4 _ _ hq (skip_no _ _ hq)] at e0
         cases he2:((Qh1 (QA0 s) ((skipB (QA0 s) ((QA0 s).takeWhile wordP).length:Nat):Int)).2.2.2 != 0) with
         | true =>
          rw [he2] at e0
          rw [e0] at hlen
          cases hlen
         | false =>
          rw [he2] at e0
          simp only [cond_false] at e0
          rcases hp _ _ _ e0 with h''|h''
          ·rw [h''] at hlen;cases hlen
          ·have:=h''.length_le
           rw [hlen] at this
           simp at this
 ·rintro ⟨_,x,r,hl,hx,ht,hsk⟩
  have hz:skipB (QA0 s) 0=0:=by
   unfold skipB
   rw [List.drop_zero,hl,List.takeWhile_cons]
   have:QO3 x=false:=by unfold QO3;rw [hx];rfl
   rw [this]
   rfl
  have hb:0<(QA0 s).length:=by rw [hl];simp
  have hg:(QA0 s).getD 0 0=x:=by rw [hl];rfl
  rw [hz] at e0 hm1
  have hnb:QO3 ((QA0 s).getD 0 0)=false:=by rw [hg];unfold QO3;rw [hx];rfl
  rw [rstep s m2 [] 0 hb hnb,one_word _ hL 0 hb (by rw [hg];exact hx)] at e0
  simp only [List.drop_zero,Nat.zero_add,List.nil_append] at e0
  have e00:((0:Int)!=0)=false:=rfl
  rw [e00] at e0
  simp only [cond_false] at e0
  have hle:((QA0 s).takeWhile wordP).length<=(QA0 s).length:=(List.takeWhile_prefix wordP).length_le
  have hpos:0<((QA0 s).takeWhile wordP).length:=by
   rw [hl,List.takeWhile_cons]
   have:wordP x=true:=by unfold wordP;rw [hx];rfl
   rw [this]
   simp
  obtain ⟨m3,hm3,e3⟩:=rskipB s hL m2 [⟨1,Q03 (runesBytes ((QA0 s).takeWhile wordP)),0,((0:Nat):Int)⟩] ((QA0 s).takeWhile wordP).length hle (by omega)
  rw [e3,hsk,ht] at e0
  obtain ⟨m4,rfl⟩:∃ m4,m3=m4+1:=⟨m3 - 1,by omega⟩
  rw [rend] at e0
  rw [e0]
  simp
theorem word_eq (s:ByteArray):Qf6 s=Q04 s:=by
 rw [Bool.eq_iff_iff,word_prog,word_ref]
end Go.Proofs.YtjpgfmbccohngaaGreatDoor
namespace Go.Proofs.YtjpgfmbccohngaaGreatDoor
set_option linter.unusedSimpArgs false
set_option linter.unusedVariables false
open Go.Fw
theorem alts_le {s:Shape} (h:(Q22 s==0)=true):s.alts.length<=6:=by
 have h:=eq_of_beq h
 unfold Q22 Q52 at h
 by_cases h1:s.kind=1
 ·simp only [h1,beq_self_eq_true,cond_true] at h
  grind
 by_cases h2:s.kind=2
 ·have:((2:Int)==1)=false:=rfl
  simp only [h2,beq_self_eq_true,cond_true,this,cond_false] at h
  grind
 by_cases h3:s.kind=3
 ·have e1:((3:Int)==1)=false:=rfl
  have e2:((3:Int)==2)=false:=rfl
  simp only [h3,beq_self_eq_true,cond_true,e1,e2,cond_false] at h
  grind
 have e1:(s.kind==1)=false:=by simpa using h1
 have e2:(s.kind==2)=false:=by simpa using h2
 have e3:(s.kind==3)=false:=by simpa using h3
 rw [e1,e2,e3] at h
 cases h
theorem deps_le {l:List Dep} (h:QH7 l=true):l.length<=4:=by
 rcases Nat.lt_or_ge 4 l.length with h'|h'
 ·unfold QH7 at h
  rw [Q3g l h'] at h
  cases h
 ·exact h'
theorem cmd_self (c:Cmd):QWb c c=true:=by
 unfold QWb
 rw [(shape_same _ _).2 rfl,(equal_Dep _ _).2 rfl]
 simp
theorem submission_eq (n u a:ByteArray) (sh:Shape) (p:Int) (l:List Dep) :
  Qn7 ⟨1,0,n,u,a,sh,p,true,0,false,l,0,0,0⟩=Qk4 ⟨1,0,n,u,a,sh,p,true,0,false,l,0,0,0⟩:=by
 have hbare:Qj8 ⟨1,0,n,u,a,sh,p,true,0,false,l,0,0,0⟩=⟨1,0,n,u,a,sh,p,true,0,false,l,0,0,0⟩:=rfl
 have hf:QXb ⟨1,0,n,u,a,sh,p,true,0,false,l,0,0,0⟩=((Qm1 p 0 100)&&(((((((QK5 n)&&(QK5 u))&&(QK5 a))&&(Qf6 u))&&(Qf6 a))&&(QH7 l))&&((Q22 sh)==0))):=by
  unfold QXb
  show (bif ((((true&&(!(Qm1 p 0 100)))||false)||false)||false) then false else _)=_
  cases (Qm1 p 0 100) <;> rfl
 have hr:Qk4 ⟨1,0,n,u,a,sh,p,true,0,false,l,0,0,0⟩=bif !((((((((QM3 n)&&(QM3 u))&&(QM3 a))&&(Q04 u))&&(Q04 a))&&(Qm6 l))&&((Qi1 sh)==0))&&(Qm1 p 0 100)) then 80 else 0:=by
  unfold Qk4 QE2 Qh7 Qi7 Qx2
  simp
 rw [hr]
 unfold Qn7
 rw [hbare,cmd_self,hf,← name_eq,← name_eq,← name_eq,← word_eq,← word_eq,← deps_eq,← QS8]
 cases hd:QH7 l with
 | false=>cases (Qm1 p 0 100) <;> simp
 | true =>
  cases hs:(Q22 sh==0) with
  | false=>cases (Qm1 p 0 100) <;> simp
  | true =>
   have h1:=alts_le hs
   have h2:=deps_le hd
   have e1:decide ((sh.alts.length:Int) > 6)=false:=decide_eq_false (by omega)
   have e2:decide ((l.length:Int) > 4)=false:=decide_eq_false (by omega)
   show (bif (((decide ((sh.alts.length:Int) > 6))||(decide ((l.length:Int) > 4)))||_)||_ then (80:Int) else 0)=_
   rw [e1,e2]
   cases (Qm1 p 0 100) <;> cases QK5 n <;> cases QK5 u <;> cases QK5 a <;> cases Qf6 u <;> cases Qf6 a <;> rfl
theorem opt_wall (s:Shape):∀ x ∈ Q60 s,1<=x.wall∧x.wall<=100000:=by
 intro x hx
 cases hc:(Qi1 s != 0) with
 | true =>
  unfold Q60 at hx
  rw [hc] at hx
  cases hx
 | false =>
  have hz:Qi1 s=0:=by simpa using hc
  cases hk:(s.kind==3) with
  | true =>
   have hk3:s.kind=3:=by simpa using hk
   have hw:1<=s.wall∧s.wall<=100000:=by
    unfold Qi1 at hz
    simp only [hk3,beq_self_eq_true,cond_true] at hz
    cases hq:(((((decide ((s.alts.length:Int) > 0))||(!(Qq1 s.min)))||(!(Qq1 s.max)))||(decide (s.max<s.min)))||(!(Qa2 s.wall))) with
    | true=>rw [hq] at hz;cases hz
    | false =>
     have:=(or_f hq).2
     unfold Qa2 at this
     simp at this
     omega
   rw [← Qz6] at hx
   unfold QN0 at hx
   rw [QS8,hc,hk] at hx
   simp only [cond_false,cond_true] at hx
   rcases List.mem_append.1 hx with hx|hx
   ·have h0:s.alts.length=0:=by
     unfold Qi1 at hz
     simp only [hk3,beq_self_eq_true,cond_true] at hz
     cases hq:(((((decide ((s.alts.length:Int) > 0))||(!(Qq1 s.min)))||(!(Qq1 s.max)))||(decide (s.max<s.min)))||(!(Qa2 s.wall))) with
     | true=>rw [hq] at hz;cases hz
     | false =>
      have:=of_decide_eq_false (or_f (or_f (or_f (or_f hq).1).1).1).1
      omega
    rw [List.eq_nil_of_length_eq_zero h0] at hx
    cases hx
   ·unfold QH5 at hx
    obtain ⟨i,_,rfl⟩:=List.mem_map.1 hx
    exact hw
  | false =>
   have hk':(s.kind != 3)=true:=by unfold bne;rw [hk];rfl
   have hx':x ∈ s.alts:=by
    unfold Q60 at hx
    rw [hc,hk'] at hx
    exact hx
   have hg:QK0 s s.alts 0=0:=by
    unfold Qi1 QD3 at hz
    rw [hk] at hz
    simp only [cond_false] at hz
    grind
   have:=((g2_eq s s.alts 0 (by simp)).1.1 hg).1 x hx'
   unfold okAlt Qa2 at this
   simp at this
   omega
theorem QBg (v:Job) (c:Int):(Q61 v c).2=decide (QM1 v.shape c > 0)∧((Q61 v c).2=false ↔ QM1 v.shape c=0)∧((Q61 v c).2=true->(Q61 v c).1.wall=QM1 v.shape c∧1<=QM1 v.shape c∧QM1 v.shape c<=100000):=by
 unfold Q61 QM1
 rw [Qz6]
 cases hb:((decide (c<0))||(decide (c >= ((Q60 v.shape).length:Int)))) with
 | true=>exact ⟨rfl,⟨fun _=>rfl,fun _=>rfl⟩,fun h=>(by cases h)⟩
 | false =>
  obtain ⟨h1,h2⟩:=or_f hb
  have h1:=of_decide_eq_false h1
  have h2:=of_decide_eq_false h2
  simp only [cond_false]
  have hm:(Q60 v.shape).getD (Int.toNat c) Alt.zero ∈ Q60 v.shape:=by
   rw [List.getD,List.getElem?_eq_getElem (show Int.toNat c<(Q60 v.shape).length by omega)]
   exact List.getElem_mem _
  have hw:=opt_wall v.shape _ hm
  exact ⟨(decide_eq_true (by omega)).symm,⟨fun h=>(by cases h),fun h=>by omega⟩,fun _=>⟨trivial,hw⟩⟩
theorem nodes_few {s:Int} (hs:U64 s):Q4a s=Qma s:=by
 obtain ⟨au,ab⟩:=Qke (n:=48) (by decide)
 have au:U64 (QM4 48):=au
 have ab:∀ k,tb (QM4 48) k=decide (k<48):=ab
 unfold Q4a Qma
 rw [Bool.eq_iff_iff,Q8g (wu64_U _),decide_eq_true_eq]
 have ht:∀ k,tb (wu64 (BitVec.ofInt 64 s &&& ~~~(BitVec.ofInt 64 (QM4 48))).toNat) k=(tb s k && !decide (k<48)):=fun k=>by rw [tb_andnot hs au,ab]
 have p48:(2:Nat) ^ 48=281474976710656:=by decide
 constructor
 ·intro h
  have:s.toNat<2 ^ 48:=by
   refine Nat.lt_pow_two_of_testBit _ fun k hk=>?_
   rcases Nat.lt_or_ge k 64 with hk'|hk'
   ·have:=h k hk'
    rw [ht,decide_eq_false (show ¬ k<48 by omega)] at this
    simpa [tb] using this
   ·exact tb_high hs hk'
  rw [p48] at this
  unfold U64 at hs
  omega
 ·intro h k _
  rw [ht]
  rcases Nat.lt_or_ge k 48 with hk|hk
  ·rw [decide_eq_true hk];simp
  ·have:tb s k=false:=by
    unfold tb
    refine Nat.testBit_lt_two_pow (Nat.lt_of_lt_of_le (m:=2 ^ 48) ?_ (Nat.pow_le_pow_right (by decide) hk))
    rw [p48]
    unfold U64 at hs
    omega
   rw [this]
   rfl
theorem queued_eq {v:Job} (h:v.state=1):QG2 v=Qj1 v:=by
 unfold Qj1
 rw [h]
 simp only [beq_self_eq_true,cond_true]
 unfold QG2
 rw [(QBg v v.choice).1]
 have et:Q54=QU0:=rfl
 rw [et]
 cases hp:(v.promise==(-1)) with
 | true =>
  have:v.promise = -1:=by simpa using hp
  have hT:QU0 v.promise=false:=by rw [this];rfl
  rw [hT]
  unfold bne
  cases (v.start==0) <;> cases (v.limit==0) <;> cases (v.nodes==0) <;> simp
 | false =>
  unfold bne
  cases (v.start==0) <;> cases (v.limit==0) <;> cases (v.nodes==0) <;> simp
theorem running_eq {v:Job} (h:v.state=2) (hn:U64 v.nodes):QV3 v=Qj1 v:=by
 unfold Qj1
 rw [h]
 have e1:((2:Int)==1)=false:=rfl
 simp only [beq_self_eq_true,cond_true,e1,cond_false]
 unfold QV3
 rw [nodes_few hn,allows_eq,count_list hn]
 have et:Q54=QU0:=rfl
 rw [et]
 obtain ⟨_,o2,o3⟩:=QBg v v.choice
 cases ho:(Q61 v v.choice).2 with
 | false =>
  rw [o2.1 ho]
  rfl
 | true =>
  obtain ⟨w1,w2,w3⟩:=o3 ho
  have hw0:(QM1 v.shape v.choice==0)=false:=by simp;omega
  rw [hw0,w1]
  simp only [Bool.not_true,Bool.false_or]
  cases v.held with
  | true=>rfl
  | false =>
   cases hs:QU0 v.start with
   | false=>rfl
   | true =>
    cases QU0 v.promise with
    | false=>rfl
    | true =>
     have:decide (v.promise<v.start)=decide (v.start > v.promise):=rfl
     rw [this]
     cases decide (v.start > v.promise) with
     | true=>rfl
     | false =>
      cases hl:QU0 v.limit with
      | false=>rfl
      | true =>
       unfold QU0 at hs hl
       simp only [Bool.and_eq_true,decide_eq_true_eq] at hs hl
       have q1:w64 (v.limit - v.start)=v.limit - v.start:=wr (by omega)
       have q2:w64 (v.start+QM1 v.shape v.choice)=v.start+QM1 v.shape v.choice:=wr (by omega)
       rw [q1,q2]
       have:(v.limit - v.start != QM1 v.shape v.choice)=(v.limit != v.start+QM1 v.shape v.choice):=by
        rw [Bool.eq_iff_iff]
        simp only [bne_iff_ne]
        omega
       rw [this]
theorem over_eq {v:Job} (h1:(v.state==1)=false) (h2:(v.state==2)=false):(Qb8 v.state&&QL4 v)=Qj1 v:=by
 unfold Qj1
 rw [h1,h2]
 have et:Q54=QU0:=rfl
 have ee:Qb8=Qn6:=rfl
 unfold QL4
 rw [et,ee]
 simp only [cond_false,Bool.and_assoc]
theorem ref14_go (j:Job):∀ (l:List Dep) (i:Nat),QF3 j l i=bif l.any (fun y=>decide (y.job >= j.id)) then 140 else (bif !(Qj1 j) then 140 else 0)
 | [],i=>rfl
 | x :: r,i=>by
  rw [QF3,List.any_cons]
  cases decide (x.job >= j.id) with
  | true=>rfl
  | false=>simpa using ref14_go j r (i+1)
theorem QLd (j:Job) (hn:U64 j.nodes):QW2 j=Qt0 j:=by
 unfold QW2 Qt0
 rw [ref14_go,any_Dep]
 have es:Qn7 (QY1 j)=Qk4 ⟨1,0,j.name,j.user,j.account,j.shape,j.prio,true,0,false,j.after,0,0,0⟩:=submission_eq _ _ _ _ _ _
 rw [es]
 have et:Q54=QU0:=rfl
 rw [et]
 have eu:(j.used != Qa6 j.used)=(decide (j.used<0)||decide (j.used > 1000000000000)):=by
  unfold Qa6 QI3
  grind
 rw [eu]
 have est:(bif (j.state==1) then (bif (!(QG2 j)) then (140:Int) else 0) else bif (j.state==2) then (bif (!(QV3 j)) then 140 else 0) else bif (!(Qb8 j.state)) then 140 else bif (!(QL4 j)) then 140 else 0)=(bif !(Qj1 j) then 140 else 0):=by
  cases h1:(j.state==1) with
  | true =>
   rw [queued_eq (by simpa using h1)]
   rfl
  | false =>
   cases h2:(j.state==2) with
   | true =>
    rw [running_eq (by simpa using h2) hn]
    rfl
   | false =>
    rw [← over_eq h1 h2]
    cases Qb8 j.state <;> cases QL4 j <;> rfl
 rw [est]
 generalize (bif !(Qj1 j) then (140:Int) else 0)=Z
 generalize (List.any j.after fun y=>decide (y.job >= j.id))=A
 generalize ((Qk4 ⟨1,0,j.name,j.user,j.account,j.shape,j.prio,true,0,false,j.after,0,0,0⟩)!=0)=B
 generalize decide (j.id<1)=C
 generalize decide (j.id > 99999)=D
 generalize QU0 j.born=E
 generalize decide (j.used<0)=F
 generalize decide (j.used > 1000000000000)=G
 cases A <;> cases B <;> cases C <;> cases D <;> cases E <;> cases F <;> cases G <;> rfl
theorem QH8 (l:List Job) (hl:l.length<=4294967296) (hn:∀ x ∈ l,U64 x.nodes):QG0 l=Qk1 l:=by
 have h:=ord_eq Job.zero (·.id) (fun x=>QW2 x != 0) 140 40 l hl (Qi5 l) QG3 (fun _=>rfl) (fun _ _ _ _=>rfl) (fun _ _=>rfl) (fun x hx r last i _=>by
   rw [QG3,QLd x (hn x hx)]
   rfl) (fun x hx=>(Q5d (by simpa using hx)).1) l 0 0 (by simp) (by omega) (by omega) (fun _=>rfl) (fun h=>absurd h (by omega))
 unfold QG0 Qk1
 rw [← h]
 have e:decide ((l.length:Int) > 40)=decide (l.length > 40):=by rw [Bool.eq_iff_iff];simp only [decide_eq_true_eq];omega
 rw [e]
end Go.Proofs.YtjpgfmbccohngaaGreatDoor
namespace Go.Proofs.YtjpgfmbccohngaaGreatDoor
set_option linter.unusedSimpArgs false
set_option linter.unusedVariables false
open Go.Fw
end Go.Proofs.YtjpgfmbccohngaaGreatDoor
namespace Go.Proofs.YtjpgfmbccohngaaGreatDoor
set_option linter.unusedSimpArgs false
set_option linter.unusedVariables false
open Go.Fw
end Go.Proofs.YtjpgfmbccohngaaGreatDoor
namespace Go.Proofs.YtjpgfmbccohngaaGreatDoor
set_option linter.unusedSimpArgs false
set_option linter.unusedVariables false
open Go.Fw
theorem QR1 {α:Type} (d:α) {p:List α} {i:Nat} {x:α} {r:List α} (h:p.drop i=x :: r):p.getD i d=x∧p.drop (i+1)=r:=by
 have h1:p[i]? = some x:=by
  have:(p.drop i)[0]? = some x:=by rw [h];rfl
  simpa using this
 have h2:p.drop (i+1)=r:=by
  have:(p.drop i).drop 1=r:=by rw [h];rfl
  rwa [List.drop_drop] at this
 exact ⟨by simp [List.getD,h1],h2⟩
end Go.Proofs.YtjpgfmbccohngaaGreatDoor
namespace Go.Proofs.YtjpgfmbccohngaaGreatDoor
set_option linter.unusedSimpArgs false
set_option linter.unusedVariables false
open Go.Fw
end Go.Proofs.YtjpgfmbccohngaaGreatDoor
namespace Go.Proofs.YtjpgfmbccohngaaGreatDoor
set_option linter.unusedSimpArgs false
set_option linter.unusedVariables false
open Go.Fw
theorem QEf (id:Int):∀ (l:List Job) (i:Nat),(∀ x ∈ l,x.id ≠ id)->QL2 id l i = -1
 | [],_,_=>rfl
 | x :: r,i,h=>by
  rw [QL2,show (x.id==id)=false by simpa using h x (List.mem_cons_self ..)]
  exact QEf id r (i+1) fun y hy=>h y (List.mem_cons_of_mem _ hy)
theorem QFf (x:Job):∀ (l:List Job) (i:Nat),x ∈ l->l.Pairwise (fun a b=>a.id<b.id) -> ∃ k:Nat,l[k]? = some x∧QL2 x.id l i=((i+k:Nat):Int)
 | [],_,h,_=>absurd h List.not_mem_nil
 | y :: r,i,h,hp=>by
  rw [List.pairwise_cons] at hp
  rw [QL2]
  rcases List.mem_cons.1 h with rfl|hm
  ·exact ⟨0,rfl,by simp⟩
  ·rw [show (y.id==x.id)=false by have:=hp.1 x hm;simp;omega]
   obtain ⟨k,hk,e⟩:=QFf x r (i+1) hm hp.2
   exact ⟨k+1,hk,by rw [cond_false,e];congr 1;omega⟩
end Go.Proofs.YtjpgfmbccohngaaGreatDoor
namespace Go.Proofs.YtjpgfmbccohngaaGreatDoor
set_option linter.unusedSimpArgs false
set_option linter.unusedVariables false
open Go.Fw
end Go.Proofs.YtjpgfmbccohngaaGreatDoor
namespace Go.Proofs.YtjpgfmbccohngaaGreatDoor
set_option linter.unusedSimpArgs false
set_option linter.unusedVariables false
open Go.Fw
end Go.Proofs.YtjpgfmbccohngaaGreatDoor
namespace Go.Proofs.YtjpgfmbccohngaaGreatDoor
set_option linter.unusedSimpArgs false
set_option linter.unusedVariables false
open Go.Fw
end Go.Proofs.YtjpgfmbccohngaaGreatDoor
namespace Go.Proofs.YtjpgfmbccohngaaGreatDoor
set_option linter.unusedSimpArgs false
set_option linter.unusedVariables false
open Go.Fw
end Go.Proofs.YtjpgfmbccohngaaGreatDoor
namespace Go.Proofs.YtjpgfmbccohngaaGreatDoor
set_option linter.unusedSimpArgs false
set_option linter.unusedVariables false
open Go.Fw
end Go.Proofs.YtjpgfmbccohngaaGreatDoor
namespace Go.Proofs.YtjpgfmbccohngaaGreatDoor
set_option linter.unusedSimpArgs false
set_option linter.unusedVariables false
open Go.Fw
end Go.Proofs.YtjpgfmbccohngaaGreatDoor
namespace Go.Proofs.YtjpgfmbccohngaaGreatDoor
set_option linter.unusedSimpArgs false
set_option linter.unusedVariables false
open Go.Fw
end Go.Proofs.YtjpgfmbccohngaaGreatDoor
namespace Go.Proofs.YtjpgfmbccohngaaGreatDoor
set_option linter.unusedSimpArgs false
set_option linter.unusedVariables false
open Go.Fw
end Go.Proofs.YtjpgfmbccohngaaGreatDoor
namespace Go.Proofs.YtjpgfmbccohngaaGreatDoor
set_option linter.unusedSimpArgs false
set_option linter.unusedVariables false
open Go.Fw
theorem Qy9 {j:Job} (hc:Qt0 j=0) (h1:j.state=1):(j.promise = -1∨(0<=j.promise∧j.promise<=1000000∧j.held=false))∧j.start=0∧j.limit=0∧j.nodes=0:=by
 have hs:=Q13 (j:=j) (by rw [hc];rfl)
 rw [Qj1,show (j.state==1)=true by simpa using h1] at hs
 simp only [cond_true] at hs
 cases hq:(((j.start != 0)||(j.limit != 0))||(j.nodes != 0)) with
 | true=>rw [hq] at hs;cases hs
 | false =>
  rw [hq] at hs
  simp only [Bool.or_eq_false_iff,bne_eq_false_iff_eq] at hq
  refine ⟨?_,hq.1.1,hq.1.2,hq.2⟩
  cases hp:(j.promise==(-1)) with
  | true=>exact .inl (by simpa using hp)
  | false =>
   rw [hp] at hs
   simp [QU0] at hs
   exact .inr ⟨by omega,by omega,hs.2⟩
end Go.Proofs.YtjpgfmbccohngaaGreatDoor
namespace Go.Proofs.YtjpgfmbccohngaaGreatDoor
set_option linter.unusedSimpArgs false
set_option linter.unusedVariables false
open Go.Fw
end Go.Proofs.YtjpgfmbccohngaaGreatDoor
namespace Go.Proofs.YtjpgfmbccohngaaGreatDoor
set_option linter.unusedSimpArgs false
set_option linter.unusedVariables false
open Go.Fw
theorem Q0h (b:List Int):∀ (l:List Int) (i:Nat),b.drop i=l->QD4 b l i=true
 | [],_,_=>rfl
 | x :: r,i,h=>by
  obtain ⟨h1,h2⟩:=QR1 0 h
  rw [QD4,h1,Q0h b r (i+1) h2]
  simp
theorem sameInts_refl (a:List Int):Q76 a a=true:=by
 unfold Q76
 rw [show ((a.length:Int)!=(a.length:Int))=false by simp]
 exact Q0h a a 0 rfl
theorem pm {p:Int} (h:p = -1∨0<=p):decide (p >= 0) = !(p==(-1))∧decide (p<0)=(p==(-1)):=by
 rcases h with rfl|h
 ·exact ⟨rfl,rfl⟩
 ·rw [decide_eq_true (show p >= 0 from h),decide_eq_false (show ¬ p<0 by omega),show (p==(-1))=false from beq_eq_false_iff_ne.2 (by omega)]
  exact ⟨rfl,rfl⟩
theorem waits {j:Job} (hc:Qt0 j=0) (h1:j.state=1):j.promise = -1∨0<=j.promise:=(Qy9 hc h1).1.imp id fun h=>h.1
theorem later_go {now:List Job} (ht:QG0 now=0) (hn:∀ x ∈ now,Qt0 x=0):∀ (r:List Job) (out:List Int) (i:Nat),(∀ x ∈ r,Qt0 x=0)->QI1 now r out i=(Q42 now r out i).1
 | [],_,_,_=>rfl
 | x :: r,out,i,h=>by
  have hr:=fun y hy=>h y (List.mem_cons_of_mem _ hy)
  have hx:=h x (List.mem_cons_self ..)
  obtain ⟨_,_,hp⟩:=Qt4 ht
  rw [QI1,Q42,later_go ht hn r out (i+1) hr,later_go ht hn r _ (i+1) hr]
  by_cases hy:∃ y ∈ now,y.id=x.id
  ·obtain ⟨y,hy,e⟩:=hy
   obtain ⟨k,hk,ha⟩:=QFf y now 0 hy hp
   have hat:QU1 now x.id=(k:Int):=by rw [← e,QU1,ha,Nat.zero_add]
   have hf:Qy0 now x.id=(y,true):=by rw [← e];exact QW5 ht hk
   have hg:now.getD k Job.zero=y:=by simp [List.getD_eq_getElem?_getD,hk]
   rw [hf,hat,Int.toNat_natCast,hg,decide_eq_false (by omega:¬ (k:Int)<0)]
   by_cases h1:x.state=1
   ·by_cases h2:y.state=1
    ·rw [h1,h2,(pm (waits hx h1)).1,(pm (waits (hn y hy) h2)).2]
     cases (x.promise==(-1)) <;> cases (y.promise==(-1)) <;> cases (decide (y.promise > x.promise)) <;> rfl
    ·rw [show (y.state==1)=false from beq_eq_false_iff_ne.2 h2,show (y.state != 1)=true from bne_iff_ne.2 h2]
     simp
   ·rw [show (x.state==1)=false from beq_eq_false_iff_ne.2 h1,show (x.state != 1)=true from bne_iff_ne.2 h1]
    simp
  ·have hno:∀ y ∈ now,y.id ≠ x.id:=fun y h e=>hy ⟨y,h,e⟩
   have hat:QU1 now x.id = -1:=QEf x.id now 0 hno
   rw [hat,Q4c ht x.id hno]
   rfl
theorem later_eq {was now:List Job} (hw:was.length<=4294967296) (hn:now.length<=4294967296) (uw:∀ x ∈ was,U64 x.nodes) (un:∀ x ∈ now,U64 x.nodes):Qw1 was now=QE5 was now:=by
 unfold Qw1 QE5 QS2 QH3
 rw [QH8 was hw uw,QH8 now hn un]
 cases hc:(((Qk1 was)!=0)||((Qk1 now)!=0)) with
 | true=>rfl
 | false =>
  simp only [Bool.or_eq_false_iff,bne_eq_false_iff_eq] at hc
  have tn:QG0 now=0:=by rw [QH8 now hn un];exact hc.2
  have tw:QG0 was=0:=by rw [QH8 was hw uw];exact hc.1
  obtain ⟨_,j1,_⟩:=Qt4 tn
  obtain ⟨_,j2,_⟩:=Qt4 tw
  exact later_go tn (fun x hx=>by rw [← QLd x (un x hx)];exact j1 x hx) was [] 0 fun x hx=>by rw [← QLd x (uw x hx)];exact j2 x hx
theorem Qtd {was now:List Job} (uw:∀ x ∈ was,U64 x.nodes) (un:∀ x ∈ now,U64 x.nodes) (ha:QB0=true):Qk5 was now=true:=by
 unfold Qk5
 rw [ha]
 cases hf:((!(Q16 was))||(!(Q16 now))) with
 | true=>rfl
 | false =>
  simp only [Bool.or_eq_false_iff,Bool.not_eq_false'] at hf
  rw [later_eq (QI0 hf.1).1 (QI0 hf.2).1 uw un,sameInts_refl]
  rfl
end Go.Proofs.YtjpgfmbccohngaaGreatDoor
namespace Go.Proofs.YtjpgfmbccohngaaGreatDoor
set_option linter.unusedSimpArgs false
set_option linter.unusedVariables false
open Go.Fw
theorem QN7:QB0=true:=by kernel_rfl
end Go.Proofs.YtjpgfmbccohngaaGreatDoor
namespace Go.Fw
set_option linter.unusedSimpArgs false
set_option linter.unusedVariables false
open Go.RowKit Go.ChangeShapes Go.WideShapes Go.Deep
theorem QI6 {C:Checked} {os:Os} {f:FuncId} {fn:Func} {s:ChangeSpec} {laid0:List (String × DataW Unit)} {conds:List PathCond} {apart fresh handsOn again:Bool} {H:Type} {enc:TypeId × Value->H} {Q:List AVal->Prop} {tb:TypeId}
  (own:ownKnob C.prog.godebug=none) (started:os.Started) (noInit:C.prog.inits.idxOf? f=none) (hfn:C.prog.funcs[f]? = some fn)
  (witness:∃ (w:World) (tape:Tape) (i:Input),w.os=os∧(w.forCall tape i).Shaped C.prog∧i.vars=[]∧Input.okWide C.prog (w.forCall tape i) .any w.heap.size f i ∧
   ((s.pre enc C.prog fn conds apart (w.forCall tape i).memory i.args∧laidMetH C.prog laid0 (w.forCall tape i).memory)∧sizedMet enc C.prog fn (OpenSpec.ofChange s) apart (w.forCall tape i).memory i.args)∧({}:Assume).holds C.prog (lone (Frame.enter C.prog f i.args .normal) [] (w.forCall tape i)))
  (hvars:s.vars=[]) (hres:fn.resultTypes = #[tb]) (hbool:C.prog.underlying tb=some .bool) (laid:laidOutB C.prog=true)
  (hts:fn.params.toList.all (fun t=>C.prog.readableRec t&&decide (t<C.prog.types.size))=true)
  (hspec:∀ ds:List (DataW H),ds.length=fn.params.size->s.fn H ds={ results:=[.lit (.bool true)],args:=ds })
  (hargs:ArgsAs C.prog fn.params.toList Q) (hlaw:∀ l,Q l->AGives C.prog f l [] (.lit (.bool true))) :
  ReturnsInHanded {} C os f .any (fun w args=>(s.pre enc C.prog fn conds apart w args∧laidMetH C.prog laid0 w)∧sizedMet enc C.prog fn (OpenSpec.ofChange s) apart w args) (s.post enc C.prog fn apart fresh handsOn again):=by
 refine returnsInHanded_of_change_and (X:=fun w _=>laidMetH C.prog laid0 w) (fun _ _ _ hh h=>h.of_heap hh) own started noInit hfn witness ?_
 intro W base args ds gs before hval hW hcnd _ _ _
 have hW':=hW
 obtain ⟨p,q,hA,hV,hpq,hfz,hnd⟩:=hW
 rw [hvars] at hV
 obtain ⟨rfl,rfl⟩:=trodVars_none hV
 rw [List.append_nil] at hpq
 subst hpq
 obtain ⟨l,hQ,hreps⟩:=hargs.read (base:=base) (vs:=args.toList) (fun j t v hj hv=>hval j t v (by simpa using hj) (by simpa using hv)) hA
 have hc:=law_calls (hlaw l hQ) hreps
 rw [show args.toList.toArray=args by simp] at hc
 refine hc.mono fun e W' ⟨he,hb⟩=>?_
 subst he
 have hlen:ds.length=fn.params.size:=by
  have:∀ {ts:List TypeId} {vs:List Value} {ds:List (DataW H)} {ps:List MemPlace},DataW.TrodAll enc C.prog W 0 (fun _=>true) true ts vs ds ps->ds.length=ts.length:=by
   intro ts
   induction ts with
   | nil=>intro vs ds ps h;obtain ⟨rfl,rfl,rfl⟩:=trodAll_nil h;rfl
   | cons t ts ih=>intro vs ds ps h;obtain ⟨v,vs',d,ds',p,q,rfl,rfl,rfl,hd,hrest⟩:=trodAll_cons h;simp [ih hrest]
  simpa using this hA
 have hfn2:=hspec ds hlen
 have hold:∀ p ∈ before,p.block<W.heap.size:=fun p hp=>by simpa using hW'.lt p hp
 have hR:∀ (b:Nat) (sp:Nat->Bool) (hd:Bool),DataW.TrodAll enc C.prog W' b sp hd fn.resultTypes.toList ((Value.bool true).resultList fn.resultTypes.size) (s.fn H (ds++[])).results []:=by
  intro b sp hd
  rw [List.append_nil,hfn2,hres]
  exact trodAll_cons_mk (shut_bool hbool _) trodAll_mk0
 have hAr:∀ sp:Nat->Bool,(∀ p ∈ before,sp p.block=true)->DataW.TrodAll enc C.prog W' 0 sp true fn.params.toList args.toList (s.fn H (ds++[])).args before:=by
  intro sp hsp
  rw [List.append_nil,hfn2]
  exact QUc laid hb hts hA hold hsp
 have hVr:∀ sp:Nat->Bool,DataW.TrodVars enc C.prog W' sp s.vars (s.fn H (ds++[])).vars []:=by
  intro sp
  rw [List.append_nil,hfn2,hvars]
  rfl
 refine ⟨_,rfl,ds,[],before,[],before,[],hW',hR _ _ _,hAr _ (fun p hp=>by simpa using hold p hp),hVr _,hb.frame _,fun _=>⟨ok_one hres rfl (okWide_bool_mk hbool _),_,_,([]++before)++[],⟨[]++before,[],trodAll_append (hAr _ (fun _ _=>rfl)) (hR _ _ _),hVr _,rfl,?_,?_⟩,?_⟩⟩
 ·intro b off hp
  have hp:MemPlace.cell b off ∈ before:=by simpa using hp
  rw [hb.frozen (p:=⟨b,off,none⟩) (hold _ hp)]
  exact hfz b off (by simpa using hp)
 ·intro ha
  simpa using hnd ha
 ·intro p hp _
  simpa using hp
end Go.Fw
namespace Go.Proofs.YtjpgfmbccohngaaGreatDoor
set_option linter.unusedSimpArgs false
set_option linter.unusedVariables false
open Go.Fw
set_option maxRecDepth 100000
theorem ty3:Tryz.prog.underlying 33 = some (.int .u64):=by kernel_rfl
theorem ty2:Tryz.prog.underlying 9 = some (.string):=by kernel_rfl
theorem ty1:Tryz.prog.underlying 4 = some (.bool):=by kernel_rfl
theorem ty0:Tryz.prog.underlying 3 = some (.int .i64):=by kernel_rfl
def Alt.wf (x:Alt):Prop:=(Lit.int .i64 x.nodes).wf=true∧(Lit.int .i64 x.wall).wf=true∧True
theorem readAlt:ReadAs Tryz.prog 121 Alt.cells Alt.wf:=by
 have h:=ReadAs.struct (P:=Tryz.prog) (t:=121) rfl (by kernel_rfl) (.cons rfl (ReadAs.int ty0) (.cons rfl (ReadAs.int ty0) .nil))
 exact h.map (fun p=>(⟨p.1,p.2.1⟩:Alt)) (fun _=>rfl) (fun _ h=>h)
theorem readAlts:ReadAs Tryz.prog 29 (fun l=>[altL l]) fun l=>l.length<=maxLen ∧ ∀ a ∈ l,Alt.wf a :=
 ReadAs.slice Alt.zero rfl (by kernel_rfl) (by decide) readAlt (fun _=>rfl)
def Shape.wf (x:Shape):Prop:=(Lit.int .i64 x.kind).wf=true∧(x.alts.length<=maxLen ∧ ∀ a ∈ x.alts,Alt.wf a)∧(Lit.int .i64 x.min).wf=true∧(Lit.int .i64 x.max).wf=true∧(Lit.int .i64 x.wall).wf=true∧True
theorem readShape:ReadAs Tryz.prog 31 Shape.cells Shape.wf:=by
 have h:=ReadAs.struct (P:=Tryz.prog) (t:=31) rfl (by kernel_rfl) (.cons rfl (ReadAs.int ty0) (.cons rfl (readAlts) (.cons rfl (ReadAs.int ty0) (.cons rfl (ReadAs.int ty0) (.cons rfl (ReadAs.int ty0) .nil)))))
 exact h.map (fun p=>(⟨p.1,p.2.1,p.2.2.1,p.2.2.2.1,p.2.2.2.2.1⟩:Shape)) (fun _=>rfl) (fun _ h=>h)
def Dep.wf (x:Dep):Prop:=(Lit.int .i64 x.how).wf=true∧(Lit.int .i64 x.job).wf=true∧True
theorem readDep:ReadAs Tryz.prog 96 Dep.cells Dep.wf:=by
 have h:=ReadAs.struct (P:=Tryz.prog) (t:=96) rfl (by kernel_rfl) (.cons rfl (ReadAs.int ty0) (.cons rfl (ReadAs.int ty0) .nil))
 exact h.map (fun p=>(⟨p.1,p.2.1⟩:Dep)) (fun _=>rfl) (fun _ h=>h)
theorem readDeps:ReadAs Tryz.prog 32 (fun l=>[depL l]) fun l=>l.length<=maxLen ∧ ∀ a ∈ l,Dep.wf a :=
 ReadAs.slice Dep.zero rfl (by kernel_rfl) (by decide) readDep (fun _=>rfl)
def Job.wf (x:Job):Prop:=(Lit.int .i64 x.id).wf=true∧x.name.size<=maxLen∧x.user.size<=maxLen∧x.account.size<=maxLen∧Shape.wf x.shape∧(Lit.int .i64 x.prio).wf=true∧(x.after.length<=maxLen ∧ ∀ a ∈ x.after,Dep.wf a)∧(Lit.int .i64 x.state).wf=true∧True∧(Lit.int .i64 x.born).wf=true∧(Lit.int .i64 x.promise).wf=true∧(Lit.int .i64 x.choice).wf=true∧(Lit.int .i64 x.start).wf=true∧(Lit.int .i64 x.limit).wf=true∧(Lit.int .u64 x.nodes).wf=true∧(Lit.int .i64 x.used).wf=true∧True
theorem readJob:ReadAs Tryz.prog 35 Job.cells Job.wf:=by
 have h:=ReadAs.struct (P:=Tryz.prog) (t:=35) rfl (by kernel_rfl) (.cons rfl (ReadAs.int ty0) (.cons rfl (ReadAs.string ty2) (.cons rfl (ReadAs.string ty2) (.cons rfl (ReadAs.string ty2) (.cons rfl (readShape) (.cons rfl (ReadAs.int ty0) (.cons rfl (readDeps) (.cons rfl (ReadAs.int ty0) (.cons rfl (ReadAs.bool ty1) (.cons rfl (ReadAs.int ty0) (.cons rfl (ReadAs.int ty0) (.cons rfl (ReadAs.int ty0) (.cons rfl (ReadAs.int ty0) (.cons rfl (ReadAs.int ty0) (.cons rfl (ReadAs.int ty3) (.cons rfl (ReadAs.int ty0) .nil))))))))))))))))
 exact h.map (fun p=>(⟨p.1,p.2.1,p.2.2.1,p.2.2.2.1,p.2.2.2.2.1,p.2.2.2.2.2.1,p.2.2.2.2.2.2.1,p.2.2.2.2.2.2.2.1,p.2.2.2.2.2.2.2.2.1,p.2.2.2.2.2.2.2.2.2.1,p.2.2.2.2.2.2.2.2.2.2.1,p.2.2.2.2.2.2.2.2.2.2.2.1,p.2.2.2.2.2.2.2.2.2.2.2.2.1,p.2.2.2.2.2.2.2.2.2.2.2.2.2.1,p.2.2.2.2.2.2.2.2.2.2.2.2.2.2.1,p.2.2.2.2.2.2.2.2.2.2.2.2.2.2.2.1⟩:Job)) (fun _=>rfl) (fun _ h=>h)
theorem readJobs:ReadAs Tryz.prog 23 (fun l=>[jobL l]) fun l=>l.length<=maxLen ∧ ∀ a ∈ l,Job.wf a :=
 ReadAs.slice Job.zero rfl (by kernel_rfl) (by decide) readJob (fun _=>rfl)
end Go.Proofs.YtjpgfmbccohngaaGreatDoor
namespace Go.Proofs.YtjpgfmbccohngaaGreatDoor
set_option linter.unusedSimpArgs false
set_option linter.unusedVariables false
open Go.Fw
theorem Shape.wf_szM {x:Shape} (h:x.wf):x.szM:=h.2.1.1
theorem Job.wf_szM {x:Job} (h:x.wf):x.szM:=⟨h.2.1,h.2.2.1,h.2.2.2.1,Shape.wf_szM h.2.2.2.2.1,h.2.2.2.2.2.2.1.1⟩
end Go.Proofs.YtjpgfmbccohngaaGreatDoor
namespace Go.Proofs.YtjpgfmbccohngaaGreatDoor
set_option linter.unusedSimpArgs false
set_option linter.unusedVariables false
open Go.Fw
theorem wf_u64 {n:Int} (h:(Lit.int .u64 n).wf=true):U64 n:=by
 unfold Lit.wf at h
 simp only [Bool.and_eq_true,decide_eq_true_eq] at h
 have e1:IntKind.u64.min=0:=by decide
 have e2:IntKind.u64.max=18446744073709551615:=by decide
 rw [e1,e2] at h
 unfold U64
 omega
theorem Job.wf_u64 {x:Job} (h:x.wf):U64 x.nodes:=by
 unfold Job.wf at h
 exact Go.Proofs.YtjpgfmbccohngaaGreatDoor.wf_u64 h.2.2.2.2.2.2.2.2.2.2.2.2.2.2.1
end Go.Proofs.YtjpgfmbccohngaaGreatDoor
