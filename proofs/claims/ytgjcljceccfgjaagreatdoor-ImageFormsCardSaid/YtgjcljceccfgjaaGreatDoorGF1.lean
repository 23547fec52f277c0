/-
  Words as sets of bits: what and, or, and-not, a power, a sum of powers say of each bit. Program-independent; no condition but that a number is a word's.
  The program's and the document's sets of nodes: which bits they have. No condition beyond those that stand in each.
  How many bits a word has: the sum that is made in parallel is the number of its bits. Program-independent.
  What the program's and the document's 'same' say of states: that they are one and the same. No condition.
  Tables of jobs: what a table that may be is like; what the check of a state shows of its jobs. Conditions stand in each lemma.
  The program's checks and the document's are the same, first part: nodes, books, the ledger, shapes. Conditions stand in each lemma.
  The program's checks and the document's are the same, second part: the ledger, shapes and their options, names, what is waited for. Conditions stand in each lemma.
  The program's checks and the document's are the same, third part: how many nodes a set has. Conditions stand in each lemma.
  The program's checks and the document's are the same, fourth part: a shape's options, names, what is waited for. Conditions stand in each lemma.
  The program's checks and the document's are the same, fifth part: what is a word. Conditions stand in each lemma.
  The program's checks and the document's are the same, sixth part: a text is a word for the program if it is one for the document. Conditions stand in each lemma.
  The program's checks and the document's are the same, seventh part: a text is a word for the document if it is one for the program. Conditions stand in each lemma.
  The program's checks and the document's are the same, eighth part: submissions, jobs, tables of jobs, what a plan asks of a state. Condition: sets of nodes are words; texts and rows are of a size that a machine holds.
  The program's checks and the document's are the same, ninth part: sets of nodes as the document makes them; what runs; what is resized. Conditions stand in each lemma.
  The program's checks and the document's are the same, tenth part: one change of size. Conditions stand in each lemma.
  The program's checks and the document's are the same, eleventh part: a change of size may be for the program if it may be for the document. Conditions stand in each lemma.
  The program's checks and the document's are the same, twelfth part: what state may be. Condition: sets of nodes are words; texts and rows are of a size that a machine holds.
  The program's checks and the document's are the same, last part: what state may be; a job's nodes; its resize; a new state. Condition: sets of nodes are words; texts and rows are of a size that a machine holds.
  Numbers as bytes, and what stands at a place in bytes. No condition beyond those that stand in each.
  The layer of packed numbers and texts: what is laid is read, and what is read was laid; the document's and the program's are alike. No condition beyond those that stand in each.
  Readers: what each reads, and that it reads just what was laid; made of parts. No condition beyond those that stand in each.
  The parts of an image: nodes, shapes, jobs, resizes, reservations, the ledger: what is laid is read, and what is read was laid. No condition beyond those that stand in each.
  The image of a state: what is decoded was encoded, and what is encoded is decoded. No condition beyond those that stand in each.
  The document's reading of an image: what is laid is read; and its image is the program's. No condition beyond those that stand in each.
  The document's image: what it writes is the program's, what it reads is what was written; what it reads is of a size. No condition beyond those that stand in each.
  What a state that may be shows: all of it fits into its image. Conditions stand in each lemma.
  What the document reads of any bytes: of which size it is; its image's laws. Conditions stand in each lemma.
  The laws of images, as plain statements. Conditions stand in each lemma.
  Contracts of functions, printed by a program of this repo (wip/dec). No condition beyond those that stand in each.
  The same for a row that lists package variables: from a law's contract to the row's statement: the arguments are read, the law is called, they read as they did. Program-independent.
  How arguments are read: structs of the program, with what is known of them. No condition.
  What is read is of a size that a machine holds. No condition.
  What is read has words for sets. No condition.
-/
import Derived.Test.YtgjcljceccfgjaaGreatDoorG6
import Derived.Test.YtgjcljceccfgjaaGreatDoorG13
import Derived.Test.YtgjcljceccfgjaaGreatDoorG7
import Derived.Test.YtgjcljceccfgjaaGreatDoorProg
import Derived.LaidMore
import Derived.Stop.Joined
import Derived.JoinedOf
import Derived.Handed
import Derived.OpenShut
import Derived.KernelRfl
namespace Go.Fw
set_option linter.unusedSimpArgs false
set_option linter.unusedVariables false
end Go.Fw
namespace Go.Proofs.YtgjcljceccfgjaaGreatDoor
set_option linter.unusedSimpArgs false
set_option linter.unusedVariables false
open Go.Fw
end Go.Proofs.YtgjcljceccfgjaaGreatDoor
namespace Go.Fw
set_option linter.unusedSimpArgs false
set_option linter.unusedVariables false
end Go.Fw
namespace Go.Proofs.YtgjcljceccfgjaaGreatDoor
set_option linter.unusedSimpArgs false
set_option linter.unusedVariables false
open Go.Fw
end Go.Proofs.YtgjcljceccfgjaaGreatDoor
namespace Go.Proofs.YtgjcljceccfgjaaGreatDoor
set_option linter.unusedSimpArgs false
set_option linter.unusedVariables false
open Go.Fw
section
variable {s:State}
end
end Go.Proofs.YtgjcljceccfgjaaGreatDoor
namespace Go.Proofs.YtgjcljceccfgjaaGreatDoor
set_option linter.unusedSimpArgs false
set_option linter.unusedVariables false
open Go.Fw
end Go.Proofs.YtgjcljceccfgjaaGreatDoor
namespace Go.Proofs.YtgjcljceccfgjaaGreatDoor
set_option linter.unusedSimpArgs false
set_option linter.unusedVariables false
open Go.Fw
end Go.Proofs.YtgjcljceccfgjaaGreatDoor
namespace Go.Proofs.YtgjcljceccfgjaaGreatDoor
set_option linter.unusedSimpArgs false
set_option linter.unusedVariables false
open Go.Fw
end Go.Proofs.YtgjcljceccfgjaaGreatDoor
namespace Go.Proofs.YtgjcljceccfgjaaGreatDoor
set_option linter.unusedSimpArgs false
set_option linter.unusedVariables false
open Go.Fw
end Go.Proofs.YtgjcljceccfgjaaGreatDoor
namespace Go.Proofs.YtgjcljceccfgjaaGreatDoor
set_option linter.unusedSimpArgs false
set_option linter.unusedVariables false
open Go.Fw
end Go.Proofs.YtgjcljceccfgjaaGreatDoor
namespace Go.Proofs.YtgjcljceccfgjaaGreatDoor
set_option linter.unusedSimpArgs false
set_option linter.unusedVariables false
open Go.Fw
end Go.Proofs.YtgjcljceccfgjaaGreatDoor
namespace Go.Proofs.YtgjcljceccfgjaaGreatDoor
set_option linter.unusedSimpArgs false
set_option linter.unusedVariables false
open Go.Fw
section
variable (s:ByteArray)
end
end Go.Proofs.YtgjcljceccfgjaaGreatDoor
namespace Go.Proofs.YtgjcljceccfgjaaGreatDoor
set_option linter.unusedSimpArgs false
set_option linter.unusedVariables false
open Go.Fw
end Go.Proofs.YtgjcljceccfgjaaGreatDoor
namespace Go.Proofs.YtgjcljceccfgjaaGreatDoor
set_option linter.unusedSimpArgs false
set_option linter.unusedVariables false
open Go.Fw
end Go.Proofs.YtgjcljceccfgjaaGreatDoor
namespace Go.Proofs.YtgjcljceccfgjaaGreatDoor
set_option linter.unusedSimpArgs false
set_option linter.unusedVariables false
open Go.Fw
end Go.Proofs.YtgjcljceccfgjaaGreatDoor
namespace Go.Proofs.YtgjcljceccfgjaaGreatDoor
set_option linter.unusedSimpArgs false
set_option linter.unusedVariables false
open Go.Fw
section
variable (s:State) (r:Resize) (j:Job)
end
end Go.Proofs.YtgjcljceccfgjaaGreatDoor
namespace Go.Proofs.YtgjcljceccfgjaaGreatDoor
set_option linter.unusedSimpArgs false
set_option linter.unusedVariables false
open Go.Fw
section
variable (s:State)
end
end Go.Proofs.YtgjcljceccfgjaaGreatDoor
namespace Go.Proofs.YtgjcljceccfgjaaGreatDoor
set_option linter.unusedSimpArgs false
set_option linter.unusedVariables false
open Go.Fw
section
variable {s:State}
end
end Go.Proofs.YtgjcljceccfgjaaGreatDoor
namespace Go.Proofs.YtgjcljceccfgjaaGreatDoor
set_option linter.unusedSimpArgs false
set_option linter.unusedVariables false
open Go.Fw
def beB:Nat->Int->List Int
 | 0,_=>[]
 | k + 1, n => beB k (n / 256) ++ [n % 256]
def vl (l:List Int):Int:=l.foldl (fun a b=>a*256+b) 0
theorem QAb:∀ (k:Nat) (n:Int),(beB k n).length=k
 | 0,_=>rfl
 | k+1,n=>by simp [beB,QAb k]
theorem beB_in:∀ (k:Nat) (n:Int),Q31 (beB k n)
 | 0,_=>Q54
 | k+1,n=>Qz2 (beB_in k _) (QY5 (by omega) Q54)
theorem Qvg (l:List Int) (b:Int):vl (l++[b])=vl l*256+b:=by simp [vl]
theorem vl_beB:∀ (k:Nat) (n:Int),0<=n->n<256 ^ k->vl (beB k n)=n
 | 0,n,h,g=>by simp at g;simp [beB,vl];omega
 | k+1,n,h,g=>by
  rw [beB,Qvg,vl_beB k (n / 256) (by omega) (by rw [Int.pow_succ] at g;generalize (256:Int) ^ k=p at g ⊢;omega)]
  omega
theorem vl_in:∀ (k:Nat) (l:List Int),l.length=k->Q31 l->0<=vl l∧vl l<256 ^ k∧beB k (vl l)=l
 | 0,l,h,_=>by
  rw [List.length_eq_zero_iff] at h
  subst h
  exact ⟨by decide,by decide,rfl⟩
 | k+1,l,h,g=>by
  rcases List.eq_nil_or_concat l with e|⟨m,b,e⟩ <;> (try rw [List.concat_eq_append] at e)
  ·subst e;simp at h
  ·subst e
   have hm:m.length=k:=by simp at h;exact h
   obtain ⟨h1,h2,h3⟩:=vl_in k m hm (fun n hn=>g n (List.mem_append.2 (Or.inl hn)))
   have hb:=g b (by simp)
   rw [Qvg,beB,Int.pow_succ]
   have e1:(vl m*256+b) / 256=vl m:=by omega
   have e2 : (vl m * 256 + b) % 256 = b := by omega
   rw [e1,e2,h3]
   generalize (256:Int) ^ k=p at h2 ⊢
   exact ⟨by omega,by omega,rfl⟩
def At (s:ByteArray) (a:Int) (l:List Int) (b:Int):Prop:=∃ p q,Qi0 s=p++l++q∧a=(p.length:Int)∧b=((p.length+l.length:Nat):Int)
theorem At.app {s:ByteArray} {a b c:Int} {l m:List Int} (h:At s a l b) (g:At s b m c):At s a (l++m) c:=by
 obtain ⟨p,q,h1,h2,h3⟩:=h
 obtain ⟨p',q',g1,g2,g3⟩:=g
 have e:(p++l)++q=p'++(m++q'):=by rw [← h1,g1,List.append_assoc]
 have hl:(p++l).length=p'.length:=by rw [List.length_append];omega
 obtain ⟨e1,e2⟩:=List.append_inj e hl
 refine ⟨p,q',?_,h2,?_⟩
 ·rw [h1,e2];simp only [List.append_assoc]
 ·rw [List.length_append] at *;omega
theorem At.split {s:ByteArray} {a c:Int} {l m:List Int} (h:At s a (l++m) c):At s a l (a+l.length)∧At s (a+l.length) m c:=by
 obtain ⟨p,q,h1,h2,h3⟩:=h
 rw [List.length_append] at h3
 refine ⟨⟨p,m++q,?_,h2,by omega⟩,⟨p++l,q,?_,?_,?_⟩⟩
 ·rw [h1];simp only [List.append_assoc]
 ·rw [h1];simp only [List.append_assoc]
 ·rw [List.length_append];omega
 ·rw [List.length_append];omega
theorem At.nil {s:ByteArray} {a:Int} (h0:0<=a) (h1:a<=(s.size:Int)):At s a [] a:=by
 refine ⟨(Qi0 s).take a.toNat,(Qi0 s).drop a.toNat,by simp,?_,?_⟩ <;> simp [List.length_take,QJ0] <;> omega
theorem At.le {s:ByteArray} {a b:Int} {l:List Int} (h:At s a l b):0<=a∧b=a+l.length∧b<=(s.size:Int):=by
 obtain ⟨p,q,h1,h2,h3⟩:=h
 have:=congrArg List.length h1
 simp only [List.length_append,QJ0] at this
 omega
theorem At.all {s:ByteArray} {l:List Int} (h:At s 0 l (s.size:Int)):Qi0 s=l:=by
 obtain ⟨p,q,h1,h2,h3⟩:=h
 have:=congrArg List.length h1
 simp only [List.length_append,QJ0] at this
 have hp:p=[]:=List.length_eq_zero_iff.1 (by omega)
 have hq:q=[]:=List.length_eq_zero_iff.1 (by omega)
 rw [h1,hp,hq];simp
theorem At.isin {s:ByteArray} {a b:Int} {l:List Int} (h:At s a l b):Q31 l:=by
 obtain ⟨p,q,h1,h2,h3⟩:=h
 exact fun n hn=>Qm3 s n (by rw [h1];simp [hn])
theorem At.get {s:ByteArray} {a b:Int} {l:List Int} (h:At s a l b) {i:Nat} (hi:i<l.length):(Qi0 s)[(a+i).toNat]? = some l[i]:=by
 obtain ⟨p,q,h1,h2,h3⟩:=h
 rw [h1,List.append_assoc,List.getElem?_append_right (by omega),List.getElem?_append_left (by omega)]
 rw [show (a+i).toNat - p.length=i by omega]
 exact List.getElem?_eq_getElem hi
theorem At.of {s:ByteArray} {a:Int} {n:Nat} (h0:0<=a) (h1:a+n<=(s.size:Int)):At s a (((Qi0 s).drop a.toNat).take n) (a+n):=by
 have hl:(((Qi0 s).drop a.toNat).take n).length=n:=by rw [List.length_take,List.length_drop,QJ0];omega
 refine ⟨(Qi0 s).take a.toNat,((Qi0 s).drop a.toNat).drop n,?_,?_,?_⟩
 ·rw [List.append_assoc,List.take_append_drop,List.take_append_drop]
 ·rw [List.length_take,QJ0];omega
 ·rw [hl,List.length_take,QJ0];omega
theorem QZ6 {l:List Int} (h:Q31 l):Qi0 (QH1 l)=l:=by
 rw [Qq6]
 show (l.map fun n=>UInt8.ofNat n.toNat).map (fun b=>(b.toNat:Int))=l
 rw [List.map_map]
 conv=>rhs;rw [← List.map_id l]
 refine List.map_congr_left fun n hn=>?_
 have:=h n hn
 simp
 omega
theorem QY6 {s t:ByteArray} (h:Qi0 s=Qi0 t):s=t:=by
 have:=congrArg (fun l=>QH1 l) h
 have e:∀ s,QH1 (Qi0 s)=s:=by
  intro s
  rw [Qq6]
  cases s with
  | mk d =>
   congr 1
   show (List.map _ (List.map _ d.toList)).toArray=d
   rw [List.map_map]
   have:(fun n=>UInt8.ofNat (Int.toNat n)) ∘ (fun (b:UInt8)=>(b.toNat:Int))=id:=by
    funext b
    simp
   rw [this,List.map_id]
 simpa [e] using this
end Go.Proofs.YtgjcljceccfgjaaGreatDoor
namespace Go.Proofs.YtgjcljceccfgjaaGreatDoor
set_option linter.unusedSimpArgs false
set_option linter.unusedVariables false
open Go.Fw
def wide (k:Nat):Prop:=k=1∨k=2∨k=4∨k=8
theorem fits1 (n:Int):Qh2 n 1=(decide (n >= 0)&&decide (n<256)):=by
 have e:w64 (1*2 ^ (min (Int.toNat (w64 (8*1))) 64))=256:=by decide
 show (decide (n >= 0)&&decide (n<w64 (1*2 ^ (min (Int.toNat (w64 (8*1))) 64))))=_
 rw [e]
theorem fits2 (n:Int):Qh2 n 2=(decide (n >= 0)&&decide (n<65536)):=by
 have e:w64 (1*2 ^ (min (Int.toNat (w64 (8*2))) 64))=65536:=by decide
 show (decide (n >= 0)&&decide (n<w64 (1*2 ^ (min (Int.toNat (w64 (8*2))) 64))))=_
 rw [e]
theorem fits4 (n:Int):Qh2 n 4=(decide (n >= 0)&&decide (n<4294967296)):=by
 have e:w64 (1*2 ^ (min (Int.toNat (w64 (8*4))) 64))=4294967296:=by decide
 show (decide (n >= 0)&&decide (n<w64 (1*2 ^ (min (Int.toNat (w64 (8*4))) 64))))=_
 rw [e]
theorem fits8 (n:Int):Qh2 n 8=decide (n >= 0):=by simp [Qh2]
theorem Qwc {n:Int} {k:Nat} (hk:wide k) (hn:n<=9223372036854775807) (h:Qh2 n (k:Int)=true):0<=n∧n<256 ^ k:=by
 rcases hk with rfl|rfl|rfl|rfl
 ·have:=(fits1 n).symm.trans h
  simp at this
  omega
 ·have:=(fits2 n).symm.trans h
  simp at this
  omega
 ·have:=(fits4 n).symm.trans h
  simp at this
  omega
 ·have:=(fits8 n).symm.trans h
  simp at this
  omega
theorem Qz6 {n:Int} {k:Nat} (hk:wide k) (h0:0<=n) (h:n<256 ^ k):Qh2 n (k:Int)=true:=by
 rcases hk with rfl|rfl|rfl|rfl
 ·refine (fits1 n).trans ?_
  simp
  omega
 ·refine (fits2 n).trans ?_
  simp
  omega
 ·refine (fits4 n).trans ?_
  simp
  omega
 ·refine (fits8 n).trans ?_
  simp
  omega
theorem wu8_mod (n : Int) : wu8 n = n % 256 := by simp [IntKind.wrap, IntKind.bits, IntKind.signed]
theorem laid_go:∀ (k m:Nat) (n:Int) (c:List Int),k<m->k<=c.length->k<=8->(Qi3 m n ((k:Int) - 1) c).2.2=beB k n++c.drop k
 | 0,m+1,n,c,_,_,_=>by
  rw [Qi3,decide_eq_false (by omega)]
  simp [beB]
 | k+1,m+1,n,c,h1,h2,h3=>by
  rw [Qi3,decide_eq_true (by omega)]
  have e1:((k+1:Nat):Int) - 1=(k:Int):=by omega
  have e2:w64 ((k:Int) - 1)=(k:Int) - 1:=wr (by omega)
  have e3:Int.fdiv n (2 ^ (min (Int.toNat 8) 64))=n / 256:=Int.fdiv_eq_ediv_of_nonneg _ (by decide)
  rw [e1,e2,e3,cond_true,laid_go k m _ _ (by omega) (by rw [List.length_set];omega) (by omega),beB,wu8_mod,List.append_assoc]
  congr 1
  show (c.set k (n % 256)).drop k = (n % 256) :: c.drop (k + 1)
  rw [List.drop_eq_getElem_cons (by rw [List.length_set];omega),List.getElem_set_self,List.drop_set_of_lt (by omega)]
theorem QIb {k:Nat} (hk:k<=8) (n:Int):Qi0 (Q95 n (k:Int))=beB k n:=by
 have e2:w64 ((k:Int) - 1)=(k:Int) - 1:=wr (by omega)
 have e:=laid_go k ((Int.toNat ((k:Int) - 1+1))+1) n (List.replicate k 0) (by omega) (by simp) hk
 unfold Q95 Q96
 rw [e2,Int.toNat_natCast,e]
 simp only [List.drop_replicate,Nat.sub_self,List.replicate_zero,List.append_nil]
 exact QZ6 (beB_in k n)
theorem Qxg {k:Nat} (hk:wide k):k<=8:=by rcases hk with rfl|rfl|rfl|rfl <;> decide
theorem Qv9 {n:Int} {k:Nat} (hk:wide k) (h:Qh2 n (k:Int)=true):Qi0 (Ql1 n (k:Int)).1=beB k n:=by
 unfold Ql1
 rw [h]
 exact QIb (Qxg hk) n
theorem or_add {n b:Int} (h0:0<=n) (h1:n<72057594037927936) (h2:0<=b) (h3:b<=255):wu64 (BitVec.ofInt 64 (wu64 (n*2 ^ (min (Int.toNat 8) 64))) ||| BitVec.ofInt 64 (wu64 b)).toNat=n*256+b:=by
 have e0:(2:Int) ^ (min (Int.toNat 8) 64)=256:=by decide
 obtain ⟨p,rfl⟩:=Int.eq_ofNat_of_zero_le h0
 obtain ⟨q,rfl⟩:=Int.eq_ofNat_of_zero_le h2
 have e1:wu64 ((p:Int)*256)=((p*256:Nat):Int):=by simp only [IntKind.wrap,IntKind.bits,IntKind.signed];simp;omega
 have e2:wu64 (q:Int)=(q:Int):=by simp only [IntKind.wrap,IntKind.bits,IntKind.signed];simp;omega
 rw [e0,e1,e2,BitVec.ofInt_natCast,BitVec.ofInt_natCast,BitVec.toNat_or,BitVec.toNat_ofNat,BitVec.toNat_ofNat,Nat.mod_eq_of_lt (by omega),Nat.mod_eq_of_lt (by omega)]
 have e3:p*256 ||| q=p*256+q:=by
  rw [Nat.mul_comm]
  exact (Nat.two_pow_add_eq_or_of_lt (i:=8) (by omega) p).symm
 rw [e3]
 simp only [IntKind.wrap,IntKind.bits,IntKind.signed];simp;omega
theorem At.byte {s:ByteArray} {a b:Int} {l:List Int} (h:At s a l b) {i:Nat} (hi:i<l.length):((s.data.toList.getD (a+i).toNat 0).toNat:Int)=l[i]:=by
 have:=h.get hi
 unfold Qi0 at this
 rw [List.getElem?_map] at this
 rw [List.getD_eq_getElem?_getD]
 cases hs:s.data.toList[(a+i).toNat]? with
 | none=>rw [hs] at this;cases this
 | some v=>rw [hs] at this;simpa using this
theorem pow_le8 {i:Nat} (h:i<=7):(256:Int) ^ i<=72057594037927936:=by
 have:=Nat.pow_le_pow_right (n:=256) (by decide) h
 have e:((256 ^ i:Nat):Int)<=((256 ^ 7:Nat):Int):=by exact_mod_cast this
 rw [Int.natCast_pow] at e
 exact e
theorem vl_mono:∀ (q:List Int) (a:Int),0<=a->Q31 q->a<=q.foldl (fun a b=>a*256+b) a
 | [],a,_,_=>Int.le_refl a
 | x :: q,a,h,hb=>by
  have hx:=hb x (by simp)
  have:=vl_mono q (a*256+x) (by omega) (fun n hn=>hb n (by simp [hn]))
  show a<=q.foldl _ (a*256+x)
  omega
theorem Qwe {l:List Int} (hb:Q31 l) (i:Nat):0<=vl (l.take i)∧vl (l.take i)<256 ^ (l.take i).length∧vl (l.take i)<=vl l:=by
 have h1:=vl_in _ (l.take i) rfl (fun n hn=>hb n (List.mem_of_mem_take hn))
 refine ⟨h1.1,h1.2.1,?_⟩
 have h2:=vl_mono (l.drop i) (vl (l.take i)) h1.1 (fun n hn=>hb n (List.mem_of_mem_drop hn))
 conv=>rhs;rw [← List.take_append_drop i l]
 unfold vl
 rw [List.foldl_append]
 exact h2
theorem take_g1 {s:ByteArray} {a b:Int} {l:List Int} (h:At s a l b) (hz:s.size<=4294967296) (hk:l.length<=8):∀ (j m i:Nat),i+j=l.length->j<m->QX0 s a (l.length:Int) m (vl (l.take i)) i=vl l
 | 0,m+1,i,hi,_=>by
  rw [QX0,decide_eq_false (by omega),List.take_of_length_le (by omega)]
  rfl
 | j+1,m+1,i,hi,hm=>by
  have hle:=h.le
  have e1:w64 (a+(i:Int))=a+i:=wr (by omega)
  have hv:=Qwe h.isin i
  have hb:=h.isin l[i] (List.getElem_mem (by omega))
  have hl:(l.take i).length=i:=by rw [List.length_take];omega
  rw [hl] at hv
  have:=pow_le8 (i:=i) (by omega)
  rw [QX0,decide_eq_true (by omega),cond_true,e1,h.byte (by omega),or_add hv.1 (by omega) hb.1 hb.2,← Qvg,List.take_append_getElem]
  exact take_g1 h hz hk j m (i+1) (by omega) (by omega)
theorem take_back {s:ByteArray} {a b n:Int} {k:Nat} (hk:wide k) (hz:s.size<=4294967296) (h:At s a (beB k n) b) (h0:0<=n) (h1:n<256 ^ k) (h2:n<=9223372036854775807):Qc0 s a (k:Int)=(n,b,0):=by
 have hl:=QAb k n
 have hle:=h.le
 have hw:Qh4 s a=true:=by unfold Qh4;simp;omega
 have hf:Qh2 0 (k:Int)=true:=Qz6 hk (by omega) (Int.pow_pos (by decide))
 have h8:=Qxg hk
 have e1:w64 ((ByteArray.size s:Int) - a)=(ByteArray.size s:Int) - a:=wr (by omega)
 unfold Qc0
 rw [hw,hf,e1,decide_eq_false (by omega)]
 have hg:=take_g1 h hz (by omega) k (k+1) 0 (by omega) (by omega)
 rw [hl] at hg
 simp only [Bool.not_true,Bool.or_false,cond_false,Int.sub_zero,Int.toNat_natCast]
 show Qy1 a (k:Int) (QX0 s a (k:Int) (k+1) (vl ((beB k n).take 0)) 0)=_
 rw [hg,vl_beB k n h0 h1]
 unfold Qy1
 have e2:w64 n=n:=wr (by omega)
 have e3:w64 (a+(k:Int))=b:=by rw [show a+(k:Int)=b by omega];exact wr (by omega)
 rw [decide_eq_false (by omega),e2,e3]
 rfl
theorem take_forms {s:ByteArray} {a:Int} {k:Nat} (hk:wide k) (hz:s.size<=4294967296) (h:(Qc0 s a (k:Int)).2.2=0):0<=(Qc0 s a (k:Int)).1∧(Qc0 s a (k:Int)).1<256 ^ k∧(Qc0 s a (k:Int)).1<=9223372036854775807∧At s a (beB k (Qc0 s a (k:Int)).1) (Qc0 s a (k:Int)).2.1:=by
 have h8:=Qxg hk
 unfold Qc0 at h ⊢
 cases h1:((!(Qh4 s a))||(!(Qh2 0 (k:Int)))) with
 | true=>rw [h1] at h;exact absurd h (by simp)
 | false =>
  rw [h1] at h
  simp only [cond_false] at h ⊢
  have hin:0<=a∧a<=(ByteArray.size s:Int):=by simp [Qh4] at h1;omega
  have e1:w64 ((ByteArray.size s:Int) - a)=(ByteArray.size s:Int) - a:=wr (by omega)
  cases h2:decide ((w64 ((ByteArray.size s:Int) - a))<(k:Int)) with
  | true=>rw [h2] at h;exact absurd h (by simp)
  | false =>
   rw [h2] at h
   have h2':=of_decide_eq_false h2
   rw [e1] at h2'
   simp only [cond_false,Int.sub_zero,Int.toNat_natCast] at h ⊢
   have hat:=At.of (s:=s) (a:=a) (n:=k) hin.1 (by omega)
   have hl:(((Qi0 s).drop a.toNat).take k).length=k:=by have:=hat.le;omega
   generalize ((Qi0 s).drop a.toNat).take k=l at hat hl
   have hg:=take_g1 hat hz (by omega) k (k+1) 0 (by omega) (by omega)
   rw [hl] at hg
   have hg':QX0 s a (k:Int) (k+1) 0 0=vl l:=hg
   rw [hg'] at h ⊢
   have hv:=vl_in k l hl hat.isin
   unfold Qy1 at h ⊢
   cases h3:decide (vl l > 9223372036854775807) with
   | true=>rw [h3] at h;exact absurd h (by simp)
   | false =>
    have h3':=of_decide_eq_false h3
    have e2:w64 (vl l)=vl l:=wr (by omega)
    have e3:w64 (a+(k:Int))=a+k:=wr (by omega)
    simp only [cond_false,e2,e3]
    refine ⟨hv.1,hv.2.1,by omega,?_⟩
    rw [hv.2.2]
    exact hat
end Go.Proofs.YtgjcljceccfgjaaGreatDoor
namespace Go.Proofs.YtgjcljceccfgjaaGreatDoor
set_option linter.unusedSimpArgs false
set_option linter.unusedVariables false
open Go.Fw
structure Rd {α:Type} (f:ImageReader->α × ImageReader) (E:α->List Int) (ok:α->Prop):Prop where
 s:∀ r,r.s.size<=4294967296->(f r).2.s=r.s
 forms:∀ r,r.s.size<=4294967296->(f r).2.bad=false->r.bad=false∧ok (f r).1∧At r.s r.at_ (E (f r).1) (f r).2.at_
 back:∀ r x b,r.s.size<=4294967296->r.bad=false->ok x->At r.s r.at_ (E x) b->f r=(x,{ r with at_:=b })
def seqR {α β:Type} (f:ImageReader->α × ImageReader) (g:ImageReader->β × ImageReader):ImageReader->(α × β) × ImageReader:=fun r=>(((f r).1,(g (f r).2).1),(g (f r).2).2)
def mapR {α β:Type} (h:α->β) (f:ImageReader->α × ImageReader):ImageReader->β × ImageReader:=fun r=>(h (f r).1,(f r).2)
theorem Rd.seq {α β:Type} {f:ImageReader->α × ImageReader} {g:ImageReader->β × ImageReader} {E:α->List Int} {F:β->List Int} {p:α->Prop} {q:β->Prop} (hf:Rd f E p) (hg:Rd g F q):Rd (seqR f g) (fun x=>E x.1++F x.2) (fun x=>p x.1∧q x.2) where
 s r hz:=by
  have h1:=hf.s r hz
  exact (hg.s _ (by rw [h1];exact hz)).trans h1
 forms r hz h:=by
  have h1:=hf.s r hz
  obtain ⟨b1,b3,b4⟩:=hg.forms (f r).2 (by rw [h1];exact hz) h
  obtain ⟨a1,a3,a4⟩:=hf.forms r hz b1
  rw [h1] at b4
  exact ⟨a1,⟨a3,b3⟩,a4.app b4⟩
 back r x b hz hr hx h:=by
  obtain ⟨h1,h2⟩:=h.split
  have e1:=hf.back r x.1 _ hz hr hx.1 h1
  unfold seqR
  rw [e1]
  have e2:=hg.back { r with at_:=r.at_+(E x.1).length } x.2 b hz hr hx.2 h2
  rw [e2]
theorem Rd.map {α β:Type} {f:ImageReader->α × ImageReader} {E:α->List Int} {p:α->Prop} (hf:Rd f E p) (h:α->β) (k:β->α) (q:β->Prop) (F:β->List Int) (hk:∀ x,p x->k (h x)=x∧q (h x)) (hq:∀ y,q y->p (k y)∧h (k y)=y) (hF:∀ y,F y=E (k y)):Rd (mapR h f) F q where
 s r hz:=hf.s r hz
 forms r hz hb:=by
  obtain ⟨a1,a3,a4⟩:=hf.forms r hz hb
  refine ⟨a1,(hk _ a3).2,?_⟩
  show At r.s r.at_ (F (h (f r).1)) (f r).2.at_
  rw [hF,(hk _ a3).1]
  exact a4
 back r x b hz hr hx g:=by
  rw [hF] at g
  have e:=hf.back r (k x) b hz hr (hq x hx).1 g
  unfold mapR
  rw [e,(hq x hx).2]
theorem Q99 {k:Nat} (hk:wide k):Rd (fun r=>Q00 r (k:Int)) (fun n=>Qi0 (Ql1 n (k:Int)).1) (fun n=>n<=9223372036854775807∧Qh2 n (k:Int)=true) where
 s r _:=QQ2 r _
 forms r hz h:=by
  try dsimp only at h ⊢
  unfold Q00 at h ⊢
  cases hc:(r.bad||((Qc0 r.s r.at_ (k:Int)).2.2 != 0)) with
  | true=>rw [hc] at h;cases h
  | false =>
   simp only [cond_false]
   simp only [Bool.or_eq_false_iff,bne_eq_false_iff_eq] at hc
   obtain ⟨h0,h1,h2,h3⟩:=take_forms hk hz hc.2
   have hf:=Qz6 hk h0 h1
   refine ⟨hc.1,⟨h2,hf⟩,?_⟩
   rw [Qv9 hk hf]
   exact h3
 back r x b hz hr hx h:=by
  try dsimp only at h ⊢
  rw [Qv9 hk hx.2] at h
  obtain ⟨h0,h1⟩:=Qwc hk hx.1 hx.2
  have e:=take_back hk hz h h0 h1 hx.1
  unfold Q00
  rw [e,hr]
  rfl
theorem Q11 (s t:ByteArray):Qi0 (s++t)=Qi0 s++Qi0 t:=by
 unfold Qi0
 rw [ByteArray.data_append,Array.toList_append,List.map_append]
theorem Qn7 (s:ByteArray) (i j:Nat):Qi0 (s.extract i j)=((Qi0 s).take j).drop i:=by
 unfold Qi0
 rw [ByteArray.data_extract,Array.toList_extract,List.extract_eq_take_drop,List.map_take,List.map_drop]
 rw [List.drop_take]
theorem Qte {s:ByteArray} (h:s.size<=65535):Qi0 (QW2 s).1=beB 2 (s.size:Int)++Qi0 s:=by
 unfold QW2
 rw [decide_eq_false (by omega),cond_false]
 show Qi0 (Q95 (ByteArray.size s:Int) ((2:Nat):Int)++s)=_
 rw [Q11,QIb (by decide)]
theorem rd_text:Rd Q40 (fun s=>Qi0 (QW2 s).1) (fun s=>s.size<=65535) where
 s r _:=Q79 r
 forms r hz h:=by
  unfold Q40 at h ⊢
  cases hc:(r.bad||((Qg2 r.s r.at_).2.2 != 0)) with
  | true=>rw [hc] at h;cases h
  | false =>
   simp only [cond_false]
   simp only [Bool.or_eq_false_iff,bne_eq_false_iff_eq] at hc
   obtain ⟨hb,ht⟩:=hc
   refine ⟨hb,?_⟩
   unfold Qg2 at ht ⊢
   cases h1:((Qc0 r.s r.at_ 2).2.2 != 0) with
   | true =>
    rw [h1] at ht
    have ht':(Qc0 r.s r.at_ 2).2.2=0:=ht
    rw [ht'] at h1
    cases h1
   | false =>
    rw [h1] at ht
    simp only [cond_false] at ht ⊢
    have h1':(Qc0 r.s r.at_ ((2:Nat):Int)).2.2=0:=by simpa using h1
    obtain ⟨n0,n1,n2,n3⟩:=take_forms (Or.inr (Or.inl rfl)) hz h1'
    have hle:=n3.le
    change 0<=(Qc0 r.s r.at_ 2).1 at n0
    change (Qc0 r.s r.at_ 2).1<256 ^ 2 at n1
    change At r.s r.at_ (beB 2 (Qc0 r.s r.at_ 2).1) (Qc0 r.s r.at_ 2).2.1 at n3
    change _∧_∧(Qc0 r.s r.at_ 2).2.1<=_ at hle
    have hle3:=n3.le
    generalize (Qc0 r.s r.at_ 2).1=n at *
    generalize (Qc0 r.s r.at_ 2).2.1=p at *
    rw [QAb] at hle3
    have e1:w64 ((ByteArray.size r.s:Int) - p)=(ByteArray.size r.s:Int) - p:=wr (by omega)
    rw [e1] at ht ⊢
    cases h2:decide ((ByteArray.size r.s:Int) - p<n) with
    | true=>rw [h2] at ht;exact absurd ht (by simp)
    | false =>
     have h2':=of_decide_eq_false h2
     have e2:w64 (p+n)=p+n:=wr (by omega)
     simp only [cond_false,e2]
     have hat:=At.of (s:=r.s) (a:=p) (n:=n.toNat) (by omega) (by omega)
     have eb:Qi0 (r.s.extract (Int.toNat p) (Int.toNat (p+n)))=((Qi0 r.s).drop p.toNat).take n.toNat:=by
      rw [Qn7,List.drop_take,show Int.toNat (p+n) - Int.toNat p=n.toNat by omega]
     have es:(r.s.extract (Int.toNat p) (Int.toNat (p+n))).size=n.toNat:=by rw [ByteArray.size_extract];omega
     refine ⟨by omega,?_⟩
     rw [Qte (by omega),es,eb,show ((n.toNat:Nat):Int)=n by omega]
     refine n3.app ?_
     rw [show p+n=p+(n.toNat:Int) by omega]
     exact hat
 back r x b hz hr hx h:=by
  try dsimp only at h
  rw [Qte hx] at h
  obtain ⟨h1,h2⟩:=h.split
  have e:=take_back (k:=2) (Or.inr (Or.inl rfl)) hz h1 (by omega) (by omega) (by omega)
  change Qc0 r.s r.at_ 2=_ at e
  have hle:=h2.le
  rw [QJ0] at hle
  generalize r.at_+((beB 2 (x.size:Int)).length:Int)=p at *
  have ht:Qg2 r.s r.at_=(x,b,0):=by
   unfold Qg2
   rw [e]
   have e1:w64 ((ByteArray.size r.s:Int) - p)=(ByteArray.size r.s:Int) - p:=wr (by omega)
   have e2:w64 (p+(x.size:Int))=b:=by rw [hle.2.1];exact wr (by omega)
   simp only [bne_self_eq_false,cond_false,e1,e2]
   rw [decide_eq_false (by omega),cond_false]
   have ex:r.s.extract p.toNat b.toNat=x:=by
    refine QY6 ?_
    rw [Qn7,List.drop_take,show b.toNat - p.toNat=x.size by omega]
    obtain ⟨u,v,q1,q2,q3⟩:=h2
    rw [q1,show p.toNat=u.length by omega,List.append_assoc,List.drop_left,List.take_left' (QJ0 x)]
   rw [ex]
  unfold Q40
  rw [ht,hr]
  rfl
theorem rd_flag:Rd Qe0 (fun ok=>Qi0 (Ql1 (bif ok then 1 else 0) 1).1) (fun _=>True) where
 s r _:=Q69 r
 forms r hz h:=by
  unfold Qe0 at h ⊢
  try dsimp only at h ⊢
  simp only [Bool.or_eq_false_iff,decide_eq_false_iff_not] at h
  obtain ⟨h1,h2⟩:=h
  obtain ⟨a1,a2,a3⟩:=(Q99 (k:=1) (Or.inl rfl)).forms r hz h1
  try dsimp only at a2 a3
  change _∧Qh2 (Q00 r 1).1 1=true at a2
  change At r.s r.at_ (Qi0 (Ql1 (Q00 r 1).1 1).1) (Q00 r 1).2.at_ at a3
  refine ⟨a1,trivial,?_⟩
  have h0:=(Qwc (k:=1) (Or.inl rfl) a2.1 a2.2).1
  generalize (Q00 r 1).1=n at *
  have:n=0∨n=1:=by omega
  rcases this with rfl|rfl <;> exact a3
 back r x b hz hr _ h:=by
  have e:=(Q99 (k:=1) (Or.inl rfl)).back r (bif x then 1 else 0) b hz hr (by cases x <;> exact ⟨by decide,by decide⟩) h
  change Q00 r 1=_ at e
  unfold Qe0
  rw [e]
  cases x <;> simp [hr]
theorem rd_loop {α:Type} {f:ImageReader->α × ImageReader} {E:α->List Int} {p:α->Prop} (hf:Rd f E p) (G:Nat->List α->Int->ImageReader->List α × Int × ImageReader) (hG:∀ m out n c,G (m+1) out n c=bif ((decide (n > 0))&&(!c.bad)) then G m (out++[(f c).1]) (w64 (n - 1)) (f c).2 else (out,n,c)) :
  ∀ (m:Nat) (out:List α) (n:Int) (c:ImageReader),c.s.size<=4294967296->0<=n->n<=255->n.toNat<m->(G m out n c).2.2.s=c.s∧(0<=c.at_->c.at_<=(c.s.size:Int)->(G m out n c).2.2.bad=false->c.bad=false ∧ ∃ l,(G m out n c).1=out++l∧l.length=n.toNat∧(∀ x ∈ l,p x)∧At c.s c.at_ (l.map E).flatten (G m out n c).2.2.at_)
 | 0,_,_,_,_,_,_,h=>absurd h (by omega)
 | m+1,out,n,c,hz,h0,h1,hm=>by
  rw [hG]
  cases hc:((decide (n > 0))&&(!c.bad)) with
  | true =>
   simp only [Bool.and_eq_true,decide_eq_true_eq,Bool.not_eq_true'] at hc
   have e1:w64 (n - 1)=n - 1:=wr (by omega)
   have hs:=hf.s c hz
   rw [cond_true,e1]
   obtain ⟨i1,i2⟩:=rd_loop hf G hG m (out++[(f c).1]) (n - 1) (f c).2 (by rw [hs];exact hz) (by omega) (by omega) (by omega)
   refine ⟨i1.trans hs,fun a0 a1 hb=>?_⟩
   have hb1:(f c).2.bad=false:=by
    by_cases q:(f c).2.bad=false
    ·exact q
    ·exfalso
     have q':(f c).2.bad=true:=by simpa using q
     have:∀ m out n,m ≠ 0->(G m out n (f c).2).2.2.bad=true:=by
      intro m out n hm0
      obtain ⟨k,rfl⟩:∃ k,m=k+1:=⟨m - 1,by omega⟩
      rw [hG,q']
      simp [q']
     rw [this m _ _ (by omega)] at hb
     cases hb
   obtain ⟨b1,b2,b3⟩:=hf.forms c hz hb1
   have hle:=b3.le
   obtain ⟨_,l,l1,l2,l3,l4⟩:=i2 (by omega) (by rw [hs];omega) hb
   rw [hs] at l4
   refine ⟨hc.2,(f c).1 :: l,by rw [l1,List.append_assoc];rfl,by simp only [List.length_cons];omega,?_,?_⟩
   ·intro x hx
    rcases List.mem_cons.1 hx with rfl|hx
    ·exact b2
    ·exact l3 x hx
   ·rw [List.map_cons,List.flatten_cons]
    exact b3.app l4
  | false =>
   refine ⟨rfl,fun a0 a1 hb=>⟨hb,[],by simp,?_,fun x hx=>(nomatch hx),At.nil a0 a1⟩⟩
   simp only [Bool.and_eq_false_iff,decide_eq_false_iff_not,Bool.not_eq_false'] at hc
   simp only [cond_false] at hb
   rcases hc with hc|hc
   ·simp only [List.length_nil];omega
   ·rw [hc] at hb;cases hb
theorem QMe {α:Type} {f:ImageReader->α × ImageReader} {E:α->List Int} {p:α->Prop} (hf:Rd f E p) (G:Nat->List α->Int->ImageReader->List α × Int × ImageReader) (hG:∀ m out n c,G (m+1) out n c=bif ((decide (n > 0))&&(!c.bad)) then G m (out++[(f c).1]) (w64 (n - 1)) (f c).2 else (out,n,c)) :
  ∀ (l:List α) (m:Nat) (out:List α) (c:ImageReader) (b:Int),c.s.size<=4294967296->l.length<=255->l.length<m->c.bad=false->(∀ x ∈ l,p x)->At c.s c.at_ (l.map E).flatten b->G m out (l.length:Int) c=(out++l,0,{ c with at_:=b })
 | [],m+1,out,c,b,hz,_,_,hb,_,h=>by
  have:=h.le
  have e:b=c.at_:=by simp only [List.map_nil,List.flatten_nil,List.length_nil] at this;omega
  rw [hG,e]
  simp
 | x :: l,m+1,out,c,b,hz,h1,hm,hb,hp,h=>by
  rw [List.map_cons,List.flatten_cons] at h
  obtain ⟨g1,g2⟩:=h.split
  have e:=hf.back c x _ hz hb (hp x (by simp)) g1
  simp only [List.length_cons] at h1 hm ⊢
  have e1:w64 (((l.length+1:Nat):Int) - 1)=(l.length:Int):=by rw [show ((l.length+1:Nat):Int) - 1=(l.length:Int) by omega];exact wr (by omega)
  have hbc:(!c.bad)=true:=by simp [hb]
  rw [hG,e,e1,hbc,decide_eq_true (by omega)]
  simp only [Bool.and_true,cond_true]
  rw [QMe hf G hG l m (out++[x]) { c with at_:=c.at_+((E x).length:Int) } b hz (by omega) (by omega) hb (fun y hy=>hp y (by simp [hy])) g2,List.append_assoc]
  rfl
def Qm9 {α:Type} (G:Nat->List α->Int->ImageReader->List α × Int × ImageReader):ImageReader->List α × ImageReader:=fun r =>
 ((G ((Q00 r 1).1.toNat+1) [] (Q00 r 1).1 (Q00 r 1).2).1,(G ((Q00 r 1).1.toNat+1) [] (Q00 r 1).1 (Q00 r 1).2).2.2)
theorem Qza {α:Type} {f:ImageReader->α × ImageReader} {E:α->List Int} {p:α->Prop} (hf:Rd f E p) (G:Nat->List α->Int->ImageReader->List α × Int × ImageReader) (hG:∀ m out n c,G (m+1) out n c=bif ((decide (n > 0))&&(!c.bad)) then G m (out++[(f c).1]) (w64 (n - 1)) (f c).2 else (out,n,c)) :
  Rd (Qm9 G) (fun l=>Qi0 (Ql1 (l.length:Int) 1).1++(l.map E).flatten) (fun l=>l.length<=255 ∧ ∀ x ∈ l,p x) where
 s r hz:=by
  have h5:=Qb0 (α:=Nat) (r:=r) hz
  simp only [List.length_nil] at h5
  have hs:=QQ2 r 1
  exact (rd_loop hf G hG _ [] (Q00 r 1).1 (Q00 r 1).2 (by rw [hs];exact hz) h5.1 (by omega) (Nat.lt_succ_self _)).1.trans hs
 forms r hz h:=by
  have h5:=Qb0 (α:=Nat) (r:=r) hz
  simp only [List.length_nil] at h5
  have hs:=QQ2 r 1
  have hl:=(rd_loop hf G hG _ [] (Q00 r 1).1 (Q00 r 1).2 (by rw [hs];exact hz) h5.1 (by omega) (Nat.lt_succ_self _)).2
  have hb:(Q00 r 1).2.bad=false:=by
   by_cases q:(Q00 r 1).2.bad=false
   ·exact q
   ·exfalso
    have q':(Q00 r 1).2.bad=true:=by simpa using q
    have:(Qm9 G r).2.bad=true:=by
     unfold Qm9
     rw [hG,q']
     simp [q']
    rw [this] at h
    cases h
  obtain ⟨a1,a2,a3⟩:=(Q99 (k:=1) (Or.inl rfl)).forms r hz hb
  change At r.s r.at_ (Qi0 (Ql1 (Q00 r 1).1 1).1) (Q00 r 1).2.at_ at a3
  have hle:=a3.le
  obtain ⟨_,l,l1,l2,l3,l4⟩:=hl (by omega) (by rw [hs];omega) h
  rw [hs] at l4
  have e:(Qm9 G r).1=l:=l1
  rw [e]
  have en:(Q00 r 1).1=(l.length:Int):=by omega
  rw [en] at a3
  exact ⟨a1,⟨by omega,l3⟩,a3.app l4⟩
 back r x b hz hr hx h:=by
  obtain ⟨g1,g2⟩:=h.split
  have e:=(Q99 (k:=1) (Or.inl rfl)).back r (x.length:Int) _ hz hr ⟨by omega,Qz6 (Or.inl rfl) (by omega) (by have:=hx.1;omega)⟩ g1
  change Q00 r 1=_ at e
  have e2:=QMe hf G hG x (x.length+1) [] { r with at_:=r.at_+((Qi0 (Ql1 (x.length:Int) 1).1).length:Int) } b hz hx.1 (by omega) hr hx.2 g2
  unfold Qm9
  rw [e]
  simp only [Int.toNat_natCast]
  rw [e2]
  rfl
end Go.Proofs.YtgjcljceccfgjaaGreatDoor
namespace Go.Proofs.YtgjcljceccfgjaaGreatDoor
set_option linter.unusedSimpArgs false
set_option linter.unusedVariables false
open Go.Fw
abbrev EN (k:Nat) (n:Int):List Int:=Qi0 (Ql1 n (k:Int)).1
abbrev fitN (k:Nat) (n:Int):Prop:=n<=9223372036854775807∧Qh2 n (k:Int)=true
abbrev ET (s:ByteArray):List Int:=Qi0 (QW2 s).1
abbrev fitT (s:ByteArray):Prop:=s.size<=65535
abbrev EF (ok:Bool):List Int:=Qi0 (Ql1 (bif ok then 1 else 0) 1).1
abbrev rN (k:Nat):ImageReader->Int × ImageReader:=fun r=>Q00 r (k:Int)
theorem rd1:Rd (rN 1) (EN 1) (fitN 1):=Q99 (Or.inl rfl)
theorem rd4:Rd (rN 4) (EN 4) (fitN 4):=Q99 (Or.inr (Or.inr (Or.inl rfl)))
theorem rd8:Rd (rN 8) (EN 8) (fitN 8):=Q99 (Or.inr (Or.inr (Or.inr rfl)))
theorem rdW:Rd (mapR (fun n=>wu64 n) (rN 8)) (fun n=>EN 8 (w64 n)) (fun n=>0<=n∧n<=9223372036854775807) :=
 rd8.map (fun n=>wu64 n) (fun n=>w64 n) _ _
  (fun x hx=>by
   have h:=(Qwc (k:=8) (Or.inr (Or.inr (Or.inr rfl))) hx.1 hx.2).1
   have e:wu64 x=x:=by simp only [IntKind.wrap,IntKind.bits,IntKind.signed];simp;have:=hx.1;omega
   have e2:w64 x=x:=wr (by have:=hx.1;omega)
   rw [e,e2]
   exact ⟨rfl,h,hx.1⟩)
  (fun y hy=>by
   have e:wu64 y=y:=by simp only [IntKind.wrap,IntKind.bits,IntKind.signed];simp;omega
   have e2:w64 y=y:=wr (by omega)
   rw [e2,e]
   exact ⟨⟨hy.2,Qz6 (k:=8) (Or.inr (Or.inr (Or.inr rfl))) hy.1 (by omega)⟩,rfl⟩)
  (fun _=>rfl)
theorem rdP:Rd (mapR (fun n=>w64 (n - 1)) (rN 4)) (fun n=>EN 4 (w64 (n+1))) (fun n=>-1<=n∧n<4294967295) :=
 rd4.map (fun n=>w64 (n - 1)) (fun n=>w64 (n+1)) _ _
  (fun x hx=>by
   have h:=Qwc (k:=4) (Or.inr (Or.inr (Or.inl rfl))) hx.1 hx.2
   have e:w64 (x - 1)=x - 1:=wr (by omega)
   have e2:w64 (x - 1+1)=x:=by rw [Int.sub_add_cancel];exact wr (by omega)
   rw [e,e2]
   exact ⟨rfl,by omega,by omega⟩)
  (fun y hy=>by
   have e:w64 (y+1)=y+1:=wr (by omega)
   have e2:w64 (y+1 - 1)=y:=by rw [Int.add_sub_cancel];exact wr (by omega)
   rw [e,e2]
   exact ⟨⟨by omega,Qz6 (k:=4) (Or.inr (Or.inr (Or.inl rfl))) (by omega) (by omega)⟩,rfl⟩)
  (fun _=>rfl)
abbrev EAlt (a:Alt):List Int:=EN 1 a.nodes++EN 4 a.wall
abbrev fitAlt (a:Alt):Prop:=fitN 1 a.nodes∧fitN 4 a.wall
theorem rdAlt:Rd (mapR (fun p=>(⟨p.1,p.2⟩:Alt)) (seqR (rN 1) (rN 4))) EAlt fitAlt :=
 (rd1.seq rd4).map _ (fun a=>(a.nodes,a.wall)) _ _ (fun _ h=>⟨rfl,h⟩) (fun _ h=>⟨h,rfl⟩) (fun _=>rfl)
abbrev EDep (a:Dep):List Int:=EN 1 a.how++EN 4 a.job
abbrev fitDep (a:Dep):Prop:=fitN 1 a.how∧fitN 4 a.job
theorem rdDep:Rd (mapR (fun p=>(⟨p.1,p.2⟩:Dep)) (seqR (rN 1) (rN 4))) EDep fitDep :=
 (rd1.seq rd4).map _ (fun a=>(a.how,a.job)) _ _ (fun _ h=>⟨rfl,h⟩) (fun _ h=>⟨h,rfl⟩) (fun _=>rfl)
abbrev ENode (x:Node):List Int:=EN 1 x.state++(EN 4 x.job++(EN 4 x.epoch++(EF x.drain++(EN 1 x.want++(EN 4 x.since++EN 4 x.asked)))))
abbrev QWa (x:Node):Prop:=fitN 1 x.state∧fitN 4 x.job∧fitN 4 x.epoch∧True∧fitN 1 x.want∧fitN 4 x.since∧fitN 4 x.asked
theorem rdNode:Rd QK1 ENode QWa :=
 (rd1.seq (rd4.seq (rd4.seq (rd_flag.seq (rd1.seq (rd4.seq rd4)))))).map (fun p=>(⟨p.1,p.2.1,p.2.2.1,p.2.2.2.1,p.2.2.2.2.1,p.2.2.2.2.2.1,p.2.2.2.2.2.2⟩:Node)) (fun x=>(x.state,x.job,x.epoch,x.drain,x.want,x.since,x.asked)) _ _ (fun _ h=>⟨rfl,h⟩) (fun _ h=>⟨h,rfl⟩) (fun _=>rfl)
abbrev QP7 (x:Resize):List Int:=EN 4 x.job++(EF x.grow++(EN 8 (w64 x.nodes)++(EN 8 (w64 x.said)++EN 4 x.since)))
abbrev QS9 (x:Resize):Prop:=fitN 4 x.job∧True∧(0<=x.nodes∧x.nodes<=9223372036854775807)∧(0<=x.said∧x.said<=9223372036854775807)∧fitN 4 x.since
theorem rdResize:Rd Qj1 QP7 QS9 :=
 (rd4.seq (rd_flag.seq (rdW.seq (rdW.seq rd4)))).map (fun p=>(⟨p.1,p.2.1,p.2.2.1,p.2.2.2.1,p.2.2.2.2⟩:Resize)) (fun x=>(x.job,x.grow,x.nodes,x.said,x.since)) _ _ (fun _ h=>⟨rfl,h⟩) (fun _ h=>⟨h,rfl⟩) (fun _=>rfl)
abbrev EBook (x:Book):List Int:=EN 4 x.id++(EN 4 x.from_++(EN 4 x.to++EN 1 x.nodes))
abbrev Qoa (x:Book):Prop:=fitN 4 x.id∧fitN 4 x.from_∧fitN 4 x.to∧fitN 1 x.nodes
theorem rdBook:Rd QJ1 EBook Qoa :=
 (rd4.seq (rd4.seq (rd4.seq rd1))).map (fun p=>(⟨p.1,p.2.1,p.2.2.1,p.2.2.2⟩:Book)) (fun x=>(x.id,x.from_,x.to,x.nodes)) _ _ (fun _ h=>⟨rfl,h⟩) (fun _ h=>⟨h,rfl⟩) (fun _=>rfl)
abbrev QM9 (x:Usage):List Int:=ET x.user++(ET x.account++(EN 8 x.used++EN 8 x.share))
abbrev Qq9 (x:Usage):Prop:=fitT x.user∧fitT x.account∧fitN 8 x.used∧fitN 8 x.share
theorem rdUsage:Rd Qh1 QM9 Qq9 :=
 (rd_text.seq (rd_text.seq (rd8.seq rd8))).map (fun p=>(⟨p.1,p.2.1,p.2.2.1,p.2.2.2⟩:Usage)) (fun x=>(x.user,x.account,x.used,x.share)) _ _ (fun _ h=>⟨rfl,h⟩) (fun _ h=>⟨h,rfl⟩) (fun _=>rfl)
abbrev EL {α:Type} (E:α->List Int) (l:List α):List Int:=EN 1 (l.length:Int)++(l.map E).flatten
abbrev fitL {α:Type} (p:α->Prop) (l:List α):Prop:=l.length<=255 ∧ ∀ x ∈ l,p x
abbrev QYc (x:Shape):List Int:=EN 1 x.kind++(EL EAlt x.alts++(EN 1 x.min++(EN 1 x.max++EN 4 x.wall)))
abbrev fitShape (x:Shape):Prop:=fitN 1 x.kind∧fitL fitAlt x.alts∧fitN 1 x.min∧fitN 1 x.max∧fitN 4 x.wall
theorem rdShape:Rd Qj0 QYc fitShape :=
 (rd1.seq ((Qza rdAlt QS0 (fun _ _ _ _=>rfl)).seq (rd1.seq (rd1.seq rd4)))).map (fun p=>(⟨p.1,p.2.1,p.2.2.1,p.2.2.2.1,p.2.2.2.2⟩:Shape)) (fun x=>(x.kind,x.alts,x.min,x.max,x.wall)) _ _ (fun _ h=>⟨rfl,h⟩) (fun _ h=>⟨h,rfl⟩) (fun _=>rfl)
abbrev EJob (x:Job):List Int:=EN 4 x.id++(ET x.name++(ET x.user++(ET x.account++(QYc x.shape++(EN 1 x.prio++(EL EDep x.after++(EN 1 x.state++(EF x.held++(EN 4 x.born++(EN 4 (w64 (x.promise+1))++(EN 1 x.choice++(EN 4 x.start++(EN 4 x.limit++(EN 8 (w64 x.nodes)++EN 8 x.used))))))))))))))
abbrev Qdd (x:Job):Prop:=fitN 4 x.id∧fitT x.name∧fitT x.user∧fitT x.account∧fitShape x.shape∧fitN 1 x.prio∧fitL fitDep x.after∧fitN 1 x.state∧True∧fitN 4 x.born∧(-1<=x.promise∧x.promise<4294967295)∧fitN 1 x.choice∧fitN 4 x.start∧fitN 4 x.limit∧(0<=x.nodes∧x.nodes<=9223372036854775807)∧fitN 8 x.used
theorem rdJob:Rd Qx1 EJob Qdd :=
 (rd4.seq (rd_text.seq (rd_text.seq (rd_text.seq (rdShape.seq (rd1.seq ((Qza rdDep Q61 (fun _ _ _ _=>rfl)).seq (rd1.seq (rd_flag.seq (rd4.seq (rdP.seq (rd1.seq (rd4.seq (rd4.seq (rdW.seq rd8))))))))))))))).map (fun p=>(⟨p.1,p.2.1,p.2.2.1,p.2.2.2.1,p.2.2.2.2.1,p.2.2.2.2.2.1,p.2.2.2.2.2.2.1,p.2.2.2.2.2.2.2.1,p.2.2.2.2.2.2.2.2.1,p.2.2.2.2.2.2.2.2.2.1,p.2.2.2.2.2.2.2.2.2.2.1,p.2.2.2.2.2.2.2.2.2.2.2.1,p.2.2.2.2.2.2.2.2.2.2.2.2.1,p.2.2.2.2.2.2.2.2.2.2.2.2.2.1,p.2.2.2.2.2.2.2.2.2.2.2.2.2.2.1,p.2.2.2.2.2.2.2.2.2.2.2.2.2.2.2⟩:Job)) (fun x=>(x.id,x.name,x.user,x.account,x.shape,x.prio,x.after,x.state,x.held,x.born,x.promise,x.choice,x.start,x.limit,x.nodes,x.used)) _ _ (fun _ h=>⟨rfl,h⟩) (fun _ h=>⟨h,rfl⟩) (fun _=>rfl)
end Go.Proofs.YtgjcljceccfgjaaGreatDoor
namespace Go.Proofs.YtgjcljceccfgjaaGreatDoor
set_option linter.unusedSimpArgs false
set_option linter.unusedVariables false
open Go.Fw
abbrev Q3c (x:State):List Int:=EN 4 x.now++(EN 4 x.nextJob++(EN 4 x.nextBook++(EL ENode x.nodes++(EL EJob x.jobs++(EL QP7 x.resizes++(EL EBook x.books++EL QM9 x.ledger))))))
abbrev Qs6 (x:State):Prop:=fitN 4 x.now∧fitN 4 x.nextJob∧fitN 4 x.nextBook∧fitL QWa x.nodes∧fitL Qdd x.jobs∧fitL QS9 x.resizes∧fitL Qoa x.books∧fitL Qq9 x.ledger
def stP:ImageReader->(Int × Int × Int × List Node × List Job × List Resize × List Book × List Usage) × ImageReader :=
 seqR (rN 4) (seqR (rN 4) (seqR (rN 4) (seqR (Qm9 QD2) (seqR (Qm9 QE2) (seqR (Qm9 QF2) (seqR (Qm9 QG2) (Qm9 QH2)))))))
def toS (p:Int × Int × Int × List Node × List Job × List Resize × List Book × List Usage):State:=⟨p.1,p.2.2.2.1,p.2.2.2.2.1,p.2.2.2.2.2.1,p.2.2.2.2.2.2.1,p.2.2.2.2.2.2.2,p.2.1,p.2.2.1⟩
def ofS (x:State):Int × Int × Int × List Node × List Job × List Resize × List Book × List Usage:=(x.now,x.nextJob,x.nextBook,x.nodes,x.jobs,x.resizes,x.books,x.ledger)
def stR:ImageReader->State × ImageReader:=mapR toS stP
theorem rdP1:Rd (Qm9 QD2) (EL ENode) (fitL QWa):=Qza rdNode QD2 (fun _ _ _ _=>rfl)
theorem rdP2:Rd (Qm9 QE2) (EL EJob) (fitL Qdd):=Qza rdJob QE2 (fun _ _ _ _=>rfl)
theorem rdP3:Rd (Qm9 QF2) (EL QP7) (fitL QS9):=Qza rdResize QF2 (fun _ _ _ _=>rfl)
theorem rdP4:Rd (Qm9 QG2) (EL EBook) (fitL Qoa):=Qza rdBook QG2 (fun _ _ _ _=>rfl)
theorem rdP5:Rd (Qm9 QH2) (EL QM9) (fitL Qq9):=Qza rdUsage QH2 (fun _ _ _ _=>rfl)
theorem rdStP:Rd stP (fun p=>EN 4 p.1++(EN 4 p.2.1++(EN 4 p.2.2.1++(EL ENode p.2.2.2.1++(EL EJob p.2.2.2.2.1++(EL QP7 p.2.2.2.2.2.1++(EL EBook p.2.2.2.2.2.2.1++EL QM9 p.2.2.2.2.2.2.2)))))))
  (fun p=>fitN 4 p.1∧fitN 4 p.2.1∧fitN 4 p.2.2.1∧fitL QWa p.2.2.2.1∧fitL Qdd p.2.2.2.2.1∧fitL QS9 p.2.2.2.2.2.1∧fitL Qoa p.2.2.2.2.2.2.1∧fitL Qq9 p.2.2.2.2.2.2.2) :=
 rd4.seq (rd4.seq (rd4.seq (rdP1.seq (rdP2.seq (rdP3.seq (rdP4.seq rdP5))))))
theorem rdState:Rd stR Q3c Qs6 :=
 rdStP.map toS ofS Qs6 Q3c (fun _ h=>⟨rfl,h⟩) (fun _ h=>⟨h,rfl⟩) (fun _=>rfl)
theorem Q7d (b:ByteArray):Qv0 b=bif ((Q00 (⟨b,0,false⟩:ImageReader) 1).1 != 73) then (State.zero,280) else
  bif (((stR (Q00 (⟨b,0,false⟩:ImageReader) 1).2).2.bad||((stR (Q00 (⟨b,0,false⟩:ImageReader) 1).2).2.at_ != (ByteArray.size b:Int)))||(Qm1 (stR (Q00 (⟨b,0,false⟩:ImageReader) 1).2).1 != 0)) then (State.zero,280) else ((stR (Q00 (⟨b,0,false⟩:ImageReader) 1).2).1,0):=by kernel_rfl
abbrev EImg (x:State):List Int:=EN 1 73++Q3c x
theorem Qp9 {b:ByteArray} (hz:b.size<=4294967296) (h:(Qv0 b).2=0):Qs6 (Qv0 b).1∧Qm1 (Qv0 b).1=0∧Qi0 b=EImg (Qv0 b).1:=by
 rw [Q7d] at h ⊢
 cases h1:((Q00 (⟨b,0,false⟩:ImageReader) 1).1 != 73) with
 | true=>rw [h1] at h;cases h
 | false =>
  rw [h1] at h
  simp only [cond_false] at h ⊢
  cases h2:(((stR (Q00 (⟨b,0,false⟩:ImageReader) 1).2).2.bad||((stR (Q00 (⟨b,0,false⟩:ImageReader) 1).2).2.at_ != (ByteArray.size b:Int)))||(Qm1 (stR (Q00 (⟨b,0,false⟩:ImageReader) 1).2).1 != 0)) with
  | true=>rw [h2] at h;cases h
  | false =>
   simp only [cond_false]
   simp only [Bool.or_eq_false_iff,bne_eq_false_iff_eq] at h1 h2
   obtain ⟨⟨h3,h4⟩,h5⟩:=h2
   have hs:=QQ2 (⟨b,0,false⟩:ImageReader) 1
   obtain ⟨a1,a2,a3⟩:=rdState.forms (Q00 (⟨b,0,false⟩:ImageReader) 1).2 (by rw [hs];exact hz) h3
   obtain ⟨b1,b2,b3⟩:=rd1.forms (⟨b,0,false⟩:ImageReader) hz a1
   change At b 0 (EN 1 (Q00 (⟨b,0,false⟩:ImageReader) 1).1) (Q00 (⟨b,0,false⟩:ImageReader) 1).2.at_ at b3
   rw [h1] at b3
   rw [hs,h4] at a3
   exact ⟨a2,h5,(b3.app a3).all⟩
theorem QCb {b:ByteArray} (h:(Qv0 b).2 ≠ 0):Qv0 b=(State.zero,280):=by
 rw [Q7d] at h ⊢
 cases h1:((Q00 (⟨b,0,false⟩:ImageReader) 1).1 != 73) with
 | true=>rfl
 | false =>
  rw [h1] at h
  simp only [cond_false] at h ⊢
  cases h2:(((stR (Q00 (⟨b,0,false⟩:ImageReader) 1).2).2.bad||((stR (Q00 (⟨b,0,false⟩:ImageReader) 1).2).2.at_ != (ByteArray.size b:Int)))||(Qm1 (stR (Q00 (⟨b,0,false⟩:ImageReader) 1).2).1 != 0)) with
  | true=>rfl
  | false=>rw [h2] at h;exact absurd rfl h
theorem w_flag (w:List Int) (ok:Bool):Qx0 w ok=w++EF ok:=by cases ok <;> rfl
theorem w_texts (w:List Int) (l:List ByteArray):QL0 w l=w++(l.map ET).flatten:=by
 have h:∀ (r:List ByteArray) (i:Nat) (b:List Int),Qu1 r i b=b++(r.map ET).flatten:=by
  intro r
  induction r with
  | nil=>intro i b;simp [Qu1]
  | cons x r ih=>intro i b;rw [Qu1,ih,List.map_cons,List.flatten_cons,List.append_assoc]
 exact h l 0 w
theorem Q0f {α:Type} (E:α->List Int) (f:List Int->α->List Int) (hf:∀ w x,f w x=w++E x) (G:List α->Nat->List Int->List Int) (h0:∀ i b,G [] i b=b) (h1:∀ x r i b,G (x :: r) i b=G r (i+1) (f b x)):∀ (l:List α) (i:Nat) (b:List Int),G l i b=b++(l.map E).flatten
 | [],i,b=>by simp [h0]
 | x :: r,i,b=>by rw [h1,Q0f E f hf G h0 h1 r,hf,List.map_cons,List.flatten_cons,List.append_assoc]
theorem w_shape (w:List Int) (x:Shape):QV0 w x=w++QYc x:=by
 have h:=Q0f EAlt (fun b (a:Alt)=>Q20 (Q20 b a.nodes 1) a.wall 4) (fun w x=>by show (w++EN 1 x.nodes)++EN 4 x.wall=_;rw [List.append_assoc]) QX1 (fun _ _=>rfl) (fun _ _ _ _=>rfl)
 unfold QV0
 rw [h]
 show ((((((w++EN 1 x.kind)++EN 1 (x.alts.length:Int))++(x.alts.map EAlt).flatten)++EN 1 x.min)++EN 1 x.max)++EN 4 x.wall)=_
 simp only [QYc,EL,List.append_assoc]
theorem w_node (w:List Int) (x:Node):Q71 w x=w++ENode x:=by
 unfold Q71
 rw [w_flag]
 show ((((((w++EN 1 x.state)++EN 4 x.job)++EN 4 x.epoch)++EF x.drain)++EN 1 x.want)++EN 4 x.since)++EN 4 x.asked=_
 simp only [List.append_assoc]
theorem w_resize (w:List Int) (x:Resize):QN0 w x=w++QP7 x:=by
 unfold QN0
 rw [w_flag]
 show ((((w++EN 4 x.job)++EF x.grow)++EN 8 (w64 x.nodes))++EN 8 (w64 x.said))++EN 4 x.since=_
 simp only [List.append_assoc]
theorem w_book (w:List Int) (x:Book):Qi1 w x=w++EBook x:=by
 show (((w++EN 4 x.id)++EN 4 x.from_)++EN 4 x.to)++EN 1 x.nodes=_
 simp only [List.append_assoc]
theorem w_usage (w:List Int) (x:Usage):QW0 w x=w++QM9 x:=by
 unfold QW0
 rw [w_texts]
 show ((w++(ET x.user++(ET x.account++[])))++EN 8 x.used)++EN 8 x.share=_
 simp only [List.append_assoc,List.append_nil]
theorem w_job (w:List Int) (x:Job):Qk1 w x=w++EJob x:=by
 have h:=Q0f EDep (fun b (a:Dep)=>Q20 (Q20 b a.how 1) a.job 4) (fun w x=>by show (w++EN 1 x.how)++EN 4 x.job=_;rw [List.append_assoc]) Qj2 (fun _ _=>rfl) (fun _ _ _ _=>rfl)
 unfold Qk1 Q32
 rw [h,w_shape,w_texts,w_flag]
 show (((((((((((((((w++EN 4 x.id)++(ET x.name++(ET x.user++(ET x.account++[]))))++QYc x.shape)++EN 1 x.prio)++EN 1 (x.after.length:Int))++(x.after.map EDep).flatten)++EN 1 x.state)++EF x.held)++EN 4 x.born)++EN 4 (w64 (x.promise+1)))++EN 1 x.choice)++EN 4 x.start)++EN 4 x.limit)++EN 8 (w64 x.nodes))++EN 8 x.used)=_
 simp only [EJob,EL,List.append_assoc,List.append_nil]
theorem Qad {x:State} (hc:Qm1 x=0):QB0 x=(QH1 (EImg x),0):=by
 unfold QB0
 rw [hc]
 simp only [bne_self_eq_false,cond_false]
 unfold Q15 Q25 Q35 Q45 Q55
 rw [Q0f ENode Q71 w_node Qr7 (fun _ _=>rfl) (fun _ _ _ _=>rfl),Q0f EJob Qk1 w_job Qs7 (fun _ _=>rfl) (fun _ _ _ _=>rfl),Q0f QP7 QN0 w_resize Qt7 (fun _ _=>rfl) (fun _ _ _ _=>rfl),Q0f EBook Qi1 w_book Qu7 (fun _ _=>rfl) (fun _ _ _ _=>rfl),Q0f QM9 QW0 w_usage Qv7 (fun _ _=>rfl) (fun _ _ _ _=>rfl)]
 congr 2
 show ((((((((((((([]++EN 1 73)++EN 4 x.now)++EN 4 x.nextJob)++EN 4 x.nextBook)++EN 1 (x.nodes.length:Int))++(x.nodes.map ENode).flatten)++EN 1 (x.jobs.length:Int))++(x.jobs.map EJob).flatten)++EN 1 (x.resizes.length:Int))++(x.resizes.map QP7).flatten)++EN 1 (x.books.length:Int))++(x.books.map EBook).flatten)++EN 1 (x.ledger.length:Int))++(x.ledger.map QM9).flatten=_
 simp only [EImg,Q3c,EL,List.append_assoc,List.nil_append]
theorem EN_in (k:Nat) (n:Int):Q31 (EN k n):=Qm3 _
theorem flat_in {α:Type} {E:α->List Int} (h:∀ x,Q31 (E x)):∀ l:List α,Q31 (l.map E).flatten
 | []=>Q54
 | x :: l=>Qz2 (h x) (flat_in h l)
theorem EL_in {α:Type} {E:α->List Int} (h:∀ x,Q31 (E x)) (l:List α):Q31 (EL E l):=Qz2 (EN_in _ _) (flat_in h l)
theorem EAlt_in (x:Alt):Q31 (EAlt x):=by
 repeat (first|with_reducible exact EN_in _ _|with_reducible exact Qm3 _|with_reducible refine Qz2 ?_ ?_)
theorem EDep_in (x:Dep):Q31 (EDep x):=by
 repeat (first|with_reducible exact EN_in _ _|with_reducible exact Qm3 _|with_reducible refine Qz2 ?_ ?_)
theorem ENode_in (x:Node):Q31 (ENode x):=by
 repeat (first|with_reducible exact EN_in _ _|with_reducible exact Qm3 _|with_reducible refine Qz2 ?_ ?_)
theorem EResize_in (x:Resize):Q31 (QP7 x):=by
 repeat (first|with_reducible exact EN_in _ _|with_reducible exact Qm3 _|with_reducible refine Qz2 ?_ ?_)
theorem EBook_in (x:Book):Q31 (EBook x):=by
 repeat (first|with_reducible exact EN_in _ _|with_reducible exact Qm3 _|with_reducible refine Qz2 ?_ ?_)
theorem EUsage_in (x:Usage):Q31 (QM9 x):=by
 repeat (first|with_reducible exact EN_in _ _|with_reducible exact Qm3 _|with_reducible refine Qz2 ?_ ?_)
theorem EShape_in (x:Shape):Q31 (QYc x):=by
 repeat (first|with_reducible exact EN_in _ _|with_reducible exact Qm3 _|with_reducible exact EL_in EAlt_in _|with_reducible refine Qz2 ?_ ?_)
theorem EJob_in (x:Job):Q31 (EJob x):=by
 repeat (first|with_reducible exact EN_in _ _|with_reducible exact Qm3 _|with_reducible exact EShape_in _|with_reducible exact EL_in EDep_in _|with_reducible refine Qz2 ?_ ?_)
theorem EState_in (x:State):Q31 (Q3c x):=by
 repeat (first|with_reducible exact EN_in _ _|with_reducible exact Qm3 _|with_reducible exact EL_in ENode_in _|with_reducible exact EL_in EJob_in _|with_reducible exact EL_in EResize_in _|with_reducible exact EL_in EBook_in _|with_reducible exact EL_in EUsage_in _|with_reducible refine Qz2 ?_ ?_)
theorem Qpf (x:State):Q31 (EImg x):=Qz2 (EN_in _ _) (EState_in x)
end Go.Proofs.YtgjcljceccfgjaaGreatDoor
namespace Go.Proofs.YtgjcljceccfgjaaGreatDoor
set_option linter.unusedSimpArgs false
set_option linter.unusedVariables false
open Go.Fw
end Go.Proofs.YtgjcljceccfgjaaGreatDoor
namespace Go.Proofs.YtgjcljceccfgjaaGreatDoor
set_option linter.unusedSimpArgs false
set_option linter.unusedVariables false
open Go.Fw
end Go.Proofs.YtgjcljceccfgjaaGreatDoor
namespace Go.Proofs.YtgjcljceccfgjaaGreatDoor
set_option linter.unusedSimpArgs false
set_option linter.unusedVariables false
open Go.Fw
end Go.Proofs.YtgjcljceccfgjaaGreatDoor
namespace Go.Proofs.YtgjcljceccfgjaaGreatDoor
set_option linter.unusedSimpArgs false
set_option linter.unusedVariables false
open Go.Fw
section
variable {α σ:Type} {f:Ref28From->α × Ref28From} {G:Nat->Int->Ref28From->σ->Int × Ref28From × σ} {put:σ->α->σ} {fin:σ->σ} {z0:σ}
end
end Go.Proofs.YtgjcljceccfgjaaGreatDoor
namespace Go.Proofs.YtgjcljceccfgjaaGreatDoor
set_option linter.unusedSimpArgs false
set_option linter.unusedVariables false
open Go.Fw
set_option maxHeartbeats 4000000
theorem Job.mono {N M:Nat} (hm:N<=M) {x:Job} (h:x.szN N):x.szN M:=⟨Nat.le_trans h.1 hm,Nat.le_trans h.2.1 hm,Nat.le_trans h.2.2.1 hm,Nat.le_trans h.2.2.2.1 hm,Nat.le_trans h.2.2.2.2 hm⟩
theorem Usage.mono {N M:Nat} (hm:N<=M) {x:Usage} (h:x.szN N):x.szN M:=⟨Nat.le_trans h.1 hm,Nat.le_trans h.2 hm⟩
theorem State.mono {N M:Nat} (hm:N<=M) {x:State} (h:x.szN N):x.szN M :=
 ⟨Nat.le_trans h.1 hm,Nat.le_trans h.2.1 hm,fun y hy=>Job.mono hm (h.2.2.1 y hy),Nat.le_trans h.2.2.2.1 hm,Nat.le_trans h.2.2.2.2.1 hm,Nat.le_trans h.2.2.2.2.2.1 hm,fun y hy=>Usage.mono hm (h.2.2.2.2.2.2 y hy)⟩
theorem fit_sz {x:State} (h:Qs6 x):x.szN 65536:=by
 obtain ⟨_,_,_,k4,k5,k6,k7,k8⟩:=h
 exact ⟨Nat.le_trans k4.1 (by decide),Nat.le_trans k5.1 (by decide),fun y hy=>by
  obtain ⟨_,q2,q3,q4,q5,_,q7,_⟩:=k5.2 y hy
  exact ⟨Nat.le_trans q2 (by decide),Nat.le_trans q3 (by decide),Nat.le_trans q4 (by decide),Nat.le_trans q5.2.1.1 (by decide),Nat.le_trans q7.1 (by decide)⟩,Nat.le_trans k6.1 (by decide),Nat.le_trans k7.1 (by decide),Nat.le_trans k8.1 (by decide),fun y hy=>by
  obtain ⟨q1,q2,_⟩:=k8.2 y hy
  exact ⟨Nat.le_trans q1 (by decide),Nat.le_trans q2 (by decide)⟩⟩
theorem decode_sz {b:ByteArray} (hz:b.size<=4294967296):(Qv0 b).1.szN 65536:=by
 by_cases h:(Qv0 b).2=0
 ·exact fit_sz (Qp9 hz h).1
 ·rw [QCb h];exact State.szz _
theorem QR0 {b:ByteArray} (hz:b.size<=4294967296):(Qv0 b).1.sz:=State.mono (by decide) (decode_sz hz)
theorem str_img {b:ByteArray} {x:State} (h:Qi0 b=EImg x):QH1 (EImg x)=b:=QY6 (by rw [QZ6 (Qpf x),h])
end Go.Proofs.YtgjcljceccfgjaaGreatDoor
namespace Go.Proofs.YtgjcljceccfgjaaGreatDoor
set_option linter.unusedSimpArgs false
set_option linter.unusedVariables false
open Go.Fw
set_option maxRecDepth 20000
set_option maxHeartbeats 4000000
attribute [local irreducible] ACalls AMoves
def Qe2 :Bool:=((((((((ByteArray.size ((QB0 (⟨0,([Node.zero]:List Node),[],[],[],[],1,1⟩:State)).1):Int)==37)&&((QB0 (⟨0,([Node.zero]:List Node),[],[],[],[],1,1⟩:State)).2==0))&&(((((QB0 (⟨0,([Node.zero]:List Node),[],[],[],[],1,1⟩:State)).1).data.toList.getD 0 0).toNat:Int)==73))&&(Q08 (⟨0,([Node.zero]:List Node),[],[],[],[],1,1⟩:State) ((Qv0 ((QB0 (⟨0,([Node.zero]:List Node),[],[],[],[],1,1⟩:State)).1)).1)))&&((Qv0 ((QB0 (⟨0,([Node.zero]:List Node),[],[],[],[],1,1⟩:State)).1)).2==0))&&((Qv0 ⟨#[]⟩).2==280))&&((QB0 State.zero).2==280))
theorem Q83 :∀ objs,AGives Tryz.prog 8 [] objs (Bo Qe2):=by
 generalize hR:Qe2=R;refine ga .nil lx (kp 10 []) Tryz.func8 ?_;(have hl:(QB0 (⟨0,([Node.zero]:List Node),[],[],[],[],1,1⟩:State)).1.size=37:=by kernel_rfl);refine Or.inl ?_;refine us (AGives.as2 (QE6 (⟨0,([Node.zero]:List Node),[],[],[],[],1,1⟩:State) (by first|(exact State.szz _)|first|(exact ⟨by decide,by decide,fun _ h=>absurd h List.not_mem_nil,by decide,by decide,by decide,fun _ h=>absurd h List.not_mem_nil⟩)|first|(omega)|first|(exact QR0 (by omega))|first|(exact Nat.zero_le _)|exact szA) (by first|exact State.szz _|exact ⟨by decide,by decide,fun _ h=>absurd h List.not_mem_nil,by decide,by decide,by decide,fun _ h=>absurd h List.not_mem_nil⟩) _) (av (Q4c (a1 (av (QS7 (c:=Node.cells) (d:=Node.zero) ([Node.zero]:List Node) rfl) (av (Qo5) (av (Qo5) (av (Qo5) (av (Qo5) (a1 (a1 .nil))))))))) .nil)) ?_;refine us (QX3 ((QB0 (⟨0,([Node.zero]:List Node),[],[],[],[],1,1⟩:State)).1) (by first|(exact State.szz _)|first|(exact ⟨by decide,by decide,fun _ h=>absurd h List.not_mem_nil,by decide,by decide,by decide,fun _ h=>absurd h List.not_mem_nil⟩)|first|(omega)|first|(exact QR0 (by omega))|first|(exact Nat.zero_le _)|exact szA) _) ?_;refine us (QX3 ⟨#[]⟩ (by first|(exact State.szz _)|first|(exact ⟨by decide,by decide,fun _ h=>absurd h List.not_mem_nil,by decide,by decide,by decide,fun _ h=>absurd h List.not_mem_nil⟩)|first|(omega)|first|(exact QR0 (by omega))|first|(exact Nat.zero_le _)|exact szA) _) ?_;refine us (AGives.as2 (QE6 State.zero (by first|(exact State.szz _)|first|(exact ⟨by decide,by decide,fun _ h=>absurd h List.not_mem_nil,by decide,by decide,by decide,fun _ h=>absurd h List.not_mem_nil⟩)|first|(omega)|first|(exact QR0 (by omega))|first|(exact Nat.zero_le _)|exact szA) (by first|exact State.szz _|exact ⟨by decide,by decide,fun _ h=>absurd h List.not_mem_nil,by decide,by decide,by decide,fun _ h=>absurd h List.not_mem_nil⟩) _) (av (Q4c (a1 (av (Qo5) (av (Qo5) (av (Qo5) (av (Qo5) (av (Qo5) (a1 (a1 .nil))))))))) .nil)) ?_;refine And.intro (by first|exact fun hg=>decide_eq_true (by first|((show (0:Int)<=0∧(0:Int)<(ByteArray.size _:Int);omega))|exact ckA)|exact gkA) ?_;(first|apply u2|apply u3|apply u4|apply us);exact AGives.as2 (Qnb (⟨0,([Node.zero]:List Node),[],[],[],[],1,1⟩:State) ((Qv0 ((QB0 (⟨0,([Node.zero]:List Node),[],[],[],[],1,1⟩:State)).1)).1) (by first|(exact State.szz _)|first|(exact ⟨by decide,by decide,fun _ h=>absurd h List.not_mem_nil,by decide,by decide,by decide,fun _ h=>absurd h List.not_mem_nil⟩)|first|(omega)|first|(exact QR0 (by omega))|first|(exact Nat.zero_le _)|exact szA) (by first|(exact State.szz _)|first|(exact ⟨by decide,by decide,fun _ h=>absurd h List.not_mem_nil,by decide,by decide,by decide,fun _ h=>absurd h List.not_mem_nil⟩)|first|(omega)|first|(exact QR0 (by omega))|first|(exact Nat.zero_le _)|exact szA) _) (av (Q4c (a1 (av (QS7 (c:=Node.cells) (d:=Node.zero) ([Node.zero]:List Node) rfl) (av (Qo5) (av (Qo5) (av (Qo5) (av (Qo5) (a1 (a1 .nil))))))))) (a1 .nil));obtain rfl:=foll hR rfl;exact Q30 lx sr
end Go.Proofs.YtgjcljceccfgjaaGreatDoor
namespace Go.Fw
set_option linter.unusedSimpArgs false
set_option linter.unusedVariables false
open Go.RowKit Go.ChangeShapes Go.WideShapes Go.Deep
theorem QC7 {C:Checked} {os:Os} {f:FuncId} {fn:Func} {s:ChangeSpec} {laid0:List (String × DataW Unit)} {conds:List PathCond} {apart fresh handsOn again:Bool} {H:Type} {enc:TypeId × Value->H} {Q:List AVal->Prop} {tb:TypeId}
  (own:ownKnob C.prog.godebug=none) (started:os.Started) (noInit:C.prog.inits.idxOf? f=none) (hfn:C.prog.funcs[f]? = some fn)
  (witness:∃ (w:World) (tape:Tape) (i:Input),w.os=os∧(w.forCall tape i).Shaped C.prog∧i.vars=[]∧Input.okWide C.prog (w.forCall tape i) .any w.heap.size f i ∧
   ((s.pre enc C.prog fn conds apart (w.forCall tape i).memory i.args∧laidMetH C.prog laid0 (w.forCall tape i).memory)∧sizedMet enc C.prog fn (OpenSpec.ofChange s) apart (w.forCall tape i).memory i.args)∧({}:Assume).holds C.prog (lone (Frame.enter C.prog f i.args .normal) [] (w.forCall tape i)))
  (hvars:s.vars=[]) (hres:fn.resultTypes = #[tb]) (hbool:C.prog.underlying tb=some .bool) (laid:laidOutB C.prog=true)
  (hts:fn.params.toList.all (fun t=>C.prog.readableRec t&&decide (t<C.prog.types.size))=true)
  (hspec:∀ ds:List (DataW H),ds.length=fn.params.size->s.fn H ds={ results:=[.lit (.bool true)],args:=ds })
  (hargs:ArgsAs C.prog fn.params.toList Q) (hlaw:∀ l,Q l->AGives C.prog f l [] (.lit (.bool true))) :
  ReturnsInHanded {} C os f .any (fun w args=>(s.pre enc C.prog fn conds apart w args∧laidMetH C.prog laid0 w)∧sizedMet enc C.prog fn (OpenSpec.ofChange s) apart w args) (s.post enc C.prog fn apart fresh handsOn again):=by
 refine returnsInHanded_of_change_and (X:=fun w _=>laidMetH C.prog laid0 w) (fun _ _ _ hh h=>h.of_heap hh) own started noInit hfn witness ?_
 intro W base args ds gs before hval hW hcnd _ _ _
 have hW':=hW
 obtain ⟨p,q,hA,hV,hpq,hfz,hnd⟩:=hW
 rw [hvars] at hV
 obtain ⟨rfl,rfl⟩:=trodVars_none hV
 rw [List.append_nil] at hpq
 subst hpq
 obtain ⟨l,hQ,hreps⟩:=hargs.read (base:=base) (vs:=args.toList) (fun j t v hj hv=>hval j t v (by simpa using hj) (by simpa using hv)) hA
 have hc:=law_calls (hlaw l hQ) hreps
 rw [show args.toList.toArray=args by simp] at hc
 refine hc.mono fun e W' ⟨he,hb⟩=>?_
 subst he
 have hlen:ds.length=fn.params.size:=by
  have:∀ {ts:List TypeId} {vs:List Value} {ds:List (DataW H)} {ps:List MemPlace},DataW.TrodAll enc C.prog W 0 (fun _=>true) true ts vs ds ps->ds.length=ts.length:=by
   intro ts
   induction ts with
   | nil=>intro vs ds ps h;obtain ⟨rfl,rfl,rfl⟩:=trodAll_nil h;rfl
   | cons t ts ih=>intro vs ds ps h;obtain ⟨v,vs',d,ds',p,q,rfl,rfl,rfl,hd,hrest⟩:=trodAll_cons h;simp [ih hrest]
  simpa using this hA
 have hfn2:=hspec ds hlen
 have hold:∀ p ∈ before,p.block<W.heap.size:=fun p hp=>by simpa using hW'.lt p hp
 have hR:∀ (b:Nat) (sp:Nat->Bool) (hd:Bool),DataW.TrodAll enc C.prog W' b sp hd fn.resultTypes.toList ((Value.bool true).resultList fn.resultTypes.size) (s.fn H (ds++[])).results []:=by
  intro b sp hd
  rw [List.append_nil,hfn2,hres]
  exact trodAll_cons_mk (shut_bool hbool _) trodAll_mk0
 have hAr:∀ sp:Nat->Bool,(∀ p ∈ before,sp p.block=true)->DataW.TrodAll enc C.prog W' 0 sp true fn.params.toList args.toList (s.fn H (ds++[])).args before:=by
  intro sp hsp
  rw [List.append_nil,hfn2]
  exact Q2e laid hb hts hA hold hsp
 have hVr:∀ sp:Nat->Bool,DataW.TrodVars enc C.prog W' sp s.vars (s.fn H (ds++[])).vars []:=by
  intro sp
  rw [List.append_nil,hfn2,hvars]
  rfl
 refine ⟨_,rfl,ds,[],before,[],before,[],hW',hR _ _ _,hAr _ (fun p hp=>by simpa using hold p hp),hVr _,hb.frame _,fun _=>⟨ok_one hres rfl (okWide_bool_mk hbool _),_,_,([]++before)++[],⟨[]++before,[],trodAll_append (hAr _ (fun _ _=>rfl)) (hR _ _ _),hVr _,rfl,?_,?_⟩,?_⟩⟩
 ·intro b off hp
  have hp:MemPlace.cell b off ∈ before:=by simpa using hp
  rw [hb.frozen (p:=⟨b,off,none⟩) (hold _ hp)]
  exact hfz b off (by simpa using hp)
 ·intro ha
  simpa using hnd ha
 ·intro p hp _
  simpa using hp
end Go.Fw
namespace Go.Proofs.YtgjcljceccfgjaaGreatDoor
set_option linter.unusedSimpArgs false
set_option linter.unusedVariables false
open Go.Fw
set_option maxRecDepth 100000
theorem ty2:Tryz.prog.underlying 9 = some (.string):=by kernel_rfl
end Go.Proofs.YtgjcljceccfgjaaGreatDoor
namespace Go.Proofs.YtgjcljceccfgjaaGreatDoor
set_option linter.unusedSimpArgs false
set_option linter.unusedVariables false
open Go.Fw
end Go.Proofs.YtgjcljceccfgjaaGreatDoor
namespace Go.Proofs.YtgjcljceccfgjaaGreatDoor
set_option linter.unusedSimpArgs false
set_option linter.unusedVariables false
open Go.Fw
end Go.Proofs.YtgjcljceccfgjaaGreatDoor
