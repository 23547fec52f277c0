/-
  Readers: what each reads, and that it reads just what was laid; made of parts. No condition beyond those that stand in each.
  The parts of an image: nodes, shapes, jobs, resizes, reservations, the ledger: what is laid is read, and what is read was laid. No condition beyond those that stand in each.
  The image of a state: what is decoded was encoded, and what is encoded is decoded. No condition beyond those that stand in each.
  The document's reading of an image: what is laid is read; and its image is the program's. No condition beyond those that stand in each.
  The document's image: what it writes is the program's, what it reads is what was written; what it reads is of a size. No condition beyond those that stand in each.
  What a state that may be shows: all of it fits into its image. Conditions stand in each lemma.
  What the document reads of any bytes: of which size it is; its image's laws. Conditions stand in each lemma.
  The laws of images, as plain statements. Conditions stand in each lemma.
  Contracts of functions, printed by a program of this repo (wip/dec). No condition beyond those that stand in each.
  The same for a row that lists package variables: from a law's contract to the row's statement: the arguments are read, the law is called, they read as they did. Program-independent.
  How arguments are read: structs of the program, with what is known of them. No condition.
  What is read is of a size that a machine holds. No condition.
  What is read has words for sets. No condition.
-/
import Derived.Test.YtgjcljceccfgjaaGreatDoorGD1
import Derived.Test.YtgjcljceccfgjaaGreatDoorG13
import Derived.Test.YtgjcljceccfgjaaGreatDoorProg
import Derived.Test.YtgjcljceccfgjaaGreatDoorG6
import Derived.LaidMore
import Derived.Stop.Joined
import Derived.JoinedOf
import Derived.Handed
import Derived.OpenShut
import Derived.KernelRfl
import Derived.Test.YtgjcljceccfgjaaGreatDoorG7
namespace Go.Proofs.YtgjcljceccfgjaaGreatDoor
set_option linter.unusedSimpArgs false
set_option linter.unusedVariables false
open Go.Fw
structure Rd {α:Type} (f:ImageReader->α × ImageReader) (E:α->List Int) (ok:α->Prop):Prop where
 s:∀ r,r.s.size<=4294967296->(f r).2.s=r.s
 forms:∀ r,r.s.size<=4294967296->(f r).2.bad=false->r.bad=false∧ok (f r).1∧At r.s r.at_ (E (f r).1) (f r).2.at_
 back:∀ r x b,r.s.size<=4294967296->r.bad=false->ok x->At r.s r.at_ (E x) b->f r=(x,{ r with at_:=b })
def seqR {α β:Type} (f:ImageReader->α × ImageReader) (g:ImageReader->β × ImageReader):ImageReader->(α × β) × ImageReader:=fun r=>(((f r).1,(g (f r).2).1),(g (f r).2).2)
def mapR {α β:Type} (h:α->β) (f:ImageReader->α × ImageReader):ImageReader->β × ImageReader:=fun r=>(h (f r).1,(f r).2)
theorem Rd.seq {α β:Type} {f:ImageReader->α × ImageReader} {g:ImageReader->β × ImageReader} {E:α->List Int} {F:β->List Int} {p:α->Prop} {q:β->Prop} (hf:Rd f E p) (hg:Rd g F q):Rd (seqR f g) (fun x=>E x.1++F x.2) (fun x=>p x.1∧q x.2) where
 s r hz:=by
  have h1:=hf.s r hz
  exact (hg.s _ (by rw [h1];exact hz)).trans h1
 forms r hz h:=by
  have h1:=hf.s r hz
  obtain ⟨b1,b3,b4⟩:=hg.forms (f r).2 (by rw [h1];exact hz) h
  obtain ⟨a1,a3,a4⟩:=hf.forms r hz b1
  rw [h1] at b4
  exact ⟨a1,⟨a3,b3⟩,a4.app b4⟩
 back r x b hz hr hx h:=by
  obtain ⟨h1,h2⟩:=h.split
  have e1:=hf.back r x.1 _ hz hr hx.1 h1
  unfold seqR
  rw [e1]
  have e2:=hg.back { r with at_:=r.at_+(E x.1).length } x.2 b hz hr hx.2 h2
  rw [e2]
theorem Rd.map {α β:Type} {f:ImageReader->α × ImageReader} {E:α->List Int} {p:α->Prop} (hf:Rd f E p) (h:α->β) (k:β->α) (q:β->Prop) (F:β->List Int) (hk:∀ x,p x->k (h x)=x∧q (h x)) (hq:∀ y,q y->p (k y)∧h (k y)=y) (hF:∀ y,F y=E (k y)):Rd (mapR h f) F q where
 s r hz:=hf.s r hz
 forms r hz hb:=by
  obtain ⟨a1,a3,a4⟩:=hf.forms r hz hb
  refine ⟨a1,(hk _ a3).2,?_⟩
  show At r.s r.at_ (F (h (f r).1)) (f r).2.at_
  rw [hF,(hk _ a3).1]
  exact a4
 back r x b hz hr hx g:=by
  rw [hF] at g
  have e:=hf.back r (k x) b hz hr (hq x hx).1 g
  unfold mapR
  rw [e,(hq x hx).2]
theorem Q99 {k:Nat} (hk:wide k):Rd (fun r=>Q00 r (k:Int)) (fun n=>Qi0 (Ql1 n (k:Int)).1) (fun n=>n<=9223372036854775807∧Qh2 n (k:Int)=true) where
 s r _:=QQ2 r _
 forms r hz h:=by
  try dsimp only at h ⊢
  unfold Q00 at h ⊢
  cases hc:(r.bad||((Qc0 r.s r.at_ (k:Int)).2.2 != 0)) with
  | true=>rw [hc] at h;cases h
  | false =>
   simp only [cond_false]
   simp only [Bool.or_eq_false_iff,bne_eq_false_iff_eq] at hc
   obtain ⟨h0,h1,h2,h3⟩:=take_forms hk hz hc.2
   have hf:=Qz6 hk h0 h1
   refine ⟨hc.1,⟨h2,hf⟩,?_⟩
   rw [Qv9 hk hf]
   exact h3
 back r x b hz hr hx h:=by
  try dsimp only at h ⊢
  rw [Qv9 hk hx.2] at h
  obtain ⟨h0,h1⟩:=Qwc hk hx.1 hx.2
  have e:=take_back hk hz h h0 h1 hx.1
  unfold Q00
  rw [e,hr]
  rfl
theorem Q11 (s t:ByteArray):Qi0 (s++t)=Qi0 s++Qi0 t:=by
 unfold Qi0
 rw [ByteArray.data_append,Array.toList_append,List.map_append]
theorem Qn7 (s:ByteArray) (i j:Nat):Qi0 (s.extract i j)=((Qi0 s).take j).drop i:=by
 unfold Qi0
 rw [ByteArray.data_extract,Array.toList_extract,List.extract_eq_take_drop,List.map_take,List.map_drop]
 rw [List.drop_take]
theorem Qte {s:ByteArray} (h:s.size<=65535):Qi0 (QW2 s).1=beB 2 (s.size:Int)++Qi0 s:=by
 unfold QW2
 rw [decide_eq_false (by omega),cond_false]
 show Qi0 (Q95 (ByteArray.size s:Int) ((2:Nat):Int)++s)=_
 rw [Q11,QIb (by decide)]
theorem rd_text:Rd Q40 (fun s=>Qi0 (QW2 s).1) (fun s=>s.size<=65535) where
 s r _:=Q79 r
 forms r hz h:=by
  unfold Q40 at h ⊢
  cases hc:(r.bad||((Qg2 r.s r.at_).2.2 != 0)) with
  | true=>rw [hc] at h;cases h
  | false =>
   simp only [cond_false]
   simp only [Bool.or_eq_false_iff,bne_eq_false_iff_eq] at hc
   obtain ⟨hb,ht⟩:=hc
   refine ⟨hb,?_⟩
   unfold Qg2 at ht ⊢
   cases h1:((Qc0 r.s r.at_ 2).2.2 != 0) with
   | true =>
    rw [h1] at ht
    have ht':(Qc0 r.s r.at_ 2).2.2=0:=ht
    rw [ht'] at h1
    cases h1
   | false =>
    rw [h1] at ht
    simp only [cond_false] at ht ⊢
    have h1':(Qc0 r.s r.at_ ((2:Nat):Int)).2.2=0:=by simpa using h1
    obtain ⟨n0,n1,n2,n3⟩:=take_forms (Or.inr (Or.inl rfl)) hz h1'
    have hle:=n3.le
    change 0<=(Qc0 r.s r.at_ 2).1 at n0
    change (Qc0 r.s r.at_ 2).1<256 ^ 2 at n1
    change At r.s r.at_ (beB 2 (Qc0 r.s r.at_ 2).1) (Qc0 r.s r.at_ 2).2.1 at n3
    change _∧_∧(Qc0 r.s r.at_ 2).2.1<=_ at hle
    have hle3:=n3.le
    generalize (Qc0 r.s r.at_ 2).1=n at *
    generalize (Qc0 r.s r.at_ 2).2.1=p at *
    rw [QAb] at hle3
    have e1:w64 ((ByteArray.size r.s:Int) - p)=(ByteArray.size r.s:Int) - p:=wr (by omega)
    rw [e1] at ht ⊢
    cases h2:decide ((ByteArray.size r.s:Int) - p<n) with
    | true=>rw [h2] at ht;exact absurd ht (by simp)
    | false =>
     have h2':=of_decide_eq_false h2
     have e2:w64 (p+n)=p+n:=wr (by omega)
     simp only [cond_false,e2]
     have hat:=At.of (s:=r.s) (a:=p) (n:=n.toNat) (by omega) (by omega)
     have eb:Qi0 (r.s.extract (Int.toNat p) (Int.toNat (p+n)))=((Qi0 r.s).drop p.toNat).take n.toNat:=by
      rw [Qn7,List.drop_take,show Int.toNat (p+n) - Int.toNat p=n.toNat by omega]
     have es:(r.s.extract (Int.toNat p) (Int.toNat (p+n))).size=n.toNat:=by rw [ByteArray.size_extract];omega
     refine ⟨by omega,?_⟩
     rw [Qte (by omega),es,eb,show ((n.toNat:Nat):Int)=n by omega]
     refine n3.app ?_
     rw [show p+n=p+(n.toNat:Int) by omega]
     exact hat
 back r x b hz hr hx h:=by
  try dsimp only at h
  rw [Qte hx] at h
  obtain ⟨h1,h2⟩:=h.split
  have e:=take_back (k:=2) (Or.inr (Or.inl rfl)) hz h1 (by omega) (by omega) (by omega)
  change Qc0 r.s r.at_ 2=_ at e
  have hle:=h2.le
  rw [QJ0] at hle
  generalize r.at_+((beB 2 (x.size:Int)).length:Int)=p at *
  have ht:Qg2 r.s r.at_=(x,b,0):=by
   unfold Qg2
   rw [e]
   have e1:w64 ((ByteArray.size r.s:Int) - p)=(ByteArray.size r.s:Int) - p:=wr (by omega)
   have e2:w64 (p+(x.size:Int))=b:=by rw [hle.2.1];exact wr (by omega)
   simp only [bne_self_eq_false,cond_false,e1,e2]
   rw [decide_eq_false (by omega),cond_false]
   have ex:r.s.extract p.toNat b.toNat=x:=by
    refine QY6 ?_
    rw [Qn7,List.drop_take,show b.toNat - p.toNat=x.size by omega]
    obtain ⟨u,v,q1,q2,q3⟩:=h2
    rw [q1,show p.toNat=u.length by omega,List.append_assoc,List.drop_left,List.take_left' (QJ0 x)]
   rw [ex]
  unfold Q40
  rw [ht,hr]
  rfl
theorem rd_flag:Rd Qe0 (fun ok=>Qi0 (Ql1 (bif ok then 1 else 0) 1).1) (fun _=>True) where
 s r _:=Q69 r
 forms r hz h:=by
  unfold Qe0 at h ⊢
  try dsimp only at h ⊢
  simp only [Bool.or_eq_false_iff,decide_eq_false_iff_not] at h
  obtain ⟨h1,h2⟩:=h
  obtain ⟨a1,a2,a3⟩:=(Q99 (k:=1) (Or.inl rfl)).forms r hz h1
  try dsimp only at a2 a3
  change _∧Qh2 (Q00 r 1).1 1=true at a2
  change At r.s r.at_ (Qi0 (Ql1 (Q00 r 1).1 1).1) (Q00 r 1).2.at_ at a3
  refine ⟨a1,trivial,?_⟩
  have h0:=(Qwc (k:=1) (Or.inl rfl) a2.1 a2.2).1
  generalize (Q00 r 1).1=n at *
  have:n=0∨n=1:=by omega
  rcases this with rfl|rfl <;> exact a3
 back r x b hz hr _ h:=by
  have e:=(Q99 (k:=1) (Or.inl rfl)).back r (bif x then 1 else 0) b hz hr (by cases x <;> exact ⟨by decide,by decide⟩) h
  change Q00 r 1=_ at e
  unfold Qe0
  rw [e]
  cases x <;> simp [hr]
theorem rd_loop {α:Type} {f:ImageReader->α × ImageReader} {E:α->List Int} {p:α->Prop} (hf:Rd f E p) (G:Nat->List α->Int->ImageReader->List α × Int × ImageReader) (hG:∀ m out n c,G (m+1) out n c=bif ((decide (n > 0))&&(!c.bad)) then G m (out++[(f c).1]) (w64 (n - 1)) (f c).2 else (out,n,c)) :
  ∀ (m:Nat) (out:List α) (n:Int) (c:ImageReader),c.s.size<=4294967296->0<=n->n<=255->n.toNat<m->(G m out n c).2.2.s=c.s∧(0<=c.at_->c.at_<=(c.s.size:Int)->(G m out n c).2.2.bad=false->c.bad=false ∧ ∃ l,(G m out n c).1=out++l∧l.length=n.toNat∧(∀ x ∈ l,p x)∧At c.s c.at_ (l.map E).flatten (G m out n c).2.2.at_)
 | 0,_,_,_,_,_,_,h=>absurd h (by omega)
 | m+1,out,n,c,hz,h0,h1,hm=>by
  rw [hG]
  cases hc:((decide (n > 0))&&(!c.bad)) with
  | true =>
   simp only [Bool.and_eq_true,decide_eq_true_eq,Bool.not_eq_true'] at hc
   have e1:w64 (n - 1)=n - 1:=wr (by omega)
   have hs:=hf.s c hz
   rw [cond_true,e1]
   obtain ⟨i1,i2⟩:=rd_loop hf G hG m (out++[(f c).1]) (n - 1) (f c).2 (by rw [hs];exact hz) (by omega) (by omega) (by omega)
   refine ⟨i1.trans hs,fun a0 a1 hb=>?_⟩
   have hb1:(f c).2.bad=false:=by
    by_cases q:(f c).2.bad=false
    ·exact q
    ·exfalso
     have q':(f c).2.bad=true:=by simpa using q
     have:∀ m out n,m ≠ 0->(G m out n (f c).2).2.2.bad=true:=by
      intro m out n hm0
      obtain ⟨k,rfl⟩:∃ k,m=k+1:=⟨m - 1,by omega⟩
      rw [hG,q']
      simp [q']
     rw [this m _ _ (by omega)] at hb
     cases hb
   obtain ⟨b1,b2,b3⟩:=hf.forms c hz hb1
   have hle:=b3.le
   obtain ⟨_,l,l1,l2,l3,l4⟩:=i2 (by omega) (by rw [hs];omega) hb
   rw [hs] at l4
   refine ⟨hc.2,(f c).1 :: l,by rw [l1,List.append_assoc];rfl,by simp only [List.length_cons];omega,?_,?_⟩
   ·intro x hx
    rcases List.mem_cons.1 hx with rfl|hx
    ·exact b2
    ·exact l3 x hx
   ·rw [List.map_cons,List.flatten_cons]
    exact b3.app l4
  | false =>
   refine ⟨rfl,fun a0 a1 hb=>⟨hb,[],by simp,?_,fun x hx=>(nomatch hx),At.nil a0 a1⟩⟩
   simp only [Bool.and_eq_false_iff,decide_eq_false_iff_not,Bool.not_eq_false'] at hc
   simp only [cond_false] at hb
   rcases hc with hc|hc
   ·simp only [List.length_nil];omega
   ·rw [hc] at hb;cases hb
theorem QMe {α:Type} {f:ImageReader->α × ImageReader} {E:α->List Int} {p:α->Prop} (hf:Rd f E p) (G:Nat->List α->Int->ImageReader->List α × Int × ImageReader) (hG:∀ m out n c,G (m+1) out n c=bif ((decide (n > 0))&&(!c.bad)) then G m (out++[(f c).1]) (w64 (n - 1)) (f c).2 else (out,n,c)) :
  ∀ (l:List α) (m:Nat) (out:List α) (c:ImageReader) (b:Int),c.s.size<=4294967296->l.length<=255->l.length<m->c.bad=false->(∀ x ∈ l,p x)->At c.s c.at_ (l.map E).flatten b->G m out (l.length:Int) c=(out++l,0,{ c with at_:=b })
 | [],m+1,out,c,b,hz,_,_,hb,_,h=>by
  have:=h.le
  have e:b=c.at_:=by simp only [List.map_nil,List.flatten_nil,List.length_nil] at this;omega
  rw [hG,e]
  simp
 | x :: l,m+1,out,c,b,hz,h1,hm,hb,hp,h=>by
  rw [List.map_cons,List.flatten_cons] at h
  obtain ⟨g1,g2⟩:=h.split
  have e:=hf.back c x _ hz hb (hp x (by simp)) g1
  simp only [List.length_cons] at h1 hm ⊢
  have e1:w64 (((l.length+1:Nat):Int) - 1)=(l.length:Int):=by rw [show ((l.length+1:Nat):Int) - 1=(l.length:Int) by omega];exact wr (by omega)
  have hbc:(!c.bad)=true:=by simp [hb]
  rw [hG,e,e1,hbc,decide_eq_true (by omega)]
  simp only [Bool.and_true,cond_true]
  rw [QMe hf G hG l m (out++[x]) { c with at_:=c.at_+((E x).length:Int) } b hz (by omega) (by omega) hb (fun y hy=>hp y (by simp [hy])) g2,List.append_assoc]
  rfl
def Qm9 {α:Type} (G:Nat->List α->Int->ImageReader->List α × Int × ImageReader):ImageReader->List α × ImageReader:=fun r =>
 ((G ((Q00 r 1).1.toNat+1) [] (Q00 r 1).1 (Q00 r 1).2).1,(G ((Q00 r 1).1.toNat+1) [] (Q00 r 1).1 (Q00 r 1).2).2.2)
theorem Qza {α:Type} {f:ImageReader->α × ImageReader} {E:α->List Int} {p:α->Prop} (hf:Rd f E p) (G:Nat->List α->Int->ImageReader->List α × Int × ImageReader) (hG:∀ m out n c,G (m+1) out n c=bif ((decide (n > 0))&&(!c.bad)) then G m (out++[(f c).1]) (w64 (n - 1)) (f c).2 else (out,n,c)) :
  Rd (Qm9 G) (fun l=>Qi0 (Ql1 (l.length:Int) 1).1++(l.map E).flatten) (fun l=>l.length<=255 ∧ ∀ x ∈ l,p x) where
 s r hz:=by
  have h5:=Qb0 (α:=Nat) (r:=r) hz
  simp only [List.length_nil] at h5
  have hs:=QQ2 r 1
  exact (rd_loop hf G hG _ [] (Q00 r 1).1 (Q00 r 1).2 (by rw [hs];exact hz) h5.1 (by omega) (Nat.lt_succ_self _)).1.trans hs
 forms r hz h:=by
  have h5:=Qb0 (α:=Nat) (r:=r) hz
  simp only [List.length_nil] at h5
  have hs:=QQ2 r 1
  have hl:=(rd_loop hf G hG _ [] (Q00 r 1).1 (Q00 r 1).2 (by rw [hs];exact hz) h5.1 (by omega) (Nat.lt_succ_self _)).2
  have hb:(Q00 r 1).2.bad=false:=by
   by_cases q:(Q00 r 1).2.bad=false
   ·exact q
   ·exfalso
    have q':(Q00 r 1).2.bad=true:=by simpa using q
    have:(Qm9 G r).2.bad=true:=by
     unfold Qm9
     rw [hG,q']
     simp [q']
    rw [this] at h
    cases h
  obtain ⟨a1,a2,a3⟩:=(Q99 (k:=1) (Or.inl rfl)).forms r hz hb
  change At r.s r.at_ (Qi0 (Ql1 (Q00 r 1).1 1).1) (Q00 r 1).2.at_ at a3
  have hle:=a3.le
  obtain ⟨_,l,l1,l2,l3,l4⟩:=hl (by omega) (by rw [hs];omega) h
  rw [hs] at l4
  have e:(Qm9 G r).1=l:=l1
  rw [e]
  have en:(Q00 r 1).1=(l.length:Int):=by omega
  rw [en] at a3
  exact ⟨a1,⟨by omega,l3⟩,a3.app l4⟩
 back r x b hz hr hx h:=by
  obtain ⟨g1,g2⟩:=h.split
  have e:=(Q99 (k:=1) (Or.inl rfl)).back r (x.length:Int) _ hz hr ⟨by omega,Qz6 (Or.inl rfl) (by omega) (by have:=hx.1;omega)⟩ g1
  change Q00 r 1=_ at e
  have e2:=QMe hf G hG x (x.length+1) [] { r with at_:=r.at_+((Qi0 (Ql1 (x.length:Int) 1).1).length:Int) } b hz hx.1 (by omega) hr hx.2 g2
  unfold Qm9
  rw [e]
  simp only [Int.toNat_natCast]
  rw [e2]
  rfl
end Go.Proofs.YtgjcljceccfgjaaGreatDoor
namespace Go.Proofs.YtgjcljceccfgjaaGreatDoor
set_option linter.unusedSimpArgs false
set_option linter.unusedVariables false
open Go.Fw
abbrev EN (k:Nat) (n:Int):List Int:=Qi0 (Ql1 n (k:Int)).1
abbrev fitN (k:Nat) (n:Int):Prop:=n<=9223372036854775807∧Qh2 n (k:Int)=true
abbrev ET (s:ByteArray):List Int:=Qi0 (QW2 s).1
abbrev fitT (s:ByteArray):Prop:=s.size<=65535
abbrev EF (ok:Bool):List Int:=Qi0 (Ql1 (bif ok then 1 else 0) 1).1
abbrev rN (k:Nat):ImageReader->Int × ImageReader:=fun r=>Q00 r (k:Int)
theorem rd1:Rd (rN 1) (EN 1) (fitN 1):=Q99 (Or.inl rfl)
theorem rd4:Rd (rN 4) (EN 4) (fitN 4):=Q99 (Or.inr (Or.inr (Or.inl rfl)))
theorem rd8:Rd (rN 8) (EN 8) (fitN 8):=Q99 (Or.inr (Or.inr (Or.inr rfl)))
theorem rdW:Rd (mapR (fun n=>wu64 n) (rN 8)) (fun n=>EN 8 (w64 n)) (fun n=>0<=n∧n<=9223372036854775807) :=
 rd8.map (fun n=>wu64 n) (fun n=>w64 n) _ _
  (fun x hx=>by
   have h:=(Qwc (k:=8) (Or.inr (Or.inr (Or.inr rfl))) hx.1 hx.2).1
   have e:wu64 x=x:=by simp only [IntKind.wrap,IntKind.bits,IntKind.signed];simp;have:=hx.1;omega
   have e2:w64 x=x:=wr (by have:=hx.1;omega)
   rw [e,e2]
   exact ⟨rfl,h,hx.1⟩)
  (fun y hy=>by
   have e:wu64 y=y:=by simp only [IntKind.wrap,IntKind.bits,IntKind.signed];simp;omega
   have e2:w64 y=y:=wr (by omega)
   rw [e2,e]
   exact ⟨⟨hy.2,Qz6 (k:=8) (Or.inr (Or.inr (Or.inr rfl))) hy.1 (by omega)⟩,rfl⟩)
  (fun _=>rfl)
theorem rdP:Rd (mapR (fun n=>w64 (n - 1)) (rN 4)) (fun n=>EN 4 (w64 (n+1))) (fun n=>-1<=n∧n<4294967295) :=
 rd4.map (fun n=>w64 (n - 1)) (fun n=>w64 (n+1)) _ _
  (fun x hx=>by
   have h:=Qwc (k:=4) (Or.inr (Or.inr (Or.inl rfl))) hx.1 hx.2
   have e:w64 (x - 1)=x - 1:=wr (by omega)
   have e2:w64 (x - 1+1)=x:=by rw [Int.sub_add_cancel];exact wr (by omega)
   rw [e,e2]
   exact ⟨rfl,by omega,by omega⟩)
  (fun y hy=>by
   have e:w64 (y+1)=y+1:=wr (by omega)
   have e2:w64 (y+1 - 1)=y:=by rw [Int.add_sub_cancel];exact wr (by omega)
   rw [e,e2]
   exact ⟨⟨by omega,Qz6 (k:=4) (Or.inr (Or.inr (Or.inl rfl))) (by omega) (by omega)⟩,rfl⟩)
  (fun _=>rfl)
abbrev EAlt (a:Alt):List Int:=EN 1 a.nodes++EN 4 a.wall
abbrev fitAlt (a:Alt):Prop:=fitN 1 a.nodes∧fitN 4 a.wall
theorem rdAlt:Rd (mapR (fun p=>(⟨p.1,p.2⟩:Alt)) (seqR (rN 1) (rN 4))) EAlt fitAlt :=
 (rd1.seq rd4).map _ (fun a=>(a.nodes,a.wall)) _ _ (fun _ h=>⟨rfl,h⟩) (fun _ h=>⟨h,rfl⟩) (fun _=>rfl)
abbrev EDep (a:Dep):List Int:=EN 1 a.how++EN 4 a.job
abbrev fitDep (a:Dep):Prop:=fitN 1 a.how∧fitN 4 a.job
theorem rdDep:Rd (mapR (fun p=>(⟨p.1,p.2⟩:Dep)) (seqR (rN 1) (rN 4))) EDep fitDep :=
 (rd1.seq rd4).map _ (fun a=>(a.how,a.job)) _ _ (fun _ h=>⟨rfl,h⟩) (fun _ h=>⟨h,rfl⟩) (fun _=>rfl)
abbrev ENode (x:Node):List Int:=EN 1 x.state++(EN 4 x.job++(EN 4 x.epoch++(EF x.drain++(EN 1 x.want++(EN 4 x.since++EN 4 x.asked)))))
abbrev QWa (x:Node):Prop:=fitN 1 x.state∧fitN 4 x.job∧fitN 4 x.epoch∧True∧fitN 1 x.want∧fitN 4 x.since∧fitN 4 x.asked
theorem rdNode:Rd QK1 ENode QWa :=
 (rd1.seq (rd4.seq (rd4.seq (rd_flag.seq (rd1.seq (rd4.seq rd4)))))).map (fun p=>(⟨p.1,p.2.1,p.2.2.1,p.2.2.2.1,p.2.2.2.2.1,p.2.2.2.2.2.1,p.2.2.2.2.2.2⟩:Node)) (fun x=>(x.state,x.job,x.epoch,x.drain,x.want,x.since,x.asked)) _ _ (fun _ h=>⟨rfl,h⟩) (fun _ h=>⟨h,rfl⟩) (fun _=>rfl)
abbrev QP7 (x:Resize):List Int:=EN 4 x.job++(EF x.grow++(EN 8 (w64 x.nodes)++(EN 8 (w64 x.said)++EN 4 x.since)))
abbrev QS9 (x:Resize):Prop:=fitN 4 x.job∧True∧(0<=x.nodes∧x.nodes<=9223372036854775807)∧(0<=x.said∧x.said<=9223372036854775807)∧fitN 4 x.since
theorem rdResize:Rd Qj1 QP7 QS9 :=
 (rd4.seq (rd_flag.seq (rdW.seq (rdW.seq rd4)))).map (fun p=>(⟨p.1,p.2.1,p.2.2.1,p.2.2.2.1,p.2.2.2.2⟩:Resize)) (fun x=>(x.job,x.grow,x.nodes,x.said,x.since)) _ _ (fun _ h=>⟨rfl,h⟩) (fun _ h=>⟨h,rfl⟩) (fun _=>rfl)
abbrev EBook (x:Book):List Int:=EN 4 x.id++(EN 4 x.from_++(EN 4 x.to++EN 1 x.nodes))
abbrev Qoa (x:Book):Prop:=fitN 4 x.id∧fitN 4 x.from_∧fitN 4 x.to∧fitN 1 x.nodes
theorem rdBook:Rd QJ1 EBook Qoa :=
 (rd4.seq (rd4.seq (rd4.seq rd1))).map (fun p=>(⟨p.1,p.2.1,p.2.2.1,p.2.2.2⟩:Book)) (fun x=>(x.id,x.from_,x.to,x.nodes)) _ _ (fun _ h=>⟨rfl,h⟩) (fun _ h=>⟨h,rfl⟩) (fun _=>rfl)
abbrev QM9 (x:Usage):List Int:=ET x.user++(ET x.account++(EN 8 x.used++EN 8 x.share))
abbrev Qq9 (x:Usage):Prop:=fitT x.user∧fitT x.account∧fitN 8 x.used∧fitN 8 x.share
theorem rdUsage:Rd Qh1 QM9 Qq9 :=
 (rd_text.seq (rd_text.seq (rd8.seq rd8))).map (fun p=>(⟨p.1,p.2.1,p.2.2.1,p.2.2.2⟩:Usage)) (fun x=>(x.user,x.account,x.used,x.share)) _ _ (fun _ h=>⟨rfl,h⟩) (fun _ h=>⟨h,rfl⟩) (fun _=>rfl)
abbrev EL {α:Type} (E:α->List Int) (l:List α):List Int:=EN 1 (l.length:Int)++(l.map E).flatten
abbrev fitL {α:Type} (p:α->Prop) (l:List α):Prop:=l.length<=255 ∧ ∀ x ∈ l,p x
abbrev QYc (x:Shape):List Int:=EN 1 x.kind++(EL EAlt x.alts++(EN 1 x.min++(EN 1 x.max++EN 4 x.wall)))
abbrev fitShape (x:Shape):Prop:=fitN 1 x.kind∧fitL fitAlt x.alts∧fitN 1 x.min∧fitN 1 x.max∧fitN 4 x.wall
theorem rdShape:Rd Qj0 QYc fitShape :=
 (rd1.seq ((Qza rdAlt QS0 (fun _ _ _ _=>rfl)).seq (rd1.seq (rd1.seq rd4)))).map (fun p=>(⟨p.1,p.2.1,p.2.2.1,p.2.2.2.1,p.2.2.2.2⟩:Shape)) (fun x=>(x.kind,x.alts,x.min,x.max,x.wall)) _ _ (fun _ h=>⟨rfl,h⟩) (fun _ h=>⟨h,rfl⟩) (fun _=>rfl)
abbrev EJob (x:Job):List Int:=EN 4 x.id++(ET x.name++(ET x.user++(ET x.account++(QYc x.shape++(EN 1 x.prio++(EL EDep x.after++(EN 1 x.state++(EF x.held++(EN 4 x.born++(EN 4 (w64 (x.promise+1))++(EN 1 x.choice++(EN 4 x.start++(EN 4 x.limit++(EN 8 (w64 x.nodes)++EN 8 x.used))))))))))))))
abbrev Qdd (x:Job):Prop:=fitN 4 x.id∧fitT x.name∧fitT x.user∧fitT x.account∧fitShape x.shape∧fitN 1 x.prio∧fitL fitDep x.after∧fitN 1 x.state∧True∧fitN 4 x.born∧(-1<=x.promise∧x.promise<4294967295)∧fitN 1 x.choice∧fitN 4 x.start∧fitN 4 x.limit∧(0<=x.nodes∧x.nodes<=9223372036854775807)∧fitN 8 x.used
theorem rdJob:Rd Qx1 EJob Qdd :=
 (rd4.seq (rd_text.seq (rd_text.seq (rd_text.seq (rdShape.seq (rd1.seq ((Qza rdDep Q61 (fun _ _ _ _=>rfl)).seq (rd1.seq (rd_flag.seq (rd4.seq (rdP.seq (rd1.seq (rd4.seq (rd4.seq (rdW.seq rd8))))))))))))))).map (fun p=>(⟨p.1,p.2.1,p.2.2.1,p.2.2.2.1,p.2.2.2.2.1,p.2.2.2.2.2.1,p.2.2.2.2.2.2.1,p.2.2.2.2.2.2.2.1,p.2.2.2.2.2.2.2.2.1,p.2.2.2.2.2.2.2.2.2.1,p.2.2.2.2.2.2.2.2.2.2.1,p.2.2.2.2.2.2.2.2.2.2.2.1,p.2.2.2.2.2.2.2.2.2.2.2.2.1,p.2.2.2.2.2.2.2.2.2.2.2.2.2.1,p.2.2.2.2.2.2.2.2.2.2.2.2.2.2.1,p.2.2.2.2.2.2.2.2.2.2.2.2.2.2.2⟩:Job)) (fun x=>(x.id,x.name,x.user,x.account,x.shape,x.prio,x.after,x.state,x.held,x.born,x.promise,x.choice,x.start,x.limit,x.nodes,x.used)) _ _ (fun _ h=>⟨rfl,h⟩) (fun _ h=>⟨h,rfl⟩) (fun _=>rfl)
end Go.Proofs.YtgjcljceccfgjaaGreatDoor
namespace Go.Proofs.YtgjcljceccfgjaaGreatDoor
set_option linter.unusedSimpArgs false
set_option linter.unusedVariables false
open Go.Fw
abbrev Q3c (x:State):List Int:=EN 4 x.now++(EN 4 x.nextJob++(EN 4 x.nextBook++(EL ENode x.nodes++(EL EJob x.jobs++(EL QP7 x.resizes++(EL EBook x.books++EL QM9 x.ledger))))))
abbrev Qs6 (x:State):Prop:=fitN 4 x.now∧fitN 4 x.nextJob∧fitN 4 x.nextBook∧fitL QWa x.nodes∧fitL Qdd x.jobs∧fitL QS9 x.resizes∧fitL Qoa x.books∧fitL Qq9 x.ledger
def stP:ImageReader->(Int × Int × Int × List Node × List Job × List Resize × List Book × List Usage) × ImageReader :=
 seqR (rN 4) (seqR (rN 4) (seqR (rN 4) (seqR (Qm9 QD2) (seqR (Qm9 QE2) (seqR (Qm9 QF2) (seqR (Qm9 QG2) (Qm9 QH2)))))))
def toS (p:Int × Int × Int × List Node × List Job × List Resize × List Book × List Usage):State:=⟨p.1,p.2.2.2.1,p.2.2.2.2.1,p.2.2.2.2.2.1,p.2.2.2.2.2.2.1,p.2.2.2.2.2.2.2,p.2.1,p.2.2.1⟩
def ofS (x:State):Int × Int × Int × List Node × List Job × List Resize × List Book × List Usage:=(x.now,x.nextJob,x.nextBook,x.nodes,x.jobs,x.resizes,x.books,x.ledger)
def stR:ImageReader->State × ImageReader:=mapR toS stP
theorem rdP1:Rd (Qm9 QD2) (EL ENode) (fitL QWa):=Qza rdNode QD2 (fun _ _ _ _=>rfl)
theorem rdP2:Rd (Qm9 QE2) (EL EJob) (fitL Qdd):=Qza rdJob QE2 (fun _ _ _ _=>rfl)
theorem rdP3:Rd (Qm9 QF2) (EL QP7) (fitL QS9):=Qza rdResize QF2 (fun _ _ _ _=>rfl)
theorem rdP4:Rd (Qm9 QG2) (EL EBook) (fitL Qoa):=Qza rdBook QG2 (fun _ _ _ _=>rfl)
theorem rdP5:Rd (Qm9 QH2) (EL QM9) (fitL Qq9):=Qza rdUsage QH2 (fun _ _ _ _=>rfl)
theorem rdStP:Rd stP (fun p=>EN 4 p.1++(EN 4 p.2.1++(EN 4 p.2.2.1++(EL ENode p.2.2.2.1++(EL EJob p.2.2.2.2.1++(EL QP7 p.2.2.2.2.2.1++(EL EBook p.2.2.2.2.2.2.1++EL QM9 p.2.2.2.2.2.2.2)))))))
  (fun p=>fitN 4 p.1∧fitN 4 p.2.1∧fitN 4 p.2.2.1∧fitL QWa p.2.2.2.1∧fitL Qdd p.2.2.2.2.1∧fitL QS9 p.2.2.2.2.2.1∧fitL Qoa p.2.2.2.2.2.2.1∧fitL Qq9 p.2.2.2.2.2.2.2) :=
 rd4.seq (rd4.seq (rd4.seq (rdP1.seq (rdP2.seq (rdP3.seq (rdP4.seq rdP5))))))
theorem rdState:Rd stR Q3c Qs6 :=
 rdStP.map toS ofS Qs6 Q3c (fun _ h=>⟨rfl,h⟩) (fun _ h=>⟨h,rfl⟩) (fun _=>rfl)
theorem Q7d (b:ByteArray):Qv0 b=bif ((Q00 (⟨b,0,false⟩:ImageReader) 1).1 != 73) then (State.zero,280) else
  bif (((stR (Q00 (⟨b,0,false⟩:ImageReader) 1).2).2.bad||((stR (Q00 (⟨b,0,false⟩:ImageReader) 1).2).2.at_ != (ByteArray.size b:Int)))||(Qm1 (stR (Q00 (⟨b,0,false⟩:ImageReader) 1).2).1 != 0)) then (State.zero,280) else ((stR (Q00 (⟨b,0,false⟩:ImageReader) 1).2).1,0):=by kernel_rfl
abbrev EImg (x:State):List Int:=EN 1 73++Q3c x
theorem QKb {b:ByteArray} {x:State} {q:List Int} (hz:b.size<=4294967296) (hx:Qs6 x) (h:Qi0 b=EImg x++q):Q00 (⟨b,0,false⟩:ImageReader) 1=(73,⟨b,((EN 1 73).length:Int),false⟩)∧stR ⟨b,((EN 1 73).length:Int),false⟩=(x,⟨b,((EImg x).length:Int),false⟩):=by
 have h1:=At.pre h
 obtain ⟨g1,g2⟩:=h1.split
 rw [Int.zero_add] at g1 g2
 exact ⟨rd1.back ⟨b,0,false⟩ 73 _ hz rfl ⟨by decide,by decide⟩ g1,rdState.back ⟨b,((EN 1 73).length:Int),false⟩ x _ hz rfl hx g2⟩
theorem Qsc {b:ByteArray} {x:State} (hz:b.size<=4294967296) (hx:Qs6 x) (hc:Qm1 x=0) (h:Qi0 b=EImg x):Qv0 b=(x,0):=by
 obtain ⟨e1,e2⟩:=QKb (q:=[]) hz hx (by rw [h,List.append_nil])
 have el:((EImg x).length:Int)=(ByteArray.size b:Int):=by rw [← h,QJ0]
 rw [Q7d,e1]
 simp only [e2,hc,el]
 simp
theorem Qp9 {b:ByteArray} (hz:b.size<=4294967296) (h:(Qv0 b).2=0):Qs6 (Qv0 b).1∧Qm1 (Qv0 b).1=0∧Qi0 b=EImg (Qv0 b).1:=by
 rw [Q7d] at h ⊢
 cases h1:((Q00 (⟨b,0,false⟩:ImageReader) 1).1 != 73) with
 | true=>rw [h1] at h;cases h
 | false =>
  rw [h1] at h
  simp only [cond_false] at h ⊢
  cases h2:(((stR (Q00 (⟨b,0,false⟩:ImageReader) 1).2).2.bad||((stR (Q00 (⟨b,0,false⟩:ImageReader) 1).2).2.at_ != (ByteArray.size b:Int)))||(Qm1 (stR (Q00 (⟨b,0,false⟩:ImageReader) 1).2).1 != 0)) with
  | true=>rw [h2] at h;cases h
  | false =>
   simp only [cond_false]
   simp only [Bool.or_eq_false_iff,bne_eq_false_iff_eq] at h1 h2
   obtain ⟨⟨h3,h4⟩,h5⟩:=h2
   have hs:=QQ2 (⟨b,0,false⟩:ImageReader) 1
   obtain ⟨a1,a2,a3⟩:=rdState.forms (Q00 (⟨b,0,false⟩:ImageReader) 1).2 (by rw [hs];exact hz) h3
   obtain ⟨b1,b2,b3⟩:=rd1.forms (⟨b,0,false⟩:ImageReader) hz a1
   change At b 0 (EN 1 (Q00 (⟨b,0,false⟩:ImageReader) 1).1) (Q00 (⟨b,0,false⟩:ImageReader) 1).2.at_ at b3
   rw [h1] at b3
   rw [hs,h4] at a3
   exact ⟨a2,h5,(b3.app a3).all⟩
theorem QCb {b:ByteArray} (h:(Qv0 b).2 ≠ 0):Qv0 b=(State.zero,280):=by
 rw [Q7d] at h ⊢
 cases h1:((Q00 (⟨b,0,false⟩:ImageReader) 1).1 != 73) with
 | true=>rfl
 | false =>
  rw [h1] at h
  simp only [cond_false] at h ⊢
  cases h2:(((stR (Q00 (⟨b,0,false⟩:ImageReader) 1).2).2.bad||((stR (Q00 (⟨b,0,false⟩:ImageReader) 1).2).2.at_ != (ByteArray.size b:Int)))||(Qm1 (stR (Q00 (⟨b,0,false⟩:ImageReader) 1).2).1 != 0)) with
  | true=>rfl
  | false=>rw [h2] at h;exact absurd rfl h
theorem EN_in (k:Nat) (n:Int):Q31 (EN k n):=Qm3 _
theorem flat_in {α:Type} {E:α->List Int} (h:∀ x,Q31 (E x)):∀ l:List α,Q31 (l.map E).flatten
 | []=>Q54
 | x :: l=>Qz2 (h x) (flat_in h l)
theorem EL_in {α:Type} {E:α->List Int} (h:∀ x,Q31 (E x)) (l:List α):Q31 (EL E l):=Qz2 (EN_in _ _) (flat_in h l)
theorem EAlt_in (x:Alt):Q31 (EAlt x):=by
 repeat (first|with_reducible exact EN_in _ _|with_reducible exact Qm3 _|with_reducible refine Qz2 ?_ ?_)
theorem EDep_in (x:Dep):Q31 (EDep x):=by
 repeat (first|with_reducible exact EN_in _ _|with_reducible exact Qm3 _|with_reducible refine Qz2 ?_ ?_)
theorem ENode_in (x:Node):Q31 (ENode x):=by
 repeat (first|with_reducible exact EN_in _ _|with_reducible exact Qm3 _|with_reducible refine Qz2 ?_ ?_)
theorem EResize_in (x:Resize):Q31 (QP7 x):=by
 repeat (first|with_reducible exact EN_in _ _|with_reducible exact Qm3 _|with_reducible refine Qz2 ?_ ?_)
theorem EBook_in (x:Book):Q31 (EBook x):=by
 repeat (first|with_reducible exact EN_in _ _|with_reducible exact Qm3 _|with_reducible refine Qz2 ?_ ?_)
theorem EUsage_in (x:Usage):Q31 (QM9 x):=by
 repeat (first|with_reducible exact EN_in _ _|with_reducible exact Qm3 _|with_reducible refine Qz2 ?_ ?_)
theorem EShape_in (x:Shape):Q31 (QYc x):=by
 repeat (first|with_reducible exact EN_in _ _|with_reducible exact Qm3 _|with_reducible exact EL_in EAlt_in _|with_reducible refine Qz2 ?_ ?_)
theorem EJob_in (x:Job):Q31 (EJob x):=by
 repeat (first|with_reducible exact EN_in _ _|with_reducible exact Qm3 _|with_reducible exact EShape_in _|with_reducible exact EL_in EDep_in _|with_reducible refine Qz2 ?_ ?_)
theorem EState_in (x:State):Q31 (Q3c x):=by
 repeat (first|with_reducible exact EN_in _ _|with_reducible exact Qm3 _|with_reducible exact EL_in ENode_in _|with_reducible exact EL_in EJob_in _|with_reducible exact EL_in EResize_in _|with_reducible exact EL_in EBook_in _|with_reducible exact EL_in EUsage_in _|with_reducible refine Qz2 ?_ ?_)
theorem Qpf (x:State):Q31 (EImg x):=Qz2 (EN_in _ _) (EState_in x)
end Go.Proofs.YtgjcljceccfgjaaGreatDoor
namespace Go.Proofs.YtgjcljceccfgjaaGreatDoor
set_option linter.unusedSimpArgs false
set_option linter.unusedVariables false
open Go.Fw
structure Rb {α:Type} (f:Ref28From->α × Ref28From) (E:α->List Int) (ok:α->Prop):Prop where
 back:∀ s a x b,ByteArray.size s<=4294967296->ok x->At s a (E x) b->f ⟨s,a⟩=(x,⟨s,b⟩)
theorem Rb.step {α:Type} {f:Ref28From->α × Ref28From} {E:α->List Int} {ok:α->Prop} (hf:Rb f E ok) {s:ByteArray} {a b:Int} {x:α} {l:List Int} (hz:s.size<=4294967296) (h:At s a (E x++l) b) (hx:ok x):∃ a',f ⟨s,a⟩=(x,⟨s,a'⟩)∧At s a' l b:=by
 obtain ⟨h1,h2⟩:=h.split
 exact ⟨_,hf.back s a x _ hz hx h1,h2⟩
theorem Qdg {k:Nat} (hk:wide k):Rb (fun r=>Q10 r (k:Int)) (EN k) (fitN k) where
 back s a x b hz hx h:=by
  change At s a (Qi0 (Ql1 x (k:Int)).1) b at h
  rw [Qv9 hk hx.2] at h
  obtain ⟨h0,h1⟩:=Qwc hk hx.1 hx.2
  have e:=QQd hk hz h h0 h1 hx.1
  unfold Q10
  rw [e]
  rfl
theorem rb1:Rb (fun r=>Q10 r 1) (EN 1) (fitN 1):=Qdg (k:=1) (Or.inl rfl)
theorem rb4:Rb (fun r=>Q10 r 4) (EN 4) (fitN 4):=Qdg (k:=4) (Or.inr (Or.inr (Or.inl rfl)))
theorem rb8:Rb (fun r=>Q10 r 8) (EN 8) (fitN 8):=Qdg (k:=8) (Or.inr (Or.inr (Or.inr rfl)))
theorem rb_text:Rb Q60 ET fitT where
 back s a x b hz hx h:=by
  change At s a (Qi0 (QW2 x).1) b at h
  rw [Qte hx] at h
  obtain ⟨h1,h2⟩:=h.split
  have e:=QQd (k:=2) (Or.inr (Or.inl rfl)) hz h1 (by omega) (by have:x.size<=65535:=hx;omega) (by have:x.size<=65535:=hx;omega)
  change Qd0 s a 2=_ at e
  have hle:=h2.le
  rw [QJ0] at hle
  generalize a+((beB 2 (x.size:Int)).length:Int)=p at *
  have ht:QW1 s a=(x,b,0):=by
   unfold QW1
   rw [e]
   have e1:w64 ((ByteArray.size s:Int) - p)=(ByteArray.size s:Int) - p:=wr (by omega)
   have e2:w64 (p+(x.size:Int))=b:=by rw [hle.2.1];exact wr (by omega)
   simp only [bne_self_eq_false,cond_false,e1,e2]
   rw [decide_eq_false (by omega),cond_false]
   have ex:s.extract p.toNat b.toNat=x:=by
    refine QY6 ?_
    rw [Qn7,List.drop_take,show b.toNat - p.toNat=x.size by omega]
    obtain ⟨u,v,q1,q2,q3⟩:=h2
    rw [q1,show p.toNat=u.length by omega,List.append_assoc,List.drop_left,List.take_left' (QJ0 x)]
   rw [ex]
  unfold Q60
  rw [ht]
  rfl
theorem rb_flag {s:ByteArray} {a b:Int} {x:Bool} {l:List Int} (hz:s.size<=4294967296) (h:At s a (EF x++l) b):∃ a',Q10 ⟨s,a⟩ 1=((bif x then 1 else 0),⟨s,a'⟩)∧At s a' l b :=
 rb1.step (x:=bif x then 1 else 0) hz h (by cases x <;> exact ⟨by decide,by decide⟩)
theorem flag_is (x:Bool):((bif x then (1:Int) else 0)==1)=x:=by cases x <;> rfl
theorem rb_word {s:ByteArray} {a b:Int} {n:Int} {l:List Int} (hz:s.size<=4294967296) (h:At s a (EN 8 (w64 n)++l) b) (h0:0<=n∧n<=9223372036854775807):∃ a',Q10 ⟨s,a⟩ 8=(n,⟨s,a'⟩)∧At s a' l b:=by
 have e:w64 n=n:=wr (by omega)
 rw [e] at h
 exact rb8.step hz h ⟨h0.2,Qz6 (k:=8) (Or.inr (Or.inr (Or.inr rfl))) h0.1 (by omega)⟩
theorem word_is {n:Int} (h0:0<=n∧n<=9223372036854775807):wu64 n=n:=by simp only [IntKind.wrap,IntKind.bits,IntKind.signed];simp;omega
theorem rb_promise {s:ByteArray} {a b:Int} {n:Int} {l:List Int} (hz:s.size<=4294967296) (h:At s a (EN 4 (w64 (n+1))++l) b) (h0:-1<=n∧n<4294967295):∃ a',Q10 ⟨s,a⟩ 4=(n+1,⟨s,a'⟩)∧At s a' l b:=by
 have e:w64 (n+1)=n+1:=wr (by omega)
 rw [e] at h
 exact rb4.step hz h ⟨by omega,Qz6 (k:=4) (Or.inr (Or.inr (Or.inl rfl))) (by omega) (by omega)⟩
theorem promise_is {n:Int} (h0:-1<=n∧n<4294967295):w64 (n+1 - 1)=n:=by rw [Int.add_sub_cancel];exact wr (by omega)
theorem Qfb {α σ:Type} {f:Ref28From->α × Ref28From} {E:α->List Int} {ok:α->Prop} (hf:Rb f E ok) (G:Nat->Int->Ref28From->σ->Int × Ref28From × σ) (put:σ->α->σ) (fin:σ->σ)
  (hG:∀ m k c a,G (m+1) k c a=bif decide (k > 0) then G m (w64 (k - 1)) (f c).2 (put a (f c).1) else (k,c,fin a)) :
  ∀ (l:List α) (m:Nat) (s:ByteArray) (a b:Int) (z:σ) (q:List Int),s.size<=4294967296->l.length<=255->l.length<m->(∀ x ∈ l,ok x)->At s a ((l.map E).flatten++q) b -> ∃ a',G m (l.length:Int) ⟨s,a⟩ z=(0,⟨s,a'⟩,fin (l.foldl put z))∧At s a' q b
 | [],m+1,s,a,b,z,q,hz,_,_,_,h=>⟨a,by rw [hG];rfl,h⟩
 | x :: l,m+1,s,a,b,z,q,hz,h1,hm,hp,h=>by
  rw [List.map_cons,List.flatten_cons,List.append_assoc] at h
  obtain ⟨a1,e,h2⟩:=hf.step hz h (hp x (by simp))
  simp only [List.length_cons] at h1 hm
  obtain ⟨a2,e2,h3⟩:=Qfb hf G put fin hG l m s a1 b (put z x) q hz (by omega) (by omega) (fun y hy=>hp y (by simp [hy])) h2
  refine ⟨a2,?_,h3⟩
  have e1:w64 (((l.length+1:Nat):Int) - 1)=(l.length:Int):=by rw [show ((l.length+1:Nat):Int) - 1=(l.length:Int) by omega];exact wr (by omega)
  simp only [List.length_cons]
  rw [hG,decide_eq_true (by omega),e,e1]
  exact e2
theorem Qu9 {α:Type} {l:List α} (h:l.length<=255):fitN 1 (l.length:Int):=⟨by omega,Qz6 (k:=1) (Or.inl rfl) (by omega) (by omega)⟩
theorem rbAlt:Rb (fun c=>((⟨(Q10 c 1).1,(Q10 ((Q10 c 1).2) 4).1⟩:Alt),(Q10 ((Q10 c 1).2) 4).2)) EAlt fitAlt where
 back s a x b hz hx h:=by
  obtain ⟨a1,e1,h⟩:=rb1.step hz h hx.1
  have e2:=rb4.back s a1 x.wall b hz hx.2 h
  try dsimp only at e1 e2
  simp only [e1,e2]
theorem rbDep:Rb (fun c=>((⟨(Q10 c 1).1,(Q10 ((Q10 c 1).2) 4).1⟩:Dep),(Q10 ((Q10 c 1).2) 4).2)) EDep fitDep where
 back s a x b hz hx h:=by
  obtain ⟨a1,e1,h⟩:=rb1.step hz h hx.1
  have e2:=rb4.back s a1 x.job b hz hx.2 h
  try dsimp only at e1 e2
  simp only [e1,e2]
theorem put_alts:∀ (l:List Alt) (z:Job),{ (l.foldl (fun (c2:Job) x=>{ c2 with shape:={ c2.shape with alts:=(c2.shape.alts++[x]) },after:=[] }) z) with after:=[] }={ z with shape:={ z.shape with alts:=z.shape.alts++l },after:=[] }
 | [],z=>by simp
 | x :: l,z=>by rw [List.foldl_cons,put_alts l];simp
theorem put_after:∀ (l:List Dep) (z:Job),(l.foldl (fun (c2:Job) x=>{ c2 with after:=(c2.after++[x]) }) z)={ z with after:=z.after++l }
 | [],z=>by simp
 | x :: l,z=>by rw [List.foldl_cons,put_after l];simp
theorem rbJob:Rb QP1 EJob Qdd where
 back s a x b hz hx h:=by
  obtain ⟨k1,k2,k3,k4,⟨k5,k6,k7,k8,k9⟩,k10,k11,k12,-,k13,k14,k15,k16,k17,k18,k19⟩:=hx
  simp only [EJob,QYc,EL,List.append_assoc] at h
  obtain ⟨a1,e1,h⟩:=rb4.step hz h k1
  obtain ⟨a2,e2,h⟩:=rb_text.step hz h k2
  obtain ⟨a3,e3,h⟩:=rb_text.step hz h k3
  obtain ⟨a4,e4,h⟩:=rb_text.step hz h k4
  obtain ⟨a5,e5,h⟩:=rb1.step hz h k5
  obtain ⟨a6,e6,h⟩:=rb1.step hz h (Qu9 k6.1)
  obtain ⟨a7,e7,h⟩:=Qfb rbAlt Qp1 (fun (c2:Job) x=>{ c2 with shape:={ c2.shape with alts:=(c2.shape.alts++[x]) },after:=[] }) (fun c2=>{ c2 with after:=[] }) (fun _ _ _ _=>rfl) x.shape.alts (x.shape.alts.length+1) s a6 b (⟨x.id,x.name,x.user,x.account,⟨x.shape.kind,[],0,0,0⟩,0,[],0,false,0,0,0,0,0,0,0⟩:Job) _ hz k6.1 (Nat.lt_succ_self _) k6.2 h
  obtain ⟨a8,e8,h⟩:=rb1.step hz h k7
  obtain ⟨a9,e9,h⟩:=rb1.step hz h k8
  obtain ⟨a10,e10,h⟩:=rb4.step hz h k9
  obtain ⟨a11,e11,h⟩:=rb1.step hz h k10
  obtain ⟨a12,e12,h⟩:=rb1.step hz h (Qu9 k11.1)
  obtain ⟨a13,e13,h⟩:=Qfb rbDep Qe1 (fun (c2:Job) x=>{ c2 with after:=(c2.after++[x]) }) id (fun _ _ _ _=>rfl) x.after (x.after.length+1) s a12 b (⟨x.id,x.name,x.user,x.account,x.shape,x.prio,[],0,false,0,0,0,0,0,0,0⟩:Job) _ hz k11.1 (Nat.lt_succ_self _) k11.2 h
  obtain ⟨a14,e14,h⟩:=rb1.step hz h k12
  obtain ⟨a15,e15,h⟩:=rb_flag hz h
  obtain ⟨a16,e16,h⟩:=rb4.step hz h k13
  obtain ⟨a17,e17,h⟩:=rb_promise hz h k14
  obtain ⟨a18,e18,h⟩:=rb1.step hz h k15
  obtain ⟨a19,e19,h⟩:=rb4.step hz h k16
  obtain ⟨a20,e20,h⟩:=rb4.step hz h k17
  obtain ⟨a21,e21,h⟩:=rb_word hz h k18
  have e22:=rb8.back s a21 x.used b hz k19 h
  rw [put_alts] at e7
  rw [id,put_after] at e13
  dsimp only at e1 e5 e6 e7 e8 e9 e10 e11 e12 e13 e14 e16 e18 e19 e20 e22
  unfold QP1
  simp only [e1,e2,e3,e4,e5,e6,Int.toNat_natCast,e7]
  unfold Qa2
  simp only [e8,e9,e10,e11,e12,Int.toNat_natCast,List.nil_append]
  simp only [e13]
  unfold Qn4
  simp only [e14,e15,e16,e17,e18,e19,e20,e21,e22,flag_is,promise_is k14,word_is k18,List.nil_append]
end Go.Proofs.YtgjcljceccfgjaaGreatDoor
namespace Go.Proofs.YtgjcljceccfgjaaGreatDoor
set_option linter.unusedSimpArgs false
set_option linter.unusedVariables false
open Go.Fw
theorem rn {n:Int} {k:Nat} (hk:wide k) (h:fitN k n):Qi0 (Q70 n (k:Int))=EN k n:=by
 unfold Q70
 rw [number_eq hk h.1]
theorem rn1 {n:Int} (h:fitN 1 n):Qi0 (Q70 n 1)=EN 1 n:=rn (k:=1) (Or.inl rfl) h
theorem rn4 {n:Int} (h:fitN 4 n):Qi0 (Q70 n 4)=EN 4 n:=rn (k:=4) (Or.inr (Or.inr (Or.inl rfl))) h
theorem rn8 {n:Int} (h:fitN 8 n):Qi0 (Q70 n 8)=EN 8 n:=rn (k:=8) (Or.inr (Or.inr (Or.inr rfl))) h
theorem rnW {n:Int} (h:0<=n∧n<=9223372036854775807):Qi0 (Q70 (w64 n) 8)=EN 8 (w64 n):=by
 have e:w64 n=n:=wr (by omega)
 rw [e]
 exact rn8 ⟨h.2,Qz6 (k:=8) (Or.inr (Or.inr (Or.inr rfl))) h.1 (by omega)⟩
theorem rnP {n:Int} (h:-1<=n∧n<4294967295):Qi0 (Q70 (w64 (n+1)) 4)=EN 4 (w64 (n+1)):=by
 have e:w64 (n+1)=n+1:=wr (by omega)
 rw [e]
 exact rn4 ⟨by omega,Qz6 (k:=4) (Or.inr (Or.inr (Or.inl rfl))) (by omega) (by omega)⟩
theorem rt {s:ByteArray} (h:fitT s):Qi0 (Qs1 s)=ET s:=by
 have hs:s.size<=65535:=h
 unfold Qs1 QR8 ET QW2
 rw [decide_eq_false (by omega)]
 simp only [cond_false,Q11]
 have e:=rn (n:=(s.size:Int)) (k:=2) (Or.inr (Or.inl rfl)) ⟨by omega,Qz6 (k:=2) (Or.inr (Or.inl rfl)) (by omega) (by omega)⟩
 unfold Q70 at e
 have e2:Qi0 (QZ3 (s.size:Int) 2).1=EN 2 (s.size:Int):=e
 rw [e2]
 have e3:EN 2 (s.size:Int)=beB 2 (s.size:Int):=Qv9 (Or.inr (Or.inl rfl)) (Qz6 (k:=2) (Or.inr (Or.inl rfl)) (by omega) (by omega))
 have e4:Qi0 (Q95 (s.size:Int) 2)=beB 2 (s.size:Int):=QIb (k:=2) (by decide) _
 rw [e3,e4]
theorem ry (ok:Bool):Qi0 (QC5 ok)=EF ok:=by cases ok <;> decide
theorem QLe {α:Type} (E:α->List Int) (p:α->Prop) (f:ByteArray->α->ByteArray) (hf:∀ w x,p x->Qi0 (f w x)=Qi0 w++E x) (G:List α->ByteArray->Nat->ByteArray × Nat) (h0:∀ b i,G [] b i=(b,i)) (h1:∀ x r b i,G (x :: r) b i=G r (f b x) (i+1)):∀ (l:List α) (b:ByteArray) (i:Nat),(∀ x ∈ l,p x)->Qi0 (G l b i).1=Qi0 b++(l.map E).flatten
 | [],b,i,_=>by simp [h0]
 | x :: r,b,i,h=>by rw [h1,QLe E p f hf G h0 h1 r _ _ (fun y hy=>h y (by simp [hy])),hf _ _ (h x (by simp)),List.map_cons,List.flatten_cons,List.append_assoc]
theorem r_job {x:Job} (h:Qdd x):Qi0 (QN6 x)=EJob x:=by
 obtain ⟨k1,k2,k3,k4,⟨k5,k6,k7,k8,k9⟩,k10,k11,k12,-,k13,k14,k15,k16,k17,k18,k19⟩:=h
 have g1:=QLe EAlt fitAlt (fun (b:ByteArray) (a:Alt)=>(b++(Q70 a.nodes 1))++(Q70 a.wall 4)) (fun w a ha=>by rw [Q11,Q11,rn1 ha.1,rn4 ha.2,List.append_assoc]) Qx4 (fun _ _=>rfl) (fun _ _ _ _=>rfl)
 have g2:=QLe EDep fitDep (fun (b:ByteArray) (a:Dep)=>(b++(Q70 a.how 1))++(Q70 a.job 4)) (fun w a ha=>by rw [Q11,Q11,rn1 ha.1,rn4 ha.2,List.append_assoc]) Qy4 (fun _ _=>rfl) (fun _ _ _ _=>rfl)
 unfold QN6 Qi6 Qj6
 simp only [Q11]
 rw [g2 _ _ _ k11.2]
 simp only [Q11]
 rw [g1 _ _ _ k6.2]
 simp only [Q11]
 rw [rn4 k1,rt k2,rt k3,rt k4,rn1 k5,rn1 (Qu9 k6.1),rn1 k7,rn1 k8,rn4 k9,rn1 k10,rn1 (Qu9 k11.1),rn1 k12,ry,rn4 k13,rnP k14,rn1 k15,rn4 k16,rn4 k17,rnW k18,rn8 k19]
 simp only [EJob,QYc,EL,List.append_assoc]
theorem r_encode {x:State} (hc:Ql2 x=0) (h:Qs6 x):Qv1 x=(QH1 (EImg x),0):=by
 obtain ⟨k1,k2,k3,k4,k5,k6,k7,k8⟩:=h
 have g1:=QLe ENode QWa (fun (out:ByteArray) (x_:Node)=>(((((((out++(Q70 x_.state 1))++(Q70 x_.job 4))++(Q70 x_.epoch 4))++(QC5 x_.drain))++(Q70 x_.want 1))++(Q70 x_.since 4))++(Q70 x_.asked 4))) (fun w a ha=>by
  obtain ⟨q1,q2,q3,-,q5,q6,q7⟩:=ha
  simp only [Q11]
  rw [rn1 q1,rn4 q2,rn4 q3,ry,rn1 q5,rn4 q6,rn4 q7]
  simp only [ENode,List.append_assoc]) Qc5 (fun _ _=>rfl) (fun _ _ _ _=>rfl)
 have g2:=QLe EJob Qdd (fun (out:ByteArray) (x_:Job)=>out++(QN6 x_)) (fun w a ha=>by rw [Q11,r_job ha]) Qd5 (fun _ _=>rfl) (fun _ _ _ _=>rfl)
 have g3:=QLe QP7 QS9 (fun (out:ByteArray) (x_:Resize)=>(((((out++(Q70 x_.job 4))++(QC5 x_.grow))++(Q70 (w64 x_.nodes) 8))++(Q70 (w64 x_.said) 8))++(Q70 x_.since 4))) (fun w a ha=>by
  obtain ⟨q1,-,q3,q4,q5⟩:=ha
  simp only [Q11]
  rw [rn4 q1,ry,rnW q3,rnW q4,rn4 q5]
  simp only [QP7,List.append_assoc]) Qe5 (fun _ _=>rfl) (fun _ _ _ _=>rfl)
 have g4:=QLe EBook Qoa (fun (out:ByteArray) (x_:Book)=>((((out++(Q70 x_.id 4))++(Q70 x_.from_ 4))++(Q70 x_.to 4))++(Q70 x_.nodes 1))) (fun w a ha=>by
  obtain ⟨q1,q2,q3,q4⟩:=ha
  simp only [Q11]
  rw [rn4 q1,rn4 q2,rn4 q3,rn1 q4]
  simp only [EBook,List.append_assoc]) Qf5 (fun _ _=>rfl) (fun _ _ _ _=>rfl)
 have g5:=QLe QM9 Qq9 (fun (out:ByteArray) (x_:Usage)=>((((out++(Qs1 x_.user))++(Qs1 x_.account))++(Q70 x_.used 8))++(Q70 x_.share 8))) (fun w a ha=>by
  obtain ⟨q1,q2,q3,q4⟩:=ha
  simp only [Q11]
  rw [rt q1,rt q2,rn8 q3,rn8 q4]
  simp only [QM9,List.append_assoc]) Qg5 (fun _ _=>rfl) (fun _ _ _ _=>rfl)
 have hb:Qv1 x=((Qv1 x).1,0):=by
  unfold Qv1
  rw [hc]
  rfl
 rw [hb]
 congr 1
 refine QY6 ?_
 rw [QZ6 (Qpf x)]
 unfold Qv1
 rw [hc]
 simp only [bne_self_eq_false,cond_false]
 unfold Qh5 Qi5 Qj5 Qk5 Ql5
 dsimp only
 rw [g5 _ _ _ k8.2,Q11,g4 _ _ _ k7.2,Q11,g3 _ _ _ k6.2,Q11,g2 _ _ _ k5.2,Q11,g1 _ _ _ k4.2]
 simp only [Q11]
 rw [rn4 k1,rn4 k2,rn4 k3,rn1 (Qu9 k4.1),rn1 (Qu9 k5.1),rn1 (Qu9 k6.1),rn1 (Qu9 k7.1),rn1 (Qu9 k8.1)]
 have e:Qi0 ⟨#[73]⟩=EN 1 73:=by decide
 rw [e]
 simp only [EImg,Q3c,EL,List.append_assoc]
theorem rbNode:Rb (fun c=>((⟨(Q10 c 1).1,(Q10 ((Q10 c 1).2) 4).1,(Q10 ((Q10 ((Q10 c 1).2) 4).2) 4).1,((Q10 ((Q10 ((Q10 ((Q10 c 1).2) 4).2) 4).2) 1).1==1),(Q10 ((Q10 ((Q10 ((Q10 ((Q10 c 1).2) 4).2) 4).2) 1).2) 1).1,(Q10 ((Q10 ((Q10 ((Q10 ((Q10 ((Q10 c 1).2) 4).2) 4).2) 1).2) 1).2) 4).1,(Q10 ((Q10 ((Q10 ((Q10 ((Q10 ((Q10 ((Q10 c 1).2) 4).2) 4).2) 1).2) 1).2) 4).2) 4).1⟩:Node),(Q10 ((Q10 ((Q10 ((Q10 ((Q10 ((Q10 ((Q10 c 1).2) 4).2) 4).2) 1).2) 1).2) 4).2) 4).2)) ENode QWa where
 back s a x b hz hx h:=by
  obtain ⟨q1,q2,q3,-,q5,q6,q7⟩:=hx
  obtain ⟨a1,e1,h⟩:=rb1.step hz h q1
  obtain ⟨a2,e2,h⟩:=rb4.step hz h q2
  obtain ⟨a3,e3,h⟩:=rb4.step hz h q3
  obtain ⟨a4,e4,h⟩:=rb_flag hz h
  obtain ⟨a5,e5,h⟩:=rb1.step hz h q5
  obtain ⟨a6,e6,h⟩:=rb4.step hz h q6
  have e7:=rb4.back s a6 x.asked b hz q7 h
  try dsimp only at e1 e2 e3 e5 e6 e7
  simp only [e1,e2,e3,e4,e5,e6,e7,flag_is]
theorem rbResize:Rb (fun c5=>((⟨(Q10 c5 4).1,((Q10 ((Q10 c5 4).2) 1).1==1),(wu64 (Q10 ((Q10 ((Q10 c5 4).2) 1).2) 8).1),(wu64 (Q10 ((Q10 ((Q10 ((Q10 c5 4).2) 1).2) 8).2) 8).1),(Q10 ((Q10 ((Q10 ((Q10 ((Q10 c5 4).2) 1).2) 8).2) 8).2) 4).1⟩:Resize),(Q10 ((Q10 ((Q10 ((Q10 ((Q10 c5 4).2) 1).2) 8).2) 8).2) 4).2)) QP7 QS9 where
 back s a x b hz hx h:=by
  obtain ⟨q1,-,q3,q4,q5⟩:=hx
  obtain ⟨a1,e1,h⟩:=rb4.step hz h q1
  obtain ⟨a2,e2,h⟩:=rb_flag hz h
  obtain ⟨a3,e3,h⟩:=rb_word hz h q3
  obtain ⟨a4,e4,h⟩:=rb_word hz h q4
  have e5:=rb4.back s a4 x.since b hz q5 h
  try dsimp only at e1 e5
  simp only [e1,e2,e3,e4,e5,flag_is,word_is q3,word_is q4]
theorem rbBook:Rb (fun c7=>((⟨(Q10 c7 4).1,(Q10 ((Q10 c7 4).2) 4).1,(Q10 ((Q10 ((Q10 c7 4).2) 4).2) 4).1,(Q10 ((Q10 ((Q10 ((Q10 c7 4).2) 4).2) 4).2) 1).1⟩:Book),(Q10 ((Q10 ((Q10 ((Q10 c7 4).2) 4).2) 4).2) 1).2)) EBook Qoa where
 back s a x b hz hx h:=by
  obtain ⟨q1,q2,q3,q4⟩:=hx
  obtain ⟨a1,e1,h⟩:=rb4.step hz h q1
  obtain ⟨a2,e2,h⟩:=rb4.step hz h q2
  obtain ⟨a3,e3,h⟩:=rb4.step hz h q3
  have e4:=rb1.back s a3 x.nodes b hz q4 h
  try dsimp only at e1 e2 e3 e4
  simp only [e1,e2,e3,e4]
theorem rbUsage:Rb (fun c9=>((⟨(Q60 c9).1,(Q60 ((Q60 c9).2)).1,(Q10 ((Q60 ((Q60 c9).2)).2) 8).1,(Q10 ((Q10 ((Q60 ((Q60 c9).2)).2) 8).2) 8).1⟩:Usage),(Q10 ((Q10 ((Q60 ((Q60 c9).2)).2) 8).2) 8).2)) QM9 Qq9 where
 back s a x b hz hx h:=by
  obtain ⟨q1,q2,q3,q4⟩:=hx
  obtain ⟨a1,e1,h⟩:=rb_text.step hz h q1
  obtain ⟨a2,e2,h⟩:=rb_text.step hz h q2
  obtain ⟨a3,e3,h⟩:=rb8.step hz h q3
  have e4:=rb8.back s a3 x.share b hz q4 h
  try dsimp only at e3 e4
  simp only [e1,e2,e3,e4]
theorem QU9 {α σ:Type} (put:σ->α->σ) (fin:σ->σ) (app:σ->List α->σ) (h0:∀ z,fin z=app z []) (h1:∀ z x l,app (put z x) l=app z (x :: l)):∀ (l:List α) (z:σ),fin (l.foldl put z)=app z l
 | [],z=>h0 z
 | x :: l,z=>by rw [List.foldl_cons,QU9 put fin app h0 h1 l,h1]
theorem r_decode {b:ByteArray} {x:State} (hz:b.size<=4294967296) (hx:Qs6 x) (hc:Ql2 x=0) (hb:Qi0 b=EImg x):Q34 b=(x,0):=by
 obtain ⟨k1,k2,k3,k4,k5,k6,k7,k8⟩:=hx
 have h:=(At.pre (s:=b) (l:=EImg x) (q:=[]) (by rw [hb,List.append_nil])).split.2
 have h1:(0:Int)+((EN 1 73).length:Int)=1:=by decide
 rw [h1] at h
 have hn:((ByteArray.size b:Int)==0)=false:=by
  have e:b.size=(EImg x).length:=by rw [← hb,QJ0]
  have e2:(EImg x).length=(EN 1 73).length+(Q3c x).length:=List.length_append ..
  have e3:(EN 1 73).length=1:=by decide
  have:(b.size:Int) ≠ 0:=by omega
  simpa using this
 have h:At b 1 (Q3c x++[]) ((EImg x).length:Int):=by rw [List.append_nil];exact h
 simp only [Q3c,EL,List.append_assoc] at h
 obtain ⟨a1,e1,h⟩:=rb4.step hz h k1
 obtain ⟨a2,e2,h⟩:=rb4.step hz h k2
 obtain ⟨a3,e3,h⟩:=rb4.step hz h k3
 obtain ⟨a4,e4,h⟩:=rb1.step hz h (Qu9 k4.1)
 obtain ⟨a5,e5,h⟩:=Qfb rbNode Qm2 (fun (c2:State) y=>⟨c2.now,(c2.nodes++[y]),[],[],[],[],c2.nextJob,c2.nextBook⟩) (fun c2=>⟨c2.now,c2.nodes,[],[],[],[],c2.nextJob,c2.nextBook⟩) (fun _ _ _ _=>rfl) x.nodes (x.nodes.length+1) b a4 _ (⟨x.now,[],[],[],[],[],x.nextJob,x.nextBook⟩:State) _ hz k4.1 (Nat.lt_succ_self _) k4.2 h
 rw [QU9 (fun (c2:State) y=>⟨c2.now,(c2.nodes++[y]),[],[],[],[],c2.nextJob,c2.nextBook⟩) (fun c2=>⟨c2.now,c2.nodes,[],[],[],[],c2.nextJob,c2.nextBook⟩) (fun (c2:State) l=>⟨c2.now,(c2.nodes++l),[],[],[],[],c2.nextJob,c2.nextBook⟩) (fun z=>by simp) (fun z x l=>by simp)] at e5
 obtain ⟨a6,e6,h⟩:=rb1.step hz h (Qu9 k5.1)
 obtain ⟨a7,e7,h⟩:=Qfb rbJob Qn2 (fun (c4:State) y=>⟨c4.now,c4.nodes,(c4.jobs++[y]),[],[],[],c4.nextJob,c4.nextBook⟩) (fun c4=>{ c4 with resizes:=[],books:=[],ledger:=[] }) (fun _ _ _ _=>rfl) x.jobs (x.jobs.length+1) b a6 _ (⟨x.now,x.nodes,[],[],[],[],x.nextJob,x.nextBook⟩:State) _ hz k5.1 (Nat.lt_succ_self _) k5.2 h
 rw [QU9 (fun (c4:State) y=>⟨c4.now,c4.nodes,(c4.jobs++[y]),[],[],[],c4.nextJob,c4.nextBook⟩) (fun c4=>{ c4 with resizes:=[],books:=[],ledger:=[] }) (fun (c2:State) l=>⟨c2.now,c2.nodes,c2.jobs++l,[],[],[],c2.nextJob,c2.nextBook⟩) (fun z=>by simp) (fun z x l=>by simp)] at e7
 obtain ⟨a8,e8,h⟩:=rb1.step hz h (Qu9 k6.1)
 obtain ⟨a9,e9,h⟩:=Qfb rbResize Q82 (fun (c6:State) y=>{ c6 with resizes:=(c6.resizes++[y]),books:=[],ledger:=[] }) (fun c4=>{ c4 with books:=[],ledger:=[] }) (fun _ _ _ _=>rfl) x.resizes (x.resizes.length+1) b a8 _ (⟨x.now,x.nodes,x.jobs,[],[],[],x.nextJob,x.nextBook⟩:State) _ hz k6.1 (Nat.lt_succ_self _) k6.2 h
 rw [QU9 (fun (c6:State) y=>{ c6 with resizes:=(c6.resizes++[y]),books:=[],ledger:=[] }) (fun c4=>{ c4 with books:=[],ledger:=[] }) (fun (c2:State) l=>⟨c2.now,c2.nodes,c2.jobs,c2.resizes++l,[],[],c2.nextJob,c2.nextBook⟩) (fun z=>by simp) (fun z x l=>by simp)] at e9
 obtain ⟨a10,e10,h⟩:=rb1.step hz h (Qu9 k7.1)
 obtain ⟨a11,e11,h⟩:=Qfb rbBook Q92 (fun (c6:State) y=>{ c6 with books:=(c6.books++[y]),ledger:=[] }) (fun c4=>{ c4 with ledger:=[] }) (fun _ _ _ _=>rfl) x.books (x.books.length+1) b a10 _ (⟨x.now,x.nodes,x.jobs,x.resizes,[],[],x.nextJob,x.nextBook⟩:State) _ hz k7.1 (Nat.lt_succ_self _) k7.2 h
 rw [QU9 (fun (c6:State) y=>{ c6 with books:=(c6.books++[y]),ledger:=[] }) (fun c4=>{ c4 with ledger:=[] }) (fun (c2:State) l=>⟨c2.now,c2.nodes,c2.jobs,c2.resizes,c2.books++l,[],c2.nextJob,c2.nextBook⟩) (fun z=>by simp) (fun z x l=>by simp)] at e11
 obtain ⟨a12,e12,h⟩:=rb1.step hz h (Qu9 k8.1)
 obtain ⟨a13,e13,h⟩:=Qfb rbUsage Qo2 (fun (c6:State) y=>{ c6 with ledger:=(c6.ledger++[y]) }) id (fun _ _ _ _=>rfl) x.ledger (x.ledger.length+1) b a12 _ (⟨x.now,x.nodes,x.jobs,x.resizes,x.books,[],x.nextJob,x.nextBook⟩:State) _ hz k8.1 (Nat.lt_succ_self _) k8.2 h
 rw [QU9 (fun (c6:State) y=>{ c6 with ledger:=(c6.ledger++[y]) }) id (fun (c2:State) l=>⟨c2.now,c2.nodes,c2.jobs,c2.resizes,c2.books,c2.ledger++l,c2.nextJob,c2.nextBook⟩) (fun z=>by simp) (fun z x l=>by simp)] at e13
 try dsimp only at e1 e2 e3 e4 e5 e6 e7 e8 e9 e10 e11 e12 e13
 simp only [List.nil_append] at e5 e7 e9 e11 e13
 unfold Q34
 rw [hn]
 simp only [cond_false,e1,e2,e3,e4,Int.toNat_natCast]
 simp only [e5]
 unfold QD3
 simp only [e6,Int.toNat_natCast]
 simp only [e7]
 unfold Qk4
 simp only [e8,Int.toNat_natCast]
 simp only [e9]
 unfold Ql4
 simp only [e10,Int.toNat_natCast]
 simp only [e11]
 unfold Qm4
 simp only [e12,Int.toNat_natCast]
 simp only [e13]
 unfold QE3
 have ee:=r_encode hc (show Qs6 x from ⟨k1,k2,k3,k4,k5,k6,k7,k8⟩)
 have eb:QH1 (EImg x)=b:=QY6 (by rw [QZ6 (Qpf x),hb])
 rw [eb] at ee
 show (bif (((Qv1 x).2 != 0)||(!(ByteArray.toList (Qv1 x).1==ByteArray.toList b))) then (State.zero,280) else (x,0))=_
 rw [ee]
 simp
end Go.Proofs.YtgjcljceccfgjaaGreatDoor
namespace Go.Proofs.YtgjcljceccfgjaaGreatDoor
set_option linter.unusedSimpArgs false
set_option linter.unusedVariables false
open Go.Fw
theorem ok1 {n:Int} (h0:0<=n) (h1:n<=255):fitN 1 n:=⟨by omega,Qz6 (k:=1) (Or.inl rfl) h0 (by omega)⟩
theorem ok4 {n:Int} (h0:0<=n) (h1:n<=4294967295):fitN 4 n:=⟨by omega,Qz6 (k:=4) (Or.inr (Or.inr (Or.inl rfl))) h0 (by omega)⟩
theorem ok8 {n:Int} (h0:0<=n) (h1:n<=9223372036854775807):fitN 8 n:=⟨h1,Qz6 (k:=8) (Or.inr (Or.inr (Or.inr rfl))) h0 (by omega)⟩
theorem node_ok {x:Node} (hf:Q94 x=true):QWa x:=by
 obtain ⟨st,jb,ep,dr,wa,si,as_⟩:=x
 unfold Q94 at hf
 dsimp only at hf ⊢
 cases h1:((((((decide (ep<0))||(decide (ep > 999999999)))||(decide (si<0)))||(decide (si > 1000000)))||(decide (as_<0)))||(decide (as_ > 1000000))) with
 | true=>rw [h1] at hf;cases hf
 | false =>
  have hw:(0<=st∧st<=4)∧(0<=jb∧jb<=99999)∧(0<=wa∧wa<=6):=by
   rw [h1] at hf
   simp only [cond_false] at hf
   by_cases h0:st=0
   ·subst h0;simp at hf;omega
   by_cases h4:st=4
   ·subst h4;simp at hf;omega
   have e:((st==0)||(st==4))=false:=by simp [h0,h4]
   rw [e] at hf
   simp only [cond_false] at hf
   cases h2:((decide (jb<1))||(decide (jb > 99999))) with
   | true=>rw [h2] at hf;cases hf
   | false =>
    rw [h2] at hf
    simp only [Bool.or_eq_false_iff,decide_eq_false_iff_not] at h2
    simp only [cond_false] at hf
    by_cases q1:st=1
    ·subst q1;simp at hf;omega
    by_cases q2:st=2
    ·subst q2;simp at hf;omega
    by_cases q3:st=3
    ·subst q3;simp at hf;omega
    simp [q1,q2,q3] at hf
  simp only [Bool.or_eq_false_iff,decide_eq_false_iff_not] at h1
  have t1:fitN 1 st:=ok1 (by omega) (by omega)
  have t2:fitN 4 jb:=ok4 (by omega) (by omega)
  have t3:fitN 4 ep:=ok4 (by omega) (by omega)
  have t4:fitN 1 wa:=ok1 (by omega) (by omega)
  have t5:fitN 4 si:=ok4 (by omega) (by omega)
  have t6:fitN 4 as_:=ok4 (by omega) (by omega)
  exact ⟨t1,t2,t3,trivial,t4,t5,t6⟩
theorem nodes_ok {l:List Node} (h:QI1 l=0):fitL QWa l∧l.length<=48:=by
 unfold QI1 at h
 cases h1:(((decide ((l.length:Int)<1))||(decide ((l.length:Int) > 48)))||(QE1 l (fun (y:Node)=>(!(Q02 y))))) with
 | true=>rw [h1] at h;cases h
 | false =>
  obtain ⟨h2,h3⟩:=or_f h1
  have hl:=of_decide_eq_false (or_f h2).2
  rw [any_Node] at h3
  refine ⟨⟨by omega,fun x hx=>?_⟩,by omega⟩
  have:=List.any_eq_false.1 h3 x hx
  rw [fine_eq] at this
  exact node_ok (by simpa using this)
theorem book_ok {x:Book} (h:Qm7 x=true):Qoa x:=by
 unfold Qm7 at h
 simp only [Bool.and_eq_true,decide_eq_true_eq] at h
 exact ⟨ok4 (by omega) (by omega),ok4 (by omega) (by omega),ok4 (by omega) (by omega),ok1 (by omega) (by omega)⟩
theorem books_ok {l:List Book} (h:QD5 l=0):fitL Qoa l:=by
 unfold QD5 at h
 cases h1:decide ((l.length:Int) > 8) with
 | true=>rw [h1] at h;cases h
 | false =>
  rw [h1] at h
  have h2:=of_decide_eq_false h1
  have go:∀ (r:List Book) (i:Nat),Qp6 l r i=0 -> ∀ x ∈ r,Qoa x:=by
   intro r
   induction r with
   | nil=>exact fun _ _ x hx=>nomatch hx
   | cons y r ih =>
    intro i hi x hx
    rw [Qp6] at hi
    cases h3:((!(Qm7 y))||((decide ((i:Int) > 0))&&(decide ((l.getD (Int.toNat (w64 ((i:Int) - 1))) Book.zero).id >= y.id)))) with
    | true=>rw [h3] at hi;cases hi
    | false =>
     rw [h3] at hi
     rcases List.mem_cons.1 hx with rfl|hx
     ·exact book_ok (by simpa using (or_f h3).1)
     ·exact ih (i+1) hi x hx
  exact ⟨by omega,go l 0 h⟩
theorem usage_in {n:Int} (h:(n != Qo4 n)=false):0<=n∧n<=1000000000000:=by
 have h:n=Qo4 n:=by simpa using h
 unfold Qo4 QR5 at h
 by_cases h1:n<0
 ·rw [decide_eq_true h1] at h;simp at h;omega
 ·rw [decide_eq_false h1] at h
  by_cases h2:n > 1000000000000
  ·rw [decide_eq_true h2] at h;simp at h;omega
  ·omega
theorem ledger_ok {l:List Usage} (h:QY3 l=0):fitL Qq9 l:=by
 unfold QY3 at h
 cases h1:decide ((l.length:Int) > 200) with
 | true=>rw [h1] at h;cases h
 | false =>
  rw [h1] at h
  have h2:=of_decide_eq_false h1
  have go:∀ (r:List Usage) (i:Nat),Qe4 l r i=0 -> ∀ x ∈ r,Qq9 x:=by
   intro r
   induction r with
   | nil=>exact fun _ _ x hx=>nomatch hx
   | cons y r ih =>
    intro i hi x hx
    rw [Qe4] at hi
    cases h3:((((((!(QI3 y.user))||(!(QI3 y.account)))||(y.used != (Qo4 y.used)))||(decide (y.share<0)))||(decide (y.share > y.used)))||((decide ((i:Int) > 0))&&(decide ((Qh7 (l.getD (Int.toNat (w64 ((i:Int) - 1))) Usage.zero) y) >= 0)))) with
    | true=>rw [h3] at hi;cases hi
    | false =>
     rw [h3] at hi
     rcases List.mem_cons.1 hx with rfl|hx
     ·have q1:=(or_f h3).1
      have q2:=(or_f q1).1
      have q3:=(or_f q2).1
      have q4:=(or_f q3).1
      have u:=usage_in (or_f q3).2
      have s1:=of_decide_eq_false (or_f q2).2
      have s2:=of_decide_eq_false (or_f q1).2
      have n1:QI3 x.user=true:=by simpa using (or_f q4).1
      have n2:QI3 x.account=true:=by simpa using (or_f q4).2
      unfold QI3 at n1 n2
      simp only [Bool.and_eq_true,decide_eq_true_eq] at n1 n2
      exact ⟨show x.user.size<=65535 by omega,show x.account.size<=65535 by omega,ok8 (by omega) (by omega),ok8 (by omega) (by omega)⟩
     ·exact ih (i+1) hi x hx
  exact ⟨by omega,go l 0 h⟩
theorem alt_ok {a:Alt} (h:Q81 a=true):fitAlt a:=by
 unfold Q81 at h
 simp only [Bool.and_eq_true,decide_eq_true_eq] at h
 exact ⟨ok1 (by omega) (by omega),ok4 (by omega) (by omega)⟩
theorem k1_ok {b:Bool} (h:Qs2 b=0):b=true:=by cases b with|true=>rfl|false=>cases h
theorem shape_ok {s:Shape} (h:QV1 s=0):fitShape s∧(Q21 s).length<=255:=by
 obtain ⟨kind,alts,mn,mx,wall⟩:=s
 have hc:(QV1 ⟨kind,alts,mn,mx,wall⟩!=0)=false:=by rw [h];rfl
 unfold QV1 at h
 dsimp only at h
 by_cases q1:kind=1
 ·subst q1
  have h':=k1_ok h
  simp only [Bool.and_eq_true,beq_iff_eq] at h'
  obtain ⟨⟨⟨⟨a1,a2⟩,a3⟩,a4⟩,a5⟩:=h'
  have ho:Q21 ⟨1,alts,mn,mx,wall⟩=alts:=by unfold Q21;rw [hc];rfl
  rw [ho]
  have hl:alts.length=1:=by omega
  have t1:fitN 1 mn:=ok1 (by omega) (by omega)
  have t2:fitN 1 mx:=ok1 (by omega) (by omega)
  have t3:fitN 4 wall:=ok4 (by omega) (by omega)
  have t4:alts.length<=255:=by omega
  refine ⟨⟨ok1 (n:=1) (by decide) (by decide),⟨t4,fun x hx=>?_⟩,t1,t2,t3⟩,by omega⟩
  obtain ⟨y,rfl⟩:=List.length_eq_one_iff.1 hl
  rw [List.mem_singleton.1 hx]
  exact alt_ok a5
 by_cases q2:kind=2
 ·subst q2
  have h':=k1_ok h
  simp only [Bool.and_eq_true,beq_iff_eq,decide_eq_true_eq] at h'
  obtain ⟨⟨⟨⟨⟨⟨a1,a2⟩,a3⟩,a4⟩,a5⟩,a6⟩,a7⟩:=h'
  have ho:Q21 ⟨2,alts,mn,mx,wall⟩=alts:=by unfold Q21;rw [hc];rfl
  rw [ho]
  have t1:fitN 1 mn:=ok1 (by omega) (by omega)
  have t2:fitN 1 mx:=ok1 (by omega) (by omega)
  have t3:fitN 4 wall:=ok4 (by omega) (by omega)
  have t4:alts.length<=255:=by omega
  refine ⟨⟨ok1 (n:=2) (by decide) (by decide),⟨t4,fun x hx=>?_⟩,t1,t2,t3⟩,by omega⟩
  rw [any_Alt] at a7
  have a8:(alts.any fun y=>!(Q81 y))=false:=by simpa using a7
  have:=List.any_eq_false.1 a8 x hx
  exact alt_ok (by simpa using this)
 by_cases q3:kind=3
 ·subst q3
  have h':=k1_ok h
  simp only [Bool.and_eq_true,beq_iff_eq,decide_eq_true_eq] at h'
  obtain ⟨⟨⟨a1,a2⟩,a3⟩,a4⟩:=h'
  unfold Q81 at a3
  simp only [Bool.and_eq_true,decide_eq_true_eq] at a3
  have hl:alts=[]:=List.length_eq_zero_iff.1 (by omega)
  subst hl
  have ho:Q21 ⟨3,[],mn,mx,wall⟩=[]++Qm6 mn mx wall:=by unfold Q21;rw [hc];rfl
  rw [ho,← Qvb]
  have t1:fitN 1 mn:=ok1 (by omega) (by omega)
  have t2:fitN 1 mx:=ok1 (by omega) (by omega)
  have t3:fitN 4 wall:=ok4 (by omega) (by omega)
  refine ⟨⟨ok1 (n:=3) (by decide) (by decide),⟨by simp,fun x hx=>nomatch hx⟩,t1,t2,t3⟩,?_⟩
  simp only [List.nil_append,List.length_map,Qp7]
  omega
 ·have e1:(kind==1)=false:=by simpa using q1
  have e2:(kind==2)=false:=by simpa using q2
  have e3:(kind==3)=false:=by simpa using q3
  rw [e1,e2,e3] at h
  cases h
theorem deps_ok {l:List Dep} (h:Qo7 l=true):∀ x ∈ l,fitDep x:=by
 have go:∀ (r:List Dep) (i:Nat),QC4 l r i=true -> ∀ x ∈ r,fitDep x:=by
  intro r
  induction r with
  | nil=>exact fun _ _ x hx=>nomatch hx
  | cons y r ih =>
   intro i hi x hx
   rw [QC4] at hi
   cases h3:(((!(QZ1 y.how 1 3))||(!(QVa y.job)))||(QH0 (List.take i l) (fun (z:Dep)=>(z.job==y.job)))) with
   | true=>rw [h3] at hi;cases hi
   | false =>
    rw [h3] at hi
    rcases List.mem_cons.1 hx with rfl|hx
    ·have q:=(or_f h3).1
     have n1:QZ1 x.how 1 3=true:=by simpa using (or_f q).1
     have n2:QVa x.job=true:=by simpa using (or_f q).2
     unfold QVa at n2
     unfold QZ1 at n1 n2
     simp only [Bool.and_eq_true,decide_eq_true_eq] at n1 n2
     exact ⟨ok1 (by omega) (by omega),ok4 (by omega) (by omega)⟩
    ·exact ih (i+1) hi x hx
 exact go l 0 h
theorem QWc {n:Int} (h:QL2 n=true):0<=n∧n<=1000000:=by
 unfold QL2 at h
 simpa using h
theorem option_in {v:Job} {c:Int} (h:(Qc1 v c).2=true) (hl:(Q21 v.shape).length<=255):0<=c∧c<=255:=by
 unfold Qc1 at h
 cases h1:((decide (c<0))||(decide (c >= ((Q21 v.shape).length:Int)))) with
 | true=>rw [h1] at h;cases h
 | false =>
  simp only [Bool.or_eq_false_iff,decide_eq_false_iff_not] at h1
  omega
theorem Qre {n:Int} (hu:U64 n) (h:∀ k,48<=k->tb n k=false):0<=n∧n<=9223372036854775807:=by
 have e:n=Qj3 (tb n) 48:=tb_ext hu (Q4e _ (by decide)) fun k _=>by
  rw [tb_upto]
  by_cases hk:k<48
  ·simp [hk]
  ·simp [hk,h k (by omega)]
 have:=QZ8 (tb n) 48
 rw [← e] at this
 have p:(2:Int) ^ 48=281474976710656:=by decide
 omega
theorem job_ok {j:Job} (hw:U64 j.nodes) (h:QA3 j=0) (ht:fitT j.name∧fitT j.user∧fitT j.account):Qdd j:=by
 have hb:=QHb h
 unfold QA3 at h
 cases h1:((((((decide (j.id<1))||(decide (j.id > 99999)))||(!(QL2 j.born)))||(j.used != (Qo4 j.used)))||((QY4 (Qr0 j))!=0))||(QH0 j.after (fun (y:Dep)=>(decide (y.job >= j.id))))) with
 | true=>rw [h1] at h;cases h
 | false =>
  rw [h1] at h
  have q1:=(or_f h1).1
  have hc:QY4 (Qr0 j)=0:=by simpa using (or_f q1).2
  have q2:=(or_f q1).1
  have hu:=usage_in (or_f q2).2
  have q3:=(or_f q2).1
  have hborn:QL2 j.born=true:=by simpa using (or_f q3).2
  have hborn:=QWc hborn
  unfold QY4 at hc
  cases h2:((((decide (((Qr0 j).shape.alts.length:Int) > 6))||(decide (((Qr0 j).after.length:Int) > 4)))||(!(Q78 (Qr0 j))))||(!(Qka (Qr0 j) (Q58 (Qr0 j))))) with
  | true=>rw [h2] at hc;cases hc
  | false =>
   have c1:=(or_f h2).1
   have hfit:Q78 (Qr0 j)=true:=by simpa using (or_f c1).2
   have hafter:¬ ((j.after.length:Int) > 4):=of_decide_eq_false (or_f (or_f c1).1).2
   have hfit2:(bif ((((true&&(!(QZ1 j.prio 0 100)))||(false&&(!(QQ9 0))))||((!true)&&(j.prio != 0)))||((!false)&&((0:Int)!=0))) then false else (((((((QS4 j.name)&&(QS4 j.user))&&(QS4 j.account))&&(QV5 j.user))&&(QV5 j.account))&&(Qo7 j.after))&&((QV1 j.shape)==0)))=true:=hfit
   cases h3:((((true&&(!(QZ1 j.prio 0 100)))||(false&&(!(QQ9 0))))||((!true)&&(j.prio != 0)))||((!false)&&((0:Int)!=0))) with
   | true=>rw [h3] at hfit2;cases hfit2
   | false =>
    rw [h3] at hfit2
    simp only [cond_false,Bool.and_eq_true,beq_iff_eq] at hfit2
    obtain ⟨⟨_,hdeps⟩,hsh⟩:=hfit2
    have hprio:QZ1 j.prio 0 100=true:=by simpa using (or_f (or_f (or_f h3).1).1).1
    unfold QZ1 at hprio
    simp only [Bool.and_eq_true,decide_eq_true_eq] at hprio
    obtain ⟨hs1,hs2⟩:=shape_ok hsh
    have hd:=deps_ok hdeps
    have fin:(0<=j.state∧j.state<=7)->(-1<=j.promise∧j.promise<=1000000)->(0<=j.choice∧j.choice<=255)->(0<=j.start∧j.start<=1000000)->(0<=j.limit∧j.limit<=1000000)->(0<=j.nodes∧j.nodes<=9223372036854775807)->Qdd j:=fun s1 s2 s3 s4 s5 s6 =>
     ⟨ok4 (by omega) (by omega),ht.1,ht.2.1,ht.2.2,hs1,ok1 (by omega) (by omega),⟨by omega,hd⟩,ok1 (by omega) (by omega),trivial,ok4 (by omega) (by omega),⟨by omega,by omega⟩,ok1 (by omega) (by omega),ok4 (by omega) (by omega),ok4 (by omega) (by omega),s6,ok8 (by omega) (by omega)⟩
    simp only [cond_false] at h
    by_cases e1:j.state=1
    ·rw [show (j.state==1)=true by simpa using e1] at h
     simp only [cond_true] at h
     cases hq:QB3 j with
     | false=>rw [hq] at h;cases h
     | true =>
      unfold QB3 at hq
      simp only [Bool.and_eq_true,beq_iff_eq,Bool.or_eq_true] at hq
      obtain ⟨⟨⟨r1,r2⟩,r3⟩,r4⟩:=hq
      rcases r4 with ⟨r5,r6⟩|⟨⟨r5,r6⟩,_⟩
      ·exact fin (by omega) (by omega) (by omega) (by omega) (by omega) (by omega)
      ·exact fin (by omega) (by have:=QWc r5;omega) (option_in r6 hs2) (by omega) (by omega) (by omega)
    ·rw [show (j.state==1)=false by simpa using e1] at h
     simp only [cond_false] at h
     by_cases e2:j.state=2
     ·rw [show (j.state==2)=true by simpa using e2] at h
      simp only [cond_true] at h
      cases hq:Qh3 j with
      | false=>rw [hq] at h;cases h
      | true =>
       unfold Qh3 at hq
       cases h4:(((((((!(Qc1 j j.choice).2)||j.held)||(!(QL2 j.start)))||(!(QL2 j.promise)))||(decide (j.promise<j.start)))||(!(QL2 j.limit)))||((w64 (j.limit - j.start))!=(Qc1 j j.choice).1.wall)) with
       | true=>rw [h4] at hq;cases hq
       | false =>
        rw [h4] at hq
        simp only [cond_false,Bool.and_eq_true] at hq
        have p1:=(or_f h4).1
        have t1:QL2 j.limit=true:=by simpa using (or_f p1).2
        have p2:=(or_f (or_f p1).1).1
        have t2:QL2 j.promise=true:=by simpa using (or_f p2).2
        have p3:=(or_f p2).1
        have t3:QL2 j.start=true:=by simpa using (or_f p3).2
        have t4:(Qc1 j j.choice).2=true:=by simpa using (or_f (or_f p3).1).1
        have n1:=hq.1
        unfold Q0a at n1
        refine fin (by omega) (by have:=QWc t2;omega) (option_in t4 hs2) (QWc t3) (QWc t1) (Qre hw fun k hk=>?_)
        by_cases hk64:k<64
        ·have n2:=(Qna (Qoc _)).1 n1 k hk64
         have hA:QF4 48=281474976710655:=by decide
         rw [hA,Qyb hw (by unfold U64;omega)] at n2
         have hz:tb 281474976710655 k=false:=by
          unfold tb
          rw [show Int.toNat 281474976710655=2 ^ 48 - 1 by decide,Nat.testBit_two_pow_sub_one]
          simp;omega
         rw [hz] at n2
         simpa using n2
        ·exact QUc hw (by omega)
     ·rw [show (j.state==2)=false by simpa using e2] at h
      simp only [cond_false] at h
      cases hq0:Qz7 j.state with
      | false=>rw [hq0] at h;cases h
      | true =>
       rw [hq0] at h
       cases hq:QP3 j with
       | false=>rw [hq] at h;cases h
       | true =>
        unfold Qz7 at hq0
        unfold QP3 at hq
        simp only [Bool.and_eq_true,beq_iff_eq,decide_eq_true_eq] at hq hq0
        obtain ⟨⟨⟨⟨⟨⟨r1,r2⟩,r3⟩,r4⟩,r5⟩,r6⟩,r7⟩:=hq
        exact fin (by omega) (by omega) (by omega) (QWc r2) (QWc r3) (by omega)
theorem mem_getD' {α:Type} (d:α) {l:List α} {x:α} (h:x ∈ l):∃ k,k<l.length∧l.getD k d=x:=by
 obtain ⟨k,hk,e⟩:=List.getElem_of_mem h
 exact ⟨k,hk,by rw [← e];simp [List.getD,hk]⟩
theorem plan_more {s:State} (h:QH3 s=0):(0<=s.now∧s.now<=1000000)∧QD5 s.books=0∧QY3 s.ledger=0:=by
 unfold QH3 at h
 cases h1:((Qm5 s != 0)||(QY3 s.ledger != 0)) with
 | true=>rw [h1] at h;cases h
 | false =>
  have hr:Qm5 s=0:=by simpa using (or_f h1).1
  have hl:QY3 s.ledger=0:=by simpa using (or_f h1).2
  unfold Qm5 at hr
  cases h2:(((((decide (s.now<0))||(decide (s.now > 1000000)))||((QI1 s.nodes)!=0))||((QR4 s.jobs)!=0))||((QD5 s.books)!=0)) with
  | true=>rw [h2] at hr;cases hr
  | false =>
   have h3:=(or_f (or_f (or_f h2).1).1).1
   simp only [Bool.or_eq_false_iff,decide_eq_false_iff_not] at h3
   exact ⟨by omega,by simpa using (or_f h2).2,hl⟩
theorem next_in {n l:Int} (h:QF1 n l=true):1<=n∧n<=100000:=by
 unfold QF1 at h
 simp only [Bool.and_eq_true,decide_eq_true_eq] at h
 omega
theorem state_ok {s:State} (hw:Words s) (h:Qm1 s=0) (hr:s.resizes.length<=255) (ht:∀ j ∈ s.jobs,fitT j.name∧fitT j.user∧fitT j.account):Qs6 s:=by
 obtain ⟨hp,_⟩:=check_parts h
 obtain ⟨hfl,htb⟩:=QC8 hp
 obtain ⟨hnow,hbk,hld⟩:=plan_more hp
 obtain ⟨hn,hn48⟩:=nodes_ok hfl
 obtain ⟨hj40,hjs,hpw⟩:=QTc htb
 have hp1:Qh6 s=0:=by rw [← plan_eq s hw.sz hw.jobs];exact hp
 have h2:Ql2 s=0:=by rw [← Q1e hw];exact h
 obtain ⟨⟨hnj,hnb⟩,h3,_⟩:=(QPd hp1).1.1 h2
 have hnj:=next_in hnj
 have hnb:=next_in hnb
 refine ⟨ok4 (by omega) (by omega),ok4 (by omega) (by omega),ok4 (by omega) (by omega),hn,⟨by omega,fun x hx=>job_ok (hw.jobs x hx) (hjs x hx) (ht x hx)⟩,⟨hr,fun r hrm=>?_⟩,books_ok hbk,ledger_ok hld⟩
 obtain ⟨k,hk,e⟩:=mem_getD' Resize.zero hrm
 have h4:=h3 k hk
 unfold rzR at h4
 rw [e,Bool.and_eq_true] at h4
 have hre:=h4.1
 have hbase:=hre
 unfold QZ2 at hbase
 cases hq:(((((!(Qf0 s r.job).2)||((Qf0 s r.job).1.shape.kind != 3))||(r.nodes==0))||(decide (r.since<0)))||(decide (r.since > 1000000))) with
 | true=>rw [hq] at hbase;cases hbase
 | false =>
  have q1:=of_decide_eq_false (or_f hq).2
  have q2:=of_decide_eq_false (or_f (or_f hq).1).2
  have hrun:(Qf0 s r.job).2=true:=by simpa using (or_f (or_f (or_f (or_f hq).1).1).1).1
  by_cases hx:∃ x ∈ s.jobs,x.id=r.job
  ·obtain ⟨x,hxm,hid⟩:=hx
   have hb:=QHb (hjs x hxm)
   have hs:=Qnf hpw hxm
   rw [hid] at hs
   by_cases h2s:x.state=2
   ·rw [if_pos h2s] at hs
    have hiff:=(ref_iff s r x (hw.nodes r hrm) (hw.said r hrm) (hw.jobs x hxm) (by omega) hs).1 hre
    obtain ⟨_,hsub,hown,_⟩:=hiff
    have hn0:∀ k,48<=k->tb r.nodes k=false:=fun k hk=>by
     by_cases hk64:k<64
     ·cases hb:tb r.nodes k with
      | false=>rfl
      | true=>have:=(hown k hk64 hb).1;omega
     ·exact QUc (hw.nodes r hrm) (by omega)
    have hs0:∀ k,48<=k->tb r.said k=false:=fun k hk=>by
     by_cases hk64:k<64
     ·cases hb:tb r.said k with
      | false=>rfl
      | true=>have:=hsub k hk64 hb;rw [hn0 k hk] at this;cases this
     ·exact QUc (hw.said r hrm) (by omega)
    exact ⟨ok4 (by omega) (by omega),trivial,Qre (hw.nodes r hrm) hn0,Qre (hw.said r hrm) hs0,ok4 (by omega) (by omega)⟩
   ·rw [if_neg h2s] at hs
    rw [hs] at hrun
    cases hrun
  ·rw [Qmf r.job (fun x hxm hid=>hx ⟨x,hxm,hid⟩)] at hrun
   cases hrun
end Go.Proofs.YtgjcljceccfgjaaGreatDoor
namespace Go.Proofs.YtgjcljceccfgjaaGreatDoor
set_option linter.unusedSimpArgs false
set_option linter.unusedVariables false
open Go.Fw
theorem t_fit {f:Ref28From} (h:f.sz):fitT (Q60 f).1:=by
 have hz:f.s.size<=4294967296:=h
 show (Q60 f).1.size<=65535
 unfold Q60
 cases ((QW1 f.s f.at_).2.2 != 0) with
 | true=>exact Nat.zero_le _
 | false =>
  simp only [cond_false]
  unfold QW1
  cases hc:((Qd0 f.s f.at_ 2).2.2 != 0) with
  | true=>exact Nat.zero_le _
  | false =>
   have hq:=Q57 hz hc
   simp only [cond_false]
   cases (decide ((Qd0 f.s f.at_ 2).1 > (w64 ((ByteArray.size f.s:Int) - (Qd0 f.s f.at_ 2).2.1)))) with
   | true=>exact Nat.zero_le _
   | false =>
    have e:w64 ((Qd0 f.s f.at_ 2).2.1+(Qd0 f.s f.at_ 2).1)=(Qd0 f.s f.at_ 2).2.1+(Qd0 f.s f.at_ 2).1:=wr (by omega)
    simp only [cond_false,ByteArray.size_extract,e]
    omega
section
variable {α σ:Type} {f:Ref28From->α × Ref28From} {G:Nat->Int->Ref28From->σ->Int × Ref28From × σ} {put:σ->α->σ} {fin:σ->σ} {z0:σ}
theorem Qgc (hG:∀ m k c a,G (m+1) k c a=bif decide (k > 0) then G m (w64 (k - 1)) (f c).2 (put a (f c).1) else (k,c,fin a)) (h0:∀ k c a,G 0 k c a=(0,Ref28From.zero,z0)) (P:σ->Prop) (hz:P z0) (hp:∀ a c,Ref28From.sz c->P a->P (put a (f c).1)) (hf:∀ c,Ref28From.sz c->(f c).2.sz) (hfin:∀ a,P a->P (fin a)) :
  ∀ (m:Nat) (k:Int) (c:Ref28From) (a:σ),c.sz->P a->(G m k c a).2.1.sz∧P (G m k c a).2.2
 | 0,k,c,a,_,_=>by rw [h0];exact ⟨Ref28From.szz _,hz⟩
 | m+1,k,c,a,hc,ha=>by
  rw [hG]
  cases decide (k > 0) with
  | true=>exact Qgc hG h0 P hz hp hf hfin m _ _ _ (hf c hc) (hp a c hc ha)
  | false=>exact ⟨hc,hfin a ha⟩
theorem Qcg (hG:∀ m k c a,G (m+1) k c a=bif decide (k > 0) then G m (w64 (k - 1)) (f c).2 (put a (f c).1) else (k,c,fin a)) (h0:∀ k c a,G 0 k c a=(0,Ref28From.zero,z0)) (len:σ->Nat) (hz:len z0=0) (hp:∀ a x,len (put a x)<=len a+1) (hfin:∀ a,len (fin a)<=len a) :
  ∀ (m:Nat) (k:Int) (c:Ref28From) (a:σ),len (G (m+1) k c a).2.2<=len a+m
 | 0,k,c,a=>by
  rw [hG]
  cases decide (k > 0) with
  | true=>show len (G 0 _ _ _).2.2<=_;rw [h0];show len z0<=_;omega
  | false=>have:=hfin a;show len (fin a)<=_;omega
 | m+1,k,c,a=>by
  rw [hG]
  cases decide (k > 0) with
  | true =>
   have h1:=Qcg hG h0 len hz hp hfin m (w64 (k - 1)) (f c).2 (put a (f c).1)
   have h2:=hp a (f c).1
   show len (G (m+1) _ _ _).2.2<=_
   omega
  | false=>have:=hfin a;show len (fin a)<=_;omega
end
def JF (y:Job):Prop:=fitT y.name∧fitT y.user∧fitT y.account
theorem JF.zero:JF Job.zero:=⟨Nat.zero_le _,Nat.zero_le _,Nat.zero_le _⟩
theorem k1_fit (k:Int) (c:Ref28From) (c2:Job) (hc:c.sz) (hP:JF c2):JF (Qa2 k c c2).1∧U64 (Qa2 k c c2).1.nodes:=by
 unfold Qa2
 have hz:(Q10 ((Q10 ((Q10 ((Q10 ((Q10 c 1).2) 1).2) 4).2) 1).2) 1).2.sz:=ref28_from_n_z (ref28_from_n_z (ref28_from_n_z (ref28_from_n_z (ref28_from_n_z hc))))
 have q:=Qgc (f:=fun c=>((⟨(Q10 c 1).1,(Q10 ((Q10 c 1).2) 4).1⟩:Dep),(Q10 ((Q10 c 1).2) 4).2)) (G:=Qe1) (put:=fun (c2:Job) x=>{ c2 with after:=(c2.after++[x]) }) (fin:=id) (z0:=Job.zero) (fun _ _ _ _=>rfl) (fun _ _ _=>rfl) JF JF.zero (fun a c _ h=>h) (fun c h=>ref28_from_n_z (ref28_from_n_z h)) (fun a h=>h)
 refine ⟨?_,Qoc _⟩
 exact (q _ _ _ { c2 with shape:=(⟨c2.shape.kind,c2.shape.alts,(Q10 c 1).1,(Q10 ((Q10 c 1).2) 1).1,(Q10 ((Q10 ((Q10 c 1).2) 1).2) 4).1⟩:Shape),prio:=(Q10 ((Q10 ((Q10 ((Q10 c 1).2) 1).2) 4).2) 1).1,after:=[] } hz hP).2
theorem j_fit {f:Ref28From} (h:f.sz):JF (QP1 f).1∧U64 (QP1 f).1.nodes:=by
 have z1:=ref28_from_n_z (w:=4) h
 have z2:=ref28_from_t_z z1
 have z3:=ref28_from_t_z z2
 have z4:=ref28_from_t_z z3
 have q:=Qgc (f:=fun c=>((⟨(Q10 c 1).1,(Q10 ((Q10 c 1).2) 4).1⟩:Alt),(Q10 ((Q10 c 1).2) 4).2)) (G:=Qp1) (put:=fun (c2:Job) x=>{ c2 with shape:={ c2.shape with alts:=(c2.shape.alts++[x]) },after:=[] }) (fin:=fun c2=>{ c2 with after:=[] }) (z0:=Job.zero) (fun _ _ _ _=>rfl) (fun _ _ _=>rfl) JF JF.zero (fun a c _ h=>h) (fun c h=>ref28_from_n_z (ref28_from_n_z h)) (fun a h=>h)
 have q2:=fun m k c2 (h2:JF c2)=>q m k (Q10 ((Q10 ((Q60 ((Q60 ((Q60 ((Q10 f 4).2)).2)).2)).2) 1).2) 1).2 c2 (ref28_from_n_z (ref28_from_n_z z4)) h2
 unfold QP1
 exact k1_fit _ _ _ (q2 _ _ _ ⟨t_fit z1,t_fit z2,t_fit z3⟩).1 (q2 _ _ _ ⟨t_fit z1,t_fit z2,t_fit z3⟩).2
def PW (a:State):Prop:=(∀ y ∈ a.jobs,(JF y∧U64 y.nodes)∧y.szN 65536)∧(∀ r ∈ a.resizes,U64 r.nodes∧U64 r.said)∧(∀ y ∈ a.ledger,y.szN 65536)
def tot (a:State):Nat:=a.nodes.length+a.jobs.length+a.resizes.length+a.books.length+a.ledger.length
theorem PW.zero:PW State.zero:=⟨fun _ h=>absurd h List.not_mem_nil,fun _ h=>absurd h List.not_mem_nil,fun _ h=>absurd h List.not_mem_nil⟩
theorem n255 (f:Ref28From):(Q10 f 1).1.toNat<=255:=by
 have:=QN2 (α:=Node) f
 simp only [List.length_nil] at this
 omega
theorem rest_size {b:ByteArray} (c:Ref28From) (c2:State) (k:Int) (hc:c.sz) (hP:PW c2) (ht:tot c2<=256):∃ k4 c9 c10,QD3 b k c c2=QE3 b k4 c9 c10∧PW c10∧tot c10<=1280∧c10.resizes.length<=255:=by
 have nil:∀ {α:Type} {Q:α->Prop},∀ y ∈ ([]:List α),Q y:=fun y hy=>absurd hy List.not_mem_nil
 have i2:=Qgc (f:=QP1) (G:=Qn2) (put:=fun (c4:State) y=>⟨c4.now,c4.nodes,(c4.jobs++[y]),[],[],[],c4.nextJob,c4.nextBook⟩) (fin:=fun c4=>{ c4 with resizes:=[],books:=[],ledger:=[] }) (z0:=State.zero) (fun _ _ _ _=>rfl) (fun _ _ _=>rfl) PW PW.zero
  (fun a c hc h=>⟨fun y hy=>(List.mem_append.1 hy).elim (h.1 y) (fun hy=>by rw [List.mem_singleton.1 hy];exact ⟨j_fit hc,Qob hc⟩),nil,nil⟩) (fun c h=>ref28_from_j_z h) (fun a h=>⟨h.1,nil,nil⟩)
 have i3:=Qgc (f:=fun c5=>((⟨(Q10 c5 4).1,((Q10 ((Q10 c5 4).2) 1).1==1),(wu64 (Q10 ((Q10 ((Q10 c5 4).2) 1).2) 8).1),(wu64 (Q10 ((Q10 ((Q10 ((Q10 c5 4).2) 1).2) 8).2) 8).1),(Q10 ((Q10 ((Q10 ((Q10 ((Q10 c5 4).2) 1).2) 8).2) 8).2) 4).1⟩:Resize),(Q10 ((Q10 ((Q10 ((Q10 ((Q10 c5 4).2) 1).2) 8).2) 8).2) 4).2)) (G:=Q82) (put:=fun (c6:State) y=>{ c6 with resizes:=(c6.resizes++[y]),books:=[],ledger:=[] }) (fin:=fun c4=>{ c4 with books:=[],ledger:=[] }) (z0:=State.zero) (fun _ _ _ _=>rfl) (fun _ _ _=>rfl) PW PW.zero
  (fun a c hc h=>⟨h.1,fun y hy=>(List.mem_append.1 hy).elim (h.2.1 y) (fun hy=>by rw [List.mem_singleton.1 hy];exact ⟨Qoc _,Qoc _⟩),nil⟩) (fun c h=>ref28_from_n_z (ref28_from_n_z (ref28_from_n_z (ref28_from_n_z (ref28_from_n_z h))))) (fun a h=>⟨h.1,h.2.1,nil⟩)
 have i4:=Qgc (f:=fun c7=>((⟨(Q10 c7 4).1,(Q10 ((Q10 c7 4).2) 4).1,(Q10 ((Q10 ((Q10 c7 4).2) 4).2) 4).1,(Q10 ((Q10 ((Q10 ((Q10 c7 4).2) 4).2) 4).2) 1).1⟩:Book),(Q10 ((Q10 ((Q10 ((Q10 c7 4).2) 4).2) 4).2) 1).2)) (G:=Q92) (put:=fun (c6:State) y=>{ c6 with books:=(c6.books++[y]),ledger:=[] }) (fin:=fun c4=>{ c4 with ledger:=[] }) (z0:=State.zero) (fun _ _ _ _=>rfl) (fun _ _ _=>rfl) PW PW.zero
  (fun a c hc h=>⟨h.1,h.2.1,nil⟩) (fun c h=>ref28_from_n_z (ref28_from_n_z (ref28_from_n_z (ref28_from_n_z h)))) (fun a h=>⟨h.1,h.2.1,nil⟩)
 have i5:=Qgc (f:=fun c9=>((⟨(Q60 c9).1,(Q60 ((Q60 c9).2)).1,(Q10 ((Q60 ((Q60 c9).2)).2) 8).1,(Q10 ((Q10 ((Q60 ((Q60 c9).2)).2) 8).2) 8).1⟩:Usage),(Q10 ((Q10 ((Q60 ((Q60 c9).2)).2) 8).2) 8).2)) (G:=Qo2) (put:=fun (c6:State) y=>{ c6 with ledger:=(c6.ledger++[y]) }) (fin:=id) (z0:=State.zero) (fun _ _ _ _=>rfl) (fun _ _ _=>rfl) PW PW.zero
  (fun a c hc h=>⟨h.1,h.2.1,fun y hy=>(List.mem_append.1 hy).elim (h.2.2 y) (fun hy=>by rw [List.mem_singleton.1 hy];exact ⟨Qv3 hc,Qv3 (ref28_from_t_z hc)⟩)⟩) (fun c h=>ref28_from_n_z (ref28_from_n_z (ref28_from_t_z (ref28_from_t_z h)))) (fun a h=>h)
 have l2:=Qcg (f:=QP1) (G:=Qn2) (put:=fun (c4:State) y=>⟨c4.now,c4.nodes,(c4.jobs++[y]),[],[],[],c4.nextJob,c4.nextBook⟩) (fin:=fun c4=>{ c4 with resizes:=[],books:=[],ledger:=[] }) (z0:=State.zero) (fun _ _ _ _=>rfl) (fun _ _ _=>rfl) tot rfl (fun a x=>by simp [tot];omega) (fun a=>by simp [tot];omega)
 have l3:=Qcg (f:=fun c5=>((⟨(Q10 c5 4).1,((Q10 ((Q10 c5 4).2) 1).1==1),(wu64 (Q10 ((Q10 ((Q10 c5 4).2) 1).2) 8).1),(wu64 (Q10 ((Q10 ((Q10 ((Q10 c5 4).2) 1).2) 8).2) 8).1),(Q10 ((Q10 ((Q10 ((Q10 ((Q10 c5 4).2) 1).2) 8).2) 8).2) 4).1⟩:Resize),(Q10 ((Q10 ((Q10 ((Q10 ((Q10 c5 4).2) 1).2) 8).2) 8).2) 4).2)) (G:=Q82) (put:=fun (c6:State) y=>{ c6 with resizes:=(c6.resizes++[y]),books:=[],ledger:=[] }) (fin:=fun c4=>{ c4 with books:=[],ledger:=[] }) (z0:=State.zero) (fun _ _ _ _=>rfl) (fun _ _ _=>rfl) tot rfl (fun a x=>by simp [tot];omega) (fun a=>by simp [tot];omega)
 have r3:=Qcg (f:=fun c5=>((⟨(Q10 c5 4).1,((Q10 ((Q10 c5 4).2) 1).1==1),(wu64 (Q10 ((Q10 ((Q10 c5 4).2) 1).2) 8).1),(wu64 (Q10 ((Q10 ((Q10 ((Q10 c5 4).2) 1).2) 8).2) 8).1),(Q10 ((Q10 ((Q10 ((Q10 ((Q10 c5 4).2) 1).2) 8).2) 8).2) 4).1⟩:Resize),(Q10 ((Q10 ((Q10 ((Q10 ((Q10 c5 4).2) 1).2) 8).2) 8).2) 4).2)) (G:=Q82) (put:=fun (c6:State) y=>{ c6 with resizes:=(c6.resizes++[y]),books:=[],ledger:=[] }) (fin:=fun c4=>{ c4 with books:=[],ledger:=[] }) (z0:=State.zero) (fun _ _ _ _=>rfl) (fun _ _ _=>rfl) (fun a=>a.resizes.length) rfl (fun a x=>by simp) (fun a=>by simp)
 have l4:=Qcg (f:=fun c7=>((⟨(Q10 c7 4).1,(Q10 ((Q10 c7 4).2) 4).1,(Q10 ((Q10 ((Q10 c7 4).2) 4).2) 4).1,(Q10 ((Q10 ((Q10 ((Q10 c7 4).2) 4).2) 4).2) 1).1⟩:Book),(Q10 ((Q10 ((Q10 ((Q10 c7 4).2) 4).2) 4).2) 1).2)) (G:=Q92) (put:=fun (c6:State) y=>{ c6 with books:=(c6.books++[y]),ledger:=[] }) (fin:=fun c4=>{ c4 with ledger:=[] }) (z0:=State.zero) (fun _ _ _ _=>rfl) (fun _ _ _=>rfl) tot rfl (fun a x=>by simp [tot];omega) (fun a=>by simp [tot])
 have r4:=Qgc (f:=fun c7=>((⟨(Q10 c7 4).1,(Q10 ((Q10 c7 4).2) 4).1,(Q10 ((Q10 ((Q10 c7 4).2) 4).2) 4).1,(Q10 ((Q10 ((Q10 ((Q10 c7 4).2) 4).2) 4).2) 1).1⟩:Book),(Q10 ((Q10 ((Q10 ((Q10 c7 4).2) 4).2) 4).2) 1).2)) (G:=Q92) (put:=fun (c6:State) y=>{ c6 with books:=(c6.books++[y]),ledger:=[] }) (fin:=fun c4=>{ c4 with ledger:=[] }) (z0:=State.zero) (fun _ _ _ _=>rfl) (fun _ _ _=>rfl) (fun a=>a.resizes.length<=255) (by decide) (fun a c _ h=>h) (fun c h=>ref28_from_n_z (ref28_from_n_z (ref28_from_n_z (ref28_from_n_z h)))) (fun a h=>h)
 have l5:=Qcg (f:=fun c9=>((⟨(Q60 c9).1,(Q60 ((Q60 c9).2)).1,(Q10 ((Q60 ((Q60 c9).2)).2) 8).1,(Q10 ((Q10 ((Q60 ((Q60 c9).2)).2) 8).2) 8).1⟩:Usage),(Q10 ((Q10 ((Q60 ((Q60 c9).2)).2) 8).2) 8).2)) (G:=Qo2) (put:=fun (c6:State) y=>{ c6 with ledger:=(c6.ledger++[y]) }) (fin:=id) (z0:=State.zero) (fun _ _ _ _=>rfl) (fun _ _ _=>rfl) tot rfl (fun a x=>by simp [tot];omega) (fun a=>Nat.le_refl _)
 have r5:=Qgc (f:=fun c9=>((⟨(Q60 c9).1,(Q60 ((Q60 c9).2)).1,(Q10 ((Q60 ((Q60 c9).2)).2) 8).1,(Q10 ((Q10 ((Q60 ((Q60 c9).2)).2) 8).2) 8).1⟩:Usage),(Q10 ((Q10 ((Q60 ((Q60 c9).2)).2) 8).2) 8).2)) (G:=Qo2) (put:=fun (c6:State) y=>{ c6 with ledger:=(c6.ledger++[y]) }) (fin:=id) (z0:=State.zero) (fun _ _ _ _=>rfl) (fun _ _ _=>rfl) (fun a=>a.resizes.length<=255) (by decide) (fun a c _ h=>h) (fun c h=>ref28_from_n_z (ref28_from_n_z (ref28_from_t_z (ref28_from_t_z h)))) (fun a h=>h)
 unfold QD3
 have a2:=i2 ((Q10 c 1).1.toNat+1) (Q10 c 1).1 (Q10 c 1).2 (⟨c2.now,c2.nodes,[],[],[],[],c2.nextJob,c2.nextBook⟩:State) (ref28_from_n_z hc) ⟨nil,nil,nil⟩
 have b2:=l2 ((Q10 c 1).1.toNat) (Q10 c 1).1 (Q10 c 1).2 (⟨c2.now,c2.nodes,[],[],[],[],c2.nextJob,c2.nextBook⟩:State)
 have t2:tot (⟨c2.now,c2.nodes,[],[],[],[],c2.nextJob,c2.nextBook⟩:State)<=tot c2:=by simp [tot];omega
 have m2:=n255 c
 generalize Qn2 ((Q10 c 1).1.toNat+1) (Q10 c 1).1 (Q10 c 1).2 (⟨c2.now,c2.nodes,[],[],[],[],c2.nextJob,c2.nextBook⟩:State)=g2 at a2 b2 ⊢
 obtain ⟨k2,c3,c4⟩:=g2
 dsimp only at a2 b2 ⊢
 unfold Qk4
 have a3:=i3 ((Q10 c3 1).1.toNat+1) (Q10 c3 1).1 (Q10 c3 1).2 { c4 with resizes:=[],books:=[],ledger:=[] } (ref28_from_n_z a2.1) ⟨a2.2.1,nil,nil⟩
 have b3:=l3 ((Q10 c3 1).1.toNat) (Q10 c3 1).1 (Q10 c3 1).2 { c4 with resizes:=[],books:=[],ledger:=[] }
 have s3:=r3 ((Q10 c3 1).1.toNat) (Q10 c3 1).1 (Q10 c3 1).2 { c4 with resizes:=[],books:=[],ledger:=[] }
 have t3:tot { c4 with resizes:=[],books:=[],ledger:=[] }<=tot c4:=by simp [tot];omega
 have m3:=n255 c3
 generalize Q82 ((Q10 c3 1).1.toNat+1) (Q10 c3 1).1 (Q10 c3 1).2 { c4 with resizes:=[],books:=[],ledger:=[] }=g3 at a3 b3 s3 ⊢
 obtain ⟨k3,c5,c6⟩:=g3
 dsimp only at a3 b3 s3 ⊢
 unfold Ql4
 have s3':c6.resizes.length<=255:=by simp only [List.length_nil] at s3;omega
 have a4:=i4 ((Q10 c5 1).1.toNat+1) (Q10 c5 1).1 (Q10 c5 1).2 { c6 with books:=[],ledger:=[] } (ref28_from_n_z a3.1) ⟨a3.2.1,a3.2.2.1,nil⟩
 have b4:=l4 ((Q10 c5 1).1.toNat) (Q10 c5 1).1 (Q10 c5 1).2 { c6 with books:=[],ledger:=[] }
 have s4:=r4 ((Q10 c5 1).1.toNat+1) (Q10 c5 1).1 (Q10 c5 1).2 { c6 with books:=[],ledger:=[] } (ref28_from_n_z a3.1) s3'
 have t4:tot { c6 with books:=[],ledger:=[] }<=tot c6:=by simp [tot];omega
 have m4:=n255 c5
 generalize Q92 ((Q10 c5 1).1.toNat+1) (Q10 c5 1).1 (Q10 c5 1).2 { c6 with books:=[],ledger:=[] }=g4 at a4 b4 s4 ⊢
 obtain ⟨k4,c7,c8⟩:=g4
 dsimp only at a4 b4 s4 ⊢
 unfold Qm4
 have a5:=i5 ((Q10 c7 1).1.toNat+1) (Q10 c7 1).1 (Q10 c7 1).2 { c8 with ledger:=[] } (ref28_from_n_z a4.1) ⟨a4.2.1,a4.2.2.1,nil⟩
 have b5:=l5 ((Q10 c7 1).1.toNat) (Q10 c7 1).1 (Q10 c7 1).2 { c8 with ledger:=[] }
 have s5:=r5 ((Q10 c7 1).1.toNat+1) (Q10 c7 1).1 (Q10 c7 1).2 { c8 with ledger:=[] } (ref28_from_n_z a4.1) s4.2
 have t5:tot { c8 with ledger:=[] }<=tot c8:=by simp [tot]
 have m5:=n255 c7
 exact ⟨_,_,_,rfl,a5.2,by omega,s5.2⟩
end Go.Proofs.YtgjcljceccfgjaaGreatDoor
namespace Go.Proofs.YtgjcljceccfgjaaGreatDoor
set_option linter.unusedSimpArgs false
set_option linter.unusedVariables false
open Go.Fw
set_option maxHeartbeats 4000000
theorem Job.mono {N M:Nat} (hm:N<=M) {x:Job} (h:x.szN N):x.szN M:=⟨Nat.le_trans h.1 hm,Nat.le_trans h.2.1 hm,Nat.le_trans h.2.2.1 hm,Nat.le_trans h.2.2.2.1 hm,Nat.le_trans h.2.2.2.2 hm⟩
theorem Usage.mono {N M:Nat} (hm:N<=M) {x:Usage} (h:x.szN N):x.szN M:=⟨Nat.le_trans h.1 hm,Nat.le_trans h.2 hm⟩
theorem State.mono {N M:Nat} (hm:N<=M) {x:State} (h:x.szN N):x.szN M :=
 ⟨Nat.le_trans h.1 hm,Nat.le_trans h.2.1 hm,fun y hy=>Job.mono hm (h.2.2.1 y hy),Nat.le_trans h.2.2.2.1 hm,Nat.le_trans h.2.2.2.2.1 hm,Nat.le_trans h.2.2.2.2.2.1 hm,fun y hy=>Usage.mono hm (h.2.2.2.2.2.2 y hy)⟩
theorem fit_sz {x:State} (h:Qs6 x):x.szN 65536:=by
 obtain ⟨_,_,_,k4,k5,k6,k7,k8⟩:=h
 exact ⟨Nat.le_trans k4.1 (by decide),Nat.le_trans k5.1 (by decide),fun y hy=>by
  obtain ⟨_,q2,q3,q4,q5,_,q7,_⟩:=k5.2 y hy
  exact ⟨Nat.le_trans q2 (by decide),Nat.le_trans q3 (by decide),Nat.le_trans q4 (by decide),Nat.le_trans q5.2.1.1 (by decide),Nat.le_trans q7.1 (by decide)⟩,Nat.le_trans k6.1 (by decide),Nat.le_trans k7.1 (by decide),Nat.le_trans k8.1 (by decide),fun y hy=>by
  obtain ⟨q1,q2,_⟩:=k8.2 y hy
  exact ⟨Nat.le_trans q1 (by decide),Nat.le_trans q2 (by decide)⟩⟩
theorem fit_words {x:State} (h:Qs6 x):Words x:=by
 have hs:=fit_sz h
 obtain ⟨_,_,_,k4,k5,k6,k7,k8⟩:=h
 refine ⟨State.mono (by decide) hs,fun y hy=>?_,fun r hr=>?_,fun r hr=>?_⟩
 ·obtain ⟨_,_,_,_,_,_,_,_,_,_,_,_,_,_,q,_⟩:=k5.2 y hy
  unfold U64;omega
 ·obtain ⟨_,_,q,_⟩:=k6.2 r hr
  unfold U64;omega
 ·obtain ⟨_,_,_,q,_⟩:=k6.2 r hr
  unfold U64;omega
theorem decode_sz {b:ByteArray} (hz:b.size<=4294967296):(Qv0 b).1.szN 65536:=by
 by_cases h:(Qv0 b).2=0
 ·exact fit_sz (Qp9 hz h).1
 ·rw [QCb h];exact State.szz _
theorem QR0 {b:ByteArray} (hz:b.size<=4294967296):(Qv0 b).1.sz:=State.mono (by decide) (decode_sz hz)
theorem r_err {x:State} (hc:Ql2 x ≠ 0):Qv1 x=(⟨#[]⟩,280):=by
 unfold Qv1
 have e:(Ql2 x != 0)=true:=by simpa using hc
 rw [e]
 rfl
theorem Q07 {b:ByteArray} (hz:b.size<=4294967296):Q34 b=Qv0 b:=by
 by_cases h:(Qv0 b).2=0
 ·obtain ⟨h1,h2,h3⟩:=Qp9 hz h
  have hw:=fit_words h1
  rw [r_decode hz h1 (by rw [← Q1e hw];exact h2) h3,← h]
 ·rw [QCb h]
  unfold Q34
  cases hn:((ByteArray.size b:Int)==0) with
  | true=>rfl
  | false =>
   simp only [cond_false]
   have z1:(Q10 (⟨b,1⟩:Ref28From) 4).2.sz:=ref28_from_n_z hz
   have z3:(Q10 ((Q10 ((Q10 (⟨b,1⟩:Ref28From) 4).2) 4).2) 4).2.sz:=ref28_from_n_z (ref28_from_n_z z1)
   generalize hy:(Q10 ((Q10 ((Q10 (⟨b,1⟩:Ref28From) 4).2) 4).2) 4).2=y at z3
   generalize hx0:(⟨(Q10 (⟨b,1⟩:Ref28From) 4).1,[],[],[],[],[],(Q10 ((Q10 (⟨b,1⟩:Ref28From) 4).2) 4).1,(Q10 ((Q10 ((Q10 (⟨b,1⟩:Ref28From) 4).2) 4).2) 4).1⟩:State)=x0
   have hP0:PW x0∧tot x0=0:=by rw [← hx0];exact ⟨⟨fun _ q=>absurd q List.not_mem_nil,fun _ q=>absurd q List.not_mem_nil,fun _ q=>absurd q List.not_mem_nil⟩,rfl⟩
   have nil:∀ {α:Type} {Q:α->Prop},∀ y ∈ ([]:List α),Q y:=fun y hy=>absurd hy List.not_mem_nil
   have i1:=Qgc (f:=fun c=>((⟨(Q10 c 1).1,(Q10 ((Q10 c 1).2) 4).1,(Q10 ((Q10 ((Q10 c 1).2) 4).2) 4).1,((Q10 ((Q10 ((Q10 ((Q10 c 1).2) 4).2) 4).2) 1).1==1),(Q10 ((Q10 ((Q10 ((Q10 ((Q10 c 1).2) 4).2) 4).2) 1).2) 1).1,(Q10 ((Q10 ((Q10 ((Q10 ((Q10 ((Q10 c 1).2) 4).2) 4).2) 1).2) 1).2) 4).1,(Q10 ((Q10 ((Q10 ((Q10 ((Q10 ((Q10 ((Q10 c 1).2) 4).2) 4).2) 1).2) 1).2) 4).2) 4).1⟩:Node),(Q10 ((Q10 ((Q10 ((Q10 ((Q10 ((Q10 ((Q10 c 1).2) 4).2) 4).2) 1).2) 1).2) 4).2) 4).2)) (G:=Qm2) (put:=fun (c2:State) y=>⟨c2.now,(c2.nodes++[y]),[],[],[],[],c2.nextJob,c2.nextBook⟩) (fin:=fun c2=>⟨c2.now,c2.nodes,[],[],[],[],c2.nextJob,c2.nextBook⟩) (z0:=State.zero) (fun _ _ _ _=>rfl) (fun _ _ _=>rfl) PW PW.zero (fun _ _ _ _=>⟨nil,nil,nil⟩) (fun c h=>ref28_from_n_z (ref28_from_n_z (ref28_from_n_z (ref28_from_n_z (ref28_from_n_z (ref28_from_n_z (ref28_from_n_z h))))))) (fun _ _=>⟨nil,nil,nil⟩)
   have l1:=Qcg (f:=fun c=>((⟨(Q10 c 1).1,(Q10 ((Q10 c 1).2) 4).1,(Q10 ((Q10 ((Q10 c 1).2) 4).2) 4).1,((Q10 ((Q10 ((Q10 ((Q10 c 1).2) 4).2) 4).2) 1).1==1),(Q10 ((Q10 ((Q10 ((Q10 ((Q10 c 1).2) 4).2) 4).2) 1).2) 1).1,(Q10 ((Q10 ((Q10 ((Q10 ((Q10 ((Q10 c 1).2) 4).2) 4).2) 1).2) 1).2) 4).1,(Q10 ((Q10 ((Q10 ((Q10 ((Q10 ((Q10 ((Q10 c 1).2) 4).2) 4).2) 1).2) 1).2) 4).2) 4).1⟩:Node),(Q10 ((Q10 ((Q10 ((Q10 ((Q10 ((Q10 ((Q10 c 1).2) 4).2) 4).2) 1).2) 1).2) 4).2) 4).2)) (G:=Qm2) (put:=fun (c2:State) y=>⟨c2.now,(c2.nodes++[y]),[],[],[],[],c2.nextJob,c2.nextBook⟩) (fin:=fun c2=>⟨c2.now,c2.nodes,[],[],[],[],c2.nextJob,c2.nextBook⟩) (z0:=State.zero) (fun _ _ _ _=>rfl) (fun _ _ _=>rfl) tot rfl (fun a x=>by simp [tot];omega) (fun a=>by simp [tot];omega)
   have a1:=i1 ((Q10 y 1).1.toNat+1) (Q10 y 1).1 (Q10 y 1).2 x0 (ref28_from_n_z z3) hP0.1
   have b1:=l1 (Q10 y 1).1.toNat (Q10 y 1).1 (Q10 y 1).2 x0
   have m1:=n255 y
   generalize Qm2 ((Q10 y 1).1.toNat+1) (Q10 y 1).1 (Q10 y 1).2 x0=g1 at a1 b1 ⊢
   obtain ⟨k4,c9,c10,e,hP,ht,hr⟩:=rest_size (b:=b) g1.2.1 g1.2.2 g1.1 a1.1 a1.2 (by omega)
   rw [e]
   unfold QE3
   cases hq:(((Qv1 c10).2 != 0)||(!(ByteArray.toList (Qv1 c10).1==ByteArray.toList b))) with
   | true=>rfl
   | false =>
    exfalso
    obtain ⟨q1,q2⟩:=or_f hq
    have q1:(Qv1 c10).2=0:=by simpa using q1
    have q2:(Qv1 c10).1=b:=(QP9 _ _).1 (by simpa using q2)
    have hc:Ql2 c10=0:=by
     by_cases hc:Ql2 c10=0
     ·exact hc
     ·rw [r_err hc] at q1;cases q1
    have hsz:c10.szN 65536:=by
     unfold tot at ht
     exact ⟨by omega,by omega,fun y hy=>(hP.1 y hy).2,by omega,by omega,by omega,hP.2.2⟩
    have hw:Words c10:=⟨State.mono (by decide) hsz,fun y hy=>(hP.1 y hy).1.2,fun r hr=>(hP.2.1 r hr).1,fun r hr=>(hP.2.1 r hr).2⟩
    have hs:Qm1 c10=0:=by rw [Q1e hw];exact hc
    have hfit:=state_ok hw hs hr (fun j hj=>(hP.1 j hj).1.1)
    rw [r_encode hc hfit] at q2
    have hb:Qi0 b=EImg c10:=by rw [← q2];exact QZ6 (Qpf c10)
    rw [Qsc hz hfit hs hb] at h
    exact h rfl
end Go.Proofs.YtgjcljceccfgjaaGreatDoor
namespace Go.Proofs.YtgjcljceccfgjaaGreatDoor
set_option linter.unusedSimpArgs false
set_option linter.unusedVariables false
open Go.Fw
set_option maxRecDepth 20000
set_option maxHeartbeats 4000000
attribute [local irreducible] ACalls AMoves
def Qe2 :Bool:=((((((((ByteArray.size ((QB0 (⟨0,([Node.zero]:List Node),[],[],[],[],1,1⟩:State)).1):Int)==37)&&((QB0 (⟨0,([Node.zero]:List Node),[],[],[],[],1,1⟩:State)).2==0))&&(((((QB0 (⟨0,([Node.zero]:List Node),[],[],[],[],1,1⟩:State)).1).data.toList.getD 0 0).toNat:Int)==73))&&(Q08 (⟨0,([Node.zero]:List Node),[],[],[],[],1,1⟩:State) ((Qv0 ((QB0 (⟨0,([Node.zero]:List Node),[],[],[],[],1,1⟩:State)).1)).1)))&&((Qv0 ((QB0 (⟨0,([Node.zero]:List Node),[],[],[],[],1,1⟩:State)).1)).2==0))&&((Qv0 ⟨#[]⟩).2==280))&&((QB0 State.zero).2==280))
theorem Q83 :∀ objs,AGives Tryz.prog 8 [] objs (Bo Qe2):=by
 generalize hR:Qe2=R;refine ga .nil lx (kp 10 []) Tryz.func8 ?_;(have hl:(QB0 (⟨0,([Node.zero]:List Node),[],[],[],[],1,1⟩:State)).1.size=37:=by kernel_rfl);refine Or.inl ?_;refine us (AGives.as2 (QE6 (⟨0,([Node.zero]:List Node),[],[],[],[],1,1⟩:State) (by first|(exact State.szz _)|first|(exact ⟨by decide,by decide,fun _ h=>absurd h List.not_mem_nil,by decide,by decide,by decide,fun _ h=>absurd h List.not_mem_nil⟩)|first|(omega)|first|(exact QR0 (by omega))|first|(exact Nat.zero_le _)|exact szA) (by first|exact State.szz _|exact ⟨by decide,by decide,fun _ h=>absurd h List.not_mem_nil,by decide,by decide,by decide,fun _ h=>absurd h List.not_mem_nil⟩) _) (av (Q4c (a1 (av (QS7 (c:=Node.cells) (d:=Node.zero) ([Node.zero]:List Node) rfl) (av (Qo5) (av (Qo5) (av (Qo5) (av (Qo5) (a1 (a1 .nil))))))))) .nil)) ?_;refine us (QX3 ((QB0 (⟨0,([Node.zero]:List Node),[],[],[],[],1,1⟩:State)).1) (by first|(exact State.szz _)|first|(exact ⟨by decide,by decide,fun _ h=>absurd h List.not_mem_nil,by decide,by decide,by decide,fun _ h=>absurd h List.not_mem_nil⟩)|first|(omega)|first|(exact QR0 (by omega))|first|(exact Nat.zero_le _)|exact szA) _) ?_;refine us (QX3 ⟨#[]⟩ (by first|(exact State.szz _)|first|(exact ⟨by decide,by decide,fun _ h=>absurd h List.not_mem_nil,by decide,by decide,by decide,fun _ h=>absurd h List.not_mem_nil⟩)|first|(omega)|first|(exact QR0 (by omega))|first|(exact Nat.zero_le _)|exact szA) _) ?_;refine us (AGives.as2 (QE6 State.zero (by first|(exact State.szz _)|first|(exact ⟨by decide,by decide,fun _ h=>absurd h List.not_mem_nil,by decide,by decide,by decide,fun _ h=>absurd h List.not_mem_nil⟩)|first|(omega)|first|(exact QR0 (by omega))|first|(exact Nat.zero_le _)|exact szA) (by first|exact State.szz _|exact ⟨by decide,by decide,fun _ h=>absurd h List.not_mem_nil,by decide,by decide,by decide,fun _ h=>absurd h List.not_mem_nil⟩) _) (av (Q4c (a1 (av (Qo5) (av (Qo5) (av (Qo5) (av (Qo5) (av (Qo5) (a1 (a1 .nil))))))))) .nil)) ?_;refine And.intro (by first|exact fun hg=>decide_eq_true (by first|((show (0:Int)<=0∧(0:Int)<(ByteArray.size _:Int);omega))|exact ckA)|exact gkA) ?_;(first|apply u2|apply u3|apply u4|apply us);exact AGives.as2 (Qnb (⟨0,([Node.zero]:List Node),[],[],[],[],1,1⟩:State) ((Qv0 ((QB0 (⟨0,([Node.zero]:List Node),[],[],[],[],1,1⟩:State)).1)).1) (by first|(exact State.szz _)|first|(exact ⟨by decide,by decide,fun _ h=>absurd h List.not_mem_nil,by decide,by decide,by decide,fun _ h=>absurd h List.not_mem_nil⟩)|first|(omega)|first|(exact QR0 (by omega))|first|(exact Nat.zero_le _)|exact szA) (by first|(exact State.szz _)|first|(exact ⟨by decide,by decide,fun _ h=>absurd h List.not_mem_nil,by decide,by decide,by decide,fun _ h=>absurd h List.not_mem_nil⟩)|first|(omega)|first|(exact QR0 (by omega))|first|(exact Nat.zero_le _)|exact szA) _) (av (Q4c (a1 (av (QS7 (c:=Node.cells) (d:=Node.zero) ([Node.zero]:List Node) rfl) (av (Qo5) (av (Qo5) (av (Qo5) (av (Qo5) (a1 (a1 .nil))))))))) (a1 .nil));obtain rfl:=foll hR rfl;exact Q30 lx sr
end Go.Proofs.YtgjcljceccfgjaaGreatDoor
namespace Go.Fw
set_option linter.unusedSimpArgs false
set_option linter.unusedVariables false
open Go.RowKit Go.ChangeShapes Go.WideShapes Go.Deep
theorem QC7 {C:Checked} {os:Os} {f:FuncId} {fn:Func} {s:ChangeSpec} {laid0:List (String × DataW Unit)} {conds:List PathCond} {apart fresh handsOn again:Bool} {H:Type} {enc:TypeId × Value->H} {Q:List AVal->Prop} {tb:TypeId}
  (own:ownKnob C.prog.godebug=none) (started:os.Started) (noInit:C.prog.inits.idxOf? f=none) (hfn:C.prog.funcs[f]? = some fn)
  (witness:∃ (w:World) (tape:Tape) (i:Input),w.os=os∧(w.forCall tape i).Shaped C.prog∧i.vars=[]∧Input.okWide C.prog (w.forCall tape i) .any w.heap.size f i ∧
   ((s.pre enc C.prog fn conds apart (w.forCall tape i).memory i.args∧laidMetH C.prog laid0 (w.forCall tape i).memory)∧sizedMet enc C.prog fn (OpenSpec.ofChange s) apart (w.forCall tape i).memory i.args)∧({}:Assume).holds C.prog (lone (Frame.enter C.prog f i.args .normal) [] (w.forCall tape i)))
  (hvars:s.vars=[]) (hres:fn.resultTypes = #[tb]) (hbool:C.prog.underlying tb=some .bool) (laid:laidOutB C.prog=true)
  (hts:fn.params.toList.all (fun t=>C.prog.readableRec t&&decide (t<C.prog.types.size))=true)
  (hspec:∀ ds:List (DataW H),ds.length=fn.params.size->s.fn H ds={ results:=[.lit (.bool true)],args:=ds })
  (hargs:ArgsAs C.prog fn.params.toList Q) (hlaw:∀ l,Q l->AGives C.prog f l [] (.lit (.bool true))) :
  ReturnsInHanded {} C os f .any (fun w args=>(s.pre enc C.prog fn conds apart w args∧laidMetH C.prog laid0 w)∧sizedMet enc C.prog fn (OpenSpec.ofChange s) apart w args) (s.post enc C.prog fn apart fresh handsOn again):=by
 refine returnsInHanded_of_change_and (X:=fun w _=>laidMetH C.prog laid0 w) (fun _ _ _ hh h=>h.of_heap hh) own started noInit hfn witness ?_
 intro W base args ds gs before hval hW hcnd _ _ _
 have hW':=hW
 obtain ⟨p,q,hA,hV,hpq,hfz,hnd⟩:=hW
 rw [hvars] at hV
 obtain ⟨rfl,rfl⟩:=trodVars_none hV
 rw [List.append_nil] at hpq
 subst hpq
 obtain ⟨l,hQ,hreps⟩:=hargs.read (base:=base) (vs:=args.toList) (fun j t v hj hv=>hval j t v (by simpa using hj) (by simpa using hv)) hA
 have hc:=law_calls (hlaw l hQ) hreps
 rw [show args.toList.toArray=args by simp] at hc
 refine hc.mono fun e W' ⟨he,hb⟩=>?_
 subst he
 have hlen:ds.length=fn.params.size:=by
  have:∀ {ts:List TypeId} {vs:List Value} {ds:List (DataW H)} {ps:List MemPlace},DataW.TrodAll enc C.prog W 0 (fun _=>true) true ts vs ds ps->ds.length=ts.length:=by
   intro ts
   induction ts with
   | nil=>intro vs ds ps h;obtain ⟨rfl,rfl,rfl⟩:=trodAll_nil h;rfl
   | cons t ts ih=>intro vs ds ps h;obtain ⟨v,vs',d,ds',p,q,rfl,rfl,rfl,hd,hrest⟩:=trodAll_cons h;simp [ih hrest]
  simpa using this hA
 have hfn2:=hspec ds hlen
 have hold:∀ p ∈ before,p.block<W.heap.size:=fun p hp=>by simpa using hW'.lt p hp
 have hR:∀ (b:Nat) (sp:Nat->Bool) (hd:Bool),DataW.TrodAll enc C.prog W' b sp hd fn.resultTypes.toList ((Value.bool true).resultList fn.resultTypes.size) (s.fn H (ds++[])).results []:=by
  intro b sp hd
  rw [List.append_nil,hfn2,hres]
  exact trodAll_cons_mk (shut_bool hbool _) trodAll_mk0
 have hAr:∀ sp:Nat->Bool,(∀ p ∈ before,sp p.block=true)->DataW.TrodAll enc C.prog W' 0 sp true fn.params.toList args.toList (s.fn H (ds++[])).args before:=by
  intro sp hsp
  rw [List.append_nil,hfn2]
  exact Q2e laid hb hts hA hold hsp
 have hVr:∀ sp:Nat->Bool,DataW.TrodVars enc C.prog W' sp s.vars (s.fn H (ds++[])).vars []:=by
  intro sp
  rw [List.append_nil,hfn2,hvars]
  rfl
 refine ⟨_,rfl,ds,[],before,[],before,[],hW',hR _ _ _,hAr _ (fun p hp=>by simpa using hold p hp),hVr _,hb.frame _,fun _=>⟨ok_one hres rfl (okWide_bool_mk hbool _),_,_,([]++before)++[],⟨[]++before,[],trodAll_append (hAr _ (fun _ _=>rfl)) (hR _ _ _),hVr _,rfl,?_,?_⟩,?_⟩⟩
 ·intro b off hp
  have hp:MemPlace.cell b off ∈ before:=by simpa using hp
  rw [hb.frozen (p:=⟨b,off,none⟩) (hold _ hp)]
  exact hfz b off (by simpa using hp)
 ·intro ha
  simpa using hnd ha
 ·intro p hp _
  simpa using hp
end Go.Fw
namespace Go.Proofs.YtgjcljceccfgjaaGreatDoor
set_option linter.unusedSimpArgs false
set_option linter.unusedVariables false
open Go.Fw
set_option maxRecDepth 100000
theorem ty2:Tryz.prog.underlying 9 = some (.string):=by kernel_rfl
end Go.Proofs.YtgjcljceccfgjaaGreatDoor
namespace Go.Proofs.YtgjcljceccfgjaaGreatDoor
set_option linter.unusedSimpArgs false
set_option linter.unusedVariables false
open Go.Fw
end Go.Proofs.YtgjcljceccfgjaaGreatDoor
namespace Go.Proofs.YtgjcljceccfgjaaGreatDoor
set_option linter.unusedSimpArgs false
set_option linter.unusedVariables false
open Go.Fw
end Go.Proofs.YtgjcljceccfgjaaGreatDoor
