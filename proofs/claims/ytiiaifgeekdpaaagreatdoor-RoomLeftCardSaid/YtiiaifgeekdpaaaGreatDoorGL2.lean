/-
  How arguments are read: structs of the program, with what is known of them. No condition.
  What is read is of a size that a machine holds. No condition.
  What is read as a word is one. No condition.
  How a list of numbers is read. No condition.
-/
import Derived.Test.YtiiaifgeekdpaaaGreatDoorG7
import Derived.Test.YtiiaifgeekdpaaaGreatDoorGL1
import Derived.Test.YtiiaifgeekdpaaaGreatDoorProg
namespace Go.Proofs.YtiiaifgeekdpaaaGreatDoor
set_option linter.unusedSimpArgs false
set_option linter.unusedVariables false
open Go.Fw
set_option maxRecDepth 100000
theorem ty3:Tryz.prog.underlying 44 = some (.int .u64):=by kernel_rfl
theorem ty2:Tryz.prog.underlying 9 = some (.string):=by kernel_rfl
theorem ty1:Tryz.prog.underlying 4 = some (.bool):=by kernel_rfl
theorem ty0:Tryz.prog.underlying 3 = some (.int .i64):=by kernel_rfl
def Node.wf (x:Node):Prop:=(Lit.int .i64 x.state).wf=true∧(Lit.int .i64 x.job).wf=true∧(Lit.int .i64 x.epoch).wf=true∧True∧(Lit.int .i64 x.want).wf=true∧(Lit.int .i64 x.since).wf=true∧(Lit.int .i64 x.asked).wf=true∧True
theorem readNode:ReadAs Tryz.prog 54 Node.cells Node.wf:=by
 have h:=ReadAs.struct (P:=Tryz.prog) (t:=54) rfl (by kernel_rfl) (.cons rfl (ReadAs.int ty0) (.cons rfl (ReadAs.int ty0) (.cons rfl (ReadAs.int ty0) (.cons rfl (ReadAs.bool ty1) (.cons rfl (ReadAs.int ty0) (.cons rfl (ReadAs.int ty0) (.cons rfl (ReadAs.int ty0) .nil)))))))
 exact h.map (fun p=>(⟨p.1,p.2.1,p.2.2.1,p.2.2.2.1,p.2.2.2.2.1,p.2.2.2.2.2.1,p.2.2.2.2.2.2.1⟩:Node)) (fun _=>rfl) (fun _ h=>h)
theorem readNodes:ReadAs Tryz.prog 22 (fun l=>[nodeL l]) fun l=>l.length<=maxLen ∧ ∀ a ∈ l,Node.wf a :=
 ReadAs.slice Node.zero rfl (by kernel_rfl) (by decide) readNode (fun _=>rfl)
def Alt.wf (x:Alt):Prop:=(Lit.int .i64 x.nodes).wf=true∧(Lit.int .i64 x.wall).wf=true∧True
theorem readAlt:ReadAs Tryz.prog 87 Alt.cells Alt.wf:=by
 have h:=ReadAs.struct (P:=Tryz.prog) (t:=87) rfl (by kernel_rfl) (.cons rfl (ReadAs.int ty0) (.cons rfl (ReadAs.int ty0) .nil))
 exact h.map (fun p=>(⟨p.1,p.2.1⟩:Alt)) (fun _=>rfl) (fun _ h=>h)
theorem readAlts:ReadAs Tryz.prog 40 (fun l=>[altL l]) fun l=>l.length<=maxLen ∧ ∀ a ∈ l,Alt.wf a :=
 ReadAs.slice Alt.zero rfl (by kernel_rfl) (by decide) readAlt (fun _=>rfl)
def Shape.wf (x:Shape):Prop:=(Lit.int .i64 x.kind).wf=true∧(x.alts.length<=maxLen ∧ ∀ a ∈ x.alts,Alt.wf a)∧(Lit.int .i64 x.min).wf=true∧(Lit.int .i64 x.max).wf=true∧(Lit.int .i64 x.wall).wf=true∧True
theorem readShape:ReadAs Tryz.prog 42 Shape.cells Shape.wf:=by
 have h:=ReadAs.struct (P:=Tryz.prog) (t:=42) rfl (by kernel_rfl) (.cons rfl (ReadAs.int ty0) (.cons rfl (readAlts) (.cons rfl (ReadAs.int ty0) (.cons rfl (ReadAs.int ty0) (.cons rfl (ReadAs.int ty0) .nil)))))
 exact h.map (fun p=>(⟨p.1,p.2.1,p.2.2.1,p.2.2.2.1,p.2.2.2.2.1⟩:Shape)) (fun _=>rfl) (fun _ h=>h)
def Dep.wf (x:Dep):Prop:=(Lit.int .i64 x.how).wf=true∧(Lit.int .i64 x.job).wf=true∧True
theorem readDep:ReadAs Tryz.prog 114 Dep.cells Dep.wf:=by
 have h:=ReadAs.struct (P:=Tryz.prog) (t:=114) rfl (by kernel_rfl) (.cons rfl (ReadAs.int ty0) (.cons rfl (ReadAs.int ty0) .nil))
 exact h.map (fun p=>(⟨p.1,p.2.1⟩:Dep)) (fun _=>rfl) (fun _ h=>h)
theorem readDeps:ReadAs Tryz.prog 43 (fun l=>[depL l]) fun l=>l.length<=maxLen ∧ ∀ a ∈ l,Dep.wf a :=
 ReadAs.slice Dep.zero rfl (by kernel_rfl) (by decide) readDep (fun _=>rfl)
def Job.wf (x:Job):Prop:=(Lit.int .i64 x.id).wf=true∧x.name.size<=maxLen∧x.user.size<=maxLen∧x.account.size<=maxLen∧Shape.wf x.shape∧(Lit.int .i64 x.prio).wf=true∧(x.after.length<=maxLen ∧ ∀ a ∈ x.after,Dep.wf a)∧(Lit.int .i64 x.state).wf=true∧True∧(Lit.int .i64 x.born).wf=true∧(Lit.int .i64 x.promise).wf=true∧(Lit.int .i64 x.choice).wf=true∧(Lit.int .i64 x.start).wf=true∧(Lit.int .i64 x.limit).wf=true∧(Lit.int .u64 x.nodes).wf=true∧(Lit.int .i64 x.used).wf=true∧True
theorem readJob:ReadAs Tryz.prog 46 Job.cells Job.wf:=by
 have h:=ReadAs.struct (P:=Tryz.prog) (t:=46) rfl (by kernel_rfl) (.cons rfl (ReadAs.int ty0) (.cons rfl (ReadAs.string ty2) (.cons rfl (ReadAs.string ty2) (.cons rfl (ReadAs.string ty2) (.cons rfl (readShape) (.cons rfl (ReadAs.int ty0) (.cons rfl (readDeps) (.cons rfl (ReadAs.int ty0) (.cons rfl (ReadAs.bool ty1) (.cons rfl (ReadAs.int ty0) (.cons rfl (ReadAs.int ty0) (.cons rfl (ReadAs.int ty0) (.cons rfl (ReadAs.int ty0) (.cons rfl (ReadAs.int ty0) (.cons rfl (ReadAs.int ty3) (.cons rfl (ReadAs.int ty0) .nil))))))))))))))))
 exact h.map (fun p=>(⟨p.1,p.2.1,p.2.2.1,p.2.2.2.1,p.2.2.2.2.1,p.2.2.2.2.2.1,p.2.2.2.2.2.2.1,p.2.2.2.2.2.2.2.1,p.2.2.2.2.2.2.2.2.1,p.2.2.2.2.2.2.2.2.2.1,p.2.2.2.2.2.2.2.2.2.2.1,p.2.2.2.2.2.2.2.2.2.2.2.1,p.2.2.2.2.2.2.2.2.2.2.2.2.1,p.2.2.2.2.2.2.2.2.2.2.2.2.2.1,p.2.2.2.2.2.2.2.2.2.2.2.2.2.2.1,p.2.2.2.2.2.2.2.2.2.2.2.2.2.2.2.1⟩:Job)) (fun _=>rfl) (fun _ h=>h)
theorem readJobs:ReadAs Tryz.prog 23 (fun l=>[jobL l]) fun l=>l.length<=maxLen ∧ ∀ a ∈ l,Job.wf a :=
 ReadAs.slice Job.zero rfl (by kernel_rfl) (by decide) readJob (fun _=>rfl)
def Resize.wf (x:Resize):Prop:=(Lit.int .i64 x.job).wf=true∧True∧(Lit.int .u64 x.nodes).wf=true∧(Lit.int .u64 x.said).wf=true∧(Lit.int .i64 x.since).wf=true∧True
theorem readResize:ReadAs Tryz.prog 279 Resize.cells Resize.wf:=by
 have h:=ReadAs.struct (P:=Tryz.prog) (t:=279) rfl (by kernel_rfl) (.cons rfl (ReadAs.int ty0) (.cons rfl (ReadAs.bool ty1) (.cons rfl (ReadAs.int ty3) (.cons rfl (ReadAs.int ty3) (.cons rfl (ReadAs.int ty0) .nil)))))
 exact h.map (fun p=>(⟨p.1,p.2.1,p.2.2.1,p.2.2.2.1,p.2.2.2.2.1⟩:Resize)) (fun _=>rfl) (fun _ h=>h)
theorem readResizes:ReadAs Tryz.prog 24 (fun l=>[Qt6 l]) fun l=>l.length<=maxLen ∧ ∀ a ∈ l,Resize.wf a :=
 ReadAs.slice Resize.zero rfl (by kernel_rfl) (by decide) readResize (fun _=>rfl)
def Book.wf (x:Book):Prop:=(Lit.int .i64 x.id).wf=true∧(Lit.int .i64 x.from_).wf=true∧(Lit.int .i64 x.to).wf=true∧(Lit.int .i64 x.nodes).wf=true∧True
theorem readBook:ReadAs Tryz.prog 92 Book.cells Book.wf:=by
 have h:=ReadAs.struct (P:=Tryz.prog) (t:=92) rfl (by kernel_rfl) (.cons rfl (ReadAs.int ty0) (.cons rfl (ReadAs.int ty0) (.cons rfl (ReadAs.int ty0) (.cons rfl (ReadAs.int ty0) .nil))))
 exact h.map (fun p=>(⟨p.1,p.2.1,p.2.2.1,p.2.2.2.1⟩:Book)) (fun _=>rfl) (fun _ h=>h)
theorem readBooks:ReadAs Tryz.prog 25 (fun l=>[bookL l]) fun l=>l.length<=maxLen ∧ ∀ a ∈ l,Book.wf a :=
 ReadAs.slice Book.zero rfl (by kernel_rfl) (by decide) readBook (fun _=>rfl)
def Usage.wf (x:Usage):Prop:=x.user.size<=maxLen∧x.account.size<=maxLen∧(Lit.int .i64 x.used).wf=true∧(Lit.int .i64 x.share).wf=true∧True
theorem readUsage:ReadAs Tryz.prog 101 Usage.cells Usage.wf:=by
 have h:=ReadAs.struct (P:=Tryz.prog) (t:=101) rfl (by kernel_rfl) (.cons rfl (ReadAs.string ty2) (.cons rfl (ReadAs.string ty2) (.cons rfl (ReadAs.int ty0) (.cons rfl (ReadAs.int ty0) .nil))))
 exact h.map (fun p=>(⟨p.1,p.2.1,p.2.2.1,p.2.2.2.1⟩:Usage)) (fun _=>rfl) (fun _ h=>h)
theorem readUsages:ReadAs Tryz.prog 26 (fun l=>[Qa7 l]) fun l=>l.length<=maxLen ∧ ∀ a ∈ l,Usage.wf a :=
 ReadAs.slice Usage.zero rfl (by kernel_rfl) (by decide) readUsage (fun _=>rfl)
def State.wf (x:State):Prop:=(Lit.int .i64 x.now).wf=true∧(x.nodes.length<=maxLen ∧ ∀ a ∈ x.nodes,Node.wf a)∧(x.jobs.length<=maxLen ∧ ∀ a ∈ x.jobs,Job.wf a)∧(x.resizes.length<=maxLen ∧ ∀ a ∈ x.resizes,Resize.wf a)∧(x.books.length<=maxLen ∧ ∀ a ∈ x.books,Book.wf a)∧(x.ledger.length<=maxLen ∧ ∀ a ∈ x.ledger,Usage.wf a)∧(Lit.int .i64 x.nextJob).wf=true∧(Lit.int .i64 x.nextBook).wf=true∧True
theorem QTb:ReadAs Tryz.prog 28 State.cells State.wf:=by
 have h:=ReadAs.struct (P:=Tryz.prog) (t:=28) rfl (by kernel_rfl) (.cons rfl (ReadAs.int ty0) (.cons rfl (readNodes) (.cons rfl (readJobs) (.cons rfl (readResizes) (.cons rfl (readBooks) (.cons rfl (readUsages) (.cons rfl (ReadAs.int ty0) (.cons rfl (ReadAs.int ty0) .nil))))))))
 exact h.map (fun p=>(⟨p.1,p.2.1,p.2.2.1,p.2.2.2.1,p.2.2.2.2.1,p.2.2.2.2.2.1,p.2.2.2.2.2.2.1,p.2.2.2.2.2.2.2.1⟩:State)) (fun _=>rfl) (fun _ h=>h)
end Go.Proofs.YtiiaifgeekdpaaaGreatDoor
namespace Go.Proofs.YtiiaifgeekdpaaaGreatDoor
set_option linter.unusedSimpArgs false
set_option linter.unusedVariables false
open Go.Fw
theorem Shape.wf_szM {x:Shape} (h:x.wf):x.szM:=h.2.1.1
theorem Job.wf_szM {x:Job} (h:x.wf):x.szM:=⟨h.2.1,h.2.2.1,h.2.2.2.1,Shape.wf_szM h.2.2.2.2.1,h.2.2.2.2.2.2.1.1⟩
theorem Usage.wf_szM {x:Usage} (h:x.wf):x.szM:=⟨h.1,h.2.1⟩
theorem State.wf_szM {x:State} (h:x.wf):x.szM :=
 ⟨h.2.1.1,h.2.2.1.1,fun y hy=>Job.wf_szM (h.2.2.1.2 y hy),h.2.2.2.1.1,h.2.2.2.2.1.1,h.2.2.2.2.2.1.1,fun y hy=>Usage.wf_szM (h.2.2.2.2.2.1.2 y hy)⟩
end Go.Proofs.YtiiaifgeekdpaaaGreatDoor
namespace Go.Proofs.YtiiaifgeekdpaaaGreatDoor
set_option linter.unusedSimpArgs false
set_option linter.unusedVariables false
open Go.Fw
theorem wf_u64 {n:Int} (h:(Lit.int .u64 n).wf=true):U64 n:=by
 unfold Lit.wf at h
 simp only [Bool.and_eq_true,decide_eq_true_eq] at h
 have e1:IntKind.u64.min=0:=by decide
 have e2:IntKind.u64.max=18446744073709551615:=by decide
 rw [e1,e2] at h
 unfold U64
 omega
theorem Job.wf_u64 {x:Job} (h:x.wf):U64 x.nodes:=by
 unfold Job.wf at h
 exact Go.Proofs.YtiiaifgeekdpaaaGreatDoor.wf_u64 h.2.2.2.2.2.2.2.2.2.2.2.2.2.2.1
end Go.Proofs.YtiiaifgeekdpaaaGreatDoor
namespace Go.Proofs.YtiiaifgeekdpaaaGreatDoor
set_option linter.unusedSimpArgs false
set_option linter.unusedVariables false
open Go.Fw
set_option maxRecDepth 100000 in
theorem readInts:ReadAs Tryz.prog 39 (fun l=>[ints l]) fun l=>l.length<=maxLen ∧ ∀ a ∈ l,(Lit.int .i64 a).wf=true :=
 ReadAs.slice (0:Int) rfl (by kernel_rfl) (by decide) (ReadAs.int ty0) (fun _=>rfl)
end Go.Proofs.YtiiaifgeekdpaaaGreatDoor
