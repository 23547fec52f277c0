/-
  Contracts of functions, printed by a program of this repo (wip/dec). No condition beyond those that stand in each.
  The law of the beginnings of changes of size, as a plain statement. Condition: sets of nodes are words.
-/
import Derived.Test.YtackngeeehiegaaGreatDoorRBB2
import Derived.Test.YtackngeeehiegaaGreatDoorProg
namespace Go.Proofs.YtackngeeehiegaaGreatDoor
set_option linter.unusedSimpArgs false
set_option linter.unusedVariables false
open Go.Fw
set_option maxRecDepth 20000
set_option maxHeartbeats 4000000
attribute [local irreducible] ACalls AMoves
def QS5 (s:State) (id_:Int) (size:Int):Bool:=bif (!(Q16 s)) then QP7 else ((((Q5a ((Qp0 s id_ size).1) ((Qp2 s id_ size).1))&&(Qy7 ((Qp0 s id_ size).2.1) ((Qp2 s id_ size).2.1)))&&((Qp0 s id_ size).2.2==(Qp2 s id_ size).2.2))&&QP7)
theorem QY3 {P:Prop} (h:P:=by first|((refine begins_sz2 id_ size hp0 h2 (fun a b c d e=>?_);with_reducible assumption))|exact szA):P:=h
theorem QWb (s:State) (id_:Int) (size:Int) (hs0:s.szM) (hp0:WU s):GV 3 [State.a s,I id_,I size] (Bo (QS5 s id_ size)):=by
 generalize hR:QS5 s id_ size=R;refine gA (kp 13 [15]) Tryz.func3 ?_;have hk0:=hs0;obtain ⟨z3,z4,z5,z6,z7,z8,z9⟩:=hs0;refine us (law20_Few_c s QY3 _) ?_;refine ai (fun h1=>?_) (fun h2=>?_)
 ·refine us (Qkd _) ?_;exact lfA
 ·refine us (QN9 s id_ size QY3 _) ?_;refine us (ref26_Begin_c s id_ size QY3 _) ?_;refine us (ref25_Same_c ((Qp0 s id_ size).1) ((Qp2 s id_ size).1) QY3 QY3 _) ?_;(first|apply u3g|apply u4g);exact fun hg=>Qle ((Qp0 s id_ size).2.1) ((Qp2 s id_ size).2.1) QY3 QY3 _;(first|apply u3g|apply u4g);exact fun hg=>Qkd _;exact lfA
end Go.Proofs.YtackngeeehiegaaGreatDoor
namespace Go.Proofs.YtackngeeehiegaaGreatDoor
set_option linter.unusedSimpArgs false
set_option linter.unusedVariables false
open Go.Fw
theorem Qre {s:State} {id size:Int} (hu:WU s) (h:QP7=true):QS5 s id size=true:=by
 unfold QS5;cases hf:(!Q16 s) with
 | true=>exact h
 | false =>
  have hz:=QJe (show Q16 s=true by simpa using hf);rw [begin_eq hz hu,(ref25_same _ _).2 rfl,same_notes26,h];simp
end Go.Proofs.YtackngeeehiegaaGreatDoor
