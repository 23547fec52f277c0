/-
  Contracts of functions, printed by a program of this repo (wip/dec). No condition beyond those that stand in each.
-/
import Derived.Test.YtjpgfmbccohngaaGreatDoorH13
import Derived.Test.YtjpgfmbccohngaaGreatDoorProg
namespace Go.Proofs.YtjpgfmbccohngaaGreatDoor
set_option linter.unusedSimpArgs false
set_option linter.unusedVariables false
open Go.Fw
set_option maxRecDepth 20000
set_option maxHeartbeats 4000000
attribute [local irreducible] ACalls AMoves
def Ql5 (s:State):Bool:=bif (!(Q69 s)) then Q07 else ((((QHa ((Qd0 s).1) ((Qj1 s).1))&&(Qb5 ((Qd0 s).2) ((Qj1 s).2)))&&(Qb5 (Q92 s) (QA5 s)))&&Q07)
theorem b17a0 {P:Prop} (h:P:=by first|((have q:=h2;simp at q;refine f22 (by first|exact Qp8 q|exact Qp8 q.1) (fun a b c d e f g h i j=>?_);have S2:=Q8e a;have S3:=ref22_Due_len a;obtain ⟨⟨S4,S5⟩,S6⟩:=S2;with_reducible first|assumption|exact ⟨c,d⟩|exact ⟨e,f⟩|exact find_sz _ d|exact Q72 d (Job.szz _)|exact Q72 f (Job.szz _)|exact ⟨S4,S5⟩))|first|((have q:=hg;simp at q;exact Qp8 q))|exact szA):P:=h
theorem QNa (s:State) (hs0:s.szM):GV 6 [State.a s] (Bo (Ql5 s)):=by
 generalize hR:Ql5 s=R;refine ga (.cons (State.low _ _) .nil) lx (kp 7 [9]) Tryz.func6 ?_;have hk0:=hs0;obtain ⟨z3,z4,z5,z6,z7,z8,z9⟩:=hs0;refine us (law20_Few_c s b17a0 _) ?_;refine ai (fun h1=>?_) (fun h2=>?_)
 ·refine us (Qr9 _) ?_;obtain rfl:=foll hR (ct h1 rfl);exact Q00 lx sr
 ·refine us (Qe9 s b17a0 _) ?_;refine us (QOf s b17a0 _) ?_;refine dchk (by kernel_rfl) ?_;(first|apply u2|apply u3|apply u4|apply us);exact QPd ((Qd0 s).1) ((Qj1 s).1) b17a0 b17a0 _;(first|apply u3g|apply u4g);exact fun hg=>Qe6 ((Qd0 s).2) ((Qj1 s).2) b17a0 b17a0 _;(first|apply u3g|apply u4g);exact fun hg=>QK9 s b17a0 _;(first|apply u3g|apply u4g);exact fun hg=>QNf s b17a0 _;(first|apply u3g|apply u4g);exact fun hg=>Qe6 (Q92 s) (QA5 s) b17a0 b17a0 _;(first|apply u3g|apply u4g);exact fun hg=>Qr9 _;(repeat ((first|refine ai rfl ?_|refine ai (fun _=>rfl) ?_|refine ai (fun _=>QPd ((Qd0 s).1) ((Qj1 s).1) b17a0 b17a0 _) ?_|refine ai (fun _=>Qe6 ((Qd0 s).2) ((Qj1 s).2) b17a0 b17a0 _) ?_|refine ai (fun _=>QK9 s b17a0 _) ?_|refine ai (fun _=>QNf s b17a0 _) ?_|refine ai (fun _=>Qe6 (Q92 s) (QA5 s) b17a0 b17a0 _) ?_|refine ai (fun _=>Qr9 _) ?_)));obtain rfl:=foll hR (cf h2 rfl);exact Q00 lx sr
end Go.Proofs.YtjpgfmbccohngaaGreatDoor
