/-
  Calls that the closed run knows: each with its arguments and its answer, reckoned by the kernel. No condition.
-/
import Derived.Test.YtalhamokkblnjaaGreatDoorQKxa
namespace Go.Proofs.YtalhamokkblnjaaGreatDoor
set_option linter.unusedSimpArgs false
set_option linter.unusedVariables false
open Go.Fw

noncomputable def oraM : CallF := tblO (maskL [45, 47, 76]) kxt4 oraK
theorem oraM_good : GoodCall Tryz.prog oraM := tblO_good kxt4_good oraK_good
def kyv0 : AVal := (.seq 4 2 false (rowsF [[(I 1),(I 1),(I 1),(I 1)],[(I 7),(I 0),(I 1),(I 1)]]))
def kyt0 : Tbl := []
theorem kyt0_good : GoodTbl Tryz.prog kyt0 := .nil
theorem kye0 : chkE (callT Tryz.prog (tblO (maskL []) kyt0 oraM) hintT 80) 30 [kyv0] kyv0 = true := by kernel_rfl
def kyt1 : Tbl := (30, [kyv0], kyv0) :: kyt0
theorem kyt1_good : GoodTbl Tryz.prog kyt1 := .cons (entry (tblO_good kyt0_good oraM_good) 80 kye0) kyt0_good

def kyv1 : List AVal := [(I 0),N0,N0,N0,N0,N0,(I 0),(I 0)]
theorem kye1 : chkE (callT Tryz.prog (tblO (maskL [30]) kyt1 oraM) hintT 80) 70 [(I 0)] (.tup [(.agg kyv1),(I 2)]) = true := by kernel_rfl
def kyt2 : Tbl := (70, [(I 0)], (.tup [(.agg kyv1),(I 2)])) :: kyt1
theorem kyt2_good : GoodTbl Tryz.prog kyt2 := .cons (entry (tblO_good kyt1_good oraM_good) 80 kye1) kyt1_good

theorem kye2 : chkE (callT Tryz.prog (tblO (maskL [30, 70]) kyt2 oraM) hintT 80) 12 [] B1 = true := by kernel_rfl
def kyt3 : Tbl := (12, [], B1) :: kyt2
theorem kyt3_good : GoodTbl Tryz.prog kyt3 := .cons (entry (tblO_good kyt2_good oraM_good) 80 kye2) kyt2_good

end Go.Proofs.YtalhamokkblnjaaGreatDoor
