/-
  Calls that the closed run knows: each with its arguments and its answer, reckoned by the kernel. No condition.
-/
import Derived.Test.YtghhpjmgmgffcaaGreatDoorQKnb
namespace Go.Proofs.YtghhpjmgmgffcaaGreatDoor
set_option linter.unusedSimpArgs false
set_option linter.unusedVariables false
open Go.Fw

def knv26 : List AVal := [(I 1),(S [111,107,32,49]),(I 0),(I 0),(I 0),(I 0),(I 0),(I 0),B0]
def knv27 : AVal := (.tup [(.agg knv20),(.seq 9 5 false (rowsF [knv26,knv21,knv22,knv23,knv24])),(I 0)])
theorem kne17 : chkE (callT Tryz.prog (tblO (maskL [25, 32, 95, 97, 103, 175, 277, 278, 284, 309, 355, 358]) knt17 oraT) hintT 80) 13 [(.agg knv1),(.agg knv3)] knv27 = true := by kernel_rfl
def knt18 : Tbl := (13, [(.agg knv1),(.agg knv3)], knv27) :: knt17
theorem knt18_good : GoodTbl Tryz.prog knt18 := .cons (entry (tblO_good knt17_good oraT_good) 80 kne17) knt17_good

def knv28 : List AVal := [(S [1,0,40,115,117,98,109,105,116,32,97,32,117,115,101,114,61,117,32,97,99,99,111,117,110,116,61,120,32,110,111,100,101,115,61,50,32,116,105,109,101,61,57]),(I 0)]
theorem kne18 : chkE (callT Tryz.prog (tblO (maskL [13, 25, 32, 95, 97, 103, 175, 277, 278, 284, 309, 355, 358]) knt18 oraT) hintT 80) 42 [(.agg knv3)] (.tup knv28) = true := by kernel_rfl
def knt19 : Tbl := (42, [(.agg knv3)], (.tup knv28)) :: knt18
theorem knt19_good : GoodTbl Tryz.prog knt19 := .cons (entry (tblO_good knt18_good oraT_good) 80 kne18) knt18_good

end Go.Proofs.YtghhpjmgmgffcaaGreatDoor
