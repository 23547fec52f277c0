/-
  Calls that the closed run knows: each with its arguments and its answer, reckoned by the kernel. No condition.
-/
import Derived.Test.YtalhamokkblnjaaGreatDoorQKwc
namespace Go.Proofs.YtalhamokkblnjaaGreatDoor
set_option linter.unusedSimpArgs false
set_option linter.unusedVariables false
open Go.Fw

noncomputable def oraK : CallF := tblO (maskL [40, 70, 71, 76, 87, 94, 111, 128, 177, 179, 185, 242, 335, 336, 342, 359, 412, 415]) kwt26 oraT
theorem oraK_good : GoodCall Tryz.prog oraK := tblO_good kwt26_good oraT_good
def kxv0 : AVal := (.seq 4 1 false (rowsF [[(I 1),(I 0),(I 1),(I 1)]]))
def kxv1 : AVal := (.seq 4 1 true (rowsF [[(I 1),(I 1),(I 1),(I 1)]]))
def kxv2 : AVal := (.seq 4 2 false (rowsF [[(I 1),(I 0),(I 1),(I 1)],[(I 1),(I 1),(I 1),(I 1)]]))
def kxt0 : Tbl := []
theorem kxt0_good : GoodTbl Tryz.prog kxt0 := .nil
theorem kxe0 : chkE (callT Tryz.prog (tblO (maskL []) kxt0 oraK) hintT 80) 76 [kxv0,kxv1] kxv2 = true := by kernel_rfl
def kxt1 : Tbl := (76, [kxv0,kxv1], kxv2) :: kxt0
theorem kxt1_good : GoodTbl Tryz.prog kxt1 := .cons (entry (tblO_good kxt0_good oraK_good) 80 kxe0) kxt0_good

def kxv3 : AVal := (.seq 4 1 false (rowsF [[(I 1),(I 1),(I 1),(I 1)]]))
def kxv4 : List AVal := [(.agg [(I 1),(I 0),(I 1),(I 1)]),kxv3,(I 0)]
theorem kxe1 : chkE (callT Tryz.prog (tblO (maskL [76]) kxt1 oraK) hintT 80) 45 [kxv2,(I 0)] (.tup kxv4) = true := by kernel_rfl
def kxt2 : Tbl := (45, [kxv2,(I 0)], (.tup kxv4)) :: kxt1
theorem kxt2_good : GoodTbl Tryz.prog kxt2 := .cons (entry (tblO_good kxt1_good oraK_good) 80 kxe1) kxt1_good

def kxv5 : List AVal := [(I 0),(I 0),(I 0),(I 0),B1,B0,(I 0),(I 0)]
def kxv6 : List AVal := [(I 0),(I 2),(I 1),(I 1),B1,B0,(I 0),(I 0)]
def kxv7 : AVal := (.seq 4 1 true (rowsF [[(I 7),(I 0),(I 1),(I 1)]]))
def kxv8 : List AVal := [(.agg kxv5),(.agg [(I 1),(I 0),(I 1),(I 1)])]
theorem kxe2 : chkE (callT Tryz.prog (tblO (maskL [45, 76]) kxt2 oraK) hintT 80) 47 kxv8 (.tup [(.agg kxv6),kxv7]) = true := by kernel_rfl
def kxt3 : Tbl := (47, kxv8, (.tup [(.agg kxv6),kxv7])) :: kxt2
theorem kxt3_good : GoodTbl Tryz.prog kxt3 := .cons (entry (tblO_good kxt2_good oraK_good) 80 kxe2) kxt2_good

def kxv9 : AVal := (.seq 4 2 false (rowsF [[(I 1),(I 1),(I 1),(I 1)],[(I 7),(I 0),(I 1),(I 1)]]))
theorem kxe3 : chkE (callT Tryz.prog (tblO (maskL [45, 47, 76]) kxt3 oraK) hintT 80) 76 [kxv3,kxv7] kxv9 = true := by kernel_rfl
def kxt4 : Tbl := (76, [kxv3,kxv7], kxv9) :: kxt3
theorem kxt4_good : GoodTbl Tryz.prog kxt4 := .cons (entry (tblO_good kxt3_good oraK_good) 80 kxe3) kxt3_good

end Go.Proofs.YtalhamokkblnjaaGreatDoor
