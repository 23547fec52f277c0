/-
  Calls that the closed run knows: each with its arguments and its answer, reckoned by the kernel. No condition.
-/
import Derived.Test.YtghhpjmgmgffcaaGreatDoorQKna
namespace Go.Proofs.YtghhpjmgmgffcaaGreatDoor
set_option linter.unusedSimpArgs false
set_option linter.unusedVariables false
open Go.Fw

theorem kne9 : chkE (callT Tryz.prog (tblO (maskL [25, 32, 95, 309, 355, 358]) knt9 oraT) hintT 80) 277 [(.agg knv11)] (.tup [(.seq 20 1 false (rowsF [knv10])),N0]) = true := by kernel_rfl
def knt10 : Tbl := (277, [(.agg knv11)], (.tup [(.seq 20 1 false (rowsF [knv10])),N0])) :: knt9
theorem knt10_good : GoodTbl Tryz.prog knt10 := .cons (entry (tblO_good knt9_good oraT_good) 80 kne9) knt9_good

def knv12 : List AVal := [(I 1),(S [97]),(S [117]),(S [120]),(I 1),(.seq 2 1 false (rowsF [[(I 2),(I 9)]])),(I 0),(I 0),(I 0),(I 0),(.seq 2 0 true (rowsF [])),(I 1),B0,(I 0),(I 0),(I 0),(I 0),(I 0),(.lit (.int .u64 0)),(I 0)]
theorem kne10 : chkE (callT Tryz.prog (tblO (maskL [25, 32, 95, 277, 309, 355, 358]) knt10 oraT) hintT 80) 309 [(.agg knv12)] (I 0) = true := by kernel_rfl
def knt11 : Tbl := (309, [(.agg knv12)], (I 0)) :: knt10
theorem knt11_good : GoodTbl Tryz.prog knt11 := .cons (entry (tblO_good knt10_good oraT_good) 80 kne10) knt10_good

def knv13 : AVal := (.tup [(.seq 20 1 false (rowsF [knv12])),(.seq 1 1 false (rowsF [[(I 1)]]))])
theorem kne11 : chkE (callT Tryz.prog (tblO (maskL [25, 32, 95, 277, 309, 355, 358]) knt11 oraT) hintT 80) 278 [(.agg knv11)] knv13 = true := by kernel_rfl
def knt12 : Tbl := (278, [(.agg knv11)], knv13) :: knt11
theorem knt12_good : GoodTbl Tryz.prog knt12 := .cons (entry (tblO_good knt11_good oraT_good) 80 kne11) knt11_good

def knv14 : List AVal := [(I 0),(.seq 7 4 false (rowsF [knv0,knv0,knv0,knv0])),(.seq 20 1 false (rowsF [knv12])),N0,N0,(.seq 4 1 false (rowsF [knv8])),(I 2),(I 1)]
theorem kne12 : chkE (callT Tryz.prog (tblO (maskL [25, 32, 95, 277, 278, 309, 355, 358]) knt12 oraT) hintT 80) 175 [(.agg knv14)] (.seq 1 1 false (rowsF [[(I 1)]])) = true := by kernel_rfl
def knt13 : Tbl := (175, [(.agg knv14)], (.seq 1 1 false (rowsF [[(I 1)]]))) :: knt12
theorem knt13_good : GoodTbl Tryz.prog knt13 := .cons (entry (tblO_good knt12_good oraT_good) 80 kne12) knt12_good

def knv15 : List AVal := [(I 1),(I 1),(I 1),B0,(I 1),(I 0),(I 0)]
def knv16 : AVal := (.seq 4 2 false (rowsF [[(I 1),(I 0),(I 1),(I 1)],[(I 1),(I 1),(I 1),(I 1)]]))
def knv17 : List AVal := [(.seq 7 4 false (rowsF [knv15,knv15,knv0,knv0])),(.lit (.int .u64 3)),knv16,(I 0)]
def knv18 : List AVal := [(.seq 7 4 false (rowsF [knv0,knv0,knv0,knv0])),(I 2),(I 1),(I 1),(I 0)]
theorem kne13 : chkE (callT Tryz.prog (tblO (maskL [25, 32, 95, 175, 277, 278, 309, 355, 358]) knt13 oraT) hintT 80) 284 knv18 (.tup knv17) = true := by kernel_rfl
def knt14 : Tbl := (284, knv18, (.tup knv17)) :: knt13
theorem knt14_good : GoodTbl Tryz.prog knt14 := .cons (entry (tblO_good knt13_good oraT_good) 80 kne13) knt13_good

def knv19 : List AVal := [(I 1),(S [97]),(S [117]),(S [120]),(I 1),(.seq 2 1 false (rowsF [[(I 2),(I 9)]])),(I 0),(I 0),(I 0),(I 0),(.seq 2 0 true (rowsF [])),(I 2),B0,(I 0),(I 0),(I 0),(I 0),(I 9),(.lit (.int .u64 3)),(I 0)]
theorem kne14 : chkE (callT Tryz.prog (tblO (maskL [25, 32, 95, 175, 277, 278, 284, 309, 355, 358]) knt14 oraT) hintT 80) 309 [(.agg knv19)] (I 0) = true := by kernel_rfl
def knt15 : Tbl := (309, [(.agg knv19)], (I 0)) :: knt14
theorem knt15_good : GoodTbl Tryz.prog knt15 := .cons (entry (tblO_good knt14_good oraT_good) 80 kne14) knt14_good

def knv20 : List AVal := [(I 0),(.seq 7 4 false (rowsF [knv15,knv15,knv0,knv0])),(.seq 20 1 false (rowsF [knv19])),N0,N0,(.seq 4 1 false (rowsF [knv8])),(I 2),(I 1)]
def knv21 : List AVal := [(I 3),(S []),(I 0),(I 0),(I 0),(I 0),(I 1),(I 0),B0]
def knv22 : List AVal := [(I 4),(S []),(I 0),(I 0),(I 0),(I 0),(I 1),(I 9),B0]
def knv23 : List AVal := [(I 2),(S []),(I 1),(I 0),(I 1),(I 1),(I 0),(I 0),B0]
def knv24 : List AVal := [(I 2),(S []),(I 1),(I 1),(I 1),(I 1),(I 0),(I 0),B0]
theorem kne15 : chkE (callT Tryz.prog (tblO (maskL [25, 32, 95, 175, 277, 278, 284, 309, 355, 358]) knt15 oraT) hintT 80) 103 [(.agg knv9),B0] (.tup [(.agg knv20),(.seq 9 4 false (rowsF [knv21,knv22,knv23,knv24])),(I 0)]) = true := by kernel_rfl
def knt16 : Tbl := (103, [(.agg knv9),B0], (.tup [(.agg knv20),(.seq 9 4 false (rowsF [knv21,knv22,knv23,knv24])),(I 0)])) :: knt15
theorem knt16_good : GoodTbl Tryz.prog knt16 := .cons (entry (tblO_good knt15_good oraT_good) 80 kne15) knt15_good

def knv25 : List AVal := [(.agg knv20),(S [111,107,32,49]),(.seq 9 4 false (rowsF [knv21,knv22,knv23,knv24])),(I 0)]
theorem kne16 : chkE (callT Tryz.prog (tblO (maskL [25, 32, 95, 103, 175, 277, 278, 284, 309, 355, 358]) knt16 oraT) hintT 80) 97 [(.agg knv1),(.agg knv4)] (.tup knv25) = true := by kernel_rfl
def knt17 : Tbl := (97, [(.agg knv1),(.agg knv4)], (.tup knv25)) :: knt16
theorem knt17_good : GoodTbl Tryz.prog knt17 := .cons (entry (tblO_good knt16_good oraT_good) 80 kne16) knt16_good

end Go.Proofs.YtghhpjmgmgffcaaGreatDoor
