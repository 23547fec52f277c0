/-
  Calls that the closed run knows: each with its arguments and its answer, reckoned by the kernel. No condition.
-/
import Derived.Test.YtghhpjmgmgffcaaGreatDoorQ12
namespace Go.Proofs.YtghhpjmgmgffcaaGreatDoor
set_option linter.unusedSimpArgs false
set_option linter.unusedVariables false
open Go.Fw

def knv0 : List AVal := [(I 0),(I 0),(I 0),B0,(I 0),(I 0),(I 0)]
def knv1 : List AVal := [(I 0),(.seq 7 4 false (rowsF [knv0,knv0,knv0,knv0])),N0,N0,N0,N0,(I 1),(I 1)]
def knt0 : Tbl := []
theorem knt0_good : GoodTbl Tryz.prog knt0 := .nil
theorem kne0 : chkE (callT Tryz.prog (tblO (maskL []) knt0 oraT) hintT 80) 32 [(.agg knv1)] (I 0) = true := by kernel_rfl
def knt1 : Tbl := (32, [(.agg knv1)], (I 0)) :: knt0
theorem knt1_good : GoodTbl Tryz.prog knt1 := .cons (entry (tblO_good knt0_good oraT_good) 80 kne0) knt0_good

def knv2 : List AVal := [(S [73,0,0,0,0,0,0,0,1,0,0,0,1,4,0,0,0,0,0,0,0,0,0,0,0,0,0,0,0,0,0,0,0,0,0,0,0,0,0,0,0,0,0,0,0,0,0,0,0,0,0,0,0,0,0,0,0,0,0,0,0,0,0,0,0,0,0,0,0,0,0,0,0,0,0,0,0,0,0,0,0,0,0,0,0,0,0,0,0,0,0,0,0,0]),(I 0)]
theorem kne1 : chkE (callT Tryz.prog (tblO (maskL [32]) knt1 oraT) hintT 80) 25 [(.agg knv1)] (.tup knv2) = true := by kernel_rfl
def knt2 : Tbl := (25, [(.agg knv1)], (.tup knv2)) :: knt1
theorem knt2_good : GoodTbl Tryz.prog knt2 := .cons (entry (tblO_good knt1_good oraT_good) 80 kne1) knt1_good

def knv3 : List AVal := [(I 1),(S [115,117,98,109,105,116,32,97,32,117,115,101,114,61,117,32,97,99,99,111,117,110,116,61,120,32,110,111,100,101,115,61,50,32,116,105,109,101,61,57]),(I 0),(I 0),(I 0),(I 0)]
def knv4 : List AVal := [(I 1),(I 0),(S [97]),(S [117]),(S [120]),(I 1),(.seq 2 1 true (rowsF [[(I 2),(I 9)]])),(I 0),(I 0),(I 0),(I 0),B0,(I 0),B0,N0,(I 0),(I 0),(I 0)]
def knv5 : List AVal := [(S [115,117,98,109,105,116,32,97,32,117,115,101,114,61,117,32,97,99,99,111,117,110,116,61,120,32,110,111,100,101,115,61,50,32,116,105,109,101,61,57])]
theorem kne2 : chkE (callT Tryz.prog (tblO (maskL [25, 32]) knt2 oraT) hintT 80) 95 knv5 (.tup [(.agg knv4),(I 40),(I 0)]) = true := by kernel_rfl
def knt3 : Tbl := (95, knv5, (.tup [(.agg knv4),(I 40),(I 0)])) :: knt2
theorem knt3_good : GoodTbl Tryz.prog knt3 := .cons (entry (tblO_good knt2_good oraT_good) 80 kne2) knt2_good

def knv6 : List AVal := [(I 1),(S [97]),(S [117]),(S [120]),(I 1),(.seq 2 1 true (rowsF [[(I 2),(I 9)]])),(I 0),(I 0),(I 0),(I 0),N0,(I 1),B0,(I 0),(J 0),(I 0),(I 0),(I 0),(.lit (.int .u64 0)),(I 0)]
theorem kne3 : chkE (callT Tryz.prog (tblO (maskL [25, 32, 95]) knt3 oraT) hintT 80) 309 [(.agg knv6)] (I 0) = true := by kernel_rfl
def knt4 : Tbl := (309, [(.agg knv6)], (I 0)) :: knt3
theorem knt4_good : GoodTbl Tryz.prog knt4 := .cons (entry (tblO_good knt3_good oraT_good) 80 kne3) knt3_good

def knv7 : List AVal := [(I 1),(S [97]),(S [117]),(S [120]),(I 1),(.seq 2 1 false (rowsF [[(I 2),(I 9)]])),(I 0),(I 0),(I 0),(I 0),N0,(I 1),B0,(I 0),(J 0),(I 0),(I 0),(I 0),(.lit (.int .u64 0)),(I 0)]
theorem kne4 : chkE (callT Tryz.prog (tblO (maskL [25, 32, 95, 309]) knt4 oraT) hintT 80) 309 [(.agg knv7)] (I 0) = true := by kernel_rfl
def knt5 : Tbl := (309, [(.agg knv7)], (I 0)) :: knt4
theorem knt5_good : GoodTbl Tryz.prog knt5 := .cons (entry (tblO_good knt4_good oraT_good) 80 kne4) knt4_good

theorem kne5 : chkE (callT Tryz.prog (tblO (maskL [25, 32, 95, 309]) knt5 oraT) hintT 80) 355 [N0,(.agg knv7)] (.tup [(.seq 20 1 false (rowsF [knv7])),(I 0)]) = true := by kernel_rfl
def knt6 : Tbl := (355, [N0,(.agg knv7)], (.tup [(.seq 20 1 false (rowsF [knv7])),(I 0)])) :: knt5
theorem knt6_good : GoodTbl Tryz.prog knt6 := .cons (entry (tblO_good knt5_good oraT_good) 80 kne5) knt5_good

def knv8 : List AVal := [(S [117]),(S [120]),(I 0),(I 0)]
def knv9 : List AVal := [(I 0),(.seq 7 4 false (rowsF [knv0,knv0,knv0,knv0])),(.seq 20 1 false (rowsF [knv7])),N0,N0,(.seq 4 1 false (rowsF [knv8])),(I 2),(I 1)]
theorem kne6 : chkE (callT Tryz.prog (tblO (maskL [25, 32, 95, 309, 355]) knt6 oraT) hintT 80) 358 [(.agg knv9),(.agg knv7),(I 1000000)] (.tup [(I 0),(I 0),B1]) = true := by kernel_rfl
def knt7 : Tbl := (358, [(.agg knv9),(.agg knv7),(I 1000000)], (.tup [(I 0),(I 0),B1])) :: knt6
theorem knt7_good : GoodTbl Tryz.prog knt7 := .cons (entry (tblO_good knt6_good oraT_good) 80 kne6) knt6_good

theorem kne7 : chkE (callT Tryz.prog (tblO (maskL [25, 32, 95, 309, 355, 358]) knt7 oraT) hintT 80) 32 [(.agg knv9)] (I 0) = true := by kernel_rfl
def knt8 : Tbl := (32, [(.agg knv9)], (I 0)) :: knt7
theorem knt8_good : GoodTbl Tryz.prog knt8 := .cons (entry (tblO_good knt7_good oraT_good) 80 kne7) knt7_good

def knv10 : List AVal := [(I 1),(S [97]),(S [117]),(S [120]),(I 1),(.seq 2 1 false (rowsF [[(I 2),(I 9)]])),(I 0),(I 0),(I 0),(I 0),(.seq 2 0 true (rowsF [])),(I 1),B0,(I 0),(J 0),(I 0),(I 0),(I 0),(.lit (.int .u64 0)),(I 0)]
def knv11 : List AVal := [(I 0),(.seq 7 4 false (rowsF [knv0,knv0,knv0,knv0])),(.seq 20 1 false (rowsF [knv10])),N0,N0,(.seq 4 1 false (rowsF [knv8])),(I 2),(I 1)]
theorem kne8 : chkE (callT Tryz.prog (tblO (maskL [25, 32, 95, 309, 355, 358]) knt8 oraT) hintT 80) 309 [(.agg knv10)] (I 0) = true := by kernel_rfl
def knt9 : Tbl := (309, [(.agg knv10)], (I 0)) :: knt8
theorem knt9_good : GoodTbl Tryz.prog knt9 := .cons (entry (tblO_good knt8_good oraT_good) 80 kne8) knt8_good

end Go.Proofs.YtghhpjmgmgffcaaGreatDoor
