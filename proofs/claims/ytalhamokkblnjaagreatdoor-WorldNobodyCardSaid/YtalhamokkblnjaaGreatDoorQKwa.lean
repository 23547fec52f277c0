/-
  Calls that the closed run knows: each with its arguments and its answer, reckoned by the kernel. No condition.
-/
import Derived.Test.YtalhamokkblnjaaGreatDoorQ12
namespace Go.Proofs.YtalhamokkblnjaaGreatDoor
set_option linter.unusedSimpArgs false
set_option linter.unusedVariables false
open Go.Fw

def kwv0 : List AVal := [(I 0),(I 0),(I 0),B0,(I 0),(I 0),(I 0)]
def kwv1 : List AVal := [(I 0),(.seq 7 4 false (rowsF [kwv0,kwv0,kwv0,kwv0])),N0,N0,N0,N0,(I 1),(I 1)]
def kwt0 : Tbl := []
theorem kwt0_good : GoodTbl Tryz.prog kwt0 := .nil
theorem kwe0 : chkE (callT Tryz.prog (tblO (maskL []) kwt0 oraT) hintT 80) 70 [(I 4)] (.tup [(.agg kwv1),(I 0)]) = true := by kernel_rfl
def kwt1 : Tbl := (70, [(I 4)], (.tup [(.agg kwv1),(I 0)])) :: kwt0
theorem kwt1_good : GoodTbl Tryz.prog kwt1 := .cons (entry (tblO_good kwt0_good oraT_good) 80 kwe0) kwt0_good

theorem kwe1 : chkE (callT Tryz.prog (tblO (maskL [70]) kwt1 oraT) hintT 80) 94 [(.agg kwv1)] (I 0) = true := by kernel_rfl
def kwt2 : Tbl := (94, [(.agg kwv1)], (I 0)) :: kwt1
theorem kwt2_good : GoodTbl Tryz.prog kwt2 := .cons (entry (tblO_good kwt1_good oraT_good) 80 kwe1) kwt1_good

def kwv2 : List AVal := [(S [73,0,0,0,0,0,0,0,1,0,0,0,1,4,0,0,0,0,0,0,0,0,0,0,0,0,0,0,0,0,0,0,0,0,0,0,0,0,0,0,0,0,0,0,0,0,0,0,0,0,0,0,0,0,0,0,0,0,0,0,0,0,0,0,0,0,0,0,0,0,0,0,0,0,0,0,0,0,0,0,0,0,0,0,0,0,0,0,0,0,0,0,0,0]),(I 0)]
theorem kwe2 : chkE (callT Tryz.prog (tblO (maskL [70, 94]) kwt2 oraT) hintT 80) 71 [(.agg kwv1)] (.tup kwv2) = true := by kernel_rfl
def kwt3 : Tbl := (71, [(.agg kwv1)], (.tup kwv2)) :: kwt2
theorem kwt3_good : GoodTbl Tryz.prog kwt3 := .cons (entry (tblO_good kwt2_good oraT_good) 80 kwe2) kwt2_good

def kwv3 : List AVal := [(I 0),(I 0),(I 0),(I 0),B1,B0,(I 0),(I 0)]
theorem kwe3 : chkE (callT Tryz.prog (tblO (maskL [70, 71, 94]) kwt3 oraT) hintT 80) 40 [(I 0)] (.tup [(.agg kwv3),(I 0)]) = true := by kernel_rfl
def kwt4 : Tbl := (40, [(I 0)], (.tup [(.agg kwv3),(I 0)])) :: kwt3
theorem kwt4_good : GoodTbl Tryz.prog kwt4 := .cons (entry (tblO_good kwt3_good oraT_good) 80 kwe3) kwt3_good

def kwv4 : List AVal := [(I 1),(I 0),(I 0),(I 0),B1,B0,(I 0),(I 0)]
theorem kwe4 : chkE (callT Tryz.prog (tblO (maskL [40, 70, 71, 94]) kwt4 oraT) hintT 80) 40 [(I 1)] (.tup [(.agg kwv4),(I 0)]) = true := by kernel_rfl
def kwt5 : Tbl := (40, [(I 1)], (.tup [(.agg kwv4),(I 0)])) :: kwt4
theorem kwt5_good : GoodTbl Tryz.prog kwt5 := .cons (entry (tblO_good kwt4_good oraT_good) 80 kwe4) kwt4_good

def kwv5 : List AVal := [(I 2),(I 0),(I 0),(I 0),B1,B0,(I 0),(I 0)]
theorem kwe5 : chkE (callT Tryz.prog (tblO (maskL [40, 70, 71, 94]) kwt5 oraT) hintT 80) 40 [(I 2)] (.tup [(.agg kwv5),(I 0)]) = true := by kernel_rfl
def kwt6 : Tbl := (40, [(I 2)], (.tup [(.agg kwv5),(I 0)])) :: kwt5
theorem kwt6_good : GoodTbl Tryz.prog kwt6 := .cons (entry (tblO_good kwt5_good oraT_good) 80 kwe5) kwt5_good

def kwv6 : List AVal := [(I 3),(I 0),(I 0),(I 0),B1,B0,(I 0),(I 0)]
theorem kwe6 : chkE (callT Tryz.prog (tblO (maskL [40, 70, 71, 94]) kwt6 oraT) hintT 80) 40 [(I 3)] (.tup [(.agg kwv6),(I 0)]) = true := by kernel_rfl
def kwt7 : Tbl := (40, [(I 3)], (.tup [(.agg kwv6),(I 0)])) :: kwt6
theorem kwt7_good : GoodTbl Tryz.prog kwt7 := .cons (entry (tblO_good kwt6_good oraT_good) 80 kwe6) kwt6_good

def kwv7 : List AVal := [(I 1),(S [115,117,98,109,105,116,32,97,32,117,115,101,114,61,117,32,97,99,99,111,117,110,116,61,120,32,110,111,100,101,115,61,50,32,116,105,109,101,61,57]),(I 0),(I 0),(I 0),(I 0)]
def kwv8 : List AVal := [(I 1),(I 0),(S [97]),(S [117]),(S [120]),(I 1),(.seq 2 1 true (rowsF [[(I 2),(I 9)]])),(I 0),(I 0),(I 0),(I 0),B0,(I 0),B0,N0,(I 0),(I 0),(I 0)]
def kwv9 : List AVal := [(S [115,117,98,109,105,116,32,97,32,117,115,101,114,61,117,32,97,99,99,111,117,110,116,61,120,32,110,111,100,101,115,61,50,32,116,105,109,101,61,57])]
theorem kwe7 : chkE (callT Tryz.prog (tblO (maskL [40, 70, 71, 94]) kwt7 oraT) hintT 80) 177 kwv9 (.tup [(.agg kwv8),(I 40),(I 0)]) = true := by kernel_rfl
def kwt8 : Tbl := (177, kwv9, (.tup [(.agg kwv8),(I 40),(I 0)])) :: kwt7
theorem kwt8_good : GoodTbl Tryz.prog kwt8 := .cons (entry (tblO_good kwt7_good oraT_good) 80 kwe7) kwt7_good

def kwv10 : List AVal := [(I 1),(S [97]),(S [117]),(S [120]),(I 1),(.seq 2 1 true (rowsF [[(I 2),(I 9)]])),(I 0),(I 0),(I 0),(I 0),N0,(I 1),B0,(I 0),(J 0),(I 0),(I 0),(I 0),(.lit (.int .u64 0)),(I 0)]
theorem kwe8 : chkE (callT Tryz.prog (tblO (maskL [40, 70, 71, 94, 177]) kwt8 oraT) hintT 80) 359 [(.agg kwv10)] (I 0) = true := by kernel_rfl
def kwt9 : Tbl := (359, [(.agg kwv10)], (I 0)) :: kwt8
theorem kwt9_good : GoodTbl Tryz.prog kwt9 := .cons (entry (tblO_good kwt8_good oraT_good) 80 kwe8) kwt8_good

def kwv11 : List AVal := [(I 1),(S [97]),(S [117]),(S [120]),(I 1),(.seq 2 1 false (rowsF [[(I 2),(I 9)]])),(I 0),(I 0),(I 0),(I 0),N0,(I 1),B0,(I 0),(J 0),(I 0),(I 0),(I 0),(.lit (.int .u64 0)),(I 0)]
theorem kwe9 : chkE (callT Tryz.prog (tblO (maskL [40, 70, 71, 94, 177, 359]) kwt9 oraT) hintT 80) 359 [(.agg kwv11)] (I 0) = true := by kernel_rfl
def kwt10 : Tbl := (359, [(.agg kwv11)], (I 0)) :: kwt9
theorem kwt10_good : GoodTbl Tryz.prog kwt10 := .cons (entry (tblO_good kwt9_good oraT_good) 80 kwe9) kwt9_good

theorem kwe10 : chkE (callT Tryz.prog (tblO (maskL [40, 70, 71, 94, 177, 359]) kwt10 oraT) hintT 80) 412 [N0,(.agg kwv11)] (.tup [(.seq 20 1 false (rowsF [kwv11])),(I 0)]) = true := by kernel_rfl
def kwt11 : Tbl := (412, [N0,(.agg kwv11)], (.tup [(.seq 20 1 false (rowsF [kwv11])),(I 0)])) :: kwt10
theorem kwt11_good : GoodTbl Tryz.prog kwt11 := .cons (entry (tblO_good kwt10_good oraT_good) 80 kwe10) kwt10_good

def kwv12 : List AVal := [(S [117]),(S [120]),(I 0),(I 0)]
def kwv13 : List AVal := [(I 0),(.seq 7 4 false (rowsF [kwv0,kwv0,kwv0,kwv0])),(.seq 20 1 false (rowsF [kwv11])),N0,N0,(.seq 4 1 false (rowsF [kwv12])),(I 2),(I 1)]
theorem kwe11 : chkE (callT Tryz.prog (tblO (maskL [40, 70, 71, 94, 177, 359, 412]) kwt11 oraT) hintT 80) 415 [(.agg kwv13),(.agg kwv11),(I 1000000)] (.tup [(I 0),(I 0),B1]) = true := by kernel_rfl
def kwt12 : Tbl := (415, [(.agg kwv13),(.agg kwv11),(I 1000000)], (.tup [(I 0),(I 0),B1])) :: kwt11
theorem kwt12_good : GoodTbl Tryz.prog kwt12 := .cons (entry (tblO_good kwt11_good oraT_good) 80 kwe11) kwt11_good

end Go.Proofs.YtalhamokkblnjaaGreatDoor
