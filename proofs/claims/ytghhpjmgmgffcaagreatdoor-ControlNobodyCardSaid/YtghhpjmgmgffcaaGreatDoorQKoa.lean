/-
  Calls that the closed run knows: each with its arguments and its answer, reckoned by the kernel. No condition.
-/
import Derived.Test.YtghhpjmgmgffcaaGreatDoorQKnc
namespace Go.Proofs.YtghhpjmgmgffcaaGreatDoor
set_option linter.unusedSimpArgs false
set_option linter.unusedVariables false
open Go.Fw

noncomputable def oraK : CallF := tblO (maskL [95, 32, 309, 355, 358, 277, 278, 175, 284, 25, 42, 103, 97, 13]) knt19 oraT
theorem oraK_good : GoodCall Tryz.prog oraK := tblO_good knt19_good oraT_good
def kov0 : List AVal := [(I 1),(I 0),(S [73,0,0,0,0,0,0,0,1,0,0,0,1,4,0,0,0,0,0,0,0,0,0,0,0,0,0,0,0,0,0,0,0,0,0,0,0,0,0,0,0,0,0,0,0,0,0,0,0,0,0,0,0,0,0,0,0,0,0,0,0,0,0,0,0,0,0,0,0,0,0,0,0,0,0,0,0,0,0,0,0,0,0,0,0,0,0,0,0,0,0,0,0,0]),(I 111),(I 0)]
def kov1 : List AVal := [(S [77,0,0,0,94,0,0,0,1,0,0,0,0,73,0,0,0,0,0,0,0,1,0,0,0,1,4,0,0,0,0,0,0,0,0,0,0,0,0,0,0,0,0,0,0,0,0,0,0,0,0,0,0,0,0,0,0,0,0,0,0,0,0,0,0,0,0,0,0,0,0,0,0,0,0,0,0,0,0,0,0,0,0,0,0,0,0,0,0,0,0,0,0,0,0,0,0,0,0,0,0,0,0,0,0,0,0,99,137,0,252]),(I 0)]
def kot0 : Tbl := []
theorem kot0_good : GoodTbl Tryz.prog kot0 := .nil
theorem koe0 : chkE (callT Tryz.prog (tblO (maskL []) kot0 oraK) hintT 80) 425 kov1 (.tup kov0) = true := by kernel_rfl
def kot1 : Tbl := (425, kov1, (.tup kov0)) :: kot0
theorem kot1_good : GoodTbl Tryz.prog kot1 := .cons (entry (tblO_good kot0_good oraK_good) 80 koe0) kot0_good

def kov2 : List AVal := [(I 1),(I 1),(S [1,0,40,115,117,98,109,105,116,32,97,32,117,115,101,114,61,117,32,97,99,99,111,117,110,116,61,120,32,110,111,100,101,115,61,50,32,116,105,109,101,61,57]),(I 60),(I 0)]
def kov3 : List AVal := [(S [77,0,0,0,43,0,0,0,1,0,0,0,1,1,0,40,115,117,98,109,105,116,32,97,32,117,115,101,114,61,117,32,97,99,99,111,117,110,116,61,120,32,110,111,100,101,115,61,50,32,116,105,109,101,61,57,79,219,14,249]),(I 0)]
theorem koe1 : chkE (callT Tryz.prog (tblO (maskL [425]) kot1 oraK) hintT 80) 425 kov3 (.tup kov2) = true := by kernel_rfl
def kot2 : Tbl := (425, kov3, (.tup kov2)) :: kot1
theorem kot2_good : GoodTbl Tryz.prog kot2 := .cons (entry (tblO_good kot1_good oraK_good) 80 koe1) kot1_good

def kov4 : List AVal := [(I 0),(I 0),(I 0),B0,(I 0),(I 0),(I 0)]
def kov5 : List AVal := [(I 0),(.seq 7 4 false (rowsF [kov4,kov4,kov4,kov4])),N0,N0,N0,N0,(I 1),(I 1)]
def kov6 : List AVal := [(S [73,0,0,0,0,0,0,0,1,0,0,0,1,4,0,0,0,0,0,0,0,0,0,0,0,0,0,0,0,0,0,0,0,0,0,0,0,0,0,0,0,0,0,0,0,0,0,0,0,0,0,0,0,0,0,0,0,0,0,0,0,0,0,0,0,0,0,0,0,0,0,0,0,0,0,0,0,0,0,0,0,0,0,0,0,0,0,0,0,0,0,0,0,0])]
theorem koe2 : chkE (callT Tryz.prog (tblO (maskL [425]) kot2 oraK) hintT 80) 28 kov6 (.tup [(.agg kov5),(I 0)]) = true := by kernel_rfl
def kot3 : Tbl := (28, kov6, (.tup [(.agg kov5),(I 0)])) :: kot2
theorem kot3_good : GoodTbl Tryz.prog kot3 := .cons (entry (tblO_good kot2_good oraK_good) 80 koe2) kot2_good

def kov7 : List AVal := [(I 1),(S [115,117,98,109,105,116,32,97,32,117,115,101,114,61,117,32,97,99,99,111,117,110,116,61,120,32,110,111,100,101,115,61,50,32,116,105,109,101,61,57]),(I 0),(I 0),(I 0),(I 0)]
def kov8 : List AVal := [(S [1,0,40,115,117,98,109,105,116,32,97,32,117,115,101,114,61,117,32,97,99,99,111,117,110,116,61,120,32,110,111,100,101,115,61,50,32,116,105,109,101,61,57])]
theorem koe3 : chkE (callT Tryz.prog (tblO (maskL [28, 425]) kot3 oraK) hintT 80) 29 kov8 (.tup [(.agg kov7),(I 0)]) = true := by kernel_rfl
def kot4 : Tbl := (29, kov8, (.tup [(.agg kov7),(I 0)])) :: kot3
theorem kot4_good : GoodTbl Tryz.prog kot4 := .cons (entry (tblO_good kot3_good oraK_good) 80 koe3) kot3_good

def kov9 : List AVal := [(I 1),(I 1),(I 1),B0,(I 1),(I 0),(I 0)]
def kov10 : List AVal := [(I 1),(S [97]),(S [117]),(S [120]),(I 1),(.seq 2 1 false (rowsF [[(I 2),(I 9)]])),(I 0),(I 0),(I 0),(I 0),(.seq 2 0 true (rowsF [])),(I 2),B0,(I 0),(I 0),(I 0),(I 0),(I 9),(.lit (.int .u64 3)),(I 0)]
def kov11 : List AVal := [(S [117]),(S [120]),(I 0),(I 0)]
def kov12 : List AVal := [(I 0),(.seq 7 4 false (rowsF [kov9,kov9,kov4,kov4])),(.seq 20 1 false (rowsF [kov10])),N0,N0,(.seq 4 1 false (rowsF [kov11])),(I 2),(I 1)]
def kov13 : List AVal := [(I 0),(S []),(I 0),(I 0),(I 0),(I 0)]
theorem koe4 : chkE (callT Tryz.prog (tblO (maskL [28, 29, 425]) kot4 oraK) hintT 80) 32 [(.agg kov12)] (I 0) = true := by kernel_rfl
def kot5 : Tbl := (32, [(.agg kov12)], (I 0)) :: kot4
theorem kot5_good : GoodTbl Tryz.prog kot5 := .cons (entry (tblO_good kot4_good oraK_good) 80 koe4) kot4_good

def kov14 : List AVal := [(I 0),N0,N0,N0,N0,N0,(I 0),(I 0)]
theorem koe5 : chkE (callT Tryz.prog (tblO (maskL [28, 29, 32, 425]) kot5 oraK) hintT 80) 13 [(.agg kov12),(.agg kov13)] (.tup [(.agg kov14),N0,(I 320)]) = true := by kernel_rfl
def kot6 : Tbl := (13, [(.agg kov12),(.agg kov13)], (.tup [(.agg kov14),N0,(I 320)])) :: kot5
theorem kot6_good : GoodTbl Tryz.prog kot6 := .cons (entry (tblO_good kot5_good oraK_good) 80 koe5) kot5_good

def kov15 : List AVal := [(I 1),(S [97]),(S [117]),(S [120]),(I 1),(.seq 2 1 false (rowsF [[(I 2),(I 9)]])),(I 0),(I 0),(I 0),(I 0),N0,(I 2),B0,(I 0),(I 0),(I 0),(I 0),(I 9),(.lit (.int .u64 3)),(I 0)]
def kov16 : List AVal := [(I 0),(.seq 7 4 false (rowsF [kov9,kov9,kov4,kov4])),(.seq 20 1 false (rowsF [kov15])),N0,N0,(.seq 4 1 false (rowsF [kov11])),(I 2),(I 1)]
theorem koe6 : chkE (callT Tryz.prog (tblO (maskL [13, 28, 29, 32, 425]) kot6 oraK) hintT 80) 7 [(.agg kov16),(.agg kov16)] B1 = true := by kernel_rfl
def kot7 : Tbl := (7, [(.agg kov16),(.agg kov16)], B1) :: kot6
theorem kot7_good : GoodTbl Tryz.prog kot7 := .cons (entry (tblO_good kot6_good oraK_good) 80 koe6) kot6_good

def kov17 : List AVal := [(S [73,0,0,0,0,0,0,0,2,0,0,0,1,4,1,0,0,0,1,0,0,0,1,0,1,0,0,0,0,0,0,0,0,1,0,0,0,1,0,0,0,1,0,1,0,0,0,0,0,0,0,0,0,0,0,0,0,0,0,0,0,0,0,0,0,0,0,0,0,0,0,0,0,0,0,0,0,0,0,0,0,0,0,0,0,0,0,0,0,0,1,0,0,0,1,0,1,97,0,1,117,0,1,120,1,1,2,0,0,0,9,0,0,0,0,0,0,0,0,2,0,0,0,0,0,0,0,0,1,0,0,0,0,0,0,0,0,9,0,0,0,0,0,0,0,3,0,0,0,0,0,0,0,0,0,0,1,0,1,117,0,1,120,0,0,0,0,0,0,0,0,0,0,0,0,0,0,0,0]),(I 0)]
theorem koe7 : chkE (callT Tryz.prog (tblO (maskL [7, 13, 28, 29, 32, 425]) kot7 oraK) hintT 80) 25 [(.agg kov12)] (.tup kov17) = true := by kernel_rfl
def kot8 : Tbl := (25, [(.agg kov12)], (.tup kov17)) :: kot7
theorem kot8_good : GoodTbl Tryz.prog kot8 := .cons (entry (tblO_good kot7_good oraK_good) 80 koe7) kot7_good

end Go.Proofs.YtghhpjmgmgffcaaGreatDoor
