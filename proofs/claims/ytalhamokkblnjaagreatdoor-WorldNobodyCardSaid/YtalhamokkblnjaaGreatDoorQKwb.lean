/-
  Calls that the closed run knows: each with its arguments and its answer, reckoned by the kernel. No condition.
-/
import Derived.Test.YtalhamokkblnjaaGreatDoorQKwa
namespace Go.Proofs.YtalhamokkblnjaaGreatDoor
set_option linter.unusedSimpArgs false
set_option linter.unusedVariables false
open Go.Fw

theorem kwe12 : chkE (callT Tryz.prog (tblO (maskL [40, 70, 71, 94, 177, 359, 412, 415]) kwt12 oraT) hintT 80) 94 [(.agg kwv13)] (I 0) = true := by kernel_rfl
def kwt13 : Tbl := (94, [(.agg kwv13)], (I 0)) :: kwt12
theorem kwt13_good : GoodTbl Tryz.prog kwt13 := .cons (entry (tblO_good kwt12_good oraT_good) 80 kwe12) kwt12_good

def kwv14 : List AVal := [(I 1),(S [97]),(S [117]),(S [120]),(I 1),(.seq 2 1 false (rowsF [[(I 2),(I 9)]])),(I 0),(I 0),(I 0),(I 0),(.seq 2 0 true (rowsF [])),(I 1),B0,(I 0),(J 0),(I 0),(I 0),(I 0),(.lit (.int .u64 0)),(I 0)]
def kwv15 : List AVal := [(I 0),(.seq 7 4 false (rowsF [kwv0,kwv0,kwv0,kwv0])),(.seq 20 1 false (rowsF [kwv14])),N0,N0,(.seq 4 1 false (rowsF [kwv12])),(I 2),(I 1)]
theorem kwe13 : chkE (callT Tryz.prog (tblO (maskL [40, 70, 71, 94, 177, 359, 412, 415]) kwt13 oraT) hintT 80) 359 [(.agg kwv14)] (I 0) = true := by kernel_rfl
def kwt14 : Tbl := (359, [(.agg kwv14)], (I 0)) :: kwt13
theorem kwt14_good : GoodTbl Tryz.prog kwt14 := .cons (entry (tblO_good kwt13_good oraT_good) 80 kwe13) kwt13_good

theorem kwe14 : chkE (callT Tryz.prog (tblO (maskL [40, 70, 71, 94, 177, 359, 412, 415]) kwt14 oraT) hintT 80) 335 [(.agg kwv15)] (.tup [(.seq 20 1 false (rowsF [kwv14])),N0]) = true := by kernel_rfl
def kwt15 : Tbl := (335, [(.agg kwv15)], (.tup [(.seq 20 1 false (rowsF [kwv14])),N0])) :: kwt14
theorem kwt15_good : GoodTbl Tryz.prog kwt15 := .cons (entry (tblO_good kwt14_good oraT_good) 80 kwe14) kwt14_good

def kwv16 : List AVal := [(I 1),(S [97]),(S [117]),(S [120]),(I 1),(.seq 2 1 false (rowsF [[(I 2),(I 9)]])),(I 0),(I 0),(I 0),(I 0),(.seq 2 0 true (rowsF [])),(I 1),B0,(I 0),(I 0),(I 0),(I 0),(I 0),(.lit (.int .u64 0)),(I 0)]
theorem kwe15 : chkE (callT Tryz.prog (tblO (maskL [40, 70, 71, 94, 177, 335, 359, 412, 415]) kwt15 oraT) hintT 80) 359 [(.agg kwv16)] (I 0) = true := by kernel_rfl
def kwt16 : Tbl := (359, [(.agg kwv16)], (I 0)) :: kwt15
theorem kwt16_good : GoodTbl Tryz.prog kwt16 := .cons (entry (tblO_good kwt15_good oraT_good) 80 kwe15) kwt15_good

def kwv17 : AVal := (.tup [(.seq 20 1 false (rowsF [kwv16])),(.seq 1 1 false (rowsF [[(I 1)]]))])
theorem kwe16 : chkE (callT Tryz.prog (tblO (maskL [40, 70, 71, 94, 177, 335, 359, 412, 415]) kwt16 oraT) hintT 80) 336 [(.agg kwv15)] kwv17 = true := by kernel_rfl
def kwt17 : Tbl := (336, [(.agg kwv15)], kwv17) :: kwt16
theorem kwt17_good : GoodTbl Tryz.prog kwt17 := .cons (entry (tblO_good kwt16_good oraT_good) 80 kwe16) kwt16_good

def kwv18 : List AVal := [(I 0),(.seq 7 4 false (rowsF [kwv0,kwv0,kwv0,kwv0])),(.seq 20 1 false (rowsF [kwv16])),N0,N0,(.seq 4 1 false (rowsF [kwv12])),(I 2),(I 1)]
theorem kwe17 : chkE (callT Tryz.prog (tblO (maskL [40, 70, 71, 94, 177, 335, 336, 359, 412, 415]) kwt17 oraT) hintT 80) 242 [(.agg kwv18)] (.seq 1 1 false (rowsF [[(I 1)]])) = true := by kernel_rfl
def kwt18 : Tbl := (242, [(.agg kwv18)], (.seq 1 1 false (rowsF [[(I 1)]]))) :: kwt17
theorem kwt18_good : GoodTbl Tryz.prog kwt18 := .cons (entry (tblO_good kwt17_good oraT_good) 80 kwe17) kwt17_good

end Go.Proofs.YtalhamokkblnjaaGreatDoor
