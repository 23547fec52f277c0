/-
  Calls that the closed run knows: each with its arguments and its answer, reckoned by the kernel. No condition.
-/
import Derived.Test.YtalhamokkblnjaaGreatDoorQKwb
namespace Go.Proofs.YtalhamokkblnjaaGreatDoor
set_option linter.unusedSimpArgs false
set_option linter.unusedVariables false
open Go.Fw

def kwv19 : List AVal := [(I 1),(I 1),(I 1),B0,(I 1),(I 0),(I 0)]
def kwv20 : AVal := (.seq 4 2 false (rowsF [[(I 1),(I 0),(I 1),(I 1)],[(I 1),(I 1),(I 1),(I 1)]]))
def kwv21 : List AVal := [(.seq 7 4 false (rowsF [kwv19,kwv19,kwv0,kwv0])),(.lit (.int .u64 3)),kwv20,(I 0)]
def kwv22 : List AVal := [(.seq 7 4 false (rowsF [kwv0,kwv0,kwv0,kwv0])),(I 2),(I 1),(I 1),(I 0)]
theorem kwe18 : chkE (callT Tryz.prog (tblO (maskL [40, 70, 71, 94, 177, 242, 335, 336, 359, 412, 415]) kwt18 oraT) hintT 80) 342 kwv22 (.tup kwv21) = true := by kernel_rfl
def kwt19 : Tbl := (342, kwv22, (.tup kwv21)) :: kwt18
theorem kwt19_good : GoodTbl Tryz.prog kwt19 := .cons (entry (tblO_good kwt18_good oraT_good) 80 kwe18) kwt18_good

def kwv23 : List AVal := [(I 1),(S [97]),(S [117]),(S [120]),(I 1),(.seq 2 1 false (rowsF [[(I 2),(I 9)]])),(I 0),(I 0),(I 0),(I 0),(.seq 2 0 true (rowsF [])),(I 2),B0,(I 0),(I 0),(I 0),(I 0),(I 9),(.lit (.int .u64 3)),(I 0)]
theorem kwe19 : chkE (callT Tryz.prog (tblO (maskL [40, 70, 71, 94, 177, 242, 335, 336, 342, 359, 412, 415]) kwt19 oraT) hintT 80) 359 [(.agg kwv23)] (I 0) = true := by kernel_rfl
def kwt20 : Tbl := (359, [(.agg kwv23)], (I 0)) :: kwt19
theorem kwt20_good : GoodTbl Tryz.prog kwt20 := .cons (entry (tblO_good kwt19_good oraT_good) 80 kwe19) kwt19_good

def kwv24 : List AVal := [(I 0),(.seq 7 4 false (rowsF [kwv19,kwv19,kwv0,kwv0])),(.seq 20 1 false (rowsF [kwv23])),N0,N0,(.seq 4 1 false (rowsF [kwv12])),(I 2),(I 1)]
def kwv25 : List AVal := [(I 3),(S []),(I 0),(I 0),(I 0),(I 0),(I 1),(I 0),B0]
def kwv26 : List AVal := [(I 4),(S []),(I 0),(I 0),(I 0),(I 0),(I 1),(I 9),B0]
def kwv27 : List AVal := [(I 2),(S []),(I 1),(I 0),(I 1),(I 1),(I 0),(I 0),B0]
def kwv28 : List AVal := [(I 2),(S []),(I 1),(I 1),(I 1),(I 1),(I 0),(I 0),B0]
theorem kwe20 : chkE (callT Tryz.prog (tblO (maskL [40, 70, 71, 94, 177, 242, 335, 336, 342, 359, 412, 415]) kwt20 oraT) hintT 80) 185 [(.agg kwv13),B0] (.tup [(.agg kwv24),(.seq 9 4 false (rowsF [kwv25,kwv26,kwv27,kwv28])),(I 0)]) = true := by kernel_rfl
def kwt21 : Tbl := (185, [(.agg kwv13),B0], (.tup [(.agg kwv24),(.seq 9 4 false (rowsF [kwv25,kwv26,kwv27,kwv28])),(I 0)])) :: kwt20
theorem kwt21_good : GoodTbl Tryz.prog kwt21 := .cons (entry (tblO_good kwt20_good oraT_good) 80 kwe20) kwt20_good

def kwv29 : List AVal := [(.agg kwv24),(S [111,107,32,49]),(.seq 9 4 false (rowsF [kwv25,kwv26,kwv27,kwv28])),(I 0)]
theorem kwe21 : chkE (callT Tryz.prog (tblO (maskL [40, 70, 71, 94, 177, 185, 242, 335, 336, 342, 359, 412, 415]) kwt21 oraT) hintT 80) 179 [(.agg kwv1),(.agg kwv8)] (.tup kwv29) = true := by kernel_rfl
def kwt22 : Tbl := (179, [(.agg kwv1),(.agg kwv8)], (.tup kwv29)) :: kwt21
theorem kwt22_good : GoodTbl Tryz.prog kwt22 := .cons (entry (tblO_good kwt21_good oraT_good) 80 kwe21) kwt21_good

def kwv30 : List AVal := [(I 1),(S [111,107,32,49]),(I 0),(I 0),(I 0),(I 0),(I 0),(I 0),B0]
def kwv31 : AVal := (.tup [(.agg kwv24),(.seq 9 5 false (rowsF [kwv30,kwv25,kwv26,kwv27,kwv28])),(I 0)])
theorem kwe22 : chkE (callT Tryz.prog (tblO (maskL [40, 70, 71, 94, 177, 179, 185, 242, 335, 336, 342, 359, 412, 415]) kwt22 oraT) hintT 80) 87 [(.agg kwv1),(.agg kwv7)] kwv31 = true := by kernel_rfl
def kwt23 : Tbl := (87, [(.agg kwv1),(.agg kwv7)], kwv31) :: kwt22
theorem kwt23_good : GoodTbl Tryz.prog kwt23 := .cons (entry (tblO_good kwt22_good oraT_good) 80 kwe22) kwt22_good

theorem kwe23 : chkE (callT Tryz.prog (tblO (maskL [40, 70, 71, 87, 94, 177, 179, 185, 242, 335, 336, 342, 359, 412, 415]) kwt23 oraT) hintT 80) 111 [(.agg kwv1),(.agg kwv24)] B0 = true := by kernel_rfl
def kwt24 : Tbl := (111, [(.agg kwv1),(.agg kwv24)], B0) :: kwt23
theorem kwt24_good : GoodTbl Tryz.prog kwt24 := .cons (entry (tblO_good kwt23_good oraT_good) 80 kwe23) kwt23_good

def kwv32 : List AVal := [(S [1,0,40,115,117,98,109,105,116,32,97,32,117,115,101,114,61,117,32,97,99,99,111,117,110,116,61,120,32,110,111,100,101,115,61,50,32,116,105,109,101,61,57]),(I 0)]
theorem kwe24 : chkE (callT Tryz.prog (tblO (maskL [40, 70, 71, 87, 94, 111, 177, 179, 185, 242, 335, 336, 342, 359, 412, 415]) kwt24 oraT) hintT 80) 128 [(.agg kwv7)] (.tup kwv32) = true := by kernel_rfl
def kwt25 : Tbl := (128, [(.agg kwv7)], (.tup kwv32)) :: kwt24
theorem kwt25_good : GoodTbl Tryz.prog kwt25 := .cons (entry (tblO_good kwt24_good oraT_good) 80 kwe24) kwt24_good

def kwv33 : AVal := (.seq 4 1 true (rowsF [[(I 1),(I 0),(I 1),(I 1)]]))
def kwv34 : AVal := (.seq 4 1 false (rowsF [[(I 1),(I 0),(I 1),(I 1)]]))
theorem kwe25 : chkE (callT Tryz.prog (tblO (maskL [40, 70, 71, 87, 94, 111, 128, 177, 179, 185, 242, 335, 336, 342, 359, 412, 415]) kwt25 oraT) hintT 80) 76 [N0,kwv33] kwv34 = true := by kernel_rfl
def kwt26 : Tbl := (76, [N0,kwv33], kwv34) :: kwt25
theorem kwt26_good : GoodTbl Tryz.prog kwt26 := .cons (entry (tblO_good kwt25_good oraT_good) 80 kwe25) kwt25_good

def kwv35 : AVal := (.seq 4 1 true (rowsF [[(I 1),(I 1),(I 1),(I 1)]]))
end Go.Proofs.YtalhamokkblnjaaGreatDoor
