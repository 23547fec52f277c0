/-
  A controller that no call made answers that it is none; there is none without a store. No condition.
-/
import Derived.Test.YtghhpjmgmgffcaaGreatDoorQCnA
import Derived.Test.YtghhpjmgmgffcaaGreatDoorQCnB
import Derived.Test.YtghhpjmgmgffcaaGreatDoorQCnC
import Derived.Test.YtghhpjmgmgffcaaGreatDoorQCnD
import Derived.Test.YtghhpjmgmgffcaaGreatDoorQCnE
import Derived.Test.YtghhpjmgmgffcaaGreatDoorQCnF
import Derived.Test.YtghhpjmgmgffcaaGreatDoorQKob
import Derived.Test.YtghhpjmgmgffcaaGreatDoorQ6
namespace Go.Proofs.YtghhpjmgmgffcaaGreatDoor
set_option linter.unusedSimpArgs false
set_option linter.unusedVariables false
open Go.Fw

theorem ck_all {n : Nat} (h1 : 1 ≤ n) (h2 : n < 49) : ckN n = true := by
  rcases Nat.lt_or_ge n 19 with h | h
  · exact all_at ck1 (by omega) (by omega)
  rcases Nat.lt_or_ge n 27 with h | h
  · exact all_at ck19 (by omega) (by omega)
  rcases Nat.lt_or_ge n 33 with h | h
  · exact all_at ck27 (by omega) (by omega)
  rcases Nat.lt_or_ge n 38 with h | h
  · exact all_at ck33 (by omega) (by omega)
  rcases Nat.lt_or_ge n 43 with h | h
  · exact all_at ck38 (by omega) (by omega)
  rcases Nat.lt_or_ge n 47 with h | h
  · exact all_at ck43 (by omega) (by omega)
  exact all_at ck47 (by omega) (by omega)

theorem nw_all {n : Nat} (h1 : 1 ≤ n) (h2 : n < 49) : nwN n = true := by
  rcases Nat.lt_or_ge n 11 with h | h
  · exact all_at nw1 (by omega) (by omega)
  rcases Nat.lt_or_ge n 16 with h | h
  · exact all_at nw11 (by omega) (by omega)
  rcases Nat.lt_or_ge n 20 with h | h
  · exact all_at nw16 (by omega) (by omega)
  rcases Nat.lt_or_ge n 24 with h | h
  · exact all_at nw20 (by omega) (by omega)
  rcases Nat.lt_or_ge n 27 with h | h
  · exact all_at nw24 (by omega) (by omega)
  rcases Nat.lt_or_ge n 30 with h | h
  · exact all_at nw27 (by omega) (by omega)
  rcases Nat.lt_or_ge n 32 with h | h
  · exact all_at nw30 (by omega) (by omega)
  rcases Nat.lt_or_ge n 34 with h | h
  · exact all_at nw32 (by omega) (by omega)
  rcases Nat.lt_or_ge n 36 with h | h
  · exact all_at nw34 (by omega) (by omega)
  rcases Nat.lt_or_ge n 38 with h | h
  · exact all_at nw36 (by omega) (by omega)
  rcases Nat.lt_or_ge n 40 with h | h
  · exact all_at nw38 (by omega) (by omega)
  rcases Nat.lt_or_ge n 42 with h | h
  · exact all_at nw40 (by omega) (by omega)
  rcases Nat.lt_or_ge n 44 with h | h
  · exact all_at nw42 (by omega) (by omega)
  rcases Nat.lt_or_ge n 46 with h | h
  · exact all_at nw44 (by omega) (by omega)
  rcases Nat.lt_or_ge n 48 with h | h
  · exact all_at nw46 (by omega) (by omega)
  exact all_at nw48 (by omega) (by omega)

def E0 : AVal := .agg [.any, .any, .any, .any, .any, .any]
theorem rep_anys {K : Ctx} {cs ds : List AVal} {v : Value} (h : Rep K (.agg cs) v) (hl : ds.length = cs.length) (hd : ∀ x ∈ ds, x = .any) : Rep K (.agg ds) v := by
  cases h with
  | agg _ vs h1 h2 h3 => exact .agg _ vs (by omega) h2 fun i x v hx _ => by rw [hd x (List.mem_of_getElem? hx)]; exact .any _
def awT : Tbl := [(11, [], B1)]
theorem awT_good : GoodTbl Tryz.prog awT := .cons (entry (tblO_good kot8_good oraK_good) 80 koe8) .nil
noncomputable def oraA : CallF := tblO (maskL [11]) awT oraT
theorem oraA_good : GoodCall Tryz.prog oraA := tblO_good awT_good oraT_good
def n4T : Tbl := [(9, nwA 4, nwR)]
theorem n4T_good : GoodTbl Tryz.prog n4T := .cons (new_n (ck_all (by omega) (by omega)) (nw_all (by omega) (by omega))) .nil
noncomputable def ora4 : CallF := tblO (maskL [9]) n4T oraA
theorem ora4_good : GoodCall Tryz.prog ora4 := tblO_good n4T_good oraA_good
def nT (n : Nat) : Tbl := [(9, nwA n, nwR)]
noncomputable def lwN (n : Nat) : Bool := chkE (callT Tryz.prog (tblO (maskL [9]) (nT n) ora4) hintT 80) 3 [I n, E0] B1
theorem lw1 : (List.range' 1 24).all lwN = true := by kernel_rfl
theorem lw25 : (List.range' 25 24).all lwN = true := by kernel_rfl
theorem lw_all {n : Nat} (h1 : 1 ≤ n) (h2 : n < 49) : lwN n = true := by
  rcases Nat.lt_or_ge n 25 with h | h
  · exact all_at lw1 (by omega) (by omega)
  · exact all_at lw25 (by omega) (by omega)
theorem lw0 : chkE (callT Tryz.prog ora4 hintT 80) 3 [I 0, E0] B1 = true := by kernel_rfl
theorem lw_neg (m : Nat) : chkE (callT Tryz.prog oraA hintT 80) 3 [.lit (.int .i64 (Int.negSucc m)), E0] B1 = true := by kernel_rfl
theorem lw_big (m : Nat) : chkE (callT Tryz.prog oraA hintT 80) 3 [.lit (.int .i64 (Int.ofNat (m + 49))), E0] B1 = true := by kernel_rfl

theorem law_any (n : Int) (objs : Objs) : AGives Tryz.prog 3 [.lit (.int .i64 n), E0] objs B1 := by
  cases n with
  | negSucc m => exact entry oraA_good 80 (lw_neg m) objs
  | ofNat n =>
    rcases Nat.lt_or_ge n 49 with h | h
    · rcases Nat.eq_zero_or_pos n with h0 | h0
      · subst h0
        exact entry ora4_good 80 lw0 objs
      · exact entry (tblO_good (.cons (new_n (ck_all h0 h) (nw_all h0 h)) .nil) ora4_good) 80 (lw_all h0 h) objs
    · obtain ⟨m, rfl⟩ : ∃ m, n = m + 49 := ⟨n - 49, by omega⟩
      exact entry oraA_good 80 (lw_big m) objs

theorem controlNobody_gives (a0 : Int) (a1 : Ev) (_ : (Lit.int .i64 a0).wf = true) (_ : Ev.wf a1) : AGives Tryz.prog 3 [.lit (.int .i64 a0), Ev.a a1] [] (.lit (.bool true)) := by
  intro K w vs hm hr
  refine law_any a0 [] K w vs hm ⟨hr.1, fun i x v hx hv => ?_⟩
  match i with
  | 0 => exact hr.2 0 x v hx hv
  | 1 =>
    simp only [List.getElem?_cons_succ, List.getElem?_cons_zero, Option.some.injEq] at hx
    subst hx
    exact rep_anys (hr.2 1 _ v rfl hv) rfl (by simp)
  | k + 2 => simp at hx
end Go.Proofs.YtghhpjmgmgffcaaGreatDoor
