/-
  A world that no call made answers that it is none. No condition.
-/
import Derived.Test.YtalhamokkblnjaaGreatDoorQSnw
import Derived.Test.YtalhamokkblnjaaGreatDoorQ6
import Derived.Test.YtalhamokkblnjaaGreatDoorQ12
import Derived.Test.YtalhamokkblnjaaGreatDoorQKya
namespace Go.Proofs.YtalhamokkblnjaaGreatDoor
set_option linter.unusedSimpArgs false
set_option linter.unusedVariables false
open Go.Fw

def wnR : AVal := .tup [P0, I 2]
theorem wn_neg (m : Nat) : chkE (callT Tryz.prog oraT hintT 80) 11 [I 49, .lit (.int .i64 (Int.negSucc m))] wnR = true := by kernel_rfl
theorem wn_0 : chkE (callT Tryz.prog oraT hintT 80) 11 [I 49, I 0] wnR = true := by kernel_rfl
theorem wn_big (m : Nat) : chkE (callT Tryz.prog oraT hintT 80) 11 [I 49, .lit (.int .i64 (Int.ofNat (m + 401)))] wnR = true := by kernel_rfl
def snT (n : Nat) : Tbl := [(38, [I n], .tup [.any, I 0])]
noncomputable def wnN (n : Nat) : Bool := chkE (callT Tryz.prog (tblO (maskL [38]) (snT n) oraT) hintT 80) 11 [I 49, I n] wnR
theorem wn_1 : (List.range' 1 200).all wnN = true := by kernel_rfl
theorem wn_201 : (List.range' 201 200).all wnN = true := by kernel_rfl
theorem wn_all {n : Nat} (h1 : 1 ≤ n) (h2 : n < 401) : wnN n = true := by
  rcases Nat.lt_or_ge n 201 with h | h
  · exact List.all_eq_true.1 wn_1 n (List.mem_range'_1.2 ⟨h1, h⟩)
  · exact List.all_eq_true.1 wn_201 n (List.mem_range'_1.2 ⟨h, h2⟩)
theorem worldNew_c (n : Int) (objs : Objs) : AGives Tryz.prog 11 [I 49, .lit (.int .i64 n)] objs wnR := by
  cases n with
  | negSucc m => exact entry oraT_good 80 (wn_neg m) objs
  | ofNat n =>
    rcases Nat.lt_or_ge n 401 with h | h
    · rcases Nat.eq_zero_or_pos n with h0 | h0
      · subst h0
        exact entry oraT_good 80 wn_0 objs
      · exact entry (tblO_good (.cons (storeNew_c n (by omega) (by omega)) .nil) oraT_good) 80 (wn_all h0 h) objs
    · obtain ⟨m, rfl⟩ : ∃ m, n = m + 401 := ⟨n - 401, by omega⟩
      exact entry oraT_good 80 (wn_big m) objs

def A0 : AVal := .agg [.any, .any, .any, .any, .any]
theorem rep_anys {K : Ctx} {cs ds : List AVal} {v : Value} (h : Rep K (.agg cs) v) (hl : ds.length = cs.length) (hd : ∀ x ∈ ds, x = .any) : Rep K (.agg ds) v := by
  cases h with
  | agg _ vs h1 h2 h3 => exact .agg _ vs (by omega) h2 fun i x v hx _ => by rw [hd x (List.mem_of_getElem? hx)]; exact .any _
def awT : Tbl := [(12, [], B1)]
theorem awT_good : GoodTbl Tryz.prog awT := .cons (entry (tblO_good kyt2_good oraM_good) 80 kye2) .nil
noncomputable def oraA : CallF := tblO (maskL [12]) awT oraT
theorem oraA_good : GoodCall Tryz.prog oraA := tblO_good awT_good oraT_good
/-- A world of 49 nodes and any number of blocks is none. -/
noncomputable def oraW : CallF := fun f args objs =>
  match Nat.beq f 11 with
  | true => (match args with
    | [x, .lit (.int .i64 _)] => (match subA 60 x (I 49) with | true => some (wnR, objs) | false => oraA f args objs)
    | _ => oraA f args objs)
  | false => oraA f args objs
theorem oraW_good : GoodCall Tryz.prog oraW := by
  intro f args objs r o' h
  unfold oraW at h
  split at h
  · rename_i hf
    have hf := Nat.eq_of_beq_eq_true hf
    subst hf
    split at h
    · rename_i x n
      split at h
      · rename_i hs
        simp only [Option.some.injEq, Prod.mk.injEq] at h
        obtain ⟨rfl, rfl⟩ := h
        intro K w vs hm hr
        refine worldNew_c n objs K w vs hm ⟨hr.1, fun i x' v hx hv => ?_⟩
        match i with
        | 0 =>
          simp only [List.getElem?_cons_zero, Option.some.injEq] at hx
          subst hx
          exact subA_sound _ _ _ hs K v (hr.2 0 x v rfl hv)
        | 1 => exact hr.2 1 x' v hx hv
        | k + 2 => simp at hx
      · exact oraA_good _ _ _ _ _ h
    · exact oraA_good _ _ _ _ _ h
  · exact oraA_good _ _ _ _ _ h
theorem lw_any (n : Int) : chkE (callT Tryz.prog oraW hintT 80) 3 [A0, .lit (.int .i64 n)] B1 = true := by kernel_rfl

theorem worldNobody_gives (a0 : Ac) (a1 : Int) (_ : Ac.wf a0) (_ : (Lit.int .i64 a1).wf = true) : AGives Tryz.prog 3 [Ac.a a0, .lit (.int .i64 a1)] [] (.lit (.bool true)) := by
  intro K w vs hm hr
  refine entry oraW_good 80 (lw_any a1) [] K w vs hm ⟨hr.1, fun i x v hx hv => ?_⟩
  match i with
  | 0 =>
    simp only [List.getElem?_cons_zero, Option.some.injEq] at hx
    subst hx
    exact rep_anys (hr.2 0 _ v rfl hv) rfl (by simp)
  | 1 => exact hr.2 1 x v hx hv
  | k + 2 => simp at hx
end Go.Proofs.YtalhamokkblnjaaGreatDoor
