/-
  No function of the program starts a goroutine. No condition.
-/
import Derived.Test.YtalhamokkblnjaaGreatDoorProg
import Derived.SevenTiedAt
import Derived.KernelRfl
namespace Go
set_option linter.unusedSimpArgs false
set_option linter.unusedVariables false
theorem goes_none {P : Program} (h : ∀ g : Nat, ((P.funcs[g]?).any Func.goes) = false) (f : FuncId) : P.goes f = false := by
  unfold Program.goes
  have h2 : P.funcs.any Func.goes = false := by
    rw [Array.any_eq_false]
    intro i hi
    have := h i
    rw [Array.getElem?_eq_getElem hi] at this
    simpa using this
  rw [h2, Bool.and_false, Bool.or_false]
  simp only [h, List.any_eq_false, Bool.false_eq_true, not_false_eq_true, implies_true]
theorem goesAt_none {P : Program} (h : ∀ g : Nat, ((P.funcs[g]?).any Func.goes) = false) (s : Start) (func : String) : false = P.goesAt s func := by
  unfold Program.goesAt Program.goesFrom
  have h3 := goes_none h
  cases P.funcNamed func with
  | none => cases s <;> simp [h3]
  | some f => cases s <;> simp [h3]
theorem goes_parts {P : Program} {n : Nat} (hs : Nat.ble P.funcs.size n = true) (h : ∀ g, g < n → ((P.funcs[g]?).any Func.goes) = false) (g : Nat) : ((P.funcs[g]?).any Func.goes) = false := by
  rcases Nat.lt_or_ge g n with hg | hg
  · exact h g hg
  · rw [Array.getElem?_eq_none (Nat.le_trans (Nat.le_of_ble_eq_true hs) hg)]
    rfl
def goesIn (P : Program) (a n : Nat) : Bool := (List.range' a n).all fun g => !((P.funcs[g]?).any Func.goes)
theorem goesIn_at {P : Program} {a n : Nat} (h : goesIn P a n = true) {g : Nat} (h1 : a ≤ g) (h2 : g < a + n) : ((P.funcs[g]?).any Func.goes) = false := by
  have := List.all_eq_true.1 h g (List.mem_range'_1.2 ⟨h1, h2⟩)
  simpa using this
end Go

namespace Go.Proofs.YtalhamokkblnjaaGreatDoor
set_option linter.unusedSimpArgs false
set_option linter.unusedVariables false
open Go
theorem goes_size : Nat.ble Tryz.prog.funcs.size 800 = true := by kernel_rfl
theorem goes_a : goesIn Tryz.prog 0 100 = true := by kernel_rfl
theorem goes_b : goesIn Tryz.prog 100 100 = true := by kernel_rfl
theorem goes_c : goesIn Tryz.prog 200 100 = true := by kernel_rfl
theorem goes_d : goesIn Tryz.prog 300 100 = true := by kernel_rfl
theorem goes_e : goesIn Tryz.prog 400 100 = true := by kernel_rfl
theorem goes_f : goesIn Tryz.prog 500 100 = true := by kernel_rfl
theorem goes_g : goesIn Tryz.prog 600 100 = true := by kernel_rfl
theorem goes_h : goesIn Tryz.prog 700 100 = true := by kernel_rfl
theorem goes_all : ∀ g : Nat, ((Tryz.prog.funcs[g]?).any Func.goes) = false := goes_parts goes_size fun g h => by
  rcases Nat.lt_or_ge g 100 with ha | ha
  · exact goesIn_at goes_a (by omega) (by omega)
  rcases Nat.lt_or_ge g 200 with hb | hb
  · exact goesIn_at goes_b (by omega) (by omega)
  rcases Nat.lt_or_ge g 300 with hc | hc
  · exact goesIn_at goes_c (by omega) (by omega)
  rcases Nat.lt_or_ge g 400 with hd | hd
  · exact goesIn_at goes_d (by omega) (by omega)
  rcases Nat.lt_or_ge g 500 with he | he
  · exact goesIn_at goes_e (by omega) (by omega)
  rcases Nat.lt_or_ge g 600 with hf | hf
  · exact goesIn_at goes_f (by omega) (by omega)
  rcases Nat.lt_or_ge g 700 with hg | hg
  · exact goesIn_at goes_g (by omega) (by omega)
  exact goesIn_at goes_h (by omega) (by omega)
end Go.Proofs.YtalhamokkblnjaaGreatDoor
