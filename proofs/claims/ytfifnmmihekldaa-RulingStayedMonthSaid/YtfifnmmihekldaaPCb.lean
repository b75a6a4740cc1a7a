import Derived.Test.YtfifnmmihekldaaPInts
set_option maxRecDepth 100000
set_option linter.unusedVariables false
set_option linter.unusedSimpArgs false
namespace Go.Proofs.Ytfifnmmihekldaa
open Go Go.Lift
theorem rm8 {n : Nat} (h : n ≤ 1000000) : (decide (n * 8 ≤ room) && decide (0 < Ty.nc (.int .i64))) = true := by
  rw [decide_eq_true (by rw [room_eq]; omega)]; rfl
theorem idx_mid {α : Type} (pre : List α) (x : α) (rest : List α) : idx (pre ++ x :: rest) (pre.length : Int) = some x := by
  rw [idx_nat]; simp
theorem getD_mid {α : Type} (pre : List α) (x z : α) (rest : List α) : (pre ++ x :: rest).getD pre.length z = x := by
  simp [List.getD_eq_getElem?_getD]
theorem len_mid {α : Type} (pre : List α) (x : α) (rest : List α) : (pre ++ x :: rest).length = pre.length + (rest.length + 1) := by simp
theorem mid_shift {α : Type} (pre : List α) (x : α) (rest : List α) : pre ++ x :: rest = (pre ++ [x]) ++ rest := by simp
theorem len_snoc {α : Type} (pre : List α) (x : α) : ((pre ++ [x]).length : Int) = ((pre.length + 1 : Nat) : Int) := by simp
theorem cond_max (a b : Int) : cond (decide (a > b)) a b = max a b := by
  by_cases g : a > b
  · rw [decide_eq_true g, cond_true, Int.max_eq_left (by omega)]
  · rw [decide_eq_false g, cond_false, Int.max_eq_right (by omega)]
theorem cond_min (a b : Int) : cond (decide (a < b)) a b = min a b := by
  by_cases g : a < b
  · rw [decide_eq_true g, cond_true, Int.min_eq_left (by omega)]
  · rw [decide_eq_false g, cond_false, Int.min_eq_right (by omega)]
end Go.Proofs.Ytfifnmmihekldaa
