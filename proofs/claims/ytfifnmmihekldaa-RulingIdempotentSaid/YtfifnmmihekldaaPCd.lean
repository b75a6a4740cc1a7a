import Derived.Test.YtfifnmmihekldaaPBase
set_option maxRecDepth 100000
set_option linter.unusedVariables false
set_option linter.unusedSimpArgs false
namespace Go.Proofs.Ytfifnmmihekldaa
open Go Go.Lift
theorem cd_t {p : Prop} [Decidable p] {α : Type} {A B : α} (h : p) : cond (decide p) A B = A := by simp [h]
theorem cd_f {p : Prop} [Decidable p] {α : Type} {A B : α} (h : ¬ p) : cond (decide p) A B = B := by simp [h]
theorem idx_mid {α : Type} (pre : List α) (x : α) (rest : List α) : idx (pre ++ x :: rest) (pre.length : Int) = some x := by
  rw [idx_nat]; simp
theorem getD_mid {α : Type} (pre : List α) (x z : α) (rest : List α) : (pre ++ x :: rest).getD pre.length z = x := by
  simp [List.getD_eq_getElem?_getD]
theorem len_mid {α : Type} (pre : List α) (x : α) (rest : List α) : (pre ++ x :: rest).length = pre.length + (rest.length + 1) := by simp
theorem mid_shift {α : Type} (pre : List α) (x : α) (rest : List α) : pre ++ x :: rest = (pre ++ [x]) ++ rest := by simp
theorem len_snoc {α : Type} (pre : List α) (x : α) : ((pre ++ [x]).length : Int) = ((pre.length + 1 : Nat) : Int) := by simp
end Go.Proofs.Ytfifnmmihekldaa
