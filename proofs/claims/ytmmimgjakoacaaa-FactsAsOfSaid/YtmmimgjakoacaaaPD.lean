import Derived.Test.YtmmimgjakoacaaaPInts
set_option maxRecDepth 100000
set_option linter.unusedVariables false
set_option linter.unusedSimpArgs false
namespace Go.Proofs.Ytmmimgjakoacaaa
open Go Go.Lift
/-- A proper range: on the calendar and not empty. -/
def prp (r : api_DateRangeV) : Bool := decide (0 ≤ r.1 ∧ r.1 < r.2.1 ∧ r.2.1 ≤ 109573)
theorem prp_iff {r : api_DateRangeV} : prp r = true ↔ 0 ≤ r.1 ∧ r.1 < r.2.1 ∧ r.2.1 ≤ 109573 := by simp [prp]
/-- A range on the calendar. -/
def vld (r : api_DateRangeV) : Bool := decide (0 ≤ r.1 ∧ r.1 ≤ r.2.1 ∧ r.2.1 ≤ 109573)
/-- A date lies in a range. -/
def inr (r : api_DateRangeV) (t : Int) : Prop := r.1 ≤ t ∧ t < r.2.1
theorem valid_val (r : api_DateRangeV) : daterange_Valid r = some (vld r, ()) := by
  simp only [daterange_Valid, daterange_Valid.Se, vld, bind_some']
  by_cases h1 : 0 ≤ r.1 <;> by_cases h2 : r.1 ≤ r.2.1 <;> by_cases h3 : r.2.1 ≤ 109573 <;> simp [h1, h2, h3]
theorem rvalid_val (r : api_DateRangeV) : ref05_Valid r = some (vld r, ()) := by
  simp only [ref05_Valid, ref05_Valid.Se, vld, bind_some']
  by_cases h1 : 0 ≤ r.1 <;> by_cases h2 : r.1 ≤ r.2.1 <;> by_cases h3 : r.2.1 ≤ 109573 <;> simp [h1, h2, h3]
theorem idx_mid {α : Type} (pre : List α) (x : α) (rest : List α) : idx (pre ++ x :: rest) (pre.length : Int) = some x := by
  rw [idx_nat]; simp
theorem getD_mid {α : Type} (pre : List α) (x z : α) (rest : List α) : (pre ++ x :: rest).getD pre.length z = x := by
  simp [List.getD_eq_getElem?_getD]
theorem len_mid {α : Type} (pre : List α) (x : α) (rest : List α) : (pre ++ x :: rest).length = pre.length + (rest.length + 1) := by simp
theorem mid_shift {α : Type} (pre : List α) (x : α) (rest : List α) : pre ++ x :: rest = (pre ++ [x]) ++ rest := by simp
theorem len_snoc {α : Type} (pre : List α) (x : α) : ((pre ++ [x]).length : Int) = ((pre.length + 1 : Nat) : Int) := by simp
end Go.Proofs.Ytmmimgjakoacaaa
