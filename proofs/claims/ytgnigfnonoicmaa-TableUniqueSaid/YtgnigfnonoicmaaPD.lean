import Derived.Test.YtgnigfnonoicmaaPCd
set_option maxRecDepth 100000
set_option linter.unusedVariables false
set_option linter.unusedSimpArgs false
namespace Go.Proofs.Ytgnigfnonoicmaa
open Go Go.Lift
abbrev api_DateRangeV : Type := api_TypeV
/-- A proper range: on the calendar and not empty. -/
def prp (r : api_DateRangeV) : Bool := decide (0 ≤ r.1 ∧ r.1 < r.2.1 ∧ r.2.1 ≤ 109573)
theorem prp_iff {r : api_DateRangeV} : prp r = true ↔ 0 ≤ r.1 ∧ r.1 < r.2.1 ∧ r.2.1 ≤ 109573 := by simp [prp]
/-- A range on the calendar. -/
def vld (r : api_DateRangeV) : Bool := decide (0 ≤ r.1 ∧ r.1 ≤ r.2.1 ∧ r.2.1 ≤ 109573)
/-- A date lies in a range. -/
def inr (r : api_DateRangeV) (t : Int) : Prop := r.1 ≤ t ∧ t < r.2.1
theorem proper_val (r : api_DateRangeV) : daterange_proper r = some (prp r, ()) := by
  simp only [daterange_proper, daterange_proper.Se, daterange_Valid, daterange_Valid.Se, prp, bind_some']
  by_cases h1 : 0 ≤ r.1 <;> by_cases h2 : r.1 ≤ r.2.1 <;> by_cases h3 : r.2.1 ≤ 109573 <;> by_cases h4 : r.1 < r.2.1 <;> simp [h1, h2, h3, h4] <;> omega
theorem valid_val (r : api_DateRangeV) : daterange_Valid r = some (vld r, ()) := by
  simp only [daterange_Valid, daterange_Valid.Se, vld, bind_some']
  by_cases h1 : 0 ≤ r.1 <;> by_cases h2 : r.1 ≤ r.2.1 <;> by_cases h3 : r.2.1 ≤ 109573 <;> simp [h1, h2, h3]
theorem rvalid_val (r : api_DateRangeV) : ref05_Valid r = some (vld r, ()) := by
  simp only [ref05_Valid, ref05_Valid.Se, vld, bind_some']
  by_cases h1 : 0 ≤ r.1 <;> by_cases h2 : r.1 ≤ r.2.1 <;> by_cases h3 : r.2.1 ≤ 109573 <;> simp [h1, h2, h3]
theorem idx_mid {α : Type} (pre : List α) (x : α) (rest : List α) : idx (pre ++ x :: rest) (pre.length : Int) = some x := by
  rw [idx_nat]; simp
theorem len_mid {α : Type} (pre : List α) (x : α) (rest : List α) : (pre ++ x :: rest).length = pre.length + (rest.length + 1) := by simp
theorem mid_shift {α : Type} (pre : List α) (x : α) (rest : List α) : pre ++ x :: rest = (pre ++ [x]) ++ rest := by simp
theorem len_snoc {α : Type} (pre : List α) (x : α) : ((pre ++ [x]).length : Int) = ((pre.length + 1 : Nat) : Int) := by simp
theorem cond_max (a b : Int) : cond (decide (a > b)) a b = max a b := by
  by_cases g : a > b
  · rw [decide_eq_true g, cond_true, Int.max_eq_left (by omega)]
  · rw [decide_eq_false g, cond_false, Int.max_eq_right (by omega)]
theorem cond_min (a b : Int) : cond (decide (a < b)) a b = min a b := by
  by_cases g : a < b
  · rw [decide_eq_true g, cond_true, Int.min_eq_left (by omega)]
  · rw [decide_eq_false g, cond_false, Int.min_eq_right (by omega)]
/-- The intersection and whether there is one. -/
def isec (a b : api_DateRangeV) : api_DateRangeV × Bool × Unit :=
  if vld a = true ∧ vld b = true ∧ max b.1 a.1 < min b.2.1 a.2.1 then ((max b.1 a.1, min b.2.1 a.2.1, ()), true, ()) else ((0, 0, ()), false, ())
theorem vld_iff {r : api_DateRangeV} : vld r = true ↔ 0 ≤ r.1 ∧ r.1 ≤ r.2.1 ∧ r.2.1 ≤ 109573 := by simp [vld]
theorem intersect_val (a b : api_DateRangeV) : daterange_Intersect a b = some (isec a b) := by
  simp only [daterange_Intersect, daterange_Intersect.Se, proper_val, bind_some', cond_max, cond_min, isec]
  cases ha : prp a with
  | false =>
    rw [if_neg]
    · rfl
    · rw [vld_iff, vld_iff]
      intro h
      have : ¬ (0 ≤ a.1 ∧ a.1 < a.2.1 ∧ a.2.1 ≤ 109573) := fun g => by rw [prp_iff.2 g] at ha; cases ha
      omega
  | true =>
    cases hb : prp b with
    | false =>
      rw [if_neg]
      · rfl
      · rw [vld_iff, vld_iff]
        intro h
        have : ¬ (0 ≤ b.1 ∧ b.1 < b.2.1 ∧ b.2.1 ≤ 109573) := fun g => by rw [prp_iff.2 g] at hb; cases hb
        omega
    | true =>
      have pa := prp_iff.1 ha
      have pb := prp_iff.1 hb
      simp only [Bool.not_true, cond_false]
      by_cases c : max b.1 a.1 < min b.2.1 a.2.1
      · rw [cd_f (by omega), if_pos ⟨vld_iff.2 (by omega), vld_iff.2 (by omega), c⟩]
      · rw [cd_t (by omega), if_neg (fun h => c h.2.2)]
theorem rintersect_val (a b : api_DateRangeV) : ref05_Intersect a b = some (isec a b) := by
  simp only [ref05_Intersect, ref05_Intersect.Se, ref05_Intersect.J0_eq, ref05_Intersect.SJ0, rvalid_val, bind_some', cond_max, cond_min, isec]
  cases ha : vld a with
  | false => simp
  | true =>
    cases hb : vld b with
    | false => simp
    | true =>
      simp only [Bool.not_true, cond_false, true_and]
      by_cases c : max b.1 a.1 < min b.2.1 a.2.1
      · rw [cd_f (by omega), if_pos c]
      · rw [cd_t (by omega), if_neg c]
end Go.Proofs.Ytgnigfnonoicmaa
