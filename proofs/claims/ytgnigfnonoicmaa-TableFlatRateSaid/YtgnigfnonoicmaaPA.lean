import Derived.Test.YtgnigfnonoicmaaPD
set_option maxRecDepth 100000
set_option linter.unusedVariables false
set_option linter.unusedSimpArgs false
namespace Go.Proofs.Ytgnigfnonoicmaa
open Go Go.Lift
/-- A date lies in a valid range. -/
def inD (r : api_DateRangeV) (t : Int) : Bool := vld r && decide (r.1 ≤ t ∧ t < r.2.1)
theorem contains_val (r : api_DateRangeV) (t : Int) : daterange_Contains r t = some (inD r t, ()) := by
  simp only [daterange_Contains, daterange_Contains.Se, valid_val, bind_some', inD]
  cases vld r with
  | false => rfl
  | true =>
    by_cases h1 : r.1 ≤ t <;> by_cases h2 : t < r.2.1 <;> simp [h1, h2]
end Go.Proofs.Ytgnigfnonoicmaa
