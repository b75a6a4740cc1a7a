import Derived.Test.YtojafdgkcamliaaPT
set_option maxRecDepth 100000
set_option linter.unusedVariables false
set_option linter.unusedSimpArgs false
namespace Go.Proofs.Ytojafdgkcamliaa
open Go Go.Lift
theorem inD_all {t : Int} (h0 : 0 ≤ t) (h1 : t ≤ 109572) : inD ((0, 109573, ()) : api_DateRangeV) t = true := by
  have hv : vld ((0, 109573, ()) : api_DateRangeV) = true := by decide
  simp only [inD, hv, Bool.true_and, decide_eq_true_eq]
  omega
end Go.Proofs.Ytojafdgkcamliaa
