import Derived.Test.YtphpegconhdnfaaPSortC
set_option maxRecDepth 100000
set_option linter.unusedVariables false
set_option linter.unusedSimpArgs false
namespace Go.Proofs.Ytphpegconhdnfaa
open Go Go.Lift
theorem less_int (x y : Int) : cmp_Less_int x y = some (decide (x < y), ()) := by
  simp only [cmp_Less_int, cmp_Less_int.Se, cmp_isNaN_int, cmp_isNaN_int.Se, bind_some', bne_self_eq_false, cond_false]
end Go.Proofs.Ytphpegconhdnfaa
