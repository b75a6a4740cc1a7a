import Derived.Test.YtdkglohjlfoncaaPB
set_option maxRecDepth 100000
set_option linter.unusedVariables false
set_option linter.unusedSimpArgs false
namespace Go.Proofs.Ytdkglohjlfoncaa
open Go Go.Lift
theorem same_ints_refl (l : List Int) (h : l.length ≤ 1000000) : same_Ints l l = some (true, ()) := by
  rw [same_Ints_val (by unfold maxLen; omega), decide_eq_true rfl]
end Go.Proofs.Ytdkglohjlfoncaa
