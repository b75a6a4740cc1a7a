import Derived.Test.YtgnigfnonoicmaaPA
set_option maxRecDepth 100000
set_option linter.unusedVariables false
set_option linter.unusedSimpArgs false
namespace Go.Proofs.Ytgnigfnonoicmaa
open Go Go.Lift
theorem few_val (t : api_TableV) (n : Int) : law12_few t n = some (decide ((t.2.2.2.1.length : Int) ≤ n), ()) := rfl
end Go.Proofs.Ytgnigfnonoicmaa
