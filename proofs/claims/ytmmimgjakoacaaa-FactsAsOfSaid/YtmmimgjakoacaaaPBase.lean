import Derived.Test.YtmmimgjakoacaaaCode3
set_option maxRecDepth 100000
set_option linter.unusedVariables false
set_option linter.unusedSimpArgs false
namespace Go.Proofs.Ytmmimgjakoacaaa
open Go Go.Lift
/-- The examples of the chapter. -/
theorem awake_ok : law34_awake = some (true, ()) := law34_awake.sigc_le 60 () (true, ()) (by kernel_rfl)
end Go.Proofs.Ytmmimgjakoacaaa
