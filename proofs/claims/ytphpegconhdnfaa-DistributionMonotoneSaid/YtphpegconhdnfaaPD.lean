import Derived.Test.YtphpegconhdnfaaPAlloc4
set_option maxRecDepth 100000
set_option linter.unusedVariables false
set_option linter.unusedSimpArgs false
namespace Go.Proofs.Ytphpegconhdnfaa
open Go Go.Lift
def ones (n : Nat) : List Int := List.replicate n 1
end Go.Proofs.Ytphpegconhdnfaa
