import Derived.Test.YtphpegconhdnfaaPA
set_option maxRecDepth 100000
set_option linter.unusedVariables false
set_option linter.unusedSimpArgs false
namespace Go.Proofs.Ytphpegconhdnfaa
open Go Go.Lift
end Go.Proofs.Ytphpegconhdnfaa
