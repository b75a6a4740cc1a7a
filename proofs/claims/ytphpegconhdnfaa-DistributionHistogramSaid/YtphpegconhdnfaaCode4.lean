import Derived.Test.YtphpegconhdnfaaCode3
set_option maxRecDepth 100000
set_option linter.unusedVariables false
namespace Go.Proofs.Ytphpegconhdnfaa
open Go Go.Lift
end Go.Proofs.Ytphpegconhdnfaa
