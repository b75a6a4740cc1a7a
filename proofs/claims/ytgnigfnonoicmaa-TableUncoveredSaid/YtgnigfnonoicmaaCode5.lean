import Derived.Test.YtgnigfnonoicmaaCode4
set_option maxRecDepth 100000
set_option linter.unusedVariables false
namespace Go.Proofs.Ytgnigfnonoicmaa
open Go Go.Lift
end Go.Proofs.Ytgnigfnonoicmaa
