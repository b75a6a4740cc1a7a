import Derived.Test.YtojafdgkcamliaaCode2
set_option maxRecDepth 100000
set_option linter.unusedVariables false
namespace Go.Proofs.Ytojafdgkcamliaa
open Go Go.Lift
end Go.Proofs.Ytojafdgkcamliaa
