import Derived.Test.YtmmimgjakoacaaaCode2
set_option maxRecDepth 100000
set_option linter.unusedVariables false
namespace Go.Proofs.Ytmmimgjakoacaaa
open Go Go.Lift
end Go.Proofs.Ytmmimgjakoacaaa
