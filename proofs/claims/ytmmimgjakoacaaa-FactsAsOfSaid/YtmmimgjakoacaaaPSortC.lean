import Derived.Test.YtmmimgjakoacaaaPSortV
set_option maxRecDepth 100000
set_option linter.unusedVariables false
set_option linter.unusedSimpArgs false
namespace Go.Proofs.Ytmmimgjakoacaaa
open Go Go.Lift
end Go.Proofs.Ytmmimgjakoacaaa
