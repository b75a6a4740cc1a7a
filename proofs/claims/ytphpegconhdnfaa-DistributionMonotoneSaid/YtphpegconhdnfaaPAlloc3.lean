import Derived.Test.YtphpegconhdnfaaPAlloc2
set_option maxRecDepth 100000
set_option linter.unusedVariables false
set_option linter.unusedSimpArgs false
namespace Go.Proofs.Ytphpegconhdnfaa
open Go Go.Lift
/-- With the amount's sign. -/
def fin (c : Int) (l : List Int) : List Int := if c < 0 then l.map (fun x => 0 - x) else l
def okW (W : List Int) : Prop := ∀ w ∈ W, 0 ≤ w ∧ w ≤ 1000000000
instance (W : List Int) : Decidable (okW W) := by unfold okW; infer_instance
end Go.Proofs.Ytphpegconhdnfaa
