import Derived.Test.YtmmimgjakoacaaaPD
set_option maxRecDepth 100000
set_option linter.unusedVariables false
set_option linter.unusedSimpArgs false
namespace Go.Proofs.Ytmmimgjakoacaaa
open Go Go.Lift
abbrev fran (f : api_FactV) : api_DateRangeV := f.2.2.2.2.1
abbrev frec (f : api_FactV) : Int := f.2.2.2.2.2.1
abbrev fkind (f : api_FactV) : Int := f.2.2.2.1.1
/-- The error of a fact by itself. -/
def badR (f : api_FactV) : Prop := f.1 < 0 ∨ f.2.1 < -1 ∨ f.2.1 ≥ 8 ∨ f.2.2.1 < -1 ∨ f.2.2.1 ≥ 12 ∨ (f.2.1 = -1 ∧ f.2.2.1 = -1) ∨ prp (fran f) = false ∨ frec f < 0 ∨ frec f > 109572
def badT (f : api_FactV) : Prop := fkind f < 1 ∨ fkind f > 6 ∨ (f.2.2.1 = -1 ∧ fkind f ≠ 1)
instance (f : api_FactV) : Decidable (badR f) := by unfold badR; infer_instance
instance (f : api_FactV) : Decidable (badT f) := by unfold badT; infer_instance
/-- An earlier fact has the same id. -/
def dupl (pre : List api_FactV) (f : api_FactV) : Prop := ∃ x ∈ pre, x.1 = f.1
instance (pre : List api_FactV) (f : api_FactV) : Decidable (dupl pre f) := by unfold dupl; infer_instance
end Go.Proofs.Ytmmimgjakoacaaa
