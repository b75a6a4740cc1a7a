import Derived.Test.YtfifnmmihekldaaPBase
set_option maxRecDepth 100000
set_option linter.unusedVariables false
set_option linter.unusedSimpArgs false
namespace Go.Proofs.Ytfifnmmihekldaa
open Go Go.Lift
theorem cd_t {p : Prop} [Decidable p] {α : Type} {A B : α} (h : p) : cond (decide p) A B = A := by simp [h]
theorem cd_f {p : Prop} [Decidable p] {α : Type} {A B : α} (h : ¬ p) : cond (decide p) A B = B := by simp [h]
end Go.Proofs.Ytfifnmmihekldaa
