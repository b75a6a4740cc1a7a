import Derived.Test.YtmmimgjakoacaaaPBase
set_option maxRecDepth 100000
set_option linter.unusedVariables false
set_option linter.unusedSimpArgs false
namespace Go.Proofs.Ytmmimgjakoacaaa
open Go Go.Lift
theorem cd_t {p : Prop} [Decidable p] {α : Type} {A B : α} (h : p) : cond (decide p) A B = A := by simp [h]
theorem cd_f {p : Prop} [Decidable p] {α : Type} {A B : α} (h : ¬ p) : cond (decide p) A B = B := by simp [h]
theorem cd_3 {p q r : Prop} [Decidable p] [Decidable q] [Decidable r] {α : Type} {A B : α} (hp : p) (hq : q) (hr : r) : cond (decide p && (decide q && decide r)) A B = A := by simp [hp, hq, hr]
end Go.Proofs.Ytmmimgjakoacaaa
