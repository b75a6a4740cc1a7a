import Derived.Test.YtojafdgkcamliaaPC
set_option maxRecDepth 100000
set_option linter.unusedVariables false
set_option linter.unusedSimpArgs false
namespace Go.Proofs.Ytojafdgkcamliaa
open Go Go.Lift
theorem sel_congr {α : Type} {p q : α → Bool} : ∀ (l : List α) (n : Nat), (∀ x ∈ l, p x = q x) → sel p n l = sel q n l
  | [], n, _ => rfl
  | x :: l, n, h => by
    rw [sel, sel, h x List.mem_cons_self, sel_congr l (n + 1) (fun y hy => h y (List.mem_cons_of_mem _ hy))]
end Go.Proofs.Ytojafdgkcamliaa
