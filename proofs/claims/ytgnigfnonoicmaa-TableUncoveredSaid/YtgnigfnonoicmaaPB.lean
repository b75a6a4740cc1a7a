import Derived.Test.YtgnigfnonoicmaaPA
set_option maxRecDepth 100000
set_option linter.unusedVariables false
set_option linter.unusedSimpArgs false
namespace Go.Proofs.Ytgnigfnonoicmaa
open Go Go.Lift
theorem fst1_shift {α : Type} (p : α → Bool) : ∀ (l : List α) (n : Nat), (fst1 p n l = none ↔ ∀ x ∈ l, p x = false)
  | [], n => by simp [fst1]
  | x :: l, n => by
    cases e : p x with
    | true => simp [fst1, e]
    | false => simp [fst1, e, fst1_shift p l (n + 1)]
theorem few_val (t : api_TableV) (n : Int) : law12_few t n = some (decide ((t.2.2.2.1.length : Int) ≤ n), ()) := rfl
end Go.Proofs.Ytgnigfnonoicmaa
