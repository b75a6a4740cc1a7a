import Derived.Test.YtdkglohjlfoncaaPA
set_option maxRecDepth 100000
set_option linter.unusedVariables false
set_option linter.unusedSimpArgs false
namespace Go.Proofs.Ytdkglohjlfoncaa
open Go Go.Lift
inductive Rch (s : api_ScopeV) : Int → Int → Prop
  | base {d x : Int} : x ∈ dir s d → Rch s d x
  | step {d y x : Int} : Rch s d y → x ∈ dir s y → Rch s d x
theorem Rch.front {s : api_ScopeV} {d y x : Int} (h : y ∈ dir s d) (h2 : Rch s y x) : Rch s d x := by
  induction h2 with
  | base h3 => exact .step (.base h) h3
  | step _ h4 ih => exact .step ih h4
theorem Rch.ok {s : api_ScopeV} (h : Sm s) {d x : Int} (h2 : Rch s d x) : okD s x := by
  cases h2 with
  | base h3 => exact ((direct_val h _).2.2.2 x h3).1
  | step _ h3 => exact ((direct_val h _).2.2.2 x h3).1
end Go.Proofs.Ytdkglohjlfoncaa
