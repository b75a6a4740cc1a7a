import Derived.Test.YtdkglohjlfoncaaPA
set_option maxRecDepth 100000
set_option linter.unusedVariables false
set_option linter.unusedSimpArgs false
namespace Go.Proofs.Ytdkglohjlfoncaa
open Go Go.Lift
inductive Rch (s : api_ScopeV) : Int → Int → Prop
  | base {d x : Int} : x ∈ dir s d → Rch s d x
  | step {d y x : Int} : Rch s d y → x ∈ dir s y → Rch s d x
theorem Rch.front {s : api_ScopeV} {d y x : Int} (h : y ∈ dir s d) (h2 : Rch s y x) : Rch s d x := by
  induction h2 with
  | base h3 => exact .step (.base h) h3
  | step _ h4 ih => exact .step ih h4
theorem Rch.ok {s : api_ScopeV} (h : Sm s) {d x : Int} (h2 : Rch s d x) : okD s x := by
  cases h2 with
  | base h3 => exact ((direct_val h _).2.2.2 x h3).1
  | step _ h3 => exact ((direct_val h _).2.2.2 x h3).1
/-- The mark at i. -/
def Tk (seen : List Bool) (i : Int) : Prop := seen.getD i.toNat false = true
theorem Tk_set {seen : List Bool} {k i : Int} (hk : 0 ≤ k) (hk2 : k < (seen.length : Int)) (hi : 0 ≤ i) : Tk (seen.set k.toNat true) i ↔ i = k ∨ Tk seen i := by
  unfold Tk
  rw [List.getD_eq_getElem?_getD, List.getD_eq_getElem?_getD, List.getElem?_set]
  by_cases e : k.toNat = i.toNat
  · have : i = k := by omega
    rw [if_pos e, if_pos (by omega)]
    simp [this]
  · have : i ≠ k := by omega
    rw [if_neg e]
    simp [this]
theorem mk1 {n : Nat} (h : n ≤ 1000) : (decide (0 ≤ ((n : Int) : Int)) && (decide (((n : Int) : Int) ≤ (n : Int)) && (decide (((n : Int) : Int) * 1 ≤ room) && (decide (((n : Int) : Int) ≤ maxLen) && decide (0 < Ty.nc .bool))))) = true := by
  have a : ((n : Int) : Int) * 1 ≤ room := by unfold room; omega
  have b : ((n : Int) : Int) ≤ maxLen := by unfold maxLen; omega
  have c : 0 < Ty.nc .bool := by decide
  rw [decide_eq_true (show (0 : Int) ≤ (n : Int) by omega), decide_eq_true (Int.le_refl (n : Int)), decide_eq_true a, decide_eq_true b, decide_eq_true c]
  rfl
end Go.Proofs.Ytdkglohjlfoncaa
