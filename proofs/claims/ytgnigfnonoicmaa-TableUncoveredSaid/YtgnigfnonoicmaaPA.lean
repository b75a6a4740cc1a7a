import Derived.Test.YtgnigfnonoicmaaPD
set_option maxRecDepth 100000
set_option linter.unusedVariables false
set_option linter.unusedSimpArgs false
namespace Go.Proofs.Ytgnigfnonoicmaa
open Go Go.Lift
/-- A date lies in a valid range. -/
def inD (r : api_DateRangeV) (t : Int) : Bool := vld r && decide (r.1 ≤ t ∧ t < r.2.1)
theorem contains_val (r : api_DateRangeV) (t : Int) : daterange_Contains r t = some (inD r t, ()) := by
  simp only [daterange_Contains, daterange_Contains.Se, valid_val, bind_some', inD]
  cases vld r with
  | false => rfl
  | true =>
    by_cases h1 : r.1 ≤ t <;> by_cases h2 : t < r.2.1 <;> simp [h1, h2]
theorem rcontains_val (r : api_DateRangeV) (t : Int) : ref05_Contains r t = some (inD r t, ()) := by
  simp only [ref05_Contains, ref05_Contains.Se, rvalid_val, bind_some', inD]
  cases vld r with
  | false => rfl
  | true =>
    by_cases h1 : r.1 ≤ t <;> by_cases h2 : t < r.2.1 <;> simp [h1, h2]
/-- A row holds at a date and a key. -/
def mat (x : api_RowV) (date key : Int) : Bool := inD x.1 date && decide (x.2.1 ≤ key ∧ key < x.2.2.1)
/-- The first of the rows, counted from n on, of which p holds. -/
def fst1 {α : Type} (p : α → Bool) : Nat → List α → Option Nat
  | _, [] => none
  | n, x :: l => cond (p x) (some n) (fst1 p (n + 1) l)
def fres (o : Option Nat) : Int × Bool × Unit := match o with | some k => ((k : Int), true, ()) | none => (0, false, ())
theorem lookup_L0 (date key : Int) : ∀ (rest pre : List api_RowV), (pre ++ rest).length ≤ 200000 →
    table_Lookup.L0 date key (pre ++ rest) ((pre ++ rest).length : Int) (pre.length : Int) = some (fres (fst1 (mat · date key) pre.length rest))
  | [], pre, h => by
    rw [table_Lookup.L0_eq, table_Lookup.SL0, cd_f (by simp)]
    rfl
  | x :: rest, pre, h => by
    have h' := h
    rw [len_mid] at h'
    have ih := lookup_L0 date key rest (pre ++ [x]) (by rw [← mid_shift]; exact h)
    rw [← mid_shift, len_snoc] at ih
    rw [show (pre ++ [x]).length = pre.length + 1 by simp] at ih
    rw [table_Lookup.L0_eq, table_Lookup.SL0, cd_t (by rw [len_mid]; omega), idx_mid]
    simp only [bind_some', contains_val, wrap_succ (show pre.length < 9223372036854775807 by omega), ih, fst1]
    have hm : mat x date key = (inD x.1 date && decide (x.2.1 ≤ key ∧ key < x.2.2.1)) := rfl
    cases h0 : inD x.1 date with
    | false => rw [hm, h0]; rfl
    | true =>
      rw [hm, h0, cond_true, Bool.true_and]
      by_cases h1 : x.2.1 ≤ key
      · by_cases h2 : key < x.2.2.1
        · rw [cd_t h1, cd_t h2, cd_t ⟨h1, h2⟩]; rfl
        · rw [cd_t h1, cd_f h2, cd_f (fun h => h2 h.2)]
      · rw [cd_f h1, cd_f (fun h => h1 h.1)]
theorem lookup_val (t : api_TableV) (date key : Int) (h : t.2.2.2.1.length ≤ 200000) : table_Lookup t date key = some (fres (fst1 (mat · date key) 0 t.2.2.2.1)) := by
  simp only [table_Lookup, table_Lookup.Se]
  exact lookup_L0 date key t.2.2.2.1 [] (by simpa using h)
end Go.Proofs.Ytgnigfnonoicmaa
