import Derived.Test.YtojafdgkcamliaaCode3
set_option maxRecDepth 100000
set_option linter.unusedVariables false
set_option linter.unusedSimpArgs false
namespace Go.Proofs.Ytojafdgkcamliaa
open Go Go.Lift
/-- The examples of the chapter. -/
theorem awake_ok : law15_awake = some (true, ()) := law15_awake.sigc_le 60 () (true, ()) (by kernel_rfl)
theorem same_Ints.L0_val {a b : List Int} (h : a.length = b.length) (hm : a.length ≤ maxLen) : ∀ (d i : Nat), i + d = a.length → same_Ints.L0 a b i = some (decide (a.drop i = b.drop i), ()) := by
  rw [maxLen_eq] at hm
  intro d
  induction d with
  | zero =>
    intro i hi
    rw [same_Ints.L0_eq, same_Ints.SL0, decide_eq_false (by omega), cond_false, List.drop_of_length_le (by omega), List.drop_of_length_le (by omega)]
    simp
  | succ d ih =>
    intro i hi
    have h1 : i < a.length := by omega
    have h2 : i < b.length := by omega
    rw [same_Ints.L0_eq, same_Ints.SL0, decide_eq_true (by omega), cond_true, decide_eq_true (by omega), cond_true, same_Ints.J1_eq, same_Ints.SJ1, idx_nat, idx_nat, List.getElem?_eq_getElem h1, List.getElem?_eq_getElem h2,
      Option.bind_some, Option.bind_some, wrap_succ (by omega), ih (i + 1) (by omega)]
    simp only [drop_eq_iff h1 h2]
    by_cases e : a[i] = b[i] <;> simp [e, Bool.cond_eq_ite]
theorem same_Ints_val {a b : List Int} (hm : a.length ≤ maxLen) : same_Ints a b = some (decide (a = b), ()) := by
  unfold same_Ints
  rw [same_Ints.Se]
  by_cases h : a.length = b.length
  · have := same_Ints.L0_val h hm a.length 0 (by omega)
    simp only [List.drop_zero] at this
    simp only [h, bne_self_eq_false, cond_false]
    exact this
  · have : a ≠ b := fun e => h (by rw [e])
    have h' : (a.length : Int) ≠ b.length := by omega
    simp [this, h', Bool.cond_eq_ite]
end Go.Proofs.Ytojafdgkcamliaa
