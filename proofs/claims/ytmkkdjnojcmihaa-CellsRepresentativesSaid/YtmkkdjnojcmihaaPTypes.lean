/- Plain laws of the lifted functions. -/
import Derived.Test.YtmkkdjnojcmihaaPRun
set_option maxRecDepth 100000
set_option linter.unusedVariables false
set_option linter.unusedSimpArgs false
namespace Go.Proofs.Ytmkkdjnojcmihaa
open Go Go.Lift

/-! ### The types of expressions -/

def validT (t : api_TypeV) (n : Nat) : Bool := decide ((1 ≤ t.1 ∧ t.1 ≤ 5 ∧ t.2.1 = 0) ∨ (t.1 = 6 ∧ 0 ≤ t.2.1 ∧ t.2.1 < n))

theorem value_ValidType_val (t : api_TypeV) (en : List api_EnumV) : value_ValidType t en = some (validT t en.length, ()) := by
  obtain ⟨k, m, u⟩ := t
  unfold value_ValidType validT
  simp only [value_ValidType, value_ValidType.Se, value_ValidType.J0_eq, value_ValidType.SJ0, Bool.cond_eq_ite, beq_iff_eq, bne_iff_ne, ne_eq, decide_eq_true_eq, Bool.not_eq_true', decide_eq_false_iff_not, Bool.and_eq_true, Bool.or_eq_true]
  repeat' split
  all_goals first | rfl | omega | (simp only [Option.some.injEq, Prod.mk.injEq, and_true, true_and, decide_eq_decide, Bool.beq_eq_decide_eq, false_eq_decide_iff, true_eq_decide_iff, decide_eq_false_iff_not, decide_eq_true_eq, ← Bool.decide_and, ← Bool.decide_or, ← decide_not, bne]; omega) | (simp; done) | (simp; omega) | (simp_all; done) | (simp_all; omega)

theorem ref09_ValidType_val (t : api_TypeV) (en : List api_EnumV) : ref09_ValidType t en = some (validT t en.length, ()) := by
  obtain ⟨k, m, u⟩ := t
  unfold ref09_ValidType validT
  simp only [ref09_ValidType, ref09_ValidType.Se, Bool.cond_eq_ite, beq_iff_eq, bne_iff_ne, ne_eq, decide_eq_true_eq, Bool.not_eq_true', decide_eq_false_iff_not, Bool.and_eq_true, Bool.or_eq_true]
  repeat' split
  all_goals first | rfl | omega | (simp only [Option.some.injEq, Prod.mk.injEq, and_true, true_and, decide_eq_decide, Bool.beq_eq_decide_eq, false_eq_decide_iff, true_eq_decide_iff, decide_eq_false_iff_not, decide_eq_true_eq, ← Bool.decide_and, ← Bool.decide_or, ← decide_not, bne]; omega) | (simp; done) | (simp; omega) | (simp_all; done) | (simp_all; omega)

def Agree (x y : Option (api_TypeV × Int × Unit)) (n : Nat) : Prop :=
  ∃ t t' err, x = some (t, err, ()) ∧ y = some (t', err, ()) ∧ (err = 0 → t = t' ∧ validT t n = true)

theorem validT_iff {k m : Int} {u : Unit} {n : Nat} : validT (k, m, u) n = true ↔ (1 ≤ k ∧ k ≤ 5 ∧ m = 0) ∨ (k = 6 ∧ 0 ≤ m ∧ m < n) := by simp [validT]

theorem eqT {a b : api_TypeV} : eqTy (.pair (.int .i64) (.pair (.int .i64) .unit)) a b = decide (a = b) := by
  rw [Bool.eq_iff_iff, decide_eq_true_eq]
  exact eqTy_iff (.pair (.int .i64) (.pair (.int .i64) .unit)) a b rfl

set_option maxHeartbeats 4000000 in
theorem double_agree (op N : Int) (a b : api_TypeV) (s : api_SignatureV) (h1 : 11 ≤ op) (h2 : op ≤ 30) (h3 : op ≠ 25) (h4 : op ≠ 26) (ha : validT a s.1.length = true) (hb : validT b s.1.length = true) :
    Agree (expr_typeOf (op, N, ()) [a, b] s) (ref10_Result (op, N, ()) [a, b] s) s.1.length := by
  obtain ⟨k, m, u⟩ := a
  obtain ⟨k', m', u'⟩ := b
  rw [validT_iff] at ha hb
  have hop : op = 11 ∨ op = 12 ∨ op = 13 ∨ op = 14 ∨ op = 15 ∨ op = 16 ∨ op = 17 ∨ op = 18 ∨ op = 19 ∨ op = 20 ∨ op = 21 ∨ op = 22 ∨ op = 23 ∨ op = 24 ∨ op = 27 ∨ op = 28 ∨ op = 29 ∨ op = 30 := by omega
  rcases hop with rfl | rfl | rfl | rfl | rfl | rfl | rfl | rfl | rfl | rfl | rfl | rfl | rfl | rfl | rfl | rfl | rfl | rfl
  all_goals
    by_cases hN0 : N = 0
    all_goals
      simp [expr_typeOf, expr_typeOf.Se, expr_typeOf.J0_eq, expr_typeOf.SJ0, expr_typeOf.J1_eq, expr_typeOf.SJ1, ref10_Result, ref10_Result.Se, ref10_Result.J0_eq, ref10_Result.SJ0, ref10_Result.J1_eq, ref10_Result.SJ1, expr_number, expr_number.Se, expr_number.J0_eq, expr_number.SJ0, expr_number.J1_eq, expr_number.SJ1, expr_number.J2_eq, expr_number.SJ2, ref10_meaning, ref10_meaning.Se, ref10_meaning.J0_eq, ref10_meaning.SJ0, ref10_ranged, ref10_ranged.Se, ref10_ranged.J0_eq, ref10_ranged.SJ0, ref10_ranged.J1_eq, ref10_ranged.SJ1, ref10_found, ref10_found.Se, ref10_found.J0_eq, ref10_found.SJ0, expr_meaning, expr_meaning.Se, expr_literal, expr_literal.Se, expr_result, expr_result.Se, expr_result.J0_eq, expr_result.SJ0, expr_result.J1_eq, expr_result.SJ1, expr_result.J2_eq, expr_result.SJ2, expr_result.J3_eq, expr_result.SJ3, expr_result.J4_eq, expr_result.SJ4, expr_result.J5_eq, expr_result.SJ5, expr_result.J6_eq, expr_result.SJ6, expr_result.J7_eq, expr_result.SJ7, expr_result.J8_eq, expr_result.SJ8, ref10_double, ref10_double.Se, ref10_double.J0_eq, ref10_double.SJ0, ref10_double.J1_eq, ref10_double.SJ1, ref10_double.J2_eq, ref10_double.SJ2, ref10_double.J3_eq, ref10_double.SJ3, ref10_double.J4_eq, ref10_double.SJ4, ref10_double.J5_eq, ref10_double.SJ5, ref10_double.J6_eq, ref10_double.SJ6, expr_result_1, expr_result_1.Se, expr_numeric, expr_numeric.Se, expr_ordered, expr_ordered.Se, ref10_number, ref10_number.Se, ref10_ordered, ref10_ordered.Se, expr_arithmetic, expr_arithmetic.Se, expr_arithmetic.J0_eq, expr_arithmetic.SJ0, expr_arithmetic.J1_eq, expr_arithmetic.SJ1, expr_arithmetic.J2_eq, expr_arithmetic.SJ2, expr_arithmetic.J3_eq, expr_arithmetic.SJ3, ref10_scaled, ref10_scaled.Se, ref10_scaled.J0_eq, ref10_scaled.SJ0, ref10_kind, ref10_kind.Se, Option.bind_some, cond_true, cond_false, Bool.and_true, Bool.true_and, Bool.and_false, Bool.false_and, Bool.and_self, Bool.not_true, Bool.not_false, Bool.cond_eq_ite, idx, eqT, hN0, obind_ite]
    all_goals repeat' split
    all_goals first
      | exact ⟨_, _, _, rfl, rfl, fun h => absurd h (by decide)⟩
      | exact ⟨_, _, _, rfl, rfl, fun _ => ⟨by first | rfl | (simp <;> omega), by simp [validT] <;> omega⟩⟩
      | (exfalso; omega)
      | (exfalso; simp_all; omega)
      | trace_state

end Go.Proofs.Ytmkkdjnojcmihaa
