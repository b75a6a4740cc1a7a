/- Plain laws of the lifted functions. -/
import Derived.Test.YtmkkdjnojcmihaaPTypes
set_option maxRecDepth 100000
set_option linter.unusedVariables false
set_option linter.unusedSimpArgs false
namespace Go.Proofs.Ytmkkdjnojcmihaa
open Go Go.Lift

theorem eqT' {k m k' m' : Int} {u u' : Unit} : eqTy (.pair (.int .i64) (.pair (.int .i64) .unit)) (k, m, u) (k', m', u') = decide (k = k' ∧ m = m') := by
  rw [eqT]
  simp

theorem at_Table_val (l : List api_TableV) (i : Int) : expr_at_api_Table l i = some (match idx l i with | some x => (x, 0, ()) | none => (([], (0, 0, ()), (0, 0, ()), [], ()), 6, ())) := by
  unfold expr_at_api_Table
  rcases idx_cases l i with ⟨h, h'⟩ | ⟨x, h, -, h1, h2⟩
  · simp only [expr_at_api_Table, expr_at_api_Table.Se, h, Bool.cond_eq_ite, beq_iff_eq, bne_iff_ne, ne_eq, decide_eq_true_eq, Bool.not_eq_true', decide_eq_false_iff_not, Bool.and_eq_true, Bool.or_eq_true]
    split
    · rfl
    · rw [if_pos (by omega)]
  · simp only [expr_at_api_Table, expr_at_api_Table.Se, h, Bool.cond_eq_ite, beq_iff_eq, bne_iff_ne, ne_eq, decide_eq_true_eq, Bool.not_eq_true', decide_eq_false_iff_not, Bool.and_eq_true, Bool.or_eq_true, if_neg (show ¬ i < 0 by omega), if_neg (show ¬ i ≥ l.length by omega), Option.bind_some]

theorem at_Type_val (l : List api_TypeV) (i : Int) : expr_at_api_Type l i = some (match idx l i with | some x => (x, 0, ()) | none => ((0, 0, ()), 6, ())) := by
  unfold expr_at_api_Type
  rcases idx_cases l i with ⟨h, h'⟩ | ⟨x, h, -, h1, h2⟩
  · simp only [expr_at_api_Type, expr_at_api_Type.Se, h, Bool.cond_eq_ite, beq_iff_eq, bne_iff_ne, ne_eq, decide_eq_true_eq, Bool.not_eq_true', decide_eq_false_iff_not, Bool.and_eq_true, Bool.or_eq_true]
    split
    · rfl
    · rw [if_pos (by omega)]
  · simp only [expr_at_api_Type, expr_at_api_Type.Se, h, Bool.cond_eq_ite, beq_iff_eq, bne_iff_ne, ne_eq, decide_eq_true_eq, Bool.not_eq_true', decide_eq_false_iff_not, Bool.and_eq_true, Bool.or_eq_true, if_neg (show ¬ i < 0 by omega), if_neg (show ¬ i ≥ l.length by omega), Option.bind_some]

theorem at_Enum_val (l : List api_EnumV) (i : Int) : expr_at_api_Enum l i = some (match idx l i with | some x => (x, 0, ()) | none => (([], [], ()), 6, ())) := by
  unfold expr_at_api_Enum
  rcases idx_cases l i with ⟨h, h'⟩ | ⟨x, h, -, h1, h2⟩
  · simp only [expr_at_api_Enum, expr_at_api_Enum.Se, h, Bool.cond_eq_ite, beq_iff_eq, bne_iff_ne, ne_eq, decide_eq_true_eq, Bool.not_eq_true', decide_eq_false_iff_not, Bool.and_eq_true, Bool.or_eq_true]
    split
    · rfl
    · rw [if_pos (by omega)]
  · simp only [expr_at_api_Enum, expr_at_api_Enum.Se, h, Bool.cond_eq_ite, beq_iff_eq, bne_iff_ne, ne_eq, decide_eq_true_eq, Bool.not_eq_true', decide_eq_false_iff_not, Bool.and_eq_true, Bool.or_eq_true, if_neg (show ¬ i < 0 by omega), if_neg (show ¬ i ≥ l.length by omega), Option.bind_some]

theorem at_string_val (l : List (List UInt8)) (i : Int) : expr_at_string l i = some (match idx l i with | some x => (x, 0, ()) | none => ([], 6, ())) := by
  unfold expr_at_string
  rcases idx_cases l i with ⟨h, h'⟩ | ⟨x, h, -, h1, h2⟩
  · simp only [expr_at_string, expr_at_string.Se, h, Bool.cond_eq_ite, beq_iff_eq, bne_iff_ne, ne_eq, decide_eq_true_eq, Bool.not_eq_true', decide_eq_false_iff_not, Bool.and_eq_true, Bool.or_eq_true]
    split
    · rfl
    · rw [if_pos (by omega)]
  · simp only [expr_at_string, expr_at_string.Se, h, Bool.cond_eq_ite, beq_iff_eq, bne_iff_ne, ne_eq, decide_eq_true_eq, Bool.not_eq_true', decide_eq_false_iff_not, Bool.and_eq_true, Bool.or_eq_true, if_neg (show ¬ i < 0 by omega), if_neg (show ¬ i ≥ l.length by omega), Option.bind_some]

set_option maxHeartbeats 4000000 in
theorem single_agree (op N : Int) (a : api_TypeV) (s : api_SignatureV) (h : op = 10 ∨ op = 25 ∨ op = 31 ∨ op = 32 ∨ op = 33 ∨ op = 34) (hN : -9223372036854775808 ≤ N ∧ N ≤ 9223372036854775807) (ha : validT a s.1.length = true) :
    Agree (expr_typeOf (op, N, ()) [a] s) (ref10_Result (op, N, ()) [a] s) s.1.length := by
  obtain ⟨k, m, u⟩ := a
  rw [validT_iff] at ha
  rcases h with rfl | rfl | rfl | rfl | rfl | rfl
  · by_cases hN0 : N = 0
    all_goals
      simp [expr_typeOf, expr_typeOf.Se, expr_typeOf.J0_eq, expr_typeOf.SJ0, expr_typeOf.J1_eq, expr_typeOf.SJ1, ref10_Result, ref10_Result.Se, ref10_Result.J0_eq, ref10_Result.SJ0, ref10_Result.J1_eq, ref10_Result.SJ1, expr_number, expr_number.Se, expr_number.J0_eq, expr_number.SJ0, expr_number.J1_eq, expr_number.SJ1, expr_number.J2_eq, expr_number.SJ2, ref10_meaning, ref10_meaning.Se, ref10_meaning.J0_eq, ref10_meaning.SJ0, ref10_ranged, ref10_ranged.Se, ref10_ranged.J0_eq, ref10_ranged.SJ0, ref10_ranged.J1_eq, ref10_ranged.SJ1, ref10_found, ref10_found.Se, ref10_found.J0_eq, ref10_found.SJ0, expr_meaning, expr_meaning.Se, expr_literal, expr_literal.Se, expr_result, expr_result.Se, expr_result.J0_eq, expr_result.SJ0, expr_result.J1_eq, expr_result.SJ1, expr_result.J2_eq, expr_result.SJ2, expr_result.J3_eq, expr_result.SJ3, expr_result.J4_eq, expr_result.SJ4, expr_result.J5_eq, expr_result.SJ5, expr_result.J6_eq, expr_result.SJ6, expr_result.J7_eq, expr_result.SJ7, expr_result.J8_eq, expr_result.SJ8, ref10_single, ref10_single.Se, ref10_single.J0_eq, ref10_single.SJ0, expr_result_1, expr_result_1.Se, expr_numeric, expr_numeric.Se, ref10_number, ref10_number.Se, ref10_kind, ref10_kind.Se, Option.bind_some, cond_true, cond_false, Bool.and_true, Bool.true_and, Bool.and_false, Bool.false_and, Bool.and_self, Bool.not_true, Bool.not_false, Bool.cond_eq_ite, idx, hN0, obind_ite]
    all_goals repeat' split
    all_goals first
      | exact ⟨_, _, _, rfl, rfl, fun h => absurd h (by decide)⟩
      | exact ⟨_, _, _, rfl, rfl, fun _ => ⟨by first | rfl | (simp <;> omega), by simp [validT] <;> omega⟩⟩
      | (exfalso; omega)
      | (exfalso; simp_all; omega)
  · by_cases hN0 : N = 0
    all_goals
      simp [expr_typeOf, expr_typeOf.Se, expr_typeOf.J0_eq, expr_typeOf.SJ0, expr_typeOf.J1_eq, expr_typeOf.SJ1, ref10_Result, ref10_Result.Se, ref10_Result.J0_eq, ref10_Result.SJ0, ref10_Result.J1_eq, ref10_Result.SJ1, expr_number, expr_number.Se, expr_number.J0_eq, expr_number.SJ0, expr_number.J1_eq, expr_number.SJ1, expr_number.J2_eq, expr_number.SJ2, ref10_meaning, ref10_meaning.Se, ref10_meaning.J0_eq, ref10_meaning.SJ0, ref10_ranged, ref10_ranged.Se, ref10_ranged.J0_eq, ref10_ranged.SJ0, ref10_ranged.J1_eq, ref10_ranged.SJ1, ref10_found, ref10_found.Se, ref10_found.J0_eq, ref10_found.SJ0, expr_meaning, expr_meaning.Se, expr_literal, expr_literal.Se, expr_result, expr_result.Se, expr_result.J0_eq, expr_result.SJ0, expr_result.J1_eq, expr_result.SJ1, expr_result.J2_eq, expr_result.SJ2, expr_result.J3_eq, expr_result.SJ3, expr_result.J4_eq, expr_result.SJ4, expr_result.J5_eq, expr_result.SJ5, expr_result.J6_eq, expr_result.SJ6, expr_result.J7_eq, expr_result.SJ7, expr_result.J8_eq, expr_result.SJ8, ref10_single, ref10_single.Se, ref10_single.J0_eq, ref10_single.SJ0, expr_result_1, expr_result_1.Se, expr_numeric, expr_numeric.Se, ref10_number, ref10_number.Se, ref10_kind, ref10_kind.Se, Option.bind_some, cond_true, cond_false, Bool.and_true, Bool.true_and, Bool.and_false, Bool.false_and, Bool.and_self, Bool.not_true, Bool.not_false, Bool.cond_eq_ite, idx, hN0, obind_ite]
    all_goals repeat' split
    all_goals first
      | exact ⟨_, _, _, rfl, rfl, fun h => absurd h (by decide)⟩
      | exact ⟨_, _, _, rfl, rfl, fun _ => ⟨by first | rfl | (simp <;> omega), by simp [validT] <;> omega⟩⟩
      | (exfalso; omega)
      | (exfalso; simp_all; omega)
  · by_cases hN0 : N = 0
    all_goals
      simp [expr_typeOf, expr_typeOf.Se, expr_typeOf.J0_eq, expr_typeOf.SJ0, expr_typeOf.J1_eq, expr_typeOf.SJ1, ref10_Result, ref10_Result.Se, ref10_Result.J0_eq, ref10_Result.SJ0, ref10_Result.J1_eq, ref10_Result.SJ1, expr_number, expr_number.Se, expr_number.J0_eq, expr_number.SJ0, expr_number.J1_eq, expr_number.SJ1, expr_number.J2_eq, expr_number.SJ2, ref10_meaning, ref10_meaning.Se, ref10_meaning.J0_eq, ref10_meaning.SJ0, ref10_ranged, ref10_ranged.Se, ref10_ranged.J0_eq, ref10_ranged.SJ0, ref10_ranged.J1_eq, ref10_ranged.SJ1, ref10_found, ref10_found.Se, ref10_found.J0_eq, ref10_found.SJ0, expr_meaning, expr_meaning.Se, expr_literal, expr_literal.Se, expr_result, expr_result.Se, expr_result.J0_eq, expr_result.SJ0, expr_result.J1_eq, expr_result.SJ1, expr_result.J2_eq, expr_result.SJ2, expr_result.J3_eq, expr_result.SJ3, expr_result.J4_eq, expr_result.SJ4, expr_result.J5_eq, expr_result.SJ5, expr_result.J6_eq, expr_result.SJ6, expr_result.J7_eq, expr_result.SJ7, expr_result.J8_eq, expr_result.SJ8, ref10_single, ref10_single.Se, ref10_single.J0_eq, ref10_single.SJ0, expr_result_1, expr_result_1.Se, expr_numeric, expr_numeric.Se, ref10_number, ref10_number.Se, ref10_kind, ref10_kind.Se, Option.bind_some, cond_true, cond_false, Bool.and_true, Bool.true_and, Bool.and_false, Bool.false_and, Bool.and_self, Bool.not_true, Bool.not_false, Bool.cond_eq_ite, idx, hN0, obind_ite]
    all_goals repeat' split
    all_goals first
      | exact ⟨_, _, _, rfl, rfl, fun h => absurd h (by decide)⟩
      | exact ⟨_, _, _, rfl, rfl, fun _ => ⟨by first | rfl | (simp <;> omega), by simp [validT] <;> omega⟩⟩
      | (exfalso; omega)
      | (exfalso; simp_all; omega)
  · by_cases hN0 : N = 0
    all_goals
      simp [expr_typeOf, expr_typeOf.Se, expr_typeOf.J0_eq, expr_typeOf.SJ0, expr_typeOf.J1_eq, expr_typeOf.SJ1, ref10_Result, ref10_Result.Se, ref10_Result.J0_eq, ref10_Result.SJ0, ref10_Result.J1_eq, ref10_Result.SJ1, expr_number, expr_number.Se, expr_number.J0_eq, expr_number.SJ0, expr_number.J1_eq, expr_number.SJ1, expr_number.J2_eq, expr_number.SJ2, ref10_meaning, ref10_meaning.Se, ref10_meaning.J0_eq, ref10_meaning.SJ0, ref10_ranged, ref10_ranged.Se, ref10_ranged.J0_eq, ref10_ranged.SJ0, ref10_ranged.J1_eq, ref10_ranged.SJ1, ref10_found, ref10_found.Se, ref10_found.J0_eq, ref10_found.SJ0, expr_meaning, expr_meaning.Se, expr_literal, expr_literal.Se, expr_result, expr_result.Se, expr_result.J0_eq, expr_result.SJ0, expr_result.J1_eq, expr_result.SJ1, expr_result.J2_eq, expr_result.SJ2, expr_result.J3_eq, expr_result.SJ3, expr_result.J4_eq, expr_result.SJ4, expr_result.J5_eq, expr_result.SJ5, expr_result.J6_eq, expr_result.SJ6, expr_result.J7_eq, expr_result.SJ7, expr_result.J8_eq, expr_result.SJ8, ref10_single, ref10_single.Se, ref10_single.J0_eq, ref10_single.SJ0, expr_result_1, expr_result_1.Se, expr_numeric, expr_numeric.Se, ref10_number, ref10_number.Se, ref10_kind, ref10_kind.Se, Option.bind_some, cond_true, cond_false, Bool.and_true, Bool.true_and, Bool.and_false, Bool.false_and, Bool.and_self, Bool.not_true, Bool.not_false, Bool.cond_eq_ite, idx, hN0, obind_ite]
    all_goals repeat' split
    all_goals first
      | exact ⟨_, _, _, rfl, rfl, fun h => absurd h (by decide)⟩
      | exact ⟨_, _, _, rfl, rfl, fun _ => ⟨by first | rfl | (simp <;> omega), by simp [validT] <;> omega⟩⟩
      | (exfalso; omega)
      | (exfalso; simp_all; omega)
  · rcases idx_cases s.2.1 N with ⟨h, h'⟩ | ⟨⟨nm, ⟨k1, m1, u1⟩, ⟨k2, m2, u2⟩, rows, u3⟩, h, -, h1, h2⟩
    · by_cases hN0 : N < 0
      · have : N ≠ 0 := by omega
        have : ¬ 0 ≤ N := by omega
        have e1 : ∀ l : List api_TypeV, idx [((k, m, u) : api_TypeV)] 0 = some (k, m, u) := fun _ => rfl
        simp [expr_typeOf, expr_typeOf.Se, expr_typeOf.J0_eq, expr_typeOf.SJ0, expr_typeOf.J1_eq, expr_typeOf.SJ1, ref10_Result, ref10_Result.Se, ref10_Result.J0_eq, ref10_Result.SJ0, ref10_Result.J1_eq, ref10_Result.SJ1, expr_number, expr_number.Se, expr_number.J0_eq, expr_number.SJ0, expr_number.J1_eq, expr_number.SJ1, expr_number.J2_eq, expr_number.SJ2, ref10_meaning, ref10_meaning.Se, ref10_meaning.J0_eq, ref10_meaning.SJ0, ref10_ranged, ref10_ranged.Se, ref10_ranged.J0_eq, ref10_ranged.SJ0, ref10_ranged.J1_eq, ref10_ranged.SJ1, ref10_found, ref10_found.Se, ref10_found.J0_eq, ref10_found.SJ0, expr_meaning, expr_meaning.Se, expr_literal, expr_literal.Se, expr_table, expr_table.Se, Option.bind_some, cond_true, cond_false, Bool.and_true, Bool.true_and, Bool.and_false, Bool.false_and, Bool.and_self, Bool.not_true, Bool.not_false, Bool.cond_eq_ite, at_Table_val, h, *]
        exact ⟨_, _, _, rfl, rfl, fun h => absurd h (by decide)⟩
      · have : ¬ N < (s.2.1.length : Int) := by omega
        have : 0 ≤ N := by omega
        simp [expr_typeOf, expr_typeOf.Se, expr_typeOf.J0_eq, expr_typeOf.SJ0, expr_typeOf.J1_eq, expr_typeOf.SJ1, ref10_Result, ref10_Result.Se, ref10_Result.J0_eq, ref10_Result.SJ0, ref10_Result.J1_eq, ref10_Result.SJ1, expr_number, expr_number.Se, expr_number.J0_eq, expr_number.SJ0, expr_number.J1_eq, expr_number.SJ1, expr_number.J2_eq, expr_number.SJ2, ref10_meaning, ref10_meaning.Se, ref10_meaning.J0_eq, ref10_meaning.SJ0, ref10_ranged, ref10_ranged.Se, ref10_ranged.J0_eq, ref10_ranged.SJ0, ref10_ranged.J1_eq, ref10_ranged.SJ1, ref10_found, ref10_found.Se, ref10_found.J0_eq, ref10_found.SJ0, expr_meaning, expr_meaning.Se, expr_literal, expr_literal.Se, expr_table, expr_table.Se, Option.bind_some, cond_true, cond_false, Bool.and_true, Bool.true_and, Bool.and_false, Bool.false_and, Bool.and_self, Bool.not_true, Bool.not_false, Bool.cond_eq_ite, at_Table_val, h, *]
        exact ⟨_, _, _, rfl, rfl, fun h => absurd h (by decide)⟩
    · have e1 : idx [((k, m, u) : api_TypeV)] 0 = some (k, m, u) := rfl
      simp [expr_typeOf, expr_typeOf.Se, expr_typeOf.J0_eq, expr_typeOf.SJ0, expr_typeOf.J1_eq, expr_typeOf.SJ1, ref10_Result, ref10_Result.Se, ref10_Result.J0_eq, ref10_Result.SJ0, ref10_Result.J1_eq, ref10_Result.SJ1, expr_number, expr_number.Se, expr_number.J0_eq, expr_number.SJ0, expr_number.J1_eq, expr_number.SJ1, expr_number.J2_eq, expr_number.SJ2, ref10_meaning, ref10_meaning.Se, ref10_meaning.J0_eq, ref10_meaning.SJ0, ref10_ranged, ref10_ranged.Se, ref10_ranged.J0_eq, ref10_ranged.SJ0, ref10_ranged.J1_eq, ref10_ranged.SJ1, ref10_found, ref10_found.Se, ref10_found.J0_eq, ref10_found.SJ0, expr_meaning, expr_meaning.Se, expr_literal, expr_literal.Se, expr_table, expr_table.Se, ref10_single, ref10_single.Se, ref10_single.J0_eq, ref10_single.SJ0, Option.bind_some, cond_true, cond_false, Bool.and_true, Bool.true_and, Bool.and_false, Bool.false_and, Bool.and_self, Bool.not_true, Bool.not_false, Bool.cond_eq_ite, at_Table_val, h, h1, h2, e1, value_ValidType_val, ref09_ValidType_val, eqT']
      have eq1 : eqTy (.pair (.int .i64) (.pair (.int .i64) .unit)) (k, m, u) (k1, m1, u1) = decide (k = k1 ∧ m = m1) := eqT'
      rw [eq1]
      cases hv1 : validT (k1, m1, u1) s.1.length
      · exact ⟨_, _, _, rfl, rfl, fun h => absurd h (by decide)⟩
      · cases hv2 : validT (k2, m2, u2) s.1.length
        · exact ⟨_, _, _, rfl, rfl, fun h => absurd h (by decide)⟩
        · by_cases hk : k = k1 ∧ m = m1
          · rw [decide_eq_true hk]
            exact ⟨_, _, _, rfl, rfl, fun _ => ⟨rfl, hv2⟩⟩
          · rw [decide_eq_false hk]
            exact ⟨_, _, _, rfl, rfl, fun h => absurd h (by decide)⟩
  · by_cases hn : N < 0
    · have : N ≠ 0 := by omega
      have : ¬ 0 ≤ N := by omega
      simp [expr_typeOf, expr_typeOf.Se, expr_typeOf.J0_eq, expr_typeOf.SJ0, expr_typeOf.J1_eq, expr_typeOf.SJ1, ref10_Result, ref10_Result.Se, ref10_Result.J0_eq, ref10_Result.SJ0, ref10_Result.J1_eq, ref10_Result.SJ1, expr_number, expr_number.Se, expr_number.J0_eq, expr_number.SJ0, expr_number.J1_eq, expr_number.SJ1, expr_number.J2_eq, expr_number.SJ2, ref10_meaning, ref10_meaning.Se, ref10_meaning.J0_eq, ref10_meaning.SJ0, ref10_ranged, ref10_ranged.Se, ref10_ranged.J0_eq, ref10_ranged.SJ0, ref10_ranged.J1_eq, ref10_ranged.SJ1, ref10_found, ref10_found.Se, ref10_found.J0_eq, ref10_found.SJ0, expr_meaning, expr_meaning.Se, expr_literal, expr_literal.Se, expr_table, expr_table.Se, Option.bind_some, cond_true, cond_false, Bool.and_true, Bool.true_and, Bool.and_false, Bool.false_and, Bool.and_self, Bool.not_true, Bool.not_false, Bool.cond_eq_ite, *]
      exact ⟨_, _, _, rfl, rfl, fun h => absurd h (by decide)⟩
    · by_cases h5 : 5 < Int.tmod N 8
      · have : ¬ Int.tmod N 8 ≤ 5 := by omega
        have : 0 ≤ N := by omega
        have : N ≠ 0 := fun e => by rw [e] at h5; exact absurd h5 (by decide)
        simp [expr_typeOf, expr_typeOf.Se, expr_typeOf.J0_eq, expr_typeOf.SJ0, expr_typeOf.J1_eq, expr_typeOf.SJ1, ref10_Result, ref10_Result.Se, ref10_Result.J0_eq, ref10_Result.SJ0, ref10_Result.J1_eq, ref10_Result.SJ1, expr_number, expr_number.Se, expr_number.J0_eq, expr_number.SJ0, expr_number.J1_eq, expr_number.SJ1, expr_number.J2_eq, expr_number.SJ2, ref10_meaning, ref10_meaning.Se, ref10_meaning.J0_eq, ref10_meaning.SJ0, ref10_ranged, ref10_ranged.Se, ref10_ranged.J0_eq, ref10_ranged.SJ0, ref10_ranged.J1_eq, ref10_ranged.SJ1, ref10_found, ref10_found.Se, ref10_found.J0_eq, ref10_found.SJ0, expr_meaning, expr_meaning.Se, expr_literal, expr_literal.Se, expr_table, expr_table.Se, Option.bind_some, cond_true, cond_false, Bool.and_true, Bool.true_and, Bool.and_false, Bool.false_and, Bool.and_self, Bool.not_true, Bool.not_false, Bool.cond_eq_ite, *]
        exact ⟨_, _, _, rfl, rfl, fun h => absurd h (by decide)⟩
      · have g1 : Int.tmod N 8 ≤ 5 := by omega
        have g2 : 0 ≤ N := by omega
        have hq : IntKind.i64.wrap (Int.tdiv N 8) = N / 8 := by
          rw [Int.tdiv_eq_ediv_of_nonneg g2, wrap64 (by omega) (by omega)]
        have hq0 : 0 ≤ N / 8 := by omega
        rcases idx_cases s.2.1 (N / 8) with ⟨h, h'⟩ | ⟨⟨nm, ⟨k1, m1, u1⟩, ⟨k2, m2, u2⟩, rows, u3⟩, h, -, h1, h2⟩
        · have hq1 : ¬ N / 8 < (s.2.1.length : Int) := by omega
          simp [expr_typeOf, expr_typeOf.Se, expr_typeOf.J0_eq, expr_typeOf.SJ0, expr_typeOf.J1_eq, expr_typeOf.SJ1, ref10_Result, ref10_Result.Se, ref10_Result.J0_eq, ref10_Result.SJ0, ref10_Result.J1_eq, ref10_Result.SJ1, expr_number, expr_number.Se, expr_number.J0_eq, expr_number.SJ0, expr_number.J1_eq, expr_number.SJ1, expr_number.J2_eq, expr_number.SJ2, ref10_meaning, ref10_meaning.Se, ref10_meaning.J0_eq, ref10_meaning.SJ0, ref10_ranged, ref10_ranged.Se, ref10_ranged.J0_eq, ref10_ranged.SJ0, ref10_ranged.J1_eq, ref10_ranged.SJ1, ref10_found, ref10_found.Se, ref10_found.J0_eq, ref10_found.SJ0, expr_meaning, expr_meaning.Se, expr_literal, expr_literal.Se, expr_table, expr_table.Se, Option.bind_some, cond_true, cond_false, Bool.and_true, Bool.true_and, Bool.and_false, Bool.false_and, Bool.and_self, Bool.not_true, Bool.not_false, Bool.cond_eq_ite, at_Table_val, hq, h, hq1, hn, h5, g1, g2]
          exact ⟨_, _, _, rfl, rfl, fun h => absurd h (by decide)⟩
        · have e1 : idx [((k, m, u) : api_TypeV)] 0 = some (k, m, u) := rfl
          have eq1 : eqTy (.pair (.int .i64) (.pair (.int .i64) .unit)) (k, m, u) (k1, m1, u1) = decide (k = k1 ∧ m = m1) := eqT'
          have eq2 : eqTy (.pair (.int .i64) (.pair (.int .i64) .unit)) (k1, m1, u1) (3, 0, ()) = decide (k1 = 3 ∧ m1 = 0) := eqT'
          have eq3 : eqTy (.pair (.int .i64) (.pair (.int .i64) .unit)) (k2, m2, u2) (4, 0, ()) = decide (k2 = 4 ∧ m2 = 0) := eqT'
          simp [expr_typeOf, expr_typeOf.Se, expr_typeOf.J0_eq, expr_typeOf.SJ0, expr_typeOf.J1_eq, expr_typeOf.SJ1, ref10_Result, ref10_Result.Se, ref10_Result.J0_eq, ref10_Result.SJ0, ref10_Result.J1_eq, ref10_Result.SJ1, expr_number, expr_number.Se, expr_number.J0_eq, expr_number.SJ0, expr_number.J1_eq, expr_number.SJ1, expr_number.J2_eq, expr_number.SJ2, ref10_meaning, ref10_meaning.Se, ref10_meaning.J0_eq, ref10_meaning.SJ0, ref10_ranged, ref10_ranged.Se, ref10_ranged.J0_eq, ref10_ranged.SJ0, ref10_ranged.J1_eq, ref10_ranged.SJ1, ref10_found, ref10_found.Se, ref10_found.J0_eq, ref10_found.SJ0, expr_meaning, expr_meaning.Se, expr_literal, expr_literal.Se, expr_table, expr_table.Se, ref10_single, ref10_single.Se, ref10_single.J0_eq, ref10_single.SJ0, ref10_kind, ref10_kind.Se, Option.bind_some, cond_true, cond_false, Bool.and_true, Bool.true_and, Bool.and_false, Bool.false_and, Bool.and_self, Bool.not_true, Bool.not_false, Bool.cond_eq_ite, at_Table_val, h, hq, hq0, h1, h2, e1, value_ValidType_val, ref09_ValidType_val, eq1, eq2, eq3, hn, h5, g1, g2, obind_ite]
          repeat' split
          all_goals first
            | exact ⟨_, _, _, rfl, rfl, fun h => absurd h (by decide)⟩
            | exact ⟨_, _, _, rfl, rfl, fun _ => ⟨by first | rfl | (simp <;> omega), by simp [validT] <;> omega⟩⟩
            | (exfalso; simp only [Bool.not_eq_false, validT_iff] at *; omega)
            | (exfalso; simp only [validT, decide_eq_false_iff_not] at *; omega)

set_option maxHeartbeats 4000000 in
theorem if_agree (N : Int) (a b c : api_TypeV) (s : api_SignatureV) (ha : validT a s.1.length = true) (hb : validT b s.1.length = true) :
    Agree (expr_typeOf (26, N, ()) [a, b, c] s) (ref10_Result (26, N, ()) [a, b, c] s) s.1.length := by
  obtain ⟨k1, m1, u1⟩ := a
  obtain ⟨k2, m2, u2⟩ := b
  obtain ⟨k3, m3, u3⟩ := c
  have eq1 : eqTy (.pair (.int .i64) (.pair (.int .i64) .unit)) (k2, m2, u2) (k3, m3, u3) = decide (k2 = k3 ∧ m2 = m3) := eqT'
  have e1 : idx [((k1, m1, u1) : api_TypeV), (k2, m2, u2), (k3, m3, u3)] 0 = some (k1, m1, u1) := rfl
  have e2 : idx [((k1, m1, u1) : api_TypeV), (k2, m2, u2), (k3, m3, u3)] 1 = some (k2, m2, u2) := rfl
  have e3 : idx [((k1, m1, u1) : api_TypeV), (k2, m2, u2), (k3, m3, u3)] 2 = some (k3, m3, u3) := rfl
  have hk : k2 ≠ 0 := by rw [validT_iff] at hb; omega
  by_cases hN0 : N = 0
  all_goals
    simp [expr_typeOf, expr_typeOf.Se, expr_typeOf.J0_eq, expr_typeOf.SJ0, expr_typeOf.J1_eq, expr_typeOf.SJ1, ref10_Result, ref10_Result.Se, ref10_Result.J0_eq, ref10_Result.SJ0, ref10_Result.J1_eq, ref10_Result.SJ1, expr_number, expr_number.Se, expr_number.J0_eq, expr_number.SJ0, expr_number.J1_eq, expr_number.SJ1, expr_number.J2_eq, expr_number.SJ2, ref10_meaning, ref10_meaning.Se, ref10_meaning.J0_eq, ref10_meaning.SJ0, ref10_ranged, ref10_ranged.Se, ref10_ranged.J0_eq, ref10_ranged.SJ0, ref10_ranged.J1_eq, ref10_ranged.SJ1, ref10_found, ref10_found.Se, ref10_found.J0_eq, ref10_found.SJ0, expr_meaning, expr_meaning.Se, expr_literal, expr_literal.Se, expr_result, expr_result.Se, expr_result.J0_eq, expr_result.SJ0, expr_result.J1_eq, expr_result.SJ1, expr_result.J2_eq, expr_result.SJ2, expr_result.J3_eq, expr_result.SJ3, expr_result.J4_eq, expr_result.SJ4, expr_result.J5_eq, expr_result.SJ5, expr_result.J6_eq, expr_result.SJ6, expr_result.J7_eq, expr_result.SJ7, expr_result.J8_eq, expr_result.SJ8, Option.bind_some, cond_true, cond_false, Bool.and_true, Bool.true_and, Bool.and_false, Bool.false_and, Bool.and_self, Bool.not_true, Bool.not_false, Bool.cond_eq_ite, e1, e2, e3, eq1, hN0, obind_ite]
  all_goals repeat' split
  all_goals first
    | exact ⟨_, _, _, rfl, rfl, fun h => absurd h (by decide)⟩
    | exact ⟨_, _, _, rfl, rfl, fun _ => ⟨by first | rfl | (simp <;> omega), hb⟩⟩
    | (exfalso; simp only [Bool.not_eq_false, validT_iff] at *; omega)
    | (exfalso; simp_all; omega)
    | (exfalso; simp_all; done)
    | trace_state

set_option maxHeartbeats 4000000 in
theorem leaf_agree (op N : Int) (s : api_SignatureV) (hop : (1 ≤ op ∧ op ≤ 9) ∨ (35 ≤ op ∧ op ≤ 39)) (hN : -9223372036854775808 ≤ N ∧ N ≤ 9223372036854775807) (hs : s.1.length ≤ 1000) :
    Agree (expr_typeOf (op, N, ()) [] s) (ref10_Result (op, N, ()) [] s) s.1.length := by
  have hl : op = 1 ∨ op = 2 ∨ op = 3 ∨ op = 4 ∨ op = 5 ∨ op = 6 ∨ op = 7 ∨ op = 8 ∨ op = 9 ∨ op = 35 ∨ op = 36 ∨ op = 37 ∨ op = 38 ∨ op = 39 := by omega
  have v1 : validT (1, 0, ()) s.1.length = true := by simp [validT]
  have v2 : validT (2, 0, ()) s.1.length = true := by simp [validT]
  have v3 : validT (3, 0, ()) s.1.length = true := by simp [validT]
  have v4 : validT (4, 0, ()) s.1.length = true := by simp [validT]
  have v5 : validT (5, 0, ()) s.1.length = true := by simp [validT]
  have w1 : validT (1, 0, ()) 0 = true := by simp [validT]
  have w2 : validT (2, 0, ()) 0 = true := by simp [validT]
  have w3 : validT (3, 0, ()) 0 = true := by simp [validT]
  have w4 : validT (4, 0, ()) 0 = true := by simp [validT]
  have w5 : validT (5, 0, ()) 0 = true := by simp [validT]
  rcases hl with rfl | rfl | rfl | rfl | rfl | rfl | rfl | rfl | rfl | rfl | rfl | rfl | rfl | rfl
  · simp [expr_typeOf, expr_typeOf.Se, expr_typeOf.J0_eq, expr_typeOf.SJ0, expr_typeOf.J1_eq, expr_typeOf.SJ1, ref10_Result, ref10_Result.Se, ref10_Result.J0_eq, ref10_Result.SJ0, ref10_Result.J1_eq, ref10_Result.SJ1, expr_number, expr_number.Se, expr_number.J0_eq, expr_number.SJ0, expr_number.J1_eq, expr_number.SJ1, expr_number.J2_eq, expr_number.SJ2, ref10_meaning, ref10_meaning.Se, ref10_meaning.J0_eq, ref10_meaning.SJ0, ref10_ranged, ref10_ranged.Se, ref10_ranged.J0_eq, ref10_ranged.SJ0, ref10_ranged.J1_eq, ref10_ranged.SJ1, ref10_found, ref10_found.Se, ref10_found.J0_eq, ref10_found.SJ0, expr_meaning, expr_meaning.Se, expr_literal, expr_literal.Se, expr_leaf, expr_leaf.Se, expr_leaf.J0_eq, expr_leaf.SJ0, expr_leaf.J1_eq, expr_leaf.SJ1, expr_leaf.J2_eq, expr_leaf.SJ2, ref10_leaf, ref10_leaf.Se, ref10_leaf.J0_eq, ref10_leaf.SJ0, ref10_leaf.J1_eq, ref10_leaf.SJ1, ref10_leaf.J2_eq, ref10_leaf.SJ2, ref10_kind, ref10_kind.Se, value_Bounds, value_Bounds.Se, ref09_Bounds, ref09_Bounds.Se, Option.bind_some, cond_true, cond_false, Bool.and_true, Bool.true_and, Bool.and_false, Bool.false_and, Bool.and_self, Bool.not_true, Bool.not_false, Bool.cond_eq_ite, value_ValidType_val, ref09_ValidType_val, v1, v2, v3, v4, v5, w1, w2, w3, w4, w5, obind_ite]
    all_goals repeat' split
    all_goals first
      | exact ⟨_, _, _, rfl, rfl, fun h => absurd h (by decide)⟩
      | exact ⟨_, _, _, rfl, rfl, fun _ => ⟨rfl, by assumption⟩⟩
      | (exfalso; omega)
      | (exfalso; simp_all; omega)
  · simp [expr_typeOf, expr_typeOf.Se, expr_typeOf.J0_eq, expr_typeOf.SJ0, expr_typeOf.J1_eq, expr_typeOf.SJ1, ref10_Result, ref10_Result.Se, ref10_Result.J0_eq, ref10_Result.SJ0, ref10_Result.J1_eq, ref10_Result.SJ1, expr_number, expr_number.Se, expr_number.J0_eq, expr_number.SJ0, expr_number.J1_eq, expr_number.SJ1, expr_number.J2_eq, expr_number.SJ2, ref10_meaning, ref10_meaning.Se, ref10_meaning.J0_eq, ref10_meaning.SJ0, ref10_ranged, ref10_ranged.Se, ref10_ranged.J0_eq, ref10_ranged.SJ0, ref10_ranged.J1_eq, ref10_ranged.SJ1, ref10_found, ref10_found.Se, ref10_found.J0_eq, ref10_found.SJ0, expr_meaning, expr_meaning.Se, expr_literal, expr_literal.Se, expr_leaf, expr_leaf.Se, expr_leaf.J0_eq, expr_leaf.SJ0, expr_leaf.J1_eq, expr_leaf.SJ1, expr_leaf.J2_eq, expr_leaf.SJ2, ref10_leaf, ref10_leaf.Se, ref10_leaf.J0_eq, ref10_leaf.SJ0, ref10_leaf.J1_eq, ref10_leaf.SJ1, ref10_leaf.J2_eq, ref10_leaf.SJ2, ref10_kind, ref10_kind.Se, value_Bounds, value_Bounds.Se, ref09_Bounds, ref09_Bounds.Se, Option.bind_some, cond_true, cond_false, Bool.and_true, Bool.true_and, Bool.and_false, Bool.false_and, Bool.and_self, Bool.not_true, Bool.not_false, Bool.cond_eq_ite, value_ValidType_val, ref09_ValidType_val, v1, v2, v3, v4, v5, w1, w2, w3, w4, w5, obind_ite]
    all_goals repeat' split
    all_goals first
      | exact ⟨_, _, _, rfl, rfl, fun h => absurd h (by decide)⟩
      | exact ⟨_, _, _, rfl, rfl, fun _ => ⟨rfl, by assumption⟩⟩
      | (exfalso; omega)
      | (exfalso; simp_all; omega)
  · simp [expr_typeOf, expr_typeOf.Se, expr_typeOf.J0_eq, expr_typeOf.SJ0, expr_typeOf.J1_eq, expr_typeOf.SJ1, ref10_Result, ref10_Result.Se, ref10_Result.J0_eq, ref10_Result.SJ0, ref10_Result.J1_eq, ref10_Result.SJ1, expr_number, expr_number.Se, expr_number.J0_eq, expr_number.SJ0, expr_number.J1_eq, expr_number.SJ1, expr_number.J2_eq, expr_number.SJ2, ref10_meaning, ref10_meaning.Se, ref10_meaning.J0_eq, ref10_meaning.SJ0, ref10_ranged, ref10_ranged.Se, ref10_ranged.J0_eq, ref10_ranged.SJ0, ref10_ranged.J1_eq, ref10_ranged.SJ1, ref10_found, ref10_found.Se, ref10_found.J0_eq, ref10_found.SJ0, expr_meaning, expr_meaning.Se, expr_literal, expr_literal.Se, expr_leaf, expr_leaf.Se, expr_leaf.J0_eq, expr_leaf.SJ0, expr_leaf.J1_eq, expr_leaf.SJ1, expr_leaf.J2_eq, expr_leaf.SJ2, ref10_leaf, ref10_leaf.Se, ref10_leaf.J0_eq, ref10_leaf.SJ0, ref10_leaf.J1_eq, ref10_leaf.SJ1, ref10_leaf.J2_eq, ref10_leaf.SJ2, ref10_kind, ref10_kind.Se, value_Bounds, value_Bounds.Se, ref09_Bounds, ref09_Bounds.Se, Option.bind_some, cond_true, cond_false, Bool.and_true, Bool.true_and, Bool.and_false, Bool.false_and, Bool.and_self, Bool.not_true, Bool.not_false, Bool.cond_eq_ite, value_ValidType_val, ref09_ValidType_val, v1, v2, v3, v4, v5, w1, w2, w3, w4, w5, obind_ite]
    all_goals repeat' split
    all_goals first
      | exact ⟨_, _, _, rfl, rfl, fun h => absurd h (by decide)⟩
      | exact ⟨_, _, _, rfl, rfl, fun _ => ⟨rfl, by assumption⟩⟩
      | (exfalso; omega)
      | (exfalso; simp_all; omega)
  · simp [expr_typeOf, expr_typeOf.Se, expr_typeOf.J0_eq, expr_typeOf.SJ0, expr_typeOf.J1_eq, expr_typeOf.SJ1, ref10_Result, ref10_Result.Se, ref10_Result.J0_eq, ref10_Result.SJ0, ref10_Result.J1_eq, ref10_Result.SJ1, expr_number, expr_number.Se, expr_number.J0_eq, expr_number.SJ0, expr_number.J1_eq, expr_number.SJ1, expr_number.J2_eq, expr_number.SJ2, ref10_meaning, ref10_meaning.Se, ref10_meaning.J0_eq, ref10_meaning.SJ0, ref10_ranged, ref10_ranged.Se, ref10_ranged.J0_eq, ref10_ranged.SJ0, ref10_ranged.J1_eq, ref10_ranged.SJ1, ref10_found, ref10_found.Se, ref10_found.J0_eq, ref10_found.SJ0, expr_meaning, expr_meaning.Se, expr_literal, expr_literal.Se, expr_leaf, expr_leaf.Se, expr_leaf.J0_eq, expr_leaf.SJ0, expr_leaf.J1_eq, expr_leaf.SJ1, expr_leaf.J2_eq, expr_leaf.SJ2, ref10_leaf, ref10_leaf.Se, ref10_leaf.J0_eq, ref10_leaf.SJ0, ref10_leaf.J1_eq, ref10_leaf.SJ1, ref10_leaf.J2_eq, ref10_leaf.SJ2, ref10_kind, ref10_kind.Se, value_Bounds, value_Bounds.Se, ref09_Bounds, ref09_Bounds.Se, Option.bind_some, cond_true, cond_false, Bool.and_true, Bool.true_and, Bool.and_false, Bool.false_and, Bool.and_self, Bool.not_true, Bool.not_false, Bool.cond_eq_ite, value_ValidType_val, ref09_ValidType_val, v1, v2, v3, v4, v5, w1, w2, w3, w4, w5, obind_ite]
    all_goals repeat' split
    all_goals first
      | exact ⟨_, _, _, rfl, rfl, fun h => absurd h (by decide)⟩
      | exact ⟨_, _, _, rfl, rfl, fun _ => ⟨rfl, by assumption⟩⟩
      | (exfalso; omega)
      | (exfalso; simp_all; omega)
  · simp [expr_typeOf, expr_typeOf.Se, expr_typeOf.J0_eq, expr_typeOf.SJ0, expr_typeOf.J1_eq, expr_typeOf.SJ1, ref10_Result, ref10_Result.Se, ref10_Result.J0_eq, ref10_Result.SJ0, ref10_Result.J1_eq, ref10_Result.SJ1, expr_number, expr_number.Se, expr_number.J0_eq, expr_number.SJ0, expr_number.J1_eq, expr_number.SJ1, expr_number.J2_eq, expr_number.SJ2, ref10_meaning, ref10_meaning.Se, ref10_meaning.J0_eq, ref10_meaning.SJ0, ref10_ranged, ref10_ranged.Se, ref10_ranged.J0_eq, ref10_ranged.SJ0, ref10_ranged.J1_eq, ref10_ranged.SJ1, ref10_found, ref10_found.Se, ref10_found.J0_eq, ref10_found.SJ0, expr_meaning, expr_meaning.Se, expr_literal, expr_literal.Se, expr_leaf, expr_leaf.Se, expr_leaf.J0_eq, expr_leaf.SJ0, expr_leaf.J1_eq, expr_leaf.SJ1, expr_leaf.J2_eq, expr_leaf.SJ2, ref10_leaf, ref10_leaf.Se, ref10_leaf.J0_eq, ref10_leaf.SJ0, ref10_leaf.J1_eq, ref10_leaf.SJ1, ref10_leaf.J2_eq, ref10_leaf.SJ2, ref10_kind, ref10_kind.Se, value_Bounds, value_Bounds.Se, ref09_Bounds, ref09_Bounds.Se, Option.bind_some, cond_true, cond_false, Bool.and_true, Bool.true_and, Bool.and_false, Bool.false_and, Bool.and_self, Bool.not_true, Bool.not_false, Bool.cond_eq_ite, value_ValidType_val, ref09_ValidType_val, v1, v2, v3, v4, v5, w1, w2, w3, w4, w5, obind_ite]
    all_goals repeat' split
    all_goals first
      | exact ⟨_, _, _, rfl, rfl, fun h => absurd h (by decide)⟩
      | exact ⟨_, _, _, rfl, rfl, fun _ => ⟨rfl, by assumption⟩⟩
      | (exfalso; omega)
      | (exfalso; simp_all; omega)
  · by_cases hn : N < 0
    · have : ¬ 0 ≤ N := by omega
      simp [expr_typeOf, expr_typeOf.Se, expr_typeOf.J0_eq, expr_typeOf.SJ0, expr_typeOf.J1_eq, expr_typeOf.SJ1, ref10_Result, ref10_Result.Se, ref10_Result.J0_eq, ref10_Result.SJ0, ref10_Result.J1_eq, ref10_Result.SJ1, expr_number, expr_number.Se, expr_number.J0_eq, expr_number.SJ0, expr_number.J1_eq, expr_number.SJ1, expr_number.J2_eq, expr_number.SJ2, ref10_meaning, ref10_meaning.Se, ref10_meaning.J0_eq, ref10_meaning.SJ0, ref10_ranged, ref10_ranged.Se, ref10_ranged.J0_eq, ref10_ranged.SJ0, ref10_ranged.J1_eq, ref10_ranged.SJ1, ref10_found, ref10_found.Se, ref10_found.J0_eq, ref10_found.SJ0, expr_meaning, expr_meaning.Se, expr_literal, expr_literal.Se, expr_leaf, expr_leaf.Se, expr_leaf.J0_eq, expr_leaf.SJ0, expr_leaf.J1_eq, expr_leaf.SJ1, expr_leaf.J2_eq, expr_leaf.SJ2, ref10_leaf, ref10_leaf.Se, ref10_leaf.J0_eq, ref10_leaf.SJ0, ref10_leaf.J1_eq, ref10_leaf.SJ1, ref10_leaf.J2_eq, ref10_leaf.SJ2, ref10_kind, ref10_kind.Se, value_Bounds, value_Bounds.Se, ref09_Bounds, ref09_Bounds.Se, Option.bind_some, cond_true, cond_false, Bool.and_true, Bool.true_and, Bool.and_false, Bool.false_and, Bool.and_self, Bool.not_true, Bool.not_false, Bool.cond_eq_ite, hn, this]
      exact ⟨_, _, _, rfl, rfl, fun h => absurd h (by decide)⟩
    · have g2 : 0 ≤ N := by omega
      have hq : IntKind.i64.wrap (Int.tdiv N 16) = N / 16 := by
        rw [Int.tdiv_eq_ediv_of_nonneg g2, wrap64 (by omega) (by omega)]
      have hr : Int.tmod N 16 = N % 16 := Int.tmod_eq_emod_of_nonneg g2
      rcases idx_cases s.1 (N / 16) with ⟨h, h'⟩ | ⟨⟨nm, mem, u⟩, h, -, h1, h2⟩
      · have hq1 : ¬ N / 16 < (s.1.length : Int) := by omega
        simp [expr_typeOf, expr_typeOf.Se, expr_typeOf.J0_eq, expr_typeOf.SJ0, expr_typeOf.J1_eq, expr_typeOf.SJ1, ref10_Result, ref10_Result.Se, ref10_Result.J0_eq, ref10_Result.SJ0, ref10_Result.J1_eq, ref10_Result.SJ1, expr_number, expr_number.Se, expr_number.J0_eq, expr_number.SJ0, expr_number.J1_eq, expr_number.SJ1, expr_number.J2_eq, expr_number.SJ2, ref10_meaning, ref10_meaning.Se, ref10_meaning.J0_eq, ref10_meaning.SJ0, ref10_ranged, ref10_ranged.Se, ref10_ranged.J0_eq, ref10_ranged.SJ0, ref10_ranged.J1_eq, ref10_ranged.SJ1, ref10_found, ref10_found.Se, ref10_found.J0_eq, ref10_found.SJ0, expr_meaning, expr_meaning.Se, expr_literal, expr_literal.Se, expr_leaf, expr_leaf.Se, expr_leaf.J0_eq, expr_leaf.SJ0, expr_leaf.J1_eq, expr_leaf.SJ1, expr_leaf.J2_eq, expr_leaf.SJ2, ref10_leaf, ref10_leaf.Se, ref10_leaf.J0_eq, ref10_leaf.SJ0, ref10_leaf.J1_eq, ref10_leaf.SJ1, ref10_leaf.J2_eq, ref10_leaf.SJ2, ref10_kind, ref10_kind.Se, value_Bounds, value_Bounds.Se, ref09_Bounds, ref09_Bounds.Se, Option.bind_some, cond_true, cond_false, Bool.and_true, Bool.true_and, Bool.and_false, Bool.false_and, Bool.and_self, Bool.not_true, Bool.not_false, Bool.cond_eq_ite, hn, g2, hq, hr, h, hq1, at_Enum_val, at_string_val]
        exact ⟨_, _, _, rfl, rfl, fun h => absurd h (by decide)⟩
      · have hv : validT (6, N / 16, ()) s.1.length = true := by simp [validT]; omega
        rcases idx_cases mem (N % 16) with ⟨g, g'⟩ | ⟨y, g, -, g3, g4⟩
        · have hq1 : ¬ N % 16 < (mem.length : Int) := by omega
          simp [expr_typeOf, expr_typeOf.Se, expr_typeOf.J0_eq, expr_typeOf.SJ0, expr_typeOf.J1_eq, expr_typeOf.SJ1, ref10_Result, ref10_Result.Se, ref10_Result.J0_eq, ref10_Result.SJ0, ref10_Result.J1_eq, ref10_Result.SJ1, expr_number, expr_number.Se, expr_number.J0_eq, expr_number.SJ0, expr_number.J1_eq, expr_number.SJ1, expr_number.J2_eq, expr_number.SJ2, ref10_meaning, ref10_meaning.Se, ref10_meaning.J0_eq, ref10_meaning.SJ0, ref10_ranged, ref10_ranged.Se, ref10_ranged.J0_eq, ref10_ranged.SJ0, ref10_ranged.J1_eq, ref10_ranged.SJ1, ref10_found, ref10_found.Se, ref10_found.J0_eq, ref10_found.SJ0, expr_meaning, expr_meaning.Se, expr_literal, expr_literal.Se, expr_leaf, expr_leaf.Se, expr_leaf.J0_eq, expr_leaf.SJ0, expr_leaf.J1_eq, expr_leaf.SJ1, expr_leaf.J2_eq, expr_leaf.SJ2, ref10_leaf, ref10_leaf.Se, ref10_leaf.J0_eq, ref10_leaf.SJ0, ref10_leaf.J1_eq, ref10_leaf.SJ1, ref10_leaf.J2_eq, ref10_leaf.SJ2, ref10_kind, ref10_kind.Se, value_Bounds, value_Bounds.Se, ref09_Bounds, ref09_Bounds.Se, Option.bind_some, cond_true, cond_false, Bool.and_true, Bool.true_and, Bool.and_false, Bool.false_and, Bool.and_self, Bool.not_true, Bool.not_false, Bool.cond_eq_ite, hn, g2, hq, hr, h, h2, g, hq1, at_Enum_val, at_string_val]
          exact ⟨_, _, _, rfl, rfl, fun h => absurd h (by decide)⟩
        · simp [expr_typeOf, expr_typeOf.Se, expr_typeOf.J0_eq, expr_typeOf.SJ0, expr_typeOf.J1_eq, expr_typeOf.SJ1, ref10_Result, ref10_Result.Se, ref10_Result.J0_eq, ref10_Result.SJ0, ref10_Result.J1_eq, ref10_Result.SJ1, expr_number, expr_number.Se, expr_number.J0_eq, expr_number.SJ0, expr_number.J1_eq, expr_number.SJ1, expr_number.J2_eq, expr_number.SJ2, ref10_meaning, ref10_meaning.Se, ref10_meaning.J0_eq, ref10_meaning.SJ0, ref10_ranged, ref10_ranged.Se, ref10_ranged.J0_eq, ref10_ranged.SJ0, ref10_ranged.J1_eq, ref10_ranged.SJ1, ref10_found, ref10_found.Se, ref10_found.J0_eq, ref10_found.SJ0, expr_meaning, expr_meaning.Se, expr_literal, expr_literal.Se, expr_leaf, expr_leaf.Se, expr_leaf.J0_eq, expr_leaf.SJ0, expr_leaf.J1_eq, expr_leaf.SJ1, expr_leaf.J2_eq, expr_leaf.SJ2, ref10_leaf, ref10_leaf.Se, ref10_leaf.J0_eq, ref10_leaf.SJ0, ref10_leaf.J1_eq, ref10_leaf.SJ1, ref10_leaf.J2_eq, ref10_leaf.SJ2, ref10_kind, ref10_kind.Se, value_Bounds, value_Bounds.Se, ref09_Bounds, ref09_Bounds.Se, Option.bind_some, cond_true, cond_false, Bool.and_true, Bool.true_and, Bool.and_false, Bool.false_and, Bool.and_self, Bool.not_true, Bool.not_false, Bool.cond_eq_ite, hn, g2, hq, hr, h, h2, g, g4, at_Enum_val, at_string_val, ref09_ValidType_val, hv]
          exact ⟨_, _, _, rfl, rfl, fun _ => ⟨rfl, hv⟩⟩
  · rcases idx_cases s.2.2.1 N with ⟨h, h'⟩ | ⟨⟨k, m, u⟩, h, -, h1, h2⟩
    · by_cases hn : N < 0
      · have g : ¬ 0 ≤ N := by omega
        simp [expr_typeOf, expr_typeOf.Se, expr_typeOf.J0_eq, expr_typeOf.SJ0, expr_typeOf.J1_eq, expr_typeOf.SJ1, ref10_Result, ref10_Result.Se, ref10_Result.J0_eq, ref10_Result.SJ0, ref10_Result.J1_eq, ref10_Result.SJ1, expr_number, expr_number.Se, expr_number.J0_eq, expr_number.SJ0, expr_number.J1_eq, expr_number.SJ1, expr_number.J2_eq, expr_number.SJ2, ref10_meaning, ref10_meaning.Se, ref10_meaning.J0_eq, ref10_meaning.SJ0, ref10_ranged, ref10_ranged.Se, ref10_ranged.J0_eq, ref10_ranged.SJ0, ref10_ranged.J1_eq, ref10_ranged.SJ1, ref10_found, ref10_found.Se, ref10_found.J0_eq, ref10_found.SJ0, expr_meaning, expr_meaning.Se, expr_literal, expr_literal.Se, expr_leaf, expr_leaf.Se, expr_leaf.J0_eq, expr_leaf.SJ0, expr_leaf.J1_eq, expr_leaf.SJ1, expr_leaf.J2_eq, expr_leaf.SJ2, ref10_leaf, ref10_leaf.Se, ref10_leaf.J0_eq, ref10_leaf.SJ0, ref10_leaf.J1_eq, ref10_leaf.SJ1, ref10_leaf.J2_eq, ref10_leaf.SJ2, ref10_kind, ref10_kind.Se, value_Bounds, value_Bounds.Se, ref09_Bounds, ref09_Bounds.Se, Option.bind_some, cond_true, cond_false, Bool.and_true, Bool.true_and, Bool.and_false, Bool.false_and, Bool.and_self, Bool.not_true, Bool.not_false, Bool.cond_eq_ite, hn, g, h, at_Type_val]
        exact ⟨_, _, _, rfl, rfl, fun h => absurd h (by decide)⟩
      · have g : 0 ≤ N := by omega
        have g' : ¬ N < (s.2.2.1.length : Int) := by omega
        simp [expr_typeOf, expr_typeOf.Se, expr_typeOf.J0_eq, expr_typeOf.SJ0, expr_typeOf.J1_eq, expr_typeOf.SJ1, ref10_Result, ref10_Result.Se, ref10_Result.J0_eq, ref10_Result.SJ0, ref10_Result.J1_eq, ref10_Result.SJ1, expr_number, expr_number.Se, expr_number.J0_eq, expr_number.SJ0, expr_number.J1_eq, expr_number.SJ1, expr_number.J2_eq, expr_number.SJ2, ref10_meaning, ref10_meaning.Se, ref10_meaning.J0_eq, ref10_meaning.SJ0, ref10_ranged, ref10_ranged.Se, ref10_ranged.J0_eq, ref10_ranged.SJ0, ref10_ranged.J1_eq, ref10_ranged.SJ1, ref10_found, ref10_found.Se, ref10_found.J0_eq, ref10_found.SJ0, expr_meaning, expr_meaning.Se, expr_literal, expr_literal.Se, expr_leaf, expr_leaf.Se, expr_leaf.J0_eq, expr_leaf.SJ0, expr_leaf.J1_eq, expr_leaf.SJ1, expr_leaf.J2_eq, expr_leaf.SJ2, ref10_leaf, ref10_leaf.Se, ref10_leaf.J0_eq, ref10_leaf.SJ0, ref10_leaf.J1_eq, ref10_leaf.SJ1, ref10_leaf.J2_eq, ref10_leaf.SJ2, ref10_kind, ref10_kind.Se, value_Bounds, value_Bounds.Se, ref09_Bounds, ref09_Bounds.Se, Option.bind_some, cond_true, cond_false, Bool.and_true, Bool.true_and, Bool.and_false, Bool.false_and, Bool.and_self, Bool.not_true, Bool.not_false, Bool.cond_eq_ite, hn, g, g', h, at_Type_val]
        exact ⟨_, _, _, rfl, rfl, fun h => absurd h (by decide)⟩
    · have hn : ¬ N < 0 := by omega
      simp [expr_typeOf, expr_typeOf.Se, expr_typeOf.J0_eq, expr_typeOf.SJ0, expr_typeOf.J1_eq, expr_typeOf.SJ1, ref10_Result, ref10_Result.Se, ref10_Result.J0_eq, ref10_Result.SJ0, ref10_Result.J1_eq, ref10_Result.SJ1, expr_number, expr_number.Se, expr_number.J0_eq, expr_number.SJ0, expr_number.J1_eq, expr_number.SJ1, expr_number.J2_eq, expr_number.SJ2, ref10_meaning, ref10_meaning.Se, ref10_meaning.J0_eq, ref10_meaning.SJ0, ref10_ranged, ref10_ranged.Se, ref10_ranged.J0_eq, ref10_ranged.SJ0, ref10_ranged.J1_eq, ref10_ranged.SJ1, ref10_found, ref10_found.Se, ref10_found.J0_eq, ref10_found.SJ0, expr_meaning, expr_meaning.Se, expr_literal, expr_literal.Se, expr_leaf, expr_leaf.Se, expr_leaf.J0_eq, expr_leaf.SJ0, expr_leaf.J1_eq, expr_leaf.SJ1, expr_leaf.J2_eq, expr_leaf.SJ2, ref10_leaf, ref10_leaf.Se, ref10_leaf.J0_eq, ref10_leaf.SJ0, ref10_leaf.J1_eq, ref10_leaf.SJ1, ref10_leaf.J2_eq, ref10_leaf.SJ2, ref10_kind, ref10_kind.Se, value_Bounds, value_Bounds.Se, ref09_Bounds, ref09_Bounds.Se, expr_aggregate, expr_aggregate.Se, expr_aggregate.J0_eq, expr_aggregate.SJ0, Option.bind_some, cond_true, cond_false, Bool.and_true, Bool.true_and, Bool.and_false, Bool.false_and, Bool.and_self, Bool.not_true, Bool.not_false, Bool.cond_eq_ite, hn, h1, h2, h, at_Type_val, value_ValidType_val, ref09_ValidType_val]
      cases hv : validT (k, m, u) s.1.length
      · exact ⟨_, _, _, rfl, rfl, fun h => absurd h (by decide)⟩
      · exact ⟨_, _, _, rfl, rfl, fun _ => ⟨rfl, hv⟩⟩
  · rcases idx_cases s.2.2.2.1 N with ⟨h, h'⟩ | ⟨⟨k, m, u⟩, h, -, h1, h2⟩
    · by_cases hn : N < 0
      · have g : ¬ 0 ≤ N := by omega
        simp [expr_typeOf, expr_typeOf.Se, expr_typeOf.J0_eq, expr_typeOf.SJ0, expr_typeOf.J1_eq, expr_typeOf.SJ1, ref10_Result, ref10_Result.Se, ref10_Result.J0_eq, ref10_Result.SJ0, ref10_Result.J1_eq, ref10_Result.SJ1, expr_number, expr_number.Se, expr_number.J0_eq, expr_number.SJ0, expr_number.J1_eq, expr_number.SJ1, expr_number.J2_eq, expr_number.SJ2, ref10_meaning, ref10_meaning.Se, ref10_meaning.J0_eq, ref10_meaning.SJ0, ref10_ranged, ref10_ranged.Se, ref10_ranged.J0_eq, ref10_ranged.SJ0, ref10_ranged.J1_eq, ref10_ranged.SJ1, ref10_found, ref10_found.Se, ref10_found.J0_eq, ref10_found.SJ0, expr_meaning, expr_meaning.Se, expr_literal, expr_literal.Se, expr_leaf, expr_leaf.Se, expr_leaf.J0_eq, expr_leaf.SJ0, expr_leaf.J1_eq, expr_leaf.SJ1, expr_leaf.J2_eq, expr_leaf.SJ2, ref10_leaf, ref10_leaf.Se, ref10_leaf.J0_eq, ref10_leaf.SJ0, ref10_leaf.J1_eq, ref10_leaf.SJ1, ref10_leaf.J2_eq, ref10_leaf.SJ2, ref10_kind, ref10_kind.Se, value_Bounds, value_Bounds.Se, ref09_Bounds, ref09_Bounds.Se, Option.bind_some, cond_true, cond_false, Bool.and_true, Bool.true_and, Bool.and_false, Bool.false_and, Bool.and_self, Bool.not_true, Bool.not_false, Bool.cond_eq_ite, hn, g, h, at_Type_val]
        exact ⟨_, _, _, rfl, rfl, fun h => absurd h (by decide)⟩
      · have g : 0 ≤ N := by omega
        have g' : ¬ N < (s.2.2.2.1.length : Int) := by omega
        simp [expr_typeOf, expr_typeOf.Se, expr_typeOf.J0_eq, expr_typeOf.SJ0, expr_typeOf.J1_eq, expr_typeOf.SJ1, ref10_Result, ref10_Result.Se, ref10_Result.J0_eq, ref10_Result.SJ0, ref10_Result.J1_eq, ref10_Result.SJ1, expr_number, expr_number.Se, expr_number.J0_eq, expr_number.SJ0, expr_number.J1_eq, expr_number.SJ1, expr_number.J2_eq, expr_number.SJ2, ref10_meaning, ref10_meaning.Se, ref10_meaning.J0_eq, ref10_meaning.SJ0, ref10_ranged, ref10_ranged.Se, ref10_ranged.J0_eq, ref10_ranged.SJ0, ref10_ranged.J1_eq, ref10_ranged.SJ1, ref10_found, ref10_found.Se, ref10_found.J0_eq, ref10_found.SJ0, expr_meaning, expr_meaning.Se, expr_literal, expr_literal.Se, expr_leaf, expr_leaf.Se, expr_leaf.J0_eq, expr_leaf.SJ0, expr_leaf.J1_eq, expr_leaf.SJ1, expr_leaf.J2_eq, expr_leaf.SJ2, ref10_leaf, ref10_leaf.Se, ref10_leaf.J0_eq, ref10_leaf.SJ0, ref10_leaf.J1_eq, ref10_leaf.SJ1, ref10_leaf.J2_eq, ref10_leaf.SJ2, ref10_kind, ref10_kind.Se, value_Bounds, value_Bounds.Se, ref09_Bounds, ref09_Bounds.Se, Option.bind_some, cond_true, cond_false, Bool.and_true, Bool.true_and, Bool.and_false, Bool.false_and, Bool.and_self, Bool.not_true, Bool.not_false, Bool.cond_eq_ite, hn, g, g', h, at_Type_val]
        exact ⟨_, _, _, rfl, rfl, fun h => absurd h (by decide)⟩
    · have hn : ¬ N < 0 := by omega
      simp [expr_typeOf, expr_typeOf.Se, expr_typeOf.J0_eq, expr_typeOf.SJ0, expr_typeOf.J1_eq, expr_typeOf.SJ1, ref10_Result, ref10_Result.Se, ref10_Result.J0_eq, ref10_Result.SJ0, ref10_Result.J1_eq, ref10_Result.SJ1, expr_number, expr_number.Se, expr_number.J0_eq, expr_number.SJ0, expr_number.J1_eq, expr_number.SJ1, expr_number.J2_eq, expr_number.SJ2, ref10_meaning, ref10_meaning.Se, ref10_meaning.J0_eq, ref10_meaning.SJ0, ref10_ranged, ref10_ranged.Se, ref10_ranged.J0_eq, ref10_ranged.SJ0, ref10_ranged.J1_eq, ref10_ranged.SJ1, ref10_found, ref10_found.Se, ref10_found.J0_eq, ref10_found.SJ0, expr_meaning, expr_meaning.Se, expr_literal, expr_literal.Se, expr_leaf, expr_leaf.Se, expr_leaf.J0_eq, expr_leaf.SJ0, expr_leaf.J1_eq, expr_leaf.SJ1, expr_leaf.J2_eq, expr_leaf.SJ2, ref10_leaf, ref10_leaf.Se, ref10_leaf.J0_eq, ref10_leaf.SJ0, ref10_leaf.J1_eq, ref10_leaf.SJ1, ref10_leaf.J2_eq, ref10_leaf.SJ2, ref10_kind, ref10_kind.Se, value_Bounds, value_Bounds.Se, ref09_Bounds, ref09_Bounds.Se, expr_aggregate, expr_aggregate.Se, expr_aggregate.J0_eq, expr_aggregate.SJ0, Option.bind_some, cond_true, cond_false, Bool.and_true, Bool.true_and, Bool.and_false, Bool.false_and, Bool.and_self, Bool.not_true, Bool.not_false, Bool.cond_eq_ite, hn, h1, h2, h, at_Type_val, value_ValidType_val, ref09_ValidType_val]
      cases hv : validT (k, m, u) s.1.length
      · exact ⟨_, _, _, rfl, rfl, fun h => absurd h (by decide)⟩
      · exact ⟨_, _, _, rfl, rfl, fun _ => ⟨rfl, hv⟩⟩
  · simp [expr_typeOf, expr_typeOf.Se, expr_typeOf.J0_eq, expr_typeOf.SJ0, expr_typeOf.J1_eq, expr_typeOf.SJ1, ref10_Result, ref10_Result.Se, ref10_Result.J0_eq, ref10_Result.SJ0, ref10_Result.J1_eq, ref10_Result.SJ1, expr_number, expr_number.Se, expr_number.J0_eq, expr_number.SJ0, expr_number.J1_eq, expr_number.SJ1, expr_number.J2_eq, expr_number.SJ2, ref10_meaning, ref10_meaning.Se, ref10_meaning.J0_eq, ref10_meaning.SJ0, ref10_ranged, ref10_ranged.Se, ref10_ranged.J0_eq, ref10_ranged.SJ0, ref10_ranged.J1_eq, ref10_ranged.SJ1, ref10_found, ref10_found.Se, ref10_found.J0_eq, ref10_found.SJ0, expr_meaning, expr_meaning.Se, expr_literal, expr_literal.Se, expr_leaf, expr_leaf.Se, expr_leaf.J0_eq, expr_leaf.SJ0, expr_leaf.J1_eq, expr_leaf.SJ1, expr_leaf.J2_eq, expr_leaf.SJ2, ref10_leaf, ref10_leaf.Se, ref10_leaf.J0_eq, ref10_leaf.SJ0, ref10_leaf.J1_eq, ref10_leaf.SJ1, ref10_leaf.J2_eq, ref10_leaf.SJ2, ref10_kind, ref10_kind.Se, value_Bounds, value_Bounds.Se, ref09_Bounds, ref09_Bounds.Se, Option.bind_some, cond_true, cond_false, Bool.and_true, Bool.true_and, Bool.and_false, Bool.false_and, Bool.and_self, Bool.not_true, Bool.not_false, Bool.cond_eq_ite, v5, ref09_ValidType_val, obind_ite]
    all_goals repeat' split
    all_goals first
      | exact ⟨_, _, _, rfl, rfl, fun h => absurd h (by decide)⟩
      | exact ⟨_, _, _, rfl, rfl, fun _ => ⟨rfl, by assumption⟩⟩
      | (exfalso; omega)
      | (exfalso; simp_all; omega)
  · cases hm : s.2.2.2.2.2.1
    all_goals simp [expr_typeOf, expr_typeOf.Se, expr_typeOf.J0_eq, expr_typeOf.SJ0, expr_typeOf.J1_eq, expr_typeOf.SJ1, ref10_Result, ref10_Result.Se, ref10_Result.J0_eq, ref10_Result.SJ0, ref10_Result.J1_eq, ref10_Result.SJ1, expr_number, expr_number.Se, expr_number.J0_eq, expr_number.SJ0, expr_number.J1_eq, expr_number.SJ1, expr_number.J2_eq, expr_number.SJ2, ref10_meaning, ref10_meaning.Se, ref10_meaning.J0_eq, ref10_meaning.SJ0, ref10_ranged, ref10_ranged.Se, ref10_ranged.J0_eq, ref10_ranged.SJ0, ref10_ranged.J1_eq, ref10_ranged.SJ1, ref10_found, ref10_found.Se, ref10_found.J0_eq, ref10_found.SJ0, expr_meaning, expr_meaning.Se, expr_literal, expr_literal.Se, expr_leaf, expr_leaf.Se, expr_leaf.J0_eq, expr_leaf.SJ0, expr_leaf.J1_eq, expr_leaf.SJ1, expr_leaf.J2_eq, expr_leaf.SJ2, ref10_leaf, ref10_leaf.Se, ref10_leaf.J0_eq, ref10_leaf.SJ0, ref10_leaf.J1_eq, ref10_leaf.SJ1, ref10_leaf.J2_eq, ref10_leaf.SJ2, ref10_kind, ref10_kind.Se, value_Bounds, value_Bounds.Se, ref09_Bounds, ref09_Bounds.Se, Option.bind_some, cond_true, cond_false, Bool.and_true, Bool.true_and, Bool.and_false, Bool.false_and, Bool.and_self, Bool.not_true, Bool.not_false, Bool.cond_eq_ite, v2, hm, ref09_ValidType_val, obind_ite]
    all_goals repeat' split
    all_goals first
      | exact ⟨_, _, _, rfl, rfl, fun h => absurd h (by decide)⟩
      | exact ⟨_, _, _, rfl, rfl, fun _ => ⟨rfl, by assumption⟩⟩
      | (exfalso; omega)
      | (exfalso; simp_all; omega)
  · cases hm : s.2.2.2.2.2.1
    · simp [expr_typeOf, expr_typeOf.Se, expr_typeOf.J0_eq, expr_typeOf.SJ0, expr_typeOf.J1_eq, expr_typeOf.SJ1, ref10_Result, ref10_Result.Se, ref10_Result.J0_eq, ref10_Result.SJ0, ref10_Result.J1_eq, ref10_Result.SJ1, expr_number, expr_number.Se, expr_number.J0_eq, expr_number.SJ0, expr_number.J1_eq, expr_number.SJ1, expr_number.J2_eq, expr_number.SJ2, ref10_meaning, ref10_meaning.Se, ref10_meaning.J0_eq, ref10_meaning.SJ0, ref10_ranged, ref10_ranged.Se, ref10_ranged.J0_eq, ref10_ranged.SJ0, ref10_ranged.J1_eq, ref10_ranged.SJ1, ref10_found, ref10_found.Se, ref10_found.J0_eq, ref10_found.SJ0, expr_meaning, expr_meaning.Se, expr_literal, expr_literal.Se, expr_leaf, expr_leaf.Se, expr_leaf.J0_eq, expr_leaf.SJ0, expr_leaf.J1_eq, expr_leaf.SJ1, expr_leaf.J2_eq, expr_leaf.SJ2, ref10_leaf, ref10_leaf.Se, ref10_leaf.J0_eq, ref10_leaf.SJ0, ref10_leaf.J1_eq, ref10_leaf.SJ1, ref10_leaf.J2_eq, ref10_leaf.SJ2, ref10_kind, ref10_kind.Se, value_Bounds, value_Bounds.Se, ref09_Bounds, ref09_Bounds.Se, Option.bind_some, cond_true, cond_false, Bool.and_true, Bool.true_and, Bool.and_false, Bool.false_and, Bool.and_self, Bool.not_true, Bool.not_false, Bool.cond_eq_ite, hm]
      exact ⟨_, _, _, rfl, rfl, fun h => absurd h (by decide)⟩
    · rcases idx_cases s.2.2.2.2.1 N with ⟨h, h'⟩ | ⟨⟨k, m, u⟩, h, -, h1, h2⟩
      · by_cases hn : N < 0
        · have g : ¬ 0 ≤ N := by omega
          simp [expr_typeOf, expr_typeOf.Se, expr_typeOf.J0_eq, expr_typeOf.SJ0, expr_typeOf.J1_eq, expr_typeOf.SJ1, ref10_Result, ref10_Result.Se, ref10_Result.J0_eq, ref10_Result.SJ0, ref10_Result.J1_eq, ref10_Result.SJ1, expr_number, expr_number.Se, expr_number.J0_eq, expr_number.SJ0, expr_number.J1_eq, expr_number.SJ1, expr_number.J2_eq, expr_number.SJ2, ref10_meaning, ref10_meaning.Se, ref10_meaning.J0_eq, ref10_meaning.SJ0, ref10_ranged, ref10_ranged.Se, ref10_ranged.J0_eq, ref10_ranged.SJ0, ref10_ranged.J1_eq, ref10_ranged.SJ1, ref10_found, ref10_found.Se, ref10_found.J0_eq, ref10_found.SJ0, expr_meaning, expr_meaning.Se, expr_literal, expr_literal.Se, expr_leaf, expr_leaf.Se, expr_leaf.J0_eq, expr_leaf.SJ0, expr_leaf.J1_eq, expr_leaf.SJ1, expr_leaf.J2_eq, expr_leaf.SJ2, ref10_leaf, ref10_leaf.Se, ref10_leaf.J0_eq, ref10_leaf.SJ0, ref10_leaf.J1_eq, ref10_leaf.SJ1, ref10_leaf.J2_eq, ref10_leaf.SJ2, ref10_kind, ref10_kind.Se, value_Bounds, value_Bounds.Se, ref09_Bounds, ref09_Bounds.Se, Option.bind_some, cond_true, cond_false, Bool.and_true, Bool.true_and, Bool.and_false, Bool.false_and, Bool.and_self, Bool.not_true, Bool.not_false, Bool.cond_eq_ite, hm, hn, g, h, at_Type_val]
          exact ⟨_, _, _, rfl, rfl, fun h => absurd h (by decide)⟩
        · have g : 0 ≤ N := by omega
          have g' : ¬ N < (s.2.2.2.2.1.length : Int) := by omega
          simp [expr_typeOf, expr_typeOf.Se, expr_typeOf.J0_eq, expr_typeOf.SJ0, expr_typeOf.J1_eq, expr_typeOf.SJ1, ref10_Result, ref10_Result.Se, ref10_Result.J0_eq, ref10_Result.SJ0, ref10_Result.J1_eq, ref10_Result.SJ1, expr_number, expr_number.Se, expr_number.J0_eq, expr_number.SJ0, expr_number.J1_eq, expr_number.SJ1, expr_number.J2_eq, expr_number.SJ2, ref10_meaning, ref10_meaning.Se, ref10_meaning.J0_eq, ref10_meaning.SJ0, ref10_ranged, ref10_ranged.Se, ref10_ranged.J0_eq, ref10_ranged.SJ0, ref10_ranged.J1_eq, ref10_ranged.SJ1, ref10_found, ref10_found.Se, ref10_found.J0_eq, ref10_found.SJ0, expr_meaning, expr_meaning.Se, expr_literal, expr_literal.Se, expr_leaf, expr_leaf.Se, expr_leaf.J0_eq, expr_leaf.SJ0, expr_leaf.J1_eq, expr_leaf.SJ1, expr_leaf.J2_eq, expr_leaf.SJ2, ref10_leaf, ref10_leaf.Se, ref10_leaf.J0_eq, ref10_leaf.SJ0, ref10_leaf.J1_eq, ref10_leaf.SJ1, ref10_leaf.J2_eq, ref10_leaf.SJ2, ref10_kind, ref10_kind.Se, value_Bounds, value_Bounds.Se, ref09_Bounds, ref09_Bounds.Se, Option.bind_some, cond_true, cond_false, Bool.and_true, Bool.true_and, Bool.and_false, Bool.false_and, Bool.and_self, Bool.not_true, Bool.not_false, Bool.cond_eq_ite, hm, hn, g, g', h, at_Type_val]
          exact ⟨_, _, _, rfl, rfl, fun h => absurd h (by decide)⟩
      · have hn : ¬ N < 0 := by omega
        cases hv : validT (k, m, u) s.1.length
        all_goals simp [expr_typeOf, expr_typeOf.Se, expr_typeOf.J0_eq, expr_typeOf.SJ0, expr_typeOf.J1_eq, expr_typeOf.SJ1, ref10_Result, ref10_Result.Se, ref10_Result.J0_eq, ref10_Result.SJ0, ref10_Result.J1_eq, ref10_Result.SJ1, expr_number, expr_number.Se, expr_number.J0_eq, expr_number.SJ0, expr_number.J1_eq, expr_number.SJ1, expr_number.J2_eq, expr_number.SJ2, ref10_meaning, ref10_meaning.Se, ref10_meaning.J0_eq, ref10_meaning.SJ0, ref10_ranged, ref10_ranged.Se, ref10_ranged.J0_eq, ref10_ranged.SJ0, ref10_ranged.J1_eq, ref10_ranged.SJ1, ref10_found, ref10_found.Se, ref10_found.J0_eq, ref10_found.SJ0, expr_meaning, expr_meaning.Se, expr_literal, expr_literal.Se, expr_leaf, expr_leaf.Se, expr_leaf.J0_eq, expr_leaf.SJ0, expr_leaf.J1_eq, expr_leaf.SJ1, expr_leaf.J2_eq, expr_leaf.SJ2, ref10_leaf, ref10_leaf.Se, ref10_leaf.J0_eq, ref10_leaf.SJ0, ref10_leaf.J1_eq, ref10_leaf.SJ1, ref10_leaf.J2_eq, ref10_leaf.SJ2, ref10_kind, ref10_kind.Se, value_Bounds, value_Bounds.Se, ref09_Bounds, ref09_Bounds.Se, expr_aggregate, expr_aggregate.Se, expr_aggregate.J0_eq, expr_aggregate.SJ0, expr_ordered, expr_ordered.Se, expr_numeric, expr_numeric.Se, ref10_ordered, ref10_ordered.Se, ref10_number, ref10_number.Se, Option.bind_some, cond_true, cond_false, Bool.and_true, Bool.true_and, Bool.and_false, Bool.false_and, Bool.and_self, Bool.not_true, Bool.not_false, Bool.cond_eq_ite, hm, hn, h1, h2, h, at_Type_val, value_ValidType_val, ref09_ValidType_val, hv, obind_ite]
        all_goals repeat' split
        all_goals first
          | exact ⟨_, _, _, rfl, rfl, fun h => absurd h (by decide)⟩
          | exact ⟨_, _, _, rfl, rfl, fun _ => ⟨rfl, by assumption⟩⟩
          | (exfalso; omega)
          | (exfalso; simp_all; done)
          | (exfalso; simp_all; omega)
  · cases hm : s.2.2.2.2.2.1
    · simp [expr_typeOf, expr_typeOf.Se, expr_typeOf.J0_eq, expr_typeOf.SJ0, expr_typeOf.J1_eq, expr_typeOf.SJ1, ref10_Result, ref10_Result.Se, ref10_Result.J0_eq, ref10_Result.SJ0, ref10_Result.J1_eq, ref10_Result.SJ1, expr_number, expr_number.Se, expr_number.J0_eq, expr_number.SJ0, expr_number.J1_eq, expr_number.SJ1, expr_number.J2_eq, expr_number.SJ2, ref10_meaning, ref10_meaning.Se, ref10_meaning.J0_eq, ref10_meaning.SJ0, ref10_ranged, ref10_ranged.Se, ref10_ranged.J0_eq, ref10_ranged.SJ0, ref10_ranged.J1_eq, ref10_ranged.SJ1, ref10_found, ref10_found.Se, ref10_found.J0_eq, ref10_found.SJ0, expr_meaning, expr_meaning.Se, expr_literal, expr_literal.Se, expr_leaf, expr_leaf.Se, expr_leaf.J0_eq, expr_leaf.SJ0, expr_leaf.J1_eq, expr_leaf.SJ1, expr_leaf.J2_eq, expr_leaf.SJ2, ref10_leaf, ref10_leaf.Se, ref10_leaf.J0_eq, ref10_leaf.SJ0, ref10_leaf.J1_eq, ref10_leaf.SJ1, ref10_leaf.J2_eq, ref10_leaf.SJ2, ref10_kind, ref10_kind.Se, value_Bounds, value_Bounds.Se, ref09_Bounds, ref09_Bounds.Se, Option.bind_some, cond_true, cond_false, Bool.and_true, Bool.true_and, Bool.and_false, Bool.false_and, Bool.and_self, Bool.not_true, Bool.not_false, Bool.cond_eq_ite, hm]
      exact ⟨_, _, _, rfl, rfl, fun h => absurd h (by decide)⟩
    · rcases idx_cases s.2.2.2.2.1 N with ⟨h, h'⟩ | ⟨⟨k, m, u⟩, h, -, h1, h2⟩
      · by_cases hn : N < 0
        · have g : ¬ 0 ≤ N := by omega
          simp [expr_typeOf, expr_typeOf.Se, expr_typeOf.J0_eq, expr_typeOf.SJ0, expr_typeOf.J1_eq, expr_typeOf.SJ1, ref10_Result, ref10_Result.Se, ref10_Result.J0_eq, ref10_Result.SJ0, ref10_Result.J1_eq, ref10_Result.SJ1, expr_number, expr_number.Se, expr_number.J0_eq, expr_number.SJ0, expr_number.J1_eq, expr_number.SJ1, expr_number.J2_eq, expr_number.SJ2, ref10_meaning, ref10_meaning.Se, ref10_meaning.J0_eq, ref10_meaning.SJ0, ref10_ranged, ref10_ranged.Se, ref10_ranged.J0_eq, ref10_ranged.SJ0, ref10_ranged.J1_eq, ref10_ranged.SJ1, ref10_found, ref10_found.Se, ref10_found.J0_eq, ref10_found.SJ0, expr_meaning, expr_meaning.Se, expr_literal, expr_literal.Se, expr_leaf, expr_leaf.Se, expr_leaf.J0_eq, expr_leaf.SJ0, expr_leaf.J1_eq, expr_leaf.SJ1, expr_leaf.J2_eq, expr_leaf.SJ2, ref10_leaf, ref10_leaf.Se, ref10_leaf.J0_eq, ref10_leaf.SJ0, ref10_leaf.J1_eq, ref10_leaf.SJ1, ref10_leaf.J2_eq, ref10_leaf.SJ2, ref10_kind, ref10_kind.Se, value_Bounds, value_Bounds.Se, ref09_Bounds, ref09_Bounds.Se, Option.bind_some, cond_true, cond_false, Bool.and_true, Bool.true_and, Bool.and_false, Bool.false_and, Bool.and_self, Bool.not_true, Bool.not_false, Bool.cond_eq_ite, hm, hn, g, h, at_Type_val]
          exact ⟨_, _, _, rfl, rfl, fun h => absurd h (by decide)⟩
        · have g : 0 ≤ N := by omega
          have g' : ¬ N < (s.2.2.2.2.1.length : Int) := by omega
          simp [expr_typeOf, expr_typeOf.Se, expr_typeOf.J0_eq, expr_typeOf.SJ0, expr_typeOf.J1_eq, expr_typeOf.SJ1, ref10_Result, ref10_Result.Se, ref10_Result.J0_eq, ref10_Result.SJ0, ref10_Result.J1_eq, ref10_Result.SJ1, expr_number, expr_number.Se, expr_number.J0_eq, expr_number.SJ0, expr_number.J1_eq, expr_number.SJ1, expr_number.J2_eq, expr_number.SJ2, ref10_meaning, ref10_meaning.Se, ref10_meaning.J0_eq, ref10_meaning.SJ0, ref10_ranged, ref10_ranged.Se, ref10_ranged.J0_eq, ref10_ranged.SJ0, ref10_ranged.J1_eq, ref10_ranged.SJ1, ref10_found, ref10_found.Se, ref10_found.J0_eq, ref10_found.SJ0, expr_meaning, expr_meaning.Se, expr_literal, expr_literal.Se, expr_leaf, expr_leaf.Se, expr_leaf.J0_eq, expr_leaf.SJ0, expr_leaf.J1_eq, expr_leaf.SJ1, expr_leaf.J2_eq, expr_leaf.SJ2, ref10_leaf, ref10_leaf.Se, ref10_leaf.J0_eq, ref10_leaf.SJ0, ref10_leaf.J1_eq, ref10_leaf.SJ1, ref10_leaf.J2_eq, ref10_leaf.SJ2, ref10_kind, ref10_kind.Se, value_Bounds, value_Bounds.Se, ref09_Bounds, ref09_Bounds.Se, Option.bind_some, cond_true, cond_false, Bool.and_true, Bool.true_and, Bool.and_false, Bool.false_and, Bool.and_self, Bool.not_true, Bool.not_false, Bool.cond_eq_ite, hm, hn, g, g', h, at_Type_val]
          exact ⟨_, _, _, rfl, rfl, fun h => absurd h (by decide)⟩
      · have hn : ¬ N < 0 := by omega
        cases hv : validT (k, m, u) s.1.length
        all_goals simp [expr_typeOf, expr_typeOf.Se, expr_typeOf.J0_eq, expr_typeOf.SJ0, expr_typeOf.J1_eq, expr_typeOf.SJ1, ref10_Result, ref10_Result.Se, ref10_Result.J0_eq, ref10_Result.SJ0, ref10_Result.J1_eq, ref10_Result.SJ1, expr_number, expr_number.Se, expr_number.J0_eq, expr_number.SJ0, expr_number.J1_eq, expr_number.SJ1, expr_number.J2_eq, expr_number.SJ2, ref10_meaning, ref10_meaning.Se, ref10_meaning.J0_eq, ref10_meaning.SJ0, ref10_ranged, ref10_ranged.Se, ref10_ranged.J0_eq, ref10_ranged.SJ0, ref10_ranged.J1_eq, ref10_ranged.SJ1, ref10_found, ref10_found.Se, ref10_found.J0_eq, ref10_found.SJ0, expr_meaning, expr_meaning.Se, expr_literal, expr_literal.Se, expr_leaf, expr_leaf.Se, expr_leaf.J0_eq, expr_leaf.SJ0, expr_leaf.J1_eq, expr_leaf.SJ1, expr_leaf.J2_eq, expr_leaf.SJ2, ref10_leaf, ref10_leaf.Se, ref10_leaf.J0_eq, ref10_leaf.SJ0, ref10_leaf.J1_eq, ref10_leaf.SJ1, ref10_leaf.J2_eq, ref10_leaf.SJ2, ref10_kind, ref10_kind.Se, value_Bounds, value_Bounds.Se, ref09_Bounds, ref09_Bounds.Se, expr_aggregate, expr_aggregate.Se, expr_aggregate.J0_eq, expr_aggregate.SJ0, expr_ordered, expr_ordered.Se, expr_numeric, expr_numeric.Se, ref10_ordered, ref10_ordered.Se, ref10_number, ref10_number.Se, Option.bind_some, cond_true, cond_false, Bool.and_true, Bool.true_and, Bool.and_false, Bool.false_and, Bool.and_self, Bool.not_true, Bool.not_false, Bool.cond_eq_ite, hm, hn, h1, h2, h, at_Type_val, value_ValidType_val, ref09_ValidType_val, hv, obind_ite]
        all_goals repeat' split
        all_goals first
          | exact ⟨_, _, _, rfl, rfl, fun h => absurd h (by decide)⟩
          | exact ⟨_, _, _, rfl, rfl, fun _ => ⟨rfl, by assumption⟩⟩
          | (exfalso; omega)
          | (exfalso; simp_all; done)
          | (exfalso; simp_all; omega)
  · cases hm : s.2.2.2.2.2.1
    · simp [expr_typeOf, expr_typeOf.Se, expr_typeOf.J0_eq, expr_typeOf.SJ0, expr_typeOf.J1_eq, expr_typeOf.SJ1, ref10_Result, ref10_Result.Se, ref10_Result.J0_eq, ref10_Result.SJ0, ref10_Result.J1_eq, ref10_Result.SJ1, expr_number, expr_number.Se, expr_number.J0_eq, expr_number.SJ0, expr_number.J1_eq, expr_number.SJ1, expr_number.J2_eq, expr_number.SJ2, ref10_meaning, ref10_meaning.Se, ref10_meaning.J0_eq, ref10_meaning.SJ0, ref10_ranged, ref10_ranged.Se, ref10_ranged.J0_eq, ref10_ranged.SJ0, ref10_ranged.J1_eq, ref10_ranged.SJ1, ref10_found, ref10_found.Se, ref10_found.J0_eq, ref10_found.SJ0, expr_meaning, expr_meaning.Se, expr_literal, expr_literal.Se, expr_leaf, expr_leaf.Se, expr_leaf.J0_eq, expr_leaf.SJ0, expr_leaf.J1_eq, expr_leaf.SJ1, expr_leaf.J2_eq, expr_leaf.SJ2, ref10_leaf, ref10_leaf.Se, ref10_leaf.J0_eq, ref10_leaf.SJ0, ref10_leaf.J1_eq, ref10_leaf.SJ1, ref10_leaf.J2_eq, ref10_leaf.SJ2, ref10_kind, ref10_kind.Se, value_Bounds, value_Bounds.Se, ref09_Bounds, ref09_Bounds.Se, Option.bind_some, cond_true, cond_false, Bool.and_true, Bool.true_and, Bool.and_false, Bool.false_and, Bool.and_self, Bool.not_true, Bool.not_false, Bool.cond_eq_ite, hm]
      exact ⟨_, _, _, rfl, rfl, fun h => absurd h (by decide)⟩
    · rcases idx_cases s.2.2.2.2.1 N with ⟨h, h'⟩ | ⟨⟨k, m, u⟩, h, -, h1, h2⟩
      · by_cases hn : N < 0
        · have g : ¬ 0 ≤ N := by omega
          simp [expr_typeOf, expr_typeOf.Se, expr_typeOf.J0_eq, expr_typeOf.SJ0, expr_typeOf.J1_eq, expr_typeOf.SJ1, ref10_Result, ref10_Result.Se, ref10_Result.J0_eq, ref10_Result.SJ0, ref10_Result.J1_eq, ref10_Result.SJ1, expr_number, expr_number.Se, expr_number.J0_eq, expr_number.SJ0, expr_number.J1_eq, expr_number.SJ1, expr_number.J2_eq, expr_number.SJ2, ref10_meaning, ref10_meaning.Se, ref10_meaning.J0_eq, ref10_meaning.SJ0, ref10_ranged, ref10_ranged.Se, ref10_ranged.J0_eq, ref10_ranged.SJ0, ref10_ranged.J1_eq, ref10_ranged.SJ1, ref10_found, ref10_found.Se, ref10_found.J0_eq, ref10_found.SJ0, expr_meaning, expr_meaning.Se, expr_literal, expr_literal.Se, expr_leaf, expr_leaf.Se, expr_leaf.J0_eq, expr_leaf.SJ0, expr_leaf.J1_eq, expr_leaf.SJ1, expr_leaf.J2_eq, expr_leaf.SJ2, ref10_leaf, ref10_leaf.Se, ref10_leaf.J0_eq, ref10_leaf.SJ0, ref10_leaf.J1_eq, ref10_leaf.SJ1, ref10_leaf.J2_eq, ref10_leaf.SJ2, ref10_kind, ref10_kind.Se, value_Bounds, value_Bounds.Se, ref09_Bounds, ref09_Bounds.Se, Option.bind_some, cond_true, cond_false, Bool.and_true, Bool.true_and, Bool.and_false, Bool.false_and, Bool.and_self, Bool.not_true, Bool.not_false, Bool.cond_eq_ite, hm, hn, g, h, at_Type_val]
          exact ⟨_, _, _, rfl, rfl, fun h => absurd h (by decide)⟩
        · have g : 0 ≤ N := by omega
          have g' : ¬ N < (s.2.2.2.2.1.length : Int) := by omega
          simp [expr_typeOf, expr_typeOf.Se, expr_typeOf.J0_eq, expr_typeOf.SJ0, expr_typeOf.J1_eq, expr_typeOf.SJ1, ref10_Result, ref10_Result.Se, ref10_Result.J0_eq, ref10_Result.SJ0, ref10_Result.J1_eq, ref10_Result.SJ1, expr_number, expr_number.Se, expr_number.J0_eq, expr_number.SJ0, expr_number.J1_eq, expr_number.SJ1, expr_number.J2_eq, expr_number.SJ2, ref10_meaning, ref10_meaning.Se, ref10_meaning.J0_eq, ref10_meaning.SJ0, ref10_ranged, ref10_ranged.Se, ref10_ranged.J0_eq, ref10_ranged.SJ0, ref10_ranged.J1_eq, ref10_ranged.SJ1, ref10_found, ref10_found.Se, ref10_found.J0_eq, ref10_found.SJ0, expr_meaning, expr_meaning.Se, expr_literal, expr_literal.Se, expr_leaf, expr_leaf.Se, expr_leaf.J0_eq, expr_leaf.SJ0, expr_leaf.J1_eq, expr_leaf.SJ1, expr_leaf.J2_eq, expr_leaf.SJ2, ref10_leaf, ref10_leaf.Se, ref10_leaf.J0_eq, ref10_leaf.SJ0, ref10_leaf.J1_eq, ref10_leaf.SJ1, ref10_leaf.J2_eq, ref10_leaf.SJ2, ref10_kind, ref10_kind.Se, value_Bounds, value_Bounds.Se, ref09_Bounds, ref09_Bounds.Se, Option.bind_some, cond_true, cond_false, Bool.and_true, Bool.true_and, Bool.and_false, Bool.false_and, Bool.and_self, Bool.not_true, Bool.not_false, Bool.cond_eq_ite, hm, hn, g, g', h, at_Type_val]
          exact ⟨_, _, _, rfl, rfl, fun h => absurd h (by decide)⟩
      · have hn : ¬ N < 0 := by omega
        cases hv : validT (k, m, u) s.1.length
        all_goals simp [expr_typeOf, expr_typeOf.Se, expr_typeOf.J0_eq, expr_typeOf.SJ0, expr_typeOf.J1_eq, expr_typeOf.SJ1, ref10_Result, ref10_Result.Se, ref10_Result.J0_eq, ref10_Result.SJ0, ref10_Result.J1_eq, ref10_Result.SJ1, expr_number, expr_number.Se, expr_number.J0_eq, expr_number.SJ0, expr_number.J1_eq, expr_number.SJ1, expr_number.J2_eq, expr_number.SJ2, ref10_meaning, ref10_meaning.Se, ref10_meaning.J0_eq, ref10_meaning.SJ0, ref10_ranged, ref10_ranged.Se, ref10_ranged.J0_eq, ref10_ranged.SJ0, ref10_ranged.J1_eq, ref10_ranged.SJ1, ref10_found, ref10_found.Se, ref10_found.J0_eq, ref10_found.SJ0, expr_meaning, expr_meaning.Se, expr_literal, expr_literal.Se, expr_leaf, expr_leaf.Se, expr_leaf.J0_eq, expr_leaf.SJ0, expr_leaf.J1_eq, expr_leaf.SJ1, expr_leaf.J2_eq, expr_leaf.SJ2, ref10_leaf, ref10_leaf.Se, ref10_leaf.J0_eq, ref10_leaf.SJ0, ref10_leaf.J1_eq, ref10_leaf.SJ1, ref10_leaf.J2_eq, ref10_leaf.SJ2, ref10_kind, ref10_kind.Se, value_Bounds, value_Bounds.Se, ref09_Bounds, ref09_Bounds.Se, expr_aggregate, expr_aggregate.Se, expr_aggregate.J0_eq, expr_aggregate.SJ0, expr_ordered, expr_ordered.Se, expr_numeric, expr_numeric.Se, ref10_ordered, ref10_ordered.Se, ref10_number, ref10_number.Se, Option.bind_some, cond_true, cond_false, Bool.and_true, Bool.true_and, Bool.and_false, Bool.false_and, Bool.and_self, Bool.not_true, Bool.not_false, Bool.cond_eq_ite, hm, hn, h1, h2, h, at_Type_val, value_ValidType_val, ref09_ValidType_val, hv, obind_ite]
        all_goals repeat' split
        all_goals first
          | exact ⟨_, _, _, rfl, rfl, fun h => absurd h (by decide)⟩
          | exact ⟨_, _, _, rfl, rfl, fun _ => ⟨rfl, by assumption⟩⟩
          | (exfalso; omega)
          | (exfalso; simp_all; done)
          | (exfalso; simp_all; omega)
  · cases hm : s.2.2.2.2.2.1
    · simp [expr_typeOf, expr_typeOf.Se, expr_typeOf.J0_eq, expr_typeOf.SJ0, expr_typeOf.J1_eq, expr_typeOf.SJ1, ref10_Result, ref10_Result.Se, ref10_Result.J0_eq, ref10_Result.SJ0, ref10_Result.J1_eq, ref10_Result.SJ1, expr_number, expr_number.Se, expr_number.J0_eq, expr_number.SJ0, expr_number.J1_eq, expr_number.SJ1, expr_number.J2_eq, expr_number.SJ2, ref10_meaning, ref10_meaning.Se, ref10_meaning.J0_eq, ref10_meaning.SJ0, ref10_ranged, ref10_ranged.Se, ref10_ranged.J0_eq, ref10_ranged.SJ0, ref10_ranged.J1_eq, ref10_ranged.SJ1, ref10_found, ref10_found.Se, ref10_found.J0_eq, ref10_found.SJ0, expr_meaning, expr_meaning.Se, expr_literal, expr_literal.Se, expr_leaf, expr_leaf.Se, expr_leaf.J0_eq, expr_leaf.SJ0, expr_leaf.J1_eq, expr_leaf.SJ1, expr_leaf.J2_eq, expr_leaf.SJ2, ref10_leaf, ref10_leaf.Se, ref10_leaf.J0_eq, ref10_leaf.SJ0, ref10_leaf.J1_eq, ref10_leaf.SJ1, ref10_leaf.J2_eq, ref10_leaf.SJ2, ref10_kind, ref10_kind.Se, value_Bounds, value_Bounds.Se, ref09_Bounds, ref09_Bounds.Se, Option.bind_some, cond_true, cond_false, Bool.and_true, Bool.true_and, Bool.and_false, Bool.false_and, Bool.and_self, Bool.not_true, Bool.not_false, Bool.cond_eq_ite, hm]
      exact ⟨_, _, _, rfl, rfl, fun h => absurd h (by decide)⟩
    · rcases idx_cases s.2.2.2.2.1 N with ⟨h, h'⟩ | ⟨⟨k, m, u⟩, h, -, h1, h2⟩
      · by_cases hn : N < 0
        · have g : ¬ 0 ≤ N := by omega
          simp [expr_typeOf, expr_typeOf.Se, expr_typeOf.J0_eq, expr_typeOf.SJ0, expr_typeOf.J1_eq, expr_typeOf.SJ1, ref10_Result, ref10_Result.Se, ref10_Result.J0_eq, ref10_Result.SJ0, ref10_Result.J1_eq, ref10_Result.SJ1, expr_number, expr_number.Se, expr_number.J0_eq, expr_number.SJ0, expr_number.J1_eq, expr_number.SJ1, expr_number.J2_eq, expr_number.SJ2, ref10_meaning, ref10_meaning.Se, ref10_meaning.J0_eq, ref10_meaning.SJ0, ref10_ranged, ref10_ranged.Se, ref10_ranged.J0_eq, ref10_ranged.SJ0, ref10_ranged.J1_eq, ref10_ranged.SJ1, ref10_found, ref10_found.Se, ref10_found.J0_eq, ref10_found.SJ0, expr_meaning, expr_meaning.Se, expr_literal, expr_literal.Se, expr_leaf, expr_leaf.Se, expr_leaf.J0_eq, expr_leaf.SJ0, expr_leaf.J1_eq, expr_leaf.SJ1, expr_leaf.J2_eq, expr_leaf.SJ2, ref10_leaf, ref10_leaf.Se, ref10_leaf.J0_eq, ref10_leaf.SJ0, ref10_leaf.J1_eq, ref10_leaf.SJ1, ref10_leaf.J2_eq, ref10_leaf.SJ2, ref10_kind, ref10_kind.Se, value_Bounds, value_Bounds.Se, ref09_Bounds, ref09_Bounds.Se, Option.bind_some, cond_true, cond_false, Bool.and_true, Bool.true_and, Bool.and_false, Bool.false_and, Bool.and_self, Bool.not_true, Bool.not_false, Bool.cond_eq_ite, hm, hn, g, h, at_Type_val]
          exact ⟨_, _, _, rfl, rfl, fun h => absurd h (by decide)⟩
        · have g : 0 ≤ N := by omega
          have g' : ¬ N < (s.2.2.2.2.1.length : Int) := by omega
          simp [expr_typeOf, expr_typeOf.Se, expr_typeOf.J0_eq, expr_typeOf.SJ0, expr_typeOf.J1_eq, expr_typeOf.SJ1, ref10_Result, ref10_Result.Se, ref10_Result.J0_eq, ref10_Result.SJ0, ref10_Result.J1_eq, ref10_Result.SJ1, expr_number, expr_number.Se, expr_number.J0_eq, expr_number.SJ0, expr_number.J1_eq, expr_number.SJ1, expr_number.J2_eq, expr_number.SJ2, ref10_meaning, ref10_meaning.Se, ref10_meaning.J0_eq, ref10_meaning.SJ0, ref10_ranged, ref10_ranged.Se, ref10_ranged.J0_eq, ref10_ranged.SJ0, ref10_ranged.J1_eq, ref10_ranged.SJ1, ref10_found, ref10_found.Se, ref10_found.J0_eq, ref10_found.SJ0, expr_meaning, expr_meaning.Se, expr_literal, expr_literal.Se, expr_leaf, expr_leaf.Se, expr_leaf.J0_eq, expr_leaf.SJ0, expr_leaf.J1_eq, expr_leaf.SJ1, expr_leaf.J2_eq, expr_leaf.SJ2, ref10_leaf, ref10_leaf.Se, ref10_leaf.J0_eq, ref10_leaf.SJ0, ref10_leaf.J1_eq, ref10_leaf.SJ1, ref10_leaf.J2_eq, ref10_leaf.SJ2, ref10_kind, ref10_kind.Se, value_Bounds, value_Bounds.Se, ref09_Bounds, ref09_Bounds.Se, Option.bind_some, cond_true, cond_false, Bool.and_true, Bool.true_and, Bool.and_false, Bool.false_and, Bool.and_self, Bool.not_true, Bool.not_false, Bool.cond_eq_ite, hm, hn, g, g', h, at_Type_val]
          exact ⟨_, _, _, rfl, rfl, fun h => absurd h (by decide)⟩
      · have hn : ¬ N < 0 := by omega
        cases hv : validT (k, m, u) s.1.length
        all_goals simp [expr_typeOf, expr_typeOf.Se, expr_typeOf.J0_eq, expr_typeOf.SJ0, expr_typeOf.J1_eq, expr_typeOf.SJ1, ref10_Result, ref10_Result.Se, ref10_Result.J0_eq, ref10_Result.SJ0, ref10_Result.J1_eq, ref10_Result.SJ1, expr_number, expr_number.Se, expr_number.J0_eq, expr_number.SJ0, expr_number.J1_eq, expr_number.SJ1, expr_number.J2_eq, expr_number.SJ2, ref10_meaning, ref10_meaning.Se, ref10_meaning.J0_eq, ref10_meaning.SJ0, ref10_ranged, ref10_ranged.Se, ref10_ranged.J0_eq, ref10_ranged.SJ0, ref10_ranged.J1_eq, ref10_ranged.SJ1, ref10_found, ref10_found.Se, ref10_found.J0_eq, ref10_found.SJ0, expr_meaning, expr_meaning.Se, expr_literal, expr_literal.Se, expr_leaf, expr_leaf.Se, expr_leaf.J0_eq, expr_leaf.SJ0, expr_leaf.J1_eq, expr_leaf.SJ1, expr_leaf.J2_eq, expr_leaf.SJ2, ref10_leaf, ref10_leaf.Se, ref10_leaf.J0_eq, ref10_leaf.SJ0, ref10_leaf.J1_eq, ref10_leaf.SJ1, ref10_leaf.J2_eq, ref10_leaf.SJ2, ref10_kind, ref10_kind.Se, value_Bounds, value_Bounds.Se, ref09_Bounds, ref09_Bounds.Se, expr_aggregate, expr_aggregate.Se, expr_aggregate.J0_eq, expr_aggregate.SJ0, expr_ordered, expr_ordered.Se, expr_numeric, expr_numeric.Se, ref10_ordered, ref10_ordered.Se, ref10_number, ref10_number.Se, Option.bind_some, cond_true, cond_false, Bool.and_true, Bool.true_and, Bool.and_false, Bool.false_and, Bool.and_self, Bool.not_true, Bool.not_false, Bool.cond_eq_ite, hm, hn, h1, h2, h, at_Type_val, value_ValidType_val, ref09_ValidType_val, hv, obind_ite]
        all_goals repeat' split
        all_goals first
          | exact ⟨_, _, _, rfl, rfl, fun h => absurd h (by decide)⟩
          | exact ⟨_, _, _, rfl, rfl, fun _ => ⟨rfl, by assumption⟩⟩
          | (exfalso; omega)
          | (exfalso; simp_all; done)
          | (exfalso; simp_all; omega)

end Go.Proofs.Ytmkkdjnojcmihaa
