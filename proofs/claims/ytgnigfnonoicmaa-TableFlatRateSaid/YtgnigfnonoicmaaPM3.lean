import Derived.Test.YtgnigfnonoicmaaPM
set_option maxRecDepth 100000
set_option linter.unusedVariables false
set_option linter.unusedSimpArgs false
namespace Go.Proofs.Ytgnigfnonoicmaa
open Go Go.Lift
def mulDiv (c num den m : Int) : Int × Int × Unit :=
  if ¬ (0 ≤ m ∧ m ≤ 5) then (0, 1, ()) else if den = 0 then (0, 12, ()) else if 1000000000000000 < (c.natAbs : Int) ∨ 1000000000 < (num.natAbs : Int) ∨ 1000000000 < (den.natAbs : Int) then (0, 3, ()) else
  let a : Int := (c.natAbs : Int) * num.natAbs; let b : Int := den.natAbs; let neg := !((!((decide (c < 0)) == (decide (num < 0)))) == (decide (den < 0)))
  let q := if up (a / b) (a % b) b neg m then a / b + 1 else a / b
  if 1000000000000000 < q then (0, 3, ()) else (sgn neg q, 0, ())
theorem muldiv_facts {a x b : Int} (ha0 : 0 ≤ a) (ha : a ≤ 1000000000000000) (hx0 : 0 ≤ x) (hx : x ≤ 1000000000) (hb0 : 0 < b) (hb : b ≤ 1000000000) :
    0 ≤ a * x ∧ a * x ≤ 1000000000000000000000000 ∧ 0 ≤ a * x / b ∧ a * x / b * b ≤ a * x ∧ a * x < (a * x / b + 1) * b ∧ 0 ≤ a * x % b ∧ a * x % b < b ∧ a * x / b ≤ a * x := by
  have h1 : a * x ≤ 1000000000000000 * 1000000000 := Int.mul_le_mul ha hx hx0 (by omega)
  have h0 : 0 ≤ a * x := Int.mul_nonneg ha0 hx0
  exact ⟨h0, by omega, Int.ediv_nonneg h0 (by omega), Int.ediv_mul_le _ (by omega), Int.lt_ediv_add_one_mul_self _ hb0, Int.emod_nonneg _ (by omega), Int.emod_lt_of_pos _ hb0, Int.ediv_le_self _ h0⟩
theorem money_MulDiv_val {c num den : Int} (m : Int) (h1 : -9223372036854775808 ≤ c) (h2 : c ≤ 9223372036854775807) (h3 : -9223372036854775808 ≤ num) (h4 : num ≤ 9223372036854775807) (h5 : -9223372036854775808 ≤ den) (h6 : den ≤ 9223372036854775807) :
    money_MulDiv c num den m = some (mulDiv c num den m) := by
  simp only [money_MulDiv, money_MulDiv.Se, money_MulDiv.J0_eq, money_MulDiv.SJ0, money_mode_val, money_abs_val h1 h2, money_abs_val h3 h4, money_abs_val h5 h6, Option.bind_some, cond_true, cond_false, Bool.and_true, Bool.true_and, Bool.and_false, Bool.false_and, Bool.and_self, Bool.not_true, Bool.not_false, mulDiv, Bool.cond_eq_ite, beq_iff_eq, bne_iff_ne, ne_eq, decide_eq_true_eq, Bool.not_eq_true', decide_eq_false_iff_not, Bool.and_eq_true, Bool.or_eq_true]
  split
  · rfl
  · split
    · rfl
    · split
      · rw [if_pos (by omega)]
      · split
        · rw [if_pos (by omega)]
        · split
          · rw [if_pos (by omega)]
          · rename_i g1 g2 g3 g4 g5
            rw [if_neg (show ¬ (1000000000000000 < (c.natAbs : Int) ∨ 1000000000 < (num.natAbs : Int) ∨ 1000000000 < (den.natAbs : Int)) by omega)]
            obtain ⟨f1, f2, f3, f4, f5, f6, f7, f8⟩ := muldiv_facts (a := c.natAbs) (x := num.natAbs) (b := den.natAbs) (by omega) (by omega) (by omega) (by omega) (by omega) (by omega)
            rw [Mul64_val (by omega) (by omega) (by omega) (by omega)]
            simp only [Option.bind_some]
            generalize (c.natAbs : Int) * num.natAbs = A at *
            generalize hB : (den.natAbs : Int) = B at *
            have hbig : ∀ k : Int, k ≤ A / B → k * B ≤ A := fun k hk => by
              have := Int.mul_le_mul_of_nonneg_right hk (show 0 ≤ B by omega)
              omega
            by_cases hh : A / 18446744073709551616 ≥ B
            · have hq : 18446744073709551616 ≤ A / B := Int.le_ediv_of_mul_le (by omega) (by omega)
              rw [if_pos hh, if_pos (by split <;> omega)]
            · rw [if_neg hh, Div64_val (by omega) (by omega) (by omega) (by omega) (by omega), show A / 18446744073709551616 * 18446744073709551616 + A % 18446744073709551616 = A by omega]
              simp only [Option.bind_some]
              by_cases hq : A / B > 1000000000000000
              · rw [if_pos hq, if_pos (by split <;> omega)]
              · rw [if_neg hq, money_round_val _ _ f3 (by omega) f6 f7 (by omega)]
                simp only [Option.bind_some]
                generalize hQ : (if up (A / B) (A % B) B (!((!((decide (c < 0)) == (decide (num < 0)))) == (decide (den < 0)))) m = true then A / B + 1 else A / B) = Q
                have hQ0 : 0 ≤ Q := by rw [← hQ]; split <;> omega
                by_cases hq' : Q > 1000000000000000
                · rw [if_pos hq', if_pos hq']
                · rw [if_neg hq', if_neg hq', money_signed_val _ hQ0 (by omega)]
                  rfl
end Go.Proofs.Ytgnigfnonoicmaa
