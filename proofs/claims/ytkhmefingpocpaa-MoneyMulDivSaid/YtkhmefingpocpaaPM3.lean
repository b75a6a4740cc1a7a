/- Plain laws of the lifted functions. -/
import Derived.Test.YtkhmefingpocpaaPBits
set_option maxRecDepth 100000
set_option linter.unusedVariables false
set_option linter.unusedSimpArgs false
namespace Go.Proofs.Ytkhmefingpocpaa
open Go Go.Lift

/-! ### MulDiv -/

def mulDiv (c num den m : Int) : Int × Int × Unit :=
  if ¬ (0 ≤ m ∧ m ≤ 5) then (0, 1, ()) else if den = 0 then (0, 12, ()) else if 1000000000000000 < (c.natAbs : Int) ∨ 1000000000 < (num.natAbs : Int) ∨ 1000000000 < (den.natAbs : Int) then (0, 3, ()) else
  let a : Int := (c.natAbs : Int) * num.natAbs; let b : Int := den.natAbs; let neg := !((!((decide (c < 0)) == (decide (num < 0)))) == (decide (den < 0)))
  let q := if up (a / b) (a % b) b neg m then a / b + 1 else a / b
  if 1000000000000000 < q then (0, 3, ()) else (sgn neg q, 0, ())

theorem muldiv_facts {a x b : Int} (ha0 : 0 ≤ a) (ha : a ≤ 1000000000000000) (hx0 : 0 ≤ x) (hx : x ≤ 1000000000) (hb0 : 0 < b) (hb : b ≤ 1000000000) :
    0 ≤ a * x ∧ a * x ≤ 1000000000000000000000000 ∧ 0 ≤ a * x / b ∧ a * x / b * b ≤ a * x ∧ a * x < (a * x / b + 1) * b ∧ 0 ≤ a * x % b ∧ a * x % b < b ∧ a * x / b ≤ a * x := by
  have h1 : a * x ≤ 1000000000000000 * 1000000000 := Int.mul_le_mul ha hx hx0 (by omega)
  have h0 : 0 ≤ a * x := Int.mul_nonneg ha0 hx0
  exact ⟨h0, by omega, Int.ediv_nonneg h0 (by omega), Int.ediv_mul_le _ (by omega), Int.lt_ediv_add_one_mul_self _ hb0, Int.emod_nonneg _ (by omega), Int.emod_lt_of_pos _ hb0, Int.ediv_le_self _ h0⟩

theorem money_MulDiv_val {c num den : Int} (m : Int) (h1 : -9223372036854775808 ≤ c) (h2 : c ≤ 9223372036854775807) (h3 : -9223372036854775808 ≤ num) (h4 : num ≤ 9223372036854775807) (h5 : -9223372036854775808 ≤ den) (h6 : den ≤ 9223372036854775807) :
    money_MulDiv c num den m = some (mulDiv c num den m) := by
  simp only [money_MulDiv, money_MulDiv.Se, money_MulDiv.J0_eq, money_MulDiv.SJ0, money_mode_val, money_abs_val h1 h2, money_abs_val h3 h4, money_abs_val h5 h6, Option.bind_some, cond_true, cond_false, Bool.and_true, Bool.true_and, Bool.and_false, Bool.false_and, Bool.and_self, Bool.not_true, Bool.not_false, mulDiv, Bool.cond_eq_ite, beq_iff_eq, bne_iff_ne, ne_eq, decide_eq_true_eq, Bool.not_eq_true', decide_eq_false_iff_not, Bool.and_eq_true, Bool.or_eq_true]
  split
  · rfl
  · split
    · rfl
    · split
      · rw [if_pos (by omega)]
      · split
        · rw [if_pos (by omega)]
        · split
          · rw [if_pos (by omega)]
          · rename_i g1 g2 g3 g4 g5
            rw [if_neg (show ¬ (1000000000000000 < (c.natAbs : Int) ∨ 1000000000 < (num.natAbs : Int) ∨ 1000000000 < (den.natAbs : Int)) by omega)]
            obtain ⟨f1, f2, f3, f4, f5, f6, f7, f8⟩ := muldiv_facts (a := c.natAbs) (x := num.natAbs) (b := den.natAbs) (by omega) (by omega) (by omega) (by omega) (by omega) (by omega)
            rw [Mul64_val (by omega) (by omega) (by omega) (by omega)]
            simp only [Option.bind_some]
            generalize (c.natAbs : Int) * num.natAbs = A at *
            generalize hB : (den.natAbs : Int) = B at *
            have hbig : ∀ k : Int, k ≤ A / B → k * B ≤ A := fun k hk => by
              have := Int.mul_le_mul_of_nonneg_right hk (show 0 ≤ B by omega)
              omega
            by_cases hh : A / 18446744073709551616 ≥ B
            · have hq : 18446744073709551616 ≤ A / B := Int.le_ediv_of_mul_le (by omega) (by omega)
              rw [if_pos hh, if_pos (by split <;> omega)]
            · rw [if_neg hh, Div64_val (by omega) (by omega) (by omega) (by omega) (by omega), show A / 18446744073709551616 * 18446744073709551616 + A % 18446744073709551616 = A by omega]
              simp only [Option.bind_some]
              by_cases hq : A / B > 1000000000000000
              · rw [if_pos hq, if_pos (by split <;> omega)]
              · rw [if_neg hq, money_round_val _ _ f3 (by omega) f6 f7 (by omega)]
                simp only [Option.bind_some]
                generalize hQ : (if up (A / B) (A % B) B (!((!((decide (c < 0)) == (decide (num < 0)))) == (decide (den < 0)))) m = true then A / B + 1 else A / B) = Q
                have hQ0 : 0 ≤ Q := by rw [← hQ]; split <;> omega
                by_cases hq' : Q > 1000000000000000
                · rw [if_pos hq', if_pos hq']
                · rw [if_neg hq', if_neg hq', money_signed_val _ hQ0 (by omega)]
                  rfl

theorem ref02_MulDiv_val {c num den : Int} (m : Int) : ref02_MulDiv c num den m = some (mulDiv c num den m) := by
  simp only [ref02_MulDiv, ref02_MulDiv.Se, ref02_MulDiv.J0_eq, ref02_MulDiv.SJ0, ref02_Mode_val, ref02_Beyond_val (n := c) (b := 1000000000000000) (by omega) (by omega), ref02_Beyond_val (n := num) (b := 1000000000) (by omega) (by omega), ref02_Beyond_val (n := den) (b := 1000000000) (by omega) (by omega), Option.bind_some, cond_true, cond_false, Bool.and_true, Bool.true_and, Bool.and_false, Bool.false_and, Bool.and_self, Bool.not_true, Bool.not_false, mulDiv, Bool.cond_eq_ite, beq_iff_eq, bne_iff_ne, ne_eq, decide_eq_true_eq, Bool.not_eq_true', decide_eq_false_iff_not, Bool.and_eq_true, Bool.or_eq_true]
  split
  · rfl
  · split
    · rfl
    · split
      · rw [if_pos (by omega)]
      · split
        · rw [if_pos (by omega)]
        · split
          · rw [if_pos (by omega)]
          · rename_i g1 g2 g3 g4 g5
            rw [if_neg (show ¬ (1000000000000000 < (c.natAbs : Int) ∨ 1000000000 < (num.natAbs : Int) ∨ 1000000000 < (den.natAbs : Int)) by omega)]
            obtain ⟨f1, f2, f3, f4, f5, f6, f7, f8⟩ := muldiv_facts (a := c.natAbs) (x := num.natAbs) (b := den.natAbs) (by omega) (by omega) (by omega) (by omega) (by omega) (by omega)
            rw [ref02_Abs_val (by omega) (by omega), ref02_Abs_val (by omega) (by omega), ref02_Abs_val (by omega) (by omega)]
            simp only [Option.bind_some]
            generalize hneg : (!((!((decide (c < 0)) == (decide (num < 0)))) == (decide (den < 0)))) = neg
            obtain ⟨a, ha⟩ : ∃ a : Int, (c.natAbs : Int) = a := ⟨_, rfl⟩
            obtain ⟨x, hx⟩ : ∃ a : Int, (num.natAbs : Int) = a := ⟨_, rfl⟩
            obtain ⟨b, hb⟩ : ∃ a : Int, (den.natAbs : Int) = a := ⟨_, rfl⟩
            simp only [ha, hx, hb] at f1 f2 f3 f4 f5 f6 f7 f8
            simp only [ha, hx, hb]
            have a0 : 0 ≤ a ∧ a ≤ 1000000000000000 := by omega
            have x0 : 0 ≤ x ∧ x ≤ 1000000000 := by omega
            have b0 : 0 < b ∧ b ≤ 1000000000 := by omega
            have e1 : a = a / b * b + a % b := by
              have := Int.emod_add_mul_ediv a b
              have e : b * (a / b) = a / b * b := Int.mul_comm _ _
              omega
            have r0 : 0 ≤ a % b := Int.emod_nonneg _ (by omega)
            have r1 : a % b < b := Int.emod_lt_of_pos _ b0.1
            have q0 : 0 ≤ a / b := Int.ediv_nonneg a0.1 (by omega)
            have q1 : a / b ≤ a := Int.ediv_le_self _ a0.1
            have l0 : 0 ≤ a % b * x := Int.mul_nonneg r0 x0.1
            have l1 : a % b * x ≤ 1000000000 * 1000000000 := Int.mul_le_mul (by omega) x0.2 x0.1 (by omega)
            have e2 : a * x = a / b * x * b + a % b * x := by
              have : a * x = (a / b * b + a % b) * x := by rw [← e1]
              rw [this]; grind
            have e3 : a * x / b = a / b * x + a % b * x / b := by
              rw [e2, Int.add_comm, Int.add_mul_ediv_right _ _ (by omega), Int.add_comm]
            have e4 : a * x % b = a % b * x % b := by
              rw [e2, Int.add_comm, Int.add_mul_emod_self_right]
            have d0 : 0 ≤ a % b * x / b := Int.ediv_nonneg l0 (by omega)
            have d1 : a % b * x / b ≤ a % b * x := Int.ediv_le_self _ l0
            have qx0 : 0 ≤ a / b * x := Int.mul_nonneg q0 x0.1
            have J1 : ∀ hle : a / b * x ≤ 1000000000000000, (ref02_MulDiv.J1 c num den m a x b) = some (if 1000000000000000 < (if up (a * x / b) (a * x % b) b neg m = true then a * x / b + 1 else a * x / b) then (0, 3, ()) else (sgn neg (if up (a * x / b) (a * x % b) b neg m = true then a * x / b + 1 else a * x / b), 0, ())) := by
              intro hle
              rw [ref02_MulDiv.J1_eq, ref02_MulDiv.SJ1, hneg, decide_eq_false (show ¬ b = 0 by omega)]
              simp only [cond_false]
              rw [IntWalk.i64_quo a b ⟨a0.1, by omega, by omega⟩, tmod_pos a0.1, wrap64 (n := a / b * x) (by omega) (by omega), wrap64 (n := a % b * x) (by omega) (by omega), IntWalk.i64_quo _ b ⟨l0, by omega, by omega⟩, tmod_pos l0, wrap64 (by omega) (by omega),
                ← e3, ← e4, ref02_Rounded_val _ _ f3 (by omega) f6 f7 (by omega)]
              simp only [Option.bind_some]
              generalize hQ : (if up (a * x / b) (a * x % b) b neg m = true then a * x / b + 1 else a * x / b) = Q
              have hQ0 : 0 ≤ Q := by rw [← hQ]; split <;> omega
              have hs : ((sgn neg Q).natAbs : Int) = Q := sgn_natAbs neg hQ0
              rw [ref02_Beyond_val (by omega) (by omega), hs]
              simp only [Option.bind_some]
              by_cases hq : 1000000000000000 < Q
              · rw [decide_eq_true hq, if_pos hq]; rfl
              · rw [decide_eq_false hq, if_neg hq]; rfl
            rw [if_neg (show ¬ b = 0 by omega)]
            by_cases hx1 : x > 0
            · rw [if_pos hx1, if_neg (show ¬ x = 0 by omega), IntWalk.i64_quo a b ⟨a0.1, by omega, by omega⟩, IntWalk.i64_quo 1000000000000000 x ⟨by omega, by omega, by omega⟩]
              by_cases hov : a / b > 1000000000000000 / x
              · rw [if_pos hov, if_pos]
                have h1 : 1000000000000000 < (1000000000000000 / x + 1) * x := Int.lt_ediv_add_one_mul_self _ hx1
                have h2 : (1000000000000000 / x + 1) * x ≤ a / b * x := Int.mul_le_mul_of_nonneg_right (by omega) (by omega)
                split <;> omega
              · rw [if_neg hov]
                refine J1 ?_
                have h1 : 1000000000000000 / x * x ≤ 1000000000000000 := Int.ediv_mul_le _ (by omega)
                have h2 : a / b * x ≤ 1000000000000000 / x * x := Int.mul_le_mul_of_nonneg_right (by omega) (by omega)
                omega
            · rw [if_neg hx1]
              have : x = 0 := by omega
              exact J1 (by rw [this]; simp)

theorem moneyMulDiv_true (awake : law02_awake = some (true, ())) {c num den m : Int} (hc : Ty.okv (.int .i64) c) (hn : Ty.okv (.int .i64) num) (hd : Ty.okv (.int .i64) den) : law02_MoneyMulDiv c num den m = some (true, ()) := by
  rw [okv_i64] at hc hn hd
  simp only [law02_MoneyMulDiv, law02_MoneyMulDiv.Se, money_MulDiv_val m hc.1 hc.2 hn.1 hn.2 hd.1 hd.2, ref02_MulDiv_val m, awake, Option.bind_some, beq_self_eq_true, cond_true]

end Go.Proofs.Ytkhmefingpocpaa
