/- Plain laws of the lifted functions. -/
import Derived.Test.YtkhmefingpocpaaPBase
set_option maxRecDepth 100000
set_option linter.unusedVariables false
set_option linter.unusedSimpArgs false
namespace Go.Proofs.Ytkhmefingpocpaa
open Go Go.Lift

/-! ### Rounding -/

def up (q r d : Int) (neg : Bool) (m : Int) : Bool :=
  if m = 0 then neg && decide (0 < r) else if m = 1 then !neg && decide (0 < r) else if m = 3 then decide (0 < r) else if m = 4 then decide (d - r ≤ r)
  else if m = 5 then decide (d - r < r) || (decide (r = d - r) && decide (q % 2 = 1)) else false

def sgn (neg : Bool) (n : Int) : Int := if neg then -n else n

theorem money_mode_val (m : Int) : money_mode m = some (decide (0 ≤ m ∧ m ≤ 5), ()) := by
  simp only [money_mode, money_mode.Se, Bool.cond_eq_ite, beq_iff_eq, bne_iff_ne, ne_eq, decide_eq_true_eq, Bool.not_eq_true', decide_eq_false_iff_not, Bool.and_eq_true, Bool.or_eq_true]
  split
  all_goals first | rfl | omega | (simp only [Option.some.injEq, Prod.mk.injEq, and_true, true_and, decide_eq_decide, Bool.beq_eq_decide_eq, false_eq_decide_iff, true_eq_decide_iff, decide_eq_false_iff_not, decide_eq_true_eq, ← Bool.decide_and, ← Bool.decide_or, ← decide_not, bne]; omega) | (simp; done) | (simp; omega) | (simp_all; done) | (simp_all; omega)

theorem ref02_Mode_val (m : Int) : ref02_Mode m = some (decide (0 ≤ m ∧ m ≤ 5), ()) := by
  simp only [ref02_Mode, ref02_Mode.Se, Bool.cond_eq_ite, beq_iff_eq, bne_iff_ne, ne_eq, decide_eq_true_eq, Bool.not_eq_true', decide_eq_false_iff_not, Bool.and_eq_true, Bool.or_eq_true]
  split
  all_goals first | rfl | omega | (simp only [Option.some.injEq, Prod.mk.injEq, and_true, true_and, decide_eq_decide, Bool.beq_eq_decide_eq, false_eq_decide_iff, true_eq_decide_iff, decide_eq_false_iff_not, decide_eq_true_eq, ← Bool.decide_and, ← Bool.decide_or, ← decide_not, bne]; omega) | (simp; done) | (simp; omega) | (simp_all; done) | (simp_all; omega)

theorem money_abs_val {n : Int} (h1 : -9223372036854775808 ≤ n) (h2 : n ≤ 9223372036854775807) : money_abs n = some ((n.natAbs : Int), ()) := by
  simp only [money_abs, money_abs.Se, Bool.cond_eq_ite, beq_iff_eq, bne_iff_ne, ne_eq, decide_eq_true_eq, Bool.not_eq_true', decide_eq_false_iff_not, Bool.and_eq_true, Bool.or_eq_true, u64_eq]
  split
  · congr 2; omega
  · congr 2; omega

theorem ref02_Abs_val {n : Int} (h1 : -9223372036854775807 ≤ n) (h2 : n ≤ 9223372036854775807) : ref02_Abs n = some ((n.natAbs : Int), ()) := by
  simp only [ref02_Abs, ref02_Abs.Se, Bool.cond_eq_ite, beq_iff_eq, bne_iff_ne, ne_eq, decide_eq_true_eq, Bool.not_eq_true', decide_eq_false_iff_not, Bool.and_eq_true, Bool.or_eq_true, i64_eq]
  split
  · congr 2; omega
  · congr 2; omega

theorem ref02_Beyond_val {n b : Int} (h1 : 0 ≤ b) (h2 : b ≤ 9223372036854775807) : ref02_Beyond n b = some (decide (b < n.natAbs), ()) := by
  simp only [ref02_Beyond, ref02_Beyond.Se, Bool.cond_eq_ite, beq_iff_eq, bne_iff_ne, ne_eq, decide_eq_true_eq, Bool.not_eq_true', decide_eq_false_iff_not, Bool.and_eq_true, Bool.or_eq_true, i64_eq]
  split
  · rw [decide_eq_true (by omega)]
  · congr 2
    rw [decide_eq_decide]
    omega

theorem money_signed_val {n : Int} (neg : Bool) (h1 : 0 ≤ n) (h2 : n ≤ 9223372036854775807) : money_signed n neg = some (sgn neg n, ()) := by
  simp only [money_signed, money_signed.Se, sgn, i64_eq]
  cases neg
  · simp only [cond_false]; congr 2; rw [if_neg (by simp)]; omega
  · simp only [cond_true]; congr 2; rw [if_pos trivial]; omega

theorem money_round_val {q r d : Int} (neg : Bool) (m : Int) (hq : 0 ≤ q) (hq2 : q ≤ 9223372036854775806) (hr : 0 ≤ r) (hrd : r < d) (hd : d ≤ 9223372036854775807) :
    money_round q r d neg m = some (if up q r d neg m then q + 1 else q, ()) := by
  have e1 : IntKind.u64.wrap (q + 1) = q + 1 := wrapU (by omega) (by omega)
  have e2 : IntKind.u64.wrap (d - r) = d - r := wrapU (by omega) (by omega)
  have e3 : Int.tmod q 2 = q % 2 := tmod_pos hq
  by_cases h0 : m = 0
  · subst h0
    cases neg <;> by_cases g : 0 < r <;> simp [money_round, money_round.Se, up, e1, e2, e3, g]
  by_cases h1 : m = 1
  · subst h1
    cases neg <;> by_cases g : 0 < r <;> simp [money_round, money_round.Se, up, e1, e2, e3, g]
  by_cases h3 : m = 3
  · subst h3
    cases neg <;> by_cases g : 0 < r <;> simp [money_round, money_round.Se, up, e1, e2, e3, g]
  by_cases h4 : m = 4
  · subst h4
    cases neg <;> by_cases g : d - r ≤ r <;> simp [money_round, money_round.Se, up, e1, e2, e3, g]
  by_cases h5 : m = 5
  · subst h5
    by_cases g : d - r < r
    · cases neg <;> simp [money_round, money_round.Se, up, e1, e2, e3, g]
    · by_cases g' : r = d - r
      · have g2 : ((r == d - r) : Bool) = true := beq_iff_eq.2 g'
        rcases Int.emod_two_eq q with k | k <;> cases neg <;> simp [money_round, money_round.Se, up, e1, e2, e3, g, g2, decide_eq_true g', k]
      · have g2 : ((r == d - r) : Bool) = false := beq_eq_false_iff_ne.2 g'
        cases neg <;> simp [money_round, money_round.Se, up, e1, e2, e3, g, g2, decide_eq_false g']
  cases neg <;> simp [money_round, money_round.Se, up, e1, e2, e3, h0, h1, h3, h4, h5, Bool.cond_eq_ite]

theorem ref02_Rounded_val {q r d : Int} (neg : Bool) (m : Int) (hq : 0 ≤ q) (hq2 : q ≤ 9223372036854775806) (hr : 0 ≤ r) (hrd : r < d) (hd : d ≤ 9223372036854775807) :
    ref02_Rounded q r d neg m = some (sgn neg (if up q r d neg m then q + 1 else q), ()) := by
  have e1 : IntKind.i64.wrap (q + 1) = q + 1 := wrap64 (by omega) (by omega)
  have e2 : IntKind.i64.wrap (d - r) = d - r := wrap64 (by omega) (by omega)
  have e3 : Int.tmod q 2 = q % 2 := tmod_pos hq
  have e4 : IntKind.i64.wrap (0 - q) = -q := by rw [wrap64 (by omega) (by omega)]; omega
  have e5 : IntKind.i64.wrap (0 - (q + 1)) = -(q + 1) := by rw [wrap64 (by omega) (by omega)]; omega
  have e6 : IntKind.i64.wrap (-q) = -q := wrap64 (by omega) (by omega)
  have e7 : IntKind.i64.wrap (-(q + 1)) = -(q + 1) := wrap64 (by omega) (by omega)
  by_cases h0 : m = 0
  · subst h0
    cases neg <;> by_cases g : 0 < r <;> simp [ref02_Rounded, ref02_Rounded.Se, ref02_Rounded.J0_eq, ref02_Rounded.SJ0, up, e1, e2, e3, e4, e5, e6, e7, sgn, g]
  by_cases h1 : m = 1
  · subst h1
    cases neg <;> by_cases g : 0 < r <;> simp [ref02_Rounded, ref02_Rounded.Se, ref02_Rounded.J0_eq, ref02_Rounded.SJ0, up, e1, e2, e3, e4, e5, e6, e7, sgn, g]
  by_cases h3 : m = 3
  · subst h3
    cases neg <;> by_cases g : 0 < r <;> simp [ref02_Rounded, ref02_Rounded.Se, ref02_Rounded.J0_eq, ref02_Rounded.SJ0, up, e1, e2, e3, e4, e5, e6, e7, sgn, g]
  by_cases h4 : m = 4
  · subst h4
    cases neg <;> by_cases g : d - r ≤ r <;> simp [ref02_Rounded, ref02_Rounded.Se, ref02_Rounded.J0_eq, ref02_Rounded.SJ0, up, e1, e2, e3, e4, e5, e6, e7, sgn, g]
  by_cases h5 : m = 5
  · subst h5
    by_cases g : d - r < r
    · cases neg <;> simp [ref02_Rounded, ref02_Rounded.Se, ref02_Rounded.J0_eq, ref02_Rounded.SJ0, up, e1, e2, e3, e4, e5, e6, e7, sgn, g]
    · by_cases g' : r = d - r
      · have g2 : ((r == d - r) : Bool) = true := beq_iff_eq.2 g'
        rcases Int.emod_two_eq q with k | k <;> cases neg <;> simp [ref02_Rounded, ref02_Rounded.Se, ref02_Rounded.J0_eq, ref02_Rounded.SJ0, up, e1, e2, e3, e4, e5, e6, e7, sgn, g, g2, decide_eq_true g', k]
      · have g2 : ((r == d - r) : Bool) = false := beq_eq_false_iff_ne.2 g'
        cases neg <;> simp [ref02_Rounded, ref02_Rounded.Se, ref02_Rounded.J0_eq, ref02_Rounded.SJ0, up, e1, e2, e3, e4, e5, e6, e7, sgn, g, g2, decide_eq_false g']
  cases neg <;> simp [ref02_Rounded, ref02_Rounded.Se, ref02_Rounded.J0_eq, ref02_Rounded.SJ0, up, e1, e2, e3, e4, e5, e6, e7, sgn, h0, h1, h3, h4, h5, Bool.cond_eq_ite]

/-- The rounded quotient. -/
def divR (n d m : Int) : Int :=
  let a : Int := n.natAbs; let b : Int := d.natAbs; let neg := !((decide (n < 0)) == (decide (d < 0)))
  sgn neg (if up (a / b) (a % b) b neg m then a / b + 1 else a / b)

def divRound (n d m : Int) : Int × Int × Unit :=
  if ¬ (0 ≤ m ∧ m ≤ 5) then (0, 1, ()) else if d = 0 then (0, 12, ()) else if 4611686018427387904 < (n.natAbs : Int) ∨ 4611686018427387904 < (d.natAbs : Int) then (0, 3, ()) else (divR n d m, 0, ())

theorem div_facts (n d : Int) (hd : d ≠ 0) (hn : (n.natAbs : Int) ≤ 4611686018427387904) (h2 : (d.natAbs : Int) ≤ 4611686018427387904) :
    0 ≤ (n.natAbs : Int) / d.natAbs ∧ (n.natAbs : Int) / d.natAbs ≤ n.natAbs ∧ 0 ≤ (n.natAbs : Int) % d.natAbs ∧ (n.natAbs : Int) % d.natAbs < d.natAbs ∧ (0 : Int) < d.natAbs := by
  have h0 : (0 : Int) < d.natAbs := by omega
  exact ⟨Int.ediv_nonneg (by omega) (by omega), Int.ediv_le_self _ (by omega), Int.emod_nonneg _ (by omega), Int.emod_lt_of_pos _ h0, h0⟩

theorem money_DivRound_val {n d : Int} (m : Int) (h1 : -9223372036854775808 ≤ n) (h2 : n ≤ 9223372036854775807) (h3 : -9223372036854775808 ≤ d) (h4 : d ≤ 9223372036854775807) :
    money_DivRound n d m = some (divRound n d m) := by
  simp only [money_DivRound, money_DivRound.Se, money_DivRound.J0_eq, money_DivRound.SJ0, money_mode_val, money_abs_val h1 h2, money_abs_val h3 h4, Option.bind_some, cond_true, cond_false, Bool.and_true, Bool.true_and, Bool.and_false, Bool.false_and, Bool.and_self, Bool.not_true, Bool.not_false, divRound, Bool.cond_eq_ite, beq_iff_eq, bne_iff_ne, ne_eq, decide_eq_true_eq, Bool.not_eq_true', decide_eq_false_iff_not, Bool.and_eq_true, Bool.or_eq_true]
  split
  · rfl
  · split
    · rfl
    · split
      · rw [if_pos (by omega)]
      · split
        · rw [if_pos (by omega)]
        · rename_i g1 g2 g3 g4
          rw [if_neg (by omega)]
          obtain ⟨k1, k2, k3, k4, k5⟩ := div_facts n d g2 (by omega) (by omega)
          rw [if_neg (by omega), if_neg (by omega), IntWalk.u64_quo _ _ ⟨by omega, by omega, by omega⟩, tmod_pos (by omega), money_round_val _ _ k1 (by omega) k3 k4 (by omega), Option.bind_some,
            money_signed_val _ (by split <;> omega) (by split <;> omega)]
          rfl

theorem ref02_DivRound_val {n d : Int} (m : Int) (h1 : -9223372036854775808 ≤ n) (h2 : n ≤ 9223372036854775807) (h3 : -9223372036854775808 ≤ d) (h4 : d ≤ 9223372036854775807) :
    ref02_DivRound n d m = some (divRound n d m) := by
  simp only [ref02_DivRound, ref02_DivRound.Se, ref02_DivRound.J0_eq, ref02_DivRound.SJ0, ref02_Mode_val, ref02_Beyond_val (n := n) (b := 4611686018427387904) (by omega) (by omega), ref02_Beyond_val (n := d) (b := 4611686018427387904) (by omega) (by omega), Option.bind_some, cond_true, cond_false, Bool.and_true, Bool.true_and, Bool.and_false, Bool.false_and, Bool.and_self, Bool.not_true, Bool.not_false, divRound, Bool.cond_eq_ite, beq_iff_eq, bne_iff_ne, ne_eq, decide_eq_true_eq, Bool.not_eq_true', decide_eq_false_iff_not, Bool.and_eq_true, Bool.or_eq_true]
  split
  · rfl
  · split
    · rfl
    · split
      · rw [if_pos (by omega)]
      · split
        · rw [if_pos (by omega)]
        · rename_i g1 g2 g3 g4
          rw [if_neg (by omega)]
          obtain ⟨k1, k2, k3, k4, k5⟩ := div_facts n d g2 (by omega) (by omega)
          rw [ref02_Abs_val (by omega) (by omega), ref02_Abs_val (by omega) (by omega)]
          simp only [Option.bind_some]
          rw [if_neg (by omega), if_neg (by omega), IntWalk.i64_quo _ _ ⟨by omega, by omega, by omega⟩, tmod_pos (by omega), ref02_Rounded_val _ _ k1 (by omega) k3 k4 (by omega)]
          rfl

theorem moneyDivRound_true (awake : law02_awake = some (true, ())) {n d m : Int} (hn : Ty.okv (.int .i64) n) (hd : Ty.okv (.int .i64) d) : law02_MoneyDivRound n d m = some (true, ()) := by
  rw [okv_i64] at hn hd
  simp only [law02_MoneyDivRound, law02_MoneyDivRound.Se, money_DivRound_val m hn.1 hn.2 hd.1 hd.2, ref02_DivRound_val m hn.1 hn.2 hd.1 hd.2, awake, Option.bind_some, beq_self_eq_true, cond_true]

end Go.Proofs.Ytkhmefingpocpaa
