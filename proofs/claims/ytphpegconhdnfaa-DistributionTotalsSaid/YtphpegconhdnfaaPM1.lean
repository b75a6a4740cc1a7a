import Derived.Test.YtphpegconhdnfaaPB
set_option maxRecDepth 100000
set_option linter.unusedVariables false
set_option linter.unusedSimpArgs false
namespace Go.Proofs.Ytphpegconhdnfaa
open Go Go.Lift
theorem money_abs_val {n : Int} (h1 : -9223372036854775808 ≤ n) (h2 : n ≤ 9223372036854775807) : money_abs n = some ((n.natAbs : Int), ()) := by
  simp only [money_abs, money_abs.Se, Bool.cond_eq_ite, beq_iff_eq, bne_iff_ne, ne_eq, decide_eq_true_eq, Bool.not_eq_true', decide_eq_false_iff_not, Bool.and_eq_true, Bool.or_eq_true, u64_eq]
  split
  · congr 2; omega
  · congr 2; omega
theorem ref02_Abs_val {n : Int} (h1 : -9223372036854775807 ≤ n) (h2 : n ≤ 9223372036854775807) : ref02_Abs n = some ((n.natAbs : Int), ()) := by
  simp only [ref02_Abs, ref02_Abs.Se, Bool.cond_eq_ite, beq_iff_eq, bne_iff_ne, ne_eq, decide_eq_true_eq, Bool.not_eq_true', decide_eq_false_iff_not, Bool.and_eq_true, Bool.or_eq_true, i64_eq]
  split
  · congr 2; omega
  · congr 2; omega
theorem ref02_Beyond_val {n b : Int} (h1 : 0 ≤ b) (h2 : b ≤ 9223372036854775807) : ref02_Beyond n b = some (decide (b < n.natAbs), ()) := by
  simp only [ref02_Beyond, ref02_Beyond.Se, Bool.cond_eq_ite, beq_iff_eq, bne_iff_ne, ne_eq, decide_eq_true_eq, Bool.not_eq_true', decide_eq_false_iff_not, Bool.and_eq_true, Bool.or_eq_true, i64_eq]
  split
  · rw [decide_eq_true (by omega)]
  · congr 2
    rw [decide_eq_decide]
    omega
end Go.Proofs.Ytphpegconhdnfaa
