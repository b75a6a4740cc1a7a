import Derived.Test.YtdkglohjlfoncaaPSortV
set_option maxRecDepth 100000
set_option linter.unusedVariables false
set_option linter.unusedSimpArgs false
namespace Go.Proofs.Ytdkglohjlfoncaa
open Go Go.Lift
theorem npok : Brk.NPOK slices_nextPowerOfTwo := by
  intro n h1 h2
  have h63 : bitLen n ≤ 63 := by
    have := (bitLen_spec n).2 (by omega)
    rcases Nat.lt_or_ge 63 (bitLen n) with g | g
    · have h := Nat.pow_le_pow_right (n := 2) (by omega) (show 63 ≤ bitLen n - 1 by omega)
      have : (2 : Nat) ^ 63 = 9223372036854775808 := by decide
      omega
    · exact g
  have hp := (bitLen_spec n).2 (by omega)
  have hb : 1 ≤ bitLen n := by
    have := (bitLen_spec n).1
    rcases Nat.eq_zero_or_pos (bitLen n) with g | g
    · rw [g] at this; omega
    · exact g
  have e2 : (2 : Nat) ^ bitLen n = 2 * 2 ^ (bitLen n - 1) := by
    obtain ⟨k, hk⟩ : ∃ k, bitLen n = k + 1 := ⟨bitLen n - 1, by omega⟩
    rw [hk, Nat.pow_succ]; simp; omega
  refine ⟨2 ^ bitLen n, ?_, Nat.pos_of_ne_zero (by simp), by omega⟩
  simp only [slices_nextPowerOfTwo, slices_nextPowerOfTwo.Se, math_bits_Len, math_bits_Len.Se]
  rw [wrapU (by omega) (by omega), Len64_val (by omega) (by omega)]
  simp only [bind_some', Int.toNat_natCast]
  rw [cd_f (by omega), show min (bitLen n) IntKind.u64.bits = bitLen n from Nat.min_eq_left (show bitLen n ≤ 64 by omega)]
  have e3 : (1 : Int) * 2 ^ bitLen n = ((2 ^ bitLen n : Nat) : Int) := by simp
  rw [e3, wrapU (by omega) (by omega)]
theorem xorshift (r : Int) : ∃ v r', slices_xorshift_Next r = some (v, r', ()) := ⟨_, _, rfl⟩
end Go.Proofs.Ytdkglohjlfoncaa
