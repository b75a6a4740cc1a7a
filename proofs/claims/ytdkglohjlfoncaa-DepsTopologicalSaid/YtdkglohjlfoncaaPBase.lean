import Derived.Test.YtdkglohjlfoncaaCode3
set_option maxRecDepth 100000
set_option linter.unusedVariables false
set_option linter.unusedSimpArgs false
namespace Go.Proofs.Ytdkglohjlfoncaa
open Go Go.Lift
/-- The examples of the chapter. -/
theorem awake_ok : law16_awake = some (true, ()) := law16_awake.sigc_le 60 () (true, ()) (by kernel_rfl)
def tab8 : List UInt8 := [0, 1, 2, 2, 3, 3, 3, 3, 4, 4, 4, 4, 4, 4, 4, 4, 5, 5, 5, 5, 5, 5, 5, 5, 5, 5, 5, 5, 5, 5, 5, 5, 6, 6, 6, 6, 6, 6, 6, 6, 6, 6, 6, 6, 6, 6, 6, 6, 6, 6, 6, 6, 6, 6, 6, 6, 6, 6, 6, 6, 6, 6, 6, 6, 7, 7, 7, 7, 7, 7, 7, 7, 7, 7, 7, 7, 7, 7, 7, 7, 7, 7, 7, 7, 7, 7, 7, 7, 7, 7, 7, 7, 7, 7, 7, 7, 7, 7, 7, 7, 7, 7, 7, 7, 7, 7, 7, 7, 7, 7, 7, 7, 7, 7, 7, 7, 7, 7, 7, 7, 7, 7, 7, 7, 7, 7, 7, 7, 8, 8, 8, 8, 8, 8, 8, 8, 8, 8, 8, 8, 8, 8, 8, 8, 8, 8, 8, 8, 8, 8, 8, 8, 8, 8, 8, 8, 8, 8, 8, 8, 8, 8, 8, 8, 8, 8, 8, 8, 8, 8, 8, 8, 8, 8, 8, 8, 8, 8, 8, 8, 8, 8, 8, 8, 8, 8, 8, 8, 8, 8, 8, 8, 8, 8, 8, 8, 8, 8, 8, 8, 8, 8, 8, 8, 8, 8, 8, 8, 8, 8, 8, 8, 8, 8, 8, 8, 8, 8, 8, 8, 8, 8, 8, 8, 8, 8, 8, 8, 8, 8, 8, 8, 8, 8, 8, 8, 8, 8, 8, 8, 8, 8, 8, 8, 8, 8, 8, 8, 8, 8, 8, 8, 8, 8, 8, 8]
theorem tab8_get (i : Int) (h0 : 0 ≤ i) (h1 : i < 256) : ∃ v, idx tab8 i = some v ∧ v.toNat = bitLen i.toNat := by
  have all : ∀ j : Fin 256, ∃ v, tab8[j.val]? = some v ∧ v.toNat = bitLen j.val := by
    have : ∀ j : Fin 256, (match tab8[j.val]? with | some v => decide (v.toNat = bitLen j.val) | none => false) = true := by decide +kernel
    intro j
    have hj := this j
    cases h : tab8[j.val]? with
    | none => rw [h] at hj; cases hj
    | some v => rw [h] at hj; exact ⟨v, rfl, by simpa using hj⟩
  obtain ⟨v, g1, g2⟩ := all ⟨i.toNat, by omega⟩
  exact ⟨v, by rw [idx_of i.toNat (by omega)]; exact g1, g2⟩
theorem u8_eq (n : Int) : IntKind.u8.wrap n = n % 256 := IntKind.wrap_u8 n
theorem bitLen_div (x : Int) (b : Nat) (h0 : 0 ≤ x) (h : (2 : Int) ^ b ≤ x) : bitLen x.toNat = b + bitLen (x / 2 ^ b).toNat := by
  have e : (x / 2 ^ b).toNat = x.toNat / 2 ^ b := by
    obtain ⟨n, rfl⟩ := Int.eq_ofNat_of_zero_le h0
    have : ((2 : Int) ^ b) = ((2 ^ b : Nat) : Int) := by simp
    rw [this, ← Int.natCast_ediv, Int.toNat_natCast, Int.toNat_natCast]
  rw [e]
  refine bitLen_shift _ _ ?_
  have : 2 ^ b ≤ x.toNat := by
    have : ((2 ^ b : Nat) : Int) ≤ x := by simpa using h
    omega
  have := Nat.div_pos this (Nat.two_pow_pos b)
  omega
theorem Len64_J1 {x : Int} (n : Int) (h0 : 0 ≤ x) (h1 : x < 65536) (n0 : 0 ≤ n) (n1 : n ≤ 48) : math_bits_Len64.J1 x n = some (n + (bitLen x.toNat : Int), ()) := by
  rw [math_bits_Len64.J1_eq, math_bits_Len64.SJ1]
  have p8 : (2 : Int) ^ (min 8 IntKind.u64.bits) = 256 := by decide
  have f : ∀ z : Int, Int.fdiv z 256 = z / 256 := fun z => Int.fdiv_eq_ediv_of_nonneg z (by omega)
  have bl : ∀ i : Nat, i < 256 → bitLen i ≤ 8 := bitLen_le8
  by_cases h : x ≥ 256
  · obtain ⟨v, g1, g2⟩ := tab8_get (x / 256) (by omega) (by omega)
    have hl := bl (x / 256).toNat (by omega)
    have e := bitLen_div x 8 h0 (by simpa using h)
    rw [show ((2 : Int) ^ 8) = 256 from rfl] at e
    rw [decide_eq_true h, cond_true, p8, f, u8_eq, show x / 256 % 256 = x / 256 by omega]
    show Option.bind (idx tab8 (x / 256)) _ = _
    rw [g1, Option.bind_some, g2, wrap64 (n := n + 8) (by omega) (by omega), wrap64 (n := ((bitLen (x / 256).toNat : Nat) : Int)) (by omega) (by omega), wrap64 (by omega) (by omega), e]
    congr 2
    omega
  · obtain ⟨v, g1, g2⟩ := tab8_get x (by omega) (by omega)
    have hl := bl x.toNat (by omega)
    rw [decide_eq_false h, cond_false, u8_eq, show x % 256 = x by omega]
    show Option.bind (idx tab8 x) _ = _
    rw [g1, Option.bind_some, g2, wrap64 (n := ((bitLen x.toNat : Nat) : Int)) (by omega) (by omega), wrap64 (by omega) (by omega)]
theorem Len64_val {x : Int} (h0 : 0 ≤ x) (h1 : x ≤ 18446744073709551615) : math_bits_Len64 x = some ((bitLen x.toNat : Int), ()) := by
  have p32 : (2 : Int) ^ (min 32 IntKind.u64.bits) = 4294967296 := by decide
  have p16 : (2 : Int) ^ (min 16 IntKind.u64.bits) = 65536 := by decide
  have f : ∀ z : Int, Int.fdiv z 4294967296 = z / 4294967296 := fun z => Int.fdiv_eq_ediv_of_nonneg z (by omega)
  have f' : ∀ z : Int, Int.fdiv z 65536 = z / 65536 := fun z => Int.fdiv_eq_ediv_of_nonneg z (by omega)
  have J0 : ∀ (x n : Int), 0 ≤ x → x < 4294967296 → 0 ≤ n → n ≤ 32 → math_bits_Len64.J0 x n = some (n + (bitLen x.toNat : Int), ()) := by
    intro x n h0 h1 n0 n1
    rw [math_bits_Len64.J0_eq, math_bits_Len64.SJ0, p16, f']
    by_cases h : x ≥ 65536
    · have e := bitLen_div x 16 h0 (by simpa using h)
      rw [show ((2 : Int) ^ 16) = 65536 from rfl] at e
      rw [decide_eq_true h, cond_true, wrap64 (by omega) (by omega), Len64_J1 _ (by omega) (by omega) (by omega) (by omega), e]
      congr 2
      omega
    · rw [decide_eq_false h, cond_false, Len64_J1 _ (by omega) (by omega) (by omega) (by omega)]
  simp only [math_bits_Len64, math_bits_Len64.Se, p32, f]
  by_cases h : x ≥ 4294967296
  · have e := bitLen_div x 32 h0 (by simpa using h)
    rw [show ((2 : Int) ^ 32) = 4294967296 from rfl] at e
    rw [decide_eq_true h, cond_true, J0 _ _ (by omega) (by omega) (by omega) (by omega), e]
    congr 2
  · rw [decide_eq_false h, cond_false, J0 _ _ (by omega) (by omega) (by omega) (by omega)]
    congr 2
    omega
end Go.Proofs.Ytdkglohjlfoncaa
