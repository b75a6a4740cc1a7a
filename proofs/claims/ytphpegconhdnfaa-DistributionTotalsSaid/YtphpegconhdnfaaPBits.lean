import Derived.Test.YtphpegconhdnfaaPM1
set_option maxRecDepth 100000
set_option linter.unusedVariables false
set_option linter.unusedSimpArgs false
namespace Go.Proofs.Ytphpegconhdnfaa
open Go Go.Lift
theorem mask32 {z : Int} (h0 : 0 ≤ z) (h1 : z ≤ 18446744073709551615) : IntKind.u64.wrap (BitVec.ofInt IntKind.u64.bits z &&& BitVec.ofInt IntKind.u64.bits 4294967295).toNat = z % 4294967296 := and_low32 z h0 (by omega)
theorem Mul64_val {x y : Int} (hx0 : 0 ≤ x) (hx : x ≤ 18446744073709551615) (hy0 : 0 ≤ y) (hy : y ≤ 18446744073709551615) : math_bits_Mul64 x y = some (x * y / 18446744073709551616, x * y % 18446744073709551616, ()) := by
  have p32 : (2 : Int) ^ (min 32 IntKind.u64.bits) = 4294967296 := by decide
  have f : ∀ z : Int, Int.fdiv z 4294967296 = z / 4294967296 := fun z => Int.fdiv_eq_ediv_of_nonneg z (by omega)
  have nn : ∀ z : Int, 0 ≤ z % 18446744073709551616 ∧ z % 18446744073709551616 ≤ 18446744073709551615 := fun z => by omega
  simp only [math_bits_Mul64, math_bits_Mul64.Se, p32, f]
  simp only [mask32 hx0 hx, mask32 hy0 hy, u64_eq]
  rw [show ∀ z : Int, (((BitVec.ofInt IntKind.u64.bits (z % 18446744073709551616) &&& BitVec.ofInt IntKind.u64.bits 4294967295).toNat : Int)) % 18446744073709551616 = (z % 18446744073709551616) % 4294967296 from fun z => by
    rw [← u64_eq]; exact mask32 (nn z).1 (nn z).2]
  rw [mul64_arith x y hx0 (by omega) hy0 (by omega)]
theorem mul_low {a b : Int} (ha0 : 0 ≤ a) (ha : a < 4294967296) (hb0 : 0 ≤ b) (hb : b < 4294967296) : 0 ≤ a * b ∧ a * b ≤ 18446744065119617025 := prod_bound a b ha0 (by omega) hb0 (by omega)
/-- The loop that finds a digit of a quotient. -/
theorem Div64_L3 {y s yn1 yn0 un32 un1 un0 Q : Int} (hy : y = yn1 * 4294967296 + yn0) (h1 : 2147483648 ≤ yn1) (h1' : yn1 < 4294967296) (h0 : 0 ≤ yn0) (h0' : yn0 < 4294967296) (hu1 : 0 ≤ un1) (hu1' : un1 < 4294967296)
    (hQ : Q * y ≤ un32 * 4294967296 + un1) (hQ' : un32 * 4294967296 + un1 < (Q + 1) * y) (hQ0 : 0 ≤ Q) (hQB : Q < 4294967296) :
    ∀ (k : Nat) (q1 rhat : Int), q1 = Q + k → q1 ≤ 4294967297 → rhat = un32 - q1 * yn1 → 0 ≤ rhat → rhat < 4294967296 →
      math_bits_Div64.L3 y s yn1 yn0 un32 un1 un0 q1 rhat = math_bits_Div64.J2 y s yn1 yn0 un32 un1 un0 Q := by
  intro k
  induction k with
  | zero =>
    intro q1 rhat e1 e2 e3 r0 r1
    have : q1 = Q := by omega
    subst this
    obtain ⟨m0, m1⟩ := mul_low hQ0 hQB h0 h0'
    have hqy : q1 * y = q1 * yn1 * 4294967296 + q1 * yn0 := by rw [hy]; grind
    rw [math_bits_Div64.L3_eq, math_bits_Div64.SL3, decide_eq_false (by omega), cond_false, wrapU (n := q1 * yn0) (by omega) (by omega), wrapU (n := 4294967296 * rhat) (by omega) (by omega), wrapU (by omega) (by omega), decide_eq_false (by omega), cond_false]
  | succ k ih =>
    intro q1 rhat e1 e2 e3 r0 r1
    have hqy : q1 * y = q1 * yn1 * 4294967296 + q1 * yn0 := by rw [hy]; grind
    have hky : q1 * y = (Q + 1) * y + k * y := by rw [e1]; grind
    have hkn : 0 ≤ (k : Int) * y := Int.mul_nonneg (by omega) (by omega)
    have e3' : rhat + yn1 = un32 - (q1 - 1) * yn1 := by rw [e3]; grind
    have hgo : math_bits_Div64.L3 y s yn1 yn0 un32 un1 un0 q1 rhat = math_bits_Div64.J4 y s yn1 yn0 un32 un1 un0 q1 rhat := by
      rw [math_bits_Div64.L3_eq, math_bits_Div64.SL3]
      by_cases hB : q1 ≥ 4294967296
      · rw [decide_eq_true hB, cond_true]
      · obtain ⟨m0, m1⟩ := mul_low (show 0 ≤ q1 by omega) (by omega) h0 h0'
        rw [decide_eq_false hB, cond_false, wrapU (n := q1 * yn0) (by omega) (by omega), wrapU (n := 4294967296 * rhat) (by omega) (by omega), wrapU (by omega) (by omega), decide_eq_true (by omega), cond_true]
    rw [hgo, math_bits_Div64.J4_eq, math_bits_Div64.SJ4, wrapU (n := rhat + yn1) (by omega) (by omega), wrapU (n := q1 - 1) (by omega) (by omega)]
    by_cases hr : rhat + yn1 ≥ 4294967296
    · rw [decide_eq_true hr, cond_true]
      have hk : k = 0 := by
        rcases Nat.eq_zero_or_pos k with h | h
        · exact h
        · exfalso
          have f1 : (q1 - 1) * y = (q1 - 1) * yn1 * 4294967296 + (q1 - 1) * yn0 := by rw [hy]; grind
          have f2 : (q1 - 1) * y = (Q + 1) * y + ((k : Int) - 1) * y := by rw [e1]; grind
          have f3 : 0 ≤ ((k : Int) - 1) * y := Int.mul_nonneg (by omega) (by omega)
          have f4 : (q1 - 1) * yn0 ≤ 4294967296 * yn0 := Int.mul_le_mul_of_nonneg_right (by omega) h0
          omega
      subst hk
      rw [show q1 - 1 = Q by omega]
    · rw [decide_eq_false hr, cond_false]
      exact ih (q1 - 1) (rhat + yn1) (by omega) (by omega) e3' (by omega) (by omega)
theorem Div64_L6 {y s yn1 yn0 un0 q1 un21 Q : Int} (hy : y = yn1 * 4294967296 + yn0) (h1 : 2147483648 ≤ yn1) (h1' : yn1 < 4294967296) (h0 : 0 ≤ yn0) (h0' : yn0 < 4294967296) (hu1 : 0 ≤ un0) (hu1' : un0 < 4294967296)
    (hQ : Q * y ≤ un21 * 4294967296 + un0) (hQ' : un21 * 4294967296 + un0 < (Q + 1) * y) (hQ0 : 0 ≤ Q) (hQB : Q < 4294967296) :
    ∀ (k : Nat) (q0 rhat : Int), q0 = Q + k → q0 ≤ 4294967297 → rhat = un21 - q0 * yn1 → 0 ≤ rhat → rhat < 4294967296 →
      math_bits_Div64.L6 y s yn1 yn0 un0 q1 rhat un21 q0 = math_bits_Div64.J5 y s un0 q1 un21 Q := by
  intro k
  induction k with
  | zero =>
    intro q0 rhat e1 e2 e3 r0 r1
    have : q0 = Q := by omega
    subst this
    obtain ⟨m0, m1⟩ := mul_low hQ0 hQB h0 h0'
    have hqy : q0 * y = q0 * yn1 * 4294967296 + q0 * yn0 := by rw [hy]; grind
    rw [math_bits_Div64.L6_eq, math_bits_Div64.SL6, decide_eq_false (by omega), cond_false, wrapU (n := q0 * yn0) (by omega) (by omega), wrapU (n := 4294967296 * rhat) (by omega) (by omega), wrapU (by omega) (by omega), decide_eq_false (by omega), cond_false]
  | succ k ih =>
    intro q0 rhat e1 e2 e3 r0 r1
    have hqy : q0 * y = q0 * yn1 * 4294967296 + q0 * yn0 := by rw [hy]; grind
    have hky : q0 * y = (Q + 1) * y + k * y := by rw [e1]; grind
    have hkn : 0 ≤ (k : Int) * y := Int.mul_nonneg (by omega) (by omega)
    have e3' : rhat + yn1 = un21 - (q0 - 1) * yn1 := by rw [e3]; grind
    have hgo : math_bits_Div64.L6 y s yn1 yn0 un0 q1 rhat un21 q0 = math_bits_Div64.J7 y s yn1 yn0 un0 q1 rhat un21 q0 := by
      rw [math_bits_Div64.L6_eq, math_bits_Div64.SL6]
      by_cases hB : q0 ≥ 4294967296
      · rw [decide_eq_true hB, cond_true]
      · obtain ⟨m0, m1⟩ := mul_low (show 0 ≤ q0 by omega) (by omega) h0 h0'
        rw [decide_eq_false hB, cond_false, wrapU (n := q0 * yn0) (by omega) (by omega), wrapU (n := 4294967296 * rhat) (by omega) (by omega), wrapU (by omega) (by omega), decide_eq_true (by omega), cond_true]
    rw [hgo, math_bits_Div64.J7_eq, math_bits_Div64.SJ7, wrapU (n := rhat + yn1) (by omega) (by omega), wrapU (n := q0 - 1) (by omega) (by omega)]
    by_cases hr : rhat + yn1 ≥ 4294967296
    · rw [decide_eq_true hr, cond_true]
      have hk : k = 0 := by
        rcases Nat.eq_zero_or_pos k with h | h
        · exact h
        · exfalso
          have f1 : (q0 - 1) * y = (q0 - 1) * yn1 * 4294967296 + (q0 - 1) * yn0 := by rw [hy]; grind
          have f2 : (q0 - 1) * y = (Q + 1) * y + ((k : Int) - 1) * y := by rw [e1]; grind
          have f3 : 0 ≤ ((k : Int) - 1) * y := Int.mul_nonneg (by omega) (by omega)
          have f4 : (q0 - 1) * yn0 ≤ 4294967296 * yn0 := Int.mul_le_mul_of_nonneg_right (by omega) h0
          omega
      subst hk
      rw [show q0 - 1 = Q by omega]
    · rw [decide_eq_false hr, cond_false]
      exact ih (q0 - 1) (rhat + yn1) (by omega) (by omega) e3' (by omega) (by omega)
/-- The first guess of a digit. -/
theorem guess {y yn1 yn0 u v : Int} (hy : y = yn1 * 4294967296 + yn0) (h1 : 2147483648 ≤ yn1) (h1' : yn1 < 4294967296) (h0 : 0 ≤ yn0) (h0' : yn0 < 4294967296) (hu : 0 ≤ u) (huy : u < y) (hv : 0 ≤ v) (hv' : v < 4294967296) :
    ∃ (k : Nat) (Q : Int), Q = (u * 4294967296 + v) / y ∧ Q * y ≤ u * 4294967296 + v ∧ u * 4294967296 + v < (Q + 1) * y ∧ 0 ≤ Q ∧ Q < 4294967296 ∧ u / yn1 = Q + k ∧ u / yn1 ≤ 4294967297 ∧ u % yn1 = u - u / yn1 * yn1 ∧ 0 ≤ u % yn1 ∧ u % yn1 < 4294967296 := by
  have hy0 : 0 < y := by omega
  have q1 : (u * 4294967296 + v) / y * y ≤ u * 4294967296 + v := Int.ediv_mul_le _ (by omega)
  have q2 : u * 4294967296 + v < ((u * 4294967296 + v) / y + 1) * y := Int.lt_ediv_add_one_mul_self _ hy0
  have q3 : 0 ≤ (u * 4294967296 + v) / y := Int.ediv_nonneg (by omega) (by omega)
  have q4 : (u * 4294967296 + v) / y < 4294967296 := Int.ediv_lt_of_lt_mul hy0 (by omega)
  generalize (u * 4294967296 + v) / y = Q at *
  have m1 : u % yn1 = u - u / yn1 * yn1 := by
    have := Int.emod_add_mul_ediv u yn1
    have e : yn1 * (u / yn1) = u / yn1 * yn1 := Int.mul_comm _ _
    omega
  have m2 : 0 ≤ u % yn1 := Int.emod_nonneg _ (by omega)
  have m3 : u % yn1 < yn1 := Int.emod_lt_of_pos _ (by omega)
  have hqy : Q * y = Q * yn1 * 4294967296 + Q * yn0 := by rw [hy]; grind
  have hq0 : 0 ≤ Q * yn0 := Int.mul_nonneg q3 h0
  have hle : Q ≤ u / yn1 := Int.le_ediv_of_mul_le (by omega) (by omega)
  have hlt : u / yn1 < 4294967298 := Int.ediv_lt_of_lt_mul (by omega) (by omega)
  exact ⟨(u / yn1 - Q).toNat, Q, rfl, q1, q2, q3, q4, by omega, by omega, m1, m2, by omega⟩
theorem or_shift {a b : Int} {n : Nat} (hn : n ≤ 64) (ha0 : 0 ≤ a) (hb0 : 0 ≤ b) (hb : b < 2 ^ n) (hab : a * 2 ^ n + b ≤ 18446744073709551615) :
    IntKind.u64.wrap (BitVec.ofInt IntKind.u64.bits (a * 2 ^ n) ||| BitVec.ofInt IntKind.u64.bits b).toNat = a * 2 ^ n + b := by
  obtain ⟨x, rfl⟩ := Int.eq_ofNat_of_zero_le ha0
  obtain ⟨y, rfl⟩ := Int.eq_ofNat_of_zero_le hb0
  have p : ((2 : Int) ^ n) = ((2 ^ n : Nat) : Int) := by simp
  rw [p] at hb hab ⊢
  rw [← Int.natCast_mul] at hab ⊢
  have hy : y < 2 ^ n := by omega
  show bits .or .u64 ((x * 2 ^ n : Nat) : Int) (y : Int) = _
  rw [bits_or_u64_nat _ _ (by omega) (by omega), Nat.mul_comm x, ← Nat.two_pow_add_eq_or_of_lt hy x]
  simp
theorem Div64_val {hi lo y : Int} (h0 : 0 ≤ hi) (h1 : hi < y) (l0 : 0 ≤ lo) (l1 : lo ≤ 18446744073709551615) (y1 : y ≤ 18446744073709551615) :
    math_bits_Div64 hi lo y = some ((hi * 18446744073709551616 + lo) / y, (hi * 18446744073709551616 + lo) % y, ()) := by
  have hy0 : 0 < y := by omega
  simp only [math_bits_Div64, math_bits_Div64.Se, math_bits_Div64.J0_eq, math_bits_Div64.SJ0, math_bits_Div64.J1_eq, math_bits_Div64.SJ1]
  rw [show ((y == 0) : Bool) = false from beq_eq_false_iff_ne.2 (by omega), cond_false, decide_eq_false (by omega), cond_false]
  by_cases hz : hi = 0
  · subst hz
    simp only [beq_self_eq_true, cond_true]
    rw [decide_eq_false (by omega), cond_false, cond_false, IntWalk.u64_quo _ _ ⟨l0, by omega, by omega⟩, tmod_pos l0]
    simp
  rw [show ((hi == 0) : Bool) = false from beq_eq_false_iff_ne.2 hz, cond_false]
  simp only [math_bits_LeadingZeros64, math_bits_LeadingZeros64.Se, Len64_val (x := y) (by omega) (by omega), Option.bind_some]
  obtain ⟨b1, b2⟩ := bitLen_spec y.toNat
  have b2 := b2 (by omega)
  have hbl : bitLen y.toNat ≤ 64 := by
    rcases Nat.lt_or_ge 64 (bitLen y.toNat) with h | h
    · have : 2 ^ 64 ≤ 2 ^ (bitLen y.toNat - 1) := Nat.pow_le_pow_right (by omega) (by omega)
      have : (2 : Nat) ^ 64 = 18446744073709551616 := by decide
      omega
    · exact h
  have hbl1 : 1 ≤ bitLen y.toNat := by
    rcases Nat.eq_zero_or_pos (bitLen y.toNat) with h | h
    · rw [h] at b1; simp at b1; omega
    · exact h
  obtain ⟨s, hs⟩ : ∃ s, s = 64 - bitLen y.toNat := ⟨_, rfl⟩
  have ws : IntKind.u64.wrap (IntKind.i64.wrap (64 - (bitLen y.toNat : Int))) = (s : Int) := by
    rw [wrap64 (by omega) (by omega), wrapU (by omega) (by omega)]
    omega
  have ws' : IntKind.u64.wrap (64 - (s : Int)) = ((64 - s : Nat) : Int) := by
    rw [wrapU (by omega) (by omega)]
    omega
  rw [ws, ws']
  have bits64 : IntKind.u64.bits = 64 := rfl
  simp only [Int.toNat_natCast, bits64, Nat.min_eq_left (show s ≤ 64 by omega), Nat.min_eq_left (show 64 - s ≤ 64 by omega), show min 32 64 = 32 from rfl]
  rw [decide_eq_false (show ¬ (s : Int) < 0 by omega), decide_eq_false (show ¬ ((64 - s : Nat) : Int) < 0 by omega)]
  simp only [cond_false]
  -- powers
  obtain ⟨p, hp⟩ : ∃ p : Int, (2 : Int) ^ s = p := ⟨_, rfl⟩
  have hpN : ((2 ^ s : Nat) : Int) = p := by rw [← hp]; simp
  have hp1 : 1 ≤ p := by have := Nat.two_pow_pos s; omega
  have hY1 : y * p ≤ 18446744073709551615 := by
    have : y.toNat * 2 ^ s < 2 ^ bitLen y.toNat * 2 ^ s := Nat.mul_lt_mul_of_pos_right b1 (Nat.two_pow_pos s)
    rw [← Nat.pow_add, show bitLen y.toNat + s = 64 by omega, show (2 : Nat) ^ 64 = 18446744073709551616 by decide] at this
    have e : ((y.toNat * 2 ^ s : Nat) : Int) = y * p := by rw [Int.natCast_mul, hpN]; congr 1; omega
    omega
  have hY0 : 9223372036854775808 ≤ y * p := by
    have : 2 ^ (bitLen y.toNat - 1) * 2 ^ s ≤ y.toNat * 2 ^ s := Nat.mul_le_mul_right _ b2
    rw [← Nat.pow_add, show bitLen y.toNat - 1 + s = 63 by omega, show (2 : Nat) ^ 63 = 9223372036854775808 by decide] at this
    have e : ((y.toNat * 2 ^ s : Nat) : Int) = y * p := by rw [Int.natCast_mul, hpN]; congr 1; omega
    omega
  obtain ⟨p', hp'⟩ : ∃ p' : Int, (2 : Int) ^ (64 - s) = p' := ⟨_, rfl⟩
  have hpp : p' * p = 18446744073709551616 := by
    rw [← hp, ← hp', ← Int.pow_add, show 64 - s + s = 64 by omega]
    decide
  have hp'N : ((2 ^ (64 - s) : Nat) : Int) = p' := by rw [← hp']; simp
  have hp'1 : 1 ≤ p' := by have := Nat.two_pow_pos (64 - s); omega
  have hf : Int.fdiv lo p' = lo / p' := Int.fdiv_eq_ediv_of_nonneg _ (by omega)
  have f32 : ∀ z : Int, Int.fdiv z (2 ^ 32) = z / 4294967296 := fun z => by
    rw [show ((2 : Int) ^ 32) = 4294967296 by decide]
    exact Int.fdiv_eq_ediv_of_nonneg z (by omega)
  rw [hp, hp', hf]
  simp only [f32]
  -- the high part of the shifted dividend
  have hlo1 : lo / p' < p := Int.ediv_lt_of_lt_mul (by omega) (by rw [Int.mul_comm]; omega)
  have hlo0 : 0 ≤ lo / p' := Int.ediv_nonneg l0 (by omega)
  have hhp : hi * p + p ≤ y * p := by
    have : (hi + 1) * p ≤ y * p := Int.mul_le_mul_of_nonneg_right (by omega) (by omega)
    have e : (hi + 1) * p = hi * p + p := by grind
    omega
  have hhp0 : 0 ≤ hi * p := Int.mul_nonneg h0 (by omega)
  have hor : IntKind.u64.wrap (BitVec.ofInt IntKind.u64.bits (hi * p) ||| BitVec.ofInt IntKind.u64.bits (lo / p')).toNat = hi * p + lo / p' := by
    have := or_shift (a := hi) (b := lo / p') (n := s) (by omega) h0 hlo0 (by rw [hp]; exact hlo1) (by rw [hp]; omega)
    rw [hp] at this
    exact this
  have hm : ∀ z : Int, 0 ≤ z → z ≤ 18446744073709551615 → IntKind.u64.wrap (BitVec.ofInt IntKind.u64.bits z &&& BitVec.ofInt IntKind.u64.bits 4294967295).toNat = z % 4294967296 := fun z g1 g2 => mask32 g1 g2
  rw [wrapU (n := hi * p) hhp0 (by omega), hor, wrapU (n := y * p) (by omega) hY1, hm (y * p) (by omega) hY1]
  -- the low part
  have hlow : IntKind.u64.wrap (lo * p) = lo * p - lo / p' * 18446744073709551616 := by
    rw [u64_eq]
    have e1 := Int.emod_add_mul_ediv lo p'
    have r0 : 0 ≤ lo % p' := Int.emod_nonneg _ (by omega)
    have r1 : lo % p' < p' := Int.emod_lt_of_pos _ (by omega)
    have e2 : lo * p = lo % p' * p + lo / p' * 18446744073709551616 := by
      have : lo * p = (lo % p' + p' * (lo / p')) * p := by rw [e1]
      rw [this, ← hpp]
      grind
    have r2 : 0 ≤ lo % p' * p := Int.mul_nonneg r0 (by omega)
    have r3 : (lo % p') * p + p ≤ p' * p := by
      have : (lo % p' + 1) * p ≤ p' * p := Int.mul_le_mul_of_nonneg_right (by omega) (by omega)
      have e : (lo % p' + 1) * p = lo % p' * p + p := by grind
      omega
    omega
  have hlr := wrapU_range (lo * p)
  rw [hlow] at hlr
  rw [hlow, hm _ hlr.1 hlr.2]
  obtain ⟨W, hW⟩ : ∃ W, W = lo * p - lo / p' * 18446744073709551616 := ⟨_, rfl⟩
  rw [← hW] at hlr ⊢
  obtain ⟨U, hU⟩ : ∃ U, U = hi * p + lo / p' := ⟨_, rfl⟩
  rw [← hU]
  obtain ⟨Y, hYe⟩ : ∃ Y, Y = y * p := ⟨_, rfl⟩
  rw [← hYe] at hY0 hY1 hhp ⊢
  have hU0 : 0 ≤ U := by omega
  have hUY : U < Y := by omega
  have hyd : Y = Y / 4294967296 * 4294967296 + Y % 4294967296 := by omega
  have yn1a : 2147483648 ≤ Y / 4294967296 := by omega
  have yn1b : Y / 4294967296 < 4294967296 := by omega
  have yn0a : 0 ≤ Y % 4294967296 := by omega
  have yn0b : Y % 4294967296 < 4294967296 := by omega
  obtain ⟨k, Q, hQ, q1, q2, q3, q4, q5, q6, q7, q8, q9⟩ := guess (u := U) (v := W / 4294967296) hyd yn1a yn1b yn0a yn0b hU0 hUY (by omega) (by omega)
  have n1 : 0 ≤ U / (Y / 4294967296) * (Y / 4294967296) := Int.mul_nonneg (by omega) (by omega)
  rw [decide_eq_false (show ¬ Y / 4294967296 = 0 by omega), cond_false, IntWalk.u64_quo U _ ⟨hU0, by omega, by omega⟩, wrapU (n := U / (Y / 4294967296) * (Y / 4294967296)) (by omega) (by omega), wrapU (n := U - U / (Y / 4294967296) * (Y / 4294967296)) (by omega) (by omega)]
  rw [Div64_L3 (s := s) (un0 := W % 4294967296) hyd yn1a yn1b yn0a yn0b (by omega) (by omega) q1 q2 q3 q4 k _ _ q5 q6 rfl (by omega) (by omega), math_bits_Div64.J2_eq, math_bits_Div64.SJ2]
  have hQ1 : (Q + 1) * Y = Q * Y + Y := by grind
  have w1 : IntKind.u64.wrap (IntKind.u64.wrap (IntKind.u64.wrap (U * 4294967296) + W / 4294967296) - IntKind.u64.wrap (Q * Y)) = U * 4294967296 + W / 4294967296 - Q * Y := by
    simp only [u64_eq]
    omega
  rw [w1]
  obtain ⟨V, hV⟩ : ∃ V, V = U * 4294967296 + W / 4294967296 - Q * Y := ⟨_, rfl⟩
  rw [← hV]
  have hV0 : 0 ≤ V := by omega
  have hVY : V < Y := by omega
  obtain ⟨k', Q', hQ', r1, r2, r3, r4, r5, r6, r7, r8, r9⟩ := guess (u := V) (v := W % 4294967296) hyd yn1a yn1b yn0a yn0b hV0 hVY (by omega) (by omega)
  have n2 : 0 ≤ V / (Y / 4294967296) * (Y / 4294967296) := Int.mul_nonneg (by omega) (by omega)
  rw [decide_eq_false (show ¬ Y / 4294967296 = 0 by omega), cond_false, IntWalk.u64_quo V _ ⟨hV0, by omega, by omega⟩, wrapU (n := V / (Y / 4294967296) * (Y / 4294967296)) (by omega) (by omega), wrapU (n := V - V / (Y / 4294967296) * (Y / 4294967296)) (by omega) (by omega)]
  rw [Div64_L6 (s := s) hyd yn1a yn1b yn0a yn0b (by omega) (by omega) r1 r2 r3 r4 k' _ _ r5 r6 rfl (by omega) (by omega), math_bits_Div64.J5_eq, math_bits_Div64.SJ5]
  have hQ1' : (Q' + 1) * Y = Q' * Y + Y := by grind
  have w2 : IntKind.u64.wrap (IntKind.u64.wrap (IntKind.u64.wrap (V * 4294967296) + W % 4294967296) - IntKind.u64.wrap (Q' * Y)) = V * 4294967296 + W % 4294967296 - Q' * Y := by
    simp only [u64_eq]
    omega
  rw [w2, wrapU (n := Q * 4294967296) (by omega) (by omega), wrapU (n := Q * 4294967296 + Q') (by omega) (by omega), decide_eq_false (show ¬ (s : Int) < 0 by omega), cond_false, Int.toNat_natCast, bits64, Nat.min_eq_left (show s ≤ 64 by omega), hp]
  -- the quotient
  obtain ⟨M, hM⟩ : ∃ M, M = hi * 18446744073709551616 + lo := ⟨_, rfl⟩
  rw [← hM]
  obtain ⟨q, hq⟩ : ∃ q, q = Q * 4294967296 + Q' := ⟨_, rfl⟩
  rw [← hq]
  obtain ⟨R, hR⟩ : ∃ R, R = V * 4294967296 + W % 4294967296 - Q' * Y := ⟨_, rfl⟩
  rw [← hR]
  have hMp : M * p = q * Y + R := by
    have e1 : M * p = U * 18446744073709551616 + W := by rw [hM, hU, hW]; grind
    have e2 : q * Y = Q * Y * 4294967296 + Q' * Y := by rw [hq]; grind
    omega
  have hRY : 0 ≤ R ∧ R < Y := by omega
  have hRp : R = (M - q * y) * p := by
    have : q * Y = q * y * p := by rw [hYe]; grind
    have e : (M - q * y) * p = M * p - q * y * p := by grind
    omega
  have hrem : Int.fdiv R p = M - q * y := by
    rw [Int.fdiv_eq_ediv_of_nonneg _ (by omega), hRp, Int.mul_ediv_cancel _ (by omega)]
  have d1 : 0 ≤ M - q * y := by
    rcases Int.lt_or_le (M - q * y) 0 with h | h
    · have := Int.mul_neg_of_neg_of_pos h (show 0 < p by omega)
      omega
    · exact h
  have d2 : M - q * y < y := by
    rcases Int.lt_or_le (M - q * y) y with h | h
    · exact h
    · have : y * p ≤ (M - q * y) * p := Int.mul_le_mul_of_nonneg_right h (by omega)
      omega
  have hdm : M / y = q ∧ M % y = M - q * y := by
    have e : M = (M - q * y) + q * y := by omega
    constructor
    · rw [e, Int.add_mul_ediv_right _ _ (by omega), Int.ediv_eq_zero_of_lt d1 d2, Int.zero_add]
    · have := Int.emod_add_mul_ediv M y
      have hq2 : M / y = q := by
        rw [e, Int.add_mul_ediv_right _ _ (by omega), Int.ediv_eq_zero_of_lt d1 d2, Int.zero_add]
      rw [hq2] at this
      have e2 : y * q = q * y := Int.mul_comm _ _
      omega
  rw [hrem, hdm.1, hdm.2]
end Go.Proofs.Ytphpegconhdnfaa
