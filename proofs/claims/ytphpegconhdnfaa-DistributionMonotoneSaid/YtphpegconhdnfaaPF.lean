import Derived.Test.YtphpegconhdnfaaPD
set_option maxRecDepth 100000
set_option linter.unusedVariables false
set_option linter.unusedSimpArgs false
namespace Go.Proofs.Ytphpegconhdnfaa
open Go Go.Lift
theorem qat_mono {m : Nat} {k n : Int} (h : qok m k n) (h' : qok m (k + 1) n) : qat m k n ≤ qat m (k + 1) n := by
  have a := qat_eq h
  have b := qat_eq h'
  have n1 := h.2.2.1
  have : (k * m + n - 1) / n ≤ ((k + 1) * m + n - 1) / n := by
    refine Int.ediv_le_ediv (by omega) ?_
    rw [Int.add_mul]; omega
  unfold qat
  omega
theorem qat_zero {m : Nat} {n : Int} (h : qok m 0 n) : qat m 0 n = 0 := by
  have n1 := h.2.2.1
  have e : (0 * (m : Int) + n - 1) / n = 0 := Int.ediv_eq_zero_of_lt (by omega) (by omega)
  unfold qat
  rw [e]; rfl
theorem qat_full {m : Nat} {n : Int} (h : qok m n n) : qat m n n = m - 1 := by
  have n1 := h.2.2.1
  have e : (n * (m : Int) + n - 1) / n = m := by
    have : n * (m : Int) + n - 1 = (n - 1) + n * m := by omega
    rw [this, Int.add_mul_ediv_left _ _ (by omega), Int.ediv_eq_zero_of_lt (by omega) (by omega), Int.zero_add]
  unfold qat
  rw [e]
  have := h.1
  omega
theorem sorted_le {s : List Int} (h : s.Pairwise (· ≤ ·)) {i j : Nat} (hij : i ≤ j) (hj : j < s.length) : s.getD i 0 ≤ s.getD j 0 := by
  rcases Nat.lt_or_ge i j with g | g
  · rw [getD_nat (show i < s.length by omega), getD_nat hj]
    exact List.pairwise_iff_getElem.1 h i j (by omega) hj g
  · have : i = j := by omega
    subst this; exact Int.le_refl _
theorem mono_L1 (aw : law59_awake = some (true, ())) {a b lo hi : Int} (h1 : lo ≤ a) (h2 : a ≤ b) (h3 : b ≤ hi) : ∀ (rest pre : List Int), (pre ++ rest).length ≤ 1000 → (∀ x ∈ rest, lo ≤ x ∧ x ≤ hi) →
    law59_DistributionMonotone.L1 (pre ++ rest) a b true lo hi (pre.length : Int) = some (true, ()) := by
  intro rest
  induction rest with
  | nil =>
    intro pre h _
    rw [law59_DistributionMonotone.L1_eq, law59_DistributionMonotone.SL1, cd_f (by simp), cond_true, cd_t h1, cd_t h2, cd_t h3, aw]
    rfl
  | cons x rest ih =>
    intro pre h hx
    have hlen := len_mid pre x rest
    have q := hx x List.mem_cons_self
    rw [law59_DistributionMonotone.L1_eq, law59_DistributionMonotone.SL1, cd_t (by rw [hlen]; omega), idx_mid]
    simp only [bind_some']
    rw [cd_f (by omega), cd_f (by omega), wrap_succ (by omega)]
    have i2 := ih (pre ++ [x]) (by rw [← mid_shift]; exact h) (fun y hy => hx y (List.mem_cons_of_mem _ hy))
    rw [len_snoc, ← mid_shift] at i2
    exact i2
theorem distributionMonotone_true (aw : law59_awake = some (true, ())) (v : List Int) (k n : Int) : law59_DistributionMonotone v k n = some (true, ()) := by
  simp only [law59_DistributionMonotone, law59_DistributionMonotone.Se, few_val, bind_some', aw]
  by_cases h : (v.length : Int) ≤ 200
  · rw [decide_eq_true h]
    simp only [Bool.not_true, cond_false]
    by_cases g : k ≥ n
    · rw [cd_t g]
    rw [cd_f g, law59_DistributionMonotone.J0_eq, law59_DistributionMonotone.SJ0]
    obtain ⟨s, e, e', p, q⟩ := both_sorted v (by omega)
    rw [(quantile_val k n p e e').1]
    by_cases c : qok v.length k n
    · have c1 : qok v.length (k + 1) n := ⟨c.1, c.2.1, c.2.2.1, c.2.2.2.1, by have := c.2.2.2.2.1; omega, by omega⟩
      have c2 : qok v.length 0 n := ⟨c.1, c.2.1, c.2.2.1, c.2.2.2.1, by omega, by have := c.2.2.1; omega⟩
      have c3 : qok v.length n n := ⟨c.1, c.2.1, c.2.2.1, c.2.2.2.1, by have := c.2.2.1; omega, by omega⟩
      have hl := p.length_eq
      have n2 := c.2.2.2.1
      have k0 := c.2.2.2.2.1
      have hm := c.1
      rw [if_pos c]
      simp only [bind_some', Bool.not_true, cond_false]
      rw [wrap64 (n := k + 1) (by omega) (by omega), (quantile_val (k + 1) n p e e').1, (quantile_val 0 n p e e').1, (quantile_val n n p e e').1, if_pos c1, if_pos c2, if_pos c3]
      simp only [bind_some']
      have l1 := qat_lt c1
      have l0 := qat_lt c
      have := mono_L1 aw (a := s.getD (qat v.length k n) 0) (b := s.getD (qat v.length (k + 1) n) 0) (lo := s.getD (qat v.length 0 n) 0) (hi := s.getD (qat v.length n n) 0)
        (by rw [qat_zero c2]; exact sorted_le q (by omega) (by omega)) (sorted_le q (qat_mono c c1) (by omega)) (by rw [qat_full c3]; exact sorted_le q (by omega) (by omega)) v [] (by simp; omega) (by
          intro x hx
          obtain ⟨i, hi, rfl⟩ := List.mem_iff_getElem.1 (p.mem_iff.2 hx)
          rw [qat_zero c2, qat_full c3, ← getD_nat (d := 0) hi]
          exact ⟨sorted_le q (by omega) hi, sorted_le q (by omega) (by omega)⟩)
      exact this
    · rw [if_neg c]
      simp only [bind_some', Bool.not_false, cond_true, beq_self_eq_true, aw]
  · rw [decide_eq_false h]; rfl
end Go.Proofs.Ytphpegconhdnfaa
