import Derived.Test.YtphpegconhdnfaaPA
set_option maxRecDepth 100000
set_option linter.unusedVariables false
set_option linter.unusedSimpArgs false
namespace Go.Proofs.Ytphpegconhdnfaa
open Go Go.Lift
def inM (n : Int) : Bool := decide (-1000000000000000 ≤ n) && decide (n ≤ 1000000000000000)
def allM (l : List Int) : Bool := l.all inM
theorem allM_iff {l : List Int} : allM l = true ↔ ∀ x ∈ l, -1000000000000000 ≤ x ∧ x ≤ 1000000000000000 := by
  simp [allM, inM, List.all_eq_true]
theorem within_val (n : Int) : distribution_allWithin_1 n = some (!inM n, ()) := by
  simp only [distribution_allWithin_1, distribution_allWithin_1.Se, distribution_within, distribution_within.Se]
  by_cases h : n ≥ -1000000000000000
  · rw [cd_t h]
    simp only [bind_some', inM]
    rw [decide_eq_true (show -1000000000000000 ≤ n from h), Bool.true_and]
  · rw [cd_f h]
    simp only [bind_some', inM]
    rw [decide_eq_false (show ¬ -1000000000000000 ≤ n from h), Bool.false_and]
theorem index_out : ∀ (rest pre : List Int), (pre ++ rest).length ≤ 1000000 →
    ∃ r, slices_IndexFunc_int_int_distribution_allWithin_1.L0 (pre ++ rest) ((pre ++ rest).length : Int) (pre.length : Int) = some (r, ()) ∧ (decide (r ≥ 0) = !allM rest) := by
  intro rest
  induction rest with
  | nil =>
    intro pre h
    rw [slices_IndexFunc_int_int_distribution_allWithin_1.L0_eq, slices_IndexFunc_int_int_distribution_allWithin_1.SL0, cd_f (by simp)]
    exact ⟨_, rfl, rfl⟩
  | cons x rest ih =>
    intro pre h
    have hl := len_mid pre x rest
    rw [slices_IndexFunc_int_int_distribution_allWithin_1.L0_eq, slices_IndexFunc_int_int_distribution_allWithin_1.SL0, cd_t (by rw [hl]; omega), idx_mid]
    simp only [bind_some', within_val]
    cases e : inM x with
    | false =>
      refine ⟨_, rfl, ?_⟩
      simp [allM, e]
    | true =>
      obtain ⟨r, e1, e2⟩ := ih (pre ++ [x]) (by rw [← mid_shift]; exact h)
      refine ⟨r, ?_, ?_⟩
      · rw [wrap_succ (by omega), ← len_snoc pre x, mid_shift]
        exact e1
      · rw [e2]; simp [allM, e]
theorem allWithin_val (l : List Int) (h : l.length ≤ 1000000) : distribution_allWithin l = some (allM l, ()) := by
  obtain ⟨r, e1, e2⟩ := index_out l [] (by simpa using h)
  have e1' : slices_IndexFunc_int_int_distribution_allWithin_1.L0 l (l.length : Int) 0 = some (r, ()) := by simpa using e1
  simp only [distribution_allWithin, distribution_allWithin.Se, slices_ContainsFunc_int_int_distribution_allWithin_1, slices_ContainsFunc_int_int_distribution_allWithin_1.Se, slices_IndexFunc_int_int_distribution_allWithin_1, slices_IndexFunc_int_int_distribution_allWithin_1.Se, e1', bind_some', e2, Bool.not_not]
theorem beyond_val (n : Int) : ref02_Beyond n 1000000000000000 = some (!inM n, ()) := by
  simp only [ref02_Beyond, ref02_Beyond.Se]
  rw [wrap64 (by omega) (by omega)]
  unfold inM
  by_cases h : n > 1000000000000000
  · rw [cd_t h, decide_eq_false (show ¬ n ≤ 1000000000000000 by omega), Bool.and_false]; rfl
  · rw [cd_f h, decide_eq_true (show n ≤ 1000000000000000 by omega), Bool.and_true]
    by_cases g : n < -1000000000000000
    · rw [decide_eq_true (show n < 0 - 1000000000000000 by omega), decide_eq_false (show ¬ -1000000000000000 ≤ n by omega)]; rfl
    · rw [decide_eq_false (show ¬ n < 0 - 1000000000000000 by omega), decide_eq_true (show -1000000000000000 ≤ n by omega)]; rfl
theorem rwithin_L0 : ∀ (rest pre : List Int), (pre ++ rest).length ≤ 1000000 → ref59_within.L0 (pre ++ rest) (pre.length : Int) = some (allM rest, ()) := by
  intro rest
  induction rest with
  | nil =>
    intro pre h
    rw [ref59_within.L0_eq, ref59_within.SL0, cd_f (by simp)]
    rfl
  | cons x rest ih =>
    intro pre h
    have hl := len_mid pre x rest
    rw [ref59_within.L0_eq, ref59_within.SL0, cd_t (by rw [hl]; omega), idx_mid]
    simp only [bind_some', beyond_val]
    cases e : inM x with
    | false => simp [allM, e]
    | true =>
      have := ih (pre ++ [x]) (by rw [← mid_shift]; exact h)
      rw [wrap_succ (by omega), ← len_snoc pre x, mid_shift]
      simp only [Bool.not_true, cond_false]
      rw [this]
      simp [allM, e]
theorem rwithin_val (l : List Int) (h : l.length ≤ 1000000) : ref59_within l = some (allM l, ()) := by
  have := rwithin_L0 l [] (by simpa using h)
  exact this
theorem sum_bound : ∀ (l : List Int) (p : Int → Bool), (∀ x ∈ l, -1000000000000000 ≤ x ∧ x ≤ 1000000000000000) → -1000000000000000 * (l.length : Int) ≤ (l.filter p).sum ∧ (l.filter p).sum ≤ 1000000000000000 * (l.length : Int) := by
  intro l p
  induction l with
  | nil => intro _; simp
  | cons x l ih =>
    intro h
    obtain ⟨a, c⟩ := ih (fun y hy => h y (List.mem_cons_of_mem _ hy))
    have hx := h x List.mem_cons_self
    rw [List.filter_cons]
    split
    · simp only [List.sum_cons, List.length_cons]; omega
    · simp only [List.length_cons]; omega
theorem setm {α : Type} (A : List α) (x y : α) (R : List α) : (A ++ x :: R).set A.length y = A ++ y :: R := by simp
end Go.Proofs.Ytphpegconhdnfaa
