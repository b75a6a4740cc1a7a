import Derived.Test.YtphpegconhdnfaaPA
set_option maxRecDepth 100000
set_option linter.unusedVariables false
set_option linter.unusedSimpArgs false
namespace Go.Proofs.Ytphpegconhdnfaa
open Go Go.Lift
theorem eqTy_refl (t : Ty) (x : t.den) (h : t.flat = true) : eqTy t x x = true := (eqTy_iff t x x h).2 rfl
def anyP {α : Type} (_ : α) : Prop := True
theorem same_Buckets_L0 (a : List api_BucketV) (hn : a.length ≤ 1000000) (hp : ∀ x ∈ a, anyP x) : ∀ (d i : Nat), i + d = a.length → same_Buckets.L0 a a (i : Int) = some (true, ())
  | 0, i, h => by rw [same_Buckets.L0_eq, same_Buckets.SL0, cd_f (by omega)]
  | d + 1, i, h => by
    have h1 : i < a.length := by omega
    have ih := same_Buckets_L0 a hn hp d (i + 1) (by omega)
    have hx := hp a[i] (List.getElem_mem h1)
    rw [same_Buckets.L0_eq, same_Buckets.SL0, cd_t (by omega), cd_t (by omega), same_Buckets.J1_eq, same_Buckets.SJ1, idx_nat, List.getElem?_eq_getElem h1, wrap_succ (by omega), ih]
    generalize a[i] = x at hx ⊢
    simp only [bind_some', eqTy_refl (.pair (.int .i64) (.pair (.int .i64) (.pair (.int .i64) (.pair (.int .i64) .unit)))) x rfl, Bool.not_true, cond_false]
theorem same_Buckets_refl (a : List api_BucketV) (hn : a.length ≤ 1000000) (hp : ∀ x ∈ a, anyP x) : same_Buckets a a = some (true, ()) := by
  simp only [same_Buckets, same_Buckets.Se, bne_self_eq_false, cond_false]
  exact same_Buckets_L0 a hn hp a.length 0 (by omega)
def inM (n : Int) : Bool := decide (-1000000000000000 ≤ n) && decide (n ≤ 1000000000000000)
def allM (l : List Int) : Bool := l.all inM
theorem within_val (n : Int) : distribution_allWithin_1 n = some (!inM n, ()) := by
  simp only [distribution_allWithin_1, distribution_allWithin_1.Se, distribution_within, distribution_within.Se]
  by_cases h : n ≥ -1000000000000000
  · rw [cd_t h]
    simp only [bind_some', inM]
    rw [decide_eq_true (show -1000000000000000 ≤ n from h), Bool.true_and]
  · rw [cd_f h]
    simp only [bind_some', inM]
    rw [decide_eq_false (show ¬ -1000000000000000 ≤ n from h), Bool.false_and]
theorem index_out : ∀ (rest pre : List Int), (pre ++ rest).length ≤ 1000000 →
    ∃ r, slices_IndexFunc_int_int_distribution_allWithin_1.L0 (pre ++ rest) ((pre ++ rest).length : Int) (pre.length : Int) = some (r, ()) ∧ (decide (r ≥ 0) = !allM rest) := by
  intro rest
  induction rest with
  | nil =>
    intro pre h
    rw [slices_IndexFunc_int_int_distribution_allWithin_1.L0_eq, slices_IndexFunc_int_int_distribution_allWithin_1.SL0, cd_f (by simp)]
    exact ⟨_, rfl, rfl⟩
  | cons x rest ih =>
    intro pre h
    have hl := len_mid pre x rest
    rw [slices_IndexFunc_int_int_distribution_allWithin_1.L0_eq, slices_IndexFunc_int_int_distribution_allWithin_1.SL0, cd_t (by rw [hl]; omega), idx_mid]
    simp only [bind_some', within_val]
    cases e : inM x with
    | false =>
      refine ⟨_, rfl, ?_⟩
      simp [allM, e]
    | true =>
      obtain ⟨r, e1, e2⟩ := ih (pre ++ [x]) (by rw [← mid_shift]; exact h)
      refine ⟨r, ?_, ?_⟩
      · rw [wrap_succ (by omega), ← len_snoc pre x, mid_shift]
        exact e1
      · rw [e2]; simp [allM, e]
theorem allWithin_val (l : List Int) (h : l.length ≤ 1000000) : distribution_allWithin l = some (allM l, ()) := by
  obtain ⟨r, e1, e2⟩ := index_out l [] (by simpa using h)
  have e1' : slices_IndexFunc_int_int_distribution_allWithin_1.L0 l (l.length : Int) 0 = some (r, ()) := by simpa using e1
  simp only [distribution_allWithin, distribution_allWithin.Se, slices_ContainsFunc_int_int_distribution_allWithin_1, slices_ContainsFunc_int_int_distribution_allWithin_1.Se, slices_IndexFunc_int_int_distribution_allWithin_1, slices_IndexFunc_int_int_distribution_allWithin_1.Se, e1', bind_some', e2, Bool.not_not]
theorem beyond_val (n : Int) : ref02_Beyond n 1000000000000000 = some (!inM n, ()) := by
  simp only [ref02_Beyond, ref02_Beyond.Se]
  rw [wrap64 (by omega) (by omega)]
  unfold inM
  by_cases h : n > 1000000000000000
  · rw [cd_t h, decide_eq_false (show ¬ n ≤ 1000000000000000 by omega), Bool.and_false]; rfl
  · rw [cd_f h, decide_eq_true (show n ≤ 1000000000000000 by omega), Bool.and_true]
    by_cases g : n < -1000000000000000
    · rw [decide_eq_true (show n < 0 - 1000000000000000 by omega), decide_eq_false (show ¬ -1000000000000000 ≤ n by omega)]; rfl
    · rw [decide_eq_false (show ¬ n < 0 - 1000000000000000 by omega), decide_eq_true (show -1000000000000000 ≤ n by omega)]; rfl
theorem rwithin_L0 : ∀ (rest pre : List Int), (pre ++ rest).length ≤ 1000000 → ref59_within.L0 (pre ++ rest) (pre.length : Int) = some (allM rest, ()) := by
  intro rest
  induction rest with
  | nil =>
    intro pre h
    rw [ref59_within.L0_eq, ref59_within.SL0, cd_f (by simp)]
    rfl
  | cons x rest ih =>
    intro pre h
    have hl := len_mid pre x rest
    rw [ref59_within.L0_eq, ref59_within.SL0, cd_t (by rw [hl]; omega), idx_mid]
    simp only [bind_some', beyond_val]
    cases e : inM x with
    | false => simp [allM, e]
    | true =>
      have := ih (pre ++ [x]) (by rw [← mid_shift]; exact h)
      rw [wrap_succ (by omega), ← len_snoc pre x, mid_shift]
      simp only [Bool.not_true, cond_false]
      rw [this]
      simp [allM, e]
theorem rwithin_val (l : List Int) (h : l.length ≤ 1000000) : ref59_within l = some (allM l, ()) := by
  have := rwithin_L0 l [] (by simpa using h)
  exact this
/-- A bucket with one value more. -/
def addB (o : api_BucketV) (v : Int) : api_BucketV := (o.1, o.2.1, IntKind.i64.wrap (o.2.2.1 + 1), IntKind.i64.wrap (o.2.2.2.1 + v), ())
theorem setm {α : Type} (A : List α) (x y : α) (R : List α) : (A ++ x :: R).set A.length y = A ++ y :: R := by simp
end Go.Proofs.Ytphpegconhdnfaa
