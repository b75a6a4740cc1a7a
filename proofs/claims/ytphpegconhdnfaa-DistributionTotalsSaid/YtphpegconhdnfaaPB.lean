import Derived.Test.YtphpegconhdnfaaPA
set_option maxRecDepth 100000
set_option linter.unusedVariables false
set_option linter.unusedSimpArgs false
namespace Go.Proofs.Ytphpegconhdnfaa
open Go Go.Lift
def inM (n : Int) : Bool := decide (-1000000000000000 ≤ n) && decide (n ≤ 1000000000000000)
def allM (l : List Int) : Bool := l.all inM
theorem allM_iff {l : List Int} : allM l = true ↔ ∀ x ∈ l, -1000000000000000 ≤ x ∧ x ≤ 1000000000000000 := by
  simp [allM, inM, List.all_eq_true]
theorem within_val (n : Int) : distribution_allWithin_1 n = some (!inM n, ()) := by
  simp only [distribution_allWithin_1, distribution_allWithin_1.Se, distribution_within, distribution_within.Se]
  by_cases h : n ≥ -1000000000000000
  · rw [cd_t h]
    simp only [bind_some', inM]
    rw [decide_eq_true (show -1000000000000000 ≤ n from h), Bool.true_and]
  · rw [cd_f h]
    simp only [bind_some', inM]
    rw [decide_eq_false (show ¬ -1000000000000000 ≤ n from h), Bool.false_and]
theorem index_out : ∀ (rest pre : List Int), (pre ++ rest).length ≤ 1000000 →
    ∃ r, slices_IndexFunc_int_int_distribution_allWithin_1.L0 (pre ++ rest) ((pre ++ rest).length : Int) (pre.length : Int) = some (r, ()) ∧ (decide (r ≥ 0) = !allM rest) := by
  intro rest
  induction rest with
  | nil =>
    intro pre h
    rw [slices_IndexFunc_int_int_distribution_allWithin_1.L0_eq, slices_IndexFunc_int_int_distribution_allWithin_1.SL0, cd_f (by simp)]
    exact ⟨_, rfl, rfl⟩
  | cons x rest ih =>
    intro pre h
    have hl := len_mid pre x rest
    rw [slices_IndexFunc_int_int_distribution_allWithin_1.L0_eq, slices_IndexFunc_int_int_distribution_allWithin_1.SL0, cd_t (by rw [hl]; omega), idx_mid]
    simp only [bind_some', within_val]
    cases e : inM x with
    | false =>
      refine ⟨_, rfl, ?_⟩
      simp [allM, e]
    | true =>
      obtain ⟨r, e1, e2⟩ := ih (pre ++ [x]) (by rw [← mid_shift]; exact h)
      refine ⟨r, ?_, ?_⟩
      · rw [wrap_succ (by omega), ← len_snoc pre x, mid_shift]
        exact e1
      · rw [e2]; simp [allM, e]
theorem allWithin_val (l : List Int) (h : l.length ≤ 1000000) : distribution_allWithin l = some (allM l, ()) := by
  obtain ⟨r, e1, e2⟩ := index_out l [] (by simpa using h)
  have e1' : slices_IndexFunc_int_int_distribution_allWithin_1.L0 l (l.length : Int) 0 = some (r, ()) := by simpa using e1
  simp only [distribution_allWithin, distribution_allWithin.Se, slices_ContainsFunc_int_int_distribution_allWithin_1, slices_ContainsFunc_int_int_distribution_allWithin_1.Se, slices_IndexFunc_int_int_distribution_allWithin_1, slices_IndexFunc_int_int_distribution_allWithin_1.Se, e1', bind_some', e2, Bool.not_not]
theorem beyond_val (n : Int) : ref02_Beyond n 1000000000000000 = some (!inM n, ()) := by
  simp only [ref02_Beyond, ref02_Beyond.Se]
  rw [wrap64 (by omega) (by omega)]
  unfold inM
  by_cases h : n > 1000000000000000
  · rw [cd_t h, decide_eq_false (show ¬ n ≤ 1000000000000000 by omega), Bool.and_false]; rfl
  · rw [cd_f h, decide_eq_true (show n ≤ 1000000000000000 by omega), Bool.and_true]
    by_cases g : n < -1000000000000000
    · rw [decide_eq_true (show n < 0 - 1000000000000000 by omega), decide_eq_false (show ¬ -1000000000000000 ≤ n by omega)]; rfl
    · rw [decide_eq_false (show ¬ n < 0 - 1000000000000000 by omega), decide_eq_true (show -1000000000000000 ≤ n by omega)]; rfl
theorem rwithin_L0 : ∀ (rest pre : List Int), (pre ++ rest).length ≤ 1000000 → ref59_within.L0 (pre ++ rest) (pre.length : Int) = some (allM rest, ()) := by
  intro rest
  induction rest with
  | nil =>
    intro pre h
    rw [ref59_within.L0_eq, ref59_within.SL0, cd_f (by simp)]
    rfl
  | cons x rest ih =>
    intro pre h
    have hl := len_mid pre x rest
    rw [ref59_within.L0_eq, ref59_within.SL0, cd_t (by rw [hl]; omega), idx_mid]
    simp only [bind_some', beyond_val]
    cases e : inM x with
    | false => simp [allM, e]
    | true =>
      have := ih (pre ++ [x]) (by rw [← mid_shift]; exact h)
      rw [wrap_succ (by omega), ← len_snoc pre x, mid_shift]
      simp only [Bool.not_true, cond_false]
      rw [this]
      simp [allM, e]
theorem rwithin_val (l : List Int) (h : l.length ≤ 1000000) : ref59_within l = some (allM l, ()) := by
  have := rwithin_L0 l [] (by simpa using h)
  exact this
theorem half64 (i j : Nat) (h : i + j ≤ 9223372036854775807) : IntKind.i64.wrap (Int.fdiv (IntKind.u64.wrap (IntKind.i64.wrap ((i : Int) + (j : Int)))) (2 ^ (min 1 IntKind.u64.bits))) = (((i + j) / 2 : Nat) : Int) := by
  have p : (2 : Int) ^ (min 1 IntKind.u64.bits) = 2 := by decide
  rw [p, wrap64 (n := (i : Int) + j) (by omega) (by omega), wrapU (by omega) (by omega), Int.fdiv_eq_ediv_of_nonneg _ (by omega), wrap64 (by omega) (by omega)]
  omega
def Inc (b : List Int) : Prop := ∀ i j, i < j → j < b.length → b.getD i 0 < b.getD j 0
theorem idxg {l : List Int} {i : Nat} (h : i < l.length) : idx l (i : Int) = some (l.getD i 0) := by
  rw [idx_nat, List.getElem?_eq_getElem h, getD_nat h]
theorem search_L0 (b : List Int) (t : Int) (hb : Inc b) (hl : b.length ≤ 1000000) : ∀ (d i j : Nat), j - i ≤ d → i ≤ j → j ≤ b.length → (∀ p, p < i → b.getD p 0 < t) → (∀ p, j ≤ p → p < b.length → t ≤ b.getD p 0) →
    ∃ (p : Nat) (f : Bool), slices_BinarySearch_int_int.L0 b t (b.length : Int) (i : Int) (j : Int) = some (((p : Nat) : Int), f, ()) ∧ p ≤ b.length ∧ (∀ q, q < p → b.getD q 0 < t) ∧ (∀ q, p ≤ q → q < b.length → t ≤ b.getD q 0) ∧ (f = true ↔ p < b.length ∧ b.getD p 0 = t) := by
  intro d
  induction d with
  | zero =>
    intro i j h1 h2 h3 h4 h5
    have hij : i = j := by omega
    subst hij
    rw [slices_BinarySearch_int_int.L0_eq, slices_BinarySearch_int_int.SL0, cd_f (by omega)]
    by_cases h : i < b.length
    · rw [cd_t (by omega), idxg h]
      simp only [bind_some', slices_isNaN_int, slices_isNaN_int.Se, bne_self_eq_false, cond_false]
      by_cases g : b.getD i 0 = t
      · rw [beq_iff_eq.2 g]
        exact ⟨i, true, rfl, h3, h4, h5, fun _ => ⟨h, g⟩, fun _ => rfl⟩
      · rw [beq_eq_false_iff_ne.2 g]
        exact ⟨i, false, rfl, h3, h4, h5, fun q => (by cases q), fun q => absurd q.2 g⟩
    · rw [cd_f (by omega)]
      exact ⟨i, false, rfl, h3, h4, h5, fun q => (by cases q), fun q => absurd q.1 h⟩
  | succ d ih =>
    intro i j h1 h2 h3 h4 h5
    by_cases hij : i < j
    · rw [slices_BinarySearch_int_int.L0_eq, slices_BinarySearch_int_int.SL0, cd_t (by omega), half64 i j (by omega), idxg (by omega)]
      simp only [bind_some', less_int]
      by_cases g : b.getD ((i + j) / 2) 0 < t
      · rw [cd_t g, wrap_succ (by omega)]
        refine ih ((i + j) / 2 + 1) j (by omega) (by omega) h3 (fun p hp => ?_) h5
        by_cases e : p = (i + j) / 2
        · rw [e]; exact g
        · have := hb p ((i + j) / 2) (by omega) (by omega)
          omega
      · rw [cd_f g]
        refine ih i ((i + j) / 2) (by omega) (by omega) (by omega) h4 (fun p hp hp2 => ?_)
        by_cases e : p = (i + j) / 2
        · rw [e]; omega
        · have := hb ((i + j) / 2) p (by omega) hp2
          omega
    · exact ih i j (by omega) h2 h3 h4 h5
def Lo (b : List Int) (i : Nat) : Int := if i = 0 then -1000000000000000 else b.getD (i - 1) 0
def Hi (b : List Int) (i : Nat) : Int := if i < b.length then b.getD i 0 else 1000000000000001
def inB (b : List Int) (i : Nat) (v : Int) : Bool := decide (Lo b i ≤ v) && decide (v < Hi b i)
def bkt (b : List Int) (vs : List Int) (i : Nat) : api_BucketV := (Lo b i, Hi b i, ((vs.filter (inB b i)).length : Int), (vs.filter (inB b i)).sum, ())
def hist (b : List Int) (vs : List Int) : List api_BucketV := (List.range (b.length + 1)).map (bkt b vs)
theorem hist_length (b vs : List Int) : (hist b vs).length = b.length + 1 := by simp [hist]
theorem hist_get (b vs : List Int) {i : Nat} (h : i < b.length + 1) (z : api_BucketV) : (hist b vs).getD i z = bkt b vs i := by
  simp [hist, List.getD_eq_getElem?_getD, h]
/-- The place of a value. -/
def At (b : List Int) (v : Int) (j : Nat) : Prop := j ≤ b.length ∧ (∀ i, i < j → b.getD i 0 ≤ v) ∧ (∀ i, j ≤ i → i < b.length → v < b.getD i 0)
theorem inB_at {b : List Int} {v : Int} {j : Nat} (h : At b v j) (h1 : -1000000000000000 ≤ v) (h2 : v ≤ 1000000000000000) {i : Nat} (hi : i ≤ b.length) : inB b i v = decide (i = j) := by
  obtain ⟨q1, q2, q3⟩ := h
  unfold inB Lo Hi
  by_cases e : i = j
  · subst e
    rw [decide_eq_true rfl]
    have a1 : (if i = 0 then -1000000000000000 else b.getD (i - 1) 0) ≤ v := by
      by_cases z : i = 0
      · rw [if_pos z]; exact h1
      · rw [if_neg z]; exact q2 (i - 1) (by omega)
    have a2 : v < (if i < b.length then b.getD i 0 else 1000000000000001) := by
      by_cases z : i < b.length
      · rw [if_pos z]; exact q3 i (by omega) z
      · rw [if_neg z]; omega
    rw [decide_eq_true a1, decide_eq_true a2]; rfl
  · rw [decide_eq_false e]
    by_cases g : i < j
    · have a2 : ¬ v < (if i < b.length then b.getD i 0 else 1000000000000001) := by
        rw [if_pos (show i < b.length by omega)]
        have := q2 i g
        omega
      rw [decide_eq_false a2, Bool.and_false]
    · have a1 : ¬ (if i = 0 then -1000000000000000 else b.getD (i - 1) 0) ≤ v := by
        rw [if_neg (show ¬ i = 0 by omega)]
        have := q3 (i - 1) (by omega) (by omega)
        omega
      rw [decide_eq_false a1, Bool.false_and]
theorem search_at {b : List Int} (v : Int) (hb : Inc b) (hl : b.length ≤ 1000000) : ∃ (p : Nat) (f : Bool), slices_BinarySearch_int_int b v = some (((p : Nat) : Int), f, ()) ∧ p ≤ b.length ∧ At b v (if f = true then p + 1 else p) := by
  obtain ⟨p, f, e, h1, h2, h3, h4⟩ := search_L0 b v hb hl b.length 0 b.length (by omega) (by omega) (by omega) (fun p hp => by omega) (fun p hp hp2 => by omega)
  refine ⟨p, f, e, h1, ?_⟩
  cases f with
  | true =>
    obtain ⟨g1, g2⟩ := h4.1 rfl
    rw [if_pos rfl]
    refine ⟨by omega, fun i hi => ?_, fun i hi hi2 => ?_⟩
    · by_cases e : i = p
      · rw [e]; omega
      · have := h2 i (by omega); omega
    · have := hb p i (by omega) hi2; omega
  | false =>
    rw [if_neg (by simp)]
    refine ⟨h1, fun i hi => by have := h2 i hi; omega, fun i hi hi2 => ?_⟩
    have a := h3 i hi hi2
    by_cases ev : b.getD i 0 = v
    · by_cases e2 : i = p
      · subst e2
        have := h4.2 ⟨hi2, ev⟩
        cases this
      · have a1 := h3 p (by omega) (by omega)
        have a2 := hb p i (by omega) hi2
        omega
    · omega
/-- A bucket with one value more. -/
def addB (o : api_BucketV) (v : Int) : api_BucketV := (o.1, o.2.1, IntKind.i64.wrap (o.2.2.1 + 1), IntKind.i64.wrap (o.2.2.2.1 + v), ())
theorem sum_bound : ∀ (l : List Int) (p : Int → Bool), (∀ x ∈ l, -1000000000000000 ≤ x ∧ x ≤ 1000000000000000) → -1000000000000000 * (l.length : Int) ≤ (l.filter p).sum ∧ (l.filter p).sum ≤ 1000000000000000 * (l.length : Int) := by
  intro l p
  induction l with
  | nil => intro _; simp
  | cons x l ih =>
    intro h
    obtain ⟨a, c⟩ := ih (fun y hy => h y (List.mem_cons_of_mem _ hy))
    have hx := h x List.mem_cons_self
    rw [List.filter_cons]
    split
    · simp only [List.sum_cons, List.length_cons]; omega
    · simp only [List.length_cons]; omega
theorem hist_add {b : List Int} (vs : List Int) {v : Int} {j : Nat} (h : At b v j) (hv : ∀ x ∈ vs ++ [v], -1000000000000000 ≤ x ∧ x ≤ 1000000000000000) (hl : (vs ++ [v]).length ≤ 1000) (z : api_BucketV) :
    (hist b vs).set j (addB ((hist b vs).getD j z) v) = hist b (vs ++ [v]) := by
  have hvv := hv v (by simp)
  have hj' : j < b.length + 1 := Nat.lt_succ_of_le h.1
  rw [hist_get b vs hj' z]
  refine List.ext_getElem (by simp [hist_length]) fun i h1 h2 => ?_
  rw [List.length_set, hist_length] at h1
  rw [List.getElem_set]
  have e2 : (hist b (vs ++ [v]))[i] = bkt b (vs ++ [v]) i := by simp [hist]
  rw [e2]
  have hin := inB_at h hvv.1 hvv.2 (i := i) (by omega)
  have sb := sum_bound vs (inB b i) (fun x hx => hv x (by simp [hx]))
  have fl : (vs.filter (inB b i)).length ≤ vs.length := List.length_filter_le _ _
  simp only [List.length_append, List.length_singleton] at hl
  by_cases e : j = i
  · subst e
    rw [if_pos rfl]
    unfold addB bkt
    rw [List.filter_append, List.filter_cons, hin, decide_eq_true rfl, if_pos rfl, List.filter_nil, List.length_append, List.sum_append]
    simp only [List.sum_cons, List.sum_nil, List.length_singleton]
    rw [wrap64 (by omega) (by omega), wrap64 (by omega) (by omega)]
    simp
  · rw [if_neg e]
    have e3 : (hist b vs)[i]'(by rw [hist_length]; omega) = bkt b vs i := by simp [hist]
    rw [e3]
    unfold bkt
    rw [List.filter_append, List.filter_cons, hin, decide_eq_false (by omega), if_neg (by simp), List.filter_nil, List.append_nil]
theorem J5_val (b : List Int) (out : List api_BucketV) (v : Int) (j : Nat) (vals : List Int) (n i : Int) (hj : j < out.length) :
    distribution_Histogram.J5 b out v (j : Int) vals n i = distribution_Histogram.L4 b (out.set j (addB (out.getD j (0, 0, 0, 0, ())) v)) vals n (IntKind.i64.wrap (i + 1)) := by
  rw [distribution_Histogram.J5_eq, distribution_Histogram.SJ5]
  simp only [List.length_set, Int.toNat_natCast]
  rw [cd_b (by omega) (by omega), cd_b (by omega) (by omega), cd_b (by omega) (by omega), cd_b (by omega) (by omega), List.set_set]
  congr 2
  rw [getD_set_if, if_pos ⟨rfl, hj⟩]
  rfl
theorem hist_L4 {b : List Int} (hb : Inc b) (hl : b.length ≤ 1000) : ∀ (rest pre : List Int), (pre ++ rest).length ≤ 1000 → (∀ x ∈ pre ++ rest, -1000000000000000 ≤ x ∧ x ≤ 1000000000000000) →
    distribution_Histogram.L4 b (hist b pre) (pre ++ rest) ((pre ++ rest).length : Int) (pre.length : Int) = some (hist b (pre ++ rest), 0, ()) := by
  intro rest
  induction rest with
  | nil =>
    intro pre h _
    rw [distribution_Histogram.L4_eq, distribution_Histogram.SL4, cd_f (by simp), List.append_nil]
  | cons v rest ih =>
    intro pre h hv
    have hlen := len_mid pre v rest
    obtain ⟨p, f, e, hp, hat⟩ := search_at v hb (by omega)
    have hv' : ∀ x ∈ pre ++ [v], -1000000000000000 ≤ x ∧ x ≤ 1000000000000000 := fun x hx => hv x (by simp at hx ⊢; rcases hx with hx | hx <;> simp [hx])
    have key := hist_add pre hat hv' (by simp at h ⊢; omega) (0, 0, 0, 0, ())
    have hj := hat.1
    rw [distribution_Histogram.L4_eq, distribution_Histogram.SL4, cd_t (by rw [hlen]; omega), idx_mid]
    simp only [bind_some', e]
    have i2 := ih (pre ++ [v]) (by rw [← mid_shift]; exact h) (by rw [← mid_shift]; exact hv)
    rw [len_snoc, ← mid_shift] at i2
    cases f with
    | true =>
      rw [if_pos rfl] at key hj
      rw [cond_true, wrap_succ (by omega), J5_val b _ v (p + 1) _ _ _ (by rw [hist_length]; omega), key, wrap_succ (by omega)]
      exact i2
    | false =>
      rw [if_neg (by simp)] at key hj
      rw [cond_false, J5_val b _ v p _ _ _ (by rw [hist_length]; omega), key, wrap_succ (by omega)]
      exact i2
theorem setm {α : Type} (A : List α) (x y : α) (R : List α) : (A ++ x :: R).set A.length y = A ++ y :: R := by simp
theorem hist_L3 (v b : List Int) (hl : b.length ≤ 1000) : ∀ (d : Nat) (A : List api_BucketV), A.length + d = b.length + 1 →
    distribution_Histogram.L3 v b (A ++ List.replicate d (0, 0, 0, 0, ())) (Lo b A.length) ((b.length + 1 : Nat) : Int) (A.length : Int) =
      distribution_Histogram.L4 b (A ++ (List.range d).map (fun i => bkt b [] (A.length + i))) v (v.length : Int) 0 := by
  intro d
  induction d with
  | zero =>
    intro A h
    rw [distribution_Histogram.L3_eq, distribution_Histogram.SL3, cd_f (by omega)]
    simp
  | succ d ih =>
    intro A h
    rw [distribution_Histogram.L3_eq, distribution_Histogram.SL3, cd_t (by omega)]
    have hL : (A ++ List.replicate (d + 1) ((0, 0, 0, 0, ()) : api_BucketV)).length = A.length + (d + 1) := by simp
    simp only [Int.toNat_natCast, List.length_set, List.replicate_succ, setm, getD_mid]
    simp only [len_mid, List.length_replicate]
    rw [cd_b (by omega) (by omega), cd_b (by omega) (by omega)]
    have fin : ∀ (x : api_BucketV), x = bkt b [] A.length → Lo b (A ++ [x]).length = Lo b (A ++ [x]).length → 
        distribution_Histogram.L3 v b (A ++ x :: List.replicate d (0, 0, 0, 0, ())) (Lo b (A.length + 1)) ((b.length + 1 : Nat) : Int) ((A.length + 1 : Nat) : Int) = distribution_Histogram.L4 b (A ++ (List.range (d + 1)).map (fun i => bkt b [] (A.length + i))) v (v.length : Int) 0 := by
      intro x hx _
      have := ih (A ++ [x]) (by simp; omega)
      rw [len_snoc] at this
      rw [mid_shift]
      have e1 : (A ++ [x]).length = A.length + 1 := by simp
      rw [e1] at this
      rw [this]
      congr 1
      rw [List.range_succ_eq_map, List.map_cons, List.map_map, hx, Nat.add_zero]
      refine (List.append_assoc _ _ _).trans (congrArg (A ++ ·) (congrArg (List.cons _) (List.map_congr_left fun i _ => ?_)))
      simp only [Function.comp]
      congr 1
      omega
    by_cases g : A.length < b.length
    · rw [cd_t (by omega), idxg g]
      simp only [bind_some']
      rw [cd_b (by omega) (by omega), wrap_succ (by omega)]
      have := fin (Lo b A.length, b.getD A.length 0, 0, 0, ()) (by unfold bkt Hi; rw [if_pos g]; rfl) rfl
      rw [← this]
      rfl
    · rw [cd_f (by omega), wrap_succ (by omega)]
      have := fin (Lo b A.length, 1000000000000001, 0, 0, ()) (by unfold bkt Hi; rw [if_neg g]; rfl) rfl
      rw [← this]
      have hd : d = 0 := by omega
      subst hd
      rw [distribution_Histogram.L3_eq, distribution_Histogram.SL3, cd_f (by omega), distribution_Histogram.L3_eq, distribution_Histogram.SL3, cd_f (by omega)]
theorem rhist_L6 (v b : List Int) (i : Nat) (out : List api_BucketV) (ho : out.length ≤ 1000) (hi : i ≤ 1000) : ∀ (rest pre : List Int), v = pre ++ rest → v.length ≤ 1000 → (∀ x ∈ v, -1000000000000000 ≤ x ∧ x ≤ 1000000000000000) →
    ref59_Histogram.L6 v b out (i : Int) (bkt b pre i) (pre.length : Int) = ref59_Histogram.L3 v b (out ++ [bkt b v i]) ((i + 1 : Nat) : Int) := by
  intro rest
  induction rest with
  | nil =>
    intro pre e h hv
    subst e
    rw [ref59_Histogram.L6_eq, ref59_Histogram.SL6, cd_f (by simp), decide_eq_true (by rw [room_eq]; omega), wrap_succ (by omega), List.append_nil]
    rfl
  | cons x rest ih =>
    intro pre e h hv
    have hlen := len_mid pre x rest
    have i2 := ih (pre ++ [x]) (by rw [e, mid_shift]) h hv
    rw [len_snoc] at i2
    have hx : idx v (pre.length : Int) = some x := by rw [e]; exact idx_mid _ _ _
    rw [ref59_Histogram.L6_eq, ref59_Histogram.SL6, cd_t (by rw [e, hlen]; omega), hx]
    simp only [bind_some']
    have sb := sum_bound pre (inB b i) (fun y hy => hv y (by rw [e]; simp [hy]))
    have fl : (pre.filter (inB b i)).length ≤ pre.length := List.length_filter_le _ _
    have hxv := hv x (by rw [e]; simp)
    have hpl : pre.length ≤ 1000 := by rw [e, hlen] at h; omega
    have fa : bkt b (pre ++ [x]) i = if inB b i x = true then ((bkt b pre i).1, (bkt b pre i).2.1, IntKind.i64.wrap ((bkt b pre i).2.2.1 + 1), IntKind.i64.wrap ((bkt b pre i).2.2.2.1 + x), ()) else bkt b pre i := by
      unfold bkt
      simp only
      rw [List.filter_append, List.filter_cons, List.filter_nil]
      by_cases g : inB b i x = true
      · rw [if_pos g, if_pos g, wrap64 (by omega) (by omega), wrap64 (by omega) (by omega), List.length_append, List.sum_append]
        simp
      · rw [if_neg g, if_neg g, List.append_nil]
    have lo : (bkt b pre i).1 = Lo b i := rfl
    have hi' : (bkt b pre i).2.1 = Hi b i := rfl
    have j7 : ∀ w, w = inB b i x → ref59_Histogram.J7 v b out (i : Int) (bkt b pre i) (pre.length : Int) w = ref59_Histogram.L3 v b (out ++ [bkt b v i]) ((i + 1 : Nat) : Int) := by
      intro w hw
      rw [ref59_Histogram.J7_eq, ref59_Histogram.SJ7, hx]
      rw [fa] at i2
      simp only [bind_some']
      rw [wrap_succ (by omega)]
      cases w with
      | true => rw [if_pos hw.symm] at i2; rw [cond_true]; exact i2
      | false => rw [if_neg (by rw [← hw]; simp)] at i2; rw [cond_false]; exact i2
    by_cases g : (bkt b pre i).1 ≤ x
    · rw [cd_t g]
      refine j7 _ ?_
      unfold inB
      rw [lo] at g
      rw [decide_eq_true g, Bool.true_and, hi']
    · rw [cd_f g]
      refine j7 _ ?_
      unfold inB
      rw [lo] at g
      rw [decide_eq_false g, Bool.false_and]
theorem rhist_L3 (v b : List Int) (hb : b.length ≤ 64) (hl : v.length ≤ 1000) (hv : ∀ x ∈ v, -1000000000000000 ≤ x ∧ x ≤ 1000000000000000) : ∀ (d i : Nat), i + d = b.length + 1 →
    ref59_Histogram.L3 v b ((List.range i).map (bkt b v)) (i : Int) = some (hist b v, 0, ()) := by
  intro d
  induction d with
  | zero =>
    intro i h
    rw [ref59_Histogram.L3_eq, ref59_Histogram.SL3, cd_f (by omega), show i = b.length + 1 by omega]
    rfl
  | succ d ih =>
    intro i h
    have i2 := ih (i + 1) (by omega)
    rw [List.range_succ, List.map_append, List.map_singleton] at i2
    have e6 := rhist_L6 v b i ((List.range i).map (bkt b v)) (by simp; omega) (by omega) v [] rfl hl hv
    have j4 : ref59_Histogram.J4 v b ((List.range i).map (bkt b v)) (i : Int) (Lo b i, 1000000000000001, 0, 0, ()) = some (hist b v, 0, ()) := by
      rw [ref59_Histogram.J4_eq, ref59_Histogram.SJ4]
      by_cases g : i < b.length
      · rw [cd_t (by omega), idxg g]
        simp only [bind_some']
        rw [ref59_Histogram.J5_eq, ref59_Histogram.SJ5, ← i2, ← e6]
        unfold bkt Hi
        rw [if_pos g]
        rfl
      · rw [cd_f (by omega), ref59_Histogram.J5_eq, ref59_Histogram.SJ5, ← i2, ← e6]
        unfold bkt Hi
        rw [if_neg g]
        rfl
    rw [ref59_Histogram.L3_eq, ref59_Histogram.SL3, cd_t (by omega)]
    by_cases g : i = 0
    · subst g
      rw [cd_f (by omega)]
      exact j4
    · rw [cd_t (by omega), cs1 (by omega), wrap64 (by omega) (by omega), idxg (by omega)]
      simp only [bind_some']
      unfold Lo at j4
      rw [if_neg g] at j4
      exact j4
/-- The bounds are tried in order; the first fault ends both. -/
theorem bounds_L2 (v b : List Int) (hl : b.length ≤ 1000) : ∀ (d i : Nat), b.length - i ≤ d → 1 ≤ i →
    ((∃ j, i ≤ j ∧ j < b.length ∧ ¬ b.getD (j - 1) 0 < b.getD j 0) ∧ distribution_Histogram.L2 v b (i : Int) = some ([], 9, ()) ∧ ref59_Histogram.L2 v b (i : Int) = some ([], 9, ())) ∨
    ((∀ j, i ≤ j → j < b.length → b.getD (j - 1) 0 < b.getD j 0) ∧
      distribution_Histogram.L2 v b (i : Int) = distribution_Histogram.L3 v b (List.replicate (b.length + 1) (0, 0, 0, 0, ())) (-1000000000000000) ((b.length + 1 : Nat) : Int) 0 ∧ ref59_Histogram.L2 v b (i : Int) = ref59_Histogram.L3 v b [] 0) := by
  have stop : ∀ i : Nat, ¬ i < b.length → distribution_Histogram.L2 v b (i : Int) = distribution_Histogram.L3 v b (List.replicate (b.length + 1) (0, 0, 0, 0, ())) (-1000000000000000) ((b.length + 1 : Nat) : Int) 0 ∧ ref59_Histogram.L2 v b (i : Int) = ref59_Histogram.L3 v b [] 0 := by
    intro i hi
    constructor
    · rw [distribution_Histogram.L2_eq, distribution_Histogram.SL2, cd_f (by omega), wrap_succ (by omega)]
      rw [decide_eq_true (show (0 : Int) ≤ ((b.length + 1 : Nat) : Int) by omega), decide_eq_true (Int.le_refl _), decide_eq_true (show ((b.length + 1 : Nat) : Int) * 32 ≤ room by rw [room_eq]; omega), decide_eq_true (show ((b.length + 1 : Nat) : Int) ≤ maxLen by rw [maxLen_eq]; omega)]
      simp only [Int.toNat_natCast, List.length_replicate]
      rfl
    · rw [ref59_Histogram.L2_eq, ref59_Histogram.SL2, cd_f (by omega)]
  intro d
  induction d with
  | zero =>
    intro i h hi
    exact .inr ⟨fun j h1 h2 => by omega, stop i (by omega)⟩
  | succ d ih =>
    intro i h hi
    by_cases g : i < b.length
    · rw [distribution_Histogram.L2_eq, distribution_Histogram.SL2, ref59_Histogram.L2_eq, ref59_Histogram.SL2, cd_t (show (i : Int) < (b.length : Int) by omega), cd_t (show (i : Int) < (b.length : Int) by omega), cs1 hi, wrap64 (n := ((i - 1 : Nat) : Int)) (by omega) (by omega), idxg g, idxg (show i - 1 < b.length by omega)]
      simp only [bind_some']
      by_cases e : b.getD i 0 ≤ b.getD (i - 1) 0
      · rw [cd_t e, cd_t (show b.getD (i - 1) 0 ≥ b.getD i 0 from e)]
        exact .inl ⟨⟨i, Nat.le_refl _, g, by omega⟩, rfl, rfl⟩
      · rw [cd_f e, cd_f (show ¬ b.getD (i - 1) 0 ≥ b.getD i 0 from e), wrap_succ (by omega)]
        rcases ih (i + 1) (by omega) (by omega) with ⟨⟨j, j1, j2, j3⟩, q⟩ | ⟨q1, q2⟩
        · exact .inl ⟨⟨j, by omega, j2, j3⟩, q⟩
        · refine .inr ⟨fun j h1 h2 => ?_, q2⟩
          by_cases e2 : j = i
          · subst e2; omega
          · exact q1 j (by omega) h2
    · exact .inr ⟨fun j h1 h2 => by omega, stop i g⟩
theorem inc_of {b : List Int} (h : ∀ j, 1 ≤ j → j < b.length → b.getD (j - 1) 0 < b.getD j 0) : Inc b := by
  have : ∀ d i j, j - i ≤ d → i < j → j < b.length → b.getD i 0 < b.getD j 0 := by
    intro d
    induction d with
    | zero => intro i j h1 h2; omega
    | succ d ih =>
      intro i j h1 h2 h3
      have a := h j (by omega) h3
      by_cases e : i = j - 1
      · rw [e]; exact a
      · have := ih i (j - 1) (by omega) (by omega) (by omega)
        omega
  exact fun i j h1 h2 => this (j - i) i j (Nat.le_refl _) h1 h2
/-- Are the bounds in order? -/
def incB (b : List Int) : Prop := ∀ j, 1 ≤ j → j < b.length → b.getD (j - 1) 0 < b.getD j 0
theorem own_hist (w b : List Int) (h1 : w.length ≤ 1000) (h2 : b.length ≤ 1000) :
    distribution_Histogram w b = if b.length ≤ 64 then (if allM w = true ∧ allM b = true then distribution_Histogram.L2 w b 1 else some ([], 3, ())) else some ([], 4, ()) := by
  simp only [distribution_Histogram, distribution_Histogram.Se]
  rw [cd_f (by omega), distribution_Histogram.J1_eq, distribution_Histogram.SJ1, allWithin_val w (by omega), allWithin_val b (by omega)]
  simp only [bind_some', distribution_Histogram.J0_eq, distribution_Histogram.SJ0]
  by_cases c : b.length ≤ 64
  · rw [decide_eq_false (by omega), cond_false, if_pos c]
    cases allM w <;> cases allM b <;> rfl
  · rw [decide_eq_true (by omega), cond_true, if_neg c]
theorem ref_hist (v b : List Int) (h1 : v.length ≤ 1000) (h2 : b.length ≤ 1000) :
    ref59_Histogram v b = if b.length ≤ 64 then (if allM v = true ∧ allM b = true then ref59_Histogram.L2 v b 1 else some ([], 3, ())) else some ([], 4, ()) := by
  simp only [ref59_Histogram, ref59_Histogram.Se]
  rw [cd_f (by omega), ref59_Histogram.J0_eq, ref59_Histogram.SJ0, rwithin_val v (by omega), rwithin_val b (by omega)]
  simp only [bind_some', ref59_Histogram.J1_eq, ref59_Histogram.SJ1]
  by_cases c : b.length ≤ 64
  · rw [cd_f (by omega), if_pos c]
    cases allM v <;> cases allM b <;> rfl
  · rw [cd_t (by omega), if_neg c]
/-- What Histogram returns. -/
noncomputable def histR (v b : List Int) : Option (List api_BucketV × Int × Unit) := by
  classical exact if b.length ≤ 64 then (if allM v = true ∧ allM b = true then (if incB b then some (hist b v, 0, ()) else some ([], 9, ())) else some ([], 3, ())) else some ([], 4, ())
theorem hist_both (v b : List Int) (h1 : v.length ≤ 1000) (h2 : b.length ≤ 1000) : distribution_Histogram v b = histR v b ∧ ref59_Histogram v b = histR v b := by
  rw [own_hist v b h1 h2, ref_hist v b h1 h2]
  unfold histR
  by_cases c : b.length ≤ 64
  · rw [if_pos c, if_pos c, if_pos c]
    by_cases g : allM v = true ∧ allM b = true
    · rw [if_pos g, if_pos g, if_pos g]
      rcases bounds_L2 v b h2 b.length 1 (by omega) (by omega) with ⟨⟨j, j1, j2, j3⟩, q1, q2⟩ | ⟨q0, q1, q2⟩
      · rw [if_neg (show ¬ incB b from fun h => j3 (h j j1 j2))]
        exact ⟨q1, q2⟩
      · have hv := allM_iff.1 g.1
        have l3 := hist_L3 v b h2 (b.length + 1) [] (by simp)
        have l4 := hist_L4 (inc_of q0) h2 v [] (by simpa using h1) (by simpa using hv)
        have r3 := rhist_L3 v b c h1 hv (b.length + 1) 0 (by omega)
        have l3' : distribution_Histogram.L3 v b (List.replicate (b.length + 1) (0, 0, 0, 0, ())) (-1000000000000000) ((b.length + 1 : Nat) : Int) 0 = distribution_Histogram.L4 b (hist b []) v (v.length : Int) 0 := by simpa [hist, Lo] using l3
        have l4' : distribution_Histogram.L4 b (hist b []) v (v.length : Int) 0 = some (hist b v, 0, ()) := by simpa using l4
        rw [if_pos (show incB b from q0)]
        exact ⟨q1.trans (l3'.trans l4'), q2.trans r3⟩
    · rw [if_neg g, if_neg g, if_neg g]; exact ⟨rfl, rfl⟩
  · rw [if_neg c, if_neg c, if_neg c]; exact ⟨rfl, rfl⟩
/-- The result, whatever it is: few buckets. -/
theorem histR_cases (v b : List Int) : (∃ e, histR v b = some ([], e, ()) ∧ e ≠ 0) ∨ (b.length ≤ 64 ∧ allM v = true ∧ allM b = true ∧ incB b ∧ histR v b = some (hist b v, 0, ())) := by
  unfold histR
  by_cases c : b.length ≤ 64
  · rw [if_pos c]
    by_cases g : allM v = true ∧ allM b = true
    · rw [if_pos g]
      by_cases i : incB b
      · rw [if_pos i]; exact .inr ⟨c, g.1, g.2, i, rfl⟩
      · rw [if_neg i]; exact .inl ⟨9, rfl, by omega⟩
    · rw [if_neg g]; exact .inl ⟨3, rfl, by omega⟩
  · rw [if_neg c]; exact .inl ⟨4, rfl, by omega⟩
end Go.Proofs.Ytphpegconhdnfaa
