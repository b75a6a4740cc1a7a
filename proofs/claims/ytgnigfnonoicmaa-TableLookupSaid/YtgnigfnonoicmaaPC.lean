import Derived.Test.YtgnigfnonoicmaaPB
set_option maxRecDepth 100000
set_option linter.unusedVariables false
set_option linter.unusedSimpArgs false
namespace Go.Proofs.Ytgnigfnonoicmaa
open Go Go.Lift
/-- Days that are no change dates. -/
def outd (d : Int) : Bool := decide (d < 1 ∨ d > 109572)
theorem outd_val (d : Int) : table_ChangeDates_1 d = some (outd d, ()) := by
  simp only [table_ChangeDates_1, table_ChangeDates_1.Se, outd]
  by_cases h : d < 1
  · simp [h]
  · simp [h]
theorem index_dates (hg : ∀ x, table_ChangeDates_1 x = some (outd x, ())) : ∀ (rest pre : List Int), (pre ++ rest).length ≤ 1000000 →
    (∃ a x b, rest = a ++ x :: b ∧ outd x = true ∧ (∀ y ∈ a, outd y = false) ∧ slices_IndexFunc_int_int_table_ChangeDates_1.L0 (pre ++ rest) ((pre ++ rest).length : Int) (pre.length : Int) = some (((pre ++ a).length : Int), ())) ∨
    ((∀ y ∈ rest, outd y = false) ∧ slices_IndexFunc_int_int_table_ChangeDates_1.L0 (pre ++ rest) ((pre ++ rest).length : Int) (pre.length : Int) = some (-1, ()))
  | [], pre, h => by
    refine .inr ⟨fun y hy => (by cases hy), ?_⟩
    rw [slices_IndexFunc_int_int_table_ChangeDates_1.L0_eq, slices_IndexFunc_int_int_table_ChangeDates_1.SL0, cd_f (by simp)]
  | x :: rest, pre, h => by
    have h' := h
    rw [len_mid] at h'
    have ih := index_dates hg rest (pre ++ [x]) (by rw [← mid_shift]; exact h)
    rw [← mid_shift, len_snoc] at ih
    rw [slices_IndexFunc_int_int_table_ChangeDates_1.L0_eq, slices_IndexFunc_int_int_table_ChangeDates_1.SL0, cd_t (by rw [len_mid]; omega), idx_mid]
    simp only [bind_some', hg, wrap_succ (show pre.length < 9223372036854775807 by omega)]
    cases e : outd x with
    | true => exact .inl ⟨[], x, rest, rfl, e, fun y hy => (by cases hy), by simp⟩
    | false =>
      rw [cond_false]
      rcases ih with ⟨a, y, b, h1, h2, h3, h4⟩ | ⟨h1, h2⟩
      · refine .inl ⟨x :: a, y, b, by rw [h1]; rfl, h2, fun z hz => ?_, by rw [h4]; simp⟩
        rcases List.mem_cons.1 hz with h | h
        · rw [h]; exact e
        · exact h3 z h
      · refine .inr ⟨fun z hz => ?_, h2⟩
        rcases List.mem_cons.1 hz with h | h
        · rw [h]; exact e
        · exact h1 z h
/-- The elements that are kept come together at the front. -/
theorem del_L0_dates (hg : ∀ x, table_ChangeDates_1 x = some (outd x, ())) : ∀ (rest kept mid : List Int), (kept ++ mid ++ rest).length ≤ 1000000 → mid ≠ [] →
    slices_DeleteFunc_int_int_table_ChangeDates_1.L0 (kept ++ mid ++ rest) (kept.length : Int) ((kept ++ mid).length : Int) = some (kept ++ rest.filter (fun x => !outd x), ())
  | [], kept, mid, h, hm => by
    have hml : 0 < mid.length := List.length_pos_iff.2 hm
    simp only [List.append_nil] at h ⊢
    have hl : (kept ++ mid).length - kept.length = mid.length := by simp
    have ht : (kept ++ mid).take kept.length = kept := by simp
    rw [slices_DeleteFunc_int_int_table_ChangeDates_1.L0_eq, slices_DeleteFunc_int_int_table_ChangeDates_1.SL0, cd_f (by simp)]
    simp only [Int.toNat_natCast, hl, ht]
    rw [cd_3 (by omega) (by simp; omega) (by omega), cd_t hml, cd_3 (by omega) (by omega) (by simp; omega)]
    simp
  | x :: rest, kept, mid, h, hm => by
    have h' := h
    simp only [List.length_append, List.length_cons] at h'
    obtain ⟨m0, mt, rfl⟩ := List.exists_cons_of_ne_nil hm
    simp only [List.length_cons] at h'
    have hx : (kept ++ m0 :: mt ++ x :: rest).getD (kept ++ m0 :: mt).length 0 = x := getD_mid (kept ++ m0 :: mt) x 0 rest
    rw [slices_DeleteFunc_int_int_table_ChangeDates_1.L0_eq, slices_DeleteFunc_int_int_table_ChangeDates_1.SL0, cd_t (by simp; omega), cd_b (by omega) (by simp; omega)]
    simp only [Int.toNat_natCast, hx, hg, bind_some', wrap_succ (show (kept ++ m0 :: mt).length < 9223372036854775807 by simp; omega), wrap_succ (show kept.length < 9223372036854775807 by omega)]
    cases e : outd x with
    | true =>
      have ih := del_L0_dates hg rest kept (m0 :: mt ++ [x]) (by simp; omega) (by simp)
      simp only [Bool.not_true, cond_false]
      rw [show kept ++ m0 :: mt ++ x :: rest = kept ++ (m0 :: mt ++ [x]) ++ rest by simp, show (((kept ++ m0 :: mt).length + 1 : Nat) : Int) = ((kept ++ (m0 :: mt ++ [x])).length : Int) by simp; omega, ih]
      simp [e]
    | false =>
      have ih := del_L0_dates hg rest (kept ++ [x]) (mt ++ [x]) (by simp; omega) (by simp)
      simp only [Bool.not_false, cond_true]
      rw [cd_b (by omega) (by simp; omega)]
      have hs : (kept ++ m0 :: mt ++ x :: rest).set kept.length x = (kept ++ [x]) ++ (mt ++ [x]) ++ rest := by
        rw [List.append_assoc, List.set_append_right _ _ (Nat.le_refl _), Nat.sub_self]
        simp
      rw [hs, show ((kept.length + 1 : Nat) : Int) = ((kept ++ [x]).length : Int) by simp, show (((kept ++ m0 :: mt).length + 1 : Nat) : Int) = ((kept ++ [x] ++ (mt ++ [x])).length : Int) by simp; omega, ih]
      simp [e]
theorem del_dates (hg : ∀ x, table_ChangeDates_1 x = some (outd x, ())) (l : List Int) (h : l.length ≤ 1000000) : slices_DeleteFunc_int_int_table_ChangeDates_1 l = some (l.filter (fun x => !outd x), ()) := by
  simp only [slices_DeleteFunc_int_int_table_ChangeDates_1, slices_DeleteFunc_int_int_table_ChangeDates_1.Se, slices_IndexFunc_int_int_table_ChangeDates_1, slices_IndexFunc_int_int_table_ChangeDates_1.Se]
  rcases index_dates hg l [] (by simpa using h) with ⟨a, x, b, h1, h2, h3, h4⟩ | ⟨h1, h2⟩
  · simp only [List.nil_append, List.length_nil] at h4
    rw [show (0 : Int) = ((0 : Nat) : Int) from rfl, h4]
    have hl : a.length + (b.length + 1) ≤ 1000000 := by rw [h1] at h; simpa using h
    simp only [bind_some']
    rw [show ((a.length : Int) == -1) = false by simp, cond_false, wrap_succ (by omega)]
    have := del_L0_dates hg b a [x] (by simp; omega) (by simp)
    simp only [List.append_assoc, List.cons_append, List.nil_append, List.length_append, List.length_cons, List.length_nil] at this
    rw [h1]
    simp only [Nat.zero_add] at this
    rw [this, List.filter_append, List.filter_cons]
    have f1 : a.filter (fun x => !outd x) = a := List.filter_eq_self.2 (fun y hy => by simp [h3 y hy])
    simp [f1, h2]
  · simp only [List.nil_append, List.length_nil] at h2
    rw [show (0 : Int) = ((0 : Nat) : Int) from rfl, h2]
    have f1 : l.filter (fun x => !outd x) = l := List.filter_eq_self.2 (fun y hy => by simp [h1 y hy])
    simp [f1]
theorem chd_L0 : ∀ (rest pre : List api_RowV) (acc : List api_DateRangeV), (pre ++ rest).length ≤ 200000 → acc.length + rest.length ≤ 400000 →
    table_ChangeDates.L0 acc (pre ++ rest) ((pre ++ rest).length : Int) (pre.length : Int) = table_ChangeDates.L0 (acc ++ rest.map (·.1)) (pre ++ rest) ((pre ++ rest).length : Int) ((pre ++ rest).length : Int)
  | [], pre, acc, h1, h2 => by simp
  | x :: rest, pre, acc, h1, h2 => by
    have h1' := h1
    rw [len_mid] at h1'
    simp only [List.length_cons] at h2
    have ih := chd_L0 rest (pre ++ [x]) (acc ++ [x.1]) (by rw [← mid_shift]; exact h1) (by simp; omega)
    rw [← mid_shift, len_snoc] at ih
    rw [table_ChangeDates.L0_eq, table_ChangeDates.SL0, cd_t (by rw [len_mid]; omega), idx_mid]
    simp only [bind_some', wrap_succ (show pre.length < 9223372036854775807 by omega)]
    rw [rm16 (by omega), cond_true, ih]
    simp
theorem rchd_L0 (t : api_TableV) : ∀ (rest pre : List api_RowV) (acc : List api_DateRangeV), t.2.2.2.1 = pre ++ rest → t.2.2.2.1.length ≤ 200000 → acc.length + rest.length ≤ 400000 →
    ref12_ChangeDates.L0 t acc (pre.length : Int) = ref12_ChangeDates.L0 t (acc ++ rest.map (·.1)) (t.2.2.2.1.length : Int)
  | [], pre, acc, e, h1, h2 => by rw [e]; simp
  | x :: rest, pre, acc, e, h1, h2 => by
    have h1' := h1
    rw [e, len_mid] at h1'
    simp only [List.length_cons] at h2
    have ih := rchd_L0 t rest (pre ++ [x]) (acc ++ [x.1]) (by rw [e]; simp) h1 (by simp; omega)
    rw [len_snoc] at ih
    have i1 : idx t.2.2.2.1 (pre.length : Int) = some x := by rw [e]; exact idx_mid ..
    rw [ref12_ChangeDates.L0_eq, ref12_ChangeDates.SL0, cd_t (by rw [e, len_mid]; omega), i1]
    simp only [bind_some', wrap_succ (show pre.length < 9223372036854775807 by omega)]
    rw [rm16 (by omega), cond_true, ih]
    simp
theorem within_L0 : ∀ (rest pre out : List Int), (pre ++ rest).length ≤ 500000 → out.length + rest.length ≤ 1000000 →
    ref12_Within.L0 (pre ++ rest) out (pre.length : Int) = some (out ++ rest.filter (fun x => !outd x), ())
  | [], pre, out, h1, h2 => by
    rw [ref12_Within.L0_eq, ref12_Within.SL0, cd_f (by simp)]
    simp
  | x :: rest, pre, out, h1, h2 => by
    have h1' := h1
    rw [len_mid] at h1'
    simp only [List.length_cons] at h2
    have ih1 := within_L0 rest (pre ++ [x]) out (by rw [← mid_shift]; exact h1) (by omega)
    have ih2 := within_L0 rest (pre ++ [x]) (out ++ [x]) (by rw [← mid_shift]; exact h1) (by simp; omega)
    rw [← mid_shift, len_snoc] at ih1 ih2
    rw [ref12_Within.L0_eq, ref12_Within.SL0, cd_t (by rw [len_mid]; omega)]
    simp only [idx_mid, bind_some', ref12_Within.J1_eq, ref12_Within.SJ1, wrap_succ (show pre.length < 9223372036854775807 by omega)]
    rw [rm8 (by omega), cond_true, ih1, ih2]
    by_cases c1 : 1 ≤ x
    · by_cases c2 : x ≤ 109572
      · have : outd x = false := by simp [outd]; omega
        simp [c1, c2, this]
      · have : outd x = true := by simp [outd]; omega
        simp [c1, c2, this]
    · have : outd x = true := by simp [outd]; omega
      simp [c1, this]
theorem changeDates_eq (t : api_TableV) (h : t.2.2.2.1.length ≤ 1000) : ∃ u, table_ChangeDates t = some (u, ()) ∧ ref12_ChangeDates t = some (u, ()) ∧ u.length ≤ 1000000 := by
  have hm : (t.2.2.2.1.map (·.1)).length ≤ 200000 := by rw [List.length_map]; omega
  obtain ⟨u, u1, u2, u3⟩ := bounds_val (t.2.2.2.1.map (·.1)) hm
  obtain ⟨v, v1, v2, v3⟩ := rbounds_val (t.2.2.2.1.map (·.1)) hm
  have e : v = u := SS_unique v2 u2 (fun x => by rw [u3 x, v3 x])
  subst e
  have hl := ends_length u2 u3
  refine ⟨v.filter (fun x => !outd x), ?_, ?_, by have := List.length_filter_le (fun x => !outd x) v; omega⟩
  · simp only [table_ChangeDates, table_ChangeDates.Se]
    have := chd_L0 t.2.2.2.1 [] [] (by simp; omega) (by simp; omega)
    simp only [List.nil_append, List.length_nil] at this
    rw [show (0 : Int) = ((0 : Nat) : Int) from rfl, this, table_ChangeDates.L0_eq, table_ChangeDates.SL0, cd_f (by omega), u1, bind_some', del_dates outd_val v (by omega)]
    rfl
  · simp only [ref12_ChangeDates, ref12_ChangeDates.Se]
    have := rchd_L0 t t.2.2.2.1 [] [] rfl (by omega) (by simp; omega)
    simp only [List.nil_append, List.length_nil] at this
    have w := within_L0 v [] [] (by simp; omega) (by simp; omega)
    simp only [List.nil_append, List.length_nil] at w
    rw [show (0 : Int) = ((0 : Nat) : Int) from rfl, this, ref12_ChangeDates.L0_eq, ref12_ChangeDates.SL0, cd_f (by omega), v1, bind_some']
    simp only [ref12_Within, ref12_Within.Se]
    rw [show (0 : Int) = ((0 : Nat) : Int) from rfl, w]
    rfl
theorem tableLookup_true (aw : law12_awake = some (true, ())) (t : api_TableV) (date key : Int) : law12_TableLookup t date key = some (true, ()) := by
  simp only [law12_TableLookup, law12_TableLookup.Se, few_val, aw, bind_some']
  by_cases h : (t.2.2.2.1.length : Int) ≤ 80
  · rw [decide_eq_true h]
    obtain ⟨u, u1, u2, u3⟩ := changeDates_eq t (by omega)
    simp only [lookup_val t date key (by omega), rlookup_val t date key (by omega), u1, u2, bind_some', same_ints rfl u3]
    simp
  · rw [decide_eq_false h]; rfl
end Go.Proofs.Ytgnigfnonoicmaa
