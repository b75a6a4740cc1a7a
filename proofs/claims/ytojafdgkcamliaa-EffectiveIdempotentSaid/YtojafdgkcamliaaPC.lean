import Derived.Test.YtojafdgkcamliaaPL
set_option maxRecDepth 100000
set_option linter.unusedVariables false
set_option linter.unusedSimpArgs false
namespace Go.Proofs.Ytojafdgkcamliaa
open Go Go.Lift
/-- Days that are no change dates. -/
def outd (d : Int) : Bool := decide (d < 1 ∨ d > 109572)
theorem outd_val (d : Int) : effective_ChangeDates_1 d = some (outd d, ()) := by
  simp only [effective_ChangeDates_1, effective_ChangeDates_1.Se, outd]
  by_cases h : d < 1
  · simp [h]
  · simp [h]
theorem index_dates (hg : ∀ x, effective_ChangeDates_1 x = some (outd x, ())) : ∀ (rest pre : List Int), (pre ++ rest).length ≤ 1000000 →
    (∃ a x b, rest = a ++ x :: b ∧ outd x = true ∧ (∀ y ∈ a, outd y = false) ∧ slices_IndexFunc_int_int_effective_ChangeDates_1.L0 (pre ++ rest) ((pre ++ rest).length : Int) (pre.length : Int) = some (((pre ++ a).length : Int), ())) ∨
    ((∀ y ∈ rest, outd y = false) ∧ slices_IndexFunc_int_int_effective_ChangeDates_1.L0 (pre ++ rest) ((pre ++ rest).length : Int) (pre.length : Int) = some (-1, ()))
  | [], pre, h => by
    refine .inr ⟨fun y hy => (by cases hy), ?_⟩
    rw [slices_IndexFunc_int_int_effective_ChangeDates_1.L0_eq, slices_IndexFunc_int_int_effective_ChangeDates_1.SL0, cd_f (by simp)]
  | x :: rest, pre, h => by
    have h' := h
    rw [len_mid] at h'
    have ih := index_dates hg rest (pre ++ [x]) (by rw [← mid_shift]; exact h)
    rw [← mid_shift, len_snoc] at ih
    rw [slices_IndexFunc_int_int_effective_ChangeDates_1.L0_eq, slices_IndexFunc_int_int_effective_ChangeDates_1.SL0, cd_t (by rw [len_mid]; omega), idx_mid]
    simp only [bind_some', hg, wrap_succ (show pre.length < 9223372036854775807 by omega)]
    cases e : outd x with
    | true => exact .inl ⟨[], x, rest, rfl, e, fun y hy => (by cases hy), by simp⟩
    | false =>
      rw [cond_false]
      rcases ih with ⟨a, y, b, h1, h2, h3, h4⟩ | ⟨h1, h2⟩
      · refine .inl ⟨x :: a, y, b, by rw [h1]; rfl, h2, fun z hz => ?_, by rw [h4]; simp⟩
        rcases List.mem_cons.1 hz with h | h
        · rw [h]; exact e
        · exact h3 z h
      · refine .inr ⟨fun z hz => ?_, h2⟩
        rcases List.mem_cons.1 hz with h | h
        · rw [h]; exact e
        · exact h1 z h
/-- The elements that are kept come together at the front. -/
theorem del_L0_dates (hg : ∀ x, effective_ChangeDates_1 x = some (outd x, ())) : ∀ (rest kept mid : List Int), (kept ++ mid ++ rest).length ≤ 1000000 → mid ≠ [] →
    slices_DeleteFunc_int_int_effective_ChangeDates_1.L0 (kept ++ mid ++ rest) (kept.length : Int) ((kept ++ mid).length : Int) = some (kept ++ rest.filter (fun x => !outd x), ())
  | [], kept, mid, h, hm => by
    have hml : 0 < mid.length := List.length_pos_iff.2 hm
    simp only [List.append_nil] at h ⊢
    have hl : (kept ++ mid).length - kept.length = mid.length := by simp
    have ht : (kept ++ mid).take kept.length = kept := by simp
    rw [slices_DeleteFunc_int_int_effective_ChangeDates_1.L0_eq, slices_DeleteFunc_int_int_effective_ChangeDates_1.SL0, cd_f (by simp)]
    simp only [Int.toNat_natCast, hl, ht]
    rw [cd_3 (by omega) (by simp; omega) (by omega), cd_t hml, cd_3 (by omega) (by omega) (by simp; omega)]
    simp
  | x :: rest, kept, mid, h, hm => by
    have h' := h
    simp only [List.length_append, List.length_cons] at h'
    obtain ⟨m0, mt, rfl⟩ := List.exists_cons_of_ne_nil hm
    simp only [List.length_cons] at h'
    have hx : (kept ++ m0 :: mt ++ x :: rest).getD (kept ++ m0 :: mt).length 0 = x := getD_mid (kept ++ m0 :: mt) x 0 rest
    rw [slices_DeleteFunc_int_int_effective_ChangeDates_1.L0_eq, slices_DeleteFunc_int_int_effective_ChangeDates_1.SL0, cd_t (by simp; omega), cd_b (by omega) (by simp; omega)]
    simp only [Int.toNat_natCast, hx, hg, bind_some', wrap_succ (show (kept ++ m0 :: mt).length < 9223372036854775807 by simp; omega), wrap_succ (show kept.length < 9223372036854775807 by omega)]
    cases e : outd x with
    | true =>
      have ih := del_L0_dates hg rest kept (m0 :: mt ++ [x]) (by simp; omega) (by simp)
      simp only [Bool.not_true, cond_false]
      rw [show kept ++ m0 :: mt ++ x :: rest = kept ++ (m0 :: mt ++ [x]) ++ rest by simp, show (((kept ++ m0 :: mt).length + 1 : Nat) : Int) = ((kept ++ (m0 :: mt ++ [x])).length : Int) by simp; omega, ih]
      simp [e]
    | false =>
      have ih := del_L0_dates hg rest (kept ++ [x]) (mt ++ [x]) (by simp; omega) (by simp)
      simp only [Bool.not_false, cond_true]
      rw [cd_b (by omega) (by simp; omega)]
      have hs : (kept ++ m0 :: mt ++ x :: rest).set kept.length x = (kept ++ [x]) ++ (mt ++ [x]) ++ rest := by
        rw [List.append_assoc, List.set_append_right _ _ (Nat.le_refl _), Nat.sub_self]
        simp
      rw [hs, show ((kept.length + 1 : Nat) : Int) = ((kept ++ [x]).length : Int) by simp, show (((kept ++ m0 :: mt).length + 1 : Nat) : Int) = ((kept ++ [x] ++ (mt ++ [x])).length : Int) by simp; omega, ih]
      simp [e]
theorem del_dates (hg : ∀ x, effective_ChangeDates_1 x = some (outd x, ())) (l : List Int) (h : l.length ≤ 1000000) : slices_DeleteFunc_int_int_effective_ChangeDates_1 l = some (l.filter (fun x => !outd x), ()) := by
  simp only [slices_DeleteFunc_int_int_effective_ChangeDates_1, slices_DeleteFunc_int_int_effective_ChangeDates_1.Se, slices_IndexFunc_int_int_effective_ChangeDates_1, slices_IndexFunc_int_int_effective_ChangeDates_1.Se]
  rcases index_dates hg l [] (by simpa using h) with ⟨a, x, b, h1, h2, h3, h4⟩ | ⟨h1, h2⟩
  · simp only [List.nil_append, List.length_nil] at h4
    rw [show (0 : Int) = ((0 : Nat) : Int) from rfl, h4]
    have hl : a.length + (b.length + 1) ≤ 1000000 := by rw [h1] at h; simpa using h
    simp only [bind_some']
    rw [show ((a.length : Int) == -1) = false by simp, cond_false, wrap_succ (by omega)]
    have := del_L0_dates hg b a [x] (by simp; omega) (by simp)
    simp only [List.append_assoc, List.cons_append, List.nil_append, List.length_append, List.length_cons, List.length_nil] at this
    rw [h1]
    simp only [Nat.zero_add] at this
    rw [this, List.filter_append, List.filter_cons]
    have f1 : a.filter (fun x => !outd x) = a := List.filter_eq_self.2 (fun y hy => by simp [h3 y hy])
    simp [f1, h2]
  · simp only [List.nil_append, List.length_nil] at h2
    rw [show (0 : Int) = ((0 : Nat) : Int) from rfl, h2]
    have f1 : l.filter (fun x => !outd x) = l := List.filter_eq_self.2 (fun y hy => by simp [h1 y hy])
    simp [f1]
theorem within_L0 : ∀ (rest pre out : List Int), (pre ++ rest).length ≤ 500000 → out.length + rest.length ≤ 1000000 →
    ref12_Within.L0 (pre ++ rest) out (pre.length : Int) = some (out ++ rest.filter (fun x => !outd x), ())
  | [], pre, out, h1, h2 => by
    rw [ref12_Within.L0_eq, ref12_Within.SL0, cd_f (by simp)]
    simp
  | x :: rest, pre, out, h1, h2 => by
    have h1' := h1
    rw [len_mid] at h1'
    simp only [List.length_cons] at h2
    have ih1 := within_L0 rest (pre ++ [x]) out (by rw [← mid_shift]; exact h1) (by omega)
    have ih2 := within_L0 rest (pre ++ [x]) (out ++ [x]) (by rw [← mid_shift]; exact h1) (by simp; omega)
    rw [← mid_shift, len_snoc] at ih1 ih2
    rw [ref12_Within.L0_eq, ref12_Within.SL0, cd_t (by rw [len_mid]; omega)]
    simp only [idx_mid, bind_some', ref12_Within.J1_eq, ref12_Within.SJ1, wrap_succ (show pre.length < 9223372036854775807 by omega)]
    rw [rm8 (by omega), cond_true, ih1, ih2]
    by_cases c1 : 1 ≤ x
    · by_cases c2 : x ≤ 109572
      · have : outd x = false := by simp [outd]; omega
        simp [c1, c2, this]
      · have : outd x = true := by simp [outd]; omega
        simp [c1, c2, this]
    · have : outd x = true := by simp [outd]; omega
      simp [c1, this]
def rangesOf (l : api_LawV) : List api_DateRangeV := (l.2.1.flatMap fun t => t.2.2.2.1.map (·.1)) ++ (l.2.2.1.flatMap fun s => s.2.2.2.2.1.map fun r => r.2.2.2.2.1)
theorem chd_L1 (l : api_LawV) (V : List api_TableV) (n i : Int) : ∀ (rest pre : List api_RowV) (all : List api_DateRangeV), (pre ++ rest).length ≤ 1000 → all.length + rest.length ≤ 900000 →
    effective_ChangeDates.L1 l all V n i (pre ++ rest) ((pre ++ rest).length : Int) (pre.length : Int) = effective_ChangeDates.L0 l (all ++ rest.map (·.1)) V n (IntKind.i64.wrap (i + 1))
  | [], pre, all, h, ho => by
    rw [effective_ChangeDates.L1_eq, effective_ChangeDates.SL1, cd_f (by simp)]
    simp
  | x :: rest, pre, all, h, ho => by
    have h' := h
    rw [len_mid] at h'
    simp only [List.length_cons] at ho
    have ih := chd_L1 l V n i rest (pre ++ [x]) (all ++ [x.1]) (by rw [← mid_shift]; exact h) (by simp; omega)
    rw [← mid_shift, len_snoc] at ih
    rw [effective_ChangeDates.L1_eq, effective_ChangeDates.SL1, cd_t (by rw [len_mid]; omega), idx_mid]
    simp only [bind_some', wrap_succ (show pre.length < 9223372036854775807 by omega), rm16 (show all.length + 1 ≤ 1000000 by omega), cond_true, ih]
    simp
theorem chd_L0 (l : api_LawV) : ∀ (rest pre : List api_TableV) (all : List api_DateRangeV), (pre ++ rest).length ≤ 1000 → (∀ t ∈ rest, t.2.2.2.1.length ≤ 1000) → all.length + (rest.flatMap fun t => t.2.2.2.1.map (·.1)).length ≤ 900000 →
    effective_ChangeDates.L0 l all (pre ++ rest) ((pre ++ rest).length : Int) (pre.length : Int) = effective_ChangeDates.L2 (all ++ rest.flatMap fun t => t.2.2.2.1.map (·.1)) l.2.2.1 (l.2.2.1.length : Int) 0
  | [], pre, all, h, ht, ho => by
    rw [effective_ChangeDates.L0_eq, effective_ChangeDates.SL0, cd_f (by simp)]
    simp
  | x :: rest, pre, all, h, ht, ho => by
    have h' := h
    rw [len_mid] at h'
    rw [List.flatMap_cons, List.length_append, List.length_map] at ho
    have hx := ht x List.mem_cons_self
    have ih := chd_L0 l rest (pre ++ [x]) (all ++ x.2.2.2.1.map (·.1)) (by rw [← mid_shift]; exact h) (fun t h => ht t (List.mem_cons_of_mem _ h)) (by rw [List.length_append, List.length_map]; omega)
    rw [← mid_shift, len_snoc] at ih
    have l1 := chd_L1 l (pre ++ x :: rest) ((pre ++ x :: rest).length : Int) (pre.length : Int) x.2.2.2.1 [] all (by simpa using hx) (by omega)
    simp only [List.nil_append, List.length_nil] at l1
    rw [show ((0 : Nat) : Int) = 0 from rfl, wrap_succ (show pre.length < 9223372036854775807 by omega)] at l1
    rw [effective_ChangeDates.L0_eq, effective_ChangeDates.SL0, cd_t (by rw [len_mid]; omega), idx_mid]
    simp only [bind_some']
    rw [l1, ih, List.flatMap_cons, List.append_assoc]
theorem chd_L3 (V : List api_ScopeV) (n i : Int) : ∀ (rest pre : List api_RuleV) (all : List api_DateRangeV), (pre ++ rest).length ≤ 1000 → all.length + rest.length ≤ 900000 →
    effective_ChangeDates.L3 all V n i (pre ++ rest) ((pre ++ rest).length : Int) (pre.length : Int) = effective_ChangeDates.L2 (all ++ rest.map fun r => r.2.2.2.2.1) V n (IntKind.i64.wrap (i + 1))
  | [], pre, all, h, ho => by
    rw [effective_ChangeDates.L3_eq, effective_ChangeDates.SL3, cd_f (by simp)]
    simp
  | x :: rest, pre, all, h, ho => by
    have h' := h
    rw [len_mid] at h'
    simp only [List.length_cons] at ho
    have ih := chd_L3 V n i rest (pre ++ [x]) (all ++ [x.2.2.2.2.1]) (by rw [← mid_shift]; exact h) (by simp; omega)
    rw [← mid_shift, len_snoc] at ih
    rw [effective_ChangeDates.L3_eq, effective_ChangeDates.SL3, cd_t (by rw [len_mid]; omega), idx_mid]
    simp only [bind_some', wrap_succ (show pre.length < 9223372036854775807 by omega), rm16 (show all.length + 1 ≤ 1000000 by omega), cond_true, ih]
    simp
/-- What a program of Boundaries and DeleteFunc comes to. -/
noncomputable def endChd (all : List api_DateRangeV) : Option (List Int × Unit) := Option.bind (daterange_Boundaries all) fun x2 => Option.bind (slices_DeleteFunc_int_int_effective_ChangeDates_1 x2.1) fun x3 => some (x3.1, ())
theorem chd_L2 : ∀ (rest pre : List api_ScopeV) (all : List api_DateRangeV), (pre ++ rest).length ≤ 1000 → (∀ t ∈ rest, t.2.2.2.2.1.length ≤ 1000) → all.length + (rest.flatMap fun s => s.2.2.2.2.1.map fun r => r.2.2.2.2.1).length ≤ 900000 →
    effective_ChangeDates.L2 all (pre ++ rest) ((pre ++ rest).length : Int) (pre.length : Int) = endChd (all ++ rest.flatMap fun s => s.2.2.2.2.1.map fun r => r.2.2.2.2.1)
  | [], pre, all, h, ht, ho => by
    rw [effective_ChangeDates.L2_eq, effective_ChangeDates.SL2, cd_f (by simp)]
    simp only [List.flatMap_nil, List.append_nil]
    rfl
  | x :: rest, pre, all, h, ht, ho => by
    have h' := h
    rw [len_mid] at h'
    rw [List.flatMap_cons, List.length_append, List.length_map] at ho
    have hx := ht x List.mem_cons_self
    have ih := chd_L2 rest (pre ++ [x]) (all ++ x.2.2.2.2.1.map fun r => r.2.2.2.2.1) (by rw [← mid_shift]; exact h) (fun t h => ht t (List.mem_cons_of_mem _ h)) (by rw [List.length_append, List.length_map]; omega)
    rw [← mid_shift, len_snoc] at ih
    have l1 := chd_L3 (pre ++ x :: rest) ((pre ++ x :: rest).length : Int) (pre.length : Int) x.2.2.2.2.1 [] all (by simpa using hx) (by omega)
    simp only [List.nil_append, List.length_nil] at l1
    rw [show ((0 : Nat) : Int) = 0 from rfl, wrap_succ (show pre.length < 9223372036854775807 by omega)] at l1
    rw [effective_ChangeDates.L2_eq, effective_ChangeDates.SL2, cd_t (by rw [len_mid]; omega), idx_mid]
    simp only [bind_some']
    rw [l1, ih, List.flatMap_cons, List.append_assoc]
theorem rchd_L1 (l : api_LawV) (i : Nat) (t : api_TableV) (hi : l.2.1[i]? = some t) (ht : t.2.2.2.1.length ≤ 1000) : ∀ (rest pre : List api_RowV) (all : List api_DateRangeV), t.2.2.2.1 = pre ++ rest → all.length + rest.length ≤ 900000 →
    ref15_ChangeDates.L1 l all (i : Int) (pre.length : Int) = ref15_ChangeDates.L0 l (all ++ rest.map (·.1)) (IntKind.i64.wrap ((i : Int) + 1))
  | [], pre, all, e, ho => by
    rw [ref15_ChangeDates.L1_eq, ref15_ChangeDates.SL1, idx_nat, hi]
    simp only [bind_some', e]
    rw [cd_f (by simp)]
    simp
  | x :: rest, pre, all, e, ho => by
    have hl : pre.length + (rest.length + 1) ≤ 1000 := by rw [e, len_mid] at ht; exact ht
    simp only [List.length_cons] at ho
    have ih := rchd_L1 l i t hi ht rest (pre ++ [x]) (all ++ [x.1]) (by rw [e]; simp) (by simp; omega)
    rw [len_snoc] at ih
    rw [ref15_ChangeDates.L1_eq, ref15_ChangeDates.SL1, idx_nat, hi]
    simp only [bind_some', e, idx_mid]
    rw [cd_t (by rw [len_mid]; omega)]
    simp only [wrap_succ (show pre.length < 9223372036854775807 by omega), rm16 (show all.length + 1 ≤ 1000000 by omega), cond_true, ih]
    simp
theorem rchd_L0 (l : api_LawV) (hl : l.2.1.length ≤ 1000) : ∀ (rest pre : List api_TableV) (all : List api_DateRangeV), l.2.1 = pre ++ rest → (∀ t ∈ rest, t.2.2.2.1.length ≤ 1000) → all.length + (rest.flatMap fun t => t.2.2.2.1.map (·.1)).length ≤ 900000 →
    ref15_ChangeDates.L0 l all (pre.length : Int) = ref15_ChangeDates.L2 l (all ++ rest.flatMap fun t => t.2.2.2.1.map (·.1)) 0
  | [], pre, all, e, ht, ho => by
    rw [ref15_ChangeDates.L0_eq, ref15_ChangeDates.SL0, e, cd_f (by simp)]
    simp
  | x :: rest, pre, all, e, ht, ho => by
    have h' : pre.length + (rest.length + 1) ≤ 1000 := by rw [e, len_mid] at hl; exact hl
    rw [List.flatMap_cons, List.length_append, List.length_map] at ho
    have hx := ht x List.mem_cons_self
    have ih := rchd_L0 l hl rest (pre ++ [x]) (all ++ x.2.2.2.1.map (·.1)) (by rw [e]; simp) (fun t h => ht t (List.mem_cons_of_mem _ h)) (by rw [List.length_append, List.length_map]; omega)
    rw [len_snoc] at ih
    have l1 := rchd_L1 l pre.length x (by rw [e]; simp) hx x.2.2.2.1 [] all rfl (by omega)
    simp only [List.length_nil] at l1
    rw [show ((0 : Nat) : Int) = 0 from rfl, wrap_succ (show pre.length < 9223372036854775807 by omega)] at l1
    rw [ref15_ChangeDates.L0_eq, ref15_ChangeDates.SL0, cd_t (by rw [e, len_mid]; omega), l1, ih, List.flatMap_cons, List.append_assoc]
theorem rchd_L3 (l : api_LawV) (i : Nat) (t : api_ScopeV) (hi : l.2.2.1[i]? = some t) (ht : t.2.2.2.2.1.length ≤ 1000) : ∀ (rest pre : List api_RuleV) (all : List api_DateRangeV), t.2.2.2.2.1 = pre ++ rest → all.length + rest.length ≤ 900000 →
    ref15_ChangeDates.L3 l all (i : Int) (pre.length : Int) = ref15_ChangeDates.L2 l (all ++ rest.map fun r => r.2.2.2.2.1) (IntKind.i64.wrap ((i : Int) + 1))
  | [], pre, all, e, ho => by
    rw [ref15_ChangeDates.L3_eq, ref15_ChangeDates.SL3, idx_nat, hi]
    simp only [bind_some', e]
    rw [cd_f (by simp)]
    simp
  | x :: rest, pre, all, e, ho => by
    have hl : pre.length + (rest.length + 1) ≤ 1000 := by rw [e, len_mid] at ht; exact ht
    simp only [List.length_cons] at ho
    have ih := rchd_L3 l i t hi ht rest (pre ++ [x]) (all ++ [x.2.2.2.2.1]) (by rw [e]; simp) (by simp; omega)
    rw [len_snoc] at ih
    rw [ref15_ChangeDates.L3_eq, ref15_ChangeDates.SL3, idx_nat, hi]
    simp only [bind_some', e, idx_mid]
    rw [cd_t (by rw [len_mid]; omega)]
    simp only [wrap_succ (show pre.length < 9223372036854775807 by omega), rm16 (show all.length + 1 ≤ 1000000 by omega), cond_true, ih]
    simp
noncomputable def rendChd (all : List api_DateRangeV) : Option (List Int × Unit) := Option.bind (ref05_Boundaries all) fun x1 => Option.bind (ref12_Within x1.1) fun x2 => some (x2.1, ())
theorem rchd_L2 (l : api_LawV) (hl : l.2.2.1.length ≤ 1000) : ∀ (rest pre : List api_ScopeV) (all : List api_DateRangeV), l.2.2.1 = pre ++ rest → (∀ t ∈ rest, t.2.2.2.2.1.length ≤ 1000) → all.length + (rest.flatMap fun s => s.2.2.2.2.1.map fun r => r.2.2.2.2.1).length ≤ 900000 →
    ref15_ChangeDates.L2 l all (pre.length : Int) = rendChd (all ++ rest.flatMap fun s => s.2.2.2.2.1.map fun r => r.2.2.2.2.1)
  | [], pre, all, e, ht, ho => by
    rw [ref15_ChangeDates.L2_eq, ref15_ChangeDates.SL2, e, cd_f (by simp)]
    simp only [List.flatMap_nil, List.append_nil]
    rfl
  | x :: rest, pre, all, e, ht, ho => by
    have h' : pre.length + (rest.length + 1) ≤ 1000 := by rw [e, len_mid] at hl; exact hl
    rw [List.flatMap_cons, List.length_append, List.length_map] at ho
    have hx := ht x List.mem_cons_self
    have ih := rchd_L2 l hl rest (pre ++ [x]) (all ++ x.2.2.2.2.1.map fun r => r.2.2.2.2.1) (by rw [e]; simp) (fun t h => ht t (List.mem_cons_of_mem _ h)) (by rw [List.length_append, List.length_map]; omega)
    rw [len_snoc] at ih
    have l1 := rchd_L3 l pre.length x (by rw [e]; simp) hx x.2.2.2.2.1 [] all rfl (by omega)
    simp only [List.length_nil] at l1
    rw [show ((0 : Nat) : Int) = 0 from rfl, wrap_succ (show pre.length < 9223372036854775807 by omega)] at l1
    rw [ref15_ChangeDates.L2_eq, ref15_ChangeDates.SL2, cd_t (by rw [e, len_mid]; omega), l1, ih, List.flatMap_cons, List.append_assoc]
theorem flat_le {α β : Type} (f : α → List β) (k : Nat) : ∀ (l : List α), (∀ x ∈ l, (f x).length ≤ k) → (l.flatMap f).length ≤ k * l.length
  | [], _ => by simp
  | x :: l, h => by
    have := flat_le f k l (fun y hy => h y (List.mem_cons_of_mem _ hy))
    have := h x List.mem_cons_self
    rw [List.flatMap_cons, List.length_append, List.length_cons, Nat.mul_add]
    omega
theorem ranges_len {l : api_LawV} (h : lawS l) : (l.2.1.flatMap fun t => t.2.2.2.1.map (·.1)).length ≤ 1350 ∧ (l.2.2.1.flatMap fun s => s.2.2.2.2.1.map fun r => r.2.2.2.2.1).length ≤ 300 := by
  obtain ⟨_, ⟨h1, h2⟩, h3, h4⟩ := h
  constructor
  · have := flat_le (fun t : api_TableV => t.2.2.2.1.map (·.1)) 150 l.2.1 (fun t ht => by rw [List.length_map]; exact h2 t ht)
    have : 150 * l.2.1.length ≤ 150 * 9 := Nat.mul_le_mul_left _ h1
    omega
  · have := flat_le (fun s : api_ScopeV => s.2.2.2.2.1.map fun r => r.2.2.2.2.1) 60 l.2.2.1 (fun s hs => by rw [List.length_map]; exact (h4 s hs).2.2.1)
    have : 60 * l.2.2.1.length ≤ 60 * 5 := Nat.mul_le_mul_left _ h3
    omega
theorem changeDates_val {l : api_LawV} (h : lawS l) : ∃ u : List Int, SS u ∧ (∀ x, x ∈ u ↔ isEnd (rangesOf l) x) ∧ u.length ≤ 200000 ∧ effective_ChangeDates l = some (u.filter (fun x => !outd x), ()) ∧ ref15_ChangeDates l = some (u.filter (fun x => !outd x), ()) := by
  obtain ⟨n1, n2⟩ := ranges_len h
  obtain ⟨_, ⟨h1, h2⟩, h3, h4⟩ := h
  have hm : (rangesOf l).length ≤ 200000 := by rw [rangesOf, List.length_append]; omega
  obtain ⟨u, u1, u2, u3⟩ := bounds_val (rangesOf l) hm
  obtain ⟨v, v1, v2, v3⟩ := rbounds_val (rangesOf l) hm
  have e : v = u := SS_unique v2 u2 (fun x => by rw [u3 x, v3 x])
  subst e
  have hl := ends_length u2 u3
  refine ⟨v, v2, v3, by omega, ?_, ?_⟩
  · have a0 := chd_L0 l l.2.1 [] [] (by simp; omega) (fun t ht => by have := h2 t ht; omega) (by simp only [List.length_nil]; omega)
    have a1 := chd_L2 l.2.2.1 [] (l.2.1.flatMap fun t => t.2.2.2.1.map (·.1)) (by simp; omega) (fun t ht => by have := (h4 t ht).2.2.1; omega) (by omega)
    simp only [List.nil_append, List.length_nil] at a0 a1
    rw [show ((0 : Nat) : Int) = 0 from rfl] at a0 a1
    simp only [effective_ChangeDates, effective_ChangeDates.Se]
    rw [a0, a1]
    show endChd (rangesOf l) = _
    rw [endChd, u1, bind_some', del_dates outd_val v (by omega)]
    rfl
  · have a0 := rchd_L0 l (by omega) l.2.1 [] [] rfl (fun t ht => by have := h2 t ht; omega) (by simp only [List.length_nil]; omega)
    have a1 := rchd_L2 l (by omega) l.2.2.1 [] (l.2.1.flatMap fun t => t.2.2.2.1.map (·.1)) rfl (fun t ht => by have := (h4 t ht).2.2.1; omega) (by omega)
    simp only [List.nil_append, List.length_nil] at a0 a1
    rw [show ((0 : Nat) : Int) = 0 from rfl] at a0 a1
    have w := within_L0 v [] [] (by simp; omega) (by simp; omega)
    simp only [List.nil_append, List.length_nil] at w
    rw [show ((0 : Nat) : Int) = 0 from rfl] at w
    simp only [ref15_ChangeDates, ref15_ChangeDates.Se]
    rw [a0, a1]
    show rendChd (rangesOf l) = _
    rw [rendChd, v1, bind_some']
    simp only [ref12_Within, ref12_Within.Se]
    rw [w]
    rfl
theorem ruleNow_S {s : api_ScopeV} (h : scopeS s) {kept : List Int} {k : Int} (h0 : 0 ≤ k) (h1 : k < (s.2.2.2.2.1.length : Int)) : ruleS (ruleNow s kept k) := by
  obtain ⟨a, b⟩ := h.2.2.2 _ (getD_mem rule0 h0 h1)
  exact ⟨a, b⟩
theorem scpOn_S (date : Int) {s : api_ScopeV} (h : scopeS s) : scopeS (scpOn date s) := by
  obtain ⟨k1, k2, k3⟩ := keptOf_bd date s
  refine ⟨h.1, h.2.1, ?_, fun r hr => ?_⟩
  · show ((keptOf date s).map _).length ≤ 60
    rw [List.length_map]
    have := h.2.2.1
    omega
  · obtain ⟨k, hk, rfl⟩ := List.mem_map.1 hr
    exact ruleNow_S h (k1 k hk).1 (k1 k hk).2
theorem lawOn_S (date : Int) {l : api_LawV} (h : lawS l) : lawS (lawOn date l) := by
  obtain ⟨h0, ⟨h1, h2⟩, h3, h4⟩ := h
  refine ⟨h0, ⟨?_, fun t ht => ?_⟩, ?_, fun s hs => ?_⟩
  · show (l.2.1.map _).length ≤ 9
    rw [List.length_map]; exact h1
  · obtain ⟨t, ht', rfl⟩ := List.mem_map.1 ht
    show (rowsNow date t.2.2.2.1).length ≤ 150
    rw [rowsNow, List.length_map]
    have := List.length_filter_le (fun x : api_RowV => inD x.1 date) t.2.2.2.1
    have := h2 t ht'
    omega
  · show (l.2.2.1.map _).length ≤ 5
    rw [List.length_map]; exact h3
  · obtain ⟨s, hs', rfl⟩ := List.mem_map.1 hs
    exact scpOn_S date (h4 s hs')
theorem scopeB_of {s : api_ScopeV} (h : scopeS s) : scopeB s := ⟨by have := h.1; omega, by have := h.2.1; omega, by have := h.2.2.1; omega, fun r hr => ⟨by have := (h.2.2.2 r hr).1; omega, by have := (h.2.2.2 r hr).2; omega⟩⟩
theorem lawB_of {l : api_LawV} (h : lawS l) : lawB l := ⟨⟨by have := h.1.1; omega, fun e he => by have := h.1.2 e he; unfold strsB; omega⟩, ⟨by have := h.2.1.1; omega, fun t ht => by have := h.2.1.2 t ht; unfold rowsB; omega⟩, ⟨by have := h.2.2.1; omega, fun s hs => scopeB_of (h.2.2.2 s hs)⟩⟩
theorem lawOn_small {l : api_LawV} (h : lawS l) (date : Int) : effective_LawOn l date = some (lawOn date l, ()) :=
  lawOn_val date l ⟨by have := h.1.1; omega, by have := h.2.1.1; omega, by have := h.2.2.1; omega⟩ (fun e he => by have := h.1.2 e he; omega) (fun t ht => by have := h.2.1.2 t ht; omega) (fun s hs => ⟨scopeB_of (h.2.2.2 s hs), by have := (h.2.2.2 s hs).2.2.1; omega⟩)
end Go.Proofs.Ytojafdgkcamliaa
