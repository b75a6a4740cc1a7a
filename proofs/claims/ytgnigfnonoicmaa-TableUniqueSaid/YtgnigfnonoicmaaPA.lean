import Derived.Test.YtgnigfnonoicmaaPD
set_option maxRecDepth 100000
set_option linter.unusedVariables false
set_option linter.unusedSimpArgs false
namespace Go.Proofs.Ytgnigfnonoicmaa
open Go Go.Lift
/-- Two rows conflict. -/
def conf (a b : api_RowV) : Bool := (isec a.1 b.1).2.1 && decide (max b.2.1 a.2.1 < min b.2.2.1 a.2.2.1)
theorem conflict_val (a b : api_RowV) : table_conflict a b = some (conf a b, ()) := by
  simp only [table_conflict, table_conflict.Se, intersect_val, bind_some', cond_max, cond_min, conf]
  cases (isec a.1 b.1).2.1 <;> rfl
theorem rconflict_val (a b : api_RowV) : ref12_conflict a b = some (conf a b, ()) := by
  simp only [ref12_conflict, ref12_conflict.Se, rintersect_val, bind_some', cond_max, cond_min, conf]
  cases (isec a.1 b.1).2.1 <;> rfl
/-- A date lies in a valid range. -/
def inD (r : api_DateRangeV) (t : Int) : Bool := vld r && decide (r.1 ≤ t ∧ t < r.2.1)
theorem contains_val (r : api_DateRangeV) (t : Int) : daterange_Contains r t = some (inD r t, ()) := by
  simp only [daterange_Contains, daterange_Contains.Se, valid_val, bind_some', inD]
  cases vld r with
  | false => rfl
  | true =>
    by_cases h1 : r.1 ≤ t <;> by_cases h2 : t < r.2.1 <;> simp [h1, h2]
theorem rcontains_val (r : api_DateRangeV) (t : Int) : ref05_Contains r t = some (inD r t, ()) := by
  simp only [ref05_Contains, ref05_Contains.Se, rvalid_val, bind_some', inD]
  cases vld r with
  | false => rfl
  | true =>
    by_cases h1 : r.1 ≤ t <;> by_cases h2 : t < r.2.1 <;> simp [h1, h2]
/-- A row holds at a date and a key. -/
def mat (x : api_RowV) (date key : Int) : Bool := inD x.1 date && decide (x.2.1 ≤ key ∧ key < x.2.2.1)
theorem matches_val (x : api_RowV) (date key : Int) : ref12_Matches x date key = some (mat x date key, ()) := by
  simp only [ref12_Matches, ref12_Matches.Se, rcontains_val, bind_some', mat]
  cases inD x.1 date with
  | false => rfl
  | true =>
    by_cases h1 : x.2.1 ≤ key <;> by_cases h2 : key < x.2.2.1 <;> simp [h1, h2]
/-- The first of the rows, counted from n on, of which p holds. -/
def fst1 {α : Type} (p : α → Bool) : Nat → List α → Option Nat
  | _, [] => none
  | n, x :: l => cond (p x) (some n) (fst1 p (n + 1) l)
def fres (o : Option Nat) : Int × Bool × Unit := match o with | some k => ((k : Int), true, ()) | none => (0, false, ())
theorem lookup_L0 (date key : Int) : ∀ (rest pre : List api_RowV), (pre ++ rest).length ≤ 200000 →
    table_Lookup.L0 date key (pre ++ rest) ((pre ++ rest).length : Int) (pre.length : Int) = some (fres (fst1 (mat · date key) pre.length rest))
  | [], pre, h => by
    rw [table_Lookup.L0_eq, table_Lookup.SL0, cd_f (by simp)]
    rfl
  | x :: rest, pre, h => by
    have h' := h
    rw [len_mid] at h'
    have ih := lookup_L0 date key rest (pre ++ [x]) (by rw [← mid_shift]; exact h)
    rw [← mid_shift, len_snoc] at ih
    rw [show (pre ++ [x]).length = pre.length + 1 by simp] at ih
    rw [table_Lookup.L0_eq, table_Lookup.SL0, cd_t (by rw [len_mid]; omega), idx_mid]
    simp only [bind_some', contains_val, wrap_succ (show pre.length < 9223372036854775807 by omega), ih, fst1]
    have hm : mat x date key = (inD x.1 date && decide (x.2.1 ≤ key ∧ key < x.2.2.1)) := rfl
    cases h0 : inD x.1 date with
    | false => rw [hm, h0]; rfl
    | true =>
      rw [hm, h0, cond_true, Bool.true_and]
      by_cases h1 : x.2.1 ≤ key
      · by_cases h2 : key < x.2.2.1
        · rw [cd_t h1, cd_t h2, cd_t ⟨h1, h2⟩]; rfl
        · rw [cd_t h1, cd_f h2, cd_f (fun h => h2 h.2)]
      · rw [cd_f h1, cd_f (fun h => h1 h.1)]
theorem lookup_val (t : api_TableV) (date key : Int) (h : t.2.2.2.1.length ≤ 200000) : table_Lookup t date key = some (fres (fst1 (mat · date key) 0 t.2.2.2.1)) := by
  simp only [table_Lookup, table_Lookup.Se]
  exact lookup_L0 date key t.2.2.2.1 [] (by simpa using h)
theorem find_L0 (r : api_RowV) : ∀ (rest pre : List api_RowV), (pre ++ rest).length ≤ 200000 →
    table_find_api_Row_table_FirstConflict_1.L0 (pre ++ rest) ((pre ++ rest).length : Int) (pre.length : Int) r = some ((fres (fst1 (conf · r) pre.length rest)).1, (fres (fst1 (conf · r) pre.length rest)).2.1, r, ())
  | [], pre, h => by
    rw [table_find_api_Row_table_FirstConflict_1.L0_eq, table_find_api_Row_table_FirstConflict_1.SL0, cd_f (by simp)]
    rfl
  | x :: rest, pre, h => by
    have h' := h
    rw [len_mid] at h'
    have ih := find_L0 r rest (pre ++ [x]) (by rw [← mid_shift]; exact h)
    rw [← mid_shift, len_snoc] at ih
    rw [show (pre ++ [x]).length = pre.length + 1 by simp] at ih
    rw [table_find_api_Row_table_FirstConflict_1.L0_eq, table_find_api_Row_table_FirstConflict_1.SL0, cd_t (by rw [len_mid]; omega), idx_mid]
    simp only [bind_some', table_FirstConflict_1, table_FirstConflict_1.Se, conflict_val, wrap_succ (show pre.length < 9223372036854775807 by omega), ih, fst1]
    cases conf x r <;> simp [fres]
theorem find_val (l : List api_RowV) (r : api_RowV) (h : l.length ≤ 200000) : table_find_api_Row_table_FirstConflict_1 l r = some ((fres (fst1 (conf · r) 0 l)).1, (fres (fst1 (conf · r) 0 l)).2.1, r, ()) := by
  simp only [table_find_api_Row_table_FirstConflict_1, table_find_api_Row_table_FirstConflict_1.Se]
  exact find_L0 r l [] (by simpa using h)
/-- The first pair of rows in conflict: the rows ahead, those still to come. -/
def pair1 : List api_RowV → List api_RowV → Int × Int × Bool × Unit
  | _, [] => (0, 0, false, ())
  | pre, x :: l => match fst1 (conf · x) 0 pre with
    | some k => ((k : Int), (pre.length : Int), true, ())
    | none => pair1 (pre ++ [x]) l
theorem first_L0 (t : api_TableV) : ∀ (rest pre : List api_RowV), t.2.2.2.1 = pre ++ rest → (pre ++ rest).length ≤ 200000 →
    table_FirstConflict.L0 t (pre ++ rest) ((pre ++ rest).length : Int) (pre.length : Int) = some (pair1 pre rest)
  | [], pre, e, h => by
    rw [table_FirstConflict.L0_eq, table_FirstConflict.SL0, cd_f (by simp)]
    rfl
  | x :: rest, pre, e, h => by
    have h' := h
    rw [len_mid] at h'
    have ih := first_L0 t rest (pre ++ [x]) (by rw [e]; simp) (by rw [← mid_shift]; exact h)
    rw [← mid_shift, len_snoc] at ih
    rw [table_FirstConflict.L0_eq, table_FirstConflict.SL0, cd_t (by rw [len_mid]; omega), idx_mid]
    have ht : (pre ++ x :: rest).take pre.length = pre := by simp
    simp only [bind_some', wrap_succ (show pre.length < 9223372036854775807 by omega), ih, e, Int.toNat_natCast, ht]
    rw [cd_3 (by omega) (by omega) (by rw [len_mid]; omega), find_val pre x (by omega)]
    simp only [bind_some', pair1]
    cases fst1 (conf · x) 0 pre <;> rfl
theorem first_val (t : api_TableV) (h : t.2.2.2.1.length ≤ 200000) : table_FirstConflict t = some (pair1 [] t.2.2.2.1) := by
  simp only [table_FirstConflict, table_FirstConflict.Se]
  exact first_L0 t t.2.2.2.1 [] rfl (by simpa using h)
theorem vtype_eq (t : api_TypeV) (e : List api_EnumV) : value_ValidType t e = ref09_ValidType t e := by
  simp only [value_ValidType, value_ValidType.Se, value_ValidType.J0_eq, value_ValidType.SJ0, ref09_ValidType, ref09_ValidType.Se]
  by_cases h1 : t.1 = 1
  · simp [h1]
  by_cases h2 : t.1 = 2
  · simp [h2]
  by_cases h3 : t.1 = 3
  · simp [h3]
  by_cases h4 : t.1 = 4
  · simp [h4]
  by_cases h5 : t.1 = 5
  · simp [h5]
  by_cases h6 : t.1 = 6
  · simp [h6]
  simp only [h1, h2, h3, h4, h5, h6, beq_iff_eq, cond_eq_ite, if_false, decide_eq_true_eq]
  split
  · rw [if_neg (by omega)]
  · rfl
theorem bounds_eq (t : api_TypeV) (e : List api_EnumV) : value_Bounds t e = ref09_Bounds t e := by
  simp only [value_Bounds, value_Bounds.Se, ref09_Bounds, ref09_Bounds.Se, vtype_eq]
/-- Is it a type? -/
def vty (t : api_TypeV) (e : List api_EnumV) : Bool := if t.1 = 6 then decide (0 ≤ t.2.1 ∧ t.2.1 < (e.length : Int)) else decide (1 ≤ t.1 ∧ t.1 ≤ 5 ∧ t.2.1 = 0)
theorem rvtype_val (t : api_TypeV) (e : List api_EnumV) : ref09_ValidType t e = some (vty t e, ()) := by
  simp only [ref09_ValidType, ref09_ValidType.Se, vty]
  by_cases h6 : t.1 = 6
  · by_cases h1 : 0 ≤ t.2.1 <;> by_cases h2 : t.2.1 < (e.length : Int) <;> simp [h6, h1, h2]
  · have hb : (t.1 == 6) = false := by simpa using h6
    rw [hb, cond_false, if_neg h6]
    by_cases h1 : 1 ≤ t.1 <;> by_cases h2 : t.1 ≤ 5 <;> by_cases h3 : t.2.1 = 0 <;> simp [h1, h2, h3]
theorem rbounds9 (t : api_TypeV) (e : List api_EnumV) : ∃ lo hi, ref09_Bounds t e = some (lo, hi, ()) := by
  simp only [ref09_Bounds, ref09_Bounds.Se, rvtype_val, bind_some']
  cases hv : vty t e with
  | false => exact ⟨_, _, rfl⟩
  | true =>
    simp only [Bool.not_true, cond_false]
    by_cases h1 : t.1 = 1
    · simp [h1]
    by_cases h2 : t.1 = 2
    · simp [h2]
    by_cases h3 : t.1 = 3
    · simp [h3]
    by_cases h4 : t.1 = 4
    · simp [h4]
    by_cases h5 : t.1 = 5
    · simp [h5]
    have h6 : t.1 = 6 := by
      unfold vty at hv
      split at hv
      · assumption
      · simp only [decide_eq_true_eq] at hv; omega
    unfold vty at hv
    rw [if_pos h6, decide_eq_true_eq] at hv
    simp only [h1, h2, h3, h4, h5, beq_iff_eq, cond_eq_ite, if_false, idx_some hv.1 hv.2, bind_some']
    exact ⟨_, _, rfl⟩
/-- The value of a row is wrong. -/
theorem wrong_check (x : api_RowV) (t : api_TableV) (e : List api_EnumV) : ∃ b : Bool, ref12_wrong x t e = some (b, ()) ∧ table_check x t e = some (cond b 3 0, ()) := by
  obtain ⟨lo, hi, k⟩ := rbounds9 t.2.1 e
  obtain ⟨least, most, v⟩ := rbounds9 t.2.2.1 e
  simp only [ref12_wrong, ref12_wrong.Se, ref12_wrong.J0_eq, ref12_wrong.SJ0, table_check, table_check.Se, table_check.J0_eq, table_check.SJ0, table_check.J1_eq, table_check.SJ1, ref09_In, ref09_In.Se, rvalid_val, valid_val, bounds_eq, k, v, bind_some', Bool.cond_eq_ite]
  cases vld x.1 with
  | false => exact ⟨true, by simp, by simp⟩
  | true =>
    by_cases h0 : x.1.1 = x.1.2.1
    · exact ⟨true, by simp [h0], by simp [h0]⟩
    by_cases h1 : x.2.1 ≥ x.2.2.1
    · exact ⟨true, by simp [h0, h1], by simp [h0, h1]⟩
    by_cases h2 : x.2.1 < lo
    · exact ⟨true, by simp [h0, h1, h2, show ¬ lo ≤ x.2.1 by omega], by simp [h0, h1, h2]⟩
    by_cases h3 : x.2.1 > hi
    · exact ⟨true, by simp [h0, h1, h2, h3, show lo ≤ x.2.1 by omega, show ¬ x.2.1 ≤ hi by omega], by simp [h0, h1, h2, h3]⟩
    have e1 : lo ≤ x.2.1 := by omega
    have e2 : x.2.1 ≤ hi := by omega
    generalize IntKind.i64.wrap (x.2.2.1 - 1) = z
    by_cases h4 : z < lo
    · exact ⟨true, by simp [h0, h1, e1, e2, show ¬ lo ≤ z by omega], by simp [h0, h1, h2, h3, h4]⟩
    by_cases h5 : z > hi
    · exact ⟨true, by simp [h0, h1, e1, e2, show lo ≤ z by omega, show ¬ z ≤ hi by omega], by simp [h0, h1, h2, h3, h4, h5]⟩
    have e3 : lo ≤ z := by omega
    have e4 : z ≤ hi := by omega
    by_cases h6 : x.2.2.2.1 < least
    · exact ⟨true, by simp [h0, h1, e1, e2, e3, e4, show ¬ least ≤ x.2.2.2.1 by omega], by simp [h0, h1, h2, h3, h4, h5, h6]⟩
    by_cases h7 : x.2.2.2.1 > most
    · exact ⟨true, by simp [h0, h1, e1, e2, e3, e4, show least ≤ x.2.2.2.1 by omega, show ¬ x.2.2.2.1 ≤ most by omega], by simp [h0, h1, h2, h3, h4, h5, h6, h7]⟩
    exact ⟨false, by simp [h0, h1, e1, e2, e3, e4, show least ≤ x.2.2.2.1 by omega, show x.2.2.2.1 ≤ most by omega], by simp [h0, h1, h2, h3, h4, h5, h6, h7]⟩
end Go.Proofs.Ytgnigfnonoicmaa
