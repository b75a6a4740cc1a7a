import Derived.Test.YtgnigfnonoicmaaPA
set_option maxRecDepth 100000
set_option linter.unusedVariables false
set_option linter.unusedSimpArgs false
namespace Go.Proofs.Ytgnigfnonoicmaa
open Go Go.Lift
theorem fst1_shift {α : Type} (p : α → Bool) : ∀ (l : List α) (n : Nat), (fst1 p n l = none ↔ ∀ x ∈ l, p x = false)
  | [], n => by simp [fst1]
  | x :: l, n => by
    cases e : p x with
    | true => simp [fst1, e]
    | false => simp [fst1, e, fst1_shift p l (n + 1)]
theorem val_L2 (e : List api_EnumV) (t : api_TableV) (i : Nat) (r : api_RowV) (R : List api_RowV) (n : Int) : ∀ (rest pre : List api_RowV), (pre ++ rest).length ≤ 200000 →
    table_Validate.L2 e t (i : Int) r R n (i : Int) (pre ++ rest) ((pre ++ rest).length : Int) (pre.length : Int) = match fst1 (conf · r) pre.length rest with
      | some _ => some ((i : Int), 11, ())
      | none => table_Validate.L1 e t R n (IntKind.i64.wrap ((i : Int) + 1))
  | [], pre, h => by
    rw [table_Validate.L2_eq, table_Validate.SL2, cd_f (by simp)]
    rfl
  | x :: rest, pre, h => by
    have h' := h
    rw [len_mid] at h'
    have ih := val_L2 e t i r R n rest (pre ++ [x]) (by rw [← mid_shift]; exact h)
    rw [← mid_shift, len_snoc] at ih
    rw [show (pre ++ [x]).length = pre.length + 1 by simp] at ih
    rw [table_Validate.L2_eq, table_Validate.SL2, cd_t (by rw [len_mid]; omega), idx_mid]
    simp only [bind_some', conflict_val, wrap_succ (show pre.length < 9223372036854775807 by omega), ih, fst1]
    cases conf x r <;> simp
theorem rval_L2 (e : List api_EnumV) (t : api_TableV) (x : api_RowV) (more : List api_RowV) : ∀ (rest pre : List api_RowV), t.2.2.2.1 = pre ++ rest ++ x :: more → t.2.2.2.1.length ≤ 200000 →
    ref12_Validate.L2 e t ((pre ++ rest).length : Int) (pre.length : Int) = match fst1 (conf · x) pre.length rest with
      | some _ => some (((pre ++ rest).length : Int), 11, ())
      | none => ref12_Validate.L1 e t (IntKind.i64.wrap (((pre ++ rest).length : Int) + 1))
  | [], pre, eq, h => by
    rw [ref12_Validate.L2_eq, ref12_Validate.SL2, cd_f (by simp)]
    rfl
  | y :: rest, pre, eq, h => by
    have h' := h
    rw [eq] at h'
    simp only [List.length_append, List.length_cons] at h'
    have ih := rval_L2 e t x more rest (pre ++ [y]) (by rw [eq]; simp) h
    rw [← mid_shift, len_snoc] at ih
    rw [show (pre ++ [y]).length = pre.length + 1 by simp] at ih
    have i1 : idx t.2.2.2.1 (pre.length : Int) = some y := by rw [eq, List.append_assoc, List.cons_append]; exact idx_mid ..
    have i2 : idx t.2.2.2.1 ((pre ++ y :: rest).length : Int) = some x := by rw [eq]; exact idx_mid ..
    rw [ref12_Validate.L2_eq, ref12_Validate.SL2, cd_t (by rw [len_mid]; omega), i1, i2]
    simp only [bind_some', rconflict_val, wrap_succ (show pre.length < 9223372036854775807 by omega), ih, fst1]
    cases conf y x <;> simp
/-- What Validate comes to: a fault, or all rows are without. -/
def ValR (pre rest : List api_RowV) (z : Int × Int × Unit) : Prop := z = (0, 0, ()) ∧ (∀ a x b, rest = a ++ x :: b → ∀ y ∈ pre ++ a, conf y x = false) ∨ z.2.1 ≠ 0
theorem val_L1 (e : List api_EnumV) (t : api_TableV) : ∀ (rest pre : List api_RowV), t.2.2.2.1 = pre ++ rest → t.2.2.2.1.length ≤ 200000 →
    ∃ z, table_Validate.L1 e t (pre ++ rest) ((pre ++ rest).length : Int) (pre.length : Int) = some z ∧ ref12_Validate.L1 e t (pre.length : Int) = some z ∧ ValR pre rest z
  | [], pre, eq, h => by
    refine ⟨(0, 0, ()), ?_, ?_, .inl ⟨rfl, fun a x b h => by simp at h⟩⟩
    · rw [table_Validate.L1_eq, table_Validate.SL1, cd_f (by simp)]
    · rw [ref12_Validate.L1_eq, ref12_Validate.SL1, eq, cd_f (by simp)]
  | x :: rest, pre, eq, h => by
    have h' := h
    rw [eq, len_mid] at h'
    obtain ⟨z, z1, z2, z3⟩ := val_L1 e t rest (pre ++ [x]) (by rw [eq]; simp) h
    rw [← mid_shift, len_snoc] at z1
    rw [len_snoc] at z2
    obtain ⟨b, b1, b2⟩ := wrong_check x t e
    have i1 : idx t.2.2.2.1 (pre.length : Int) = some x := by rw [eq]; exact idx_mid ..
    have ht : t.2.2.2.1.take pre.length = pre := by rw [eq]; simp
    have r2 := rval_L2 e t x rest pre [] (by rw [eq]; rfl) h
    have c2 := val_L2 e t pre.length x (pre ++ x :: rest) ((pre ++ x :: rest).length : Int) pre [] (by simp; omega)
    simp only [List.nil_append, List.length_nil] at r2 c2
    cases b with
    | true =>
      refine ⟨((pre.length : Int), 3, ()), ?_, ?_, .inr (by simp)⟩
      · rw [table_Validate.L1_eq, table_Validate.SL1, cd_t (by rw [len_mid]; omega), idx_mid]
        simp only [bind_some', b2, cond_true]
        rfl
      · rw [ref12_Validate.L1_eq, ref12_Validate.SL1, cd_t (by rw [eq, len_mid]; omega), i1]
        simp only [bind_some', b1, cond_true]
    | false =>
      have s1 : table_Validate.L1 e t (pre ++ x :: rest) ((pre ++ x :: rest).length : Int) (pre.length : Int) = match fst1 (conf · x) 0 pre with
          | some _ => some ((pre.length : Int), 11, ())
          | none => table_Validate.L1 e t (pre ++ x :: rest) ((pre ++ x :: rest).length : Int) (IntKind.i64.wrap ((pre.length : Int) + 1)) := by
        rw [table_Validate.L1_eq, table_Validate.SL1, cd_t (by rw [len_mid]; omega), idx_mid]
        simp only [bind_some', b2, cond_false, Int.toNat_natCast, ht]
        rw [cd_3 (by omega) (by omega) (by rw [eq, len_mid]; omega)]
        exact c2
      have s2 : ref12_Validate.L1 e t (pre.length : Int) = match fst1 (conf · x) 0 pre with
          | some _ => some ((pre.length : Int), 11, ())
          | none => ref12_Validate.L1 e t (IntKind.i64.wrap ((pre.length : Int) + 1)) := by
        rw [ref12_Validate.L1_eq, ref12_Validate.SL1, cd_t (by rw [eq, len_mid]; omega), i1]
        simp only [bind_some', b1, cond_false]
        exact r2
      cases hf : fst1 (conf · x) 0 pre with
      | some k =>
        rw [hf] at s1 s2
        exact ⟨_, s1, s2, .inr (by simp)⟩
      | none =>
        rw [hf] at s1 s2
        simp only [wrap_succ (show pre.length < 9223372036854775807 by omega)] at s1 s2
        refine ⟨z, s1.trans z1, s2.trans z2, ?_⟩
        rcases z3 with ⟨e1, e2⟩ | e1
        · refine .inl ⟨e1, fun a y b hab => ?_⟩
          cases a with
          | nil =>
            simp only [List.nil_append, List.cons.injEq] at hab
            obtain ⟨rfl, rfl⟩ := hab
            simpa using (fst1_shift _ _ _).1 hf
          | cons a0 a =>
            simp only [List.cons_append, List.cons.injEq] at hab
            obtain ⟨rfl, hab⟩ := hab
            have := e2 a y b hab
            simpa using this
        · exact .inr e1
theorem validate_val (t : api_TableV) (e : List api_EnumV) : ∃ z, table_Validate t e = some z ∧ ref12_Validate t e = some z ∧ (z.2.1 = 0 → t.2.2.2.1.length ≤ 64 ∧ ∀ a x b, t.2.2.2.1 = a ++ x :: b → ∀ y ∈ a, conf y x = false) := by
  simp only [table_Validate, table_Validate.Se, table_Validate.J0_eq, table_Validate.SJ0, ref12_Validate, ref12_Validate.Se, ref12_Validate.J0_eq, ref12_Validate.SJ0, vtype_eq, rvtype_val, bind_some']
  by_cases h : (t.2.2.2.1.length : Int) > 64
  · rw [cd_t h, cd_t h]
    exact ⟨_, rfl, rfl, fun h => by cases h⟩
  · rw [cd_f h, cd_f h]
    cases vty t.2.1 e with
    | false => exact ⟨_, rfl, rfl, fun h => by cases h⟩
    | true =>
      cases vty t.2.2.1 e with
      | false => exact ⟨_, rfl, rfl, fun h => by cases h⟩
      | true =>
        simp only [Bool.not_true, cond_false]
        obtain ⟨z, z1, z2, z3⟩ := val_L1 e t t.2.2.2.1 [] rfl (by omega)
        refine ⟨z, by simpa using z1, by simpa using z2, fun h0 => ⟨by omega, ?_⟩⟩
        rcases z3 with ⟨_, z3⟩ | z3
        · simpa using z3
        · exact absurd h0 z3
theorem few_val (t : api_TableV) (n : Int) : law12_few t n = some (decide ((t.2.2.2.1.length : Int) ≤ n), ()) := rfl
theorem enumsFew_val (e : List api_EnumV) : law12_enumsFew e = some (decide ((e.length : Int) ≤ 20), ()) := rfl
theorem tableValidate_true (aw : law12_awake = some (true, ())) (t : api_TableV) (e : List api_EnumV) : law12_TableValidate t e = some (true, ()) := by
  simp only [law12_TableValidate, law12_TableValidate.Se, law12_TableValidate.J0_eq, law12_TableValidate.SJ0, few_val, enumsFew_val, aw, bind_some']
  by_cases h : (t.2.2.2.1.length : Int) ≤ 80
  · rw [decide_eq_true h]
    cases hd : decide ((e.length : Int) ≤ 20) with
    | false => rfl
    | true =>
      obtain ⟨z, z1, z2, _⟩ := validate_val t e
      simp only [z1, z2, first_val t (by omega), rfirst_val t (by omega), bind_some']
      simp
  · rw [decide_eq_false h]; rfl
end Go.Proofs.Ytgnigfnonoicmaa
