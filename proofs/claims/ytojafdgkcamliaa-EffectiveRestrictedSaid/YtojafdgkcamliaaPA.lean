import Derived.Test.YtojafdgkcamliaaPD5
set_option maxRecDepth 100000
set_option linter.unusedVariables false
set_option linter.unusedSimpArgs false
namespace Go.Proofs.Ytojafdgkcamliaa
open Go Go.Lift
/-- The places, counted from n on, of the elements of which p holds. -/
def sel {α : Type} (p : α → Bool) : Nat → List α → List Int
  | _, [] => []
  | n, x :: l => cond (p x) ((n : Int) :: sel p (n + 1) l) (sel p (n + 1) l)
theorem sel_bd {α : Type} (p : α → Bool) : ∀ (l : List α) (n : Nat), (∀ i ∈ sel p n l, (n : Int) ≤ i ∧ i < ((n + l.length : Nat) : Int)) ∧ (sel p n l).Pairwise (· < ·) ∧ (sel p n l).length ≤ l.length
  | [], n => by simp [sel]
  | x :: l, n => by
    obtain ⟨h1, h2, h3⟩ := sel_bd p l (n + 1)
    rw [sel]
    cases p x with
    | true =>
      rw [cond_true]
      refine ⟨fun i hi => ?_, List.pairwise_cons.2 ⟨fun i hi => ?_, h2⟩, by simp; omega⟩
      · rcases List.mem_cons.1 hi with h | h
        · simp only [List.length_cons]; omega
        · have := h1 i h
          simp only [List.length_cons]; omega
      · have := h1 i hi
        omega
    | false =>
      rw [cond_false]
      refine ⟨fun i hi => ?_, h2, by simp; omega⟩
      have := h1 i hi
      simp only [List.length_cons]; omega
/-- The place of a number, from n on; -1 if it is not there. -/
def pos (v : Int) : Nat → List Int → Int
  | _, [] => -1
  | n, x :: l => cond (x == v) (n : Int) (pos v (n + 1) l)
theorem index_L0 (v : Int) : ∀ (rest pre : List Int), (pre ++ rest).length ≤ 1000000 →
    slices_Index_int_int.L0 (pre ++ rest) v ((pre ++ rest).length : Int) (pre.length : Int) = some (pos v pre.length rest, ())
  | [], pre, h => by
    rw [slices_Index_int_int.L0_eq, slices_Index_int_int.SL0, cd_f (by simp)]
    rfl
  | x :: rest, pre, h => by
    have h' := h
    rw [len_mid] at h'
    have ih := index_L0 v rest (pre ++ [x]) (by rw [← mid_shift]; exact h)
    rw [← mid_shift, len_snoc, show (pre ++ [x]).length = pre.length + 1 by simp] at ih
    rw [slices_Index_int_int.L0_eq, slices_Index_int_int.SL0, cd_t (by rw [len_mid]; omega), idx_mid]
    simp only [bind_some', wrap_succ (show pre.length < 9223372036854775807 by omega), ih, pos]
    by_cases e : x = v
    · subst e; simp
    · rw [show (v == x) = false by simpa using Ne.symm e, show (x == v) = false by simpa using e]; rfl
theorem index_val (l : List Int) (v : Int) (h : l.length ≤ 1000000) : slices_Index_int_int l v = some (pos v 0 l, ()) := by
  simp only [slices_Index_int_int, slices_Index_int_int.Se]
  exact index_L0 v l [] (by simpa using h)
def frc (def_1 date : Int) (r : api_RuleV) : Bool := (r.2.1 == def_1) && inD r.2.2.2.2.1 date
theorem rulesOn_L0 (def_1 date : Int) : ∀ (rest pre : List api_RuleV) (out : List Int), (pre ++ rest).length ≤ 1000 → out.length ≤ pre.length →
    effective_RulesOn.L0 def_1 date out (pre ++ rest) ((pre ++ rest).length : Int) (pre.length : Int) = some (out ++ sel (frc def_1 date) pre.length rest, ())
  | [], pre, out, h, ho => by
    rw [effective_RulesOn.L0_eq, effective_RulesOn.SL0, cd_f (by simp)]
    simp [sel]
  | x :: rest, pre, out, h, ho => by
    have h' := h
    rw [len_mid] at h'
    have ih := fun out => rulesOn_L0 def_1 date rest (pre ++ [x]) out (by rw [← mid_shift]; exact h)
    rw [← mid_shift, len_snoc, show (pre ++ [x]).length = pre.length + 1 by simp] at ih
    rw [effective_RulesOn.L0_eq, effective_RulesOn.SL0, cd_t (by rw [len_mid]; omega), idx_mid]
    simp only [bind_some', contains_val, wrap_succ (show pre.length < 9223372036854775807 by omega), rm8 (show out.length + 1 ≤ 1000000 by omega), cond_true, sel, frc]
    have i1 := ih out (by omega)
    have i2 := ih (out ++ [(pre.length : Int)]) (by simp; omega)
    cases (x.2.1 == def_1) with
    | false => simpa using i1
    | true =>
      cases inD x.2.2.2.2.1 date with
      | false => simpa using i1
      | true => simpa using i2
theorem rulesOn_val (s : api_ScopeV) (def_1 date : Int) (h : s.2.2.2.2.1.length ≤ 1000) : effective_RulesOn s def_1 date = some (sel (frc def_1 date) 0 s.2.2.2.2.1, ()) := by
  simp only [effective_RulesOn, effective_RulesOn.Se]
  exact rulesOn_L0 def_1 date s.2.2.2.2.1 [] [] (by simpa using h) (by simp)
/-- The place of the nearest ancestor of rule i that is kept. -/
def anc (R : List api_RuleV) (kept : List Int) : Nat → Nat → Int
  | 0, _ => -1
  | f + 1, i => match R[i]? with
    | none => -1
    | some r => if r.2.2.1 < 0 ∨ r.2.2.1 ≥ (i : Int) then -1 else if 0 ≤ pos r.2.2.1 0 kept then pos r.2.2.1 0 kept else anc R kept f r.2.2.1.toNat
theorem ancestor_L0 (s : api_ScopeV) (kept : List Int) (hk : kept.length ≤ 1000000) : ∀ (f i : Nat), i < f → i < s.2.2.2.2.1.length → effective_ancestor.L0 (i : Int) kept s = some (anc s.2.2.2.2.1 kept f i, ())
  | 0, i, h, _ => by omega
  | f + 1, i, h, hi => by
    have e : s.2.2.2.2.1[i]? = some s.2.2.2.2.1[i] := List.getElem?_eq_getElem hi
    rw [effective_ancestor.L0_eq, effective_ancestor.SL0, idx_nat, anc, e]
    generalize s.2.2.2.2.1[i] = r
    simp only [bind_some', effective_ancestor.J1_eq, effective_ancestor.SJ1, index_val kept _ hk]
    by_cases h1 : r.2.2.1 < 0
    · rw [cd_t h1, if_pos (.inl h1)]
    · rw [cd_f h1]
      by_cases h2 : r.2.2.1 ≥ (i : Int)
      · rw [cd_t h2, if_pos (.inr h2)]
      · rw [cd_f h2, if_neg (by omega)]
        by_cases h3 : 0 ≤ pos r.2.2.1 0 kept
        · rw [cd_t h3, if_pos h3]
        · rw [cd_f h3, if_neg h3]
          obtain ⟨q, hq⟩ : ∃ q : Nat, r.2.2.1 = (q : Int) := ⟨r.2.2.1.toNat, by omega⟩
          rw [hq, Int.toNat_natCast]
          exact ancestor_L0 s kept hk f q (by omega) (by omega)
theorem ancestor_val (s : api_ScopeV) (kept : List Int) (hk : kept.length ≤ 1000000) {i : Nat} (hi : i < s.2.2.2.2.1.length) : effective_ancestor s (i : Int) kept = some (anc s.2.2.2.2.1 kept s.2.2.2.2.1.length i, ()) := by
  simp only [effective_ancestor, effective_ancestor.Se]
  exact ancestor_L0 s kept hk _ i hi hi
def rule0 : api_RuleV := ([], 0, 0, 0, (0, 0, ()), [], [], [], ())
theorem idx_getD {α : Type} {l : List α} {k : Int} (z : α) (h0 : 0 ≤ k) (h1 : k < l.length) : idx l k = some (l.getD k.toNat z) := by
  obtain ⟨q, rfl⟩ : ∃ q : Nat, k = (q : Int) := ⟨k.toNat, by omega⟩
  rw [idx_nat, Int.toNat_natCast, List.getD_eq_getElem?_getD, List.getElem?_eq_getElem (by omega)]
  rfl
/-- The rules of a definition in force on a date. -/
def onL (s : api_ScopeV) (def_1 date : Int) : List Int := sel (frc def_1 date) 0 s.2.2.2.2.1
theorem onL_bd (s : api_ScopeV) (def_1 date : Int) : (∀ k ∈ onL s def_1 date, 0 ≤ k ∧ k < (s.2.2.2.2.1.length : Int)) ∧ (onL s def_1 date).Pairwise (· < ·) ∧ (onL s def_1 date).length ≤ s.2.2.2.2.1.length := by
  obtain ⟨h1, h2, h3⟩ := sel_bd (frc def_1 date) s.2.2.2.2.1 0
  exact ⟨fun k hk => by have := h1 k hk; omega, h2, h3⟩
end Go.Proofs.Ytojafdgkcamliaa
