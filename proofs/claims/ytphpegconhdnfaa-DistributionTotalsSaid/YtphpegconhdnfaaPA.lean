import Derived.Test.YtphpegconhdnfaaPSortI
set_option maxRecDepth 100000
set_option linter.unusedVariables false
set_option linter.unusedSimpArgs false
namespace Go.Proofs.Ytphpegconhdnfaa
open Go Go.Lift
theorem rm8 {n : Nat} (h : n ≤ 1000000) : (decide (n * 8 ≤ room) && decide (0 < Ty.nc (.int .i64))) = true := by
  rw [decide_eq_true (by rw [room_eq]; omega)]; rfl
theorem idx_mid {α : Type} (pre : List α) (x : α) (rest : List α) : idx (pre ++ x :: rest) (pre.length : Int) = some x := by
  rw [idx_nat]; simp
theorem getD_mid {α : Type} (pre : List α) (x z : α) (rest : List α) : (pre ++ x :: rest).getD pre.length z = x := by
  simp [List.getD_eq_getElem?_getD]
theorem len_mid {α : Type} (pre : List α) (x : α) (rest : List α) : (pre ++ x :: rest).length = pre.length + (rest.length + 1) := by simp
theorem mid_shift {α : Type} (pre : List α) (x : α) (rest : List α) : pre ++ x :: rest = (pre ++ [x]) ++ rest := by simp
theorem len_snoc {α : Type} (pre : List α) (x : α) : ((pre ++ [x]).length : Int) = ((pre.length + 1 : Nat) : Int) := by simp
theorem few_val (l : List Int) : law59_few l = some (decide ((l.length : Int) ≤ 200), ()) := rfl
theorem perm_unique : ∀ {a b : List Int}, a.Perm b → a.Pairwise (· ≤ ·) → b.Pairwise (· ≤ ·) → a = b
  | [], b, h, _, _ => (List.nil_perm.1 h).symm
  | x :: a, [], h, _, _ => (List.perm_nil.1 h)
  | x :: a, y :: b, h, ha, hb => by
    have h1 : x ∈ y :: b := h.mem_iff.1 List.mem_cons_self
    have h2 : y ∈ x :: a := h.mem_iff.2 List.mem_cons_self
    have e : x = y := by
      rw [List.pairwise_cons] at ha hb
      have q1 : y ≤ x := (List.mem_cons.1 h1).elim (fun e => by omega) (hb.1 x)
      have q2 : x ≤ y := (List.mem_cons.1 h2).elim (fun e => by omega) (ha.1 y)
      omega
    subst e
    rw [perm_unique ((List.perm_cons x).1 h) (List.pairwise_cons.1 ha).2 (List.pairwise_cons.1 hb).2]
namespace RS
theorem step (i j : Nat) (d : List Int) (hj : j ≤ i) (hi : i < d.length) (hd : d.length ≤ 1000000) :
    ref59_Sorted.L1 d i j = if 0 < j then cond (decide (d.getD j 0 < d.getD (j - 1) 0)) (ref59_Sorted.L1 (swp 0 j (j - 1) d) i (j - 1 : Nat)) (ref59_Sorted.L0 d (i + 1 : Nat)) else ref59_Sorted.L0 d (i + 1 : Nat) := by
  rw [ref59_Sorted.L1_eq, ref59_Sorted.SL1]
  by_cases h : 0 < j
  · rw [if_pos h]
    simp (disch := omega) only [cd_t, cd_b, wrap64, ca1, cs1, Int.toNat_natCast]
    rw [ref59_Sorted.J2_eq, ref59_Sorted.SJ2]
    simp (disch := omega) only [cd_t, cd_b, wrap64, ca1, cs1, Int.toNat_natCast, List.length_set]
    rfl
  · rw [if_neg h]
    simp (disch := omega) only [cd_f, cd_b, wrap64, ca1, cs1, Int.toNat_natCast]
def St (a b : Nat) (d : List Int) : Prop := ∀ p q, a ≤ p → p < q → q < b → ¬ d.getD q 0 < d.getD p 0
theorem inner (i : Nat) : ∀ (n j : Nat) (d : List Int), j ≤ n → j ≤ i → i < d.length → d.length ≤ 1000000 →
      (∀ p q, p < q → q ≤ i → q ≠ j → ¬ d.getD q 0 < d.getD p 0) →
      ∃ d', ref59_Sorted.L1 d i j = ref59_Sorted.L0 d' (i + 1 : Nat) ∧ d'.Perm d ∧ d'.length = d.length ∧ St 0 (i + 1) d' := by
  intro n
  induction n with
  | zero =>
    intro j d hn hji hi hd inv
    rw [step i j d hji hi hd, if_neg (by omega)]
    exact ⟨d, rfl, .refl _, rfl, fun p q _ p2 p3 => inv p q p2 (by omega) (by omega)⟩
  | succ n ih =>
    intro j d hn hji hi hd inv
    rw [step i j d hji hi hd]
    by_cases h : 0 < j
    · rw [if_pos h]
      have gj : j < d.length := by omega
      have gj' : j - 1 < d.length := by omega
      by_cases e : d.getD j 0 < d.getD (j - 1) 0
      · rw [cd_t e]
        obtain ⟨d', h1, h2, h3, h4⟩ := ih (j - 1) (swp 0 j (j - 1) d) (by omega) (by omega) (by rw [swp_len]; exact hi) (by rw [swp_len]; exact hd) (by
          intro p q p2 p3 p4
          rw [swp_get gj gj', swp_get gj gj', if_neg p4]
          by_cases q1 : q = j
          · rw [if_pos q1]
            by_cases p5 : p = j - 1
            · rw [if_pos p5]; omega
            · rw [if_neg p5, if_neg (by omega)]
              exact inv p (j - 1) (by omega) (by omega) (by omega)
          · rw [if_neg q1]
            by_cases p5 : p = j - 1
            · rw [if_pos p5]; exact inv j q (by omega) p3 q1
            · rw [if_neg p5]
              by_cases p6 : p = j
              · rw [if_pos p6]; exact inv (j - 1) q (by omega) p3 q1
              · rw [if_neg p6]; exact inv p q p2 p3 q1)
        exact ⟨d', h1, h2.trans (swp_perm gj gj'), by rw [h3, swp_len], h4⟩
      · rw [cd_f e]
        refine ⟨d, rfl, .refl _, rfl, ?_⟩
        intro p q p1 p2 p3
        by_cases q1 : q = j
        · subst q1
          by_cases p5 : p = q - 1
          · rw [p5]; exact e
          · have := inv p (q - 1) (by omega) (by omega) (by omega)
            omega
        · exact inv p q p2 (by omega) q1
    · rw [if_neg h]
      exact ⟨d, rfl, .refl _, rfl, fun p q _ p2 p3 => inv p q p2 (by omega) (by omega)⟩
theorem outer : ∀ (n i : Nat) (d : List Int), d.length - i ≤ n → d.length ≤ 1000000 → St 0 i d →
      ∃ d', ref59_Sorted.L0 d i = some (d', ()) ∧ d'.Perm d ∧ d'.length = d.length ∧ St 0 d'.length d' := by
  intro n
  induction n with
  | zero =>
    intro i d hn hd inv
    rw [ref59_Sorted.L0_eq, ref59_Sorted.SL0, cd_f (by omega)]
    exact ⟨d, rfl, .refl _, rfl, fun p q p1 p2 p3 => inv p q p1 p2 (by omega)⟩
  | succ n ih =>
    intro i d hn hd inv
    rw [ref59_Sorted.L0_eq, ref59_Sorted.SL0]
    by_cases h : i < d.length
    · rw [cd_t (by omega)]
      obtain ⟨d1, e1, r1, l1, s1⟩ := inner i i i d (Nat.le_refl _) (Nat.le_refl _) h hd (fun p q p2 p3 p4 => inv p q (by omega) p2 (by omega))
      obtain ⟨d2, e2, r2, l2, s2⟩ := ih (i + 1) d1 (by omega) (by omega) s1
      exact ⟨d2, e1.trans e2, r2.trans r1, by omega, s2⟩
    · rw [cd_f (by omega)]
      exact ⟨d, rfl, .refl _, rfl, fun p q p1 p2 p3 => inv p q p1 p2 (by omega)⟩
end RS
theorem ref_sorted (v : List Int) (h : v.length ≤ 4096) : ∃ s, ref59_Sorted v = some (s, ()) ∧ s.Perm v ∧ s.Pairwise (· ≤ ·) := by
  obtain ⟨s, e, p, l, st⟩ := RS.outer v.length 1 v (by omega) (by omega) (fun p q p1 p2 p3 => by omega)
  refine ⟨s, ?_, p, ?_⟩
  · simp only [ref59_Sorted, ref59_Sorted.Se]
    rw [rm8 (by omega), cond_true]
    exact e
  · rw [List.pairwise_iff_getElem]
    intro i j hi hj hij
    have := st i j (by omega) hij hj
    rw [List.getD_eq_getElem?_getD, List.getD_eq_getElem?_getD, List.getElem?_eq_getElem hi, List.getElem?_eq_getElem hj] at this
    simp only [Option.getD_some] at this
    omega
theorem own_sorted (v : List Int) (h : v.length ≤ 4096) : ∃ s, slices_Sorted_int_slices_Values_int_int_1 (v, ()) = some (s, ()) ∧ s.Perm v ∧ s.Pairwise (· ≤ ·) := by
  obtain ⟨s, e, p, st⟩ := sort_int v (by omega)
  refine ⟨s, ?_, p, st⟩
  simp only [slices_Sorted_int_slices_Values_int_int_1, slices_Sorted_int_slices_Values_int_int_1.Se, slices_Collect_int_slices_Values_int_int_1]
  rw [if_pos (show v.length ≤ maxLen ∧ v.length * 8 ≤ 140737488355328 from ⟨by rw [maxLen_eq]; omega, by omega⟩), bind_some', e, bind_some']
/-- Both sorts give the one sorted list. -/
theorem both_sorted (v : List Int) (h : v.length ≤ 4096) : ∃ s, slices_Sorted_int_slices_Values_int_int_1 (v, ()) = some (s, ()) ∧ ref59_Sorted v = some (s, ()) ∧ s.Perm v ∧ s.Pairwise (· ≤ ·) := by
  obtain ⟨s, e, p, q⟩ := own_sorted v h
  obtain ⟨s', e', p', q'⟩ := ref_sorted v h
  have : s' = s := perm_unique (p'.trans p.symm) q' q
  subst this
  exact ⟨s', e, e', p, q⟩
/-- Are the arguments in bounds? -/
def qok (m : Nat) (k n : Int) : Prop := m ≠ 0 ∧ m ≤ 4096 ∧ 1 ≤ n ∧ n ≤ 1000 ∧ 0 ≤ k ∧ k ≤ n
instance (m : Nat) (k n : Int) : Decidable (qok m k n) := by unfold qok; infer_instance
end Go.Proofs.Ytphpegconhdnfaa
