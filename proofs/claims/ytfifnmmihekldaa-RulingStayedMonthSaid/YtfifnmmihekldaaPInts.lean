import Derived.Test.YtfifnmmihekldaaPSortI
set_option maxRecDepth 100000
set_option linter.unusedVariables false
set_option linter.unusedSimpArgs false
namespace Go.Proofs.Ytfifnmmihekldaa
open Go Go.Lift
def SS (l : List Int) : Prop := l.Pairwise (· < ·)
theorem SS_snoc {l : List Int} {x : Int} : SS (l ++ [x]) ↔ SS l ∧ ∀ y ∈ l, y < x := by
  simp [SS, List.pairwise_append]
theorem mem_take_succ {o : List Int} {m : Nat} (h : m < o.length) (x : Int) : x ∈ o.take (m + 1) ↔ x ∈ o.take m ∨ x = o.getD m 0 := by
  rw [List.take_succ_eq_append_getElem h, List.mem_append, List.mem_singleton, getD_nat h]
theorem sorted_get {o : List Int} (h : o.Pairwise (· ≤ ·)) {i j : Nat} (hij : i ≤ j) (hj : j < o.length) : o.getD i 0 ≤ o.getD j 0 := by
  rw [getD_nat hj, getD_nat (show i < o.length by omega)]
  rcases Nat.eq_or_lt_of_le hij with e | g
  · subst e; exact Int.le_refl _
  · exact List.pairwise_iff_getElem.1 h i j (by omega) hj g
theorem sorted_take_last {o : List Int} (h : o.Pairwise (· ≤ ·)) {m : Nat} (hm : m < o.length) : ∀ y ∈ o.take m, y ≤ o.getD m 0 := by
  intro y hy
  obtain ⟨i, hi, e⟩ := List.mem_iff_getElem.1 hy
  rw [List.getElem_take] at e
  have hi' : i < m := by simp at hi; omega
  rw [← e, ← getD_nat (d := 0) (show i < o.length by omega)]
  exact sorted_get h (by omega) hm
theorem cd_3 {p q r : Prop} [Decidable p] [Decidable q] [Decidable r] {α : Type} {A B : α} (hp : p) (hq : q) (hr : r) : cond (decide p && (decide q && decide r)) A B = A := by simp [hp, hq, hr]
theorem compact_L1 (o : List Int) (ho : o.Pairwise (· ≤ ·)) (hl : o.length ≤ 1000000) (lo : Nat) (hlo : lo < o.length) :
    ∀ (n k2 k : Nat) (s : List Int), o.length - lo - k2 ≤ n → 1 ≤ k2 → k2 ≤ o.length - lo → k + 1 ≤ lo + k2 → 1 ≤ k → s.length = o.length → (∀ j, lo + k2 ≤ j + 1 → s.getD j 0 = o.getD j 0) → SS (s.take k) → (∀ x, x ∈ s.take k ↔ x ∈ o.take (lo + k2)) →
    ∃ c, slices_Compact_int_int.L1 s k lo (o.length - lo) k2 = some (c, ()) ∧ SS c ∧ ∀ x, x ∈ c ↔ x ∈ o
  | n, k2, k, s, hn, h1, h2, hk, hk1, hs, hag, hss, hm => by
    rw [slices_Compact_int_int.L1_eq, slices_Compact_int_int.SL1]
    by_cases c : k2 < o.length - lo
    · have e1 : IntKind.i64.wrap ((k2 : Int) - 1) = ((k2 - 1 : Nat) : Int) := by rw [wrap64 (by omega) (by omega)]; omega
      rw [cd_t (by omega), cd_b (by omega) (by omega), e1, cd_b (by omega) (by omega), wrap_succ (by omega), wrap_succ (by omega)]
      simp only [Int.toNat_natCast]
      rw [hag (lo + k2) (by omega), hag (lo + (k2 - 1)) (by omega)]
      have hlast := sorted_take_last ho (m := lo + k2) (by omega)
      have mm := mem_take_succ (o := o) (m := lo + k2) (by omega)
      cases n with
      | zero => omega
      | succ n =>
      by_cases d : o.getD (lo + k2) 0 = o.getD (lo + (k2 - 1)) 0
      · rw [show ((o.getD (lo + k2) 0) != (o.getD (lo + (k2 - 1)) 0)) = false by rw [d, bne_self_eq_false], cond_false]
        refine compact_L1 o ho hl lo hlo n (k2 + 1) k s (by omega) (by omega) (by omega) (by omega) hk1 hs (fun j hj => hag j (by omega)) hss (fun x => ?_)
        rw [hm x, ← Nat.add_assoc, mm x]
        refine ⟨.inl, fun h => ?_⟩
        rcases h with h | h
        · exact h
        · have := (mem_take_succ (o := o) (m := lo + (k2 - 1)) (by omega) x).2 (.inr (by rw [h, d]))
          rwa [show lo + (k2 - 1) + 1 = lo + k2 by omega] at this
      · rw [show ((o.getD (lo + k2) 0) != (o.getD (lo + (k2 - 1)) 0)) = true from bne_iff_ne.2 d, cond_true, cd_b (by omega) (by omega), cd_b (by omega) (by omega)]
        have hkl : k < s.length := by omega
        have ht : (s.set k (o.getD (lo + k2) 0)).take (k + 1) = s.take k ++ [o.getD (lo + k2) 0] := by
          rw [List.take_succ_eq_append_getElem (by simpa using hkl), List.getElem_set_self, List.take_set_of_le (Nat.le_refl _)]
        refine compact_L1 o ho hl lo hlo n (k2 + 1) (k + 1) _ (by omega) (by omega) (by omega) (by omega) (by omega) (by simpa using hs) (fun j hj => ?_) ?_ (fun x => ?_)
        · rw [getD_set_if, if_neg (by omega)]
          exact hag j (by omega)
        · rw [ht, SS_snoc]
          refine ⟨hss, fun y hy => ?_⟩
          have h3 := hlast y ((hm y).1 hy)
          have h4 : y ≤ o.getD (lo + (k2 - 1)) 0 := by
            have h5 := (hm y).1 hy
            rw [show lo + k2 = lo + (k2 - 1) + 1 by omega, mem_take_succ (by omega)] at h5
            rcases h5 with h5 | h5
            · exact sorted_take_last ho (by omega) y h5
            · rw [h5]; exact Int.le_refl _
          have h6 := sorted_get ho (show lo + (k2 - 1) ≤ lo + k2 by omega) (by omega)
          omega
        · rw [ht, List.mem_append, List.mem_singleton, hm x, ← Nat.add_assoc, mm x]
    · have hk2 : lo + k2 = o.length := by omega
      rw [cd_f (by omega), cd_3 (by omega) (by omega) (by omega)]
      simp only [Int.toNat_natCast]
      rw [cd_t (by omega)]
      have e : (s.take k ++ (List.replicate (s.length - k) 0 ++ s.drop (k + (s.length - k)))).take k = s.take k := List.take_left' (by simp; omega)
      have el : (s.take k ++ (List.replicate (s.length - k) 0 ++ s.drop (k + (s.length - k)))).length = s.length := by simp; omega
      rw [e, cd_3 (by omega) (by omega) (by rw [el]; omega)]
      refine ⟨_, rfl, hss, fun x => ?_⟩
      rw [hm x, hk2, List.take_length]
theorem compact_L0 (o : List Int) (ho : o.Pairwise (· ≤ ·)) (hl : o.length ≤ 1000000) : ∀ (n k : Nat), o.length - k ≤ n → 1 ≤ k → k ≤ o.length → SS (o.take k) →
    ∃ c, slices_Compact_int_int.L0 o k = some (c, ()) ∧ SS c ∧ ∀ x, x ∈ c ↔ x ∈ o
  | n, k, hn, h1, h2, hs => by
    rw [slices_Compact_int_int.L0_eq, slices_Compact_int_int.SL0]
    by_cases c : k < o.length
    · have e1 : IntKind.i64.wrap ((k : Int) - 1) = ((k - 1 : Nat) : Int) := by rw [wrap64 (by omega) (by omega)]; omega
      rw [cd_t (by omega), cd_b (by omega) (by omega), e1, cd_b (by omega) (by omega), wrap_succ (by omega)]
      simp only [Int.toNat_natCast]
      by_cases d : o.getD k 0 = o.getD (k - 1) 0
      · rw [show ((o.getD k 0) == (o.getD (k - 1) 0)) = true from beq_iff_eq.2 d, cond_true, cd_3 (by omega) (by omega) (by omega)]
        have := compact_L1 o ho hl k c (o.length - k) 1 k o (by omega) (by omega) (by omega) (by omega) h1 rfl (fun j _ => rfl) hs (fun x => by
          rw [mem_take_succ c]
          refine ⟨.inl, fun h => ?_⟩
          rcases h with h | h
          · exact h
          · have := (mem_take_succ (o := o) (m := k - 1) (by omega) x).2 (.inr (by rw [h, d]))
            rwa [show k - 1 + 1 = k by omega] at this)
        exact this
      · rw [show ((o.getD k 0) == (o.getD (k - 1) 0)) = false from beq_eq_false_iff_ne.2 d, cond_false]
        cases n with
        | zero => omega
        | succ n =>
        refine compact_L0 o ho hl n (k + 1) (by omega) (by omega) (by omega) ?_
        rw [List.take_succ_eq_append_getElem c, SS_snoc]
        refine ⟨hs, fun y hy => ?_⟩
        have h4 : y ≤ o.getD (k - 1) 0 := by
          rw [show k = k - 1 + 1 by omega, mem_take_succ (by omega)] at hy
          rcases hy with h5 | h5
          · exact sorted_take_last ho (by omega) y h5
          · rw [h5]; exact Int.le_refl _
        have h6 := sorted_get ho (show k - 1 ≤ k by omega) c
        rw [← getD_nat (d := 0) c]
        omega
    · rw [cd_f (by omega)]
      rw [List.take_of_length_le (by omega)] at hs
      exact ⟨o, rfl, hs, fun x => Iff.rfl⟩
/-- Compact of a sorted list: each value once. -/
theorem compact_val {o : List Int} (ho : o.Pairwise (· ≤ ·)) (hl : o.length ≤ 1000000) : ∃ c, slices_Compact_int_int o = some (c, ()) ∧ SS c ∧ ∀ x, x ∈ c ↔ x ∈ o := by
  simp only [slices_Compact_int_int, slices_Compact_int_int.Se]
  by_cases h : o.length < 2
  · rw [cd_t (by omega)]
    refine ⟨o, rfl, ?_, fun x => Iff.rfl⟩
    match o, h with
    | [], _ => exact .nil
    | [x], _ => exact List.pairwise_singleton _ _
  · rw [cd_f (by omega)]
    exact compact_L0 o ho hl o.length 1 (by omega) (by omega) (by omega) (by
      match o, h with
      | x :: o, _ => exact List.pairwise_singleton _ _)
end Go.Proofs.Ytfifnmmihekldaa
