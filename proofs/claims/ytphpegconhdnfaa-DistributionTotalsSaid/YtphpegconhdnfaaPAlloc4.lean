import Derived.Test.YtphpegconhdnfaaPAlloc3
set_option maxRecDepth 100000
set_option linter.unusedVariables false
set_option linter.unusedSimpArgs false
namespace Go.Proofs.Ytphpegconhdnfaa
open Go Go.Lift
/-- How often a part gets one more. -/
def more (A S : Int) (W : List Int) (P : List money_partV) (i : Nat) : Nat := ((P.take (A - (qs A S W).sum).toNat).filter (fun p => decide (p.1.toNat = i))).length
section
variable {A S : Int} {W : List Int} {P : List money_partV}
theorem filter_le_one : ∀ (l : List money_partV) (i : Nat), l.Pairwise (fun p q => p.1 ≠ q.1) → (∀ p ∈ l, 0 ≤ p.1) → (l.filter (fun p => decide (p.1.toNat = i))).length ≤ 1
  | [], i, _, _ => by simp
  | p :: l, i, hd, h0 => by
    obtain ⟨h1, h2⟩ := List.pairwise_cons.1 hd
    rw [List.filter_cons]
    by_cases c : p.1.toNat = i
    · rw [if_pos (by simpa using c)]
      have : l.filter (fun p => decide (p.1.toNat = i)) = [] := by
        rw [List.filter_eq_nil_iff]
        intro q hq hqi
        have := h1 q hq
        have := h0 p (List.mem_cons_self ..)
        have := h0 q (List.mem_cons_of_mem _ hq)
        simp only [decide_eq_true_eq] at hqi
        omega
      rw [this]; simp
    · rw [if_neg (by simpa using c)]
      exact filter_le_one l i h2 (fun q hq => h0 q (List.mem_cons_of_mem _ hq))
theorem more_le (h : Sorted A S W P) (i : Nat) : more A S W P i ≤ 1 :=
  filter_le_one _ i (h.distinct.sublist (List.take_sublist _ _)) (fun p hp => by
    obtain ⟨k, k1, k2⟩ := h.mem (List.mem_of_mem_take hp)
    rw [k2]
    show (0 : Int) ≤ k
    omega)
theorem more_iff (h : Sorted A S W P) {i : Nat} (hi : i < W.length) : 0 < more A S W P i ↔ ((i : Int), A * W.getD i 0 % S, ()) ∈ P.take (A - (qs A S W).sum).toNat := by
  unfold more
  rw [List.length_pos_iff_exists_mem]
  constructor
  · rintro ⟨p, hp⟩
    rw [List.mem_filter] at hp
    obtain ⟨k, k1, k2⟩ := h.mem (List.mem_of_mem_take hp.1)
    have hk : k = i := by
      have := hp.2
      rw [k2] at this
      simpa using this
    rw [← hk, ← k2]; exact hp.1
  · intro hp
    exact ⟨_, List.mem_filter.2 ⟨hp, by simp⟩⟩
theorem more_pos (f : Fair A S W) (h : Sorted A S W P) {i : Nat} (hi : i < W.length) (hm : 0 < more A S W P i) : 0 < A * W.getD i 0 % S := by
  rw [more_iff h hi] at hm
  obtain ⟨a, b, e⟩ := List.append_of_mem hm
  have hl := f.left
  have hp := h.pos f (p := ((i : Int), A * W.getD i 0 % S, ())) (dn := a) (tl := b ++ P.drop (A - (qs A S W).sum).toNat) (by
    have t := List.take_append_drop (A - (qs A S W).sum).toNat P
    rw [e, List.append_assoc, List.cons_append] at t
    exact t.symm) (by
    have : (P.take (A - (qs A S W).sum).toNat).length ≤ (A - (qs A S W).sum).toNat := by rw [List.length_take]; omega
    rw [e] at this
    simp at this
    omega)
  exact hp
theorem bump_sum : ∀ (ps : List money_partV) (out : List Int), (∀ p ∈ ps, 0 ≤ p.1 ∧ p.1 < out.length) → (bump out ps).sum = out.sum + ps.length
  | [], out, _ => by simp [bump]
  | p :: ps, out, h => by
    obtain ⟨h1, h2⟩ := h p (List.mem_cons_self ..)
    rw [bump, bump_sum ps _ (fun q hq => by rw [List.length_set]; exact h q (List.mem_cons_of_mem _ hq))]
    have hk : p.1.toNat < out.length := by omega
    have : ∀ (l : List Int) (k : Nat) (v : Int), k < l.length → (l.set k v).sum = l.sum - l.getD k 0 + v := by
      intro l
      induction l with
      | nil => intro k v hk; simp at hk
      | cons x l ih =>
        intro k v hk
        cases k with
        | zero => simp; omega
        | succ k =>
          have := ih k v (by simpa using hk)
          simp only [List.set_cons_succ, List.sum_cons, List.getD_cons_succ]
          omega
    rw [this out _ _ hk, List.length_cons]
    omega
theorem dealt_sum (f : Fair A S W) (h : Sorted A S W P) : (dealt A S W P).sum = A := by
  have hl := f.left
  have lenP := h.length
  rw [dealt, bump_sum _ _ (fun p hp => by
    obtain ⟨k, k1, k2⟩ := h.mem (List.mem_of_mem_take hp)
    rw [k2, qs_length]
    constructor
    · show (0 : Int) ≤ k; omega
    · show (k : Int) < W.length; omega), List.length_take, lenP]
  omega
theorem share_get {i : Nat} (hi : i < W.length) : (dealt A S W P).getD i 0 = A * W.getD i 0 / S + (more A S W P i : Int) := dealt_get hi
end
section
variable {c : Int} {S : Int} {W : List Int} {P : List money_partV}
theorem share_range (f : Fair (c.natAbs : Int) S W) (h : Sorted (c.natAbs : Int) S W P) {i : Nat} (hi : i < W.length) : 0 ≤ (dealt (c.natAbs : Int) S W P).getD i 0 ∧ (dealt (c.natAbs : Int) S W P).getD i 0 ≤ 1000000000000000 ∧ (W.getD i 0 = 0 → (dealt (c.natAbs : Int) S W P).getD i 0 = 0) ∧ (c = 0 → (dealt (c.natAbs : Int) S W P).getD i 0 = 0) := by
  rw [share_get hi]
  have m := more_le h i
  have hm := getD_mem hi
  have w0 := f.w0 _ hm
  have w1 := f.le _ hm
  have a0 := f.a0
  have a1 := f.a1
  have pos := f.pos
  generalize hA : (c.natAbs : Int) = A at *
  obtain ⟨b0, b1⟩ := q_le A S a0 pos w0 w1
  have zero : A * W.getD i 0 = 0 → A * W.getD i 0 / S + (more A S W P i : Int) = 0 := by
    intro e
    have : more A S W P i = 0 := by
      rcases Nat.eq_zero_or_pos (more A S W P i) with g | g
      · exact g
      · have := more_pos f h hi g
        rw [e] at this
        simp at this
    rw [e, this]; simp
  refine ⟨by omega, ?_, fun hw => zero (by rw [hw, Int.mul_zero]), fun hc => zero (by rw [← hA, hc]; simp)⟩
  rcases Nat.eq_zero_or_pos (more A S W P i) with g | g
  · omega
  · have p1 := more_pos f h hi g
    have e1 := Int.emod_add_mul_ediv (A * W.getD i 0) S
    have hle : A * W.getD i 0 ≤ A * S := Int.mul_le_mul_of_nonneg_left w1 a0
    have : A * W.getD i 0 / S < A := by
      refine Int.lt_of_mul_lt_mul_left (a := S) ?_ (by omega)
      rw [Int.mul_comm S A]
      omega
    omega
end
end Go.Proofs.Ytphpegconhdnfaa
