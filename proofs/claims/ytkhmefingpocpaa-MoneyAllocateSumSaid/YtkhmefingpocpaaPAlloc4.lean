/- Plain laws of the lifted functions. -/
import Derived.Test.YtkhmefingpocpaaPAlloc3
set_option maxRecDepth 100000
set_option linter.unusedVariables false
set_option linter.unusedSimpArgs false
namespace Go.Proofs.Ytkhmefingpocpaa
open Go Go.Lift

/-! ### what an allocation keeps -/
/-- How often a part gets one more. -/
def more (A S : Int) (W : List Int) (P : List money_partV) (i : Nat) : Nat := ((P.take (A - (qs A S W).sum).toNat).filter (fun p => decide (p.1.toNat = i))).length

section
variable {A S : Int} {W : List Int} {P : List money_partV}

theorem filter_le_one : ∀ (l : List money_partV) (i : Nat), l.Pairwise (fun p q => p.1 ≠ q.1) → (∀ p ∈ l, 0 ≤ p.1) → (l.filter (fun p => decide (p.1.toNat = i))).length ≤ 1
  | [], i, _, _ => by simp
  | p :: l, i, hd, h0 => by
    obtain ⟨h1, h2⟩ := List.pairwise_cons.1 hd
    rw [List.filter_cons]
    by_cases c : p.1.toNat = i
    · rw [if_pos (by simpa using c)]
      have : l.filter (fun p => decide (p.1.toNat = i)) = [] := by
        rw [List.filter_eq_nil_iff]
        intro q hq hqi
        have := h1 q hq
        have := h0 p (List.mem_cons_self ..)
        have := h0 q (List.mem_cons_of_mem _ hq)
        simp only [decide_eq_true_eq] at hqi
        omega
      rw [this]; simp
    · rw [if_neg (by simpa using c)]
      exact filter_le_one l i h2 (fun q hq => h0 q (List.mem_cons_of_mem _ hq))

theorem more_le (h : Sorted A S W P) (i : Nat) : more A S W P i ≤ 1 :=
  filter_le_one _ i (h.distinct.sublist (List.take_sublist _ _)) (fun p hp => by
    obtain ⟨k, k1, k2⟩ := h.mem (List.mem_of_mem_take hp)
    rw [k2]
    show (0 : Int) ≤ k
    omega)

theorem more_iff (h : Sorted A S W P) {i : Nat} (hi : i < W.length) : 0 < more A S W P i ↔ ((i : Int), A * W.getD i 0 % S, ()) ∈ P.take (A - (qs A S W).sum).toNat := by
  unfold more
  rw [List.length_pos_iff_exists_mem]
  constructor
  · rintro ⟨p, hp⟩
    rw [List.mem_filter] at hp
    obtain ⟨k, k1, k2⟩ := h.mem (List.mem_of_mem_take hp.1)
    have hk : k = i := by
      have := hp.2
      rw [k2] at this
      simpa using this
    rw [← hk, ← k2]; exact hp.1
  · intro hp
    exact ⟨_, List.mem_filter.2 ⟨hp, by simp⟩⟩

/-- Where a part gets one more, every part ahead of it does. -/
theorem more_order (f : Fair A S W) (h : Sorted A S W P) {i k : Nat} (hi : i < W.length) (hk : k < W.length) (hik : i ≠ k) (hm : 0 < more A S W P i)
    (ho : A * W.getD i 0 % S < A * W.getD k 0 % S ∨ (A * W.getD k 0 % S = A * W.getD i 0 % S ∧ k < i)) : 0 < more A S W P k := by
  rw [more_iff h hi] at hm
  rw [more_iff h hk]
  have hmem := h.has hk
  have st := h.srt
  rw [← List.take_append_drop (A - (qs A S W).sum).toNat P] at hmem st
  rcases List.mem_append.1 hmem with g | g
  · exact g
  · exfalso
    have := (List.pairwise_append.1 st).2.2 _ hm _ g
    simp only [LS, decide_eq_false_iff_not] at this
    omega

theorem more_pos (f : Fair A S W) (h : Sorted A S W P) {i : Nat} (hi : i < W.length) (hm : 0 < more A S W P i) : 0 < A * W.getD i 0 % S := by
  rw [more_iff h hi] at hm
  obtain ⟨a, b, e⟩ := List.append_of_mem hm
  have hl := f.left
  have hp := h.pos f (p := ((i : Int), A * W.getD i 0 % S, ())) (dn := a) (tl := b ++ P.drop (A - (qs A S W).sum).toNat) (by
    have t := List.take_append_drop (A - (qs A S W).sum).toNat P
    rw [e, List.append_assoc, List.cons_append] at t
    exact t.symm) (by
    have : (P.take (A - (qs A S W).sum).toNat).length ≤ (A - (qs A S W).sum).toNat := by rw [List.length_take]; omega
    rw [e] at this
    simp at this
    omega)
  exact hp

theorem bump_sum : ∀ (ps : List money_partV) (out : List Int), (∀ p ∈ ps, 0 ≤ p.1 ∧ p.1 < out.length) → (bump out ps).sum = out.sum + ps.length
  | [], out, _ => by simp [bump]
  | p :: ps, out, h => by
    obtain ⟨h1, h2⟩ := h p (List.mem_cons_self ..)
    rw [bump, bump_sum ps _ (fun q hq => by rw [List.length_set]; exact h q (List.mem_cons_of_mem _ hq))]
    have hk : p.1.toNat < out.length := by omega
    have : ∀ (l : List Int) (k : Nat) (v : Int), k < l.length → (l.set k v).sum = l.sum - l.getD k 0 + v := by
      intro l
      induction l with
      | nil => intro k v hk; simp at hk
      | cons x l ih =>
        intro k v hk
        cases k with
        | zero => simp; omega
        | succ k =>
          have := ih k v (by simpa using hk)
          simp only [List.set_cons_succ, List.sum_cons, List.getD_cons_succ]
          omega
    rw [this out _ _ hk, List.length_cons]
    omega

theorem dealt_sum (f : Fair A S W) (h : Sorted A S W P) : (dealt A S W P).sum = A := by
  have hl := f.left
  have lenP := h.length
  rw [dealt, bump_sum _ _ (fun p hp => by
    obtain ⟨k, k1, k2⟩ := h.mem (List.mem_of_mem_take hp)
    rw [k2, qs_length]
    constructor
    · show (0 : Int) ≤ k; omega
    · show (k : Int) < W.length; omega), List.length_take, lenP]
  omega

theorem share_get {i : Nat} (hi : i < W.length) : (dealt A S W P).getD i 0 = A * W.getD i 0 / S + (more A S W P i : Int) := dealt_get hi

/-- The facts that the law asks of two shares. -/
theorem share_facts (f : Fair A S W) (h : Sorted A S W P) {k i : Nat} (hk : k < i) (hi : i < W.length) :
    (W.getD k 0 ≥ W.getD i 0 → (dealt A S W P).getD i 0 ≤ (dealt A S W P).getD k 0) ∧ (W.getD i 0 > W.getD k 0 → (dealt A S W P).getD k 0 ≤ (dealt A S W P).getD i 0) ∧
    (W.getD i 0 = W.getD k 0 → (dealt A S W P).getD k 0 - (dealt A S W P).getD i 0 ≤ 1) := by
  have hk' : k < W.length := by omega
  rw [share_get hi, share_get hk']
  have m1 := more_le h i
  have m2 := more_le h k
  have pos := f.pos
  have a0 := f.a0
  -- a heavier part: at least as much
  have heavy : ∀ x y : Nat, x < W.length → y < W.length → W.getD x 0 < W.getD y 0 → A * W.getD x 0 / S + (more A S W P x : Int) ≤ A * W.getD y 0 / S + (more A S W P y : Int) := by
    intro x y hx hy hw
    have n1 := more_le h x
    have hle : A * W.getD x 0 ≤ A * W.getD y 0 := Int.mul_le_mul_of_nonneg_left (by omega) a0
    have hq : A * W.getD x 0 / S ≤ A * W.getD y 0 / S := Int.ediv_le_ediv pos hle
    rcases Nat.eq_zero_or_pos (more A S W P x) with g | g
    · omega
    · rcases Int.lt_or_eq_of_le hq with g2 | g2
      · omega
      · have e1 := Int.emod_add_mul_ediv (A * W.getD x 0) S
        have e2 := Int.emod_add_mul_ediv (A * W.getD y 0) S
        rw [g2] at e1
        have hA : A * W.getD x 0 < A * W.getD y 0 := by
          have p1 := more_pos f h hx g
          rcases Int.lt_or_eq_of_le a0 with g3 | g3
          · exact Int.mul_lt_mul_of_pos_left hw g3
          · rw [← g3] at p1; simp at p1
        have := more_order f h hx hy (fun e => by rw [e] at hw; omega) g (.inl (by omega))
        omega
  refine ⟨fun hw => ?_, fun hw => heavy k i hk' hi hw, fun hw => ?_⟩
  · rcases Int.lt_or_eq_of_le (show W.getD i 0 ≤ W.getD k 0 from hw) with g | g
    · exact heavy i k hi hk' g
    · rw [g]
      rcases Nat.eq_zero_or_pos (more A S W P i) with g2 | g2
      · omega
      · have := more_order f h hi hk' (by omega) g2 (.inr ⟨by rw [g], hk⟩)
        omega
  · rw [hw]; omega
end

theorem fin_get (c : Int) (l : List Int) {i : Nat} (hi : i < l.length) : (fin c l).getD i 0 = if c < 0 then 0 - l.getD i 0 else l.getD i 0 := by
  unfold fin
  by_cases h : c < 0
  · rw [if_pos h, if_pos h, getD_nat (by simpa using hi), getD_nat hi]; simp
  · rw [if_neg h, if_neg h]

theorem fin_sum (c : Int) (l : List Int) : (fin c l).sum = if c < 0 then 0 - l.sum else l.sum := by
  unfold fin
  by_cases h : c < 0
  · rw [if_pos h, if_pos h]
    induction l with
    | nil => simp
    | cons x l ih => simp only [List.map_cons, List.sum_cons, ih]; omega
  · rw [if_neg h, if_neg h]

section
variable {c : Int} {S : Int} {W : List Int} {P : List money_partV}

theorem share_range (f : Fair (c.natAbs : Int) S W) (h : Sorted (c.natAbs : Int) S W P) {i : Nat} (hi : i < W.length) : 0 ≤ (dealt (c.natAbs : Int) S W P).getD i 0 ∧ (dealt (c.natAbs : Int) S W P).getD i 0 ≤ 1000000000000000 ∧ (W.getD i 0 = 0 → (dealt (c.natAbs : Int) S W P).getD i 0 = 0) ∧ (c = 0 → (dealt (c.natAbs : Int) S W P).getD i 0 = 0) := by
  rw [share_get hi]
  have m := more_le h i
  have hm := getD_mem hi
  have w0 := f.w0 _ hm
  have w1 := f.le _ hm
  have a0 := f.a0
  have a1 := f.a1
  have pos := f.pos
  generalize hA : (c.natAbs : Int) = A at *
  obtain ⟨b0, b1⟩ := q_le A S a0 pos w0 w1
  have zero : A * W.getD i 0 = 0 → A * W.getD i 0 / S + (more A S W P i : Int) = 0 := by
    intro e
    have : more A S W P i = 0 := by
      rcases Nat.eq_zero_or_pos (more A S W P i) with g | g
      · exact g
      · have := more_pos f h hi g
        rw [e] at this
        simp at this
    rw [e, this]; simp
  refine ⟨by omega, ?_, fun hw => zero (by rw [hw, Int.mul_zero]), fun hc => zero (by rw [← hA, hc]; simp)⟩
  rcases Nat.eq_zero_or_pos (more A S W P i) with g | g
  · omega
  · have p1 := more_pos f h hi g
    have e1 := Int.emod_add_mul_ediv (A * W.getD i 0) S
    have hle : A * W.getD i 0 ≤ A * S := Int.mul_le_mul_of_nonneg_left w1 a0
    have : A * W.getD i 0 / S < A := by
      refine Int.lt_of_mul_lt_mul_left (a := S) ?_ (by omega)
      rw [Int.mul_comm S A]
      omega
    omega

theorem asum_L2 (f : Fair (c.natAbs : Int) S W) (h : Sorted (c.natAbs : Int) S W P) (l : List Int) (el : l = fin c (dealt (c.natAbs : Int) S W P)) (sum : Int) {i : Nat} (hi : i < W.length) : ∀ (d k : Nat), k + d = i → law02_MoneyAllocateSum.L2 c W l sum i k = law02_MoneyAllocateSum.L0 c W l sum ((i + 1 : Nat) : Int)
  | 0, k, hk => by
    have fl := f.len
    rw [law02_MoneyAllocateSum.L2_eq, law02_MoneyAllocateSum.SL2, cd_f (by omega), wrap_succ (by omega)]
  | d + 1, k, hk => by
    have fl := f.len
    have hk' : k < W.length := by omega
    have ll : l.length = W.length := by rw [el, fin_length, dealt_length]
    have next := asum_L2 f h l el sum hi d (k + 1) (by omega)
    obtain ⟨f1, f2, f3⟩ := share_facts f h (k := k) (i := i) (by omega) hi
    obtain ⟨i0, i1, i2, i3⟩ := share_range f h hi
    obtain ⟨k0, k1, k2, k3⟩ := share_range f h hk'
    have gk : l.getD k 0 = if c < 0 then 0 - (dealt (c.natAbs : Int) S W P).getD k 0 else (dealt (c.natAbs : Int) S W P).getD k 0 := by rw [el, fin_get _ _ (by rw [dealt_length]; exact hk')]
    have gi : l.getD i 0 = if c < 0 then 0 - (dealt (c.natAbs : Int) S W P).getD i 0 else (dealt (c.natAbs : Int) S W P).getD i 0 := by rw [el, fin_get _ _ (by rw [dealt_length]; exact hi)]
    have ak : ref02_Abs (l.getD k 0) = some ((dealt (c.natAbs : Int) S W P).getD k 0, ()) := by
      rw [gk, ref02_Abs_val (by split <;> omega) (by split <;> omega)]
      congr 2
      split <;> omega
    have ai : ref02_Abs (l.getD i 0) = some ((dealt (c.natAbs : Int) S W P).getD i 0, ()) := by
      rw [gi, ref02_Abs_val (by split <;> omega) (by split <;> omega)]
      congr 2
      split <;> omega
    rw [getD_nat hk', getD_nat hi] at f1 f2 f3
    generalize (dealt (c.natAbs : Int) S W P).getD k 0 = X at *
    generalize (dealt (c.natAbs : Int) S W P).getD i 0 = Y at *
    rw [law02_MoneyAllocateSum.L2_eq, law02_MoneyAllocateSum.SL2, cd_t (by omega), cd_b (by omega) (by omega), Int.toNat_natCast, ak, bind_some', cd_b (by omega) (by omega), Int.toNat_natCast, ai]
    simp only [bind_some', idx_nat, List.getElem?_eq_getElem hk', List.getElem?_eq_getElem hi, wrap_succ (show k < 9223372036854775807 by omega), next]
    rw [wrap64 (n := X - Y) (by omega) (by omega)]
    by_cases c1 : W[k] ≥ W[i]
    · have := f1 c1
      rw [cd_t c1, cd_f (show ¬ X < Y by omega), cd_f (show ¬ W[i] > W[k] by omega)]
      by_cases c2 : W[i] = W[k]
      · have := f3 c2
        rw [beq_iff_eq.2 c2, cond_true, cd_f (show ¬ X - Y > 1 by omega)]
      · rw [beq_eq_false_iff_ne.2 c2, cond_false]
    · have := f2 (by omega)
      rw [cd_f c1, cd_t (show W[i] > W[k] by omega), cd_f (show ¬ Y < X by omega), show (W[i] == W[k]) = false from beq_eq_false_iff_ne.2 (by omega), cond_false]

theorem take_sum_succ (l : List Int) {i : Nat} (hi : i < l.length) : (l.take (i + 1)).sum = (l.take i).sum + l.getD i 0 := by
  rw [List.take_succ_eq_append_getElem hi, List.sum_append, List.sum_singleton, getD_nat hi]

theorem asum_L0 (aw : law02_awake = some (true, ())) (hc : (c.natAbs : Int) ≤ 1000000000000000) (f : Fair (c.natAbs : Int) S W) (h : Sorted (c.natAbs : Int) S W P) (l : List Int) (el : l = fin c (dealt (c.natAbs : Int) S W P)) : ∀ (d i : Nat), i + d = W.length → (((l.take i).sum).natAbs : Int) ≤ (i : Int) * 1000000000000000 → law02_MoneyAllocateSum.L0 c W l (l.take i).sum i = some (true, ()) := by
  intro d
  induction d with
  | zero =>
    intro i hi hb
    have ll : l.length = W.length := by rw [el, fin_length, dealt_length]
    have hs : (l.take i).sum = c := by
      rw [List.take_of_length_le (by omega), el, fin_sum, dealt_sum f h]
      split <;> omega
    rw [hs, law02_MoneyAllocateSum.L0_eq, law02_MoneyAllocateSum.SL0, cd_f (by omega), BEq.rfl, cond_true, aw]
    rfl
  | succ d ih =>
    intro i hi hb
    have fl := f.len
    have ll : l.length = W.length := by rw [el, fin_length, dealt_length]
    have hi' : i < W.length := by omega
    obtain ⟨i0, i1, i2, i3⟩ := share_range f h hi'
    have gi : l.getD i 0 = if c < 0 then 0 - (dealt (c.natAbs : Int) S W P).getD i 0 else (dealt (c.natAbs : Int) S W P).getD i 0 := by rw [el, fin_get _ _ (by rw [dealt_length]; exact hi')]
    have ts := take_sum_succ l (i := i) (by omega)
    have na : (((l.getD i 0).natAbs : Nat) : Int) ≤ 1000000000000000 := by rw [gi]; split <;> omega
    have J : law02_MoneyAllocateSum.J1 c W l (l.take i).sum i = some (true, ()) := by
      rw [law02_MoneyAllocateSum.J1_eq, law02_MoneyAllocateSum.SJ1, cd_b (by omega) (by omega), Int.toNat_natCast, wrap64 (n := (l.take i).sum + l.getD i 0) (by omega) (by omega), ← ts]
      have := asum_L2 f h l el (l.take (i + 1)).sum hi' i 0 (by omega)
      rw [show (0 : Int) = ((0 : Nat) : Int) from rfl, this]
      exact ih (i + 1) (by omega) (by rw [ts]; omega)
    rw [law02_MoneyAllocateSum.L0_eq, law02_MoneyAllocateSum.SL0, cd_t (by omega), cd_b (by omega) (by omega), Int.toNat_natCast, ref02_Beyond_val (by omega) (by omega), bind_some', decide_eq_false (by omega)]
    simp only [cond_false]
    rw [cd_b (by omega) (by omega)]
    simp only [bind_some', idx_nat, List.getElem?_eq_getElem hi', J]
    have tail : cond (W[i] == 0) (cond (decide (0 ≤ (i : Int)) && decide ((i : Int) < (l.length : Int))) (cond ((l.getD i 0) != 0) (some (false, ())) (some (true, ()))) none) (some (true, ())) = some (true, ()) := by
      by_cases c1 : W[i] = 0
      · have z : l.getD i 0 = 0 := by
          have := i2 (by rw [getD_nat hi']; exact c1)
          rw [gi, this]; simp
        rw [beq_iff_eq.2 c1, cond_true, cd_b (by omega) (by omega), z]; rfl
      · rw [beq_eq_false_iff_ne.2 c1]; rfl
    by_cases c2 : l.getD i 0 = 0
    · rw [show ((l.getD i 0) != 0) = false by rw [c2]; rfl, cond_false]
      rw [show ((l.getD i 0) != 0) = false by rw [c2]; rfl] at tail
      exact tail
    · have c3 : ((decide ((l.getD i 0) < 0)) == (decide (c < 0))) = true := by
        rw [beq_iff_eq, decide_eq_decide, gi]
        rw [gi] at c2
        by_cases c4 : c < 0
        · rw [if_pos c4] at c2 ⊢; omega
        · rw [if_neg c4] at c2 ⊢; omega
      rw [show ((l.getD i 0) != 0) = true from bne_iff_ne.2 c2, cond_true, cd_b (by omega) (by omega), c3]
      simp only [Bool.not_true, cond_false]
      rw [show ((l.getD i 0) != 0) = true from bne_iff_ne.2 c2] at tail
      exact tail

theorem moneyAllocateSum_true (aw : law02_awake = some (true, ())) (c : Int) (W : List Int) (hc : Ty.okv (.int .i64) c) : law02_MoneyAllocateSum c W = some (true, ()) := by
  have hc := okv_i64.1 hc
  simp only [law02_MoneyAllocateSum, law02_MoneyAllocateSum.Se, aw, bind_some']
  by_cases h : (W.length : Int) > 64
  · rw [cd_t h]
  rw [cd_f h]
  rcases alloc_both hc.1 hc.2 W (by omega) with ⟨e, e0, e1, e2⟩ | ⟨P, S, f, hS, e1, e2⟩
  · rw [e1]
    simp only [bind_some']
    rw [show (e != 0) = true from bne_iff_ne.2 e0]
    rfl
  · rw [e1]
    simp only [bind_some', bne_self_eq_false, cond_false]
    rw [show (((fin c (dealt (c.natAbs : Int) S W P)).length : Int) != (W.length : Int)) = false by rw [fin_length, dealt_length]; simp, cond_false]
    have := f.a1
    exact asum_L0 aw (by omega) f hS _ rfl W.length 0 (by omega) (by simp)
end

end Go.Proofs.Ytkhmefingpocpaa
