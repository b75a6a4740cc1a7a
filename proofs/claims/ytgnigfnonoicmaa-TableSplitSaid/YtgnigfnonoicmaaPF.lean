import Derived.Test.YtgnigfnonoicmaaPBR
set_option maxRecDepth 100000
set_option linter.unusedVariables false
set_option linter.unusedSimpArgs false
namespace Go.Proofs.Ytgnigfnonoicmaa
open Go Go.Lift
theorem rm40 {n : Nat} (h : n ≤ 1000000) : (decide (n * 40 ≤ room) && decide (0 < Ty.nc (.pair (.pair (.int .i64) (.pair (.int .i64) .unit)) (.pair (.int .i64) (.pair (.int .i64) (.pair (.int .i64) .unit)))))) = true := by
  rw [room_eq, decide_eq_true (by omega)]; rfl
/-- A row, divided at a key that lies within. -/
def spl1 (k : Int) (x : api_RowV) : List api_RowV := if x.2.1 < k ∧ k < x.2.2.1 then [(x.1, x.2.1, k, x.2.2.2.1, ()), (x.1, k, x.2.2.1, x.2.2.2.1, ())] else [x]
theorem spl1_len (k : Int) (x : api_RowV) : (spl1 k x).length ≤ 2 := by
  unfold spl1; split <;> simp
theorem split_L0 (k : Int) : ∀ (rest pre out : List api_RowV), (pre ++ rest).length ≤ 1000 → out.length ≤ 2 * pre.length →
    law12_split.L0 (pre ++ rest) k out (pre.length : Int) = some (out ++ rest.flatMap (spl1 k), ())
  | [], pre, out, h, ho => by
    rw [law12_split.L0_eq, law12_split.SL0, cd_f (by simp)]
    simp
  | x :: rest, pre, out, h, ho => by
    have h' := h
    rw [len_mid] at h'
    have ih := fun out => split_L0 k rest (pre ++ [x]) out (by rw [← mid_shift]; exact h)
    rw [← mid_shift, len_snoc, show (pre ++ [x]).length = pre.length + 1 by simp] at ih
    rw [law12_split.L0_eq, law12_split.SL0, cd_t (by rw [len_mid]; omega), idx_mid]
    simp only [bind_some', law12_split.J1_eq, law12_split.SJ1, idx_mid, rm40 (show out.length + 2 ≤ 1000000 by omega), rm40 (show out.length + 1 ≤ 1000000 by omega), cond_true, wrap_succ (show pre.length < 9223372036854775807 by omega), List.flatMap_cons]
    have s : spl1 k x = if x.2.1 < k ∧ k < x.2.2.1 then [(x.1, x.2.1, k, x.2.2.2.1, ()), (x.1, k, x.2.2.1, x.2.2.2.1, ())] else [x] := rfl
    by_cases h1 : x.2.1 < k
    · rw [cd_t h1]
      by_cases h2 : k < x.2.2.1
      · rw [cd_t h2, ih _ (by simp; omega), s, if_pos ⟨h1, h2⟩]
        simp
      · rw [cd_f h2, ih _ (by simp; omega), s, if_neg (fun h => h2 h.2)]
        simp
    · rw [cd_f h1, cond_false, ih _ (by simp; omega), s, if_neg (fun h => h1 h.1)]
      simp
theorem split_val (l : List api_RowV) (k : Int) (h : l.length ≤ 1000) : law12_split l k = some (l.flatMap (spl1 k), ()) := by
  simp only [law12_split, law12_split.Se]
  exact split_L0 k l [] [] (by simpa using h) (by simp)
theorem split_len (l : List api_RowV) (k : Int) : (l.flatMap (spl1 k)).length ≤ 2 * l.length := by
  induction l with
  | nil => simp
  | cons x l ih =>
    have := spl1_len k x
    simp only [List.flatMap_cons, List.length_append, List.length_cons]
    omega
theorem spl1_N {l : List api_RowV} (k : Int) (h : okN l) : okN (l.flatMap (spl1 k)) := by
  intro y hy
  rw [List.mem_flatMap] at hy
  obtain ⟨x, hx, hy⟩ := hy
  have := h x hx
  unfold spl1 at hy
  split at hy
  · simp only [List.mem_cons, List.not_mem_nil, or_false] at hy
    rcases hy with rfl | rfl <;> exact this
  · rw [List.mem_singleton] at hy
    subst hy
    exact this
theorem wk_split {c date : Int} (hc : c ≤ 1000000000000000) (k : Int) : ∀ (l : List api_RowV) (w p w' p' : Int), w' * 1000000 + p' = w * 1000000 + p → ∀ z, wk c date l w p = some z → ∃ z', wk c date (l.flatMap (spl1 k)) w' p' = some z' ∧ z'.1 * 1000000 + z'.2 = z.1 * 1000000 + z.2
  | [], w, p, w', p', e, z, h => by
    simp only [wk, Option.some.injEq] at h
    subst h
    exact ⟨_, rfl, e⟩
  | x :: l, w, p, w', p', e, z, h => by
    rw [wk] at h
    rw [List.flatMap_cons, spl1]
    cases hi : inD x.1 date with
    | false =>
      rw [hi, cond_false] at h
      obtain ⟨z', h1, h2⟩ := wk_split hc k l w p w' p' e z h
      refine ⟨z', ?_, h2⟩
      split
      · simp only [List.cons_append, List.nil_append, wk, hi, cond_false]
        exact h1
      · simp only [List.cons_append, List.nil_append, wk, hi, cond_false]
        exact h1
    | true =>
      rw [hi, cond_true] at h
      cases hk : (contr (prt x c) x.2.2.2.1).2.2.1 with
      | false => rw [hk] at h; cases h
      | true =>
        rw [hk, cond_true] at h
        have s0 := contr_sum (prt_bd x hc).1 hk
        split
        · rename_i hx
          obtain ⟨x1, x2⟩ := hx
          have hsum : prt (x.1, x.2.1, k, x.2.2.2.1, ()) c + prt (x.1, k, x.2.2.1, x.2.2.2.1, ()) c = prt x c := by
            unfold prt
            simp only
            split <;> split <;> split <;> omega
          have b1 := prt_bd (x.1, x.2.1, k, x.2.2.2.1, ()) hc
          have b2 := prt_bd (x.1, k, x.2.2.1, x.2.2.2.1, ()) hc
          simp only [List.cons_append, List.nil_append, wk, hi, cond_true]
          generalize prt (x.1, x.2.1, k, x.2.2.2.1, ()) c = a at hsum b1 ⊢
          generalize prt (x.1, k, x.2.2.1, x.2.2.2.1, ()) c = b at hsum b2 ⊢
          have ok := contr_ok.1 hk
          have n0 : (0 : Int) ≤ (x.2.2.2.1.natAbs : Int) := by omega
          have ma : a * (x.2.2.2.1.natAbs : Int) ≤ prt x c * x.2.2.2.1.natAbs := Int.mul_le_mul_of_nonneg_right (by omega) n0
          have mb : b * (x.2.2.2.1.natAbs : Int) ≤ prt x c * x.2.2.2.1.natAbs := Int.mul_le_mul_of_nonneg_right (by omega) n0
          have ka : (contr a x.2.2.2.1).2.2.1 = true := contr_ok.2 (by omega)
          have kb : (contr b x.2.2.2.1).2.2.1 = true := contr_ok.2 (by omega)
          have sa := contr_sum b1.1 ka
          have sb := contr_sum b2.1 kb
          have sab : a * x.2.2.2.1 + b * x.2.2.2.1 = prt x c * x.2.2.2.1 := by rw [← Int.add_mul, hsum]
          rw [ka, cond_true, kb, cond_true]
          exact wk_split hc k l _ _ _ _ (by omega) z h
        · simp only [List.cons_append, List.nil_append, wk, hi, cond_true, hk]
          exact wk_split hc k l _ _ _ _ (by omega) z h
theorem brk_split (t : api_TableV) (date c m k : Int) (h : (brk t date c m).2.1 = 0) : brk (t.1, t.2.1, t.2.2.1, t.2.2.2.1.flatMap (spl1 k), ()) date c m = brk t date c m := by
  unfold brk at h ⊢
  split
  · rfl
  rename_i h1
  rw [if_neg h1] at h
  simp only
  split
  · rfl
  rename_i h2
  rw [if_neg h2] at h
  split
  · rfl
  rename_i h3
  rw [if_neg h3] at h
  cases hw : wk c date t.2.2.2.1 0 0 with
  | none => rw [hw] at h; cases h
  | some z =>
    obtain ⟨z', w1, w2⟩ := wk_split (by omega) k t.2.2.2.1 0 0 0 0 rfl z hw
    rw [w1]
    simp only [res12, w2]
theorem tableSplit_true (aw : law12_awake = some (true, ())) {t : api_TableV} {date c k : Int} (o : Ty.okv api_Table t) : law12_TableSplit t date c k = some (true, ()) := by
  simp only [law12_TableSplit, law12_TableSplit.Se, few_val, aw, bind_some']
  by_cases h : (t.2.2.2.1.length : Int) ≤ 32
  · rw [decide_eq_true h, split_val _ _ (by omega)]
    simp only [bind_some', Bool.not_true, cond_false]
    have hl := split_len t.2.2.2.1 k
    have step : ∀ d m : Nat, m + d = 6 → law12_TableSplit.L0 date c t (t.1, t.2.1, t.2.2.1, t.2.2.2.1.flatMap (spl1 k), ()) (m : Int) = some (true, ()) := by
      intro d
      induction d with
      | zero =>
        intro m hm
        rw [law12_TableSplit.L0_eq, law12_TableSplit.SL0, cd_f (by omega), aw]
        rfl
      | succ d ih =>
        intro m hm
        rw [law12_TableSplit.L0_eq, law12_TableSplit.SL0, cd_t (by omega), brackets_val date c m (okN_of o) (by omega), brackets_val (t := (t.1, t.2.1, t.2.2.1, t.2.2.2.1.flatMap (spl1 k), ())) date c m (spl1_N k (okN_of o)) (by simp only; omega)]
        simp only [bind_some', wrap_succ (show m < 9223372036854775807 by omega), ih (m + 1) (by omega)]
        by_cases g : (brk t date c m).2.1 = 0
        · rw [brk_split t date c m k g, g]
          simp
        · rw [show ((brk t date c m).2.1 == 0) = false by simpa using g]
          rfl
    exact step 6 0 rfl
  · rw [decide_eq_false h]; rfl
end Go.Proofs.Ytgnigfnonoicmaa
