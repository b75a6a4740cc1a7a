import Derived.Test.YtphpegconhdnfaaPC
set_option maxRecDepth 100000
set_option linter.unusedVariables false
set_option linter.unusedSimpArgs false
namespace Go.Proofs.Ytphpegconhdnfaa
open Go Go.Lift
theorem wrap_wrap (a b : Int) : IntKind.i64.wrap (IntKind.i64.wrap a + b) = IntKind.i64.wrap (a + b) := by
  simp only [i64_eq]; omega
theorem wrap_sub (a b : Int) : IntKind.i64.wrap (IntKind.i64.wrap a - b) = IntKind.i64.wrap (a - b) := by
  simp only [i64_eq]; omega
def cnts (l : List api_BucketV) : List Int := l.map (fun o => o.2.2.1)
def sums (l : List api_BucketV) : List Int := l.map (fun o => o.2.2.2.1)
theorem total_L0 : ∀ (rest pre : List api_BucketV) (c s : Int), (pre ++ rest).length ≤ 1000 →
    law59_total.L0 (pre ++ rest) (IntKind.i64.wrap c) (IntKind.i64.wrap s) (pre.length : Int) = some (IntKind.i64.wrap (c + (cnts rest).sum), IntKind.i64.wrap (s + (sums rest).sum), ()) := by
  intro rest
  induction rest with
  | nil =>
    intro pre c s h
    rw [law59_total.L0_eq, law59_total.SL0, cd_f (by simp)]
    simp [cnts, sums]
  | cons o rest ih =>
    intro pre c s h
    have hlen := len_mid pre o rest
    rw [law59_total.L0_eq, law59_total.SL0, cd_t (by rw [hlen]; omega), idx_mid]
    simp only [bind_some']
    rw [wrap_wrap, wrap_wrap, wrap_succ (by omega)]
    have i2 := ih (pre ++ [o]) (c + o.2.2.1) (s + o.2.2.2.1) (by rw [← mid_shift]; exact h)
    rw [len_snoc, ← mid_shift] at i2
    rw [i2]
    simp only [cnts, sums, List.map_cons, List.sum_cons, Int.add_assoc]
theorem total_val {l : List api_BucketV} (h : l.length ≤ 1000) : law59_total l = some (IntKind.i64.wrap (cnts l).sum, IntKind.i64.wrap (sums l).sum, ()) := by
  have := total_L0 l [] 0 0 (by simpa using h)
  simp only [Int.zero_add] at this
  exact this
theorem sum_set : ∀ (l : List Int) (j : Nat) (x : Int), j < l.length → (l.set j x).sum = l.sum + x - l.getD j 0 := by
  intro l
  induction l with
  | nil => intro j x h; simp at h
  | cons y l ih =>
    intro j x h
    cases j with
    | zero => simp; omega
    | succ j =>
      have := ih j x (by simpa using h)
      simp only [List.set_cons_succ, List.sum_cons, List.getD_cons_succ, this]
      omega
/-- Entries that cannot wrap. -/
def BdO (k : Nat) (l : List api_BucketV) : Prop := ∀ o ∈ l, 0 ≤ o.2.2.1 ∧ o.2.2.1 ≤ k ∧ -1000000000000000 * (k : Int) ≤ o.2.2.2.1 ∧ o.2.2.2.1 ≤ 1000000000000000 * (k : Int)
theorem add_facts {l : List api_BucketV} {j k : Nat} {v : Int} (hj : j < l.length) (hb : BdO k l) (hk : k ≤ 1000) (h1 : -1000000000000000 ≤ v) (h2 : v ≤ 1000000000000000) (z : api_BucketV) :
    (cnts (l.set j (addB (l.getD j z) v))).sum = (cnts l).sum + 1 ∧ (sums (l.set j (addB (l.getD j z) v))).sum = (sums l).sum + v ∧ BdO (k + 1) (l.set j (addB (l.getD j z) v)) := by
  have hm : l.getD j z ∈ l := by rw [getD_nat hj]; exact List.getElem_mem hj
  obtain ⟨b1, b2, b3, b4⟩ := hb _ hm
  have e : addB (l.getD j z) v = ((l.getD j z).1, (l.getD j z).2.1, (l.getD j z).2.2.1 + 1, (l.getD j z).2.2.2.1 + v, ()) := by
    unfold addB; rw [wrap64 (by omega) (by omega), wrap64 (by omega) (by omega)]
  have gc : (cnts l).getD j 0 = (l.getD j z).2.2.1 := by
    unfold cnts
    rw [getD_nat (by simpa using hj), getD_nat hj, List.getElem_map]
  have gs : (sums l).getD j 0 = (l.getD j z).2.2.2.1 := by
    unfold sums
    rw [getD_nat (by simpa using hj), getD_nat hj, List.getElem_map]
  rw [e]
  refine ⟨?_, ?_, fun o ho => ?_⟩
  · have := sum_set (cnts l) j ((l.getD j z).2.2.1 + 1) (by simpa [cnts] using hj)
    rw [gc] at this
    have q : cnts (l.set j ((l.getD j z).1, (l.getD j z).2.1, (l.getD j z).2.2.1 + 1, (l.getD j z).2.2.2.1 + v, ())) = (cnts l).set j ((l.getD j z).2.2.1 + 1) := by unfold cnts; rw [List.map_set]
    rw [q, this]; omega
  · have := sum_set (sums l) j ((l.getD j z).2.2.2.1 + v) (by simpa [sums] using hj)
    rw [gs] at this
    have q : sums (l.set j ((l.getD j z).1, (l.getD j z).2.1, (l.getD j z).2.2.1 + 1, (l.getD j z).2.2.2.1 + v, ())) = (sums l).set j ((l.getD j z).2.2.2.1 + v) := by unfold sums; rw [List.map_set]
    rw [q, this]; omega
  · rcases List.mem_or_eq_of_mem_set ho with g | g
    · obtain ⟨a1, a2, a3, a4⟩ := hb o g
      exact ⟨a1, by omega, by omega, by omega⟩
    · subst g
      exact ⟨by show 0 ≤ _ + 1; omega, by show _ + 1 ≤ _; omega, by show _ ≤ _ + v; omega, by show _ + v ≤ _; omega⟩
theorem put_facts : ∀ (vs gs : List Int) (out : List api_BucketV) (k : Nat), gs.length = vs.length → gs.all (okG (out.length : Int)) = true → BdO k out → k + vs.length ≤ 1000 → BdL vs →
    (cnts (put vs gs out)).sum = (cnts out).sum + vs.length ∧ (sums (put vs gs out)).sum = (sums out).sum + vs.sum := by
  intro vs
  induction vs with
  | nil => intro gs out k h1 h2 h3 h4 h5; cases gs <;> simp [put]
  | cons v vs ih =>
    intro gs out k h1 h2 h3 h4 h5
    cases gs with
    | nil => cases h1
    | cons g gs =>
      rw [List.all_cons, Bool.and_eq_true, okG_iff] at h2
      obtain ⟨⟨g1, g2⟩, h2⟩ := h2
      have hv := h5 v List.mem_cons_self
      rw [List.length_cons] at h4
      obtain ⟨a1, a2, a3⟩ := add_facts (l := out) (j := g.toNat) (k := k) (v := v) (by omega) h3 (by omega) hv.1 hv.2 zB
      obtain ⟨c1, c2⟩ := ih gs (out.set g.toNat (addB (out.getD g.toNat zB) v)) (k + 1) (by simpa using h1) (by rw [List.length_set]; exact h2) a3 (by omega) (fun x hx => h5 x (List.mem_cons_of_mem _ hx))
      rw [put, c1, c2, a1, a2, List.length_cons, List.sum_cons]
      omega
theorem hist_snoc {b : List Int} (hb : Inc b) (hl : b.length ≤ 64) (vs : List Int) (v : Int) (hv : BdL (vs ++ [v])) (h : (vs ++ [v]).length ≤ 1000) : ∃ j, j < (hist b vs).length ∧ hist b (vs ++ [v]) = (hist b vs).set j (addB ((hist b vs).getD j zB) v) := by
  obtain ⟨p, f, _, _, hat⟩ := search_at v hb (by omega)
  exact ⟨_, by rw [hist_length]; have := hat.1; omega, (hist_add vs hat hv h zB).symm⟩
theorem sum_zero {α : Type} (f : α → Int) : ∀ (l : List α), (∀ x ∈ l, f x = 0) → (l.map f).sum = 0 := by
  intro l
  induction l with
  | nil => intro _; rfl
  | cons x l ih => intro h; rw [List.map_cons, List.sum_cons, h x List.mem_cons_self, ih (fun y hy => h y (List.mem_cons_of_mem _ hy))]; rfl
theorem hist_facts {b : List Int} (hb : Inc b) (hl : b.length ≤ 64) : ∀ (rest pre : List Int), BdL (pre ++ rest) → (pre ++ rest).length ≤ 1000 →
    BdO pre.length (hist b pre) → (cnts (hist b (pre ++ rest))).sum = (cnts (hist b pre)).sum + rest.length ∧ (sums (hist b (pre ++ rest))).sum = (sums (hist b pre)).sum + rest.sum := by
  intro rest
  induction rest with
  | nil => intro pre _ _ _; simp
  | cons v rest ih =>
    intro pre hv h hb0
    have hlen := len_mid pre v rest
    have hv' : BdL (pre ++ [v]) := fun x hx => hv x (by simp at hx ⊢; rcases hx with hx | hx <;> simp [hx])
    obtain ⟨j, hj, e⟩ := hist_snoc hb hl pre v hv' (by simp; omega)
    have hvv := hv' v (by simp)
    obtain ⟨a1, a2, a3⟩ := add_facts (l := hist b pre) (j := j) (k := pre.length) (v := v) hj hb0 (by omega) hvv.1 hvv.2 zB
    rw [← e] at a1 a2 a3
    have i2 := ih (pre ++ [v]) (by rw [← mid_shift]; exact hv) (by rw [← mid_shift]; exact h) (by simpa using a3)
    rw [← mid_shift] at i2
    rw [i2.1, i2.2, a1, a2, List.length_cons, List.sum_cons]
    omega
theorem hist_nil (b : List Int) : ∀ o ∈ hist b [], o.2.2.1 = 0 ∧ o.2.2.2.1 = 0 := by
  intro o ho
  obtain ⟨i, _, rfl⟩ := List.mem_map.1 ho
  exact ⟨rfl, rfl⟩
theorem hist_total {b v : List Int} (hb : Inc b) (hl : b.length ≤ 64) (hv : BdL v) (h : v.length ≤ 1000) : (cnts (hist b v)).sum = (v.length : Int) ∧ (sums (hist b v)).sum = v.sum := by
  have z := hist_nil b
  have := hist_facts hb hl v [] hv h (fun o ho => by obtain ⟨e1, e2⟩ := z o ho; rw [e1, e2]; simp)
  have c0 : (cnts (hist b [])).sum = 0 := sum_zero _ _ (fun o ho => (z o ho).1)
  have s0 : (sums (hist b [])).sum = 0 := sum_zero _ _ (fun o ho => (z o ho).2)
  rw [c0, s0] at this
  simpa using this
theorem empty_zero (n : Nat) : ∀ o ∈ emptyG n, o.2.2.1 = 0 ∧ o.2.2.2.1 = 0 := by
  intro o ho
  obtain ⟨i, _, rfl⟩ := List.mem_map.1 ho
  exact ⟨rfl, rfl⟩
theorem put_total {v g : List Int} {n : Int} (h0 : v.length = g.length) (h : v.length ≤ 1000) (hn : 1 ≤ n) (hv : BdL v) (hg : g.all (okG n) = true) : (cnts (put v g (emptyG n.toNat))).sum = (v.length : Int) ∧ (sums (put v g (emptyG n.toNat))).sum = v.sum := by
  have z := empty_zero n.toNat
  have := put_facts v g (emptyG n.toNat) 0 h0.symm (by rw [emptyG_length, Int.toNat_of_nonneg (by omega)]; exact hg) (fun o ho => by obtain ⟨e1, e2⟩ := z o ho; rw [e1, e2]; simp) (by omega) hv
  have c0 : (cnts (emptyG n.toNat)).sum = 0 := sum_zero _ _ (fun o ho => (z o ho).1)
  have s0 : (sums (emptyG n.toNat)).sum = 0 := sum_zero _ _ (fun o ho => (z o ho).2)
  rw [c0, s0] at this
  simpa using this
theorem tot_L4 (aw : law59_awake = some (true, ())) (n : Int) : ∀ (rest pre : List Int) (s : Int), (pre ++ rest).length ≤ 1000 →
    law59_DistributionTotals.L4 n (IntKind.i64.wrap s) (pre ++ rest) 0 (pre.length : Int) = if IntKind.i64.wrap (s - rest.sum) = 0 ∧ ((pre ++ rest).length : Int) = n then some (true, ()) else some (false, ()) := by
  intro rest
  induction rest with
  | nil =>
    intro pre s h
    rw [law59_DistributionTotals.L4_eq, law59_DistributionTotals.SL4, cd_f (by simp), aw]
    simp only [bne_self_eq_false, cond_false, bind_some', List.sum_nil, Int.sub_zero, List.append_nil]
    by_cases c1 : IntKind.i64.wrap s = 0
    · rw [beq_iff_eq.2 c1]
      by_cases c2 : (pre.length : Int) = n
      · rw [beq_iff_eq.2 c2, if_pos ⟨c1, c2⟩]; rfl
      · rw [beq_eq_false_iff_ne.2 c2, if_neg (fun q => c2 q.2)]; rfl
    · rw [beq_eq_false_iff_ne.2 c1, if_neg (fun q => c1 q.1)]; rfl
  | cons x rest ih =>
    intro pre s h
    have hlen := len_mid pre x rest
    rw [law59_DistributionTotals.L4_eq, law59_DistributionTotals.SL4, cd_t (by rw [hlen]; omega), cd_b (by omega) (by rw [hlen]; omega), Int.toNat_natCast, getD_mid, wrap_sub, wrap_succ (by omega)]
    have i2 := ih (pre ++ [x]) (s - x) (by rw [← mid_shift]; exact h)
    rw [len_snoc, ← mid_shift] at i2
    rw [i2, List.sum_cons, Int.sub_sub]
theorem tot_L4e (aw : law59_awake = some (true, ())) (n s g : Int) (hg : g ≠ 0) : law59_DistributionTotals.L4 n s [] g 0 = some (true, ()) := by
  rw [law59_DistributionTotals.L4_eq, law59_DistributionTotals.SL4, cd_f (by simp), aw, bne_iff_ne.2 hg]
  rfl
theorem tot_L1 (b g : List Int) (n : Int) : ∀ (rest pre : List Int) (s : Int), (pre ++ rest).length ≤ 1000 →
    law59_DistributionTotals.L1 (pre ++ rest) b g n (IntKind.i64.wrap s) (pre.length : Int) = law59_DistributionTotals.L1 (pre ++ rest) b g n (IntKind.i64.wrap (s + rest.sum)) ((pre ++ rest).length : Int) := by
  intro rest
  induction rest with
  | nil => intro pre s h; simp
  | cons x rest ih =>
    intro pre s h
    have hlen := len_mid pre x rest
    have i2 := ih (pre ++ [x]) (s + x) (by rw [← mid_shift]; exact h)
    rw [len_snoc, ← mid_shift] at i2
    rw [law59_DistributionTotals.L1_eq, law59_DistributionTotals.SL1, cd_t (by rw [hlen]; omega), idx_mid]
    simp only [bind_some']
    rw [wrap_wrap, wrap_succ (by omega), i2, List.sum_cons, Int.add_assoc]
theorem distributionTotals_true (aw : law59_awake = some (true, ())) (v b g : List Int) (n : Int) : law59_DistributionTotals v b g n = some (true, ()) := by
  simp only [law59_DistributionTotals, law59_DistributionTotals.Se, few_val, bind_some', aw]
  by_cases h : (v.length : Int) ≤ 200
  · rw [decide_eq_true h]
    by_cases h2 : (b.length : Int) ≤ 200
    · rw [decide_eq_true h2]
      by_cases h3 : (g.length : Int) ≤ 200
      · rw [decide_eq_true h3]
        simp only [Bool.not_true, cond_false]
        rw [law59_DistributionTotals.J0_eq, law59_DistributionTotals.SJ0]
        have l1 := tot_L1 b g n v [] 0 (by simp; omega)
        have l1' : law59_DistributionTotals.L1 v b g n 0 0 = law59_DistributionTotals.L1 v b g n (IntKind.i64.wrap v.sum) (v.length : Int) := by
          have w0 : IntKind.i64.wrap 0 = 0 := wrap64 (by omega) (by omega)
          rw [w0, Int.zero_add] at l1
          exact l1
        rw [l1', law59_DistributionTotals.L1_eq, law59_DistributionTotals.SL1, cd_f (by omega), (hist_both v b (by omega) (by omega)).1, (groups_both v g n (by omega)).1]
        obtain ⟨s, e, e', p, q⟩ := both_sorted v (by omega)
        have J3 : ∀ (sh : List Int) (ec : Int), distribution_Shares v n = some (sh, ec, ()) → law59_DistributionTotals.J3 n (IntKind.i64.wrap v.sum) sh ec = some (true, ()) := by
          intro sh ec hsh
          rw [law59_DistributionTotals.J3_eq, law59_DistributionTotals.SJ3]
          rcases shares_both n (by omega) p e e' with ⟨n1, n2, _, z, _, z3, z4, z5, s1, _⟩ | ⟨_, s1, _⟩
          · rw [s1] at hsh
            cases hsh
            have hl := p.length_eq
            have l4 := tot_L4 aw n (chk z s) [] v.sum (by rw [List.nil_append, chk_length]; omega)
            have hs : (chk z s).sum = v.sum := by
              rw [chk_sum z s z5 (by rw [z4, hl])]
              have := perm_sum (fun x : Int => x) p
              simpa using this
            rw [hs] at l4
            have l4' : law59_DistributionTotals.L4 n (IntKind.i64.wrap v.sum) (chk z s) 0 0 = some (true, ()) := by
              refine Eq.trans l4 (if_pos ⟨by rw [Int.sub_self]; rfl, ?_⟩)
              rw [List.nil_append, chk_length, z3]; omega
            exact l4'
          · rw [s1] at hsh
            cases hsh
            exact tot_L4e aw n _ 3 (by omega)
        obtain ⟨sh, ec, hsh⟩ : ∃ sh ec, distribution_Shares v n = some (sh, ec, ()) := by
          rcases shares_both n (by omega) p e e' with ⟨_, _, _, z, _, _, _, _, s1, _⟩ | ⟨_, s1, _⟩
          · exact ⟨_, _, s1⟩
          · exact ⟨_, _, s1⟩
        have j3 := J3 sh ec hsh
        rw [hsh]
        have J2 : ∀ (gb : List api_BucketV) (ge : Int), groupsR v g n = some (gb, ge, ()) → law59_DistributionTotals.J2 v n (IntKind.i64.wrap v.sum) gb ge sh ec = some (true, ()) := by
          intro gb ge hgb
          rw [law59_DistributionTotals.J2_eq, law59_DistributionTotals.SJ2]
          rcases groupsR_cases v g n with ⟨ee, k1, k2⟩ | ⟨k0, k1, k2, k3, k4, k5⟩
          · rw [k1] at hgb
            cases hgb
            rw [total_val (by simp)]
            simp only [bind_some']
            rw [beq_eq_false_iff_ne.2 k2, cond_false]
            exact j3
          · rw [k5] at hgb
            cases hgb
            have t := put_total k0 (by omega) k1 (allM_iff.1 k3) k4
            rw [total_val (by rw [put_length, emptyG_length]; omega), t.1, t.2]
            simp only [bind_some', beq_self_eq_true, cond_true]
            rw [wrap64 (n := (v.length : Int)) (by omega) (by omega)]
            simp only [bne_self_eq_false, cond_false, put_length, emptyG_length]
            rw [Int.toNat_of_nonneg (by omega)]
            simp only [bne_self_eq_false, cond_false]
            exact j3
        obtain ⟨gb, ge, hgb⟩ : ∃ gb ge, groupsR v g n = some (gb, ge, ()) := by
          rcases groupsR_cases v g n with ⟨ee, k1, k2⟩ | ⟨_, _, _, _, _, k5⟩
          · exact ⟨_, _, k1⟩
          · exact ⟨_, _, k5⟩
        have j2 := J2 gb ge hgb
        rw [hgb]
        rcases histR_cases v b with ⟨ee, k1, k2⟩ | ⟨k0, k1, k2, k3, k4⟩
        · rw [k1]
          simp only [bind_some']
          rw [total_val (by simp)]
          simp only [bind_some']
          rw [beq_eq_false_iff_ne.2 k2, cond_false]
          exact j2
        · rw [k4]
          simp only [bind_some']
          have t := hist_total (inc_of k3) k0 (allM_iff.1 k1) (show v.length ≤ 1000 by omega)
          rw [total_val (by rw [hist_length]; omega), t.1, t.2]
          simp only [bind_some', beq_self_eq_true, cond_true]
          rw [wrap64 (n := (v.length : Int)) (by omega) (by omega)]
          simp only [bne_self_eq_false, cond_false]
          exact j2
      · rw [decide_eq_false h3]; rfl
    · rw [decide_eq_false h2]; rfl
  · rw [decide_eq_false h]; rfl
end Go.Proofs.Ytphpegconhdnfaa
