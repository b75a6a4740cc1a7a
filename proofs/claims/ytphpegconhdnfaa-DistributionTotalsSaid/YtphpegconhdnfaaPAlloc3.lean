import Derived.Test.YtphpegconhdnfaaPAlloc2
set_option maxRecDepth 100000
set_option linter.unusedVariables false
set_option linter.unusedSimpArgs false
namespace Go.Proofs.Ytphpegconhdnfaa
open Go Go.Lift
theorem qs_length (A S : Int) (W : List Int) : (qs A S W).length = W.length := by simp [qs]
theorem rs_length (A S : Int) (W : List Int) : (rs A S W).length = W.length := by simp [rs]
theorem qs_get (A S : Int) {W : List Int} {i : Nat} (h : i < W.length) : (qs A S W).getD i 0 = A * W.getD i 0 / S := by
  rw [getD_nat (by rw [qs_length]; exact h), getD_nat h]; simp [qs]
theorem rs_get (A S : Int) {W : List Int} {i : Nat} (h : i < W.length) : (rs A S W).getD i 0 = A * W.getD i 0 % S := by
  rw [getD_nat (by rw [rs_length]; exact h), getD_nat h]; simp [rs]
theorem getD_mem {W : List Int} {i : Nat} (h : i < W.length) : W.getD i 0 ∈ W := by rw [getD_nat h]; exact List.getElem_mem h
theorem qs_bound {A S : Int} {W : List Int} (f : Fair A S W) (k : Nat) : 0 ≤ (qs A S W).getD k 0 ∧ (qs A S W).getD k 0 ≤ 1000000000000000 := by
  by_cases h : k < W.length
  · rw [qs_get A S h]
    have hm := getD_mem h
    have := q_le A S f.a0 f.pos (f.w0 _ hm) (f.le _ hm)
    have := f.a1
    omega
  · rw [List.getD_eq_getElem?_getD, List.getElem?_eq_none (by rw [qs_length]; omega)]
    simp
/-- The shares: the whole ones, and one more for the greatest rests. -/
def dealt (A S : Int) (W : List Int) (P : List money_partV) : List Int := bump (qs A S W) (P.take (A - (qs A S W).sum).toNat)
theorem shares_val {A S : Int} {W : List Int} {P : List money_partV} (f : Fair A S W) (h : Sorted A S W P) (hP : slices_SortStableFunc_money_part_money_part_money_shares_1 (parts A S 0 W) = some (P, ())) : money_shares A W S = some (dealt A S W P, ()) := by
  have fl := f.len
  have hl := f.left
  have lenP := h.length
  simp only [money_shares, money_shares.Se]
  have hroom : room = 140737488355328 := rfl
  simp only [decide_eq_true (show (0 : Int) ≤ ((W.length : Int) : Int) by omega), decide_eq_true (show ((W.length : Int) : Int) ≤ (W.length : Int) by omega), decide_eq_true (show ((W.length : Int) : Int) * 8 ≤ (room : Int) by rw [hroom]; omega), decide_eq_true (show ((W.length : Int) : Int) * 16 ≤ (room : Int) by rw [hroom]; omega),
    decide_eq_true (show ((W.length : Int) : Int) ≤ (maxLen : Int) by rw [maxLen_eq]; omega), show decide (0 < Ty.nc (.int .i64)) = true from rfl, show decide (0 < Ty.nc (.pair (.int .i64) (.pair (.int .u64) .unit))) = true from rfl, Bool.and_self, cond_true]
  have e := shares_L0 f W [] rfl
  simp only [qs, parts, List.map_nil, List.nil_append, List.sum_nil, List.length_nil, Int.sub_zero] at e
  rw [show (0 : Int) = ((0 : Nat) : Int) from rfl] at *
  rw [show ((0 : Nat) : Int) = (0 : Int) from rfl] at *
  have e' : money_shares.L0 A S (List.replicate W.length 0) (List.replicate W.length (0, 0, ())) A W (W.length : Int) 0 = money_shares.L0 A S (qs A S W) (parts A S 0 W) (A - (qs A S W).sum) W (W.length : Int) (W.length : Int) := e
  rw [e', money_shares.L0_eq, money_shares.SL0, cd_f (by omega), hP, bind_some']
  simp only
  rw [cd_3 (by omega) hl.2.1 (by rw [lenP]; exact hl.2.2)]
  have lt : (P.take (A - (qs A S W).sum).toNat).length = (A - (qs A S W).sum).toNat := by rw [List.length_take, lenP]; omega
  have := shares_L1 (P.take (A - (qs A S W).sum).toNat) [] (qs A S W) (by simp; omega) (fun p hp => by
    obtain ⟨i, h1, h2⟩ := h.mem (List.mem_of_mem_take hp)
    rw [h2, qs_length]
    constructor
    · show (0 : Int) ≤ i; omega
    · show (i : Int) < W.length; omega) (fun k => by have := qs_bound f k; exact ⟨this.1, by rw [List.length_nil]; omega⟩)
  simp only [List.nil_append, List.length_nil, lt] at this
  exact this
theorem ref_L1 {A S : Int} {W : List Int} (f : Fair A S W) (c : Int) : ∀ (rest pre : List Int), W = pre ++ rest →
    ref02_Allocate.L1 c W S A (qs A S pre) (rs A S pre) (A - (qs A S pre).sum) (pre.length : Int) = ref02_Allocate.L2 c (qs A S W) (rs A S W) (A - (qs A S W).sum)
  | [], pre, h => by
    rw [List.append_nil] at h
    subst h
    rw [ref02_Allocate.L1_eq, ref02_Allocate.SL1, cd_f (by omega)]
  | w :: rest, pre, h => by
    have hm : w ∈ W := by rw [h]; simp
    have w0 := f.w0 w hm
    have w1 := f.le w hm
    have w2 := f.w1 w hm
    have s1 := f.s1
    have a0 := f.a0; have a1 := f.a1; have pos := f.pos
    have hlen : W.length = pre.length + (rest.length + 1) := by rw [h]; simp
    have hl := f.len
    obtain ⟨q0, q1⟩ := q_le A S a0 pos w0 w1
    have hq0 := qs_nonneg A S a0 pos pre (fun v hv => f.w0 v (by rw [h]; simp [hv]))
    have hsum : (qs A S pre).sum + A * w / S ≤ A := by
      have h1 := f.left.2.1
      rw [h, qs_append] at h1
      have h2 := qs_nonneg A S a0 pos rest (fun v hv => f.w0 v (by rw [h]; simp [hv]))
      simp only [qs, List.map_cons, List.sum_cons] at h1 h2 ⊢
      omega
    have hidx : idx W (pre.length : Int) = some w := by rw [h]; exact idx_mid ..
    have em := Int.emod_nonneg A (show S ≠ 0 by omega)
    have em2 := Int.emod_lt_of_pos A pos
    have ed := Int.emod_add_mul_ediv A S
    have split : A * w = A % S * w + A / S * w * S := by
      have : A * w = (A % S + S * (A / S)) * w := by rw [ed]
      rw [this]; grind
    have e1 : A * w / S = A % S * w / S + A / S * w := by rw [split, Int.add_mul_ediv_right _ _ (by omega)]
    have e2 : A * w % S = A % S * w % S := by rw [split, Int.add_mul_emod_self_right]
    have d0 : 0 ≤ A / S := Int.ediv_nonneg a0 (by omega)
    have d1 : A / S ≤ A := Int.ediv_le_self _ a0
    have dw0 : 0 ≤ A / S * w := Int.mul_nonneg d0 w0
    have x0 : 0 ≤ A % S * w / S := Int.ediv_nonneg (Int.mul_nonneg em w0) (by omega)
    rw [ref02_Allocate.L1_eq, ref02_Allocate.SL1, cd_t (by omega), cd_f (by omega), hidx, bind_some', tmod_pos a0, part_val em em2 (by omega) w0 w2, bind_some', cd_f (by omega), bind_some', rm8 (by rw [qs_length]; omega), cond_true, rm8 (by rw [rs_length]; omega), cond_true, tdiv_pos a0,
      wrap64 (n := A / S) (by omega) (by omega)]
    simp only
    rw [wrap64 (n := A / S * w) (by omega) (by omega), ← e1, ← e2, wrap64 (n := A * w / S) (by omega) (by omega), wrap64 (n := A - (qs A S pre).sum - A * w / S) (by omega) (by omega), wrap_succ (by omega), ← len_snoc pre w]
    have g := ref_L1 f c rest (pre ++ [w]) (by rw [h]; simp)
    rw [← g]
    have eq1 : qs A S (pre ++ [w]) = qs A S pre ++ [A * w / S] := by simp [qs]
    have eq2 : rs A S (pre ++ [w]) = rs A S pre ++ [A * w % S] := by simp [rs]
    rw [eq1, eq2]
    congr 1
    simp; omega
theorem ref_val {A S : Int} {W : List Int} {P : List money_partV} (f : Fair A S W) (h : Sorted A S W P) (c : Int) : ref02_Allocate.L1 c W S A [] [] A 0 = ref02_Allocate.L3 c (dealt A S W P) 0 := by
  have e := ref_L1 f c W [] rfl
  have hl := f.left
  have lenP := h.length
  have e' : ref02_Allocate.L1 c W S A [] [] A 0 = ref02_Allocate.L2 c (qs A S W) (rs A S W) (A - (qs A S W).sum) := by
    have : A - (qs A S []).sum = A := by simp [qs]
    rw [this] at e
    exact e
  rw [e']
  have lt : (P.take (A - (qs A S W).sum).toNat).length = (A - (qs A S W).sum).toNat := by rw [List.length_take, lenP]; omega
  have := ref_L2 f h c (P.take (A - (qs A S W).sum).toNat) [] (P.drop (A - (qs A S W).sum).toNat) (rs A S W) (qs A S W) (by simp) (by rw [lt]; simp; omega) (rs_length ..) (qs_length ..) (fun i hi => by rw [rs_get A S hi]; simp) (fun k => by have := qs_bound f k; exact ⟨this.1, by rw [List.length_nil]; omega⟩)
  rw [lt, show (((A - (qs A S W).sum).toNat : Nat) : Int) = A - (qs A S W).sum by omega] at this
  exact this
theorem neg_loop : ∀ (rest pre : List Int), (pre ++ rest).length ≤ 1000 → (∀ x ∈ rest, -4611686018427387904 ≤ x ∧ x ≤ 4611686018427387904) →
    money_Allocate.L2 (pre ++ rest) ((pre ++ rest).length : Int) (pre.length : Int) = some (pre ++ rest.map (fun x => 0 - x), 0, ())
  | [], pre, h, hb => by
    rw [money_Allocate.L2_eq, money_Allocate.SL2, cd_f (by simp)]
    simp
  | x :: rest, pre, h, hb => by
    have h' := h
    rw [len_mid] at h'
    have b := hb x (List.mem_cons_self ..)
    rw [money_Allocate.L2_eq, money_Allocate.SL2, cd_t (by rw [len_mid]; omega), cd_b (by omega) (by rw [len_mid]; omega), cd_b (by omega) (by rw [len_mid]; omega), Int.toNat_natCast, getD_mid, set_mid, wrap64 (n := 0 - x) (by omega) (by omega), wrap_succ (by omega)]
    have := neg_loop rest (pre ++ [0 - x]) (by simp; omega) (fun y hy => hb y (List.mem_cons_of_mem _ hy))
    rw [← mid_shift, len_snoc] at this
    have e : (pre ++ x :: rest).length = (pre ++ (0 - x) :: rest).length := by simp
    rw [e, this]
    simp
theorem rneg_loop {c : Int} (hc : c < 0) : ∀ (rest pre : List Int), (pre ++ rest).length ≤ 1000 → (∀ x ∈ rest, -4611686018427387904 ≤ x ∧ x ≤ 4611686018427387904) →
    ref02_Allocate.L3 c (pre ++ rest) (pre.length : Int) = some (pre ++ rest.map (fun x => 0 - x), 0, ())
  | [], pre, h, hb => by
    rw [ref02_Allocate.L3_eq, ref02_Allocate.SL3, cd_f (by simp)]
    simp
  | x :: rest, pre, h, hb => by
    have h' := h
    rw [len_mid] at h'
    have b := hb x (List.mem_cons_self ..)
    rw [ref02_Allocate.L3_eq, ref02_Allocate.SL3, cd_t (by rw [len_mid]; omega), cd_t hc, ref02_Allocate.J4_eq, ref02_Allocate.SJ4, cd_b (by omega) (by rw [len_mid]; omega), cd_b (by omega) (by rw [len_mid]; omega), Int.toNat_natCast, getD_mid, set_mid, wrap64 (n := 0 - x) (by omega) (by omega), wrap_succ (by omega)]
    have := rneg_loop hc rest (pre ++ [0 - x]) (by simp; omega) (fun y hy => hb y (List.mem_cons_of_mem _ hy))
    rw [← mid_shift, len_snoc] at this
    rw [this]
    simp
/-- With the amount's sign. -/
def fin (c : Int) (l : List Int) : List Int := if c < 0 then l.map (fun x => 0 - x) else l
theorem dealt_length (A S : Int) (W : List Int) (P : List money_partV) : (dealt A S W P).length = W.length := by rw [dealt, bump_length, qs_length]
theorem dealt_get {A S : Int} {W : List Int} {P : List money_partV} {i : Nat} (hi : i < W.length) : (dealt A S W P).getD i 0 = A * W.getD i 0 / S + (((P.take (A - (qs A S W).sum).toNat).filter (fun p => decide (p.1.toNat = i))).length : Int) := by
  rw [dealt, bump_get _ _ _ (by rw [qs_length]; exact hi), qs_get A S hi]
theorem dealt_bound {A S : Int} {W : List Int} {P : List money_partV} (f : Fair A S W) (h : Sorted A S W P) : ∀ x ∈ dealt A S W P, -4611686018427387904 ≤ x ∧ x ≤ 4611686018427387904 := by
  intro x hx
  obtain ⟨i, hi, e⟩ := List.mem_iff_getElem.1 hx
  rw [dealt_length] at hi
  rw [← e, ← getD_nat (d := 0) (by rw [dealt_length]; exact hi), dealt_get hi]
  have b := qs_bound f i
  rw [qs_get A S hi] at b
  have l1 := List.length_filter_le (fun p : money_partV => decide (p.1.toNat = i)) (P.take (A - (qs A S W).sum).toNat)
  have l2 : (P.take (A - (qs A S W).sum).toNat).length ≤ P.length := by rw [List.length_take]; omega
  have := h.length
  have := f.len
  omega
theorem ref_fin {A S : Int} {W : List Int} {P : List money_partV} (f : Fair A S W) (h : Sorted A S W P) (c : Int) : ref02_Allocate.L3 c (dealt A S W P) 0 = some (fin c (dealt A S W P), 0, ()) := by
  have fl := f.len
  unfold fin
  by_cases hc : c < 0
  · rw [if_pos hc]
    have := rneg_loop hc (dealt A S W P) [] (by simp [dealt_length]; omega) (dealt_bound f h)
    exact this
  · rw [if_neg hc, ref02_Allocate.L3_eq, ref02_Allocate.SL3, cd_f hc]
    cases decide ((0 : Int) < ((dealt A S W P).length : Int)) <;> rfl
def okW (W : List Int) : Prop := ∀ w ∈ W, 0 ≤ w ∧ w ≤ 1000000000
instance (W : List Int) : Decidable (okW W) := by unfold okW; infer_instance
theorem alloc_L0 (c : Int) (W : List Int) (hl : W.length ≤ 1000) : ∀ (rest pre : List Int), W = pre ++ rest →
    money_Allocate.L0 c W W (W.length : Int) (pre.length : Int) = if okW rest then money_Allocate.L0 c W W (W.length : Int) (W.length : Int) else some ([], 3, ())
  | [], pre, h => by
    rw [if_pos (by simp [okW])]
    rw [h]; simp
  | w :: rest, pre, h => by
    have hlen : W.length = pre.length + (rest.length + 1) := by rw [h]; simp
    have hidx : idx W (pre.length : Int) = some w := by rw [h]; exact idx_mid ..
    have g := alloc_L0 c W hl rest (pre ++ [w]) (by rw [h]; simp)
    rw [len_snoc] at g
    rw [money_Allocate.L0_eq, money_Allocate.SL0, cd_t (by omega), hidx, bind_some', wrap_succ (by omega)]
    have eq : okW (w :: rest) ↔ (0 ≤ w ∧ w ≤ 1000000000) ∧ okW rest := by simp [okW]
    by_cases c1 : w < 0
    · rw [cd_t c1, if_neg (fun x => by have := (eq.1 x).1; omega)]
    · rw [cd_f c1]
      by_cases c2 : w > 1000000000
      · rw [cd_t c2, if_neg (fun x => by have := (eq.1 x).1; omega)]
      · rw [cd_f c2, g]
        by_cases c3 : okW rest
        · rw [if_pos c3, if_pos (eq.2 ⟨by omega, c3⟩)]
        · rw [if_neg c3, if_neg (fun x => c3 (eq.1 x).2)]
theorem alloc_L1 (c : Int) (W : List Int) (hl : W.length ≤ 64) (hw : okW W) : ∀ (rest pre : List Int), W = pre ++ rest →
    money_Allocate.L1 c W pre.sum W (W.length : Int) (pre.length : Int) = money_Allocate.L1 c W W.sum W (W.length : Int) (W.length : Int)
  | [], pre, h => by
    rw [List.append_nil] at h
    rw [← h]
  | w :: rest, pre, h => by
    have hlen : W.length = pre.length + (rest.length + 1) := by rw [h]; simp
    have hidx : idx W (pre.length : Int) = some w := by rw [h]; exact idx_mid ..
    have hw' := hw w (by rw [h]; simp)
    have s0 := (sum_mem_le pre (fun v hv => (hw v (by rw [h]; simp [hv])).1)).1
    have s1 := sum_le_of pre (fun v hv => (hw v (by rw [h]; simp [hv])).2)
    have g := alloc_L1 c W hl hw rest (pre ++ [w]) (by rw [h]; simp)
    rw [len_snoc, List.sum_append, List.sum_singleton] at g
    rw [money_Allocate.L1_eq, money_Allocate.SL1, cd_t (by omega), hidx, bind_some', wrap_succ (by omega), wrapU (n := w) (by omega) (by omega), wrapU (n := pre.sum + w) (by omega) (by omega)]
    exact g
theorem ralloc_L0 (c : Int) (W : List Int) (hl : W.length ≤ 80) : ∀ (rest pre : List Int), W = pre ++ rest → okW pre →
    ref02_Allocate.L0 c W pre.sum (pre.length : Int) = if okW rest then ref02_Allocate.L0 c W W.sum (W.length : Int) else some ([], 3, ())
  | [], pre, h, hp => by
    rw [if_pos (by simp [okW])]
    rw [List.append_nil] at h
    rw [← h]
  | w :: rest, pre, h, hp => by
    have hlen : W.length = pre.length + (rest.length + 1) := by rw [h]; simp
    have hidx : idx W (pre.length : Int) = some w := by rw [h]; exact idx_mid ..
    have s0 := (sum_mem_le pre (fun v hv => (hp v hv).1)).1
    have s1 := sum_le_of pre (fun v hv => (hp v hv).2)
    rw [ref02_Allocate.L0_eq, ref02_Allocate.SL0, cd_t (by omega), hidx]
    simp only [bind_some', wrap_succ (show pre.length < 9223372036854775807 by omega)]
    have eq : okW (w :: rest) ↔ (0 ≤ w ∧ w ≤ 1000000000) ∧ okW rest := by simp [okW]
    by_cases c1 : w < 0
    · rw [cd_t c1, if_neg (fun x => by have := (eq.1 x).1; omega)]
    · rw [cd_f c1]
      by_cases c2 : w > 1000000000
      · rw [cd_t c2, if_neg (fun x => by have := (eq.1 x).1; omega)]
      · have g := ralloc_L0 c W hl rest (pre ++ [w]) (by rw [h]; simp) (fun v hv => by
          rcases List.mem_append.1 hv with hv | hv
          · exact hp v hv
          · rw [List.mem_singleton.1 hv]; omega)
        rw [len_snoc, List.sum_append, List.sum_singleton] at g
        rw [cd_f c2, wrap64 (n := pre.sum + w) (by omega) (by omega), g]
        by_cases c3 : okW rest
        · rw [if_pos c3, if_pos (eq.2 ⟨by omega, c3⟩)]
        · rw [if_neg c3, if_neg (fun x => c3 (eq.1 x).2)]
end Go.Proofs.Ytphpegconhdnfaa
