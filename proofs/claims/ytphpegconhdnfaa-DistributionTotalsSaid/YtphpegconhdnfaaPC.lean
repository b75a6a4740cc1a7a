import Derived.Test.YtphpegconhdnfaaPD
set_option maxRecDepth 100000
set_option linter.unusedVariables false
set_option linter.unusedSimpArgs false
namespace Go.Proofs.Ytphpegconhdnfaa
open Go Go.Lift
def okG (n g : Int) : Bool := decide (0 ≤ g) && decide (g < n)
theorem groups1_val (g n : Int) : distribution_Groups_1 g n = some (!okG n g, n, ()) := by
  simp only [distribution_Groups_1, distribution_Groups_1.Se, okG]
  by_cases h : g < 0
  · rw [cd_t h, decide_eq_false (show ¬ 0 ≤ g by omega)]; rfl
  · rw [cd_f h, decide_eq_true (show 0 ≤ g by omega), Bool.true_and]
    by_cases k : g < n
    · rw [decide_eq_true k, decide_eq_false (show ¬ g ≥ n by omega)]; rfl
    · rw [decide_eq_false k, decide_eq_true (show g ≥ n by omega)]; rfl
theorem index_groups (n : Int) : ∀ (rest pre : List Int), (pre ++ rest).length ≤ 1000000 →
    ∃ r, slices_IndexFunc_int_int_distribution_Groups_1.L0 (pre ++ rest) ((pre ++ rest).length : Int) (pre.length : Int) n = some (r, n, ()) ∧ (decide (r ≥ 0) = !rest.all (okG n)) := by
  intro rest
  induction rest with
  | nil =>
    intro pre h
    rw [slices_IndexFunc_int_int_distribution_Groups_1.L0_eq, slices_IndexFunc_int_int_distribution_Groups_1.SL0, cd_f (by simp)]
    exact ⟨_, rfl, rfl⟩
  | cons x rest ih =>
    intro pre h
    have hl := len_mid pre x rest
    rw [slices_IndexFunc_int_int_distribution_Groups_1.L0_eq, slices_IndexFunc_int_int_distribution_Groups_1.SL0, cd_t (by rw [hl]; omega), idx_mid]
    simp only [bind_some', groups1_val]
    cases e : okG n x with
    | false =>
      refine ⟨_, rfl, ?_⟩
      simp [e]
    | true =>
      obtain ⟨r, e1, e2⟩ := ih (pre ++ [x]) (by rw [← mid_shift]; exact h)
      refine ⟨r, ?_, ?_⟩
      · rw [wrap_succ (by omega), ← len_snoc pre x, mid_shift]
        exact e1
      · rw [e2]; simp [e]
theorem contains_groups (g : List Int) (n : Int) (h : g.length ≤ 1000000) : slices_ContainsFunc_int_int_distribution_Groups_1 g n = some (!g.all (okG n), n, ()) := by
  obtain ⟨r, e1, e2⟩ := index_groups n g [] (by simpa using h)
  have e1' : slices_IndexFunc_int_int_distribution_Groups_1.L0 g (g.length : Int) 0 n = some (r, n, ()) := by simpa using e1
  simp only [slices_ContainsFunc_int_int_distribution_Groups_1, slices_ContainsFunc_int_int_distribution_Groups_1.Se, slices_IndexFunc_int_int_distribution_Groups_1, slices_IndexFunc_int_int_distribution_Groups_1.Se, e1', bind_some', e2]
def zB : api_BucketV := (0, 0, 0, 0, ())
def gB (i : Nat) : api_BucketV := ((i : Int), ((i + 1 : Nat) : Int), 0, 0, ())
/-- Values put into their groups, one after the other. -/
def put : List Int → List Int → List api_BucketV → List api_BucketV
  | v :: vs, g :: gs, out => put vs gs (out.set g.toNat (addB (out.getD g.toNat zB) v))
  | _, _, out => out
theorem put_length : ∀ (vs gs : List Int) (out : List api_BucketV), (put vs gs out).length = out.length := by
  intro vs
  induction vs with
  | nil => intro gs out; cases gs <;> rfl
  | cons v vs ih =>
    intro gs out
    cases gs with
    | nil => rfl
    | cons g gs => rw [put, ih, List.length_set]
theorem okG_iff {n g : Int} : okG n g = true ↔ 0 ≤ g ∧ g < n := by simp [okG]
theorem groups_L3 : ∀ (rest gs pre gp : List Int) (out : List api_BucketV), (pre ++ rest).length ≤ 1000 → gp.length = pre.length → gs.length = rest.length → gs.all (okG (out.length : Int)) = true →
    distribution_Groups.L3 (gp ++ gs) out (pre ++ rest) ((pre ++ rest).length : Int) (pre.length : Int) = some (put rest gs out, 0, ()) := by
  intro rest
  induction rest with
  | nil =>
    intro gs pre gp out h h1 h2 h3
    rw [distribution_Groups.L3_eq, distribution_Groups.SL3, cd_f (by simp)]
    cases gs <;> rfl
  | cons v rest ih =>
    intro gs pre gp out h h1 h2 h3
    cases gs with
    | nil => cases h2
    | cons g gs =>
      have hlen := len_mid pre v rest
      rw [List.all_cons, Bool.and_eq_true, okG_iff] at h3
      obtain ⟨⟨g1, g2⟩, h3⟩ := h3
      obtain ⟨j, rfl⟩ := Int.eq_ofNat_of_zero_le g1
      have ig : idx (gp ++ (j : Int) :: gs) (pre.length : Int) = some (j : Int) := by rw [← h1]; exact idx_mid _ _ _
      rw [distribution_Groups.L3_eq, distribution_Groups.SL3, cd_t (by rw [hlen]; omega), idx_mid]
      simp only [bind_some', ig]
      simp only [List.length_set, Int.toNat_natCast]
      have hj : j < out.length := by omega
      rw [cd_b (by omega) (by omega), cd_b (by omega) (by omega), cd_b (by omega) (by omega), cd_b (by omega) (by omega), List.set_set, wrap_succ (by omega)]
      have i2 := ih gs (pre ++ [v]) (gp ++ [(j : Int)]) (out.set j (addB (out.getD j zB) v)) (by rw [← mid_shift]; exact h) (by simp [h1]) (by simpa using h2) (by rw [List.length_set]; exact h3)
      rw [len_snoc, ← mid_shift, ← mid_shift] at i2
      show distribution_Groups.L3 _ _ _ _ _ = some (put rest gs (out.set j (addB (out.getD j zB) v)), 0, ())
      rw [← i2]
      congr 2
      rw [getD_set_if, if_pos ⟨rfl, hj⟩]
      rfl
theorem groups_L2 (v g : List Int) (n : Nat) (hn : n ≤ 64) : ∀ (d : Nat) (A : List api_BucketV), A.length + d = n →
    distribution_Groups.L2 v g (A ++ List.replicate d zB) (n : Int) (A.length : Int) = distribution_Groups.L3 g (A ++ (List.range d).map (fun i => gB (A.length + i))) v (v.length : Int) 0 := by
  intro d
  induction d with
  | zero =>
    intro A h
    rw [distribution_Groups.L2_eq, distribution_Groups.SL2, cd_f (by omega)]
    simp
  | succ d ih =>
    intro A h
    rw [distribution_Groups.L2_eq, distribution_Groups.SL2, cd_t (by omega)]
    simp only [Int.toNat_natCast, List.length_set, List.replicate_succ, setm, getD_mid]
    simp only [len_mid, List.length_replicate]
    rw [cd_b (by omega) (by omega), cd_b (by omega) (by omega), wrap_succ (by omega)]
    have := ih (A ++ [gB A.length]) (by simp; omega)
    rw [len_snoc] at this
    have e1 : (A ++ [gB A.length]).length = A.length + 1 := by simp
    rw [e1, List.append_assoc] at this
    refine this.trans ?_
    congr 1
    rw [List.range_succ_eq_map, List.map_cons, List.map_map, Nat.add_zero]
    refine (List.append_assoc _ _ _).trans (congrArg (A ++ ·) (congrArg (List.cons _) (List.map_congr_left fun i _ => ?_)))
    simp only [Function.comp]
    congr 1
    omega
/-- The groups before a value is put into them. -/
def emptyG (n : Nat) : List api_BucketV := (List.range n).map gB
theorem emptyG_length (n : Nat) : (emptyG n).length = n := by simp [emptyG]
theorem rgroups_L2 (v g : List Int) (n : Nat) (hn : n ≤ 64) : ∀ (d i : Nat), i + d = n →
    ref59_Groups.L2 v g (n : Int) (emptyG i) (i : Int) = ref59_Groups.L3 v g (n : Int) (emptyG n) 0 := by
  intro d
  induction d with
  | zero =>
    intro i h
    rw [ref59_Groups.L2_eq, ref59_Groups.SL2, cd_f (by omega), show i = n by omega]
  | succ d ih =>
    intro i h
    have i2 := ih (i + 1) (by omega)
    rw [ref59_Groups.L2_eq, ref59_Groups.SL2, cd_t (by omega), wrap_succ (by omega), emptyG_length, decide_eq_true (by rw [room_eq]; omega)]
    have : emptyG (i + 1) = emptyG i ++ [gB i] := by unfold emptyG; rw [List.range_succ, List.map_append, List.map_singleton]
    rw [this] at i2
    exact i2
theorem rgroups_L3 (n : Nat) : ∀ (rest gs pre gp : List Int) (out : List api_BucketV), (pre ++ rest).length ≤ 1000 → gp.length = pre.length → gs.length = rest.length → out.length = n →
    ref59_Groups.L3 (pre ++ rest) (gp ++ gs) (n : Int) out (pre.length : Int) = if gs.all (okG (n : Int)) = true then some (put rest gs out, 0, ()) else some ([], 3, ()) := by
  intro rest
  induction rest with
  | nil =>
    intro gs pre gp out h h1 h2 h3
    rw [ref59_Groups.L3_eq, ref59_Groups.SL3, cd_f (by simp)]
    cases gs with
    | nil => rfl
    | cons g gs => cases h2
  | cons v rest ih =>
    intro gs pre gp out h h1 h2 h3
    cases gs with
    | nil => cases h2
    | cons g gs =>
      have hlen := len_mid pre v rest
      have ig : idx (gp ++ g :: gs) (pre.length : Int) = some g := by rw [← h1]; exact idx_mid _ _ _
      rw [ref59_Groups.L3_eq, ref59_Groups.SL3, cd_t (by rw [hlen]; omega), ig]
      simp only [bind_some']
      by_cases c1 : g < 0
      · rw [cd_t c1, if_neg (by simp [okG]; omega)]
      rw [cd_f c1]
      by_cases c2 : g ≥ n
      · rw [cd_t c2, if_neg (by simp [okG]; omega)]
      rw [cd_f c2, ref59_Groups.J4_eq, ref59_Groups.SJ4]
      obtain ⟨j, rfl⟩ := Int.eq_ofNat_of_zero_le (show 0 ≤ g by omega)
      simp only [List.length_set, Int.toNat_natCast, idx_mid, bind_some']
      have hj : j < out.length := by omega
      rw [cd_b (by omega) (by omega), cd_b (by omega) (by omega), cd_b (by omega) (by omega), cd_b (by omega) (by omega), List.set_set, wrap_succ (by omega)]
      have i2 := ih gs (pre ++ [v]) (gp ++ [(j : Int)]) (out.set j (addB (out.getD j zB) v)) (by rw [← mid_shift]; exact h) (by simp [h1]) (by simpa using h2) (by rw [List.length_set]; exact h3)
      rw [len_snoc, ← mid_shift, ← mid_shift] at i2
      have e : (((j : Int) :: gs).all (okG (n : Int)) = true) = (gs.all (okG (n : Int)) = true) := by
        rw [List.all_cons, okG_iff.2 ⟨by omega, by omega⟩, Bool.true_and]
      simp only [e]
      show _ = if gs.all (okG (n : Int)) = true then some (put rest gs (out.set j (addB (out.getD j zB) v)), 0, ()) else some ([], 3, ())
      rw [← i2]
      congr 2
      rw [getD_set_if, if_pos ⟨rfl, hj⟩]
      rfl
/-- What Groups returns. -/
def groupsR (v g : List Int) (n : Int) : Option (List api_BucketV × Int × Unit) :=
  if v.length = g.length then (if n > 64 then some ([], 4, ()) else if n < 1 then some ([], 3, ()) else if allM v = true ∧ g.all (okG n) = true then some (put v g (emptyG n.toNat), 0, ()) else some ([], 3, ())) else some ([], 2, ())
theorem groups_both (v g : List Int) (n : Int) (h : v.length ≤ 1000) : distribution_Groups v g n = groupsR v g n ∧ ref59_Groups v g n = groupsR v g n := by
  simp only [distribution_Groups, distribution_Groups.Se, ref59_Groups, ref59_Groups.Se, groupsR]
  by_cases c0 : v.length = g.length
  · have e0 : ((v.length : Int) != (g.length : Int)) = false := by rw [c0]; simp
    rw [e0, cond_false, cond_false, if_pos c0, cd_f (show ¬ (v.length : Int) > 4096 by omega), cd_f (show ¬ (v.length : Int) > 4096 by omega), distribution_Groups.J1_eq, distribution_Groups.SJ1]
    by_cases c1 : n > 64
    · rw [decide_eq_true c1, cond_true, cond_true, if_pos c1]; exact ⟨rfl, rfl⟩
    rw [decide_eq_false c1, cond_false, cond_false, if_neg c1, ref59_Groups.J0_eq, ref59_Groups.SJ0]
    by_cases c2 : n < 1
    · rw [cd_t c2, cd_t c2, cd_t c2, if_pos c2]; exact ⟨rfl, rfl⟩
    rw [cd_f c2, cd_f c2, if_neg c2, allWithin_val v (by omega), rwithin_val v (by omega)]
    simp only [bind_some', contains_groups g n (by omega)]
    obtain ⟨m, rfl⟩ := Int.eq_ofNat_of_zero_le (show 0 ≤ n by omega)
    have own : distribution_Groups.J0 v g (m : Int) = distribution_Groups.L3 g (emptyG m) v (v.length : Int) 0 := by
      rw [distribution_Groups.J0_eq, distribution_Groups.SJ0]
      rw [decide_eq_true (show (0 : Int) ≤ (m : Int) by omega), decide_eq_true (Int.le_refl _), decide_eq_true (show (m : Int) * 32 ≤ room by rw [room_eq]; omega), decide_eq_true (show (m : Int) ≤ maxLen by rw [maxLen_eq]; omega)]
      simp only [Int.toNat_natCast, List.length_replicate]
      have := groups_L2 v g m (by omega) m [] (by simp)
      simp only [List.nil_append, List.length_nil, Nat.zero_add] at this
      exact this
    have rf : ref59_Groups.J1 v g (m : Int) = ref59_Groups.L3 v g (m : Int) (emptyG m) 0 := by
      rw [ref59_Groups.J1_eq, ref59_Groups.SJ1]
      exact rgroups_L2 v g m (by omega) m 0 (by omega)
    have r3 := rgroups_L3 m v g [] [] (emptyG m) (by simpa using h) rfl c0.symm (emptyG_length m)
    have r3' : ref59_Groups.L3 v g (m : Int) (emptyG m) 0 = if g.all (okG (m : Int)) = true then some (put v g (emptyG m), 0, ()) else some ([], 3, ()) := r3
    rw [own, rf, r3', Int.toNat_natCast]
    cases e1 : allM v with
    | false => rw [if_neg (by simp)]; exact ⟨rfl, rfl⟩
    | true =>
      by_cases e2 : g.all (okG (m : Int)) = true
      · have o3 := groups_L3 v g [] [] (emptyG m) (by simpa using h) rfl c0.symm (by rw [emptyG_length]; exact e2)
        have o3' : distribution_Groups.L3 g (emptyG m) v (v.length : Int) 0 = some (put v g (emptyG m), 0, ()) := o3
        rw [e2, o3', if_pos rfl, if_pos ⟨rfl, rfl⟩]; exact ⟨rfl, rfl⟩
      · rw [if_neg e2, if_neg (fun q => e2 q.2), Bool.eq_false_iff.2 e2]; exact ⟨rfl, rfl⟩
  · have e0 : ((v.length : Int) != (g.length : Int)) = true := by simp; omega
    rw [e0, if_neg c0]; exact ⟨rfl, rfl⟩
theorem groupsR_cases (v g : List Int) (n : Int) : (∃ e, groupsR v g n = some ([], e, ()) ∧ e ≠ 0) ∨ (v.length = g.length ∧ 1 ≤ n ∧ n ≤ 64 ∧ allM v = true ∧ g.all (okG n) = true ∧ groupsR v g n = some (put v g (emptyG n.toNat), 0, ())) := by
  unfold groupsR
  by_cases c0 : v.length = g.length
  · rw [if_pos c0]
    by_cases c1 : n > 64
    · rw [if_pos c1]; exact .inl ⟨4, rfl, by omega⟩
    rw [if_neg c1]
    by_cases c2 : n < 1
    · rw [if_pos c2]; exact .inl ⟨3, rfl, by omega⟩
    rw [if_neg c2]
    by_cases c3 : allM v = true ∧ g.all (okG n) = true
    · rw [if_pos c3]; exact .inr ⟨c0, by omega, by omega, c3.1, c3.2, rfl⟩
    · rw [if_neg c3]; exact .inl ⟨3, rfl, by omega⟩
  · rw [if_neg c0]; exact .inl ⟨2, rfl, by omega⟩
end Go.Proofs.Ytphpegconhdnfaa
