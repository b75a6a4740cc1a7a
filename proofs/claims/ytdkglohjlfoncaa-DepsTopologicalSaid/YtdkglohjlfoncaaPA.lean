import Derived.Test.YtdkglohjlfoncaaPRefs
set_option maxRecDepth 100000
set_option linter.unusedVariables false
set_option linter.unusedSimpArgs false
namespace Go.Proofs.Ytdkglohjlfoncaa
open Go Go.Lift
theorem has_L0 (n : Int) : ∀ (rest pre : List Int), (pre ++ rest).length ≤ 1000000 → ref16_has.L0 (pre ++ rest) n (pre.length : Int) = some (decide (n ∈ rest), ()) := by
  intro rest
  induction rest with
  | nil => intro pre h; rw [ref16_has.L0_eq, ref16_has.SL0, cd_f (by simp)]; simp
  | cons x rest ih =>
    intro pre h
    have hl := len_mid pre x rest
    rw [ref16_has.L0_eq, ref16_has.SL0, cd_t (by rw [hl]; omega), idx_mid, bind_some']
    by_cases e : x = n
    · rw [beq_iff_eq.2 e, cond_true, decide_eq_true (by simp [e])]
    · rw [beq_eq_false_iff_ne.2 e, cond_false, wrap_succ (by omega)]
      have := ih (pre ++ [x]) (by rw [← mid_shift]; exact h)
      rw [len_snoc, ← mid_shift] at this
      rw [this]
      congr 2
      simp [Ne.symm e]
theorem has_val (l : List Int) (n : Int) (h : l.length ≤ 1000000) : ref16_has l n = some (decide (n ∈ l), ()) := has_L0 n l [] (by simpa using h)
theorem in_L0 (n : Int) : ∀ (rest pre : List Int), (pre ++ rest).length ≤ 1000000 → law16_in.L0 (pre ++ rest) n (pre.length : Int) = some (decide (n ∈ rest), ()) := by
  intro rest
  induction rest with
  | nil => intro pre h; rw [law16_in.L0_eq, law16_in.SL0, cd_f (by simp)]; simp
  | cons x rest ih =>
    intro pre h
    have hl := len_mid pre x rest
    rw [law16_in.L0_eq, law16_in.SL0, cd_t (by rw [hl]; omega), idx_mid, bind_some']
    by_cases e : x = n
    · rw [beq_iff_eq.2 e, cond_true, decide_eq_true (by simp [e])]
    · rw [beq_eq_false_iff_ne.2 e, cond_false, wrap_succ (by omega)]
      have := ih (pre ++ [x]) (by rw [← mid_shift]; exact h)
      rw [len_snoc, ← mid_shift] at this
      rw [this]
      congr 2
      simp [Ne.symm e]
theorem in_val (l : List Int) (n : Int) (h : l.length ≤ 1000000) : law16_in l n = some (decide (n ∈ l), ()) := in_L0 n l [] (by simpa using h)
theorem index_L0 (v : Int) : ∀ (rest pre : List Int), (pre ++ rest).length ≤ 1000000 → ∃ r, slices_Index_int_int.L0 (pre ++ rest) v ((pre ++ rest).length : Int) (pre.length : Int) = some (r, ()) ∧ decide (r ≥ 0) = decide (v ∈ rest) := by
  intro rest
  induction rest with
  | nil => intro pre h; rw [slices_Index_int_int.L0_eq, slices_Index_int_int.SL0, cd_f (by simp)]; exact ⟨_, rfl, by simp⟩
  | cons x rest ih =>
    intro pre h
    have hl := len_mid pre x rest
    rw [slices_Index_int_int.L0_eq, slices_Index_int_int.SL0, cd_t (by rw [hl]; omega), idx_mid, bind_some']
    by_cases e : v = x
    · rw [beq_iff_eq.2 e, cond_true]
      exact ⟨_, rfl, by rw [decide_eq_true (by omega), decide_eq_true (by simp [e])]⟩
    · rw [beq_eq_false_iff_ne.2 e, cond_false, wrap_succ (by omega)]
      obtain ⟨r, h1, h2⟩ := ih (pre ++ [x]) (by rw [← mid_shift]; exact h)
      rw [len_snoc, ← mid_shift] at h1
      exact ⟨r, h1, by rw [h2]; congr 1; simp [e]⟩
theorem contains_val (l : List Int) (n : Int) (h : l.length ≤ 1000000) : slices_Contains_int_int l n = some (decide (n ∈ l), ()) := by
  obtain ⟨r, h1, h2⟩ := index_L0 n l [] (by simpa using h)
  have h1' : slices_Index_int_int.L0 l n (l.length : Int) 0 = some (r, ()) := h1
  simp only [slices_Contains_int_int, slices_Contains_int_int.Se, slices_Index_int_int, slices_Index_int_int.Se, h1', bind_some', h2]
def nD (s : api_ScopeV) : Nat := s.2.2.2.1.length
def rls (s : api_ScopeV) : List api_RuleV := s.2.2.2.2.1
abbrev grd (r : api_RuleV) : List api_DateRangeV := r.2.2.2.2.2.1
abbrev vlu (r : api_RuleV) : List api_DateRangeV := r.2.2.2.2.2.2.1
structure Sm (s : api_ScopeV) : Prop where
  d : nD s ≤ 14
  r : (rls s).length ≤ 40
  e : ∀ r ∈ rls s, (grd r).length ≤ 60 ∧ (vlu r).length ≤ 60
theorem small_L1 (s : api_ScopeV) (hr : (rls s).length ≤ 40) : ∀ (rest pre : List api_RuleV), rls s = pre ++ rest → ∃ b, ref16_Small.L1 s (pre.length : Int) = some (b, ()) ∧ (b = true → ∀ r ∈ rest, (grd r).length ≤ 60 ∧ (vlu r).length ≤ 60) := by
  intro rest
  induction rest with
  | nil =>
    intro pre e
    have hl : s.2.2.2.2.1.length = pre.length := by have := congrArg List.length e; simpa [rls] using this
    rw [ref16_Small.L1_eq, ref16_Small.SL1, cd_f (by omega)]
    exact ⟨true, rfl, fun _ r hr => by cases hr⟩
  | cons x rest ih =>
    intro pre e
    have hl : s.2.2.2.2.1.length = pre.length + (rest.length + 1) := by have := congrArg List.length e; simpa [rls] using this
    have hx : idx s.2.2.2.2.1 (pre.length : Int) = some x := by
      have : s.2.2.2.2.1 = pre ++ x :: rest := e
      rw [this]; exact idx_mid _ _ _
    rw [ref16_Small.L1_eq, ref16_Small.SL1, cd_t (by omega), hx]
    simp only [bind_some']
    by_cases c1 : (x.2.2.2.2.2.1.length : Int) > 60
    · rw [cd_t c1]; exact ⟨false, rfl, fun h => by cases h⟩
    rw [cd_f c1]
    by_cases c2 : (x.2.2.2.2.2.2.1.length : Int) > 60
    · rw [cd_t c2]; exact ⟨false, rfl, fun h => by cases h⟩
    rw [cd_f c2]
    have hr' : (rls s).length = pre.length + (rest.length + 1) := hl
    rw [wrap_succ (by omega), ← len_snoc pre x]
    obtain ⟨b, h1, h2⟩ := ih (pre ++ [x]) (by rw [e, mid_shift])
    refine ⟨b, h1, fun hb r hr => ?_⟩
    rcases List.mem_cons.1 hr with h | h
    · subst h
      refine ⟨?_, ?_⟩
      · show r.2.2.2.2.2.1.length ≤ 60; omega
      · show r.2.2.2.2.2.2.1.length ≤ 60; omega
    · exact h2 hb r h
theorem small_val (s : api_ScopeV) : ∃ b, ref16_Small s = some (b, ()) ∧ (b = true → Sm s) := by
  simp only [ref16_Small, ref16_Small.Se]
  by_cases c1 : (s.2.2.2.1.length : Int) > 14
  · rw [cd_t c1]; exact ⟨false, rfl, fun h => by cases h⟩
  rw [cd_f c1]
  by_cases c2 : (s.2.2.2.2.1.length : Int) > 40
  · rw [cd_t c2]; exact ⟨false, rfl, fun h => by cases h⟩
  rw [cd_f c2, ref16_Small.J0_eq, ref16_Small.SJ0]
  have hr : (rls s).length ≤ 40 := by show s.2.2.2.2.1.length ≤ 40; omega
  obtain ⟨b, h1, h2⟩ := small_L1 s hr (rls s) [] rfl
  exact ⟨b, h1, fun hb => ⟨by show s.2.2.2.1.length ≤ 14; omega, hr, h2 hb⟩⟩
theorem refs_both (e : List api_DateRangeV) (h : e.length ≤ 60) : ∃ x y w, expr_References e = some (x, y, w, ()) ∧ ref10_References e = some (x, y, w, ()) ∧ SS y ∧ SS w ∧ y.length ≤ 1000 ∧ w.length ≤ 1000 := by
  simp only [expr_References, expr_References.Se, ref10_References, ref10_References.Se]
  obtain ⟨x, y, w, e1, s1, s2, s3, l1, l2, l3, m1, m2, m3⟩ := refs_L0 e [] [] [] [] (by simp; omega) (by simp) (by simp) (by simp)
  obtain ⟨x', y', w', e1', s1', s2', s3', m1', m2', m3'⟩ := rrefs_L0 e [] [] [] [] (by simp; omega) (by simp) (by simp) (by simp) .nil .nil .nil
  have q1 := SS_unique s1 s1' (fun t => by rw [m1, m1'])
  have q2 := SS_unique s2 s2' (fun t => by rw [m2, m2'])
  have q3 := SS_unique s3 s3' (fun t => by rw [m3, m3'])
  subst q1 q2 q3
  exact ⟨x, y, w, e1, e1', s2, s3, l2, l3⟩
/-- The definitions that an expression refers to, and the member definitions. -/
noncomputable def r2 (e : List api_DateRangeV) : List Int := ((expr_References e).map fun x => x.2.1).getD []
noncomputable def r3 (e : List api_DateRangeV) : List Int := ((expr_References e).map fun x => x.2.2.1).getD []
theorem refs_val (e : List api_DateRangeV) (h : e.length ≤ 60) : ∃ x, expr_References e = some (x, r2 e, r3 e, ()) ∧ ref10_References e = some (x, r2 e, r3 e, ()) ∧ (r2 e).length ≤ 1000 ∧ (r3 e).length ≤ 1000 := by
  obtain ⟨x, y, w, e1, e2, _, _, l2, l3⟩ := refs_both e h
  have a : r2 e = y := by unfold r2; rw [e1]; rfl
  have b : r3 e = w := by unfold r3; rw [e1]; rfl
  rw [a, b]
  exact ⟨x, e1, e2, l2, l3⟩
def okD (s : api_ScopeV) (d : Int) : Prop := 0 ≤ d ∧ d < (nD s : Int)
instance (s : api_ScopeV) (d : Int) : Decidable (okD s d) := by unfold okD; infer_instance
theorem okD_iff (s : api_ScopeV) (d : Int) : okD s d ↔ 0 ≤ d ∧ d < (s.2.2.2.1.length : Int) := Iff.rfl
theorem valid_val (s : api_ScopeV) (d : Int) : deps_valid s d = some (decide (okD s d), ()) := by
  rw [show deps_valid s d = (bif decide (d ≥ 0) then some (decide (d < (s.2.2.2.1.length : Int)), ()) else some (false, ())) from rfl]
  by_cases h : okD s d
  · have h' := (okD_iff s d).1 h
    rw [cd_t h'.1, decide_eq_true h'.2, decide_eq_true h]
  · by_cases h0 : d ≥ 0
    · rw [cd_t h0, decide_eq_false h, decide_eq_false (p := d < (s.2.2.2.1.length : Int)) (fun q => h ⟨h0, q⟩)]
    · rw [cd_f h0, decide_eq_false h]
theorem is_val (s : api_ScopeV) (d : Int) : ref16_is s d = some (decide (okD s d), ()) := by
  rw [show ref16_is s d = (bif decide (d ≥ 0) then some (decide (d < (s.2.2.2.1.length : Int)), ()) else some (false, ())) from rfl]
  by_cases h : okD s d
  · have h' := (okD_iff s d).1 h
    rw [cd_t h'.1, decide_eq_true h'.2, decide_eq_true h]
  · by_cases h0 : d ≥ 0
    · rw [cd_t h0, decide_eq_false h, decide_eq_false (p := d < (s.2.2.2.1.length : Int)) (fun q => h ⟨h0, q⟩)]
    · rw [cd_f h0, decide_eq_false h]
/-- x is a definition that a rule for d, out of the list, refers to. -/
def refd (s : api_ScopeV) (d : Int) (l : List api_RuleV) (x : Int) : Prop := ∃ r ∈ l, r.2.1 = d ∧ (x ∈ r2 (grd r) ∨ x ∈ r2 (vlu r)) ∧ okD s x
theorem direct_L2 (s : api_ScopeV) (d : Int) (V : List api_RuleV) (n i : Int) (W : List (List api_DateRangeV)) (m j : Int) : ∀ (rest pre out : List Int), (pre ++ rest).length ≤ 1000 → out.length + rest.length ≤ 100000 →
    ∃ out', deps_Direct.L2 d s out V n i W m j (pre ++ rest) ((pre ++ rest).length : Int) (pre.length : Int) = deps_Direct.L1 d s out' V n i W m (IntKind.i64.wrap (j + 1)) ∧ out'.length ≤ out.length + rest.length ∧ ∀ x, x ∈ out' ↔ x ∈ out ∨ (x ∈ rest ∧ okD s x) := by
  intro rest
  induction rest with
  | nil =>
    intro pre out h h2
    rw [deps_Direct.L2_eq, deps_Direct.SL2, cd_f (by simp)]
    exact ⟨out, rfl, by simp, fun x => by simp⟩
  | cons y rest ih =>
    intro pre out h h2
    have hl := len_mid pre y rest
    rw [List.length_cons] at h2
    rw [deps_Direct.L2_eq, deps_Direct.SL2, cd_t (by rw [hl]; omega), cd_b (by omega) (by rw [hl]; omega), Int.toNat_natCast, getD_mid, valid_val, bind_some', wrap_succ (by omega)]
    by_cases c : okD s y
    · rw [decide_eq_true c, cond_true, rm8 (by omega), cond_true]
      obtain ⟨o, h3, h4, h5⟩ := ih (pre ++ [y]) (out ++ [y]) (by rw [← mid_shift]; exact h) (by simp; omega)
      rw [len_snoc, ← mid_shift] at h3
      refine ⟨o, h3, by simp at h4 ⊢; omega, fun x => ?_⟩
      rw [h5 x, List.mem_append, List.mem_singleton, List.mem_cons]
      constructor
      · rintro ((a | a) | a)
        · exact .inl a
        · exact .inr ⟨.inl a, a ▸ c⟩
        · exact .inr ⟨.inr a.1, a.2⟩
      · rintro (a | ⟨a | a, b⟩)
        · exact .inl (.inl a)
        · exact .inl (.inr a)
        · exact .inr ⟨a, b⟩
    · rw [decide_eq_false c, cond_false]
      obtain ⟨o, h3, h4, h5⟩ := ih (pre ++ [y]) out (by rw [← mid_shift]; exact h) (by omega)
      rw [len_snoc, ← mid_shift] at h3
      refine ⟨o, h3, by simp; omega, fun x => ?_⟩
      rw [h5 x, List.mem_cons]
      constructor
      · rintro (a | a)
        · exact .inl a
        · exact .inr ⟨.inr a.1, a.2⟩
      · rintro (a | ⟨a | a, b⟩)
        · exact .inl a
        · exact absurd (a ▸ b) c
        · exact .inr ⟨a, b⟩
theorem direct_L1 (s : api_ScopeV) (d : Int) (V : List api_RuleV) (n : Int) (i : Nat) (hi : i ≤ 1000) (g v : List api_DateRangeV) (hg : g.length ≤ 60) (hv : v.length ≤ 60) (out : List Int) (ho : out.length ≤ 90000) :
    ∃ out', deps_Direct.L1 d s out V n (i : Int) [g, v] 2 0 = deps_Direct.L0 d s out' V n ((i + 1 : Nat) : Int) ∧ out'.length ≤ out.length + 2000 ∧ ∀ x, x ∈ out' ↔ x ∈ out ∨ ((x ∈ r2 g ∨ x ∈ r2 v) ∧ okD s x) := by
  obtain ⟨x1, a1, _, a3, _⟩ := refs_val g hg
  obtain ⟨x2, b1, _, b3, _⟩ := refs_val v hv
  obtain ⟨o1, c1, c2, c3⟩ := direct_L2 s d V n (i : Int) [g, v] 2 0 (r2 g) [] out (by simpa using a3) (by omega)
  obtain ⟨o2, d1, d2, d3⟩ := direct_L2 s d V n (i : Int) [g, v] 2 1 (r2 v) [] o1 (by simpa using b3) (by omega)
  simp only [List.nil_append, List.length_nil] at c1 d1
  have w1 : IntKind.i64.wrap (0 + 1) = 1 := wrap64 (by omega) (by omega)
  have w2 : IntKind.i64.wrap (1 + 1) = 2 := wrap64 (by omega) (by omega)
  refine ⟨o2, ?_, by omega, fun x => ?_⟩
  rotate_left
  · rw [d3, c3]
    constructor
    · rintro ((a | a) | a)
      · exact .inl a
      · exact .inr ⟨.inl a.1, a.2⟩
      · exact .inr ⟨.inr a.1, a.2⟩
    · rintro (a | ⟨a | a, b⟩)
      · exact .inl (.inl a)
      · exact .inl (.inr ⟨a, b⟩)
      · exact .inr ⟨a, b⟩
  rw [deps_Direct.L1_eq, deps_Direct.SL1]
  simp only [List.length_cons, List.length_nil]
  rw [cd_t (by omega), cd_b (by omega) (by omega)]
  have g0 : ([g, v] : List (List api_DateRangeV)).getD (Int.toNat 0) [] = g := rfl
  rw [g0, a1]
  simp only [bind_some']
  refine Eq.trans c1 ?_
  rw [w1, deps_Direct.L1_eq, deps_Direct.SL1]
  simp only [List.length_cons, List.length_nil]
  rw [cd_t (by omega), cd_b (by omega) (by omega)]
  have g1 : ([g, v] : List (List api_DateRangeV)).getD (Int.toNat 1) [] = v := rfl
  rw [g1, b1]
  simp only [bind_some']
  refine Eq.trans d1 ?_
  rw [w2, deps_Direct.L1_eq, deps_Direct.SL1, cd_f (by omega), wrap_succ (by omega)]
theorem direct_L0 (s : api_ScopeV) (d : Int) : ∀ (rest pre : List api_RuleV) (out : List Int), (pre ++ rest).length ≤ 40 → (∀ r ∈ rest, (grd r).length ≤ 60 ∧ (vlu r).length ≤ 60) → out.length ≤ 2000 * pre.length →
    ∃ l, deps_Direct.L0 d s out (pre ++ rest) ((pre ++ rest).length : Int) (pre.length : Int) = some (l, ()) ∧ SS l ∧ ∀ x, x ∈ l ↔ x ∈ out ∨ refd s d rest x := by
  intro rest
  induction rest with
  | nil =>
    intro pre out h h2 h3
    simp only [List.append_nil] at h
    rw [deps_Direct.L0_eq, deps_Direct.SL0, cd_f (by simp)]
    obtain ⟨o, e, p, st⟩ := sort_int out (by omega)
    have := p.length_eq
    obtain ⟨c, c1, c2, c3⟩ := compact_val st (by omega)
    rw [e, bind_some', c1, bind_some']
    exact ⟨c, rfl, c2, fun x => by rw [c3, p.mem_iff]; simp [refd]⟩
  | cons r rest ih =>
    intro pre out h h2 h3
    have hl := len_mid pre r rest
    have hr := h2 r List.mem_cons_self
    rw [deps_Direct.L0_eq, deps_Direct.SL0, cd_t (by rw [hl]; omega), idx_mid, bind_some']
    have step : ∀ (out' : List Int), out'.length ≤ out.length + 2000 → (∀ x, x ∈ out' ↔ x ∈ out ∨ (r.2.1 = d ∧ (x ∈ r2 (grd r) ∨ x ∈ r2 (vlu r)) ∧ okD s x)) →
        ∃ l, deps_Direct.L0 d s out' (pre ++ r :: rest) ((pre ++ r :: rest).length : Int) ((pre.length + 1 : Nat) : Int) = some (l, ()) ∧ SS l ∧ ∀ x, x ∈ l ↔ x ∈ out ∨ refd s d (r :: rest) x := by
      intro out' ho hm
      obtain ⟨l, e, sl, ml⟩ := ih (pre ++ [r]) out' (by rw [← mid_shift]; exact h) (fun q hq => h2 q (List.mem_cons_of_mem _ hq)) (by simp; omega)
      rw [len_snoc, ← mid_shift] at e
      refine ⟨l, e, sl, fun x => ?_⟩
      rw [ml, hm, or_assoc]
      unfold refd
      simp only [List.mem_cons, exists_eq_or_imp]
    by_cases c : r.2.1 = d
    · have : (r.2.1 != d) = false := by simp [c]
      rw [this, cond_false]
      obtain ⟨o, e, l1, m1⟩ := direct_L1 s d (pre ++ r :: rest) ((pre ++ r :: rest).length : Int) pre.length (by omega) (grd r) (vlu r) hr.1 hr.2 out (by omega)
      obtain ⟨l, q1, q2, q3⟩ := step o l1 (fun x => by rw [m1]; simp [c])
      exact ⟨l, e.trans q1, q2, q3⟩
    · have : (r.2.1 != d) = true := by simp [c]
      rw [this, cond_true, wrap_succ (by omega)]
      exact step out (by omega) (fun x => by simp [c])
theorem rdirect_L2 (s : api_ScopeV) (d : Int) (i : Int) : ∀ (rest pre out : List Int), (pre ++ rest).length ≤ 1000 → out.length + rest.length ≤ 90000 → SS out →
    ∃ out', ref16_Direct.L2 d s out i (pre ++ rest) (pre.length : Int) = ref16_Direct.L0 d s out' (IntKind.i64.wrap (i + 1)) ∧ SS out' ∧ out'.length ≤ out.length + rest.length ∧ ∀ x, x ∈ out' ↔ x ∈ out ∨ (x ∈ rest ∧ okD s x) := by
  intro rest
  induction rest with
  | nil =>
    intro pre out h h2 h3
    rw [ref16_Direct.L2_eq, ref16_Direct.SL2, cd_f (by simp)]
    exact ⟨out, rfl, h3, by simp, fun x => by simp⟩
  | cons y rest ih =>
    intro pre out h h2 h3
    have hl := len_mid pre y rest
    rw [List.length_cons] at h2
    rw [ref16_Direct.L2_eq, ref16_Direct.SL2, cd_t (by rw [hl]; omega), cd_b (by omega) (by rw [hl]; omega), Int.toNat_natCast, getD_mid, is_val, bind_some', wrap_succ (by omega)]
    by_cases c : okD s y
    · rw [decide_eq_true c, cond_true, cd_b (by omega) (by rw [hl]; omega), ins16_val _ _ (by omega), bind_some']
      have li := insS_length out y
      obtain ⟨o, h4, h5, h6, h7⟩ := ih (pre ++ [y]) (insS out y) (by rw [← mid_shift]; exact h) (by omega) (insS_SS _ _ h3)
      rw [len_snoc, ← mid_shift] at h4
      refine ⟨o, h4, h5, by simp; omega, fun x => ?_⟩
      rw [h7 x, insS_mem, List.mem_cons]
      constructor
      · rintro ((a | a) | a)
        · exact .inl a
        · exact .inr ⟨.inl a, a ▸ c⟩
        · exact .inr ⟨.inr a.1, a.2⟩
      · rintro (a | ⟨a | a, b⟩)
        · exact .inl (.inl a)
        · exact .inl (.inr a)
        · exact .inr ⟨a, b⟩
    · rw [decide_eq_false c, cond_false]
      obtain ⟨o, h4, h5, h6, h7⟩ := ih (pre ++ [y]) out (by rw [← mid_shift]; exact h) (by omega) h3
      rw [len_snoc, ← mid_shift] at h4
      refine ⟨o, h4, h5, by simp; omega, fun x => ?_⟩
      rw [h7 x, List.mem_cons]
      constructor
      · rintro (a | a)
        · exact .inl a
        · exact .inr ⟨.inr a.1, a.2⟩
      · rintro (a | ⟨a | a, b⟩)
        · exact .inl a
        · exact absurd (a ▸ b) c
        · exact .inr ⟨a, b⟩
theorem rdirect_L1 (s : api_ScopeV) (d : Int) (i : Int) (b : List Int) : ∀ (rest pre out : List Int), (pre ++ rest).length ≤ 1000 → out.length + rest.length ≤ 90000 → SS out →
    ∃ out', ref16_Direct.L1 d s out i (pre ++ rest) b (pre.length : Int) = ref16_Direct.L2 d s out' i b 0 ∧ SS out' ∧ out'.length ≤ out.length + rest.length ∧ ∀ x, x ∈ out' ↔ x ∈ out ∨ (x ∈ rest ∧ okD s x) := by
  intro rest
  induction rest with
  | nil =>
    intro pre out h h2 h3
    rw [ref16_Direct.L1_eq, ref16_Direct.SL1, cd_f (by simp)]
    exact ⟨out, rfl, h3, by simp, fun x => by simp⟩
  | cons y rest ih =>
    intro pre out h h2 h3
    have hl := len_mid pre y rest
    rw [List.length_cons] at h2
    rw [ref16_Direct.L1_eq, ref16_Direct.SL1, cd_t (by rw [hl]; omega), cd_b (by omega) (by rw [hl]; omega), Int.toNat_natCast, getD_mid, is_val, bind_some', wrap_succ (by omega)]
    by_cases c : okD s y
    · rw [decide_eq_true c, cond_true, cd_b (by omega) (by rw [hl]; omega), ins16_val _ _ (by omega), bind_some']
      have li := insS_length out y
      obtain ⟨o, h4, h5, h6, h7⟩ := ih (pre ++ [y]) (insS out y) (by rw [← mid_shift]; exact h) (by omega) (insS_SS _ _ h3)
      rw [len_snoc, ← mid_shift] at h4
      refine ⟨o, h4, h5, by simp; omega, fun x => ?_⟩
      rw [h7 x, insS_mem, List.mem_cons]
      constructor
      · rintro ((a | a) | a)
        · exact .inl a
        · exact .inr ⟨.inl a, a ▸ c⟩
        · exact .inr ⟨.inr a.1, a.2⟩
      · rintro (a | ⟨a | a, b⟩)
        · exact .inl (.inl a)
        · exact .inl (.inr a)
        · exact .inr ⟨a, b⟩
    · rw [decide_eq_false c, cond_false]
      obtain ⟨o, h4, h5, h6, h7⟩ := ih (pre ++ [y]) out (by rw [← mid_shift]; exact h) (by omega) h3
      rw [len_snoc, ← mid_shift] at h4
      refine ⟨o, h4, h5, by simp; omega, fun x => ?_⟩
      rw [h7 x, List.mem_cons]
      constructor
      · rintro (a | a)
        · exact .inl a
        · exact .inr ⟨.inr a.1, a.2⟩
      · rintro (a | ⟨a | a, b⟩)
        · exact .inl a
        · exact absurd (a ▸ b) c
        · exact .inr ⟨a, b⟩
theorem rdirect_L0 (s : api_ScopeV) (d : Int) : ∀ (rest pre : List api_RuleV) (out : List Int), rls s = pre ++ rest → (rls s).length ≤ 40 → (∀ r ∈ rest, (grd r).length ≤ 60 ∧ (vlu r).length ≤ 60) → out.length ≤ 2000 * pre.length → SS out →
    ∃ l, ref16_Direct.L0 d s out (pre.length : Int) = some (l, ()) ∧ SS l ∧ ∀ x, x ∈ l ↔ x ∈ out ∨ refd s d rest x := by
  intro rest
  induction rest with
  | nil =>
    intro pre out e h h2 h3 h4
    have hl : s.2.2.2.2.1.length = pre.length := by have := congrArg List.length e; simpa [rls] using this
    rw [ref16_Direct.L0_eq, ref16_Direct.SL0, cd_f (by omega)]
    exact ⟨out, rfl, h4, fun x => by simp [refd]⟩
  | cons r rest ih =>
    intro pre out e h h2 h3 h4
    have hl : s.2.2.2.2.1.length = pre.length + (rest.length + 1) := by have := congrArg List.length e; simpa [rls] using this
    have hr := h2 r List.mem_cons_self
    have hx : idx s.2.2.2.2.1 (pre.length : Int) = some r := by
      have : s.2.2.2.2.1 = pre ++ r :: rest := e
      rw [this]; exact idx_mid _ _ _
    have hlen : (rls s).length = pre.length + (rest.length + 1) := hl
    rw [ref16_Direct.L0_eq, ref16_Direct.SL0, cd_t (by omega), hx]
    simp only [bind_some']
    have step : ∀ (out' : List Int), SS out' → out'.length ≤ out.length + 2000 → (∀ x, x ∈ out' ↔ x ∈ out ∨ (r.2.1 = d ∧ (x ∈ r2 (grd r) ∨ x ∈ r2 (vlu r)) ∧ okD s x)) →
        ∃ l, ref16_Direct.L0 d s out' ((pre.length + 1 : Nat) : Int) = some (l, ()) ∧ SS l ∧ ∀ x, x ∈ l ↔ x ∈ out ∨ refd s d (r :: rest) x := by
      intro out' so ho hm
      obtain ⟨l, e, sl, ml⟩ := ih (pre ++ [r]) out' (by rw [e, mid_shift]) h (fun q hq => h2 q (List.mem_cons_of_mem _ hq)) (by simp; omega) so
      rw [len_snoc] at e
      refine ⟨l, e, sl, fun x => ?_⟩
      rw [ml, hm, or_assoc]
      unfold refd
      simp only [List.mem_cons, exists_eq_or_imp]
    by_cases c : r.2.1 = d
    · have : (r.2.1 != d) = false := by simp [c]
      rw [this, cond_false]
      obtain ⟨x1, _, a2, a3, _⟩ := refs_val (grd r) hr.1
      obtain ⟨x2, _, b2, b3, _⟩ := refs_val (vlu r) hr.2
      have a2' : ref10_References r.2.2.2.2.2.1 = _ := a2
      have b2' : ref10_References r.2.2.2.2.2.2.1 = _ := b2
      rw [a2', bind_some', b2', bind_some']
      obtain ⟨o1, c1, c2, c3, c4⟩ := rdirect_L1 s d (pre.length : Int) (r2 (vlu r)) (r2 (grd r)) [] out (by simpa using a3) (by omega) h4
      obtain ⟨o2, d1, d2, d3, d4⟩ := rdirect_L2 s d (pre.length : Int) (r2 (vlu r)) [] o1 (by simpa using b3) (by omega) c2
      obtain ⟨l, q1, q2, q3⟩ := step o2 d2 (by omega) (fun x => by
        rw [d4, c4]
        constructor
        · rintro ((a | a) | a)
          · exact .inl a
          · exact .inr ⟨c, .inl a.1, a.2⟩
          · exact .inr ⟨c, .inr a.1, a.2⟩
        · rintro (a | ⟨_, a | a, b⟩)
          · exact .inl (.inl a)
          · exact .inl (.inr ⟨a, b⟩)
          · exact .inr ⟨a, b⟩)
      rw [wrap_succ (by omega)] at d1
      exact ⟨l, c1.trans (d1.trans q1), q2, q3⟩
    · have : (r.2.1 != d) = true := by simp [c]
      rw [this, cond_true, wrap_succ (by omega)]
      exact step out h4 (by omega) (fun x => by simp [c])
/-- What Direct returns. -/
noncomputable def dir (s : api_ScopeV) (d : Int) : List Int := ((deps_Direct s d).map fun x => x.1).getD []
theorem direct_val {s : api_ScopeV} (h : Sm s) (d : Int) : deps_Direct s d = some (dir s d, ()) ∧ ref16_Direct s d = some (dir s d, ()) ∧ SS (dir s d) ∧ (∀ x ∈ dir s d, okD s x ∧ okD s d) := by
  have key : ∃ l, deps_Direct s d = some (l, ()) ∧ ref16_Direct s d = some (l, ()) ∧ SS l ∧ ∀ x ∈ l, okD s x ∧ okD s d := by
    simp only [deps_Direct, deps_Direct.Se, ref16_Direct, ref16_Direct.Se, valid_val, is_val, bind_some']
    by_cases c : okD s d
    · rw [decide_eq_true c]
      obtain ⟨l, e, sl, ml⟩ := direct_L0 s d (rls s) [] [] (by simpa using h.r) h.e (by simp)
      obtain ⟨l', e', sl', ml'⟩ := rdirect_L0 s d (rls s) [] [] rfl h.r h.e (by simp) .nil
      have := SS_unique sl sl' (fun t => by rw [ml, ml'])
      subst this
      refine ⟨l, e, e', sl, fun x hx => ?_⟩
      rcases (ml x).1 hx with q | ⟨_, _, _, _, q⟩
      · cases q
      · exact ⟨q, c⟩
    · rw [decide_eq_false c]
      exact ⟨[], rfl, rfl, .nil, fun x hx => by cases hx⟩
  obtain ⟨l, e1, e2, e3, e4⟩ := key
  have : dir s d = l := by unfold dir; rw [e1]; rfl
  rw [this]
  exact ⟨e1, e2, e3, e4⟩
theorem range_le {s : api_ScopeV} {l : List Int} (h : SS l) (hl : ∀ x ∈ l, okD s x) : l.length ≤ nD s := by
  have hn : l.Nodup := h.imp (fun h => by omega)
  have := nodup_le l ((List.range (nD s)).map (fun (i : Nat) => (i : Int))) hn (fun x hx => by
    obtain ⟨h1, h2⟩ := hl x hx
    exact List.mem_map.2 ⟨x.toNat, List.mem_range.2 (by omega), by omega⟩)
  simpa using this
theorem dir_le {s : api_ScopeV} (h : Sm s) (d : Int) : (dir s d).length ≤ 14 := by
  obtain ⟨_, _, h3, h4⟩ := direct_val h d
  have := range_le h3 (fun x hx => (h4 x hx).1)
  have := h.d
  omega
end Go.Proofs.Ytdkglohjlfoncaa
