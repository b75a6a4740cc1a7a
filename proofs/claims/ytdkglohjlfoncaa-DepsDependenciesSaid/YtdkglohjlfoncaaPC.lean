import Derived.Test.YtdkglohjlfoncaaPB
set_option maxRecDepth 100000
set_option linter.unusedVariables false
set_option linter.unusedSimpArgs false
namespace Go.Proofs.Ytdkglohjlfoncaa
open Go Go.Lift
def memd (need : List Int) (l : List api_RuleV) (x : Int) : Prop := ∃ r ∈ l, r.2.1 ∈ need ∧ (x ∈ r3 (grd r) ∨ x ∈ r3 (vlu r))
theorem mem_L1 (need : List Int) (V : List api_RuleV) (n : Int) (i : Nat) (hi : i ≤ 1000) (g v : List api_DateRangeV) (hg : g.length ≤ 60) (hv : v.length ≤ 60) (out : List Int) (ho : out.length ≤ 90000) :
    ∃ out', deps_MemberDefs.L1 need out V n (i : Int) [g, v] 2 0 = deps_MemberDefs.L0 need out' V n ((i + 1 : Nat) : Int) ∧ out'.length ≤ out.length + 2000 ∧ ∀ x, x ∈ out' ↔ x ∈ out ∨ (x ∈ r3 g ∨ x ∈ r3 v) := by
  obtain ⟨x1, a1, _, _, a3⟩ := refs_val g hg
  obtain ⟨x2, b1, _, _, b3⟩ := refs_val v hv
  have w1 : IntKind.i64.wrap (0 + 1) = 1 := wrap64 (by omega) (by omega)
  have w2 : IntKind.i64.wrap (1 + 1) = 2 := wrap64 (by omega) (by omega)
  refine ⟨(out ++ r3 g) ++ r3 v, ?_, by simp; omega, fun x => by simp [or_assoc]⟩
  rw [deps_MemberDefs.L1_eq, deps_MemberDefs.SL1]
  simp only [List.length_cons, List.length_nil]
  rw [cd_t (by omega), cd_b (by omega) (by omega)]
  have g0 : ([g, v] : List (List api_DateRangeV)).getD (Int.toNat 0) [] = g := rfl
  rw [g0, a1]
  simp only [bind_some']
  rw [rm8 (by omega), cond_true, w1, deps_MemberDefs.L1_eq, deps_MemberDefs.SL1]
  simp only [List.length_cons, List.length_nil]
  rw [cd_t (by omega), cd_b (by omega) (by omega)]
  have g1 : ([g, v] : List (List api_DateRangeV)).getD (Int.toNat 1) [] = v := rfl
  rw [g1, b1]
  simp only [bind_some']
  rw [rm8 (by rw [List.length_append]; omega), cond_true, w2, deps_MemberDefs.L1_eq, deps_MemberDefs.SL1, cd_f (by omega), wrap_succ (by omega)]
theorem mem_L0 (need : List Int) (hn : need.length ≤ 1000) : ∀ (rest pre : List api_RuleV) (out : List Int), (pre ++ rest).length ≤ 40 → (∀ r ∈ rest, (grd r).length ≤ 60 ∧ (vlu r).length ≤ 60) → out.length ≤ 2000 * pre.length →
    ∃ l, deps_MemberDefs.L0 need out (pre ++ rest) ((pre ++ rest).length : Int) (pre.length : Int) = some (l, ()) ∧ SS l ∧ ∀ x, x ∈ l ↔ x ∈ out ∨ memd need rest x := by
  intro rest
  induction rest with
  | nil =>
    intro pre out h h2 h3
    simp only [List.append_nil] at h
    rw [deps_MemberDefs.L0_eq, deps_MemberDefs.SL0, cd_f (by simp)]
    obtain ⟨o, e, p, st⟩ := sort_int out (by omega)
    have := p.length_eq
    obtain ⟨c, c1, c2, c3⟩ := compact_val st (by omega)
    rw [e, bind_some', c1, bind_some']
    exact ⟨c, rfl, c2, fun x => by rw [c3, p.mem_iff]; simp [memd]⟩
  | cons r rest ih =>
    intro pre out h h2 h3
    have hl := len_mid pre r rest
    have hr := h2 r List.mem_cons_self
    rw [deps_MemberDefs.L0_eq, deps_MemberDefs.SL0, cd_t (by rw [hl]; omega), idx_mid, bind_some', contains_val _ _ (by omega), bind_some']
    have step : ∀ (out' : List Int), out'.length ≤ out.length + 2000 → (∀ x, x ∈ out' ↔ x ∈ out ∨ (r.2.1 ∈ need ∧ (x ∈ r3 (grd r) ∨ x ∈ r3 (vlu r)))) →
        ∃ l, deps_MemberDefs.L0 need out' (pre ++ r :: rest) ((pre ++ r :: rest).length : Int) ((pre.length + 1 : Nat) : Int) = some (l, ()) ∧ SS l ∧ ∀ x, x ∈ l ↔ x ∈ out ∨ memd need (r :: rest) x := by
      intro out' ho hm
      obtain ⟨l, e, sl, ml⟩ := ih (pre ++ [r]) out' (by rw [← mid_shift]; exact h) (fun q hq => h2 q (List.mem_cons_of_mem _ hq)) (by simp; omega)
      rw [len_snoc, ← mid_shift] at e
      refine ⟨l, e, sl, fun x => ?_⟩
      rw [ml, hm, or_assoc]
      unfold memd
      simp only [List.mem_cons, exists_eq_or_imp]
    by_cases c : r.2.1 ∈ need
    · rw [decide_eq_true c, Bool.not_true, cond_false]
      obtain ⟨o, e, l1, m1⟩ := mem_L1 need (pre ++ r :: rest) ((pre ++ r :: rest).length : Int) pre.length (by omega) (grd r) (vlu r) hr.1 hr.2 out (by omega)
      obtain ⟨l, q1, q2, q3⟩ := step o l1 (fun x => by rw [m1]; simp [c])
      exact ⟨l, e.trans q1, q2, q3⟩
    · rw [decide_eq_false c, Bool.not_false, cond_true, wrap_succ (by omega)]
      exact step out (by omega) (fun x => by simp [c])
theorem rmem_L2 (s : api_ScopeV) (all : List Int) (i : Int) : ∀ (rest pre out : List Int), (pre ++ rest).length ≤ 1000 → out.length + rest.length ≤ 90000 → SS out →
    ∃ out', ref16_MemberDefs.L2 s all out i (pre ++ rest) (pre.length : Int) = ref16_MemberDefs.L0 s all out' (IntKind.i64.wrap (i + 1)) ∧ SS out' ∧ out'.length ≤ out.length + rest.length ∧ ∀ x, x ∈ out' ↔ x ∈ out ∨ x ∈ rest := by
  intro rest
  induction rest with
  | nil =>
    intro pre out h h2 h3
    rw [ref16_MemberDefs.L2_eq, ref16_MemberDefs.SL2, cd_f (by simp)]
    exact ⟨out, rfl, h3, by simp, fun x => by simp⟩
  | cons y rest ih =>
    intro pre out h h2 h3
    have hl := len_mid pre y rest
    rw [List.length_cons] at h2
    rw [ref16_MemberDefs.L2_eq, ref16_MemberDefs.SL2, cd_t (by rw [hl]; omega), cd_b (by omega) (by rw [hl]; omega), Int.toNat_natCast, getD_mid, wrap_succ (by omega), ins16_val _ _ (by omega), bind_some']
    have li := insS_length out y
    obtain ⟨o, h4, h5, h6, h7⟩ := ih (pre ++ [y]) (insS out y) (by rw [← mid_shift]; exact h) (by omega) (insS_SS _ _ h3)
    rw [len_snoc, ← mid_shift] at h4
    refine ⟨o, h4, h5, by simp; omega, fun x => ?_⟩
    rw [h7 x, insS_mem, List.mem_cons, or_assoc]
theorem rmem_L1 (s : api_ScopeV) (all : List Int) (i : Int) (b : List Int) : ∀ (rest pre out : List Int), (pre ++ rest).length ≤ 1000 → out.length + rest.length ≤ 90000 → SS out →
    ∃ out', ref16_MemberDefs.L1 s all out i (pre ++ rest) b (pre.length : Int) = ref16_MemberDefs.L2 s all out' i b 0 ∧ SS out' ∧ out'.length ≤ out.length + rest.length ∧ ∀ x, x ∈ out' ↔ x ∈ out ∨ x ∈ rest := by
  intro rest
  induction rest with
  | nil =>
    intro pre out h h2 h3
    rw [ref16_MemberDefs.L1_eq, ref16_MemberDefs.SL1, cd_f (by simp)]
    exact ⟨out, rfl, h3, by simp, fun x => by simp⟩
  | cons y rest ih =>
    intro pre out h h2 h3
    have hl := len_mid pre y rest
    rw [List.length_cons] at h2
    rw [ref16_MemberDefs.L1_eq, ref16_MemberDefs.SL1, cd_t (by rw [hl]; omega), cd_b (by omega) (by rw [hl]; omega), Int.toNat_natCast, getD_mid, wrap_succ (by omega), ins16_val _ _ (by omega), bind_some']
    have li := insS_length out y
    obtain ⟨o, h4, h5, h6, h7⟩ := ih (pre ++ [y]) (insS out y) (by rw [← mid_shift]; exact h) (by omega) (insS_SS _ _ h3)
    rw [len_snoc, ← mid_shift] at h4
    refine ⟨o, h4, h5, by simp; omega, fun x => ?_⟩
    rw [h7 x, insS_mem, List.mem_cons, or_assoc]
theorem rmem_L0 (s : api_ScopeV) (all : List Int) (hn : all.length ≤ 1000) : ∀ (rest pre : List api_RuleV) (out : List Int), rls s = pre ++ rest → (rls s).length ≤ 40 → (∀ r ∈ rest, (grd r).length ≤ 60 ∧ (vlu r).length ≤ 60) → out.length ≤ 2000 * pre.length → SS out →
    ∃ l, ref16_MemberDefs.L0 s all out (pre.length : Int) = some (l, ()) ∧ SS l ∧ l.length ≤ 80000 ∧ ∀ x, x ∈ l ↔ x ∈ out ∨ memd all rest x := by
  intro rest
  induction rest with
  | nil =>
    intro pre out e h h2 h3 h4
    have hl : s.2.2.2.2.1.length = pre.length := by have := congrArg List.length e; simpa [rls] using this
    rw [ref16_MemberDefs.L0_eq, ref16_MemberDefs.SL0, cd_f (by omega)]
    have hlen : (rls s).length = pre.length := hl
    exact ⟨out, rfl, h4, by omega, fun x => by simp [memd]⟩
  | cons r rest ih =>
    intro pre out e h h2 h3 h4
    have hl : s.2.2.2.2.1.length = pre.length + (rest.length + 1) := by have := congrArg List.length e; simpa [rls] using this
    have hr := h2 r List.mem_cons_self
    have hx : idx s.2.2.2.2.1 (pre.length : Int) = some r := by
      have : s.2.2.2.2.1 = pre ++ r :: rest := e
      rw [this]; exact idx_mid _ _ _
    have hlen : (rls s).length = pre.length + (rest.length + 1) := hl
    rw [ref16_MemberDefs.L0_eq, ref16_MemberDefs.SL0, cd_t (by omega), hx]
    simp only [bind_some']
    rw [has_val _ _ (by omega), bind_some']
    have step : ∀ (out' : List Int), SS out' → out'.length ≤ out.length + 2000 → (∀ x, x ∈ out' ↔ x ∈ out ∨ (r.2.1 ∈ all ∧ (x ∈ r3 (grd r) ∨ x ∈ r3 (vlu r)))) →
        ∃ l, ref16_MemberDefs.L0 s all out' ((pre.length + 1 : Nat) : Int) = some (l, ()) ∧ SS l ∧ l.length ≤ 80000 ∧ ∀ x, x ∈ l ↔ x ∈ out ∨ memd all (r :: rest) x := by
      intro out' so ho hm
      obtain ⟨l, e, sl, ll, ml⟩ := ih (pre ++ [r]) out' (by rw [e, mid_shift]) h (fun q hq => h2 q (List.mem_cons_of_mem _ hq)) (by simp; omega) so
      rw [len_snoc] at e
      refine ⟨l, e, sl, ll, fun x => ?_⟩
      rw [ml, hm, or_assoc]
      unfold memd
      simp only [List.mem_cons, exists_eq_or_imp]
    by_cases c : r.2.1 ∈ all
    · rw [decide_eq_true c, Bool.not_true, cond_false]
      obtain ⟨x1, _, a2, _, a3⟩ := refs_val (grd r) hr.1
      obtain ⟨x2, _, b2, _, b3⟩ := refs_val (vlu r) hr.2
      have a2' : ref10_References r.2.2.2.2.2.1 = _ := a2
      have b2' : ref10_References r.2.2.2.2.2.2.1 = _ := b2
      rw [a2', bind_some', b2', bind_some']
      obtain ⟨o1, c1, c2, c3, c4⟩ := rmem_L1 s all (pre.length : Int) (r3 (vlu r)) (r3 (grd r)) [] out (by simpa using a3) (by omega) h4
      obtain ⟨o2, d1, d2, d3, d4⟩ := rmem_L2 s all (pre.length : Int) (r3 (vlu r)) [] o1 (by simpa using b3) (by omega) c2
      obtain ⟨l, q1, q2, q3⟩ := step o2 d2 (by omega) (fun x => by
        rw [d4, c4, or_assoc]
        simp only [c, true_and])
      rw [wrap_succ (by omega)] at d1
      exact ⟨l, c1.trans (d1.trans q1), q2, q3⟩
    · rw [decide_eq_false c, Bool.not_false, cond_true, wrap_succ (by omega)]
      exact step out h4 (by omega) (fun x => by simp [c])
theorem memberDefs_val {s : api_ScopeV} (hs : Sm s) (d : Int) : ∃ l, deps_MemberDefs s d = some (l, ()) ∧ ref16_MemberDefs s d = some (l, ()) ∧ l.length ≤ 1000000 := by
  simp only [deps_MemberDefs, deps_MemberDefs.Se, ref16_MemberDefs, ref16_MemberDefs.Se, valid_val, is_val, bind_some']
  by_cases c : okD s d
  · rw [decide_eq_true c, Bool.not_true]
    simp only [cond_false]
    obtain ⟨t1, t2, t3, t4⟩ := trans_val hs d
    have tl := trs_le hs d
    have li := insS_length (trs s d) d
    rw [t1, t2]
    simp only [bind_some']
    rw [rm8 (by omega), cond_true, ins16_val _ _ (by omega), bind_some']
    obtain ⟨l, e, sl, ml⟩ := mem_L0 (trs s d ++ [d]) (by simp; omega) (rls s) [] [] (by simpa using hs.r) hs.e (by simp)
    obtain ⟨l', e', sl', ll', ml'⟩ := rmem_L0 s (insS (trs s d) d) (by omega) (rls s) [] [] rfl hs.r hs.e (by simp) .nil
    have := SS_unique sl sl' (fun t => by
      rw [ml, ml']
      unfold memd
      simp only [insS_mem, List.mem_append, List.mem_singleton])
    subst this
    exact ⟨l, e, e', by omega⟩
  · rw [decide_eq_false c, Bool.not_false]
    simp only [cond_true]
    exact ⟨[], rfl, rfl, by simp⟩
theorem same_ints_refl (l : List Int) (h : l.length ≤ 1000000) : same_Ints l l = some (true, ()) := by
  rw [same_Ints_val (by unfold maxLen; omega), decide_eq_true rfl]
theorem depsDependencies_true (hA : law16_awake = some (true, ())) (s : api_ScopeV) (d : Int) : law16_DepsDependencies s d = some (true, ()) := by
  simp only [law16_DepsDependencies, law16_DepsDependencies.Se]
  obtain ⟨b, e, hb⟩ := small_val s
  rw [e, bind_some']
  cases b with
  | false => simp only [Bool.not_false, cond_true, hA, bind_some']
  | true =>
    have hs := hb rfl
    obtain ⟨d1, d2, _, _⟩ := direct_val hs d
    obtain ⟨t1, t2, _, _⟩ := trans_val hs d
    obtain ⟨l, m1, m2, m3⟩ := memberDefs_val hs d
    have dl := dir_le hs d
    have tl := trs_le hs d
    simp only [Bool.not_true, cond_false, d1, d2, t1, t2, m1, m2, bind_some']
    rw [same_ints_refl _ (by omega), bind_some', same_ints_refl _ (by omega), bind_some', same_ints_refl _ (by omega), bind_some']
    simp only [cond_true, hA, bind_some']
end Go.Proofs.Ytdkglohjlfoncaa
