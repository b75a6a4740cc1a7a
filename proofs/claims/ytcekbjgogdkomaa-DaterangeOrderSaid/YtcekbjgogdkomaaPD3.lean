/- Plain laws of the lifted functions. -/
import Derived.Test.YtcekbjgogdkomaaPD2
set_option maxRecDepth 100000
set_option linter.unusedVariables false
set_option linter.unusedSimpArgs false
namespace Go.Proofs.Ytcekbjgogdkomaa
open Go Go.Lift

/-! ### Gaps -/
theorem cond_max (a b : Int) : cond (decide (a > b)) a b = max a b := by
  by_cases g : a > b
  · rw [decide_eq_true g, cond_true, Int.max_eq_left (by omega)]
  · rw [decide_eq_false g, cond_false, Int.max_eq_right (by omega)]
theorem cond_min (a b : Int) : cond (decide (a < b)) a b = min a b := by
  by_cases g : a < b
  · rw [decide_eq_true g, cond_true, Int.min_eq_left (by omega)]
  · rw [decide_eq_false g, cond_false, Int.min_eq_right (by omega)]

theorem gaps_L0 (w : api_DateRangeV) (hw : prp w = true) : ∀ (rest pre out : List api_DateRangeV) (at' : Int), Nrm (pre ++ rest) → Nrm out → (∀ e ∈ out, e.2.1 < at') → w.1 ≤ at' → (∀ p ∈ pre, p.2.1 ≤ at') →
    (∀ t, t < at' → (cov out t ↔ inr w t ∧ ¬ cov (pre ++ rest) t)) →
    ∃ u, daterange_Gaps.L0 w out at' (pre ++ rest) ((pre ++ rest).length : Int) (pre.length : Int) = some (u, ()) ∧ Nrm u ∧ ∀ t, cov u t ↔ inr w t ∧ ¬ cov (pre ++ rest) t
  | [], pre, out, at', hu, hn, he, hwa, hp, hi => by
    have pw := prp_iff.1 hw
    rw [daterange_Gaps.L0_eq, daterange_Gaps.SL0, cd_f (by simp)]
    simp only [List.append_nil] at hi ⊢
    have late : ∀ t, at' ≤ t → ¬ cov out t := fun t ht ⟨e, e1, e2⟩ => by
      have := he e e1; have := e2.2; omega
    have none' : ∀ t, at' ≤ t → ¬ cov pre t := fun t ht ⟨e, e1, e2⟩ => by
      have := hp e e1; have := e2.2; omega
    by_cases c : at' < w.2.1
    · rw [cd_t c, rm16 (by have := Nrm_length hn; omega), cond_true]
      refine ⟨_, rfl, Nrm_snoc.2 ⟨hn, prp_iff.2 ⟨by show 0 ≤ at'; omega, c, by show w.2.1 ≤ 109573; omega⟩, he⟩, fun t => ?_⟩
      rw [cov_append, cov_cons]
      have n0 := cov_nil t
      by_cases ht : t < at'
      · rw [← hi t ht]
        constructor
        · rintro (h | h | h)
          · exact h
          · have := h.1; simp only at this; omega
          · exact absurd h n0
        · exact .inl
      · have n1 := late t (by omega)
        have n2 := none' t (by omega)
        constructor
        · rintro (h | h | h)
          · exact absurd h n1
          · exact ⟨⟨by omega, h.2⟩, n2⟩
          · exact absurd h n0
        · rintro ⟨h, _⟩
          exact .inr (.inl ⟨by omega, h.2⟩)
    · rw [cd_f c]
      refine ⟨_, rfl, hn, fun t => ?_⟩
      by_cases ht : t < at'
      · exact hi t ht
      · constructor
        · intro h; exact absurd h (late t (by omega))
        · rintro ⟨h, _⟩
          have := h.2; omega
  | x :: rest, pre, out, at', hu, hn, he, hwa, hp, hi => by
    have pw := prp_iff.1 hw
    have hl := Nrm_length hu
    rw [len_mid] at hl
    obtain ⟨u1, u2, u3⟩ := Nrm_append.1 hu
    obtain ⟨x1, x2, x3⟩ := Nrm_cons.1 u2
    have px := prp_iff.1 x1
    have go : ∀ (out' : List api_DateRangeV), Nrm out' → (∀ e ∈ out', e.2.1 < max x.2.1 at') → (∀ t, t < max x.2.1 at' → (cov out' t ↔ inr w t ∧ ¬ cov (pre ++ x :: rest) t)) →
        ∃ u, daterange_Gaps.L0 w out' (max x.2.1 at') (pre ++ x :: rest) ((pre ++ x :: rest).length : Int) (((pre.length : Nat) + 1 : Nat) : Int) = some (u, ()) ∧ Nrm u ∧ ∀ t, cov u t ↔ inr w t ∧ ¬ cov (pre ++ x :: rest) t := by
      intro out' g1 g2 g3
      have := gaps_L0 w hw rest (pre ++ [x]) out' (max x.2.1 at') (by rw [← mid_shift]; exact hu) g1 g2 (by omega) (fun p h => by
        rcases List.mem_append.1 h with h | h
        · have := hp p h; omega
        · rw [List.mem_singleton.1 h]; omega) (by rw [← mid_shift]; exact g3)
      rw [← mid_shift, len_snoc] at this
      exact this
    have late : ∀ t, at' ≤ t → ¬ cov out t := fun t ht ⟨e, e1, e2⟩ => by
      have := he e e1; have := e2.2; omega
    have same : ∀ b, (b = true → at' < x.1 ∧ at' < w.2.1) → (b = false → x.1 ≤ at' ∨ w.2.1 ≤ at') → ∃ u, daterange_Gaps.J1 w out at' x (pre ++ x :: rest) ((pre ++ x :: rest).length : Int) (pre.length : Int) b = some (u, ()) ∧ Nrm u ∧ ∀ t, cov u t ↔ inr w t ∧ ¬ cov (pre ++ x :: rest) t := by
      intro b b1 b2
      rw [daterange_Gaps.J1_eq, daterange_Gaps.SJ1, cond_max, cond_min, wrap_succ (by omega)]
      cases b with
      | true =>
        obtain ⟨c1, c2⟩ := b1 rfl
        rw [cond_true, rm16 (by have := Nrm_length hn; omega), cond_true]
        refine go _ (Nrm_snoc.2 ⟨hn, prp_iff.2 ⟨by show 0 ≤ at'; omega, by show at' < min w.2.1 x.1; omega, by show min w.2.1 x.1 ≤ 109573; omega⟩, he⟩) (fun e h => ?_) (fun t ht => ?_)
        · rcases List.mem_append.1 h with h | h
          · have := he e h; omega
          · rw [List.mem_singleton.1 h]
            show min w.2.1 x.1 < _
            omega
        · rw [cov_append, cov_cons]
          have n0 := cov_nil t
          have e0 : inr (at', min w.2.1 x.1, ()) t ↔ at' ≤ t ∧ t < min w.2.1 x.1 := Iff.rfl
          rw [e0]
          by_cases t1 : t < at'
          · rw [← hi t t1]
            constructor
            · rintro (h | h | h)
              · exact h
              · omega
              · exact absurd h n0
            · exact .inl
          · have n1 := late t (by omega)
            by_cases t2 : t < min w.2.1 x.1
            · refine ⟨fun _ => ⟨⟨by omega, by omega⟩, ?_⟩, fun _ => .inr (.inl ⟨by omega, t2⟩)⟩
              rw [cov_append, cov_cons]
              rintro (⟨p, p1, p2⟩ | h | ⟨y, y1, y2⟩)
              · have := hp p p1; have := p2.2; omega
              · have := h.1; omega
              · have := x2 y y1; have := y2.1; omega
            · constructor
              · rintro (h | h | h)
                · exact absurd h n1
                · omega
                · exact absurd h n0
              · rintro ⟨h1, h2⟩
                have := h1.2
                exact absurd ((cov_append ..).2 (.inr ((cov_cons ..).2 (.inl ⟨by omega, by omega⟩)))) h2
      | false =>
        rw [cond_false]
        refine go out hn (fun e h => by have := he e h; omega) (fun t ht => ?_)
        by_cases t1 : t < at'
        · exact hi t t1
        · constructor
          · intro h; exact absurd h (late t (by omega))
          · rintro ⟨h1, h2⟩
            have := h1.2
            rcases b2 rfl with c | c
            · exact absurd ((cov_append ..).2 (.inr ((cov_cons ..).2 (.inl ⟨by omega, by omega⟩)))) h2
            · omega
    rw [daterange_Gaps.L0_eq, daterange_Gaps.SL0, cd_t (by rw [len_mid]; omega), cd_b (by omega) (by rw [len_mid]; omega), Int.toNat_natCast, getD_mid]
    by_cases c : x.1 > at'
    · rw [cd_t c]
      by_cases c2 : at' < w.2.1
      · rw [decide_eq_true c2]; exact same true (fun _ => ⟨by omega, c2⟩) (fun h => by cases h)
      · rw [decide_eq_false c2]; exact same false (fun h => by cases h) (fun _ => .inr (by omega))
    · rw [cd_f c]
      exact same false (fun h => by cases h) (fun _ => .inl (by omega))

/-- Gaps: in order, apart, covering what lies within and in no proper range. -/
theorem gaps_val (l : List api_DateRangeV) (w : api_DateRangeV) (h : l.length ≤ 200000) : ∃ u, daterange_Gaps l w = some (u, ()) ∧ Nrm u ∧ ∀ t, cov u t ↔ (prp w = true ∧ inr w t) ∧ ¬ covp l t := by
  simp only [daterange_Gaps, daterange_Gaps.Se, proper_val, bind_some']
  cases c : prp w with
  | false =>
    exact ⟨[], rfl, Nrm_nil, fun t => by simp [cov_nil]⟩
  | true =>
    simp only [Bool.not_true, cond_false]
    obtain ⟨u, u1, u2, u3⟩ := union_val l h
    rw [u1, bind_some']
    obtain ⟨g, g1, g2, g3⟩ := gaps_L0 w c u [] [] w.1 (by simpa using u2) Nrm_nil (fun e he => by cases he) (Int.le_refl _) (fun e he => by cases he) (fun t ht => by
      constructor
      · intro h; exact absurd h (cov_nil t)
      · rintro ⟨h1, _⟩
        have := h1.1; omega)
    simp only [List.nil_append, List.length_nil] at g1 g3
    refine ⟨g, g1, g2, fun t => ?_⟩
    rw [g3 t, u3 t]
    simp

/-! ### what the laws ask -/
instance (r : api_DateRangeV) (t : Int) : Decidable (inr r t) := by unfold inr; infer_instance

theorem contains_val (r : api_DateRangeV) (t : Int) : daterange_Contains r t = some (decide (prp r = true ∧ inr r t), ()) := by
  simp only [daterange_Contains, daterange_Contains.Se, valid_val, bind_some', vld, prp_iff, inr]
  by_cases h1 : 0 ≤ r.1 ∧ r.1 ≤ r.2.1 ∧ r.2.1 ≤ 109573
  · rw [decide_eq_true h1, cond_true]
    by_cases h2 : r.1 ≤ t
    · rw [cd_t h2]
      congr 2
      rw [decide_eq_decide]; omega
    · rw [cd_f h2, decide_eq_false (by omega)]
  · rw [decide_eq_false h1, cond_false, decide_eq_false (by omega)]

theorem rcontains_val (r : api_DateRangeV) (t : Int) : ref05_Contains r t = some (decide (prp r = true ∧ inr r t), ()) := by
  simp only [ref05_Contains, ref05_Contains.Se, rvalid_val, bind_some', vld, prp_iff, inr]
  by_cases h1 : 0 ≤ r.1 ∧ r.1 ≤ r.2.1 ∧ r.2.1 ≤ 109573
  · rw [decide_eq_true h1, cond_true]
    by_cases h2 : r.1 ≤ t
    · rw [cd_t h2]
      congr 2
      rw [decide_eq_decide]; omega
    · rw [cd_f h2, decide_eq_false (by omega)]
  · rw [decide_eq_false h1, cond_false, decide_eq_false (by omega)]

instance (l : List api_DateRangeV) (t : Int) : Decidable (covp l t) := by unfold covp; infer_instance

theorem lcontains_L0 (t : Int) : ∀ (rest pre : List api_DateRangeV), (pre ++ rest).length ≤ 1000000 → law05_contains.L0 (pre ++ rest) t (pre.length : Int) = some (decide (covp rest t), ())
  | [], pre, h => by
    rw [law05_contains.L0_eq, law05_contains.SL0, cd_f (by simp), decide_eq_false (by simp [covp])]
  | x :: rest, pre, h => by
    rw [len_mid] at h
    rw [law05_contains.L0_eq, law05_contains.SL0, cd_t (by rw [len_mid]; omega), idx_mid]
    simp only [bind_some', contains_val]
    by_cases c : prp x = true ∧ inr x t
    · rw [cd_t c, decide_eq_true ⟨x, List.mem_cons_self .., c⟩]
    · rw [cd_f c, wrap_succ (by omega), mid_shift, ← len_snoc pre x, lcontains_L0 t rest (pre ++ [x]) (by simp; omega)]
      congr 2
      rw [decide_eq_decide]
      simp only [covp, List.mem_cons, exists_eq_or_imp, c, false_or]

theorem lcontains_val (l : List api_DateRangeV) (t : Int) (h : l.length ≤ 1000000) : law05_contains l t = some (decide (covp l t), ()) := by
  simp only [law05_contains, law05_contains.Se]
  simpa using lcontains_L0 t l [] (by simpa using h)

theorem covp_Nrm {l : List api_DateRangeV} (h : Nrm l) (t : Int) : covp l t ↔ cov l t := by
  constructor
  · rintro ⟨r, h1, _, h3⟩; exact ⟨r, h1, h3⟩
  · rintro ⟨r, h1, h3⟩; exact ⟨r, h1, h.1 r h1, h3⟩

theorem normal_L0 : ∀ (rest pre : List api_DateRangeV), (pre ++ rest).length ≤ 1000000 → Nrm (pre ++ rest) → law05_normal.L0 (pre ++ rest) (pre.length : Int) = some (true, ())
  | [], pre, h, hn => by
    rw [law05_normal.L0_eq, law05_normal.SL0, cd_f (by simp)]
  | x :: rest, pre, h, hn => by
    rw [len_mid] at h
    have px := prp_iff.1 (hn.1 x (by simp))
    have hv : vld x = true := by simp [vld]; omega
    have next : law05_normal.L0 (pre ++ x :: rest) (IntKind.i64.wrap ((pre.length : Int) + 1)) = some (true, ()) := by
      rw [wrap_succ (by omega), ← len_snoc pre x, mid_shift]
      exact normal_L0 rest (pre ++ [x]) (by simp; omega) (by rw [← mid_shift]; exact hn)
    rw [law05_normal.L0_eq, law05_normal.SL0, cd_t (by rw [len_mid]; omega), idx_mid]
    simp only [bind_some', rvalid_val, hv, Bool.not_true, cond_false]
    rw [cd_f (by omega)]
    rcases List.eq_nil_or_concat pre with e | ⟨o, l, e⟩
    · subst e
      rw [cd_f (by simp)]
      exact next
    · rw [List.concat_eq_append] at e
      have ol : pre.length = o.length + 1 := by rw [e]; simp
      have hlx : l.2.1 < x.1 := (Nrm_append.1 hn).2.2 l (by rw [e]; simp) x (List.mem_cons_self ..)
      rw [cd_t (by omega), show IntKind.i64.wrap ((pre.length : Int) - 1) = (o.length : Int) by rw [wrap64 (by omega) (by omega)]; omega]
      have e2 : idx (pre ++ x :: rest) (o.length : Int) = some l := by rw [e]; simpa using idx_mid o l (x :: rest)
      rw [e2]
      simp only [bind_some']
      rw [cd_f (by omega)]
      exact next

theorem normal_val {l : List api_DateRangeV} (hn : Nrm l) : law05_normal l = some (true, ()) := by
  simp only [law05_normal, law05_normal.Se]
  simpa using normal_L0 l [] (by have := Nrm_length hn; simp; omega) (by simpa using hn)

theorem few_val (l : List api_DateRangeV) : law05_few l = some (decide (l.length ≤ 100), ()) := by
  simp only [law05_few, law05_few.Se]
  congr 2
  rw [decide_eq_decide]; omega

/-! ### DaterangeUnion, DaterangePartition -/
theorem daterangeUnion_true (aw : law05_awake = some (true, ())) (l : List api_DateRangeV) (t : Int) : law05_DaterangeUnion l t = some (true, ()) := by
  simp only [law05_DaterangeUnion, law05_DaterangeUnion.Se, few_val, bind_some', aw]
  by_cases h : l.length ≤ 100
  · rw [decide_eq_true h]
    simp only [Bool.not_true, cond_false]
    obtain ⟨u, u1, u2, u3⟩ := union_val l (by omega)
    have ul := Nrm_length u2
    rw [u1]
    simp only [bind_some']
    rw [normal_val u2]
    simp only [bind_some', cond_true]
    rw [lcontains_val u t (by omega), lcontains_val l t (by omega)]
    simp only [bind_some']
    have e : decide (covp u t) = decide (covp l t) := by rw [decide_eq_decide, covp_Nrm u2, u3]
    rw [e, show ((decide (covp l t)) == (decide (covp l t))) = true by simp, cond_true]
    by_cases hl : u.length ≤ 200000
    · obtain ⟨v, v1, v2, v3⟩ := union_val u hl
      rw [v1]
      simp only [bind_some']
      rw [sameD (Nrm_unique v2 u2 (fun t => by rw [v3, covp_Nrm u2])) (by have := Nrm_length v2; omega)]
      rfl
    · omega
  · rw [decide_eq_false h]; rfl

theorem daterangePartition_true (aw : law05_awake = some (true, ())) (l : List api_DateRangeV) (w : api_DateRangeV) (t : Int) : law05_DaterangePartition l w t = some (true, ()) := by
  simp only [law05_DaterangePartition, law05_DaterangePartition.Se, few_val, bind_some', aw]
  by_cases h : l.length ≤ 100
  · rw [decide_eq_true h]
    simp only [Bool.not_true, cond_false]
    obtain ⟨u, u1, u2, u3⟩ := gaps_val l w (by omega)
    have ul := Nrm_length u2
    rw [u1]
    simp only [bind_some', contains_val]
    rw [normal_val u2]
    simp only [bind_some', cond_true]
    rw [lcontains_val u t (by omega), lcontains_val l t (by omega)]
    simp only [bind_some']
    have e := (covp_Nrm u2 t).trans (u3 t)
    by_cases c : prp w = true ∧ inr w t
    · rw [cd_t c]
      have : decide (covp u t) = !decide (covp l t) := by
        rw [← decide_not, decide_eq_decide, e]
        exact ⟨fun h => h.2, fun h => ⟨c, h⟩⟩
      rw [this]
      simp
    · rw [cd_f c, decide_eq_false (show ¬ covp u t by rw [e]; exact fun h => c h.1)]
      rfl
  · rw [decide_eq_false h]; rfl

end Go.Proofs.Ytcekbjgogdkomaa
