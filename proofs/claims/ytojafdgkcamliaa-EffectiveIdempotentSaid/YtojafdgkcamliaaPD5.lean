import Derived.Test.YtojafdgkcamliaaPD
set_option maxRecDepth 100000
set_option linter.unusedVariables false
set_option linter.unusedSimpArgs false
namespace Go.Proofs.Ytojafdgkcamliaa
open Go Go.Lift
/-- The ends of a range. -/
def ends2 (r : api_DateRangeV) : List Int := [r.1, r.2.1]
theorem bounds_L0 : ∀ (rest pre : List api_DateRangeV) (acc : List Int), (pre ++ rest).length ≤ 200000 → acc.length + 2 * rest.length ≤ 400000 →
    daterange_Boundaries.L0 acc (pre ++ rest) ((pre ++ rest).length : Int) (pre.length : Int) = daterange_Boundaries.L0 (acc ++ (rest.filter prp).flatMap ends2) (pre ++ rest) ((pre ++ rest).length : Int) ((pre ++ rest).length : Int)
  | [], pre, acc, h1, h2 => by simp
  | x :: rest, pre, acc, h1, h2 => by
    have h1' := h1
    rw [len_mid] at h1'
    simp only [List.length_cons] at h2
    rw [daterange_Boundaries.L0_eq, daterange_Boundaries.SL0, cd_t (by rw [len_mid]; omega), idx_mid]
    simp only [bind_some', proper_val, wrap_succ (show pre.length < 9223372036854775807 by omega)]
    rw [← len_snoc pre x, mid_shift pre x rest]
    cases e : prp x with
    | true =>
      rw [cond_true, rm8 (by omega), cond_true, bounds_L0 rest (pre ++ [x]) (acc ++ [x.1, x.2.1]) (by rw [← mid_shift]; exact h1) (by simp; omega)]
      simp [e, ends2]
    | false =>
      rw [cond_false, bounds_L0 rest (pre ++ [x]) acc (by rw [← mid_shift]; exact h1) (by omega)]
      simp [e]
/-- A date ends a proper range. -/
def isEnd (l : List api_DateRangeV) (x : Int) : Prop := ∃ r ∈ l, prp r = true ∧ (x = r.1 ∨ x = r.2.1)
theorem flat_len : ∀ l : List api_DateRangeV, (l.flatMap ends2).length = 2 * l.length
  | [] => rfl
  | x :: l => by simp [flat_len l, ends2]; omega
theorem bounds_val (l : List api_DateRangeV) (h : l.length ≤ 200000) : ∃ u, daterange_Boundaries l = some (u, ()) ∧ SS u ∧ ∀ x, x ∈ u ↔ isEnd l x := by
  simp only [daterange_Boundaries, daterange_Boundaries.Se]
  have := bounds_L0 l [] [] (by simpa using h) (by simp; omega)
  simp only [List.nil_append, List.length_nil] at this
  rw [show (0 : Int) = ((0 : Nat) : Int) from rfl, this, daterange_Boundaries.L0_eq, daterange_Boundaries.SL0, cd_f (by omega)]
  have hl := List.length_filter_le prp l
  have fl := flat_len (l.filter prp)
  obtain ⟨d, e, p, s⟩ := sort_int ((l.filter prp).flatMap ends2) (by omega)
  rw [e, bind_some']
  obtain ⟨c, c1, c2, c3⟩ := compact_val s (by have := p.length_eq; omega)
  rw [c1, bind_some']
  refine ⟨c, rfl, c2, fun x => ?_⟩
  rw [c3 x, p.mem_iff, List.mem_flatMap]
  constructor
  · rintro ⟨r, hr, hx⟩
    rw [List.mem_filter] at hr
    simp [ends2] at hx
    exact ⟨r, hr.1, hr.2, hx⟩
  · rintro ⟨r, h1, h2, h3⟩
    exact ⟨r, List.mem_filter.2 ⟨h1, h2⟩, by simpa [ends2] using h3⟩
theorem insert_L0 (n : Int) : ∀ (rest pre out : List Int), (pre ++ rest).length ≤ 500000 → out.length + rest.length ≤ 600000 →
    ref05_Insert.L0 (pre ++ rest) n out (pre.length : Int) = ref05_Insert.L1 (pre ++ rest) n (out ++ rest.filter (fun x => decide (x < n)) ++ [n]) 0
  | [], pre, out, h1, h2 => by
    rw [ref05_Insert.L0_eq, ref05_Insert.SL0, cd_f (by simp), rm8 (by simp at h2; omega), cond_true]
    simp
  | x :: rest, pre, out, h1, h2 => by
    have h1' := h1
    rw [len_mid] at h1'
    simp only [List.length_cons] at h2
    rw [ref05_Insert.L0_eq, ref05_Insert.SL0, cd_t (by rw [len_mid]; omega), idx_mid]
    simp only [bind_some', wrap_succ (show pre.length < 9223372036854775807 by omega)]
    rw [← len_snoc pre x, mid_shift pre x rest, List.filter_cons]
    by_cases c : x < n
    · rw [cd_t c, rm8 (by omega), cond_true, insert_L0 n rest (pre ++ [x]) (out ++ [x]) (by rw [← mid_shift]; exact h1) (by simp; omega), if_pos (by simpa using c)]
      simp
    · rw [cd_f c, insert_L0 n rest (pre ++ [x]) out (by rw [← mid_shift]; exact h1) (by omega), if_neg (by simpa using c)]
theorem insert_L1 (n : Int) : ∀ (rest pre out : List Int), (pre ++ rest).length ≤ 500000 → out.length + rest.length ≤ 1000000 →
    ref05_Insert.L1 (pre ++ rest) n out (pre.length : Int) = some (out ++ rest.filter (fun x => decide (x > n)), ())
  | [], pre, out, h1, h2 => by
    rw [ref05_Insert.L1_eq, ref05_Insert.SL1, cd_f (by simp)]
    simp
  | x :: rest, pre, out, h1, h2 => by
    have h1' := h1
    rw [len_mid] at h1'
    simp only [List.length_cons] at h2
    rw [ref05_Insert.L1_eq, ref05_Insert.SL1, cd_t (by rw [len_mid]; omega), idx_mid]
    simp only [bind_some', wrap_succ (show pre.length < 9223372036854775807 by omega)]
    rw [← len_snoc pre x, mid_shift pre x rest, List.filter_cons]
    by_cases c : x > n
    · rw [cd_t c, rm8 (by omega), cond_true, insert_L1 n rest (pre ++ [x]) (out ++ [x]) (by rw [← mid_shift]; exact h1) (by simp; omega), if_pos (by simpa using c)]
      simp
    · rw [cd_f c, insert_L1 n rest (pre ++ [x]) out (by rw [← mid_shift]; exact h1) (by omega), if_neg (by simpa using c)]
theorem insert_val {l : List Int} (hs : SS l) (hl : l.length ≤ 450000) (n : Int) : ∃ o, ref05_Insert l n = some (o, ()) ∧ SS o ∧ (∀ x, x ∈ o ↔ x ∈ l ∨ x = n) ∧ o.length ≤ l.length + 1 := by
  have f1 := List.length_filter_le (fun x => decide (x < n)) l
  simp only [ref05_Insert, ref05_Insert.Se]
  have e1 := insert_L0 n l [] [] (by simp; omega) (by simp; omega)
  have e2 := insert_L1 n l [] (([] : List Int) ++ l.filter (fun x => decide (x < n)) ++ [n]) (by simp; omega) (by simp; omega)
  simp only [List.nil_append, List.length_nil] at e1 e2
  rw [show (0 : Int) = ((0 : Nat) : Int) from rfl, e1]
  rw [show (0 : Int) = ((0 : Nat) : Int) from rfl, e2]
  have so : SS (l.filter (fun x => decide (x < n)) ++ [n] ++ l.filter (fun x => decide (x > n))) := by
    unfold SS at hs ⊢
    rw [List.pairwise_append, List.pairwise_append]
    refine ⟨⟨hs.filter _, List.pairwise_singleton _ _, fun a ha b hb => ?_⟩, hs.filter _, fun a ha b hb => ?_⟩
    · rw [List.mem_filter] at ha
      rw [List.mem_singleton.1 hb]
      simpa using ha.2
    · rw [List.mem_filter] at hb
      have hb2 : b > n := by simpa using hb.2
      rcases List.mem_append.1 ha with ha | ha
      · rw [List.mem_filter] at ha
        have : a < n := by simpa using ha.2
        omega
      · rw [List.mem_singleton.1 ha]; exact hb2
  have mo : ∀ x, x ∈ l.filter (fun x => decide (x < n)) ++ [n] ++ l.filter (fun x => decide (x > n)) ↔ x ∈ l ∨ x = n := by
    intro x
    simp only [List.mem_append, List.mem_filter, List.mem_singleton, decide_eq_true_eq]
    constructor
    · rintro ((h | h) | h)
      · exact .inl h.1
      · exact .inr h
      · exact .inl h.1
    · rintro (h | h)
      · rcases Int.lt_trichotomy x n with g | g | g
        · exact .inl (.inl ⟨h, g⟩)
        · exact .inl (.inr g)
        · exact .inr ⟨h, g⟩
      · exact .inl (.inr h)
  refine ⟨_, rfl, so, mo, ?_⟩
  have hcount : ∀ m : List Int, (m.filter (fun x => decide (x < n))).length + (m.filter (fun x => decide (x > n))).length ≤ m.length := by
    intro m
    induction m with
    | nil => simp
    | cons y m ih =>
      simp only [List.filter_cons, List.length_cons]
      by_cases g1 : y < n
      · rw [if_pos (by simpa using g1), if_neg (by simp; omega)]
        simp only [List.length_cons]; omega
      · rw [if_neg (by simpa using g1)]
        split
        · simp only [List.length_cons]; omega
        · omega
  have := hcount l
  simp only [List.length_append, List.length_singleton]
  omega
theorem rbounds_L0 : ∀ (rest pre : List api_DateRangeV) (out : List Int), (pre ++ rest).length ≤ 200000 → SS out → out.length + 2 * rest.length ≤ 400000 →
    ∃ u, ref05_Boundaries.L0 (pre ++ rest) out (pre.length : Int) = some (u, ()) ∧ SS u ∧ ∀ x, x ∈ u ↔ x ∈ out ∨ isEnd rest x
  | [], pre, out, h1, hs, h2 => by
    rw [ref05_Boundaries.L0_eq, ref05_Boundaries.SL0, cd_f (by simp)]
    exact ⟨out, rfl, hs, fun x => by simp [isEnd]⟩
  | x :: rest, pre, out, h1, hs, h2 => by
    have h1' := h1
    rw [len_mid] at h1'
    simp only [List.length_cons] at h2
    rw [ref05_Boundaries.L0_eq, ref05_Boundaries.SL0, cd_t (by rw [len_mid]; omega), idx_mid]
    simp only [bind_some', nonempty_val, wrap_succ (show pre.length < 9223372036854775807 by omega)]
    rw [← len_snoc pre x, mid_shift pre x rest]
    cases c : prp x with
    | true =>
      obtain ⟨o1, a1, a2, a3, a4⟩ := insert_val hs (by omega) x.1
      obtain ⟨o2, b1, b2, b3, b4⟩ := insert_val a2 (by omega) x.2.1
      rw [cond_true, a1, bind_some', b1, bind_some']
      obtain ⟨u, u1, u2, u3⟩ := rbounds_L0 rest (pre ++ [x]) o2 (by rw [← mid_shift]; exact h1) b2 (by omega)
      refine ⟨u, u1, u2, fun y => ?_⟩
      rw [u3 y, b3 y, a3 y]
      have : isEnd (x :: rest) y ↔ (y = x.1 ∨ y = x.2.1) ∨ isEnd rest y := by simp [isEnd, c]
      rw [this, or_assoc, or_assoc, or_assoc]
    | false =>
      rw [cond_false]
      obtain ⟨u, u1, u2, u3⟩ := rbounds_L0 rest (pre ++ [x]) out (by rw [← mid_shift]; exact h1) hs (by omega)
      refine ⟨u, u1, u2, fun y => ?_⟩
      rw [u3 y]
      simp [isEnd, c]
theorem rbounds_val (l : List api_DateRangeV) (h : l.length ≤ 200000) : ∃ u, ref05_Boundaries l = some (u, ()) ∧ SS u ∧ ∀ x, x ∈ u ↔ isEnd l x := by
  simp only [ref05_Boundaries, ref05_Boundaries.Se]
  obtain ⟨u, u1, u2, u3⟩ := rbounds_L0 l [] [] (by simpa using h) .nil (by simp; omega)
  exact ⟨u, by simpa using u1, u2, fun x => by rw [u3 x]; simp⟩
theorem ends_length {l : List api_DateRangeV} {u : List Int} (h : SS u) (hm : ∀ x, x ∈ u ↔ isEnd l x) : u.length ≤ 109574 := by
  have key : ∀ (u : List Int) (s : Int), SS u → (∀ x ∈ u, s ≤ x ∧ x ≤ 109573) → s ≤ 109574 → s + u.length ≤ 109574 := by
    intro u
    induction u with
    | nil => intro s _ _ h; simpa using h
    | cons x u ih =>
      intro s h g hs
      obtain ⟨h1, h2⟩ := List.pairwise_cons.1 h
      have := g x (List.mem_cons_self ..)
      have := ih (x + 1) h2 (fun y hy => by have := h1 y hy; have := g y (List.mem_cons_of_mem _ hy); omega) (by omega)
      simp only [List.length_cons]
      omega
  have := key u 0 h (fun x hx => by
    obtain ⟨r, _, h2, h3⟩ := (hm x).1 hx
    have := prp_iff.1 h2
    omega) (by omega)
  omega
end Go.Proofs.Ytojafdgkcamliaa
