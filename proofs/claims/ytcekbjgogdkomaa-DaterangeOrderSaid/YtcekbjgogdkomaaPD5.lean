/- Plain laws of the lifted functions. -/
import Derived.Test.YtcekbjgogdkomaaPD4
set_option maxRecDepth 100000
set_option linter.unusedVariables false
set_option linter.unusedSimpArgs false
namespace Go.Proofs.Ytcekbjgogdkomaa
open Go Go.Lift

/-! ### integers in strict order -/
def SS (l : List Int) : Prop := l.Pairwise (· < ·)

theorem SS_unique : ∀ {a b : List Int}, SS a → SS b → (∀ x, x ∈ a ↔ x ∈ b) → a = b
  | [], [], _, _, _ => rfl
  | [], y :: b, _, _, h => by have := (h y).2 (List.mem_cons_self ..); cases this
  | x :: a, [], _, _, h => by have := (h x).1 (List.mem_cons_self ..); cases this
  | x :: a, y :: b, ha, hb, h => by
    obtain ⟨a1, a2⟩ := List.pairwise_cons.1 ha
    obtain ⟨b1, b2⟩ := List.pairwise_cons.1 hb
    have e : x = y := by
      rcases List.mem_cons.1 ((h x).1 (List.mem_cons_self ..)) with e | h1
      · exact e
      · rcases List.mem_cons.1 ((h y).2 (List.mem_cons_self ..)) with e | h2
        · exact e.symm
        · have := b1 x h1; have := a1 y h2; omega
    subst e
    rw [SS_unique a2 b2 (fun z => ?_)]
    have hz := h z
    rw [List.mem_cons, List.mem_cons] at hz
    constructor
    · intro g
      rcases hz.1 (.inr g) with e | i
      · have := a1 z g; omega
      · exact i
    · intro g
      rcases hz.2 (.inr g) with e | i
      · have := b1 z g; omega
      · exact i

theorem SS_snoc {l : List Int} {x : Int} : SS (l ++ [x]) ↔ SS l ∧ ∀ y ∈ l, y < x := by
  simp [SS, List.pairwise_append]

theorem mem_take_succ {o : List Int} {m : Nat} (h : m < o.length) (x : Int) : x ∈ o.take (m + 1) ↔ x ∈ o.take m ∨ x = o.getD m 0 := by
  rw [List.take_succ_eq_append_getElem h, List.mem_append, List.mem_singleton, getD_nat h]

theorem sorted_get {o : List Int} (h : o.Pairwise (· ≤ ·)) {i j : Nat} (hij : i ≤ j) (hj : j < o.length) : o.getD i 0 ≤ o.getD j 0 := by
  rw [getD_nat hj, getD_nat (show i < o.length by omega)]
  rcases Nat.eq_or_lt_of_le hij with e | g
  · subst e; exact Int.le_refl _
  · exact List.pairwise_iff_getElem.1 h i j (by omega) hj g

theorem sorted_take_last {o : List Int} (h : o.Pairwise (· ≤ ·)) {m : Nat} (hm : m < o.length) : ∀ y ∈ o.take m, y ≤ o.getD m 0 := by
  intro y hy
  obtain ⟨i, hi, e⟩ := List.mem_iff_getElem.1 hy
  rw [List.getElem_take] at e
  have hi' : i < m := by simp at hi; omega
  rw [← e, ← getD_nat (d := 0) (show i < o.length by omega)]
  exact sorted_get h (by omega) hm

/-! ### Compact -/
theorem cd_3 {p q r : Prop} [Decidable p] [Decidable q] [Decidable r] {α : Type} {A B : α} (hp : p) (hq : q) (hr : r) : cond (decide p && (decide q && decide r)) A B = A := by simp [hp, hq, hr]

theorem compact_L1 (o : List Int) (ho : o.Pairwise (· ≤ ·)) (hl : o.length ≤ 1000000) (lo : Nat) (hlo : lo < o.length) :
    ∀ (n k2 k : Nat) (s : List Int), o.length - lo - k2 ≤ n → 1 ≤ k2 → k2 ≤ o.length - lo → k + 1 ≤ lo + k2 → 1 ≤ k → s.length = o.length → (∀ j, lo + k2 ≤ j + 1 → s.getD j 0 = o.getD j 0) → SS (s.take k) → (∀ x, x ∈ s.take k ↔ x ∈ o.take (lo + k2)) →
    ∃ c, slices_Compact_int_int.L1 s k lo (o.length - lo) k2 = some (c, ()) ∧ SS c ∧ ∀ x, x ∈ c ↔ x ∈ o
  | n, k2, k, s, hn, h1, h2, hk, hk1, hs, hag, hss, hm => by
    rw [slices_Compact_int_int.L1_eq, slices_Compact_int_int.SL1]
    by_cases c : k2 < o.length - lo
    · have e1 : IntKind.i64.wrap ((k2 : Int) - 1) = ((k2 - 1 : Nat) : Int) := by rw [wrap64 (by omega) (by omega)]; omega
      rw [cd_t (by omega), cd_b (by omega) (by omega), e1, cd_b (by omega) (by omega), wrap_succ (by omega), wrap_succ (by omega)]
      simp only [Int.toNat_natCast]
      rw [hag (lo + k2) (by omega), hag (lo + (k2 - 1)) (by omega)]
      have hlast := sorted_take_last ho (m := lo + k2) (by omega)
      have mm := mem_take_succ (o := o) (m := lo + k2) (by omega)
      cases n with
      | zero => omega
      | succ n =>
      by_cases d : o.getD (lo + k2) 0 = o.getD (lo + (k2 - 1)) 0
      · rw [show ((o.getD (lo + k2) 0) != (o.getD (lo + (k2 - 1)) 0)) = false by rw [d, bne_self_eq_false], cond_false]
        refine compact_L1 o ho hl lo hlo n (k2 + 1) k s (by omega) (by omega) (by omega) (by omega) hk1 hs (fun j hj => hag j (by omega)) hss (fun x => ?_)
        rw [hm x, ← Nat.add_assoc, mm x]
        refine ⟨.inl, fun h => ?_⟩
        rcases h with h | h
        · exact h
        · have := (mem_take_succ (o := o) (m := lo + (k2 - 1)) (by omega) x).2 (.inr (by rw [h, d]))
          rwa [show lo + (k2 - 1) + 1 = lo + k2 by omega] at this
      · rw [show ((o.getD (lo + k2) 0) != (o.getD (lo + (k2 - 1)) 0)) = true from bne_iff_ne.2 d, cond_true, cd_b (by omega) (by omega), cd_b (by omega) (by omega)]
        have hkl : k < s.length := by omega
        have ht : (s.set k (o.getD (lo + k2) 0)).take (k + 1) = s.take k ++ [o.getD (lo + k2) 0] := by
          rw [List.take_succ_eq_append_getElem (by simpa using hkl), List.getElem_set_self, List.take_set_of_le (Nat.le_refl _)]
        refine compact_L1 o ho hl lo hlo n (k2 + 1) (k + 1) _ (by omega) (by omega) (by omega) (by omega) (by omega) (by simpa using hs) (fun j hj => ?_) ?_ (fun x => ?_)
        · rw [getD_set_if, if_neg (by omega)]
          exact hag j (by omega)
        · rw [ht, SS_snoc]
          refine ⟨hss, fun y hy => ?_⟩
          have h3 := hlast y ((hm y).1 hy)
          have h4 : y ≤ o.getD (lo + (k2 - 1)) 0 := by
            have h5 := (hm y).1 hy
            rw [show lo + k2 = lo + (k2 - 1) + 1 by omega, mem_take_succ (by omega)] at h5
            rcases h5 with h5 | h5
            · exact sorted_take_last ho (by omega) y h5
            · rw [h5]; exact Int.le_refl _
          have h6 := sorted_get ho (show lo + (k2 - 1) ≤ lo + k2 by omega) (by omega)
          omega
        · rw [ht, List.mem_append, List.mem_singleton, hm x, ← Nat.add_assoc, mm x]
    · have hk2 : lo + k2 = o.length := by omega
      rw [cd_f (by omega), cd_3 (by omega) (by omega) (by omega)]
      simp only [Int.toNat_natCast]
      rw [cd_t (by omega)]
      have e : (s.take k ++ (List.replicate (s.length - k) 0 ++ s.drop (k + (s.length - k)))).take k = s.take k := List.take_left' (by simp; omega)
      have el : (s.take k ++ (List.replicate (s.length - k) 0 ++ s.drop (k + (s.length - k)))).length = s.length := by simp; omega
      rw [e, cd_3 (by omega) (by omega) (by rw [el]; omega)]
      refine ⟨_, rfl, hss, fun x => ?_⟩
      rw [hm x, hk2, List.take_length]

theorem compact_L0 (o : List Int) (ho : o.Pairwise (· ≤ ·)) (hl : o.length ≤ 1000000) : ∀ (n k : Nat), o.length - k ≤ n → 1 ≤ k → k ≤ o.length → SS (o.take k) →
    ∃ c, slices_Compact_int_int.L0 o k = some (c, ()) ∧ SS c ∧ ∀ x, x ∈ c ↔ x ∈ o
  | n, k, hn, h1, h2, hs => by
    rw [slices_Compact_int_int.L0_eq, slices_Compact_int_int.SL0]
    by_cases c : k < o.length
    · have e1 : IntKind.i64.wrap ((k : Int) - 1) = ((k - 1 : Nat) : Int) := by rw [wrap64 (by omega) (by omega)]; omega
      rw [cd_t (by omega), cd_b (by omega) (by omega), e1, cd_b (by omega) (by omega), wrap_succ (by omega)]
      simp only [Int.toNat_natCast]
      by_cases d : o.getD k 0 = o.getD (k - 1) 0
      · rw [show ((o.getD k 0) == (o.getD (k - 1) 0)) = true from beq_iff_eq.2 d, cond_true, cd_3 (by omega) (by omega) (by omega)]
        have := compact_L1 o ho hl k c (o.length - k) 1 k o (by omega) (by omega) (by omega) (by omega) h1 rfl (fun j _ => rfl) hs (fun x => by
          rw [mem_take_succ c]
          refine ⟨.inl, fun h => ?_⟩
          rcases h with h | h
          · exact h
          · have := (mem_take_succ (o := o) (m := k - 1) (by omega) x).2 (.inr (by rw [h, d]))
            rwa [show k - 1 + 1 = k by omega] at this)
        exact this
      · rw [show ((o.getD k 0) == (o.getD (k - 1) 0)) = false from beq_eq_false_iff_ne.2 d, cond_false]
        cases n with
        | zero => omega
        | succ n =>
        refine compact_L0 o ho hl n (k + 1) (by omega) (by omega) (by omega) ?_
        rw [List.take_succ_eq_append_getElem c, SS_snoc]
        refine ⟨hs, fun y hy => ?_⟩
        have h4 : y ≤ o.getD (k - 1) 0 := by
          rw [show k = k - 1 + 1 by omega, mem_take_succ (by omega)] at hy
          rcases hy with h5 | h5
          · exact sorted_take_last ho (by omega) y h5
          · rw [h5]; exact Int.le_refl _
        have h6 := sorted_get ho (show k - 1 ≤ k by omega) c
        rw [← getD_nat (d := 0) c]
        omega
    · rw [cd_f (by omega)]
      rw [List.take_of_length_le (by omega)] at hs
      exact ⟨o, rfl, hs, fun x => Iff.rfl⟩

/-- Compact of a sorted list: each value once. -/
theorem compact_val {o : List Int} (ho : o.Pairwise (· ≤ ·)) (hl : o.length ≤ 1000000) : ∃ c, slices_Compact_int_int o = some (c, ()) ∧ SS c ∧ ∀ x, x ∈ c ↔ x ∈ o := by
  simp only [slices_Compact_int_int, slices_Compact_int_int.Se]
  by_cases h : o.length < 2
  · rw [cd_t (by omega)]
    refine ⟨o, rfl, ?_, fun x => Iff.rfl⟩
    match o, h with
    | [], _ => exact .nil
    | [x], _ => exact List.pairwise_singleton _ _
  · rw [cd_f (by omega)]
    exact compact_L0 o ho hl o.length 1 (by omega) (by omega) (by omega) (by
      match o, h with
      | x :: o, _ => exact List.pairwise_singleton _ _)

/-! ### Boundaries -/
/-- The ends of a range. -/
def ends2 (r : api_DateRangeV) : List Int := [r.1, r.2.1]

theorem bounds_L0 : ∀ (rest pre : List api_DateRangeV) (acc : List Int), (pre ++ rest).length ≤ 200000 → acc.length + 2 * rest.length ≤ 400000 →
    daterange_Boundaries.L0 acc (pre ++ rest) ((pre ++ rest).length : Int) (pre.length : Int) = daterange_Boundaries.L0 (acc ++ (rest.filter prp).flatMap ends2) (pre ++ rest) ((pre ++ rest).length : Int) ((pre ++ rest).length : Int)
  | [], pre, acc, h1, h2 => by simp
  | x :: rest, pre, acc, h1, h2 => by
    have h1' := h1
    rw [len_mid] at h1'
    simp only [List.length_cons] at h2
    rw [daterange_Boundaries.L0_eq, daterange_Boundaries.SL0, cd_t (by rw [len_mid]; omega), idx_mid]
    simp only [bind_some', proper_val, wrap_succ (show pre.length < 9223372036854775807 by omega)]
    rw [← len_snoc pre x, mid_shift pre x rest]
    cases e : prp x with
    | true =>
      rw [cond_true, rm8 (by omega), cond_true, bounds_L0 rest (pre ++ [x]) (acc ++ [x.1, x.2.1]) (by rw [← mid_shift]; exact h1) (by simp; omega)]
      simp [e, ends2]
    | false =>
      rw [cond_false, bounds_L0 rest (pre ++ [x]) acc (by rw [← mid_shift]; exact h1) (by omega)]
      simp [e]

/-- A date ends a proper range. -/
def isEnd (l : List api_DateRangeV) (x : Int) : Prop := ∃ r ∈ l, prp r = true ∧ (x = r.1 ∨ x = r.2.1)

theorem flat_len : ∀ l : List api_DateRangeV, (l.flatMap ends2).length = 2 * l.length
  | [] => rfl
  | x :: l => by simp [flat_len l, ends2]; omega

theorem bounds_val (l : List api_DateRangeV) (h : l.length ≤ 200000) : ∃ u, daterange_Boundaries l = some (u, ()) ∧ SS u ∧ ∀ x, x ∈ u ↔ isEnd l x := by
  simp only [daterange_Boundaries, daterange_Boundaries.Se]
  have := bounds_L0 l [] [] (by simpa using h) (by simp; omega)
  simp only [List.nil_append, List.length_nil] at this
  rw [show (0 : Int) = ((0 : Nat) : Int) from rfl, this, daterange_Boundaries.L0_eq, daterange_Boundaries.SL0, cd_f (by omega)]
  have hl := List.length_filter_le prp l
  have fl := flat_len (l.filter prp)
  obtain ⟨d, e, p, s⟩ := sort_int ((l.filter prp).flatMap ends2) (by omega)
  rw [e, bind_some']
  obtain ⟨c, c1, c2, c3⟩ := compact_val s (by have := p.length_eq; omega)
  rw [c1, bind_some']
  refine ⟨c, rfl, c2, fun x => ?_⟩
  rw [c3 x, p.mem_iff, List.mem_flatMap]
  constructor
  · rintro ⟨r, hr, hx⟩
    rw [List.mem_filter] at hr
    simp [ends2] at hx
    exact ⟨r, hr.1, hr.2, hx⟩
  · rintro ⟨r, h1, h2, h3⟩
    exact ⟨r, List.mem_filter.2 ⟨h1, h2⟩, by simpa [ends2] using h3⟩

/-! ### the reference's boundaries -/
theorem insert_L0 (n : Int) : ∀ (rest pre out : List Int), (pre ++ rest).length ≤ 500000 → out.length + rest.length ≤ 600000 →
    ref05_Insert.L0 (pre ++ rest) n out (pre.length : Int) = ref05_Insert.L1 (pre ++ rest) n (out ++ rest.filter (fun x => decide (x < n)) ++ [n]) 0
  | [], pre, out, h1, h2 => by
    rw [ref05_Insert.L0_eq, ref05_Insert.SL0, cd_f (by simp), rm8 (by simp at h2; omega), cond_true]
    simp
  | x :: rest, pre, out, h1, h2 => by
    have h1' := h1
    rw [len_mid] at h1'
    simp only [List.length_cons] at h2
    rw [ref05_Insert.L0_eq, ref05_Insert.SL0, cd_t (by rw [len_mid]; omega), idx_mid]
    simp only [bind_some', wrap_succ (show pre.length < 9223372036854775807 by omega)]
    rw [← len_snoc pre x, mid_shift pre x rest, List.filter_cons]
    by_cases c : x < n
    · rw [cd_t c, rm8 (by omega), cond_true, insert_L0 n rest (pre ++ [x]) (out ++ [x]) (by rw [← mid_shift]; exact h1) (by simp; omega), if_pos (by simpa using c)]
      simp
    · rw [cd_f c, insert_L0 n rest (pre ++ [x]) out (by rw [← mid_shift]; exact h1) (by omega), if_neg (by simpa using c)]

theorem insert_L1 (n : Int) : ∀ (rest pre out : List Int), (pre ++ rest).length ≤ 500000 → out.length + rest.length ≤ 1000000 →
    ref05_Insert.L1 (pre ++ rest) n out (pre.length : Int) = some (out ++ rest.filter (fun x => decide (x > n)), ())
  | [], pre, out, h1, h2 => by
    rw [ref05_Insert.L1_eq, ref05_Insert.SL1, cd_f (by simp)]
    simp
  | x :: rest, pre, out, h1, h2 => by
    have h1' := h1
    rw [len_mid] at h1'
    simp only [List.length_cons] at h2
    rw [ref05_Insert.L1_eq, ref05_Insert.SL1, cd_t (by rw [len_mid]; omega), idx_mid]
    simp only [bind_some', wrap_succ (show pre.length < 9223372036854775807 by omega)]
    rw [← len_snoc pre x, mid_shift pre x rest, List.filter_cons]
    by_cases c : x > n
    · rw [cd_t c, rm8 (by omega), cond_true, insert_L1 n rest (pre ++ [x]) (out ++ [x]) (by rw [← mid_shift]; exact h1) (by simp; omega), if_pos (by simpa using c)]
      simp
    · rw [cd_f c, insert_L1 n rest (pre ++ [x]) out (by rw [← mid_shift]; exact h1) (by omega), if_neg (by simpa using c)]

theorem insert_val {l : List Int} (hs : SS l) (hl : l.length ≤ 450000) (n : Int) : ∃ o, ref05_Insert l n = some (o, ()) ∧ SS o ∧ (∀ x, x ∈ o ↔ x ∈ l ∨ x = n) ∧ o.length ≤ l.length + 1 := by
  have f1 := List.length_filter_le (fun x => decide (x < n)) l
  simp only [ref05_Insert, ref05_Insert.Se]
  have e1 := insert_L0 n l [] [] (by simp; omega) (by simp; omega)
  have e2 := insert_L1 n l [] (([] : List Int) ++ l.filter (fun x => decide (x < n)) ++ [n]) (by simp; omega) (by simp; omega)
  simp only [List.nil_append, List.length_nil] at e1 e2
  rw [show (0 : Int) = ((0 : Nat) : Int) from rfl, e1]
  rw [show (0 : Int) = ((0 : Nat) : Int) from rfl, e2]
  have so : SS (l.filter (fun x => decide (x < n)) ++ [n] ++ l.filter (fun x => decide (x > n))) := by
    unfold SS at hs ⊢
    rw [List.pairwise_append, List.pairwise_append]
    refine ⟨⟨hs.filter _, List.pairwise_singleton _ _, fun a ha b hb => ?_⟩, hs.filter _, fun a ha b hb => ?_⟩
    · rw [List.mem_filter] at ha
      rw [List.mem_singleton.1 hb]
      simpa using ha.2
    · rw [List.mem_filter] at hb
      have hb2 : b > n := by simpa using hb.2
      rcases List.mem_append.1 ha with ha | ha
      · rw [List.mem_filter] at ha
        have : a < n := by simpa using ha.2
        omega
      · rw [List.mem_singleton.1 ha]; exact hb2
  have mo : ∀ x, x ∈ l.filter (fun x => decide (x < n)) ++ [n] ++ l.filter (fun x => decide (x > n)) ↔ x ∈ l ∨ x = n := by
    intro x
    simp only [List.mem_append, List.mem_filter, List.mem_singleton, decide_eq_true_eq]
    constructor
    · rintro ((h | h) | h)
      · exact .inl h.1
      · exact .inr h
      · exact .inl h.1
    · rintro (h | h)
      · rcases Int.lt_trichotomy x n with g | g | g
        · exact .inl (.inl ⟨h, g⟩)
        · exact .inl (.inr g)
        · exact .inr ⟨h, g⟩
      · exact .inl (.inr h)
  refine ⟨_, rfl, so, mo, ?_⟩
  have hcount : ∀ m : List Int, (m.filter (fun x => decide (x < n))).length + (m.filter (fun x => decide (x > n))).length ≤ m.length := by
    intro m
    induction m with
    | nil => simp
    | cons y m ih =>
      simp only [List.filter_cons, List.length_cons]
      by_cases g1 : y < n
      · rw [if_pos (by simpa using g1), if_neg (by simp; omega)]
        simp only [List.length_cons]; omega
      · rw [if_neg (by simpa using g1)]
        split
        · simp only [List.length_cons]; omega
        · omega
  have := hcount l
  simp only [List.length_append, List.length_singleton]
  omega

theorem rbounds_L0 : ∀ (rest pre : List api_DateRangeV) (out : List Int), (pre ++ rest).length ≤ 200000 → SS out → out.length + 2 * rest.length ≤ 400000 →
    ∃ u, ref05_Boundaries.L0 (pre ++ rest) out (pre.length : Int) = some (u, ()) ∧ SS u ∧ ∀ x, x ∈ u ↔ x ∈ out ∨ isEnd rest x
  | [], pre, out, h1, hs, h2 => by
    rw [ref05_Boundaries.L0_eq, ref05_Boundaries.SL0, cd_f (by simp)]
    exact ⟨out, rfl, hs, fun x => by simp [isEnd]⟩
  | x :: rest, pre, out, h1, hs, h2 => by
    have h1' := h1
    rw [len_mid] at h1'
    simp only [List.length_cons] at h2
    rw [ref05_Boundaries.L0_eq, ref05_Boundaries.SL0, cd_t (by rw [len_mid]; omega), idx_mid]
    simp only [bind_some', nonempty_val, wrap_succ (show pre.length < 9223372036854775807 by omega)]
    rw [← len_snoc pre x, mid_shift pre x rest]
    cases c : prp x with
    | true =>
      obtain ⟨o1, a1, a2, a3, a4⟩ := insert_val hs (by omega) x.1
      obtain ⟨o2, b1, b2, b3, b4⟩ := insert_val a2 (by omega) x.2.1
      rw [cond_true, a1, bind_some', b1, bind_some']
      obtain ⟨u, u1, u2, u3⟩ := rbounds_L0 rest (pre ++ [x]) o2 (by rw [← mid_shift]; exact h1) b2 (by omega)
      refine ⟨u, u1, u2, fun y => ?_⟩
      rw [u3 y, b3 y, a3 y]
      have : isEnd (x :: rest) y ↔ (y = x.1 ∨ y = x.2.1) ∨ isEnd rest y := by simp [isEnd, c]
      rw [this, or_assoc, or_assoc, or_assoc]
    | false =>
      rw [cond_false]
      obtain ⟨u, u1, u2, u3⟩ := rbounds_L0 rest (pre ++ [x]) out (by rw [← mid_shift]; exact h1) hs (by omega)
      refine ⟨u, u1, u2, fun y => ?_⟩
      rw [u3 y]
      simp [isEnd, c]

theorem rbounds_val (l : List api_DateRangeV) (h : l.length ≤ 200000) : ∃ u, ref05_Boundaries l = some (u, ()) ∧ SS u ∧ ∀ x, x ∈ u ↔ isEnd l x := by
  simp only [ref05_Boundaries, ref05_Boundaries.Se]
  obtain ⟨u, u1, u2, u3⟩ := rbounds_L0 l [] [] (by simpa using h) .nil (by simp; omega)
  exact ⟨u, by simpa using u1, u2, fun x => by rw [u3 x]; simp⟩

/-! ### DaterangeLists, DaterangeOrder -/
theorem same_ints {a b : List Int} (e : a = b) (h : a.length ≤ 1000000) : same_Ints a b = some (true, ()) := by
  rw [same_Ints_val (by rw [maxLen_eq]; omega), e]
  simp

theorem ends_length {l : List api_DateRangeV} {u : List Int} (h : SS u) (hm : ∀ x, x ∈ u ↔ isEnd l x) : u.length ≤ 109574 := by
  have key : ∀ (u : List Int) (s : Int), SS u → (∀ x ∈ u, s ≤ x ∧ x ≤ 109573) → s ≤ 109574 → s + u.length ≤ 109574 := by
    intro u
    induction u with
    | nil => intro s _ _ h; simpa using h
    | cons x u ih =>
      intro s h g hs
      obtain ⟨h1, h2⟩ := List.pairwise_cons.1 h
      have := g x (List.mem_cons_self ..)
      have := ih (x + 1) h2 (fun y hy => by have := h1 y hy; have := g y (List.mem_cons_of_mem _ hy); omega) (by omega)
      simp only [List.length_cons]
      omega
  have := key u 0 h (fun x hx => by
    obtain ⟨r, _, h2, h3⟩ := (hm x).1 hx
    have := prp_iff.1 h2
    omega) (by omega)
  omega

theorem daterangeLists_true (aw : law05_awake = some (true, ())) (l : List api_DateRangeV) (w : api_DateRangeV) : law05_DaterangeLists l w = some (true, ()) := by
  simp only [law05_DaterangeLists, law05_DaterangeLists.Se, few_val, bind_some', aw]
  by_cases h : l.length ≤ 100
  · rw [decide_eq_true h]
    simp only [Bool.not_true, cond_false]
    obtain ⟨u, u1, u2, u3⟩ := union_val l (by omega)
    obtain ⟨v, v1, v2, v3⟩ := runion_val l (by omega)
    obtain ⟨g, g1, g2, g3⟩ := gaps_val l w (by omega)
    obtain ⟨k, k1, k2, k3⟩ := rgaps_val l w (by omega)
    obtain ⟨b, b1, b2, b3⟩ := bounds_val l (by omega)
    obtain ⟨c, c1, c2, c3⟩ := rbounds_val l (by omega)
    rw [u1, v1]
    simp only [bind_some']
    rw [sameD (Nrm_unique u2 v2 (fun t => by rw [u3, v3])) (by have := Nrm_length u2; omega), g1, k1]
    simp only [bind_some', cond_true]
    rw [sameD (Nrm_unique g2 k2 (fun t => by rw [g3, k3])) (by have := Nrm_length g2; omega), b1, c1]
    simp only [bind_some', cond_true]
    rw [same_ints (SS_unique b2 c2 (fun t => by rw [b3, c3])) (by have := ends_length b2 b3; omega)]
    rfl
  · rw [decide_eq_false h]; rfl

theorem order_L0 (l : List api_DateRangeV) (from_2 : Int) (hf : 0 ≤ from_2) (hf2 : from_2 ≤ 255) (w : api_DateRangeV) (hl : l.length ≤ 100) : ∀ (d i : Nat) (m : List api_DateRangeV), i + d = l.length → m.length = i →
    (∀ x ∈ m, x ∈ l) → (∀ j, j < i → l[(l.length - 1 - j + from_2.toNat) % l.length]? = m[j]?) →
    ∃ m' : List api_DateRangeV, law05_DaterangeOrder.L0 l from_2 w m i = law05_DaterangeOrder.L0 l from_2 w m' l.length ∧ m'.length = l.length ∧ (∀ x ∈ m', x ∈ l) ∧ (∀ j, j < l.length → l[(l.length - 1 - j + from_2.toNat) % l.length]? = m'[j]?)
  | 0, i, m, hd, hm, h1, h2 => by
    have : i = l.length := by omega
    subst this
    exact ⟨m, rfl, hm, h1, h2⟩
  | d + 1, i, m, hd, hm, h1, h2 => by
    have hm0 : 0 < l.length := by omega
    rw [law05_DaterangeOrder.L0_eq, law05_DaterangeOrder.SL0, cd_t (by omega), cd_f (by omega)]
    have e1 : IntKind.i64.wrap ((IntKind.i64.wrap ((IntKind.i64.wrap ((l.length : Int) - 1)) - i)) + (IntKind.i64.wrap from_2)) = ((l.length - 1 - i + from_2.toNat : Nat) : Int) := by
      rw [wrap64 (n := (l.length : Int) - 1) (by omega) (by omega), wrap64 (n := (l.length : Int) - 1 - i) (by omega) (by omega), wrap64 (n := from_2) (by omega) (by omega), wrap64 (by omega) (by omega)]
      omega
    have hlt : (l.length - 1 - i + from_2.toNat) % l.length < l.length := Nat.mod_lt _ hm0
    rw [e1, tmod_pos (by omega), show (((l.length - 1 - i + from_2.toNat : Nat) : Int) % (l.length : Int)) = (((l.length - 1 - i + from_2.toNat) % l.length : Nat) : Int) by omega, idx_nat, List.getElem?_eq_getElem hlt, bind_some', rm16 (by omega), cond_true, wrap_succ (by omega)]
    refine order_L0 l from_2 hf hf2 w hl d (i + 1) _ (by omega) (by simp; omega) (fun x hx => ?_) (fun j hj => ?_)
    · rcases List.mem_append.1 hx with hx | hx
      · exact h1 x hx
      · rw [List.mem_singleton.1 hx]; exact List.getElem_mem _
    · rcases Nat.lt_or_ge j i with g | g
      · rw [List.getElem?_append_left (by omega)]; exact h2 j g
      · have : j = i := by omega
        subst this
        rw [List.getElem?_append_right (by omega), List.getElem?_eq_getElem hlt]
        simp [hm]

theorem daterangeOrder_true (aw : law05_awake = some (true, ())) (l : List api_DateRangeV) (w : api_DateRangeV) (from_2 : Int) (hf : 0 ≤ from_2) (hf2 : from_2 ≤ 255) : law05_DaterangeOrder l w from_2 = some (true, ()) := by
  simp only [law05_DaterangeOrder, law05_DaterangeOrder.Se, few_val, bind_some', aw]
  by_cases h : l.length ≤ 100
  · rw [decide_eq_true h]
    simp only [Bool.not_true, cond_false]
    obtain ⟨m, e, ml, m1, m2⟩ := order_L0 l from_2 hf hf2 w h l.length 0 [] (by omega) rfl (by simp) (by omega)
    rw [show (0 : Int) = ((0 : Nat) : Int) from rfl, e, law05_DaterangeOrder.L0_eq, law05_DaterangeOrder.SL0, cd_f (by omega)]
    have mem : ∀ x, x ∈ m ↔ x ∈ l := by
      intro x
      refine ⟨m1 x, fun hx => ?_⟩
      obtain ⟨p, hp, e⟩ := List.mem_iff_getElem.1 hx
      -- the place j with (n - 1 - j + from) mod n = p
      have hn : 0 < l.length := by omega
      have hq : (l.length - 1 + from_2.toNat + l.length - p) % l.length < l.length := Nat.mod_lt _ hn
      have := m2 ((l.length - 1 + from_2.toNat + l.length - p) % l.length) hq
      have e3 : (l.length - 1 - (l.length - 1 + from_2.toNat + l.length - p) % l.length + from_2.toNat) % l.length = p := by
        have d1 := Nat.div_add_mod (l.length - 1 + from_2.toNat + l.length - p) l.length
        generalize hQ : (l.length - 1 + from_2.toNat + l.length - p) / l.length = Q at d1
        generalize hR : (l.length - 1 + from_2.toNat + l.length - p) % l.length = R at d1 hq
        have hQ1 : 1 ≤ Q := by
          rw [← hQ]
          exact (Nat.one_le_div_iff hn).2 (by omega)
        obtain ⟨K, rfl⟩ : ∃ K, Q = K + 1 := ⟨Q - 1, by omega⟩
        have e4 : l.length - 1 - R + from_2.toNat = p + l.length * K := by
          rw [Nat.mul_add] at d1
          omega
        rw [e4, Nat.add_mul_mod_self_left, Nat.mod_eq_of_lt hp]
      rw [e3, List.getElem?_eq_getElem hp, e] at this
      exact List.mem_of_getElem? this.symm
    have cm : ∀ t, covp m t ↔ covp l t := fun t => by
      constructor
      · rintro ⟨r, h1, h2⟩; exact ⟨r, (mem r).1 h1, h2⟩
      · rintro ⟨r, h1, h2⟩; exact ⟨r, (mem r).2 h1, h2⟩
    have em : ∀ t, isEnd m t ↔ isEnd l t := fun t => by
      constructor
      · rintro ⟨r, h1, h2⟩; exact ⟨r, (mem r).1 h1, h2⟩
      · rintro ⟨r, h1, h2⟩; exact ⟨r, (mem r).2 h1, h2⟩
    obtain ⟨u, u1, u2, u3⟩ := union_val l (by omega)
    obtain ⟨v, v1, v2, v3⟩ := union_val m (by omega)
    obtain ⟨g, g1, g2, g3⟩ := gaps_val l w (by omega)
    obtain ⟨k, k1, k2, k3⟩ := gaps_val m w (by omega)
    obtain ⟨b, b1, b2, b3⟩ := bounds_val l (by omega)
    obtain ⟨c, c1, c2, c3⟩ := bounds_val m (by omega)
    rw [u1, v1]
    simp only [bind_some']
    rw [sameD (Nrm_unique u2 v2 (fun t => by rw [u3, v3, cm])) (by have := Nrm_length u2; omega), g1, k1]
    simp only [bind_some', cond_true]
    rw [sameD (Nrm_unique g2 k2 (fun t => by rw [g3, k3, cm])) (by have := Nrm_length g2; omega), b1, c1]
    simp only [bind_some', cond_true]
    rw [same_ints (SS_unique b2 c2 (fun t => by rw [b3, c3, em])) (by have := ends_length b2 b3; omega), aw]
    rfl
  · rw [decide_eq_false h]; rfl

end Go.Proofs.Ytcekbjgogdkomaa
