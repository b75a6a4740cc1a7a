/- Plain laws of the lifted functions. -/
import Derived.Test.YtcekbjgogdkomaaPD3
set_option maxRecDepth 100000
set_option linter.unusedVariables false
set_option linter.unusedSimpArgs false
namespace Go.Proofs.Ytcekbjgogdkomaa
open Go Go.Lift

/-! ### the reference: union by putting in -/
/-- The smallest range round two. -/
def hull (x r : api_DateRangeV) : api_DateRangeV := (min x.1 r.1, max x.2.1 r.2.1, ())

/-- The first pass of put. -/
def p1 : List api_DateRangeV → api_DateRangeV → List api_DateRangeV × api_DateRangeV
  | [], r => ([], r)
  | x :: l, r => if x.2.1 < r.1 then (x :: (p1 l r).1, (p1 l r).2) else if x.1 ≤ r.2.1 then p1 l (hull x r) else p1 l r

theorem p1_length : ∀ (l : List api_DateRangeV) (r : api_DateRangeV), (p1 l r).1.length ≤ l.length
  | [], r => by simp [p1]
  | x :: l, r => by
    rw [p1]
    split
    · have := p1_length l r; simp; omega
    · split
      · have := p1_length l (hull x r); simp; omega
      · have := p1_length l r; simp; omega

theorem put_L0 : ∀ (rest pre out : List api_DateRangeV) (r : api_DateRangeV), (pre ++ rest).length ≤ 200000 → out.length + rest.length ≤ 200000 →
    ref05_put.L0 (pre ++ rest) r out (pre.length : Int) = ref05_put.L1 (pre ++ rest) (p1 rest r).2 (out ++ (p1 rest r).1 ++ [(p1 rest r).2]) 0
  | [], pre, out, r, h1, h2 => by
    rw [ref05_put.L0_eq, ref05_put.SL0, cd_f (by simp), rm16 (by simp at h2; omega), cond_true]
    simp [p1]
  | x :: rest, pre, out, r, h1, h2 => by
    have h1' := h1
    rw [len_mid] at h1'
    simp only [List.length_cons] at h2
    rw [ref05_put.L0_eq, ref05_put.SL0, cd_t (by rw [len_mid]; omega), idx_mid]
    simp only [bind_some', cond_min, cond_max, wrap_succ (show pre.length < 9223372036854775807 by omega)]
    rw [← len_snoc pre x, mid_shift pre x rest, p1]
    by_cases c : x.2.1 < r.1
    · rw [cd_t c, rm16 (by omega), cond_true, if_pos c, put_L0 rest (pre ++ [x]) (out ++ [x]) r (by rw [← mid_shift]; exact h1) (by simp; omega)]
      simp
    · rw [cd_f c, if_neg c]
      by_cases c2 : x.1 ≤ r.2.1
      · rw [cd_t c2, if_pos c2, put_L0 rest (pre ++ [x]) out _ (by rw [← mid_shift]; exact h1) (by omega)]
        rfl
      · rw [cd_f c2, if_neg c2, put_L0 rest (pre ++ [x]) out r (by rw [← mid_shift]; exact h1) (by omega)]

theorem put_L1 : ∀ (rest pre out : List api_DateRangeV) (r : api_DateRangeV), (pre ++ rest).length ≤ 200000 → out.length + rest.length ≤ 400010 →
    ref05_put.L1 (pre ++ rest) r out (pre.length : Int) = some (out ++ rest.filter (fun x => decide (x.1 > r.2.1)), ())
  | [], pre, out, r, h1, h2 => by
    rw [ref05_put.L1_eq, ref05_put.SL1, cd_f (by simp)]
    simp
  | x :: rest, pre, out, r, h1, h2 => by
    have h1' := h1
    rw [len_mid] at h1'
    simp only [List.length_cons] at h2
    rw [ref05_put.L1_eq, ref05_put.SL1, cd_t (by rw [len_mid]; omega), idx_mid]
    simp only [bind_some', wrap_succ (show pre.length < 9223372036854775807 by omega)]
    rw [← len_snoc pre x, mid_shift pre x rest, List.filter_cons]
    by_cases c : x.1 > r.2.1
    · rw [cd_t c, rm16 (by omega), cond_true, put_L1 rest (pre ++ [x]) (out ++ [x]) r (by rw [← mid_shift]; exact h1) (by simp; omega), if_pos (by simpa using c)]
      simp
    · rw [cd_f c, put_L1 rest (pre ++ [x]) out r (by rw [← mid_shift]; exact h1) (by omega), if_neg (by simpa using c)]

/-- Putting in, in one pass. -/
def putS : List api_DateRangeV → api_DateRangeV → List api_DateRangeV
  | [], r => [r]
  | x :: l, r => if x.2.1 < r.1 then x :: putS l r else if x.1 ≤ r.2.1 then putS l (hull x r) else r :: x :: l

theorem p1_after : ∀ (l : List api_DateRangeV) (r : api_DateRangeV), r.1 ≤ r.2.1 → (∀ x ∈ l, r.2.1 < x.1 ∧ x.1 ≤ x.2.1) → p1 l r = ([], r)
  | [], r, _, _ => rfl
  | x :: l, r, hr, h => by
    have hx := h x (List.mem_cons_self ..)
    rw [p1, if_neg (by omega), if_neg (by omega), p1_after l r hr (fun y hy => h y (List.mem_cons_of_mem _ hy))]

theorem p1_end : ∀ (l : List api_DateRangeV) (r : api_DateRangeV), r.2.1 ≤ (p1 l r).2.2.1
  | [], r => Int.le_refl _
  | x :: l, r => by
    rw [p1]
    split
    · exact p1_end l r
    · split
      · have := p1_end l (hull x r)
        have e : (hull x r).2.1 = max x.2.1 r.2.1 := rfl
        omega
      · exact p1_end l r

theorem p1_putS : ∀ (l : List api_DateRangeV) (r : api_DateRangeV), Nrm l → r.1 ≤ r.2.1 → (p1 l r).1 ++ (p1 l r).2 :: l.filter (fun x => decide (x.1 > (p1 l r).2.2.1)) = putS l r
  | [], r, _, _ => rfl
  | x :: l, r, hn, hr => by
    obtain ⟨h1, h2, h3⟩ := Nrm_cons.1 hn
    have px := prp_iff.1 h1
    rw [p1, putS]
    by_cases c : x.2.1 < r.1
    · simp only [if_pos c]
      have := p1_end l r
      rw [List.filter_cons_of_neg (by simp; omega), List.cons_append, p1_putS l r h3 hr]
    · simp only [if_neg c]
      by_cases c2 : x.1 ≤ r.2.1
      · simp only [if_pos c2]
        have := p1_end l (hull x r)
        have e : (hull x r).2.1 = max x.2.1 r.2.1 := rfl
        rw [List.filter_cons_of_neg (by simp; omega), p1_putS l (hull x r) h3 (by show min x.1 r.1 ≤ max x.2.1 r.2.1; omega)]
      · simp only [if_neg c2]
        have af := p1_after l r hr (fun y hy => by
          have := h2 y hy
          have := prp_iff.1 (h3.1 y hy)
          omega)
        rw [af]
        simp only [List.nil_append]
        congr 1
        refine List.filter_eq_self.2 (fun y hy => ?_)
        rcases List.mem_cons.1 hy with e | hy
        · rw [e]; simp; omega
        · have := h2 y hy
          simp; omega

theorem putS_low : ∀ (l : List api_DateRangeV) (r : api_DateRangeV) (b : Int), (∀ x ∈ l, b < x.1) → b < r.1 → ∀ y ∈ putS l r, b < y.1
  | [], r, b, _, hr, y, hy => by
    rw [putS, List.mem_singleton] at hy; rw [hy]; exact hr
  | x :: l, r, b, hl, hr, y, hy => by
    have hx := hl x (List.mem_cons_self ..)
    rw [putS] at hy
    split at hy
    · rcases List.mem_cons.1 hy with e | hy
      · rw [e]; exact hx
      · exact putS_low l r b (fun z hz => hl z (List.mem_cons_of_mem _ hz)) hr y hy
    · split at hy
      · exact putS_low l (hull x r) b (fun z hz => hl z (List.mem_cons_of_mem _ hz)) (by show b < min x.1 r.1; omega) y hy
      · rcases List.mem_cons.1 hy with e | hy
        · rw [e]; exact hr
        · exact hl y hy

theorem putS_ok : ∀ (l : List api_DateRangeV) (r : api_DateRangeV), Nrm l → prp r = true → Nrm (putS l r) ∧ ∀ t, cov (putS l r) t ↔ cov l t ∨ inr r t
  | [], r, _, hr => by
    rw [putS]
    refine ⟨Nrm_cons.2 ⟨hr, by simp, Nrm_nil⟩, fun t => ?_⟩
    rw [cov_cons]
    exact Or.comm
  | x :: l, r, hn, hr => by
    obtain ⟨h1, h2, h3⟩ := Nrm_cons.1 hn
    have px := prp_iff.1 h1
    have pr := prp_iff.1 hr
    rw [putS]
    split
    · rename_i c
      obtain ⟨n1, n2⟩ := putS_ok l r h3 hr
      refine ⟨Nrm_cons.2 ⟨h1, putS_low l r x.2.1 h2 c, n1⟩, fun t => ?_⟩
      rw [cov_cons, cov_cons, n2 t, or_assoc]
    · rename_i c
      split
      · rename_i c2
        obtain ⟨n1, n2⟩ := putS_ok l (hull x r) h3 (prp_iff.2 ⟨by show 0 ≤ min x.1 r.1; omega, by show min x.1 r.1 < max x.2.1 r.2.1; omega, by show max x.2.1 r.2.1 ≤ 109573; omega⟩)
        refine ⟨n1, fun t => ?_⟩
        rw [n2 t, cov_cons]
        have : inr (hull x r) t ↔ inr x t ∨ inr r t := by
          show min x.1 r.1 ≤ t ∧ t < max x.2.1 r.2.1 ↔ _
          unfold inr; omega
        rw [this]
        constructor
        · rintro (h | h | h)
          · exact .inl (.inr h)
          · exact .inl (.inl h)
          · exact .inr h
        · rintro ((h | h) | h)
          · exact .inr (.inl h)
          · exact .inl h
          · exact .inr (.inr h)
      · rename_i c2
        refine ⟨Nrm_cons.2 ⟨hr, fun y hy => ?_, hn⟩, fun t => ?_⟩
        · rcases List.mem_cons.1 hy with e | hy
          · rw [e]; omega
          · have := h2 y hy; omega
        · rw [cov_cons, cov_cons x l]
          exact Or.comm

theorem put_val {l : List api_DateRangeV} {r : api_DateRangeV} (hn : Nrm l) (hr : prp r = true) : ref05_put l r = some (putS l r, ()) := by
  have hl := Nrm_length hn
  have pr := prp_iff.1 hr
  simp only [ref05_put, ref05_put.Se]
  have e1 := put_L0 l [] [] r (by simp; omega) (by simp; omega)
  have e2 := put_L1 l [] (([] : List api_DateRangeV) ++ (p1 l r).1 ++ [(p1 l r).2]) (p1 l r).2 (by simp; omega) (by have := p1_length l r; simp; omega)
  simp only [List.nil_append, List.length_nil] at e1 e2
  rw [show (0 : Int) = ((0 : Nat) : Int) from rfl, e1]
  rw [show (0 : Int) = ((0 : Nat) : Int) from rfl, e2, ← p1_putS l r hn (by omega)]
  simp

theorem runion_L0 : ∀ (rest pre out : List api_DateRangeV), (pre ++ rest).length ≤ 200000 → Nrm out →
    ∃ u, ref05_Union.L0 (pre ++ rest) out (pre.length : Int) = some (u, ()) ∧ Nrm u ∧ ∀ t, cov u t ↔ cov out t ∨ covp rest t
  | [], pre, out, h1, hn => by
    rw [ref05_Union.L0_eq, ref05_Union.SL0, cd_f (by simp)]
    exact ⟨out, rfl, hn, fun t => by simp [covp]⟩
  | x :: rest, pre, out, h1, hn => by
    have h1' := h1
    rw [len_mid] at h1'
    rw [ref05_Union.L0_eq, ref05_Union.SL0, cd_t (by rw [len_mid]; omega), idx_mid]
    simp only [bind_some', nonempty_val, wrap_succ (show pre.length < 9223372036854775807 by omega)]
    rw [← len_snoc pre x, mid_shift pre x rest]
    cases c : prp x with
    | true =>
      rw [cond_true, put_val hn c, bind_some']
      obtain ⟨n1, n2⟩ := putS_ok out x hn c
      obtain ⟨u, u1, u2, u3⟩ := runion_L0 rest (pre ++ [x]) (putS out x) (by rw [← mid_shift]; exact h1) n1
      refine ⟨u, u1, u2, fun t => ?_⟩
      rw [u3 t, n2 t, or_assoc]
      simp [covp, c]
    | false =>
      rw [cond_false]
      obtain ⟨u, u1, u2, u3⟩ := runion_L0 rest (pre ++ [x]) out (by rw [← mid_shift]; exact h1) hn
      refine ⟨u, u1, u2, fun t => ?_⟩
      rw [u3 t]
      simp [covp, c]

theorem runion_val (l : List api_DateRangeV) (h : l.length ≤ 200000) : ∃ u, ref05_Union l = some (u, ()) ∧ Nrm u ∧ ∀ t, cov u t ↔ covp l t := by
  simp only [ref05_Union, ref05_Union.Se]
  obtain ⟨u, u1, u2, u3⟩ := runion_L0 l [] [] (by simpa using h) Nrm_nil
  exact ⟨u, by simpa using u1, u2, fun t => by rw [u3 t]; simp [cov_nil]⟩

/-! ### the reference: intersection, difference, gaps -/
/-- The intersection and whether there is one. -/
def isec (a b : api_DateRangeV) : api_DateRangeV × Bool × Unit :=
  if vld a = true ∧ vld b = true ∧ max b.1 a.1 < min b.2.1 a.2.1 then ((max b.1 a.1, min b.2.1 a.2.1, ()), true, ()) else ((0, 0, ()), false, ())

theorem vld_iff {r : api_DateRangeV} : vld r = true ↔ 0 ≤ r.1 ∧ r.1 ≤ r.2.1 ∧ r.2.1 ≤ 109573 := by simp [vld]

theorem intersect_val (a b : api_DateRangeV) : daterange_Intersect a b = some (isec a b) := by
  simp only [daterange_Intersect, daterange_Intersect.Se, proper_val, bind_some', cond_max, cond_min, isec]
  cases ha : prp a with
  | false =>
    rw [if_neg]
    · rfl
    · rw [vld_iff, vld_iff]
      intro h
      have : ¬ (0 ≤ a.1 ∧ a.1 < a.2.1 ∧ a.2.1 ≤ 109573) := fun g => by rw [prp_iff.2 g] at ha; cases ha
      omega
  | true =>
    cases hb : prp b with
    | false =>
      rw [if_neg]
      · rfl
      · rw [vld_iff, vld_iff]
        intro h
        have : ¬ (0 ≤ b.1 ∧ b.1 < b.2.1 ∧ b.2.1 ≤ 109573) := fun g => by rw [prp_iff.2 g] at hb; cases hb
        omega
    | true =>
      have pa := prp_iff.1 ha
      have pb := prp_iff.1 hb
      simp only [Bool.not_true, cond_false]
      by_cases c : max b.1 a.1 < min b.2.1 a.2.1
      · rw [cd_f (by omega), if_pos ⟨vld_iff.2 (by omega), vld_iff.2 (by omega), c⟩]
      · rw [cd_t (by omega), if_neg (fun h => c h.2.2)]

theorem rintersect_val (a b : api_DateRangeV) : ref05_Intersect a b = some (isec a b) := by
  simp only [ref05_Intersect, ref05_Intersect.Se, ref05_Intersect.J0_eq, ref05_Intersect.SJ0, rvalid_val, bind_some', cond_max, cond_min, isec]
  cases ha : vld a with
  | false => simp
  | true =>
    cases hb : vld b with
    | false => simp
    | true =>
      simp only [Bool.not_true, cond_false, true_and]
      by_cases c : max b.1 a.1 < min b.2.1 a.2.1
      · rw [cd_f (by omega), if_pos c]
      · rw [cd_t (by omega), if_neg c]

theorem subtract_val (a b : api_DateRangeV) (ha : prp a = true) : ∃ s, ref05_Subtract a b = some (s, ()) ∧ Nrm s ∧ s.length ≤ 2 ∧ (∀ x ∈ s, a.1 ≤ x.1 ∧ x.2.1 ≤ a.2.1) ∧ ∀ t, cov s t ↔ inr a t ∧ ¬ (prp b = true ∧ inr b t) := by
  have pa := prp_iff.1 ha
  simp only [ref05_Subtract, ref05_Subtract.Se, nonempty_val, rintersect_val, bind_some', ha, Bool.not_true, cond_false, isec]
  by_cases c : vld a = true ∧ vld b = true ∧ max b.1 a.1 < min b.2.1 a.2.1
  · rw [if_pos c]
    obtain ⟨-, vb, c⟩ := c
    have vb := vld_iff.1 vb
    have pb : prp b = true := prp_iff.2 (by omega)
    simp only [Bool.not_true, cond_false]
    have J : ∀ out : List api_DateRangeV, out.length ≤ 1 → ref05_Subtract.J0 a (max b.1 a.1, min b.2.1 a.2.1, ()) out = some (if min b.2.1 a.2.1 < a.2.1 then out ++ [(min b.2.1 a.2.1, a.2.1, ())] else out, ()) := by
      intro out ho
      rw [ref05_Subtract.J0_eq, ref05_Subtract.SJ0]
      simp only
      by_cases c3 : min b.2.1 a.2.1 < a.2.1
      · rw [cd_t c3, if_pos c3, rm16 (by omega), cond_true]
      · rw [cd_f c3, if_neg c3]
    have pp : ∀ u v : Int, a.1 ≤ u → u < v → v ≤ a.2.1 → prp (u, v, ()) = true := fun u v g1 g2 g3 => prp_iff.2 ⟨by show 0 ≤ u; omega, g2, by show v ≤ 109573; omega⟩
    by_cases c2 : a.1 < max b.1 a.1
    · rw [cd_t c2, J _ (by simp)]
      by_cases c3 : min b.2.1 a.2.1 < a.2.1
      · rw [if_pos c3]
        refine ⟨_, rfl, Nrm_cons.2 ⟨pp _ _ (by omega) c2 (by omega), fun y hy => ?_, Nrm_cons.2 ⟨pp _ _ (by omega) c3 (by omega), by simp, Nrm_nil⟩⟩, by simp, fun x hx => ?_, fun t => ?_⟩
        · rw [List.mem_singleton.1 hy]; show max b.1 a.1 < min b.2.1 a.2.1; exact c
        · simp only [List.cons_append, List.nil_append, List.mem_cons, List.not_mem_nil, or_false] at hx
          rcases hx with rfl | rfl
          · constructor
            · exact Int.le_refl _
            · show max b.1 a.1 ≤ a.2.1; omega
          · constructor
            · show a.1 ≤ min b.2.1 a.2.1; omega
            · exact Int.le_refl _
        · simp only [List.cons_append, List.nil_append, cov_cons, cov_nil, or_false, inr, pb, true_and]
          omega
      · rw [if_neg c3]
        refine ⟨_, rfl, Nrm_cons.2 ⟨pp _ _ (by omega) c2 (by omega), by simp, Nrm_nil⟩, by simp, fun x hx => ?_, fun t => ?_⟩
        · rw [List.mem_singleton.1 hx]
          constructor
          · exact Int.le_refl _
          · show max b.1 a.1 ≤ a.2.1; omega
        · simp only [cov_cons, cov_nil, or_false, inr, pb, true_and]
          omega
    · rw [cd_f c2, J _ (by simp)]
      by_cases c3 : min b.2.1 a.2.1 < a.2.1
      · rw [if_pos c3]
        refine ⟨_, rfl, Nrm_cons.2 ⟨pp _ _ (by omega) c3 (by omega), by simp, Nrm_nil⟩, by simp, fun x hx => ?_, fun t => ?_⟩
        · simp only [List.nil_append, List.mem_singleton] at hx
          rw [hx]
          constructor
          · show a.1 ≤ min b.2.1 a.2.1; omega
          · exact Int.le_refl _
        · simp only [List.nil_append, cov_cons, cov_nil, or_false, inr, pb, true_and]
          omega
      · rw [if_neg c3]
        refine ⟨_, rfl, Nrm_nil, by simp, (fun x hx => by cases hx), fun t => ?_⟩
        simp only [cov_nil, inr, pb, true_and, false_iff]
        omega
  · rw [if_neg c]
    simp only [Bool.not_false, cond_true]
    refine ⟨_, rfl, Nrm_cons.2 ⟨ha, by simp, Nrm_nil⟩, by simp, fun x hx => ?_, fun t => ?_⟩
    · rw [List.mem_singleton.1 hx]; exact ⟨Int.le_refl _, Int.le_refl _⟩
    · simp only [cov_cons, cov_nil, or_false]
      refine ⟨fun h => ⟨h, fun ⟨g1, g2⟩ => c ⟨vld_iff.2 (by omega), vld_iff.2 (by have := prp_iff.1 g1; omega), ?_⟩⟩, fun h => h.1⟩
      unfold inr at h g2
      omega

theorem subtract_none (a b : api_DateRangeV) (ha : prp a = false) : ref05_Subtract a b = some ([], ()) := by
  simp only [ref05_Subtract, ref05_Subtract.Se, nonempty_val, bind_some', ha]
  rfl

theorem rgaps_L1 (l : List api_DateRangeV) (i : Nat) (b : api_DateRangeV) (hb : idx l (i : Int) = some b) (hi : i ≤ 200000) : ∀ (rest pre next : List api_DateRangeV), Nrm (pre ++ rest) → Nrm next → (∀ e ∈ next, ∀ y ∈ rest, e.2.1 < y.1) →
    ∃ n, ref05_Gaps.L1 l (pre ++ rest) i next (pre.length : Int) = ref05_Gaps.L0 l n ((i + 1 : Nat) : Int) ∧ Nrm n ∧ ∀ t, cov n t ↔ cov next t ∨ (cov rest t ∧ ¬ (prp b = true ∧ inr b t))
  | [], pre, next, hn, hx, hy => by
    rw [ref05_Gaps.L1_eq, ref05_Gaps.SL1, cd_f (by simp), wrap_succ (by omega)]
    exact ⟨next, rfl, hx, fun t => by simp [cov_nil]⟩
  | x :: rest, pre, next, hn, hx, hy => by
    have hl := Nrm_length hn
    rw [len_mid] at hl
    obtain ⟨u1, u2, u3⟩ := Nrm_append.1 hn
    obtain ⟨x1, x2, x3⟩ := Nrm_cons.1 u2
    obtain ⟨s, s1, s2, s3, s4, s5⟩ := subtract_val x b x1
    rw [ref05_Gaps.L1_eq, ref05_Gaps.SL1, cd_t (by rw [len_mid]; omega), cd_b (by omega) (by rw [len_mid]; omega), hb, bind_some', Int.toNat_natCast, getD_mid, s1, bind_some', rm16 (by have := Nrm_length hx; simp only; omega), cond_true, wrap_succ (by omega), mid_shift pre x rest, ← len_snoc pre x]
    obtain ⟨n, n1, n2, n3⟩ := rgaps_L1 l i b hb hi rest (pre ++ [x]) (next ++ s) (by rw [← mid_shift]; exact hn) (Nrm_append.2 ⟨hx, s2, fun e he y hy' => by
      have := hy e he x (List.mem_cons_self ..)
      have := (s4 y hy').1
      omega⟩) (fun e he y hy' => by
      rcases List.mem_append.1 he with he | he
      · exact hy e he y (List.mem_cons_of_mem _ hy')
      · have := (s4 e he).2
        have := x2 y hy'
        omega)
    refine ⟨n, n1, n2, fun t => ?_⟩
    rw [n3 t, cov_append, s5 t, cov_cons]
    constructor
    · rintro ((h | ⟨h, g⟩) | ⟨h, g⟩)
      · exact .inl h
      · exact .inr ⟨.inl h, g⟩
      · exact .inr ⟨.inr h, g⟩
    · rintro (h | ⟨h | h, g⟩)
      · exact .inl (.inl h)
      · exact .inl (.inr ⟨h, g⟩)
      · exact .inr ⟨h, g⟩

theorem rgaps_L0 : ∀ (rest pre out : List api_DateRangeV), (pre ++ rest).length ≤ 200000 → Nrm out →
    ∃ g, ref05_Gaps.L0 (pre ++ rest) out (pre.length : Int) = some (g, ()) ∧ Nrm g ∧ ∀ t, cov g t ↔ cov out t ∧ ¬ covp rest t
  | [], pre, out, h, hn => by
    rw [ref05_Gaps.L0_eq, ref05_Gaps.SL0, cd_f (by simp)]
    exact ⟨out, rfl, hn, fun t => by simp [covp]⟩
  | x :: rest, pre, out, h, hn => by
    have h' := h
    rw [len_mid] at h'
    rw [ref05_Gaps.L0_eq, ref05_Gaps.SL0, cd_t (by rw [len_mid]; omega)]
    obtain ⟨n, n1, n2, n3⟩ := rgaps_L1 (pre ++ x :: rest) pre.length x (idx_mid ..) (by omega) out [] [] (by simpa using hn) Nrm_nil (fun e he => by cases he)
    simp only [List.nil_append, List.length_nil] at n1
    rw [show (0 : Int) = ((0 : Nat) : Int) from rfl, n1, ← len_snoc pre x, mid_shift pre x rest]
    obtain ⟨g, g1, g2, g3⟩ := rgaps_L0 rest (pre ++ [x]) n (by rw [← mid_shift]; exact h) n2
    refine ⟨g, g1, g2, fun t => ?_⟩
    rw [g3 t, n3 t]
    have : covp (x :: rest) t ↔ (prp x = true ∧ inr x t) ∨ covp rest t := by simp [covp]
    rw [this]
    have n0 := cov_nil t
    constructor
    · rintro ⟨h | ⟨h1, h2⟩, h3⟩
      · exact absurd h n0
      · exact ⟨h1, fun g => g.elim h2 h3⟩
    · rintro ⟨h1, h2⟩
      exact ⟨.inr ⟨h1, fun g => h2 (.inl g)⟩, fun g => h2 (.inr g)⟩

theorem rgaps_val (l : List api_DateRangeV) (w : api_DateRangeV) (h : l.length ≤ 200000) : ∃ u, ref05_Gaps l w = some (u, ()) ∧ Nrm u ∧ ∀ t, cov u t ↔ (prp w = true ∧ inr w t) ∧ ¬ covp l t := by
  simp only [ref05_Gaps, ref05_Gaps.Se, nonempty_val, bind_some']
  cases c : prp w with
  | false => exact ⟨[], rfl, Nrm_nil, fun t => by simp [cov_nil]⟩
  | true =>
    simp only [Bool.not_true, cond_false]
    obtain ⟨g, g1, g2, g3⟩ := rgaps_L0 l [] [w] (by simpa using h) (Nrm_cons.2 ⟨c, by simp, Nrm_nil⟩)
    exact ⟨g, by simpa using g1, g2, fun t => by rw [g3 t]; simp [cov_cons, cov_nil]⟩

/-! ### DaterangePairs, DaterangeSplit -/
theorem dsubtract_val (a b : api_DateRangeV) : ∃ s, daterange_Subtract a b = some (s, ()) ∧ Nrm s ∧ ∀ t, cov s t ↔ (prp a = true ∧ inr a t) ∧ ¬ (prp b = true ∧ inr b t) := by
  simp only [daterange_Subtract, daterange_Subtract.Se]
  obtain ⟨u, u1, u2, u3⟩ := gaps_val [b] a (by simp)
  rw [u1, bind_some']
  exact ⟨u, rfl, u2, fun t => by rw [u3 t]; simp [covp]⟩

theorem daterangePairs_true (aw : law05_awake = some (true, ())) (a b : api_DateRangeV) (t : Int) : law05_DaterangePairs a b t = some (true, ()) := by
  obtain ⟨s, s1, s2, s3⟩ := dsubtract_val a b
  have hr : ∃ r, ref05_Subtract a b = some (r, ()) ∧ r = s := by
    cases ha : prp a with
    | true =>
      obtain ⟨r, r1, r2, r3, r4, r5⟩ := subtract_val a b ha
      exact ⟨r, r1, Nrm_unique r2 s2 (fun t => by rw [r5 t, s3 t, ha]; simp)⟩
    | false =>
      exact ⟨[], subtract_none a b ha, Nrm_unique Nrm_nil s2 (fun t => by rw [s3 t, ha]; simp [cov_nil])⟩
  obtain ⟨r, r1, r2⟩ := hr
  simp only [law05_DaterangePairs, law05_DaterangePairs.Se, intersect_val, rintersect_val, valid_val, rvalid_val, contains_val, rcontains_val, s1, r1, bind_some', eq_val, aw, BEq.rfl, cond_true, decide_eq_true]
  rw [sameD r2.symm (by have := Nrm_length s2; omega)]
  rfl

theorem isec_comm (a b : api_DateRangeV) : isec a b = isec b a := by
  unfold isec
  by_cases c : vld a = true ∧ vld b = true ∧ max b.1 a.1 < min b.2.1 a.2.1
  · rw [if_pos c, if_pos ⟨c.2.1, c.1, by omega⟩, Int.max_comm b.1 a.1, Int.min_comm b.2.1 a.2.1]
  · rw [if_neg c, if_neg (fun h => c ⟨h.2.1, h.1, by omega⟩)]

/-- Whether the intersection holds a date. -/
theorem isec_holds (a b : api_DateRangeV) (t : Int) : ((isec a b).2.1 = true ∧ prp (isec a b).1 = true ∧ inr (isec a b).1 t) ↔ (prp a = true ∧ inr a t) ∧ (prp b = true ∧ inr b t) := by
  unfold isec
  by_cases c : vld a = true ∧ vld b = true ∧ max b.1 a.1 < min b.2.1 a.2.1
  · rw [if_pos c]
    obtain ⟨va, vb, c⟩ := c
    rw [vld_iff] at va vb
    have q : inr (max b.1 a.1, min b.2.1 a.2.1, ()) t ↔ max b.1 a.1 ≤ t ∧ t < min b.2.1 a.2.1 := Iff.rfl
    constructor
    · rintro ⟨-, -, h⟩
      have h := q.1 h
      exact ⟨⟨prp_iff.2 (by omega), by unfold inr; omega⟩, prp_iff.2 (by omega), by unfold inr; omega⟩
    · rintro ⟨⟨h1, h2⟩, h3, h4⟩
      unfold inr at h2 h4
      exact ⟨rfl, prp_iff.2 ⟨by show 0 ≤ max b.1 a.1; omega, c, by show min b.2.1 a.2.1 ≤ 109573; omega⟩, q.2 (by omega)⟩
  · rw [if_neg c]
    refine ⟨(fun h => by cases h.1), fun ⟨⟨h1, h2⟩, h3, h4⟩ => ?_⟩
    exfalso
    rw [prp_iff] at h1 h3
    unfold inr at h2 h4
    exact c ⟨vld_iff.2 (by omega), vld_iff.2 (by omega), by omega⟩

theorem dsubtract_len {a b : api_DateRangeV} {s : List api_DateRangeV} (h : Nrm s) (hc : ∀ t, cov s t ↔ (prp a = true ∧ inr a t) ∧ ¬ (prp b = true ∧ inr b t)) : s.length ≤ 2 := by
  cases ha : prp a with
  | true =>
    obtain ⟨r, r1, r2, r3, r4, r5⟩ := subtract_val a b ha
    rw [← Nrm_unique r2 h (fun t => by rw [r5 t, hc t, ha]; simp)]
    exact r3
  | false =>
    rw [← Nrm_unique Nrm_nil h (fun t => by rw [hc t, ha]; simp [cov_nil])]
    simp

theorem daterangeSplit_true (aw : law05_awake = some (true, ())) (a b : api_DateRangeV) (t : Int) : law05_DaterangeSplit a b t = some (true, ()) := by
  obtain ⟨s, s1, s2, s3⟩ := dsubtract_val a b
  have hl := dsubtract_len s2 s3
  have J : ∀ v : Bool, v = decide ((prp a = true ∧ inr a t) ∧ (prp b = true ∧ inr b t)) → law05_DaterangeSplit.J0 t a b (isec a b).1 (isec a b).2.1 (isec b a).1 (isec b a).2.1 s v = some (true, ()) := by
    intro v hv
    rw [law05_DaterangeSplit.J0_eq, law05_DaterangeSplit.SJ0, isec_comm b a, eq_val, decide_eq_true rfl, cond_true, BEq.rfl, cond_true, normal_val s2]
    simp only [bind_some', cond_true, contains_val, aw]
    rw [cd_t (by omega), lcontains_val s t (by omega)]
    simp only [bind_some']
    have e := (covp_Nrm s2 t).trans (s3 t)
    by_cases ca : prp a = true ∧ inr a t
    · rw [decide_eq_true ca]
      by_cases cb : prp b = true ∧ inr b t
      · rw [decide_eq_true cb, hv, decide_eq_true ⟨ca, cb⟩, decide_eq_false (show ¬ covp s t by rw [e]; exact fun h => h.2 cb)]
        rfl
      · rw [decide_eq_false cb, hv, decide_eq_false (fun h => cb h.2), decide_eq_true (show covp s t by rw [e]; exact ⟨ca, cb⟩)]
        rfl
    · rw [decide_eq_false ca, hv, decide_eq_false (fun h => ca h.1), decide_eq_false (show ¬ covp s t by rw [e]; exact fun h => ca h.1)]
      rfl
  simp only [law05_DaterangeSplit, law05_DaterangeSplit.Se, intersect_val, s1, bind_some', contains_val]
  have hh := isec_holds a b t
  cases c : (isec a b).2.1 with
  | true =>
    rw [cond_true]
    rw [c] at J
    refine J _ ?_
    rw [decide_eq_decide, ← hh]
    simp [c]
  | false =>
    rw [cond_false]
    rw [c] at J
    refine J false ?_
    rw [decide_eq_false]
    rw [← hh, c]
    simp

end Go.Proofs.Ytcekbjgogdkomaa
