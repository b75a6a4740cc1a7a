import Derived.Test.YtfifnmmihekldaaPCb
set_option maxRecDepth 100000
set_option linter.unusedVariables false
set_option linter.unusedSimpArgs false
namespace Go.Proofs.Ytfifnmmihekldaa
open Go Go.Lift
theorem covers_val (x : api_AppealV) (m : Int) : ref42_Covers x m = some (decide (x.2.1 ≤ m) && decide (m < x.2.2.1), ()) := by
  simp only [ref42_Covers, ref42_Covers.Se]
  cases decide (x.2.1 ≤ m) <;> rfl
def pnd (x : api_AppealV) : Bool := (x.2.2.2.2.2.1 == 1) || (x.2.2.2.2.2.1 == 2)
def stx (m : Int) (x : api_AppealV) : Bool := pnd x && (decide (x.2.1 ≤ m) && decide (m < x.2.2.1))
/-- Does a pending appeal cover the month? -/
def styd (l : List api_AppealV) (m : Int) : Bool := l.any (stx m)
theorem pending_val (x : api_AppealV) : ref42_Pending x = some (pnd x, ()) := by
  simp only [ref42_Pending, ref42_Pending.Se, pnd]
  cases x.2.2.2.2.2.1 == 1 <;> rfl
noncomputable def tailS (out : List Int) : Option (List Int × Unit) := Option.bind (slices_Sort_int_int out) fun x2 => Option.bind (slices_Compact_int_int x2.1) fun x3 => some (x3.1, ())
theorem stayed_L2 (a : api_AppealV) (V : List api_AppealV) (n i : Int) : ∀ (d : Nat) (m : Int) (out : List Int), 0 ≤ m → (d : Int) = max 0 (min 3600 a.2.2.1 - m) → out.length + d ≤ 1000000 →
    ∃ o, ruling_StayedMonths.L2 out a m V n i = ruling_StayedMonths.L0 o V n (IntKind.i64.wrap (i + 1)) ∧ (∀ z, z ∈ o ↔ z ∈ out ∨ (m ≤ z ∧ z < min 3600 a.2.2.1)) ∧ o.length = out.length + d := by
  intro d
  induction d with
  | zero =>
    intro m out h0 hd hl
    rw [ruling_StayedMonths.L2_eq, ruling_StayedMonths.SL2]
    simp only [cond_min]
    rw [cd_f (by omega)]
    exact ⟨out, rfl, fun z => ⟨.inl, fun h => h.elim id (fun h => by omega)⟩, rfl⟩
  | succ d ih =>
    intro m out h0 hd hl
    have hm : m < min 3600 a.2.2.1 := by omega
    obtain ⟨o, o1, o2, o3⟩ := ih (m + 1) (out ++ [m]) (by omega) (by omega) (by simp; omega)
    rw [ruling_StayedMonths.L2_eq, ruling_StayedMonths.SL2]
    simp only [cond_min]
    rw [cd_t hm, rm8 (by omega), cond_true, wrap64 (by omega) (by omega), o1]
    refine ⟨o, rfl, fun z => ?_, by rw [o3]; simp; omega⟩
    rw [o2, List.mem_append, List.mem_singleton]
    constructor
    · rintro ((h | h) | h)
      · exact .inl h
      · exact .inr (by omega)
      · exact .inr (by omega)
    · rintro (h | h)
      · exact .inl (.inl h)
      · by_cases e : z = m
        · exact .inl (.inr e)
        · exact .inr (by omega)
theorem stayed_L0 : ∀ (rest pre : List api_AppealV) (out : List Int), (pre ++ rest).length ≤ 100 → out.length ≤ 3600 * pre.length →
    ∃ o, ruling_StayedMonths.L0 out (pre ++ rest) ((pre ++ rest).length : Int) (pre.length : Int) = tailS o ∧ (∀ z, z ∈ o ↔ z ∈ out ∨ (0 ≤ z ∧ z ≤ 3599 ∧ styd rest z = true)) ∧ o.length ≤ 3600 * (pre ++ rest).length
  | [], pre, out, h, ho => by
    rw [ruling_StayedMonths.L0_eq, ruling_StayedMonths.SL0, cd_f (by simp)]
    exact ⟨out, rfl, fun z => by simp [styd], by simpa using ho⟩
  | x :: rest, pre, out, h, ho => by
    have h' := h
    rw [len_mid] at h'
    have ih := fun out ho => stayed_L0 rest (pre ++ [x]) out (by rw [← mid_shift]; exact h) ho
    rw [← mid_shift, len_snoc] at ih
    have hs : ∀ z, styd (x :: rest) z = (stx z x || styd rest z) := fun z => rfl
    have j1 : pnd x = true → ∃ o, ruling_StayedMonths.J1 out x (pre ++ x :: rest) ((pre ++ x :: rest).length : Int) (pre.length : Int) = tailS o ∧ (∀ z, z ∈ o ↔ z ∈ out ∨ (0 ≤ z ∧ z ≤ 3599 ∧ styd (x :: rest) z = true)) ∧ o.length ≤ 3600 * (pre ++ x :: rest).length := fun hp => by
      have hd : (max 0 (min 3600 x.2.2.1 - max 0 x.2.1)).toNat ≤ 3600 := by omega
      obtain ⟨o, o1, o2, o3⟩ := stayed_L2 x (pre ++ x :: rest) ((pre ++ x :: rest).length : Int) (pre.length : Int) (max 0 (min 3600 x.2.2.1 - max 0 x.2.1)).toNat (max 0 x.2.1) out (by omega) (by omega) (by omega)
      rw [ruling_StayedMonths.J1_eq, ruling_StayedMonths.SJ1]
      simp only [cond_max]
      rw [o1, wrap_succ (by omega)]
      obtain ⟨q, q1, q2, q3⟩ := ih o (by rw [o3]; simp only [List.length_append, List.length_cons, List.length_nil]; omega)
      refine ⟨q, q1, fun z => ?_, q3⟩
      rw [q2, o2, hs, stx, hp, Bool.true_and, Bool.or_eq_true, Bool.and_eq_true, decide_eq_true_eq, decide_eq_true_eq]
      constructor
      · rintro ((h | h) | ⟨a, b, c⟩)
        · exact .inl h
        · exact .inr ⟨by omega, by omega, .inl (by omega)⟩
        · exact .inr ⟨a, b, .inr c⟩
      · rintro (h | ⟨a, b, c | c⟩)
        · exact .inl (.inl h)
        · exact .inl (.inr (by omega))
        · exact .inr ⟨a, b, c⟩
    rw [ruling_StayedMonths.L0_eq, ruling_StayedMonths.SL0, cd_t (by rw [len_mid]; omega), idx_mid]
    simp only [bind_some', wrap_succ (show pre.length < 9223372036854775807 by omega)]
    by_cases e1 : x.2.2.2.2.2.1 = 1
    · rw [show (x.2.2.2.2.2.1 != 1) = false by simp [e1], cond_false]
      exact j1 (by simp [pnd, e1])
    · rw [show (x.2.2.2.2.2.1 != 1) = true by simp [e1], cond_true]
      by_cases e2 : x.2.2.2.2.2.1 = 2
      · rw [show (x.2.2.2.2.2.1 != 2) = false by simp [e2], cond_false]
        exact j1 (by simp [pnd, e2])
      · rw [show (x.2.2.2.2.2.1 != 2) = true by simp [e2], cond_true]
        obtain ⟨q, q1, q2, q3⟩ := ih out (by simp only [List.length_append, List.length_cons, List.length_nil]; omega)
        have hp : pnd x = false := by simp [pnd, e1, e2]
        refine ⟨q, q1, fun z => ?_, q3⟩
        rw [q2, hs, stx, hp, Bool.false_and, Bool.false_or]
theorem stayed_val (l : List api_AppealV) (h : l.length ≤ 100) : ∃ c, ruling_StayedMonths l = some (c, ()) ∧ SS c ∧ (∀ z, z ∈ c ↔ 0 ≤ z ∧ z ≤ 3599 ∧ styd l z = true) := by
  simp only [ruling_StayedMonths, ruling_StayedMonths.Se]
  obtain ⟨o, o1, o2, o3⟩ := stayed_L0 l [] [] (by simpa using h) (by simp)
  simp only [List.nil_append, List.length_nil] at o1 o3
  rw [show ((0 : Nat) : Int) = 0 from rfl] at o1
  rw [o1, tailS]
  obtain ⟨d, e, p, s⟩ := sort_int o (by omega)
  rw [e, bind_some']
  obtain ⟨c, c1, c2, c3⟩ := compact_val s (by have := p.length_eq; omega)
  rw [c1, bind_some']
  exact ⟨c, rfl, c2, fun z => by rw [c3, p.mem_iff, o2]; simp⟩
/-- Strictly rising numbers from 0 to 3599 are few. -/
theorem SS_few : ∀ (c : List Int) (s : Int), SS c → (∀ z ∈ c, s ≤ z ∧ z ≤ 3599) → (c.length : Int) ≤ max 0 (3600 - s)
  | [], s, _, _ => by simp; omega
  | x :: c, s, h, hb => by
    obtain ⟨h1, h2⟩ := List.pairwise_cons.1 h
    have := SS_few c (x + 1) h2 (fun z hz => ⟨by have := h1 z hz; omega, (hb z (List.mem_cons_of_mem _ hz)).2⟩)
    have := hb x List.mem_cons_self
    rw [List.length_cons]
    omega
theorem smonth_L2 (aw : law42_awake = some (true, ())) (l : List api_AppealV) (hl : l.length ≤ 100) (m : Int) (inn : Bool) : ∀ (rest pre : List api_AppealV) (s : Bool), l = pre ++ rest → (inn = true ↔ (s || rest.any (stx m)) = true ∧ 0 ≤ m ∧ m ≤ 3599) →
    law42_RulingStayedMonth.L2 l m inn s (pre.length : Int) = some (true, ())
  | [], pre, s, e, hi => by
    rw [law42_RulingStayedMonth.L2_eq, law42_RulingStayedMonth.SL2, cd_f (by rw [e]; simp)]
    simp only [aw, bind_some']
    simp only [List.any_nil, Bool.or_false] at hi
    cases s with
    | false =>
      have : inn = false := by cases inn with | false => rfl | true => exact absurd (hi.1 rfl).1 (by simp)
      rw [this]; rfl
    | true =>
      rw [cond_true]
      by_cases g : m ≥ 0
      · rw [cd_t g]
        have : (inn == decide (m ≤ 3599)) = true := by
          by_cases g2 : m ≤ 3599
          · rw [decide_eq_true g2, hi.2 ⟨rfl, g, g2⟩]; rfl
          · rw [decide_eq_false g2]
            have : inn = false := by cases inn with | false => rfl | true => exact absurd (hi.1 rfl).2.2 g2
            rw [this]; rfl
        rw [this]; rfl
      · rw [cd_f g]
        have : inn = false := by cases inn with | false => rfl | true => exact absurd (hi.1 rfl).2.1 g
        rw [this]; rfl
  | x :: rest, pre, s, e, hi => by
    have hpl : pre.length + (rest.length + 1) ≤ 100 := by rw [e, len_mid] at hl; exact hl
    have ih := fun s hs => smonth_L2 aw l hl m inn rest (pre ++ [x]) s (by rw [e]; simp) hs
    rw [len_snoc] at ih
    have i0 : idx l (pre.length : Int) = some x := by rw [e]; exact idx_mid ..
    rw [law42_RulingStayedMonth.L2_eq, law42_RulingStayedMonth.SL2, cd_t (by rw [e, len_mid]; omega), i0]
    simp only [bind_some', pending_val, covers_val, wrap_succ (show pre.length < 9223372036854775807 by omega)]
    simp only [List.any_cons, stx] at hi
    cases s with
    | true => exact ih true (by simpa using hi)
    | false =>
      rw [cond_false]
      cases hp : pnd x with
      | true =>
        rw [hp] at hi
        rw [cond_true]
        exact ih _ (by simpa [stx] using hi)
      | false =>
        rw [hp] at hi
        rw [cond_false]
        exact ih false (by simpa [stx] using hi)
theorem smonth_L0 (l : List api_AppealV) (m : Int) (c : List Int) (hc : SS c) (hl : c.length ≤ 1000000) (hend : law42_RulingStayedMonth.L2 l m (c.any (· == m)) false 0 = some (true, ())) : ∀ (rest pre : List Int), c = pre ++ rest → law42_RulingStayedMonth.L0 l m c (pre.any (· == m)) false (pre.length : Int) = some (true, ())
  | [], pre, e => by
    rw [law42_RulingStayedMonth.L0_eq, law42_RulingStayedMonth.SL0, cd_f (by rw [e]; simp)]
    rw [e, List.append_nil] at hend
    exact hend
  | x :: rest, pre, e => by
    have hpl : pre.length + (rest.length + 1) ≤ 1000000 := by rw [e, len_mid] at hl; exact hl
    have ih := smonth_L0 l m c hc hl hend rest (pre ++ [x]) (by rw [e]; simp)
    rw [len_snoc, List.any_append, List.any_cons, List.any_nil, Bool.or_false] at ih
    have g0 : c.getD pre.length 0 = x := by rw [e]; exact getD_mid ..
    have cb : (decide (0 ≤ (pre.length : Int)) && decide ((pre.length : Int) < (c.length : Int))) = true := by
      rw [decide_eq_true (by omega), decide_eq_true (by rw [e, len_mid]; omega)]; rfl
    have j1 : ∀ b, law42_RulingStayedMonth.L0 l m c b false ((pre.length + 1 : Nat) : Int) = some (true, ()) → law42_RulingStayedMonth.J1 l m c b false (pre.length : Int) = some (true, ()) := fun b hb => by
      rw [law42_RulingStayedMonth.J1_eq, law42_RulingStayedMonth.SJ1, wrap_succ (show pre.length < 9223372036854775807 by omega), wrap64 (n := (pre.length : Int) - 1) (by omega) (by omega)]
      by_cases g : (pre.length : Int) > 0
      · obtain ⟨k, hk⟩ : ∃ k : Nat, pre.length = k + 1 := ⟨pre.length - 1, by omega⟩
        have e1 : ((pre.length : Int) - 1) = (k : Int) := by omega
        have hkc : k < c.length := by rw [e, len_mid]; omega
        have hk1 : k + 1 < c.length := by rw [e, len_mid]; omega
        have hlt : c.getD k 0 < c.getD (k + 1) 0 := by
          rw [List.getD_eq_getElem?_getD, List.getD_eq_getElem?_getD, List.getElem?_eq_getElem hkc, List.getElem?_eq_getElem hk1]
          exact List.pairwise_iff_getElem.1 hc k (k + 1) hkc hk1 (by omega)
        rw [cd_t g, e1, cd_b (by omega) (by omega), cb, cond_true]
        simp only [Int.toNat_natCast]
        rw [hk, cd_f (by omega), ← hk]
        exact hb
      · rw [cd_f g]; exact hb
    rw [law42_RulingStayedMonth.L0_eq, law42_RulingStayedMonth.SL0, cd_t (by rw [e, len_mid]; omega), cb]
    simp only [Int.toNat_natCast, g0, cond_true]
    cases hp : pre.any (· == m) with
    | true =>
      rw [hp] at ih
      exact j1 true ih
    | false =>
      rw [hp] at ih
      exact j1 (x == m) ih
theorem rulingStayedMonth_true (aw : law42_awake = some (true, ())) (l : List api_AppealV) (m : Int) : law42_RulingStayedMonth l m = some (true, ()) := by
  simp only [law42_RulingStayedMonth, law42_RulingStayedMonth.Se, aw, bind_some']
  by_cases g1 : (l.length : Int) > 30
  · rw [cd_t g1]
  obtain ⟨c, c1, c2, c3⟩ := stayed_val l (by omega)
  have hf := SS_few c 0 c2 (fun z hz => by have := (c3 z).1 hz; omega)
  rw [cd_f g1, c1]
  simp only [bind_some']
  refine smonth_L0 l m c c2 (by omega) ?_ c [] rfl
  refine smonth_L2 aw l (by omega) m _ l [] false rfl ?_
  rw [Bool.false_or, List.any_eq_true]
  constructor
  · rintro ⟨z, hz, e⟩
    have : z = m := by simpa using e
    subst this
    obtain ⟨a, b, d⟩ := (c3 z).1 hz
    exact ⟨d, a, b⟩
  · rintro ⟨d, a, b⟩
    exact ⟨m, (c3 m).2 ⟨a, b, d⟩, by simp⟩
end Go.Proofs.Ytfifnmmihekldaa
