import Derived.Test.YtfifnmmihekldaaPCb
set_option maxRecDepth 100000
set_option linter.unusedVariables false
set_option linter.unusedSimpArgs false
namespace Go.Proofs.Ytfifnmmihekldaa
open Go Go.Lift
theorem covers_val (x : api_AppealV) (m : Int) : ref42_Covers x m = some (decide (x.2.1 ≤ m) && decide (m < x.2.2.1), ()) := by
  simp only [ref42_Covers, ref42_Covers.Se]
  cases decide (x.2.1 ≤ m) <;> rfl
def pnd (x : api_AppealV) : Bool := (x.2.2.2.2.2.1 == 1) || (x.2.2.2.2.2.1 == 2)
def stx (m : Int) (x : api_AppealV) : Bool := pnd x && (decide (x.2.1 ≤ m) && decide (m < x.2.2.1))
/-- Does a pending appeal cover the month? -/
def styd (l : List api_AppealV) (m : Int) : Bool := l.any (stx m)
theorem pending_val (x : api_AppealV) : ref42_Pending x = some (pnd x, ()) := by
  simp only [ref42_Pending, ref42_Pending.Se, pnd]
  cases x.2.2.2.2.2.1 == 1 <;> rfl
noncomputable def tailS (out : List Int) : Option (List Int × Unit) := Option.bind (slices_Sort_int_int out) fun x2 => Option.bind (slices_Compact_int_int x2.1) fun x3 => some (x3.1, ())
theorem stayed_L2 (a : api_AppealV) (V : List api_AppealV) (n i : Int) : ∀ (d : Nat) (m : Int) (out : List Int), 0 ≤ m → (d : Int) = max 0 (min 3600 a.2.2.1 - m) → out.length + d ≤ 1000000 →
    ∃ o, ruling_StayedMonths.L2 out a m V n i = ruling_StayedMonths.L0 o V n (IntKind.i64.wrap (i + 1)) ∧ (∀ z, z ∈ o ↔ z ∈ out ∨ (m ≤ z ∧ z < min 3600 a.2.2.1)) ∧ o.length = out.length + d := by
  intro d
  induction d with
  | zero =>
    intro m out h0 hd hl
    rw [ruling_StayedMonths.L2_eq, ruling_StayedMonths.SL2]
    simp only [cond_min]
    rw [cd_f (by omega)]
    exact ⟨out, rfl, fun z => ⟨.inl, fun h => h.elim id (fun h => by omega)⟩, rfl⟩
  | succ d ih =>
    intro m out h0 hd hl
    have hm : m < min 3600 a.2.2.1 := by omega
    obtain ⟨o, o1, o2, o3⟩ := ih (m + 1) (out ++ [m]) (by omega) (by omega) (by simp; omega)
    rw [ruling_StayedMonths.L2_eq, ruling_StayedMonths.SL2]
    simp only [cond_min]
    rw [cd_t hm, rm8 (by omega), cond_true, wrap64 (by omega) (by omega), o1]
    refine ⟨o, rfl, fun z => ?_, by rw [o3]; simp; omega⟩
    rw [o2, List.mem_append, List.mem_singleton]
    constructor
    · rintro ((h | h) | h)
      · exact .inl h
      · exact .inr (by omega)
      · exact .inr (by omega)
    · rintro (h | h)
      · exact .inl (.inl h)
      · by_cases e : z = m
        · exact .inl (.inr e)
        · exact .inr (by omega)
theorem stayed_L0 : ∀ (rest pre : List api_AppealV) (out : List Int), (pre ++ rest).length ≤ 100 → out.length ≤ 3600 * pre.length →
    ∃ o, ruling_StayedMonths.L0 out (pre ++ rest) ((pre ++ rest).length : Int) (pre.length : Int) = tailS o ∧ (∀ z, z ∈ o ↔ z ∈ out ∨ (0 ≤ z ∧ z ≤ 3599 ∧ styd rest z = true)) ∧ o.length ≤ 3600 * (pre ++ rest).length
  | [], pre, out, h, ho => by
    rw [ruling_StayedMonths.L0_eq, ruling_StayedMonths.SL0, cd_f (by simp)]
    exact ⟨out, rfl, fun z => by simp [styd], by simpa using ho⟩
  | x :: rest, pre, out, h, ho => by
    have h' := h
    rw [len_mid] at h'
    have ih := fun out ho => stayed_L0 rest (pre ++ [x]) out (by rw [← mid_shift]; exact h) ho
    rw [← mid_shift, len_snoc] at ih
    have hs : ∀ z, styd (x :: rest) z = (stx z x || styd rest z) := fun z => rfl
    have j1 : pnd x = true → ∃ o, ruling_StayedMonths.J1 out x (pre ++ x :: rest) ((pre ++ x :: rest).length : Int) (pre.length : Int) = tailS o ∧ (∀ z, z ∈ o ↔ z ∈ out ∨ (0 ≤ z ∧ z ≤ 3599 ∧ styd (x :: rest) z = true)) ∧ o.length ≤ 3600 * (pre ++ x :: rest).length := fun hp => by
      have hd : (max 0 (min 3600 x.2.2.1 - max 0 x.2.1)).toNat ≤ 3600 := by omega
      obtain ⟨o, o1, o2, o3⟩ := stayed_L2 x (pre ++ x :: rest) ((pre ++ x :: rest).length : Int) (pre.length : Int) (max 0 (min 3600 x.2.2.1 - max 0 x.2.1)).toNat (max 0 x.2.1) out (by omega) (by omega) (by omega)
      rw [ruling_StayedMonths.J1_eq, ruling_StayedMonths.SJ1]
      simp only [cond_max]
      rw [o1, wrap_succ (by omega)]
      obtain ⟨q, q1, q2, q3⟩ := ih o (by rw [o3]; simp only [List.length_append, List.length_cons, List.length_nil]; omega)
      refine ⟨q, q1, fun z => ?_, q3⟩
      rw [q2, o2, hs, stx, hp, Bool.true_and, Bool.or_eq_true, Bool.and_eq_true, decide_eq_true_eq, decide_eq_true_eq]
      constructor
      · rintro ((h | h) | ⟨a, b, c⟩)
        · exact .inl h
        · exact .inr ⟨by omega, by omega, .inl (by omega)⟩
        · exact .inr ⟨a, b, .inr c⟩
      · rintro (h | ⟨a, b, c | c⟩)
        · exact .inl (.inl h)
        · exact .inl (.inr (by omega))
        · exact .inr ⟨a, b, c⟩
    rw [ruling_StayedMonths.L0_eq, ruling_StayedMonths.SL0, cd_t (by rw [len_mid]; omega), idx_mid]
    simp only [bind_some', wrap_succ (show pre.length < 9223372036854775807 by omega)]
    by_cases e1 : x.2.2.2.2.2.1 = 1
    · rw [show (x.2.2.2.2.2.1 != 1) = false by simp [e1], cond_false]
      exact j1 (by simp [pnd, e1])
    · rw [show (x.2.2.2.2.2.1 != 1) = true by simp [e1], cond_true]
      by_cases e2 : x.2.2.2.2.2.1 = 2
      · rw [show (x.2.2.2.2.2.1 != 2) = false by simp [e2], cond_false]
        exact j1 (by simp [pnd, e2])
      · rw [show (x.2.2.2.2.2.1 != 2) = true by simp [e2], cond_true]
        obtain ⟨q, q1, q2, q3⟩ := ih out (by simp only [List.length_append, List.length_cons, List.length_nil]; omega)
        have hp : pnd x = false := by simp [pnd, e1, e2]
        refine ⟨q, q1, fun z => ?_, q3⟩
        rw [q2, hs, stx, hp, Bool.false_and, Bool.false_or]
theorem stayed_val (l : List api_AppealV) (h : l.length ≤ 100) : ∃ c, ruling_StayedMonths l = some (c, ()) ∧ SS c ∧ (∀ z, z ∈ c ↔ 0 ≤ z ∧ z ≤ 3599 ∧ styd l z = true) := by
  simp only [ruling_StayedMonths, ruling_StayedMonths.Se]
  obtain ⟨o, o1, o2, o3⟩ := stayed_L0 l [] [] (by simpa using h) (by simp)
  simp only [List.nil_append, List.length_nil] at o1 o3
  rw [show ((0 : Nat) : Int) = 0 from rfl] at o1
  rw [o1, tailS]
  obtain ⟨d, e, p, s⟩ := sort_int o (by omega)
  rw [e, bind_some']
  obtain ⟨c, c1, c2, c3⟩ := compact_val s (by have := p.length_eq; omega)
  rw [c1, bind_some']
  exact ⟨c, rfl, c2, fun z => by rw [c3, p.mem_iff, o2]; simp⟩
theorem rstayed_L1 (l : List api_AppealV) (hl : l.length ≤ 100) (out : List Int) (ho : out.length ≤ 100000) (m : Int) : ∀ (rest pre : List api_AppealV) (s : Bool), l = pre ++ rest →
    ref42_StayedMonths.L1 l out m s (pre.length : Int) = cond (s || rest.any (stx m)) (ref42_StayedMonths.L0 l (out ++ [m]) (IntKind.i64.wrap (m + 1))) (ref42_StayedMonths.L0 l out (IntKind.i64.wrap (m + 1)))
  | [], pre, s, e => by
    rw [ref42_StayedMonths.L1_eq, ref42_StayedMonths.SL1, cd_f (by rw [e]; simp), rm8 (by omega)]
    cases s <;> rfl
  | x :: rest, pre, s, e => by
    have hpl : pre.length + (rest.length + 1) ≤ 100 := by rw [e, len_mid] at hl; exact hl
    have ih := fun s => rstayed_L1 l hl out ho m rest (pre ++ [x]) s (by rw [e]; simp)
    rw [len_snoc] at ih
    have i0 : idx l (pre.length : Int) = some x := by rw [e]; exact idx_mid ..
    rw [ref42_StayedMonths.L1_eq, ref42_StayedMonths.SL1, cd_t (by rw [e, len_mid]; omega), i0]
    simp only [bind_some', pending_val, covers_val, wrap_succ (show pre.length < 9223372036854775807 by omega), ih, List.any_cons, stx]
    cases s with
    | true => rfl
    | false => cases pnd x <;> rfl
theorem rstayed_L0 (l : List api_AppealV) (hl : l.length ≤ 100) : ∀ (d k : Nat) (out : List Int), k + d = 3600 → out.length ≤ k → SS out → (∀ z ∈ out, z < (k : Int)) →
    ∃ c, ref42_StayedMonths.L0 l out (k : Int) = some (c, ()) ∧ SS c ∧ ∀ z, z ∈ c ↔ z ∈ out ∨ ((k : Int) ≤ z ∧ z ≤ 3599 ∧ styd l z = true) := by
  intro d
  induction d with
  | zero =>
    intro k out hk ho hs hb
    rw [ref42_StayedMonths.L0_eq, ref42_StayedMonths.SL0, cd_f (by omega)]
    exact ⟨out, rfl, hs, fun z => ⟨.inl, fun h => h.elim id (fun h => by omega)⟩⟩
  | succ d ih =>
    intro k out hk ho hs hb
    rw [ref42_StayedMonths.L0_eq, ref42_StayedMonths.SL0, cd_t (by omega)]
    have := rstayed_L1 l hl out (by omega) (k : Int) l [] false rfl
    simp only [List.length_nil, Bool.false_or] at this
    rw [show ((0 : Nat) : Int) = 0 from rfl, wrap_succ (by omega)] at this
    rw [this]
    cases hst : l.any (stx (k : Int)) with
    | true =>
      obtain ⟨c, c1, c2, c3⟩ := ih (k + 1) (out ++ [(k : Int)]) (by omega) (by simp; omega) (SS_snoc.2 ⟨hs, hb⟩) (fun z hz => by
        rcases List.mem_append.1 hz with h | h
        · have := hb z h; omega
        · rw [List.mem_singleton] at h; omega)
      rw [cond_true]
      refine ⟨c, c1, c2, fun z => ?_⟩
      rw [c3, List.mem_append, List.mem_singleton]
      constructor
      · rintro ((h | h) | ⟨a, b, c⟩)
        · exact .inl h
        · exact .inr ⟨by omega, by omega, by rw [h]; exact hst⟩
        · exact .inr ⟨by omega, b, c⟩
      · rintro (h | ⟨a, b, c⟩)
        · exact .inl (.inl h)
        · by_cases e : z = (k : Int)
          · exact .inl (.inr e)
          · exact .inr ⟨by omega, b, c⟩
    | false =>
      obtain ⟨c, c1, c2, c3⟩ := ih (k + 1) out (by omega) (by omega) hs (fun z hz => by have := hb z hz; omega)
      rw [cond_false]
      refine ⟨c, c1, c2, fun z => ?_⟩
      rw [c3]
      constructor
      · rintro (h | ⟨a, b, c⟩)
        · exact .inl h
        · exact .inr ⟨by omega, b, c⟩
      · rintro (h | ⟨a, b, c⟩)
        · exact .inl h
        · by_cases e : z = (k : Int)
          · rw [e, styd, hst] at c; cases c
          · exact .inr ⟨by omega, b, c⟩
theorem rstayed_val (l : List api_AppealV) (h : l.length ≤ 100) : ∃ c, ref42_StayedMonths l = some (c, ()) ∧ SS c ∧ (∀ z, z ∈ c ↔ 0 ≤ z ∧ z ≤ 3599 ∧ styd l z = true) := by
  simp only [ref42_StayedMonths, ref42_StayedMonths.Se]
  obtain ⟨c, c1, c2, c3⟩ := rstayed_L0 l h 3600 0 [] (by omega) (by simp) .nil (by simp)
  exact ⟨c, c1, c2, fun z => by rw [c3]; simp⟩
/-- Strictly rising numbers from 0 to 3599 are few. -/
theorem SS_few : ∀ (c : List Int) (s : Int), SS c → (∀ z ∈ c, s ≤ z ∧ z ≤ 3599) → (c.length : Int) ≤ max 0 (3600 - s)
  | [], s, _, _ => by simp; omega
  | x :: c, s, h, hb => by
    obtain ⟨h1, h2⟩ := List.pairwise_cons.1 h
    have := SS_few c (x + 1) h2 (fun z hz => ⟨by have := h1 z hz; omega, (hb z (List.mem_cons_of_mem _ hz)).2⟩)
    have := hb x List.mem_cons_self
    rw [List.length_cons]
    omega
theorem rulingStayed_true (aw : law42_awake = some (true, ())) (l : List api_AppealV) : law42_RulingStayed l = some (true, ()) := by
  simp only [law42_RulingStayed, law42_RulingStayed.Se, aw, bind_some']
  by_cases g1 : (l.length : Int) > 30
  · rw [cd_t g1]
  obtain ⟨c, c1, c2, c3⟩ := stayed_val l (by omega)
  obtain ⟨d, d1, d2, d3⟩ := rstayed_val l (by omega)
  have e : c = d := SS_unique c2 d2 (fun x => by rw [c3, d3])
  subst e
  have hf := SS_few c 0 c2 (fun z hz => by have := (c3 z).1 hz; omega)
  have si : same_Ints c c = some (true, ()) := by rw [same_Ints_val (by rw [maxLen_eq]; omega)]; simp
  rw [cd_f g1, c1, d1]
  simp only [bind_some', si, cond_true, aw]
end Go.Proofs.Ytfifnmmihekldaa
