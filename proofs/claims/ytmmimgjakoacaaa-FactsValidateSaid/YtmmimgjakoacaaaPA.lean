import Derived.Test.YtmmimgjakoacaaaPD
set_option maxRecDepth 100000
set_option linter.unusedVariables false
set_option linter.unusedSimpArgs false
namespace Go.Proofs.Ytmmimgjakoacaaa
open Go Go.Lift
abbrev fran (f : api_FactV) : api_DateRangeV := f.2.2.2.2.1
abbrev frec (f : api_FactV) : Int := f.2.2.2.2.2.1
abbrev fkind (f : api_FactV) : Int := f.2.2.2.1.1
/-- The error of a fact by itself. -/
def badR (f : api_FactV) : Prop := f.1 < 0 ∨ f.2.1 < -1 ∨ f.2.1 ≥ 8 ∨ f.2.2.1 < -1 ∨ f.2.2.1 ≥ 12 ∨ (f.2.1 = -1 ∧ f.2.2.1 = -1) ∨ prp (fran f) = false ∨ frec f < 0 ∨ frec f > 109572
def badT (f : api_FactV) : Prop := fkind f < 1 ∨ fkind f > 6 ∨ (f.2.2.1 = -1 ∧ fkind f ≠ 1)
instance (f : api_FactV) : Decidable (badR f) := by unfold badR; infer_instance
instance (f : api_FactV) : Decidable (badT f) := by unfold badT; infer_instance
theorem check_J1 (f : api_FactV) : facts_check.J1 f false = some (if badT f then 8 else 0, ()) := by
  rw [facts_check.J1_eq, facts_check.SJ1, cond_false]
  by_cases h1 : f.2.2.2.1.1 < 1
  · rw [cd_t h1, cd_t h1, if_pos (show badT f from .inl h1)]
  rw [cd_f h1]
  by_cases h2 : f.2.2.2.1.1 > 6
  · rw [cd_t h2, cd_t h2, if_pos (show badT f from .inr (.inl h2))]
  rw [cd_f h2]
  by_cases h3 : f.2.2.1 = -1
  · rw [beq_iff_eq.2 h3, cond_true]
    by_cases h4 : f.2.2.2.1.1 = 1
    · rw [show (f.2.2.2.1.1 != 1) = false by simp [h4], cond_false, if_neg (show ¬ badT f from fun h => by rcases h with h | h | h; exact h1 h; exact h2 h; exact h.2 h4)]
    · rw [show (f.2.2.2.1.1 != 1) = true by simp [h4], cond_true, if_pos (show badT f from .inr (.inr ⟨h3, h4⟩))]
  · rw [beq_eq_false_iff_ne.2 h3, cond_false, if_neg (show ¬ badT f from fun h => by rcases h with h | h | h; exact h1 h; exact h2 h; exact h3 h.1)]
theorem check_J1t (f : api_FactV) : facts_check.J1 f true = some (3, ()) := by
  rw [facts_check.J1_eq, facts_check.SJ1, cond_true]
/-- The code of a fact. -/
def chk (f : api_FactV) : Int := if badR f then 3 else if badT f then 8 else 0
theorem check_rest (f : api_FactV) (hn : ¬ (f.1 < 0 ∨ f.2.1 < -1 ∨ f.2.1 ≥ 8 ∨ f.2.2.1 < -1 ∨ f.2.2.1 ≥ 12 ∨ (f.2.1 = -1 ∧ f.2.2.1 = -1))) :
    (Option.bind (daterange_Valid f.2.2.2.2.1) fun x1 =>
        cond (!x1.1)
          (facts_check.J1 f (!x1.1))
          (cond (f.2.2.2.2.1.1 == f.2.2.2.2.1.2.1)
            (facts_check.J1 f (f.2.2.2.2.1.1 == f.2.2.2.2.1.2.1))
            (cond (decide (f.2.2.2.2.2.1 < 0))
              (facts_check.J1 f (decide (f.2.2.2.2.2.1 < 0)))
              (facts_check.J1 f (decide (f.2.2.2.2.2.1 > 109572)))))) = some (chk f, ()) := by
  rw [valid_val, bind_some']
  dsimp only
  unfold chk
  have hp : prp f.2.2.2.2.1 = (vld f.2.2.2.2.1 && !(f.2.2.2.2.1.1 == f.2.2.2.2.1.2.1)) := by
    rw [Bool.eq_iff_iff]
    simp [prp, vld]
    omega
  cases hv : vld f.2.2.2.2.1 with
  | false =>
    rw [hv, Bool.false_and] at hp
    rw [Bool.not_false, cond_true, check_J1t, if_pos (show badR f from .inr (.inr (.inr (.inr (.inr (.inr (.inl hp)))))))]
  | true =>
    rw [hv, Bool.true_and] at hp
    rw [Bool.not_true, cond_false]
    cases he : (f.2.2.2.2.1.1 == f.2.2.2.2.1.2.1) with
    | true =>
      rw [he] at hp
      rw [cond_true, check_J1t, if_pos (show badR f from .inr (.inr (.inr (.inr (.inr (.inr (.inl hp)))))))]
    | false =>
      rw [he] at hp
      have hp' : prp f.2.2.2.2.1 = true := hp
      rw [cond_false]
      by_cases h1 : f.2.2.2.2.2.1 < 0
      · rw [cd_t h1, decide_eq_true h1, check_J1t, if_pos (show badR f from .inr (.inr (.inr (.inr (.inr (.inr (.inr (.inl h1))))))))]
      · rw [cd_f h1]
        by_cases h2 : f.2.2.2.2.2.1 > 109572
        · rw [decide_eq_true h2, check_J1t, if_pos (show badR f from .inr (.inr (.inr (.inr (.inr (.inr (.inr (.inr h2))))))))]
        · rw [decide_eq_false h2, check_J1, if_neg (show ¬ badR f from fun h => by
            rcases h with h | h | h | h | h | h | h | h | h
            · exact hn (.inl h)
            · exact hn (.inr (.inl h))
            · exact hn (.inr (.inr (.inl h)))
            · exact hn (.inr (.inr (.inr (.inl h))))
            · exact hn (.inr (.inr (.inr (.inr (.inl h)))))
            · exact hn (.inr (.inr (.inr (.inr (.inr h)))))
            · rw [show fran f = f.2.2.2.2.1 from rfl, hp'] at h; cases h
            · exact h1 h
            · exact h2 h)]
theorem check_J0t (f : api_FactV) : facts_check.J0 f true = some (3, ()) := by
  rw [facts_check.J0_eq, facts_check.SJ0, cond_true]
theorem check_val (f : api_FactV) : facts_check f = some (chk f, ()) := by
  simp only [facts_check, facts_check.Se]
  by_cases h1 : f.1 < 0
  · rw [cd_t h1, decide_eq_true h1, check_J0t, chk, if_pos (show badR f from .inl h1)]
  rw [cd_f h1]
  by_cases h2 : f.2.1 < -1
  · rw [cd_t h2, decide_eq_true h2, check_J0t, chk, if_pos (show badR f from .inr (.inl h2))]
  rw [cd_f h2]
  by_cases h3 : f.2.1 ≥ 8
  · rw [cd_t h3, decide_eq_true h3, check_J0t, chk, if_pos (show badR f from .inr (.inr (.inl h3)))]
  rw [cd_f h3]
  by_cases h4 : f.2.2.1 < -1
  · rw [cd_t h4, decide_eq_true h4, check_J0t, chk, if_pos (show badR f from .inr (.inr (.inr (.inl h4))))]
  rw [cd_f h4]
  by_cases h5 : f.2.2.1 ≥ 12
  · rw [decide_eq_true h5, check_J0t, chk, if_pos (show badR f from .inr (.inr (.inr (.inr (.inl h5)))))]
  rw [decide_eq_false h5, facts_check.J0_eq, facts_check.SJ0, cond_false]
  by_cases h6 : f.2.1 = -1
  · rw [beq_iff_eq.2 h6, cond_true]
    by_cases h7 : f.2.2.1 = -1
    · rw [beq_iff_eq.2 h7, cond_true, check_J1t, chk, if_pos (show badR f from .inr (.inr (.inr (.inr (.inr (.inl ⟨h6, h7⟩))))))]
    · rw [beq_eq_false_iff_ne.2 h7, cond_false]
      exact check_rest f (fun h => by rcases h with h | h | h | h | h | h; exact h1 h; exact h2 h; exact h3 h; exact h4 h; exact h5 h; exact h7 h.2)
  · rw [beq_eq_false_iff_ne.2 h6, cond_false]
    exact check_rest f (fun h => by rcases h with h | h | h | h | h | h; exact h1 h; exact h2 h; exact h3 h; exact h4 h; exact h5 h; exact h6 h.1)
/-- An earlier fact has the same id. -/
def dupl (pre : List api_FactV) (f : api_FactV) : Prop := ∃ x ∈ pre, x.1 = f.1
instance (pre : List api_FactV) (f : api_FactV) : Decidable (dupl pre f) := by unfold dupl; infer_instance
/-- The code of a fact behind others. -/
def flt (pre : List api_FactV) (f : api_FactV) : Int := if chk f ≠ 0 then chk f else if dupl pre f then 7 else 0
theorem cf_L0 (f : api_FactV) : ∀ (rest pre : List api_FactV), (pre ++ rest).length ≤ 1000000 → ∃ r, slices_IndexFunc_api_Fact_api_Fact_facts_Validate_1.L0 (pre ++ rest) ((pre ++ rest).length : Int) (pre.length : Int) f = some (r, f, ()) ∧ (r ≥ 0 ↔ dupl rest f) := by
  intro rest
  induction rest with
  | nil =>
    intro pre h
    rw [slices_IndexFunc_api_Fact_api_Fact_facts_Validate_1.L0_eq, slices_IndexFunc_api_Fact_api_Fact_facts_Validate_1.SL0, cd_f (by simp)]
    exact ⟨_, rfl, by simp [dupl]⟩
  | cons x rest ih =>
    intro pre h
    have hl := len_mid pre x rest
    rw [slices_IndexFunc_api_Fact_api_Fact_facts_Validate_1.L0_eq, slices_IndexFunc_api_Fact_api_Fact_facts_Validate_1.SL0, cd_t (by rw [hl]; omega), idx_mid, bind_some']
    simp only [facts_Validate_1, facts_Validate_1.Se, bind_some']
    by_cases c : x.1 = f.1
    · rw [beq_iff_eq.2 c, cond_true]
      exact ⟨_, rfl, fun _ => ⟨x, List.mem_cons_self, c⟩, fun _ => by omega⟩
    · rw [beq_eq_false_iff_ne.2 c, cond_false, wrap_succ (by omega)]
      obtain ⟨r, h1, h2⟩ := ih (pre ++ [x]) (by rw [← mid_shift]; exact h)
      rw [len_snoc, ← mid_shift] at h1
      refine ⟨r, h1, h2.trans ⟨fun ⟨y, q1, q2⟩ => ⟨y, List.mem_cons_of_mem _ q1, q2⟩, fun ⟨y, q1, q2⟩ => ?_⟩⟩
      rcases List.mem_cons.1 q1 with e | e
      · subst e; exact absurd q2 c
      · exact ⟨y, e, q2⟩
theorem cf_val (l : List api_FactV) (f : api_FactV) (h : l.length ≤ 1000000) : slices_ContainsFunc_api_Fact_api_Fact_facts_Validate_1 l f = some (decide (dupl l f), f, ()) := by
  obtain ⟨r, h1, h2⟩ := cf_L0 f l [] (by simpa using h)
  have h1' : slices_IndexFunc_api_Fact_api_Fact_facts_Validate_1.L0 l (l.length : Int) 0 f = some (r, f, ()) := h1
  simp only [slices_ContainsFunc_api_Fact_api_Fact_facts_Validate_1, slices_ContainsFunc_api_Fact_api_Fact_facts_Validate_1.Se, slices_IndexFunc_api_Fact_api_Fact_facts_Validate_1, slices_IndexFunc_api_Fact_api_Fact_facts_Validate_1.Se, h1', bind_some']
  rw [show decide (r ≥ 0) = decide (dupl l f) from decide_eq_decide.2 h2]
theorem fault_L2 (l : List api_FactV) (i : Int) (f : api_FactV) : ∀ (rest pre tail : List api_FactV), l = pre ++ (rest ++ tail) → ((pre ++ rest).length : Int) = i → l.length ≤ 1000 →
    ref34_fault.L2 l i f (pre.length : Int) = some (if dupl rest f then 7 else 0, ()) := by
  intro rest
  induction rest with
  | nil =>
    intro pre tail e h hl
    rw [List.append_nil] at h
    rw [ref34_fault.L2_eq, ref34_fault.SL2, cd_f (by omega), if_neg (by simp [dupl])]
  | cons x rest ih =>
    intro pre tail e h hl
    have hi : (pre.length : Int) < i := by rw [← h]; simp; omega
    have hx : idx l (pre.length : Int) = some x := by rw [e, List.cons_append]; exact idx_mid _ _ _
    have hpl : pre.length ≤ 1000 := by rw [e] at hl; simp at hl; omega
    rw [ref34_fault.L2_eq, ref34_fault.SL2, cd_t hi, hx, bind_some']
    by_cases c : x.1 = f.1
    · rw [beq_iff_eq.2 c, cond_true, if_pos (show dupl (x :: rest) f from ⟨x, List.mem_cons_self, c⟩)]
    · rw [beq_eq_false_iff_ne.2 c, cond_false, wrap_succ (by omega)]
      have := ih (pre ++ [x]) tail (by rw [e]; simp) (by rw [← h]; simp) hl
      rw [len_snoc] at this
      rw [this]
      have : dupl (x :: rest) f ↔ dupl rest f := ⟨fun ⟨y, q1, q2⟩ => by
        rcases List.mem_cons.1 q1 with e | e
        · subst e; exact absurd q2 c
        · exact ⟨y, e, q2⟩, fun ⟨y, q1, q2⟩ => ⟨y, List.mem_cons_of_mem _ q1, q2⟩⟩
      simp only [this]
theorem fault_J0 (pre rest : List api_FactV) (f : api_FactV) (hl : (pre ++ f :: rest).length ≤ 1000) : ref34_fault.J0 (pre ++ f :: rest) (pre.length : Int) f = some (if badT f then 8 else if dupl pre f then 7 else 0, ()) := by
  have l2 := fault_L2 (pre ++ f :: rest) (pre.length : Int) f pre [] (f :: rest) rfl (by simp) hl
  have l2' : ref34_fault.L2 (pre ++ f :: rest) (pre.length : Int) f 0 = _ := l2
  rw [ref34_fault.J0_eq, ref34_fault.SJ0]
  by_cases h1 : f.2.2.2.1.1 < 1
  · rw [cd_t h1, if_pos (show badT f from .inl h1)]
  rw [cd_f h1]
  by_cases h2 : f.2.2.2.1.1 > 6
  · rw [cd_t h2, if_pos (show badT f from .inr (.inl h2))]
  rw [cd_f h2]
  by_cases h3 : f.2.2.1 = -1
  · rw [beq_iff_eq.2 h3, cond_true]
    by_cases h4 : f.2.2.2.1.1 = 1
    · rw [show (f.2.2.2.1.1 != 1) = false by simp [h4], cond_false, ref34_fault.J1_eq, ref34_fault.SJ1, l2', if_neg (show ¬ badT f from fun h => by rcases h with h | h | h; exact h1 h; exact h2 h; exact h.2 h4)]
    · rw [show (f.2.2.2.1.1 != 1) = true by simp [h4], cond_true, if_pos (show badT f from .inr (.inr ⟨h3, h4⟩))]
  · rw [beq_eq_false_iff_ne.2 h3, cond_false, ref34_fault.J1_eq, ref34_fault.SJ1, l2', if_neg (show ¬ badT f from fun h => by rcases h with h | h | h; exact h1 h; exact h2 h; exact h3 h.1)]
theorem fault_rest (pre rest : List api_FactV) (f : api_FactV) (hl : (pre ++ f :: rest).length ≤ 1000) (hn : ¬ (f.1 < 0 ∨ f.2.1 < -1 ∨ f.2.1 ≥ 8 ∨ f.2.2.1 < -1 ∨ f.2.2.1 ≥ 12 ∨ (f.2.1 = -1 ∧ f.2.2.1 = -1))) :
    (Option.bind (ref34_nonempty f.2.2.2.2.1) fun x2 =>
                cond (!x2.1)
                  (some (3, ()))
                  (cond (decide (f.2.2.2.2.2.1 < 0))
                    (some (3, ()))
                    (cond (decide (f.2.2.2.2.2.1 > 109572))
                      (some (3, ()))
                      (ref34_fault.J0 (pre ++ f :: rest) (pre.length : Int) f)))) = some (flt pre f, ()) := by
  rw [nonempty_val, bind_some', fault_J0 pre rest f hl]
  dsimp only
  have three : badR f → (some (3, ()) : Option (Int × Unit)) = some (flt pre f, ()) := fun h => by
    have : chk f = 3 := if_pos h
    rw [flt, this, if_pos (by omega)]
  cases hp : prp f.2.2.2.2.1 with
  | false =>
    rw [Bool.not_false, cond_true]
    exact three (.inr (.inr (.inr (.inr (.inr (.inr (.inl hp)))))))
  | true =>
    rw [Bool.not_true, cond_false]
    by_cases h1 : f.2.2.2.2.2.1 < 0
    · rw [cd_t h1]; exact three (.inr (.inr (.inr (.inr (.inr (.inr (.inr (.inl h1))))))))
    rw [cd_f h1]
    by_cases h2 : f.2.2.2.2.2.1 > 109572
    · rw [cd_t h2]; exact three (.inr (.inr (.inr (.inr (.inr (.inr (.inr (.inr h2))))))))
    rw [cd_f h2]
    have nb : ¬ badR f := fun h => by
      rcases h with h | h | h | h | h | h | h | h | h
      · exact hn (.inl h)
      · exact hn (.inr (.inl h))
      · exact hn (.inr (.inr (.inl h)))
      · exact hn (.inr (.inr (.inr (.inl h))))
      · exact hn (.inr (.inr (.inr (.inr (.inl h)))))
      · exact hn (.inr (.inr (.inr (.inr (.inr h)))))
      · rw [show fran f = f.2.2.2.2.1 from rfl, hp] at h; cases h
      · exact h1 h
      · exact h2 h
    rw [flt, chk, if_neg nb]
    by_cases hb : badT f <;> simp [hb]
theorem fault_val (pre rest : List api_FactV) (f : api_FactV) (hl : (pre ++ f :: rest).length ≤ 1000) : ref34_fault (pre ++ f :: rest) (pre.length : Int) = some (flt pre f, ()) := by
  simp only [ref34_fault, ref34_fault.Se]
  rw [idx_mid, bind_some']
  have three : badR f → (some (3, ()) : Option (Int × Unit)) = some (flt pre f, ()) := fun h => by
    have : chk f = 3 := if_pos h
    rw [flt, this, if_pos (by omega)]
  by_cases h1 : f.1 < 0
  · rw [cd_t h1]; exact three (.inl h1)
  rw [cd_f h1]
  by_cases h2 : f.2.1 < -1
  · rw [cd_t h2]; exact three (.inr (.inl h2))
  rw [cd_f h2]
  by_cases h3 : f.2.1 > 7
  · rw [cd_t h3]; exact three (.inr (.inr (.inl (by omega))))
  rw [cd_f h3]
  by_cases h4 : f.2.2.1 < -1
  · rw [cd_t h4]; exact three (.inr (.inr (.inr (.inl h4))))
  rw [cd_f h4]
  by_cases h5 : f.2.2.1 > 11
  · rw [cd_t h5]; exact three (.inr (.inr (.inr (.inr (.inl (by omega))))))
  rw [cd_f h5]
  by_cases h6 : f.2.1 = -1
  · rw [beq_iff_eq.2 h6, cond_true]
    by_cases h7 : f.2.2.1 = -1
    · rw [beq_iff_eq.2 h7, cond_true]; exact three (.inr (.inr (.inr (.inr (.inr (.inl ⟨h6, h7⟩))))))
    · rw [beq_eq_false_iff_ne.2 h7, cond_false]
      exact fault_rest pre rest f hl (fun h => by rcases h with h | h | h | h | h | h; exact h1 h; exact h2 h; omega; exact h4 h; omega; exact h7 h.2)
  · rw [beq_eq_false_iff_ne.2 h6, cond_false]
    exact fault_rest pre rest f hl (fun h => by rcases h with h | h | h | h | h | h; exact h1 h; exact h2 h; omega; exact h4 h; omega; exact h6 h.1)
theorem validate_L0 : ∀ (rest pre : List api_FactV), (pre ++ rest).length ≤ 1000 → ∃ a e, facts_Validate.L0 (pre ++ rest) (pre ++ rest) ((pre ++ rest).length : Int) (pre.length : Int) = some (a, e, ()) ∧ ref34_Validate.L0 (pre ++ rest) (pre.length : Int) = some (a, e, ()) := by
  intro rest
  induction rest with
  | nil =>
    intro pre h
    rw [facts_Validate.L0_eq, facts_Validate.SL0, cd_f (by simp), ref34_Validate.L0_eq, ref34_Validate.SL0, cd_f (by simp)]
    exact ⟨0, 0, rfl, rfl⟩
  | cons f rest ih =>
    intro pre h
    have hl := len_mid pre f rest
    rw [facts_Validate.L0_eq, facts_Validate.SL0, cd_t (by rw [hl]; omega), idx_mid, bind_some', check_val, bind_some', ref34_Validate.L0_eq, ref34_Validate.SL0, cd_t (by rw [hl]; omega), fault_val pre rest f h, bind_some']
    dsimp only
    by_cases c : chk f = 0
    · have tk : (pre ++ f :: rest).take pre.length = pre := by simp
      rw [show (chk f != 0) = false by simp [c], cond_false, cd_3 (by omega) (by omega) (by rw [hl]; omega), Int.toNat_natCast, tk, cf_val _ _ (by rw [hl] at h; omega), bind_some', flt, if_neg (by simp [c])]
      by_cases d : dupl pre f
      · rw [decide_eq_true d, cond_true, if_pos d, show ((7 : Int) != 0) = true from rfl, cond_true]
        exact ⟨_, _, rfl, rfl⟩
      · rw [decide_eq_false d, cond_false, if_neg d, show ((0 : Int) != 0) = false from rfl, cond_false, wrap_succ (by rw [hl] at h; omega)]
        have := ih (pre ++ [f]) (by rw [← mid_shift]; exact h)
        rw [len_snoc, ← mid_shift] at this
        exact this
    · rw [show (chk f != 0) = true by simp [c], cond_true, flt, if_pos c, show (chk f != 0) = true by simp [c], cond_true]
      exact ⟨_, _, rfl, rfl⟩
theorem factsValidate_true (hA : law34_awake = some (true, ())) (l : List api_FactV) : law34_FactsValidate l = some (true, ()) := by
  simp only [law34_FactsValidate, law34_FactsValidate.Se]
  by_cases h : (l.length : Int) > 200
  · rw [cd_t h, hA, bind_some']
  rw [cd_f h]
  simp only [facts_Validate, facts_Validate.Se, ref34_Validate, ref34_Validate.Se]
  by_cases h2 : (l.length : Int) > 128
  · rw [cd_t h2, cd_t h2, bind_some', bind_some']
    simp only [beq_self_eq_true, cond_true, hA, bind_some']
  · rw [cd_f h2, cd_f h2]
    obtain ⟨a, e, e1, e2⟩ := validate_L0 l [] (by simp; omega)
    have e1' : facts_Validate.L0 l l (l.length : Int) 0 = _ := e1
    have e2' : ref34_Validate.L0 l 0 = _ := e2
    rw [e1', e2', bind_some', bind_some']
    simp only [beq_self_eq_true, cond_true, hA, bind_some']
end Go.Proofs.Ytmmimgjakoacaaa
