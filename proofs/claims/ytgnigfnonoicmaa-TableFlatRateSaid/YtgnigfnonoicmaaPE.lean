import Derived.Test.YtgnigfnonoicmaaPBR
set_option maxRecDepth 100000
set_option linter.unusedVariables false
set_option linter.unusedSimpArgs false
namespace Go.Proofs.Ytgnigfnonoicmaa
open Go Go.Lift
theorem schedule1 (r : api_RowV) : law12_schedule [r] = some (([], (3, 0, ()), (4, 0, ()), [((0, 109573, ()), r.2.1, r.2.2.1, r.2.2.2.1, ())], ()), ()) := by
  simp only [law12_schedule, law12_schedule.Se]
  rw [law12_schedule.L0_eq, law12_schedule.SL0]
  have w : IntKind.i64.wrap (0 + 1) = 1 := by decide
  simp only [w, List.length_cons, List.length_nil]
  rw [cd_t (by decide)]
  have : (decide ((0 : Int) ≤ 0) && decide ((0 : Int) < ((0 + 1 : Nat) : Int))) = true := by decide
  rw [this, cond_true, law12_schedule.L0_eq, law12_schedule.SL0]
  rw [cd_f (by simp)]
  rfl
theorem flat_key {c rate : Int} (m : Int) (hc : 0 ≤ c) (r0 : -1000000000 ≤ rate) (r1 : rate ≤ 1000000000) :
    brk ([], (3, 0, ()), (4, 0, ()), [((0, 109573, ()), 0, 1000000000000001, rate, ())], ()) 45000 c m = mulDiv c rate 1000000 m := by
  unfold brk mulDiv
  by_cases hm' : ¬ (0 ≤ m ∧ m ≤ 5)
  · rw [if_pos hm', if_pos hm']
  have hm : 0 ≤ m ∧ m ≤ 5 := Classical.not_not.1 hm'
  rw [if_neg hm', if_neg hm', if_neg (show ¬ (1000000 : Int) = 0 by omega)]
  have e1 : eqTy (.pair (.int .i64) (.pair (.int .i64) .unit)) (3, 0, ()) (3, 0, ()) = true := rfl
  have e2 : eqTy (.pair (.int .i64) (.pair (.int .i64) .unit)) (4, 0, ()) (4, 0, ()) = true := rfl
  rw [if_neg (by rintro (h | h); · exact absurd (e1.symm.trans h) (by decide)
                 · exact absurd (e2.symm.trans h) (by decide))]
  by_cases h : 1000000000000000 < (c.natAbs : Int)
  · rw [if_pos h, if_pos (.inl h)]
  rw [if_neg h, if_neg (show ¬ (1000000000000000 < (c.natAbs : Int) ∨ 1000000000 < (rate.natAbs : Int) ∨ 1000000000 < (((1000000 : Int).natAbs : Nat) : Int)) by omega)]
  have hi : inD ((0, 109573, ()) : api_DateRangeV) 45000 = true := by decide
  have hp : prt ((0, 109573, ()), 0, 1000000000000001, rate, ()) c = c := by
    unfold prt
    simp only
    split <;> omega
  simp only [wk, hi, cond_true, hp]
  have hcn : (c.natAbs : Int) = c := by omega
  have hM : (((1000000 : Int).natAbs : Nat) : Int) = 1000000 := rfl
  rw [hcn, hM, decide_eq_false (show ¬ c < 0 by omega), decide_eq_false (show ¬ (1000000 : Int) < 0 by omega)]
  have p0 : 0 ≤ c * (rate.natAbs : Int) := Int.mul_nonneg hc (by omega)
  by_cases g : 1000000000000000 < c * rate.natAbs / 1000000
  · have : (contr c rate).2.2.1 = false := by
      cases hk : (contr c rate).2.2.1 with
      | false => rfl
      | true => have := contr_ok.1 hk; omega
    rw [this]
    simp only [cond_false, res12]
    rw [if_pos (by split <;> omega)]
  · have hk : (contr c rate).2.2.1 = true := contr_ok.2 (by omega)
    rw [hk]
    simp only [cond_true, res12, Int.zero_add]
    rw [contr_sum hc hk, fin12]
    by_cases hr : rate < 0
    · have e : c * rate = -(c * rate.natAbs / 1000000 * 1000000 + c * rate.natAbs % 1000000) := by
        have : c * rate = -(c * rate.natAbs) := by
          have : rate = -(rate.natAbs : Int) := by omega
          rw [← Int.mul_neg, ← this]
        rw [this]; omega
      rw [e, divR_neg' m (by omega) (by omega) (by omega), decide_eq_true hr]
      generalize c * rate.natAbs = p at p0 g ⊢
      simp only [show (!((!(false == true)) == false)) = true from rfl, sgn, if_true]
      generalize hQ : (if up (p / 1000000) (p % 1000000) 1000000 true m = true then p / 1000000 + 1 else p / 1000000) = Q
      have hQ0 : 0 ≤ Q := by rw [← hQ]; split <;> omega
      by_cases hq : 1000000000000000 < Q
      · rw [if_pos (by omega), if_pos hq]
      · rw [if_neg (by omega), if_neg hq]
    · have e : c * rate = (c * rate.natAbs / 1000000 * 1000000 + c * rate.natAbs % 1000000) := by
        have : (rate.natAbs : Int) = rate := by omega
        rw [this]; omega
      rw [e, divR_pos m (by omega) (by omega) (by omega), decide_eq_false hr]
      generalize c * rate.natAbs = p at p0 g ⊢
      simp only [show (!((!(false == false)) == false)) = false from rfl, sgn, Bool.false_eq_true, if_false]
      generalize hQ : (if up (p / 1000000) (p % 1000000) 1000000 false m = true then p / 1000000 + 1 else p / 1000000) = Q
      have hQ0 : 0 ≤ Q := by rw [← hQ]; split <;> omega
      by_cases hq : 1000000000000000 < Q
      · rw [if_pos (by omega), if_pos hq]
      · rw [if_neg (by omega), if_neg hq]
theorem tableFlatRate_true (aw : law12_awake = some (true, ())) {c rate m : Int} (oc : Ty.okv (.int .i64) c) (orr : Ty.okv (.int .i64) rate) : law12_TableFlatRate c rate m = some (true, ()) := by
  rw [okv_i64] at oc orr
  simp only [law12_TableFlatRate, law12_TableFlatRate.Se, aw, bind_some']
  by_cases h1 : c < 0
  · rw [cd_t h1]
  by_cases h2 : rate > 1000000000
  · rw [cd_f h1, cd_t h2]
  by_cases h3 : rate < -1000000000
  · rw [cd_f h1, cd_f h2, cd_t h3]
  rw [cd_f h1, cd_f h2, cd_f h3, law12_TableFlatRate.J0_eq, law12_TableFlatRate.SJ0, schedule1]
  simp only [bind_some']
  rw [brackets_val _ _ _ (by intro x hx; rw [List.mem_singleton] at hx; subst hx; exact ⟨orr.1, orr.2⟩) (by simp), money_MulDiv_val m oc.1 oc.2 orr.1 orr.2 (by omega) (by omega), flat_key m (by omega) (by omega) (by omega)]
  simp only [bind_some', aw, beq_self_eq_true, cond_true]
end Go.Proofs.Ytgnigfnonoicmaa
