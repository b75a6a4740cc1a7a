/- Plain laws of the lifted functions. -/
import Derived.Test.YtkhmefingpocpaaPM1
set_option maxRecDepth 100000
set_option linter.unusedVariables false
set_option linter.unusedSimpArgs false
namespace Go.Proofs.Ytkhmefingpocpaa
open Go Go.Lift

theorem sgn_natAbs (neg : Bool) {x : Int} (hx : 0 ≤ x) : ((sgn neg x).natAbs : Int) = x := by
  unfold sgn
  split <;> omega

theorem divR_bound {c u : Int} (m : Int) (hu : 0 < u) : ((divR c u m * u).natAbs : Int) ≤ c.natAbs + u ∧ ((divR c u m).natAbs : Int) ≤ c.natAbs + 1 := by
  have hb : (u.natAbs : Int) = u := by omega
  unfold divR
  rw [hb]
  simp only
  have k1 : 0 ≤ (c.natAbs : Int) / u := Int.ediv_nonneg (by omega) (by omega)
  have k2 : (c.natAbs : Int) / u * u ≤ c.natAbs := Int.ediv_mul_le _ (by omega)
  have k3 : (c.natAbs : Int) / u ≤ c.natAbs := Int.ediv_le_self _ (by omega)
  rw [Int.natAbs_mul, Int.natCast_mul, hb, sgn_natAbs _ (by split <;> omega)]
  split
  · rw [Int.add_mul]
    omega
  · omega

def roundTo (c u m : Int) : Int × Int × Unit :=
  if ¬ (0 ≤ m ∧ m ≤ 5) then (0, 1, ()) else if u < 1 then (0, 12, ()) else if 1000000000000000 < (c.natAbs : Int) ∨ 1000000000000000 < u then (0, 3, ()) else
  if 1000000000000000 < ((divR c u m * u).natAbs : Int) then (0, 3, ()) else (divR c u m * u, 0, ())

theorem money_RoundTo_val {c u : Int} (m : Int) (h1 : -9223372036854775808 ≤ c) (h2 : c ≤ 9223372036854775807) (h3 : -9223372036854775808 ≤ u) (h4 : u ≤ 9223372036854775807) :
    money_RoundTo c u m = some (roundTo c u m) := by
  simp only [money_RoundTo, money_RoundTo.Se, money_RoundTo.J0_eq, money_RoundTo.SJ0, money_mode_val, money_abs_val h1 h2, money_DivRound_val m h1 h2 h3 h4, Option.bind_some, cond_true, cond_false, Bool.and_true, Bool.true_and, Bool.and_false, Bool.false_and, Bool.and_self, Bool.not_true, Bool.not_false, roundTo, Bool.cond_eq_ite, beq_iff_eq, bne_iff_ne, ne_eq, decide_eq_true_eq, Bool.not_eq_true', decide_eq_false_iff_not, Bool.and_eq_true, Bool.or_eq_true]
  split
  · rfl
  · split
    · rfl
    · split
      · rw [if_pos (by omega)]
      · split
        · rw [if_pos (by omega)]
        · rename_i g1 g2 g3 g4
          rw [if_neg (show ¬ (1000000000000000 < (c.natAbs : Int) ∨ 1000000000000000 < u) by omega)]
          have hd : divRound c u m = (divR c u m, 0, ()) := by
            unfold divRound
            rw [if_neg (by simpa using g1), if_neg (by omega), if_neg (by omega)]
          obtain ⟨k1, k2⟩ := divR_bound (c := c) (u := u) m (by omega)
          rw [hd]
          simp only [not_true_eq_false, if_false]
          rw [wrap64 (n := divR c u m * u) (by omega) (by omega), money_abs_val (by omega) (by omega)]
          simp only [Option.bind_some, gt_iff_lt]
          split <;> rfl

theorem ref02_RoundTo_val {c u : Int} (m : Int) (h1 : -9223372036854775808 ≤ c) (h2 : c ≤ 9223372036854775807) (h3 : -9223372036854775808 ≤ u) (h4 : u ≤ 9223372036854775807) :
    ref02_RoundTo c u m = some (roundTo c u m) := by
  simp only [ref02_RoundTo, ref02_RoundTo.Se, ref02_RoundTo.J0_eq, ref02_RoundTo.SJ0, ref02_Mode_val, ref02_Beyond_val (n := c) (b := 1000000000000000) (by omega) (by omega), Option.bind_some, cond_true, cond_false, Bool.and_true, Bool.true_and, Bool.and_false, Bool.false_and, Bool.and_self, Bool.not_true, Bool.not_false, roundTo, Bool.cond_eq_ite, beq_iff_eq, bne_iff_ne, ne_eq, decide_eq_true_eq, Bool.not_eq_true', decide_eq_false_iff_not, Bool.and_eq_true, Bool.or_eq_true]
  split
  · rfl
  · split
    · rfl
    · split
      · rw [if_pos (by omega)]
      · split
        · rw [if_pos (by omega)]
        · rename_i g1 g2 g3 g4
          rw [if_neg (show ¬ (1000000000000000 < (c.natAbs : Int) ∨ 1000000000000000 < u) by omega), ref02_Abs_val (by omega) (by omega)]
          simp only [Option.bind_some]
          obtain ⟨d1, d2, d3, d4, d5⟩ := div_facts c u (by omega) (by omega) (by omega)
          have hb : (u.natAbs : Int) = u := by omega
          rw [hb] at d1 d2 d3 d4
          rw [if_neg (by omega), if_neg (by omega), IntWalk.i64_quo _ _ ⟨by omega, by omega, by omega⟩, tmod_pos (by omega), ref02_Rounded_val _ _ d1 (by omega) d3 d4 (by omega)]
          simp only [Option.bind_some]
          have hd : sgn (decide (c < 0)) (if up ((c.natAbs : Int) / u) ((c.natAbs : Int) % u) u (decide (c < 0)) m then (c.natAbs : Int) / u + 1 else (c.natAbs : Int) / u) = divR c u m := by
            unfold divR
            rw [hb, show decide (u < 0) = false from decide_eq_false (by omega)]
            cases decide (c < 0) <;> rfl
          obtain ⟨k1, k2⟩ := divR_bound (c := c) (u := u) m (by omega)
          rw [hd, wrap64 (n := divR c u m * u) (by omega) (by omega), ref02_Beyond_val (by omega) (by omega)]
          simp only [Option.bind_some, decide_eq_true_eq]
          split <;> rfl

theorem up_zero (q d : Int) (neg : Bool) (m : Int) (hd : 0 < d) : up q 0 d neg m = false := by
  unfold up
  repeat' split
  all_goals first | rfl | simp
  all_goals omega

theorem divR_mul {k u : Int} (m : Int) (hu : 0 < u) : divR (k * u) u m = k := by
  have hb : (u.natAbs : Int) = u := by omega
  unfold divR
  simp only
  rw [Int.natAbs_mul, Int.natCast_mul, hb, Int.mul_emod_left, Int.mul_ediv_cancel _ (by omega), up_zero _ _ _ _ hu, show decide (u < 0) = false from decide_eq_false (by omega)]
  simp only [Bool.false_eq_true, if_false]
  unfold sgn
  by_cases hk : k < 0
  · have : k * u < 0 := Int.mul_neg_of_neg_of_pos hk hu
    simp [this]
    omega
  · have : ¬ k * u < 0 := by
      have := Int.mul_nonneg (show 0 ≤ k by omega) (show 0 ≤ u by omega)
      omega
    simp [this]
    omega

theorem roundTo_again {c u m v : Int} (h : roundTo c u m = (v, 0, ())) : roundTo v u m = (v, 0, ()) := by
  unfold roundTo at h
  split at h
  · simp at h
  · split at h
    · simp at h
    · split at h
      · simp at h
      · split at h
        · simp at h
        · rename_i g1 g2 g3 g4
          have e : divR c u m * u = v := by simpa using h
          rw [e] at g4
          have e2 : divR v u m = divR c u m := by rw [← e]; exact divR_mul m (by omega)
          unfold roundTo
          rw [if_neg g1, if_neg g2, if_neg (by omega), e2, e, if_neg g4]

theorem moneyRoundTo_true (awake : law02_awake = some (true, ())) {c u m : Int} (hc : Ty.okv (.int .i64) c) (hu : Ty.okv (.int .i64) u) : law02_MoneyRoundTo c u m = some (true, ()) := by
  rw [okv_i64] at hc hu
  have hr : -9223372036854775808 ≤ (roundTo c u m).1 ∧ (roundTo c u m).1 ≤ 9223372036854775807 := by
    unfold roundTo
    repeat' split
    all_goals simp only
    all_goals omega
  simp only [law02_MoneyRoundTo, law02_MoneyRoundTo.Se, law02_MoneyRoundTo.J0_eq, law02_MoneyRoundTo.SJ0, money_RoundTo_val m hc.1 hc.2 hu.1 hu.2, ref02_RoundTo_val m hc.1 hc.2 hu.1 hu.2, money_RoundTo_val m hr.1 hr.2 hu.1 hu.2, awake, Option.bind_some, bne_self_eq_false, cond_false]
  by_cases he : (roundTo c u m).2.1 = 0
  · have := roundTo_again (c := c) (u := u) (m := m) (v := (roundTo c u m).1) (by
      rcases h : roundTo c u m with ⟨v, e, z⟩
      rw [h] at he
      simp only at he
      rw [he])
    rw [this, he]
    simp
  · rw [show ((roundTo c u m).2.1 != 0) = true from bne_iff_ne.2 he]
    rfl

/-! ### Sum -/

def sumR : List Int → Int → Int × Int × Unit
  | [], n => (n, 0, ())
  | x :: l, n => if 1000000000000000 < (x.natAbs : Int) ∨ 1000000000000000 < ((n + x).natAbs : Int) then (0, 3, ()) else sumR l (n + x)

theorem money_Sum_loop {l : List Int} (hl : l.length ≤ 400) (hx : ∀ x ∈ l, -9223372036854775808 ≤ x ∧ x ≤ 9223372036854775807) : ∀ (d i : Nat) (n : Int), i + d = l.length → (n.natAbs : Int) ≤ 1000000000000000 →
    money_Sum.L0 n l l.length i = some (sumR (l.drop i) n) := by
  intro d
  induction d with
  | zero =>
    intro i n hi hn
    rw [money_Sum.L0_eq, money_Sum.SL0, decide_eq_false (by omega), List.drop_of_length_le (by omega)]
    rfl
  | succ d ih =>
    intro i n hi hn
    have h1 : i < l.length := by omega
    obtain ⟨x1, x2⟩ := hx l[i] (List.getElem_mem h1)
    rw [money_Sum.L0_eq, money_Sum.SL0, decide_eq_true (by omega), cond_true, idx_nat, List.getElem?_eq_getElem h1, List.drop_eq_getElem_cons h1, Option.bind_some, money_abs_val x1 x2, Option.bind_some, sumR]
    simp only [Bool.cond_eq_ite, beq_iff_eq, bne_iff_ne, ne_eq, decide_eq_true_eq, Bool.not_eq_true', decide_eq_false_iff_not, Bool.and_eq_true, Bool.or_eq_true, gt_iff_lt]
    by_cases g1 : 1000000000000000 < (l[i].natAbs : Int)
    · rw [if_pos g1, if_pos (.inl g1)]
    · rw [if_neg g1, wrap64 (n := n + l[i]) (by omega) (by omega), money_abs_val (by omega) (by omega), Option.bind_some]
      by_cases g2 : 1000000000000000 < ((n + l[i]).natAbs : Int)
      · rw [if_pos g2, if_pos (.inr g2)]
      · rw [if_neg g2, if_neg (by omega), wrap_succ (by omega), ih (i + 1) _ (by omega) (by omega)]

theorem ref02_Sum_loop {l : List Int} (hl : l.length ≤ 400) (hx : ∀ x ∈ l, -9223372036854775808 ≤ x ∧ x ≤ 9223372036854775807) : ∀ (d i : Nat) (n : Int), i + d = l.length → (n.natAbs : Int) ≤ 1000000000000000 →
    ref02_Sum.L0 l n i = some (sumR (l.drop i) n) := by
  intro d
  induction d with
  | zero =>
    intro i n hi hn
    rw [ref02_Sum.L0_eq, ref02_Sum.SL0, decide_eq_false (by omega), List.drop_of_length_le (by omega)]
    rfl
  | succ d ih =>
    intro i n hi hn
    have h1 : i < l.length := by omega
    obtain ⟨x1, x2⟩ := hx l[i] (List.getElem_mem h1)
    rw [ref02_Sum.L0_eq, ref02_Sum.SL0, decide_eq_true (by omega), cond_true, idx_nat, List.getElem?_eq_getElem h1, List.drop_eq_getElem_cons h1]
    simp only [Option.bind_some]
    rw [ref02_Beyond_val (by omega) (by omega), Option.bind_some, sumR]
    simp only [Bool.cond_eq_ite, beq_iff_eq, bne_iff_ne, ne_eq, decide_eq_true_eq, Bool.not_eq_true', decide_eq_false_iff_not, Bool.and_eq_true, Bool.or_eq_true]
    by_cases g1 : 1000000000000000 < (l[i].natAbs : Int)
    · rw [if_pos g1, if_pos (.inl g1)]
    · rw [if_neg g1, wrap64 (n := n + l[i]) (by omega) (by omega), ref02_Beyond_val (by omega) (by omega), Option.bind_some]
      simp only [decide_eq_true_eq]
      by_cases g2 : 1000000000000000 < ((n + l[i]).natAbs : Int)
      · rw [if_pos g2, if_pos (.inr g2)]
      · rw [if_neg g2, if_neg (by omega), wrap_succ (by omega), ih (i + 1) _ (by omega) (by omega)]

theorem money_Sum_val {l : List Int} (hl : l.length ≤ 400) (hx : ∀ x ∈ l, -9223372036854775808 ≤ x ∧ x ≤ 9223372036854775807) : money_Sum l = some (sumR l 0) := by
  simp only [money_Sum, money_Sum.Se]
  exact money_Sum_loop hl hx l.length 0 0 (by omega) (by decide)

theorem ref02_Sum_val {l : List Int} (hl : l.length ≤ 400) (hx : ∀ x ∈ l, -9223372036854775808 ≤ x ∧ x ≤ 9223372036854775807) : ref02_Sum l = some (sumR l 0) := by
  simp only [ref02_Sum, ref02_Sum.Se]
  exact ref02_Sum_loop hl hx l.length 0 0 (by omega) (by decide)

theorem sumR_err : ∀ (l : List Int) (n : Int), ((sumR l n).2.1 = 0 ∧ ((n.natAbs : Int) ≤ 1000000000000000 → ((sumR l n).1.natAbs : Int) ≤ 1000000000000000)) ∨ (sumR l n = (0, 3, ())) := by
  intro l
  induction l with
  | nil => intro n; exact .inl ⟨rfl, fun h => h⟩
  | cons x l ih =>
    intro n
    simp only [sumR]
    split
    · exact .inr rfl
    · rename_i h
      rcases ih (n + x) with ⟨h1, h2⟩ | h
      · exact .inl ⟨h1, fun _ => h2 (by omega)⟩
      · exact .inr h

theorem sumR_append : ∀ (l : List Int) (n y : Int), sumR (l ++ [y]) n = if (sumR l n).2.1 = 0 then sumR [y] (sumR l n).1 else sumR l n := by
  intro l
  induction l with
  | nil => intro n y; exact (if_pos (rfl : (sumR [] n).2.1 = 0)).symm
  | cons x l ih =>
    intro n y
    simp only [List.cons_append, sumR]
    split
    · simp
    · rw [ih]; simp only [sumR]

theorem moneySum_true (awake : law02_awake = some (true, ())) {l : List Int} {n : Int} (hl : Ty.okv (.sl (.int .i64)) l) (hn : Ty.okv (.int .i64) n) : law02_MoneySum l n = some (true, ()) := by
  have hx : ∀ x ∈ l, -9223372036854775808 ≤ x ∧ x ≤ 9223372036854775807 := fun x h => okv_i64.1 (hl.2 x h)
  rw [okv_i64] at hn
  simp only [law02_MoneySum, law02_MoneySum.Se, law02_MoneySum.J0_eq, law02_MoneySum.SJ0, awake]
  by_cases hlen : (l.length : Int) > 300
  · rw [decide_eq_true hlen]; rfl
  · rw [decide_eq_false hlen, cond_false, money_Sum_val (by omega) hx, ref02_Sum_val (by omega) hx]
    have hx' : ∀ x ∈ l ++ [n], -9223372036854775808 ≤ x ∧ x ≤ 9223372036854775807 := by
      intro x h
      rcases List.mem_append.1 h with h | h
      · exact hx x h
      · rw [List.mem_singleton] at h; rw [h]; exact hn
    simp only [Option.bind_some, bne_self_eq_false, cond_false]
    rw [money_Sum_val (by simp; omega) hx', room_eq, decide_eq_true (by omega), decide_eq_true (show (l.length + 1) * 8 ≤ 140737488355328 by omega), show decide (0 < Ty.nc (.int .i64)) = true from rfl]
    simp only [Bool.and_self, cond_true, Option.bind_some, sumR_append]
    rcases sumR_err l 0 with ⟨h1, h2⟩ | h1
    · have h3 := h2 (by decide)
      rw [if_pos h1, h1]
      simp only [sumR]
      split
      · rfl
      · rw [wrap64 (by omega) (by omega)]
        simp
    · rw [h1]
      rfl

/-! ### The order of the modes -/

theorem divR_neg {n d : Int} (m : Int) (hn : n ≠ 0) : divR (-n) d m = 
    -(sgn (!((decide (n < 0)) == (decide (d < 0)))) (if up ((n.natAbs : Int) / d.natAbs) ((n.natAbs : Int) % d.natAbs) d.natAbs (((decide (n < 0)) == (decide (d < 0)))) m then (n.natAbs : Int) / d.natAbs + 1 else (n.natAbs : Int) / d.natAbs)) := by
  unfold divR sgn
  simp only [Int.natAbs_neg]
  have h1 : decide (-n < 0) = !decide (n < 0) := by
    rw [← decide_not, decide_eq_decide]
    omega
  rw [h1]
  cases decide (n < 0) <;> cases decide (d < 0) <;> simp

theorem divR_key {n d : Int} (h0 : d ≠ 0) (hn : (n.natAbs : Int) ≤ 4611686018427387904) (h2 : (d.natAbs : Int) ≤ 4611686018427387904) :
    divR n d 0 ≤ divR n d 1 ∧ divR n d 1 - divR n d 0 ≤ 1 ∧ (divR n d 1 = divR n d 0 ↔ (n.natAbs : Int) % d.natAbs = 0) ∧ ((divR n d 0).natAbs : Int) ≤ 4611686018427387905 ∧ ((divR n d 1).natAbs : Int) ≤ 4611686018427387905 ∧
      (∀ m : Int, 0 ≤ m → m ≤ 5 → divR n d 0 ≤ divR n d m ∧ divR n d m ≤ divR n d 1) ∧ divR (-n) d 0 = - divR n d 1 ∧ divR (-n) d 1 = - divR n d 0 ∧ (∀ m : Int, 2 ≤ m → m ≤ 5 → divR (-n) d m = - divR n d m) := by
  obtain ⟨k1, k2, k3, k4, k5⟩ := div_facts n d h0 hn h2
  by_cases hz : n = 0
  · subst hz
    have : ∀ m : Int, divR 0 d m = 0 := fun m => by
      unfold divR
      simp only [Int.natAbs_zero, Int.natCast_zero, Int.zero_ediv, Int.zero_emod]
      rw [up_zero _ _ _ _ k5]
      unfold sgn
      simp
    simp [this]
  · obtain ⟨q, hq⟩ : ∃ q, (n.natAbs : Int) / d.natAbs = q := ⟨_, rfl⟩
    obtain ⟨r, hr⟩ : ∃ r, (n.natAbs : Int) % d.natAbs = r := ⟨_, rfl⟩
    obtain ⟨b, hb⟩ : ∃ b : Int, (d.natAbs : Int) = b := ⟨_, rfl⟩
    obtain ⟨neg, hng⟩ : ∃ neg, (!((decide (n < 0)) == (decide (d < 0)))) = neg := ⟨_, rfl⟩
    have em : ∀ m, divR n d m = sgn neg (if up q r b neg m then q + 1 else q) := fun m => by rw [← hq, ← hr, ← hb, ← hng]; rfl
    have en : ∀ m, divR (-n) d m = -(sgn neg (if up q r b (!neg) m then q + 1 else q)) := fun m => by rw [divR_neg m hz, hq, hr, hb, hng, ← hng]; simp
    rw [hq] at k1 k2
    rw [hr, hb] at k4
    rw [hr] at k3
    rw [hr]
    have u0 : ∀ g : Bool, up q r b g 0 = (g && decide (0 < r)) := fun g => rfl
    have u1 : ∀ g : Bool, up q r b g 1 = (!g && decide (0 < r)) := fun g => rfl
    have um : ∀ (m : Int) (g g' : Bool), 2 ≤ m → up q r b g m = up q r b g' m := fun m g g' hm => by
      have a0 : ¬ m = 0 := by omega
      have a1 : ¬ m = 1 := by omega
      simp only [up, a0, a1, if_false]
    have u01 : ∀ (m : Int) (g : Bool), up q r b g m = true → 0 < r := fun m g hu => by
      unfold up at hu
      repeat' split at hu
      all_goals simp at hu
      all_goals omega
    have hcase : ∀ m : Int, 0 ≤ m → m ≤ 5 → up q r b neg m = true → 0 < r := fun m _ _ h => u01 m neg h
    simp only [em, en]
    refine ⟨?_, ?_, ?_, ?_, ?_, fun m g1 g2 => ?_, ?_, ?_, fun m g1 g2 => ?_⟩
    · rw [u0, u1]; unfold sgn; cases neg <;> by_cases g : 0 < r <;> simp [g] <;> omega
    · rw [u0, u1]; unfold sgn; cases neg <;> by_cases g : 0 < r <;> simp [g] <;> omega
    · rw [u0, u1]; unfold sgn; cases neg <;> by_cases g : 0 < r <;> simp [g] <;> omega
    · rw [u0]; unfold sgn; cases neg <;> by_cases g : 0 < r <;> simp [g] <;> omega
    · rw [u1]; unfold sgn; cases neg <;> by_cases g : 0 < r <;> simp [g] <;> omega
    · rw [u0, u1]
      have := hcase m g1 g2
      unfold sgn
      cases hu : up q r b neg m
      · cases neg <;> by_cases g : 0 < r <;> simp [g] <;> omega
      · have g := this hu
        cases neg
        all_goals simp only [g, decide_true, Bool.and_true, Bool.not_true, Bool.not_false, Bool.false_eq_true, if_true, if_false]
        all_goals omega
    · rw [u0, u1]
    · rw [u0, u1]; unfold sgn; cases neg <;> by_cases g : 0 < r <;> simp [g]
    · rw [um m (!neg) neg g1]

theorem moneyRoundingOrder_true (awake : law02_awake = some (true, ())) {n d : Int} (hn : Ty.okv (.int .i64) n) (hd : Ty.okv (.int .i64) d) : law02_MoneyRoundingOrder n d = some (true, ()) := by
  rw [okv_i64] at hn hd
  simp only [law02_MoneyRoundingOrder, law02_MoneyRoundingOrder.Se, law02_MoneyRoundingOrder.J0_eq, law02_MoneyRoundingOrder.SJ0, law02_MoneyRoundingOrder.J1_eq, law02_MoneyRoundingOrder.SJ1, law02_MoneyRoundingOrder.J3_eq, law02_MoneyRoundingOrder.SJ3, money_DivRound_val 0 hn.1 hn.2 hd.1 hd.2, money_DivRound_val 1 hn.1 hn.2 hd.1 hd.2, awake, Option.bind_some]
  by_cases h0 : d = 0
  · subst h0
    simp [divRound]
  by_cases h1 : 4611686018427387904 < (n.natAbs : Int) ∨ 4611686018427387904 < (d.natAbs : Int)
  · simp [divRound, h0, h1]
  have hdr : ∀ m : Int, 0 ≤ m → m ≤ 5 → divRound n d m = (divR n d m, 0, ()) := fun m g1 g2 => by
    unfold divRound
    rw [if_neg (by simpa using ⟨g1, g2⟩), if_neg h0, if_neg h1]
  have hdr' : ∀ m : Int, 0 ≤ m → m ≤ 5 → divRound (-n) d m = (divR (-n) d m, 0, ()) := fun m g1 g2 => by
    unfold divRound
    rw [if_neg (by simpa using ⟨g1, g2⟩), if_neg h0, Int.natAbs_neg, if_neg h1]
  have hb0 : ((d == 0) : Bool) = false := beq_eq_false_iff_ne.2 h0
  rw [hdr 0 (by omega) (by omega), hdr 1 (by omega) (by omega)]
  simp only [bne_self_eq_false, cond_false, hb0, decide_eq_false h0]
  obtain ⟨k1, k2, k3, k4, k5⟩ := div_facts n d h0 (by omega) (by omega)
  have htm : ((Int.tmod n d == 0) : Bool) = decide ((n.natAbs : Int) % d.natAbs = 0) := by
    rw [Bool.beq_eq_decide_eq, decide_eq_decide]
    have := Int.natAbs_tmod n d
    omega
  rw [htm]
  have key := divR_key (n := n) (d := d) h0 (by omega) (by omega)
  obtain ⟨p1, p2, p3, p4, p5, p6, p7, p8, p9⟩ := key
  have hb : ((divR n d 1 == divR n d 0) : Bool) = decide ((n.natAbs : Int) % d.natAbs = 0) := by rw [Bool.beq_eq_decide_eq, decide_eq_decide]; exact p3
  rw [decide_eq_false (by omega), wrap64 (n := divR n d 1 - divR n d 0) (by omega) (by omega), decide_eq_false (by omega), hb]
  simp only [beq_self_eq_true, Bool.not_true, cond_false]
  have hneg : IntKind.i64.wrap (0 - n) = -n := by rw [wrap64 (by omega) (by omega)]; omega
  have step : ∀ m : Nat, m ≤ 6 → law02_MoneyRoundingOrder.L2 n d (divR n d 0) (divR n d 1) m = some (true, ()) := by
    intro m
    induction hk : 6 - m generalizing m with
    | zero =>
      intro hm
      rw [law02_MoneyRoundingOrder.L2_eq, law02_MoneyRoundingOrder.SL2, decide_eq_false (by omega), awake]
      rfl
    | succ k ih =>
      intro hm
      obtain ⟨b1, b2⟩ := p6 m (by omega) (by omega)
      rw [law02_MoneyRoundingOrder.L2_eq, law02_MoneyRoundingOrder.SL2, decide_eq_true (by omega), cond_true, money_DivRound_val _ hn.1 hn.2 hd.1 hd.2, hneg, money_DivRound_val _ (by omega) (by omega) hd.1 hd.2, hdr m (by omega) (by omega), hdr' m (by omega) (by omega)]
      simp only [Option.bind_some, bne_self_eq_false, cond_false]
      rw [decide_eq_false (by omega), decide_eq_false (by omega), cond_false, cond_false, law02_MoneyRoundingOrder.J3_eq, law02_MoneyRoundingOrder.SJ3, wrap_succ (by omega), ih (m + 1) (by omega) (by omega)]
      have w0 : IntKind.i64.wrap (0 - divR n d 0) = - divR n d 0 := by rw [wrap64 (by omega) (by omega)]; omega
      have w1 : IntKind.i64.wrap (0 - divR n d 1) = - divR n d 1 := by rw [wrap64 (by omega) (by omega)]; omega
      have wm : IntKind.i64.wrap (0 - divR n d m) = - divR n d m := by rw [wrap64 (by omega) (by omega)]; omega
      rw [w0, w1, wm]
      match m, hk with
      | 0, _ => simp [p7]
      | 1, _ => simp [p8]
      | m + 2, _ =>
        have := p9 ((m + 2 : Nat) : Int) (by omega) (by omega)
        have q0 : ((((m + 2 : Nat) : Int) == 0) : Bool) = false := beq_eq_false_iff_ne.2 (by omega)
        have q1 : ((((m + 2 : Nat) : Int) == 1) : Bool) = false := beq_eq_false_iff_ne.2 (by omega)
        rw [q0, q1, this]
        simp
  exact step 0 (by omega)

end Go.Proofs.Ytkhmefingpocpaa
