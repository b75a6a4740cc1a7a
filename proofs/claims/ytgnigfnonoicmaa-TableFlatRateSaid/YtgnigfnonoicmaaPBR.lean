import Derived.Test.YtgnigfnonoicmaaPM3
set_option maxRecDepth 100000
set_option linter.unusedVariables false
set_option linter.unusedSimpArgs false
namespace Go.Proofs.Ytgnigfnonoicmaa
open Go Go.Lift
/-- A part of the amount times a rate, as whole cents and millionths. -/
def contr (part n : Int) : Int × Int × Bool × Unit :=
  if 1000000000000000 < part * n.natAbs / 1000000 then (0, 0, false, ()) else if n < 0 then (-(part * n.natAbs / 1000000), -(part * n.natAbs % 1000000), true, ()) else (part * n.natAbs / 1000000, part * n.natAbs % 1000000, true, ())
/-- The part of the amount that a row takes. -/
def prt (x : api_RowV) (c : Int) : Int := if max 0 x.2.1 < min c x.2.2.1 then min c x.2.2.1 - max 0 x.2.1 else 0
theorem contr_zero (n : Int) : contr 0 n = (0, 0, true, ()) := by
  unfold contr
  simp
theorem contribution_J0 {lo hi m : Int} (neg : Bool) (h0 : 0 ≤ lo) (h1 : lo < hi) (h2 : hi ≤ 1000000000000000) (m0 : 0 ≤ m) (m1 : m ≤ 9223372036854775808) :
    table_contribution.J0 lo hi m neg = some (if 1000000000000000 < (hi - lo) * m / 1000000 then (0, 0, false, ()) else if neg then (-((hi - lo) * m / 1000000), -((hi - lo) * m % 1000000), true, ()) else ((hi - lo) * m / 1000000, (hi - lo) * m % 1000000, true, ())) := by
  have p0 : 0 ≤ (hi - lo) * m := Int.mul_nonneg (by omega) m0
  rw [table_contribution.J0_eq, table_contribution.SJ0, wrap64 (by omega) (by omega), wrapU (by omega) (by omega), Mul64_val (by omega) (by omega) m0 (by omega)]
  simp only [bind_some']
  generalize (hi - lo) * m = p at p0 ⊢
  by_cases g : p / 18446744073709551616 ≥ 1000000
  · rw [cd_t g, if_pos (by omega)]
  · rw [cd_f g, Div64_val (by omega) (by omega) (by omega) (by omega) (by omega), show p / 18446744073709551616 * 18446744073709551616 + p % 18446744073709551616 = p by omega]
    simp only [bind_some']
    by_cases q : p / 1000000 > 1000000000000000
    · rw [cd_t q, if_pos q]
    · rw [cd_f q, if_neg q, wrap64 (n := p / 1000000) (by omega) (by omega), wrap64 (n := p % 1000000) (by omega) (by omega), wrap64 (n := 0 - p / 1000000) (by omega) (by omega), wrap64 (n := 0 - p % 1000000) (by omega) (by omega)]
      cases neg
      · rfl
      · simp
theorem contribution_val {x : api_RowV} {c : Int} (hc : c ≤ 1000000000000000) (n0 : -9223372036854775808 ≤ x.2.2.2.1) (n1 : x.2.2.2.1 ≤ 9223372036854775807) :
    table_contribution x c = some (contr (prt x c) x.2.2.2.1) := by
  simp only [table_contribution, table_contribution.Se, cond_max, cond_min, prt]
  by_cases h : max 0 x.2.1 < min c x.2.2.1
  · rw [cd_f (by omega), if_pos h]
    by_cases hn : x.2.2.2.1 < 0
    · have hw : IntKind.u64.wrap (0 - IntKind.u64.wrap x.2.2.2.1) = (x.2.2.2.1.natAbs : Int) := by rw [u64_eq, u64_eq]; omega
      rw [cd_t hn, hw, contribution_J0 _ (by omega) h (by omega) (by omega) (by omega), contr]
      simp only [decide_eq_true hn, if_true, if_pos hn]
    · have hw : IntKind.u64.wrap x.2.2.2.1 = (x.2.2.2.1.natAbs : Int) := by rw [u64_eq]; omega
      rw [cd_f hn, hw, contribution_J0 _ (by omega) h (by omega) (by omega) (by omega), contr]
      simp only [decide_eq_false hn, Bool.false_eq_true, if_false, if_neg hn]
  · rw [cd_t (by omega), if_neg h, contr_zero]
theorem contr_bd {part : Int} (n : Int) (h : 0 ≤ part) : (contr part n).1.natAbs ≤ 1000000000000000 ∧ (contr part n).2.1.natAbs ≤ 1000000 := by
  have p0 : 0 ≤ part * n.natAbs := Int.mul_nonneg h (by omega)
  unfold contr
  generalize part * n.natAbs = p at p0 ⊢
  split
  · exact ⟨by decide, by decide⟩
  · split
    · exact ⟨by simp only; omega, by simp only; omega⟩
    · exact ⟨by simp only; omega, by simp only; omega⟩
theorem contr_sum {part n : Int} (h : 0 ≤ part) (hk : (contr part n).2.2.1 = true) : (contr part n).1 * 1000000 + (contr part n).2.1 = part * n := by
  unfold contr at hk ⊢
  split at hk
  · cases hk
  rename_i g
  rw [if_neg g]
  split
  · rename_i hn
    have : part * n = -(part * n.natAbs) := by
      have : n = -(n.natAbs : Int) := by omega
      rw [← Int.mul_neg, ← this]
    rw [this]
    simp only
    omega
  · rename_i hn
    have : (n.natAbs : Int) = n := by omega
    rw [this]
    simp only
    omega
theorem contr_ok {part n : Int} : (contr part n).2.2.1 = true ↔ part * n.natAbs / 1000000 ≤ 1000000000000000 := by
  unfold contr
  split
  · exact ⟨fun h => (by cases h), fun h => (by omega)⟩
  · split <;> exact ⟨fun _ => (by omega), fun _ => rfl⟩
theorem prt_bd (x : api_RowV) {c : Int} (hc : c ≤ 1000000000000000) : 0 ≤ prt x c ∧ prt x c ≤ 1000000000000000 := by
  unfold prt
  split <;> omega
theorem up_nil (q d : Int) (neg : Bool) (m : Int) (hd : 0 < d) : up q 0 d neg m = false := by
  unfold up
  repeat' split
  all_goals first | rfl | simp
  all_goals omega
theorem up_par {q q' : Int} (r d : Int) (neg : Bool) (m : Int) (h : q % 2 = q' % 2) : up q r d neg m = up q' r d neg m := by
  unfold up
  rw [h]
theorem divR_pos {q r : Int} (m : Int) (hq : 0 ≤ q) (hr : 0 ≤ r) (hr1 : r < 1000000) : divR (q * 1000000 + r) 1000000 m = if up q r 1000000 false m then q + 1 else q := by
  unfold divR
  simp only
  have e1 : ((q * 1000000 + r).natAbs : Int) = q * 1000000 + r := by omega
  have e2 : (((1000000 : Int).natAbs : Nat) : Int) = 1000000 := rfl
  rw [e1, e2, show (q * 1000000 + r) / 1000000 = q by omega, show (q * 1000000 + r) % 1000000 = r by omega, decide_eq_false (show ¬ q * 1000000 + r < 0 by omega), decide_eq_false (show ¬ (1000000 : Int) < 0 by omega)]
  rfl
theorem divR_neg' {q r : Int} (m : Int) (hq : 0 ≤ q) (hr : 0 ≤ r) (hr1 : r < 1000000) : divR (-(q * 1000000 + r)) 1000000 m = -(if up q r 1000000 true m then q + 1 else q) := by
  by_cases hz : q * 1000000 + r = 0
  · have : q = 0 := by omega
    subst this
    have : r = 0 := by omega
    subst this
    have := divR_pos (q := 0) (r := 0) m (by omega) (by omega) (by omega)
    rw [up_nil _ _ _ _ (by omega)] at this
    rw [up_nil _ _ _ _ (by omega)]
    exact this
  · unfold divR
    simp only
    have e1 : ((-(q * 1000000 + r)).natAbs : Int) = q * 1000000 + r := by omega
    have e2 : (((1000000 : Int).natAbs : Nat) : Int) = 1000000 := rfl
    rw [e1, e2, show (q * 1000000 + r) / 1000000 = q by omega, show (q * 1000000 + r) % 1000000 = r by omega, decide_eq_true (show -(q * 1000000 + r) < 0 by omega), decide_eq_false (show ¬ (1000000 : Int) < 0 by omega)]
    rfl
theorem divR_shift {W P : Int} (m : Int) (h : 0 ≤ W ∧ 0 ≤ P ∨ W ≤ 0 ∧ P ≤ 0) (hP : P.natAbs < 1000000) : W + (divR (Int.tmod W 2 * 1000000 + P) 1000000 m - Int.tmod W 2) = divR (W * 1000000 + P) 1000000 m := by
  rcases h with ⟨h1, h2⟩ | ⟨h1, h2⟩
  · rw [tmod_pos h1, divR_pos m (by omega) h2 (by omega), divR_pos m h1 h2 (by omega), up_par P 1000000 false m (show W % 2 % 2 = W % 2 by omega)]
    split <;> omega
  · have e : Int.tmod W 2 = -((-W) % 2) := by
      have : Int.tmod W 2 = -(Int.tmod (-W) 2) := by rw [Int.neg_tmod]; omega
      rw [this, tmod_pos (by omega)]
    have e1 : Int.tmod W 2 * 1000000 + P = -((-W) % 2 * 1000000 + (-P)) := by rw [e]; omega
    have e2 : W * 1000000 + P = -((-W) * 1000000 + (-P)) := by omega
    rw [e1, e2, e, divR_neg' m (by omega) (by omega) (by omega), divR_neg' m (by omega) (by omega) (by omega), up_par (-P) 1000000 true m (show -W % 2 % 2 = -W % 2 by omega)]
    split <;> omega
/-- What the sum of all contributions, in millionths, comes to. -/
def fin12 (T m : Int) : Int × Int × Unit := if 1000000000000000 < ((divR T 1000000 m).natAbs : Int) then (0, 3, ()) else (divR T 1000000 m, 0, ())
theorem divR_bd {T : Int} (m : Int) (h : T.natAbs ≤ 100000000000000000000000) : (divR T 1000000 m).natAbs ≤ 100000000000000001 := by
  by_cases h0 : 0 ≤ T
  · have := divR_pos (q := T / 1000000) (r := T % 1000000) m (by omega) (by omega) (by omega)
    rw [show T / 1000000 * 1000000 + T % 1000000 = T by omega] at this
    rw [this]
    split <;> omega
  · have := divR_neg' (q := (-T) / 1000000) (r := (-T) % 1000000) m (by omega) (by omega) (by omega)
    rw [show -((-T) / 1000000 * 1000000 + (-T) % 1000000) = T by omega] at this
    rw [this]
    split <;> omega
theorem brackets_J4 {W P m : Int} (hm : 0 ≤ m ∧ m ≤ 5) (h : 0 ≤ W ∧ 0 ≤ P ∨ W ≤ 0 ∧ P ≤ 0) (hP : P.natAbs < 1000000) (hW : W.natAbs ≤ 90000000000000000) : table_Brackets.J4 m W P = some (fin12 (W * 1000000 + P) m) := by
  have he : (Int.tmod W 2).natAbs ≤ 1 := by
    rw [Int.natAbs_tmod]
    exact Nat.le_of_lt_succ (Nat.mod_lt _ (by decide))
  have hs := divR_shift m h hP
  have hb := divR_bd (T := Int.tmod W 2 * 1000000 + P) m (by omega)
  have hb2 := divR_bd (T := W * 1000000 + P) m (by omega)
  rw [table_Brackets.J4_eq, table_Brackets.SJ4]
  simp only [table_rounding, table_rounding.Se]
  rw [wrap64 (n := Int.tmod W 2 * 1000000) (by omega) (by omega), wrap64 (n := Int.tmod W 2 * 1000000 + P) (by omega) (by omega), money_DivRound_val m (by omega) (by omega) (by omega) (by omega)]
  have hd : divRound (Int.tmod W 2 * 1000000 + P) 1000000 m = (divR (Int.tmod W 2 * 1000000 + P) 1000000 m, 0, ()) := by
    unfold divRound
    rw [if_neg (by simpa using hm), if_neg (by omega), if_neg (by omega)]
  rw [hd]
  simp only [bind_some']
  rw [wrap64 (n := divR (Int.tmod W 2 * 1000000 + P) 1000000 m - Int.tmod W 2) (by omega) (by omega), hs, wrap64 (n := divR (W * 1000000 + P) 1000000 m) (by omega) (by omega), fin12]
  by_cases g1 : divR (W * 1000000 + P) 1000000 m > 1000000000000000
  · rw [cd_t g1, if_pos (by omega)]
  · rw [cd_f g1]
    by_cases g2 : divR (W * 1000000 + P) 1000000 m < -1000000000000000
    · rw [cd_t g2, if_pos (by omega)]
    · rw [cd_f g2, if_neg (by omega)]
theorem tq (p : Int) : Int.tdiv p 1000000 * 1000000 + Int.tmod p 1000000 = p ∧ (Int.tmod p 1000000).natAbs < 1000000 ∧ (0 ≤ p → 0 ≤ Int.tmod p 1000000 ∧ 0 ≤ Int.tdiv p 1000000) ∧ (p ≤ 0 → Int.tmod p 1000000 ≤ 0 ∧ Int.tdiv p 1000000 ≤ 0) := by
  by_cases h : 0 ≤ p
  · rw [tmod_pos h, Int.tdiv_eq_ediv_of_nonneg h]
    omega
  · have e1 : Int.tmod p 1000000 = -(Int.tmod (-p) 1000000) := by rw [Int.neg_tmod]; omega
    have e2 : Int.tdiv p 1000000 = -(Int.tdiv (-p) 1000000) := by rw [Int.neg_tdiv]; omega
    rw [e1, e2, tmod_pos (by omega), Int.tdiv_eq_ediv_of_nonneg (by omega)]
    omega
theorem brackets_end {w p m : Int} (hm : 0 ≤ m ∧ m ≤ 5) (hw : w.natAbs ≤ 80000000000000000) (hp : p.natAbs ≤ 80000000000000000) :
    cond (decide ((IntKind.i64.wrap (w + (IntKind.i64.wrap (Int.tdiv p 1000000)))) > 0))
      (table_Brackets.J5 m (IntKind.i64.wrap (w + (IntKind.i64.wrap (Int.tdiv p 1000000)))) (Int.tmod p 1000000) (decide ((Int.tmod p 1000000) < 0)))
      (table_Brackets.J5 m (IntKind.i64.wrap (w + (IntKind.i64.wrap (Int.tdiv p 1000000)))) (Int.tmod p 1000000) false) = some (fin12 (w * 1000000 + p) m) := by
  obtain ⟨t1, t2, t3, t4⟩ := tq p
  generalize Int.tdiv p 1000000 = a at t1 t3 t4 ⊢
  generalize Int.tmod p 1000000 = b at t1 t2 t3 t4 ⊢
  rw [wrap64 (n := a) (by omega) (by omega), wrap64 (n := w + a) (by omega) (by omega)]
  have key : ∀ W P : Int, W * 1000000 + P = w * 1000000 + p → (0 ≤ W ∧ 0 ≤ P ∨ W ≤ 0 ∧ P ≤ 0) → P.natAbs < 1000000 → W.natAbs ≤ 90000000000000000 → table_Brackets.J4 m W P = some (fin12 (w * 1000000 + p) m) := fun W P e1 e2 e3 e4 => by rw [← e1]; exact brackets_J4 hm e2 e3 e4
  by_cases h : w + a > 0
  · rw [cd_t h, table_Brackets.J5_eq, table_Brackets.SJ5]
    by_cases hb : b < 0
    · rw [cd_t hb, wrap64 (n := w + a - 1) (by omega) (by omega), wrap64 (n := b + 1000000) (by omega) (by omega)]
      exact key _ _ (by omega) (by omega) (by omega) (by omega)
    · rw [cd_f hb, cd_f (by omega)]
      exact key _ _ (by omega) (by omega) (by omega) (by omega)
  · rw [cd_f h, table_Brackets.J5_eq, table_Brackets.SJ5, cond_false]
    by_cases h' : w + a < 0
    · rw [cd_t h']
      by_cases hb : b > 0
      · rw [cd_t hb, wrap64 (n := w + a + 1) (by omega) (by omega), wrap64 (n := b - 1000000) (by omega) (by omega)]
        exact key _ _ (by omega) (by omega) (by omega) (by omega)
      · rw [cd_f hb]
        exact key _ _ (by omega) (by omega) (by omega) (by omega)
    · rw [cd_f h']
      exact key _ _ (by omega) (by omega) (by omega) (by omega)
/-- The contributions of all rows on a date. -/
def wk (c date : Int) : List api_RowV → Int → Int → Option (Int × Int)
  | [], w, p => some (w, p)
  | x :: l, w, p => cond (inD x.1 date) (cond (contr (prt x c) x.2.2.2.1).2.2.1 (wk c date l (w + (contr (prt x c) x.2.2.2.1).1) (p + (contr (prt x c) x.2.2.2.1).2.1)) none) (wk c date l w p)
def res12 (m : Int) (o : Option (Int × Int)) : Int × Int × Unit := match o with | none => (0, 3, ()) | some z => fin12 (z.1 * 1000000 + z.2) m
def okN (l : List api_RowV) : Prop := ∀ x ∈ l, -9223372036854775808 ≤ x.2.2.2.1 ∧ x.2.2.2.1 ≤ 9223372036854775807
theorem brackets_L3 {date c m : Int} (hm : 0 ≤ m ∧ m ≤ 5) (hc : c ≤ 1000000000000000) : ∀ (rest pre : List api_RowV) (w p : Int), okN rest → (pre ++ rest).length ≤ 70 → (w.natAbs : Int) ≤ pre.length * 1000000000000000 → (p.natAbs : Int) ≤ pre.length * 1000000 →
    table_Brackets.L3 date c m w p (pre ++ rest) ((pre ++ rest).length : Int) (pre.length : Int) = some (res12 m (wk c date rest w p)) := by
  intro rest
  induction rest with
  | nil =>
    intro pre w p hN h hw hp
    have h' : pre.length ≤ 70 := by simpa using h
    rw [table_Brackets.L3_eq, table_Brackets.SL3, cd_f (by simp), brackets_end hm (by omega) (by omega)]
    rfl
  | cons x rest ih0 =>
    intro pre w p hN h hw hp
    have h' := h
    rw [len_mid] at h'
    have ih := fun w p => ih0 (pre ++ [x]) w p (fun y hy => hN y (List.mem_cons_of_mem _ hy)) (by rw [← mid_shift]; exact h)
    rw [← mid_shift, len_snoc] at ih
    obtain ⟨n0, n1⟩ := hN x List.mem_cons_self
    obtain ⟨b1, b2⟩ := contr_bd (part := prt x c) x.2.2.2.1 (prt_bd x hc).1
    rw [table_Brackets.L3_eq, table_Brackets.SL3, cd_t (by rw [len_mid]; omega), idx_mid]
    simp only [bind_some', contains_val, contribution_val hc n0 n1, wrap_succ (show pre.length < 9223372036854775807 by omega), wk]
    cases inD x.1 date with
    | false =>
      simp only [Bool.not_false, cond_true, cond_false]
      exact ih w p (by omega) (by omega)
    | true =>
      simp only [Bool.not_true, cond_true, cond_false]
      cases (contr (prt x c) x.2.2.2.1).2.2.1 with
      | false => rfl
      | true =>
        simp only [Bool.not_true, cond_true, cond_false]
        rw [wrap64 (by omega) (by omega), wrap64 (by omega) (by omega)]
        exact ih _ _ (by omega) (by omega)
/-- Brackets, by its definition. -/
def brk (t : api_TableV) (date c m : Int) : Int × Int × Unit :=
  if ¬ (0 ≤ m ∧ m ≤ 5) then (0, 1, ()) else if eqTy (.pair (.int .i64) (.pair (.int .i64) .unit)) t.2.1 (3, 0, ()) = false ∨ eqTy (.pair (.int .i64) (.pair (.int .i64) .unit)) t.2.2.1 (4, 0, ()) = false then (0, 8, ()) else
  if 1000000000000000 < (c.natAbs : Int) then (0, 3, ()) else res12 m (wk c date t.2.2.2.1 0 0)
theorem brackets_val {t : api_TableV} (date c m : Int) (hN : okN t.2.2.2.1) (hl : t.2.2.2.1.length ≤ 70) : table_Brackets t date c m = some (brk t date c m) := by
  have j2 : ∀ b : Bool, (0 ≤ m ∧ m ≤ 5) → table_Brackets.J2 date c m t b = some (if b then (0, 8, ()) else if 1000000000000000 < (c.natAbs : Int) then (0, 3, ()) else res12 m (wk c date t.2.2.2.1 0 0)) := fun b hm => by
    rw [table_Brackets.J2_eq, table_Brackets.SJ2]
    cases b with
    | true => rfl
    | false =>
      simp only [cond_false, Bool.false_eq_true, if_false]
      by_cases g1 : c > 1000000000000000
      · rw [cd_t g1, if_pos (by omega)]
      · rw [cd_f g1]
        by_cases g2 : c < -1000000000000000
        · rw [cd_t g2, if_pos (by omega)]
        · rw [cd_f g2, if_neg (by omega), table_Brackets.J0_eq, table_Brackets.SJ0]
          have := brackets_L3 (date := date) hm (show c ≤ 1000000000000000 by omega) t.2.2.2.1 [] 0 0 hN (by simpa using hl) (by simp) (by simp)
          simpa using this
  have j1 : ∀ b : Bool, (b = false → 0 ≤ m ∧ m ≤ 5) → table_Brackets.J1 date c m t b = some (if b then (0, 1, ()) else if eqTy (.pair (.int .i64) (.pair (.int .i64) .unit)) t.2.1 (3, 0, ()) = false ∨ eqTy (.pair (.int .i64) (.pair (.int .i64) .unit)) t.2.2.1 (4, 0, ()) = false then (0, 8, ()) else
      if 1000000000000000 < (c.natAbs : Int) then (0, 3, ()) else res12 m (wk c date t.2.2.2.1 0 0)) := fun b hm => by
    rw [table_Brackets.J1_eq, table_Brackets.SJ1]
    cases b with
    | true => rfl
    | false =>
      rw [cond_false, j2 _ (hm rfl), j2 _ (hm rfl)]
      cases eqTy (.pair (.int .i64) (.pair (.int .i64) .unit)) t.2.1 (3, 0, ()) <;> cases eqTy (.pair (.int .i64) (.pair (.int .i64) .unit)) t.2.2.1 (4, 0, ()) <;> rfl
  simp only [table_Brackets, table_Brackets.Se, brk]
  by_cases g1 : m < 0
  · rw [cd_t g1, j1 true (fun h => by cases h), if_pos (show ¬ (0 ≤ m ∧ m ≤ 5) by omega)]; rfl
  · rw [cd_f g1, j1 _ (fun h => by simp at h; omega)]
    by_cases g2 : m > 5
    · rw [decide_eq_true g2, if_pos (show ¬ (0 ≤ m ∧ m ≤ 5) by omega)]; rfl
    · rw [decide_eq_false g2, if_neg (show ¬ ¬ (0 ≤ m ∧ m ≤ 5) by omega)]; rfl
end Go.Proofs.Ytgnigfnonoicmaa
