import Derived.Test.YtphpegconhdnfaaPBits
set_option maxRecDepth 100000
set_option linter.unusedVariables false
set_option linter.unusedSimpArgs false
namespace Go.Proofs.Ytphpegconhdnfaa
open Go Go.Lift
variable {T : Type}
namespace Ins
variable {z : T} {lt lt' : T → T → Bool} {L0 : Int → Int → Int → List T → RS T} {L1 J2 : Int → Int → Int → Int → List T → RS T}
theorem inner2 (sw : SW lt') (hL1 : ∀ a b i j d, L1 a b i j d = SL1 z lt J2 L0 a b i j d) (hJ2 : ∀ a b i j d, J2 a b i j d = SJ2 z L1 a b i j d) (a b i : Nat) :
    ∀ (n j : Nat) (d : List T), j - a ≤ n → a ≤ j → j ≤ i → i < b → b ≤ d.length → d.length ≤ 4611686018427387904 →
      (∀ p, a ≤ p → p < j → lt (d.getD j z) (d.getD p z) = lt' (d.getD j z) (d.getD p z)) →
      (∀ p q, a ≤ p → p < q → q ≤ i → q ≠ j → lt' (d.getD q z) (d.getD p z) = false) →
      ∃ d', L1 a b i j d = L0 a b (i + 1 : Nat) d' ∧ Rng z a (i + 1) d d' ∧ Srt z lt' a (i + 1) d'
  | n, j, d, hn, haj, hji, hib, hb, hd, ag, inv => by
    rw [step hL1 hJ2 a b i j d hji hib hb hd]
    by_cases h : a < j
    · rw [if_pos h, ag (j - 1) (by omega) (by omega)]
      cases e : lt' (d.getD j z) (d.getD (j - 1) z) with
      | true =>
        rw [cond_true]
        have gj : j < d.length := by omega
        have gj' : j - 1 < d.length := by omega
        cases n with
        | zero => omega
        | succ n =>
        obtain ⟨d', h1, h2, h3⟩ := inner2 sw hL1 hJ2 a b i n (j - 1) (swp z j (j - 1) d) (by omega) (by omega) (by omega) hib (by rw [swp_len]; exact hb) (by rw [swp_len]; exact hd) (by
          intro p p1 p2
          rw [swp_get gj gj', swp_get gj gj', if_pos rfl, if_neg (by omega), if_neg (by omega)]
          exact ag p p1 (by omega)) (by
          intro p q p1 p2 p3 p4
          rw [swp_get gj gj', swp_get gj gj', if_neg p4]
          by_cases q1 : q = j
          · rw [if_pos q1]
            by_cases p5 : p = j - 1
            · rw [if_pos p5]; exact sw.asym _ _ e
            · rw [if_neg p5, if_neg (by omega)]
              exact inv p (j - 1) p1 (by omega) (by omega) (by omega)
          · rw [if_neg q1]
            by_cases p5 : p = j - 1
            · rw [if_pos p5]; exact inv j q (by omega) (by omega) p3 q1
            · rw [if_neg p5]
              by_cases p6 : p = j
              · rw [if_pos p6]; exact inv (j - 1) q (by omega) (by omega) p3 q1
              · rw [if_neg p6]; exact inv p q p1 p2 p3 q1)
        exact ⟨d', h1, (Rng.swap (by omega) (by omega) (by omega) (by omega) (by omega)).trans h2, h3⟩
      | false =>
        refine ⟨d, rfl, .refl _ _ _ _, ?_⟩
        intro p q p1 p2 p3
        by_cases q1 : q = j
        · subst q1
          by_cases p5 : p = q - 1
          · rw [p5]; exact e
          · exact sw.ntr _ _ _ e (inv p (q - 1) p1 (by omega) (by omega) (by omega))
        · exact inv p q p1 p2 (by omega) q1
    · rw [if_neg h]
      refine ⟨d, rfl, .refl _ _ _ _, ?_⟩
      intro p q p1 p2 p3
      exact inv p q p1 p2 (by omega) (by omega)
theorem outer2 (sw : SW lt') (hL0 : ∀ a b i d, L0 a b i d = SL0 L1 a b i d) (hL1 : ∀ a b i j d, L1 a b i j d = SL1 z lt J2 L0 a b i j d) (hJ2 : ∀ a b i j d, J2 a b i j d = SJ2 z L1 a b i j d) (a b : Nat) :
    ∀ (n i : Nat) (d : List T), b - i ≤ n → a ≤ i → b ≤ d.length → d.length ≤ 4611686018427387904 →
      (∀ q, i ≤ q → q < b → ∀ p, a ≤ p → p < q → lt (d.getD q z) (d.getD p z) = lt' (d.getD q z) (d.getD p z)) → Srt z lt' a i d →
      ∃ d', L0 a b i d = some (d', ()) ∧ Rng z a b d d' ∧ Srt z lt' a b d'
  | n, i, d, hn, hai, hb, hd, ag, inv => by
    rw [hL0, SL0]
    by_cases h : i < b
    · rw [cd_t (by omega)]
      obtain ⟨d1, e1, r1, s1⟩ := inner2 sw hL1 hJ2 a b i (i - a) i d (Nat.le_refl _) hai (Nat.le_refl _) h hb hd (fun p p1 p2 => ag i (Nat.le_refl _) h p p1 p2) (fun p q p1 p2 p3 p4 => inv p q p1 p2 (by omega))
      cases n with
      | zero => omega
      | succ n =>
      obtain ⟨d2, e2, r2, s2⟩ := outer2 sw hL0 hL1 hJ2 a b n (i + 1) d1 (by omega) (by omega) (by rw [r1.len]; exact hb) (by rw [r1.len]; exact hd) (fun q q1 q2 p p1 p2 => by
        rw [r1.out q (by omega)]
        by_cases p3 : p < i + 1
        · obtain ⟨j, j1, j2, j3⟩ := r1.mem p p1 p3
          rw [j3]; exact ag q (by omega) q2 j j1 (by omega)
        · rw [r1.out p (by omega)]; exact ag q (by omega) q2 p p1 p2) s1
      exact ⟨d2, e1.trans e2, (r1.mono (Nat.le_refl _) (by omega)).trans r2, s2⟩
    · rw [cd_f (by omega)]
      exact ⟨d, rfl, .refl _ _ _ _, fun p q p1 p2 p3 => inv p q p1 p2 (by omega)⟩
theorem spec2 (sw : SW lt') (hL0 : ∀ a b i d, L0 a b i d = SL0 L1 a b i d) (hL1 : ∀ a b i j d, L1 a b i j d = SL1 z lt J2 L0 a b i j d) (hJ2 : ∀ a b i j d, J2 a b i j d = SJ2 z L1 a b i j d)
    (a b : Nat) (d : List T) (hb : b ≤ d.length) (hd : d.length ≤ 4611686018427387904) (hab : a ≤ b) (ag : ∀ p q, a ≤ p → p < q → q < b → lt (d.getD q z) (d.getD p z) = lt' (d.getD q z) (d.getD p z)) :
    ∃ d', L0 a b (IntKind.i64.wrap ((a : Int) + 1)) d = some (d', ()) ∧ Rng z a b d d' ∧ Srt z lt' a b d' := by
  simp (disch := omega) only [wrap64, ca1]
  exact outer2 sw hL0 hL1 hJ2 a b b (a + 1) d (by omega) (by omega) hb hd (fun q q1 q2 p p1 p2 => ag p q p1 p2 q2) (fun p q p1 p2 p3 => by omega)
end Ins
namespace Rot
def W0 (z : T) (kL0 : Int → Int → Int → Int → List T → RS T) (a : Int) (b : Int) (n_3 : Int) (i : Int) (data_P : List T) : RS T :=
  cond (decide (i < n_3))
    (cond (decide (0 ≤ IntKind.i64.wrap (b + i)) && decide (IntKind.i64.wrap (b + i) < (data_P.length : Int)))
      (cond (decide (0 ≤ IntKind.i64.wrap (a + i)) && decide (IntKind.i64.wrap (a + i) < (data_P.length : Int)))
        (cond (decide (0 ≤ IntKind.i64.wrap (a + i)) && decide (IntKind.i64.wrap (a + i) < (data_P.length : Int)))
          (cond (decide (0 ≤ IntKind.i64.wrap (b + i)) && decide (IntKind.i64.wrap (b + i) < ((data_P.set ((IntKind.i64.wrap (a + i)).toNat) (data_P.getD ((IntKind.i64.wrap (b + i)).toNat) z)).length : Int)))
            (kL0 a b n_3 (IntKind.i64.wrap (i + 1)) ((data_P.set ((IntKind.i64.wrap (a + i)).toNat) (data_P.getD ((IntKind.i64.wrap (b + i)).toNat) z)).set ((IntKind.i64.wrap (b + i)).toNat) (data_P.getD ((IntKind.i64.wrap (a + i)).toNat) z)))
            none)
          none)
        none)
      none)
    (some (data_P, ()))
/-- Two parts of length n exchanged, from place i of each on. -/
def Ex (z : T) (a b n i : Nat) (d d' : List T) : Prop := ∀ k, d'.getD k z = if a + i ≤ k ∧ k < a + n then d.getD (k - a + b) z else if b + i ≤ k ∧ k < b + n then d.getD (k - b + a) z else d.getD k z
theorem swaps {z : T} {L0 : Int → Int → Int → Int → List T → RS T} (hL : ∀ a b n i d, L0 a b n i d = W0 z L0 a b n i d) (a b n lo hi : Nat) (hab : a + n ≤ b) (h1 : lo ≤ a) (h2 : b + n ≤ hi) :
    ∀ (m i : Nat) (d : List T), i + m = n → hi ≤ d.length → d.length ≤ 4611686018427387904 → ∃ d', L0 a b n i d = some (d', ()) ∧ Rng z lo hi d d' ∧ Ex z a b n i d d'
  | 0, i, d, hi', hl, hd => by
    rw [hL, W0, cd_f (by omega)]
    refine ⟨d, rfl, .refl _ _ _ _, fun k => ?_⟩
    rw [if_neg (by omega), if_neg (by omega)]
  | m + 1, i, d, hi', hl, hd => by
    rw [hL, W0]
    simp (disch := omega) only [cd_t, cd_b, wrap64, ca, ca1, Int.toNat_natCast, List.length_set]
    have g1 : a + i < d.length := by omega
    have g2 : b + i < d.length := by omega
    obtain ⟨d', e, r, x⟩ := swaps hL a b n lo hi hab h1 h2 m (i + 1) (swp z (a + i) (b + i) d) (by omega) (by rw [swp_len]; exact hl) (by rw [swp_len]; exact hd)
    refine ⟨d', e, (Rng.swap hl (by omega) (by omega) (by omega) (by omega)).trans r, fun k => ?_⟩
    rw [x k]
    by_cases c1 : a + (i + 1) ≤ k ∧ k < a + n
    · rw [if_pos c1, if_pos (by omega), swp_get g1 g2, if_neg (by omega), if_neg (by omega)]
    · rw [if_neg c1]
      by_cases c2 : b + (i + 1) ≤ k ∧ k < b + n
      · rw [if_pos c2, if_neg (by omega), if_pos (by omega), swp_get g1 g2, if_neg (by omega), if_neg (by omega)]
      · rw [if_neg c2, swp_get g1 g2]
        by_cases c3 : k = a + i
        · rw [if_neg (by omega), if_pos c3, if_pos (by omega)]
          congr 1; omega
        · by_cases c4 : k = b + i
          · rw [if_pos c4, if_neg (by omega), if_pos (by omega)]
            congr 1; omega
          · rw [if_neg c4, if_neg c3, if_neg (by omega), if_neg (by omega)]
/-- What exchanging two parts does, of a function. -/
def ExOK (z : T) (SR : List T → Int → Int → Int → RS T) : Prop := ∀ (a b n lo hi : Nat) (d : List T), a + n ≤ b → lo ≤ a → b + n ≤ hi → hi ≤ d.length → d.length ≤ 4611686018427387904 → ∃ d', SR d a b n = some (d', ()) ∧ Rng z lo hi d d' ∧ Ex z a b n 0 d d'
theorem exOK {z : T} {L0 : Int → Int → Int → Int → List T → RS T} {SR : List T → Int → Int → Int → RS T} (hL : ∀ a b n i d, L0 a b n i d = W0 z L0 a b n i d) (hS : ∀ d a b n, SR d a b n = L0 a b n 0 d) : ExOK z SR := by
  intro a b n lo hi d h1 h2 h3 h4 h5
  rw [hS]
  exact swaps hL a b n lo hi h1 h2 h3 n 0 d (by omega) h4 h5
def RL0 (SR : List T → Int → Int → Int → RS T) (kL0 : Int → Int → Int → List T → RS T) (m : Int) (i : Int) (j : Int) (data_P : List T) : RS T :=
  cond (i != j)
    (cond (decide (i > j))
      (Option.bind (SR data_P (IntKind.i64.wrap (m - i)) m j) fun x1 =>
      kL0 m (IntKind.i64.wrap (i - j)) j x1.1)
      (Option.bind (SR data_P (IntKind.i64.wrap (m - i)) (IntKind.i64.wrap ((IntKind.i64.wrap (m + j)) - i)) i) fun x2 =>
      kL0 m i (IntKind.i64.wrap (j - i)) x2.1))
    (Option.bind (SR data_P (IntKind.i64.wrap (m - i)) m i) fun x3 =>
    some (x3.1, ()))
/-- The part from a on and before b rotated, so that what lay from m on comes first. -/
def Ro (z : T) (a m b : Nat) (d d' : List T) : Prop := ∀ k, d'.getD k z = if a ≤ k ∧ k < a + (b - m) then d.getD (k - a + m) z else if a + (b - m) ≤ k ∧ k < b then d.getD (k - (b - m)) z else d.getD k z
theorem loop {z : T} {SR : List T → Int → Int → Int → RS T} {L0 : Int → Int → Int → List T → RS T} (ok : ExOK z SR) (hL : ∀ m i j d, L0 m i j d = RL0 SR L0 m i j d) (m lo hi : Nat) :
    ∀ (n i j : Nat) (d : List T), i + j ≤ n → 1 ≤ i → 1 ≤ j → lo + i ≤ m → m + j ≤ hi → hi ≤ d.length → d.length ≤ 4611686018427387904 → ∃ d', L0 m i j d = some (d', ()) ∧ Rng z lo hi d d' ∧ Ro z (m - i) m (m + j) d d'
  | 0, i, j, d, hn, h1, h2, h3, h4, h5, h6 => by omega
  | n + 1, i, j, d, hn, h1, h2, h3, h4, h5, h6 => by
    rw [hL, RL0]
    by_cases c : i = j
    · subst c
      rw [show ((i : Int) != (i : Int)) = false from bne_self_eq_false _, cond_false]
      simp (disch := omega) only [wrap64, cs]
      obtain ⟨d', e, r, x⟩ := ok (m - i) m i lo hi d (by omega) (by omega) (by omega) h5 h6
      rw [e, bind_some']
      refine ⟨d', rfl, r, fun k => ?_⟩
      rw [x k]
      by_cases c1 : m - i ≤ k ∧ k < m
      · rw [if_pos (by omega), if_pos (by omega)]
      · by_cases c2 : m ≤ k ∧ k < m + i
        · rw [if_neg (by omega), if_pos (by omega), if_neg (by omega), if_pos (by omega)]
          congr 1; omega
        · rw [if_neg (by omega), if_neg (by omega), if_neg (by omega), if_neg (by omega)]
    · rw [show ((i : Int) != (j : Int)) = true from bne_iff_ne.2 (by omega), cond_true]
      by_cases c2 : j < i
      · rw [cd_t (by omega)]
        simp (disch := omega) only [wrap64, cs]
        obtain ⟨d1, e1, r1, x1⟩ := ok (m - i) m j lo hi d (by omega) (by omega) (by omega) h5 h6
        rw [e1, bind_some']
        obtain ⟨d2, e2, r2, x2⟩ := loop ok hL m lo hi n (i - j) j d1 (by omega) (by omega) h2 (by omega) h4 (by rw [r1.len]; exact h5) (by rw [r1.len]; exact h6)
        refine ⟨d2, e2, r1.trans r2, fun k => ?_⟩
        rw [x2 k]
        have hb : m + j - m = j := by omega
        rw [hb]
        by_cases k1 : m - i ≤ k ∧ k < m - i + j
        · rw [if_neg (by omega), if_neg (by omega), x1 k, if_pos (by omega), if_pos (by omega)]
        · by_cases k2 : m - (i - j) ≤ k ∧ k < m - (i - j) + j
          · rw [if_pos k2, x1, if_neg (by omega), if_pos (by omega), if_neg (by omega), if_pos (by omega)]
            congr 1; omega
          · rw [if_neg k2]
            by_cases k3 : m - (i - j) + j ≤ k ∧ k < m + j
            · rw [if_pos k3, x1, if_neg (by omega), if_neg (by omega), if_neg (by omega), if_pos (by omega)]
            · rw [if_neg k3, x1, if_neg (by omega), if_neg (by omega), if_neg (by omega), if_neg (by omega)]
      · rw [cd_f (by omega)]
        simp (disch := omega) only [wrap64, cs, ca]
        obtain ⟨d1, e1, r1, x1⟩ := ok (m - i) (m + j - i) i lo hi d (by omega) (by omega) (by omega) h5 h6
        rw [e1, bind_some']
        obtain ⟨d2, e2, r2, x2⟩ := loop ok hL m lo hi n i (j - i) d1 (by omega) h1 (by omega) h3 (by omega) (by rw [r1.len]; exact h5) (by rw [r1.len]; exact h6)
        refine ⟨d2, e2, r1.trans r2, fun k => ?_⟩
        rw [x2 k]
        have hb : m + j - m = j := by omega
        have hb2 : m + (j - i) - m = j - i := by omega
        rw [hb, hb2]
        by_cases k1 : m - i ≤ k ∧ k < m - i + (j - i)
        · rw [if_pos k1, x1, if_neg (by omega), if_neg (by omega), if_pos (by omega)]
        · rw [if_neg k1]
          by_cases k2 : m - i + (j - i) ≤ k ∧ k < m + (j - i)
          · rw [if_pos k2, x1, if_pos (by omega), if_pos (by omega)]
            congr 1; omega
          · rw [if_neg k2, x1]
            by_cases k3 : m + j - i ≤ k ∧ k < m + j
            · rw [if_neg (by omega), if_pos (by omega), if_neg (by omega), if_pos (by omega)]
              congr 1; omega
            · rw [if_neg (by omega), if_neg (by omega), if_neg (by omega), if_neg (by omega)]
/-- What rotating does, of a function. -/
def RoOK (z : T) (RT : List T → Int → Int → Int → RS T) : Prop := ∀ (a m b : Nat) (d : List T), a < m → m < b → b ≤ d.length → d.length ≤ 4611686018427387904 → ∃ d', RT d a m b = some (d', ()) ∧ Rng z a b d d' ∧ Ro z a m b d d'
theorem roOK {z : T} {SR : List T → Int → Int → Int → RS T} {L0 : Int → Int → Int → List T → RS T} {RT : List T → Int → Int → Int → RS T} (ok : ExOK z SR) (hL : ∀ m i j d, L0 m i j d = RL0 SR L0 m i j d)
    (hR : ∀ d a m b, RT d a m b = L0 m (IntKind.i64.wrap (m - a)) (IntKind.i64.wrap (b - m)) d) : RoOK z RT := by
  intro a m b d h1 h2 h3 h4
  rw [hR]
  simp (disch := omega) only [wrap64, cs]
  obtain ⟨d', e, r, x⟩ := loop ok hL m a b (m - a + (b - m)) (m - a) (b - m) d (Nat.le_refl _) (by omega) (by omega) (by omega) (by omega) h3 h4
  rw [show m - (m - a) = a by omega, show m + (b - m) = b by omega] at x
  exact ⟨d', e, r, x⟩
end Rot
theorem half_i64 (i j : Nat) (h : i + j ≤ 9223372036854775807) : IntKind.i64.wrap (Int.fdiv (IntKind.u64.wrap (IntKind.i64.wrap ((i : Int) + (j : Int)))) (2 ^ (min 1 IntKind.u64.bits))) = (((i + j) / 2 : Nat) : Int) := by
  rw [wrap64 (n := (i : Int) + (j : Int)) (by omega) (by omega), wrapU (by omega) (by omega), show ((2 : Int) ^ (min 1 IntKind.u64.bits)) = 2 by decide, Int.fdiv_eq_ediv_of_nonneg _ (by omega), wrap64 (by omega) (by omega)]
  omega
namespace Sym
def SL0 (z : T) (lt : T → T → Bool) (kL0 : Int → Int → Int → List T → RS T) (kL3 : Int → Int → List T → RS T) (a : Int) (i : Int) (j : Int) (data_P : List T) : RS T :=
  cond (decide (i < j))
    (cond (decide (0 ≤ IntKind.i64.wrap (Int.fdiv (IntKind.u64.wrap (IntKind.i64.wrap (i + j))) (2 ^ (min 1 IntKind.u64.bits)))) && decide (IntKind.i64.wrap (Int.fdiv (IntKind.u64.wrap (IntKind.i64.wrap (i + j))) (2 ^ (min 1 IntKind.u64.bits))) < (data_P.length : Int)))
      (cond (decide (0 ≤ a) && decide (a < (data_P.length : Int)))
        (cond (lt (data_P.getD ((IntKind.i64.wrap (Int.fdiv (IntKind.u64.wrap (IntKind.i64.wrap (i + j))) (2 ^ (min 1 IntKind.u64.bits)))).toNat) z) (data_P.getD a.toNat z))
          (kL0 a (IntKind.i64.wrap ((IntKind.i64.wrap (Int.fdiv (IntKind.u64.wrap (IntKind.i64.wrap (i + j))) (2 ^ (min 1 IntKind.u64.bits)))) + 1)) j data_P)
          (kL0 a i (IntKind.i64.wrap (Int.fdiv (IntKind.u64.wrap (IntKind.i64.wrap (i + j))) (2 ^ (min 1 IntKind.u64.bits)))) data_P))
        none)
      none)
    (kL3 i a data_P)
def SL1 (z : T) (lt : T → T → Bool) (kL1 : Int → Int → Int → List T → RS T) (kL4 : Int → Int → List T → RS T) (m : Int) (i : Int) (j : Int) (data_P : List T) : RS T :=
  cond (decide (i < j))
    (cond (decide (0 ≤ m) && decide (m < (data_P.length : Int)))
      (cond (decide (0 ≤ IntKind.i64.wrap (Int.fdiv (IntKind.u64.wrap (IntKind.i64.wrap (i + j))) (2 ^ (min 1 IntKind.u64.bits)))) && decide (IntKind.i64.wrap (Int.fdiv (IntKind.u64.wrap (IntKind.i64.wrap (i + j))) (2 ^ (min 1 IntKind.u64.bits))) < (data_P.length : Int)))
        (cond (!(lt (data_P.getD m.toNat z) (data_P.getD ((IntKind.i64.wrap (Int.fdiv (IntKind.u64.wrap (IntKind.i64.wrap (i + j))) (2 ^ (min 1 IntKind.u64.bits)))).toNat) z)))
          (kL1 m (IntKind.i64.wrap ((IntKind.i64.wrap (Int.fdiv (IntKind.u64.wrap (IntKind.i64.wrap (i + j))) (2 ^ (min 1 IntKind.u64.bits)))) + 1)) j data_P)
          (kL1 m i (IntKind.i64.wrap (Int.fdiv (IntKind.u64.wrap (IntKind.i64.wrap (i + j))) (2 ^ (min 1 IntKind.u64.bits)))) data_P))
        none)
      none)
    (kL4 i m data_P)
def SL3 (z : T) (kL3 : Int → Int → List T → RS T) (i : Int) (k : Int) (data_P : List T) : RS T :=
  cond (decide (k < (IntKind.i64.wrap (i - 1))))
    (cond (decide (0 ≤ IntKind.i64.wrap (k + 1)) && decide (IntKind.i64.wrap (k + 1) < (data_P.length : Int)))
      (cond (decide (0 ≤ k) && decide (k < (data_P.length : Int)))
        (cond (decide (0 ≤ k) && decide (k < (data_P.length : Int)))
          (cond (decide (0 ≤ IntKind.i64.wrap (k + 1)) && decide (IntKind.i64.wrap (k + 1) < ((data_P.set k.toNat (data_P.getD ((IntKind.i64.wrap (k + 1)).toNat) z)).length : Int)))
            (kL3 i (IntKind.i64.wrap (k + 1)) ((data_P.set k.toNat (data_P.getD ((IntKind.i64.wrap (k + 1)).toNat) z)).set ((IntKind.i64.wrap (k + 1)).toNat) (data_P.getD k.toNat z)))
            none)
          none)
        none)
      none)
    (some (data_P, ()))
def SL4 (z : T) (kL4 : Int → Int → List T → RS T) (i : Int) (k : Int) (data_P : List T) : RS T :=
  cond (decide (k > i))
    (cond (decide (0 ≤ IntKind.i64.wrap (k - 1)) && decide (IntKind.i64.wrap (k - 1) < (data_P.length : Int)))
      (cond (decide (0 ≤ k) && decide (k < (data_P.length : Int)))
        (cond (decide (0 ≤ k) && decide (k < (data_P.length : Int)))
          (cond (decide (0 ≤ IntKind.i64.wrap (k - 1)) && decide (IntKind.i64.wrap (k - 1) < ((data_P.set k.toNat (data_P.getD ((IntKind.i64.wrap (k - 1)).toNat) z)).length : Int)))
            (kL4 i (IntKind.i64.wrap (k - 1)) ((data_P.set k.toNat (data_P.getD ((IntKind.i64.wrap (k - 1)).toNat) z)).set ((IntKind.i64.wrap (k - 1)).toNat) (data_P.getD k.toNat z)))
            none)
          none)
        none)
      none)
    (some (data_P, ()))
def SL5 (z : T) (lt : T → T → Bool) (RT : List T → Int → Int → Int → RS T) (kL5 : Int → Int → Int → Int → Int → Int → Int → Int → List T → RS T) (kJ6 : Int → Int → Int → Int → Int → List T → RS T) (a : Int) (m : Int) (b : Int) (mid : Int) (n_19 : Int) (start : Int) (r_21 : Int) (p : Int) (data_P : List T) : RS T :=
  cond (decide (start < r_21))
    (cond (decide (0 ≤ IntKind.i64.wrap (p - (IntKind.i64.wrap (Int.fdiv (IntKind.u64.wrap (IntKind.i64.wrap (start + r_21))) (2 ^ (min 1 IntKind.u64.bits)))))) && decide (IntKind.i64.wrap (p - (IntKind.i64.wrap (Int.fdiv (IntKind.u64.wrap (IntKind.i64.wrap (start + r_21))) (2 ^ (min 1 IntKind.u64.bits))))) < (data_P.length : Int)))
      (cond (decide (0 ≤ IntKind.i64.wrap (Int.fdiv (IntKind.u64.wrap (IntKind.i64.wrap (start + r_21))) (2 ^ (min 1 IntKind.u64.bits)))) && decide (IntKind.i64.wrap (Int.fdiv (IntKind.u64.wrap (IntKind.i64.wrap (start + r_21))) (2 ^ (min 1 IntKind.u64.bits))) < (data_P.length : Int)))
        (cond (!(lt (data_P.getD ((IntKind.i64.wrap (p - (IntKind.i64.wrap (Int.fdiv (IntKind.u64.wrap (IntKind.i64.wrap (start + r_21))) (2 ^ (min 1 IntKind.u64.bits)))))).toNat) z) (data_P.getD ((IntKind.i64.wrap (Int.fdiv (IntKind.u64.wrap (IntKind.i64.wrap (start + r_21))) (2 ^ (min 1 IntKind.u64.bits)))).toNat) z)))
          (kL5 a m b mid n_19 (IntKind.i64.wrap ((IntKind.i64.wrap (Int.fdiv (IntKind.u64.wrap (IntKind.i64.wrap (start + r_21))) (2 ^ (min 1 IntKind.u64.bits)))) + 1)) r_21 p data_P)
          (kL5 a m b mid n_19 start (IntKind.i64.wrap (Int.fdiv (IntKind.u64.wrap (IntKind.i64.wrap (start + r_21))) (2 ^ (min 1 IntKind.u64.bits)))) p data_P))
        none)
      none)
    (cond (decide (start < m))
      (cond (decide (m < (IntKind.i64.wrap (n_19 - start))))
        (Option.bind (RT data_P start m (IntKind.i64.wrap (n_19 - start))) fun x2 =>
        kJ6 a b mid start (IntKind.i64.wrap (n_19 - start)) x2.1)
        (kJ6 a b mid start (IntKind.i64.wrap (n_19 - start)) data_P))
      (kJ6 a b mid start (IntKind.i64.wrap (n_19 - start)) data_P))
def SJ6 (slf : List T → Int → Int → Int → RS T) (kJ7 : Int → Int → Int → List T → RS T) (a : Int) (b : Int) (mid : Int) (start : Int) (end_24 : Int) (data_P : List T) : RS T :=
  cond (decide (a < start))
    (cond (decide (start < mid))
      (Option.bind (slf data_P a start mid) fun x1 =>
      kJ7 b mid end_24 x1.1)
      (kJ7 b mid end_24 data_P))
    (kJ7 b mid end_24 data_P)
def SJ7 (slf : List T → Int → Int → Int → RS T) (b : Int) (mid : Int) (end_24 : Int) (data_P : List T) : RS T :=
  cond (decide (mid < end_24))
    (cond (decide (end_24 < b))
      (Option.bind (slf data_P mid end_24 b) fun x1 =>
      some (x1.1, ()))
      (some (data_P, ())))
    (some (data_P, ()))
def Se (kL0 : Int → Int → Int → List T → RS T) (kL1 : Int → Int → Int → List T → RS T) (kJ2 : Int → Int → Int → Int → Int → Int → Int → List T → RS T) (data : List T) (a : Int) (m : Int) (b : Int) : RS T :=
  cond ((IntKind.i64.wrap (m - a)) == 1)
    (kL0 a m b data)
    (cond ((IntKind.i64.wrap (b - m)) == 1)
      (kL1 m a m data)
      (cond (decide (m > (IntKind.i64.wrap (Int.fdiv (IntKind.u64.wrap (IntKind.i64.wrap (a + b))) (2 ^ (min 1 IntKind.u64.bits))))))
        (kJ2 a m b (IntKind.i64.wrap (Int.fdiv (IntKind.u64.wrap (IntKind.i64.wrap (a + b))) (2 ^ (min 1 IntKind.u64.bits)))) (IntKind.i64.wrap ((IntKind.i64.wrap (Int.fdiv (IntKind.u64.wrap (IntKind.i64.wrap (a + b))) (2 ^ (min 1 IntKind.u64.bits)))) + m)) (IntKind.i64.wrap ((IntKind.i64.wrap ((IntKind.i64.wrap (Int.fdiv (IntKind.u64.wrap (IntKind.i64.wrap (a + b))) (2 ^ (min 1 IntKind.u64.bits)))) + m)) - b)) (IntKind.i64.wrap (Int.fdiv (IntKind.u64.wrap (IntKind.i64.wrap (a + b))) (2 ^ (min 1 IntKind.u64.bits)))) data)
        (kJ2 a m b (IntKind.i64.wrap (Int.fdiv (IntKind.u64.wrap (IntKind.i64.wrap (a + b))) (2 ^ (min 1 IntKind.u64.bits)))) (IntKind.i64.wrap ((IntKind.i64.wrap (Int.fdiv (IntKind.u64.wrap (IntKind.i64.wrap (a + b))) (2 ^ (min 1 IntKind.u64.bits)))) + m)) a m data)))
/-- The equations of symMerge. -/
structure Eqs (z : T) (lt : T → T → Bool) (RT slf : List T → Int → Int → Int → RS T) (L0 L1 : Int → Int → Int → List T → RS T) (J2 : Int → Int → Int → Int → Int → Int → Int → List T → RS T) (L3 L4 : Int → Int → List T → RS T) (L5 : Int → Int → Int → Int → Int → Int → Int → Int → List T → RS T) (J6 : Int → Int → Int → Int → Int → List T → RS T) (J7 : Int → Int → Int → List T → RS T) : Prop where
  me : ∀ d a m b, slf d a m b = Se L0 L1 J2 d a m b
  l0 : ∀ a i j d, L0 a i j d = SL0 z lt L0 L3 a i j d
  l1 : ∀ m i j d, L1 m i j d = SL1 z lt L1 L4 m i j d
  j2 : ∀ a m b mid n s r d, J2 a m b mid n s r d = L5 a m b mid n s r (IntKind.i64.wrap (n - 1)) d
  l3 : ∀ i k d, L3 i k d = SL3 z L3 i k d
  l4 : ∀ i k d, L4 i k d = SL4 z L4 i k d
  l5 : ∀ a m b mid n s r p d, L5 a m b mid n s r p d = SL5 z lt RT L5 J6 a m b mid n s r p d
  j6 : ∀ a b mid s e d, J6 a b mid s e d = SJ6 slf J7 a b mid s e d
  j7 : ∀ b mid e d, J7 b mid e d = SJ7 slf b mid e d
variable {z : T} {lt lt' : T → T → Bool} {RT slf : List T → Int → Int → Int → RS T} {L0 L1 : Int → Int → Int → List T → RS T} {J2 : Int → Int → Int → Int → Int → Int → Int → List T → RS T} {L3 L4 : Int → Int → List T → RS T} {L5 : Int → Int → Int → Int → Int → Int → Int → Int → List T → RS T} {J6 : Int → Int → Int → Int → Int → List T → RS T} {J7 : Int → Int → Int → List T → RS T}
theorem up (q : Eqs z lt RT slf L0 L1 J2 L3 L4 L5 J6 J7) (e lo hi : Nat) : ∀ (n k : Nat) (d : List T), e - k ≤ n → lo ≤ k → k ≤ e → e < hi → hi ≤ d.length → d.length ≤ 4611686018427387904 →
    ∃ d', L3 ((e + 1 : Nat) : Int) k d = some (d', ()) ∧ Rng z lo hi d d' ∧ ∀ x, d'.getD x z = if k ≤ x ∧ x < e then d.getD (x + 1) z else if x = e then d.getD k z else d.getD x z
  | n, k, d, hn, h1, h2, h3, h4, h5 => by
    rw [q.l3, SL3]
    simp (disch := omega) only [wrap64, cs1, ca1]
    by_cases c : k < e
    · rw [cd_t (by omega)]
      simp (disch := omega) only [cd_b, Int.toNat_natCast, List.length_set]
      have g1 : k < d.length := by omega
      have g2 : k + 1 < d.length := by omega
      cases n with
      | zero => omega
      | succ n =>
      obtain ⟨d', e1, r, x1⟩ := up q e lo hi n (k + 1) (swp z k (k + 1) d) (by omega) (by omega) (by omega) h3 (by rw [swp_len]; exact h4) (by rw [swp_len]; exact h5)
      refine ⟨d', e1, (Rng.swap h4 (by omega) (by omega) (by omega) (by omega)).trans r, fun x => ?_⟩
      rw [x1 x]
      by_cases c1 : k + 1 ≤ x ∧ x < e
      · rw [if_pos c1, if_pos (by omega), swp_get g1 g2, if_neg (by omega), if_neg (by omega)]
      · rw [if_neg c1]
        by_cases c2 : x = e
        · rw [if_pos c2, if_neg (by omega), if_pos c2, swp_get g1 g2, if_pos rfl]
        · rw [if_neg c2, swp_get g1 g2]
          by_cases c3 : x = k
          · rw [if_neg (by omega), if_pos c3, if_pos (by omega), c3]
          · rw [if_neg (by omega), if_neg c3, if_neg (by omega), if_neg c2]
    · rw [cd_f (by omega)]
      refine ⟨d, rfl, .refl _ _ _ _, fun x => ?_⟩
      rw [if_neg (by omega)]
      by_cases c2 : x = e
      · rw [if_pos c2]; congr 1; omega
      · rw [if_neg c2]
theorem down (q : Eqs z lt RT slf L0 L1 J2 L3 L4 L5 J6 J7) (i lo hi : Nat) : ∀ (n k : Nat) (d : List T), k - i ≤ n → lo ≤ i → i ≤ k → k < hi → hi ≤ d.length → d.length ≤ 4611686018427387904 →
    ∃ d', L4 (i : Int) k d = some (d', ()) ∧ Rng z lo hi d d' ∧ ∀ x, d'.getD x z = if i < x ∧ x ≤ k then d.getD (x - 1) z else if x = i then d.getD k z else d.getD x z
  | n, k, d, hn, h1, h2, h3, h4, h5 => by
    rw [q.l4, SL4]
    by_cases c : i < k
    · simp (disch := omega) only [cd_t, cd_b, wrap64, cs1, ca1, Int.toNat_natCast, List.length_set]
      have g1 : k < d.length := by omega
      have g2 : k - 1 < d.length := by omega
      cases n with
      | zero => omega
      | succ n =>
      obtain ⟨d', e1, r, x1⟩ := down q i lo hi n (k - 1) (swp z k (k - 1) d) (by omega) (by omega) (by omega) (by omega) (by rw [swp_len]; exact h4) (by rw [swp_len]; exact h5)
      refine ⟨d', e1, (Rng.swap h4 (by omega) (by omega) (by omega) (by omega)).trans r, fun x => ?_⟩
      rw [x1 x]
      by_cases c1 : i < x ∧ x ≤ k - 1
      · rw [if_pos c1, if_pos (by omega), swp_get g1 g2, if_neg (by omega), if_neg (by omega)]
      · rw [if_neg c1]
        by_cases c2 : x = i
        · rw [if_pos c2, if_neg (by omega), if_pos c2, swp_get g1 g2, if_pos rfl]
        · rw [if_neg c2, swp_get g1 g2]
          by_cases c3 : x = k
          · rw [if_neg (by omega), if_pos c3, if_pos (by omega), c3]
          · rw [if_neg (by omega), if_neg c3, if_neg (by omega), if_neg c2]
    · rw [cd_f (by omega)]
      refine ⟨d, rfl, .refl _ _ _ _, fun x => ?_⟩
      rw [if_neg (by omega)]
      by_cases c2 : x = i
      · rw [if_pos c2]; congr 1; omega
      · rw [if_neg c2]
/-- The place of the one element of the left part among those of the right. -/
theorem find0 (q : Eqs z lt RT slf L0 L1 J2 L3 L4 L5 J6 J7) (a m b : Nat) (d : List T) (ha : a < m) (hb : b ≤ d.length) (hd : d.length ≤ 4611686018427387904) (ag : ∀ y, m ≤ y → y < b → lt (d.getD y z) (d.getD a z) = lt' (d.getD y z) (d.getD a z)) :
    ∀ (n i j : Nat), j - i ≤ n → m ≤ i → i ≤ j → j ≤ b → (i = m ∨ lt' (d.getD (i - 1) z) (d.getD a z) = true) → (j = b ∨ lt' (d.getD j z) (d.getD a z) = false) →
    ∃ e : Nat, L0 a i j d = L3 e a d ∧ m ≤ e ∧ e ≤ b ∧ (e = m ∨ lt' (d.getD (e - 1) z) (d.getD a z) = true) ∧ (e = b ∨ lt' (d.getD e z) (d.getD a z) = false)
  | n, i, j, hn, h1, h2, h3, h4, h5 => by
    rw [q.l0, SL0]
    by_cases c : i < j
    · rw [half_i64 i j (by omega)]
      simp (disch := omega) only [cd_t, cd_b, wrap64, ca1, Int.toNat_natCast]
      rw [ag ((i + j) / 2) (by omega) (by omega)]
      cases n with
      | zero => omega
      | succ n =>
      cases e : lt' (d.getD ((i + j) / 2) z) (d.getD a z) with
      | true => exact find0 q a m b d ha hb hd ag n ((i + j) / 2 + 1) j (by omega) (by omega) (by omega) h3 (.inr (by simpa using e)) h5
      | false => exact find0 q a m b d ha hb hd ag n i ((i + j) / 2) (by omega) h1 (by omega) (by omega) h4 (.inr e)
    · rw [cd_f (by omega)]
      have : i = j := by omega
      exact ⟨i, rfl, h1, by omega, h4, by rw [this]; exact h5⟩
/-- The place of the one element of the right part among those of the left. -/
theorem find1 (q : Eqs z lt RT slf L0 L1 J2 L3 L4 L5 J6 J7) (a m : Nat) (d : List T) (hm : m < d.length) (hd : d.length ≤ 4611686018427387904) (ag : ∀ y, a ≤ y → y < m → lt (d.getD m z) (d.getD y z) = lt' (d.getD m z) (d.getD y z)) :
    ∀ (n i j : Nat), j - i ≤ n → a ≤ i → i ≤ j → j ≤ m → (i = a ∨ lt' (d.getD m z) (d.getD (i - 1) z) = false) → (j = m ∨ lt' (d.getD m z) (d.getD j z) = true) →
    ∃ e : Nat, L1 m i j d = L4 e m d ∧ a ≤ e ∧ e ≤ m ∧ (e = a ∨ lt' (d.getD m z) (d.getD (e - 1) z) = false) ∧ (e = m ∨ lt' (d.getD m z) (d.getD e z) = true)
  | n, i, j, hn, h1, h2, h3, h4, h5 => by
    rw [q.l1, SL1]
    by_cases c : i < j
    · rw [half_i64 i j (by omega)]
      simp (disch := omega) only [cd_t, cd_b, wrap64, ca1, Int.toNat_natCast]
      rw [ag ((i + j) / 2) (by omega) (by omega)]
      cases n with
      | zero => omega
      | succ n =>
      cases e : lt' (d.getD m z) (d.getD ((i + j) / 2) z) with
      | true => exact find1 q a m d hm hd ag n i ((i + j) / 2) (by omega) h1 (by omega) (by omega) h4 (.inr e)
      | false => exact find1 q a m d hm hd ag n ((i + j) / 2 + 1) j (by omega) (by omega) (by omega) h3 (.inr (by simpa using e)) h5
    · rw [cd_f (by omega)]
      have : i = j := by omega
      exact ⟨i, rfl, h1, by omega, h4, by rw [this]; exact h5⟩
/-- Where the two parts are cut, and what becomes of them. -/
theorem find5 (ok : Rot.RoOK z RT) (q : Eqs z lt RT slf L0 L1 J2 L3 L4 L5 J6 J7) (a m b mid lo hi : Nat) (d : List T) (ham : a < m) (hmb : m < b) (hmid : a < mid) (hb : b ≤ d.length) (hd : d.length ≤ 4611686018427387904) (h1 : a ≤ lo) (h2 : hi ≤ m) (h2' : hi ≤ mid) (h3 : mid + m - lo ≤ b)
    (ag : ∀ x y, a ≤ x → x < m → m ≤ y → y < b → lt (d.getD y z) (d.getD x z) = lt' (d.getD y z) (d.getD x z)) :
    ∀ (n s r : Nat), r - s ≤ n → lo ≤ s → s ≤ r → r ≤ hi → (s = lo ∨ lt' (d.getD (mid + m - s) z) (d.getD (s - 1) z) = false) → (r = hi ∨ lt' (d.getD (mid + m - 1 - r) z) (d.getD r z) = true) →
    ∃ (s' : Nat) (d' : List T), L5 a m b mid ((mid + m : Nat) : Int) s r ((mid + m - 1 : Nat) : Int) d = J6 a b mid s' ((mid + m - s' : Nat) : Int) d' ∧ lo ≤ s' ∧ s' ≤ hi ∧ Rng z a b d d' ∧ Rot.Ro z s' m (mid + m - s') d d' ∧
      (s' = lo ∨ lt' (d.getD (mid + m - s') z) (d.getD (s' - 1) z) = false) ∧ (s' = hi ∨ lt' (d.getD (mid + m - 1 - s') z) (d.getD s' z) = true)
  | n, s, r, hn, g1, g2, g3, g4, g5 => by
    rw [q.l5, SL5]
    by_cases c : s < r
    · rw [half_i64 s r (by omega)]
      simp (disch := omega) only [cd_t, cd_b, wrap64, ca1, cs, Int.toNat_natCast]
      rw [ag ((s + r) / 2) (mid + m - 1 - (s + r) / 2) (by omega) (by omega) (by omega) (by omega)]
      cases n with
      | zero => omega
      | succ n =>
      cases e : lt' (d.getD (mid + m - 1 - (s + r) / 2) z) (d.getD ((s + r) / 2) z) with
      | true => exact find5 ok q a m b mid lo hi d ham hmb hmid hb hd h1 h2 h2' h3 ag n s ((s + r) / 2) (by omega) g1 (by omega) (by omega) g4 (.inr e)
      | false => exact find5 ok q a m b mid lo hi d ham hmb hmid hb hd h1 h2 h2' h3 ag n ((s + r) / 2 + 1) r (by omega) (by omega) (by omega) g3 (.inr (by rw [show mid + m - ((s + r) / 2 + 1) = mid + m - 1 - (s + r) / 2 by omega]; simpa using e)) g5
    · rw [cd_f (by omega)]
      have : s = r := by omega
      subst this
      simp (disch := omega) only [wrap64, cs]
      by_cases c1 : s < m
      · rw [cd_t (by omega)]
        by_cases c2 : m < mid + m - s
        · rw [cd_t (by omega)]
          obtain ⟨d', e, r, x⟩ := ok s m (mid + m - s) d c1 c2 (by omega) hd
          rw [e, bind_some']
          exact ⟨s, d', rfl, g1, g3, r.mono (by omega) (by omega), x, g4, g5⟩
        · rw [cd_f (by omega)]
          refine ⟨s, d, rfl, g1, g3, .refl _ _ _ _, fun k => ?_, g4, g5⟩
          rw [if_neg (by omega)]
          by_cases c3 : s + (mid + m - s - m) ≤ k ∧ k < mid + m - s
          · rw [if_pos c3]; congr 1; omega
          · rw [if_neg c3]
      · rw [cd_f (by omega)]
        refine ⟨s, d, rfl, g1, g3, .refl _ _ _ _, fun k => ?_, g4, g5⟩
        by_cases c3 : s ≤ k ∧ k < s + (mid + m - s - m)
        · rw [if_pos c3]; congr 1; omega
        · rw [if_neg c3, if_neg (by omega)]
/-- Merging two parts in order. -/
theorem merge (sw : SW lt') (ok : Rot.RoOK z RT) (q : Eqs z lt RT slf L0 L1 J2 L3 L4 L5 J6 J7) :
    ∀ (n a m b : Nat) (d : List T), b - a < n → a < m → m < b → b ≤ d.length → d.length ≤ 4611686018427387904 → Srt z lt' a m d → Srt z lt' m b d →
      (∀ x y, a ≤ x → x < m → m ≤ y → y < b → lt (d.getD y z) (d.getD x z) = lt' (d.getD y z) (d.getD x z)) →
      ∃ d', slf d a m b = some (d', ()) ∧ Rng z a b d d' ∧ Srt z lt' a b d'
  | 0, a, m, b, d, hn, _, _, _, _, _, _, _ => by omega
  | n + 1, a, m, b, d, hn, ham, hmb, hb, hd, s1, s2, ag => by
    rw [q.me, Se, half_i64 a b (by omega)]
    simp (disch := omega) only [wrap64, cs]
    by_cases c1 : m - a = 1
    · rw [show (((m - a : Nat) : Int) == 1) = true from beq_iff_eq.2 (by omega), cond_true]
      obtain ⟨e, e1, e2, e3, e4, e5⟩ := find0 q a m b d ham hb hd (fun y y1 y2 => ag a y (by omega) (by omega) y1 y2) b m b (by omega) (Nat.le_refl _) (by omega) (Nat.le_refl _) (.inl rfl) (.inl rfl)
      rw [e1]
      obtain ⟨w, rfl⟩ : ∃ w, e = w + 1 := ⟨e - 1, by omega⟩
      obtain ⟨d', f1, f2, f3⟩ := up q w a b w a d (by omega) (Nat.le_refl _) (by omega) (by omega) hb hd
      have lo : ∀ y, m ≤ y → y ≤ w → lt' (d.getD y z) (d.getD a z) = true := fun y y1 y2 => by
        rcases e4 with e4 | e4
        · omega
        · simp only [Nat.add_sub_cancel] at e4
          by_cases y3 : y = w
          · rw [y3]; exact e4
          · exact sw.le_lt (s2 y w y1 (by omega) (by omega)) e4
      have hi : ∀ y, w + 1 ≤ y → y < b → lt' (d.getD y z) (d.getD a z) = false := fun y y1 y2 => by
        rcases e5 with e5 | e5
        · omega
        · by_cases y3 : y = w + 1
          · rw [y3]; exact e5
          · exact sw.ntr _ _ _ (s2 (w + 1) y e2 (by omega) y2) e5
      refine ⟨d', f1, f2, fun p r p1 p2 p3 => ?_⟩
      rw [f3 p, f3 r]
      by_cases c2 : a ≤ r ∧ r < w
      · rw [if_pos c2, if_pos (by omega)]
        exact s2 (p + 1) (r + 1) (by omega) (by omega) (by omega)
      · rw [if_neg c2]
        by_cases c3 : r = w
        · rw [if_pos c3, if_pos (by omega)]
          exact sw.asym _ _ (lo (p + 1) (by omega) (by omega))
        · rw [if_neg c3]
          by_cases c4 : a ≤ p ∧ p < w
          · rw [if_pos c4]
            exact s2 (p + 1) r (by omega) (by omega) p3
          · rw [if_neg c4]
            by_cases c5 : p = w
            · rw [if_pos c5]; exact hi r (by omega) p3
            · rw [if_neg c5]; exact s2 p r (by omega) p2 p3
    rw [show (((m - a : Nat) : Int) == 1) = false from beq_eq_false_iff_ne.2 (by omega), cond_false]
    by_cases c2 : b - m = 1
    · rw [show (((b - m : Nat) : Int) == 1) = true from beq_iff_eq.2 (by omega), cond_true]
      obtain ⟨e, e1, e2, e3, e4, e5⟩ := find1 q a m d (by omega) hd (fun y y1 y2 => ag y m y1 y2 (Nat.le_refl _) hmb) m a m (by omega) (Nat.le_refl _) (by omega) (Nat.le_refl _) (.inl rfl) (.inl rfl)
      rw [e1]
      obtain ⟨d', f1, f2, f3⟩ := down q e a b m m d (by omega) e2 e3 hmb hb hd
      have lo : ∀ y, a ≤ y → y < e → lt' (d.getD m z) (d.getD y z) = false := fun y y1 y2 => by
        rcases e4 with e4 | e4
        · omega
        · by_cases y3 : y = e - 1
          · rw [y3]; exact e4
          · exact sw.ntr _ _ _ e4 (s1 y (e - 1) y1 (by omega) (by omega))
      have hi : ∀ y, e ≤ y → y < m → lt' (d.getD m z) (d.getD y z) = true := fun y y1 y2 => by
        rcases e5 with e5 | e5
        · omega
        · by_cases y3 : y = e
          · rw [y3]; exact e5
          · exact sw.lt_le e5 (s1 e y e2 (by omega) y2)
      refine ⟨d', f1, f2, fun p r p1 p2 p3 => ?_⟩
      rw [f3 p, f3 r]
      by_cases c3 : e < p ∧ p ≤ m
      · rw [if_pos c3, if_pos (by omega)]
        exact s1 (p - 1) (r - 1) (by omega) (by omega) (by omega)
      · rw [if_neg c3]
        by_cases c4 : p = e
        · rw [if_pos c4, if_pos (by omega)]
          exact sw.asym _ _ (hi (r - 1) (by omega) (by omega))
        · rw [if_neg c4]
          by_cases c5 : e < r ∧ r ≤ m
          · rw [if_pos c5]; exact s1 p (r - 1) p1 (by omega) (by omega)
          · rw [if_neg c5]
            by_cases c6 : r = e
            · rw [if_pos c6]; exact lo p p1 (by omega)
            · rw [if_neg c6]; exact s1 p r p1 p2 (by omega)
    rw [show (((b - m : Nat) : Int) == 1) = false from beq_eq_false_iff_ne.2 (by omega), cond_false]
    -- the general case, from the cut on
    have go : ∀ (lo hi : Nat), a ≤ lo → hi ≤ m → hi ≤ (a + b) / 2 → lo ≤ hi → (a + b) / 2 + m - lo ≤ b → (lo = a ∨ (a + b) / 2 + m - lo = b) → (hi = m ∨ hi = (a + b) / 2) →
        ∃ d', L5 a m b ((a + b) / 2 : Nat) (((a + b) / 2 + m : Nat) : Int) lo hi (((a + b) / 2 + m - 1 : Nat) : Int) d = some (d', ()) ∧ Rng z a b d d' ∧ Srt z lt' a b d' := by
      intro lo hi h1 h2 h3 h4 h5 h6 h7
      generalize hM : (a + b) / 2 = M at *
      obtain ⟨s, d1, e1, g1, g2, r1, x1, g3, g4⟩ := find5 ok q a m b M lo hi d ham hmb (by omega) hb hd h1 h2 h3 h5 ag (hi - lo) lo hi (Nat.le_refl _) (Nat.le_refl _) h4 (Nat.le_refl _) (.inl rfl) (.inl rfl)
      rw [e1, q.j6, SJ6]
      -- what lies where
      have k1 : ∀ k, a ≤ k → k < s → d1.getD k z = d.getD k z := fun k _ _ => by rw [x1 k, if_neg (by omega), if_neg (by omega)]
      have k2 : ∀ k, s ≤ k → k < M → d1.getD k z = d.getD (k - s + m) z := fun k _ _ => by rw [x1 k, if_pos (by omega)]
      have k3 : ∀ k, M ≤ k → k < M + m - s → d1.getD k z = d.getD (k - M + s) z := fun k _ _ => by rw [x1 k, if_neg (by omega), if_pos (by omega)]; congr 1; omega
      have k4 : ∀ k, M + m - s ≤ k → k < b → d1.getD k z = d.getD k z := fun k _ _ => by rw [x1 k, if_neg (by omega), if_neg (by omega)]
      have cross : ∀ x y, a ≤ x → x < M → M ≤ y → y < b → lt' (d1.getD y z) (d1.getD x z) = false := by
        intro x y v1 v2 v3 v4
        by_cases u1 : x < s
        · rw [k1 x v1 u1]
          by_cases u2 : y < M + m - s
          · rw [k3 y v3 u2]; exact s1 x (y - M + s) v1 (by omega) (by omega)
          · rw [k4 y (by omega) v4]
            have w1 : lt' (d.getD (M + m - s) z) (d.getD (s - 1) z) = false := by
              rcases g3 with g3 | g3
              · omega
              · exact g3
            have w2 : lt' (d.getD y z) (d.getD (M + m - s) z) = false := by
              by_cases u3 : y = M + m - s
              · rw [u3]; exact sw.irr _
              · exact s2 (M + m - s) y (by omega) (by omega) v4
            have w3 : lt' (d.getD (s - 1) z) (d.getD x z) = false := by
              by_cases u3 : x = s - 1
              · rw [u3]; exact sw.irr _
              · exact s1 x (s - 1) v1 (by omega) (by omega)
            exact sw.ntr _ _ _ w2 (sw.ntr _ _ _ w1 w3)
        · rw [k2 x (by omega) v2]
          by_cases u2 : y < M + m - s
          · rw [k3 y v3 u2]
            have w1 : lt' (d.getD (M + m - 1 - s) z) (d.getD s z) = true := by
              rcases g4 with g4 | g4
              · omega
              · exact g4
            have w2 : lt' (d.getD (y - M + s) z) (d.getD s z) = false := by
              by_cases u3 : y = M
              · rw [show y - M + s = s by omega]; exact sw.irr _
              · exact s1 s (y - M + s) (by omega) (by omega) (by omega)
            have w3 : lt' (d.getD (M + m - 1 - s) z) (d.getD (x - s + m) z) = false := by
              by_cases u3 : x - s + m = M + m - 1 - s
              · rw [u3]; exact sw.irr _
              · exact s2 (x - s + m) (M + m - 1 - s) (by omega) (by omega) (by omega)
            exact sw.ntr _ _ _ w2 (sw.ntr _ _ _ (sw.asym _ _ w1) w3)
          · rw [k4 y (by omega) v4]; exact s2 (x - s + m) y (by omega) (by omega) v4
      have sl1 : Srt z lt' a s d1 := fun p r p1 p2 p3 => by rw [k1 p p1 (by omega), k1 r (by omega) p3]; exact s1 p r p1 p2 (by omega)
      have sl2 : Srt z lt' s M d1 := fun p r p1 p2 p3 => by rw [k2 p p1 (by omega), k2 r (by omega) p3]; exact s2 _ _ (by omega) (by omega) (by omega)
      have sr1 : Srt z lt' M (M + m - s) d1 := fun p r p1 p2 p3 => by rw [k3 p p1 (by omega), k3 r (by omega) p3]; exact s1 _ _ (by omega) (by omega) (by omega)
      have sr2 : Srt z lt' (M + m - s) b d1 := fun p r p1 p2 p3 => by rw [k4 p p1 (by omega), k4 r (by omega) p3]; exact s2 p r (by omega) p2 p3
      have tail : ∀ d2, Rng z a M d1 d2 → Srt z lt' a M d2 → ∃ d', J7 b M ((M + m - s : Nat) : Int) d2 = some (d', ()) ∧ Rng z a b d d' ∧ Srt z lt' a b d' := by
        intro d2 r2 t2
        rw [q.j7, SJ7]
        have l2 : d2.length = d.length := r2.len.trans r1.len
        have fin : ∀ d3, Rng z M b d2 d3 → Srt z lt' M b d3 → Rng z a b d d3 ∧ Srt z lt' a b d3 := by
          intro d3 r3 t3
          refine ⟨r1.trans ((r2.mono (Nat.le_refl _) (by omega)).trans (r3.mono (by omega) (Nat.le_refl _))), fun p r p1 p2 p3 => ?_⟩
          by_cases v1 : M ≤ p
          · exact t3 p r v1 p2 p3
          · by_cases v2 : r < M
            · rw [r3.out p (by omega), r3.out r (by omega)]; exact t2 p r p1 p2 v2
            · rw [r3.out p (by omega)]
              obtain ⟨j, j1, j2, j3⟩ := r3.mem r (by omega) p3
              obtain ⟨i, i1, i2, i3⟩ := r2.mem p p1 (by omega)
              rw [j3, i3, r2.out j (by omega)]
              exact cross i j i1 i2 j1 j2
        by_cases v1 : M < M + m - s
        · rw [cd_t (by omega)]
          by_cases v2 : M + m - s < b
          · rw [cd_t (by omega)]
            obtain ⟨d3, y1, y2, y3⟩ := merge sw ok q n M (M + m - s) b d2 (by omega) v1 v2 (by rw [l2]; exact hb) (by rw [l2]; exact hd) (sr1.get fun k _ _ => r2.out k (by omega)) (sr2.get fun k _ _ => r2.out k (by omega)) (fun x y u1 u2 u3 u4 => by
              rw [r2.out x (by omega), r2.out y (by omega), k3 x u1 u2, k4 y u3 u4]
              exact ag _ _ (by omega) (by omega) (by omega) u4)
            rw [y1, bind_some']
            exact ⟨d3, rfl, fin d3 y2 y3⟩
          · rw [cd_f (by omega)]
            have hE : M + m - s = b := by omega
            exact ⟨d2, rfl, fin d2 (.refl _ _ _ _) (by rw [hE] at sr1; exact sr1.get fun k _ _ => r2.out k (by omega))⟩
        · rw [cd_f (by omega)]
          have hE : M + m - s = M := by omega
          exact ⟨d2, rfl, fin d2 (.refl _ _ _ _) (by rw [hE] at sr2; exact sr2.get fun k _ _ => r2.out k (by omega))⟩
      by_cases v1 : a < s
      · rw [cd_t (by omega)]
        by_cases v2 : s < M
        · rw [cd_t (by omega)]
          obtain ⟨d2, y1, y2, y3⟩ := merge sw ok q n a s M d1 (by omega) v1 v2 (by rw [r1.len]; omega) (by rw [r1.len]; exact hd) sl1 sl2 (fun x y u1 u2 u3 u4 => by
            rw [k1 x u1 u2, k2 y u3 u4]
            exact ag _ _ u1 (by omega) (by omega) (by omega))
          rw [y1, bind_some']
          exact tail d2 y2 y3
        · rw [cd_f (by omega)]
          have hE : s = M := by omega
          exact tail d1 (.refl _ _ _ _) (by rw [hE] at sl1; exact sl1)
      · rw [cd_f (by omega)]
        have hE : s = a := by omega
        exact tail d1 (.refl _ _ _ _) (by rw [hE] at sl2; exact sl2)
    by_cases c3 : m > (a + b) / 2
    · rw [cd_t (by omega)]
      simp (disch := omega) only [wrap64, cs, cs1, ca, q.j2]
      exact go ((a + b) / 2 + m - b) ((a + b) / 2) (by omega) (by omega) (by omega) (by omega) (by omega) (by omega) (.inr rfl)
    · rw [cd_f (by omega)]
      simp (disch := omega) only [wrap64, cs, cs1, ca, q.j2]
      exact go a m (by omega) (by omega) (by omega) (by omega) (by omega) (.inl rfl) (.inl rfl)
end Sym
namespace Stb
def SL0 (ins : List T → Int → Int → RS T) (kL0 : Int → Int → Int → Int → List T → RS T) (kL1 : Int → Int → List T → RS T) (n_1 : Int) (blockSize : Int) (a : Int) (b : Int) (data_P : List T) : RS T :=
  cond (decide (b ≤ n_1))
    (Option.bind (ins data_P a b) fun x1 =>
    kL0 n_1 blockSize b (IntKind.i64.wrap (b + blockSize)) x1.1)
    (Option.bind (ins data_P a n_1) fun x2 =>
    kL1 n_1 blockSize x2.1)
def SL1 (kL2 : Int → Int → Int → Int → List T → RS T) (n_1 : Int) (blockSize : Int) (data_P : List T) : RS T :=
  cond (decide (blockSize < n_1))
    (kL2 n_1 blockSize 0 (IntKind.i64.wrap (2 * blockSize)) data_P)
    (some (data_P, ()))
def SL2 (mrg : List T → Int → Int → Int → RS T) (kL2 : Int → Int → Int → Int → List T → RS T) (kL1 : Int → Int → List T → RS T) (n_1 : Int) (blockSize : Int) (a : Int) (b : Int) (data_P : List T) : RS T :=
  cond (decide (b ≤ n_1))
    (Option.bind (mrg data_P a (IntKind.i64.wrap (a + blockSize)) b) fun x1 =>
    kL2 n_1 blockSize b (IntKind.i64.wrap (b + (IntKind.i64.wrap (2 * blockSize)))) x1.1)
    (cond (decide ((IntKind.i64.wrap (a + blockSize)) < n_1))
      (Option.bind (mrg data_P a (IntKind.i64.wrap (a + blockSize)) n_1) fun x2 =>
      kL1 n_1 (IntKind.i64.wrap (blockSize * 2)) x2.1)
      (kL1 n_1 (IntKind.i64.wrap (blockSize * 2)) data_P))
/-- The equations of the stable sort. -/
structure Eqs (ins : List T → Int → Int → RS T) (mrg : List T → Int → Int → Int → RS T) (L0 : Int → Int → Int → Int → List T → RS T) (L1 : Int → Int → List T → RS T) (L2 : Int → Int → Int → Int → List T → RS T) : Prop where
  l0 : ∀ n s a b d, L0 n s a b d = SL0 ins L0 L1 n s a b d
  l1 : ∀ n s d, L1 n s d = SL1 L2 n s d
  l2 : ∀ n s a b d, L2 n s a b d = SL2 mrg L2 L1 n s a b d
/-- What is compared agrees with the order, of any two, the earlier first. -/
def Ag (z : T) (lt lt' : T → T → Bool) (n : Nat) (d : List T) : Prop := ∀ p q, p < q → q < n → lt (d.getD q z) (d.getD p z) = lt' (d.getD q z) (d.getD p z)
structure OK (z : T) (lt lt' : T → T → Bool) (ins : List T → Int → Int → RS T) (mrg : List T → Int → Int → Int → RS T) : Prop where
  ins : ∀ (a b : Nat) (d : List T), a ≤ b → b ≤ d.length → d.length ≤ 4611686018427387904 → (∀ p q, a ≤ p → p < q → q < b → lt (d.getD q z) (d.getD p z) = lt' (d.getD q z) (d.getD p z)) → ∃ d', ins d a b = some (d', ()) ∧ Rng z a b d d' ∧ Srt z lt' a b d'
  mrg : ∀ (a m b : Nat) (d : List T), a < m → m < b → b ≤ d.length → d.length ≤ 4611686018427387904 → Srt z lt' a m d → Srt z lt' m b d →
      (∀ x y, a ≤ x → x < m → m ≤ y → y < b → lt (d.getD y z) (d.getD x z) = lt' (d.getD y z) (d.getD x z)) → ∃ d', mrg d a m b = some (d', ()) ∧ Rng z a b d d' ∧ Srt z lt' a b d'
variable {z : T} {lt lt' : T → T → Bool} {ins : List T → Int → Int → RS T} {mrg : List T → Int → Int → Int → RS T} {L0 L2 : Int → Int → Int → Int → List T → RS T} {L1 : Int → Int → List T → RS T}
theorem Ag.rng (sub : ∀ x y, lt x y = true → lt' x y = true) {n a b : Nat} {d d' : List T} (h : Ag z lt lt' n d) (r : Rng z a b d d') (hb : b ≤ n) (s : Srt z lt' a b d') : Ag z lt lt' n d' := by
  intro p q h1 h2
  by_cases c : a ≤ p ∧ q < b
  · have e := s p q c.1 h1 c.2
    rw [e]
    cases e2 : lt (d'.getD q z) (d'.getD p z) with
    | false => rfl
    | true => rw [sub _ _ e2] at e; cases e
  · have w : ∀ k, ∃ j, d'.getD k z = d.getD j z ∧ (k < a → j = k) ∧ (b ≤ k → j = k) ∧ (a ≤ k → k < b → a ≤ j ∧ j < b) := fun k => by
      by_cases c1 : a ≤ k ∧ k < b
      · obtain ⟨j, j1, j2, j3⟩ := r.mem k c1.1 c1.2
        exact ⟨j, j3, by omega, by omega, fun _ _ => ⟨j1, j2⟩⟩
      · exact ⟨k, r.out k (by omega), fun _ => rfl, fun _ => rfl, by omega⟩
    obtain ⟨i, i1, i2, i3, i4⟩ := w p
    obtain ⟨j, j1, j2, j3, j4⟩ := w q
    rw [i1, j1]
    refine h i j ?_ ?_
    · by_cases c1 : p < a
      · have := i2 c1
        by_cases c2 : q < a
        · have := j2 c2; omega
        · by_cases c3 : q < b
          · have := j4 (by omega) c3; omega
          · have := j3 (by omega); omega
      · by_cases c2 : p < b
        · have := i4 (by omega) c2
          have := j3 (by omega); omega
        · have := i3 (by omega)
          have := j3 (by omega); omega
    · by_cases c1 : q < a
      · have := j2 c1; omega
      · by_cases c2 : q < b
        · have := j4 (by omega) c2; omega
        · have := j3 (by omega); omega
/-- In blocks of s, each in order. -/
def Blk (z : T) (lt' : T → T → Bool) (s n : Nat) (d : List T) : Prop := ∀ c, Srt z lt' (c * s) (min ((c + 1) * s) n) d
def Goal (z : T) (lt' : T → T → Bool) (n : Nat) (d : List T) (r : RS T) : Prop := ∃ d', r = some (d', ()) ∧ Rng z 0 n d d' ∧ Srt z lt' 0 n d'
theorem Goal.from {n : Nat} {d d1 : List T} {r : RS T} (r0 : Rng z 0 n d d1) (g : Goal z lt' n d1 r) : Goal z lt' n d r := by
  obtain ⟨d', e, r, s⟩ := g
  exact ⟨d', e, r0.trans r, s⟩
theorem merges (sub : ∀ x y, lt x y = true → lt' x y = true) (ok : OK z lt lt' ins mrg) (q : Eqs ins mrg L0 L1 L2) (n s : Nat) (hs : 1 ≤ s) (hsn : s < n) :
    ∀ (k c : Nat) (d : List T), n - c * (2 * s) ≤ k → c * (2 * s) ≤ n → n ≤ d.length → d.length ≤ 1152921504606846976 → Ag z lt lt' n d →
      (∀ c', c' < c → Srt z lt' (c' * (2 * s)) ((c' + 1) * (2 * s)) d) → (∀ c', 2 * c ≤ c' → Srt z lt' (c' * s) (min ((c' + 1) * s) n) d) →
      (∀ d', Rng z 0 n d d' → Ag z lt lt' n d' → Blk z lt' (2 * s) n d' → Goal z lt' n d' (L1 n ((2 * s : Nat) : Int) d')) → Goal z lt' n d (L2 n s ((c * (2 * s) : Nat) : Int) ((c * (2 * s) + 2 * s : Nat) : Int) d)
  | k, c, d, hk, hc, hn, hd, ag, lo, hi, next => by
    rw [q.l2, SL2]
    have a1 : 2 * c * s = c * (2 * s) := by rw [Nat.mul_comm 2 c, Nat.mul_assoc]
    have a2 : (2 * c + 1) * s = c * (2 * s) + s := by rw [Nat.add_mul, a1, Nat.one_mul]
    have a3 : (2 * c + 1 + 1) * s = c * (2 * s) + 2 * s := by rw [Nat.add_mul, a2, Nat.one_mul]; omega
    have a4 : (c + 1) * (2 * s) = c * (2 * s) + 2 * s := by rw [Nat.add_mul, Nat.one_mul]
    have mo : ∀ c', c' < c → (c' + 1) * (2 * s) ≤ c * (2 * s) := fun c' h => Nat.mul_le_mul_right _ h
    have h1 := hi (2 * c) (Nat.le_refl _)
    have h2 := hi (2 * c + 1) (by omega)
    rw [a1, a2] at h1
    rw [a2, a3] at h2
    generalize hA : c * (2 * s) = A at *
    have e2 : (s : Int) * 2 = ((2 * s : Nat) : Int) := by omega
    simp (disch := omega) only [wrap64, ca, cm2, e2]
    by_cases c1 : A + 2 * s ≤ n
    · rw [cd_t (by omega)]
      rw [Nat.min_eq_left (by omega)] at h1 h2
      obtain ⟨d1, e1, r1, s1⟩ := ok.mrg A (A + s) (A + 2 * s) d (by omega) (by omega) (by omega) (by omega) h1 h2 (fun x y x1 x2 y1 y2 => ag x y (by omega) (by omega))
      rw [e1, bind_some']
      have ag1 := ag.rng sub r1 c1 s1
      have r1' : Rng z 0 n d d1 := r1.mono (by omega) c1
      cases k with
      | zero => omega
      | succ k =>
      refine Goal.from r1' ?_
      have := merges sub ok q n s hs hsn k (c + 1) d1 (by rw [a4]; omega) (by rw [a4]; omega) (by rw [r1.len]; exact hn) (by rw [r1.len]; exact hd) ag1 (fun c' hc' => ?_) (fun c' hc' => ?_) (fun d' r' => next d' (r1'.trans r'))
      · rw [a4] at this
        exact this
      · by_cases c2 : c' = c
        · rw [c2, a4, hA]; exact s1
        · have := mo c' (by omega)
          exact (lo c' (by omega)).get (fun k _ _ => r1.out k (by omega))
      · have : A + 2 * s ≤ c' * s := by
          rw [← a3]; exact Nat.mul_le_mul_right _ (by omega)
        exact (hi c' (by omega)).get (fun k _ _ => r1.out k (by omega))
    · rw [cd_f (by omega)]
      have blk : ∀ d1, (∀ k, k < A → d1.getD k z = d.getD k z) → Srt z lt' A n d1 → Blk z lt' (2 * s) n d1 := by
        intro d1 out s1 c'
        by_cases c2 : c' < c
        · have := mo c' c2
          rw [Nat.min_eq_left (by omega)]
          exact (lo c' c2).get (fun k _ _ => out k (by omega))
        · by_cases c3 : c' = c
          · rw [c3, a4, hA, Nat.min_eq_right (by omega)]; exact s1
          · have : (c + 1) * (2 * s) ≤ c' * (2 * s) := Nat.mul_le_mul_right _ (by omega)
            rw [a4] at this
            intro p q p1 p2 p3
            omega
      by_cases c2 : A + s < n
      · rw [cd_t (by omega)]
        rw [Nat.min_eq_left (by omega)] at h1
        rw [Nat.min_eq_right (by omega)] at h2
        obtain ⟨d1, e1, r1, s1⟩ := ok.mrg A (A + s) n d (by omega) c2 hn (by omega) h1 h2 (fun x y x1 x2 y1 y2 => ag x y (by omega) (by omega))
        rw [e1, bind_some']
        have ag1 := ag.rng sub r1 (Nat.le_refl _) s1
        have r1' : Rng z 0 n d d1 := r1.mono (by omega) (Nat.le_refl _)
        exact Goal.from r1' (next d1 r1' ag1 (blk d1 (fun k hk => r1.out k (by omega)) s1))
      · rw [cd_f (by omega)]
        rw [Nat.min_eq_right (by omega)] at h1
        exact next d (.refl _ _ _ _) ag (blk d (fun _ _ => rfl) h1)
theorem rounds (sub : ∀ x y, lt x y = true → lt' x y = true) (ok : OK z lt lt' ins mrg) (q : Eqs ins mrg L0 L1 L2) (n : Nat) :
    ∀ (k s : Nat) (d : List T), n - s ≤ k → 1 ≤ s → n ≤ d.length → d.length ≤ 1152921504606846976 → s ≤ 2 * 1152921504606846976 → Ag z lt lt' n d → Blk z lt' s n d → Goal z lt' n d (L1 n s d)
  | k, s, d, hk, hs, hn, hd, hs2, ag, blk => by
    rw [q.l1, SL1]
    by_cases c : s < n
    · rw [cd_t (by omega)]
      simp (disch := omega) only [wrap64, cm2]
      cases k with
      | zero => omega
      | succ k =>
      have := merges sub ok q n s hs c n 0 d (by omega) (by omega) hn hd ag (by omega) (fun c' _ => blk c') (fun d' r' ag' blk' => rounds sub ok q n k (2 * s) d' (by omega) (by omega) (by rw [r'.len]; exact hn) (by rw [r'.len]; exact hd) (by omega) ag' blk')
      simp only [Nat.zero_mul, Nat.zero_add] at this
      exact this
    · rw [cd_f (by omega)]
      refine ⟨d, rfl, .refl _ _ _ _, ?_⟩
      have := blk 0
      rwa [Nat.zero_mul, Nat.zero_add, Nat.one_mul, Nat.min_eq_right (by omega)] at this
theorem blocks (sub : ∀ x y, lt x y = true → lt' x y = true) (ok : OK z lt lt' ins mrg) (q : Eqs ins mrg L0 L1 L2) (n : Nat) :
    ∀ (k c : Nat) (d : List T), n - c * 20 ≤ k → c * 20 ≤ n → n ≤ d.length → d.length ≤ 1152921504606846976 → Ag z lt lt' n d → (∀ c', c' < c → Srt z lt' (c' * 20) (c' * 20 + 20) d) → Goal z lt' n d (L0 n 20 ((c * 20 : Nat) : Int) ((c * 20 + 20 : Nat) : Int) d)
  | k, c, d, hk, hc, hn, hd, ag, lo => by
    rw [q.l0, SL0]
    by_cases c1 : c * 20 + 20 ≤ n
    · rw [cd_t (by omega)]
      obtain ⟨d1, e1, r1, s1⟩ := ok.ins (c * 20) (c * 20 + 20) d (by omega) (by omega) (by omega) (fun p q p1 p2 p3 => ag p q p2 (by omega))
      rw [e1, bind_some', wrap64 (by omega) (by omega)]
      have r1' : Rng z 0 n d d1 := r1.mono (by omega) c1
      cases k with
      | zero => omega
      | succ k =>
      have := blocks sub ok q n k (c + 1) d1 (by omega) (by omega) (by rw [r1.len]; exact hn) (by rw [r1.len]; exact hd) (ag.rng sub r1 c1 s1) (fun c' hc' => by
        by_cases c2 : c' = c
        · rw [c2]; exact s1
        · exact (lo c' (by omega)).get (fun k _ _ => r1.out k (by omega)))
      rw [show (c + 1) * 20 = c * 20 + 20 by omega] at this
      exact Goal.from r1' this
    · rw [cd_f (by omega)]
      obtain ⟨d1, e1, r1, s1⟩ := ok.ins (c * 20) n d hc hn (by omega) (fun p q p1 p2 p3 => ag p q p2 p3)
      rw [e1, bind_some']
      have r1' : Rng z 0 n d d1 := r1.mono (by omega) (Nat.le_refl _)
      refine Goal.from r1' (rounds sub ok q n n 20 d1 (by omega) (by omega) (by rw [r1.len]; exact hn) (by rw [r1.len]; exact hd) (by omega) (ag.rng sub r1 (Nat.le_refl _) s1) (fun c' => ?_))
      by_cases c2 : c' < c
      · rw [Nat.min_eq_left (by omega), show (c' + 1) * 20 = c' * 20 + 20 by omega]
        exact (lo c' c2).get (fun k _ _ => r1.out k (by omega))
      · by_cases c3 : c' = c
        · rw [c3, Nat.min_eq_right (by omega)]; exact s1
        · intro p q p1 p2 p3
          omega
/-- The stable sort: the same values, in the finer order. -/
theorem spec (sub : ∀ x y, lt x y = true → lt' x y = true) (ok : OK z lt lt' ins mrg) (q : Eqs ins mrg L0 L1 L2) (d : List T) (hd : d.length ≤ 1152921504606846976) (ag : Ag z lt lt' d.length d) :
    ∃ d', L0 (d.length : Int) 20 0 20 d = some (d', ()) ∧ d'.Perm d ∧ d'.Pairwise (fun x y => lt' y x = false) := by
  obtain ⟨d', e, r, s⟩ := blocks sub ok q d.length d.length 0 d (by omega) (by omega) (Nat.le_refl _) hd ag (by omega)
  refine ⟨d', e, r.perm, List.pairwise_iff_getElem.2 fun i j hi hj hij => ?_⟩
  have := s i j (by omega) hij (by rw [← r.len]; exact hj)
  rwa [getD_nat hi, getD_nat hj] at this
end Stb
end Go.Proofs.Ytphpegconhdnfaa
