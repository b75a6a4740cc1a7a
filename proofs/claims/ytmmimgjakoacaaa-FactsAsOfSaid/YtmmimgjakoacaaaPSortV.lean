import Derived.Test.YtmmimgjakoacaaaPBase
set_option maxRecDepth 100000
set_option linter.unusedVariables false
set_option linter.unusedSimpArgs false
namespace Go.Proofs.Ytmmimgjakoacaaa
open Go Go.Lift
variable {T : Type}
theorem cd_t {p : Prop} [Decidable p] {α : Type} {A B : α} (h : p) : cond (decide p) A B = A := by simp [h]
theorem cd_f {p : Prop} [Decidable p] {α : Type} {A B : α} (h : ¬ p) : cond (decide p) A B = B := by simp [h]
theorem cd_b {p q : Prop} [Decidable p] [Decidable q] {α : Type} {A B : α} (h : p) (h' : q) : cond (decide p && decide q) A B = A := by simp [h, h']
theorem ca (i j : Nat) : (i : Int) + (j : Int) = ((i + j : Nat) : Int) := by omega
theorem ca1 (i : Nat) : (i : Int) + 1 = ((i + 1 : Nat) : Int) := by omega
theorem cs1 {i : Nat} (h : 1 ≤ i) : (i : Int) - 1 = ((i - 1 : Nat) : Int) := by omega
theorem cs {i j : Nat} (h : j ≤ i) : (i : Int) - (j : Int) = ((i - j : Nat) : Int) := by omega
theorem cm2 (i : Nat) : 2 * (i : Int) = ((2 * i : Nat) : Int) := by omega
/-- Two places of a row exchanged. -/
def swp (z : T) (i j : Nat) (d : List T) : List T := (d.set i (d.getD j z)).set j (d.getD i z)
theorem swp_len (z : T) (i j : Nat) (d : List T) : (swp z i j d).length = d.length := by simp [swp]
theorem getD_set_if (l : List T) (i k : Nat) (x z : T) : (l.set i x).getD k z = if i = k ∧ k < l.length then x else l.getD k z := by
  simp only [List.getD_eq_getElem?_getD, List.getElem?_set]
  by_cases h : i = k
  · subst h
    by_cases h2 : i < l.length <;> simp [h2]
  · simp [h]
theorem swp_get {z : T} {i j : Nat} {d : List T} (hi : i < d.length) (hj : j < d.length) (k : Nat) : (swp z i j d).getD k z = if k = j then d.getD i z else if k = i then d.getD j z else d.getD k z := by
  simp only [swp, getD_set_if, List.length_set]
  by_cases h1 : k = j
  · subst h1; simp [hj]
  · by_cases h2 : k = i
    · subst h2; simp [h1, hi, Ne.symm h1]
    · simp [h1, h2, Ne.symm h1, Ne.symm h2]
theorem swp_perm {z : T} {i j : Nat} {d : List T} (hi : i < d.length) (hj : j < d.length) : (swp z i j d).Perm d := by
  have : ((d.set i d[j]).set j d[i]).Perm d := List.set_set_perm hi hj
  simpa [swp, List.getD_eq_getElem?_getD, hi, hj] using this
/-- A row changed only at places from a on and before b, and only by moving what lay there. -/
structure Rng (z : T) (a b : Nat) (d d' : List T) : Prop where
  len : d'.length = d.length
  perm : d'.Perm d
  out : ∀ k, k < a ∨ b ≤ k → d'.getD k z = d.getD k z
  mem : ∀ k, a ≤ k → k < b → ∃ j, a ≤ j ∧ j < b ∧ d'.getD k z = d.getD j z
theorem Rng.refl (z : T) (a b : Nat) (d : List T) : Rng z a b d d := ⟨rfl, .refl _, fun _ _ => rfl, fun k h1 h2 => ⟨k, h1, h2, rfl⟩⟩
theorem Rng.trans {z : T} {a b : Nat} {d d' d'' : List T} (h : Rng z a b d d') (h' : Rng z a b d' d'') : Rng z a b d d'' :=
  ⟨h'.len.trans h.len, h'.perm.trans h.perm, fun k hk => (h'.out k hk).trans (h.out k hk), fun k h1 h2 => by
    obtain ⟨j, j1, j2, j3⟩ := h'.mem k h1 h2
    obtain ⟨m, m1, m2, m3⟩ := h.mem j j1 j2
    exact ⟨m, m1, m2, j3.trans m3⟩⟩
theorem Rng.mono {z : T} {a b a' b' : Nat} {d d' : List T} (h : Rng z a b d d') (ha : a' ≤ a) (hb : b ≤ b') : Rng z a' b' d d' :=
  ⟨h.len, h.perm, fun k hk => h.out k (by omega), fun k h1 h2 => by
    by_cases hk : a ≤ k ∧ k < b
    · obtain ⟨j, j1, j2, j3⟩ := h.mem k hk.1 hk.2
      exact ⟨j, by omega, by omega, j3⟩
    · exact ⟨k, h1, h2, h.out k (by omega)⟩⟩
theorem Rng.swap {z : T} {a b i j : Nat} {d : List T} (hb : b ≤ d.length) (h1 : a ≤ i) (h2 : i < b) (h3 : a ≤ j) (h4 : j < b) : Rng z a b d (swp z i j d) := by
  have hi : i < d.length := by omega
  have hj : j < d.length := by omega
  refine ⟨swp_len z i j d, swp_perm hi hj, fun k hk => ?_, fun k k1 k2 => ?_⟩
  · rw [swp_get hi hj, if_neg (by omega), if_neg (by omega)]
  · rw [swp_get hi hj]
    by_cases e : k = j
    · exact ⟨i, h1, h2, by rw [if_pos e]⟩
    · by_cases e' : k = i
      · exact ⟨j, h3, h4, by rw [if_neg e, if_pos e']⟩
      · exact ⟨k, k1, k2, by rw [if_neg e, if_neg e']⟩
/-- A strict weak order. -/
structure SW (lt : T → T → Bool) : Prop where
  asym : ∀ x y, lt x y = true → lt y x = false
  ntr : ∀ x y w, lt x y = false → lt y w = false → lt x w = false
theorem SW.irr {lt : T → T → Bool} (h : SW lt) (x : T) : lt x x = false := by
  cases e : lt x x with
  | false => rfl
  | true => rw [h.asym x x e] at e; cases e
theorem SW.le_lt {lt : T → T → Bool} (h : SW lt) {x y w : T} (h1 : lt y x = false) (h2 : lt y w = true) : lt x w = true := by
  cases e : lt x w with
  | true => rfl
  | false => rw [h.ntr y x w h1 e] at h2; cases h2
/-- In order from a on and before b. -/
def Srt (z : T) (lt : T → T → Bool) (a b : Nat) (d : List T) : Prop := ∀ p q, a ≤ p → p < q → q < b → lt (d.getD q z) (d.getD p z) = false
/-- Nothing from a on and before b is less than the one ahead of a. -/
def Low (z : T) (lt : T → T → Bool) (a b : Nat) (d : List T) : Prop := 1 ≤ a → ∀ k, a ≤ k → k < b → lt (d.getD k z) (d.getD (a - 1) z) = false
theorem Srt.get {z : T} {lt : T → T → Bool} {a b : Nat} {d d' : List T} (h : Srt z lt a b d) (e : ∀ k, a ≤ k → k < b → d'.getD k z = d.getD k z) : Srt z lt a b d' := by
  intro p q h1 h2 h3
  rw [e p h1 (by omega), e q (by omega) h3]
  exact h p q h1 h2 h3
theorem Low.rng {z : T} {lt : T → T → Bool} {a b : Nat} {d d' : List T} (h : Low z lt a b d) (r : Rng z a b d d') : Low z lt a b d' := by
  intro h0 k h1 h2
  obtain ⟨j, j1, j2, j3⟩ := r.mem k h1 h2
  rw [j3, r.out (a - 1) (by omega)]
  exact h h0 j j1 j2
abbrev RS (T : Type) := Option (List T × Unit)
namespace Ins
def SL0 (kL1 : Int → Int → Int → Int → List T → RS T) (a : Int) (b : Int) (i : Int) (data_P : List T) : RS T :=
  cond (decide (i < b))
    (kL1 a b i i data_P)
    (some (data_P, ()))
def SL1 (z : T) (lt : T → T → Bool) (kJ2 : Int → Int → Int → Int → List T → RS T) (kL0 : Int → Int → Int → List T → RS T) (a : Int) (b : Int) (i : Int) (j : Int) (data_P : List T) : RS T :=
  cond (decide (j > a))
    (cond (decide (0 ≤ j) && decide (j < (data_P.length : Int)))
      (cond (decide (0 ≤ IntKind.i64.wrap (j - 1)) && decide (IntKind.i64.wrap (j - 1) < (data_P.length : Int)))
        (cond (lt (data_P.getD j.toNat z) (data_P.getD ((IntKind.i64.wrap (j - 1)).toNat) z))
          (kJ2 a b i j data_P)
          (kL0 a b (IntKind.i64.wrap (i + 1)) data_P))
        none)
      none)
    (kL0 a b (IntKind.i64.wrap (i + 1)) data_P)
def SJ2 (z : T) (kL1 : Int → Int → Int → Int → List T → RS T) (a : Int) (b : Int) (i : Int) (j : Int) (data_P : List T) : RS T :=
  cond (decide (0 ≤ IntKind.i64.wrap (j - 1)) && decide (IntKind.i64.wrap (j - 1) < (data_P.length : Int)))
    (cond (decide (0 ≤ j) && decide (j < (data_P.length : Int)))
      (cond (decide (0 ≤ j) && decide (j < (data_P.length : Int)))
        (cond (decide (0 ≤ IntKind.i64.wrap (j - 1)) && decide (IntKind.i64.wrap (j - 1) < ((data_P.set j.toNat (data_P.getD ((IntKind.i64.wrap (j - 1)).toNat) z)).length : Int)))
          (kL1 a b i (IntKind.i64.wrap (j - 1)) ((data_P.set j.toNat (data_P.getD ((IntKind.i64.wrap (j - 1)).toNat) z)).set ((IntKind.i64.wrap (j - 1)).toNat) (data_P.getD j.toNat z)))
          none)
        none)
      none)
    none
variable {z : T} {lt : T → T → Bool} {L0 : Int → Int → Int → List T → RS T} {L1 J2 : Int → Int → Int → Int → List T → RS T}
theorem step (hL1 : ∀ a b i j d, L1 a b i j d = SL1 z lt J2 L0 a b i j d) (hJ2 : ∀ a b i j d, J2 a b i j d = SJ2 z L1 a b i j d)
    (a b i j : Nat) (d : List T) (hj : j ≤ i) (hi : i < b) (hb : b ≤ d.length) (hd : d.length ≤ 4611686018427387904) :
    L1 a b i j d = if a < j then cond (lt (d.getD j z) (d.getD (j - 1) z)) (L1 a b i (j - 1 : Nat) (swp z j (j - 1) d)) (L0 a b (i + 1 : Nat) d) else L0 a b (i + 1 : Nat) d := by
  rw [hL1, SL1]
  by_cases h : a < j
  · rw [if_pos h]
    simp (disch := omega) only [cd_t, cd_b, wrap64, ca1, cs1, Int.toNat_natCast]
    rw [hJ2, SJ2]
    simp (disch := omega) only [cd_t, cd_b, wrap64, ca1, cs1, Int.toNat_natCast, List.length_set]
    rfl
  · rw [if_neg h]
    simp (disch := omega) only [cd_f, cd_b, wrap64, ca1, cs1, Int.toNat_natCast]
theorem inner (sw : SW lt) (hL1 : ∀ a b i j d, L1 a b i j d = SL1 z lt J2 L0 a b i j d) (hJ2 : ∀ a b i j d, J2 a b i j d = SJ2 z L1 a b i j d) (a b i : Nat) :
    ∀ (n j : Nat) (d : List T), j - a ≤ n → a ≤ j → j ≤ i → i < b → b ≤ d.length → d.length ≤ 4611686018427387904 →
      (∀ p q, a ≤ p → p < q → q ≤ i → q ≠ j → lt (d.getD q z) (d.getD p z) = false) →
      ∃ d', L1 a b i j d = L0 a b (i + 1 : Nat) d' ∧ Rng z a b d d' ∧ Srt z lt a (i + 1) d'
  | n, j, d, hn, haj, hji, hib, hb, hd, inv => by
    rw [step hL1 hJ2 a b i j d hji hib hb hd]
    by_cases h : a < j
    · rw [if_pos h]
      cases e : lt (d.getD j z) (d.getD (j - 1) z) with
      | true =>
        rw [cond_true]
        have gj : j < d.length := by omega
        have gj' : j - 1 < d.length := by omega
        cases n with
        | zero => omega
        | succ n =>
        obtain ⟨d', h1, h2, h3⟩ := inner sw hL1 hJ2 a b i n (j - 1) (swp z j (j - 1) d) (by omega) (by omega) (by omega) hib (by rw [swp_len]; exact hb) (by rw [swp_len]; exact hd) (by
          intro p q p1 p2 p3 p4
          rw [swp_get gj gj', swp_get gj gj', if_neg p4]
          by_cases q1 : q = j
          · rw [if_pos q1]
            by_cases p5 : p = j - 1
            · rw [if_pos p5]; exact sw.asym _ _ e
            · rw [if_neg p5, if_neg (by omega)]
              exact inv p (j - 1) p1 (by omega) (by omega) (by omega)
          · rw [if_neg q1]
            by_cases p5 : p = j - 1
            · rw [if_pos p5]; exact inv j q (by omega) (by omega) p3 q1
            · rw [if_neg p5]
              by_cases p6 : p = j
              · rw [if_pos p6]; exact inv (j - 1) q (by omega) (by omega) p3 q1
              · rw [if_neg p6]; exact inv p q p1 p2 p3 q1)
        exact ⟨d', h1, (Rng.swap hb (by omega) (by omega) (by omega) (by omega)).trans h2, h3⟩
      | false =>
        refine ⟨d, rfl, .refl _ _ _ _, ?_⟩
        intro p q p1 p2 p3
        by_cases q1 : q = j
        · subst q1
          by_cases p5 : p = q - 1
          · rw [p5]; exact e
          · exact sw.ntr _ _ _ e (inv p (q - 1) p1 (by omega) (by omega) (by omega))
        · exact inv p q p1 p2 (by omega) q1
    · rw [if_neg h]
      refine ⟨d, rfl, .refl _ _ _ _, ?_⟩
      intro p q p1 p2 p3
      exact inv p q p1 p2 (by omega) (by omega)
end Ins
namespace Heap
def SL0 (z : T) (lt : T → T → Bool) (kJ1 : Int → Int → Int → Int → List T → RS T) (hi : Int) (first : Int) (root : Int) (data_P : List T) : RS T :=
  cond (decide ((IntKind.i64.wrap ((IntKind.i64.wrap (2 * root)) + 1)) ≥ hi))
    (some (data_P, ()))
    (cond (decide ((IntKind.i64.wrap ((IntKind.i64.wrap ((IntKind.i64.wrap (2 * root)) + 1)) + 1)) < hi))
      (cond (decide (0 ≤ IntKind.i64.wrap (first + (IntKind.i64.wrap ((IntKind.i64.wrap (2 * root)) + 1)))) && decide (IntKind.i64.wrap (first + (IntKind.i64.wrap ((IntKind.i64.wrap (2 * root)) + 1))) < (data_P.length : Int)))
        (cond (decide (0 ≤ IntKind.i64.wrap ((IntKind.i64.wrap (first + (IntKind.i64.wrap ((IntKind.i64.wrap (2 * root)) + 1)))) + 1)) && decide (IntKind.i64.wrap ((IntKind.i64.wrap (first + (IntKind.i64.wrap ((IntKind.i64.wrap (2 * root)) + 1)))) + 1) < (data_P.length : Int)))
          (cond (lt (data_P.getD ((IntKind.i64.wrap (first + (IntKind.i64.wrap ((IntKind.i64.wrap (2 * root)) + 1)))).toNat) z) (data_P.getD ((IntKind.i64.wrap ((IntKind.i64.wrap (first + (IntKind.i64.wrap ((IntKind.i64.wrap (2 * root)) + 1)))) + 1)).toNat) z))
            (kJ1 hi first root (IntKind.i64.wrap ((IntKind.i64.wrap ((IntKind.i64.wrap (2 * root)) + 1)) + 1)) data_P)
            (kJ1 hi first root (IntKind.i64.wrap ((IntKind.i64.wrap (2 * root)) + 1)) data_P))
          none)
        none)
      (kJ1 hi first root (IntKind.i64.wrap ((IntKind.i64.wrap (2 * root)) + 1)) data_P))
def SJ1 (z : T) (lt : T → T → Bool) (kL0 : Int → Int → Int → List T → RS T) (hi : Int) (first : Int) (root : Int) (child : Int) (data_P : List T) : RS T :=
  cond (decide (0 ≤ IntKind.i64.wrap (first + root)) && decide (IntKind.i64.wrap (first + root) < (data_P.length : Int)))
    (cond (decide (0 ≤ IntKind.i64.wrap (first + child)) && decide (IntKind.i64.wrap (first + child) < (data_P.length : Int)))
      (cond (!(lt (data_P.getD ((IntKind.i64.wrap (first + root)).toNat) z) (data_P.getD ((IntKind.i64.wrap (first + child)).toNat) z)))
        (some (data_P, ()))
        (cond (decide (0 ≤ IntKind.i64.wrap (first + child)) && decide (IntKind.i64.wrap (first + child) < (data_P.length : Int)))
          (cond (decide (0 ≤ IntKind.i64.wrap (first + root)) && decide (IntKind.i64.wrap (first + root) < (data_P.length : Int)))
            (cond (decide (0 ≤ IntKind.i64.wrap (first + root)) && decide (IntKind.i64.wrap (first + root) < (data_P.length : Int)))
              (cond (decide (0 ≤ IntKind.i64.wrap (first + child)) && decide (IntKind.i64.wrap (first + child) < ((data_P.set ((IntKind.i64.wrap (first + root)).toNat) (data_P.getD ((IntKind.i64.wrap (first + child)).toNat) z)).length : Int)))
                (kL0 hi first child ((data_P.set ((IntKind.i64.wrap (first + root)).toNat) (data_P.getD ((IntKind.i64.wrap (first + child)).toNat) z)).set ((IntKind.i64.wrap (first + child)).toNat) (data_P.getD ((IntKind.i64.wrap (first + root)).toNat) z)))
                none)
              none)
            none)
          none))
      none)
    none
variable {z : T} {lt : T → T → Bool} {L0 : Int → Int → Int → List T → RS T} {J1 : Int → Int → Int → Int → List T → RS T}
theorem stepJ (hL0 : ∀ hi first root d, L0 hi first root d = SL0 z lt J1 hi first root d) (hJ1 : ∀ hi first root ch d, J1 hi first root ch d = SJ1 z lt L0 hi first root ch d)
    (hi first root ch : Nat) (d : List T) (h1 : root < hi) (h2 : ch < hi) (hb : first + hi ≤ d.length) (hd : d.length ≤ 4611686018427387904) :
    J1 hi first root ch d = cond (lt (d.getD (first + root) z) (d.getD (first + ch) z)) (L0 hi first ch (swp z (first + root) (first + ch) d)) (some (d, ())) := by
  rw [hJ1, SJ1]
  simp (disch := omega) only [cd_t, cd_f, cd_b, wrap64, ca, ca1, cm2, Int.toNat_natCast, List.length_set]
  cases lt (d.getD (first + root) z) (d.getD (first + ch) z) <;> rfl
theorem stepL (hL0 : ∀ hi first root d, L0 hi first root d = SL0 z lt J1 hi first root d) (hJ1 : ∀ hi first root ch d, J1 hi first root ch d = SJ1 z lt L0 hi first root ch d)
    (hi first root : Nat) (d : List T) (h1 : root < hi ∨ root = 0) (hb : first + hi ≤ d.length) (hd : d.length ≤ 4611686018427387904) :
    L0 hi first root d = if hi ≤ 2 * root + 1 then some (d, ()) else
      if 2 * root + 1 + 1 < hi then cond (lt (d.getD (first + (2 * root + 1)) z) (d.getD (first + (2 * root + 1) + 1) z)) (J1 hi first root (2 * root + 1 + 1 : Nat) d) (J1 hi first root (2 * root + 1 : Nat) d)
      else J1 hi first root (2 * root + 1 : Nat) d := by
  rw [hL0, SL0]
  by_cases c1 : hi ≤ 2 * root + 1
  · rw [if_pos c1]
    simp (disch := omega) only [cd_t, cd_f, cd_b, wrap64, ca, ca1, cm2, Int.toNat_natCast, List.length_set]
  · rw [if_neg c1]
    by_cases c2 : 2 * root + 1 + 1 < hi
    · rw [if_pos c2]
      simp (disch := omega) only [cd_t, cd_f, cd_b, wrap64, ca, ca1, cm2, Int.toNat_natCast, List.length_set]
    · rw [if_neg c2]
      simp (disch := omega) only [cd_t, cd_f, cd_b, wrap64, ca, ca1, cm2, Int.toNat_natCast, List.length_set]
/-- No child above its parent, from lo on, within the first hi places of the part that begins at f. -/
def Hp (z : T) (lt : T → T → Bool) (f lo hi : Nat) (d : List T) : Prop := ∀ p c, lo ≤ p → (c = 2 * p + 1 ∨ c = 2 * p + 2) → c < hi → lt (d.getD (f + p) z) (d.getD (f + c) z) = false
/-- The same but at r, whose children don't lie above r's parent. -/
def Hx (z : T) (lt : T → T → Bool) (f lo hi r : Nat) (d : List T) : Prop :=
  (∀ p c, lo ≤ p → p ≠ r → (c = 2 * p + 1 ∨ c = 2 * p + 2) → c < hi → lt (d.getD (f + p) z) (d.getD (f + c) z) = false) ∧
  (∀ p c, lo ≤ p → (r = 2 * p + 1 ∨ r = 2 * p + 2) → (c = 2 * r + 1 ∨ c = 2 * r + 2) → c < hi → lt (d.getD (f + p) z) (d.getD (f + c) z) = false)
theorem down (sw : SW lt) {f lo hi r ch : Nat} {d : List T} (hb : f + hi ≤ d.length) (hlo : lo ≤ r) (hc : ch = 2 * r + 1 ∨ ch = 2 * r + 2) (hch : ch < hi) (hx : Hx z lt f lo hi r d)
    (e : lt (d.getD (f + r) z) (d.getD (f + ch) z) = true)
    (hm : ∀ c, (c = 2 * r + 1 ∨ c = 2 * r + 2) → c < hi → lt (d.getD (f + ch) z) (d.getD (f + c) z) = false) :
    Hx z lt f lo hi ch (swp z (f + r) (f + ch) d) := by
  have g1 : f + r < d.length := by omega
  have g2 : f + ch < d.length := by omega
  refine ⟨fun p c p1 p2 p3 p4 => ?_, fun p c p1 p2 p3 p4 => ?_⟩
  · rw [swp_get g1 g2, swp_get g1 g2, if_neg (show ¬ f + p = f + ch by omega)]
    by_cases q : p = r
    · rw [if_pos (show f + p = f + r by omega)]
      by_cases q2 : c = ch
      · rw [if_pos (show f + c = f + ch by omega)]; exact sw.asym _ _ e
      · rw [if_neg (show ¬ f + c = f + ch by omega), if_neg (show ¬ f + c = f + r by omega)]
        exact hm c (by omega) p4
    · rw [if_neg (show ¬ f + p = f + r by omega), if_neg (show ¬ f + c = f + ch by omega)]
      by_cases q2 : c = r
      · rw [if_pos (show f + c = f + r by omega)]; exact hx.2 p ch p1 (by omega) hc hch
      · rw [if_neg (show ¬ f + c = f + r by omega)]; exact hx.1 p c p1 q p3 p4
  · have q : p = r := by omega
    subst q
    rw [swp_get g1 g2, swp_get g1 g2, if_neg (show ¬ f + p = f + ch by omega), if_pos (show f + p = f + p from rfl), if_neg (show ¬ f + c = f + ch by omega), if_neg (show ¬ f + c = f + p by omega)]
    exact hx.1 ch c (by omega) (by omega) p3 p4
theorem upto (sw : SW lt) {f lo hi r : Nat} {d : List T} (hx : Hx z lt f lo hi r d) (hr : ∀ c, (c = 2 * r + 1 ∨ c = 2 * r + 2) → c < hi → lt (d.getD (f + r) z) (d.getD (f + c) z) = false) : Hp z lt f lo hi d := by
  intro p c p1 p2 p3
  by_cases q : p = r
  · subst q; exact hr c p2 p3
  · exact hx.1 p c p1 q p2 p3
/-- Sifting down mends the heap. -/
theorem sift (sw : SW lt) (hL0 : ∀ hi first root d, L0 hi first root d = SL0 z lt J1 hi first root d) (hJ1 : ∀ hi first root ch d, J1 hi first root ch d = SJ1 z lt L0 hi first root ch d) (f lo hi : Nat) :
    ∀ (n r : Nat) (d : List T), hi - r ≤ n → lo ≤ r → (r < hi ∨ r = 0) → f + hi ≤ d.length → d.length ≤ 4611686018427387904 → Hx z lt f lo hi r d →
      ∃ d', L0 hi f r d = some (d', ()) ∧ Rng z f (f + hi) d d' ∧ Hp z lt f lo hi d'
  | n, r, d, hn, hlo, hr, hb, hd, hx => by
    rw [stepL hL0 hJ1 hi f r d hr hb hd]
    by_cases c1 : hi ≤ 2 * r + 1
    · rw [if_pos c1]
      exact ⟨d, rfl, .refl _ _ _ _, upto sw hx (fun c h1 h2 => by omega)⟩
    rw [if_neg c1]
    have go : ∀ ch, (ch = 2 * r + 1 ∨ ch = 2 * r + 2) → ch < hi → (∀ c, (c = 2 * r + 1 ∨ c = 2 * r + 2) → c < hi → lt (d.getD (f + ch) z) (d.getD (f + c) z) = false) →
        ∃ d', J1 hi f r (ch : Nat) d = some (d', ()) ∧ Rng z f (f + hi) d d' ∧ Hp z lt f lo hi d' := by
      intro ch h1 h2 hm
      rw [stepJ hL0 hJ1 hi f r ch d (by omega) h2 hb hd]
      cases e : lt (d.getD (f + r) z) (d.getD (f + ch) z) with
      | true =>
        cases n with
        | zero => omega
        | succ n =>
        obtain ⟨d', e1, r1, s1⟩ := sift sw hL0 hJ1 f lo hi n ch (swp z (f + r) (f + ch) d) (by omega) (by omega) (.inl h2) (by rw [swp_len]; exact hb) (by rw [swp_len]; exact hd) (down sw hb hlo h1 h2 hx e hm)
        exact ⟨d', e1, (Rng.swap hb (by omega) (by omega) (by omega) (by omega)).trans r1, s1⟩
      | false => exact ⟨d, rfl, .refl _ _ _ _, upto sw hx (fun c k1 k2 => sw.ntr _ _ _ e (hm c k1 k2))⟩
    by_cases c2 : 2 * r + 1 + 1 < hi
    · rw [if_pos c2]
      cases e : lt (d.getD (f + (2 * r + 1)) z) (d.getD (f + (2 * r + 1) + 1) z) with
      | true =>
        refine go (2 * r + 1 + 1) (.inr rfl) c2 (fun c k1 k2 => ?_)
        rcases k1 with k1 | k1 <;> subst k1
        · exact sw.asym _ _ e
        · exact sw.irr _
      | false =>
        refine go (2 * r + 1) (.inl rfl) (by omega) (fun c k1 k2 => ?_)
        rcases k1 with k1 | k1 <;> subst k1
        · exact sw.irr _
        · exact e
    · rw [if_neg c2]
      exact go (2 * r + 1) (.inl rfl) (by omega) (fun c k1 k2 => by
        have : c = 2 * r + 1 := by omega
        subst this; exact sw.irr _)
def HL0 (sift : List T → Int → Int → Int → RS T) (kL0 : Int → Int → Int → Int → List T → RS T) (kL1 : Int → Int → Int → List T → RS T) (first : Int) (lo : Int) (hi : Int) (i : Int) (data_P : List T) : RS T :=
  cond (decide (i ≥ 0))
    (Option.bind (sift data_P i hi first) fun x1 =>
    kL0 first lo hi (IntKind.i64.wrap (i - 1)) x1.1)
    (kL1 first lo (IntKind.i64.wrap (hi - 1)) data_P)
variable {SD : List T → Int → Int → Int → RS T} {A0 : Int → Int → Int → Int → List T → RS T} {A1 : Int → Int → Int → List T → RS T}
/-- What sifting down does, of a function. -/
def SiftOK (z : T) (lt : T → T → Bool) (SD : List T → Int → Int → Int → RS T) : Prop := ∀ (f lo hi : Nat) (d : List T), (lo < hi ∨ lo = 0) → f + hi ≤ d.length → d.length ≤ 4611686018427387904 → Hp z lt f (lo + 1) hi d →
  ∃ d', SD d lo hi f = some (d', ()) ∧ Rng z f (f + hi) d d' ∧ Hp z lt f lo hi d'
theorem build (sd : SiftOK z lt SD) (hA0 : ∀ f lo hi i d, A0 f lo hi i d = HL0 SD A0 A1 f lo hi i d) (f hi : Nat) (hhi : 1 ≤ hi) :
    ∀ (i : Nat) (d : List T), i ≤ hi → f + hi ≤ d.length → d.length ≤ 4611686018427387904 → Hp z lt f i hi d →
      ∃ d', A0 f (0 : Nat) hi ((i : Int) - 1) d = A1 f (0 : Nat) (hi - 1 : Nat) d' ∧ Rng z f (f + hi) d d' ∧ Hp z lt f 0 hi d'
  | 0, d, hi', hb, hd, hp => by
    rw [hA0, HL0, cd_f (by omega)]
    refine ⟨d, ?_, .refl _ _ _ _, hp⟩
    simp (disch := omega) only [wrap64, cs1]
  | i + 1, d, hi', hb, hd, hp => by
    rw [hA0, HL0, cd_t (by omega), show ((i + 1 : Nat) : Int) - 1 = (i : Int) by omega]
    obtain ⟨d1, e1, r1, h1⟩ := sd f i hi d (by omega) hb hd hp
    rw [e1, bind_some', wrap64 (by omega) (by omega)]
    obtain ⟨d2, e2, r2, h2⟩ := build sd hA0 f hi hhi i d1 (by omega) (by rw [r1.len]; exact hb) (by rw [r1.len]; exact hd) h1
    exact ⟨d2, e2, r1.trans r2, h2⟩
end Heap
theorem ctd4 (i : Nat) : Int.tdiv (i : Int) 4 = ((i / 4 : Nat) : Int) := by rw [tdiv_pos (by omega)]; omega
theorem cmk2 (i : Nat) : (i : Int) * 2 = ((i * 2 : Nat) : Int) := by omega
namespace Rev
def SL0 (z : T) (kL0 : Int → Int → List T → RS T) (i : Int) (j : Int) (data_P : List T) : RS T :=
  cond (decide (i < j))
    (cond (decide (0 ≤ j) && decide (j < (data_P.length : Int)))
      (cond (decide (0 ≤ i) && decide (i < (data_P.length : Int)))
        (cond (decide (0 ≤ i) && decide (i < (data_P.length : Int)))
          (cond (decide (0 ≤ j) && decide (j < ((data_P.set i.toNat (data_P.getD j.toNat z)).length : Int)))
            (kL0 (IntKind.i64.wrap (i + 1)) (IntKind.i64.wrap (j - 1)) ((data_P.set i.toNat (data_P.getD j.toNat z)).set j.toNat (data_P.getD i.toNat z)))
            none)
          none)
        none)
      none)
    (some (data_P, ()))
theorem loop {z : T} {L0 : Int → Int → List T → RS T} (hL0 : ∀ i j d, L0 i j d = SL0 z L0 i j d) (a b : Nat) :
    ∀ (n i j : Nat) (d : List T), j - i ≤ n → a ≤ i → j < b → b ≤ d.length → d.length ≤ 4611686018427387904 → ∃ d', L0 i j d = some (d', ()) ∧ Rng z a b d d'
  | n, i, j, d, hn, hi, hj, hb, hd => by
    rw [hL0, SL0]
    by_cases h : i < j
    · simp (disch := omega) only [cd_t, cd_b, wrap64, ca1, cs1, Int.toNat_natCast, List.length_set]
      cases n with
      | zero => omega
      | succ n =>
      obtain ⟨d', e, r⟩ := loop hL0 a b n (i + 1) (j - 1) (swp z i j d) (by omega) (by omega) (by omega) (by rw [swp_len]; exact hb) (by rw [swp_len]; exact hd)
      exact ⟨d', e, (Rng.swap hb (by omega) (by omega) (by omega) (by omega)).trans r⟩
    · rw [cd_f (by omega)]
      exact ⟨d, rfl, .refl _ _ _ _⟩
end Rev
theorem mask_le (x : Int) (m : Nat) (hm : m ≤ 9223372036854775807) : ∃ v : Nat, IntKind.i64.wrap (IntKind.u64.wrap (BitVec.ofInt IntKind.u64.bits x &&& BitVec.ofInt IntKind.u64.bits (IntKind.u64.wrap (m : Int))).toNat) = (v : Int) ∧ v ≤ m := by
  have h : ∀ w : Nat, w = 64 → (BitVec.ofInt w x &&& BitVec.ofInt w (IntKind.u64.wrap (m : Int))).toNat ≤ m := by
    intro w hw
    subst hw
    rw [BitVec.toNat_and]
    refine Nat.le_trans Nat.and_le_right ?_
    rw [wrapU (by omega) (by omega), BitVec.toNat_ofInt]
    omega
  have := h IntKind.u64.bits rfl
  refine ⟨_, ?_, this⟩
  rw [wrapU (by omega) (by omega), wrap64 (by omega) (by omega)]
namespace Brk
def SL0 (nx : Int → Option (Int × Int × Unit)) (kJ1 : Int → Int → Int → Int → Int → Int → List T → RS T) (a : Int) (length_8 : Int) (random : Int) (modulus : Int) (idx_11 : Int) (data_P : List T) : RS T :=
  cond (decide (idx_11 ≤ (IntKind.i64.wrap ((IntKind.i64.wrap (a + (IntKind.i64.wrap ((IntKind.i64.wrap (Int.tdiv length_8 4)) * 2)))) + 1))))
    (Option.bind (nx random) fun x1 =>
    cond (decide ((IntKind.i64.wrap (IntKind.u64.wrap (BitVec.ofInt IntKind.u64.bits x1.1 &&& BitVec.ofInt IntKind.u64.bits (IntKind.u64.wrap (modulus - 1))).toNat)) ≥ length_8))
      (kJ1 a length_8 x1.2.1 modulus idx_11 (IntKind.i64.wrap ((IntKind.i64.wrap (IntKind.u64.wrap (BitVec.ofInt IntKind.u64.bits x1.1 &&& BitVec.ofInt IntKind.u64.bits (IntKind.u64.wrap (modulus - 1))).toNat)) - length_8)) data_P)
      (kJ1 a length_8 x1.2.1 modulus idx_11 (IntKind.i64.wrap (IntKind.u64.wrap (BitVec.ofInt IntKind.u64.bits x1.1 &&& BitVec.ofInt IntKind.u64.bits (IntKind.u64.wrap (modulus - 1))).toNat)) data_P))
    (some (data_P, ()))
def SJ1 (z : T) (kL0 : Int → Int → Int → Int → Int → List T → RS T) (a : Int) (length_8 : Int) (random : Int) (modulus : Int) (idx_11 : Int) (other : Int) (data_P : List T) : RS T :=
  cond (decide (0 ≤ IntKind.i64.wrap (a + other)) && decide (IntKind.i64.wrap (a + other) < (data_P.length : Int)))
    (cond (decide (0 ≤ idx_11) && decide (idx_11 < (data_P.length : Int)))
      (cond (decide (0 ≤ idx_11) && decide (idx_11 < (data_P.length : Int)))
        (cond (decide (0 ≤ IntKind.i64.wrap (a + other)) && decide (IntKind.i64.wrap (a + other) < ((data_P.set idx_11.toNat (data_P.getD ((IntKind.i64.wrap (a + other)).toNat) z)).length : Int)))
          (kL0 a length_8 random modulus (IntKind.i64.wrap (idx_11 + 1)) ((data_P.set idx_11.toNat (data_P.getD ((IntKind.i64.wrap (a + other)).toNat) z)).set ((IntKind.i64.wrap (a + other)).toNat) (data_P.getD idx_11.toNat z)))
          none)
        none)
      none)
    none
def Se (np : Int → Option (Int × Unit)) (kL0 : Int → Int → Int → Int → Int → List T → RS T) (data : List T) (a : Int) (b : Int) : RS T :=
  cond (decide ((IntKind.i64.wrap (b - a)) ≥ 8))
    (Option.bind (np (IntKind.i64.wrap (b - a))) fun x1 =>
    kL0 a (IntKind.i64.wrap (b - a)) (IntKind.u64.wrap (IntKind.i64.wrap (b - a))) x1.1 (IntKind.i64.wrap ((IntKind.i64.wrap (a + (IntKind.i64.wrap ((IntKind.i64.wrap (Int.tdiv (IntKind.i64.wrap (b - a)) 4)) * 2)))) - 1)) data)
    (some (data, ()))
variable {z : T} {nx : Int → Option (Int × Int × Unit)} {np : Int → Option (Int × Unit)} {L0 : Int → Int → Int → Int → Int → List T → RS T} {J1 : Int → Int → Int → Int → Int → Int → List T → RS T}
theorem loop (hnx : ∀ r, ∃ v r', nx r = some (v, r', ())) (hL0 : ∀ a l r m i d, L0 a l r m i d = SL0 nx J1 a l r m i d) (hJ1 : ∀ a l r m i o d, J1 a l r m i o d = SJ1 z L0 a l r m i o d) (a l m : Nat) (hl : 8 ≤ l) (hm : 1 ≤ m) (hm2 : m ≤ 2 * l) :
    ∀ (n i : Nat) (r : Int) (d : List T), a + l / 4 * 2 + 2 - i ≤ n → a ≤ i → a + l ≤ d.length → d.length ≤ 4611686018427387904 → ∃ d', L0 a l r m i d = some (d', ()) ∧ Rng z a (a + l) d d'
  | n, i, r, d, hn, hi, hb, hd => by
    rw [hL0, SL0]
    simp (disch := omega) only [wrap64, ctd4, cmk2, ca, ca1, cs1]
    by_cases h : i ≤ a + l / 4 * 2 + 1
    · rw [cd_t (by omega)]
      obtain ⟨v, r', e⟩ := hnx r
      rw [e, bind_some']
      obtain ⟨w, w1, w2⟩ := mask_le v (m - 1) (by omega)
      simp only [w1]
      have go : ∀ o : Nat, o < l → ∃ d', J1 a l r' m i o d = some (d', ()) ∧ Rng z a (a + l) d d' := by
        intro o ho
        rw [hJ1, SJ1]
        simp (disch := omega) only [cd_t, cd_b, wrap64, ca, ca1, cs1, Int.toNat_natCast, List.length_set]
        cases n with
        | zero => omega
        | succ n =>
        obtain ⟨d', e, r⟩ := loop hnx hL0 hJ1 a l m hl hm hm2 n (i + 1) r' (swp z i (a + o) d) (by omega) (by omega) (by rw [swp_len]; exact hb) (by rw [swp_len]; exact hd)
        exact ⟨d', e, (Rng.swap hb (by omega) (by omega) (by omega) (by omega)).trans r⟩
      by_cases hw : l ≤ w
      · rw [cd_t (by omega)]
        simp (disch := omega) only [wrap64, cs]
        exact go (w - l) (by omega)
      · rw [cd_f (by omega)]
        exact go w (by omega)
    · rw [cd_f (by omega)]
      exact ⟨d, rfl, .refl _ _ _ _⟩
end Brk
namespace Piv
def SJ0 (swaps : Int) (j : Int) : Option (Int × Int × Unit) :=
  cond (swaps == 0)
    (some (j, 1, ()))
    (cond (swaps == 12)
      (some (j, 2, ()))
      (some (j, 0, ())))
def Se (med : List T → Int → Int → Int → Int → Option (Int × Int × Unit)) (adj : List T → Int → Int → Option (Int × Int × Unit)) (kJ0 : Int → Int → Option (Int × Int × Unit)) (data : List T) (a : Int) (b : Int) : Option (Int × Int × Unit) :=
  cond (decide ((IntKind.i64.wrap (b - a)) ≥ 8))
    (cond (decide ((IntKind.i64.wrap (b - a)) ≥ 50))
      (Option.bind (adj data (IntKind.i64.wrap (a + (IntKind.i64.wrap ((IntKind.i64.wrap (Int.tdiv (IntKind.i64.wrap (b - a)) 4)) * 1)))) 0) fun x1 =>
      Option.bind (adj data (IntKind.i64.wrap (a + (IntKind.i64.wrap ((IntKind.i64.wrap (Int.tdiv (IntKind.i64.wrap (b - a)) 4)) * 2)))) x1.2.1) fun x2 =>
      Option.bind (adj data (IntKind.i64.wrap (a + (IntKind.i64.wrap ((IntKind.i64.wrap (Int.tdiv (IntKind.i64.wrap (b - a)) 4)) * 3)))) x2.2.1) fun x3 =>
      Option.bind (med data x1.1 x2.1 x3.1 x3.2.1) fun x4 =>
      kJ0 x4.2.1 x4.1)
      (Option.bind (med data (IntKind.i64.wrap (a + (IntKind.i64.wrap ((IntKind.i64.wrap (Int.tdiv (IntKind.i64.wrap (b - a)) 4)) * 1)))) (IntKind.i64.wrap (a + (IntKind.i64.wrap ((IntKind.i64.wrap (Int.tdiv (IntKind.i64.wrap (b - a)) 4)) * 2)))) (IntKind.i64.wrap (a + (IntKind.i64.wrap ((IntKind.i64.wrap (Int.tdiv (IntKind.i64.wrap (b - a)) 4)) * 3)))) 0) fun x5 =>
      kJ0 x5.2.1 x5.1))
    (kJ0 0 (IntKind.i64.wrap (a + (IntKind.i64.wrap ((IntKind.i64.wrap (Int.tdiv (IntKind.i64.wrap (b - a)) 4)) * 2)))))
variable {lt : T → T → Bool} {o2 : List T → Int → Int → Int → Option (Int × Int × Int × Unit)} {med : List T → Int → Int → Int → Int → Option (Int × Int × Unit)} {adj : List T → Int → Int → Option (Int × Int × Unit)} {kJ0 : Int → Int → Option (Int × Int × Unit)}
end Piv
abbrev RB (T : Type) := Option (Bool × List T × Unit)
namespace Par
def SL0 (kL2 : Int → Int → Int → Int → List T → RB T) (a : Int) (b : Int) (i : Int) (j : Int) (data_P : List T) : RB T :=
  cond (decide (j < 5))
    (kL2 a b i j data_P)
    (some (false, data_P, ()))
def SJ1 (z : T) (kL4 : Int → Int → Int → Int → Int → List T → RB T) (kJ3 : Int → Int → Int → Int → List T → RB T) (a : Int) (b : Int) (i : Int) (j : Int) (data_P : List T) : RB T :=
  cond (i == b)
    (some (true, data_P, ()))
    (cond (decide ((IntKind.i64.wrap (b - a)) < 50))
      (some (false, data_P, ()))
      (cond (decide (0 ≤ IntKind.i64.wrap (i - 1)) && decide (IntKind.i64.wrap (i - 1) < (data_P.length : Int)))
        (cond (decide (0 ≤ i) && decide (i < (data_P.length : Int)))
          (cond (decide (0 ≤ i) && decide (i < (data_P.length : Int)))
            (cond (decide (0 ≤ IntKind.i64.wrap (i - 1)) && decide (IntKind.i64.wrap (i - 1) < ((data_P.set i.toNat (data_P.getD ((IntKind.i64.wrap (i - 1)).toNat) z)).length : Int)))
              (cond (decide ((IntKind.i64.wrap (i - a)) ≥ 2))
                (kL4 a b i j (IntKind.i64.wrap (i - 1)) ((data_P.set i.toNat (data_P.getD ((IntKind.i64.wrap (i - 1)).toNat) z)).set ((IntKind.i64.wrap (i - 1)).toNat) (data_P.getD i.toNat z)))
                (kJ3 a b i j ((data_P.set i.toNat (data_P.getD ((IntKind.i64.wrap (i - 1)).toNat) z)).set ((IntKind.i64.wrap (i - 1)).toNat) (data_P.getD i.toNat z))))
              none)
            none)
          none)
        none))
def SL2 (z : T) (lt : T → T → Bool) (kL2 : Int → Int → Int → Int → List T → RB T) (kJ1 : Int → Int → Int → Int → List T → RB T) (a : Int) (b : Int) (i : Int) (j : Int) (data_P : List T) : RB T :=
  cond (decide (i < b))
    (cond (decide (0 ≤ i) && decide (i < (data_P.length : Int)))
      (cond (decide (0 ≤ IntKind.i64.wrap (i - 1)) && decide (IntKind.i64.wrap (i - 1) < (data_P.length : Int)))
        (cond (!(lt (data_P.getD i.toNat z) (data_P.getD ((IntKind.i64.wrap (i - 1)).toNat) z)))
          (kL2 a b (IntKind.i64.wrap (i + 1)) j data_P)
          (kJ1 a b i j data_P))
        none)
      none)
    (kJ1 a b i j data_P)
def SJ3 (kL5 : Int → Int → Int → Int → Int → List T → RB T) (kL0 : Int → Int → Int → Int → List T → RB T) (a : Int) (b : Int) (i : Int) (j : Int) (data_P : List T) : RB T :=
  cond (decide ((IntKind.i64.wrap (b - i)) ≥ 2))
    (kL5 a b i j (IntKind.i64.wrap (i + 1)) data_P)
    (kL0 a b i (IntKind.i64.wrap (j + 1)) data_P)
def SL4 (z : T) (lt : T → T → Bool) (kJ3 : Int → Int → Int → Int → List T → RB T) (kL4 : Int → Int → Int → Int → Int → List T → RB T) (a : Int) (b : Int) (i : Int) (j : Int) (j_11 : Int) (data_P : List T) : RB T :=
  cond (decide (j_11 ≥ 1))
    (cond (decide (0 ≤ j_11) && decide (j_11 < (data_P.length : Int)))
      (cond (decide (0 ≤ IntKind.i64.wrap (j_11 - 1)) && decide (IntKind.i64.wrap (j_11 - 1) < (data_P.length : Int)))
        (cond (!(lt (data_P.getD j_11.toNat z) (data_P.getD ((IntKind.i64.wrap (j_11 - 1)).toNat) z)))
          (kJ3 a b i j data_P)
          (cond (decide (0 ≤ IntKind.i64.wrap (j_11 - 1)) && decide (IntKind.i64.wrap (j_11 - 1) < (data_P.length : Int)))
            (cond (decide (0 ≤ j_11) && decide (j_11 < (data_P.length : Int)))
              (cond (decide (0 ≤ j_11) && decide (j_11 < (data_P.length : Int)))
                (cond (decide (0 ≤ IntKind.i64.wrap (j_11 - 1)) && decide (IntKind.i64.wrap (j_11 - 1) < ((data_P.set j_11.toNat (data_P.getD ((IntKind.i64.wrap (j_11 - 1)).toNat) z)).length : Int)))
                  (kL4 a b i j (IntKind.i64.wrap (j_11 - 1)) ((data_P.set j_11.toNat (data_P.getD ((IntKind.i64.wrap (j_11 - 1)).toNat) z)).set ((IntKind.i64.wrap (j_11 - 1)).toNat) (data_P.getD j_11.toNat z)))
                  none)
                none)
              none)
            none))
        none)
      none)
    (kJ3 a b i j data_P)
def SL5 (z : T) (lt : T → T → Bool) (kL0 : Int → Int → Int → Int → List T → RB T) (kL5 : Int → Int → Int → Int → Int → List T → RB T) (a : Int) (b : Int) (i : Int) (j : Int) (j_12 : Int) (data_P : List T) : RB T :=
  cond (decide (j_12 < b))
    (cond (decide (0 ≤ j_12) && decide (j_12 < (data_P.length : Int)))
      (cond (decide (0 ≤ IntKind.i64.wrap (j_12 - 1)) && decide (IntKind.i64.wrap (j_12 - 1) < (data_P.length : Int)))
        (cond (!(lt (data_P.getD j_12.toNat z) (data_P.getD ((IntKind.i64.wrap (j_12 - 1)).toNat) z)))
          (kL0 a b i (IntKind.i64.wrap (j + 1)) data_P)
          (cond (decide (0 ≤ IntKind.i64.wrap (j_12 - 1)) && decide (IntKind.i64.wrap (j_12 - 1) < (data_P.length : Int)))
            (cond (decide (0 ≤ j_12) && decide (j_12 < (data_P.length : Int)))
              (cond (decide (0 ≤ j_12) && decide (j_12 < (data_P.length : Int)))
                (cond (decide (0 ≤ IntKind.i64.wrap (j_12 - 1)) && decide (IntKind.i64.wrap (j_12 - 1) < ((data_P.set j_12.toNat (data_P.getD ((IntKind.i64.wrap (j_12 - 1)).toNat) z)).length : Int)))
                  (kL5 a b i j (IntKind.i64.wrap (j_12 + 1)) ((data_P.set j_12.toNat (data_P.getD ((IntKind.i64.wrap (j_12 - 1)).toNat) z)).set ((IntKind.i64.wrap (j_12 - 1)).toNat) (data_P.getD j_12.toNat z)))
                  none)
                none)
              none)
            none))
        none)
      none)
    (kL0 a b i (IntKind.i64.wrap (j + 1)) data_P)
/-- The equations of the function. -/
structure Eqs (z : T) (lt : T → T → Bool) (L0 J1 L2 J3 : Int → Int → Int → Int → List T → RB T) (L4 L5 : Int → Int → Int → Int → Int → List T → RB T) : Prop where
  l0 : ∀ a b i j d, L0 a b i j d = SL0 L2 a b i j d
  j1 : ∀ a b i j d, J1 a b i j d = SJ1 z L4 J3 a b i j d
  l2 : ∀ a b i j d, L2 a b i j d = SL2 z lt L2 J1 a b i j d
  j3 : ∀ a b i j d, J3 a b i j d = SJ3 L5 L0 a b i j d
  l4 : ∀ a b i j k d, L4 a b i j k d = SL4 z lt J3 L4 a b i j k d
  l5 : ∀ a b i j k d, L5 a b i j k d = SL5 z lt L0 L5 a b i j k d
variable {z : T} {lt : T → T → Bool} {L0 J1 L2 J3 : Int → Int → Int → Int → List T → RB T} {L4 L5 : Int → Int → Int → Int → Int → List T → RB T}
theorem right (q : Eqs z lt L0 J1 L2 J3 L4 L5) (a b i : Nat) (j : Nat) (hj : j ≤ 5) :
    ∀ (n k : Nat) (d : List T), b - k ≤ n → i + 1 ≤ k → b ≤ d.length → d.length ≤ 4611686018427387904 → ∃ d', L5 a b i j k d = L0 a b i (j + 1 : Nat) d' ∧ Rng z i b d d'
  | n, k, d, hn, hk, hb, hd => by
    rw [q.l5, SL5]
    by_cases h : k < b
    · simp (disch := omega) only [cd_t, cd_b, wrap64, ca1, cs1, Int.toNat_natCast, List.length_set]
      cases lt (d.getD k z) (d.getD (k - 1) z) with
      | false => exact ⟨d, rfl, .refl _ _ _ _⟩
      | true =>
        cases n with
        | zero => omega
        | succ n =>
        obtain ⟨d', e, r⟩ := right q a b i j hj n (k + 1) (swp z k (k - 1) d) (by omega) (by omega) (by rw [swp_len]; exact hb) (by rw [swp_len]; exact hd)
        exact ⟨d', e, (Rng.swap hb (by omega) (by omega) (by omega) (by omega)).trans r⟩
    · rw [cd_f (by omega)]
      simp (disch := omega) only [wrap64, ca1]
      exact ⟨d, rfl, .refl _ _ _ _⟩
theorem after (q : Eqs z lt L0 J1 L2 J3 L4 L5) (a b i : Nat) (j : Nat) (hj : j ≤ 5) (d : List T) (hi : i ≤ b) (hb : b ≤ d.length) (hd : d.length ≤ 4611686018427387904) :
    ∃ d', J3 a b i j d = L0 a b i (j + 1 : Nat) d' ∧ Rng z i b d d' := by
  rw [q.j3, SJ3]
  simp (disch := omega) only [wrap64, ca1, cs]
  by_cases h : 2 ≤ b - i
  · rw [cd_t (by omega)]
    exact right q a b i j hj b (i + 1) d (by omega) (Nat.le_refl _) hb hd
  · rw [cd_f (by omega)]
    exact ⟨d, rfl, .refl _ _ _ _⟩
theorem left (sw : SW lt) (q : Eqs z lt L0 J1 L2 J3 L4 L5) (a b i : Nat) (j : Nat) (hj : j ≤ 5) (hib : i < b) :
    ∀ (k : Nat) (d : List T), a ≤ k → k < i → b ≤ d.length → d.length ≤ 4611686018427387904 → Low z lt a i d →
      (∀ p r, a ≤ p → p < r → r < i → r ≠ k → lt (d.getD r z) (d.getD p z) = false) →
      ∃ d', L4 a b i j k d = J3 a b i j d' ∧ Rng z a i d d' ∧ Srt z lt a i d'
  | k, d, hak, hki, hb, hd, low, inv => by
    have stop : (a < k → lt (d.getD k z) (d.getD (k - 1) z) = false) → Srt z lt a i d := by
      intro e p r p1 p2 p3
      by_cases r1 : r = k
      · subst r1
        by_cases p5 : p = r - 1
        · rw [p5]; exact e (by omega)
        · exact sw.ntr _ _ _ (e (by omega)) (inv p (r - 1) p1 (by omega) (by omega) (by omega))
      · exact inv p r p1 p2 p3 r1
    rw [q.l4, SL4]
    by_cases h : 1 ≤ k
    · simp (disch := omega) only [cd_t, cd_b, wrap64, ca1, cs1, Int.toNat_natCast, List.length_set]
      cases e : lt (d.getD k z) (d.getD (k - 1) z) with
      | false => exact ⟨d, rfl, .refl _ _ _ _, stop (fun _ => e)⟩
      | true =>
        have hlt : a < k := by
          rcases Nat.lt_or_ge a k with g | g
          · exact g
          · have : k = a := by omega
            subst this
            rw [low h k (Nat.le_refl _) hki] at e; cases e
        have gj : k < d.length := by omega
        have gj' : k - 1 < d.length := by omega
        have r0 : Rng z a i d (swp z k (k - 1) d) := Rng.swap (by omega) (by omega) (by omega) (by omega) (by omega)
        match k, h with
        | k + 1, h =>
        obtain ⟨d', h1, h2, h3⟩ := left sw q a b i j hj hib k (swp z (k + 1) (k + 1 - 1) d) (by omega) (by omega) (by rw [swp_len]; exact hb) (by rw [swp_len]; exact hd) (low.rng r0) (by
          intro p r p1 p2 p3 p4
          rw [swp_get gj gj', swp_get gj gj', if_neg (show ¬ r = k + 1 - 1 by omega)]
          by_cases q1 : r = k + 1
          · rw [if_pos q1]
            by_cases p5 : p = k + 1 - 1
            · rw [if_pos p5]; exact sw.asym _ _ e
            · rw [if_neg p5, if_neg (by omega)]
              exact inv p (k + 1 - 1) p1 (by omega) (by omega) (by omega)
          · rw [if_neg q1]
            by_cases p5 : p = k + 1 - 1
            · rw [if_pos p5]; exact inv (k + 1) r (by omega) (by omega) p3 q1
            · rw [if_neg p5]
              by_cases p6 : p = k + 1
              · rw [if_pos p6]; exact inv (k + 1 - 1) r (by omega) (by omega) p3 q1
              · rw [if_neg p6]; exact inv p r p1 p2 p3 q1)
        exact ⟨d', h1, r0.trans h2, h3⟩
    · rw [cd_f (by omega)]
      exact ⟨d, rfl, .refl _ _ _ _, stop (fun g => by omega)⟩
theorem scan (q : Eqs z lt L0 J1 L2 J3 L4 L5) (sw : SW lt) (a b : Nat) (j : Nat) (d : List T) (hb : b ≤ d.length) (hd : d.length ≤ 4611686018427387904) :
    ∀ (n i : Nat), b - i ≤ n → a + 1 ≤ i → i ≤ b → Srt z lt a i d → ∃ i' : Nat, L2 a b i j d = J1 a b i' j d ∧ a + 1 ≤ i' ∧ i' ≤ b ∧ Srt z lt a i' d ∧ (i' < b → lt (d.getD i' z) (d.getD (i' - 1) z) = true)
  | n, i, hn, hi, hib, hs => by
    rw [q.l2, SL2]
    by_cases h : i < b
    · simp (disch := omega) only [cd_t, cd_b, wrap64, ca1, cs1, Int.toNat_natCast, List.length_set]
      cases e : lt (d.getD i z) (d.getD (i - 1) z) with
      | true => exact ⟨i, rfl, hi, hib, hs, fun _ => e⟩
      | false =>
        cases n with
        | zero => omega
        | succ n =>
        exact scan q sw a b j d hb hd n (i + 1) (by omega) (by omega) (by omega) (by
          intro p r p1 p2 p3
          by_cases r1 : r = i
          · subst r1
            by_cases p5 : p = r - 1
            · rw [p5]; exact e
            · exact sw.ntr _ _ _ e (hs p (r - 1) p1 (by omega) (by omega))
          · exact hs p r p1 p2 (by omega))
    · rw [cd_f (by omega)]
      exact ⟨i, rfl, hi, hib, hs, fun g => by omega⟩
theorem rounds (q : Eqs z lt L0 J1 L2 J3 L4 L5) (sw : SW lt) (a b : Nat) :
    ∀ (n j i : Nat) (d : List T), 5 - j ≤ n → j ≤ 5 → a + 1 ≤ i → i ≤ b → b ≤ d.length → d.length ≤ 4611686018427387904 → Srt z lt a i d → Low z lt a b d →
      ∃ (r : Bool) (d' : List T), L0 a b i j d = some (r, d', ()) ∧ Rng z a b d d' ∧ (r = true → Srt z lt a b d')
  | n, j, i, d, hn, hj, hi, hib, hb, hd, hs, low => by
    rw [q.l0, SL0]
    by_cases h : j < 5
    · rw [cd_t (by omega)]
      obtain ⟨i1, e1, a1, a2, s1, l1⟩ := scan q sw a b j d hb hd b i (by omega) hi hib hs
      rw [e1, q.j1, SJ1]
      by_cases hib1 : i1 = b
      · subst hib1
        simp only [BEq.rfl, cond_true]
        exact ⟨true, d, rfl, .refl _ _ _ _, fun _ => s1⟩
      · rw [show ((i1 : Int) == (b : Int)) = false from beq_false_of_ne (by omega), cond_false]
        simp (disch := omega) only [wrap64, cs]
        by_cases h50 : b - a < 50
        · rw [cd_t (by omega)]
          exact ⟨false, d, rfl, .refl _ _ _ _, fun g => by cases g⟩
        rw [cd_f (by omega)]
        have lt1 := l1 (by omega)
        simp (disch := omega) only [cd_t, cd_b, wrap64, ca1, cs1, Int.toNat_natCast, List.length_set]
        rw [show (d.set i1 (d.getD (i1 - 1) z)).set (i1 - 1) (d.getD i1 z) = swp z i1 (i1 - 1) d from rfl]
        have gi : i1 < d.length := by omega
        have gi' : i1 - 1 < d.length := by omega
        have r0 : Rng z a b d (swp z i1 (i1 - 1) d) := Rng.swap hb (by omega) (by omega) (by omega) (by omega)
        have low0 := low.rng r0
        have srt0 : ∀ p r, a ≤ p → p < r → r < i1 → r ≠ i1 - 1 → lt ((swp z i1 (i1 - 1) d).getD r z) ((swp z i1 (i1 - 1) d).getD p z) = false := by
          intro p r p1 p2 p3 p4
          rw [swp_get gi gi', swp_get gi gi', if_neg (by omega), if_neg (by omega), if_neg (by omega), if_neg (by omega)]
          exact s1 p r p1 p2 (by omega)
        have go : ∀ d1, Rng z a b d d1 → Srt z lt a i1 d1 → ∃ (r : Bool) (d' : List T), J3 a b i1 j d1 = some (r, d', ()) ∧ Rng z a b d d' ∧ (r = true → Srt z lt a b d') := by
          intro d1 r1 s1'
          obtain ⟨d2, e2, r2⟩ := after q a b i1 j hj d1 (by omega) (by rw [r1.len]; exact hb) (by rw [r1.len]; exact hd)
          rw [e2]
          have r2' : Rng z a b d d2 := r1.trans (r2.mono (by omega) (Nat.le_refl _))
          cases n with
          | zero => omega
          | succ n =>
          obtain ⟨r, d3, e3, r3, s3⟩ := rounds q sw a b n (j + 1) i1 d2 (by omega) (by omega) a1 a2 (by rw [r2'.len]; exact hb) (by rw [r2'.len]; exact hd) (s1'.get (fun k k1 k2 => r2.out k (.inl k2))) (low.rng r2')
          exact ⟨r, d3, e3, r2'.trans r3, s3⟩
        by_cases h2 : 2 ≤ i1 - a
        · rw [cd_t (by omega)]
          obtain ⟨d1, e1, r1, s1⟩ := left sw q a b i1 j hj (by omega) (i1 - 1) (swp z i1 (i1 - 1) d) (by omega) (by omega) (by rw [swp_len]; exact hb) (by rw [swp_len]; exact hd) (fun g k k1 k2 => low0 g k k1 (by omega)) srt0
          rw [e1]
          exact go d1 (r0.trans (r1.mono (Nat.le_refl _) (by omega))) s1
        · rw [cd_f (by omega)]
          exact go _ r0 (fun p r p1 p2 p3 => by omega)
    · rw [cd_f (by omega)]
      exact ⟨false, d, rfl, .refl _ _ _ _, fun g => by cases g⟩
end Par
abbrev RP (T : Type) := Option (Int × Bool × List T × Unit)
abbrev RI (T : Type) := Option (Int × List T × Unit)
namespace Prt
/-- Forward over what c holds of. -/
def Fwd {R : Type} (z : T) (c : T → T → Bool) (kL : Int → Int → Int → List T → R) (kJ : Int → Int → Int → List T → R) (bad : R) (a : Int) (i : Int) (j : Int) (data_P : List T) : R :=
  cond (decide (i ≤ j))
    (cond (decide (0 ≤ i) && decide (i < (data_P.length : Int)))
      (cond (decide (0 ≤ a) && decide (a < (data_P.length : Int)))
        (cond (c (data_P.getD i.toNat z) (data_P.getD a.toNat z))
          (kL a (IntKind.i64.wrap (i + 1)) j data_P)
          (kJ a i j data_P))
        bad)
      bad)
    (kJ a i j data_P)
/-- Backward over what c holds of. -/
def Bwd {R : Type} (z : T) (c : T → T → Bool) (kL : Int → Int → Int → List T → R) (kJ : Int → Int → Int → List T → R) (bad : R) (a : Int) (i : Int) (j : Int) (data_P : List T) : R :=
  cond (decide (i ≤ j))
    (cond (decide (0 ≤ j) && decide (j < (data_P.length : Int)))
      (cond (decide (0 ≤ a) && decide (a < (data_P.length : Int)))
        (cond (c (data_P.getD j.toNat z) (data_P.getD a.toNat z))
          (kL a i (IntKind.i64.wrap (j - 1)) data_P)
          (kJ a i j data_P))
        bad)
      bad)
    (kJ a i j data_P)
theorem fwd {R : Type} {z : T} {c : T → T → Bool} {L K : Int → Int → Int → List T → R} {bad : R} (hL : ∀ a i j d, L a i j d = Fwd z c L K bad a i j d) (a j : Nat) (d : List T) (ha : a < d.length) (hj : j < d.length) (hd : d.length ≤ 4611686018427387904) :
    ∀ (n i : Nat), j + 1 - i ≤ n → i ≤ j + 1 → ∃ i' : Nat, L a i j d = K a i' j d ∧ i ≤ i' ∧ i' ≤ j + 1 ∧ (∀ k, i ≤ k → k < i' → c (d.getD k z) (d.getD a z) = true) ∧ (i' ≤ j → c (d.getD i' z) (d.getD a z) = false)
  | n, i, hn, hi => by
    rw [hL, Fwd]
    by_cases h : i ≤ j
    · simp (disch := omega) only [cd_t, cd_b, wrap64, ca1, cs1, Int.toNat_natCast]
      cases e : c (d.getD i z) (d.getD a z) with
      | false => exact ⟨i, rfl, Nat.le_refl _, by omega, fun k k1 k2 => by omega, fun _ => e⟩
      | true =>
        cases n with
        | zero => omega
        | succ n =>
        obtain ⟨i', e1, h1, h2, h3, h4⟩ := fwd hL a j d ha hj hd n (i + 1) (by omega) (by omega)
        refine ⟨i', e1, by omega, h2, fun k k1 k2 => ?_, h4⟩
        by_cases k3 : k = i
        · rw [k3]; exact e
        · exact h3 k (by omega) k2
    · rw [cd_f (by omega)]
      exact ⟨i, rfl, Nat.le_refl _, by omega, fun k k1 k2 => by omega, fun g => by omega⟩
theorem bwd {R : Type} {z : T} {c : T → T → Bool} {L K : Int → Int → Int → List T → R} {bad : R} (hL : ∀ a i j d, L a i j d = Bwd z c L K bad a i j d) (a i : Nat) (d : List T) (ha : a < d.length) (hi : 1 ≤ i) (hd : d.length ≤ 4611686018427387904) :
    ∀ (j : Nat), i ≤ j + 1 → j < d.length → ∃ j' : Nat, L a i j d = K a i j' d ∧ j' ≤ j ∧ i ≤ j' + 1 ∧ (∀ k, j' < k → k ≤ j → c (d.getD k z) (d.getD a z) = true) ∧ (i ≤ j' → c (d.getD j' z) (d.getD a z) = false)
  | j, hij, hj => by
    rw [hL, Bwd]
    by_cases h : i ≤ j
    · simp (disch := omega) only [cd_t, cd_b, wrap64, ca1, cs1, Int.toNat_natCast]
      cases e : c (d.getD j z) (d.getD a z) with
      | false => exact ⟨j, rfl, Nat.le_refl _, by omega, fun k k1 k2 => by omega, fun _ => e⟩
      | true =>
        match j, h with
        | 0, h => omega
        | j + 1, h =>
        obtain ⟨j', e1, h1, h2, h3, h4⟩ := bwd hL a i d ha hi hd j (by omega) (by omega)
        refine ⟨j', e1, by omega, h2, fun k k1 k2 => ?_, h4⟩
        by_cases k3 : k = j + 1
        · rw [k3]; exact e
        · exact h3 k k1 (by omega)
    · rw [cd_f (by omega)]
      exact ⟨j, rfl, Nat.le_refl _, by omega, fun k k1 k2 => by omega, fun g => by omega⟩
def SJ2 (z : T) (fl : Bool) (kL4 : Int → Int → Int → List T → RP T) (a : Int) (i : Int) (j : Int) (data_P : List T) : RP T :=
  cond (decide (i > j))
    (cond (decide (0 ≤ a) && decide (a < (data_P.length : Int)))
      (cond (decide (0 ≤ j) && decide (j < (data_P.length : Int)))
        (cond (decide (0 ≤ j) && decide (j < (data_P.length : Int)))
          (cond (decide (0 ≤ a) && decide (a < ((data_P.set j.toNat (data_P.getD a.toNat z)).length : Int)))
            (some (j, fl, ((data_P.set j.toNat (data_P.getD a.toNat z)).set a.toNat (data_P.getD j.toNat z)), ()))
            none)
          none)
        none)
      none)
    (cond (decide (0 ≤ j) && decide (j < (data_P.length : Int)))
      (cond (decide (0 ≤ i) && decide (i < (data_P.length : Int)))
        (cond (decide (0 ≤ i) && decide (i < (data_P.length : Int)))
          (cond (decide (0 ≤ j) && decide (j < ((data_P.set i.toNat (data_P.getD j.toNat z)).length : Int)))
            (kL4 a (IntKind.i64.wrap (i + 1)) (IntKind.i64.wrap (j - 1)) ((data_P.set i.toNat (data_P.getD j.toNat z)).set j.toNat (data_P.getD i.toNat z)))
            none)
          none)
        none)
      none)
def Se {R : Type} (z : T) (bad : R) (kL1 : Int → Int → Int → List T → R) (data : List T) (a : Int) (b : Int) (pivot : Int) : R :=
  cond (decide (0 ≤ pivot) && decide (pivot < (data.length : Int)))
    (cond (decide (0 ≤ a) && decide (a < (data.length : Int)))
      (cond (decide (0 ≤ a) && decide (a < (data.length : Int)))
        (cond (decide (0 ≤ pivot) && decide (pivot < ((data.set a.toNat (data.getD pivot.toNat z)).length : Int)))
          (kL1 a (IntKind.i64.wrap (a + 1)) (IntKind.i64.wrap (b - 1)) ((data.set a.toNat (data.getD pivot.toNat z)).set pivot.toNat (data.getD a.toNat z)))
          bad)
        bad)
      bad)
    bad
/-- The equations of partition. -/
structure Eqs (z : T) (lt : T → T → Bool) (J0 L1 J2 L3 L4 J5 L6 J7 L8 : Int → Int → Int → List T → RP T) : Prop where
  j0 : ∀ a i j d, J0 a i j d = L3 a i j d
  l1 : ∀ a i j d, L1 a i j d = Fwd z lt L1 J0 none a i j d
  j2 : ∀ a i j d, J2 a i j d = SJ2 z true L4 a i j d
  l3 : ∀ a i j d, L3 a i j d = Bwd z (fun x y => !(lt x y)) L3 J2 none a i j d
  l4 : ∀ a i j d, L4 a i j d = L6 a i j d
  j5 : ∀ a i j d, J5 a i j d = L8 a i j d
  l6 : ∀ a i j d, L6 a i j d = Fwd z lt L6 J5 none a i j d
  j7 : ∀ a i j d, J7 a i j d = SJ2 z false L4 a i j d
  l8 : ∀ a i j d, L8 a i j d = Bwd z (fun x y => !(lt x y)) L8 J7 none a i j d
/-- What parting leaves. -/
def Post (z : T) (lt : T → T → Bool) (a b : Nat) (d : List T) (r : RP T) : Prop :=
  ∃ (m : Nat) (fl : Bool) (d' : List T), r = some ((m : Int), fl, d', ()) ∧ a ≤ m ∧ m < b ∧ Rng z a b d d' ∧ (∀ k, a ≤ k → k < m → lt (d'.getD k z) (d'.getD m z) = true) ∧ (∀ k, m < k → k < b → lt (d'.getD k z) (d'.getD m z) = false)
variable {z : T} {lt : T → T → Bool} {J0 L1 J2 L3 L4 J5 L6 J7 L8 : Int → Int → Int → List T → RP T}
theorem ends (fl : Bool) (a b i j : Nat) (d : List T) (hi : a + 1 ≤ i) (hj : j < b) (hij : i ≤ j + 1) (hb : b ≤ d.length) (hd : d.length ≤ 4611686018427387904)
    (lo : ∀ k, a < k → k < i → lt (d.getD k z) (d.getD a z) = true) (up : ∀ k, j < k → k < b → lt (d.getD k z) (d.getD a z) = false)
    (ei : i ≤ j → lt (d.getD i z) (d.getD a z) = false) (ej : i ≤ j → lt (d.getD j z) (d.getD a z) = true)
    (go : i ≤ j → ∀ d1, Rng z a b d d1 → (∀ k, a < k → k < i + 1 → lt (d1.getD k z) (d1.getD a z) = true) → (∀ k, j - 1 < k → k < b → lt (d1.getD k z) (d1.getD a z) = false) → i + 1 ≤ j - 1 + 1 → Post z lt a b d (L4 a (i + 1 : Nat) (j - 1 : Nat) d1)) :
    Post z lt a b d (SJ2 z fl L4 a i j d) := by
  have ga : a < d.length := by omega
  have gj : j < d.length := by omega
  rw [SJ2]
  by_cases h : i ≤ j
  · have gi : i < d.length := by omega
    simp (disch := omega) only [cd_f, cd_b, wrap64, ca1, cs1, Int.toNat_natCast, List.length_set]
    have ne : i ≠ j := fun g => by
      have := ei h
      rw [g, ej h] at this; cases this
    refine go h (swp z i j d) (Rng.swap hb (by omega) (by omega) (by omega) hj) (fun k k1 k2 => ?_) (fun k k1 k2 => ?_) (by omega)
    · rw [swp_get gi gj, swp_get gi gj, if_neg (by omega), if_neg (show ¬ a = j by omega), if_neg (show ¬ a = i by omega)]
      by_cases k3 : k = i
      · rw [if_pos k3]; exact ej h
      · rw [if_neg k3]; exact lo k k1 (by omega)
    · rw [swp_get gi gj, swp_get gi gj, if_neg (show ¬ a = j by omega), if_neg (show ¬ a = i by omega)]
      by_cases k3 : k = j
      · rw [if_pos k3]; exact ei h
      · rw [if_neg k3, if_neg (by omega)]; exact up k (by omega) k2
  · simp (disch := omega) only [cd_t, cd_b, wrap64, ca1, cs1, Int.toNat_natCast, List.length_set]
    refine ⟨j, fl, swp z j a d, rfl, by omega, hj, Rng.swap hb (by omega) hj (Nat.le_refl _) (by omega), fun k k1 k2 => ?_, fun k k1 k2 => ?_⟩
    · rw [swp_get gj ga, swp_get gj ga, if_neg (show ¬ j = a by omega), if_pos (show j = j from rfl)]
      by_cases k3 : k = a
      · rw [if_pos k3]; exact lo j (by omega) (by omega)
      · rw [if_neg k3, if_neg (by omega)]; exact lo k (by omega) (by omega)
    · rw [swp_get gj ga, swp_get gj ga, if_neg (show ¬ k = a by omega), if_neg (show ¬ k = j by omega)]
      by_cases k3 : j = a
      · rw [if_pos k3]
        rw [k3]; exact up k (by omega) k2
      · rw [if_neg k3, if_pos rfl]
        exact up k k1 k2
theorem rounds (q : Eqs z lt J0 L1 J2 L3 L4 J5 L6 J7 L8) (a b : Nat) (d0 : List T) :
    ∀ (n i j : Nat) (d : List T), j + 1 - i ≤ n → a + 1 ≤ i → j < b → i ≤ j + 1 → b ≤ d.length → d.length ≤ 4611686018427387904 → Rng z a b d0 d →
      (∀ k, a < k → k < i → lt (d.getD k z) (d.getD a z) = true) → (∀ k, j < k → k < b → lt (d.getD k z) (d.getD a z) = false) → Post z lt a b d0 (L4 a i j d)
  | n, i, j, d, hn, hi, hj, hij, hb, hd, r0, lo, up => by
    obtain ⟨i', e1, b1, b2, b3, b4⟩ := fwd q.l6 a j d (by omega) (by omega) hd (j + 1) i (by omega) hij
    obtain ⟨j', e2, c1, c2, c3, c4⟩ := bwd q.l8 a i' d (by omega) (by omega) hd j b2 (by omega)
    rw [q.l4, e1, q.j5, e2, q.j7]
    have lo' : ∀ k, a < k → k < i' → lt (d.getD k z) (d.getD a z) = true := fun k k1 k2 => by
      by_cases k3 : k < i
      · exact lo k k1 k3
      · exact b3 k (by omega) k2
    have up' : ∀ k, j' < k → k < b → lt (d.getD k z) (d.getD a z) = false := fun k k1 k2 => by
      by_cases k3 : j < k
      · exact up k k3 k2
      · simpa using c3 k k1 (by omega)
    have := ends (L4 := L4) false a b i' j' d (by omega) (by omega) c2 hb hd lo' up' (fun g => b4 (by omega)) (fun g => by simpa using c4 g) (fun g d1 r1 l1 u1 h1 => by
      cases n with
      | zero => omega
      | succ n =>
      obtain ⟨m, fl, d', p1, p2, p3, p4, p5, p6⟩ := rounds q a b d n (i' + 1) (j' - 1) d1 (by omega) (by omega) (by omega) h1 (by rw [r1.len]; exact hb) (by rw [r1.len]; exact hd) r1 l1 u1
      exact ⟨m, fl, d', p1, p2, p3, p4, p5, p6⟩)
    obtain ⟨m, fl, d', p1, p2, p3, p4, p5, p6⟩ := this
    exact ⟨m, fl, d', p1, p2, p3, r0.trans p4, p5, p6⟩
end Prt
namespace Pqe
def SJ3 (z : T) (kL0 : Int → Int → Int → List T → RI T) (a : Int) (i : Int) (j : Int) (data_P : List T) : RI T :=
  cond (decide (i > j))
    (some (i, data_P, ()))
    (cond (decide (0 ≤ j) && decide (j < (data_P.length : Int)))
      (cond (decide (0 ≤ i) && decide (i < (data_P.length : Int)))
        (cond (decide (0 ≤ i) && decide (i < (data_P.length : Int)))
          (cond (decide (0 ≤ j) && decide (j < ((data_P.set i.toNat (data_P.getD j.toNat z)).length : Int)))
            (kL0 a (IntKind.i64.wrap (i + 1)) (IntKind.i64.wrap (j - 1)) ((data_P.set i.toNat (data_P.getD j.toNat z)).set j.toNat (data_P.getD i.toNat z)))
            none)
          none)
        none)
      none)
/-- Forward, with the two looked at in the other order. -/
def Fwd' {R : Type} (z : T) (c : T → T → Bool) (kL : Int → Int → Int → List T → R) (kJ : Int → Int → Int → List T → R) (bad : R) (a : Int) (i : Int) (j : Int) (data_P : List T) : R :=
  cond (decide (i ≤ j))
    (cond (decide (0 ≤ a) && decide (a < (data_P.length : Int)))
      (cond (decide (0 ≤ i) && decide (i < (data_P.length : Int)))
        (cond (c (data_P.getD i.toNat z) (data_P.getD a.toNat z))
          (kL a (IntKind.i64.wrap (i + 1)) j data_P)
          (kJ a i j data_P))
        bad)
      bad)
    (kJ a i j data_P)
def Bwd' {R : Type} (z : T) (c : T → T → Bool) (kL : Int → Int → Int → List T → R) (kJ : Int → Int → Int → List T → R) (bad : R) (a : Int) (i : Int) (j : Int) (data_P : List T) : R :=
  cond (decide (i ≤ j))
    (cond (decide (0 ≤ a) && decide (a < (data_P.length : Int)))
      (cond (decide (0 ≤ j) && decide (j < (data_P.length : Int)))
        (cond (c (data_P.getD j.toNat z) (data_P.getD a.toNat z))
          (kL a i (IntKind.i64.wrap (j - 1)) data_P)
          (kJ a i j data_P))
        bad)
      bad)
    (kJ a i j data_P)
theorem cond_comm {R : Type} (p q : Bool) (x bad : R) : cond p (cond q x bad) bad = cond q (cond p x bad) bad := by cases p <;> cases q <;> rfl
theorem fwd_eq {R : Type} (z : T) (c : T → T → Bool) (kL kJ : Int → Int → Int → List T → R) (bad : R) (a i j : Int) (d : List T) : Fwd' z c kL kJ bad a i j d = Prt.Fwd z c kL kJ bad a i j d := by
  rw [Fwd', Prt.Fwd, cond_comm]
theorem bwd_eq {R : Type} (z : T) (c : T → T → Bool) (kL kJ : Int → Int → Int → List T → R) (bad : R) (a i j : Int) (d : List T) : Bwd' z c kL kJ bad a i j d = Prt.Bwd z c kL kJ bad a i j d := by
  rw [Bwd', Prt.Bwd, cond_comm]
/-- The equations of partitionEqual. -/
structure Eqs (z : T) (lt : T → T → Bool) (L0 J1 L2 J3 L4 : Int → Int → Int → List T → RI T) : Prop where
  l0 : ∀ a i j d, L0 a i j d = L2 a i j d
  j1 : ∀ a i j d, J1 a i j d = L4 a i j d
  l2 : ∀ a i j d, L2 a i j d = Fwd' z (fun x y => !(lt y x)) L2 J1 none a i j d
  j3 : ∀ a i j d, J3 a i j d = SJ3 z L0 a i j d
  l4 : ∀ a i j d, L4 a i j d = Bwd' z (fun x y => lt y x) L4 J3 none a i j d
/-- What parting off the equals leaves. -/
def Post (z : T) (lt : T → T → Bool) (a b : Nat) (d : List T) (pv : T) (r : RI T) : Prop :=
  ∃ (m : Nat) (d' : List T), r = some ((m : Int), d', ()) ∧ a < m ∧ m ≤ b ∧ Rng z a b d d' ∧ d'.getD a z = pv ∧ (∀ k, a < k → k < m → lt (d'.getD a z) (d'.getD k z) = false) ∧ (∀ k, m ≤ k → k < b → lt (d'.getD a z) (d'.getD k z) = true)
variable {z : T} {lt : T → T → Bool} {L0 J1 L2 J3 L4 : Int → Int → Int → List T → RI T}
theorem rounds (q : Eqs z lt L0 J1 L2 J3 L4) (a b : Nat) (d0 : List T) (pv : T) :
    ∀ (n i j : Nat) (d : List T), j + 1 - i ≤ n → a + 1 ≤ i → j < b → i ≤ j + 1 → b ≤ d.length → d.length ≤ 4611686018427387904 → Rng z a b d0 d → d.getD a z = pv →
      (∀ k, a < k → k < i → lt (d.getD a z) (d.getD k z) = false) → (∀ k, j < k → k < b → lt (d.getD a z) (d.getD k z) = true) → Post z lt a b d0 pv (L0 a i j d)
  | n, i, j, d, hn, hi, hj, hij, hb, hd, r0, ev, lo, up => by
    obtain ⟨i', e1, b1, b2, b3, b4⟩ := Prt.fwd (fun a i j d => (q.l2 a i j d).trans (fwd_eq ..)) a j d (by omega) (by omega) hd (j + 1) i (by omega) hij
    obtain ⟨j', e2, c1, c2, c3, c4⟩ := Prt.bwd (fun a i j d => (q.l4 a i j d).trans (bwd_eq ..)) a i' d (by omega) (by omega) hd j b2 (by omega)
    rw [q.l0, e1, q.j1, e2, q.j3, SJ3]
    have lo' : ∀ k, a < k → k < i' → lt (d.getD a z) (d.getD k z) = false := fun k k1 k2 => by
      by_cases k3 : k < i
      · exact lo k k1 k3
      · simpa using b3 k (by omega) k2
    have up' : ∀ k, j' < k → k < b → lt (d.getD a z) (d.getD k z) = true := fun k k1 k2 => by
      by_cases k3 : j < k
      · exact up k k3 k2
      · exact c3 k k1 (by omega)
    by_cases h : i' ≤ j'
    · have ei : lt (d.getD a z) (d.getD i' z) = true := by simpa using b4 (by omega)
      have ej : lt (d.getD a z) (d.getD j' z) = false := c4 h
      have gi : i' < d.length := by omega
      have gj : j' < d.length := by omega
      simp (disch := omega) only [cd_f, cd_b, wrap64, ca1, cs1, Int.toNat_natCast, List.length_set]
      have ne : i' ≠ j' := fun g => by rw [g, ej] at ei; cases ei
      cases n with
      | zero => omega
      | succ n =>
      refine rounds q a b d0 pv n (i' + 1) (j' - 1) (swp z i' j' d) (by omega) (by omega) (by omega) (by omega) (by rw [swp_len]; exact hb) (by rw [swp_len]; exact hd) (r0.trans (Rng.swap hb (by omega) (by omega) (by omega) (by omega))) (by rw [swp_get gi gj, if_neg (show ¬ a = j' by omega), if_neg (show ¬ a = i' by omega)]; exact ev) (fun k k1 k2 => ?_) (fun k k1 k2 => ?_)
      · rw [swp_get gi gj, swp_get gi gj, if_neg (show ¬ a = j' by omega), if_neg (show ¬ a = i' by omega), if_neg (by omega)]
        by_cases k3 : k = i'
        · rw [if_pos k3]; exact ej
        · rw [if_neg k3]; exact lo' k k1 (by omega)
      · rw [swp_get gi gj, swp_get gi gj, if_neg (show ¬ a = j' by omega), if_neg (show ¬ a = i' by omega)]
        by_cases k3 : k = j'
        · rw [if_pos k3]; exact ei
        · rw [if_neg k3, if_neg (by omega)]; exact up' k (by omega) k2
    · rw [cd_t (by omega)]
      exact ⟨i', d, rfl, by omega, by omega, r0, ev, lo', fun k k1 k2 => up' k (by omega) k2⟩
end Pqe
namespace Pdq
/-- The functions of the sort. -/
structure Fns (T : Type) where
  ins : List T → Int → Int → RS T
  heap : List T → Int → Int → RS T
  brk : List T → Int → Int → RS T
  piv : List T → Int → Int → Option (Int × Int × Unit)
  rev : List T → Int → Int → RS T
  par : List T → Int → Int → RB T
  peq : List T → Int → Int → Int → RI T
  prt : List T → Int → Int → Int → RP T
  self : List T → Int → Int → Int → RS T
def SL0 (F : Fns T) (kJ1 : Int → Int → Int → Bool → Bool → Int → List T → RS T) (a : Int) (b : Int) (limit : Int) (wasBalanced : Bool) (wasPartitioned : Bool) (data_P : List T) : RS T :=
  cond (decide ((IntKind.i64.wrap (b - a)) ≤ 12))
    (Option.bind (F.ins data_P a b) fun x1 =>
    some (x1.1, ()))
    (cond (limit == 0)
      (Option.bind (F.heap data_P a b) fun x2 =>
      some (x2.1, ()))
      (cond (!wasBalanced)
        (Option.bind (F.brk data_P a b) fun x3 =>
        kJ1 a b (IntKind.i64.wrap (limit - 1)) wasBalanced wasPartitioned (IntKind.i64.wrap (b - a)) x3.1)
        (kJ1 a b limit wasBalanced wasPartitioned (IntKind.i64.wrap (b - a)) data_P)))
def SJ1 (F : Fns T) (kJ2 : Int → Int → Int → Bool → Bool → Int → Int → Int → List T → RS T) (a : Int) (b : Int) (limit : Int) (wasBalanced : Bool) (wasPartitioned : Bool) (length_12 : Int) (data_P : List T) : RS T :=
  Option.bind (F.piv data_P a b) fun x1 =>
  cond (x1.2.1 == 2)
    (Option.bind (F.rev data_P a b) fun x2 =>
    kJ2 a b limit wasBalanced wasPartitioned length_12 (IntKind.i64.wrap ((IntKind.i64.wrap (b - 1)) - (IntKind.i64.wrap (x1.1 - a)))) 1 x2.1)
    (kJ2 a b limit wasBalanced wasPartitioned length_12 x1.1 x1.2.1 data_P)
def SJ2 (F : Fns T) (kJ3 : Int → Int → Int → Bool → Bool → Int → Int → List T → RS T) (a : Int) (b : Int) (limit : Int) (wasBalanced : Bool) (wasPartitioned : Bool) (length_12 : Int) (pivot : Int) (hint : Int) (data_P : List T) : RS T :=
  cond wasBalanced
    (cond wasPartitioned
      (cond (hint == 1)
        (Option.bind (F.par data_P a b) fun x1 =>
        cond x1.1
          (some (x1.2.1, ()))
          (kJ3 a b limit wasBalanced wasPartitioned length_12 pivot x1.2.1))
        (kJ3 a b limit wasBalanced wasPartitioned length_12 pivot data_P))
      (kJ3 a b limit wasBalanced wasPartitioned length_12 pivot data_P))
    (kJ3 a b limit wasBalanced wasPartitioned length_12 pivot data_P)
def SJ3 (z : T) (lt : T → T → Bool) (kJ4 : Int → Int → Int → Bool → Bool → Int → Int → Bool → List T → RS T) (a : Int) (b : Int) (limit : Int) (wasBalanced : Bool) (wasPartitioned : Bool) (length_12 : Int) (pivot : Int) (data_P : List T) : RS T :=
  cond (decide (a > 0))
    (cond (decide (0 ≤ IntKind.i64.wrap (a - 1)) && decide (IntKind.i64.wrap (a - 1) < (data_P.length : Int)))
      (cond (decide (0 ≤ pivot) && decide (pivot < (data_P.length : Int)))
        (kJ4 a b limit wasBalanced wasPartitioned length_12 pivot (!(lt (data_P.getD ((IntKind.i64.wrap (a - 1)).toNat) z) (data_P.getD pivot.toNat z))) data_P)
        none)
      none)
    (kJ4 a b limit wasBalanced wasPartitioned length_12 pivot false data_P)
def SJ4 (F : Fns T) (kL0 : Int → Int → Int → Bool → Bool → List T → RS T) (a : Int) (b : Int) (limit : Int) (wasBalanced : Bool) (wasPartitioned : Bool) (length_12 : Int) (pivot : Int) (v_97 : Bool) (data_P : List T) : RS T :=
  cond v_97
    (Option.bind (F.peq data_P a b pivot) fun x1 =>
    kL0 x1.1 b limit wasBalanced wasPartitioned x1.2.1)
    (Option.bind (F.prt data_P a b pivot) fun x2 =>
    cond (decide ((IntKind.i64.wrap (x2.1 - a)) < (IntKind.i64.wrap (b - x2.1))))
      (Option.bind (F.self x2.2.2.1 a x2.1 limit) fun x3 =>
      kL0 (IntKind.i64.wrap (x2.1 + 1)) b limit (decide ((IntKind.i64.wrap (x2.1 - a)) ≥ (IntKind.i64.wrap (Int.tdiv length_12 8)))) x2.2.1 x3.1)
      (Option.bind (F.self x2.2.2.1 (IntKind.i64.wrap (x2.1 + 1)) b limit) fun x4 =>
      kL0 a x2.1 limit (decide ((IntKind.i64.wrap (b - x2.1)) ≥ (IntKind.i64.wrap (Int.tdiv length_12 8)))) x2.2.1 x4.1))
/-- What the parts do. -/
structure OK (z : T) (lt : T → T → Bool) (F : Fns T) : Prop where
  ins : ∀ (a b : Nat) (d : List T), a ≤ b → b ≤ d.length → d.length ≤ 4611686018427387904 → ∃ d', F.ins d a b = some (d', ()) ∧ Rng z a b d d' ∧ Srt z lt a b d'
  heap : ∀ (a b : Nat) (d : List T), a < b → b ≤ d.length → d.length ≤ 4611686018427387904 → ∃ d', F.heap d a b = some (d', ()) ∧ Rng z a b d d' ∧ Srt z lt a b d'
  brk : ∀ (a b : Nat) (d : List T), a ≤ b → b ≤ d.length → d.length ≤ 4611686018427387904 → ∃ d', F.brk d a b = some (d', ()) ∧ Rng z a b d d'
  piv : ∀ (a b : Nat) (d : List T), a + 8 ≤ b → b ≤ d.length → d.length ≤ 4611686018427387904 → ∃ (p : Nat) (h : Int), F.piv d a b = some ((p : Int), h, ()) ∧ a ≤ p ∧ p < b
  rev : ∀ (a b : Nat) (d : List T), a < b → b ≤ d.length → d.length ≤ 4611686018427387904 → ∃ d', F.rev d a b = some (d', ()) ∧ Rng z a b d d'
  par : ∀ (a b : Nat) (d : List T), a < b → b ≤ d.length → d.length ≤ 4611686018427387904 → Low z lt a b d → ∃ (r : Bool) (d' : List T), F.par d a b = some (r, d', ()) ∧ Rng z a b d d' ∧ (r = true → Srt z lt a b d')
  peq : ∀ (a b p : Nat) (d : List T), a ≤ p → p < b → b ≤ d.length → d.length ≤ 4611686018427387904 → Pqe.Post z lt a b d (d.getD p z) (F.peq d a b p)
  prt : ∀ (a b p : Nat) (d : List T), a ≤ p → p < b → b ≤ d.length → d.length ≤ 4611686018427387904 → Prt.Post z lt a b d (F.prt d a b p)
/-- The equations of the sort itself. -/
structure Eqs (z : T) (lt : T → T → Bool) (F : Fns T) (L0 : Int → Int → Int → Bool → Bool → List T → RS T) (J1 : Int → Int → Int → Bool → Bool → Int → List T → RS T) (J2 : Int → Int → Int → Bool → Bool → Int → Int → Int → List T → RS T) (J3 : Int → Int → Int → Bool → Bool → Int → Int → List T → RS T) (J4 : Int → Int → Int → Bool → Bool → Int → Int → Bool → List T → RS T) : Prop where
  self : ∀ d a b l, F.self d a b l = L0 a b l true true d
  l0 : ∀ a b l x y d, L0 a b l x y d = SL0 F J1 a b l x y d
  j1 : ∀ a b l x y n d, J1 a b l x y n d = SJ1 F J2 a b l x y n d
  j2 : ∀ a b l x y n p h d, J2 a b l x y n p h d = SJ2 F J3 a b l x y n p h d
  j3 : ∀ a b l x y n p d, J3 a b l x y n p d = SJ3 z lt J4 a b l x y n p d
  j4 : ∀ a b l x y n p v d, J4 a b l x y n p v d = SJ4 F L0 a b l x y n p v d
variable {z : T} {lt : T → T → Bool} {F : Fns T} {L0 : Int → Int → Int → Bool → Bool → List T → RS T} {J1 : Int → Int → Int → Bool → Bool → Int → List T → RS T} {J2 : Int → Int → Int → Bool → Bool → Int → Int → Int → List T → RS T} {J3 : Int → Int → Int → Bool → Bool → Int → Int → List T → RS T} {J4 : Int → Int → Int → Bool → Bool → Int → Int → Bool → List T → RS T}
def Goal (z : T) (lt : T → T → Bool) (a b : Nat) (d : List T) (r : RS T) : Prop := ∃ d', r = some (d', ()) ∧ Rng z a b d d' ∧ Srt z lt a b d'
theorem Goal.from {a b : Nat} {d d1 : List T} {r : RS T} (r0 : Rng z a b d d1) (g : Goal z lt a b d1 r) : Goal z lt a b d r := by
  obtain ⟨d', e, r, s⟩ := g
  exact ⟨d', e, r0.trans r, s⟩
theorem halves (sw : SW lt) {a b m : Nat} {d1 d3 : List T} (ham : a ≤ m) (hmb : m < b)
    (lo : ∀ k, a ≤ k → k < m → lt (d1.getD k z) (d1.getD m z) = true) (up : ∀ k, m < k → k < b → lt (d1.getD k z) (d1.getD m z) = false)
    (e1 : ∀ k, a ≤ k → k < m → ∃ j, a ≤ j ∧ j < m ∧ d3.getD k z = d1.getD j z) (e2 : d3.getD m z = d1.getD m z)
    (e3 : ∀ k, m < k → k < b → ∃ j, m < j ∧ j < b ∧ d3.getD k z = d1.getD j z) (s1 : Srt z lt a m d3) (s2 : Srt z lt (m + 1) b d3) : Srt z lt a b d3 := by
  have lo' : ∀ k, a ≤ k → k < m → lt (d3.getD k z) (d1.getD m z) = true := fun k k1 k2 => by
    obtain ⟨j, j1, j2, j3⟩ := e1 k k1 k2
    rw [j3]; exact lo j j1 j2
  have up' : ∀ k, m < k → k < b → lt (d3.getD k z) (d1.getD m z) = false := fun k k1 k2 => by
    obtain ⟨j, j1, j2, j3⟩ := e3 k k1 k2
    rw [j3]; exact up j j1 j2
  intro p q p1 p2 p3
  by_cases c1 : q < m
  · exact s1 p q p1 p2 c1
  by_cases c2 : q = m
  · rw [c2, e2]; exact sw.asym _ _ (lo' p p1 (by omega))
  by_cases c3 : p < m
  · exact sw.ntr _ _ _ (up' q (by omega) p3) (sw.asym _ _ (lo' p p1 c3))
  by_cases c4 : p = m
  · rw [c4, e2]; exact up' q (by omega) p3
  · exact s2 p q (by omega) p2 p3
theorem part (sw : SW lt) (ok : OK z lt F) (q : Eqs z lt F L0 J1 J2 J3 J4) (a b : Nat) (hab : a < b) (l : Int) (x y : Bool) (n : Int) (p : Nat) (v : Bool) (d : List T) (hap : a ≤ p) (hpb : p < b) (hb : b ≤ d.length) (hd : d.length ≤ 4611686018427387904) (low : Low z lt a b d)
    (hv : v = true → 1 ≤ a ∧ lt (d.getD (a - 1) z) (d.getD p z) = false)
    (ih : ∀ (a' b' : Nat) (l : Int) (x y : Bool) (d : List T), a' ≤ b' → b' - a' < b - a → b' ≤ d.length → d.length ≤ 4611686018427387904 → Low z lt a' b' d → Goal z lt a' b' d (L0 a' b' l x y d)) :
    Goal z lt a b d (J4 a b l x y n p v d) := by
  rw [q.j4, SJ4]
  cases v with
  | true =>
    rw [cond_true]
    obtain ⟨h1, h2⟩ := hv rfl
    obtain ⟨m, d1, e1, m1, m2, r1, ev, lo, up⟩ := ok.peq a b p d hap hpb hb hd
    rw [e1, bind_some']
    have lo' : ∀ k, a ≤ k → k < m → lt (d1.getD a z) (d1.getD k z) = false := fun k k1 k2 => by
      by_cases k3 : k = a
      · rw [k3]; exact sw.irr _
      · exact lo k (by omega) k2
    have low1 := low.rng r1
    have eq' : ∀ k, a ≤ k → k < b → lt (d1.getD k z) (d1.getD a z) = false := fun k k1 k2 => by
      refine sw.ntr _ _ _ (low1 h1 k k1 k2) ?_
      rw [r1.out (a - 1) (by omega), ev]; exact h2
    obtain ⟨d2, e2, r2, s2⟩ := ih m b l x y d1 (by omega) (by omega) (by rw [r1.len]; exact hb) (by rw [r1.len]; exact hd) (fun g k k1 k2 => sw.asym _ _ (sw.le_lt (lo' (m - 1) (by omega) (by omega)) (up k k1 k2)))
    refine ⟨d2, e2, r1.trans (r2.mono (by omega) (Nat.le_refl _)), fun p q p1 p2 p3 => ?_⟩
    by_cases c1 : m ≤ p
    · exact s2 p q c1 p2 p3
    · rw [r2.out p (by omega)]
      by_cases c2 : m ≤ q
      · obtain ⟨j, j1, j2, j3⟩ := r2.mem q c2 p3
        rw [j3]
        exact sw.asym _ _ (sw.le_lt (lo' p p1 (by omega)) (up j j1 j2))
      · rw [r2.out q (by omega)]
        exact sw.ntr _ _ _ (eq' q (by omega) p3) (lo' p p1 (by omega))
  | false =>
    rw [cond_false]
    obtain ⟨m, fl, d1, e1, m1, m2, r1, lo, up⟩ := ok.prt a b p d hap hpb hb hd
    rw [e1, bind_some']
    have low1 := low.rng r1
    have hb1 : b ≤ d1.length := by rw [r1.len]; exact hb
    have hd1 : d1.length ≤ 4611686018427387904 := by rw [r1.len]; exact hd
    simp (disch := omega) only [wrap64, ca1, cs]
    refine Goal.from r1 ?_
    have lowr : ∀ d2 : List T, Rng z a m d1 d2 → Low z lt (m + 1) b d2 := fun d2 r2 g k k1 k2 => by
      rw [r2.out k (by omega), r2.out (m + 1 - 1) (by omega)]
      exact up k (by omega) k2
    by_cases c : m - a < b - m
    · rw [cd_t (by omega), q.self]
      obtain ⟨d2, e2, r2, s2⟩ := ih a m l true true d1 m1 (by omega) (by omega) hd1 (fun g k k1 k2 => low1 g k k1 (by omega))
      rw [e2, bind_some']
      obtain ⟨d3, e3, r3, s3⟩ := ih (m + 1) b l (decide (((m - a : Nat) : Int) ≥ (IntKind.i64.wrap (Int.tdiv n 8)))) fl d2 (by omega) (by omega) (by rw [r2.len]; exact hb1) (by rw [r2.len]; exact hd1) (lowr d2 r2)
      refine ⟨d3, e3, (r2.mono (Nat.le_refl _) (by omega)).trans (r3.mono (by omega) (Nat.le_refl _)), halves (d1 := d1) sw m1 m2 lo up (fun k k1 k2 => ?_) ?_ (fun k k1 k2 => ?_) (s2.get fun k k1 k2 => r3.out k (by omega)) s3⟩
      · rw [r3.out k (by omega)]; exact r2.mem k k1 k2
      · rw [r3.out m (by omega), r2.out m (by omega)]
      · obtain ⟨j, j1, j2, j3⟩ := r3.mem k (by omega) k2
        exact ⟨j, by omega, j2, by rw [j3, r2.out j (by omega)]⟩
    · rw [cd_f (by omega), q.self]
      obtain ⟨d2, e2, r2, s2⟩ := ih (m + 1) b l true true d1 (by omega) (by omega) hb1 hd1 (lowr d1 (.refl _ _ _ _))
      rw [e2, bind_some']
      obtain ⟨d3, e3, r3, s3⟩ := ih a m l (decide (((b - m : Nat) : Int) ≥ (IntKind.i64.wrap (Int.tdiv n 8)))) fl d2 m1 (by omega) (by rw [r2.len]; omega) (by rw [r2.len]; exact hd1) (fun g k k1 k2 => by
        rw [r2.out k (by omega), r2.out (a - 1) (by omega)]; exact low1 g k k1 (by omega))
      refine ⟨d3, e3, (r2.mono (by omega) (Nat.le_refl _)).trans (r3.mono (Nat.le_refl _) (by omega)), halves (d1 := d1) sw m1 m2 lo up (fun k k1 k2 => ?_) ?_ (fun k k1 k2 => ?_) s3 (s2.get fun k k1 k2 => r3.out k (by omega))⟩
      · obtain ⟨j, j1, j2, j3⟩ := r3.mem k k1 k2
        exact ⟨j, j1, j2, by rw [j3, r2.out j (by omega)]⟩
      · rw [r3.out m (by omega), r2.out m (by omega)]
      · rw [r3.out k (by omega)]
        obtain ⟨j, j1, j2, j3⟩ := r2.mem k (by omega) k2
        exact ⟨j, by omega, j2, j3⟩
theorem all (sw : SW lt) (ok : OK z lt F) (q : Eqs z lt F L0 J1 J2 J3 J4) :
    ∀ (n a b : Nat) (l : Int) (x y : Bool) (d : List T), b - a < n → a ≤ b → b ≤ d.length → d.length ≤ 4611686018427387904 → Low z lt a b d → Goal z lt a b d (L0 a b l x y d)
  | 0, a, b, l, x, y, d, hn, _, _, _, _ => by omega
  | n + 1, a, b, l, x, y, d, hn, hab, hb, hd, low => by
    rw [q.l0, SL0]
    simp (disch := omega) only [wrap64, cs]
    by_cases c : b - a ≤ 12
    · rw [cd_t (by omega)]
      obtain ⟨d', e, r, s⟩ := ok.ins a b d hab hb hd
      rw [e, bind_some']
      exact ⟨d', rfl, r, s⟩
    rw [cd_f (by omega)]
    cases c2 : (l == 0) with
    | true =>
      rw [cond_true]
      obtain ⟨d', e, r, s⟩ := ok.heap a b d (by omega) hb hd
      rw [e, bind_some']
      exact ⟨d', rfl, r, s⟩
    | false =>
      rw [cond_false]
      have ih := all sw ok q n
      have go4 : ∀ (l : Int) (k : Int) (p : Nat) (v : Bool) (d : List T), a ≤ p → p < b → b ≤ d.length → d.length ≤ 4611686018427387904 → Low z lt a b d → (v = true → 1 ≤ a ∧ lt (d.getD (a - 1) z) (d.getD p z) = false) → Goal z lt a b d (J4 a b l x y k p v d) :=
        fun l k p v d h1 h2 h3 h4 h5 h6 => part sw ok q a b (by omega) l x y k p v d h1 h2 h3 h4 h5 h6 (fun a' b' l x y d g1 g2 g3 g4 g5 => ih a' b' l x y d (by omega) g1 g3 g4 g5)
      have go3 : ∀ (l : Int) (k : Int) (p : Nat) (d : List T), a ≤ p → p < b → b ≤ d.length → d.length ≤ 4611686018427387904 → Low z lt a b d → Goal z lt a b d (J3 a b l x y k p d) := by
        intro l k p d h1 h2 h3 h4 h5
        rw [q.j3, SJ3]
        by_cases c : 1 ≤ a
        · simp (disch := omega) only [cd_t, cd_b, wrap64, ca1, cs1, Int.toNat_natCast]
          exact go4 l k p _ d h1 h2 h3 h4 h5 (fun g => ⟨c, by simpa using g⟩)
        · rw [cd_f (by omega)]
          exact go4 l k p false d h1 h2 h3 h4 h5 (fun g => by cases g)
      have go2 : ∀ (l : Int) (k : Int) (p : Nat) (h : Int) (d : List T), a ≤ p → p < b → b ≤ d.length → d.length ≤ 4611686018427387904 → Low z lt a b d → Goal z lt a b d (J2 a b l x y k p h d) := by
        intro l k p h d h1 h2 h3 h4 h5
        rw [q.j2, SJ2]
        have g3 := go3 l k p d h1 h2 h3 h4 h5
        cases x with
        | false => exact g3
        | true =>
        cases y with
        | false => exact g3
        | true =>
        cases (h == 1) with
        | false => exact g3
        | true =>
          simp only [cond_true]
          obtain ⟨r, d1, e1, r1, s1⟩ := ok.par a b d (by omega) h3 h4 h5
          rw [e1, bind_some']
          cases r with
          | true => exact ⟨d1, rfl, r1, s1 rfl⟩
          | false => exact Goal.from r1 (go3 l k p d1 h1 h2 (by rw [r1.len]; exact h3) (by rw [r1.len]; exact h4) (h5.rng r1))
      have go1 : ∀ (l : Int) (k : Int) (d : List T), b ≤ d.length → d.length ≤ 4611686018427387904 → Low z lt a b d → Goal z lt a b d (J1 a b l x y k d) := by
        intro l k d h3 h4 h5
        rw [q.j1, SJ1]
        obtain ⟨p, h, e1, p1, p2⟩ := ok.piv a b d (by omega) h3 h4
        rw [e1, bind_some']
        cases h2 : (h == 2) with
        | false =>
          simp only [h2, cond_false]
          exact go2 l k p h d p1 p2 h3 h4 h5
        | true =>
          simp only [h2, cond_true]
          obtain ⟨d1, e2, r1⟩ := ok.rev a b d (by omega) h3 h4
          rw [e2, bind_some']
          simp (disch := omega) only [wrap64, cs1, cs]
          exact Goal.from r1 (go2 l k (b - 1 - (p - a)) 1 d1 (by omega) (by omega) (by rw [r1.len]; exact h3) (by rw [r1.len]; exact h4) (h5.rng r1))
      cases c3 : (!x) with
      | true =>
        rw [cond_true]
        obtain ⟨d1, e2, r1⟩ := ok.brk a b d (by omega) hb hd
        rw [e2, bind_some']
        exact Goal.from r1 (go1 _ _ d1 (by rw [r1.len]; exact hb) (by rw [r1.len]; exact hd) (low.rng r1))
      | false =>
        rw [cond_false]
        exact go1 _ _ d hb hd low
end Pdq
end Go.Proofs.Ytmmimgjakoacaaa
