import Derived.Test.YtgnigfnonoicmaaPB
set_option maxRecDepth 100000
set_option linter.unusedVariables false
set_option linter.unusedSimpArgs false
namespace Go.Proofs.Ytgnigfnonoicmaa
open Go Go.Lift
def kprp (r : api_TypeV) : Bool := decide (r.1 < r.2.1)
theorem kprp_iff {r : api_TypeV} : kprp r = true ↔ r.1 < r.2.1 := by simp [kprp]
/-- A key lies in a range. -/
def kinr (r : api_TypeV) (t : Int) : Prop := r.1 ≤ t ∧ t < r.2.1
/-- A key lies in one of the ranges. -/
def kcov (l : List api_TypeV) (t : Int) : Prop := ∃ r ∈ l, kinr r t
/-- In order, apart, and each proper. -/
def KNrm (l : List api_TypeV) : Prop := (∀ r ∈ l, kprp r = true) ∧ l.Pairwise (fun x y => x.2.1 < y.1)
theorem kcov_nil (t : Int) : ¬ kcov [] t := by simp [kcov]
theorem kcov_cons (x : api_TypeV) (l : List api_TypeV) (t : Int) : kcov (x :: l) t ↔ kinr x t ∨ kcov l t := by simp [kcov]
theorem kcov_append (a b : List api_TypeV) (t : Int) : kcov (a ++ b) t ↔ kcov a t ∨ kcov b t := by
  simp only [kcov, List.mem_append]
  constructor
  · rintro ⟨r, h | h, i⟩
    · exact .inl ⟨r, h, i⟩
    · exact .inr ⟨r, h, i⟩
  · rintro (⟨r, h, i⟩ | ⟨r, h, i⟩)
    · exact ⟨r, .inl h, i⟩
    · exact ⟨r, .inr h, i⟩
theorem KNrm_nil : KNrm [] := ⟨by simp, .nil⟩
theorem KNrm_cons {x : api_TypeV} {l : List api_TypeV} : KNrm (x :: l) ↔ kprp x = true ∧ (∀ y ∈ l, x.2.1 < y.1) ∧ KNrm l := by
  simp only [KNrm, List.forall_mem_cons, List.pairwise_cons]
  constructor
  · rintro ⟨⟨h1, h2⟩, h3, h4⟩; exact ⟨h1, h3, h2, h4⟩
  · rintro ⟨h1, h3, h2, h4⟩; exact ⟨⟨h1, h2⟩, h3, h4⟩
theorem KNrm_snoc {x : api_TypeV} {l : List api_TypeV} : KNrm (l ++ [x]) ↔ KNrm l ∧ kprp x = true ∧ (∀ y ∈ l, y.2.1 < x.1) := by
  simp only [KNrm, List.forall_mem_append, List.pairwise_append, List.forall_mem_singleton, List.pairwise_singleton, true_and]
  constructor
  · rintro ⟨⟨h1, h2⟩, h3, h4⟩; exact ⟨⟨h1, h3⟩, h2, fun y hy => h4 y hy⟩
  · rintro ⟨⟨h1, h3⟩, h2, h4⟩; exact ⟨⟨h1, h2⟩, h3, fun y hy => h4 y hy⟩
theorem KNrm_append {a b : List api_TypeV} : KNrm (a ++ b) ↔ KNrm a ∧ KNrm b ∧ ∀ x ∈ a, ∀ y ∈ b, x.2.1 < y.1 := by
  simp only [KNrm, List.forall_mem_append, List.pairwise_append]
  constructor
  · rintro ⟨⟨h1, h2⟩, h3, h4, h5⟩; exact ⟨⟨h1, h3⟩, ⟨h2, h4⟩, h5⟩
  · rintro ⟨⟨h1, h3⟩, ⟨h2, h4⟩, h5⟩; exact ⟨⟨h1, h2⟩, h3, h4, h5⟩
theorem KNrm_start {x : api_TypeV} {l : List api_TypeV} (h : KNrm (x :: l)) (t : Int) (ht : kcov (x :: l) t) : x.1 ≤ t := by
  obtain ⟨h1, h2, h3⟩ := KNrm_cons.1 h
  rw [kcov_cons] at ht
  rcases ht with ht | ⟨y, hy, i⟩
  · exact ht.1
  · have := h2 y hy
    have := kprp_iff.1 h1
    have := i.1
    omega
theorem KNrm_after {x : api_TypeV} {l : List api_TypeV} (h : KNrm (x :: l)) : ¬ kcov (x :: l) x.2.1 := by
  obtain ⟨h1, h2, h3⟩ := KNrm_cons.1 h
  rw [kcov_cons]
  rintro (i | ⟨y, hy, i⟩)
  · have := i.2; omega
  · have := h2 y hy
    have := i.1
    omega
/-- Ranges in order and apart are told by the dates they kcover. -/
theorem KNrm_unique : ∀ {a b : List api_TypeV}, KNrm a → KNrm b → (∀ t, kcov a t ↔ kcov b t) → a = b
  | [], [], _, _, _ => rfl
  | [], y :: b, _, hb, h => by
    have := kprp_iff.1 (KNrm_cons.1 hb).1
    exact absurd ((h y.1).2 ((kcov_cons ..).2 (.inl ⟨by omega, by omega⟩))) (kcov_nil _)
  | x :: a, [], ha, _, h => by
    have := kprp_iff.1 (KNrm_cons.1 ha).1
    exact absurd ((h x.1).1 ((kcov_cons ..).2 (.inl ⟨by omega, by omega⟩))) (kcov_nil _)
  | x :: a, y :: b, ha, hb, h => by
    obtain ⟨a1, a2, a3⟩ := KNrm_cons.1 ha
    obtain ⟨b1, b2, b3⟩ := KNrm_cons.1 hb
    have px := kprp_iff.1 a1
    have py := kprp_iff.1 b1
    have e1 : x.1 = y.1 := by
      have h1 := KNrm_start hb x.1 ((h x.1).1 ((kcov_cons ..).2 (.inl ⟨by omega, by omega⟩)))
      have h2 := KNrm_start ha y.1 ((h y.1).2 ((kcov_cons ..).2 (.inl ⟨by omega, by omega⟩)))
      omega
    have e2 : x.2.1 = y.2.1 := by
      rcases Int.lt_trichotomy x.2.1 y.2.1 with g | g | g
      · exact absurd ((h x.2.1).2 ((kcov_cons ..).2 (.inl ⟨by omega, g⟩))) (KNrm_after ha)
      · exact g
      · exact absurd ((h y.2.1).1 ((kcov_cons ..).2 (.inl ⟨by omega, g⟩))) (KNrm_after hb)
    have exy : x = y := by
      obtain ⟨x1, x2, x3⟩ := x
      obtain ⟨y1, y2, y3⟩ := y
      simp only at e1 e2
      rw [e1, e2]
    rw [exy, KNrm_unique a3 b3 (fun t => ?_)]
    have ht := h t
    rw [kcov_cons, kcov_cons, exy] at ht
    constructor
    · intro g
      rcases ht.1 (.inr g) with i | i
      · obtain ⟨z, hz, j⟩ := g
        have := a2 z hz
        have := i.2; have := j.1
        omega
      · exact i
    · intro g
      rcases ht.2 (.inr g) with i | i
      · obtain ⟨z, hz, j⟩ := g
        have := b2 z hz
        have := i.2; have := j.1
        omega
      · exact i
theorem eq_val (a b : api_TypeV) : eqTy (.pair (.int .i64) (.pair (.int .i64) .unit)) a b = decide (a = b) := by
  rw [Bool.eq_iff_iff, decide_eq_true_iff]
  obtain ⟨a1, a2, a3⟩ := a
  obtain ⟨b1, b2, b3⟩ := b
  simp [eqTy]
theorem sameK_L0 (a b : List api_TypeV) (hl : a.length = b.length) (hn : a.length ≤ 1000000) : ∀ (d i : Nat), i + d = a.length → a = b → same_KeyRanges.L0 a b i = some (true, ())
  | 0, i, h, e => by
    rw [same_KeyRanges.L0_eq, same_KeyRanges.SL0, cd_f (by omega)]
  | d + 1, i, h, e => by
    have h1 : i < a.length := by omega
    have h2 : i < b.length := by omega
    rw [same_KeyRanges.L0_eq, same_KeyRanges.SL0, cd_t (by omega), cd_t (by omega), same_KeyRanges.J1_eq, same_KeyRanges.SJ1, idx_nat, idx_nat, List.getElem?_eq_getElem h1, List.getElem?_eq_getElem h2]
    simp only [bind_some', eq_val]
    have : a[i] = b[i] := by simp [e]
    rw [this, decide_eq_true rfl, wrap_succ (by omega), sameK_L0 a b hl hn d (i + 1) (by omega) e]
    rfl
theorem sameK {a b : List api_TypeV} (e : a = b) (hn : a.length ≤ 1000000) : same_KeyRanges a b = some (true, ()) := by
  simp only [same_KeyRanges, same_KeyRanges.Se]
  rw [show ((a.length : Int) != (b.length : Int)) = false by rw [e]; simp, cond_false]
  exact sameK_L0 a b (by rw [e]) hn a.length 0 (by omega) e
end Go.Proofs.Ytgnigfnonoicmaa
