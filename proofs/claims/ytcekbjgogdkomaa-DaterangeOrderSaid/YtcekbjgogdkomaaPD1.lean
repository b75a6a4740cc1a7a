/- Plain laws of the lifted functions. -/
import Derived.Test.YtcekbjgogdkomaaPSortD
set_option maxRecDepth 100000
set_option linter.unusedVariables false
set_option linter.unusedSimpArgs false
namespace Go.Proofs.Ytcekbjgogdkomaa
open Go Go.Lift

/-! ### date ranges in plain words -/
/-- A proper range: on the calendar and not empty. -/
def prp (r : api_DateRangeV) : Bool := decide (0 ≤ r.1 ∧ r.1 < r.2.1 ∧ r.2.1 ≤ 109573)

theorem prp_iff {r : api_DateRangeV} : prp r = true ↔ 0 ≤ r.1 ∧ r.1 < r.2.1 ∧ r.2.1 ≤ 109573 := by simp [prp]

/-- A range on the calendar. -/
def vld (r : api_DateRangeV) : Bool := decide (0 ≤ r.1 ∧ r.1 ≤ r.2.1 ∧ r.2.1 ≤ 109573)

/-- A date lies in a range. -/
def inr (r : api_DateRangeV) (t : Int) : Prop := r.1 ≤ t ∧ t < r.2.1

/-- A date lies in one of the ranges. -/
def cov (l : List api_DateRangeV) (t : Int) : Prop := ∃ r ∈ l, inr r t

/-- In order, apart, and each proper. -/
def Nrm (l : List api_DateRangeV) : Prop := (∀ r ∈ l, prp r = true) ∧ l.Pairwise (fun x y => x.2.1 < y.1)

theorem cov_nil (t : Int) : ¬ cov [] t := by simp [cov]
theorem cov_cons (x : api_DateRangeV) (l : List api_DateRangeV) (t : Int) : cov (x :: l) t ↔ inr x t ∨ cov l t := by simp [cov]
theorem cov_append (a b : List api_DateRangeV) (t : Int) : cov (a ++ b) t ↔ cov a t ∨ cov b t := by
  simp only [cov, List.mem_append]
  constructor
  · rintro ⟨r, h | h, i⟩
    · exact .inl ⟨r, h, i⟩
    · exact .inr ⟨r, h, i⟩
  · rintro (⟨r, h, i⟩ | ⟨r, h, i⟩)
    · exact ⟨r, .inl h, i⟩
    · exact ⟨r, .inr h, i⟩

theorem Nrm_nil : Nrm [] := ⟨by simp, .nil⟩
theorem Nrm_cons {x : api_DateRangeV} {l : List api_DateRangeV} : Nrm (x :: l) ↔ prp x = true ∧ (∀ y ∈ l, x.2.1 < y.1) ∧ Nrm l := by
  simp only [Nrm, List.forall_mem_cons, List.pairwise_cons]
  constructor
  · rintro ⟨⟨h1, h2⟩, h3, h4⟩; exact ⟨h1, h3, h2, h4⟩
  · rintro ⟨h1, h3, h2, h4⟩; exact ⟨⟨h1, h2⟩, h3, h4⟩
theorem Nrm_snoc {x : api_DateRangeV} {l : List api_DateRangeV} : Nrm (l ++ [x]) ↔ Nrm l ∧ prp x = true ∧ (∀ y ∈ l, y.2.1 < x.1) := by
  simp only [Nrm, List.forall_mem_append, List.pairwise_append, List.forall_mem_singleton, List.pairwise_singleton, true_and]
  constructor
  · rintro ⟨⟨h1, h2⟩, h3, h4⟩; exact ⟨⟨h1, h3⟩, h2, fun y hy => h4 y hy⟩
  · rintro ⟨⟨h1, h3⟩, h2, h4⟩; exact ⟨⟨h1, h2⟩, h3, fun y hy => h4 y hy⟩

theorem Nrm_append {a b : List api_DateRangeV} : Nrm (a ++ b) ↔ Nrm a ∧ Nrm b ∧ ∀ x ∈ a, ∀ y ∈ b, x.2.1 < y.1 := by
  simp only [Nrm, List.forall_mem_append, List.pairwise_append]
  constructor
  · rintro ⟨⟨h1, h2⟩, h3, h4, h5⟩; exact ⟨⟨h1, h3⟩, ⟨h2, h4⟩, h5⟩
  · rintro ⟨⟨h1, h3⟩, ⟨h2, h4⟩, h5⟩; exact ⟨⟨h1, h2⟩, h3, h4, h5⟩

theorem Nrm_start {x : api_DateRangeV} {l : List api_DateRangeV} (h : Nrm (x :: l)) (t : Int) (ht : cov (x :: l) t) : x.1 ≤ t := by
  obtain ⟨h1, h2, h3⟩ := Nrm_cons.1 h
  rw [cov_cons] at ht
  rcases ht with ht | ⟨y, hy, i⟩
  · exact ht.1
  · have := h2 y hy
    have := prp_iff.1 h1
    have := i.1
    omega

theorem Nrm_after {x : api_DateRangeV} {l : List api_DateRangeV} (h : Nrm (x :: l)) : ¬ cov (x :: l) x.2.1 := by
  obtain ⟨h1, h2, h3⟩ := Nrm_cons.1 h
  rw [cov_cons]
  rintro (i | ⟨y, hy, i⟩)
  · have := i.2; omega
  · have := h2 y hy
    have := i.1
    omega

/-- Ranges in order and apart are told by the dates they cover. -/
theorem Nrm_unique : ∀ {a b : List api_DateRangeV}, Nrm a → Nrm b → (∀ t, cov a t ↔ cov b t) → a = b
  | [], [], _, _, _ => rfl
  | [], y :: b, _, hb, h => by
    have := prp_iff.1 (Nrm_cons.1 hb).1
    exact absurd ((h y.1).2 ((cov_cons ..).2 (.inl ⟨by omega, by omega⟩))) (cov_nil _)
  | x :: a, [], ha, _, h => by
    have := prp_iff.1 (Nrm_cons.1 ha).1
    exact absurd ((h x.1).1 ((cov_cons ..).2 (.inl ⟨by omega, by omega⟩))) (cov_nil _)
  | x :: a, y :: b, ha, hb, h => by
    obtain ⟨a1, a2, a3⟩ := Nrm_cons.1 ha
    obtain ⟨b1, b2, b3⟩ := Nrm_cons.1 hb
    have px := prp_iff.1 a1
    have py := prp_iff.1 b1
    have e1 : x.1 = y.1 := by
      have h1 := Nrm_start hb x.1 ((h x.1).1 ((cov_cons ..).2 (.inl ⟨by omega, by omega⟩)))
      have h2 := Nrm_start ha y.1 ((h y.1).2 ((cov_cons ..).2 (.inl ⟨by omega, by omega⟩)))
      omega
    have e2 : x.2.1 = y.2.1 := by
      rcases Int.lt_trichotomy x.2.1 y.2.1 with g | g | g
      · exact absurd ((h x.2.1).2 ((cov_cons ..).2 (.inl ⟨by omega, g⟩))) (Nrm_after ha)
      · exact g
      · exact absurd ((h y.2.1).1 ((cov_cons ..).2 (.inl ⟨by omega, g⟩))) (Nrm_after hb)
    have exy : x = y := by
      obtain ⟨x1, x2, x3⟩ := x
      obtain ⟨y1, y2, y3⟩ := y
      simp only at e1 e2
      rw [e1, e2]
    rw [exy, Nrm_unique a3 b3 (fun t => ?_)]
    have ht := h t
    rw [cov_cons, cov_cons, exy] at ht
    constructor
    · intro g
      rcases ht.1 (.inr g) with i | i
      · obtain ⟨z, hz, j⟩ := g
        have := a2 z hz
        have := i.2; have := j.1
        omega
      · exact i
    · intro g
      rcases ht.2 (.inr g) with i | i
      · obtain ⟨z, hz, j⟩ := g
        have := b2 z hz
        have := i.2; have := j.1
        omega
      · exact i

theorem Nrm_length_from : ∀ (l : List api_DateRangeV) (s : Int), Nrm l → (∀ x ∈ l, s ≤ x.1) → s ≤ 109573 → s + l.length ≤ 109573
  | [], s, _, _, hs => by simpa using hs
  | x :: l, s, h, g, hs => by
    obtain ⟨h1, h2, h3⟩ := Nrm_cons.1 h
    have hx := prp_iff.1 h1
    have := g x (List.mem_cons_self ..)
    have := Nrm_length_from l x.2.1 h3 (fun y hy => by have := h2 y hy; omega) (by omega)
    simp only [List.length_cons]
    omega

theorem Nrm_length {l : List api_DateRangeV} (h : Nrm l) : l.length ≤ 109573 := by
  have := Nrm_length_from l 0 h (fun x hx => (prp_iff.1 (h.1 x hx)).1) (by omega)
  omega

theorem proper_val (r : api_DateRangeV) : daterange_proper r = some (prp r, ()) := by
  simp only [daterange_proper, daterange_proper.Se, daterange_Valid, daterange_Valid.Se, prp, bind_some']
  by_cases h1 : 0 ≤ r.1 <;> by_cases h2 : r.1 ≤ r.2.1 <;> by_cases h3 : r.2.1 ≤ 109573 <;> by_cases h4 : r.1 < r.2.1 <;> simp [h1, h2, h3, h4] <;> omega

theorem valid_val (r : api_DateRangeV) : daterange_Valid r = some (vld r, ()) := by
  simp only [daterange_Valid, daterange_Valid.Se, vld, bind_some']
  by_cases h1 : 0 ≤ r.1 <;> by_cases h2 : r.1 ≤ r.2.1 <;> by_cases h3 : r.2.1 ≤ 109573 <;> simp [h1, h2, h3]

theorem rvalid_val (r : api_DateRangeV) : ref05_Valid r = some (vld r, ()) := by
  simp only [ref05_Valid, ref05_Valid.Se, vld, bind_some']
  by_cases h1 : 0 ≤ r.1 <;> by_cases h2 : r.1 ≤ r.2.1 <;> by_cases h3 : r.2.1 ≤ 109573 <;> simp [h1, h2, h3]

theorem nonempty_val (r : api_DateRangeV) : ref05_nonempty r = some (prp r, ()) := by
  simp only [ref05_nonempty, ref05_nonempty.Se, rvalid_val, prp, vld, bind_some']
  by_cases h1 : 0 ≤ r.1 <;> by_cases h2 : r.1 ≤ r.2.1 <;> by_cases h3 : r.2.1 ≤ 109573 <;> by_cases h4 : r.1 < r.2.1 <;> simp [h1, h2, h3, h4] <;> omega

theorem rm16 {n : Nat} (h : n ≤ 1000000) : (decide (n * 16 ≤ room) && decide (0 < Ty.nc (.pair (.int .i64) (.pair (.int .i64) .unit)))) = true := by
  rw [decide_eq_true (by rw [room_eq]; omega)]; rfl
theorem rm8 {n : Nat} (h : n ≤ 1000000) : (decide (n * 8 ≤ room) && decide (0 < Ty.nc (.int .i64))) = true := by
  rw [decide_eq_true (by rw [room_eq]; omega)]; rfl

theorem idx_mid {α : Type} (pre : List α) (x : α) (rest : List α) : idx (pre ++ x :: rest) (pre.length : Int) = some x := by
  rw [idx_nat]; simp

theorem getD_mid {α : Type} (pre : List α) (x z : α) (rest : List α) : (pre ++ x :: rest).getD pre.length z = x := by
  simp [List.getD_eq_getElem?_getD]

theorem len_mid {α : Type} (pre : List α) (x : α) (rest : List α) : (pre ++ x :: rest).length = pre.length + (rest.length + 1) := by simp

theorem mid_shift {α : Type} (pre : List α) (x : α) (rest : List α) : pre ++ x :: rest = (pre ++ [x]) ++ rest := by simp

theorem len_snoc {α : Type} (pre : List α) (x : α) : ((pre ++ [x]).length : Int) = ((pre.length + 1 : Nat) : Int) := by simp

theorem eq_val (a b : api_DateRangeV) : eqTy (.pair (.int .i64) (.pair (.int .i64) .unit)) a b = decide (a = b) := by
  rw [Bool.eq_iff_iff, decide_eq_true_iff]
  obtain ⟨a1, a2, a3⟩ := a
  obtain ⟨b1, b2, b3⟩ := b
  simp [eqTy]

theorem sameD_L0 (a b : List api_DateRangeV) (hl : a.length = b.length) (hn : a.length ≤ 1000000) : ∀ (d i : Nat), i + d = a.length → a = b → same_DateRanges.L0 a b i = some (true, ())
  | 0, i, h, e => by
    rw [same_DateRanges.L0_eq, same_DateRanges.SL0, cd_f (by omega)]
  | d + 1, i, h, e => by
    have h1 : i < a.length := by omega
    have h2 : i < b.length := by omega
    rw [same_DateRanges.L0_eq, same_DateRanges.SL0, cd_t (by omega), cd_t (by omega), same_DateRanges.J1_eq, same_DateRanges.SJ1, idx_nat, idx_nat, List.getElem?_eq_getElem h1, List.getElem?_eq_getElem h2]
    simp only [bind_some', eq_val]
    have : a[i] = b[i] := by simp [e]
    rw [this, decide_eq_true rfl, wrap_succ (by omega), sameD_L0 a b hl hn d (i + 1) (by omega) e]
    rfl

theorem sameD {a b : List api_DateRangeV} (e : a = b) (hn : a.length ≤ 1000000) : same_DateRanges a b = some (true, ()) := by
  simp only [same_DateRanges, same_DateRanges.Se]
  rw [show ((a.length : Int) != (b.length : Int)) = false by rw [e]; simp, cond_false]
  exact sameD_L0 a b (by rw [e]) hn a.length 0 (by omega) e

end Go.Proofs.Ytcekbjgogdkomaa
