import Derived.Test.YtphpegconhdnfaaPAlloc
set_option maxRecDepth 100000
set_option linter.unusedVariables false
set_option linter.unusedSimpArgs false
namespace Go.Proofs.Ytphpegconhdnfaa
open Go Go.Lift
theorem perm_sum {α : Type} (f : α → Int) {l l' : List α} (h : l.Perm l') : (l.map f).sum = (l'.map f).sum := by
  induction h with
  | nil => rfl
  | cons x _ ih => simp [ih]
  | swap x y l => simp; omega
  | trans _ _ h1 h2 => rw [h1, h2]
theorem sum_le_len {α : Type} (f : α → Int) (B : Int) : ∀ (l : List α), (∀ x ∈ l, f x ≤ B) → (l.map f).sum ≤ l.length * B
  | [], _ => by simp
  | x :: l, h => by
    have h1 := sum_le_len f B l (fun y hy => h y (List.mem_cons_of_mem _ hy))
    have h2 := h x (List.mem_cons_self ..)
    simp only [List.map_cons, List.sum_cons, List.length_cons]
    have : ((l.length + 1 : Nat) : Int) * B = l.length * B + B := by rw [Int.natCast_add, Int.add_mul]; simp
    omega
theorem parts_rest (A S : Int) : ∀ (W : List Int) (k : Nat), (parts A S k W).map (fun p => p.2.1) = rs A S W
  | [], _ => rfl
  | w :: W, k => by simp [parts, rs, parts_rest A S W]
theorem parts_mem (A S : Int) : ∀ (W : List Int) (k : Nat) (p : money_partV), p ∈ parts A S k W → ∃ i, i < W.length ∧ p = (((k + i : Nat) : Int), A * W.getD i 0 % S, ())
  | [], k, p, h => by cases h
  | w :: W, k, p, h => by
    rw [parts] at h
    rcases List.mem_cons.1 h with e | h
    · exact ⟨0, by simp, by rw [e]; simp⟩
    · obtain ⟨i, h1, h2⟩ := parts_mem A S W (k + 1) p h
      exact ⟨i + 1, by simpa using h1, by rw [h2]; simp [Nat.add_assoc, Nat.add_comm 1]⟩
/-- The order of the parts. -/
def LS (x y : money_partV) : Bool := decide (y.2.1 < x.2.1 ∨ (x.2.1 = y.2.1 ∧ x.1 < y.1))
/-- The parts sorted. -/
structure Sorted (A S : Int) (W : List Int) (P : List money_partV) : Prop where
  perm : P.Perm (parts A S 0 W)
  srt : P.Pairwise (fun x y => LS y x = false)
section
variable {A S : Int} {W : List Int} {P : List money_partV}
theorem Sorted.mem (h : Sorted A S W P) {p : money_partV} (hp : p ∈ P) : ∃ i, i < W.length ∧ p = ((i : Int), A * W.getD i 0 % S, ()) := by
  obtain ⟨i, h1, h2⟩ := parts_mem A S W 0 p (h.perm.mem_iff.1 hp)
  exact ⟨i, h1, by rw [h2]; simp⟩
theorem Sorted.length (h : Sorted A S W P) : P.length = W.length := h.perm.length_eq.trans (parts_length A S W 0)
theorem Sorted.rest (f : Fair A S W) (h : Sorted A S W P) {p : money_partV} (hp : p ∈ P) : 0 ≤ p.2.1 ∧ p.2.1 ≤ S - 1 := by
  obtain ⟨i, h1, h2⟩ := h.mem hp
  have := f.pos
  rw [h2]
  have e1 := Int.emod_nonneg (A * W.getD i 0) (show S ≠ 0 by omega)
  have e2 := Int.emod_lt_of_pos (A * W.getD i 0) f.pos
  constructor
  · exact e1
  · show A * W.getD i 0 % S ≤ S - 1; omega
theorem Sorted.sum (f : Fair A S W) (h : Sorted A S W P) : (P.map (fun p => p.2.1)).sum = S * (A - (qs A S W).sum) := by
  rw [perm_sum _ h.perm, parts_rest, f.left.1]
/-- Those that get one more have a rest. -/
theorem Sorted.pos (f : Fair A S W) (h : Sorted A S W P) {dn tl : List money_partV} {p : money_partV} (e : P = dn ++ p :: tl) (hl : (dn.length : Int) < A - (qs A S W).sum) : 0 < p.2.1 := by
  have hp : p ∈ P := by rw [e]; simp
  obtain ⟨r0, r1⟩ := h.rest f hp
  rcases Int.lt_or_eq_of_le r0 with g | g
  · exact g
  · exfalso
    have sm := h.sum f
    have st := h.srt
    rw [e] at sm st
    rw [List.pairwise_append] at st
    have tz : ∀ q ∈ tl, q.2.1 ≤ 0 := fun q hq => by
      have := (List.pairwise_cons.1 st.2.1).1 q hq
      simp only [LS, decide_eq_false_iff_not] at this
      omega
    have b1 := sum_le_len (fun p : money_partV => p.2.1) (S - 1) dn (fun q hq => (h.rest f (by rw [e]; simp [hq])).2)
    have b2 := sum_le_len (fun p : money_partV => p.2.1) 0 tl tz
    simp only [List.map_append, List.map_cons, List.sum_append, List.sum_cons] at sm
    have hpos := f.pos
    have k1 : (dn.length : Int) * (S - 1) ≤ (A - (qs A S W).sum - 1) * (S - 1) := Int.mul_le_mul_of_nonneg_right (by omega) (by omega)
    have k2 : (A - (qs A S W).sum - 1) * (S - 1) = S * (A - (qs A S W).sum) - (A - (qs A S W).sum) - (S - 1) := by
      generalize A - (qs A S W).sum = L
      grind
    omega
end
end Go.Proofs.Ytphpegconhdnfaa
