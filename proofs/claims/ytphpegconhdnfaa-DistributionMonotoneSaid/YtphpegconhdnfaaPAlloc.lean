import Derived.Test.YtphpegconhdnfaaPSortP
set_option maxRecDepth 100000
set_option linter.unusedVariables false
set_option linter.unusedSimpArgs false
namespace Go.Proofs.Ytphpegconhdnfaa
open Go Go.Lift
section
variable (A S : Int)
/-- The whole shares. -/
def qs (W : List Int) : List Int := W.map (fun w => A * w / S)
/-- The rests. -/
def rs (W : List Int) : List Int := W.map (fun w => A * w % S)
/-- The parts that are sorted. -/
def parts : Nat → List Int → List money_partV
  | _, [] => []
  | k, w :: W => ((k : Int), A * w % S, ()) :: parts (k + 1) W
theorem parts_length : ∀ (W : List Int) (k : Nat), (parts A S k W).length = W.length
  | [], _ => rfl
  | w :: W, k => by simp [parts, parts_length W]
theorem sum_split : ∀ W : List Int, S * (qs A S W).sum + (rs A S W).sum = A * W.sum
  | [] => by simp [qs, rs]
  | w :: W => by
    have h := sum_split W
    have e := Int.emod_add_mul_ediv (A * w) S
    simp only [qs, rs, List.map_cons, List.sum_cons] at h ⊢
    grind
theorem rs_bounds (hS : 0 < S) : ∀ W : List Int, 0 ≤ (rs A S W).sum ∧ (rs A S W).sum ≤ W.length * (S - 1)
  | [] => by simp [rs]
  | w :: W => by
    have h := rs_bounds hS W
    have e1 := Int.emod_nonneg (A * w) (show S ≠ 0 by omega)
    have e2 := Int.emod_lt_of_pos (A * w) hS
    simp only [rs, List.map_cons, List.sum_cons, List.length_cons] at h ⊢
    have : ((W.length + 1 : Nat) : Int) * (S - 1) = W.length * (S - 1) + (S - 1) := by
      rw [Int.natCast_add, Int.add_mul]; simp
    omega
end
theorem sum_mem_le : ∀ (W : List Int), (∀ w ∈ W, 0 ≤ w) → 0 ≤ W.sum ∧ ∀ w ∈ W, w ≤ W.sum
  | [], _ => by simp
  | v :: W, h => by
    obtain ⟨h1, h2⟩ := sum_mem_le W (fun w hw => h w (List.mem_cons_of_mem _ hw))
    have h3 := h v (List.mem_cons_self ..)
    simp only [List.sum_cons]
    refine ⟨by omega, fun w hw => ?_⟩
    rcases List.mem_cons.1 hw with rfl | hw
    · omega
    · have := h2 w hw; omega
theorem sum_le_of : ∀ (W : List Int), (∀ w ∈ W, w ≤ 1000000000) → W.sum ≤ W.length * 1000000000
  | [], _ => by simp
  | v :: W, h => by
    have := sum_le_of W (fun w hw => h w (List.mem_cons_of_mem _ hw))
    have := h v (List.mem_cons_self ..)
    simp only [List.sum_cons, List.length_cons]
    omega
/-- What a split needs of the amount and the weights. -/
structure Fair (A S : Int) (W : List Int) : Prop where
  a0 : 0 ≤ A
  a1 : A ≤ 1000000000000000
  w0 : ∀ w ∈ W, 0 ≤ w
  w1 : ∀ w ∈ W, w ≤ 1000000000
  len : W.length ≤ 64
  sum : W.sum = S
  pos : 0 < S
theorem Fair.s1 {A S : Int} {W : List Int} (f : Fair A S W) : S ≤ 64000000000 := by
  have := sum_le_of W f.w1
  have := f.sum
  have := f.len
  omega
theorem Fair.le {A S : Int} {W : List Int} (f : Fair A S W) : ∀ w ∈ W, w ≤ S := by
  rw [← f.sum]; exact (sum_mem_le W f.w0).2
/-- What is left over: at least nothing, and less than there are parts. -/
theorem Fair.left {A S : Int} {W : List Int} (f : Fair A S W) : (rs A S W).sum = S * (A - (qs A S W).sum) ∧ 0 ≤ A - (qs A S W).sum ∧ A - (qs A S W).sum ≤ W.length := by
  have e := sum_split A S W
  rw [f.sum] at e
  have h := rs_bounds A S f.pos W
  have e2 : (rs A S W).sum = S * (A - (qs A S W).sum) := by rw [Int.mul_sub, Int.mul_comm S A]; omega
  refine ⟨e2, ?_, ?_⟩
  · rw [e2] at h
    exact Int.nonneg_of_mul_nonneg_right h.1 f.pos
  · have h2 : S * (A - (qs A S W).sum) ≤ S * W.length := by
      rw [← e2]
      have : (W.length : Int) * (S - 1) = S * W.length - W.length := by rw [Int.mul_sub, Int.mul_comm]; omega
      omega
    exact Int.le_of_mul_le_mul_left h2 f.pos
end Go.Proofs.Ytphpegconhdnfaa
