/- Plain laws of the lifted functions. -/
import Derived.Test.YtmkkdjnojcmihaaPSortV
set_option maxRecDepth 100000
set_option linter.unusedVariables false
set_option linter.unusedSimpArgs false
namespace Go.Proofs.Ytmkkdjnojcmihaa
open Go Go.Lift

/-! ### branches -/
theorem rm16 {n : Nat} (h : n ≤ 1000000) : (decide (n * 16 ≤ room) && decide (0 < Ty.nc (.pair (.int .i64) (.pair (.int .i64) .unit)))) = true := by
  rw [decide_eq_true (by rw [room_eq]; omega)]; rfl
theorem rm8 {n : Nat} (h : n ≤ 1000000) : (decide (n * 8 ≤ room) && decide (0 < Ty.nc (.int .i64))) = true := by
  rw [decide_eq_true (by rw [room_eq]; omega)]; rfl
theorem idx_mid {α : Type} (pre : List α) (x : α) (rest : List α) : idx (pre ++ x :: rest) (pre.length : Int) = some x := by
  rw [idx_nat]; simp
theorem getD_mid {α : Type} (pre : List α) (x z : α) (rest : List α) : (pre ++ x :: rest).getD pre.length z = x := by
  simp [List.getD_eq_getElem?_getD]
theorem len_mid {α : Type} (pre : List α) (x : α) (rest : List α) : (pre ++ x :: rest).length = pre.length + (rest.length + 1) := by simp
theorem mid_shift {α : Type} (pre : List α) (x : α) (rest : List α) : pre ++ x :: rest = (pre ++ [x]) ++ rest := by simp
theorem len_snoc {α : Type} (pre : List α) (x : α) : ((pre ++ [x]).length : Int) = ((pre.length + 1 : Nat) : Int) := by simp

/-! ### Locate, Count -/
theorem locate_eq (l : List Int) (n : Int) (hl : l.length ≤ 1000000) : ∀ (d i : Nat) (out : Int), i + d = l.length → cells_Locate.L0 n out l (l.length : Int) i = ref23_Locate.L0 l n out i ∧ ∃ r, ref23_Locate.L0 l n out i = some (r, ())
  | 0, i, out, h => by
    rw [cells_Locate.L0_eq, cells_Locate.SL0, ref23_Locate.L0_eq, ref23_Locate.SL0, cd_f (by omega), cd_f (by omega)]
    exact ⟨rfl, _, rfl⟩
  | d + 1, i, out, h => by
    have hi : i < l.length := by omega
    rw [cells_Locate.L0_eq, cells_Locate.SL0, ref23_Locate.L0_eq, ref23_Locate.SL0, cd_t (by omega), cd_t (by omega), idx_nat, List.getElem?_eq_getElem hi]
    simp only [bind_some', wrap_succ (show i < 9223372036854775807 by omega)]
    by_cases c : l[i] ≤ n
    · rw [cd_t c, cd_t c]; exact locate_eq l n hl d (i + 1) i (by omega)
    · rw [cd_f c, cd_f c]; exact locate_eq l n hl d (i + 1) out (by omega)

theorem cellsLocate_true (aw : law23_awake = some (true, ())) (l : List Int) (n : Int) : law23_CellsLocate l n = some (true, ()) := by
  simp only [law23_CellsLocate, law23_CellsLocate.Se, aw, bind_some']
  by_cases h : (l.length : Int) > 200
  · rw [cd_t h]
  · rw [cd_f h]
    obtain ⟨e, r, e2⟩ := locate_eq l n (by omega) l.length 0 (-1) (by omega)
    simp only [cells_Locate, cells_Locate.Se, ref23_Locate, ref23_Locate.Se]
    rw [show (0 : Int) = ((0 : Nat) : Int) from rfl, e, e2]
    simp

theorem count_L0 (l : List (List Int)) (hl : l.length ≤ 20) : ∀ (d i : Nat), i + d = l.length → (cells_Count.L0 l 1 l (l.length : Int) i = some (0, ()) ∧ ref23_Count.L0 l 1 i = some (0, ())) ∨
    (cells_Count.L0 l 1 l (l.length : Int) i = cells_Count.L1 1 l (l.length : Int) 0 ∧ ref23_Count.L0 l 1 i = ref23_Count.L1 l 1 0 ∧ ∀ x ∈ l.drop i, x ≠ [])
  | 0, i, h => by
    rw [cells_Count.L0_eq, cells_Count.SL0, ref23_Count.L0_eq, ref23_Count.SL0, cd_f (by omega), cd_f (by omega)]
    exact .inr ⟨rfl, rfl, by rw [List.drop_eq_nil_of_le (by omega)]; simp⟩
  | d + 1, i, h => by
    have hi : i < l.length := by omega
    rw [cells_Count.L0_eq, cells_Count.SL0, ref23_Count.L0_eq, ref23_Count.SL0, cd_t (by omega), cd_t (by omega), idx_nat, List.getElem?_eq_getElem hi]
    simp only [bind_some', wrap_succ (show i < 9223372036854775807 by omega)]
    by_cases c : l[i] = []
    · left
      rw [c]
      exact ⟨rfl, rfl⟩
    · have hc : ((l[i].length : Int) == 0) = false := by
        rw [beq_eq_false_iff_ne]
        have := List.length_pos_iff.2 c
        omega
      rw [hc, cond_false, cond_false]
      rcases count_L0 l hl d (i + 1) (by omega) with g | ⟨g1, g2, g3⟩
      · exact .inl g
      · refine .inr ⟨g1, g2, ?_⟩
        rw [List.drop_eq_getElem_cons hi]
        intro x hx
        rcases List.mem_cons.1 hx with e | hx
        · rw [e]; exact c
        · exact g3 x hx

theorem count_L1 (l : List (List Int)) (hl : l.length ≤ 20) (hs : ∀ x ∈ l, x.length ≤ 200 ∧ x ≠ []) : ∀ (d i : Nat) (n : Int), i + d = l.length → 1 ≤ n → n ≤ 4096 → ∃ r, cells_Count.L1 n l (l.length : Int) i = some (r, ()) ∧ ref23_Count.L1 l n i = some (r, ())
  | 0, i, n, h, h1, h2 => by
    rw [cells_Count.L1_eq, cells_Count.SL1, ref23_Count.L1_eq, ref23_Count.SL1, cd_f (by omega), cd_f (by omega), cd_f (by omega)]
    exact ⟨n, rfl, rfl⟩
  | d + 1, i, n, h, h1, h2 => by
    have hi : i < l.length := by omega
    obtain ⟨x1, x2⟩ := hs l[i] (List.getElem_mem hi)
    have x3 := List.length_pos_iff.2 x2
    rw [cells_Count.L1_eq, cells_Count.SL1, ref23_Count.L1_eq, ref23_Count.SL1, cd_t (by omega), cd_t (by omega), cd_t h2, ref23_Count.J2_eq, ref23_Count.SJ2, idx_nat, List.getElem?_eq_getElem hi]
    simp only [bind_some', wrap_succ (show i < 9223372036854775807 by omega)]
    have p1 : 1 ≤ n * (l[i].length : Int) := by
      have := Int.mul_le_mul h1 (show (1 : Int) ≤ (l[i].length : Int) by omega) (by omega) (by omega)
      omega
    have p2 : n * (l[i].length : Int) ≤ 4096 * 200 := Int.mul_le_mul h2 (by omega) (by omega) (by omega)
    rw [wrap64 (by omega) (by omega)]
    by_cases c : n * (l[i].length : Int) > 4096
    · rw [cd_t c, ref23_Count.L1_eq, ref23_Count.SL1]
      refine ⟨4097, rfl, ?_⟩
      have e : (cond (decide (4097 < n * (l[i].length : Int))) 4097 (n * (l[i].length : Int))) = 4097 := by
        by_cases g : 4097 < n * (l[i].length : Int)
        · rw [cd_t g]
        · rw [cd_f g]; omega
      rw [e, cd_f (show ¬ n * (l[i].length : Int) ≤ 4096 by omega)]
      cases decide (((i + 1 : Nat) : Int) < (l.length : Int)) <;> rfl
    · rw [cd_f c]
      exact count_L1 l hl hs d (i + 1) _ (by omega) p1 (by omega)

theorem cellsCount_true (aw : law23_awake = some (true, ())) (l : List (List Int)) : law23_CellsCount l = some (true, ()) := by
  simp only [law23_CellsCount, law23_CellsCount.Se, aw, bind_some']
  by_cases h : (l.length : Int) > 20
  · rw [cd_t h]
  · rw [cd_f h]
    have go : ∀ (d i : Nat), i + d = l.length → (∀ x ∈ l.take i, x.length ≤ 200) → law23_CellsCount.L0 l i = some (true, ()) := by
      intro d
      induction d with
      | zero =>
        intro i hi hx
        rw [law23_CellsCount.L0_eq, law23_CellsCount.SL0, cd_f (by omega)]
        rw [List.take_of_length_le (by omega)] at hx
        simp only [cells_Count, cells_Count.Se, ref23_Count, ref23_Count.Se]
        have := count_L0 l (by omega) l.length 0 (by omega)
        rcases this with ⟨e1, e2⟩ | ⟨e1, e2, e3⟩
        · rw [show (0 : Int) = ((0 : Nat) : Int) from rfl, e1, e2]
          simp [aw]
        · rw [List.drop_zero] at e3
          obtain ⟨r, g1, g2⟩ := count_L1 l (by omega) (fun x hx' => ⟨hx x hx', e3 x hx'⟩) l.length 0 1 (by omega) (by omega) (by omega)
          rw [show (0 : Int) = ((0 : Nat) : Int) from rfl, e1, e2]
          rw [show (0 : Int) = ((0 : Nat) : Int) from rfl, g1, g2]
          simp [aw]
      | succ d ih =>
        intro i hi hx
        have h1 : i < l.length := by omega
        rw [law23_CellsCount.L0_eq, law23_CellsCount.SL0, cd_t (by omega), idx_nat, List.getElem?_eq_getElem h1, bind_some']
        by_cases c : (l[i].length : Int) > 200
        · rw [cd_t c, aw]; rfl
        · rw [cd_f c, wrap_succ (by omega)]
          refine ih (i + 1) (by omega) (fun x hx' => ?_)
          rw [List.take_succ_eq_append_getElem h1] at hx'
          rcases List.mem_append.1 hx' with g | g
          · exact hx x g
          · rw [List.mem_singleton.1 g]; omega
    exact go l.length 0 (by omega) (by simp)

end Go.Proofs.Ytmkkdjnojcmihaa
