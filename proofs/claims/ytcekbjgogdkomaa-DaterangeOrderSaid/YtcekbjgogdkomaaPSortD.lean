/- Plain laws of the lifted functions. -/
import Derived.Test.YtcekbjgogdkomaaPSortI
set_option maxRecDepth 100000
set_option linter.unusedVariables false
set_option linter.unusedSimpArgs false
namespace Go.Proofs.Ytcekbjgogdkomaa
open Go Go.Lift

/-! ### date ranges by their start -/
def cmpI (x y : Int) : Int := cond (decide (x < y)) (-1) (cond (decide (x > y)) 1 0)

theorem compare_int (x y : Int) : cmp_Compare_int x y = some (cmpI x y, ()) := by
  simp only [cmp_Compare_int, cmp_Compare_int.Se, cmp_isNaN_int, cmp_isNaN_int.Se, bind_some', bne_self_eq_false, cond_false, cmpI]
  cases decide (x < y) <;> cases decide (x > y) <;> rfl

theorem cmpI_neg (x y : Int) : decide (cmpI x y < 0) = decide (x < y) := by
  unfold cmpI
  by_cases h : x < y
  · simp [h]
  · by_cases h2 : x > y <;> simp [h, h2]

theorem union1 (x y : api_DateRangeV) : daterange_Union_1 x y = some (cmpI x.1 y.1, ()) := by
  simp only [daterange_Union_1, daterange_Union_1.Se, compare_int, bind_some']

theorem dr_sw : SW (fun x y : api_DateRangeV => decide (cmpI x.1 y.1 < 0)) :=
  ⟨fun x y h => by simp only [cmpI_neg] at h ⊢; simp at h ⊢; omega, fun x y w h1 h2 => by simp only [cmpI_neg] at h1 h2 ⊢; simp at h1 h2 ⊢; omega⟩

/-! ### dr: the sort of api_DateRangeV -/
theorem dr_ins (sw : SW (fun x y : api_DateRangeV => decide (cmpI x.1 y.1 < 0))) (a b : Nat) (d : List api_DateRangeV) (hab : a ≤ b) (hb : b ≤ d.length) (hd : d.length ≤ 4611686018427387904) :
    ∃ d', slices_insertionSortCmpFunc_api_DateRange_daterange_Union_1 d a b = some (d', ()) ∧ Rng (0, 0, ()) a b d d' ∧ Srt (0, 0, ()) (fun x y : api_DateRangeV => decide (cmpI x.1 y.1 < 0)) a b d' :=
  Ins.spec (L0 := slices_insertionSortCmpFunc_api_DateRange_daterange_Union_1.L0) (L1 := slices_insertionSortCmpFunc_api_DateRange_daterange_Union_1.L1) (J2 := slices_insertionSortCmpFunc_api_DateRange_daterange_Union_1.J2) sw
    (fun a b i d => by rw [slices_insertionSortCmpFunc_api_DateRange_daterange_Union_1.L0_eq]; rfl)
    (fun a b i j d => by rw [slices_insertionSortCmpFunc_api_DateRange_daterange_Union_1.L1_eq]; simp only [slices_insertionSortCmpFunc_api_DateRange_daterange_Union_1.SL1, Ins.SL1, union1, bind_some'])
    (fun a b i j d => by rw [slices_insertionSortCmpFunc_api_DateRange_daterange_Union_1.J2_eq]; rfl) a b d hb hd hab

theorem dr_sift (sw : SW (fun x y : api_DateRangeV => decide (cmpI x.1 y.1 < 0))) : Heap.SiftOK (0, 0, ()) (fun x y : api_DateRangeV => decide (cmpI x.1 y.1 < 0)) slices_siftDownCmpFunc_api_DateRange_daterange_Union_1 :=
  Heap.siftOK (L0 := slices_siftDownCmpFunc_api_DateRange_daterange_Union_1.L0) (J1 := slices_siftDownCmpFunc_api_DateRange_daterange_Union_1.J1) sw
    (fun hi f r d => by rw [slices_siftDownCmpFunc_api_DateRange_daterange_Union_1.L0_eq]; simp only [slices_siftDownCmpFunc_api_DateRange_daterange_Union_1.SL0, Heap.SL0, union1, bind_some'])
    (fun hi f r c d => by rw [slices_siftDownCmpFunc_api_DateRange_daterange_Union_1.J1_eq]; simp only [slices_siftDownCmpFunc_api_DateRange_daterange_Union_1.SJ1, Heap.SJ1, union1, bind_some'])
    (fun d lo hi f => rfl)

theorem dr_heap (sw : SW (fun x y : api_DateRangeV => decide (cmpI x.1 y.1 < 0))) (a b : Nat) (d : List api_DateRangeV) (hab : a < b) (hb : b ≤ d.length) (hd : d.length ≤ 4611686018427387904) :
    ∃ d', slices_heapSortCmpFunc_api_DateRange_daterange_Union_1 d a b = some (d', ()) ∧ Rng (0, 0, ()) a b d d' ∧ Srt (0, 0, ()) (fun x y : api_DateRangeV => decide (cmpI x.1 y.1 < 0)) a b d' :=
  Heap.spec (A0 := slices_heapSortCmpFunc_api_DateRange_daterange_Union_1.L0) (A1 := slices_heapSortCmpFunc_api_DateRange_daterange_Union_1.L1) sw (dr_sift sw)
    (fun f lo hi i d => by rw [slices_heapSortCmpFunc_api_DateRange_daterange_Union_1.L0_eq]; rfl)
    (fun f lo i d => by rw [slices_heapSortCmpFunc_api_DateRange_daterange_Union_1.L1_eq]; rfl) a b d hab hb hd

theorem dr_rev (a b : Nat) (d : List api_DateRangeV) (hab : a < b) (hb : b ≤ d.length) (hd : d.length ≤ 4611686018427387904) : ∃ d', slices_reverseRangeCmpFunc_api_DateRange_daterange_Union_1 d a b = some (d', ()) ∧ Rng (0, 0, ()) a b d d' :=
  Rev.spec (L0 := slices_reverseRangeCmpFunc_api_DateRange_daterange_Union_1.L0) (fun i j d => by rw [slices_reverseRangeCmpFunc_api_DateRange_daterange_Union_1.L0_eq]; rfl) a b d hab hb hd

theorem dr_brk (a b : Nat) (d : List api_DateRangeV) (hab : a ≤ b) (hb : b ≤ d.length) (hd : d.length ≤ 4611686018427387904) : ∃ d', slices_breakPatternsCmpFunc_api_DateRange_daterange_Union_1 d a b = some (d', ()) ∧ Rng (0, 0, ()) a b d d' :=
  Brk.spec (L0 := slices_breakPatternsCmpFunc_api_DateRange_daterange_Union_1.L0) (J1 := slices_breakPatternsCmpFunc_api_DateRange_daterange_Union_1.J1) xorshift npok
    (fun a l r m i d => by rw [slices_breakPatternsCmpFunc_api_DateRange_daterange_Union_1.L0_eq]; rfl)
    (fun a l r m i o d => by rw [slices_breakPatternsCmpFunc_api_DateRange_daterange_Union_1.J1_eq]; rfl) a b d hab hb hd

theorem dr_piv (a b : Nat) (d : List api_DateRangeV) (hab : a + 8 ≤ b) (hb : b ≤ d.length) (hd : d.length ≤ 4611686018427387904) : ∃ (p : Nat) (h : Int), slices_choosePivotCmpFunc_api_DateRange_daterange_Union_1 d a b = some ((p : Int), h, ()) ∧ a ≤ p ∧ p < b :=
  Piv.spec (lt := (fun x y : api_DateRangeV => decide (cmpI x.1 y.1 < 0))) (o2 := slices_order2CmpFunc_api_DateRange_daterange_Union_1) (med := slices_medianCmpFunc_api_DateRange_daterange_Union_1) (adj := slices_medianAdjacentCmpFunc_api_DateRange_daterange_Union_1) (kJ0 := slices_choosePivotCmpFunc_api_DateRange_daterange_Union_1.J0)
    (fun d a b s => by simp only [slices_order2CmpFunc_api_DateRange_daterange_Union_1, slices_order2CmpFunc_api_DateRange_daterange_Union_1.Se, Piv.O2, union1, bind_some'])
    (fun d a b c s => rfl) (fun d a s => rfl)
    (fun s j => by rw [slices_choosePivotCmpFunc_api_DateRange_daterange_Union_1.J0_eq]; rfl) a b d hab hb hd

theorem dr_par (sw : SW (fun x y : api_DateRangeV => decide (cmpI x.1 y.1 < 0))) (a b : Nat) (d : List api_DateRangeV) (hab : a < b) (hb : b ≤ d.length) (hd : d.length ≤ 4611686018427387904) (low : Low (0, 0, ()) (fun x y : api_DateRangeV => decide (cmpI x.1 y.1 < 0)) a b d) :
    ∃ (r : Bool) (d' : List api_DateRangeV), slices_partialInsertionSortCmpFunc_api_DateRange_daterange_Union_1 d a b = some (r, d', ()) ∧ Rng (0, 0, ()) a b d d' ∧ (r = true → Srt (0, 0, ()) (fun x y : api_DateRangeV => decide (cmpI x.1 y.1 < 0)) a b d') :=
  Par.spec (L0 := slices_partialInsertionSortCmpFunc_api_DateRange_daterange_Union_1.L0) (J1 := slices_partialInsertionSortCmpFunc_api_DateRange_daterange_Union_1.J1) (L2 := slices_partialInsertionSortCmpFunc_api_DateRange_daterange_Union_1.L2) (J3 := slices_partialInsertionSortCmpFunc_api_DateRange_daterange_Union_1.J3) (L4 := slices_partialInsertionSortCmpFunc_api_DateRange_daterange_Union_1.L4) (L5 := slices_partialInsertionSortCmpFunc_api_DateRange_daterange_Union_1.L5) sw
    ⟨fun a b i j d => by rw [slices_partialInsertionSortCmpFunc_api_DateRange_daterange_Union_1.L0_eq]; rfl,
     fun a b i j d => by rw [slices_partialInsertionSortCmpFunc_api_DateRange_daterange_Union_1.J1_eq]; rfl,
     fun a b i j d => by rw [slices_partialInsertionSortCmpFunc_api_DateRange_daterange_Union_1.L2_eq]; simp only [slices_partialInsertionSortCmpFunc_api_DateRange_daterange_Union_1.SL2, Par.SL2, union1, bind_some'],
     fun a b i j d => by rw [slices_partialInsertionSortCmpFunc_api_DateRange_daterange_Union_1.J3_eq]; rfl,
     fun a b i j k d => by rw [slices_partialInsertionSortCmpFunc_api_DateRange_daterange_Union_1.L4_eq]; simp only [slices_partialInsertionSortCmpFunc_api_DateRange_daterange_Union_1.SL4, Par.SL4, union1, bind_some'],
     fun a b i j k d => by rw [slices_partialInsertionSortCmpFunc_api_DateRange_daterange_Union_1.L5_eq]; simp only [slices_partialInsertionSortCmpFunc_api_DateRange_daterange_Union_1.SL5, Par.SL5, union1, bind_some']⟩ a b d hab hb hd low

theorem dr_prt (a b p : Nat) (d : List api_DateRangeV) (hap : a ≤ p) (hpb : p < b) (hb : b ≤ d.length) (hd : d.length ≤ 4611686018427387904) : Prt.Post (0, 0, ()) (fun x y : api_DateRangeV => decide (cmpI x.1 y.1 < 0)) a b d (slices_partitionCmpFunc_api_DateRange_daterange_Union_1 d a b p) :=
  Prt.spec (J0 := slices_partitionCmpFunc_api_DateRange_daterange_Union_1.J0) (L1 := slices_partitionCmpFunc_api_DateRange_daterange_Union_1.L1) (J2 := slices_partitionCmpFunc_api_DateRange_daterange_Union_1.J2) (L3 := slices_partitionCmpFunc_api_DateRange_daterange_Union_1.L3) (L4 := slices_partitionCmpFunc_api_DateRange_daterange_Union_1.L4) (J5 := slices_partitionCmpFunc_api_DateRange_daterange_Union_1.J5) (L6 := slices_partitionCmpFunc_api_DateRange_daterange_Union_1.L6) (J7 := slices_partitionCmpFunc_api_DateRange_daterange_Union_1.J7) (L8 := slices_partitionCmpFunc_api_DateRange_daterange_Union_1.L8)
    ⟨fun a i j d => by rw [slices_partitionCmpFunc_api_DateRange_daterange_Union_1.J0_eq]; rfl,
     fun a i j d => by rw [slices_partitionCmpFunc_api_DateRange_daterange_Union_1.L1_eq]; simp only [slices_partitionCmpFunc_api_DateRange_daterange_Union_1.SL1, Prt.Fwd, union1, bind_some'],
     fun a i j d => by rw [slices_partitionCmpFunc_api_DateRange_daterange_Union_1.J2_eq]; rfl,
     fun a i j d => by rw [slices_partitionCmpFunc_api_DateRange_daterange_Union_1.L3_eq]; simp only [slices_partitionCmpFunc_api_DateRange_daterange_Union_1.SL3, Prt.Bwd, union1, bind_some'],
     fun a i j d => by rw [slices_partitionCmpFunc_api_DateRange_daterange_Union_1.L4_eq]; rfl,
     fun a i j d => by rw [slices_partitionCmpFunc_api_DateRange_daterange_Union_1.J5_eq]; rfl,
     fun a i j d => by rw [slices_partitionCmpFunc_api_DateRange_daterange_Union_1.L6_eq]; simp only [slices_partitionCmpFunc_api_DateRange_daterange_Union_1.SL6, Prt.Fwd, union1, bind_some'],
     fun a i j d => by rw [slices_partitionCmpFunc_api_DateRange_daterange_Union_1.J7_eq]; rfl,
     fun a i j d => by rw [slices_partitionCmpFunc_api_DateRange_daterange_Union_1.L8_eq]; simp only [slices_partitionCmpFunc_api_DateRange_daterange_Union_1.SL8, Prt.Bwd, union1, bind_some']⟩ a b p d hap hpb hb hd

theorem dr_peq (a b p : Nat) (d : List api_DateRangeV) (hap : a ≤ p) (hpb : p < b) (hb : b ≤ d.length) (hd : d.length ≤ 4611686018427387904) : Pqe.Post (0, 0, ()) (fun x y : api_DateRangeV => decide (cmpI x.1 y.1 < 0)) a b d (d.getD p (0, 0, ())) (slices_partitionEqualCmpFunc_api_DateRange_daterange_Union_1 d a b p) :=
  Pqe.spec (L0 := slices_partitionEqualCmpFunc_api_DateRange_daterange_Union_1.L0) (J1 := slices_partitionEqualCmpFunc_api_DateRange_daterange_Union_1.J1) (L2 := slices_partitionEqualCmpFunc_api_DateRange_daterange_Union_1.L2) (J3 := slices_partitionEqualCmpFunc_api_DateRange_daterange_Union_1.J3) (L4 := slices_partitionEqualCmpFunc_api_DateRange_daterange_Union_1.L4)
    ⟨fun a i j d => by rw [slices_partitionEqualCmpFunc_api_DateRange_daterange_Union_1.L0_eq]; rfl,
     fun a i j d => by rw [slices_partitionEqualCmpFunc_api_DateRange_daterange_Union_1.J1_eq]; rfl,
     fun a i j d => by rw [slices_partitionEqualCmpFunc_api_DateRange_daterange_Union_1.L2_eq]; simp only [slices_partitionEqualCmpFunc_api_DateRange_daterange_Union_1.SL2, Pqe.Fwd', union1, bind_some'],
     fun a i j d => by rw [slices_partitionEqualCmpFunc_api_DateRange_daterange_Union_1.J3_eq]; rfl,
     fun a i j d => by rw [slices_partitionEqualCmpFunc_api_DateRange_daterange_Union_1.L4_eq]; simp only [slices_partitionEqualCmpFunc_api_DateRange_daterange_Union_1.SL4, Pqe.Bwd', union1, bind_some']⟩ a b p d hap hpb hb hd

/-- The functions of the sort. -/
noncomputable def dr_F : Pdq.Fns api_DateRangeV := ⟨slices_insertionSortCmpFunc_api_DateRange_daterange_Union_1, slices_heapSortCmpFunc_api_DateRange_daterange_Union_1, slices_breakPatternsCmpFunc_api_DateRange_daterange_Union_1, slices_choosePivotCmpFunc_api_DateRange_daterange_Union_1, slices_reverseRangeCmpFunc_api_DateRange_daterange_Union_1, slices_partialInsertionSortCmpFunc_api_DateRange_daterange_Union_1, slices_partitionEqualCmpFunc_api_DateRange_daterange_Union_1, slices_partitionCmpFunc_api_DateRange_daterange_Union_1, slices_pdqsortCmpFunc_api_DateRange_daterange_Union_1⟩

theorem dr_ok (sw : SW (fun x y : api_DateRangeV => decide (cmpI x.1 y.1 < 0))) : Pdq.OK (0, 0, ()) (fun x y : api_DateRangeV => decide (cmpI x.1 y.1 < 0)) dr_F :=
  ⟨dr_ins sw, dr_heap sw, dr_brk, dr_piv, dr_rev, dr_par sw, dr_peq, dr_prt⟩

theorem dr_pdq (sw : SW (fun x y : api_DateRangeV => decide (cmpI x.1 y.1 < 0))) (d : List api_DateRangeV) (hd : d.length ≤ 4611686018427387904) (l : Int) :
    ∃ d', slices_pdqsortCmpFunc_api_DateRange_daterange_Union_1 d 0 (d.length : Int) l = some (d', ()) ∧ d'.Perm d ∧ d'.Pairwise (fun x y => ((fun x y : api_DateRangeV => decide (cmpI x.1 y.1 < 0))) y x = false) :=
  Pdq.spec (F := dr_F) (L0 := slices_pdqsortCmpFunc_api_DateRange_daterange_Union_1.L0) (J1 := slices_pdqsortCmpFunc_api_DateRange_daterange_Union_1.J1) (J2 := slices_pdqsortCmpFunc_api_DateRange_daterange_Union_1.J2) (J3 := slices_pdqsortCmpFunc_api_DateRange_daterange_Union_1.J3) (J4 := slices_pdqsortCmpFunc_api_DateRange_daterange_Union_1.J4) sw (dr_ok sw)
    ⟨fun d a b l => slices_pdqsortCmpFunc_api_DateRange_daterange_Union_1_eq d a b l,
     fun a b l x y d => by rw [slices_pdqsortCmpFunc_api_DateRange_daterange_Union_1.L0_eq]; rfl,
     fun a b l x y n d => by rw [slices_pdqsortCmpFunc_api_DateRange_daterange_Union_1.J1_eq]; rfl,
     fun a b l x y n p h d => by rw [slices_pdqsortCmpFunc_api_DateRange_daterange_Union_1.J2_eq]; rfl,
     fun a b l x y n p d => by rw [slices_pdqsortCmpFunc_api_DateRange_daterange_Union_1.J3_eq]; simp only [slices_pdqsortCmpFunc_api_DateRange_daterange_Union_1.SJ3, Pdq.SJ3, union1, bind_some'],
     fun a b l x y n p v d => by rw [slices_pdqsortCmpFunc_api_DateRange_daterange_Union_1.J4_eq]; rfl⟩ d hd l

/-- The sort: the same values, in order. -/
theorem dr_sorts (sw : SW (fun x y : api_DateRangeV => decide (cmpI x.1 y.1 < 0))) (d : List api_DateRangeV) (hd : d.length ≤ 4611686018427387904) :
    ∃ d', slices_SortFunc_api_DateRange_api_DateRange_daterange_Union_1 d = some (d', ()) ∧ d'.Perm d ∧ d'.Pairwise (fun x y => ((fun x y : api_DateRangeV => decide (cmpI x.1 y.1 < 0))) y x = false) := by
  obtain ⟨d', e, p, s⟩ := dr_pdq sw d hd (bitLen d.length)
  refine ⟨d', ?_, p, s⟩
  simp only [slices_SortFunc_api_DateRange_api_DateRange_daterange_Union_1, slices_SortFunc_api_DateRange_api_DateRange_daterange_Union_1.Se, math_bits_Len, math_bits_Len.Se]
  rw [wrapU (by omega) (by omega), Len64_val (by omega) (by omega)]
  simp only [bind_some', Int.toNat_natCast, e]

/-- Sorting date ranges by their start. -/
theorem sort_dr (d : List api_DateRangeV) (hd : d.length ≤ 4611686018427387904) : ∃ d', slices_SortFunc_api_DateRange_api_DateRange_daterange_Union_1 d = some (d', ()) ∧ d'.Perm d ∧ d'.Pairwise (fun x y => x.1 ≤ y.1) := by
  obtain ⟨d', e, p, s⟩ := dr_sorts dr_sw d hd
  exact ⟨d', e, p, s.imp (fun h => by simp only [cmpI_neg] at h; simpa using h)⟩

end Go.Proofs.Ytcekbjgogdkomaa
