import Derived.Test.YtdkglohjlfoncaaPSortC
set_option maxRecDepth 100000
set_option linter.unusedVariables false
set_option linter.unusedSimpArgs false
namespace Go.Proofs.Ytdkglohjlfoncaa
open Go Go.Lift
theorem less_int (x y : Int) : cmp_Less_int x y = some (decide (x < y), ()) := by
  simp only [cmp_Less_int, cmp_Less_int.Se, cmp_isNaN_int, cmp_isNaN_int.Se, bind_some', bne_self_eq_false, cond_false]
theorem int_sw : SW (fun x y : Int => decide (x < y)) := ⟨fun x y h => by simp at h ⊢; omega, fun x y w h1 h2 => by simp at h1 h2 ⊢; omega⟩
theorem int_ins (sw : SW (fun x y : Int => decide (x < y))) (a b : Nat) (d : List Int) (hab : a ≤ b) (hb : b ≤ d.length) (hd : d.length ≤ 4611686018427387904) :
    ∃ d', slices_insertionSortOrdered_int d a b = some (d', ()) ∧ Rng 0 a b d d' ∧ Srt 0 (fun x y : Int => decide (x < y)) a b d' :=
  Ins.spec (L0 := slices_insertionSortOrdered_int.L0) (L1 := slices_insertionSortOrdered_int.L1) (J2 := slices_insertionSortOrdered_int.J2) sw
    (fun a b i d => by rw [slices_insertionSortOrdered_int.L0_eq]; rfl)
    (fun a b i j d => by rw [slices_insertionSortOrdered_int.L1_eq]; simp only [slices_insertionSortOrdered_int.SL1, Ins.SL1, less_int, bind_some'])
    (fun a b i j d => by rw [slices_insertionSortOrdered_int.J2_eq]; rfl) a b d hb hd hab
theorem int_sift (sw : SW (fun x y : Int => decide (x < y))) : Heap.SiftOK 0 (fun x y : Int => decide (x < y)) slices_siftDownOrdered_int :=
  Heap.siftOK (L0 := slices_siftDownOrdered_int.L0) (J1 := slices_siftDownOrdered_int.J1) sw
    (fun hi f r d => by rw [slices_siftDownOrdered_int.L0_eq]; simp only [slices_siftDownOrdered_int.SL0, Heap.SL0, less_int, bind_some'])
    (fun hi f r c d => by rw [slices_siftDownOrdered_int.J1_eq]; simp only [slices_siftDownOrdered_int.SJ1, Heap.SJ1, less_int, bind_some'])
    (fun d lo hi f => rfl)
theorem int_heap (sw : SW (fun x y : Int => decide (x < y))) (a b : Nat) (d : List Int) (hab : a < b) (hb : b ≤ d.length) (hd : d.length ≤ 4611686018427387904) :
    ∃ d', slices_heapSortOrdered_int d a b = some (d', ()) ∧ Rng 0 a b d d' ∧ Srt 0 (fun x y : Int => decide (x < y)) a b d' :=
  Heap.spec (A0 := slices_heapSortOrdered_int.L0) (A1 := slices_heapSortOrdered_int.L1) sw (int_sift sw)
    (fun f lo hi i d => by rw [slices_heapSortOrdered_int.L0_eq]; rfl)
    (fun f lo i d => by rw [slices_heapSortOrdered_int.L1_eq]; rfl) a b d hab hb hd
theorem int_rev (a b : Nat) (d : List Int) (hab : a < b) (hb : b ≤ d.length) (hd : d.length ≤ 4611686018427387904) : ∃ d', slices_reverseRangeOrdered_int d a b = some (d', ()) ∧ Rng 0 a b d d' :=
  Rev.spec (L0 := slices_reverseRangeOrdered_int.L0) (fun i j d => by rw [slices_reverseRangeOrdered_int.L0_eq]; rfl) a b d hab hb hd
theorem int_brk (a b : Nat) (d : List Int) (hab : a ≤ b) (hb : b ≤ d.length) (hd : d.length ≤ 4611686018427387904) : ∃ d', slices_breakPatternsOrdered_int d a b = some (d', ()) ∧ Rng 0 a b d d' :=
  Brk.spec (L0 := slices_breakPatternsOrdered_int.L0) (J1 := slices_breakPatternsOrdered_int.J1) xorshift npok
    (fun a l r m i d => by rw [slices_breakPatternsOrdered_int.L0_eq]; rfl)
    (fun a l r m i o d => by rw [slices_breakPatternsOrdered_int.J1_eq]; rfl) a b d hab hb hd
theorem int_piv (a b : Nat) (d : List Int) (hab : a + 8 ≤ b) (hb : b ≤ d.length) (hd : d.length ≤ 4611686018427387904) : ∃ (p : Nat) (h : Int), slices_choosePivotOrdered_int d a b = some ((p : Int), h, ()) ∧ a ≤ p ∧ p < b :=
  Piv.spec (lt := (fun x y : Int => decide (x < y))) (o2 := slices_order2Ordered_int) (med := slices_medianOrdered_int) (adj := slices_medianAdjacentOrdered_int) (kJ0 := slices_choosePivotOrdered_int.J0)
    (fun d a b s => by simp only [slices_order2Ordered_int, slices_order2Ordered_int.Se, Piv.O2, less_int, bind_some'])
    (fun d a b c s => rfl) (fun d a s => rfl)
    (fun s j => by rw [slices_choosePivotOrdered_int.J0_eq]; rfl) a b d hab hb hd
theorem int_par (sw : SW (fun x y : Int => decide (x < y))) (a b : Nat) (d : List Int) (hab : a < b) (hb : b ≤ d.length) (hd : d.length ≤ 4611686018427387904) (low : Low 0 (fun x y : Int => decide (x < y)) a b d) :
    ∃ (r : Bool) (d' : List Int), slices_partialInsertionSortOrdered_int d a b = some (r, d', ()) ∧ Rng 0 a b d d' ∧ (r = true → Srt 0 (fun x y : Int => decide (x < y)) a b d') :=
  Par.spec (L0 := slices_partialInsertionSortOrdered_int.L0) (J1 := slices_partialInsertionSortOrdered_int.J1) (L2 := slices_partialInsertionSortOrdered_int.L2) (J3 := slices_partialInsertionSortOrdered_int.J3) (L4 := slices_partialInsertionSortOrdered_int.L4) (L5 := slices_partialInsertionSortOrdered_int.L5) sw
    ⟨fun a b i j d => by rw [slices_partialInsertionSortOrdered_int.L0_eq]; rfl,
     fun a b i j d => by rw [slices_partialInsertionSortOrdered_int.J1_eq]; rfl,
     fun a b i j d => by rw [slices_partialInsertionSortOrdered_int.L2_eq]; simp only [slices_partialInsertionSortOrdered_int.SL2, Par.SL2, less_int, bind_some'],
     fun a b i j d => by rw [slices_partialInsertionSortOrdered_int.J3_eq]; rfl,
     fun a b i j k d => by rw [slices_partialInsertionSortOrdered_int.L4_eq]; simp only [slices_partialInsertionSortOrdered_int.SL4, Par.SL4, less_int, bind_some'],
     fun a b i j k d => by rw [slices_partialInsertionSortOrdered_int.L5_eq]; simp only [slices_partialInsertionSortOrdered_int.SL5, Par.SL5, less_int, bind_some']⟩ a b d hab hb hd low
theorem int_prt (a b p : Nat) (d : List Int) (hap : a ≤ p) (hpb : p < b) (hb : b ≤ d.length) (hd : d.length ≤ 4611686018427387904) : Prt.Post 0 (fun x y : Int => decide (x < y)) a b d (slices_partitionOrdered_int d a b p) :=
  Prt.spec (J0 := slices_partitionOrdered_int.J0) (L1 := slices_partitionOrdered_int.L1) (J2 := slices_partitionOrdered_int.J2) (L3 := slices_partitionOrdered_int.L3) (L4 := slices_partitionOrdered_int.L4) (J5 := slices_partitionOrdered_int.J5) (L6 := slices_partitionOrdered_int.L6) (J7 := slices_partitionOrdered_int.J7) (L8 := slices_partitionOrdered_int.L8)
    ⟨fun a i j d => by rw [slices_partitionOrdered_int.J0_eq]; rfl,
     fun a i j d => by rw [slices_partitionOrdered_int.L1_eq]; simp only [slices_partitionOrdered_int.SL1, Prt.Fwd, less_int, bind_some'],
     fun a i j d => by rw [slices_partitionOrdered_int.J2_eq]; rfl,
     fun a i j d => by rw [slices_partitionOrdered_int.L3_eq]; simp only [slices_partitionOrdered_int.SL3, Prt.Bwd, less_int, bind_some'],
     fun a i j d => by rw [slices_partitionOrdered_int.L4_eq]; rfl,
     fun a i j d => by rw [slices_partitionOrdered_int.J5_eq]; rfl,
     fun a i j d => by rw [slices_partitionOrdered_int.L6_eq]; simp only [slices_partitionOrdered_int.SL6, Prt.Fwd, less_int, bind_some'],
     fun a i j d => by rw [slices_partitionOrdered_int.J7_eq]; rfl,
     fun a i j d => by rw [slices_partitionOrdered_int.L8_eq]; simp only [slices_partitionOrdered_int.SL8, Prt.Bwd, less_int, bind_some']⟩ a b p d hap hpb hb hd
theorem int_peq (a b p : Nat) (d : List Int) (hap : a ≤ p) (hpb : p < b) (hb : b ≤ d.length) (hd : d.length ≤ 4611686018427387904) : Pqe.Post 0 (fun x y : Int => decide (x < y)) a b d (d.getD p 0) (slices_partitionEqualOrdered_int d a b p) :=
  Pqe.spec (L0 := slices_partitionEqualOrdered_int.L0) (J1 := slices_partitionEqualOrdered_int.J1) (L2 := slices_partitionEqualOrdered_int.L2) (J3 := slices_partitionEqualOrdered_int.J3) (L4 := slices_partitionEqualOrdered_int.L4)
    ⟨fun a i j d => by rw [slices_partitionEqualOrdered_int.L0_eq]; rfl,
     fun a i j d => by rw [slices_partitionEqualOrdered_int.J1_eq]; rfl,
     fun a i j d => by rw [slices_partitionEqualOrdered_int.L2_eq]; simp only [slices_partitionEqualOrdered_int.SL2, Pqe.Fwd', less_int, bind_some'],
     fun a i j d => by rw [slices_partitionEqualOrdered_int.J3_eq]; rfl,
     fun a i j d => by rw [slices_partitionEqualOrdered_int.L4_eq]; simp only [slices_partitionEqualOrdered_int.SL4, Pqe.Bwd', less_int, bind_some']⟩ a b p d hap hpb hb hd
/-- The functions of the sort. -/
noncomputable def int_F : Pdq.Fns Int := ⟨slices_insertionSortOrdered_int, slices_heapSortOrdered_int, slices_breakPatternsOrdered_int, slices_choosePivotOrdered_int, slices_reverseRangeOrdered_int, slices_partialInsertionSortOrdered_int, slices_partitionEqualOrdered_int, slices_partitionOrdered_int, slices_pdqsortOrdered_int⟩
theorem int_ok (sw : SW (fun x y : Int => decide (x < y))) : Pdq.OK 0 (fun x y : Int => decide (x < y)) int_F :=
  ⟨int_ins sw, int_heap sw, int_brk, int_piv, int_rev, int_par sw, int_peq, int_prt⟩
theorem int_pdq (sw : SW (fun x y : Int => decide (x < y))) (d : List Int) (hd : d.length ≤ 4611686018427387904) (l : Int) :
    ∃ d', slices_pdqsortOrdered_int d 0 (d.length : Int) l = some (d', ()) ∧ d'.Perm d ∧ d'.Pairwise (fun x y => ((fun x y : Int => decide (x < y))) y x = false) :=
  Pdq.spec (F := int_F) (L0 := slices_pdqsortOrdered_int.L0) (J1 := slices_pdqsortOrdered_int.J1) (J2 := slices_pdqsortOrdered_int.J2) (J3 := slices_pdqsortOrdered_int.J3) (J4 := slices_pdqsortOrdered_int.J4) sw (int_ok sw)
    ⟨fun d a b l => slices_pdqsortOrdered_int_eq d a b l,
     fun a b l x y d => by rw [slices_pdqsortOrdered_int.L0_eq]; rfl,
     fun a b l x y n d => by rw [slices_pdqsortOrdered_int.J1_eq]; rfl,
     fun a b l x y n p h d => by rw [slices_pdqsortOrdered_int.J2_eq]; rfl,
     fun a b l x y n p d => by rw [slices_pdqsortOrdered_int.J3_eq]; simp only [slices_pdqsortOrdered_int.SJ3, Pdq.SJ3, less_int, bind_some'],
     fun a b l x y n p v d => by rw [slices_pdqsortOrdered_int.J4_eq]; rfl⟩ d hd l
/-- The sort: the same values, in order. -/
theorem int_sorts (sw : SW (fun x y : Int => decide (x < y))) (d : List Int) (hd : d.length ≤ 4611686018427387904) :
    ∃ d', slices_Sort_int_int d = some (d', ()) ∧ d'.Perm d ∧ d'.Pairwise (fun x y => ((fun x y : Int => decide (x < y))) y x = false) := by
  obtain ⟨d', e, p, s⟩ := int_pdq sw d hd (bitLen d.length)
  refine ⟨d', ?_, p, s⟩
  simp only [slices_Sort_int_int, slices_Sort_int_int.Se, math_bits_Len, math_bits_Len.Se]
  rw [wrapU (by omega) (by omega), Len64_val (by omega) (by omega)]
  simp only [bind_some', Int.toNat_natCast, e]
/-- Sorting integers. -/
theorem sort_int (d : List Int) (hd : d.length ≤ 4611686018427387904) : ∃ d', slices_Sort_int_int d = some (d', ()) ∧ d'.Perm d ∧ d'.Pairwise (· ≤ ·) := by
  obtain ⟨d', e, p, s⟩ := int_sorts int_sw d hd
  exact ⟨d', e, p, s.imp (fun h => by simpa using h)⟩
end Go.Proofs.Ytdkglohjlfoncaa
