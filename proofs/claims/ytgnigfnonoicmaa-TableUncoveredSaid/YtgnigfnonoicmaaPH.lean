import Derived.Test.YtgnigfnonoicmaaPK
set_option maxRecDepth 100000
set_option linter.unusedVariables false
set_option linter.unusedSimpArgs false
namespace Go.Proofs.Ytgnigfnonoicmaa
open Go Go.Lift
def cmpI (x y : Int) : Int := cond (decide (x < y)) (-1) (cond (decide (x > y)) 1 0)
theorem compare_int (x y : Int) : cmp_Compare_int x y = some (cmpI x y, ()) := by
  simp only [cmp_Compare_int, cmp_Compare_int.Se, cmp_isNaN_int, cmp_isNaN_int.Se, bind_some', bne_self_eq_false, cond_false, cmpI]
  cases decide (x < y) <;> cases decide (x > y) <;> rfl
theorem cmpI_neg (x y : Int) : decide (cmpI x y < 0) = decide (x < y) := by
  unfold cmpI
  by_cases h : x < y
  · simp [h]
  · by_cases h2 : x > y <;> simp [h, h2]
theorem uncov1 (x y : api_RowV) : table_UncoveredKeys_1 x y = some (cmpI x.2.1 y.2.1, ()) := by
  simp only [table_UncoveredKeys_1, table_UncoveredKeys_1.Se, compare_int, bind_some']
theorem row_sw : SW (fun x y : api_RowV => decide (cmpI x.2.1 y.2.1 < 0)) :=
  ⟨fun x y h => by simp only [cmpI_neg] at h ⊢; simp at h ⊢; omega, fun x y w h1 h2 => by simp only [cmpI_neg] at h1 h2 ⊢; simp at h1 h2 ⊢; omega⟩
theorem row_ins (sw : SW (fun x y : api_RowV => decide (cmpI x.2.1 y.2.1 < 0))) (a b : Nat) (d : List api_RowV) (hab : a ≤ b) (hb : b ≤ d.length) (hd : d.length ≤ 4611686018427387904) :
    ∃ d', slices_insertionSortCmpFunc_api_Row_table_UncoveredKeys_1 d a b = some (d', ()) ∧ Rng ((0, 0, ()), 0, 0, 0, ()) a b d d' ∧ Srt ((0, 0, ()), 0, 0, 0, ()) (fun x y : api_RowV => decide (cmpI x.2.1 y.2.1 < 0)) a b d' :=
  Ins.spec (L0 := slices_insertionSortCmpFunc_api_Row_table_UncoveredKeys_1.L0) (L1 := slices_insertionSortCmpFunc_api_Row_table_UncoveredKeys_1.L1) (J2 := slices_insertionSortCmpFunc_api_Row_table_UncoveredKeys_1.J2) sw
    (fun a b i d => by rw [slices_insertionSortCmpFunc_api_Row_table_UncoveredKeys_1.L0_eq]; rfl)
    (fun a b i j d => by rw [slices_insertionSortCmpFunc_api_Row_table_UncoveredKeys_1.L1_eq]; simp only [slices_insertionSortCmpFunc_api_Row_table_UncoveredKeys_1.SL1, Ins.SL1, uncov1, bind_some'])
    (fun a b i j d => by rw [slices_insertionSortCmpFunc_api_Row_table_UncoveredKeys_1.J2_eq]; rfl) a b d hb hd hab
theorem row_sift (sw : SW (fun x y : api_RowV => decide (cmpI x.2.1 y.2.1 < 0))) : Heap.SiftOK ((0, 0, ()), 0, 0, 0, ()) (fun x y : api_RowV => decide (cmpI x.2.1 y.2.1 < 0)) slices_siftDownCmpFunc_api_Row_table_UncoveredKeys_1 :=
  Heap.siftOK (L0 := slices_siftDownCmpFunc_api_Row_table_UncoveredKeys_1.L0) (J1 := slices_siftDownCmpFunc_api_Row_table_UncoveredKeys_1.J1) sw
    (fun hi f r d => by rw [slices_siftDownCmpFunc_api_Row_table_UncoveredKeys_1.L0_eq]; simp only [slices_siftDownCmpFunc_api_Row_table_UncoveredKeys_1.SL0, Heap.SL0, uncov1, bind_some'])
    (fun hi f r c d => by rw [slices_siftDownCmpFunc_api_Row_table_UncoveredKeys_1.J1_eq]; simp only [slices_siftDownCmpFunc_api_Row_table_UncoveredKeys_1.SJ1, Heap.SJ1, uncov1, bind_some'])
    (fun d lo hi f => rfl)
theorem row_heap (sw : SW (fun x y : api_RowV => decide (cmpI x.2.1 y.2.1 < 0))) (a b : Nat) (d : List api_RowV) (hab : a < b) (hb : b ≤ d.length) (hd : d.length ≤ 4611686018427387904) :
    ∃ d', slices_heapSortCmpFunc_api_Row_table_UncoveredKeys_1 d a b = some (d', ()) ∧ Rng ((0, 0, ()), 0, 0, 0, ()) a b d d' ∧ Srt ((0, 0, ()), 0, 0, 0, ()) (fun x y : api_RowV => decide (cmpI x.2.1 y.2.1 < 0)) a b d' :=
  Heap.spec (A0 := slices_heapSortCmpFunc_api_Row_table_UncoveredKeys_1.L0) (A1 := slices_heapSortCmpFunc_api_Row_table_UncoveredKeys_1.L1) sw (row_sift sw)
    (fun f lo hi i d => by rw [slices_heapSortCmpFunc_api_Row_table_UncoveredKeys_1.L0_eq]; rfl)
    (fun f lo i d => by rw [slices_heapSortCmpFunc_api_Row_table_UncoveredKeys_1.L1_eq]; rfl) a b d hab hb hd
theorem row_rev (a b : Nat) (d : List api_RowV) (hab : a < b) (hb : b ≤ d.length) (hd : d.length ≤ 4611686018427387904) : ∃ d', slices_reverseRangeCmpFunc_api_Row_table_UncoveredKeys_1 d a b = some (d', ()) ∧ Rng ((0, 0, ()), 0, 0, 0, ()) a b d d' :=
  Rev.spec (L0 := slices_reverseRangeCmpFunc_api_Row_table_UncoveredKeys_1.L0) (fun i j d => by rw [slices_reverseRangeCmpFunc_api_Row_table_UncoveredKeys_1.L0_eq]; rfl) a b d hab hb hd
theorem row_brk (a b : Nat) (d : List api_RowV) (hab : a ≤ b) (hb : b ≤ d.length) (hd : d.length ≤ 4611686018427387904) : ∃ d', slices_breakPatternsCmpFunc_api_Row_table_UncoveredKeys_1 d a b = some (d', ()) ∧ Rng ((0, 0, ()), 0, 0, 0, ()) a b d d' :=
  Brk.spec (L0 := slices_breakPatternsCmpFunc_api_Row_table_UncoveredKeys_1.L0) (J1 := slices_breakPatternsCmpFunc_api_Row_table_UncoveredKeys_1.J1) xorshift npok
    (fun a l r m i d => by rw [slices_breakPatternsCmpFunc_api_Row_table_UncoveredKeys_1.L0_eq]; rfl)
    (fun a l r m i o d => by rw [slices_breakPatternsCmpFunc_api_Row_table_UncoveredKeys_1.J1_eq]; rfl) a b d hab hb hd
theorem row_piv (a b : Nat) (d : List api_RowV) (hab : a + 8 ≤ b) (hb : b ≤ d.length) (hd : d.length ≤ 4611686018427387904) : ∃ (p : Nat) (h : Int), slices_choosePivotCmpFunc_api_Row_table_UncoveredKeys_1 d a b = some ((p : Int), h, ()) ∧ a ≤ p ∧ p < b :=
  Piv.spec (lt := (fun x y : api_RowV => decide (cmpI x.2.1 y.2.1 < 0))) (o2 := slices_order2CmpFunc_api_Row_table_UncoveredKeys_1) (med := slices_medianCmpFunc_api_Row_table_UncoveredKeys_1) (adj := slices_medianAdjacentCmpFunc_api_Row_table_UncoveredKeys_1) (kJ0 := slices_choosePivotCmpFunc_api_Row_table_UncoveredKeys_1.J0)
    (fun d a b s => by simp only [slices_order2CmpFunc_api_Row_table_UncoveredKeys_1, slices_order2CmpFunc_api_Row_table_UncoveredKeys_1.Se, Piv.O2, uncov1, bind_some'])
    (fun d a b c s => rfl) (fun d a s => rfl)
    (fun s j => by rw [slices_choosePivotCmpFunc_api_Row_table_UncoveredKeys_1.J0_eq]; rfl) a b d hab hb hd
theorem row_par (sw : SW (fun x y : api_RowV => decide (cmpI x.2.1 y.2.1 < 0))) (a b : Nat) (d : List api_RowV) (hab : a < b) (hb : b ≤ d.length) (hd : d.length ≤ 4611686018427387904) (low : Low ((0, 0, ()), 0, 0, 0, ()) (fun x y : api_RowV => decide (cmpI x.2.1 y.2.1 < 0)) a b d) :
    ∃ (r : Bool) (d' : List api_RowV), slices_partialInsertionSortCmpFunc_api_Row_table_UncoveredKeys_1 d a b = some (r, d', ()) ∧ Rng ((0, 0, ()), 0, 0, 0, ()) a b d d' ∧ (r = true → Srt ((0, 0, ()), 0, 0, 0, ()) (fun x y : api_RowV => decide (cmpI x.2.1 y.2.1 < 0)) a b d') :=
  Par.spec (L0 := slices_partialInsertionSortCmpFunc_api_Row_table_UncoveredKeys_1.L0) (J1 := slices_partialInsertionSortCmpFunc_api_Row_table_UncoveredKeys_1.J1) (L2 := slices_partialInsertionSortCmpFunc_api_Row_table_UncoveredKeys_1.L2) (J3 := slices_partialInsertionSortCmpFunc_api_Row_table_UncoveredKeys_1.J3) (L4 := slices_partialInsertionSortCmpFunc_api_Row_table_UncoveredKeys_1.L4) (L5 := slices_partialInsertionSortCmpFunc_api_Row_table_UncoveredKeys_1.L5) sw
    ⟨fun a b i j d => by rw [slices_partialInsertionSortCmpFunc_api_Row_table_UncoveredKeys_1.L0_eq]; rfl,
     fun a b i j d => by rw [slices_partialInsertionSortCmpFunc_api_Row_table_UncoveredKeys_1.J1_eq]; rfl,
     fun a b i j d => by rw [slices_partialInsertionSortCmpFunc_api_Row_table_UncoveredKeys_1.L2_eq]; simp only [slices_partialInsertionSortCmpFunc_api_Row_table_UncoveredKeys_1.SL2, Par.SL2, uncov1, bind_some'],
     fun a b i j d => by rw [slices_partialInsertionSortCmpFunc_api_Row_table_UncoveredKeys_1.J3_eq]; rfl,
     fun a b i j k d => by rw [slices_partialInsertionSortCmpFunc_api_Row_table_UncoveredKeys_1.L4_eq]; simp only [slices_partialInsertionSortCmpFunc_api_Row_table_UncoveredKeys_1.SL4, Par.SL4, uncov1, bind_some'],
     fun a b i j k d => by rw [slices_partialInsertionSortCmpFunc_api_Row_table_UncoveredKeys_1.L5_eq]; simp only [slices_partialInsertionSortCmpFunc_api_Row_table_UncoveredKeys_1.SL5, Par.SL5, uncov1, bind_some']⟩ a b d hab hb hd low
theorem row_prt (a b p : Nat) (d : List api_RowV) (hap : a ≤ p) (hpb : p < b) (hb : b ≤ d.length) (hd : d.length ≤ 4611686018427387904) : Prt.Post ((0, 0, ()), 0, 0, 0, ()) (fun x y : api_RowV => decide (cmpI x.2.1 y.2.1 < 0)) a b d (slices_partitionCmpFunc_api_Row_table_UncoveredKeys_1 d a b p) :=
  Prt.spec (J0 := slices_partitionCmpFunc_api_Row_table_UncoveredKeys_1.J0) (L1 := slices_partitionCmpFunc_api_Row_table_UncoveredKeys_1.L1) (J2 := slices_partitionCmpFunc_api_Row_table_UncoveredKeys_1.J2) (L3 := slices_partitionCmpFunc_api_Row_table_UncoveredKeys_1.L3) (L4 := slices_partitionCmpFunc_api_Row_table_UncoveredKeys_1.L4) (J5 := slices_partitionCmpFunc_api_Row_table_UncoveredKeys_1.J5) (L6 := slices_partitionCmpFunc_api_Row_table_UncoveredKeys_1.L6) (J7 := slices_partitionCmpFunc_api_Row_table_UncoveredKeys_1.J7) (L8 := slices_partitionCmpFunc_api_Row_table_UncoveredKeys_1.L8)
    ⟨fun a i j d => by rw [slices_partitionCmpFunc_api_Row_table_UncoveredKeys_1.J0_eq]; rfl,
     fun a i j d => by rw [slices_partitionCmpFunc_api_Row_table_UncoveredKeys_1.L1_eq]; simp only [slices_partitionCmpFunc_api_Row_table_UncoveredKeys_1.SL1, Prt.Fwd, uncov1, bind_some'],
     fun a i j d => by rw [slices_partitionCmpFunc_api_Row_table_UncoveredKeys_1.J2_eq]; rfl,
     fun a i j d => by rw [slices_partitionCmpFunc_api_Row_table_UncoveredKeys_1.L3_eq]; simp only [slices_partitionCmpFunc_api_Row_table_UncoveredKeys_1.SL3, Prt.Bwd, uncov1, bind_some'],
     fun a i j d => by rw [slices_partitionCmpFunc_api_Row_table_UncoveredKeys_1.L4_eq]; rfl,
     fun a i j d => by rw [slices_partitionCmpFunc_api_Row_table_UncoveredKeys_1.J5_eq]; rfl,
     fun a i j d => by rw [slices_partitionCmpFunc_api_Row_table_UncoveredKeys_1.L6_eq]; simp only [slices_partitionCmpFunc_api_Row_table_UncoveredKeys_1.SL6, Prt.Fwd, uncov1, bind_some'],
     fun a i j d => by rw [slices_partitionCmpFunc_api_Row_table_UncoveredKeys_1.J7_eq]; rfl,
     fun a i j d => by rw [slices_partitionCmpFunc_api_Row_table_UncoveredKeys_1.L8_eq]; simp only [slices_partitionCmpFunc_api_Row_table_UncoveredKeys_1.SL8, Prt.Bwd, uncov1, bind_some']⟩ a b p d hap hpb hb hd
theorem row_peq (a b p : Nat) (d : List api_RowV) (hap : a ≤ p) (hpb : p < b) (hb : b ≤ d.length) (hd : d.length ≤ 4611686018427387904) : Pqe.Post ((0, 0, ()), 0, 0, 0, ()) (fun x y : api_RowV => decide (cmpI x.2.1 y.2.1 < 0)) a b d (d.getD p ((0, 0, ()), 0, 0, 0, ())) (slices_partitionEqualCmpFunc_api_Row_table_UncoveredKeys_1 d a b p) :=
  Pqe.spec (L0 := slices_partitionEqualCmpFunc_api_Row_table_UncoveredKeys_1.L0) (J1 := slices_partitionEqualCmpFunc_api_Row_table_UncoveredKeys_1.J1) (L2 := slices_partitionEqualCmpFunc_api_Row_table_UncoveredKeys_1.L2) (J3 := slices_partitionEqualCmpFunc_api_Row_table_UncoveredKeys_1.J3) (L4 := slices_partitionEqualCmpFunc_api_Row_table_UncoveredKeys_1.L4)
    ⟨fun a i j d => by rw [slices_partitionEqualCmpFunc_api_Row_table_UncoveredKeys_1.L0_eq]; rfl,
     fun a i j d => by rw [slices_partitionEqualCmpFunc_api_Row_table_UncoveredKeys_1.J1_eq]; rfl,
     fun a i j d => by rw [slices_partitionEqualCmpFunc_api_Row_table_UncoveredKeys_1.L2_eq]; simp only [slices_partitionEqualCmpFunc_api_Row_table_UncoveredKeys_1.SL2, Pqe.Fwd', uncov1, bind_some'],
     fun a i j d => by rw [slices_partitionEqualCmpFunc_api_Row_table_UncoveredKeys_1.J3_eq]; rfl,
     fun a i j d => by rw [slices_partitionEqualCmpFunc_api_Row_table_UncoveredKeys_1.L4_eq]; simp only [slices_partitionEqualCmpFunc_api_Row_table_UncoveredKeys_1.SL4, Pqe.Bwd', uncov1, bind_some']⟩ a b p d hap hpb hb hd
/-- The functions of the sort. -/
noncomputable def row_F : Pdq.Fns api_RowV := ⟨slices_insertionSortCmpFunc_api_Row_table_UncoveredKeys_1, slices_heapSortCmpFunc_api_Row_table_UncoveredKeys_1, slices_breakPatternsCmpFunc_api_Row_table_UncoveredKeys_1, slices_choosePivotCmpFunc_api_Row_table_UncoveredKeys_1, slices_reverseRangeCmpFunc_api_Row_table_UncoveredKeys_1, slices_partialInsertionSortCmpFunc_api_Row_table_UncoveredKeys_1, slices_partitionEqualCmpFunc_api_Row_table_UncoveredKeys_1, slices_partitionCmpFunc_api_Row_table_UncoveredKeys_1, slices_pdqsortCmpFunc_api_Row_table_UncoveredKeys_1⟩
theorem row_ok (sw : SW (fun x y : api_RowV => decide (cmpI x.2.1 y.2.1 < 0))) : Pdq.OK ((0, 0, ()), 0, 0, 0, ()) (fun x y : api_RowV => decide (cmpI x.2.1 y.2.1 < 0)) row_F :=
  ⟨row_ins sw, row_heap sw, row_brk, row_piv, row_rev, row_par sw, row_peq, row_prt⟩
theorem row_pdq (sw : SW (fun x y : api_RowV => decide (cmpI x.2.1 y.2.1 < 0))) (d : List api_RowV) (hd : d.length ≤ 4611686018427387904) (l : Int) :
    ∃ d', slices_pdqsortCmpFunc_api_Row_table_UncoveredKeys_1 d 0 (d.length : Int) l = some (d', ()) ∧ d'.Perm d ∧ d'.Pairwise (fun x y => ((fun x y : api_RowV => decide (cmpI x.2.1 y.2.1 < 0))) y x = false) :=
  Pdq.spec (F := row_F) (L0 := slices_pdqsortCmpFunc_api_Row_table_UncoveredKeys_1.L0) (J1 := slices_pdqsortCmpFunc_api_Row_table_UncoveredKeys_1.J1) (J2 := slices_pdqsortCmpFunc_api_Row_table_UncoveredKeys_1.J2) (J3 := slices_pdqsortCmpFunc_api_Row_table_UncoveredKeys_1.J3) (J4 := slices_pdqsortCmpFunc_api_Row_table_UncoveredKeys_1.J4) sw (row_ok sw)
    ⟨fun d a b l => slices_pdqsortCmpFunc_api_Row_table_UncoveredKeys_1_eq d a b l,
     fun a b l x y d => by rw [slices_pdqsortCmpFunc_api_Row_table_UncoveredKeys_1.L0_eq]; rfl,
     fun a b l x y n d => by rw [slices_pdqsortCmpFunc_api_Row_table_UncoveredKeys_1.J1_eq]; rfl,
     fun a b l x y n p h d => by rw [slices_pdqsortCmpFunc_api_Row_table_UncoveredKeys_1.J2_eq]; rfl,
     fun a b l x y n p d => by rw [slices_pdqsortCmpFunc_api_Row_table_UncoveredKeys_1.J3_eq]; simp only [slices_pdqsortCmpFunc_api_Row_table_UncoveredKeys_1.SJ3, Pdq.SJ3, uncov1, bind_some'],
     fun a b l x y n p v d => by rw [slices_pdqsortCmpFunc_api_Row_table_UncoveredKeys_1.J4_eq]; rfl⟩ d hd l
/-- The sort: the same values, in order. -/
theorem row_sorts (sw : SW (fun x y : api_RowV => decide (cmpI x.2.1 y.2.1 < 0))) (d : List api_RowV) (hd : d.length ≤ 4611686018427387904) :
    ∃ d', slices_SortFunc_api_Row_api_Row_table_UncoveredKeys_1 d = some (d', ()) ∧ d'.Perm d ∧ d'.Pairwise (fun x y => ((fun x y : api_RowV => decide (cmpI x.2.1 y.2.1 < 0))) y x = false) := by
  obtain ⟨d', e, p, s⟩ := row_pdq sw d hd (bitLen d.length)
  refine ⟨d', ?_, p, s⟩
  simp only [slices_SortFunc_api_Row_api_Row_table_UncoveredKeys_1, slices_SortFunc_api_Row_api_Row_table_UncoveredKeys_1.Se, math_bits_Len, math_bits_Len.Se]
  rw [wrapU (by omega) (by omega), Len64_val (by omega) (by omega)]
  simp only [bind_some', Int.toNat_natCast, e]
theorem sort_row (d : List api_RowV) (hd : d.length ≤ 4611686018427387904) : ∃ d', slices_SortFunc_api_Row_api_Row_table_UncoveredKeys_1 d = some (d', ()) ∧ d'.Perm d ∧ d'.Pairwise (fun x y => x.2.1 ≤ y.2.1) := by
  obtain ⟨d', e, p, s⟩ := row_sorts row_sw d hd
  exact ⟨d', e, p, s.imp (fun h => by simp only [cmpI_neg] at h; simpa using h)⟩
theorem rm40 {n : Nat} (h : n ≤ 1000000) : (decide (n * 40 ≤ room) && decide (0 < Ty.nc (.pair (.pair (.int .i64) (.pair (.int .i64) .unit)) (.pair (.int .i64) (.pair (.int .i64) (.pair (.int .i64) .unit)))))) = true := by
  rw [room_eq, decide_eq_true (by omega)]; rfl
/-- The rows that count. -/
def live (date : Int) (x : api_RowV) : Bool := inD x.1 date && decide (x.2.1 < x.2.2.1)
def sweep (hi : Int) : List api_RowV → Int → List api_TypeV → List api_TypeV
  | [], lo, out => if lo < hi then out ++ [(lo, hi, ())] else out
  | r :: l, lo, out => sweep hi l (max r.2.2.1 lo) (if lo < hi ∧ r.2.1 > lo then out ++ [(lo, min hi r.2.1, ())] else out)
theorem sweep_L1 (hi : Int) : ∀ (rest pre : List api_RowV) (lo : Int) (out : List api_TypeV), (pre ++ rest).length ≤ 1000 → out.length ≤ pre.length →
    table_UncoveredKeys.L1 lo hi out (pre ++ rest) ((pre ++ rest).length : Int) (pre.length : Int) = some (sweep hi rest lo out, ())
  | [], pre, lo, out, h, ho => by
    have h' : pre.length ≤ 1000 := by simpa using h
    rw [table_UncoveredKeys.L1_eq, table_UncoveredKeys.SL1, cd_f (by simp), rm16 (by omega), sweep]
    by_cases g : lo < hi
    · rw [cd_t g, if_pos g]; rfl
    · rw [cd_f g, if_neg g]
  | x :: rest, pre, lo, out, h, ho => by
    have h' := h
    rw [len_mid] at h'
    have ih := fun lo out => sweep_L1 hi rest (pre ++ [x]) lo out (by rw [← mid_shift]; exact h)
    rw [← mid_shift, len_snoc] at ih
    have j2 : ∀ b : Bool, table_UncoveredKeys.J2 lo hi out x (pre ++ x :: rest) ((pre ++ x :: rest).length : Int) (pre.length : Int) b = some (sweep hi rest (max x.2.2.1 lo) (cond b (out ++ [(lo, min hi x.2.1, ())]) out), ()) := by
      intro b
      rw [table_UncoveredKeys.J2_eq, table_UncoveredKeys.SJ2]
      simp only [cond_max, cond_min, wrap_succ (show pre.length < 9223372036854775807 by omega), rm16 (show out.length + 1 ≤ 1000000 by omega), cond_true]
      cases b with
      | true => exact ih _ _ (by simp; omega)
      | false => exact ih _ _ (by simp; omega)
    rw [table_UncoveredKeys.L1_eq, table_UncoveredKeys.SL1, cd_t (by rw [len_mid]; omega), cd_b (by omega) (by rw [len_mid]; omega)]
    simp only [Int.toNat_natCast, getD_mid, j2, sweep]
    by_cases g : lo < hi
    · rw [cd_t g]
      by_cases g2 : x.2.1 > lo
      · rw [decide_eq_true g2, if_pos ⟨g, g2⟩]; rfl
      · rw [decide_eq_false g2, if_neg (fun h => g2 h.2)]; rfl
    · rw [cd_f g, if_neg (fun h => g h.1)]; rfl
theorem uncov_L0 (date lo hi : Int) : ∀ (rest pre rows : List api_RowV), (pre ++ rest).length ≤ 1000 → rows.length ≤ pre.length →
    table_UncoveredKeys.L0 date lo hi rows (pre ++ rest) ((pre ++ rest).length : Int) (pre.length : Int) =
      Option.bind (slices_SortFunc_api_Row_api_Row_table_UncoveredKeys_1 (rows ++ rest.filter (live date))) fun x3 => table_UncoveredKeys.L1 lo hi [] x3.1 (x3.1.length : Int) 0
  | [], pre, rows, h, ho => by
    rw [table_UncoveredKeys.L0_eq, table_UncoveredKeys.SL0, cd_f (by simp)]
    simp
  | x :: rest, pre, rows, h, ho => by
    have h' := h
    rw [len_mid] at h'
    have ih := fun rows => uncov_L0 date lo hi rest (pre ++ [x]) rows (by rw [← mid_shift]; exact h)
    rw [← mid_shift, len_snoc] at ih
    rw [table_UncoveredKeys.L0_eq, table_UncoveredKeys.SL0, cd_t (by rw [len_mid]; omega), idx_mid]
    simp only [bind_some', contains_val, wrap_succ (show pre.length < 9223372036854775807 by omega), rm40 (show rows.length + 1 ≤ 1000000 by omega), cond_true]
    have i1 := ih rows (by simp; omega)
    have i2 := ih (rows ++ [x]) (by simp; omega)
    cases hi' : inD x.1 date with
    | false =>
      have hl : ¬ live date x = true := by simp [live, hi']
      rw [cond_false, i1, List.filter_cons_of_neg hl]
    | true =>
      by_cases g : x.2.1 < x.2.2.1
      · have hl : live date x = true := by simp [live, hi', g]
        rw [cond_true, cd_t g, i2, List.filter_cons_of_pos hl]
        simp
      · have hl : ¬ live date x = true := by simp [live, g]
        rw [cond_true, cd_f g, i1, List.filter_cons_of_neg hl]
theorem kcov_sweep {hi : Int} : ∀ (l : List api_RowV), l.Pairwise (fun x y => x.2.1 ≤ y.2.1) → (∀ x ∈ l, x.2.1 < x.2.2.1) → ∀ (lo : Int) (out : List api_TypeV), KNrm out → (∀ y ∈ out, y.2.1 < lo) →
    KNrm (sweep hi l lo out) ∧ ∀ t, kcov (sweep hi l lo out) t ↔ kcov out t ∨ (lo ≤ t ∧ t < hi ∧ ∀ r ∈ l, ¬ (r.2.1 ≤ t ∧ t < r.2.2.1))
  | [], _, _, lo, out, h1, h2 => by
    rw [sweep]
    by_cases g : lo < hi
    · rw [if_pos g]
      refine ⟨KNrm_snoc.2 ⟨h1, kprp_iff.2 g, h2⟩, fun t => ?_⟩
      rw [kcov_append, kcov_cons]
      simp [kinr, kcov_nil]
    · rw [if_neg g]
      refine ⟨h1, fun t => ⟨.inl, ?_⟩⟩
      rintro (h | ⟨h3, h4, _⟩)
      · exact h
      · omega
  | r :: l, hp, hl, lo, out, h1, h2 => by
    obtain ⟨p1, p2⟩ := List.pairwise_cons.1 hp
    have hr := hl r List.mem_cons_self
    rw [sweep]
    by_cases g : lo < hi ∧ r.2.1 > lo
    · rw [if_pos g]
      obtain ⟨i1, i2⟩ := kcov_sweep l p2 (fun x hx => hl x (List.mem_cons_of_mem _ hx)) (max r.2.2.1 lo) (out ++ [(lo, min hi r.2.1, ())]) (KNrm_snoc.2 ⟨h1, kprp_iff.2 (by simp only; omega), h2⟩) (fun y hy => by
        rcases List.mem_append.1 hy with h | h
        · have := h2 y h; omega
        · rw [List.mem_singleton] at h; subst h; simp only; omega)
      refine ⟨i1, fun t => ?_⟩
      rw [i2, kcov_append, kcov_cons]
      simp only [kcov_nil, or_false, kinr, List.forall_mem_cons]
      constructor
      · rintro ((h | ⟨a1, a2⟩) | ⟨a1, a2, a3⟩)
        · exact .inl h
        · refine .inr ⟨a1, by omega, by omega, fun y hy => ?_⟩
          have := p1 y hy
          omega
        · exact .inr ⟨by omega, a2, by omega, a3⟩
      · rintro (h | ⟨a1, a2, a3, a4⟩)
        · exact .inl (.inl h)
        · by_cases k : t < r.2.1
          · exact .inl (.inr ⟨a1, by omega⟩)
          · exact .inr ⟨by omega, a2, a4⟩
    · rw [if_neg g]
      obtain ⟨i1, i2⟩ := kcov_sweep l p2 (fun x hx => hl x (List.mem_cons_of_mem _ hx)) (max r.2.2.1 lo) out h1 (fun y hy => by have := h2 y hy; omega)
      refine ⟨i1, fun t => ?_⟩
      rw [i2]
      simp only [List.forall_mem_cons]
      constructor
      · rintro (h | ⟨a1, a2, a3⟩)
        · exact .inl h
        · exact .inr ⟨by omega, a2, by omega, a3⟩
      · rintro (h | ⟨a1, a2, a3, a4⟩)
        · exact .inl h
        · exact .inr ⟨by omega, a2, a4⟩
/-- What is left of a range. -/
def wout (lo hi : Int) (r : api_TypeV) : List api_TypeV :=
  if lo ≥ hi ∨ hi ≤ r.1 ∨ r.2.1 ≤ lo then [r] else (if r.1 < lo then [(r.1, lo, ())] else []) ++ (if hi < r.2.1 then [(hi, r.2.1, ())] else [])
theorem wout_len (lo hi : Int) (r : api_TypeV) : (wout lo hi r).length ≤ 2 := by
  unfold wout
  split
  · simp
  · split <;> split <;> simp
theorem without_L0 (lo hi : Int) : ∀ (rest pre out : List api_TypeV), (pre ++ rest).length ≤ 1000 → out.length ≤ 2 * pre.length →
    ref12_without.L0 (pre ++ rest) lo hi out (pre.length : Int) = some (out ++ rest.flatMap (wout lo hi), ())
  | [], pre, out, h, ho => by
    rw [ref12_without.L0_eq, ref12_without.SL0, cd_f (by simp)]
    simp
  | x :: rest, pre, out, h, ho => by
    have h' := h
    rw [len_mid] at h'
    have ih := fun out => without_L0 lo hi rest (pre ++ [x]) out (by rw [← mid_shift]; exact h)
    rw [← mid_shift, len_snoc] at ih
    have hw : wout lo hi x = if lo ≥ hi ∨ hi ≤ x.1 ∨ x.2.1 ≤ lo then [x] else (if x.1 < lo then [(x.1, lo, ())] else []) ++ (if hi < x.2.1 then [(hi, x.2.1, ())] else []) := rfl
    have j2 : ∀ o : List api_TypeV, o.length ≤ 2 * pre.length + 1 → ref12_without.J2 (pre ++ x :: rest) lo hi o (pre.length : Int) = some (o ++ ((if hi < x.2.1 then [(hi, x.2.1, ())] else []) ++ rest.flatMap (wout lo hi)), ()) := by
      intro o ho
      rw [ref12_without.J2_eq, ref12_without.SJ2, idx_mid]
      simp only [bind_some', wrap_succ (show pre.length < 9223372036854775807 by omega), rm16 (show o.length + 1 ≤ 1000000 by omega), cond_true]
      by_cases g : hi < x.2.1
      · rw [cd_t g, if_pos g, ih _ (by simp; omega)]; simp
      · rw [cd_f g, if_neg g, ih _ (by simp; omega)]; simp
    have j1 : ∀ b : Bool, ref12_without.J1 (pre ++ x :: rest) lo hi out (pre.length : Int) b = some (out ++ ((if b then [x] else (if x.1 < lo then [(x.1, lo, ())] else []) ++ (if hi < x.2.1 then [(hi, x.2.1, ())] else [])) ++ rest.flatMap (wout lo hi)), ()) := by
      intro b
      rw [ref12_without.J1_eq, ref12_without.SJ1, idx_mid]
      simp only [bind_some', wrap_succ (show pre.length < 9223372036854775807 by omega), rm16 (show out.length + 1 ≤ 1000000 by omega), cond_true]
      cases b with
      | true => rw [cond_true, ih _ (by simp; omega)]; simp
      | false =>
        rw [cond_false]
        by_cases g : x.1 < lo
        · rw [cd_t g, j2 _ (by simp; omega), if_pos g]; simp
        · rw [cd_f g, j2 _ (by omega), if_neg g]; simp
    rw [ref12_without.L0_eq, ref12_without.SL0, cd_t (by rw [len_mid]; omega), idx_mid]
    simp only [bind_some', List.flatMap_cons, j1, hw]
    by_cases g1 : lo ≥ hi
    · rw [cd_t g1, if_pos (show lo ≥ hi ∨ hi ≤ x.1 ∨ x.2.1 ≤ lo from .inl g1)]; rfl
    · rw [cd_f g1]
      by_cases g2 : hi ≤ x.1
      · rw [cd_t g2, if_pos (show lo ≥ hi ∨ hi ≤ x.1 ∨ x.2.1 ≤ lo from .inr (.inl g2))]; rfl
      · rw [cd_f g2]
        by_cases g3 : x.2.1 ≤ lo
        · rw [decide_eq_true g3, if_pos (show lo ≥ hi ∨ hi ≤ x.1 ∨ x.2.1 ≤ lo from .inr (.inr g3))]; rfl
        · rw [decide_eq_false g3, if_neg (show ¬ (lo ≥ hi ∨ hi ≤ x.1 ∨ x.2.1 ≤ lo) by omega)]; rfl
theorem without_val (l : List api_TypeV) (lo hi : Int) (h : l.length ≤ 1000) : ref12_without l lo hi = some (l.flatMap (wout lo hi), ()) := by
  simp only [ref12_without, ref12_without.Se]
  exact without_L0 lo hi l [] [] (by simpa using h) (by simp)
theorem wout_mem {lo hi : Int} {r y : api_TypeV} (hr : kprp r = true) (hy : y ∈ wout lo hi r) : kprp y = true ∧ r.1 ≤ y.1 ∧ y.2.1 ≤ r.2.1 := by
  have hr' := kprp_iff.1 hr
  unfold wout at hy
  split at hy
  · rw [List.mem_singleton] at hy
    subst hy
    exact ⟨hr, by omega, by omega⟩
  · rcases List.mem_append.1 hy with h | h
    · split at h
      · rw [List.mem_singleton] at h
        subst h
        exact ⟨kprp_iff.2 (by simp only; omega), by simp only; omega, by simp only; omega⟩
      · cases h
    · split at h
      · rw [List.mem_singleton] at h
        subst h
        exact ⟨kprp_iff.2 (by simp only; omega), by simp only; omega, by simp only; omega⟩
      · cases h
theorem wout_Nrm {lo hi : Int} {r : api_TypeV} (hr : kprp r = true) : KNrm (wout lo hi r) := by
  refine ⟨fun y hy => (wout_mem hr hy).1, ?_⟩
  unfold wout
  split
  · exact List.pairwise_singleton _ _
  · split
    · split
      · simp; omega
      · simp
    · split <;> simp
theorem wout_cov {lo hi : Int} {r : api_TypeV} (t : Int) : kcov (wout lo hi r) t ↔ kinr r t ∧ ¬ (lo ≤ t ∧ t < hi) := by
  unfold wout kinr
  split
  · rw [kcov_cons]
    simp only [kcov_nil, or_false, kinr]
    omega
  · rw [kcov_append]
    have e1 : kcov (if r.1 < lo then [(r.1, lo, ())] else []) t ↔ r.1 ≤ t ∧ t < lo := by
      split
      · rw [kcov_cons]; simp only [kcov_nil, or_false, kinr]
      · simp only [kcov_nil, false_iff]; omega
    have e2 : kcov (if hi < r.2.1 then [(hi, r.2.1, ())] else []) t ↔ hi ≤ t ∧ t < r.2.1 := by
      split
      · rw [kcov_cons]; simp only [kcov_nil, or_false, kinr]
      · simp only [kcov_nil, false_iff]; omega
    rw [e1, e2]
    omega
theorem without_spec {lo hi : Int} : ∀ {l : List api_TypeV}, KNrm l → KNrm (l.flatMap (wout lo hi)) ∧ (∀ t, kcov (l.flatMap (wout lo hi)) t ↔ kcov l t ∧ ¬ (lo ≤ t ∧ t < hi)) ∧ (l.flatMap (wout lo hi)).length ≤ l.length + 1
  | [], h => ⟨by simpa using h, fun t => by simp [kcov_nil], by simp⟩
  | x :: l, h => by
    obtain ⟨h1, h2, h3⟩ := KNrm_cons.1 h
    obtain ⟨i1, i2, i3⟩ := without_spec (lo := lo) (hi := hi) h3
    have hx := kprp_iff.1 h1
    refine ⟨?_, fun t => ?_, ?_⟩
    · rw [List.flatMap_cons, KNrm_append]
      refine ⟨wout_Nrm h1, i1, fun y hy z hz => ?_⟩
      obtain ⟨_, _, y2⟩ := wout_mem h1 hy
      rw [List.mem_flatMap] at hz
      obtain ⟨w, hw, hz⟩ := hz
      obtain ⟨_, z1, _⟩ := wout_mem (h3.1 w hw) hz
      have := h2 w hw
      omega
    · rw [List.flatMap_cons, kcov_append, wout_cov, i2, kcov_cons]
      constructor
      · rintro (⟨a, b⟩ | ⟨a, b⟩)
        · exact ⟨.inl a, b⟩
        · exact ⟨.inr a, b⟩
      · rintro ⟨a | a, b⟩
        · exact .inl ⟨a, b⟩
        · exact .inr ⟨a, b⟩
    · rw [List.flatMap_cons, List.length_append, List.length_cons]
      by_cases g : (wout lo hi x).length ≤ 1
      · omega
      · have hs : hi < x.2.1 := by
          unfold wout at g
          split at g
          · simp at g
          · rename_i hn
            rcases Classical.em (hi < x.2.1) with k | k
            · exact k
            · rw [if_neg k] at g
              split at g <;> simp at g
        have hid : ∀ (m : List api_TypeV), (∀ y ∈ m, x.2.1 < y.1) → m.flatMap (wout lo hi) = m := by
          intro m
          induction m with
          | nil => intro _; rfl
          | cons y m ihm =>
            intro hm
            have hy := hm y List.mem_cons_self
            rw [List.flatMap_cons, ihm (fun z hz => hm z (List.mem_cons_of_mem _ hz))]
            have : wout lo hi y = [y] := by unfold wout; rw [if_pos (.inr (.inl (by omega)))]
            rw [this]; rfl
        rw [hid l h2]
        have := wout_len lo hi x
        omega
theorem runcov_L0 (date : Int) (t : api_TableV) : ∀ (rest pre : List api_RowV) (out : List api_TypeV), t.2.2.2.1 = pre ++ rest → (pre ++ rest).length ≤ 500 → KNrm out → out.length ≤ pre.length + 1 →
    ∃ z, ref12_UncoveredKeys.L0 date t out (pre.length : Int) = some (z, ()) ∧ KNrm z ∧ z.length ≤ (pre ++ rest).length + 1 ∧ ∀ k, kcov z k ↔ kcov out k ∧ ∀ x ∈ rest, inD x.1 date = true → ¬ (x.2.1 ≤ k ∧ k < x.2.2.1)
  | [], pre, out, e, h, hn, ho => by
    rw [ref12_UncoveredKeys.L0_eq, ref12_UncoveredKeys.SL0, e, cd_f (by simp)]
    exact ⟨_, rfl, hn, by simpa using ho, fun k => by simp⟩
  | x :: rest, pre, out, e, h, hn, ho => by
    have h' := h
    rw [len_mid] at h'
    have ih := fun out => runcov_L0 date t rest (pre ++ [x]) out (by rw [e]; simp) (by rw [← mid_shift]; exact h)
    rw [len_snoc] at ih
    rw [ref12_UncoveredKeys.L0_eq, ref12_UncoveredKeys.SL0, e, cd_t (by rw [len_mid]; omega), idx_mid]
    simp only [bind_some', rcontains_val, wrap_succ (show pre.length < 9223372036854775807 by omega), without_val out _ _ (show out.length ≤ 1000 by omega)]
    cases hi : inD x.1 date with
    | false =>
      obtain ⟨z, z1, z2, z4, z3⟩ := ih out hn (by simp; omega)
      refine ⟨z, z1, z2, by rw [mid_shift]; exact z4, fun k => ?_⟩
      rw [z3, List.forall_mem_cons]
      simp [hi]
    | true =>
      obtain ⟨w1, w2, w3⟩ := without_spec (lo := x.2.1) (hi := x.2.2.1) hn
      obtain ⟨z, z1, z2, z4, z3⟩ := ih _ w1 (by simp only [List.length_append, List.length_cons, List.length_nil]; omega)
      refine ⟨z, z1, z2, by rw [mid_shift]; exact z4, fun k => ?_⟩
      rw [z3, w2, List.forall_mem_cons]
      simp only [hi, true_implies, and_assoc]
theorem uncov_val (t : api_TableV) (date lo hi : Int) (h : t.2.2.2.1.length ≤ 80) :
    ∃ z, table_UncoveredKeys t date lo hi = some (z, ()) ∧ ref12_UncoveredKeys t date lo hi = some (z, ()) ∧ KNrm z ∧ z.length ≤ 1000 ∧ ∀ k, kcov z k ↔ lo ≤ k ∧ k < hi ∧ ∀ x ∈ t.2.2.2.1, inD x.1 date = true → ¬ (x.2.1 ≤ k ∧ k < x.2.2.1) := by
  have hfl : (t.2.2.2.1.filter (live date)).length ≤ t.2.2.2.1.length := List.length_filter_le _ _
  obtain ⟨d, d1, d2, d3⟩ := sort_row (t.2.2.2.1.filter (live date)) (by omega)
  have hdl : d.length ≤ 80 := by rw [d2.length_eq]; omega
  have hlive : ∀ x, x ∈ d ↔ x ∈ t.2.2.2.1 ∧ live date x = true := fun x => by rw [d2.mem_iff, List.mem_filter]
  have hprop : ∀ x ∈ d, x.2.1 < x.2.2.1 := fun x hx => by
    have := ((hlive x).1 hx).2
    simp only [live, Bool.and_eq_true, decide_eq_true_eq] at this
    exact this.2
  obtain ⟨s1, s2⟩ := kcov_sweep (hi := hi) d d3 hprop lo [] KNrm_nil (by simp)
  have e1 : table_UncoveredKeys t date lo hi = some (sweep hi d lo [], ()) := by
    simp only [table_UncoveredKeys, table_UncoveredKeys.Se]
    have := uncov_L0 date lo hi t.2.2.2.1 [] [] (by simp; omega) (by simp)
    simp only [List.nil_append, List.length_nil] at this
    rw [show ((0 : Nat) : Int) = 0 from rfl] at this
    rw [this, d1]
    have := sweep_L1 hi d [] lo [] (by simp; omega) (by simp)
    simpa using this
  have hall : ∀ k, (∀ r ∈ d, ¬ (r.2.1 ≤ k ∧ k < r.2.2.1)) ↔ ∀ x ∈ t.2.2.2.1, inD x.1 date = true → ¬ (x.2.1 ≤ k ∧ k < x.2.2.1) := fun k => by
    constructor
    · intro g x hx hi' hk
      exact g x ((hlive x).2 ⟨hx, by simp only [live, hi', Bool.true_and, decide_eq_true_eq]; omega⟩) hk
    · intro g x hx
      obtain ⟨x1, x2⟩ := (hlive x).1 hx
      simp only [live, Bool.and_eq_true] at x2
      exact g x x1 x2.1
  have hc : ∀ k, kcov (sweep hi d lo []) k ↔ lo ≤ k ∧ k < hi ∧ ∀ x ∈ t.2.2.2.1, inD x.1 date = true → ¬ (x.2.1 ≤ k ∧ k < x.2.2.1) := fun k => by
    rw [s2, hall]
    simp [kcov_nil]
  have e2 : ∃ z, ref12_UncoveredKeys t date lo hi = some (z, ()) ∧ KNrm z ∧ z.length ≤ 1000 ∧ ∀ k, kcov z k ↔ lo ≤ k ∧ k < hi ∧ ∀ x ∈ t.2.2.2.1, inD x.1 date = true → ¬ (x.2.1 ≤ k ∧ k < x.2.2.1) := by
    simp only [ref12_UncoveredKeys, ref12_UncoveredKeys.Se]
    by_cases g : lo ≥ hi
    · rw [cd_t g]
      refine ⟨[], rfl, KNrm_nil, by simp, fun k => ⟨fun h => absurd h (kcov_nil k), fun h => ?_⟩⟩
      omega
    · rw [cd_f g]
      obtain ⟨z, z1, z2, z4, z3⟩ := runcov_L0 date t t.2.2.2.1 [] [(lo, hi, ())] rfl (by simp; omega) (KNrm_cons.2 ⟨kprp_iff.2 (by simp only; omega), by simp, KNrm_nil⟩) (by simp)
      refine ⟨z, by simpa using z1, z2, by simp at z4; omega, fun k => ?_⟩
      rw [z3, kcov_cons]
      simp [kcov_nil, kinr, and_assoc]
  obtain ⟨z, z1, z2, z4, z3⟩ := e2
  have : sweep hi d lo [] = z := KNrm_unique s1 z2 (fun k => by rw [hc, z3])
  exact ⟨z, by rw [e1, this], z1, z2, z4, z3⟩
theorem tableUncovered_true (aw : law12_awake = some (true, ())) (t : api_TableV) (date lo hi : Int) : law12_TableUncovered t date lo hi = some (true, ()) := by
  simp only [law12_TableUncovered, law12_TableUncovered.Se, few_val, aw, bind_some']
  by_cases h : (t.2.2.2.1.length : Int) ≤ 80
  · rw [decide_eq_true h]
    obtain ⟨z, z1, z2, z3, z4, z5⟩ := uncov_val t date lo hi (by omega)
    simp only [z1, bind_some', Bool.not_true, cond_false]
    have step : ∀ (rest pre : List api_TypeV), z = pre ++ rest → law12_TableUncovered.L0 date lo hi t z (pre.length : Int) = some (true, ()) := by
      intro rest
      induction rest with
      | nil =>
        intro pre e
        rw [law12_TableUncovered.L0_eq, law12_TableUncovered.SL0, e, cd_f (by simp), z2]
        simp only [bind_some', ← e]
        rw [sameK (show z = z from rfl) (by omega)]
        simp only [bind_some', cond_true, aw]
      | cons x rest ih =>
        intro pre e
        have ih := ih (pre ++ [x]) (by rw [e]; simp)
        rw [len_snoc] at ih
        have hl : pre.length + (rest.length + 1) ≤ 1000 := by rw [e, len_mid] at z4; exact z4
        have hx : x ∈ z := by rw [e]; simp
        have px := kprp_iff.1 (z3.1 x hx)
        have c1 := (z5 x.1).1 ⟨x, hx, by simp only [kinr]; omega⟩
        have c2 := (z5 (x.2.1 - 1)).1 ⟨x, hx, by simp only [kinr]; omega⟩
        have hm : fst1 (mat · date x.1) 0 t.2.2.2.1 = none := (fst1_shift _ _ _).2 (fun y hy => by
          simp only [mat]
          cases hi' : inD y.1 date with
          | false => rfl
          | true =>
            have := c1.2.2 y hy hi'
            simpa using this)
        have g0 : z.getD pre.length (0, 0, ()) = x := by rw [e]; exact getD_mid ..
        rw [law12_TableUncovered.L0_eq, law12_TableUncovered.SL0, cd_t (by rw [e, len_mid]; omega)]
        have cb : (decide (0 ≤ (pre.length : Int)) && decide ((pre.length : Int) < (z.length : Int))) = true := by
          rw [decide_eq_true (by omega), decide_eq_true (by rw [e, len_mid]; omega)]; rfl
        simp only [cb, cond_true, Int.toNat_natCast, g0, lookup_val t date x.1 (by omega), hm, bind_some', fres, cond_false, wrap_succ (show pre.length < 9223372036854775807 by omega)]
        rw [cd_f (by omega), cd_f (by omega), cd_f (by omega)]
        exact ih
    exact step z [] rfl
  · rw [decide_eq_false h]; rfl
end Go.Proofs.Ytgnigfnonoicmaa
